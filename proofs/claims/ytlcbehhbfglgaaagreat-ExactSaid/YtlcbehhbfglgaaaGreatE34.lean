/- PROVED HERE: laws that the statement rests on (parts Zl, Zm, Zn, Xj). Conditions: none. -/
import Derived.RangeFuncRecord
import Derived.RangeFuncSeq
import Derived.Test.YtlcbehhbfglgaaaGreatE00
import Derived.Test.YtlcbehhbfglgaaaGreatE28
import Derived.Test.YtlcbehhbfglgaaaGreatE33
set_option linter.all false
namespace Go.Sim.Z
open Go Go.Proofs Go.RowKit Go.Maps Go.Sort
theorem keysI_calls (m:Nat) (w:World) :
  Calls Tryz.prog 35 #[.map (some m)] w fun e w'=>e=.returned (.func (.func 61) #[] #[.pointer (some ⟨w.heap.size,0,none⟩)])∧w'=w.alloc (.cells #[.map (some m)] 62):=by
 go_enter Tryz.func35,Tryz.ntmps35
 go_wp2
 go_ret
 exact ⟨rfl,rfl⟩
theorem collectI_calls {vm base:Nat} {w:World} (hV:VMap w vm base) :
  Calls Tryz.prog 59 #[.func (.func 61) #[] #[.pointer (some ⟨w.heap.size,0,none⟩)]] (w.alloc (.cells #[.map (some vm)] 62)) fun e w'=>∃ g cap,e=.returned (.slice (some ⟨g,0,none⟩) 1 cap)∧w.heap.size≤g∧(∃ cur,w'.heap[g]?=some (.cells cur 3)∧cur.size=cap∧1≤cap∧cur[0]?=some (.int .i64 7))∧Tch w.heap.size M0 w w':=by
 obtain ⟨nn,hown⟩:=hV
 have hmax:maxLen=9223372036854775807:=by decide
 have e61:∀ args w,(callFunc 61 args).run Tryz.prog w=.ok (.enter 61 args) w:=enters_of Tryz.func61 (by kernel_rfl) rfl
 have hlt:=hown.lt
 have hseq:=AnyZI.keys_gives Tryz.keysI Fence.wide 1 trivial rfl (by omega) w.heap.size vm nn (.map [(.int .i64 7,.held (.map (some base)))]) (R:=Rv) (w.alloc (.cells #[.map (some vm)] 62)) (by simp) ((cell_of (heap_new _) 0).trans rfl) (by
  obtain ⟨es,clock,hb,rest⟩:=hown
  exact ⟨es,clock,(heap_old _ hlt).trans hb,rest⟩)
 have:=AnyZI.collect_in Tryz.collectI Fence.wide 3 trivial trivial rfl (by omega) 61 #[.pointer (some ⟨w.heap.size,0,none⟩)] trivial e61 _ 1 (by omega) (by omega) _ hseq
 refine (callsIn_wide.1 this).mono ?_
 rintro e w' ⟨v,ss,rfl,hp,hown',_,hB⟩
 have hs:ss=[7]:=List.perm_singleton.1 hp
 subst hs
 have e26:Tryz.collectI_ren.t 26=3:=by kernel_rfl
 rw [e26,size_alloc] at hown'
 rw [size_alloc] at hB
 have t0:Tch w.heap.size M0 w w':=(Tch.refl.alloc (Nat.le_refl _) _).trans ((Tch.of_below hB).mono (Nat.le_succ _) fun _ _ h=>h)
 rcases hown'.2 with ⟨rfl,h⟩|⟨g,cap,cur,rfl,hb,hg,h1,h2,h3,h4⟩
 ·cases h
 ·refine ⟨g,cap,rfl,by omega,⟨cur,hg,by simpa using h3,h1,?_⟩,t0⟩
  have:(cur.toList.take 1)[0]?=some (Value.int .i64 7):=by
   have h4':cur.toList.take 1=[Value.int .i64 7]:=h4
   rw [h4'];rfl
  rw [List.getElem?_take_of_lt (by omega)] at this
  simpa using this
theorem miss_calls {w:World} {mb m:Nat} (h:w.cell? ⟨mb,0,none⟩=some (.int .i64 m)) (v:Int):Calls Tryz.prog 68 #[.int .i64 v,.pointer (some ⟨mb,0,none⟩)] w fun e w'=>e=.returned (.bool (bits .and .i64 v m != m))∧w'=w:=by
 go_enter Tryz.func68,Tryz.ntmps68
 go_wp2
 go_ret
 exact ⟨rfl,rfl⟩
theorem min_one {w:World} {g cap:Nat} {f:Value} (h:w.cell? ⟨g,0,none⟩=some (.int .i64 7)):Calls Tryz.prog 100 #[.slice (some ⟨g,0,none⟩) 1 cap,f] w fun e w'=>e=.returned (.int .i64 7)∧w'=w:=by
 go_enter Tryz.func100,Tryz.ntmps100
 go_wp2
 refine wp_loop_rounds 1 ?_
 rw [rounds_succ]
 go_wp2
 go_ret
 exact ⟨rfl,rfl⟩
theorem fewest_one {w:World} {g cap xb:Nat} (h:w.cell? ⟨g,0,none⟩=some (.int .i64 7)):Calls Tryz.prog 69 #[.slice (some ⟨g,0,none⟩) 1 cap,.func (.func 70) #[] #[.pointer (some ⟨xb,0,none⟩)]] w fun e w'=>e=.returned (.int .i64 7)∧Tch w.heap.size M0 w w':=by
 have hg:=cell_lt h
 have hm:=min_one (w:=w.alloc (.cells #[.func (.func 70) #[] #[.pointer (some ⟨xb,0,none⟩)]] 54)) (cap:=cap) (f:=.func (.func 101) #[] #[.pointer (some ⟨w.heap.size,0,none⟩)]) ((World.cell?_of_block (heap_old _ hg)).trans h)
 go_enter Tryz.func69,Tryz.ntmps69
 go_wp2_with (go_at_call 100;refine hm.mono ?_;rintro e w1 ⟨rfl,rfl⟩)
 go_ret
 exact ⟨rfl,Tch.refl.alloc (Nat.le_refl _) _⟩
theorem del_one {w:World} {g cap mb m:Nat} {cur:Array Value} (hg:w.heap[g]?=some (.cells cur 3)) (hc:cur.size=cap) (h1:1≤cap) (h7:cur[0]?=some (.int .i64 7)) (hm:w.cell? ⟨mb,0,none⟩=some (.int .i64 m)) (hne:mb≠g) (hm8:m<8) :
  Calls Tryz.prog 67 #[.slice (some ⟨g,0,none⟩) 1 cap,.func (.func 68) #[] #[.pointer (some ⟨mb,0,none⟩)]] w fun e w'=>e=.returned (.slice (some ⟨g,0,none⟩) 1 cap)∧∃ q,w'=w.drewN q:=by
 have hb7:(fun v:Int=>(bits .and .i64 v m != (m:Int))) 7=false:=by
  match m,hm8 with
  | 0,_=>decide
  | 1,_=>decide
  | 2,_=>decide
  | 3,_=>decide
  | 4,_=>decide
  | 5,_=>decide
  | 6,_=>decide
  | 7,_=>decide
  | m+8,h=>exact absurd h (by omega)
 have hmb:=cell_lt hm
 have hH:Sort.Holds (Value.int .i64) w g 0 #[(7:Int)]:=fun j hj=>by
  have:j=0:=by have:j<1:=hj;omega
  subst this
  exact ⟨by rw [Nat.zero_add,cell_of hg,h7];rfl,by rw [Nat.zero_add];exact frozen_of hg 0⟩
 have hglt:=lt_of hg
 have:=Tryz.slices_DeleteFunc (Value.int .i64) (fun _=>rfl) (fun v:Int=>(bits .and .i64 v m != (m:Int))) 68 #[.pointer (some ⟨mb,0,none⟩)] (enters_of Tryz.func68 (by kernel_rfl) rfl) 0 (fun w=>Tryz.zeroValue3 w) g 0 cap #[(7:Int)] w
  (fun W v hW=>(miss_calls ((hW.cell (p:=⟨mb,0,none⟩) hmb).trans hm) v).mono fun e w' ⟨h1,h2⟩=>⟨h1,0,h2⟩)
  (fun n os dk v _=>(miss_calls (by
   have hs:mb<(putRow (Value.int .i64) (Sort.ahead w n) g 0 dk).heap.size:=by rw [Sort.size_putRow];exact hmb
   refine (World.cell?_of_block (w:=putRow (Value.int .i64) (Sort.ahead w n) g 0 dk) ?_).trans ((cell?_putRow_other _ _ _ _ _ _ (.inl hne)).trans hm)
   show (_++os)[mb]?=_
   exact Array.getElem?_append_left hs) v).mono fun e w' ⟨h1,h2⟩=>⟨h1,0,h2⟩)
  hH (by decide) h1
 refine this.mono ?_
 rintro e w' ⟨rfl,q,rfl⟩
 have e1:(List.filter (fun x=>!(fun v:Int=>(bits .and .i64 v m != (m:Int))) x) #[(7:Int)].toList)=[7]:=by
  have:(!(bits .and .i64 7 m != (m:Int)))=true:=by
   have h:(bits .and .i64 7 m != (m:Int))=false:=hb7
   rw [h];rfl
  simp only [List.filter_cons,this,if_true,List.filter_nil]
 rw [e1]
 refine ⟨rfl,q,?_⟩
 show putRow (Value.int .i64) (Sort.ahead w q) g 0 #[(7:Int)]=_
 exact putRow_self _ _ _ _ _ hH
set_option maxRecDepth 100000 in
set_option maxHeartbeats 2000000 in
theorem best_calls {w:World} {x:Nat} {c:CfgD} {seed nf:Int} {h:Value} {vm base m:Nat} (q:CubeAt w x c seed h nf vm base) (hm8:m<8) :
  Calls Tryz.prog 41 #[.pointer (some ⟨x,0,none⟩),.int .i64 m] w fun e w'=>e=.returned (.int .i64 7)∧Tch w.heap.size M0 w w':=by
 obtain ⟨W0,hW0⟩:∃ W0,(w.alloc (.cells #[.pointer (some ⟨x,0,none⟩)] 25)).alloc (.cells #[.int .i64 m] 3)=W0:=⟨_,rfl⟩
 have t0:Tch w.heap.size M0 w W0:=by
  rw [← hW0];exact (Tch.refl.alloc (Nat.le_refl _) _).alloc (by simp) _
 have hs0:W0.heap.size=w.heap.size+2:=by rw [← hW0];simp
 have e0:W0.heap[w.heap.size]?=some (.cells #[.pointer (some ⟨x,0,none⟩)] 25):=by rw [← hW0,heap_old _ (by simp)];exact heap_new _
 have e1:W0.heap[w.heap.size+1]?=some (.cells #[.int .i64 m] 3):=by
  rw [← hW0]
  have:=heap_new (w:=w.alloc (.cells #[.pointer (some ⟨x,0,none⟩)] 25)) (.cells #[.int .i64 m] 3)
  rwa [size_alloc] at this
 have q0:=q.kept (w':=W0) (t0.heap x q.blk.lt fun h=>h) (t0.heap vm q.vs.lt fun h=>h)
 have c7:=q0.cells.2.2.2.2.2.2.2
 have k0:=(cell_of e0 0).trans rfl
 have hk:=keysI_calls vm W0
 have hcol:=collectI_calls q0.vs
 generalize hn0:w.heap.size=n0 at *
 rw [hs0] at hk hcol
 go_enter Tryz.func41,Tryz.ntmps41
 go_wp2_with (first
  | (go_at_call 35;refine hk.mono ?_;rintro e w1 ⟨rfl,rfl⟩)
  | (go_at_call 59;refine hcol.mono ?_;rintro e w2 ⟨g,cap,rfl,hg0,⟨cur,hg,hc1,hc2,hc3⟩,t2⟩
     have m2:w2.cell? ⟨n0+1,0,none⟩=some (.int .i64 m):=(t2.cell (show n0+1<n0+2 by omega) fun h=>h).trans ((cell_of e1 0).trans rfl)
     have hdel:=del_one hg hc1 hc2 hc3 m2 (by omega) hm8)
  | (go_at_call 67;refine hdel.mono ?_;rintro e w3 ⟨rfl,qn,rfl⟩
     have f3:=fewest_one (w:=w2.drewN qn) (cap:=cap) (xb:=n0) ((cell_of (w:=w2.drewN qn) hg 0).trans hc3))
  | (go_at_call 69;refine f3.mono ?_;rintro e w4 ⟨rfl,t4⟩))
 go_ret
 have t4':Tch w2.heap.size M0 w2 w4:=⟨t4.size,t4.heap,t4.tape,t4.os,t4.output⟩
 rw [← hs0] at t2
 have t02:Tch W0.heap.size M0 W0 w4:=t2.then t4' t2.size fun _ _ h=>h
 rw [← hn0] at t0 ⊢
 exact ⟨rfl,t0.then t02 t0.size fun _ _ h=>h⟩
theorem check_calls {w:World} {x:Nat} {c:CfgD} {seed nf:Int} {h:Value} {vm base m:Nat} (q:CubeAt w x c seed h nf vm base) (hm8:m<8) :
  Calls Tryz.prog 39 #[.pointer (some ⟨x,0,none⟩),.int .i64 m,.slice none 0 0] w fun e w'=>e=.returned .nilIface∧w'=w:=by
 have hb:=base_calls q.cells.1
 have h1:¬ (m:Int)<0:=by omega
 have h2:¬ (7:Int)<m:=by omega
 go_enter Tryz.func39,Tryz.ntmps39
 go_wp2_with (go_at_call 23;refine hb.mono ?_;rintro e w1 ⟨rfl,rfl⟩)
 refine wp_loop_rounds 1 ?_
 rw [rounds_succ]
 go_wp2
 go_ret
 exact ⟨rfl,rfl⟩
theorem cloneF_calls (w:World):Calls Tryz.prog 37 #[.slice none 0 0] w fun e w'=>e=.returned (.slice none 0 0)∧w'=w:=by
 have qT:∀ (w:World) (a:Option Addr) (n c n' c':Nat),(binOp .eql 55 (.slice a n c) (.slice none n' c')).run Tryz.prog w=.ok (.bool a.isNone) w:=fun w a n c n' c'=>Lib.run_eql_slice_nil w _ _ a n c n' c' Tryz.underlying55
 go_enter Tryz.func37,Tryz.ntmps37
 go_wp2
 go_ret
 exact ⟨rfl,rfl⟩
end Go.Sim.Z
namespace Go.Sim.Z
open Go Go.Proofs Go.RowKit Go.Maps
theorem index71 (w:World) (f:Value):Calls Tryz.prog 71 #[.slice none 0 0,f] w fun e w'=>e=.returned (.int .i64 (-1))∧w'=w:=by
 go_enter Tryz.func71,Tryz.ntmps71
 go_wp2
 refine wp_loop_rounds 1 ?_
 rw [rounds_succ]
 go_wp2
 go_ret
 exact ⟨rfl,rfl⟩
theorem contains43 (w:World) (f:Value):Calls Tryz.prog 43 #[.slice none 0 0,f] w fun e w'=>e=.returned (.bool false)∧w'=w:=by
 have h:=index71 w f
 go_enter Tryz.func43,Tryz.ntmps43
 go_wp2_with (go_at_call 71;refine h.mono ?_;rintro e w1 ⟨rfl,rfl⟩)
 go_ret
 exact ⟨rfl,rfl⟩
theorem pass42 {w:World} {fb:Nat} (h:w.cell? ⟨fb,0,none⟩=some (.slice none 0 0)) {x:List Int} (hx:x.length=5):Calls Tryz.prog 42 #[.agg (ai .i64 x),.pointer (some ⟨fb,0,none⟩)] w fun e w'=>e=.returned (.bool true)∧Tch w.heap.size M0 w w':=by
 obtain ⟨x0,x1,x2,x3,x4,rfl⟩:=five_of hx
 simp only [ai,List.map_cons,List.map_nil]
 have hl:=cell_lt h
 have h1:(w.alloc (.cells #[.int .i64 x0,.int .i64 x1,.int .i64 x2,.int .i64 x3,.int .i64 x4] 76)).cell? ⟨fb,0,none⟩=some (.slice none 0 0):=(World.cell?_of_block (heap_old _ hl)).trans h
 have hc:=fun w f=>contains43 w f
 go_enter Tryz.func42,Tryz.ntmps42
 go_wp2_with (go_at_call 43;refine (hc _ _).mono ?_;rintro e w1 ⟨rfl,rfl⟩)
 go_ret
 exact ⟨rfl,Tch.refl.alloc (Nat.le_refl _) _⟩
section
variable {fr:Bool} {w:World} {b r cap:Nat} {rs:List Int}
theorem regNumbers {bits:Int} (h:RegAt fr w b r cap bits rs) (hn:rs.length≤1000) (h0:0<rs.length) (hr:∀ x∈rs,0≤x∧x≤255) :
  Calls Tryz.prog 159 #[.pointer (some ⟨b,0,none⟩)] w fun e w'=>∃ g c',e=.returned (.slice (some ⟨g,0,none⟩) rs.length c')∧w.heap.size≤g∧Row false w' g 45 .u64 rs c'∧Tch w.heap.size M0 w w':=by
 have c1:=(h.hd.cell 1).trans rfl
 have hcl:=numbers8 h.row hn h0 hr
 go_enter Tryz.func159,Tryz.ntmps159
 go_wp2_with (go_at_call 162;refine hcl.mono ?_;rintro e w' ⟨g,c',rfl,hg,hrow,ht⟩)
 go_ret
 exact ⟨g,c',rfl,hg,hrow,ht⟩
theorem histNumbers {ba:Option Addr} {nb cb:Nat} (h:HistAt fr w b r cap ba nb cb rs) (hn:rs.length≤1000) (h0:0<rs.length) (hr:∀ x∈rs,0≤x∧x≤9223372036854775807) :
  Calls Tryz.prog 166 #[.pointer (some ⟨b,0,none⟩)] w fun e w'=>∃ g c',e=.returned (.slice (some ⟨g,0,none⟩) rs.length c')∧w.heap.size≤g∧Row false w' g 45 .u64 rs c'∧Tch w.heap.size M0 w w':=by
 have c1:=(h.hd.cell 1).trans rfl
 have hcl:=numbers3 h.row hn h0 hr
 go_enter Tryz.func166,Tryz.ntmps166
 go_wp2_with (go_at_call 168;refine hcl.mono ?_;rintro e w' ⟨g,c',rfl,hg,hrow,ht⟩)
 go_ret
 exact ⟨g,c',rfl,hg,hrow,ht⟩
end
def SlN (base:Nat) (w:World) (v:Value) (t:TypeId) (k:IntKind) (xs:List Int):Prop:=∃ g cap,v=.slice (some ⟨g,0,none⟩) xs.length cap∧base≤g∧Row false w g t k xs cap
theorem SlN.tch {base:Nat} {w w':World} {v:Value} {t:TypeId} {k:IntKind} {xs:List Int} (h:SlN base w v t k xs) (q:Tch w.heap.size M0 w w'):SlN base w' v t k xs:=by
 obtain ⟨g,cap,h1,h2,h3⟩:=h
 exact ⟨g,cap,h1,h2,h3.tch q h3.lt fun h=>h⟩
theorem SlI.mono {fr:Bool} {w:World} {base base':Nat} {v:Value} {t:TypeId} {k:IntKind} {xs:List Int} (h:SlI fr w base v t k xs) (hb:base'≤base):SlI fr w base' v t k xs:=by
 rcases h with h|⟨g,cap,h1,h2,h3⟩
 ·exact .inl h
 ·exact .inr ⟨g,cap,h1,by omega,h3⟩
theorem SlI.tch {w w':World} {base:Nat} {v:Value} {t:TypeId} {k:IntKind} {xs:List Int} (h:SlI false w base v t k xs) (q:Tch w.heap.size M0 w w'):SlI false w' base v t k xs:=by
 rcases h with h|⟨g,cap,h1,h2,h3⟩
 ·exact .inl h
 ·exact .inr ⟨g,cap,h1,h2,h3.tch q h3.lt fun h=>h⟩
structure CellD (base:Nat) (w:World) (kv rv hv lv:Value) (g:List Int) (B:Bun):Prop where
 k:SlI false w base kv 3 .i64 g
 r:SlN base w rv 3 .i64 B.r
 h:SlN base w hv 3 .i64 B.h
 l:SlN base w lv 45 .u64 B.l
theorem CellD.tch {base:Nat} {w w':World} {kv rv hv lv:Value} {g:List Int} {B:Bun} (h:CellD base w kv rv hv lv g B) (q:Tch w.heap.size M0 w w'):CellD base w' kv rv hv lv g B:=⟨h.k.tch q,h.r.tch q,h.h.tch q,h.l.tch q⟩
theorem dag_none {P:Program} {ops:Array Oper} {Q:Exit→Act→World→Prop} {i:Nat} {o:Oper} {a:Act} {w w':World} {K:Act→World→Prop} (ho:ops[i]?=some o) (hg:o.guard=none∧o.dst=none) (hr:(execOp a.eval o).run P w=.ok .skip w') (h:K a w'):wpOp P ops Q i K a w:=by
 unfold wpOp
 simp only [ho,Region.wanted,hg.1,if_true]
 left
 unfold Oper.wp
 rw [hr]
 show K (a.put o.dst undef) w'
 rw [hg.2]
 exact h
noncomputable def b38:Code:=Tryz.f38.body.getD .skip
noncomputable def lp38:Code:=lC (bC (sC (sC (sC b38))))
noncomputable def in38:Code:=bC (fC (sC (sC lp38)))
noncomputable def r38_8:Code:=fC (sC (sC in38))
def cellF (N:Nat) (p:BP) (B:Bun) (key:List Int) (m:Nat):Nat→Value→World→Prop
 | 0,v,_=>v=.agg (ai .i64 key)
 | 1,v,_=>v=.int .i64 m
 | 2,v,w=>SlI false w N v 3 .i64 (grpN m key 5)
 | 3,v,_=>v=pt p.b
 | 4,v,_=>v=pt p.b
 | 5,v,_=>v=pt p.b
 | 6,v,_=>v=.int .i64 B.n
 | 7,v,_=>v=pt p.b
 | 8,v,_=>v=pt p.b
 | 9,v,_=>v=pt p.b 1
 | 10,v,_=>v=pt p.b 1
 | 11,v,_=>v=.iface 120 (pt p.rb)
 | 12,v,w=>SlN N w v 45 .u64 B.r
 | 13,v,w=>SlN N w v 3 .i64 B.r
 | 14,v,_=>v=pt p.b
 | 15,v,_=>v=pt p.b
 | 16,v,_=>v=pt p.b 1
 | 17,v,_=>v=pt p.b 2
 | 18,v,_=>v=.iface 123 (pt p.hb)
 | 19,v,w=>SlN N w v 45 .u64 B.h
 | 20,v,w=>SlN N w v 3 .i64 B.h
 | 21,v,_=>v=pt p.b
 | 22,v,_=>v=pt p.b
 | 23,v,_=>v=pt p.b 1
 | 24,v,_=>v=pt p.b 3
 | 25,v,_=>v=.iface 126 (pt p.lb)
 | 26,v,w=>SlN N w v 45 .u64 B.l
 | 27,v,w=>∃ kv rv hv lv,v=.agg #[kv,.int .i64 B.n,rv,hv,lv]∧CellD N w kv rv hv lv (grpN m key 5) B
 | _,v,w=>∃ cb,v=pt cb∧N≤cb∧w.heap[cb]?=some (.cells #[.slice none 0 0,.int .i64 0,.slice none 0 0,.slice none 0 0,.slice none 0 0] 39)
theorem cellF_stable {N:Nat} {p:BP} {B:Bun} {key:List Int} {m:Nat} (i:Nat) (v:Value) (w w':World) (h:cellF N p B key m i v w) (t:Tch w.heap.size M0 w w'):cellF N p B key m i v w':=by
 match i,h with
 | 2,h=>exact SlI.tch h t
 | 12,h=>exact SlN.tch h t
 | 13,h=>exact SlN.tch h t
 | 19,h=>exact SlN.tch h t
 | 20,h=>exact SlN.tch h t
 | 26,h=>exact SlN.tch h t
 | 27,⟨kv,rv,hv,lv,h1,h2⟩=>exact ⟨kv,rv,hv,lv,h1,h2.tch t⟩
 | 0,h|1,h|3,h|4,h|5,h|6,h|7,h|8,h|9,h|10,h|11,h|14,h|15,h|16,h|17,h|18,h|21,h|22,h|23,h|24,h|25,h=>exact h
 | i+28,⟨cb,h1,h2,h3⟩=>exact ⟨cb,h1,h2,(t.heap cb (lt_of h3) fun h=>h).trans h3⟩
section
variable {w:World} {f:Nat→Value} {mb kb:Nat} {p:BP} {B:Bun} {c:CfgD} {key:List Int} {m:Nat} {d:Deferred}
set_option maxRecDepth 100000 in
set_option maxHeartbeats 8000000 in
theorem r38_8_wp {T0:Array Value} (hB:BunAt false w c p B) (hok:BunOk c B) (hc:CfgOk c) (hpos:∀ x∈B.h,0≤x) (hK:key.length=5) (hkb:w.heap[kb]?=some (.cells (ai .i64 key) 76)) (hm:w.cell? ⟨mb,0,none⟩=some (.int .i64 m))
  (hT:T0.size=75) (t2:T0[2]?=some (pt mb)) (t8:T0[8]?=some (pt kb)) (t9:T0[9]?=some (pt p.b)) :
  r38_8.wp Tryz.prog (fun e a w'=>e=.normal∧a.defers=[d]∧a.tmps.size=75∧(∀ s,s<42→s≠10→a.tmps[s]?=T0[s]?)∧∃ cb kv rv hv lv,a.tmps[10]?=some (pt cb)∧w.heap.size≤cb∧w'.heap[cb]?=some (.cells #[kv,.int .i64 B.n,rv,hv,lv] 39)∧CellD w.heap.size w' kv rv hv lv (grpN m key 5) B∧Tch w.heap.size M0 w w') ⟨T0,[d]⟩ w:=by
 have hrl:B.r.length≤64∧0<B.r.length:=by
  have h1:=hc.b1
  have h2:=hc.b2
  rw [hok.r]
  have:c.bits=4∨c.bits=5∨c.bits=6:=by omega
  rcases this with e|e|e<;>rw [e]<;>decide
 have hhl:B.h.length≤9∧0<B.h.length:=by rw [hok.h];have:=hc.nb;omega
 have hll:B.l.length≤8:=by have:=hok.lK;have:=hc.k2;omega
 have hBt:∀ w1,Tch w.heap.size M0 w w1→BunAt false w1 c p B:=fun w1 t=>hB.kept fun x hx=>t.heap x (hB.lt x hx) fun h=>h
 obtain ⟨y0,y1,y2,y3,y4,hy⟩:=five_of hK
 have hkt:∀ i v,(ai .i64 key)[i]?=some v→∀ w1,Tch w.heap.size M0 w w1→w1.cell? ⟨kb,i,none⟩=some v:=fun i v h w1 t=>(cell_of ((t.heap kb (lt_of hkb) fun h=>h).trans hkb) i).trans h
 have hk0:=hkt 0 (.int .i64 y0) (by rw [hy];rfl)
 have hk1:=hkt 1 (.int .i64 y1) (by rw [hy];rfl)
 have hk2:=hkt 2 (.int .i64 y2) (by rw [hy];rfl)
 have hk3:=hkt 3 (.int .i64 y3) (by rw [hy];rfl)
 have hk4:=hkt 4 (.int .i64 y4) (by rw [hy];rfl)
 have hkey:ai .i64 key=#[.int .i64 y0,.int .i64 y1,.int .i64 y2,.int .i64 y3,.int .i64 y4]:=by rw [hy];rfl
 have hmk:∀ w1,Tch w.heap.size M0 w w1→w1.cell? ⟨mb,0,none⟩=some (.int .i64 m):=fun w1 t=>(t.cell (cell_lt hm) fun h=>h).trans hm
 have hgrp:=group_calls key hK m
 have hc0:=fun w1 t=>(hBt w1 t).c0
 have hc1:=fun w1 t=>(hBt w1 t).c1
 have hc2:=fun w1 t=>(hBt w1 t).c2
 have hc3:=fun w1 t=>(hBt w1 t).c3
 have hn1:=fun w1 t=>regNumbers (hBt w1 t).reg (by omega) hrl.2 hok.r8
 have hn2:=fun w1 t=>histNumbers (hBt w1 t).hist (by omega) hhl.2 fun x hx=>⟨hpos x hx,(hok.h64 x hx).2⟩
 have hi1:=fun {w1 g cap} (h:Row false w1 g 45 .u64 B.r cap)=>ints45 h (by omega) hrl.2 fun x hx=>by have:=hok.r8 x hx;omega
 have hi2:=fun {w1 g cap} (h:Row false w1 g 45 .u64 B.h cap)=>ints45 h (by omega) hhl.2 fun x hx=>⟨hpos x hx,(hok.h64 x hx).2⟩
 have hn3:∀ w1,Tch w.heap.size M0 w w1→Calls Tryz.prog 173 #[.pointer (some ⟨p.lb,0,none⟩)] w1 fun e w'=>∃ g c',e=.returned (.slice (some ⟨g,0,none⟩) B.l.length c')∧w1.heap.size≤g∧Row false w' g 45 .u64 B.l c'∧Tch w1.heap.size M0 w1 w':=fun w1 t=>by
  have hl:=(hBt w1 t).least
  cases hp:p.lr with
  | none=>
   rw [hp] at hl
   exact absurd hl.row hok.lne
  | some q=>
   obtain ⟨r,cc⟩:=q
   rw [hp] at hl
   exact leastNumbers hl (by omega)
 simp only [r38_8,in38,lp38,b38,fC,sC,bC,lC,Tryz.f38,Option.getD_some]
 refine region_dag 29 (fun i=>if i=28 then 10 else i+42) (cellF w.heap.size p B key m) mixed (by kernel_rfl) (fun i hi=>by rw [hT];split<;>omega) cellF_stable ?_ ?_
 ·intro i o a w1 hi ho ht1 hsz hold hd
  have s2:=(hold 2 (by intro i _;show (if i=28 then 10 else i+42)≠2;split<;>omega)).trans t2
  have s8:=(hold 8 (by intro i _;show (if i=28 then 10 else i+42)≠8;split<;>omega)).trans t8
  have s9:=(hold 9 (by intro i _;show (if i=28 then 10 else i+42)≠9;split<;>omega)).trans t9
  match i,hi with
  | 0,_=>
   cases ho
   exact dag_value rfl rfl (by simp [execOp,go_sem,s8,hk0 _ ht1,hk1 _ ht1,hk2 _ ht1,hk3 _ ht1,hk4 _ ht1,hkey];try rfl) ⟨_,rfl,rfl,.refl⟩
  | 1,_=>
   cases ho
   exact dag_value rfl rfl (by simp [execOp,go_sem,s2,hmk _ ht1];try rfl) ⟨_,rfl,rfl,.refl⟩
  | 2,_=>
   cases ho
   obtain ⟨_,e0,rfl⟩:=hd 0 rfl
   have e0:=(show a.tmps[42]?=some _ from e0)
   obtain ⟨_,e1,rfl⟩:=hd 1 rfl
   have e1:=(show a.tmps[43]?=some _ from e1)
   exact dag_call rfl rfl (by simp [execOp,go_sem,e0,e1];try rfl) (hgrp _) fun e w2 ⟨v,h1,h2,h3⟩=>⟨v,h1,v,rfl,h2.mono ht1.size,h3⟩
  | 3,_=>
   cases ho
   exact dag_value rfl rfl (by simp [execOp,go_sem,s9];try rfl) ⟨_,rfl,rfl,.refl⟩
  | 7,_=>
   cases ho
   exact dag_value rfl rfl (by simp [execOp,go_sem,s9];try rfl) ⟨_,rfl,rfl,.refl⟩
  | 14,_=>
   cases ho
   exact dag_value rfl rfl (by simp [execOp,go_sem,s9];try rfl) ⟨_,rfl,rfl,.refl⟩
  | 21,_=>
   cases ho
   exact dag_value rfl rfl (by simp [execOp,go_sem,s9];try rfl) ⟨_,rfl,rfl,.refl⟩
  | 4,_=>
   cases ho
   obtain ⟨_,e3,rfl⟩:=hd 3 rfl
   have e3:=(show a.tmps[45]?=some _ from e3)
   exact dag_value rfl rfl (by simp [execOp,go_sem,e3];try rfl) ⟨_,rfl,rfl,.refl⟩
  | 8,_=>
   cases ho
   obtain ⟨_,e7,rfl⟩:=hd 7 rfl
   have e7:=(show a.tmps[49]?=some _ from e7)
   exact dag_value rfl rfl (by simp [execOp,go_sem,e7];try rfl) ⟨_,rfl,rfl,.refl⟩
  | 15,_=>
   cases ho
   obtain ⟨_,e14,rfl⟩:=hd 14 rfl
   have e14:=(show a.tmps[56]?=some _ from e14)
   exact dag_value rfl rfl (by simp [execOp,go_sem,e14];try rfl) ⟨_,rfl,rfl,.refl⟩
  | 22,_=>
   cases ho
   obtain ⟨_,e21,rfl⟩:=hd 21 rfl
   have e21:=(show a.tmps[63]?=some _ from e21)
   exact dag_value rfl rfl (by simp [execOp,go_sem,e21];try rfl) ⟨_,rfl,rfl,.refl⟩
  | 5,_=>
   cases ho
   obtain ⟨_,e4,rfl⟩:=hd 4 rfl
   have e4:=(show a.tmps[46]?=some _ from e4)
   exact dag_value rfl rfl (by simp [execOp,go_sem,e4];try rfl) ⟨_,rfl,rfl,.refl⟩
  | 6,_=>
   cases ho
   obtain ⟨_,e5,rfl⟩:=hd 5 rfl
   have e5:=(show a.tmps[47]?=some _ from e5)
   exact dag_value rfl rfl (by simp [execOp,go_sem,e5,hc0 _ ht1];try rfl) ⟨_,rfl,rfl,.refl⟩
  | 9,_=>
   cases ho
   obtain ⟨_,e8,rfl⟩:=hd 8 rfl
   have e8:=(show a.tmps[50]?=some _ from e8)
   exact dag_value rfl rfl (by simp [execOp,go_sem,e8];try rfl) ⟨_,rfl,rfl,.refl⟩
  | 16,_=>
   cases ho
   obtain ⟨_,e15,rfl⟩:=hd 15 rfl
   have e15:=(show a.tmps[57]?=some _ from e15)
   exact dag_value rfl rfl (by simp [execOp,go_sem,e15];try rfl) ⟨_,rfl,rfl,.refl⟩
  | 23,_=>
   cases ho
   obtain ⟨_,e22,rfl⟩:=hd 22 rfl
   have e22:=(show a.tmps[64]?=some _ from e22)
   exact dag_value rfl rfl (by simp [execOp,go_sem,e22];try rfl) ⟨_,rfl,rfl,.refl⟩
  | 10,_=>
   cases ho
   obtain ⟨_,e9,rfl⟩:=hd 9 rfl
   have e9:=(show a.tmps[51]?=some _ from e9)
   exact dag_value rfl rfl (by simp [execOp,go_sem,e9];try rfl) ⟨_,rfl,rfl,.refl⟩
  | 17,_=>
   cases ho
   obtain ⟨_,e16,rfl⟩:=hd 16 rfl
   have e16:=(show a.tmps[58]?=some _ from e16)
   exact dag_value rfl rfl (by simp [execOp,go_sem,e16];try rfl) ⟨_,rfl,rfl,.refl⟩
  | 24,_=>
   cases ho
   obtain ⟨_,e23,rfl⟩:=hd 23 rfl
   have e23:=(show a.tmps[65]?=some _ from e23)
   exact dag_value rfl rfl (by simp [execOp,go_sem,e23];try rfl) ⟨_,rfl,rfl,.refl⟩
  | 11,_=>
   cases ho
   obtain ⟨_,e10,rfl⟩:=hd 10 rfl
   have e10:=(show a.tmps[52]?=some _ from e10)
   exact dag_value rfl rfl (by simp [execOp,go_sem,e10,hc1 _ ht1];try rfl) ⟨_,rfl,rfl,.refl⟩
  | 18,_=>
   cases ho
   obtain ⟨_,e17,rfl⟩:=hd 17 rfl
   have e17:=(show a.tmps[59]?=some _ from e17)
   exact dag_value rfl rfl (by simp [execOp,go_sem,e17,hc2 _ ht1];try rfl) ⟨_,rfl,rfl,.refl⟩
  | 25,_=>
   cases ho
   obtain ⟨_,e24,rfl⟩:=hd 24 rfl
   have e24:=(show a.tmps[66]?=some _ from e24)
   exact dag_value rfl rfl (by simp [execOp,go_sem,e24,hc3 _ ht1];try rfl) ⟨_,rfl,rfl,.refl⟩
  | 12,_=>
   cases ho
   obtain ⟨_,e11,rfl⟩:=hd 11 rfl
   have e11:=(show a.tmps[53]?=some _ from e11)
   exact dag_call rfl rfl (by simp [execOp,go_sem,e11,m120Numbers];try rfl) (hn1 _ ht1) fun e w2 ⟨g,c',h1,h2,h3,h4⟩=>⟨_,h1,_,rfl,⟨g,c',rfl,Nat.le_trans ht1.size h2,h3⟩,h4⟩
  | 19,_=>
   cases ho
   obtain ⟨_,e18,rfl⟩:=hd 18 rfl
   have e18:=(show a.tmps[60]?=some _ from e18)
   exact dag_call rfl rfl (by simp [execOp,go_sem,e18,m123Numbers];try rfl) (hn2 _ ht1) fun e w2 ⟨g,c',h1,h2,h3,h4⟩=>⟨_,h1,_,rfl,⟨g,c',rfl,Nat.le_trans ht1.size h2,h3⟩,h4⟩
  | 26,_=>
   cases ho
   obtain ⟨_,e25,rfl⟩:=hd 25 rfl
   have e25:=(show a.tmps[67]?=some _ from e25)
   exact dag_call rfl rfl (by simp [execOp,go_sem,e25,m126Numbers];try rfl) (hn3 _ ht1) fun e w2 ⟨g,c',h1,h2,h3,h4⟩=>⟨_,h1,_,rfl,⟨g,c',rfl,Nat.le_trans ht1.size h2,h3⟩,h4⟩
  | 13,_=>
   cases ho
   obtain ⟨_,e12,g,c1,rfl,hg,hrow⟩:=hd 12 rfl
   have e12:=(show a.tmps[54]?=some _ from e12)
   exact dag_call rfl rfl (by simp [execOp,go_sem,e12];try rfl) (hi1 hrow) fun e w2 ⟨g,c',h1,h2,h3,h4⟩=>⟨_,h1,_,rfl,⟨g,c',rfl,Nat.le_trans ht1.size h2,h3⟩,h4⟩
  | 20,_=>
   cases ho
   obtain ⟨_,e19,g,c1,rfl,hg,hrow⟩:=hd 19 rfl
   have e19:=(show a.tmps[61]?=some _ from e19)
   exact dag_call rfl rfl (by simp [execOp,go_sem,e19];try rfl) (hi2 hrow) fun e w2 ⟨g,c',h1,h2,h3,h4⟩=>⟨_,h1,_,rfl,⟨g,c',rfl,Nat.le_trans ht1.size h2,h3⟩,h4⟩
  | 27,_=>
   cases ho
   obtain ⟨_,e2,h2⟩:=hd 2 rfl
   have e2:=(show a.tmps[44]?=some _ from e2)
   obtain ⟨_,e6,rfl⟩:=hd 6 rfl
   have e6:=(show a.tmps[48]?=some _ from e6)
   obtain ⟨_,e13,g1,c1,rfl,hg1,r1⟩:=hd 13 rfl
   have e13:=(show a.tmps[55]?=some _ from e13)
   obtain ⟨_,e20,g2,c2,rfl,hg2,r2⟩:=hd 20 rfl
   have e20:=(show a.tmps[62]?=some _ from e20)
   obtain ⟨_,e26,g3,c3,rfl,hg3,r3⟩:=hd 26 rfl
   have e26:=(show a.tmps[68]?=some _ from e26)
   rcases h2 with ⟨rfl,q0⟩|⟨g0,c0,rfl,q0,r0⟩
   ·exact dag_value rfl rfl (by simp [execOp,go_sem,e2,e6,e13,e20,e26];try rfl) ⟨_,rfl,⟨_,_,_,_,rfl,.inl ⟨rfl,q0⟩,⟨g1,c1,rfl,hg1,r1⟩,⟨g2,c2,rfl,hg2,r2⟩,⟨g3,c3,rfl,hg3,r3⟩⟩,.refl⟩
   ·exact dag_value rfl rfl (by simp [execOp,go_sem,e2,e6,e13,e20,e26];try rfl) ⟨_,rfl,⟨_,_,_,_,rfl,.inr ⟨g0,c0,rfl,q0,r0⟩,⟨g1,c1,rfl,hg1,r1⟩,⟨g2,c2,rfl,hg2,r2⟩,⟨g3,c3,rfl,hg3,r3⟩⟩,.refl⟩
  | 28,_=>
   cases ho
   exact dag_value rfl rfl (by simp [execOp,go_sem,Tryz.zeroValue39];try rfl) ⟨_,rfl,⟨_,rfl,ht1.size,heap_new _⟩,(Tch.refl.alloc (Nat.le_refl _) _)⟩
  | i+29,h=>exact absurd h (by omega)
 ·intro a w1 ht1 hds hsz hold hf
  obtain ⟨_,f27,kv,rv,hv,lv,rfl,hD⟩:=hf 27 (by omega)
  obtain ⟨_,f28,cb,rfl,hcb,hz⟩:=hf 28 (by omega)
  have f27:=(show a.tmps[69]?=some _ from f27)
  have f28:=(show a.tmps[10]?=some _ from f28)
  show wpOps _ _ _ [29] a w1
  rw [wpOps_cons]
  have hz0:=(cell_of hz 0).trans rfl
  have q0:=frozen_of hz 0
  have q1:=frozen_of hz 1
  have hz1:=(cell_of hz 1).trans rfl
  have hz2:=(cell_of hz 2).trans rfl
  have hz3:=(cell_of hz 3).trans rfl
  have hz4:=(cell_of hz 4).trans rfl
  have q2:=frozen_of hz 2
  have q3:=frozen_of hz 3
  have q4:=frozen_of hz 4
  obtain ⟨hk',⟨g1,c1,rfl,hg1,r1⟩,⟨g2,c2,rfl,hg2,r2⟩,⟨g3,c3,rfl,hg3,r3⟩⟩:=hD
  obtain ⟨ka,kl,kc,rfl⟩:∃ ka kl kc,kv=.slice ka kl kc:=by
   rcases hk' with ⟨rfl,_⟩|⟨g,cap,rfl,_⟩
   ·exact ⟨_,_,_,rfl⟩
   ·exact ⟨_,_,_,rfl⟩
  refine dag_none rfl ⟨rfl,rfl⟩ (w':=(((((w1.setCell ⟨cb,0,none⟩ (.slice ka kl kc)).setCell ⟨cb,1,none⟩ (.int .i64 B.n)).setCell ⟨cb,2,none⟩ (.slice (some ⟨g1,0,none⟩) B.r.length c1)).setCell ⟨cb,3,none⟩ (.slice (some ⟨g2,0,none⟩) B.h.length c2)).setCell ⟨cb,4,none⟩ (.slice (some ⟨g3,0,none⟩) B.l.length c3))) (by simp [execOp,go_sem,f27,f28,hz0,hz1,hz2,hz3,hz4,q0,q1,q2,q3,q4,stored]) ?_
  have hcb2:Blk false w1 cb #[.slice none 0 0,.int .i64 0,.slice none 0 0,.slice none 0 0,.slice none 0 0] 39:=⟨_,hz,fun _=>rfl⟩
  have hb5:=((((hcb2.set 0 (.slice ka kl kc)).set 1 (.int .i64 B.n)).set 2 (.slice (some ⟨g1,0,none⟩) B.r.length c1)).set 3 (.slice (some ⟨g2,0,none⟩) B.h.length c2)).set 4 (.slice (some ⟨g3,0,none⟩) B.l.length c3)
  obtain ⟨z,hb5,hz5⟩:=hb5
  obtain rfl:=hz5 rfl
  have ne3:∀ {g t k xs cap},Row false w1 g t k xs cap→t≠39→g≠cb:=fun h hn e=>by
   obtain ⟨arr,⟨z,h1,h2⟩,_⟩:=h
   obtain rfl:=h2 rfl
   subst e
   rw [hz] at h1
   simp only [Option.some.injEq,Obj.cells.injEq] at h1
   exact hn h1.2.1.symm
  have keep:∀ {g},g≠cb→(((((w1.setCell ⟨cb,0,none⟩ (.slice ka kl kc)).setCell ⟨cb,1,none⟩ (.int .i64 B.n)).setCell ⟨cb,2,none⟩ (.slice (some ⟨g1,0,none⟩) B.r.length c1)).setCell ⟨cb,3,none⟩ (.slice (some ⟨g2,0,none⟩) B.h.length c2)).setCell ⟨cb,4,none⟩ (.slice (some ⟨g3,0,none⟩) B.l.length c3)).heap[g]?=w1.heap[g]?:=fun hg=>by
   rw [heap_ne _ _ hg,heap_ne _ _ hg,heap_ne _ _ hg,heap_ne _ _ hg,heap_ne _ _ hg]
  have ht5:=((((ht1.set (a:=⟨cb,0,none⟩) (.inl hcb) (.slice ka kl kc)).set (a:=⟨cb,1,none⟩) (.inl hcb) (.int .i64 B.n)).set (a:=⟨cb,2,none⟩) (.inl hcb) (.slice (some ⟨g1,0,none⟩) B.r.length c1)).set (a:=⟨cb,3,none⟩) (.inl hcb) (.slice (some ⟨g2,0,none⟩) B.h.length c2)).set (a:=⟨cb,4,none⟩) (.inl hcb) (.slice (some ⟨g3,0,none⟩) B.l.length c3)
  generalize (((((w1.setCell ⟨cb,0,none⟩ (.slice ka kl kc)).setCell ⟨cb,1,none⟩ (.int .i64 B.n)).setCell ⟨cb,2,none⟩ (.slice (some ⟨g1,0,none⟩) B.r.length c1)).setCell ⟨cb,3,none⟩ (.slice (some ⟨g2,0,none⟩) B.h.length c2)).setCell ⟨cb,4,none⟩ (.slice (some ⟨g3,0,none⟩) B.l.length c3))=w2 at *
  refine ⟨rfl,hds,hsz.trans hT,fun s hs hs2=>hold s fun i hi=>?_,cb,_,_,_,_,f28,hcb,hb5,⟨?_,⟨g1,c1,rfl,hg1,r1.kept (keep (ne3 r1 (by decide)))⟩,⟨g2,c2,rfl,hg2,r2.kept (keep (ne3 r2 (by decide)))⟩,⟨g3,c3,rfl,hg3,r3.kept (keep (ne3 r3 (by decide)))⟩⟩,?_⟩
  ·show (if i=28 then 10 else i+42)≠s
   split<;>omega
  ·rcases hk' with h|⟨g,cap,h1,h2,h3⟩
   ·exact .inl h
   ·exact .inr ⟨g,cap,h1,h2,h3.kept (keep (ne3 h3 (by decide)))⟩
  ·exact ht5
end
end Go.Sim.Z
namespace Go.Sim
open Go Go.Conc
section
variable {C:Cx} {S:Kn} {W E:Nat→Prop} {w w1:World} {g g':Goroutine}
theorem BOk.rely (h:BOk C S W E w) (hst:C.st=false) (r:Rely false E w w1):BOk C S W E w1:=by
 have hsh:∀ b,¬ C.Sh b:=C.lax hst
 refine ⟨⟨rfl,fun b b' k=>?_,h.wr.fn,h.wr.inj,fun b k=>(hsh b k).elim,fun b b' o o' k x x'=>?_,h.wr.lid,fun _=>rfl,h.wr.glob⟩,h.hnd,h.gl,h.dis⟩
 ·have:=h.wr.dom b b' k
  have:=r.size
  omega
 ·obtain ⟨rfl,hb⟩:=k
  rw [r.blocks b hb] at x x'
  exact h.wr.obj b b o o' ⟨rfl,hb⟩ x x'
theorem Reach.hand (hB:BOk C S W E w) {Post:(Nat→Prop)→Goroutine→World→Prop} {f:World→World} (hr:g.status=.running) (hr':g'.status=.running) (hd:g'.dying=none) (ho:g'.offers=none)
  (hs:∀ w1,Rely false E w w1→∃ es,stepG C.P true g w1=.go g' (f w1) es∧Guar E E w1 (f w1) es)
  (k:∀ w1 w2,Rely false E w w1→Rely false (grown E w1 (f w1)) (f w1) w2→(∀ b,W b→¬ grown E w1 (f w1) b)→Reach C.P Post W g' w2):Reach C.P Post W g w:=by
 have hR:Runs false C.P true (fun y=>∃ w1,Rely false E w w1∧y.g=g'∧y.X=grown E w1 (f w1)∧Rely false (grown E w1 (f w1)) (f w1) y.w) ⟨E,E,g,w⟩:=by
  refine .step (fun w1=>⟨grown E w1 (f w1),grown E w1 (f w1),g',f w1⟩) (fun w1 r=>⟨hs w1 r,hr',hd,ho,rfl,rfl⟩) fun w1 r=>.stop fun w2 r2=>⟨w1,r,rfl,rfl,r2⟩
 refine Reach.of_runs hR hr hB.dis hB.dis (fun b hb=>hB.lt hb) ?_
 rintro ⟨own,X,gy,wy⟩ ⟨w1,r1,rfl,rfl,r2⟩ h1 h2
 exact k w1 wy r1 r2 h1
theorem BOk.push (h:BOk C S W E w) (hst:C.st=false) {o:Obj} (ho:ObjR C (okP C S) (idE fun b=>E b∨b=w.heap.size) w.heap.size o o) (hW:¬ W w.heap.size):BOk C S W (fun b=>E b∨b=w.heap.size) (w.alloc o):=by
 have hsh:∀ b,¬ C.Sh b:=C.lax hst
 have hlt:∀ b,E b→b<w.heap.size:=fun b hb=>h.lt hb
 refine ⟨⟨rfl,fun b b' k=>?_,fun b c c' k k'=>k.1.symm.trans k'.1,fun b c b2 k k'=>k.1.trans k'.1.symm,fun b k=>(hsh b k).elim,fun b b' x x' k hx hx'=>?_,fun _ b b' k=>k.1,fun _=>rfl,fun e=>by rw [hst] at e;cases e⟩,.inl h.hnd,fun g hg=>.inl (h.gl g hg),fun b hb k=>?_⟩
 ·obtain ⟨rfl,k⟩:=k
  have:b<(w.alloc o).heap.size:=by
   rw [World.size_alloc]
   rcases k with k|rfl
   ·have:=hlt b k;omega
   ·omega
  exact ⟨this,this⟩
 ·obtain ⟨rfl,k⟩:=k
  rw [hx] at hx'
  cases hx'
  rcases k with k|rfl
  ·have hb:=hlt b k
   rw [show (w.alloc o).heap[b]?=w.heap[b]? from by show (w.heap.push o)[b]?=_;rw [Array.getElem?_push,if_neg (by omega)]] at hx
   exact (h.wr.obj b b x x ⟨rfl,k⟩ hx hx).mono fun _ _ h=>⟨h.1,.inl h.2⟩
  ·rw [World.alloc_heap_new] at hx
   cases hx
   exact ho
 ·rcases k with k|rfl
  ·exact h.dis b hb k
  ·exact hW hb
theorem BOk.put (h:BOk C S W E w) (hst:C.st=false) {D:Nat} {o:Obj} (hD:E D) (ho:ObjR C (okP C S) (idE E) D o o):BOk C S W E (w.putObj D o):=by
 have hsh:∀ b,¬ C.Sh b:=C.lax hst
 have hsz:(w.putObj D o).heap.size=w.heap.size:=by simp [World.putObj]
 refine ⟨⟨rfl,fun b b' k=>by rw [hsz];exact h.wr.dom b b' k,h.wr.fn,h.wr.inj,fun b k=>(hsh b k).elim,fun b b' x x' k hx hx'=>?_,h.wr.lid,fun _=>rfl,fun e=>by rw [hst] at e;cases e⟩,h.hnd,h.gl,h.dis⟩
 obtain ⟨rfl,k⟩:=k
 rw [hx] at hx'
 cases hx'
 by_cases e:D=b
 ·subst e
  rw [World.putObj_heap_same (h.lt hD)] at hx
  cases hx
  exact ho
 ·rw [World.putObj_heap_other (Ne.symm e)] at hx
  exact h.wr.obj b b x x ⟨rfl,k⟩ hx hx
end
end Go.Sim
