/- PROVED HERE: laws. Conditions: none. -/
import Derived.Test.YtlcbehhbfglgaaaGreatF23
set_option linter.all false
set_option maxHeartbeats 8000000
set_option maxRecDepth 100000
namespace Go.Sim.Z
open Go Go.Proofs Go.RowKit Go.Maps Go.Sort
theorem Jkg (m:Nat) (w:World) :
  Calls Tryz.prog 35 #[.map (some m)] w fun e w'=>e=.returned (.func (.func 61) #[] #[.pointer (some ⟨w.heap.size,0,none⟩)])/\w'=w.alloc (.cells #[.map (some m)] 62):=by
 go_enter Tryz.func35,Tryz.ntmps35
 go_wp2;go_ret;exact ⟨rfl,rfl⟩
theorem Jfk {vm base:Nat} {w:World} (hV:J2j w vm base) :
  Calls Tryz.prog 59 #[.func (.func 61) #[] #[.pointer (some ⟨w.heap.size,0,none⟩)]] (w.alloc (.cells #[.map (some vm)] 62)) fun e w'=>∃ g cap,e=.returned (.slice (some ⟨g,0,none⟩) 1 cap)/\w.heap.size<=g/\(∃ cur,w'.heap[g]?=some (.cells cur 3)/\cur.size=cap/\1<=cap/\cur[0]?=some (.int .i64 7))/\Tch w.heap.size M0 w w':=by
 obtain ⟨nn,hown⟩:=hV;have hmax:maxLen=9223372036854775807:=by decide
 have e61:∀ args w,(callFunc 61 args).run Tryz.prog w=.ok (.enter 61 args) w:=enters_of Tryz.func61 (by kernel_rfl) rfl;have hlt:=hown.lt;have hseq:=AnyZI.keys_gives Tryz.keysI Fence.wide 1 trivial rfl (by omega) w.heap.size vm nn (.map [(.int .i64 7,.held (.map (some base)))]) (R:=Rv) (w.alloc (.cells #[.map (some vm)] 62)) (by simp) ((cell_of (Ja _) 0).trans rfl) (by obtain ⟨es,clock,hb,rest⟩:=hown;exact ⟨es,clock,(J7 _ hlt).trans hb,rest⟩);have:=AnyZI.collect_in Tryz.collectI Fence.wide 3 trivial trivial rfl (by omega) 61 #[.pointer (some ⟨w.heap.size,0,none⟩)] trivial e61 _ 1 (by omega) (by omega) _ hseq;refine (callsIn_wide.1 this).mono ?_;rintro e w' ⟨v,ss,rfl,hp,hown',_,hB⟩;have hs:ss=[7]:=List.perm_singleton.1 hp;subst hs;have e26:Tryz.collectI_ren.t 26=3:=by kernel_rfl
 rw [e26,size_alloc] at hown';rw [size_alloc] at hB;have t0:Tch w.heap.size M0 w w':=(Tch.refl.alloc (Ja2 _) _).trans ((Tch.of_below hB).mono (Nat.le_succ _) fun _ _ h=>h);rcases hown'.2 with ⟨rfl,h⟩|⟨g,cap,cur,rfl,hb,hg,h1,h2,h3,h4⟩
 ·cases h
 ·refine ⟨g,cap,rfl,by omega,⟨cur,hg,by simpa using h3,h1,?_⟩,t0⟩;have:(cur.toList.take 1)[0]?=some (Value.int .i64 7):=by have h4':cur.toList.take 1=[Value.int .i64 7]:=h4;rw [h4'];rfl
  rw [List.getElem?_take_of_lt (by omega)] at this;simpa using this
theorem Jdm {w:World} {mb m:Nat} (h:w.cell? ⟨mb,0,none⟩=some (.int .i64 m)) (v:Int):Calls Tryz.prog 68 #[.int .i64 v,.pointer (some ⟨mb,0,none⟩)] w fun e w'=>e=.returned (.bool (bits .and .i64 v m != m))/\w'=w:=by
 go_enter Tryz.func68,Tryz.ntmps68
 go_wp2;go_ret;exact ⟨rfl,rfl⟩
theorem Jvy {w:World} {g cap:Nat} {f:Value} (h:w.cell? ⟨g,0,none⟩=some (.int .i64 7)):Calls Tryz.prog 100 #[.slice (some ⟨g,0,none⟩) 1 cap,f] w fun e w'=>e=.returned (.int .i64 7)/\w'=w:=by
 go_enter Tryz.func100,Tryz.ntmps100
 go_wp2;refine wp_loop_rounds 1 ?_;rw [rounds_succ];go_wp2;go_ret;exact ⟨rfl,rfl⟩
theorem Jn1 {w:World} {g cap xb:Nat} (h:w.cell? ⟨g,0,none⟩=some (.int .i64 7)):Calls Tryz.prog 69 #[.slice (some ⟨g,0,none⟩) 1 cap,.func (.func 70) #[] #[.pointer (some ⟨xb,0,none⟩)]] w fun e w'=>e=.returned (.int .i64 7)/\Tch w.heap.size M0 w w':=by
 have hg:=cell_lt h;have hm:=Jvy (w:=w.alloc (.cells #[.func (.func 70) #[] #[.pointer (some ⟨xb,0,none⟩)]] 54)) (cap:=cap) (f:=.func (.func 101) #[] #[.pointer (some ⟨w.heap.size,0,none⟩)]) ((Jb4 (J7 _ hg)).trans h)
 go_enter Tryz.func69,Tryz.ntmps69
 go_wp2_with (go_at_call 100;refine hm.mono ?_;rintro e w1 ⟨rfl,rfl⟩)
 go_ret;exact ⟨rfl,Tch.refl.alloc (Ja2 _) _⟩
theorem Jvz {w:World} {g cap mb m:Nat} {cur:Array Value} (hg:w.heap[g]?=some (.cells cur 3)) (hc:cur.size=cap) (h1:1<=cap) (h7:cur[0]?=some (.int .i64 7)) (hm:w.cell? ⟨mb,0,none⟩=some (.int .i64 m)) (hne:mb≠g) (hm8:m<8) :
  Calls Tryz.prog 67 #[.slice (some ⟨g,0,none⟩) 1 cap,.func (.func 68) #[] #[.pointer (some ⟨mb,0,none⟩)]] w fun e w'=>e=.returned (.slice (some ⟨g,0,none⟩) 1 cap)/\∃ q,w'=w.drewN q:=by
 have hb7:(fun v:Int=>(bits .and .i64 v m != (m:Int))) 7=false:=by
  match m,hm8 with
  | 0,_=>decide
  | 1,_=>decide
  | 2,_=>decide
  | 3,_=>decide
  | 4,_=>decide
  | 5,_=>decide
  | 6,_=>decide
  | 7,_=>decide
  | m+8,h=>exact absurd h (by omega)
 have hmb:=cell_lt hm;have hH:Sort.Holds (Value.int .i64) w g 0 #[(7:Int)]:=fun j hj=>by
  have:j=0:=by have:j<1:=hj;omega
  subst this;exact ⟨by rw [Nat.zero_add,cell_of hg,h7];rfl,by rw [Nat.zero_add];exact J02 hg 0⟩
 have hglt:=Ji hg;have:=Tryz.slices_DeleteFunc (Value.int .i64) (fun _=>rfl) (fun v:Int=>(bits .and .i64 v m != (m:Int))) 68 #[.pointer (some ⟨mb,0,none⟩)] (enters_of Tryz.func68 (by kernel_rfl) rfl) 0 (fun w=>Tryz.zeroValue3 w) g 0 cap #[(7:Int)] w
  (fun W v hW=>(Jdm ((hW.cell (p:=⟨mb,0,none⟩) hmb).trans hm) v).mono fun e w' ⟨h1,h2⟩=>⟨h1,0,h2⟩)
  (fun n os dk v _=>(Jdm (by
   have hs:mb<(putRow (Value.int .i64) (Sort.ahead w n) g 0 dk).heap.size:=by rw [Sort.size_putRow];exact hmb
   refine (Jb4 (w:=putRow (Value.int .i64) (Sort.ahead w n) g 0 dk) ?_).trans ((cell?_putRow_other _ _ _ _ _ _ (.inl hne)).trans hm);show (_++os)[mb]?=_;exact Array.getElem?_append_left hs) v).mono fun e w' ⟨h1,h2⟩=>⟨h1,0,h2⟩)
  hH (by decide) h1
 refine this.mono ?_;rintro e w' ⟨rfl,q,rfl⟩;have e1:(List.filter (fun x=>!(fun v:Int=>(bits .and .i64 v m != (m:Int))) x) #[(7:Int)].toList)=[7]:=by
  have:(!(bits .and .i64 7 m != (m:Int)))=true:=by have h:(bits .and .i64 7 m != (m:Int))=false:=hb7;rw [h];rfl
  simp only [List.filter_cons,this,if_true,List.filter_nil]
 rw [e1];refine ⟨rfl,q,?_⟩;show putRow (Value.int .i64) (Sort.ahead w q) g 0 #[(7:Int)]=_;exact putRow_self _ _ _ _ _ hH
theorem Jn2 {w:World} {x:Nat} {c:J8} {seed nf:Int} {h:Value} {vm base m:Nat} (q:J08 w x c seed h nf vm base) (hm8:m<8) :
  Calls Tryz.prog 41 #[.pointer (some ⟨x,0,none⟩),.int .i64 m] w fun e w'=>e=.returned (.int .i64 7)/\Tch w.heap.size M0 w w':=by
 obtain ⟨W0,hW0⟩:∃ W0,(w.alloc (.cells #[.pointer (some ⟨x,0,none⟩)] 25)).alloc (.cells #[.int .i64 m] 3)=W0:=⟨_,rfl⟩;have t0:Tch w.heap.size M0 w W0:=by rw [<- hW0];exact (Tch.refl.alloc (Ja2 _) _).alloc (by simp) _
 have hs0:W0.heap.size=w.heap.size+2:=by rw [<- hW0];simp
 have e0:W0.heap[w.heap.size]?=some (.cells #[.pointer (some ⟨x,0,none⟩)] 25):=by rw [<- hW0,J7 _ (by simp)];exact Ja _
 have e1:W0.heap[w.heap.size+1]?=some (.cells #[.int .i64 m] 3):=by
  rw [<- hW0];have:=Ja (w:=w.alloc (.cells #[.pointer (some ⟨x,0,none⟩)] 25)) (.cells #[.int .i64 m] 3)
  rwa [size_alloc] at this
 have q0:=q.kept (w':=W0) (t0.heap x q.blk.lt fun h=>h) (t0.heap vm q.vs.lt fun h=>h);have c7:=q0.cells.2.2.2.2.2.2.2;have k0:=(cell_of e0 0).trans rfl;have hk:=Jkg vm W0;have Jms:=Jfk q0.vs;generalize hn0:w.heap.size=n0 at *;rw [hs0] at hk Jms
 go_enter Tryz.func41,Tryz.ntmps41
 go_wp2_with (first
  | (go_at_call 35;refine hk.mono ?_;rintro e w1 ⟨rfl,rfl⟩)
  | (go_at_call 59;refine Jms.mono ?_;rintro e w2 ⟨g,cap,rfl,hg0,⟨cur,hg,hc1,hc2,hc3⟩,t2⟩
     have m2:w2.cell? ⟨n0+1,0,none⟩=some (.int .i64 m):=(t2.cell (show n0+1<n0+2 by omega) fun h=>h).trans ((cell_of e1 0).trans rfl);have hdel:=Jvz hg hc1 hc2 hc3 m2 (by omega) hm8)
  | (go_at_call 67;refine hdel.mono ?_;rintro e w3 ⟨rfl,qn,rfl⟩
     have f3:=Jn1 (w:=w2.drewN qn) (cap:=cap) (xb:=n0) ((cell_of (w:=w2.drewN qn) hg 0).trans hc3))
  | (go_at_call 69;refine f3.mono ?_;rintro e w4 ⟨rfl,t4⟩))
 go_ret;have t4':Tch w2.heap.size M0 w2 w4:=⟨t4.size,t4.heap,t4.tape,t4.os,t4.output⟩;rw [<- hs0] at t2;have t02:Tch W0.heap.size M0 W0 w4:=t2.then t4' t2.size fun _ _ h=>h;rw [<- hn0] at t0 ⊢;exact ⟨rfl,t0.then t02 t0.size fun _ _ h=>h⟩
theorem Jkh {w:World} {x:Nat} {c:J8} {seed nf:Int} {h:Value} {vm base m:Nat} (q:J08 w x c seed h nf vm base) (hm8:m<8) :
  Calls Tryz.prog 39 #[.pointer (some ⟨x,0,none⟩),.int .i64 m,.slice none 0 0] w fun e w'=>e=.returned .nilIface/\w'=w:=by
 have hb:=J6i q.cells.1;have h1:¬ (m:Int)<0:=by omega
 have h2:¬ (7:Int)<m:=by omega
 go_enter Tryz.func39,Tryz.ntmps39
 go_wp2_with (go_at_call 23;refine hb.mono ?_;rintro e w1 ⟨rfl,rfl⟩)
 refine wp_loop_rounds 1 ?_;rw [rounds_succ];go_wp2;go_ret;exact ⟨rfl,rfl⟩
theorem Jj8 (w:World):Calls Tryz.prog 37 #[.slice none 0 0] w fun e w'=>e=.returned (.slice none 0 0)/\w'=w:=by
 have qT:∀ (w:World) (a:Option Addr) (n c n' c':Nat),(binOp .eql 55 (.slice a n c) (.slice none n' c')).run Tryz.prog w=.ok (.bool a.isNone) w:=fun w a n c n' c'=>Lib.run_eql_slice_nil w _ _ a n c n' c' Tryz.underlying55
 go_enter Tryz.func37,Tryz.ntmps37
 go_wp2;go_ret;exact ⟨rfl,rfl⟩
end Go.Sim.Z
namespace Go.Sim.Z
open Go Go.Proofs Go.RowKit Go.Maps
theorem Jw0 (w:World) (f:Value):Calls Tryz.prog 71 #[.slice none 0 0,f] w fun e w'=>e=.returned (.int .i64 (-1))/\w'=w:=by
 go_enter Tryz.func71,Tryz.ntmps71
 go_wp2;refine wp_loop_rounds 1 ?_;rw [rounds_succ];go_wp2;go_ret;exact ⟨rfl,rfl⟩
theorem Jn3 (w:World) (f:Value):Calls Tryz.prog 43 #[.slice none 0 0,f] w fun e w'=>e=.returned (.bool false)/\w'=w:=by
 have h:=Jw0 w f
 go_enter Tryz.func43,Tryz.ntmps43
 go_wp2_with (go_at_call 71;refine h.mono ?_;rintro e w1 ⟨rfl,rfl⟩)
 go_ret;exact ⟨rfl,rfl⟩
theorem Jy1 {w:World} {fb:Nat} (h:w.cell? ⟨fb,0,none⟩=some (.slice none 0 0)) {x:List Int} (hx:x.length=5):Calls Tryz.prog 42 #[.agg (ai .i64 x),.pointer (some ⟨fb,0,none⟩)] w fun e w'=>e=.returned (.bool true)/\Tch w.heap.size M0 w w':=by
 obtain ⟨x0,x1,x2,x3,x4,rfl⟩:=J2p hx;simp only [ai,Jc4,List.map_nil];have hl:=cell_lt h;have h1:(w.alloc (.cells #[.int .i64 x0,.int .i64 x1,.int .i64 x2,.int .i64 x3,.int .i64 x4] 76)).cell? ⟨fb,0,none⟩=some (.slice none 0 0):=(Jb4 (J7 _ hl)).trans h;have hc:=fun w f=>Jn3 w f
 go_enter Tryz.func42,Tryz.ntmps42
 go_wp2_with (go_at_call 43;refine (hc _ _).mono ?_;rintro e w1 ⟨rfl,rfl⟩)
 go_ret;exact ⟨rfl,Tch.refl.alloc (Ja2 _) _⟩
section
variable {fr:Bool} {w:World} {b r cap:Nat} {rs:List Int}
theorem Jn4 {bits:Int} (h:J0i fr w b r cap bits rs) (hn:rs.length<=1000) (h0:0<rs.length) (hr:∀ x∈rs,0<=x/\x<=255) :
  Calls Tryz.prog 159 #[.pointer (some ⟨b,0,none⟩)] w fun e w'=>∃ g c',e=.returned (.slice (some ⟨g,0,none⟩) rs.length c')/\w.heap.size<=g/\Row false w' g 45 .u64 rs c'/\Tch w.heap.size M0 w w':=by
 have c1:=(h.hd.cell 1).trans rfl;have hcl:=Jr1 h.row hn h0 hr
 go_enter Tryz.func159,Tryz.ntmps159
 go_wp2_with (go_at_call 162;refine hcl.mono ?_;rintro e w' ⟨g,c',rfl,hg,hrow,ht⟩)
 go_ret;exact ⟨g,c',rfl,hg,hrow,ht⟩
theorem Jki {ba:Option Addr} {nb cb:Nat} (h:J0f fr w b r cap ba nb cb rs) (hn:rs.length<=1000) (h0:0<rs.length) (hr:∀ x∈rs,0<=x/\x<=9223372036854775807) :
  Calls Tryz.prog 166 #[.pointer (some ⟨b,0,none⟩)] w fun e w'=>∃ g c',e=.returned (.slice (some ⟨g,0,none⟩) rs.length c')/\w.heap.size<=g/\Row false w' g 45 .u64 rs c'/\Tch w.heap.size M0 w w':=by
 have c1:=(h.hd.cell 1).trans rfl;have hcl:=Jr4 h.row hn h0 hr
 go_enter Tryz.func166,Tryz.ntmps166
 go_wp2_with (go_at_call 168;refine hcl.mono ?_;rintro e w' ⟨g,c',rfl,hg,hrow,ht⟩)
 go_ret;exact ⟨g,c',rfl,hg,hrow,ht⟩
end
def SlN (base:Nat) (w:World) (v:Value) (t:TypeId) (k:IntKind) (xs:List Int):Prop:=∃ g cap,v=.slice (some ⟨g,0,none⟩) xs.length cap/\base<=g/\Row false w g t k xs cap
theorem SlN.tch {base:Nat} {w w':World} {v:Value} {t:TypeId} {k:IntKind} {xs:List Int} (h:SlN base w v t k xs) (q:Tch w.heap.size M0 w w'):SlN base w' v t k xs:=by obtain ⟨g,cap,h1,h2,h3⟩:=h;exact ⟨g,cap,h1,h2,h3.tch q h3.lt fun h=>h⟩
theorem SlI.mono {fr:Bool} {w:World} {base base':Nat} {v:Value} {t:TypeId} {k:IntKind} {xs:List Int} (h:SlI fr w base v t k xs) (hb:base'<=base):SlI fr w base' v t k xs:=by
 rcases h with h|⟨g,cap,h1,h2,h3⟩
 ·exact .inl h
 ·exact .inr ⟨g,cap,h1,by omega,h3⟩
theorem SlI.tch {w w':World} {base:Nat} {v:Value} {t:TypeId} {k:IntKind} {xs:List Int} (h:SlI false w base v t k xs) (q:Tch w.heap.size M0 w w'):SlI false w' base v t k xs:=by
 rcases h with h|⟨g,cap,h1,h2,h3⟩
 ·exact .inl h
 ·exact .inr ⟨g,cap,h1,h2,h3.tch q h3.lt fun h=>h⟩
structure J2c (base:Nat) (w:World) (kv rv hv lv:Value) (g:List Int) (B:Bun):Prop where
 k:SlI false w base kv 3 .i64 g
 r:SlN base w rv 3 .i64 B.r
 h:SlN base w hv 3 .i64 B.h
 l:SlN base w lv 45 .u64 B.l
theorem J2c.tch {base:Nat} {w w':World} {kv rv hv lv:Value} {g:List Int} {B:Bun} (h:J2c base w kv rv hv lv g B) (q:Tch w.heap.size M0 w w'):J2c base w' kv rv hv lv g B:=⟨h.k.tch q,h.r.tch q,h.h.tch q,h.l.tch q⟩
theorem Jsl {P:Program} {ops:Array Oper} {Q:Exit->Act->World->Prop} {i:Nat} {o:Oper} {a:Act} {w w':World} {K:Act->World->Prop} (ho:ops[i]?=some o) (hg:o.guard=none/\o.dst=none) (hr:(execOp a.eval o).run P w=.ok .skip w') (h:K a w'):wpOp P ops Q i K a w:=by unfold wpOp;simp only [ho,Region.wanted,hg.1,if_true];left;unfold Oper.wp;rw [hr];show K (a.put o.dst undef) w';rw [hg.2];exact h
noncomputable def b38:Code:=Tryz.f38.body.getD .skip
noncomputable def Jcj:Code:=lC (bC (sC (sC (sC b38))))
noncomputable def Jck:Code:=bC (fC (sC (sC Jcj)))
noncomputable def J8z:Code:=fC (sC (sC Jck))
def Jn5 (N:Nat) (p:BP) (B:Bun) (key:List Int) (m:Nat):Nat->Value->World->Prop
 | 0,v,_=>v=.agg (ai .i64 key)
 | 1,v,_=>v=.int .i64 m
 | 2,v,w=>SlI false w N v 3 .i64 (J0o m key 5)
 | 3,v,_=>v=pt p.b
 | 4,v,_=>v=pt p.b
 | 5,v,_=>v=pt p.b
 | 6,v,_=>v=.int .i64 B.n
 | 7,v,_=>v=pt p.b
 | 8,v,_=>v=pt p.b
 | 9,v,_=>v=pt p.b 1
 | 10,v,_=>v=pt p.b 1
 | 11,v,_=>v=.iface 120 (pt p.rb)
 | 12,v,w=>SlN N w v 45 .u64 B.r
 | 13,v,w=>SlN N w v 3 .i64 B.r
 | 14,v,_=>v=pt p.b
 | 15,v,_=>v=pt p.b
 | 16,v,_=>v=pt p.b 1
 | 17,v,_=>v=pt p.b 2
 | 18,v,_=>v=.iface 123 (pt p.hb)
 | 19,v,w=>SlN N w v 45 .u64 B.h
 | 20,v,w=>SlN N w v 3 .i64 B.h
 | 21,v,_=>v=pt p.b
 | 22,v,_=>v=pt p.b
 | 23,v,_=>v=pt p.b 1
 | 24,v,_=>v=pt p.b 3
 | 25,v,_=>v=.iface 126 (pt p.lb)
 | 26,v,w=>SlN N w v 45 .u64 B.l
 | 27,v,w=>∃ kv rv hv lv,v=.agg #[kv,.int .i64 B.n,rv,hv,lv]/\J2c N w kv rv hv lv (J0o m key 5) B
 | _,v,w=>∃ cb,v=pt cb/\N<=cb/\w.heap[cb]?=some (.cells #[.slice none 0 0,.int .i64 0,.slice none 0 0,.slice none 0 0,.slice none 0 0] 39)
theorem Jj9 {N:Nat} {p:BP} {B:Bun} {key:List Int} {m:Nat} (i:Nat) (v:Value) (w w':World) (h:Jn5 N p B key m i v w) (t:Tch w.heap.size M0 w w'):Jn5 N p B key m i v w':=by
 match i,h with
 | 2,h=>exact SlI.tch h t
 | 12,h=>exact SlN.tch h t
 | 13,h=>exact SlN.tch h t
 | 19,h=>exact SlN.tch h t
 | 20,h=>exact SlN.tch h t
 | 26,h=>exact SlN.tch h t
 | 27,⟨kv,rv,hv,lv,h1,h2⟩=>exact ⟨kv,rv,hv,lv,h1,h2.tch t⟩
 | 0,h|1,h|3,h|4,h|5,h|6,h|7,h|8,h|9,h|10,h|11,h|14,h|15,h|16,h|17,h|18,h|21,h|22,h|23,h|24,h|25,h=>exact h
 | i+28,⟨cb,h1,h2,h3⟩=>exact ⟨cb,h1,h2,(t.heap cb (Ji h3) fun h=>h).trans h3⟩
section
variable {w:World} {f:Nat->Value} {mb kb:Nat} {p:BP} {B:Bun} {c:J8} {key:List Int} {m:Nat} {d:Deferred}
theorem Jsm {T0:Array Value} (hB:Jz false w c p B) (hok:Jl c B) (hc:Jw c) (hpos:∀ x∈B.h,0<=x) (hK:key.length=5) (hkb:w.heap[kb]?=some (.cells (ai .i64 key) 76)) (hm:w.cell? ⟨mb,0,none⟩=some (.int .i64 m))
  (hT:T0.size=75) (t2:T0[2]?=some (pt mb)) (t8:T0[8]?=some (pt kb)) (t9:T0[9]?=some (pt p.b)) :
  J8z.wp Tryz.prog (fun e a w'=>e=.normal/\a.defers=[d]/\a.tmps.size=75/\(∀ s,s<42->s≠10->a.tmps[s]?=T0[s]?)/\∃ cb kv rv hv lv,a.tmps[10]?=some (pt cb)/\w.heap.size<=cb/\w'.heap[cb]?=some (.cells #[kv,.int .i64 B.n,rv,hv,lv] 39)/\J2c w.heap.size w' kv rv hv lv (J0o m key 5) B/\Tch w.heap.size M0 w w') ⟨T0,[d]⟩ w:=by
 have hrl:B.r.length<=64/\0<B.r.length:=by
  have h1:=hc.b1;have h2:=hc.b2;rw [hok.r];have:c.bits=4\/c.bits=5\/c.bits=6:=by omega
  rcases this with e|e|e<;>rw [e]<;>decide
 have hhl:B.h.length<=9/\0<B.h.length:=by rw [hok.h];have:=hc.nb;omega
 have hll:B.l.length<=8:=by have:=hok.lK;have:=hc.k2;omega
 have hBt:∀ w1,Tch w.heap.size M0 w w1->Jz false w1 c p B:=fun w1 t=>hB.kept fun x hx=>t.heap x (hB.lt x hx) fun h=>h;obtain ⟨y0,y1,y2,y3,y4,hy⟩:=J2p hK;have hkt:∀ i v,(ai .i64 key)[i]?=some v->∀ w1,Tch w.heap.size M0 w w1->w1.cell? ⟨kb,i,none⟩=some v:=fun i v h w1 t=>(cell_of ((t.heap kb (Ji hkb) fun h=>h).trans hkb) i).trans h;have hk0:=hkt 0 (.int .i64 y0) (by rw [hy];rfl);have hk1:=hkt 1 (.int .i64 y1) (by rw [hy];rfl);have hk2:=hkt 2 (.int .i64 y2) (by rw [hy];rfl);have hk3:=hkt 3 (.int .i64 y3) (by rw [hy];rfl);have hk4:=hkt 4 (.int .i64 y4) (by rw [hy];rfl);have hkey:ai .i64 key=#[.int .i64 y0,.int .i64 y1,.int .i64 y2,.int .i64 y3,.int .i64 y4]:=by rw [hy];rfl
 have hmk:∀ w1,Tch w.heap.size M0 w w1->w1.cell? ⟨mb,0,none⟩=some (.int .i64 m):=fun w1 t=>(t.cell (cell_lt hm) fun h=>h).trans hm;have hgrp:=Jk9 key hK m;have hc0:=fun w1 t=>(hBt w1 t).c0;have hc1:=fun w1 t=>(hBt w1 t).c1;have hc2:=fun w1 t=>(hBt w1 t).c2;have hc3:=fun w1 t=>(hBt w1 t).c3;have hn1:=fun w1 t=>Jn4 (hBt w1 t).reg (by omega) hrl.2 hok.r8;have hn2:=fun w1 t=>Jki (hBt w1 t).hist (by omega) hhl.2 fun x hx=>⟨hpos x hx,(hok.h64 x hx).2⟩;have hi1:=fun {w1 g cap} (h:Row false w1 g 45 .u64 B.r cap)=>Jod h (by omega) hrl.2 fun x hx=>by have:=hok.r8 x hx;omega
 have hi2:=fun {w1 g cap} (h:Row false w1 g 45 .u64 B.h cap)=>Jod h (by omega) hhl.2 fun x hx=>⟨hpos x hx,(hok.h64 x hx).2⟩;have hn3:∀ w1,Tch w.heap.size M0 w w1->Calls Tryz.prog 173 #[.pointer (some ⟨p.lb,0,none⟩)] w1 fun e w'=>∃ g c',e=.returned (.slice (some ⟨g,0,none⟩) B.l.length c')/\w1.heap.size<=g/\Row false w' g 45 .u64 B.l c'/\Tch w1.heap.size M0 w1 w':=fun w1 t=>by
  have hl:=(hBt w1 t).least;cases hp:p.lr with
  | none=>
   rw [hp] at hl;exact absurd hl.row hok.lne
  | some q=>
   obtain ⟨r,cc⟩:=q;rw [hp] at hl;exact Ji1 hl (by omega)
 simp only [J8z,Jck,Jcj,b38,fC,sC,bC,lC,Tryz.f38,Ja6];refine J8k 29 (fun i=>if i=28 then 10 else i+42) (Jn5 w.heap.size p B key m) mixed (by kernel_rfl) (fun i hi=>by rw [hT];split<;>omega) Jj9 ?_ ?_
 ·intro i o a w1 hi ho ht1 hsz hold hd;have s2:=(hold 2 (by intro i _;show (if i=28 then 10 else i+42)≠2;split<;>omega)).trans t2;have s8:=(hold 8 (by intro i _;show (if i=28 then 10 else i+42)≠8;split<;>omega)).trans t8;have s9:=(hold 9 (by intro i _;show (if i=28 then 10 else i+42)≠9;split<;>omega)).trans t9
  match i,hi with
  | 0,_=>
   cases ho;exact J9 rfl rfl (by simp [execOp,go_sem,s8,hk0 _ ht1,hk1 _ ht1,hk2 _ ht1,hk3 _ ht1,hk4 _ ht1,hkey];try rfl) ⟨_,rfl,rfl,.refl⟩
  | 1,_=>
   cases ho;exact J9 rfl rfl (by simp [execOp,go_sem,s2,hmk _ ht1];try rfl) ⟨_,rfl,rfl,.refl⟩
  | 2,_=>
   cases ho;obtain ⟨_,e0,rfl⟩:=hd 0 rfl;have e0:=(show a.tmps[42]?=some _ from e0);obtain ⟨_,e1,rfl⟩:=hd 1 rfl;have e1:=(show a.tmps[43]?=some _ from e1);exact J2f rfl rfl (by simp [execOp,go_sem,e0,e1];try rfl) (hgrp _) fun e w2 ⟨v,h1,h2,h3⟩=>⟨v,h1,v,rfl,h2.mono ht1.size,h3⟩
  | 3,_=>
   cases ho;exact J9 rfl rfl (by simp [execOp,go_sem,s9];try rfl) ⟨_,rfl,rfl,.refl⟩
  | 7,_=>
   cases ho;exact J9 rfl rfl (by simp [execOp,go_sem,s9];try rfl) ⟨_,rfl,rfl,.refl⟩
  | 14,_=>
   cases ho;exact J9 rfl rfl (by simp [execOp,go_sem,s9];try rfl) ⟨_,rfl,rfl,.refl⟩
  | 21,_=>
   cases ho;exact J9 rfl rfl (by simp [execOp,go_sem,s9];try rfl) ⟨_,rfl,rfl,.refl⟩
  | 4,_=>
   cases ho;obtain ⟨_,e3,rfl⟩:=hd 3 rfl;have e3:=(show a.tmps[45]?=some _ from e3);exact J9 rfl rfl (by simp [execOp,go_sem,e3];try rfl) ⟨_,rfl,rfl,.refl⟩
  | 8,_=>
   cases ho;obtain ⟨_,e7,rfl⟩:=hd 7 rfl;have e7:=(show a.tmps[49]?=some _ from e7);exact J9 rfl rfl (by simp [execOp,go_sem,e7];try rfl) ⟨_,rfl,rfl,.refl⟩
  | 15,_=>
   cases ho;obtain ⟨_,e14,rfl⟩:=hd 14 rfl;have e14:=(show a.tmps[56]?=some _ from e14);exact J9 rfl rfl (by simp [execOp,go_sem,e14];try rfl) ⟨_,rfl,rfl,.refl⟩
  | 22,_=>
   cases ho;obtain ⟨_,e21,rfl⟩:=hd 21 rfl;have e21:=(show a.tmps[63]?=some _ from e21);exact J9 rfl rfl (by simp [execOp,go_sem,e21];try rfl) ⟨_,rfl,rfl,.refl⟩
  | 5,_=>
   cases ho;obtain ⟨_,e4,rfl⟩:=hd 4 rfl;have e4:=(show a.tmps[46]?=some _ from e4);exact J9 rfl rfl (by simp [execOp,go_sem,e4];try rfl) ⟨_,rfl,rfl,.refl⟩
  | 6,_=>
   cases ho;obtain ⟨_,e5,rfl⟩:=hd 5 rfl;have e5:=(show a.tmps[47]?=some _ from e5);exact J9 rfl rfl (by simp [execOp,go_sem,e5,hc0 _ ht1];try rfl) ⟨_,rfl,rfl,.refl⟩
  | 9,_=>
   cases ho;obtain ⟨_,e8,rfl⟩:=hd 8 rfl;have e8:=(show a.tmps[50]?=some _ from e8);exact J9 rfl rfl (by simp [execOp,go_sem,e8];try rfl) ⟨_,rfl,rfl,.refl⟩
  | 16,_=>
   cases ho;obtain ⟨_,e15,rfl⟩:=hd 15 rfl;have e15:=(show a.tmps[57]?=some _ from e15);exact J9 rfl rfl (by simp [execOp,go_sem,e15];try rfl) ⟨_,rfl,rfl,.refl⟩
  | 23,_=>
   cases ho;obtain ⟨_,e22,rfl⟩:=hd 22 rfl;have e22:=(show a.tmps[64]?=some _ from e22);exact J9 rfl rfl (by simp [execOp,go_sem,e22];try rfl) ⟨_,rfl,rfl,.refl⟩
  | 10,_=>
   cases ho;obtain ⟨_,e9,rfl⟩:=hd 9 rfl;have e9:=(show a.tmps[51]?=some _ from e9);exact J9 rfl rfl (by simp [execOp,go_sem,e9];try rfl) ⟨_,rfl,rfl,.refl⟩
  | 17,_=>
   cases ho;obtain ⟨_,e16,rfl⟩:=hd 16 rfl;have e16:=(show a.tmps[58]?=some _ from e16);exact J9 rfl rfl (by simp [execOp,go_sem,e16];try rfl) ⟨_,rfl,rfl,.refl⟩
  | 24,_=>
   cases ho;obtain ⟨_,e23,rfl⟩:=hd 23 rfl;have e23:=(show a.tmps[65]?=some _ from e23);exact J9 rfl rfl (by simp [execOp,go_sem,e23];try rfl) ⟨_,rfl,rfl,.refl⟩
  | 11,_=>
   cases ho;obtain ⟨_,e10,rfl⟩:=hd 10 rfl;have e10:=(show a.tmps[52]?=some _ from e10);exact J9 rfl rfl (by simp [execOp,go_sem,e10,hc1 _ ht1];try rfl) ⟨_,rfl,rfl,.refl⟩
  | 18,_=>
   cases ho;obtain ⟨_,e17,rfl⟩:=hd 17 rfl;have e17:=(show a.tmps[59]?=some _ from e17);exact J9 rfl rfl (by simp [execOp,go_sem,e17,hc2 _ ht1];try rfl) ⟨_,rfl,rfl,.refl⟩
  | 25,_=>
   cases ho;obtain ⟨_,e24,rfl⟩:=hd 24 rfl;have e24:=(show a.tmps[66]?=some _ from e24);exact J9 rfl rfl (by simp [execOp,go_sem,e24,hc3 _ ht1];try rfl) ⟨_,rfl,rfl,.refl⟩
  | 12,_=>
   cases ho;obtain ⟨_,e11,rfl⟩:=hd 11 rfl;have e11:=(show a.tmps[53]?=some _ from e11);exact J2f rfl rfl (by simp [execOp,go_sem,e11,Jk6];try rfl) (hn1 _ ht1) fun e w2 ⟨g,c',h1,h2,h3,h4⟩=>⟨_,h1,_,rfl,⟨g,c',rfl,Jb6 ht1.size h2,h3⟩,h4⟩
  | 19,_=>
   cases ho;obtain ⟨_,e18,rfl⟩:=hd 18 rfl;have e18:=(show a.tmps[60]?=some _ from e18);exact J2f rfl rfl (by simp [execOp,go_sem,e18,Jk7];try rfl) (hn2 _ ht1) fun e w2 ⟨g,c',h1,h2,h3,h4⟩=>⟨_,h1,_,rfl,⟨g,c',rfl,Jb6 ht1.size h2,h3⟩,h4⟩
  | 26,_=>
   cases ho;obtain ⟨_,e25,rfl⟩:=hd 25 rfl;have e25:=(show a.tmps[67]?=some _ from e25);exact J2f rfl rfl (by simp [execOp,go_sem,e25,Jk8];try rfl) (hn3 _ ht1) fun e w2 ⟨g,c',h1,h2,h3,h4⟩=>⟨_,h1,_,rfl,⟨g,c',rfl,Jb6 ht1.size h2,h3⟩,h4⟩
  | 13,_=>
   cases ho;obtain ⟨_,e12,g,c1,rfl,hg,hrow⟩:=hd 12 rfl;have e12:=(show a.tmps[54]?=some _ from e12);exact J2f rfl rfl (by simp [execOp,go_sem,e12];try rfl) (hi1 hrow) fun e w2 ⟨g,c',h1,h2,h3,h4⟩=>⟨_,h1,_,rfl,⟨g,c',rfl,Jb6 ht1.size h2,h3⟩,h4⟩
  | 20,_=>
   cases ho;obtain ⟨_,e19,g,c1,rfl,hg,hrow⟩:=hd 19 rfl;have e19:=(show a.tmps[61]?=some _ from e19);exact J2f rfl rfl (by simp [execOp,go_sem,e19];try rfl) (hi2 hrow) fun e w2 ⟨g,c',h1,h2,h3,h4⟩=>⟨_,h1,_,rfl,⟨g,c',rfl,Jb6 ht1.size h2,h3⟩,h4⟩
  | 27,_=>
   cases ho;obtain ⟨_,e2,h2⟩:=hd 2 rfl;have e2:=(show a.tmps[44]?=some _ from e2);obtain ⟨_,e6,rfl⟩:=hd 6 rfl;have e6:=(show a.tmps[48]?=some _ from e6);obtain ⟨_,e13,g1,c1,rfl,hg1,r1⟩:=hd 13 rfl;have e13:=(show a.tmps[55]?=some _ from e13);obtain ⟨_,e20,g2,c2,rfl,hg2,r2⟩:=hd 20 rfl;have e20:=(show a.tmps[62]?=some _ from e20);obtain ⟨_,e26,g3,c3,rfl,hg3,r3⟩:=hd 26 rfl;have e26:=(show a.tmps[68]?=some _ from e26);rcases h2 with ⟨rfl,q0⟩|⟨g0,c0,rfl,q0,r0⟩
   ·exact J9 rfl rfl (by simp [execOp,go_sem,e2,e6,e13,e20,e26];try rfl) ⟨_,rfl,⟨_,_,_,_,rfl,.inl ⟨rfl,q0⟩,⟨g1,c1,rfl,hg1,r1⟩,⟨g2,c2,rfl,hg2,r2⟩,⟨g3,c3,rfl,hg3,r3⟩⟩,.refl⟩
   ·exact J9 rfl rfl (by simp [execOp,go_sem,e2,e6,e13,e20,e26];try rfl) ⟨_,rfl,⟨_,_,_,_,rfl,.inr ⟨g0,c0,rfl,q0,r0⟩,⟨g1,c1,rfl,hg1,r1⟩,⟨g2,c2,rfl,hg2,r2⟩,⟨g3,c3,rfl,hg3,r3⟩⟩,.refl⟩
  | 28,_=>
   cases ho;exact J9 rfl rfl (by simp [execOp,go_sem,Tryz.zeroValue39];try rfl) ⟨_,rfl,⟨_,rfl,ht1.size,Ja _⟩,(Tch.refl.alloc (Ja2 _) _)⟩
  | i+29,h=>exact absurd h (by omega)
 ·intro a w1 ht1 hds hsz hold hf;obtain ⟨_,f27,kv,rv,hv,lv,rfl,hD⟩:=hf 27 (by omega);obtain ⟨_,f28,cb,rfl,hcb,hz⟩:=hf 28 (by omega);have f27:=(show a.tmps[69]?=some _ from f27);have f28:=(show a.tmps[10]?=some _ from f28);show wpOps _ _ _ [29] a w1;rw [wpOps_cons];have hz0:=(cell_of hz 0).trans rfl;have q0:=J02 hz 0;have q1:=J02 hz 1;have hz1:=(cell_of hz 1).trans rfl;have hz2:=(cell_of hz 2).trans rfl;have hz3:=(cell_of hz 3).trans rfl;have hz4:=(cell_of hz 4).trans rfl;have q2:=J02 hz 2;have q3:=J02 hz 3;have q4:=J02 hz 4;obtain ⟨hk',⟨g1,c1,rfl,hg1,r1⟩,⟨g2,c2,rfl,hg2,r2⟩,⟨g3,c3,rfl,hg3,r3⟩⟩:=hD;obtain ⟨ka,kl,kc,rfl⟩:∃ ka kl kc,kv=.slice ka kl kc:=by
   rcases hk' with ⟨rfl,_⟩|⟨g,cap,rfl,_⟩
   ·exact ⟨_,_,_,rfl⟩
   ·exact ⟨_,_,_,rfl⟩
  refine Jsl rfl ⟨rfl,rfl⟩ (w':=(((((w1.setCell ⟨cb,0,none⟩ (.slice ka kl kc)).setCell ⟨cb,1,none⟩ (.int .i64 B.n)).setCell ⟨cb,2,none⟩ (.slice (some ⟨g1,0,none⟩) B.r.length c1)).setCell ⟨cb,3,none⟩ (.slice (some ⟨g2,0,none⟩) B.h.length c2)).setCell ⟨cb,4,none⟩ (.slice (some ⟨g3,0,none⟩) B.l.length c3))) (by simp [execOp,go_sem,f27,f28,hz0,hz1,hz2,hz3,hz4,q0,q1,q2,q3,q4,stored]) ?_;have hcb2:Blk false w1 cb #[.slice none 0 0,.int .i64 0,.slice none 0 0,.slice none 0 0,.slice none 0 0] 39:=⟨_,hz,fun _=>rfl⟩;have hb5:=((((hcb2.set 0 (.slice ka kl kc)).set 1 (.int .i64 B.n)).set 2 (.slice (some ⟨g1,0,none⟩) B.r.length c1)).set 3 (.slice (some ⟨g2,0,none⟩) B.h.length c2)).set 4 (.slice (some ⟨g3,0,none⟩) B.l.length c3);obtain ⟨z,hb5,hz5⟩:=hb5;obtain rfl:=hz5 rfl;have ne3:∀ {g t k xs cap},Row false w1 g t k xs cap->t≠39->g≠cb:=fun h hn e=>by obtain ⟨arr,⟨z,h1,h2⟩,_⟩:=h;obtain rfl:=h2 rfl;subst e;rw [hz] at h1;simp only [Jb2,Obj.cells.injEq] at h1;exact hn h1.2.1.symm
  have keep:∀ {g},g≠cb->(((((w1.setCell ⟨cb,0,none⟩ (.slice ka kl kc)).setCell ⟨cb,1,none⟩ (.int .i64 B.n)).setCell ⟨cb,2,none⟩ (.slice (some ⟨g1,0,none⟩) B.r.length c1)).setCell ⟨cb,3,none⟩ (.slice (some ⟨g2,0,none⟩) B.h.length c2)).setCell ⟨cb,4,none⟩ (.slice (some ⟨g3,0,none⟩) B.l.length c3)).heap[g]?=w1.heap[g]?:=fun hg=>by rw [Jk _ _ hg,Jk _ _ hg,Jk _ _ hg,Jk _ _ hg,Jk _ _ hg]
  have ht5:=((((ht1.set (a:=⟨cb,0,none⟩) (.inl hcb) (.slice ka kl kc)).set (a:=⟨cb,1,none⟩) (.inl hcb) (.int .i64 B.n)).set (a:=⟨cb,2,none⟩) (.inl hcb) (.slice (some ⟨g1,0,none⟩) B.r.length c1)).set (a:=⟨cb,3,none⟩) (.inl hcb) (.slice (some ⟨g2,0,none⟩) B.h.length c2)).set (a:=⟨cb,4,none⟩) (.inl hcb) (.slice (some ⟨g3,0,none⟩) B.l.length c3);generalize (((((w1.setCell ⟨cb,0,none⟩ (.slice ka kl kc)).setCell ⟨cb,1,none⟩ (.int .i64 B.n)).setCell ⟨cb,2,none⟩ (.slice (some ⟨g1,0,none⟩) B.r.length c1)).setCell ⟨cb,3,none⟩ (.slice (some ⟨g2,0,none⟩) B.h.length c2)).setCell ⟨cb,4,none⟩ (.slice (some ⟨g3,0,none⟩) B.l.length c3))=w2 at *;refine ⟨rfl,hds,hsz.trans hT,fun s hs hs2=>hold s fun i hi=>?_,cb,_,_,_,_,f28,hcb,hb5,⟨?_,⟨g1,c1,rfl,hg1,r1.kept (keep (ne3 r1 (by decide)))⟩,⟨g2,c2,rfl,hg2,r2.kept (keep (ne3 r2 (by decide)))⟩,⟨g3,c3,rfl,hg3,r3.kept (keep (ne3 r3 (by decide)))⟩⟩,?_⟩
  ·show (if i=28 then 10 else i+42)≠s;split<;>omega
  ·rcases hk' with h|⟨g,cap,h1,h2,h3⟩
   ·exact .inl h
   ·exact .inr ⟨g,cap,h1,h2,h3.kept (keep (ne3 h3 (by decide)))⟩
  ·exact ht5
end
end Go.Sim.Z
namespace Go.Sim
open Go Go.Conc
section
variable {C:Cx} {S:Kn} {W E:Nat->Prop} {w w1:World} {g g':Goroutine}
theorem BOk.rely (h:BOk C S W E w) (hst:C.st=false) (r:J07 false E w w1):BOk C S W E w1:=by
 have hsh:∀ b,¬ C.Sh b:=C.lax hst;refine ⟨⟨rfl,fun b b' k=>?_,h.wr.fn,h.wr.inj,fun b k=>(hsh b k).elim,fun b b' o o' k x x'=>?_,h.wr.lid,fun _=>rfl,h.wr.J5i⟩,h.hnd,h.gl,h.dis⟩
 ·have:=h.wr.dom b b' k;have:=r.size;omega
 ·obtain ⟨rfl,hb⟩:=k;rw [r.blocks b hb] at x x';exact h.wr.obj b b o o' ⟨rfl,hb⟩ x x'
theorem Reach.hand (hB:BOk C S W E w) {Post:(Nat->Prop)->Goroutine->World->Prop} {f:World->World} (hr:g.status=.running) (hr':g'.status=.running) (hd:g'.dying=none) (ho:g'.offers=none)
  (hs:∀ w1,J07 false E w w1->∃ es,stepG C.P true g w1=.go g' (f w1) es/\Jrl E E w1 (f w1) es)
  (k:∀ w1 w2,J07 false E w w1->J07 false (grown E w1 (f w1)) (f w1) w2->(∀ b,W b->¬ grown E w1 (f w1) b)->Reach C.P Post W g' w2):Reach C.P Post W g w:=by
 have hR:Runs false C.P true (fun y=>∃ w1,J07 false E w w1/\y.g=g'/\y.X=grown E w1 (f w1)/\J07 false (grown E w1 (f w1)) (f w1) y.w) ⟨E,E,g,w⟩:=by refine .step (fun w1=>⟨grown E w1 (f w1),grown E w1 (f w1),g',f w1⟩) (fun w1 r=>⟨hs w1 r,hr',hd,ho,rfl,rfl⟩) fun w1 r=>.stop fun w2 r2=>⟨w1,r,rfl,rfl,r2⟩
 refine Reach.J4u hR hr hB.dis hB.dis (fun b hb=>hB.lt hb) ?_;rintro ⟨own,X,gy,wy⟩ ⟨w1,r1,rfl,rfl,r2⟩ h1 h2;exact k w1 wy r1 r2 h1
theorem BOk.push (h:BOk C S W E w) (hst:C.st=false) {o:Obj} (ho:J3g C (okP C S) (idE fun b=>E b\/b=w.heap.size) w.heap.size o o) (hW:¬ W w.heap.size):BOk C S W (fun b=>E b\/b=w.heap.size) (w.alloc o):=by
 have hsh:∀ b,¬ C.Sh b:=C.lax hst;have hlt:∀ b,E b->b<w.heap.size:=fun b hb=>h.lt hb;refine ⟨⟨rfl,fun b b' k=>?_,fun b c c' k k'=>k.1.symm.trans k'.1,fun b c b2 k k'=>k.1.trans k'.1.symm,fun b k=>(hsh b k).elim,fun b b' x x' k hx hx'=>?_,fun _ b b' k=>k.1,fun _=>rfl,fun e=>by rw [hst] at e;cases e⟩,.inl h.hnd,fun g hg=>.inl (h.gl g hg),fun b hb k=>?_⟩
 ·obtain ⟨rfl,k⟩:=k;have:b<(w.alloc o).heap.size:=by
   rw [World.size_alloc];rcases k with k|rfl
   ·have:=hlt b k;omega
   ·omega
  exact ⟨this,this⟩
 ·obtain ⟨rfl,k⟩:=k;rw [hx] at hx';cases hx';rcases k with k|rfl
  ·have hb:=hlt b k;rw [show (w.alloc o).heap[b]?=w.heap[b]? from by show (w.heap.push o)[b]?=_;rw [Jd1,if_neg (by omega)]] at hx;exact (h.wr.obj b b x x ⟨rfl,k⟩ hx hx).mono fun _ _ h=>⟨h.1,.inl h.2⟩
  ·rw [World.alloc_heap_new] at hx;cases hx;exact ho
 ·rcases k with k|rfl
  ·exact h.dis b hb k
  ·exact hW hb
theorem BOk.put (h:BOk C S W E w) (hst:C.st=false) {D:Nat} {o:Obj} (hD:E D) (ho:J3g C (okP C S) (idE E) D o o):BOk C S W E (w.putObj D o):=by
 have hsh:∀ b,¬ C.Sh b:=C.lax hst;have hsz:(w.putObj D o).heap.size=w.heap.size:=by simp [World.putObj]
 refine ⟨⟨rfl,fun b b' k=>by rw [hsz];exact h.wr.dom b b' k,h.wr.fn,h.wr.inj,fun b k=>(hsh b k).elim,fun b b' x x' k hx hx'=>?_,h.wr.lid,fun _=>rfl,fun e=>by rw [hst] at e;cases e⟩,h.hnd,h.gl,h.dis⟩;obtain ⟨rfl,k⟩:=k;rw [hx] at hx';cases hx';by_cases e:D=b
 ·subst e;rw [World.putObj_heap_same (h.lt hD)] at hx;cases hx;exact ho
 ·rw [World.putObj_heap_other (Ne.symm e)] at hx;exact h.wr.obj b b x x ⟨rfl,k⟩ hx hx
end
end Go.Sim
namespace Go.Sim
open Go Go.Conc Go.RowKit
section
variable {P:Program} {main:Bool} {b:Frame} {a:Act} {k:List Item} {cs:List Frame} {w:World}
def J1s (fn:FuncId) (t:Array Value) (ps:Array Tmp) (assign body:Code) (D:Nat):Loop:={ state:=.ready,pending:=none,fn,tmps:=t,params:=ps,assign,body,defers:=D }
theorem Jdn {g:Operand} {ps:Array Tmp} {assign body:Code} {f:FuncId} {fb:Array Value} {fn:Func} {c:Code} (hb:b.roundOf=none) (hk:b.kind≠.early) (hg:a.eval g=.func (.func f) #[] fb) (hf:P.funcs[f]?=some fn) (hname:(fn.name == "runtime.NumGoroutine")=false) (hbd:fn.body=some c) :
  stepG P main (G (b.at a (.code (.rangeFunc g ps assign body)::k)) cs) w =
   .go (G (Frame.enter P f (#[.func (.yield (w.heap.size+1)) #[] #[]]++fb) .normal) (b.at ⟨a.tmps,{ target:=.collected w.heap.size,args:=#[] }::a.defers⟩ (.inRangeFunc (w.heap.size+1)::k)::cs)) ((w.alloc (.deferred (some []))).alloc (.loop (J1s b.fn a.tmps ps assign body w.heap.size))) #[]:=by
 have hk':(b.kind == CallKind.early)=false:=by simpa using hk
 have hname':¬ fn.name= "runtime.NumGoroutine":=by simpa using hname
 have hev:∀ fr:Frame,fr.fn=b.fn->fr.tmps=a.tmps->fr.eval g=.func (.func f) #[] fb:=fun fr _ h=>by rw [<- hg];unfold Frame.eval Act.eval;cases g<;>simp [h]
 simp [G,stepG,stepG.exec,Frame.at,Sem.runT_eq,hb,Instr.enterLoop,GStep.after,seen_none,stepG.apply,resolve,hev,Deferred.ofValue,invoke,callFunc,hf,hname',hbd,J1s,hk'];rfl
theorem Jug {r:Nat} {o:Obj} (h:w.heap[r]?=some o) (hc:∀ c e f,o≠.cells c e f) (es:Array Event):(getObj r).events P w es=es.push ⟨.obj r,false,o.isChan⟩:=by
 cases o with
 | cells c e f=>exact absurd rfl (hc c e f)
 | _=>simp [getObj,Sem.events,Sem.runT,h,-Sem.runT_eq]
theorem Juh {r:Nat} {o o':Obj} (h:w.heap[r]?=some o) (hc:∀ c e f,o≠.cells c e f) (es:Array Event):(setObj r o').events P w es=es.push ⟨.obj r,true,o'.isChan⟩:=by
 cases o with
 | cells c e f=>exact absurd rfl (hc c e f)
 | _=>simp [setObj,Sem.events,Sem.runT,h,-Sem.runT_eq]
theorem Jfl (hq:(P.funcs[b.fn]?).any (·.norace)=false) {l:Nat} {r:Loop} (h:w.heap[l]?=some (.loop r)) (hb:r.state≠.busy) :
  stepG P main (G (b.at a (.endRangeFunc l::k)) cs) w=.go (G (b.at a ((r.pending.map Item.code).toList++k)) cs) (w.putObj l (.loop { r with state:=.exhausted })) #[⟨.obj l,false,false⟩,⟨.obj l,true,false⟩]:=by
 have he:=run_endLoop (P:=P) h hb;have hv:(Instr.endLoop l).events P w #[]=#[⟨.obj l,false,false⟩,⟨.obj l,true,false⟩]:=by
  have hs:=run_setObj_loop (P:=P) (.loop { r with state:=.exhausted }) h;simp [Instr.endLoop,Instr.getLoop,Sem.events_bind,Sem.run_bind,run_getObj_loop h,hs,Result.andThen,hb,Jug h (by simp),Juh h (by simp),Obj.isChan]
 simp [G,stepG,stepG.exec,Frame.at,Sem.runT_eq,he,hv,GStep.after,seen_eq hq]
theorem Jdo (hq:(P.funcs[b.fn]?).any (·.norace)=false) {D:Nat} {ds:List Deferred} {todo:List Item} (h:w.heap[D]?=some (.deferred (some []))) (hd:a.defers={ target:=.collected D,args:=#[] }::ds) :
  stepG P main (G { b.at a todo with mode:=.returning } cs) w=.go (G { b.at ⟨a.tmps,ds⟩ todo with mode:=.returning } cs) (w.putObj D (.deferred none)) #[⟨.obj D,false,false⟩,⟨.obj D,true,false⟩]:=by
 have he:=run_takeDeferred (P:=P) h;have hv:(Instr.takeDeferred D).events P w #[]=#[⟨.obj D,false,false⟩,⟨.obj D,true,false⟩]:=by
  have g1:(getObj D).run P w=.ok (.deferred (some [])) w:=by simp [getObj,Sem.run,h]
  have s1:(setObj D (.deferred none)).run P w=.ok () (w.putObj D (.deferred none)):=by simp [setObj,Sem.run,h,World.putObj]
  simp [Instr.takeDeferred,Sem.events_bind,Sem.run_bind,g1,s1,Result.andThen,Jug h (by simp),Juh h (by simp),Obj.isChan]
 simp [G,stepG,unwind,Frame.at,hd,callDeferred,Sem.runT_eq,he,hv,GStep.after,seen_eq hq]
theorem Jja {fn:Func} {todo:List Item} {c:Frame} {v:Value} (hn:b.kind=.normal) (hd:a.defers=[]) (hf:P.funcs[b.fn]?=some fn) (hr:(results fn a.tmps).run P w=.ok v w) :
  stepG P main (G { b.at a todo with mode:=.returning } (c::cs)) w=.go (G (c.finish v) cs) w (seen P b.fn ((results fn a.tmps).events P w #[])):=by
 simp [G,stepG,unwind,doReturn,Frame.at,hn,hd,hf,hr,GStep.after]
end
section
variable {C:Cx} {S:Kn} {W E:Nat->Prop} {w:World} {B b₀:Frame} {a a₀:Act} {k:List Item} {cs:List Frame} {t:Array Value} {ds:List Deferred} {Post:(Nat->Prop)->Goroutine->World->Prop}
theorem Jy2 {α:Type} {H:Array α} {n:Nat} {o:α} (h:H[n]?=some o):n<H.size:=(Ja3.1 h).1
theorem J6 {g g':Goroutine} {P:Program} (hs:∀ w1,stepG P true g w1=.go g' w1 #[]) (hr:g.status=.running) (kn:∀ d,Reach P Post W g' (w.at d)):Reach P Post W g w:=
 Reach.idle hs hr fun w1 r1=>by obtain ⟨d,rfl⟩:=r1;exact kn d
theorem Reach.call {P:Program} {ops:Array Oper} {i:Nat} {rest:List Nat} {o:Oper} {f:FuncId} {fn:Func} {c:Code} {ags:Array Operand} {ats:Array TypeId} (ho:ops[i]?=some o) (hw:Region.wanted o (yielded ops a.tmps)=true) (hk:B.kind≠.early)
  (hop:o.op=.call { callee:=.value (.func f),args:=ags,argTypes:=ats }) (hf:P.funcs[f]?=some fn) (hname:(fn.name == "runtime.NumGoroutine")=false) (hbd:fn.body=some c)
  (kn:∀ d,Reach P Post W (G ((base f).at { tmps:=ags.map a.eval++Array.replicate (fn.ntmps-(ags.map a.eval).size) undef,defers:=[] } [.code c]) (B.at a (.inRegion ops (i::rest)::k)::cs)) (w.at d)) :
  Reach P Post W (G (B.at a (.inRegion ops (i::rest)::k)) cs) w:=by
 refine J6 (fun w1=>?_) rfl kn;have hb':fn.body.isNone=false:=by rw [hbd];rfl
 rw [stepG_enter ho hw hk (run_call_body hop hf hname hb'),enter_at _ hf hbd];have:listed P B.fn a o w1=#[]:=by unfold listed;rw [events_call_body hop hf hname hb'];exact seen_none P _
 rw [this]
theorem Reach.leave1 {P:Program} {fn:Func} {todo:List Item} {ops:Array Oper} {i:Nat} {rest:List Nat} {x:Tmp} (hn:B.kind=.normal) (hd:a.defers=[]) (hf:P.funcs[B.fn]?=some fn) (hr:fn.results=#[.tmp x])
  (kn:∀ d,Reach P Post W (G (b₀.at (a₀.put ((ops[i]?).bind (·.dst)) (a.tmps.getD x undef)) (.inRegion ops rest::k)) cs) (w.at d)) :
  Reach P Post W (G { B.at a todo with mode:=.returning } (b₀.at a₀ (.inRegion ops (i::rest)::k)::cs)) w:=by
 refine J6 (fun w1=>?_) rfl kn;rw [stepG_leave hn hd hf (results_tmp hr _ P w1) (events_results_tmp hr _ _),Frame.finish_at]
theorem Reach.Jy3 {P:Program} {fn:Func} {todo:List Item} {l:Nat} (hn:B.kind=.normal) (hd:a.defers=[]) (hf:P.funcs[B.fn]?=some fn) (hr:fn.results=#[])
  (kn:∀ d,Reach P Post W (G (b₀.at a₀ (.endRangeFunc l::k)) cs) (w.at d)) :
  Reach P Post W (G { B.at a todo with mode:=.returning } (b₀.at a₀ (.inRangeFunc l::k)::cs)) w:=by
 refine J6 (fun w1=>?_) rfl kn;rw [stepG_leave hn hd hf (results_none hr _ P w1) (events_results_none hr _ _)];simp [Frame.finish,Frame.at]
theorem BOk.ext {E':Nat->Prop} (h:BOk C S W E w) (e:∀ b,E' b↔E b):BOk C S W E' w:=by have:E'=E:=funext fun b=>propext (e b);rw [this];exact h
theorem Reach.range (hst:C.st=false) (hB:BOk C S W E w) (ht:TmR C S B.fn (idE E) t t) (hro:B.roundOf=none) (hk:B.kind≠.early) {g:Operand} {ps:Array Tmp} {assign body:Code} {f:FuncId} {fb:Array Value} {fn:Func} {c:Code}
  (hg:(⟨t,ds⟩:Act).eval g=.func (.func f) #[] fb) (hf:C.P.funcs[f]?=some fn) (hname:(fn.name == "runtime.NumGoroutine")=false) (hbd:fn.body=some c) (ok1:okP C S B.fn assign) (ok2:okP C S B.fn body)
  (kn:∀ w',BOk C S W (fun b=>(E b\/b=w.heap.size)\/b=w.heap.size+1) w'->w'.heap.size=w.heap.size+2->(∀ b,E b->w'.heap[b]?=w.heap[b]?)->w'.heap[w.heap.size]?=some (.deferred (some [])) ->
   w'.heap[w.heap.size+1]?=some (.loop (J1s B.fn t ps assign body w.heap.size)) ->
   Reach C.P Post W (G ((base f).at { tmps:=(#[.func (.yield (w.heap.size+1)) #[] #[]]++fb)++Array.replicate (fn.ntmps-(#[Value.func (.yield (w.heap.size+1)) #[] #[]]++fb).size) undef,defers:=[] } [.code c]) (B.at ⟨t,{ target:=.collected w.heap.size,args:=#[] }::ds⟩ (.inRangeFunc (w.heap.size+1)::k)::cs)) w') :
  Reach C.P Post W (G (B.at ⟨t,ds⟩ (.code (.rangeFunc g ps assign body)::k)) cs) w:=by
 generalize hn:w.heap.size=n at *;have hE:∀ b,E b->b<n:=fun b hb=>hn▸hB.lt hb;refine Reach.hand (f:=fun w1=>(w1.alloc (.deferred (some []))).alloc (.loop (J1s B.fn t ps assign body w1.heap.size)))
  (g':=G ((base f).at { tmps:=(#[.func (.yield (n+1)) #[] #[]]++fb)++Array.replicate (fn.ntmps-(#[Value.func (.yield (n+1)) #[] #[]]++fb).size) undef,defers:=[] } [.code c]) (B.at ⟨t,{ target:=.collected n,args:=#[] }::ds⟩ (.inRangeFunc (n+1)::k)::cs))
  hB rfl rfl rfl rfl (fun w1 r1=>?_) fun w1 w2 r1 r2 hW=>?_
 ·have hs1:w1.heap.size=n:=hn▸r1.same rfl;refine ⟨#[],?_,?_⟩
  ·rw [Jdn hro hk hg hf hname hbd,enter_at _ hf hbd,hs1]
  ·refine ⟨by simp;omega,fun b hb _=>?_,rfl,rfl,Ja2 _,fun e he=>by simp at he⟩;rw [Below.heap_alloc _ _ b (by simp;omega),Below.heap_alloc _ _ b hb]
 ·have hs1:w1.heap.size=n:=hn▸r1.same rfl;have hg1:∀ b,grown E w1 ((w1.alloc (.deferred (some []))).alloc (.loop (J1s B.fn t ps assign body w1.heap.size))) b↔(E b\/b=n)\/b=n+1:=fun b=>by
   simp only [grown,World.size_alloc,hs1];constructor
   ·rintro (h|h)
    ·exact .inl (.inl h)
    ·rcases Jb5 b (n+1) with h1|h1
     ·exact .inl (.inr (by omega))
     ·exact .inr (by omega)
   ·rintro ((h|h)|h)
    ·exact .inl h
    ·exact .inr (by omega)
    ·exact .inr (by omega)
  have hB1:=hB.rely hst r1;have nW:∀ b,W b->b≠n/\b≠n+1:=fun b hb=>⟨fun e=>hW b hb ((hg1 b).2 (.inl (.inr e))),fun e=>hW b hb ((hg1 b).2 (.inr e))⟩;have hB2:=hB1.push hst (o:=.deferred (some [])) ⟨C.lax hst _,_,rfl,.nil⟩ fun h=>(nW _ h).1 hs1;have hB3:=hB2.push hst (o:=.loop (J1s B.fn t ps assign body w1.heap.size)) ⟨C.lax hst _,_,rfl,⟨rfl,rfl,rfl,?_,rfl,rfl,rfl,⟨rfl,.inl (.inr rfl)⟩,ok1,ok2,fun c hc=>(by cases hc),hst⟩⟩ fun h=>(nW _ h).2 (by rw [World.size_alloc,hs1])
  ·have hB4:=(hB3.ext fun b=>(hg1 b).trans (by rw [World.size_alloc,hs1])).rely hst r2;have e1:w2.heap.size=n+2:=(r2.same rfl).trans (by simp;omega);have e2:∀ b,E b->w2.heap[b]?=w.heap[b]?:=fun b hb=>(r2.blocks b ((hg1 b).2 (.inl (.inl hb)))).trans ((Below.heap_alloc _ _ b (by have:=hE b hb;simp;omega)).trans ((Below.heap_alloc _ _ b (by have:=hE b hb;omega)).trans (r1.blocks b hb)));have e3:w2.heap[n]?=some (.deferred (some [])):=(r2.blocks n ((hg1 n).2 (.inl (.inr rfl)))).trans ((Below.heap_alloc _ _ n (by simp;omega)).trans (by rw [<- hs1];exact World.alloc_heap_new _ _));have e4:w2.heap[n+1]?=some (.loop (J1s B.fn t ps assign body n)):=(r2.blocks (n+1) ((hg1 _).2 (.inr rfl))).trans (by have:=World.alloc_heap_new (w1.alloc (.deferred (some []))) (.loop (J1s B.fn t ps assign body w1.heap.size));rw [World.size_alloc,hs1] at this;rw [hs1];exact this);exact kn w2 (hB4.ext fun b=>(hg1 b).symm) e1 e2 e3 e4
  ·exact ⟨rfl,fun i x x' hi h1 h2=>(ht.at_ i x x' hi h1 h2).mono fun b b' h=>⟨h.1,.inl (.inl h.2)⟩⟩
theorem J90 {w1 w2:World} (h:w2.heap.size=w1.heap.size) (b:Nat):grown E w1 w2 b↔E b:=by
 simp only [grown,h];constructor
 ·rintro (h|h)
  ·exact h
  ·omega
 ·exact .inl
theorem Reach.put (hst:C.st=false) (hB:BOk C S W E w) {g g':Goroutine} {D:Nat} {o o':Obj} (hD:E D) (ho:w.heap[D]?=some o) (ho':J3g C (okP C S) (idE E) D o' o') (hr:g.status=.running) (hr':g'.status=.running) (hd:g'.dying=none) (hof:g'.offers=none)
  (hs:∀ w1,w1.heap[D]?=some o->stepG C.P true g w1=.go g' (w1.putObj D o') #[⟨.obj D,false,false⟩,⟨.obj D,true,false⟩])
  (kn:∀ w',BOk C S W E w'->w'.heap.size=w.heap.size->(∀ b,E b->b≠D->w'.heap[b]?=w.heap[b]?)->w'.heap[D]?=some o'->Reach C.P Post W g' w'):Reach C.P Post W g w:=by
 refine Reach.hand (f:=fun w1=>w1.putObj D o') hB hr hr' hd hof (fun w1 r1=>⟨_,hs w1 ((r1.blocks D hD).trans ho),?_⟩) fun w1 w2 r1 r2 hW=>?_
 ·refine ⟨by simp,fun b hb hn=>World.putObj_heap_other fun e=>hn (e▸hD),rfl,rfl,Ja2 _,fun e he=>?_⟩;simp only [List.mem_toArray,Jb8,Jc2,or_false] at he;rcases he with rfl|rfl
  ·exact ⟨⟨.inl hD,fun h=>by cases h⟩,rfl⟩
  ·exact ⟨⟨.inl hD,fun _=>.inl hD⟩,rfl⟩
 ·have hg1:∀ b,grown E w1 (w1.putObj D o') b↔E b:=J90 (by simp);have hB2:=(hB.rely hst r1).put hst hD ho';have hB3:=(hB2.ext hg1).rely hst r2;have hlt:D<w1.heap.size:=by have:=Jy2 ho;have:=r1.same rfl;omega
  exact kn w2 (hB3.ext fun b=>(hg1 b).symm) ((r2.same rfl).trans (by simpa using r1.same rfl)) (fun b hb hne=>(r2.blocks b ((hg1 b).2 hb)).trans ((World.putObj_heap_other hne).trans (r1.blocks b hb))) ((r2.blocks D ((hg1 D).2 hD)).trans (World.putObj_heap_same hlt))
theorem Reach.Jsn (hst:C.st=false) (hB:BOk C S W E w) {l:Nat} {r:Loop} (hl:E l) (h:w.heap[l]?=some (.loop r)) (hb:r.state≠.busy) (hp:r.pending=none) (hq:(C.P.funcs[B.fn]?).any (·.norace)=false)
  (kn:∀ w',BOk C S W E w'->w'.heap.size=w.heap.size->(∀ b,E b->b≠l->w'.heap[b]?=w.heap[b]?)->Reach C.P Post W (G (B.at a k) cs) w') :
  Reach C.P Post W (G (B.at a (.endRangeFunc l::k)) cs) w:=by
 obtain ⟨s1,l',e1,e2⟩:=hB.wr.obj l l _ _ ⟨rfl,hl⟩ h h;cases e1;refine Reach.put hst hB hl h (o':=.loop { r with state:=.exhausted }) ⟨s1,_,rfl,⟨rfl,rfl,rfl,e2.tmps,rfl,rfl,rfl,e2.defers,e2.ok1,e2.ok2,e2.ok3,e2.st⟩⟩ rfl rfl rfl rfl (fun w1 h1=>?_) fun w' h1 h2 h3 _=>kn w' h1 h2 h3;rw [Jfl hq h1 hb,hp];rfl
theorem Reach.collected (hst:C.st=false) (hB:BOk C S W E w) {D:Nat} {todo:List Item} (hD:E D) (h:w.heap[D]?=some (.deferred (some []))) (hq:(C.P.funcs[B.fn]?).any (·.norace)=false)
  (kn:∀ w',BOk C S W E w'->w'.heap.size=w.heap.size->(∀ b,E b->b≠D->w'.heap[b]?=w.heap[b]?)->Reach C.P Post W (G { B.at ⟨t,ds⟩ todo with mode:=.returning } cs) w') :
  Reach C.P Post W (G { B.at ⟨t,{ target:=.collected D,args:=#[] }::ds⟩ todo with mode:=.returning } cs) w:=by
 refine Reach.put hst hB hD h (o':=.deferred none) ⟨C.lax hst _,_,rfl,trivial⟩ rfl rfl rfl rfl (fun w1 h1=>?_) fun w' h1 h2 h3 _=>kn w' h1 h2 h3;rw [Jdo hq h1 rfl]
theorem Reach.Jw1 (hst:C.st=false) (hB:BOk C S W E w) {fn:Func} {todo:List Item} {ops:Array Oper} {i:Nat} {rest:List Nat} {x y:Tmp} {tx ty:TypeId} {bx by_:Nat} {u v:Value} (hn:B.kind=.normal) (hd:a.defers=[]) (hf:C.P.funcs[B.fn]?=some fn) (hq:(C.P.funcs[B.fn]?).any (·.norace)=false) (hr:fn.results=#[.cell x tx,.cell y ty])
  (hx:a.tmps.getD x undef=.pointer (some ⟨bx,0,none⟩)) (hy:a.tmps.getD y undef=.pointer (some ⟨by_,0,none⟩)) (Ex:E bx) (Ey:E by_)
  (hl:∀ w1,(∀ b,b=bx\/b=by_->w1.heap[b]?=w.heap[b]?)->(results fn a.tmps).run C.P w1=.ok (.tuple #[u,v]) w1/\∀ e∈(results fn a.tmps).events C.P w1 #[],∃ ad:Addr,(ad.block=bx\/ad.block=by_)/\e=⟨.cell ad,false,false⟩)
  (kn:∀ w',BOk C S W E w'->w'.heap.size=w.heap.size->(∀ b,E b->w'.heap[b]?=w.heap[b]?)->Reach C.P Post W (G (b₀.at (a₀.put ((ops[i]?).bind (·.dst)) (.tuple #[u,v])) (.inRegion ops rest::k)) cs) w') :
  Reach C.P Post W (G { B.at a todo with mode:=.returning } (b₀.at a₀ (.inRegion ops (i::rest)::k)::cs)) w:=by
 refine Reach.hand (f:=fun w1=>w1) (g':=G (b₀.at (a₀.put ((ops[i]?).bind (·.dst)) (.tuple #[u,v])) (.inRegion ops rest::k)) cs) hB rfl rfl rfl rfl (fun w1 r1=>?_) fun w1 w2 r1 r2 hW=>?_
 ·obtain ⟨h1,h2⟩:=hl w1 fun b hb=>r1.blocks b (by rcases hb with rfl|rfl;exact Ex;exact Ey);refine ⟨_,by rw [Jja hn hd hf h1,Frame.finish_at],⟨Ja2 _,fun _ _ _=>rfl,rfl,rfl,Ja2 _,fun e he=>?_⟩⟩;rw [seen_eq hq fun e he=>?_] at he
  ·obtain ⟨ad,h3,rfl⟩:=h2 e he;exact ⟨⟨.inl (by rcases h3 with h|h<;>rw [h];exact Ex;exact Ey),fun h=>by cases h⟩,rfl⟩
  ·obtain ⟨ad,h3,rfl⟩:=h2 e he;simp
 ·have hg1:∀ b,grown E w1 w1 b↔E b:=J90 rfl;have hB3:=((hB.rely hst r1).ext hg1).rely hst r2;exact kn w2 (hB3.ext fun b=>(hg1 b).symm) ((r2.same rfl).trans (r1.same rfl)) fun b hb=>(r2.blocks b ((hg1 b).2 hb)).trans (r1.blocks b hb)
end
end Go.Sim
namespace Go.Sim.Z
open Go Go.Proofs Go.RowKit Go.Maps Go.Sort Go.Shelf
noncomputable def b9:Code:=Tryz.f9.body.getD .skip
noncomputable def B9:Code:=fC (sC (sC (sC b9)))
def Jui:Code->Code | .rangeFunc _ _ a _=>a|c=>c
def Juj:Code->Code | .rangeFunc _ _ _ b=>b|c=>c
noncomputable def Jai:Code:=Jui (bC (sC B9))
noncomputable def Jaj:Code:=Juj (bC (sC B9))
theorem J03r (f:Nat->Value):((List.range 33).map f).toArray=#[f 0,f 1,f 2,f 3,f 4,f 5,f 6,f 7,f 8,f 9,f 10,f 11,f 12,f 13,f 14,f 15,f 16,f 17,f 18,f 19,f 20,f 21,f 22,f 23,f 24,f 25,f 26,f 27,f 28,f 29,f 30,f 31,f 32]:=by rfl
theorem Juk {T:Array Value} (h:T.size=33):∃ f:Nat->Value,T=#[f 0,f 1,f 2,f 3,f 4,f 5,f 6,f 7,f 8,f 9,f 10,f 11,f 12,f 13,f 14,f 15,f 16,f 17,f 18,f 19,f 20,f 21,f 22,f 23,f 24,f 25,f 26,f 27,f 28,f 29,f 30,f 31,f 32]:=⟨fun i=>T.getD i undef,(Jj6 h).trans (J03r _)⟩
structure QC where
 kv:Value
 rv:Value
 hv:Value
 lv:Value
 g:List Int
 B:Bun
def QC.val (q:QC):Value:=.agg #[q.kv,.int .i64 q.B.n,q.rv,q.hv,q.lv]
def QC.cells (q:QC):List Value:=[q.kv,.int .i64 q.B.n,q.rv,q.hv,q.lv]
def QC.slices (q:QC):Prop:=∃ a1 l1 c1 a2 l2 c2 a3 l3 c3 a4 l4 c4,q.kv=.slice a1 l1 c1/\q.rv=.slice a2 l2 c2/\q.hv=.slice a3 l3 c3/\q.lv=.slice a4 l4 c4
theorem Jy4:(Tryz.prog.info? 39).map (fun i=>(i.zero,i.size,i.bytes))=some (some (.agg #[.slice none 0 0,.int .i64 0,.slice none 0 0,.slice none 0 0,.slice none 0 0]),5,104):=by kernel_rfl
structure QAt (base:Nat) (T9:Array Value) (mo ob l D:Nat) (most:Int) (L:List QC) (W:World):Prop where
 box:∃ v,W.heap[ob]?=some (.cells #[v] 28)/\W.ownsRow base 39 5 v L.length (L.flatMap QC.cells)
 lp:W.heap[l]?=some (.loop (J1s 9 T9 #[19,20] Jai Jaj D))
 mo:W.heap[mo]?=some (.cells #[.int .i64 most] 3)
 D:W.heap[D]?=some (.deferred (some []))
def KQ (base l ob:Nat) (W W':World):Prop:=W.heap.size<=W'.heap.size/\∀ b o,W.heap[b]?=some o->b≠l->b≠ob->(base<=b->∀ cur,o≠.cells cur 39)->W'.heap[b]?=some o
theorem Jfm {base:Nat} {e:TypeId} {size:Nat} {v:Value} {n:Nat} {xs:List Value} {w w':World} (h:w.ownsRow base e size v n xs) (hh:∀ (g:Nat) (cur:Array Value),w.heap[g]?=some (Obj.cells cur e)->w'.heap[g]?=some (Obj.cells cur e)):w'.ownsRow base e size v n xs:=by
 refine ⟨h.1,?_⟩;rcases h.2 with hn|⟨g,cap,cur,rfl,hb,hgg,rest⟩
 ·exact .inl hn
 ·exact .inr ⟨g,cap,cur,rfl,hb,hh g cur hgg,rest⟩
section
variable {base mo ob l D m:Nat} {f:Nat->Value} {most:Int} {L:List QC} {W:World}
theorem Jy5 (q:QC) (hq:q.slices) (hJ:QAt base #[f 0,f 1,f 2,f 3,f 4,f 5,f 6,pt mo,f 8,f 9,pt ob,f 11,f 12,f 13,f 14,f 15,f 16,f 17,f 18,f 19,f 20,f 21,f 22,f 23,f 24,f 25,f 26,f 27,f 28,f 29,f 30,f 31,f 32] mo ob l D most L W) (hlt:(L.length:Int)<most) (hn:L.length<=1000) (hb:base<=W.heap.size) :
  YieldAt Fence.wide m Tryz.prog l #[q.val,.nilIface] W fun e W'=>e=.returned (.bool true)/\QAt base #[f 0,f 1,f 2,f 3,f 4,f 5,f 6,pt mo,f 8,f 9,pt ob,f 11,f 12,f 13,f 14,f 15,f 16,f 17,f 18,f 19,f 20,f 21,f 22,f 23,f 24,f 25,f 26,f 27,f 28,f 29,f 30,f 31,f 32] mo ob l D most (L++[q]) W'/\KQ base l ob W W':=by
 obtain ⟨i0,hi,hz0,hz1,hz2⟩:=info_parts Jy4;obtain ⟨v,hv,hown⟩:=hJ.box;obtain ⟨a1,l1,c1,a2,l2,c2,a3,l3,c3,a4,l4,c4,hk1,hk2,hk3,hk4⟩:=hq;refine ⟨9,#[f 0,f 1,f 2,f 3,f 4,f 5,f 6,pt mo,f 8,f 9,pt ob,f 11,f 12,f 13,f 14,f 15,f 16,f 17,f 18,q.val,.nilIface,f 21,f 22,f 23,f 24,f 25,f 26,f 27,f 28,f 29,f 30,f 31,f 32],Jai,Jaj,by simpa [J1s] using run_yield (P:=Tryz.prog) (args:=#[q.val,.nilIface]) hJ.lp rfl,roundIn_of_wpIn trivial ?_⟩;unfold QC.val;rw [hk1,hk2,hk3,hk4];simp only [Jai,Jaj,B9,b9,Jui,Juj,fC,sC,bC,Tryz.f9,Ja6]
 gi_wp2_with gi_round_op_a
 obtain ⟨va,vc,rfl⟩:∃ va vc,v=.slice va L.length vc:=by
  rcases hown.2 with ⟨rfl,h0⟩|⟨g,cap,cur,rfl,_⟩
  ·exact ⟨none,0,by rw [h0]⟩
  ·exact ⟨_,_,rfl⟩
 obtain ⟨W1,hW1⟩:∃ W1,W.alloc (.cells #[.slice a1 l1 c1,.int .i64 q.B.n,.slice a2 l2 c2,.slice a3 l3 c3,.slice a4 l4 c4] 39)=W1:=⟨_,rfl⟩;rw [hW1];have hg1:W.grownBy W1 none:=by rw [<- hW1];exact World.grownBy_alloc _ _ _
 have o1:∀ b,b<W.heap.size->W1.heap[b]?=W.heap[b]?:=fun b h=>by rw [<- hW1];exact J7 _ h
 have hbx:W1.heap[W.heap.size]?=some (.cells #[.slice a1 l1 c1,.int .i64 q.B.n,.slice a2 l2 c2,.slice a3 l3 c3,.slice a4 l4 c4] 39):=by rw [<- hW1];exact Ja _
 have hll:=Ji hJ.lp;have hol:=Ji hv;have hml:=Ji hJ.mo;have hDl:=Ji hJ.D;have hs1:W1.heap.size=W.heap.size+1:=by rw [<- hW1];simp
 have Jy6:=(o1 _ hll).trans hJ.lp;have hv1:=(o1 _ hol).trans hv;have Jy7:=(o1 _ hml).trans hJ.mo;have hD1:=(o1 _ hDl).trans hJ.D;have hown1:=Jfm hown fun g cur h=>(o1 g (Ji h)).trans h;have hbr:=run_beginRound (P:=Tryz.prog) Jy6 rfl;obtain ⟨W2,hW2⟩:∃ W2,W1.putObj l (.loop { J1s 9 #[f 0,f 1,f 2,f 3,f 4,f 5,f 6,pt mo,f 8,f 9,pt ob,f 11,f 12,f 13,f 14,f 15,f 16,f 17,f 18,f 19,f 20,f 21,f 22,f 23,f 24,f 25,f 26,f 27,f 28,f 29,f 30,f 31,f 32] #[19,20] Jai Jaj D with state:=.busy })=W2:=⟨_,rfl⟩;rw [hW2] at hbr;have hs2:W2.heap.size=W.heap.size+1:=by rw [<- hW2];simp [hs1]
 have o2:∀ b,b≠l->W2.heap[b]?=W1.heap[b]?:=fun b h=>by rw [<- hW2];exact World.putObj_heap_other h
 have Jjb:∀ {b o},W1.heap[b]?=some o->(∀ r,o≠.loop r)->b≠l:=fun h hn e=>by rw [e,Jy6] at h;exact hn _ (Ja0 h).symm
 have Jy8:=Jjb hv1 (by simp);have hxl:=Jjb hbx (by simp);have Jy9:=Jjb Jy7 (by simp);have Jya:=Jjb hD1 (by simp);have hbx2:=(o2 _ hxl).trans hbx;have hv2:=(o2 _ Jy8).trans hv1;have Jyb:=(o2 _ Jy9).trans Jy7;have hD2:=(o2 _ Jya).trans hD1;have hlp2:W2.heap[l]?=some (.loop { J1s 9 #[f 0,f 1,f 2,f 3,f 4,f 5,f 6,pt mo,f 8,f 9,pt ob,f 11,f 12,f 13,f 14,f 15,f 16,f 17,f 18,f 19,f 20,f 21,f 22,f 23,f 24,f 25,f 26,f 27,f 28,f 29,f 30,f 31,f 32] #[19,20] Jai Jaj D with state:=.busy }):=by rw [<- hW2];exact World.putObj_heap_same (by omega)
 have hown2:=Jfm hown1 fun g cur h=>(o2 g (Jjb h (by simp))).trans h;have J07x:∀ cur,W2.heap[ob]?≠some (.cells cur 39):=fun cur h=>by rw [hv2] at h;simp at h
 have k0:=(cell_of hbx2 0).trans rfl;have k1:=(cell_of hbx2 1).trans rfl;have k2:=(cell_of hbx2 2).trans rfl;have k3:=(cell_of hbx2 3).trans rfl;have k4:=(cell_of hbx2 4).trans rfl;have kob:=(cell_of hv2 0).trans rfl;have kmo:=(cell_of Jyb 0).trans rfl;have hne:¬ (L.length:Int)=most:=by omega
 have hmax:maxLen=9223372036854775807:=by decide
 generalize hBx:W.heap.size=Bx at *;have hno:some ob≠(Value.slice va L.length vc).ownBlock:=by
  rcases ownsRow_ne_a hown2 hv2 (by simp) with h|h
  ·rw [h];simp
  ·exact fun e=>h e.symm
 have hb2:base<=W2.heap.size:=by omega
 have hs2':Hid (W2.heap.size=Bx+1):=hs2;clear hs2 hs1;refine ⟨W2,hbr,?_⟩
 gi_wp2_with (first
  | (gi_at_builtin;refine wpListIn_append_own _ rfl _ _ 28 rfl base 39 i0 _ 5 104 Tryz.underlying28 hi hz0 hz1 hz2 rfl (by decide) _ L.length _ rfl (Jfm hown2 fun g cur h=>(J7 _ (Ji h)).trans h) ⟨W2.heap.size,0,none⟩ 1 1 [.slice a1 l1 c1,.int .i64 q.B.n,.slice a2 l2 c2,.slice a3 l3 c3,.slice a4 l4 c4] rfl rfl J8e (by simp [Value.oneCell']) (by omega) (by omega) (by rw [size_alloc];omega) ?_;intro v' w3 hown3 hg3 hnil3
     have Jn6:w3.heap[ob]?=some (.cells #[.slice va L.length vc] 28):=(hg3.block ob (by rw [size_alloc];have:=Ji hv2;omega) hno).trans ((J7 _ (Ji hv2)).trans hv2);have kob3:=(cell_of Jn6 0).trans rfl;have qob3:=J02 Jn6 0;obtain ⟨va',vc',rfl⟩:∃ va' vc',v'=.slice va' (L.length+1) vc':=by
      rcases hown3.2 with ⟨rfl,h0⟩|⟨g,cap,cur,rfl,_⟩
      ·exact absurd h0 (by omega)
      ·exact ⟨_,_,rfl⟩)
  | gi_round_op_a)
 have hb2s:W2.heap.size=Bx+1:=hs2';have hg3:=(show World.grownBy _ w3 (Value.slice va L.length vc).ownBlock from hg3);have Jhh:∀ (b:Nat) (o:Obj),W2.heap[b]?=some o->(∀ cur,o≠.cells cur 39)->w3.heap[b]?=some o:=fun b o h hn=>by
  refine (hg3.block b (by rw [size_alloc];have:=Ji h;omega) ?_).trans ((J7 _ (Ji h)).trans h);rcases ownsRow_ne_a hown2 h hn with h1|h1
  ·rw [h1];simp
  ·exact fun e=>h1 e.symm
 have Jso:=Jhh l _ hlp2 (by simp);have Jyc:=Jhh mo _ Jyb (by simp);have hD3:=Jhh D _ hD2 (by simp);have hg3s:=hg3.size;rw [size_alloc] at hg3s;obtain ⟨W4,hW4⟩:∃ W4,w3.setCell ⟨ob,0,none⟩ (.slice va' (L.length+1) vc')=W4:=⟨_,rfl⟩;rw [hW4];have o4:∀ b,b≠ob->W4.heap[b]?=w3.heap[b]?:=fun b h=>by rw [<- hW4];exact Jk _ _ h
 have hob4:W4.heap[ob]?=some (.cells #[.slice va' (L.length+1) vc'] 28):=by rw [<- hW4,heap_set Jn6];rfl
 have hs4:W4.heap.size=w3.heap.size:=by rw [<- hW4];exact size_set _ _
 have Jn7:∀ {b:Nat} {o:Obj},w3.heap[b]?=some o->(∀ cur,o≠.cells cur 28)->b≠ob:=fun h hn e=>by rw [e,Jn6] at h;exact hn _ (Ja0 h).symm
 have Jyd:=(o4 _ (Jn7 Jso (by simp))).trans Jso;refine ⟨_,_,run_endRound none Jyd,rfl,⟨⟨_,(World.putObj_heap_other Jy8).trans hob4,?_⟩,World.putObj_heap_same (Ji Jyd),(World.putObj_heap_other Jy9).trans ((o4 _ (Jn7 Jyc (by simp))).trans Jyc),(World.putObj_heap_other Jya).trans ((o4 _ (Jn7 hD3 (by simp))).trans hD3)⟩,?_,fun b o hb hl ho h39=>?_⟩
 ·have h5:=Jfm hown3 (w':=W4.putObj l (.loop { { J1s 9 #[f 0,f 1,f 2,f 3,f 4,f 5,f 6,pt mo,f 8,f 9,pt ob,f 11,f 12,f 13,f 14,f 15,f 16,f 17,f 18,f 19,f 20,f 21,f 22,f 23,f 24,f 25,f 26,f 27,f 28,f 29,f 30,f 31,f 32] #[19,20] Jai Jaj D with state:=.busy } with state:=if (none:Option Code).isNone then .ready else .done,pending:=none })) fun g cur h=>(World.putObj_heap_other fun e=>by rw [e,Jso] at h;cases h).trans ((o4 g (Jn7 h (by simp))).trans h);have e:(L++[q]).flatMap QC.cells=L.flatMap QC.cells++[.slice a1 l1 c1,.int .i64 q.B.n,.slice a2 l2 c2,.slice a3 l3 c3,.slice a4 l4 c4]:=by simp [QC.cells,hk1,hk2,hk3,hk4]
  rw [e];simpa using h5
 ·rw [World.putObj_size];omega
 ·rw [World.putObj_heap_other hl,o4 b ho];have hW2:W2.heap[b]?=some o:=by rw [o2 b hl];exact (o1 b (by have:=Ji hb;omega)).trans hb
  rcases Jb5 b base with hlt|hge
  ·refine (hg3.block b (by rw [size_alloc];have:=Ji hW2;omega) ?_).trans ((J7 _ (Ji hW2)).trans hW2);rcases hown2.2 with ⟨e,_⟩|⟨g,cap,cur,e,hbg,_⟩
   ·rw [e];simp [Value.ownBlock]
   ·rw [e];simp only [Value.ownBlock,ne_eq,Jb2];omega
  ·exact Jhh b o hW2 (h39 hge)
end
end Go.Sim.Z
