/- PROVED HERE: laws that the statement rests on (parts Yf, Yg, Yh). Conditions: none. -/
import Derived.Deep.RegionHeld3
import Derived.Defers
import Derived.Recover
import Derived.Laws.Pointers
import Derived.Test.YtlcbehhbfglgaaaGreatE02
import Derived.Test.YtlcbehhbfglgaaaGreatE04
set_option linter.all false
namespace Go.Sim.Z
open Go Go.Proofs Go.RowKit
def pickZ (c n:Int):Int:=(if c<0 then -(c+1) else c) % n
theorem pickZ_bd {c n:Int} (hn:0<n):0≤pickZ c n∧pickZ c n<n:=⟨Int.emod_nonneg _ (by omega),Int.emod_lt_of_pos _ hn⟩
theorem pick_calls {c n:Int} (hc:-9223372036854775808≤c∧c≤9223372036854775807) (hn:0<n) (hn2:n≤9223372036854775807) (w:World) :
  Calls Tryz.prog 8 #[.int .i64 c,.int .i64 n] w fun e w'=>e=.returned (.int .i64 (pickZ c n))∧w'=w:=by
 obtain ⟨h1,h2⟩:=hc
 have e:c<0→pickZ c n=-(c+1).tmod n:=fun h=>by
  unfold pickZ
  rw [if_pos h,← Int.tmod_eq_emod_of_nonneg (by omega),Int.neg_tmod]
 have e2:0≤c→pickZ c n=c % n:=fun h=>by
  unfold pickZ
  rw [if_neg (by omega)]
 generalize pickZ c n=p at *
 go_enter Tryz.func8,Tryz.ntmps8
 go_wp2
 ·go_ret
  exact ⟨by rw [e (by assumption)];rfl,rfl⟩
 ·go_ret
  exact ⟨by rw [e2 (by assumption)];rfl,rfl⟩
def bnds:List Int:=[-5,0,10,1000]
theorem config_calls {c:Int} (hc:-9223372036854775808≤c∧c≤9223372036854775807) (w:World) :
  Calls Tryz.prog 10 #[.int .i64 c] w fun e w'=>e=.returned (.agg #[.int .i64 3,.int .i64 (4+pickZ c 1048576 % 3),.int .i64 (1+pickZ c 1048576 / 3 % 8),.slice (some ⟨w.heap.size+1,0,none⟩) 4 4,.int .i64 c])∧w'=(w.alloc (.cells #[.int .i64 3,.int .i64 (4+pickZ c 1048576 % 3),.int .i64 (1+pickZ c 1048576 / 3 % 8),.slice (some ⟨w.heap.size+1,0,none⟩) 4 4,.int .i64 c] 35)).alloc (.cells #[.int .i64 (-5),.int .i64 0,.int .i64 10,.int .i64 1000] 3):=by
 have hp:=pick_calls hc (n:=1048576) (by omega) (by omega)
 have hb:=pickZ_bd (c:=c) (n:=1048576) (by omega)
 generalize pickZ c 1048576=p at *
 obtain ⟨b1,b2⟩:=hb
 go_enter Tryz.func10,Tryz.ntmps10
 go_wp2_with (go_at_call 8;refine (hp _).mono ?_;rintro e w1 ⟨rfl,rfl⟩)
 refine bodyPost_ret (v:=.agg #[.int .i64 3,.int .i64 (4+p % 3),.int .i64 (1+p / 3 % 8),.slice (some ⟨w.heap.size+1,0,none⟩) 4 4,.int .i64 c]) ?_ rfl ?_
 ·simp [results,Tryz.results10,go_sem]
 ·exact ⟨rfl,rfl⟩
def cfgV (c:CfgD) (dims seed:Int):Array Value:=#[.int .i64 dims,.int .i64 c.bits,.int .i64 c.K,.slice c.ba c.nb c.cb,.int .i64 seed]
set_option maxRecDepth 100000 in
set_option maxHeartbeats 4000000 in
theorem valid_calls {fr:Bool} {w:World} {c:CfgD} {bb cap:Nat} {bs:List Int} (hc:CfgOk c) (h:Row fr w bb 3 .i64 bs cap) (hba:c.ba=some ⟨bb,0,none⟩) (hnb:c.nb=bs.length) (hp:bs.Pairwise (· < ·)) (seed:Int) :
  Calls Tryz.prog 46 #[.agg (cfgV c 3 seed)] w fun e w'=>e=.returned (.bool true)∧Tch w.heap.size M0 w w':=by
 obtain ⟨b1,b2,k1,k2,nb⟩:=hc
 have hcell:∀ wr,Tch w.heap.size M0 w wr→∀ i,i<bs.length→wr.cell? ⟨bb,i,none⟩=some (.int .i64 (bs.getD i 0)):=fun wr ht i hi=>(h.tch ht h.lt fun x=>x).cell hi
 have hinc:∀ i,0<i→i<bs.length→bs.getD (i-1) 0<bs.getD i 0:=fun i h0 hi=>by
  have:=List.pairwise_iff_getElem.1 hp (i-1) i (by omega) hi (by omega)
  simpa [List.getD_eq_getElem?_getD,hi,show i-1<bs.length by omega] using this
 clear h hp
 rw [hnb] at nb
 unfold cfgV
 rw [hba,hnb]
 generalize bs.length=n at *
 generalize c.bits=bits at *
 generalize c.K=K at *
 generalize c.cb=cb at *
 go_enter Tryz.func46,Tryz.ntmps46
 go_wp2
 go_loopw [39] (fun i wr=>∃ k:Nat,k≤n∧i=.int .i64 k∧Tch w.heap.size M0 w wr∧wr.cell? ⟨w.heap.size,3,none⟩=some (.slice (some ⟨bb,0,none⟩) n cb)) (fun i _=>n-(RowKit.intOf i).toNat)
 case atStart=>exact ⟨0,by omega,rfl,Tch.refl.alloc (Nat.le_refl _) _,(cell_of (heap_new _) 3).trans rfl⟩
 case round=>
  obtain ⟨k,hk,rfl,ht,hb⟩:=hrel
  rcases Nat.lt_or_ge k n with hlt|hge
  ·have g2:=hcell _ ht k hlt
   have hlt':(k:Int)<n:=by omega
   rcases Nat.eq_zero_or_pos k with hk0|hpos
   ·have hk1:¬ (0:Int)<k:=by omega
    clear hcell hinc g2
    go_wp2
    go_region
    go_wp2
    refine ⟨⟨k+1,by omega,by go_num,ht.drew,hb⟩,by simp [RowKit.intOf];omega⟩
   ·have g1:=hcell _ ht (k-1) (by omega)
    have hi:=hinc k hpos hlt
    have hk1:(k:Int)-1=((k-1:Nat):Int):=by omega
    have hp1:(0:Int)<k:=by omega
    generalize bs.getD (k-1) 0=x at *
    generalize bs.getD k 0=y at *
    clear hcell hinc
    go_wp2
    go_region
    go_wp2
    refine ⟨⟨k+1,by omega,by go_num,ht.drew,hb⟩,by simp [RowKit.intOf];omega⟩
  ·have hge':¬ ((k:Int)<n):=by omega
   clear hcell hinc
   go_wp2
   go_ret
   exact ⟨rfl,ht⟩
end Go.Sim.Z
namespace Go.Sim.Z
open Go Go.Proofs Go.RowKit Go.Maps
def VMap (w:World) (vm base:Nat):Prop:=∃ n,w.ownsMap Tryz.prog 3 Rv vm n (.map [(.int .i64 7,.held (.map (some base)))])
theorem keyed3:Keyed Tryz.prog 3:=int_keyed Tryz.underlying3
theorem keyOf7:keyOf Tryz.prog 3 (.int .i64 7)=some (.int .i64 7):=by
 simp [keyOf,Tryz.underlying3,mapKey]
 decide
theorem VMap.kept {w w':World} {vm base:Nat} (h:VMap w vm base) (hb:w'.heap[vm]?=w.heap[vm]?):VMap w' vm base:=by
 obtain ⟨n,es,clock,h2,h3⟩:=h
 exact ⟨n,es,clock,hb.trans h2,h3⟩
theorem VMap.lt {w:World} {vm base:Nat} (h:VMap w vm base):vm<w.heap.size:=by obtain ⟨n,h⟩:=h;exact h.lt
theorem VMap.lookup {w:World} {vm base:Nat} (h:VMap w vm base):(Instr.lookup 62 (.map (some vm)) (.int .i64 7) false).run Tryz.prog w=.ok (.map (some base)) w:=by
 obtain ⟨n,h2⟩:=h
 obtain ⟨v,ps,hrun,hv⟩:=h2.lookup keyed3 Tryz.underlying62 (Tryz.zeroValue70 w) (zd:=.held (.map none)) (zp:=[]) rfl keyOf7
 rw [hrun]
 have e:(DataW.map (H:=Value) [(Lit.int .i64 7,DataW.held (Value.map (some base)))]).atKey (Lit.int .i64 7) (DataW.held (Value.map none))=DataW.held (Value.map (some base)):=by
  simp [DataW.atKey,Lit.sameKey]
 rw [e] at hv
 simp only [Rv,Option.some.injEq,Prod.mk.injEq,DataW.held.injEq] at hv
 rw [hv.1]
theorem VMap.made {w:World} {vm base:Nat} (h:w.heap[vm]?=some (.map #[] 0)):∃ w',(Instr.mapUpdate 62 (.map (some vm)) (.int .i64 7) (.map (some base))).run Tryz.prog w=.ok () w'∧VMap w' vm base∧w.grownBy w' (some vm):=by
 have h0:=World.ownsMap_made w Tryz.prog 3 Rv
 have h1:w.ownsMap Tryz.prog 3 Rv vm 0 (.map []):=by
  obtain ⟨es,clock,h2,h3,h4,h5⟩:=h0
  rw [heap_new] at h2
  cases h2
  exact ⟨#[],0,h,h3,h4,h5⟩
 obtain ⟨w',hrun,h3,h4⟩:=h1.update keyed3 Tryz.underlying62 (by decide) keyOf7 (val:=.map (some base)) (d:=.held (.map (some base))) (ps:=[]) rfl
 exact ⟨w',hrun,⟨_,h3⟩,h4⟩
structure CubeAt (w:World) (x:Nat) (c:CfgD) (seed:Int) (h:Value) (nf:Int) (vm base:Nat):Prop where
 blk:Blk false w x #[.int .i64 3,.int .i64 c.bits,.int .i64 c.K,.slice c.ba c.nb c.cb,.int .i64 seed,h,.int .i64 nf,.map (some vm)] 64
 vs:VMap w vm base
theorem CubeAt.kept {w w':World} {x:Nat} {c:CfgD} {seed:Int} {h:Value} {nf:Int} {vm base:Nat} (q:CubeAt w x c seed h nf vm base) (h1:w'.heap[x]?=w.heap[x]?) (h2:w'.heap[vm]?=w.heap[vm]?):CubeAt w' x c seed h nf vm base:=
 ⟨q.blk.kept h1,q.vs.kept h2⟩
section
variable {w:World} {x:Nat} {c:CfgD} {seed:Int} {h:Value} {nf:Int} {vm base:Nat}
theorem CubeAt.cells (q:CubeAt w x c seed h nf vm base):w.cell? ⟨x,0,none⟩=some (.int .i64 3)∧w.cell? ⟨x,1,none⟩=some (.int .i64 c.bits)∧w.cell? ⟨x,2,none⟩=some (.int .i64 c.K)∧w.cell? ⟨x,3,none⟩=some (.slice c.ba c.nb c.cb)∧w.cell? ⟨x,4,none⟩=some (.int .i64 seed)∧w.cell? ⟨x,5,none⟩=some h∧w.cell? ⟨x,6,none⟩=some (.int .i64 nf)∧w.cell? ⟨x,7,none⟩=some (.map (some vm)):=
 ⟨(q.blk.cell 0).trans rfl,(q.blk.cell 1).trans rfl,(q.blk.cell 2).trans rfl,(q.blk.cell 3).trans rfl,(q.blk.cell 4).trans rfl,(q.blk.cell 5).trans rfl,(q.blk.cell 6).trans rfl,(q.blk.cell 7).trans rfl⟩
theorem base_calls (h0:w.cell? ⟨x,0,none⟩=some (.int .i64 3)):Calls Tryz.prog 23 #[.pointer (some ⟨x,0,none⟩)] w fun e w'=>e=.returned (.int .i64 7)∧w'=w:=by
 have hs:(binOp .shl 3 (.int .i64 1) (.int .i64 3)).run Tryz.prog w=.ok (.int .i64 8) w:=rfl
 go_enter Tryz.func23,Tryz.ntmps23
 go_wp2
 go_ret
 exact ⟨rfl,rfl⟩
def h49:Value:=.func (.func 49) #[] #[]
theorem hash_one (n:Int) (w:World):Calls Tryz.prog 19 #[.int .i64 1,.int .i64 n] w fun e w'=>e=.returned h49∧w'=w.alloc (.cells #[.int .i64 n] 3):=by
 go_enter Tryz.func19,Tryz.ntmps19
 go_wp2
 all_goals go_ret
 exact ⟨rfl,rfl⟩
theorem f49_calls (n:Int) (w:World):Calls Tryz.prog 49 #[.int .i64 n] w fun e w'=>e=.returned (.int .u64 (IntKind.u64.wrap n))∧w'=w:=by
 go_enter Tryz.func49,Tryz.ntmps49
 go_wp2
 go_ret
 exact ⟨rfl,rfl⟩
theorem Blk.five {fr:Bool} {w:World} {b:Nat} {v0 v1 v2 v3 v4:Value} {t:TypeId} (h:Blk fr w b #[v0,v1,v2,v3,v4] t):w.cell? ⟨b,0,none⟩=some v0∧w.cell? ⟨b,1,none⟩=some v1∧w.cell? ⟨b,2,none⟩=some v2∧w.cell? ⟨b,3,none⟩=some v3∧w.cell? ⟨b,4,none⟩=some v4:=
 ⟨(h.cell 0).trans rfl,(h.cell 1).trans rfl,(h.cell 2).trans rfl,(h.cell 3).trans rfl,(h.cell 4).trans rfl⟩
structure NewAt (w:World) (c:CfgD) (seed:Int) (h:Value) (bs:List Int) (e:Ending) (w':World):Prop where
 ex:∃ x vm base b2 c2,e=.returned (.tuple #[.pointer (some ⟨x,0,none⟩),.nilIface])∧(w.heap.size≤x∧w.heap.size≤vm∧w.heap.size≤base∧w.heap.size≤b2) ∧
   CubeAt w' x { c with ba:=some ⟨b2,0,none⟩,cb:=c2 } seed h 0 vm base∧w'.heap[base]?=some (.map #[] 0)∧Row false w' b2 3 .i64 bs c2∧(x≠vm∧x≠base∧x≠b2∧vm≠base∧vm≠b2∧base≠b2)
 tch:Tch w.heap.size M0 w w'
set_option maxRecDepth 100000 in
set_option maxHeartbeats 2000000 in
theorem new_calls {fr:Bool} {bb cap:Nat} {bs:List Int} (hc:CfgOk c) (hr:Row fr w bb 3 .i64 bs cap) (hba:c.ba=some ⟨bb,0,none⟩) (hnb:c.nb=bs.length) (hp:bs.Pairwise (· < ·)) (f:Fn) (a b:Array Value) :
  Calls Tryz.prog 18 #[.agg (cfgV c 3 seed),.func f a b] w (NewAt w c seed (.func f a b) bs):=by
 have hv:=fun w1 (ht:Tch w.heap.size M0 w w1)=>valid_calls (seed:=seed) hc (hr.tch ht hr.lt fun x=>x) hba hnb hp
 have hcl:=fun w1 (ht:Tch w.heap.size M0 w w1)=>clone3 (hr.tch ht hr.lt fun x=>x) (by have:=hc.nb;omega)
 have hlen:=hc.nb
 obtain ⟨W0,hW0⟩:∃ W0,W0=w.alloc (.cells #[.int .i64 3,.int .i64 c.bits,.int .i64 c.K,.slice (some ⟨bb,0,none⟩) bs.length c.cb,.int .i64 seed] 35):=⟨_,rfl⟩
 have ht0:Tch w.heap.size M0 w W0:=by rw [hW0];exact Tch.refl.alloc (Nat.le_refl _) _
 have hb0:Blk false W0 w.heap.size #[.int .i64 3,.int .i64 c.bits,.int .i64 c.K,.slice (some ⟨bb,0,none⟩) bs.length c.cb,.int .i64 seed] 35:=⟨(0,0),by rw [hW0];exact heap_new _,fun _=>rfl⟩
 have e1:∀ {w1:World} {arr:Array Value},Blk false w1 w.heap.size arr 35→∀ i,w1.cell? ⟨w.heap.size,i,none⟩=arr[i]?:=fun h i=>h.cell i
 unfold cfgV at hv ⊢
 rw [hba,hnb] at hv ⊢
 have hv0:=hv W0 ht0
 have hcl0:Hid (∀ w1,Tch W0.heap.size M0 W0 w1→Calls Tryz.prog 47 #[.slice (some ⟨bb,0,none⟩) bs.length c.cb] w1 fun e w'=>∃ g c',e=.returned (.slice (some ⟨g,0,none⟩) bs.length c')∧w1.heap.size≤g∧Row false w' g 3 .i64 bs c'∧Tch w1.heap.size M0 w1 w'∧c'≤maxLen):=fun w1 ht=>hcl w1 (ht0.trans (ht.mono ht0.size fun _ _ h=>h)) _
 have hlt0:=hb0.lt
 clear hv hcl
 have hnf:∀ w,(binOp .eql 60 (.func f a b) .nilFunc).run Tryz.prog w=.ok (.bool false) w:=fun w=>rfl
 have hmm:∀ (t:TypeId) w,(Instr.makeMap t none).run Tryz.prog w=.ok (.map (some w.heap.size)) (w.alloc (.map #[] 0)):=fun _ _=>rfl
 have hgm':=hnb
 generalize hgm:bs.length=m at *
 go_enter Tryz.func18,Tryz.ntmps18
 go_wp2_with (first
  | (go_at_call 46;rw [← hW0];refine hv0.mono ?_;rintro e w1 ⟨rfl,ht1⟩;have hb1:=hb0.tch ht1 hlt0 (fun x=>x);obtain ⟨y0,y1,y2,y3,y4⟩:=hb1.five;have hlt1:=hb1.lt)
  | (go_at_call 47;refine (hcl0 _ ht1).mono ?_;rintro e w2 ⟨b2,c2,rfl,hge2,hr2,ht2,hc2⟩;have hb2:=hb1.tch ht2 hlt1 (fun x=>x);obtain ⟨z0,z1,z2,z3,z4⟩:=hb2.five;have zf:=hb2.frozen 3))
 have hs3:(w2.setCell ⟨w.heap.size,3,none⟩ (.slice (some ⟨b2,0,none⟩) m c2)).heap.size=w2.heap.size:=size_set _ _
 have ht3:Tch w.heap.size M0 w (w2.setCell ⟨w.heap.size,3,none⟩ (.slice (some ⟨b2,0,none⟩) m c2)):=((ht0.trans (ht1.mono ht0.size fun _ _ h=>h)).trans (ht2.mono (Nat.le_trans ht0.size ht1.size) fun _ _ h=>h)).set (.inl (Nat.le_refl _)) _
 have hr3:Row false (w2.setCell ⟨w.heap.size,3,none⟩ (.slice (some ⟨b2,0,none⟩) m c2)) b2 3 .i64 bs c2:=hr2.kept (heap_ne _ _ (show b2≠w.heap.size by have:=ht0.size;have:=ht1.size;omega))
 have hl2:=hr2.lt
 generalize w2.setCell ⟨w.heap.size,3,none⟩ (.slice (some ⟨b2,0,none⟩) m c2)=W3 at *
 have hw3:w.heap.size≤W3.heap.size:=ht3.size
 have hV:((W3.alloc (.map #[] 0)).alloc (.cells #[.int .i64 3,.int .i64 c.bits,.int .i64 c.K,.slice (some ⟨b2,0,none⟩) m c2,.int .i64 seed,.func f a b,.int .i64 0,.map (some w2.heap.size)] 64)).heap[w2.heap.size]?=some (.map #[] 0):=by
  rw [← hs3,heap_old _ (by rw [size_alloc];omega)];exact heap_new _
 have hX:((W3.alloc (.map #[] 0)).alloc (.cells #[.int .i64 3,.int .i64 c.bits,.int .i64 c.K,.slice (some ⟨b2,0,none⟩) m c2,.int .i64 seed,.func f a b,.int .i64 0,.map (some w2.heap.size)] 64)).heap[w2.heap.size+1]?=some (.cells #[.int .i64 3,.int .i64 c.bits,.int .i64 c.K,.slice (some ⟨b2,0,none⟩) m c2,.int .i64 seed,.func f a b,.int .i64 0,.map (some w2.heap.size)] 64):=by
  have:=heap_new (w:=W3.alloc (.map #[] 0)) (.cells #[.int .i64 3,.int .i64 c.bits,.int .i64 c.K,.slice (some ⟨b2,0,none⟩) m c2,.int .i64 seed,.func f a b,.int .i64 0,.map (some w2.heap.size)] 64)
  rwa [size_alloc,hs3] at this
 have hr5:=(hr3.kept (w':=(W3.alloc (.map #[] 0)).alloc (.cells #[.int .i64 3,.int .i64 c.bits,.int .i64 c.K,.slice (some ⟨b2,0,none⟩) m c2,.int .i64 seed,.func f a b,.int .i64 0,.map (some w2.heap.size)] 64)) (by rw [heap_old _ (by rw [size_alloc];omega),heap_old _ (by omega)]))
 have ht5:=(ht3.alloc hw3 (.map #[] 0)).alloc (by rw [size_alloc];omega) (.cells #[.int .i64 3,.int .i64 c.bits,.int .i64 c.K,.slice (some ⟨b2,0,none⟩) m c2,.int .i64 seed,.func f a b,.int .i64 0,.map (some w2.heap.size)] 64)
 have hs5:((W3.alloc (.map #[] 0)).alloc (.cells #[.int .i64 3,.int .i64 c.bits,.int .i64 c.K,.slice (some ⟨b2,0,none⟩) m c2,.int .i64 seed,.func f a b,.int .i64 0,.map (some w2.heap.size)] 64)).heap.size=w2.heap.size+2:=by rw [size_alloc,size_alloc,hs3]
 generalize (W3.alloc (.map #[] 0)).alloc (.cells #[.int .i64 3,.int .i64 c.bits,.int .i64 c.K,.slice (some ⟨b2,0,none⟩) m c2,.int .i64 seed,.func f a b,.int .i64 0,.map (some w2.heap.size)] 64)=W5 at *
 have hV6:((W5.alloc (.map #[] 0)).drew).heap[w2.heap.size]?=some (.map #[] 0):=(heap_old (w:=W5) _ (show _<W5.heap.size by omega)).trans hV
 obtain ⟨w7,hrun7,hvm7,hg7⟩:=VMap.made (base:=W5.heap.size) hV6
 have hrun7':(Instr.mapUpdate 62 (.map (some w2.heap.size)) (.int .i64 7) (.map (some (w2.heap.size+2)))).run Tryz.prog ((W5.alloc (.map #[] 0)).drew)=.ok () w7:=by rw [← hs5];exact hrun7
 have hx0:W5.cell? ⟨w2.heap.size+1,0,none⟩=some (.int .i64 3):=(cell_of hX 0).trans rfl
 have hx7:W5.cell? ⟨w2.heap.size+1,7,none⟩=some (.map (some w2.heap.size)):=(cell_of hX 7).trans rfl
 have cb:Hid (∀ w',(w'=W5.drew∨w'=(W5.alloc (.map #[] 0)).drew)→Calls Tryz.prog 23 #[.pointer (some ⟨w2.heap.size+1,0,none⟩)] w' fun e w''=>e=.returned (.int .i64 7)∧w''=w'):=fun w' h=>base_calls (by
  rcases h with rfl|rfl
  ·exact hx0
  ·refine (World.cell?_of_block (heap_old (w:=W5) _ ?_)).trans hx0
   show _<W5.heap.size;rw [hs5];show w2.heap.size+1<_;omega)
 have keep7:∀ k,k<W5.heap.size→k≠w2.heap.size→w7.heap[k]?=W5.heap[k]?:=fun k hk hne=>(hg7.block k (by show k<(W5.alloc _).heap.size;rw [size_alloc];omega) fun e=>hne (Option.some.inj e)).trans (heap_old (w:=W5) _ hk)
 have fin:NewAt w c seed (.func f a b) bs (.returned (.tuple #[.pointer (some ⟨w2.heap.size+1,0,none⟩),.nilIface])) w7:=by
  have hsz2:w.heap.size≤w2.heap.size:=by rw [← hs3];exact hw3
  refine ⟨⟨w2.heap.size+1,w2.heap.size,W5.heap.size,b2,c2,rfl,⟨by omega,by omega,by omega,by have:=ht0.size;have:=ht1.size;omega⟩,⟨⟨(0,0),?_,fun _=>rfl⟩,hvm7⟩,?_,?_,?_⟩,?_⟩
  ·rw [keep7 _ (by omega) (by omega),hX,← hnb]
  ·exact (hg7.block _ (by show W5.heap.size<(W5.alloc _).heap.size;rw [size_alloc];omega) fun e=>by have:=Option.some.inj e;omega).trans (heap_new (w:=W5) _)
  ·exact hr5.kept (keep7 _ (by omega) (by omega))
  ·omega
  ·exact ⟨by have:=hg7.size;have e:((W5.alloc (.map #[] 0)).drew).heap.size=W5.heap.size+1:=size_alloc _;have:=ht5.size;omega,fun k hk _=>(keep7 k (by omega) (by omega)).trans (ht5.heap k hk fun x=>x),hg7.tape.trans ht5.tape,hg7.os.trans ht5.os,hg7.output.trans ht5.output⟩
 clear hV6 hV
 go_region_with (go_at_call 23;refine (cb _ (by first|exact .inl rfl|exact .inr rfl)).mono ?_;rintro e w' ⟨rfl,rfl⟩)
 all_goals go_wp2
 all_goals go_ret2
 all_goals exact fin
set_option maxHeartbeats 2000000 in
theorem pnew_one {fr:Bool} {bb cap:Nat} {bs:List Int} (hc:CfgOk c) (hr:Row fr w bb 3 .i64 bs cap) (hba:c.ba=some ⟨bb,0,none⟩) (hnb:c.nb=bs.length) (hp:bs.Pairwise (· < ·)) (n:Int) :
  Calls Tryz.prog 12 #[.agg (cfgV c 3 seed),.int .i64 1,.int .i64 n] w (NewAt w c seed h49 bs):=by
 obtain ⟨W0,hW0⟩:∃ W0,W0=w.alloc (.cells (cfgV c 3 seed) 35):=⟨_,rfl⟩
 have ht0:Tch w.heap.size M0 w W0:=by rw [hW0];exact Tch.refl.alloc (Nat.le_refl _) _
 have hb0:Blk false W0 w.heap.size (cfgV c 3 seed) 35:=⟨(0,0),by rw [hW0];exact heap_new _,fun _=>rfl⟩
 have hlt0:=hb0.lt
 have hf:Hid (∀ w1,Tch W0.heap.size M0 W0 w1→w1.cell? ⟨w.heap.size,0,none⟩=some (.int .i64 3)∧w1.cell? ⟨w.heap.size,1,none⟩=some (.int .i64 c.bits)∧w1.cell? ⟨w.heap.size,2,none⟩=some (.int .i64 c.K)∧w1.cell? ⟨w.heap.size,3,none⟩=some (.slice c.ba c.nb c.cb)∧w1.cell? ⟨w.heap.size,4,none⟩=some (.int .i64 seed)):=fun w1 ht=>(hb0.tch ht hlt0 fun x=>x).five
 have hd2:Hid (∀ w1,Tch W0.heap.size M0 W0 w1→Calls Tryz.prog 18 #[.agg (cfgV c 3 seed),.func (.func 49) #[] #[]] w1 fun e w'=>NewAt w c seed h49 bs e w'∧Tch W0.heap.size M0 W0 w'):=fun w1 ht=>by
  have ht2:=ht0.trans (ht.mono ht0.size fun _ _ h=>h)
  refine (new_calls (seed:=seed) hc (hr.tch ht2 hr.lt fun x=>x) hba hnb hp (.func 49) #[] #[]).mono fun e w' (h:NewAt w1 c seed h49 bs e w')=>?_
  obtain ⟨⟨x,vm,base,b2,c2,h1,h2,h3⟩,h4⟩:=h
  have:=ht2.size
  exact ⟨⟨⟨x,vm,base,b2,c2,h1,⟨by omega,by omega,by omega,by omega⟩,h3⟩,(ht2.trans (h4.mono ht2.size fun _ _ h=>h))⟩,ht.trans (h4.mono ht.size fun _ _ h=>h)⟩
 clear hr hp hb0 ht0 hlt0 hba hnb
 unfold cfgV at hd2 hW0 ⊢
 have t0:Tch W0.heap.size M0 W0 W0.drew:=Tch.refl.drew
 have t1:Tch W0.heap.size M0 W0 (W0.alloc (.cells #[.int .i64 n] 3)).drew:=(Tch.refl.alloc (Nat.le_refl _) _).drew
 have hd3:Hid (∀ w1 R,w1=W0.drew→(R=fun e w'=>e=.returned h49∧w'=w1.alloc (.cells #[.int .i64 n] 3))→Calls Tryz.prog 19 #[.int .i64 1,.int .i64 n] w1 R):=fun w1 R _ e=>by rw [e];exact hash_one n w1
 go_enter Tryz.func12,Tryz.ntmps12
 go_wp2_with fail
 subst hW0
 generalize w.heap.size=n0 at hf ⊢
 obtain ⟨q0,q1,q2,q3,q4⟩:=hf _ t0
 obtain ⟨r0,r1,r2,r3,r4⟩:=hf _ t1
 go_region_with (first|(go_at_call 19;refine (hash_one n _).mono ?_;rintro e w1 ⟨rfl,rfl⟩)|(go_at_call 18;refine (hd2 _ t1).mono ?_;rintro e w1 ⟨hN,t2⟩;have hN':=hN;obtain ⟨⟨x,vm,base,b2,c2,rfl,_⟩,_⟩:=hN))
 all_goals go_wp2
 all_goals go_ret2
 all_goals exact hN'
end
section
variable {w:World} {x:Nat} {c:CfgD} {seed:Int} {nf:Int} {vm base:Nat}
set_option maxRecDepth 100000 in
theorem idle54 (p q r:Addr) (w:World) :
  CallsD Tryz.prog 54 #[.pointer (some p),.pointer (some q),.pointer (some r)] .returning w fun e u' w'=>e=.returned (.tuple #[])∧u'=.returning∧w'=w:=by
 have hnn:∀ w,(binOp .neq 20 .nilIface .nilIface).run Tryz.prog w=.ok (.bool false) w:=fun _=>rfl
 refine callsD_of_wpS Tryz.func54 rfl fun c₀ cs hu=>?_
 apply wpS_seq
 apply wpS_region
 simp [wpOpsS,go_sem,recoverD,hu,Tryz.ntmps54,Exit.thenS]
 refine wpS_cond (t:=false) (by simp [Act.eval,Array.replicate]) ?_
 simp only [Bool.false_eq_true,if_false]
 refine wpS_of_wp (wp_skip ?_)
 cases c₀
 simp_all [bodyPostS,results,Tryz.results54]
set_option maxHeartbeats 1000000 in
theorem one_calls (q:CubeAt w x c seed h49 nf vm base) (item at_:Int) :
  Calls Tryz.prog 24 #[.pointer (some ⟨x,0,none⟩),.int .i64 item,.int .i64 at_] w fun e w'=>e=.returned (.tuple #[.int .u64 (IntKind.u64.wrap item),.nilIface])∧Tch w.heap.size M0 w w':=by
 have hmf:∀ (fn:Fn) (first cap:Array Value) (w:World),(Instr.makeFunc fn first cap).run Tryz.prog w=.ok (.func fn first cap) w:=fun _ _ _ _=>rfl
 have hx:x<w.heap.size:=q.blk.lt
 have c5:w.cell? ⟨x,5,none⟩=some (.func (.func 49) #[] #[]):=q.cells.2.2.2.2.2.1
 have h1:∀ w,Calls Tryz.prog 49 #[.int .i64 item] w fun e w'=>e=.returned (.int .u64 (IntKind.u64.wrap item))∧w'=w:=f49_calls item
 have c5':(((w.alloc (.cells #[.int .i64 at_] 3)).alloc (.cells #[.int .u64 0] 45)).alloc (.cells #[.nilIface] 30)).cell? ⟨x,5,none⟩=some (.func (.func 49) #[] #[]):=
  (World.cell?_of_block (by rw [heap_old _ (by rw [size_alloc,size_alloc];show x<_;omega),heap_old _ (by rw [size_alloc];show x<_;omega),heap_old _ hx])).trans c5
 generalize IntKind.u64.wrap item=hh at *
 go_enter_defers Tryz.func24,Tryz.ntmps24
 go_wp2_with (go_at_call 49;refine (h1 _).mono ?_;rintro e w1 ⟨rfl,rfl⟩)
 refine leaves_cons (f:=54) (args:=#[.pointer (some ⟨w.heap.size,0,none⟩),.pointer (some ⟨w.heap.size+1,0,none⟩),.pointer (some ⟨w.heap.size+1+1,0,none⟩)]) (by simp) (by simp [go_sem]) ?_
 refine (idle54 _ _ _ _).mono ?_
 rintro e u' w'' ⟨rfl,rfl,rfl⟩
 simp [Leaves,settle,results,Tryz.results24,go_sem]
 exact ((Tch.refl.alloc (Nat.le_refl _) _).alloc (by rw [size_alloc];omega) _).alloc (by rw [size_alloc,size_alloc];omega) _
end
structure PI (w:World) (base:Nat) (v:Value) (xs:List Int):Prop where
 own:w.ownsRow base 3 1 v xs.length (xs.map (Value.int .i64))
 pl:PlainV w v
 nl:v=.slice none 0 0↔xs=[]
theorem PI.nil (w:World) (base:Nat):PI w base (.slice none 0 0) []:=⟨⟨rfl,.inl ⟨rfl,rfl⟩⟩,.nil _ _ _,by simp⟩
theorem PI.lt {w:World} {base:Nat} {v:Value} {xs:List Int} (h:PI w base v xs) {g n cap:Nat} (e:v=.slice (some ⟨g,0,none⟩) n cap):base≤g∧g<w.heap.size:=by
 rcases h.own.2 with ⟨rfl,_⟩|⟨g',cap',cur,rfl,hb,hg,_⟩
 ·cases e
 ·cases e;exact ⟨hb,lt_of hg⟩
def SlI (fr:Bool) (w:World) (base:Nat) (v:Value) (t:TypeId) (k:IntKind) (xs:List Int):Prop:=
 (v=.slice none 0 0∧xs=[])∨∃ g cap,v=.slice (some ⟨g,0,none⟩) xs.length cap∧base≤g∧Row fr w g t k xs cap
theorem PI.sl {w:World} {base:Nat} {v:Value} {xs:List Int} (h:PI w base v xs):SlI false w base v 3 .i64 xs:=by
 by_cases e:v=.slice none 0 0
 ·exact .inl ⟨e,h.nl.1 e⟩
 ·obtain ⟨g,cap,h1,h2,h3,_⟩:=Row.of_owns h.own e h.pl
  exact .inr ⟨g,cap,h1,h2,h3⟩
theorem PI.pushed {wr w1:World} {base:Nat} {v v':Value} {xs:List Int} {y:Int} {o:Obj} (hv:PI wr base v xs) (hown:w1.ownsRow base 3 1 v' (xs.length+1) (xs.map (Value.int .i64)++[.int .i64 y])) (hg:(wr.alloc o).grownBy w1 v.ownBlock)
  (hnil:v'=.slice none 0 0↔v=.slice none 0 0∧1=0) (hpl:PlainV w1 v') (hb:base≤wr.heap.size):PI w1 base v' (xs++[y])∧Tch base M0 wr w1:=by
 refine ⟨⟨by simpa using hown,hpl,by simp [hnil]⟩,⟨?_,fun b hb' _=>?_,hg.tape,hg.os,hg.output⟩⟩
 ·have:=hg.size;rw [size_alloc] at this;omega
 ·refine (hg.block b (by rw [size_alloc];omega) fun e=>?_).trans (heap_old _ (by omega))
  rcases hv.own.2 with ⟨rfl,_⟩|⟨g',cap',cur,rfl,hbg,_⟩
  ·cases e
  ·have:=Option.some.inj e
   simp at this
   omega
def grpN (m:Nat) (k:List Int) (n:Nat):List Int:=((k.take n).zipIdx.filter fun p=>m.testBit p.2).map (·.1)
theorem grpN_succ {m n:Nat} {k:List Int} (hn:n<k.length):grpN m k (n+1)=if m.testBit n then grpN m k n++[k.getD n 0] else grpN m k n:=by
 unfold grpN
 rw [List.take_add_one,List.zipIdx_append,List.filter_append,List.map_append]
 have h1:k[n]?=some (k.getD n 0):=by rw [List.getD_eq_getElem?_getD,List.getElem?_eq_getElem hn];rfl
 have h2:(k.take n).length=n:=by simp;omega
 rw [h1]
 simp only [Option.toList_some,List.zipIdx_cons,List.zipIdx_nil,h2,Nat.zero_add]
 cases hb:m.testBit n<;>simp [hb]
theorem cells1v {w:World} {vb:Nat} {v:Value} {t:TypeId} (hv:w.heap[vb]?=some (.cells #[v] t)):∀ j u,([v]:List Value)[j]?=some u→w.cell? ((⟨vb,0,none⟩:Addr).add j)=some u:=by
 intro j u hj
 cases j with
 | zero=>
  simp at hj
  subst hj
  exact (cell_of hv 0).trans rfl
 | succ j=>simp at hj
theorem bit_and1 (m k:Nat):(bits BinOp.and IntKind.i64 (((m:Int)) / 2 ^ k) 1 == 1)=m.testBit k:=by
 rw [i64_and1,Nat.testBit,Nat.shiftRight_eq_div_pow]
 have:((m:Int) / 2 ^ k) % 2=((m / 2 ^ k % 2:Nat):Int):=by push_cast;rfl
 rw [this]
 have h2:m / 2 ^ k % 2<2:=Nat.mod_lt _ (by omega)
 generalize hx:m / 2 ^ k=x at *
 rcases Nat.mod_two_eq_zero_or_one x with h|h<;>simp [h,Nat.and_comm,Nat.and_one_is_mod]
set_option maxRecDepth 100000 in
set_option maxHeartbeats 1000000 in
theorem group_calls (ks:List Int) (hk:ks.length=5) (m:Nat) (w:World):Calls Tryz.prog 33 #[.agg (ai .i64 ks),.int .i64 m] w fun e w'=>∃ v,e=.returned v∧SlI false w' w.heap.size v 3 .i64 (grpN m ks 5)∧Tch w.heap.size M0 w w':=by
 obtain ⟨i0,hi,hz0,hz1,hz2⟩:=info_parts info3
 have hm:maxLen=9223372036854775807:=by decide
 go_enter Tryz.func33,Tryz.ntmps33
 go_wp2
 go_loopw [5,7] (fun v i wr=>∃ k:Nat,k≤5∧i=.int .i64 k∧PI wr (w.heap.size+1) v (grpN m ks k)∧wr.heap[w.heap.size]?=some (.cells (ai .i64 ks) 76)∧Tch w.heap.size M0 w wr) (fun _ i _=>5-(RowKit.intOf i).toNat)
 case atStart=>exact ⟨0,by omega,rfl,PI.nil _ _,heap_new _,Tch.refl.alloc (Nat.le_refl _) _⟩
 case round=>
  obtain ⟨k,hk5,rfl,hv,hc,ht⟩:=hrel
  have hbit:=bit_and1 m k
  have hlen:(grpN m ks k).length≤5:=by
   unfold grpN;rw [List.length_map]
   refine Nat.le_trans (List.length_filter_le _ _) ?_
   simp;omega
  rcases Nat.lt_or_ge k 5 with hlt|hge
  ·have hcell:=cell_of hc k
   rw [ai_some (by omega)] at hcell
   have hlt':(k:Int)<5:=by omega
   have hsucc:=grpN_succ (m:=m) (n:=k) (k:=ks) (by omega)
   cases hb:m.testBit k
   ·rw [hb] at hbit hsucc
    simp only [Bool.false_eq_true,if_false] at hsucc
    go_wp2
    refine ⟨⟨k+1,by omega,by go_num,?_,hc,ht⟩,?_⟩
    ·rw [hsucc];exact hv
    ·simp [RowKit.intOf];omega
   ·rw [hb] at hbit hsucc
    simp only [if_true] at hsucc
    generalize ks.getD k 0=y at *
    have hsz:=lt_of hc
    go_wp2_with (at_builtin;refine wpList_append_plain _ rfl _ _ 33 rfl (w.heap.size+1) 3 i0 _ 1 8 Tryz.underlying33 hi hz0 hz1 hz2 rfl (by decide) _ _ _ rfl (hv.own.alloc _) ⟨wr.heap.size,0,none⟩ 1 1 [.int .i64 y] rfl rfl (cells1v (heap_new _)) (by simp [Value.oneCell']) (by omega) (by omega) (by rw [size_alloc];omega) (hv.pl.kept fun g n cap e=>heap_old _ (hv.lt e).2) (fun u hu=>by rcases List.mem_cons.1 hu with rfl|hu;exact ⟨_,_,rfl⟩;cases hu) (Plain.ai (k:=.i64) (xs:=[0])) ?_;intro v' w1 hown' hgrow hnil hpl')
    obtain ⟨h1,h2⟩:=hv.pushed hown' hgrow hnil hpl' (by omega)
    refine ⟨⟨k+1,by omega,by go_num,?_,(h2.heap _ (by omega) fun x=>x).trans hc,ht.trans (h2.mono (by omega) fun _ _ h=>h)⟩,?_⟩
    ·rw [hsucc];exact h1
    ·simp [RowKit.intOf];omega
  ·have hge':¬ (k:Int)<5:=by omega
   obtain rfl:k=5:=by omega
   clear hc
   go_wp2
   go_ret
   refine ⟨_,rfl,?_,ht⟩
   rcases hv.sl with h|⟨g,cap,h1,h2,h3⟩
   ·exact .inl h
   ·exact .inr ⟨g,cap,h1,by omega,h3⟩
end Go.Sim.Z
