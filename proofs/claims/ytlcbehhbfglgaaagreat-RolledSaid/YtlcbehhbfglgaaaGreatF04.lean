/- PROVED HERE: laws. Conditions: none. -/
import Derived.Laws.CopyOwn
import Derived.Test.YtlcbehhbfglgaaaGreatF03
set_option linter.all false
set_option maxHeartbeats 4000000
set_option maxRecDepth 100000
namespace Go.Sim.Z
open Go Go.Proofs Go.RowKit Go.Maps
def J2j (w:World) (vm base:Nat):Prop:=∃ n,w.ownsMap Tryz.prog 3 Rv vm n (.map [(.int .i64 7,.held (.map (some base)))])
theorem J9d:Keyed Tryz.prog 3:=int_keyed Tryz.underlying3
theorem Joq:keyOf Tryz.prog 3 (.int .i64 7)=some (.int .i64 7):=by simp [keyOf,Tryz.underlying3,mapKey];decide
theorem J2j.kept {w w':World} {vm base:Nat} (h:J2j w vm base) (hb:w'.heap[vm]?=w.heap[vm]?):J2j w' vm base:=by obtain ⟨n,es,clock,h2,h3⟩:=h;exact ⟨n,es,clock,hb.trans h2,h3⟩
theorem J2j.lt {w:World} {vm base:Nat} (h:J2j w vm base):vm<w.heap.size:=by obtain ⟨n,h⟩:=h;exact h.lt
theorem J2j.lookup {w:World} {vm base:Nat} (h:J2j w vm base):(Instr.lookup 62 (.map (some vm)) (.int .i64 7) false).run Tryz.prog w=.ok (.map (some base)) w:=by
 obtain ⟨n,h2⟩:=h;obtain ⟨v,ps,hrun,hv⟩:=h2.lookup J9d Tryz.underlying62 (Tryz.zeroValue70 w) (zd:=.held (.map none)) (zp:=[]) rfl Joq;rw [hrun];have e:(DataW.map (H:=Value) [(Lit.int .i64 7,DataW.held (Value.map (some base)))]).atKey (Lit.int .i64 7) (DataW.held (Value.map none))=DataW.held (Value.map (some base)):=by simp [DataW.atKey,Lit.sameKey]
 rw [e] at hv;simp only [Rv,Jb2,Prod.mk.injEq,DataW.held.injEq] at hv;rw [hv.1]
theorem J2j.made {w:World} {vm base:Nat} (h:w.heap[vm]?=some (.map #[] 0)):∃ w',(Instr.mapUpdate 62 (.map (some vm)) (.int .i64 7) (.map (some base))).run Tryz.prog w=.ok () w'/\J2j w' vm base/\w.grownBy w' (some vm):=by
 have h0:=World.ownsMap_made w Tryz.prog 3 Rv;have h1:w.ownsMap Tryz.prog 3 Rv vm 0 (.map []):=by obtain ⟨es,clock,h2,h3,h4,h5⟩:=h0;rw [Ja] at h2;cases h2;exact ⟨#[],0,h,h3,h4,h5⟩
 obtain ⟨w',hrun,h3,h4⟩:=h1.update J9d Tryz.underlying62 (by decide) Joq (val:=.map (some base)) (d:=.held (.map (some base))) (ps:=[]) rfl;exact ⟨w',hrun,⟨_,h3⟩,h4⟩
structure J08 (w:World) (x:Nat) (c:J8) (seed:Int) (h:Value) (nf:Int) (vm base:Nat):Prop where
 blk:Blk false w x #[.int .i64 3,.int .i64 c.bits,.int .i64 c.K,.slice c.ba c.nb c.cb,.int .i64 seed,h,.int .i64 nf,.map (some vm)] 64
 vs:J2j w vm base
theorem J08.kept {w w':World} {x:Nat} {c:J8} {seed:Int} {h:Value} {nf:Int} {vm base:Nat} (q:J08 w x c seed h nf vm base) (h1:w'.heap[x]?=w.heap[x]?) (h2:w'.heap[vm]?=w.heap[vm]?):J08 w' x c seed h nf vm base:=
 ⟨q.blk.kept h1,q.vs.kept h2⟩
section
variable {w:World} {x:Nat} {c:J8} {seed:Int} {h:Value} {nf:Int} {vm base:Nat}
theorem J08.cells (q:J08 w x c seed h nf vm base):w.cell? ⟨x,0,none⟩=some (.int .i64 3)/\w.cell? ⟨x,1,none⟩=some (.int .i64 c.bits)/\w.cell? ⟨x,2,none⟩=some (.int .i64 c.K)/\w.cell? ⟨x,3,none⟩=some (.slice c.ba c.nb c.cb)/\w.cell? ⟨x,4,none⟩=some (.int .i64 seed)/\w.cell? ⟨x,5,none⟩=some h/\w.cell? ⟨x,6,none⟩=some (.int .i64 nf)/\w.cell? ⟨x,7,none⟩=some (.map (some vm)):=
 ⟨(q.blk.cell 0).trans rfl,(q.blk.cell 1).trans rfl,(q.blk.cell 2).trans rfl,(q.blk.cell 3).trans rfl,(q.blk.cell 4).trans rfl,(q.blk.cell 5).trans rfl,(q.blk.cell 6).trans rfl,(q.blk.cell 7).trans rfl⟩
theorem J6i (h0:w.cell? ⟨x,0,none⟩=some (.int .i64 3)):Calls Tryz.prog 23 #[.pointer (some ⟨x,0,none⟩)] w fun e w'=>e=.returned (.int .i64 7)/\w'=w:=by
 have hs:(binOp .shl 3 (.int .i64 1) (.int .i64 3)).run Tryz.prog w=.ok (.int .i64 8) w:=rfl
 go_enter Tryz.func23,Tryz.ntmps23
 go_wp2;go_ret;exact ⟨rfl,rfl⟩
def h49:Value:=.func (.func 49) #[] #[]
theorem Ji2 (n:Int) (w:World):Calls Tryz.prog 19 #[.int .i64 1,.int .i64 n] w fun e w'=>e=.returned h49/\w'=w.alloc (.cells #[.int .i64 n] 3):=by
 go_enter Tryz.func19,Tryz.ntmps19
 go_wp2
 all_goals go_ret
 exact ⟨rfl,rfl⟩
theorem Jor (n:Int) (w:World):Calls Tryz.prog 49 #[.int .i64 n] w fun e w'=>e=.returned (.int .u64 (IntKind.u64.wrap n))/\w'=w:=by
 go_enter Tryz.func49,Tryz.ntmps49
 go_wp2;go_ret;exact ⟨rfl,rfl⟩
theorem Blk.five {fr:Bool} {w:World} {b:Nat} {v0 v1 v2 v3 v4:Value} {t:TypeId} (h:Blk fr w b #[v0,v1,v2,v3,v4] t):w.cell? ⟨b,0,none⟩=some v0/\w.cell? ⟨b,1,none⟩=some v1/\w.cell? ⟨b,2,none⟩=some v2/\w.cell? ⟨b,3,none⟩=some v3/\w.cell? ⟨b,4,none⟩=some v4:=
 ⟨(h.cell 0).trans rfl,(h.cell 1).trans rfl,(h.cell 2).trans rfl,(h.cell 3).trans rfl,(h.cell 4).trans rfl⟩
structure NewAt (w:World) (c:J8) (seed:Int) (h:Value) (bs:List Int) (e:Ending) (w':World):Prop where
 ex:∃ x vm base b2 c2,e=.returned (.tuple #[.pointer (some ⟨x,0,none⟩),.nilIface])/\(w.heap.size<=x/\w.heap.size<=vm/\w.heap.size<=base/\w.heap.size<=b2) /\
   J08 w' x { c with ba:=some ⟨b2,0,none⟩,cb:=c2 } seed h 0 vm base/\w'.heap[base]?=some (.map #[] 0)/\Row false w' b2 3 .i64 bs c2/\(x≠vm/\x≠base/\x≠b2/\vm≠base/\vm≠b2/\base≠b2)
 tch:Tch w.heap.size M0 w w'
theorem Jfw {fr:Bool} {bb cap:Nat} {bs:List Int} (hc:Jw c) (hr:Row fr w bb 3 .i64 bs cap) (hba:c.ba=some ⟨bb,0,none⟩) (hnb:c.nb=bs.length) (hp:bs.Pairwise (· < ·)) (f:Fn) (a b:Array Value) :
  Calls Tryz.prog 18 #[.agg (J17 c 3 seed),.func f a b] w (NewAt w c seed (.func f a b) bs):=by
 have hv:=fun w1 (ht:Tch w.heap.size M0 w w1)=>Jbl (seed:=seed) hc (hr.tch ht hr.lt fun x=>x) hba hnb hp;have hcl:=fun w1 (ht:Tch w.heap.size M0 w w1)=>Jhp (hr.tch ht hr.lt fun x=>x) (by have:=hc.nb;omega);have hlen:=hc.nb;obtain ⟨W0,hW0⟩:∃ W0,W0=w.alloc (.cells #[.int .i64 3,.int .i64 c.bits,.int .i64 c.K,.slice (some ⟨bb,0,none⟩) bs.length c.cb,.int .i64 seed] 35):=⟨_,rfl⟩;have ht0:Tch w.heap.size M0 w W0:=by rw [hW0];exact Tch.refl.alloc (Ja2 _) _
 have hb0:Blk false W0 w.heap.size #[.int .i64 3,.int .i64 c.bits,.int .i64 c.K,.slice (some ⟨bb,0,none⟩) bs.length c.cb,.int .i64 seed] 35:=⟨(0,0),by rw [hW0];exact Ja _,fun _=>rfl⟩;have e1:∀ {w1:World} {arr:Array Value},Blk false w1 w.heap.size arr 35->∀ i,w1.cell? ⟨w.heap.size,i,none⟩=arr[i]?:=fun h i=>h.cell i;unfold J17 at hv ⊢;rw [hba,hnb] at hv ⊢;have hv0:=hv W0 ht0;have hcl0:Hid (∀ w1,Tch W0.heap.size M0 W0 w1->Calls Tryz.prog 47 #[.slice (some ⟨bb,0,none⟩) bs.length c.cb] w1 fun e w'=>∃ g c',e=.returned (.slice (some ⟨g,0,none⟩) bs.length c')/\w1.heap.size<=g/\Row false w' g 3 .i64 bs c'/\Tch w1.heap.size M0 w1 w'/\c'<=maxLen):=fun w1 ht=>hcl w1 (ht0.trans (ht.mono ht0.size fun _ _ h=>h)) _;have hlt0:=hb0.lt;clear hv hcl;have hnf:∀ w,(binOp .eql 60 (.func f a b) .nilFunc).run Tryz.prog w=.ok (.bool false) w:=fun w=>rfl;have hmm:∀ (t:TypeId) w,(Instr.makeMap t none).run Tryz.prog w=.ok (.map (some w.heap.size)) (w.alloc (.map #[] 0)):=fun _ _=>rfl;have hgm':=hnb;generalize hgm:bs.length=m at *
 go_enter Tryz.func18,Tryz.ntmps18
 go_wp2_with (first
  | (go_at_call 46;rw [<- hW0];refine hv0.mono ?_;rintro e w1 ⟨rfl,ht1⟩;have hb1:=hb0.tch ht1 hlt0 (fun x=>x);obtain ⟨y0,y1,y2,y3,y4⟩:=hb1.five;have hlt1:=hb1.lt)
  | (go_at_call 47;refine (hcl0 _ ht1).mono ?_;rintro e w2 ⟨b2,c2,rfl,Jwu,hr2,ht2,hc2⟩;have hb2:=hb1.tch ht2 hlt1 (fun x=>x);obtain ⟨z0,z1,z2,z3,z4⟩:=hb2.five;have zf:=hb2.frozen 3))
 have hs3:(w2.setCell ⟨w.heap.size,3,none⟩ (.slice (some ⟨b2,0,none⟩) m c2)).heap.size=w2.heap.size:=size_set _ _;have ht3:Tch w.heap.size M0 w (w2.setCell ⟨w.heap.size,3,none⟩ (.slice (some ⟨b2,0,none⟩) m c2)):=((ht0.trans (ht1.mono ht0.size fun _ _ h=>h)).trans (ht2.mono (Jb6 ht0.size ht1.size) fun _ _ h=>h)).set (.inl (Ja2 _)) _;have hr3:Row false (w2.setCell ⟨w.heap.size,3,none⟩ (.slice (some ⟨b2,0,none⟩) m c2)) b2 3 .i64 bs c2:=hr2.kept (Jk _ _ (show b2≠w.heap.size by have:=ht0.size;have:=ht1.size;omega));have hl2:=hr2.lt;generalize w2.setCell ⟨w.heap.size,3,none⟩ (.slice (some ⟨b2,0,none⟩) m c2)=W3 at *;have hw3:w.heap.size<=W3.heap.size:=ht3.size;have hV:((W3.alloc (.map #[] 0)).alloc (.cells #[.int .i64 3,.int .i64 c.bits,.int .i64 c.K,.slice (some ⟨b2,0,none⟩) m c2,.int .i64 seed,.func f a b,.int .i64 0,.map (some w2.heap.size)] 64)).heap[w2.heap.size]?=some (.map #[] 0):=by rw [<- hs3,J7 _ (by rw [size_alloc];omega)];exact Ja _
 have hX:((W3.alloc (.map #[] 0)).alloc (.cells #[.int .i64 3,.int .i64 c.bits,.int .i64 c.K,.slice (some ⟨b2,0,none⟩) m c2,.int .i64 seed,.func f a b,.int .i64 0,.map (some w2.heap.size)] 64)).heap[w2.heap.size+1]?=some (.cells #[.int .i64 3,.int .i64 c.bits,.int .i64 c.K,.slice (some ⟨b2,0,none⟩) m c2,.int .i64 seed,.func f a b,.int .i64 0,.map (some w2.heap.size)] 64):=by
  have:=Ja (w:=W3.alloc (.map #[] 0)) (.cells #[.int .i64 3,.int .i64 c.bits,.int .i64 c.K,.slice (some ⟨b2,0,none⟩) m c2,.int .i64 seed,.func f a b,.int .i64 0,.map (some w2.heap.size)] 64)
  rwa [size_alloc,hs3] at this
 have hr5:=(hr3.kept (w':=(W3.alloc (.map #[] 0)).alloc (.cells #[.int .i64 3,.int .i64 c.bits,.int .i64 c.K,.slice (some ⟨b2,0,none⟩) m c2,.int .i64 seed,.func f a b,.int .i64 0,.map (some w2.heap.size)] 64)) (by rw [J7 _ (by rw [size_alloc];omega),J7 _ (by omega)]));have ht5:=(ht3.alloc hw3 (.map #[] 0)).alloc (by rw [size_alloc];omega) (.cells #[.int .i64 3,.int .i64 c.bits,.int .i64 c.K,.slice (some ⟨b2,0,none⟩) m c2,.int .i64 seed,.func f a b,.int .i64 0,.map (some w2.heap.size)] 64);have hs5:((W3.alloc (.map #[] 0)).alloc (.cells #[.int .i64 3,.int .i64 c.bits,.int .i64 c.K,.slice (some ⟨b2,0,none⟩) m c2,.int .i64 seed,.func f a b,.int .i64 0,.map (some w2.heap.size)] 64)).heap.size=w2.heap.size+2:=by rw [size_alloc,size_alloc,hs3]
 generalize (W3.alloc (.map #[] 0)).alloc (.cells #[.int .i64 3,.int .i64 c.bits,.int .i64 c.K,.slice (some ⟨b2,0,none⟩) m c2,.int .i64 seed,.func f a b,.int .i64 0,.map (some w2.heap.size)] 64)=W5 at *;have hV6:((W5.alloc (.map #[] 0)).drew).heap[w2.heap.size]?=some (.map #[] 0):=(J7 (w:=W5) _ (show _<W5.heap.size by omega)).trans hV;obtain ⟨w7,hrun7,Jre,hg7⟩:=J2j.made (base:=W5.heap.size) hV6;have Jwv:(Instr.mapUpdate 62 (.map (some w2.heap.size)) (.int .i64 7) (.map (some (w2.heap.size+2)))).run Tryz.prog ((W5.alloc (.map #[] 0)).drew)=.ok () w7:=by rw [<- hs5];exact hrun7
 have hx0:W5.cell? ⟨w2.heap.size+1,0,none⟩=some (.int .i64 3):=(cell_of hX 0).trans rfl;have hx7:W5.cell? ⟨w2.heap.size+1,7,none⟩=some (.map (some w2.heap.size)):=(cell_of hX 7).trans rfl;have cb:Hid (∀ w',(w'=W5.drew\/w'=(W5.alloc (.map #[] 0)).drew)->Calls Tryz.prog 23 #[.pointer (some ⟨w2.heap.size+1,0,none⟩)] w' fun e w''=>e=.returned (.int .i64 7)/\w''=w'):=fun w' h=>J6i (by
  rcases h with rfl|rfl
  ·exact hx0
  ·refine (Jb4 (J7 (w:=W5) _ ?_)).trans hx0;show _<W5.heap.size;rw [hs5];show w2.heap.size+1<_;omega)
 have J76:∀ k,k<W5.heap.size->k≠w2.heap.size->w7.heap[k]?=W5.heap[k]?:=fun k hk hne=>(hg7.block k (by show k<(W5.alloc _).heap.size;rw [size_alloc];omega) fun e=>hne (Ja0 e)).trans (J7 (w:=W5) _ hk);have fin:NewAt w c seed (.func f a b) bs (.returned (.tuple #[.pointer (some ⟨w2.heap.size+1,0,none⟩),.nilIface])) w7:=by
  have hsz2:w.heap.size<=w2.heap.size:=by rw [<- hs3];exact hw3
  refine ⟨⟨w2.heap.size+1,w2.heap.size,W5.heap.size,b2,c2,rfl,⟨by omega,by omega,by omega,by have:=ht0.size;have:=ht1.size;omega⟩,⟨⟨(0,0),?_,fun _=>rfl⟩,Jre⟩,?_,?_,?_⟩,?_⟩
  ·rw [J76 _ (by omega) (by omega),hX,<- hnb]
  ·exact (hg7.block _ (by show W5.heap.size<(W5.alloc _).heap.size;rw [size_alloc];omega) fun e=>by have:=Ja0 e;omega).trans (Ja (w:=W5) _)
  ·exact hr5.kept (J76 _ (by omega) (by omega))
  ·omega
  ·exact ⟨by have:=hg7.size;have e:((W5.alloc (.map #[] 0)).drew).heap.size=W5.heap.size+1:=size_alloc _;have:=ht5.size;omega,fun k hk _=>(J76 k (by omega) (by omega)).trans (ht5.heap k hk fun x=>x),hg7.tape.trans ht5.tape,hg7.os.trans ht5.os,hg7.output.trans ht5.output⟩
 clear hV6 hV
 go_region_with (go_at_call 23;refine (cb _ (by first|exact .inl rfl|exact .inr rfl)).mono ?_;rintro e w' ⟨rfl,rfl⟩)
 all_goals go_wp2
 all_goals go_ret2
 all_goals exact fin
theorem Jrf {fr:Bool} {bb cap:Nat} {bs:List Int} (hc:Jw c) (hr:Row fr w bb 3 .i64 bs cap) (hba:c.ba=some ⟨bb,0,none⟩) (hnb:c.nb=bs.length) (hp:bs.Pairwise (· < ·)) (n:Int) :
  Calls Tryz.prog 12 #[.agg (J17 c 3 seed),.int .i64 1,.int .i64 n] w (NewAt w c seed h49 bs):=by
 obtain ⟨W0,hW0⟩:∃ W0,W0=w.alloc (.cells (J17 c 3 seed) 35):=⟨_,rfl⟩;have ht0:Tch w.heap.size M0 w W0:=by rw [hW0];exact Tch.refl.alloc (Ja2 _) _
 have hb0:Blk false W0 w.heap.size (J17 c 3 seed) 35:=⟨(0,0),by rw [hW0];exact Ja _,fun _=>rfl⟩;have hlt0:=hb0.lt;have hf:Hid (∀ w1,Tch W0.heap.size M0 W0 w1->w1.cell? ⟨w.heap.size,0,none⟩=some (.int .i64 3)/\w1.cell? ⟨w.heap.size,1,none⟩=some (.int .i64 c.bits)/\w1.cell? ⟨w.heap.size,2,none⟩=some (.int .i64 c.K)/\w1.cell? ⟨w.heap.size,3,none⟩=some (.slice c.ba c.nb c.cb)/\w1.cell? ⟨w.heap.size,4,none⟩=some (.int .i64 seed)):=fun w1 ht=>(hb0.tch ht hlt0 fun x=>x).five;have hd2:Hid (∀ w1,Tch W0.heap.size M0 W0 w1->Calls Tryz.prog 18 #[.agg (J17 c 3 seed),.func (.func 49) #[] #[]] w1 fun e w'=>NewAt w c seed h49 bs e w'/\Tch W0.heap.size M0 W0 w'):=fun w1 ht=>by have ht2:=ht0.trans (ht.mono ht0.size fun _ _ h=>h);refine (Jfw (seed:=seed) hc (hr.tch ht2 hr.lt fun x=>x) hba hnb hp (.func 49) #[] #[]).mono fun e w' (h:NewAt w1 c seed h49 bs e w')=>?_;obtain ⟨⟨x,vm,base,b2,c2,h1,h2,h3⟩,h4⟩:=h;have:=ht2.size;exact ⟨⟨⟨x,vm,base,b2,c2,h1,⟨by omega,by omega,by omega,by omega⟩,h3⟩,(ht2.trans (h4.mono ht2.size fun _ _ h=>h))⟩,ht.trans (h4.mono ht.size fun _ _ h=>h)⟩
 clear hr hp hb0 ht0 hlt0 hba hnb;unfold J17 at hd2 hW0 ⊢;have t0:Tch W0.heap.size M0 W0 W0.drew:=Tch.refl.drew;have t1:Tch W0.heap.size M0 W0 (W0.alloc (.cells #[.int .i64 n] 3)).drew:=(Tch.refl.alloc (Ja2 _) _).drew;have hd3:Hid (∀ w1 R,w1=W0.drew->(R=fun e w'=>e=.returned h49/\w'=w1.alloc (.cells #[.int .i64 n] 3))->Calls Tryz.prog 19 #[.int .i64 1,.int .i64 n] w1 R):=fun w1 R _ e=>by rw [e];exact Ji2 n w1
 go_enter Tryz.func12,Tryz.ntmps12
 go_wp2_with fail
 subst hW0;generalize w.heap.size=n0 at hf ⊢;obtain ⟨q0,q1,q2,q3,q4⟩:=hf _ t0;obtain ⟨r0,r1,r2,r3,r4⟩:=hf _ t1
 go_region_with (first|(go_at_call 19;refine (Ji2 n _).mono ?_;rintro e w1 ⟨rfl,rfl⟩)|(go_at_call 18;refine (hd2 _ t1).mono ?_;rintro e w1 ⟨hN,t2⟩;have hN':=hN;obtain ⟨⟨x,vm,base,b2,c2,rfl,_⟩,_⟩:=hN))
 all_goals go_wp2
 all_goals go_ret2
 all_goals exact hN'
end
section
variable {w:World} {x:Nat} {c:J8} {seed:Int} {nf:Int} {vm base:Nat}
theorem Ji3 (p q r:Addr) (w:World) :
  CallsD Tryz.prog 54 #[.pointer (some p),.pointer (some q),.pointer (some r)] .returning w fun e u' w'=>e=.returned (.tuple #[])/\u'=.returning/\w'=w:=by
 have hnn:∀ w,(binOp .neq 20 .nilIface .nilIface).run Tryz.prog w=.ok (.bool false) w:=fun _=>rfl;refine callsD_of_wpS Tryz.func54 rfl fun c₀ cs hu=>?_;apply wpS_seq;apply wpS_region;simp [wpOpsS,go_sem,recoverD,hu,Tryz.ntmps54,Exit.thenS];refine wpS_cond (t:=false) (by simp [Act.eval,Array.replicate]) ?_;simp only [Jc1,if_false];refine wpS_of_wp (wp_skip ?_);cases c₀
 simp_all [bodyPostS,results,Tryz.results54]
theorem Jos (q:J08 w x c seed h49 nf vm base) (item at_:Int) :
  Calls Tryz.prog 24 #[.pointer (some ⟨x,0,none⟩),.int .i64 item,.int .i64 at_] w fun e w'=>e=.returned (.tuple #[.int .u64 (IntKind.u64.wrap item),.nilIface])/\Tch w.heap.size M0 w w':=by
 have hmf:∀ (fn:Fn) (first cap:Array Value) (w:World),(Instr.makeFunc fn first cap).run Tryz.prog w=.ok (.func fn first cap) w:=fun _ _ _ _=>rfl;have hx:x<w.heap.size:=q.blk.lt;have c5:w.cell? ⟨x,5,none⟩=some (.func (.func 49) #[] #[]):=q.cells.2.2.2.2.2.1;have h1:∀ w,Calls Tryz.prog 49 #[.int .i64 item] w fun e w'=>e=.returned (.int .u64 (IntKind.u64.wrap item))/\w'=w:=Jor item;have c5':(((w.alloc (.cells #[.int .i64 at_] 3)).alloc (.cells #[.int .u64 0] 45)).alloc (.cells #[.nilIface] 30)).cell? ⟨x,5,none⟩=some (.func (.func 49) #[] #[]):=
  (Jb4 (by rw [J7 _ (by rw [size_alloc,size_alloc];show x<_;omega),J7 _ (by rw [size_alloc];show x<_;omega),J7 _ hx])).trans c5
 generalize IntKind.u64.wrap item=hh at *
 go_enter_defers Tryz.func24,Tryz.ntmps24
 go_wp2_with (go_at_call 49;refine (h1 _).mono ?_;rintro e w1 ⟨rfl,rfl⟩)
 refine leaves_cons (f:=54) (args:=#[.pointer (some ⟨w.heap.size,0,none⟩),.pointer (some ⟨w.heap.size+1,0,none⟩),.pointer (some ⟨w.heap.size+1+1,0,none⟩)]) (by simp) (by simp [go_sem]) ?_;refine (Ji3 _ _ _ _).mono ?_;rintro e u' w'' ⟨rfl,rfl,rfl⟩;simp [Leaves,settle,results,Tryz.results24,go_sem];exact ((Tch.refl.alloc (Ja2 _) _).alloc (by rw [size_alloc];omega) _).alloc (by rw [size_alloc,size_alloc];omega) _
end
structure PI (w:World) (base:Nat) (v:Value) (xs:List Int):Prop where
 own:w.ownsRow base 3 1 v xs.length (xs.map (Value.int .i64))
 pl:J1f w v
 nl:v=.slice none 0 0↔xs=[]
theorem PI.nil (w:World) (base:Nat):PI w base (.slice none 0 0) []:=⟨⟨rfl,.inl ⟨rfl,rfl⟩⟩,.nil _ _ _,by simp⟩
theorem PI.lt {w:World} {base:Nat} {v:Value} {xs:List Int} (h:PI w base v xs) {g n cap:Nat} (e:v=.slice (some ⟨g,0,none⟩) n cap):base<=g/\g<w.heap.size:=by
 rcases h.own.2 with ⟨rfl,_⟩|⟨g',cap',cur,rfl,hb,hg,_⟩
 ·cases e
 ·cases e;exact ⟨hb,Ji hg⟩
def SlI (fr:Bool) (w:World) (base:Nat) (v:Value) (t:TypeId) (k:IntKind) (xs:List Int):Prop:=
 (v=.slice none 0 0/\xs=[])\/∃ g cap,v=.slice (some ⟨g,0,none⟩) xs.length cap/\base<=g/\Row fr w g t k xs cap
theorem PI.sl {w:World} {base:Nat} {v:Value} {xs:List Int} (h:PI w base v xs):SlI false w base v 3 .i64 xs:=by
 by_cases e:v=.slice none 0 0
 ·exact .inl ⟨e,h.nl.1 e⟩
 ·obtain ⟨g,cap,h1,h2,h3,_⟩:=Row.Jas h.own e h.pl;exact .inr ⟨g,cap,h1,h2,h3⟩
theorem PI.pushed {wr w1:World} {base:Nat} {v v':Value} {xs:List Int} {y:Int} {o:Obj} (hv:PI wr base v xs) (hown:w1.ownsRow base 3 1 v' (xs.length+1) (xs.map (Value.int .i64)++[.int .i64 y])) (hg:(wr.alloc o).grownBy w1 v.ownBlock)
  (hnil:v'=.slice none 0 0↔v=.slice none 0 0/\1=0) (hpl:J1f w1 v') (hb:base<=wr.heap.size):PI w1 base v' (xs++[y])/\Tch base M0 wr w1:=by
 refine ⟨⟨by simpa using hown,hpl,by simp [hnil]⟩,⟨?_,fun b hb' _=>?_,hg.tape,hg.os,hg.output⟩⟩
 ·have:=hg.size;rw [size_alloc] at this;omega
 ·refine (hg.block b (by rw [size_alloc];omega) fun e=>?_).trans (J7 _ (by omega));rcases hv.own.2 with ⟨rfl,_⟩|⟨g',cap',cur,rfl,hbg,_⟩
  ·cases e
  ·have:=Ja0 e;simp at this;omega
def J0o (m:Nat) (k:List Int) (n:Nat):List Int:=((k.take n).zipIdx.filter fun p=>m.testBit p.2).map (·.1)
theorem Jfx {m n:Nat} {k:List Int} (hn:n<k.length):J0o m k (n+1)=if m.testBit n then J0o m k n++[k.getD n 0] else J0o m k n:=by
 unfold J0o;rw [List.take_add_one,List.zipIdx_append,List.filter_append,List.map_append];have h1:k[n]?=some (k.getD n 0):=by rw [Ja7,Jb1 hn];rfl
 have h2:(k.take n).length=n:=by simp;omega
 rw [h1];simp only [Option.toList_some,List.zipIdx_cons,List.zipIdx_nil,h2,Nat.zero_add];cases hb:m.testBit n<;>simp [hb]
theorem Jkx {w:World} {vb:Nat} {v:Value} {t:TypeId} (hv:w.heap[vb]?=some (.cells #[v] t)):∀ j u,([v]:List Value)[j]?=some u->w.cell? ((⟨vb,0,none⟩:Addr).add j)=some u:=by
 intro j u hj;cases j with
 | zero=>
  simp at hj;subst hj;exact (cell_of hv 0).trans rfl
 | succ j=>simp at hj
theorem Ji4 (m k:Nat):(bits BinOp.and IntKind.i64 (((m:Int)) / 2 ^ k) 1 == 1)=m.testBit k:=by
 rw [Jhk,Nat.testBit,Nat.shiftRight_eq_div_pow];have:((m:Int) / 2 ^ k) % 2=((m / 2 ^ k % 2:Nat):Int):=by push_cast;rfl
 rw [this];have h2:m / 2 ^ k % 2<2:=Nat.mod_lt _ (by omega);generalize hx:m / 2 ^ k=x at *;rcases Nat.mod_two_eq_zero_or_one x with h|h<;>simp [h,Nat.and_comm,Nat.and_one_is_mod]
theorem Jk9 (ks:List Int) (hk:ks.length=5) (m:Nat) (w:World):Calls Tryz.prog 33 #[.agg (ai .i64 ks),.int .i64 m] w fun e w'=>∃ v,e=.returned v/\SlI false w' w.heap.size v 3 .i64 (J0o m ks 5)/\Tch w.heap.size M0 w w':=by
 obtain ⟨i0,hi,hz0,hz1,hz2⟩:=info_parts info3;have hm:maxLen=9223372036854775807:=by decide
 go_enter Tryz.func33,Tryz.ntmps33
 go_wp2
 go_loopw [5,7] (fun v i wr=>∃ k:Nat,k<=5/\i=.int .i64 k/\PI wr (w.heap.size+1) v (J0o m ks k)/\wr.heap[w.heap.size]?=some (.cells (ai .i64 ks) 76)/\Tch w.heap.size M0 w wr) (fun _ i _=>5-(RowKit.intOf i).toNat)
 case atStart=>exact ⟨0,by omega,rfl,PI.nil _ _,Ja _,Tch.refl.alloc (Ja2 _) _⟩
 case round=>
  obtain ⟨k,hk5,rfl,hv,hc,ht⟩:=hrel;have hbit:=Ji4 m k;have hlen:(J0o m ks k).length<=5:=by unfold J0o;rw [Jc3];refine Jb6 (List.length_filter_le _ _) ?_;simp;omega
  rcases Jb5 k 5 with hlt|hge
  ·have hcell:=cell_of hc k;rw [Jar (by omega)] at hcell;have hlt':(k:Int)<5:=by omega
   have hsucc:=Jfx (m:=m) (n:=k) (k:=ks) (by omega);cases hb:m.testBit k
   ·rw [hb] at hbit hsucc;simp only [Jc1,if_false] at hsucc;go_wp2;refine ⟨⟨k+1,by omega,by go_num,?_,hc,ht⟩,?_⟩
    ·rw [hsucc];exact hv
    ·simp [RowKit.intOf];omega
   ·rw [hb] at hbit hsucc;simp only [if_true] at hsucc;generalize ks.getD k 0=y at *;have hsz:=Ji hc
    go_wp2_with (at_builtin;refine J1g _ rfl _ _ 33 rfl (w.heap.size+1) 3 i0 _ 1 8 Tryz.underlying33 hi hz0 hz1 hz2 rfl (by decide) _ _ _ rfl (hv.own.alloc _) ⟨wr.heap.size,0,none⟩ 1 1 [.int .i64 y] rfl rfl (Jkx (Ja _)) (by simp [Value.oneCell']) (by omega) (by omega) (by rw [size_alloc];omega) (hv.pl.kept fun g n cap e=>J7 _ (hv.lt e).2) (fun u hu=>by rcases Jb8.1 hu with rfl|hu;exact ⟨_,_,rfl⟩;cases hu) (Plain.ai (k:=.i64) (xs:=[0])) ?_;intro v' w1 hown' hgrow hnil hpl')
    obtain ⟨h1,h2⟩:=hv.pushed hown' hgrow hnil hpl' (by omega);refine ⟨⟨k+1,by omega,by go_num,?_,(h2.heap _ (by omega) fun x=>x).trans hc,ht.trans (h2.mono (by omega) fun _ _ h=>h)⟩,?_⟩
    ·rw [hsucc];exact h1
    ·simp [RowKit.intOf];omega
  ·have hge':¬ (k:Int)<5:=by omega
   obtain rfl:k=5:=by omega
   clear hc;go_wp2;go_ret;refine ⟨_,rfl,?_,ht⟩;rcases hv.sl with h|⟨g,cap,h1,h2,h3⟩
   ·exact .inl h
   ·exact .inr ⟨g,cap,h1,by omega,h3⟩
end Go.Sim.Z
namespace Go.Sim.Z
open Go Go.Proofs Go.RowKit
section
variable {P:Program} {ops:Array Oper} {Q:Exit->Act->World->Prop} {md:Region.Mode}
def lack (l:Array Bool):Nat:=l.toList.countP fun b=>!b
theorem J8j {l:Array Bool} {i:Nat} (h:l[i]?=some false):lack (l.setIfInBounds i true)+1=lack l:=by
 unfold lack;rw [Array.toList_setIfInBounds];obtain ⟨hl,e⟩:=Ja3.1 h;have hl':i<l.toList.length:=by simpa using hl
 have e':l.toList[i]=false:=by simpa using e
 rw [List.countP_set (h:=hl'),e'];have:0<l.toList.countP fun b=>!b:=List.countP_pos_iff.2 ⟨false,by rw [<- e'];exact List.getElem_mem _,rfl⟩;simp only [Bool.not_false,Bool.not_true,if_true,Jc1,if_false];omega
theorem J2s {listed:Array Bool} {i:Nat} (h:i∈Region.ready md ops listed):i<ops.size/\listed[i]?=some false/\∃ o,ops[i]?=some o/\∀ e∈o.after,Region.binds md e=true->listed[e.on]?=some true:=by
 unfold Region.ready at h;obtain ⟨h1,h2⟩:=Jd5.1 h;have hi:=List.mem_range.1 h1;rw [Ja8] at h2;obtain ⟨h3,h4⟩:=h2;refine ⟨hi,?_,ops[i],Ja4 hi,fun e he hb=>?_⟩
 ·cases hx:listed[i]? with
  | none=>simp [Ja5,hx] at h3
  | some b=>simp [Ja5,hx] at h3;subst h3;rfl
 ·rw [Ja4 hi] at h4;simp only [Option.map_some,Ja6,Array.all_eq_true_iff_forall_mem] at h4;have:=h4 e he;rw [hb] at this;cases hx:listed[e.on]? with
  | none=>simp [Ja5,hx] at this
  | some b=>simp [Ja5,hx] at this;subst this;rfl
theorem Jfy (I:Array Bool->Act->World->Prop) (hstep:∀ listed a w i,I listed a w->i∈Region.ready md ops listed->wpOp P ops Q i (fun a' w'=>I (listed.setIfInBounds i true) a' w') a w)
  (hend:∀ listed a w,I listed a w->Region.ready md ops listed=[]->Q .normal a w) :
  ∀ (fuel:Nat) (listed:Array Bool) (a:Act) (w:World),lack listed<=fuel->I listed a w->wpAny P md ops Q fuel listed a w
 | 0,listed,a,w,hf,h=>by
  have hr:Region.ready md ops listed=[]:=by
   cases hr:Region.ready md ops listed with
   | nil=>rfl
   | cons i l=>
    have:=J8j (J2s (i:=i) (by rw [hr];simp)).2.1;omega
  exact ⟨hr,hend _ _ _ h hr⟩
 | fuel+1,listed,a,w,hf,h=>by refine ⟨hend _ _ _ h,fun i hi=>wpOp_mono (fun a' w' h'=>?_) (hstep _ _ _ _ h hi)⟩;have:=J8j (J2s hi).2.1;exact Jfy I hstep hend fuel _ a' w' (by omega) h'
def anc (md:Region.Mode) (ops:Array Oper):Nat->Nat->Nat->Bool
 | 0,_,_=>false
 | f+1,k,j=>match ops[k]? with
  | none=>false
  | some o=>o.after.toList.any fun e=>Region.binds md e && (e.on == j || anc md ops f e.on j)
def Closed (md:Region.Mode) (ops:Array Oper) (listed:Array Bool):Prop:=∀ (i:Nat) (o:Oper),listed[i]?=some true->ops[i]?=some o->∀ e∈o.after,Region.binds md e=true->listed[e.on]?=some true
theorem Closed.anc {listed:Array Bool} (h:Closed md ops listed):∀ (f k j:Nat),(∀ o,ops[k]?=some o->∀ e∈o.after,Region.binds md e=true->listed[e.on]?=some true)->anc md ops f k j=true->listed[j]?=some true
 | 0,_,_,_,ha=>by cases ha
 | f+1,k,j,hk,ha=>by
  unfold Z.anc at ha;cases ho:ops[k]? with
  | none=>simp [ho] at ha
  | some o=>
   simp only [ho,List.any_eq_true,Ja8,Bool.or_eq_true,beq_iff_eq] at ha;obtain ⟨e,he,hb,h1|h1⟩:=ha
   ·rw [<- h1];exact hk o ho e (Array.mem_toList_iff.1 he) hb
   ·have hl:=hk o ho e (Array.mem_toList_iff.1 he) hb;exact h.anc f e.on j (fun o' ho'=>h e.on o' hl ho') h1
theorem Closed.set {listed:Array Bool} (h:Closed md ops listed) {i:Nat} (hi:i∈Region.ready md ops listed):Closed md ops (listed.setIfInBounds i true):=by
 obtain ⟨_,hf,o,ho,hafter⟩:=J2s hi;intro i' o' hl ho' e he hb;have key:listed[e.on]?=some true->(listed.setIfInBounds i true)[e.on]?=some true:=fun hx=>by
  by_cases e1:e.on=i
  ·rw [e1] at hx ⊢;rw [hx] at hf;cases hf
  ·rw [Ja1 (Ne.symm e1)];exact hx
 by_cases e1:i'=i
 ·subst e1;rw [ho] at ho';cases ho';exact key (hafter e he hb)
 ·rw [Ja1 (Ne.symm e1)] at hl;exact key (h i' o' hl ho' e he hb)
def J3v (md:Region.Mode) (ops:Array Oper) (m:Nat) (dst:Nat->Nat):Bool:=
 decide (m<=ops.size) && (List.range m).all (fun i=>match ops[i]? with
  | none=>false
  | some o=>o.guard.isNone && o.dst == some (dst i) && o.after.all (fun e=>decide (e.on<i)) && (List.range i).all fun j=>dst j != dst i)
 && (List.range ops.size).all fun k=>decide (k<m) || match ops[k]? with
  | none=>false
  | some o=>o.after.all (fun e=>decide (e.on<k)) && (List.range k).all fun j=>anc md ops ops.size k j
structure Jf3 (M:Nat->Prop) (m:Nat) (dst:Nat->Nat) (F:Nat->Value->World->Prop) (T0:Array Value) (ds:List Deferred) (w0:World) (listed:Array Bool) (a:Act) (w:World):Prop where
 tch:Tch w0.heap.size M w0 w
 ds:a.defers=ds
 size:a.tmps.size=T0.size
 old:∀ s,(∀ i,i<m->dst i≠s)->a.tmps[s]?=T0[s]?
 facts:∀ i,i<m->listed[i]?=some true->∃ v,a.tmps[dst i]?=some v/\F i v w
theorem Jf3.put {M:Nat->Prop} {m:Nat} {dst:Nat->Nat} {F:Nat->Value->World->Prop} {T0:Array Value} {ds:List Deferred} {w0 w w':World} {listed:Array Bool} {a:Act} {i:Nat} {v:Value}
  (h:Jf3 M m dst F T0 ds w0 listed a w) (hi:i<m) (hne:∀ j,j<m->j≠i->dst j≠dst i) (hsz:dst i<T0.size) (stable:∀ i v w w',F i v w->Tch w.heap.size M w w'->F i v w') (hv:F i v w') (ht:Tch w.heap.size M w w') :
  Jf3 M m dst F T0 ds w0 (listed.setIfInBounds i true) (a.put (some (dst i)) v) w':=by
 refine ⟨h.tch.then ht h.tch.size fun _ _ h=>h,h.ds,by simp [Act.put,h.size],fun s hs=>?_,fun j hj hl=>?_⟩
 ·show (a.tmps.setIfInBounds (dst i) v)[s]?=_;rw [Ja1 (hs i hi)];exact h.old s hs
 ·by_cases e:j=i
  ·subst e;exact ⟨v,by show (a.tmps.setIfInBounds (dst j) v)[dst j]?=_;rw [Ja9 (by rw [h.size];exact hsz)],hv⟩
  ·rw [Ja1 (Ne.symm e)] at hl;obtain ⟨u,h1,h2⟩:=h.facts j hj hl;exact ⟨u,by show (a.tmps.setIfInBounds (dst i) v)[dst j]?=_;rw [Ja1 (Ne.symm (hne j hj e))];exact h1,stable _ _ _ _ h2 ht⟩
theorem J8k {id:Nat} {T0:Array Value} {ds:List Deferred} {w0:World} {M:Nat->Prop} (m:Nat) (dst:Nat->Nat) (F:Nat->Value->World->Prop) (hm:P.follows .mixedOrders=true) (hok:J3v .any ops m dst=true) (hsz:∀ i,i<m->dst i<T0.size)
  (stable:∀ i v w w',F i v w->Tch w.heap.size M w w'->F i v w')
  (step:∀ i o a w,i<m->ops[i]?=some o->Tch w0.heap.size M w0 w->a.tmps.size=T0.size->(∀ s,(∀ i,i<m->dst i≠s)->a.tmps[s]?=T0[s]?)->(∀ j,(o.after.toList.any fun e=>e.on == j && Region.binds .any e)=true->∃ v,a.tmps[dst j]?=some v/\F j v w) ->
   wpOp P ops Q i (fun a' w'=>∃ v,a'=a.put (some (dst i)) v/\F i v w'/\Tch w.heap.size M w w') a w)
  (fin:∀ a w,Tch w0.heap.size M w0 w->a.defers=ds->a.tmps.size=T0.size->(∀ s,(∀ i,i<m->dst i≠s)->a.tmps[s]?=T0[s]?)->(∀ i,i<m->∃ v,a.tmps[dst i]?=some v/\F i v w)->wpOps P ops Q (List.range' m (ops.size-m)) a w) :
  (Code.region id ops true).wp P Q ⟨T0,ds⟩ w0:=by
 unfold J3v at hok;simp only [Ja8,decide_eq_true_eq,List.all_eq_true,List.mem_range,Bool.or_eq_true] at hok;obtain ⟨⟨hm1,hA⟩,hB⟩:=hok;have at_:∀ i,i<m->∃ o,ops[i]?=some o/\o.guard=none/\o.dst=some (dst i)/\(∀ e∈o.after,e.on<i)/\∀ j,j<i->dst j≠dst i:=fun i hi=>by
  have:=hA i hi;cases ho:ops[i]? with
  | none=>simp [ho] at this
  | some o=>
   simp only [ho,Ja8,Option.isNone_iff_eq_none,beq_iff_eq,Array.all_eq_true_iff_forall_mem,decide_eq_true_eq,List.all_eq_true,List.mem_range,bne_iff_ne] at this;exact ⟨o,rfl,this.1.1.1,this.1.1.2,this.1.2,this.2⟩
 have tl_:∀ k,m<=k->k<ops.size->∃ o,ops[k]?=some o/\(∀ e∈o.after,e.on<k)/\∀ j,j<k->anc .any ops ops.size k j=true:=fun k hk hk2=>by
  have ho:=Ja4 hk2;have h0:=hB k hk2;rw [ho] at h0;simp only [Ja8,Array.all_eq_true_iff_forall_mem,decide_eq_true_eq,List.all_eq_true,List.mem_range] at h0;rcases h0 with h|h
  ·omega
  ·exact ⟨_,ho,h.1,h.2⟩
 have hne:∀ i,i<m->∀ j,j<m->j≠i->dst j≠dst i:=fun i hi j hj hji=>by
  obtain ⟨_,_,_,_,_,h1⟩:=at_ i hi;obtain ⟨_,_,_,_,_,h2⟩:=at_ j hj;rcases Nat.lt_or_gt_of_ne hji with h|h
  ·exact h1 j h
  ·exact fun e=>h2 i h e.symm
 refine wp_region_any hm ?_;have hlk:lack (Array.replicate ops.size false)<=ops.size:=by unfold lack;refine Jb6 List.countP_le_length ?_;simp
 have rdy:∀ (listed:Array Bool) (k:Nat),m<=k->k<ops.size->listed[k]?=some false->(∀ j,j<k->listed[j]?=some true)->k∈Region.ready .any ops listed:=fun listed k hk hk2 hf hall=>by obtain ⟨o,ho,hon,_⟩:=tl_ k hk hk2;unfold Region.ready;refine Jd5.2 ⟨List.mem_range.2 hk2,?_⟩;simp only [Ja5,hf,ho,Ja6,Bool.not_false,Option.map_some,Bool.true_and,Array.all_eq_true_iff_forall_mem,Bool.or_eq_true];exact fun e he=>.inr (by rw [hall e.on (hon e he)];rfl)
 refine Jfy (md:=.any) (P:=P) (Q:=Q) (fun listed a w=>listed.size=ops.size/\Closed .any ops listed/\((Jf3 M m dst F T0 ds w0 listed a w/\∀ k,m<=k->k<ops.size->listed[k]?=some false)\/(∃ k,m<=k/\k<=ops.size/\(∀ i,i<k->listed[i]?=some true)/\(∀ i,k<=i->i<ops.size->listed[i]?=some false)/\wpOps P ops Q (List.range' k (ops.size-k)) a w))) ?_ ?_ _ _ _ _ hlk
  ⟨by simp,fun i o hl=>?_,.inl ⟨⟨⟨Ja2 _,fun _ _ _=>rfl,rfl,rfl,rfl⟩,rfl,rfl,fun _ _=>rfl,fun i hi h=>?_⟩,fun k _ hk=>by simp [hk]⟩⟩
 ·rintro listed a w i ⟨hls,hcl,h⟩ hi;have hcl':=hcl.set hi;obtain ⟨hin,hf,o,ho,hafter⟩:=J2s hi;have Ju1:∀ o',ops[i]?=some o'->∀ e∈o'.after,Region.binds .any e=true->listed[e.on]?=some true:=fun o' ho'=>by rw [ho] at ho';cases ho';exact hafter
  have tail:∀ k,m<=k->k<=ops.size->(∀ j,j<k->listed[j]?=some true)->(∀ j,k<=j->j<ops.size->listed[j]?=some false)->wpOps P ops Q (List.range' k (ops.size-k)) a w ->
    wpOp P ops Q i (fun a' w'=>(listed.setIfInBounds i true).size=ops.size/\Closed .any ops (listed.setIfInBounds i true)/\((Jf3 M m dst F T0 ds w0 (listed.setIfInBounds i true) a' w'/\∀ k,m<=k->k<ops.size->(listed.setIfInBounds i true)[k]?=some false)\/(∃ k,m<=k/\k<=ops.size/\(∀ j,j<k->(listed.setIfInBounds i true)[j]?=some true)/\(∀ j,k<=j->j<ops.size->(listed.setIfInBounds i true)[j]?=some false)/\wpOps P ops Q (List.range' k (ops.size-k)) a' w'))) a w:=fun k hk hk2 hall hno hw=>by
   have hki:k<=i:=by
    rcases Jb5 i k with h|h
    ·rw [hall i h] at hf;cases hf
    ·exact h
   obtain ⟨o2,ho2,hon2,Jbu⟩:=tl_ i (by omega) hin;obtain rfl:i=k:=by
    rcases Nat.eq_or_lt_of_le hki with h|h
    ·exact h.symm
    ·have:=hcl.anc ops.size i k Ju1 (Jbu k h);rw [hno k (Ja2 _) (by omega)] at this;cases this
   rw [show ops.size-i=(ops.size-(i+1))+1 by omega,List.range'_succ,wpOps_cons] at hw;refine wpOp_mono (fun a' w' h=>⟨by simpa using hls,hcl',.inr ⟨i+1,by omega,by omega,fun j hj=>?_,fun j hj hj2=>?_,h⟩⟩) hw
   ·by_cases e:j=i
    ·subst e;rw [Ja9 (by omega)]
    ·rw [Ja1 (Ne.symm e)];exact hall j (by omega)
   ·rw [Ja1 (by omega)];exact hno j (by omega) hj2
  rcases h with ⟨hI,hT⟩|⟨k,hk,hk2,hall,hno,hw⟩
  ·rcases Jb5 i m with him|him
   ·obtain ⟨o',ho',hg,hd,hon,_⟩:=at_ i him;obtain rfl:o'=o:=by rw [ho] at ho';exact (Ja0 ho').symm
    refine wpOp_mono ?_ (step i o' a w him ho hI.tch hI.size hI.old fun j hjj=>?_)
    ·rintro a' w' ⟨v,rfl,hv,ht⟩;refine ⟨by simpa using hls,hcl',.inl ⟨hI.put him (hne i him) (hsz i him) stable hv ht,fun k hk hk2=>?_⟩⟩;rw [Ja1 (by omega)];exact hT k hk hk2
    ·obtain ⟨e,he,h⟩:=List.any_eq_true.1 hjj;rw [Ja8,beq_iff_eq] at h;obtain ⟨rfl,hb⟩:=h;exact hI.facts _ (by have:=hon e (Array.mem_toList_iff.1 he);omega) (hafter e (Array.mem_toList_iff.1 he) hb)
   ·obtain ⟨_,_,_,Jbu⟩:=tl_ i him hin;have hall:∀ j,j<i->listed[j]?=some true:=fun j hj=>hcl.anc ops.size i j Ju1 (Jbu j hj);obtain rfl:i=m:=by
     rcases Nat.eq_or_lt_of_le him with h|h
     ·exact h.symm
     ·have:=hall m h;rw [hT m (Ja2 _) (by omega)] at this;cases this
    exact tail i (Ja2 _) (by omega) hall hT (fin a w hI.tch hI.ds hI.size hI.old fun j hj=>hI.facts j hj (hall j hj))
  ·exact tail k hk hk2 hall hno hw
 ·rintro listed a w ⟨hls,hcl,h⟩ hr;have dn:∀ k,m<=k->k<=ops.size->(∀ j,j<k->listed[j]?=some true)->(∀ j,k<=j->j<ops.size->listed[j]?=some false)->wpOps P ops Q (List.range' k (ops.size-k)) a w->Q .normal a w:=fun k hk hk2 hall hno hw=>by
   rcases Jb5 k ops.size with hlt|hge
   ·have:=rdy listed k hk hlt (hno k (Ja2 _) hlt) hall;rw [hr] at this;cases this
   ·rw [show ops.size-k=0 by omega] at hw;exact hw
  rcases h with ⟨hI,hT⟩|⟨k,hk,hk2,hall,hno,hw⟩
  ·have hall:∀ j,j<m->listed[j]?=some true:=fun j=>by
    induction j using Nat.strongRecOn with
    | _ j ih=>
     intro hj;obtain ⟨o,ho,_,_,hon,_⟩:=at_ j hj;cases hx:listed[j]? with
     | none=>have:=Jd7.1 hx;omega
     | some b=>
      cases b with
      | true=>rfl
      | false=>
       exfalso;have:j∈Region.ready .any ops listed:=by unfold Region.ready;refine Jd5.2 ⟨List.mem_range.2 (by omega),?_⟩;simp only [Ja5,hx,ho,Ja6,Bool.not_false,Option.map_some,Bool.true_and,Array.all_eq_true_iff_forall_mem,Bool.or_eq_true];exact fun e he=>.inr (by rw [ih e.on (hon e he) (by have:=hon e he;omega)];rfl)
       rw [hr] at this;cases this
   exact dn m (Ja2 _) hm1 hall hT (fin a w hI.tch hI.ds hI.size hI.old fun j hj=>hI.facts j hj (hall j hj))
  ·exact dn k hk hk2 hall hno hw
 ·rw [Array.getElem?_replicate] at hl;split at hl<;>cases hl
 ·rw [Array.getElem?_replicate] at h;split at h<;>cases h
theorem J9 {i:Nat} {o:Oper} {a:Act} {w w':World} {v:Value} {K:Act->World->Prop} (ho:ops[i]?=some o) (hg:o.guard=none) (hr:(execOp a.eval o).run P w=.ok (.value v) w') (h:K (a.put o.dst v) w'):wpOp P ops Q i K a w:=by unfold wpOp;simp only [ho,Region.wanted,hg,if_true];left;unfold Oper.wp;rw [hr];exact h
theorem J2f {i:Nat} {o:Oper} {a:Act} {w w':World} {f:FuncId} {args:Array Value} {R:Ending->World->Prop} {K:Act->World->Prop} (ho:ops[i]?=some o) (hg:o.guard=none) (hr:(execOp a.eval o).run P w=.ok (.enter f args) w') (hc:Calls P f args w' R) (h:∀ e w2,R e w2->∃ v,e=.returned v/\K (a.put o.dst v) w2):wpOp P ops Q i K a w:=by unfold wpOp;simp only [ho,Region.wanted,hg,if_true];left;unfold Oper.wp;rw [hr];refine hc.mono fun e w2 he=>?_;obtain ⟨v,rfl,hk⟩:=h e w2 he;exact hk
theorem J7y {a:Act} {t:Tmp} {v:Value} (h:a.tmps[t]?=some v):a.eval (.tmp t)=v:=by simp [Act.eval,Ja5,h]
end
def Lies (base:Nat) (H:List (Nat × Obj)) (w:World):Prop:=∀ p∈H,base<=p.1/\w.heap[p.1]?=some p.2
theorem Lies.tch {base:Nat} {H:List (Nat × Obj)} {w w':World} (h:Lies base H w) (t:Tch w.heap.size M0 w w'):Lies base H w':=fun p hp=>⟨(h p hp).1,(t.heap _ (Ji (h p hp).2) fun x=>x).trans (h p hp).2⟩
theorem Lies.nil {base:Nat} {w:World}:Lies base [] w:=fun p hp=>by cases hp
theorem Lies.cons {base:Nat} {H:List (Nat × Obj)} {w:World} {o:Obj} (h:Lies base H w) (hb:base<=w.heap.size):Lies base ((w.heap.size,o)::H) (w.alloc o):=fun p hp=>by
 rcases Jb8.1 hp with rfl|hp
 ·exact ⟨hb,Ja _⟩
 ·exact ⟨(h p hp).1,(J7 _ (Ji (h p hp).2)).trans (h p hp).2⟩
theorem Lies.app {base:Nat} {H H':List (Nat × Obj)} {w:World} (h:Lies base H w) (h':Lies base H' w):Lies base (H++H') w:=fun p hp=>(Jc9.1 hp).elim (h p) (h' p)
def LF (base:Nat) (Φ:Nat->Value->List (Nat × Obj)->Prop) (i:Nat) (v:Value) (w:World):Prop:=∃ H,Φ i v H/\Lies base H w
theorem LF.stable {base:Nat} {Φ:Nat->Value->List (Nat × Obj)->Prop} (i:Nat) (v:Value) (w w':World) (h:LF base Φ i v w) (t:Tch w.heap.size M0 w w'):LF base Φ i v w':=by obtain ⟨H,h1,h2⟩:=h;exact ⟨H,h1,h2.tch t⟩
def J67 (c:J8):Bun:=⟨0,List.replicate (2 ^ c.bits.toNat) 0,List.replicate (c.nb+1) 0,[]⟩
theorem Jf4 {c:J8} (hc:Jw c):J5f c (J67 c):=
 ⟨List.length_replicate,fun x hx=>by obtain rfl:=List.eq_of_mem_replicate hx;decide,List.length_replicate,fun x hx=>by obtain rfl:=List.eq_of_mem_replicate hx;exact ⟨by decide,by decide⟩,List.Pairwise.nil,by have:=hc.k1;simp [J67];omega,fun x hx=>(by cases hx),by show I64 0;exact ⟨by decide,by decide⟩⟩
section
variable {w:World} {c:J8}
abbrev pt (b:Nat) (o:Nat:=0):Value:=.pointer (some ⟨b,o,none⟩)
def J9e (n:Nat):Obj:=.cells (Array.replicate n (.int .u8 0)) 5
def J9f (n:Nat):Obj:=.cells (Array.replicate n (.int .i64 0)) 3
def J034 (c:J8) (n0 n:Nat):Nat->Value->List (Nat × Obj)->Prop
 | 0,v,H=>H=[]/\v=pt n0 1
 | 1,v,H=>H=[]/\v=.int .i64 c.bits
 | 2,v,H=>H=[]/\v=pt n0 1
 | 3,v,H=>H=[]/\v=.int .i64 c.bits
 | 4,v,H=>H=[]/\v=.int .i64 n
 | 5,v,H=>∃ g,H=[(g,J9e n)]/\v=.slice (some ⟨g,0,none⟩) n n
 | 6,v,H=>∃ g,H=[(g,J9e n)]/\v=.agg #[.int .i64 c.bits,.slice (some ⟨g,0,none⟩) n n]
 | 7,v,H=>∃ b g,H=[(b,.cells #[.int .i64 c.bits,.slice (some ⟨g,0,none⟩) n n] 122),(g,J9e n)]/\v=pt b
 | 8,v,H=>∃ b g,H=[(b,.cells #[.int .i64 c.bits,.slice (some ⟨g,0,none⟩) n n] 122),(g,J9e n)]/\v=.iface 120 (pt b)
 | 9,v,H=>H=[]/\v=pt n0 3
 | 10,v,H=>H=[]/\v=.slice c.ba c.nb c.cb
 | 11,v,H=>H=[]/\v=pt n0 3
 | 12,v,H=>H=[]/\v=.slice c.ba c.nb c.cb
 | 13,v,H=>H=[]/\v=.int .i64 c.nb
 | 14,v,H=>H=[]/\v=.int .i64 (c.nb+1)
 | 15,v,H=>∃ g,H=[(g,J9f (c.nb+1))]/\v=.slice (some ⟨g,0,none⟩) (c.nb+1) (c.nb+1)
 | 16,v,H=>∃ g,H=[(g,J9f (c.nb+1))]/\v=.agg #[.slice c.ba c.nb c.cb,.slice (some ⟨g,0,none⟩) (c.nb+1) (c.nb+1)]
 | 17,v,H=>∃ b g,H=[(b,.cells #[.slice c.ba c.nb c.cb,.slice (some ⟨g,0,none⟩) (c.nb+1) (c.nb+1)] 125),(g,J9f (c.nb+1))]/\v=pt b
 | 18,v,H=>∃ b g,H=[(b,.cells #[.slice c.ba c.nb c.cb,.slice (some ⟨g,0,none⟩) (c.nb+1) (c.nb+1)] 125),(g,J9f (c.nb+1))]/\v=.iface 123 (pt b)
 | 19,v,H=>H=[]/\v=pt n0 2
 | 20,v,H=>H=[]/\v=.int .i64 c.K
 | 21,v,H=>H=[]/\v=.agg #[.int .i64 c.K,.slice none 0 0]
 | 22,v,H=>∃ b,H=[(b,.cells #[.int .i64 c.K,.slice none 0 0] 128)]/\v=pt b
 | 23,v,H=>∃ b,H=[(b,.cells #[.int .i64 c.K,.slice none 0 0] 128)]/\v=.iface 126 (pt b)
 | 24,v,H=>∃ b1 g1 b2 g2 b3,H=[(b1,.cells #[.int .i64 c.bits,.slice (some ⟨g1,0,none⟩) n n] 122),(g1,J9e n)]++([(b2,.cells #[.slice c.ba c.nb c.cb,.slice (some ⟨g2,0,none⟩) (c.nb+1) (c.nb+1)] 125),(g2,J9f (c.nb+1))]++[(b3,.cells #[.int .i64 c.K,.slice none 0 0] 128)])/\v=.agg #[.iface 120 (pt b1),.iface 123 (pt b2),.iface 126 (pt b3)]
 | 25,v,H=>∃ b1 g1 b2 g2 b3,H=[(b1,.cells #[.int .i64 c.bits,.slice (some ⟨g1,0,none⟩) n n] 122),(g1,J9e n)]++([(b2,.cells #[.slice c.ba c.nb c.cb,.slice (some ⟨g2,0,none⟩) (c.nb+1) (c.nb+1)] 125),(g2,J9f (c.nb+1))]++[(b3,.cells #[.int .i64 c.K,.slice none 0 0] 128)])/\v=.agg #[.int .i64 0,.iface 120 (pt b1),.iface 123 (pt b2),.iface 126 (pt b3)]
 | _,v,H=>∃ b b1 g1 b2 g2 b3,H=(b,.cells #[.int .i64 0,.iface 120 (pt b1),.iface 123 (pt b2),.iface 126 (pt b3)] 95)::([(b1,.cells #[.int .i64 c.bits,.slice (some ⟨g1,0,none⟩) n n] 122),(g1,J9e n)]++([(b2,.cells #[.slice c.ba c.nb c.cb,.slice (some ⟨g2,0,none⟩) (c.nb+1) (c.nb+1)] 125),(g2,J9f (c.nb+1))]++[(b3,.cells #[.int .i64 c.K,.slice none 0 0] 128)]))/\v=pt b
theorem J2g {w:World} {b b':Nat} {a a':Array Value} {t t':TypeId} (h:w.heap[b]?=some (.cells a t)) (h':w.heap[b']?=some (.cells a' t')) (hn:t≠t'):b≠b':=fun e=>by subst e;rw [h] at h';simp only [Jb2,Obj.cells.injEq] at h';exact hn h'.2.1
theorem mixed:Tryz.prog.follows .mixedOrders=true:=by kernel_rfl
theorem Jvd (hc:Jw c) (Jf2 seed:Int) :
  Calls Tryz.prog 27 #[.agg (J17 c Jf2 seed)] w fun e w'=>∃ q:BP,e=.returned (.pointer (some ⟨q.b,0,none⟩))/\Jz false w' c q (J67 c)/\(∀ x∈q.pl,w.heap.size<=x)/\Tch w.heap.size M0 w w':=by
 have hb1:=hc.b1;have hb2:=hc.b2;have hnb:=hc.nb;obtain ⟨n,hn⟩:∃ n:Nat,n=2 ^ c.bits.toNat:=⟨_,rfl⟩;have hb3:c.bits=4\/c.bits=5\/c.bits=6:=by omega
 have hn64:n<=64:=by
  rcases hb3 with e|e|e<;>rw [hn,e]<;>decide
 have hm1:=mkRow 84 5 .u8 1 Tryz.underlying84 info5 (by omega) n (by omega);have hm2:=mkRow 33 3 .i64 8 Tryz.underlying33 info3 (by omega) (c.nb+1) (by omega);have hm2':∀ w1,(Instr.makeSlice 33 (.int .i64 ((c.nb:Int)+1)) (.int .i64 ((c.nb:Int)+1))).run Tryz.prog w1=.ok (.slice (some ⟨w1.heap.size,0,none⟩) (c.nb+1) (c.nb+1)) (w1.alloc (.cells (Array.replicate (c.nb+1) (.int .i64 0)) 3)):=fun w1=>by
  have:=hm2 w1
  rwa [show ((c.nb+1:Nat):Int)=(c.nb:Int)+1 by omega] at this
 unfold J17
 go_enter Tryz.func27,Tryz.ntmps27
 go_wp2_with fail
 have hcell:∀ w1 k v,Tch (w.heap.size+1) M0 (w.alloc (.cells #[.int .i64 Jf2,.int .i64 c.bits,.int .i64 c.K,.slice c.ba c.nb c.cb,.int .i64 seed] 35)) w1->#[Value.int .i64 Jf2,.int .i64 c.bits,.int .i64 c.K,.slice c.ba c.nb c.cb,.int .i64 seed][k]?=some v->w1.cell? ⟨w.heap.size,k,none⟩=some v:=fun w1 k v t h=>
  (cell_of ((t.heap _ (by omega) fun x=>x).trans (Ja _)) k).trans h
 have hadd:IntKind.i64.wrap ((c.nb:Int)+1)=c.nb+1:=by rw [IntKind.wrap_i64];omega
 have Ji5:IntKind.i64.wrap (2 ^ c.bits.toNat)=n:=by
  rw [IntKind.wrap_i64];rcases hb3 with e|e|e<;>rw [hn,e]<;>decide
 generalize hW0:w.alloc (.cells #[.int .i64 Jf2,.int .i64 c.bits,.int .i64 c.K,.slice c.ba c.nb c.cb,.int .i64 seed] 35)=W0 at *;have hs0:W0.heap.size=w.heap.size+1:=by rw [<- hW0];simp
 rw [<- hs0] at hcell;generalize hn0:w.heap.size=n0 at *;refine J8k 27 (fun i=>i+3) (LF W0.heap.size (J034 c n0 n)) mixed (by kernel_rfl) (fun i hi=>by simp;omega) LF.stable ?_ ?_
 ·intro i o a w1 hi ho ht hsz hold hd;have h1:a.tmps[1]?=some (pt n0):=(hold 1 (by intro i _;omega)).trans rfl;have hsz1:=ht.size
  match i,hi with
  | 0,_=>
   cases ho;exact J9 rfl rfl (by simp [execOp,go_sem,h1];try rfl) ⟨_,rfl,⟨_,⟨rfl,rfl⟩,.nil⟩,.refl⟩
  | 2,_=>
   cases ho;exact J9 rfl rfl (by simp [execOp,go_sem,h1];try rfl) ⟨_,rfl,⟨_,⟨rfl,rfl⟩,.nil⟩,.refl⟩
  | 9,_=>
   cases ho;exact J9 rfl rfl (by simp [execOp,go_sem,h1];try rfl) ⟨_,rfl,⟨_,⟨rfl,rfl⟩,.nil⟩,.refl⟩
  | 11,_=>
   cases ho;exact J9 rfl rfl (by simp [execOp,go_sem,h1];try rfl) ⟨_,rfl,⟨_,⟨rfl,rfl⟩,.nil⟩,.refl⟩
  | 19,_=>
   cases ho;exact J9 rfl rfl (by simp [execOp,go_sem,h1];try rfl) ⟨_,rfl,⟨_,⟨rfl,rfl⟩,.nil⟩,.refl⟩
  | 1,_=>
   cases ho;obtain ⟨_,e0,H0,⟨rfl,rfl⟩,l0⟩:=hd 0 rfl;exact J9 rfl rfl (by simp [execOp,go_sem,e0,hcell _ 1 _ ht rfl];try rfl) ⟨_,rfl,⟨_,⟨rfl,rfl⟩,.nil⟩,.refl⟩
  | 3,_=>
   cases ho;obtain ⟨_,e2,H2,⟨rfl,rfl⟩,l2⟩:=hd 2 rfl;exact J9 rfl rfl (by simp [execOp,go_sem,e2,hcell _ 1 _ ht rfl];try rfl) ⟨_,rfl,⟨_,⟨rfl,rfl⟩,.nil⟩,.refl⟩
  | 4,_=>
   cases ho;obtain ⟨_,e3,H3,⟨rfl,rfl⟩,l3⟩:=hd 3 rfl;exact J9 rfl rfl (by simp [execOp,go_sem,e3,Ji5];try rfl) ⟨_,rfl,⟨_,⟨rfl,rfl⟩,.nil⟩,.refl⟩
  | 5,_=>
   cases ho;obtain ⟨_,e4,H4,⟨rfl,rfl⟩,l4⟩:=hd 4 rfl;exact J9 rfl rfl (by simp [execOp,go_sem,e4,hm1];try rfl) ⟨_,rfl,⟨_,⟨_,rfl,rfl⟩,Lies.nil.cons ht.size⟩,(Tch.refl.alloc (Ja2 _) _)⟩
  | 6,_=>
   cases ho;obtain ⟨_,e1,H1,⟨rfl,rfl⟩,l1⟩:=hd 1 rfl;obtain ⟨_,e5,H5,⟨g,rfl,rfl⟩,l5⟩:=hd 5 rfl;exact J9 rfl rfl (by simp [execOp,go_sem,e1,e5];try rfl) ⟨_,rfl,⟨_,⟨_,rfl,rfl⟩,l5⟩,.refl⟩
  | 7,_=>
   cases ho;obtain ⟨_,e6,H6,⟨g,rfl,rfl⟩,l6⟩:=hd 6 rfl;exact J9 rfl rfl (by simp [execOp,go_sem,e6];try rfl) ⟨_,rfl,⟨_,⟨_,_,rfl,rfl⟩,l6.cons ht.size⟩,(Tch.refl.alloc (Ja2 _) _)⟩
  | 8,_=>
   cases ho;obtain ⟨_,e7,H7,⟨b,g,rfl,rfl⟩,l7⟩:=hd 7 rfl;exact J9 rfl rfl (by simp [execOp,go_sem,e7];try rfl) ⟨_,rfl,⟨_,⟨_,_,rfl,rfl⟩,l7⟩,.refl⟩
  | 10,_=>
   cases ho;obtain ⟨_,e9,H9,⟨rfl,rfl⟩,l9⟩:=hd 9 rfl;exact J9 rfl rfl (by simp [execOp,go_sem,e9,hcell _ 3 _ ht rfl];try rfl) ⟨_,rfl,⟨_,⟨rfl,rfl⟩,.nil⟩,.refl⟩
  | 12,_=>
   cases ho;obtain ⟨_,e11,H11,⟨rfl,rfl⟩,l11⟩:=hd 11 rfl;exact J9 rfl rfl (by simp [execOp,go_sem,e11,hcell _ 3 _ ht rfl];try rfl) ⟨_,rfl,⟨_,⟨rfl,rfl⟩,.nil⟩,.refl⟩
  | 13,_=>
   cases ho;obtain ⟨_,e12,H12,⟨rfl,rfl⟩,l12⟩:=hd 12 rfl;exact J9 rfl rfl (by simp [execOp,go_sem,e12];try rfl) ⟨_,rfl,⟨_,⟨rfl,rfl⟩,.nil⟩,.refl⟩
  | 14,_=>
   cases ho;obtain ⟨_,e13,H13,⟨rfl,rfl⟩,l13⟩:=hd 13 rfl;exact J9 rfl rfl (by simp [execOp,go_sem,e13,hadd];try rfl) ⟨_,rfl,⟨_,⟨rfl,rfl⟩,.nil⟩,.refl⟩
  | 15,_=>
   cases ho;obtain ⟨_,e14,H14,⟨rfl,rfl⟩,l14⟩:=hd 14 rfl;exact J9 rfl rfl (by simp [execOp,go_sem,e14,hm2'];try rfl) ⟨_,rfl,⟨_,⟨_,rfl,rfl⟩,Lies.nil.cons ht.size⟩,(Tch.refl.alloc (Ja2 _) _)⟩
  | 16,_=>
   cases ho;obtain ⟨_,e10,H10,⟨rfl,rfl⟩,l10⟩:=hd 10 rfl;obtain ⟨_,e15,H15,⟨g,rfl,rfl⟩,l15⟩:=hd 15 rfl;exact J9 rfl rfl (by simp [execOp,go_sem,e10,e15];try rfl) ⟨_,rfl,⟨_,⟨_,rfl,rfl⟩,l15⟩,.refl⟩
  | 17,_=>
   cases ho;obtain ⟨_,e16,H16,⟨g,rfl,rfl⟩,l16⟩:=hd 16 rfl;exact J9 rfl rfl (by simp [execOp,go_sem,e16];try rfl) ⟨_,rfl,⟨_,⟨_,_,rfl,rfl⟩,l16.cons ht.size⟩,(Tch.refl.alloc (Ja2 _) _)⟩
  | 18,_=>
   cases ho;obtain ⟨_,e17,H17,⟨b,g,rfl,rfl⟩,l17⟩:=hd 17 rfl;exact J9 rfl rfl (by simp [execOp,go_sem,e17];try rfl) ⟨_,rfl,⟨_,⟨_,_,rfl,rfl⟩,l17⟩,.refl⟩
  | 20,_=>
   cases ho;obtain ⟨_,e19,H19,⟨rfl,rfl⟩,l19⟩:=hd 19 rfl;exact J9 rfl rfl (by simp [execOp,go_sem,e19,hcell _ 2 _ ht rfl];try rfl) ⟨_,rfl,⟨_,⟨rfl,rfl⟩,.nil⟩,.refl⟩
  | 21,_=>
   cases ho;obtain ⟨_,e20,H20,⟨rfl,rfl⟩,l20⟩:=hd 20 rfl;exact J9 rfl rfl (by simp [execOp,go_sem,e20];try rfl) ⟨_,rfl,⟨_,⟨rfl,rfl⟩,.nil⟩,.refl⟩
  | 22,_=>
   cases ho;obtain ⟨_,e21,H21,⟨rfl,rfl⟩,l21⟩:=hd 21 rfl;exact J9 rfl rfl (by simp [execOp,go_sem,e21];try rfl) ⟨_,rfl,⟨_,⟨_,rfl,rfl⟩,Lies.nil.cons ht.size⟩,(Tch.refl.alloc (Ja2 _) _)⟩
  | 23,_=>
   cases ho;obtain ⟨_,e22,H22,⟨b,rfl,rfl⟩,l22⟩:=hd 22 rfl;exact J9 rfl rfl (by simp [execOp,go_sem,e22];try rfl) ⟨_,rfl,⟨_,⟨_,rfl,rfl⟩,l22⟩,.refl⟩
  | 24,_=>
   cases ho;obtain ⟨_,e8,H8,⟨b1,g1,rfl,rfl⟩,l8⟩:=hd 8 rfl;obtain ⟨_,e18,H18,⟨b2,g2,rfl,rfl⟩,l18⟩:=hd 18 rfl;obtain ⟨_,e23,H23,⟨b3,rfl,rfl⟩,l23⟩:=hd 23 rfl;exact J9 rfl rfl (by simp [execOp,go_sem,e8,e18,e23];try rfl) ⟨_,rfl,⟨_,⟨_,_,_,_,_,rfl,rfl⟩,l8.app (l18.app l23)⟩,.refl⟩
  | 25,_=>
   cases ho;obtain ⟨_,e24,H24,⟨b1,g1,b2,g2,b3,rfl,rfl⟩,l24⟩:=hd 24 rfl;exact J9 rfl rfl (by simp [execOp,go_sem,e24];try rfl) ⟨_,rfl,⟨_,⟨_,_,_,_,_,rfl,rfl⟩,l24⟩,.refl⟩
  | 26,_=>
   cases ho;obtain ⟨_,e25,H25,⟨b1,g1,b2,g2,b3,rfl,rfl⟩,l25⟩:=hd 25 rfl;exact J9 rfl rfl (by simp [execOp,go_sem,e25];try rfl) ⟨_,rfl,⟨_,⟨_,_,_,_,_,_,rfl,rfl⟩,l25.cons ht.size⟩,(Tch.refl.alloc (Ja2 _) _)⟩
  | i+27,h=>exact absurd h (by omega)
 ·intro a w1 ht hds hsz hold hf;obtain ⟨v,hv,H,⟨b,b1,g1,b2,g2,b3,rfl,rfl⟩,hl⟩:=hf 26 (by omega);show wpOps _ _ _ [27] a w1;rw [wpOps_cons];refine J9 rfl rfl (v:=pt b) (w':=w1) (by simp [execOp,hv,go_sem]) ?_;simp only [wpOps];go_wp2;simp only [Lies,Jc7,Jc8,Jb8,Jc2,or_false,forall_eq_or_imp,forall_eq] at hl;obtain ⟨⟨B0,hb⟩,⟨B1,hb1'⟩,⟨B2,hg1⟩,⟨B3,hb2'⟩,⟨B4,hg2⟩,⟨B5,Jf5⟩⟩:=hl;unfold J9e at hg1;unfold J9f at hg2;have hn5:(J67 c).r=List.replicate n 0:=by unfold J67;rw [hn]
  have hrow:∀ {g:Nat} {k:IntKind} {t:TypeId} (m:Nat),w1.heap[g]?=some (.cells (Array.replicate m (.int k 0)) t)->Row false w1 g t k (List.replicate m 0) m:=fun m h=>by refine ⟨_,⟨(0,0),h,fun _=>rfl⟩,by simp,by simp,fun i hi=>?_,.replicate ⟨_,_,rfl⟩⟩;simp only [List.length_replicate] at hi;simp [hi,Ja7]
  refine bodyPost_ret (v:=pt b) ?_ hds ⟨⟨b,b1,g1,n,b2,g2,c.nb+1,b3,none⟩,rfl,⟨⟨_,hb,fun _=>rfl⟩,⟨⟨_,hb1'.trans (by simp [hn5]),fun _=>rfl⟩,by rw [hn5];exact hrow n hg1⟩,⟨⟨_,hb2'.trans (by simp [J67]),fun _=>rfl⟩,hrow (c.nb+1) hg2⟩,⟨⟨_,Jf5,fun _=>rfl⟩,rfl⟩,⟨⟨?_,?_,?_,?_,?_,?_⟩,⟨?_,?_,?_,?_,?_⟩,⟨?_,?_,?_,?_⟩,⟨?_,?_,?_⟩,⟨?_,?_⟩,?_⟩⟩,fun x hx=>?_,?_⟩
  ·simp [results,Tryz.results27,go_sem,Act.put,hsz]
  all_goals first|exact J2g (by assumption) (by assumption) (by decide)|exact J2g hb hb1' (by decide)|exact J2g hb hg1 (by decide)|exact J2g hb hb2' (by decide)|exact J2g hb hg2 (by decide)|exact J2g hb Jf5 (by decide)|exact J2g hb1' hg1 (by decide)|exact J2g hb1' hb2' (by decide)|exact J2g hb1' hg2 (by decide)|exact J2g hb1' Jf5 (by decide)|exact J2g hg1 hb2' (by decide)|exact J2g hg1 hg2 (by decide)|exact J2g hg1 Jf5 (by decide)|exact J2g hb2' hg2 (by decide)|exact J2g hb2' Jf5 (by decide)|exact J2g hg2 Jf5 (by decide)|(rintro ⟨_,h⟩;cases h)|skip
  ·rcases BP.mem.1 hx with h|h|h|h|h|h|⟨_,h⟩
   ·have h:x=b:=h;omega
   ·have h:x=b1:=h;omega
   ·have h:x=g1:=h;omega
   ·have h:x=b2:=h;omega
   ·have h:x=g2:=h;omega
   ·have h:x=b3:=h;omega
   ·cases h
  ·rw [<- hn0,<- hW0] at *;exact (Tch.refl.alloc (Ja2 _) _).then ht (by simp) fun _ _ h=>h
end
def Js (ks:List Int):List Int:=ks++List.replicate (5-ks.length) 0
theorem J45 {ks:List Int} (h:ks.length<=5):(Js ks).length=5:=by simp [Js];omega
section
variable {fr:Bool} {w:World} {kb kc:Nat} {ks:List Int}
theorem add0 (b j:Nat):((⟨b,0,none⟩:Addr).add j)=⟨b,j,none⟩:=by simp [Addr.add];exact fun h=>h.symm
theorem Row.J035 {t:TypeId} {k:IntKind} {xs:List Int} {cap b:Nat} (h:Row fr w b t k xs cap):∀ j v,(xs.map (Value.int k))[j]?=some v->w.cell? ((⟨b,0,none⟩:Addr).add j)=some v:=by
 intro j v hj;have hl:j<xs.length:=by have:=(List.getElem?_eq_some_iff.1 hj).1;simpa using this
 have:=h.cell hl;rw [add0];rw [this];rw [List.getElem?_map,Jb1 hl] at hj;simp [Ja7,hl] at hj ⊢;exact hj
theorem Ji6 (h:Row fr w kb 3 .i64 ks kc) (hn:ks.length<=5) :
  Calls Tryz.prog 25 #[.slice (some ⟨kb,0,none⟩) ks.length kc] w fun e w'=>e=.returned (.agg (ai .i64 (Js ks)))/\Tch w.heap.size M0 w w':=by
 have hi3:(Tryz.prog.info? 3).map (·.size)=some 1:=by kernel_rfl
 have hlt:=h.lt;have hcells:=h.J035;have hsp:splice (List.replicate 5 (Value.int .i64 0)) 0 (ks.map (Value.int .i64))=(Js ks).map (Value.int .i64):=by unfold splice Js;rw [List.take_zero,Jc8,List.drop_replicate,List.map_append,List.map_replicate,Nat.zero_add,Jc3]
 have hsp:splice [Value.int .i64 0,.int .i64 0,.int .i64 0,.int .i64 0,.int .i64 0] 0 (ks.map (Value.int .i64))=(Js ks).map (Value.int .i64):=hsp;obtain ⟨x0,x1,x2,x3,x4,hx⟩:∃ x0 x1 x2 x3 x4,Js ks=[x0,x1,x2,x3,x4]:=by
  have h1:=J45 hn;generalize Js ks=l at h1;rcases l with _|⟨x0,_|⟨x1,_|⟨x2,_|⟨x3,_|⟨x4,_|⟨x5,l⟩⟩⟩⟩⟩⟩<;>simp at h1
  exact ⟨_,_,_,_,_,rfl⟩
 rw [hx] at hsp ⊢;simp only [ai,Jc4,List.map_nil] at hsp ⊢;have hL:(ks.map (Value.int .i64)).length=ks.length:=by simp
 generalize hcs:ks.map (Value.int .i64)=cs at *;have h1c:∀ v∈cs,v.oneCell'=true:=by rw [<- hcs];intro v hv;obtain ⟨x,_,rfl⟩:=Jb3.1 hv;rfl
 clear hcs hx h;generalize ks.length=n at *
 go_enter Tryz.func25,Tryz.ntmps25
 go_wp2_with (refine wpList_copy_splice rfl _ _ 33 33 rfl 3 Tryz.underlying33 hi3 (some ⟨w.heap.size,0,none⟩) (some ⟨kb,0,none⟩) 5 5 n kc rfl rfl w.heap.size 0 [Value.int .i64 0,.int .i64 0,.int .i64 0,.int .i64 0,.int .i64 0] 76 (Ja _) cs (by rw [hL];show n=min n 5;omega) (fun _=>⟨rfl,_,rfl,fun j v hj=>by rw [add0];exact (Jb4 (J7 _ hlt)).trans (by have:=hcells j v hj;rwa [add0] at this)⟩) (by rw [hL];simp;omega) h1c w.heap.size w ((Below.refl _ w).alloc (Ja2 _) _) (Ja2 _) ?_;intro w2 hb2 hbel;rw [hsp] at hb2;have c0:=(cell_of hb2 0).trans rfl;have c1:=(cell_of hb2 1).trans rfl;have c2:=(cell_of hb2 2).trans rfl;have c3:=(cell_of hb2 3).trans rfl;have c4:=(cell_of hb2 4).trans rfl;have q:=J02 hb2 0;have q1:=J02 hb2 1;have q2:=J02 hb2 2;have q3:=J02 hb2 3;have q4:=J02 hb2 4)
 go_wp2;have hB:Tch w.heap.size M0 w w2:=.of_below hbel;refine bodyPost_ret (v:=.agg #[.int .i64 x0,.int .i64 x1,.int .i64 x2,.int .i64 x3,.int .i64 x4]) (by have hr:Tryz.f25.results=#[.cell 2 76]:=rfl;simp [results,hr,go_sem,c0,c1,c2,c3,c4]) rfl ⟨rfl,?_⟩;refine ((((hB.set ?_ _).set ?_ _).set ?_ _).set ?_ _).set ?_ _<;>exact .inl (by simp)
end
end Go.Sim.Z
