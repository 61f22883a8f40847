/- PROVED HERE: laws that the statement rests on (parts Zx, Zy, Qa). Conditions: none. -/
import Derived.Test.YtlcbehhbfglgaaaGreatE40
set_option linter.all false
namespace Go.Sim.Z
open Go Go.Proofs Go.RowKit Go.Conc Go.Maps
section
variable {E:Nat→Prop} {w w':World} {base mo ob l D:Nat} {T9:Array Value} {most:Int} {L:List QC}
theorem QAt.wr (h:QAt base T9 mo ob l D most L w) (hW:WR C0 (okP C0 S0) (idE E) w w') (hl:E l) (hm:E mo) (ho:E ob) (hD:E D) :
  ∃ T9',QAt base T9' mo ob l D most L w'∧T9'.size=T9.size∧∀ i,i≠18→T9'[i]?=T9[i]?:=by
 have hk:=lax_heap rfl hW
 obtain ⟨T',q1,q2,q3⟩:=lax_loop hW hl h.lp
 obtain ⟨v,hv,hown⟩:=h.box
 refine ⟨T',⟨⟨v,hk _ _ ho hv trivial,?_⟩,q1,hk _ _ hm h.mo trivial,lax_def hW hD h.D⟩,q2,fun i hi=>q3 i (hl9 hi)⟩
 have hE:∀ b b',idE E b b'→b=b':=fun _ _ h=>h.1
 refine ⟨hown.1,?_⟩
 rcases hown.2 with hn|⟨g,cap,cur,rfl,hb,hgg,rest⟩
 ·exact .inl hn
 ·have hEg:E g:=by
   obtain ⟨o1,o',h1,h2,h3⟩:=hW.get (b:=ob) (b':=ob) ⟨rfl,ho⟩
   rw [hv] at h1;cases h1
   obtain ⟨c',fz',rfl,ha,_⟩:=h3
   obtain ⟨v',h4,r⟩:=ha.some_of (i:=0) rfl
   have e:=r.eq hE
   subst e
   exact r.sliceE
  exact .inr ⟨g,cap,cur,rfl,hb,hk _ _ hEg hgg trivial,rest⟩
theorem QAt.at (h:QAt base T9 mo ob l D most L w) (hh:w'.heap=w.heap):QAt base T9 mo ob l D most L w':=by
 obtain ⟨v,h1,h2⟩:=h.box
 have k:∀ (b:Nat) (o:Obj),w.heap[b]?=some o→w'.heap[b]?=some o:=fun b o hb=>by rw [hh];exact hb
 exact ⟨⟨v,k _ _ h1,ownK h2 fun g cur hg=>k _ _ hg⟩,k _ _ h.lp,k _ _ h.mo,k _ _ h.D⟩
def KC (E:Nat→Prop) (base l ob:Nat) (w w':World):Prop:=∀ b o,E b→w.heap[b]?=some o→b≠l→b≠ob→(base≤b→∀ cur,o≠.cells cur 39)→Dat o→w'.heap[b]?=some o
end
section
variable {W E:Nat→Prop} {w:World} {base mo ob l D mb mm m0:Nat} {T9 t:Array Value} {c:CfgD} {T:List TR} {most:Int} {cs:List Frame} {Post:(Nat→Prop)→Goroutine→World→Prop}
theorem reach_38c (hc:CfgOk c) (hB:BOk C0 S0 W E w) (hT:TabAt false w c mm T) (hpos:∀ t∈T,∀ x∈t.B.h,0≤x) (hTn:T.length≤1000) (hm:w.heap[mb]?=some (.cells #[.int .i64 m0] 3))
  (hsep:∀ x,x=mm∨x∈tpl T→x≠l∧x≠ob∧∀ cur,w.heap[x]?≠some (.cells cur 39)) (hmb:mb≠l∧mb≠ob) (hQ:QAt base T9 mo ob l D most [] w) (hb:base≤ob)
  (s9:T9.size=33) (t97:T9[7]?=some (pt mo)) (t910:T9[10]?=some (pt ob)) (hmost:(T.length:Int)≤most) (hE:E l∧E mo∧E ob∧E D)
  (ht:TmR C0 S0 38 (idE E) t t) (hsz:t.size=75) (t0:t[0]?=some (.func (.yield l) #[] #[])) (t2:t[2]?=some (pt mb)) (t6:t[6]?=some (.map (some mm)))
  (kn:∀ E' t' w' T9' ks L,(∀ b,E b→E' b)→BOk C0 S0 W E' w'→keysOf (T.map TR.kv) ks→Outs w.heap.size w' T m0 ks L→QAt base T9' mo ob l D most L w'→KC E base l ob w w' →
   Reach Tryz.prog Post W (G { (Go.Conc.base 38).at ⟨t',[]⟩ [] with mode:=.returning } cs) w') :
  Reach Tryz.prog Post W (G ((Go.Conc.base 38).at ⟨t,[]⟩ (.inRegion ops38 []::[.code rest38])) cs) w:=by
 refine at_idle (fun w1=>stepG_region_end) rfl fun d=>?_
 refine Reach.piece (b:=Go.Conc.base 38) (k:=[]) allOk0 rfl ok38_r has38 df38 hl38_ne (by simp [Go.Conc.base]) (hB.at d) ht (Q:=fun e t1 w1=>e=.normal∧∃ ks L,keysOf (T.map TR.kv) ks∧Outs w.heap.size w1 T m0 ks L∧QAt base T9 mo ob l D most L w1∧KQ base l ob w w1) (fun τ=>?_) (fun E1 t1 w1 w1' hs1 hB1 hW1 ht1 hq1=>?_) (fun E1 t1 w1 w1' todo hs1 hB1 hW1 ht1 hq1=>by cases hq1.1)
 ·obtain ⟨f,rfl⟩:=arr75 hsz
  have e0:f 0=_:=Option.some.inj t0
  have e2:f 2=_:=Option.some.inj t2
  have e6:f 6=_:=Option.some.inj t6
  rw [e0,e2,e6]
  obtain ⟨g9,hg9⟩:=arr33 s9
  have z7:g9 7=pt mo:=by rw [hg9] at t97;exact Option.some.inj t97
  have z10:g9 10=pt ob:=by rw [hg9] at t910;exact Option.some.inj t910
  rw [z7,z10] at hg9
  refine wp_mono (rest38_wp (d:=stuckD) (w:=(w.at d).tp τ 0) (base:=base) (mo:=mo) (ob:=ob) (l:=l) (D:=D) (T9:=T9) (most:=most) hc (hT.kept fun _ _=>rfl) hpos hTn hm hsep hmb (hQ.at rfl) (by obtain ⟨v,hv,_⟩:=hQ.box;have:=lt_of hv;show base≤w.heap.size;omega) ⟨g9,hg9⟩ hmost) fun e a w1 ⟨q1,q2,q3,ks,L,q4,q5,q6,q7⟩=>⟨.inl q1,fun i hi=>?_,q1,ks,L,q4,q5,q6,q7⟩
  obtain rfl:=hl38 hi
  rw [Array.getElem?_eq_none (by omega)];rfl
 obtain ⟨-,ks,L,q4,q5,q6,q7⟩:=hq1
 refine at_idle (fun w1=>stepG_end) rfl fun d2=>?_
 obtain ⟨T9',r1,-,-⟩:=q6.wr hW1 (hs1 _ hE.1) (hs1 _ hE.2.1) (hs1 _ hE.2.2.1) (hs1 _ hE.2.2.2)
 have hO:=q5.wr q6 hW1 (hs1 _ hE.2.2.1)
 refine kn E1 t1 _ T9' ks L hs1 (hB1.at d2) q4 ⟨hO.1,fun i x q hx hq=>?_⟩ (r1.at rfl) fun b o hb ho h1 h2 h3 hd=>?_
 ·obtain ⟨a1,a2,a3,a4⟩:=hO.2 i x q hx hq
  exact ⟨a1,a2,a3,a4.tch ⟨Nat.le_refl _,fun _ _ _=>rfl,rfl,rfl,rfl⟩⟩
 ·exact lax_heap rfl hW1 b o (hs1 b hb) (q7.2 b o ho h1 h2 h3) hd
end
theorem Blk.ne39 {fr:Bool} {w:World} {b:Nat} {arr:Array Value} {t:TypeId} (h:Blk fr w b arr t) (ht:t≠39) (cur:Array Value):w.heap[b]?≠some (.cells cur 39):=fun e=>by
 obtain ⟨z,h1,_⟩:=h
 rw [h1] at e
 exact ht (Obj.cells.inj (Option.some.inj e)).2.1
theorem Row.ne39 {fr:Bool} {w:World} {b:Nat} {t:TypeId} {k:IntKind} {xs:List Int} {cap:Nat} (h:Row fr w b t k xs cap) (ht:t≠39) (cur:Array Value):w.heap[b]?≠some (.cells cur 39):=by
 obtain ⟨_,h1,_⟩:=h
 exact h1.ne39 ht cur
theorem TabAt.ne39 {fr:Bool} {w:World} {c:CfgD} {m:Nat} {T:List TR} (h:TabAt fr w c m T):∀ x,x=m∨x∈tpl T→∀ cur,w.heap[x]?≠some (.cells cur 39):=by
 intro x hx cur
 rcases hx with rfl|hx
 ·obtain ⟨L',_,n,es,ck,h1,_⟩:=h.map.own
  rw [h1];simp
 ·obtain ⟨t,ht,hx⟩:=mem_tpl.1 hx
  have hb:=h.bun t ht
  rcases BP.mem.1 hx with rfl|rfl|rfl|rfl|rfl|rfl|hx
  ·exact hb.hd.ne39 (by decide) cur
  ·exact hb.reg.hd.ne39 (by decide) cur
  ·exact hb.reg.row.ne39 (by decide) cur
  ·exact hb.hist.hd.ne39 (by decide) cur
  ·exact hb.hist.row.ne39 (by decide) cur
  ·exact hb.least.hd.ne39 (by decide) cur
  ·obtain ⟨c',hc'⟩:=hx
   have hr:=hb.least.row
   rw [hc'] at hr
   exact hr.1.ne39 (by decide) cur
section
variable {W E Fp:Nat→Prop} {w:World} {x:Nat} {c:CfgD} {seed nf:Int} {h:Value} {vm src m b1 b2 b3 l mo ob D qb:Nat} {T9 T0:Array Value} {S:List TR} {pass:List Int→Bool} {M most:Int} {cs:List Frame} {Post:(Nat→Prop)→Goroutine→World→Prop}
theorem reach_38 (hB:BOk C0 S0 W E w) (q:CubeAt w x c seed h nf vm src) (hm8:m<8) (k1:w.heap[b1]?=some (.cells #[pt x] 25)) (k2:w.heap[b2]?=some (.cells #[.int .i64 m] 3)) (k3:w.heap[b3]?=some (.cells #[.slice none 0 0] 55))
  (hE:E b1∧E b2∧E b3∧E x∧E vm) (hI:RollIn E Fp w src b3 S c pass) (hM:0≤M) (hS:∀ t∈S,HIn M t.B) (hSM:S.length*M≤9223372036854775807)
  (hmost:∀ T:List TR,(T.map (·.k)).Nodup→Sum c (tm T) (rents S m pass)→(T.length:Int)≤most)
  (hQ:QAt qb T9 mo ob l D most [] w) (hqb:qb≤ob) (s9:T9.size=33) (t97:T9[7]?=some (pt mo)) (t910:T9[10]?=some (pt ob)) (hE2:E l∧E mo∧E ob∧E D)
  (hsz:T0.size=75) (s0:T0[0]?=some (.func (.yield l) #[] #[])) (s1:T0[1]?=some (pt b1)) (s2:T0[2]?=some (pt b2)) (s3:T0[3]?=some (pt b3)) (ht:TmR C0 S0 38 (idE E) T0 T0)
  (kn:∀ W' E' t' w' w2 T9' T ks L mm,(∀ b,E b→E' b)→BOk C0 S0 W' E' w'→TabAt false w2 c mm T→Sum c (tm T) (rents S m pass)→keysOf (T.map TR.kv) ks→Outs w2.heap.size w' T m ks L→qb≤w2.heap.size→QAt qb T9' mo ob l D most L w'→KC E qb l ob w w' →
   Reach Tryz.prog Post W' (G { (Go.Conc.base 38).at ⟨t',[]⟩ [] with mode:=.returning } cs) w') :
  Reach Tryz.prog Post W (G ((Go.Conc.base 38).at ⟨T0,[]⟩ [.code b38]) cs) w:=by
 obtain ⟨g,rfl⟩:=arr75 hsz
 have e0:g 0=_:=Option.some.inj s0
 have e1:g 1=_:=Option.some.inj s1
 have e2:g 2=_:=Option.some.inj s2
 have e3:g 3=_:=Option.some.inj s3
 rw [e0,e1,e2,e3] at ht ⊢
 obtain ⟨v0,hv0,_⟩:=hQ.box
 have hml:b2≠l:=fun e=>by rw [e,hQ.lp] at k2;cases k2
 have hmo:b2≠ob:=fun e=>by rw [e,hv0] at k2;simp at k2
 refine reach_38a hB q hm8 k1 k2 k3 hE ht fun Ea ta wa h1 h2 h3 h4 h5 h6 h7 h8 h9=>?_
 have hIa:=hI.ke hB.hnd h3.ke h1
 refine reach_38b h2 hIa h4 h6 h7 h8 fun W2 E2 wb mm hR=>?_
 obtain ⟨T,r1,r2,r3,r4⟩:=hR.tab
 obtain ⟨T9a,qa,sa,za⟩:=hQ.kl hB h3 hE2.1 hE2.2.1 hE2.2.2.1 hE2.2.2.2
 obtain ⟨T9b,qb',sb,zb⟩:=qa.kl h2 hR.kl (h1 _ hE2.1) (h1 _ hE2.2.1) (h1 _ hE2.2.2.1) (h1 _ hE2.2.2.2)
 have hle:∀ b,E b→E2 b:=fun b hb=>hR.le b (h1 b hb)
 have hmv:VR C0 (idE E2) (.map (some mm)) (.map (some mm)):=.map ⟨rfl,(r4 mm (.inl rfl)).1⟩
 have hob:ob<wb.heap.size:=by obtain ⟨v,hv,_⟩:=qb'.box;exact lt_of hv
 refine reach_38c (mb:=b2) (mm:=mm) (m0:=m) (T:=T) (T9:=T9b) (most:=most) (base:=qb) (mo:=mo) (ob:=ob) (l:=l) (D:=D) hI.cfg hR.bok r1 (fun t ht x hx=>(Sum.hin hM r1.nodup r2 hS hSM t ht x hx).1) (Nat.le_trans (Sum.len r1.nodup r2) hI.n)
  (hR.ke _ _ (h1 _ hE.2.1) (h3.ke _ _ hE.2.1 k2 trivial) trivial) (fun y hy=>⟨fun e=>(r4 y hy).2 (e▸h1 _ hE2.1),fun e=>(r4 y hy).2 (e▸h1 _ hE2.2.2.1),r1.ne39 y hy⟩) ⟨hml,hmo⟩ qb' hqb ((sb.trans sa).trans s9)
  ((zb 7 (by decide)).trans ((za 7 (by decide)).trans t97)) ((zb 10 (by decide)).trans ((za 10 (by decide)).trans t910)) (hmost T r1.nodup r2) ⟨hle _ hE2.1,hle _ hE2.2.1,hle _ hE2.2.2.1,hle _ hE2.2.2.2⟩
  (((h9.mono (idE_mono hR.le)).set 31 hmv (fun h=>by cases h)).set 6 hmv (fun h=>by cases h)) (by simp [h4]) ?_ ?_ ?_ fun E3 t3 w3 T9c ks L j1 j2 j3 j4 j5 j6=>?_
 ·have:=h5 0 (by decide)
  simpa [Array.getElem?_setIfInBounds] using this
 ·have:=h5 2 (by decide)
  simpa [Array.getElem?_setIfInBounds] using this
 ·simp [Array.getElem?_setIfInBounds,h4]
 ·exact kn W2 E3 t3 w3 wb T9c T ks L mm (fun b hb=>j1 b (hle b hb)) j2 r1 r2 j3 j4 (by omega) j5 fun b o hb ho n1 n2 n3 hd=>j6 b o (hle b hb) (hR.ke _ _ (h1 _ hb) (h3.ke _ _ hb ho hd) hd) n1 n2 n3 hd
end
noncomputable def b17:Code:=Tryz.f17.body.getD .skip
def opsOf:Code→Array Oper | .region _ ops _=>ops|_=>#[]
noncomputable def ops17:Array Oper:=opsOf (fC b17)
noncomputable def c17:Code:=fC (sC b17)
noncomputable def ops17b:Array Oper:=opsOf (fC (sC (sC b17)))
theorem b17_eq:b17=.seq (.region 0 ops17 false) (.seq c17 (.seq (.region 2 ops17b false) .ret)):=by kernel_rfl
theorem ok17c:okCode C0 S0 17 c17=true:=by kernel_rfl
theorem has17:HasBody C0 17:=⟨Tryz.f17,by kernel_rfl,by kernel_rfl,by kernel_rfl⟩
theorem df17:S0.df.contains 17=false:=rfl
theorem hl17_ne:C0.hl 17≠[]:=by
 show [6,10]≠[]
 simp
theorem hl17 {i:Nat} (h:(C0.hl 17).contains i=true):i=6∨i=10:=by
 have h':i∈[6,10]:=List.contains_iff_mem.1 h
 simpa using h'
theorem own17 {i:Nat}:(S0.own 17).contains i=false:=rfl
theorem body17:Tryz.f17.body=some b17:=by kernel_rfl
section
variable {w:World} {x n k:Nat} {m:Nat} {d:Deferred}
theorem c17_wp:c17.wp Tryz.prog (fun e a w1=>e=.normal∧a.defers=[d]∧a.tmps=(fun k=>#[pt x,.int .i64 m,.slice none 0 0,pt n,pt (n+1),undef,.nilFunc,pt k,.slice none 0 0,.slice none 0 0,undef]) w.heap.size∧w1.heap=w.heap.push (.cells #[.slice none 0 0] 55)) ⟨#[pt x,.int .i64 m,.slice none 0 0,pt n,pt (n+1),undef,.nilFunc,undef,undef,undef,undef],[d]⟩ w:=by
 have hc:=cloneF_calls w
 simp only [c17,b17,fC,sC,Tryz.f17,Option.getD_some]
 go_wp2_with (go_at_call 37;refine hc.mono ?_;rintro e w1 ⟨rfl,rfl⟩)
 exact rfl
end
theorem op17_0:∃ o,ops17[0]?=some o∧o.op=.box 25 (.tmp 0)∧o.guard=none∧o.dst=some 3:=by
 simp only [ops17,opsOf,b17,fC,Tryz.f17,Option.getD_some]
 exact ⟨_,rfl,rfl,rfl,rfl⟩
theorem op17_1:∃ o,ops17[1]?=some o∧o.op=.box 3 (.tmp 1)∧o.guard=none∧o.dst=some 4:=by
 simp only [ops17,opsOf,b17,fC,Tryz.f17,Option.getD_some]
 exact ⟨_,rfl,rfl,rfl,rfl⟩
theorem op17_2:∃ o,ops17[2]?=some o∧o.op=.assign (.const .nilFunc)∧o.guard=none∧o.dst=some 6:=by
 simp only [ops17,opsOf,b17,fC,Tryz.f17,Option.getD_some]
 exact ⟨_,rfl,rfl,rfl,rfl⟩
theorem op17b_0:∃ o,ops17b[0]?=some o∧o.op=.makeFunc (.func 38) #[] #[.tmp 3,.tmp 4,.tmp 7]∧o.guard=none∧o.dst=some 10:=by
 simp only [ops17b,opsOf,b17,fC,sC,Tryz.f17,Option.getD_some]
 exact ⟨_,rfl,rfl,rfl,rfl⟩
theorem op17b_1:∃ o,ops17b[1]?=some o∧o.op=.assign (.tmp 10)∧o.guard=none∧o.dst=some 6:=by
 simp only [ops17b,opsOf,b17,fC,sC,Tryz.f17,Option.getD_some]
 exact ⟨_,rfl,rfl,rfl,rfl⟩
section
variable {C:Cx} {S:Kn} {W E:Nat→Prop} {w:World} {Post:(Nat→Prop)→Goroutine→World→Prop}
theorem listed_box {P:Program} {fn:FuncId} {a:Act} {o:Oper} {t:TypeId} {x:Operand} {w:World} (h:o.op=.box t x):listed P fn a o w=#[]:=by
 unfold listed
 rw [show (execOp a.eval o).events P w #[]=#[] from by simp [execOp,h,Instr.box,newVar,newRow]]
 exact seen_none _ _
theorem _root_.Go.Sim.Reach.alloc (hst:C.st=false) (hB:BOk C S W E w) {g g':Goroutine} {o:Obj} (hr:g.status=.running) (hr':g'.status=.running) (hd:g'.dying=none) (hof:g'.offers=none)
  (ho:ObjR C (okP C S) (idE fun b=>E b∨b=w.heap.size) w.heap.size o o) (hs:∀ w1,w1.heap.size=w.heap.size→stepG C.P true g w1=.go g' (w1.alloc o) #[])
  (kn:∀ w',BOk C S W (fun b=>E b∨b=w.heap.size) w'→w'.heap.size=w.heap.size+1→(∀ b,E b→w'.heap[b]?=w.heap[b]?)→w'.heap[w.heap.size]?=some o→Reach C.P Post W g' w'):Reach C.P Post W g w:=by
 refine Reach.hand (f:=fun w1=>w1.alloc o) hB hr hr' hd hof (fun w1 r1=>⟨#[],hs w1 (r1.same rfl),?_⟩) fun w1 w2 r1 r2 hW=>?_
 ·refine ⟨by simp,fun b hb _=>Below.heap_alloc _ _ b hb,rfl,rfl,Nat.le_refl _,fun e he=>by simp at he⟩
 ·have hs1:w1.heap.size=w.heap.size:=r1.same rfl
  have hg1:∀ b,grown E w1 (w1.alloc o) b↔E b∨b=w.heap.size:=fun b=>by
   simp only [grown,World.size_alloc,hs1]
   constructor
   ·rintro (h|h)
    ·exact .inl h
    ·exact .inr (by omega)
   ·rintro (h|h)
    ·exact .inl h
    ·exact .inr (by omega)
  have hE:∀ b,E b→b<w.heap.size:=fun b hb=>hB.lt hb
  have hB2:=(hB.rely hst r1).push hst (o:=o) (by rw [hs1];exact ho) fun h=>hW _ h ((hg1 _).2 (.inr hs1))
  rw [hs1] at hB2
  have hB3:=((hB2.ext fun b=>hg1 b).rely hst r2).ext fun b=>(hg1 b).symm
  refine kn w2 hB3 ((r2.same rfl).trans (by rw [World.size_alloc,hs1])) (fun b hb=>?_) ?_
  ·exact (r2.blocks b ((hg1 b).2 (.inl hb))).trans ((Below.heap_alloc _ _ b (by have:=hE b hb;omega)).trans (r1.blocks b hb))
  ·exact (r2.blocks _ ((hg1 _).2 (.inr rfl))).trans (by rw [← hs1];exact World.alloc_heap_new _ _)
end
section
variable {W E:Nat→Prop} {w:World} {x m:Nat} {b₀:Frame} {a₀:Act} {ops:Array Oper} {i:Nat} {rest:List Nat} {kk:List Item} {cs:List Frame} {Post:(Nat→Prop)→Goroutine→World→Prop}
theorem _root_.Go.Sim.TmR.hole {C:Cx} {S:Kn} {fn:FuncId} {E:BRel} {t:Array Value} (h:TmR C S fn E t t) {i:Nat} (hi:(C.hl fn).contains i=true) (ho:(S.own fn).contains i=false) (v:Value):TmR C S fn E (t.setIfInBounds i v) (t.setIfInBounds i v):=by
 refine ⟨rfl,fun j x x' hj h1 h2=>?_,fun j x hj hx=>?_⟩
 ·have hne:i≠j:=fun e=>by rw [← e,hi] at hj;cases hj
  rw [Array.getElem?_setIfInBounds_ne hne] at h1 h2
  exact h.at_ j x x' hj h1 h2
 ·have hne:i≠j:=fun e=>by rw [← e,ho] at hj;cases hj
  rw [Array.getElem?_setIfInBounds_ne hne] at hx
  exact h.own j x hj hx
set_option maxRecDepth 10000 in
theorem reach_17 (hB:BOk C0 S0 W E w) (hE:E x)
  (kn:∀ E' w' b1 b2 b3,(∀ b,E b→E' b)→BOk C0 S0 W E' w'→KL E w w'→w'.heap[b1]?=some (.cells #[pt x] 25)→w'.heap[b2]?=some (.cells #[.int .i64 m] 3)→w'.heap[b3]?=some (.cells #[.slice none 0 0] 55)→E' b1→E' b2→E' b3→w.heap.size≤b3 →
   Reach Tryz.prog Post W (G (b₀.at (a₀.put ((ops[i]?).bind (·.dst)) (.func (.func 38) #[] #[pt b1,pt b2,pt b3])) (.inRegion ops rest::kk)) cs) w') :
  Reach Tryz.prog Post W (G ((base 17).at ⟨#[pt x,.int .i64 m,.slice none 0 0,undef,undef,undef,undef,undef,undef,undef,undef],[]⟩ [.code b17]) (b₀.at a₀ (.inRegion ops (i::rest)::kk)::cs)) w:=by
 obtain ⟨o0,h0,p0,g0,q0⟩:=op17_0
 obtain ⟨o1,h1,p1,g1,q1⟩:=op17_1
 obtain ⟨o2,h2,p2,g2,q2⟩:=op17_2
 obtain ⟨o3,h3,p3,g3,q3⟩:=op17b_0
 obtain ⟨o4,h4,p4,g4,q4⟩:=op17b_1
 rw [b17_eq]
 have ht0:TmR C0 S0 17 (idE E) #[pt x,.int .i64 m,.slice none 0 0,undef,undef,undef,undef,undef,undef,undef,undef] #[pt x,.int .i64 m,.slice none 0 0,undef,undef,undef,undef,undef,undef,undef,undef]:=by
  refine .of_all (fun v hv=>?_) fun _=>own17
  simp only [List.mem_cons,List.not_mem_nil,or_false] at hv
  rcases hv with rfl|rfl|rfl|rfl|rfl|rfl|rfl|rfl|rfl|rfl|rfl
  ·exact .ptr _ _ ⟨rfl,hE⟩
  ·exact .int _ _
  ·exact .nilSlice _ _
  all_goals exact .undef
 refine at_idle (fun w1=>stepG_seq) rfl fun d1=>?_
 refine at_idle (fun w1=>stepG_region) rfl fun d2=>?_
 rw [show List.range ops17.size=[0,1,2] from by kernel_rfl]
 have hBa:=(hB.at d1).at d2
 generalize hwa:(w.at d1).at d2=wa at hBa ⊢
 have hwah:wa.heap=w.heap:=by rw [← hwa];rfl
 clear hwa
 have hn:wa.heap.size=w.heap.size:=by rw [hwah]
 generalize hnn:w.heap.size=n at *
 refine Reach.alloc (C:=C0) (S:=S0) (o:=.cells #[pt x] 25) (g':=G ((base 17).at ⟨#[pt x,.int .i64 m,.slice none 0 0,pt n,undef,undef,undef,undef,undef,undef,undef],[]⟩ (.inRegion ops17 [1,2]::[.code (.seq c17 (.seq (.region 2 ops17b false) .ret))])) (b₀.at a₀ (.inRegion ops (i::rest)::kk)::cs)) rfl hBa rfl rfl rfl rfl ⟨_,_,rfl,.refl_of (fun v hv=>?_),fun h=>(C0.lax rfl _ h).elim,fun _=>⟨rfl,fun _=>rfl⟩⟩ (fun w1 hw1=>?_) fun w2 hB2 hs2 oo2 e2=>?_
 ·simp only [List.mem_cons,List.not_mem_nil,or_false] at hv
  subst hv
  exact .ptr _ _ ⟨rfl,.inl hE⟩
 ·rw [hn] at hw1
  rw [stepG_value (v:=pt n) (w':=w1.alloc (.cells #[pt x] 25)) h0 (by simp [Region.wanted,g0]) (by simp [base]) (by simp [execOp,p0,Act.eval,go_sem,hw1])]
  rw [listed_box p0,q0]
  rfl
 rw [hn] at e2 hs2 hB2
 refine Reach.alloc (C:=C0) (S:=S0) (o:=.cells #[.int .i64 m] 3) (g':=G ((base 17).at ⟨#[pt x,.int .i64 m,.slice none 0 0,pt n,pt (n+1),undef,undef,undef,undef,undef,undef],[]⟩ (.inRegion ops17 [2]::[.code (.seq c17 (.seq (.region 2 ops17b false) .ret))])) (b₀.at a₀ (.inRegion ops (i::rest)::kk)::cs)) rfl hB2 rfl rfl rfl rfl ⟨_,_,rfl,.refl_of (fun v hv=>?_),fun h=>(C0.lax rfl _ h).elim,fun _=>⟨rfl,fun _=>rfl⟩⟩ (fun w1 hw1=>?_) fun w1' hB1 hs1 oo1 e4=>?_
 ·simp only [List.mem_cons,List.not_mem_nil,or_false] at hv
  subst hv
  exact .int _ _
 ·rw [hs2] at hw1
  rw [stepG_value (v:=pt (n+1)) (w':=w1.alloc (.cells #[.int .i64 m] 3)) h1 (by simp [Region.wanted,g1]) (by simp [base]) (by simp [execOp,p1,Act.eval,go_sem,hw1])]
  rw [listed_box p1,q1]
  rfl
 rw [hs2] at e4 hs1 hB1
 have a3:(fun b=>(E b∨b=n)∨b=n+1) n:=.inl (.inr rfl)
 have a4:(fun b=>(E b∨b=n)∨b=n+1) (n+1):=.inr rfl
 have hs1':∀ b,E b→(fun b=>(E b∨b=n)∨b=n+1) b:=fun b hb=>.inl (.inl hb)
 have c3:w1'.heap[n]?=some (.cells #[pt x] 25):=(oo1 _ (.inr rfl)).trans e2
 have c4:w1'.heap[n+1]?=some (.cells #[.int .i64 m] 3):=e4
 have kl1:KL E w w1':=KL.of_eq fun b hb=>(oo1 _ (.inl hb)).trans ((oo2 b hb).trans (by rw [hwah]))
 have ht1:TmR C0 S0 17 (idE fun b=>(E b∨b=n)∨b=n+1) #[pt x,.int .i64 m,.slice none 0 0,pt n,pt (n+1),undef,undef,undef,undef,undef,undef] #[pt x,.int .i64 m,.slice none 0 0,pt n,pt (n+1),undef,undef,undef,undef,undef,undef]:=
  ((ht0.mono (idE_mono hs1')).set 3 (v:=pt n) (v':=pt n) (.ptr _ _ ⟨rfl,a3⟩) fun h=>by cases h).set 4 (v:=pt (n+1)) (v':=pt (n+1)) (.ptr _ _ ⟨rfl,a4⟩) fun h=>by cases h
 refine at_idle (fun w1=>stepG_pure (v:=.nilFunc) h2 (by simp [Region.wanted,g2]) (by simp [base]) (by simp [execOp,p2,Act.eval]) (by simp [execOp,p2,Act.eval])) rfl fun d3=>?_
 rw [q2]
 refine at_idle (fun w1=>stepG_region_end) rfl fun d4=>?_
 refine at_idle (fun w1=>stepG_seq) rfl fun d5=>?_
 have ht2:=ht1.hole (i:=6) rfl own17 .nilFunc
 refine Reach.piece (b:=base 17) allOk0 rfl ok17c has17 df17 hl17_ne (by simp [base]) (((hB1.at d3).at d4).at d5) ht2 (Q:=fun e t w2=>e=.normal∧t=(fun k=>#[pt x,.int .i64 m,.slice none 0 0,pt n,pt (n+1),undef,.nilFunc,pt k,.slice none 0 0,.slice none 0 0,undef]) w1'.heap.size∧w2.heap=w1'.heap.push (.cells #[.slice none 0 0] 55)) (fun τ=>?_) (fun E2 t2 w2 w2' hs2 hB2 hW2 ht2 hq2=>?_) (fun E2 t2 w2 w2' todo hs2 hB2 hW2 ht2 hq2=>by cases hq2.1)
 ·refine wp_mono (c17_wp (w:=(((w1'.at d3).at d4).at d5).tp τ 0)) fun e a w2 ⟨q1,q2,q3,q4⟩=>⟨.inl q1,fun i hi=>?_,q1,q3,q4⟩
  rw [q3]
  rcases hl17 hi with rfl|rfl<;>rfl
 obtain ⟨-,rfl,hh2⟩:=hq2
 generalize hk:w1'.heap.size=k at *
 have l2:=lax_heap rfl hW2
 have a7:E2 k:=(ht2.slot (i:=7) rfl rfl).ptrE
 have o2':∀ b,b<k→w2.heap[b]?=w1'.heap[b]?:=fun b hb=>by
  rw [hh2,Array.getElem?_push_lt (by omega),Array.getElem?_eq_getElem (by omega)]
 have kl2:KL (fun b=>(E b∨b=n)∨b=n+1) w1' w2':=(KL.of_eq fun b hb=>o2' b (hk▸hB1.lt hb)).trans ((KL.of_wr hW2).mono hs2)
 have c7:=l2 k (.cells #[.slice none 0 0] 55) a7 (by rw [hh2,Array.getElem?_push,if_pos hk.symm]) trivial
 have nk:n≤k:=by have:=hB1.lt a3;omega
 refine at_idle (fun w1=>stepG_seq) rfl fun d6=>?_
 refine at_idle (fun w1=>stepG_region) rfl fun d7=>?_
 rw [show List.range ops17b.size=[0,1] from by kernel_rfl]
 refine at_idle (fun w1=>stepG_pure (v:=.func (.func 38) #[] #[pt n,pt (n+1),pt k]) h3 (by simp [Region.wanted,g3]) (by simp [base]) (by simp [execOp,p3,Act.eval];try rfl) (by simp [execOp,p3,Act.eval];try rfl)) rfl fun d8=>?_
 rw [q3]
 refine at_idle (fun w1=>stepG_pure (v:=.func (.func 38) #[] #[pt n,pt (n+1),pt k]) h4 (by simp [Region.wanted,g4]) (by simp [base]) (by simp [execOp,p4,Act.eval,Act.put]) (by simp [execOp,p4,Act.eval,Act.put])) rfl fun d9=>?_
 rw [q4]
 refine at_idle (fun w1=>stepG_region_end) rfl fun d10=>?_
 refine at_idle (fun w1=>stepG_ret') rfl fun d11=>?_
 refine Reach.leave1 (B:=base 17) rfl rfl (fn:=Tryz.f17) (by kernel_rfl) (x:=6) (by kernel_rfl) fun d12=>?_
 have hBz:=(((((((hB2.at d6).at d7).at d8).at d9).at d10).at d11).at d12)
 exact kn E2 _ n (n+1) k (fun b hb=>hs2 b (hs1' b hb)) hBz ((kl1.trans (kl2.mono hs1')).trans (KL.of_eq fun _ _=>rfl)) (kl2.ke _ _ a3 c3 trivial) (kl2.ke _ _ a4 c4 trivial) c7 (hs2 _ a3) (hs2 _ a4) a7 nk
end
end Go.Sim.Z
