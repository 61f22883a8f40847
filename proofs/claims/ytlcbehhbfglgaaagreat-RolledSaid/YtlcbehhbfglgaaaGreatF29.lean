/- PROVED HERE: laws. Conditions: none. -/
import Derived.Test.YtlcbehhbfglgaaaGreatF28
set_option linter.all false
set_option maxRecDepth 100000
namespace Go.Sim.Z
open Go Go.Proofs Go.RowKit Go.Conc Go.Maps
noncomputable def b17:Code:=Tryz.f17.body.getD .skip
def opsOf:Code->Array Oper | .region _ ops _=>ops|_=>#[]
noncomputable def J5u:Array Oper:=opsOf (fC b17)
noncomputable def c17:Code:=fC (sC b17)
noncomputable def J64:Array Oper:=opsOf (fC (sC (sC b17)))
theorem Jyn:b17=.seq (.region 0 J5u false) (.seq c17 (.seq (.region 2 J64 false) .ret)):=by kernel_rfl
theorem J03v:Jj C0 S0 17 c17=true:=by kernel_rfl
theorem J03w:J0k C0 17:=⟨Tryz.f17,by kernel_rfl,by kernel_rfl,by kernel_rfl⟩
theorem df17:S0.df.contains 17=false:=rfl
theorem Jw7:C0.hl 17≠[]:=by show [6,10]≠[];simp
theorem hl17 {i:Nat} (h:(C0.hl 17).contains i=true):i=6\/i=10:=by have h':i∈[6,10]:=Jd3.1 h;simpa using h'
theorem Juw {i:Nat}:(S0.own 17).contains i=false:=rfl
theorem Jyo:Tryz.f17.body=some b17:=by kernel_rfl
section
variable {w:World} {x n k:Nat} {m:Nat} {d:Deferred}
theorem Jyp:c17.wp Tryz.prog (fun e a w1=>e=.normal/\a.defers=[d]/\a.tmps=(fun k=>#[pt x,.int .i64 m,.slice none 0 0,pt n,pt (n+1),undef,.nilFunc,pt k,.slice none 0 0,.slice none 0 0,undef]) w.heap.size/\w1.heap=w.heap.push (.cells #[.slice none 0 0] 55)) ⟨#[pt x,.int .i64 m,.slice none 0 0,pt n,pt (n+1),undef,.nilFunc,undef,undef,undef,undef],[d]⟩ w:=by
 have hc:=Jj8 w;simp only [c17,b17,fC,sC,Tryz.f17,Ja6]
 go_wp2_with (go_at_call 37;refine hc.mono ?_;rintro e w1 ⟨rfl,rfl⟩)
 exact rfl
end
theorem Jyq:∃ o,J5u[0]?=some o/\o.op=.box 25 (.tmp 0)/\o.guard=none/\o.dst=some 3:=by simp only [J5u,opsOf,b17,fC,Tryz.f17,Ja6];exact ⟨_,rfl,rfl,rfl,rfl⟩
theorem Jyr:∃ o,J5u[1]?=some o/\o.op=.box 3 (.tmp 1)/\o.guard=none/\o.dst=some 4:=by simp only [J5u,opsOf,b17,fC,Tryz.f17,Ja6];exact ⟨_,rfl,rfl,rfl,rfl⟩
theorem Jys:∃ o,J5u[2]?=some o/\o.op=.assign (.const .nilFunc)/\o.guard=none/\o.dst=some 6:=by simp only [J5u,opsOf,b17,fC,Tryz.f17,Ja6];exact ⟨_,rfl,rfl,rfl,rfl⟩
theorem Jw8:∃ o,J64[0]?=some o/\o.op=.makeFunc (.func 38) #[] #[.tmp 3,.tmp 4,.tmp 7]/\o.guard=none/\o.dst=some 10:=by simp only [J64,opsOf,b17,fC,sC,Tryz.f17,Ja6];exact ⟨_,rfl,rfl,rfl,rfl⟩
theorem Jw9:∃ o,J64[1]?=some o/\o.op=.assign (.tmp 10)/\o.guard=none/\o.dst=some 6:=by simp only [J64,opsOf,b17,fC,sC,Tryz.f17,Ja6];exact ⟨_,rfl,rfl,rfl,rfl⟩
section
variable {C:Cx} {S:Kn} {W E:Nat->Prop} {w:World} {Post:(Nat->Prop)->Goroutine->World->Prop}
theorem Jdr {P:Program} {fn:FuncId} {a:Act} {o:Oper} {t:TypeId} {x:Operand} {w:World} (h:o.op=.box t x):listed P fn a o w=#[]:=by
 unfold listed;rw [show (execOp a.eval o).events P w #[]=#[] from by simp [execOp,h,Instr.box,newVar,newRow]];exact seen_none _ _
theorem _root_.Go.Sim.Reach.alloc (hst:C.st=false) (hB:BOk C S W E w) {g g':Goroutine} {o:Obj} (hr:g.status=.running) (hr':g'.status=.running) (hd:g'.dying=none) (hof:g'.offers=none)
  (ho:J3g C (okP C S) (idE fun b=>E b\/b=w.heap.size) w.heap.size o o) (hs:∀ w1,w1.heap.size=w.heap.size->stepG C.P true g w1=.go g' (w1.alloc o) #[])
  (kn:∀ w',BOk C S W (fun b=>E b\/b=w.heap.size) w'->w'.heap.size=w.heap.size+1->(∀ b,E b->w'.heap[b]?=w.heap[b]?)->w'.heap[w.heap.size]?=some o->Reach C.P Post W g' w'):Reach C.P Post W g w:=by
 refine Reach.hand (f:=fun w1=>w1.alloc o) hB hr hr' hd hof (fun w1 r1=>⟨#[],hs w1 (r1.same rfl),?_⟩) fun w1 w2 r1 r2 hW=>?_
 ·refine ⟨by simp,fun b hb _=>Below.heap_alloc _ _ b hb,rfl,rfl,Ja2 _,fun e he=>by simp at he⟩
 ·have hs1:w1.heap.size=w.heap.size:=r1.same rfl;have hg1:∀ b,grown E w1 (w1.alloc o) b↔E b\/b=w.heap.size:=fun b=>by
   simp only [grown,World.size_alloc,hs1];constructor
   ·rintro (h|h)
    ·exact .inl h
    ·exact .inr (by omega)
   ·rintro (h|h)
    ·exact .inl h
    ·exact .inr (by omega)
  have hE:∀ b,E b->b<w.heap.size:=fun b hb=>hB.lt hb;have hB2:=(hB.rely hst r1).push hst (o:=o) (by rw [hs1];exact ho) fun h=>hW _ h ((hg1 _).2 (.inr hs1));rw [hs1] at hB2;have hB3:=((hB2.ext fun b=>hg1 b).rely hst r2).ext fun b=>(hg1 b).symm;refine kn w2 hB3 ((r2.same rfl).trans (by rw [World.size_alloc,hs1])) (fun b hb=>?_) ?_
  ·exact (r2.blocks b ((hg1 b).2 (.inl hb))).trans ((Below.heap_alloc _ _ b (by have:=hE b hb;omega)).trans (r1.blocks b hb))
  ·exact (r2.blocks _ ((hg1 _).2 (.inr rfl))).trans (by rw [<- hs1];exact World.alloc_heap_new _ _)
end
section
variable {W E:Nat->Prop} {w:World} {x m:Nat} {b₀:Frame} {a₀:Act} {ops:Array Oper} {i:Nat} {rest:List Nat} {kk:List Item} {cs:List Frame} {Post:(Nat->Prop)->Goroutine->World->Prop}
theorem _root_.Go.Sim.TmR.hole {C:Cx} {S:Kn} {fn:FuncId} {E:J5} {t:Array Value} (h:TmR C S fn E t t) {i:Nat} (hi:(C.hl fn).contains i=true) (ho:(S.own fn).contains i=false) (v:Value):TmR C S fn E (t.setIfInBounds i v) (t.setIfInBounds i v):=by
 refine ⟨rfl,fun j x x' hj h1 h2=>?_,fun j x hj hx=>?_⟩
 ·have hne:i≠j:=fun e=>by rw [<- e,hi] at hj;cases hj
  rw [Ja1 hne] at h1 h2;exact h.at_ j x x' hj h1 h2
 ·have hne:i≠j:=fun e=>by rw [<- e,ho] at hj;cases hj
  rw [Ja1 hne] at hx;exact h.own j x hj hx
theorem Jsx (hB:BOk C0 S0 W E w) (hE:E x)
  (kn:∀ E' w' b1 b2 b3,(∀ b,E b->E' b)->BOk C0 S0 W E' w'->KL E w w'->w'.heap[b1]?=some (.cells #[pt x] 25)->w'.heap[b2]?=some (.cells #[.int .i64 m] 3)->w'.heap[b3]?=some (.cells #[.slice none 0 0] 55)->E' b1->E' b2->E' b3->w.heap.size<=b3 ->
   Reach Tryz.prog Post W (G (b₀.at (a₀.put ((ops[i]?).bind (·.dst)) (.func (.func 38) #[] #[pt b1,pt b2,pt b3])) (.inRegion ops rest::kk)) cs) w') :
  Reach Tryz.prog Post W (G ((base 17).at ⟨#[pt x,.int .i64 m,.slice none 0 0,undef,undef,undef,undef,undef,undef,undef,undef],[]⟩ [.code b17]) (b₀.at a₀ (.inRegion ops (i::rest)::kk)::cs)) w:=by
 obtain ⟨o0,h0,p0,g0,q0⟩:=Jyq;obtain ⟨o1,h1,p1,g1,q1⟩:=Jyr;obtain ⟨o2,h2,p2,g2,q2⟩:=Jys;obtain ⟨o3,h3,p3,g3,q3⟩:=Jw8;obtain ⟨o4,h4,p4,g4,q4⟩:=Jw9;rw [Jyn];have ht0:TmR C0 S0 17 (idE E) #[pt x,.int .i64 m,.slice none 0 0,undef,undef,undef,undef,undef,undef,undef,undef] #[pt x,.int .i64 m,.slice none 0 0,undef,undef,undef,undef,undef,undef,undef,undef]:=by
  refine .Jak (fun v hv=>?_) fun _=>Juw;simp only [Jb8,Jc2,or_false] at hv;rcases hv with rfl|rfl|rfl|rfl|rfl|rfl|rfl|rfl|rfl|rfl|rfl
  ·exact .ptr _ _ ⟨rfl,hE⟩
  ·exact .int _ _
  ·exact .Jo _ _
  all_goals exact .undef
 refine J6 (fun w1=>stepG_seq) rfl fun d1=>?_;refine J6 (fun w1=>stepG_region) rfl fun d2=>?_;rw [show List.range J5u.size=[0,1,2] from by kernel_rfl];have hBa:=(hB.at d1).at d2;generalize hwa:(w.at d1).at d2=wa at hBa ⊢;have Jyt:wa.heap=w.heap:=by rw [<- hwa];rfl
 clear hwa;have hn:wa.heap.size=w.heap.size:=by rw [Jyt]
 generalize hnn:w.heap.size=n at *;refine Reach.alloc (C:=C0) (S:=S0) (o:=.cells #[pt x] 25) (g':=G ((base 17).at ⟨#[pt x,.int .i64 m,.slice none 0 0,pt n,undef,undef,undef,undef,undef,undef,undef],[]⟩ (.inRegion J5u [1,2]::[.code (.seq c17 (.seq (.region 2 J64 false) .ret))])) (b₀.at a₀ (.inRegion ops (i::rest)::kk)::cs)) rfl hBa rfl rfl rfl rfl ⟨_,_,rfl,.J6r (fun v hv=>?_),fun h=>(C0.lax rfl _ h).elim,fun _=>⟨rfl,fun _=>rfl⟩⟩ (fun w1 hw1=>?_) fun w2 hB2 hs2 oo2 e2=>?_
 ·simp only [Jb8,Jc2,or_false] at hv;subst hv;exact .ptr _ _ ⟨rfl,.inl hE⟩
 ·rw [hn] at hw1;rw [stepG_value (v:=pt n) (w':=w1.alloc (.cells #[pt x] 25)) h0 (by simp [Region.wanted,g0]) (by simp [base]) (by simp [execOp,p0,Act.eval,go_sem,hw1])];rw [Jdr p0,q0];rfl
 rw [hn] at e2 hs2 hB2;refine Reach.alloc (C:=C0) (S:=S0) (o:=.cells #[.int .i64 m] 3) (g':=G ((base 17).at ⟨#[pt x,.int .i64 m,.slice none 0 0,pt n,pt (n+1),undef,undef,undef,undef,undef,undef],[]⟩ (.inRegion J5u [2]::[.code (.seq c17 (.seq (.region 2 J64 false) .ret))])) (b₀.at a₀ (.inRegion ops (i::rest)::kk)::cs)) rfl hB2 rfl rfl rfl rfl ⟨_,_,rfl,.J6r (fun v hv=>?_),fun h=>(C0.lax rfl _ h).elim,fun _=>⟨rfl,fun _=>rfl⟩⟩ (fun w1 hw1=>?_) fun w1' hB1 hs1 oo1 e4=>?_
 ·simp only [Jb8,Jc2,or_false] at hv;subst hv;exact .int _ _
 ·rw [hs2] at hw1;rw [stepG_value (v:=pt (n+1)) (w':=w1.alloc (.cells #[.int .i64 m] 3)) h1 (by simp [Region.wanted,g1]) (by simp [base]) (by simp [execOp,p1,Act.eval,go_sem,hw1])];rw [Jdr p1,q1];rfl
 rw [hs2] at e4 hs1 hB1;have a3:(fun b=>(E b\/b=n)\/b=n+1) n:=.inl (.inr rfl);have a4:(fun b=>(E b\/b=n)\/b=n+1) (n+1):=.inr rfl;have hs1':∀ b,E b->(fun b=>(E b\/b=n)\/b=n+1) b:=fun b hb=>.inl (.inl hb);have c3:w1'.heap[n]?=some (.cells #[pt x] 25):=(oo1 _ (.inr rfl)).trans e2;have c4:w1'.heap[n+1]?=some (.cells #[.int .i64 m] 3):=e4;have kl1:KL E w w1':=KL.of_eq fun b hb=>(oo1 _ (.inl hb)).trans ((oo2 b hb).trans (by rw [Jyt]));have ht1:TmR C0 S0 17 (idE fun b=>(E b\/b=n)\/b=n+1) #[pt x,.int .i64 m,.slice none 0 0,pt n,pt (n+1),undef,undef,undef,undef,undef,undef] #[pt x,.int .i64 m,.slice none 0 0,pt n,pt (n+1),undef,undef,undef,undef,undef,undef]:=
  ((ht0.mono (J18 hs1')).set 3 (v:=pt n) (v':=pt n) (.ptr _ _ ⟨rfl,a3⟩) fun h=>by cases h).set 4 (v:=pt (n+1)) (v':=pt (n+1)) (.ptr _ _ ⟨rfl,a4⟩) fun h=>by cases h
 refine J6 (fun w1=>J0d (v:=.nilFunc) h2 (by simp [Region.wanted,g2]) (by simp [base]) (by simp [execOp,p2,Act.eval]) (by simp [execOp,p2,Act.eval])) rfl fun d3=>?_;rw [q2];refine J6 (fun w1=>stepG_region_end) rfl fun d4=>?_;refine J6 (fun w1=>stepG_seq) rfl fun d5=>?_;have ht2:=ht1.hole (i:=6) rfl Juw .nilFunc;refine Reach.piece (b:=base 17) J1u rfl J03v J03w df17 Jw7 (by simp [base]) (((hB1.at d3).at d4).at d5) ht2 (Q:=fun e t w2=>e=.normal/\t=(fun k=>#[pt x,.int .i64 m,.slice none 0 0,pt n,pt (n+1),undef,.nilFunc,pt k,.slice none 0 0,.slice none 0 0,undef]) w1'.heap.size/\w2.heap=w1'.heap.push (.cells #[.slice none 0 0] 55)) (fun τ=>?_) (fun E2 t2 w2 w2' hs2 hB2 hW2 ht2 hq2=>?_) (fun E2 t2 w2 w2' todo hs2 hB2 hW2 ht2 hq2=>by cases hq2.1)
 ·refine wp_mono (Jyp (w:=(((w1'.at d3).at d4).at d5).tp τ 0)) fun e a w2 ⟨q1,q2,q3,q4⟩=>⟨.inl q1,fun i hi=>?_,q1,q3,q4⟩;rw [q3];rcases hl17 hi with rfl|rfl<;>rfl
 obtain ⟨-,rfl,hh2⟩:=hq2;generalize hk:w1'.heap.size=k at *;have l2:=Jy rfl hW2;have a7:E2 k:=(ht2.slot (i:=7) rfl rfl).J57;have o2':∀ b,b<k->w2.heap[b]?=w1'.heap[b]?:=fun b hb=>by rw [hh2,Array.getElem?_push_lt (by omega),Ja4 (by omega)]
 have kl2:KL (fun b=>(E b\/b=n)\/b=n+1) w1' w2':=(KL.of_eq fun b hb=>o2' b (hk▸hB1.lt hb)).trans ((KL.J3z hW2).mono hs2);have c7:=l2 k (.cells #[.slice none 0 0] 55) a7 (by rw [hh2,Jd1,if_pos hk.symm]) trivial;have nk:n<=k:=by have:=hB1.lt a3;omega
 refine J6 (fun w1=>stepG_seq) rfl fun d6=>?_;refine J6 (fun w1=>stepG_region) rfl fun d7=>?_;rw [show List.range J64.size=[0,1] from by kernel_rfl];refine J6 (fun w1=>J0d (v:=.func (.func 38) #[] #[pt n,pt (n+1),pt k]) h3 (by simp [Region.wanted,g3]) (by simp [base]) (by simp [execOp,p3,Act.eval];try rfl) (by simp [execOp,p3,Act.eval];try rfl)) rfl fun d8=>?_;rw [q3];refine J6 (fun w1=>J0d (v:=.func (.func 38) #[] #[pt n,pt (n+1),pt k]) h4 (by simp [Region.wanted,g4]) (by simp [base]) (by simp [execOp,p4,Act.eval,Act.put]) (by simp [execOp,p4,Act.eval,Act.put])) rfl fun d9=>?_;rw [q4];refine J6 (fun w1=>stepG_region_end) rfl fun d10=>?_;refine J6 (fun w1=>stepG_ret') rfl fun d11=>?_;refine Reach.leave1 (B:=base 17) rfl rfl (fn:=Tryz.f17) (by kernel_rfl) (x:=6) (by kernel_rfl) fun d12=>?_;have hBz:=(((((((hB2.at d6).at d7).at d8).at d9).at d10).at d11).at d12);exact kn E2 _ n (n+1) k (fun b hb=>hs2 b (hs1' b hb)) hBz ((kl1.trans (kl2.mono hs1')).trans (KL.of_eq fun _ _=>rfl)) (kl2.ke _ _ a3 c3 trivial) (kl2.ke _ _ a4 c4 trivial) c7 (hs2 _ a3) (hs2 _ a4) a7 nk
end
structure J2q (E:Nat->Prop) (w:World) (x:Nat) (c:J8) (seed:Int) (h:Value) (nf:Int) (vm src:Nat) (S:List TR):Prop where
 cube:J08 w x c seed h nf vm src
 tab:TabAt false w c src S
 hok:HOk w
 tE:∀ y,y=src\/y∈tpl S->E y/\Tryz.prog.globals.size<=y
 bE:∀ a,c.ba=some a->E a.block/\Tryz.prog.globals.size<=a.block/\∃ arr t,Blk false w a.block arr t/\Plain arr
 xE:E x/\E vm
 cfg:Jw c
 n:S.length<=1000
section
variable {E E':Nat->Prop} {w w':World} {x:Nat} {c:J8} {seed nf:Int} {h:Value} {vm src b3:Nat} {S:List TR}
theorem KE.cube (q:J08 w x c seed h nf vm src) (hx:E x) (hv:E vm) (k:KE E w w'):J08 w' x c seed h nf vm src:=by obtain ⟨⟨z,h1,h2⟩,n,es,ck,h3,h4⟩:=q;exact ⟨⟨z,k _ _ hx h1 trivial,h2⟩,n,es,ck,k _ _ hv h3 trivial,h4⟩
theorem J2q.ke (q:J2q E w x c seed h nf vm src S) (k:KE E w w') (hH:E Tryz.prog.globals.size) (hE:∀ b,E b->E' b):J2q E' w' x c seed h nf vm src S:=
 ⟨KE.cube q.cube q.xE.1 q.xE.2 k,q.tab.ke k fun y hy=>(q.tE y hy).1,q.hok.ke k hH,fun y hy=>⟨hE _ (q.tE y hy).1,(q.tE y hy).2⟩,fun a ha=>by obtain ⟨h1,h2,arr,t,h3,h4⟩:=q.bE a ha;exact ⟨hE _ h1,h2,arr,t,k.blk h1 h3,h4⟩,⟨hE _ q.xE.1,hE _ q.xE.2⟩,q.cfg,q.n⟩
theorem J2q.roll (q:J2q E w x c seed h nf vm src S) (k3:w.heap[b3]?=some (.cells #[.slice none 0 0] 55)) (h3:E b3) (hb:Tryz.prog.globals.size<=b3):J63 E (fun b=>b=b3) w src b3 S c (fun _=>true) where
 h:=q.hok
 tab:=q.tab
 tE:=q.tE
 bE:=fun a ha=>by obtain ⟨h1,h2,arr,t,h3,h4⟩:=q.bE a ha;exact ⟨h1,h2,.plain h3 h4⟩
 fF:=rfl
 fE:=fun b e=>by subst e;refine ⟨h3,hb,.of_cells (arr:=#[.slice none 0 0]) (t:=55) ⟨(0,0),k3,fun _=>rfl⟩ fun X Sh hX v hv=>?_⟩;simp only [Jb8,Jc2,or_false] at hv;subst hv;exact .Jo _ _
 pass:=fun w' hw' x hx=>Jy1 (hw' ⟨b3,0,none⟩ _ rfl ((cell_of k3 0).trans rfl)) hx.1
 cfg:=q.cfg
 n:=q.n
end
noncomputable def t9:Code:=sC (sC (sC (sC b9)))
noncomputable def ops9:Array Oper:=opsOf (fC B9)
noncomputable def c9:Code:=fC b9
noncomputable def c9b:Code:=fC (sC b9)
noncomputable def c9c:Code:=fC (sC (sC b9))
theorem J03x:b9=.seq c9 (.seq c9b (.seq c9c (.seq B9 t9))):=by kernel_rfl
theorem J03y:B9=.seq (.region 4 ops9 false) (.block 0 (.rangeFunc (.tmp 18) #[19,20] Jai Jaj)):=by kernel_rfl
theorem ok9:Jj C0 S0 9 c9=true:=by kernel_rfl
theorem ok9b:Jj C0 S0 9 c9b=true:=by kernel_rfl
theorem ok9c:Jj C0 S0 9 c9c=true:=by kernel_rfl
theorem ok9t:Jj C0 S0 9 t9=true:=by kernel_rfl
theorem Jfp:J0k C0 9:=⟨Tryz.f9,by kernel_rfl,by kernel_rfl,by kernel_rfl⟩
theorem df9:S0.df.contains 9=false:=rfl
theorem Jjh:J6p C0 9:=by
 intro fn hf r hr;have e:C0.P.funcs[9]?=some Tryz.f9:=by kernel_rfl
 rw [e] at hf;cases hf;rw [show Tryz.f9.results=#[.cell 8 28,.cell 9 30] from by kernel_rfl] at hr;simp only [List.mem_toArray,Jb8,Jc2,or_false] at hr;rcases hr with rfl|rfl
 ·exact hl9 (by decide)
 ·exact hl9 (by decide)
theorem ok9a:okP C0 S0 9 Jai:=⟨by kernel_rfl,rfl,Jjh,Jfp,df9⟩
theorem ok9y:okP C0 S0 9 Jaj:=⟨by kernel_rfl,rfl,Jjh,Jfp,df9⟩
theorem Jds:C0.hl 9≠[]:=by show [18]≠[];simp
theorem Jng {i:Nat} (h:(C0.hl 9).contains i=true):i=18:=by have h':i∈[18]:=Jd3.1 h;simpa using h'
theorem Jyu {i:Nat}:(S0.own 9).contains i=false:=rfl
theorem J03z {i:Nat}:(S0.own 38).contains i=false:=rfl
theorem body9:Tryz.f9.body=some b9:=by kernel_rfl
theorem Jyv:Tryz.f38.body=some b38:=by kernel_rfl
theorem J040:∃ o,ops9[0]?=some o/\o.op=.move (.tmp 0)/\o.guard=none/\o.dst=some 15:=by simp only [ops9,opsOf,B9,b9,fC,sC,Tryz.f9,Ja6];exact ⟨_,rfl,rfl,rfl,rfl⟩
theorem J041:∃ o,ops9[1]?=some o/\o.op=.move (.tmp 1)/\o.guard=none/\o.dst=some 16:=by simp only [ops9,opsOf,B9,b9,fC,sC,Tryz.f9,Ja6];exact ⟨_,rfl,rfl,rfl,rfl⟩
theorem J042:∃ o,ops9[2]?=some o/\o.op=.move (.tmp 2)/\o.guard=none/\o.dst=some 17:=by simp only [ops9,opsOf,B9,b9,fC,sC,Tryz.f9,Ja6];exact ⟨_,rfl,rfl,rfl,rfl⟩
theorem J043:∃ o,ops9[3]?=some o/\o.op=.call { callee:=.value (.func 17),args:=#[.tmp 15,.tmp 16,.tmp 17],argTypes:=#[25,3,55] }/\o.guard=none/\o.dst=some 18:=by simp only [ops9,opsOf,B9,b9,fC,sC,Tryz.f9,Ja6];exact ⟨_,rfl,rfl,rfl,rfl⟩
section
variable {w:World} {x n m:Nat} {most:Int} {d:Deferred}
theorem J044:c9.wp Tryz.prog (fun e a w1=>e=.normal/\a.defers=[d]/\a.tmps=(fun n=>#[pt x,.int .i64 m,.slice none 0 0,.int .i64 most,undef,undef,undef,pt n,pt (n+1),pt (n+2),undef,undef,undef,undef,undef,undef,undef,undef,undef,undef,undef,undef,undef,undef,undef,undef,undef,undef,undef,undef,undef,undef,undef]) w.heap.size/\w1.heap=((w.heap.push (.cells #[.int .i64 most] 3)).push (.cells #[.slice none 0 0] 28)).push (.cells #[.nilIface] 30)) ⟨#[pt x,.int .i64 m,.slice none 0 0,.int .i64 most,undef,undef,undef,undef,undef,undef,undef,undef,undef,undef,undef,undef,undef,undef,undef,undef,undef,undef,undef,undef,undef,undef,undef,undef,undef,undef,undef,undef,undef],[d]⟩ w:=by simp only [c9,b9,fC,Tryz.f9,Ja6];go_wp2;exact rfl
theorem Jyw:c9b.wp Tryz.prog (fun e a w1=>e=.normal/\a.defers=[d]/\a.tmps=(fun n4=>#[pt x,.int .i64 m,.slice none 0 0,.int .i64 most,undef,undef,undef,pt n,pt (n+1),pt (n+2),pt n4,undef,undef,undef,undef,undef,undef,undef,undef,undef,undef,undef,undef,undef,undef,undef,undef,undef,undef,undef,undef,undef,undef]) w.heap.size/\w1.heap=w.heap.push (.cells #[.slice none 0 0] 28)) ⟨#[pt x,.int .i64 m,.slice none 0 0,.int .i64 most,undef,undef,undef,pt n,pt (n+1),pt (n+2),undef,undef,undef,undef,undef,undef,undef,undef,undef,undef,undef,undef,undef,undef,undef,undef,undef,undef,undef,undef,undef,undef,undef],[d]⟩ w:=by simp only [c9b,b9,fC,sC,Tryz.f9,Ja6];go_wp2;exact rfl
theorem Jyx {n4:Nat} (hm:1<=most) (h7:w.heap[n]?=some (.cells #[.int .i64 most] 3)):c9c.wp Tryz.prog (fun e a w1=>e=.normal/\a.defers=[d]/\a.tmps=#[pt x,.int .i64 m,.slice none 0 0,.int .i64 most,undef,undef,undef,pt n,pt (n+1),pt (n+2),pt n4,undef,undef,.int .i64 most,.bool false,undef,undef,undef,undef,undef,undef,undef,undef,undef,undef,undef,undef,undef,undef,undef,undef,undef,undef]/\w1.heap=w.heap) ⟨#[pt x,.int .i64 m,.slice none 0 0,.int .i64 most,undef,undef,undef,pt n,pt (n+1),pt (n+2),pt n4,undef,undef,undef,undef,undef,undef,undef,undef,undef,undef,undef,undef,undef,undef,undef,undef,undef,undef,undef,undef,undef,undef],[d]⟩ w:=by
 have hmn:¬ most<1:=by omega
 have q7:=(cell_of h7 0).trans rfl;simp only [c9c,b9,fC,sC,Tryz.f9,Ja6];go_wp2
theorem J045 {n8 n9 n10:Nat} {v:Value} {T:Array Value} (hT:T.size=33) (s8:T[8]?=some (pt n8)) (s9:T[9]?=some (pt n9)) (s10:T[10]?=some (pt n10)) (h8:w.heap[n8]?=some (.cells #[.slice none 0 0] 28)) (h9:w.heap[n9]?=some (.cells #[.nilIface] 30)) (h10:w.heap[n10]?=some (.cells #[v] 28)) (hv:∃ a l c,v=.slice a l c) (hne:n8≠n10) :
  t9.wp Tryz.prog (fun e a w1=>e=.ret/\a.defers=[d]/\a.tmps[18]?=T[18]?/\a.tmps[8]?=some (pt n8)/\a.tmps[9]?=some (pt n9)/\w1.heap[n8]?=some (.cells #[v] 28)/\w1.heap[n9]?=some (.cells #[.nilIface] 30)/\(∀ b,b≠n8->b≠n9->w1.heap[b]?=w.heap[b]?)) ⟨T,[d]⟩ w:=by
 obtain ⟨f,rfl⟩:=Juk hT;have e8:f 8=_:=Ja0 s8;have e9:f 9=_:=Ja0 s9;have e10:f 10=_:=Ja0 s10;rw [e8,e9,e10];obtain ⟨va,vl,vc,rfl⟩:=hv;have q8:=(cell_of h8 0).trans rfl;have q9:=(cell_of h9 0).trans rfl;have q10:=(cell_of h10 0).trans rfl;have f8:=J02 h8 0;have f9:=J02 h9 0;have h89:n8≠n9:=fun e=>by rw [e,h9] at h8;simp at h8
 have h98:n9≠n8:=fun e=>h89 e.symm;simp only [t9,b9,sC,Tryz.f9,Ja6];go_wp2;have k8:(w.setCell ⟨n8,0,none⟩ (.slice va vl vc)).heap[n8]?=some (.cells #[.slice va vl vc] 28):=by rw [heap_set h8];rfl
 have k9:(w.setCell ⟨n8,0,none⟩ (.slice va vl vc)).heap[n9]?=some (.cells #[.nilIface] 30):=(Jk _ _ h98).trans h9;refine ⟨(Jk _ _ h89).trans k8,?_,fun b h1 h2=>(Jk _ _ h2).trans (Jk _ _ h1)⟩;rw [heap_set k9];rfl
end
section
variable {E:Nat->Prop} {w w':World} {base base' m0:Nat} {T:List TR} {ks:List Je} {L:List QC} {v:Value} {t:TypeId} {k:IntKind} {xs:List Int} {n:Nat} {cs:List Value}
def KD (E:Nat->Prop) (w w':World):Prop:=∀ b arr t,E b->t≠28->t≠30->w.heap[b]?=some (.cells arr t)->w'.heap[b]?=some (.cells arr t)
theorem SlN.kd (h:SlN base w v t k xs) (q:KD E w w') (h1:t≠28) (h2:t≠30) (hv:VR C0 (idE E) v v):SlN base w' v t k xs:=by obtain ⟨g,cap,rfl,hb,arr,⟨z,h3,h4⟩,h5⟩:=h;cases h4 rfl;exact ⟨g,cap,rfl,hb,arr,⟨(0,0),q _ _ _ hv.J1i h1 h2 h3,fun _=>rfl⟩,h5⟩
theorem SlI.kd (h:SlI false w base v t k xs) (q:KD E w w') (h1:t≠28) (h2:t≠30) (hv:VR C0 (idE E) v v):SlI false w' base v t k xs:=by
 rcases h with h|⟨g,cap,rfl,hb,arr,⟨z,h3,h4⟩,h5⟩
 ·exact .inl h
 ·cases h4 rfl;exact .inr ⟨g,cap,rfl,hb,arr,⟨(0,0),q _ _ _ hv.J1i h1 h2 h3,fun _=>rfl⟩,h5⟩
theorem J2z.kd (h:J2z base w T m0 ks L) (hv:∀ q∈L,∀ v∈q.cells,VR C0 (idE E) v v) (q:KD E w w'):J2z base w' T m0 ks L:=by refine ⟨h.1,fun i x p hx hp=>?_⟩;obtain ⟨h1,h2,h3,h4⟩:=h.2 i x p hx hp;have hv:=hv p (Jd0 hp);exact ⟨h1,h2,h3,h4.k.kd q (by decide) (by decide) (hv _ (by simp [QC.cells])),h4.r.kd q (by decide) (by decide) (hv _ (by simp [QC.cells])),h4.h.kd q (by decide) (by decide) (hv _ (by simp [QC.cells])),h4.l.kd q (by decide) (by decide) (hv _ (by simp [QC.cells]))⟩
theorem J2z.mono (h:J2z base w T m0 ks L) (hb:base'<=base):J2z base' w T m0 ks L:=by refine ⟨h.1,fun i x p hx hp=>?_⟩;obtain ⟨h1,h2,h3,h4⟩:=h.2 i x p hx hp;exact ⟨h1,h2,h3,h4.mono hb⟩
theorem Jyy (h:w.ownsRow base 39 5 v n cs) (hv:VR C0 (idE E) v v) (q:KD E w w'):w'.ownsRow base 39 5 v n cs:=by
 refine ⟨h.1,?_⟩;rcases h.2 with hn|⟨g,cap,cur,rfl,hb,hgg,rest⟩
 ·exact .inl hn
 ·exact .inr ⟨g,cap,cur,rfl,hb,q _ _ _ hv.J1i (by decide) (by decide) hgg,rest⟩
theorem J7c (h:w.ownsRow base 39 5 v n cs):∃ a c,v=.slice a n c:=by
 rcases h.2 with ⟨rfl,hn⟩|⟨g,cap,cur,rfl,_⟩
 ·exact ⟨none,0,by rw [hn]⟩
 ·exact ⟨_,_,rfl⟩
end
theorem Jsy {w1:World} {T:Array Value} {b8 b9:Nat} {v u:Value} (h8:T[8]?=some (pt b8)) (h9:T[9]?=some (pt b9)) (c8:w1.cell? ⟨b8,0,none⟩=some v) (c9:w1.cell? ⟨b9,0,none⟩=some u) :
  (results Tryz.f9 T).run Tryz.prog w1=.ok (.tuple #[v,u]) w1/\∀ e∈(results Tryz.f9 T).events Tryz.prog w1 #[],∃ ad:Addr,(ad.block=b8\/ad.block=b9)/\e=⟨.cell ad,false,false⟩:=by
 have hr:Tryz.f9.results=#[.cell 8 28,.cell 9 30]:=by kernel_rfl
 have g8:T.getD 8 undef=pt b8:=by simp [Ja5,h8]
 have g9:T.getD 9 undef=pt b9:=by simp [Ja5,h9]
 have u28:=Tryz.underlying28;have u30:=Tryz.underlying30;constructor
 ·simp [results,hr,Ja5,h8,h9,go_sem,asAddr,loadVar,isAgg,underlying,c8,c9,u28,u30]
 ·simp [results,hr,Ja5,h8,h9,go_sem,asAddr,loadVar,isAgg,underlying,c8,c9,u28,u30]
section
variable {W E:Nat->Prop} {w:World} {x:Nat} {c:J8} {seed nf:Int} {h:Value} {vm src m:Nat} {S:List TR} {M most:Int} {b₀:Frame} {a₀:Act} {ops:Array Oper} {i:Nat} {rest:List Nat} {kk:List Item} {cs:List Frame} {Post:(Nat->Prop)->Goroutine->World->Prop}
structure Jsz (E:Nat->Prop) (w:World) (c:J8) (S:List TR) (m:Nat) (W' E':Nat->Prop) (w':World) (v:Value) (T:List TR) (ks:List Je) (L:List QC):Prop where
 le:∀ b,E b->E' b
 bok:BOk C0 S0 W' E' w'
 ke:KE E w w'
 nd:(T.map (·.k)).Nodup
 tok:∀ t∈T,J0t t.k/\Jl c t.B
 sum:Sum c (tm T) (J14 S m (fun _=>true))
 keys:keysOf (T.map TR.kv) ks
 outs:J2z w.heap.size w' T m ks L
 row:w'.ownsRow w.heap.size 39 5 v L.length (L.flatMap QC.cells)
 vE:VR C0 (idE E') v v
set_option maxHeartbeats 2000000 in
theorem J7r (hB:BOk C0 S0 W E w) (q:J2q E w x c seed h nf vm src S) (hm8:m<8) (hM:0<=M) (hS:∀ t∈S,HIn M t.B) (hSM:S.length*M<=9223372036854775807) (hm1:1<=most)
  (Jba:∀ T:List TR,(T.map (·.k)).Nodup->Sum c (tm T) (J14 S m (fun _=>true))->(T.length:Int)<=most)
  (kn:∀ W' E' w' v T ks L,Jsz E w c S m W' E' w' v T ks L->Reach Tryz.prog Post W' (G (b₀.at (a₀.put ((ops[i]?).bind (·.dst)) (.tuple #[v,.nilIface])) (.inRegion ops rest::kk)) cs) w') :
  Reach Tryz.prog Post W (G ((Go.Conc.base 9).at ⟨#[pt x,.int .i64 m,.slice none 0 0,.int .i64 most,undef,undef,undef,undef,undef,undef,undef,undef,undef,undef,undef,undef,undef,undef,undef,undef,undef,undef,undef,undef,undef,undef,undef,undef,undef,undef,undef,undef,undef],[]⟩ [.code b9]) (b₀.at a₀ (.inRegion ops (i::rest)::kk)::cs)) w:=by
 obtain ⟨o0,h0,p0,g0,q0⟩:=J040;obtain ⟨o1,h1,p1,g1,q1⟩:=J041;obtain ⟨o2,h2,p2,g2,q2⟩:=J042;obtain ⟨o3,h3,p3,g3,q3⟩:=J043;have hsz0:Tryz.prog.globals.size<w.heap.size:=hB.lt hB.hnd;have ht0:TmR C0 S0 9 (idE E) #[pt x,.int .i64 m,.slice none 0 0,.int .i64 most,undef,undef,undef,undef,undef,undef,undef,undef,undef,undef,undef,undef,undef,undef,undef,undef,undef,undef,undef,undef,undef,undef,undef,undef,undef,undef,undef,undef,undef] #[pt x,.int .i64 m,.slice none 0 0,.int .i64 most,undef,undef,undef,undef,undef,undef,undef,undef,undef,undef,undef,undef,undef,undef,undef,undef,undef,undef,undef,undef,undef,undef,undef,undef,undef,undef,undef,undef,undef]:=by
  refine .Jak (fun v hv=>?_) fun _=>Jyu;have e:#[pt x,.int .i64 m,.slice none 0 0,.int .i64 most,undef,undef,undef,undef,undef,undef,undef,undef,undef,undef,undef,undef,undef,undef,undef,undef,undef,undef,undef,undef,undef,undef,undef,undef,undef,undef,undef,undef,undef]=#[pt x,.int .i64 m,.slice none 0 0,.int .i64 most]++Array.replicate 29 undef:=by
   rw [show Array.replicate 29 undef=#[undef,undef,undef,undef,undef,undef,undef,undef,undef,undef,undef,undef,undef,undef,undef,undef,undef,undef,undef,undef,undef,undef,undef,undef,undef,undef,undef,undef,undef] from by kernel_rfl];simp only [List.append_toArray,Jc7,Jc8]
  rw [e,Array.toList_append,Jc9] at hv;rcases hv with hv|hv
  ·simp only [Jb8,Jc2,or_false] at hv;rcases hv with rfl|rfl|rfl|rfl
   ·exact .ptr _ _ ⟨rfl,q.xE.1⟩
   ·exact .int _ _
   ·exact .Jo _ _
   ·exact .int _ _
  ·simp only [Array.toList_replicate] at hv;rw [List.eq_of_mem_replicate hv];exact .undef
 rw [J03x];refine J6 (fun w1=>stepG_seq) rfl fun d1=>?_;refine Reach.piece (b:=Go.Conc.base 9) J1u rfl ok9 Jfp df9 Jds (by simp [Go.Conc.base]) (hB.at d1) ht0 (Q:=fun e t w1=>e=.normal/\t=(fun n=>#[pt x,.int .i64 m,.slice none 0 0,.int .i64 most,undef,undef,undef,pt n,pt (n+1),pt (n+2),undef,undef,undef,undef,undef,undef,undef,undef,undef,undef,undef,undef,undef,undef,undef,undef,undef,undef,undef,undef,undef,undef,undef]) w.heap.size/\w1.heap=((w.heap.push (.cells #[.int .i64 most] 3)).push (.cells #[.slice none 0 0] 28)).push (.cells #[.nilIface] 30)) (fun τ=>?_) (fun E1 t1 w1 w1' hs1 hB1 hW1 ht1 hq1=>?_) (fun E1 t1 w1 w1' todo hs1 hB1 hW1 ht1 hq1=>by cases hq1.1)
 ·refine wp_mono (J044 (w:=(w.at d1).tp τ 0)) fun e a w1 ⟨r1,r2,r3,r4⟩=>⟨.inl r1,fun i hi=>?_,r1,r3,r4⟩;rw [r3,Jng hi];rfl
 obtain ⟨-,rfl,hh1⟩:=hq1;generalize hn:w.heap.size=n at *;have l1:=Jy rfl hW1;have a7:E1 n:=(ht1.slot (i:=7) rfl rfl).J57;have a8:E1 (n+1):=(ht1.slot (i:=8) rfl rfl).J57;have a9:E1 (n+2):=(ht1.slot (i:=9) rfl rfl).J57;have o1:∀ b,b<n->w1.heap[b]?=w.heap[b]?:=fun b hb=>by rw [hh1,Array.getElem?_push_lt (by simp;omega),Array.getElem_push_lt (by simp;omega),Array.getElem_push_lt (by omega),Ja4 (by omega)]
 obtain ⟨p7,p8,p9⟩:=Juu hn (.cells #[.int .i64 most] 3) (.cells #[.slice none 0 0] 28) (.cells #[.nilIface] 30);rw [<- hh1] at p7 p8 p9;have c7:=l1 _ _ a7 p7 trivial;have c8:=l1 _ _ a8 p8 trivial;have c9':=l1 _ _ a9 p9 trivial;have k1:KL E w w1':=(KL.of_eq fun b hb=>o1 b (hn▸hB.lt hb)).trans ((KL.J3z hW1).mono hs1);refine J6 (fun w1=>stepG_seq) rfl fun d2=>?_;refine Reach.piece (b:=Go.Conc.base 9) J1u rfl ok9b Jfp df9 Jds (by simp [Go.Conc.base]) (hB1.at d2) ht1 (Q:=fun e t w2=>e=.normal/\t=(fun n4=>#[pt x,.int .i64 m,.slice none 0 0,.int .i64 most,undef,undef,undef,pt n,pt (n+1),pt (n+2),pt n4,undef,undef,undef,undef,undef,undef,undef,undef,undef,undef,undef,undef,undef,undef,undef,undef,undef,undef,undef,undef,undef,undef]) w1'.heap.size/\w2.heap=w1'.heap.push (.cells #[.slice none 0 0] 28)) (fun τ=>?_) (fun E2 t2 w2 w2' hs2 hB2 hW2 ht2 hq2=>?_) (fun E1 t1 w1 w1' todo hs1 hB1 hW1 ht1 hq1=>by cases hq1.1)
 ·refine wp_mono (Jyw (w:=(w1'.at d2).tp τ 0)) fun e a w1 ⟨r1,r2,r3,r4⟩=>⟨.inl r1,fun i hi=>?_,r1,r3,r4⟩;rw [r3,Jng hi];rfl
 obtain ⟨-,rfl,hh2⟩:=hq2;have n4lt:n+2<w1'.heap.size:=hB1.lt a9;generalize hn4:w1'.heap.size=n4 at *;have l2:=Jy rfl hW2;have a10:E2 n4:=(ht2.slot (i:=10) rfl rfl).J57;have o2':∀ b,b<n4->w2.heap[b]?=w1'.heap[b]?:=fun b hb=>by rw [hh2,Array.getElem?_push_lt (by omega),Ja4 (by omega)]
 have k2:KL E1 w1' w2':=(KL.of_eq fun b hb=>o2' b (hn4▸hB1.lt hb)).trans ((KL.J3z hW2).mono hs2);have c10:=l2 n4 (.cells #[.slice none 0 0] 28) a10 (by rw [hh2,Jd1,if_pos hn4.symm]) trivial;have d7:=k2.ke _ _ a7 c7 trivial;have d8:=k2.ke _ _ a8 c8 trivial;have d9:=k2.ke _ _ a9 c9' trivial;refine J6 (fun w1=>stepG_seq) rfl fun d3=>?_;refine Reach.piece (b:=Go.Conc.base 9) J1u rfl ok9c Jfp df9 Jds (by simp [Go.Conc.base]) (hB2.at d3) ht2 (Q:=fun e t w3=>e=.normal/\t=#[pt x,.int .i64 m,.slice none 0 0,.int .i64 most,undef,undef,undef,pt n,pt (n+1),pt (n+2),pt n4,undef,undef,.int .i64 most,.bool false,undef,undef,undef,undef,undef,undef,undef,undef,undef,undef,undef,undef,undef,undef,undef,undef,undef,undef]/\w3.heap=w2'.heap) (fun τ=>?_) (fun E3 t3 w3 w3' hs3 hB3 hW3 ht3 hq3=>?_) (fun E1 t1 w1 w1' todo hs1 hB1 hW1 ht1 hq1=>by cases hq1.1)
 ·refine wp_mono (Jyx (w:=(w2'.at d3).tp τ 0) hm1 d7) fun e a w1 ⟨r1,r2,r3,r4⟩=>⟨.inl r1,fun i hi=>?_,r1,r3,r4⟩;rw [r3,Jng hi];rfl
 obtain ⟨-,rfl,hh3⟩:=hq3;have k3:KL E2 w2' w3':=(KL.of_eq fun b hb=>by rw [hh3]).trans ((KL.J3z hW3).mono hs3);have kE:KL E w w3':=k1.trans ((k2.mono hs1).trans (k3.mono fun b hb=>hs2 b (hs1 b hb)));have hE3:∀ b,E b->E3 b:=fun b hb=>hs3 b (hs2 b (hs1 b hb));have e7:=k3.ke _ _ (hs2 _ a7) d7 trivial;have e8:=k3.ke _ _ (hs2 _ a8) d8 trivial;have e9:=k3.ke _ _ (hs2 _ a9) d9 trivial;have e10:=k3.ke _ _ a10 c10 trivial;have a7:=hs3 _ (hs2 _ a7);have a8:=hs3 _ (hs2 _ a8);have a9:=hs3 _ (hs2 _ a9);have a10:=hs3 _ a10;clear p7 p8 p9 c7 c8 c9' d7 d8 d9 c10 hh1 hh2 hh3;refine J6 (fun w1=>stepG_seq) rfl fun d4=>?_;rw [J03y];refine J6 (fun w1=>stepG_seq) rfl fun d5=>?_;refine J6 (fun w1=>stepG_region) rfl fun d6=>?_;rw [show List.range ops9.size=[0,1,2,3] from by kernel_rfl];refine J6 (fun w1=>J0d (v:=pt x) h0 (by simp [Region.wanted,g0]) (by simp [Go.Conc.base]) (by simp [execOp,p0,Act.eval]) (by simp [execOp,p0,Act.eval])) rfl fun d7=>?_;rw [q0];refine J6 (fun w1=>J0d (v:=.int .i64 m) h1 (by simp [Region.wanted,g1]) (by simp [Go.Conc.base]) (by simp [execOp,p1,Act.eval,Act.put]) (by simp [execOp,p1,Act.eval,Act.put])) rfl fun d8=>?_;rw [q1];refine J6 (fun w1=>J0d (v:=.slice none 0 0) h2 (by simp [Region.wanted,g2]) (by simp [Go.Conc.base]) (by simp [execOp,p2,Act.eval,Act.put]) (by simp [execOp,p2,Act.eval,Act.put])) rfl fun d9=>?_;rw [q2];have ht4:TmR C0 S0 9 (idE E3) #[pt x,.int .i64 m,.slice none 0 0,.int .i64 most,undef,undef,undef,pt n,pt (n+1),pt (n+2),pt n4,undef,undef,.int .i64 most,.bool false,pt x,.int .i64 m,.slice none 0 0,undef,undef,undef,undef,undef,undef,undef,undef,undef,undef,undef,undef,undef,undef,undef] #[pt x,.int .i64 m,.slice none 0 0,.int .i64 most,undef,undef,undef,pt n,pt (n+1),pt (n+2),pt n4,undef,undef,.int .i64 most,.bool false,pt x,.int .i64 m,.slice none 0 0,undef,undef,undef,undef,undef,undef,undef,undef,undef,undef,undef,undef,undef,undef,undef]:=
  ((ht3.set 15 (v:=pt x) (v':=pt x) (.ptr _ _ ⟨rfl,hE3 _ q.xE.1⟩) fun h=>by cases h).set 16 (v:=.int .i64 m) (v':=.int .i64 m) (.int _ _) fun h=>by cases h).set 17 (v:=.slice none 0 0) (v':=.slice none 0 0) (.Jo _ _) fun h=>by cases h
 have hB4:=((((((hB3.at d4).at d5).at d6).at d7).at d8).at d9);generalize hw4:((((((w3'.at d4).at d5).at d6).at d7).at d8).at d9)=w4 at hB4 ⊢;have Jt0:w4.heap=w3'.heap:=by rw [<- hw4];rfl
 clear hw4;show Reach Tryz.prog Post W (G ((Go.Conc.base 9).at ⟨#[pt x,.int .i64 m,.slice none 0 0,.int .i64 most,undef,undef,undef,pt n,pt (n+1),pt (n+2),pt n4,undef,undef,.int .i64 most,.bool false,pt x,.int .i64 m,.slice none 0 0,undef,undef,undef,undef,undef,undef,undef,undef,undef,undef,undef,undef,undef,undef,undef],[]⟩ _) _) w4;refine Reach.call (B:=Go.Conc.base 9) h3 (by simp [Region.wanted,g3]) (by simp [Go.Conc.base]) p3 (fn:=Tryz.f17) (c:=b17) (by kernel_rfl) (by kernel_rfl) Jyo fun d10=>?_;have e17:(#[Operand.tmp 15,.tmp 16,.tmp 17].map (Act.eval ⟨#[pt x,.int .i64 m,.slice none 0 0,.int .i64 most,undef,undef,undef,pt n,pt (n+1),pt (n+2),pt n4,undef,undef,.int .i64 most,.bool false,pt x,.int .i64 m,.slice none 0 0,undef,undef,undef,undef,undef,undef,undef,undef,undef,undef,undef,undef,undef,undef,undef],[]⟩))++Array.replicate (Tryz.f17.ntmps-(#[Operand.tmp 15,.tmp 16,.tmp 17].map (Act.eval ⟨#[pt x,.int .i64 m,.slice none 0 0,.int .i64 most,undef,undef,undef,pt n,pt (n+1),pt (n+2),pt n4,undef,undef,.int .i64 most,.bool false,pt x,.int .i64 m,.slice none 0 0,undef,undef,undef,undef,undef,undef,undef,undef,undef,undef,undef,undef,undef,undef,undef],[]⟩)).size) undef=#[pt x,.int .i64 m,.slice none 0 0,undef,undef,undef,undef,undef,undef,undef,undef]:=by
  have hnt:Tryz.f17.ntmps=11:=by kernel_rfl
  have h1:(#[Operand.tmp 15,.tmp 16,.tmp 17].map (Act.eval ⟨#[pt x,.int .i64 m,.slice none 0 0,.int .i64 most,undef,undef,undef,pt n,pt (n+1),pt (n+2),pt n4,undef,undef,.int .i64 most,.bool false,pt x,.int .i64 m,.slice none 0 0,undef,undef,undef,undef,undef,undef,undef,undef,undef,undef,undef,undef,undef,undef,undef],[]⟩))=#[pt x,.int .i64 m,.slice none 0 0]:=by simp [Act.eval]
  rw [hnt,h1];show _++Array.replicate 8 undef=_;rw [show Array.replicate 8 undef=#[undef,undef,undef,undef,undef,undef,undef,undef] from by kernel_rfl];simp only [List.append_toArray,Jc7,Jc8]
 rw [e17];refine Jsx (x:=x) (m:=m) (hB4.at d10) (hE3 _ q.xE.1) fun E5 w5 b1 b2 b3 j1 j2 j3 j4 j5 j6 j7 j8 j9 j10=>?_;rw [h3];simp only [Option.bind_some,q3];refine J6 (fun w1=>stepG_region_end) rfl fun d11=>?_;refine J6 (fun w1=>stepG_block) rfl fun d12=>?_;have ht5:TmR C0 S0 9 (idE E5) #[pt x,.int .i64 m,.slice none 0 0,.int .i64 most,undef,undef,undef,pt n,pt (n+1),pt (n+2),pt n4,undef,undef,.int .i64 most,.bool false,pt x,.int .i64 m,.slice none 0 0,.func (.func 38) #[] #[pt b1,pt b2,pt b3],undef,undef,undef,undef,undef,undef,undef,undef,undef,undef,undef,undef,undef,undef] #[pt x,.int .i64 m,.slice none 0 0,.int .i64 most,undef,undef,undef,pt n,pt (n+1),pt (n+2),pt n4,undef,undef,.int .i64 most,.bool false,pt x,.int .i64 m,.slice none 0 0,.func (.func 38) #[] #[pt b1,pt b2,pt b3],undef,undef,undef,undef,undef,undef,undef,undef,undef,undef,undef,undef,undef,undef]:=(ht4.mono (J18 j1)).hole (i:=18) rfl Jyu (.func (.func 38) #[] #[pt b1,pt b2,pt b3]);show Reach Tryz.prog Post W (G ((Go.Conc.base 9).at ⟨#[pt x,.int .i64 m,.slice none 0 0,.int .i64 most,undef,undef,undef,pt n,pt (n+1),pt (n+2),pt n4,undef,undef,.int .i64 most,.bool false,pt x,.int .i64 m,.slice none 0 0,.func (.func 38) #[] #[pt b1,pt b2,pt b3],undef,undef,undef,undef,undef,undef,undef,undef,undef,undef,undef,undef,undef,undef],[]⟩ _) _) _;have kE5:KE E w w5:=kE.ke.trans ((KE.of_eq (E:=E) (w:=w3') (w1:=w4.at d10) fun b _=>by show w4.heap[b]?=_;rw [Jt0]).trans (j3.ke.mono hE3));have r5:∀ {b:Nat} {o:Obj},E3 b->w3'.heap[b]?=some o->Dat o->w5.heap[b]?=some o:=fun hb ho hd=>j3.ke _ _ hb (show w4.heap[_]?=_ by rw [Jt0];exact ho) hd;have f7:=r5 a7 e7 trivial;have f8:=r5 a8 e8 trivial;have f9:=r5 a9 e9 trivial;have f10:=r5 a10 e10 trivial;have hE5:∀ b,E b->E5 b:=fun b hb=>j1 b (hE3 b hb);have a7:=j1 _ a7;have a8:=j1 _ a8;have a9:=j1 _ a9;have a10:=j1 _ a10;have lt5:∀ b,E5 b->b<w5.heap.size:=fun b hb=>j2.lt hb;refine Reach.range (C:=C0) (S:=S0) (B:=Go.Conc.base 9) rfl ((j2.at d11).at d12) ht5 rfl (by simp [Go.Conc.base]) (g:=.tmp 18) (f:=38) (fb:=#[pt b1,pt b2,pt b3]) rfl (fn:=Tryz.f38) (by kernel_rfl) (by kernel_rfl) Jyv ok9a ok9y fun w6 m1 m2 m3 m4 m5=>?_;generalize hN:((w5.at d11).at d12).heap.size=N at *;have hN5:w5.heap.size=N:=hN;have m3':∀ b,E5 b->w6.heap[b]?=w5.heap[b]?:=m3;have kE6:KE E w w6:=kE5.trans (.of_eq fun b hb=>m3' b (hE5 b hb));have n0N:n4<N:=hN5▸lt5 _ a10;have hE6:∀ b,E b->(E5 b\/b=N)\/b=N+1:=fun b hb=>.inl (.inl (hE5 b hb));have g8:=(m3' _ a8).trans f8;have g9':=(m3' _ a9).trans f9;have q6:=q.ke kE6 hB.hnd hE6;have k3':=(m3' _ j9).trans j6;have hQ:QAt n #[pt x,.int .i64 m,.slice none 0 0,.int .i64 most,undef,undef,undef,pt n,pt (n+1),pt (n+2),pt n4,undef,undef,.int .i64 most,.bool false,pt x,.int .i64 m,.slice none 0 0,.func (.func 38) #[] #[pt b1,pt b2,pt b3],undef,undef,undef,undef,undef,undef,undef,undef,undef,undef,undef,undef,undef,undef] n n4 (N+1) N most [] w6:=⟨⟨.slice none 0 0,(m3' _ a10).trans f10,World.ownsRow_nil _ _ _ _⟩,m5,(m3' _ a7).trans f7,m4⟩;have eT:((#[.func (.yield (N+1)) #[] #[]]++#[pt b1,pt b2,pt b3])++Array.replicate (Tryz.f38.ntmps-(#[Value.func (.yield (N+1)) #[] #[]]++#[pt b1,pt b2,pt b3]).size) undef:Array Value)=#[.func (.yield (N+1)) #[] #[],pt b1,pt b2,pt b3]++Array.replicate 71 undef:=by
  have hnt:Tryz.f38.ntmps=75:=by kernel_rfl
  rw [hnt];rfl
 rw [eT];have hb3:Tryz.prog.globals.size<=b3:=by have h1:w4.heap.size<=b3:=j10;rw [Jt0] at h1;have h2:Tryz.prog.globals.size<w3'.heap.size:=hB3.lt (hE3 _ hB.hnd);omega
 refine Jsw (E:=fun b=>(E5 b\/b=N)\/b=N+1) (w:=w6) (Fp:=fun b=>b=b3) (pass:=fun _=>true) (M:=M) (S:=S) (m:=m) (b1:=b1) (b2:=b2) (b3:=b3) (l:=N+1) (mo:=n) (ob:=n4) (D:=N) (qb:=n) (T9:=#[pt x,.int .i64 m,.slice none 0 0,.int .i64 most,undef,undef,undef,pt n,pt (n+1),pt (n+2),pt n4,undef,undef,.int .i64 most,.bool false,pt x,.int .i64 m,.slice none 0 0,.func (.func 38) #[] #[pt b1,pt b2,pt b3],undef,undef,undef,undef,undef,undef,undef,undef,undef,undef,undef,undef,undef,undef]) m1 q6.cube hm8 ((m3' _ j7).trans j4) ((m3' _ j8).trans j5) k3' ⟨.inl (.inl j7),.inl (.inl j8),.inl (.inl j9),q6.xE.1,q6.xE.2⟩ (q6.roll k3' (.inl (.inl j9)) hb3) hM hS hSM Jba hQ (by omega) rfl rfl rfl ⟨.inr rfl,.inl (.inl a7),.inl (.inl a10),.inl (.inr rfl)⟩ (by simp) (by simp) (by simp) (by simp) (by simp) ?_ ?_
 ·refine .Jak (fun v hv=>?_) fun _=>J03z;rw [Array.toList_append,Jc9] at hv;rcases hv with hv|hv
  ·simp only [Jb8,Jc2,or_false] at hv;rcases hv with rfl|rfl|rfl|rfl
   ·exact .func (.yield ⟨rfl,.inr rfl⟩) rfl (fun i x x' h=>by simp at h) ⟨rfl,by simp⟩ (fun i x x' h=>by simp at h)
   ·exact .ptr _ _ ⟨rfl,.inl (.inl j7)⟩
   ·exact .ptr _ _ ⟨rfl,.inl (.inl j8)⟩
   ·exact .ptr _ _ ⟨rfl,.inl (.inl j9)⟩
  ·simp only [Array.toList_replicate] at hv;rw [List.eq_of_mem_replicate hv];exact .undef
 ·intro W7 E7 t7 w7 wb T9' T ks L mm i1 i2 i3 i4 i5 i6 i7 i8 i9;refine Reach.Jy3 (B:=Go.Conc.base 38) (a:=⟨t7,[]⟩) rfl rfl (fn:=Tryz.f38) (by kernel_rfl) (by kernel_rfl) fun d13=>?_;refine Reach.Jsn (C:=C0) (S:=S0) (B:=Go.Conc.base 9) rfl (i2.at d13) (l:=N+1) (i1 _ (.inr rfl)) (i8.at (w':=w7.at d13) rfl).lp (by simp [J1s]) rfl (by kernel_rfl) fun w8 u1 u2 u3=>?_;have u3:∀ b,E7 b->b≠N+1->w8.heap[b]?=w7.heap[b]?:=u3;refine J6 (fun w1=>stepG_inBlock) rfl fun d14=>?_;obtain ⟨v,hv,hrow⟩:=i8.box;have E8:E7 (n+1):=i1 _ (.inl (.inl a8));have E9:E7 (n+2):=i1 _ (.inl (.inl a9));have E10:E7 n4:=i1 _ (.inl (.inl a10));have EN:E7 N:=i1 _ (.inl (.inr rfl));have y8:=i9 _ _ (.inl (.inl a8)) g8 (by omega) (by omega) (fun _ cur=>by simp) trivial;have y9:=i9 _ _ (.inl (.inl a9)) g9' (by omega) (by omega) (fun _ cur=>by simp) trivial;have v8:=(u3 _ E10 (by omega)).trans hv;have x8:=(u3 _ E8 (by omega)).trans y8;have x9:=(u3 _ E9 (by omega)).trans y9;have xD:=(u3 _ EN (by omega)).trans i8.D;have ht8:TmR C0 S0 9 (idE E7) #[pt x,.int .i64 m,.slice none 0 0,.int .i64 most,undef,undef,undef,pt n,pt (n+1),pt (n+2),pt n4,undef,undef,.int .i64 most,.bool false,pt x,.int .i64 m,.slice none 0 0,.func (.func 38) #[] #[pt b1,pt b2,pt b3],undef,undef,undef,undef,undef,undef,undef,undef,undef,undef,undef,undef,undef,undef] #[pt x,.int .i64 m,.slice none 0 0,.int .i64 most,undef,undef,undef,pt n,pt (n+1),pt (n+2),pt n4,undef,undef,.int .i64 most,.bool false,pt x,.int .i64 m,.slice none 0 0,.func (.func 38) #[] #[pt b1,pt b2,pt b3],undef,undef,undef,undef,undef,undef,undef,undef,undef,undef,undef,undef,undef,undef]:=ht5.mono (J18 fun b hb=>i1 b (.inl (.inl hb)));refine Reach.piece (b:=Go.Conc.base 9) (k:=[]) J1u rfl ok9t Jfp df9 Jds (by simp [Go.Conc.base]) (u1.at d14) ht8 (Q:=fun e t w9=>e=.ret/\t[8]?=some (pt (n+1))/\t[9]?=some (pt (n+2))/\w9.heap[n+1]?=some (.cells #[v] 28)/\w9.heap[n+2]?=some (.cells #[.nilIface] 30)/\∀ b,b≠n+1->b≠n+2->w9.heap[b]?=w8.heap[b]?) (fun τ=>?_) (fun E1 t1 w1 w1' hs1 hB1 hW1 ht1 hq1=>by cases hq1.1) (fun Ez tz wz wz' todo hsz hBz hWz htz hqz=>?_)
  ·obtain ⟨va,vc,rfl⟩:=J7c hrow;refine wp_mono (J045 (w:=(w8.at d14).tp τ 0) (n8:=n+1) (n9:=n+2) (n10:=n4) rfl rfl rfl rfl x8 x9 v8 ⟨_,_,_,rfl⟩ (by omega)) fun e a w1 ⟨r1,r2,r3,r4,r5,r6,r7,r8⟩=>⟨.inr r1,fun i hi=>?_,r1,r4,r5,r6,r7,r8⟩;rw [Jng hi];exact r3
  obtain ⟨-,t8,t9',z8,z9,z⟩:=hqz;have lz:=Jy rfl hWz;have zD:=Jfn hWz (hsz _ EN) ((z N (by omega) (by omega)).trans xD);have z8':=lz _ _ (hsz _ E8) z8 trivial;have z9':=lz _ _ (hsz _ E9) z9 trivial;refine Reach.collected (C:=C0) (S:=S0) (B:=Go.Conc.base 9) rfl hBz (D:=N) (hsz _ EN) zD (by kernel_rfl) fun w10 u4 u5 u6=>?_;have q8:=(u6 _ (hsz _ E8) (by omega)).trans z8';have q9:=(u6 _ (hsz _ E9) (by omega)).trans z9';refine Reach.Jw1 (C:=C0) (S:=S0) (B:=Go.Conc.base 9) (a:=⟨tz,[]⟩) rfl u4 (fn:=Tryz.f9) (x:=8) (y:=9) (tx:=28) (ty:=30) (bx:=n+1) (by_:=n+2) (u:=v) (v:=.nilIface) rfl rfl (by kernel_rfl) (by kernel_rfl) (by kernel_rfl) (by simp [Ja5,t8]) (by simp [Ja5,t9']) (hsz _ E8) (hsz _ E9) (fun w1 hw1=>?_) fun w11 u7 u8 u9=>?_
  ·exact Jsy t8 t9' ((cell_of ((hw1 _ (.inl rfl)).trans q8) 0).trans rfl) ((cell_of ((hw1 _ (.inr rfl)).trans q9) 0).trans rfl)
  have neq:∀ b arr t,t≠28->t≠30->w7.heap[b]?=some (.cells arr t)->b≠N+1/\b≠N/\b≠n+1/\b≠n+2:=fun b arr t h1 h2 h3=>by
   refine ⟨fun e=>?_,fun e=>?_,fun e=>?_,fun e=>?_⟩
   ·rw [e,i8.lp] at h3;cases h3
   ·rw [e,i8.D] at h3;cases h3
   ·rw [e,y8] at h3;exact h1 (Obj.cells.inj (Ja0 h3)).2.1.symm
   ·rw [e,y9] at h3;exact h2 (Obj.cells.inj (Ja0 h3)).2.1.symm
  have kd:KD E7 w7 w11:=fun b arr t hb h1 h2 h3=>by obtain ⟨n1,n2,n3,n4'⟩:=neq b arr t h1 h2 h3;exact (u9 b (hsz b hb)).trans ((u6 b (hsz b hb) n2).trans (lz b _ (hsz b hb) ((z b n3 n4').trans ((u3 b hb n1).trans h3)) trivial))
  have vE7:VR C0 (idE E7) v v:=i2.wr.J56 E10 ((cell_of hv 0).trans rfl);refine kn W7 Ez w11 v T ks L ⟨fun b hb=>hsz b (i1 b (hE6 b hb)),u7,fun b o hb ho hd=>?_,i3.nodup,fun t ht=>⟨i3.keys t ht,i3.ok t ht⟩,i4,i5,?_,?_,?_⟩
  ·have hbn:b<n:=hn▸hB.lt hb;have e7:=i1 b (hE6 b hb);have s7:=i9 b o (hE6 b hb) (kE6 b o hb ho hd) (by omega) (by omega) (fun h=>absurd h (by omega)) hd;exact (u9 b (hsz b e7)).trans ((u6 b (hsz b e7) (by omega)).trans (lz b _ (hsz b e7) ((z b (by omega) (by omega)).trans ((u3 b e7 (by omega)).trans s7)) hd))
  ·rw [hn];exact (i6.mono i7).kd (fun p hp v hv=>i8.cellsE i2.wr E10 hp hv) kd
  ·rw [hn];exact Jyy hrow vE7 kd
  ·exact vE7.mono (J18 hsz)
end
end Go.Sim.Z
namespace Go.Sim
open Go Go.Conc
open Go.ConcN (sumTo upd)
theorem Jwa (said:Bool):¬ Race said #[]:=by rintro ⟨i,j,_,⟨a,b,ha,_⟩,_⟩;simp [Trace.act?] at ha
theorem Jt1 {P:Program} {W:Nat->Prop} (g:Goroutine) (w:World) (hW:∀ b,W b->b<w.heap.size):Cmp P W #[g] w #[] (fun _=>0) where
 lv:=⟨fun j x hj hx=>(by rw [Jb0 (by simp;omega)] at hx;cases hx),fun j hj=>rfl⟩
 past:=⟨Jwa,fun i a ha=>by simp [touchAt,Trace.act?] at ha,fun i g hg=>by simp [Trace.g?] at hg,rfl,fun op hop=>by simp at hop⟩
 quiet:=fun i op x hi=>by simp at hi
 low:=hW
 tidy:=fun op hop=>by simp at hop
def Jqg (P:Program) (Post:Value->World->Prop) (_:Nat->Prop) (g:Goroutine) (w:World):Prop:=
 g.status=.running/\∀ w1,AtRel w w1->∃ v,stepG P true g w1=.ended (.done v) w1 #[]/\Post v w1
theorem Jnh {P:Program}:∀ (N:Nat) {m m':Machine} {t t':Trace},runNT P N m t=(.next m',t')->runN P N m=.next m':=by intro N m m' t t' h;have:=congrArg Prod.fst h;rw [runNT_fst] at this;exact this
theorem Jgr {P:Program} {Post:Value->World->Prop} {W:Nat->Prop} {g:Goroutine} {w:World} (hW:∀ b,W b->b<w.heap.size) (h:Reach P (Jqg P Post) W g w) :
  ∃ M last o w' t',runNT P (M+1) (solo g w) #[]=(.ended o w',t')/\runN P M (solo g w)=.next last/\step P last=.ended o w'/\Go.Conc.Good P (fun v w'=>Post v w'/\(∀ b,W b->w'.heap[b]?=w.heap[b]?)/\w'.os=w.os/\w'.output=w.output) last o w' t':=by
 obtain ⟨N,gs',w',sl',t',q',W',W0',g',h1,h2,h3,⟨h4,h5⟩,hK,_,_⟩:=h #[g] none #[] (fun _=>0) (fun _=>False) (fun _ h=>h.elim) hW rfl (Jt1 g w fun _ h=>h.elim);have hG:Goes P true AtRel (fun _ _ _=>False) (AtEnd P (ShW W0') w'.heap.size (fun v w'=>Post v w'/\(∀ b,W b->w'.heap[b]?=w.heap[b]?)/\w'.os=w.os/\w'.output=w.output)) 0 g' w':=fun w1 hr=>by obtain ⟨v,h6,h7⟩:=h5 w1 hr;obtain ⟨d,rfl⟩:=hr;exact ⟨h4,v,#[],h6,fun e he=>by simp at he,h7,hK.keep,hK.os,hK.out⟩
 obtain ⟨N2,last,o,w2,t2,k1,k2,k3,k4⟩:=beside_ends (sl:=sl') (fun _ _ _ h=>h.elim) h2 h3.lv h3.past hG;refine ⟨N+N2,last,o,w2,t2,?_,?_,k3,k4⟩
 ·rw [solo_eq_crowd,Nat.add_assoc,runNT_add,h1];exact k1
 ·rw [solo_eq_crowd,runN_add,Jnh N h1];exact k2
end Go.Sim
namespace Go.Sim.Z
open Go Go.Proofs Go.RowKit Go.Conc Go.Maps
open Go.WideElems (Fit rd rg)
section
variable {C:Cx} {ok:FuncId->Code->Prop} {E:Nat->Prop} {w w':World}
theorem J2j.inE {vm src:Nat} (hW:WR C ok (idE E) w w') (h:J2j w vm src) (hv:E vm):E src:=by
 obtain ⟨n,es,clock,h2,h3,h4,h5⟩:=h;obtain ⟨o1,o',g1,g2,g3⟩:=hW.get (b:=vm) (b':=vm) ⟨rfl,hv⟩;rw [h2] at g1;cases g1;obtain ⟨es',rfl,hr⟩:=g3;have h5':=DataW.map.inj h5;have hm:((Lit.int .i64 7,.held (.map (some src))):Lit × DataW Value)∈es.toList.map (rg Tryz.prog 3 Rv):=(J1v _).mem_iff.1 (by rw [<- h5'];simp);obtain ⟨z,hz,e⟩:=Jb3.1 hm;obtain ⟨q,hq⟩:=h3.reads z hz;have e2:q=(Lit.int .i64 7,.held (.map (some src))):=by rw [<- e];simp [rg,hq]
 subst e2;unfold rd at hq;simp only [Jc6,Jc0] at hq;obtain ⟨l,hl,d,hd,e⟩:=hq;have e3:d.1=.held (.map (some src)):=congrArg Prod.snd e;simp only [Rv,Jb2] at hd;rw [<- hd] at e3;have e4:=DataW.held.inj e3;obtain ⟨i,hi⟩:=List.mem_iff_getElem?.1 hz;rw [Array.getElem?_toList] at hi;have hlt:i<es'.size:=by rw [<- hr.size];exact (Ja3.1 hi).1
 have hi':es'[i]?=some es'[i]:=Ja4 hlt;have hq:=(hr.at_ i z _ hi hi').val;have e5:=hq.eq fun _ _ h=>h.1;rw [<- e5,e4] at hq;exact hq.Jry
end
section
variable {E:Nat->Prop} {w w1 w':World} {x:Nat} {c:J8} {seed nf:Int} {h:Value} {vm src:Nat} {S:List TR}
theorem J2q.J3z (hW:WR C0 (okP C0 S0) (idE E) w1 w') (q:J08 w1 x c seed h nf vm src) (tab:TabAt false w1 c src S) (hok:HOk w1) (hH:E Tryz.prog.globals.size) (hx:E x)
  (hg:∀ y,y=src\/y∈tpl S->Tryz.prog.globals.size<=y) (hb:∀ a,c.ba=some a->Tryz.prog.globals.size<=a.block/\∃ arr t,Blk false w1 a.block arr t/\Plain arr) (cfg:Jw c) (n:S.length<=1000):J2q E w' x c seed h nf vm src S:=by
 have l:=Jy rfl hW;have hv:E vm:=(hW.J56 hx q.cells.2.2.2.2.2.2.2).Jry;have hs:E src:=q.vs.inE hW hv;have hba:∀ a,c.ba=some a->E a.block:=fun a ha=>by have h3:=q.cells.2.2.2.1;rw [ha] at h3;exact (hW.J56 hx h3).J1i
 have hT:=tab.places rfl hW hba hs;refine ⟨KE.cube q hx hv l,tab.ke l hT,hok.ke l hH,fun y hy=>⟨hT y hy,hg y hy⟩,fun a ha=>?_,⟨hx,hv⟩,cfg,n⟩;obtain ⟨h1,arr,t,h2,h3⟩:=hb a ha;exact ⟨hba a ha,h1,arr,t,l.blk (hba a ha) h2,h3⟩
end
end Go.Sim.Z
