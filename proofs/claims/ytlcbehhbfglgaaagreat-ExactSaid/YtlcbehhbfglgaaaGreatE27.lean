/- PROVED HERE: laws that the statement rests on (parts Vh, Vi, Vj). Conditions: none. -/
import Derived.Test.YtlcbehhbfglgaaaGreatE26
set_option linter.all false
namespace Go.Sim.Z
open Go Go.Proofs Go.Conc Go.ConcN Go.RowKit Go.Conc.Lib Go.ConcR.Gen Go.ConcN.Gen
open Go.ConcR (KK wgBlock WgAt stA smA rd wr mk Payload DC0)
structure RT (Wg C k p m c:Nat) (T0 T:Array Value):Prop where
 size:T.size=49
 c3:T[3]?=some (ptr c)
 m4:T[4]?=some (ptr m)
 p5:T[5]?=some (ptr p)
 k7:T[7]?=some (ptr k)
 C8:T[8]?=some (ptr C)
 w9:T[9]?=some (ptr Wg)
 low:∀ i,i<18∨24<i→i≠9→i≠10→T[i]?=T0[i]?
section
variable {Wg C k p m c:Nat} {T0 T:Array Value}
theorem RT.set (h:RT Wg C k p m c T0 T) {j:Nat} (hj:j=10∨18≤j∧j≤24) (v:Value):RT Wg C k p m c T0 (T.setIfInBounds j v):=by
 have ne:∀ i,i<10→(T.setIfInBounds j v)[i]?=T[i]?:=fun i hi=>Array.getElem?_setIfInBounds_ne (by omega)
 exact ⟨by simpa using h.size,(ne 3 (by omega)).trans h.c3,(ne 4 (by omega)).trans h.m4,(ne 5 (by omega)).trans h.p5,(ne 7 (by omega)).trans h.k7,(ne 8 (by omega)).trans h.C8,(ne 9 (by omega)).trans h.w9,fun i h1 h2 h3=>(Array.getElem?_setIfInBounds_ne (by omega)).trans (h.low i h1 h2 h3)⟩
end
theorem stepG_pure {P:Program} {main:Bool} {b:Frame} {a:Act} {kk:List Item} {cs:List Frame} {w:World} {ops:Array Oper} {i:Nat} {rest:List Nat} {o:Oper} {v:Value} (ho:ops[i]?=some o) (hw:Region.wanted o (yielded ops a.tmps)=true) (hk:b.kind≠.early)
  (hr:(execOp a.eval o).run P w=.ok (.value v) w) (he:(execOp a.eval o).events P w #[]=#[]) :
  stepG P main (G (b.at a (.inRegion ops (i::rest)::kk)) cs) w=.go (G (b.at (a.put o.dst v) (.inRegion ops rest::kk)) cs) w #[]:=by
 rw [stepG_value ho hw hk hr]
 unfold listed
 rw [he,seen_none]
theorem gidle {P:Program} {R:World→World→Prop} {Stop:Goroutine→World→Prop} {n:Nat} {g g':Goroutine} {w:World} (hr:g.status=.running) (hs:∀ w1,stepG P true g w1=.go g' w1 #[])
  (hk:∀ w1,R w w1→Goes P true R DC0 Stop n g' w1):Goes P true R DC0 Stop (n+1) g w:=
 Goes.step hr fun w1 r1=>by rw [hs w1];exact ⟨⟨rfl,rfl⟩,hk w1 r1⟩
def QW (F:Nat→Prop) (R:Nat→(Nat→Prop)→Option Nat→World→Prop) (B:Nat) (i:Nat) (own X:Nat→Prop) (v:Value) (w:World):Prop:=
 ∃ (Sh:Nat→Prop) (E2:BRel) (w2:World) (r r':Option Nat),v=.map r'∧(∀ b,F b→Sh b)∧(∀ b,Sh b→F b∨B<b)∧Sub (idE Sh) E2∧Link (C1 Sh) S1 E2 own X w2 w∧VR (C1 Sh) E2 (.map r) (.map r')∧R i Sh r w2
theorem QW.rely {F:Nat→Prop} {R:Nat→(Nat→Prop)→Option Nat→World→Prop} {B i:Nat} {own X:Nat→Prop} {v:Value} {w w':World} (h:QW F R B i own X v w) (r:Rely true X w w'):QW F R B i own X v w':=by
 obtain ⟨Sh,E2,w2,r1,r2,h1,h2,h2',h3,h4,h5,h6⟩:=h
 exact ⟨Sh,E2,w2,r1,r2,h1,h2,h2',h3,h4.rely r,h5,h6⟩
def WaitAt (Wg C k p m c:Nat) (T0:Array Value) (kk:List Item) (T:Array Value) (f:Frame):Prop:=RT Wg C k p m c T0 T∧f=(base 40).at ⟨T,[]⟩ (.inRegion q10 [0]::.code tl40::kk)
noncomputable def HR (AJ:Frame→Goroutine→World→Prop) (W E F:Nat→Prop) (R:Nat→(Nat→Prop)→Option Nat→World→Prop) (Wg C k p m c:Nat) (T0:Array Value) (mm:Nat) (w0:World) (t0:Trace) (q0:Nat→Nat) (kk:List Item) (cs:List Frame):Ph where
 P:=Tryz.prog
 ty:=146
 Wg:=Wg
 C:=C
 n:=4
 m:=mm
 W:=W
 Sh0:=fun b=>E b∧b≠C
 w0:=w0
 t0:=t0
 q0:=q0
 tI:=3
 Q:=QW F R Wg
 Fin:=fun g _=>∃ T,RT Wg C k p m c T0 T∧g=G ((base 40).at ⟨T,[]⟩ (.inRegion q10 []::.code tl40::kk)) cs
 Anch:=fun g w=>∃ T f,WaitAt Wg C k p m c T0 kk T f∧AJ f g w
structure WgScripts (Wg:Nat) (cs:List Frame) (AJ:Frame→Goroutine→World→Prop):Prop where
 add:∀ (Next:Goroutine→World→Prop) (mT:Nat) (a₀:Act) (k₀:List Item) (w:World),WgLive 146 Wg w →
  (∀ w,WgLive 146 Wg w→Goes Tryz.prog true (RM 146 Wg) DC0 Next mT (G ((base 40).at (a₀.put (some 21) (.tuple #[])) (.inRegion q7 []::k₀)) cs) w) →
  Goes Tryz.prog true (RM 146 Wg) DC0 (JKdS Tryz.prog 146 Wg Next) 12 (G ((base 62).at ⟨#[ptr Wg,.int .i64 1]++Array.replicate (Tryz.f62.ntmps-2) undef,[]⟩ [.code (body_add link)]) ((base 40).at a₀ (.inRegion q7 [0]::k₀)::cs)) w
 start:∀ (f:Frame) (w:World),WgLive 146 Wg w→(∃ a₀ k₀,f=(base 40).at a₀ (.inRegion q10 [0]::k₀)) →
  Goes Tryz.prog true (RM 146 Wg) DC0 (JKd Tryz.prog 146 Wg (AJ f)) 3 (G ((base 66).at ⟨#[ptr Wg]++Array.replicate (Tryz.f66.ntmps-1) undef,[]⟩ [.code (body_wait link)]) (f::cs)) w
theorem goesMono {P:Program} {main:Bool} {R:World→World→Prop} {D:World→World→Array Event→Prop} {Stop Stop':Goroutine→World→Prop} (h:∀ g w,Stop g w→Stop' g w) :
  ∀ {n:Nat} {g:Goroutine} {w:World},Goes P main R D Stop n g w→Goes P main R D Stop' n g w
 | 0,_,_,hg=>fun w1 r=>h _ _ (hg w1 r)
 | n+1,g,w,hg=>by
  rcases hg with hs|⟨hr,hs⟩
  ·exact .inl fun w1 r=>h _ _ (hs w1 r)
  refine .inr ⟨hr,fun w1 r=>?_⟩
  have:=hs w1 r
  generalize stepG P main g w1=s at this ⊢
  cases s<;>first|exact ⟨this.1,goesMono h this.2⟩|exact this.elim
theorem JKd.mono {P:Program} {ty:TypeId} {Wg:Nat} {A B:Goroutine→World→Prop} (h:∀ g w,A g w→B g w) {g:Goroutine} {w:World} (x:JKd P ty Wg A g w):JKd P ty Wg B g w:=by
 obtain ⟨h1,g',h2,n,h3⟩:=x
 exact ⟨h1,g',h2,n,goesMono h h3⟩
theorem body66:Tryz.f66.body=some (body_wait link):=by kernel_rfl
theorem nm66:(Tryz.f66.name == "runtime.NumGoroutine")=false:=by kernel_rfl
theorem nm62:(Tryz.f62.name == "runtime.NumGoroutine")=false:=by kernel_rfl
theorem body62:Tryz.f62.body=some (body_add link):=by kernel_rfl
section
variable {AJ:Frame→Goroutine→World→Prop} {W E F:Nat→Prop} {R:Nat→(Nat→Prop)→Option Nat→World→Prop} {Wg C k p m c mm:Nat} {T0:Array Value} {w0:World} {t0:Trace} {q0:Nat→Nat} {kk:List Item} {cs:List Frame}
theorem getD_of {T:Array Value} {i:Nat} {v:Value} (h:T[i]?=some v):T.getD i undef=v:=by rw [Array.getD_eq_getD_getElem?,h];rfl
set_option maxRecDepth 100000 in
set_option maxHeartbeats 1000000 in
theorem loop0 (S:WgScripts Wg cs AJ):∃ n,∀ T w,RT Wg C k p m c T0 T→T[18]?=some (.int .i64 4)→WgLive 146 Wg w →
  Goes Tryz.prog true (RM 146 Wg) DC0 (JKd Tryz.prog 146 Wg (HR AJ W E F R Wg C k p m c T0 mm w0 t0 q0 kk cs).Anch) n
   (G ((base 40).at ⟨T,[]⟩ (.code LL::.inLoop LL::.inBlock 0::.code (.seq (.region 10 q10 false) tl40)::kk)) cs) w:=by
 refine ⟨3+10,fun T w hT h18 hW=>?_⟩
 refine gidle rfl (fun w1=>stepG_seq) fun w1 r1=>?_
 replace hW:=r1 hW
 refine gidle rfl (fun w1=>stepG_region) fun w1 r1=>?_
 replace hW:=r1 hW
 refine gidle (g':=G ((base 40).at ⟨T.setIfInBounds 19 (.bool false),[]⟩ (.inRegion q5 []::.code (.seq (.cond (.tmp 19) .skip (.exit 0)) (.seq (.block 1 (.seq (.region 6 q6 false) (.seq (.region 7 q7 false) (.region 8 q8 false)))) (.region 9 q9 false)))::.inLoop LL::.inBlock 0::.code (.seq (.region 10 q10 false) tl40)::kk)) cs) rfl (fun w1=>?_) fun w1 r1=>?_
 ·rw [show List.range q5.size=[0] from rfl]
  exact stepG_pure (o:=q5[0]) (v:=.bool false) rfl rfl (by simp [base]) (by simp [execOp,q5,Act.eval,go_sem,h18]) (by simp [execOp,q5,Act.eval,go_sem,h18])
 replace hW:=r1 hW
 refine gidle rfl (fun w1=>stepG_region_end) fun w1 r1=>?_
 replace hW:=r1 hW
 refine gidle rfl (fun w1=>stepG_seq) fun w1 r1=>?_
 replace hW:=r1 hW
 have hsz:=hT.size
 refine gidle rfl (fun w1=>stepG_cond (t:=false) (by simp [Act.eval,hsz])) fun w1 r1=>?_
 replace hW:=r1 hW
 simp only [Bool.false_eq_true,if_false]
 refine gidle rfl (fun w1=>stepG_exit rfl) fun w1 r1=>?_
 replace hW:=r1 hW
 refine gidle rfl (fun w1=>stepG_seq) fun w1 r1=>?_
 replace hW:=r1 hW
 refine gidle rfl (fun w1=>stepG_region) fun w1 r1=>?_
 replace hW:=r1 hW
 have hT2:RT Wg C k p m c T0 (T.setIfInBounds 19 (.bool false)):=hT.set (.inr (by omega)) _
 generalize T.setIfInBounds 19 (.bool false)=T2 at hT2 ⊢
 have e9:=getD_of hT2.w9
 refine Goes.step rfl fun w1 r1=>?_
 replace hW:=r1 hW
 rw [show List.range q10.size=[0] from rfl]
 have h1:q10[0]?=some q10[0]:=rfl
 have h2:Region.wanted q10[0] (yielded q10 T2)=true:=rfl
 have h3:q10[0].op=.call { callee:=.value (.func 66),args:=#[.tmp 9],argTypes:=#[146] }:=rfl
 have h4:(base 40).kind≠.early:=by simp [base]
 have hcl:=fun K=>@goes_call Tryz.prog true (base 40) ⟨T2,[]⟩ (.code tl40::kk) cs w1 q10 0 [] q10[0] K 66 Tryz.f66 (body_wait link) #[.tmp 9] #[146] h1 h2 h4 h3 Tryz.func66 nm66 body66
 refine hcl _ ?_
 refine ⟨⟨rfl,rfl⟩,?_⟩
 have hf:=S.start ((base 40).at ⟨T2,[]⟩ (.inRegion q10 [0]::.code tl40::kk)) w1 hW ⟨_,_,rfl⟩
 refine goesMono (fun g w h=>JKd.mono (fun g w h=>⟨T2,_,⟨hT2,rfl⟩,h⟩) h) ?_
 have ea:(#[.tmp 9]:Array Operand).map (Act.eval ⟨T2,[]⟩)=#[ptr Wg]:=by simp [Act.eval,e9]
 rw [ea,show (#[ptr Wg]:Array Value).size=1 from rfl]
 exact hf
end
def StopJ (H:Ph):Nat→Goroutine→World→Prop
 | 0=>JKd H.P H.ty H.Wg H.Anch
 | r+1=>JAl H (H.n-(r+1)) (JSp H r)
theorem jsp_of {H:Ph} {r n:Nat} {g:Goroutine} {w:World} (h:Goes H.P true (RM H.ty H.Wg) DC0 (StopJ H r) n g w):JSp H r g w:=by
 cases r<;>exact ⟨n,h⟩
theorem loud40:(Tryz.prog.funcs[(base 40).fn]?).any (·.norace)=false:=by kernel_rfl
section
variable {main:Bool} {b:Frame} {a:Act} {kk:List Item} {cs:List Frame} {w:World} {ops:Array Oper} {i:Nat} {rest:List Nat} {o:Oper}
theorem stepG_alloc3 (ho:ops[i]?=some o) (hw:Region.wanted o (yielded ops a.tmps)=true) (hk:b.kind≠.early) (hop:o.op=.alloc 3) :
  stepG Tryz.prog main (G (b.at a (.inRegion ops (i::rest)::kk)) cs) w=.go (G (b.at (a.put o.dst (ptr w.heap.size)) (.inRegion ops rest::kk)) cs) { w with heap:=w.heap.push (.cells #[.int .i64 0] 3) } #[]:=by
 have hr:(execOp a.eval o).run Tryz.prog w=.ok (.value (ptr w.heap.size)) { w with heap:=w.heap.push (.cells #[.int .i64 0] 3) }:=by
  unfold execOp
  simp only [hop]
  simp [go_sem,ptr]
 have he:(execOp a.eval o).events Tryz.prog w #[]=#[]:=by
  unfold execOp
  simp only [hop]
  simp [go_sem]
 rw [stepG_value ho hw hk hr]
 unfold listed
 rw [he,seen_none]
theorem stepG_storeI {x y:Operand} (ho:ops[i]?=some o) (hw:Region.wanted o (yielded ops a.tmps)=true) (hk:b.kind≠.early) (hop:o.op=.store 3 x y)
  {ad:Addr} {v:Int} {u:Value} (hx:a.eval x=.pointer (some ad)) (hy:a.eval y=.int .i64 v) (hc:w.cell? ad=some u) (hz:w.frozen? ad=false) (hq:(Tryz.prog.funcs[b.fn]?).any (·.norace)=false) :
  stepG Tryz.prog main (G (b.at a (.inRegion ops (i::rest)::kk)) cs) w=.go (G (b.at (a.put o.dst undef) (.inRegion ops rest::kk)) cs) (w.setCell ad (.int .i64 v)) #[⟨.cell ad,true,false⟩]:=by
 have hr:(execOp a.eval o).run Tryz.prog w=.ok .skip (w.setCell ad (.int .i64 v)):=by
  unfold execOp
  simp only [hop,hx,hy]
  simp [go_sem,stored,hc,hz]
 have he:(execOp a.eval o).events Tryz.prog w #[]=#[⟨.cell ad,true,false⟩]:=by
  unfold execOp
  simp only [hop,hx,hy]
  simp [go_sem,storedEv,hc,hz]
 rw [stepG_none ho hw hk hr]
 unfold listed
 rw [he,seen_eq hq (by simp)]
end
structure WorkOk (F:Nat→Prop) (w0:World) (k p m c:Nat) (R:Nat→(Nat→Prop)→Option Nat→World→Prop):Prop where
 sh:∀ b,F b→Tryz.prog.globals.size≤b∧∃ o,w0.heap[b]?=some o∧∀ X Sh:Nat→Prop,(∀ b,F b→X b)→ShObj (C1 Sh) (idE X) o
 hnd:F Tryz.prog.globals.size
 kF:F k
 pF:F p
 mF:F m
 cF:F c
 run:∀ (i s Wg C:Nat) (w:World),i<4→¬ F s→(∀ b,F b→w.heap[b]?=w0.heap[b]?)→w.heap[s]?=some (.cells #[.int .i64 i] 3)→∃ A:Array Value→World→Prop,
  (∀ τ,c1.wp Tryz.prog (fun e a w1=>e=.normal∧A a.tmps w1) ⟨T63 Wg s k p m c C,[stuckD]⟩ ((frz (fun b=>F b∨b=s) w).tp τ 0)) ∧
  ∀ t1 w1,A t1 w1→∀ τ,cM.wp Tryz.prog (fun e a w2=>e=.normal∧a.tmps.size=40∧a.tmps[1]?=some (ptr s)∧w2.cell? ⟨s,0,none⟩=some (.int .i64 i)∧∃ r,a.tmps[7]?=some (.map r)∧R i (fun b=>F b∨b=s) r w2) ⟨t1,[stuckD]⟩ (w1.tp τ 0)
section
variable {AJ:Frame→Goroutine→World→Prop} {W E F:Nat→Prop} {R:Nat→(Nat→Prop)→Option Nat→World→Prop} {Wg C k p m c mm:Nat} {T0:Array Value} {w0:World} {t0:Trace} {q0:Nat→Nat} {kk:List Item} {cs:List Frame}
noncomputable def K0 (kk:List Item):List Item:=.inLoop LL::.inBlock 0::.code (.seq (.region 10 q10 false) tl40)::kk
noncomputable def K1' (kk:List Item):List Item:=.inBlock 1::.code (.region 9 q9 false)::K0 kk
set_option maxHeartbeats 1000000 in
theorem goJ (hne:C≠Wg) (hFE:∀ b,F b→E b∧b≠C) (hFl:∀ b,F b→b<Wg) (KW:WorkOk F w0 k p m c R) {i s:Nat} (hi:i<4) (hs:Wg<s) {T:Array Value} (hT:RT Wg C k p m c T0 T) (h10:T[10]?=some (ptr s))
  {Next:Goroutine→World→Prop} (w:World) (hN:Next (G ((base 40).at ⟨T.setIfInBounds 22 (.func (.func 63) #[] (caps63 Wg s k p m c C)),[]⟩ (.inRegion q8 []::K1' kk)) cs) w) :
  JGo (HR AJ W E F R Wg C k p m c T0 mm w0 t0 q0 kk cs) i s Next (G ((base 40).at ⟨T.setIfInBounds 22 (.func (.func 63) #[] (caps63 Wg s k p m c C)),[]⟩ (.inRegion q8 [1]::K1' kk)) cs) w:=by
 refine ⟨rfl,fun hk hcell _=>?_⟩
 have hFs:¬ F s:=fun h=>by have:=hFl s h;omega
 have hw0:∀ b,F b→w.heap[b]?=w0.heap[b]?:=fun b hb=>hk b (hFE b hb)
 have hgs:Tryz.prog.globals.size≤s:=by have:=hFl _ KW.hnd;omega
 have hsh:ShOk (C1 fun b=>F b∨b=s) (fun b=>F b∨b=s) w:=by
  refine ⟨.inl KW.hnd,fun b hb=>?_⟩
  by_cases hbs:b=s
  ·subst hbs
   refine ⟨hgs,_,hcell,rfl,AR.one (.int _ _)⟩
  ·obtain ⟨h1,o,h2,h3⟩:=KW.sh b (hb.resolve_right hbs)
   exact ⟨h1,o,(hw0 b (hb.resolve_right hbs)).trans h2,h3 _ _ fun b hb=>.inl hb⟩
 obtain ⟨A,hA1,hA2⟩:=KW.run i s Wg C w hi hFs hw0 hcell
 have hc:w.cell? ⟨s,0,none⟩=some (.int .i64 i):=by simp [World.cell?,hcell]
 have hw:=worker (H:=(HR AJ W E F R Wg C k p m c T0 mm w0 t0 q0 kk cs)) (Sh:=fun b=>F b∨b=s) (X0:=fun b=>(E b∧b≠C)∨b=s) (i:=i) (s:=s) (keys:=k) (passes:=p) (mask:=m) (c:=c) (w:=w) (A:=A) (R:=R i fun b=>F b∨b=s) rfl rfl rfl hne (fun b hb=>hb.imp (hFE b) id) hi hsh (.inr rfl) (.inl KW.kF) (.inl KW.pF) (.inl KW.mF) (.inl KW.cF) hA1 hA2
  (fun E2 own X w2 w' r r' h1 h2 h3 h4=>⟨_,E2,w2,r,r',rfl,fun b hb=>.inl hb,fun b hb=>hb.elim (fun h=>.inl h) (fun e=>.inr (by rw [e];exact hs)),h1,h2,h3,h4⟩)
 have hsz:=hT.size
 have hst:stepG Tryz.prog true (G ((base 40).at ⟨T.setIfInBounds 22 (.func (.func 63) #[] (caps63 Wg s k p m c C)),[]⟩ (.inRegion q8 [1]::K1' kk)) cs) w =
   .spawn (G ((base 40).at ⟨T.setIfInBounds 22 (.func (.func 63) #[] (caps63 Wg s k p m c C)),[]⟩ (.inRegion q8 []::K1' kk)) cs) (born Tryz.prog (call63 Wg s k p m c C)) w #[]:=by
  have hr:(execOp (Act.eval ⟨T.setIfInBounds 22 (.func (.func 63) #[] (caps63 Wg s k p m c C)),[]⟩) q8[1]).run Tryz.prog w=.ok (.spawn (call63 Wg s k p m c C)) w:=by
   simp [execOp,q8,Act.eval,hsz,go_sem,call63]
  have he:listed Tryz.prog (base 40).fn ⟨T.setIfInBounds 22 (.func (.func 63) #[] (caps63 Wg s k p m c C)),[]⟩ q8[1] w=#[]:=by
   unfold listed
   rw [show (execOp (Act.eval ⟨T.setIfInBounds 22 (.func (.func 63) #[] (caps63 Wg s k p m c C)),[]⟩) q8[1]).events Tryz.prog w #[]=#[] from by
    simp [execOp,q8,Act.eval,hsz,go_sem],seen_none]
  rw [stepG_spawn (o:=q8[1]) rfl rfl (by simp [base]) hr rfl,he]
  rfl
 exact ⟨_,_,hst,rfl,rfl,hw,rfl,hN⟩
set_option maxRecDepth 100000 in
set_option maxHeartbeats 2000000 in
theorem loopJ (S:WgScripts Wg cs AJ) (hne:C≠Wg) (hFE:∀ b,F b→E b∧b≠C) (hFl:∀ b,F b→b<Wg) (KW:WorkOk F w0 k p m c R) :
  ∀ r,r≤4→∃ n,∀ T w,RT Wg C k p m c T0 T→T[18]?=some (.int .i64 ((4-r:Nat):Int))→WgLive 146 Wg w→(Goes Tryz.prog true (RM 146 Wg) DC0) (StopJ (HR AJ W E F R Wg C k p m c T0 mm w0 t0 q0 kk cs) r) n (G ((base 40).at ⟨T,[]⟩ (.code LL::K0 kk)) cs) w:=by
 intro r
 induction r with
 | zero=>exact fun _=>loop0 S
 | succ r ih=>
  intro hr
  obtain ⟨n,hn⟩:=ih (by omega)
  refine ⟨0+12,fun T w hT h18 hW=>?_⟩
  have hi:4-(r+1)<4:=by omega
  have hnext:4-(r+1)+1=4-r:=by omega
  generalize hie:4-(r+1)=i at *
  refine gidle rfl (fun w1=>stepG_seq) fun w1 r1=>?_
  replace hW:=r1 hW
  refine gidle rfl (fun w1=>stepG_region) fun w1 r1=>?_
  replace hW:=r1 hW
  have hlt:(i:Int)<4:=by omega
  refine gidle (g':=G ((base 40).at ⟨T.setIfInBounds 19 (.bool true),[]⟩ (.inRegion q5 []::.code (.seq (.cond (.tmp 19) .skip (.exit 0)) (.seq (.block 1 (.seq (.region 6 q6 false) (.seq (.region 7 q7 false) (.region 8 q8 false)))) (.region 9 q9 false)))::K0 kk)) cs) rfl (fun w1=>?_) fun w1 r1=>?_
  ·rw [show List.range q5.size=[0] from rfl]
   exact stepG_pure (o:=q5[0]) (v:=.bool true) rfl rfl (by simp [base]) (by simp [execOp,q5,Act.eval,go_sem,h18,hlt]) (by simp [execOp,q5,Act.eval,go_sem,h18])
  replace hW:=r1 hW
  refine gidle rfl (fun w1=>stepG_region_end) fun w1 r1=>?_
  replace hW:=r1 hW
  refine gidle rfl (fun w1=>stepG_seq) fun w1 r1=>?_
  replace hW:=r1 hW
  have hsz:=hT.size
  refine gidle rfl (fun w1=>stepG_cond (t:=true) (by simp [Act.eval,hsz])) fun w1 r1=>?_
  replace hW:=r1 hW
  simp only [if_true]
  refine gidle rfl (fun w1=>stepG_skip) fun w1 r1=>?_
  replace hW:=r1 hW
  refine gidle rfl (fun w1=>stepG_seq) fun w1 r1=>?_
  replace hW:=r1 hW
  refine gidle rfl (fun w1=>stepG_block) fun w1 r1=>?_
  replace hW:=r1 hW
  refine gidle rfl (fun w1=>stepG_seq) fun w1 r1=>?_
  replace hW:=r1 hW
  refine gidle rfl (fun w1=>stepG_region) fun w1 r1=>?_
  replace hW:=r1 hW
  rw [show List.range q6.size=[0,1,2] from rfl]
  have hT2:RT Wg C k p m c T0 (T.setIfInBounds 19 (.bool true)):=hT.set (.inr (by omega)) _
  have h18':(T.setIfInBounds 19 (.bool true))[18]?=some (.int .i64 i):=by simpa using h18
  generalize T.setIfInBounds 19 (.bool true)=T2 at hT2 h18' ⊢
  clear hT h18 hsz
  have hsz:=hT2.size
  refine gidle (g':=G ((base 40).at ⟨T2.setIfInBounds 20 (.int .i64 i),[]⟩ (.inRegion q6 [1,2]::.code (.seq (.region 7 q7 false) (.region 8 q8 false))::K1' kk)) cs) rfl (fun w1=>?_) fun w1 r1=>?_
  ·exact stepG_pure (o:=q6[0]) (v:=.int .i64 i) rfl rfl (by simp [base]) (by simp [execOp,q6,Act.eval,go_sem,h18']) (by simp [execOp,q6,Act.eval,go_sem])
  replace hW:=r1 hW
  have hT3:RT Wg C k p m c T0 (T2.setIfInBounds 20 (.int .i64 i)):=hT2.set (.inr (by omega)) _
  have g18:(T2.setIfInBounds 20 (.int .i64 i))[18]?=some (.int .i64 i):=by simpa using h18'
  have g20:(T2.setIfInBounds 20 (.int .i64 i))[20]?=some (.int .i64 i):=by simp [hsz]
  generalize T2.setIfInBounds 20 (.int .i64 i)=T3 at hT3 g18 g20 ⊢
  clear hT2 h18' hsz T2
  refine Goes.stop fun w2 r2=>?_
  replace hW:=r2 hW
  have hWs:Wg<w2.heap.size:=by
   obtain ⟨st,sm,h⟩:=hW
   exact (Array.getElem?_eq_some_iff.1 h).1
  have hsz:=hT3.size
  show JAl (HR AJ W E F R Wg C k p m c T0 mm w0 t0 q0 kk cs) (4-(r+1)) (JSp (HR AJ W E F R Wg C k p m c T0 mm w0 t0 q0 kk cs) r) _ w2
  rw [hie]
  refine ⟨rfl,_,stepG_alloc3 (o:=q6[1]) rfl rfl (by simp [base]) rfl,0,Goes.stop fun w3 r3=>?_⟩
  have hTs:RT Wg C k p m c T0 (T3.setIfInBounds 10 (ptr w2.heap.size)):=hT3.set (.inl rfl) _
  have f10:(T3.setIfInBounds 10 (ptr w2.heap.size))[10]?=some (ptr w2.heap.size):=by simp [hsz]
  have f18:(T3.setIfInBounds 10 (ptr w2.heap.size))[18]?=some (.int .i64 i):=by simpa using g18
  have f20:(T3.setIfInBounds 10 (ptr w2.heap.size))[20]?=some (.int .i64 i):=by simpa using g20
  replace hW:WgLive 146 Wg w3:=r3 (by
   obtain ⟨st,sm,h⟩:=hW
   refine ⟨st,sm,?_⟩
   show (w2.heap.push _)[Wg]?=_
   unfold WgAt at h
   rw [Array.getElem?_eq_getElem hWs] at h
   rw [Array.getElem?_push_lt hWs]
   exact h)
  clear r3
  show JSt (HR AJ W E F R Wg C k p m c T0 mm w0 t0 q0 kk cs) i w2.heap.size (JSp (HR AJ W E F R Wg C k p m c T0 mm w0 t0 q0 kk cs) r) (G ((base 40).at ⟨T3.setIfInBounds 10 (ptr w2.heap.size),[]⟩ (.inRegion q6 [2]::.code (.seq (.region 7 q7 false) (.region 8 q8 false))::K1' kk)) cs) w3
  generalize w2.heap.size=s at *
  generalize T3.setIfInBounds 10 (ptr s)=T4 at hTs f10 f18 f20 ⊢
  clear hT3 g18 g20 hsz T3
  refine ⟨rfl,fun hcell=>?_⟩
  have hc:w3.cell? ⟨s,0,none⟩=some (.int .i64 0):=by simp [World.cell?,hcell,HR]
  have hz:w3.frozen? ⟨s,0,none⟩=false:=by simp [World.frozen?,hcell,HR]
  refine ⟨_,stepG_storeI (ad:=⟨s,0,none⟩) (v:=i) (o:=q6[2]) (x:=.tmp 10) (y:=.tmp 20) rfl rfl (by simp [base]) rfl (by simp [Act.eval,f10,ptr]) (by simp [Act.eval,f20]) hc hz loud40,?_⟩
  refine ⟨12+4,?_⟩
  show Goes Tryz.prog true (RM 146 Wg) DC0 (JKdS Tryz.prog 146 Wg (JGo (HR AJ W E F R Wg C k p m c T0 mm w0 t0 q0 kk cs) i s (JSp (HR AJ W E F R Wg C k p m c T0 mm w0 t0 q0 kk cs) r))) (12+4) (G ((base 40).at ⟨T4,[]⟩ (.inRegion q6 []::.code (.seq (.region 7 q7 false) (.region 8 q8 false))::K1' kk)) cs) _
  replace hW:WgLive 146 Wg (w3.setCell ⟨s,0,none⟩ (.int .i64 i)):=by
   obtain ⟨st,sm,h⟩:=hW
   exact ⟨st,sm,h.of_block ((aside_setCell _ ⟨s,0,none⟩ (.int .i64 i)).block Wg (by show Wg≠s;omega))⟩
  generalize w3.setCell ⟨s,0,none⟩ (.int .i64 i)=w4 at hW ⊢
  clear hcell hc hz w3
  refine gidle rfl (fun w1=>stepG_region_end) fun w1 r1=>?_
  replace hW:=r1 hW
  refine gidle rfl (fun w1=>stepG_seq) fun w1 r1=>?_
  replace hW:=r1 hW
  refine gidle rfl (fun w1=>stepG_region) fun w1 r1=>?_
  replace hW:=r1 hW
  refine Goes.step rfl fun w1 r1=>?_
  replace hW:=r1 hW
  rw [show List.range q7.size=[0] from rfl]
  have h1:q7[0]?=some q7[0]:=rfl
  have h2:Region.wanted q7[0] (yielded q7 T4)=true:=rfl
  have h3:q7[0].op=.call { callee:=.value (.func 62),args:=#[.tmp 9,.const (.int .i64 1)],argTypes:=#[146,3] }:=rfl
  have h4:(base 40).kind≠.early:=by simp [base]
  refine goes_call h1 h2 h4 h3 Tryz.func62 nm62 body62 ?_
  refine ⟨⟨rfl,rfl⟩,?_⟩
  have e9:=getD_of hTs.w9
  have ea:(#[.tmp 9,.const (.int .i64 1)]:Array Operand).map (Act.eval ⟨T4,[]⟩)=#[ptr Wg,.int .i64 1]:=by simp [Act.eval,e9]
  rw [ea,show (#[ptr Wg,.int .i64 1]:Array Value).size=2 from rfl]
  refine S.add (JGo (HR AJ W E F R Wg C k p m c T0 mm w0 t0 q0 kk cs) i s (JSp (HR AJ W E F R Wg C k p m c T0 mm w0 t0 q0 kk cs) r)) 3 ⟨T4,[]⟩ (.code (.region 8 q8 false)::K1' kk) w1 hW fun w5 hW=>?_
  have hsz:=hTs.size
  show Goes Tryz.prog true (RM 146 Wg) DC0 (JGo (HR AJ W E F R Wg C k p m c T0 mm w0 t0 q0 kk cs) i s (JSp (HR AJ W E F R Wg C k p m c T0 mm w0 t0 q0 kk cs) r)) 3 (G ((base 40).at ⟨T4.setIfInBounds 21 (.tuple #[]),[]⟩ (.inRegion q7 []::.code (.region 8 q8 false)::K1' kk)) cs) w5
  have hT5:RT Wg C k p m c T0 (T4.setIfInBounds 21 (.tuple #[])):=hTs.set (.inr (by omega)) _
  have z10:(T4.setIfInBounds 21 (.tuple #[]))[10]?=some (ptr s):=by simpa using f10
  have z18:(T4.setIfInBounds 21 (.tuple #[]))[18]?=some (.int .i64 i):=by simpa using f18
  generalize T4.setIfInBounds 21 (.tuple #[])=T5 at hT5 z10 z18 ⊢
  refine gidle rfl (fun w1=>stepG_region_end) fun w1 r1=>?_
  replace hW:=r1 hW
  refine gidle rfl (fun w1=>stepG_region) fun w1 r1=>?_
  replace hW:=r1 hW
  rw [show List.range q8.size=[0,1] from rfl]
  have hsz5:=hT5.size
  refine gidle (g':=G ((base 40).at ⟨T5.setIfInBounds 22 (.func (.func 63) #[] (caps63 Wg s k p m c C)),[]⟩ (.inRegion q8 [1]::K1' kk)) cs) rfl (fun w1=>?_) fun w1 r1=>?_
  ·exact stepG_pure (o:=q8[0]) (v:=.func (.func 63) #[] (caps63 Wg s k p m c C)) rfl rfl (by simp [base]) (by simp [execOp,q8,Act.eval,go_sem,caps63,hT5.w9,hT5.k7,hT5.p5,hT5.m4,hT5.c3,hT5.C8,z10];try rfl) (by simp [execOp,q8,Act.eval,go_sem];try rfl)
  replace hW:=r1 hW
  refine Goes.stop fun w6 r6=>?_
  replace hW:=r6 hW
  refine goJ hne hFE hFl KW hi (by omega) hT5 z10 w6 ?_
  have hT6:RT Wg C k p m c T0 (T5.setIfInBounds 22 (.func (.func 63) #[] (caps63 Wg s k p m c C))):=hT5.set (.inr (by omega)) _
  have y18:(T5.setIfInBounds 22 (.func (.func 63) #[] (caps63 Wg s k p m c C)))[18]?=some (.int .i64 i):=by simpa using z18
  generalize T5.setIfInBounds 22 (.func (.func 63) #[] (caps63 Wg s k p m c C))=T6 at hT6 y18 ⊢
  have hsz6:=hT6.size
  refine jsp_of (n:=n+7) ?_
  refine gidle rfl (fun w1=>stepG_region_end) fun w1 r1=>?_
  replace hW:=r1 hW
  refine gidle rfl (fun w1=>stepG_inBlock) fun w1 r1=>?_
  replace hW:=r1 hW
  refine gidle rfl (fun w1=>stepG_region) fun w1 r1=>?_
  replace hW:=r1 hW
  rw [show List.range q9.size=[0,1] from rfl]
  have hi64:IntKind.i64.wrap ((i:Int)+1)=((i+1:Nat):Int):=by rw [IntKind.wrap_i64];omega
  refine gidle (g':=G ((base 40).at ⟨T6.setIfInBounds 23 (.int .i64 ((i+1:Nat):Int)),[]⟩ (.inRegion q9 [1]::K0 kk)) cs) rfl (fun w1=>?_) fun w1 r1=>?_
  ·exact stepG_pure (o:=q9[0]) (v:=.int .i64 ((i+1:Nat):Int)) rfl rfl (by simp [base]) (by simp [execOp,q9,Act.eval,go_sem,y18,hi64]) (by simp [execOp,q9,Act.eval,go_sem,y18])
  replace hW:=r1 hW
  refine gidle (g':=G ((base 40).at ⟨(T6.setIfInBounds 23 (.int .i64 ((i+1:Nat):Int))).setIfInBounds 18 (.int .i64 ((i+1:Nat):Int)),[]⟩ (.inRegion q9 []::K0 kk)) cs) rfl (fun w1=>?_) fun w1 r1=>?_
  ·exact stepG_pure (o:=q9[1]) (v:=.int .i64 ((i+1:Nat):Int)) rfl rfl (by simp [base]) (by simp [execOp,q9,Act.eval,go_sem,hsz6]) (by simp [execOp,q9,Act.eval,go_sem])
  replace hW:=r1 hW
  refine gidle rfl (fun w1=>stepG_region_end) fun w1 r1=>?_
  replace hW:=r1 hW
  refine gidle rfl (fun w1=>stepG_inLoop) fun w1 r1=>?_
  replace hW:=r1 hW
  refine hn _ _ ((hT6.set (.inr (by omega)) _).set (.inr (by omega)) _) ?_ hW
  rw [← hnext]
  simp [hsz6]
end
section
variable {P:Program} {ty:TypeId} {Wg:Nat} {Fin Fin' Anch Anch':Goroutine→World→Prop} {g:Goroutine} {w:World}
theorem JAcq.mono (h:∀ g w,Fin g w→Fin' g w) (x:JAcq P ty Wg Fin g w):JAcq P ty Wg Fin' g w:=by
 obtain ⟨h1,g',h2,n,h3⟩:=x;exact ⟨h1,g',h2,n,goesMono h h3⟩
theorem JKe.mono (h:∀ g w,Fin g w→Fin' g w) (x:JKe P ty Wg Fin g w):JKe P ty Wg Fin' g w:=by
 obtain ⟨h1,g',h2,n,h3⟩:=x;exact ⟨h1,g',h2,n,goesMono (fun _ _=>JAcq.mono h) h3⟩
theorem JW4.mono (h:∀ g w,Fin g w→Fin' g w) (x:JW4 P ty Wg Fin g w):JW4 P ty Wg Fin' g w:=
 ⟨x.1,fun hw=>by obtain ⟨g',h2,n,h3⟩:=x.2 hw;exact ⟨g',h2,n,goesMono (fun _ _=>JKe.mono h) h3⟩⟩
theorem JW3.mono (h:∀ g w,Fin g w→Fin' g w) (x:JW3 P ty Wg Fin g w):JW3 P ty Wg Fin' g w:=
 ⟨x.1,x.2.1,x.2.2.1,fun hw=>by obtain ⟨g',h2,n,h3⟩:=x.2.2.2 hw;exact ⟨g',h2,n,goesMono (fun _ _=>JW4.mono h) h3⟩⟩
theorem JWr.mono (h:∀ g w,Fin g w→Fin' g w) (x:JWr P ty Wg Fin g w):JWr P ty Wg Fin' g w:=by
 obtain ⟨h1,g',h2,n,h3⟩:=x;exact ⟨h1,g',h2,n,goesMono (fun _ _=>JW3.mono h) h3⟩
theorem JW2.mono {vs:Nat} (h:∀ g w,Fin g w→Fin' g w) (ha:∀ g w,Anch g w→Anch' g w) (x:JW2 P ty Wg Fin Anch vs g w):JW2 P ty Wg Fin' Anch' vs g w:=by
 refine ⟨x.1,fun v hv hw=>⟨fun e=>?_,fun e=>?_⟩⟩
 ·obtain ⟨g',h2,n,h3⟩:=(x.2 v hv hw).1 e;exact ⟨g',h2,n,goesMono (fun _ _=>JWr.mono h) h3⟩
 ·obtain ⟨g',h2,n,h3⟩:=(x.2 v hv hw).2 e;exact ⟨g',h2,n,goesMono ha h3⟩
theorem JW1.mono (h:∀ g w,Fin g w→Fin' g w) (ha:∀ g w,Anch g w→Anch' g w) (x:JW1 P ty Wg Fin Anch g w):JW1 P ty Wg Fin' Anch' g w:=by
 refine ⟨x.1,fun v hv hw=>?_⟩
 obtain ⟨g',h2,h3,h4⟩:=x.2 v hv hw
 exact ⟨g',h2,fun e=>by obtain ⟨n,h5⟩:=h3 e;exact ⟨n,goesMono (fun _ _=>JKe.mono h) h5⟩,fun e=>by obtain ⟨n,h5⟩:=h4 e;exact ⟨n,goesMono (fun _ _=>JW2.mono h ha) h5⟩⟩
end
structure WgRounds (Wg:Nat) (cs:List Frame) (AJ:Frame→Goroutine→World→Prop):Prop where
 run:∀ f g w,AJ f g w→g.status=.running
 round:∀ (Fin:Goroutine→World→Prop) (a₀:Act) (k₀:List Item),(∀ w,WgLive 146 Wg w→Goes Tryz.prog true (RM 146 Wg) DC0 Fin 0 (G ((base 40).at (a₀.put (some 24) (.tuple #[])) (.inRegion q10 []::k₀)) cs) w) →
  ∀ g w,AJ ((base 40).at a₀ (.inRegion q10 [0]::k₀)) g w→∃ m,Goes Tryz.prog true (RM 146 Wg) DC0 (JW1 Tryz.prog 146 Wg Fin (AJ ((base 40).at a₀ (.inRegion q10 [0]::k₀)))) m g w
theorem stepG_alloc146 {main:Bool} {b:Frame} {a:Act} {kk:List Item} {cs:List Frame} {w:World} {ops:Array Oper} {i:Nat} {rest:List Nat} {o:Oper} (ho:ops[i]?=some o) (hw:Region.wanted o (yielded ops a.tmps)=true) (hk:b.kind≠.early) (hop:o.op=.alloc 146) :
  stepG Tryz.prog main (G (b.at a (.inRegion ops (i::rest)::kk)) cs) w=.go (G (b.at (a.put o.dst (ptr w.heap.size)) (.inRegion ops rest::kk)) cs) { w with heap:=w.heap.push (wgBlock 146 0 0) } #[]:=by
 have hr:(execOp a.eval o).run Tryz.prog w=.ok (.value (ptr w.heap.size)) { w with heap:=w.heap.push (wgBlock 146 0 0) }:=by
  unfold execOp
  simp only [hop]
  simp [go_sem,ptr,wgBlock]
 have he:(execOp a.eval o).events Tryz.prog w #[]=#[]:=by
  unfold execOp
  simp only [hop]
  simp [go_sem]
 rw [stepG_value ho hw hk hr]
 unfold listed
 rw [he,seen_none]
structure PhPost (W E:Nat→Prop) (C:Nat) (w0:World) (R2:Nat→(Nat→Prop)→Option Nat→World→Prop) (E2:Nat→Prop) (w:World):Prop where
 bok:BOk C0 S0 W E2 w
 le:∀ b,E b→E2 b
 keep:∀ b,E b→b≠C→w.heap[b]?=w0.heap[b]?
 parts:∃ (cs:Array Value) (O:Nat→Nat→Prop),w.heap[C]?=some (.cells cs 138)∧cs.size=4∧(∀ i j,i<4→j<4→i≠j→∀ b,O i b→¬ O j b)∧(∀ i,i<4→∀ b,O i b→E2 b∧¬ E b)∧∀ i,i<4→∃ r,cs[i]?=some (.map r)∧(∀ b,r=some b→E2 b)∧R2 i (O i) r w
theorem WR.self {C:Cx} {ok:FuncId→Code→Prop} {X:Nat→Prop} {w:World} (hst:C.st=false) (h:∀ b,X b→∃ o,w.heap[b]?=some o∧ObjR C ok (idE X) b o o):WR C ok (idE X) w w:=by
 refine ⟨rfl,fun b b' ⟨e,hb⟩=>?_,fun b c c' h1 h2=>h1.1.symm.trans h2.1,fun b c b2 h1 h2=>h1.1.trans h2.1.symm,fun b hb=>absurd hb (C.lax hst b),fun b b' o o' ⟨e,hb⟩ h1 h2=>?_,fun _ b b' h=>h.1,fun _=>rfl,fun e=>by rw [hst] at e;cases e⟩
 ·subst e
  obtain ⟨o,ho,_⟩:=h b hb
  have:=(Array.getElem?_eq_some_iff.1 ho).1
  exact ⟨this,this⟩
 ·subst e
  obtain ⟨o2,ho,h3⟩:=h b hb
  rw [ho] at h1 h2;cases h1;cases h2;exact h3
theorem cxLe10 (Sh:Nat→Prop):CxLe (C1 Sh) C0:=by
 refine ⟨fun f h=>?_,fun t h=>?_,fun n h=>?_⟩
 ·have h':f∈[42,44,157,158,164,165,171,172]:=List.contains_iff_mem.1 h
  simp only [List.mem_cons,List.not_mem_nil,or_false] at h'
  rcases h' with rfl|rfl|rfl|rfl|rfl|rfl|rfl|rfl<;>(show List.contains _ _=true;kernel_rfl)
 ·simp only [Cx.tyOk,Bool.or_eq_true] at h ⊢
  refine h.imp (fun h=>?_) id
  have h':t∈[120,123,126]:=List.contains_iff_mem.1 h
  simp only [List.mem_cons,List.not_mem_nil,or_false] at h'
  rcases h' with rfl|rfl|rfl<;>(show List.contains _ _=true;kernel_rfl)
 ·have h':n∈["Copy","Merge"]:=List.contains_iff_mem.1 h
  simp only [List.mem_cons,List.not_mem_nil,or_false] at h'
  rcases h' with rfl|rfl<;>(show List.contains _ _=true;kernel_rfl)
section
variable {AJ:Frame→Goroutine→World→Prop} {W E F:Nat→Prop} {R R2:Nat→(Nat→Prop)→Option Nat→World→Prop} {Wg C k p m c mm:Nat} {T0:Array Value} {w0:World} {t0:Trace} {q0:Nat→Nat} {kk:List Item} {cs:List Frame}
theorem phase_post {W0:Nat→Prop} {wb:World} (hW0:∀ b,W0 b→W b) (hWl:∀ b,W b→b<wb.heap.size) (hFE:∀ b,F b→E b) (hB:BOk C0 S0 W E wb) (hwb:w0.heap=wb.heap.push (wgBlock 146 0 0)) (hos:w0.os=wb.os) (hWg:Wg=wb.heap.size) (hC:E C) (hne:C≠Wg) {w':World} {D:Nat→WDat} (h:PhEnd (HR AJ W0 (fun b=>E b∨(W b∧¬ W0 b)) F R Wg C k p m c T0 mm w0 t0 q0 kk cs) w' D)
  (hR:∀ i Sh E2 w2 r r',i<4→(∀ b,F b→Sh b)→Sub (idE Sh) E2→WR (C1 Sh) (okP (C1 Sh) S1) E2 w2 w'→VR (C1 Sh) E2 (.map r) (.map r')→R i Sh r w2→R2 i (fun b'=>∃ b,E2 b b'∧¬ Sh b) r' w') :
  ∃ E2,PhPost (fun b=>W b∨b=Wg) E C wb R2 E2 w':=by
 have hlt:∀ b,E b→b<wb.heap.size:=fun b hb=>hB.lt hb
 have keep:∀ b,E b→b≠C→w'.heap[b]?=wb.heap[b]?:=fun b hb hbC=>by
  rw [h.jw.keep b (.inl ⟨.inl hb,hbC⟩)]
  show w0.heap[b]?=_
  rw [hwb,Array.getElem?_push_lt (hlt b hb),Array.getElem?_eq_getElem (hlt b hb)]
 have hq:∀ i,i<4→∃ (Sh:Nat→Prop) (E2:BRel) (w2:World) (r r':Option Nat),(D i).v=.map r'∧(∀ b,F b→Sh b)∧(∀ b,Sh b→F b∨Wg<b)∧Sub (idE Sh) E2∧Link (C1 Sh) S1 E2 (D i).own (D i).X w2 w'∧VR (C1 Sh) E2 (.map r) (.map r')∧R i Sh r w2:=fun i hi=>(h.res i hi).2
 let E2:Nat→Prop:=fun b=>E b∨∃ i,∃ _:i<4,∃ (Sh:Nat→Prop) (E2:BRel) (w2:World),(∀ b,Sh b→F b∨Wg<b)∧Sub (idE Sh) E2∧Link (C1 Sh) S1 E2 (D i).own (D i).X w2 w'∧rng E2 b
 have mapR0:∀ i,∃ O:Nat→Prop,i<4→(∀ b,O b→(D i).own b∧E2 b)∧∃ r',(D i).v=.map r'∧(∀ b,r'=some b→E2 b)∧R2 i O r' w':=by
  intro i
  by_cases hi:i<4
  case neg=>exact ⟨fun _=>False,fun h=>absurd h hi⟩
  obtain ⟨Sh,E3,w2,r,r',h1,h2,h2',h3,h4,h5,h6⟩:=hq i hi
  refine ⟨_,fun _=>⟨fun b' ⟨b,hb,hs⟩=>⟨(h4.rng b b' hb).2 hs,.inr ⟨i,hi,Sh,E3,w2,h2',h3,h4,_,hb⟩⟩,r',h1,fun b hb=>?_,hR i Sh E3 w2 r r' hi h2 h3 h4.wr h5 h6⟩⟩
  subst hb
  cases h5 with
  | map hm=>exact .inr ⟨i,hi,Sh,E3,w2,h2',h3,h4,_,hm⟩
 obtain ⟨O,hO⟩:=Classical.axiomOfChoice mapR0
 have mapR:∀ i,i<4→∃ r',(D i).v=.map r'∧(∀ b,r'=some b→E2 b)∧R2 i (O i) r' w':=fun i hi=>(hO i hi).2
 obtain ⟨cells,hc1,hc2⟩:=h.jw.pay
 have hcell:∀ i,i<4→cells[i]?=some (D i).v:=by
  intro i hi
  have:=(h.res i hi).1
  unfold Has World.cell? at this
  rw [hc1] at this
  exact this
 refine ⟨E2,⟨⟨?_,.inl hB.hnd,fun g hg=>.inl (hB.gl g hg),fun b hb he=>?_⟩,fun b hb=>.inl hb,keep,cells,O,?_,hc2,fun i j hi hj hij b h1 h2=>h.jw.disj i j hi hj hij b ((hO i hi).1 b h1).1 (h.jw.ownX j hj b ((hO j hj).1 b h2).1),fun i hi b hb=>⟨((hO i hi).1 b hb).2,fun hE=>?_⟩,fun i hi=>?_⟩⟩
 ·refine WR.self rfl fun b hb=>?_
  by_cases hbC:b=C
  ·subst hbC
   refine ⟨_,hc1,cells,_,rfl,⟨rfl,fun i x x' h1 h2=>?_⟩,fun hs=>absurd hs (C0.lax rfl b),fun _=>⟨rfl,fun e=>by cases e⟩⟩
   have hi:i<4:=by
    have:=(Array.getElem?_eq_some_iff.1 h1).1
    rw [hc2] at this
    exact this
   rw [hcell i hi] at h1 h2
   cases h1;cases h2
   obtain ⟨r',e1,e2,_⟩:=mapR i hi
   rw [e1]
   cases r' with
   | none=>exact .nilMap
   | some b=>exact .map ⟨rfl,e2 b rfl⟩
  ·rcases hb with hb|⟨i,hi,Sh,E3,w2,hz1,hz2,hL,hr⟩
   ·obtain ⟨o,o',h1,h2,h3⟩:=hB.wr.get (b:=b) ⟨rfl,hb⟩
    rw [h1] at h2;cases h2
    exact ⟨o,(keep b hb hbC).trans h1,h3.mono (idE_mono fun b hb=>.inl hb)⟩
   ·have hw:=hL.wr.right (ok':=okP C0 S0) (cxLe10 Sh) (C0.lax rfl) rfl (fun e=>by cases e)
    obtain ⟨o,o',h1,h2,h3⟩:=hw.get (b:=b) ⟨rfl,hr⟩
    rw [h1] at h2;cases h2
    exact ⟨o,h1,h3.mono (idE_mono fun b hb=>.inr ⟨i,hi,Sh,E3,w2,hz1,hz2,hL,hb⟩)⟩
 ·rcases he with he|⟨i,hi,Sh,E3,w2,hz1,hz2,hL,a,hr⟩
  ·rcases hb with hb|hb
   ·exact hB.dis b hb he
   ·have:=hlt b he;omega
  ·have:=h.jw.avoid i hi b (hL.rng _ _ hr).1
   rcases hb with hb|hb
   ·by_cases hs:Sh a
    ·have e:a=b:=hL.wr.fn a a b (hz2 a a ⟨rfl,hs⟩) hr
     subst e
     rcases hz1 a hs with hf|hf
     ·exact hB.dis a hb (hFE a hf)
     ·have:=hWl a hb;omega
    ·have ho:=(hL.rng _ _ hr).2 hs
     exact h.jw.own0 i hi b ho ⟨.inr ⟨hb,this.2.2⟩,this.2.1⟩
   ·exact this.1 hb
 ·exact hc1
 ·have ho:=((hO i hi).1 b hb).1
  exact h.jw.own0 i hi b ho ⟨.inl hE,fun e=>(h.jw.avoid i hi b (h.jw.ownX i hi b ho)).2.1 e⟩
 ·obtain ⟨r',e1,e2,e3⟩:=mapR i hi
  exact ⟨r',(hcell i hi).trans (by rw [e1]),e2,e3⟩
end
end Go.Sim.Z
