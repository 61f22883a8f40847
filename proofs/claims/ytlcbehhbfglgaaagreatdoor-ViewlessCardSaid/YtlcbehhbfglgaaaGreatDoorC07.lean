/- Proved: laws for the claim. No conditions. -/
import Derived.Conc.Beside
import Derived.Conc.CrowdTrace
import Derived.Conc.WgGenN3
import Derived.Conc.CrowdRun
import Derived.Conc.CrowdStepW
import Derived.Conc.CrowdStepC
import Derived.Test.YtlcbehhbfglgaaaGreatDoorC05
set_option linter.all false
namespace Go.Sim
open Go.Conc
open Go.ConcN (sumTo upd sumTo_upd upd_ne upd_same)
def ShW(W:JB):Loc->Prop:=λl=>∃a,l=.cell a/\W a.block
structure Cmp(P:Program)(W:JB)(gs:Array JF)(w:JE)(t:Trace)(q:Nat->Nat):Prop where
 lv:Leavers P t gs q
 past:Past (ShW W) w.heap.size t
 quiet:Quiet (ShW W) t
 low:∀b,W b->b<w.heap.size
 tidy:∀op∈t,op.g<gs.size/\∀x,op.act.touch?=some x->x.loc.isMemory=true
theorem EvG.mem{own X:JB}{e:Event}(h:EvG own X e){x:Touch}(hx:(MemAct.ofEvent e).touch?=some x):x.loc.isMemory=true:=by
 obtain⟨loc,wr,sy⟩:=e;cases loc with
 |cell b=>
  obtain⟨⟨h1,_⟩,h3⟩:=h;simp only at h3;subst h3;simp only[MemAct.ofEvent,MemAct.touch?,Cb]at hx;subst hx;rfl
 |obj r=>
  obtain⟨⟨h1,_⟩,h3⟩:=h;simp only at h3;subst h3;have e:MemAct.ofEvent ⟨.obj r,wr,false⟩=.access ⟨.obj r,wr,false⟩:=by cases wr<;>rfl
  simp only[e,MemAct.touch?,Cb]at hx;subst hx;rfl
 |mark m=>cases m<;>first|exact h.elim|(simp[MemAct.ofEvent,MemAct.touch?]at hx)
 |output=>exact h.elim
 |goroutines=>exact h.elim
theorem EvG.Jly{own X W:JB}{e:Event}(h:EvG own X e)(hd:∀b,W b->¬X b){x:Touch}(hx:(MemAct.ofEvent e).touch?=some x):¬ShW W x.loc:=by
 rintro⟨a,ha,hw⟩;obtain⟨loc,wr,sy⟩:=e;cases loc with
 |cell b=>
  obtain⟨⟨h1,_⟩,h3⟩:=h;simp only at h3;subst h3;simp only[MemAct.ofEvent,MemAct.touch?,Cb]at hx
  grind
 |obj r=>
  obtain⟨⟨h1,_⟩,h3⟩:=h;simp only at h3;subst h3;simp only[MemAct.ofEvent,MemAct.touch?,Cb]at hx
  grind
 |mark m=>cases m<;>first|exact h.elim|(simp[MemAct.ofEvent,MemAct.touch?]at hx)
 |output=>exact h.elim
 |goroutines=>exact h.elim
theorem EvG.evL{own X W:JB}{B:Nat}{e:Event}(h:EvG own X e)(hd:∀b,W b->¬X b)(hB:∀b,X b->b<B):EvL (ShW W) B e:=by
 refine⟨λx hx hs=>absurd hs (h.Jly hd hx),?_,?_,?_⟩
 .intro he;unfold EvG at h;grind
 .intro he;unfold EvG at h;grind
 .obtain⟨loc,wr,sy⟩:=e;cases loc with
  |cell b=>
   obtain⟨⟨h1,_⟩,h3⟩:=h;simp only at h3;subst h3;exact hB _ h1
  |obj r=>
   obtain⟨⟨h1,_⟩,h3⟩:=h;simp only at h3;subst h3;have e:MemAct.ofEvent ⟨.obj r,wr,false⟩=.access ⟨.obj r,wr,false⟩:=by cases wr<;>rfl
   rw[e];exact hB _ h1
  |mark m=>cases m<;>first|exact h.elim|exact trivial
  |output=>exact h.elim
  |goroutines=>exact h.elim
theorem BR.at{X:JB}{w:JE}(d:Nat):BR false X w (w.at d):=⟨λ_ _=>rfl,Ad _,λ_=>rfl,rfl⟩
theorem Jh3{P:Program}{gs:Array JF}{t:Trace}{q:Nat->Nat}{a:JF}(h0:gs[0]?=some a)(hr:a.status=.running)(hL:Leavers P t gs q):∀g∈gs,awake g:=by
 intro g hg;obtain⟨i,hi,rfl⟩:=Array.mem_iff_getElem.1 hg;rcases Nat.eq_zero_or_pos i with rfl|BZ
 .grind[Array.getElem?_eq_getElem,awake_of]
 .exact awake_of ((hL.old i _ BZ (Bz hi)).status.elim .inl λx=>.inr (.inr x))
theorem Cmp.own{P:Program}{W:JB}{gs:Array JF}{w w':JE}{t:Trace}{q:Nat->Nat}{a a':JF}{es:Array Event}(h:Cmp P W gs w t q)(h0:gs[0]?=some a)(hz:w.heap.size<=w'.heap.size)
  {own X:JB} (he:∀e∈es,EvG own X e) (hd:∀b,W b->¬X b) (hX:∀b,X b->b<w'.heap.size) :
  Cmp P W ((gs.map (woken P a a' w')).setIfInBounds 0 a') w' (t++MemOp.ofEvents 0 a.frame.fn a.frame.place es) q:=by
 refine⟨⟨λj x hj hx=>?_,λj hj=>?_⟩,(h.past.mono hz).own λe hx=>(he e hx).evL hd hX,h.quiet.app λop Ar x hx hs=>?_,λb hb=>DX (h.low b hb) hz,λop Ar=>?_⟩
 .rw[AV (by omega),Array.getElem?_map]at hx;obtain⟨y,hy,rfl⟩:=Fh.1 hx;have hq:=h.lv.old j y hj hy;rw[woken_quitsD hq,Deaf_other t (g':=0) (by omega) _ (λop Ar=>by obtain⟨e,_,rfl⟩:=Conc.mem_ofEvents Ar;rfl)];exact hq
 .have Ag:0<gs.size:=(BJ.1 h0).1;rw[Deaf_other t (g':=0) (by grind) _ (λop Ar=>by obtain⟨e,_,rfl⟩:=Conc.mem_ofEvents Ar;rfl)];exact h.lv.above j (by grind)
 .obtain⟨e,Af,rfl⟩:=Conc.mem_ofEvents Ar;exact absurd hs ((he e Af).Jly hd hx)
 .rcases Array.mem_append.1 Ar with h1|h1
  .have:=h.tidy op h1
   grind
  .obtain⟨e,Af,rfl⟩:=Conc.mem_ofEvents h1;have Ag:0<gs.size:=(BJ.1 h0).1;exact⟨by grind,λx hx=>(he e Af).mem hx⟩
theorem Cmp.slip{P:Program}{W:JB}{gs:Array JF}{w:JE}{t:Trace}{q:Nat->Nat}(h:Cmp P W gs w t q){i k:Nat}{g:JF}(hi:gs[i]?=some g)(hp:0<i)(hr:g.status=.running)(d:Nat)(hk:q i=k+1) :
  ∃g' es,stepG P false g (w.at d)=.go g' (w.at d) es/\Cmp P W ((gs.map (woken P g g' (w.at d))).setIfInBounds i g') (w.at d) (t++MemOp.ofEvents i g.frame.fn g.frame.place es) (upd q i k):=by
 have hq:=h.lv.old i g hp hi;rw[hk]at hq;have Ac:i<gs.size:=(BJ.1 hi).1;rcases hq with⟨hf,_⟩|⟨_,g',es,hm,XP,yB⟩
 .grind
 refine⟨g',es,XP _,⟨λj x hj hx=>?_,λj hj=>?_⟩,h.past.mute (by omega) hm,h.quiet.app λop Ar x hx hs=>?_,h.low,λop Ar=>?_⟩
 .by_cases Vw:i=j
  .subst Vw;rw[FC (by grind)]at hx;obtain rfl:=Aa hx
   grind[upd_same,Deaf_own]
  .rw[AV Vw,Array.getElem?_map]at hx;obtain⟨y,hy,rfl⟩:=Fh.1 hx;have hqj:=h.lv.old j y hj hy;rw[woken_quitsD hqj,upd_ne q k (Ne.symm Vw),Deaf_other t Vw _ (λop Ar=>by obtain⟨e,_,rfl⟩:=Conc.mem_ofEvents Ar;rfl)];exact hqj
 .rw[Deaf_other t (g':=i) (by grind) _ (λop Ar=>by obtain⟨e,_,rfl⟩:=Conc.mem_ofEvents Ar;rfl)];exact h.lv.above j (by grind)
 .obtain⟨e,he,rfl⟩:=Conc.mem_ofEvents Ar
  grind[touch_mute]
 .rcases Array.mem_append.1 Ar with h1|h1
  .have:=h.tidy op h1
   grind
  .obtain⟨e,he,rfl⟩:=Conc.mem_ofEvents h1
   grind[touch_mute]
open Go.ConcN Go.RowKit Go.Conc.Lib Go.ConcR.Gen Go.ConcN.Gen
open Go.ConcR (KK wgBlock WgAt stA smA rd wr mk DC0)
def RM(ty:JH)(Wg:Nat)(w w1:JE):Prop:=WgLive ty Wg w->WgLive ty Wg w1
theorem J4{ty:JH}{Wg:Nat}{w w1:JE}(h:WgLive ty Wg w)(r:RM ty Wg w w1):WgLive ty Wg w1:=r h
section
variable(P:Program)(ty:JH)(Wg:Nat)
section
variable(Fin:JF->JE->Prop)
def YI(g:JF)(w:JE):Prop:=g.status=.running/\∃g',stepG P true g w=.go g' w #[mk (.acquire (stA Wg))]/\∃m,(Goes P true (RM ty Wg) DC0) Fin m g' w
def JKe(g:JF)(w:JE):Prop:=g.status=.running/\∃g',stepG P true g w=.go g' w #[mk .enable]/\∃m,(Goes P true (RM ty Wg) DC0) (YI P ty Wg Fin) m g' w
def JW4(g:JF)(w:JE):Prop:=g.status=.running/\(WgAt ty Wg w 0 0->∃g',stepG P true g w=.go g' w #[rd (stA Wg)]/\∃m,(Goes P true (RM ty Wg) DC0) (JKe P ty Wg Fin) m g' w)
def JW3(g:JF)(w:JE):Prop:=
 g.status=.running/\g.offers=none/\((∃st,WgAt ty Wg w st 0)->stepG P true g w=.go { g with status:=.blocked } w #[]) /\
  (WgAt ty Wg w 0 1->∃g',stepG P true g w=.go g' (w.setCell (smA Wg) (.int .u32 0)) (semEvents (smA Wg))/\∃m,(Goes P true (RM ty Wg) DC0) (JW4 P ty Wg Fin) m g' (w.setCell (smA Wg) (.int .u32 0)))
def JWr(g:JF)(w:JE):Prop:=g.status=.running/\∃g',stepG P true g w=.go g' w #[mk (.write (smA Wg))]/\∃m,(Goes P true (RM ty Wg) DC0) (JW3 P ty Wg Fin) m g' w
variable(Anch:JF->JE->Prop)
def JW2(vs:Nat)(g:JF)(w:JE):Prop:=
 g.status=.running/\∀v:Nat,v<2147483648->WgAt ty Wg w (v*KK) 0 ->
  (v=vs->∃g',stepG P true g w=.go g' (w.setCell (stA Wg) (.int .u64 (v*KK+1))) #[rd (stA Wg),wr (stA Wg)]/\∃m,(Goes P true (RM ty Wg) DC0) (JWr P ty Wg Fin) m g' (w.setCell (stA Wg) (.int .u64 (v*KK+1)))) /\
  (v≠vs->∃g',stepG P true g w=.go g' w #[rd (stA Wg)]/\∃m,(Goes P true (RM ty Wg) DC0) Anch m g' w)
def JW1(g:JF)(w:JE):Prop:=
 g.status=.running/\∀v:Nat,v<2147483648->WgAt ty Wg w (v*KK) 0->∃g',stepG P true g w=.go g' w #[rd (stA Wg)] /\
  (v=0->∃m,(Goes P true (RM ty Wg) DC0) (JKe P ty Wg Fin) m g' w)/\(v≠0->∃m,(Goes P true (RM ty Wg) DC0) (JW2 P ty Wg Fin Anch v) m g' w)
def JKd(g:JF)(w:JE):Prop:=g.status=.running/\∃g',stepG P true g w=.go g' w #[mk .disable]/\∃m,(Goes P true (RM ty Wg) DC0) Anch m g' w
end
section
variable(Next:JF->JE->Prop)
def Jtj(g:JF)(w:JE):Prop:=g.status=.running/\∃g',stepG P true g w=.go g' w #[mk .enable]/\∃m,(Goes P true (RM ty Wg) DC0) Next m g' w
def JRd(g:JF)(w:JE):Prop:=g.status=.running/\∃g',stepG P true g w=.go g' w #[mk (.read (smA Wg))]/\∃m,(Goes P true (RM ty Wg) DC0) (Jtj P ty Wg Next) m g' w
def JA1(g:JF)(w:JE):Prop:=
 g.status=.running/\∀v:Nat,v<2147483647->WgAt ty Wg w (v*KK) 0 ->
  ∃g',stepG P true g w=.go g' (w.setCell (stA Wg) (.int .u64 ((v+1)*KK))) #[rd (stA Wg),wr (stA Wg)] /\
   (v=0->∃m,(Goes P true (RM ty Wg) DC0) (JRd P ty Wg Next) m g' (w.setCell (stA Wg) (.int .u64 ((v+1)*KK))))/\(v≠0->∃m,(Goes P true (RM ty Wg) DC0) (Jtj P ty Wg Next) m g' (w.setCell (stA Wg) (.int .u64 ((v+1)*KK))))
def dI(g:JF)(w:JE):Prop:=g.status=.running/\∃g',stepG P true g w=.go g' w #[mk .disable]/\∃m,(Goes P true (RM ty Wg) DC0) (JA1 P ty Wg Next) m g' w
end
end
inductive Qs{α:Type}(r:α->α->Prop):List α->List α->Prop
 |head{a b:α}{l:List α}(h:r a b):Qs r (a::l) (b::l)
 |tail{a:α}{l l':List α}(h:Qs r l l'):Qs r (a::l) (a::l')
theorem Jtk{α:Type}{r:α->α->Prop}{a:α}(ha:Acc r a):∀{l:List α},Acc (Qs r) l->Acc (Qs r) (a::l):=by
 induction ha with
 |intro a _ iha=>
  intro l hl
  induction hl with
  |intro l h2 ihl=>
   refine .intro _ λx hx=>?_;cases hx with
   |head h=>exact iha _ h (.intro _ h2)
   |tail h=>exact ihl _ h
theorem Jjl{α:Type}{r:α->α->Prop}:∀(l:List α),(∀a∈l,Acc r a)->Acc (Qs r) l
 |[],_=>.intro _ λ_ h=>nomatch h
 |a::l,h=>Jtk (h a (by simp)) (Jjl l λb hb=>h b (by simp[hb]))
theorem Jh4{α:Type}{r:α->α->Prop}{x y:α}:∀{l:List α}{i:Nat},l[i]?=some y->r x y->Qs r (l.set i x) l
 |[],_,h,_=>by simp at h
 |a::l,0,h,hr=>by simp at h;subst h;exact .head hr
 |a::l,i+1,h,hr=>.tail (Jh4 (by simpa using h) hr)
def Jtl(st:Bool)(P:Program)(main:Bool)(Stop:Sit->Prop)(y2 y:Sit):Prop:=
 (∃w1,BR st y.X y.w w1/\P5 P main y w1 y2)/\¬ ∀w1,BR st y.X y.w w1->Stop { y with w:=w1 }
theorem P5.unique{P:Program}{main:Bool}{y:Sit}{w1:JE}{y2 y3:Sit}(h:P5 P main y w1 y2)(k:P5 P main y w1 y3):y2=y3:=by
 obtain⟨es,h1,_⟩:=h.step;obtain⟨AU,k1,_⟩:=k.step;rw[h1]at k1;simp only[GStep.go.injEq]at k1;obtain⟨a,b,_⟩:=k1;obtain⟨o2,x2,g2,w2⟩:=y2;obtain⟨o3,x3,g3,w3⟩:=y3;have e1:=h.own;have e2:=k.own;have e3:=h.X;have e4:=k.X
 grind
theorem Runs.acc{st:Bool}{P:Program}{main:Bool}{Stop:Sit->Prop}{y:Sit}(h:Runs st P main Stop y):Acc (Jtl st P main Stop) y:=by
 induction h with
 |stop h=>exact .intro _ λy2 h2=>absurd h h2.2
 |step f h k ih=>
  refine .intro _ λy2 h2=>?_;obtain⟨⟨w1,hr,hg⟩,_⟩:=h2;rw[hg.unique (h w1 hr)]
  grind
inductive Wq(st:Bool)(P:Program)(main:Bool)(Stop:Sit->Prop):Option Sit->Option Sit->Prop
 |done{y:Sit}:Wq st P main Stop none (some y)
 |step{y2 y:Sit}(h:Jtl st P main Stop y2 y):Wq st P main Stop (some y2) (some y)
theorem J8t{st:Bool}{P:Program}{main:Bool}{Stop:Sit->Prop}:Acc (Wq st P main Stop) none:=.intro _ λ_ h=>nomatch h
theorem Jn6{st:Bool}{P:Program}{main:Bool}{Stop:Sit->Prop}{y:Sit}(h:Acc (Jtl st P main Stop) y):Acc (Wq st P main Stop) (some y):=by
 induction h with
 |intro y _ ih=>
  refine .intro _ λz hz=>?_;cases hz with
  |done=>exact J8t
  |step h=>exact ih _ h
def Jn7{α:Type}(r:Nat->α->α->Prop)(x y:Nat × α):Prop:=x.1=y.1/\r y.1 x.2 y.2
theorem Jtm{α:Type}{r:Nat->α->α->Prop}{i:Nat}{a:α}(h:Acc (r i) a):Acc (Jn7 r) (i,a):=by
 induction h with
 |intro a _ ih=>
  refine .intro _ λz hz=>?_;obtain⟨k,z⟩:=z;obtain⟨h1,h2⟩:=hz
  grind
theorem Jqg{α:Type}{r:Nat->α->α->Prop}(l:List (Nat × α))(h:∀a∈l,Acc (r a.1) a.2):Acc (Qs (Jn7 r)) l:=Jjl l λa ha=>Jtm (h a ha)
def Jwt(t:Trace)(l:Loc):Prop:=∀i a,touchAt t i=some a->a.loc≠l
section
variable{Sh:Loc->Prop}{Own Rd WG Rd':Nat->Loc->Prop}{t:Trace}{j:Nat}
theorem CT.widen(h:CT Sh Own Rd t j)(h1:∀k,1<=k->k<=j->∀l,Own k l->WG k l)(h2:∀k,1<=k->k<=j->∀l,WG k l->Own k l\/Jwt t l)(h3:∀k,1<=k->k<=j->∀l,Rd' k l↔Rd k l):CT Sh WG Rd' t j:=by
 refine⟨h.quiet,λk k1 kj l hl=>?_,λk k1 kj l hl=>h.rd k k1 kj l ((h3 k k1 kj l).1 hl),λl hs hl=>h.free l hs λk k1 kj=>?_,λl hs hl=>h.mine l hs λk k1 kj ho=>hl k k1 kj (h1 k k1 kj l ho),h.nr,h.gs⟩
 .rcases h2 k k1 kj l hl with h|hf
  .grind[CT.own]
  .intro i a ha e;exact absurd e (hf i a ha)
 grind
theorem J9x{B:Nat}(h:∀op∈t,op.act.low B){l:Loc}(hl:¬l.low B):Jwt t l:=by
 intro i a ha e;obtain⟨x,hx,Fz⟩:=touch_of ha;obtain⟨Ac,rfl⟩:=BJ.1 hx;have Dp:=h _ (Array.getElem_mem Ac);refine hl ?_;rw[<- e]
 revert Fz Dp
 generalize t[i].act=act;intro Fz Dp;cases act with
 |access ev=>
  simp only[MemAct.touch?]at Fz;split at Fz<;>first|(cases Fz;exact Dp)|cases Fz
 |mark m=>cases m<;>simp[MemAct.touch?]at Fz<;>(subst Fz;exact Dp)
 |_=>simp[MemAct.touch?]at Fz
end
open Go.ConcR (KK wgBlock WgAt stA smA rd wr mk Payload DC0)
structure Ph where
 P:Program
 ty:JH
 Wg:Nat
 C:Nat
 n:Nat
 m:Nat
 W:JB
 Sh0:JB
 w0:JE
 t0:Trace
 q0:Nat->Nat
 tI:JH
 Q:Nat->(JB)->(JB)->JJ->JE->Prop
 Fin:JF->JE->Prop
 Anch:JF->JE->Prop
structure CG where
 own:JB
 X:JB
 v:JJ
 rank:Option Sit
 d:WD
section
variable[Payload](H:Ph)
def P9:Nat->Loc->Prop:=λ_ _=>False
def DT(k:Nat)(w w':JE)(es:Array Event):Prop:=AsideCell H.C H.n (k-1) w w'/\∀e∈es,e=⟨.cell ⟨H.C,k-1,none⟩,true,false⟩
def Qu(i:Nat)(y:Sit):Prop:=
 ∃v,H.Q i y.own y.X v y.w/\∀w1,PayAt H.C H.n w1->WgLive H.ty H.Wg w1->∃k,Goes H.P false (RW H.ty H.Wg H.C H.n 0 (i+1-1)) (DT H (i+1)) (AtR0 H.P H.ty H.Wg H.C H.n 0 (i+1) v) k y.g w1
inductive WS(i:Nat)(D:CG)(g:JF)(w:JE):Prop
 |work(y:Sit)(hr:D.rank=some y)(ho:y.own=D.own)(hX:y.X=D.X)(hg:y.g=g)(hR:Runs true H.P false (Qu H i) y)(hw:BR true y.X y.w w)(hd:D.d=⟨7,0,0⟩)(hs:g.status=.running)(hof:g.offers=none):WS i D g w
 |r0(hr:D.rank=none)(f:Nat)(hd:D.d=⟨7,f,0⟩)(hs:Goes H.P false (RW H.ty H.Wg H.C H.n 0 (i+1-1)) (DT H (i+1)) (AtR0 H.P H.ty H.Wg H.C H.n 0 (i+1) D.v) f g w)(hQ:H.Q i D.own D.X D.v w):WS i D g w
 |tail(hr:D.rank=none)(h6:D.d.stage<=6)(hs:WSit H.P H.ty H.Wg H.C H.n P9 P9 0 (i+1) D.v D.d.stage D.d.fuel D.d.deaf g w)(hQ:H.Q i D.own D.X D.v w):WS i D g w
structure Oth(i:Nat)(X:JB)(w w':JE):Prop where
 rely:BR true X w w'
 rw:RW H.ty H.Wg H.C H.n 0 i w w'
omit [Payload] in
theorem BR.trans{st:Bool}{X:JB}{w w1 w2:JE}(h:BR st X w w1)(k:BR st X w1 w2):BR st X w w2:=
 ⟨λb hb=>(k.blocks b hb).trans (h.blocks b hb),BN h.size k.size,λe=>(k.same e).trans (h.same e),k.os.trans h.os⟩
variable(hQ:∀i own X v w w',H.Q i own X v w->BR true X w w'->H.Q i own X v w')
include hQ in
theorem WS.other{i:Nat}{D:CG}{g:JF}{w w':JE}(h:WS H i D g w)(o:Oth H i D.X w w'):WS H i D g w':=by
 cases h with
 |work y hr ho hX hg hR hw hd hs hof=>exact .work y hr ho hX hg hR (hw.trans (by rw[hX];exact o.rely)) hd hs hof
 |r0 hr f hd hs gI=>exact .r0 hr f hd (Goes.rely (λ_ _ _ a b=>a.trans b) hs o.rw) (hQ _ _ _ _ _ _ gI o.rely)
 |tail hr h6 hs gI=>exact .tail hr h6 (hs.rely o.rw) (hQ _ _ _ _ _ _ gI o.rely)
inductive DW where
 |al|st (s:Nat)|kds (s:Nat)|a1 (s:Nat)|rd (s:Nat)|kes (s:Nat)|go (s:Nat)
 |kd|anch|w1|w2 (vs:Nat)|wr|w3|blk|w4|ke|acq|fin
def DK(n v:Nat):DW->Nat
 |.al=>8*n+40 | .st _=>8*n+39 | .kds _=>8*n+38 | .a1 _=>8*n+37 | .rd _=>8*n+36 | .kes _=>8*n+35 | .go _=>8*n+34
 |.kd=>8*n+20
 |.anch=>8*v+6
 |.w1=>8*v+5
 |.w2 vs=>8*vs+4
 |.wr=>8
 |.w3=>5
 |.blk=>5
 |.w4=>4
 |.ke=>3
 |.acq=>2
 |.fin=>1
def He:DW->Nat
 |.rd _ | .kes _ | .go _=>1
 |_=>0
def Y8:DW->Prop
 |.al | .st _ | .kds _ | .a1 _ | .rd _ | .kes _ | .go _ | .kd | .anch | .w1 | .w2 _=>True
 |_=>False
def jw3:DW->Prop
 |.wr | .w3 | .blk=>True
 |_=>False
def Jsj:DW->Prop
 |.w4 | .ke | .acq | .fin=>True
 |_=>False
inductive Ju(j:Nat)(D:Nat->WD):DW->Int->Int->Prop
 |opn{tag:DW}:Y8 tag->OpenSt j D->(∀vs,tag=.w2 vs->Vc j D<=vs/\1<=vs)->Ju j D tag (((Vc j D+He tag:Nat):Int)*KK) 0
 |reg{tag:DW}:jw3 tag->OpenSt j D->1<=Vc j D->Ju j D tag (((Vc j D:Nat):Int)*KK+1) 0
 |last{tag:DW}(L:Nat):jw3 tag->L<j->((D L).stage=4\/(D L).stage=3\/(D L).stage=2)->(∀i,i<j->i≠L->(D i).stage=1)->Ju j D tag (if(D L).stage=2 then 0 else 1) 0
 |sema{tag:DW}:(tag=.wr\/tag=.w3)->AllQuit j D->Ju j D tag 0 1
 |fin{tag:DW}:Jsj tag->AllQuit j D->Ju j D tag 0 0
def JGo(i s:Nat)(Next:JF->JE->Prop)(g:JF)(w:JE):Prop:=
 g.status=.running/\((∀b,H.Sh0 b->w.heap[b]?=H.w0.heap[b]?)->w.heap[s]?=some (.cells #[JK i] H.tI)->w.os=H.w0.os ->
  ∃g' child,stepG H.P true g w=.spawn g' child w #[]/\child.status=.running/\child.offers=none/\Runs true H.P false (Qu H i) ⟨λ_=>False,λb=>H.Sh0 b\/b=s,child,w⟩/\g'.status=.running/\Next g' w)
def JSt(i s:Nat)(Next:JF->JE->Prop)(g:JF)(w:JE):Prop:=
 g.status=.running/\(w.heap[s]?=some (.cells #[JK 0] H.tI)->∃g',stepG H.P true g w=.go g' (w.setCell ⟨s,0,none⟩ (JK i)) #[⟨.cell ⟨s,0,none⟩,true,false⟩] /\
  ∃k,(Goes H.P true (RM H.ty H.Wg) DC0) (dI H.P H.ty H.Wg (JGo H i s Next)) k g' (w.setCell ⟨s,0,none⟩ (JK i)))
def JAl(i:Nat)(Next:JF->JE->Prop)(g:JF)(w:JE):Prop:=
 g.status=.running/\∃g',stepG H.P true g w=.go g' { w with heap:=w.heap.push (.cells #[JK 0] H.tI) } #[] /\
  ∃k,(Goes H.P true (RM H.ty H.Wg) DC0) (JSt H i w.heap.size Next) k g' { w with heap:=w.heap.push (.cells #[JK 0] H.tI) }
def JSp:Nat->JF->JE->Prop
 |0,g,w=>∃k,(Goes H.P true (RM H.ty H.Wg) DC0) (JKd H.P H.ty H.Wg H.Anch) k g w
 |r+1,g,w=>∃k,(Goes H.P true (RM H.ty H.Wg) DC0) (JAl H (H.n-(r+1)) (JSp r)) k g w
inductive Dz:DW->Nat->Nat->Nat->JF->JE->Prop
 |al{r f:Nat}{g:JF}{w:JE}:r<H.n->(Goes H.P true (RM H.ty H.Wg) DC0) (JAl H (H.n-(r+1)) (JSp H r)) f g w->Dz .al (H.n-(r+1)) f 0 g w
 |st{r s f:Nat}{g:JF}{w:JE}:r<H.n->(Goes H.P true (RM H.ty H.Wg) DC0) (JSt H (H.n-(r+1)) s (JSp H r)) f g w->Dz (.st s) (H.n-(r+1)) f 0 g w
 |kds{r s f:Nat}{g:JF}{w:JE}:r<H.n->(Goes H.P true (RM H.ty H.Wg) DC0) (dI H.P H.ty H.Wg (JGo H (H.n-(r+1)) s (JSp H r))) f g w->Dz (.kds s) (H.n-(r+1)) f 0 g w
 |a1{r s f:Nat}{g:JF}{w:JE}:r<H.n->(Goes H.P true (RM H.ty H.Wg) DC0) (JA1 H.P H.ty H.Wg (JGo H (H.n-(r+1)) s (JSp H r))) f g w->Dz (.a1 s) (H.n-(r+1)) f 1 g w
 |rd{r s f:Nat}{g:JF}{w:JE}:r<H.n->(Goes H.P true (RM H.ty H.Wg) DC0) (JRd H.P H.ty H.Wg (JGo H (H.n-(r+1)) s (JSp H r))) f g w->Dz (.rd s) (H.n-(r+1)) f 1 g w
 |kes{r s f:Nat}{g:JF}{w:JE}:r<H.n->(Goes H.P true (RM H.ty H.Wg) DC0) (Jtj H.P H.ty H.Wg (JGo H (H.n-(r+1)) s (JSp H r))) f g w->Dz (.kes s) (H.n-(r+1)) f 1 g w
 |go{r s f:Nat}{g:JF}{w:JE}:r<H.n->(Goes H.P true (RM H.ty H.Wg) DC0) (JGo H (H.n-(r+1)) s (JSp H r)) f g w->Dz (.go s) (H.n-(r+1)) f 0 g w
 |kd{f:Nat}{g:JF}{w:JE}:(Goes H.P true (RM H.ty H.Wg) DC0) (JKd H.P H.ty H.Wg H.Anch) f g w->Dz .kd H.n f 0 g w
 |anch{f:Nat}{g:JF}{w:JE}:(Goes H.P true (RM H.ty H.Wg) DC0) H.Anch f g w->Dz .anch H.n f 1 g w
 |w1{f:Nat}{g:JF}{w:JE}:(Goes H.P true (RM H.ty H.Wg) DC0) (JW1 H.P H.ty H.Wg H.Fin H.Anch) f g w->Dz .w1 H.n f 1 g w
 |w2{vs f:Nat}{g:JF}{w:JE}:(Goes H.P true (RM H.ty H.Wg) DC0) (JW2 H.P H.ty H.Wg H.Fin H.Anch vs) f g w->Dz (.w2 vs) H.n f 1 g w
 |wr{f:Nat}{g:JF}{w:JE}:(Goes H.P true (RM H.ty H.Wg) DC0) (JWr H.P H.ty H.Wg H.Fin) f g w->Dz .wr H.n f 1 g w
 |w3{f:Nat}{g:JF}{w:JE}:(Goes H.P true (RM H.ty H.Wg) DC0) (JW3 H.P H.ty H.Wg H.Fin) f g w->Dz .w3 H.n (f+1) 1 g w
 |blk{g:JF}{w:JE}:(∀wZ1,RM H.ty H.Wg w wZ1->JW3 H.P H.ty H.Wg H.Fin g wZ1)->Dz .blk H.n 0 1 { g with status:=.blocked } w
 |w4{f:Nat}{g:JF}{w:JE}:(Goes H.P true (RM H.ty H.Wg) DC0) (JW4 H.P H.ty H.Wg H.Fin) f g w->Dz .w4 H.n f 1 g w
 |ke{f:Nat}{g:JF}{w:JE}:(Goes H.P true (RM H.ty H.Wg) DC0) (JKe H.P H.ty H.Wg H.Fin) f g w->Dz .ke H.n f 1 g w
 |acq{f:Nat}{g:JF}{w:JE}:(Goes H.P true (RM H.ty H.Wg) DC0) (YI H.P H.ty H.Wg H.Fin) f g w->Dz .acq H.n f 0 g w
 |fin{f:Nat}{g:JF}{w:JE}:(Goes H.P true (RM H.ty H.Wg) DC0) H.Fin f g w->Dz .fin H.n f 0 g w
omit [Payload] in
theorem Hw{ty:JH}{Wg:Nat}(a b c:JE)(h:RM ty Wg a b)(k:RM ty Wg b c):RM ty Wg a c:=λx=>k (h x)
theorem Dz.rely{tag:DW}{j f d:Nat}{g:JF}{w w':JE}(h:Dz H tag j f d g w)(r:RM H.ty H.Wg w w'):Dz H tag j f d g w':=by
 cases h with
 |al hr h=>exact .al hr (Goes.rely Hw h r)
 |st hr h=>exact .st hr (Goes.rely Hw h r)
 |kds hr h=>exact .kds hr (Goes.rely Hw h r)
 |a1 hr h=>exact .a1 hr (Goes.rely Hw h r)
 |rd hr h=>exact .rd hr (Goes.rely Hw h r)
 |kes hr h=>exact .kes hr (Goes.rely Hw h r)
 |go hr h=>exact .go hr (Goes.rely Hw h r)
 |kd h=>exact .kd (Goes.rely Hw h r)
 |anch h=>exact .anch (Goes.rely Hw h r)
 |w1 h=>exact .w1 (Goes.rely Hw h r)
 |w2 h=>exact .w2 (Goes.rely Hw h r)
 |wr h=>exact .wr (Goes.rely Hw h r)
 |w3 h=>exact .w3 (Goes.rely Hw h r)
 |blk h=>exact .blk λwZ1 h₁=>h wZ1 (Hw _ _ _ r h₁)
 |w4 h=>exact .w4 (Goes.rely Hw h r)
 |ke h=>exact .ke (Goes.rely Hw h r)
 |acq h=>exact .acq (Goes.rely Hw h r)
 |fin h=>exact .fin (Goes.rely Hw h r)
end
def Qv:Loc->Option Nat
 |.cell a=>some a.block
 |.obj r=>some r
 |_=>none
section
variable[Payload](H:Ph)
def ShJ:Loc->Prop:=ShW (λb=>H.W b\/b=H.Wg)
def Ky(j:Nat)(D:Nat->CG):Nat->Loc->Prop:=λg l=>∃i,i<j/\g=H.m+1+i/\((∃b,Qv l=some b/\(D i).own b)\/l=.cell ⟨H.C,i,none⟩)
def RdJ(j:Nat)(D:Nat->CG):Nat->Loc->Prop:=λg l=>∃i,i<j/\g=H.m+1+i/\∃b,Qv l=some b/\(D i).X b/\¬(D i).own b
structure JW(j:Nat)(D:Nat->CG)(w:JE):Prop where
 keep:∀b,H.Sh0 b\/H.W b->w.heap[b]?=H.w0.heap[b]?
 pay:PayAt H.C H.n w
 has:∀i,i<j->(D i).d.stage<=6->Has H.C i (D i).v w
 low:∀i,i<j->∀b,(D i).X b->b<w.heap.size
 Ie:∀i,i<j->∀b,(D i).own b->(D i).X b
 NM:∀i i',i<j->i'<j->i≠i'->∀b,(D i).own b->¬(D i').X b
 Oz:∀i,i<j->∀b,(D i).own b->¬H.Sh0 b/\H.Wg<b
 avoid:∀i,i<j->∀b,(D i).X b->b≠H.Wg/\b≠H.C/\¬H.W b
 wg:H.Wg<w.heap.size
 c:H.C<w.heap.size
 cw:H.C≠H.Wg
 cW:¬H.W H.C
 wW:¬H.W H.Wg
 sh0:∀b,H.Sh0 b->b<w.heap.size/\b≠H.Wg/\b≠H.C/\¬H.W b
 wl:∀b,H.W b->b<w.heap.size
 os:w.os=H.w0.os
 out:w.output=H.w0.output
structure JT(j:Nat)(D:Nat->CG)(d0:Nat)(w:JE)(t:Trace):Prop where
 ct:CT (ShJ H) (Ky H j D) (RdJ H j D) t (H.m+j)
 pre:∃u,t=H.t0++u
 low:∀op∈t,op.act.low w.heap.size
 new:∀i op x,H.t0.size<=i->t[i]?=some op->op.act.touch?=some x->(op.g=0\/∃i',i'<j/\op.g=H.m+1+i')/\(¬ShJ H x.loc->x.kind=.plain/\x.loc.isMemory=true)
 UZ:NoRelease (stA H.Wg) t
 deaf0:Deaf t 0=d0
 deafW:∀i,i<j->Deaf t (H.m+1+i)=(D i).d.deaf
 above:∀k,H.m+j<k->Deaf t k=0
 rel:∀i,i<j->(D i).d.stage<=6->∃r,RelBy (stA H.Wg) t (H.m+1+i) r
variable{H}
theorem Jqh{l:Loc}{b B:Nat}(h:Qv l=some b):l.low B↔b<B:=by
 cases l<;>simp[Qv]at h
 .subst h;exact Iff.rfl
 .subst h;exact Iff.rfl
theorem Jg3{l:Loc}{b:Nat}(h:Qv l=some b)(hs:ShJ H l):H.W b\/b=H.Wg:=by
 obtain⟨a,rfl,hw⟩:=hs;simp[Qv]at h
 grind
theorem JW.apart{j:Nat}{D:Nat->CG}{w:JE}(h:JW H j D w):Apart (ShJ H) (Ky H j D) (RdJ H j D):=by
 have cne:∀i,i<j->∀b,Qv (.cell ⟨H.C,i,none⟩)=some b->b=H.C:=λi _ b hb=>by simp[Qv]at hb;exact hb.symm
 refine⟨?_,?_,?_,?_⟩
 .rintro k k' l ⟨i,hi,rfl,h1⟩ ⟨i',CW,rfl,h2⟩;by_cases e:i=i'
  .rw[e]
  .exfalso;rcases h1 with⟨b,hb,ho⟩|rfl
   .rcases h2 with⟨b',BO,Em⟩|rfl
    .rw[hb]at BO;cases BO;exact h.NM i i' hi CW e b ho (h.Ie i' CW b Em)
    .have:=cne i' CW b hb;exact(h.avoid i hi b (h.Ie i hi b ho)).2.1 this
   .rcases h2 with⟨b',BO,Em⟩|h2
    .have:=cne i hi b' BO;exact(h.avoid i' CW b' (h.Ie i' CW b' Em)).2.1 this
    grind
 .rintro k k' l ⟨i,hi,rfl,h1⟩ ⟨i',CW,e,b',BO,hX,hn⟩;rcases h1 with⟨b,hb,ho⟩|rfl
  .have e2:b=b':=Aa (hb.symm.trans BO);subst e2;by_cases e:i=i'
   .grind
   .exact h.NM i i' hi CW e b ho hX
  .have:=cne i hi b' BO;exact(h.avoid i' CW b' hX).2.1 this
 .rintro k l ⟨i,hi,rfl,h1⟩ hs;rcases h1 with⟨b,hb,ho⟩|rfl
  .have ha:=h.avoid i hi b (h.Ie i hi b ho)
   grind[Jg3]
  .rcases Jg3 (b:=H.C) rfl hs with hw|hw
   .exact h.cW hw
   .exact h.cw hw
 .rintro k l ⟨i,hi,rfl,b,hb,hX,hn⟩ hs;have ha:=h.avoid i hi b hX
  grind[Jg3]
theorem Jy6{j:Nat}{D:Nat->CG}{i:Nat}(hi:i<j){e:Event}(h:EvG (D i).own (D i).X e)(fn:JG)(pos:String):OkW (ShJ H) (Ky H j D) (RdJ H j D) (H.m+1+i) { g:=H.m+1+i,fn,pos,act:=.ofEvent e }:=by
 refine⟨rfl,λx hx=>?_⟩;obtain⟨loc,wr,sy⟩:=e;have key:∀b,Qv loc=some b->((D i).X b/\(wr=true->(D i).own b))->x.loc=loc->x.write=wr->Ky H j D (H.m+1+i) x.loc\/(RdJ H j D (H.m+1+i) x.loc/\x.write=false):=by
  intro b hb ⟨h1,h2⟩ e1 e2;by_cases ho:(D i).own b
  .exact .inl ⟨i,hi,rfl,.inl ⟨b,by grind,ho⟩⟩
  .refine .inr ⟨⟨i,hi,rfl,b,by grind,h1,ho⟩,?_⟩
   grind
 cases loc with
 |cell a=>
  obtain⟨h1,h3⟩:=h;simp only at h3;subst h3;have Af:=hx;simp only[MemAct.ofEvent,MemAct.touch?,Cb]at Af;subst Af;exact .inr (key _ rfl h1 rfl rfl)
 |obj r=>
  obtain⟨h1,h3⟩:=h;simp only at h3;subst h3;have Af:=hx;have e:MemAct.ofEvent ⟨.obj r,wr,false⟩=.access ⟨.obj r,wr,false⟩:=by cases wr<;>rfl
  simp only[e,MemAct.touch?,Cb]at Af;subst Af;exact .inr (key _ rfl h1 rfl rfl)
 |mark m=>cases m<;>first|exact h.elim|(simp[MemAct.ofEvent,MemAct.touch?]at hx)
 |output=>exact h.elim
 |goroutines=>exact h.elim
theorem Jqi{own X:JB}{e:Event}(h:EvG own X e){x:Touch}(hx:(MemAct.ofEvent e).touch?=some x):x.kind=.plain/\x.loc.isMemory=true:=by
 obtain⟨loc,wr,sy⟩:=e;cases loc with
 |cell a=>
  obtain⟨h1,h3⟩:=h;simp only at h3;subst h3;simp only[MemAct.ofEvent,MemAct.touch?,Cb]at hx;subst hx;exact⟨rfl,rfl⟩
 |obj r=>
  obtain⟨h1,h3⟩:=h;simp only at h3;subst h3;have e:MemAct.ofEvent ⟨.obj r,wr,false⟩=.access ⟨.obj r,wr,false⟩:=by cases wr<;>rfl
  simp only[e,MemAct.touch?,Cb]at hx;subst hx;exact⟨rfl,rfl⟩
 |mark m=>cases m<;>first|exact h.elim|(simp[MemAct.ofEvent,MemAct.touch?]at hx)
 |output=>exact h.elim
 |goroutines=>exact h.elim
theorem Jy7{own X:JB}{B:Nat}{e:Event}(h:EvG own X e)(hB:∀b,X b->b<B):(MemAct.ofEvent e).low B:=(h.evL (W:=λ_=>False) (λ_ h=>h.elim) hB).2.2.2
theorem J9z{own X:JB}{e:Event}(h:EvG own X e):e.loc≠.mark .disable/\e.loc≠.mark .enable/\∀a,e.loc≠.mark (.release a):=by refine⟨?_,?_,λa=>?_⟩<;>(intro he;unfold EvG at h;grind)
end
section
variable[Payload](H:Ph)
def Va(tag:DW)(j:Nat)(D:Nat->CG)(w:JE):Prop:=
 let mine (s:Nat):Prop:=¬H.Sh0 s/\(∀i,i<j->¬(D i).X s)/\s≠H.Wg/\s≠H.C/\¬H.W s
 match tag with
 |.st s=>w.heap[s]?=some (.cells #[.int .i64 0] H.tI)/\mine s
 |.kds s | .a1 s | .rd s | .kes s | .go s=>w.heap[s]?=some (.cells #[.int .i64 j] H.tI)/\mine s
 |_=>True
def TS(j:Nat)(t:Trace):Prop:=
 ∃q,t.act? q=some (.mark (.acquire (stA H.Wg)))/\t.g? q=some 0/\t.heard q/\∀i,i<j->∃r,RelBy (stA H.Wg) t (H.m+1+i) r/\r<q
structure JInv(tag:DW)(j:Nat)(D:Nat->CG)(f0 d0:Nat)(q:Nat->Nat)(gs:Array JF)(w:JE)(t:Trace):Prop where
 jn:j<=H.n
 size:gs.size=H.m+1+j
 main:∃a,gs[0]?=some a/\Dz H tag j f0 d0 a w
 ws:∀i,i<j->∃g,gs[H.m+1+i]?=some g/\WS H i (D i) g w
 old:∀k g,0<k->k<=H.m->gs[k]?=some g->QuitsD H.P (q k) (Deaf t k) g
 jw:JW H j D w
 jt:JT H j D d0 w t
 wg:∃st sm,WgAt H.ty H.Wg w st sm/\Ju j (λi=>(D i).d) tag st sm
 sb:Va H tag j D w
 acq:tag=.fin->TS H j t
def ranks(j:Nat)(D:Nat->CG):List (Nat × Option Sit):=(List.range j).map λi=>(i,(D i).rank)
def mu(tag:DW)(j:Nat)(D:Nat->CG)(f0:Nat)(q:Nat->Nat):Nat × Nat:=
 (DK H.n (Vc j λi=>(D i).d) tag+Ssum j (λi=>(D i).d),f0+2*Fsum j (λi=>(D i).d)+2*sumTo (H.m+1) q)
abbrev Jn8:(Nat × Option Sit)->(Nat × Option Sit)->Prop:=Jn7 λi=>Wq true H.P false (Qu H i)
def Falls(r':Nat)(l':List (Nat × Option Sit))(μ':Nat × Nat)(r:Nat)(l:List (Nat × Option Sit))(μ:Nat × Nat):Prop:=
 r'<r\/(r'=r/\Qs (Jn8 H) l' l)\/(r'=r/\l'=l/\Prod.Lex (· < ·) (· < ·) μ' μ)
variable{H}
theorem Jqj{j i:Nat}{D:Nat->CG}{D':CG}(hi:i<j):ranks j (upd D i D')=(ranks j D).set i (i,D'.rank):=by
 apply List.ext_getElem?;intro k;unfold ranks;rw[List.getElem?_set];simp only[List.getElem?_map,List.getElem?_range',FQ,List.length_range];by_cases hk:k<j
 .rw[List.getElem?_range hk];by_cases e:i=k
  all_goals simp_all[upd_same,upd_ne,Ne.symm]
 grind
theorem Jn9{j i:Nat}{D:Nat->CG}{D':CG}(hi:i<j)(h:D'.rank=(D i).rank):ranks j (upd D i D')=ranks j D:=by
 unfold ranks
 grind[List.map_congr_left,upd_same,upd_ne]
theorem Jdt{j i:Nat}{D:Nat->CG}{D':CG}(hi:i<j)(h:Wq true H.P false (Qu H i) D'.rank (D i).rank):Qs (Jn8 H) (ranks j (upd D i D')) (ranks j D):=by rw[Jqj hi];exact Jh4 (y:=(i,(D i).rank)) (by simp[ranks,hi]) ⟨rfl,h⟩
theorem JInv.Jtn{tag:DW}{j:Nat}{D:Nat->CG}{f0 d0:Nat}{q:Nat->Nat}{gs:Array JF}{w:JE}{t:Trace}(h:JInv H tag j D f0 d0 q gs w t):Acc (Qs (Jn8 H)) (ranks j D):=by
 refine Jqg _ λa ha=>?_;unfold ranks at ha;obtain⟨i,hi,rfl⟩:=AZ.1 ha;obtain⟨g,_,hw⟩:=h.ws i (by grind);show Acc (Wq true H.P false (Qu H i)) (D i).rank;cases hw with
 |work y hr _ _ _ hR=>rw[hr];exact Jn6 hR.acc
 |r0 hr=>grind[J8t]
 |tail hr=>grind[J8t]
theorem Ws(D:Nat->CG)(i:Nat)(D':CG):(λk=>(upd D i D' k).d)=upd (λk=>(D k).d) i D'.d:=by
 grind[upd_same,upd_ne]
theorem Dz.woken{tag:DW}{j f d:Nat}{a:JF}{w w':JE}(hA:∀g w,H.Anch g w->g.status=.running)(hF:∀g w,H.Fin g w->g.status=.running)(hl:WgLive H.ty H.Wg w)(h:Dz H tag j f d a w)(r:RM H.ty H.Wg w w')(g g':JF) :
  ∃tag' f',Dz H tag' j f' d (Conc.woken H.P g g' w' a) w'/\f'<=f+1/\(tag'=tag\/(tag=.blk/\tag'=.w3))/\(mayWake H.P g=true->g'.status=.running->tag'≠.blk):=by
 have run:∀{a:JF}{w:JE},a.status=.running->Conc.woken H.P g g' w' a=a:=λhr=>woken_run hr;have gm:∀{Stop:JF->JE->Prop}{n:Nat},(∀g w,Stop g w->g.status=.running)->Goes H.P true (RM H.ty H.Wg) DC0 Stop n a w->a.status=.running:=λhs hg=>Goes.running hs w id hg;have same:a.status=.running->tag≠.blk->∃tag' f',Dz H tag' j f' d (Conc.woken H.P g g' w' a) w'/\f'<=f+1/\(tag'=tag\/(tag=.blk/\tag'=.w3))/\(mayWake H.P g=true->g'.status=.running->tag'≠.blk):=
  λhr hb=>⟨tag,f,by rw[run (w:=w) hr];exact h.rely H r,by omega,.inl rfl,λ_ _=>hb⟩
 cases h with
 |al hr h=>exact same (gm (λ_ _ x=>x.1) h) (by simp)
 |st hr h=>exact same (gm (λ_ _ x=>x.1) h) (by simp)
 |kds hr h=>exact same (gm (λ_ _ x=>x.1) h) (by simp)
 |a1 hr h=>exact same (gm (λ_ _ x=>x.1) h) (by simp)
 |rd hr h=>exact same (gm (λ_ _ x=>x.1) h) (by simp)
 |kes hr h=>exact same (gm (λ_ _ x=>x.1) h) (by simp)
 |go hr h=>exact same (gm (λ_ _ x=>x.1) h) (by simp)
 |kd h=>exact same (gm (λ_ _ x=>x.1) h) (by simp)
 |anch h=>grind
 |w1 h=>exact same (gm (λ_ _ x=>x.1) h) (by simp)
 |w2 h=>exact same (gm (λ_ _ x=>x.1) h) (by simp)
 |wr h=>exact same (gm (λ_ _ x=>x.1) h) (by simp)
 |w3 h=>exact same (gm (λ_ _ x=>x.1) h) (by simp)
 |w4 h=>exact same (gm (λ_ _ x=>x.1) h) (by simp)
 |ke h=>exact same (gm (λ_ _ x=>x.1) h) (by simp)
 |acq h=>exact same (gm (λ_ _ x=>x.1) h) (by simp)
 |fin h=>grind
 |@blk g0 w1 h=>
  have h3:=h w id;by_cases hw:(mayWake H.P g && g'.status != .blocked && g'.status != .waiting)=true
  .refine⟨.w3,1,?_,by omega,.inr ⟨rfl,rfl⟩,λ_ _=>by simp⟩;have e:Conc.woken H.P g g' w' { g0 with status:=.blocked }=g0:=by unfold Conc.woken;rw[if_pos hw];obtain⟨fr,cs,st,dy,of⟩:=g0;obtain⟨a1,a2,_⟩:=h3;simp only at a1 a2;subst a1 a2;rfl
   rw[e];exact .w3 (f:=0) (Goes.stop λwZ1 h₁=>h wZ1 (Hw _ _ _ r h₁))
  .refine⟨.blk,0,?_,by omega,.inl rfl,λh1 h2=>?_⟩
   .have e:Conc.woken H.P g g' w' { g0 with status:=.blocked }={ g0 with status:=.blocked }:=by unfold Conc.woken;grind
    rw[e];exact .blk λwZ1 h₁=>h wZ1 (Hw _ _ _ r h₁)
   grind
end
section
variable[Payload]{H:Ph}
theorem J7m{P:Program}{g g' b:JF}{w':JE}(h:b.status=.running\/b.status=.finished):Conc.woken P g g' w' b=b:=by
 unfold Conc.woken;split
 .unfold Goroutine.again
  grind
 .rfl
theorem WSit.status{P:Program}{ty:JH}{Wg C n NS k:Nat}{Own Rd:Nat->Loc->Prop}{v:JJ}{s m d:Nat}{g:JF}{w:JE}(h:WSit P ty Wg C n Own Rd NS k v s m d g w):g.status=.running\/g.status=.finished:=by
 cases h with
 |r0 h=>exact .inl (Goes.running (λ_ _ x=>x.1) w (RW.refl w) h)
 |k1 h=>exact .inl (Goes.running (λ_ _ x=>x.1) w (RW.refl w) h)
 |d1 h=>exact .inl (Goes.running (λ_ _ x=>x.1) w (RW.refl w) h)
 |d2 h=>exact .inl (Goes.running (λ_ _ x=>x.1) w (RW.refl w) h)
 |d3 h=>exact .inl (Goes.running (λ_ _ x=>x.1) w (RW.refl w) h)
 |d4 h=>exact .inl (Goes.running (λ_ _ x=>x.1) w (RW.refl w) h)
 |quit h=>exact h.status
theorem WS.status{i:Nat}{D:CG}{g:JF}{w:JE}(h:WS H i D g w):g.status=.running\/g.status=.finished:=by
 cases h with
 |work y _ _ _ _ _ _ _ hs=>exact .inl hs
 |r0 _ f _ hs=>exact .inl (Goes.running (λ_ _ x=>x.1) w (RW.refl w) hs)
 |tail _ _ hs=>exact WSit.status hs
theorem JT.appW{j:Nat}{D:Nat->CG}{d0:Nat}{w w':JE}{t:Trace}(h:JT H j D d0 w t){i:Nat}(hi:i<j){D':CG}(hA:Apart (ShJ H) (Ky H j (upd D i D')) (RdJ H j (upd D i D')))(hz:w.heap.size<=w'.heap.size)
  {fn:JG} {pos:String} {es:Array Event} (h0:H.t0.size<=t.size)
  (Aw:∀b,(D i).own b->D'.own b) (Dw:∀b,D'.own b->(D i).own b\/w.heap.size<=b) (Xi:∀b,(D'.X b/\¬D'.own b)↔((D i).X b/\¬(D i).own b))
  (hok:∀e∈es,OkW (ShJ H) (Ky H j (upd D i D')) (RdJ H j (upd D i D')) (H.m+1+i) { g:=H.m+1+i,fn,pos,act:=.ofEvent e })
  (Dp:∀e∈es,(MemAct.ofEvent e).low w'.heap.size) (D8:∀e∈es,∀x,(MemAct.ofEvent e).touch?=some x->¬ShJ H x.loc->x.kind=.plain/\x.loc.isMemory=true)
  (XC:∀e∈es,MemAct.ofEvent e≠.mark (.release (stA H.Wg))) (QI:deafBehind (D i).d.deaf es=D'.d.deaf)
  (hrel:D'.d.stage<=6->∃r,RelBy (stA H.Wg) (t++MemOp.ofEvents (H.m+1+i) fn pos es) (H.m+1+i) r) :
  JT H j (upd D i D') d0 w' (t++MemOp.ofEvents (H.m+1+i) fn pos es):=by
 have hg:∀op∈MemOp.ofEvents (H.m+1+i) fn pos es,op.g=H.m+1+i:=λop Ar=>by obtain⟨e,_,rfl⟩:=Conc.mem_ofEvents Ar;rfl
 have Y9:∀k,k<j->k≠i->upd D i D' k=D k:=λk _ hk=>upd_ne D D' hk;have hct:CT (ShJ H) (Ky H j (upd D i D')) (RdJ H j (upd D i D')) t (H.m+j):=by
  refine Sim.CT.widen h.ct ?_ ?_ ?_
  .rintro k _ _ l ⟨a,ha,rfl,h1⟩;refine⟨a,ha,rfl,?_⟩
   grind[upd_same]
  .rintro k _ _ l ⟨a,ha,rfl,h1⟩;by_cases e:a=i
   .subst e;rw[upd_same]at h1;rcases h1 with⟨b,hb,ho⟩|rfl
    .rcases Dw b ho with ho|Et
     .exact .inl ⟨a,ha,rfl,.inl ⟨b,hb,ho⟩⟩
     .exact .inr (J9x h.low (λhl=>by have:=(Jqh hb).1 hl;omega))
    .exact .inl ⟨a,ha,rfl,.inr rfl⟩
   .rw[Y9 a ha e]at h1;exact .inl ⟨a,ha,rfl,h1⟩
  .intro k _ _ l;constructor
   .rintro⟨a,ha,rfl,b,hb,h1⟩;refine⟨a,ha,rfl,b,hb,?_⟩
    grind[upd_same]
   .rintro⟨a,ha,rfl,b,hb,h1⟩;refine⟨a,ha,rfl,b,hb,?_⟩
    grind[upd_same]
 refine⟨hct.appW hA (k:=H.m+1+i) (by omega) (by omega) λop Ar=>?_,?_,?_,?_,?_,?_,?_,?_,?_⟩
 .obtain⟨e,he,rfl⟩:=Conc.mem_ofEvents Ar;grind
 .obtain⟨u,hu⟩:=h.pre
  grind
 .refine seen_app (λop Ar=>MemAct.low_mono hz (h.low op Ar)) λop Ar=>?_;obtain⟨e,he,rfl⟩:=Conc.mem_ofEvents Ar;grind
 .intro k op x hk Ar hx;rcases getElem?_append_cases Ar with⟨_,h1⟩|⟨_,h1⟩
  .exact h.new k op x hk h1 hx
  .obtain⟨e,he,rfl⟩:=Conc.mem_ofEvents h1
   grind
 .exact h.UZ.app λop Ar=>by obtain⟨e,he,rfl⟩:=Conc.mem_ofEvents Ar;grind
 .rw[Deaf_other t (g:=0) (g':=H.m+1+i) (by omega) _ hg];exact h.deaf0
 .intro k hk;by_cases e:k=i
  .subst e;rw[Deaf_own,h.deafW k hk,upd_same];exact QI
  .rw[Deaf_other t (g:=H.m+1+k) (g':=H.m+1+i) (by omega) _ hg,Y9 k hk e];exact h.deafW k hk
 .intro k hk;rw[Deaf_other t (g:=k) (g':=H.m+1+i) (by omega) _ hg];exact h.above k hk
 .intro k hk hs;by_cases e:k=i
  .grind[upd_same]
  .rw[Y9 k hk e]at hs;obtain⟨r,hr⟩:=h.rel k hk hs;exact⟨r,hr.appOther hg (by omega)⟩
def MR(H:Ph)(tag:DW)(j:Nat)(D:Nat->CG)(f0:Nat)(q:Nat->Nat)(i:Nat)(gs:Array JF)(w:JE)(sl:Option (Nat × Nat))(t:Trace):Prop:=
 ∃BG w' ops tag' j' D' f' d' q',runT H.P (crowd gs w sl) i=(.next (crowd BG w' sl),ops)/\JInv H tag' j' D' f' d' q' BG w' (t++ops) /\
  Falls H (H.n-j') (ranks j' D') (mu H tag' j' D' f' q') (H.n-j) (ranks j D) (mu H tag j D f0 q)
theorem Va.keep{tag tag':DW}{j:Nat}{D D':Nat->CG}{w w':JE}(h:Va H tag j D w)(ht:tag'=tag\/(tag=.blk/\tag'=.w3))(hw:∀s,(∀i,i<j->¬(D i).X s)->s≠H.Wg->s≠H.C->s<w.heap.size->w'.heap[s]?=w.heap[s]?)
  (hX:∀s,s<w.heap.size->(∀i,i<j->¬(D i).X s)->∀i,i<j->¬(D' i).X s):Va H tag' j D' w':=by
 rcases ht with rfl|⟨rfl,rfl⟩
 .have key:∀(s:Nat)(o:Obj),w.heap[s]?=some o->(¬H.Sh0 s/\(∀i,i<j->¬(D i).X s)/\s≠H.Wg/\s≠H.C/\¬H.W s)->w'.heap[s]?=some o/\(¬H.Sh0 s/\(∀i,i<j->¬(D' i).X s)/\s≠H.Wg/\s≠H.C/\¬H.W s):=by
   grind
  cases tag'<;>first|trivial|exact key _ _ h.1 h.2
 .trivial
theorem TS.app{j:Nat}{t u:Trace}(h:TS H j t)(hu:∀i r,i<j->RelBy (stA H.Wg) t (H.m+1+i) r->RelBy (stA H.Wg) (t++u) (H.m+1+i) r):TS H j (t++u):=by
 obtain⟨q,h1,h2,h3,h4⟩:=h;have hq:=lt_of_act? h1;exact⟨q,by grind[act?_old],by grind[g?_old],(heard_old hq).2 h3,λi hi=>let⟨r,hr,hrq⟩:=h4 i hi;⟨r,hu i r hi hr,hrq⟩⟩
end
section
variable[Payload]{H:Ph}{tag:DW}{j:Nat}{D:Nat->CG}{f0 d0:Nat}{q:Nat->Nat}{gs:Array JF}{w:JE}{sl:Option (Nat × Nat)}{t:Trace}
theorem JInv.Jwu(h:JInv H tag j D f0 d0 q gs w t):H.t0.size<=t.size:=by obtain⟨u,hu⟩:=h.jt.pre;rw[hu];simp
theorem JInv.live(h:JInv H tag j D f0 d0 q gs w t):WgLive H.ty H.Wg w:=let⟨st,sm,x,_⟩:=h.wg;⟨st,sm,x⟩
theorem Ju.retag{D:Nat->WD}{tag':DW}{st sm:Int}(h:Ju j D tag st sm)(e:tag'=tag\/(tag=.blk/\tag'=.w3)):Ju j D tag' st sm:=by
 rcases e with rfl|⟨rfl,rfl⟩
 .exact h
 .cases h with
  |opn h1 _ _=>exact h1.elim
  |reg _ h2 h3=>exact .reg trivial h2 h3
  |last L _ h2 h3 h4=>exact .last L trivial h2 h3 h4
  |sema h1 h2=>grind
  |fin h1 _=>exact h1.elim
theorem mY(hQ:∀i own X v w w',H.Q i own X v w->BR true X w w'->H.Q i own X v w')(EO:∀g w,H.Anch g w->g.status=.running)(ES:∀g w,H.Fin g w->g.status=.running)
  (h:JInv H tag j D f0 d0 q gs w t) {i:Nat} (hi:i<j) {g g':JF} {w':JE} {es:Array Event} (hg:gs[H.m+1+i]?=some g) (hgo:stepG H.P false g w=.go g' w' es) {D':CG}
  (hz:w.heap.size<=w'.heap.size) (ho:∀i',i'<j->i'≠i->Oth H i' (D i').X w w') (hws:WS H i D' g' w') (SS:JW H j (upd D i D') w')
  (Aw:∀b,(D i).own b->D'.own b) (Dw:∀b,D'.own b->(D i).own b\/w.heap.size<=b) (Xi:∀b,(D'.X b/\¬D'.own b)↔((D i).X b/\¬(D i).own b)) (hXn:∀b,D'.X b->(D i).X b\/w.heap.size<=b)
  (hok:∀e∈es,OkW (ShJ H) (Ky H j (upd D i D')) (RdJ H j (upd D i D')) (H.m+1+i) { g:=H.m+1+i,fn:=g.frame.fn,pos:=g.frame.place,act:=.ofEvent e })
  (Dp:∀e∈es,(MemAct.ofEvent e).low w'.heap.size) (D8:∀e∈es,∀x,(MemAct.ofEvent e).touch?=some x->¬ShJ H x.loc->x.kind=.plain/\x.loc.isMemory=true)
  (XC:∀e∈es,MemAct.ofEvent e≠.mark (.release (stA H.Wg))) (QI:deafBehind (D i).d.deaf es=D'.d.deaf)
  (hrel:D'.d.stage<=6->∃r,RelBy (stA H.Wg) (t++MemOp.ofEvents (H.m+1+i) g.frame.fn g.frame.place es) (H.m+1+i) r)
  (J049:tag=.fin->∀r,RelBy (stA H.Wg) t (H.m+1+i) r->RelBy (stA H.Wg) (t++MemOp.ofEvents (H.m+1+i) g.frame.fn g.frame.place es) (H.m+1+i) r)
  (hrm:RM H.ty H.Wg w w') {st' sm':Int} (AY:WgAt H.ty H.Wg w' st' sm')
  (Ai:∀tag',(tag'=tag\/(tag=.blk/\tag'=.w3))->(mayWake H.P g=true->g'.status=.running->tag'≠.blk)->Ju j (λk=>(upd D i D' k).d) tag' st' sm')
  (XL:∀s,(∀i',i'<j->¬(D i').X s)->s≠H.Wg->s≠H.C->s<w.heap.size->w'.heap[s]?=w.heap[s]?)
  (J04a:∀tag' f',f'<=f0+1->(tag'=tag\/(tag=.blk/\tag'=.w3))->Falls H (H.n-j) (ranks j (upd D i D')) (mu H tag' j (upd D i D') f' q) (H.n-j) (ranks j D) (mu H tag j D f0 q)) :
  MR H tag j D f0 q (H.m+1+i) gs w sl t:=by
 obtain⟨a,ha,LQ⟩:=h.main;obtain⟨tag',f',Jna,IL,Hu,Zl⟩:=LQ.woken EO ES h.live hrm g g';have Ap:(H.m+1+i == 0)=false:=by simp
 have AB:=runT_crowd_go (P:=H.P) (sl:=sl) (i:=H.m+1+i) hg (by rw[Ap];exact hgo);have Ac:H.m+1+i<gs.size:=(BJ.1 hg).1;have RY:∀op∈MemOp.ofEvents (H.m+1+i) g.frame.fn g.frame.place es,op.g=H.m+1+i:=λop Ar=>by obtain⟨e,_,rfl⟩:=Conc.mem_ofEvents Ar;rfl
 refine⟨_,w',_,tag',j,upd D i D',f',d0,q,AB,⟨h.jn,by simpa using h.size,⟨_,?_,Jna⟩,λk hk=>?_,λk b DI BX hb=>?_,SS,?_,⟨st',sm',AY,Ai tag' Hu Zl⟩,?_,λe'=>?_⟩,J04a tag' f' IL Hu⟩
 .grind
 .by_cases e:k=i
  .grind[Array.getElem?_setIfInBounds_self_of_lt,upd_same]
  .obtain⟨b,hb,N8⟩:=h.ws k hk;refine⟨b,?_,by rw[upd_ne D D' e];exact N8.other H hQ (ho k hk e)⟩;rw[AV (by omega),Array.getElem?_map,hb];simp[J7m N8.status]
 .rw[AV (by omega),Array.getElem?_map]at hb;obtain⟨y,hy,rfl⟩:=Fh.1 hb;have hq:=h.old k y DI BX hy;rw[woken_quitsD hq,Deaf_other t (g:=k) (g':=H.m+1+i) (by omega) _ RY];exact hq
 .exact h.jt.appW hi SS.apart hz h.Jwu Aw Dw Xi hok Dp D8 XC QI hrel
 .refine h.sb.keep Hu XL λs hs hX k hk=>?_
  grind[upd_same,upd_ne]
 .have OC:TS H j t:=by
   rcases Hu with rfl|⟨_,rfl⟩
   .exact h.acq e'
   .cases e'
  refine OC.app λk r hk hr=>?_;by_cases e:k=i
  .grind
  .exact hr.appOther RY (by omega)
theorem RW.of_same{ty:JH}{Wg C n i:Nat}{w w':JE}(h1:w'.heap[Wg]?=w.heap[Wg]?)(h2:w'.heap[C]?=w.heap[C]?):RW ty Wg C n 0 i w w':=
 ⟨λb hb=>by omega,λ⟨st,sm,hl⟩=>⟨st,sm,hl.of_block h1⟩,λ⟨cs,hc,hn⟩=>⟨cs,h2.trans hc,hn⟩,cell_of_block h2 i⟩
theorem Jqk(hQ:∀i own X v w w',H.Q i own X v w->BR true X w w'->H.Q i own X v w')(EO:∀g w,H.Anch g w->g.status=.running)(ES:∀g w,H.Fin g w->g.status=.running)
  (h:JInv H tag j D f0 d0 q gs w t) {i:Nat} (hi:i<j) {y:Sit} (hr:(D i).rank=some y) (ho:y.own=(D i).own) (hX:y.X=(D i).X) (hR:Runs true H.P false (Qu H i) y) (hw:BR true y.X y.w w) (hd:(D i).d=⟨7,0,0⟩)
  (hns:¬ ∀w1,BR true y.X y.w w1->Qu H i { y with w:=w1 }) (hg:gs[H.m+1+i]?=some y.g):MR H tag j D f0 q (H.m+1+i) gs w sl t:=by
 have hR0:=hR;cases hR with
 |stop hs=>grind
 |step f hf kR=>
  have Ba:=hf w hw;obtain⟨es,hgo,hG⟩:=Ba.step;rw[ho,hX]at hG;have hJ:=h.jw;have keep:∀b,b<w.heap.size->¬(D i).own b->(f w).w.heap[b]?=w.heap[b]?:=hG.keep;have dJ:∀b,(∀k,k<j->¬(D k).X b)\/b=H.Wg\/b=H.C\/H.Sh0 b\/(∃k,k<j/\k≠i/\(D k).X b)->¬(D i).own b:=by
   intro b hb XD;have hXb:=hJ.Ie i hi b XD;rcases hb with hb|rfl|rfl|hb|⟨k,hk,Ur,hb⟩
   .grind
   .exact(hJ.avoid i hi _ hXb).1 rfl
   .exact(hJ.avoid i hi _ hXb).2.1 rfl
   .exact(hJ.Oz i hi b XD).1 hb
   .exact hJ.NM i k hi hk (Ne.symm Ur) b XD hb
  have eW:(f w).w.heap[H.Wg]?=w.heap[H.Wg]?:=keep _ hJ.wg (dJ _ (.inr (.inl rfl)));have eC:(f w).w.heap[H.C]?=w.heap[H.C]?:=keep _ hJ.c (dJ _ (.inr (.inr (.inl rfl))));have VD:∀k,RW H.ty H.Wg H.C H.n 0 k w (f w).w:=λk=>RW.of_same eW eC;obtain⟨st,sm,AY,Ai⟩:=h.wg;have eo:(f w).own=grown (D i).own w (f w).w:=by rw[Ba.own,ho]
  have eX:(f w).X=grown (D i).X w (f w).w:=by rw[Ba.X,hX]
  let D':CG:={ own:=(f w).own,X:=(f w).X,v:=(D i).v,rank:=some (f w),d:=⟨7,0,0⟩ }
  have J04b:(λk=>(upd D i D' k).d)=λk=>(D k).d:=by
   rw[Ws]
   grind[upd_same,upd_ne]
  have own':∀b,D'.own b↔(D i).own b\/(w.heap.size<=b/\b<(f w).w.heap.size):=λb=>by show(f w).own b↔_;rw[eo];exact Iff.rfl
  have X':∀b,D'.X b↔(D i).X b\/(w.heap.size<=b/\b<(f w).w.heap.size):=λb=>by show(f w).X b↔_;rw[eX];exact Iff.rfl
  have SS:JW H j (upd D i D') (f w).w:=by
   have other:∀k,k≠i->upd D i D' k=D k:=λk hk=>upd_ne D D' hk;refine⟨λb hb=>(keep b (hb.elim (λh=>(hJ.sh0 b h).1) (hJ.wl b)) (hb.elim (λh=>dJ b (.inr (.inr (.inr (.inl h))))) λh ho=>(hJ.avoid i hi b (hJ.Ie i hi b ho)).2.2 h)).trans (hJ.keep b hb),(VD 0).pay hJ.pay,λk hk hs=>?_,λk hk b hb=>?_,λk hk b hb=>?_,λa b ha hb Oa c hc=>?_,λk hk b hb=>?_,λk hk b hb=>?_,
    DX hJ.wg hG.size,DX hJ.c hG.size,hJ.cw,hJ.cW,hJ.wW,λb hb=>?_,λb hb=>DX (hJ.wl b hb) hG.size,hG.os.trans hJ.os,hG.out.trans hJ.out⟩
   .by_cases e:k=i
    .grind[upd_same]
    .rw[other k e]at hs ⊢;exact(cell_of_block eC k).trans (hJ.has k hk hs)
   .by_cases e:k=i
    .subst e;rw[upd_same]at hb;rcases(X' b).1 hb with hb|hb
     .exact DX (hJ.low k hk b hb) hG.size
     .exact hb.2
    .rw[other k e]at hb;exact DX (hJ.low k hk b hb) hG.size
   .by_cases e:k=i
    .subst e;rw[upd_same]at hb ⊢
     grind
    .rw[other k e]at hb ⊢;exact hJ.Ie k hk b hb
   .by_cases e:a=i
    .subst e;rw[upd_same]at hc;rw[other b (Ne.symm Oa)];rcases(own' c).1 hc with hc|hc
     .grind
     .intro hx;have:=hJ.low b hb c hx;omega
    .rw[other a e]at hc;by_cases e2:b=i
     .subst e2;rw[upd_same];intro hx;rcases(X' c).1 hx with hx|hx
      .exact hJ.NM a b ha hb Oa c hc hx
      .have:=hJ.low a ha c (hJ.Ie a ha c hc);omega
     .rw[other b e2];exact hJ.NM a b ha hb Oa c hc
   .by_cases e:k=i
    .subst e;rw[upd_same]at hb;rcases(own' b).1 hb with hb|hb
     .exact hJ.Oz _ hk b hb
     .refine⟨λhs=>?_,by have:=hJ.wg;omega⟩;have:=(hJ.sh0 b hs).1;omega
    .rw[other k e]at hb;exact hJ.Oz k hk b hb
   .by_cases e:k=i
    .subst e;rw[upd_same]at hb;rcases(X' b).1 hb with hb|hb
     .exact hJ.avoid k hk b hb
     .have h1:=hJ.wg;have h2:=hJ.c;exact⟨by omega,by omega,λhw=>by have:=hJ.wl b hw;omega⟩
    .rw[other k e]at hb;exact hJ.avoid k hk b hb
   .have:=hJ.sh0 b hb
    grind
  have Fq:∀e∈es,EvG ((upd D i D') i).own ((upd D i D') i).X e:=λe he=>by
   have:=hG.evs e he
   grind[upd_same]
  have J04c:∀b,((upd D i D') i).X b->b<(f w).w.heap.size:=λb hb=>SS.low i hi b hb;refine mY (D':=D') hQ EO ES h hi hg hgo hG.size (λk hk Ur=>⟨⟨λb hb=>keep b (hJ.low k hk b hb) (dJ b (.inr (.inr (.inr (.inr ⟨k,hk,Ur,hb⟩))))),hG.size,λe=>by(cases e),hG.os⟩,VD k⟩)
   (.work (f w) rfl rfl rfl rfl (kR w hw) ⟨λ_ _=>rfl,Ad _,λ_=>rfl,rfl⟩ rfl Ba.run Ba.offers) SS
   (λb hb=>(own' b).2 (.inl hb)) (λb hb=>((own' b).1 hb).imp id (·.1)) (λb=>?_) (λb hb=>((X' b).1 hb).imp id (·.1))
   (λe he=>Jy6 hi (Fq e he) _ _) (λe he=>Jy7 (Fq e he) J04c) (λe he x hx _=>Jqi (Fq e he) hx) (λe he hx=>?_) ?_ (λhs=>absurd hs (by grind)) (λef r hr=>?_) (VD 0).live
   (st':=st) (sm':=sm) (AY.of_block eW) (λtag' ht _=>?_) (λs h1 _ _ h4=>keep s h4 (dJ s (.inl h1))) (λtag' f' _ _=>.inr (.inl ⟨rfl,Jdt hi (by rw[hr];exact .step ⟨⟨w,hw,Ba⟩,hns⟩)⟩))
  .constructor
   .grind
   .rintro⟨h1,h2⟩;refine⟨(X' b).2 (.inl h1),λh3=>?_⟩;rcases(own' b).1 h3 with h3|h3
    .exact h2 h3
    .have:=hJ.low i hi b h1;omega
  .have:=(J9z (Fq e he)).2.2 (stA H.Wg);obtain⟨loc,wr,sy⟩:=e;cases loc with
   |mark m=>simp only[MemAct.ofEvent,MemAct.mark.injEq]at hx;grind
   |obj r=>cases wr<;>cases sy<;>simp[MemAct.ofEvent]at hx
   |_=>simp[MemAct.ofEvent]at hx
  .grind[deafBehind_still,J9z]
  .exfalso;subst ef;cases Ai with
   |opn h1=>exact h1
   |reg h1=>exact h1
   |last L h1=>exact h1
   |sema h1=>grind
   |fin h1 h2=>have:=h2 i hi;grind
  .rw[J04b];exact Ai.retag ht
end
open Go.ConcR (KK wgBlock WgAt stA smA rd wr mk Payload DC0 Bk bk_of_mute ofEvent_loc_mark ofEvent_cell deafBehind_cons deafBehind_one)
section
variable{j:Nat}{D D':Nat->WD}{tag:DW}{st sm:Int}
theorem Ju.congr(h:∀a,a<j->(D' a).stage=(D a).stage)(hm:Ju j D tag st sm):Ju j D' tag st sm:=by
 have hv:Vc j D'=Vc j D:=sumTo_congr λa ha=>by simp only[cnt,h a ha]
 cases hm with
 |opn h1 h2 h3=>rw[<- hv];exact .opn h1 (λa ha=>by rw[h a ha];exact h2 a ha) (λvs e=>by grind)
 |reg h1 h2 h3=>rw[<- hv];exact .reg h1 (λa ha=>by rw[h a ha];exact h2 a ha) (by grind)
 |last L h1 h2 h3 h4=>rw[<- h L h2];exact .last L h1 h2 (by grind) (λa ha e=>by grind)
 |sema h1 h2=>exact .sema h1 λa ha=>by rw[h a ha];exact h2 a ha
 |fin h1 h2=>exact .fin h1 λa ha=>by rw[h a ha];exact h2 a ha
theorem Ju.same{i:Nat}(hm:Ju j D tag st sm)(m' WM:Nat):Ju j (upd D i ⟨(D i).stage,m',WM⟩) tag st sm:=
 hm.congr λa _=>by
  grind[upd_same,upd_ne]
theorem Ju.counted{i:Nat}(hm:Ju j D tag st sm)(hi:i<j)(h5:5<=(D i).stage){s':Nat}(hs:s'=6\/s'=5)(m' WM:Nat):Ju j (upd D i ⟨s',m',WM⟩) tag st sm:=by
 have hv:Vc j (upd D i ⟨s',m',WM⟩)=Vc j D:=by
  have:=Vc_upd D (⟨s',m',WM⟩:WD) hi;have c1:cnt (D i)=1:=by simp[cnt,h5]
  have c2:cnt (⟨s',m',WM⟩:WD)=1:=by rcases hs with rfl|rfl<;>simp[cnt]
  omega
 have ho:OpenSt j D->OpenSt j (upd D i ⟨s',m',WM⟩):=λh a ha=>by
  by_cases e:a=i
  .subst e;rw[upd_same];grind
  .rw[upd_ne D _ e];exact h a ha
 cases hm with
 |opn h1 h2 h3=>rw[<- hv];exact .opn h1 (ho h2) (λvs e=>by grind)
 |reg h1 h2 h3=>rw[<- hv];exact .reg h1 (ho h2) (by grind)
 |last L h1 h2 h3 h4=>
  grind
 |sema _ h2=>have:=h2 i hi;omega
 |fin h1 h2=>have:=h2 i hi;omega
theorem Ju.Jlz{i:Nat}(hm:Ju j D tag st sm)(hi:i<j)(h:(D i).stage≠1):tag≠.fin:=by
 rintro rfl;cases hm with
 |opn h1 _ _=>exact h1
 |reg h1 _ _=>exact h1
 |last L h1 _ _ _=>exact h1
 |sema h1 _=>grind
 |fin _ h2=>exact h (h2 i hi)
theorem Ju.isLast{i:Nat}(hm:Ju j D tag st sm)(hi:i<j)(h:(D i).stage=4\/(D i).stage=3\/(D i).stage=2) :
  jw3 tag/\(∀a,a<j->a≠i->(D a).stage=1)/\st=(if(D i).stage=2 then 0 else 1)/\sm=0:=by
 cases hm with
 |opn _ h2 _=>have:=h2 i hi;omega
 |reg _ h2 _=>have:=h2 i hi;omega
 |last L h1 h2 h3 h4=>
  grind
 |sema _ h2=>have:=h2 i hi;omega
 |fin _ h2=>have:=h2 i hi;omega
theorem Jql(n:Nat){v v':Nat}(h:v'<=v)(tag:DW):DK n v' tag<=DK n v tag:=by cases tag<;>simp only[DK]<;>omega
theorem Jdu(n v:Nat){tag tag':DW}(e:tag'=tag\/(tag=.blk/\tag'=.w3)):DK n v tag'=DK n v tag:=by
 rcases e with rfl|⟨rfl,rfl⟩<;>rfl
end
section
variable[Payload]{H:Ph}{tag:DW}{j:Nat}{D:Nat->CG}{f0 d0:Nat}{q:Nat->Nat}{gs:Array JF}{w:JE}{sl:Option (Nat × Nat)}{t:Trace}
theorem Dz.bound{f d:Nat}{a:JF}(h:Dz H tag j f d a w):j+He tag<=H.n:=by
 cases h<;>simp only[He]<;>(try simp)<;>omega
theorem J8w{i:Nat}(hi:i<j){d':WD}(hr:(D i).rank=none\/True)(h:(d'.stage<(D i).d.stage/\cnt d'<=cnt (D i).d)\/(d'.stage=(D i).d.stage/\d'.fuel+1=(D i).d.fuel)){tag':DW}{f':Nat}(hf:f'<=f0+1)
  (ht:tag'=tag\/(tag=.blk/\tag'=.w3)):Falls H (H.n-j) (ranks j (upd D i { D i with d:=d' })) (mu H tag' j (upd D i { D i with d:=d' }) f' q) (H.n-j) (ranks j D) (mu H tag j D f0 q):=by
 refine .inr (.inr ⟨rfl,Jn9 hi rfl,?_⟩);unfold mu;rw[Ws,Jdu _ _ ht];have e1:=sumTo_upd (λk=>(D k).d) d' cnt hi;have e2:=sumTo_upd (λk=>(D k).d) d' WD.stage hi;have e3:=sumTo_upd (λk=>(D k).d) d' WD.fuel hi;simp only[Vc,Ssum,Fsum]at *;rcases h with⟨h1,h2⟩|⟨h1,h2⟩
 .refine Prod.Lex.left _ _ ?_;have:=Jql H.n (v':=sumTo j λa=>cnt (upd (λk=>(D k).d) i d' a)) (v:=sumTo j λa=>cnt (D a).d) (by omega) tag;omega
 .have ec:cnt d'=cnt (D i).d:=by simp only[cnt,h1]
  have ev:(sumTo j λa=>cnt (upd (λk=>(D k).d) i d' a))=sumTo j λa=>cnt (D a).d:=by omega
  have AU:(sumTo j λa=>(upd (λk=>(D k).d) i d' a).stage)=sumTo j λa=>(D a).d.stage:=by omega
  grind
theorem JW.turn(h:JW H j D w){i:Nat}(hi:i<j){d':WD}{w':JE}(hz:w'.heap.size=w.heap.size)(hb:∀b,b≠H.Wg->b≠H.C->w'.heap[b]?=w.heap[b]?)(hpay:PayAt H.C H.n w')
  (Aq:∀k,k≠i->w'.cell? ⟨H.C,k,none⟩=w.cell? ⟨H.C,k,none⟩) (QL:d'.stage<=6->Has H.C i (D i).v w') (os:w'.os=w.os) (out:w'.output=w.output):JW H j (upd D i { D i with d:=d' }) w':=by
 have sm:∀k,(upd D i { D i with d:=d' } k).own=(D k).own/\(upd D i { D i with d:=d' } k).X=(D k).X/\(upd D i { D i with d:=d' } k).v=(D k).v:=λk=>by
  by_cases e:k=i
  .subst e;rw[upd_same];grind
  .rw[upd_ne D _ e];grind
 refine⟨λb BO=>(hb b (BO.elim (λz=>(h.sh0 b z).2.1) λz e=>h.wW (e▸z)) (BO.elim (λz=>(h.sh0 b z).2.2.1) λz e=>h.cW (e▸z))).trans (h.keep b BO),hpay,λk hk hs=>?_,λk hk b BO=>?_,λk hk b BO=>?_,λa b ha BO Oa c hc=>?_,λk hk b BO=>?_,λk hk b BO=>?_,
  by rw[hz];exact h.wg,by rw[hz];exact h.c,h.cw,h.cW,h.wW,λb BO=>?_,λb BO=>by rw[hz];exact h.wl b BO,os.trans h.os,out.trans h.out⟩
 .rw[(sm k).2.2];by_cases e:k=i
  .grind[upd_same]
  .rw[upd_ne D _ e]at hs;exact(Aq k e).trans (h.has k hk hs)
 .rw[(sm k).2.1]at BO;rw[hz];exact h.low k hk b BO
 .rw[(sm k).1]at BO;rw[(sm k).2.1];exact h.Ie k hk b BO
 .rw[(sm a).1]at hc;rw[(sm b).2.1];exact h.NM a b ha BO Oa c hc
 .rw[(sm k).1]at BO;exact h.Oz k hk b BO
 .rw[(sm k).2.1]at BO;exact h.avoid k hk b BO
 .rw[hz];exact h.sh0 b BO
theorem zQ{Own Rd:Nat->Loc->Prop}{k:Nat}{e:Event}(h:Bk H.Wg e)(fn:JG)(pos:String):OkW (ShJ H) Own Rd k { g:=k,fn,pos,act:=.ofEvent e }:=by
 refine⟨rfl,λx hx=>?_⟩;rcases h with h1|h1|⟨a,wr,rfl,ha⟩
 .simp only[ofEvent_loc_mark h1]at hx;cases hx
 .simp only[ofEvent_loc_mark h1]at hx;cases hx
 .simp only[ofEvent_cell,MemAct.touch?,Cb]at hx;subst hx;exact .inl ⟨⟨a,rfl,.inr ha⟩,by simp,by simp⟩
theorem Jqm{B:Nat}(hB:H.Wg<B){e:Event}(h:Bk H.Wg e):(MemAct.ofEvent e).low B:=by
 rcases h with h1|h1|⟨a,wr,rfl,ha⟩
 .rw[ofEvent_loc_mark h1];trivial
 .rw[ofEvent_loc_mark h1];trivial
 .rw[ofEvent_cell];show a.block<B;omega
theorem Jwv{e:Event}(h:Bk H.Wg e){x:Touch}(hx:(MemAct.ofEvent e).touch?=some x):ShJ H x.loc:=by
 rcases h with h1|h1|⟨a,wr,rfl,ha⟩
 .simp only[ofEvent_loc_mark h1]at hx;cases hx
 .simp only[ofEvent_loc_mark h1]at hx;cases hx
 .simp only[ofEvent_cell,MemAct.touch?,Cb]at hx;subst hx;exact⟨a,rfl,.inr ha⟩
theorem Jjn{e:Event}(h:Bk H.Wg e):MemAct.ofEvent e≠.mark (.release (stA H.Wg)):=by
 rcases h with h1|h1|⟨a,wr,rfl,ha⟩
 all_goals simp_all[ofEvent_loc_mark,ofEvent_cell]
section
variable(hQ:∀i own X v w w',H.Q i own X v w->BR true X w w'->H.Q i own X v w')(EO:∀g w,H.Anch g w->g.status=.running)(ES:∀g w,H.Fin g w->g.status=.running)
include hQ EO ES
theorem J04d(h:JInv H tag j D f0 d0 q gs w t){i:Nat}(hi:i<j){g g':JF}{w':JE}{es:Array Event}{d':WD}{st' sm':Int}(hg:gs[H.m+1+i]?=some g)(hgo:stepG H.P false g w=.go g' w' es)
  (YA:(D i).rank=none) (Vr:H.Q i (D i).own (D i).X (D i).v w) (ER:Aside H.Wg w w') (AY:WgAt H.ty H.Wg w' st' sm') (MF:∀e∈es,Bk H.Wg e)
  (hd:∀jx e,es[jx]?=some e->(MemAct.ofEvent e).touch?=none\/0<deafBehind (D i).d.deaf (es.extract 0 jx)) (h6:(D i).d.stage<=6) (Xb:d'.stage<=6)
  (D9:WSit H.P H.ty H.Wg H.C H.n P9 P9 0 (i+1) (D i).v d'.stage d'.fuel d'.deaf g' w') (Vu:deafBehind (D i).d.deaf es=d'.deaf)
  (Ai:∀tag',(tag'=tag\/(tag=.blk/\tag'=.w3))->(mayWake H.P g=true->g'.status=.running->tag'≠.blk)->Ju j (upd (λk=>(D k).d) i d') tag' st' sm')
  (Ac:(d'.stage<(D i).d.stage/\cnt d'<=cnt (D i).d)\/(d'.stage=(D i).d.stage/\d'.fuel+1=(D i).d.fuel)):MR H tag j D f0 q (H.m+1+i) gs w sl t:=by
 have hJ:=h.jw;have hdk:Deaf t (H.m+1+i)=(D i).d.deaf:=h.jt.deafW i hi;have eC:w'.heap[H.C]?=w.heap[H.C]?:=ER.block H.C hJ.cw;have hX:∀k,k<j->∀b,(D k).X b->w'.heap[b]?=w.heap[b]?:=λk hk b hb=>ER.block b (hJ.avoid k hk b hb).1;have rel:∀k,k<j->BR true (D k).X w w':=λk hk=>⟨λb hb=>hX k hk b hb,Nat.le_of_eq ER.size.symm,λe=>by(cases e),ER.os⟩;have VD:∀k,RW H.ty H.Wg H.C H.n 0 k w w':=λk=>RW.of_wg ER ⟨_,_,AY⟩ hJ.cw;have iZ:RM H.ty H.Wg w w':=λ_=>⟨_,_,AY⟩;have Jv2:∀r,RelBy (stA H.Wg) t (H.m+1+i) r->RelBy (stA H.Wg) (t++MemOp.ofEvents (H.m+1+i) g.frame.fn g.frame.place es) (H.m+1+i) r:=λr hr=>hr.book hdk _ _ MF hd;refine mY (D':={ D i with d:=d' }) hQ EO ES h hi hg hgo (Nat.le_of_eq ER.size.symm) (λk hk _=>⟨rel k hk,VD k⟩) (.tail YA Xb D9 (hQ _ _ _ _ _ _ Vr (rel i hi)))
  (hJ.turn hi ER.size (λb h1 _=>ER.block b h1) ((VD 0).pay hJ.pay) (λk _=>cell_of_block eC k) (λ_=>(cell_of_block eC i).trans (hJ.has i hi h6)) ER.os ER.output)
  (λb hb=>hb) (λb hb=>.inl hb) (λb=>Iff.rfl) (λb hb=>.inl hb) (λe he=>zQ (MF e he) _ _) (λe he=>Jqm (by rw[ER.size];exact hJ.wg) (MF e he)) (λe he x hx hn=>absurd (Jwv (MF e he) hx) hn)
  (λe he=>Jjn (MF e he)) Vu (λ_=>let⟨r,hr⟩:=h.jt.rel i hi h6;⟨r,Jv2 r hr⟩) (λ_ r hr=>Jv2 r hr) iZ AY (λtag' h1 h2=>by rw[Ws];grind)
  (λs _ h2 _ _=>ER.block s h2) (λtag' f' hf ht=>J8w hi (.inr trivial) Ac hf ht)
end
end
theorem Jm0{Wg:Nat}:∀e∈semEvents (smA Wg),Bk Wg e:=by
 intro e he;simp[semEvents]at he;rcases he with rfl|rfl|rfl|rfl
 .exact .inl rfl
 .exact bk_cell _ _ rfl
 .exact bk_cell _ _ rfl
 .exact .inr (.inl rfl)
section
variable[Payload]{H:Ph}{tag:DW}{j:Nat}{D:Nat->CG}{f0 d0:Nat}{q:Nat->Nat}{gs:Array JF}{w:JE}{sl:Option (Nat × Nat)}{t:Trace}
section
variable(hQ:∀i own X v w w',H.Q i own X v w->BR true X w w'->H.Q i own X v w')(EO:∀g w,H.Anch g w->g.status=.running)(ES:∀g w,H.Fin g w->g.status=.running)
include hQ EO ES
theorem Jy8(h:JInv H tag j D f0 d0 q gs w t){i:Nat}(hi:i<j){g:JF}{f:Nat}(hg:gs[H.m+1+i]?=some g)(YA:(D i).rank=none)(hd:(D i).d=⟨7,f,0⟩)
  (hs:Goes H.P false (RW H.ty H.Wg H.C H.n 0 (i+1-1)) (DT H (i+1)) (AtR0 H.P H.ty H.Wg H.C H.n 0 (i+1) (D i).v) f g w) (Vr:H.Q i (D i).own (D i).X (D i).v w):MR H tag j D f0 q (H.m+1+i) gs w sl t:=by
 have hJ:=h.jw;have hdk:Deaf t (H.m+1+i)=0:=by rw[h.jt.deafW i hi,hd]
 obtain⟨st,sm,AY,Ai⟩:=h.wg;have oP:Ju j (λk=>(D k).d) tag st sm:=Ai;rcases Goes.cases hs with Ak|⟨f',rfl,Ah⟩
 ·
  obtain⟨_,QL,g',hgo,mZ2,hk⟩:=Ak w (RW.refl w);have VD:∀k,RW H.ty H.Wg H.C H.n 0 k w w:=λk=>RW.refl w;have tc:∀e∈#[mk (.releaseMerge (stA H.Wg))],e=mk (.releaseMerge (stA H.Wg)):=by simp
  refine mY (D':={ D i with d:=⟨6,mZ2,0⟩ }) hQ EO ES h hi hg hgo (Ad _) (λk hk _=>⟨⟨λ_ _=>rfl,Ad _,λ_=>rfl,rfl⟩,VD k⟩) (.tail YA (by grind) (.k1 hk) Vr)
   (hJ.turn hi rfl (λ_ _ _=>rfl) hJ.pay (λ_ _=>rfl) (λ_=>by grind) rfl rfl) (λb hb=>hb) (λb hb=>.inl hb) (λb=>Iff.rfl) (λb hb=>.inl hb)
   (λe he=>?_) (λe he=>?_) (λe he x hx=>?_) (λe he=>?_) (by rw[hd];rfl) (λ_=>⟨t.size,RelBy.new hdk _ _⟩) (λef=>absurd ef (oP.Jlz hi (by grind))) id AY
   (λtag' ht _=>by rw[Ws];exact(oP.counted hi (by grind) (.inl rfl) _ _).retag ht) (λ_ _ _ _ _=>rfl) (λtag' f' hf ht=>J8w hi (.inr trivial) (.inl ⟨by rw[hd];simp,by rw[hd];simp[cnt]⟩) hf ht)
  .rw[tc e he];exact⟨rfl,λx hx=>by simp[mk,MemAct.ofEvent,MemAct.touch?]at hx⟩
  .rw[tc e he];exact hJ.wg
  .rw[tc e he]at hx;simp[mk,MemAct.ofEvent,MemAct.touch?]at hx
  .rw[tc e he];simp[mk,MemAct.ofEvent]
 ·
  obtain⟨g',w',es,hgo,⟨Lu,Fq⟩,Bd⟩:=Ah w (RW.refl w);simp only[Nat.add_sub_cancel]at Lu;have eW:w'.heap[H.Wg]?=w.heap[H.Wg]?:=Lu.block H.Wg (Ne.symm hJ.cw);have rel:∀k,k<j->BR true (D k).X w w':=λk hk=>⟨λb hb=>Lu.block b (hJ.avoid k hk b hb).2.1,Nat.le_of_eq Lu.size.symm,λe=>by(cases e),Lu.os⟩;have eU:∀e∈es,e=⟨.cell ⟨H.C,i,none⟩,true,false⟩:=Fq;have still:∀e∈es,e.loc≠.mark .disable/\e.loc≠.mark .enable:=λe he=>by
   grind
  refine mY (D':={ D i with d:=⟨7,f',0⟩ }) hQ EO ES h hi hg hgo (Nat.le_of_eq Lu.size.symm) (λk hk Ur=>⟨rel k hk,RW.of_cell Lu Ur hJ.cw⟩) (.r0 YA f' rfl Bd (hQ _ _ _ _ _ _ Vr (rel i hi)))
   (hJ.turn hi Lu.size (λb _ h1=>Lu.block b h1) (Lu.pay hJ.pay) (λk hk=>Lu.cells k hk) (λh6=>absurd h6 (by grind)) Lu.os Lu.output) (λb hb=>hb) (λb hb=>.inl hb) (λb=>Iff.rfl) (λb hb=>.inl hb)
   (λe he=>?_) (λe he=>?_) (λe he x hx hn=>?_) (λe he=>?_) (by grind[ConcN.deafBehind_idle]) (λh6=>absurd h6 (by grind)) (λef=>absurd ef (oP.Jlz hi (by grind)))
   (λhl=>let⟨st,sm,x⟩:=hl;⟨st,sm,x.of_block eW⟩) (AY.of_block eW) (λtag' ht _=>by
    rw[Ws];refine Ju.retag ?_ ht;have:=oP.same (i:=i) f' 0
    grind) (λs _ _ h3 _=>Lu.block s h3) (λtag' f'' hf ht=>J8w hi (.inr trivial) (.inr ⟨by rw[hd],by rw[hd]⟩) hf ht)
  .rw[eU e he];refine⟨rfl,λx hx=>?_⟩;simp only[ofEvent_cell,MemAct.touch?,Cb]at hx;subst hx;exact .inr (.inl ⟨i,hi,rfl,.inr rfl⟩)
  .rw[eU e he];show H.C<w'.heap.size;rw[Lu.size];exact hJ.c
  .rw[eU e he]at hx;simp only[ofEvent_cell,MemAct.touch?,Cb]at hx;subst hx;exact⟨rfl,rfl⟩
  .rw[eU e he];simp[MemAct.ofEvent]
theorem Jqn(hn:H.n<2147483648)(h:JInv H tag j D f0 d0 q gs w t){i:Nat}(hi:i<j){g:JF}(hg:gs[H.m+1+i]?=some g)(AB:g.status=.running)(YA:(D i).rank=none)(h6:(D i).d.stage<=6)
  (hs:WSit H.P H.ty H.Wg H.C H.n P9 P9 0 (i+1) (D i).v (D i).d.stage (D i).d.fuel (D i).d.deaf g w) (Vr:H.Q i (D i).own (D i).X (D i).v w):MR H tag j D f0 q (H.m+1+i) gs w sl t:=by
 obtain⟨st,sm,AY,Ai⟩:=h.wg;obtain⟨a0,ha0,J04e⟩:=h.main;have hb:=J04e.bound;have hVj:=Vc_le j (λk=>(D k).d);generalize hE:(λk=>(D k).d)=E at Ai hVj;have hEi:E i=(D i).d:=by rw[<- hE]
 have Q7:∀{g':JF}{w':JE}{es:Array Event}{d':WD}{st' sm':Int},stepG H.P false g w=.go g' w' es->Aside H.Wg w w'->WgAt H.ty H.Wg w' st' sm'->(∀e∈es,Bk H.Wg e) ->
   (∀jx e,es[jx]?=some e->(MemAct.ofEvent e).touch?=none\/0<deafBehind (D i).d.deaf (es.extract 0 jx))->WSit H.P H.ty H.Wg H.C H.n P9 P9 0 (i+1) (D i).v d'.stage d'.fuel d'.deaf g' w'->deafBehind (D i).d.deaf es=d'.deaf->d'.stage<=6 ->
   (∀tag',(tag'=tag\/(tag=.blk/\tag'=.w3))->(mayWake H.P g=true->g'.status=.running->tag'≠.blk)->Ju j (upd E i d') tag' st' sm')->((d'.stage<(D i).d.stage/\cnt d'<=cnt (D i).d)\/(d'.stage=(D i).d.stage/\d'.fuel+1=(D i).d.fuel)) ->
   MR H tag j D f0 q (H.m+1+i) gs w sl t:=λhgo ER Rh MF hd D9 Vu Xb Nu Ac=>
  J04d hQ EO ES h hi hg hgo YA Vr ER Rh MF hd h6 Xb D9 Vu (by grind) Ac
 have book:∀{g':JF}{w':JE}{es:Array Event}{d':WD}{st' sm':Int},stepG H.P false g w=.go g' w' es->Aside H.Wg w w'->WgAt H.ty H.Wg w' st' sm'->(∀e∈es,Bk H.Wg e) ->
   (∀jx e,es[jx]?=some e->(MemAct.ofEvent e).touch?=none\/0<deafBehind (D i).d.deaf (es.extract 0 jx))->WSit H.P H.ty H.Wg H.C H.n P9 P9 0 (i+1) (D i).v d'.stage d'.fuel d'.deaf g' w'->deafBehind (D i).d.deaf es=d'.deaf->d'.stage<=6 ->
   Ju j (upd E i d') tag st' sm'->((d'.stage<(D i).d.stage/\cnt d'<=cnt (D i).d)\/(d'.stage=(D i).d.stage/\d'.fuel+1=(D i).d.fuel)) ->
   MR H tag j D f0 q (H.m+1+i) gs w sl t:=λhgo ER Rh MF hd D9 Vu Xb Nu Ac=>
  Q7 hgo ER Rh MF hd D9 Vu Xb (λ_ ht _=>Nu.retag ht) Ac
 generalize Ae:(D i).d.stage=s at hs;generalize hfu:(D i).d.fuel=m at hs;generalize hde:(D i).d.deaf=dd at hs Q7 book;have Ux:(E i).stage=s:=by rw[hEi,Ae]
 have idle:∀{g':JF}{m':Nat},stepG H.P false g w=.go g' w #[]->WSit H.P H.ty H.Wg H.C H.n P9 P9 0 (i+1) (D i).v s m' dd g' w->m'+1=m->MR H tag j D f0 q (H.m+1+i) gs w sl t:=by
  intro g' m' hgo D9 hm;refine book (d':=⟨s,m',dd⟩) hgo (.refl H.Wg w) AY (by simp) (by simp) D9 rfl (by grind) ?_ (.inr ⟨Ae.symm,by grind⟩);have:=Ai.same (i:=i) m' dd
  grind
 cases hs with
 |r0 h=>omega
 |k1 h=>
  rcases Goes.cases h with Ak|⟨m',rfl,Ah⟩
  .obtain⟨_,g',hgo,mZ2,hk⟩:=Ak w (RW.refl w);exact book (d':=⟨5,mZ2,1⟩) hgo (.refl H.Wg w) AY (by intro e he;simp at he;subst he;exact .inl rfl) (by intro jx e he;exact .inl (by have:=Ho he;simp at this;subst this;rfl)) (.d1 hk) rfl (by grind)
    (Ai.counted hi (by omega) (.inr rfl) _ _) (.inl ⟨by grind,by simp[cnt,Ae]⟩)
  .obtain⟨g',w',es,hgo,⟨rfl,rfl⟩,Bd⟩:=Ah w (RW.refl w);exact idle hgo (.k1 Bd) rfl
 |d1 h=>
  rcases Goes.cases h with Ak|⟨m',rfl,Ah⟩
  .obtain⟨_,Au⟩:=Ak w (RW.refl w);have DF:cnt (E i)=1:=by simp[cnt,Ux]
   have hV1:1<=Vc j E:=by have:=le_sumTo (f:=λx=>cnt (E x)) hi;simp only[Vc];omega
   have bk2:∀e∈#[rd (stA H.Wg),wr (stA H.Wg)],Bk H.Wg e:=by intro e he;simp at he;rcases he with rfl|rfl<;>exact bk_cell _ _ rfl
   have df2:∀jx e,(#[rd (stA H.Wg),wr (stA H.Wg)]:Array Event)[jx]?=some e->(MemAct.ofEvent e).touch?=none\/0<deafBehind 1 ((#[rd (stA H.Wg),wr (stA H.Wg)]:Array Event).extract 0 jx):=by
    intro jx e he
    match jx,he with
    |0,_=>exact .inr (by simp[deafBehind])
    |1,_=>exact .inr (by simp[deafBehind,rd])
    |jx+2,he=>simp at he
   have yC:∀q,cnt (⟨1,q,1⟩:WD)=0:=λ_=>rfl;have opq:∀q,OpenSt j E->OpenSt j (upd E i ⟨1,q,1⟩):=λq h a ha=>by
    by_cases e:a=i
    .grind[upd_same]
    .rw[upd_ne E _ e];exact h a ha
   cases Ai with
   |opn h1 h2 h3=>
    obtain⟨v,hv⟩:∃v,Vc j E+He tag=v+1:=⟨Vc j E+He tag-1,by omega⟩;rw[hv]at AY;have BQ:WgAt H.ty H.Wg w (((v:Nat)+1)*KK+((0:Nat):Int)) 0:=by grind
    obtain⟨g',hgo,_,hq⟩:=Au v 0 (by omega) (by omega) BQ;obtain⟨q,hq⟩:=hq (by omega);have OV:Vc j (upd E i ⟨1,q,1⟩)+He tag=v:=by grind[Vc_upd]
    refine book (d':=⟨1,q,1⟩) hgo (aside_setCell w (stA H.Wg) _) (AY.setSt _) bk2 df2 (.quit hq) rfl (by grind) ?_ (.inl ⟨by grind,by simp[cnt]⟩);have e:((v:Nat):Int)*KK+((0:Nat):Int)=((Vc j (upd E i ⟨1,q,1⟩)+He tag:Nat):Int)*KK:=by grind
    rw[e];exact .opn h1 (opq q h2) (λvs ev=>by grind)
   |reg h1 h2 h3=>
    obtain⟨v,hv⟩:∃v,Vc j E=v+1:=⟨Vc j E-1,by omega⟩;rw[hv]at AY;have BQ:WgAt H.ty H.Wg w (((v:Nat)+1)*KK+((1:Nat):Int)) 0:=by grind
    obtain⟨g',hgo,hl,hq⟩:=Au v 1 (by omega) (by omega) BQ;by_cases MK:v=0
    .subst MK;obtain⟨mZ2,hk⟩:=hl ⟨rfl,rfl⟩;refine book (d':=⟨4,mZ2,1⟩) hgo (aside_setCell w (stA H.Wg) _) (AY.setSt _) bk2 df2 (.d2 hk) rfl (by grind) ?_ (.inl ⟨by grind,by simp[cnt]⟩);have Nw:∀a,a<j->a≠i->(E a).stage=1:=λa ha e=>by
      have c0:=others_uncounted hi hv DF a ha e;have:=h2 a ha;simp only[cnt]at c0
      grind
     have:=Ju.last (j:=j) (D:=upd E i ⟨4,mZ2,1⟩) (tag:=tag) i h1 hi (by rw[upd_same];simp) (λa ha e=>by grind[upd_ne])
     grind[upd_same]
    .obtain⟨q,hq⟩:=hq (by omega);have OV:Vc j (upd E i ⟨1,q,1⟩)=v:=by grind[Vc_upd]
     refine book (d':=⟨1,q,1⟩) hgo (aside_setCell w (stA H.Wg) _) (AY.setSt _) bk2 df2 (.quit hq) rfl (by grind) ?_ (.inl ⟨by grind,by simp[cnt]⟩);have e:((v:Nat):Int)*KK+((1:Nat):Int)=((Vc j (upd E i ⟨1,q,1⟩):Nat):Int)*KK+1:=by grind
     rw[e];exact .reg h1 (opq q h2) (by omega)
   |last L _ h2 h3 h4=>
    grind
   |sema _ h2=>have:=h2 i hi;omega
   |fin _ h2=>have:=h2 i hi;omega
  .obtain⟨g',w',es,hgo,⟨rfl,rfl⟩,Bd⟩:=Ah w (RW.refl w);exact idle hgo (.d1 Bd) rfl
 |d2 h=>
  rcases Goes.cases h with Ak|⟨m',rfl,Ah⟩
  .obtain⟨_,hx⟩:=Ak w (RW.refl w);obtain⟨CY,Nw,rfl,rfl⟩:=Ai.isLast hi (by omega);simp only[Ux]at AY;obtain⟨g',hgo,mZ2,hk⟩:=hx (by grind);refine book (d':=⟨3,mZ2,1⟩) hgo (.refl H.Wg w) AY (by intro e he;simp at he;subst he;exact bk_cell _ _ rfl) (by intro jx e he;match jx,he with|0,_=>exact .inr (by simp[deafBehind])|jx+1,he=>simp at he) (.d3 hk) rfl (by grind) ?_ (.inl ⟨by grind,by simp[cnt]⟩);have:=Ju.last (j:=j) (D:=upd E i ⟨3,mZ2,1⟩) (tag:=tag) i CY hi (by rw[upd_same];simp) (λa ha e=>by grind[upd_ne])
   grind[upd_same]
  .obtain⟨g',w',es,hgo,⟨rfl,rfl⟩,Bd⟩:=Ah w (RW.refl w);exact idle hgo (.d2 Bd) rfl
 |d3 h=>
  rcases Goes.cases h with Ak|⟨m',rfl,Ah⟩
  .obtain⟨_,hx⟩:=Ak w (RW.refl w);obtain⟨CY,Nw,rfl,rfl⟩:=Ai.isLast hi (by omega);simp only[Ux]at AY;obtain⟨g',hgo,mZ2,hk⟩:=hx (by grind);refine book (d':=⟨2,mZ2,1⟩) hgo (aside_setCell w (stA H.Wg) _) (AY.setSt 0) (by intro e he;simp at he;subst he;exact bk_cell _ _ rfl) (by intro jx e he;match jx,he with|0,_=>exact .inr (by simp[deafBehind])|jx+1,he=>simp at he) (.d4 hk) rfl (by grind) ?_ (.inl ⟨by grind,by simp[cnt]⟩);have:=Ju.last (j:=j) (D:=upd E i ⟨2,mZ2,1⟩) (tag:=tag) i CY hi (by rw[upd_same];simp) (λa ha e=>by grind[upd_ne])
   grind[upd_same]
  .obtain⟨g',w',es,hgo,⟨rfl,rfl⟩,Bd⟩:=Ah w (RW.refl w);exact idle hgo (.d3 Bd) rfl
 |d4 h=>
  rcases Goes.cases h with Ak|⟨m',rfl,Ah⟩
  .obtain⟨_,xW,hx⟩:=Ak w (RW.refl w);obtain⟨CY,Nw,rfl,rfl⟩:=Ai.isLast hi (by omega);simp only[Ux]at AY;obtain⟨g',hgo,q,hq⟩:=hx (by grind);have kK:g'.status=.running:=by
    cases q with
    |zero=>exact absurd hq.2 (by decide)
    |succ q=>exact hq.elim (λx=>absurd x.2 (by decide)) (λx=>x.1)
   refine Q7 (d':=⟨1,q,1⟩) hgo (aside_setCell w (smA H.Wg) _) (AY.setSm 1) (es:=semEvents (smA H.Wg)) Jm0 ?_ (.quit hq) (by simp[deafBehind,semEvents]) (by grind) ?_ (.inl ⟨by grind,by simp[cnt]⟩)
   .intro jx e he
    match jx,he with
    |0,he=>simp[semEvents]at he;subst he;exact .inl rfl
    |1,_=>exact .inr (by simp[deafBehind,semEvents])
    |2,_=>exact .inr (by simp[deafBehind,semEvents])
    |3,he=>simp[semEvents]at he;subst he;exact .inl rfl
    |jx+4,he=>simp[semEvents]at he
   .intro tag' ht hw;have BL:=hw xW kK;have e3:tag'=.wr\/tag'=.w3:=by
     rcases ht with rfl|⟨_,rfl⟩
     .cases tag'<;>first|exact .inl rfl|exact .inr rfl|exact CY.elim|grind
     grind
    simp only[if_true];exact .sema e3 λa ha=>by
     grind[upd_same,upd_ne]
  .obtain⟨g',w',es,hgo,⟨rfl,rfl⟩,Bd⟩:=Ah w (RW.refl w);exact idle hgo (.d4 Bd) rfl
 |quit h=>
  cases m with
  |zero=>rw[h.1]at AB;cases AB
  |succ qq=>
   rcases h with⟨hf,_⟩|⟨_,g',es,QO,Ah,hq⟩
   .grind
   .have MF:∀e∈es,Bk H.Wg e:=λe he=>bk_of_mute (QO e he);have D7:∀jx e,es[jx]?=some e->(MemAct.ofEvent e).touch?=none\/0<deafBehind dd (es.extract 0 jx):=λjx e he=>.inl (by
     rcases bk_of_mute (Wg:=H.Wg) (QO e (Ho he))with h1|h1|⟨a,wr,rfl,_⟩
     .rw[ofEvent_loc_mark h1];rfl
     .rw[ofEvent_loc_mark h1];rfl
     .have:=QO _ (Ho he);simp[Event.mute]at this)
    refine book (d':=⟨1,qq,deafBehind dd es⟩) (Ah w) (.refl H.Wg w) AY MF D7 (.quit hq) rfl (by grind) ?_ (.inr ⟨Ae.symm,by grind⟩);have:=Ai.same (i:=i) qq (deafBehind dd es)
    grind
end
end
open Go.ConcR (KK wgBlock WgAt stA smA rd wr mk Payload DC0 Bk bk_of_mute ofEvent_loc_mark ofEvent_cell g_of_ofEvents)
section
variable[Payload]{H:Ph}{tag tag':DW}{j:Nat}{D:Nat->CG}{f0 d0 f':Nat}{q:Nat->Nat}{gs:Array JF}{w w':JE}{sl:Option (Nat × Nat)}{t:Trace}{a a':JF}{es:Array Event}
theorem JT.app0(h:JT H j D d0 w t)(hA:Apart (ShJ H) (Ky H j D) (RdJ H j D))(h0:H.t0.size<=t.size)(hz:w.heap.size<=w'.heap.size){fn:JG}{pos:String}
  (hok:∀e∈es,Ok0 (ShJ H) (Ky H j D) (RdJ H j D) (H.m+j) { g:=0,fn,pos,act:=.ofEvent e }) (Dp:∀e∈es,(MemAct.ofEvent e).low w'.heap.size)
  (D8:∀e∈es,∀x,(MemAct.ofEvent e).touch?=some x->¬ShJ H x.loc->x.kind=.plain/\x.loc.isMemory=true) (XC:∀e∈es,MemAct.ofEvent e≠.mark (.release (stA H.Wg))) :
  JT H j D (deafBehind d0 es) w' (t++MemOp.ofEvents 0 fn pos es):=by
 have hg:∀op∈MemOp.ofEvents 0 fn pos es,op.g=0:=λop Ar=>by obtain⟨e,_,rfl⟩:=Conc.mem_ofEvents Ar;rfl
 refine⟨h.ct.app0 hA λop Ar=>?_,?_,?_,?_,?_,?_,?_,?_,?_⟩
 .obtain⟨e,he,rfl⟩:=Conc.mem_ofEvents Ar;grind
 .obtain⟨u,hu⟩:=h.pre
  grind
 .refine seen_app (λop Ar=>MemAct.low_mono hz (h.low op Ar)) λop Ar=>?_;obtain⟨e,he,rfl⟩:=Conc.mem_ofEvents Ar;grind
 .intro k op x hk Ar hx;rcases getElem?_append_cases Ar with⟨_,h1⟩|⟨_,h1⟩
  .exact h.new k op x hk h1 hx
  .obtain⟨e,he,rfl⟩:=Conc.mem_ofEvents h1
   grind
 .exact h.UZ.app λop Ar=>by obtain⟨e,he,rfl⟩:=Conc.mem_ofEvents Ar;grind
 .rw[Deaf_own,h.deaf0]
 .intro k hk;rw[Deaf_other t (g:=H.m+1+k) (g':=0) (by omega) _ hg];exact h.deafW k hk
 .intro k hk;rw[Deaf_other t (g:=k) (g':=0) (by omega) _ hg];exact h.above k hk
 .intro k hk hs;obtain⟨r,hr⟩:=h.rel k hk hs;exact⟨r,hr.appOther hg (by omega)⟩
section
variable(hQ:∀i own X v w w',H.Q i own X v w->BR true X w w'->H.Q i own X v w')
include hQ
theorem Jab(h:JInv H tag j D f0 d0 q gs w t)(ha:gs[0]?=some a)(hgo:stepG H.P true a w=.go a' w' es)(hz:w.heap.size<=w'.heap.size)(ho:∀k,k<j->Oth H k (D k).X w w')(SS:JW H j D w')
  (hok:∀e∈es,Ok0 (ShJ H) (Ky H j D) (RdJ H j D) (H.m+j) { g:=0,fn:=a.frame.fn,pos:=a.frame.place,act:=.ofEvent e }) (Dp:∀e∈es,(MemAct.ofEvent e).low w'.heap.size)
  (D8:∀e∈es,∀x,(MemAct.ofEvent e).touch?=some x->¬ShJ H x.loc->x.kind=.plain/\x.loc.isMemory=true) (XC:∀e∈es,MemAct.ofEvent e≠.mark (.release (stA H.Wg)))
  (hs:Dz H tag' j f' (deafBehind d0 es) a' w') {st' sm':Int} (AY:WgAt H.ty H.Wg w' st' sm') (Ai:Ju j (λk=>(D k).d) tag' st' sm') (XL:Va H tag' j D w')
  (Xo:tag'=.fin->TS H j (t++MemOp.ofEvents 0 a.frame.fn a.frame.place es))
  (Ac:DK H.n (Vc j λk=>(D k).d) tag'<DK H.n (Vc j λk=>(D k).d) tag\/(DK H.n (Vc j λk=>(D k).d) tag'=DK H.n (Vc j λk=>(D k).d) tag/\f'<f0)):MR H tag j D f0 q 0 gs w sl t:=by
 have AB:=runT_crowd_go (P:=H.P) (sl:=sl) (i:=0) ha hgo;have Dq:0<gs.size:=(BJ.1 ha).1;refine⟨_,w',_,tag',j,D,f',deafBehind d0 es,q,AB,⟨h.jn,by simpa using h.size,⟨a',by simp[Dq],hs⟩,λk hk=>?_,λk b DI BX hb=>?_,SS,h.jt.app0 h.jw.apart h.Jwu hz hok Dp D8 XC,⟨st',sm',AY,Ai⟩,XL,Xo⟩,.inr (.inr ⟨rfl,rfl,?_⟩)⟩
 .obtain⟨b,hb,N8⟩:=h.ws k hk;refine⟨b,?_,N8.other H hQ (ho k hk)⟩;rw[AV (by omega),Array.getElem?_map,hb];simp[J7m N8.status]
 .rw[AV (by omega),Array.getElem?_map]at hb;obtain⟨y,hy,rfl⟩:=Fh.1 hb;have hq:=h.old k y DI BX hy;rw[woken_quitsD hq,Deaf_other t (g:=k) (g':=0) (by omega) _ g_of_ofEvents];exact hq
 .unfold mu
  grind
theorem JW.J04f(h:JW H j D w)(hz:w'.heap.size=w.heap.size)(hb:∀b,b≠H.Wg->w'.heap[b]?=w.heap[b]?)(os:w'.os=w.os)(out:w'.output=w.output):JW H j D w':=by
 have eC:=hb H.C h.cw;obtain⟨cs,h1,h2⟩:=h.pay;exact⟨λb BO=>(hb b (BO.elim (λz=>(h.sh0 b z).2.1) λz e=>h.wW (e▸z))).trans (h.keep b BO),⟨cs,eC.trans h1,h2⟩,λk hk hs=>(cell_of_block eC k).trans (h.has k hk hs),λk hk b BO=>by rw[hz];exact h.low k hk b BO,h.Ie,h.NM,h.Oz,h.avoid,
  by rw[hz];exact h.wg,by grind,h.cw,h.cW,h.wW,λb BO=>by rw[hz];exact h.sh0 b BO,λb BO=>by rw[hz];exact h.wl b BO,os.trans h.os,out.trans h.out⟩
theorem zS{Own Rd:Nat->Loc->Prop}{k:Nat}{e:Event}(h:Bk H.Wg e\/e=mk (.read (smA H.Wg))\/e=mk (.write (smA H.Wg))\/e=mk (.acquire (stA H.Wg)))(fn:JG)(pos:String):Ok0 (ShJ H) Own Rd k { g:=0,fn,pos,act:=.ofEvent e }:=by
 refine⟨rfl,λx hx=>?_⟩;rcases h with(h1|h1|⟨a,wr,rfl,ha⟩)|rfl|rfl|rfl
 .simp only[ofEvent_loc_mark h1]at hx;cases hx
 .simp only[ofEvent_loc_mark h1]at hx;cases hx
 .simp only[ofEvent_cell,MemAct.touch?,Cb]at hx;subst hx;exact .inl ⟨⟨a,rfl,.inr ha⟩,by simp⟩
 .simp only[mk,MemAct.ofEvent,MemAct.touch?,Cb]at hx;subst hx;exact .inl ⟨⟨smA H.Wg,rfl,.inr rfl⟩,by simp⟩
 .simp only[mk,MemAct.ofEvent,MemAct.touch?,Cb]at hx;subst hx;exact .inl ⟨⟨smA H.Wg,rfl,.inr rfl⟩,by simp⟩
 .simp[mk,MemAct.ofEvent,MemAct.touch?]at hx
theorem Jy9{B:Nat}(hB:H.Wg<B){e:Event}(h:Bk H.Wg e\/e=mk (.read (smA H.Wg))\/e=mk (.write (smA H.Wg))\/e=mk (.acquire (stA H.Wg))):(MemAct.ofEvent e).low B:=by
 rcases h with h|rfl|rfl|rfl
 .exact Jqm hB h
 .exact hB
 .exact hB
 .exact hB
theorem zT{e:Event}(h:Bk H.Wg e\/e=mk (.read (smA H.Wg))\/e=mk (.write (smA H.Wg))\/e=mk (.acquire (stA H.Wg))){x:Touch}(hx:(MemAct.ofEvent e).touch?=some x):ShJ H x.loc:=by
 rcases h with h|rfl|rfl|rfl
 .exact Jwv h hx
 .simp only[mk,MemAct.ofEvent,MemAct.touch?,Cb]at hx;subst hx;exact⟨smA H.Wg,rfl,.inr rfl⟩
 .simp only[mk,MemAct.ofEvent,MemAct.touch?,Cb]at hx;subst hx;exact⟨smA H.Wg,rfl,.inr rfl⟩
 .simp[mk,MemAct.ofEvent,MemAct.touch?]at hx
theorem Jya{e:Event}(h:Bk H.Wg e\/e=mk (.read (smA H.Wg))\/e=mk (.write (smA H.Wg))\/e=mk (.acquire (stA H.Wg))):MemAct.ofEvent e≠.mark (.release (stA H.Wg)):=by
 rcases h with h|rfl|rfl|rfl
 .exact Jjn h
 .simp[mk,MemAct.ofEvent]
 .simp[mk,MemAct.ofEvent]
 .simp[mk,MemAct.ofEvent]
theorem book0(h:JInv H tag j D f0 d0 q gs w t)(ha:gs[0]?=some a)(hgo:stepG H.P true a w=.go a' w' es)(ER:Aside H.Wg w w'){st' sm':Int}(AY:WgAt H.ty H.Wg w' st' sm')
  (MF:∀e∈es,Bk H.Wg e\/e=mk (.read (smA H.Wg))\/e=mk (.write (smA H.Wg))\/e=mk (.acquire (stA H.Wg))) (hs:Dz H tag' j f' (deafBehind d0 es) a' w') (Ai:Ju j (λk=>(D k).d) tag' st' sm') (XL:Va H tag j D w->Va H tag' j D w)
  (Xo:tag'=.fin->TS H j (t++MemOp.ofEvents 0 a.frame.fn a.frame.place es))
  (Ac:DK H.n (Vc j λk=>(D k).d) tag'<DK H.n (Vc j λk=>(D k).d) tag\/(DK H.n (Vc j λk=>(D k).d) tag'=DK H.n (Vc j λk=>(D k).d) tag/\f'<f0)):MR H tag j D f0 q 0 gs w sl t:=by
 have hJ:=h.jw;refine Jab hQ h ha hgo (Nat.le_of_eq ER.size.symm) (λk hk=>⟨⟨λb hb=>ER.block b (hJ.avoid k hk b hb).1,Nat.le_of_eq ER.size.symm,λe=>by(cases e),ER.os⟩,RW.of_wg ER ⟨_,_,AY⟩ hJ.cw⟩)
  (hJ.J04f hQ ER.size (λb hb=>ER.block b hb) ER.os ER.output) (λe he=>zS hQ (MF e he) _ _) (λe he=>Jy9 hQ (by rw[ER.size];exact hJ.wg) (MF e he)) (λe he x hx hn=>absurd (zT hQ (MF e he) hx) hn) (λe he=>Jya hQ (MF e he))
  hs AY Ai ?_ Xo Ac
 exact(XL h.sb).keep (.inl rfl) (λs _ Bo _ _=>ER.block s Bo) (λs _ hX=>hX)
theorem idle0(h:JInv H tag j D f0 d0 q gs w t)(ha:gs[0]?=some a)(hgo:stepG H.P true a w=.go a' w #[])(hs:Dz H tag j f' d0 a' w)(hf:f'<f0):MR H tag j D f0 q 0 gs w sl t:=by obtain⟨st,sm,AY,Ai⟩:=h.wg;exact book0 hQ h ha hgo (.refl H.Wg w) AY (by simp) hs Ai id (λe=>(h.acq e).app λi r _ hr=>hr.appOther g_of_ofEvents (by omega)) (.inr ⟨rfl,hf⟩)
end
end
end Go.Sim
