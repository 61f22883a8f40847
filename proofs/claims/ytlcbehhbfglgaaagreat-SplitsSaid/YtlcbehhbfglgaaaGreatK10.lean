/- Proved here: laws for the claim. No conditions. -/
import Derived.Conc.Beside
import Derived.Conc.CrowdTrace
import Derived.Conc.WgGenN3
import Derived.Conc.CrowdRun
import Derived.Conc.CrowdStepW
import Derived.Test.YtlcbehhbfglgaaaGreatK08
set_option linter.all false
namespace Go.Sim
open Go.Conc
open Go.ConcN (sumTo upd sumTo_upd upd_ne upd_same)
def ShW(W:JB):Loc->Prop:=λl=>∃a,l=.cell a/\W a.block
structure Cmp(P:Program)(W:JB)(gs:Array JF)(w:JE)(t:Trace)(q:Nat->Nat):Prop where
 lv:Leavers P t gs q
 past:Past (ShW W) w.heap.size t
 quiet:Quiet (ShW W) t
 low:∀b,W b->b<w.heap.size
 tidy:∀op∈t,op.g<gs.size/\∀x,op.act.touch?=some x->x.loc.isMemory=true
theorem EvG.mem{own X:JB}{e:Event}(h:EvG own X e){x:Touch}(hx:(MemAct.ofEvent e).touch?=some x):x.loc.isMemory=true:=by
 obtain⟨loc,wr,sy⟩:=e;cases loc with
 |cell b=>
  obtain⟨⟨h1,_⟩,h3⟩:=h;simp only at h3;subst h3;simp only[MemAct.ofEvent,MemAct.touch?,Cm]at hx;subst hx;rfl
 |obj r=>
  obtain⟨⟨h1,_⟩,h3⟩:=h;simp only at h3;subst h3;have e:MemAct.ofEvent ⟨.obj r,wr,false⟩=.access ⟨.obj r,wr,false⟩:=by cases wr<;>rfl
  simp only[e,MemAct.touch?,Cm]at hx;subst hx;rfl
 |mark m=>cases m<;>first|exact h.elim|(simp[MemAct.ofEvent,MemAct.touch?]at hx)
 |output=>exact h.elim
 |goroutines=>exact h.elim
theorem EvG.Jl7{own X W:JB}{e:Event}(h:EvG own X e)(hd:∀b,W b->¬X b){x:Touch}(hx:(MemAct.ofEvent e).touch?=some x):¬ShW W x.loc:=by
 rintro⟨a,ha,hw⟩;obtain⟨loc,wr,sy⟩:=e;cases loc with
 |cell b=>
  obtain⟨⟨h1,_⟩,h3⟩:=h;simp only at h3;subst h3;simp only[MemAct.ofEvent,MemAct.touch?,Cm]at hx;subst hx;cases ha;exact hd _ hw h1
 |obj r=>
  obtain⟨⟨h1,_⟩,h3⟩:=h;simp only at h3;subst h3;simp only[MemAct.ofEvent,MemAct.touch?,Cm]at hx;subst hx;cases ha
 |mark m=>cases m<;>first|exact h.elim|(simp[MemAct.ofEvent,MemAct.touch?]at hx)
 |output=>exact h.elim
 |goroutines=>exact h.elim
theorem EvG.evL{own X W:JB}{B:Nat}{e:Event}(h:EvG own X e)(hd:∀b,W b->¬X b)(hB:∀b,X b->b<B):EvL (ShW W) B e:=by
 refine⟨λx hx hs=>absurd hs (h.Jl7 hd hx),?_,?_,?_⟩
 ·intro he;unfold EvG at h;rw[he]at h;exact h
 ·intro he;unfold EvG at h;rw[he]at h;exact h
 ·obtain⟨loc,wr,sy⟩:=e;cases loc with
  |cell b=>
   obtain⟨⟨h1,_⟩,h3⟩:=h;simp only at h3;subst h3;exact hB _ h1
  |obj r=>
   obtain⟨⟨h1,_⟩,h3⟩:=h;simp only at h3;subst h3;have e:MemAct.ofEvent ⟨.obj r,wr,false⟩=.access ⟨.obj r,wr,false⟩:=by cases wr<;>rfl
   rw[e];exact hB _ h1
  |mark m=>cases m<;>first|exact h.elim|exact trivial
  |output=>exact h.elim
  |goroutines=>exact h.elim
theorem Cb.at{X:JB}{w:JE}(d:Nat):Cb false X w (w.at d):=⟨λ_ _=>rfl,Ad _,λ_=>rfl,rfl⟩
theorem Jgb{P:Program}{gs:Array JF}{t:Trace}{q:Nat->Nat}{a:JF}(h0:gs[0]?=some a)(hr:a.status=.running)(hL:Leavers P t gs q):∀g∈gs,awake g:=by
 intro g hg;obtain⟨i,hi,rfl⟩:=Array.mem_iff_getElem.1 hg;rcases Nat.eq_zero_or_pos i with rfl|Bj
 ·have:gs[0]=a:=by simpa[BJ hi]using h0
  rw[this];exact awake_of (.inl hr)
 ·exact awake_of ((hL.old i _ Bj (BJ hi)).status.elim .inl λx=>.inr (.inr x))
theorem Cmp.own{P:Program}{W:JB}{gs:Array JF}{w w':JE}{t:Trace}{q:Nat->Nat}{a a':JF}{es:Array Event}(h:Cmp P W gs w t q)(h0:gs[0]?=some a)(hz:w.heap.size<=w'.heap.size)
  {own X:JB} (he:∀e∈es,EvG own X e) (hd:∀b,W b->¬X b) (hX:∀b,X b->b<w'.heap.size) :
  Cmp P W ((gs.map (woken P a a' w')).setIfInBounds 0 a') w' (t++MemOp.ofEvents 0 a.frame.fn a.frame.place es) q:=by
 refine⟨⟨λj x hj hx=>?_,λj hj=>?_⟩,(h.past.mono hz).own λe hx=>(he e hx).evL hd hX,h.quiet.app λop Au x hx hs=>?_,λb hb=>Es (h.low b hb) hz,λop Au=>?_⟩
 ·rw[AQ (by omega),Array.getElem?_map]at hx;obtain⟨y,hy,rfl⟩:=FX.1 hx;have hq:=h.lv.old j y hj hy;rw[woken_quitsD hq,Deaf_other t (g':=0) (by omega) _ (λop Au=>by obtain⟨e,_,rfl⟩:=Conc.mem_ofEvents Au;rfl)];exact hq
 ·have Ae:0<gs.size:=(BQ.1 h0).1;rw[Deaf_other t (g':=0) (by simp at hj;omega) _ (λop Au=>by obtain⟨e,_,rfl⟩:=Conc.mem_ofEvents Au;rfl)];exact h.lv.above j (by simpa using hj)
 ·obtain⟨e,Ag,rfl⟩:=Conc.mem_ofEvents Au;exact absurd hs ((he e Ag).Jl7 hd hx)
 ·rcases Array.mem_append.1 Au with h1|h1
  ·have:=h.tidy op h1;exact⟨by simpa using this.1,this.2⟩
  ·obtain⟨e,Ag,rfl⟩:=Conc.mem_ofEvents h1;have Ae:0<gs.size:=(BQ.1 h0).1;exact⟨by simpa using Ae,λx hx=>(he e Ag).mem hx⟩
theorem Cmp.slip{P:Program}{W:JB}{gs:Array JF}{w:JE}{t:Trace}{q:Nat->Nat}(h:Cmp P W gs w t q){i k:Nat}{g:JF}(hi:gs[i]?=some g)(hp:0<i)(hr:g.status=.running)(d:Nat)(hk:q i=k+1) :
  ∃g' es,stepG P false g (w.at d)=.go g' (w.at d) es/\Cmp P W ((gs.map (woken P g g' (w.at d))).setIfInBounds i g') (w.at d) (t++MemOp.ofEvents i g.frame.fn g.frame.place es) (upd q i k):=by
 have hq:=h.lv.old i g hp hi;rw[hk]at hq;have Ac:i<gs.size:=(BQ.1 hi).1;rcases hq with⟨hf,_⟩|⟨_,g',es,hm,XF,hq'⟩
 ·rw[hf]at hr;cases hr
 refine⟨g',es,XF _,⟨λj x hj hx=>?_,λj hj=>?_⟩,h.past.mute (by omega) hm,h.quiet.app λop Au x hx hs=>?_,h.low,λop Au=>?_⟩
 ·by_cases WO:i=j
  ·subst WO;rw[EX (by simpa using Ac)]at hx;obtain rfl:=Aa hx;rw[upd_same,Deaf_own];exact hq'
  ·rw[AQ WO,Array.getElem?_map]at hx;obtain⟨y,hy,rfl⟩:=FX.1 hx;have hqj:=h.lv.old j y hj hy;rw[woken_quitsD hqj,upd_ne q k (Ne.symm WO),Deaf_other t WO _ (λop Au=>by obtain⟨e,_,rfl⟩:=Conc.mem_ofEvents Au;rfl)];exact hqj
 ·rw[Deaf_other t (g':=i) (by simp at hj;omega) _ (λop Au=>by obtain⟨e,_,rfl⟩:=Conc.mem_ofEvents Au;rfl)];exact h.lv.above j (by simpa using hj)
 ·obtain⟨e,he,rfl⟩:=Conc.mem_ofEvents Au;rw[touch_mute (hm e he)]at hx;cases hx
 ·rcases Array.mem_append.1 Au with h1|h1
  ·have:=h.tidy op h1;exact⟨by simpa using this.1,this.2⟩
  ·obtain⟨e,he,rfl⟩:=Conc.mem_ofEvents h1;exact⟨by simpa using Ac,λx hx=>by rw[touch_mute (hm e he)]at hx;cases hx⟩
end Go.Sim
namespace Go.Sim
open Go.Conc Go.ConcN Go.RowKit Go.Conc.Lib Go.ConcR.Gen Go.ConcN.Gen
open Go.ConcR (KK wgBlock WgAt stA smA rd wr mk DC0)
def RM(ty:JH)(Wg:Nat)(w w1:JE):Prop:=WgLive ty Wg w->WgLive ty Wg w1
theorem J4{ty:JH}{Wg:Nat}{w w1:JE}(h:WgLive ty Wg w)(r:RM ty Wg w w1):WgLive ty Wg w1:=r h
section
variable(P:Program)(ty:JH)(Wg:Nat)
section
variable(Fin:JF->JE->Prop)
def eY(g:JF)(w:JE):Prop:=g.status=.running/\∃g',stepG P true g w=.go g' w #[mk (.acquire (stA Wg))]/\∃m,(Goes P true (RM ty Wg) DC0) Fin m g' w
def JKe(g:JF)(w:JE):Prop:=g.status=.running/\∃g',stepG P true g w=.go g' w #[mk .enable]/\∃m,(Goes P true (RM ty Wg) DC0) (eY P ty Wg Fin) m g' w
def JW4(g:JF)(w:JE):Prop:=g.status=.running/\(WgAt ty Wg w 0 0->∃g',stepG P true g w=.go g' w #[rd (stA Wg)]/\∃m,(Goes P true (RM ty Wg) DC0) (JKe P ty Wg Fin) m g' w)
def JW3(g:JF)(w:JE):Prop:=
 g.status=.running/\g.offers=none/\((∃st,WgAt ty Wg w st 0)->stepG P true g w=.go { g with status:=.blocked } w #[]) /\
  (WgAt ty Wg w 0 1->∃g',stepG P true g w=.go g' (w.setCell (smA Wg) (.int .u32 0)) (semEvents (smA Wg))/\∃m,(Goes P true (RM ty Wg) DC0) (JW4 P ty Wg Fin) m g' (w.setCell (smA Wg) (.int .u32 0)))
def JWr(g:JF)(w:JE):Prop:=g.status=.running/\∃g',stepG P true g w=.go g' w #[mk (.write (smA Wg))]/\∃m,(Goes P true (RM ty Wg) DC0) (JW3 P ty Wg Fin) m g' w
variable(Anch:JF->JE->Prop)
def JW2(vs:Nat)(g:JF)(w:JE):Prop:=
 g.status=.running/\∀v:Nat,v<2147483648->WgAt ty Wg w (v*KK) 0 ->
  (v=vs->∃g',stepG P true g w=.go g' (w.setCell (stA Wg) (.int .u64 (v*KK+1))) #[rd (stA Wg),wr (stA Wg)]/\∃m,(Goes P true (RM ty Wg) DC0) (JWr P ty Wg Fin) m g' (w.setCell (stA Wg) (.int .u64 (v*KK+1)))) /\
  (v≠vs->∃g',stepG P true g w=.go g' w #[rd (stA Wg)]/\∃m,(Goes P true (RM ty Wg) DC0) Anch m g' w)
def JW1(g:JF)(w:JE):Prop:=
 g.status=.running/\∀v:Nat,v<2147483648->WgAt ty Wg w (v*KK) 0->∃g',stepG P true g w=.go g' w #[rd (stA Wg)] /\
  (v=0->∃m,(Goes P true (RM ty Wg) DC0) (JKe P ty Wg Fin) m g' w)/\(v≠0->∃m,(Goes P true (RM ty Wg) DC0) (JW2 P ty Wg Fin Anch v) m g' w)
def JKd(g:JF)(w:JE):Prop:=g.status=.running/\∃g',stepG P true g w=.go g' w #[mk .disable]/\∃m,(Goes P true (RM ty Wg) DC0) Anch m g' w
end
section
variable(Next:JF->JE->Prop)
def Jrn(g:JF)(w:JE):Prop:=g.status=.running/\∃g',stepG P true g w=.go g' w #[mk .enable]/\∃m,(Goes P true (RM ty Wg) DC0) Next m g' w
def JRd(g:JF)(w:JE):Prop:=g.status=.running/\∃g',stepG P true g w=.go g' w #[mk (.read (smA Wg))]/\∃m,(Goes P true (RM ty Wg) DC0) (Jrn P ty Wg Next) m g' w
def JA1(g:JF)(w:JE):Prop:=
 g.status=.running/\∀v:Nat,v<2147483647->WgAt ty Wg w (v*KK) 0 ->
  ∃g',stepG P true g w=.go g' (w.setCell (stA Wg) (.int .u64 ((v+1)*KK))) #[rd (stA Wg),wr (stA Wg)] /\
   (v=0->∃m,(Goes P true (RM ty Wg) DC0) (JRd P ty Wg Next) m g' (w.setCell (stA Wg) (.int .u64 ((v+1)*KK))))/\(v≠0->∃m,(Goes P true (RM ty Wg) DC0) (Jrn P ty Wg Next) m g' (w.setCell (stA Wg) (.int .u64 ((v+1)*KK))))
def uX(g:JF)(w:JE):Prop:=g.status=.running/\∃g',stepG P true g w=.go g' w #[mk .disable]/\∃m,(Goes P true (RM ty Wg) DC0) (JA1 P ty Wg Next) m g' w
end
end
end Go.Sim
namespace Go.Sim
open Go.Conc Go.ConcN
inductive Ti{α:Type}(r:α->α->Prop):List α->List α->Prop
 |head{a b:α}{l:List α}(h:r a b):Ti r (a::l) (b::l)
 |tail{a:α}{l l':List α}(h:Ti r l l'):Ti r (a::l) (a::l')
theorem Jro{α:Type}{r:α->α->Prop}{a:α}(ha:Acc r a):∀{l:List α},Acc (Ti r) l->Acc (Ti r) (a::l):=by
 induction ha with
 |intro a _ iha=>
  intro l hl
  induction hl with
  |intro l h2 ihl=>
   refine .intro _ λx hx=>?_;cases hx with
   |head h=>exact iha _ h (.intro _ h2)
   |tail h=>exact ihl _ h
theorem Jit{α:Type}{r:α->α->Prop}:∀(l:List α),(∀a∈l,Acc r a)->Acc (Ti r) l
 |[],_=>.intro _ λ_ h=>nomatch h
 |a::l,h=>Jro (h a (by simp)) (Jit l λb hb=>h b (by simp[hb]))
theorem Jgc{α:Type}{r:α->α->Prop}{x y:α}:∀{l:List α}{i:Nat},l[i]?=some y->r x y->Ti r (l.set i x) l
 |[],_,h,_=>by simp at h
 |a::l,0,h,hr=>by simp at h;subst h;exact .head hr
 |a::l,i+1,h,hr=>.tail (Jgc (by simpa using h) hr)
def Jrp(st:Bool)(P:Program)(main:Bool)(Stop:Sit->Prop)(y2 y:Sit):Prop:=
 (∃w1,Cb st y.X y.w w1/\QK P main y w1 y2)/\¬ ∀w1,Cb st y.X y.w w1->Stop { y with w:=w1 }
theorem QK.unique{P:Program}{main:Bool}{y:Sit}{w1:JE}{y2 y3:Sit}(h:QK P main y w1 y2)(k:QK P main y w1 y3):y2=y3:=by obtain⟨es,h1,_⟩:=h.step;obtain⟨AZ,k1,_⟩:=k.step;rw[h1]at k1;simp only[GStep.go.injEq]at k1;obtain⟨a,b,_⟩:=k1;obtain⟨o2,x2,g2,w2⟩:=y2;obtain⟨o3,x3,g3,w3⟩:=y3;have e1:=h.own;have e2:=k.own;have e3:=h.X;have e4:=k.X;simp only at a b e1 e2 e3 e4;subst a b e1 e2 e3 e4;rfl
theorem Runs.acc{st:Bool}{P:Program}{main:Bool}{Stop:Sit->Prop}{y:Sit}(h:Runs st P main Stop y):Acc (Jrp st P main Stop) y:=by
 induction h with
 |stop h=>exact .intro _ λy2 h2=>absurd h h2.2
 |step f h k ih=>
  refine .intro _ λy2 h2=>?_;obtain⟨⟨w1,hr,hg⟩,_⟩:=h2;rw[hg.unique (h w1 hr)];exact ih w1 hr
inductive Zu(st:Bool)(P:Program)(main:Bool)(Stop:Sit->Prop):Option Sit->Option Sit->Prop
 |done{y:Sit}:Zu st P main Stop none (some y)
 |step{y2 y:Sit}(h:Jrp st P main Stop y2 y):Zu st P main Stop (some y2) (some y)
theorem J8s{st:Bool}{P:Program}{main:Bool}{Stop:Sit->Prop}:Acc (Zu st P main Stop) none:=.intro _ λ_ h=>nomatch h
theorem Jmc{st:Bool}{P:Program}{main:Bool}{Stop:Sit->Prop}{y:Sit}(h:Acc (Jrp st P main Stop) y):Acc (Zu st P main Stop) (some y):=by
 induction h with
 |intro y _ ih=>
  refine .intro _ λz hz=>?_;cases hz with
  |done=>exact J8s
  |step h=>exact ih _ h
def Jmd{α:Type}(r:Nat->α->α->Prop)(x y:Nat × α):Prop:=x.1=y.1/\r y.1 x.2 y.2
theorem Jrq{α:Type}{r:Nat->α->α->Prop}{i:Nat}{a:α}(h:Acc (r i) a):Acc (Jmd r) (i,a):=by
 induction h with
 |intro a _ ih=>
  refine .intro _ λz hz=>?_;obtain⟨k,z⟩:=z;obtain⟨h1,h2⟩:=hz;simp only at h1 h2;subst h1;exact ih z h2
theorem Jp6{α:Type}{r:Nat->α->α->Prop}(l:List (Nat × α))(h:∀a∈l,Acc (r a.1) a.2):Acc (Ti (Jmd r)) l:=Jit l λa ha=>Jrq (h a ha)
def Ju7(t:Trace)(l:Loc):Prop:=∀i a,touchAt t i=some a->a.loc≠l
section
variable{Sh:Loc->Prop}{Own Rd Yt Rd':Nat->Loc->Prop}{t:Trace}{j:Nat}
theorem CT.widen(h:CT Sh Own Rd t j)(h1:∀k,1<=k->k<=j->∀l,Own k l->Yt k l)(h2:∀k,1<=k->k<=j->∀l,Yt k l->Own k l\/Ju7 t l)(h3:∀k,1<=k->k<=j->∀l,Rd' k l↔Rd k l):CT Sh Yt Rd' t j:=by
 refine⟨h.quiet,λk k1 kj l hl=>?_,λk k1 kj l hl=>h.rd k k1 kj l ((h3 k k1 kj l).1 hl),λl hs hl=>h.free l hs λk k1 kj=>?_,λl hs hl=>h.mine l hs λk k1 kj ho=>hl k k1 kj (h1 k k1 kj l ho),h.nr,h.gs⟩
 ·rcases h2 k k1 kj l hl with h|hf
  ·exact CT.own ‹CT Sh Own Rd t j› k k1 kj l h
  ·intro i a ha e;exact absurd e (hf i a ha)
 ·exact⟨λho=>(hl k k1 kj).1 (h1 k k1 kj l ho),λhr=>(hl k k1 kj).2 ((h3 k k1 kj l).2 hr)⟩
theorem J9u{B:Nat}(h:∀op∈t,op.act.low B){l:Loc}(hl:¬l.low B):Ju7 t l:=by
 intro i a ha e;obtain⟨x,hx,FM⟩:=touch_of ha;obtain⟨Ac,rfl⟩:=BQ.1 hx;have BK:=h _ (Array.getElem_mem Ac);refine hl ?_;rw[<- e]
 revert FM BK
 generalize t[i].act=act;intro FM BK;cases act with
 |access ev=>
  simp only[MemAct.touch?]at FM;split at FM<;>first|(cases FM;exact BK)|cases FM
 |mark m=>cases m<;>simp[MemAct.touch?]at FM<;>(subst FM;exact BK)
 |_=>simp[MemAct.touch?]at FM
end
end Go.Sim
namespace Go.Sim
open Go.Conc Go.ConcN
open Go.ConcR (KK wgBlock WgAt stA smA rd wr mk Payload DC0)
structure Ph where
 P:Program
 ty:JH
 Wg:Nat
 C:Nat
 n:Nat
 m:Nat
 W:JB
 Sh0:JB
 w0:JE
 t0:Trace
 q0:Nat->Nat
 tI:JH
 Q:Nat->(JB)->(JB)->JJ->JE->Prop
 Fin:JF->JE->Prop
 Anch:JF->JE->Prop
structure CZ where
 own:JB
 X:JB
 v:JJ
 rank:Option Sit
 d:WD
section
variable[Payload](H:Ph)
def QV:Nat->Loc->Prop:=λ_ _=>False
def DT(k:Nat)(w w':JE)(es:Array Event):Prop:=AsideCell H.C H.n (k-1) w w'/\∀e∈es,e=⟨.cell ⟨H.C,k-1,none⟩,true,false⟩
def SE(i:Nat)(y:Sit):Prop:=
 ∃v,H.Q i y.own y.X v y.w/\∀w1,PayAt H.C H.n w1->WgLive H.ty H.Wg w1->∃k,Goes H.P false (RW H.ty H.Wg H.C H.n 0 (i+1-1)) (DT H (i+1)) (AtR0 H.P H.ty H.Wg H.C H.n 0 (i+1) v) k y.g w1
inductive WS(i:Nat)(D:CZ)(g:JF)(w:JE):Prop
 |work(y:Sit)(hr:D.rank=some y)(ho:y.own=D.own)(hX:y.X=D.X)(hg:y.g=g)(hR:Runs true H.P false (SE H i) y)(hw:Cb true y.X y.w w)(hd:D.d=⟨7,0,0⟩)(hs:g.status=.running)(YB:g.offers=none):WS i D g w
 |r0(hr:D.rank=none)(f:Nat)(hd:D.d=⟨7,f,0⟩)(hs:Goes H.P false (RW H.ty H.Wg H.C H.n 0 (i+1-1)) (DT H (i+1)) (AtR0 H.P H.ty H.Wg H.C H.n 0 (i+1) D.v) f g w)(hQ:H.Q i D.own D.X D.v w):WS i D g w
 |tail(hr:D.rank=none)(h6:D.d.stage<=6)(hs:WSit H.P H.ty H.Wg H.C H.n QV QV 0 (i+1) D.v D.d.stage D.d.fuel D.d.deaf g w)(hQ:H.Q i D.own D.X D.v w):WS i D g w
structure Oth(i:Nat)(X:JB)(w w':JE):Prop where
 rely:Cb true X w w'
 rw:RW H.ty H.Wg H.C H.n 0 i w w'
omit [Payload] in
theorem Cb.trans{st:Bool}{X:JB}{w w1 w2:JE}(h:Cb st X w w1)(k:Cb st X w1 w2):Cb st X w w2:=
 ⟨λb hb=>(k.blocks b hb).trans (h.blocks b hb),BL h.size k.size,λe=>(k.same e).trans (h.same e),k.os.trans h.os⟩
variable(hQ:∀i own X v w w',H.Q i own X v w->Cb true X w w'->H.Q i own X v w')
include hQ in
theorem WS.other{i:Nat}{D:CZ}{g:JF}{w w':JE}(h:WS H i D g w)(o:Oth H i D.X w w'):WS H i D g w':=by
 cases h with
 |work y hr ho hX hg hR hw hd hs YB=>exact .work y hr ho hX hg hR (hw.trans (by rw[hX];exact o.rely)) hd hs YB
 |r0 hr f hd hs ZY=>exact .r0 hr f hd (Goes.rely (λ_ _ _ a b=>a.trans b) hs o.rw) (hQ _ _ _ _ _ _ ZY o.rely)
 |tail hr h6 hs ZY=>exact .tail hr h6 (hs.rely o.rw) (hQ _ _ _ _ _ _ ZY o.rely)
inductive Eu where
 |al|st (s:Nat)|kds (s:Nat)|a1 (s:Nat)|rd (s:Nat)|kes (s:Nat)|go (s:Nat)
 |kd|anch|w1|w2 (vs:Nat)|wr|w3|blk|w4|ke|acq|fin
def Ej(n v:Nat):Eu->Nat
 |.al=>8*n+40 | .st _=>8*n+39 | .kds _=>8*n+38 | .a1 _=>8*n+37 | .rd _=>8*n+36 | .kes _=>8*n+35 | .go _=>8*n+34
 |.kd=>8*n+20
 |.anch=>8*v+6
 |.w1=>8*v+5
 |.w2 vs=>8*vs+4
 |.wr=>8
 |.w3=>5
 |.blk=>5
 |.w4=>4
 |.ke=>3
 |.acq=>2
 |.fin=>1
def Io:Eu->Nat
 |.rd _ | .kes _ | .go _=>1
 |_=>0
def dU:Eu->Prop
 |.al | .st _ | .kds _ | .a1 _ | .rd _ | .kes _ | .go _ | .kd | .anch | .w1 | .w2 _=>True
 |_=>False
def jw3:Eu->Prop
 |.wr | .w3 | .blk=>True
 |_=>False
def Jx3:Eu->Prop
 |.w4 | .ke | .acq | .fin=>True
 |_=>False
inductive Jv(j:Nat)(D:Nat->WD):Eu->Int->Int->Prop
 |opn{tag:Eu}:dU tag->OpenSt j D->(∀vs,tag=.w2 vs->Vc j D<=vs/\1<=vs)->Jv j D tag (((Vc j D+Io tag:Nat):Int)*KK) 0
 |reg{tag:Eu}:jw3 tag->OpenSt j D->1<=Vc j D->Jv j D tag (((Vc j D:Nat):Int)*KK+1) 0
 |last{tag:Eu}(L:Nat):jw3 tag->L<j->((D L).stage=4\/(D L).stage=3\/(D L).stage=2)->(∀i,i<j->i≠L->(D i).stage=1)->Jv j D tag (if(D L).stage=2 then 0 else 1) 0
 |sema{tag:Eu}:(tag=.wr\/tag=.w3)->AllQuit j D->Jv j D tag 0 1
 |fin{tag:Eu}:Jx3 tag->AllQuit j D->Jv j D tag 0 0
def JGo(i s:Nat)(Next:JF->JE->Prop)(g:JF)(w:JE):Prop:=
 g.status=.running/\((∀b,H.Sh0 b->w.heap[b]?=H.w0.heap[b]?)->w.heap[s]?=some (.cells #[.int .i64 i] H.tI)->w.os=H.w0.os ->
  ∃g' child,stepG H.P true g w=.spawn g' child w #[]/\child.status=.running/\child.offers=none/\Runs true H.P false (SE H i) ⟨λ_=>False,λb=>H.Sh0 b\/b=s,child,w⟩/\g'.status=.running/\Next g' w)
def JSt(i s:Nat)(Next:JF->JE->Prop)(g:JF)(w:JE):Prop:=
 g.status=.running/\(w.heap[s]?=some (.cells #[.int .i64 0] H.tI)->∃g',stepG H.P true g w=.go g' (w.setCell ⟨s,0,none⟩ (.int .i64 i)) #[⟨.cell ⟨s,0,none⟩,true,false⟩] /\
  ∃k,(Goes H.P true (RM H.ty H.Wg) DC0) (uX H.P H.ty H.Wg (JGo H i s Next)) k g' (w.setCell ⟨s,0,none⟩ (.int .i64 i)))
def JAl(i:Nat)(Next:JF->JE->Prop)(g:JF)(w:JE):Prop:=
 g.status=.running/\∃g',stepG H.P true g w=.go g' { w with heap:=w.heap.push (.cells #[.int .i64 0] H.tI) } #[] /\
  ∃k,(Goes H.P true (RM H.ty H.Wg) DC0) (JSt H i w.heap.size Next) k g' { w with heap:=w.heap.push (.cells #[.int .i64 0] H.tI) }
def JSp:Nat->JF->JE->Prop
 |0,g,w=>∃k,(Goes H.P true (RM H.ty H.Wg) DC0) (JKd H.P H.ty H.Wg H.Anch) k g w
 |r+1,g,w=>∃k,(Goes H.P true (RM H.ty H.Wg) DC0) (JAl H (H.n-(r+1)) (JSp r)) k g w
inductive Ec:Eu->Nat->Nat->Nat->JF->JE->Prop
 |al{r f:Nat}{g:JF}{w:JE}:r<H.n->(Goes H.P true (RM H.ty H.Wg) DC0) (JAl H (H.n-(r+1)) (JSp H r)) f g w->Ec .al (H.n-(r+1)) f 0 g w
 |st{r s f:Nat}{g:JF}{w:JE}:r<H.n->(Goes H.P true (RM H.ty H.Wg) DC0) (JSt H (H.n-(r+1)) s (JSp H r)) f g w->Ec (.st s) (H.n-(r+1)) f 0 g w
 |kds{r s f:Nat}{g:JF}{w:JE}:r<H.n->(Goes H.P true (RM H.ty H.Wg) DC0) (uX H.P H.ty H.Wg (JGo H (H.n-(r+1)) s (JSp H r))) f g w->Ec (.kds s) (H.n-(r+1)) f 0 g w
 |a1{r s f:Nat}{g:JF}{w:JE}:r<H.n->(Goes H.P true (RM H.ty H.Wg) DC0) (JA1 H.P H.ty H.Wg (JGo H (H.n-(r+1)) s (JSp H r))) f g w->Ec (.a1 s) (H.n-(r+1)) f 1 g w
 |rd{r s f:Nat}{g:JF}{w:JE}:r<H.n->(Goes H.P true (RM H.ty H.Wg) DC0) (JRd H.P H.ty H.Wg (JGo H (H.n-(r+1)) s (JSp H r))) f g w->Ec (.rd s) (H.n-(r+1)) f 1 g w
 |kes{r s f:Nat}{g:JF}{w:JE}:r<H.n->(Goes H.P true (RM H.ty H.Wg) DC0) (Jrn H.P H.ty H.Wg (JGo H (H.n-(r+1)) s (JSp H r))) f g w->Ec (.kes s) (H.n-(r+1)) f 1 g w
 |go{r s f:Nat}{g:JF}{w:JE}:r<H.n->(Goes H.P true (RM H.ty H.Wg) DC0) (JGo H (H.n-(r+1)) s (JSp H r)) f g w->Ec (.go s) (H.n-(r+1)) f 0 g w
 |kd{f:Nat}{g:JF}{w:JE}:(Goes H.P true (RM H.ty H.Wg) DC0) (JKd H.P H.ty H.Wg H.Anch) f g w->Ec .kd H.n f 0 g w
 |anch{f:Nat}{g:JF}{w:JE}:(Goes H.P true (RM H.ty H.Wg) DC0) H.Anch f g w->Ec .anch H.n f 1 g w
 |w1{f:Nat}{g:JF}{w:JE}:(Goes H.P true (RM H.ty H.Wg) DC0) (JW1 H.P H.ty H.Wg H.Fin H.Anch) f g w->Ec .w1 H.n f 1 g w
 |w2{vs f:Nat}{g:JF}{w:JE}:(Goes H.P true (RM H.ty H.Wg) DC0) (JW2 H.P H.ty H.Wg H.Fin H.Anch vs) f g w->Ec (.w2 vs) H.n f 1 g w
 |wr{f:Nat}{g:JF}{w:JE}:(Goes H.P true (RM H.ty H.Wg) DC0) (JWr H.P H.ty H.Wg H.Fin) f g w->Ec .wr H.n f 1 g w
 |w3{f:Nat}{g:JF}{w:JE}:(Goes H.P true (RM H.ty H.Wg) DC0) (JW3 H.P H.ty H.Wg H.Fin) f g w->Ec .w3 H.n (f+1) 1 g w
 |blk{g:JF}{w:JE}:(∀w₁,RM H.ty H.Wg w w₁->JW3 H.P H.ty H.Wg H.Fin g w₁)->Ec .blk H.n 0 1 { g with status:=.blocked } w
 |w4{f:Nat}{g:JF}{w:JE}:(Goes H.P true (RM H.ty H.Wg) DC0) (JW4 H.P H.ty H.Wg H.Fin) f g w->Ec .w4 H.n f 1 g w
 |ke{f:Nat}{g:JF}{w:JE}:(Goes H.P true (RM H.ty H.Wg) DC0) (JKe H.P H.ty H.Wg H.Fin) f g w->Ec .ke H.n f 1 g w
 |acq{f:Nat}{g:JF}{w:JE}:(Goes H.P true (RM H.ty H.Wg) DC0) (eY H.P H.ty H.Wg H.Fin) f g w->Ec .acq H.n f 0 g w
 |fin{f:Nat}{g:JF}{w:JE}:(Goes H.P true (RM H.ty H.Wg) DC0) H.Fin f g w->Ec .fin H.n f 0 g w
omit [Payload] in
theorem Ku{ty:JH}{Wg:Nat}(a b c:JE)(h:RM ty Wg a b)(k:RM ty Wg b c):RM ty Wg a c:=λx=>k (h x)
theorem Ec.rely{tag:Eu}{j f d:Nat}{g:JF}{w w':JE}(h:Ec H tag j f d g w)(r:RM H.ty H.Wg w w'):Ec H tag j f d g w':=by
 cases h with
 |al hr h=>exact .al hr (Goes.rely Ku h r)
 |st hr h=>exact .st hr (Goes.rely Ku h r)
 |kds hr h=>exact .kds hr (Goes.rely Ku h r)
 |a1 hr h=>exact .a1 hr (Goes.rely Ku h r)
 |rd hr h=>exact .rd hr (Goes.rely Ku h r)
 |kes hr h=>exact .kes hr (Goes.rely Ku h r)
 |go hr h=>exact .go hr (Goes.rely Ku h r)
 |kd h=>exact .kd (Goes.rely Ku h r)
 |anch h=>exact .anch (Goes.rely Ku h r)
 |w1 h=>exact .w1 (Goes.rely Ku h r)
 |w2 h=>exact .w2 (Goes.rely Ku h r)
 |wr h=>exact .wr (Goes.rely Ku h r)
 |w3 h=>exact .w3 (Goes.rely Ku h r)
 |blk h=>exact .blk λw₁ h₁=>h w₁ (Ku _ _ _ r h₁)
 |w4 h=>exact .w4 (Goes.rely Ku h r)
 |ke h=>exact .ke (Goes.rely Ku h r)
 |acq h=>exact .acq (Goes.rely Ku h r)
 |fin h=>exact .fin (Goes.rely Ku h r)
end
end Go.Sim
section
set_option linter.unusedSectionVars false
namespace Go.Sim
open Go.Conc Go.ConcN
open Go.ConcR (KK wgBlock WgAt stA smA rd wr mk Payload DC0)
def Tn:Loc->Option Nat
 |.cell a=>some a.block
 |.obj r=>some r
 |_=>none
section
variable[Payload](H:Ph)
def ShJ:Loc->Prop:=ShW (λb=>H.W b\/b=H.Wg)
def LZ(j:Nat)(D:Nat->CZ):Nat->Loc->Prop:=λg l=>∃i,i<j/\g=H.m+1+i/\((∃b,Tn l=some b/\(D i).own b)\/l=.cell ⟨H.C,i,none⟩)
def RdJ(j:Nat)(D:Nat->CZ):Nat->Loc->Prop:=λg l=>∃i,i<j/\g=H.m+1+i/\∃b,Tn l=some b/\(D i).X b/\¬(D i).own b
structure JW(j:Nat)(D:Nat->CZ)(w:JE):Prop where
 keep:∀b,H.Sh0 b\/H.W b->w.heap[b]?=H.w0.heap[b]?
 pay:PayAt H.C H.n w
 has:∀i,i<j->(D i).d.stage<=6->Has H.C i (D i).v w
 low:∀i,i<j->∀b,(D i).X b->b<w.heap.size
 Kr:∀i,i<j->∀b,(D i).own b->(D i).X b
 Pg:∀i i',i<j->i'<j->i≠i'->∀b,(D i).own b->¬(D i').X b
 Qk:∀i,i<j->∀b,(D i).own b->¬H.Sh0 b
 avoid:∀i,i<j->∀b,(D i).X b->b≠H.Wg/\b≠H.C/\¬H.W b
 wg:H.Wg<w.heap.size
 c:H.C<w.heap.size
 cw:H.C≠H.Wg
 cW:¬H.W H.C
 wW:¬H.W H.Wg
 sh0:∀b,H.Sh0 b->b<w.heap.size/\b≠H.Wg/\b≠H.C/\¬H.W b
 wl:∀b,H.W b->b<w.heap.size
 os:w.os=H.w0.os
 out:w.output=H.w0.output
structure JT(j:Nat)(D:Nat->CZ)(d0:Nat)(w:JE)(t:Trace):Prop where
 ct:CT (ShJ H) (LZ H j D) (RdJ H j D) t (H.m+j)
 pre:∃u,t=H.t0++u
 low:∀op∈t,op.act.low w.heap.size
 new:∀i op x,H.t0.size<=i->t[i]?=some op->op.act.touch?=some x->(op.g=0\/∃i',i'<j/\op.g=H.m+1+i')/\(¬ShJ H x.loc->x.kind=.plain/\x.loc.isMemory=true)
 Xx:NoRelease (stA H.Wg) t
 deaf0:Deaf t 0=d0
 deafW:∀i,i<j->Deaf t (H.m+1+i)=(D i).d.deaf
 above:∀k,H.m+j<k->Deaf t k=0
 rel:∀i,i<j->(D i).d.stage<=6->∃r,RelBy (stA H.Wg) t (H.m+1+i) r
variable{H}
theorem Jp7{l:Loc}{b B:Nat}(h:Tn l=some b):l.low B↔b<B:=by
 cases l<;>simp[Tn]at h
 ·subst h;exact Iff.rfl
 ·subst h;exact Iff.rfl
theorem Jfe{l:Loc}{b:Nat}(h:Tn l=some b)(hs:ShJ H l):H.W b\/b=H.Wg:=by obtain⟨a,rfl,hw⟩:=hs;simp[Tn]at h;subst h;exact hw
theorem JW.apart{j:Nat}{D:Nat->CZ}{w:JE}(h:JW H j D w):Apart (ShJ H) (LZ H j D) (RdJ H j D):=by
 have cne:∀i,i<j->∀b,Tn (.cell ⟨H.C,i,none⟩)=some b->b=H.C:=λi _ b hb=>by simp[Tn]at hb;exact hb.symm
 refine⟨?_,?_,?_,?_⟩
 ·rintro k k' l ⟨i,hi,rfl,h1⟩ ⟨i',Dn,rfl,h2⟩;by_cases e:i=i'
  ·rw[e]
  ·exfalso;rcases h1 with⟨b,hb,ho⟩|rfl
   ·rcases h2 with⟨b',BR,DZ⟩|rfl
    ·rw[hb]at BR;cases BR;exact h.Pg i i' hi Dn e b ho (h.Kr i' Dn b DZ)
    ·have:=cne i' Dn b hb;exact(h.avoid i hi b (h.Kr i hi b ho)).2.1 this
   ·rcases h2 with⟨b',BR,DZ⟩|h2
    ·have:=cne i hi b' BR;exact(h.avoid i' Dn b' (h.Kr i' Dn b' DZ)).2.1 this
    ·simp only[Loc.cell.injEq,Addr.mk.injEq]at h2;exact e h2.2.1
 ·rintro k k' l ⟨i,hi,rfl,h1⟩ ⟨i',Dn,e,b',BR,hX,hn⟩;rcases h1 with⟨b,hb,ho⟩|rfl
  ·have e2:b=b':=Aa (hb.symm.trans BR);subst e2;by_cases e:i=i'
   ·subst e;exact hn ho
   ·exact h.Pg i i' hi Dn e b ho hX
  ·have:=cne i hi b' BR;exact(h.avoid i' Dn b' hX).2.1 this
 ·rintro k l ⟨i,hi,rfl,h1⟩ hs;rcases h1 with⟨b,hb,ho⟩|rfl
  ·have ha:=h.avoid i hi b (h.Kr i hi b ho);rcases Jfe hb hs with hw|hw
   ·exact ha.2.2 hw
   ·exact ha.1 hw
  ·rcases Jfe (b:=H.C) rfl hs with hw|hw
   ·exact h.cW hw
   ·exact h.cw hw
 ·rintro k l ⟨i,hi,rfl,b,hb,hX,hn⟩ hs;have ha:=h.avoid i hi b hX;rcases Jfe hb hs with hw|hw
  ·exact ha.2.2 hw
  ·exact ha.1 hw
theorem Jvm{j:Nat}{D:Nat->CZ}{i:Nat}(hi:i<j){e:Event}(h:EvG (D i).own (D i).X e)(fn:JG)(pos:String):OkW (ShJ H) (LZ H j D) (RdJ H j D) (H.m+1+i) { g:=H.m+1+i,fn,pos,act:=.ofEvent e }:=by
 refine⟨rfl,λx hx=>?_⟩;obtain⟨loc,wr,sy⟩:=e;have key:∀b,Tn loc=some b->((D i).X b/\(wr=true->(D i).own b))->x.loc=loc->x.write=wr->LZ H j D (H.m+1+i) x.loc\/(RdJ H j D (H.m+1+i) x.loc/\x.write=false):=by
  intro b hb ⟨h1,h2⟩ e1 e2;by_cases ho:(D i).own b
  ·exact .inl ⟨i,hi,rfl,.inl ⟨b,by rw[e1];exact hb,ho⟩⟩
  ·refine .inr ⟨⟨i,hi,rfl,b,by rw[e1];exact hb,h1,ho⟩,?_⟩;cases hw:wr with
   |false=>rw[e2,hw]
   |true=>exact absurd (h2 hw) ho
 cases loc with
 |cell a=>
  obtain⟨h1,h3⟩:=h;simp only at h3;subst h3;have Ag:=hx;simp only[MemAct.ofEvent,MemAct.touch?,Cm]at Ag;subst Ag;exact .inr (key _ rfl h1 rfl rfl)
 |obj r=>
  obtain⟨h1,h3⟩:=h;simp only at h3;subst h3;have Ag:=hx;have e:MemAct.ofEvent ⟨.obj r,wr,false⟩=.access ⟨.obj r,wr,false⟩:=by cases wr<;>rfl
  simp only[e,MemAct.touch?,Cm]at Ag;subst Ag;exact .inr (key _ rfl h1 rfl rfl)
 |mark m=>cases m<;>first|exact h.elim|(simp[MemAct.ofEvent,MemAct.touch?]at hx)
 |output=>exact h.elim
 |goroutines=>exact h.elim
theorem Jp8{own X:JB}{e:Event}(h:EvG own X e){x:Touch}(hx:(MemAct.ofEvent e).touch?=some x):x.kind=.plain/\x.loc.isMemory=true:=by
 obtain⟨loc,wr,sy⟩:=e;cases loc with
 |cell a=>
  obtain⟨h1,h3⟩:=h;simp only at h3;subst h3;simp only[MemAct.ofEvent,MemAct.touch?,Cm]at hx;subst hx;exact⟨rfl,rfl⟩
 |obj r=>
  obtain⟨h1,h3⟩:=h;simp only at h3;subst h3;have e:MemAct.ofEvent ⟨.obj r,wr,false⟩=.access ⟨.obj r,wr,false⟩:=by cases wr<;>rfl
  simp only[e,MemAct.touch?,Cm]at hx;subst hx;exact⟨rfl,rfl⟩
 |mark m=>cases m<;>first|exact h.elim|(simp[MemAct.ofEvent,MemAct.touch?]at hx)
 |output=>exact h.elim
 |goroutines=>exact h.elim
theorem Jvn{own X:JB}{B:Nat}{e:Event}(h:EvG own X e)(hB:∀b,X b->b<B):(MemAct.ofEvent e).low B:=(h.evL (W:=λ_=>False) (λ_ h=>h.elim) hB).2.2.2
theorem J9w{own X:JB}{e:Event}(h:EvG own X e):e.loc≠.mark .disable/\e.loc≠.mark .enable/\∀a,e.loc≠.mark (.release a):=by refine⟨?_,?_,λa=>?_⟩<;>(intro he;unfold EvG at h;rw[he]at h;exact h)
end
end Go.Sim
end
section
set_option linter.unusedSectionVars false
namespace Go.Sim
open Go.Conc Go.ConcN
open Go.ConcR (KK wgBlock WgAt stA smA rd wr mk Payload DC0)
section
variable[Payload](H:Ph)
def WZ(tag:Eu)(j:Nat)(D:Nat->CZ)(w:JE):Prop:=
 let mine (s:Nat):Prop:=¬H.Sh0 s/\(∀i,i<j->¬(D i).X s)/\s≠H.Wg/\s≠H.C/\¬H.W s
 match tag with
 |.st s=>w.heap[s]?=some (.cells #[.int .i64 0] H.tI)/\mine s
 |.kds s | .a1 s | .rd s | .kes s | .go s=>w.heap[s]?=some (.cells #[.int .i64 j] H.tI)/\mine s
 |_=>True
def V8(j:Nat)(t:Trace):Prop:=
 ∃q,t.act? q=some (.mark (.acquire (stA H.Wg)))/\t.g? q=some 0/\t.heard q/\∀i,i<j->∃r,RelBy (stA H.Wg) t (H.m+1+i) r/\r<q
structure JInv(tag:Eu)(j:Nat)(D:Nat->CZ)(f0 d0:Nat)(q:Nat->Nat)(gs:Array JF)(w:JE)(t:Trace):Prop where
 jn:j<=H.n
 size:gs.size=H.m+1+j
 main:∃a,gs[0]?=some a/\Ec H tag j f0 d0 a w
 ws:∀i,i<j->∃g,gs[H.m+1+i]?=some g/\WS H i (D i) g w
 old:∀k g,0<k->k<=H.m->gs[k]?=some g->QuitsD H.P (q k) (Deaf t k) g
 jw:JW H j D w
 jt:JT H j D d0 w t
 wg:∃st sm,WgAt H.ty H.Wg w st sm/\Jv j (λi=>(D i).d) tag st sm
 sb:WZ H tag j D w
 acq:tag=.fin->V8 H j t
def ranks(j:Nat)(D:Nat->CZ):List (Nat × Option Sit):=(List.range j).map λi=>(i,(D i).rank)
def mu(tag:Eu)(j:Nat)(D:Nat->CZ)(f0:Nat)(q:Nat->Nat):Nat × Nat:=
 (Ej H.n (Vc j λi=>(D i).d) tag+Ssum j (λi=>(D i).d),f0+2*Fsum j (λi=>(D i).d)+2*sumTo (H.m+1) q)
abbrev Jme:(Nat × Option Sit)->(Nat × Option Sit)->Prop:=Jmd λi=>Zu true H.P false (SE H i)
def Falls(r':Nat)(l':List (Nat × Option Sit))(μ':Nat × Nat)(r:Nat)(l:List (Nat × Option Sit))(μ:Nat × Nat):Prop:=
 r'<r\/(r'=r/\Ti (Jme H) l' l)\/(r'=r/\l'=l/\Prod.Lex (· < ·) (· < ·) μ' μ)
variable{H}
theorem Jp9{j i:Nat}{D:Nat->CZ}{D':CZ}(hi:i<j):ranks j (upd D i D')=(ranks j D).set i (i,D'.rank):=by
 apply List.ext_getElem?;intro k;unfold ranks;rw[List.getElem?_set];simp only[List.getElem?_map,List.getElem?_range',Et,List.length_range];by_cases hk:k<j
 ·rw[List.getElem?_range hk];by_cases e:i=k
  ·subst e;simp[upd_same,hk]
  ·simp[e,upd_ne D D' (Ne.symm e)]
 ·have:(List.range j)[k]?=none:=by simp;omega
  rw[this];by_cases e:i=k
  ·omega
  ·simp[e]
theorem Jmf{j i:Nat}{D:Nat->CZ}{D':CZ}(hi:i<j)(h:D'.rank=(D i).rank):ranks j (upd D i D')=ranks j D:=by
 unfold ranks;refine List.map_congr_left λk hk=>?_;by_cases e:k=i
 ·subst e;simp[upd_same,h]
 ·simp[upd_ne D D' e]
theorem Jd9{j i:Nat}{D:Nat->CZ}{D':CZ}(hi:i<j)(h:Zu true H.P false (SE H i) D'.rank (D i).rank):Ti (Jme H) (ranks j (upd D i D')) (ranks j D):=by rw[Jp9 hi];exact Jgc (y:=(i,(D i).rank)) (by simp[ranks,hi]) ⟨rfl,h⟩
theorem JInv.Jrr{tag:Eu}{j:Nat}{D:Nat->CZ}{f0 d0:Nat}{q:Nat->Nat}{gs:Array JF}{w:JE}{t:Trace}(h:JInv H tag j D f0 d0 q gs w t):Acc (Ti (Jme H)) (ranks j D):=by
 refine Jp6 _ λa ha=>?_;unfold ranks at ha;obtain⟨i,hi,rfl⟩:=AY.1 ha;obtain⟨g,_,hw⟩:=h.ws i (by simpa using hi);show Acc (Zu true H.P false (SE H i)) (D i).rank;cases hw with
 |work y hr _ _ _ hR=>rw[hr];exact Jmc hR.acc
 |r0 hr=>rw[hr];exact J8s
 |tail hr=>rw[hr];exact J8s
theorem Ze(D:Nat->CZ)(i:Nat)(D':CZ):(λk=>(upd D i D' k).d)=upd (λk=>(D k).d) i D'.d:=by
 funext k;by_cases e:k=i
 ·subst e;simp[upd_same]
 ·simp[upd_ne _ _ e]
theorem Ec.woken{tag:Eu}{j f d:Nat}{a:JF}{w w':JE}(hA:∀g w,H.Anch g w->g.status=.running)(hF:∀g w,H.Fin g w->g.status=.running)(hl:WgLive H.ty H.Wg w)(h:Ec H tag j f d a w)(r:RM H.ty H.Wg w w')(g g':JF) :
  ∃tag' f',Ec H tag' j f' d (Conc.woken H.P g g' w' a) w'/\f'<=f+1/\(tag'=tag\/(tag=.blk/\tag'=.w3))/\(mayWake H.P g=true->g'.status=.running->tag'≠.blk):=by
 have run:∀{a:JF}{w:JE},a.status=.running->Conc.woken H.P g g' w' a=a:=λhr=>woken_run hr;have gm:∀{Stop:JF->JE->Prop}{n:Nat},(∀g w,Stop g w->g.status=.running)->Goes H.P true (RM H.ty H.Wg) DC0 Stop n a w->a.status=.running:=λhs hg=>Goes.running hs w id hg;have same:a.status=.running->tag≠.blk->∃tag' f',Ec H tag' j f' d (Conc.woken H.P g g' w' a) w'/\f'<=f+1/\(tag'=tag\/(tag=.blk/\tag'=.w3))/\(mayWake H.P g=true->g'.status=.running->tag'≠.blk):=
  λhr hb=>⟨tag,f,by rw[run (w:=w) hr];exact h.rely H r,by omega,.inl rfl,λ_ _=>hb⟩
 cases h with
 |al hr h=>exact same (gm (λ_ _ x=>x.1) h) (by simp)
 |st hr h=>exact same (gm (λ_ _ x=>x.1) h) (by simp)
 |kds hr h=>exact same (gm (λ_ _ x=>x.1) h) (by simp)
 |a1 hr h=>exact same (gm (λ_ _ x=>x.1) h) (by simp)
 |rd hr h=>exact same (gm (λ_ _ x=>x.1) h) (by simp)
 |kes hr h=>exact same (gm (λ_ _ x=>x.1) h) (by simp)
 |go hr h=>exact same (gm (λ_ _ x=>x.1) h) (by simp)
 |kd h=>exact same (gm (λ_ _ x=>x.1) h) (by simp)
 |anch h=>exact same (gm hA h) (by simp)
 |w1 h=>exact same (gm (λ_ _ x=>x.1) h) (by simp)
 |w2 h=>exact same (gm (λ_ _ x=>x.1) h) (by simp)
 |wr h=>exact same (gm (λ_ _ x=>x.1) h) (by simp)
 |w3 h=>exact same (gm (λ_ _ x=>x.1) h) (by simp)
 |w4 h=>exact same (gm (λ_ _ x=>x.1) h) (by simp)
 |ke h=>exact same (gm (λ_ _ x=>x.1) h) (by simp)
 |acq h=>exact same (gm (λ_ _ x=>x.1) h) (by simp)
 |fin h=>exact same (gm hF h) (by simp)
 |@blk g0 w1 h=>
  have h3:=h w id;by_cases hw:(mayWake H.P g && g'.status != .blocked && g'.status != .waiting)=true
  ·refine⟨.w3,1,?_,by omega,.inr ⟨rfl,rfl⟩,λ_ _=>by simp⟩;have e:Conc.woken H.P g g' w' { g0 with status:=.blocked }=g0:=by unfold Conc.woken;rw[if_pos hw];obtain⟨fr,cs,st,dy,of⟩:=g0;obtain⟨a1,a2,_⟩:=h3;simp only at a1 a2;subst a1 a2;rfl
   rw[e];exact .w3 (f:=0) (Goes.stop λw₁ h₁=>h w₁ (Ku _ _ _ r h₁))
  ·refine⟨.blk,0,?_,by omega,.inl rfl,λh1 h2=>?_⟩
   ·have e:Conc.woken H.P g g' w' { g0 with status:=.blocked }={ g0 with status:=.blocked }:=by unfold Conc.woken;rw[if_neg hw]
    rw[e];exact .blk λw₁ h₁=>h w₁ (Ku _ _ _ r h₁)
   ·rw[h1,h2]at hw;exact absurd rfl hw
end
end Go.Sim
end
section
set_option linter.unusedSectionVars false
namespace Go.Sim
open Go.Conc Go.ConcN
open Go.ConcR (KK wgBlock WgAt stA smA rd wr mk Payload DC0)
section
variable[Payload]{H:Ph}
theorem J7p{P:Program}{g g' b:JF}{w':JE}(h:b.status=.running\/b.status=.finished):Conc.woken P g g' w' b=b:=by
 unfold Conc.woken;split
 ·unfold Goroutine.again;rcases h with h|h<;>rw[h]
 ·rfl
theorem WSit.status{P:Program}{ty:JH}{Wg C n OE k:Nat}{Own Rd:Nat->Loc->Prop}{v:JJ}{s m d:Nat}{g:JF}{w:JE}(h:WSit P ty Wg C n Own Rd OE k v s m d g w):g.status=.running\/g.status=.finished:=by
 cases h with
 |r0 h=>exact .inl (Goes.running (λ_ _ x=>x.1) w (RW.refl w) h)
 |k1 h=>exact .inl (Goes.running (λ_ _ x=>x.1) w (RW.refl w) h)
 |d1 h=>exact .inl (Goes.running (λ_ _ x=>x.1) w (RW.refl w) h)
 |d2 h=>exact .inl (Goes.running (λ_ _ x=>x.1) w (RW.refl w) h)
 |d3 h=>exact .inl (Goes.running (λ_ _ x=>x.1) w (RW.refl w) h)
 |d4 h=>exact .inl (Goes.running (λ_ _ x=>x.1) w (RW.refl w) h)
 |quit h=>exact h.status
theorem WS.status{i:Nat}{D:CZ}{g:JF}{w:JE}(h:WS H i D g w):g.status=.running\/g.status=.finished:=by
 cases h with
 |work y _ _ _ _ _ _ _ hs=>exact .inl hs
 |r0 _ f _ hs=>exact .inl (Goes.running (λ_ _ x=>x.1) w (RW.refl w) hs)
 |tail _ _ hs=>exact WSit.status hs
theorem JT.appW{j:Nat}{D:Nat->CZ}{d0:Nat}{w w':JE}{t:Trace}(h:JT H j D d0 w t){i:Nat}(hi:i<j){D':CZ}(hA:Apart (ShJ H) (LZ H j (upd D i D')) (RdJ H j (upd D i D')))(hz:w.heap.size<=w'.heap.size)
  {fn:JG} {pos:String} {es:Array Event} (h0:H.t0.size<=t.size)
  (Aw:∀b,(D i).own b->D'.own b) (DL:∀b,D'.own b->(D i).own b\/w.heap.size<=b) (Y2:∀b,(D'.X b/\¬D'.own b)↔((D i).X b/\¬(D i).own b))
  (hok:∀e∈es,OkW (ShJ H) (LZ H j (upd D i D')) (RdJ H j (upd D i D')) (H.m+1+i) { g:=H.m+1+i,fn,pos,act:=.ofEvent e })
  (BK:∀e∈es,(MemAct.ofEvent e).low w'.heap.size) (CO:∀e∈es,∀x,(MemAct.ofEvent e).touch?=some x->¬ShJ H x.loc->x.kind=.plain/\x.loc.isMemory=true)
  (Yr:∀e∈es,MemAct.ofEvent e≠.mark (.release (stA H.Wg))) (Rx:deafBehind (D i).d.deaf es=D'.d.deaf)
  (hrel:D'.d.stage<=6->∃r,RelBy (stA H.Wg) (t++MemOp.ofEvents (H.m+1+i) fn pos es) (H.m+1+i) r) :
  JT H j (upd D i D') d0 w' (t++MemOp.ofEvents (H.m+1+i) fn pos es):=by
 have hg:∀op∈MemOp.ofEvents (H.m+1+i) fn pos es,op.g=H.m+1+i:=λop Au=>by obtain⟨e,_,rfl⟩:=Conc.mem_ofEvents Au;rfl
 have fO:∀k,k<j->k≠i->upd D i D' k=D k:=λk _ hk=>upd_ne D D' hk;have hct:CT (ShJ H) (LZ H j (upd D i D')) (RdJ H j (upd D i D')) t (H.m+j):=by
  refine Sim.CT.widen h.ct ?_ ?_ ?_
  ·rintro k _ _ l ⟨a,ha,rfl,h1⟩;refine⟨a,ha,rfl,?_⟩;by_cases e:a=i
   ·subst e;rw[upd_same];exact h1.imp (λ⟨b,hb,ho⟩=>⟨b,hb,Aw b ho⟩) id
   ·rw[fO a ha e];exact h1
  ·rintro k _ _ l ⟨a,ha,rfl,h1⟩;by_cases e:a=i
   ·subst e;rw[upd_same]at h1;rcases h1 with⟨b,hb,ho⟩|rfl
    ·rcases DL b ho with ho|Dp
     ·exact .inl ⟨a,ha,rfl,.inl ⟨b,hb,ho⟩⟩
     ·exact .inr (J9u h.low (λhl=>by have:=(Jp7 hb).1 hl;omega))
    ·exact .inl ⟨a,ha,rfl,.inr rfl⟩
   ·rw[fO a ha e]at h1;exact .inl ⟨a,ha,rfl,h1⟩
  ·intro k _ _ l;constructor
   ·rintro⟨a,ha,rfl,b,hb,h1⟩;refine⟨a,ha,rfl,b,hb,?_⟩;by_cases e:a=i
    ·subst e;rw[upd_same]at h1;exact(Y2 b).1 h1
    ·rw[fO a ha e]at h1;exact h1
   ·rintro⟨a,ha,rfl,b,hb,h1⟩;refine⟨a,ha,rfl,b,hb,?_⟩;by_cases e:a=i
    ·subst e;rw[upd_same];exact(Y2 b).2 h1
    ·rw[fO a ha e];exact h1
 refine⟨hct.appW hA (k:=H.m+1+i) (by omega) (by omega) λop Au=>?_,?_,?_,?_,?_,?_,?_,?_,?_⟩
 ·obtain⟨e,he,rfl⟩:=Conc.mem_ofEvents Au;exact hok e he
 ·obtain⟨u,hu⟩:=h.pre;exact⟨u++MemOp.ofEvents (H.m+1+i) fn pos es,by rw[hu,Array.append_assoc]⟩
 ·refine seen_app (λop Au=>MemAct.low_mono hz (h.low op Au)) λop Au=>?_;obtain⟨e,he,rfl⟩:=Conc.mem_ofEvents Au;exact BK e he
 ·intro k op x hk Au hx;rcases getElem?_append_cases Au with⟨_,h1⟩|⟨_,h1⟩
  ·exact h.new k op x hk h1 hx
  ·obtain⟨e,he,rfl⟩:=Conc.mem_ofEvents h1;exact⟨.inr ⟨i,hi,rfl⟩,CO e he x hx⟩
 ·exact h.Xx.app λop Au=>by obtain⟨e,he,rfl⟩:=Conc.mem_ofEvents Au;exact Yr e he
 ·rw[Deaf_other t (g:=0) (g':=H.m+1+i) (by omega) _ hg];exact h.deaf0
 ·intro k hk;by_cases e:k=i
  ·subst e;rw[Deaf_own,h.deafW k hk,upd_same];exact Rx
  ·rw[Deaf_other t (g:=H.m+1+k) (g':=H.m+1+i) (by omega) _ hg,fO k hk e];exact h.deafW k hk
 ·intro k hk;rw[Deaf_other t (g:=k) (g':=H.m+1+i) (by omega) _ hg];exact h.above k hk
 ·intro k hk hs;by_cases e:k=i
  ·subst e;rw[upd_same]at hs;exact hrel hs
  ·rw[fO k hk e]at hs;obtain⟨r,hr⟩:=h.rel k hk hs;exact⟨r,hr.appOther hg (by omega)⟩
def Ov(H:Ph)(tag:Eu)(j:Nat)(D:Nat->CZ)(f0:Nat)(q:Nat->Nat)(i:Nat)(gs:Array JF)(w:JE)(sl:Option (Nat × Nat))(t:Trace):Prop:=
 ∃BN w' ops tag' j' D' f' d' q',runT H.P (crowd gs w sl) i=(.next (crowd BN w' sl),ops)/\JInv H tag' j' D' f' d' q' BN w' (t++ops) /\
  Falls H (H.n-j') (ranks j' D') (mu H tag' j' D' f' q') (H.n-j) (ranks j D) (mu H tag j D f0 q)
theorem WZ.keep{tag tag':Eu}{j:Nat}{D D':Nat->CZ}{w w':JE}(h:WZ H tag j D w)(ht:tag'=tag\/(tag=.blk/\tag'=.w3))(hw:∀s,(∀i,i<j->¬(D i).X s)->s≠H.Wg->s≠H.C->s<w.heap.size->w'.heap[s]?=w.heap[s]?)
  (hX:∀s,s<w.heap.size->(∀i,i<j->¬(D i).X s)->∀i,i<j->¬(D' i).X s):WZ H tag' j D' w':=by
 rcases ht with rfl|⟨rfl,rfl⟩
 ·have key:∀(s:Nat)(o:Obj),w.heap[s]?=some o->(¬H.Sh0 s/\(∀i,i<j->¬(D i).X s)/\s≠H.Wg/\s≠H.C/\¬H.W s)->w'.heap[s]?=some o/\(¬H.Sh0 s/\(∀i,i<j->¬(D' i).X s)/\s≠H.Wg/\s≠H.C/\¬H.W s):=by intro s o h1 ⟨h2,h3,h4,h5,h6⟩;have hs:s<w.heap.size:=(BQ.1 h1).1;exact⟨(hw s h3 h4 h5 hs).trans h1,h2,hX s hs h3,h4,h5,h6⟩
  cases tag'<;>first|trivial|exact key _ _ h.1 h.2
 ·trivial
theorem V8.app{j:Nat}{t u:Trace}(h:V8 H j t)(hu:∀i r,i<j->RelBy (stA H.Wg) t (H.m+1+i) r->RelBy (stA H.Wg) (t++u) (H.m+1+i) r):V8 H j (t++u):=by
 obtain⟨q,h1,h2,h3,h4⟩:=h;have hq:=lt_of_act? h1;exact⟨q,by rw[act?_old hq];exact h1,by rw[g?_old hq];exact h2,(heard_old hq).2 h3,λi hi=>let⟨r,hr,hrq⟩:=h4 i hi;⟨r,hu i r hi hr,hrq⟩⟩
end
end Go.Sim
end
section
set_option linter.unusedSectionVars false
namespace Go.Sim
open Go.Conc Go.ConcN
open Go.ConcR (KK wgBlock WgAt stA smA rd wr mk Payload DC0)
section
variable[Payload]{H:Ph}{tag:Eu}{j:Nat}{D:Nat->CZ}{f0 d0:Nat}{q:Nat->Nat}{gs:Array JF}{w:JE}{sl:Option (Nat × Nat)}{t:Trace}
theorem JInv.Ju8(h:JInv H tag j D f0 d0 q gs w t):H.t0.size<=t.size:=by obtain⟨u,hu⟩:=h.jt.pre;rw[hu];simp
theorem JInv.live(h:JInv H tag j D f0 d0 q gs w t):WgLive H.ty H.Wg w:=let⟨st,sm,x,_⟩:=h.wg;⟨st,sm,x⟩
theorem Jv.retag{D:Nat->WD}{tag':Eu}{st sm:Int}(h:Jv j D tag st sm)(e:tag'=tag\/(tag=.blk/\tag'=.w3)):Jv j D tag' st sm:=by
 rcases e with rfl|⟨rfl,rfl⟩
 ·exact h
 ·cases h with
  |opn h1 _ _=>exact h1.elim
  |reg _ h2 h3=>exact .reg trivial h2 h3
  |last L _ h2 h3 h4=>exact .last L trivial h2 h3 h4
  |sema h1 h2=>rcases h1 with h1|h1<;>cases h1
  |fin h1 _=>exact h1.elim
theorem J5s(hQ:∀i own X v w w',H.Q i own X v w->Cb true X w w'->H.Q i own X v w')(Fj:∀g w,H.Anch g w->g.status=.running)(Fg:∀g w,H.Fin g w->g.status=.running)
  (h:JInv H tag j D f0 d0 q gs w t) {i:Nat} (hi:i<j) {g g':JF} {w':JE} {es:Array Event} (hg:gs[H.m+1+i]?=some g) (hgo:stepG H.P false g w=.go g' w' es) {D':CZ}
  (hz:w.heap.size<=w'.heap.size) (ho:∀i',i'<j->i'≠i->Oth H i' (D i').X w w') (hws:WS H i D' g' w') (TW:JW H j (upd D i D') w')
  (Aw:∀b,(D i).own b->D'.own b) (DL:∀b,D'.own b->(D i).own b\/w.heap.size<=b) (Y2:∀b,(D'.X b/\¬D'.own b)↔((D i).X b/\¬(D i).own b)) (hXn:∀b,D'.X b->(D i).X b\/w.heap.size<=b)
  (hok:∀e∈es,OkW (ShJ H) (LZ H j (upd D i D')) (RdJ H j (upd D i D')) (H.m+1+i) { g:=H.m+1+i,fn:=g.frame.fn,pos:=g.frame.place,act:=.ofEvent e })
  (BK:∀e∈es,(MemAct.ofEvent e).low w'.heap.size) (CO:∀e∈es,∀x,(MemAct.ofEvent e).touch?=some x->¬ShJ H x.loc->x.kind=.plain/\x.loc.isMemory=true)
  (Yr:∀e∈es,MemAct.ofEvent e≠.mark (.release (stA H.Wg))) (Rx:deafBehind (D i).d.deaf es=D'.d.deaf)
  (hrel:D'.d.stage<=6->∃r,RelBy (stA H.Wg) (t++MemOp.ofEvents (H.m+1+i) g.frame.fn g.frame.place es) (H.m+1+i) r)
  (J038:tag=.fin->∀r,RelBy (stA H.Wg) t (H.m+1+i) r->RelBy (stA H.Wg) (t++MemOp.ofEvents (H.m+1+i) g.frame.fn g.frame.place es) (H.m+1+i) r)
  (hrm:RM H.ty H.Wg w w') {st' sm':Int} (Ba:WgAt H.ty H.Wg w' st' sm')
  (Ai:∀tag',(tag'=tag\/(tag=.blk/\tag'=.w3))->(mayWake H.P g=true->g'.status=.running->tag'≠.blk)->Jv j (λk=>(upd D i D' k).d) tag' st' sm')
  (XI:∀s,(∀i',i'<j->¬(D i').X s)->s≠H.Wg->s≠H.C->s<w.heap.size->w'.heap[s]?=w.heap[s]?)
  (J039:∀tag' f',f'<=f0+1->(tag'=tag\/(tag=.blk/\tag'=.w3))->Falls H (H.n-j) (ranks j (upd D i D')) (mu H tag' j (upd D i D') f' q) (H.n-j) (ranks j D) (mu H tag j D f0 q)) :
  Ov H tag j D f0 q (H.m+1+i) gs w sl t:=by
 obtain⟨a,ha,MP⟩:=h.main;obtain⟨tag',f',Jmg,KT,Iy,bK⟩:=MP.woken Fj Fg h.live hrm g g';have Aq:(H.m+1+i == 0)=false:=by simp
 have AB:=runT_crowd_go (P:=H.P) (sl:=sl) (i:=H.m+1+i) hg (by rw[Aq];exact hgo);have Ac:H.m+1+i<gs.size:=(BQ.1 hg).1;have Ur:∀op∈MemOp.ofEvents (H.m+1+i) g.frame.fn g.frame.place es,op.g=H.m+1+i:=λop Au=>by obtain⟨e,_,rfl⟩:=Conc.mem_ofEvents Au;rfl
 refine⟨_,w',_,tag',j,upd D i D',f',d0,q,AB,⟨h.jn,by simpa using h.size,⟨_,?_,Jmg⟩,λk hk=>?_,λk b DF Ci hb=>?_,TW,?_,⟨st',sm',Ba,Ai tag' Iy bK⟩,?_,λe'=>?_⟩,J039 tag' f' KT Iy⟩
 ·rw[AQ (by omega),Array.getElem?_map,ha];rfl
 ·by_cases e:k=i
  ·subst e;exact⟨g',by rw[EX (by simpa using Ac)],by rw[upd_same];exact hws⟩
  ·obtain⟨b,hb,GY⟩:=h.ws k hk;refine⟨b,?_,by rw[upd_ne D D' e];exact GY.other H hQ (ho k hk e)⟩;rw[AQ (by omega),Array.getElem?_map,hb];simp[J7p GY.status]
 ·rw[AQ (by omega),Array.getElem?_map]at hb;obtain⟨y,hy,rfl⟩:=FX.1 hb;have hq:=h.old k y DF Ci hy;rw[woken_quitsD hq,Deaf_other t (g:=k) (g':=H.m+1+i) (by omega) _ Ur];exact hq
 ·exact h.jt.appW hi TW.apart hz h.Ju8 Aw DL Y2 hok BK CO Yr Rx hrel
 ·refine h.sb.keep Iy XI λs hs hX k hk=>?_;by_cases e:k=i
  ·subst e;rw[upd_same];intro hx;rcases hXn s hx with hx|hx
   ·exact hX k hk hx
   ·omega
  ·rw[upd_ne D D' e];exact hX k hk
 ·have Px:V8 H j t:=by
   rcases Iy with rfl|⟨_,rfl⟩
   ·exact h.acq e'
   ·cases e'
  refine Px.app λk r hk hr=>?_;by_cases e:k=i
  ·subst e;refine J038 ?_ r hr;rcases Iy with rfl|⟨_,rfl⟩
   ·exact e'
   ·cases e'
  ·exact hr.appOther Ur (by omega)
theorem RW.of_same{ty:JH}{Wg C n i:Nat}{w w':JE}(h1:w'.heap[Wg]?=w.heap[Wg]?)(h2:w'.heap[C]?=w.heap[C]?):RW ty Wg C n 0 i w w':=
 ⟨λb hb=>by omega,λ⟨st,sm,hl⟩=>⟨st,sm,hl.of_block h1⟩,λ⟨cs,hc,hn⟩=>⟨cs,h2.trans hc,hn⟩,cell_of_block h2 i⟩
theorem Jpa(hQ:∀i own X v w w',H.Q i own X v w->Cb true X w w'->H.Q i own X v w')(Fj:∀g w,H.Anch g w->g.status=.running)(Fg:∀g w,H.Fin g w->g.status=.running)
  (h:JInv H tag j D f0 d0 q gs w t) {i:Nat} (hi:i<j) {y:Sit} (hr:(D i).rank=some y) (ho:y.own=(D i).own) (hX:y.X=(D i).X) (hR:Runs true H.P false (SE H i) y) (hw:Cb true y.X y.w w) (hd:(D i).d=⟨7,0,0⟩)
  (hns:¬ ∀w1,Cb true y.X y.w w1->SE H i { y with w:=w1 }) (hg:gs[H.m+1+i]?=some y.g):Ov H tag j D f0 q (H.m+1+i) gs w sl t:=by
 have hR0:=hR;cases hR with
 |stop hs=>exact absurd hs hns
 |step f hf kR=>
  have Bf:=hf w hw;obtain⟨es,hgo,hG⟩:=Bf.step;rw[ho,hX]at hG;have hJ:=h.jw;have keep:∀b,b<w.heap.size->¬(D i).own b->(f w).w.heap[b]?=w.heap[b]?:=hG.keep;have rU:∀b,(∀k,k<j->¬(D k).X b)\/b=H.Wg\/b=H.C\/H.Sh0 b\/(∃k,k<j/\k≠i/\(D k).X b)->¬(D i).own b:=by
   intro b hb Ui;have hXb:=hJ.Kr i hi b Ui;rcases hb with hb|rfl|rfl|hb|⟨k,hk,Vk,hb⟩
   ·exact hb i hi hXb
   ·exact(hJ.avoid i hi _ hXb).1 rfl
   ·exact(hJ.avoid i hi _ hXb).2.1 rfl
   ·exact hJ.Qk i hi b Ui hb
   ·exact hJ.Pg i k hi hk (Ne.symm Vk) b Ui hb
  have eW:(f w).w.heap[H.Wg]?=w.heap[H.Wg]?:=keep _ hJ.wg (rU _ (.inr (.inl rfl)));have eC:(f w).w.heap[H.C]?=w.heap[H.C]?:=keep _ hJ.c (rU _ (.inr (.inr (.inl rfl))));have Wj:∀k,RW H.ty H.Wg H.C H.n 0 k w (f w).w:=λk=>RW.of_same eW eC;obtain⟨st,sm,Ba,Ai⟩:=h.wg;have eo:(f w).own=grown (D i).own w (f w).w:=by rw[Bf.own,ho]
  have eX:(f w).X=grown (D i).X w (f w).w:=by rw[Bf.X,hX]
  let D':CZ:={ own:=(f w).own,X:=(f w).X,v:=(D i).v,rank:=some (f w),d:=⟨7,0,0⟩ }
  have J03a:(λk=>(upd D i D' k).d)=λk=>(D k).d:=by
   rw[Ze];funext k;by_cases e:k=i
   ·subst e;rw[upd_same];exact hd.symm
   ·rw[upd_ne _ _ e]
  have own':∀b,D'.own b↔(D i).own b\/(w.heap.size<=b/\b<(f w).w.heap.size):=λb=>by show(f w).own b↔_;rw[eo];exact Iff.rfl
  have X':∀b,D'.X b↔(D i).X b\/(w.heap.size<=b/\b<(f w).w.heap.size):=λb=>by show(f w).X b↔_;rw[eX];exact Iff.rfl
  have TW:JW H j (upd D i D') (f w).w:=by
   have other:∀k,k≠i->upd D i D' k=D k:=λk hk=>upd_ne D D' hk;refine⟨λb hb=>(keep b (hb.elim (λh=>(hJ.sh0 b h).1) (hJ.wl b)) (hb.elim (λh=>rU b (.inr (.inr (.inr (.inl h))))) λh ho=>(hJ.avoid i hi b (hJ.Kr i hi b ho)).2.2 h)).trans (hJ.keep b hb),(Wj 0).pay hJ.pay,λk hk hs=>?_,λk hk b hb=>?_,λk hk b hb=>?_,λa b ha hb O5 c hc=>?_,λk hk b hb=>?_,λk hk b hb=>?_,
    Es hJ.wg hG.size,Es hJ.c hG.size,hJ.cw,hJ.cW,hJ.wW,λb hb=>?_,λb hb=>Es (hJ.wl b hb) hG.size,hG.os.trans hJ.os,hG.out.trans hJ.out⟩
   ·by_cases e:k=i
    ·subst e;rw[upd_same]at hs;exact absurd hs (by show¬(7<=6);omega)
    ·rw[other k e]at hs ⊢;exact(cell_of_block eC k).trans (hJ.has k hk hs)
   ·by_cases e:k=i
    ·subst e;rw[upd_same]at hb;rcases(X' b).1 hb with hb|hb
     ·exact Es (hJ.low k hk b hb) hG.size
     ·exact hb.2
    ·rw[other k e]at hb;exact Es (hJ.low k hk b hb) hG.size
   ·by_cases e:k=i
    ·subst e;rw[upd_same]at hb ⊢;rcases(own' b).1 hb with hb|hb
     ·exact(X' b).2 (.inl (hJ.Kr k hk b hb))
     ·exact(X' b).2 (.inr hb)
    ·rw[other k e]at hb ⊢;exact hJ.Kr k hk b hb
   ·by_cases e:a=i
    ·subst e;rw[upd_same]at hc;rw[other b (Ne.symm O5)];rcases(own' c).1 hc with hc|hc
     ·exact hJ.Pg a b ha hb O5 c hc
     ·intro hx;have:=hJ.low b hb c hx;omega
    ·rw[other a e]at hc;by_cases e2:b=i
     ·subst e2;rw[upd_same];intro hx;rcases(X' c).1 hx with hx|hx
      ·exact hJ.Pg a b ha hb O5 c hc hx
      ·have:=hJ.low a ha c (hJ.Kr a ha c hc);omega
     ·rw[other b e2];exact hJ.Pg a b ha hb O5 c hc
   ·by_cases e:k=i
    ·subst e;rw[upd_same]at hb;rcases(own' b).1 hb with hb|hb
     ·exact hJ.Qk k hk b hb
     ·intro hs;have:=(hJ.sh0 b hs).1;omega
    ·rw[other k e]at hb;exact hJ.Qk k hk b hb
   ·by_cases e:k=i
    ·subst e;rw[upd_same]at hb;rcases(X' b).1 hb with hb|hb
     ·exact hJ.avoid k hk b hb
     ·have h1:=hJ.wg;have h2:=hJ.c;exact⟨by omega,by omega,λhw=>by have:=hJ.wl b hw;omega⟩
    ·rw[other k e]at hb;exact hJ.avoid k hk b hb
   ·have:=hJ.sh0 b hb;exact⟨Es this.1 hG.size,this.2⟩
  have FD:∀e∈es,EvG ((upd D i D') i).own ((upd D i D') i).X e:=λe he=>by have:=hG.evs e he;rw[upd_same];show EvG (f w).own (f w).X e;rw[eo,eX];exact this
  have J03b:∀b,((upd D i D') i).X b->b<(f w).w.heap.size:=λb hb=>TW.low i hi b hb;refine J5s (D':=D') hQ Fj Fg h hi hg hgo hG.size (λk hk Vk=>⟨⟨λb hb=>keep b (hJ.low k hk b hb) (rU b (.inr (.inr (.inr (.inr ⟨k,hk,Vk,hb⟩))))),hG.size,λe=>by(cases e),hG.os⟩,Wj k⟩)
   (.work (f w) rfl rfl rfl rfl (kR w hw) ⟨λ_ _=>rfl,Ad _,λ_=>rfl,rfl⟩ rfl Bf.run Bf.offers) TW
   (λb hb=>(own' b).2 (.inl hb)) (λb hb=>((own' b).1 hb).imp id (·.1)) (λb=>?_) (λb hb=>((X' b).1 hb).imp id (·.1))
   (λe he=>Jvm hi (FD e he) _ _) (λe he=>Jvn (FD e he) J03b) (λe he x hx _=>Jp8 (FD e he) hx) (λe he hx=>?_) ?_ (λhs=>absurd hs (by show¬(7<=6);omega)) (λef r hr=>?_) (Wj 0).live
   (st':=st) (sm':=sm) (Ba.of_block eW) (λtag' ht _=>?_) (λs h1 _ _ h4=>keep s h4 (rU s (.inl h1))) (λtag' f' _ _=>.inr (.inl ⟨rfl,Jd9 hi (by rw[hr];exact .step ⟨⟨w,hw,Bf⟩,hns⟩)⟩))
  ·constructor
   ·rintro⟨h1,h2⟩;rcases(X' b).1 h1 with h1|h1
    ·exact⟨h1,λh3=>h2 ((own' b).2 (.inl h3))⟩
    ·exact absurd ((own' b).2 (.inr h1)) h2
   ·rintro⟨h1,h2⟩;refine⟨(X' b).2 (.inl h1),λh3=>?_⟩;rcases(own' b).1 h3 with h3|h3
    ·exact h2 h3
    ·have:=hJ.low i hi b h1;omega
  ·have:=(J9w (FD e he)).2.2 (stA H.Wg);obtain⟨loc,wr,sy⟩:=e;cases loc with
   |mark m=>simp only[MemAct.ofEvent,MemAct.mark.injEq]at hx;subst hx;exact this rfl
   |obj r=>cases wr<;>cases sy<;>simp[MemAct.ofEvent]at hx
   |_=>simp[MemAct.ofEvent]at hx
  ·rw[hd];exact deafBehind_still (λe he=>⟨(J9w (FD e he)).1,(J9w (FD e he)).2.1⟩) _
  ·exfalso;subst ef;cases Ai with
   |opn h1=>exact h1
   |reg h1=>exact h1
   |last L h1=>exact h1
   |sema h1=>rcases h1 with h1|h1<;>cases h1
   |fin h1 h2=>have:=h2 i hi;simp only[hd]at this;omega
  ·rw[J03a];exact Ai.retag ht
end
end Go.Sim
end
section
set_option linter.unusedSectionVars false
namespace Go.Sim
open Go.Conc Go.ConcN
open Go.ConcR (KK wgBlock WgAt stA smA rd wr mk Payload DC0 Bk bk_of_mute ofEvent_loc_mark ofEvent_cell deafBehind_cons deafBehind_one)
section
variable{j:Nat}{D D':Nat->WD}{tag:Eu}{st sm:Int}
theorem Jv.congr(h:∀a,a<j->(D' a).stage=(D a).stage)(hm:Jv j D tag st sm):Jv j D' tag st sm:=by
 have hv:Vc j D'=Vc j D:=sumTo_congr λa ha=>by simp only[cnt,h a ha]
 cases hm with
 |opn h1 h2 h3=>rw[<- hv];exact .opn h1 (λa ha=>by rw[h a ha];exact h2 a ha) (λvs e=>by rw[hv];exact h3 vs e)
 |reg h1 h2 h3=>rw[<- hv];exact .reg h1 (λa ha=>by rw[h a ha];exact h2 a ha) (by rw[hv];exact h3)
 |last L h1 h2 h3 h4=>rw[<- h L h2];exact .last L h1 h2 (by rw[h L h2];exact h3) (λa ha e=>by rw[h a ha];exact h4 a ha e)
 |sema h1 h2=>exact .sema h1 λa ha=>by rw[h a ha];exact h2 a ha
 |fin h1 h2=>exact .fin h1 λa ha=>by rw[h a ha];exact h2 a ha
theorem Jv.same{i:Nat}(hm:Jv j D tag st sm)(m' Ye:Nat):Jv j (upd D i ⟨(D i).stage,m',Ye⟩) tag st sm:=
 hm.congr λa _=>by
  by_cases e:a=i
  ·subst e;rw[upd_same]
  ·rw[upd_ne D _ e]
theorem Jv.counted{i:Nat}(hm:Jv j D tag st sm)(hi:i<j)(h5:5<=(D i).stage){s':Nat}(hs:s'=6\/s'=5)(m' Ye:Nat):Jv j (upd D i ⟨s',m',Ye⟩) tag st sm:=by
 have hv:Vc j (upd D i ⟨s',m',Ye⟩)=Vc j D:=by
  have:=Vc_upd D (⟨s',m',Ye⟩:WD) hi;have c1:cnt (D i)=1:=by simp[cnt,h5]
  have c2:cnt (⟨s',m',Ye⟩:WD)=1:=by rcases hs with rfl|rfl<;>simp[cnt]
  omega
 have ho:OpenSt j D->OpenSt j (upd D i ⟨s',m',Ye⟩):=λh a ha=>by
  by_cases e:a=i
  ·subst e;rw[upd_same];rcases hs with rfl|rfl<;>simp
  ·rw[upd_ne D _ e];exact h a ha
 cases hm with
 |opn h1 h2 h3=>rw[<- hv];exact .opn h1 (ho h2) (λvs e=>by rw[hv];exact h3 vs e)
 |reg h1 h2 h3=>rw[<- hv];exact .reg h1 (ho h2) (by rw[hv];exact h3)
 |last L h1 h2 h3 h4=>
  by_cases e:i=L
  ·subst e;omega
  ·have:=h4 i hi e;omega
 |sema _ h2=>have:=h2 i hi;omega
 |fin h1 h2=>have:=h2 i hi;omega
theorem Jv.Jl8{i:Nat}(hm:Jv j D tag st sm)(hi:i<j)(h:(D i).stage≠1):tag≠.fin:=by
 rintro rfl;cases hm with
 |opn h1 _ _=>exact h1
 |reg h1 _ _=>exact h1
 |last L h1 _ _ _=>exact h1
 |sema h1 _=>rcases h1 with h1|h1<;>cases h1
 |fin _ h2=>exact h (h2 i hi)
theorem Jv.isLast{i:Nat}(hm:Jv j D tag st sm)(hi:i<j)(h:(D i).stage=4\/(D i).stage=3\/(D i).stage=2) :
  jw3 tag/\(∀a,a<j->a≠i->(D a).stage=1)/\st=(if(D i).stage=2 then 0 else 1)/\sm=0:=by
 cases hm with
 |opn _ h2 _=>have:=h2 i hi;omega
 |reg _ h2 _=>have:=h2 i hi;omega
 |last L h1 h2 h3 h4=>
  by_cases e:i=L
  ·subst e;exact⟨h1,h4,rfl,rfl⟩
  ·have:=h4 i hi e;omega
 |sema _ h2=>have:=h2 i hi;omega
 |fin _ h2=>have:=h2 i hi;omega
theorem Jpb(n:Nat){v v':Nat}(h:v'<=v)(tag:Eu):Ej n v' tag<=Ej n v tag:=by cases tag<;>simp only[Ej]<;>omega
theorem Jda(n v:Nat){tag tag':Eu}(e:tag'=tag\/(tag=.blk/\tag'=.w3)):Ej n v tag'=Ej n v tag:=by
 rcases e with rfl|⟨rfl,rfl⟩<;>rfl
end
section
variable[Payload]{H:Ph}{tag:Eu}{j:Nat}{D:Nat->CZ}{f0 d0:Nat}{q:Nat->Nat}{gs:Array JF}{w:JE}{sl:Option (Nat × Nat)}{t:Trace}
theorem Ec.bound{f d:Nat}{a:JF}(h:Ec H tag j f d a w):j+Io tag<=H.n:=by
 cases h<;>simp only[Io]<;>(try simp)<;>omega
theorem J8v{i:Nat}(hi:i<j){d':WD}(hr:(D i).rank=none\/True)(h:(d'.stage<(D i).d.stage/\cnt d'<=cnt (D i).d)\/(d'.stage=(D i).d.stage/\d'.fuel+1=(D i).d.fuel)){tag':Eu}{f':Nat}(hf:f'<=f0+1)
  (ht:tag'=tag\/(tag=.blk/\tag'=.w3)):Falls H (H.n-j) (ranks j (upd D i { D i with d:=d' })) (mu H tag' j (upd D i { D i with d:=d' }) f' q) (H.n-j) (ranks j D) (mu H tag j D f0 q):=by
 refine .inr (.inr ⟨rfl,Jmf hi rfl,?_⟩);unfold mu;rw[Ze,Jda _ _ ht];have e1:=sumTo_upd (λk=>(D k).d) d' cnt hi;have e2:=sumTo_upd (λk=>(D k).d) d' WD.stage hi;have e3:=sumTo_upd (λk=>(D k).d) d' WD.fuel hi;simp only[Vc,Ssum,Fsum]at *;rcases h with⟨h1,h2⟩|⟨h1,h2⟩
 ·refine Prod.Lex.left _ _ ?_;have:=Jpb H.n (v':=sumTo j λa=>cnt (upd (λk=>(D k).d) i d' a)) (v:=sumTo j λa=>cnt (D a).d) (by omega) tag;omega
 ·have ec:cnt d'=cnt (D i).d:=by simp only[cnt,h1]
  have ev:(sumTo j λa=>cnt (upd (λk=>(D k).d) i d' a))=sumTo j λa=>cnt (D a).d:=by omega
  have AZ:(sumTo j λa=>(upd (λk=>(D k).d) i d' a).stage)=sumTo j λa=>(D a).d.stage:=by omega
  rw[ev,AZ];refine Prod.Lex.right _ ?_;omega
theorem JW.turn(h:JW H j D w){i:Nat}(hi:i<j){d':WD}{w':JE}(hz:w'.heap.size=w.heap.size)(hb:∀b,b≠H.Wg->b≠H.C->w'.heap[b]?=w.heap[b]?)(hpay:PayAt H.C H.n w')
  (Am:∀k,k≠i->w'.cell? ⟨H.C,k,none⟩=w.cell? ⟨H.C,k,none⟩) (Ro:d'.stage<=6->Has H.C i (D i).v w') (os:w'.os=w.os) (out:w'.output=w.output):JW H j (upd D i { D i with d:=d' }) w':=by
 have sm:∀k,(upd D i { D i with d:=d' } k).own=(D k).own/\(upd D i { D i with d:=d' } k).X=(D k).X/\(upd D i { D i with d:=d' } k).v=(D k).v:=λk=>by
  by_cases e:k=i
  ·subst e;rw[upd_same];exact⟨rfl,rfl,rfl⟩
  ·rw[upd_ne D _ e];exact⟨rfl,rfl,rfl⟩
 refine⟨λb BR=>(hb b (BR.elim (λz=>(h.sh0 b z).2.1) λz e=>h.wW (e▸z)) (BR.elim (λz=>(h.sh0 b z).2.2.1) λz e=>h.cW (e▸z))).trans (h.keep b BR),hpay,λk hk hs=>?_,λk hk b BR=>?_,λk hk b BR=>?_,λa b ha BR O5 c hc=>?_,λk hk b BR=>?_,λk hk b BR=>?_,
  by rw[hz];exact h.wg,by rw[hz];exact h.c,h.cw,h.cW,h.wW,λb BR=>?_,λb BR=>by rw[hz];exact h.wl b BR,os.trans h.os,out.trans h.out⟩
 ·rw[(sm k).2.2];by_cases e:k=i
  ·subst e;rw[upd_same]at hs;exact Ro hs
  ·rw[upd_ne D _ e]at hs;exact(Am k e).trans (h.has k hk hs)
 ·rw[(sm k).2.1]at BR;rw[hz];exact h.low k hk b BR
 ·rw[(sm k).1]at BR;rw[(sm k).2.1];exact h.Kr k hk b BR
 ·rw[(sm a).1]at hc;rw[(sm b).2.1];exact h.Pg a b ha BR O5 c hc
 ·rw[(sm k).1]at BR;exact h.Qk k hk b BR
 ·rw[(sm k).2.1]at BR;exact h.avoid k hk b BR
 ·rw[hz];exact h.sh0 b BR
theorem Jx4{Own Rd:Nat->Loc->Prop}{k:Nat}{e:Event}(h:Bk H.Wg e)(fn:JG)(pos:String):OkW (ShJ H) Own Rd k { g:=k,fn,pos,act:=.ofEvent e }:=by
 refine⟨rfl,λx hx=>?_⟩;rcases h with h1|h1|⟨a,wr,rfl,ha⟩
 ·simp only[ofEvent_loc_mark h1]at hx;cases hx
 ·simp only[ofEvent_loc_mark h1]at hx;cases hx
 ·simp only[ofEvent_cell,MemAct.touch?,Cm]at hx;subst hx;exact .inl ⟨⟨a,rfl,.inr ha⟩,by simp,by simp⟩
theorem Jpc{B:Nat}(hB:H.Wg<B){e:Event}(h:Bk H.Wg e):(MemAct.ofEvent e).low B:=by
 rcases h with h1|h1|⟨a,wr,rfl,ha⟩
 ·rw[ofEvent_loc_mark h1];trivial
 ·rw[ofEvent_loc_mark h1];trivial
 ·rw[ofEvent_cell];show a.block<B;omega
theorem Ju9{e:Event}(h:Bk H.Wg e){x:Touch}(hx:(MemAct.ofEvent e).touch?=some x):ShJ H x.loc:=by
 rcases h with h1|h1|⟨a,wr,rfl,ha⟩
 ·simp only[ofEvent_loc_mark h1]at hx;cases hx
 ·simp only[ofEvent_loc_mark h1]at hx;cases hx
 ·simp only[ofEvent_cell,MemAct.touch?,Cm]at hx;subst hx;exact⟨a,rfl,.inr ha⟩
theorem Jiv{e:Event}(h:Bk H.Wg e):MemAct.ofEvent e≠.mark (.release (stA H.Wg)):=by
 rcases h with h1|h1|⟨a,wr,rfl,ha⟩
 ·rw[ofEvent_loc_mark h1];simp
 ·rw[ofEvent_loc_mark h1];simp
 ·rw[ofEvent_cell];simp
section
variable(hQ:∀i own X v w w',H.Q i own X v w->Cb true X w w'->H.Q i own X v w')(Fj:∀g w,H.Anch g w->g.status=.running)(Fg:∀g w,H.Fin g w->g.status=.running)
include hQ Fj Fg
theorem J03c(h:JInv H tag j D f0 d0 q gs w t){i:Nat}(hi:i<j){g g':JF}{w':JE}{es:Array Event}{d':WD}{st' sm':Int}(hg:gs[H.m+1+i]?=some g)(hgo:stepG H.P false g w=.go g' w' es)
  (gK:(D i).rank=none) (Wv:H.Q i (D i).own (D i).X (D i).v w) (Fq:Aside H.Wg w w') (Ba:WgAt H.ty H.Wg w' st' sm') (L9:∀e∈es,Bk H.Wg e)
  (hd:∀jx e,es[jx]?=some e->(MemAct.ofEvent e).touch?=none\/0<deafBehind (D i).d.deaf (es.extract 0 jx)) (h6:(D i).d.stage<=6) (XL:d'.stage<=6)
  (D6:WSit H.P H.ty H.Wg H.C H.n QV QV 0 (i+1) (D i).v d'.stage d'.fuel d'.deaf g' w') (Ws:deafBehind (D i).d.deaf es=d'.deaf)
  (Ai:∀tag',(tag'=tag\/(tag=.blk/\tag'=.w3))->(mayWake H.P g=true->g'.status=.running->tag'≠.blk)->Jv j (upd (λk=>(D k).d) i d') tag' st' sm')
  (Ac:(d'.stage<(D i).d.stage/\cnt d'<=cnt (D i).d)\/(d'.stage=(D i).d.stage/\d'.fuel+1=(D i).d.fuel)):Ov H tag j D f0 q (H.m+1+i) gs w sl t:=by
 have hJ:=h.jw;have hdk:Deaf t (H.m+1+i)=(D i).d.deaf:=h.jt.deafW i hi;have eC:w'.heap[H.C]?=w.heap[H.C]?:=Fq.block H.C hJ.cw;have hX:∀k,k<j->∀b,(D k).X b->w'.heap[b]?=w.heap[b]?:=λk hk b hb=>Fq.block b (hJ.avoid k hk b hb).1;have rel:∀k,k<j->Cb true (D k).X w w':=λk hk=>⟨λb hb=>hX k hk b hb,Nat.le_of_eq Fq.size.symm,λe=>by(cases e),Fq.os⟩;have Wj:∀k,RW H.ty H.Wg H.C H.n 0 k w w':=λk=>RW.of_wg Fq ⟨_,_,Ba⟩ hJ.cw;have kV:RM H.ty H.Wg w w':=λ_=>⟨_,_,Ba⟩;have Jx5:∀r,RelBy (stA H.Wg) t (H.m+1+i) r->RelBy (stA H.Wg) (t++MemOp.ofEvents (H.m+1+i) g.frame.fn g.frame.place es) (H.m+1+i) r:=λr hr=>hr.book hdk _ _ L9 hd;refine J5s (D':={ D i with d:=d' }) hQ Fj Fg h hi hg hgo (Nat.le_of_eq Fq.size.symm) (λk hk _=>⟨rel k hk,Wj k⟩) (.tail gK XL D6 (hQ _ _ _ _ _ _ Wv (rel i hi)))
  (hJ.turn hi Fq.size (λb h1 _=>Fq.block b h1) ((Wj 0).pay hJ.pay) (λk _=>cell_of_block eC k) (λ_=>(cell_of_block eC i).trans (hJ.has i hi h6)) Fq.os Fq.output)
  (λb hb=>hb) (λb hb=>.inl hb) (λb=>Iff.rfl) (λb hb=>.inl hb) (λe he=>Jx4 (L9 e he) _ _) (λe he=>Jpc (by rw[Fq.size];exact hJ.wg) (L9 e he)) (λe he x hx hn=>absurd (Ju9 (L9 e he) hx) hn)
  (λe he=>Jiv (L9 e he)) Ws (λ_=>let⟨r,hr⟩:=h.jt.rel i hi h6;⟨r,Jx5 r hr⟩) (λ_ r hr=>Jx5 r hr) kV Ba (λtag' h1 h2=>by rw[Ze];exact Ai tag' h1 h2)
  (λs _ h2 _ _=>Fq.block s h2) (λtag' f' hf ht=>J8v hi (.inr trivial) Ac hf ht)
end
end
end Go.Sim
end
section
set_option linter.unusedSectionVars false
namespace Go.Sim
open Go.Conc Go.ConcN
open Go.ConcR (KK wgBlock WgAt stA smA rd wr mk Payload DC0 Bk bk_of_mute ofEvent_loc_mark ofEvent_cell deafBehind_cons deafBehind_one)
theorem Jl9{Wg:Nat}:∀e∈semEvents (smA Wg),Bk Wg e:=by
 intro e he;simp[semEvents]at he;rcases he with rfl|rfl|rfl|rfl
 ·exact .inl rfl
 ·exact bk_cell _ _ rfl
 ·exact bk_cell _ _ rfl
 ·exact .inr (.inl rfl)
section
variable[Payload]{H:Ph}{tag:Eu}{j:Nat}{D:Nat->CZ}{f0 d0:Nat}{q:Nat->Nat}{gs:Array JF}{w:JE}{sl:Option (Nat × Nat)}{t:Trace}
section
variable(hQ:∀i own X v w w',H.Q i own X v w->Cb true X w w'->H.Q i own X v w')(Fj:∀g w,H.Anch g w->g.status=.running)(Fg:∀g w,H.Fin g w->g.status=.running)
include hQ Fj Fg
theorem Jvo(h:JInv H tag j D f0 d0 q gs w t){i:Nat}(hi:i<j){g:JF}{f:Nat}(hg:gs[H.m+1+i]?=some g)(gK:(D i).rank=none)(hd:(D i).d=⟨7,f,0⟩)
  (hs:Goes H.P false (RW H.ty H.Wg H.C H.n 0 (i+1-1)) (DT H (i+1)) (AtR0 H.P H.ty H.Wg H.C H.n 0 (i+1) (D i).v) f g w) (Wv:H.Q i (D i).own (D i).X (D i).v w):Ov H tag j D f0 q (H.m+1+i) gs w sl t:=by
 have hJ:=h.jw;have hdk:Deaf t (H.m+1+i)=0:=by rw[h.jt.deafW i hi,hd]
 obtain⟨st,sm,Ba,Ai⟩:=h.wg;have Jdb:Jv j (λk=>(D k).d) tag st sm:=Ai;rcases Goes.cases hs with Ak|⟨f',rfl,Ah⟩
 ·
  obtain⟨_,Ro,g',hgo,m₂,hk⟩:=Ak w (RW.refl w);have Wj:∀k,RW H.ty H.Wg H.C H.n 0 k w w:=λk=>RW.refl w;have tc:∀e∈#[mk (.releaseMerge (stA H.Wg))],e=mk (.releaseMerge (stA H.Wg)):=by simp
  refine J5s (D':={ D i with d:=⟨6,m₂,0⟩ }) hQ Fj Fg h hi hg hgo (Ad _) (λk hk _=>⟨⟨λ_ _=>rfl,Ad _,λ_=>rfl,rfl⟩,Wj k⟩) (.tail gK (by show 6<=6;omega) (.k1 hk) Wv)
   (hJ.turn hi rfl (λ_ _ _=>rfl) hJ.pay (λ_ _=>rfl) (λ_=>by simpa using Ro) rfl rfl) (λb hb=>hb) (λb hb=>.inl hb) (λb=>Iff.rfl) (λb hb=>.inl hb)
   (λe he=>?_) (λe he=>?_) (λe he x hx=>?_) (λe he=>?_) (by rw[hd];rfl) (λ_=>⟨t.size,RelBy.new hdk _ _⟩) (λef=>absurd ef (Jdb.Jl8 hi (by show(D i).d.stage≠1;rw[hd];simp))) id Ba
   (λtag' ht _=>by rw[Ze];exact(Jdb.counted hi (by show 5<=(D i).d.stage;rw[hd];simp) (.inl rfl) _ _).retag ht) (λ_ _ _ _ _=>rfl) (λtag' f' hf ht=>J8v hi (.inr trivial) (.inl ⟨by rw[hd];simp,by rw[hd];simp[cnt]⟩) hf ht)
  ·rw[tc e he];exact⟨rfl,λx hx=>by simp[mk,MemAct.ofEvent,MemAct.touch?]at hx⟩
  ·rw[tc e he];exact hJ.wg
  ·rw[tc e he]at hx;simp[mk,MemAct.ofEvent,MemAct.touch?]at hx
  ·rw[tc e he];simp[mk,MemAct.ofEvent]
 ·
  obtain⟨g',w',es,hgo,⟨MI,FD⟩,Bg⟩:=Ah w (RW.refl w);simp only[Nat.add_sub_cancel]at MI;have eW:w'.heap[H.Wg]?=w.heap[H.Wg]?:=MI.block H.Wg (Ne.symm hJ.cw);have rel:∀k,k<j->Cb true (D k).X w w':=λk hk=>⟨λb hb=>MI.block b (hJ.avoid k hk b hb).2.1,Nat.le_of_eq MI.size.symm,λe=>by(cases e),MI.os⟩;have mD:∀e∈es,e=⟨.cell ⟨H.C,i,none⟩,true,false⟩:=FD;have still:∀e∈es,e.loc≠.mark .disable/\e.loc≠.mark .enable:=λe he=>by rw[mD e he];simp
  refine J5s (D':={ D i with d:=⟨7,f',0⟩ }) hQ Fj Fg h hi hg hgo (Nat.le_of_eq MI.size.symm) (λk hk Vk=>⟨rel k hk,RW.of_cell MI Vk hJ.cw⟩) (.r0 gK f' rfl Bg (hQ _ _ _ _ _ _ Wv (rel i hi)))
   (hJ.turn hi MI.size (λb _ h1=>MI.block b h1) (MI.pay hJ.pay) (λk hk=>MI.cells k hk) (λh6=>absurd h6 (by show¬(7<=6);omega)) MI.os MI.output) (λb hb=>hb) (λb hb=>.inl hb) (λb=>Iff.rfl) (λb hb=>.inl hb)
   (λe he=>?_) (λe he=>?_) (λe he x hx hn=>?_) (λe he=>?_) (by rw[hd];exact ConcN.deafBehind_idle still 0) (λh6=>absurd h6 (by show¬(7<=6);omega)) (λef=>absurd ef (Jdb.Jl8 hi (by show(D i).d.stage≠1;rw[hd];simp)))
   (λhl=>let⟨st,sm,x⟩:=hl;⟨st,sm,x.of_block eW⟩) (Ba.of_block eW) (λtag' ht _=>by rw[Ze];refine Jv.retag ?_ ht;have:=Jdb.same (i:=i) f' 0;simp only[hd]at this;exact this) (λs _ _ h3 _=>MI.block s h3) (λtag' f'' hf ht=>J8v hi (.inr trivial) (.inr ⟨by rw[hd],by rw[hd]⟩) hf ht)
  ·rw[mD e he];refine⟨rfl,λx hx=>?_⟩;simp only[ofEvent_cell,MemAct.touch?,Cm]at hx;subst hx;exact .inr (.inl ⟨i,hi,rfl,.inr rfl⟩)
  ·rw[mD e he];show H.C<w'.heap.size;rw[MI.size];exact hJ.c
  ·rw[mD e he]at hx;simp only[ofEvent_cell,MemAct.touch?,Cm]at hx;subst hx;exact⟨rfl,rfl⟩
  ·rw[mD e he];simp[MemAct.ofEvent]
theorem Jpd(hn:H.n<2147483648)(h:JInv H tag j D f0 d0 q gs w t){i:Nat}(hi:i<j){g:JF}(hg:gs[H.m+1+i]?=some g)(AB:g.status=.running)(gK:(D i).rank=none)(h6:(D i).d.stage<=6)
  (hs:WSit H.P H.ty H.Wg H.C H.n QV QV 0 (i+1) (D i).v (D i).d.stage (D i).d.fuel (D i).d.deaf g w) (Wv:H.Q i (D i).own (D i).X (D i).v w):Ov H tag j D f0 q (H.m+1+i) gs w sl t:=by
 obtain⟨st,sm,Ba,Ai⟩:=h.wg;obtain⟨a0,ha0,J03d⟩:=h.main;have hb:=J03d.bound;have hVj:=Vc_le j (λk=>(D k).d);generalize hE:(λk=>(D k).d)=E at Ai hVj;have hEi:E i=(D i).d:=by rw[<- hE]
 have RX:∀{g':JF}{w':JE}{es:Array Event}{d':WD}{st' sm':Int},stepG H.P false g w=.go g' w' es->Aside H.Wg w w'->WgAt H.ty H.Wg w' st' sm'->(∀e∈es,Bk H.Wg e) ->
   (∀jx e,es[jx]?=some e->(MemAct.ofEvent e).touch?=none\/0<deafBehind (D i).d.deaf (es.extract 0 jx))->WSit H.P H.ty H.Wg H.C H.n QV QV 0 (i+1) (D i).v d'.stage d'.fuel d'.deaf g' w'->deafBehind (D i).d.deaf es=d'.deaf->d'.stage<=6 ->
   (∀tag',(tag'=tag\/(tag=.blk/\tag'=.w3))->(mayWake H.P g=true->g'.status=.running->tag'≠.blk)->Jv j (upd E i d') tag' st' sm')->((d'.stage<(D i).d.stage/\cnt d'<=cnt (D i).d)\/(d'.stage=(D i).d.stage/\d'.fuel+1=(D i).d.fuel)) ->
   Ov H tag j D f0 q (H.m+1+i) gs w sl t:=λhgo Fq Rh L9 hd D6 Ws XL Ot Ac=>
  J03c hQ Fj Fg h hi hg hgo gK Wv Fq Rh L9 hd h6 XL D6 Ws (by rw[hE];exact Ot) Ac
 have book:∀{g':JF}{w':JE}{es:Array Event}{d':WD}{st' sm':Int},stepG H.P false g w=.go g' w' es->Aside H.Wg w w'->WgAt H.ty H.Wg w' st' sm'->(∀e∈es,Bk H.Wg e) ->
   (∀jx e,es[jx]?=some e->(MemAct.ofEvent e).touch?=none\/0<deafBehind (D i).d.deaf (es.extract 0 jx))->WSit H.P H.ty H.Wg H.C H.n QV QV 0 (i+1) (D i).v d'.stage d'.fuel d'.deaf g' w'->deafBehind (D i).d.deaf es=d'.deaf->d'.stage<=6 ->
   Jv j (upd E i d') tag st' sm'->((d'.stage<(D i).d.stage/\cnt d'<=cnt (D i).d)\/(d'.stage=(D i).d.stage/\d'.fuel+1=(D i).d.fuel)) ->
   Ov H tag j D f0 q (H.m+1+i) gs w sl t:=λhgo Fq Rh L9 hd D6 Ws XL Ot Ac=>
  RX hgo Fq Rh L9 hd D6 Ws XL (λ_ ht _=>Ot.retag ht) Ac
 generalize Af:(D i).d.stage=s at hs;generalize hfu:(D i).d.fuel=m at hs;generalize hde:(D i).d.deaf=dd at hs RX book;have Vj:(E i).stage=s:=by rw[hEi,Af]
 have idle:∀{g':JF}{m':Nat},stepG H.P false g w=.go g' w #[]->WSit H.P H.ty H.Wg H.C H.n QV QV 0 (i+1) (D i).v s m' dd g' w->m'+1=m->Ov H tag j D f0 q (H.m+1+i) gs w sl t:=by
  intro g' m' hgo D6 hm;refine book (d':=⟨s,m',dd⟩) hgo (.refl H.Wg w) Ba (by simp) (by simp) D6 rfl (by show s<=6;omega) ?_ (.inr ⟨Af.symm,by show m'+1=_;omega⟩);have:=Ai.same (i:=i) m' dd
  rwa [Vj]at this
 cases hs with
 |r0 h=>omega
 |k1 h=>
  rcases Goes.cases h with Ak|⟨m',rfl,Ah⟩
  ·obtain⟨_,g',hgo,m₂,hk⟩:=Ak w (RW.refl w);exact book (d':=⟨5,m₂,1⟩) hgo (.refl H.Wg w) Ba (by intro e he;simp at he;subst he;exact .inl rfl) (by intro jx e he;exact .inl (by have:=IX he;simp at this;subst this;rfl)) (.d1 hk) rfl (by show 5<=6;omega)
    (Ai.counted hi (by omega) (.inr rfl) _ _) (.inl ⟨by show 5<_;omega,by simp[cnt,Af]⟩)
  ·obtain⟨g',w',es,hgo,⟨rfl,rfl⟩,Bg⟩:=Ah w (RW.refl w);exact idle hgo (.k1 Bg) rfl
 |d1 h=>
  rcases Goes.cases h with Ak|⟨m',rfl,Ah⟩
  ·obtain⟨_,AA⟩:=Ak w (RW.refl w);have DU:cnt (E i)=1:=by simp[cnt,Vj]
   have hV1:1<=Vc j E:=by have:=le_sumTo (f:=λx=>cnt (E x)) hi;simp only[Vc];omega
   have bk2:∀e∈#[rd (stA H.Wg),wr (stA H.Wg)],Bk H.Wg e:=by intro e he;simp at he;rcases he with rfl|rfl<;>exact bk_cell _ _ rfl
   have df2:∀jx e,(#[rd (stA H.Wg),wr (stA H.Wg)]:Array Event)[jx]?=some e->(MemAct.ofEvent e).touch?=none\/0<deafBehind 1 ((#[rd (stA H.Wg),wr (stA H.Wg)]:Array Event).extract 0 jx):=by
    intro jx e he
    match jx,he with
    |0,_=>exact .inr (by simp[deafBehind])
    |1,_=>exact .inr (by simp[deafBehind,rd])
    |jx+2,he=>simp at he
   have xB:∀q,cnt (⟨1,q,1⟩:WD)=0:=λ_=>rfl;have opq:∀q,OpenSt j E->OpenSt j (upd E i ⟨1,q,1⟩):=λq h a ha=>by
    by_cases e:a=i
    ·subst e;rw[upd_same];simp
    ·rw[upd_ne E _ e];exact h a ha
   cases Ai with
   |opn h1 h2 h3=>
    obtain⟨v,hv⟩:∃v,Vc j E+Io tag=v+1:=⟨Vc j E+Io tag-1,by omega⟩;rw[hv]at Ba;have Cc:WgAt H.ty H.Wg w (((v:Nat)+1)*KK+((0:Nat):Int)) 0:=by simpa using Ba
    obtain⟨g',hgo,_,hq⟩:=AA v 0 (by omega) (by omega) Cc;obtain⟨q,hq⟩:=hq (by omega);have MH:Vc j (upd E i ⟨1,q,1⟩)+Io tag=v:=by have:=Vc_upd E (⟨1,q,1⟩:WD) hi;have:=xB q;omega
    refine book (d':=⟨1,q,1⟩) hgo (aside_setCell w (stA H.Wg) _) (Ba.setSt _) bk2 df2 (.quit hq) rfl (by show 1<=6;omega) ?_ (.inl ⟨by show 1<_;omega,by simp[cnt]⟩);have e:((v:Nat):Int)*KK+((0:Nat):Int)=((Vc j (upd E i ⟨1,q,1⟩)+Io tag:Nat):Int)*KK:=by rw[MH];simp
    rw[e];exact .opn h1 (opq q h2) (λvs ev=>by have:=h3 vs ev;omega)
   |reg h1 h2 h3=>
    obtain⟨v,hv⟩:∃v,Vc j E=v+1:=⟨Vc j E-1,by omega⟩;rw[hv]at Ba;have Cc:WgAt H.ty H.Wg w (((v:Nat)+1)*KK+((1:Nat):Int)) 0:=by simpa using Ba
    obtain⟨g',hgo,hl,hq⟩:=AA v 1 (by omega) (by omega) Cc;by_cases Nw:v=0
    ·subst Nw;obtain⟨m₂,hk⟩:=hl ⟨rfl,rfl⟩;refine book (d':=⟨4,m₂,1⟩) hgo (aside_setCell w (stA H.Wg) _) (Ba.setSt _) bk2 df2 (.d2 hk) rfl (by show 4<=6;omega) ?_ (.inl ⟨by show 4<_;omega,by simp[cnt]⟩);have Og:∀a,a<j->a≠i->(E a).stage=1:=λa ha e=>by have c0:=others_uncounted hi hv DU a ha e;have:=h2 a ha;simp only[cnt]at c0;split at c0<;>omega
     have:=Jv.last (j:=j) (D:=upd E i ⟨4,m₂,1⟩) (tag:=tag) i h1 hi (by rw[upd_same];simp) (λa ha e=>by rw[upd_ne E _ e];exact Og a ha e);rw[upd_same]at this;simpa using this
    ·obtain⟨q,hq⟩:=hq (by omega);have MH:Vc j (upd E i ⟨1,q,1⟩)=v:=by have:=Vc_upd E (⟨1,q,1⟩:WD) hi;have:=xB q;omega
     refine book (d':=⟨1,q,1⟩) hgo (aside_setCell w (stA H.Wg) _) (Ba.setSt _) bk2 df2 (.quit hq) rfl (by show 1<=6;omega) ?_ (.inl ⟨by show 1<_;omega,by simp[cnt]⟩);have e:((v:Nat):Int)*KK+((1:Nat):Int)=((Vc j (upd E i ⟨1,q,1⟩):Nat):Int)*KK+1:=by rw[MH];simp
     rw[e];exact .reg h1 (opq q h2) (by omega)
   |last L _ h2 h3 h4=>
    by_cases e:i=L
    ·subst e;omega
    ·have:=h4 i hi e;omega
   |sema _ h2=>have:=h2 i hi;omega
   |fin _ h2=>have:=h2 i hi;omega
  ·obtain⟨g',w',es,hgo,⟨rfl,rfl⟩,Bg⟩:=Ah w (RW.refl w);exact idle hgo (.d1 Bg) rfl
 |d2 h=>
  rcases Goes.cases h with Ak|⟨m',rfl,Ah⟩
  ·obtain⟨_,hx⟩:=Ak w (RW.refl w);obtain⟨Dt,Og,rfl,rfl⟩:=Ai.isLast hi (by omega);simp only[Vj]at Ba;obtain⟨g',hgo,m₂,hk⟩:=hx (by simpa using Ba);refine book (d':=⟨3,m₂,1⟩) hgo (.refl H.Wg w) Ba (by intro e he;simp at he;subst he;exact bk_cell _ _ rfl) (by intro jx e he;match jx,he with|0,_=>exact .inr (by simp[deafBehind])|jx+1,he=>simp at he) (.d3 hk) rfl (by show 3<=6;omega) ?_ (.inl ⟨by show 3<_;omega,by simp[cnt]⟩);have:=Jv.last (j:=j) (D:=upd E i ⟨3,m₂,1⟩) (tag:=tag) i Dt hi (by rw[upd_same];simp) (λa ha e=>by rw[upd_ne E _ e];exact Og a ha e);rw[upd_same]at this;simpa using this
  ·obtain⟨g',w',es,hgo,⟨rfl,rfl⟩,Bg⟩:=Ah w (RW.refl w);exact idle hgo (.d2 Bg) rfl
 |d3 h=>
  rcases Goes.cases h with Ak|⟨m',rfl,Ah⟩
  ·obtain⟨_,hx⟩:=Ak w (RW.refl w);obtain⟨Dt,Og,rfl,rfl⟩:=Ai.isLast hi (by omega);simp only[Vj]at Ba;obtain⟨g',hgo,m₂,hk⟩:=hx (by simpa using Ba);refine book (d':=⟨2,m₂,1⟩) hgo (aside_setCell w (stA H.Wg) _) (Ba.setSt 0) (by intro e he;simp at he;subst he;exact bk_cell _ _ rfl) (by intro jx e he;match jx,he with|0,_=>exact .inr (by simp[deafBehind])|jx+1,he=>simp at he) (.d4 hk) rfl (by show 2<=6;omega) ?_ (.inl ⟨by show 2<_;omega,by simp[cnt]⟩);have:=Jv.last (j:=j) (D:=upd E i ⟨2,m₂,1⟩) (tag:=tag) i Dt hi (by rw[upd_same];simp) (λa ha e=>by rw[upd_ne E _ e];exact Og a ha e);rw[upd_same]at this;simpa using this
  ·obtain⟨g',w',es,hgo,⟨rfl,rfl⟩,Bg⟩:=Ah w (RW.refl w);exact idle hgo (.d3 Bg) rfl
 |d4 h=>
  rcases Goes.cases h with Ak|⟨m',rfl,Ah⟩
  ·obtain⟨_,xK,hx⟩:=Ak w (RW.refl w);obtain⟨Dt,Og,rfl,rfl⟩:=Ai.isLast hi (by omega);simp only[Vj]at Ba;obtain⟨g',hgo,q,hq⟩:=hx (by simpa using Ba);have jA:g'.status=.running:=by
    cases q with
    |zero=>exact absurd hq.2 (by decide)
    |succ q=>exact hq.elim (λx=>absurd x.2 (by decide)) (λx=>x.1)
   refine RX (d':=⟨1,q,1⟩) hgo (aside_setCell w (smA H.Wg) _) (Ba.setSm 1) (es:=semEvents (smA H.Wg)) Jl9 ?_ (.quit hq) (by simp[deafBehind,semEvents]) (by show 1<=6;omega) ?_ (.inl ⟨by show 1<_;omega,by simp[cnt]⟩)
   ·intro jx e he
    match jx,he with
    |0,he=>simp[semEvents]at he;subst he;exact .inl rfl
    |1,_=>exact .inr (by simp[deafBehind,semEvents])
    |2,_=>exact .inr (by simp[deafBehind,semEvents])
    |3,he=>simp[semEvents]at he;subst he;exact .inl rfl
    |jx+4,he=>simp[semEvents]at he
   ·intro tag' ht hw;have BX:=hw xK jA;have e3:tag'=.wr\/tag'=.w3:=by
     rcases ht with rfl|⟨_,rfl⟩
     ·cases tag'<;>first|exact .inl rfl|exact .inr rfl|exact Dt.elim|exact absurd rfl BX
     ·exact .inr rfl
    simp only[if_true];exact .sema e3 λa ha=>by
     by_cases e:a=i
     ·subst e;rw[upd_same]
     ·rw[upd_ne E _ e];exact Og a ha e
  ·obtain⟨g',w',es,hgo,⟨rfl,rfl⟩,Bg⟩:=Ah w (RW.refl w);exact idle hgo (.d4 Bg) rfl
 |quit h=>
  cases m with
  |zero=>rw[h.1]at AB;cases AB
  |succ qq=>
   rcases h with⟨hf,_⟩|⟨_,g',es,RY,Ah,hq⟩
   ·rw[hf]at AB;cases AB
   ·have L9:∀e∈es,Bk H.Wg e:=λe he=>bk_of_mute (RY e he);have Eb:∀jx e,es[jx]?=some e->(MemAct.ofEvent e).touch?=none\/0<deafBehind dd (es.extract 0 jx):=λjx e he=>.inl (by
     rcases bk_of_mute (Wg:=H.Wg) (RY e (IX he))with h1|h1|⟨a,wr,rfl,_⟩
     ·rw[ofEvent_loc_mark h1];rfl
     ·rw[ofEvent_loc_mark h1];rfl
     ·have:=RY _ (IX he);simp[Event.mute]at this)
    refine book (d':=⟨1,qq,deafBehind dd es⟩) (Ah w) (.refl H.Wg w) Ba L9 Eb (.quit hq) rfl (by show 1<=6;omega) ?_ (.inr ⟨Af.symm,by show qq+1=_;omega⟩);have:=Ai.same (i:=i) qq (deafBehind dd es)
    rwa [Vj]at this
end
end
end Go.Sim
end
