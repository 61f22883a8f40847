/- Proved: laws for the claim. No conditions. -/
import Derived.Conc.LoneCalls
import Derived.Test.YtlcbehhbfglgaaaGreatDoorC04
set_option linter.all false
noncomputable section
namespace Go.Sim
open Go.Conc
def _root_.Go.World.tp(w:JE)(τ:Nat->Question->Nat)(c:Nat):JE:={ w with tape:=τ,drawn:=c }
structure BR(st:Bool)(X:JB)(w w1:JE):Prop where
 blocks:∀b,X b->w1.heap[b]?=w.heap[b]?
 size:w.heap.size<=w1.heap.size
 same:st=false->w1.heap.size=w.heap.size
 os:w1.os=w.os
def grown(X:JB)(w w1:JE):JB:=λb=>X b\/(w.heap.size<=b/\b<w1.heap.size)
def EvG(own X:JB)(e:Event):Prop:=
 match e.loc with
 |.cell a=>(X a.block/\(e.write=true->own a.block))/\e.sync=false
 |.obj r=>(X r/\(e.write=true->own r))/\e.sync=false
 |.mark .noRoom=>True
 |.mark (.extern _)=>True
 |_=>False
structure Jtd(own X:JB)(w w1:JE)(es:Array Event):Prop where
 size:w.heap.size<=w1.heap.size
 keep:∀b,b<w.heap.size->¬own b->w1.heap[b]?=w.heap[b]?
 out:w1.output=w.output
 os:w1.os=w.os
 more:w.drawn<=w1.drawn
 evs:∀e∈es,EvG (grown own w w1) (grown X w w1) e
structure Sit where
 own:JB
 X:JB
 g:JF
 w:JE
structure P5(P:Program)(main:Bool)(y:Sit)(w1:JE)(y2:Sit):Prop where
 step:∃es,stepG P main y.g w1=.go y2.g y2.w es/\Jtd y.own y.X w1 y2.w es
 run:y2.g.status=.running
 dying:y2.g.dying=none
 offers:y2.g.offers=none
 own:y2.own=grown y.own w1 y2.w
 X:y2.X=grown y.X w1 y2.w
inductive Runs(st:Bool)(P:Program)(main:Bool)(Stop:Sit->Prop):Sit->Prop
 |stop{y:Sit}(h:∀w1,BR st y.X y.w w1->Stop { y with w:=w1 }):Runs st P main Stop y
 |step{y:Sit}(f:JE->Sit)(h:∀w1,BR st y.X y.w w1->P5 P main y w1 (f w1))(k:∀w1,BR st y.X y.w w1->Runs st P main Stop (f w1)):Runs st P main Stop y
structure Link(C:Cx)(S:Kn)(E:J5)(own X:JB)(w w':JE):Prop where
 wr:WR C (okP C S) E w w'
 hnd:Hnd C E
 gl:∀g,S.gs.contains g=true->E g g
 rng:∀b b',E b b'->X b'/\(¬C.Sh b->own b')
def WR.rely{C:Cx}{ok:JG->Code->Prop}{E:J5}{w w' w1:JE}{X:JB}(h:WR C ok E w w')(hX:∀b b',E b b'->X b')(r:BR C.st X w' w1):WR C ok E w w1:=
 ⟨r.os.trans h.os,λb b' k=>⟨(h.dom b b' k).1,DX (h.dom b b' k).2 r.size⟩,h.fn,h.inj,h.old,λb b' o o' k x x'=>h.obj b b' o o' k x (by rw[<- r.blocks b' (hX b b' k)];exact x'),h.lid,
  λe=>(r.same e).trans (h.lsz e),h.glob⟩
def Link.rely{C:Cx}{S:Kn}{E:J5}{own X:JB}{w w' w1:JE}(h:Link C S E own X w w')(r:BR C.st X w' w1):Link C S E own X w w1:=
 ⟨h.wr.rely (λb b' k=>(h.rng b b' k).1) r,h.hnd,h.gl,h.rng⟩
def WR.tp{C:Cx}{ok:JG->Code->Prop}{E:J5}{w w':JE}(h:WR C ok E w w')(τ:Nat->Question->Nat)(c:Nat):WR C ok E (w.tp τ c) w':=
 ⟨h.os,h.dom,h.fn,h.inj,h.old,h.obj,h.lid,h.lsz,h.glob⟩
def Lc.evG{C:Cx}{E:J5}{own X:JB}(hr:∀b b',E b b'->X b'/\(¬C.Sh b->own b')){e:Event}(h:Lc C E e):EvG own X e:=by
 obtain⟨loc,wr,sy⟩:=e;cases loc with
 |cell a=>obtain⟨⟨b,h1,h2⟩,h3⟩:=h;exact⟨⟨(hr _ _ h1).1,λx=>(hr _ _ h1).2 (h2 x)⟩,h3⟩
 |obj a=>obtain⟨⟨b,h1,h2⟩,h3⟩:=h;exact⟨⟨(hr _ _ h1).1,λx=>(hr _ _ h1).2 (h2 x)⟩,h3⟩
 |mark m=>cases m<;>exact h
 |output=>exact h
 |goroutines=>exact h
def Link.step{C:Cx}{S:Kn}{E E1:J5}{own X:JB}{w w' w1 Am:JE}{es:Array Event}(h:Link C S E own X w w')(hw:WR C (okP C S) E1 w1 Am)(g:Grow C E E1 w w' w1 Am)(he:∀e∈es,Lc C E1 e) :
  Link C S E1 (grown own w' Am) (grown X w' Am) w1 Am/\Jtd own X w' Am es:=by
 have hr:∀b b',E1 b b'->grown X w' Am b'/\(¬C.Sh b->grown own w' Am b'):=by
  intro b b' hb;have hd:=hw.dom b b' hb;rcases g.new b b' hb with h1|⟨h1,h2⟩
  .exact⟨.inl (h.rng b b' h1).1,λhs=>.inl ((h.rng b b' h1).2 hs)⟩
  .exact⟨.inr ⟨by omega,hd.2⟩,λ_=>.inr ⟨by omega,hd.2⟩⟩
 refine⟨⟨hw,h.hnd.mono g.sub,λx hx=>g.sub _ _ (h.gl x hx),hr⟩,⟨?_,λb hb hn=>g.keep b hb λc hc=>?_,g.out,hw.os.trans (g.os.trans h.wr.os.symm),g.more,λe hx=>(he e hx).evG hr⟩⟩
 .have:=g.shift;have:=g.size;omega
 .exact Classical.byContradiction λhs=>hn ((h.rng c b hc).2 hs)
def Ru{P:Program}{a:JF}{w w':JE}{o:Outcome}{es:Array Event}(hs:a.status=.running)(h:stepG P true a w=.ended o w' es):step P (solo a w)=.ended o w':=by show(stepT P (solo a w)).1=_;rw[stepT_solo hs];simp[runT,solo,Array.swapAt!,h]
def Jlt(Post PostR:JC->JE->Prop)(g:JF)(w:JE):Prop:=
 g.callers=[]/\((g.frame.mode=.run/\g.frame.todo=[Js]/\Post g.frame.tmps w)\/(g.frame.mode=.returning/\PostR g.frame.tmps w))
def Fin(C:Cx)(S:Kn)(cs:Bot)(Post PostR:JC->JE->Prop)(E0:J5)(y:Sit):Prop:=
 ∃E g w,Sub E0 E/\Link C S E y.own y.X w y.w/\((GR C S E cs g y.g/\sH g/\Post g.frame.tmps w)\/(dG C S E cs g y.g/\PostR g.frame.tmps w))
section path
variable{st:Bool}{P:Program}{main:Bool}{Stop:Sit->Prop}
def Jcs{y:Sit}(h:¬Runs st P main Stop y):∃w1,BR st y.X y.w w1/\∀y2,P5 P main y w1 y2->¬Runs st P main Stop y2:=by
 refine Classical.byContradiction λhn=>h ?_;have key:∀w1,∃y2,BR st y.X y.w w1->P5 P main y w1 y2/\Runs st P main Stop y2:=λw1=>by
  by_cases hr:BR st y.X y.w w1
  all_goals grind
 obtain⟨f,hf⟩:=Classical.axiomOfChoice key;exact .step f (λw1 hr=>(hf w1 hr).1) λw1 hr=>(hf w1 hr).2
variable(st P main Stop) in
abbrev IE:={ y:Sit // ¬Runs st P main Stop y }
def EH(y:IE st P main Stop):JE:=Classical.choose (Jcs y.2)
def Jdq(y:IE st P main Stop):BR st y.1.X y.1.w (EH y):=(Classical.choose_spec (Jcs y.2)).1
def Jqa(y:IE st P main Stop){y2:Sit}(h:P5 P main y.1 (EH y) y2):¬Runs st P main Stop y2:=(Classical.choose_spec (Jcs y.2)).2 y2 h
def alive(y:IE st P main Stop):Prop:=∃y2,P5 P main y.1 (EH y) y2
open Classical in
def NK(y:IE st P main Stop):IE st P main Stop:=if h:alive y then⟨Classical.choose h,Jqa y (Classical.choose_spec h)⟩else y
def Yn{y:IE st P main Stop}(h:alive y):P5 P main y.1 (EH y) (NK y).1:=by unfold NK;grind
theorem Jn2{y:IE st P main Stop}(h:¬alive y):NK y=y:=by unfold NK;grind
def path(y:IE st P main Stop):Nat->IE st P main Stop
 |0=>y
 |n+1=>NK (path y n)
open Classical in
def drew(y:IE st P main Stop):Nat->Nat
 |0=>0
 |n+1=>drew y n+if alive (path y n)then(path y (n+1)).1.w.drawn-(EH (path y n)).drawn else 0
def Jfw{y:IE st P main Stop}{n m:Nat}(h:n<=m):drew y n<=drew y m:=by
 induction h with
 |refl=>grind
 |step _ ih=>exact BN ih (by simp only[drew];omega)
open Classical in
def aF{y:IE st P main Stop}{n:Nat}(h:¬alive (path y n)):∀k,path y (n+k)=path y n/\drew y (n+k)=drew y n
 |0=>⟨rfl,rfl⟩
 |k+1=>by
  obtain⟨h1,h2⟩:=aF h k;constructor
  .show NK (path y (n+k))=_
   grind[Jn2]
  .have e:drew y (n+k+1)=drew y (n+k)+if alive (path y (n+k))then(path y (n+k+1)).1.w.drawn-(EH (path y (n+k))).drawn else 0:=rfl
   grind
theorem Jy1{y:IE st P main Stop}{n m:Nat}(hn:¬alive (path y n))(hm:¬alive (path y m)):path y n=path y m/\drew y n=drew y m:=by
 rcases Nat.le_total n m with h|h
 .have:=aF hn (m-n)
  grind
 .have:=aF hm (n-m)
  grind
open Classical in
def pieces(y:IE st P main Stop):Nat->Question->Nat:=λj q=>
 if h:∃n,drew y n<=j/\j<drew y (n+1)then
  (EH (path y (Classical.choose h))).tape ((EH (path y (Classical.choose h))).drawn+(j-drew y (Classical.choose h))) q
 else if h:∃n,¬alive (path y n)then
  (EH (path y (Classical.choose h))).tape ((EH (path y (Classical.choose h))).drawn+(j-drew y (Classical.choose h))) q
 else 0
open Classical in
def YH(y:IE st P main Stop)(n:Nat):Option Nat:=if alive (path y n)then some (path y (n+1)).1.w.drawn else none
def Jgz(y:IE st P main Stop)(n k:Nat)(hk:∀lim,YH y n=some lim->(EH (path y n)).drawn+k<lim)(q:Question) :
  (EH (path y n)).tape ((EH (path y n)).drawn+k) q=pieces y (drew y n+k) q:=by
 by_cases ha:alive (path y n)
 .have hl:(EH (path y n)).drawn+k<(path y (n+1)).1.w.drawn:=hk _ (by unfold YH;grind);have hd:drew y (n+1)=drew y n+((path y (n+1)).1.w.drawn-(EH (path y n)).drawn):=by simp only[drew,if_pos ha]
  have hex:∃m,drew y m<=drew y n+k/\drew y n+k<drew y (m+1):=⟨n,by omega,by omega⟩;unfold pieces;rw[dif_pos hex];have hc:=Classical.choose_spec hex;have he:Classical.choose hex=n:=by
   rcases Nat.lt_trichotomy (Classical.choose hex) n with h|h|h
   .have:=Jfw (y:=y) (show Classical.choose hex+1<=n by omega);omega
   .exact h
   .have:=Jfw (y:=y) (show n+1<=Classical.choose hex by omega);omega
  grind
 .have D7:¬ ∃m,drew y m<=drew y n+k/\drew y n+k<drew y (m+1):=by
   rintro⟨m,h1,h2⟩;rcases BF m n with h|h
   .have:=Jfw (y:=y) (show m+1<=n by omega);omega
   .have e1:=(aF ha (m-n)).2;have e2:=(aF ha (m+1-n)).2
    grind
  have hex:∃m,¬alive (path y m):=⟨n,ha⟩;unfold pieces;rw[dif_neg D7,dif_pos hex]
  grind[Jy1,Classical.choose_spec]
end path
section
variable{C:Cx}{S:Kn}{cs:Bot}
def Jes(A:FM C S){main:Bool}{E0:J5}{Stop:Sit->Prop}{RP:JF->JE->Prop}{g0:JF}{w0:JE}{y0:Sit}
  (hb:∀g w,RP g w->¬UW g) (hs:∀E y g w,Sub E0 E->Link C S E y.own y.X w y.w->(GR C S E cs g y.g\/dG C S E cs g y.g)->RP g w->Stop y)
  (hr:∀E y g w,Sub E0 E->Link C S E y.own y.X w y.w->GR C S E cs g y.g->sH g->RP { frame:={ g.frame with todo:=[Js] },callers:=g.callers,status:=.running,dying:=none } w->Stop y)
  (hl:Link C S E0 y0.own y0.X w0 y0.w) (hg:GR C S E0 cs g0 y0.g)
  (K:∀τ,∃n g1 w1,runN C.P n (solo g0 (w0.tp τ 0))=.next (solo g1 w1)/\RP g1 w1) :
  Runs C.st C.P main Stop y0:=by
 refine Classical.byContradiction λhn=>?_
 let yb:IE C.st C.P main Stop:=⟨y0,hn⟩
 obtain⟨n,g1,w1,AB,BH⟩:=K (pieces yb);have inv:∀i,i<=n->∃E g w,runN C.P i (solo g0 (w0.tp (pieces yb) 0))=.next (solo g w)/\w.tape=pieces yb/\w.drawn=drew yb i/\Sub E0 E /\
   Link C S E (path yb i).1.own (path yb i).1.X w (path yb i).1.w/\(GR C S E cs g (path yb i).1.g\/dG C S E cs g (path yb i).1.g):=by
  intro i
  induction i with
  |zero=>exactλ_=>⟨E0,g0,_,rfl,rfl,rfl,.refl _,⟨hl.wr.tp _ _,hl.hnd,hl.gl,hl.rng⟩,.inl hg⟩
  |succ i ih=>
   intro hi;obtain⟨E,g,w,h1,h2,h3,h4,h5,h6⟩:=ih (by omega);have more:∀_:Nat,runN C.P n (solo g0 (w0.tp (pieces yb) 0))=runN C.P (n-i) (solo g w):=λ_=>by
    have:=runN_add C.P i (n-i) (solo g0 (w0.tp (pieces yb) 0))
    grind
   have Wp:∀o w2,step C.P (solo g w)≠.ended o w2:=by intro o w2 he;have:=more 0;rw[AB,show n-i=(n-i-1)+1 by omega]at this;simp only[runN,he]at this;cases this
   have after:∀g2 w2,step C.P (solo g w)=.next (solo g2 w2)->runN C.P (i+1) (solo g0 (w0.tp (pieces yb) 0))=.next (solo g2 w2)/\runN C.P (n-(i+1)) (solo g2 w2)=.next (solo g1 w1):=by
    intro g2 w2 he;have e1:runN C.P (i+1) (solo g0 (w0.tp (pieces yb) 0))=.next (solo g2 w2):=by rw[runN_add,h1];simp only[runN,he]
    refine⟨e1,?_⟩;have:=runN_add C.P (i+1) (n-(i+1)) (solo g0 (w0.tp (pieces yb) 0))
    grind
   rcases h6 with h6|h6
   .by_cases hd:sH g
    ·
     exfalso;obtain⟨d1,d2,d3⟩:=hd;have QG:g.frame.todo=[Js]->False:=by
      intro e;have:stepG C.P true g w=.ended (.unsupported (Unsupported.elab "") (g.frame.pos C.P)) w:=by have:=ZX (P:=C.P) (main:=true) (fr:=g.frame) (callers:=g.callers) (dying:=none) (w:=w) (y:= "") (k:=[]) e;unfold stepG;simp only[h6.dying,d2];exact this
      exact Wp _ _ (Ru h6.run this)
     rcases d3 with d3|⟨ops,d3⟩
     .grind
     .have Ae:stepG C.P true g w=.go { frame:={ g.frame with todo:=[Js] },callers:=g.callers,status:=.running,dying:=none } w:=by have:=mP (P:=C.P) (main:=true) (fr:=g.frame) (callers:=g.callers) (dying:=none) (w:=w) (ops:=ops) (k:=[Js]) d3;unfold stepG;simp only[h6.dying,d2];rw[this];unfold toG;rw[d2]
      obtain⟨a1,a2⟩:=after _ _ (step_solo_go h6.run Ae);cases hm:n-(i+1)with
      |zero=>
       rw[hm]at a2;simp only[runN,Stepped.next.injEq]at a2;have QJ:({ frame:={ g.frame with todo:=[Js] },callers:=g.callers,status:=.running,dying:=none }:JF)=g1/\w=w1:=by
        simp only[solo,Machine.mk.injEq]at a2
        grind
       obtain⟨rfl,rfl⟩:=QJ;exact(path yb i).2 (.stop λw2 q=>hr E _ g w h4 (h5.rely q) h6 ⟨d1,d2,.inr ⟨ops,d3⟩⟩ BH)
      |succ m=>
       rw[hm]at a2;have he:stepG C.P true { frame:={ g.frame with todo:=[Js] },callers:=g.callers,status:=.running,dying:=none } w=.ended (.unsupported (Unsupported.elab "") (Frame.pos C.P { g.frame with todo:=[Js] })) w:=by
        have:=ZX (P:=C.P) (main:=true) (fr:={ g.frame with todo:=[Js] }) (callers:=g.callers) (dying:=none) (w:=w) (y:= "") (k:=[]) rfl;unfold stepG;grind
       simp only[runN,Ru rfl he]at a2;cases a2
    .have hrel:=h5.rely (Jdq (path yb i));have hw:WT C (okP C S) E (YH yb i) w (EH (path yb i)):=⟨hrel.wr,λk hk q=>by simp_all[Jgz]⟩;rcases Jjd A hrel.hnd hrel.gl hw h6 hd main with⟨lim,hL,ho⟩|⟨o,w2,es,he⟩|⟨g2,w2,es,he,BM,MH,hx⟩
     .exfalso;unfold YH at hL;split at hL
      .rename_i ha;obtain⟨es,Ae,_⟩:=(Yn ha).step;have:=ho _ _ _ Ae (Yn ha).dying;cases hL;exact Nat.lt_irrefl _ this
      .cases hL
     .exact absurd (Ru h6.run he) (Wp _ _)
     .obtain⟨a1,a2⟩:=after _ _ (step_solo_go h6.run he);rcases hx with BO|⟨E1,NZ,Bv,AU,k1,k2,k3,k4,k5⟩
      .exfalso;cases hm:n-(i+1)with
       |zero=>
        rw[hm]at a2;simp only[runN,Stepped.next.injEq]at a2;have QJ:g2=g1/\w2=w1:=by
         simp only[solo,Machine.mk.injEq]at a2
         grind
        obtain⟨rfl,rfl⟩:=QJ;exact hb _ _ BH BO
       |succ m=>
        rw[hm]at a2;obtain⟨o,w3,es3,he3⟩:=BO.ends (P:=C.P) (w:=w2);simp only[runN,Ru BM he3]at a2;cases a2
      .obtain⟨l1,l2⟩:=hrel.step k2.toWR k3 k5;have hk:NZ.status=.running/\NZ.dying=none/\NZ.offers=none:=by
        rcases k4 with k4|k4
        .exact⟨k4.run',k4.dying',k4.offers⟩
        .exact⟨k4.run',k4.dying',k4.offers⟩
       have GL:P5 C.P main (path yb i).1 (EH (path yb i)) ⟨grown (path yb i).1.own (EH (path yb i)) Bv,grown (path yb i).1.X (EH (path yb i)) Bv,NZ,Bv⟩:=
        ⟨⟨AU,k1,l2⟩,hk.1,hk.2.1,hk.2.2,rfl,rfl⟩
       have ha:alive (path yb i):=⟨_,GL⟩;have Ij:=Yn ha;obtain⟨es2,IX,_⟩:=Ij.step;rw[k1]at IX;have e1:(path yb (i+1)).1.g=NZ/\(path yb (i+1)).1.w=Bv:=by
        show(NK (path yb i)).1.g=NZ/\(NK (path yb i)).1.w=Bv
        grind
       have e2:(path yb (i+1)).1.own=grown (path yb i).1.own (EH (path yb i)) Bv:=by
        have:=Ij.own;rw[show(NK (path yb i)).1.w=Bv from e1.2]at this;exact this
       have e3:(path yb (i+1)).1.X=grown (path yb i).1.X (EH (path yb i)) Bv:=by
        have:=Ij.X;rw[show(NK (path yb i)).1.w=Bv from e1.2]at this;exact this
       refine⟨E1,g2,w2,a1,k3.tape.trans h2,?_,h4.trans k3.sub,?_,?_⟩
       .have SN:drew yb (i+1)=drew yb i+((path yb (i+1)).1.w.drawn-(EH (path yb i)).drawn):=by simp only[drew,if_pos ha]
        have q1:=k3.draw;have q2:=k3.more
        grind
       all_goals grind
   ·
    exfalso;have he:∃o w2 es,stepG C.P true g w=.ended o w2 es:=by obtain⟨fr,callers,sts,dy,of⟩:=g;have q1:=h6.alone;have q2:=h6.mode;have q3:=h6.defers;have q4:=h6.dying;simp only at q1 q2 q3 q4;subst q1 q4;exact⟨_,_,_,by simp[stepG,q2,unwind,q3,Jq,callDeferred,invoke];rfl⟩
    obtain⟨o,w2,es,he⟩:=he;exact Wp _ _ (Ru h6.run he)
 obtain⟨E,g,w,h1,h2,h3,h4,h5,h6⟩:=inv n (Ad _);rw[AB]at h1;have QJ:g1=g/\w1=w:=by
  simp only[Stepped.next.injEq,solo,Machine.mk.injEq]at h1
  grind
 obtain⟨rfl,rfl⟩:=QJ;exact(path yb n).2 (.stop λw2 q=>hs E _ g1 w1 h4 (h5.rely q) h6 BH)
def Jlu(A:FM C S){main:Bool}{E0:J5}{Post PostR:JC->JE->Prop}{g0:JF}{w0:JE}{y0:Sit}
  (hl:Link C S E0 y0.own y0.X w0 y0.w) (hg:GR C S E0 cs g0 y0.g)
  (K:∀τ,∃n g1 w1,runN C.P n (solo g0 (w0.tp τ 0))=.next (solo g1 w1)/\Jlt Post PostR g1 w1) :
  Runs C.st C.P main (Fin C S cs Post PostR E0) y0:=by
 refine Jes A (λg w h hb=>?_) (λE y g w h4 h5 h6 BH=>?_) (λE y g w h4 h5 h6 hd BH=>?_) hl hg K
 .obtain⟨Jsg,BH⟩:=h;obtain⟨c,hc⟩:=hb.2.1
  grind
 .obtain⟨Jsg,BH⟩:=BH;rcases h6 with h6|h6
  .rcases BH with⟨m1,m2,m3⟩|⟨m1,m2⟩
   .exact⟨E,g,w,h4,h5,.inl ⟨h6,⟨Jsg,m1,.inl m2⟩,m3⟩⟩
   .exfalso;have:=h6.stack;rw[Jsg]at this;generalize hz:y.g.frame::y.g.callers=z at this;cases this with
    |bot hb=>rw[hb.mode]at m1;cases m1
    |cons hf hl=>cases hl
  .rcases BH with⟨m1,m2,m3⟩|⟨m1,m2⟩
   .rw[h6.mode]at m1;cases m1
   .exact⟨E,g,w,h4,h5,.inr ⟨h6,m2⟩⟩
 .obtain⟨_,⟨_,_,hp⟩|⟨OT,_⟩⟩:=BH
  .exact⟨E,g,w,h4,h5,.inl ⟨h6,hd,hp⟩⟩
  .have:=hd.2.1
   grind
end
end Go.Sim
end
