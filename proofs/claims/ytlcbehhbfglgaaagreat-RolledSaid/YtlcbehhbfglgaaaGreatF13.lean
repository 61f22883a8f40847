/- PROVED HERE: laws. Conditions: none. -/
import Derived.Conc.LoneCalls
import Derived.Test.YtlcbehhbfglgaaaGreatF12
set_option linter.all false
namespace Go.Sim
open Go.Conc
def _root_.Go.World.tp (w:World) (τ:Nat->Question->Nat) (c:Nat):World:={ w with tape:=τ,drawn:=c }
structure J07 (st:Bool) (X:Nat->Prop) (w w1:World):Prop where
 blocks:∀ b,X b->w1.heap[b]?=w.heap[b]?
 size:w.heap.size<=w1.heap.size
 same:st=false->w1.heap.size=w.heap.size
 os:w1.os=w.os
def grown (X:Nat->Prop) (w w1:World):Nat->Prop:=fun b=>X b\/(w.heap.size<=b/\b<w1.heap.size)
def EvG (own X:Nat->Prop) (e:Event):Prop:=
 match e.loc with
 | .cell a=>(X a.block/\(e.write=true->own a.block))/\e.sync=false
 | .obj r=>(X r/\(e.write=true->own r))/\e.sync=false
 | .mark .noRoom=>True
 | .mark (.extern _)=>True
 | _=>False
structure Jrl (own X:Nat->Prop) (w w1:World) (es:Array Event):Prop where
 size:w.heap.size<=w1.heap.size
 keep:∀ b,b<w.heap.size->¬ own b->w1.heap[b]?=w.heap[b]?
 out:w1.output=w.output
 os:w1.os=w.os
 more:w.drawn<=w1.drawn
 evs:∀ e∈es,EvG (grown own w w1) (grown X w w1) e
structure Sit where
 own:Nat->Prop
 X:Nat->Prop
 g:Goroutine
 w:World
structure J4k (P:Program) (main:Bool) (y:Sit) (w1:World) (y2:Sit):Prop where
 step:∃ es,stepG P main y.g w1=.go y2.g y2.w es/\Jrl y.own y.X w1 y2.w es
 run:y2.g.status=.running
 dying:y2.g.dying=none
 offers:y2.g.offers=none
 own:y2.own=grown y.own w1 y2.w
 X:y2.X=grown y.X w1 y2.w
inductive Runs (st:Bool) (P:Program) (main:Bool) (Stop:Sit->Prop):Sit->Prop
 | stop {y:Sit} (h:∀ w1,J07 st y.X y.w w1->Stop { y with w:=w1 }):Runs st P main Stop y
 | step {y:Sit} (f:World->Sit) (h:∀ w1,J07 st y.X y.w w1->J4k P main y w1 (f w1)) (k:∀ w1,J07 st y.X y.w w1->Runs st P main Stop (f w1)):Runs st P main Stop y
structure Link (C:Cx) (S:Kn) (E:J5) (own X:Nat->Prop) (w w':World):Prop where
 wr:WR C (okP C S) E w w'
 hnd:Hnd C E
 gl:∀ g,S.gs.contains g=true->E g g
 rng:∀ b b',E b b'->X b'/\(¬ C.Sh b->own b')
theorem WR.rely {C:Cx} {ok:FuncId->Code->Prop} {E:J5} {w w' w1:World} {X:Nat->Prop} (h:WR C ok E w w') (hX:∀ b b',E b b'->X b') (r:J07 C.st X w' w1):WR C ok E w w1:=
 ⟨r.os.trans h.os,fun b b' k=>⟨(h.dom b b' k).1,Jb7 (h.dom b b' k).2 r.size⟩,h.fn,h.inj,h.old,fun b b' o o' k x x'=>h.obj b b' o o' k x (by rw [<- r.blocks b' (hX b b' k)];exact x'),h.lid,
  fun e=>(r.same e).trans (h.lsz e),h.J5i⟩
theorem Link.rely {C:Cx} {S:Kn} {E:J5} {own X:Nat->Prop} {w w' w1:World} (h:Link C S E own X w w') (r:J07 C.st X w' w1):Link C S E own X w w1:=
 ⟨h.wr.rely (fun b b' k=>(h.rng b b' k).1) r,h.hnd,h.gl,h.rng⟩
theorem WR.tp {C:Cx} {ok:FuncId->Code->Prop} {E:J5} {w w':World} (h:WR C ok E w w') (τ:Nat->Question->Nat) (c:Nat):WR C ok E (w.tp τ c) w':=
 ⟨h.os,h.dom,h.fn,h.inj,h.old,h.obj,h.lid,h.lsz,h.J5i⟩
theorem J3h.evG {C:Cx} {E:J5} {own X:Nat->Prop} (hr:∀ b b',E b b'->X b'/\(¬ C.Sh b->own b')) {e:Event} (h:J3h C E e):EvG own X e:=by
 obtain ⟨loc,wr,sy⟩:=e;cases loc with
 | cell a=>obtain ⟨⟨b,h1,h2⟩,h3⟩:=h;exact ⟨⟨(hr _ _ h1).1,fun x=>(hr _ _ h1).2 (h2 x)⟩,h3⟩
 | obj a=>obtain ⟨⟨b,h1,h2⟩,h3⟩:=h;exact ⟨⟨(hr _ _ h1).1,fun x=>(hr _ _ h1).2 (h2 x)⟩,h3⟩
 | mark m=>cases m<;>exact h
 | output=>exact h
 | goroutines=>exact h
theorem Link.step {C:Cx} {S:Kn} {E E1:J5} {own X:Nat->Prop} {w w' w1 w1':World} {es:Array Event} (h:Link C S E own X w w') (hw:WR C (okP C S) E1 w1 w1') (g:Grow C E E1 w w' w1 w1') (he:∀ e∈es,J3h C E1 e) :
  Link C S E1 (grown own w' w1') (grown X w' w1') w1 w1'/\Jrl own X w' w1' es:=by
 have hr:∀ b b',E1 b b'->grown X w' w1' b'/\(¬ C.Sh b->grown own w' w1' b'):=by
  intro b b' hb;have hd:=hw.dom b b' hb;rcases g.new b b' hb with h1|⟨h1,h2⟩
  ·exact ⟨.inl (h.rng b b' h1).1,fun hs=>.inl ((h.rng b b' h1).2 hs)⟩
  ·exact ⟨.inr ⟨by omega,hd.2⟩,fun _=>.inr ⟨by omega,hd.2⟩⟩
 refine ⟨⟨hw,h.hnd.mono g.sub,fun x hx=>g.sub _ _ (h.gl x hx),hr⟩,⟨?_,fun b hb hn=>g.keep b hb fun c hc=>?_,g.out,hw.os.trans (g.os.trans h.wr.os.symm),g.more,fun e hx=>(he e hx).evG hr⟩⟩
 ·have:=g.shift;have:=g.size;omega
 ·exact Classical.byContradiction fun hs=>hn ((h.rng c b hc).2 hs)
theorem J0j {P:Program} {a:Goroutine} {w w':World} {o:Outcome} {es:Array Event} (hs:a.status=.running) (h:stepG P true a w=.ended o w' es):step P (solo a w)=.ended o w':=by show (stepT P (solo a w)).1=_;rw [stepT_solo hs];simp [runT,solo,Array.swapAt!,h]
def Jl4 (Post PostR:Array Value->World->Prop) (g:Goroutine) (w:World):Prop:=
 g.callers=[]/\((g.frame.mode=.run/\g.frame.todo=[Jt]/\Post g.frame.tmps w)\/(g.frame.mode=.returning/\PostR g.frame.tmps w))
def Fin (C:Cx) (S:Kn) (cs:Bot) (Post PostR:Array Value->World->Prop) (E0:J5) (y:Sit):Prop:=
 ∃ E g w,Sub E0 E/\Link C S E y.own y.X w y.w/\((GR C S E cs g y.g/\Jh2 g/\Post g.frame.tmps w)\/(Jii C S E cs g y.g/\PostR g.frame.tmps w))
section path
variable {st:Bool} {P:Program} {main:Bool} {Stop:Sit->Prop}
theorem Jcd {y:Sit} (h:¬ Runs st P main Stop y):∃ w1,J07 st y.X y.w w1/\∀ y2,J4k P main y w1 y2->¬ Runs st P main Stop y2:=by
 refine Classical.byContradiction fun hn=>h ?_;have key:∀ w1,∃ y2,J07 st y.X y.w w1->J4k P main y w1 y2/\Runs st P main Stop y2:=fun w1=>by
  by_cases hr:J07 st y.X y.w w1
  ·refine Classical.byContradiction fun hx=>hn ⟨w1,hr,fun y2 hg hR=>hx ⟨y2,fun _=>⟨hg,hR⟩⟩⟩
  ·exact ⟨y,fun h=>absurd h hr⟩
 obtain ⟨f,hf⟩:=Classical.axiomOfChoice key;exact .step f (fun w1 hr=>(hf w1 hr).1) fun w1 hr=>(hf w1 hr).2
variable (st P main Stop) in
abbrev J2w:={ y:Sit // ¬ Runs st P main Stop y }
noncomputable def J0q (y:J2w st P main Stop):World:=Classical.choose (Jcd y.2)
theorem Jcz (y:J2w st P main Stop):J07 st y.1.X y.1.w (J0q y):=(Classical.choose_spec (Jcd y.2)).1
theorem Jp3 (y:J2w st P main Stop) {y2:Sit} (h:J4k P main y.1 (J0q y) y2):¬ Runs st P main Stop y2:=(Classical.choose_spec (Jcd y.2)).2 y2 h
def alive (y:J2w st P main Stop):Prop:=∃ y2,J4k P main y.1 (J0q y) y2
open Classical in
noncomputable def J3b (y:J2w st P main Stop):J2w st P main Stop:=if h:alive y then ⟨Classical.choose h,Jp3 y (Classical.choose_spec h)⟩ else y
theorem J36 {y:J2w st P main Stop} (h:alive y):J4k P main y.1 (J0q y) (J3b y).1:=by unfold J3b;rw [dif_pos h];exact Classical.choose_spec h
theorem Jmb {y:J2w st P main Stop} (h:¬ alive y):J3b y=y:=by unfold J3b;rw [dif_neg h]
noncomputable def path (y:J2w st P main Stop):Nat->J2w st P main Stop
 | 0=>y
 | n+1=>J3b (path y n)
open Classical in
noncomputable def drew (y:J2w st P main Stop):Nat->Nat
 | 0=>0
 | n+1=>drew y n+if alive (path y n) then (path y (n+1)).1.w.drawn-(J0q (path y n)).drawn else 0
theorem Jfb {y:J2w st P main Stop} {n m:Nat} (h:n<=m):drew y n<=drew y m:=by
 induction h with
 | refl=>exact Ja2 _
 | step _ ih=>exact Jb6 ih (by simp only [drew];omega)
open Classical in
theorem J5z {y:J2w st P main Stop} {n:Nat} (h:¬ alive (path y n)):∀ k,path y (n+k)=path y n/\drew y (n+k)=drew y n
 | 0=>⟨rfl,rfl⟩
 | k+1=>by
  obtain ⟨h1,h2⟩:=J5z h k;constructor
  ·show J3b (path y (n+k))=_;rw [h1];exact Jmb h
  ·have e:drew y (n+k+1)=drew y (n+k)+if alive (path y (n+k)) then (path y (n+k+1)).1.w.drawn-(J0q (path y (n+k))).drawn else 0:=rfl
   show drew y (n+k+1)=_;rw [e,if_neg (by rw [h1];exact h),h2];rfl
theorem Jvh {y:J2w st P main Stop} {n m:Nat} (hn:¬ alive (path y n)) (hm:¬ alive (path y m)):path y n=path y m/\drew y n=drew y m:=by
 rcases Nat.le_total n m with h|h
 ·have:=J5z hn (m-n);rw [show n+(m-n)=m by omega] at this;exact ⟨this.1.symm,this.2.symm⟩
 ·have:=J5z hm (n-m);rw [show m+(n-m)=n by omega] at this;exact this
open Classical in
noncomputable def pieces (y:J2w st P main Stop):Nat->Question->Nat:=fun j q=>
 if h:∃ n,drew y n<=j/\j<drew y (n+1) then
  (J0q (path y (Classical.choose h))).tape ((J0q (path y (Classical.choose h))).drawn+(j-drew y (Classical.choose h))) q
 else if h:∃ n,¬ alive (path y n) then
  (J0q (path y (Classical.choose h))).tape ((J0q (path y (Classical.choose h))).drawn+(j-drew y (Classical.choose h))) q
 else 0
open Classical in
noncomputable def Jfc (y:J2w st P main Stop) (n:Nat):Option Nat:=if alive (path y n) then some (path y (n+1)).1.w.drawn else none
theorem Jg8 (y:J2w st P main Stop) (n k:Nat) (hk:∀ lim,Jfc y n=some lim->(J0q (path y n)).drawn+k<lim) (q:Question) :
  (J0q (path y n)).tape ((J0q (path y n)).drawn+k) q=pieces y (drew y n+k) q:=by
 by_cases ha:alive (path y n)
 ·have hl:(J0q (path y n)).drawn+k<(path y (n+1)).1.w.drawn:=hk _ (by unfold Jfc;rw [if_pos ha]);have hd:drew y (n+1)=drew y n+((path y (n+1)).1.w.drawn-(J0q (path y n)).drawn):=by simp only [drew,if_pos ha]
  have hex:∃ m,drew y m<=drew y n+k/\drew y n+k<drew y (m+1):=⟨n,by omega,by omega⟩;unfold pieces;rw [dif_pos hex];have hc:=Classical.choose_spec hex;have he:Classical.choose hex=n:=by
   rcases Nat.lt_trichotomy (Classical.choose hex) n with h|h|h
   ·have:=Jfb (y:=y) (show Classical.choose hex+1<=n by omega);omega
   ·exact h
   ·have:=Jfb (y:=y) (show n+1<=Classical.choose hex by omega);omega
  rw [he,show drew y n+k-drew y n=k by omega]
 ·have hno:¬ ∃ m,drew y m<=drew y n+k/\drew y n+k<drew y (m+1):=by
   rintro ⟨m,h1,h2⟩;rcases Jb5 m n with h|h
   ·have:=Jfb (y:=y) (show m+1<=n by omega);omega
   ·have e1:=(J5z ha (m-n)).2;have e2:=(J5z ha (m+1-n)).2;rw [show n+(m-n)=m by omega] at e1;rw [show n+(m+1-n)=m+1 by omega] at e2;omega
  have hex:∃ m,¬ alive (path y m):=⟨n,ha⟩;unfold pieces;rw [dif_neg hno,dif_pos hex];have he:=Jvh (Classical.choose_spec hex) ha;rw [he.1,he.2,show drew y n+k-drew y n=k by omega]
end path
section
variable {C:Cx} {S:Kn} {cs:Bot}
theorem Jl5 (A:J1d C S) {main:Bool} {E0:J5} {Post PostR:Array Value->World->Prop} {g0:Goroutine} {w0:World} {y0:Sit}
  (hl:Link C S E0 y0.own y0.X w0 y0.w) (hg:GR C S E0 cs g0 y0.g)
  (K:∀ τ,∃ n g1 w1,runN C.P n (solo g0 (w0.tp τ 0))=.next (solo g1 w1)/\Jl4 Post PostR g1 w1) :
  Runs C.st C.P main (Fin C S cs Post PostR E0) y0:=by
 refine Classical.byContradiction fun hn=>?_
 let yb:J2w C.st C.P main (Fin C S cs Post PostR E0):=⟨y0,hn⟩
 obtain ⟨n,g1,w1,hrun,Jx1,hfin⟩:=K (pieces yb);have inv:∀ i,i<=n->∃ E g w,runN C.P i (solo g0 (w0.tp (pieces yb) 0))=.next (solo g w)/\w.tape=pieces yb/\w.drawn=drew yb i/\Sub E0 E /\
   Link C S E (path yb i).1.own (path yb i).1.X w (path yb i).1.w/\(GR C S E cs g (path yb i).1.g\/Jii C S E cs g (path yb i).1.g):=by
  intro i
  induction i with
  | zero=>exact fun _=>⟨E0,g0,_,rfl,rfl,rfl,.refl _,⟨hl.wr.tp _ _,hl.hnd,hl.gl,hl.rng⟩,.inl hg⟩
  | succ i ih=>
   intro hi;obtain ⟨E,g,w,h1,h2,h3,h4,h5,h6⟩:=ih (by omega);have more:∀ _:Nat,runN C.P n (solo g0 (w0.tp (pieces yb) 0))=runN C.P (n-i) (solo g w):=fun _=>by
    have:=runN_add C.P i (n-i) (solo g0 (w0.tp (pieces yb) 0));rw [show i+(n-i)=n from by omega,h1] at this;exact this
   have J8q:∀ o w2,step C.P (solo g w)≠.ended o w2:=by intro o w2 he;have:=more 0;rw [hrun,show n-i=(n-i-1)+1 by omega] at this;simp only [runN,he] at this;cases this
   have after:∀ g2 w2,step C.P (solo g w)=.next (solo g2 w2)->runN C.P (i+1) (solo g0 (w0.tp (pieces yb) 0))=.next (solo g2 w2)/\runN C.P (n-(i+1)) (solo g2 w2)=.next (solo g1 w1):=by
    intro g2 w2 he;have e1:runN C.P (i+1) (solo g0 (w0.tp (pieces yb) 0))=.next (solo g2 w2):=by rw [runN_add,h1];simp only [runN,he]
    refine ⟨e1,?_⟩;have:=runN_add C.P (i+1) (n-(i+1)) (solo g0 (w0.tp (pieces yb) 0));rw [show i+1+(n-(i+1))=n by omega,e1,hrun] at this;exact this.symm
   rcases h6 with h6|h6
   ·by_cases hd:Jh2 g
    ·
     exfalso;obtain ⟨d1,d2,d3⟩:=hd;have hcode:g.frame.todo=[Jt]->False:=by
      intro e;have:stepG C.P true g w=.ended (.unsupported (Unsupported.elab "") (g.frame.pos C.P)) w:=by have:=J48 (P:=C.P) (main:=true) (fr:=g.frame) (callers:=g.callers) (dying:=none) (w:=w) (y:= "") (k:=[]) e;unfold stepG;simp only [h6.dying,d2];exact this
      exact J8q _ _ (J0j h6.run this)
     rcases d3 with d3|⟨ops,d3⟩
     ·exact hcode d3
     ·have hst:stepG C.P true g w=.go { frame:={ g.frame with todo:=[Jt] },callers:=g.callers,status:=.running,dying:=none } w:=by have:=J2v (P:=C.P) (main:=true) (fr:=g.frame) (callers:=g.callers) (dying:=none) (w:=w) (ops:=ops) (k:=[Jt]) d3;unfold stepG;simp only [h6.dying,d2];rw [this];unfold toG;rw [d2]
      obtain ⟨a1,a2⟩:=after _ _ (step_solo_go h6.run hst);cases hm:n-(i+1) with
      | zero=>
       rw [hm] at a2;simp only [runN,Stepped.next.injEq] at a2;have hgw:({ frame:={ g.frame with todo:=[Jt] },callers:=g.callers,status:=.running,dying:=none }:Goroutine)=g1/\w=w1:=by simp only [solo,Machine.mk.injEq] at a2;exact ⟨by simpa using a2.2.1,a2.1⟩
       obtain ⟨rfl,rfl⟩:=hgw;rcases hfin with ⟨_,_,hp⟩|⟨hm',_⟩
       ·refine (path yb i).2 (.stop fun w2 hr=>⟨E,g,w,h4,h5.rely hr,.inl ⟨h6,⟨d1,d2,.inr ⟨ops,d3⟩⟩,hp⟩⟩)
       ·simp only [d2] at hm';cases hm'
      | succ m=>
       rw [hm] at a2;have he:stepG C.P true { frame:={ g.frame with todo:=[Jt] },callers:=g.callers,status:=.running,dying:=none } w=.ended (.unsupported (Unsupported.elab "") (Frame.pos C.P { g.frame with todo:=[Jt] })) w:=by
        have:=J48 (P:=C.P) (main:=true) (fr:={ g.frame with todo:=[Jt] }) (callers:=g.callers) (dying:=none) (w:=w) (y:= "") (k:=[]) rfl;unfold stepG;simp only [d2];exact this
       simp only [runN,J0j rfl he] at a2;cases a2
    ·have hrel:=h5.rely (Jcz (path yb i));have hw:WT C (okP C S) E (Jfc yb i) w (J0q (path yb i)):=⟨hrel.wr,fun k hk q=>by rw [h2,h3];exact Jg8 yb i k hk q⟩;rcases Jiq A hrel.hnd hrel.gl hw h6 hd main with ⟨lim,hL,ho⟩|⟨o,w2,es,he⟩|⟨g2,w2,es,he,hr2,hd2,hx⟩
     ·exfalso;unfold Jfc at hL;split at hL
      ·rename_i ha;obtain ⟨es,hst,_⟩:=(J36 ha).step;have:=ho _ _ _ hst (J36 ha).dying;cases hL;exact Nat.lt_irrefl _ this
      ·cases hL
     ·exact absurd (J0j h6.run he) (J8q _ _)
     ·obtain ⟨a1,a2⟩:=after _ _ (step_solo_go h6.run he);rcases hx with hb|⟨E1,g2',w2',es',k1,k2,k3,k4,k5⟩
      ·exfalso;cases hm:n-(i+1) with
       | zero=>
        rw [hm] at a2;simp only [runN,Stepped.next.injEq] at a2;have hgw:g2=g1/\w2=w1:=by simp only [solo,Machine.mk.injEq] at a2;exact ⟨by simpa using a2.2.1,a2.1⟩
        obtain ⟨rfl,rfl⟩:=hgw;obtain ⟨c,hc⟩:=hb.2.1;rcases hfin with ⟨hm',_,_⟩|⟨hm',_⟩<;>(rw [hc] at hm';cases hm')
       | succ m=>
        rw [hm] at a2;obtain ⟨o,w3,es3,he3⟩:=hb.ends (P:=C.P) (w:=w2);simp only [runN,J0j hr2 he3] at a2;cases a2
      ·obtain ⟨l1,l2⟩:=hrel.step k2.toWR k3 k5;have hk:g2'.status=.running/\g2'.dying=none/\g2'.offers=none:=by
        rcases k4 with k4|k4
        ·exact ⟨k4.run',k4.dying',k4.offers⟩
        ·exact ⟨k4.run',k4.dying',k4.offers⟩
       have hgood:J4k C.P main (path yb i).1 (J0q (path yb i)) ⟨grown (path yb i).1.own (J0q (path yb i)) w2',grown (path yb i).1.X (J0q (path yb i)) w2',g2',w2'⟩:=
        ⟨⟨es',k1,l2⟩,hk.1,hk.2.1,hk.2.2,rfl,rfl⟩
       have ha:alive (path yb i):=⟨_,hgood⟩;have hn2:=J36 ha;obtain ⟨es2,hst2,_⟩:=hn2.step;rw [k1] at hst2;have e1:(path yb (i+1)).1.g=g2'/\(path yb (i+1)).1.w=w2':=by show (J3b (path yb i)).1.g=g2'/\(J3b (path yb i)).1.w=w2';simp only [GStep.go.injEq] at hst2;exact ⟨hst2.1.symm,hst2.2.1.symm⟩
       have e2:(path yb (i+1)).1.own=grown (path yb i).1.own (J0q (path yb i)) w2':=by
        have:=hn2.own;rw [show (J3b (path yb i)).1.w=w2' from e1.2] at this;exact this
       have e3:(path yb (i+1)).1.X=grown (path yb i).1.X (J0q (path yb i)) w2':=by
        have:=hn2.X;rw [show (J3b (path yb i)).1.w=w2' from e1.2] at this;exact this
       refine ⟨E1,g2,w2,a1,k3.tape.trans h2,?_,h4.trans k3.sub,?_,?_⟩
       ·have hd':drew yb (i+1)=drew yb i+((path yb (i+1)).1.w.drawn-(J0q (path yb i)).drawn):=by simp only [drew,if_pos ha]
        have q1:=k3.draw;have q2:=k3.more;rw [hd',e1.2,<- h3];omega
       ·rw [e1.2,e2,e3];exact l1
       ·rw [e1.1];exact k4
   ·
    exfalso;have he:∃ o w2 es,stepG C.P true g w=.ended o w2 es:=by obtain ⟨fr,callers,sts,dy,of⟩:=g;have q1:=h6.alone;have q2:=h6.mode;have q3:=h6.defers;have q4:=h6.dying;simp only at q1 q2 q3 q4;subst q1 q4;exact ⟨_,_,_,by simp [stepG,q2,unwind,q3,Jp,callDeferred,invoke];rfl⟩
    obtain ⟨o,w2,es,he⟩:=he;exact J8q _ _ (J0j h6.run he)
 obtain ⟨E,g,w,h1,h2,h3,h4,h5,h6⟩:=inv n (Ja2 _);rw [hrun] at h1;have hgw:g1=g/\w1=w:=by simp only [Stepped.next.injEq,solo,Machine.mk.injEq] at h1;exact ⟨by simpa using h1.2.1,h1.1⟩
 obtain ⟨rfl,rfl⟩:=hgw;rcases h6 with h6|h6
 ·rcases hfin with ⟨m1,m2,m3⟩|⟨m1,m2⟩
  ·exact (path yb n).2 (.stop fun w2 hr=>⟨E,g1,w1,h4,h5.rely hr,.inl ⟨h6,⟨Jx1,m1,.inl m2⟩,m3⟩⟩)
  ·exfalso;have:=h6.stack;rw [Jx1] at this;generalize hz:(path yb n).1.g.frame::(path yb n).1.g.callers=z at this;cases this with
   | bot hb=>rw [hb.mode] at m1;cases m1
   | cons hf hl=>cases hl
 ·rcases hfin with ⟨m1,m2,m3⟩|⟨m1,m2⟩
  ·rw [h6.mode] at m1;cases m1
  ·exact (path yb n).2 (.stop fun w2 hr=>⟨E,g1,w1,h4,h5.rely hr,.inr ⟨h6,m2⟩⟩)
end
end Go.Sim
