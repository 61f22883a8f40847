/- PROVED HERE: laws. Conditions: none. -/
import Derived.Test.YtlcbehhbfglgaaaGreatF11
set_option linter.all false
namespace Go.Sim
section
variable {C:Cx} {S:Kn} {E:J5} {cs:Bot}
theorem Jip {ok:FuncId->Code->Prop} {α:Type} {f f':α->Sem Value}:∀ (l:List α) (E:J5),(∀ x∈l,∀ E1,Sub E E1->J3 C ok E1 (f x) (f' x) (VR C))->J3 C ok E (l.mapM f) (l.mapM f') (LR C)
 | [],E,_=>by simp only [List.mapM_nil];exact .pure .nil
 | x::l,E,h=>by simp only [List.mapM_cons];refine J3.bind' (h x (by simp) E (.refl E)) fun E1 s1 a a' ha=>?_;refine J3.bind' (Jip l E1 fun x hx E2 s2=>h x (by simp [hx]) E2 (s1.trans s2)) fun E2 s2 b b' hb=>?_;exact .pure (.cons (ha.mono s2) hb)
theorem J3.results {ok:FuncId->Code->Prop} (hh:Hnd C E) (fn:Func) {t t':Array Value} (h:∀ r∈fn.results,VR C E (t.getD (J9m r) undef) (t'.getD (J9m r) undef)):J3 C ok E (Go.results fn t) (Go.results fn t') (VR C):=by
 unfold Go.results;have key:J3 C ok E (fn.results.mapM (m:=Sem) fun | .tmp x=>Pure.pure (t.getD x undef) | .cell a ty=>do Go.loadVar ty (<- Go.asAddr (t.getD a undef)))
   (fn.results.mapM (m:=Sem) fun | .tmp x=>Pure.pure (t'.getD x undef) | .cell a ty=>do Go.loadVar ty (<- Go.asAddr (t'.getD a undef))) (fun E1 a a'=>AR C E1 a a'):=by
  rw [Array.mapM_eq_mapM_toList,Array.mapM_eq_mapM_toList];refine (J3.map (Jip _ _ fun x hx E1 s1=>?_)).mono ?_
  ·have hv:=h x (by simpa using hx);cases x with
   | tmp x=>exact .pure (hv.mono s1)
   | cell a ty=>exact J3.bind' (J3.asAddr (hh.mono s1) (hv.mono s1)) fun E2 s2 b b' hb=>J3.loadVar ty hb
  ·rintro E1 b b' _ ⟨x,x',hx,rfl,rfl⟩;exact hx.toArray
 refine J3.bind' key fun E1 s1 a a' ha=>?_;have hz:=ha.size;by_cases h1:a.size=1
 ·have h2:a'.size=1:=hz▸h1;simp only [h1,h2,dite_true];exact .pure (ha.at_ 0 _ _ (Ja4 (by omega)) (Ja4 (by omega)))
 ·have h2:¬ a'.size=1:=hz▸h1;simp only [h1,h2,dite_false];exact .pure (.J3f ha)
theorem J3.Jvg (K:J7o C S) (hh:Hnd C E) {d d':Target} (h:J4t C E d d') (hc:∀ r,d≠.collected r) {a a':Array Value} (ha:AR C E a a') (hz:∀ f c,d=.fn f c->a.size+c.size<=6) :
  J3 C (okP C S) E (Go.invoke d a) (Go.invoke d' a') (J3j C (okP C S) S):=by
 cases h with
 | collected h=>exact absurd rfl (hc _)
 | nil=>exact J3.runtimePanic (α:=Next) (α':=Next) hh .nilDeref
 | fn hf hcc=>
  cases hf with
  | func hf=>exact J3.callFunc' K (AR.append ha hcc) (Ent.Jh1 K hf _ (by have:=hz _ _ rfl;simp;omega))
  | yield hl=>exact J3.yield hl ha
  | method hn=>exact J3.J9k K hh hn _ _ ha (by have:=hz _ _ rfl;omega)
theorem FrR.Jg7 {f f':Frame} (h:FrR C S E f f') {d d':List Deferred} (hd:J0x C E d d'):FrR C S E { f with defers:=d } { f' with defers:=d' }:=
 ⟨h.fn,h.body,h.kind,h.kind',h.round,h.tmps,h.todo,hd,h.mode,h.hol,h.rd⟩
theorem J01.ite {c c':Prop} [Decidable c] [Decidable c'] {L:Option Nat} {w w' w1:World} {o:Outcome} {es:Array Event} {x r r':GStep} (hc:c'->c) (h:J01 C S E cs L w w' r r') :
  J01 C S E cs L w w' (if c then .ended o w1 es else r) (if c' then x else r'):=by
 by_cases h1:c
 ·rw [if_pos h1];exact J01.J26
 ·rw [if_neg h1,if_neg fun h2=>h1 (hc h2)];exact h
theorem Jcc (A:J1d C S) (hh:Hnd C E) {f f':Frame} {l l':List Frame} {L:Option Nat} {w w':World} (hw:WT C (okP C S) E L w w') (h:FrR C S E f f') (hl:J2n C S E cs f.kind l l')
  {d d':Deferred} (hd:Jbw C E d d') (hc:∀ r,d.target≠.collected r):J01 C S E cs L w w' (callDeferred C.P f l none d w) (callDeferred C.P f' l' none d' w'):=by
 have hs:=J3.Jvg A.kn hh hd.target hc hd.args hd.sz;rcases hs L w w' hw with ⟨lim,hL,hv⟩|hx
 ·exact .inl ⟨lim,hL,fun g1 w1 es hgo hd=>Jb7 hv (Jbi hgo hd)⟩
 unfold callDeferred;refine J01.ite ?_ ?_
 ·have h1:=hd.target;have h2:=h.mode;generalize d.target=t at h1;generalize d'.target=t' at h1;generalize f.mode=m at h2;generalize f'.mode=m' at h2;cases h1<;>cases h2<;>simp
 simp only [Sem.runT_eq];cases hr:(invoke d.target d.args).run C.P w with
 | ok n w2=>
  rw [hr] at hx;obtain ⟨E1,n',w2',e1,e2,e3,e4,e6⟩:=hx;rw [e1];have hes:∀ e,e∈(seen C.P f'.fn (#[]++(invoke d'.target d'.args).events C.P w' #[])++#[])->J3h C E1 e:=fun e he=>by rw [Array.append_empty] at he;have:=J4m he;rw [Array.empty_append] at this;exact e6 e this
  simp only [Array.empty_append] at hes ⊢;have hm:=h.mono e3.sub;have hlm:=hl.mono e3.sub;have low:J2n C S E1 cs .deferred (f::l) (f'::l'):=.cons hm (fun x=>nomatch x) hlm;cases e4 with
  | value hv=>
   exact .good e2 e3 ⟨.cons hm hlm,rfl,rfl,rfl,rfl,rfl⟩ hes
  | skip=>
   exact .good e2 e3 ⟨.cons hm hlm,rfl,rfl,rfl,rfl,rfl⟩ hes
  | enter ha hf=>
   have hfr:=FrR.enter (k:=.deferred) (.inr rfl) (A.kn.cs _ hf.1) (A.free hf.1) (A.code _ · · hf.1) ha hf;exact .good e2 e3 ⟨.cons hfr low,rfl,rfl,rfl,rfl,rfl⟩ hes
  | round hl ht h1 h2=>
   exact .good e2 e3 ⟨.cons (FrR.Jij (k:=.deferred) (.inr rfl) hl ht h1 h2) low,rfl,rfl,rfl,rfl,rfl⟩ hes
 | halt x w2=>
  rw [hr] at hx;cases x with
  | panic v=>
   obtain ⟨E1,v',w2',e1,e2,e3,e4,e6⟩:=hx;rw [e1];refine .good e2 e3 ⟨.cons ((h.mono e3.sub).raise (.cons false false e4 .nil)) (by rw [Frame.J8p];exact hl.mono e3.sub),rfl,rfl,rfl,rfl,rfl⟩ fun e he=>?_;rw [Array.append_empty] at he;have:=J4m he;simp only [Array.empty_append] at this;exact e6 e this
  | goexit=>exact absurd rfl hx.2.1
  | blocked=>exact absurd rfl hx.2.2.2.2.2.1
  | waiting=>exact absurd rfl hx.2.2.2.2.2.2
  | exit c=>exact .J26
  | fatal m=>exact absurd rfl (hx.2.2.2.2.1 m)
  | throw m=>exact absurd rfl (hx.2.2.2.1 m)
  | stuck s=>exact .J26
  | unsupported u=>exact .J26
theorem Jma (A:J1d C S) (hh:Hnd C E) {f f':Frame} {l l':List Frame} {L:Option Nat} {w w':World} (hw:WT C (okP C S) E L w w') (h:FrR C S E f f') (hl:J2n C S E cs f.kind l l') {main main':Bool} :
  J01 C S E cs L w w' (unwind C.P main f l none w) (unwind C.P main' f' l' none w'):=by
 have hd:=h.defers;generalize e1:f.defers=ds at hd;generalize e2:f'.defers=ds' at hd;cases hd with
 | @cons d d' ds ds' hd hds=>
  obtain ⟨t,a⟩:=d;obtain ⟨t',a'⟩:=d';have hdt:=hd.target
  dsimp only at hdt
  have other:(∀ r,t≠.collected r)->(∀ r,t'≠.collected r)->J01 C S E cs L w w' (unwind C.P main f l none w) (unwind C.P main' f' l' none w'):=by
   intro k1 k2;have u1:unwind C.P main f l none w=callDeferred C.P { f with defers:=ds } l none ⟨t,a⟩ w:=by
    unfold unwind;rw [e1];cases t<;>first|rfl|exact absurd rfl (k1 _)
   have u2:unwind C.P main' f' l' none w'=callDeferred C.P { f' with defers:=ds' } l' none ⟨t',a'⟩ w':=by
    unfold unwind;rw [e2];cases t'<;>first|rfl|exact absurd rfl (k2 _)
   rw [u1,u2];exact Jcc A hh hw (h.Jg7 hds) hl hd k1
  cases hdt with
  | nil=>exact other (fun r h=>by cases h) (fun r h=>by cases h)
  | fn _ _=>exact other (fun r h=>by cases h) (fun r h=>by cases h)
  | @collected r r' hr=>
   have u1:unwind C.P main f l none w=GStep.after (seen C.P f.fn ((Instr.takeDeferred r).runT C.P w #[]).2) (match ((Instr.takeDeferred r).runT C.P w #[]).1 with
     | .ok calls w=>.go { frame:={ f with defers:=calls++ds },callers:=l,status:=.running,dying:=none } w
     | .halt _ w=>.ended (.stuck "the deferred calls of a range-over-func loop have been taken" (f.pos C.P)) w):=by
    unfold unwind;rw [e1];rfl
   have u2:unwind C.P main' f' l' none w'=GStep.after (seen C.P f'.fn ((Instr.takeDeferred r').runT C.P w' #[]).2) (match ((Instr.takeDeferred r').runT C.P w' #[]).1 with
     | .ok calls w=>.go { frame:={ f' with defers:=calls++ds' },callers:=l',status:=.running,dying:=none } w
     | .halt _ w=>.ended (.stuck "the deferred calls of a range-over-func loop have been taken" (f'.pos C.P)) w):=by
    unfold unwind;rw [e2];rfl
   rw [u1,u2];refine of_run (f:=fun x=>match x with
     | .ok calls w=>.go { frame:={ f with defers:=calls++ds },callers:=l,status:=.running,dying:=none } w
     | .halt _ w=>.ended (.stuck "the deferred calls of a range-over-func loop have been taken" (f.pos C.P)) w)
    (f':=fun x=>match x with
     | .ok calls w=>.go { frame:={ f' with defers:=calls++ds' },callers:=l',status:=.running,dying:=none } w
     | .halt _ w=>.ended (.stuck "the deferred calls of a range-over-func loop have been taken" (f'.pos C.P)) w) hw (J3.takeDeferred hr) ?_ ?_ ?_ ?_
   ·intro E1 c c' w1 w1' s hc hw1;exact J01.same hw1 (J50 (.cons ((h.mono s).Jg7 (hc.append (hds.mono s))) (hl.mono s)))
   ·intro E1 v v' w1 w1' s hv hw1;exact J01.J26
   ·intro x w1 _;exact ⟨_,_,_,rfl⟩
   ·intro r g1 w1 es h _;cases r with
    | ok v w=>cases h;exact Ja2 _
    | halt x w=>cases h
 | nil=>
  obtain ⟨fn,b1,b2,b3⟩:=h.body;have hm:=h.mode;generalize m1:f.mode=m at hm;generalize m2:f'.mode=m' at hm;cases hm with
  | run=>
   have u1:unwind C.P main f l none w=.ended (.stuck "unwind: the frame is running" (f.pos C.P)) w:=by unfold unwind;rw [e1,m1]
   rw [u1];exact J01.J26
  | @panicking c c' hc=>
   have k1:f.catches C.P=false:=by unfold Frame.catches;rw [b1]
   have k2:f'.catches C.P=false:=by unfold Frame.catches;rw [h.fn,b1]
   have back:∀ {g g':Frame} {m m':List Frame},l=g::m->l'=g'::m'->J01 C S E cs L w w' (unwind C.P main f l none w) (unwind C.P main' f' l' none w'):=by
    rintro g g' m m' rfl rfl;have u1:unwind C.P main f (g::m) none w=.go { frame:=g.raise c,callers:=m,status:=.running,dying:=none } w:=by unfold unwind;rw [e1,m1];simp only [k1];rfl
    have u2:unwind C.P main' f' (g'::m') none w'=.go { frame:=g'.raise c',callers:=m',status:=.running,dying:=none } w':=by unfold unwind;rw [e2,m2];simp only [k2];rfl
    rw [u1,u2];rcases hl.top.raise hc with hA|hB
    ·exact J01.same hw (J50 hA)
    ·exact .bad hB rfl
   cases hl with
   | bot hb ho=>exact back rfl rfl
   | cons hb ho hl=>exact back rfl rfl
  | returning=>
   have tm:∀ r∈fn.results,VR C E (f.tmps.getD (J9m r) undef) (f'.tmps.getD (J9m r) undef):=fun r hr=>h.tmps.getD (h.hol fn (by assumption) r hr);have u1:unwind C.P main f l none w=GStep.after (seen C.P f.fn ((results fn f.tmps).runT C.P w #[]).2) (match ((results fn f.tmps).runT C.P w #[]).1 with
     | .ok v w=>doReturn C.P main f l none v w
     | .halt (.stuck s) w=>.ended (.stuck s (f.pos C.P)) w
     | .halt _ w=>.ended (.stuck "return: the result variables cannot be read" (f.pos C.P)) w):=by
    unfold unwind;rw [e1,m1];simp only [b1];rfl
   have u2:unwind C.P main' f' l' none w'=GStep.after (seen C.P f'.fn ((results fn f'.tmps).runT C.P w' #[]).2) (match ((results fn f'.tmps).runT C.P w' #[]).1 with
     | .ok v w=>doReturn C.P main' f' l' none v w
     | .halt (.stuck s) w=>.ended (.stuck s (f'.pos C.P)) w
     | .halt _ w=>.ended (.stuck "return: the result variables cannot be read" (f'.pos C.P)) w):=by
    unfold unwind;rw [e2,m2];simp only [h.fn,b1];rfl
   rw [u1,u2];refine of_run (f:=fun x=>match x with
     | .ok v w=>doReturn C.P main f l none v w
     | .halt (.stuck s) w=>.ended (.stuck s (f.pos C.P)) w
     | .halt _ w=>.ended (.stuck "return: the result variables cannot be read" (f.pos C.P)) w)
    (f':=fun x=>match x with
     | .ok v w=>doReturn C.P main' f' l' none v w
     | .halt (.stuck s) w=>.ended (.stuck s (f'.pos C.P)) w
     | .halt _ w=>.ended (.stuck "return: the result variables cannot be read" (f'.pos C.P)) w) hw (J3.results hh fn tm) ?_ ?_ ?_ ?_
   ·intro E1 v v' w1 w1' s hv hw1;obtain ⟨c,l1,c',l1',e1,e2,e3⟩:=J9p (hl.mono s) h.kind (fr:=f) (fr':=f') rfl h.kind' hv
    dsimp only
    rw [e1,e2];exact J01.same hw1 (J50 e3)
   ·intro E1 v v' w1 w1' s hv hw1;exact J01.J26
   ·intro x w1 hd;cases x<;>exact ⟨_,_,_,rfl⟩
   ·intro r g1 w1 es h _;cases r with
    | ok v w=>rw [J83 h];exact Ja2 _
    | halt x w=>cases x<;>cases h
theorem Jiq (A:J1d C S) (hh:Hnd C E) (hg:∀ g,S.gs.contains g=true->E g g) {g g':Goroutine} {L:Option Nat} {w w':World} (hw:WT C (okP C S) E L w w') (h:GR C S E cs g g') (nd:¬ Jh2 g) (main':Bool) :
  J01 C S E cs L w w' (stepG C.P true g w) (stepG C.P main' g' w'):=by
 obtain ⟨f,l,st,dy,of⟩:=g;obtain ⟨f',l',st',dy',of'⟩:=g';obtain ⟨h1,h2,h3,h4,h5,h6⟩:=h;simp only at h1 h2 h3 h4 h5 h6;subst h4 h5;have ht:=h1.topR;cases hm:f.mode with
 | run=>
  have hm':f'.mode=.run:=by
   cases ht with
   | fr h hl=>
    have:=h.mode;rw [hm] at this;generalize f'.mode=m at this;cases this;rfl
   | bot h=>exact h.J5r
  have s1:∀ st of,stepG C.P true ⟨f,l,st,none,of⟩ w=stepG.exec C.P true true f l none w:=fun st of=>by unfold stepG;simp only [hm]
  have s2:∀ st of,stepG C.P main' ⟨f',l',st,none,of⟩ w'=stepG.exec C.P main' true f' l' none w':=fun st of=>by unfold stepG;simp only [hm']
  rw [s1,s2];exact Jrk A hh hg hw ht hm (fun k=>nd ⟨k.1,hm,k.2⟩)
 | _=>
  cases ht with
  | bot h=>rw [h.mode] at hm;cases hm
  | fr h hl=>
   have hm':f'.mode≠.run:=by have:=h.mode;rw [hm] at this;generalize f'.mode=m at this;cases this<;>simp
   have s1:∀ st of,stepG C.P true ⟨f,l,st,none,of⟩ w=unwind C.P true f l none w:=fun st of=>by unfold stepG;simp only [hm]
   have s2:∀ st of,stepG C.P main' ⟨f',l',st,none,of⟩ w'=unwind C.P main' f' l' none w':=fun st of=>by
    unfold stepG;cases hx:f'.mode with
    | run=>exact absurd hx hm'
    | _=>simp only [hx]
   rw [s1,s2];exact Jma A hh hw h hl
end
end Go.Sim
