/- PROVED HERE: laws. Conditions: none. -/
import Derived.Test.YtlcbehhbfglgaaaGreatF10
set_option linter.all false
namespace Go.Sim
section
variable {C:Cx} {S:Kn} {E:J5} {cs:Bot}
def J6q (C:Cx) (S:Kn) (fr:Frame) (v:Value):Prop:=
 ∀ ops i r k d,fr.todo=.inRegion ops (i::r)::k->(ops[i]?).bind (·.dst)=some d->(S.own fr.fn).contains d=true->J37 C v
theorem Waits.Jik {fr:Frame} (h:Waits S fr) (v:Value):J6q C S fr v:=fun ops i r k d a b c=>by rw [h.own ops i r k d a b] at c;cases c
theorem Jf8 {fn:FuncId} {t t':Array Value} (h:TmR C S fn E t t') {v v':Value} (hv:VR C E v v') (d:Option Tmp):(∀ x,d=some x->(S.own fn).contains x=true->J37 C v) ->
  TmR C S fn E (match d with|some d=>t.setIfInBounds d v|none=>t) (match d with|some d=>t'.setIfInBounds d v'|none=>t'):=by
 intro ho;cases d with
 | none=>exact h
 | some d=>exact h.set d hv (ho d rfl)
theorem FrR.finish {fr fr':Frame} (h:FrR C S E fr fr') {v v':Value} (hv:VR C E v v') (ho:J6q C S fr v):FrR C S E (fr.finish v) (fr'.finish v'):=by
 obtain ⟨fn,tmps,todo,defers,mode,kind,ro⟩:=fr;obtain ⟨fn',Ju5,todo',defers',J5r,kind',ro'⟩:=fr';obtain ⟨h1,h2,h3,h4,h5,h6,h7,h8,h9,h10,h11⟩:=h;simp only at *;subst h1;cases h7 with
 | nil=>exact ⟨rfl,h2,h3,h4,h5,h6,.nil,h8,h9,h10,h11⟩
 | cons hx hl=>
  cases hx with
  | inRegion is hr=>
   cases is with
   | nil=>exact ⟨rfl,h2,h3,h4,h5,h6,.cons (.inRegion [] hr) hl,h8,h9,h10,h11⟩
   | cons i r=>exact ⟨rfl,h2,h3,h4,h5,Jf8 h6 hv _ fun x hx=>ho _ _ _ _ x rfl hx,.cons (.inRegion r (J9l hr)) hl,h8,h9,h10,h11⟩
  | inRangeFunc he=>exact ⟨rfl,h2,h3,h4,h5,h6,.cons (.endRangeFunc he) hl,h8,h9,h10,h11⟩
  | beginRound=>exact ⟨rfl,h2,h3,h4,h5,h6,hl,h8,h9,h10,h11⟩
  | code hc=>exact ⟨rfl,h2,h3,h4,h5,h6,.cons (.code hc) hl,h8,h9,h10,h11⟩
  | inBlock id=>exact ⟨rfl,h2,h3,h4,h5,h6,.cons (.inBlock id) hl,h8,h9,h10,h11⟩
  | inLoop hc=>exact ⟨rfl,h2,h3,h4,h5,h6,.cons (.inLoop hc) hl,h8,h9,h10,h11⟩
  | inScope hc=>exact ⟨rfl,h2,h3,h4,h5,h6,.cons (.inScope hc) hl,h8,h9,h10,h11⟩
  | endRangeFunc he=>exact ⟨rfl,h2,h3,h4,h5,h6,.cons (.endRangeFunc he) hl,h8,h9,h10,h11⟩
theorem Frame.J47 (fr:Frame) (v:Value):(fr.finish v).kind=fr.kind:=by
 unfold Frame.finish;split<;>first|rfl|(split<;>rfl)
theorem Frame.J8p (fr:Frame) (c:List PanicEntry):(fr.raise c).kind=fr.kind:=by unfold Frame.raise;split<;>rfl
theorem FrR.raise {fr fr':Frame} (h:FrR C S E fr fr') {c c':List PanicEntry} (hc:J1q C E c c'):FrR C S E (fr.raise c) (fr'.raise c'):=by
 obtain ⟨fn,tmps,todo,defers,mode,kind,ro⟩:=fr;obtain ⟨fn',Ju5,todo',defers',J5r,kind',ro'⟩:=fr';obtain ⟨h1,h2,h3,h4,h5,h6,h7,h8,h9,h10,h11⟩:=h;simp only at *;subst h1;cases h9 with
 | run=>exact ⟨rfl,h2,h3,h4,h5,h6,h7,h8,.panicking hc,h10,h11⟩
 | returning=>exact ⟨rfl,h2,h3,h4,h5,h6,h7,h8,.panicking hc,h10,h11⟩
 | panicking h=>exact ⟨rfl,h2,h3,h4,h5,h6,h7,h8,.panicking (hc.append h),h10,h11⟩
theorem Jil {fn:FuncId} {ops:Array Oper} {i:Nat} (hr:okD C fn ops i=true) {t tm:Array Value} (h:∀ j,(C.hl fn).contains j=true->t[j]?=tm[j]?) (v:Value) :
  ∀ j,(C.hl fn).contains j=true->(match (ops[i]?).bind (·.dst) with|some d=>t.setIfInBounds d v|none=>t)[j]?=tm[j]?:=by
 intro j hj;cases ho:ops[i]? with
 | none=>exact h j hj
 | some o=>
  cases hd:o.dst with
  | none=>simpa [hd] using h j hj
  | some d=>
   have hol:(C.hl fn).contains d=false:=by unfold okD at hr;rw [ho] at hr;simp only [Ja8] at hr;have:=hr.1;unfold Jig at this;simpa only [hd,Bool.not_eq_true'] using this
   have hne:d≠j:=fun e=>by rw [e,hj] at hol;cases hol
   simp only [Option.bind_some,hd,Ja1 hne];exact h j hj
theorem J5k.finish {fr fr':Frame} (h:J5k C S cs E fr fr') {v v':Value} (hv:VR C E v v') (ho:J6q C S fr v)
  (hd:(∃ ops i r k,fr.todo=.inRegion ops (i::r)::k)\/(∃ l k,fr.todo=.inRangeFunc l::k)\/∃ k,fr.todo=.beginRound::k):J5k C S cs E (fr.finish v) (fr'.finish v'):=by
 obtain ⟨fn,tmps,todo,defers,mode,kind,ro⟩:=fr;obtain ⟨fn',Ju5,todo',defers',J5r,kind',ro'⟩:=fr';obtain ⟨h1,h2,h3,h4,h5,h6,h7,h8,h9,h10,h11,h12,h13,h14,h15,h16,h17⟩:=h;simp only at *;subst h1;generalize e1:todo=y at h8;cases h8 with
 | code hr8 h8=>
  subst e1;cases h8 with
  | nil=>
   rcases hd with ⟨_,_,_,_,h⟩|⟨_,_,h⟩|⟨_,h⟩<;>cases h
  | cons hx hl=>
   cases hx with
   | inRegion is hr=>
    cases is with
    | nil=>rcases hd with ⟨_,_,_,_,h⟩|⟨_,_,h⟩|⟨_,h⟩<;>cases h
    | cons i r=>exact ⟨rfl,h2,h3,h4,h5,h6,Jf8 h7 hv _ fun x hx=>ho _ _ _ _ x rfl hx,.code hr8 (.cons (.inRegion r (J9l hr)) hl),h9,h10,h11,h12,h13,h14,h15,h16,Jil (Jca hr) h17 _⟩
   | inRangeFunc he=>exact ⟨rfl,h2,h3,h4,h5,h6,h7,.code hr8 (.cons (.endRangeFunc he) hl),h9,h10,h11,h12,h13,h14,h15,h16,h17⟩
   | beginRound=>exact ⟨rfl,h2,h3,h4,h5,h6,h7,.code hr8 hl,h9,h10,h11,h12,h13,h14,h15,h16,h17⟩
   | _=>rcases hd with ⟨_,_,_,_,h⟩|⟨_,_,h⟩|⟨_,h⟩<;>cases h
 | ops is hr=>
  subst e1;cases is with
  | nil=>rcases hd with ⟨_,_,_,_,h⟩|⟨_,_,h⟩|⟨_,h⟩<;>cases h
  | cons i r=>exact ⟨rfl,h2,h3,h4,h5,h6,Jf8 h7 hv _ fun x hx=>ho _ _ _ _ x rfl hx,.ops r (J9l hr),h9,h10,h11,h12,h13,h14,h15,h16,Jil (Jca hr) h17 _⟩
theorem StR.finish {fr fr':Frame} {l l':List Frame} (h:StR C S E cs (fr::l) (fr'::l')) {v v':Value} (hv:VR C E v v') (ho:J6q C S fr v)
  (hd:(∃ ops i r k,fr.todo=.inRegion ops (i::r)::k)\/(∃ l k,fr.todo=.inRangeFunc l::k)\/∃ k,fr.todo=.beginRound::k):StR C S E cs (fr.finish v::l) (fr'.finish v'::l'):=by
 cases h with
 | bot h=>exact .bot (h.finish hv ho hd)
 | cons h hl=>exact .cons (h.finish hv ho) (by rw [Frame.J47];exact hl)
theorem J5k.bad {c c':Frame} (h:J5k C S cs E c c') (ch:List PanicEntry):J9n { frame:=c.raise ch,callers:=[],status:=.running,dying:=none }:=by
 have e:c.raise ch={ c with mode:=.panicking ch }:=by unfold Frame.raise;rw [h.mode]
 rw [e];exact ⟨rfl,⟨_,rfl⟩,h.defers,rfl⟩
theorem StR.raise {fr fr':Frame} {l l':List Frame} (h:StR C S E cs (fr::l) (fr'::l')) {c c':List PanicEntry} (hc:J1q C E c c') :
  StR C S E cs (fr.raise c::l) (fr'.raise c'::l')\/J9n { frame:=fr.raise c,callers:=l,status:=.running,dying:=none }:=by
 cases h with
 | bot h=>exact .inr (h.bad c)
 | cons h hl=>exact .inl (.cons (h.raise hc) (by rw [Frame.J8p];exact hl))
theorem J2n.top {k:CallKind} {l l':List Frame} (h:J2n C S E cs k l l'):StR C S E cs l l':=by
 cases h with
 | bot h _=>exact .bot h
 | cons h _ hl=>exact .cons h hl
theorem J1q.drop {l l':List PanicEntry} (h:J1q C E l l'):J1q C E (l.dropWhile (!·.goexit)) (l'.dropWhile (!·.goexit)):=by
 induction h with
 | nil=>exact .nil
 | cons r g h hl ih=>
  cases g with
  | true=>exact .cons r true h hl
  | false=>exact ih
def back (c:Frame):Frame:=
 match c.mode with
 | .panicking ({ recovered:=true,.. }::older)=>
  match older.dropWhile (!·.goexit) with
  | []=>{ c with mode:=.returning }
  | rest=>{ c with mode:=.panicking rest }
 | _=>c
theorem Jox (c:Frame):(back c).kind=c.kind:=by
 unfold back;split
 ·split<;>rfl
 ·rfl
theorem FrR.Jau {fr fr':Frame} (h:FrR C S E fr fr') {m m':FrameMode} (hm:J77 C E m m'):FrR C S E { fr with mode:=m } { fr' with mode:=m' }:=
 ⟨h.fn,h.body,h.kind,h.kind',h.round,h.tmps,h.todo,h.defers,hm,h.hol,h.rd⟩
theorem FrR.back {fr fr':Frame} (h:FrR C S E fr fr'):FrR C S E (back fr) (back fr'):=by
 have hm:=h.mode;unfold Sim.back;generalize hm1:fr.mode=m at hm;generalize hm2:fr'.mode=m' at hm;cases hm with
 | run=>exact h
 | returning=>exact h
 | panicking hc=>
  cases hc with
  | nil=>exact h
  | cons r g hv hl=>
   cases r with
   | false=>exact h
   | true=>
    have hd:=hl.drop
    dsimp only
    generalize List.dropWhile _ _=a at hd;generalize List.dropWhile _ _=b at hd;cases hd with
    | nil=>exact h.Jau .returning
    | cons r g hv hl=>exact h.Jau (.panicking (.cons r g hv hl))
theorem J9p {k:CallKind} {callers callers':List Frame} (h:J2n C S E cs k callers callers') (hn:k=.normal\/k=.deferred) {fr fr':Frame} (hk:fr.kind=k) (hk':fr'.kind=k)
  {v v':Value} (hv:VR C E v v'):∃ c l c' l',(∀ m w,doReturn C.P m fr callers none v w=.go { frame:=c,callers:=l,status:=.running,dying:=none } w) /\
   (∀ m w,doReturn C.P m fr' callers' none v' w=.go { frame:=c',callers:=l',status:=.running,dying:=none } w)/\StR C S E cs (c::l) (c'::l'):=by
 rcases hn with rfl|rfl
 ·cases h with
  | bot h ho=>
   refine ⟨_,_,_,_,fun m w=>by simp only [doReturn,hk],fun m w=>by simp only [doReturn,hk'],.bot (h.finish hv ((ho rfl).Jik _) ?_)⟩;rcases (ho rfl).head with h|h
   ·exact .inl h
   ·exact .inr (.inl h)
  | cons h ho hl=>exact ⟨_,_,_,_,fun m w=>by simp only [doReturn,hk];rfl,fun m w=>by simp only [doReturn,hk'];rfl,.cons (h.finish hv ((ho rfl).Jik _)) (by rw [Frame.J47];exact hl)⟩
 ·cases h with
  | bot h ho=>exact ⟨_,_,_,_,fun m w=>by simp only [doReturn,hk,h.mode],fun m w=>by simp only [doReturn,hk',h.J5r],.bot h⟩
  | @cons _ f f' _ _ h ho hl=>exact ⟨back f,_,back f',_,fun m w=>by simp only [doReturn,hk];rfl,fun m w=>by simp only [doReturn,hk'];rfl,.cons h.back (by rw [Jox];exact hl)⟩
theorem Jf9 {fr fr':Frame} {callers callers':List Frame} (h:FrR C S E fr fr') (hl:J2n C S E cs fr.kind callers callers') :
  (tryRecover fr callers=none/\tryRecover fr' callers'=none) \/
   ∃ v v' l l',tryRecover fr callers=some (v,l)/\tryRecover fr' callers'=some (v',l')/\VR C E v v'/\J2n C S E cs fr.kind l l':=by
 have hk:=h.kind';rcases h.kind with e|e
 ·left;rw [e] at hk;constructor
  ·unfold tryRecover;rw [e]
  ·unfold tryRecover;rw [hk]
 ·rw [e] at hk hl;rw [e];unfold tryRecover;rw [e,hk];cases hl with
  | bot hb ho=>left;dsimp only;rw [hb.mode,hb.J5r];exact ⟨rfl,rfl⟩
  | @cons _ f f' _ _ hf ho hl=>
   dsimp only
   have hm:=hf.mode;generalize hm1:f.mode=m at hm;generalize hm2:f'.mode=m' at hm;cases hm with
   | run=>exact .inl ⟨rfl,rfl⟩
   | returning=>exact .inl ⟨rfl,rfl⟩
   | panicking hc=>
    cases hc with
    | nil=>exact .inl ⟨rfl,rfl⟩
    | cons r g hv hl2=>
     cases r with
     | true=>exact .inl ⟨rfl,rfl⟩
     | false=>
      cases g with
      | true=>exact .inl ⟨rfl,rfl⟩
      | false=>exact .inr ⟨_,_,_,_,rfl,rfl,hv,.cons (hf.Jau (.panicking (.cons true false hv hl2))) (fun x=>nomatch x) hl⟩
end
section
variable {C:Cx} {ok:FuncId->Code->Prop} {E:J5}
theorem J3.getLoop {l l':Nat} (h:E l l'):J3 C ok E (Instr.getLoop l) (Instr.getLoop l') (fun E1 r r'=>J8m C ok E1 r r'/\¬ C.Sh l):=by
 unfold Instr.getLoop;refine J3.bind' (J3.getObj h) fun E1 s1 o o' ho=>?_;obtain ⟨h3,_⟩:=ho;cases o with
 | loop r=>obtain ⟨hs,r',rfl,hr⟩:=h3;exact .pure ⟨hr,hs⟩
 | _=>exact .stuck _
theorem J3.Jfa {l l':Nat} (h:E l l') (hs:¬ C.Sh l) {r r':Loop} (hr:J8m C ok E r r'):J3 C ok E (Go.setObj l (.loop r)) (Go.setObj l' (.loop r')) (fun _ _ _=>True):=
 J3.setObj h hs ⟨hs,r',rfl,hr⟩ (by simp)
theorem J3.beginRound (hh:Hnd C E) {l l':Nat} (h:E l l'):J3 C ok E (Instr.beginRound l) (Instr.beginRound l') (fun _ _ _=>True):=by
 unfold Instr.beginRound;refine J3.bind' (J3.getLoop h) fun E1 s1 r r' hr=>?_;obtain ⟨hr,hs⟩:=hr;refine J3.bind' (J3.Jfa (s1 _ _ h) hs { hr with state:=rfl }) fun E2 s2 _ _ _=>?_;rw [<- hr.state];cases r.state with
 | ready=>exact .pure trivial
 | done=>exact J3.runtimePanic ((hh.mono s1).mono s2) _
 | busy=>exact J3.runtimePanic ((hh.mono s1).mono s2) _
 | exhausted=>exact J3.runtimePanic ((hh.mono s1).mono s2) _
theorem J3.endRound {l l':Nat} (h:E l l') (j:Option Code) (hj:∀ c,j=some c->J5y c=true):J3 C ok E (Instr.endRound l j) (Instr.endRound l' j) (VR C):=by
 unfold Instr.endRound;refine J3.bind' (J3.getLoop h) fun E1 s1 r r' hr=>?_;obtain ⟨hr,hs⟩:=hr;exact J3.bind' (J3.Jfa (s1 _ _ h) hs { hr with state:=rfl,pending:=rfl,ok3:=hj }) fun E2 s2 _ _ _=>.pure (.bool _)
theorem J3.endLoop (hh:Hnd C E) {l l':Nat} (h:E l l'):J3 C ok E (Instr.endLoop l) (Instr.endLoop l') (fun _ j j'=>j=j'/\∀ c,j=some c->J5y c=true):=by
 unfold Instr.endLoop;refine J3.bind' (J3.getLoop h) fun E1 s1 r r' hr=>?_;obtain ⟨hr,hs⟩:=hr;have fin:J3 C ok E1 (do Go.setObj l (.loop { r with state:=.exhausted });Pure.pure r.pending) (do Go.setObj l' (.loop { r' with state:=.exhausted });Pure.pure r'.pending) (fun _ j j'=>j=j'/\∀ c,j=some c->J5y c=true):=
  J3.bind' (J3.Jfa (s1 _ _ h) hs { hr with state:=rfl }) fun E2 s2 _ _ _=>.pure ⟨hr.pending,hr.ok3⟩
 rw [<- hr.state];by_cases hb:(r.state == .busy)=true
 ·simp only [hb,if_true];exact J3.bind' (R:=fun _ _ _=>False) (J3.runtimePanic (hh.mono s1) _) fun _ _ _ _ h=>h.elim
 ·simp only [hb,if_false,Jc1];exact fin
theorem J3.takeDeferred {l l':Nat} (h:E l l'):J3 C ok E (Instr.takeDeferred l) (Instr.takeDeferred l') (J0x C):=by
 unfold Instr.takeDeferred;refine J3.bind' (J3.getObj h) fun E1 s1 o o' ho=>?_;obtain ⟨h3,_⟩:=ho;cases o with
 | deferred ds=>
  obtain ⟨hs,ds',rfl,hr⟩:=h3;cases ds with
  | none=>exact .stuck _
  | some ds=>
   cases ds' with
   | none=>exact hr.elim
   | some ds'=>exact J3.bind' (J3.setObj (s1 _ _ h) hs ⟨hs,none,rfl,trivial⟩ (by simp)) fun E2 s2 _ _ _=>.pure (J0x.mono s2 hr)
 | _=>exact .stuck _
theorem J3.enterLoop (hh:Hnd C E) (fn:FuncId) {t t':Array Value} (ht:HR C E fn t t') (ps:Array Tmp) {aS bd:Code} (h1:ok fn aS) (h2:ok fn bd) (hst:C.st=false) {a a':Option Nat} (ha:J0m E a a') :
  J3 C ok E (Instr.enterLoop fn t ps aS bd a) (Instr.enterLoop fn t' ps aS bd a') (fun E1 x x'=>E1 x.1 x'.1/\J0x C E1 x.2 x'.2):=by
 unfold Instr.enterLoop;have fin:∀ E1,Sub E E1->∀ (d d':Nat) (m m':List Deferred),E1 d d'->J0x C E1 m m'->J3 C ok E1
   (do Pure.pure (<- Go.newObj (.loop { state:=.ready,pending:=none,fn,tmps:=t,params:=ps,assign:=aS,body:=bd,defers:=d }),m))
   (do Pure.pure (<- Go.newObj (.loop { state:=.ready,pending:=none,fn,tmps:=t',params:=ps,assign:=aS,body:=bd,defers:=d' }),m'))
   (fun E1 x x'=>E1 x.1 x'.1/\J0x C E1 x.2 x'.2):=fun E1 s1 d d' m m' hd hm=>
  J3.bind' (J3.newObj (hh.mono s1) fun b hb=>⟨hb,_,rfl,⟨rfl,rfl,rfl,ht.mono s1,rfl,rfl,rfl,hd,h1,h2,(fun c hc=>by cases hc),hst⟩⟩) fun E2 s2 r r' hr=>.pure ⟨hr.1,hm.mono s2⟩
 cases a with
 | none=>
  cases a' with
  | some _=>exact ha.elim
  | none=>
   dsimp only
   refine J3.bind' (J3.newObj (o:=.deferred (some [])) (o':=.deferred (some [])) hh fun b hb=>⟨hb,some [],rfl,.nil⟩) fun E1 s1 r r' hr=>?_;refine J3.bind' (R:=fun E1 (x x':Nat × List Deferred)=>E1 x.1 x'.1/\J0x C E1 x.2 x'.2) (.pure ⟨hr.1,.cons ⟨.collected hr.1,.nil,fun f c e=>by cases e⟩ .nil⟩) fun E2 s2 x x' hx=>?_;exact fin E2 (s1.trans s2) _ _ _ _ hx.1 hx.2
 | some l=>
  cases a' with
  | none=>exact ha.elim
  | some l'=>
   dsimp only
   refine J3.bind' (J3.getLoop ha) fun E1 s1 r r' hr=>?_;refine J3.bind' (R:=fun E1 (x x':Nat × List Deferred)=>E1 x.1 x'.1/\J0x C E1 x.2 x'.2) (.pure ⟨hr.1.defers,.nil⟩) fun E2 s2 x x' hx=>?_;exact fin E2 (s1.trans s2) _ _ _ _ hx.1 hx.2
end
def J3k (P:Program) (main:Bool) (fr:Frame) (callers:List Frame) (dying:Option Dying) (w:World) (jump:Option Code):GStep:=
 match fr.roundOf with
 | none=>if jump matches none|some .ret then .go { frame:={ fr with mode:=.returning },callers,status:=.running,dying } w else .ended (.stuck "exit, goto: no such block or label" (fr.pos P)) w
 | some l=>
  let (r,es):=(Instr.endRound l jump).runT P w #[]
  GStep.after (seen P fr.fn es) <| match r with
  | .ok v w=>doReturn P main fr callers dying v w
  | .halt _ w=>.ended (.stuck "range over a function: no such loop" (fr.pos P)) w
section
variable {P:Program} {main:Bool} {fr:Frame} {callers:List Frame} {dying:Option Dying} {w:World}
theorem Jim (h:fr.todo=[]):stepG.exec P main true fr callers dying w=J3k P main fr callers dying w none:=by obtain ⟨fn,tmps,todo,defers,mode,kind,ro⟩:=fr;obtain rfl:todo=[]:=h;cases ro<;>rfl
theorem Jin {k} (h:fr.todo=.code .ret::k):stepG.exec P main true fr callers dying w=J3k P main fr callers dying w (some .ret):=by obtain ⟨fn,tmps,todo,defers,mode,kind,ro⟩:=fr;obtain rfl:todo=_:=h;cases ro<;>rfl
theorem Jg2 {id k} (h:fr.todo=.code (.exit id)::k):stepG.exec P main true fr callers dying w =
  (exitTo id k).elim (J3k P main fr callers dying w (some (.exit id))) fun t=>.go { frame:={ fr with todo:=t },callers,status:=.running,dying } w:=by
 obtain ⟨fn,tmps,todo,defers,mode,kind,ro⟩:=fr;obtain rfl:todo=_:=h;unfold stepG.exec
 dsimp only
 cases exitTo id k<;>cases ro<;>rfl
theorem Jg3 {l k} (h:fr.todo=.code (.goto l)::k):stepG.exec P main true fr callers dying w =
  (gotoIn l k).elim (J3k P main fr callers dying w (some (.goto l))) fun t=>.go { frame:={ fr with todo:=t },callers,status:=.running,dying } w:=by
 obtain ⟨fn,tmps,todo,defers,mode,kind,ro⟩:=fr;obtain rfl:todo=_:=h;unfold stepG.exec
 dsimp only
 cases gotoIn l k<;>cases ro<;>rfl
end
section
variable {C:Cx} {S:Kn} {E:J5} {cs:Bot}
inductive J40 (C:Cx) (S:Kn) (E:J5) (cs:Bot):Frame->List Frame->Frame->List Frame->Prop
 | fr {f f' l l'} (h:FrR C S E f f') (hl:J2n C S E cs f.kind l l'):J40 C S E cs f l f' l'
 | bot {f f'} (h:J5k C S cs E f f'):J40 C S E cs f [] f' cs.cs
theorem J40.st {f f':Frame} {l l':List Frame} (h:J40 C S E cs f l f' l'):StR C S E cs (f::l) (f'::l'):=by
 cases h with
 | fr h hl=>exact .cons h hl
 | bot h=>exact .bot h
theorem StR.topR {f f':Frame} {l l':List Frame} (h:StR C S E cs (f::l) (f'::l')):J40 C S E cs f l f' l':=by
 cases h with
 | bot h=>exact .bot h
 | cons h hl=>exact .fr h hl
theorem J40.fn {f f':Frame} {l l':List Frame} (h:J40 C S E cs f l f' l'):f'.fn=f.fn:=by
 cases h with
 | fr h hl=>exact h.fn
 | bot h=>exact h.fn
theorem J40.tmps {f f':Frame} {l l':List Frame} (h:J40 C S E cs f l f' l'):TmR C S f.fn E f.tmps f'.tmps:=by
 cases h with
 | fr h hl=>exact h.tmps
 | bot h=>exact h.tmps
theorem J40.round {f f':Frame} {l l':List Frame} (h:J40 C S E cs f l f' l'):J0m E f.roundOf f'.roundOf:=by
 cases h with
 | fr h hl=>exact h.round
 | bot h=>rw [h.round,h.round'];trivial
inductive Ju6 (C:Cx) (S:Kn) (E:J5) (cs:Bot) (f:Frame) (l:List Frame) (f':Frame) (l':List Frame):List Item->List Item->List Item->List Item->Prop
 | mk {y y' s k} (h1:f.todo=y++s) (h2:f'.todo=y'++k) (hi:J10 C S f.fn E y y') (hk:(s=[]/\k=[]/\FrR C S E f f'/\J2n C S E cs f.kind l l')\/(s=[Jt]/\l=[]/\J5k C S cs E f f'))
   (re:∀ (E1:J5) (z z':List Item),Sub E E1->J10 C S f.fn E1 z z'->StR C S E1 cs ({ f with todo:=z++s }::l) ({ f' with todo:=z'++k }::l')) :
   Ju6 C S E cs f l f' l' y y' s k
theorem J40.part {f f':Frame} {l l':List Frame} (h:J40 C S E cs f l f' l') :
  (∃ y y' s k,Ju6 C S E cs f l f' l' y y' s k)\/∃ ops is rest k,f.todo=[.inRegion ops is,Jt]/\f'.todo=.inRegion ops (is++rest)::k/\J2u C S f.fn ops is=true/\J5k C S cs E f f'/\l=[]/\l'=cs.cs:=by
 cases h with
 | fr h hl=>
  refine .inl ⟨f.todo,f'.todo,[],[],.mk (by simp) (by simp) h.todo (.inl ⟨rfl,rfl,h,hl⟩) fun E1 z z' s hz=>?_⟩;have:=h.mono s;rw [List.append_nil,List.append_nil];exact .cons ⟨this.fn,this.body,this.kind,this.kind',this.round,this.tmps,hz,this.defers,this.mode,this.hol,this.rd⟩ (hl.mono s)
 | bot h=>
  have ht:=h.todo;generalize e1:f.todo=y at ht;generalize e2:f'.todo=x at ht;cases ht with
  | code hr0 hi=>
   refine .inl ⟨_,_,_,cs.k,.mk e1 e2 hi (.inr ⟨rfl,rfl,h⟩) fun E1 z z' s hz=>.bot ?_⟩;have:=h.mono s;exact { this with todo:=.code hr0 hz }
  | ops is hr=>exact .inr ⟨_,is,cs.rest,cs.k,rfl,rfl,hr,h,rfl,rfl⟩
theorem J01.same {g g':Goroutine} {L:Option Nat} {w w':World} (hw:WT C (okP C S) E L w w') (hg:GR C S E cs g g'):J01 C S E cs L w w' (.go g w) (.go g' w'):=
 .good hw (.refl ..) hg fun e he=>by simp at he
theorem J50 {f f':Frame} {l l':List Frame} (h:StR C S E cs (f::l) (f'::l')) :
  GR C S E cs { frame:=f,callers:=l,status:=.running,dying:=none } { frame:=f',callers:=l',status:=.running,dying:=none }:=⟨h,rfl,rfl,rfl,rfl,rfl⟩
theorem J01.Joy {L:Option Nat} {w w' w2 w2':World} {r r':GStep} (h:J01 C S E cs L w2 w2' r r') (hg:Grow C E E w w' w2 w2') (hold:∀ b,C.Sh b->b<w.heap.size):J01 C S E cs L w w' r r':=by
 rcases h with h|h|⟨g1,w1,es,h1,h2,h3,h4⟩
 ·exact .inl h
 ·exact .inr (.inl h)
 ·refine .inr (.inr ⟨g1,w1,es,h1,h2,h3,?_⟩);rcases h4 with hb|⟨E1,g1',w1',es',k1,k2,k3,k4,k5⟩
  ·exact .inl hb
  ·exact .inr ⟨E1,g1',w1',es',k1,k2,hg.trans hold k3,k4,k5⟩
theorem of_run {α α':Type} {s:Sem α} {s':Sem α'} {R:J5->α->α'->Prop} {L:Option Nat} {w w':World} (hw:WT C (okP C S) E L w w') (hs:J3 C (okP C S) E s s' R) {fn fn':FuncId}
  {f:Result α->GStep} {f':Result α'->GStep}
  (hok:∀ E1 a a' w1 w1',Sub E E1->R E1 a a'->WT C (okP C S) E1 L w1 w1'->J01 C S E1 cs L w1 w1' (f (.ok a w1)) (f' (.ok a' w1')))
  (hpan:∀ E1 v v' w1 w1',Sub E E1->VR C E1 v v'->WT C (okP C S) E1 L w1 w1'->J01 C S E1 cs L w1 w1' (f (.halt (.panic v) w1)) (f' (.halt (.panic v') w1')))
  (hh:∀ x w1,Dead x->∃ o w es,f (.halt x w1)=.ended o w es)
  (hm:∀ r g1 w1 es,f' r=.go g1 w1 es->g1.dying=none->r.left.drawn<=w1.drawn) :
  J01 C S E cs L w w' (GStep.after (seen C.P fn (s.runT C.P w #[]).2) (f (s.runT C.P w #[]).1)) (GStep.after (seen C.P fn' (s'.runT C.P w' #[]).2) (f' (s'.runT C.P w' #[]).1)):=by
 rcases hs L w w' hw with ⟨lim,hL,ho⟩|h
 ·refine .inl ⟨lim,hL,fun g1 w1 es hgo hd=>?_⟩;obtain ⟨e2,hgo⟩:=J34 hgo;simp only [Sem.runT_eq] at hgo;exact Jb7 ho (hm _ _ _ _ hgo hd)
 simp only [Sem.runT_eq];have fin:∀ (E1:J5) (w2 w2':World) (r r':GStep) (es:Array Event),Grow C E E1 w w' w2 w2'->J01 C S E1 cs L w2 w2' r r'->(∀ e∈s'.events C.P w' #[],J3h C E1 e) ->
   J01 C S E cs L w w' (GStep.after es r) (GStep.after (seen C.P fn' (#[]++s'.events C.P w' #[])) r'):=by
  intro E1 w2 w2' r r' es hgrow hone hev;rcases hone with ⟨lim,hL,ho⟩|⟨o,w1,es1,rfl⟩|⟨g1,w1,es1,rfl,h2,h3,h4⟩
  ·refine .inl ⟨lim,hL,fun g1 w1 es hgo hd=>?_⟩;obtain ⟨e2,hgo⟩:=J34 hgo;exact ho _ _ _ hgo hd
  ·exact .J26
  ·refine .inr (.inr ⟨g1,w1,es++es1,rfl,h2,h3,?_⟩);rcases h4 with hb|⟨E2,g1',w1',es',k1,k2,k3,k4,k5⟩
   ·exact .inl hb
   ·refine .inr ⟨E2,g1',w1',seen C.P fn' (#[]++s'.events C.P w' #[])++es',by rw [k1];rfl,k2,hgrow.trans hw.old k3,k4,fun e he=>?_⟩;rcases Array.mem_append.1 he with he|he
    ·have:=J4m he;rw [Array.empty_append] at this;exact (hev e this).mono k3.sub
    ·exact k5 e he
 simp only [Array.empty_append] at fin ⊢;cases hr:s.run C.P w with
 | ok a w2=>
  rw [hr] at h;obtain ⟨E1,a',w2',e1,e2,e3,e4,e5⟩:=h;rw [e1];exact fin E1 w2 w2' _ _ _ e3 (hok E1 a a' w2 w2' e3.sub e4 e2) e5
 | halt x w2=>
  rw [hr] at h;cases x with
  | panic v=>
   obtain ⟨E1,v',w2',e1,e2,e3,e4,e5⟩:=h;rw [e1];exact fin E1 w2 w2' _ _ _ e3 (hpan E1 v v' w2 w2' e3.sub e4 e2) e5
  | _=>
   obtain ⟨o,w3,es3,e⟩:=hh _ w2 h;rw [e];exact .J26
theorem J83 {P:Program} {main:Bool} {fr:Frame} {callers:List Frame} {v:Value} {w w1:World} {g1:Goroutine} {es:Array Event} (h:doReturn P main fr callers none v w=.go g1 w1 es):w1=w:=by
 unfold doReturn at h
 dsimp only at h
 repeat' split at h
 all_goals first|(cases h;rfl)|cases h
theorem Joz {f f':Frame} {l l':List Frame} {main main':Bool} {L:Option Nat} {w w':World} (hw:WT C (okP C S) E L w w') (h:J40 C S E cs f l f' l') (hm:f.mode=.run) (j:Option Code)
  (hj:∀ c,j=some c->J5y c=true) (k':f.roundOf=none->l=[]->f'.roundOf=none) :
  J01 C S E cs L w w' (J3k C.P main f l none w j) (J3k C.P main' f' l' none w' j):=by
 unfold J3k;have hr:=h.round;cases hro:f.roundOf with
 | none=>
  rw [hro] at hr;have J9q:f'.roundOf=none:=by cases e:f'.roundOf<;>rw [e] at hr<;>first|rfl|exact hr.elim
  rw [J9q]
  dsimp only
  have fin:J01 C S E cs L w w' (.go { frame:={ f with mode:=.returning },callers:=l,status:=.running,dying:=none } w) (.go { frame:={ f' with mode:=.returning },callers:=l',status:=.running,dying:=none } w'):=by
   cases h with
   | fr h hl=>exact J01.same hw (J50 (.cons (h.Jau .returning) hl))
   | bot h=>
    exact .inr (.inr ⟨_,_,_,rfl,rfl,rfl,.inr ⟨E,_,_,_,rfl,hw,.refl ..,.inr ⟨rfl,rfl,h.fn,rfl,rfl,h.tmps,h.defers,rfl,rfl,rfl,rfl,rfl,h.kind2,h.dfr,h.round',h.fn2,h.hold⟩,fun e he=>by simp at he⟩⟩)
  rw [hro,J9q] at fin;split
  ·simp only [if_true];exact fin
  ·simp only [if_true];exact fin
  ·simp only [Jc1,if_false];exact J01.J26
 | some lp=>
  rw [hro] at hr;obtain ⟨lp',J9q,hlp⟩:∃ lp',f'.roundOf=some lp'/\E lp lp':=by
   cases e:f'.roundOf<;>rw [e] at hr
   ·exact hr.elim
   ·exact ⟨_,rfl,hr⟩
  rw [J9q]
  dsimp only
  cases h with
  | bot h=>rw [h.round] at hro;cases hro
  | fr h hl=>
   refine of_run (f:=fun r=>match r with | .ok v w=>doReturn C.P main f l none v w | .halt _ w=>.ended (.stuck "range over a function: no such loop" (f.pos C.P)) w)
    (f':=fun r=>match r with | .ok v w=>doReturn C.P main' f' l' none v w | .halt _ w=>.ended (.stuck "range over a function: no such loop" (f'.pos C.P)) w) hw (J3.endRound hlp j hj) ?_ ?_ ?_ ?_
   ·intro E1 v v' w1 w1' s hv hw1;obtain ⟨c,l1,c',l1',e1,e2,e3⟩:=J9p (hl.mono s) h.kind (fr:=f) (fr':=f') rfl h.kind' hv
    dsimp only
    rw [e1,e2];exact J01.same hw1 (J50 e3)
   ·intro E1 v v' w1 w1' s hv hw1;exact J01.J26
   ·intro x w1 _;exact ⟨_,_,_,rfl⟩
   ·intro r g1 w1 es h _;cases r with
    | ok v w=>rw [J83 h];exact Ja2 _
    | halt x w=>cases h
end
section
variable {P:Program} {main:Bool} {fr:Frame} {callers:List Frame} {dying:Option Dying} {w:World}
def toG (fr:Frame) (callers:List Frame) (dying:Option Dying) (w:World) (todo:List Item):GStep:=.go { frame:={ fr with todo },callers,status:=.running,dying } w
theorem Jg4 {k} (h:fr.todo=.code .skip::k):stepG.exec P main true fr callers dying w=toG fr callers dying w k:=by obtain ⟨fn,tmps,todo,defers,mode,kind,ro⟩:=fr;obtain rfl:todo=_:=h;rfl
theorem Jcw {l k} (h:fr.todo=.code (.label l)::k):stepG.exec P main true fr callers dying w=toG fr callers dying w k:=by obtain ⟨fn,tmps,todo,defers,mode,kind,ro⟩:=fr;obtain rfl:todo=_:=h;rfl
theorem J9r {l k} (h:fr.todo=.inBlock l::k):stepG.exec P main true fr callers dying w=toG fr callers dying w k:=by obtain ⟨fn,tmps,todo,defers,mode,kind,ro⟩:=fr;obtain rfl:todo=_:=h;rfl
theorem J9s {l k} (h:fr.todo=.inScope l::k):stepG.exec P main true fr callers dying w=toG fr callers dying w k:=by obtain ⟨fn,tmps,todo,defers,mode,kind,ro⟩:=fr;obtain rfl:todo=_:=h;rfl
theorem Jio {a b k} (h:fr.todo=.code (.seq a b)::k):stepG.exec P main true fr callers dying w=toG fr callers dying w (.code a::.code b::k):=by obtain ⟨fn,tmps,todo,defers,mode,kind,ro⟩:=fr;obtain rfl:todo=_:=h;rfl
theorem Jcx {i b k} (h:fr.todo=.code (.block i b)::k):stepG.exec P main true fr callers dying w=toG fr callers dying w (.code b::.inBlock i::k):=by obtain ⟨fn,tmps,todo,defers,mode,kind,ro⟩:=fr;obtain rfl:todo=_:=h;rfl
theorem Jg5 {b k} (h:fr.todo=.code (.loop b)::k):stepG.exec P main true fr callers dying w=toG fr callers dying w (.code b::.inLoop b::k):=by obtain ⟨fn,tmps,todo,defers,mode,kind,ro⟩:=fr;obtain rfl:todo=_:=h;rfl
theorem Jbo {b k} (h:fr.todo=.inLoop b::k):stepG.exec P main true fr callers dying w=toG fr callers dying w (.code b::.inLoop b::k):=by obtain ⟨fn,tmps,todo,defers,mode,kind,ro⟩:=fr;obtain rfl:todo=_:=h;rfl
theorem Jcy {b k} (h:fr.todo=.code (.scope b)::k):stepG.exec P main true fr callers dying w=toG fr callers dying w (.code b::.inScope b::k):=by obtain ⟨fn,tmps,todo,defers,mode,kind,ro⟩:=fr;obtain rfl:todo=_:=h;rfl
theorem J2v {ops k} (h:fr.todo=.inRegion ops []::k):stepG.exec P main true fr callers dying w=toG fr callers dying w k:=by obtain ⟨fn,tmps,todo,defers,mode,kind,ro⟩:=fr;obtain rfl:todo=_:=h;rfl
theorem Jg6 {c a b k} (h:fr.todo=.code (.cond c a b)::k):stepG.exec P main true fr callers dying w =
  match fr.eval c with
  | .bool x=>toG fr callers dying w (.code (if x then a else b)::k)
  | _=>.ended (.stuck "cond: bool expected" (fr.pos P)) w:=by
 obtain ⟨fn,tmps,todo,defers,mode,kind,ro⟩:=fr;obtain rfl:todo=_:=h;rfl
theorem Jbp {id ops d k} (h:fr.todo=.code (.region id ops d)::k):stepG.exec P main true fr callers dying w =
  if !d then toG fr callers dying w (.inRegion ops (List.range ops.size)::k)
  else match (choose (.order fr.fn id)).run P w with
   | .ok t w=>toG fr callers dying w (.inRegion ops (Region.schedule (P.follows .mixedOrders) ops t)::k)
   | .halt _ w=>.ended (.stuck "order" (fr.pos P)) w:=by
 obtain ⟨fn,tmps,todo,defers,mode,kind,ro⟩:=fr;obtain rfl:todo=_:=h;cases d<;>rfl
theorem J48 {y k} (h:fr.todo=.code (.refuse y)::k):stepG.exec P main true fr callers dying w=.ended (.unsupported (Unsupported.elab y) (fr.pos P)) w:=by obtain ⟨fn,tmps,todo,defers,mode,kind,ro⟩:=fr;obtain rfl:todo=_:=h;rfl
theorem Jcb {l k} (h:fr.todo=.inRangeFunc l::k):stepG.exec P main true fr callers dying w=.ended (.unsupported (.noEntry "a range function without a Go body that blocks") (fr.pos P)) w:=by obtain ⟨fn,tmps,todo,defers,mode,kind,ro⟩:=fr;obtain rfl:todo=_:=h;rfl
theorem Jl3 {ops i r k} (h:fr.todo=.inRegion ops (i::r)::k):stepG.exec P main true fr callers dying w =
  if ((ops[i]?).map (Region.wanted · (yielded ops fr.tmps))).getD false then stepG.oper P true fr callers dying w else .go { frame:=fr.finish undef,callers,status:=.running,dying } w:=by
 obtain ⟨fn,tmps,todo,defers,mode,kind,ro⟩:=fr;obtain rfl:todo=_:=h;rfl
theorem J78 {k} (h:fr.todo=.beginRound::k):stepG.exec P main true fr callers dying w =
  stepG.apply P true fr callers dying (do fr.roundOf.elim (stuck "beginRound: no round") Instr.beginRound;pure .skip) w:=by
 obtain ⟨fn,tmps,todo,defers,mode,kind,ro⟩:=fr;obtain rfl:todo=_:=h;rfl
theorem J6e {l k} (h:fr.todo=.endRangeFunc l::k):stepG.exec P main true fr callers dying w =
  GStep.after (seen P fr.fn ((Instr.endLoop l).runT P w #[]).2) (match ((Instr.endLoop l).runT P w #[]).1 with
   | .ok jump w=>toG fr callers dying w ((jump.map Item.code).toList++k)
   | .halt (.panic v) w=>.go { frame:=fr.raise [{ v,recovered:=false }],callers,status:=.running,dying } w
   | .halt _ w=>.ended (.stuck "range over a function: no such loop" (fr.pos P)) w):=by
 obtain ⟨fn,tmps,todo,defers,mode,kind,ro⟩:=fr;obtain rfl:todo=_:=h;rfl
theorem J84 {f ps aS bd k} (h:fr.todo=.code (.rangeFunc f ps aS bd)::k):stepG.exec P main true fr callers dying w =
  GStep.after (seen P fr.fn ((Instr.enterLoop fr.fn fr.tmps ps aS bd fr.roundOf).runT P w #[]).2) (match ((Instr.enterLoop fr.fn fr.tmps ps aS bd fr.roundOf).runT P w #[]).1 with
   | .ok (l,mark) w=>
    stepG.apply P true { fr with todo:=.inRangeFunc l::k,defers:=mark++fr.defers } callers dying (do let d <- resolve fr.eval { callee:=.value f,args:=#[.const (.func (.yield l) #[] #[])],argTypes:=#[] } 0;invoke d.target d.args) w
   | .halt _ w=>.ended (.stuck "range over a function: no such loop" (fr.pos P)) w):=by
 obtain ⟨fn,tmps,todo,defers,mode,kind,ro⟩:=fr;obtain rfl:todo=_:=h;rfl
theorem Jav {ops i r k o} (h:fr.todo=.inRegion ops (i::r)::k) (ho:ops[i]?=some o) (hd:(∀ c,o.op≠.defer c)\/fr.roundOf=none) :
  stepG.oper P true fr callers dying w=stepG.apply P true fr callers dying (execOp fr.eval o) w:=by
 obtain ⟨fn,tmps,todo,defers,mode,kind,ro⟩:=fr;obtain rfl:todo=_:=h;unfold stepG.oper;have e:Frame.oper? { fn,tmps,todo:=.inRegion ops (i::r)::k,defers,mode,kind,roundOf:=ro }=some o:=ho;rw [e]
 dsimp only
 rcases hd with hd|hd
 ·split
  ·rename_i c hc;exact absurd hc (hd c)
  ·rfl
 ·obtain rfl:ro=none:=hd;rfl
end
section
variable {C:Cx} {S:Kn} {E:J5} {cs:Bot}
theorem Jp0 {fn:FuncId} {ops:Array Oper} {i:Nat} {o:Oper} (ho:ops[i]?=some o) (hr:okD C fn ops i=true) {t t':Array Value} (ht:TmR C S fn E t t'):Region.wanted o (yielded ops t')=Region.wanted o (yielded ops t):=by
 unfold okD at hr;rw [ho] at hr;simp only [Ja8] at hr;have hr:=hr.2;unfold Region.wanted;cases hg:o.guard with
 | none=>rfl
 | some p=>
  obtain ⟨j,want⟩:=p;rw [hg] at hr;simp only at hr ⊢
  suffices h:yielded ops t' j=yielded ops t j by rw [h]
  unfold yielded;cases hj:ops[j]? with
  | none=>rfl
  | some o=>
   rw [hj] at hr;cases hd:o.dst with
   | none=>simp [hd]
   | some d=>
    have hol:(C.hl fn).contains d=false:=by unfold Jig at hr;simp only [Option.bind_some,hd] at hr;simpa only [Bool.not_eq_true'] using hr
    simp only [Option.bind_some,hd];cases h1:t[d]? with
    | none=>
     have:t'[d]?=none:=by rw [Jd7] at *;rw [<- ht.size];exact h1
     rw [this]
    | some x=>
     have hlt:d<t'.size:=by rw [<- ht.size];exact (Ja3.1 h1).1
     have h2:t'[d]?=some t'[d]:=Ja4 hlt;have hv:=ht.at_ d x _ hol h1 h2;rw [h2];generalize t'[d]=y at hv;cases hv<;>rfl
theorem J85 {fn:FuncId} {o:Op} (h:J2m C S fn o=true) (c:Call):o≠.defer c:=by rintro rfl;cases h
theorem Hnd.of_sub {E1:J5} (h:Hnd C E) (s:Sub E E1):Hnd C E1:=h.mono s
theorem Jkc {f f':Frame} {l l':List Frame} {s s':Sem Next} {L:Option Nat} {w w':World} (hw:WT C (okP C S) E L w w')
  (hs:J3 C (okP C S) E s s' (fun E1 n n'=>(∃ d d',n=.defer d/\n'=.defer d'/\Jbw C E1 d d')\/(n=.recover/\n'=.recover)))
  (h:FrR C S E f f') (hl:J2n C S E cs f.kind l l') (hro:f.roundOf=none) (hown:S.own f.fn=[]) :
  J01 C S E cs L w w' (stepG.apply C.P true f l none s w) (stepG.apply C.P true f' l' none s' w'):=by
 have ho:∀ v,J6q C S f v:=fun v ops i r k d _ _ h=>by rw [hown] at h;simp at h
 have J9q:f'.roundOf=none:=by
  have:=h.round;rw [hro] at this;cases e:f'.roundOf<;>rw [e] at this<;>first|rfl|exact this.elim
 rcases hs L w w' hw with ⟨lim,hL,hv⟩|hh
 ·exact .inl ⟨lim,hL,fun g1 w1 es hgo hd=>Jb7 hv (J8o hgo hd)⟩
 unfold stepG.apply;simp only [Sem.runT_eq,if_true];cases hr:s.run C.P w with
 | ok n w2=>
  rw [hr] at hh;obtain ⟨E1,n',w2',e1,e2,e3,e4,e6⟩:=hh;rw [e1];have hes:∀ e,e∈(seen C.P f'.fn (if f'.kind == .early then #[] else s'.events C.P w' #[])++#[])->J3h C E1 e:=fun e he=>by
   rw [Array.append_empty] at he;have:=J4m he;split at this
   ·simp at this
   ·exact e6 e this
  have hm:=h.mono e3.sub;have hlm:=hl.mono e3.sub;rcases e4 with ⟨d,d',rfl,rfl,hd⟩|⟨rfl,rfl⟩
  ·refine .good e2 e3 ⟨.cons (FrR.finish (fr:={ f with defers:=d::f.defers }) (fr':={ f' with defers:=d'::f'.defers }) ?_ .undef (ho _)) ?_,rfl,rfl,rfl,rfl,rfl⟩ hes
   ·exact ⟨hm.fn,hm.body,hm.kind,hm.kind',hm.round,hm.tmps,hm.todo,.cons hd hm.defers,hm.mode,hm.hol,hm.rd⟩
   ·rw [Frame.J47];exact hlm
  ·dsimp only
   rw [hro,J9q]
   dsimp only
   rcases Jf9 hm hlm with ⟨k1,k2⟩|⟨v,v',m,m',k1,k2,k3,k4⟩
   ·rw [k1,k2];exact .good e2 e3 ⟨.cons (hm.finish .nilIface (ho _)) (by rw [Frame.J47];exact hlm),rfl,rfl,rfl,rfl,rfl⟩ hes
   ·rw [k1,k2];exact .good e2 e3 ⟨.cons (hm.finish k3 (ho _)) (by rw [Frame.J47];exact k4),rfl,rfl,rfl,rfl,rfl⟩ hes
 | halt x w2=>
  rw [hr] at hh;cases x with
  | panic v=>
   obtain ⟨E1,v',w2',e1,e2,e3,e4,e6⟩:=hh;rw [e1];refine .good e2 e3 ⟨.cons ((h.mono e3.sub).raise (.cons false false e4 .nil)) (by rw [Frame.J8p];exact hl.mono e3.sub),rfl,rfl,rfl,rfl,rfl⟩ fun e he=>?_;rw [Array.append_empty] at he;have:=J4m he;split at this
   ·simp at this
   ·exact e6 e this
  | goexit=>exact absurd rfl hh.2.1
  | blocked=>exact absurd rfl hh.2.2.2.2.2.1
  | waiting=>exact absurd rfl hh.2.2.2.2.2.2
  | exit c=>exact .J26
  | fatal m=>exact absurd rfl (hh.2.2.2.2.1 m)
  | throw m=>exact absurd rfl (hh.2.2.2.1 m)
  | stuck s=>exact .J26
  | unsupported u=>
   cases u with
   | initOrder g=>exact absurd rfl (hh.2.2.1 g)
   | _=>exact .J26
theorem Jp1 (A:J1d C S) (hh:Hnd C E) (hg:∀ g,S.gs.contains g=true->E g g) {f f':Frame} {l l':List Frame} {L:Option Nat} {w w':World} (hw:WT C (okP C S) E L w w') (h:J40 C S E cs f l f' l')
  {ops:Array Oper} {i:Nat} {r r':List Nat} {k k':List Item} (h1:f.todo=.inRegion ops (i::r)::k) (h2:f'.todo=.inRegion ops (i::r')::k') (hr:J2u C S f.fn ops (i::r)=true) {main main':Bool} :
  J01 C S E cs L w w' (stepG.exec C.P main true f l none w) (stepG.exec C.P main' true f' l' none w'):=by
 rw [Jl3 h1,Jl3 h2];cases ho:ops[i]? with
 | none=>
  simp only [Option.map_none,Option.getD_none,Jc1,if_false];refine J01.same hw (J50 (h.st.finish .undef (fun _ _ _ _ _ _ _ _=>J37.undef) (.inl ⟨_,_,_,_,h1⟩)))
 | some o=>
  simp only [Option.map_some,Ja6,Jp0 ho (Jca hr) h.tmps];by_cases hwt:Region.wanted o (yielded ops f.tmps)=true
  ·simp only [hwt,if_true];have hev:EvR C S f.fn E f.eval f'.eval:=EvR.Jm8 h.tmps hg;rcases Jvf hr ho with hk|hk
   ·have hk1:J2m C S f.fn o.op=true:=by simp only [J81,Ja8] at hk;exact hk.1
    rw [Jav h1 ho (.inl (J85 hk1)),Jav h2 ho (.inl (J85 hk1))];have key:∀ v,(Jif C S f.fn o (.value v)\/v=undef)->J6q C S f v:=by
     intro v hv ops' i' r'' k'' d e1 e2 e3;rw [h1] at e1;cases e1;rw [ho] at e2;rcases hv with hv|rfl
     ·obtain ⟨v',hv',hv2⟩:=hv d e2 e3;cases hv';exact hv2
     ·exact J37.undef
    refine J9o A hw (J3.execOp' A.kn hh hev o hk) (fun d r v k e=>by rw [h1] at e;cases e) (fun d r v k e=>by rw [h2] at e;cases e) h.st ?_ ?_ ?_
    ·intro n hq hn;refine ⟨fun ops' i' r'' k'' d e1 e2=>?_,.inl ⟨_,_,_,_,h1⟩⟩;rw [h1] at e1;cases e1;rw [ho] at e2;cases hc:(S.own f.fn).contains d with
     | false=>rfl
     | true=>
      obtain ⟨v,rfl,_⟩:=hq d e2 hc;rcases hn with ⟨_,_,hn⟩|⟨_,_,_,_,_,hn⟩<;>cases hn
    ·exact fun E1 v v' s hv hq=>(h.st.mono s).finish hv (key v hq) (.inl ⟨_,_,_,_,h1⟩)
    ·exact fun E1 c c' s hc=>(h.st.mono s).raise hc
   ·have hk':=hk;simp only [J6o,Ja8] at hk;have hown:S.own f.fn=[]:=by simpa using hk.1.2
    cases h with
    | bot h=>rw [h.nodf] at hk;simp at hk
    | fr h hl=>
     have hro:f.roundOf=none:=by
      cases e:f.roundOf with
      | none=>rfl
      | some x=>have:=h.rd (by rw [e];simp);rw [this] at hk;simp at hk
     have J9q:f'.roundOf=none:=by
      have:=h.round;rw [hro] at this;cases e:f'.roundOf<;>rw [e] at this<;>first|rfl|exact this.elim
     rw [Jav h1 ho (.inr hro),Jav h2 ho (.inr J9q)];exact Jkc hw (J3.Jow hev o hk') h hl hro hown
  ·simp only [hwt,if_false,Jc1];exact J01.same hw (J50 (h.st.finish .undef (fun _ _ _ _ _ _ _ _=>J37.undef) (.inl ⟨_,_,_,_,h1⟩)))
end
section
variable {C:Cx} {S:Kn} {E:J5} {cs:Bot}
theorem Jgp (A:J1d C S) (hh:Hnd C E) (hg:∀ g,S.gs.contains g=true->E g g) {f f':Frame} {l l':List Frame} {L:Option Nat} {w w':World} (hw:WT C (okP C S) E L w w') (h:FrR C S E f f')
  (hl:J2n C S E cs f.kind l l') {x:Operand} {ps:Array Tmp} {aS bd:Code} {k k':List Item} (h1:f.todo=.code (.rangeFunc x ps aS bd)::k) (h2:f'.todo=.code (.rangeFunc x ps aS bd)::k')
  (hk:J10 C S f.fn E k k') (hc:Jj C S f.fn (.rangeFunc x ps aS bd)=true) {main main':Bool} :
  J01 C S E cs L w w' (stepG.exec C.P main true f l none w) (stepG.exec C.P main' true f' l' none w'):=by
 simp only [Jj,Ja8,Bool.not_eq_true',List.isEmpty_iff] at hc;obtain ⟨⟨⟨⟨⟨⟨c1,c2⟩,c3⟩,c4⟩,c5⟩,c6⟩,c7⟩:=hc;have hfn:=h.fn;have htm:AR C E f.tmps f'.tmps:=⟨h.tmps.size,fun i x x' a b=>h.tmps.at_ i x x' (by rw [c5];rfl) a b⟩;have htm:=htm.hr (fn:=f.fn);have hres:J6p C f.fn:=h.hol;have hsim:J3 C (okP C S) E (Instr.enterLoop f.fn f.tmps ps aS bd f.roundOf) (Instr.enterLoop f'.fn f'.tmps ps aS bd f'.roundOf) (fun E1 x x'=>E1 x.1 x'.1/\J0x C E1 x.2 x'.2):=by rw [hfn];exact J3.enterLoop hh f.fn htm ps ⟨c2,c4,hres,h.body,c6⟩ ⟨c3,c4,hres,h.body,c6⟩ c7 h.round
 rw [J84 h1,J84 h2];refine of_run (f:=fun r=>match r with
   | .ok (lp,mark) w=>
    stepG.apply C.P true { f with todo:=.inRangeFunc lp::k,defers:=mark++f.defers } l none (do let d <- resolve f.eval { callee:=.value x,args:=#[.const (.func (.yield lp) #[] #[])],argTypes:=#[] } 0;invoke d.target d.args) w
   | .halt _ w=>.ended (.stuck "range over a function: no such loop" (f.pos C.P)) w)
  (f':=fun r=>match r with
   | .ok (lp,mark) w=>
    stepG.apply C.P true { f' with todo:=.inRangeFunc lp::k',defers:=mark++f'.defers } l' none (do let d <- resolve f'.eval { callee:=.value x,args:=#[.const (.func (.yield lp) #[] #[])],argTypes:=#[] } 0;invoke d.target d.args) w
   | .halt _ w=>.ended (.stuck "range over a function: no such loop" (f'.pos C.P)) w) hw hsim ?_ ?_ ?_ ?_
 ·rintro E1 ⟨lp,m⟩ ⟨lp',m'⟩ w1 w1' s ⟨hlp,hm⟩ hw1
  dsimp only at hlp hm ⊢
  have hev:EvR C S f.fn E1 f.eval f'.eval:=EvR.Jm8 (h.tmps.mono s) fun g hx=>s _ _ (hg g hx);have hx:=hev.at_ x c1;have hM:=h.mono s;have hF:FrR C S E1 { f with todo:=.inRangeFunc lp::k,defers:=m++f.defers } { f' with todo:=.inRangeFunc lp'::k',defers:=m'++f'.defers }:=
   ⟨hM.fn,hM.body,hM.kind,hM.kind',hM.round,hM.tmps,.cons (.inRangeFunc hlp) (hk.mono s),hm.append hM.defers,hM.mode,hM.hol,hM.rd⟩
  have hst:StR C S E1 cs ({ f with todo:=.inRangeFunc lp::k,defers:=m++f.defers }::l) ({ f' with todo:=.inRangeFunc lp'::k',defers:=m'++f'.defers }::l'):=.cons hF (hl.mono s);have hs:J3 C (okP C S) E1 (do let d <- resolve f.eval { callee:=.value x,args:=#[.const (.func (.yield lp) #[] #[])],argTypes:=#[] } 0;invoke d.target d.args)
    (do let d <- resolve f'.eval { callee:=.value x,args:=#[.const (.func (.yield lp') #[] #[])],argTypes:=#[] } 0;invoke d.target d.args) (fun E1 n n'=>J3j C (okP C S) S E1 n n'/\True):=by
   have e:∀ (fr:Frame) lp,resolve fr.eval { callee:=.value x,args:=#[.const (.func (.yield lp) #[] #[])],argTypes:=#[] } 0=Deferred.ofValue (fr.eval x) #[.func (.yield lp) #[] #[]]:=fun fr lp=>by simp [resolve,Frame.eval]
   rw [e,e];have:=J3.invoked (ok:=okP C S) A.kn (hh.of_sub s) hx (a:=#[.func (.yield lp) #[] #[]]) (a':=#[.func (.yield lp') #[] #[]]) (AR.one (.func (.yield hlp) rfl (fun i x x' h=>by simp at h) ⟨rfl,by simp⟩ (fun i x x' h=>by simp at h))) (by simp);exact this.mono fun _ _ _ _ h=>⟨h,trivial⟩
  refine J9o (Q:=fun _=>True) A hw1 hs (fun d r v k e=>by simp at e) (fun d r v k e=>by simp at e) hst ?_ ?_ ?_
  ·intro n _ _;refine ⟨fun ops' i' r'' k'' d e1 e2=>?_,.inr ⟨_,_,rfl⟩⟩;simp at e1
  ·exact fun E2 v v' s2 hv _=>(hst.mono s2).finish hv (fun ops' i' r'' k'' d e1 e2=>by simp at e1) (.inr (.inl ⟨_,_,rfl⟩))
  ·exact fun E2 c c' s2 hc=>(hst.mono s2).raise hc
 ·intro E1 v v' w1 w1' s hv hw1;exact J01.J26
 ·intro x w1 _;exact ⟨_,_,_,rfl⟩
 ·intro r g1 w1 es h hd;cases r with
  | ok v w=>exact Jb6 (J0p C.P _ _) (J8o h hd)
  | halt x w=>cases h
theorem Jp2 {c:Code} (h:J5y c=true) {fn:FuncId}:Jj C S fn c=true:=by
 cases c<;>first|rfl|cases h
theorem toItems {fn:FuncId} {j:Option Code} (hj:∀ c,j=some c->J5y c=true) {k k':List Item} (hk:J10 C S fn E k k'):J10 C S fn E ((j.map Item.code).toList++k) ((j.map Item.code).toList++k'):=by
 cases j with
 | none=>exact hk
 | some c=>exact .cons (.code (Jp2 (hj c rfl))) hk
theorem Jrk (A:J1d C S) (hh:Hnd C E) (hg:∀ g,S.gs.contains g=true->E g g) {f f':Frame} {l l':List Frame} {L:Option Nat} {w w':World} (hw:WT C (okP C S) E L w w') (h:J40 C S E cs f l f' l')
  (hm:f.mode=.run) (nd:¬ (l=[]/\(f.todo=[Jt]\/∃ ops,f.todo=[.inRegion ops [],Jt]))) {main main':Bool} :
  J01 C S E cs L w w' (stepG.exec C.P main true f l none w) (stepG.exec C.P main' true f' l' none w'):=by
 rcases h.part with ⟨y,y',s0,k,hp⟩|⟨ops,is,rest,k,h1,h2,hr,hb,hl,hcs⟩
 ·obtain ⟨h1,h2,hi,hk,re⟩:=hp;have to:∀ z z',J10 C S f.fn E z z'->J01 C S E cs L w w' (toG f l none w (z++s0)) (toG f' l' none w' (z'++k)):=fun z z' hz=>
   J01.same hw (J50 (re E z z' (.refl E) hz))
  have leave:∀ j,(∀ c,j=some c->J5y c=true)->J01 C S E cs L w w' (J3k C.P main f l none w j) (J3k C.P main' f' l' none w' j):=fun j hj=>by
   refine Joz hw h hm j hj fun e _=>?_;have:=h.round;rw [e] at this;cases e:f'.roundOf<;>rw [e] at this<;>first|rfl|exact this.elim
  cases hi with
  | nil=>
   rcases hk with ⟨rfl,rfl,hF,hL⟩|⟨rfl,rfl,hB⟩
   ·rw [Jim h1,Jim h2];exact leave none fun c h=>by cases h
   ·exact absurd ⟨rfl,.inl h1⟩ nd
  | @cons x x' z z' hx hz=>
   rw [Jc7] at h1 h2;cases hx with
   | inBlock id=>rw [J9r h1,J9r h2];exact to _ _ hz
   | inScope hc=>rw [J9s h1,J9s h2];exact to _ _ hz
   | inLoop hc=>rw [Jbo h1,Jbo h2];exact to (.code _::.inLoop _::_) (.code _::.inLoop _::_) (.cons (.code hc) (.cons (.inLoop hc) hz))
   | inRegion is hr=>
    cases is with
    | nil=>rw [J2v h1,J2v h2];exact to _ _ hz
    | cons i r=>exact Jp1 A hh hg hw h h1 h2 hr
   | inRangeFunc he=>rw [Jcb h1];exact J01.J26
   | @endRangeFunc lp lp' he=>
    rw [J6e h1,J6e h2];refine of_run (f:=fun r=>match r with
      | .ok jump w=>toG f l none w ((jump.map Item.code).toList++(z++s0))
      | .halt (.panic v) w=>.go { frame:=f.raise [{ v,recovered:=false }],callers:=l,status:=.running,dying:=none } w
      | .halt _ w=>.ended (.stuck "range over a function: no such loop" (f.pos C.P)) w)
     (f':=fun r=>match r with
      | .ok jump w=>toG f' l' none w ((jump.map Item.code).toList++(z'++k))
      | .halt (.panic v) w=>.go { frame:=f'.raise [{ v,recovered:=false }],callers:=l',status:=.running,dying:=none } w
      | .halt _ w=>.ended (.stuck "range over a function: no such loop" (f'.pos C.P)) w) hw (J3.endLoop hh he) ?_ ?_ ?_ ?_
    ·rintro E1 j j' w1 w1' s ⟨rfl,hj⟩ hw1
     dsimp only
     rw [<- List.append_assoc,<- List.append_assoc];exact J01.same hw1 (J50 (re E1 _ _ s (toItems hj (hz.mono s))))
    ·intro E1 v v' w1 w1' s hv hw1
     dsimp only
     rcases (h.st.mono s).raise (.cons false false hv .nil) with hA|hB
     ·exact J01.same hw1 (J50 hA)
     ·exact .bad hB rfl
    ·intro x w1 hd;cases x with
     | panic v=>exact absurd rfl (hd.1 v)
     | _=>exact ⟨_,_,_,rfl⟩
    ·intro r g1 w1 es h _;cases r with
     | ok v w=>cases h;exact Ja2 _
     | halt x w=>cases x<;>first|(cases h;exact Ja2 _)|cases h
   | beginRound=>
    rw [J78 h1,J78 h2];have hs:J3 C (okP C S) E (do f.roundOf.elim (stuck "beginRound: no round") Instr.beginRound;pure .skip) (do f'.roundOf.elim (stuck "beginRound: no round") Instr.beginRound;pure .skip)
      (fun E1 n n'=>J3j C (okP C S) S E1 n n'/\n=.skip):=by
     have hr:=h.round;cases e:f.roundOf with
     | none=>exact J3.bind' (R:=fun _ _ _=>False) (.stuck _) fun _ _ _ _ h=>h.elim
     | some lp=>
      rw [e] at hr;cases e':f'.roundOf with
      | none=>rw [e'] at hr;exact hr.elim
      | some lp'=>
       rw [e'] at hr;exact J3.bind' (J3.beginRound hh hr) fun E1 s1 _ _ _=>.pure ⟨.skip,rfl⟩
    refine J9o (Q:=fun n=>n=.skip) A hw hs (fun d r v k e=>by rw [h1] at e;cases e) (fun d r v k e=>by rw [h2] at e;cases e) h.st ?_ ?_ ?_
    ·rintro n rfl (⟨_,_,hn⟩|⟨_,_,_,_,_,hn⟩)<;>cases hn
    ·exact fun E1 v v' s hv _=>(h.st.mono s).finish hv (fun ops i r k d e=>by rw [h1] at e;cases e) (.inr (.inr ⟨_,h1⟩))
    ·exact fun E1 c c' s hc=>(h.st.mono s).raise hc
   | @code c hc=>
    cases c with
    | skip=>rw [Jg4 h1,Jg4 h2];exact to _ _ hz
    | label n=>rw [Jcw h1,Jcw h2];exact to _ _ hz
    | seq a b=>
     simp only [Jj,Ja8] at hc;rw [Jio h1,Jio h2];exact to (.code _::.code _::_) (.code _::.code _::_) (.cons (.code hc.1) (.cons (.code hc.2) hz))
    | block id b=>rw [Jcx h1,Jcx h2];exact to (.code _::.inBlock _::_) (.code _::.inBlock _::_) (.cons (.code hc) (.cons (.inBlock id) hz))
    | loop b=>rw [Jg5 h1,Jg5 h2];exact to (.code _::.inLoop _::_) (.code _::.inLoop _::_) (.cons (.code hc) (.cons (.inLoop hc) hz))
    | scope b=>rw [Jcy h1,Jcy h2];exact to (.code _::.inScope _::_) (.code _::.inScope _::_) (.cons (.code hc) (.cons (.inScope hc) hz))
    | cond x a b=>
     simp only [Jj,Ja8] at hc;rw [Jg6 h1,Jg6 h2];have hev:EvR C S f.fn E f.eval f'.eval:=EvR.Jm8 h.tmps hg;have hx:=hev.at_ x hc.1.1;generalize f.eval x=v at hx;generalize f'.eval x=v' at hx;cases hx with
     | bool b'=>
      cases b'
      ·exact to (.code _::_) (.code _::_) (.cons (.code hc.2) hz)
      ·exact to (.code _::_) (.code _::_) (.cons (.code hc.1.2) hz)
     | _=>exact J01.J26
    | region id ops d=>
     rw [Jbp h1,Jbp h2];cases d with
     | false=>exact to (.inRegion _ _::_) (.inRegion _ _::_) (.cons (.inRegion _ (Jl2 hc _)) hz)
     | true=>
      simp only [Bool.not_true,Jc1,if_false];rw [h.fn,run_choose,run_choose,if_neg (by simp [Question.forced]),if_neg (by simp [Question.forced])]
      dsimp only
      by_cases hl:∀ lim,L=some lim->w'.drawn<lim
      ·have ht:=hw.tape 0 (fun lim e=>hl lim e) (.order f.fn id);simp only [Nat.add_zero] at ht;rw [ht];refine (J01.same (cs:=cs) (E:=E) ?_ (J50 (re E (.inRegion _ _::_) (.inRegion _ _::_) (.refl E) (.cons (.inRegion _ (Jl2 hc _)) hz)))).Joy ?_ hw.old
       ·refine ⟨⟨hw.os,hw.dom,hw.fn,hw.inj,hw.old,hw.obj,hw.lid,hw.lsz,hw.J5i⟩,fun k hk q=>?_⟩;have:=hw.tape (k+1) (fun lim e=>by have:=hk lim e;simp at this;omega) q;simp only [show ∀ n:Nat,n+1+k=n+(k+1) from fun n=>by omega];exact this
       ·exact ⟨.refl _,fun _ _ h=>.inl h,Ja2 _,Nat.add_comm _ _,fun _ _ _=>rfl,rfl,by show w'.drawn+1+w.drawn=w.drawn+1+w'.drawn;omega,rfl,rfl,Nat.le_succ _⟩
      ·simp only [Classical.not_forall,not_imp,Nat.not_lt] at hl;obtain ⟨lim,e,hlt⟩:=hl;refine .inl ⟨lim,e,fun g1 w1 es hgo _=>?_⟩;cases hgo;show lim<w'.drawn+1;omega
    | exit id=>
     rw [Jg2 h1,Jg2 h2];rcases Jm6 id hz with ⟨e1,e2⟩|⟨y,y',e1,e2,e3⟩
     ·rw [e1,e2];rcases hk with ⟨rfl,rfl,hF,hL⟩|⟨rfl,rfl,hB⟩
      ·exact leave (some (.exit id)) fun c h=>by cases h;rfl
      ·unfold J3k;simp only [Jt,exitTo,gotoIn,Option.elim_none,hB.round];exact J01.J26
     ·rw [e1,e3];exact to _ _ e2
    | goto n=>
     rw [Jg3 h1,Jg3 h2];rcases Jm7 n hz with ⟨e1,e2⟩|⟨y,y',e1,e2,e3⟩
     ·rw [e1,e2];rcases hk with ⟨rfl,rfl,hF,hL⟩|⟨rfl,rfl,hB⟩
      ·exact leave (some (.goto n)) fun c h=>by cases h;rfl
      ·unfold J3k;simp only [Jt,exitTo,gotoIn,Option.elim_none,hB.round];exact J01.J26
     ·rw [e1,e3];exact to _ _ e2
    | ret=>rw [Jin h1,Jin h2];exact leave (some .ret) fun c h=>by cases h;rfl
    | refuse y=>rw [J48 h1];exact J01.J26
    | rangeFunc x ps aS bd=>
     rcases hk with ⟨rfl,rfl,hF,hL⟩|⟨rfl,rfl,hB⟩
     ·rw [List.append_nil] at h2;exact Jgp A hh hg hw hF hL h1 h2 (by simpa using hz) hc
     ·simp only [Jj,Ja8,Bool.not_eq_true',List.isEmpty_iff] at hc;exact absurd hc.1.1.2 hB.norf
 ·subst hl hcs;cases is with
  | nil=>exact absurd ⟨rfl,.inr ⟨_,h1⟩⟩ nd
  | cons i r=>exact Jp1 A hh hg hw h h1 h2 hr
end
end Go.Sim
