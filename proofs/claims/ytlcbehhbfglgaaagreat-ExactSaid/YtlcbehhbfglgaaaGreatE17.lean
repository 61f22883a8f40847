/- PROVED HERE: laws that the statement rests on (parts Sv, Sw, Sx). Conditions: none. -/
import Derived.Test.YtlcbehhbfglgaaaGreatE16
set_option linter.all false
namespace Go.Sim
def leaveG (P:Program) (main:Bool) (fr:Frame) (callers:List Frame) (dying:Option Dying) (w:World) (jump:Option Code):GStep:=
 match fr.roundOf with
 | none=>if jump matches none|some .ret then .go { frame:={ fr with mode:=.returning },callers,status:=.running,dying } w else .ended (.stuck "exit, goto: no such block or label" (fr.pos P)) w
 | some l=>
  let (r,es):=(Instr.endRound l jump).runT P w #[]
  GStep.after (seen P fr.fn es) <| match r with
  | .ok v w=>doReturn P main fr callers dying v w
  | .halt _ w=>.ended (.stuck "range over a function: no such loop" (fr.pos P)) w
section
variable {P:Program} {main:Bool} {fr:Frame} {callers:List Frame} {dying:Option Dying} {w:World}
theorem exec_nil (h:fr.todo=[]):stepG.exec P main true fr callers dying w=leaveG P main fr callers dying w none:=by
 obtain ⟨fn,tmps,todo,defers,mode,kind,ro⟩:=fr
 obtain rfl:todo=[]:=h
 cases ro<;>rfl
theorem exec_ret {k} (h:fr.todo=.code .ret::k):stepG.exec P main true fr callers dying w=leaveG P main fr callers dying w (some .ret):=by
 obtain ⟨fn,tmps,todo,defers,mode,kind,ro⟩:=fr
 obtain rfl:todo=_:=h
 cases ro<;>rfl
theorem exec_exit {id k} (h:fr.todo=.code (.exit id)::k):stepG.exec P main true fr callers dying w =
  (exitTo id k).elim (leaveG P main fr callers dying w (some (.exit id))) fun t=>.go { frame:={ fr with todo:=t },callers,status:=.running,dying } w:=by
 obtain ⟨fn,tmps,todo,defers,mode,kind,ro⟩:=fr
 obtain rfl:todo=_:=h
 unfold stepG.exec
 dsimp only
 cases exitTo id k<;>cases ro<;>rfl
theorem exec_goto {l k} (h:fr.todo=.code (.goto l)::k):stepG.exec P main true fr callers dying w =
  (gotoIn l k).elim (leaveG P main fr callers dying w (some (.goto l))) fun t=>.go { frame:={ fr with todo:=t },callers,status:=.running,dying } w:=by
 obtain ⟨fn,tmps,todo,defers,mode,kind,ro⟩:=fr
 obtain rfl:todo=_:=h
 unfold stepG.exec
 dsimp only
 cases gotoIn l k<;>cases ro<;>rfl
end
section
variable {C:Cx} {S:Kn} {E:BRel} {cs:Bot}
inductive TopR (C:Cx) (S:Kn) (E:BRel) (cs:Bot):Frame→List Frame→Frame→List Frame→Prop
 | fr {f f' l l'} (h:FrR C S E f f') (hl:LowR C S E cs f.kind l l'):TopR C S E cs f l f' l'
 | bot {f f'} (h:BotR C S cs E f f'):TopR C S E cs f [] f' cs.cs
theorem TopR.st {f f':Frame} {l l':List Frame} (h:TopR C S E cs f l f' l'):StR C S E cs (f::l) (f'::l'):=by
 cases h with
 | fr h hl=>exact .cons h hl
 | bot h=>exact .bot h
theorem StR.topR {f f':Frame} {l l':List Frame} (h:StR C S E cs (f::l) (f'::l')):TopR C S E cs f l f' l':=by
 cases h with
 | bot h=>exact .bot h
 | cons h hl=>exact .fr h hl
theorem TopR.fn {f f':Frame} {l l':List Frame} (h:TopR C S E cs f l f' l'):f'.fn=f.fn:=by
 cases h with
 | fr h hl=>exact h.fn
 | bot h=>exact h.fn
theorem TopR.tmps {f f':Frame} {l l':List Frame} (h:TopR C S E cs f l f' l'):TmR C S f.fn E f.tmps f'.tmps:=by
 cases h with
 | fr h hl=>exact h.tmps
 | bot h=>exact h.tmps
theorem TopR.round {f f':Frame} {l l':List Frame} (h:TopR C S E cs f l f' l'):OptR E f.roundOf f'.roundOf:=by
 cases h with
 | fr h hl=>exact h.round
 | bot h=>rw [h.round,h.round'];trivial
inductive PartR (C:Cx) (S:Kn) (E:BRel) (cs:Bot) (f:Frame) (l:List Frame) (f':Frame) (l':List Frame):List Item→List Item→List Item→List Item→Prop
 | mk {y y' s k} (h1:f.todo=y++s) (h2:f'.todo=y'++k) (hi:ItemsR C S f.fn E y y') (hk:(s=[]∧k=[]∧FrR C S E f f'∧LowR C S E cs f.kind l l')∨(s=[stopI]∧l=[]∧BotR C S cs E f f'))
   (re:∀ (E1:BRel) (z z':List Item),Sub E E1→ItemsR C S f.fn E1 z z'→StR C S E1 cs ({ f with todo:=z++s }::l) ({ f' with todo:=z'++k }::l')) :
   PartR C S E cs f l f' l' y y' s k
theorem TopR.part {f f':Frame} {l l':List Frame} (h:TopR C S E cs f l f' l') :
  (∃ y y' s k,PartR C S E cs f l f' l' y y' s k)∨∃ ops is rest k,f.todo=[.inRegion ops is,stopI]∧f'.todo=.inRegion ops (is++rest)::k∧okIs C S f.fn ops is=true∧BotR C S cs E f f'∧l=[]∧l'=cs.cs:=by
 cases h with
 | fr h hl=>
  refine .inl ⟨f.todo,f'.todo,[],[],.mk (by simp) (by simp) h.todo (.inl ⟨rfl,rfl,h,hl⟩) fun E1 z z' s hz=>?_⟩
  have:=h.mono s
  rw [List.append_nil,List.append_nil]
  exact .cons ⟨this.fn,this.body,this.kind,this.kind',this.round,this.tmps,hz,this.defers,this.mode,this.hol,this.rd⟩ (hl.mono s)
 | bot h=>
  have ht:=h.todo
  generalize e1:f.todo=y at ht
  generalize e2:f'.todo=x at ht
  cases ht with
  | code hr0 hi=>
   refine .inl ⟨_,_,_,cs.k,.mk e1 e2 hi (.inr ⟨rfl,rfl,h⟩) fun E1 z z' s hz=>.bot ?_⟩
   have:=h.mono s
   exact { this with todo:=.code hr0 hz }
  | ops is hr=>exact .inr ⟨_,is,cs.rest,cs.k,rfl,rfl,hr,h,rfl,rfl⟩
theorem OneR.same {g g':Goroutine} {L:Option Nat} {w w':World} (hw:WT C (okP C S) E L w w') (hg:GR C S E cs g g'):OneR C S E cs L w w' (.go g w) (.go g' w'):=
 .good hw (.refl ..) hg fun e he=>by simp at he
theorem gr_of {f f':Frame} {l l':List Frame} (h:StR C S E cs (f::l) (f'::l')) :
  GR C S E cs { frame:=f,callers:=l,status:=.running,dying:=none } { frame:=f',callers:=l',status:=.running,dying:=none }:=⟨h,rfl,rfl,rfl,rfl,rfl⟩
theorem OneR.imp_world {L:Option Nat} {w w' w2 w2':World} {r r':GStep} (h:OneR C S E cs L w2 w2' r r') (hg:Grow C E E w w' w2 w2') (hold:∀ b,C.Sh b→b<w.heap.size):OneR C S E cs L w w' r r':=by
 rcases h with h|h|⟨g1,w1,es,h1,h2,h3,h4⟩
 ·exact .inl h
 ·exact .inr (.inl h)
 ·refine .inr (.inr ⟨g1,w1,es,h1,h2,h3,?_⟩)
  rcases h4 with hb|⟨E1,g1',w1',es',k1,k2,k3,k4,k5⟩
  ·exact .inl hb
  ·exact .inr ⟨E1,g1',w1',es',k1,k2,hg.trans hold k3,k4,k5⟩
theorem of_run {α α':Type} {s:Sem α} {s':Sem α'} {R:BRel→α→α'→Prop} {L:Option Nat} {w w':World} (hw:WT C (okP C S) E L w w') (hs:SimR C (okP C S) E s s' R) {fn fn':FuncId}
  {f:Result α→GStep} {f':Result α'→GStep}
  (hok:∀ E1 a a' w1 w1',Sub E E1→R E1 a a'→WT C (okP C S) E1 L w1 w1'→OneR C S E1 cs L w1 w1' (f (.ok a w1)) (f' (.ok a' w1')))
  (hpan:∀ E1 v v' w1 w1',Sub E E1→VR C E1 v v'→WT C (okP C S) E1 L w1 w1'→OneR C S E1 cs L w1 w1' (f (.halt (.panic v) w1)) (f' (.halt (.panic v') w1')))
  (hh:∀ x w1,Dead x→∃ o w es,f (.halt x w1)=.ended o w es)
  (hm:∀ r g1 w1 es,f' r=.go g1 w1 es→g1.dying=none→r.left.drawn≤w1.drawn) :
  OneR C S E cs L w w' (GStep.after (seen C.P fn (s.runT C.P w #[]).2) (f (s.runT C.P w #[]).1)) (GStep.after (seen C.P fn' (s'.runT C.P w' #[]).2) (f' (s'.runT C.P w' #[]).1)):=by
 rcases hs L w w' hw with ⟨lim,hL,ho⟩|h
 ·refine .inl ⟨lim,hL,fun g1 w1 es hgo hd=>?_⟩
  obtain ⟨e2,hgo⟩:=go_of_after hgo
  simp only [Sem.runT_eq] at hgo
  exact Nat.lt_of_lt_of_le ho (hm _ _ _ _ hgo hd)
 simp only [Sem.runT_eq]
 have fin:∀ (E1:BRel) (w2 w2':World) (r r':GStep) (es:Array Event),Grow C E E1 w w' w2 w2'→OneR C S E1 cs L w2 w2' r r'→(∀ e∈s'.events C.P w' #[],EvOk C E1 e) →
   OneR C S E cs L w w' (GStep.after es r) (GStep.after (seen C.P fn' (#[]++s'.events C.P w' #[])) r'):=by
  intro E1 w2 w2' r r' es hgrow hone hev
  rcases hone with ⟨lim,hL,ho⟩|⟨o,w1,es1,rfl⟩|⟨g1,w1,es1,rfl,h2,h3,h4⟩
  ·refine .inl ⟨lim,hL,fun g1 w1 es hgo hd=>?_⟩
   obtain ⟨e2,hgo⟩:=go_of_after hgo
   exact ho _ _ _ hgo hd
  ·exact .nogo
  ·refine .inr (.inr ⟨g1,w1,es++es1,rfl,h2,h3,?_⟩)
   rcases h4 with hb|⟨E2,g1',w1',es',k1,k2,k3,k4,k5⟩
   ·exact .inl hb
   ·refine .inr ⟨E2,g1',w1',seen C.P fn' (#[]++s'.events C.P w' #[])++es',by rw [k1];rfl,k2,hgrow.trans hw.old k3,k4,fun e he=>?_⟩
    rcases Array.mem_append.1 he with he|he
    ·have:=seen_sub he
     rw [Array.empty_append] at this
     exact (hev e this).mono k3.sub
    ·exact k5 e he
 simp only [Array.empty_append] at fin ⊢
 cases hr:s.run C.P w with
 | ok a w2=>
  rw [hr] at h
  obtain ⟨E1,a',w2',e1,e2,e3,e4,e5⟩:=h
  rw [e1]
  exact fin E1 w2 w2' _ _ _ e3 (hok E1 a a' w2 w2' e3.sub e4 e2) e5
 | halt x w2=>
  rw [hr] at h
  cases x with
  | panic v=>
   obtain ⟨E1,v',w2',e1,e2,e3,e4,e5⟩:=h
   rw [e1]
   exact fin E1 w2 w2' _ _ _ e3 (hpan E1 v v' w2 w2' e3.sub e4 e2) e5
  | _=>
   obtain ⟨o,w3,es3,e⟩:=hh _ w2 h
   rw [e]
   exact .nogo
theorem doReturn_drawn {P:Program} {main:Bool} {fr:Frame} {callers:List Frame} {v:Value} {w w1:World} {g1:Goroutine} {es:Array Event} (h:doReturn P main fr callers none v w=.go g1 w1 es):w1=w:=by
 unfold doReturn at h
 dsimp only at h
 repeat' split at h
 all_goals first|(cases h;rfl)|cases h
theorem leave_rel {f f':Frame} {l l':List Frame} {main main':Bool} {L:Option Nat} {w w':World} (hw:WT C (okP C S) E L w w') (h:TopR C S E cs f l f' l') (hm:f.mode=.run) (j:Option Code)
  (hj:∀ c,j=some c→isJump c=true) (k':f.roundOf=none→l=[]→f'.roundOf=none) :
  OneR C S E cs L w w' (leaveG C.P main f l none w j) (leaveG C.P main' f' l' none w' j):=by
 unfold leaveG
 have hr:=h.round
 cases hro:f.roundOf with
 | none=>
  rw [hro] at hr
  have hro':f'.roundOf=none:=by cases e:f'.roundOf<;>rw [e] at hr<;>first|rfl|exact hr.elim
  rw [hro']
  dsimp only
  have fin:OneR C S E cs L w w' (.go { frame:={ f with mode:=.returning },callers:=l,status:=.running,dying:=none } w) (.go { frame:={ f' with mode:=.returning },callers:=l',status:=.running,dying:=none } w'):=by
   cases h with
   | fr h hl=>exact OneR.same hw (gr_of (.cons (h.setMode .returning) hl))
   | bot h=>
    exact .inr (.inr ⟨_,_,_,rfl,rfl,rfl,.inr ⟨E,_,_,_,rfl,hw,.refl ..,.inr ⟨rfl,rfl,h.fn,rfl,rfl,h.tmps,h.defers,rfl,rfl,rfl,rfl,rfl,h.kind2,h.dfr,h.round',h.fn2,h.hold⟩,fun e he=>by simp at he⟩⟩)
  rw [hro,hro'] at fin
  split
  ·simp only [if_true];exact fin
  ·simp only [if_true];exact fin
  ·simp only [Bool.false_eq_true,if_false];exact OneR.nogo
 | some lp=>
  rw [hro] at hr
  obtain ⟨lp',hro',hlp⟩:∃ lp',f'.roundOf=some lp'∧E lp lp':=by
   cases e:f'.roundOf<;>rw [e] at hr
   ·exact hr.elim
   ·exact ⟨_,rfl,hr⟩
  rw [hro']
  dsimp only
  cases h with
  | bot h=>rw [h.round] at hro;cases hro
  | fr h hl=>
   refine of_run (f:=fun r=>match r with | .ok v w=>doReturn C.P main f l none v w | .halt _ w=>.ended (.stuck "range over a function: no such loop" (f.pos C.P)) w)
    (f':=fun r=>match r with | .ok v w=>doReturn C.P main' f' l' none v w | .halt _ w=>.ended (.stuck "range over a function: no such loop" (f'.pos C.P)) w) hw (SimR.endRound hlp j hj) ?_ ?_ ?_ ?_
   ·intro E1 v v' w1 w1' s hv hw1
    obtain ⟨c,l1,c',l1',e1,e2,e3⟩:=doReturn_rel (hl.mono s) h.kind (fr:=f) (fr':=f') rfl h.kind' hv
    dsimp only
    rw [e1,e2]
    exact OneR.same hw1 (gr_of e3)
   ·intro E1 v v' w1 w1' s hv hw1
    exact OneR.nogo
   ·intro x w1 _
    exact ⟨_,_,_,rfl⟩
   ·intro r g1 w1 es h _
    cases r with
    | ok v w=>rw [doReturn_drawn h];exact Nat.le_refl _
    | halt x w=>cases h
end
section
variable {P:Program} {main:Bool} {fr:Frame} {callers:List Frame} {dying:Option Dying} {w:World}
def toG (fr:Frame) (callers:List Frame) (dying:Option Dying) (w:World) (todo:List Item):GStep:=.go { frame:={ fr with todo },callers,status:=.running,dying } w
theorem exec_skip {k} (h:fr.todo=.code .skip::k):stepG.exec P main true fr callers dying w=toG fr callers dying w k:=by
 obtain ⟨fn,tmps,todo,defers,mode,kind,ro⟩:=fr;obtain rfl:todo=_:=h;rfl
theorem exec_label {l k} (h:fr.todo=.code (.label l)::k):stepG.exec P main true fr callers dying w=toG fr callers dying w k:=by
 obtain ⟨fn,tmps,todo,defers,mode,kind,ro⟩:=fr;obtain rfl:todo=_:=h;rfl
theorem exec_inBlock {l k} (h:fr.todo=.inBlock l::k):stepG.exec P main true fr callers dying w=toG fr callers dying w k:=by
 obtain ⟨fn,tmps,todo,defers,mode,kind,ro⟩:=fr;obtain rfl:todo=_:=h;rfl
theorem exec_inScope {l k} (h:fr.todo=.inScope l::k):stepG.exec P main true fr callers dying w=toG fr callers dying w k:=by
 obtain ⟨fn,tmps,todo,defers,mode,kind,ro⟩:=fr;obtain rfl:todo=_:=h;rfl
theorem exec_seq {a b k} (h:fr.todo=.code (.seq a b)::k):stepG.exec P main true fr callers dying w=toG fr callers dying w (.code a::.code b::k):=by
 obtain ⟨fn,tmps,todo,defers,mode,kind,ro⟩:=fr;obtain rfl:todo=_:=h;rfl
theorem exec_block {i b k} (h:fr.todo=.code (.block i b)::k):stepG.exec P main true fr callers dying w=toG fr callers dying w (.code b::.inBlock i::k):=by
 obtain ⟨fn,tmps,todo,defers,mode,kind,ro⟩:=fr;obtain rfl:todo=_:=h;rfl
theorem exec_loop {b k} (h:fr.todo=.code (.loop b)::k):stepG.exec P main true fr callers dying w=toG fr callers dying w (.code b::.inLoop b::k):=by
 obtain ⟨fn,tmps,todo,defers,mode,kind,ro⟩:=fr;obtain rfl:todo=_:=h;rfl
theorem exec_inLoop {b k} (h:fr.todo=.inLoop b::k):stepG.exec P main true fr callers dying w=toG fr callers dying w (.code b::.inLoop b::k):=by
 obtain ⟨fn,tmps,todo,defers,mode,kind,ro⟩:=fr;obtain rfl:todo=_:=h;rfl
theorem exec_scope {b k} (h:fr.todo=.code (.scope b)::k):stepG.exec P main true fr callers dying w=toG fr callers dying w (.code b::.inScope b::k):=by
 obtain ⟨fn,tmps,todo,defers,mode,kind,ro⟩:=fr;obtain rfl:todo=_:=h;rfl
theorem exec_region_done {ops k} (h:fr.todo=.inRegion ops []::k):stepG.exec P main true fr callers dying w=toG fr callers dying w k:=by
 obtain ⟨fn,tmps,todo,defers,mode,kind,ro⟩:=fr;obtain rfl:todo=_:=h;rfl
theorem exec_cond {c a b k} (h:fr.todo=.code (.cond c a b)::k):stepG.exec P main true fr callers dying w =
  match fr.eval c with
  | .bool x=>toG fr callers dying w (.code (if x then a else b)::k)
  | _=>.ended (.stuck "cond: bool expected" (fr.pos P)) w:=by
 obtain ⟨fn,tmps,todo,defers,mode,kind,ro⟩:=fr;obtain rfl:todo=_:=h;rfl
theorem exec_region {id ops d k} (h:fr.todo=.code (.region id ops d)::k):stepG.exec P main true fr callers dying w =
  if !d then toG fr callers dying w (.inRegion ops (List.range ops.size)::k)
  else match (choose (.order fr.fn id)).run P w with
   | .ok t w=>toG fr callers dying w (.inRegion ops (Region.schedule (P.follows .mixedOrders) ops t)::k)
   | .halt _ w=>.ended (.stuck "order" (fr.pos P)) w:=by
 obtain ⟨fn,tmps,todo,defers,mode,kind,ro⟩:=fr;obtain rfl:todo=_:=h;cases d<;>rfl
theorem exec_refuse {y k} (h:fr.todo=.code (.refuse y)::k):stepG.exec P main true fr callers dying w=.ended (.unsupported (Unsupported.elab y) (fr.pos P)) w:=by
 obtain ⟨fn,tmps,todo,defers,mode,kind,ro⟩:=fr;obtain rfl:todo=_:=h;rfl
theorem exec_inRangeFunc {l k} (h:fr.todo=.inRangeFunc l::k):stepG.exec P main true fr callers dying w=.ended (.unsupported (.noEntry "a range function without a Go body that blocks") (fr.pos P)) w:=by
 obtain ⟨fn,tmps,todo,defers,mode,kind,ro⟩:=fr;obtain rfl:todo=_:=h;rfl
theorem exec_op {ops i r k} (h:fr.todo=.inRegion ops (i::r)::k):stepG.exec P main true fr callers dying w =
  if ((ops[i]?).map (Region.wanted · (yielded ops fr.tmps))).getD false then stepG.oper P true fr callers dying w else .go { frame:=fr.finish undef,callers,status:=.running,dying } w:=by
 obtain ⟨fn,tmps,todo,defers,mode,kind,ro⟩:=fr;obtain rfl:todo=_:=h;rfl
theorem exec_beginRound {k} (h:fr.todo=.beginRound::k):stepG.exec P main true fr callers dying w =
  stepG.apply P true fr callers dying (do fr.roundOf.elim (stuck "beginRound: no round") Instr.beginRound;pure .skip) w:=by
 obtain ⟨fn,tmps,todo,defers,mode,kind,ro⟩:=fr;obtain rfl:todo=_:=h;rfl
theorem exec_endRangeFunc {l k} (h:fr.todo=.endRangeFunc l::k):stepG.exec P main true fr callers dying w =
  GStep.after (seen P fr.fn ((Instr.endLoop l).runT P w #[]).2) (match ((Instr.endLoop l).runT P w #[]).1 with
   | .ok jump w=>toG fr callers dying w ((jump.map Item.code).toList++k)
   | .halt (.panic v) w=>.go { frame:=fr.raise [{ v,recovered:=false }],callers,status:=.running,dying } w
   | .halt _ w=>.ended (.stuck "range over a function: no such loop" (fr.pos P)) w):=by
 obtain ⟨fn,tmps,todo,defers,mode,kind,ro⟩:=fr;obtain rfl:todo=_:=h;rfl
theorem exec_rangeFunc {f ps as bd k} (h:fr.todo=.code (.rangeFunc f ps as bd)::k):stepG.exec P main true fr callers dying w =
  GStep.after (seen P fr.fn ((Instr.enterLoop fr.fn fr.tmps ps as bd fr.roundOf).runT P w #[]).2) (match ((Instr.enterLoop fr.fn fr.tmps ps as bd fr.roundOf).runT P w #[]).1 with
   | .ok (l,mark) w=>
    stepG.apply P true { fr with todo:=.inRangeFunc l::k,defers:=mark++fr.defers } callers dying (do let d ← resolve fr.eval { callee:=.value f,args:=#[.const (.func (.yield l) #[] #[])],argTypes:=#[] } 0;invoke d.target d.args) w
   | .halt _ w=>.ended (.stuck "range over a function: no such loop" (fr.pos P)) w):=by
 obtain ⟨fn,tmps,todo,defers,mode,kind,ro⟩:=fr;obtain rfl:todo=_:=h;rfl
theorem oper_eq {ops i r k o} (h:fr.todo=.inRegion ops (i::r)::k) (ho:ops[i]?=some o) (hd:(∀ c,o.op≠.defer c)∨fr.roundOf=none) :
  stepG.oper P true fr callers dying w=stepG.apply P true fr callers dying (execOp fr.eval o) w:=by
 obtain ⟨fn,tmps,todo,defers,mode,kind,ro⟩:=fr;obtain rfl:todo=_:=h
 unfold stepG.oper
 have e:Frame.oper? { fn,tmps,todo:=.inRegion ops (i::r)::k,defers,mode,kind,roundOf:=ro }=some o:=ho
 rw [e]
 dsimp only
 rcases hd with hd|hd
 ·split
  ·rename_i c hc;exact absurd hc (hd c)
  ·rfl
 ·obtain rfl:ro=none:=hd
  rfl
end
section
variable {C:Cx} {S:Kn} {E:BRel} {cs:Bot}
theorem wanted_eq {fn:FuncId} {ops:Array Oper} {i:Nat} {o:Oper} (ho:ops[i]?=some o) (hr:okD C fn ops i=true) {t t':Array Value} (ht:TmR C S fn E t t'):Region.wanted o (yielded ops t')=Region.wanted o (yielded ops t):=by
 unfold okD at hr
 rw [ho] at hr
 simp only [Bool.and_eq_true] at hr
 have hr:=hr.2
 unfold Region.wanted
 cases hg:o.guard with
 | none=>rfl
 | some p=>
  obtain ⟨j,want⟩:=p
  rw [hg] at hr
  simp only at hr ⊢
  suffices h:yielded ops t' j=yielded ops t j by rw [h]
  unfold yielded
  cases hj:ops[j]? with
  | none=>rfl
  | some o=>
   rw [hj] at hr
   cases hd:o.dst with
   | none=>simp [hd]
   | some d=>
    have hol:(C.hl fn).contains d=false:=by
     unfold okSl at hr
     simp only [Option.bind_some,hd] at hr
     simpa only [Bool.not_eq_true'] using hr
    simp only [Option.bind_some,hd]
    cases h1:t[d]? with
    | none=>
     have:t'[d]?=none:=by rw [Array.getElem?_eq_none_iff] at *;rw [← ht.size];exact h1
     rw [this]
    | some x=>
     have hlt:d<t'.size:=by rw [← ht.size];exact (Array.getElem?_eq_some_iff.1 h1).1
     have h2:t'[d]?=some t'[d]:=Array.getElem?_eq_getElem hlt
     have hv:=ht.at_ d x _ hol h1 h2
     rw [h2]
     generalize t'[d]=y at hv
     cases hv<;>rfl
theorem okOp_not_defer {fn:FuncId} {o:Op} (h:okOp C S fn o=true) (c:Call):o≠.defer c:=by
 rintro rfl;cases h
theorem Hnd.of_sub {E1:BRel} (h:Hnd C E) (s:Sub E E1):Hnd C E1:=h.mono s
theorem apply_defer {f f':Frame} {l l':List Frame} {s s':Sem Next} {L:Option Nat} {w w':World} (hw:WT C (okP C S) E L w w')
  (hs:SimR C (okP C S) E s s' (fun E1 n n'=>(∃ d d',n=.defer d∧n'=.defer d'∧DefR C E1 d d')∨(n=.recover∧n'=.recover)))
  (h:FrR C S E f f') (hl:LowR C S E cs f.kind l l') (hro:f.roundOf=none) (hown:S.own f.fn=[]) :
  OneR C S E cs L w w' (stepG.apply C.P true f l none s w) (stepG.apply C.P true f' l' none s' w'):=by
 have ho:∀ v,OwnHead C S f v:=fun v ops i r k d _ _ h=>by rw [hown] at h;simp at h
 have hro':f'.roundOf=none:=by
  have:=h.round
  rw [hro] at this
  cases e:f'.roundOf<;>rw [e] at this<;>first|rfl|exact this.elim
 rcases hs L w w' hw with ⟨lim,hL,hv⟩|hh
 ·exact .inl ⟨lim,hL,fun g1 w1 es hgo hd=>Nat.lt_of_lt_of_le hv (apply_mono hgo hd)⟩
 unfold stepG.apply
 simp only [Sem.runT_eq,if_true]
 cases hr:s.run C.P w with
 | ok n w2=>
  rw [hr] at hh
  obtain ⟨E1,n',w2',e1,e2,e3,e4,e6⟩:=hh
  rw [e1]
  have hes:∀ e,e∈(seen C.P f'.fn (if f'.kind == .early then #[] else s'.events C.P w' #[])++#[])→EvOk C E1 e:=fun e he=>by
   rw [Array.append_empty] at he
   have:=seen_sub he
   split at this
   ·simp at this
   ·exact e6 e this
  have hm:=h.mono e3.sub
  have hlm:=hl.mono e3.sub
  rcases e4 with ⟨d,d',rfl,rfl,hd⟩|⟨rfl,rfl⟩
  ·refine .good e2 e3 ⟨.cons (FrR.finish (fr:={ f with defers:=d::f.defers }) (fr':={ f' with defers:=d'::f'.defers }) ?_ .undef (ho _)) ?_,rfl,rfl,rfl,rfl,rfl⟩ hes
   ·exact ⟨hm.fn,hm.body,hm.kind,hm.kind',hm.round,hm.tmps,hm.todo,.cons hd hm.defers,hm.mode,hm.hol,hm.rd⟩
   ·rw [Frame.finish_kind];exact hlm
  ·dsimp only
   rw [hro,hro']
   dsimp only
   rcases tryRecover_rel hm hlm with ⟨k1,k2⟩|⟨v,v',m,m',k1,k2,k3,k4⟩
   ·rw [k1,k2]
    exact .good e2 e3 ⟨.cons (hm.finish .nilIface (ho _)) (by rw [Frame.finish_kind];exact hlm),rfl,rfl,rfl,rfl,rfl⟩ hes
   ·rw [k1,k2]
    exact .good e2 e3 ⟨.cons (hm.finish k3 (ho _)) (by rw [Frame.finish_kind];exact k4),rfl,rfl,rfl,rfl,rfl⟩ hes
 | halt x w2=>
  rw [hr] at hh
  cases x with
  | panic v=>
   obtain ⟨E1,v',w2',e1,e2,e3,e4,e6⟩:=hh
   rw [e1]
   refine .good e2 e3 ⟨.cons ((h.mono e3.sub).raise (.cons false false e4 .nil)) (by rw [Frame.raise_kind];exact hl.mono e3.sub),rfl,rfl,rfl,rfl,rfl⟩ fun e he=>?_
   rw [Array.append_empty] at he
   have:=seen_sub he
   split at this
   ·simp at this
   ·exact e6 e this
  | goexit=>exact absurd rfl hh.2.1
  | blocked=>exact absurd rfl hh.2.2.2.2.2.1
  | waiting=>exact absurd rfl hh.2.2.2.2.2.2
  | exit c=>exact .nogo
  | fatal m=>exact absurd rfl (hh.2.2.2.2.1 m)
  | throw m=>exact absurd rfl (hh.2.2.2.1 m)
  | stuck s=>exact .nogo
  | unsupported u=>
   cases u with
   | initOrder g=>exact absurd rfl (hh.2.2.1 g)
   | _=>exact .nogo
theorem op_rel (A:AllOk C S) (hh:Hnd C E) (hg:∀ g,S.gs.contains g=true→E g g) {f f':Frame} {l l':List Frame} {L:Option Nat} {w w':World} (hw:WT C (okP C S) E L w w') (h:TopR C S E cs f l f' l')
  {ops:Array Oper} {i:Nat} {r r':List Nat} {k k':List Item} (h1:f.todo=.inRegion ops (i::r)::k) (h2:f'.todo=.inRegion ops (i::r')::k') (hr:okIs C S f.fn ops (i::r)=true) {main main':Bool} :
  OneR C S E cs L w w' (stepG.exec C.P main true f l none w) (stepG.exec C.P main' true f' l' none w'):=by
 rw [exec_op h1,exec_op h2]
 cases ho:ops[i]? with
 | none=>
  simp only [Option.map_none,Option.getD_none,Bool.false_eq_true,if_false]
  refine OneR.same hw (gr_of (h.st.finish .undef (fun _ _ _ _ _ _ _ _=>OwnV.undef) (.inl ⟨_,_,_,_,h1⟩)))
 | some o=>
  simp only [Option.map_some,Option.getD_some,wanted_eq ho (okIs_dst hr) h.tmps]
  by_cases hwt:Region.wanted o (yielded ops f.tmps)=true
  ·simp only [hwt,if_true]
   have hev:EvR C S f.fn E f.eval f'.eval:=EvR.of_tm h.tmps hg
   rcases okIs_at hr ho with hk|hk
   ·have hk1:okOp C S f.fn o.op=true:=by simp only [okOper,Bool.and_eq_true] at hk;exact hk.1
    rw [oper_eq h1 ho (.inl (okOp_not_defer hk1)),oper_eq h2 ho (.inl (okOp_not_defer hk1))]
    have key:∀ v,(OwnD C S f.fn o (.value v)∨v=undef)→OwnHead C S f v:=by
     intro v hv ops' i' r'' k'' d e1 e2 e3
     rw [h1] at e1
     cases e1
     rw [ho] at e2
     rcases hv with hv|rfl
     ·obtain ⟨v',hv',hv2⟩:=hv d e2 e3
      cases hv'
      exact hv2
     ·exact OwnV.undef
    refine apply_rel A hw (SimR.execOp' A.kn hh hev o hk) (fun d r v k e=>by rw [h1] at e;cases e) (fun d r v k e=>by rw [h2] at e;cases e) h.st ?_ ?_ ?_
    ·intro n hq hn
     refine ⟨fun ops' i' r'' k'' d e1 e2=>?_,.inl ⟨_,_,_,_,h1⟩⟩
     rw [h1] at e1
     cases e1
     rw [ho] at e2
     cases hc:(S.own f.fn).contains d with
     | false=>rfl
     | true=>
      obtain ⟨v,rfl,_⟩:=hq d e2 hc
      rcases hn with ⟨_,_,hn⟩|⟨_,_,_,_,_,hn⟩<;>cases hn
    ·exact fun E1 v v' s hv hq=>(h.st.mono s).finish hv (key v hq) (.inl ⟨_,_,_,_,h1⟩)
    ·exact fun E1 c c' s hc=>(h.st.mono s).raise hc
   ·have hk':=hk
    simp only [okDefer,Bool.and_eq_true] at hk
    have hown:S.own f.fn=[]:=by simpa using hk.1.2
    cases h with
    | bot h=>rw [h.nodf] at hk;simp at hk
    | fr h hl=>
     have hro:f.roundOf=none:=by
      cases e:f.roundOf with
      | none=>rfl
      | some x=>have:=h.rd (by rw [e];simp);rw [this] at hk;simp at hk
     have hro':f'.roundOf=none:=by
      have:=h.round
      rw [hro] at this
      cases e:f'.roundOf<;>rw [e] at this<;>first|rfl|exact this.elim
     rw [oper_eq h1 ho (.inr hro),oper_eq h2 ho (.inr hro')]
     exact apply_defer hw (SimR.execDefer hev o hk') h hl hro hown
  ·simp only [hwt,if_false,Bool.false_eq_true]
   exact OneR.same hw (gr_of (h.st.finish .undef (fun _ _ _ _ _ _ _ _=>OwnV.undef) (.inl ⟨_,_,_,_,h1⟩)))
end
section
variable {C:Cx} {S:Kn} {E:BRel} {cs:Bot}
theorem rangeFunc_rel (A:AllOk C S) (hh:Hnd C E) (hg:∀ g,S.gs.contains g=true→E g g) {f f':Frame} {l l':List Frame} {L:Option Nat} {w w':World} (hw:WT C (okP C S) E L w w') (h:FrR C S E f f')
  (hl:LowR C S E cs f.kind l l') {x:Operand} {ps:Array Tmp} {as bd:Code} {k k':List Item} (h1:f.todo=.code (.rangeFunc x ps as bd)::k) (h2:f'.todo=.code (.rangeFunc x ps as bd)::k')
  (hk:ItemsR C S f.fn E k k') (hc:okCode C S f.fn (.rangeFunc x ps as bd)=true) {main main':Bool} :
  OneR C S E cs L w w' (stepG.exec C.P main true f l none w) (stepG.exec C.P main' true f' l' none w'):=by
 simp only [okCode,Bool.and_eq_true,Bool.not_eq_true',List.isEmpty_iff] at hc
 obtain ⟨⟨⟨⟨⟨⟨c1,c2⟩,c3⟩,c4⟩,c5⟩,c6⟩,c7⟩:=hc
 have hfn:=h.fn
 have htm:AR C E f.tmps f'.tmps:=⟨h.tmps.size,fun i x x' a b=>h.tmps.at_ i x x' (by rw [c5];rfl) a b⟩
 have htm:=htm.hr (fn:=f.fn)
 have hres:resFree C f.fn:=h.hol
 have hsim:SimR C (okP C S) E (Instr.enterLoop f.fn f.tmps ps as bd f.roundOf) (Instr.enterLoop f'.fn f'.tmps ps as bd f'.roundOf) (fun E1 x x'=>E1 x.1 x'.1∧DefsR C E1 x.2 x'.2):=by
  rw [hfn]
  exact SimR.enterLoop hh f.fn htm ps ⟨c2,c4,hres,h.body,c6⟩ ⟨c3,c4,hres,h.body,c6⟩ c7 h.round
 rw [exec_rangeFunc h1,exec_rangeFunc h2]
 refine of_run (f:=fun r=>match r with
   | .ok (lp,mark) w=>
    stepG.apply C.P true { f with todo:=.inRangeFunc lp::k,defers:=mark++f.defers } l none (do let d ← resolve f.eval { callee:=.value x,args:=#[.const (.func (.yield lp) #[] #[])],argTypes:=#[] } 0;invoke d.target d.args) w
   | .halt _ w=>.ended (.stuck "range over a function: no such loop" (f.pos C.P)) w)
  (f':=fun r=>match r with
   | .ok (lp,mark) w=>
    stepG.apply C.P true { f' with todo:=.inRangeFunc lp::k',defers:=mark++f'.defers } l' none (do let d ← resolve f'.eval { callee:=.value x,args:=#[.const (.func (.yield lp) #[] #[])],argTypes:=#[] } 0;invoke d.target d.args) w
   | .halt _ w=>.ended (.stuck "range over a function: no such loop" (f'.pos C.P)) w) hw hsim ?_ ?_ ?_ ?_
 ·rintro E1 ⟨lp,m⟩ ⟨lp',m'⟩ w1 w1' s ⟨hlp,hm⟩ hw1
  dsimp only at hlp hm ⊢
  have hev:EvR C S f.fn E1 f.eval f'.eval:=EvR.of_tm (h.tmps.mono s) fun g hx=>s _ _ (hg g hx)
  have hx:=hev.at_ x c1
  have hM:=h.mono s
  have hF:FrR C S E1 { f with todo:=.inRangeFunc lp::k,defers:=m++f.defers } { f' with todo:=.inRangeFunc lp'::k',defers:=m'++f'.defers }:=
   ⟨hM.fn,hM.body,hM.kind,hM.kind',hM.round,hM.tmps,.cons (.inRangeFunc hlp) (hk.mono s),hm.append hM.defers,hM.mode,hM.hol,hM.rd⟩
  have hst:StR C S E1 cs ({ f with todo:=.inRangeFunc lp::k,defers:=m++f.defers }::l) ({ f' with todo:=.inRangeFunc lp'::k',defers:=m'++f'.defers }::l'):=.cons hF (hl.mono s)
  have hs:SimR C (okP C S) E1 (do let d ← resolve f.eval { callee:=.value x,args:=#[.const (.func (.yield lp) #[] #[])],argTypes:=#[] } 0;invoke d.target d.args)
    (do let d ← resolve f'.eval { callee:=.value x,args:=#[.const (.func (.yield lp') #[] #[])],argTypes:=#[] } 0;invoke d.target d.args) (fun E1 n n'=>ValR C (okP C S) S E1 n n'∧True):=by
   have e:∀ (fr:Frame) lp,resolve fr.eval { callee:=.value x,args:=#[.const (.func (.yield lp) #[] #[])],argTypes:=#[] } 0=Deferred.ofValue (fr.eval x) #[.func (.yield lp) #[] #[]]:=fun fr lp=>by
    simp [resolve,Frame.eval]
   rw [e,e]
   have:=SimR.invoked (ok:=okP C S) A.kn (hh.of_sub s) hx (a:=#[.func (.yield lp) #[] #[]]) (a':=#[.func (.yield lp') #[] #[]]) (AR.one (.func (.yield hlp) rfl (fun i x x' h=>by simp at h) ⟨rfl,by simp⟩ (fun i x x' h=>by simp at h))) (by simp)
   exact this.mono fun _ _ _ _ h=>⟨h,trivial⟩
  refine apply_rel (Q:=fun _=>True) A hw1 hs (fun d r v k e=>by simp at e) (fun d r v k e=>by simp at e) hst ?_ ?_ ?_
  ·intro n _ _
   refine ⟨fun ops' i' r'' k'' d e1 e2=>?_,.inr ⟨_,_,rfl⟩⟩
   simp at e1
  ·exact fun E2 v v' s2 hv _=>(hst.mono s2).finish hv (fun ops' i' r'' k'' d e1 e2=>by simp at e1) (.inr (.inl ⟨_,_,rfl⟩))
  ·exact fun E2 c c' s2 hc=>(hst.mono s2).raise hc
 ·intro E1 v v' w1 w1' s hv hw1
  exact OneR.nogo
 ·intro x w1 _
  exact ⟨_,_,_,rfl⟩
 ·intro r g1 w1 es h hd
  cases r with
  | ok v w=>exact Nat.le_trans (run_mono C.P _ _) (apply_mono h hd)
  | halt x w=>cases h
theorem isJump_ok {c:Code} (h:isJump c=true) {fn:FuncId}:okCode C S fn c=true:=by
 cases c<;>first|rfl|cases h
theorem toItems {fn:FuncId} {j:Option Code} (hj:∀ c,j=some c→isJump c=true) {k k':List Item} (hk:ItemsR C S fn E k k'):ItemsR C S fn E ((j.map Item.code).toList++k) ((j.map Item.code).toList++k'):=by
 cases j with
 | none=>exact hk
 | some c=>exact .cons (.code (isJump_ok (hj c rfl))) hk
theorem exec_rel (A:AllOk C S) (hh:Hnd C E) (hg:∀ g,S.gs.contains g=true→E g g) {f f':Frame} {l l':List Frame} {L:Option Nat} {w w':World} (hw:WT C (okP C S) E L w w') (h:TopR C S E cs f l f' l')
  (hm:f.mode=.run) (nd:¬ (l=[]∧(f.todo=[stopI]∨∃ ops,f.todo=[.inRegion ops [],stopI]))) {main main':Bool} :
  OneR C S E cs L w w' (stepG.exec C.P main true f l none w) (stepG.exec C.P main' true f' l' none w'):=by
 rcases h.part with ⟨y,y',s0,k,hp⟩|⟨ops,is,rest,k,h1,h2,hr,hb,hl,hcs⟩
 ·obtain ⟨h1,h2,hi,hk,re⟩:=hp
  have to:∀ z z',ItemsR C S f.fn E z z'→OneR C S E cs L w w' (toG f l none w (z++s0)) (toG f' l' none w' (z'++k)):=fun z z' hz=>
   OneR.same hw (gr_of (re E z z' (.refl E) hz))
  have leave:∀ j,(∀ c,j=some c→isJump c=true)→OneR C S E cs L w w' (leaveG C.P main f l none w j) (leaveG C.P main' f' l' none w' j):=fun j hj=>by
   refine leave_rel hw h hm j hj fun e _=>?_
   have:=h.round
   rw [e] at this
   cases e:f'.roundOf<;>rw [e] at this<;>first|rfl|exact this.elim
  cases hi with
  | nil=>
   rcases hk with ⟨rfl,rfl,hF,hL⟩|⟨rfl,rfl,hB⟩
   ·rw [exec_nil h1,exec_nil h2]
    exact leave none fun c h=>by cases h
   ·exact absurd ⟨rfl,.inl h1⟩ nd
  | @cons x x' z z' hx hz=>
   rw [List.cons_append] at h1 h2
   cases hx with
   | inBlock id=>rw [exec_inBlock h1,exec_inBlock h2];exact to _ _ hz
   | inScope hc=>rw [exec_inScope h1,exec_inScope h2];exact to _ _ hz
   | inLoop hc=>rw [exec_inLoop h1,exec_inLoop h2];exact to (.code _::.inLoop _::_) (.code _::.inLoop _::_) (.cons (.code hc) (.cons (.inLoop hc) hz))
   | inRegion is hr=>
    cases is with
    | nil=>rw [exec_region_done h1,exec_region_done h2];exact to _ _ hz
    | cons i r=>exact op_rel A hh hg hw h h1 h2 hr
   | inRangeFunc he=>rw [exec_inRangeFunc h1];exact OneR.nogo
   | @endRangeFunc lp lp' he=>
    rw [exec_endRangeFunc h1,exec_endRangeFunc h2]
    refine of_run (f:=fun r=>match r with
      | .ok jump w=>toG f l none w ((jump.map Item.code).toList++(z++s0))
      | .halt (.panic v) w=>.go { frame:=f.raise [{ v,recovered:=false }],callers:=l,status:=.running,dying:=none } w
      | .halt _ w=>.ended (.stuck "range over a function: no such loop" (f.pos C.P)) w)
     (f':=fun r=>match r with
      | .ok jump w=>toG f' l' none w ((jump.map Item.code).toList++(z'++k))
      | .halt (.panic v) w=>.go { frame:=f'.raise [{ v,recovered:=false }],callers:=l',status:=.running,dying:=none } w
      | .halt _ w=>.ended (.stuck "range over a function: no such loop" (f'.pos C.P)) w) hw (SimR.endLoop hh he) ?_ ?_ ?_ ?_
    ·rintro E1 j j' w1 w1' s ⟨rfl,hj⟩ hw1
     dsimp only
     rw [← List.append_assoc,← List.append_assoc]
     exact OneR.same hw1 (gr_of (re E1 _ _ s (toItems hj (hz.mono s))))
    ·intro E1 v v' w1 w1' s hv hw1
     dsimp only
     rcases (h.st.mono s).raise (.cons false false hv .nil) with hA|hB
     ·exact OneR.same hw1 (gr_of hA)
     ·exact .bad hB rfl
    ·intro x w1 hd
     cases x with
     | panic v=>exact absurd rfl (hd.1 v)
     | _=>exact ⟨_,_,_,rfl⟩
    ·intro r g1 w1 es h _
     cases r with
     | ok v w=>cases h;exact Nat.le_refl _
     | halt x w=>cases x<;>first|(cases h;exact Nat.le_refl _)|cases h
   | beginRound=>
    rw [exec_beginRound h1,exec_beginRound h2]
    have hs:SimR C (okP C S) E (do f.roundOf.elim (stuck "beginRound: no round") Instr.beginRound;pure .skip) (do f'.roundOf.elim (stuck "beginRound: no round") Instr.beginRound;pure .skip)
      (fun E1 n n'=>ValR C (okP C S) S E1 n n'∧n=.skip):=by
     have hr:=h.round
     cases e:f.roundOf with
     | none=>exact SimR.bind' (R:=fun _ _ _=>False) (.stuck _) fun _ _ _ _ h=>h.elim
     | some lp=>
      rw [e] at hr
      cases e':f'.roundOf with
      | none=>rw [e'] at hr;exact hr.elim
      | some lp'=>
       rw [e'] at hr
       exact SimR.bind' (SimR.beginRound hh hr) fun E1 s1 _ _ _=>.pure ⟨.skip,rfl⟩
    refine apply_rel (Q:=fun n=>n=.skip) A hw hs (fun d r v k e=>by rw [h1] at e;cases e) (fun d r v k e=>by rw [h2] at e;cases e) h.st ?_ ?_ ?_
    ·rintro n rfl (⟨_,_,hn⟩|⟨_,_,_,_,_,hn⟩)<;>cases hn
    ·exact fun E1 v v' s hv _=>(h.st.mono s).finish hv (fun ops i r k d e=>by rw [h1] at e;cases e) (.inr (.inr ⟨_,h1⟩))
    ·exact fun E1 c c' s hc=>(h.st.mono s).raise hc
   | @code c hc=>
    cases c with
    | skip=>rw [exec_skip h1,exec_skip h2];exact to _ _ hz
    | label n=>rw [exec_label h1,exec_label h2];exact to _ _ hz
    | seq a b=>
     simp only [okCode,Bool.and_eq_true] at hc
     rw [exec_seq h1,exec_seq h2]
     exact to (.code _::.code _::_) (.code _::.code _::_) (.cons (.code hc.1) (.cons (.code hc.2) hz))
    | block id b=>rw [exec_block h1,exec_block h2];exact to (.code _::.inBlock _::_) (.code _::.inBlock _::_) (.cons (.code hc) (.cons (.inBlock id) hz))
    | loop b=>rw [exec_loop h1,exec_loop h2];exact to (.code _::.inLoop _::_) (.code _::.inLoop _::_) (.cons (.code hc) (.cons (.inLoop hc) hz))
    | scope b=>rw [exec_scope h1,exec_scope h2];exact to (.code _::.inScope _::_) (.code _::.inScope _::_) (.cons (.code hc) (.cons (.inScope hc) hz))
    | cond x a b=>
     simp only [okCode,Bool.and_eq_true] at hc
     rw [exec_cond h1,exec_cond h2]
     have hev:EvR C S f.fn E f.eval f'.eval:=EvR.of_tm h.tmps hg
     have hx:=hev.at_ x hc.1.1
     generalize f.eval x=v at hx
     generalize f'.eval x=v' at hx
     cases hx with
     | bool b'=>
      cases b'
      ·exact to (.code _::_) (.code _::_) (.cons (.code hc.2) hz)
      ·exact to (.code _::_) (.code _::_) (.cons (.code hc.1.2) hz)
     | _=>exact OneR.nogo
    | region id ops d=>
     rw [exec_region h1,exec_region h2]
     cases d with
     | false=>exact to (.inRegion _ _::_) (.inRegion _ _::_) (.cons (.inRegion _ (okIs_of hc _)) hz)
     | true=>
      simp only [Bool.not_true,Bool.false_eq_true,if_false]
      rw [h.fn,run_choose,run_choose,if_neg (by simp [Question.forced]),if_neg (by simp [Question.forced])]
      dsimp only
      by_cases hl:∀ lim,L=some lim→w'.drawn<lim
      ·have ht:=hw.tape 0 (fun lim e=>hl lim e) (.order f.fn id)
       simp only [Nat.add_zero] at ht
       rw [ht]
       refine (OneR.same (cs:=cs) (E:=E) ?_ (gr_of (re E (.inRegion _ _::_) (.inRegion _ _::_) (.refl E) (.cons (.inRegion _ (okIs_of hc _)) hz)))).imp_world ?_ hw.old
       ·refine ⟨⟨hw.os,hw.dom,hw.fn,hw.inj,hw.old,hw.obj,hw.lid,hw.lsz,hw.glob⟩,fun k hk q=>?_⟩
        have:=hw.tape (k+1) (fun lim e=>by have:=hk lim e;simp at this;omega) q
        simp only [show ∀ n:Nat,n+1+k=n+(k+1) from fun n=>by omega]
        exact this
       ·exact ⟨.refl _,fun _ _ h=>.inl h,Nat.le_refl _,Nat.add_comm _ _,fun _ _ _=>rfl,rfl,by show w'.drawn+1+w.drawn=w.drawn+1+w'.drawn;omega,rfl,rfl,Nat.le_succ _⟩
      ·simp only [Classical.not_forall,not_imp,Nat.not_lt] at hl
       obtain ⟨lim,e,hlt⟩:=hl
       refine .inl ⟨lim,e,fun g1 w1 es hgo _=>?_⟩
       cases hgo
       show lim<w'.drawn+1
       omega
    | exit id=>
     rw [exec_exit h1,exec_exit h2]
     rcases exitTo_rel id hz with ⟨e1,e2⟩|⟨y,y',e1,e2,e3⟩
     ·rw [e1,e2]
      rcases hk with ⟨rfl,rfl,hF,hL⟩|⟨rfl,rfl,hB⟩
      ·exact leave (some (.exit id)) fun c h=>by cases h;rfl
      ·unfold leaveG
       simp only [stopI,exitTo,gotoIn,Option.elim_none,hB.round]
       exact OneR.nogo
     ·rw [e1,e3]
      exact to _ _ e2
    | goto n=>
     rw [exec_goto h1,exec_goto h2]
     rcases gotoIn_rel n hz with ⟨e1,e2⟩|⟨y,y',e1,e2,e3⟩
     ·rw [e1,e2]
      rcases hk with ⟨rfl,rfl,hF,hL⟩|⟨rfl,rfl,hB⟩
      ·exact leave (some (.goto n)) fun c h=>by cases h;rfl
      ·unfold leaveG
       simp only [stopI,exitTo,gotoIn,Option.elim_none,hB.round]
       exact OneR.nogo
     ·rw [e1,e3]
      exact to _ _ e2
    | ret=>rw [exec_ret h1,exec_ret h2];exact leave (some .ret) fun c h=>by cases h;rfl
    | refuse y=>rw [exec_refuse h1];exact OneR.nogo
    | rangeFunc x ps as bd=>
     rcases hk with ⟨rfl,rfl,hF,hL⟩|⟨rfl,rfl,hB⟩
     ·rw [List.append_nil] at h2
      exact rangeFunc_rel A hh hg hw hF hL h1 h2 (by simpa using hz) hc
     ·simp only [okCode,Bool.and_eq_true,Bool.not_eq_true',List.isEmpty_iff] at hc
      exact absurd hc.1.1.2 hB.norf
 ·subst hl hcs
  cases is with
  | nil=>exact absurd ⟨rfl,.inr ⟨_,h1⟩⟩ nd
  | cons i r=>exact op_rel A hh hg hw h h1 h2 hr
end
end Go.Sim
