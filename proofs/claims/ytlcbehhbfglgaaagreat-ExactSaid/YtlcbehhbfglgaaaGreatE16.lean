/- PROVED HERE: laws that the statement rests on (parts Sr, Sr2, Ss, St, Su). Conditions: none. -/
import Derived.Test.YtlcbehhbfglgaaaGreatE15
set_option linter.all false
namespace Go.Sim
inductive ChainR (C:Cx) (E:BRel):List PanicEntry→List PanicEntry→Prop
 | nil:ChainR C E [] []
 | cons {v v' l l'} (r g:Bool) (h:VR C E v v') (hl:ChainR C E l l'):ChainR C E ({ v,recovered:=r,goexit:=g }::l) ({ v:=v',recovered:=r,goexit:=g }::l')
inductive ModeR (C:Cx) (E:BRel):FrameMode→FrameMode→Prop
 | run:ModeR C E .run .run
 | returning:ModeR C E .returning .returning
 | panicking {c c'} (h:ChainR C E c c'):ModeR C E (.panicking c) (.panicking c')
structure FrR (C:Cx) (S:Kn) (E:BRel) (fr fr':Frame):Prop where
 fn:fr'.fn=fr.fn
 body:HasBody C fr.fn
 kind:fr.kind=.normal∨fr.kind=.deferred
 kind':fr'.kind=fr.kind
 round:OptR E fr.roundOf fr'.roundOf
 tmps:TmR C S fr.fn E fr.tmps fr'.tmps
 todo:ItemsR C S fr.fn E fr.todo fr'.todo
 defers:DefsR C E fr.defers fr'.defers
 mode:ModeR C E fr.mode fr'.mode
 hol:resFree C fr.fn
 rd:fr.roundOf≠none→S.df.contains fr.fn=false
def stuckD:Deferred:={ target:=.fn (.method "") #[],args:=#[] }
def stopI:Item:=.code (.refuse "")
structure Bot where
 fn:FuncId
 tm:Array Value
 k:List Item
 rest:List Nat
 kind:CallKind
 defers:List Deferred
 cs:List Frame
inductive RestR (C:Cx) (S:Kn) (cs:Bot) (fn:FuncId) (E:BRel):List Item→List Item→Prop
 | code {l l'} (hr:cs.rest=[]) (h:ItemsR C S fn E l l'):RestR C S cs fn E (l++[stopI]) (l'++cs.k)
 | ops {ops:Array Oper} (is:List Nat) (h:okIs C S fn ops is=true):RestR C S cs fn E [.inRegion ops is,stopI] (.inRegion ops (is++cs.rest)::cs.k)
structure BotR (C:Cx) (S:Kn) (cs:Bot) (E:BRel) (fr fr':Frame):Prop where
 fn:fr'.fn=fr.fn
 body:HasBody C fr.fn
 kind:fr.kind=.normal
 early:fr'.kind≠.early
 round:fr.roundOf=none
 round':fr'.roundOf=none
 tmps:TmR C S fr.fn E fr.tmps fr'.tmps
 todo:RestR C S cs fr.fn E fr.todo fr'.todo
 defers:fr.defers=[stuckD]
 mode:fr.mode=.run
 mode':fr'.mode=.run
 nodf:S.df.contains fr.fn=false
 norf:C.hl fr.fn≠[]
 kind2:fr'.kind=cs.kind
 dfr:fr'.defers=cs.defers
 fn2:fr'.fn=cs.fn
 hold:∀ i,(C.hl fr.fn).contains i=true→fr'.tmps[i]?=cs.tm[i]?
structure Waits (S:Kn) (f:Frame):Prop where
 own:∀ ops i r k d,f.todo=.inRegion ops (i::r)::k→(ops[i]?).bind (·.dst)=some d→(S.own f.fn).contains d=false
 head:(∃ ops i r k,f.todo=.inRegion ops (i::r)::k)∨∃ l k,f.todo=.inRangeFunc l::k
inductive LowR (C:Cx) (S:Kn) (E:BRel) (cs:Bot):CallKind→List Frame→List Frame→Prop
 | bot {k c c'} (h:BotR C S cs E c c') (ho:k=.normal→Waits S c):LowR C S E cs k [c] (c'::cs.cs)
 | cons {k f f' l l'} (h:FrR C S E f f') (ho:k=.normal→Waits S f) (hl:LowR C S E cs f.kind l l'):LowR C S E cs k (f::l) (f'::l')
inductive StR (C:Cx) (S:Kn) (E:BRel) (cs:Bot):List Frame→List Frame→Prop
 | bot {c c'} (h:BotR C S cs E c c'):StR C S E cs [c] (c'::cs.cs)
 | cons {f f' l l'} (h:FrR C S E f f') (hl:LowR C S E cs f.kind l l'):StR C S E cs (f::l) (f'::l')
structure GR (C:Cx) (S:Kn) (E:BRel) (cs:Bot) (g g':Goroutine):Prop where
 stack:StR C S E cs (g.frame::g.callers) (g'.frame::g'.callers)
 run:g.status=.running
 run':g'.status=.running
 dying:g.dying=none
 dying':g'.dying=none
 offers:g'.offers=none
def BadG (g:Goroutine):Prop:=g.callers=[]∧(∃ c,g.frame.mode=.panicking c)∧g.frame.defers=[stuckD]∧g.dying=none
def DoneG (g:Goroutine):Prop:=g.callers=[]∧g.frame.mode=.run∧(g.frame.todo=[stopI]∨∃ ops,g.frame.todo=[.inRegion ops [],stopI])
structure EndR (C:Cx) (S:Kn) (E:BRel) (cs:Bot) (g g':Goroutine):Prop where
 alone:g.callers=[]
 below:g'.callers=cs.cs
 fn:g'.frame.fn=g.frame.fn
 mode:g.frame.mode=.returning
 mode':g'.frame.mode=.returning
 tmps:TmR C S g.frame.fn E g.frame.tmps g'.frame.tmps
 defers:g.frame.defers=[stuckD]
 run:g.status=.running
 run':g'.status=.running
 dying:g.dying=none
 dying':g'.dying=none
 offers:g'.offers=none
 kind2:g'.frame.kind=cs.kind
 dfr:g'.frame.defers=cs.defers
 round':g'.frame.roundOf=none
 fn2:g'.frame.fn=cs.fn
 hold:∀ i,(C.hl g.frame.fn).contains i=true→g'.frame.tmps[i]?=cs.tm[i]?
section
variable {C:Cx} {S:Kn} {fn:FuncId} {E E1:BRel} {cs:Bot}
theorem ChainR.mono (s:Sub E E1) {l l':List PanicEntry} (h:ChainR C E l l'):ChainR C E1 l l':=by
 induction h with
 | nil=>exact .nil
 | cons r g h _ ih=>exact .cons r g (h.mono s) ih
theorem ChainR.append {a a' b b':List PanicEntry} (h:ChainR C E a a') (k:ChainR C E b b'):ChainR C E (a++b) (a'++b'):=by
 induction h with
 | nil=>exact k
 | cons r g h _ ih=>exact .cons r g h ih
theorem ModeR.mono (s:Sub E E1) {l l':FrameMode} (h:ModeR C E l l'):ModeR C E1 l l':=by
 cases h with
 | run=>exact .run
 | returning=>exact .returning
 | panicking h=>exact .panicking (h.mono s)
theorem FrR.mono (s:Sub E E1) {f f':Frame} (h:FrR C S E f f'):FrR C S E1 f f':=
 ⟨h.fn,h.body,h.kind,h.kind',h.round.mono' (s · ·),h.tmps.mono s,h.todo.mono s,h.defers.mono s,h.mode.mono s,h.hol,h.rd⟩
theorem RestR.mono (s:Sub E E1) {l l':List Item} (h:RestR C S cs fn E l l'):RestR C S cs fn E1 l l':=by
 cases h with
 | code hr h=>exact .code hr (h.mono s)
 | ops is h=>exact .ops is h
theorem BotR.mono (s:Sub E E1) {f f':Frame} (h:BotR C S cs E f f'):BotR C S cs E1 f f':=
 { h with tmps:=h.tmps.mono s,todo:=h.todo.mono s }
theorem LowR.mono (s:Sub E E1) {k:CallKind} {l l':List Frame} (h:LowR C S E cs k l l'):LowR C S E1 cs k l l':=by
 induction h with
 | bot h ho=>exact .bot (h.mono s) ho
 | cons h ho _ ih=>exact .cons (h.mono s) ho ih
theorem StR.mono (s:Sub E E1) {l l':List Frame} (h:StR C S E cs l l'):StR C S E1 cs l l':=by
 cases h with
 | bot h=>exact .bot (h.mono s)
 | cons h hl=>exact .cons (h.mono s) (hl.mono s)
theorem StR.low {l l':List Frame} {f f':Frame} (h:StR C S E cs (f::l) (f'::l')) (k:CallKind) (ho:k=.normal→Waits S f):LowR C S E cs k (f::l) (f'::l'):=by
 cases h with
 | bot h=>exact .bot h ho
 | cons h hl=>exact .cons h ho hl
theorem BadG.ends {P:Program} {g:Goroutine} {w:World} (h:BadG g):∃ o w1 es,stepG P true g w=.ended o w1 es:=by
 obtain ⟨fr,callers,st,dy,of⟩:=g
 obtain ⟨h1,h2,h3,h4⟩:=h
 simp only at h1 h2 h3 h4
 subst h1 h4
 obtain ⟨c,hm⟩:=h2
 exact ⟨_,_,_,by simp [stepG,hm,unwind,h3,stuckD,callDeferred,invoke];rfl⟩
end
theorem go_of_after {es:Array Event} {r:GStep} {g:Goroutine} {w:World} {e1:Array Event} (h:GStep.after es r=.go g w e1):∃ e2,r=.go g w e2:=by
 cases r<;>simp [GStep.after] at h
 obtain ⟨rfl,rfl,_⟩:=h
 exact ⟨_,rfl⟩
theorem choose_mono {P:Program} {q:Question} {w w1:World} {n:Nat} (h:(choose q).run P w=.ok n w1):w.drawn≤w1.drawn:=by
 have:=run_mono P (choose q) w
 rw [h] at this
 exact this
theorem notYet_mono {P:Program} {fr:Frame} {callers:List Frame} {dying:Option Dying} {b:Nat} {w w1:World} {g:Goroutine} {es:Array Event}
  (h:(match w.heap[b]? with
   | some (.pending c elem)=>GStep.go { frame:=fr,callers,status:=.running,dying } { w with heap:=w.heap.setIfInBounds b (.cells c elem) }
   | _=>.ended (.stuck "early: the variable does not wait" (fr.pos P)) w)=.go g w1 es):w.drawn≤w1.drawn:=by
 split at h
 ·cases h;exact Nat.le_refl _
 ·cases h
theorem early_mono {P:Program} {fr:Frame} {callers:List Frame} {dying:Option Dying} {b:Nat} {w w1:World} {g:Goroutine} {es:Array Event} (h:early P fr callers dying b w=.go g w1 es):w.drawn≤w1.drawn:=by
 unfold early at h
 dsimp only at h
 rcases ite_ok h with h|h
 ·exact notYet_mono h
 cases hs:P.stepOf b with
 | none=>rw [hs] at h;cases h
 | some f=>
  rw [hs] at h
  dsimp only at h
  rcases ite_ok h with h|h
  ·exact notYet_mono h
  rcases ite_ok h with h|h
  ·exact notYet_mono h
  generalize P.found w P.funcs.size f=x at h
  generalize (fr.kind == .early)=y at h
  cases x<;>cases y<;>dsimp only at h<;>try cases h
  ·exact notYet_mono h
  ·rcases ite_ok h with h|h
   ·cases h;exact Nat.le_refl _
   rcases ite_ok h with h|h
   ·exact notYet_mono h
   cases hc:(choose (.early b)).run P w with
   | halt x w2=>rw [hc] at h;cases h
   | ok n w2=>
    have hm:=choose_mono hc
    rw [hc] at h
    cases n with
    | zero=>exact Nat.le_trans hm (notYet_mono h)
    | succ n=>cases h;exact hm
  ·exact Nat.le_refl _
theorem dieOf_dying {fr:Frame} {l:List ByteArray} {m:String} {b:Bool} {w w1:World} {g:Goroutine} {es:Array Event} (h:dieOf fr l m b w=.go g w1 es):g.dying≠none:=by
 unfold dieOf at h
 cases h
 simp
theorem endThrow_dying {fr:Frame} {m:String} {w w1:World} {g:Goroutine} {es:Array Event} (h:endThrow fr m w=.go g w1 es):g.dying≠none:=dieOf_dying h
theorem endFatal_dying {P:Program} {fr:Frame} {callers:List Frame} {m:String} {w w1:World} {g:Goroutine} {es:Array Event} (h:endFatal P fr callers none m w=.go g w1 es):g.dying≠none:=by
 unfold endFatal at h
 dsimp only at h
 split at h
 ·exact dieOf_dying h
 ·cases h
 ·cases h
theorem apply_mono {P:Program} {fr:Frame} {callers:List Frame} {s:Sem Next} {w w1:World} {g:Goroutine} {es:Array Event} (h:stepG.apply P true fr callers none s w=.go g w1 es) (hd:g.dying=none) :
  (s.run P w).left.drawn≤w1.drawn:=by
 unfold stepG.apply at h
 simp only [Sem.runT_eq,if_true] at h
 cases hr:s.run P w with
 | ok n w2=>
  rw [hr] at h
  obtain ⟨e2,h⟩:=go_of_after h
  show w2.drawn≤w1.drawn
  cases n with
  | recover=>dsimp only at h;split at h<;>(cases h;exact Nat.le_refl _)
  | callThen _ _ _ _=>dsimp only at h;split at h<;>(cases h;exact Nat.le_refl _)
  | row _ _=>dsimp only at h;split at h<;>(cases h;exact Nat.le_refl _)
  | stack _ _=>dsimp only at h;split at h<;>(cases h;exact Nat.le_refl _)
  | spawn d=>
   dsimp only at h
   rcases ite_ok h with h|h
   ·exact absurd hd (endThrow_dying h)
   ·cases h
  | _=>cases h<;>exact Nat.le_refl _
 | halt x w2=>
  rw [hr] at h
  obtain ⟨e2,h⟩:=go_of_after h
  show w2.drawn≤w1.drawn
  cases x with
  | fatal m=>exact absurd hd (endFatal_dying h)
  | throw m=>exact absurd hd (endThrow_dying h)
  | unsupported u=>
   cases u with
   | initOrder b=>exact early_mono h
   | _=>cases h
  | _=>cases h<;>exact Nat.le_refl _
theorem callDeferred_mono {P:Program} {fr:Frame} {callers:List Frame} {d:Deferred} {w w1:World} {g:Goroutine} {es:Array Event} (h:callDeferred P fr callers none d w=.go g w1 es) (hd:g.dying=none) :
  ((invoke d.target d.args).run P w).left.drawn≤w1.drawn:=by
 unfold callDeferred at h
 rcases ite_ok h with h|h
 ·cases h
 simp only [Sem.runT_eq] at h
 cases hr:(invoke d.target d.args).run P w with
 | ok n w2=>
  rw [hr] at h
  obtain ⟨e2,h⟩:=go_of_after h
  show w2.drawn≤w1.drawn
  cases n with
  | recover=>dsimp only at h;split at h<;>(cases h;exact Nat.le_refl _)
  | alone b v=>cases b<;>cases h
  | coroswitch c b=>cases b<;>cases h
  | _=>cases h<;>exact Nat.le_refl _
 | halt x w2=>
  rw [hr] at h
  obtain ⟨e2,h⟩:=go_of_after h
  show w2.drawn≤w1.drawn
  cases x with
  | fatal m=>exact absurd hd (endFatal_dying h)
  | throw m=>exact absurd hd (endThrow_dying h)
  | _=>cases h<;>exact Nat.le_refl _
theorem seen_sub {P:Program} {fn:FuncId} {es:Array Event} {e:Event} (h:e∈seen P fn es):e∈es:=by
 dsimp only [seen] at h
 rw [← Array.foldl_toList] at h
 have key:∀ (l:List Event) (x:Bool × Array Event),e∈(l.foldl (fun (x:Bool × Array Event) (e:Event)=>match x,e with
   | (q,kept),e=>match e.loc with
    | .mark (.extern f)=>((P.funcs[f]?).any (·.norace),kept)
    | _=>(q,if q && !e.sync then kept else kept.push e)) x).2→e∈x.2∨e∈l:=by
  intro l
  induction l with
  | nil=>intro x h;exact .inl h
  | cons a l ih=>
   intro x h
   simp only [List.foldl_cons] at h
   obtain ⟨q,kept⟩:=x
   rcases ih _ h with h|h
   ·dsimp only at h
    split at h
    ·exact .inl h
    ·dsimp only at h
     split at h
     ·exact .inl h
     ·rcases Array.mem_push.1 h with h|h
      ·exact .inl h
      ·exact .inr (by rw [h];exact List.mem_cons_self ..)
   ·exact .inr (List.mem_cons_of_mem _ h)
 rcases key _ _ h with h|h
 ·simp at h
 ·simpa using h
def OverG (L:Option Nat) (r':GStep):Prop:=∃ lim,L=some lim∧∀ g1 w1 es,r'=.go g1 w1 es→g1.dying=none→lim<w1.drawn
def OneR (C:Cx) (S:Kn) (E:BRel) (cs:Bot) (L:Option Nat) (w w':World) (r r':GStep):Prop:=
 OverG L r'∨(∃ o w1 es,r=.ended o w1 es)∨∃ g1 w1 es,r=.go g1 w1 es∧g1.status=.running∧g1.dying=none ∧
  (BadG g1∨∃ E1 g1' w1' es',r'=.go g1' w1' es'∧WT C (okP C S) E1 L w1 w1'∧Grow C E E1 w w' w1 w1'∧(GR C S E1 cs g1 g1'∨EndR C S E1 cs g1 g1')∧∀ e∈es',EvOk C E1 e)
theorem OneR.good {C:Cx} {S:Kn} {E E1:BRel} {cs:Bot} {L:Option Nat} {w w' w1 w1':World} {g1 g1':Goroutine} {es es':Array Event} (hw:WT C (okP C S) E1 L w1 w1') (hg:Grow C E E1 w w' w1 w1') (h:GR C S E1 cs g1 g1')
  (he:∀ e∈es',EvOk C E1 e):OneR C S E cs L w w' (.go g1 w1 es) (.go g1' w1' es'):=
 .inr (.inr ⟨_,_,_,rfl,h.run,h.dying,.inr ⟨E1,_,_,_,rfl,hw,hg,.inl h,he⟩⟩)
theorem OneR.bad {C:Cx} {S:Kn} {E:BRel} {cs:Bot} {L:Option Nat} {w w' w1:World} {g1:Goroutine} {es:Array Event} {r':GStep} (h:BadG g1) (hs:g1.status=.running):OneR C S E cs L w w' (.go g1 w1 es) r':=
 .inr (.inr ⟨_,_,_,rfl,hs,h.2.2.2,.inl h⟩)
theorem OneR.nogo {C:Cx} {S:Kn} {E:BRel} {cs:Bot} {L:Option Nat} {w w':World} {o:Outcome} {w1:World} {es:Array Event} {r':GStep}:OneR C S E cs L w w' (.ended o w1 es) r':=.inr (.inl ⟨_,_,_,rfl⟩)
theorem FrR.enter {C:Cx} {S:Kn} {E:BRel} {f:FuncId} {a a':Array Value} {k:CallKind} (hk:k=.normal∨k=.deferred) (hb:HasBody C f) (ho:resFree C f)
  (hc:∀ fn b,C.P.funcs[f]?=some fn→fn.body=some b→okCode C S f b=true) (ha:AR C E a a') (hf:Ent C S f a) :
  FrR C S E (Frame.enter C.P f a k) (Frame.enter C.P f a' k):=by
 obtain ⟨fn,h1,h2,h3⟩:=hb
 refine ⟨rfl,⟨fn,h1,h2,h3⟩,hk,rfl,trivial,TmR.enter ha hf _,?_,.nil,.run,ho,fun h=>absurd rfl h⟩
 cases hbd:fn.body with
 | none=>rw [hbd] at h2;cases h2
 | some b=>
  have:=hc fn b h1 hbd
  simp only [Frame.enter,h1,Option.bind_some,hbd,Option.getD_some]
  exact .cons (.code this) .nil
theorem FrR.round_of {C:Cx} {S:Kn} {E:BRel} {l l':Nat} {f:FuncId} {t t':Array Value} {as bd:Code} {k:CallKind} (hk:k=.normal∨k=.deferred) (hl:E l l') (ht:HR C E f t t')
  (h1:okP C S f as) (h2:okP C S f bd):FrR C S E (Frame.round l f t as bd k) (Frame.round l' f t' as bd k):=by
 refine ⟨rfl,h1.2.2.2.1,hk,rfl,hl,⟨ht.size,fun i x x'=>ht.at_ i x x',fun i x hi=>?_⟩,.cons (.code h1.1) (.cons .beginRound (.cons (.code h2.1) .nil)),.nil,.run,h1.2.2.1,fun _=>h1.2.2.2.2⟩
 have:=h1.2.1
 simp [Frame.round,this] at hi
structure AllOk (C:Cx) (S:Kn):Prop where
 kn:KnOk C S
 hol:∀ f,S.cs.contains f=true→C.hl f=[]
 code:∀ f fn b,S.cs.contains f=true→C.P.funcs[f]?=some fn→fn.body=some b→okCode C S f b=true
theorem AllOk.free {C:Cx} {S:Kn} (A:AllOk C S) {f:FuncId} (h:S.cs.contains f=true):resFree C f:=fun _ _ _ _=>by rw [A.hol f h];rfl
section
variable {C:Cx} {S:Kn} {E:BRel} {cs:Bot}
theorem apply_rel (A:AllOk C S) {fr fr':Frame} {callers callers':List Frame} {s s':Sem Next} {L:Option Nat} {w w':World} {Q:Next→Prop}
  (hw:WT C (okP C S) E L w w') (hs:SimR C (okP C S) E s s' (fun E1 n n'=>ValR C (okP C S) S E1 n n'∧Q n))
  (hk:∀ d r v k,fr.todo≠.call d true r v::k) (hk':∀ d r v k,fr'.todo≠.call d true r v::k)
  (hst:StR C S E cs (fr::callers) (fr'::callers'))
  (hwt:∀ n,Q n→(∃ f a,n=.enter f a)∨(∃ l f t a b,n=.round l f t a b)→Waits S fr)
  (hfin:∀ E1 v v',Sub E E1→VR C E1 v v'→(Q (.value v)∨v=undef)→StR C S E1 cs (fr.finish v::callers) (fr'.finish v'::callers'))
  (hraise:∀ E1 c c',Sub E E1→ChainR C E1 c c'→StR C S E1 cs (fr.raise c::callers) (fr'.raise c'::callers')∨BadG { frame:=fr.raise c,callers,status:=.running,dying:=none }) :
  OneR C S E cs L w w' (stepG.apply C.P true fr callers none s w) (stepG.apply C.P true fr' callers' none s' w'):=by
 rcases hs L w w' hw with ⟨lim,hL,ho⟩|h
 ·exact .inl ⟨lim,hL,fun g1 w1 es hgo hd=>Nat.lt_of_lt_of_le ho (apply_mono hgo hd)⟩
 have hkd:(match fr.todo with | .call _ true _ _::_=>CallKind.wrapped|_=>CallKind.normal)=.normal:=by
  split
  ·rename_i d r v k e;exact absurd e (hk _ _ _ _)
  ·rfl
 have hkd':(match fr'.todo with | .call _ true _ _::_=>CallKind.wrapped|_=>CallKind.normal)=.normal:=by
  split
  ·rename_i d r v k e;exact absurd e (hk' _ _ _ _)
  ·rfl
 unfold stepG.apply
 simp only [Sem.runT_eq,if_true,hkd,hkd']
 cases hr:s.run C.P w with
 | ok n w2=>
  rw [hr] at h
  obtain ⟨E1,n',w2',e1,e2,e3,⟨e4,e5⟩,e6⟩:=h
  rw [e1]
  have hes:∀ e,e∈(seen C.P fr'.fn (if fr'.kind == .early then #[] else s'.events C.P w' #[])++#[])→EvOk C E1 e:=fun e he=>by
   rw [Array.append_empty] at he
   have:=seen_sub he
   split at this
   ·simp at this
   ·exact e6 e this
  cases e4 with
  | value hv=>
   exact .good e2 e3 ⟨hfin E1 _ _ e3.sub hv (.inl e5),rfl,rfl,rfl,rfl,rfl⟩ hes
  | skip=>
   exact .good e2 e3 ⟨hfin E1 _ _ e3.sub .undef (.inr rfl),rfl,rfl,rfl,rfl,rfl⟩ hes
  | enter ha hf=>
   have hfr:=FrR.enter (.inl rfl) (A.kn.cs _ hf.1) (A.free hf.1) (A.code _ · · hf.1) ha hf
   exact .good e2 e3 ⟨.cons hfr ((hst.mono e3.sub).low _ fun _=>hwt _ e5 (.inl ⟨_,_,rfl⟩)),rfl,rfl,rfl,rfl,rfl⟩ hes
  | round hl ht h1 h2=>
   exact .good e2 e3 ⟨.cons (FrR.round_of (.inl rfl) hl ht h1 h2) ((hst.mono e3.sub).low _ fun _=>hwt _ e5 (.inr ⟨_,_,_,_,_,rfl⟩)),rfl,rfl,rfl,rfl,rfl⟩ hes
 | halt x w2=>
  rw [hr] at h
  cases x with
  | panic v=>
   obtain ⟨E1,v',w2',e1,e2,e3,e4,e6⟩:=h
   rcases hraise E1 _ _ e3.sub (.cons false false e4 .nil) with hA|hB
   ·rw [e1]
    refine .good e2 e3 ⟨hA,rfl,rfl,rfl,rfl,rfl⟩ fun e he=>?_
    rw [Array.append_empty] at he
    have:=seen_sub he
    split at this
    ·simp at this
    ·exact e6 e this
   ·exact .bad hB rfl
  | goexit=>exact absurd rfl h.2.1
  | blocked=>exact absurd rfl h.2.2.2.2.2.1
  | waiting=>exact absurd rfl h.2.2.2.2.2.2
  | exit c=>exact .nogo
  | fatal m=>exact absurd rfl (h.2.2.2.2.1 m)
  | throw m=>exact absurd rfl (h.2.2.2.1 m)
  | stuck s=>exact .nogo
  | unsupported u=>
   cases u with
   | initOrder g=>exact absurd rfl (h.2.2.1 g)
   | _=>exact .nogo
end
section
variable {C:Cx} {S:Kn} {E:BRel} {cs:Bot}
def OwnHead (C:Cx) (S:Kn) (fr:Frame) (v:Value):Prop:=
 ∀ ops i r k d,fr.todo=.inRegion ops (i::r)::k→(ops[i]?).bind (·.dst)=some d→(S.own fr.fn).contains d=true→OwnV C v
theorem Waits.head_own {fr:Frame} (h:Waits S fr) (v:Value):OwnHead C S fr v:=fun ops i r k d a b c=>by
 rw [h.own ops i r k d a b] at c;cases c
theorem put_rel {fn:FuncId} {t t':Array Value} (h:TmR C S fn E t t') {v v':Value} (hv:VR C E v v') (d:Option Tmp):(∀ x,d=some x→(S.own fn).contains x=true→OwnV C v) →
  TmR C S fn E (match d with|some d=>t.setIfInBounds d v|none=>t) (match d with|some d=>t'.setIfInBounds d v'|none=>t'):=by
 intro ho
 cases d with
 | none=>exact h
 | some d=>exact h.set d hv (ho d rfl)
theorem FrR.finish {fr fr':Frame} (h:FrR C S E fr fr') {v v':Value} (hv:VR C E v v') (ho:OwnHead C S fr v):FrR C S E (fr.finish v) (fr'.finish v'):=by
 obtain ⟨fn,tmps,todo,defers,mode,kind,ro⟩:=fr
 obtain ⟨fn',tmps',todo',defers',mode',kind',ro'⟩:=fr'
 obtain ⟨h1,h2,h3,h4,h5,h6,h7,h8,h9,h10,h11⟩:=h
 simp only at *
 subst h1
 cases h7 with
 | nil=>exact ⟨rfl,h2,h3,h4,h5,h6,.nil,h8,h9,h10,h11⟩
 | cons hx hl=>
  cases hx with
  | inRegion is hr=>
   cases is with
   | nil=>exact ⟨rfl,h2,h3,h4,h5,h6,.cons (.inRegion [] hr) hl,h8,h9,h10,h11⟩
   | cons i r=>exact ⟨rfl,h2,h3,h4,h5,put_rel h6 hv _ fun x hx=>ho _ _ _ _ x rfl hx,.cons (.inRegion r (okIs_tail hr)) hl,h8,h9,h10,h11⟩
  | inRangeFunc he=>exact ⟨rfl,h2,h3,h4,h5,h6,.cons (.endRangeFunc he) hl,h8,h9,h10,h11⟩
  | beginRound=>exact ⟨rfl,h2,h3,h4,h5,h6,hl,h8,h9,h10,h11⟩
  | code hc=>exact ⟨rfl,h2,h3,h4,h5,h6,.cons (.code hc) hl,h8,h9,h10,h11⟩
  | inBlock id=>exact ⟨rfl,h2,h3,h4,h5,h6,.cons (.inBlock id) hl,h8,h9,h10,h11⟩
  | inLoop hc=>exact ⟨rfl,h2,h3,h4,h5,h6,.cons (.inLoop hc) hl,h8,h9,h10,h11⟩
  | inScope hc=>exact ⟨rfl,h2,h3,h4,h5,h6,.cons (.inScope hc) hl,h8,h9,h10,h11⟩
  | endRangeFunc he=>exact ⟨rfl,h2,h3,h4,h5,h6,.cons (.endRangeFunc he) hl,h8,h9,h10,h11⟩
theorem Frame.finish_kind (fr:Frame) (v:Value):(fr.finish v).kind=fr.kind:=by
 unfold Frame.finish;split<;>first|rfl|(split<;>rfl)
theorem Frame.raise_kind (fr:Frame) (c:List PanicEntry):(fr.raise c).kind=fr.kind:=by
 unfold Frame.raise;split<;>rfl
theorem FrR.raise {fr fr':Frame} (h:FrR C S E fr fr') {c c':List PanicEntry} (hc:ChainR C E c c'):FrR C S E (fr.raise c) (fr'.raise c'):=by
 obtain ⟨fn,tmps,todo,defers,mode,kind,ro⟩:=fr
 obtain ⟨fn',tmps',todo',defers',mode',kind',ro'⟩:=fr'
 obtain ⟨h1,h2,h3,h4,h5,h6,h7,h8,h9,h10,h11⟩:=h
 simp only at *
 subst h1
 cases h9 with
 | run=>exact ⟨rfl,h2,h3,h4,h5,h6,h7,h8,.panicking hc,h10,h11⟩
 | returning=>exact ⟨rfl,h2,h3,h4,h5,h6,h7,h8,.panicking hc,h10,h11⟩
 | panicking h=>exact ⟨rfl,h2,h3,h4,h5,h6,h7,h8,.panicking (hc.append h),h10,h11⟩
theorem put_hold {fn:FuncId} {ops:Array Oper} {i:Nat} (hr:okD C fn ops i=true) {t tm:Array Value} (h:∀ j,(C.hl fn).contains j=true→t[j]?=tm[j]?) (v:Value) :
  ∀ j,(C.hl fn).contains j=true→(match (ops[i]?).bind (·.dst) with|some d=>t.setIfInBounds d v|none=>t)[j]?=tm[j]?:=by
 intro j hj
 cases ho:ops[i]? with
 | none=>exact h j hj
 | some o=>
  cases hd:o.dst with
  | none=>simpa [hd] using h j hj
  | some d=>
   have hol:(C.hl fn).contains d=false:=by
    unfold okD at hr
    rw [ho] at hr
    simp only [Bool.and_eq_true] at hr
    have:=hr.1
    unfold okSl at this
    simpa only [hd,Bool.not_eq_true'] using this
   have hne:d≠j:=fun e=>by rw [e,hj] at hol;cases hol
   simp only [Option.bind_some,hd,Array.getElem?_setIfInBounds_ne hne]
   exact h j hj
theorem BotR.finish {fr fr':Frame} (h:BotR C S cs E fr fr') {v v':Value} (hv:VR C E v v') (ho:OwnHead C S fr v)
  (hd:(∃ ops i r k,fr.todo=.inRegion ops (i::r)::k)∨(∃ l k,fr.todo=.inRangeFunc l::k)∨∃ k,fr.todo=.beginRound::k):BotR C S cs E (fr.finish v) (fr'.finish v'):=by
 obtain ⟨fn,tmps,todo,defers,mode,kind,ro⟩:=fr
 obtain ⟨fn',tmps',todo',defers',mode',kind',ro'⟩:=fr'
 obtain ⟨h1,h2,h3,h4,h5,h6,h7,h8,h9,h10,h11,h12,h13,h14,h15,h16,h17⟩:=h
 simp only at *
 subst h1
 generalize e1:todo=y at h8
 cases h8 with
 | code hr8 h8=>
  subst e1
  cases h8 with
  | nil=>
   rcases hd with ⟨_,_,_,_,h⟩|⟨_,_,h⟩|⟨_,h⟩<;>cases h
  | cons hx hl=>
   cases hx with
   | inRegion is hr=>
    cases is with
    | nil=>rcases hd with ⟨_,_,_,_,h⟩|⟨_,_,h⟩|⟨_,h⟩<;>cases h
    | cons i r=>exact ⟨rfl,h2,h3,h4,h5,h6,put_rel h7 hv _ fun x hx=>ho _ _ _ _ x rfl hx,.code hr8 (.cons (.inRegion r (okIs_tail hr)) hl),h9,h10,h11,h12,h13,h14,h15,h16,put_hold (okIs_dst hr) h17 _⟩
   | inRangeFunc he=>exact ⟨rfl,h2,h3,h4,h5,h6,h7,.code hr8 (.cons (.endRangeFunc he) hl),h9,h10,h11,h12,h13,h14,h15,h16,h17⟩
   | beginRound=>exact ⟨rfl,h2,h3,h4,h5,h6,h7,.code hr8 hl,h9,h10,h11,h12,h13,h14,h15,h16,h17⟩
   | _=>rcases hd with ⟨_,_,_,_,h⟩|⟨_,_,h⟩|⟨_,h⟩<;>cases h
 | ops is hr=>
  subst e1
  cases is with
  | nil=>rcases hd with ⟨_,_,_,_,h⟩|⟨_,_,h⟩|⟨_,h⟩<;>cases h
  | cons i r=>exact ⟨rfl,h2,h3,h4,h5,h6,put_rel h7 hv _ fun x hx=>ho _ _ _ _ x rfl hx,.ops r (okIs_tail hr),h9,h10,h11,h12,h13,h14,h15,h16,put_hold (okIs_dst hr) h17 _⟩
theorem StR.finish {fr fr':Frame} {l l':List Frame} (h:StR C S E cs (fr::l) (fr'::l')) {v v':Value} (hv:VR C E v v') (ho:OwnHead C S fr v)
  (hd:(∃ ops i r k,fr.todo=.inRegion ops (i::r)::k)∨(∃ l k,fr.todo=.inRangeFunc l::k)∨∃ k,fr.todo=.beginRound::k):StR C S E cs (fr.finish v::l) (fr'.finish v'::l'):=by
 cases h with
 | bot h=>exact .bot (h.finish hv ho hd)
 | cons h hl=>exact .cons (h.finish hv ho) (by rw [Frame.finish_kind];exact hl)
theorem BotR.bad {c c':Frame} (h:BotR C S cs E c c') (ch:List PanicEntry):BadG { frame:=c.raise ch,callers:=[],status:=.running,dying:=none }:=by
 have e:c.raise ch={ c with mode:=.panicking ch }:=by unfold Frame.raise;rw [h.mode]
 rw [e]
 exact ⟨rfl,⟨_,rfl⟩,h.defers,rfl⟩
theorem StR.raise {fr fr':Frame} {l l':List Frame} (h:StR C S E cs (fr::l) (fr'::l')) {c c':List PanicEntry} (hc:ChainR C E c c') :
  StR C S E cs (fr.raise c::l) (fr'.raise c'::l')∨BadG { frame:=fr.raise c,callers:=l,status:=.running,dying:=none }:=by
 cases h with
 | bot h=>exact .inr (h.bad c)
 | cons h hl=>exact .inl (.cons (h.raise hc) (by rw [Frame.raise_kind];exact hl))
theorem LowR.top {k:CallKind} {l l':List Frame} (h:LowR C S E cs k l l'):StR C S E cs l l':=by
 cases h with
 | bot h _=>exact .bot h
 | cons h _ hl=>exact .cons h hl
theorem ChainR.drop {l l':List PanicEntry} (h:ChainR C E l l'):ChainR C E (l.dropWhile (!·.goexit)) (l'.dropWhile (!·.goexit)):=by
 induction h with
 | nil=>exact .nil
 | cons r g h hl ih=>
  cases g with
  | true=>exact .cons r true h hl
  | false=>exact ih
def back (c:Frame):Frame:=
 match c.mode with
 | .panicking ({ recovered:=true,.. }::older)=>
  match older.dropWhile (!·.goexit) with
  | []=>{ c with mode:=.returning }
  | rest=>{ c with mode:=.panicking rest }
 | _=>c
theorem back_kind (c:Frame):(back c).kind=c.kind:=by
 unfold back;split
 ·split<;>rfl
 ·rfl
theorem FrR.setMode {fr fr':Frame} (h:FrR C S E fr fr') {m m':FrameMode} (hm:ModeR C E m m'):FrR C S E { fr with mode:=m } { fr' with mode:=m' }:=
 ⟨h.fn,h.body,h.kind,h.kind',h.round,h.tmps,h.todo,h.defers,hm,h.hol,h.rd⟩
theorem FrR.back {fr fr':Frame} (h:FrR C S E fr fr'):FrR C S E (back fr) (back fr'):=by
 have hm:=h.mode
 unfold Sim.back
 generalize hm1:fr.mode=m at hm
 generalize hm2:fr'.mode=m' at hm
 cases hm with
 | run=>exact h
 | returning=>exact h
 | panicking hc=>
  cases hc with
  | nil=>exact h
  | cons r g hv hl=>
   cases r with
   | false=>exact h
   | true=>
    have hd:=hl.drop
    dsimp only
    generalize List.dropWhile _ _=a at hd
    generalize List.dropWhile _ _=b at hd
    cases hd with
    | nil=>exact h.setMode .returning
    | cons r g hv hl=>exact h.setMode (.panicking (.cons r g hv hl))
theorem doReturn_rel {k:CallKind} {callers callers':List Frame} (h:LowR C S E cs k callers callers') (hn:k=.normal∨k=.deferred) {fr fr':Frame} (hk:fr.kind=k) (hk':fr'.kind=k)
  {v v':Value} (hv:VR C E v v'):∃ c l c' l',(∀ m w,doReturn C.P m fr callers none v w=.go { frame:=c,callers:=l,status:=.running,dying:=none } w) ∧
   (∀ m w,doReturn C.P m fr' callers' none v' w=.go { frame:=c',callers:=l',status:=.running,dying:=none } w)∧StR C S E cs (c::l) (c'::l'):=by
 rcases hn with rfl|rfl
 ·cases h with
  | bot h ho=>
   refine ⟨_,_,_,_,fun m w=>by simp only [doReturn,hk],fun m w=>by simp only [doReturn,hk'],.bot (h.finish hv ((ho rfl).head_own _) ?_)⟩
   rcases (ho rfl).head with h|h
   ·exact .inl h
   ·exact .inr (.inl h)
  | cons h ho hl=>exact ⟨_,_,_,_,fun m w=>by simp only [doReturn,hk];rfl,fun m w=>by simp only [doReturn,hk'];rfl,.cons (h.finish hv ((ho rfl).head_own _)) (by rw [Frame.finish_kind];exact hl)⟩
 ·cases h with
  | bot h ho=>exact ⟨_,_,_,_,fun m w=>by simp only [doReturn,hk,h.mode],fun m w=>by simp only [doReturn,hk',h.mode'],.bot h⟩
  | @cons _ f f' _ _ h ho hl=>exact ⟨back f,_,back f',_,fun m w=>by simp only [doReturn,hk];rfl,fun m w=>by simp only [doReturn,hk'];rfl,.cons h.back (by rw [back_kind];exact hl)⟩
theorem tryRecover_rel {fr fr':Frame} {callers callers':List Frame} (h:FrR C S E fr fr') (hl:LowR C S E cs fr.kind callers callers') :
  (tryRecover fr callers=none∧tryRecover fr' callers'=none) ∨
   ∃ v v' l l',tryRecover fr callers=some (v,l)∧tryRecover fr' callers'=some (v',l')∧VR C E v v'∧LowR C S E cs fr.kind l l':=by
 have hk:=h.kind'
 rcases h.kind with e|e
 ·left
  rw [e] at hk
  constructor
  ·unfold tryRecover;rw [e]
  ·unfold tryRecover;rw [hk]
 ·rw [e] at hk hl
  rw [e]
  unfold tryRecover
  rw [e,hk]
  cases hl with
  | bot hb ho=>left;dsimp only;rw [hb.mode,hb.mode'];exact ⟨rfl,rfl⟩
  | @cons _ f f' _ _ hf ho hl=>
   dsimp only
   have hm:=hf.mode
   generalize hm1:f.mode=m at hm
   generalize hm2:f'.mode=m' at hm
   cases hm with
   | run=>exact .inl ⟨rfl,rfl⟩
   | returning=>exact .inl ⟨rfl,rfl⟩
   | panicking hc=>
    cases hc with
    | nil=>exact .inl ⟨rfl,rfl⟩
    | cons r g hv hl2=>
     cases r with
     | true=>exact .inl ⟨rfl,rfl⟩
     | false=>
      cases g with
      | true=>exact .inl ⟨rfl,rfl⟩
      | false=>exact .inr ⟨_,_,_,_,rfl,rfl,hv,.cons (hf.setMode (.panicking (.cons true false hv hl2))) (fun x=>nomatch x) hl⟩
end
section
variable {C:Cx} {ok:FuncId→Code→Prop} {E:BRel}
theorem SimR.getLoop {l l':Nat} (h:E l l'):SimR C ok E (Instr.getLoop l) (Instr.getLoop l') (fun E1 r r'=>LoopR C ok E1 r r'∧¬ C.Sh l):=by
 unfold Instr.getLoop
 refine SimR.bind' (SimR.getObj h) fun E1 s1 o o' ho=>?_
 obtain ⟨h3,_⟩:=ho
 cases o with
 | loop r=>obtain ⟨hs,r',rfl,hr⟩:=h3;exact .pure ⟨hr,hs⟩
 | _=>exact .stuck _
theorem SimR.setLoop {l l':Nat} (h:E l l') (hs:¬ C.Sh l) {r r':Loop} (hr:LoopR C ok E r r'):SimR C ok E (Go.setObj l (.loop r)) (Go.setObj l' (.loop r')) (fun _ _ _=>True):=
 SimR.setObj h hs ⟨hs,r',rfl,hr⟩ (by simp)
theorem SimR.beginRound (hh:Hnd C E) {l l':Nat} (h:E l l'):SimR C ok E (Instr.beginRound l) (Instr.beginRound l') (fun _ _ _=>True):=by
 unfold Instr.beginRound
 refine SimR.bind' (SimR.getLoop h) fun E1 s1 r r' hr=>?_
 obtain ⟨hr,hs⟩:=hr
 refine SimR.bind' (SimR.setLoop (s1 _ _ h) hs { hr with state:=rfl }) fun E2 s2 _ _ _=>?_
 rw [← hr.state]
 cases r.state with
 | ready=>exact .pure trivial
 | done=>exact SimR.runtimePanic ((hh.mono s1).mono s2) _
 | busy=>exact SimR.runtimePanic ((hh.mono s1).mono s2) _
 | exhausted=>exact SimR.runtimePanic ((hh.mono s1).mono s2) _
theorem SimR.endRound {l l':Nat} (h:E l l') (j:Option Code) (hj:∀ c,j=some c→isJump c=true):SimR C ok E (Instr.endRound l j) (Instr.endRound l' j) (VR C):=by
 unfold Instr.endRound
 refine SimR.bind' (SimR.getLoop h) fun E1 s1 r r' hr=>?_
 obtain ⟨hr,hs⟩:=hr
 exact SimR.bind' (SimR.setLoop (s1 _ _ h) hs { hr with state:=rfl,pending:=rfl,ok3:=hj }) fun E2 s2 _ _ _=>.pure (.bool _)
theorem SimR.endLoop (hh:Hnd C E) {l l':Nat} (h:E l l'):SimR C ok E (Instr.endLoop l) (Instr.endLoop l') (fun _ j j'=>j=j'∧∀ c,j=some c→isJump c=true):=by
 unfold Instr.endLoop
 refine SimR.bind' (SimR.getLoop h) fun E1 s1 r r' hr=>?_
 obtain ⟨hr,hs⟩:=hr
 have fin:SimR C ok E1 (do Go.setObj l (.loop { r with state:=.exhausted });Pure.pure r.pending) (do Go.setObj l' (.loop { r' with state:=.exhausted });Pure.pure r'.pending) (fun _ j j'=>j=j'∧∀ c,j=some c→isJump c=true):=
  SimR.bind' (SimR.setLoop (s1 _ _ h) hs { hr with state:=rfl }) fun E2 s2 _ _ _=>.pure ⟨hr.pending,hr.ok3⟩
 rw [← hr.state]
 by_cases hb:(r.state == .busy)=true
 ·simp only [hb,if_true]
  exact SimR.bind' (R:=fun _ _ _=>False) (SimR.runtimePanic (hh.mono s1) _) fun _ _ _ _ h=>h.elim
 ·simp only [hb,if_false,Bool.false_eq_true]
  exact fin
theorem SimR.takeDeferred {l l':Nat} (h:E l l'):SimR C ok E (Instr.takeDeferred l) (Instr.takeDeferred l') (DefsR C):=by
 unfold Instr.takeDeferred
 refine SimR.bind' (SimR.getObj h) fun E1 s1 o o' ho=>?_
 obtain ⟨h3,_⟩:=ho
 cases o with
 | deferred ds=>
  obtain ⟨hs,ds',rfl,hr⟩:=h3
  cases ds with
  | none=>exact .stuck _
  | some ds=>
   cases ds' with
   | none=>exact hr.elim
   | some ds'=>exact SimR.bind' (SimR.setObj (s1 _ _ h) hs ⟨hs,none,rfl,trivial⟩ (by simp)) fun E2 s2 _ _ _=>.pure (DefsR.mono s2 hr)
 | _=>exact .stuck _
theorem SimR.enterLoop (hh:Hnd C E) (fn:FuncId) {t t':Array Value} (ht:HR C E fn t t') (ps:Array Tmp) {as bd:Code} (h1:ok fn as) (h2:ok fn bd) (hst:C.st=false) {a a':Option Nat} (ha:OptR E a a') :
  SimR C ok E (Instr.enterLoop fn t ps as bd a) (Instr.enterLoop fn t' ps as bd a') (fun E1 x x'=>E1 x.1 x'.1∧DefsR C E1 x.2 x'.2):=by
 unfold Instr.enterLoop
 have fin:∀ E1,Sub E E1→∀ (d d':Nat) (m m':List Deferred),E1 d d'→DefsR C E1 m m'→SimR C ok E1
   (do Pure.pure (← Go.newObj (.loop { state:=.ready,pending:=none,fn,tmps:=t,params:=ps,assign:=as,body:=bd,defers:=d }),m))
   (do Pure.pure (← Go.newObj (.loop { state:=.ready,pending:=none,fn,tmps:=t',params:=ps,assign:=as,body:=bd,defers:=d' }),m'))
   (fun E1 x x'=>E1 x.1 x'.1∧DefsR C E1 x.2 x'.2):=fun E1 s1 d d' m m' hd hm=>
  SimR.bind' (SimR.newObj (hh.mono s1) fun b hb=>⟨hb,_,rfl,⟨rfl,rfl,rfl,ht.mono s1,rfl,rfl,rfl,hd,h1,h2,(fun c hc=>by cases hc),hst⟩⟩) fun E2 s2 r r' hr=>.pure ⟨hr.1,hm.mono s2⟩
 cases a with
 | none=>
  cases a' with
  | some _=>exact ha.elim
  | none=>
   dsimp only
   refine SimR.bind' (SimR.newObj (o:=.deferred (some [])) (o':=.deferred (some [])) hh fun b hb=>⟨hb,some [],rfl,.nil⟩) fun E1 s1 r r' hr=>?_
   refine SimR.bind' (R:=fun E1 (x x':Nat × List Deferred)=>E1 x.1 x'.1∧DefsR C E1 x.2 x'.2) (.pure ⟨hr.1,.cons ⟨.collected hr.1,.nil,fun f c e=>by cases e⟩ .nil⟩) fun E2 s2 x x' hx=>?_
   exact fin E2 (s1.trans s2) _ _ _ _ hx.1 hx.2
 | some l=>
  cases a' with
  | none=>exact ha.elim
  | some l'=>
   dsimp only
   refine SimR.bind' (SimR.getLoop ha) fun E1 s1 r r' hr=>?_
   refine SimR.bind' (R:=fun E1 (x x':Nat × List Deferred)=>E1 x.1 x'.1∧DefsR C E1 x.2 x'.2) (.pure ⟨hr.1.defers,.nil⟩) fun E2 s2 x x' hx=>?_
   exact fin E2 (s1.trans s2) _ _ _ _ hx.1 hx.2
end
end Go.Sim
