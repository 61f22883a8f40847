/- PROVED HERE: laws that the statement rests on (parts Xk, Zo). Conditions: none. -/
import Derived.Conc.Own3
import Derived.Below
import Derived.Test.YtlcbehhbfglgaaaGreatE01
import Derived.Test.YtlcbehhbfglgaaaGreatE34
set_option linter.all false
namespace Go.Sim
open Go Go.Conc Go.RowKit
section
variable {P:Program} {main:Bool} {b:Frame} {a:Act} {k:List Item} {cs:List Frame} {w:World}
def loopRec (fn:FuncId) (t:Array Value) (ps:Array Tmp) (assign body:Code) (D:Nat):Loop:={ state:=.ready,pending:=none,fn,tmps:=t,params:=ps,assign,body,defers:=D }
theorem stepG_rangeFunc {g:Operand} {ps:Array Tmp} {assign body:Code} {f:FuncId} {fb:Array Value} {fn:Func} {c:Code} (hb:b.roundOf=none) (hk:b.kind≠.early) (hg:a.eval g=.func (.func f) #[] fb) (hf:P.funcs[f]?=some fn) (hname:(fn.name == "runtime.NumGoroutine")=false) (hbd:fn.body=some c) :
  stepG P main (G (b.at a (.code (.rangeFunc g ps assign body)::k)) cs) w =
   .go (G (Frame.enter P f (#[.func (.yield (w.heap.size+1)) #[] #[]]++fb) .normal) (b.at ⟨a.tmps,{ target:=.collected w.heap.size,args:=#[] }::a.defers⟩ (.inRangeFunc (w.heap.size+1)::k)::cs)) ((w.alloc (.deferred (some []))).alloc (.loop (loopRec b.fn a.tmps ps assign body w.heap.size))) #[]:=by
 have hk':(b.kind == CallKind.early)=false:=by simpa using hk
 have hname':¬ fn.name= "runtime.NumGoroutine":=by simpa using hname
 have hev:∀ fr:Frame,fr.fn=b.fn→fr.tmps=a.tmps→fr.eval g=.func (.func f) #[] fb:=fun fr _ h=>by
  rw [← hg];unfold Frame.eval Act.eval;cases g<;>simp [h]
 simp [G,stepG,stepG.exec,Frame.at,Sem.runT_eq,hb,Instr.enterLoop,GStep.after,seen_none,stepG.apply,resolve,hev,Deferred.ofValue,invoke,callFunc,hf,hname',hbd,loopRec,hk']
 rfl
theorem evGet {r:Nat} {o:Obj} (h:w.heap[r]?=some o) (hc:∀ c e f,o≠.cells c e f) (es:Array Event):(getObj r).events P w es=es.push ⟨.obj r,false,o.isChan⟩:=by
 cases o with
 | cells c e f=>exact absurd rfl (hc c e f)
 | _=>simp [getObj,Sem.events,Sem.runT,h,-Sem.runT_eq]
theorem evSet {r:Nat} {o o':Obj} (h:w.heap[r]?=some o) (hc:∀ c e f,o≠.cells c e f) (es:Array Event):(setObj r o').events P w es=es.push ⟨.obj r,true,o'.isChan⟩:=by
 cases o with
 | cells c e f=>exact absurd rfl (hc c e f)
 | _=>simp [setObj,Sem.events,Sem.runT,h,-Sem.runT_eq]
theorem stepG_endRange (hq:(P.funcs[b.fn]?).any (·.norace)=false) {l:Nat} {r:Loop} (h:w.heap[l]?=some (.loop r)) (hb:r.state≠.busy) :
  stepG P main (G (b.at a (.endRangeFunc l::k)) cs) w=.go (G (b.at a ((r.pending.map Item.code).toList++k)) cs) (w.putObj l (.loop { r with state:=.exhausted })) #[⟨.obj l,false,false⟩,⟨.obj l,true,false⟩]:=by
 have he:=run_endLoop (P:=P) h hb
 have hv:(Instr.endLoop l).events P w #[]=#[⟨.obj l,false,false⟩,⟨.obj l,true,false⟩]:=by
  have hs:=run_setObj_loop (P:=P) (.loop { r with state:=.exhausted }) h
  simp [Instr.endLoop,Instr.getLoop,Sem.events_bind,Sem.run_bind,run_getObj_loop h,hs,Result.andThen,hb,evGet h (by simp),evSet h (by simp),Obj.isChan]
 simp [G,stepG,stepG.exec,Frame.at,Sem.runT_eq,he,hv,GStep.after,seen_eq hq]
theorem stepG_collected (hq:(P.funcs[b.fn]?).any (·.norace)=false) {D:Nat} {ds:List Deferred} {todo:List Item} (h:w.heap[D]?=some (.deferred (some []))) (hd:a.defers={ target:=.collected D,args:=#[] }::ds) :
  stepG P main (G { b.at a todo with mode:=.returning } cs) w=.go (G { b.at ⟨a.tmps,ds⟩ todo with mode:=.returning } cs) (w.putObj D (.deferred none)) #[⟨.obj D,false,false⟩,⟨.obj D,true,false⟩]:=by
 have he:=run_takeDeferred (P:=P) h
 have hv:(Instr.takeDeferred D).events P w #[]=#[⟨.obj D,false,false⟩,⟨.obj D,true,false⟩]:=by
  have g1:(getObj D).run P w=.ok (.deferred (some [])) w:=by simp [getObj,Sem.run,h]
  have s1:(setObj D (.deferred none)).run P w=.ok () (w.putObj D (.deferred none)):=by simp [setObj,Sem.run,h,World.putObj]
  simp [Instr.takeDeferred,Sem.events_bind,Sem.run_bind,g1,s1,Result.andThen,evGet h (by simp),evSet h (by simp),Obj.isChan]
 simp [G,stepG,unwind,Frame.at,hd,callDeferred,Sem.runT_eq,he,hv,GStep.after,seen_eq hq]
theorem stepG_leaveE {fn:Func} {todo:List Item} {c:Frame} {v:Value} (hn:b.kind=.normal) (hd:a.defers=[]) (hf:P.funcs[b.fn]?=some fn) (hr:(results fn a.tmps).run P w=.ok v w) :
  stepG P main (G { b.at a todo with mode:=.returning } (c::cs)) w=.go (G (c.finish v) cs) w (seen P b.fn ((results fn a.tmps).events P w #[])):=by
 simp [G,stepG,unwind,doReturn,Frame.at,hn,hd,hf,hr,GStep.after]
end
section
variable {C:Cx} {S:Kn} {W E:Nat→Prop} {w:World} {B b₀:Frame} {a a₀:Act} {k:List Item} {cs:List Frame} {t:Array Value} {ds:List Deferred} {Post:(Nat→Prop)→Goroutine→World→Prop}
theorem lt_get {α:Type} {H:Array α} {n:Nat} {o:α} (h:H[n]?=some o):n<H.size:=(Array.getElem?_eq_some_iff.1 h).1
theorem at_idle {g g':Goroutine} {P:Program} (hs:∀ w1,stepG P true g w1=.go g' w1 #[]) (hr:g.status=.running) (kn:∀ d,Reach P Post W g' (w.at d)):Reach P Post W g w:=
 Reach.idle hs hr fun w1 r1=>by obtain ⟨d,rfl⟩:=r1;exact kn d
theorem Reach.call {P:Program} {ops:Array Oper} {i:Nat} {rest:List Nat} {o:Oper} {f:FuncId} {fn:Func} {c:Code} {ags:Array Operand} {ats:Array TypeId} (ho:ops[i]?=some o) (hw:Region.wanted o (yielded ops a.tmps)=true) (hk:B.kind≠.early)
  (hop:o.op=.call { callee:=.value (.func f),args:=ags,argTypes:=ats }) (hf:P.funcs[f]?=some fn) (hname:(fn.name == "runtime.NumGoroutine")=false) (hbd:fn.body=some c)
  (kn:∀ d,Reach P Post W (G ((base f).at { tmps:=ags.map a.eval++Array.replicate (fn.ntmps-(ags.map a.eval).size) undef,defers:=[] } [.code c]) (B.at a (.inRegion ops (i::rest)::k)::cs)) (w.at d)) :
  Reach P Post W (G (B.at a (.inRegion ops (i::rest)::k)) cs) w:=by
 refine at_idle (fun w1=>?_) rfl kn
 have hb':fn.body.isNone=false:=by rw [hbd];rfl
 rw [stepG_enter ho hw hk (run_call_body hop hf hname hb'),enter_at _ hf hbd]
 have:listed P B.fn a o w1=#[]:=by unfold listed;rw [events_call_body hop hf hname hb'];exact seen_none P _
 rw [this]
theorem Reach.leave1 {P:Program} {fn:Func} {todo:List Item} {ops:Array Oper} {i:Nat} {rest:List Nat} {x:Tmp} (hn:B.kind=.normal) (hd:a.defers=[]) (hf:P.funcs[B.fn]?=some fn) (hr:fn.results=#[.tmp x])
  (kn:∀ d,Reach P Post W (G (b₀.at (a₀.put ((ops[i]?).bind (·.dst)) (a.tmps.getD x undef)) (.inRegion ops rest::k)) cs) (w.at d)) :
  Reach P Post W (G { B.at a todo with mode:=.returning } (b₀.at a₀ (.inRegion ops (i::rest)::k)::cs)) w:=by
 refine at_idle (fun w1=>?_) rfl kn
 rw [stepG_leave hn hd hf (results_tmp hr _ P w1) (events_results_tmp hr _ _),Frame.finish_at]
theorem Reach.leaveR {P:Program} {fn:Func} {todo:List Item} {l:Nat} (hn:B.kind=.normal) (hd:a.defers=[]) (hf:P.funcs[B.fn]?=some fn) (hr:fn.results=#[])
  (kn:∀ d,Reach P Post W (G (b₀.at a₀ (.endRangeFunc l::k)) cs) (w.at d)) :
  Reach P Post W (G { B.at a todo with mode:=.returning } (b₀.at a₀ (.inRangeFunc l::k)::cs)) w:=by
 refine at_idle (fun w1=>?_) rfl kn
 rw [stepG_leave hn hd hf (results_none hr _ P w1) (events_results_none hr _ _)]
 simp [Frame.finish,Frame.at]
theorem BOk.ext {E':Nat→Prop} (h:BOk C S W E w) (e:∀ b,E' b↔E b):BOk C S W E' w:=by
 have:E'=E:=funext fun b=>propext (e b)
 rw [this];exact h
theorem Reach.range (hst:C.st=false) (hB:BOk C S W E w) (ht:TmR C S B.fn (idE E) t t) (hro:B.roundOf=none) (hk:B.kind≠.early) {g:Operand} {ps:Array Tmp} {assign body:Code} {f:FuncId} {fb:Array Value} {fn:Func} {c:Code}
  (hg:(⟨t,ds⟩:Act).eval g=.func (.func f) #[] fb) (hf:C.P.funcs[f]?=some fn) (hname:(fn.name == "runtime.NumGoroutine")=false) (hbd:fn.body=some c) (ok1:okP C S B.fn assign) (ok2:okP C S B.fn body)
  (kn:∀ w',BOk C S W (fun b=>(E b∨b=w.heap.size)∨b=w.heap.size+1) w'→w'.heap.size=w.heap.size+2→(∀ b,E b→w'.heap[b]?=w.heap[b]?)→w'.heap[w.heap.size]?=some (.deferred (some [])) →
   w'.heap[w.heap.size+1]?=some (.loop (loopRec B.fn t ps assign body w.heap.size)) →
   Reach C.P Post W (G ((base f).at { tmps:=(#[.func (.yield (w.heap.size+1)) #[] #[]]++fb)++Array.replicate (fn.ntmps-(#[Value.func (.yield (w.heap.size+1)) #[] #[]]++fb).size) undef,defers:=[] } [.code c]) (B.at ⟨t,{ target:=.collected w.heap.size,args:=#[] }::ds⟩ (.inRangeFunc (w.heap.size+1)::k)::cs)) w') :
  Reach C.P Post W (G (B.at ⟨t,ds⟩ (.code (.rangeFunc g ps assign body)::k)) cs) w:=by
 generalize hn:w.heap.size=n at *
 have hE:∀ b,E b→b<n:=fun b hb=>hn▸hB.lt hb
 refine Reach.hand (f:=fun w1=>(w1.alloc (.deferred (some []))).alloc (.loop (loopRec B.fn t ps assign body w1.heap.size)))
  (g':=G ((base f).at { tmps:=(#[.func (.yield (n+1)) #[] #[]]++fb)++Array.replicate (fn.ntmps-(#[Value.func (.yield (n+1)) #[] #[]]++fb).size) undef,defers:=[] } [.code c]) (B.at ⟨t,{ target:=.collected n,args:=#[] }::ds⟩ (.inRangeFunc (n+1)::k)::cs))
  hB rfl rfl rfl rfl (fun w1 r1=>?_) fun w1 w2 r1 r2 hW=>?_
 ·have hs1:w1.heap.size=n:=hn▸r1.same rfl
  refine ⟨#[],?_,?_⟩
  ·rw [stepG_rangeFunc hro hk hg hf hname hbd,enter_at _ hf hbd,hs1]
  ·refine ⟨by simp;omega,fun b hb _=>?_,rfl,rfl,Nat.le_refl _,fun e he=>by simp at he⟩
   rw [Below.heap_alloc _ _ b (by simp;omega),Below.heap_alloc _ _ b hb]
 ·have hs1:w1.heap.size=n:=hn▸r1.same rfl
  have hg1:∀ b,grown E w1 ((w1.alloc (.deferred (some []))).alloc (.loop (loopRec B.fn t ps assign body w1.heap.size))) b↔(E b∨b=n)∨b=n+1:=fun b=>by
   simp only [grown,World.size_alloc,hs1]
   constructor
   ·rintro (h|h)
    ·exact .inl (.inl h)
    ·rcases Nat.lt_or_ge b (n+1) with h1|h1
     ·exact .inl (.inr (by omega))
     ·exact .inr (by omega)
   ·rintro ((h|h)|h)
    ·exact .inl h
    ·exact .inr (by omega)
    ·exact .inr (by omega)
  have hB1:=hB.rely hst r1
  have nW:∀ b,W b→b≠n∧b≠n+1:=fun b hb=>⟨fun e=>hW b hb ((hg1 b).2 (.inl (.inr e))),fun e=>hW b hb ((hg1 b).2 (.inr e))⟩
  have hB2:=hB1.push hst (o:=.deferred (some [])) ⟨C.lax hst _,_,rfl,.nil⟩ fun h=>(nW _ h).1 hs1
  have hB3:=hB2.push hst (o:=.loop (loopRec B.fn t ps assign body w1.heap.size)) ⟨C.lax hst _,_,rfl,⟨rfl,rfl,rfl,?_,rfl,rfl,rfl,⟨rfl,.inl (.inr rfl)⟩,ok1,ok2,fun c hc=>(by cases hc),hst⟩⟩ fun h=>(nW _ h).2 (by rw [World.size_alloc,hs1])
  ·have hB4:=(hB3.ext fun b=>(hg1 b).trans (by rw [World.size_alloc,hs1])).rely hst r2
   have e1:w2.heap.size=n+2:=(r2.same rfl).trans (by simp;omega)
   have e2:∀ b,E b→w2.heap[b]?=w.heap[b]?:=fun b hb=>(r2.blocks b ((hg1 b).2 (.inl (.inl hb)))).trans ((Below.heap_alloc _ _ b (by have:=hE b hb;simp;omega)).trans ((Below.heap_alloc _ _ b (by have:=hE b hb;omega)).trans (r1.blocks b hb)))
   have e3:w2.heap[n]?=some (.deferred (some [])):=(r2.blocks n ((hg1 n).2 (.inl (.inr rfl)))).trans ((Below.heap_alloc _ _ n (by simp;omega)).trans (by rw [← hs1];exact World.alloc_heap_new _ _))
   have e4:w2.heap[n+1]?=some (.loop (loopRec B.fn t ps assign body n)):=(r2.blocks (n+1) ((hg1 _).2 (.inr rfl))).trans (by
    have:=World.alloc_heap_new (w1.alloc (.deferred (some []))) (.loop (loopRec B.fn t ps assign body w1.heap.size))
    rw [World.size_alloc,hs1] at this
    rw [hs1];exact this)
   exact kn w2 (hB4.ext fun b=>(hg1 b).symm) e1 e2 e3 e4
  ·exact ⟨rfl,fun i x x' hi h1 h2=>(ht.at_ i x x' hi h1 h2).mono fun b b' h=>⟨h.1,.inl (.inl h.2)⟩⟩
theorem grown_same {w1 w2:World} (h:w2.heap.size=w1.heap.size) (b:Nat):grown E w1 w2 b↔E b:=by
 simp only [grown,h]
 constructor
 ·rintro (h|h)
  ·exact h
  ·omega
 ·exact .inl
theorem Reach.put (hst:C.st=false) (hB:BOk C S W E w) {g g':Goroutine} {D:Nat} {o o':Obj} (hD:E D) (ho:w.heap[D]?=some o) (ho':ObjR C (okP C S) (idE E) D o' o') (hr:g.status=.running) (hr':g'.status=.running) (hd:g'.dying=none) (hof:g'.offers=none)
  (hs:∀ w1,w1.heap[D]?=some o→stepG C.P true g w1=.go g' (w1.putObj D o') #[⟨.obj D,false,false⟩,⟨.obj D,true,false⟩])
  (kn:∀ w',BOk C S W E w'→w'.heap.size=w.heap.size→(∀ b,E b→b≠D→w'.heap[b]?=w.heap[b]?)→w'.heap[D]?=some o'→Reach C.P Post W g' w'):Reach C.P Post W g w:=by
 refine Reach.hand (f:=fun w1=>w1.putObj D o') hB hr hr' hd hof (fun w1 r1=>⟨_,hs w1 ((r1.blocks D hD).trans ho),?_⟩) fun w1 w2 r1 r2 hW=>?_
 ·refine ⟨by simp,fun b hb hn=>World.putObj_heap_other fun e=>hn (e▸hD),rfl,rfl,Nat.le_refl _,fun e he=>?_⟩
  simp only [List.mem_toArray,List.mem_cons,List.not_mem_nil,or_false] at he
  rcases he with rfl|rfl
  ·exact ⟨⟨.inl hD,fun h=>by cases h⟩,rfl⟩
  ·exact ⟨⟨.inl hD,fun _=>.inl hD⟩,rfl⟩
 ·have hg1:∀ b,grown E w1 (w1.putObj D o') b↔E b:=grown_same (by simp)
  have hB2:=(hB.rely hst r1).put hst hD ho'
  have hB3:=(hB2.ext hg1).rely hst r2
  have hlt:D<w1.heap.size:=by have:=lt_get ho;have:=r1.same rfl;omega
  exact kn w2 (hB3.ext fun b=>(hg1 b).symm) ((r2.same rfl).trans (by simpa using r1.same rfl)) (fun b hb hne=>(r2.blocks b ((hg1 b).2 hb)).trans ((World.putObj_heap_other hne).trans (r1.blocks b hb))) ((r2.blocks D ((hg1 D).2 hD)).trans (World.putObj_heap_same hlt))
theorem Reach.endRange (hst:C.st=false) (hB:BOk C S W E w) {l:Nat} {r:Loop} (hl:E l) (h:w.heap[l]?=some (.loop r)) (hb:r.state≠.busy) (hp:r.pending=none) (hq:(C.P.funcs[B.fn]?).any (·.norace)=false)
  (kn:∀ w',BOk C S W E w'→w'.heap.size=w.heap.size→(∀ b,E b→b≠l→w'.heap[b]?=w.heap[b]?)→Reach C.P Post W (G (B.at a k) cs) w') :
  Reach C.P Post W (G (B.at a (.endRangeFunc l::k)) cs) w:=by
 obtain ⟨s1,l',e1,e2⟩:=hB.wr.obj l l _ _ ⟨rfl,hl⟩ h h
 cases e1
 refine Reach.put hst hB hl h (o':=.loop { r with state:=.exhausted }) ⟨s1,_,rfl,⟨rfl,rfl,rfl,e2.tmps,rfl,rfl,rfl,e2.defers,e2.ok1,e2.ok2,e2.ok3,e2.st⟩⟩ rfl rfl rfl rfl (fun w1 h1=>?_) fun w' h1 h2 h3 _=>kn w' h1 h2 h3
 rw [stepG_endRange hq h1 hb,hp]
 rfl
theorem Reach.collected (hst:C.st=false) (hB:BOk C S W E w) {D:Nat} {todo:List Item} (hD:E D) (h:w.heap[D]?=some (.deferred (some []))) (hq:(C.P.funcs[B.fn]?).any (·.norace)=false)
  (kn:∀ w',BOk C S W E w'→w'.heap.size=w.heap.size→(∀ b,E b→b≠D→w'.heap[b]?=w.heap[b]?)→Reach C.P Post W (G { B.at ⟨t,ds⟩ todo with mode:=.returning } cs) w') :
  Reach C.P Post W (G { B.at ⟨t,{ target:=.collected D,args:=#[] }::ds⟩ todo with mode:=.returning } cs) w:=by
 refine Reach.put hst hB hD h (o':=.deferred none) ⟨C.lax hst _,_,rfl,trivial⟩ rfl rfl rfl rfl (fun w1 h1=>?_) fun w' h1 h2 h3 _=>kn w' h1 h2 h3
 rw [stepG_collected hq h1 rfl]
theorem Reach.leave2c (hst:C.st=false) (hB:BOk C S W E w) {fn:Func} {todo:List Item} {ops:Array Oper} {i:Nat} {rest:List Nat} {x y:Tmp} {tx ty:TypeId} {bx by_:Nat} {u v:Value} (hn:B.kind=.normal) (hd:a.defers=[]) (hf:C.P.funcs[B.fn]?=some fn) (hq:(C.P.funcs[B.fn]?).any (·.norace)=false) (hr:fn.results=#[.cell x tx,.cell y ty])
  (hx:a.tmps.getD x undef=.pointer (some ⟨bx,0,none⟩)) (hy:a.tmps.getD y undef=.pointer (some ⟨by_,0,none⟩)) (Ex:E bx) (Ey:E by_)
  (hl:∀ w1,(∀ b,b=bx∨b=by_→w1.heap[b]?=w.heap[b]?)→(results fn a.tmps).run C.P w1=.ok (.tuple #[u,v]) w1∧∀ e∈(results fn a.tmps).events C.P w1 #[],∃ ad:Addr,(ad.block=bx∨ad.block=by_)∧e=⟨.cell ad,false,false⟩)
  (kn:∀ w',BOk C S W E w'→w'.heap.size=w.heap.size→(∀ b,E b→w'.heap[b]?=w.heap[b]?)→Reach C.P Post W (G (b₀.at (a₀.put ((ops[i]?).bind (·.dst)) (.tuple #[u,v])) (.inRegion ops rest::k)) cs) w') :
  Reach C.P Post W (G { B.at a todo with mode:=.returning } (b₀.at a₀ (.inRegion ops (i::rest)::k)::cs)) w:=by
 refine Reach.hand (f:=fun w1=>w1) (g':=G (b₀.at (a₀.put ((ops[i]?).bind (·.dst)) (.tuple #[u,v])) (.inRegion ops rest::k)) cs) hB rfl rfl rfl rfl (fun w1 r1=>?_) fun w1 w2 r1 r2 hW=>?_
 ·obtain ⟨h1,h2⟩:=hl w1 fun b hb=>r1.blocks b (by rcases hb with rfl|rfl;exact Ex;exact Ey)
  refine ⟨_,by rw [stepG_leaveE hn hd hf h1,Frame.finish_at],⟨Nat.le_refl _,fun _ _ _=>rfl,rfl,rfl,Nat.le_refl _,fun e he=>?_⟩⟩
  rw [seen_eq hq fun e he=>?_] at he
  ·obtain ⟨ad,h3,rfl⟩:=h2 e he
   exact ⟨⟨.inl (by rcases h3 with h|h<;>rw [h];exact Ex;exact Ey),fun h=>by cases h⟩,rfl⟩
  ·obtain ⟨ad,h3,rfl⟩:=h2 e he
   simp
 ·have hg1:∀ b,grown E w1 w1 b↔E b:=grown_same rfl
  have hB3:=((hB.rely hst r1).ext hg1).rely hst r2
  exact kn w2 (hB3.ext fun b=>(hg1 b).symm) ((r2.same rfl).trans (r1.same rfl)) fun b hb=>(r2.blocks b ((hg1 b).2 hb)).trans (r1.blocks b hb)
end
end Go.Sim
namespace Go.Sim.Z
open Go Go.Proofs Go.RowKit Go.Maps Go.Sort Go.Shelf
noncomputable def b9:Code:=Tryz.f9.body.getD .skip
noncomputable def B9:Code:=fC (sC (sC (sC b9)))
def asgOf:Code→Code | .rangeFunc _ _ a _=>a|c=>c
def bdyOf:Code→Code | .rangeFunc _ _ _ b=>b|c=>c
noncomputable def asg9:Code:=asgOf (bC (sC B9))
noncomputable def bdy9:Code:=bdyOf (bC (sC B9))
theorem lit33 (f:Nat→Value):((List.range 33).map f).toArray=#[f 0,f 1,f 2,f 3,f 4,f 5,f 6,f 7,f 8,f 9,f 10,f 11,f 12,f 13,f 14,f 15,f 16,f 17,f 18,f 19,f 20,f 21,f 22,f 23,f 24,f 25,f 26,f 27,f 28,f 29,f 30,f 31,f 32]:=by rfl
theorem arr33 {T:Array Value} (h:T.size=33):∃ f:Nat→Value,T=#[f 0,f 1,f 2,f 3,f 4,f 5,f 6,f 7,f 8,f 9,f 10,f 11,f 12,f 13,f 14,f 15,f 16,f 17,f 18,f 19,f 20,f 21,f 22,f 23,f 24,f 25,f 26,f 27,f 28,f 29,f 30,f 31,f 32]:=⟨fun i=>T.getD i undef,(arrN h).trans (lit33 _)⟩
structure QC where
 kv:Value
 rv:Value
 hv:Value
 lv:Value
 g:List Int
 B:Bun
def QC.val (q:QC):Value:=.agg #[q.kv,.int .i64 q.B.n,q.rv,q.hv,q.lv]
def QC.cells (q:QC):List Value:=[q.kv,.int .i64 q.B.n,q.rv,q.hv,q.lv]
def QC.slices (q:QC):Prop:=∃ a1 l1 c1 a2 l2 c2 a3 l3 c3 a4 l4 c4,q.kv=.slice a1 l1 c1∧q.rv=.slice a2 l2 c2∧q.hv=.slice a3 l3 c3∧q.lv=.slice a4 l4 c4
theorem info39:(Tryz.prog.info? 39).map (fun i=>(i.zero,i.size,i.bytes))=some (some (.agg #[.slice none 0 0,.int .i64 0,.slice none 0 0,.slice none 0 0,.slice none 0 0]),5,104):=by kernel_rfl
structure QAt (base:Nat) (T9:Array Value) (mo ob l D:Nat) (most:Int) (L:List QC) (W:World):Prop where
 box:∃ v,W.heap[ob]?=some (.cells #[v] 28)∧W.ownsRow base 39 5 v L.length (L.flatMap QC.cells)
 lp:W.heap[l]?=some (.loop (loopRec 9 T9 #[19,20] asg9 bdy9 D))
 mo:W.heap[mo]?=some (.cells #[.int .i64 most] 3)
 D:W.heap[D]?=some (.deferred (some []))
def KQ (base l ob:Nat) (W W':World):Prop:=W.heap.size≤W'.heap.size∧∀ b o,W.heap[b]?=some o→b≠l→b≠ob→(base≤b→∀ cur,o≠.cells cur 39)→W'.heap[b]?=some o
theorem ownK {base:Nat} {e:TypeId} {size:Nat} {v:Value} {n:Nat} {xs:List Value} {w w':World} (h:w.ownsRow base e size v n xs) (hh:∀ (g:Nat) (cur:Array Value),w.heap[g]?=some (Obj.cells cur e)→w'.heap[g]?=some (Obj.cells cur e)):w'.ownsRow base e size v n xs:=by
 refine ⟨h.1,?_⟩
 rcases h.2 with hn|⟨g,cap,cur,rfl,hb,hgg,rest⟩
 ·exact .inl hn
 ·exact .inr ⟨g,cap,cur,rfl,hb,hh g cur hgg,rest⟩
section
variable {base mo ob l D m:Nat} {f:Nat→Value} {most:Int} {L:List QC} {W:World}
set_option maxRecDepth 100000 in
set_option maxHeartbeats 4000000 in
theorem qYield (q:QC) (hq:q.slices) (hJ:QAt base #[f 0,f 1,f 2,f 3,f 4,f 5,f 6,pt mo,f 8,f 9,pt ob,f 11,f 12,f 13,f 14,f 15,f 16,f 17,f 18,f 19,f 20,f 21,f 22,f 23,f 24,f 25,f 26,f 27,f 28,f 29,f 30,f 31,f 32] mo ob l D most L W) (hlt:(L.length:Int)<most) (hn:L.length≤1000) (hb:base≤W.heap.size) :
  YieldAt Fence.wide m Tryz.prog l #[q.val,.nilIface] W fun e W'=>e=.returned (.bool true)∧QAt base #[f 0,f 1,f 2,f 3,f 4,f 5,f 6,pt mo,f 8,f 9,pt ob,f 11,f 12,f 13,f 14,f 15,f 16,f 17,f 18,f 19,f 20,f 21,f 22,f 23,f 24,f 25,f 26,f 27,f 28,f 29,f 30,f 31,f 32] mo ob l D most (L++[q]) W'∧KQ base l ob W W':=by
 obtain ⟨i0,hi,hz0,hz1,hz2⟩:=info_parts info39
 obtain ⟨v,hv,hown⟩:=hJ.box
 obtain ⟨a1,l1,c1,a2,l2,c2,a3,l3,c3,a4,l4,c4,hk1,hk2,hk3,hk4⟩:=hq
 refine ⟨9,#[f 0,f 1,f 2,f 3,f 4,f 5,f 6,pt mo,f 8,f 9,pt ob,f 11,f 12,f 13,f 14,f 15,f 16,f 17,f 18,q.val,.nilIface,f 21,f 22,f 23,f 24,f 25,f 26,f 27,f 28,f 29,f 30,f 31,f 32],asg9,bdy9,by simpa [loopRec] using run_yield (P:=Tryz.prog) (args:=#[q.val,.nilIface]) hJ.lp rfl,roundIn_of_wpIn trivial ?_⟩
 unfold QC.val
 rw [hk1,hk2,hk3,hk4]
 simp only [asg9,bdy9,B9,b9,asgOf,bdyOf,fC,sC,bC,Tryz.f9,Option.getD_some]
 gi_wp2_with gi_round_op_a
 obtain ⟨va,vc,rfl⟩:∃ va vc,v=.slice va L.length vc:=by
  rcases hown.2 with ⟨rfl,h0⟩|⟨g,cap,cur,rfl,_⟩
  ·exact ⟨none,0,by rw [h0]⟩
  ·exact ⟨_,_,rfl⟩
 obtain ⟨W1,hW1⟩:∃ W1,W.alloc (.cells #[.slice a1 l1 c1,.int .i64 q.B.n,.slice a2 l2 c2,.slice a3 l3 c3,.slice a4 l4 c4] 39)=W1:=⟨_,rfl⟩
 rw [hW1]
 have hg1:W.grownBy W1 none:=by rw [← hW1];exact World.grownBy_alloc _ _ _
 have o1:∀ b,b<W.heap.size→W1.heap[b]?=W.heap[b]?:=fun b h=>by rw [← hW1];exact heap_old _ h
 have hbx:W1.heap[W.heap.size]?=some (.cells #[.slice a1 l1 c1,.int .i64 q.B.n,.slice a2 l2 c2,.slice a3 l3 c3,.slice a4 l4 c4] 39):=by rw [← hW1];exact heap_new _
 have hll:=lt_of hJ.lp
 have hol:=lt_of hv
 have hml:=lt_of hJ.mo
 have hDl:=lt_of hJ.D
 have hs1:W1.heap.size=W.heap.size+1:=by rw [← hW1];simp
 have hlp1:=(o1 _ hll).trans hJ.lp
 have hv1:=(o1 _ hol).trans hv
 have hmo1:=(o1 _ hml).trans hJ.mo
 have hD1:=(o1 _ hDl).trans hJ.D
 have hown1:=ownK hown fun g cur h=>(o1 g (lt_of h)).trans h
 have hbr:=run_beginRound (P:=Tryz.prog) hlp1 rfl
 obtain ⟨W2,hW2⟩:∃ W2,W1.putObj l (.loop { loopRec 9 #[f 0,f 1,f 2,f 3,f 4,f 5,f 6,pt mo,f 8,f 9,pt ob,f 11,f 12,f 13,f 14,f 15,f 16,f 17,f 18,f 19,f 20,f 21,f 22,f 23,f 24,f 25,f 26,f 27,f 28,f 29,f 30,f 31,f 32] #[19,20] asg9 bdy9 D with state:=.busy })=W2:=⟨_,rfl⟩
 rw [hW2] at hbr
 have hs2:W2.heap.size=W.heap.size+1:=by rw [← hW2];simp [hs1]
 have o2:∀ b,b≠l→W2.heap[b]?=W1.heap[b]?:=fun b h=>by rw [← hW2];exact World.putObj_heap_other h
 have ne_l:∀ {b o},W1.heap[b]?=some o→(∀ r,o≠.loop r)→b≠l:=fun h hn e=>by
  rw [e,hlp1] at h
  exact hn _ (Option.some.inj h).symm
 have hol2:=ne_l hv1 (by simp)
 have hxl:=ne_l hbx (by simp)
 have hml2:=ne_l hmo1 (by simp)
 have hDl2:=ne_l hD1 (by simp)
 have hbx2:=(o2 _ hxl).trans hbx
 have hv2:=(o2 _ hol2).trans hv1
 have hmo2:=(o2 _ hml2).trans hmo1
 have hD2:=(o2 _ hDl2).trans hD1
 have hlp2:W2.heap[l]?=some (.loop { loopRec 9 #[f 0,f 1,f 2,f 3,f 4,f 5,f 6,pt mo,f 8,f 9,pt ob,f 11,f 12,f 13,f 14,f 15,f 16,f 17,f 18,f 19,f 20,f 21,f 22,f 23,f 24,f 25,f 26,f 27,f 28,f 29,f 30,f 31,f 32] #[19,20] asg9 bdy9 D with state:=.busy }):=by rw [← hW2];exact World.putObj_heap_same (by omega)
 have hown2:=ownK hown1 fun g cur h=>(o2 g (ne_l h (by simp))).trans h
 have hob39:∀ cur,W2.heap[ob]?≠some (.cells cur 39):=fun cur h=>by rw [hv2] at h;simp at h
 have k0:=(cell_of hbx2 0).trans rfl
 have k1:=(cell_of hbx2 1).trans rfl
 have k2:=(cell_of hbx2 2).trans rfl
 have k3:=(cell_of hbx2 3).trans rfl
 have k4:=(cell_of hbx2 4).trans rfl
 have kob:=(cell_of hv2 0).trans rfl
 have kmo:=(cell_of hmo2 0).trans rfl
 have hne:¬ (L.length:Int)=most:=by omega
 have hmax:maxLen=9223372036854775807:=by decide
 generalize hBx:W.heap.size=Bx at *
 have hno:some ob≠(Value.slice va L.length vc).ownBlock:=by
  rcases ownsRow_ne_a hown2 hv2 (by simp) with h|h
  ·rw [h];simp
  ·exact fun e=>h e.symm
 have hb2:base≤W2.heap.size:=by omega
 have hs2':Hid (W2.heap.size=Bx+1):=hs2
 clear hs2 hs1
 refine ⟨W2,hbr,?_⟩
 gi_wp2_with (first
  | (gi_at_builtin;refine wpListIn_append_own _ rfl _ _ 28 rfl base 39 i0 _ 5 104 Tryz.underlying28 hi hz0 hz1 hz2 rfl (by decide) _ L.length _ rfl (ownK hown2 fun g cur h=>(heap_old _ (lt_of h)).trans h) ⟨W2.heap.size,0,none⟩ 1 1 [.slice a1 l1 c1,.int .i64 q.B.n,.slice a2 l2 c2,.slice a3 l3 c3,.slice a4 l4 c4] rfl rfl cells5_new (by simp [Value.oneCell']) (by omega) (by omega) (by rw [size_alloc];omega) ?_;intro v' w3 hown3 hg3 hnil3
     have hob3:w3.heap[ob]?=some (.cells #[.slice va L.length vc] 28):=(hg3.block ob (by rw [size_alloc];have:=lt_of hv2;omega) hno).trans ((heap_old _ (lt_of hv2)).trans hv2)
     have kob3:=(cell_of hob3 0).trans rfl
     have qob3:=frozen_of hob3 0
     obtain ⟨va',vc',rfl⟩:∃ va' vc',v'=.slice va' (L.length+1) vc':=by
      rcases hown3.2 with ⟨rfl,h0⟩|⟨g,cap,cur,rfl,_⟩
      ·exact absurd h0 (by omega)
      ·exact ⟨_,_,rfl⟩)
  | gi_round_op_a)
 have hb2s:W2.heap.size=Bx+1:=hs2'
 have hg3:=(show World.grownBy _ w3 (Value.slice va L.length vc).ownBlock from hg3)
 have keep3:∀ (b:Nat) (o:Obj),W2.heap[b]?=some o→(∀ cur,o≠.cells cur 39)→w3.heap[b]?=some o:=fun b o h hn=>by
  refine (hg3.block b (by rw [size_alloc];have:=lt_of h;omega) ?_).trans ((heap_old _ (lt_of h)).trans h)
  rcases ownsRow_ne_a hown2 h hn with h1|h1
  ·rw [h1];simp
  ·exact fun e=>h1 e.symm
 have hlp3:=keep3 l _ hlp2 (by simp)
 have hmo3:=keep3 mo _ hmo2 (by simp)
 have hD3:=keep3 D _ hD2 (by simp)
 have hg3s:=hg3.size
 rw [size_alloc] at hg3s
 obtain ⟨W4,hW4⟩:∃ W4,w3.setCell ⟨ob,0,none⟩ (.slice va' (L.length+1) vc')=W4:=⟨_,rfl⟩
 rw [hW4]
 have o4:∀ b,b≠ob→W4.heap[b]?=w3.heap[b]?:=fun b h=>by rw [← hW4];exact heap_ne _ _ h
 have hob4:W4.heap[ob]?=some (.cells #[.slice va' (L.length+1) vc'] 28):=by rw [← hW4,heap_set hob3];rfl
 have hs4:W4.heap.size=w3.heap.size:=by rw [← hW4];exact size_set _ _
 have ne_o:∀ {b:Nat} {o:Obj},w3.heap[b]?=some o→(∀ cur,o≠.cells cur 28)→b≠ob:=fun h hn e=>by
  rw [e,hob3] at h
  exact hn _ (Option.some.inj h).symm
 have hlp4:=(o4 _ (ne_o hlp3 (by simp))).trans hlp3
 refine ⟨_,_,run_endRound none hlp4,rfl,⟨⟨_,(World.putObj_heap_other hol2).trans hob4,?_⟩,World.putObj_heap_same (lt_of hlp4),(World.putObj_heap_other hml2).trans ((o4 _ (ne_o hmo3 (by simp))).trans hmo3),(World.putObj_heap_other hDl2).trans ((o4 _ (ne_o hD3 (by simp))).trans hD3)⟩,?_,fun b o hb hl ho h39=>?_⟩
 ·have h5:=ownK hown3 (w':=W4.putObj l (.loop { { loopRec 9 #[f 0,f 1,f 2,f 3,f 4,f 5,f 6,pt mo,f 8,f 9,pt ob,f 11,f 12,f 13,f 14,f 15,f 16,f 17,f 18,f 19,f 20,f 21,f 22,f 23,f 24,f 25,f 26,f 27,f 28,f 29,f 30,f 31,f 32] #[19,20] asg9 bdy9 D with state:=.busy } with state:=if (none:Option Code).isNone then .ready else .done,pending:=none })) fun g cur h=>(World.putObj_heap_other fun e=>by rw [e,hlp3] at h;cases h).trans ((o4 g (ne_o h (by simp))).trans h)
  have e:(L++[q]).flatMap QC.cells=L.flatMap QC.cells++[.slice a1 l1 c1,.int .i64 q.B.n,.slice a2 l2 c2,.slice a3 l3 c3,.slice a4 l4 c4]:=by
   simp [QC.cells,hk1,hk2,hk3,hk4]
  rw [e]
  simpa using h5
 ·rw [World.putObj_size];omega
 ·rw [World.putObj_heap_other hl,o4 b ho]
  have hW2:W2.heap[b]?=some o:=by
   rw [o2 b hl]
   exact (o1 b (by have:=lt_of hb;omega)).trans hb
  rcases Nat.lt_or_ge b base with hlt|hge
  ·refine (hg3.block b (by rw [size_alloc];have:=lt_of hW2;omega) ?_).trans ((heap_old _ (lt_of hW2)).trans hW2)
   rcases hown2.2 with ⟨e,_⟩|⟨g,cap,cur,e,hbg,_⟩
   ·rw [e];simp [Value.ownBlock]
   ·rw [e];simp only [Value.ownBlock,ne_eq,Option.some.injEq];omega
  ·exact keep3 b o hW2 (h39 hge)
end
end Go.Sim.Z
