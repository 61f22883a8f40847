/- Proved: laws for the claim. No conditions. -/
import Derived.Conc.Own3
import Derived.Below
import Derived.Conc.CompanyDraw
import Derived.Test.YtlcbehhbfglgaaaGreatDoorProg
import Derived.WalkKit
import Derived.LoopTactic
import Derived.Sort.Grow
import Derived.Deep.Draws
import Derived.Maps.AppendAt
import Derived.OwnWalkIn
import Derived.Deep.RegionWith
import Derived.DeepKeys4
import Derived.Maps.OwnOps
import Derived.Maps.OwnIn
import Derived.RangeFuncSeq
import Derived.RangeFuncGives
import Derived.Sort.MapsRangeIn
import Derived.Sort.KeysCollected
import Derived.Shelf.AbstractIn
import Derived.TacticsInMore
import Derived.RegionIn
import Derived.LoopNIn
import Derived.LoopIn
import Derived.Shelf.SlIter.Collect
import Derived.Test.YtlcbehhbfglgaaaGreatDoorC00
import Derived.Test.YtlcbehhbfglgaaaGreatDoorC09
set_option linter.all false
set_option maxHeartbeats 2000000
set_option maxRecDepth 100000
open Go.Proofs.Tryz
namespace Go.Sim
open Go Go.Conc Go.RowKit
section
variable{P:Program}{main:Bool}{b:Frame}{a:Act}{k:List Item}{cs:List Frame}{w:JE}
def NI(fn:JG)(t:JC)(ps:Array Tmp)(assign body:Code)(D:Nat):Loop:={ state:=.ready,pending:=none,fn,tmps:=t,params:=ps,assign,body,defers:=D }
def Je7 {g:Operand} {ps:Array Tmp} {assign body:Code} {f:JG} {fb:JC} {fn:Func} {c:Code} (hb:b.roundOf=none) (hk:b.kind≠.early) (hg:a.eval g=.func (.func f) #[] fb) (hf:P.funcs[f]?=some fn) (Eb:(fn.name == "runtime.NumGoroutine")=false) (OG:fn.body=some c) :
  stepG P main (G (b.at a (.code (.rangeFunc g ps assign body)::k)) cs) w =
   .go (G (Frame.enter P f (#[.func (.yield (w.heap.size+1)) #[] #[]]++fb) .normal) (b.at ⟨a.tmps,{ target:=.collected w.heap.size,args:=#[] }::a.defers⟩ (.inRangeFunc (w.heap.size+1)::k)::cs)) ((w.alloc (.deferred (some []))).alloc (.loop (NI b.fn a.tmps ps assign body w.heap.size))) #[]:=by
 have D6:(b.kind == CallKind.early)=false:=by grind
 have XA:¬fn.name= "runtime.NumGoroutine":=by grind
 have Fq:∀fr:Frame,fr.fn=b.fn->fr.tmps=a.tmps->fr.eval g=.func (.func f) #[] fb:=λfr _ h=>by rw[<- hg];unfold Frame.eval Act.eval;grind
 simp[G,stepG,stepG.exec,Frame.at,Sem.runT_eq,hb,Instr.enterLoop,GStep.after,seen_none,stepG.apply,resolve,Fq,Deferred.ofValue,invoke,callFunc,hf,XA,OG,NI,D6];rfl
def Jx2{r:Nat}{o:Obj}(h:w.heap[r]?=some o)(hc:∀c e f,o≠.cells c e f)(es:Array Event):(getObj r).events P w es=es.push ⟨.obj r,false,o.isChan⟩:=by
 cases o with
 |cells c e f=>grind
 |_=>simp[getObj,Sem.events,Sem.runT,h,-Sem.runT_eq]
def Jx3{r:Nat}{o o':Obj}(h:w.heap[r]?=some o)(hc:∀c e f,o≠.cells c e f)(es:Array Event):(setObj r o').events P w es=es.push ⟨.obj r,true,o'.isChan⟩:=by
 cases o with
 |cells c e f=>grind
 |_=>simp[setObj,Sem.events,Sem.runT,h,-Sem.runT_eq]
theorem Jga(hq:(P.funcs[b.fn]?).any (·.norace)=false){l:Nat}{r:Loop}(h:w.heap[l]?=some (.loop r))(hb:r.state≠.busy) :
  stepG P main (G (b.at a (.endRangeFunc l::k)) cs) w=.go (G (b.at a ((r.pending.map Item.code).toList++k)) cs) (w.putObj l (.loop { r with state:=.exhausted })) #[⟨.obj l,false,false⟩,⟨.obj l,true,false⟩]:=by
 have he:=run_endLoop (P:=P) h hb;have hv:(Instr.endLoop l).events P w #[]=#[⟨.obj l,false,false⟩,⟨.obj l,true,false⟩]:=by
  have hs:=run_setObj_loop (P:=P) (.loop { r with state:=.exhausted }) h;simp[Instr.endLoop,Instr.getLoop,Sem.events_bind,Sem.run_bind,run_getObj_loop h,hs,Result.andThen,hb,Jx2 h (by simp),Jx3 h (by simp),Obj.isChan]
 simp[G,stepG,stepG.exec,Frame.at,Sem.runT_eq,he,hv,GStep.after,seen_eq hq]
def Je8(hq:(P.funcs[b.fn]?).any (·.norace)=false){D:Nat}{ds:List Deferred}{todo:List Item}(h:w.heap[D]?=some (.deferred (some [])))(hd:a.defers={ target:=.collected D,args:=#[] }::ds) :
  stepG P main (G { b.at a todo with mode:=.returning } cs) w=.go (G { b.at ⟨a.tmps,ds⟩ todo with mode:=.returning } cs) (w.putObj D (.deferred none)) #[⟨.obj D,false,false⟩,⟨.obj D,true,false⟩]:=by
 have he:=run_takeDeferred (P:=P) h;have hv:(Instr.takeDeferred D).events P w #[]=#[⟨.obj D,false,false⟩,⟨.obj D,true,false⟩]:=by
  have g1:(getObj D).run P w=.ok (.deferred (some [])) w:=by simp[getObj,Sem.run,h]
  have s1:(setObj D (.deferred none)).run P w=.ok () (w.putObj D (.deferred none)):=by simp[setObj,Sem.run,h,World.putObj]
  simp[Instr.takeDeferred,Sem.events_bind,Sem.run_bind,g1,s1,Result.andThen,Jx2 h (by simp),Jx3 h (by simp),Obj.isChan]
 simp[G,stepG,unwind,Frame.at,hd,callDeferred,Sem.runT_eq,he,hv,GStep.after,seen_eq hq]
def Jam{fn:Func}{todo:List Item}{c:Frame}{v:JJ}(hn:b.kind=.normal)(hd:a.defers=[])(hf:P.funcs[b.fn]?=some fn)(hr:(results fn a.tmps).run P w=.ok v w) :
  stepG P main (G { b.at a todo with mode:=.returning } (c::cs)) w=.go (G (c.finish v) cs) w (seen P b.fn ((results fn a.tmps).events P w #[])):=by
 simp[G,stepG,unwind,doReturn,Frame.at,hn,hd,hf,hr,GStep.after]
end
section
variable{C:Cx}{S:Kn}{W E:JB}{w:JE}{B b₀:Frame}{a a₀:Act}{k:List Item}{cs:List Frame}{t:JC}{ds:List Deferred}{Post:(JB)->JF->JE->Prop}
def bJ{α:Type}{H:Array α}{n:Nat}{o:α}(h:H[n]?=some o):n<H.size:=(BJ.1 h).1
def J6{g g':JF}{P:Program}(hs:∀w1,stepG P true g w1=.go g' w1 #[])(hr:g.status=.running)(kn:∀d,Reach P Post W g' (w.at d)):Reach P Post W g w:=
 Reach.idle hs hr λw1 r1=>by obtain⟨d,rfl⟩:=r1;exact kn d
def Reach.call{P:Program}{ops:Array Oper}{i:Nat}{rest:List Nat}{o:Oper}{f:JG}{fn:Func}{c:Code}{ags:Array Operand}{NU:Array JH}(ho:ops[i]?=some o)(hw:Region.wanted o (yielded ops a.tmps)=true)(hk:B.kind≠.early)
  (Ar:o.op=.call { callee:=.value (.func f),args:=ags,argTypes:=NU }) (hf:P.funcs[f]?=some fn) (Eb:(fn.name == "runtime.NumGoroutine")=false) (OG:fn.body=some c)
  (kn:∀d,Reach P Post W (G ((base f).at { tmps:=ags.map a.eval++Array.replicate (fn.ntmps-(ags.map a.eval).size) JA,defers:=[] } [.code c]) (B.at a (.inRegion ops (i::rest)::k)::cs)) (w.at d)) :
  Reach P Post W (G (B.at a (.inRegion ops (i::rest)::k)) cs) w:=by
 refine J6 (λw1=>?_) rfl kn;have BO:fn.body.isNone=false:=by rw[OG];rfl
 rw[stepG_enter ho hw hk (run_call_body Ar hf Eb BO),enter_at _ hf OG];have:listed P B.fn a o w1=#[]:=by unfold listed;grind[events_call_body,seen_none]
 rw[this]
def Reach.leave1{P:Program}{fn:Func}{todo:List Item}{ops:Array Oper}{i:Nat}{rest:List Nat}{x:Tmp}(hn:B.kind=.normal)(hd:a.defers=[])(hf:P.funcs[B.fn]?=some fn)(hr:fn.results=#[.tmp x])
  (kn:∀d,Reach P Post W (G (b₀.at (a₀.put ((ops[i]?).bind (·.dst)) (a.tmps.getD x JA)) (.inRegion ops rest::k)) cs) (w.at d)) :
  Reach P Post W (G { B.at a todo with mode:=.returning } (b₀.at a₀ (.inRegion ops (i::rest)::k)::cs)) w:=by
 refine J6 (λw1=>?_) rfl kn
 simp_all[stepG_leave,results_tmp,events_results_tmp,Frame.finish_at]
def Reach.J01b{P:Program}{fn:Func}{todo:List Item}{l:Nat}(hn:B.kind=.normal)(hd:a.defers=[])(hf:P.funcs[B.fn]?=some fn)(hr:fn.results=#[])
  (kn:∀d,Reach P Post W (G (b₀.at a₀ (.endRangeFunc l::k)) cs) (w.at d)) :
  Reach P Post W (G { B.at a todo with mode:=.returning } (b₀.at a₀ (.inRangeFunc l::k)::cs)) w:=by
 refine J6 (λw1=>?_) rfl kn;rw[stepG_leave hn hd hf (results_none hr _ P w1) (events_results_none hr _ _)];simp[Frame.finish,Frame.at]
theorem BOk.ext{E':JB}(h:BOk C S W E w)(e:∀b,E' b↔E b):BOk C S W E' w:=by
 have:E'=E:=funext λb=>propext (e b)
 grind
def Reach.range(Ae:C.st=false)(hB:BOk C S W E w)(ht:TmR C S B.fn (idE E) t t)(EU:B.roundOf=none)(hk:B.kind≠.early){g:Operand}{ps:Array Tmp}{assign body:Code}{f:JG}{fb:JC}{fn:Func}{c:Code}
  (hg:(⟨t,ds⟩:Act).eval g=.func (.func f) #[] fb) (hf:C.P.funcs[f]?=some fn) (Eb:(fn.name == "runtime.NumGoroutine")=false) (OG:fn.body=some c) (ok1:okP C S B.fn assign) (ok2:okP C S B.fn body)
  (kn:∀w',BOk C S W (λb=>(E b\/b=w.heap.size)\/b=w.heap.size+1) w'->w'.heap.size=w.heap.size+2->(∀b,E b->w'.heap[b]?=w.heap[b]?)->w'.heap[w.heap.size]?=some (.deferred (some [])) ->
   w'.heap[w.heap.size+1]?=some (.loop (NI B.fn t ps assign body w.heap.size)) ->
   Reach C.P Post W (G ((base f).at { tmps:=(#[.func (.yield (w.heap.size+1)) #[] #[]]++fb)++Array.replicate (fn.ntmps-(#[Value.func (.yield (w.heap.size+1)) #[] #[]]++fb).size) JA,defers:=[] } [.code c]) (B.at ⟨t,{ target:=.collected w.heap.size,args:=#[] }::ds⟩ (.inRangeFunc (w.heap.size+1)::k)::cs)) w') :
  Reach C.P Post W (G (B.at ⟨t,ds⟩ (.code (.rangeFunc g ps assign body)::k)) cs) w:=by
 generalize hn:w.heap.size=n at *;have hE:∀b,E b->b<n:=λb hb=>hn▸hB.lt hb;refine Reach.hand (f:=λw1=>(w1.alloc (.deferred (some []))).alloc (.loop (NI B.fn t ps assign body w1.heap.size)))
  (g':=G ((base f).at { tmps:=(#[.func (.yield (n+1)) #[] #[]]++fb)++Array.replicate (fn.ntmps-(#[Value.func (.yield (n+1)) #[] #[]]++fb).size) JA,defers:=[] } [.code c]) (B.at ⟨t,{ target:=.collected n,args:=#[] }::ds⟩ (.inRangeFunc (n+1)::k)::cs))
  hB rfl rfl rfl rfl (λw1 r1=>?_) λw1 w2 r1 r2 hW=>?_
 .have AQ:w1.heap.size=n:=hn▸r1.same rfl;refine⟨#[],?_,?_⟩
  .rw[Je7 EU hk hg hf Eb OG,enter_at _ hf OG,AQ]
  .refine⟨by simp;omega,λb hb _=>?_,rfl,rfl,Ad _,λe he=>by simp at he⟩
   grind[Below.heap_alloc]
 .have AQ:w1.heap.size=n:=hn▸r1.same rfl;have Ba:∀b,grown E w1 ((w1.alloc (.deferred (some []))).alloc (.loop (NI B.fn t ps assign body w1.heap.size))) b↔(E b\/b=n)\/b=n+1:=λb=>by
   simp only[grown,World.size_alloc,AQ]
   grind
  have CV:=hB.rely Ae r1;have nW:∀b,W b->b≠n/\b≠n+1:=λb hb=>⟨λe=>hW b hb ((Ba b).2 (.inl (.inr e))),λe=>hW b hb ((Ba b).2 (.inr e))⟩;have Dt:=CV.push Ae (o:=.deferred (some [])) ⟨C.lax Ae _,_,rfl,.nil⟩ λh=>(nW _ h).1 AQ;have Hf:=Dt.push Ae (o:=.loop (NI B.fn t ps assign body w1.heap.size)) ⟨C.lax Ae _,_,rfl,⟨rfl,rfl,rfl,?_,rfl,rfl,rfl,⟨rfl,.inl (.inr rfl)⟩,ok1,ok2,λc hc=>(by cases hc),Ae⟩⟩ λh=>(nW _ h).2 (by simp_all)
  .have KH:=(Hf.ext λb=>(Ba b).trans (by simp_all)).rely Ae r2;have e1:w2.heap.size=n+2:=(r2.same rfl).trans (by simp;omega);have e2:∀b,E b->w2.heap[b]?=w.heap[b]?:=λb hb=>(r2.blocks b ((Ba b).2 (.inl (.inl hb)))).trans ((Below.heap_alloc _ _ b (by have:=hE b hb;simp;omega)).trans ((Below.heap_alloc _ _ b (by grind)).trans (r1.blocks b hb)));have e3:w2.heap[n]?=some (.deferred (some [])):=(r2.blocks n ((Ba n).2 (.inl (.inr rfl)))).trans ((Below.heap_alloc _ _ n (by simp;omega)).trans (by grind[World.alloc_heap_new]));have e4:w2.heap[n+1]?=some (.loop (NI B.fn t ps assign body n)):=(r2.blocks (n+1) ((Ba _).2 (.inr rfl))).trans (by
    grind[World.alloc_heap_new,World.size_alloc])
   exact kn w2 (KH.ext λb=>(Ba b).symm) e1 e2 e3 e4
  .exact⟨rfl,λi x x' hi h1 h2=>(ht.at_ i x x' hi h1 h2).mono λb b' h=>⟨h.1,.inl (.inl h.2)⟩⟩
def J90{w1 w2:JE}(h:w2.heap.size=w1.heap.size)(b:Nat):grown E w1 w2 b↔E b:=by
 simp only[grown,h]
 grind
def Reach.put(Ae:C.st=false)(hB:BOk C S W E w){g g':JF}{D:Nat}{o o':Obj}(hD:E D)(ho:w.heap[D]?=some o)(Em:Kv C (okP C S) (idE E) D o' o')(hr:g.status=.running)(ET:g'.status=.running)(hd:g'.dying=none)(hof:g'.offers=none)
  (hs:∀w1,w1.heap[D]?=some o->stepG C.P true g w1=.go g' (w1.putObj D o') #[⟨.obj D,false,false⟩,⟨.obj D,true,false⟩])
  (kn:∀w',BOk C S W E w'->w'.heap.size=w.heap.size->(∀b,E b->b≠D->w'.heap[b]?=w.heap[b]?)->w'.heap[D]?=some o'->Reach C.P Post W g' w'):Reach C.P Post W g w:=by
 refine Reach.hand (f:=λw1=>w1.putObj D o') hB hr ET hd hof (λw1 r1=>⟨_,hs w1 ((r1.blocks D hD).trans ho),?_⟩) λw1 w2 r1 r2 hW=>?_
 .refine⟨by simp,λb hb hn=>World.putObj_heap_other λe=>hn (e▸hD),rfl,rfl,Ad _,λe he=>?_⟩;simp only[List.mem_toArray,AL,BU,or_false]at he;rcases he with rfl|rfl
  .exact⟨⟨.inl hD,λh=>by cases h⟩,rfl⟩
  .exact⟨⟨.inl hD,λ_=>.inl hD⟩,rfl⟩
 .have Ba:∀b,grown E w1 (w1.putObj D o') b↔E b:=J90 (by simp);have Dt:=(hB.rely Ae r1).put Ae hD Em;have Hf:=(Dt.ext Ba).rely Ae r2;have Ac:D<w1.heap.size:=by have:=bJ ho;have:=r1.same rfl;omega
  exact kn w2 (Hf.ext λb=>(Ba b).symm) ((r2.same rfl).trans (by simpa using r1.same rfl)) (λb hb Ap=>(r2.blocks b ((Ba b).2 hb)).trans ((World.putObj_heap_other Ap).trans (r1.blocks b hb))) ((r2.blocks D ((Ba D).2 hD)).trans (World.putObj_heap_same Ac))
def Reach.Juj(Ae:C.st=false)(hB:BOk C S W E w){l:Nat}{r:Loop}(hl:E l)(h:w.heap[l]?=some (.loop r))(hb:r.state≠.busy)(hp:r.pending=none)(hq:(C.P.funcs[B.fn]?).any (·.norace)=false)
  (kn:∀w',BOk C S W E w'->w'.heap.size=w.heap.size->(∀b,E b->b≠l->w'.heap[b]?=w.heap[b]?)->Reach C.P Post W (G (B.at a k) cs) w') :
  Reach C.P Post W (G (B.at a (.endRangeFunc l::k)) cs) w:=by
 obtain⟨s1,l',e1,e2⟩:=hB.wr.obj l l _ _ ⟨rfl,hl⟩ h h;cases e1;refine Reach.put Ae hB hl h (o':=.loop { r with state:=.exhausted }) ⟨s1,_,rfl,⟨rfl,rfl,rfl,e2.tmps,rfl,rfl,rfl,e2.defers,e2.ok1,e2.ok2,e2.ok3,e2.st⟩⟩ rfl rfl rfl rfl (λw1 h1=>?_) λw' h1 h2 h3 _=>kn w' h1 h2 h3
 grind[Jga]
def Reach.collected(Ae:C.st=false)(hB:BOk C S W E w){D:Nat}{todo:List Item}(hD:E D)(h:w.heap[D]?=some (.deferred (some [])))(hq:(C.P.funcs[B.fn]?).any (·.norace)=false)
  (kn:∀w',BOk C S W E w'->w'.heap.size=w.heap.size->(∀b,E b->b≠D->w'.heap[b]?=w.heap[b]?)->Reach C.P Post W (G { B.at ⟨t,ds⟩ todo with mode:=.returning } cs) w') :
  Reach C.P Post W (G { B.at ⟨t,{ target:=.collected D,args:=#[] }::ds⟩ todo with mode:=.returning } cs) w:=by
 refine Reach.put Ae hB hD h (o':=.deferred none) ⟨C.lax Ae _,_,rfl,trivial⟩ rfl rfl rfl rfl (λw1 h1=>?_) λw' h1 h2 h3 _=>kn w' h1 h2 h3;rw[Je8 hq h1 rfl]
def Reach.Jyl(Ae:C.st=false)(hB:BOk C S W E w){fn:Func}{todo:List Item}{ops:Array Oper}{i:Nat}{rest:List Nat}{x y:Tmp}{tx ty:JH}{bx by_:Nat}{u v:JJ}(hn:B.kind=.normal)(hd:a.defers=[])(hf:C.P.funcs[B.fn]?=some fn)(hq:(C.P.funcs[B.fn]?).any (·.norace)=false)(hr:fn.results=#[.cell x tx,.cell y ty])
  (hx:a.tmps.getD x JA=JL bx) (hy:a.tmps.getD y JA=JL by_) (Ex:E bx) (Ey:E by_)
  (hl:∀w1,(∀b,b=bx\/b=by_->w1.heap[b]?=w.heap[b]?)->(results fn a.tmps).run C.P w1=.ok (.tuple #[u,v]) w1/\∀e∈(results fn a.tmps).events C.P w1 #[],∃ad:Addr,(ad.block=bx\/ad.block=by_)/\e=⟨.cell ad,false,false⟩)
  (kn:∀w',BOk C S W E w'->w'.heap.size=w.heap.size->(∀b,E b->w'.heap[b]?=w.heap[b]?)->Reach C.P Post W (G (b₀.at (a₀.put ((ops[i]?).bind (·.dst)) (.tuple #[u,v])) (.inRegion ops rest::k)) cs) w') :
  Reach C.P Post W (G { B.at a todo with mode:=.returning } (b₀.at a₀ (.inRegion ops (i::rest)::k)::cs)) w:=by
 refine Reach.hand (f:=λw1=>w1) (g':=G (b₀.at (a₀.put ((ops[i]?).bind (·.dst)) (.tuple #[u,v])) (.inRegion ops rest::k)) cs) hB rfl rfl rfl rfl (λw1 r1=>?_) λw1 w2 r1 r2 hW=>?_
 .obtain⟨h1,h2⟩:=hl w1 λb hb=>r1.blocks b (by grind);refine⟨_,by rw[Jam hn hd hf h1,Frame.finish_at],⟨Ad _,λ_ _ _=>rfl,rfl,rfl,Ad _,λe he=>?_⟩⟩;rw[seen_eq hq λe he=>?_]at he
  .obtain⟨ad,h3,rfl⟩:=h2 e he;exact⟨⟨.inl (by grind),λh=>by cases h⟩,rfl⟩
  grind
 .have Ba:∀b,grown E w1 w1 b↔E b:=J90 rfl;have Hf:=((hB.rely Ae r1).ext Ba).rely Ae r2;exact kn w2 (Hf.ext λb=>(Ba b).symm) ((r2.same rfl).trans (r1.same rfl)) λb hb=>(r2.blocks b ((Ba b).2 hb)).trans (r1.blocks b hb)
end
section
variable{C:Cx}{S:Kn}{W E:JB}{w:JE}
def Reach.toOps(A:FM C S)(Ae:C.st=false){Post:(JB)->JF->JE->Prop}{b:Frame}{ops:Array Oper}{pre rest:List Nat}{t:JC}{ds:List Deferred}{k:List Item}{cs:List Frame}{Q:JC->JE->Prop}
  (hX:IC C S b.fn ops pre=true) (LK:rest≠[]) (hb:GY C b.fn) (Nk:S.df.contains b.fn=false) (hl:C.hl b.fn≠[]) (hk:b.kind≠.early)
  (hB:BOk C S W E w) (ht:TmR C S b.fn (idE E) t t)
  (K:∀τ,wpOps C.P ops (λe a w1=>e=.normal/\a.defers=[Jq]/\(∀i,(C.hl b.fn).contains i=true->i<t.size->a.tmps[i]?=t[i]?)/\Q a.tmps w1) pre ⟨t,[Jq]⟩ (w.tp τ 0))
  (kn:∀(E':JB)(t':JC)(w1 w':JE),(∀b,E b->E' b)->BOk C S W E' w'->WR C (okP C S) (idE E') w1 w'->TmR C S b.fn (idE E') t' t'->Q t' w1->Reach C.P Post W (G (b.at ⟨t',ds⟩ (.inRegion ops rest::k)) cs) w') :
  Reach C.P Post W (G (b.at ⟨t,ds⟩ (.inRegion ops (pre++rest)::k)) cs) w:=by
 let B:Bot:=⟨b.fn,t,k,rest,b.kind,ds,cs⟩
 have hg:GR C S (idE E) B (G ((base b.fn).at ⟨t,[Jq]⟩ ([.inRegion ops pre]++[Js])) []) (G (b.at ⟨t,ds⟩ (.inRegion ops (pre++rest)::k)) cs):=
  ⟨.bot ⟨rfl,hb,rfl,hk,rfl,rfl,ht,Pz.ops (cs:=B) pre hX,rfl,rfl,rfl,Nk,hl,rfl,rfl,rfl,λ_ _=>rfl⟩,rfl,rfl,rfl,rfl,rfl⟩
 have K':∀τ,LGo C.P b.fn (bI b.fn [.inRegion ops []] λt1 w1=>(∀i,(C.hl b.fn).contains i=true->i<t.size->t1[i]?=t[i]?)/\Q t1 w1) [.inRegion ops pre] t (w.tp τ 0):=λτ=>by
  obtain⟨⟨tm,df⟩,w',⟨_,hd,hh,hq⟩,hs⟩:=Jm3 (λ_ _ _ h=>h.1) pre _ _ (K τ) (base b.fn) [] [Js] []
  grind[LGo.steps,LGo.at]
 have hR:=Jlv A (main:=true) (cs:=B) (y0:=⟨E,E,G (b.at ⟨t,ds⟩ (.inRegion ops (pre++rest)::k)) cs,w⟩) (Post:=bI b.fn [.inRegion ops []] λt1 w1=>(∀i,(C.hl b.fn).contains i=true->i<t.size->t1[i]?=t[i]?)/\Q t1 w1)
  (λg w ⟨t1,Ba,_⟩=>by
   rw[Ba];show[Item.inRegion ops []]++[Js]≠[Js]
   grind)
  (λg w ⟨t1,Ba,_⟩ h=>by rw[Ba]at h;obtain⟨_,⟨c,h⟩,_⟩:=h;cases h) hB.link hg K'
 rw[Ae]at hR;refine Reach.U9 hR rfl hB.dis hB.dis (λb hb=>hB.lt hb) ?_;rintro⟨own,X,g,wy⟩ ⟨E1,g1,w1,hs,hL,fP,t1,rfl,hh,hq⟩ hd gV;simp only at hL hd gV fP;obtain⟨E',e1,s3,hE,Gq,BQ⟩:=J5x hB Ae hs hL hd;rcases fP with hG|FW
 .obtain⟨rfl,CB⟩:=Jeu (L':=.inRegion ops rest::k) hG e1 hh λy MJ=>by
   generalize hx:[Item.inRegion ops []]++[Js]=x at MJ;cases MJ with
   |@code l l' hr hi=>grind
   |@ops Rl is h=>grind
  exact kn E' t1 w1 wy hE Gq BQ (by grind) hq
 .exact absurd FW.mode (by intro h;cases h)
def Reach.draw(Ae:C.st=false)(hB:BOk C S W E w){Post:(JB)->JF->JE->Prop}{b:Frame}{a:Act}{k:List Item}{cs:List Frame}{id:Nat}{ops:Array Oper}
  (kn:∀n w',BOk C S W E w'->w'.heap.size=w.heap.size->(∀b,E b->w'.heap[b]?=w.heap[b]?)->Reach C.P Post W (G (b.at a (.inRegion ops (Region.schedule (C.P.follows .mixedOrders) ops n)::k)) cs) w') :
  Reach C.P Post W (G (b.at a (.code (.region id ops true)::k)) cs) w:=by
 have hR:Runs false C.P true (λy=>∃n,y.g=G (b.at a (.inRegion ops (Region.schedule (C.P.follows .mixedOrders) ops n)::k)) cs/\BOk C S W E y.w/\y.w.heap.size=w.heap.size/\∀b,E b->y.w.heap[b]?=w.heap[b]?) ⟨E,E,G (b.at a (.code (.region id ops true)::k)) cs,w⟩:=by
  refine .step (λw1=>⟨grown E w1 { w1 with drawn:=w1.drawn+1 },grown E w1 { w1 with drawn:=w1.drawn+1 },G (b.at a (.inRegion ops (Region.schedule (C.P.follows .mixedOrders) ops (w1.tape w1.drawn (.order b.fn id)))::k)) cs,{ w1 with drawn:=w1.drawn+1 }⟩)
   (λw1 r=>⟨⟨#[],stepG_region_draw,⟨Ad _,λ_ _ _=>rfl,rfl,rfl,Nat.le_succ _,λe he=>by simp at he⟩⟩,rfl,rfl,rfl,rfl,rfl⟩) λw1 r=>.stop λw2 r2=>?_
  have Ba:∀b,grown E w1 { w1 with drawn:=w1.drawn+1 } b↔E b:=J90 rfl;have CV:=hB.rely Ae r;have O0:BOk C S W E { w1 with drawn:=w1.drawn+1 }:=CV.at (w1.drawn+1);have Hf:=((O0.ext Ba).rely Ae r2).ext λb=>(Ba b).symm;exact⟨_,rfl,Hf,(r2.same rfl).trans (r.same rfl),λb hb=>(r2.blocks b ((Ba b).2 hb)).trans (r.blocks b hb)⟩
 refine Reach.U9 hR rfl hB.dis hB.dis (λb hb=>hB.lt hb) ?_
 grind
end
end Go.Sim
namespace Go.Sim.Z
open Go Go.Proofs Go.RowKit
structure Tch(N:Nat)(M:JB)(w w':JE):Prop where
 size:w.heap.size<=w'.heap.size
 heap:∀b,b<N->¬M b->w'.heap[b]?=w.heap[b]?
 tape:w'.tape=w.tape
 os:w'.os=w.os
 output:w'.output=w.output
def M0:JB:=λ_=>False
section
variable{N N':Nat}{M M':JB}{w w1 w2:JE}{b:Nat}
def Tch.refl:Tch N M w w:=⟨Ad _,λ_ _ _=>rfl,rfl,rfl,rfl⟩
def Tch.trans(h:Tch N M w w1)(k:Tch N M w1 w2):Tch N M w w2:=⟨BN h.size k.size,λb hb hm=>(k.heap b hb hm).trans (h.heap b hb hm),k.tape.trans h.tape,k.os.trans h.os,k.output.trans h.output⟩
def Tch.mono(h:Tch N M w w1)(hN:N'<=N)(hM:∀b,b<N'->M b->M' b):Tch N' M' w w1:=⟨h.size,λb hb hm=>h.heap b (by omega) λhx=>hm (hM b hb hx),h.tape,h.os,h.output⟩
def Tch.drew(h:Tch N M w w1):Tch N M w w1.drew:=⟨h.size,h.heap,h.tape,h.os,h.output⟩
theorem Tch.alloc(h:Tch N M w w1)(hN:N<=w1.heap.size)(o:Obj):Tch N M w (w1.alloc o):=
 ⟨BN h.size (by simp),λb hb hm=>(Below.heap_alloc _ _ _ (by omega)).trans (h.heap b hb hm),h.tape,h.os,h.output⟩
def Tch.set(h:Tch N M w w1){a:Addr}(ha:N<=a.block\/M a.block)(v:JJ):Tch N M w (w1.setCell a v):=
 ⟨BN h.size (by simp_all),λb hb hm=>(Below.heap_setCell _ _ _ _ (by grind)).trans (h.heap b hb hm),h.tape,h.os,h.output⟩
def Tch.cell(h:Tch N M w w1){a:Addr}(ha:a.block<N)(hm:¬M a.block):w1.cell? a=w.cell? a:=Du (w:=w) (h.heap _ ha hm)
def Tch.of_below(h:Below N w w1):Tch N M w w1:=⟨h.size,λb hb _=>h.block b hb,h.tape,h.os,h.output⟩
def Tch.then(h:Tch N M w w1)(k:Tch w1.heap.size M' w1 w2)(hN:N<=w1.heap.size)(hM:∀b,b<N->M' b->M b):Tch N M w w2:=
 h.trans (k.mono hN hM)
def Tch.grown(h:Tch w.heap.size M0 w w1)(h6:w.drawn<=w1.drawn):∃q os,w1=Sort.grow (w.drewN q) os:=by
 refine⟨w1.drawn-w.drawn,w1.heap.extract w.heap.size w1.heap.size,?_⟩;obtain⟨h1,h2,h3,h4,h5⟩:=h;have e:w1.heap=w.heap++w1.heap.extract w.heap.size w1.heap.size:=by
  apply Ll;intro i;rw[Array.getElem?_append];split
  .rename_i hi;exact h2 i hi (λh=>h)
  grind
 have ed:w.drawn+(w1.drawn-w.drawn)=w1.drawn:=by omega
 obtain⟨a1,a2,a3,a4,a5⟩:=w1;simp only at h3 h4 h5 ed e;subst h3 h4 h5;simp only[Sort.grow,World.drewN,ed];congr 1
theorem cell_of{arr:JC}{t:JH}{z:Nat × Nat}(h:w.heap[b]?=some (.cells arr t z))(i:Nat):w.cell? ⟨b,i,none⟩=arr[i]?:=by simp[World.cell?,h]
def FZ{arr:JC}{t:JH}(h:w.heap[b]?=some (.cells arr t))(i:Nat):w.frozen? ⟨b,i,none⟩=false:=by simp[World.frozen?,h]
def heap_set{arr:JC}{t:JH}(h:w.heap[b]?=some (.cells arr t))(i:Nat)(v:JJ):(w.setCell ⟨b,i,none⟩ v).heap[b]?=some (.cells (arr.setIfInBounds i v) t):=by simp only[World.setCell,Array.getElem?_modify,if_true,h,Option.map_some];simp
theorem Jm(a:Addr)(v:JJ)(h:b≠a.block):(w.setCell a v).heap[b]?=w.heap[b]?:=Below.heap_setCell _ _ _ _ h
theorem Ja(o:Obj):(w.alloc o).heap[w.heap.size]?=some o:=by show(w.heap.push o)[w.heap.size]?=_;simp
theorem J8(o:Obj){b:Nat}(h:b<w.heap.size):(w.alloc o).heap[b]?=w.heap[b]?:=Below.heap_alloc _ _ _ h
theorem size_alloc(o:Obj):(w.alloc o).heap.size=w.heap.size+1:=by simp_all
theorem size_set(a:Addr)(v:JJ):(w.setCell a v).heap.size=w.heap.size:=by simp_all
theorem Jj{o:Obj}(h:w.heap[b]?=some o):b<w.heap.size:=(BJ.1 h).1
end
def ai(k:IntKind)(xs:JD):JC:=(xs.map (Value.int k)).toArray
section
variable{k:IntKind}{xs:JD}
@[simp] theorem Jxj:(ai k xs).size=xs.length:=by simp[ai]
theorem Jib(i:Nat):(ai k xs)[i]?=(xs[i]?).map (Value.int k):=by simp[ai]
theorem nO{i:Nat}(h:i<xs.length):(ai k xs)[i]?=some (.int k (xs.getD i 0)):=by
 grind[Jib,List.getElem?_eq_getElem]
def Jzt{i:Nat}(v:Int):(ai k xs).setIfInBounds i (.int k v)=ai k (xs.set i v):=by
 apply Ll;intro j;rw[Gj,Jib,Jib,List.getElem?_set];by_cases h:i=j
 all_goals simp_all
end
def IsInt(v:JJ):Prop:=∃k n,v=.int k n
def Plain(cur:JC):Prop:=∀v∈cur.toList,IsInt v
theorem Plain.at{cur:JC}(h:Plain cur){i:Nat}{v:JJ}(hv:cur[i]?=some v):IsInt v:=h v (Array.mem_toList_iff.2 (Ho hv))
def Plain.TA{cur:JC}(h:∀(i:Nat) v,cur[i]?=some v->IsInt v):Plain cur:=λv hv=>by obtain⟨i,hi,rfl⟩:=List.getElem_of_mem hv;exact h i _ (by grind)
def Plain.set{cur:JC}(h:Plain cur)(i:Nat){v:JJ}(hv:IsInt v):Plain (cur.setIfInBounds i v):=.TA λj u hu=>by
 rw[Gj]at hu;split at hu
 .grind
 .exact h.at hu
def Plain.append{a b:JC}(h:Plain a)(k:Plain b):Plain (a++b):=λv hv=>by rw[Array.toList_append,Gn]at hv;exact hv.elim (h v) (k v)
def Plain.replicate{n:Nat}{v:JJ}(h:IsInt v):Plain (Array.replicate n v):=λu hu=>by
 grind
def Plain.list{l:List JJ}(h:∀v∈l,IsInt v):Plain l.toArray:=λv hv=>h v (by grind)
def Plain.ai{k:IntKind}{xs:JD}:Plain (ai k xs):=.list λv hv=>by obtain⟨x,_,rfl⟩:=AZ.1 hv;exact⟨_,_,rfl⟩
def Plain.madeCells{zs:JC}(h:Plain zs)(n:Nat):Plain (Builtin.zeroCells zs n):=λv hv=>by
 unfold Builtin.zeroCells at hv;rw[Array.toList_map]at hv;obtain⟨i,hi,rfl⟩:=AZ.1 hv;have Ac:i<n*zs.size:=by grind
 have BZ:0<zs.size:=by
  grind
 have hm:i % zs.size<zs.size:=Nat.mod_lt _ BZ;rw[getElem!_pos zs (i % zs.size) hm];exact h _ (by simp)
def Ko(w:JE)(v:JJ):Prop:=∀g n cap,v=JM g n cap->∀arr e z,w.heap[g]?=some (.cells arr e z)->Plain arr
theorem Ko.nil(w:JE)(l c:Nat):Ko w (.slice none l c):=λ_ _ _ h=>by cases h
def Ko.kept{w w':JE}{v:JJ}(h:Ko w v)(hh:∀g n cap,v=JM g n cap->w'.heap[g]?=w.heap[g]?):Ko w' v:=λg n cap e arr t z ha=>h g n cap e arr t z ((hh g n cap e)▸ha)
def J9b{P:Program}(w:JE)(base:Nat)(t ty e:JH)(i:TypeInfo)(z:JJ)(size bytes:Nat)(ht:P.underlying t=some (.slice e))(hi:P.info? e=some i)(hz:i.zero=some z)
  (Ir:i.size=size) (xG:i.bytes=bytes) (XU:z.cells.size=size) (Ag:0<size)
  (v:JJ) (n:Nat) (xs:List JJ) (Aw:w.ownsRow base e size v n xs)
  (a:Addr) (m c:Nat) (news:List JJ) (hl:news.length=m*size) (Ik:∀j u,news[j]?=some u->w.cell? (a.add j)=some u) (h1:∀u∈news,u.oneCell'=true)
  (vW:n+m<=maxLen) (GI:(n+m)*bytes<=140737488355328) (hp:Ko w v) (XB:∀u∈news,IsInt u) (Zn:Plain z.cells) {v':JJ} {w':JE}
  (ET:(Builtin.append_ #[t,t] ty #[v,.slice (some a) m c]).run P w=.ok v' w'):Ko w' v':=by
 subst Ir;subst xG;have hsmall:n+m<=9223372036854775807:=by simp only[maxLen]at vW;omega
 rcases Aw.2 with⟨rfl,rfl⟩|⟨g,cap,cur,rfl,xC,hg,hnc,hcm,FH,QZ⟩
 .have hx:xs=[]:=List.eq_nil_of_length_eq_zero (by simpa using Aw.1);subst hx;by_cases hm:m=0
  .subst hm;have hn:news=[]:=List.eq_nil_of_length_eq_zero (by grind);subst hn;have hr:(Builtin.append_ #[t,t] ty #[.slice none 0 0,.slice (some a) 0 c]).run P w=.ok (.slice none 0 0) w:=by simp[Builtin.append_,run_underlying ht,sizeOf,typeInfo,hi,Builtin.lenOf,Builtin.firstCells,loadCells,loadCellsFrom]
   grind
  .have hr:=run_append_nil (P:=P) w t ty e i z ht hi hz a m c news hl Ik (by omega) (by omega) (by grind);rw[hr]at ET;cases ET;intro g n cap e1 arr t z ha;cases e1;have hq:=ha.symm.trans (heap_alloc_new w.drew _);cases hq;exact(Plain.list XB).append (Zn.madeCells _)
 .have Uu:Plain cur:=hp g n cap rfl cur e _ hg;have hxi:∀u∈xs,IsInt u:=λu hu=>Uu u (List.mem_of_mem_take (QZ▸hu));by_cases Ip:n+m<=cap
  .have hfit:n*i.size+news.length<=cur.size:=by rw[hl,FH,<- Nat.add_mul];exact Nat.mul_le_mul_right _ Ip
   have hr:=run_append_room (P:=P) w t ty e i ht hi g n cap cur hg a m c news hl Ik h1 Ip hfit;rw[hr]at ET;cases ET;intro g' n' Ee e1 arr t z ha;cases e1;rw[setRow_heap w g cur _ e _ hg]at ha;cases ha;refine Plain.list λu hu=>?_;rcases Gn.1 hu with hu|hu
   .grind
   .exact Uu u (List.mem_of_mem_drop hu)
  .have holds:∀j u,xs[j]?=some u->w.cell? ((⟨g,0,none⟩:Addr).add j)=some u:=Aw.cells (g:=g) rfl;have hr:=run_append_grow (P:=P) w t ty e i z ht hi hz ⟨g,0,none⟩ n cap xs Aw.1 holds a m c news hl Ik (by omega) (by omega) (growslice_fits (by omega) GI);rw[hr]at ET;cases ET;intro g' n' Ee e1 arr t z ha;cases e1;have hq:=ha.symm.trans (heap_alloc_new w.drew _);cases hq;exact((Plain.list hxi).append (Plain.list XB)).append (Zn.madeCells _)
def J7q{F:Fence}{n:Nat}{P:Program}(w:JE){ops:Array Oper}{rest:List Oper}{o:Oper}{a:Act}{Q:Exit->Act->JE->Prop}
  (hg:o.guard=none) (s x:Operand) (t:JH) (Ar:o.op=Op.call { callee:=Callee.builtin Builtin.append,args:=#[s,x],argTypes:=#[t,t] })
  (base:Nat) (e:JH) (i:TypeInfo) (z:JJ) (size bytes:Nat) (h1:P.underlying t=some (.slice e)) (h2:P.info? e=some i) (h3:i.zero=some z) (h4:i.size=size) (h5:i.bytes=bytes) (h6:z.cells.size=size) (h7:0<size)
  (v:JJ) (k:Nat) (xs:List JJ) (hs:a.eval s=v) (Aw:w.ownsRow base e size v k xs) (ad:Addr) (m c:Nat) (news:List JJ) (hx:a.eval x=.slice (some ad) m c) (hn:news.length=m*size)
  (hc:∀j u,news[j]?=some u->w.cell? (ad.add j)=some u) (vU:∀u∈news,u.oneCell'=true) (b1:k+m<=maxLen) (b2:(k+m)*bytes<=140737488355328) (b3:base<=w.heap.size) (hp:Ko w v) (XB:∀u∈news,IsInt u) (Zn:Plain z.cells)
  (hK:∀v' w',w'.ownsRow base e size v' (k+m) (xs++news)->w.grownBy w' v.ownBlock->(v'=.slice none 0 0↔v=.slice none 0 0/\m=0)->Ko w' v'->wpListIn F n P ops Q rest (a.put o.dst v') w') :
  wpListIn F n P ops Q (o::rest) a w:=by
 refine wpListIn_plain hg λK hK'=>?_;obtain⟨v',w',AB,r1,r2,r3⟩:=run_append_own (P:=P) w base t o.type e i z size bytes h1 h2 h3 h4 h5 h6 h7 v k xs Aw ad m c news hn hc vU b1 b2 b3;unfold Oper.wpIn;refine⟨?_,?_⟩
 .simp[Oper.about,Ar,resolve,Target.leads,Sem.run_pure]
 .rw[Oper.semAt_plain F _ _ (by grind)];simp[execOp,Ar,resolve,invoke,builtin,hs,hx,AB,Result.andThen];exact hK' _ _ (hK v' w' r1 r2 r3 (J9b w base t o.type e i z size bytes h1 h2 h3 h4 h5 h6 h7 v k xs Aw ad m c news hn hc vU b1 b2 hp XB Zn AB))
def mO{P:Program}(w:JE){ops:Array Oper}{rest:List Oper}{o:Oper}{a:Act}{Q:Exit->Act->JE->Prop}(hgd:o.guard=none)(s x:Operand)(t:JH)
  (ho:o.op=.call { callee:=.builtin .append,args:=#[s,x],argTypes:=#[t,t] })
  (base:Nat) (e:JH) (i:TypeInfo) (z:JJ) (size bytes:Nat) (ht:P.underlying t=some (.slice e)) (hi:P.info? e=some i) (hz:i.zero=some z)
  (Ir:i.size=size) (xG:i.bytes=bytes) (XU:z.cells.size=size) (Ag:0<size)
  (v:JJ) (n:Nat) (xs:List JJ) (hs:a.eval s=v) (Aw:w.ownsRow base e size v n xs)
  (ad:Addr) (m c:Nat) (news:List JJ) (hx:a.eval x=.slice (some ad) m c) (hl:news.length=m*size) (Ik:∀j u,news[j]?=some u->w.cell? (ad.add j)=some u) (h1:∀u∈news,u.oneCell'=true)
  (vW:n+m<=maxLen) (GI:(n+m)*bytes<=140737488355328) (gY:base<=w.heap.size) (hp:Ko w v) (XB:∀u∈news,IsInt u) (Zn:Plain z.cells)
  (h:∀v' w',w'.ownsRow base e size v' (n+m) (xs++news)->w.grownBy w' v.ownBlock->(v'=.slice none 0 0↔v=.slice none 0 0/\m=0)->Ko w' v'->wpList P ops Q rest (a.put o.dst v') w') :
  wpList P ops Q (o::rest) a w:=by
 refine wpList_plain hgd λK hK=>?_;obtain⟨v',w',hr,h2,h3,h4,h5⟩:=run_append_own_at (P:=P) w base t o.type e i z size bytes ht hi hz Ir xG XU Ag v n xs Aw ad m c news hl Ik h1 vW GI gY;unfold Oper.wp execOp;simp only[ho,resolve,invoke,builtin,Sem.run_bind,Sem.run_pure,Result.andThen_ok,List.map_toArray,D5,List.map_nil,hs,hx,hr];exact hK _ _ (h v' w' h2 h3 h4 (J9b w base t o.type e i z size bytes ht hi hz Ir xG XU Ag v n xs Aw ad m c news hl Ik h1 vW GI hp XB Zn hr))
def Jf(m:Nat)(k:JD)(n:Nat):JD:=k.zipIdx.map λp=>if p.2<n/\m.testBit p.2=false then 0 else p.1
theorem J6a(m:Nat)(k:JD)(n:Nat):(Jf m k n).length=k.length:=by simp[Jf]
theorem Jkr(m:Nat)(k:JD):Jf m k 0=k:=by apply List.ext_getElem?;intro i;simp[Jf]
def Jmc{m n:Nat}{k:JD}(h:m.testBit n=false):(Jf m k n).set n 0=Jf m k (n+1):=by
 apply List.ext_getElem?;intro i;rw[List.getElem?_set];simp only[Jf,List.getElem?_map,List.getElem?_zipIdx,FQ,List.length_zipIdx,Nat.zero_add]
 grind
def Jks{m n:Nat}{k:JD}(h:m.testBit n=true):Jf m k n=Jf m k (n+1):=by
 apply List.ext_getElem?;intro i;simp only[Jf,List.getElem?_map,List.getElem?_zipIdx,Nat.zero_add]
 grind
theorem Jic(n:Int):bits .and .i64 n 1=n % 2:=by
 have h1:(BitVec.ofInt 64 1).toNat=2 ^ 1-1:=by decide
 have key:(BitVec.ofInt 64 n &&& BitVec.ofInt 64 1).toNat=(n % ((2 ^ 64:Nat):Int)).toNat % 2 ^ 1:=by
  simp_all
 show IntKind.i64.wrap ((BitVec.ofInt 64 n &&& BitVec.ofInt 64 1).toNat:Nat)=n % 2
 grind[IntKind.wrap_i64]
def Jxk(m k:Nat):(bits BinOp.and IntKind.i64 (((m:Int)) / 2 ^ k) 1 == 0)=!m.testBit k:=by
 rw[Jic,Nat.testBit,Nat.shiftRight_eq_div_pow]
 grind
def five{w:JE}{b t:Nat}{z:Nat × Nat}{xs:JD}(h:w.heap[b]?=some (.cells (ai .i64 xs) t z))(hl:xs.length=5) :
  ∃x0 x1 x2 x3 x4,xs=[x0,x1,x2,x3,x4]/\w.cell? ⟨b,0,none⟩=some (JK x0)/\w.cell? ⟨b,1,none⟩=some (JK x1)/\w.cell? ⟨b,2,none⟩=some (JK x2)/\w.cell? ⟨b,3,none⟩=some (JK x3)/\w.cell? ⟨b,4,none⟩=some (JK x4):=by
 obtain⟨x0,x1,x2,x3,x4,rfl⟩:∃x0 x1 x2 x3 x4,xs=[x0,x1,x2,x3,x4]:=by
  rcases xs with _|⟨x0,_|⟨x1,_|⟨x2,_|⟨x3,_|⟨x4,_|⟨x5,l⟩⟩⟩⟩⟩⟩<;>simp at hl
  grind
 exact⟨_,_,_,_,_,rfl,cell_of h 0,cell_of h 1,cell_of h 2,cell_of h 3,cell_of h 4⟩
def Jbv(ks:JD)(hk:ks.length=5)(m:Nat)(w:JE):Calls prog 41 #[.agg (ai .i64 ks),JK m] w λe w'=>e=.returned (.agg (ai .i64 (Jf m ks 5)))/\Tch w.heap.size M0 w w':=by
 go_enter func41,ntmps41
 go_wp2
 go_loopw [6] (λi wr=>∃k:Nat,k<=5/\i=JK k/\wr.heap[w.heap.size]?=some (.cells (ai .i64 (Jf m ks k)) 104)/\wr.heap[w.heap.size+1]?=some (.cells (ai .i64 [0,0,0,0,0]) 104)/\Tch w.heap.size M0 w wr) (λi _=>5-(RowKit.intOf i).toNat)
 case atStart=>
  refine⟨0,by omega,rfl,?_,?_,(Tch.refl.alloc (Ad _) _).alloc (by simp_all) _⟩
  .grind[Jkr,J8,size_alloc,Ja]
  .have:=Ja (w:=w.alloc (.cells (ai .i64 ks) 104)) (.cells #[JK 0,JK 0,JK 0,JK 0,JK 0] 104);rw[size_alloc]at this;exact this
 case round=>
  obtain⟨k,hk5,rfl,hc,hd,hB⟩:=hrel;have L8:=Jxk m k;rcases BF k 5 with Ac|Et
  .have Aq:=cell_of hc k;rw[nO (by rw[J6a];omega)]at Aq;have xI:=FZ hc k;have CS:(k:Int)<5:=by omega
   cases hb:m.testBit k
   .rw[hb]at L8;go_wp2;refine⟨⟨k+1,by omega,by go_num,?_,?_,hB.set (.inl (Ad _)) _⟩,?_⟩
    .rw[heap_set hc,Jzt,Jmc hb]
    .grind[Jm]
    .simp[RowKit.intOf];omega
   .rw[hb]at L8;go_wp2;refine⟨⟨k+1,by omega,by go_num,?_,hd,hB⟩,?_⟩
    .rw[hc,Jks hb]
    .simp[RowKit.intOf];omega
  .obtain rfl:k=5:=by omega
   obtain⟨x0,x1,x2,x3,x4,hx,g0,g1,g2,g3,g4⟩:=five hc (by grind[J6a]);have f0:=FZ hd 0;have f1:=FZ hd 1;have f2:=FZ hd 2;have f3:=FZ hd 3;have f4:=FZ hd 4;obtain⟨y0,y1,y2,y3,y4,hy,k0,k1,k2,k3,k4⟩:=five hd rfl;clear hc hd L8;go_wp2;refine bodyPost_ret (v:=.agg #[JK x0,JK x1,JK x2,JK x3,JK x4]) (by
    have hr:f41.results=#[.cell 4 104]:=rfl;simp[results,hr,go_sem,k0,k1,k2,k3,k4]
    ) rfl ⟨?_,?_⟩
   .rw[hx];rfl
   .refine((((hB.set ?_ _).set ?_ _).set ?_ _).set ?_ _).set ?_ _<;>exact .inl (by simp)
def cmpK:JD->JD->Int
 |x::xs,y::ys=>if Lib.compareInt x y=0 then cmpK xs ys else Lib.compareInt x y
 |_,_=>0
def Jpf{xs ys:JD}{k:Nat}(hx:k<xs.length)(hy:k<ys.length):cmpK (xs.drop k) (ys.drop k)=if Lib.compareInt (xs.getD k 0) (ys.getD k 0)=0 then cmpK (xs.drop (k+1)) (ys.drop (k+1))else Lib.compareInt (xs.getD k 0) (ys.getD k 0):=by
 rw[List.drop_eq_getElem_cons hx,List.drop_eq_getElem_cons hy,cmpK]
 grind
def Jhd(bx bY cx cy n:Nat)(xs ys:JD)(hx:xs.length=n)(hy:ys.length=n)(hn:n<1000)(w:JE)(gx:∀j,j<n->w.cell? ⟨bx,j,none⟩=some (JK (xs.getD j 0)))(gy:∀j,j<n->w.cell? ⟨bY,j,none⟩=some (JK (ys.getD j 0))) :
  Calls prog 146 #[JM bx n cx,JM bY n cy] w λe w'=>e=.returned (JK (cmpK xs ys))/\w'=w:=by
 go_enter func146,ntmps146
 go_wp2
 go_loop [11] (λi=>∃k:Nat,k<=n/\i=JK k/\cmpK (xs.drop k) (ys.drop k)=cmpK xs ys) (λi=>n-(RowKit.intOf i).toNat)
 case atStart=>grind
 case round=>
  obtain⟨k,hk,rfl,hc⟩:=hrel;rcases BF k n with Ac|Et
  .have g1:=gx k Ac;have g2:=gy k Ac;have CS:(k:Int)<n:=by omega
   rw[Jpf (by omega) (by omega)]at hc;clear gx gy;generalize xs.getD k 0=x at *;generalize ys.getD k 0=y at *
   go_wp2_with (go_at_call 141;refine(Tryz.cmp_Compare_int _ _ _).mono ?_;rintro e w' ⟨rfl,rfl⟩)
   .rename_i Ap;go_ret
    simp_all
   .rename_i Ap;refine⟨⟨k+1,by omega,by go_num,?_⟩,by simp[RowKit.intOf];omega⟩
    grind
  .have EC:¬((k:Int)<n):=by omega
   have Y6:¬((n:Int)<n):=by omega
   clear gx gy;go_wp2;go_ret;refine⟨?_,rfl⟩;rw[<- hc,List.drop_eq_nil_of_le (by omega),List.drop_eq_nil_of_le (by omega)];rfl
def Jid(xs ys:JD)(hx:xs.length=5)(hy:ys.length=5)(w:JE) :
  Calls prog 89 #[.agg (ai .i64 xs),.agg (ai .i64 ys)] w λe w'=>e=.returned (JK (cmpK xs ys))/\w'=((w.alloc (.cells (ai .i64 xs) 104)).alloc (.cells (ai .i64 ys) 104)).drew:=by
 have s1:=size_alloc (w:=w) (.cells (ai .i64 xs) 104);have b1:((w.alloc (.cells (ai .i64 xs) 104)).alloc (.cells (ai .i64 ys) 104)).heap[w.heap.size]?=some (.cells (ai .i64 xs) 104):=by grind[J8,Ja]
 have b2:((w.alloc (.cells (ai .i64 xs) 104)).alloc (.cells (ai .i64 ys) 104)).heap[w.heap.size+1]?=some (.cells (ai .i64 ys) 104):=by
  grind[Ja]
 have wB:=Jhd w.heap.size (w.heap.size+1) 5 5 5 xs ys hx hy (by omega) ((w.alloc (.cells (ai .i64 xs) 104)).alloc (.cells (ai .i64 ys) 104)).drew (λj hj=>(cell_of b1 j).trans (nO (by omega))) (λj hj=>(cell_of b2 j).trans (nO (by omega)));clear b1 b2 s1
 go_enter func89,ntmps89
 go_wp2
 go_region_with (go_at_call 146;refine wB.mono ?_;rintro e w' ⟨rfl,rfl⟩)
 all_goals go_wp2
 all_goals go_ret
 all_goals exact⟨rfl,rfl⟩
open Go.Maps
def Jie:laidOutB prog=true:=by kernel_rfl
def rW:WideMaps.KeyLaw prog 104:=deep_law_laid Jie (m:=2) (by omega) (of_decide_eq_true (by kernel_rfl)) (by kernel_rfl) (by simp_all)
def aN:Keyed prog 104:=.of_law rW
def EM(k:JD):Prop:=k.length=5/\∀x∈k,(Lit.int .i64 x).wf=true
def klit(k:JD):Lit:=.string (keyBytes (k.map (Lit.int .i64)))
def U6{k:JD}(h:EM k):keyOf prog 104 (.agg (ai .i64 k))=some (klit k):=by
 obtain⟨h1,h2⟩:=h;obtain⟨x0,x1,x2,x3,x4,rfl⟩:∃x0 x1 x2 x3 x4,k=[x0,x1,x2,x3,x4]:=by
  rcases k with _|⟨x0,_|⟨x1,_|⟨x2,_|⟨x3,_|⟨x4,_|⟨x5,l⟩⟩⟩⟩⟩⟩<;>simp at h1
  grind
 have ht:prog.keyType 104=true:=by kernel_rfl
 have dZ:prog.cellsOf 104=5:=by kernel_rfl
 have c3:prog.cellsOf 3=1:=by kernel_rfl
 have hf:Value.formed prog 104 (.agg (ai .i64 [x0,x1,x2,x3,x4]))=true:=by simp[Value.formed,underlying104,dZ]
 have e:∀d x,x∈[x0,x1,x2,x3,x4]->prog.keyLits (d+1) 3 [.int .i64 x]=some [.int .i64 x]:=λd x hx=>by simp only[Program.keyLits,underlying3,h2 x hx,and_self,if_true]
 have hs:prog.types.size+1=(prog.types.size-1)+1+1:=by
  simp_all
 simp only[keyOf,underlying104,ht,hf,Bool.and_self,if_true];rw[hs];simp only[Program.keyLits,underlying104,dZ,c3];have w0:=h2 x0 (by simp);have w1:=h2 x1 (by simp);have w2:=h2 x2 (by simp);have w3:=h2 x3 (by simp);have w4:=h2 x4 (by simp);simp[ai,Value.cells,List.range,List.range.loop,e,klit,keyBytes,w0,w1,w2,w3,w4]
def Jsn{k k':JD}(h:EM k)(h':EM k')(e:klit k=klit k'):k=k':=by
 have:=rW.inj (U6 h) (e▸U6 h');simp only[Value.agg.injEq,ai,List.toArray_inj]at this;have inj:∀(a b:JD),a.map (Value.int .i64)=b.map (Value.int .i64)->a=b:=by
  intro a
  induction a with
  |nil=>simp_all
  |cons x a ih=>intro b h;cases b with
   |nil=>simp at h
   |cons y b=>grind
 grind
theorem VX{k k':JD}(h:EM k)(h':EM k'):(klit k).sameKey (klit k')=decide (k=k'):=by
 by_cases e:k=k'
 .subst e;simp[klit,Lit.sameKey]
 .have:klit k≠klit k':=λx=>e (Jsn h h' x);simp only[klit,Lit.string.injEq,ne_eq]at this;simp[klit,Lit.sameKey,this,e]
def Rv(v:JJ):Option (DataW JJ × List MemPlace):=some (.held v,[])
def Dy(p:JD × JJ):Lit × DataW JJ:=(klit p.1,.held p.2)
def insert_perm{H:Type}(x:Lit × DataW H):∀l:List (Lit × DataW H),(DataW.insert x l).Perm (x::l)
 |[]=>.refl _
 |y::r=>by
  unfold DataW.insert;split
  .exact .refl _
  .exact((insert_perm x r).cons y).trans (.swap x y r)
def J8e(p:JD × JJ):∀M:List (JD × JJ),∃L:List (JD × JJ),L.map Dy=DataW.insert (Dy p) (M.map Dy)/\L.Perm (p::M)
 |[]=>⟨[p],rfl,.refl _⟩
 |y::r=>by
  simp only[D5,DataW.insert];split
  .exact⟨p::y::r,rfl,.refl _⟩
  .obtain⟨L,h1,h2⟩:=J8e p r;exact⟨y::L,by simp[h1],(h2.cons y).trans (.swap p y r)⟩
structure Cm(w:JE)(b:Nat)(L:List (JD × JJ)):Prop where
 keys:∀p∈L,EM p.1
 nodup:(L.map (·.1)).Nodup
 own:∃L':List (JD × JJ),L'.Perm L/\∃n,w.ownsMap prog 104 Rv b n (.map (L'.map Dy))
def Jlh{w:JE}{b n:Nat}{E:List (Lit × DataW JJ)}(h:w.ownsMap prog 104 Rv b n (.map E)):w.ownsMap prog 104 Rv b E.length (.map E):=by
 obtain⟨es,clock,h1,h2,h3,h4⟩:=h;refine⟨es,clock,h1,h2,?_,h4⟩
 grind[length_sorted]
def Cm.kept{w w':JE}{b:Nat}{L:List (JD × JJ)}(h:Cm w b L)(hb:w'.heap[b]?=w.heap[b]?):Cm w' b L:=by obtain⟨L',h1,n,es,clock,h2,h3⟩:=h.own;exact⟨h.keys,h.nodup,L',h1,n,es,clock,hb.trans h2,h3⟩
theorem Cm.made(w:JE):Cm (w.alloc (.map #[] 0)) w.heap.size []:=
 ⟨λp hp=>by simp at hp,by simp,[],.refl _,0,World.ownsMap_made w prog 104 Rv⟩
def Cm.lt{w:JE}{b:Nat}{L:List (JD × JJ)}(h:Cm w b L):b<w.heap.size:=by obtain⟨_,_,_,h2⟩:=h.own;exact h2.lt
def Jif{k:JD}(hk:EM k):∀L:List (JD × JJ),(∀p∈L,EM p.1)->((L.map Dy).find? λp=>p.1.sameKey (klit k))=(L.find? λp=>decide (p.1=k)).map Dy
 |[],_=>rfl
 |p::L,h=>by
  simp only[D5,List.find?_cons];rw[show(Dy p).1.sameKey (klit k)=decide (p.1=k)from VX (h p (by simp)) hk];by_cases e:p.1=k
  .simp[e]
  .simp only[e,decide_false];exact Jif hk L λq hq=>h q (by simp[hq])
def look(L:List (JD × JJ))(k:JD):Option JJ:=(L.find? λp=>decide (p.1=k)).map (·.2)
theorem Jcg{L:List (JD × JJ)}(hn:(L.map (·.1)).Nodup){k:JD}{v:JJ}:look L k=some v↔(k,v)∈L:=by
 induction L with
 |nil=>simp[look]
 |cons p L ih=>
  simp only[D5,List.nodup_cons]at hn;unfold look at ih ⊢
  grind
def Jpg{L L':List (JD × JJ)}(hp:L'.Perm L)(hn:(L.map (·.1)).Nodup)(k:JD):look L' k=look L k:=by
 apply Option.ext
 grind[Jcg]
def Cm.lookup{w:JE}{b:Nat}{L:List (JD × JJ)}(h:Cm w b L){k:JD}(hk:EM k) :
  (Instr.lookup 95 (.map (some b)) (.agg (ai .i64 k)) false).run prog w=.ok ((look L k).getD (.pointer none)) w:=by
 obtain⟨L',h1,n,h2⟩:=h.own;obtain⟨v,ps,AB,hv⟩:=h2.lookup aN underlying95 (zeroValue114 w) (zd:=.held (.pointer none)) (zp:=[]) rfl (U6 hk);rw[AB];have e:(DataW.map (L'.map Dy)).atKey (klit k) (.held (.pointer none))=.held ((look L k).getD (.pointer none)):=by simp only[DataW.atKey,Jif hk L' λp hp=>h.keys p (h1.mem_iff.1 hp)];rw[<- Jpg h1 h.nodup];unfold look;cases L'.find? λp=>decide (p.1=k)<;>rfl
 rw[e]at hv;simp only[Rv,Cb,Prod.mk.injEq,DataW.held.injEq]at hv;rw[hv.1]
def Ot(k:JD)(v:JJ)(L:List (JD × JJ)):List (JD × JJ):=(k,v)::L.filter λp=>!decide (p.1=k)
def Cm.update{w:JE}{b:Nat}{L:List (JD × JJ)}(h:Cm w b L)(hn:L.length<maxLen){k:JD}(hk:EM k)(v:JJ) :
  ∃w',(Instr.mapUpdate 95 (.map (some b)) (.agg (ai .i64 k)) v).run prog w=.ok () w'/\Cm w' b (Ot k v L)/\w.grownBy w' (some b):=by
 obtain⟨L',h1,n,h2⟩:=h.own;have hlen:(L'.map Dy).length<maxLen:=by simpa[h1.length_eq]using hn
 obtain⟨w',AB,h3,h4⟩:=(Jlh h2).update aN underlying95 hlen (U6 hk) (val:=v) (d:=.held v) (ps:=[]) rfl;refine⟨w',AB,⟨λp hp=>?_,?_,?_⟩,h4⟩
 .rcases AL.1 hp with rfl|hp
  .exact hk
  .exact h.keys p (Hq.1 hp).1
 .simp only[Ot,D5,List.nodup_cons]
  grind[List.filter_sublist,nodup]
 .have e:(DataW.map (L'.map Dy)).put (klit k) (.held v)=.map (DataW.insert (Dy (k,v)) ((L'.filter λp=>!decide (p.1=k)).map Dy)):=by
   have ef:(L'.map Dy).filter (λp=>!p.1.sameKey (klit k))=(L'.filter λp=>!decide (p.1=k)).map Dy:=by
    rw[List.filter_map];refine congrArg (List.map Dy) (List.filter_congr λp hp=>?_);simp only[Function.comp];rw[show(Dy p).1.sameKey (klit k)=decide (p.1=k)from VX (h.keys p (h1.mem_iff.1 hp)) hk]
   show DataW.map (DataW.insert _ ((L'.map Dy).filter (λp=>!p.1.sameKey (klit k))))=_;rw[ef];rfl
  rw[e]at h3;obtain⟨L2,e2,lZ⟩:=J8e (k,v) (L'.filter λp=>!decide (p.1=k));rw[<- e2]at h3;exact⟨L2,lZ.trans ((h1.filter _).cons _),_,h3⟩
open Go.Sort Go.Shelf
abbrev Je:={ k:JD // EM k }
def Sm(x:Je):JJ:=.agg (ai .i64 x.1)
def Jkt{v:JJ}{l:Lit}(h:keyOf prog 104 v=some l):∃x:Je,v=Sm x:=by
 have dZ:prog.cellsOf 104=5:=by kernel_rfl
 have c3:prog.cellsOf 3=1:=by kernel_rfl
 simp only[keyOf,underlying104]at h;split at h
 .rename_i hf;simp only[Bh]at hf;obtain⟨_,hf⟩:=hf;cases v with
  |agg cs=>
   simp only[Value.formed,underlying104,dZ]at hf;have hs:cs.size=5:=by grind
   obtain⟨l5⟩:=cs;simp only[List.size_toArray]at hs;obtain⟨x0,x1,x2,x3,x4,rfl⟩:∃x0 x1 x2 x3 x4,l5=[x0,x1,x2,x3,x4]:=by
    rcases l5 with _|⟨x0,_|⟨x1,_|⟨x2,_|⟨x3,_|⟨x4,_|⟨x5,l⟩⟩⟩⟩⟩⟩<;>simp at hs
    grind
   have Ag:prog.types.size+1=(prog.types.size-1)+1+1:=by
    simp_all
   have one:∀d x ls,prog.keyLits (d+1) 3 [x]=some ls->∃n,x=.int .i64 n/\(Lit.int .i64 n).wf=true:=by
    intro d x ls hx;simp only[Program.keyLits,underlying3]at hx
    grind
   rw[Ag]at h;generalize prog.types.size-1=d at h;obtain⟨a,ha,_⟩:=Fh.1 h;unfold Program.keyLits at ha;simp only[underlying104,dZ,c3,Value.cells,Lh,List.length_nil,if_true]at ha;have o0:=one d x0;have o1:=one d x1;have o2:=one d x2;have o3:=one d x3;have o4:=one d x4;generalize hk:prog.keyLits (d+1) 3=K at ha o0 o1 o2 o3 o4;clear hk;simp[List.range,List.range.loop]at ha;cases k0:K [x0]with
   |none=>grind
   |some r0=>cases k1:K [x1]with
    |none=>grind
    |some r1=>cases k2:K [x2]with
     |none=>grind
     |some r2=>cases k3:K [x3]with
      |none=>grind
      |some r3=>cases k4:K [x4]with
       |none=>grind
       |some r4=>
        obtain⟨n0,rfl,w0⟩:=o0 _ k0;obtain⟨n1,rfl,w1⟩:=o1 _ k1;obtain⟨n2,rfl,w2⟩:=o2 _ k2;obtain⟨n3,rfl,w3⟩:=o3 _ k3;obtain⟨n4,rfl,w4⟩:=o4 _ k4;exact⟨⟨[n0,n1,n2,n3,n4],rfl,by simp_all⟩,rfl⟩
  |_=>simp[Value.formed,underlying104]at hf
 .cases h
def TK(D0:DataW JJ)(left:Lit->Bool)(ss:List Je):Prop:=ss.Nodup/\∀x:Je,x∈ss↔(has D0 (klit x.1)=true/\left (klit x.1)=false)
section
variable{D0:DataW JJ}{left:Lit->Bool}{ss:List Je}
def TK.start(D0:DataW JJ):TK D0 (has D0) []:=⟨List.nodup_nil,λx=>by grind⟩
def TK.step(h:TK D0 left ss){x:Je}{y:DataW JJ}(Ew:left (klit x.1)=true)(OC:∀zd,D0.atKey (klit x.1) zd=y):TK D0 (λz=>left z && !z.sameKey (klit x.1)) (ss++[x]):=by
 have QL:has D0 (klit x.1)=true:=has_true_of_atKey OC;have Dw:x∉ss:=λhx=>by have:=((h.2 x).1 hx).2;grind
 refine⟨List.nodup_append.2 ⟨h.1,by simp,λa ha b hb=>by grind⟩,λy=>?_⟩;by_cases hy:y=x
 .grind[VX]
 .have:y.1≠x.1:=λe=>hy (Subtype.ext e);simp[h.2 y,hy,VX y.2 x.2,this]
end
def Jli{L:List (JD × JJ)}(h:∀p∈L,EM p.1){k:JD}(hk:EM k):has (DataW.map (L.map Dy)) (klit k)=true↔k∈L.map (·.1):=by
 simp only[has,List.any_eq_true,AZ];constructor
 .rintro⟨_,⟨p,hp,rfl⟩,hs⟩;rw[show(Dy p).1.sameKey (klit k)=decide (p.1=k)from VX (h p hp) hk]at hs
  grind
 .rintro⟨p,hp,rfl⟩;exact⟨_,⟨p,hp,rfl⟩,by rw[show(Dy p).1.sameKey (klit p.1)=decide (p.1=p.1)from VX (h p hp) hk];simp⟩
def KeysOf(L:List (JD × JJ))(ss:List Je):Prop:=(ss.map (·.1)).Perm (L.map (·.1))
def TK.perm{L:List (JD × JJ)}{L':List (JD × JJ)}(hp:L'.Perm L)(hk:∀p∈L,EM p.1)(hn:(L.map (·.1)).Nodup){left:Lit->Bool}{ss:List Je}(h:TK (.map (L'.map Dy)) left ss)(hl:∀kl,left kl=false):KeysOf L ss:=by
 have D6:∀p∈L',EM p.1:=λp Gu=>hk p (hp.mem_iff.1 Gu);refine(List.perm_ext_iff_of_nodup ?_ hn).2 λk=>?_
 .exact List.pairwise_map.2 (h.1.imp λAp e=>Ap (Subtype.ext e))
 .rw[<- (hp.map (·.1)).mem_iff];constructor
  .intro hm;obtain⟨x,hx,rfl⟩:=AZ.1 hm;exact(Jli D6 x.2).1 ((h.2 x).1 hx).1
  .intro hm;obtain⟨p,Gu,rfl⟩:=AZ.1 hm;exact AZ.2 ⟨⟨p.1,D6 p Gu⟩,(h.2 _).2 ⟨(Jli D6 (D6 p Gu)).2 hm,hl _⟩,rfl⟩
def keys1N_in(F:Fence)(n:Nat)(Ce:F.fn 143)(EU:F.round=none)(hn:1<=n)(l Bm b nn:Nat)(L0:List (JD × JJ))(iR:∀p∈L0,EM p.1)(hnd:(L0.map (·.1)).Nodup)(J:List Je->JE->Prop)
  (hY:∀pre x W,J pre W->pre.length<L0.length->YieldAt F (n-1) prog l #[Sm x] W λe W'=>e=.returned (.bool true)/\J (pre++[x]) W'/\KeepsWalks W W')
  (W:JE) (hJ:AbidesFrom W.heap.size J) (hm:W.cell? ⟨Bm,0,none⟩=some (.map (some b))) (L':List (JD × JJ)) (wR:L'.Perm L0) (Aw:W.ownsMap prog 104 Rv b nn (.map (L'.map Dy))) (h0:J [] W) :
  CallsIn F n prog 143 #[.func (.yield l) #[] #[],JL Bm] W λe W'=>(∃v,e=.returned v)/\∃ss:List Je,KeysOf L0 ss/\J ss W':=by
 have Ir:Maps.size (DataW.map (L'.map Dy))=L0.length:=by simp[Maps.size,wR.length_eq]
 refine callsIn_of_wp func143 rfl Ce ?_ EU;simp only[ntmps143,List.size_toArray,Lh,List.length_nil,Nat.reduceAdd,Nat.reduceSub,Array.replicate_succ,Array.replicate_zero,List.push_toArray,List.append_toArray,Gm,G9]
 gi_wp2_with (first
  |(gi_at_range;refine wpListIn_range_own _ rfl _ 95 rfl 104 114 aN underlying95 _ b nn _ rfl Aw ?_;intro w0 hrg0 Uk V7)
  |gi_in)
 go_frame
 gi_loopw [6] (λ_ wr=>∃(left:Lit->Bool)(cnt:Nat)(ss:List Je),wr.ranges prog 104 Rv b W.heap.size nn (.map (L'.map Dy)) left cnt/\ss.length+cnt<=L0.length/\TK (.map (L'.map Dy)) left ss/\J ss wr)
  (λ_ wr=>wr.rangeLeft b W.heap.size)
 case atStart=>
  exact⟨_,_,[],hrg0,by simp[Ir],TK.start _,hJ [] W w0 none h0 Uk (λr e=>by cases e)⟩
 case round=>
  obtain⟨left,cnt,ss,hrg,FH,hC,hJs⟩:=hrel
  gi_wp2_with (first
   |(gi_at_next;refine wpListIn_next_ranges _ rfl _ rfl 104 aN Rv Sm id (λkey kl hk=>Jkt hk) (λv _ _=>⟨v,rfl⟩) b W.heap.size nn _ _ _ rfl hrg ?_ ?_)
   |gi_in)
  ·
   intro hc0 xQ;gi_wp2;go_end0;exact⟨⟨_,rfl⟩,ss,hC.perm wR iR hnd xQ,hJs⟩
  ·
   intro xs NC c kl yd yp w2 cnt2 LD Ew hv OC Uw Ac Bl Bo hen;have xP:kl=klit xs:=by
    have:=LD.symm.trans (U6 NC)
    grind
   subst xP;have hJ2:J ss w2:=hJ ss wr w2 (some W.heap.size) hJs Bl (λr e=>by cases e;exact⟨Ad _,hrg.iter_walk⟩);obtain⟨x0,x1,x2,x3,x4,rfl⟩:∃x0 x1 x2 x3 x4,xs=[x0,x1,x2,x3,x4]:=by
    have h1:=NC.1;rcases xs with _|⟨x0,_|⟨x1,_|⟨x2,_|⟨x3,_|⟨x4,_|⟨x5,l⟩⟩⟩⟩⟩⟩<;>simp at h1
    grind
   have wM:J ss (w2.alloc (.cells #[JK x0,JK x1,JK x2,JK x3,JK x4] 104)):=hJ ss w2 _ none hJ2 (World.grownBy_alloc _ _ _) (λr e=>by cases e);obtain⟨fn,tmps,assign,body,hy,hR⟩:=hY ss ⟨[x0,x1,x2,x3,x4],NC⟩ _ wM (by omega);simp only[Sm,ai,D5,List.map_nil]at hy hen;clear Bo wM;gi_wp2;refine hR.mono ?_;rintro e W3 ⟨rfl,wM,OM⟩;gi_wp2;have kH:=Uw.of_walks ((KeepsWalks.alloc _ _).trans OM);have QD:=hC.step (x:=⟨[x0,x1,x2,x3,x4],NC⟩) Ew OC
   go_roundw
   case rel=>exact⟨_,cnt2,ss++[⟨[x0,x1,x2,x3,x4],NC⟩],kH,by simp;omega,QD,wM⟩
   case measure=>rw[kH.left_eq,hrg.left_eq];exact Ac
def Jmd(mb:Option Nat)(w:JE) :
  Calls prog 87 #[.map mb] w λe w'=>e=.returned (.func (.func 143) #[] #[JL w.heap.size])/\w'=w.alloc (.cells #[.map mb] 95):=by
 go_enter func87,ntmps87
 go_wp2;go_ret
 simp_all
def keys_gives(F:Fence)(n:Nat)(Ce:F.fn 143)(EU:F.round=none)(hn:1<=n)(Bm b:Nat)(L0:List (JD × JJ))(w:JE)(hBm:Bm<w.heap.size)
  (hm:w.cell? ⟨Bm,0,none⟩=some (.map (some b))) (Aw:Cm w b L0) :
  SeqGives F n prog 143 #[JL Bm] Sm (KeysOf L0) L0.length w:=λl J W hW hJ hY h0=>by
 have BD:Cm W b L0:=Aw.kept (hW.block b Aw.lt);obtain⟨L',wR,nn,ho⟩:=BD.own;exact keys1N_in F n Ce EU hn l Bm b nn L0 Aw.keys Aw.nodup J hY W hJ ((hW.cell (p:=⟨Bm,0,none⟩) hBm).trans hm) L' wR ho h0
def apAssign:Code:=(Code.region 2 #[{ dst:=some 5,op:=Op.alloc 104,type:=0,pos:= "iter.go:51",after:=#[],guard:=none },{ dst:=none,op:=Op.store 104 (Operand.tmp 5) (Operand.tmp 7),type:=0,pos:= "iter.go:51",after:=#[{ on:=0,ground:=Ground.data },{ on:=0,ground:=Ground.phase }],guard:=none }] false)
def apBody:Code:=(Code.block 1 (Code.region 3 #[{ dst:=some 8,op:=Op.load 124 (Operand.tmp 2),type:=124,pos:= "iter.go:52",after:=#[],guard:=none },{ dst:=some 9,op:=Op.load 104 (Operand.tmp 5),type:=104,pos:= "iter.go:52",after:=#[],guard:=none },{ dst:=some 10,op:=Op.buildSlice 124 1 #[(0,Operand.tmp 9)],type:=124,pos:= "iter.go:52",after:=#[{ on:=1,ground:=Ground.data }],guard:=none },{ dst:=some 11,op:=Op.call { callee:=Callee.builtin Builtin.append,args:=#[Operand.tmp 8,Operand.tmp 10],argTypes:=#[124,124] },type:=124,pos:= "iter.go:52",after:=#[{ on:=0,ground:=Ground.data },{ on:=2,ground:=Ground.data }],guard:=none },{ dst:=none,op:=Op.store 124 (Operand.tmp 2) (Operand.tmp 11),type:=0,pos:= "iter.go:52",after:=#[{ on:=3,ground:=Ground.data },{ on:=3,ground:=Ground.chain },{ on:=0,ground:=Ground.phase },{ on:=1,ground:=Ground.phase },{ on:=2,ground:=Ground.phase },{ on:=3,ground:=Ground.phase }],guard:=none }] false))
def Gw(ss:List Je):List JJ:=ss.flatMap λx=>x.1.map (Value.int .i64)
def Jhe(ss:List Je)(x:Je):Gw (ss++[x])=Gw ss++x.1.map (Value.int .i64):=by simp[Gw]
def Jhf(ss:List Je):(Gw ss).length=ss.length*5:=by
 induction ss with
 |nil=>rfl
 |cons x ss ih=>
  have:Gw (x::ss)=x.1.map (Value.int .i64)++Gw ss:=rfl;rw[this,List.length_append,ih,FQ,x.2.1,Lh];omega
def apRec(fn:JG)(sv:JJ)(Bs D:Nat)(st:LoopState)(pend:Option Code):Loop:=
 { state:=st,pending:=pend,fn,tmps:=#[.slice none 0 0,sv,JL Bs,JA,.slice none 0 0,JA,sv,JA,JA,JA,JA,JA,JA],params:=#[7],assign:=apAssign,body:=apBody,defers:=D }
structure PR(W:JE)(base:Nat)(v:JJ)(ss:List Je):Prop where
 own:W.ownsRow base 104 5 v ss.length (Gw ss)
 pl:Ko W v
def PR.lt{W:JE}{base:Nat}{v:JJ}{ss:List Je}(h:PR W base v ss){g n cap:Nat}(e:v=JM g n cap):g<W.heap.size:=by
 rcases h.own.2 with⟨rfl,_⟩|⟨g',Ee,cur,rfl,_,hg,_⟩
 all_goals grind
def PR.kept{W W':JE}{row:Option Nat}{base:Nat}{v:JJ}{ss:List Je}(h:PR W base v ss)(hg:W.grownBy W' row)(Ap:v.ownBlock=none\/v.ownBlock≠row):PR W' base v ss:=by
 refine⟨h.own.kept hg Ap,h.pl.kept λg n cap e=>hg.block g (h.lt e) λe'=>?_⟩;subst e;rcases Ap with h1|h1
 .cases h1
 .exact h1 e'
def PR.abides{W W':JE}{row:Option Nat}{base:Nat}{v:JJ}{ss:List Je}(h:PR W base v ss)(hg:W.grownBy W' row)(Aj:∀r,row=some r->∃o:Obj,W.heap[r]?=some o/\o.isWalk=true):PR W' base v ss:=by
 refine h.kept hg ?_;rcases h.own.2 with⟨rfl,_⟩|⟨g',Ee,cur,rfl,_,xJ,_⟩
 .exact .inl rfl
 .refine .inr λe=>?_;obtain⟨o,ho,hw⟩:=Aj g' e.symm;rw[xJ]at ho;cases ho;cases hw
structure ApAt(w0:JE)(fn:JG)(sv:JJ)(Bs l D:Nat)(ss:List Je)(W:JE):Prop where
 box:∃v,W.heap[Bs]?=some (.cells #[v] 124 (0,0))/\PR W w0.heap.size v ss/\(v=.slice none 0 0↔ss=[])
 L:W.heap[l]?=some (.loop (apRec fn sv Bs D .ready none))
 K:W.heap[D]?=some (.deferred (some []))
 below:Below w0.heap.size w0 W
def ap_abides(w0:JE)(fn:JG)(sv:JJ)(Bs l D B:Nat)(hB:w0.heap.size<=B):AbidesFrom B (ApAt w0 fn sv Bs l D):=λs W W' row h hg Aj=>by
 have Oi:∀r,row=some r->∃o:Obj,W.heap[r]?=some o/\o.isWalk=true:=λr e=>(Aj r e).2;obtain⟨v,hv,hr,hn⟩:=h.box;exact⟨⟨v,(grownBy_keeps hg Oi hv rfl).trans hv,hr.abides hg Oi,hn⟩,(grownBy_keeps hg Oi h.L rfl).trans h.L,(grownBy_keeps hg Oi h.K rfl).trans h.K,
  h.below.grown hg h.below.size (λk e=>BN hB (Aj k e).1)⟩
def Jzu:(prog.info? 104).map (λi=>(i.zero,i.size,i.bytes))=some (some (.agg #[JK 0,JK 0,JK 0,JK 0,JK 0]),5,40):=by kernel_rfl
def J8f{w:JE}{a0 a1 a2 a3 a4:JJ}{t:JH}:∀j u,([a0,a1,a2,a3,a4]:List JJ)[j]?=some u->(w.alloc (.cells #[a0,a1,a2,a3,a4] t)).cell? ((⟨w.heap.size,0,none⟩:Addr).add j)=some u:=by
 intro j u hj;have hh:=Ja (w:=w) (.cells #[a0,a1,a2,a3,a4] t);have:(⟨w.heap.size,0,none⟩:Addr).add j=⟨w.heap.size,j,none⟩:=by unfold Addr.add;grind
 simp_all
def apYield(F:Fence)(m:Nat)(w0:JE)(fn:JG)(Oc:F.fn fn)(sv:JJ)(Bs l D:Nat)(hBl:Bs≠l)(wH:D≠l)(hDB:D≠Bs)(h0B:w0.heap.size<=Bs)(h0l:w0.heap.size<=l)
  (N:Nat) (hN:N<=maxLen) (wS:N*40<=140737488355328) (ss:List Je) (x:Je) (W:JE) (h:ApAt w0 fn sv Bs l D ss W) (hlen:ss.length<N) :
  YieldAt F m prog l #[Sm x] W λe W'=>e=.returned (.bool true)/\ApAt w0 fn sv Bs l D (ss++[x]) W'/\KeepsWalks W W':=by
 have Ap:(124:JH)≠104:=by decide
 obtain⟨i0,hi,EY,DJ,DR⟩:=info_parts Jzu;obtain⟨v,hv,Aj,_⟩:=h.box;obtain⟨xs,NC⟩:=x;obtain⟨x0,x1,x2,x3,x4,rfl⟩:∃x0 x1 x2 x3 x4,xs=[x0,x1,x2,x3,x4]:=by
  have h1:=NC.1;rcases xs with _|⟨x0,_|⟨x1,_|⟨x2,_|⟨x3,_|⟨x4,_|⟨x5,l⟩⟩⟩⟩⟩⟩<;>simp at h1
  grind
 have QN:=Jhe ss ⟨[x0,x1,x2,x3,x4],NC⟩;simp only[D5,List.map_nil]at QN;simp only[Sm,ai,D5,List.map_nil];generalize hX:(⟨[x0,x1,x2,x3,x4],NC⟩:Je)=X at QN ⊢;refine⟨fn,#[.slice none 0 0,sv,JL Bs,JA,.slice none 0 0,JA,sv,.agg #[JK x0,JK x1,JK x2,JK x3,JK x4],JA,JA,JA,JA,JA],apAssign,apBody,by simpa[apRec]using run_yield (P:=prog) (args:=#[.agg #[JK x0,JK x1,JK x2,JK x3,JK x4]]) h.L rfl,roundIn_of_wpIn Oc ?_⟩;unfold apAssign
 gi_wp2_with gi_round_op_a
 obtain⟨Wn,gQ⟩:∃Wn,W.alloc (.cells #[JK x0,JK x1,JK x2,JK x3,JK x4] 104)=Wn:=⟨_,rfl⟩;have hgn:W.grownBy Wn none:=by grind[World.grownBy_alloc]
 have Oe:KeepsWalks W Wn:=by grind[KeepsWalks.alloc]
 have hA:ApAt w0 fn sv Bs l D ss Wn:=ap_abides w0 fn sv Bs l D w0.heap.size (Ad _) ss W Wn none h hgn (λr e=>by cases e);have Vt:Wn.heap[W.heap.size]?=some (.cells #[JK x0,JK x1,JK x2,JK x3,JK x4] 104):=by grind[Ja]
 have hlb:l≠W.heap.size:=by have:=(BJ.1 h.L).1;omega
 rw[gQ];generalize W.heap.size=Bx at Vt hlb ⊢;clear gQ hgn hv Aj;obtain⟨v,hv,Aj,_⟩:=hA.box;have Jnx:=Oe;clear Oe;have hl:l<Wn.heap.size:=(BJ.1 hA.L).1;have OH:=run_beginRound (P:=prog) hA.L rfl;obtain⟨W2,Dv⟩:∃W2,Wn.putObj l (.loop { apRec fn sv Bs D .ready none with state:=.busy })=W2:=⟨_,rfl⟩;rw[Dv]at OH;have Bl:Wn.grownBy W2 (some l):=by grind[grownBy_putObj_a]
 have BX:KeepsWalks W W2:=Jnx.trans (by rw[<- Dv];exact KeepsWalks.putObj _ hA.L rfl);have Iw:W2.heap[Bs]?=some (.cells #[v] 124 (0,0)):=by grind[World.putObj_heap_other]
 have GH:W2.heap[Bx]?=some (.cells #[JK x0,JK x1,JK x2,JK x3,JK x4] 104):=by rw[<- Dv];exact(World.putObj_heap_other (Ne.symm hlb)).trans Vt
 have fQ:W2.heap[D]?=some (.deferred (some [])):=by rw[<- Dv];exact(World.putObj_heap_other wH).trans hA.K
 have Es:W2.heap[l]?=some (.loop { apRec fn sv Bs D .ready none with state:=.busy }):=by grind[World.putObj_heap_same]
 have Iq:PR W2 w0.heap.size v ss:=Aj.kept Bl (ownsRow_ne_a Aj.own hA.L (λcur e=>by grind));have Dk:Below w0.heap.size w0 W2:=hA.below.grown Bl hA.below.size (λk e=>by grind);obtain⟨Nh,hf2⟩:=cell_of_box_a Iw;have hBlt:Bs<W2.heap.size:=(BJ.1 Iw).1;have Eu:l<W2.heap.size:=(BJ.1 Es).1;have hDlt:D<W2.heap.size:=(BJ.1 fQ).1;have Rk:∀{j:Nat}{o:Obj},W2.heap[j]?=some o->(∀cur,o≠.cells cur 104 (0,0))->some j≠v.ownBlock:=λhj D7=>by
  rcases ownsRow_ne_a Iq.own hj D7 with e|e
  all_goals grind
 clear Dv Vt hv Aj;have c0:W2.cell? ⟨Bx,0,none⟩=some (JK x0):=(cell_of GH 0).trans rfl;have c1:W2.cell? ⟨Bx,1,none⟩=some (JK x1):=(cell_of GH 1).trans rfl;have c2:W2.cell? ⟨Bx,2,none⟩=some (JK x2):=(cell_of GH 2).trans rfl;have c3:W2.cell? ⟨Bx,3,none⟩=some (JK x3):=(cell_of GH 3).trans rfl;have c4:W2.cell? ⟨Bx,4,none⟩=some (JK x4):=(cell_of GH 4).trans rfl;refine⟨W2,OH,?_⟩;unfold apBody
 gi_wp2_with (first
  |(gi_at_builtin;refine J7q _ rfl _ _ 124 rfl w0.heap.size 104 i0 _ 5 40 underlying124 hi EY DJ DR rfl (by decide) _ _ _ rfl (Iq.own.alloc _) ⟨W2.heap.size,0,none⟩ 1 1 [.int .i64 x0,.int .i64 x1,.int .i64 x2,.int .i64 x3,.int .i64 x4] rfl rfl J8f (by simp[Value.oneCell']) (by omega) (by omega) (by have:=Dk.size;simp;omega) (Iq.pl.kept λg n cap e=>J8 _ (Iq.lt e)) (λu hu=>by rcases AL.1 hu with rfl|hu;exact⟨_,_,rfl⟩;rcases AL.1 hu with rfl|hu;exact⟨_,_,rfl⟩;rcases AL.1 hu with rfl|hu;exact⟨_,_,rfl⟩;rcases AL.1 hu with rfl|hu;exact⟨_,_,rfl⟩;rcases AL.1 hu with rfl|hu;exact⟨_,_,rfl⟩;cases hu) (Plain.ai (xs:=[0,0,0,0,0])) ?_;intro v' w3 BD Gt jO Jog
    have wC:w3.heap[Bs]?=some (.cells #[v] 124 (0,0)):=(Gt.block Bs (by simp;omega) (Rk Iw (λcur e=>by grind))).trans ((Below.heap_alloc _ _ Bs hBlt).trans Iw);obtain⟨vY,hf3⟩:=cell_of_box_a wC;obtain⟨g',Ee,Q9,rfl,hbase',hgb',KR,BM,Io,jZ⟩:∃g' Ee Q9,v'=JM g' (ss.length+1) Ee/\w0.heap.size<=g'/\w3.heap[g']?=some (.cells Q9 104 (0,0))/\ss.length+1<=Ee/\Ee<=maxLen/\Q9.size=Ee*5/\Q9.toList.take ((ss.length+1)*5)=Gw ss++[JK x0,JK x1,JK x2,JK x3,JK x4]:=by
     rcases BD.2 with⟨_,h0⟩|h'
     all_goals simp_all
    go_frame)
  |gi_round_op_a)
 have Ul:(W2.alloc (.cells #[JK x0,JK x1,JK x2,JK x3,JK x4] 104)).grownBy w3 v.ownBlock:=Gt;have Lp:w3.heap[l]?=some (.loop { apRec fn sv Bs D .ready none with state:=.busy }):=(Ul.block l (by simp;omega) (Rk Es (λcur e=>by grind))).trans ((Below.heap_alloc _ _ l Eu).trans Es);have fU:w3.heap[D]?=some (.deferred (some [])):=(Ul.block D (by simp;omega) (Rk fQ (λcur e=>by grind))).trans ((Below.heap_alloc _ _ D hDlt).trans fQ);obtain⟨w4,Qg⟩:∃w4,w3.setCell ⟨Bs,0,none⟩ (JM g' (ss.length+1) Ee)=w4:=⟨_,rfl⟩;rw[Qg];have iJ:w3.grownBy w4 (some Bs):=by grind[grownBy_setCell0_a]
 have yF:w4.heap[Bs]?=some (.cells #[JM g' (ss.length+1) Ee] 124 (0,0)):=by grind[heap_setCell_box_a]
 have SE:w4.heap[l]?=some (.loop { apRec fn sv Bs D .ready none with state:=.busy }):=(iJ.block l (BJ.1 Lp).1 (λe=>hBl (by cases e;rfl))).trans Lp;have hK4:w4.heap[D]?=some (.deferred (some [])):=(iJ.block D (BJ.1 fU).1 (λe=>hDB (by cases e;rfl))).trans fU;have hPR:PR w3 w0.heap.size (JM g' (ss.length+1) Ee) (ss++[X]):=⟨by grind,Jog⟩;have V6:=hPR.kept iJ (ownsRow_ne_a BD wC (λcur e=>by grind));have hl4:l<w4.heap.size:=(BJ.1 SE).1;have Gs:Below w0.heap.size w0 w3:=(Dk.alloc Dk.size _).grown Ul (by have:=Dk.size;simp;omega) (λk e=>(Iq.own.lt k e).1);have SK:Below w0.heap.size w0 w4:=Gs.grown iJ Gs.size (λk e=>by grind);have PY:KeepsWalks W w4:=((BX.trans (KeepsWalks.alloc _ _)).trans (KeepsWalks.of_grownBy Ul (ownsRow_not_walk_a (Iq.own.alloc _)))).trans (by grind[KeepsWalks.setCell]);clear Qg;refine⟨_,_,run_endRound none SE,rfl,⟨⟨_,(World.putObj_heap_other hBl).trans yF,?_,by simp⟩,World.putObj_heap_same hl4,(World.putObj_heap_other wH).trans hK4,SK.grown (grownBy_putObj_a _ _ _) SK.size (λk e=>by grind)⟩,PY.trans (KeepsWalks.putObj _ SE rfl)⟩;have:=V6.kept (grownBy_putObj_a w4 l (.loop { { apRec fn sv Bs D .ready none with state:=.busy } with state:=if(none:Option Code).isNone then .ready else .done,pending:=none })) (ownsRow_ne_a V6.own SE (λcur e=>by grind));exact this
def appendSeq_in(F:Fence)(n:Nat)(DZ:F.fn 142)(EU:F.round=none)(hn:2<=n)(g:Nat)(lb:JC)(hFg:F.fn g)(eg:∀args w,(callFunc g args).run prog w=.ok (.enter g args) w)
  (S:List Je->Prop) (N:Nat) (hN:N<=maxLen) (wS:N*40<=140737488355328) (w:JE) (Nz:SeqGives F (n-1) prog g lb Sm S N w) :
  CallsIn F n prog 142 #[.slice none 0 0,.func (.func g) #[] lb] w λe w'=>∃(v:JJ)(ss:List Je),e=.returned v/\S ss/\PR w' w.heap.size v ss/\(v=.slice none 0 0↔ss=[])/\Below w.heap.size w w':=by
 have h1:1<=n:=by omega
 have Ap:(124:JH)≠104:=by decide
 refine callsIn_of_wp_marks func142 rfl DZ ?_ EU;simp only[ntmps142,List.size_toArray,Lh,List.length_nil,Nat.reduceAdd,Nat.reduceSub,Array.replicate_succ,Array.replicate_zero,List.push_toArray,List.append_toArray,Gm,G9];gi_wp2;refine wpIn_rangeFunc ?_;intro fn Oc;rw[EU];obtain⟨W0,Ci⟩:∃W0,w.alloc (.cells #[.slice none 0 0] 124)=W0:=⟨_,rfl⟩;have V7:W0.heap.size=w.heap.size+1:=by rw[<- Ci];simp
 have MK:W0.heap[w.heap.size]?=some (.cells #[.slice none 0 0] 124 (0,0)):=by grind[World.alloc_heap_new]
 have Fj:Below w.heap.size w W0:=by rw[<- Ci];exact(Below.refl _ w).alloc (Ad _) _
 rw[Ci];obtain⟨W1,AP⟩:∃W1,(W0.alloc (.deferred (some []))).alloc (.loop (apRec fn (.func (.func g) #[] lb) w.heap.size W0.heap.size .ready none))=W1:=⟨_,rfl⟩;have hold:∀k,k<W0.heap.size->W1.heap[k]?=W0.heap[k]?:=λk hk=>by
  grind[Below.heap_alloc]
 have FD:Below w.heap.size w W1:=by rw[<- AP];exact(Fj.alloc Fj.size _).alloc (by have:=Fj.size;simp;omega) _
 have AQ:W1.heap.size=W0.heap.size+2:=by rw[<- AP];simp
 have hM:ApAt w fn (.func (.func g) #[] lb) w.heap.size (W0.heap.size+1) W0.heap.size [] W1:=
  ⟨⟨_,(hold w.heap.size (by omega)).trans MK,⟨⟨rfl,.inl ⟨rfl,rfl⟩⟩,.nil _ _ _⟩,by simp⟩,
   by grind[World.alloc_heap_new,World.size_alloc],
   by grind[Below.heap_alloc,World.alloc_heap_new],FD⟩
 refine⟨W0.heap.size+1,[{ target:=.collected W0.heap.size,args:=#[] }],W1,{ target:=.fn (.func g) lb,args:=#[.func (.yield (W0.heap.size+1)) #[] #[]] },W1,g,
  #[.func (.yield (W0.heap.size+1)) #[] #[]]++lb,W1,?_,?_,?_,?_,λ_=>h1,?_⟩
 .rw[<- AP];exact run_enterLoop_outer _ _ _ _ _
 .simp[resolve,go_sem]
 .intro f' IL;simp[Target.leads]at IL;grind
 .simp[invoke,go_sem,eg]
 .refine(Nz (W0.heap.size+1) (ApAt w fn (.func (.func g) #[] lb) w.heap.size (W0.heap.size+1) W0.heap.size) W1 FD (ap_abides _ _ _ _ _ _ _ FD.size)
   (λpre x W hJ hl=>apYield F (n-1-1) w fn Oc _ w.heap.size (W0.heap.size+1) W0.heap.size (by omega) (by omega) (by omega) (Ad _) (by omega) N hN wS pre x W hJ hl) hM).mono ?_
  rintro e W2 ⟨⟨v0,rfl⟩,ss,hS,h2⟩;obtain⟨v,hv,Aj,Ej⟩:=h2.box;have Ef:=run_endLoop (P:=prog) h2.L (by simp[apRec]);obtain⟨W3,CY⟩:∃W3,W2.putObj (W0.heap.size+1) (.loop { apRec fn (.func (.func g) #[] lb) w.heap.size W0.heap.size .ready none with state:=.exhausted })=W3:=⟨_,rfl⟩;rw[CY]at Ef;have Gt:W2.grownBy W3 (some (W0.heap.size+1)):=by grind[grownBy_putObj_a]
  have wC:W3.heap[w.heap.size]?=some (.cells #[v] 124 (0,0)):=by grind[World.putObj_heap_other]
  have fU:W3.heap[W0.heap.size]?=some (.deferred (some [])):=by rw[<- CY];exact(World.putObj_heap_other (by omega)).trans h2.K
  have V5:=Aj.kept Gt (ownsRow_ne_a Aj.own h2.L (λcur e=>by grind));have Gs:Below w.heap.size w W3:=h2.below.grown Gt h2.below.size (λk e=>by grind);obtain⟨vY,hf3⟩:=cell_of_box_a wC;clear CY;refine⟨none,W3,Ef,?_⟩;gi_wp2;rw[<- V7];refine⟨by simp,.inl ⟨_,_,rfl,run_takeDeferred fU,?_⟩⟩;exact⟨_,results_tmp rfl _ _ _,v,ss,rfl,hS,V5.kept (grownBy_putObj_a _ _ _) (ownsRow_ne_a V5.own fU (λcur e=>by grind)),Ej,Gs.grown (grownBy_putObj_a _ _ _) Gs.size (λk e=>by grind)⟩
def collect_in(F:Fence)(n:Nat)(h8:F.fn 86)(DZ:F.fn 142)(EU:F.round=none)(hn:3<=n)(g:Nat)(lb:JC)(hFg:F.fn g)(eg:∀args w,(callFunc g args).run prog w=.ok (.enter g args) w)
  (S:List Je->Prop) (N:Nat) (hN:N<=maxLen) (wS:N*40<=140737488355328) (w:JE) (Nz:SeqGives F (n-1-1) prog g lb Sm S N w) :
  CallsIn F n prog 86 #[.func (.func g) #[] lb] w λe w'=>∃(v:JJ)(ss:List Je),e=.returned v/\S ss/\PR w' w.heap.size v ss/\(v=.slice none 0 0↔ss=[])/\Below w.heap.size w w':=by
 have h1:1<=n:=by omega
 have QA:∀args w,(callFunc 142 args).run prog w=.ok (.enter 142 args) w:=enters_of func142 (by kernel_rfl) rfl;refine callsIn_of_wp func86 rfl h8 ?_ EU;simp only[ntmps86,List.size_toArray,Lh,List.length_nil,Nat.reduceAdd,Nat.reduceSub,Array.replicate_succ,Array.replicate_zero,List.push_toArray,List.append_toArray,Gm,G9]
 gi_wp2_with (gi_at_fn 142;refine(appendSeq_in F (n-1) DZ EU (by omega) g lb hFg eg S N hN wS _ Nz).mono ?_;rintro e w' ⟨v,ss,rfl,hS,Aj,Ej,hb⟩)
 go_ret;exact⟨v,ss,rfl,hS,Aj,Ej,hb⟩
def Jig(b:Nat)(L:List (JD × JJ))(w:JE)(hm:Cm w b L)(hN:L.length<=1000000) :
  Calls prog 86 #[.func (.func 143) #[] #[JL w.heap.size]] (w.alloc (.cells #[.map (some b)] 95)) λe w'=>∃(v:JJ)(ss:List Je),e=.returned v/\KeysOf L ss/\PR w' (w.heap.size+1) v ss/\(v=.slice none 0 0↔ss=[])/\Below (w.heap.size+1) (w.alloc (.cells #[.map (some b)] 95)) w':=by
 have jF:maxLen=9223372036854775807:=by decide
 have Nz:SeqGives Fence.wide 1 prog 143 #[JL w.heap.size] Sm (KeysOf L) L.length (w.alloc (.cells #[.map (some b)] 95)):=
  keys_gives Fence.wide 1 trivial rfl (by omega) w.heap.size b L _ (by simp) (by
   simp_all) (hm.kept (J8 _ hm.lt))
 have:=collect_in Fence.wide 3 trivial trivial rfl (by omega) 143 #[JL w.heap.size] trivial (enters_of func143 (by kernel_rfl) rfl) (KeysOf L) L.length (by omega) (by omega) _ Nz
 simp_all[size_alloc,callsIn_wide]
end Go.Sim.Z
