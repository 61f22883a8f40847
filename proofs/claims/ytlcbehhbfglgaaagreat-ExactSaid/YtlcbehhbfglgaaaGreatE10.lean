/- PROVED HERE: laws that the statement rests on (parts Sc, Sd, Se). Conditions: none. -/
import Derived.Test.YtlcbehhbfglgaaaGreatE09
set_option linter.all false
namespace Go.Sim
structure PrOk (C:Cx):Prop where
 zero:∀ t i z,C.P.info? t=some i→i.zero=some z→∀ E,VR C E z z
 meth:∀ t i m f p,C.tyOk t=true→C.P.info? t=some i→m∈i.methods→C.ms.contains m.name=true→m.func=some (f,p)→C.F f
 path:∀ t i m,C.tyOk t=true→C.P.info? t=some i→m∈i.methods→C.ms.contains m.name=true→m.path=#[]∧∃ f p,m.func=some (f,p)
def Hnd (C:Cx) (E:BRel):Prop:=E C.P.globals.size C.P.globals.size
theorem Hnd.mono {C:Cx} {E E1:BRel} (s:Sub E E1) (h:Hnd C E):Hnd C E1:=s _ _ h
section
variable {C:Cx} {ok:FuncId→Code→Prop} {E:BRel}
theorem AddrR.add {a a':Addr} (h:AddrR E a a') (n:Nat):AddrR E (a.add n) (a'.add n):=by
 obtain ⟨b,o,s⟩:=a
 obtain ⟨b',o',s'⟩:=a'
 obtain ⟨h1,h2,h3⟩:=h
 simp only at h1 h2 h3
 subst h2;subst h3
 unfold Addr.add
 split
 ·exact ⟨h1,rfl,rfl⟩
 ·exact ⟨h1,rfl,rfl⟩
theorem VR.of_addr {a a':Addr} (h:AddrR E a a'):VR C E (.pointer (some a)) (.pointer (some a')):=by
 obtain ⟨b,o,s⟩:=a
 obtain ⟨b',o',s'⟩:=a'
 obtain ⟨h1,h2,h3⟩:=h
 simp only at h1 h2 h3
 subst h2;subst h3
 exact .ptr o s h1
theorem VR.of_slice {a a':Addr} (h:AddrR E a a') (l c:Nat):VR C E (.slice (some a) l c) (.slice (some a') l c):=by
 obtain ⟨b,o,s⟩:=a
 obtain ⟨b',o',s'⟩:=a'
 obtain ⟨h1,h2,h3⟩:=h
 simp only at h1 h2 h3
 subst h2;subst h3
 exact .slice o s l c h1
theorem SimR.load' {a a':Addr} (h:AddrR E a a'):SimR C ok E (Go.load a) (Go.load a') (VR C):=by
 obtain ⟨b,o,s⟩:=a
 obtain ⟨b',o',s'⟩:=a'
 obtain ⟨h1,h2,h3⟩:=h
 simp only at h1 h2 h3
 subst h2;subst h3
 exact SimR.load o s h1
theorem SimR.store' {a a':Addr} (h:AddrR E a a') {v v':Value} (hv:VR C E v v'):SimR C ok E (Go.store a v) (Go.store a' v') (fun _ _ _=>True):=by
 obtain ⟨b,o,s⟩:=a
 obtain ⟨b',o',s'⟩:=a'
 obtain ⟨h1,h2,h3⟩:=h
 simp only at h1 h2 h3
 subst h2;subst h3
 exact SimR.store o s h1 hv
theorem SimR.typeInfo (t:TypeId):SimR C ok E (Go.typeInfo t) (Go.typeInfo t) (fun _ i i'=>i=i'∧C.P.info? t=some i):=by
 refine .calm (fun w=>?_) (fun w=>by simp)
 cases h:C.P.info? t with
 | none=>exact .inr ⟨.stuck "no such type",w,by simp [Go.typeInfo,h],by simp⟩
 | some i=>exact .inl ⟨i,fun w'=>by simp [Go.typeInfo,h],rfl,rfl⟩
theorem SimR.underlying (t:TypeId):SimR C ok E (Go.underlying t) (Go.underlying t) (fun _ i i'=>i=i'∧C.P.underlying t=some i):=by
 refine .calm (fun w=>?_) (fun w=>by simp)
 cases h:C.P.underlying t with
 | none=>exact .inr ⟨.stuck "no such type",w,by simp [Go.underlying,h],by simp⟩
 | some i=>exact .inl ⟨i,fun w'=>by simp [Go.underlying,h],rfl,rfl⟩
theorem SimR.sizeOf (t:TypeId):SimR C ok E (Go.sizeOf t) (Go.sizeOf t) (fun _ i i'=>i=i'):=
 .bind (SimR.typeInfo t) fun _ _ _ _ h=>by obtain ⟨rfl,_⟩:=h;exact .pure rfl
theorem SimR.isAgg (t:TypeId):SimR C ok E (Go.isAgg t) (Go.isAgg t) (fun _ i i'=>i=i'):=
 .bind (SimR.underlying t) fun _ _ _ _ h=>by obtain ⟨rfl,_⟩:=h;split<;>exact .pure rfl
theorem SimR.zeroValue (K:PrOk C) (t:TypeId):SimR C ok E (Go.zeroValue t) (Go.zeroValue t) (VR C):=
 .bind (SimR.typeInfo t) fun _ _ i _ h=>by
  obtain ⟨rfl,hi⟩:=h
  split
  ·rename_i z hz;exact .pure (K.zero t i z hi hz _)
  ·exact .unsupported _
theorem SimR.elemOf (t:TypeId):SimR C ok E (Go.elemOf t) (Go.elemOf t) (fun _ i i'=>i=i'):=
 .bind (SimR.underlying t) fun _ _ _ _ h=>by
  obtain ⟨rfl,_⟩:=h
  split
  ·exact .pure rfl
  ·exact .stuck _
theorem SimR.loadCellsFrom {a a':Addr}:∀ (n i:Nat) (acc acc':Array Value) (E:BRel),AddrR E a a'→AR C E acc acc'→SimR C ok E (Go.loadCellsFrom a i n acc) (Go.loadCellsFrom a' i n acc') (AR C)
 | 0,_,_,_,_,_,h=>.pure h
 | n+1,i,_,_,_,ha,h=>.bind (SimR.load' (ha.add i)) fun _ s _ _ hv=>SimR.loadCellsFrom n (i+1) _ _ _ (ha.mono s) ((h.mono s).push hv)
theorem SimR.loadCells {a a':Addr} (n:Nat) (h:AddrR E a a'):SimR C ok E (Go.loadCells a n) (Go.loadCells a' n) (AR C):=SimR.loadCellsFrom n 0 _ _ _ h .nil
inductive LR (C:Cx) (E:BRel):List Value→List Value→Prop
 | nil:LR C E [] []
 | cons {v v':Value} {l l':List Value} (h:VR C E v v') (hl:LR C E l l'):LR C E (v::l) (v'::l')
theorem LR.mono {E1:BRel} (s:Sub E E1) {l l':List Value} (h:LR C E l l'):LR C E1 l l':=by
 induction h with
 | nil=>exact .nil
 | cons h _ ih=>exact .cons (h.mono s) ih
theorem LR.of_AR:∀ {l l':List Value},AR C E l.toArray l'.toArray→LR C E l l'
 | [],[],_=>.nil
 | [],_::_,h=>by have:=h.size;simp at this
 | _::_,[],h=>by have:=h.size;simp at this
 | x::l,x'::l',h=>.cons (h.at_ 0 x x' (by simp) (by simp)) (LR.of_AR ⟨by have:=h.size;simp at this;simp [this],fun i y y' hy hy'=>h.at_ (i+1) y y' (by simpa using hy) (by simpa using hy')⟩)
theorem AR.toList {a a':Array Value} (h:AR C E a a'):LR C E a.toList a'.toList:=LR.of_AR (by simpa using h)
theorem LR.toArray {l l':List Value} (h:LR C E l l'):AR C E l.toArray l'.toArray:=by
 induction h with
 | nil=>exact .nil
 | cons h _ ih=>
  refine ⟨by simpa using ih.size,fun i y y' hy hy'=>?_⟩
  cases i with
  | zero=>simp at hy hy';subst hy;subst hy';exact h
  | succ i=>exact ih.at_ i y y' (by simpa using hy) (by simpa using hy')
theorem SimR.storeCells {a a':Addr}:∀ (l l':List Value) (i:Nat) (E:BRel),AddrR E a a'→LR C E l l'→SimR C ok E (Go.storeCells a l i) (Go.storeCells a' l' i) (fun _ _ _=>True)
 | _,_,_,_,_,.nil=>.pure trivial
 | _,_,i,_,ha,.cons h hl=>.bind (SimR.store' (ha.add i) h) fun _ s _ _ _=>SimR.storeCells _ _ (i+1) _ (ha.mono s) (hl.mono s)
theorem SimR.loadVar (t:TypeId) {a a':Addr} (h:AddrR E a a'):SimR C ok E (Go.loadVar t a) (Go.loadVar t a') (VR C):=by
 refine .bind (SimR.isAgg t) fun E1 s b b' hb=>?_
 obtain rfl:b=b':=hb
 cases b with
 | true=>
  refine .bind (SimR.sizeOf t) fun E2 s2 n n' hn=>?_
  obtain rfl:n=n':=hn
  exact .bind (SimR.loadCells n (h.mono (s.trans s2))) fun _ _ _ _ hc=>.pure (.of_agg hc)
 | false=>exact SimR.load' (h.mono s)
theorem SimR.storeVar (t:TypeId) {a a':Addr} (h:AddrR E a a') {v v':Value} (hv:VR C E v v'):SimR C ok E (Go.storeVar t a v) (Go.storeVar t a' v') (fun _ _ _=>True):=by
 refine .bind (SimR.sizeOf t) fun E1 s n n' hn=>?_
 obtain rfl:n=n':=hn
 have hc:=(AR.cells (hv.mono s))
 rw [show v'.cells.size=v.cells.size from hc.size.symm]
 by_cases e:v.cells.size=n
 ·simp only [e,ne_eq,not_true_eq_false,if_false]
  exact SimR.storeCells _ _ 0 _ (h.mono s) hc.toList
 ·simp only [ne_eq,e,not_false_eq_true,if_true]
  exact SimR.bind (R:=fun _ _ _=>False) (.stuck _) fun _ _ _ _ h=>h.elim
theorem SimR.newRow (hh:Hnd C E) (el:TypeId) {c c':Array Value} (h:AR C E c c'):SimR C ok E (Go.newRow el c) (Go.newRow el c') (fun E1 a a'=>AddrR E1 a a'∧¬ C.Sh a.block):=
 .bind (SimR.newObj hh (o:=.cells c el) (o':=.cells c' el) fun b hs=>⟨c',(0,0),rfl,h,fun x=>absurd x hs,fun _=>⟨rfl,fun _=>rfl⟩⟩) fun _ _ _ _ k=>.pure ⟨⟨k.1,rfl,rfl⟩,k.2⟩
theorem SimR.newVar (hh:Hnd C E) (t:TypeId) {v v':Value} (h:VR C E v v'):SimR C ok E (Go.newVar t v) (Go.newVar t v') (fun E1 a a'=>AddrR E1 a a'∧¬ C.Sh a.block):=SimR.newRow hh t (AR.cells h)
theorem SimR.part (t:TypeId) {c c':Array Value} (h:AR C E c c') (off:Nat):SimR C ok E (Go.part t c off) (Go.part t c' off) (VR C):=by
 refine .bind (SimR.isAgg t) fun E1 s b b' hb=>?_
 obtain rfl:b=b':=hb
 cases b with
 | true=>
  refine .bind (SimR.sizeOf t) fun E2 s2 n n' hn=>?_
  obtain rfl:n=n':=hn
  exact .pure (.of_agg ((h.mono (s.trans s2)).extract _ _))
 | false=>
  show SimR C ok E1 (match c[off]? with|some v=>Pure.pure v|none=>Go.stuck "part: no such cell") (match c'[off]? with|some v=>Pure.pure v|none=>Go.stuck "part: no such cell") (VR C)
  cases hx:c[off]? with
  | none=>exact .stuck _
  | some x=>obtain ⟨x',hx',hr⟩:=(h.mono s).some_of hx;rw [hx'];exact .pure hr
theorem VR.handle (h:Hnd C E) (t:TypeId):VR C E (typeHandle C.P t) (typeHandle C.P t):=.ptr t none h
theorem SimR.runtimePanic {α α':Type} (h:Hnd C E) (e:RuntimeError) {R:BRel→α→α'→Prop}:SimR C ok E (Go.runtimePanic e:Sem α) (Go.runtimePanic e:Sem α') R:=by
 refine .bind (R:=fun _ p p'=>p=C.P∧p'=C.P) (.program ⟨rfl,rfl⟩) fun E1 s p p' hp=>?_
 obtain ⟨rfl,rfl⟩:=hp
 have h1:=h.mono s
 cases e with
 | bounds x y sg c=>
  refine .goPanic (.iface _ (by simp [Cx.tyOk]) (.of_agg ?_))
  exact LR.toArray (l:=[_,_,_,_]) (l':=[_,_,_,_]) (.cons (.int _ _) (.cons (.int _ _) (.cons (.bool _) (.cons (.int _ _) .nil))))
 | error m=>exact .goPanic (.iface _ (by simp [Cx.tyOk]) (.string _))
 | plain m=>exact .goPanic (.iface _ (by simp [Cx.tyOk]) (.string _))
 | nilDeref=>exact .goPanic (.iface _ (by simp [Cx.tyOk]) (.string _))
 | typeAssertion i c a m=>
  have hh:∀ t:Option TypeId,VR C E1 (match t with|some t=>typeHandle C.P t|none=>.pointer none) (match t with|some t=>typeHandle C.P t|none=>.pointer none):=fun t=>by
   cases t with
   | none=>exact .nilPtr
   | some t=>exact .handle h1 t
  refine .bind (SimR.elemOf _) fun E2 s2 t t' ht=>?_
  obtain rfl:t=t':=ht
  refine .bind (SimR.newVar (h1.mono s2) t (.of_agg (LR.toArray (l:=[_,_,_,_]) (l':=[_,_,_,_]) (.cons ((hh i).mono s2) (.cons ((hh c).mono s2) (.cons ((hh (some a)).mono s2) (.cons (.string _) .nil))))))) fun E3 _ r r' hr=>?_
  exact .goPanic (.iface _ (by simp [Cx.tyOk]) (.of_addr hr.1))
 | panicNil=>
  refine .bind (SimR.elemOf _) fun E2 s2 t t' ht=>?_
  obtain rfl:t=t':=ht
  refine .bind (SimR.newVar (h1.mono s2) t (.of_agg .nil)) fun E3 _ r r' hr=>?_
  exact .goPanic (.iface _ (by simp [Cx.tyOk]) (.of_addr hr.1))
 | unhashable t=>exact .goPanic (.iface _ (by simp [Cx.tyOk]) (.of_agg (.one (.handle h1 t))))
theorem SimR.map {α α' β β':Type} {f:α→β} {f':α'→β'} {s:Sem α} {s':Sem α'} {R:BRel→α→α'→Prop} (h:SimR C ok E s s' R) :
  SimR C ok E (Functor.map f s) (Functor.map f' s') (fun E1 b b'=>∃ a a',R E1 a a'∧b=f a∧b'=f' a'):=
 SimR.bind (f:=fun a=>Sem.pure (f a)) (f':=fun a=>Sem.pure (f' a)) h fun _ _ a a' k=>.pure' ⟨a,a',k,rfl,rfl⟩
theorem SimR.boundsPanic {α α':Type} (h:Hnd C E) (k:IntKind) (x y:Int) (c:BoundsCode) {R:BRel→α→α'→Prop}:SimR C ok E (Go.boundsPanic k x y c:Sem α) (Go.boundsPanic k x y c:Sem α') R:=by
 unfold Go.boundsPanic
 dsimp only
 split
 ·refine SimR.bind' (SimR.map (SimR.choose _)) fun E1 s b b' hb=>?_
  obtain ⟨n,n',rfl,rfl,rfl⟩:=hb
  exact SimR.runtimePanic (h.mono s) _
 ·exact SimR.bind' (R:=fun _ b b'=>b=b') (.pure rfl) fun E1 s b b' hb=>by subst hb;exact SimR.runtimePanic (h.mono s) _
theorem SimR.asIntOf {v v':Value} (h:VR C E v v'):SimR C ok E (Go.asIntOf v) (Go.asIntOf v') (fun _ x x'=>x=x'):=by
 cases h<;>first|exact .pure rfl|exact .unsupported _|exact .stuck _
theorem SimR.asInt {v v':Value} (h:VR C E v v'):SimR C ok E (Go.asInt v) (Go.asInt v') (fun _ x x'=>x=x'):=
 .bind (SimR.asIntOf h) fun _ _ _ _ k=>by subst k;exact .pure rfl
theorem SimR.asBool {v v':Value} (h:VR C E v v'):SimR C ok E (Go.asBool v) (Go.asBool v') (fun _ x x'=>x=x'):=by
 cases h<;>first|exact .pure rfl|exact .stuck _
theorem SimR.asAgg {v v':Value} (h:VR C E v v'):SimR C ok E (Go.asAgg v) (Go.asAgg v') (fun E1 x x'=>AR C E1 x x'):=by
 cases h<;>first|exact .pure ⟨by assumption,by assumption⟩|exact .stuck _
theorem SimR.asAddr (hh:Hnd C E) {v v':Value} (h:VR C E v v'):SimR C ok E (Go.asAddr v) (Go.asAddr v') (fun E1 x x'=>AddrR E1 x x'):=by
 cases h<;>simp only [Go.asAddr]<;>first|exact .pure ⟨by assumption,rfl,rfl⟩|exact SimR.runtimePanic hh _|exact .stuck _
theorem SimR.sureAddr {v v':Value} (h:VR C E v v'):SimR C ok E (Instr.sureAddr v) (Instr.sureAddr v') (fun E1 x x'=>AddrR E1 x x'):=by
 cases h<;>first|exact .pure ⟨by assumption,rfl,rfl⟩|exact .stuck _
end
section
variable {C:Cx} {ok:FuncId→Code→Prop} {E:BRel}
inductive StepR {β β':Type} (R:BRel→β→β'→Prop) (E:BRel):ForInStep β→ForInStep β'→Prop
 | done {b b'} (h:R E b b'):StepR R E (.done b) (.done b')
 | yield {b b'} (h:R E b b'):StepR R E (.yield b) (.yield b')
theorem SimR.forInList {α β β':Type} {R:BRel→β→β'→Prop} (hm:∀ E E1 b b',Sub E E1→R E b b'→R E1 b b') {f:α→β→Sem (ForInStep β)} {f':α→β'→Sem (ForInStep β')} :
  ∀ (l:List α) (b:β) (b':β') (E:BRel),(∀ x∈l,∀ E1,Sub E E1→∀ b b',R E1 b b'→SimR C ok E1 (f x b) (f' x b') (StepR R))→R E b b'→SimR C ok E (forIn l b f) (forIn l b' f') R
 | [],_,_,_,_,h=>by simp only [List.forIn_nil];exact .pure h
 | x::l,b,b',E,hf,h=>by
  simp only [List.forIn_cons]
  refine SimR.bind' (hf x (by simp) E (.refl _) b b' h) fun E1 s a a' ha=>?_
  cases ha with
  | done h=>exact .pure h
  | yield h=>exact SimR.forInList hm l _ _ E1 (fun x hx E2 s2=>hf x (by simp [hx]) E2 (s.trans s2)) h
theorem SimR.forInLR {β β':Type} {R:BRel→β→β'→Prop} (hm:∀ E E1 b b',Sub E E1→R E b b'→R E1 b b') {f:Value→β→Sem (ForInStep β)} {f':Value→β'→Sem (ForInStep β')} :
  ∀ (l l':List Value) (b:β) (b':β') (E:BRel),LR C E l l'→(∀ x x' E1,Sub E E1→VR C E1 x x'→∀ b b',R E1 b b'→SimR C ok E1 (f x b) (f' x' b') (StepR R))→R E b b'→SimR C ok E (forIn l b f) (forIn l' b' f') R
 | _,_,_,_,_,.nil,_,h=>by simp only [List.forIn_nil];exact .pure h
 | _,_,b,b',E,.cons hx hl,hf,h=>by
  simp only [List.forIn_cons]
  refine SimR.bind' (hf _ _ E (.refl _) hx b b' h) fun E1 s a a' ha=>?_
  cases ha with
  | done h=>exact .pure h
  | yield h=>exact SimR.forInLR hm _ _ _ _ E1 (hl.mono s) (fun x x' E2 s2=>hf x x' E2 (s.trans s2)) h
theorem SimR.of_halts {α α':Type} {s:Sem α} {s':Sem α'} {R:BRel→α→α'→Prop} (h:∀ w,∃ x w1,s.run C.P w=.halt x w1∧Dead x):SimR C ok E s s' R:=by
 intro L w w' _
 refine .inr ?_
 obtain ⟨x,w1,hx,hn⟩:=h w
 exact SimR.at_dead hx hn
theorem WR.shape {w w':World} (hw:WR C ok E w w') {b b':Nat} (h:E b b'):w'.shape? b'=w.shape? b:=by
 obtain ⟨o,o',h1,h2,h3⟩:=hw.get h
 simp only [World.shape?,h1,h2]
 cases o with
 | cells c el fz=>obtain ⟨c',fz',rfl,h4,_⟩:=h3;simp [h4.size]
 | map es ck=>obtain ⟨es',rfl,_⟩:=h3;rfl
 | mapIter m a b c=>obtain ⟨_,m',rfl,_⟩:=h3;rfl
 | stringIter a b=>obtain ⟨_,rfl⟩:=h3;rfl
 | loop l=>obtain ⟨_,m',rfl,_⟩:=h3;rfl
 | deferred l=>obtain ⟨_,m',rfl,_⟩:=h3;rfl
 | number a l=>obtain ⟨_,m',rfl,_⟩:=h3;rfl
 | _=>exact h3.elim
theorem SimR.shape {b b':Nat} (h:E b b'):SimR C ok E (Go.shape b) (Go.shape b') (fun _ x x'=>x=x'):=by
 intro L w w' hw
 refine .inr ?_
 rw [run_shape]
 exact ⟨E,_,w',rfl,hw,.refl ..,(hw.shape h).symm,fun e he=>by simp at he⟩
theorem WR.frozen {w w':World} (hw:WR C ok E w w') {b b' o:Nat} {s:Option Nat} (h:E b b') (hs:¬ C.Sh b):w'.frozen? ⟨b',o,s⟩=w.frozen? ⟨b,o,s⟩:=by
 obtain ⟨x,x',h1,h2,h3⟩:=hw.get h
 simp only [World.frozen?,h1,h2]
 cases x with
 | cells c el fz=>obtain ⟨c',fz',rfl,h4,_,h5⟩:=h3;simp [(h5 hs).1]
 | map es ck=>obtain ⟨es',rfl,_⟩:=h3;rfl
 | mapIter m a b c=>obtain ⟨_,m',rfl,_⟩:=h3;rfl
 | stringIter a b=>obtain ⟨_,rfl⟩:=h3;rfl
 | loop l=>obtain ⟨_,m',rfl,_⟩:=h3;rfl
 | deferred l=>obtain ⟨_,m',rfl,_⟩:=h3;rfl
 | number a l=>obtain ⟨_,m',rfl,_⟩:=h3;rfl
 | _=>exact h3.elim
theorem SimR.frozen {a a':Addr} (h:AddrR E a a') (hs:¬ C.Sh a.block):SimR C ok E (Go.frozen a) (Go.frozen a') (fun _ x x'=>x=x'):=by
 obtain ⟨b,o,s⟩:=a
 obtain ⟨b',o',s'⟩:=a'
 obtain ⟨h1,h2,h3⟩:=h
 simp only at h1 h2 h3
 subst h2;subst h3
 intro L w w' hw
 refine .inr ?_
 rw [run_frozen]
 exact ⟨E,_,w',rfl,hw,.refl ..,(hw.frozen h1 hs).symm,fun e he=>by simp at he⟩
theorem SimR.viewAt {b b':Nat} (h:E b b'):SimR C ok E (Go.viewAt b) (Go.viewAt b') (fun _ x x'=>x=none∧x'=none):=by
 refine .bind (SimR.shape h) fun E1 s x x' hx=>?_
 obtain rfl:x=x':=hx
 split
 ·exact .pure ⟨rfl,rfl⟩
 ·refine .bind (SimR.getObj (s _ _ h)) fun E2 s2 o o' ho=>?_
  obtain ⟨h3,hn⟩:=ho
  cases o with
  | cells c el fz=>exact absurd rfl (hn c el fz)
  | map es ck=>obtain ⟨es',rfl,_⟩:=h3;exact .pure ⟨rfl,rfl⟩
  | mapIter m a b c=>obtain ⟨_,m',rfl,_⟩:=h3;exact .pure ⟨rfl,rfl⟩
  | stringIter a b=>obtain ⟨_,rfl⟩:=h3;exact .pure ⟨rfl,rfl⟩
  | loop l=>obtain ⟨_,m',rfl,_⟩:=h3;exact .pure ⟨rfl,rfl⟩
  | deferred l=>obtain ⟨_,m',rfl,_⟩:=h3;exact .pure ⟨rfl,rfl⟩
  | number a l=>obtain ⟨_,m',rfl,_⟩:=h3;exact .pure ⟨rfl,rfl⟩
  | _=>exact h3.elim
def NumR (E:BRel):Option (Addr × Bool)→Option (Addr × Bool)→Prop:=OptR fun p p'=>AddrR E p.1 p'.1∧p.2=p'.2
theorem SimR.numberAt {b b':Nat} (h:E b b'):SimR C ok E (Go.numberAt b) (Go.numberAt b') (fun E1 x x'=>NumR E1 x x'):=by
 refine .bind (SimR.shape h) fun E1 s x x' hx=>?_
 obtain rfl:x=x':=hx
 split
 ·exact .pure trivial
 ·refine .bind (SimR.getObj (s _ _ h)) fun E2 s2 o o' ho=>?_
  obtain ⟨h3,hn⟩:=ho
  cases o with
  | cells c el fz=>exact absurd rfl (hn c el fz)
  | map es ck=>obtain ⟨es',rfl,_⟩:=h3;exact .pure trivial
  | mapIter m a b c=>obtain ⟨_,m',rfl,_⟩:=h3;exact .pure trivial
  | stringIter a b=>obtain ⟨_,rfl⟩:=h3;exact .pure trivial
  | loop l=>obtain ⟨_,m',rfl,_⟩:=h3;exact .pure trivial
  | deferred l=>obtain ⟨_,m',rfl,_⟩:=h3;exact .pure trivial
  | number a l=>obtain ⟨_,m',rfl,hm⟩:=h3;exact .pure ⟨hm,rfl⟩
  | _=>exact h3.elim
theorem SimR.noView {a a':Addr} (h:AddrR E a a'):SimR C ok E (Go.noView a) (Go.noView a') (fun _ _ _=>True):=
 .bind (SimR.viewAt h.block) fun E1 s x x' hx=>by
  obtain ⟨rfl,rfl⟩:=hx
  exact .pure trivial
theorem SimR.stringish {a a':Addr} (h:AddrR E a a') (hs:¬ C.Sh a.block):SimR C ok E (Go.stringish a) (Go.stringish a') (fun _ x x'=>x=x'):=by
 refine .bind (SimR.frozen h hs) fun E1 s x x' hx=>?_
 obtain rfl:x=x':=hx
 split
 ·exact .pure rfl
 ·refine .bind (SimR.shape (s _ _ h.block)) fun E2 s2 x x' hx=>?_
  obtain rfl:x=x':=hx
  split
  ·exact SimR.frozen ⟨s2 _ _ (s _ _ h.block),rfl,rfl⟩ hs
  ·exact .pure rfl
theorem SimR.mayBeOne {a a' b b':Addr} (h:AddrR E a a') (k:AddrR E b b') (hst:C.st=false):SimR C ok E (Go.mayBeOne a b) (Go.mayBeOne a' b') (fun _ x x'=>x=x'):=by
 have hl:=C.lax hst
 have hnone:∀ (E:BRel) {x x':Addr},AddrR E x x'→SimR C ok E (do Pure.pure ((← Go.shape x.block) matches some (_,0)):Sem Bool) (do Pure.pure ((← Go.shape x'.block) matches some (_,0)):Sem Bool) (fun _ x x'=>x=x'):=fun E x x' hx=>
  .bind (SimR.shape hx.block) fun _ _ z z' hz=>by obtain rfl:z=z':=hz;exact .pure rfl
 refine .bind (SimR.stringish h (hl _)) fun E1 s x x' hx=>?_
 obtain rfl:x=x':=hx
 refine .bind (SimR.stringish (k.mono s) (hl _)) fun E2 s2 y y' hy=>?_
 obtain rfl:y=y':=hy
 dsimp only
 have h2:=(h.mono s).mono s2
 have k2:=(k.mono s).mono s2
 refine SimR.bind' (hnone E2 h2) fun E3 s3 z z' hz=>?_
 obtain rfl:z=z':=hz
 refine SimR.bind' (hnone E3 (k2.mono s3)) fun E4 s4 u u' hu=>?_
 obtain rfl:u=u':=hu
 exact .pure rfl
theorem SimR.sameAddr {a a' b b':Addr} (h:AddrR E a a') (k:AddrR E b b') (hst:C.st=false):SimR C ok E (Go.sameAddr a b) (Go.sameAddr a' b') (fun _ x x'=>x=x'):=by
 have hl:=C.lax hst
 intro L w w' hw
 have hb:(a'.block == b'.block)=(a.block == b.block):=by
  by_cases e:a.block=b.block
  ·have:a'.block=b'.block:=hw.fn _ _ _ h.block (e▸k.block)
   simp [e,this]
  ·have:a'.block≠b'.block:=fun e'=>e (hw.inj _ _ _ h.block (e'▸k.block))
   rw [beq_eq_false_iff_ne.2 this,beq_eq_false_iff_ne.2 e]
 have hab:(a' == b')=(a == b)∨a.block≠b.block:=by
  by_cases e:a.block=b.block
  ·refine .inl ?_
   have e':a'.block=b'.block:=hw.fn _ _ _ h.block (e▸k.block)
   obtain ⟨x,o,s⟩:=a
   obtain ⟨x',o',s'⟩:=a'
   obtain ⟨y,p,t⟩:=b
   obtain ⟨y',p',t'⟩:=b'
   obtain ⟨h1,h2,h3⟩:=h
   obtain ⟨k1,k2,k3⟩:=k
   change o=o' at h2
   change s=s' at h3
   change p=p' at k2
   change t=t' at k3
   change x=y at e
   change x'=y' at e'
   subst h2 h3 k2 k3 e e'
   rw [Bool.eq_iff_iff]
   simp
  ·exact .inr e
 suffices SimR C ok E (Go.sameAddr a b) (Go.sameAddr a' b') (fun _ x x'=>x=x') from this L w w' hw
 unfold Go.sameAddr
 rw [hb]
 by_cases e:a.block=b.block
 ·simp only [e,beq_self_eq_true,if_true]
  rcases hab with hab|hab
  ·rw [hab];exact .pure rfl
  ·exact absurd e hab
 ·simp only [show (a.block == b.block)=false by simpa using e,Bool.false_eq_true,if_false]
  refine SimR.bind' (SimR.frozen h (hl _)) fun E1 s x x' hx=>?_
  obtain rfl:x=x':=hx
  refine SimR.bind' (SimR.frozen (k.mono s) (hl _)) fun E2 s2 x x' hx=>?_
  obtain rfl:x=x':=hx
  split
  ·exact .of_halts fun w=>⟨_,w,rfl,by simp⟩
  ·refine SimR.bind' (SimR.noView ((h.mono s).mono s2)) fun E3 s3 _ _ _=>?_
   refine SimR.bind' (SimR.noView (((k.mono s).mono s2).mono s3)) fun E4 s4 _ _ _=>?_
   refine SimR.bind' (SimR.mayBeOne ((((h.mono s).mono s2).mono s3).mono s4) ((((k.mono s).mono s2).mono s3).mono s4) hst) fun E5 s5 x x' hx=>?_
   obtain rfl:x=x':=hx
   split
   ·refine SimR.bind' (SimR.choose _) fun E6 s6 n n' hn=>?_
    obtain rfl:n=n':=hn
    exact .pure rfl
   ·exact .pure rfl
end
def flatT (P:Program):Nat→TypeId→Bool
 | 0,_=>false
 | n+1,t=>
  match P.underlying t with
  | some .bool|some .string=>true
  | some (.int _)=>(match P.info? t with|some i=>(match i.desc with | .named "sync.copyChecker" _=>false|_=>true)|none=>false)
  | some (.array _ e)=>flatT P n e
  | _=>false
section
variable {C:Cx} {ok:FuncId→Code→Prop} {E:BRel}
theorem SimR.byteOf {a a':Addr} (h:AddrR E a a'):SimR C ok E (Go.byteOf a) (Go.byteOf a') (fun _ x x'=>x=x'):=by
 unfold Go.byteOf
 rw [← h.spot]
 have e:a'.off=a.off:=h.off.symm
 rw [e]
 split
 ·exact .pure rfl
 ·refine SimR.bind' (R:=fun _ p p'=>p=C.P∧p'=C.P) (.program ⟨rfl,rfl⟩) fun E1 s p p' hp'=>?_
  obtain ⟨rfl,rfl⟩:=hp'
  refine SimR.bind' (SimR.noView (h.mono s)) fun E2 s2 _ _ _=>?_
  refine SimR.bind' (SimR.shape (s2 _ _ (s _ _ h.block))) fun E3 s3 x x' hx=>?_
  obtain rfl:x=x':=hx
  split
  ·dsimp only
   split
   ·exact .pure rfl
   ·split
    ·exact .pure rfl
    ·exact .stuck _
  ·exact .stuck _
theorem SimR.behindNumber {a a':Addr} (h:AddrR E a a'):SimR C ok E (Go.behindNumber a) (Go.behindNumber a') (fun E1 x x'=>AddrR E1 x.1 x'.1∧x.2=x'.2):=
 .bind (SimR.numberAt h.block) fun E1 s x x' hx=>by
  cases x with
  | none=>cases x' with
   | none=>exact .pure ⟨h.mono s,rfl⟩
   | some _=>exact hx.elim
  | some p=>cases x' with
   | none=>exact hx.elim
   | some p'=>exact .pure hx
theorem AddrR.eq_of_lax {w w':World} (hw:WR C ok E w w') (hst:C.st=false) {a a':Addr} (h:AddrR E a a'):a'=a:=by
 obtain ⟨x,o,s⟩:=a
 obtain ⟨x',o',s'⟩:=a'
 obtain ⟨h1,h2,h3⟩:=h
 have:=hw.lid hst _ _ h1
 change o=o' at h2
 change s=s' at h3
 change x=x' at this
 rw [this,h2,h3]
theorem SimR.of_world {α α':Type} {s:Sem α} {s':Sem α'} {R:BRel→α→α'→Prop} (h:∀ w w',WR C ok E w w'→SimR C ok E s s' R):SimR C ok E s s' R:=
 fun L w w' hw=>h w w' hw.toWR L w w' hw
theorem SimR.equalIntPtr (t:TypeId) {a a' b b':Addr} (ha:AddrR E a a') (hb:AddrR E b b') (hs:C.st=false∨∀ i,C.P.info? t=some i→(match i.desc with | .named "sync.copyChecker" _=>false|_=>true)=true) :
  SimR C ok E (do
   let (a,b):=((← Go.behindNumber a).1,(← Go.behindNumber b).1)
   if a.block == b.block && a.block<(← Go.program).globals.size then return (← Go.byteOf a) == (← Go.byteOf b)
   let .named "sync.copyChecker" _:=(← Go.typeInfo t).desc|Go.unsupported .addressObserved
   if a == b then Pure.pure true else Go.unsupported .addressObserved:Sem Bool) (do
   let (a,b):=((← Go.behindNumber a').1,(← Go.behindNumber b').1)
   if a.block == b.block && a.block<(← Go.program).globals.size then return (← Go.byteOf a) == (← Go.byteOf b)
   let .named "sync.copyChecker" _:=(← Go.typeInfo t).desc|Go.unsupported .addressObserved
   if a == b then Pure.pure true else Go.unsupported .addressObserved:Sem Bool) (fun _ x x'=>x=x'):=by
 refine SimR.bind' (SimR.behindNumber ha) fun E1 s1 x x' hx=>?_
 refine SimR.bind' (SimR.behindNumber (hb.mono s1)) fun E2 s2 y y' hy=>?_
 refine SimR.bind' (R:=fun _ p p'=>p=C.P∧p'=C.P) (.program ⟨rfl,rfl⟩) fun E3 s3 p p' hp'=>?_
 obtain ⟨rfl,rfl⟩:=hp'
 have ha3:=(hx.1.mono s2).mono s3
 have hb3:=hy.1.mono s3
 refine .of_world fun w w' hw=>?_
 by_cases hst:C.st=false
 ·rw [ha3.eq_of_lax hw hst,hb3.eq_of_lax hw hst]
  have ha4:AddrR E3 x.1 x.1:=by have:=ha3;rwa [ha3.eq_of_lax hw hst] at this
  have hb4:AddrR E3 y.1 y.1:=by have:=hb3;rwa [hb3.eq_of_lax hw hst] at this
  split
  ·refine SimR.bind' (SimR.byteOf ha4) fun E4 s4 x x' hx=>?_
   obtain rfl:x=x':=hx
   refine SimR.bind' (SimR.byteOf (hb4.mono s4)) fun E5 s5 x x' hx=>?_
   obtain rfl:x=x':=hx
   exact .pure rfl
  ·refine SimR.bind' (SimR.typeInfo t) fun E4 s4 x x' hx=>?_
   obtain ⟨rfl,_⟩:=hx
   split
   ·split
    ·exact .pure rfl
    ·exact .unsupported _
   ·exact .unsupported _
 ·have hst':C.st=true:=by simpa using hst
  have g:=hw.glob hst' _ _ ha3.block
  have e1:decide (x.1.block<C.P.globals.size)=false:=by simp;omega
  have e2:decide (x'.1.block<C.P.globals.size)=false:=by simp;omega
  rw [e1,e2]
  simp only [Bool.and_false,Bool.false_eq_true,if_false]
  refine SimR.bind' (SimR.typeInfo t) fun E4 s4 x x' hx=>?_
  obtain ⟨rfl,hi⟩:=hx
  have:=hs.resolve_left hst x hi
  split
  ·rename_i e;rw [e] at this;cases this
  ·exact .unsupported _
theorem SimR.typeStr (t:TypeId):SimR C ok E (Go.typeStr t) (Go.typeStr t) (fun _ x x'=>x=x'):=
 .bind (SimR.typeInfo t) fun _ _ i i' hi=>by
  obtain ⟨rfl,_⟩:=hi
  dsimp only
  split
  ·exact .unsupported _
  ·exact .pure rfl
set_option maxHeartbeats 1000000 in
theorem SimR.equalIn:∀ (d:Nat) (t:TypeId) (n:Nat) (E:BRel),Hnd C E→∀ {x x' y y':Value},(C.st=false∨flatT C.P n t=true)→VR C E x x'→VR C E y y' →
  SimR C ok E (Op.equalIn d t x y) (Op.equalIn d t x' y') (fun _ r r'=>r=r')
 | 0,_,_,_,_,_,_,_,_,_,_,_=>.unsupported _
 | d+1,t,n,E,hh,x,x',y,y',hs,hx,hy=>by
  unfold Op.equalIn
  refine SimR.bind' (SimR.underlying t) fun E1 s1 u u' hu=>?_
  obtain ⟨rfl,hu⟩:=hu
  have hh1:=hh.mono s1
  have hx:=hx.mono s1
  have hy:=hy.mono s1
  cases u with
  | int k=>
   cases hx with
   | int k1 n1=>
    cases hy with
    | int k2 n2=>
     dsimp only
     split<;>first|exact .pure rfl|exact .stuck _
    | nilPtr=>rcases n1 with (_|_)|_<;>first|exact .unsupported _|exact .pure rfl
    | ptr o s h=>rcases n1 with (_|_)|_<;>first|exact .pure rfl|exact .unsupported _
    | _=>exact .stuck _
   | nilPtr=>cases hy<;>exact .unsupported _
   | ptr o s h=>
    cases hy with
    | int k2 n2=>rcases n2 with (_|_)|_<;>first|exact .pure rfl|exact .unsupported _
    | ptr o2 s2 h2=>
     refine SimR.equalIntPtr t ⟨h,rfl,rfl⟩ ⟨h2,rfl,rfl⟩ (hs.imp id fun h i hi=>?_)
     cases n with
     | zero=>cases h
     | succ n=>simpa [flatT,hu,hi] using h
    | _=>exact .unsupported _
   | _=>cases hy<;>first|exact .stuck _|exact .unsupported _
  | pointer e=>
   cases hx<;>cases hy<;>first
    | exact .stuck _
    | exact .pure rfl
    | skip
   rename_i b b' o s h _ _ _ _ k
   have hst:C.st=false:=hs.resolve_right (by cases n<;>simp [flatT,hu])
   refine SimR.bind' (SimR.sizeOf e) fun E2 s2 z z' hz=>?_
   obtain rfl:z=z':=hz
   refine .of_world fun w w' hw=>?_
   split
   ·exact SimR.sameAddr ⟨s2 _ _ h,rfl,rfl⟩ ⟨s2 _ _ k,rfl,rfl⟩ hst
   ·have e1:=AddrR.eq_of_lax hw hst (a:=⟨b,o,s⟩) (a':=⟨b',o,s⟩) ⟨s2 _ _ h,rfl,rfl⟩
    have e2:=hw.lid hst _ _ (s2 _ _ k)
    have e3:=hw.lid hst _ _ (s2 _ _ h)
    subst e2;subst e3
    split
    ·exact .pure rfl
    ·refine SimR.bind' (SimR.choose _) fun E3 s3 z z' hz=>?_
     obtain rfl:z=z':=hz
     exact .pure rfl
  | unsafePointer=>
   have hst:C.st=false:=hs.resolve_right (by cases n<;>simp [flatT,hu])
   cases hx<;>cases hy<;>first
    | exact .stuck _
    | exact .pure rfl
    | exact SimR.sameAddr ⟨by assumption,rfl,rfl⟩ ⟨by assumption,rfl,rfl⟩ hst
  | interface ms=>
   have hst:C.st=false:=hs.resolve_right (by cases n<;>simp [flatT,hu])
   cases hx<;>cases hy<;>first
    | exact .stuck _
    | exact .pure rfl
    | skip
   rename_i t1 v1 v1' ht1 h1 t2 v2 v2' ht2 h2
   dsimp only
   split
   ·exact .pure rfl
   ·refine SimR.bind' (SimR.typeInfo _) fun E2 s2 i i' hi=>?_
    obtain ⟨rfl,_⟩:=hi
    split
    ·refine SimR.bind' (R:=fun _ p p'=>p=C.P∧p'=C.P) (.program ⟨rfl,rfl⟩) fun E3 s3 p p' hp'=>?_
     obtain ⟨rfl,rfl⟩:=hp'
     refine SimR.bind' (R:=fun _ p p'=>p=C.P∧p'=C.P) (.program ⟨rfl,rfl⟩) fun E4 s4 p p' hp'=>?_
     obtain ⟨rfl,rfl⟩:=hp'
     split
     ·exact .of_halts fun w=>⟨_,w,rfl,by simp⟩
     ·refine SimR.bind' (SimR.typeStr _) fun E5 s5 z z' hz=>?_
      obtain rfl:z=z':=hz
      exact SimR.runtimePanic ((((hh1.mono s2).mono s3).mono s4).mono s5) _
    ·exact SimR.equalIn d _ n _ (hh1.mono s2) (.inl hst) (h1.mono s2) (h2.mono s2)
  | struct fs=>
   have hst:C.st=false:=hs.resolve_right (by cases n<;>simp [flatT,hu])
   cases hx<;>cases hy<;>first
    | exact .stuck _
    | skip
   rename_i a a' ha hxa b b' hb hxb
   have ra:AR C E1 a a':=⟨ha,hxa⟩
   have rb:AR C E1 b b':=⟨hb,hxb⟩
   refine SimR.bind' (R:=fun _ p p'=>p=C.P∧p'=C.P) (.program ⟨rfl,rfl⟩) fun E2 s2 p p' hp'=>?_
   obtain ⟨rfl,rfl⟩:=hp'
   split
   ·exact .of_halts fun w=>⟨_,w,rfl,by simp⟩
   ·refine SimR.bind' (R:=fun _ z z'=>z=z') ?_ fun E3 s3 z z' hz=>?_
    ·rw [← Array.forIn_toList,← Array.forIn_toList]
     refine SimR.forInList (fun _ _ _ _ _ h=>h) _ _ _ _ (fun f _ E3 s3 q q' hq=>?_) rfl
     obtain rfl:q=q':=hq
     split
     ·refine SimR.bind' (SimR.part f.type ((ra.mono s2).mono s3) _) fun E4 s4 v v' hv=>?_
      refine SimR.bind' (SimR.part f.type (((rb.mono s2).mono s3).mono s4) _) fun E5 s5 u u' hu=>?_
      refine SimR.bind' (SimR.equalIn d _ n _ ((((hh1.mono s2).mono s3).mono s4).mono s5) (.inl hst) (hv.mono s5) hu) fun E6 s6 z z' hz=>?_
      obtain rfl:z=z':=hz
      split
      ·exact .pure (.done rfl)
      ·exact .pure (.yield rfl)
     ·exact .pure (.yield rfl)
    ·obtain rfl:z=z':=hz
     dsimp only
     split<;>exact .pure rfl
  | array len e=>
   cases hx<;>cases hy<;>first
    | exact .stuck _
    | skip
   rename_i a a' ha hxa b b' hb hxb
   have ra:AR C E1 a a':=⟨ha,hxa⟩
   have rb:AR C E1 b b':=⟨hb,hxb⟩
   refine SimR.bind' (SimR.sizeOf e) fun E2 s2 z z' hz=>?_
   obtain rfl:z=z':=hz
   have he:C.st=false∨flatT C.P (n-1) e=true:=hs.imp id fun h=>by
    cases n with
    | zero=>cases h
    | succ n=>simpa [flatT,hu] using h
   refine SimR.bind' (R:=fun _ z z'=>z=z') ?_ fun E3 s3 z z' hz=>?_
   ·simp only [Std.Legacy.Range.forIn_eq_forIn_range']
    refine SimR.forInList (fun _ _ _ _ _ h=>h) _ _ _ _ (fun i _ E3 s3 q q' hq=>?_) rfl
    obtain rfl:q=q':=hq
    refine SimR.bind' (SimR.part e ((ra.mono s2).mono s3) _) fun E4 s4 v v' hv=>?_
    refine SimR.bind' (SimR.part e (((rb.mono s2).mono s3).mono s4) _) fun E5 s5 u u' hu=>?_
    refine SimR.bind' (SimR.equalIn d _ (n-1) _ ((((hh1.mono s2).mono s3).mono s4).mono s5) he (hv.mono s5) hu) fun E6 s6 z z' hz=>?_
    obtain rfl:z=z':=hz
    split
    ·exact .pure (.done rfl)
    ·exact .pure (.yield rfl)
   ·obtain rfl:z=z':=hz
    dsimp only
    split<;>exact .pure rfl
  | bool=>cases hx<;>first|exact .stuck _|(cases hy<;>first|exact .stuck _|exact .pure rfl)
  | string=>cases hx<;>first|exact .stuck _|(cases hy<;>first|exact .stuck _|exact .pure rfl)
  | float k=>cases hx<;>first|exact .stuck _|(cases hy<;>first|exact .stuck _|(dsimp only;split<;>first|exact .pure rfl|exact .stuck _))
  | complex k=>cases hx<;>first|exact .stuck _|(cases hy<;>first|exact .stuck _|(dsimp only;split<;>first|exact .pure rfl|exact .stuck _))
  | slice e=>cases hx<;>first|exact .stuck _|(cases hy<;>first|exact .stuck _|exact .pure rfl)
  | map k e=>cases hx<;>first|exact .stuck _|(cases hy<;>first|exact .stuck _|exact .pure rfl)
  | func a b c=>cases hx<;>first|exact .stuck _|(cases hy<;>first|exact .stuck _|exact .pure rfl)
  | chan d e=>cases hx<;>first|exact .stuck _|(cases hy<;>first|exact .stuck _|exact .pure rfl)
  | _=>cases hx<;>exact .stuck _
end
end Go.Sim
