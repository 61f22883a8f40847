/- PROVED HERE: laws that the statement rests on (parts Si, Sj, Sk). Conditions: none. -/
import Derived.Test.YtlcbehhbfglgaaaGreatE11
set_option linter.all false
namespace Go.Sim
section
variable {C:Cx} {ok:FuncId→Code→Prop} {E:BRel}
theorem SimR.loadAt (t:TypeId) {x x':Value} (hx:VR C E x x'):SimR C ok E (Instr.loadAt t x) (Instr.loadAt t x') (VR C):=by
 unfold Instr.loadAt
 exact SimR.bind' (SimR.sureAddr hx) fun E1 s1 a a' ha=>SimR.loadVar t ha
theorem SimR.storeAt (t:TypeId) {x x' v v':Value} (hx:VR C E x x') (hv:VR C E v v'):SimR C ok E (Instr.storeAt t x v) (Instr.storeAt t x' v') (fun _ _ _=>True):=by
 unfold Instr.storeAt
 exact SimR.bind' (SimR.sureAddr hx) fun E1 s1 a a' ha=>SimR.storeVar t ha (hv.mono s1)
theorem SimR.partAt {a a':Addr} (h:AddrR E a a') (x y:Nat):SimR C ok E (Go.partAt a x y) (Go.partAt a' x y) (fun E1 b b'=>AddrR E1 b b'):=by
 unfold Go.partAt
 refine SimR.bind' (SimR.byteOf h) fun E1 s1 n n' hn=>?_
 obtain rfl:n=n':=hn
 dsimp only
 have h1:AddrR E1 { block:=a.block,off:=a.off+x } { block:=a'.block,off:=a'.off+x }:=⟨s1 _ _ h.block,by show a.off+x=a'.off+x;rw [h.off],rfl⟩
 refine SimR.bind' (SimR.byteOf h1) fun E2 s2 n n' hn=>?_
 obtain rfl:n=n':=hn
 refine .pure ?_
 split
 ·exact h1.mono s2
 ·exact ⟨(h1.mono s2).block,h1.off,rfl⟩
theorem SimR.fieldPlace {a a':Addr} (h:AddrR E a a') (f:Field):SimR C ok E (Go.fieldPlace a f) (Go.fieldPlace a' f) (fun E1 b b'=>AddrR E1 b b'):=by
 unfold Go.fieldPlace
 refine SimR.bind' (SimR.sizeOf f.type) fun E1 s1 n n' hn=>?_
 obtain rfl:n=n':=hn
 split
 ·exact SimR.partAt (h.mono s1) _ _
 ·exact .pure ((h.mono s1).add _)
theorem SimR.fieldAt (t:TypeId) {x x':Value} (hx:VR C E x x') (n:Nat):SimR C ok E (Instr.fieldAt t x n) (Instr.fieldAt t x' n) (VR C):=by
 unfold Instr.fieldAt
 refine SimR.bind' (SimR.underlying t) fun E1 s1 u u' hu=>?_
 obtain ⟨rfl,hu⟩:=hu
 cases u with
 | struct fs=>
  dsimp only
  cases hf:fs[n]? with
  | none=>exact .stuck _
  | some f=>
   refine SimR.bind' (SimR.sureAddr (hx.mono s1)) fun E2 s2 a a' ha=>?_
   exact SimR.bind' (SimR.fieldPlace ha f) fun E3 s3 b b' hb=>.pure (.of_addr hb)
 | _=>exact .stuck _
theorem SimR.indexAt (hh:Hnd C E) (t:TypeId) {x x' i i':Value} (hx:VR C E x x') (hi:VR C E i i'):SimR C ok E (Instr.indexAt t x i) (Instr.indexAt t x' i') (VR C):=by
 unfold Instr.indexAt
 refine SimR.bind' (SimR.asIntOf hi) fun E1 s1 k k' hk=>?_
 obtain rfl:k=k':=hk
 obtain ⟨k,n⟩:=k
 dsimp only
 refine SimR.bind' (SimR.underlying t) fun E2 s2 u u' hu=>?_
 obtain ⟨rfl,hu⟩:=hu
 have hx2:=(hx.mono s1).mono s2
 have hh2:=(hh.mono s1).mono s2
 have fin:∀ E3,Sub E2 E3→∀ (base base':Option Addr) (len:Nat) (elem:TypeId),OptR (AddrR E3) base base'→SimR C ok E3
   (do
    let __do_lift ← Go.underlying t
    match base with
    | some a=>
     if 0≤n∧n<(len:Int) then do
      let __do_lift ← Go.sizeOf elem
      Pure.pure (Value.pointer (some (a.add (n.toNat*__do_lift))))
     else if (decide (len≤1) && match __do_lift with | .array ..=>true|_=>false)=true then Go.unsupported (.noEntry "op/indexAddr.an index out of range at an array of length 0 or 1 (ledger 616)")
     else Go.boundsPanic k n len .index
    | none=>Go.boundsPanic k n 0 .index)
   (do
    let __do_lift ← Go.underlying t
    match base' with
    | some a=>
     if 0≤n∧n<(len:Int) then do
      let __do_lift ← Go.sizeOf elem
      Pure.pure (Value.pointer (some (a.add (n.toNat*__do_lift))))
     else if (decide (len≤1) && match __do_lift with | .array ..=>true|_=>false)=true then Go.unsupported (.noEntry "op/indexAddr.an index out of range at an array of length 0 or 1 (ledger 616)")
     else Go.boundsPanic k n len .index
    | none=>Go.boundsPanic k n 0 .index) (VR C):=by
  intro E3 s3 base base' len elem hb
  refine SimR.bind' (SimR.underlying t) fun E4 s4 v v' hv=>?_
  obtain ⟨rfl,_⟩:=hv
  cases base with
  | none=>cases base' with
   | none=>exact SimR.boundsPanic ((hh2.mono s3).mono s4) _ _ _ _
   | some _=>exact hb.elim
  | some a=>cases base' with
   | none=>exact hb.elim
   | some a'=>
    dsimp only
    split
    ·refine SimR.bind' (SimR.sizeOf elem) fun E5 s5 z z' hz=>?_
     obtain rfl:z=z':=hz
     exact .pure (.of_addr (((AddrR.mono s4 hb).mono s5).add _))
    ·split<;>(try split)<;>first|exact .unsupported _|exact SimR.boundsPanic ((hh2.mono s3).mono s4) _ _ _ _
 cases u with
 | array len elem=>
  refine SimR.bind' (SimR.sureAddr hx2) fun E3 s3 a a' ha=>?_
  exact SimR.bind' (R:=fun E (p p':Option Addr × Nat × TypeId)=>OptR (AddrR E) p.1 p'.1∧p.2=p'.2) (.pure ⟨ha,rfl⟩) fun E4 s4 p p' hp=>by
   obtain ⟨b,l,e⟩:=p
   obtain ⟨b',l',e'⟩:=p'
   obtain ⟨h1,h2⟩:=hp
   cases h2
   exact fin _ (s3.trans s4) _ _ _ _ h1
 | slice elem=>
  cases hx2 with
  | nilSlice l c=>
   exact SimR.bind' (R:=fun E (p p':Option Addr × Nat × TypeId)=>OptR (AddrR E) p.1 p'.1∧p.2=p'.2) (.pure ⟨trivial,rfl⟩) fun E4 s4 p p' hp=>by
    obtain ⟨b,l,e⟩:=p
    obtain ⟨b',l',e'⟩:=p'
    obtain ⟨h1,h2⟩:=hp
    cases h2
    exact fin _ s4 _ _ _ _ h1
  | slice o s l c h=>
   exact SimR.bind' (R:=fun E (p p':Option Addr × Nat × TypeId)=>OptR (AddrR E) p.1 p'.1∧p.2=p'.2) (.pure ⟨⟨h,rfl,rfl⟩,rfl⟩) fun E4 s4 p p' hp=>by
    obtain ⟨b,l,e⟩:=p
    obtain ⟨b',l',e'⟩:=p'
    obtain ⟨h1,h2⟩:=hp
    cases h2
    exact fin _ s4 _ _ _ _ h1
  | _=>exact .of_halts fun w=>⟨_,w,rfl,by simp⟩
 | _=>exact .of_halts fun w=>⟨_,w,rfl,by simp⟩
theorem SimR.sliceBound (hh:Hnd C E) {x x':Value} (hx:VR C E x x') (y:Nat) (c:BoundsCode):SimR C ok E (Instr.sliceBound x y c) (Instr.sliceBound x' y c) (fun _ n n'=>n=n'):=by
 unfold Instr.sliceBound
 refine SimR.bind' (SimR.asIntOf hx) fun E1 s1 k k' hk=>?_
 obtain rfl:k=k':=hk
 obtain ⟨k,n⟩:=k
 dsimp only
 split
 ·exact .pure rfl
 ·exact SimR.boundsPanic (hh.mono s1) _ _ _ _
theorem SimR.sliceBounds (hh:Hnd C E) (b:Bool) (len cap:Nat) {lo lo' hi hi' mx mx':Option Value} (h1:OptR (VR C E) lo lo') (h2:OptR (VR C E) hi hi') (h3:OptR (VR C E) mx mx') :
  SimR C ok E (Instr.sliceBounds b len cap lo hi mx) (Instr.sliceBounds b len cap lo' hi' mx') (fun _ n n'=>n=n'):=by
 have fin:∀ E1,Sub E E1→∀ (m h:Nat) (sm:Bool),SimR C ok E1
   (match lo with
    | some v=>(do let l ← Instr.sliceBound v h (if sm then .slice3C else .sliceB);Pure.pure (l,h,m):Sem (Nat × Nat × Nat))
    | none=>(do let l ← Pure.pure 0;Pure.pure (l,h,m)))
   (match lo' with
    | some v=>(do let l ← Instr.sliceBound v h (if sm then .slice3C else .sliceB);Pure.pure (l,h,m):Sem (Nat × Nat × Nat))
    | none=>(do let l ← Pure.pure 0;Pure.pure (l,h,m))) (fun _ n n'=>n=n'):=by
  intro E1 s1 m h sm
  cases lo with
  | none=>cases lo' with
   | none=>exact SimR.bind' (R:=fun _ n n'=>n=n') (.pure rfl) fun _ _ n n' hn=>by subst hn;exact .pure rfl
   | some _=>exact h1.elim
  | some v=>cases lo' with
   | none=>exact h1.elim
   | some v'=>exact SimR.bind' (SimR.sliceBound (hh.mono s1) (VR.mono s1 h1) h _) fun _ _ n n' hn=>by subst hn;exact .pure rfl
 unfold Instr.sliceBounds
 cases mx with
 | none=>cases mx' with
  | some _=>exact h3.elim
  | none=>
   refine SimR.bind' (R:=fun _ n n'=>n=n') (.pure rfl) fun E1 s1 m m' hm=>?_
   obtain rfl:m=m':=hm
   cases hi with
   | none=>cases hi' with
    | some _=>exact h2.elim
    | none=>
     refine SimR.bind' (R:=fun _ n n'=>n=n') (.pure rfl) fun E2 s2 h h' hh'=>?_
     obtain rfl:h=h':=hh'
     exact fin _ (s1.trans s2) m h false
   | some v=>cases hi' with
    | none=>exact h2.elim
    | some v'=>
     refine SimR.bind' (SimR.sliceBound (hh.mono s1) (VR.mono s1 h2) m _) fun E2 s2 h h' hh'=>?_
     obtain rfl:h=h':=hh'
     exact fin _ (s1.trans s2) m h false
 | some mv=>cases mx' with
  | none=>exact h3.elim
  | some mv'=>
   refine SimR.bind' (SimR.sliceBound hh h3 cap _) fun E1 s1 m m' hm=>?_
   obtain rfl:m=m':=hm
   cases hi with
   | none=>cases hi' with
    | some _=>exact h2.elim
    | none=>exact .of_halts fun w=>⟨_,w,rfl,by simp⟩
   | some v=>cases hi' with
    | none=>exact h2.elim
    | some v'=>
     refine SimR.bind' (SimR.sliceBound (hh.mono s1) (VR.mono s1 h2) m _) fun E2 s2 h h' hh'=>?_
     obtain rfl:h=h':=hh'
     exact fin _ (s1.trans s2) m h true
theorem OptR.vmono {E1:BRel} (s:Sub E E1) {a b:Option Value} (h:OptR (VR C E) a b):OptR (VR C E1) a b:=h.mono' fun _ _=>VR.mono s
theorem SimR.slice (hh:Hnd C E) (t:TypeId) {x x':Value} (hx:VR C E x x') {lo lo' hi hi' mx mx':Option Value} (h1:OptR (VR C E) lo lo') (h2:OptR (VR C E) hi hi') (h3:OptR (VR C E) mx mx') :
  SimR C ok E (Instr.slice t x lo hi mx) (Instr.slice t x' lo' hi' mx') (VR C):=by
 unfold Instr.slice
 refine SimR.bind' (SimR.underlying t) fun E1 s1 u u' hu=>?_
 obtain ⟨rfl,hu⟩:=hu
 have hx1:=hx.mono s1
 have hh1:=hh.mono s1
 have g1:=h1.vmono s1
 have g2:=h2.vmono s1
 have g3:=h3.vmono s1
 cases u with
 | string=>
  cases hx1 with
  | string s=>
   cases mx with
   | some _=>exact .of_halts fun w=>⟨_,w,rfl,by simp⟩
   | none=>cases mx' with
    | some _=>exact h3.elim
    | none=>
     refine SimR.bind' (SimR.sliceBounds hh1 false s.size s.size g1 g2 (mx:=none) (mx':=none) trivial) fun E2 s2 p p' hp=>?_
     obtain rfl:p=p':=hp
     exact .pure (.string _)
  | _=>exact .of_halts fun w=>⟨_,w,rfl,by simp⟩
 | slice e=>
  cases hx1 with
  | nilSlice l c=>
   refine SimR.bind' (SimR.sliceBounds hh1 true l c g1 g2 g3) fun E2 s2 p p' hp=>?_
   obtain rfl:p=p':=hp
   obtain ⟨l,h,m⟩:=p
   refine SimR.bind' (SimR.sizeOf e) fun E3 s3 z z' hz=>?_
   obtain rfl:z=z':=hz
   refine .pure ?_
   split<;>exact .nilSlice _ _
  | slice o s l c h=>
   refine SimR.bind' (SimR.sliceBounds hh1 true l c g1 g2 g3) fun E2 s2 p p' hp=>?_
   obtain rfl:p=p':=hp
   obtain ⟨l,h',m⟩:=p
   refine SimR.bind' (SimR.sizeOf e) fun E3 s3 z z' hz=>?_
   obtain rfl:z=z':=hz
   refine .pure ?_
   have ha:AddrR E3 ⟨_,o,s⟩ ⟨_,o,s⟩:=⟨s3 _ _ (s2 _ _ h),rfl,rfl⟩
   split
   ·exact .of_slice ha _ _
   ·exact .of_slice (ha.add _) _ _
  | _=>exact .of_halts fun w=>⟨_,w,rfl,by simp⟩
 | pointer e=>
  have fin:∀ (E1:BRel),Hnd C E1→∀ {x x':Value},VR C E1 x x'→OptR (VR C E1) lo lo'→OptR (VR C E1) hi hi'→OptR (VR C E1) mx mx'→SimR C ok E1
    (do
     let a ← Go.asAddr x
     match ← Go.underlying e with
     | .array n elem=>do
      let x ← Instr.sliceBounds false n n lo hi mx
      match x with
      | (l,h,m)=>do
       let size ← Go.sizeOf elem
       Pure.pure (Value.slice (some (if m=l then a else a.add (l*size))) (h-l) (m-l))
     | _=>Go.stuck "Slice: array type expected")
    (do
     let a ← Go.asAddr x'
     match ← Go.underlying e with
     | .array n elem=>do
      let x ← Instr.sliceBounds false n n lo' hi' mx'
      match x with
      | (l,h,m)=>do
       let size ← Go.sizeOf elem
       Pure.pure (Value.slice (some (if m=l then a else a.add (l*size))) (h-l) (m-l))
     | _=>Go.stuck "Slice: array type expected") (VR C):=by
   intro E1 hh1 x x' hx1 g1 g2 g3
   refine SimR.bind' (SimR.asAddr hh1 hx1) fun E2 s2 a a' ha=>?_
   refine SimR.bind' (SimR.underlying e) fun E3 s3 u u' hu=>?_
   obtain ⟨rfl,_⟩:=hu
   cases u with
   | array n elem=>
    refine SimR.bind' (SimR.sliceBounds ((hh1.mono s2).mono s3) false n n ((g1.vmono s2).vmono s3) ((g2.vmono s2).vmono s3) ((g3.vmono s2).vmono s3)) fun E4 s4 p p' hp=>?_
    obtain rfl:p=p':=hp
    obtain ⟨l,h',m⟩:=p
    refine SimR.bind' (SimR.sizeOf elem) fun E5 s5 z z' hz=>?_
    obtain rfl:z=z':=hz
    refine .pure ?_
    have ha:=((ha.mono s3).mono s4).mono s5
    split
    ·exact .of_slice ha _ _
    ·exact .of_slice (ha.add _) _ _
   | _=>exact .stuck _
  have:=fin E1 hh1 hx1 g1 g2 g3
  cases hx1<;>exact this
 | _=>cases hx1<;>exact .of_halts fun w=>⟨_,w,rfl,by simp⟩
theorem SimR.sliceAt (hh:Hnd C E) (t:TypeId) {x x':Value} (hx:VR C E x x') {lo lo' hi hi' mx mx':Option Value} (h1:OptR (VR C E) lo lo') (h2:OptR (VR C E) hi hi') (h3:OptR (VR C E) mx mx') :
  SimR C ok E (Instr.sliceAt t x lo hi mx) (Instr.sliceAt t x' lo' hi' mx') (VR C):=by
 unfold Instr.sliceAt
 refine SimR.bind' (SimR.underlying t) fun E1 s1 u u' hu=>?_
 obtain ⟨rfl,hu⟩:=hu
 cases u with
 | array n elem=>
  refine SimR.bind' (SimR.sureAddr (hx.mono s1)) fun E2 s2 a a' ha=>?_
  refine SimR.bind' (SimR.sliceBounds ((hh.mono s1).mono s2) false n n ((h1.vmono s1).vmono s2) ((h2.vmono s1).vmono s2) ((h3.vmono s1).vmono s2)) fun E4 s4 p p' hp=>?_
  obtain rfl:p=p':=hp
  obtain ⟨l,h',m⟩:=p
  refine SimR.bind' (SimR.sizeOf elem) fun E5 s5 z z' hz=>?_
  obtain rfl:z=z':=hz
  refine .pure ?_
  have ha:=(ha.mono s4).mono s5
  split
  ·exact .of_slice ha _ _
  ·exact .of_slice (ha.add _) _ _
 | _=>exact SimR.slice (hh.mono s1) t (hx.mono s1) (h1.vmono s1) (h2.vmono s1) (h3.vmono s1)
end
section
variable {C:Cx} {ok:FuncId→Code→Prop} {E:BRel}
theorem SimR.field (t:TypeId) {x x':Value} (hx:VR C E x x') (n:Nat):SimR C ok E (Instr.field t x n) (Instr.field t x' n) (VR C):=by
 unfold Instr.field
 refine SimR.bind' (SimR.underlying t) fun E1 s1 u u' hu=>?_
 obtain ⟨rfl,hu⟩:=hu
 cases u with
 | struct fs=>
  dsimp only
  cases hf:fs[n]? with
  | none=>exact .stuck _
  | some f=>exact SimR.bind' (SimR.asAgg (hx.mono s1)) fun E2 s2 a a' ha=>SimR.part f.type ha _
 | _=>exact .stuck _
theorem SimR.index (hh:Hnd C E) (t:TypeId) {x x' i i':Value} (hx:VR C E x x') (hi:VR C E i i'):SimR C ok E (Instr.index t x i) (Instr.index t x' i') (VR C):=by
 unfold Instr.index
 refine SimR.bind' (SimR.asIntOf hi) fun E1 s1 k k' hk=>?_
 obtain rfl:k=k':=hk
 obtain ⟨k,n⟩:=k
 dsimp only
 refine SimR.bind' (SimR.underlying t) fun E2 s2 u u' hu=>?_
 obtain ⟨rfl,hu⟩:=hu
 have hx2:=(hx.mono s1).mono s2
 have hh2:=(hh.mono s1).mono s2
 cases u with
 | array len elem=>
  cases hx2 with
  | agg ha hxa=>
   dsimp only
   split
   ·refine SimR.bind' (SimR.sizeOf elem) fun E3 s3 z z' hz=>?_
    obtain rfl:z=z':=hz
    exact SimR.part elem (AR.mono s3 ⟨ha,hxa⟩) _
   ·exact SimR.boundsPanic hh2 _ _ _ _
  | _=>exact .of_halts fun w=>⟨_,w,rfl,by simp⟩
 | string=>
  cases hx2 with
  | string s=>
   dsimp only
   split
   ·exact .pure (.int _ _)
   ·exact SimR.boundsPanic hh2 _ _ _ _
  | _=>exact .of_halts fun w=>⟨_,w,rfl,by simp⟩
 | _=>exact .of_halts fun w=>⟨_,w,rfl,by simp⟩
theorem SimR.extract {x x':Value} (hx:VR C E x x') (n:Nat):SimR C ok E (Instr.extract x n) (Instr.extract x' n) (VR C):=by
 unfold Instr.extract
 cases hx with
 | tuple ha hxa=>
  rename_i a a'
  have h:AR C E a a':=⟨ha,hxa⟩
  dsimp only
  cases e:a[n]? with
  | none=>exact .stuck _
  | some v=>obtain ⟨v',hv',hr⟩:=h.some_of e;rw [hv'];exact .pure hr
 | _=>exact .stuck _
theorem SimR.makeInterface (t:TypeId) (ht:C.tyOk t=true) {x x':Value} (hx:VR C E x x'):SimR C ok E (Instr.makeInterface t x) (Instr.makeInterface t x') (VR C):=by
 unfold Instr.makeInterface
 refine SimR.bind' (SimR.underlying t) fun E1 s1 u u' hu=>?_
 obtain ⟨rfl,hu⟩:=hu
 cases u<;>first|exact .stuck _|exact .pure (.iface t ht (hx.mono s1))
theorem SimR.makeFunc {fn:Fn} (hf:FnR C E fn fn) {a a' c c':Array Value} (ha:AR C E a a') (hc:AR C E c c') (hz:a.size+c.size≤3):SimR C ok E (Instr.makeFunc fn a c) (Instr.makeFunc fn a' c') (VR C):=
 .pure (.func hf ha.size ha.at_ ⟨hc.size,hz⟩ hc.at_)
theorem SimR.typeAssert (K:PrOk C) (hh:Hnd C E) {x x':Value} (hx:VR C E x x') (xt t:TypeId) (cok:Bool):SimR C ok E (Instr.typeAssert x xt t cok) (Instr.typeAssert x' xt t cok) (VR C):=by
 have holds:∀ (E:BRel) {v v':Value},VR C E v v'→SimR C ok E (Pure.pure (if cok then Value.tuple #[v,.bool true] else v)) (Pure.pure (if cok then Value.tuple #[v',.bool true] else v')) (VR C):=fun E v v' h=>by
  refine .pure ?_
  cases cok with
  | true=>exact .of_tuple (LR.toArray (l:=[_,_]) (l':=[_,_]) (.cons h (.cons (.bool true) .nil)))
  | false=>exact h
 have fails:∀ (E:BRel),Hnd C E→∀ (st dy:Option TypeId) (m:String),SimR C ok E (if cok then (do Pure.pure (Value.tuple #[← Go.zeroValue t,.bool false])) else Go.runtimePanic (.typeAssertion st dy t m)) (if cok then (do Pure.pure (Value.tuple #[← Go.zeroValue t,.bool false])) else Go.runtimePanic (.typeAssertion st dy t m)) (VR C):=fun E hh st dy m=>by
  cases cok with
  | true=>exact SimR.bind' (SimR.zeroValue K t) fun E1 s1 v v' hv=>.pure (.of_tuple (LR.toArray (l:=[_,_]) (l':=[_,_]) (.cons hv (.cons (.bool false) .nil))))
  | false=>simp only [Bool.false_eq_true,if_false];exact SimR.runtimePanic hh _
 unfold Instr.typeAssert
 refine SimR.bind' (SimR.underlying t) fun E1 s1 u u' hu=>?_
 obtain ⟨rfl,hu⟩:=hu
 have hx1:=hx.mono s1
 have hh1:=hh.mono s1
 cases u with
 | interface want=>
  cases hx1 with
  | nilIface=>exact fails E1 hh1 _ _ _
  | iface ty ht h=>
   refine SimR.bind' (SimR.typeInfo _) fun E2 s2 i i' hi=>?_
   obtain ⟨rfl,_⟩:=hi
   dsimp only
   split
   ·exact holds _ (.iface ty ht (h.mono s2))
   ·exact fails _ (hh1.mono s2) _ _ _
  | _=>exact .stuck _
 | _=>
  cases hx1<;>first
   | exact .stuck _
   | exact fails E1 hh1 _ _ _
   | (dsimp only;split;(exact holds _ (by assumption));(exact fails E1 hh1 _ _ _))
theorem SimR.makeSlice (K:PrOk C) (hh:Hnd C E) (t:TypeId) {x x' y y':Value} (hx:VR C E x x') (hy:VR C E y y'):SimR C ok E (Instr.makeSlice t x y) (Instr.makeSlice t x' y') (VR C):=by
 unfold Instr.makeSlice
 refine SimR.bind' (SimR.underlying t) fun E1 s1 u u' hu=>?_
 obtain ⟨rfl,hu⟩:=hu
 cases u with
 | slice e=>
  dsimp only
  refine SimR.bind' (SimR.asInt (hx.mono s1)) fun E2 s2 n n' hn=>?_
  obtain rfl:n=n':=hn
  refine SimR.bind' (SimR.asInt ((hy.mono s1).mono s2)) fun E3 s3 c c' hc=>?_
  obtain rfl:c=c':=hc
  refine SimR.bind' (SimR.typeInfo e) fun E4 s4 i i' hi=>?_
  obtain ⟨rfl,_⟩:=hi
  have hh4:=(((hh.mono s1).mono s2).mono s3).mono s4
  have rest:∀ E5,Sub E4 E5→SimR C ok E5
    (do
     Go.askRoom ((IntKind.i64.wrap c).toNat*i.bytes)
     let __do_lift ← Go.sizeOf e
     if (IntKind.i64.wrap c).toNat*__do_lift=0 then do
      let zero ← Pure.pure #[]
      let a ← Go.newRow e ((Array.range ((IntKind.i64.wrap c).toNat*__do_lift)).map (zero[· % zero.size]!))
      Pure.pure (Value.slice (some a) (IntKind.i64.wrap n).toNat (IntKind.i64.wrap c).toNat)
     else do
      let z ← Go.zeroValue e
      let zero ← Pure.pure z.cells
      let a ← Go.newRow e ((Array.range ((IntKind.i64.wrap c).toNat*__do_lift)).map (zero[· % zero.size]!))
      Pure.pure (Value.slice (some a) (IntKind.i64.wrap n).toNat (IntKind.i64.wrap c).toNat))
    (do
     Go.askRoom ((IntKind.i64.wrap c).toNat*i.bytes)
     let __do_lift ← Go.sizeOf e
     if (IntKind.i64.wrap c).toNat*__do_lift=0 then do
      let zero ← Pure.pure #[]
      let a ← Go.newRow e ((Array.range ((IntKind.i64.wrap c).toNat*__do_lift)).map (zero[· % zero.size]!))
      Pure.pure (Value.slice (some a) (IntKind.i64.wrap n).toNat (IntKind.i64.wrap c).toNat)
     else do
      let z ← Go.zeroValue e
      let zero ← Pure.pure z.cells
      let a ← Go.newRow e ((Array.range ((IntKind.i64.wrap c).toNat*__do_lift)).map (zero[· % zero.size]!))
      Pure.pure (Value.slice (some a) (IntKind.i64.wrap n).toNat (IntKind.i64.wrap c).toNat)) (VR C):=by
   intro E5 s5
   refine SimR.bind' (R:=fun _ _ _=>True) ?_ fun E6 s6 _ _ _=>?_
   ·unfold Go.askRoom
    split
    ·exact SimR.mark trivial trivial
    ·exact .pure trivial
   refine SimR.bind' (SimR.sizeOf e) fun E7 s7 z z' hz=>?_
   obtain rfl:z=z':=hz
   have hh7:=((hh4.mono s5).mono s6).mono s7
   split
   ·refine SimR.bind' (R:=AR C) (.pure .nil) fun E8 s8 z z' hz=>?_
    exact SimR.bind' (SimR.newRow (hh7.mono s8) e (rangeMap hz _)) fun E9 s9 a a' ha=>.pure (.of_slice ha.1 _ _)
   ·refine SimR.bind' (SimR.zeroValue K e) fun E8 s8 z z' hz=>?_
    refine SimR.bind' (R:=AR C) (.pure (AR.cells hz)) fun E9 s9 z z' hz=>?_
    exact SimR.bind' (SimR.newRow ((hh7.mono s8).mono s9) e (rangeMap hz _)) fun E9 s9 a a' ha=>.pure (.of_slice ha.1 _ _)
  split
  ·split
   ·exact SimR.bind' (R:=fun _ _ _=>True) (SimR.runtimePanic hh4 _) fun E5 s5 _ _ _=>rest E5 s5
   ·split
    ·exact SimR.bind' (R:=fun _ _ _=>True) (SimR.runtimePanic hh4 _) fun E5 s5 _ _ _=>rest E5 s5
    ·refine SimR.bind' (SimR.choose _) fun E5 s5 z z' hz=>?_
     obtain rfl:z=z':=hz
     exact SimR.bind' (R:=fun _ _ _=>True) (SimR.runtimePanic (hh4.mono s5) _) fun E6 s6 _ _ _=>rest E6 (s5.trans s6)
  ·exact rest E4 (.refl _)
 | _=>exact .stuck _
theorem SimR.intArith (op:BinOp) (k:IntKind) (x y:Int):SimR C ok E (Op.intArith op k x y) (Op.intArith op k x y) (VR C):=by
 unfold Op.intArith
 split<;>first|exact .pure (.int _ _)|exact .stuck _
theorem SimR.intDiv (hh:Hnd C E) (op:BinOp) (k:IntKind) (x y:Int):SimR C ok E (Op.intDiv op k x y) (Op.intDiv op k x y) (VR C):=by
 unfold Op.intDiv
 split
 ·exact SimR.runtimePanic hh _
 ·split<;>first|exact .pure (.int _ _)|exact .stuck _
theorem SimR.intBits (op:BinOp) (k:IntKind) (x y:Int):SimR C ok E (Op.intBits op k x y) (Op.intBits op k x y) (VR C):=by
 unfold Op.intBits
 dsimp only
 split<;>first|exact .pure (.int _ _)|exact .stuck _
theorem SimR.intCmp (op:BinOp) (x y:Int):SimR C ok E (Op.intCmp op x y) (Op.intCmp op x y) (VR C):=by
 unfold Op.intCmp
 split<;>first|exact .pure (.bool _)|exact .stuck _
theorem SimR.shift (hh:Hnd C E) (op:BinOp) (k:IntKind) (x:Int) (k':IntKind) (y:Int):SimR C ok E (Op.shift op k x k' y) (Op.shift op k x k' y) (VR C):=by
 unfold Op.shift
 split
 ·exact SimR.runtimePanic hh _
 ·dsimp only
  split<;>first|exact .pure (.int _ _)|exact .stuck _
theorem SimR.stringOp (op:BinOp) (x y:ByteArray):SimR C ok E (Op.stringOp op x y) (Op.stringOp op x y) (VR C):=by
 unfold Op.stringOp
 dsimp only
 split<;>first|exact .pure (.bool _)|exact .stuck _|skip
 split<;>first|exact .unsupported _|exact .pure (.string _)
theorem SimR.unary (op:UnOp) {x x':Value} (hx:VR C E x x'):SimR C ok E (Op.unary op x) (Op.unary op x') (VR C):=by
 unfold Op.unary
 cases op<;>cases hx<;>first
  | exact .stuck _
  | exact .unsupported _
  | exact .pure (.bool _)
  | exact SimR.intArith _ _ _ _
  | exact SimR.intBits _ _ _ _
end
section
variable {C:Cx} {ok:FuncId→Code→Prop} {E:BRel}
theorem SimR.eqGuardIn:∀ (d:Nat) (t:TypeId) (E:BRel) {x x' y y':Value},VR C E x x'→VR C E y y' →
  SimR C ok E (Op.eqGuardIn d t x y) (Op.eqGuardIn d t x' y') (fun _ r r'=>r=r')
 | 0,_,_,_,_,_,_,_,_=>.unsupported _
 | d+1,t,E,x,x',y,y',hx,hy=>by
  unfold Op.eqGuardIn
  refine SimR.bind' (SimR.underlying t) fun E1 s1 u u' hu=>?_
  obtain ⟨rfl,hu⟩:=hu
  have hx:=hx.mono s1
  have hy:=hy.mono s1
  cases u with
  | interface ms=>cases hx<;>first|exact .pure rfl|(cases hy<;>exact .pure rfl)
  | struct fs=>
   cases hx with
   | agg ha hxa=>
    cases hy with
    | agg hb hxb=>
     rename_i a a' b b'
     have ra:AR C E1 a a':=⟨ha,hxa⟩
     have rb:AR C E1 b b':=⟨hb,hxb⟩
     dsimp only
     refine SimR.bind' (R:=fun _ z z'=>z=z') ?_ fun E3 s3 z z' hz=>?_
     ·rw [← Array.forIn_toList,← Array.forIn_toList]
      refine SimR.forInList (fun _ _ _ _ _ h=>h) _ _ _ _ (fun f _ E3 s3 q q' hq=>?_) rfl
      obtain rfl:q=q':=hq
      split
      ·refine SimR.bind' (SimR.part f.type (ra.mono s3) _) fun E4 s4 v v' hv=>?_
       refine SimR.bind' (SimR.part f.type ((rb.mono s3).mono s4) _) fun E5 s5 u u' hu=>?_
       refine SimR.bind' (SimR.eqGuardIn d _ _ (hv.mono s5) hu) fun E6 s6 z z' hz=>?_
       obtain rfl:z=z':=hz
       split
       ·exact .pure (.done rfl)
       ·exact .pure (.yield rfl)
      ·exact .pure (.yield rfl)
     ·obtain rfl:z=z':=hz
      split<;>exact .pure rfl
    | _=>exact .pure rfl
   | _=>exact .pure rfl
  | array len e=>
   cases hx with
   | agg ha hxa=>
    cases hy with
    | agg hb hxb=>
     rename_i a a' b b'
     have ra:AR C E1 a a':=⟨ha,hxa⟩
     have rb:AR C E1 b b':=⟨hb,hxb⟩
     dsimp only
     refine SimR.bind' (SimR.sizeOf e) fun E2 s2 z z' hz=>?_
     obtain rfl:z=z':=hz
     refine SimR.bind' (R:=fun _ z z'=>z=z') ?_ fun E3 s3 z z' hz=>?_
     ·simp only [Std.Legacy.Range.forIn_eq_forIn_range']
      refine SimR.forInList (fun _ _ _ _ _ h=>h) _ _ _ _ (fun i _ E3 s3 q q' hq=>?_) rfl
      obtain rfl:q=q':=hq
      refine SimR.bind' (SimR.part e ((ra.mono s2).mono s3) _) fun E4 s4 v v' hv=>?_
      refine SimR.bind' (SimR.part e (((rb.mono s2).mono s3).mono s4) _) fun E5 s5 u u' hu=>?_
      refine SimR.bind' (SimR.eqGuardIn d _ _ (hv.mono s5) hu) fun E6 s6 z z' hz=>?_
      obtain rfl:z=z':=hz
      split
      ·exact .pure (.done rfl)
      ·exact .pure (.yield rfl)
     ·obtain rfl:z=z':=hz
      split<;>exact .pure rfl
    | _=>exact .pure rfl
   | _=>exact .pure rfl
  | _=>cases hx<;>first|exact .pure rfl|(cases hy<;>exact .pure rfl)
theorem SimR.eqGuard (op:BinOp) (t:TypeId) (x y:Operand) {a a' b b':Value} (ha:VR C E a a') (hb:VR C E b b') :
  SimR C ok E (Go.eqGuard op t x y a b) (Go.eqGuard op t x y a' b') (fun _ _ _=>True):=by
 unfold Go.eqGuard
 have pt:∀ (E:BRel),SimR C ok E (Pure.pure ():Sem Unit) (Pure.pure ():Sem Unit) (fun _ _ _=>True):=fun E=>.pure trivial
 cases op<;>first|exact pt E|skip
 all_goals
  simp only [Bool.not_true,Bool.false_eq_true,if_false]
  cases ha with
  | nilIface=>
   cases hb with
   | nilIface=>
    have fin:∀ E:BRel,SimR C ok E (do if ← Op.eqGuardIn Op.maxDepth t .nilIface .nilIface then Go.unsupported (.noEntry "binop/eql: two nil values of an interface type with methods, neither of them the literal nil"):Sem Unit) (do if ← Op.eqGuardIn Op.maxDepth t .nilIface .nilIface then Go.unsupported (.noEntry "binop/eql: two nil values of an interface type with methods, neither of them the literal nil"):Sem Unit) (fun _ _ _=>True):=fun E=>by
     refine SimR.bind' (SimR.eqGuardIn _ t _ .nilIface .nilIface) fun E1 s1 z z' hz=>?_
     obtain rfl:z=z':=hz
     split
     ·exact .unsupported _
     ·exact pt _
    cases x<;>cases y<;>first|exact pt _|exact fin _
   | _=>exact pt _
  | agg h1 h2=>
   cases hb with
   | agg h3 h4=>
    refine SimR.bind' (R:=fun _ p p'=>p=C.P∧p'=C.P) (.program ⟨rfl,rfl⟩) fun E1 s1 p p' hp=>?_
    obtain ⟨rfl,rfl⟩:=hp
    refine SimR.bind' (R:=fun _ p p'=>p=C.P∧p'=C.P) (.program ⟨rfl,rfl⟩) fun E2 s2 p p' hp=>?_
    obtain ⟨rfl,rfl⟩:=hp
    split
    ·exact pt _
    ·refine SimR.bind' (SimR.eqGuardIn _ t _ ((VR.agg h1 h2).mono (s1.trans s2)) ((VR.agg h3 h4).mono (s1.trans s2))) fun E1 s1 z z' hz=>?_
     obtain rfl:z=z':=hz
     split
     ·exact .unsupported _
     ·exact pt _
   | _=>exact pt _
  | _=>cases hb<;>exact pt _
def EqSafe (C:Cx) (t:TypeId) (b:Value):Prop:=
 C.st=false∨(∃ n,flatT C.P n t=true)∨(b=.pointer none∧∃ e,C.P.underlying t=some (.pointer e))∨(b=.slice none 0 0∧∃ e,C.P.underlying t=some (.slice e))
theorem SimR.equal (hh:Hnd C E) (t:TypeId) {a a' b b':Value} (ha:VR C E a a') (hb:VR C E b b') (hs:EqSafe C t b):SimR C ok E (Op.equal t a b) (Op.equal t a' b') (fun _ r r'=>r=r'):=by
 unfold Op.equal
 rcases hs with hs|⟨n,hs⟩|⟨rfl,e,he⟩|⟨rfl,e,he⟩
 ·exact SimR.equalIn _ t 0 _ hh (.inl hs) ha hb
 ·exact SimR.equalIn _ t n _ hh (.inr hs) ha hb
 ·show SimR C ok E (Op.equalIn (9999+1) t a (.pointer none)) (Op.equalIn (9999+1) t a' b') _
  unfold Op.equalIn
  refine SimR.bind' (SimR.underlying t) fun E1 s1 u u' hu=>?_
  obtain ⟨rfl,hu⟩:=hu
  rw [he] at hu
  cases hu
  cases hb
  cases ha<;>first|exact .stuck _|exact .pure rfl
 ·show SimR C ok E (Op.equalIn (9999+1) t a (.slice none 0 0)) (Op.equalIn (9999+1) t a' b') _
  unfold Op.equalIn
  refine SimR.bind' (SimR.underlying t) fun E1 s1 u u' hu=>?_
  obtain ⟨rfl,hu⟩:=hu
  rw [he] at hu
  cases hu
  cases hb
  cases ha<;>first|exact .stuck _|exact .pure rfl
end
end Go.Sim
