/- PROVED HERE: laws. Conditions: none. -/
import Derived.Test.YtlcbehhbfglgaaaGreatF07
set_option linter.all false
namespace Go.Sim
section
variable {C:Cx} {ok:FuncId->Code->Prop} {E:J5}
theorem J3.loadAt (t:TypeId) {x x':Value} (hx:VR C E x x'):J3 C ok E (Instr.loadAt t x) (Instr.loadAt t x') (VR C):=by unfold Instr.loadAt;exact J3.bind' (J3.sureAddr hx) fun E1 s1 a a' ha=>J3.loadVar t ha
theorem J3.storeAt (t:TypeId) {x x' v v':Value} (hx:VR C E x x') (hv:VR C E v v'):J3 C ok E (Instr.storeAt t x v) (Instr.storeAt t x' v') (fun _ _ _=>True):=by unfold Instr.storeAt;exact J3.bind' (J3.sureAddr hx) fun E1 s1 a a' ha=>J3.storeVar t ha (hv.mono s1)
theorem J3.partAt {a a':Addr} (h:Jd E a a') (x y:Nat):J3 C ok E (Go.partAt a x y) (Go.partAt a' x y) (fun E1 b b'=>Jd E1 b b'):=by
 unfold Go.partAt;refine J3.bind' (J3.byteOf h) fun E1 s1 n n' hn=>?_;obtain rfl:n=n':=hn
 dsimp only
 have h1:Jd E1 { block:=a.block,off:=a.off+x } { block:=a'.block,off:=a'.off+x }:=⟨s1 _ _ h.block,by show a.off+x=a'.off+x;rw [h.off],rfl⟩;refine J3.bind' (J3.byteOf h1) fun E2 s2 n n' hn=>?_;obtain rfl:n=n':=hn;refine .pure ?_;split
 ·exact h1.mono s2
 ·exact ⟨(h1.mono s2).block,h1.off,rfl⟩
theorem J3.fieldPlace {a a':Addr} (h:Jd E a a') (f:Field):J3 C ok E (Go.fieldPlace a f) (Go.fieldPlace a' f) (fun E1 b b'=>Jd E1 b b'):=by
 unfold Go.fieldPlace;refine J3.bind' (J3.sizeOf f.type) fun E1 s1 n n' hn=>?_;obtain rfl:n=n':=hn;split
 ·exact J3.partAt (h.mono s1) _ _
 ·exact .pure ((h.mono s1).add _)
theorem J3.fieldAt (t:TypeId) {x x':Value} (hx:VR C E x x') (n:Nat):J3 C ok E (Instr.fieldAt t x n) (Instr.fieldAt t x' n) (VR C):=by
 unfold Instr.fieldAt;refine J3.bind' (J3.underlying t) fun E1 s1 u u' hu=>?_;obtain ⟨rfl,hu⟩:=hu;cases u with
 | struct fs=>
  dsimp only
  cases hf:fs[n]? with
  | none=>exact .stuck _
  | some f=>
   refine J3.bind' (J3.sureAddr (hx.mono s1)) fun E2 s2 a a' ha=>?_;exact J3.bind' (J3.fieldPlace ha f) fun E3 s3 b b' hb=>.pure (.J3w hb)
 | _=>exact .stuck _
theorem J3.indexAt (hh:Hnd C E) (t:TypeId) {x x' i i':Value} (hx:VR C E x x') (hi:VR C E i i'):J3 C ok E (Instr.indexAt t x i) (Instr.indexAt t x' i') (VR C):=by
 unfold Instr.indexAt;refine J3.bind' (J3.asIntOf hi) fun E1 s1 k k' hk=>?_;obtain rfl:k=k':=hk;obtain ⟨k,n⟩:=k
 dsimp only
 refine J3.bind' (J3.underlying t) fun E2 s2 u u' hu=>?_;obtain ⟨rfl,hu⟩:=hu;have hx2:=(hx.mono s1).mono s2;have hh2:=(hh.mono s1).mono s2;have fin:∀ E3,Sub E2 E3->∀ (base base':Option Addr) (len:Nat) (elem:TypeId),J0m (Jd E3) base base'->J3 C ok E3
   (do
    let __do_lift <- Go.underlying t
    match base with
    | some a=>
     if 0<=n/\n<(len:Int) then do
      let __do_lift <- Go.sizeOf elem
      Pure.pure (Value.pointer (some (a.add (n.toNat*__do_lift))))
     else if (decide (len<=1) && match __do_lift with | .array ..=>true|_=>false)=true then Go.unsupported (.noEntry "op/indexAddr.an index out of range at an array of length 0 or 1 (ledger 616)")
     else Go.boundsPanic k n len .index
    | none=>Go.boundsPanic k n 0 .index)
   (do
    let __do_lift <- Go.underlying t
    match base' with
    | some a=>
     if 0<=n/\n<(len:Int) then do
      let __do_lift <- Go.sizeOf elem
      Pure.pure (Value.pointer (some (a.add (n.toNat*__do_lift))))
     else if (decide (len<=1) && match __do_lift with | .array ..=>true|_=>false)=true then Go.unsupported (.noEntry "op/indexAddr.an index out of range at an array of length 0 or 1 (ledger 616)")
     else Go.boundsPanic k n len .index
    | none=>Go.boundsPanic k n 0 .index) (VR C):=by
  intro E3 s3 base base' len elem hb;refine J3.bind' (J3.underlying t) fun E4 s4 v v' hv=>?_;obtain ⟨rfl,_⟩:=hv;cases base with
  | none=>cases base' with
   | none=>exact J3.boundsPanic ((hh2.mono s3).mono s4) _ _ _ _
   | some _=>exact hb.elim
  | some a=>cases base' with
   | none=>exact hb.elim
   | some a'=>
    dsimp only
    split
    ·refine J3.bind' (J3.sizeOf elem) fun E5 s5 z z' hz=>?_;obtain rfl:z=z':=hz;exact .pure (.J3w (((Jd.mono s4 hb).mono s5).add _))
    ·split<;>(try split)<;>first|exact .unsupported _|exact J3.boundsPanic ((hh2.mono s3).mono s4) _ _ _ _
 cases u with
 | array len elem=>
  refine J3.bind' (J3.sureAddr hx2) fun E3 s3 a a' ha=>?_;exact J3.bind' (R:=fun E (p p':Option Addr × Nat × TypeId)=>J0m (Jd E) p.1 p'.1/\p.2=p'.2) (.pure ⟨ha,rfl⟩) fun E4 s4 p p' hp=>by
   obtain ⟨b,l,e⟩:=p;obtain ⟨b',l',e'⟩:=p';obtain ⟨h1,h2⟩:=hp;cases h2;exact fin _ (s3.trans s4) _ _ _ _ h1
 | slice elem=>
  cases hx2 with
  | Jo l c=>
   exact J3.bind' (R:=fun E (p p':Option Addr × Nat × TypeId)=>J0m (Jd E) p.1 p'.1/\p.2=p'.2) (.pure ⟨trivial,rfl⟩) fun E4 s4 p p' hp=>by
    obtain ⟨b,l,e⟩:=p;obtain ⟨b',l',e'⟩:=p';obtain ⟨h1,h2⟩:=hp;cases h2;exact fin _ s4 _ _ _ _ h1
  | slice o s l c h=>
   exact J3.bind' (R:=fun E (p p':Option Addr × Nat × TypeId)=>J0m (Jd E) p.1 p'.1/\p.2=p'.2) (.pure ⟨⟨h,rfl,rfl⟩,rfl⟩) fun E4 s4 p p' hp=>by
    obtain ⟨b,l,e⟩:=p;obtain ⟨b',l',e'⟩:=p';obtain ⟨h1,h2⟩:=hp;cases h2;exact fin _ s4 _ _ _ _ h1
  | _=>exact .Jf fun w=>⟨_,w,rfl,by simp⟩
 | _=>exact .Jf fun w=>⟨_,w,rfl,by simp⟩
theorem J3.sliceBound (hh:Hnd C E) {x x':Value} (hx:VR C E x x') (y:Nat) (c:BoundsCode):J3 C ok E (Instr.sliceBound x y c) (Instr.sliceBound x' y c) (fun _ n n'=>n=n'):=by
 unfold Instr.sliceBound;refine J3.bind' (J3.asIntOf hx) fun E1 s1 k k' hk=>?_;obtain rfl:k=k':=hk;obtain ⟨k,n⟩:=k
 dsimp only
 split
 ·exact .pure rfl
 ·exact J3.boundsPanic (hh.mono s1) _ _ _ _
theorem J3.sliceBounds (hh:Hnd C E) (b:Bool) (len cap:Nat) {lo lo' hi hi' mx mx':Option Value} (h1:J0m (VR C E) lo lo') (h2:J0m (VR C E) hi hi') (h3:J0m (VR C E) mx mx') :
  J3 C ok E (Instr.sliceBounds b len cap lo hi mx) (Instr.sliceBounds b len cap lo' hi' mx') (fun _ n n'=>n=n'):=by
 have fin:∀ E1,Sub E E1->∀ (m h:Nat) (sm:Bool),J3 C ok E1
   (match lo with
    | some v=>(do let l <- Instr.sliceBound v h (if sm then .slice3C else .sliceB);Pure.pure (l,h,m):Sem (Nat × Nat × Nat))
    | none=>(do let l <- Pure.pure 0;Pure.pure (l,h,m)))
   (match lo' with
    | some v=>(do let l <- Instr.sliceBound v h (if sm then .slice3C else .sliceB);Pure.pure (l,h,m):Sem (Nat × Nat × Nat))
    | none=>(do let l <- Pure.pure 0;Pure.pure (l,h,m))) (fun _ n n'=>n=n'):=by
  intro E1 s1 m h sm;cases lo with
  | none=>cases lo' with
   | none=>exact J3.bind' (R:=fun _ n n'=>n=n') (.pure rfl) fun _ _ n n' hn=>by subst hn;exact .pure rfl
   | some _=>exact h1.elim
  | some v=>cases lo' with
   | none=>exact h1.elim
   | some v'=>exact J3.bind' (J3.sliceBound (hh.mono s1) (VR.mono s1 h1) h _) fun _ _ n n' hn=>by subst hn;exact .pure rfl
 unfold Instr.sliceBounds;cases mx with
 | none=>cases mx' with
  | some _=>exact h3.elim
  | none=>
   refine J3.bind' (R:=fun _ n n'=>n=n') (.pure rfl) fun E1 s1 m m' hm=>?_;obtain rfl:m=m':=hm;cases hi with
   | none=>cases hi' with
    | some _=>exact h2.elim
    | none=>
     refine J3.bind' (R:=fun _ n n'=>n=n') (.pure rfl) fun E2 s2 h h' hh'=>?_;obtain rfl:h=h':=hh';exact fin _ (s1.trans s2) m h false
   | some v=>cases hi' with
    | none=>exact h2.elim
    | some v'=>
     refine J3.bind' (J3.sliceBound (hh.mono s1) (VR.mono s1 h2) m _) fun E2 s2 h h' hh'=>?_;obtain rfl:h=h':=hh';exact fin _ (s1.trans s2) m h false
 | some mv=>cases mx' with
  | none=>exact h3.elim
  | some mv'=>
   refine J3.bind' (J3.sliceBound hh h3 cap _) fun E1 s1 m m' hm=>?_;obtain rfl:m=m':=hm;cases hi with
   | none=>cases hi' with
    | some _=>exact h2.elim
    | none=>exact .Jf fun w=>⟨_,w,rfl,by simp⟩
   | some v=>cases hi' with
    | none=>exact h2.elim
    | some v'=>
     refine J3.bind' (J3.sliceBound (hh.mono s1) (VR.mono s1 h2) m _) fun E2 s2 h h' hh'=>?_;obtain rfl:h=h':=hh';exact fin _ (s1.trans s2) m h true
theorem J0m.J29 {E1:J5} (s:Sub E E1) {a b:Option Value} (h:J0m (VR C E) a b):J0m (VR C E1) a b:=h.mono' fun _ _=>VR.mono s
theorem J3.slice (hh:Hnd C E) (t:TypeId) {x x':Value} (hx:VR C E x x') {lo lo' hi hi' mx mx':Option Value} (h1:J0m (VR C E) lo lo') (h2:J0m (VR C E) hi hi') (h3:J0m (VR C E) mx mx') :
  J3 C ok E (Instr.slice t x lo hi mx) (Instr.slice t x' lo' hi' mx') (VR C):=by
 unfold Instr.slice;refine J3.bind' (J3.underlying t) fun E1 s1 u u' hu=>?_;obtain ⟨rfl,hu⟩:=hu;have hx1:=hx.mono s1;have hh1:=hh.mono s1;have g1:=h1.J29 s1;have g2:=h2.J29 s1;have g3:=h3.J29 s1;cases u with
 | string=>
  cases hx1 with
  | string s=>
   cases mx with
   | some _=>exact .Jf fun w=>⟨_,w,rfl,by simp⟩
   | none=>cases mx' with
    | some _=>exact h3.elim
    | none=>
     refine J3.bind' (J3.sliceBounds hh1 false s.size s.size g1 g2 (mx:=none) (mx':=none) trivial) fun E2 s2 p p' hp=>?_;obtain rfl:p=p':=hp;exact .pure (.string _)
  | _=>exact .Jf fun w=>⟨_,w,rfl,by simp⟩
 | slice e=>
  cases hx1 with
  | Jo l c=>
   refine J3.bind' (J3.sliceBounds hh1 true l c g1 g2 g3) fun E2 s2 p p' hp=>?_;obtain rfl:p=p':=hp;obtain ⟨l,h,m⟩:=p;refine J3.bind' (J3.sizeOf e) fun E3 s3 z z' hz=>?_;obtain rfl:z=z':=hz;refine .pure ?_;split<;>exact .Jo _ _
  | slice o s l c h=>
   refine J3.bind' (J3.sliceBounds hh1 true l c g1 g2 g3) fun E2 s2 p p' hp=>?_;obtain rfl:p=p':=hp;obtain ⟨l,h',m⟩:=p;refine J3.bind' (J3.sizeOf e) fun E3 s3 z z' hz=>?_;obtain rfl:z=z':=hz;refine .pure ?_;have ha:Jd E3 ⟨_,o,s⟩ ⟨_,o,s⟩:=⟨s3 _ _ (s2 _ _ h),rfl,rfl⟩;split
   ·exact .of_slice ha _ _
   ·exact .of_slice (ha.add _) _ _
  | _=>exact .Jf fun w=>⟨_,w,rfl,by simp⟩
 | pointer e=>
  have fin:∀ (E1:J5),Hnd C E1->∀ {x x':Value},VR C E1 x x'->J0m (VR C E1) lo lo'->J0m (VR C E1) hi hi'->J0m (VR C E1) mx mx'->J3 C ok E1
    (do
     let a <- Go.asAddr x
     match <- Go.underlying e with
     | .array n elem=>do
      let x <- Instr.sliceBounds false n n lo hi mx
      match x with
      | (l,h,m)=>do
       let size <- Go.sizeOf elem
       Pure.pure (Value.slice (some (if m=l then a else a.add (l*size))) (h-l) (m-l))
     | _=>Go.stuck "Slice: array type expected")
    (do
     let a <- Go.asAddr x'
     match <- Go.underlying e with
     | .array n elem=>do
      let x <- Instr.sliceBounds false n n lo' hi' mx'
      match x with
      | (l,h,m)=>do
       let size <- Go.sizeOf elem
       Pure.pure (Value.slice (some (if m=l then a else a.add (l*size))) (h-l) (m-l))
     | _=>Go.stuck "Slice: array type expected") (VR C):=by
   intro E1 hh1 x x' hx1 g1 g2 g3;refine J3.bind' (J3.asAddr hh1 hx1) fun E2 s2 a a' ha=>?_;refine J3.bind' (J3.underlying e) fun E3 s3 u u' hu=>?_;obtain ⟨rfl,_⟩:=hu;cases u with
   | array n elem=>
    refine J3.bind' (J3.sliceBounds ((hh1.mono s2).mono s3) false n n ((g1.J29 s2).J29 s3) ((g2.J29 s2).J29 s3) ((g3.J29 s2).J29 s3)) fun E4 s4 p p' hp=>?_;obtain rfl:p=p':=hp;obtain ⟨l,h',m⟩:=p;refine J3.bind' (J3.sizeOf elem) fun E5 s5 z z' hz=>?_;obtain rfl:z=z':=hz;refine .pure ?_;have ha:=((ha.mono s3).mono s4).mono s5;split
    ·exact .of_slice ha _ _
    ·exact .of_slice (ha.add _) _ _
   | _=>exact .stuck _
  have:=fin E1 hh1 hx1 g1 g2 g3;cases hx1<;>exact this
 | _=>cases hx1<;>exact .Jf fun w=>⟨_,w,rfl,by simp⟩
theorem J3.sliceAt (hh:Hnd C E) (t:TypeId) {x x':Value} (hx:VR C E x x') {lo lo' hi hi' mx mx':Option Value} (h1:J0m (VR C E) lo lo') (h2:J0m (VR C E) hi hi') (h3:J0m (VR C E) mx mx') :
  J3 C ok E (Instr.sliceAt t x lo hi mx) (Instr.sliceAt t x' lo' hi' mx') (VR C):=by
 unfold Instr.sliceAt;refine J3.bind' (J3.underlying t) fun E1 s1 u u' hu=>?_;obtain ⟨rfl,hu⟩:=hu;cases u with
 | array n elem=>
  refine J3.bind' (J3.sureAddr (hx.mono s1)) fun E2 s2 a a' ha=>?_;refine J3.bind' (J3.sliceBounds ((hh.mono s1).mono s2) false n n ((h1.J29 s1).J29 s2) ((h2.J29 s1).J29 s2) ((h3.J29 s1).J29 s2)) fun E4 s4 p p' hp=>?_;obtain rfl:p=p':=hp;obtain ⟨l,h',m⟩:=p;refine J3.bind' (J3.sizeOf elem) fun E5 s5 z z' hz=>?_;obtain rfl:z=z':=hz;refine .pure ?_;have ha:=(ha.mono s4).mono s5;split
  ·exact .of_slice ha _ _
  ·exact .of_slice (ha.add _) _ _
 | _=>exact J3.slice (hh.mono s1) t (hx.mono s1) (h1.J29 s1) (h2.J29 s1) (h3.J29 s1)
end
section
variable {C:Cx} {ok:FuncId->Code->Prop} {E:J5}
theorem J3.field (t:TypeId) {x x':Value} (hx:VR C E x x') (n:Nat):J3 C ok E (Instr.field t x n) (Instr.field t x' n) (VR C):=by
 unfold Instr.field;refine J3.bind' (J3.underlying t) fun E1 s1 u u' hu=>?_;obtain ⟨rfl,hu⟩:=hu;cases u with
 | struct fs=>
  dsimp only
  cases hf:fs[n]? with
  | none=>exact .stuck _
  | some f=>exact J3.bind' (J3.asAgg (hx.mono s1)) fun E2 s2 a a' ha=>J3.part f.type ha _
 | _=>exact .stuck _
theorem J3.index (hh:Hnd C E) (t:TypeId) {x x' i i':Value} (hx:VR C E x x') (hi:VR C E i i'):J3 C ok E (Instr.index t x i) (Instr.index t x' i') (VR C):=by
 unfold Instr.index;refine J3.bind' (J3.asIntOf hi) fun E1 s1 k k' hk=>?_;obtain rfl:k=k':=hk;obtain ⟨k,n⟩:=k
 dsimp only
 refine J3.bind' (J3.underlying t) fun E2 s2 u u' hu=>?_;obtain ⟨rfl,hu⟩:=hu;have hx2:=(hx.mono s1).mono s2;have hh2:=(hh.mono s1).mono s2;cases u with
 | array len elem=>
  cases hx2 with
  | agg ha hxa=>
   dsimp only
   split
   ·refine J3.bind' (J3.sizeOf elem) fun E3 s3 z z' hz=>?_;obtain rfl:z=z':=hz;exact J3.part elem (AR.mono s3 ⟨ha,hxa⟩) _
   ·exact J3.boundsPanic hh2 _ _ _ _
  | _=>exact .Jf fun w=>⟨_,w,rfl,by simp⟩
 | string=>
  cases hx2 with
  | string s=>
   dsimp only
   split
   ·exact .pure (.int _ _)
   ·exact J3.boundsPanic hh2 _ _ _ _
  | _=>exact .Jf fun w=>⟨_,w,rfl,by simp⟩
 | _=>exact .Jf fun w=>⟨_,w,rfl,by simp⟩
theorem J3.extract {x x':Value} (hx:VR C E x x') (n:Nat):J3 C ok E (Instr.extract x n) (Instr.extract x' n) (VR C):=by
 unfold Instr.extract;cases hx with
 | tuple ha hxa=>
  rename_i a a';have h:AR C E a a':=⟨ha,hxa⟩
  dsimp only
  cases e:a[n]? with
  | none=>exact .stuck _
  | some v=>obtain ⟨v',hv',hr⟩:=h.J04 e;rw [hv'];exact .pure hr
 | _=>exact .stuck _
theorem J3.makeInterface (t:TypeId) (ht:C.J2k t=true) {x x':Value} (hx:VR C E x x'):J3 C ok E (Instr.makeInterface t x) (Instr.makeInterface t x') (VR C):=by
 unfold Instr.makeInterface;refine J3.bind' (J3.underlying t) fun E1 s1 u u' hu=>?_;obtain ⟨rfl,hu⟩:=hu;cases u<;>first|exact .stuck _|exact .pure (.iface t ht (hx.mono s1))
theorem J3.makeFunc {fn:Fn} (hf:FnR C E fn fn) {a a' c c':Array Value} (ha:AR C E a a') (hc:AR C E c c') (hz:a.size+c.size<=3):J3 C ok E (Instr.makeFunc fn a c) (Instr.makeFunc fn a' c') (VR C):=
 .pure (.func hf ha.size ha.at_ ⟨hc.size,hz⟩ hc.at_)
theorem J3.typeAssert (K:J4y C) (hh:Hnd C E) {x x':Value} (hx:VR C E x x') (xt t:TypeId) (cok:Bool):J3 C ok E (Instr.typeAssert x xt t cok) (Instr.typeAssert x' xt t cok) (VR C):=by
 have holds:∀ (E:J5) {v v':Value},VR C E v v'->J3 C ok E (Pure.pure (if cok then Value.tuple #[v,.bool true] else v)) (Pure.pure (if cok then Value.tuple #[v',.bool true] else v')) (VR C):=fun E v v' h=>by
  refine .pure ?_;cases cok with
  | true=>exact .J3f (LR.toArray (l:=[_,_]) (l':=[_,_]) (.cons h (.cons (.bool true) .nil)))
  | false=>exact h
 have fails:∀ (E:J5),Hnd C E->∀ (st dy:Option TypeId) (m:String),J3 C ok E (if cok then (do Pure.pure (Value.tuple #[<- Go.zeroValue t,.bool false])) else Go.runtimePanic (.typeAssertion st dy t m)) (if cok then (do Pure.pure (Value.tuple #[<- Go.zeroValue t,.bool false])) else Go.runtimePanic (.typeAssertion st dy t m)) (VR C):=fun E hh st dy m=>by
  cases cok with
  | true=>exact J3.bind' (J3.zeroValue K t) fun E1 s1 v v' hv=>.pure (.J3f (LR.toArray (l:=[_,_]) (l':=[_,_]) (.cons hv (.cons (.bool false) .nil))))
  | false=>simp only [Jc1,if_false];exact J3.runtimePanic hh _
 unfold Instr.typeAssert;refine J3.bind' (J3.underlying t) fun E1 s1 u u' hu=>?_;obtain ⟨rfl,hu⟩:=hu;have hx1:=hx.mono s1;have hh1:=hh.mono s1;cases u with
 | interface want=>
  cases hx1 with
  | nilIface=>exact fails E1 hh1 _ _ _
  | iface ty ht h=>
   refine J3.bind' (J3.typeInfo _) fun E2 s2 i i' hi=>?_;obtain ⟨rfl,_⟩:=hi
   dsimp only
   split
   ·exact holds _ (.iface ty ht (h.mono s2))
   ·exact fails _ (hh1.mono s2) _ _ _
  | _=>exact .stuck _
 | _=>
  cases hx1<;>first
   | exact .stuck _
   | exact fails E1 hh1 _ _ _
   | (dsimp only;split;(exact holds _ (by assumption));(exact fails E1 hh1 _ _ _))
theorem J3.makeSlice (K:J4y C) (hh:Hnd C E) (t:TypeId) {x x' y y':Value} (hx:VR C E x x') (hy:VR C E y y'):J3 C ok E (Instr.makeSlice t x y) (Instr.makeSlice t x' y') (VR C):=by
 unfold Instr.makeSlice;refine J3.bind' (J3.underlying t) fun E1 s1 u u' hu=>?_;obtain ⟨rfl,hu⟩:=hu;cases u with
 | slice e=>
  dsimp only
  refine J3.bind' (J3.asInt (hx.mono s1)) fun E2 s2 n n' hn=>?_;obtain rfl:n=n':=hn;refine J3.bind' (J3.asInt ((hy.mono s1).mono s2)) fun E3 s3 c c' hc=>?_;obtain rfl:c=c':=hc;refine J3.bind' (J3.typeInfo e) fun E4 s4 i i' hi=>?_;obtain ⟨rfl,_⟩:=hi;have hh4:=(((hh.mono s1).mono s2).mono s3).mono s4;have rest:∀ E5,Sub E4 E5->J3 C ok E5
    (do
     Go.askRoom ((IntKind.i64.wrap c).toNat*i.bytes)
     let __do_lift <- Go.sizeOf e
     if (IntKind.i64.wrap c).toNat*__do_lift=0 then do
      let zero <- Pure.pure #[]
      let a <- Go.newRow e ((Array.range ((IntKind.i64.wrap c).toNat*__do_lift)).map (zero[· % zero.size]!))
      Pure.pure (Value.slice (some a) (IntKind.i64.wrap n).toNat (IntKind.i64.wrap c).toNat)
     else do
      let z <- Go.zeroValue e
      let zero <- Pure.pure z.cells
      let a <- Go.newRow e ((Array.range ((IntKind.i64.wrap c).toNat*__do_lift)).map (zero[· % zero.size]!))
      Pure.pure (Value.slice (some a) (IntKind.i64.wrap n).toNat (IntKind.i64.wrap c).toNat))
    (do
     Go.askRoom ((IntKind.i64.wrap c).toNat*i.bytes)
     let __do_lift <- Go.sizeOf e
     if (IntKind.i64.wrap c).toNat*__do_lift=0 then do
      let zero <- Pure.pure #[]
      let a <- Go.newRow e ((Array.range ((IntKind.i64.wrap c).toNat*__do_lift)).map (zero[· % zero.size]!))
      Pure.pure (Value.slice (some a) (IntKind.i64.wrap n).toNat (IntKind.i64.wrap c).toNat)
     else do
      let z <- Go.zeroValue e
      let zero <- Pure.pure z.cells
      let a <- Go.newRow e ((Array.range ((IntKind.i64.wrap c).toNat*__do_lift)).map (zero[· % zero.size]!))
      Pure.pure (Value.slice (some a) (IntKind.i64.wrap n).toNat (IntKind.i64.wrap c).toNat)) (VR C):=by
   intro E5 s5;refine J3.bind' (R:=fun _ _ _=>True) ?_ fun E6 s6 _ _ _=>?_
   ·unfold Go.askRoom;split
    ·exact J3.mark trivial trivial
    ·exact .pure trivial
   refine J3.bind' (J3.sizeOf e) fun E7 s7 z z' hz=>?_;obtain rfl:z=z':=hz;have hh7:=((hh4.mono s5).mono s6).mono s7;split
   ·refine J3.bind' (R:=AR C) (.pure .nil) fun E8 s8 z z' hz=>?_;exact J3.bind' (J3.newRow (hh7.mono s8) e (rangeMap hz _)) fun E9 s9 a a' ha=>.pure (.of_slice ha.1 _ _)
   ·refine J3.bind' (J3.zeroValue K e) fun E8 s8 z z' hz=>?_;refine J3.bind' (R:=AR C) (.pure (AR.cells hz)) fun E9 s9 z z' hz=>?_;exact J3.bind' (J3.newRow ((hh7.mono s8).mono s9) e (rangeMap hz _)) fun E9 s9 a a' ha=>.pure (.of_slice ha.1 _ _)
  split
  ·split
   ·exact J3.bind' (R:=fun _ _ _=>True) (J3.runtimePanic hh4 _) fun E5 s5 _ _ _=>rest E5 s5
   ·split
    ·exact J3.bind' (R:=fun _ _ _=>True) (J3.runtimePanic hh4 _) fun E5 s5 _ _ _=>rest E5 s5
    ·refine J3.bind' (J3.choose _) fun E5 s5 z z' hz=>?_;obtain rfl:z=z':=hz;exact J3.bind' (R:=fun _ _ _=>True) (J3.runtimePanic (hh4.mono s5) _) fun E6 s6 _ _ _=>rest E6 (s5.trans s6)
  ·exact rest E4 (.refl _)
 | _=>exact .stuck _
theorem J3.intArith (op:BinOp) (k:IntKind) (x y:Int):J3 C ok E (Op.intArith op k x y) (Op.intArith op k x y) (VR C):=by
 unfold Op.intArith;split<;>first|exact .pure (.int _ _)|exact .stuck _
theorem J3.intDiv (hh:Hnd C E) (op:BinOp) (k:IntKind) (x y:Int):J3 C ok E (Op.intDiv op k x y) (Op.intDiv op k x y) (VR C):=by
 unfold Op.intDiv;split
 ·exact J3.runtimePanic hh _
 ·split<;>first|exact .pure (.int _ _)|exact .stuck _
theorem J3.intBits (op:BinOp) (k:IntKind) (x y:Int):J3 C ok E (Op.intBits op k x y) (Op.intBits op k x y) (VR C):=by
 unfold Op.intBits
 dsimp only
 split<;>first|exact .pure (.int _ _)|exact .stuck _
theorem J3.intCmp (op:BinOp) (x y:Int):J3 C ok E (Op.intCmp op x y) (Op.intCmp op x y) (VR C):=by
 unfold Op.intCmp;split<;>first|exact .pure (.bool _)|exact .stuck _
theorem J3.shift (hh:Hnd C E) (op:BinOp) (k:IntKind) (x:Int) (k':IntKind) (y:Int):J3 C ok E (Op.shift op k x k' y) (Op.shift op k x k' y) (VR C):=by
 unfold Op.shift;split
 ·exact J3.runtimePanic hh _
 ·dsimp only
  split<;>first|exact .pure (.int _ _)|exact .stuck _
theorem J3.stringOp (op:BinOp) (x y:ByteArray):J3 C ok E (Op.stringOp op x y) (Op.stringOp op x y) (VR C):=by
 unfold Op.stringOp
 dsimp only
 split<;>first|exact .pure (.bool _)|exact .stuck _|skip
 split<;>first|exact .unsupported _|exact .pure (.string _)
theorem J3.unary (op:UnOp) {x x':Value} (hx:VR C E x x'):J3 C ok E (Op.unary op x) (Op.unary op x') (VR C):=by
 unfold Op.unary;cases op<;>cases hx<;>first
  | exact .stuck _
  | exact .unsupported _
  | exact .pure (.bool _)
  | exact J3.intArith _ _ _ _
  | exact J3.intBits _ _ _ _
end
section
variable {C:Cx} {ok:FuncId->Code->Prop} {E:J5}
theorem J3.eqGuardIn:∀ (d:Nat) (t:TypeId) (E:J5) {x x' y y':Value},VR C E x x'->VR C E y y' ->
  J3 C ok E (Op.eqGuardIn d t x y) (Op.eqGuardIn d t x' y') (fun _ r r'=>r=r')
 | 0,_,_,_,_,_,_,_,_=>.unsupported _
 | d+1,t,E,x,x',y,y',hx,hy=>by
  unfold Op.eqGuardIn;refine J3.bind' (J3.underlying t) fun E1 s1 u u' hu=>?_;obtain ⟨rfl,hu⟩:=hu;have hx:=hx.mono s1;have hy:=hy.mono s1;cases u with
  | interface ms=>cases hx<;>first|exact .pure rfl|(cases hy<;>exact .pure rfl)
  | struct fs=>
   cases hx with
   | agg ha hxa=>
    cases hy with
    | agg hb hxb=>
     rename_i a a' b b';have ra:AR C E1 a a':=⟨ha,hxa⟩;have rb:AR C E1 b b':=⟨hb,hxb⟩
     dsimp only
     refine J3.bind' (R:=fun _ z z'=>z=z') ?_ fun E3 s3 z z' hz=>?_
     ·rw [<- Array.forIn_toList,<- Array.forIn_toList];refine J3.J3i (fun _ _ _ _ _ h=>h) _ _ _ _ (fun f _ E3 s3 q q' hq=>?_) rfl;obtain rfl:q=q':=hq;split
      ·refine J3.bind' (J3.part f.type (ra.mono s3) _) fun E4 s4 v v' hv=>?_;refine J3.bind' (J3.part f.type ((rb.mono s3).mono s4) _) fun E5 s5 u u' hu=>?_;refine J3.bind' (J3.eqGuardIn d _ _ (hv.mono s5) hu) fun E6 s6 z z' hz=>?_;obtain rfl:z=z':=hz;split
       ·exact .pure (.done rfl)
       ·exact .pure (.yield rfl)
      ·exact .pure (.yield rfl)
     ·obtain rfl:z=z':=hz;split<;>exact .pure rfl
    | _=>exact .pure rfl
   | _=>exact .pure rfl
  | array len e=>
   cases hx with
   | agg ha hxa=>
    cases hy with
    | agg hb hxb=>
     rename_i a a' b b';have ra:AR C E1 a a':=⟨ha,hxa⟩;have rb:AR C E1 b b':=⟨hb,hxb⟩
     dsimp only
     refine J3.bind' (J3.sizeOf e) fun E2 s2 z z' hz=>?_;obtain rfl:z=z':=hz;refine J3.bind' (R:=fun _ z z'=>z=z') ?_ fun E3 s3 z z' hz=>?_
     ·simp only [Std.Legacy.Range.forIn_eq_forIn_range'];refine J3.J3i (fun _ _ _ _ _ h=>h) _ _ _ _ (fun i _ E3 s3 q q' hq=>?_) rfl;obtain rfl:q=q':=hq;refine J3.bind' (J3.part e ((ra.mono s2).mono s3) _) fun E4 s4 v v' hv=>?_;refine J3.bind' (J3.part e (((rb.mono s2).mono s3).mono s4) _) fun E5 s5 u u' hu=>?_;refine J3.bind' (J3.eqGuardIn d _ _ (hv.mono s5) hu) fun E6 s6 z z' hz=>?_;obtain rfl:z=z':=hz;split
      ·exact .pure (.done rfl)
      ·exact .pure (.yield rfl)
     ·obtain rfl:z=z':=hz;split<;>exact .pure rfl
    | _=>exact .pure rfl
   | _=>exact .pure rfl
  | _=>cases hx<;>first|exact .pure rfl|(cases hy<;>exact .pure rfl)
theorem J3.eqGuard (op:BinOp) (t:TypeId) (x y:Operand) {a a' b b':Value} (ha:VR C E a a') (hb:VR C E b b') :
  J3 C ok E (Go.eqGuard op t x y a b) (Go.eqGuard op t x y a' b') (fun _ _ _=>True):=by
 unfold Go.eqGuard;have pt:∀ (E:J5),J3 C ok E (Pure.pure ():Sem Unit) (Pure.pure ():Sem Unit) (fun _ _ _=>True):=fun E=>.pure trivial;cases op<;>first|exact pt E|skip
 all_goals
  simp only [Bool.not_true,Jc1,if_false];cases ha with
  | nilIface=>
   cases hb with
   | nilIface=>
    have fin:∀ E:J5,J3 C ok E (do if <- Op.eqGuardIn Op.maxDepth t .nilIface .nilIface then Go.unsupported (.noEntry "binop/eql: two nil values of an interface type with methods, neither of them the literal nil"):Sem Unit) (do if <- Op.eqGuardIn Op.maxDepth t .nilIface .nilIface then Go.unsupported (.noEntry "binop/eql: two nil values of an interface type with methods, neither of them the literal nil"):Sem Unit) (fun _ _ _=>True):=fun E=>by
     refine J3.bind' (J3.eqGuardIn _ t _ .nilIface .nilIface) fun E1 s1 z z' hz=>?_;obtain rfl:z=z':=hz;split
     ·exact .unsupported _
     ·exact pt _
    cases x<;>cases y<;>first|exact pt _|exact fin _
   | _=>exact pt _
  | agg h1 h2=>
   cases hb with
   | agg h3 h4=>
    refine J3.bind' (R:=fun _ p p'=>p=C.P/\p'=C.P) (.program ⟨rfl,rfl⟩) fun E1 s1 p p' hp=>?_;obtain ⟨rfl,rfl⟩:=hp;refine J3.bind' (R:=fun _ p p'=>p=C.P/\p'=C.P) (.program ⟨rfl,rfl⟩) fun E2 s2 p p' hp=>?_;obtain ⟨rfl,rfl⟩:=hp;split
    ·exact pt _
    ·refine J3.bind' (J3.eqGuardIn _ t _ ((VR.agg h1 h2).mono (s1.trans s2)) ((VR.agg h3 h4).mono (s1.trans s2))) fun E1 s1 z z' hz=>?_;obtain rfl:z=z':=hz;split
     ·exact .unsupported _
     ·exact pt _
   | _=>exact pt _
  | _=>cases hb<;>exact pt _
def Jic (C:Cx) (t:TypeId) (b:Value):Prop:=
 C.st=false\/(∃ n,J28 C.P n t=true)\/(b=.pointer none/\∃ e,C.P.underlying t=some (.pointer e))\/(b=.slice none 0 0/\∃ e,C.P.underlying t=some (.slice e))
theorem J3.equal (hh:Hnd C E) (t:TypeId) {a a' b b':Value} (ha:VR C E a a') (hb:VR C E b b') (hs:Jic C t b):J3 C ok E (Op.equal t a b) (Op.equal t a' b') (fun _ r r'=>r=r'):=by
 unfold Op.equal;rcases hs with hs|⟨n,hs⟩|⟨rfl,e,he⟩|⟨rfl,e,he⟩
 ·exact J3.equalIn _ t 0 _ hh (.inl hs) ha hb
 ·exact J3.equalIn _ t n _ hh (.inr hs) ha hb
 ·show J3 C ok E (Op.equalIn (9999+1) t a (.pointer none)) (Op.equalIn (9999+1) t a' b') _;unfold Op.equalIn;refine J3.bind' (J3.underlying t) fun E1 s1 u u' hu=>?_;obtain ⟨rfl,hu⟩:=hu;rw [he] at hu;cases hu;cases hb;cases ha<;>first|exact .stuck _|exact .pure rfl
 ·show J3 C ok E (Op.equalIn (9999+1) t a (.slice none 0 0)) (Op.equalIn (9999+1) t a' b') _;unfold Op.equalIn;refine J3.bind' (J3.underlying t) fun E1 s1 u u' hu=>?_;obtain ⟨rfl,hu⟩:=hu;rw [he] at hu;cases hu;cases hb;cases ha<;>first|exact .stuck _|exact .pure rfl
end
section
variable {C:Cx} {ok:FuncId->Code->Prop} {E:J5}
theorem J3.asNumber (hh:Hnd C E) {a a':Addr} (h:Jd E a a') (l:Bool):J3 C ok E (Go.asNumber a l) (Go.asNumber a' l) (VR C):=
 J3.bind' (J3.newObj hh fun b hs=>⟨hs,a',rfl,h⟩) fun E1 s r r' hr=>.pure (.ptr 0 none hr.1)
theorem J3.unsafeAdd (t:TypeId) {a a':Addr} (h:Jd E a a') {y y':Value} (hy:VR C E y y') :
  J3 C ok E (Builtin.unsafeAdd_ #[] t #[.pointer (some a),y]) (Builtin.unsafeAdd_ #[] t #[.pointer (some a'),y']) (VR C):=by
 unfold Builtin.unsafeAdd_;refine J3.bind' (J3.asInt hy) fun E1 s1 n n' hn=>?_;obtain rfl:n=n':=hn
 dsimp only
 split
 ·refine J3.bind' (J3.viewAt (s1 _ _ h.block)) fun E2 s2 x x' hx=>?_;obtain ⟨rfl,rfl⟩:=hx;exact .pure (.J3w ((h.mono s1).mono s2))
 ·split
  ·exact .Jf fun w=>⟨_,w,rfl,by simp⟩
  ·refine J3.bind' (J3.shape (s1 _ _ h.block)) fun E2 s2 x x' hx=>?_;obtain rfl:x=x':=hx;split
   ·refine J3.bind' (R:=fun _ p p'=>p=C.P/\p'=C.P) (.program ⟨rfl,rfl⟩) fun E3 s3 p p' hp'=>?_;obtain ⟨rfl,rfl⟩:=hp';rw [<- h.off];split
    ·exact .pure (.J3w ⟨s3 _ _ (s2 _ _ (s1 _ _ h.block)),rfl,h.spot⟩)
    ·exact .unsupported _
   ·exact .unsupported _
theorem J3.movedNumber (hh:Hnd C E) (t:TypeId) {a a':Addr} (h:Jd E a a') {y y':Value} (hy:VR C E y y') :
  J3 C ok E (Go.movedNumber t (.pointer (some a)) y) (Go.movedNumber t (.pointer (some a')) y') (VR C):=by
 unfold Go.movedNumber;refine J3.bind' (J3.underlying t) fun E1 s1 u u' hu=>?_;obtain ⟨rfl,hu⟩:=hu;have fin:∀ E2,Sub E1 E2->J3 C ok E2 (do
   let x <- Go.behindNumber a
   match x with
   | (a,lost)=>do
    match <- Builtin.unsafeAdd_ #[] t #[.pointer (some a),y] with
    | .pointer (some b)=>Go.asNumber b lost
    | v=>Pure.pure v:Sem Value) (do
   let x <- Go.behindNumber a'
   match x with
   | (a,lost)=>do
    match <- Builtin.unsafeAdd_ #[] t #[.pointer (some a),y'] with
    | .pointer (some b)=>Go.asNumber b lost
    | v=>Pure.pure v:Sem Value) (VR C):=by
  intro E2 s2;refine J3.bind' (J3.behindNumber ((h.mono s1).mono s2)) fun E3 s3 p p' hp=>?_;obtain ⟨p,l⟩:=p;obtain ⟨p',l'⟩:=p';obtain ⟨h1,h2⟩:=hp;obtain rfl:l=l':=h2;refine J3.bind' (J3.unsafeAdd t h1 (((hy.mono s1).mono s2).mono s3)) fun E4 s4 v v' hv=>?_;cases hv with
  | ptr o s k=>exact J3.asNumber ((((hh.mono s1).mono s2).mono s3).mono s4) (a:=⟨_,o,s⟩) (a':=⟨_,o,s⟩) ⟨k,rfl,rfl⟩ _
  | bool b=>exact .pure (.bool b)
  | int k n=>exact .pure (.int k n)
  | string x=>exact .pure (.string x)
  | nilPtr=>exact .pure .nilPtr
  | Jo l c=>exact .pure (.Jo l c)
  | slice o p l c h=>exact .pure (.slice o p l c h)
  | J1n=>exact .pure .J1n
  | map h=>exact .pure (.map h)
  | nilFunc=>exact .pure .nilFunc
  | J23=>exact .pure .J23
  | func h ha hx hc hy=>exact .pure (.func h ha hx hc hy)
  | iface t ht h=>exact .pure (.iface t ht h)
  | nilIface=>exact .pure .nilIface
  | agg ha hx=>exact .pure (.agg ha hx)
  | tuple ha hx=>exact .pure (.tuple ha hx)
 dsimp only
 split
 ·exact .Jf fun w=>⟨_,w,rfl,by simp⟩
 ·exact fin _ (.refl _)
theorem J3.movedPointer (t:TypeId) {a a':Addr} (h:Jd E a a') {y y':Value} (hy:VR C E y y') :
  J3 C ok E (Go.movedPointer t (.pointer (some a)) y) (Go.movedPointer t (.pointer (some a')) y') (VR C):=by
 unfold Go.movedPointer;refine J3.bind' (J3.numberAt h.block) fun E1 s1 x x' hx=>?_;cases x with
 | none=>cases x' with
  | none=>exact J3.unsafeAdd t (h.mono s1) (hy.mono s1)
  | some _=>exact hx.elim
 | some p=>cases x' with
  | none=>exact hx.elim
  | some p'=>exact .Jf fun w=>⟨_,w,rfl,by simp⟩
theorem J3.J9i (t:TypeId) {y y':Value} (hy:VR C E y y') :
  J3 C ok E (Builtin.unsafeAdd_ #[] t #[.pointer none,y]) (Builtin.unsafeAdd_ #[] t #[.pointer none,y']) (VR C):=by
 unfold Builtin.unsafeAdd_;refine J3.bind' (J3.asInt hy) fun E1 s1 n n' hn=>?_;obtain rfl:n=n':=hn
 dsimp only
 split
 ·exact .Jf fun w=>⟨_,w,rfl,by simp⟩
 ·split
  ·exact .Jf fun w=>⟨_,w,rfl,by simp⟩
  ·exact .Jf fun w=>⟨_,w,rfl,by simp⟩
theorem J3.J5j (t:TypeId) {y y':Value} (hy:VR C E y y'):J3 C ok E (Go.movedNumber t (.pointer none) y) (Go.movedNumber t (.pointer none) y') (VR C):=by
 unfold Go.movedNumber;refine J3.bind' (J3.underlying t) fun E1 s1 u u' hu=>?_;obtain ⟨rfl,hu⟩:=hu
 dsimp only
 split
 ·exact .Jf fun w=>⟨_,w,rfl,by simp⟩
 ·exact J3.J9i t (hy.mono s1)
theorem J3.Jct (t:TypeId) {y y':Value} (hy:VR C E y y'):J3 C ok E (Go.movedPointer t (.pointer none) y) (Go.movedPointer t (.pointer none) y') (VR C):=by unfold Go.movedPointer;exact J3.J9i t hy
theorem J3.twoPlaces {a a' b b':Addr} (h:Jd E a a') (k:Jd E b b'):J3 C ok E (Op.twoPlaces a b) (Op.twoPlaces a' b') (fun _ x x'=>x=x'):=by
 refine .J6z fun w w' hw=>?_;unfold Op.twoPlaces;refine J3.bind' (R:=fun _ p p'=>p=C.P/\p'=C.P) (.program ⟨rfl,rfl⟩) fun E3 s3 p p' hp'=>?_;obtain ⟨rfl,rfl⟩:=hp';have hb:(a'.block != b'.block)=(a.block != b.block):=by
  by_cases e:a.block=b.block
  ·have:a'.block=b'.block:=hw.fn _ _ _ h.block (e▸k.block);simp [e,this]
  ·have:a'.block≠b'.block:=fun e'=>e (hw.inj _ _ _ h.block (e'▸k.block));rw [bne_iff_ne.2 this,bne_iff_ne.2 e]
 by_cases hst:C.st=false
 ·rw [h.J2b hw hst,k.J2b hw hst];have ha4:Jd E a a:=by have:=h;rwa [h.J2b hw hst] at this
  have hb4:Jd E b b:=by have:=k;rwa [k.J2b hw hst] at this
  split
  ·exact .Jf fun w=>⟨_,w,rfl,by simp⟩
  ·refine J3.bind' (J3.byteOf (ha4.mono s3)) fun E4 s4 x x' hx=>?_;obtain rfl:x=x':=hx;refine J3.bind' (J3.byteOf ((hb4.mono s3).mono s4)) fun E5 s5 x x' hx=>?_;obtain rfl:x=x':=hx;exact .pure rfl
 ·have g:=hw.J5i (by simpa using hst) _ _ h.block;rw [if_pos (by simp;exact .inr g.1)];exact .Jf fun w=>⟨_,w,rfl,by simp⟩
theorem J3.addrSub (k:IntKind) {a a' b b':Addr} (h:Jd E a a') (g:Jd E b b'):J3 C ok E (Op.addrSub k a b) (Op.addrSub k a' b') (VR C):=by unfold Op.addrSub;refine J3.bind' (J3.twoPlaces h g) fun E1 s1 x x' hx=>?_;obtain rfl:x=x':=hx;exact .pure (.int _ _)
theorem J3.addrCmp (op:BinOp) {a a' b b':Addr} (h:Jd E a a') (g:Jd E b b'):J3 C ok E (Op.addrCmp op a b) (Op.addrCmp op a' b') (VR C):=by
 unfold Op.addrCmp;refine J3.bind' (J3.twoPlaces h g) fun E1 s1 x x' hx=>?_;obtain rfl:x=x':=hx
 dsimp only
 split<;>first|exact .pure (.bool _)|exact .unsupported _
theorem J3.addrMod (k:IntKind) {a a':Addr} (h:Jd E a a') (n:Int):J3 C ok E (Op.addrMod k a n) (Op.addrMod k a' n) (VR C):=by
 unfold Op.addrMod;refine J3.bind' (J3.shape h.block) fun E1 s1 x x' hx=>?_;obtain rfl:x=x':=hx;split
 ·refine J3.bind' (J3.typeInfo _) fun E2 s2 i i' hi=>?_;obtain ⟨rfl,_⟩:=hi
  dsimp only
  split
  ·exact .Jf fun w=>⟨_,w,rfl,by simp⟩
  ·refine J3.bind' (J3.byteOf ((h.mono s1).mono s2)) fun E3 s3 x x' hx=>?_;obtain rfl:x=x':=hx;exact .pure (.int _ _)
 ·exact .unsupported _
set_option maxHeartbeats 2000000 in
theorem J3.binOp (hh:Hnd C E) (op:BinOp) (t:TypeId) {x x' y y':Value} (hx:VR C E x x') (hy:VR C E y y') (hs:(op=.eql\/op=.neq)->Jic C t y) :
  J3 C ok E (Go.binOp op t x y) (Go.binOp op t x' y') (VR C):=by
 by_cases he:op=.eql
 ·subst he;have e:J3 C ok E (do Pure.pure (Value.bool (<- Op.equal t x y))) (do Pure.pure (Value.bool (<- Op.equal t x' y'))) (VR C):=
   J3.bind' (J3.equal hh t hx hy (hs (.inl rfl))) fun _ _ b b' hb=>by subst hb;exact .pure (.bool _)
  unfold Go.binOp;cases hx with
  | int k n=>
   cases hy with
   | int k' n'=>
    dsimp only
    split
    ·exact .stuck _
    ·exact J3.intCmp _ _ _
   | _=>exact e
  | string a=>
   cases hy with
   | string b=>exact J3.stringOp _ _ _
   | _=>exact e
  | _=>cases hy<;>exact e
 by_cases hn:op=.neq
 ·subst hn;have e:J3 C ok E (do Pure.pure (Value.bool (!(<- Op.equal t x y)))) (do Pure.pure (Value.bool (!(<- Op.equal t x' y')))) (VR C):=
   J3.bind' (J3.equal hh t hx hy (hs (.inr rfl))) fun _ _ b b' hb=>by subst hb;exact .pure (.bool _)
  unfold Go.binOp;cases hx with
  | int k n=>
   cases hy with
   | int k' n'=>
    dsimp only
    split
    ·exact .stuck _
    ·exact J3.intCmp _ _ _
   | _=>exact e
  | string a=>
   cases hy with
   | string b=>exact J3.stringOp _ _ _
   | _=>exact e
  | _=>cases hy<;>exact e
 unfold Go.binOp;cases hx with
 | int k n=>
  cases hy with
  | int k' n'=>
   cases op<;>first
    | exact J3.shift hh _ _ _ _ _
    | (dsimp only;split<;>first|exact .stuck _|exact J3.intArith _ _ _ _|exact J3.intDiv hh _ _ _ _|exact J3.intBits _ _ _ _|exact J3.intCmp _ _ _)
  | ptr o s h=>
   have ha:Jd E ⟨_,o,s⟩ ⟨_,o,s⟩:=⟨h,rfl,rfl⟩;cases op<;>first
    | exact .unsupported _
    | exact J3.movedNumber hh t ha (.int k n)
    | (refine J3.bind' (J3.behindNumber ha) fun E1 s1 p p' hp=>?_;exact J3.addrMod k hp.1 _)
    | exact absurd rfl he
    | exact absurd rfl hn
  | nilPtr=>
   have add:=J3.J5j (C:=C) (ok:=ok) (E:=E) t (.int k n);cases op<;>first
    | exact .unsupported _
    | exact add
    | exact .stuck _
    | exact absurd rfl he
    | exact absurd rfl hn
  | _=>cases op<;>first|exact .stuck _|exact absurd rfl he|exact absurd rfl hn
 | string a=>
  cases hy with
  | string b=>cases op<;>exact J3.stringOp _ _ _
  | nilPtr=>cases op<;>first|exact .unsupported _|exact absurd rfl he|exact absurd rfl hn
  | ptr o s h=>cases op<;>first|exact .unsupported _|exact absurd rfl he|exact absurd rfl hn
  | _=>cases op<;>first|exact .stuck _|exact absurd rfl he|exact absurd rfl hn
 | ptr o s h=>
  rename_i c0 c0';have ha:Jd E ⟨c0,o,s⟩ ⟨c0',o,s⟩:=⟨h,rfl,rfl⟩;cases hy with
  | int k n=>
   have add:J3 C ok E (do if (<- Go.underlying t) matches .unsafePointer then Go.movedPointer t (.pointer (some ⟨c0,o,s⟩)) (.int k n) else Go.movedNumber t (.pointer (some ⟨c0,o,s⟩)) (.int k n)) (do if (<- Go.underlying t) matches .unsafePointer then Go.movedPointer t (.pointer (some ⟨c0',o,s⟩)) (.int k n) else Go.movedNumber t (.pointer (some ⟨c0',o,s⟩)) (.int k n)) (VR C):=by
    refine J3.bind' (J3.underlying t) fun E1 s1 u u' hu=>?_;obtain ⟨rfl,hu⟩:=hu;split
    ·exact J3.movedPointer t (ha.mono s1) (.int k n)
    ·exact J3.movedNumber (hh.mono s1) t (ha.mono s1) (.int k n)
   cases op<;>first
    | exact .unsupported _
    | exact add
    | exact J3.movedNumber hh t ha (.int k (-n))
    | (refine J3.bind' (J3.behindNumber ha) fun E1 s1 p p' hp=>?_;exact J3.addrMod k hp.1 _)
    | exact absurd rfl he
    | exact absurd rfl hn
  | ptr o2 s2 h2=>
   have hb:Jd E ⟨_,o2,s2⟩ ⟨_,o2,s2⟩:=⟨h2,rfl,rfl⟩;cases op<;>first
    | exact .unsupported _
    | (refine J3.bind' (J3.behindNumber ha) fun E1 s1 p p' hp=>?_;refine J3.bind' (J3.behindNumber (hb.mono s1)) fun E2 s2 q q' hq=>?_;exact J3.addrSub _ (hp.1.mono s2) hq.1)
    | (refine J3.bind' (J3.behindNumber ha) fun E1 s1 p p' hp=>?_;refine J3.bind' (J3.behindNumber (hb.mono s1)) fun E2 s2 q q' hq=>?_;exact J3.addrCmp _ (hp.1.mono s2) hq.1)
    | exact absurd rfl he
    | exact absurd rfl hn
  | _=>cases op<;>first|exact .unsupported _|exact absurd rfl he|exact absurd rfl hn
 | nilPtr=>
  cases hy with
  | int k n=>
   have add:J3 C ok E (do if (<- Go.underlying t) matches .unsafePointer then Go.movedPointer t (.pointer none) (.int k n) else Go.movedNumber t (.pointer none) (.int k n)) (do if (<- Go.underlying t) matches .unsafePointer then Go.movedPointer t (.pointer none) (.int k n) else Go.movedNumber t (.pointer none) (.int k n)) (VR C):=by
    refine J3.bind' (J3.underlying t) fun E1 s1 u u' hu=>?_;obtain ⟨rfl,hu⟩:=hu;split
    ·exact J3.Jct t (.int k n)
    ·exact J3.J5j t (.int k n)
   cases op<;>first
    | exact .unsupported _
    | exact add
    | exact J3.J5j t (.int k (-n))
    | exact absurd rfl he
    | exact absurd rfl hn
  | _=>cases op<;>first|exact .unsupported _|exact absurd rfl he|exact absurd rfl hn
 | _=>
  cases hy with
  | nilPtr=>cases op<;>first|exact .unsupported _|exact absurd rfl he|exact absurd rfl hn
  | ptr o s h=>cases op<;>first|exact .unsupported _|exact absurd rfl he|exact absurd rfl hn
  | _=>cases op<;>first|exact .stuck _|exact absurd rfl he|exact absurd rfl hn
def Jid (P:Program) (src dst:TypeId):Bool:=
 match P.underlying src,P.underlying dst with
 | some (.int _),some (.int _)=>true
 | some .string,some .string=>true
 | some (.slice e),some .string=>(match P.underlying e with|some (.int .u8)=>true|_=>false)
 | some .string,some (.slice e)=>(match P.underlying e with|some (.int .u8)=>true|_=>false)
 | _,_=>false
theorem J3.bytesToString {x x':Value} (hx:VR C E x x'):J3 C ok E (Conv.bytesToString x) (Conv.bytesToString x') (VR C):=by
 unfold Conv.bytesToString;cases hx with
 | Jo l c=>exact .pure (.string _)
 | slice o s l c h=>
  dsimp only
  refine J3.bind' (J3.loadCells l (a:=⟨_,o,s⟩) (a':=⟨_,o,s⟩) ⟨h,rfl,rfl⟩) fun E1 s1 a a' ha=>?_;refine J3.bind' (R:=fun _ z z'=>z=z') ?_ fun E2 s2 z z' hz=>?_
  ·rw [<- Array.forIn_toList,<- Array.forIn_toList];refine J3.Jl0 (fun _ _ _ _ _ h=>h) _ _ _ _ _ ha.toList (fun v v' E3 s3 hv q q' hq=>?_) rfl;obtain rfl:q=q':=hq;cases hv with
   | int k n=>cases k<;>first|exact .Jf fun w=>⟨_,w,rfl,by simp⟩|exact .pure (.yield rfl)
   | _=>exact .Jf fun w=>⟨_,w,rfl,by simp⟩
  ·obtain rfl:z=z':=hz;exact .pure (.string _)
 | _=>exact .stuck _
theorem WR.freeze {w w':World} (hw:WR C ok E w w') (hst:C.st=false) {b b':Nat} (h:E b b') (hs:¬ C.Sh b) (o n:Nat) :
  WR C ok E (w.freeze ⟨b,o,none⟩ n) (w'.freeze ⟨b',o,none⟩ n)/\Grow C E E w w' (w.freeze ⟨b,o,none⟩ n) (w'.freeze ⟨b',o,none⟩ n):=by
 unfold World.freeze;split
 ·exact ⟨hw,.refl ..⟩
 ·refine ⟨⟨hw.os,fun c c' k=>?_,hw.fn,hw.inj,fun c k=>?_,fun c c' x x' k hx hx'=>?_,hw.lid,fun e=>by simpa using hw.lsz e,hw.J5i⟩,⟨.refl _,fun _ _ k=>.inl k,by simp,by simp;omega,fun c hc' k=>?_,rfl,Nat.add_comm _ _,rfl,rfl,Ja2 _⟩⟩
  ·simpa using hw.dom c c' k
  ·simpa using hw.old c k
  ·simp only [Array.getElem?_modify] at hx hx';by_cases e:b=c
   ·subst e;have e':b'=c':=hw.fn b b' c' h k;subst e';simp only [if_true,Jc0] at hx hx';obtain ⟨y,hy,rfl⟩:=hx;obtain ⟨y',hy',rfl⟩:=hx';have hr:=hw.obj b b' y y' h hy hy';cases y with
    | cells c el fz=>
     obtain ⟨c',fz',rfl,h4,h5,h6⟩:=hr;obtain rfl:=(h6 hs).1;exact ⟨c',_,rfl,h4,fun x=>absurd x hs,fun _=>⟨rfl,fun e=>by rw [hst] at e;cases e⟩⟩
    | map es ck=>obtain ⟨es',rfl,h⟩:=hr;exact ⟨es',rfl,h⟩
    | mapIter m a b c=>obtain ⟨q,m',rfl,h⟩:=hr;exact ⟨q,m',rfl,h⟩
    | stringIter a b=>obtain ⟨q,rfl⟩:=hr;exact ⟨q,rfl⟩
    | loop l=>obtain ⟨q,m',rfl,h⟩:=hr;exact ⟨q,m',rfl,h⟩
    | deferred l=>obtain ⟨q,m',rfl,h⟩:=hr;exact ⟨q,m',rfl,h⟩
    | number a l=>obtain ⟨q,m',rfl,h⟩:=hr;exact ⟨q,m',rfl,h⟩
    | _=>exact hr.elim
   ·have e':b'≠c':=fun e'=>e (hw.inj b b' c h (by rw [e'];exact k));rw [if_neg e] at hx;rw [if_neg e'] at hx';exact hw.obj c c' x x' k hx hx'
  ·simp only [Array.getElem?_modify];split
   ·rename_i e;subst e;exact absurd (k b h) hs
   ·rfl
theorem J3.freeze (hst:C.st=false) {b b':Nat} (h:E b b') (hs:¬ C.Sh b) (o n:Nat):J3 C ok E (Go.freeze ⟨b,o,none⟩ n) (Go.freeze ⟨b',o,none⟩ n) (fun _ _ _=>True):=by
 intro L w w' hw;refine .inr ?_;rw [run_freeze];obtain ⟨h1,h2⟩:=hw.toWR.freeze hst h hs o n;have ht:∀ (w:World) b,(w.freeze ⟨b,o,none⟩ n).tape=w.tape/\(w.freeze ⟨b,o,none⟩ n).drawn=w.drawn:=fun w b=>by unfold World.freeze;split<;>exact ⟨rfl,rfl⟩
 have ht2:Jm1 L (w.freeze ⟨b,o,none⟩ n) (w'.freeze ⟨b',o,none⟩ n):=by have:=hw.tape;unfold Jm1 at *;rw [(ht w b).1,(ht w b).2,(ht w' b').1,(ht w' b').2];exact this
 exact ⟨E,(),_,rfl,⟨h1,ht2⟩,h2,trivial,fun e he=>by simp at he⟩
theorem J3.markStringish (hst:C.st=false) {a a':Addr} (h:Jd E a a') (hs:¬ C.Sh a.block):J3 C ok E (Go.markStringish a) (Go.markStringish a') (fun _ _ _=>True):=by
 unfold Go.markStringish;refine J3.bind' (J3.shape h.block) fun E1 s1 x x' hx=>?_;obtain rfl:x=x':=hx;split
 ·exact J3.freeze hst (s1 _ _ h.block) hs _ _
 ·exact .pure trivial
theorem J3.stringToBytes (hst:C.st=false) (hh:Hnd C E) (e:TypeId) (s:ByteArray):J3 C ok E (Conv.stringToBytes e s) (Conv.stringToBytes e s) (VR C):=by unfold Conv.stringToBytes;refine J3.bind' (J3.choose _) fun E1 s1 n n' hn=>?_;obtain rfl:n=n':=hn;refine J3.bind' (J3.newRow (hh.mono s1) e (AR.append (AR.map _ fun x _=>.int _ _) (AR.replicate (.int _ _)))) fun E2 s2 a a' ha=>?_;refine J3.bind' (J3.markStringish hst ha.1 ha.2) fun E3 s3 _ _ _=>?_;exact .pure (.of_slice (ha.1.mono s3) _ _)
theorem J3.convert (hh:Hnd C E) (src dst:TypeId) {x x':Value} (hx:VR C E x x') (hc:Jid C.P src dst=true) (hz:C.st=false\/∀ e,C.P.underlying dst≠some (.slice e)):J3 C ok E (Go.convert src dst x) (Go.convert src dst x') (VR C):=by
 unfold Go.convert;refine J3.bind' (J3.underlying src) fun E1 s1 u u' hu=>?_;obtain ⟨rfl,hu⟩:=hu;refine J3.bind' (J3.underlying dst) fun E2 s2 v v' hv=>?_;obtain ⟨rfl,hv⟩:=hv;have hx2:=(hx.mono s1).mono s2;have hh2:=(hh.mono s1).mono s2;unfold Jid at hc;rw [hu,hv] at hc;cases u<;>cases v<;>first|cases hc|skip
 ·cases hx2<;>first|exact .stuck _|exact .unsupported _|exact .pure (.int _ _)
 ·cases hx2<;>first|exact .stuck _|exact .unsupported _|exact .pure (.string _)
 ·rename_i e
  dsimp only at hc
  have fin:∀ s:ByteArray,J3 C ok E2 (do match <- Go.underlying e with | .int .u8=>Conv.stringToBytes e s | .int .i32=>Conv.stringToRunes e s|_=>Go.stuck "Convert: string to a slice of what?") (do match <- Go.underlying e with | .int .u8=>Conv.stringToBytes e s | .int .i32=>Conv.stringToRunes e s|_=>Go.stuck "Convert: string to a slice of what?") (VR C):=fun s=>by
   refine J3.bind' (J3.underlying e) fun E3 s3 u u' hu=>?_;obtain ⟨rfl,hu⟩:=hu;rw [hu] at hc;split at hc
   ·rename_i h;cases h;exact J3.stringToBytes (hz.resolve_right fun h=>h _ hv) (hh2.mono s3) e _
   ·cases hc
  cases hx2<;>first|exact .stuck _|exact .unsupported _|exact fin _
 ·rename_i e
  dsimp only at hc
  have fin:∀ {x x':Value},VR C E2 x x'->J3 C ok E2 (do match <- Go.underlying e with | .int .u8=>Conv.bytesToString x | .int .i32=>Conv.runesToString x|_=>Go.stuck "Convert: a slice of what to string?") (do match <- Go.underlying e with | .int .u8=>Conv.bytesToString x' | .int .i32=>Conv.runesToString x'|_=>Go.stuck "Convert: a slice of what to string?") (VR C):=fun {x x'} hx=>by
   refine J3.bind' (J3.underlying e) fun E3 s3 u u' hu=>?_;obtain ⟨rfl,hu⟩:=hu;rw [hu] at hc;split at hc
   ·rename_i h;cases h;exact J3.bytesToString (hx.mono s3)
   ·cases hc
  have:=fin hx2;cases hx2<;>first|exact .stuck _|exact this|exact .pure (.string _)
end
section
variable {C:Cx} {ok:FuncId->Code->Prop} {E:J5}
theorem J3.lenOf {x x':Value} (hx:VR C E x x'):J3 C ok E (Builtin.lenOf x) (Builtin.lenOf x') (fun _ n n'=>n=n'):=by
 unfold Builtin.lenOf;cases hx<;>first|exact .stuck _|exact .pure rfl
theorem J3.firstCells (size n:Nat) {x x':Value} (hx:VR C E x x'):J3 C ok E (Builtin.firstCells size n x) (Builtin.firstCells size n x') (AR C):=by
 unfold Builtin.firstCells;cases hx with
 | Jo l c=>exact .pure .nil
 | slice o s l c h=>exact J3.loadCells _ (a:=⟨_,o,s⟩) (a':=⟨_,o,s⟩) ⟨h,rfl,rfl⟩
 | string s=>exact .pure (AR.map _ fun x _=>.int _ _)
 | _=>exact .stuck _
theorem J68 {z z':Array Value} (h:AR C E z z') (n:Nat):AR C E (Builtin.zeroCells z n) (Builtin.zeroCells z' n):=by unfold Builtin.zeroCells;rw [h.size];have:=rangeMap h (n*z'.size);simpa [h.size] using this
theorem J3.len (t:Array TypeId) (ty:TypeId) {a a':Array Value} (ha:AR C E a a'):J3 C ok E (Builtin.len_ t ty a) (Builtin.len_ t ty a') (VR C):=by
 unfold Builtin.len_;cases ht:t[0]? with
 | none=>exact .stuck _
 | some tt=>
  cases hx:a[0]? with
  | none=>exact .stuck _
  | some x=>
   obtain ⟨x',hx',hv⟩:=ha.J04 hx;rw [hx']
   dsimp only
   refine J3.bind' (J3.underlying tt) fun E1 s1 u u' hu=>?_;obtain ⟨rfl,_⟩:=hu;have hv:=hv.mono s1;cases u with
   | string=>cases hv<;>first|exact .stuck _|exact .pure (.int _ _)
   | array n e=>cases hv<;>exact .pure (.int _ _)
   | pointer e=>
    have fin:J3 C ok E1 (do
      match <- Go.underlying e with
      | .array n _=>Pure.pure (goInt n)
      | _=>Go.stuck "len: pointer to array expected":Sem Value) (do
      match <- Go.underlying e with
      | .array n _=>Pure.pure (goInt n)
      | _=>Go.stuck "len: pointer to array expected":Sem Value) (VR C):=by
     refine J3.bind' (J3.underlying e) fun E2 s2 u u' hu=>?_;obtain ⟨rfl,_⟩:=hu;cases u<;>first|exact .stuck _|exact .pure (.int _ _)
    cases hv<;>exact fin
   | slice e=>cases hv<;>first|exact .stuck _|exact .pure (.int _ _)
   | map k e=>
    cases hv with
    | J1n=>exact .pure (.int _ _)
    | map h=>exact J3.J70 h _ fun E2 s2 es es' ck hes=>by rw [<- hes.size];exact .pure (.int _ _)
    | _=>exact .stuck _
   | chan d e=>cases hv<;>first|exact .stuck _|exact .pure (.int _ _)
   | _=>cases hv<;>exact .stuck _
theorem J3.cap (t:Array TypeId) (ty:TypeId) {a a':Array Value} (ha:AR C E a a'):J3 C ok E (Builtin.cap_ t ty a) (Builtin.cap_ t ty a') (VR C):=by
 unfold Builtin.cap_;cases ht:t[0]? with
 | none=>exact .stuck _
 | some tt=>
  cases hx:a[0]? with
  | none=>exact .stuck _
  | some x=>
   obtain ⟨x',hx',hv⟩:=ha.J04 hx;rw [hx']
   dsimp only
   refine J3.bind' (J3.underlying tt) fun E1 s1 u u' hu=>?_;obtain ⟨rfl,_⟩:=hu;have hv:=hv.mono s1;cases u with
   | array n e=>cases hv<;>exact .pure (.int _ _)
   | pointer e=>
    have fin:J3 C ok E1 (do
      match <- Go.underlying e with
      | .array n _=>Pure.pure (goInt n)
      | _=>Go.stuck "cap: pointer to array expected":Sem Value) (do
      match <- Go.underlying e with
      | .array n _=>Pure.pure (goInt n)
      | _=>Go.stuck "cap: pointer to array expected":Sem Value) (VR C):=by
     refine J3.bind' (J3.underlying e) fun E2 s2 u u' hu=>?_;obtain ⟨rfl,_⟩:=hu;cases u<;>first|exact .stuck _|exact .pure (.int _ _)
    cases hv<;>exact fin
   | slice e=>cases hv<;>first|exact .stuck _|exact .pure (.int _ _)
   | chan d e=>cases hv<;>first|exact .stuck _|exact .pure (.int _ _)
   | _=>cases hv<;>exact .stuck _
theorem J3.copy (t:Array TypeId) (ty:TypeId) {a a':Array Value} (ha:AR C E a a'):J3 C ok E (Builtin.copy_ t ty a) (Builtin.copy_ t ty a') (VR C):=by
 unfold Builtin.copy_;cases ht:t[0]? with
 | none=>exact .stuck _
 | some tt=>
  cases hx:a[0]? with
  | none=>exact .stuck _
  | some x=>
   obtain ⟨x',hx',hv⟩:=ha.J04 hx;rw [hx'];cases hy:a[1]? with
   | none=>exact .stuck _
   | some y=>
    obtain ⟨y',hy',hw⟩:=ha.J04 hy;rw [hy']
    dsimp only
    refine J3.bind' (J3.underlying tt) fun E1 s1 u u' hu=>?_;obtain ⟨rfl,_⟩:=hu;have hv:=hv.mono s1;have hw:=hw.mono s1;cases u with
    | slice e=>
     dsimp only
     cases hv with
     | Jo l c=>
      refine J3.bind' (J3.lenOf hw) fun E2 s2 n n' hn=>?_;obtain rfl:n=n':=hn;refine J3.bind' (J3.sizeOf e) fun E3 s3 z z' hz=>?_;obtain rfl:z=z':=hz;exact J3.bind' (J3.firstCells _ _ ((hw.mono s2).mono s3)) fun E4 s4 _ _ _=>.pure (.int _ _)
     | slice o s l c h=>
      refine J3.bind' (J3.lenOf hw) fun E2 s2 n n' hn=>?_;obtain rfl:n=n':=hn;refine J3.bind' (J3.sizeOf e) fun E3 s3 z z' hz=>?_;obtain rfl:z=z':=hz;refine J3.bind' (J3.firstCells _ _ ((hw.mono s2).mono s3)) fun E4 s4 cs cs' hcs=>?_;refine J3.bind' (J3.storeCells _ _ 0 _ (a:=⟨_,o,s⟩) (a':=⟨_,o,s⟩) ⟨s4 _ _ (s3 _ _ (s2 _ _ h)),rfl,rfl⟩ hcs.toList) fun E5 s5 _ _ _=>?_;exact .pure (.int _ _)
     | _=>exact .stuck _
    | _=>exact .stuck _
theorem J3.min2 {x x' y y':Value} (hx:VR C E x x') (hy:VR C E y y'):J3 C ok E (Builtin.min2 x y) (Builtin.min2 x' y') (VR C):=by
 unfold Builtin.min2;cases hx<;>cases hy<;>first
  | exact .stuck _
  | exact .unsupported _
  | exact .pure (.int _ _)
  | exact J3.bind' (J3.stringOp _ _ _) fun E1 s1 v v' hv=>J3.bind' (J3.asBool hv) fun E2 s2 b b' hb=>by subst hb;exact .pure (.string _)
theorem J3.max2 {x x' y y':Value} (hx:VR C E x x') (hy:VR C E y y'):J3 C ok E (Builtin.max2 x y) (Builtin.max2 x' y') (VR C):=by
 unfold Builtin.max2;cases hx<;>cases hy<;>first
  | exact .stuck _
  | exact .unsupported _
  | exact .pure (.int _ _)
  | exact J3.bind' (J3.stringOp _ _ _) fun E1 s1 v v' hv=>J3.bind' (J3.asBool hv) fun E2 s2 b b' hb=>by subst hb;exact .pure (.string _)
theorem J3.foldlM {f:Value->Value->Sem Value} (hf:∀ E x x' y y',VR C E x x'->VR C E y y'->J3 C ok E (f x y) (f x' y') (VR C)):∀ (l l':List Value) (E:J5) (x x':Value),LR C E l l'->VR C E x x'->J3 C ok E (l.foldlM f x) (l'.foldlM f x') (VR C)
 | _,_,_,_,_,.nil,h=>.pure h
 | _,_,E,x,x',.cons hv hl,h=>by simp only [List.foldlM_cons];exact J3.bind' (hf _ _ _ _ _ h hv) fun E1 s1 v v' hv=>J3.foldlM hf _ _ E1 _ _ (hl.mono s1) hv
theorem J3.min (t:Array TypeId) (ty:TypeId) {a a':Array Value} (ha:AR C E a a'):J3 C ok E (Builtin.min_ t ty a) (Builtin.min_ t ty a') (VR C):=by
 unfold Builtin.min_;have h:=ha.toList;cases h1:a.toList with
 | nil=>exact .stuck _
 | cons x l=>
  rw [h1] at h;cases h2:a'.toList with
  | nil=>rw [h2] at h;cases h
  | cons x' l'=>
   rw [h2] at h;cases h with
   | cons h hl=>exact J3.foldlM (fun E _ _ _ _=>J3.min2) _ _ E _ _ hl h
theorem J3.max (t:Array TypeId) (ty:TypeId) {a a':Array Value} (ha:AR C E a a'):J3 C ok E (Builtin.max_ t ty a) (Builtin.max_ t ty a') (VR C):=by
 unfold Builtin.max_;have h:=ha.toList;cases h1:a.toList with
 | nil=>exact .stuck _
 | cons x l=>
  rw [h1] at h;cases h2:a'.toList with
  | nil=>rw [h2] at h;cases h
  | cons x' l'=>
   rw [h2] at h;cases h with
   | cons h hl=>exact J3.foldlM (fun E _ _ _ _=>J3.max2) _ _ E _ _ hl h
end
end Go.Sim
