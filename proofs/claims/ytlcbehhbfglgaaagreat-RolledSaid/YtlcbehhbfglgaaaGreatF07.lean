/- PROVED HERE: laws. Conditions: none. -/
import Derived.Test.YtlcbehhbfglgaaaGreatF06
set_option linter.all false
namespace Go.Sim
section
variable {C:Cx} {ok:FuncId->Code->Prop} {E:J5}
inductive Jgz {β β':Type} (R:J5->β->β'->Prop) (E:J5):ForInStep β->ForInStep β'->Prop
 | done {b b'} (h:R E b b'):Jgz R E (.done b) (.done b')
 | yield {b b'} (h:R E b b'):Jgz R E (.yield b) (.yield b')
theorem J3.J3i {α β β':Type} {R:J5->β->β'->Prop} (hm:∀ E E1 b b',Sub E E1->R E b b'->R E1 b b') {f:α->β->Sem (ForInStep β)} {f':α->β'->Sem (ForInStep β')} :
  ∀ (l:List α) (b:β) (b':β') (E:J5),(∀ x∈l,∀ E1,Sub E E1->∀ b b',R E1 b b'->J3 C ok E1 (f x b) (f' x b') (Jgz R))->R E b b'->J3 C ok E (forIn l b f) (forIn l b' f') R
 | [],_,_,_,_,h=>by simp only [List.forIn_nil];exact .pure h
 | x::l,b,b',E,hf,h=>by
  simp only [List.forIn_cons];refine J3.bind' (hf x (by simp) E (.refl _) b b' h) fun E1 s a a' ha=>?_;cases ha with
  | done h=>exact .pure h
  | yield h=>exact J3.J3i hm l _ _ E1 (fun x hx E2 s2=>hf x (by simp [hx]) E2 (s.trans s2)) h
theorem J3.Jl0 {β β':Type} {R:J5->β->β'->Prop} (hm:∀ E E1 b b',Sub E E1->R E b b'->R E1 b b') {f:Value->β->Sem (ForInStep β)} {f':Value->β'->Sem (ForInStep β')} :
  ∀ (l l':List Value) (b:β) (b':β') (E:J5),LR C E l l'->(∀ x x' E1,Sub E E1->VR C E1 x x'->∀ b b',R E1 b b'->J3 C ok E1 (f x b) (f' x' b') (Jgz R))->R E b b'->J3 C ok E (forIn l b f) (forIn l' b' f') R
 | _,_,_,_,_,.nil,_,h=>by simp only [List.forIn_nil];exact .pure h
 | _,_,b,b',E,.cons hx hl,hf,h=>by
  simp only [List.forIn_cons];refine J3.bind' (hf _ _ E (.refl _) hx b b' h) fun E1 s a a' ha=>?_;cases ha with
  | done h=>exact .pure h
  | yield h=>exact J3.Jl0 hm _ _ _ _ E1 (hl.mono s) (fun x x' E2 s2=>hf x x' E2 (s.trans s2)) h
theorem J3.Jf {α α':Type} {s:Sem α} {s':Sem α'} {R:J5->α->α'->Prop} (h:∀ w,∃ x w1,s.run C.P w=.halt x w1/\Dead x):J3 C ok E s s' R:=by intro L w w' _;refine .inr ?_;obtain ⟨x,w1,hx,hn⟩:=h w;exact J3.J7z hx hn
theorem WR.shape {w w':World} (hw:WR C ok E w w') {b b':Nat} (h:E b b'):w'.shape? b'=w.shape? b:=by
 obtain ⟨o,o',h1,h2,h3⟩:=hw.get h;simp only [World.shape?,h1,h2];cases o with
 | cells c el fz=>obtain ⟨c',fz',rfl,h4,_⟩:=h3;simp [h4.size]
 | map es ck=>obtain ⟨es',rfl,_⟩:=h3;rfl
 | mapIter m a b c=>obtain ⟨_,m',rfl,_⟩:=h3;rfl
 | stringIter a b=>obtain ⟨_,rfl⟩:=h3;rfl
 | loop l=>obtain ⟨_,m',rfl,_⟩:=h3;rfl
 | deferred l=>obtain ⟨_,m',rfl,_⟩:=h3;rfl
 | number a l=>obtain ⟨_,m',rfl,_⟩:=h3;rfl
 | _=>exact h3.elim
theorem J3.shape {b b':Nat} (h:E b b'):J3 C ok E (Go.shape b) (Go.shape b') (fun _ x x'=>x=x'):=by intro L w w' hw;refine .inr ?_;rw [run_shape];exact ⟨E,_,w',rfl,hw,.refl ..,(hw.shape h).symm,fun e he=>by simp at he⟩
theorem WR.frozen {w w':World} (hw:WR C ok E w w') {b b' o:Nat} {s:Option Nat} (h:E b b') (hs:¬ C.Sh b):w'.frozen? ⟨b',o,s⟩=w.frozen? ⟨b,o,s⟩:=by
 obtain ⟨x,x',h1,h2,h3⟩:=hw.get h;simp only [World.frozen?,h1,h2];cases x with
 | cells c el fz=>obtain ⟨c',fz',rfl,h4,_,h5⟩:=h3;simp [(h5 hs).1]
 | map es ck=>obtain ⟨es',rfl,_⟩:=h3;rfl
 | mapIter m a b c=>obtain ⟨_,m',rfl,_⟩:=h3;rfl
 | stringIter a b=>obtain ⟨_,rfl⟩:=h3;rfl
 | loop l=>obtain ⟨_,m',rfl,_⟩:=h3;rfl
 | deferred l=>obtain ⟨_,m',rfl,_⟩:=h3;rfl
 | number a l=>obtain ⟨_,m',rfl,_⟩:=h3;rfl
 | _=>exact h3.elim
theorem J3.frozen {a a':Addr} (h:Jd E a a') (hs:¬ C.Sh a.block):J3 C ok E (Go.frozen a) (Go.frozen a') (fun _ x x'=>x=x'):=by obtain ⟨b,o,s⟩:=a;obtain ⟨b',o',s'⟩:=a';obtain ⟨h1,h2,h3⟩:=h;simp only at h1 h2 h3;subst h2;subst h3;intro L w w' hw;refine .inr ?_;rw [run_frozen];exact ⟨E,_,w',rfl,hw,.refl ..,(hw.frozen h1 hs).symm,fun e he=>by simp at he⟩
theorem J3.viewAt {b b':Nat} (h:E b b'):J3 C ok E (Go.viewAt b) (Go.viewAt b') (fun _ x x'=>x=none/\x'=none):=by
 refine .bind (J3.shape h) fun E1 s x x' hx=>?_;obtain rfl:x=x':=hx;split
 ·exact .pure ⟨rfl,rfl⟩
 ·refine .bind (J3.getObj (s _ _ h)) fun E2 s2 o o' ho=>?_;obtain ⟨h3,hn⟩:=ho;cases o with
  | cells c el fz=>exact absurd rfl (hn c el fz)
  | map es ck=>obtain ⟨es',rfl,_⟩:=h3;exact .pure ⟨rfl,rfl⟩
  | mapIter m a b c=>obtain ⟨_,m',rfl,_⟩:=h3;exact .pure ⟨rfl,rfl⟩
  | stringIter a b=>obtain ⟨_,rfl⟩:=h3;exact .pure ⟨rfl,rfl⟩
  | loop l=>obtain ⟨_,m',rfl,_⟩:=h3;exact .pure ⟨rfl,rfl⟩
  | deferred l=>obtain ⟨_,m',rfl,_⟩:=h3;exact .pure ⟨rfl,rfl⟩
  | number a l=>obtain ⟨_,m',rfl,_⟩:=h3;exact .pure ⟨rfl,rfl⟩
  | _=>exact h3.elim
def NumR (E:J5):Option (Addr × Bool)->Option (Addr × Bool)->Prop:=J0m fun p p'=>Jd E p.1 p'.1/\p.2=p'.2
theorem J3.numberAt {b b':Nat} (h:E b b'):J3 C ok E (Go.numberAt b) (Go.numberAt b') (fun E1 x x'=>NumR E1 x x'):=by
 refine .bind (J3.shape h) fun E1 s x x' hx=>?_;obtain rfl:x=x':=hx;split
 ·exact .pure trivial
 ·refine .bind (J3.getObj (s _ _ h)) fun E2 s2 o o' ho=>?_;obtain ⟨h3,hn⟩:=ho;cases o with
  | cells c el fz=>exact absurd rfl (hn c el fz)
  | map es ck=>obtain ⟨es',rfl,_⟩:=h3;exact .pure trivial
  | mapIter m a b c=>obtain ⟨_,m',rfl,_⟩:=h3;exact .pure trivial
  | stringIter a b=>obtain ⟨_,rfl⟩:=h3;exact .pure trivial
  | loop l=>obtain ⟨_,m',rfl,_⟩:=h3;exact .pure trivial
  | deferred l=>obtain ⟨_,m',rfl,_⟩:=h3;exact .pure trivial
  | number a l=>obtain ⟨_,m',rfl,hm⟩:=h3;exact .pure ⟨hm,rfl⟩
  | _=>exact h3.elim
theorem J3.noView {a a':Addr} (h:Jd E a a'):J3 C ok E (Go.noView a) (Go.noView a') (fun _ _ _=>True):=
 .bind (J3.viewAt h.block) fun E1 s x x' hx=>by obtain ⟨rfl,rfl⟩:=hx;exact .pure trivial
theorem J3.stringish {a a':Addr} (h:Jd E a a') (hs:¬ C.Sh a.block):J3 C ok E (Go.stringish a) (Go.stringish a') (fun _ x x'=>x=x'):=by
 refine .bind (J3.frozen h hs) fun E1 s x x' hx=>?_;obtain rfl:x=x':=hx;split
 ·exact .pure rfl
 ·refine .bind (J3.shape (s _ _ h.block)) fun E2 s2 x x' hx=>?_;obtain rfl:x=x':=hx;split
  ·exact J3.frozen ⟨s2 _ _ (s _ _ h.block),rfl,rfl⟩ hs
  ·exact .pure rfl
theorem J3.mayBeOne {a a' b b':Addr} (h:Jd E a a') (k:Jd E b b') (hst:C.st=false):J3 C ok E (Go.mayBeOne a b) (Go.mayBeOne a' b') (fun _ x x'=>x=x'):=by
 have hl:=C.lax hst;have hnone:∀ (E:J5) {x x':Addr},Jd E x x'->J3 C ok E (do Pure.pure ((<- Go.shape x.block) matches some (_,0)):Sem Bool) (do Pure.pure ((<- Go.shape x'.block) matches some (_,0)):Sem Bool) (fun _ x x'=>x=x'):=fun E x x' hx=>
  .bind (J3.shape hx.block) fun _ _ z z' hz=>by obtain rfl:z=z':=hz;exact .pure rfl
 refine .bind (J3.stringish h (hl _)) fun E1 s x x' hx=>?_;obtain rfl:x=x':=hx;refine .bind (J3.stringish (k.mono s) (hl _)) fun E2 s2 y y' hy=>?_;obtain rfl:y=y':=hy
 dsimp only
 have h2:=(h.mono s).mono s2;have k2:=(k.mono s).mono s2;refine J3.bind' (hnone E2 h2) fun E3 s3 z z' hz=>?_;obtain rfl:z=z':=hz;refine J3.bind' (hnone E3 (k2.mono s3)) fun E4 s4 u u' hu=>?_;obtain rfl:u=u':=hu;exact .pure rfl
theorem J3.sameAddr {a a' b b':Addr} (h:Jd E a a') (k:Jd E b b') (hst:C.st=false):J3 C ok E (Go.sameAddr a b) (Go.sameAddr a' b') (fun _ x x'=>x=x'):=by
 have hl:=C.lax hst;intro L w w' hw;have hb:(a'.block == b'.block)=(a.block == b.block):=by
  by_cases e:a.block=b.block
  ·have:a'.block=b'.block:=hw.fn _ _ _ h.block (e▸k.block);simp [e,this]
  ·have:a'.block≠b'.block:=fun e'=>e (hw.inj _ _ _ h.block (e'▸k.block));rw [beq_eq_false_iff_ne.2 this,beq_eq_false_iff_ne.2 e]
 have hab:(a' == b')=(a == b)\/a.block≠b.block:=by
  by_cases e:a.block=b.block
  ·refine .inl ?_;have e':a'.block=b'.block:=hw.fn _ _ _ h.block (e▸k.block);obtain ⟨x,o,s⟩:=a;obtain ⟨x',o',s'⟩:=a';obtain ⟨y,p,t⟩:=b;obtain ⟨y',p',t'⟩:=b';obtain ⟨h1,h2,h3⟩:=h;obtain ⟨k1,k2,k3⟩:=k;change o=o' at h2;change s=s' at h3;change p=p' at k2;change t=t' at k3;change x=y at e;change x'=y' at e';subst h2 h3 k2 k3 e e';rw [Bool.eq_iff_iff];simp
  ·exact .inr e
 suffices J3 C ok E (Go.sameAddr a b) (Go.sameAddr a' b') (fun _ x x'=>x=x') from this L w w' hw
 unfold Go.sameAddr;rw [hb];by_cases e:a.block=b.block
 ·simp only [e,beq_self_eq_true,if_true];rcases hab with hab|hab
  ·rw [hab];exact .pure rfl
  ·exact absurd e hab
 ·simp only [show (a.block == b.block)=false by simpa using e,Jc1,if_false];refine J3.bind' (J3.frozen h (hl _)) fun E1 s x x' hx=>?_;obtain rfl:x=x':=hx;refine J3.bind' (J3.frozen (k.mono s) (hl _)) fun E2 s2 x x' hx=>?_;obtain rfl:x=x':=hx;split
  ·exact .Jf fun w=>⟨_,w,rfl,by simp⟩
  ·refine J3.bind' (J3.noView ((h.mono s).mono s2)) fun E3 s3 _ _ _=>?_;refine J3.bind' (J3.noView (((k.mono s).mono s2).mono s3)) fun E4 s4 _ _ _=>?_;refine J3.bind' (J3.mayBeOne ((((h.mono s).mono s2).mono s3).mono s4) ((((k.mono s).mono s2).mono s3).mono s4) hst) fun E5 s5 x x' hx=>?_;obtain rfl:x=x':=hx;split
   ·refine J3.bind' (J3.choose _) fun E6 s6 n n' hn=>?_;obtain rfl:n=n':=hn;exact .pure rfl
   ·exact .pure rfl
end
def J28 (P:Program):Nat->TypeId->Bool
 | 0,_=>false
 | n+1,t=>
  match P.underlying t with
  | some .bool|some .string=>true
  | some (.int _)=>(match P.info? t with|some i=>(match i.desc with | .named "sync.copyChecker" _=>false|_=>true)|none=>false)
  | some (.array _ e)=>J28 P n e
  | _=>false
section
variable {C:Cx} {ok:FuncId->Code->Prop} {E:J5}
theorem J3.byteOf {a a':Addr} (h:Jd E a a'):J3 C ok E (Go.byteOf a) (Go.byteOf a') (fun _ x x'=>x=x'):=by
 unfold Go.byteOf;rw [<- h.spot];have e:a'.off=a.off:=h.off.symm;rw [e];split
 ·exact .pure rfl
 ·refine J3.bind' (R:=fun _ p p'=>p=C.P/\p'=C.P) (.program ⟨rfl,rfl⟩) fun E1 s p p' hp'=>?_;obtain ⟨rfl,rfl⟩:=hp';refine J3.bind' (J3.noView (h.mono s)) fun E2 s2 _ _ _=>?_;refine J3.bind' (J3.shape (s2 _ _ (s _ _ h.block))) fun E3 s3 x x' hx=>?_;obtain rfl:x=x':=hx;split
  ·dsimp only
   split
   ·exact .pure rfl
   ·split
    ·exact .pure rfl
    ·exact .stuck _
  ·exact .stuck _
theorem J3.behindNumber {a a':Addr} (h:Jd E a a'):J3 C ok E (Go.behindNumber a) (Go.behindNumber a') (fun E1 x x'=>Jd E1 x.1 x'.1/\x.2=x'.2):=
 .bind (J3.numberAt h.block) fun E1 s x x' hx=>by
  cases x with
  | none=>cases x' with
   | none=>exact .pure ⟨h.mono s,rfl⟩
   | some _=>exact hx.elim
  | some p=>cases x' with
   | none=>exact hx.elim
   | some p'=>exact .pure hx
theorem Jd.J2b {w w':World} (hw:WR C ok E w w') (hst:C.st=false) {a a':Addr} (h:Jd E a a'):a'=a:=by obtain ⟨x,o,s⟩:=a;obtain ⟨x',o',s'⟩:=a';obtain ⟨h1,h2,h3⟩:=h;have:=hw.lid hst _ _ h1;change o=o' at h2;change s=s' at h3;change x=x' at this;rw [this,h2,h3]
theorem J3.J6z {α α':Type} {s:Sem α} {s':Sem α'} {R:J5->α->α'->Prop} (h:∀ w w',WR C ok E w w'->J3 C ok E s s' R):J3 C ok E s s' R:=
 fun L w w' hw=>h w w' hw.toWR L w w' hw
theorem J3.Jka (t:TypeId) {a a' b b':Addr} (ha:Jd E a a') (hb:Jd E b b') (hs:C.st=false\/∀ i,C.P.info? t=some i->(match i.desc with | .named "sync.copyChecker" _=>false|_=>true)=true) :
  J3 C ok E (do
   let (a,b):=((<- Go.behindNumber a).1,(<- Go.behindNumber b).1)
   if a.block == b.block && a.block<(<- Go.program).globals.size then return (<- Go.byteOf a) == (<- Go.byteOf b)
   let .named "sync.copyChecker" _:=(<- Go.typeInfo t).desc|Go.unsupported .addressObserved
   if a == b then Pure.pure true else Go.unsupported .addressObserved:Sem Bool) (do
   let (a,b):=((<- Go.behindNumber a').1,(<- Go.behindNumber b').1)
   if a.block == b.block && a.block<(<- Go.program).globals.size then return (<- Go.byteOf a) == (<- Go.byteOf b)
   let .named "sync.copyChecker" _:=(<- Go.typeInfo t).desc|Go.unsupported .addressObserved
   if a == b then Pure.pure true else Go.unsupported .addressObserved:Sem Bool) (fun _ x x'=>x=x'):=by
 refine J3.bind' (J3.behindNumber ha) fun E1 s1 x x' hx=>?_;refine J3.bind' (J3.behindNumber (hb.mono s1)) fun E2 s2 y y' hy=>?_;refine J3.bind' (R:=fun _ p p'=>p=C.P/\p'=C.P) (.program ⟨rfl,rfl⟩) fun E3 s3 p p' hp'=>?_;obtain ⟨rfl,rfl⟩:=hp';have ha3:=(hx.1.mono s2).mono s3;have hb3:=hy.1.mono s3;refine .J6z fun w w' hw=>?_;by_cases hst:C.st=false
 ·rw [ha3.J2b hw hst,hb3.J2b hw hst];have ha4:Jd E3 x.1 x.1:=by have:=ha3;rwa [ha3.J2b hw hst] at this
  have hb4:Jd E3 y.1 y.1:=by have:=hb3;rwa [hb3.J2b hw hst] at this
  split
  ·refine J3.bind' (J3.byteOf ha4) fun E4 s4 x x' hx=>?_;obtain rfl:x=x':=hx;refine J3.bind' (J3.byteOf (hb4.mono s4)) fun E5 s5 x x' hx=>?_;obtain rfl:x=x':=hx;exact .pure rfl
  ·refine J3.bind' (J3.typeInfo t) fun E4 s4 x x' hx=>?_;obtain ⟨rfl,_⟩:=hx;split
   ·split
    ·exact .pure rfl
    ·exact .unsupported _
   ·exact .unsupported _
 ·have hst':C.st=true:=by simpa using hst
  have g:=hw.J5i hst' _ _ ha3.block;have e1:decide (x.1.block<C.P.globals.size)=false:=by simp;omega
  have e2:decide (x'.1.block<C.P.globals.size)=false:=by simp;omega
  rw [e1,e2];simp only [Bool.and_false,Jc1,if_false];refine J3.bind' (J3.typeInfo t) fun E4 s4 x x' hx=>?_;obtain ⟨rfl,hi⟩:=hx;have:=hs.resolve_left hst x hi;split
  ·rename_i e;rw [e] at this;cases this
  ·exact .unsupported _
theorem J3.typeStr (t:TypeId):J3 C ok E (Go.typeStr t) (Go.typeStr t) (fun _ x x'=>x=x'):=
 .bind (J3.typeInfo t) fun _ _ i i' hi=>by
  obtain ⟨rfl,_⟩:=hi
  dsimp only
  split
  ·exact .unsupported _
  ·exact .pure rfl
set_option maxHeartbeats 1000000 in
theorem J3.equalIn:∀ (d:Nat) (t:TypeId) (n:Nat) (E:J5),Hnd C E->∀ {x x' y y':Value},(C.st=false\/J28 C.P n t=true)->VR C E x x'->VR C E y y' ->
  J3 C ok E (Op.equalIn d t x y) (Op.equalIn d t x' y') (fun _ r r'=>r=r')
 | 0,_,_,_,_,_,_,_,_,_,_,_=>.unsupported _
 | d+1,t,n,E,hh,x,x',y,y',hs,hx,hy=>by
  unfold Op.equalIn;refine J3.bind' (J3.underlying t) fun E1 s1 u u' hu=>?_;obtain ⟨rfl,hu⟩:=hu;have hh1:=hh.mono s1;have hx:=hx.mono s1;have hy:=hy.mono s1;cases u with
  | int k=>
   cases hx with
   | int k1 n1=>
    cases hy with
    | int k2 n2=>
     dsimp only
     split<;>first|exact .pure rfl|exact .stuck _
    | nilPtr=>rcases n1 with (_|_)|_<;>first|exact .unsupported _|exact .pure rfl
    | ptr o s h=>rcases n1 with (_|_)|_<;>first|exact .pure rfl|exact .unsupported _
    | _=>exact .stuck _
   | nilPtr=>cases hy<;>exact .unsupported _
   | ptr o s h=>
    cases hy with
    | int k2 n2=>rcases n2 with (_|_)|_<;>first|exact .pure rfl|exact .unsupported _
    | ptr o2 s2 h2=>
     refine J3.Jka t ⟨h,rfl,rfl⟩ ⟨h2,rfl,rfl⟩ (hs.imp id fun h i hi=>?_);cases n with
     | zero=>cases h
     | succ n=>simpa [J28,hu,hi] using h
    | _=>exact .unsupported _
   | _=>cases hy<;>first|exact .stuck _|exact .unsupported _
  | pointer e=>
   cases hx<;>cases hy<;>first
    | exact .stuck _
    | exact .pure rfl
    | skip
   rename_i b b' o s h _ _ _ _ k;have hst:C.st=false:=hs.resolve_right (by cases n<;>simp [J28,hu]);refine J3.bind' (J3.sizeOf e) fun E2 s2 z z' hz=>?_;obtain rfl:z=z':=hz;refine .J6z fun w w' hw=>?_;split
   ·exact J3.sameAddr ⟨s2 _ _ h,rfl,rfl⟩ ⟨s2 _ _ k,rfl,rfl⟩ hst
   ·have e1:=Jd.J2b hw hst (a:=⟨b,o,s⟩) (a':=⟨b',o,s⟩) ⟨s2 _ _ h,rfl,rfl⟩;have e2:=hw.lid hst _ _ (s2 _ _ k);have e3:=hw.lid hst _ _ (s2 _ _ h);subst e2;subst e3;split
    ·exact .pure rfl
    ·refine J3.bind' (J3.choose _) fun E3 s3 z z' hz=>?_;obtain rfl:z=z':=hz;exact .pure rfl
  | unsafePointer=>
   have hst:C.st=false:=hs.resolve_right (by cases n<;>simp [J28,hu]);cases hx<;>cases hy<;>first
    | exact .stuck _
    | exact .pure rfl
    | exact J3.sameAddr ⟨by assumption,rfl,rfl⟩ ⟨by assumption,rfl,rfl⟩ hst
  | interface ms=>
   have hst:C.st=false:=hs.resolve_right (by cases n<;>simp [J28,hu]);cases hx<;>cases hy<;>first
    | exact .stuck _
    | exact .pure rfl
    | skip
   rename_i t1 v1 v1' ht1 h1 t2 v2 v2' ht2 h2
   dsimp only
   split
   ·exact .pure rfl
   ·refine J3.bind' (J3.typeInfo _) fun E2 s2 i i' hi=>?_;obtain ⟨rfl,_⟩:=hi;split
    ·refine J3.bind' (R:=fun _ p p'=>p=C.P/\p'=C.P) (.program ⟨rfl,rfl⟩) fun E3 s3 p p' hp'=>?_;obtain ⟨rfl,rfl⟩:=hp';refine J3.bind' (R:=fun _ p p'=>p=C.P/\p'=C.P) (.program ⟨rfl,rfl⟩) fun E4 s4 p p' hp'=>?_;obtain ⟨rfl,rfl⟩:=hp';split
     ·exact .Jf fun w=>⟨_,w,rfl,by simp⟩
     ·refine J3.bind' (J3.typeStr _) fun E5 s5 z z' hz=>?_;obtain rfl:z=z':=hz;exact J3.runtimePanic ((((hh1.mono s2).mono s3).mono s4).mono s5) _
    ·exact J3.equalIn d _ n _ (hh1.mono s2) (.inl hst) (h1.mono s2) (h2.mono s2)
  | struct fs=>
   have hst:C.st=false:=hs.resolve_right (by cases n<;>simp [J28,hu]);cases hx<;>cases hy<;>first
    | exact .stuck _
    | skip
   rename_i a a' ha hxa b b' hb hxb;have ra:AR C E1 a a':=⟨ha,hxa⟩;have rb:AR C E1 b b':=⟨hb,hxb⟩;refine J3.bind' (R:=fun _ p p'=>p=C.P/\p'=C.P) (.program ⟨rfl,rfl⟩) fun E2 s2 p p' hp'=>?_;obtain ⟨rfl,rfl⟩:=hp';split
   ·exact .Jf fun w=>⟨_,w,rfl,by simp⟩
   ·refine J3.bind' (R:=fun _ z z'=>z=z') ?_ fun E3 s3 z z' hz=>?_
    ·rw [<- Array.forIn_toList,<- Array.forIn_toList];refine J3.J3i (fun _ _ _ _ _ h=>h) _ _ _ _ (fun f _ E3 s3 q q' hq=>?_) rfl;obtain rfl:q=q':=hq;split
     ·refine J3.bind' (J3.part f.type ((ra.mono s2).mono s3) _) fun E4 s4 v v' hv=>?_;refine J3.bind' (J3.part f.type (((rb.mono s2).mono s3).mono s4) _) fun E5 s5 u u' hu=>?_;refine J3.bind' (J3.equalIn d _ n _ ((((hh1.mono s2).mono s3).mono s4).mono s5) (.inl hst) (hv.mono s5) hu) fun E6 s6 z z' hz=>?_;obtain rfl:z=z':=hz;split
      ·exact .pure (.done rfl)
      ·exact .pure (.yield rfl)
     ·exact .pure (.yield rfl)
    ·obtain rfl:z=z':=hz
     dsimp only
     split<;>exact .pure rfl
  | array len e=>
   cases hx<;>cases hy<;>first
    | exact .stuck _
    | skip
   rename_i a a' ha hxa b b' hb hxb;have ra:AR C E1 a a':=⟨ha,hxa⟩;have rb:AR C E1 b b':=⟨hb,hxb⟩;refine J3.bind' (J3.sizeOf e) fun E2 s2 z z' hz=>?_;obtain rfl:z=z':=hz;have he:C.st=false\/J28 C.P (n-1) e=true:=hs.imp id fun h=>by
    cases n with
    | zero=>cases h
    | succ n=>simpa [J28,hu] using h
   refine J3.bind' (R:=fun _ z z'=>z=z') ?_ fun E3 s3 z z' hz=>?_
   ·simp only [Std.Legacy.Range.forIn_eq_forIn_range'];refine J3.J3i (fun _ _ _ _ _ h=>h) _ _ _ _ (fun i _ E3 s3 q q' hq=>?_) rfl;obtain rfl:q=q':=hq;refine J3.bind' (J3.part e ((ra.mono s2).mono s3) _) fun E4 s4 v v' hv=>?_;refine J3.bind' (J3.part e (((rb.mono s2).mono s3).mono s4) _) fun E5 s5 u u' hu=>?_;refine J3.bind' (J3.equalIn d _ (n-1) _ ((((hh1.mono s2).mono s3).mono s4).mono s5) he (hv.mono s5) hu) fun E6 s6 z z' hz=>?_;obtain rfl:z=z':=hz;split
    ·exact .pure (.done rfl)
    ·exact .pure (.yield rfl)
   ·obtain rfl:z=z':=hz
    dsimp only
    split<;>exact .pure rfl
  | bool=>cases hx<;>first|exact .stuck _|(cases hy<;>first|exact .stuck _|exact .pure rfl)
  | string=>cases hx<;>first|exact .stuck _|(cases hy<;>first|exact .stuck _|exact .pure rfl)
  | float k=>cases hx<;>first|exact .stuck _|(cases hy<;>first|exact .stuck _|(dsimp only;split<;>first|exact .pure rfl|exact .stuck _))
  | complex k=>cases hx<;>first|exact .stuck _|(cases hy<;>first|exact .stuck _|(dsimp only;split<;>first|exact .pure rfl|exact .stuck _))
  | slice e=>cases hx<;>first|exact .stuck _|(cases hy<;>first|exact .stuck _|exact .pure rfl)
  | map k e=>cases hx<;>first|exact .stuck _|(cases hy<;>first|exact .stuck _|exact .pure rfl)
  | func a b c=>cases hx<;>first|exact .stuck _|(cases hy<;>first|exact .stuck _|exact .pure rfl)
  | chan d e=>cases hx<;>first|exact .stuck _|(cases hy<;>first|exact .stuck _|exact .pure rfl)
  | _=>cases hx<;>exact .stuck _
end
section
variable {C:Cx} {ok:FuncId->Code->Prop} {E:J5}
theorem J3.checkKey (em:Bool):∀ (d:Nat) (t:TypeId) (E:J5),Hnd C E->∀ {x x':Value},VR C E x x'->J3 C ok E (Instr.checkKey em d t x) (Instr.checkKey em d t x') (fun _ _ _=>True)
 | 0,_,_,_,_,_,_=>.unsupported _
 | d+1,t,E,hh,x,x',hx=>by
  unfold Instr.checkKey;refine J3.bind' (J3.underlying t) fun E1 s1 u u' hu=>?_;obtain ⟨rfl,hu⟩:=hu;have hh1:=hh.mono s1;have hx:=hx.mono s1;cases u with
  | interface ms=>
   cases hx<;>first
    | exact .stuck _
    | exact .pure trivial
    | skip
   rename_i t1 v v' h1;refine J3.bind' (J3.typeInfo _) fun E2 s2 i i' hi=>?_;obtain ⟨rfl,_⟩:=hi;split
   ·split
    ·refine J3.bind' (R:=fun _ _ _=>True) (J3.runtimePanic (hh1.mono s2) _) fun E3 s3 _ _ _=>?_;refine J3.bind' (J3.typeStr _) fun E5 s5 z z' hz=>?_;obtain rfl:z=z':=hz;refine J3.bind' (R:=fun _ _ _=>True) (J3.runtimePanic (((hh1.mono s2).mono s3).mono s5) _) fun E6 s6 _ _ _=>?_;exact J3.checkKey em d _ _ ((((hh1.mono s2).mono s3).mono s5).mono s6) ((((h1.mono s2).mono s3).mono s5).mono s6)
    ·refine J3.bind' (J3.typeStr _) fun E5 s5 z z' hz=>?_;obtain rfl:z=z':=hz;refine J3.bind' (R:=fun _ _ _=>True) (J3.runtimePanic ((hh1.mono s2).mono s5) _) fun E6 s6 _ _ _=>?_;exact J3.checkKey em d _ _ (((hh1.mono s2).mono s5).mono s6) (((h1.mono s2).mono s5).mono s6)
   ·exact J3.checkKey em d _ _ (hh1.mono s2) (h1.mono s2)
  | array len e=>
   cases hx<;>first
    | exact .stuck _
    | skip
   rename_i a a' ha hxa;have ra:AR C E1 a a':=⟨ha,hxa⟩;simp only [Std.Legacy.Range.forIn_eq_forIn_range'];refine J3.bind' (R:=fun _ _ _=>True) (J3.J3i (fun _ _ _ _ _ h=>h) _ _ _ _ (fun i _ E3 s3 q q' hq=>?_) trivial) fun _ _ _ _ _=>.pure trivial;refine J3.bind' (J3.sizeOf e) fun E2 s2 z z' hz=>?_;obtain rfl:z=z':=hz;refine J3.bind' (J3.part e ((ra.mono s3).mono s2) _) fun E4 s4 v v' hv=>?_;refine J3.bind' (J3.checkKey em d e _ (((hh1.mono s3).mono s2).mono s4) hv) fun E5 s5 _ _ _=>?_;exact .pure (.yield trivial)
  | struct fs=>
   cases hx<;>first
    | exact .stuck _
    | skip
   rename_i a a' ha hxa;have ra:AR C E1 a a':=⟨ha,hxa⟩
   dsimp only
   rw [<- Array.forIn_toList,<- Array.forIn_toList];refine J3.bind' (R:=fun _ _ _=>True) (J3.J3i (fun _ _ _ _ _ h=>h) _ _ _ _ (fun f _ E3 s3 q q' hq=>?_) trivial) fun _ _ _ _ _=>.pure trivial;split
   ·refine J3.bind' (J3.part f.type (ra.mono s3) _) fun E4 s4 v v' hv=>?_;refine J3.bind' (J3.checkKey em d f.type _ ((hh1.mono s3).mono s4) hv) fun E5 s5 _ _ _=>?_;exact .pure (.yield trivial)
   ·exact .pure (.yield trivial)
  | _=>exact .pure trivial
inductive EsL (C:Cx) (E:J5):List MapEntry->List MapEntry->Prop
 | nil:EsL C E [] []
 | cons {e e' l l'} (h:J11 C E e e') (hl:EsL C E l l'):EsL C E (e::l) (e'::l')
theorem EsL.mono {E1:J5} (s:Sub E E1) {l l':List MapEntry} (h:EsL C E l l'):EsL C E1 l l':=by
 induction h with
 | nil=>exact .nil
 | cons h _ ih=>exact .cons (h.mono s) ih
theorem EsL.of:∀ {l l':List MapEntry},EsR C E l.toArray l'.toArray->EsL C E l l'
 | [],[],_=>.nil
 | [],_::_,h=>by have:=h.size;simp at this
 | _::_,[],h=>by have:=h.size;simp at this
 | x::l,x'::l',h=>.cons (h.at_ 0 x x' (by simp) (by simp)) (EsL.of ⟨by have:=h.size;simp at this;simp [this],fun i y y' hy hy'=>h.at_ (i+1) y y' (by simpa using hy) (by simpa using hy')⟩)
theorem EsR.toList {a a':Array MapEntry} (h:EsR C E a a'):EsL C E a.toList a'.toList:=EsL.of (by simpa using h)
def Ji8 (C:Cx) (E:J5):Option (Nat × Value)->Option (Nat × Value)->Prop
 | none,none=>True
 | some a,some b=>a.1=b.1/\VR C E a.2 b.2
 | _,_=>False
theorem Jm3 (d:TypeDesc) {x x' y y':Value} (hx:VR C E x x') (hy:VR C E y y'):Instr.sameNow d x' y'=Instr.sameNow d x y:=by
 cases d with
 | int k=>cases hx<;>first|rfl|(cases hy<;>rfl)
 | string=>cases hx<;>first|rfl|(cases hy<;>rfl)
 | bool=>cases hx<;>first|rfl|(cases hy<;>rfl)
 | _=>rfl
theorem Jbm (d:TypeDesc) {x x':Value} (hx:VR C E x x'):∀ {l l':List MapEntry} (i:Nat),EsL C E l l' ->
  J0m (Ji8 C E) (Instr.findNow d x l i) (Instr.findNow d x' l' i)
 | _,_,_,.nil=>trivial
 | _,_,i,.cons (e:=e) (e':=e') h hl=>by
  simp only [Instr.findNow,Jm3 d hx h.key];cases Instr.sameNow d x e.key with
  | none=>trivial
  | some b=>
   cases b with
   | true=>exact ⟨rfl,h.val⟩
   | false=>exact Jbm d hx (i+1) hl
theorem J3.findAsking (kt:TypeId) (n:Nat) (hs:C.st=false\/J28 C.P n kt=true):∀ {l l':List MapEntry} (i:Nat) (E:J5),Hnd C E->∀ {x x':Value},VR C E x x'->EsL C E l l' ->
  J3 C ok E (Instr.findAsking kt x l i) (Instr.findAsking kt x' l' i) (Ji8 C)
 | _,_,_,_,_,_,_,_,.nil=>.pure trivial
 | _,_,i,E,hh,x,x',hx,.cons (e:=e) (e':=e') h hl=>by
  unfold Instr.findAsking;refine J3.bind' (J3.equalIn _ kt n _ hh hs hx h.key) fun E1 s1 b b' hb=>?_;obtain rfl:b=b':=hb;split
  ·exact .pure ⟨rfl,h.val.mono s1⟩
  ·exact J3.findAsking kt n hs (i+1) _ (hh.mono s1) (hx.mono s1) (hl.mono s1)
theorem J3.findKey (kt:TypeId) (n:Nat) (hh:Hnd C E) (hs:C.st=false\/J28 C.P n kt=true) {x x':Value} (hx:VR C E x x') {l l':List MapEntry} (hl:EsL C E l l') :
  J3 C ok E (Instr.findKey kt x l) (Instr.findKey kt x' l') (Ji8 C):=by
 unfold Instr.findKey;refine J3.bind' (J3.underlying kt) fun E1 s1 u u' hu=>?_;obtain ⟨rfl,hu⟩:=hu;have hf:=Jbm u (hx.mono s1) 0 (hl.mono s1);cases h1:Instr.findNow u x l 0 with
 | none=>
  cases h2:Instr.findNow u x' l' 0 with
  | none=>exact J3.findAsking kt n hs 0 _ (hh.mono s1) (hx.mono s1) (hl.mono s1)
  | some b=>rw [h1,h2] at hf;exact hf.elim
 | some a=>
  cases h2:Instr.findNow u x' l' 0 with
  | none=>rw [h1,h2] at hf;exact hf.elim
  | some b=>rw [h1,h2] at hf;exact .pure hf
theorem EsR.nil:EsR C E #[] #[]:=⟨rfl,fun i x x' h=>by simp at h⟩
theorem EsR.push {a a':Array MapEntry} (h:EsR C E a a') {e e':MapEntry} (he:J11 C E e e'):EsR C E (a.push e) (a'.push e'):=by
 refine ⟨by simp [h.size],fun j x x' hx hx'=>?_⟩;rw [Jd1] at hx hx';rw [<- h.size] at hx';split at hx
 ·rename_i e;rw [if_pos e] at hx';cases hx;cases hx';exact he
 ·rename_i e;rw [if_neg e] at hx';exact h.at_ j x x' hx hx'
theorem EsR.modify {a a':Array MapEntry} (h:EsR C E a a') (i:Nat) {f f':MapEntry->MapEntry} (hf:∀ e e',J11 C E e e'->J11 C E (f e) (f' e')):EsR C E (a.modify i f) (a'.modify i f'):=by
 refine ⟨by simp [h.size],fun j x x' hx hx'=>?_⟩;rw [Array.getElem?_modify] at hx hx';by_cases e:i=j
 ·rw [if_pos e] at hx hx';obtain ⟨y,hy,rfl⟩:=Jc0.1 hx;obtain ⟨y',hy',rfl⟩:=Jc0.1 hx';exact hf _ _ (h.at_ j y y' hy hy')
 ·rw [if_neg e] at hx hx';exact h.at_ j x x' hx hx'
theorem EsR.J04 {a a':Array MapEntry} (h:EsR C E a a') {i:Nat} {x:MapEntry} (hx:a[i]?=some x):∃ x',a'[i]?=some x'/\J11 C E x x':=by have hi:i<a.size:=(Ja3.1 hx).1;have hi':i<a'.size:=h.size▸hi;exact ⟨a'[i],by simp [hi'],h.at_ i x _ hx (by simp [hi'])⟩
theorem EsR.J6m {a a':Array MapEntry} (h:EsR C E a a') {i:Nat} (hx:a[i]?=none):a'[i]?=none:=by rw [Jd7] at *;rw [<- h.size];exact hx
theorem J3.J70 {β β':Type} {R:J5->β->β'->Prop} {r r':Nat} (h:E r r') (why:String) {f:Array MapEntry->Nat->Sem β} {f':Array MapEntry->Nat->Sem β'}
  (k:∀ E1,Sub E E1->∀ es es' ck,EsR C E1 es es'->J3 C ok E1 (f es ck) (f' es' ck) R) :
  J3 C ok E (Go.getObj r >>= fun o=>match o with | .map es ck=>f es ck|_=>Go.stuck why) (Go.getObj r' >>= fun o=>match o with | .map es ck=>f' es ck|_=>Go.stuck why) R:=by
 refine J3.bind' (J3.getObj h) fun E1 s o o' ho=>?_;obtain ⟨h3,_⟩:=ho;cases o with
 | map es ck=>obtain ⟨es',rfl,he⟩:=h3;exact k E1 s es es' ck he
 | _=>exact .stuck _
theorem J3.lookup (K:J4y C) (hh:Hnd C E) (t:TypeId) (n:Nat) {x x' k k':Value} (hx:VR C E x x') (hk:VR C E k k') (cok:Bool)
  (hs:C.st=false\/∀ kt e,C.P.underlying t=some (.map kt e)->J28 C.P n kt=true) :
  J3 C ok E (Instr.lookup t x k cok) (Instr.lookup t x' k' cok) (VR C):=by
 unfold Instr.lookup;refine J3.bind' (J3.underlying t) fun E1 s1 u u' hu=>?_;obtain ⟨rfl,hu⟩:=hu;cases u with
 | map kt e=>
  dsimp only
  have hx1:=hx.mono s1;have hk1:=hk.mono s1;have hs':=hs.imp id fun h=>h kt e hu;have tail:∀ E2,Sub E1 E2->∀ es es',EsR C E2 es es'->J3 C ok E2
    (do
     Instr.checkKey es.isEmpty 10000 kt k
     match <- Instr.findKey kt k es.toList with
     | some (_,v)=>do
      let x <- Pure.pure (v,true)
      Pure.pure (if cok then Value.tuple #[x.1,.bool x.2] else x.1)
     | none=>do
      let z <- Go.zeroValue e
      let x <- Pure.pure (z,false)
      Pure.pure (if cok then Value.tuple #[x.1,.bool x.2] else x.1):Sem Value)
    (do
     Instr.checkKey es'.isEmpty 10000 kt k'
     match <- Instr.findKey kt k' es'.toList with
     | some (_,v)=>do
      let x <- Pure.pure (v,true)
      Pure.pure (if cok then Value.tuple #[x.1,.bool x.2] else x.1)
     | none=>do
      let z <- Go.zeroValue e
      let x <- Pure.pure (z,false)
      Pure.pure (if cok then Value.tuple #[x.1,.bool x.2] else x.1):Sem Value) (VR C):=by
   intro E2 s2 es es' hes;rw [show es'.isEmpty=es.isEmpty by simp only [Array.isEmpty,hes.size]];refine J3.bind' (J3.checkKey _ _ kt _ ((hh.mono s1).mono s2) (hk1.mono s2)) fun E3 s3 _ _ _=>?_;refine J3.bind' (J3.findKey kt n (((hh.mono s1).mono s2).mono s3) hs' ((hk1.mono s2).mono s3) (hes.toList.mono s3)) fun E4 s4 z z' hz=>?_;have fin:∀ E (v v':Value) (b:Bool),VR C E v v'->J3 C ok E (Pure.pure (if cok then Value.tuple #[v,.bool b] else v)) (Pure.pure (if cok then Value.tuple #[v',.bool b] else v')) (VR C):=fun E v v' b h=>by
    refine .pure ?_;cases cok with
    | true=>exact .J3f (LR.toArray (l:=[_,_]) (l':=[_,_]) (.cons h (.cons (.bool b) .nil)))
    | false=>exact h
   cases z with
   | none=>
    cases z' with
    | none=>exact J3.bind' (J3.zeroValue K e) fun E5 s5 v v' hv=>fin _ _ _ _ hv
    | some b=>exact hz.elim
   | some a=>
    cases z' with
    | none=>exact hz.elim
    | some b=>exact fin _ _ _ _ hz.2
  cases hx1<;>first
   | exact .stuck _
   | exact tail _ (.refl _) _ _ .nil
   | exact J3.J70 (by assumption) _ fun E2 s2 es es' ck h=>tail E2 s2 _ _ h
   | exact .Jf fun w=>⟨_,w,rfl,by simp⟩
 | _=>exact .stuck _
theorem J6n (n:Nat) (x y:Value) (hx:∀ t v,x≠.iface t v) (hx2:∀ a,x≠.agg a):Instr.sameBits (n+1) x y=Instr.sameBits 0 x y:=by
 cases x with
 | iface t v=>exact absurd rfl (hx t v)
 | agg a=>exact absurd rfl (hx2 a)
 | _=>cases y<;>rfl
theorem Jri {w w':World} (hw:WR C ok E w w') {b b' o:Nat} {s:Option Nat} {c c' p:Nat} {t:Option Nat} (h:E b b') (k:E c c') :
  ((some (⟨b',o,s⟩:Addr)) == some ⟨c',p,t⟩)=((some (⟨b,o,s⟩:Addr)) == some ⟨c,p,t⟩):=by
 by_cases e:b=c
 ·subst e;have:=hw.fn _ _ _ h k;subst this;rw [Bool.eq_iff_iff];simp
 ·have:b'≠c':=fun e'=>e (hw.inj _ _ _ h (e'▸k));rw [Bool.eq_iff_iff];simp [e,this]
theorem J4h {w w':World} (hw:WR C ok E w w') {x x' y y':Value} (hx:VR C E x x') (hy:VR C E y y'):Instr.sameBits 0 x' y'=Instr.sameBits 0 x y:=by
 cases hx with
 | ptr o s h=>
  cases hy with
  | ptr o2 s2 k=>exact Jri hw h k
  | _=>rfl
 | _=>cases hy<;>rfl
theorem J9h (f:Value->Value->Bool) (ih:∀ {x x' y y':Value},VR C E x x'->VR C E y y'->f x' y'=f x y):∀ {l l' m m':List Value},LR C E l l'->LR C E m m' ->
  ((l'.zip m').all fun (x,y)=>f x y)=((l.zip m).all fun (x,y)=>f x y)
 | _,_,_,_,.nil,_=>by simp
 | _,_,_,_,.cons h hl,.nil=>by simp
 | _,_,_,_,.cons h hl,.cons k hm=>by simp only [List.zip_cons_cons,List.all_cons,ih h k,J9h f ih hl hm]
theorem J7n {w w':World} (hw:WR C ok E w w'):∀ (n:Nat) {x x' y y':Value},VR C E x x'->VR C E y y'->Instr.sameBits n x' y'=Instr.sameBits n x y
 | 0,_,_,_,_,hx,hy=>J4h hw hx hy
 | n+1,x,x',y,y',hx,hy=>by
  cases hx with
  | iface t ht h=>
   cases hy with
   | iface u hu k=>
    show (_ == _ && Instr.sameBits n _ _)=(_ == _ && Instr.sameBits n _ _);rw [J7n hw n h k]
   | _=>rfl
  | agg ha hxa=>
   cases hy with
   | agg hb hxb=>
    rename_i a a' b b';show (a'.size == b'.size && ((a'.toList.zip b'.toList).all fun (x,y)=>Instr.sameBits n x y))=(a.size == b.size && ((a.toList.zip b.toList).all fun (x,y)=>Instr.sameBits n x y));rw [J9h (Instr.sameBits n) (fun h k=>J7n hw n h k) (AR.toList ⟨ha,hxa⟩) (AR.toList ⟨hb,hxb⟩),ha,hb]
   | _=>rfl
  | ptr o s h=>rw [J6n _ _ _ (by simp) (by simp),J6n _ _ _ (by simp) (by simp)];exact J4h hw (.ptr o s h) hy
  | func h ha hb hc hd=>rw [J6n _ _ _ (by simp) (by simp),J6n _ _ _ (by simp) (by simp)];exact J4h hw (.func h ha hb hc hd) hy
  | tuple ha hb=>rw [J6n _ _ _ (by simp) (by simp),J6n _ _ _ (by simp) (by simp)];exact J4h hw (.tuple ha hb) hy
  | _=>cases hy<;>rfl
theorem J3.keyThatStays {x x' y y':Value} (hx:VR C E x x') (hy:VR C E y y'):J3 C ok E (Instr.keyThatStays x y) (Instr.keyThatStays x' y') (VR C):=by
 refine .J6z fun w w' hw=>?_;unfold Instr.keyThatStays;rw [J7n hw 10000 hx hy];split
 ·exact .pure hy
 ·refine J3.bind' (J3.choose _) fun E1 s n n' hn=>?_;obtain rfl:n=n':=hn;refine .pure ?_;split
  ·exact hy.mono s
  ·exact hx.mono s
theorem J3.mapUpdate (hh:Hnd C E) (t:TypeId) (n:Nat) {x x' k k' v v':Value} (hx:VR C E x x') (hk:VR C E k k') (hv:VR C E v v')
  (hsh:∀ r,x=.map (some r)->¬ C.Sh r)
  (hs:C.st=false\/∀ kt e,C.P.underlying t=some (.map kt e)->J28 C.P n kt=true) :
  J3 C ok E (Instr.mapUpdate t x k v) (Instr.mapUpdate t x' k' v') (fun _ _ _=>True):=by
 unfold Instr.mapUpdate;refine J3.bind' (J3.underlying t) fun E1 s1 u u' hu=>?_;obtain ⟨rfl,hu⟩:=hu;cases u with
 | map kt e=>
  dsimp only
  have hs':=hs.imp id fun h=>h kt e hu;have hx1:=hx.mono s1;cases hx1<;>first
   | exact .stuck _
   | exact J3.runtimePanic (hh.mono s1) _
   | skip
  rename_i r r' hr;have hsr:=hsh r rfl;refine J3.J70 hr _ fun E2 s2 es es' ck hes=>?_;refine J3.bind' (J3.checkKey _ _ kt _ ((hh.mono s1).mono s2) ((hk.mono s1).mono s2)) fun E3 s3 _ _ _=>?_;refine J3.bind' (J3.findKey kt n (((hh.mono s1).mono s2).mono s3) hs' (((hk.mono s1).mono s2).mono s3) (hes.toList.mono s3)) fun E4 s4 z z' hz=>?_;have Jrj:=(hes.mono s3).mono s4;have hk4:=(((hk.mono s1).mono s2).mono s3).mono s4;have hv4:=(((hv.mono s1).mono s2).mono s3).mono s4;have hr4:=s4 _ _ (s3 _ _ (s2 _ _ hr));cases z with
  | none=>
   cases z' with
   | some b=>exact hz.elim
   | none=>exact J3.setObj hr4 hsr ⟨_,rfl,Jrj.push ⟨hk4,hv4,rfl⟩⟩ (by simp)
  | some a=>
   cases z' with
   | none=>exact hz.elim
   | some b=>
    obtain ⟨i,a⟩:=a;obtain ⟨i',b⟩:=b;obtain rfl:i=i':=hz.1
    dsimp only
    refine J3.bind' (J3.keyThatStays (x:=((es[i]?).map (·.key)).getD k) (x':=((es'[i]?).map (·.key)).getD k') ?_ hk4) fun E5 s5 q q' hq=>?_
    ·cases h:es[i]? with
     | none=>rw [hes.J6m h];exact hk4
     | some e=>obtain ⟨e',he',hr⟩:=Jrj.J04 h;rw [he'];exact hr.key
    ·exact J3.setObj (s5 _ _ hr4) hsr ⟨_,rfl,(Jrj.mono s5).modify i fun e e' h=>⟨hq,hv4.mono s5,h.born⟩⟩ (by simp)
 | _=>exact .stuck _
end
section
variable {C:Cx} {ok:FuncId->Code->Prop} {E:J5}
theorem EsL.toArray {l l':List MapEntry} (h:EsL C E l l'):EsR C E l.toArray l'.toArray:=by
 induction h with
 | nil=>exact .nil
 | cons h _ ih=>
  refine ⟨by simpa using ih.size,fun i y y' hy hy'=>?_⟩;cases i with
  | zero=>simp at hy hy';subst hy;subst hy';exact h
  | succ i=>exact ih.at_ i y y' (by simpa using hy) (by simpa using hy')
theorem EsL.filter {p:MapEntry->Bool} (hp:∀ e e',J11 C E e e'->p e'=p e) {l l':List MapEntry} (h:EsL C E l l'):EsL C E (l.filter p) (l'.filter p):=by
 induction h with
 | nil=>exact .nil
 | cons h _ ih=>
  simp only [List.filter_cons,hp _ _ h];split
  ·exact .cons h ih
  ·exact ih
theorem EsR.filter {p:MapEntry->Bool} (hp:∀ e e',J11 C E e e'->p e'=p e) {a a':Array MapEntry} (h:EsR C E a a'):EsR C E (a.filter p) (a'.filter p):=by
 have:=(h.toList.filter hp).toArray
 rwa [<- Array.toList_filter,<- Array.toList_filter,Array.toArray_toList,Array.toArray_toList] at this
theorem EsL.all {p:MapEntry->Bool} (hp:∀ e e',J11 C E e e'->p e'=p e) {l l':List MapEntry} (h:EsL C E l l'):l'.all p=l.all p:=by
 induction h with
 | nil=>rfl
 | cons h _ ih=>simp only [List.all_cons,hp _ _ h,ih]
theorem EsR.all {p:MapEntry->Bool} (hp:∀ e e',J11 C E e e'->p e'=p e) {a a':Array MapEntry} (h:EsR C E a a'):a'.all p=a.all p:=by have:=h.toList.all hp;simpa using this
theorem EsR.append {a a' b b':Array MapEntry} (h:EsR C E a a') (k:EsR C E b b'):EsR C E (a++b) (a'++b'):=by
 refine ⟨by simp [h.size,k.size],fun j x x' hx hx'=>?_⟩;rw [Array.getElem?_append] at hx hx';rw [<- h.size] at hx';split at hx
 ·rename_i e;rw [if_pos e] at hx';exact h.at_ j x x' hx hx'
 ·rename_i e;rw [if_neg e] at hx';exact k.at_ _ x x' hx hx'
theorem EsR.isEmpty {a a':Array MapEntry} (h:EsR C E a a'):a'.isEmpty=a.isEmpty:=by simp only [Array.isEmpty,h.size]
def Ji9 (C:Cx) (E:J5):Option (Option MapEntry)->Option (Option MapEntry)->Prop
 | none,none=>True
 | some none,some none=>True
 | some (some e),some (some e')=>J11 C E e e'
 | _,_=>False
theorem J036 {es es':Array MapEntry} (h:EsR C E es es') (hd:Array (Option MapEntry)) (hn:∀ x∈hd,x=none) (i:Nat):Ji9 C E ((hd++es.map some)[i]?) ((hd++es'.map some)[i]?):=by
 rw [Array.getElem?_append,Array.getElem?_append];split
 ·cases hx:hd[i]? with
  | none=>exact trivial
  | some x=>rw [hn x (Jc5 hx)];exact trivial
 ·simp only [Array.getElem?_map];cases hx:es[i-hd.size]? with
  | none=>rw [h.J6m hx];exact trivial
  | some x=>obtain ⟨x',hx',hr⟩:=h.J04 hx;rw [hx'];exact hr
theorem Ji9.mono {E1:J5} (s:Sub E E1):∀ {a b:Option (Option MapEntry)},Ji9 C E a b->Ji9 C E1 a b
 | none,none,_=>trivial
 | some none,some none,_=>trivial
 | some (some _),some (some _),h=>J11.mono s h
 | none,some _,h=>h.elim
 | some none,some (some _),h=>h.elim
 | some none,none,h=>h.elim
 | some (some _),none,h=>h.elim
 | some (some _),some none,h=>h.elim
theorem J3.pick {cs cs':Array (Option MapEntry)} (hz:cs'.size=cs.size) (hc:∀ i:Nat,Ji9 C E cs[i]? cs'[i]?) (why:String) {f f':MapEntry->Sem Value} {g g':Sem Value}
  (hf:∀ E1,Sub E E1->∀ e e',J11 C E1 e e'->J3 C ok E1 (f e) (f' e') (VR C)) (hg:∀ E1,Sub E E1->J3 C ok E1 g g' (VR C)) :
  J3 C ok E (Go.choose (.mapNext cs.size) >>= fun i=>match cs[i]? with|some (some e)=>f e|some none=>g|none=>Go.stuck why)
   (Go.choose (.mapNext cs'.size) >>= fun i=>match cs'[i]? with|some (some e)=>f' e|some none=>g'|none=>Go.stuck why) (VR C):=by
 rw [hz];refine J3.bind' (J3.choose _) fun E1 s1 i i' hi=>?_;obtain rfl:i=i':=hi;have h:=(hc i).mono s1;cases h1:cs[i]? with
 | none=>exact .stuck _
 | some e=>
  cases h2:cs'[i]? with
  | none=>rw [h1,h2] at h;cases e<;>exact h.elim
  | some e'=>
   rw [h1,h2] at h;cases e with
   | none=>cases e' with
    | none=>exact hg E1 s1
    | some _=>exact h.elim
   | some e=>cases e' with
    | none=>exact h.elim
    | some e'=>exact hf E1 s1 e e' h
theorem J3.next (hh:Hnd C E) {x x':Value} (hx:VR C E x x') (b:Bool) (t:TypeId):J3 C ok E (Instr.next x b t) (Instr.next x' b t) (VR C):=by
 have over:∀ E,J3 C ok E (Pure.pure (Value.tuple #[.bool false])) (Pure.pure (Value.tuple #[.bool false])) (VR C):=fun E=>.pure (.J3f (.one (.bool false)));unfold Instr.next;cases hx<;>first|exact .stuck _|skip
 rename_i r r' o s h;cases o with
 | succ o=>exact .stuck _
 | zero=>
  refine J3.bind' (J3.getObj h) fun E1 s1 ob ob' ho=>?_;obtain ⟨h3,_⟩:=ho;cases ob with
  | stringIter st pos=>
   obtain ⟨hs,rfl⟩:=h3;cases b with
   | false=>exact .stuck _
   | true=>
    dsimp only
    split
    ·refine J3.bind' (J3.setObj (s1 _ _ h) hs ⟨hs,rfl⟩ (by simp)) fun E2 s2 _ _ _=>?_;exact .pure (.J3f (LR.toArray (l:=[_,_,_]) (l':=[_,_,_]) (.cons (.bool true) (.cons (.int _ _) (.cons (.int _ _) .nil)))))
    ·exact over _
  | mapIter m since seen last=>
   obtain ⟨hs,m',rfl,hm⟩:=h3;cases b with
   | true=>cases m<;>exact .stuck _
   | false=>
    cases m with
    | none=>cases m' with
     | none=>exact over _
     | some _=>exact hm.elim
    | some m=>
     cases m' with
     | none=>exact hm.elim
     | some m'=>
      refine J3.J70 hm _ fun E2 s2 es es' ck hes=>?_
      dsimp only
      have e1:es'.isEmpty=es.isEmpty:=hes.isEmpty;have e2:es'.all (fun e=>decide (e.born>=last))=es.all (fun e=>decide (e.born>=last)):=hes.all fun e e' k=>by rw [k.born]
      rw [e1,e2];have hl:EsR C E2 (es.filter fun e=>!seen.contains e.born) (es'.filter fun e=>!seen.contains e.born):=hes.filter fun e e' k=>by rw [k.born]
      have ho:=hl.filter (p:=fun e=>decide (e.born<since)) fun e e' k=>by rw [k.born]
      have hn:=hl.filter (p:=fun e=>decide (e.born>=since)) fun e e' k=>by rw [k.born]
      have hon:=ho.append hn;split
      ·exact .Jf fun w=>⟨_,w,rfl,by simp⟩
      ·refine J3.pick ?_ (fun i=>?_) _ (fun E3 s3 e e' he=>?_) fun E3 _=>over E3
       ·rw [ho.isEmpty,Array.size_append,Array.size_append,Array.size_map,Array.size_map,hon.size]
       ·rw [ho.isEmpty];exact J036 hon _ (fun x hx=>by split at hx<;>simp at hx;exact hx) i
       ·have hb:e'.born=e.born:=he.born.symm;rw [hb];refine J3.bind' (J3.setObj (s3 _ _ (s2 _ _ (s1 _ _ h))) hs ⟨hs,some m',rfl,s3 _ _ (s2 _ _ hm)⟩ (by simp)) fun E4 s4 _ _ _=>?_;exact .pure (.J3f (LR.toArray (l:=[_,_,_]) (l':=[_,_,_]) (.cons (.bool true) (.cons (he.key.mono s4) (.cons (he.val.mono s4) .nil)))))
  | _=>first|exact h3.elim|(cases b<;>exact .stuck _)
end
section
variable {C:Cx} {ok:FuncId->Code->Prop} {E:J5}
def J37 (C:Cx) (v:Value):Prop:=(∀ r,v=.map (some r)->¬ C.Sh r)/\v≠.nilIface
inductive L2 {β β':Type} (R:β->β'->Prop):List β->List β'->Prop
 | nil:L2 R [] []
 | cons {a b l l'} (h:R a b) (hl:L2 R l l'):L2 R (a::l) (b::l')
theorem J3.Jia {α β:Type} {R:J5->β->β->Prop} (hm:∀ E E1 b b',Sub E E1->R E b b'->R E1 b b') {f:α->Sem β} (hf:∀ x E,J3 C ok E (f x) (f x) (fun _ a a'=>a=a')) :
  ∀ (l:List α) (E:J5),J3 C ok E (l.mapM f) (l.mapM f) (fun _ a a'=>a=a')
 | [],E=>by simp only [List.mapM_nil];exact .pure rfl
 | x::l,E=>by simp only [List.mapM_cons];refine J3.bind' (hf x E) fun E1 s1 a a' ha=>?_;obtain rfl:a=a':=ha;refine J3.bind' (J3.Jia hm hf l E1) fun E2 s2 b b' hb=>?_;obtain rfl:b=b':=hb;exact .pure rfl
theorem Jib {p:MapEntry->Bool} (hp:∀ e e',J11 C E e e'->p e'=p e):∀ {l l':List MapEntry},EsL C E l l'->J0m (J11 C E) (l.find? p) (l'.find? p)
 | _,_,.nil=>trivial
 | _,_,.cons h hl=>by
  simp only [List.find?_cons,hp _ _ h];split
  ·exact h
  ·exact Jib hp hl
theorem J3.entry {x x':Value} (hx:VR C E x x'):J3 C ok E (Instr.entry x) (Instr.entry x') (VR C):=by
 unfold Instr.entry;cases hx<;>first|exact .stuck _|skip
 rename_i r r' o s h;cases o with
 | succ o=>exact .stuck _
 | zero=>
  refine J3.bind' (J3.getObj h) fun E1 s1 ob ob' ho=>?_;obtain ⟨h3,_⟩:=ho;cases ob with
  | mapIter m since seen last=>
   obtain ⟨hs,m',rfl,hm⟩:=h3;cases m with
   | none=>cases m' with
    | none=>exact .stuck _
    | some _=>exact hm.elim
   | some m=>
    cases m' with
    | none=>exact hm.elim
    | some m'=>
     dsimp only
     cases seen.back? with
     | none=>exact .stuck _
     | some st=>
      refine J3.J70 hm _ fun E2 s2 es es' ck hes=>?_;split
      ·exact .Jf fun w=>⟨_,w,rfl,by simp⟩
      ·have h1:=Jib (p:=fun e=>e.born == st) (fun e e' k=>by rw [k.born]) hes.toList;simp only [Array.find?_toList] at h1;cases e1:es.find? (fun e=>e.born == st) with
       | none=>cases e2:es'.find? (fun e=>e.born == st) with
        | none=>exact .unsupported _
        | some _=>rw [e1,e2] at h1;exact h1.elim
       | some e=>cases e2:es'.find? (fun e=>e.born == st) with
        | none=>rw [e1,e2] at h1;exact h1.elim
        | some e'=>
         rw [e1,e2] at h1;exact .pure (.J3f (LR.toArray (l:=[_,_]) (l':=[_,_]) (.cons h1.key (.cons h1.val .nil))))
  | _=>first|exact h3.elim|exact .stuck _
theorem J3.range (hh:Hnd C E) (t:TypeId) {x x':Value} (hx:VR C E x x'):J3 C ok E (Instr.range t x) (Instr.range t x') (VR C):=by
 unfold Instr.range;refine J3.bind' (J3.underlying t) fun E1 s1 u u' hu=>?_;obtain ⟨rfl,_⟩:=hu;have hh1:=hh.mono s1;have fin:∀ E2,Sub E1 E2->∀ o o',(∀ b,¬ C.Sh b->J3g C ok E2 b o o')->J3 C ok E2 (do Pure.pure (Value.pointer (some ⟨<- Go.newObj o,0,none⟩))) (do Pure.pure (Value.pointer (some ⟨<- Go.newObj o',0,none⟩))) (VR C):=fun E2 s2 o o' h=>
  J3.bind' (J3.newObj (hh1.mono s2) h) fun E3 _ r r' hr=>.pure (.ptr 0 none hr.1)
 have hx1:=hx.mono s1;cases u with
 | string=>
  cases hx1<;>first
   | exact .stuck _
   | exact fin _ (.refl _) _ _ fun b h1=>⟨h1,rfl⟩
   | exact .Jf fun w=>⟨_,w,rfl,by simp⟩
 | map k e=>
  cases hx1<;>first
   | exact .stuck _
   | exact fin _ (.refl _) _ _ fun b h1=>⟨h1,none,rfl,trivial⟩
   | exact J3.J70 (by assumption) _ fun E2 s2 es es' ck h=>fin _ s2 _ _ fun b h1=>⟨h1,_,rfl,s2 _ _ (by assumption)⟩
   | exact .Jf fun w=>⟨_,w,rfl,by simp⟩
 | _=>cases hx1<;>exact .Jf fun w=>⟨_,w,rfl,by simp⟩
theorem J3.makeMap (hh:Hnd C E) (t:TypeId) {x x':Option Value} (hx:J0m (VR C E) x x'):J3 C ok E (Instr.makeMap t x) (Instr.makeMap t x') (fun E1 v v'=>VR C E1 v v'/\J37 C v):=by
 unfold Instr.makeMap;have fin:∀ E2,Sub E E2->J3 C ok E2 (do Pure.pure (Value.map (some (<- Go.newObj (.map #[] 0))))) (do Pure.pure (Value.map (some (<- Go.newObj (.map #[] 0))))) (fun E1 v v'=>VR C E1 v v'/\J37 C v):=fun E2 s2=>
  J3.bind' (J3.newObj (hh.mono s2) fun b h1=>⟨#[],rfl,.nil⟩) fun E3 _ r r' hr=>.pure ⟨.map hr.1,⟨fun q hq=>by cases hq;exact hr.2,by simp⟩⟩
 cases x with
 | none=>cases x' with
  | none=>exact fin _ (.refl _)
  | some _=>exact hx.elim
 | some v=>cases x' with
  | none=>exact hx.elim
  | some v'=>
   refine J3.bind' (J3.underlying t) fun E1 s1 u u' hu=>?_;obtain ⟨rfl,_⟩:=hu;cases u with
   | map k e=>exact J3.bind' (J3.asInt (VR.mono s1 hx)) fun E2 s2 _ _ _=>fin _ (s1.trans s2)
   | _=>exact .Jf fun w=>⟨_,w,rfl,by simp⟩
theorem J3.alloc (K:J4y C) (hh:Hnd C E) (t:TypeId):J3 C ok E (Instr.alloc t true (.tuple #[])) (Instr.alloc t true (.tuple #[])) (VR C):=by unfold Instr.alloc;refine J3.bind' (J3.zeroValue K t) fun E1 s1 v v' hv=>?_;exact J3.bind' (J3.newVar (hh.mono s1) t hv) fun E2 s2 a a' ha=>.pure (.J3w ha.1)
theorem J3.box (hh:Hnd C E) (t:TypeId) {v v':Value} (hv:VR C E v v'):J3 C ok E (Instr.box t v) (Instr.box t v') (VR C):=by unfold Instr.box;exact J3.bind' (J3.newVar hh t hv) fun E2 s2 a a' ha=>.pure (.J3w ha.1)
inductive J46 (C:Cx) (E:J5):List (Nat × Value)->List (Nat × Value)->Prop
 | nil:J46 C E [] []
 | cons {i v v' l l'} (h:VR C E v v') (hl:J46 C E l l'):J46 C E ((i,v)::l) ((i,v')::l')
theorem J46.mono {E1:J5} (s:Sub E E1) {l l'} (h:J46 C E l l'):J46 C E1 l l':=by
 induction h with
 | nil=>exact .nil
 | cons h _ ih=>exact .cons (h.mono s) ih
theorem Jl1 (off:Nat):∀ {l l':List Value} (j:Nat) {a a':Array Value},LR C E l l'->AR C E a a' ->
  AR C E ((l.zipIdx j).foldl (fun cs (c,j)=>cs.setIfInBounds (off+j) c) a) ((l'.zipIdx j).foldl (fun cs (c,j)=>cs.setIfInBounds (off+j) c) a')
 | _,_,_,_,_,.nil,h=>h
 | _,_,j,_,_,.cons k hl,h=>by simp only [List.zipIdx_cons,List.foldl_cons];exact Jl1 off (j+1) hl (h.set _ k)
theorem J8n (place:Nat->Option (Nat × Nat)):∀ {l l':List (Nat × Value)} {a a':Array Value},J46 C E l l'->AR C E a a'->J0m (AR C E) (Instr.fill place a l) (Instr.fill place a' l')
 | _,_,_,_,.nil,h=>h
 | _,_,a,a',.cons (i:=i) (v:=v) (v':=v') k hl,h=>by
  have hc:=AR.cells k;simp only [Instr.fill];cases place i with
  | none=>trivial
  | some p=>
   obtain ⟨off,size⟩:=p
   dsimp only
   rw [<- hc.size,<- h.size];split
   ·trivial
   ·refine J8n place hl ?_;have:=Jl1 (C:=C) (E:=E) off 0 (AR.toList hc) h;rw [<- Array.foldl_toList,<- Array.foldl_toList,Array.toList_zipIdx,Array.toList_zipIdx];exact this
theorem J3.build (K:J4y C) (t:TypeId) {p p':Array (Nat × Value)} (hp:J46 C E p.toList p'.toList):J3 C ok E (Instr.build t p) (Instr.build t p') (VR C):=by
 unfold Instr.build;refine J3.bind' (J3.zeroValue K t) fun E1 s1 z z' hz=>?_;have hzc:=AR.cells hz;refine J3.bind' (J3.underlying t) fun E2 s2 u u' hu=>?_;obtain ⟨rfl,_⟩:=hu;cases u with
 | struct fs=>
  dsimp only
  refine J3.bind' (R:=fun _ a a'=>a=a') ?_ fun E3 s3 pl pl' hpl=>?_
  ·rw [Array.mapM_eq_mapM_toList];refine (J3.map (J3.Jia (R:=fun _ a a'=>a=a') (fun _ _ _ _ _ h=>h) (fun f E=>J3.bind' (J3.sizeOf f.type) fun _ _ n n' hn=>?_) _ _)).mono ?_
   ·obtain rfl:n=n':=hn;exact .pure rfl
   ·rintro E4 _ _ _ ⟨a,a',h,rfl,rfl⟩;exact congrArg List.toArray h
  ·obtain rfl:pl=pl':=hpl;have:=J8n (pl[·]?) ((((hp.mono s1).mono s2).mono s3)) ((hzc.mono s2).mono s3);cases e1:Instr.fill (pl[·]?) z.cells p.toList with
   | none=>exact .stuck _
   | some c=>cases e2:Instr.fill (pl[·]?) z'.cells p'.toList with
    | none=>rw [e1,e2] at this;exact this.elim
    | some c'=>rw [e1,e2] at this;exact .pure (.J32 this)
 | array n e=>
  dsimp only
  refine J3.bind' (J3.sizeOf e) fun E3 s3 n n' hn=>?_;obtain rfl:n=n':=hn;have:=J8n (fun i=>some (i*n,n)) ((((hp.mono s1).mono s2).mono s3)) ((hzc.mono s2).mono s3);cases e1:Instr.fill (fun i=>some (i*n,n)) z.cells p.toList with
  | none=>exact .stuck _
  | some c=>cases e2:Instr.fill (fun i=>some (i*n,n)) z'.cells p'.toList with
   | none=>rw [e1,e2] at this;exact this.elim
   | some c'=>rw [e1,e2] at this;exact .pure (.J32 this)
 | _=>exact .stuck _
theorem rangeMap {a a':Array Value} (h:AR C E a a') (n:Nat):AR C E ((Array.range n).map (a[· % a.size]!)) ((Array.range n).map (a'[· % a'.size]!)):=by
 refine AR.map _ fun i _=>?_;rw [h.size];by_cases hz:a.size=0
 ·have hz':a'.size=0:=h.size▸hz;rw [getElem!_neg a _ (by omega),getElem!_neg a' _ (by omega)];exact .bool false
 ·have hlt:i % a'.size<a.size:=by rw [<- h.size];exact Nat.mod_lt _ (by omega)
  have hlt':i % a'.size<a'.size:=h.size▸hlt;rw [getElem!_pos a _ hlt,getElem!_pos a' _ hlt'];exact h.at_ _ _ _ (Ja4 hlt) (Ja4 hlt')
theorem J3.buildSlice (K:J4y C) (hh:Hnd C E) (t:TypeId) (len:Nat) {p p':Array (Nat × Value)} (hp:J46 C E p.toList p'.toList):J3 C ok E (Instr.buildSlice t len p) (Instr.buildSlice t len p') (VR C):=by
 unfold Instr.buildSlice;refine J3.bind' (J3.underlying t) fun E1 s1 u u' hu=>?_;obtain ⟨rfl,_⟩:=hu;cases u with
 | slice e=>
  dsimp only
  refine J3.bind' (J3.sizeOf e) fun E2 s2 n n' hn=>?_;obtain rfl:n=n':=hn;have fin:∀ E3,Sub E2 E3->∀ z z',AR C E3 z z'->J3 C ok E3
    (match Instr.fill (fun i=>some (i*n,n)) ((Array.range (len*n)).map (z[· % z.size]!)) p.toList with|some cells=>(do Pure.pure (Value.slice (some (<- Go.newRow e cells)) len len))|_=>Go.stuck "buildSlice: a part of the wrong size")
    (match Instr.fill (fun i=>some (i*n,n)) ((Array.range (len*n)).map (z'[· % z'.size]!)) p'.toList with|some cells=>(do Pure.pure (Value.slice (some (<- Go.newRow e cells)) len len))|_=>Go.stuck "buildSlice: a part of the wrong size") (VR C):=by
   intro E3 s3 z z' hz;have:=J8n (fun i=>some (i*n,n)) ((((hp.mono s1).mono s2).mono s3)) (rangeMap hz (len*n));cases e1:Instr.fill (fun i=>some (i*n,n)) ((Array.range (len*n)).map (z[· % z.size]!)) p.toList with
   | none=>exact .stuck _
   | some c=>cases e2:Instr.fill (fun i=>some (i*n,n)) ((Array.range (len*n)).map (z'[· % z'.size]!)) p'.toList with
    | none=>rw [e1,e2] at this;exact this.elim
    | some c'=>rw [e1,e2] at this;exact J3.bind' (J3.newRow (((hh.mono s1).mono s2).mono s3) e this) fun E4 _ a a' ha=>.pure (.of_slice ha.1 _ _)
  split
  ·exact .Jf fun w=>⟨_,w,rfl,by simp⟩
  ·split
   ·exact J3.bind' (R:=AR C) (.pure .nil) fun E3 s3 z z' hz=>fin _ s3 _ _ hz
   ·exact J3.bind' (J3.zeroValue K e) fun E3 s3 z z' hz=>J3.bind' (R:=AR C) (.pure (AR.cells hz)) fun E4 s4 z z' hz=>fin _ (s3.trans s4) _ _ hz
 | _=>exact .Jf fun w=>⟨_,w,rfl,by simp⟩
end
end Go.Sim
