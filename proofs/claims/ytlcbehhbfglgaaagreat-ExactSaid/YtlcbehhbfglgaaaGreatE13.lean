/- PROVED HERE: laws that the statement rests on (parts Sl, Sm). Conditions: none. -/
import Derived.Test.YtlcbehhbfglgaaaGreatE12
set_option linter.all false
namespace Go.Sim
section
variable {C:Cx} {ok:FuncId→Code→Prop} {E:BRel}
theorem SimR.asNumber (hh:Hnd C E) {a a':Addr} (h:AddrR E a a') (l:Bool):SimR C ok E (Go.asNumber a l) (Go.asNumber a' l) (VR C):=
 SimR.bind' (SimR.newObj hh fun b hs=>⟨hs,a',rfl,h⟩) fun E1 s r r' hr=>.pure (.ptr 0 none hr.1)
theorem SimR.unsafeAdd (t:TypeId) {a a':Addr} (h:AddrR E a a') {y y':Value} (hy:VR C E y y') :
  SimR C ok E (Builtin.unsafeAdd_ #[] t #[.pointer (some a),y]) (Builtin.unsafeAdd_ #[] t #[.pointer (some a'),y']) (VR C):=by
 unfold Builtin.unsafeAdd_
 refine SimR.bind' (SimR.asInt hy) fun E1 s1 n n' hn=>?_
 obtain rfl:n=n':=hn
 dsimp only
 split
 ·refine SimR.bind' (SimR.viewAt (s1 _ _ h.block)) fun E2 s2 x x' hx=>?_
  obtain ⟨rfl,rfl⟩:=hx
  exact .pure (.of_addr ((h.mono s1).mono s2))
 ·split
  ·exact .of_halts fun w=>⟨_,w,rfl,by simp⟩
  ·refine SimR.bind' (SimR.shape (s1 _ _ h.block)) fun E2 s2 x x' hx=>?_
   obtain rfl:x=x':=hx
   split
   ·refine SimR.bind' (R:=fun _ p p'=>p=C.P∧p'=C.P) (.program ⟨rfl,rfl⟩) fun E3 s3 p p' hp'=>?_
    obtain ⟨rfl,rfl⟩:=hp'
    rw [← h.off]
    split
    ·exact .pure (.of_addr ⟨s3 _ _ (s2 _ _ (s1 _ _ h.block)),rfl,h.spot⟩)
    ·exact .unsupported _
   ·exact .unsupported _
theorem SimR.movedNumber (hh:Hnd C E) (t:TypeId) {a a':Addr} (h:AddrR E a a') {y y':Value} (hy:VR C E y y') :
  SimR C ok E (Go.movedNumber t (.pointer (some a)) y) (Go.movedNumber t (.pointer (some a')) y') (VR C):=by
 unfold Go.movedNumber
 refine SimR.bind' (SimR.underlying t) fun E1 s1 u u' hu=>?_
 obtain ⟨rfl,hu⟩:=hu
 have fin:∀ E2,Sub E1 E2→SimR C ok E2 (do
   let x ← Go.behindNumber a
   match x with
   | (a,lost)=>do
    match ← Builtin.unsafeAdd_ #[] t #[.pointer (some a),y] with
    | .pointer (some b)=>Go.asNumber b lost
    | v=>Pure.pure v:Sem Value) (do
   let x ← Go.behindNumber a'
   match x with
   | (a,lost)=>do
    match ← Builtin.unsafeAdd_ #[] t #[.pointer (some a),y'] with
    | .pointer (some b)=>Go.asNumber b lost
    | v=>Pure.pure v:Sem Value) (VR C):=by
  intro E2 s2
  refine SimR.bind' (SimR.behindNumber ((h.mono s1).mono s2)) fun E3 s3 p p' hp=>?_
  obtain ⟨p,l⟩:=p
  obtain ⟨p',l'⟩:=p'
  obtain ⟨h1,h2⟩:=hp
  obtain rfl:l=l':=h2
  refine SimR.bind' (SimR.unsafeAdd t h1 (((hy.mono s1).mono s2).mono s3)) fun E4 s4 v v' hv=>?_
  cases hv with
  | ptr o s k=>exact SimR.asNumber ((((hh.mono s1).mono s2).mono s3).mono s4) (a:=⟨_,o,s⟩) (a':=⟨_,o,s⟩) ⟨k,rfl,rfl⟩ _
  | bool b=>exact .pure (.bool b)
  | int k n=>exact .pure (.int k n)
  | string x=>exact .pure (.string x)
  | nilPtr=>exact .pure .nilPtr
  | nilSlice l c=>exact .pure (.nilSlice l c)
  | slice o p l c h=>exact .pure (.slice o p l c h)
  | nilMap=>exact .pure .nilMap
  | map h=>exact .pure (.map h)
  | nilFunc=>exact .pure .nilFunc
  | nilChan=>exact .pure .nilChan
  | func h ha hx hc hy=>exact .pure (.func h ha hx hc hy)
  | iface t ht h=>exact .pure (.iface t ht h)
  | nilIface=>exact .pure .nilIface
  | agg ha hx=>exact .pure (.agg ha hx)
  | tuple ha hx=>exact .pure (.tuple ha hx)
 dsimp only
 split
 ·exact .of_halts fun w=>⟨_,w,rfl,by simp⟩
 ·exact fin _ (.refl _)
theorem SimR.movedPointer (t:TypeId) {a a':Addr} (h:AddrR E a a') {y y':Value} (hy:VR C E y y') :
  SimR C ok E (Go.movedPointer t (.pointer (some a)) y) (Go.movedPointer t (.pointer (some a')) y') (VR C):=by
 unfold Go.movedPointer
 refine SimR.bind' (SimR.numberAt h.block) fun E1 s1 x x' hx=>?_
 cases x with
 | none=>cases x' with
  | none=>exact SimR.unsafeAdd t (h.mono s1) (hy.mono s1)
  | some _=>exact hx.elim
 | some p=>cases x' with
  | none=>exact hx.elim
  | some p'=>exact .of_halts fun w=>⟨_,w,rfl,by simp⟩
theorem SimR.unsafeAddNil (t:TypeId) {y y':Value} (hy:VR C E y y') :
  SimR C ok E (Builtin.unsafeAdd_ #[] t #[.pointer none,y]) (Builtin.unsafeAdd_ #[] t #[.pointer none,y']) (VR C):=by
 unfold Builtin.unsafeAdd_
 refine SimR.bind' (SimR.asInt hy) fun E1 s1 n n' hn=>?_
 obtain rfl:n=n':=hn
 dsimp only
 split
 ·exact .of_halts fun w=>⟨_,w,rfl,by simp⟩
 ·split
  ·exact .of_halts fun w=>⟨_,w,rfl,by simp⟩
  ·exact .of_halts fun w=>⟨_,w,rfl,by simp⟩
theorem SimR.movedNumberNil (t:TypeId) {y y':Value} (hy:VR C E y y'):SimR C ok E (Go.movedNumber t (.pointer none) y) (Go.movedNumber t (.pointer none) y') (VR C):=by
 unfold Go.movedNumber
 refine SimR.bind' (SimR.underlying t) fun E1 s1 u u' hu=>?_
 obtain ⟨rfl,hu⟩:=hu
 dsimp only
 split
 ·exact .of_halts fun w=>⟨_,w,rfl,by simp⟩
 ·exact SimR.unsafeAddNil t (hy.mono s1)
theorem SimR.movedPointerNil (t:TypeId) {y y':Value} (hy:VR C E y y'):SimR C ok E (Go.movedPointer t (.pointer none) y) (Go.movedPointer t (.pointer none) y') (VR C):=by
 unfold Go.movedPointer
 exact SimR.unsafeAddNil t hy
theorem SimR.twoPlaces {a a' b b':Addr} (h:AddrR E a a') (k:AddrR E b b'):SimR C ok E (Op.twoPlaces a b) (Op.twoPlaces a' b') (fun _ x x'=>x=x'):=by
 refine .of_world fun w w' hw=>?_
 unfold Op.twoPlaces
 refine SimR.bind' (R:=fun _ p p'=>p=C.P∧p'=C.P) (.program ⟨rfl,rfl⟩) fun E3 s3 p p' hp'=>?_
 obtain ⟨rfl,rfl⟩:=hp'
 have hb:(a'.block != b'.block)=(a.block != b.block):=by
  by_cases e:a.block=b.block
  ·have:a'.block=b'.block:=hw.fn _ _ _ h.block (e▸k.block)
   simp [e,this]
  ·have:a'.block≠b'.block:=fun e'=>e (hw.inj _ _ _ h.block (e'▸k.block))
   rw [bne_iff_ne.2 this,bne_iff_ne.2 e]
 by_cases hst:C.st=false
 ·rw [h.eq_of_lax hw hst,k.eq_of_lax hw hst]
  have ha4:AddrR E a a:=by have:=h;rwa [h.eq_of_lax hw hst] at this
  have hb4:AddrR E b b:=by have:=k;rwa [k.eq_of_lax hw hst] at this
  split
  ·exact .of_halts fun w=>⟨_,w,rfl,by simp⟩
  ·refine SimR.bind' (SimR.byteOf (ha4.mono s3)) fun E4 s4 x x' hx=>?_
   obtain rfl:x=x':=hx
   refine SimR.bind' (SimR.byteOf ((hb4.mono s3).mono s4)) fun E5 s5 x x' hx=>?_
   obtain rfl:x=x':=hx
   exact .pure rfl
 ·have g:=hw.glob (by simpa using hst) _ _ h.block
  rw [if_pos (by simp;exact .inr g.1)]
  exact .of_halts fun w=>⟨_,w,rfl,by simp⟩
theorem SimR.addrSub (k:IntKind) {a a' b b':Addr} (h:AddrR E a a') (g:AddrR E b b'):SimR C ok E (Op.addrSub k a b) (Op.addrSub k a' b') (VR C):=by
 unfold Op.addrSub
 refine SimR.bind' (SimR.twoPlaces h g) fun E1 s1 x x' hx=>?_
 obtain rfl:x=x':=hx
 exact .pure (.int _ _)
theorem SimR.addrCmp (op:BinOp) {a a' b b':Addr} (h:AddrR E a a') (g:AddrR E b b'):SimR C ok E (Op.addrCmp op a b) (Op.addrCmp op a' b') (VR C):=by
 unfold Op.addrCmp
 refine SimR.bind' (SimR.twoPlaces h g) fun E1 s1 x x' hx=>?_
 obtain rfl:x=x':=hx
 dsimp only
 split<;>first|exact .pure (.bool _)|exact .unsupported _
theorem SimR.addrMod (k:IntKind) {a a':Addr} (h:AddrR E a a') (n:Int):SimR C ok E (Op.addrMod k a n) (Op.addrMod k a' n) (VR C):=by
 unfold Op.addrMod
 refine SimR.bind' (SimR.shape h.block) fun E1 s1 x x' hx=>?_
 obtain rfl:x=x':=hx
 split
 ·refine SimR.bind' (SimR.typeInfo _) fun E2 s2 i i' hi=>?_
  obtain ⟨rfl,_⟩:=hi
  dsimp only
  split
  ·exact .of_halts fun w=>⟨_,w,rfl,by simp⟩
  ·refine SimR.bind' (SimR.byteOf ((h.mono s1).mono s2)) fun E3 s3 x x' hx=>?_
   obtain rfl:x=x':=hx
   exact .pure (.int _ _)
 ·exact .unsupported _
set_option maxHeartbeats 2000000 in
theorem SimR.binOp (hh:Hnd C E) (op:BinOp) (t:TypeId) {x x' y y':Value} (hx:VR C E x x') (hy:VR C E y y') (hs:(op=.eql∨op=.neq)→EqSafe C t y) :
  SimR C ok E (Go.binOp op t x y) (Go.binOp op t x' y') (VR C):=by
 by_cases he:op=.eql
 ·subst he
  have e:SimR C ok E (do Pure.pure (Value.bool (← Op.equal t x y))) (do Pure.pure (Value.bool (← Op.equal t x' y'))) (VR C):=
   SimR.bind' (SimR.equal hh t hx hy (hs (.inl rfl))) fun _ _ b b' hb=>by subst hb;exact .pure (.bool _)
  unfold Go.binOp
  cases hx with
  | int k n=>
   cases hy with
   | int k' n'=>
    dsimp only
    split
    ·exact .stuck _
    ·exact SimR.intCmp _ _ _
   | _=>exact e
  | string a=>
   cases hy with
   | string b=>exact SimR.stringOp _ _ _
   | _=>exact e
  | _=>cases hy<;>exact e
 by_cases hn:op=.neq
 ·subst hn
  have e:SimR C ok E (do Pure.pure (Value.bool (!(← Op.equal t x y)))) (do Pure.pure (Value.bool (!(← Op.equal t x' y')))) (VR C):=
   SimR.bind' (SimR.equal hh t hx hy (hs (.inr rfl))) fun _ _ b b' hb=>by subst hb;exact .pure (.bool _)
  unfold Go.binOp
  cases hx with
  | int k n=>
   cases hy with
   | int k' n'=>
    dsimp only
    split
    ·exact .stuck _
    ·exact SimR.intCmp _ _ _
   | _=>exact e
  | string a=>
   cases hy with
   | string b=>exact SimR.stringOp _ _ _
   | _=>exact e
  | _=>cases hy<;>exact e
 unfold Go.binOp
 cases hx with
 | int k n=>
  cases hy with
  | int k' n'=>
   cases op<;>first
    | exact SimR.shift hh _ _ _ _ _
    | (dsimp only;split<;>first|exact .stuck _|exact SimR.intArith _ _ _ _|exact SimR.intDiv hh _ _ _ _|exact SimR.intBits _ _ _ _|exact SimR.intCmp _ _ _)
  | ptr o s h=>
   have ha:AddrR E ⟨_,o,s⟩ ⟨_,o,s⟩:=⟨h,rfl,rfl⟩
   cases op<;>first
    | exact .unsupported _
    | exact SimR.movedNumber hh t ha (.int k n)
    | (refine SimR.bind' (SimR.behindNumber ha) fun E1 s1 p p' hp=>?_;exact SimR.addrMod k hp.1 _)
    | exact absurd rfl he
    | exact absurd rfl hn
  | nilPtr=>
   have add:=SimR.movedNumberNil (C:=C) (ok:=ok) (E:=E) t (.int k n)
   cases op<;>first
    | exact .unsupported _
    | exact add
    | exact .stuck _
    | exact absurd rfl he
    | exact absurd rfl hn
  | _=>cases op<;>first|exact .stuck _|exact absurd rfl he|exact absurd rfl hn
 | string a=>
  cases hy with
  | string b=>cases op<;>exact SimR.stringOp _ _ _
  | nilPtr=>cases op<;>first|exact .unsupported _|exact absurd rfl he|exact absurd rfl hn
  | ptr o s h=>cases op<;>first|exact .unsupported _|exact absurd rfl he|exact absurd rfl hn
  | _=>cases op<;>first|exact .stuck _|exact absurd rfl he|exact absurd rfl hn
 | ptr o s h=>
  rename_i c0 c0'
  have ha:AddrR E ⟨c0,o,s⟩ ⟨c0',o,s⟩:=⟨h,rfl,rfl⟩
  cases hy with
  | int k n=>
   have add:SimR C ok E (do if (← Go.underlying t) matches .unsafePointer then Go.movedPointer t (.pointer (some ⟨c0,o,s⟩)) (.int k n) else Go.movedNumber t (.pointer (some ⟨c0,o,s⟩)) (.int k n)) (do if (← Go.underlying t) matches .unsafePointer then Go.movedPointer t (.pointer (some ⟨c0',o,s⟩)) (.int k n) else Go.movedNumber t (.pointer (some ⟨c0',o,s⟩)) (.int k n)) (VR C):=by
    refine SimR.bind' (SimR.underlying t) fun E1 s1 u u' hu=>?_
    obtain ⟨rfl,hu⟩:=hu
    split
    ·exact SimR.movedPointer t (ha.mono s1) (.int k n)
    ·exact SimR.movedNumber (hh.mono s1) t (ha.mono s1) (.int k n)
   cases op<;>first
    | exact .unsupported _
    | exact add
    | exact SimR.movedNumber hh t ha (.int k (-n))
    | (refine SimR.bind' (SimR.behindNumber ha) fun E1 s1 p p' hp=>?_;exact SimR.addrMod k hp.1 _)
    | exact absurd rfl he
    | exact absurd rfl hn
  | ptr o2 s2 h2=>
   have hb:AddrR E ⟨_,o2,s2⟩ ⟨_,o2,s2⟩:=⟨h2,rfl,rfl⟩
   cases op<;>first
    | exact .unsupported _
    | (refine SimR.bind' (SimR.behindNumber ha) fun E1 s1 p p' hp=>?_;refine SimR.bind' (SimR.behindNumber (hb.mono s1)) fun E2 s2 q q' hq=>?_;exact SimR.addrSub _ (hp.1.mono s2) hq.1)
    | (refine SimR.bind' (SimR.behindNumber ha) fun E1 s1 p p' hp=>?_;refine SimR.bind' (SimR.behindNumber (hb.mono s1)) fun E2 s2 q q' hq=>?_;exact SimR.addrCmp _ (hp.1.mono s2) hq.1)
    | exact absurd rfl he
    | exact absurd rfl hn
  | _=>cases op<;>first|exact .unsupported _|exact absurd rfl he|exact absurd rfl hn
 | nilPtr=>
  cases hy with
  | int k n=>
   have add:SimR C ok E (do if (← Go.underlying t) matches .unsafePointer then Go.movedPointer t (.pointer none) (.int k n) else Go.movedNumber t (.pointer none) (.int k n)) (do if (← Go.underlying t) matches .unsafePointer then Go.movedPointer t (.pointer none) (.int k n) else Go.movedNumber t (.pointer none) (.int k n)) (VR C):=by
    refine SimR.bind' (SimR.underlying t) fun E1 s1 u u' hu=>?_
    obtain ⟨rfl,hu⟩:=hu
    split
    ·exact SimR.movedPointerNil t (.int k n)
    ·exact SimR.movedNumberNil t (.int k n)
   cases op<;>first
    | exact .unsupported _
    | exact add
    | exact SimR.movedNumberNil t (.int k (-n))
    | exact absurd rfl he
    | exact absurd rfl hn
  | _=>cases op<;>first|exact .unsupported _|exact absurd rfl he|exact absurd rfl hn
 | _=>
  cases hy with
  | nilPtr=>cases op<;>first|exact .unsupported _|exact absurd rfl he|exact absurd rfl hn
  | ptr o s h=>cases op<;>first|exact .unsupported _|exact absurd rfl he|exact absurd rfl hn
  | _=>cases op<;>first|exact .stuck _|exact absurd rfl he|exact absurd rfl hn
def convOk (P:Program) (src dst:TypeId):Bool:=
 match P.underlying src,P.underlying dst with
 | some (.int _),some (.int _)=>true
 | some .string,some .string=>true
 | some (.slice e),some .string=>(match P.underlying e with|some (.int .u8)=>true|_=>false)
 | some .string,some (.slice e)=>(match P.underlying e with|some (.int .u8)=>true|_=>false)
 | _,_=>false
theorem SimR.bytesToString {x x':Value} (hx:VR C E x x'):SimR C ok E (Conv.bytesToString x) (Conv.bytesToString x') (VR C):=by
 unfold Conv.bytesToString
 cases hx with
 | nilSlice l c=>exact .pure (.string _)
 | slice o s l c h=>
  dsimp only
  refine SimR.bind' (SimR.loadCells l (a:=⟨_,o,s⟩) (a':=⟨_,o,s⟩) ⟨h,rfl,rfl⟩) fun E1 s1 a a' ha=>?_
  refine SimR.bind' (R:=fun _ z z'=>z=z') ?_ fun E2 s2 z z' hz=>?_
  ·rw [← Array.forIn_toList,← Array.forIn_toList]
   refine SimR.forInLR (fun _ _ _ _ _ h=>h) _ _ _ _ _ ha.toList (fun v v' E3 s3 hv q q' hq=>?_) rfl
   obtain rfl:q=q':=hq
   cases hv with
   | int k n=>cases k<;>first|exact .of_halts fun w=>⟨_,w,rfl,by simp⟩|exact .pure (.yield rfl)
   | _=>exact .of_halts fun w=>⟨_,w,rfl,by simp⟩
  ·obtain rfl:z=z':=hz
   exact .pure (.string _)
 | _=>exact .stuck _
theorem WR.freeze {w w':World} (hw:WR C ok E w w') (hst:C.st=false) {b b':Nat} (h:E b b') (hs:¬ C.Sh b) (o n:Nat) :
  WR C ok E (w.freeze ⟨b,o,none⟩ n) (w'.freeze ⟨b',o,none⟩ n)∧Grow C E E w w' (w.freeze ⟨b,o,none⟩ n) (w'.freeze ⟨b',o,none⟩ n):=by
 unfold World.freeze
 split
 ·exact ⟨hw,.refl ..⟩
 ·refine ⟨⟨hw.os,fun c c' k=>?_,hw.fn,hw.inj,fun c k=>?_,fun c c' x x' k hx hx'=>?_,hw.lid,fun e=>by simpa using hw.lsz e,hw.glob⟩,⟨.refl _,fun _ _ k=>.inl k,by simp,by simp;omega,fun c hc' k=>?_,rfl,Nat.add_comm _ _,rfl,rfl,Nat.le_refl _⟩⟩
  ·simpa using hw.dom c c' k
  ·simpa using hw.old c k
  ·simp only [Array.getElem?_modify] at hx hx'
   by_cases e:b=c
   ·subst e
    have e':b'=c':=hw.fn b b' c' h k
    subst e'
    simp only [if_true,Option.map_eq_some_iff] at hx hx'
    obtain ⟨y,hy,rfl⟩:=hx
    obtain ⟨y',hy',rfl⟩:=hx'
    have hr:=hw.obj b b' y y' h hy hy'
    cases y with
    | cells c el fz=>
     obtain ⟨c',fz',rfl,h4,h5,h6⟩:=hr
     obtain rfl:=(h6 hs).1
     exact ⟨c',_,rfl,h4,fun x=>absurd x hs,fun _=>⟨rfl,fun e=>by rw [hst] at e;cases e⟩⟩
    | map es ck=>obtain ⟨es',rfl,h⟩:=hr;exact ⟨es',rfl,h⟩
    | mapIter m a b c=>obtain ⟨q,m',rfl,h⟩:=hr;exact ⟨q,m',rfl,h⟩
    | stringIter a b=>obtain ⟨q,rfl⟩:=hr;exact ⟨q,rfl⟩
    | loop l=>obtain ⟨q,m',rfl,h⟩:=hr;exact ⟨q,m',rfl,h⟩
    | deferred l=>obtain ⟨q,m',rfl,h⟩:=hr;exact ⟨q,m',rfl,h⟩
    | number a l=>obtain ⟨q,m',rfl,h⟩:=hr;exact ⟨q,m',rfl,h⟩
    | _=>exact hr.elim
   ·have e':b'≠c':=fun e'=>e (hw.inj b b' c h (by rw [e'];exact k))
    rw [if_neg e] at hx
    rw [if_neg e'] at hx'
    exact hw.obj c c' x x' k hx hx'
  ·simp only [Array.getElem?_modify]
   split
   ·rename_i e
    subst e
    exact absurd (k b h) hs
   ·rfl
theorem SimR.freeze (hst:C.st=false) {b b':Nat} (h:E b b') (hs:¬ C.Sh b) (o n:Nat):SimR C ok E (Go.freeze ⟨b,o,none⟩ n) (Go.freeze ⟨b',o,none⟩ n) (fun _ _ _=>True):=by
 intro L w w' hw
 refine .inr ?_
 rw [run_freeze]
 obtain ⟨h1,h2⟩:=hw.toWR.freeze hst h hs o n
 have ht:∀ (w:World) b,(w.freeze ⟨b,o,none⟩ n).tape=w.tape∧(w.freeze ⟨b,o,none⟩ n).drawn=w.drawn:=fun w b=>by unfold World.freeze;split<;>exact ⟨rfl,rfl⟩
 have ht2:TapeR L (w.freeze ⟨b,o,none⟩ n) (w'.freeze ⟨b',o,none⟩ n):=by
  have:=hw.tape
  unfold TapeR at *
  rw [(ht w b).1,(ht w b).2,(ht w' b').1,(ht w' b').2]
  exact this
 exact ⟨E,(),_,rfl,⟨h1,ht2⟩,h2,trivial,fun e he=>by simp at he⟩
theorem SimR.markStringish (hst:C.st=false) {a a':Addr} (h:AddrR E a a') (hs:¬ C.Sh a.block):SimR C ok E (Go.markStringish a) (Go.markStringish a') (fun _ _ _=>True):=by
 unfold Go.markStringish
 refine SimR.bind' (SimR.shape h.block) fun E1 s1 x x' hx=>?_
 obtain rfl:x=x':=hx
 split
 ·exact SimR.freeze hst (s1 _ _ h.block) hs _ _
 ·exact .pure trivial
theorem SimR.stringToBytes (hst:C.st=false) (hh:Hnd C E) (e:TypeId) (s:ByteArray):SimR C ok E (Conv.stringToBytes e s) (Conv.stringToBytes e s) (VR C):=by
 unfold Conv.stringToBytes
 refine SimR.bind' (SimR.choose _) fun E1 s1 n n' hn=>?_
 obtain rfl:n=n':=hn
 refine SimR.bind' (SimR.newRow (hh.mono s1) e (AR.append (AR.map _ fun x _=>.int _ _) (AR.replicate (.int _ _)))) fun E2 s2 a a' ha=>?_
 refine SimR.bind' (SimR.markStringish hst ha.1 ha.2) fun E3 s3 _ _ _=>?_
 exact .pure (.of_slice (ha.1.mono s3) _ _)
theorem SimR.convert (hh:Hnd C E) (src dst:TypeId) {x x':Value} (hx:VR C E x x') (hc:convOk C.P src dst=true) (hz:C.st=false∨∀ e,C.P.underlying dst≠some (.slice e)):SimR C ok E (Go.convert src dst x) (Go.convert src dst x') (VR C):=by
 unfold Go.convert
 refine SimR.bind' (SimR.underlying src) fun E1 s1 u u' hu=>?_
 obtain ⟨rfl,hu⟩:=hu
 refine SimR.bind' (SimR.underlying dst) fun E2 s2 v v' hv=>?_
 obtain ⟨rfl,hv⟩:=hv
 have hx2:=(hx.mono s1).mono s2
 have hh2:=(hh.mono s1).mono s2
 unfold convOk at hc
 rw [hu,hv] at hc
 cases u<;>cases v<;>first|cases hc|skip
 ·cases hx2<;>first|exact .stuck _|exact .unsupported _|exact .pure (.int _ _)
 ·cases hx2<;>first|exact .stuck _|exact .unsupported _|exact .pure (.string _)
 ·rename_i e
  dsimp only at hc
  have fin:∀ s:ByteArray,SimR C ok E2 (do match ← Go.underlying e with | .int .u8=>Conv.stringToBytes e s | .int .i32=>Conv.stringToRunes e s|_=>Go.stuck "Convert: string to a slice of what?") (do match ← Go.underlying e with | .int .u8=>Conv.stringToBytes e s | .int .i32=>Conv.stringToRunes e s|_=>Go.stuck "Convert: string to a slice of what?") (VR C):=fun s=>by
   refine SimR.bind' (SimR.underlying e) fun E3 s3 u u' hu=>?_
   obtain ⟨rfl,hu⟩:=hu
   rw [hu] at hc
   split at hc
   ·rename_i h;cases h;exact SimR.stringToBytes (hz.resolve_right fun h=>h _ hv) (hh2.mono s3) e _
   ·cases hc
  cases hx2<;>first|exact .stuck _|exact .unsupported _|exact fin _
 ·rename_i e
  dsimp only at hc
  have fin:∀ {x x':Value},VR C E2 x x'→SimR C ok E2 (do match ← Go.underlying e with | .int .u8=>Conv.bytesToString x | .int .i32=>Conv.runesToString x|_=>Go.stuck "Convert: a slice of what to string?") (do match ← Go.underlying e with | .int .u8=>Conv.bytesToString x' | .int .i32=>Conv.runesToString x'|_=>Go.stuck "Convert: a slice of what to string?") (VR C):=fun {x x'} hx=>by
   refine SimR.bind' (SimR.underlying e) fun E3 s3 u u' hu=>?_
   obtain ⟨rfl,hu⟩:=hu
   rw [hu] at hc
   split at hc
   ·rename_i h;cases h;exact SimR.bytesToString (hx.mono s3)
   ·cases hc
  have:=fin hx2
  cases hx2<;>first|exact .stuck _|exact this|exact .pure (.string _)
end
section
variable {C:Cx} {ok:FuncId→Code→Prop} {E:BRel}
theorem SimR.lenOf {x x':Value} (hx:VR C E x x'):SimR C ok E (Builtin.lenOf x) (Builtin.lenOf x') (fun _ n n'=>n=n'):=by
 unfold Builtin.lenOf
 cases hx<;>first|exact .stuck _|exact .pure rfl
theorem SimR.firstCells (size n:Nat) {x x':Value} (hx:VR C E x x'):SimR C ok E (Builtin.firstCells size n x) (Builtin.firstCells size n x') (AR C):=by
 unfold Builtin.firstCells
 cases hx with
 | nilSlice l c=>exact .pure .nil
 | slice o s l c h=>exact SimR.loadCells _ (a:=⟨_,o,s⟩) (a':=⟨_,o,s⟩) ⟨h,rfl,rfl⟩
 | string s=>exact .pure (AR.map _ fun x _=>.int _ _)
 | _=>exact .stuck _
theorem zeroCells_rel {z z':Array Value} (h:AR C E z z') (n:Nat):AR C E (Builtin.zeroCells z n) (Builtin.zeroCells z' n):=by
 unfold Builtin.zeroCells
 rw [h.size]
 have:=rangeMap h (n*z'.size)
 simpa [h.size] using this
theorem SimR.len (t:Array TypeId) (ty:TypeId) {a a':Array Value} (ha:AR C E a a'):SimR C ok E (Builtin.len_ t ty a) (Builtin.len_ t ty a') (VR C):=by
 unfold Builtin.len_
 cases ht:t[0]? with
 | none=>exact .stuck _
 | some tt=>
  cases hx:a[0]? with
  | none=>exact .stuck _
  | some x=>
   obtain ⟨x',hx',hv⟩:=ha.some_of hx
   rw [hx']
   dsimp only
   refine SimR.bind' (SimR.underlying tt) fun E1 s1 u u' hu=>?_
   obtain ⟨rfl,_⟩:=hu
   have hv:=hv.mono s1
   cases u with
   | string=>cases hv<;>first|exact .stuck _|exact .pure (.int _ _)
   | array n e=>cases hv<;>exact .pure (.int _ _)
   | pointer e=>
    have fin:SimR C ok E1 (do
      match ← Go.underlying e with
      | .array n _=>Pure.pure (goInt n)
      | _=>Go.stuck "len: pointer to array expected":Sem Value) (do
      match ← Go.underlying e with
      | .array n _=>Pure.pure (goInt n)
      | _=>Go.stuck "len: pointer to array expected":Sem Value) (VR C):=by
     refine SimR.bind' (SimR.underlying e) fun E2 s2 u u' hu=>?_
     obtain ⟨rfl,_⟩:=hu
     cases u<;>first|exact .stuck _|exact .pure (.int _ _)
    cases hv<;>exact fin
   | slice e=>cases hv<;>first|exact .stuck _|exact .pure (.int _ _)
   | map k e=>
    cases hv with
    | nilMap=>exact .pure (.int _ _)
    | map h=>exact SimR.getMap h _ fun E2 s2 es es' ck hes=>by rw [← hes.size];exact .pure (.int _ _)
    | _=>exact .stuck _
   | chan d e=>cases hv<;>first|exact .stuck _|exact .pure (.int _ _)
   | _=>cases hv<;>exact .stuck _
theorem SimR.cap (t:Array TypeId) (ty:TypeId) {a a':Array Value} (ha:AR C E a a'):SimR C ok E (Builtin.cap_ t ty a) (Builtin.cap_ t ty a') (VR C):=by
 unfold Builtin.cap_
 cases ht:t[0]? with
 | none=>exact .stuck _
 | some tt=>
  cases hx:a[0]? with
  | none=>exact .stuck _
  | some x=>
   obtain ⟨x',hx',hv⟩:=ha.some_of hx
   rw [hx']
   dsimp only
   refine SimR.bind' (SimR.underlying tt) fun E1 s1 u u' hu=>?_
   obtain ⟨rfl,_⟩:=hu
   have hv:=hv.mono s1
   cases u with
   | array n e=>cases hv<;>exact .pure (.int _ _)
   | pointer e=>
    have fin:SimR C ok E1 (do
      match ← Go.underlying e with
      | .array n _=>Pure.pure (goInt n)
      | _=>Go.stuck "cap: pointer to array expected":Sem Value) (do
      match ← Go.underlying e with
      | .array n _=>Pure.pure (goInt n)
      | _=>Go.stuck "cap: pointer to array expected":Sem Value) (VR C):=by
     refine SimR.bind' (SimR.underlying e) fun E2 s2 u u' hu=>?_
     obtain ⟨rfl,_⟩:=hu
     cases u<;>first|exact .stuck _|exact .pure (.int _ _)
    cases hv<;>exact fin
   | slice e=>cases hv<;>first|exact .stuck _|exact .pure (.int _ _)
   | chan d e=>cases hv<;>first|exact .stuck _|exact .pure (.int _ _)
   | _=>cases hv<;>exact .stuck _
theorem SimR.copy (t:Array TypeId) (ty:TypeId) {a a':Array Value} (ha:AR C E a a'):SimR C ok E (Builtin.copy_ t ty a) (Builtin.copy_ t ty a') (VR C):=by
 unfold Builtin.copy_
 cases ht:t[0]? with
 | none=>exact .stuck _
 | some tt=>
  cases hx:a[0]? with
  | none=>exact .stuck _
  | some x=>
   obtain ⟨x',hx',hv⟩:=ha.some_of hx
   rw [hx']
   cases hy:a[1]? with
   | none=>exact .stuck _
   | some y=>
    obtain ⟨y',hy',hw⟩:=ha.some_of hy
    rw [hy']
    dsimp only
    refine SimR.bind' (SimR.underlying tt) fun E1 s1 u u' hu=>?_
    obtain ⟨rfl,_⟩:=hu
    have hv:=hv.mono s1
    have hw:=hw.mono s1
    cases u with
    | slice e=>
     dsimp only
     cases hv with
     | nilSlice l c=>
      refine SimR.bind' (SimR.lenOf hw) fun E2 s2 n n' hn=>?_
      obtain rfl:n=n':=hn
      refine SimR.bind' (SimR.sizeOf e) fun E3 s3 z z' hz=>?_
      obtain rfl:z=z':=hz
      exact SimR.bind' (SimR.firstCells _ _ ((hw.mono s2).mono s3)) fun E4 s4 _ _ _=>.pure (.int _ _)
     | slice o s l c h=>
      refine SimR.bind' (SimR.lenOf hw) fun E2 s2 n n' hn=>?_
      obtain rfl:n=n':=hn
      refine SimR.bind' (SimR.sizeOf e) fun E3 s3 z z' hz=>?_
      obtain rfl:z=z':=hz
      refine SimR.bind' (SimR.firstCells _ _ ((hw.mono s2).mono s3)) fun E4 s4 cs cs' hcs=>?_
      refine SimR.bind' (SimR.storeCells _ _ 0 _ (a:=⟨_,o,s⟩) (a':=⟨_,o,s⟩) ⟨s4 _ _ (s3 _ _ (s2 _ _ h)),rfl,rfl⟩ hcs.toList) fun E5 s5 _ _ _=>?_
      exact .pure (.int _ _)
     | _=>exact .stuck _
    | _=>exact .stuck _
theorem SimR.min2 {x x' y y':Value} (hx:VR C E x x') (hy:VR C E y y'):SimR C ok E (Builtin.min2 x y) (Builtin.min2 x' y') (VR C):=by
 unfold Builtin.min2
 cases hx<;>cases hy<;>first
  | exact .stuck _
  | exact .unsupported _
  | exact .pure (.int _ _)
  | exact SimR.bind' (SimR.stringOp _ _ _) fun E1 s1 v v' hv=>SimR.bind' (SimR.asBool hv) fun E2 s2 b b' hb=>by subst hb;exact .pure (.string _)
theorem SimR.max2 {x x' y y':Value} (hx:VR C E x x') (hy:VR C E y y'):SimR C ok E (Builtin.max2 x y) (Builtin.max2 x' y') (VR C):=by
 unfold Builtin.max2
 cases hx<;>cases hy<;>first
  | exact .stuck _
  | exact .unsupported _
  | exact .pure (.int _ _)
  | exact SimR.bind' (SimR.stringOp _ _ _) fun E1 s1 v v' hv=>SimR.bind' (SimR.asBool hv) fun E2 s2 b b' hb=>by subst hb;exact .pure (.string _)
theorem SimR.foldlM {f:Value→Value→Sem Value} (hf:∀ E x x' y y',VR C E x x'→VR C E y y'→SimR C ok E (f x y) (f x' y') (VR C)):∀ (l l':List Value) (E:BRel) (x x':Value),LR C E l l'→VR C E x x'→SimR C ok E (l.foldlM f x) (l'.foldlM f x') (VR C)
 | _,_,_,_,_,.nil,h=>.pure h
 | _,_,E,x,x',.cons hv hl,h=>by
  simp only [List.foldlM_cons]
  exact SimR.bind' (hf _ _ _ _ _ h hv) fun E1 s1 v v' hv=>SimR.foldlM hf _ _ E1 _ _ (hl.mono s1) hv
theorem SimR.min (t:Array TypeId) (ty:TypeId) {a a':Array Value} (ha:AR C E a a'):SimR C ok E (Builtin.min_ t ty a) (Builtin.min_ t ty a') (VR C):=by
 unfold Builtin.min_
 have h:=ha.toList
 cases h1:a.toList with
 | nil=>exact .stuck _
 | cons x l=>
  rw [h1] at h
  cases h2:a'.toList with
  | nil=>rw [h2] at h;cases h
  | cons x' l'=>
   rw [h2] at h
   cases h with
   | cons h hl=>exact SimR.foldlM (fun E _ _ _ _=>SimR.min2) _ _ E _ _ hl h
theorem SimR.max (t:Array TypeId) (ty:TypeId) {a a':Array Value} (ha:AR C E a a'):SimR C ok E (Builtin.max_ t ty a) (Builtin.max_ t ty a') (VR C):=by
 unfold Builtin.max_
 have h:=ha.toList
 cases h1:a.toList with
 | nil=>exact .stuck _
 | cons x l=>
  rw [h1] at h
  cases h2:a'.toList with
  | nil=>rw [h2] at h;cases h
  | cons x' l'=>
   rw [h2] at h
   cases h with
   | cons h hl=>exact SimR.foldlM (fun E _ _ _ _=>SimR.max2) _ _ E _ _ hl h
end
end Go.Sim
