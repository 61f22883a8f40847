/- PROVED HERE: laws. Conditions: none. -/
import Derived.Conc.Events
import Derived.Test.YtlcbehhbfglgaaaGreatFA
set_option linter.all false
namespace Go.Sim
abbrev J5:=Nat->Nat->Prop
structure Cx where
 P:Program
 fs:List FuncId
 ts:List TypeId
 ms:List String
 hl:FuncId->List Nat
 st:Bool
 Sh:Nat->Prop
 lax:st=false->∀ b,¬ Sh b
def Cx.J2k (C:Cx) (t:TypeId):Bool:=
 C.ts.contains t || [C.P.rt.boundsError,C.P.rt.errorString,C.P.rt.plainError,C.P.rt.typeAssertionError,C.P.rt.panicNilError,C.P.rt.unhashableTypeError].contains t
def Cx.F (C:Cx) (f:FuncId):Prop:=C.fs.contains f=true
def J0m {α β:Type} (R:α->β->Prop):Option α->Option β->Prop
 | none,none=>True
 | some a,some b=>R a b
 | _,_=>False
inductive FnR (C:Cx) (E:J5):Fn->Fn->Prop
 | func {f:FuncId} (h:C.F f):FnR C E (.func f) (.func f)
 | yield {l l':Nat} (h:E l l'):FnR C E (.yield l) (.yield l')
 | method {n:String} (h:C.ms.contains n=true):FnR C E (.method n) (.method n)
inductive VR (C:Cx) (E:J5):Value->Value->Prop
 | bool (b:Bool):VR C E (.bool b) (.bool b)
 | int (k:IntKind) (n:Int):VR C E (.int k n) (.int k n)
 | string (s:ByteArray):VR C E (.string s) (.string s)
 | nilPtr:VR C E (.pointer none) (.pointer none)
 | ptr {b b':Nat} (o:Nat) (s:Option Nat) (h:E b b'):VR C E (.pointer (some ⟨b,o,s⟩)) (.pointer (some ⟨b',o,s⟩))
 | Jo (l c:Nat):VR C E (.slice none l c) (.slice none l c)
 | slice {b b':Nat} (o:Nat) (s:Option Nat) (l c:Nat) (h:E b b'):VR C E (.slice (some ⟨b,o,s⟩) l c) (.slice (some ⟨b',o,s⟩) l c)
 | J1n:VR C E (.map none) (.map none)
 | map {r r':Nat} (h:E r r'):VR C E (.map (some r)) (.map (some r'))
 | nilFunc:VR C E .nilFunc .nilFunc
 | J23:VR C E (.chan none) (.chan none)
 | func {fn fn':Fn} {a a' c c':Array Value} (h:FnR C E fn fn') (ha:a.size=a'.size)
   (hx:∀ (i:Nat) (x x':Value),a[i]?=some x->a'[i]?=some x'->VR C E x x') (hc:c.size=c'.size/\a.size+c.size<=3)
   (hy:∀ (i:Nat) (x x':Value),c[i]?=some x->c'[i]?=some x'->VR C E x x'):VR C E (.func fn a c) (.func fn' a' c')
 | iface (t:TypeId) {v v':Value} (ht:C.J2k t=true) (h:VR C E v v'):VR C E (.iface t v) (.iface t v')
 | nilIface:VR C E .nilIface .nilIface
 | agg {a a':Array Value} (ha:a.size=a'.size) (hx:∀ (i:Nat) (x x':Value),a[i]?=some x->a'[i]?=some x'->VR C E x x'):VR C E (.agg a) (.agg a')
 | tuple {a a':Array Value} (ha:a.size=a'.size) (hx:∀ (i:Nat) (x x':Value),a[i]?=some x->a'[i]?=some x'->VR C E x x'):VR C E (.tuple a) (.tuple a')
structure AR (C:Cx) (E:J5) (a a':Array Value):Prop where
 size:a.size=a'.size
 at_:∀ (i:Nat) (x x':Value),a[i]?=some x->a'[i]?=some x'->VR C E x x'
structure Jd (E:J5) (a a':Addr):Prop where
 block:E a.block a'.block
 off:a.off=a'.off
 spot:a.spot=a'.spot
def Sub (E E1:J5):Prop:=∀ b b',E b b'->E1 b b'
theorem Sub.refl (E:J5):Sub E E:=fun _ _ h=>h
theorem Sub.trans {E E1 E2:J5} (h:Sub E E1) (h1:Sub E1 E2):Sub E E2:=fun b b' x=>h1 b b' (h b b' x)
section
variable {C:Cx} {E E1:J5}
theorem FnR.mono (s:Sub E E1) {a b:Fn} (h:FnR C E a b):FnR C E1 a b:=by
 cases h with
 | func h=>exact .func h
 | yield h=>exact .yield (s _ _ h)
 | method h=>exact .method h
theorem VR.mono (s:Sub E E1) {v v':Value} (h:VR C E v v'):VR C E1 v v':=by
 induction h with
 | bool b=>exact .bool b
 | int k n=>exact .int k n
 | string x=>exact .string x
 | nilPtr=>exact .nilPtr
 | ptr o p h=>exact .ptr o p (s _ _ h)
 | Jo l c=>exact .Jo l c
 | slice o p l c h=>exact .slice o p l c (s _ _ h)
 | J1n=>exact .J1n
 | map h=>exact .map (s _ _ h)
 | nilFunc=>exact .nilFunc
 | J23=>exact .J23
 | func h ha _ hc _ hx hy=>exact .func (h.mono s) ha hx hc hy
 | iface t ht _ ih=>exact .iface t ht ih
 | nilIface=>exact .nilIface
 | agg ha _ hx=>exact .agg ha hx
 | tuple ha _ hx=>exact .tuple ha hx
theorem AR.mono (s:Sub E E1) {a a':Array Value} (h:AR C E a a'):AR C E1 a a':=⟨h.size,fun i x x' hx hx'=>(h.at_ i x x' hx hx').mono s⟩
theorem VR.undef:VR C E undef undef:=.tuple rfl (fun i x x' h=>by simp at h)
theorem AR.nil:AR C E #[] #[]:=⟨rfl,fun i x x' h=>by simp at h⟩
theorem AR.one {v v':Value} (h:VR C E v v'):AR C E #[v] #[v']:=⟨rfl,fun i x x' hx hx'=>by
 cases i with
 | zero=>simp at hx hx';subst hx;subst hx';exact h
 | succ i=>simp at hx⟩
theorem AR.J04 {a a':Array Value} (h:AR C E a a') {i:Nat} {x:Value} (hx:a[i]?=some x):∃ x',a'[i]?=some x'/\VR C E x x':=by
 have hi:i<a.size:=by
  rcases Jb5 i a.size with h|h
  ·exact h
  ·rw [Jb0 h] at hx;cases hx
 have hi':i<a'.size:=h.size▸hi;exact ⟨a'[i],by simp [hi'],h.at_ i x _ hx (by simp [hi'])⟩
theorem AR.J6m {a a':Array Value} (h:AR C E a a') {i:Nat} (hx:a[i]?=none):a'[i]?=none:=by rw [Jd7] at *;rw [<- h.size];exact hx
theorem AR.set {a a':Array Value} (h:AR C E a a') (i:Nat) {v v':Value} (hv:VR C E v v'):AR C E (a.setIfInBounds i v) (a'.setIfInBounds i v'):=by
 refine ⟨by simp [h.size],fun j x x' hx hx'=>?_⟩;rw [Jb9] at hx hx';by_cases hij:i=j
 ·subst hij;simp only [if_true] at hx hx';split at hx<;>split at hx'<;>simp_all
 ·simp only [hij,if_false] at hx hx';exact h.at_ j x x' hx hx'
theorem AR.push {a a':Array Value} (h:AR C E a a') {v v':Value} (hv:VR C E v v'):AR C E (a.push v) (a'.push v'):=by
 refine ⟨by simp [h.size],fun j x x' hx hx'=>?_⟩;rw [Jd1] at hx hx';rw [<- h.size] at hx';split at hx
 ·rename_i e;rw [if_pos e] at hx';cases hx;cases hx';exact hv
 ·rename_i e;rw [if_neg e] at hx';exact h.at_ j x x' hx hx'
theorem AR.append {a a' b b':Array Value} (h:AR C E a a') (k:AR C E b b'):AR C E (a++b) (a'++b'):=by
 refine ⟨by simp [h.size,k.size],fun j x x' hx hx'=>?_⟩;rw [Array.getElem?_append] at hx hx';rw [<- h.size] at hx';split at hx
 ·rename_i e;rw [if_pos e] at hx';exact h.at_ j x x' hx hx'
 ·rename_i e;rw [if_neg e] at hx';exact k.at_ _ x x' hx hx'
theorem AR.extract {a a':Array Value} (h:AR C E a a') (i j:Nat):AR C E (a.extract i j) (a'.extract i j):=by
 refine ⟨by simp [h.size],fun k x x' hx hx'=>?_⟩;rw [Array.getElem?_extract] at hx hx';rw [<- h.size] at hx';split at hx
 ·rename_i e;rw [if_pos e] at hx';exact h.at_ _ x x' hx hx'
 ·cases hx
theorem AR.replicate {n:Nat} {v v':Value} (hv:VR C E v v'):AR C E (Array.replicate n v) (Array.replicate n v'):=by
 refine ⟨by simp,fun k x x' hx hx'=>?_⟩;simp only [Array.getElem?_replicate] at hx hx';split at hx
 ·rename_i e;rw [if_pos e] at hx';cases hx;cases hx';exact hv
 ·cases hx
theorem AR.map {α:Type} {f f':α->Value} (xs:Array α) (h:∀ x∈xs,VR C E (f x) (f' x)):AR C E (xs.map f) (xs.map f'):=by refine ⟨by simp,fun k x x' hx hx'=>?_⟩;simp only [Array.getElem?_map,Jc0] at hx hx';obtain ⟨y,hy,rfl⟩:=hx;obtain ⟨y',hy',rfl⟩:=hx';rw [hy] at hy';cases hy';exact h y (Jc5 hy)
theorem AR.cells {v v':Value} (h:VR C E v v'):AR C E v.cells v'.cells:=by
 cases h with
 | agg ha hx=>exact ⟨ha,hx⟩
 | bool b=>exact .one (.bool b)
 | int k n=>exact .one (.int k n)
 | string x=>exact .one (.string x)
 | nilPtr=>exact .one .nilPtr
 | ptr o p h=>exact .one (.ptr o p h)
 | Jo l c=>exact .one (.Jo l c)
 | slice o p l c h=>exact .one (.slice o p l c h)
 | J1n=>exact .one .J1n
 | map h=>exact .one (.map h)
 | nilFunc=>exact .one .nilFunc
 | J23=>exact .one .J23
 | func h ha hx hc hy=>exact .one (.func h ha hx hc hy)
 | iface t ht h=>exact .one (.iface t ht h)
 | nilIface=>exact .one .nilIface
 | tuple ha hx=>exact .one (.tuple ha hx)
theorem VR.J32 {a a':Array Value} (h:AR C E a a'):VR C E (.agg a) (.agg a'):=.agg h.size h.at_
theorem VR.J3f {a a':Array Value} (h:AR C E a a'):VR C E (.tuple a) (.tuple a'):=.tuple h.size h.at_
end
structure J11 (C:Cx) (E:J5) (e e':MapEntry):Prop where
 key:VR C E e.key e'.key
 val:VR C E e.val e'.val
 born:e.born=e'.born
structure EsR (C:Cx) (E:J5) (es es':Array MapEntry):Prop where
 size:es.size=es'.size
 at_:∀ (i:Nat) (x x':MapEntry),es[i]?=some x->es'[i]?=some x'->J11 C E x x'
inductive J4t (C:Cx) (E:J5):Target->Target->Prop
 | collected {r r':Nat} (h:E r r'):J4t C E (.collected r) (.collected r')
 | nil:J4t C E .nil .nil
 | fn {f f':Fn} {c c':Array Value} (h:FnR C E f f') (hc:AR C E c c'):J4t C E (.fn f c) (.fn f' c')
structure Jbw (C:Cx) (E:J5) (d d':Deferred):Prop where
 target:J4t C E d.target d'.target
 args:AR C E d.args d'.args
 sz:∀ f c,d.target=.fn f c->d.args.size+c.size<=6
inductive J0x (C:Cx) (E:J5):List Deferred->List Deferred->Prop
 | nil:J0x C E [] []
 | cons {d d':Deferred} {l l':List Deferred} (h:Jbw C E d d') (hl:J0x C E l l'):J0x C E (d::l) (d'::l')
def J5y:Code->Bool
 | .ret | .exit _ | .goto _=>true
 | _=>false
structure HR (C:Cx) (E:J5) (fn:FuncId) (t t':Array Value):Prop where
 size:t.size=t'.size
 at_:∀ (i:Nat) (x x':Value),(C.hl fn).contains i=false->t[i]?=some x->t'[i]?=some x'->VR C E x x'
theorem AR.hr {C:Cx} {E:J5} {fn:FuncId} {t t':Array Value} (h:AR C E t t'):HR C E fn t t':=⟨h.size,fun i x x' _=>h.at_ i x x'⟩
theorem HR.mono {C:Cx} {E E1:J5} (s:Sub E E1) {fn:FuncId} {t t':Array Value} (h:HR C E fn t t'):HR C E1 fn t t':=⟨h.size,fun i x x' a b c=>(h.at_ i x x' a b c).mono s⟩
theorem HR.set {C:Cx} {E:J5} {fn:FuncId} {t t':Array Value} (h:HR C E fn t t') (i:Nat) {v v':Value} (hv:VR C E v v'):HR C E fn (t.setIfInBounds i v) (t'.setIfInBounds i v'):=by
 refine ⟨by simp [h.size],fun j x x' hj hx hx'=>?_⟩;rw [Jb9] at hx hx';by_cases hij:i=j
 ·subst hij;simp only [if_true] at hx hx';split at hx<;>split at hx'<;>simp_all
 ·simp only [hij,if_false] at hx hx';exact h.at_ j x x' hj hx hx'
structure J8m (C:Cx) (ok:FuncId->Code->Prop) (E:J5) (l l':Loop):Prop where
 state:l.state=l'.state
 pending:l.pending=l'.pending
 fn:l.fn=l'.fn
 tmps:HR C E l.fn l.tmps l'.tmps
 params:l.params=l'.params
 assign:l.assign=l'.assign
 body:l.body=l'.body
 defers:E l.defers l'.defers
 ok1:ok l.fn l.assign
 ok2:ok l.fn l.body
 ok3:∀ c,l.pending=some c->J5y c=true
 st:C.st=false
def J3g (C:Cx) (ok:FuncId->Code->Prop) (E:J5) (b:Nat):Obj->Obj->Prop
 | .cells c el fz,o'=>∃ c' fz',o'=.cells c' el fz'/\AR C E c c'/\(C.Sh b->fz=(0,c.size)/\fz'=(0,0))/\(¬ C.Sh b->fz'=fz/\(C.st=true->fz=(0,0)))
 | .map es ck,o'=>∃ es',o'=.map es' ck/\EsR C E es es'
 | .mapIter m since seen stepped,o'=>¬ C.Sh b/\∃ m',o'=.mapIter m' since seen stepped/\J0m E m m'
 | .stringIter s pos,o'=>¬ C.Sh b/\o'=.stringIter s pos
 | .loop l,o'=>¬ C.Sh b/\∃ l',o'=.loop l'/\J8m C ok E l l'
 | .deferred ds,o'=>¬ C.Sh b/\∃ ds',o'=.deferred ds'/\J0m (J0x C E) ds ds'
 | .number a lost,o'=>¬ C.Sh b/\∃ a',o'=.number a' lost/\Jd E a a'
 | _,_=>False
section
variable {C:Cx} {ok:FuncId->Code->Prop} {E E1:J5}
theorem J11.mono (s:Sub E E1) {e e':MapEntry} (h:J11 C E e e'):J11 C E1 e e':=⟨h.key.mono s,h.val.mono s,h.born⟩
theorem EsR.mono (s:Sub E E1) {e e':Array MapEntry} (h:EsR C E e e'):EsR C E1 e e':=⟨h.size,fun i x x' a b=>(h.at_ i x x' a b).mono s⟩
theorem J4t.mono (s:Sub E E1) {d d':Target} (h:J4t C E d d'):J4t C E1 d d':=by
 cases h with
 | collected h=>exact .collected (s _ _ h)
 | nil=>exact .nil
 | fn h hc=>exact .fn (h.mono s) (hc.mono s)
theorem Jbw.mono (s:Sub E E1) {d d':Deferred} (h:Jbw C E d d'):Jbw C E1 d d':=⟨h.target.mono s,h.args.mono s,h.sz⟩
theorem J0x.mono (s:Sub E E1) {d d':List Deferred} (h:J0x C E d d'):J0x C E1 d d':=by
 induction h with
 | nil=>exact .nil
 | cons h _ ih=>exact .cons (h.mono s) ih
theorem J0x.append {a a' b b':List Deferred} (h:J0x C E a a') (k:J0x C E b b'):J0x C E (a++b) (a'++b'):=by
 induction h with
 | nil=>exact k
 | cons h _ ih=>exact .cons h ih
theorem J8m.mono (s:Sub E E1) {l l':Loop} (h:J8m C ok E l l'):J8m C ok E1 l l':={ h with tmps:=h.tmps.mono s,defers:=s _ _ h.defers }
theorem J0m.mono' {α β:Type} {R R':α->β->Prop} (hr:∀ a b,R a b->R' a b) {x:Option α} {y:Option β} (h:J0m R x y):J0m R' x y:=by cases x<;>cases y<;>simp_all [J0m]
theorem Jd.mono (s:Sub E E1) {a a':Addr} (h:Jd E a a'):Jd E1 a a':=⟨s _ _ h.block,h.off,h.spot⟩
theorem J3g.mono (s:Sub E E1) {b:Nat} {o o':Obj} (h:J3g C ok E b o o'):J3g C ok E1 b o o':=by
 cases o with
 | cells c el fz=>obtain ⟨c',fz',h1,h2,h3⟩:=h;exact ⟨c',fz',h1,h2.mono s,h3⟩
 | map es ck=>obtain ⟨es',h1,h2⟩:=h;exact ⟨es',h1,h2.mono s⟩
 | mapIter m a b c=>obtain ⟨h,m',h1,h2⟩:=h;exact ⟨h,m',h1,h2.mono' (s · ·)⟩
 | stringIter a b=>exact h
 | loop l=>obtain ⟨h,l',h1,h2⟩:=h;exact ⟨h,l',h1,h2.mono s⟩
 | deferred ds=>obtain ⟨h,l',h1,h2⟩:=h;exact ⟨h,l',h1,h2.mono' fun _ _=>J0x.mono s⟩
 | number a lost=>obtain ⟨h,a',h1,h2⟩:=h;exact ⟨h,a',h1,h2.mono s⟩
 | _=>exact h.elim
end
structure WR (C:Cx) (ok:FuncId->Code->Prop) (E:J5) (w w':World):Prop where
 os:w'.os=w.os
 dom:∀ b b',E b b'->b<w.heap.size/\b'<w'.heap.size
 fn:∀ b c c',E b c->E b c'->c=c'
 inj:∀ b c b2,E b c->E b2 c->b=b2
 old:∀ b,C.Sh b->b<w.heap.size
 obj:∀ b b' o o',E b b'->w.heap[b]?=some o->w'.heap[b']?=some o'->J3g C ok E b o o'
 lid:C.st=false->∀ b b',E b b'->b=b'
 lsz:C.st=false->w'.heap.size=w.heap.size
 J5i:C.st=true->∀ b b',E b b'->C.P.globals.size<=b/\C.P.globals.size<=b'
def Jm1 (L:Option Nat) (w w':World):Prop:=∀ k,(∀ lim,L=some lim->w'.drawn+k<lim)->∀ q,w'.tape (w'.drawn+k) q=w.tape (w.drawn+k) q
def Over (L:Option Nat) (w:World):Prop:=∃ lim,L=some lim/\lim<w.drawn
structure WT (C:Cx) (ok:FuncId->Code->Prop) (E:J5) (L:Option Nat) (w w':World):Prop extends WR C ok E w w' where
 tape:Jm1 L w w'
structure Grow (C:Cx) (E E1:J5) (w w' w1 w1':World):Prop where
 sub:Sub E E1
 new:∀ b b',E1 b b'->E b b'\/(w.heap.size<=b/\b'+w.heap.size=b+w'.heap.size)
 size:w.heap.size<=w1.heap.size
 shift:w1'.heap.size+w.heap.size=w1.heap.size+w'.heap.size
 keep:∀ b',b'<w'.heap.size->(∀ b,E b b'->C.Sh b)->w1'.heap[b']?=w'.heap[b']?
 out:w1'.output=w'.output
 draw:w1'.drawn+w.drawn=w1.drawn+w'.drawn
 tape:w1.tape=w.tape
 os:w1.os=w.os
 more:w'.drawn<=w1'.drawn
theorem Grow.refl (C:Cx) (E:J5) (w w':World):Grow C E E w w' w w':=
 ⟨.refl E,fun _ _ h=>.inl h,Ja2 _,by omega,fun _ _ _=>rfl,rfl,by omega,rfl,rfl,Ja2 _⟩
theorem Grow.trans {C:Cx} {E E1 E2:J5} {w w' w1 w1' w2 w2':World} (old:∀ b,C.Sh b->b<w.heap.size) (h:Grow C E E1 w w' w1 w1') (k:Grow C E1 E2 w1 w1' w2 w2'):Grow C E E2 w w' w2 w2':=by
 refine ⟨h.sub.trans k.sub,fun b b' hb=>?_,Jb6 h.size k.size,?_,fun b' hb' hh=>?_,k.out.trans h.out,by have:=h.draw;have:=k.draw;omega,k.tape.trans h.tape,k.os.trans h.os,Jb6 h.more k.more⟩
 ·rcases k.new b b' hb with h1|⟨h1,h2⟩
  ·exact h.new b b' h1
  ·refine .inr ⟨Jb6 h.size h1,?_⟩;have:=h.shift;omega
 ·have:=h.shift;have:=k.shift;omega
 ·have hs:=h.shift;have hz:=h.size;rw [k.keep b' (by omega) (fun b hb=>?_),h.keep b' hb' hh];rcases h.new b b' hb with h1|⟨_,h2⟩
  ·exact hh b h1
  ·omega
def J3h (C:Cx) (E:J5) (e:Event):Prop:=
 match e.loc with
 | .cell a=>(∃ b,E b a.block/\(e.write=true->¬ C.Sh b))/\e.sync=false
 | .obj r=>(∃ b,E b r/\(e.write=true->¬ C.Sh b))/\e.sync=false
 | .mark .noRoom=>True
 | .mark (.extern _)=>True
 | _=>False
theorem J3h.mono {C:Cx} {E E1:J5} (s:Sub E E1) {e:Event} (h:J3h C E e):J3h C E1 e:=by
 obtain ⟨loc,wr,sy⟩:=e;cases loc with
 | cell a=>obtain ⟨⟨b,h1,h2⟩,h3⟩:=h;exact ⟨⟨b,s _ _ h1,h2⟩,h3⟩
 | obj a=>obtain ⟨⟨b,h1,h2⟩,h3⟩:=h;exact ⟨⟨b,s _ _ h1,h2⟩,h3⟩
 | mark m=>cases m<;>exact h
 | output=>exact h
 | goroutines=>exact h
@[simp] def Dead (x:Halt):Prop:=(∀ v,x≠.panic v)/\x≠.goexit/\(∀ g,x≠.unsupported (.initOrder g))/\(∀ m,x≠.throw m)/\(∀ m,x≠.fatal m)/\x≠.blocked/\x≠.waiting
def _root_.Go.Result.left {α:Type}:Result α->World
 | .ok _ w=>w
 | .halt _ w=>w
theorem Jbx {α:Type}:∀ (a:Ask α) (w:World),w.drawn<=(w.ask a).2.drawn
 | .done a,w=>Ja2 _
 | .ask what range k,w=>by
  unfold World.ask
  dsimp only
  split
  ·exact Jbx _ _
  ·exact Jb6 (Nat.le_succ _) (Jbx _ { w with drawn:=w.drawn+1 })
theorem Jrh (w:World) (c:Sys):w.drawn<=(w.sys c).2.drawn:=by
 have:=Jbx (Kernel.perform c w.os) w;unfold World.sys;split
 ·exact Ja2 _
 ·rename_i h;rw [h] at this;exact this
theorem bind_ok {ε α β:Type} {x:Except ε α} {f:α->Except ε β} {b:β} (h:(x >>= f)=.ok b):∃ a,x=.ok a/\f a=.ok b:=by
 cases x with
 | error e=>cases h
 | ok a=>exact ⟨a,rfl,h⟩
theorem J4x {α:Type} {c:Prop} [Decidable c] {x y b:α} (h:(if c then x else y)=b):x=b\/y=b:=by
 by_cases hc:c
 ·rw [if_pos hc] at h;exact .inl h
 ·rw [if_neg hc] at h;exact .inr h
theorem Jcs {P:Program} {w w1:World} {at_:Addr} {u:TypeId} {k:Addr} {v:Value} {b:Bool} {l:List Addr} (h:w.viewStore P at_ u k v b=.ok (w1,l)):w1.drawn=w.drawn:=by
 unfold World.viewStore at h
 dsimp only at h
 rcases J4x h with h|h
 ·cases h
 obtain ⟨⟨c,e,frozen,first,like,cells⟩,_,h⟩:=bind_ok h
 dsimp only at h
 cases hb:v.bytes? with
 | none=>rw [hb] at h;cases h
 | some bytes=>
  rw [hb] at h
  dsimp only at h
  rcases J4x h with h|h
  ·cases h
  ·obtain ⟨c1,_,h⟩:=bind_ok h;cases h;rfl
theorem Jf7 {P:Program} {w w1:World} {a:Addr} {v:Value} {b:Bool} {l:List Addr} (h:w.farStore P a v b=.ok (w1,l)):w1.drawn=w.drawn:=by
 unfold World.farStore at h;split at h
 ·split at h
  ·rename_i h1;cases h;exact Jcs h1
  ·cases h
 ·cases h
theorem J0p {α:Type} (P:Program):∀ (s:Sem α) (w:World),w.drawn<=(s.run P w).left.drawn
 | .pure a,w=>Ja2 _
 | .load m a k,w=>by
  simp only [Sem.run];cases w.cell? a with
  | some v=>exact J0p P _ _
  | none=>
   dsimp only
   split
   ·exact J0p P _ _
   ·exact Ja2 _
 | .store m a v k,w=>by
  cases v<;>simp only [Sem.run]<;>first
   | exact Ja2 _
   | (cases w.cell? a with
      | some u=>
       dsimp only
       split
       ·exact Ja2 _
       ·exact J0p P k (w.setCell a _)
      | none=>
       dsimp only
       split
       ·rename_i h;refine Jb6 ?_ (J0p P k _);rw [Jf7 h];exact Ja2 _
       ·exact Ja2 _)
 | .new o k,w=>by unfold Sem.run;exact J0p P (k w.heap.size) { w with heap:=w.heap.push o }
 | .shape r k,w=>by unfold Sem.run;exact J0p P _ _
 | .freeze a n k,w=>by
  unfold Sem.run;refine Jb6 ?_ (J0p P k (w.freeze a n));unfold World.freeze;split<;>exact Ja2 _
 | .frozen a k,w=>by unfold Sem.run;exact J0p P _ _
 | .getObj r k,w=>by
  unfold Sem.run;split
  ·exact Ja2 _
  ·exact J0p P _ _
  ·exact Ja2 _
 | .setObj r o k,w=>by
  unfold Sem.run;split
  ·exact Ja2 _
  ·exact J0p P k { w with heap:=w.heap.setIfInBounds r o }
  ·exact Ja2 _
 | .choose q k,w=>by
  unfold Sem.run;split
  ·exact J0p P _ _
  ·exact Jb6 (Nat.le_succ _) (J0p P _ { w with drawn:=w.drawn+1 })
 | .sys c k,w=>by
  unfold Sem.run;exact Jb6 (Jrh w c) (J0p P _ _)
 | .program k,w=>by unfold Sem.run;exact J0p P _ _
 | .mark m k,w=>by unfold Sem.run;exact J0p P k w
 | .halt h,w=>Ja2 _
theorem Over.mono {L:Option Nat} {w w1:World} (h:Over L w) (k:w.drawn<=w1.drawn):Over L w1:=by obtain ⟨lim,h1,h2⟩:=h;exact ⟨lim,h1,Jb7 h2 k⟩
def J3 (C:Cx) (ok:FuncId->Code->Prop) {α α':Type} (E:J5) (s:Sem α) (s':Sem α') (R:J5->α->α'->Prop):Prop:=
 ∀ L w w',WT C ok E L w w'->Over L (s'.run C.P w').left \/
  match s.run C.P w with
  | .ok a w1=>∃ E1 a' w1',s'.run C.P w'=.ok a' w1'/\WT C ok E1 L w1 w1'/\Grow C E E1 w w' w1 w1'/\R E1 a a'/\∀ e∈s'.events C.P w' #[],J3h C E1 e
  | .halt (.panic v) w1=>∃ E1 v' w1',s'.run C.P w'=.halt (.panic v') w1'/\WT C ok E1 L w1 w1'/\Grow C E E1 w w' w1 w1'/\VR C E1 v v'/\∀ e∈s'.events C.P w' #[],J3h C E1 e
  | .halt x _=>Dead x
section
variable {C:Cx} {ok:FuncId->Code->Prop} {E:J5} {α α' β β':Type}
theorem J3.bind {s:Sem α} {s':Sem α'} {f:α->Sem β} {f':α'->Sem β'} {R:J5->α->α'->Prop} {R2:J5->β->β'->Prop}
  (h:J3 C ok E s s' R) (k:∀ E1,Sub E E1->∀ a a',R E1 a a'->J3 C ok E1 (f a) (f' a') R2):J3 C ok E (s.bind f) (s'.bind f') R2:=by
 intro L w w' hw;have h1:=h L w w' hw;rw [Sem.run_bind',Sem.run_bind',Sem.events_bind'];rcases h1 with ho|h1
 ·refine .inl ?_;cases hr:s'.run C.P w' with
  | ok a w1=>rw [hr] at ho;exact ho.mono (J0p C.P (f' a) w1)
  | halt x w1=>rw [hr] at ho;exact ho
 cases hr:s.run C.P w with
 | halt x w1=>
  rw [hr] at h1;refine .inr ?_;cases x with
  | panic v=>obtain ⟨E1,v',w1',e1,e2,e3,e4,e5⟩:=h1;simp only [e1,Result.andThen];exact ⟨E1,v',w1',rfl,e2,e3,e4,e5⟩
  | _=>exact h1
 | ok a w1=>
  rw [hr] at h1;obtain ⟨E1,a',w1',e1,e2,e3,e4,e5⟩:=h1;simp only [e1,Result.andThen,Result.evThen];rcases k E1 e3.sub a a' e4 L w1 w1' e2 with ho|h2
  ·exact .inl ho
  refine .inr ?_;cases hr2:(f a).run C.P w1 with
  | halt x w2=>
   rw [hr2] at h2;cases x with
   | panic v=>
    obtain ⟨E2,v',w2',g1,g2,g3,g4,g5⟩:=h2;refine ⟨E2,v',w2',g1,g2,e3.trans hw.old g3,g4,fun e he=>?_⟩;rw [Sem.events_acc] at he;rcases Array.mem_append.1 he with he|he
    ·exact (e5 e he).mono g3.sub
    ·exact g5 e he
   | _=>exact h2
  | ok b w2=>
   rw [hr2] at h2;obtain ⟨E2,v',w2',g1,g2,g3,g4,g5⟩:=h2;refine ⟨E2,v',w2',g1,g2,e3.trans hw.old g3,g4,fun e he=>?_⟩;rw [Sem.events_acc] at he;rcases Array.mem_append.1 he with he|he
   ·exact (e5 e he).mono g3.sub
   ·exact g5 e he
theorem J3.bind' {s:Sem α} {s':Sem α'} {f:α->Sem β} {f':α'->Sem β'} {R:J5->α->α'->Prop} {R2:J5->β->β'->Prop}
  (h:J3 C ok E s s' R) (k:∀ E1,Sub E E1->∀ a a',R E1 a a'->J3 C ok E1 (f a) (f' a') R2):J3 C ok E (s >>= f) (s' >>= f') R2:=h.bind k
theorem J3.pure {a:α} {a':α'} {R:J5->α->α'->Prop} (h:R E a a'):J3 C ok E (Pure.pure a) (Pure.pure a') R:=by intro L w w' hw;exact .inr ⟨E,a',w',rfl,hw,.refl ..,h,fun e he=>by simp at he⟩
theorem J3.pure' {a:α} {a':α'} {R:J5->α->α'->Prop} (h:R E a a'):J3 C ok E (Sem.pure a) (Sem.pure a') R:=J3.pure h
theorem J3.mono {s:Sem α} {s':Sem α'} {R R':J5->α->α'->Prop} (h:J3 C ok E s s' R) (k:∀ E1 a a',Sub E E1->R E1 a a'->R' E1 a a'):J3 C ok E s s' R':=by
 intro L w w' hw;rcases h L w w' hw with ho|h1
 ·exact .inl ho
 refine .inr ?_;cases hr:s.run C.P w with
 | halt x w1=>rw [hr] at h1;cases x<;>exact h1
 | ok a w1=>rw [hr] at h1;obtain ⟨E1,a',w1',e1,e2,e3,e4,e5⟩:=h1;exact ⟨E1,a',w1',e1,e2,e3,k _ _ _ e3.sub e4,e5⟩
theorem J3.J7z {s:Sem α} {s':Sem α'} {R:J5->α->α'->Prop} {L:Option Nat} {w w' w1:World} {x:Halt} (hx:s.run C.P w=.halt x w1) (hd:Dead x) :
  match s.run C.P w with
  | .ok a w1=>∃ E1 a' w1',s'.run C.P w'=.ok a' w1'/\WT C ok E1 L w1 w1'/\Grow C E E1 w w' w1 w1'/\R E1 a a'/\∀ e∈s'.events C.P w' #[],J3h C E1 e
  | .halt (.panic v) w1=>∃ E1 v' w1',s'.run C.P w'=.halt (.panic v') w1'/\WT C ok E1 L w1 w1'/\Grow C E E1 w w' w1 w1'/\VR C E1 v v'/\∀ e∈s'.events C.P w' #[],J3h C E1 e
  | .halt x _=>Dead x:=by
 rw [hx];cases x with
 | panic v=>exact absurd rfl (hd.1 v)
 | _=>exact hd
theorem J3.stuck {s':Sem α'} {R:J5->α->α'->Prop} (why:String):J3 C ok E (Go.stuck why:Sem α) s' R:=fun _ _ _ _=>.inr ⟨by simp,by simp,by simp,by simp,by simp,by simp,by simp⟩
theorem J3.unsupported {s':Sem α'} {R:J5->α->α'->Prop} (u:Unsupported) (hu:∀ g,u≠.initOrder g:=by intro g;nofun):J3 C ok E (Go.unsupported u:Sem α) s' R:=fun _ _ _ _=>.inr ⟨by simp,by simp,fun g h=>hu g (by injection h),by simp,by simp,by simp,by simp⟩
theorem J3.goPanic {v v':Value} {R:J5->α->α'->Prop} (h:VR C E v v'):J3 C ok E (Go.goPanic v:Sem α) (Go.goPanic v':Sem α') R:=
 fun L w w' hw=>.inr ⟨E,v',w',rfl,hw,.refl ..,h,fun e he=>by simp at he⟩
theorem J3.calm {s:Sem α} {R:J5->α->α->Prop} (h:∀ w,(∃ a,(∀ w',s.run C.P w'=.ok a w')/\R E a a)\/∃ x w1,s.run C.P w=.halt x w1/\Dead x) (hev:∀ w,s.events C.P w #[]=#[]):J3 C ok E s s R:=by
 intro L w w' hw;refine .inr ?_;rcases h w with ⟨a,ha,hr⟩|⟨x,w1,hx,hn⟩
 ·rw [ha w];exact ⟨E,a,w',ha w',hw,.refl ..,hr,fun e he=>by rw [hev] at he;simp at he⟩
 ·rw [hx];cases x with
  | panic v=>exact absurd rfl (hn.1 v)
  | _=>exact hn
theorem J3.program {R:J5->Program->Program->Prop} (h:R E C.P C.P):J3 C ok E Go.program Go.program R:=
 fun _ _ w' hw=>.inr ⟨E,C.P,w',rfl,hw,.refl ..,h,fun e he=>by simp at he⟩
theorem J3.choose (q:Question):J3 C ok E (Go.choose q) (Go.choose q) (fun _ n n'=>n=n'):=by
 intro L w w' hw;rw [run_choose,run_choose];by_cases hq:q.forced=true
 ·simp only [hq,if_true];exact .inr ⟨E,0,w',rfl,hw,.refl ..,rfl,fun e he=>by simp at he⟩
 ·simp only [hq,if_false,Jc1];by_cases hl:∀ lim,L=some lim->w'.drawn<lim
  ·refine .inr ⟨E,_,_,rfl,?_,?_,?_,fun e he=>by simp at he⟩
   ·refine ⟨⟨hw.os,hw.dom,hw.fn,hw.inj,hw.old,hw.obj,hw.lid,hw.lsz,hw.J5i⟩,fun k hk q=>?_⟩;have:=hw.tape (k+1) (fun lim e=>by have:=hk lim e;simp at this;omega) q;simp only [show ∀ n:Nat,n+1+k=n+(k+1) from fun n=>by omega];exact this
   ·exact ⟨.refl _,fun _ _ h=>.inl h,Ja2 _,Nat.add_comm _ _,fun _ _ _=>rfl,rfl,by show w'.drawn+1+w.drawn=w.drawn+1+w'.drawn;omega,rfl,rfl,Nat.le_succ _⟩
   ·have:=hw.tape 0 (fun lim e=>hl lim e) q;simp only [Nat.add_zero] at this;rw [this]
  ·refine .inl ?_;simp only [Classical.not_forall,not_imp,Nat.not_lt] at hl;obtain ⟨lim,e,h⟩:=hl;exact ⟨lim,e,by show lim<w'.drawn+1;omega⟩
theorem J3.mark {m:Mark} {R:J5->Unit->Unit->Prop} (h:J3h C E ⟨.mark m,false,true⟩) (hr:R E () ()):J3 C ok E (Go.mark m) (Go.mark m) R:=
 fun _ _ w' hw=>.inr ⟨E,(),w',rfl,hw,.refl ..,hr,fun e he=>by simp at he;subst he;exact h⟩
end
section
variable {C:Cx} {ok:FuncId->Code->Prop} {E:J5} {α α':Type}
theorem WR.get {w w':World} (hw:WR C ok E w w') {b b':Nat} (h:E b b'):∃ o o',w.heap[b]?=some o/\w'.heap[b']?=some o'/\J3g C ok E b o o':=by obtain ⟨h1,h2⟩:=hw.dom b b' h;exact ⟨w.heap[b],w'.heap[b'],by simp [h1],by simp [h2],hw.obj b b' _ _ h (by simp [h1]) (by simp [h2])⟩
theorem WR.cell {w w':World} (hw:WR C ok E w w') {b b' o:Nat} {s:Option Nat} (h:E b b') {v:Value} (hc:w.cell? ⟨b,o,s⟩=some v) :
  ∃ v',w'.cell? ⟨b',o,s⟩=some v'/\VR C E v v':=by
 obtain ⟨x,x',h1,h2,h3⟩:=hw.get h;simp only [World.cell?,h1] at hc;cases x with
 | cells c el fz=>
  simp only at hc;obtain ⟨c',fz',rfl,h4,_⟩:=h3;split at hc
  ·cases hc
  ·rename_i hs;obtain ⟨v',hv',hr⟩:=h4.J04 hc;exact ⟨v',by simp [World.cell?,h2,hs,hv'],hr⟩
 | _=>cases hc
theorem WR.Jou {w w':World} (hw:WR C ok E w w') {b b' o:Nat} {s:Option Nat} (h:E b b') (m:Bool):∃ x,w.farLoad C.P ⟨b,o,s⟩ m=.error x/\Dead x:=by
 obtain ⟨x,x',h1,_,h3⟩:=hw.get h;unfold World.farLoad World.noCell;simp only [h1];cases x with
 | view a t=>exact h3.elim
 | pending c t=>exact h3.elim
 | _=>exact ⟨_,rfl,by simp⟩
theorem WR.Jm2 {w w':World} (hw:WR C ok E w w') {b b' o:Nat} {s:Option Nat} (h:E b b') (v:Value) (m:Bool):∃ x,w.farStore C.P ⟨b,o,s⟩ v m=.error x/\Dead x:=by
 obtain ⟨x,x',h1,_,h3⟩:=hw.get h;unfold World.farStore World.noCell;simp only [h1];cases x with
 | view a t=>exact h3.elim
 | pending c t=>exact h3.elim
 | _=>exact ⟨_,rfl,by simp⟩
theorem J3.load {b b':Nat} (o:Nat) (s:Option Nat) (h:E b b'):J3 C ok E (Go.load ⟨b,o,s⟩) (Go.load ⟨b',o,s⟩) (VR C):=by
 intro L w w' hw;refine .inr ?_;cases hc:w.cell? ⟨b,o,s⟩ with
 | some v=>
  rw [run_load,run_load,hc];obtain ⟨v',hv',hr⟩:=hw.cell h hc;simp only [hv'];refine ⟨E,v',w',rfl,hw,.refl ..,hr,fun e he=>?_⟩;simp [hv'] at he;subst he;exact ⟨⟨b,h,fun x=>by cases x⟩,rfl⟩
 | none=>
  obtain ⟨x,hx,hn⟩:=hw.Jou h (o:=o) (s:=s) (Mode.plain == .atomic);exact J3.J7z (w1:=w) (by rw [run_load,hc];simp only [hx]) hn
theorem Jkz {α:Type} {f:α->α} {xs:Array α} {b:Nat} {x:α} (h:xs[b]?=some x):(xs.modify b f)[b]?=some (f x):=by rw [Array.getElem?_modify];simp [h]
theorem WR.setCell {w w':World} (hw:WR C ok E w w') {b b' o:Nat} {s:Option Nat} (h:E b b') {v v' old:Value} (hc:w.cell? ⟨b,o,s⟩=some old) (hsh:¬ C.Sh b) (hv:VR C E v v') :
  WR C ok E (w.setCell ⟨b,o,s⟩ v) (w'.setCell ⟨b',o,s⟩ v')/\Grow C E E w w' (w.setCell ⟨b,o,s⟩ v) (w'.setCell ⟨b',o,s⟩ v'):=by
 refine ⟨⟨hw.os,fun c c' k=>?_,hw.fn,hw.inj,fun c k=>?_,fun c c' x x' k hx hx'=>?_,hw.lid,fun e=>by simpa [World.setCell] using hw.lsz e,hw.J5i⟩,⟨.refl _,fun _ _ k=>.inl k,?_,?_,fun c hc' k=>?_,rfl,Nat.add_comm _ _,rfl,rfl,Ja2 _⟩⟩
 ·simpa [World.setCell] using hw.dom c c' k
 ·simpa [World.setCell] using hw.old c k
 ·simp only [World.setCell,Array.getElem?_modify] at hx hx';by_cases e:b=c
  ·subst e;have e':b'=c':=hw.fn b b' c' h k;subst e';simp only [if_true,Jc0] at hx hx';obtain ⟨y,hy,rfl⟩:=hx;obtain ⟨y',hy',rfl⟩:=hx';have hr:=hw.obj b b' y y' h hy hy';cases y with
   | cells c el fz=>
    obtain ⟨c',fz',rfl,h4,h5,h6⟩:=hr;refine ⟨if s.isSome then c' else c'.setIfInBounds o v',fz',rfl,?_,fun x=>absurd x hsh,h6⟩;cases s with
    | some z=>simpa using h4
    | none=>simpa using h4.set o hv
   | _=>simp [World.cell?,hy] at hc
  ·have e':b'≠c':=fun e'=>e (hw.inj b b' c h (by rw [e'];exact k));rw [if_neg e] at hx;rw [if_neg e'] at hx';exact hw.obj c c' x x' k hx hx'
 ·simp [World.setCell]
 ·simp [World.setCell];omega
 ·simp only [World.setCell,Array.getElem?_modify];split
  ·rename_i e;subst e;exact absurd (k b h) hsh
  ·rfl
theorem J3.store {b b':Nat} (o:Nat) (s:Option Nat) {v v':Value} (h:E b b') (hv:VR C E v v'):J3 C ok E (Go.store ⟨b,o,s⟩ v) (Go.store ⟨b',o,s⟩ v') (fun _ _ _=>True):=by
 intro L w w' hw;refine .inr ?_;by_cases h1:v.oneCell'=true
 ·have h1':v'.oneCell'=true:=by cases hv<;>simp_all [Value.oneCell']
  cases hc:w.cell? ⟨b,o,s⟩ with
  | none=>
   obtain ⟨x,hx,hn⟩:=hw.Jm2 h (o:=o) (s:=s) v (Mode.plain == .atomic);exact J3.J7z (w1:=w) (by rw [run_store _ _ _ _ _ h1,hc];simp only [hx]) hn
  | some old=>
   rw [run_store _ _ _ _ _ h1,run_store _ _ _ _ _ h1',hc];simp only;by_cases hf:w.frozen? ⟨b,o,s⟩=true
   ·simp only [hf,if_true];simp
   ·simp only [hf,if_false,Jc1];obtain ⟨old',hc',_⟩:=hw.cell h hc;have hsh:¬ C.Sh b:=by
     intro hs;obtain ⟨x,x',e1,e2,e3⟩:=hw.get h;simp only [World.cell?,e1] at hc;cases x with
     | cells c el fz=>
      obtain ⟨c',fz',_,_,e5,_⟩:=e3;have:=(e5 hs).1;subst this;simp only at hc;split at hc
      ·cases hc
      ·have:=(Ja3.1 hc).1;simp [World.frozen?,e1] at hf;omega
     | _=>cases hc
    have hf':w'.frozen? ⟨b',o,s⟩=false:=by
     obtain ⟨x,x',e1,e2,e3⟩:=hw.get h;cases x with
     | cells c el fz=>
      obtain ⟨c',fz',rfl,_,_,e6⟩:=e3;simp [World.frozen?,e1] at hf;simp [World.frozen?,e2,(e6 hsh).1];exact hf
     | _=>simp [World.cell?,e1] at hc
    obtain ⟨hW,hG⟩:=hw.toWR.setCell h hc hsh hv;refine ⟨E,(),_,by simp [hc',hf'],⟨hW,hw.tape⟩,hG,trivial,fun e he=>?_⟩;rw [events_store _ _ _ _ _ _ h1'] at he;simp [hc',hf'] at he;subst he;exact ⟨⟨b,h,fun _=>hsh⟩,rfl⟩
 ·have:∃ h w1,(Go.store ⟨b,o,s⟩ v:Sem Unit).run C.P w=.halt (.stuck h) w1:=by
   cases v<;>first|(exact ⟨_,_,rfl⟩)|(simp [Value.oneCell'] at h1)
  obtain ⟨x,w1,hx⟩:=this;exact J3.J7z hx (by simp)
theorem J3.newObj {o o':Obj} (hh:E C.P.globals.size C.P.globals.size) (h:∀ b,¬ C.Sh b->J3g C ok E b o o'):J3 C ok E (Go.newObj o) (Go.newObj o') (fun E1 r r'=>E1 r r'/\¬ C.Sh r):=by
 intro L w w' hw;refine .inr ?_;rw [run_newObj,run_newObj];have hg:C.st=true->C.P.globals.size<=w.heap.size/\C.P.globals.size<=w'.heap.size:=fun _=>by have:=hw.dom _ _ hh;omega
 have hnew:¬ C.Sh w.heap.size:=fun h=>Nat.lt_irrefl _ (hw.old _ h);have sub:Sub E (fun b b'=>E b b'\/(b=w.heap.size/\b'=w'.heap.size)):=fun _ _ h=>.inl h;refine ⟨fun b b'=>E b b'\/(b=w.heap.size/\b'=w'.heap.size),w'.heap.size,_,rfl,?_,?_,⟨.inr ⟨rfl,rfl⟩,hnew⟩,fun e he=>by simp at he⟩
 ·refine ⟨⟨hw.os,fun b b' k=>?_,fun b c c' k k'=>?_,fun b c b2 k k'=>?_,fun b k=>?_,fun b b' x x' k hx hx'=>?_,fun e b b' k=>?_,fun e=>by simp [hw.lsz e],fun e b b' k=>?_⟩,hw.tape⟩
  ·rcases k with k|⟨rfl,rfl⟩
   ·have:=hw.dom b b' k;simp;omega
   ·simp
  ·rcases k with k|⟨rfl,rfl⟩<;>rcases k' with k'|⟨e,e'⟩
   ·exact hw.fn b c c' k k'
   ·have:=hw.dom b c k;omega
   ·have:=hw.dom _ c' k';omega
   ·exact e'.symm
  ·rcases k with k|⟨rfl,rfl⟩<;>rcases k' with k'|⟨e,e'⟩
   ·exact hw.inj b c b2 k k'
   ·have:=hw.dom b c k;omega
   ·have:=hw.dom b2 _ k';omega
   ·exact e.symm
  ·have:=hw.old b k;simp;omega
  ·simp only [Jd1] at hx hx';rcases k with k|⟨rfl,rfl⟩
   ·have:=hw.dom b b' k;rw [if_neg (by omega)] at hx hx';exact (hw.obj b b' x x' k hx hx').mono sub
   ·simp only [if_true,Jb2] at hx hx';subst hx;subst hx';exact (h _ hnew).mono sub
  ·rcases k with k|⟨rfl,rfl⟩
   ·exact hw.lid e b b' k
   ·exact (hw.lsz e).symm
  ·rcases k with k|⟨rfl,rfl⟩
   ·exact hw.J5i e b b' k
   ·have:=hg e;omega
 ·refine ⟨sub,fun b b' k=>?_,by simp,by simp;omega,fun b' hb' _=>?_,rfl,Nat.add_comm _ _,rfl,rfl,Ja2 _⟩
  ·rcases k with k|⟨rfl,rfl⟩
   ·exact .inl k
   ·exact .inr ⟨Ja2 _,by omega⟩
  ·simp only [Jd1];rw [if_neg (by omega)]
theorem J3.getObj {r r':Nat} (h:E r r'):J3 C ok E (Go.getObj r) (Go.getObj r') (fun E1 o o'=>J3g C ok E1 r o o'/\∀ c el fz,o≠.cells c el fz):=by
 intro L w w' hw;refine .inr ?_;obtain ⟨o,o',h1,h2,h3⟩:=hw.get h;have e1:(Go.getObj r).run C.P w=match (generalizing:=false) o with | .cells ..=>.halt (.stuck "getObj: a row of cells") w|o=>.ok o w:=by simp only [Go.getObj,Sem.run,h1];cases o<;>rfl
 rw [e1];have e2:(Go.getObj r').run C.P w'=match (generalizing:=false) o' with | .cells ..=>.halt (.stuck "getObj: a row of cells") w'|o'=>.ok o' w':=by simp only [Go.getObj,Sem.run,h2];cases o'<;>rfl
 have e3:(Go.getObj r').events C.P w' #[]=match (generalizing:=false) o' with | .cells ..=>#[]|o'=>#[⟨.obj r',false,o'.isChan⟩]:=by simp only [Go.getObj,Sem.events,Sem.runT,h2];cases o'<;>rfl
 have hx:(∃ c el fz,o=.cells c el fz)\/((∀ c el fz,o≠.cells c el fz)/\(∀ c el fz,o'≠.cells c el fz)/\o'.isChan=false):=by
  cases o with
  | cells c el fz=>exact .inl ⟨c,el,fz,rfl⟩
  | map es ck=>obtain ⟨es',rfl,_⟩:=h3;exact .inr ⟨by simp,by simp,rfl⟩
  | mapIter m a b c=>obtain ⟨_,m',rfl,_⟩:=h3;exact .inr ⟨by simp,by simp,rfl⟩
  | stringIter a b=>obtain ⟨_,rfl⟩:=h3;exact .inr ⟨by simp,by simp,rfl⟩
  | loop l=>obtain ⟨_,m',rfl,_⟩:=h3;exact .inr ⟨by simp,by simp,rfl⟩
  | deferred l=>obtain ⟨_,m',rfl,_⟩:=h3;exact .inr ⟨by simp,by simp,rfl⟩
  | number a l=>obtain ⟨_,m',rfl,_⟩:=h3;exact .inr ⟨by simp,by simp,rfl⟩
  | _=>exact h3.elim
 rcases hx with ⟨c,el,fz,rfl⟩|⟨hx,hx',hch⟩
 ·simp
 have e1':(match (generalizing:=false) o with | .cells ..=>Result.halt (.stuck "getObj: a row of cells") w|o=>.ok o w)=.ok o w:=by
  cases o<;>first|rfl|exact absurd rfl (hx _ _ _)
 have e2':(Go.getObj r').run C.P w'=.ok o' w':=by
  rw [e2];cases o'<;>first|rfl|exact absurd rfl (hx' _ _ _)
 have e3':(Go.getObj r').events C.P w' #[]=#[⟨.obj r',false,false⟩]:=by
  rw [e3,<- hch];cases o'<;>first|rfl|exact absurd rfl (hx' _ _ _)
 rw [e1'];refine ⟨E,o',w',e2',hw,.refl ..,⟨h3,hx⟩,fun e he=>?_⟩;rw [e3'] at he;simp at he;subst he;exact ⟨⟨r,h,fun x=>by cases x⟩,rfl⟩
theorem J3.setObj {r r':Nat} {o o':Obj} (h:E r r') (hsh:¬ C.Sh r) (ho:J3g C ok E r o o') (hn:∀ c el fz,o≠.cells c el fz) :
  J3 C ok E (Go.setObj r o) (Go.setObj r' o') (fun _ _ _=>True):=by
 intro L w w' hw;refine .inr ?_;obtain ⟨x,x',h1,h2,h3⟩:=hw.get h;have e1:(Go.setObj r o).run C.P w=match (generalizing:=false) x with | .cells ..=>.halt (.stuck "setObj: a row of cells") w|_=>.ok () { w with heap:=w.heap.setIfInBounds r o }:=by simp only [Go.setObj,Sem.run,h1];cases x<;>rfl
 have e2:(Go.setObj r' o').run C.P w'=match (generalizing:=false) x' with | .cells ..=>.halt (.stuck "setObj: a row of cells") w'|_=>.ok () { w' with heap:=w'.heap.setIfInBounds r' o' }:=by simp only [Go.setObj,Sem.run,h2];cases x'<;>rfl
 have e3:(Go.setObj r' o').events C.P w' #[]=match (generalizing:=false) x' with | .cells ..=>#[]|_=>#[⟨.obj r',true,o'.isChan⟩]:=by simp only [Go.setObj,Sem.events,Sem.runT,h2];cases x'<;>rfl
 have hch:o'.isChan=false:=by
  cases o with
  | cells c el fz=>exact absurd rfl (hn c el fz)
  | map es ck=>obtain ⟨es',rfl,_⟩:=ho;rfl
  | mapIter m a b c=>obtain ⟨_,m',rfl,_⟩:=ho;rfl
  | stringIter a b=>obtain ⟨_,rfl⟩:=ho;rfl
  | loop l=>obtain ⟨_,m',rfl,_⟩:=ho;rfl
  | deferred l=>obtain ⟨_,m',rfl,_⟩:=ho;rfl
  | number a l=>obtain ⟨_,m',rfl,_⟩:=ho;rfl
  | _=>exact ho.elim
 rw [e1];have hx:(∃ c el fz,x=.cells c el fz)\/((∀ c el fz,x≠.cells c el fz)/\∀ c el fz,x'≠.cells c el fz):=by
  cases x with
  | cells c el fz=>exact .inl ⟨c,el,fz,rfl⟩
  | map es ck=>obtain ⟨es',rfl,_⟩:=h3;exact .inr ⟨by simp,by simp⟩
  | mapIter m a b c=>obtain ⟨_,m',rfl,_⟩:=h3;exact .inr ⟨by simp,by simp⟩
  | stringIter a b=>obtain ⟨_,rfl⟩:=h3;exact .inr ⟨by simp,by simp⟩
  | loop l=>obtain ⟨_,m',rfl,_⟩:=h3;exact .inr ⟨by simp,by simp⟩
  | deferred l=>obtain ⟨_,m',rfl,_⟩:=h3;exact .inr ⟨by simp,by simp⟩
  | number a l=>obtain ⟨_,m',rfl,_⟩:=h3;exact .inr ⟨by simp,by simp⟩
  | _=>exact h3.elim
 rcases hx with ⟨c,el,fz,rfl⟩|⟨hx,hx'⟩
 ·simp
 have e1':(match (generalizing:=false) x with | .cells ..=>Result.halt (.stuck "setObj: a row of cells") w|_=>.ok () { w with heap:=w.heap.setIfInBounds r o })=.ok () { w with heap:=w.heap.setIfInBounds r o }:=by
  cases x<;>first|rfl|exact absurd rfl (hx _ _ _)
 have e2':(Go.setObj r' o').run C.P w'=.ok () { w' with heap:=w'.heap.setIfInBounds r' o' }:=by
  rw [e2];cases x'<;>first|rfl|exact absurd rfl (hx' _ _ _)
 have e3':(Go.setObj r' o').events C.P w' #[]=#[⟨.obj r',true,false⟩]:=by
  rw [e3,hch];cases x'<;>first|rfl|exact absurd rfl (hx' _ _ _)
 rw [e1'];refine ⟨E,(),_,e2',?_,?_,trivial,fun e he=>?_⟩
 ·refine ⟨⟨hw.os,fun b b' k=>?_,hw.fn,hw.inj,fun b k=>?_,fun b b' y y' k hy hy'=>?_,hw.lid,fun e=>by simpa using hw.lsz e,hw.J5i⟩,hw.tape⟩
  ·simpa using hw.dom b b' k
  ·simpa using hw.old b k
  ·simp only [Jb9] at hy hy';have hd:=hw.dom b b' k;by_cases e:r=b
   ·subst e;have e':r'=b':=hw.fn r r' b' h k;subst e';simp only [if_true,hd.1,hd.2,Jb2] at hy hy';subst hy;subst hy';exact ho
   ·have e':r'≠b':=fun e'=>e (hw.inj r r' b h (by rw [e'];exact k));rw [if_neg e] at hy;rw [if_neg e'] at hy';exact hw.obj b b' y y' k hy hy'
 ·refine ⟨.refl _,fun _ _ k=>.inl k,by simp,by simp;omega,fun b' hb' k=>?_,rfl,Nat.add_comm _ _,rfl,rfl,Ja2 _⟩;simp only [Jb9];split
  ·rename_i e;subst e;exact absurd (k r h) hsh
  ·rfl
 ·rw [e3'] at he;simp at he;subst he;exact ⟨⟨r,h,fun _=>hsh⟩,rfl⟩
end
structure J4y (C:Cx):Prop where
 zero:∀ t i z,C.P.info? t=some i->i.zero=some z->∀ E,VR C E z z
 meth:∀ t i m f p,C.J2k t=true->C.P.info? t=some i->m∈i.methods->C.ms.contains m.name=true->m.func=some (f,p)->C.F f
 path:∀ t i m,C.J2k t=true->C.P.info? t=some i->m∈i.methods->C.ms.contains m.name=true->m.path=#[]/\∃ f p,m.func=some (f,p)
def Hnd (C:Cx) (E:J5):Prop:=E C.P.globals.size C.P.globals.size
theorem Hnd.mono {C:Cx} {E E1:J5} (s:Sub E E1) (h:Hnd C E):Hnd C E1:=s _ _ h
section
variable {C:Cx} {ok:FuncId->Code->Prop} {E:J5}
theorem Jd.add {a a':Addr} (h:Jd E a a') (n:Nat):Jd E (a.add n) (a'.add n):=by
 obtain ⟨b,o,s⟩:=a;obtain ⟨b',o',s'⟩:=a';obtain ⟨h1,h2,h3⟩:=h;simp only at h1 h2 h3;subst h2;subst h3;unfold Addr.add;split
 ·exact ⟨h1,rfl,rfl⟩
 ·exact ⟨h1,rfl,rfl⟩
theorem VR.J3w {a a':Addr} (h:Jd E a a'):VR C E (.pointer (some a)) (.pointer (some a')):=by obtain ⟨b,o,s⟩:=a;obtain ⟨b',o',s'⟩:=a';obtain ⟨h1,h2,h3⟩:=h;simp only at h1 h2 h3;subst h2;subst h3;exact .ptr o s h1
theorem VR.of_slice {a a':Addr} (h:Jd E a a') (l c:Nat):VR C E (.slice (some a) l c) (.slice (some a') l c):=by obtain ⟨b,o,s⟩:=a;obtain ⟨b',o',s'⟩:=a';obtain ⟨h1,h2,h3⟩:=h;simp only at h1 h2 h3;subst h2;subst h3;exact .slice o s l c h1
theorem J3.load' {a a':Addr} (h:Jd E a a'):J3 C ok E (Go.load a) (Go.load a') (VR C):=by obtain ⟨b,o,s⟩:=a;obtain ⟨b',o',s'⟩:=a';obtain ⟨h1,h2,h3⟩:=h;simp only at h1 h2 h3;subst h2;subst h3;exact J3.load o s h1
theorem J3.store' {a a':Addr} (h:Jd E a a') {v v':Value} (hv:VR C E v v'):J3 C ok E (Go.store a v) (Go.store a' v') (fun _ _ _=>True):=by obtain ⟨b,o,s⟩:=a;obtain ⟨b',o',s'⟩:=a';obtain ⟨h1,h2,h3⟩:=h;simp only at h1 h2 h3;subst h2;subst h3;exact J3.store o s h1 hv
theorem J3.typeInfo (t:TypeId):J3 C ok E (Go.typeInfo t) (Go.typeInfo t) (fun _ i i'=>i=i'/\C.P.info? t=some i):=by
 refine .calm (fun w=>?_) (fun w=>by simp);cases h:C.P.info? t with
 | none=>exact .inr ⟨.stuck "no such type",w,by simp [Go.typeInfo,h],by simp⟩
 | some i=>exact .inl ⟨i,fun w'=>by simp [Go.typeInfo,h],rfl,rfl⟩
theorem J3.underlying (t:TypeId):J3 C ok E (Go.underlying t) (Go.underlying t) (fun _ i i'=>i=i'/\C.P.underlying t=some i):=by
 refine .calm (fun w=>?_) (fun w=>by simp);cases h:C.P.underlying t with
 | none=>exact .inr ⟨.stuck "no such type",w,by simp [Go.underlying,h],by simp⟩
 | some i=>exact .inl ⟨i,fun w'=>by simp [Go.underlying,h],rfl,rfl⟩
theorem J3.sizeOf (t:TypeId):J3 C ok E (Go.sizeOf t) (Go.sizeOf t) (fun _ i i'=>i=i'):=
 .bind (J3.typeInfo t) fun _ _ _ _ h=>by obtain ⟨rfl,_⟩:=h;exact .pure rfl
theorem J3.isAgg (t:TypeId):J3 C ok E (Go.isAgg t) (Go.isAgg t) (fun _ i i'=>i=i'):=
 .bind (J3.underlying t) fun _ _ _ _ h=>by obtain ⟨rfl,_⟩:=h;split<;>exact .pure rfl
theorem J3.zeroValue (K:J4y C) (t:TypeId):J3 C ok E (Go.zeroValue t) (Go.zeroValue t) (VR C):=
 .bind (J3.typeInfo t) fun _ _ i _ h=>by
  obtain ⟨rfl,hi⟩:=h;split
  ·rename_i z hz;exact .pure (K.zero t i z hi hz _)
  ·exact .unsupported _
theorem J3.elemOf (t:TypeId):J3 C ok E (Go.elemOf t) (Go.elemOf t) (fun _ i i'=>i=i'):=
 .bind (J3.underlying t) fun _ _ _ _ h=>by
  obtain ⟨rfl,_⟩:=h;split
  ·exact .pure rfl
  ·exact .stuck _
theorem J3.loadCellsFrom {a a':Addr}:∀ (n i:Nat) (acc acc':Array Value) (E:J5),Jd E a a'->AR C E acc acc'->J3 C ok E (Go.loadCellsFrom a i n acc) (Go.loadCellsFrom a' i n acc') (AR C)
 | 0,_,_,_,_,_,h=>.pure h
 | n+1,i,_,_,_,ha,h=>.bind (J3.load' (ha.add i)) fun _ s _ _ hv=>J3.loadCellsFrom n (i+1) _ _ _ (ha.mono s) ((h.mono s).push hv)
theorem J3.loadCells {a a':Addr} (n:Nat) (h:Jd E a a'):J3 C ok E (Go.loadCells a n) (Go.loadCells a' n) (AR C):=J3.loadCellsFrom n 0 _ _ _ h .nil
inductive LR (C:Cx) (E:J5):List Value->List Value->Prop
 | nil:LR C E [] []
 | cons {v v':Value} {l l':List Value} (h:VR C E v v') (hl:LR C E l l'):LR C E (v::l) (v'::l')
theorem LR.mono {E1:J5} (s:Sub E E1) {l l':List Value} (h:LR C E l l'):LR C E1 l l':=by
 induction h with
 | nil=>exact .nil
 | cons h _ ih=>exact .cons (h.mono s) ih
theorem LR.Ju3:∀ {l l':List Value},AR C E l.toArray l'.toArray->LR C E l l'
 | [],[],_=>.nil
 | [],_::_,h=>by have:=h.size;simp at this
 | _::_,[],h=>by have:=h.size;simp at this
 | x::l,x'::l',h=>.cons (h.at_ 0 x x' (by simp) (by simp)) (LR.Ju3 ⟨by have:=h.size;simp at this;simp [this],fun i y y' hy hy'=>h.at_ (i+1) y y' (by simpa using hy) (by simpa using hy')⟩)
theorem AR.toList {a a':Array Value} (h:AR C E a a'):LR C E a.toList a'.toList:=LR.Ju3 (by simpa using h)
theorem LR.toArray {l l':List Value} (h:LR C E l l'):AR C E l.toArray l'.toArray:=by
 induction h with
 | nil=>exact .nil
 | cons h _ ih=>
  refine ⟨by simpa using ih.size,fun i y y' hy hy'=>?_⟩;cases i with
  | zero=>simp at hy hy';subst hy;subst hy';exact h
  | succ i=>exact ih.at_ i y y' (by simpa using hy) (by simpa using hy')
theorem J3.storeCells {a a':Addr}:∀ (l l':List Value) (i:Nat) (E:J5),Jd E a a'->LR C E l l'->J3 C ok E (Go.storeCells a l i) (Go.storeCells a' l' i) (fun _ _ _=>True)
 | _,_,_,_,_,.nil=>.pure trivial
 | _,_,i,_,ha,.cons h hl=>.bind (J3.store' (ha.add i) h) fun _ s _ _ _=>J3.storeCells _ _ (i+1) _ (ha.mono s) (hl.mono s)
theorem J3.loadVar (t:TypeId) {a a':Addr} (h:Jd E a a'):J3 C ok E (Go.loadVar t a) (Go.loadVar t a') (VR C):=by
 refine .bind (J3.isAgg t) fun E1 s b b' hb=>?_;obtain rfl:b=b':=hb;cases b with
 | true=>
  refine .bind (J3.sizeOf t) fun E2 s2 n n' hn=>?_;obtain rfl:n=n':=hn;exact .bind (J3.loadCells n (h.mono (s.trans s2))) fun _ _ _ _ hc=>.pure (.J32 hc)
 | false=>exact J3.load' (h.mono s)
theorem J3.storeVar (t:TypeId) {a a':Addr} (h:Jd E a a') {v v':Value} (hv:VR C E v v'):J3 C ok E (Go.storeVar t a v) (Go.storeVar t a' v') (fun _ _ _=>True):=by
 refine .bind (J3.sizeOf t) fun E1 s n n' hn=>?_;obtain rfl:n=n':=hn;have hc:=(AR.cells (hv.mono s));rw [show v'.cells.size=v.cells.size from hc.size.symm];by_cases e:v.cells.size=n
 ·simp only [e,ne_eq,not_true_eq_false,if_false];exact J3.storeCells _ _ 0 _ (h.mono s) hc.toList
 ·simp only [ne_eq,e,not_false_eq_true,if_true];exact J3.bind (R:=fun _ _ _=>False) (.stuck _) fun _ _ _ _ h=>h.elim
theorem J3.newRow (hh:Hnd C E) (el:TypeId) {c c':Array Value} (h:AR C E c c'):J3 C ok E (Go.newRow el c) (Go.newRow el c') (fun E1 a a'=>Jd E1 a a'/\¬ C.Sh a.block):=
 .bind (J3.newObj hh (o:=.cells c el) (o':=.cells c' el) fun b hs=>⟨c',(0,0),rfl,h,fun x=>absurd x hs,fun _=>⟨rfl,fun _=>rfl⟩⟩) fun _ _ _ _ k=>.pure ⟨⟨k.1,rfl,rfl⟩,k.2⟩
theorem J3.newVar (hh:Hnd C E) (t:TypeId) {v v':Value} (h:VR C E v v'):J3 C ok E (Go.newVar t v) (Go.newVar t v') (fun E1 a a'=>Jd E1 a a'/\¬ C.Sh a.block):=J3.newRow hh t (AR.cells h)
theorem J3.part (t:TypeId) {c c':Array Value} (h:AR C E c c') (off:Nat):J3 C ok E (Go.part t c off) (Go.part t c' off) (VR C):=by
 refine .bind (J3.isAgg t) fun E1 s b b' hb=>?_;obtain rfl:b=b':=hb;cases b with
 | true=>
  refine .bind (J3.sizeOf t) fun E2 s2 n n' hn=>?_;obtain rfl:n=n':=hn;exact .pure (.J32 ((h.mono (s.trans s2)).extract _ _))
 | false=>
  show J3 C ok E1 (match c[off]? with|some v=>Pure.pure v|none=>Go.stuck "part: no such cell") (match c'[off]? with|some v=>Pure.pure v|none=>Go.stuck "part: no such cell") (VR C);cases hx:c[off]? with
  | none=>exact .stuck _
  | some x=>obtain ⟨x',hx',hr⟩:=(h.mono s).J04 hx;rw [hx'];exact .pure hr
theorem VR.handle (h:Hnd C E) (t:TypeId):VR C E (typeHandle C.P t) (typeHandle C.P t):=.ptr t none h
theorem J3.runtimePanic {α α':Type} (h:Hnd C E) (e:RuntimeError) {R:J5->α->α'->Prop}:J3 C ok E (Go.runtimePanic e:Sem α) (Go.runtimePanic e:Sem α') R:=by
 refine .bind (R:=fun _ p p'=>p=C.P/\p'=C.P) (.program ⟨rfl,rfl⟩) fun E1 s p p' hp=>?_;obtain ⟨rfl,rfl⟩:=hp;have h1:=h.mono s;cases e with
 | bounds x y sg c=>
  refine .goPanic (.iface _ (by simp [Cx.J2k]) (.J32 ?_));exact LR.toArray (l:=[_,_,_,_]) (l':=[_,_,_,_]) (.cons (.int _ _) (.cons (.int _ _) (.cons (.bool _) (.cons (.int _ _) .nil))))
 | error m=>exact .goPanic (.iface _ (by simp [Cx.J2k]) (.string _))
 | plain m=>exact .goPanic (.iface _ (by simp [Cx.J2k]) (.string _))
 | nilDeref=>exact .goPanic (.iface _ (by simp [Cx.J2k]) (.string _))
 | typeAssertion i c a m=>
  have hh:∀ t:Option TypeId,VR C E1 (match t with|some t=>typeHandle C.P t|none=>.pointer none) (match t with|some t=>typeHandle C.P t|none=>.pointer none):=fun t=>by
   cases t with
   | none=>exact .nilPtr
   | some t=>exact .handle h1 t
  refine .bind (J3.elemOf _) fun E2 s2 t t' ht=>?_;obtain rfl:t=t':=ht;refine .bind (J3.newVar (h1.mono s2) t (.J32 (LR.toArray (l:=[_,_,_,_]) (l':=[_,_,_,_]) (.cons ((hh i).mono s2) (.cons ((hh c).mono s2) (.cons ((hh (some a)).mono s2) (.cons (.string _) .nil))))))) fun E3 _ r r' hr=>?_;exact .goPanic (.iface _ (by simp [Cx.J2k]) (.J3w hr.1))
 | panicNil=>
  refine .bind (J3.elemOf _) fun E2 s2 t t' ht=>?_;obtain rfl:t=t':=ht;refine .bind (J3.newVar (h1.mono s2) t (.J32 .nil)) fun E3 _ r r' hr=>?_;exact .goPanic (.iface _ (by simp [Cx.J2k]) (.J3w hr.1))
 | unhashable t=>exact .goPanic (.iface _ (by simp [Cx.J2k]) (.J32 (.one (.handle h1 t))))
theorem J3.map {α α' β β':Type} {f:α->β} {f':α'->β'} {s:Sem α} {s':Sem α'} {R:J5->α->α'->Prop} (h:J3 C ok E s s' R) :
  J3 C ok E (Functor.map f s) (Functor.map f' s') (fun E1 b b'=>∃ a a',R E1 a a'/\b=f a/\b'=f' a'):=
 J3.bind (f:=fun a=>Sem.pure (f a)) (f':=fun a=>Sem.pure (f' a)) h fun _ _ a a' k=>.pure' ⟨a,a',k,rfl,rfl⟩
theorem J3.boundsPanic {α α':Type} (h:Hnd C E) (k:IntKind) (x y:Int) (c:BoundsCode) {R:J5->α->α'->Prop}:J3 C ok E (Go.boundsPanic k x y c:Sem α) (Go.boundsPanic k x y c:Sem α') R:=by
 unfold Go.boundsPanic
 dsimp only
 split
 ·refine J3.bind' (J3.map (J3.choose _)) fun E1 s b b' hb=>?_;obtain ⟨n,n',rfl,rfl,rfl⟩:=hb;exact J3.runtimePanic (h.mono s) _
 ·exact J3.bind' (R:=fun _ b b'=>b=b') (.pure rfl) fun E1 s b b' hb=>by subst hb;exact J3.runtimePanic (h.mono s) _
theorem J3.asIntOf {v v':Value} (h:VR C E v v'):J3 C ok E (Go.asIntOf v) (Go.asIntOf v') (fun _ x x'=>x=x'):=by
 cases h<;>first|exact .pure rfl|exact .unsupported _|exact .stuck _
theorem J3.asInt {v v':Value} (h:VR C E v v'):J3 C ok E (Go.asInt v) (Go.asInt v') (fun _ x x'=>x=x'):=
 .bind (J3.asIntOf h) fun _ _ _ _ k=>by subst k;exact .pure rfl
theorem J3.asBool {v v':Value} (h:VR C E v v'):J3 C ok E (Go.asBool v) (Go.asBool v') (fun _ x x'=>x=x'):=by
 cases h<;>first|exact .pure rfl|exact .stuck _
theorem J3.asAgg {v v':Value} (h:VR C E v v'):J3 C ok E (Go.asAgg v) (Go.asAgg v') (fun E1 x x'=>AR C E1 x x'):=by
 cases h<;>first|exact .pure ⟨by assumption,by assumption⟩|exact .stuck _
theorem J3.asAddr (hh:Hnd C E) {v v':Value} (h:VR C E v v'):J3 C ok E (Go.asAddr v) (Go.asAddr v') (fun E1 x x'=>Jd E1 x x'):=by
 cases h<;>simp only [Go.asAddr]<;>first|exact .pure ⟨by assumption,rfl,rfl⟩|exact J3.runtimePanic hh _|exact .stuck _
theorem J3.sureAddr {v v':Value} (h:VR C E v v'):J3 C ok E (Instr.sureAddr v) (Instr.sureAddr v') (fun E1 x x'=>Jd E1 x x'):=by
 cases h<;>first|exact .pure ⟨by assumption,rfl,rfl⟩|exact .stuck _
end
end Go.Sim
