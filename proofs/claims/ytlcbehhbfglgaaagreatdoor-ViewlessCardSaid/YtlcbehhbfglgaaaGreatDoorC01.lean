/- Proved: laws for the claim. No conditions. -/
import Derived.Calls
import Derived.Conc.Events
import Derived.Test.YtlcbehhbfglgaaaGreatDoorCA
set_option linter.all false
namespace Go.Sim
abbrev J5:=Nat->Nat->Prop
structure Cx where
 P:Program
 fs:List JG
 ts:List JH
 ms:List String
 mf:List String:=ms
 hl:JG->List Nat
 any:Bool:=false
 st:Bool
 Sh:JB
 lax:st=false->∀b,¬Sh b
def Cx.Ed(C:Cx)(t:JH):Bool:=
 C.ts.contains t || [C.P.rt.boundsError,C.P.rt.errorString,C.P.rt.plainError,C.P.rt.typeAssertionError,C.P.rt.panicNilError,C.P.rt.unhashableTypeError].contains t || (C.any && decide (C.P.types.size<=t))
def Cx.F(C:Cx)(f:JG):Prop:=C.fs.contains f=true
def Cx.mok(C:Cx)(n:String):Bool:=C.ms.contains n && C.mf.contains n
theorem Cx.oN{C:Cx}{n:String}(h:C.mok n=true):C.ms.contains n=true:=by
 unfold Cx.mok at h
 grind
def Di{α β:Type}(R:α->β->Prop):Option α->Option β->Prop
 |none,none=>True
 |some a,some b=>R a b
 |_,_=>False
inductive FnR(C:Cx)(E:J5):Fn->Fn->Prop
 |func{f:JG}(h:C.F f):FnR C E (.func f) (.func f)
 |yield{l l':Nat}(h:E l l'):FnR C E (.yield l) (.yield l')
 |method{n:String}(h:C.mok n=true):FnR C E (.method n) (.method n)
inductive VR(C:Cx)(E:J5):JJ->JJ->Prop
 |bool(b:Bool):VR C E (.bool b) (.bool b)
 |int(k:IntKind)(n:Int):VR C E (.int k n) (.int k n)
 |string(s:ByteArray):VR C E (.string s) (.string s)
 |nilPtr:VR C E (.pointer none) (.pointer none)
 |ptr{b b':Nat}(o:Nat)(s:Option Nat)(h:E b b'):VR C E (.pointer (some ⟨b,o,s⟩)) (.pointer (some ⟨b',o,s⟩))
 |Jk(l c:Nat):VR C E (.slice none l c) (.slice none l c)
 |slice{b b':Nat}(o:Nat)(s:Option Nat)(l c:Nat)(h:E b b'):VR C E (.slice (some ⟨b,o,s⟩) l c) (.slice (some ⟨b',o,s⟩) l c)
 |I5:VR C E (.map none) (.map none)
 |map{r r':Nat}(h:E r r'):VR C E (.map (some r)) (.map (some r'))
 |nilFunc:VR C E .nilFunc .nilFunc
 |MP:VR C E (.chan none) (.chan none)
 |func{fn PL:Fn}{a a' c c':JC}(h:FnR C E fn PL)(ha:a.size=a'.size)
  (hx:∀(i:Nat)(x x':JJ),a[i]?=some x->a'[i]?=some x'->VR C E x x') (hc:c.size=c'.size/\a.size+c.size<=3)
  (hy:∀(i:Nat)(x x':JJ),c[i]?=some x->c'[i]?=some x'->VR C E x x'):VR C E (.func fn a c) (.func PL a' c')
 |iface(t:JH){v v':JJ}(ht:C.Ed t=true)(h:VR C E v v'):VR C E (.iface t v) (.iface t v')
 |nilIface:VR C E .nilIface .nilIface
 |agg{a a':JC}(ha:a.size=a'.size)(hx:∀(i:Nat)(x x':JJ),a[i]?=some x->a'[i]?=some x'->VR C E x x'):VR C E (.agg a) (.agg a')
 |tuple{a a':JC}(ha:a.size=a'.size)(hx:∀(i:Nat)(x x':JJ),a[i]?=some x->a'[i]?=some x'->VR C E x x'):VR C E (.tuple a) (.tuple a')
structure AR(C:Cx)(E:J5)(a a':JC):Prop where
 size:a.size=a'.size
 at_:∀(i:Nat)(x x':JJ),a[i]?=some x->a'[i]?=some x'->VR C E x x'
structure Jc(E:J5)(a a':Addr):Prop where
 block:E a.block a'.block
 off:a.off=a'.off
 spot:a.spot=a'.spot
def Sub(E E1:J5):Prop:=∀b b',E b b'->E1 b b'
def Sub.refl(E:J5):Sub E E:=λ_ _ h=>h
def Sub.trans{E E1 E2:J5}(h:Sub E E1)(h1:Sub E1 E2):Sub E E2:=λb b' x=>h1 b b' (h b b' x)
section
variable{C:Cx}{E E1:J5}
def FnR.mono(s:Sub E E1){a b:Fn}(h:FnR C E a b):FnR C E1 a b:=by
 cases h with
 |func h=>exact .func h
 |yield h=>exact .yield (s _ _ h)
 |method h=>exact .method h
def VR.mono(s:Sub E E1){v v':JJ}(h:VR C E v v'):VR C E1 v v':=by
 induction h with
 |bool b=>exact .bool b
 |int k n=>exact .int k n
 |string x=>exact .string x
 |nilPtr=>exact .nilPtr
 |ptr o p h=>exact .ptr o p (s _ _ h)
 |Jk l c=>exact .Jk l c
 |slice o p l c h=>exact .slice o p l c (s _ _ h)
 |I5=>exact .I5
 |map h=>exact .map (s _ _ h)
 |nilFunc=>exact .nilFunc
 |MP=>exact .MP
 |func h ha _ hc _ hx hy=>exact .func (h.mono s) ha hx hc hy
 |iface t ht _ ih=>exact .iface t ht ih
 |nilIface=>exact .nilIface
 |agg ha _ hx=>exact .agg ha hx
 |tuple ha _ hx=>exact .tuple ha hx
def AR.mono(s:Sub E E1){a a':JC}(h:AR C E a a'):AR C E1 a a':=⟨h.size,λi x x' hx Af=>(h.at_ i x x' hx Af).mono s⟩
theorem VR.undef:VR C E JA JA:=.tuple rfl (λi x x' h=>by simp at h)
theorem AR.nil:AR C E #[] #[]:=⟨rfl,λi x x' h=>by simp at h⟩
def AR.one{v v':JJ}(h:VR C E v v'):AR C E #[v] #[v']:=⟨rfl,λi x x' hx Af=>by
 grind⟩
def AR.Ec{a a':JC}(h:AR C E a a'){i:Nat}{x:JJ}(hx:a[i]?=some x):∃x',a'[i]?=some x'/\VR C E x x':=by
 have hi:i<a.size:=by
  grind
 have CW:i<a'.size:=h.size▸hi;exact⟨a'[i],by simp[CW],h.at_ i x _ hx (by simp[CW])⟩
def AR.VY{a a':JC}(h:AR C E a a'){i:Nat}(hx:a[i]?=none):a'[i]?=none:=by rw[PE]at *;rw[<- h.size];exact hx
def AR.set{a a':JC}(h:AR C E a a')(i:Nat){v v':JJ}(hv:VR C E v v'):AR C E (a.setIfInBounds i v) (a'.setIfInBounds i v'):=by
 refine⟨by simp[h.size],λj x x' hx Af=>?_⟩;rw[Gj]at hx Af;by_cases KJ:i=j
 .grind
 .simp only[KJ,if_false]at hx Af;exact h.at_ j x x' hx Af
def AR.push{a a':JC}(h:AR C E a a'){v v':JJ}(hv:VR C E v v'):AR C E (a.push v) (a'.push v'):=by
 refine⟨by simp[h.size],λj x x' hx Af=>?_⟩;rw[KA]at hx Af;rw[<- h.size]at Af;split at hx
 .grind
 .rename_i e;rw[if_neg e]at Af;exact h.at_ j x x' hx Af
def AR.append{a a' b b':JC}(h:AR C E a a')(k:AR C E b b'):AR C E (a++b) (a'++b'):=by
 refine⟨by simp[h.size,k.size],λj x x' hx Af=>?_⟩;rw[Array.getElem?_append]at hx Af;rw[<- h.size]at Af;split at hx
 .rename_i e;rw[if_pos e]at Af;exact h.at_ j x x' hx Af
 .rename_i e;rw[if_neg e]at Af;exact k.at_ _ x x' hx Af
def AR.extract{a a':JC}(h:AR C E a a')(i j:Nat):AR C E (a.extract i j) (a'.extract i j):=by
 refine⟨by simp[h.size],λk x x' hx Af=>?_⟩;rw[Array.getElem?_extract]at hx Af;rw[<- h.size]at Af;split at hx
 .rename_i e;rw[if_pos e]at Af;exact h.at_ _ x x' hx Af
 .cases hx
def AR.replicate{n:Nat}{v v':JJ}(hv:VR C E v v'):AR C E (Array.replicate n v) (Array.replicate n v'):=by
 refine⟨by simp,λk x x' hx Af=>?_⟩
 grind
theorem AR.map{α:Type}{f f':α->JJ}(xs:Array α)(h:∀x∈xs,VR C E (f x) (f' x)):AR C E (xs.map f) (xs.map f'):=by
 refine⟨by simp,λk x x' hx Af=>?_⟩
 grind
def AR.cells{v v':JJ}(h:VR C E v v'):AR C E v.cells v'.cells:=by
 cases h with
 |agg ha hx=>exact⟨ha,hx⟩
 |bool b=>exact .one (.bool b)
 |int k n=>exact .one (.int k n)
 |string x=>exact .one (.string x)
 |nilPtr=>exact .one .nilPtr
 |ptr o p h=>exact .one (.ptr o p h)
 |Jk l c=>exact .one (.Jk l c)
 |slice o p l c h=>exact .one (.slice o p l c h)
 |I5=>exact .one .I5
 |map h=>exact .one (.map h)
 |nilFunc=>exact .one .nilFunc
 |MP=>exact .one .MP
 |func h ha hx hc hy=>exact .one (.func h ha hx hc hy)
 |iface t ht h=>exact .one (.iface t ht h)
 |nilIface=>exact .one .nilIface
 |tuple ha hx=>exact .one (.tuple ha hx)
def VR.Po{a a':JC}(h:AR C E a a'):VR C E (.agg a) (.agg a'):=.agg h.size h.at_
def VR.U5{a a':JC}(h:AR C E a a'):VR C E (.tuple a) (.tuple a'):=.tuple h.size h.at_
end
structure Hl(C:Cx)(E:J5)(e e':MapEntry):Prop where
 key:VR C E e.key e'.key
 val:VR C E e.val e'.val
 born:e.born=e'.born
structure EsR(C:Cx)(E:J5)(es AU:Array MapEntry):Prop where
 size:es.size=AU.size
 at_:∀(i:Nat)(x x':MapEntry),es[i]?=some x->AU[i]?=some x'->Hl C E x x'
inductive U8(C:Cx)(E:J5):Target->Target->Prop
 |collected{r r':Nat}(h:E r r'):U8 C E (.collected r) (.collected r')
 |nil:U8 C E .nil .nil
 |fn{f f':Fn}{c c':JC}(h:FnR C E f f')(hc:AR C E c c'):U8 C E (.fn f c) (.fn f' c')
structure Wy(C:Cx)(E:J5)(d d':Deferred):Prop where
 target:U8 C E d.target d'.target
 args:AR C E d.args d'.args
 sz:∀f c,d.target=.fn f c->d.args.size+c.size<=6
inductive Fe(C:Cx)(E:J5):List Deferred->List Deferred->Prop
 |nil:Fe C E [] []
 |cons{d d':Deferred}{l l':List Deferred}(h:Wy C E d d')(hl:Fe C E l l'):Fe C E (d::l) (d'::l')
def UA:Code->Bool
 |.ret | .exit _ | .goto _=>true
 |_=>false
structure HR(C:Cx)(E:J5)(fn:JG)(t t':JC):Prop where
 size:t.size=t'.size
 at_:∀(i:Nat)(x x':JJ),(C.hl fn).contains i=false->t[i]?=some x->t'[i]?=some x'->VR C E x x'
def AR.hr{C:Cx}{E:J5}{fn:JG}{t t':JC}(h:AR C E t t'):HR C E fn t t':=⟨h.size,λi x x' _=>h.at_ i x x'⟩
def HR.mono{C:Cx}{E E1:J5}(s:Sub E E1){fn:JG}{t t':JC}(h:HR C E fn t t'):HR C E1 fn t t':=⟨h.size,λi x x' a b c=>(h.at_ i x x' a b c).mono s⟩
def HR.set{C:Cx}{E:J5}{fn:JG}{t t':JC}(h:HR C E fn t t')(i:Nat){v v':JJ}(hv:VR C E v v'):HR C E fn (t.setIfInBounds i v) (t'.setIfInBounds i v'):=by
 refine⟨by simp[h.size],λj x x' hj hx Af=>?_⟩;rw[Gj]at hx Af;by_cases KJ:i=j
 .subst KJ;simp only[if_true]at hx Af;split at hx<;>split at Af<;>simp_all
 .simp only[KJ,if_false]at hx Af;exact h.at_ j x x' hj hx Af
structure Wl(C:Cx)(ok:JG->Code->Prop)(E:J5)(l l':Loop):Prop where
 state:l.state=l'.state
 pending:l.pending=l'.pending
 fn:l.fn=l'.fn
 tmps:HR C E l.fn l.tmps l'.tmps
 params:l.params=l'.params
 assign:l.assign=l'.assign
 body:l.body=l'.body
 defers:E l.defers l'.defers
 ok1:ok l.fn l.assign
 ok2:ok l.fn l.body
 ok3:∀c,l.pending=some c->UA c=true
 st:C.st=false
def Kv(C:Cx)(ok:JG->Code->Prop)(E:J5)(b:Nat):Obj->Obj->Prop
 |.cells c el fz,o'=>∃c' FU,o'=.cells c' el FU/\AR C E c c'/\(C.Sh b->fz=(0,c.size)/\FU=(0,0))/\(¬C.Sh b->FU=fz/\(C.st=true->fz=(0,0)))
 |.map es ck,o'=>∃AU,o'=.map AU ck/\EsR C E es AU
 |.mapIter m since seen U1,o'=>¬C.Sh b/\∃m',o'=.mapIter m' since seen U1/\Di E m m'
 |.stringIter s pos,o'=>¬C.Sh b/\o'=.stringIter s pos
 |.loop l,o'=>¬C.Sh b/\∃l',o'=.loop l'/\Wl C ok E l l'
 |.deferred ds,o'=>¬C.Sh b/\∃O4,o'=.deferred O4/\Di (Fe C E) ds O4
 |.number a lost,o'=>¬C.Sh b/\∃a',o'=.number a' lost/\Jc E a a'
 |_,_=>False
section
variable{C:Cx}{ok:JG->Code->Prop}{E E1:J5}
def Hl.mono(s:Sub E E1){e e':MapEntry}(h:Hl C E e e'):Hl C E1 e e':=⟨h.key.mono s,h.val.mono s,h.born⟩
def EsR.mono(s:Sub E E1){e e':Array MapEntry}(h:EsR C E e e'):EsR C E1 e e':=⟨h.size,λi x x' a b=>(h.at_ i x x' a b).mono s⟩
def U8.mono(s:Sub E E1){d d':Target}(h:U8 C E d d'):U8 C E1 d d':=by
 cases h with
 |collected h=>exact .collected (s _ _ h)
 |nil=>exact .nil
 |fn h hc=>exact .fn (h.mono s) (hc.mono s)
def Wy.mono(s:Sub E E1){d d':Deferred}(h:Wy C E d d'):Wy C E1 d d':=⟨h.target.mono s,h.args.mono s,h.sz⟩
def Fe.mono(s:Sub E E1){d d':List Deferred}(h:Fe C E d d'):Fe C E1 d d':=by
 induction h with
 |nil=>exact .nil
 |cons h _ ih=>exact .cons (h.mono s) ih
def Fe.append{a a' b b':List Deferred}(h:Fe C E a a')(k:Fe C E b b'):Fe C E (a++b) (a'++b'):=by
 induction h with
 |nil=>exact k
 |cons h _ ih=>exact .cons h ih
def Wl.mono(s:Sub E E1){l l':Loop}(h:Wl C ok E l l'):Wl C ok E1 l l':={ h with tmps:=h.tmps.mono s,defers:=s _ _ h.defers }
def Di.mono'{α β:Type}{R R':α->β->Prop}(hr:∀a b,R a b->R' a b){x:Option α}{y:Option β}(h:Di R x y):Di R' x y:=by cases x<;>cases y<;>simp_all [Di]
def Jc.mono(s:Sub E E1){a a':Addr}(h:Jc E a a'):Jc E1 a a':=⟨s _ _ h.block,h.off,h.spot⟩
def Kv.mono(s:Sub E E1){b:Nat}{o o':Obj}(h:Kv C ok E b o o'):Kv C ok E1 b o o':=by
 cases o with
 |cells c el fz=>obtain⟨c',FU,h1,h2,h3⟩:=h;exact⟨c',FU,h1,h2.mono s,h3⟩
 |map es ck=>obtain⟨AU,h1,h2⟩:=h;exact⟨AU,h1,h2.mono s⟩
 |mapIter m a b c=>obtain⟨h,m',h1,h2⟩:=h;exact⟨h,m',h1,h2.mono' (s · ·)⟩
 |stringIter a b=>exact h
 |loop l=>obtain⟨h,l',h1,h2⟩:=h;exact⟨h,l',h1,h2.mono s⟩
 |deferred ds=>obtain⟨h,l',h1,h2⟩:=h;exact⟨h,l',h1,h2.mono' λ_ _=>Fe.mono s⟩
 |number a lost=>obtain⟨h,a',h1,h2⟩:=h;exact⟨h,a',h1,h2.mono s⟩
 |_=>exact h.elim
end
structure WR(C:Cx)(ok:JG->Code->Prop)(E:J5)(w w':JE):Prop where
 os:w'.os=w.os
 dom:∀b b',E b b'->b<w.heap.size/\b'<w'.heap.size
 fn:∀b c c',E b c->E b c'->c=c'
 inj:∀b c b2,E b c->E b2 c->b=b2
 old:∀b,C.Sh b->b<w.heap.size
 obj:∀b b' o o',E b b'->w.heap[b]?=some o->w'.heap[b']?=some o'->Kv C ok E b o o'
 lid:C.st=false->∀b b',E b b'->b=b'
 lsz:C.st=false->w'.heap.size=w.heap.size
 glob:C.st=true->∀b b',E b b'->C.P.globals.size<=b/\C.P.globals.size<=b'
def Jms(L:Option Nat)(w w':JE):Prop:=∀k,(∀lim,L=some lim->w'.drawn+k<lim)->∀q,w'.tape (w'.drawn+k) q=w.tape (w.drawn+k) q
def Over(L:Option Nat)(w:JE):Prop:=∃lim,L=some lim/\lim<w.drawn
structure WT(C:Cx)(ok:JG->Code->Prop)(E:J5)(L:Option Nat)(w w':JE):Prop extends WR C ok E w w' where
 tape:Jms L w w'
structure Grow(C:Cx)(E E1:J5)(w w' w1 Am:JE):Prop where
 sub:Sub E E1
 new:∀b b',E1 b b'->E b b'\/(w.heap.size<=b/\b'+w.heap.size=b+w'.heap.size)
 size:w.heap.size<=w1.heap.size
 shift:Am.heap.size+w.heap.size=w1.heap.size+w'.heap.size
 keep:∀b',b'<w'.heap.size->(∀b,E b b'->C.Sh b)->Am.heap[b']?=w'.heap[b']?
 out:Am.output=w'.output
 draw:Am.drawn+w.drawn=w1.drawn+w'.drawn
 tape:w1.tape=w.tape
 os:w1.os=w.os
 more:w'.drawn<=Am.drawn
def Grow.refl(C:Cx)(E:J5)(w w':JE):Grow C E E w w' w w':=
 ⟨.refl E,λ_ _ h=>.inl h,Ad _,by omega,λ_ _ _=>rfl,rfl,by omega,rfl,rfl,Ad _⟩
def Grow.trans{C:Cx}{E E1 E2:J5}{w w' w1 Am w2 Bv:JE}(old:∀b,C.Sh b->b<w.heap.size)(h:Grow C E E1 w w' w1 Am)(k:Grow C E1 E2 w1 Am w2 Bv):Grow C E E2 w w' w2 Bv:=by
 refine⟨h.sub.trans k.sub,λb b' hb=>?_,BN h.size k.size,?_,λb' BO hh=>?_,k.out.trans h.out,by have:=h.draw;have:=k.draw;omega,k.tape.trans h.tape,k.os.trans h.os,BN h.more k.more⟩
 .rcases k.new b b' hb with h1|⟨h1,h2⟩
  .exact h.new b b' h1
  .refine .inr ⟨BN h.size h1,?_⟩;have:=h.shift;omega
 .have:=h.shift;have:=k.shift;omega
 .have hs:=h.shift;have hz:=h.size;rw[k.keep b' (by omega) (λb hb=>?_),h.keep b' BO hh];rcases h.new b b' hb with h1|⟨_,h2⟩
  .exact hh b h1
  .omega
def Lc(C:Cx)(E:J5)(e:Event):Prop:=
 match e.loc with
 |.cell a=>(∃b,E b a.block/\(e.write=true->¬C.Sh b))/\e.sync=false
 |.obj r=>(∃b,E b r/\(e.write=true->¬C.Sh b))/\e.sync=false
 |.mark .noRoom=>True
 |.mark (.extern _)=>True
 |_=>False
def Lc.mono{C:Cx}{E E1:J5}(s:Sub E E1){e:Event}(h:Lc C E e):Lc C E1 e:=by
 obtain⟨loc,wr,sy⟩:=e;cases loc with
 |cell a=>obtain⟨⟨b,h1,h2⟩,h3⟩:=h;exact⟨⟨b,s _ _ h1,h2⟩,h3⟩
 |obj a=>obtain⟨⟨b,h1,h2⟩,h3⟩:=h;exact⟨⟨b,s _ _ h1,h2⟩,h3⟩
 |mark m=>cases m<;>exact h
 |output=>exact h
 |goroutines=>exact h
@[simp] def Dead(x:Halt):Prop:=(∀v,x≠.panic v)/\x≠.goexit/\(∀g,x≠.unsupported (.initOrder g))/\(∀m,x≠.throw m)/\(∀m,x≠.fatal m)/\x≠.blocked/\x≠.waiting
def _root_.Go.Result.left{α:Type}:Result α->JE
 |.ok _ w=>w
 |.halt _ w=>w
def Jcm{α:Type}:∀(a:Ask α)(w:JE),w.drawn<=(w.ask a).2.drawn
 |.done a,w=>Ad _
 |.ask what range k,w=>by
  unfold World.ask
  dsimp only
  split
  .exact Jcm _ _
  .exact BN (Nat.le_succ _) (Jcm _ { w with drawn:=w.drawn+1 })
def Jt8(w:JE)(c:Sys):w.drawn<=(w.sys c).2.drawn:=by
 have:=Jcm (Kernel.perform c w.os) w;unfold World.sys
 grind
def bind_ok{ε α β:Type}{x:Except ε α}{f:α->Except ε β}{b:β}(h:(x >>= f)=.ok b):∃a,x=.ok a/\f a=.ok b:=by
 cases x with
 |error e=>cases h
 |ok a=>exact⟨a,rfl,h⟩
def TF{α:Type}{c:Prop}[Decidable c]{x y b:α}(h:(if c then x else y)=b):x=b\/y=b:=by
 grind
def Jdj{P:Program}{w w1:JE}{at_:Addr}{u:JH}{k:Addr}{v:JJ}{b:Bool}{l:List Addr}(h:w.viewStore P at_ u k v b=.ok (w1,l)):w1.drawn=w.drawn:=by
 unfold World.viewStore at h
 dsimp only at h
 rcases TF h with h|h
 .cases h
 obtain⟨⟨c,e,frozen,first,like,cells⟩,_,h⟩:=bind_ok h
 dsimp only at h
 cases hb:v.bytes? with
 |none=>rw[hb]at h;cases h
 |some bytes=>
  rw[hb]at h
  dsimp only at h
  rcases TF h with h|h
  .cases h
  .obtain⟨c1,_,h⟩:=bind_ok h;cases h;rfl
def Jfr{P:Program}{w w1:JE}{a:Addr}{v:JJ}{b:Bool}{l:List Addr}(h:w.farStore P a v b=.ok (w1,l)):w1.drawn=w.drawn:=by
 unfold World.farStore at h;split at h
 .split at h
  .rename_i h1;cases h;exact Jdj h1
  .cases h
 .cases h
def IZ{α:Type}(P:Program):∀(s:Sem α)(w:JE),w.drawn<=(s.run P w).left.drawn
 |.pure a,w=>Ad _
 |.load m a k,w=>by
  simp only[Sem.run];cases w.cell? a with
  |some v=>exact IZ P _ _
  |none=>
   dsimp only
   split
   .exact IZ P _ _
   .exact Ad _
 |.store m a v k,w=>by
  cases v<;>simp only[Sem.run]<;>first
   |exact Ad _
   |(cases w.cell? a with
     |some u=>
      dsimp only
      split
      .exact Ad _
      .exact IZ P k (w.setCell a _)
     |none=>
      dsimp only
      split
      .rename_i h;refine BN ?_ (IZ P k _);rw[Jfr h];exact Ad _
      .exact Ad _)
 |.new o k,w=>by unfold Sem.run;exact IZ P (k w.heap.size) { w with heap:=w.heap.push o }
 |.shape r k,w=>by unfold Sem.run;exact IZ P _ _
 |.freeze a n k,w=>by
  unfold Sem.run;refine BN ?_ (IZ P k (w.freeze a n));unfold World.freeze;split<;>exact Ad _
 |.frozen a k,w=>by unfold Sem.run;exact IZ P _ _
 |.getObj r k,w=>by
  unfold Sem.run;split
  .exact Ad _
  .exact IZ P _ _
  .exact Ad _
 |.setObj r o k,w=>by
  unfold Sem.run;split
  .exact Ad _
  .exact IZ P k { w with heap:=w.heap.setIfInBounds r o }
  .exact Ad _
 |.choose q k,w=>by
  unfold Sem.run;split
  .exact IZ P _ _
  .exact BN (Nat.le_succ _) (IZ P _ { w with drawn:=w.drawn+1 })
 |.sys c k,w=>by
  unfold Sem.run;exact BN (Jt8 w c) (IZ P _ _)
 |.program k,w=>by unfold Sem.run;exact IZ P _ _
 |.mark m k,w=>by unfold Sem.run;exact IZ P k w
 |.halt h,w=>Ad _
def Over.mono{L:Option Nat}{w w1:JE}(h:Over L w)(k:w.drawn<=w1.drawn):Over L w1:=by obtain⟨lim,h1,h2⟩:=h;exact⟨lim,h1,DX h2 k⟩
def J3(C:Cx)(ok:JG->Code->Prop){α α':Type}(E:J5)(s:Sem α)(s':Sem α')(R:J5->α->α'->Prop):Prop:=
 ∀L w w',WT C ok E L w w'->Over L (s'.run C.P w').left \/
  match s.run C.P w with
  |.ok a w1=>∃E1 a' Am,s'.run C.P w'=.ok a' Am/\WT C ok E1 L w1 Am/\Grow C E E1 w w' w1 Am/\R E1 a a'/\∀e∈s'.events C.P w' #[],Lc C E1 e
  |.halt (.panic v) w1=>∃E1 v' Am,s'.run C.P w'=.halt (.panic v') Am/\WT C ok E1 L w1 Am/\Grow C E E1 w w' w1 Am/\VR C E1 v v'/\∀e∈s'.events C.P w' #[],Lc C E1 e
  |.halt x _=>Dead x
section
variable{C:Cx}{ok:JG->Code->Prop}{E:J5}{α α' β β':Type}
theorem J3.bind{s:Sem α}{s':Sem α'}{f:α->Sem β}{f':α'->Sem β'}{R:J5->α->α'->Prop}{R2:J5->β->β'->Prop}
  (h:J3 C ok E s s' R) (k:∀E1,Sub E E1->∀a a',R E1 a a'->J3 C ok E1 (f a) (f' a') R2):J3 C ok E (s.bind f) (s'.bind f') R2:=by
 intro L w w' hw;have h1:=h L w w' hw;rw[Sem.run_bind',Sem.run_bind',Sem.events_bind'];rcases h1 with ho|h1
 .refine .inl ?_;cases hr:s'.run C.P w' with
  |ok a w1=>rw[hr]at ho;exact ho.mono (IZ C.P (f' a) w1)
  |halt x w1=>rw[hr]at ho;exact ho
 cases hr:s.run C.P w with
 |halt x w1=>
  rw[hr]at h1;refine .inr ?_;cases x with
  |panic v=>obtain⟨E1,v',Am,e1,e2,e3,e4,e5⟩:=h1;simp only[e1,Result.andThen];exact⟨E1,v',Am,rfl,e2,e3,e4,e5⟩
  |_=>exact h1
 |ok a w1=>
  rw[hr]at h1;obtain⟨E1,a',Am,e1,e2,e3,e4,e5⟩:=h1;simp only[e1,Result.andThen,Result.evThen];rcases k E1 e3.sub a a' e4 L w1 Am e2 with ho|h2
  .exact .inl ho
  refine .inr ?_;cases BM:(f a).run C.P w1 with
  |halt x w2=>
   rw[BM]at h2;cases x with
   |panic v=>
    obtain⟨E2,v',Bv,g1,g2,g3,g4,g5⟩:=h2;refine⟨E2,v',Bv,g1,g2,e3.trans hw.old g3,g4,λe he=>?_⟩;rw[Sem.events_acc]at he;rcases Array.mem_append.1 he with he|he
    .exact(e5 e he).mono g3.sub
    grind
   |_=>exact h2
  |ok b w2=>
   rw[BM]at h2;obtain⟨E2,v',Bv,g1,g2,g3,g4,g5⟩:=h2;refine⟨E2,v',Bv,g1,g2,e3.trans hw.old g3,g4,λe he=>?_⟩;rw[Sem.events_acc]at he;rcases Array.mem_append.1 he with he|he
   .exact(e5 e he).mono g3.sub
   grind
def J3.bind'{s:Sem α}{s':Sem α'}{f:α->Sem β}{f':α'->Sem β'}{R:J5->α->α'->Prop}{R2:J5->β->β'->Prop}
  (h:J3 C ok E s s' R) (k:∀E1,Sub E E1->∀a a',R E1 a a'->J3 C ok E1 (f a) (f' a') R2):J3 C ok E (s >>= f) (s' >>= f') R2:=h.bind k
theorem J3.pure{a:α}{a':α'}{R:J5->α->α'->Prop}(h:R E a a'):J3 C ok E (Pure.pure a) (Pure.pure a') R:=by intro L w w' hw;exact .inr ⟨E,a',w',rfl,hw,.refl ..,h,λe he=>by simp at he⟩
def J3.pure'{a:α}{a':α'}{R:J5->α->α'->Prop}(h:R E a a'):J3 C ok E (Sem.pure a) (Sem.pure a') R:=J3.pure h
def J3.mono{s:Sem α}{s':Sem α'}{R R':J5->α->α'->Prop}(h:J3 C ok E s s' R)(k:∀E1 a a',Sub E E1->R E1 a a'->R' E1 a a'):J3 C ok E s s' R':=by
 intro L w w' hw;rcases h L w w' hw with ho|h1
 .exact .inl ho
 refine .inr ?_;cases hr:s.run C.P w with
 |halt x w1=>grind
 |ok a w1=>rw[hr]at h1;obtain⟨E1,a',Am,e1,e2,e3,e4,e5⟩:=h1;exact⟨E1,a',Am,e1,e2,e3,k _ _ _ e3.sub e4,e5⟩
theorem J3.stuck{s':Sem α'}{R:J5->α->α'->Prop}(Ya:String):J3 C ok E (Go.stuck Ya:Sem α) s' R:=λ_ _ _ _=>.inr ⟨by simp,by simp,by simp,by simp,by simp,by simp,by simp⟩
theorem J3.unsupported{s':Sem α'}{R:J5->α->α'->Prop}(u:Unsupported)(hu:∀g,u≠.initOrder g:=by intro g;nofun):J3 C ok E (Go.unsupported u:Sem α) s' R:=λ_ _ _ _=>.inr ⟨by simp,by simp,λg h=>hu g (by injection h),by simp,by simp,by simp,by simp⟩
def J3.goPanic{v v':JJ}{R:J5->α->α'->Prop}(h:VR C E v v'):J3 C ok E (Go.goPanic v:Sem α) (Go.goPanic v':Sem α') R:=
 λL w w' hw=>.inr ⟨E,v',w',rfl,hw,.refl ..,h,λe he=>by simp at he⟩
def J3.calm{s:Sem α}{R:J5->α->α->Prop}(h:∀w,(∃a,(∀w',s.run C.P w'=.ok a w')/\R E a a)\/∃x w1,s.run C.P w=.halt x w1/\Dead x)(Fq:∀w,s.events C.P w #[]=#[]):J3 C ok E s s R:=by
 intro L w w' hw;refine .inr ?_;rcases h w with⟨a,ha,hr⟩|⟨x,w1,hx,hn⟩
 .rw[ha w];exact⟨E,a,w',ha w',hw,.refl ..,hr,λe he=>by grind⟩
 simp_all
def J3.program{R:J5->Program->Program->Prop}(h:R E C.P C.P):J3 C ok E Go.program Go.program R:=
 λ_ _ w' hw=>.inr ⟨E,C.P,w',rfl,hw,.refl ..,h,λe he=>by simp at he⟩
def J3.choose(q:Question):J3 C ok E (Go.choose q) (Go.choose q) (λ_ n n'=>n=n'):=by
 intro L w w' hw;rw[run_choose,run_choose];by_cases hq:q.forced=true
 .simp only[hq,if_true];exact .inr ⟨E,0,w',rfl,hw,.refl ..,rfl,λe he=>by simp at he⟩
 .simp only[hq,if_false,DY];by_cases hl:∀lim,L=some lim->w'.drawn<lim
  .refine .inr ⟨E,_,_,rfl,?_,?_,?_,λe he=>by simp at he⟩
   .refine⟨⟨hw.os,hw.dom,hw.fn,hw.inj,hw.old,hw.obj,hw.lid,hw.lsz,hw.glob⟩,λk hk q=>?_⟩;have:=hw.tape (k+1) (λlim e=>by grind) q
    grind
   .exact⟨.refl _,λ_ _ h=>.inl h,Ad _,Nat.add_comm _ _,λ_ _ _=>rfl,rfl,by grind,rfl,rfl,Nat.le_succ _⟩
   .have:=hw.tape 0 (λlim e=>hl lim e) q
    grind
  .refine .inl ?_;simp only[Classical.not_forall,not_imp,Nat.not_lt]at hl;obtain⟨lim,e,h⟩:=hl;exact⟨lim,e,by show lim<w'.drawn+1;omega⟩
def J3.mark{m:Mark}{R:J5->Unit->Unit->Prop}(h:Lc C E ⟨.mark m,false,true⟩)(hr:R E () ()):J3 C ok E (Go.mark m) (Go.mark m) R:=
 λ_ _ w' hw=>.inr ⟨E,(),w',rfl,hw,.refl ..,hr,λe he=>by simp_all⟩
end
section
variable{C:Cx}{ok:JG->Code->Prop}{E:J5}{α α':Type}
def WR.get{w w':JE}(hw:WR C ok E w w'){b b':Nat}(h:E b b'):∃o o',w.heap[b]?=some o/\w'.heap[b']?=some o'/\Kv C ok E b o o':=by obtain⟨h1,h2⟩:=hw.dom b b' h;exact⟨w.heap[b],w'.heap[b'],by simp[h1],by simp[h2],hw.obj b b' _ _ h (by simp[h1]) (by simp[h2])⟩
def WR.cell{w w':JE}(hw:WR C ok E w w'){b b' o:Nat}{s:Option Nat}(h:E b b'){v:JJ}(hc:w.cell? ⟨b,o,s⟩=some v) :
  ∃v',w'.cell? ⟨b',o,s⟩=some v'/\VR C E v v':=by
 obtain⟨x,x',h1,h2,h3⟩:=hw.get h;simp only[World.cell?,h1]at hc;cases x with
 |cells c el fz=>
  simp only at hc;obtain⟨c',FU,rfl,h4,_⟩:=h3;split at hc
  .cases hc
  .rename_i hs;obtain⟨v',OV,hr⟩:=h4.Ec hc;exact⟨v',by simp[World.cell?,h2,hs,OV],hr⟩
 |_=>cases hc
def WR.Jq0{w w':JE}(hw:WR C ok E w w'){b b' o:Nat}{s:Option Nat}(h:E b b')(m:Bool):∃x,w.farLoad C.P ⟨b,o,s⟩ m=.error x/\Dead x:=by
 obtain⟨x,x',h1,_,h3⟩:=hw.get h;unfold World.farLoad World.noCell;simp only[h1];cases x with
 |view a t=>exact h3.elim
 |pending c t=>exact h3.elim
 |_=>simp_all
def WR.Jmt{w w':JE}(hw:WR C ok E w w'){b b' o:Nat}{s:Option Nat}(h:E b b')(v:JJ)(m:Bool):∃x,w.farStore C.P ⟨b,o,s⟩ v m=.error x/\Dead x:=by
 obtain⟨x,x',h1,_,h3⟩:=hw.get h;unfold World.farStore World.noCell;simp only[h1];cases x with
 |view a t=>exact h3.elim
 |pending c t=>exact h3.elim
 |_=>simp_all
theorem J3.load{b b':Nat}(o:Nat)(s:Option Nat)(h:E b b'):J3 C ok E (Go.load ⟨b,o,s⟩) (Go.load ⟨b',o,s⟩) (VR C):=by
 intro L w w' hw;refine .inr ?_;cases hc:w.cell? ⟨b,o,s⟩with
 |some v=>
  rw[run_load,run_load,hc];obtain⟨v',OV,hr⟩:=hw.cell h hc;simp only[OV];refine⟨E,v',w',rfl,hw,.refl ..,hr,λe he=>?_⟩;simp[OV]at he;subst he;exact⟨⟨b,h,λx=>by cases x⟩,rfl⟩
 |none=>
  obtain⟨x,hx,hn⟩:=hw.Jq0 h (o:=o) (s:=s) (Mode.plain == .atomic)
  simp_all
def Jlo{α:Type}{f:α->α}{xs:Array α}{b:Nat}{x:α}(h:xs[b]?=some x):(xs.modify b f)[b]?=some (f x):=by
 grind
theorem WR.setCell{w w':JE}(hw:WR C ok E w w'){b b' o:Nat}{s:Option Nat}(h:E b b'){v v' old:JJ}(hc:w.cell? ⟨b,o,s⟩=some old)(Cj:¬C.Sh b)(hv:VR C E v v') :
  WR C ok E (w.setCell ⟨b,o,s⟩ v) (w'.setCell ⟨b',o,s⟩ v')/\Grow C E E w w' (w.setCell ⟨b,o,s⟩ v) (w'.setCell ⟨b',o,s⟩ v'):=by
 refine⟨⟨hw.os,λc c' k=>?_,hw.fn,hw.inj,λc k=>?_,λc c' x x' k hx Af=>?_,hw.lid,λe=>by simpa[World.setCell]using hw.lsz e,hw.glob⟩,⟨.refl _,λ_ _ k=>.inl k,?_,?_,λc MG k=>?_,rfl,Nat.add_comm _ _,rfl,rfl,Ad _⟩⟩
 .simpa[World.setCell]using hw.dom c c' k
 .simpa[World.setCell]using hw.old c k
 .simp only[World.setCell,Array.getElem?_modify]at hx Af;by_cases e:b=c
  .subst e;have e':b'=c':=hw.fn b b' c' h k;subst e';simp only[if_true,Fh]at hx Af;obtain⟨y,hy,rfl⟩:=hx;obtain⟨y',DC,rfl⟩:=Af;have hr:=hw.obj b b' y y' h hy DC;cases y with
   |cells c el fz=>
    obtain⟨c',FU,rfl,h4,h5,h6⟩:=hr;refine⟨if s.isSome then c' else c'.setIfInBounds o v',FU,rfl,?_,λx=>absurd x Cj,h6⟩;cases s with
    |some z=>grind
    |none=>simpa using h4.set o hv
   |_=>simp[World.cell?,hy]at hc
  .have e':b'≠c':=λe'=>e (hw.inj b b' c h (by grind));rw[if_neg e]at hx;rw[if_neg e']at Af;exact hw.obj c c' x x' k hx Af
 .simp[World.setCell]
 .simp[World.setCell];omega
 .simp only[World.setCell,Array.getElem?_modify]
  grind
theorem J3.store{b b':Nat}(o:Nat)(s:Option Nat){v v':JJ}(h:E b b')(hv:VR C E v v'):J3 C ok E (Go.store ⟨b,o,s⟩ v) (Go.store ⟨b',o,s⟩ v') (λ_ _ _=>True):=by
 intro L w w' hw;refine .inr ?_;by_cases h1:v.oneCell'=true
 .have Vo:v'.oneCell'=true:=by cases hv<;>simp_all [Value.oneCell']
  cases hc:w.cell? ⟨b,o,s⟩with
  |none=>
   obtain⟨x,hx,hn⟩:=hw.Jmt h (o:=o) (s:=s) v (Mode.plain == .atomic)
   simp_all[run_store]
  |some old=>
   rw[run_store _ _ _ _ _ h1,run_store _ _ _ _ _ Vo,hc];simp only;by_cases hf:w.frozen? ⟨b,o,s⟩=true
   .simp_all
   .simp only[hf,if_false,DY];obtain⟨old',MG,_⟩:=hw.cell h hc;have Cj:¬C.Sh b:=by
     intro hs;obtain⟨x,x',e1,e2,e3⟩:=hw.get h;simp only[World.cell?,e1]at hc;cases x with
     |cells c el fz=>
      obtain⟨c',FU,_,_,e5,_⟩:=e3;have:=(e5 hs).1;subst this;simp only at hc;split at hc
      .cases hc
      .have:=(BJ.1 hc).1;simp[World.frozen?,e1]at hf;omega
     |_=>cases hc
    have IL:w'.frozen? ⟨b',o,s⟩=false:=by
     obtain⟨x,x',e1,e2,e3⟩:=hw.get h;cases x with
     |cells c el fz=>
      obtain⟨c',FU,rfl,_,_,e6⟩:=e3;simp[World.frozen?,e1]at hf;simp[World.frozen?,e2,(e6 Cj).1];exact hf
     |_=>simp[World.cell?,e1]at hc
    obtain⟨hW,hG⟩:=hw.toWR.setCell h hc Cj hv;refine⟨E,(),_,by grind,⟨hW,hw.tape⟩,hG,trivial,λe he=>?_⟩;rw[events_store _ _ _ _ _ _ Vo]at he;simp[MG,IL]at he;subst he;exact⟨⟨b,h,λ_=>Cj⟩,rfl⟩
 .have:∃h w1,(Go.store ⟨b,o,s⟩ v:Sem Unit).run C.P w=.halt (.stuck h) w1:=by
   cases v<;>first|(exact⟨_,_,rfl⟩)|(simp[Value.oneCell']at h1)
  obtain⟨x,w1,hx⟩:=this
  simp_all
def J3.newObj{o o':Obj}(hh:E C.P.globals.size C.P.globals.size)(h:∀b,¬C.Sh b->Kv C ok E b o o'):J3 C ok E (Go.newObj o) (Go.newObj o') (λE1 r r'=>E1 r r'/\¬C.Sh r):=by
 intro L w w' hw;refine .inr ?_;rw[run_newObj,run_newObj];have hg:C.st=true->C.P.globals.size<=w.heap.size/\C.P.globals.size<=w'.heap.size:=λ_=>by have:=hw.dom _ _ hh;omega
 have Dw:¬C.Sh w.heap.size:=λh=>Nat.lt_irrefl _ (hw.old _ h);have sub:Sub E (λb b'=>E b b'\/(b=w.heap.size/\b'=w'.heap.size)):=λ_ _ h=>.inl h;refine⟨λb b'=>E b b'\/(b=w.heap.size/\b'=w'.heap.size),w'.heap.size,_,rfl,?_,?_,⟨.inr ⟨rfl,rfl⟩,Dw⟩,λe he=>by simp at he⟩
 .refine⟨⟨hw.os,λb b' k=>?_,λb c c' k k'=>?_,λb c b2 k k'=>?_,λb k=>?_,λb b' x x' k hx Af=>?_,λe b b' k=>?_,λe=>by simp[hw.lsz e],λe b b' k=>?_⟩,hw.tape⟩
  .rcases k with k|⟨rfl,rfl⟩
   .have:=hw.dom b b' k;simp;omega
   .simp
  .rcases k with k|⟨rfl,rfl⟩<;>rcases k' with k'|⟨e,e'⟩
   .exact hw.fn b c c' k k'
   .have:=hw.dom b c k;omega
   .have:=hw.dom _ c' k';omega
   grind
  .rcases k with k|⟨rfl,rfl⟩<;>rcases k' with k'|⟨e,e'⟩
   .exact hw.inj b c b2 k k'
   .have:=hw.dom b c k;omega
   .have:=hw.dom b2 _ k';omega
   grind
  .have:=hw.old b k;simp;omega
  .simp only[KA]at hx Af;rcases k with k|⟨rfl,rfl⟩
   .have:=hw.dom b b' k;rw[if_neg (by omega)]at hx Af;exact(hw.obj b b' x x' k hx Af).mono sub
   .simp only[if_true,Cb]at hx Af;subst hx;subst Af;exact(h _ Dw).mono sub
  .rcases k with k|⟨rfl,rfl⟩
   .exact hw.lid e b b' k
   .exact(hw.lsz e).symm
  .rcases k with k|⟨rfl,rfl⟩
   .exact hw.glob e b b' k
   grind
 .refine⟨sub,λb b' k=>?_,by simp,by simp;omega,λb' BO _=>?_,rfl,Nat.add_comm _ _,rfl,rfl,Ad _⟩
  all_goals grind
def J3.getObj{r r':Nat}(h:E r r'):J3 C ok E (Go.getObj r) (Go.getObj r') (λE1 o o'=>Kv C ok E1 r o o'/\∀c el fz,o≠.cells c el fz):=by
 intro L w w' hw;refine .inr ?_;obtain⟨o,o',h1,h2,h3⟩:=hw.get h;have e1:(Go.getObj r).run C.P w=match(generalizing:=false) o with| .cells ..=>.halt (.stuck "getObj: a row of cells") w|o=>.ok o w:=by
  simp only[Go.getObj,Sem.run,h1]
  grind
 rw[e1];have e2:(Go.getObj r').run C.P w'=match(generalizing:=false) o' with| .cells ..=>.halt (.stuck "getObj: a row of cells") w'|o'=>.ok o' w':=by
  simp only[Go.getObj,Sem.run,h2]
  grind
 have e3:(Go.getObj r').events C.P w' #[]=match(generalizing:=false) o' with| .cells ..=>#[]|o'=>#[⟨.obj r',false,o'.isChan⟩]:=by
  simp only[Go.getObj,Sem.events,Sem.runT,h2]
  grind
 have hx:(∃c el fz,o=.cells c el fz)\/((∀c el fz,o≠.cells c el fz)/\(∀c el fz,o'≠.cells c el fz)/\o'.isChan=false):=by
  cases o with
  |cells c el fz=>grind
  |map es ck=>obtain⟨AU,rfl,_⟩:=h3;exact .inr ⟨by simp,by simp,rfl⟩
  |mapIter m a b c=>obtain⟨_,m',rfl,_⟩:=h3;exact .inr ⟨by simp,by simp,rfl⟩
  |stringIter a b=>obtain⟨_,rfl⟩:=h3;exact .inr ⟨by simp,by simp,rfl⟩
  |loop l=>obtain⟨_,m',rfl,_⟩:=h3;exact .inr ⟨by simp,by simp,rfl⟩
  |deferred l=>obtain⟨_,m',rfl,_⟩:=h3;exact .inr ⟨by simp,by simp,rfl⟩
  |number a l=>obtain⟨_,m',rfl,_⟩:=h3;exact .inr ⟨by simp,by simp,rfl⟩
  |_=>exact h3.elim
 rcases hx with⟨c,el,fz,rfl⟩|⟨hx,Af,iD⟩
 .simp
 have Lm:(match(generalizing:=false) o with| .cells ..=>Result.halt (.stuck "getObj: a row of cells") w|o=>.ok o w)=.ok o w:=by
  grind
 have e2':(Go.getObj r').run C.P w'=.ok o' w':=by
  grind
 have pY:(Go.getObj r').events C.P w' #[]=#[⟨.obj r',false,false⟩]:=by
  grind
 rw[Lm];refine⟨E,o',w',e2',hw,.refl ..,⟨h3,hx⟩,λe he=>?_⟩;rw[pY]at he;simp at he;subst he;exact⟨⟨r,h,λx=>by cases x⟩,rfl⟩
def J3.setObj{r r':Nat}{o o':Obj}(h:E r r')(Cj:¬C.Sh r)(ho:Kv C ok E r o o')(hn:∀c el fz,o≠.cells c el fz) :
  J3 C ok E (Go.setObj r o) (Go.setObj r' o') (λ_ _ _=>True):=by
 intro L w w' hw;refine .inr ?_;obtain⟨x,x',h1,h2,h3⟩:=hw.get h;have e1:(Go.setObj r o).run C.P w=match(generalizing:=false) x with| .cells ..=>.halt (.stuck "setObj: a row of cells") w|_=>.ok () { w with heap:=w.heap.setIfInBounds r o }:=by
  simp only[Go.setObj,Sem.run,h1]
  grind
 have e2:(Go.setObj r' o').run C.P w'=match(generalizing:=false) x' with| .cells ..=>.halt (.stuck "setObj: a row of cells") w'|_=>.ok () { w' with heap:=w'.heap.setIfInBounds r' o' }:=by
  simp only[Go.setObj,Sem.run,h2]
  grind
 have e3:(Go.setObj r' o').events C.P w' #[]=match(generalizing:=false) x' with| .cells ..=>#[]|_=>#[⟨.obj r',true,o'.isChan⟩]:=by
  simp only[Go.setObj,Sem.events,Sem.runT,h2]
  grind
 have iD:o'.isChan=false:=by
  cases o with
  |cells c el fz=>grind
  |map es ck=>obtain⟨AU,rfl,_⟩:=ho;rfl
  |mapIter m a b c=>obtain⟨_,m',rfl,_⟩:=ho;rfl
  |stringIter a b=>obtain⟨_,rfl⟩:=ho;rfl
  |loop l=>obtain⟨_,m',rfl,_⟩:=ho;rfl
  |deferred l=>obtain⟨_,m',rfl,_⟩:=ho;rfl
  |number a l=>obtain⟨_,m',rfl,_⟩:=ho;rfl
  |_=>exact ho.elim
 rw[e1];have hx:(∃c el fz,x=.cells c el fz)\/((∀c el fz,x≠.cells c el fz)/\∀c el fz,x'≠.cells c el fz):=by
  cases x with
  |cells c el fz=>grind
  |map es ck=>obtain⟨AU,rfl,_⟩:=h3;grind
  |mapIter m a b c=>obtain⟨_,m',rfl,_⟩:=h3;grind
  |stringIter a b=>obtain⟨_,rfl⟩:=h3;grind
  |loop l=>obtain⟨_,m',rfl,_⟩:=h3;grind
  |deferred l=>obtain⟨_,m',rfl,_⟩:=h3;grind
  |number a l=>obtain⟨_,m',rfl,_⟩:=h3;grind
  |_=>exact h3.elim
 rcases hx with⟨c,el,fz,rfl⟩|⟨hx,Af⟩
 .simp
 have Lm:(match(generalizing:=false) x with| .cells ..=>Result.halt (.stuck "setObj: a row of cells") w|_=>.ok () { w with heap:=w.heap.setIfInBounds r o })=.ok () { w with heap:=w.heap.setIfInBounds r o }:=by
  grind
 have e2':(Go.setObj r' o').run C.P w'=.ok () { w' with heap:=w'.heap.setIfInBounds r' o' }:=by
  grind
 have pY:(Go.setObj r' o').events C.P w' #[]=#[⟨.obj r',true,false⟩]:=by
  grind
 rw[Lm];refine⟨E,(),_,e2',?_,?_,trivial,λe he=>?_⟩
 .refine⟨⟨hw.os,λb b' k=>?_,hw.fn,hw.inj,λb k=>?_,λb b' y y' k hy DC=>?_,hw.lid,λe=>by simpa using hw.lsz e,hw.glob⟩,hw.tape⟩
  .simpa using hw.dom b b' k
  .simpa using hw.old b k
  .simp only[Gj]at hy DC;have hd:=hw.dom b b' k;by_cases e:r=b
   .subst e;have e':r'=b':=hw.fn r r' b' h k
    grind
   .have e':r'≠b':=λe'=>e (hw.inj r r' b h (by grind));rw[if_neg e]at hy;rw[if_neg e']at DC;exact hw.obj b b' y y' k hy DC
 .refine⟨.refl _,λ_ _ k=>.inl k,by simp,by simp;omega,λb' BO k=>?_,rfl,Nat.add_comm _ _,rfl,rfl,Ad _⟩
  grind
 .rw[pY]at he;simp at he;subst he;exact⟨⟨r,h,λ_=>Cj⟩,rfl⟩
end
structure Ov(C:Cx):Prop where
 zero:∀t i z,C.P.info? t=some i->i.zero=some z->∀E,VR C E z z
 meth:∀t i m f p,C.Ed t=true->C.P.info? t=some i->m∈i.methods->C.ms.contains m.name=true->m.func=some (f,p)->C.F f
 path:∀t i m,C.Ed t=true->C.P.info? t=some i->m∈i.methods->C.mok m.name=true->m.path=#[]/\∃f p,m.func=some (f,p)
def Hnd(C:Cx)(E:J5):Prop:=E C.P.globals.size C.P.globals.size
def Hnd.mono{C:Cx}{E E1:J5}(s:Sub E E1)(h:Hnd C E):Hnd C E1:=s _ _ h
section
variable{C:Cx}{ok:JG->Code->Prop}{E:J5}
def Jc.add{a a':Addr}(h:Jc E a a')(n:Nat):Jc E (a.add n) (a'.add n):=by
 obtain⟨b,o,s⟩:=a;obtain⟨b',o',s'⟩:=a';obtain⟨h1,h2,h3⟩:=h;simp only at h1 h2 h3;subst h2;subst h3;unfold Addr.add;split
 .exact⟨h1,rfl,rfl⟩
 .exact⟨h1,rfl,rfl⟩
def VR.Qm{a a':Addr}(h:Jc E a a'):VR C E (.pointer (some a)) (.pointer (some a')):=by obtain⟨b,o,s⟩:=a;obtain⟨b',o',s'⟩:=a';obtain⟨h1,h2,h3⟩:=h;simp only at h1 h2 h3;subst h2;subst h3;exact .ptr o s h1
def VR.of_slice{a a':Addr}(h:Jc E a a')(l c:Nat):VR C E (.slice (some a) l c) (.slice (some a') l c):=by obtain⟨b,o,s⟩:=a;obtain⟨b',o',s'⟩:=a';obtain⟨h1,h2,h3⟩:=h;simp only at h1 h2 h3;subst h2;subst h3;exact .slice o s l c h1
def J3.load'{a a':Addr}(h:Jc E a a'):J3 C ok E (Go.load a) (Go.load a') (VR C):=by
 obtain⟨b,o,s⟩:=a;obtain⟨b',o',s'⟩:=a';obtain⟨h1,h2,h3⟩:=h
 grind[J3.load]
def J3.store'{a a':Addr}(h:Jc E a a'){v v':JJ}(hv:VR C E v v'):J3 C ok E (Go.store a v) (Go.store a' v') (λ_ _ _=>True):=by
 obtain⟨b,o,s⟩:=a;obtain⟨b',o',s'⟩:=a';obtain⟨h1,h2,h3⟩:=h
 grind[J3.store]
def J3.typeInfo(t:JH):J3 C ok E (Go.typeInfo t) (Go.typeInfo t) (λ_ i i'=>i=i'/\C.P.info? t=some i):=by
 refine .calm (λw=>?_) (λw=>by simp);cases h:C.P.info? t with
 |none=>exact .inr ⟨.stuck "no such type",w,by simp[Go.typeInfo,h],by simp⟩
 |some i=>exact .inl ⟨i,λw'=>by simp[Go.typeInfo,h],rfl,rfl⟩
def J3.underlying(t:JH):J3 C ok E (Go.underlying t) (Go.underlying t) (λ_ i i'=>i=i'/\C.P.underlying t=some i):=by
 refine .calm (λw=>?_) (λw=>by simp);cases h:C.P.underlying t with
 |none=>exact .inr ⟨.stuck "no such type",w,by simp[Go.underlying,h],by simp⟩
 |some i=>exact .inl ⟨i,λw'=>by simp[Go.underlying,h],rfl,rfl⟩
def J3.sizeOf(t:JH):J3 C ok E (Go.sizeOf t) (Go.sizeOf t) (λ_ i i'=>i=i'):=
 .bind (J3.typeInfo t) λ_ _ _ _ h=>by obtain⟨rfl,_⟩:=h;exact .pure rfl
def J3.isAgg(t:JH):J3 C ok E (Go.isAgg t) (Go.isAgg t) (λ_ i i'=>i=i'):=
 .bind (J3.underlying t) λ_ _ _ _ h=>by obtain⟨rfl,_⟩:=h;split<;>exact .pure rfl
def J3.zeroValue(K:Ov C)(t:JH):J3 C ok E (Go.zeroValue t) (Go.zeroValue t) (VR C):=
 .bind (J3.typeInfo t) λ_ _ i _ h=>by
  obtain⟨rfl,hi⟩:=h;split
  .rename_i z hz;exact .pure (K.zero t i z hi hz _)
  .exact .unsupported _
def J3.elemOf(t:JH):J3 C ok E (Go.elemOf t) (Go.elemOf t) (λ_ i i'=>i=i'):=
 .bind (J3.underlying t) λ_ _ _ _ h=>by
  obtain⟨rfl,_⟩:=h;split
  .exact .pure rfl
  .exact .stuck _
def J3.loadCellsFrom{a a':Addr}:∀(n i:Nat)(acc dY:JC)(E:J5),Jc E a a'->AR C E acc dY->J3 C ok E (Go.loadCellsFrom a i n acc) (Go.loadCellsFrom a' i n dY) (AR C)
 |0,_,_,_,_,_,h=>.pure h
 |n+1,i,_,_,_,ha,h=>.bind (J3.load' (ha.add i)) λ_ s _ _ hv=>J3.loadCellsFrom n (i+1) _ _ _ (ha.mono s) ((h.mono s).push hv)
def J3.loadCells{a a':Addr}(n:Nat)(h:Jc E a a'):J3 C ok E (Go.loadCells a n) (Go.loadCells a' n) (AR C):=J3.loadCellsFrom n 0 _ _ _ h .nil
inductive LR(C:Cx)(E:J5):List JJ->List JJ->Prop
 |nil:LR C E [] []
 |cons{v v':JJ}{l l':List JJ}(h:VR C E v v')(hl:LR C E l l'):LR C E (v::l) (v'::l')
def LR.mono{E1:J5}(s:Sub E E1){l l':List JJ}(h:LR C E l l'):LR C E1 l l':=by
 induction h with
 |nil=>exact .nil
 |cons h _ ih=>exact .cons (h.mono s) ih
def LR.Jwn:∀{l l':List JJ},AR C E l.toArray l'.toArray->LR C E l l'
 |[],[],_=>.nil
 |[],_::_,h=>by have:=h.size;simp at this
 |_::_,[],h=>by have:=h.size;simp at this
 |x::l,x'::l',h=>.cons (h.at_ 0 x x' (by simp) (by simp)) (LR.Jwn ⟨by have:=h.size;grind,λi y y' hy DC=>h.at_ (i+1) y y' (by grind) (by grind)⟩)
def AR.toList{a a':JC}(h:AR C E a a'):LR C E a.toList a'.toList:=LR.Jwn (by simpa using h)
def LR.toArray{l l':List JJ}(h:LR C E l l'):AR C E l.toArray l'.toArray:=by
 induction h with
 |nil=>exact .nil
 |cons h _ ih=>
  refine⟨by simpa using ih.size,λi y y' hy DC=>?_⟩;cases i with
  |zero=>grind
  |succ i=>exact ih.at_ i y y' (by grind) (by grind)
def J3.storeCells{a a':Addr}:∀(l l':List JJ)(i:Nat)(E:J5),Jc E a a'->LR C E l l'->J3 C ok E (Go.storeCells a l i) (Go.storeCells a' l' i) (λ_ _ _=>True)
 |_,_,_,_,_,.nil=>.pure trivial
 |_,_,i,_,ha,.cons h hl=>.bind (J3.store' (ha.add i) h) λ_ s _ _ _=>J3.storeCells _ _ (i+1) _ (ha.mono s) (hl.mono s)
def J3.loadVar(t:JH){a a':Addr}(h:Jc E a a'):J3 C ok E (Go.loadVar t a) (Go.loadVar t a') (VR C):=by
 refine .bind (J3.isAgg t) λE1 s b b' hb=>?_;obtain rfl:b=b':=hb;cases b with
 |true=>
  refine .bind (J3.sizeOf t) λE2 s2 n n' hn=>?_;obtain rfl:n=n':=hn;exact .bind (J3.loadCells n (h.mono (s.trans s2))) λ_ _ _ _ hc=>.pure (.Po hc)
 |false=>exact J3.load' (h.mono s)
def J3.storeVar(t:JH){a a':Addr}(h:Jc E a a'){v v':JJ}(hv:VR C E v v'):J3 C ok E (Go.storeVar t a v) (Go.storeVar t a' v') (λ_ _ _=>True):=by
 refine .bind (J3.sizeOf t) λE1 s n n' hn=>?_;obtain rfl:n=n':=hn;have hc:=(AR.cells (hv.mono s));rw[show v'.cells.size=v.cells.size from hc.size.symm];by_cases e:v.cells.size=n
 .simp only[e,ne_eq,not_true_eq_false,if_false];exact J3.storeCells _ _ 0 _ (h.mono s) hc.toList
 .simp only[ne_eq,e,not_false_eq_true,if_true];exact J3.bind (R:=λ_ _ _=>False) (.stuck _) λ_ _ _ _ h=>h.elim
def J3.newRow(hh:Hnd C E)(el:JH){c c':JC}(h:AR C E c c'):J3 C ok E (Go.newRow el c) (Go.newRow el c') (λE1 a a'=>Jc E1 a a'/\¬C.Sh a.block):=
 .bind (J3.newObj hh (o:=.cells c el) (o':=.cells c' el) λb hs=>⟨c',(0,0),rfl,h,λx=>absurd x hs,λ_=>⟨rfl,λ_=>rfl⟩⟩) λ_ _ _ _ k=>.pure ⟨⟨k.1,rfl,rfl⟩,k.2⟩
def J3.newVar(hh:Hnd C E)(t:JH){v v':JJ}(h:VR C E v v'):J3 C ok E (Go.newVar t v) (Go.newVar t v') (λE1 a a'=>Jc E1 a a'/\¬C.Sh a.block):=J3.newRow hh t (AR.cells h)
def J3.part(t:JH){c c':JC}(h:AR C E c c')(off:Nat):J3 C ok E (Go.part t c off) (Go.part t c' off) (VR C):=by
 refine .bind (J3.isAgg t) λE1 s b b' hb=>?_;obtain rfl:b=b':=hb;cases b with
 |true=>
  refine .bind (J3.sizeOf t) λE2 s2 n n' hn=>?_;obtain rfl:n=n':=hn;exact .pure (.Po ((h.mono (s.trans s2)).extract _ _))
 |false=>
  show J3 C ok E1 (match c[off]? with|some v=>Pure.pure v|none=>Go.stuck "part: no such cell") (match c'[off]? with|some v=>Pure.pure v|none=>Go.stuck "part: no such cell") (VR C);cases hx:c[off]? with
  |none=>exact .stuck _
  |some x=>obtain⟨x',Af,hr⟩:=(h.mono s).Ec hx;grind[pure]
def VR.handle(h:Hnd C E)(t:JH):VR C E (typeHandle C.P t) (typeHandle C.P t):=.ptr t none h
def J3.runtimePanic{α α':Type}(h:Hnd C E)(e:RuntimeError){R:J5->α->α'->Prop}:J3 C ok E (Go.runtimePanic e:Sem α) (Go.runtimePanic e:Sem α') R:=by
 refine .bind (R:=λ_ p p'=>p=C.P/\p'=C.P) (.program ⟨rfl,rfl⟩) λE1 s p p' hp=>?_;obtain⟨rfl,rfl⟩:=hp;have h1:=h.mono s;cases e with
 |bounds x y sg c=>
  refine .goPanic (.iface _ (by simp[Cx.Ed]) (.Po ?_));exact LR.toArray (l:=[_,_,_,_]) (l':=[_,_,_,_]) (.cons (.int _ _) (.cons (.int _ _) (.cons (.bool _) (.cons (.int _ _) .nil))))
 |error m=>exact .goPanic (.iface _ (by simp[Cx.Ed]) (.string _))
 |plain m=>exact .goPanic (.iface _ (by simp[Cx.Ed]) (.string _))
 |nilDeref=>exact .goPanic (.iface _ (by simp[Cx.Ed]) (.string _))
 |typeAssertion i c a m=>
  have hh:∀t:Option JH,VR C E1 (match t with|some t=>typeHandle C.P t|none=>.pointer none) (match t with|some t=>typeHandle C.P t|none=>.pointer none):=λt=>by
   cases t with
   |none=>exact .nilPtr
   |some t=>exact .handle h1 t
  refine .bind (J3.elemOf _) λE2 s2 t t' ht=>?_;obtain rfl:t=t':=ht;refine .bind (J3.newVar (h1.mono s2) t (.Po (LR.toArray (l:=[_,_,_,_]) (l':=[_,_,_,_]) (.cons ((hh i).mono s2) (.cons ((hh c).mono s2) (.cons ((hh (some a)).mono s2) (.cons (.string _) .nil))))))) λE3 _ r r' hr=>?_;exact .goPanic (.iface _ (by simp[Cx.Ed]) (.Qm hr.1))
 |panicNil=>
  refine .bind (J3.elemOf _) λE2 s2 t t' ht=>?_;obtain rfl:t=t':=ht;refine .bind (J3.newVar (h1.mono s2) t (.Po .nil)) λE3 _ r r' hr=>?_;exact .goPanic (.iface _ (by simp[Cx.Ed]) (.Qm hr.1))
 |unhashable t=>exact .goPanic (.iface _ (by simp[Cx.Ed]) (.Po (.one (.handle h1 t))))
theorem J3.map{α α' β β':Type}{f:α->β}{f':α'->β'}{s:Sem α}{s':Sem α'}{R:J5->α->α'->Prop}(h:J3 C ok E s s' R) :
  J3 C ok E (Functor.map f s) (Functor.map f' s') (λE1 b b'=>∃a a',R E1 a a'/\b=f a/\b'=f' a'):=
 J3.bind (f:=λa=>Sem.pure (f a)) (f':=λa=>Sem.pure (f' a)) h λ_ _ a a' k=>.pure' ⟨a,a',k,rfl,rfl⟩
theorem J3.boundsPanic{α α':Type}(h:Hnd C E)(k:IntKind)(x y:Int)(c:BoundsCode){R:J5->α->α'->Prop}:J3 C ok E (Go.boundsPanic k x y c:Sem α) (Go.boundsPanic k x y c:Sem α') R:=by
 unfold Go.boundsPanic
 dsimp only
 split
 .refine J3.bind' (J3.map (J3.choose _)) λE1 s b b' hb=>?_;obtain⟨n,n',rfl,rfl,rfl⟩:=hb;exact J3.runtimePanic (h.mono s) _
 .exact J3.bind' (R:=λ_ b b'=>b=b') (.pure rfl) λE1 s b b' hb=>by subst hb;exact J3.runtimePanic (h.mono s) _
def J3.asIntOf{v v':JJ}(h:VR C E v v'):J3 C ok E (Go.asIntOf v) (Go.asIntOf v') (λ_ x x'=>x=x'):=by
 cases h<;>first|exact .pure rfl|exact .unsupported _|exact .stuck _
def J3.asInt{v v':JJ}(h:VR C E v v'):J3 C ok E (Go.asInt v) (Go.asInt v') (λ_ x x'=>x=x'):=
 .bind (J3.asIntOf h) λ_ _ _ _ k=>by subst k;exact .pure rfl
def J3.asBool{v v':JJ}(h:VR C E v v'):J3 C ok E (Go.asBool v) (Go.asBool v') (λ_ x x'=>x=x'):=by
 cases h<;>first|exact .pure rfl|exact .stuck _
def J3.asAgg{v v':JJ}(h:VR C E v v'):J3 C ok E (Go.asAgg v) (Go.asAgg v') (λE1 x x'=>AR C E1 x x'):=by
 cases h<;>first|exact .pure ⟨by assumption,by assumption⟩|exact .stuck _
def J3.asAddr(hh:Hnd C E){v v':JJ}(h:VR C E v v'):J3 C ok E (Go.asAddr v) (Go.asAddr v') (λE1 x x'=>Jc E1 x x'):=by
 cases h<;>simp only[Go.asAddr]<;>first|exact .pure ⟨by assumption,rfl,rfl⟩|exact J3.runtimePanic hh _|exact .stuck _
def J3.sureAddr{v v':JJ}(h:VR C E v v'):J3 C ok E (Instr.sureAddr v) (Instr.sureAddr v') (λE1 x x'=>Jc E1 x x'):=by
 cases h<;>first|exact .pure ⟨by assumption,rfl,rfl⟩|exact .stuck _
end
section
variable{C:Cx}{ok:JG->Code->Prop}{E:J5}
inductive sD{β β':Type}(R:J5->β->β'->Prop)(E:J5):ForInStep β->ForInStep β'->Prop
 |done{b b'}(h:R E b b'):sD R E (.done b) (.done b')
 |yield{b b'}(h:R E b b'):sD R E (.yield b) (.yield b')
def J3.VT{α β β':Type}{R:J5->β->β'->Prop}(hm:∀E E1 b b',Sub E E1->R E b b'->R E1 b b'){f:α->β->Sem (ForInStep β)}{f':α->β'->Sem (ForInStep β')} :
  ∀(l:List α)(b:β)(b':β')(E:J5),(∀x∈l,∀E1,Sub E E1->∀b b',R E1 b b'->J3 C ok E1 (f x b) (f' x b') (sD R))->R E b b'->J3 C ok E (forIn l b f) (forIn l b' f') R
 |[],_,_,_,_,h=>by grind[pure]
 |x::l,b,b',E,hf,h=>by
  simp only[List.forIn_cons];refine J3.bind' (hf x (by simp) E (.refl _) b b' h) λE1 s a a' ha=>?_;cases ha with
  |done h=>exact .pure h
  |yield h=>exact J3.VT hm l _ _ E1 (λx hx E2 s2=>hf x (by simp[hx]) E2 (s.trans s2)) h
def J3.Jlp{β β':Type}{R:J5->β->β'->Prop}(hm:∀E E1 b b',Sub E E1->R E b b'->R E1 b b'){f:JJ->β->Sem (ForInStep β)}{f':JJ->β'->Sem (ForInStep β')} :
  ∀(l l':List JJ)(b:β)(b':β')(E:J5),LR C E l l'->(∀x x' E1,Sub E E1->VR C E1 x x'->∀b b',R E1 b b'->J3 C ok E1 (f x b) (f' x' b') (sD R))->R E b b'->J3 C ok E (forIn l b f) (forIn l' b' f') R
 |_,_,_,_,_,.nil,_,h=>by grind[pure]
 |_,_,b,b',E,.cons hx hl,hf,h=>by
  simp only[List.forIn_cons];refine J3.bind' (hf _ _ E (.refl _) hx b b' h) λE1 s a a' ha=>?_;cases ha with
  |done h=>exact .pure h
  |yield h=>exact J3.Jlp hm _ _ _ _ E1 (hl.mono s) (λx x' E2 s2=>hf x x' E2 (s.trans s2)) h
def J3.Jg{α α':Type}{s:Sem α}{s':Sem α'}{R:J5->α->α'->Prop}(h:∀w,∃x w1,s.run C.P w=.halt x w1/\Dead x):J3 C ok E s s' R:=by
 intro L w w' _;refine .inr ?_;obtain⟨x,w1,hx,hn⟩:=h w
 simp_all
theorem WR.shape{w w':JE}(hw:WR C ok E w w'){b b':Nat}(h:E b b'):w'.shape? b'=w.shape? b:=by
 obtain⟨o,o',h1,h2,h3⟩:=hw.get h;simp only[World.shape?,h1,h2];cases o with
 |cells c el fz=>obtain⟨c',FU,rfl,h4,_⟩:=h3;simp[h4.size]
 |map es ck=>obtain⟨AU,rfl,_⟩:=h3;rfl
 |mapIter m a b c=>obtain⟨_,m',rfl,_⟩:=h3;rfl
 |stringIter a b=>obtain⟨_,rfl⟩:=h3;rfl
 |loop l=>obtain⟨_,m',rfl,_⟩:=h3;rfl
 |deferred l=>obtain⟨_,m',rfl,_⟩:=h3;rfl
 |number a l=>obtain⟨_,m',rfl,_⟩:=h3;rfl
 |_=>exact h3.elim
theorem J3.shape{b b':Nat}(h:E b b'):J3 C ok E (Go.shape b) (Go.shape b') (λ_ x x'=>x=x'):=by intro L w w' hw;refine .inr ?_;rw[run_shape];exact⟨E,_,w',rfl,hw,.refl ..,(hw.shape h).symm,λe he=>by simp at he⟩
theorem WR.frozen{w w':JE}(hw:WR C ok E w w'){b b' o:Nat}{s:Option Nat}(h:E b b')(hs:¬C.Sh b):w'.frozen? ⟨b',o,s⟩=w.frozen? ⟨b,o,s⟩:=by
 obtain⟨x,x',h1,h2,h3⟩:=hw.get h;simp only[World.frozen?,h1,h2];cases x with
 |cells c el fz=>obtain⟨c',FU,rfl,h4,_,h5⟩:=h3;grind
 |map es ck=>obtain⟨AU,rfl,_⟩:=h3;rfl
 |mapIter m a b c=>obtain⟨_,m',rfl,_⟩:=h3;rfl
 |stringIter a b=>obtain⟨_,rfl⟩:=h3;rfl
 |loop l=>obtain⟨_,m',rfl,_⟩:=h3;rfl
 |deferred l=>obtain⟨_,m',rfl,_⟩:=h3;rfl
 |number a l=>obtain⟨_,m',rfl,_⟩:=h3;rfl
 |_=>exact h3.elim
theorem J3.frozen{a a':Addr}(h:Jc E a a')(hs:¬C.Sh a.block):J3 C ok E (Go.frozen a) (Go.frozen a') (λ_ x x'=>x=x'):=by obtain⟨b,o,s⟩:=a;obtain⟨b',o',s'⟩:=a';obtain⟨h1,h2,h3⟩:=h;simp only at h1 h2 h3;subst h2;subst h3;intro L w w' hw;refine .inr ?_;rw[run_frozen];exact⟨E,_,w',rfl,hw,.refl ..,(hw.frozen h1 hs).symm,λe he=>by simp at he⟩
def J3.viewAt{b b':Nat}(h:E b b'):J3 C ok E (Go.viewAt b) (Go.viewAt b') (λ_ x x'=>x=none/\x'=none):=by
 refine .bind (J3.shape h) λE1 s x x' hx=>?_;obtain rfl:x=x':=hx;split
 .exact .pure ⟨rfl,rfl⟩
 .refine .bind (J3.getObj (s _ _ h)) λE2 s2 o o' ho=>?_;obtain⟨h3,hn⟩:=ho;cases o with
  |cells c el fz=>grind
  |map es ck=>obtain⟨AU,rfl,_⟩:=h3;exact .pure ⟨rfl,rfl⟩
  |mapIter m a b c=>obtain⟨_,m',rfl,_⟩:=h3;exact .pure ⟨rfl,rfl⟩
  |stringIter a b=>obtain⟨_,rfl⟩:=h3;exact .pure ⟨rfl,rfl⟩
  |loop l=>obtain⟨_,m',rfl,_⟩:=h3;exact .pure ⟨rfl,rfl⟩
  |deferred l=>obtain⟨_,m',rfl,_⟩:=h3;exact .pure ⟨rfl,rfl⟩
  |number a l=>obtain⟨_,m',rfl,_⟩:=h3;exact .pure ⟨rfl,rfl⟩
  |_=>exact h3.elim
def Jka(E:J5):Option (Addr × Bool)->Option (Addr × Bool)->Prop:=Di λp p'=>Jc E p.1 p'.1/\p.2=p'.2
def J3.numberAt{b b':Nat}(h:E b b'):J3 C ok E (Go.numberAt b) (Go.numberAt b') (λE1 x x'=>Jka E1 x x'):=by
 refine .bind (J3.shape h) λE1 s x x' hx=>?_;obtain rfl:x=x':=hx;split
 .exact .pure trivial
 .refine .bind (J3.getObj (s _ _ h)) λE2 s2 o o' ho=>?_;obtain⟨h3,hn⟩:=ho;cases o with
  |cells c el fz=>grind
  |map es ck=>obtain⟨AU,rfl,_⟩:=h3;exact .pure trivial
  |mapIter m a b c=>obtain⟨_,m',rfl,_⟩:=h3;exact .pure trivial
  |stringIter a b=>obtain⟨_,rfl⟩:=h3;exact .pure trivial
  |loop l=>obtain⟨_,m',rfl,_⟩:=h3;exact .pure trivial
  |deferred l=>obtain⟨_,m',rfl,_⟩:=h3;exact .pure trivial
  |number a l=>obtain⟨_,m',rfl,hm⟩:=h3;exact .pure ⟨hm,rfl⟩
  |_=>exact h3.elim
def J3.noView{a a':Addr}(h:Jc E a a'):J3 C ok E (Go.noView a) (Go.noView a') (λ_ _ _=>True):=
 .bind (J3.viewAt h.block) λE1 s x x' hx=>by obtain⟨rfl,rfl⟩:=hx;exact .pure trivial
def J3.stringish{a a':Addr}(h:Jc E a a')(hs:¬C.Sh a.block):J3 C ok E (Go.stringish a) (Go.stringish a') (λ_ x x'=>x=x'):=by
 refine .bind (J3.frozen h hs) λE1 s x x' hx=>?_;obtain rfl:x=x':=hx;split
 .exact .pure rfl
 .refine .bind (J3.shape (s _ _ h.block)) λE2 s2 x x' hx=>?_;obtain rfl:x=x':=hx;split
  .exact J3.frozen ⟨s2 _ _ (s _ _ h.block),rfl,rfl⟩ hs
  .exact .pure rfl
def J3.mayBeOne{a a' b b':Addr}(h:Jc E a a')(k:Jc E b b')(Ae:C.st=false):J3 C ok E (Go.mayBeOne a b) (Go.mayBeOne a' b') (λ_ x x'=>x=x'):=by
 have hl:=C.lax Ae;have Vz:∀(E:J5){x x':Addr},Jc E x x'->J3 C ok E (do Pure.pure ((<- Go.shape x.block) matches some (_,0)):Sem Bool) (do Pure.pure ((<- Go.shape x'.block) matches some (_,0)):Sem Bool) (λ_ x x'=>x=x'):=λE x x' hx=>
  .bind (J3.shape hx.block) λ_ _ z z' hz=>by obtain rfl:z=z':=hz;exact .pure rfl
 refine .bind (J3.stringish h (hl _)) λE1 s x x' hx=>?_;obtain rfl:x=x':=hx;refine .bind (J3.stringish (k.mono s) (hl _)) λE2 s2 y y' hy=>?_;obtain rfl:y=y':=hy
 dsimp only
 have h2:=(h.mono s).mono s2;have k2:=(k.mono s).mono s2;refine J3.bind' (Vz E2 h2) λE3 s3 z z' hz=>?_;obtain rfl:z=z':=hz;refine J3.bind' (Vz E3 (k2.mono s3)) λE4 s4 u u' hu=>?_;obtain rfl:u=u':=hu;exact .pure rfl
def J3.sameAddr{a a' b b':Addr}(h:Jc E a a')(k:Jc E b b')(Ae:C.st=false):J3 C ok E (Go.sameAddr a b) (Go.sameAddr a' b') (λ_ x x'=>x=x'):=by
 have hl:=C.lax Ae;intro L w w' hw;have hb:(a'.block == b'.block)=(a.block == b.block):=by
  by_cases e:a.block=b.block
  .have:a'.block=b'.block:=hw.fn _ _ _ h.block (e▸k.block)
   grind
  .have:a'.block≠b'.block:=λe'=>e (hw.inj _ _ _ h.block (e'▸k.block))
   grind
 have Oa:(a' == b')=(a == b)\/a.block≠b.block:=by
  by_cases e:a.block=b.block
  .refine .inl ?_;have e':a'.block=b'.block:=hw.fn _ _ _ h.block (e▸k.block);obtain⟨x,o,s⟩:=a;obtain⟨x',o',s'⟩:=a';obtain⟨y,p,t⟩:=b;obtain⟨y',p',t'⟩:=b';obtain⟨h1,h2,h3⟩:=h;obtain⟨k1,k2,k3⟩:=k
   grind
  grind
 suffices J3 C ok E (Go.sameAddr a b) (Go.sameAddr a' b') (λ_ x x'=>x=x')from this L w w' hw
 unfold Go.sameAddr;rw[hb];by_cases e:a.block=b.block
 .simp only[e,beq_self_eq_true,if_true];rcases Oa with Oa|Oa
  .rw[Oa];exact .pure rfl
  grind
 .simp only[show(a.block == b.block)=false by simpa using e,DY,if_false];refine J3.bind' (J3.frozen h (hl _)) λE1 s x x' hx=>?_;obtain rfl:x=x':=hx;refine J3.bind' (J3.frozen (k.mono s) (hl _)) λE2 s2 x x' hx=>?_;obtain rfl:x=x':=hx;split
  .exact .Jg λw=>⟨_,w,rfl,by simp⟩
  .refine J3.bind' (J3.noView ((h.mono s).mono s2)) λE3 s3 _ _ _=>?_;refine J3.bind' (J3.noView (((k.mono s).mono s2).mono s3)) λE4 s4 _ _ _=>?_;refine J3.bind' (J3.mayBeOne ((((h.mono s).mono s2).mono s3).mono s4) ((((k.mono s).mono s2).mono s3).mono s4) Ae) λE5 s5 x x' hx=>?_;obtain rfl:x=x':=hx;split
   .refine J3.bind' (J3.choose _) λE6 s6 n n' hn=>?_;obtain rfl:n=n':=hn;exact .pure rfl
   .exact .pure rfl
end
def Kt(P:Program):Nat->JH->Bool
 |0,_=>false
 |n+1,t=>
  match P.underlying t with
  |some .bool|some .string=>true
  |some (.int _)=>(match P.info? t with|some i=>(match i.desc with| .named "sync.copyChecker" _=>false|_=>true)|none=>false)
  |some (.array _ e)=>Kt P n e
  |_=>false
section
variable{C:Cx}{ok:JG->Code->Prop}{E:J5}
def J3.byteOf{a a':Addr}(h:Jc E a a'):J3 C ok E (Go.byteOf a) (Go.byteOf a') (λ_ x x'=>x=x'):=by
 unfold Go.byteOf;rw[<- h.spot];have e:a'.off=a.off:=h.off.symm;rw[e];split
 .exact .pure rfl
 .refine J3.bind' (R:=λ_ p p'=>p=C.P/\p'=C.P) (.program ⟨rfl,rfl⟩) λE1 s p p' Gu=>?_;obtain⟨rfl,rfl⟩:=Gu;refine J3.bind' (J3.noView (h.mono s)) λE2 s2 _ _ _=>?_;refine J3.bind' (J3.shape (s2 _ _ (s _ _ h.block))) λE3 s3 x x' hx=>?_;obtain rfl:x=x':=hx;split
  .dsimp only
   split
   .exact .pure rfl
   .split
    .exact .pure rfl
    .exact .stuck _
  .exact .stuck _
def J3.behindNumber{a a':Addr}(h:Jc E a a'):J3 C ok E (Go.behindNumber a) (Go.behindNumber a') (λE1 x x'=>Jc E1 x.1 x'.1/\x.2=x'.2):=
 .bind (J3.numberAt h.block) λE1 s x x' hx=>by
  cases x with
  |none=>cases x' with
   |none=>exact .pure ⟨h.mono s,rfl⟩
   |some _=>exact hx.elim
  |some p=>cases x' with
   |none=>exact hx.elim
   |some p'=>exact .pure hx
def Jc.Tq{w w':JE}(hw:WR C ok E w w')(Ae:C.st=false){a a':Addr}(h:Jc E a a'):a'=a:=by
 obtain⟨x,o,s⟩:=a;obtain⟨x',o',s'⟩:=a';obtain⟨h1,h2,h3⟩:=h;have:=hw.lid Ae _ _ h1
 grind
def J3.aI{α α':Type}{s:Sem α}{s':Sem α'}{R:J5->α->α'->Prop}(h:∀w w',WR C ok E w w'->J3 C ok E s s' R):J3 C ok E s s' R:=
 λL w w' hw=>h w w' hw.toWR L w w' hw
def J3.Jkz (t:JH) {a a' b b':Addr} (ha:Jc E a a') (hb:Jc E b b') (hs:C.st=false\/∀i,C.P.info? t=some i->(match i.desc with| .named "sync.copyChecker" _=>false|_=>true)=true) :
  J3 C ok E (do
   let(a,b):=((<- Go.behindNumber a).1,(<- Go.behindNumber b).1)
   if a.block == b.block && a.block<(<- Go.program).globals.size then return (<- Go.byteOf a) == (<- Go.byteOf b)
   let .named "sync.copyChecker" _:=(<- Go.typeInfo t).desc|Go.unsupported .addressObserved
   if a == b then Pure.pure true else Go.unsupported .addressObserved:Sem Bool) (do
   let(a,b):=((<- Go.behindNumber a').1,(<- Go.behindNumber b').1)
   if a.block == b.block && a.block<(<- Go.program).globals.size then return (<- Go.byteOf a) == (<- Go.byteOf b)
   let .named "sync.copyChecker" _:=(<- Go.typeInfo t).desc|Go.unsupported .addressObserved
   if a == b then Pure.pure true else Go.unsupported .addressObserved:Sem Bool) (λ_ x x'=>x=x'):=by
 refine J3.bind' (J3.behindNumber ha) λE1 s1 x x' hx=>?_;refine J3.bind' (J3.behindNumber (hb.mono s1)) λE2 s2 y y' hy=>?_;refine J3.bind' (R:=λ_ p p'=>p=C.P/\p'=C.P) (.program ⟨rfl,rfl⟩) λE3 s3 p p' Gu=>?_;obtain⟨rfl,rfl⟩:=Gu;have xA:=(hx.1.mono s2).mono s3;have Gs:=hy.1.mono s3;refine .aI λw w' hw=>?_;by_cases Ae:C.st=false
 .rw[xA.Tq hw Ae,Gs.Tq hw Ae];have ha4:Jc E3 x.1 x.1:=by have:=xA;rwa [xA.Tq hw Ae]at this
  have SK:Jc E3 y.1 y.1:=by have:=Gs;rwa [Gs.Tq hw Ae]at this
  split
  .refine J3.bind' (J3.byteOf ha4) λE4 s4 x x' hx=>?_;obtain rfl:x=x':=hx;refine J3.bind' (J3.byteOf (SK.mono s4)) λE5 s5 x x' hx=>?_;obtain rfl:x=x':=hx;exact .pure rfl
  .refine J3.bind' (J3.typeInfo t) λE4 s4 x x' hx=>?_;obtain⟨rfl,_⟩:=hx;split
   .split
    .exact .pure rfl
    .exact .unsupported _
   .exact .unsupported _
 .have IW:C.st=true:=by grind
  have g:=hw.glob IW _ _ xA.block;have e1:decide (x.1.block<C.P.globals.size)=false:=by simp;omega
  have e2:decide (x'.1.block<C.P.globals.size)=false:=by simp;omega
  rw[e1,e2];simp only[Bool.and_false,DY,if_false];refine J3.bind' (J3.typeInfo t) λE4 s4 x x' hx=>?_;obtain⟨rfl,hi⟩:=hx
  grind[unsupported]
def J3.typeStr(t:JH):J3 C ok E (Go.typeStr t) (Go.typeStr t) (λ_ x x'=>x=x'):=
 .bind (J3.typeInfo t) λ_ _ i i' hi=>by
  obtain⟨rfl,_⟩:=hi
  dsimp only
  split
  .exact .unsupported _
  .exact .pure rfl
set_option maxHeartbeats 1000000 in
theorem J3.equalIn:∀(d:Nat)(t:JH)(n:Nat)(E:J5),Hnd C E->∀{x x' y y':JJ},(C.st=false\/Kt C.P n t=true)->VR C E x x'->VR C E y y' ->
  J3 C ok E (Op.equalIn d t x y) (Op.equalIn d t x' y') (λ_ r r'=>r=r')
 |0,_,_,_,_,_,_,_,_,_,_,_=>.unsupported _
 |d+1,t,n,E,hh,x,x',y,y',hs,hx,hy=>by
  unfold Op.equalIn;refine J3.bind' (J3.underlying t) λE1 s1 u u' hu=>?_;obtain⟨rfl,hu⟩:=hu;have Dn:=hh.mono s1;have hx:=hx.mono s1;have hy:=hy.mono s1;cases u with
  |int k=>
   cases hx with
   |int k1 n1=>
    cases hy with
    |int k2 n2=>
     dsimp only
     split<;>first|exact .pure rfl|exact .stuck _
    |nilPtr=>rcases n1 with(_|_)|_<;>first|exact .unsupported _|exact .pure rfl
    |ptr o s h=>rcases n1 with(_|_)|_<;>first|exact .pure rfl|exact .unsupported _
    |_=>exact .stuck _
   |nilPtr=>grind[unsupported]
   |ptr o s h=>
    cases hy with
    |int k2 n2=>rcases n2 with(_|_)|_<;>first|exact .pure rfl|exact .unsupported _
    |ptr o2 s2 h2=>
     refine J3.Jkz t ⟨h,rfl,rfl⟩ ⟨h2,rfl,rfl⟩ (hs.imp id λh i hi=>?_);cases n with
     |zero=>cases h
     |succ n=>simpa[Kt,hu,hi]using h
    |_=>exact .unsupported _
   |_=>cases hy<;>first|exact .stuck _|exact .unsupported _
  |pointer e=>
   cases hx<;>cases hy<;>first
    |exact .stuck _
    |exact .pure rfl
    |skip
   rename_i b b' o s h _ _ _ _ k;have Ae:C.st=false:=hs.resolve_right (by cases n<;>simp[Kt,hu]);refine J3.bind' (J3.sizeOf e) λE2 s2 z z' hz=>?_;obtain rfl:z=z':=hz;refine .aI λw w' hw=>?_;split
   .exact J3.sameAddr ⟨s2 _ _ h,rfl,rfl⟩ ⟨s2 _ _ k,rfl,rfl⟩ Ae
   .have e1:=Jc.Tq hw Ae (a:=⟨b,o,s⟩) (a':=⟨b',o,s⟩) ⟨s2 _ _ h,rfl,rfl⟩;have e2:=hw.lid Ae _ _ (s2 _ _ k);have e3:=hw.lid Ae _ _ (s2 _ _ h);subst e2;subst e3;split
    .exact .pure rfl
    .refine J3.bind' (J3.choose _) λE3 s3 z z' hz=>?_;obtain rfl:z=z':=hz;exact .pure rfl
  |unsafePointer=>
   have Ae:C.st=false:=hs.resolve_right (by cases n<;>simp[Kt,hu]);cases hx<;>cases hy<;>first
    |exact .stuck _
    |exact .pure rfl
    |exact J3.sameAddr ⟨by assumption,rfl,rfl⟩ ⟨by assumption,rfl,rfl⟩ Ae
  |interface ms=>
   have Ae:C.st=false:=hs.resolve_right (by cases n<;>simp[Kt,hu]);cases hx<;>cases hy<;>first
    |exact .stuck _
    |exact .pure rfl
    |skip
   rename_i t1 v1 v1' Az h1 t2 v2 v2' Bc h2
   dsimp only
   split
   .exact .pure rfl
   .refine J3.bind' (J3.typeInfo _) λE2 s2 i i' hi=>?_;obtain⟨rfl,_⟩:=hi;split
    .refine J3.bind' (R:=λ_ p p'=>p=C.P/\p'=C.P) (.program ⟨rfl,rfl⟩) λE3 s3 p p' Gu=>?_;obtain⟨rfl,rfl⟩:=Gu;refine J3.bind' (R:=λ_ p p'=>p=C.P/\p'=C.P) (.program ⟨rfl,rfl⟩) λE4 s4 p p' Gu=>?_;obtain⟨rfl,rfl⟩:=Gu;split
     .exact .Jg λw=>⟨_,w,rfl,by simp⟩
     .refine J3.bind' (J3.typeStr _) λE5 s5 z z' hz=>?_;obtain rfl:z=z':=hz;exact J3.runtimePanic ((((Dn.mono s2).mono s3).mono s4).mono s5) _
    .exact J3.equalIn d _ n _ (Dn.mono s2) (.inl Ae) (h1.mono s2) (h2.mono s2)
  |struct fs=>
   have Ae:C.st=false:=hs.resolve_right (by cases n<;>simp[Kt,hu]);cases hx<;>cases hy<;>first
    |exact .stuck _
    |skip
   rename_i a a' ha Fz b b' hb Ri;have ra:AR C E1 a a':=⟨ha,Fz⟩;have rb:AR C E1 b b':=⟨hb,Ri⟩;refine J3.bind' (R:=λ_ p p'=>p=C.P/\p'=C.P) (.program ⟨rfl,rfl⟩) λE2 s2 p p' Gu=>?_;obtain⟨rfl,rfl⟩:=Gu;split
   .exact .Jg λw=>⟨_,w,rfl,by simp⟩
   .refine J3.bind' (R:=λ_ z z'=>z=z') ?_ λE3 s3 z z' hz=>?_
    .rw[<- Array.forIn_toList,<- Array.forIn_toList];refine J3.VT (λ_ _ _ _ _ h=>h) _ _ _ _ (λf _ E3 s3 q q' hq=>?_) rfl;obtain rfl:q=q':=hq;split
     .refine J3.bind' (J3.part f.type ((ra.mono s2).mono s3) _) λE4 s4 v v' hv=>?_;refine J3.bind' (J3.part f.type (((rb.mono s2).mono s3).mono s4) _) λE5 s5 u u' hu=>?_;refine J3.bind' (J3.equalIn d _ n _ ((((Dn.mono s2).mono s3).mono s4).mono s5) (.inl Ae) (hv.mono s5) hu) λE6 s6 z z' hz=>?_;obtain rfl:z=z':=hz;split
      .exact .pure (.done rfl)
      .exact .pure (.yield rfl)
     .exact .pure (.yield rfl)
    .obtain rfl:z=z':=hz
     dsimp only
     split<;>exact .pure rfl
  |array len e=>
   cases hx<;>cases hy<;>first
    |exact .stuck _
    |skip
   rename_i a a' ha Fz b b' hb Ri;have ra:AR C E1 a a':=⟨ha,Fz⟩;have rb:AR C E1 b b':=⟨hb,Ri⟩;refine J3.bind' (J3.sizeOf e) λE2 s2 z z' hz=>?_;obtain rfl:z=z':=hz;have he:C.st=false\/Kt C.P (n-1) e=true:=hs.imp id λh=>by
    cases n with
    |zero=>cases h
    |succ n=>simpa[Kt,hu]using h
   refine J3.bind' (R:=λ_ z z'=>z=z') ?_ λE3 s3 z z' hz=>?_
   .simp only[Std.Legacy.Range.forIn_eq_forIn_range'];refine J3.VT (λ_ _ _ _ _ h=>h) _ _ _ _ (λi _ E3 s3 q q' hq=>?_) rfl;obtain rfl:q=q':=hq;refine J3.bind' (J3.part e ((ra.mono s2).mono s3) _) λE4 s4 v v' hv=>?_;refine J3.bind' (J3.part e (((rb.mono s2).mono s3).mono s4) _) λE5 s5 u u' hu=>?_;refine J3.bind' (J3.equalIn d _ (n-1) _ ((((Dn.mono s2).mono s3).mono s4).mono s5) he (hv.mono s5) hu) λE6 s6 z z' hz=>?_;obtain rfl:z=z':=hz;split
    .exact .pure (.done rfl)
    .exact .pure (.yield rfl)
   .obtain rfl:z=z':=hz
    dsimp only
    split<;>exact .pure rfl
  |bool=>cases hx<;>first|exact .stuck _|(cases hy<;>first|exact .stuck _|exact .pure rfl)
  |string=>cases hx<;>first|exact .stuck _|(cases hy<;>first|exact .stuck _|exact .pure rfl)
  |float k=>cases hx<;>first|exact .stuck _|(cases hy<;>first|exact .stuck _|(dsimp only;split<;>first|exact .pure rfl|exact .stuck _))
  |complex k=>cases hx<;>first|exact .stuck _|(cases hy<;>first|exact .stuck _|(dsimp only;split<;>first|exact .pure rfl|exact .stuck _))
  |slice e=>cases hx<;>first|exact .stuck _|(cases hy<;>first|exact .stuck _|exact .pure rfl)
  |map k e=>cases hx<;>first|exact .stuck _|(cases hy<;>first|exact .stuck _|exact .pure rfl)
  |func a b c=>cases hx<;>first|exact .stuck _|(cases hy<;>first|exact .stuck _|exact .pure rfl)
  |chan d e=>cases hx<;>first|exact .stuck _|(cases hy<;>first|exact .stuck _|exact .pure rfl)
  |_=>grind[stuck]
end
section
variable{C:Cx}{ok:JG->Code->Prop}{E:J5}
def J3.checkKey(em:Bool):∀(d:Nat)(t:JH)(E:J5),Hnd C E->∀{x x':JJ},VR C E x x'->J3 C ok E (Instr.checkKey em d t x) (Instr.checkKey em d t x') (λ_ _ _=>True)
 |0,_,_,_,_,_,_=>.unsupported _
 |d+1,t,E,hh,x,x',hx=>by
  unfold Instr.checkKey;refine J3.bind' (J3.underlying t) λE1 s1 u u' hu=>?_;obtain⟨rfl,hu⟩:=hu;have Dn:=hh.mono s1;have hx:=hx.mono s1;cases u with
  |interface ms=>
   cases hx<;>first
    |exact .stuck _
    |exact .pure trivial
    |skip
   rename_i t1 v v' h1;refine J3.bind' (J3.typeInfo _) λE2 s2 i i' hi=>?_;obtain⟨rfl,_⟩:=hi;split
   .split
    .refine J3.bind' (R:=λ_ _ _=>True) (J3.runtimePanic (Dn.mono s2) _) λE3 s3 _ _ _=>?_;refine J3.bind' (J3.typeStr _) λE5 s5 z z' hz=>?_;obtain rfl:z=z':=hz;refine J3.bind' (R:=λ_ _ _=>True) (J3.runtimePanic (((Dn.mono s2).mono s3).mono s5) _) λE6 s6 _ _ _=>?_;exact J3.checkKey em d _ _ ((((Dn.mono s2).mono s3).mono s5).mono s6) ((((h1.mono s2).mono s3).mono s5).mono s6)
    .refine J3.bind' (J3.typeStr _) λE5 s5 z z' hz=>?_;obtain rfl:z=z':=hz;refine J3.bind' (R:=λ_ _ _=>True) (J3.runtimePanic ((Dn.mono s2).mono s5) _) λE6 s6 _ _ _=>?_;exact J3.checkKey em d _ _ (((Dn.mono s2).mono s5).mono s6) (((h1.mono s2).mono s5).mono s6)
   .exact J3.checkKey em d _ _ (Dn.mono s2) (h1.mono s2)
  |array len e=>
   cases hx<;>first
    |exact .stuck _
    |skip
   rename_i a a' ha Fz;have ra:AR C E1 a a':=⟨ha,Fz⟩;simp only[Std.Legacy.Range.forIn_eq_forIn_range'];refine J3.bind' (R:=λ_ _ _=>True) (J3.VT (λ_ _ _ _ _ h=>h) _ _ _ _ (λi _ E3 s3 q q' hq=>?_) trivial) λ_ _ _ _ _=>.pure trivial;refine J3.bind' (J3.sizeOf e) λE2 s2 z z' hz=>?_;obtain rfl:z=z':=hz;refine J3.bind' (J3.part e ((ra.mono s3).mono s2) _) λE4 s4 v v' hv=>?_;refine J3.bind' (J3.checkKey em d e _ (((Dn.mono s3).mono s2).mono s4) hv) λE5 s5 _ _ _=>?_;exact .pure (.yield trivial)
  |struct fs=>
   cases hx<;>first
    |exact .stuck _
    |skip
   rename_i a a' ha Fz;have ra:AR C E1 a a':=⟨ha,Fz⟩
   dsimp only
   rw[<- Array.forIn_toList,<- Array.forIn_toList];refine J3.bind' (R:=λ_ _ _=>True) (J3.VT (λ_ _ _ _ _ h=>h) _ _ _ _ (λf _ E3 s3 q q' hq=>?_) trivial) λ_ _ _ _ _=>.pure trivial;split
   .refine J3.bind' (J3.part f.type (ra.mono s3) _) λE4 s4 v v' hv=>?_;refine J3.bind' (J3.checkKey em d f.type _ ((Dn.mono s3).mono s4) hv) λE5 s5 _ _ _=>?_;exact .pure (.yield trivial)
   .exact .pure (.yield trivial)
  |_=>exact .pure trivial
inductive EsL(C:Cx)(E:J5):List MapEntry->List MapEntry->Prop
 |nil:EsL C E [] []
 |cons{e e' l l'}(h:Hl C E e e')(hl:EsL C E l l'):EsL C E (e::l) (e'::l')
def EsL.mono{E1:J5}(s:Sub E E1){l l':List MapEntry}(h:EsL C E l l'):EsL C E1 l l':=by
 induction h with
 |nil=>exact .nil
 |cons h _ ih=>exact .cons (h.mono s) ih
def EsL.of:∀{l l':List MapEntry},EsR C E l.toArray l'.toArray->EsL C E l l'
 |[],[],_=>.nil
 |[],_::_,h=>by have:=h.size;simp at this
 |_::_,[],h=>by have:=h.size;simp at this
 |x::l,x'::l',h=>.cons (h.at_ 0 x x' (by simp) (by simp)) (EsL.of ⟨by have:=h.size;grind,λi y y' hy DC=>h.at_ (i+1) y y' (by grind) (by grind)⟩)
def EsR.toList{a a':Array MapEntry}(h:EsR C E a a'):EsL C E a.toList a'.toList:=EsL.of (by simpa using h)
def Jiv(C:Cx)(E:J5):Option (Nat × JJ)->Option (Nat × JJ)->Prop
 |none,none=>True
 |some a,some b=>a.1=b.1/\VR C E a.2 b.2
 |_,_=>False
def Jmu(d:TypeDesc){x x' y y':JJ}(hx:VR C E x x')(hy:VR C E y y'):Instr.sameNow d x' y'=Instr.sameNow d x y:=by
 cases d with
 |int k=>cases hx<;>first|rfl|(cases hy<;>rfl)
 |string=>cases hx<;>first|rfl|(cases hy<;>rfl)
 |bool=>cases hx<;>first|rfl|(cases hy<;>rfl)
 |_=>rfl
def Jca(d:TypeDesc){x x':JJ}(hx:VR C E x x'):∀{l l':List MapEntry}(i:Nat),EsL C E l l' ->
  Di (Jiv C E) (Instr.findNow d x l i) (Instr.findNow d x' l' i)
 |_,_,_,.nil=>trivial
 |_,_,i,.cons (e:=e) (e':=e') h hl=>by
  simp only[Instr.findNow,Jmu d hx h.key];cases Instr.sameNow d x e.key with
  |none=>trivial
  |some b=>
   cases b with
   |true=>exact⟨rfl,h.val⟩
   |false=>exact Jca d hx (i+1) hl
def J3.findAsking(kt:JH)(n:Nat)(hs:C.st=false\/Kt C.P n kt=true):∀{l l':List MapEntry}(i:Nat)(E:J5),Hnd C E->∀{x x':JJ},VR C E x x'->EsL C E l l' ->
  J3 C ok E (Instr.findAsking kt x l i) (Instr.findAsking kt x' l' i) (Jiv C)
 |_,_,_,_,_,_,_,_,.nil=>.pure trivial
 |_,_,i,E,hh,x,x',hx,.cons (e:=e) (e':=e') h hl=>by
  unfold Instr.findAsking;refine J3.bind' (J3.equalIn _ kt n _ hh hs hx h.key) λE1 s1 b b' hb=>?_;obtain rfl:b=b':=hb;split
  .exact .pure ⟨rfl,h.val.mono s1⟩
  .exact J3.findAsking kt n hs (i+1) _ (hh.mono s1) (hx.mono s1) (hl.mono s1)
def J3.findKey(kt:JH)(n:Nat)(hh:Hnd C E)(hs:C.st=false\/Kt C.P n kt=true){x x':JJ}(hx:VR C E x x'){l l':List MapEntry}(hl:EsL C E l l') :
  J3 C ok E (Instr.findKey kt x l) (Instr.findKey kt x' l') (Jiv C):=by
 unfold Instr.findKey;refine J3.bind' (J3.underlying kt) λE1 s1 u u' hu=>?_;obtain⟨rfl,hu⟩:=hu;have hf:=Jca u (hx.mono s1) 0 (hl.mono s1);cases h1:Instr.findNow u x l 0 with
 |none=>
  cases h2:Instr.findNow u x' l' 0 with
  |none=>exact J3.findAsking kt n hs 0 _ (hh.mono s1) (hx.mono s1) (hl.mono s1)
  |some b=>rw[h1,h2]at hf;exact hf.elim
 |some a=>
  cases h2:Instr.findNow u x' l' 0 with
  |none=>rw[h1,h2]at hf;exact hf.elim
  |some b=>rw[h1,h2]at hf;exact .pure hf
theorem EsR.nil:EsR C E #[] #[]:=⟨rfl,λi x x' h=>by simp at h⟩
def EsR.push{a a':Array MapEntry}(h:EsR C E a a'){e e':MapEntry}(he:Hl C E e e'):EsR C E (a.push e) (a'.push e'):=by
 refine⟨by simp[h.size],λj x x' hx Af=>?_⟩;rw[KA]at hx Af;rw[<- h.size]at Af;split at hx
 .grind
 .rename_i e;rw[if_neg e]at Af;exact h.at_ j x x' hx Af
def EsR.modify{a a':Array MapEntry}(h:EsR C E a a')(i:Nat){f f':MapEntry->MapEntry}(hf:∀e e',Hl C E e e'->Hl C E (f e) (f' e')):EsR C E (a.modify i f) (a'.modify i f'):=by
 refine⟨by simp[h.size],λj x x' hx Af=>?_⟩;rw[Array.getElem?_modify]at hx Af;by_cases e:i=j
 .rw[if_pos e]at hx Af;obtain⟨y,hy,rfl⟩:=Fh.1 hx;obtain⟨y',DC,rfl⟩:=Fh.1 Af;exact hf _ _ (h.at_ j y y' hy DC)
 .rw[if_neg e]at hx Af;exact h.at_ j x x' hx Af
def EsR.Ec{a a':Array MapEntry}(h:EsR C E a a'){i:Nat}{x:MapEntry}(hx:a[i]?=some x):∃x',a'[i]?=some x'/\Hl C E x x':=by have hi:i<a.size:=(BJ.1 hx).1;have CW:i<a'.size:=h.size▸hi;exact⟨a'[i],by simp[CW],h.at_ i x _ hx (by simp[CW])⟩
def EsR.VY{a a':Array MapEntry}(h:EsR C E a a'){i:Nat}(hx:a[i]?=none):a'[i]?=none:=by rw[PE]at *;rw[<- h.size];exact hx
def J3.Wj{β β':Type}{R:J5->β->β'->Prop}{r r':Nat}(h:E r r')(Ya:String){f:Array MapEntry->Nat->Sem β}{f':Array MapEntry->Nat->Sem β'}
  (k:∀E1,Sub E E1->∀es AU ck,EsR C E1 es AU->J3 C ok E1 (f es ck) (f' AU ck) R) :
  J3 C ok E (Go.getObj r >>= λo=>match o with| .map es ck=>f es ck|_=>Go.stuck Ya) (Go.getObj r' >>= λo=>match o with| .map es ck=>f' es ck|_=>Go.stuck Ya) R:=by
 refine J3.bind' (J3.getObj h) λE1 s o o' ho=>?_;obtain⟨h3,_⟩:=ho;cases o with
 |map es ck=>obtain⟨AU,rfl,he⟩:=h3;grind
 |_=>exact .stuck _
def J3.lookup(K:Ov C)(hh:Hnd C E)(t:JH)(n:Nat){x x' k k':JJ}(hx:VR C E x x')(hk:VR C E k k')(Gp:Bool)
  (hs:C.st=false\/∀kt e,C.P.underlying t=some (.map kt e)->Kt C.P n kt=true) :
  J3 C ok E (Instr.lookup t x k Gp) (Instr.lookup t x' k' Gp) (VR C):=by
 unfold Instr.lookup;refine J3.bind' (J3.underlying t) λE1 s1 u u' hu=>?_;obtain⟨rfl,hu⟩:=hu;cases u with
 |map kt e=>
  dsimp only
  have EX:=hx.mono s1;have DI:=hk.mono s1;have D9:=hs.imp id λh=>h kt e hu;have tail:∀E2,Sub E1 E2->∀es AU,EsR C E2 es AU->J3 C ok E2
    (do
     Instr.checkKey es.isEmpty 10000 kt k
     match <- Instr.findKey kt k es.toList with
     |some (_,v)=>do
      let x <- Pure.pure (v,true)
      Pure.pure (if Gp then Value.tuple #[x.1,.bool x.2]else x.1)
     |none=>do
      let z <- Go.zeroValue e
      let x <- Pure.pure (z,false)
      Pure.pure (if Gp then Value.tuple #[x.1,.bool x.2]else x.1):Sem JJ)
    (do
     Instr.checkKey AU.isEmpty 10000 kt k'
     match <- Instr.findKey kt k' AU.toList with
     |some (_,v)=>do
      let x <- Pure.pure (v,true)
      Pure.pure (if Gp then Value.tuple #[x.1,.bool x.2]else x.1)
     |none=>do
      let z <- Go.zeroValue e
      let x <- Pure.pure (z,false)
      Pure.pure (if Gp then Value.tuple #[x.1,.bool x.2]else x.1):Sem JJ) (VR C):=by
   intro E2 s2 es AU Eh;rw[show AU.isEmpty=es.isEmpty by simp only[Array.isEmpty,Eh.size]];refine J3.bind' (J3.checkKey _ _ kt _ ((hh.mono s1).mono s2) (DI.mono s2)) λE3 s3 _ _ _=>?_;refine J3.bind' (J3.findKey kt n (((hh.mono s1).mono s2).mono s3) D9 ((DI.mono s2).mono s3) (Eh.toList.mono s3)) λE4 s4 z z' hz=>?_;have fin:∀E(v v':JJ)(b:Bool),VR C E v v'->J3 C ok E (Pure.pure (if Gp then Value.tuple #[v,.bool b]else v)) (Pure.pure (if Gp then Value.tuple #[v',.bool b]else v')) (VR C):=λE v v' b h=>by
    refine .pure ?_;cases Gp with
    |true=>exact .U5 (LR.toArray (l:=[_,_]) (l':=[_,_]) (.cons h (.cons (.bool b) .nil)))
    |false=>exact h
   cases z with
   |none=>
    cases z' with
    |none=>exact J3.bind' (J3.zeroValue K e) λE5 s5 v v' hv=>fin _ _ _ _ hv
    |some b=>exact hz.elim
   |some a=>
    cases z' with
    |none=>exact hz.elim
    |some b=>exact fin _ _ _ _ hz.2
  cases EX<;>first
   |exact .stuck _
   |exact tail _ (.refl _) _ _ .nil
   |exact J3.Wj (by assumption) _ λE2 s2 es AU ck h=>tail E2 s2 _ _ h
   |exact .Jg λw=>⟨_,w,rfl,by simp⟩
 |_=>exact .stuck _
def Yt(n:Nat)(x y:JJ)(hx:∀t v,x≠.iface t v)(OW:∀a,x≠.agg a):Instr.sameBits (n+1) x y=Instr.sameBits 0 x y:=by
 cases x with
 |iface t v=>grind
 |agg a=>grind
 |_=>cases y<;>rfl
def Jt9{w w':JE}(hw:WR C ok E w w'){b b' o:Nat}{s:Option Nat}{c c' p:Nat}{t:Option Nat}(h:E b b')(k:E c c') :
  ((some (⟨b',o,s⟩:Addr)) == some ⟨c',p,t⟩)=((some (⟨b,o,s⟩:Addr)) == some ⟨c,p,t⟩):=by
 by_cases e:b=c
 .subst e;have:=hw.fn _ _ _ h k
  grind
 .have:b'≠c':=λe'=>e (hw.inj _ _ _ h (e'▸k))
  grind
def mQ{w w':JE}(hw:WR C ok E w w'){x x' y y':JJ}(hx:VR C E x x')(hy:VR C E y y'):Instr.sameBits 0 x' y'=Instr.sameBits 0 x y:=by
 cases hx with
 |ptr o s h=>
  cases hy with
  |ptr o2 s2 k=>exact Jt9 hw h k
  |_=>rfl
 |_=>cases hy<;>rfl
def J9j(f:JJ->JJ->Bool)(ih:∀{x x' y y':JJ},VR C E x x'->VR C E y y'->f x' y'=f x y):∀{l l' m m':List JJ},LR C E l l'->LR C E m m' ->
  ((l'.zip m').all λ(x,y)=>f x y)=((l.zip m).all λ(x,y)=>f x y)
 |_,_,_,_,.nil,_=>by simp
 |_,_,_,_,.cons h hl,.nil=>by simp
 |_,_,_,_,.cons h hl,.cons k hm=>by simp only[List.zip_cons_cons,List.all_cons,ih h k,J9j f ih hl hm]
def J7k{w w':JE}(hw:WR C ok E w w'):∀(n:Nat){x x' y y':JJ},VR C E x x'->VR C E y y'->Instr.sameBits n x' y'=Instr.sameBits n x y
 |0,_,_,_,_,hx,hy=>mQ hw hx hy
 |n+1,x,x',y,y',hx,hy=>by
  cases hx with
  |iface t ht h=>
   cases hy with
   |iface u hu k=>
    show(_ == _ && Instr.sameBits n _ _)=(_ == _ && Instr.sameBits n _ _);rw[J7k hw n h k]
   |_=>rfl
  |agg ha Fz=>
   cases hy with
   |agg hb Ri=>
    rename_i a a' b b';show(a'.size == b'.size && ((a'.toList.zip b'.toList).all λ(x,y)=>Instr.sameBits n x y))=(a.size == b.size && ((a.toList.zip b.toList).all λ(x,y)=>Instr.sameBits n x y));rw[J9j (Instr.sameBits n) (λh k=>J7k hw n h k) (AR.toList ⟨ha,Fz⟩) (AR.toList ⟨hb,Ri⟩),ha,hb]
   |_=>rfl
  |ptr o s h=>rw[Yt _ _ _ (by simp) (by simp),Yt _ _ _ (by simp) (by simp)];exact mQ hw (.ptr o s h) hy
  |func h ha hb hc hd=>rw[Yt _ _ _ (by simp) (by simp),Yt _ _ _ (by simp) (by simp)];exact mQ hw (.func h ha hb hc hd) hy
  |tuple ha hb=>rw[Yt _ _ _ (by simp) (by simp),Yt _ _ _ (by simp) (by simp)];exact mQ hw (.tuple ha hb) hy
  |_=>cases hy<;>rfl
def J3.keyThatStays{x x' y y':JJ}(hx:VR C E x x')(hy:VR C E y y'):J3 C ok E (Instr.keyThatStays x y) (Instr.keyThatStays x' y') (VR C):=by
 refine .aI λw w' hw=>?_;unfold Instr.keyThatStays;rw[J7k hw 10000 hx hy];split
 .exact .pure hy
 .refine J3.bind' (J3.choose _) λE1 s n n' hn=>?_;obtain rfl:n=n':=hn;refine .pure ?_;split
  .exact hy.mono s
  .exact hx.mono s
def J3.mapUpdate(hh:Hnd C E)(t:JH)(n:Nat){x x' k k' v v':JJ}(hx:VR C E x x')(hk:VR C E k k')(hv:VR C E v v')
  (Cj:∀r,x=.map (some r)->¬C.Sh r)
  (hs:C.st=false\/∀kt e,C.P.underlying t=some (.map kt e)->Kt C.P n kt=true) :
  J3 C ok E (Instr.mapUpdate t x k v) (Instr.mapUpdate t x' k' v') (λ_ _ _=>True):=by
 unfold Instr.mapUpdate;refine J3.bind' (J3.underlying t) λE1 s1 u u' hu=>?_;obtain⟨rfl,hu⟩:=hu;cases u with
 |map kt e=>
  dsimp only
  have D9:=hs.imp id λh=>h kt e hu;have EX:=hx.mono s1;cases EX<;>first
   |exact .stuck _
   |exact J3.runtimePanic (hh.mono s1) _
   |skip
  rename_i r r' hr;have hsr:=Cj r rfl;refine J3.Wj hr _ λE2 s2 es AU ck Eh=>?_;refine J3.bind' (J3.checkKey _ _ kt _ ((hh.mono s1).mono s2) ((hk.mono s1).mono s2)) λE3 s3 _ _ _=>?_;refine J3.bind' (J3.findKey kt n (((hh.mono s1).mono s2).mono s3) D9 (((hk.mono s1).mono s2).mono s3) (Eh.toList.mono s3)) λE4 s4 z z' hz=>?_;have Jta:=(Eh.mono s3).mono s4;have PY:=(((hk.mono s1).mono s2).mono s3).mono s4;have yF:=(((hv.mono s1).mono s2).mono s3).mono s4;have jZ:=s4 _ _ (s3 _ _ (s2 _ _ hr));cases z with
  |none=>
   cases z' with
   |some b=>exact hz.elim
   |none=>exact J3.setObj jZ hsr ⟨_,rfl,Jta.push ⟨PY,yF,rfl⟩⟩ (by simp)
  |some a=>
   cases z' with
   |none=>exact hz.elim
   |some b=>
    obtain⟨i,a⟩:=a;obtain⟨i',b⟩:=b;obtain rfl:i=i':=hz.1
    dsimp only
    refine J3.bind' (J3.keyThatStays (x:=((es[i]?).map (·.key)).getD k) (x':=((AU[i]?).map (·.key)).getD k') ?_ PY) λE5 s5 q q' hq=>?_
    .cases h:es[i]? with
     |none=>rw[Eh.VY h];exact PY
     |some e=>obtain⟨e',he',hr⟩:=Jta.Ec h;rw[he'];exact hr.key
    .exact J3.setObj (s5 _ _ jZ) hsr ⟨_,rfl,(Jta.mono s5).modify i λe e' h=>⟨hq,yF.mono s5,h.born⟩⟩ (by simp)
 |_=>exact .stuck _
end
end Go.Sim
