/- Proved here: laws for the claim. No conditions. -/
import Derived.Control
import Derived.Conc.WgGenN2
import Derived.Test.YtlcbehhbfglgaaaGreatK03
import Derived.Test.YtlcbehhbfglgaaaGreatK09
import Derived.Test.YtlcbehhbfglgaaaGreatK11
set_option linter.all false
set_option maxRecDepth 100000
open Go.Proofs.Tryz
namespace Go.Sim
open Go.Conc
open Go.ConcN (sumTo upd)
def rng(E:J5):JB:=λb=>∃a,E a b
def idE(X:JB):J5:=λb b'=>b=b'/\X b
structure Oz(C C':Cx):Prop where
 fs:∀f,C.F f->C'.F f
 ts:∀t,C.Kq t=true->C'.Kq t=true
 ms:∀n,C.ms.contains n=true->C'.ms.contains n=true
theorem Oz.refl(C:Cx):Oz C C:=⟨λ_ h=>h,λ_ h=>h,λ_ h=>h⟩
section
variable{C C':Cx}{E:J5}
theorem X4{b b':Nat}(h:E b b'):idE (rng E) b' b':=⟨rfl,b,h⟩
theorem Ox{X Y:JB}(h:∀b,X b->Y b):Sub (idE X) (idE Y):=λ_ _ k=>⟨k.1,h _ k.2⟩
theorem FnR.right(L:Oz C C'){f f':Fn}(h:FnR C E f f'):FnR C' (idE (rng E)) f' f':=by
 cases h with
 |func h=>exact .func (L.fs _ h)
 |yield h=>exact .yield (X4 h)
 |method h=>exact .method (L.ms _ h)
theorem VR.right(L:Oz C C'){v v':JJ}(h:VR C E v v'):VR C' (idE (rng E)) v' v':=by
 have arr:∀{a a':JC},a.size=a'.size->(∀(i:Nat)(x x':JJ),a[i]?=some x->a'[i]?=some x'->VR C' (idE (rng E)) x' x')->∀(i:Nat)(x x':JJ),a'[i]?=some x->a'[i]?=some x'->VR C' (idE (rng E)) x x':=by intro a a' hs hx i x x' h1 h2;rw[h1]at h2;cases h2;have Ac:=(BQ.1 h1).1;exact hx i a[i] x (by simp[hs,Ac]) h1
 induction h with
 |bool b=>exact .bool b
 |int k n=>exact .int k n
 |string x=>exact .string x
 |nilPtr=>exact .nilPtr
 |ptr o p h=>exact .ptr o p (X4 h)
 |Jo l c=>exact .Jo l c
 |slice o p l c h=>exact .slice o p l c (X4 h)
 |Na=>exact .Na
 |map h=>exact .map (X4 h)
 |nilFunc=>exact .nilFunc
 |Ql=>exact .Ql
 |func h ha _ hc _ hx hy=>exact .func (h.right L) rfl (arr ha hx) ⟨rfl,by have:=hc.1;have:=hc.2;omega⟩ (arr hc.1 hy)
 |iface t ht _ ih=>exact .iface t (L.ts _ ht) ih
 |nilIface=>exact .nilIface
 |agg ha _ hx=>exact .agg rfl (arr ha hx)
 |tuple ha _ hx=>exact .tuple rfl (arr ha hx)
theorem AR.right(L:Oz C C'){a a':JC}(h:AR C E a a'):AR C' (idE (rng E)) a' a':=by refine⟨rfl,λi x x' h1 h2=>?_⟩;rw[h1]at h2;cases h2;have Ac:=(BQ.1 h1).1;have hs:=h.size;exact(h.at_ i a[i] x (by simp[hs,Ac]) h1).right L
theorem I4.right(L:Oz C C'){e e':MapEntry}(h:I4 C E e e'):I4 C' (idE (rng E)) e' e':=⟨h.key.right L,h.val.right L,rfl⟩
theorem EsR.right(L:Oz C C'){e e':Array MapEntry}(h:EsR C E e e'):EsR C' (idE (rng E)) e' e':=by refine⟨rfl,λi x x' h1 h2=>?_⟩;rw[h1]at h2;cases h2;have Ac:=(BQ.1 h1).1;have hs:=h.size;exact(h.at_ i e[i] x (by simp[hs,Ac]) h1).right L
theorem Gf.right(L:Oz C C'){d d':List Deferred}(h:Gf C E d d'):Gf C' (idE (rng E)) d' d':=by
 induction h with
 |nil=>exact .nil
 |@cons d d' l l' h _ ih=>
  refine .cons ⟨?_,h.args.right L,?_⟩ ih
  ·have ht:=h.target;generalize d.target=t at ht;generalize d'.target=t' at ht ⊢;cases ht with
   |collected h=>exact .collected (X4 h)
   |nil=>exact .nil
   |fn hf hc=>exact .fn (hf.right L) (hc.right L)
  ·intro f c e;have ht:=h.target;have hz:=h.sz;have hs:=h.args.size;rw[e]at ht;generalize d.target=t at ht hz;cases ht with
   |fn hf hc=>have:=hz _ _ rfl;have:=hc.size;omega
theorem Nj.right(L:Oz C C'){ok ok':JG->Code->Prop}(Dj:∀b,¬C'.Sh b)(Af:C'.st=false)(hok:C.st=false->ok=ok'/\C.hl=C'.hl){b b':Nat}{o o':Obj}(h:Nj C ok E b o o'):Nj C' ok' (idE (rng E)) b' o' o':=by
 cases o with
 |cells c el fz=>
  obtain⟨c',G9,rfl,h4,_⟩:=h;exact⟨c',G9,rfl,h4.right L,λx=>absurd x (Dj _),λ_=>⟨rfl,λe=>by rw[Af]at e;cases e⟩⟩
 |map es ck=>obtain⟨AZ,rfl,h⟩:=h;exact⟨AZ,rfl,h.right L⟩
 |mapIter m a b c=>
  obtain⟨_,m',rfl,h⟩:=h;refine⟨Dj _,m',rfl,?_⟩;cases m<;>cases m'<;>first|trivial|exact h.elim|exact X4 h
 |stringIter a b=>obtain⟨_,rfl⟩:=h;exact⟨Dj _,rfl⟩
 |loop l=>
  obtain⟨_,l',rfl,h⟩:=h;obtain⟨rfl,PU⟩:=hok h.st;refine⟨Dj _,l',rfl,⟨rfl,rfl,rfl,⟨rfl,λi x x' hi h1 h2=>?_⟩,rfl,rfl,rfl,X4 h.defers,?_,?_,?_,Af⟩⟩
  ·rw[h1]at h2;cases h2;have Ac:=(BQ.1 h1).1;have hs:=h.tmps.size;exact(h.tmps.at_ i l.tmps[i] x (by rw[PU,h.fn];exact hi) (by simp[hs,Ac]) h1).right L
  ·rw[<- h.fn,<- h.assign];exact h.ok1
  ·rw[<- h.fn,<- h.body];exact h.ok2
  ·rw[<- h.pending];exact h.ok3
 |deferred ds=>
  obtain⟨_,NI,rfl,h⟩:=h;refine⟨Dj _,NI,rfl,?_⟩;cases ds<;>cases NI<;>first|trivial|exact h.elim|exact Gf.right L h
 |number a l=>obtain⟨_,a',rfl,h⟩:=h;exact⟨Dj _,a',rfl,⟨X4 h.block,rfl,rfl⟩⟩
 |_=>exact h.elim
theorem WR.right(L:Oz C C'){ok ok':JG->Code->Prop}(Dj:∀b,¬C'.Sh b)(Af:C'.st=false)(hok:C.st=false->ok=ok'/\C.hl=C'.hl){w w':JE}(h:WR C ok E w w'):WR C' ok' (idE (rng E)) w' w':=by
 refine⟨rfl,λb b' ⟨e,a,ha⟩=>?_,λb c c' h1 h2=>h1.1.symm.trans h2.1,λb c b2 h1 h2=>h1.1.trans h2.1.symm,λb hb=>absurd hb (Dj b),λb b' o o' ⟨e,a,ha⟩ h1 h2=>?_,λ_ b b' h=>h.1,λ_=>rfl,λe=>by rw[Af]at e;cases e⟩
 ·subst e;exact⟨(h.dom _ _ ha).2,(h.dom _ _ ha).2⟩
 ·subst e;rw[h1]at h2;cases h2;obtain⟨x,x',e1,e2,e3⟩:=h.get ha;rw[h1]at e2;cases e2;exact e3.right L Dj Af hok
theorem VR.eq{E:J5}(hE:∀b b',E b b'->b=b'){v v':JJ}(h:VR C E v v'):v=v':=by
 have arr:∀{a a':JC},a.size=a'.size->(∀(i:Nat)(x x':JJ),a[i]?=some x->a'[i]?=some x'->x=x')->a=a':=by
  intro a a' hs hx;apply Nv;intro i;by_cases hi:i<a.size
  ·have h1:a[i]?=some a[i]:=BJ hi;have h2:a'[i]?=some a'[i]:=BJ (hs▸hi);rw[h1,h2,hx i _ _ h1 h2]
  ·rw[DK (by omega),DK (by omega)]
 induction h with
 |ptr o p h=>rw[hE _ _ h]
 |slice o p l c h=>rw[hE _ _ h]
 |map h=>rw[hE _ _ h]
 |func h ha _ hc _ hx hy=>
  rw[arr ha hx,arr hc.1 hy];cases h with
  |func h=>rfl
  |yield h=>rw[hE _ _ h]
  |method h=>rfl
 |iface t ht _ ih=>rw[ih]
 |agg ha _ hx=>rw[arr ha hx]
 |tuple ha _ hx=>rw[arr ha hx]
 |_=>rfl
end
end Go.Sim
namespace Go.Sim
open Go.Conc
section
variable{st:Bool}{P:Program}{main:Bool}{Stop Jh3:Sit->Prop}
theorem Cb.refl(st:Bool)(X:JB)(w:JE):Cb st X w w:=⟨λ_ _=>rfl,Ad _,λ_=>rfl,rfl⟩
theorem Runs.bind{y:Sit}(h:Runs st P main Stop y)(k:∀y2,Stop y2->Runs st P main Jh3 y2):Runs st P main Jh3 y:=by
 induction h with
 |stop h=>exact k _ (h _ (.refl ..))
 |step f h _ ih=>exact .step f h ih
theorem Runs.mono{y:Sit}(h:Runs st P main Stop y)(k:∀y2,Stop y2->Jh3 y2):Runs st P main Jh3 y:=by
 induction h with
 |stop h=>exact .stop λw1 hr=>k _ (h w1 hr)
 |step f h _ ih=>exact .step f h ih
theorem Runs.idle{own X:JB}{g g':JF}{w:JE}(hs:∀w1,stepG P main g w1=.go g' w1 #[])(hr:g'.status=.running)(hd:g'.dying=none)(ho:g'.offers=none)
  (k:∀w1,Cb st X w w1->Runs st P main Stop ⟨own,X,g',w1⟩):Runs st P main Stop ⟨own,X,g,w⟩:=by
 have same:∀(Y:JB)(w1:JE),grown Y w1 w1=Y:=λY w1=>by funext b;simp only[grown,eq_iff_iff];exact⟨λh=>h.elim id λh=>by omega,.inl⟩
 refine .step (λw1=>⟨own,X,g',w1⟩) (λw1 _=>⟨⟨#[],hs w1,⟨Ad _,λ_ _ _=>rfl,rfl,rfl,Ad _,λe he=>by simp at he⟩⟩,hr,hd,ho,(same own w1).symm,(same X w1).symm⟩) λw1 hw=>k w1 hw
end
section
variable{C:Cx}{S:Kn}
def Jaa(C:Cx)(S:Kn)(b:Frame)(t0:JC)(ds:List Deferred)(k:List Item)(cs:List Frame)(E:J5)(Q:Exit->Act->JE->Prop)(y:Sit):Prop:=
 ∃E1 a w1 t',Sub E E1/\Link C S E1 y.own y.X w1 y.w/\TmR C S b.fn E1 a.tmps t'/\(∀i,(C.hl b.fn).contains i=true->t'[i]?=t0[i]?) /\
  ((Q .normal a w1/\y.g=G (b.at ⟨t',ds⟩ k) cs)\/(Q .ret a w1/\∃todo,y.g=G { b.at ⟨t',ds⟩ todo with mode:=.returning } cs))
theorem J8w(A:Il C S){main:Bool}{b:Frame}{c:Code}{t t':JC}{ds:List Deferred}{k:List Item}{cs:List Frame}{E:J5}{own X:JB}{w0 w:JE}{Q:Exit->Act->JE->Prop}
  (hc:Jj C S b.fn c=true) (hb:GH C b.fn) (Oq:S.df.contains b.fn=false) (hl:C.hl b.fn≠[]) (hk:b.kind≠.early)
  (hL:Link C S E own X w0 w) (ht:TmR C S b.fn E t t') (K:∀τ,c.wp C.P Q ⟨t,[Jp]⟩ (w0.tp τ 0)) (hQ:∀e a w,Q e a w->e=.normal\/e=.ret) :
  Runs C.st C.P main (Jaa C S b t' ds k cs E Q) ⟨own,X,G (b.at ⟨t',ds⟩ (.code c::k)) cs,w⟩:=by
 let B:Bot:=⟨b.fn,t',k,[],b.kind,ds,cs⟩
 have hg:GR C S E B (G ((base b.fn).at ⟨t,[Jp]⟩ [.code c,Jt]) []) (G (b.at ⟨t',ds⟩ (.code c::k)) cs):=by refine⟨.bot ⟨rfl,hb,rfl,hk,rfl,rfl,ht,?_,rfl,rfl,rfl,Oq,hl,rfl,rfl,rfl,λ_ _=>rfl⟩,rfl,rfl,rfl,rfl,rfl⟩;exact QZ.code (cs:=B) rfl (.cons (.code hc) .nil)
 have K':∀τ,∃n g1 w1,runN C.P n (solo (G ((base b.fn).at ⟨t,[Jp]⟩ [.code c,Jt]) []) (w0.tp τ 0))=.next (solo g1 w1)/\Jl4 (λtm w1=>∃d,Q .normal ⟨tm,d⟩ w1) (λtm w1=>∃d,Q .ret ⟨tm,d⟩ w1) g1 w1:=by
  intro τ;obtain⟨e,a',w',hq,dI⟩:=K τ (base b.fn) [Jt] [];rcases hQ e a' w' hq with rfl|rfl
  ·obtain⟨n,hn⟩:=dI;exact⟨n,_,w',hn,rfl,.inl ⟨rfl,rfl,a'.defers,hq⟩⟩
  ·obtain⟨todo,n,hn⟩:=dI;exact⟨n,_,w',hn,rfl,.inr ⟨rfl,a'.defers,hq⟩⟩
 refine(Jl5 A (main:=main) (cs:=B) (y0:=⟨own,X,G (b.at ⟨t',ds⟩ (.code c::k)) cs,w⟩) hL hg K').bind λy hy=>?_;obtain⟨E1,g1,w1,hs,MV,⟨Bf,bG,d,hq⟩|⟨he,d,hq⟩⟩:=hy
 ·obtain⟨Zx,X1,gy,wy⟩:=y;obtain⟨fy,UJ,yC,dy,oy⟩:=gy;have Af:=Bf.stack;have r1:=Bf.run';have r2:=Bf.dying';have r3:=Bf.offers;simp only at r1 r2 r3;subst r1 r2 r3;obtain⟨q1,q2,q3⟩:=bG;rw[q1]at Af;generalize hz:fy::UJ=z at Af;cases Af with
  |cons _ h2=>cases h2
  |bot hB=>
   cases hz;have e:∀todo,fy.todo=todo->fy=b.at ⟨fy.tmps,ds⟩ todo:=by intro todo ht;obtain⟨f1,f2,f3,f4,f5,f6,f7⟩:=fy;have a1:=hB.fn2;have a2:=hB.kind2;have a3:=hB.dfr;have a4:=hB.Ux;have a5:=hB.round';simp only at a1 a2 a3 a4 a5 ht;subst a1 a2 a3 a4 a5 ht;rfl
   have CX:TmR C S b.fn E1 g1.frame.tmps fy.tmps:=by
    have:=hB.tmps
    rwa [<- hB.fn,hB.fn2]at this
   have NW:∀i,(C.hl b.fn).contains i=true->fy.tmps[i]?=t'[i]?:=by
    have:=hB.hold
    rwa [<- hB.fn,hB.fn2]at this
   have ND:=hB.todo;have fin:fy.todo=k->Runs C.st C.P main (Jaa C S b t' ds k cs E Q) ⟨Zx,X1,⟨fy,B.cs,.running,none,none⟩,wy⟩:=λCe=>
    .stop λw2 hr=>⟨E1,⟨g1.frame.tmps,d⟩,w1,fy.tmps,hs,MV.rely hr,CX,NW,.inl ⟨hq,by show(⟨fy,B.cs,.running,none,none⟩:JF)=_;rw[e k Ce];rfl⟩⟩
   have step:∀ops,fy.todo=.inRegion ops []::k->Runs C.st C.P main (Jaa C S b t' ds k cs E Q) ⟨Zx,X1,⟨fy,B.cs,.running,none,none⟩,wy⟩:=by
    intro ops ho;have e':(⟨fy,B.cs,.running,none,none⟩:JF)=G (b.at ⟨fy.tmps,ds⟩ (.inRegion ops []::k)) cs:=by rw[e _ ho];rfl
    rw[e'];refine Runs.idle (g':=G (b.at ⟨fy.tmps,ds⟩ k) cs) (λw1=>stepG_region_end) rfl rfl rfl λw2 hr=>?_;exact .stop λw3 IJ=>⟨E1,⟨g1.frame.tmps,d⟩,w1,fy.tmps,hs,(MV.rely hr).rely IJ,CX,NW,.inl ⟨hq,rfl⟩⟩
   rcases q3 with q3|⟨ops,q3⟩
   ·rw[q3]at ND;generalize hx:([Jt]:List Item)=x at ND;generalize hy:fy.todo=y at ND;cases ND with
    |@code l l' _ hi=>
     cases hi with
     |nil=>exact fin hy
     |cons h1 h2=>simp at hx
    |ops is h=>simp at hx
   ·rw[q3]at ND;generalize hx:([.inRegion ops [],Jt]:List Item)=x at ND;generalize hy:fy.todo=y at ND;cases ND with
    |@code l l' _ hi=>
     cases hi with
     |nil=>simp at hx
     |cons h1 h2=>
      cases h2 with
      |nil=>
       simp only[Hr,Gm,List.cons.injEq,and_true]at hx;subst hx;cases h1 with
       |inRegion is hr=>exact step ops hy
      |cons h3 h4=>simp at hx
    |@ops ops2 is h=>
     simp only[List.cons.injEq,Item.inRegion.injEq,and_true]at hx;obtain⟨rfl,rfl⟩:=hx;exact step ops hy
 ·obtain⟨Zx,X1,gy,wy⟩:=y;obtain⟨fy,UJ,yC,dy,oy⟩:=gy;obtain⟨z1,z2,z3,z4,z5,z6,z7,z8,z9,TS,jM,z12,YE,XB,XW,Sv,z17⟩:=he;simp only at z2 z3 z5 z6 z9 jM z12 YE XB XW Sv;subst z2 z9 jM z12;have CX:TmR C S b.fn E1 g1.frame.tmps fy.tmps:=by rwa [<- z3,Sv]at z6
  have NW:∀i,(C.hl b.fn).contains i=true->fy.tmps[i]?=t'[i]?:=by
   have:=z17
   rwa [<- z3,Sv]at this
  refine .stop λw2 hr=>⟨E1,⟨g1.frame.tmps,d⟩,w1,fy.tmps,hs,MV.rely hr,CX,NW,.inr ⟨hq,fy.todo,?_⟩⟩;obtain⟨f1,f2,f3,f4,f5,f6,f7⟩:=fy;simp only at z3 z5 YE XB XW Sv;subst z5 YE XB XW Sv;rfl
end
end Go.Sim
namespace Go.Sim
open Go.Conc Go.ConcN Go.RowKit Go.Conc.Lib Go.ConcR.Gen Go.ConcN.Gen
open Go.ConcR (KK wgBlock WgAt stA smA rd wr mk Payload DC0)
section
variable[Payload]{L:WgLink}
def K1D(P:Program)(g:JF)(w:JE):Prop:=∃g',stepG P false g w=.go g' w #[mk .disable]
def R0D(P:Program)(R:JE->JE->Prop)(Wg:Nat)(g:JF)(w:JE):Prop:=∃g',stepG P false g w=.go g' w #[mk (.releaseMerge (stA Wg))]/\∃m,Goes P false R DC0 (K1D P) m g' w
section
variable{P:Program}{R:JE->JE->Prop}(hR:∀w,R w w){ty:JH}{Wg C n OE k:Nat}{Own Rd:Nat->Loc->Prop}{val:JJ}
include hR
theorem Jpg{n':Nat}:∀{m:Nat}{g:JF}{w:JE},Goes P false R (DWs Wg Own Rd C n k) (AtR0 P ty Wg C n OE k val) n' g w->Goes P false R DC0 (K1D P) m g w->False:=by
 intro m
 induction m generalizing n' with
 |zero=>
  intro g w h1 h2;obtain⟨g',Bg⟩:=h2 w (hR w);rcases Goes.cases h1 with hs|⟨n2,_,hs⟩
  ·obtain⟨_,_,g2,Bq,_⟩:=hs w (hR w);rw[Bg]at Bq;simp[mk]at Bq
  ·obtain⟨g2,w2,es,Bq,⟨_,FD⟩,_⟩:=hs w (hR w);rw[Bg]at Bq;simp only[GStep.go.injEq]at Bq;obtain⟨_,_,rfl⟩:=Bq;exact(FD (mk .disable) (by simp)).2.1 rfl
 |succ m ih=>
  intro g w h1 h2;rcases Goes.cases h2 with hk|⟨m2,e,hk⟩
  ·obtain⟨g',Bg⟩:=hk w (hR w);rcases Goes.cases h1 with hs|⟨n2,_,hs⟩
   ·obtain⟨_,_,g2,Bq,_⟩:=hs w (hR w);rw[Bg]at Bq;simp[mk]at Bq
   ·obtain⟨g2,w2,es,Bq,⟨_,FD⟩,_⟩:=hs w (hR w);rw[Bg]at Bq;simp only[GStep.go.injEq]at Bq;obtain⟨_,_,rfl⟩:=Bq;exact(FD (mk .disable) (by simp)).2.1 rfl
  ·obtain rfl:m2=m:=by omega
   obtain⟨g',w',es,Bg,⟨rfl,rfl⟩,Ce⟩:=hk w (hR w);rcases Goes.cases h1 with hs|⟨n2,_,hs⟩
   ·obtain⟨_,_,g2,Bq,_⟩:=hs w' (hR w');rw[Bg]at Bq;simp at Bq
   ·obtain⟨g2,w2,es,Bq,_,Ee⟩:=hs w' (hR w');rw[Bg]at Bq;simp only[GStep.go.injEq]at Bq;obtain⟨rfl,rfl,_⟩:=Bq;exact ih Ee Ce
theorem follow{n':Nat}:∀{m:Nat}{g:JF}{w:JE},g.status=.running->Goes P false R (DWs Wg Own Rd C n k) (AtR0 P ty Wg C n OE k val) n' g w->Goes P false R DC0 (R0D P R Wg) m g w->Goes P false R DC0 (AtR0 P ty Wg C n OE k val) m g w:=by
 have Jph:∀{n' m:Nat}{g:JF}{w:JE},Goes P false R (DWs Wg Own Rd C n k) (AtR0 P ty Wg C n OE k val) n' g w->(∀w₁,R w w₁->R0D P R Wg g w₁)->Goes P false R DC0 (AtR0 P ty Wg C n OE k val) m g w:=by
  intro n' m g w h1 hk;rcases Goes.cases h1 with hs|⟨n2,_,hs⟩
  ·exact .stop hs
  ·exfalso;obtain⟨g',Bg,m2,hm⟩:=hk w (hR w);obtain⟨g2,w2,es,Bq,_,Ee⟩:=hs w (hR w);rw[Bg]at Bq;simp only[GStep.go.injEq]at Bq;obtain⟨rfl,rfl,_⟩:=Bq;exact Jpg hR Ee hm
 intro m
 induction m generalizing n' with
 |zero=>intro g w _ h1 h2;exact Jph h1 h2
 |succ m ih=>
  intro g w AB h1 h2;rcases Goes.cases h2 with hk|⟨m2,e,hk⟩
  ·exact Jph h1 hk
  ·obtain rfl:m2=m:=by omega
   refine .step AB λw₁ hw₁=>?_;obtain⟨g',w',es,Bg,hd,Ce⟩:=hk w₁ hw₁;rw[Bg];rw[goes_go];refine⟨hd,?_⟩;obtain⟨rfl,rfl⟩:=hd;rcases Goes.cases h1 with hs|⟨n2,_,hs⟩
   ·obtain⟨_,_,g2,Bq,_⟩:=hs w' hw₁;rw[Bg]at Bq;simp at Bq
   ·obtain⟨g2,w2,es,Bq,_,Ee⟩:=hs w' hw₁;rw[Bg]at Bq;simp only[GStep.go.injEq]at Bq;obtain⟨rfl,rfl,_⟩:=Bq;exact ih (Goes.running (λ_ _ x=>x.1) w' (hR w') Ee) Ee Ce
end
set_option maxHeartbeats 8000000 in
theorem Jvr{P:Program}(H:WgLib P L){Wg C n OE k:Nat}{val:JJ}{b₀:Frame}{a₀:Act}{ops₀:Array Oper}{i₀:Nat}{rest₀:List Nat}{k₀:List Item}{cs:List Frame}
  (w:JE) (hK:WgLive L.tWg Wg w/\Has C (k-1) val w) :
  Goes P false (RW L.tWg Wg C n OE (k-1)) DC0 (R0D P (RW L.tWg Wg C n OE (k-1)) Wg) 20 (G ((base L.add).at ⟨#[.pointer (some ⟨Wg,0,none⟩),.int .i64 (-1),JA,JA,JA,JA,JA,JA,JA,JA,JA,JA,JA,JA,JA,JA,JA,JA,JA,JA,JA,JA,JA,JA,JA,JA,JA,JA,JA,JA,JA,JA,JA,JA,JA,JA,JA,JA,JA,JA,JA,JA,JA,JA,JA,JA,JA,JA,JA,JA,JA,JA,JA,JA,JA,JA,JA,JA,JA,JA,JA,JA,JA,JA,JA,JA,JA,JA,JA,JA,JA,JA,JA,JA,JA,JA,JA,JA,JA,JA,JA,JA,JA,JA,JA,JA,JA,JA,JA,JA,JA,JA,JA,JA,JA,JA,JA,JA,JA,JA,JA,JA,JA,JA,JA,JA,JA,JA,JA,JA,JA,JA,JA,JA,JA,JA,JA],[]⟩ [.code (body_add L)]) (b₀.at a₀ (.inRegion ops₀ (i₀::rest₀)::k₀)::cs)) w:=by
 lib_facts
 simp only[body_add,addFn,Ar]
 u_c stepG_seq kn_rely hK
 u_cond true kn_rely hK
 u_c stepG_seq kn_rely hK
 u_c stepG_seq kn_rely hK
 u_reg kn_rely hK
 u_op kn_rely hK
 u_op kn_rely hK
 u_c stepG_region_end kn_rely hK
 u_cond true kn_rely hK
 u_reg kn_rely hK
 u_op kn_rely hK
 u_conv H.underlying_tWgP H.room_tWg (WgLive.cell0 hK.1).choose_spec kn_rely hK
 refine Goes.stop (λw₁ h₁=>?_);replace hK:=kn_rely hK h₁;clear h₁;refine⟨_,stepG_markAt .releaseMerge (by simp) rfl rfl (by k_ne) rfl H.f_relMerge (x_relMerge_n L) (x_relMerge_b L) (x_relMerge_x L) (x_relMerge_f L) (by simp[Act.eval,stA]),10,?_⟩
 walk_nrm
 u_c stepG_region_end kn_rely hK
 u_c stepG_seq kn_rely hK
 u_reg kn_rely hK
 refine Goes.stop (λw₁ h₁=>?_);exact⟨_,stepG_mark0 .disable (by simp) rfl rfl (by k_ne) rfl H.f_disable (x_disable_n L) (x_disable_b L) (x_disable_x L) (x_disable_f L)⟩
theorem J03g{P:Program}(H:WgLib P L){Wg C n OE k:Nat}{val:JJ}{c:Frame}{cs:List Frame}{qt:Nat}
  (hcm:c.mode=.returning) (hT:QuitsD P qt 0 (G c cs)) (w:JE) (hK:WgLive L.tWg Wg w/\Has C (k-1) val w) :
  Goes P false (RW L.tWg Wg C n OE (k-1)) DC0 (AtR0 P L.tWg Wg C n OE k val) 23 (G ((baseD L.done).at ⟨#[.pointer (some ⟨Wg,0,none⟩),JA,JA,JA],[]⟩ [.code (body_done L)]) (c::cs)) w:=by
 refine follow (λw=>RW.refl w) rfl (doneN (Own:=λ_ _=>False) (Rd:=λ_ _=>False) H hcm hT w hK) ?_
 lib_facts
 have hA:=@Jvr _ L P H Wg C n OE k val;simp only[body_done,body_add,doneFn,addFn,Ar]at hA ⊢
 u_reg kn_rely hK
 u_op kn_rely hK
 u_in kn_rely hK
 refine goes_call rfl rfl (by k_ne) rfl H.f_add (nm_add L) rfl ⟨by u_nil,?_⟩
 walk_nrmf addFn
 exact hA _ hK
end
end Go.Sim
namespace Go.Sim.Z
open Go Go.Proofs
abbrev link:Go.Conc.Lib.WgLink:={ add:=62,done:=64,wait:=66,relMerge:=80,disable:=81,enable:=82,inBubble:=83,associate:=84,fatal:=85,uOr:=86,uAdd:=87,raceRead:=88,uLoad:=89,uStore:=90,disassociate:=91,semrelease:=92,acquire:=95,isAssociated:=96,uCas:=97,raceWrite:=98,semacquire:=99,orU64:=123,addU64:=124,loadU64:=125,storeU64:=126,casU64:=127,tWgP:=159,tUP:=161,tAssoc:=163,tWg:=146,tAU:=144,tU64:=45,tUint:=129,tU32:=101,tPU32:=167,tPAU:=195,tPU64:=197,tNoCopy:=140,tANoCopy:=141,tAlign64:=142 }
theorem wgLib:Go.Conc.Lib.WgLib prog link:=
 ⟨func62,func64,func66,func80,func81,func82,func83,func84,func85,func86,func87,func88,func89,func90,func91,func92,func95,func96,func97,func98,func99,func123,func124,func125,func126,func127,underlying159,runUnderlying159,sizeOf159,isAgg159,zeroValue159,underlying161,runUnderlying161,sizeOf161,isAgg161,zeroValue161,underlying163,runUnderlying163,sizeOf163,isAgg163,zeroValue163,underlying146,runUnderlying146,sizeOf146,isAgg146,zeroValue146,underlying144,runUnderlying144,sizeOf144,isAgg144,zeroValue144,underlying45,runUnderlying45,sizeOf45,isAgg45,zeroValue45,underlying129,runUnderlying129,sizeOf129,isAgg129,zeroValue129,underlying101,runUnderlying101,sizeOf101,isAgg101,zeroValue101,underlying167,runUnderlying167,sizeOf167,isAgg167,zeroValue167,underlying195,runUnderlying195,sizeOf195,isAgg195,zeroValue195,underlying197,runUnderlying197,sizeOf197,isAgg197,zeroValue197,underlying0,runUnderlying0,sizeOf0,isAgg0,zeroValue0,underlying3,runUnderlying3,sizeOf3,isAgg3,zeroValue3,underlying4,runUnderlying4,sizeOf4,isAgg4,zeroValue4,underlying9,runUnderlying9,sizeOf9,isAgg9,zeroValue9,underlying20,runUnderlying20,sizeOf20,isAgg20,zeroValue20,underlying21,runUnderlying21,sizeOf21,isAgg21,zeroValue21,(by kernel_rfl),(by kernel_rfl)⟩
instance:Go.ConcR.Payload:=⟨138⟩
end Go.Sim.Z
namespace Go.Sim.Z
open Go Go.Proofs Go.Conc Go.ConcN Go.RowKit Go.Conc.Lib Go.ConcR.Gen Go.ConcN.Gen
open Go.ConcR (KK wgBlock WgAt stA smA rd wr mk Payload DC0)
def VD:Code->Code | .seq a _=>a|c=>c
def Nu:Code->Code | .seq _ b=>b|c=>c
noncomputable def b63:Code:=f63.body.getD .skip
noncomputable def c1:Code:=VD (Nu b63)
noncomputable def cM:Code:=VD (Nu (Nu b63))
def Vx:Oper:={ dst:=none,op:=.defer { callee:=.value (.func 64),args:=#[.tmp 0],argTypes:=#[146] },type:=0,pos:= "table.go:76",after:=#[],guard:=none }
def FV:Array Oper:=#[{ dst:=some 37,op:=.load 3 (.tmp 1),type:=3,pos:= "table.go:83",after:=#[],guard:=none },
 { dst:=some 38,op:=.move (.tmp 7),type:=70,pos:= "table.go:83",after:=#[],guard:=none },
 { dst:=some 39,op:=.indexAddr 138 (.tmp 6) (.tmp 37),type:=0,pos:= "table.go:83",after:=#[{ on:=0,ground:=.data },{ on:=0,ground:=.phase },{ on:=1,ground:=.phase }],guard:=none },
 { dst:=none,op:=.store 70 (.tmp 39) (.tmp 38),type:=0,pos:= "table.go:83",after:=#[{ on:=2,ground:=.data },{ on:=1,ground:=.data },{ on:=0,ground:=.phase },{ on:=1,ground:=.phase }],guard:=none }]
def c7:Code:=.region 7 FV false
theorem Jx8:b63=.seq (.region 0 #[Vx] false) (.seq c1 (.seq cM c7)):=by kernel_rfl
theorem Jx9:f63.body=some b63:=by kernel_rfl
theorem Jub(Sh:JB):GH (C1 Sh) 63:=⟨f63,by kernel_rfl,by kernel_rfl,by kernel_rfl⟩
theorem J03h(Sh:JB):Jj (C1 Sh) S1 63 c1=true:=by kernel_rfl
theorem J03i(Sh:JB):Jj (C1 Sh) S1 63 cM=true:=by kernel_rfl
noncomputable def bot:Frame:={ (default:Frame)with fn:=prog.funcs.size,defers:=[],mode:=.panicking [goexitEntry] }
theorem Jvs{Sh:JB}{E:J5}{own X:JB}{w0 w:JE}{t T:JC}{A1 A2:JC->JE->Prop}(hL:Link (C1 Sh) S1 E own X w0 w)(ht:TmR (C1 Sh) S1 63 E t T)
  (K1:∀τ,c1.wp prog (λe a w1=>e=.normal/\A1 a.tmps w1) ⟨t,[Jp]⟩ (w0.tp τ 0))
  (K2:∀t1 w1,A1 t1 w1->∀τ,cM.wp prog (λe a w2=>e=.normal/\A2 a.tmps w2) ⟨t1,[Jp]⟩ (w1.tp τ 0)) :
  Runs true prog false (λy=>∃E2 t2 w2 T2,Sub E E2/\Link (C1 Sh) S1 E2 y.own y.X w2 y.w/\TmR (C1 Sh) S1 63 E2 t2 T2/\(∀i,i=0\/i=6->T2[i]?=T[i]?)/\A2 t2 w2/\y.g=G ((baseD 63).at ⟨T2,[dcall 64 #[T.getD 0 JA]]⟩ [.code c7]) [bot])
   ⟨own,X,G ((baseD 63).at ⟨T,[]⟩ [.code b63]) [bot],w⟩:=by
 have hol:∀i,i=0\/i=6->((C1 Sh).hl (baseD 63).fn).contains i=true:=by rintro i (rfl|rfl)<;>rfl
 rw[Jx8];refine Runs.idle (λw1=>stepG_seq) rfl rfl rfl λwa ra=>?_;replace hL:=hL.rely ra;clear ra;refine Runs.idle (λw1=>stepG_region) rfl rfl rfl λwb rb=>?_;replace hL:=hL.rely rb;clear rb;have hd:∀w1,stepG prog false (G ((baseD 63).at ⟨T,[]⟩ (.inRegion #[Vx] (List.range (#[Vx]:Array Oper).size)::[.code (.seq c1 (.seq cM c7))])) [bot]) w1 =
   .go (G ((baseD 63).at ⟨T,[dcall 64 #[T.getD 0 JA]]⟩ (.inRegion #[Vx] []::[.code (.seq c1 (.seq cM c7))])) [bot]) w1 #[]:=λw1=>by
  have:=stepG_defer (P:=prog) (main:=false) (b:=baseD 63) (a:=⟨T,[]⟩) (k:=[.code (.seq c1 (.seq cM c7))]) (cs:=[bot]) (w:=w1) (ops:=#[Vx]) (i:=0) (rest:=[]) (o:=Vx) (f:=64) rfl rfl (by simp[baseD]) (show Vx.op=.defer { callee:=.value (.func 64),args:=#[.tmp 0],argTypes:=#[146] } from rfl);rw[show(List.range (#[Vx]:Array Oper).size)=[0]from rfl,this];simp[Act.put,Vx,Act.eval]
 refine Runs.idle hd rfl rfl rfl λwc rc=>?_;replace hL:=hL.rely rc;clear rc;refine Runs.idle (λw1=>stepG_region_end) rfl rfl rfl λwd rd=>?_;replace hL:=hL.rely rd;clear rd;refine Runs.idle (λw1=>stepG_seq) rfl rfl rfl λwe re=>?_;replace hL:=hL.rely re;clear re;refine(J8w (Jp5 Sh) (b:=baseD 63) (k:=[.code (.seq cM c7)]) (cs:=[bot]) (ds:=[dcall 64 #[T.getD 0 JA]]) (J03h Sh) (Jub Sh) rfl (by simp[C1,baseD]) (by simp[baseD]) hL ht K1 (λ_ _ _ h=>.inl h.1)).bind ?_;rintro⟨Zx,X1,g1,wf⟩ ⟨E1,a1,w1,T1,AU,MV,A8,Dw,⟨⟨_,jY⟩,Bf⟩|⟨⟨h0,_⟩,_⟩⟩
 rotate_left
 ·cases h0
 simp only at MV Bf;subst Bf;refine Runs.idle (λw1=>stepG_seq) rfl rfl rfl λwg rg=>?_;replace MV:=MV.rely rg;clear rg;refine(J8w (Jp5 Sh) (b:=baseD 63) (k:=[.code c7]) (cs:=[bot]) (ds:=[dcall 64 #[T.getD 0 JA]]) (J03i Sh) (Jub Sh) rfl (by simp[C1,baseD]) (by simp[baseD]) MV A8 (K2 a1.tmps w1 jY) (λ_ _ _ h=>.inl h.1)).mono ?_;rintro⟨own2,X2,g2,wh⟩ ⟨E2,a2,w2,T2,Bl,EJ,Bc,FI,⟨⟨_,hA2⟩,Bq⟩|⟨⟨h0,_⟩,_⟩⟩
 rotate_left
 ·cases h0
 exact⟨E2,a2.tmps,w2,T2,AU.trans Bl,EJ,Bc,λi hi=>(FI i (hol i hi)).trans (Dw i (hol i hi)),hA2,Bq⟩
theorem Jpi:(prog.funcs[(baseD 63).fn]?).any (·.norace)=false:=by kernel_rfl
section
variable{main:Bool}{b:Frame}{a:Act}{kk:List Item}{cs:List Frame}{w:JE}{ops:Array Oper}{i:Nat}{rest:List Nat}{o:Oper}
theorem Jgq{x y:Operand}(ho:ops[i]?=some o)(hw:Region.wanted o (yielded ops a.tmps)=true)(hk:b.kind≠.early)(Au:o.op=.store 70 x y)
  {ad:Addr} {v:Option Nat} {u:JJ} (hx:a.eval x=.pointer (some ad)) (hy:a.eval y=.map v) (hc:w.cell? ad=some u) (hz:w.frozen? ad=false) (hq:(prog.funcs[b.fn]?).any (·.norace)=false) :
  stepG prog main (G (b.at a (.inRegion ops (i::rest)::kk)) cs) w=.go (G (b.at (a.put o.dst JA) (.inRegion ops rest::kk)) cs) (w.setCell ad (.map v)) #[⟨.cell ad,true,false⟩]:=by
 have hr:(execOp a.eval o).run prog w=.ok .skip (w.setCell ad (.map v)):=by unfold execOp;simp only[Au,hx,hy];simp[go_sem,stored,hc,hz]
 have he:(execOp a.eval o).events prog w #[]=#[⟨.cell ad,true,false⟩]:=by unfold execOp;simp only[Au,hx,hy];simp[go_sem,events_store prog w #[] ad (.map v) .plain rfl,storedEv,hc,hz]
 rw[stepG_none ho hw hk hr];unfold listed;rw[he,seen_eq hq (by simp)]
theorem stepG_load3{x:Operand}(ho:ops[i]?=some o)(hw:Region.wanted o (yielded ops a.tmps)=true)(hk:b.kind≠.early)(Au:o.op=.load 3 x)
  {ad:Addr} {v:JJ} (hx:a.eval x=.pointer (some ad)) (hc:w.cell? ad=some v) (hq:(prog.funcs[b.fn]?).any (·.norace)=false) :
  stepG prog main (G (b.at a (.inRegion ops (i::rest)::kk)) cs) w=.go (G (b.at (a.put o.dst v) (.inRegion ops rest::kk)) cs) w #[⟨.cell ad,false,false⟩]:=by
 have hr:(execOp a.eval o).run prog w=.ok (.value v) w:=by unfold execOp;simp only[Au,hx];simp[go_sem,hc]
 have he:(execOp a.eval o).events prog w #[]=#[⟨.cell ad,false,false⟩]:=by unfold execOp;simp only[Au,hx];simp[go_sem,hc]
 rw[stepG_value ho hw hk hr];unfold listed;rw[he,seen_eq hq (by simp)]
end
theorem quitsTail(T:JC):QuitsD prog 2 0 (G { (baseD 63).at ⟨T,[]⟩ []with mode:=.returning } [bot]):=by
 refine QuitsD.ctl (g':=G bot []) rfl (λw=>?_) ?_
 ·simp[G,stepG,unwind,doReturn,results,Frame.at,baseD,bot,func63,f63,seen,GStep.after,goexitEntry]
 refine QuitsD.ctl (g':={ G bot []with status:=.finished }) rfl (λw=>?_) ⟨rfl,rfl⟩;simp[G,stepG,unwind,bot,goexitEntry,Frame.catches];rfl
theorem asideCell_set{w:JE}{N n j:Nat}(hp:PayAt N n w)(v:JJ):AsideCell N n j w (w.setCell ⟨N,j,none⟩ v):=by
 have hA:=aside_setCell w ⟨N,j,none⟩ v;obtain⟨arr,h1,h2⟩:=hp;have hb:(w.setCell ⟨N,j,none⟩ v).heap[N]?=some (.cells (arr.setIfInBounds j v) Payload.ety):=by rw[setCell_eq_setRow w N j arr _ (0,0) _ h1,setRow_heap w N _ _ _ _ h1]
 refine⟨hA.tape,hA.os,hA.output,hA.size,λb BR=>hA.block b BR,λ_=>⟨_,hb,by simpa using h2⟩,λi' Dn=>?_⟩;simp[World.cell?,hb,h1,AQ (Ne.symm Dn)]
theorem has_set{w:JE}{N n j:Nat}(hp:PayAt N n w)(hj:j<n)(v:JJ):Has N j v (w.setCell ⟨N,j,none⟩ v):=by
 obtain⟨arr,h1,h2⟩:=hp;have hb:(w.setCell ⟨N,j,none⟩ v).heap[N]?=some (.cells (arr.setIfInBounds j v) Payload.ety):=by rw[setCell_eq_setRow w N j arr _ (0,0) _ h1,setRow_heap w N _ _ _ _ h1]
 simp[Has,World.cell?,hb,h2,hj]
theorem cellAt{w:JE}{N n j:Nat}(h:PayAt N n w)(hj:j<n):∃u,w.cell? ⟨N,j,none⟩=some u/\w.frozen? ⟨N,j,none⟩=false:=by obtain⟨arr,h1,h2⟩:=h;exact⟨arr[j]'(by omega),by simp[World.cell?,h1,h2,hj],by simp[World.frozen?,h1]⟩
theorem Jdc{P:Program}{main:Bool}{R:JE->JE->Prop}{D D':JE->JE->Array Event->Prop}{Stop:JF->JE->Prop}(h:∀w w' es,D w w' es->D' w w' es) :
  ∀{n:Nat}{g:JF}{w:JE},Goes P main R D Stop n g w->Goes P main R D' Stop n g w
 |0,_,_,hg=>hg
 |n+1,g,w,hg=>by
  rcases hg with hs|⟨hr,hs⟩
  ·exact .inl hs
  refine .inr ⟨hr,λw1 r=>?_⟩;have:=hs w1 r;generalize stepG P main g w1=s at this ⊢;cases s<;>first|exact⟨h _ _ _ this.1,Jdc h this.2⟩|exact this.elim
theorem Jxa{H:Ph}{i:Nat}{T:JC}{r:Option Nat}(hP:H.P=prog)(aW:H.ty=146)(hn:H.n=4)(hi:i<4)(Aq:H.C≠H.Wg)
  (hT:T.size=40) (h37:T[37]?=some (.int .i64 i)) (h6:T[6]?=some (.pointer (some ⟨H.C,0,none⟩))) (h7:T[7]?=some (.map r)) {w3:JE} (hp:PayAt H.C H.n w3) (hg:WgLive H.ty H.Wg w3) :
  ∃k,Goes H.P false (RW H.ty H.Wg H.C H.n 0 (i+1-1)) (DT H (i+1)) (AtR0 H.P H.ty H.Wg H.C H.n 0 (i+1) (.map r)) k
   (G ((baseD 63).at ⟨T,[dcall 64 #[.pointer (some ⟨H.Wg,0,none⟩)]]⟩ (.inRegion FV [1,2,3]::[])) [bot]) w3:=by
 have dm:∀(w:JE),DT H (i+1) w w #[]:=λw=>⟨AsideCell.refl _ _ _ _,λe he=>by simp at he⟩;generalize hD:DT H (i+1)=DD at *;rw[hP,aW,hn];rw[hn]at hp;rw[aW]at hg;generalize hd:[dcall 64 #[.pointer (some ⟨H.Wg,0,none⟩)]]=ds;refine⟨6+23,?_⟩;refine Goes.step rfl λw4 q4=>?_;replace hp:=q4.pay hp;replace hg:=q4.live hg;have st1:stepG prog false (G ((baseD 63).at ⟨T,ds⟩ (.inRegion FV [1,2,3]::[])) [bot]) w4 =
   .go (G ((baseD 63).at ⟨T.setIfInBounds 38 (.map r),ds⟩ (.inRegion FV [2,3]::[])) [bot]) w4 #[]:=by
  have hr:(execOp (Act.eval ⟨T,ds⟩) FV[1]).run prog w4=.ok (.value (.map r)) w4:=by simp[execOp,FV,Act.eval,go_sem,h7]
  have he:listed prog (baseD 63).fn ⟨T,ds⟩ FV[1] w4=#[]:=by
   unfold listed;rw[show(execOp (Act.eval ⟨T,ds⟩) FV[1]).events prog w4 #[]=#[]from by simp[execOp,FV,go_sem],seen_none]
  rw[stepG_value (o:=FV[1]) rfl rfl (by simp[baseD]) hr,he];rfl
 rw[st1];refine⟨dm _,?_⟩;refine Goes.step rfl λw5 q5=>?_;replace hp:=q5.pay hp;replace hg:=q5.live hg;have st2:stepG prog false (G ((baseD 63).at ⟨T.setIfInBounds 38 (.map r),ds⟩ (.inRegion FV [2,3]::[])) [bot]) w5 =
   .go (G ((baseD 63).at ⟨(T.setIfInBounds 38 (.map r)).setIfInBounds 39 (.pointer (some ⟨H.C,i,none⟩)),ds⟩ (.inRegion FV [3]::[])) [bot]) w5 #[]:=by
  have hr:(execOp (Act.eval ⟨T.setIfInBounds 38 (.map r),ds⟩) FV[2]).run prog w5=.ok (.value (.pointer (some ⟨H.C,i,none⟩))) w5:=by simp[execOp,FV,Act.eval,go_sem,h6,h37,FC];intro h4;omega
  have he:listed prog (baseD 63).fn ⟨T.setIfInBounds 38 (.map r),ds⟩ FV[2] w5=#[]:=by
   unfold listed;rw[show(execOp (Act.eval ⟨T.setIfInBounds 38 (.map r),ds⟩) FV[2]).events prog w5 #[]=#[]from by simp[execOp,FV,Act.eval,go_sem,h6,h37,FC];exact events_indexAt_array 138 _ 4 _ _ _ underlying138 ⟨by omega,by omega⟩,seen_none]
  rw[stepG_value (o:=FV[2]) rfl rfl (by simp[baseD]) hr,he];rfl
 rw[st2];refine⟨dm _,?_⟩;refine Goes.step rfl λw6 q6=>?_;replace hp:=q6.pay hp;replace hg:=q6.live hg;obtain⟨u,hu1,bW⟩:=cellAt hp hi;have iO:=hp;rw[Jgq (ad:=⟨H.C,i,none⟩) (v:=r) (o:=FV[3]) rfl rfl (by simp[baseD]) rfl (by simp[FV,Act.eval,hT]) (by simp[FV,Act.eval,hT]) hu1 bW Jpi];have hK:=And.intro (let⟨st,sm,h⟩:=hg;(⟨st,sm,h.of_block ((aside_setCell _ ⟨H.C,i,none⟩ (.map r)).block H.Wg (by simpa using Ne.symm Aq))⟩:WgLive 146 H.Wg _)) (has_set hp hi (.map r));clear hp hg hu1 bW;refine⟨by subst hD;exact⟨asideCell_set (hn.symm▸iO) _,λe he=>by simpa using he⟩,?_⟩;refine Goes.step rfl λw7 q7=>?_;replace hK:=And.intro (q7.live hK.1) (q7.cell.trans hK.2);rw[stepG_region_end];refine⟨dm _,?_⟩;refine Goes.step rfl λw8 q8=>?_;replace hK:=And.intro (q8.live hK.1) (q8.cell.trans hK.2);rw[stepG_end];refine⟨dm _,?_⟩;refine Goes.step rfl λw9 q9=>?_;replace hK:=And.intro (q9.live hK.1) (q9.cell.trans hK.2);rw[stepG_unwind_enter (show Act.defers _=dcall 64 #[.pointer (some ⟨H.Wg,0,none⟩)]::[]from hd.symm) func64 (nm_done link) rfl];refine⟨dm _,?_⟩;have hA:=@J03g _ link prog wgLib H.Wg H.C 4 0 (i+1) (.map r);exact Jdc (λw w' es h=>by obtain⟨rfl,rfl⟩:=h;exact dm _) (hA rfl (quitsTail _) _ hK)
theorem Jvt{H:Ph}{i s:Nat}{own X:JB}{w:JE}{T:JC}{r:Option Nat}(hP:H.P=prog)(aW:H.ty=146)(hn:H.n=4)(hi:i<4)(Aq:H.C≠H.Wg)
  (hT:T.size=40) (h1:T[1]?=some (.pointer (some ⟨s,0,none⟩))) (h6:T[6]?=some (.pointer (some ⟨H.C,0,none⟩))) (h7:T[7]?=some (.map r))
  (hs:w.cell? ⟨s,0,none⟩=some (.int .i64 i)) (hX:X s) (hQ:∀w1,Cb true X w w1->H.Q i own X (.map r) w1) :
  Runs true prog false (SE H i) ⟨own,X,G ((baseD 63).at ⟨T,[dcall 64 #[.pointer (some ⟨H.Wg,0,none⟩)]]⟩ [.code c7]) [bot],w⟩:=by
 refine Runs.idle (λw1=>stepG_region) rfl rfl rfl λwa ra=>?_;have hsa:wa.cell? ⟨s,0,none⟩=some (.int .i64 i):=(DX (ra.blocks s hX)).trans hs;have hQa:∀w1,Cb true X wa w1->H.Q i own X (.map r) w1:=λw1 r1=>hQ w1 (ra.trans r1);clear hs hQ ra;have e1:T.getD 1 JA=.pointer (some ⟨s,0,none⟩):=by rw[BH,h1];rfl
 have e6:T.getD 6 JA=.pointer (some ⟨H.C,0,none⟩):=by rw[BH,h6];rfl
 have e7:T.getD 7 JA=.map r:=by rw[BH,h7];rfl
 have hl:∀w1,Cb true X wa w1->stepG prog false (G ((baseD 63).at ⟨T,[dcall 64 #[.pointer (some ⟨H.Wg,0,none⟩)]]⟩ (.inRegion FV (List.range FV.size)::[])) [bot]) w1 =
   .go (G ((baseD 63).at ⟨T.setIfInBounds 37 (.int .i64 i),[dcall 64 #[.pointer (some ⟨H.Wg,0,none⟩)]]⟩ (.inRegion FV [1,2,3]::[])) [bot]) w1 #[⟨.cell ⟨s,0,none⟩,false,false⟩]:=by
  intro w1 r1;have hc:=(DX (r1.blocks s hX)).trans hsa;have:=stepG_load3 (main:=false) (b:=baseD 63) (a:=⟨T,[dcall 64 #[.pointer (some ⟨H.Wg,0,none⟩)]]⟩) (kk:=[]) (cs:=[bot]) (w:=w1) (ops:=FV) (i:=0) (rest:=[1,2,3]) (o:=FV[0]) (x:=.tmp 1) (ad:=⟨s,0,none⟩) (v:=.int .i64 i) rfl rfl (by simp[baseD]) rfl e1 hc Jpi;rw[show List.range FV.size=[0,1,2,3]from rfl,this];rfl
 have gr:∀(Y:JB)(w1:JE),grown Y w1 w1=Y:=λY w1=>by funext b;simp only[grown,eq_iff_iff];exact⟨λh=>h.elim id λh=>by omega,.inl⟩
 refine .step (λw1=>⟨own,X,_,w1⟩) (λw1 r1=>⟨⟨_,hl w1 r1,⟨Ad _,λ_ _ _=>rfl,rfl,rfl,Ad _,λe he=>?_⟩⟩,rfl,rfl,rfl,(gr own w1).symm,(gr X w1).symm⟩) λw1 r1=>.stop λw2 r2=>?_
 ·simp only[Array.mem_singleton]at he;subst he;rw[gr,gr];exact⟨⟨hX,λh=>by cases h⟩,rfl⟩
 refine⟨.map r,hQa w2 (r1.trans r2),λw3 hp hg=>?_⟩;exact Jxa (T:=T.setIfInBounds 37 (.int .i64 i)) hP aW hn hi Aq (by simpa using hT) (by simp[hT]) (by simp[h6]) (by simp[h7]) hp hg
end Go.Sim.Z
section
namespace Go.Sim
open Go Go.Conc
def Jml(C:Cx)(E:J5):Obj->Prop
 |.cells c _ fz=>fz=(0,0)/\AR C E c c
 |.map es _=>EsR C E es es
 |_=>False
structure Jrv(C:Cx)(Sh:JB)(w:JE):Prop where
 hnd:Sh C.P.globals.size
 at_:∀b,Sh b->C.P.globals.size<=b/\∃o,w.heap[b]?=some o/\Jml C (idE Sh) o
def Jxb:Obj->Obj
 |.cells c el _=>.cells c el (0,c.size)
 |o=>o
open Classical in
noncomputable def frz(Sh:JB)(w:JE):JE:={ w with heap:=w.heap.mapIdx λb o=>if Sh b then Jxb o else o }
section
variable{Sh:JB}{w:JE}
theorem Jcf:(frz Sh w).heap.size=w.heap.size:=by simp[frz]
theorem Jff{b:Nat}(h:¬Sh b):(frz Sh w).heap[b]?=w.heap[b]?:=by simp only[frz,Array.getElem?_mapIdx];cases w.heap[b]?<;>simp[h]
theorem Jdd{b:Nat}(h:Sh b):(frz Sh w).heap[b]?=(w.heap[b]?).map Jxb:=by simp only[frz,Array.getElem?_mapIdx];cases w.heap[b]?<;>simp[h]
theorem Jiw(a:Addr):(frz Sh w).cell? a=w.cell? a:=by
 by_cases h:Sh a.block
 ·simp only[World.cell?,Jdd h];cases w.heap[a.block]? with
  |none=>rfl
  |some o=>cases o<;>rfl
 ·simp only[World.cell?,Jff h]
theorem Jvu{b:Nat}{es:Array MapEntry}{ck:Nat}(h:w.heap[b]?=some (.map es ck)):(frz Sh w).heap[b]?=some (.map es ck):=by
 by_cases hs:Sh b
 ·rw[Jdd hs,h];rfl
 ·rw[Jff hs,h]
end
theorem Jmm{C:Cx}{S:Kn}{X:JB}{w:JE}(Af:C.st=true)(hgs:S.gs=[])(h:Jrv C C.Sh w)(hX:∀b,C.Sh b->X b):Link C S (idE C.Sh) (λ_=>False) X (frz C.Sh w) w:=by
 have lt:∀b,C.Sh b->b<w.heap.size:=λb hb=>by obtain⟨_,o,ho,_⟩:=h.at_ b hb;exact(BQ.1 ho).1
 refine⟨⟨rfl,λb b' ⟨e,hb⟩=>?_,λb c c' h1 h2=>h1.1.symm.trans h2.1,λb c b2 h1 h2=>h1.1.trans h2.1.symm,λb hb=>?_,λb b' o o' ⟨e,hb⟩ h1 h2=>?_,λe=>(by rw[Af]at e;cases e),λe=>(by rw[Af]at e;cases e),λ_ b b' ⟨e,hb⟩=>?_⟩,⟨rfl,h.hnd⟩,λg hg=>(by simp[hgs]at hg),λb b' ⟨e,hb⟩=>?_⟩
 ·subst e;rw[Jcf];exact⟨lt b hb,lt b hb⟩
 ·rw[Jcf];exact lt b hb
 ·subst e;obtain⟨_,o2,ho,hs⟩:=h.at_ b hb;rw[ho]at h2;cases h2;rw[Jdd hb,ho]at h1;cases h1;cases o' with
  |cells c el fz=>
   obtain⟨hz,hc⟩:=hs;exact⟨c,fz,rfl,hc,λ_=>⟨rfl,hz⟩,λhn=>absurd hb hn⟩
  |map es ck=>exact⟨es,rfl,hs⟩
  |_=>exact hs.elim
 ·subst e;exact⟨(h.at_ b hb).1,(h.at_ b hb).1⟩
 ·subst e;exact⟨hX _ hb,λhn=>absurd hb hn⟩
end Go.Sim
namespace Go.Sim.Z
open Go Go.Proofs Go.Conc Go.ConcN Go.RowKit Go.Conc.Lib Go.ConcR.Gen Go.ConcN.Gen
open Go.ConcR (KK wgBlock WgAt stA smA rd wr mk Payload DC0)
def ptr(b:Nat):JJ:=.pointer (some ⟨b,0,none⟩)
def Gg(wg s keys passes mask c parts:Nat):JC:=#[ptr wg,ptr s,ptr keys,ptr passes,ptr mask,ptr c,ptr parts]
def T63(wg s keys passes mask c parts:Nat):JC:=Gg wg s keys passes mask c parts++Array.replicate 33 JA
def gZ(wg s keys passes mask c parts:Nat):Deferred:={ target:=.fn (.func 63) (Gg wg s keys passes mask c parts),args:=#[] }
theorem born_step(wg s keys passes mask c parts:Nat)(w:JE):stepG prog false (born prog (gZ wg s keys passes mask c parts)) w =
  .go (G ((baseD 63).at ⟨T63 wg s keys passes mask c parts,[]⟩ [.code b63]) [bot]) w #[]:=by
 have hn:¬f63.name= "runtime.NumGoroutine":=by
  have:(f63.name == "runtime.NumGoroutine")=false:=by kernel_rfl
  simpa using this
 have ht:f63.ntmps=40:=by kernel_rfl
 simp[born,gZ,stepG,unwind,callDeferred,invoke,callFunc,func63,seen,GStep.after,G,Frame.enter,Frame.at,baseD,bot,T63,Gg,hn,Jx9,ht]
theorem Jpj{Sh:JB}{wg s keys passes mask c parts:Nat}(h1:Sh s)(h2:Sh keys)(h3:Sh passes)(h4:Sh mask)(h5:Sh c) :
  TmR (C1 Sh) S1 63 (idE Sh) (T63 wg s keys passes mask c parts) (T63 wg s keys passes mask c parts):=by
 have Ae:(T63 wg s keys passes mask c parts).size=40:=by simp[T63,Gg]
 have big:∀i x,(T63 wg s keys passes mask c parts)[i]?=some x->7<=i->x=JA:=by
  intro i x hx h7;rw[T63,Array.getElem?_append_right (by simpa[Gg]using h7),Array.getElem?_replicate]at hx;split at hx
  ·exact(Aa hx).symm
  ·cases hx
 have g1:(T63 wg s keys passes mask c parts)[1]?=some (ptr s):=by simp[T63,Gg]
 have g2:(T63 wg s keys passes mask c parts)[2]?=some (ptr keys):=by simp[T63,Gg]
 have g3:(T63 wg s keys passes mask c parts)[3]?=some (ptr passes):=by simp[T63,Gg]
 have g4:(T63 wg s keys passes mask c parts)[4]?=some (ptr mask):=by simp[T63,Gg]
 have g5:(T63 wg s keys passes mask c parts)[5]?=some (ptr c):=by simp[T63,Gg]
 generalize T63 wg s keys passes mask c parts=T at *;refine⟨rfl,λi x x' hi hx Ag=>?_,λi x hi hx=>?_⟩
 ·rw[hx]at Ag;cases Ag;by_cases h7:7<=i
  ·rw[big i x hx h7];exact VR.undef
  ·have hl:i=0\/i=1\/i=2\/i=3\/i=4\/i=5\/i=6:=by omega
   rcases hl with rfl|rfl|rfl|rfl|rfl|rfl|rfl
   ·rw[show((C1 Sh).hl 63).contains 0=true from rfl]at hi;exact absurd hi (by simp)
   ·rw[g1]at hx;obtain rfl:=Aa hx;exact .ptr 0 none ⟨rfl,h1⟩
   ·rw[g2]at hx;obtain rfl:=Aa hx;exact .ptr 0 none ⟨rfl,h2⟩
   ·rw[g3]at hx;obtain rfl:=Aa hx;exact .ptr 0 none ⟨rfl,h3⟩
   ·rw[g4]at hx;obtain rfl:=Aa hx;exact .ptr 0 none ⟨rfl,h4⟩
   ·rw[g5]at hx;obtain rfl:=Aa hx;exact .ptr 0 none ⟨rfl,h5⟩
   ·rw[show((C1 Sh).hl 63).contains 6=true from rfl]at hi;exact absurd hi (by simp)
 ·have Dn:i=7\/i=9\/i=23:=by simpa[S1]using hi
  rw[big i x hx (by omega)];exact⟨λr h=>(by cases h),λh=>(by cases h)⟩
theorem worker{H:Ph}(hP:H.P=prog)(aW:H.ty=146)(hn:H.n=4)(Aq:H.C≠H.Wg){Sh X0:JB}(hX:∀b,Sh b->X0 b){i s keys passes mask c:Nat}(hi:i<4){w:JE}
  (hSh:Jrv (C1 Sh) Sh w) (h1:Sh s) (h2:Sh keys) (h3:Sh passes) (h4:Sh mask) (h5:Sh c) {A:JC->JE->Prop} {R:Option Nat->JE->Prop}
  (K1:∀τ,c1.wp prog (λe a w1=>e=.normal/\A a.tmps w1) ⟨T63 H.Wg s keys passes mask c H.C,[Jp]⟩ ((frz Sh w).tp τ 0))
  (K2:∀t1 w1,A t1 w1->∀τ,cM.wp prog (λe a w2=>e=.normal/\a.tmps.size=40/\a.tmps[1]?=some (ptr s)/\w2.cell? ⟨s,0,none⟩=some (.int .i64 i)/\∃r,a.tmps[7]?=some (.map r)/\R r w2) ⟨t1,[Jp]⟩ (w1.tp τ 0))
  (hQ:∀E2 own X w2 w' r r',Sub (idE Sh) E2->Link (C1 Sh) S1 E2 own X w2 w'->VR (C1 Sh) E2 (.map r) (.map r')->R r w2->H.Q i own X (.map r') w') :
  Runs true prog false (SE H i) ⟨λ_=>False,X0,born prog (gZ H.Wg s keys passes mask c H.C),w⟩:=by
 have Ae:(T63 H.Wg s keys passes mask c H.C).size=40:=by simp[T63,Gg]
 refine Runs.idle (λw1=>born_step _ _ _ _ _ _ _ w1) rfl rfl rfl λwa ra=>?_;have hL:=(Jmm (S:=S1) (C:=C1 Sh) rfl rfl hSh hX).rely ra;refine(Jvs (A2:=λt w2=>t.size=40/\t[1]?=some (ptr s)/\w2.cell? ⟨s,0,none⟩=some (.int .i64 i)/\∃r,t[7]?=some (.map r)/\R r w2) hL (Jpj h1 h2 h3 h4 h5) K1 K2).bind ?_;rintro⟨own,X,g,wz⟩ ⟨E2,t2,w2,T2,Bl,EJ,Bc,FI,⟨D7,A8,hsv,r,hr,hR⟩,hg⟩;simp only at EJ hg;subst hg;have hE:E2 s s:=Bl _ _ ⟨rfl,h1⟩;have oO:T2.size=t2.size:=Bc.size.symm;have EL:∀(i:Nat)(x:JJ),((C1 Sh).hl 63).contains i=false->t2[i]?=some x->∃x',T2[i]?=some x'/\VR (C1 Sh) E2 x x':=by intro i x hi hx;have Ac:i<t2.size:=(BQ.1 hx).1;have h':T2[i]?=some (T2[i]'(by omega)):=BJ _;exact⟨_,h',Bc.at_ i x _ hi hx h'⟩
 obtain⟨x1,Fe,YH⟩:=EL 1 _ rfl A8;obtain⟨x7,iV,hv7⟩:=EL 7 _ rfl hr;have e1:x1=ptr s:=by
  cases YH with
  |ptr o p h=>rw[EJ.wr.fn _ _ _ h hE];rfl
 subst e1;have hm:∃r',x7=.map r':=by
  cases hv7 with
  |Na=>exact⟨_,rfl⟩
  |map h=>exact⟨_,rfl⟩
 obtain⟨r',rfl⟩:=hm;have hc:∃v,wz.cell? ⟨s,0,none⟩=some v/\VR (C1 Sh) E2 (.int .i64 i) v:=EJ.wr.cell hE hsv;obtain⟨v,hv,dD⟩:=hc;cases dD;have g0:(T63 H.Wg s keys passes mask c H.C).getD 0 JA=ptr H.Wg:=by simp[T63,Gg]
 have g6:(T63 H.Wg s keys passes mask c H.C)[6]?=some (ptr H.C):=by simp[T63,Gg]
 rw[g0];have hszT:T2.size=40:=oO.trans D7;refine Jvt hP aW hn hi Aq hszT Fe ((FI 6 (.inr rfl)).trans g6) iV hv (EJ.rng _ _ hE).1 λw1 r1=>?_;exact hQ E2 own X w2 w1 r r' Bl (EJ.rely r1) hv7 hR
end Go.Sim.Z
end
namespace Go.Sim
open Go Go.Conc
open Go.ConcN (sumTo upd upd_same upd_ne sumTo_upd)
theorem Jab{P:Program}{W:JB}{a a':JF}{w0:JE}{f:JE->JE}(hr:a.status=.running)(hs:∀d,stepG P true a (w0.at d)=.go a' (f (w0.at d)) #[])(hz:∀d,w0.heap.size<=(f (w0.at d)).heap.size) :
  ∀{gs:Array JF}{w:JE}{sl:Option (Nat × Nat)}{t:Trace}{q:Nat->Nat},gs[0]?=some a->Cmp P W gs w t q->AtRel w0 w ->
   ∃(N:Nat)(BN:Array JF)(d:Nat)(sl':Option (Nat × Nat))(t':Trace)(q':Nat->Nat),
    runNT P N (crowd gs w sl) t=(.next (crowd BN (f (w0.at d)) sl'),t')/\BN.size=gs.size/\BN[0]?=some a'/\Cmp P W BN (f (w0.at d)) t' q'/\∀op∈t',op.act.low w0.heap.size:=by
 intro gs w sl t q h0 hC hw;generalize hM:sumTo gs.size q=M
 induction M using Nat.strongRecOn generalizing gs w sl t q with
 |_ M ihM=>
 obtain⟨d0,rfl⟩:=hw;obtain⟨i,g,d,sl',hi,hg,Af⟩:=crowd_pick (P:=P) (w:=w0.at d0) (sl:=sl) (Jgb h0 hr hC.lv) ⟨0,a,h0,hr⟩;rcases Nat.eq_zero_or_pos i with rfl|Bj
 ·obtain rfl:g=a:=by rw[h0]at hi;exact(Aa hi).symm
  rw[show(w0.at d0).at d=w0.at d from rfl]at Af;have ER:=runT_crowd_go (P:=P) (sl:=sl') (i:=0) hi (show stepG P (0 == 0) g _=_ from hs d);have PW:=hC.own (a':=a') (es:=#[]) (w':=f (w0.at d)) h0 (hz d) (own:=λ_=>False) (X:=λ_=>False) (λe he=>by simp at he) (λ_ _ h=>h) (λ_ h=>h.elim);have Ac:0<gs.size:=(BQ.1 h0).1;refine⟨1,_,d,sl',_,q,by simp only[runNT,Af];exact(by rw[ER]),by simp,by simp[Ac],PW,λop Au=>?_⟩;rcases Array.mem_append.1 Au with h1|h1
  ·exact hC.past.seen op h1
  ·obtain⟨e,he,rfl⟩:=Conc.mem_ofEvents h1;simp at he
 ·have kN:(i == 0)=false:=by simp;omega
  have Ac:i<gs.size:=(BQ.1 hi).1;cases TD:q i with
  |zero=>
   have hq:=hC.lv.old i g Bj hi;rw[TD]at hq;rw[hq.1]at hg;cases hg
  |succ n=>
   obtain⟨g',es,hgo,PW⟩:=hC.slip hi Bj hg d TD;have ER:=runT_crowd_go (P:=P) (sl:=sl') (i:=i) hi (by rw[kN];exact hgo);have Ae:((gs.map (woken P g g' ((w0.at d0).at d))).setIfInBounds i g').size=gs.size:=by simp
   have hsum:sumTo gs.size (upd q i n)+(n+1)=sumTo gs.size q+n:=by have:=sumTo_upd q n id Ac;simpa[TD]using this
   obtain⟨N,BN,d',Rk,t',q',O3,AU,nK,YG,hlo⟩:=ihM (sumTo gs.size (upd q i n)) (by omega) (gs:=(gs.map (woken P g g' ((w0.at d0).at d))).setIfInBounds i g') (w:=(w0.at d0).at d) (sl:=sl') (t:=_) (q:=upd q i n)
    (by rw[AQ (by omega),Array.getElem?_map,h0];simp[woken_run hr])
    PW ⟨d,rfl⟩ (by rw[Ae])
   exact⟨N+1,BN,d',Rk,t',q',by simp only[runNT,Af,ER];exact O3,AU.trans Ae,nK,YG,hlo⟩
structure Kept(W W':JB)(w w':JE):Prop where
 le:∀b,W b->W' b
 keep:∀b,W b->w'.heap[b]?=w.heap[b]?
 os:w'.os=w.os
 out:w'.output=w.output
theorem Kept.refl{W:JB}{w:JE}:Kept W W w w:=⟨λ_ h=>h,λ_ _=>rfl,rfl,rfl⟩
theorem Kept.trans{W W1 W2:JB}{w w1 w2:JE}(h:Kept W W1 w w1)(k:Kept W1 W2 w1 w2):Kept W W2 w w2:=
 ⟨λb hb=>k.le b (h.le b hb),λb hb=>(k.keep b (h.le b hb)).trans (h.keep b hb),k.os.trans h.os,k.out.trans h.out⟩
theorem Jix{P:Program}{W0 W Z:JB}{Stop:Sit->Prop}{y:Sit}(hR:Runs false P true Stop y) :
  ∀{gs:Array JF}{w:JE}{sl:Option (Nat × Nat)}{t:Trace}{q:Nat->Nat},gs[0]?=some y.g->y.g.status=.running->Cmp P W0 gs w t q->AtRel y.w w->(∀b,W0 b->¬y.X b)->(∀b,W b->b<y.w.heap.size/\¬y.own b)->(∀b,Z b->b<y.w.heap.size/\¬y.X b)->(∀b,y.X b->b<y.w.heap.size) ->
   ∃(N:Nat)(BN:Array JF)(y':Sit)(sl':Option (Nat × Nat))(t':Trace)(q':Nat->Nat),
    runNT P N (crowd gs w sl) t=(.next (crowd BN y'.w sl'),t')/\BN.size=gs.size/\BN[0]?=some y'.g/\Stop y'/\Cmp P W0 BN y'.w t' q'/\(∀b,W b->¬y'.own b)/\(∀b,Z b->¬y'.X b)/\(∀b,y'.X b->b<y'.w.heap.size)/\Kept W W y.w y'.w/\y.w.heap.size<=y'.w.heap.size:=by
 induction hR with
 |@stop y h=>
  intro gs w sl t q h0 hr hC hw hd ho hz hX;obtain⟨d,rfl⟩:=hw;exact⟨0,gs,{ y with w:=y.w.at d },sl,t,q,rfl,rfl,h0,h _ (.at d),hC,λb hb=>(ho b hb).2,λb hb=>(hz b hb).2,hX,⟨λ_ h=>h,λ_ _=>rfl,rfl,rfl⟩,Ad _⟩
 |@step y f h k ih=>
  intro gs w sl t q h0 hr hC hw hd ho hz hX;generalize hM:sumTo gs.size q=M
  induction M using Nat.strongRecOn generalizing gs w sl t q with
  |_ M ihM=>
  obtain⟨d0,rfl⟩:=hw;obtain⟨i,g,d,sl',hi,hg,Af⟩:=crowd_pick (P:=P) (w:=y.w.at d0) (sl:=sl) (Jgb h0 hr hC.lv) ⟨0,y.g,h0,hr⟩;rcases Nat.eq_zero_or_pos i with rfl|Bj
  ·obtain rfl:g=y.g:=by rw[h0]at hi;exact(Aa hi).symm
   have hrel:Cb false y.X y.w ((y.w.at d0).at d):=.at d;have Bf:=h _ hrel;obtain⟨es,hgo,hG⟩:=Bf.step;have ER:=runT_crowd_go (P:=P) (sl:=sl') (i:=0) hi (show stepG P (0 == 0) y.g _=_ from hgo);have Ac:0<gs.size:=(BQ.1 h0).1;have TG:∀b,W0 b->¬(f ((y.w.at d0).at d)).X b:=by
    intro b hb;rw[Bf.X];rintro(hx|⟨hx,_⟩)
    ·exact hd b hb hx
    ·have:=hC.low b hb;exact Nat.lt_irrefl _ (Es this hx)
   have hX':∀b,(f ((y.w.at d0).at d)).X b->b<(f ((y.w.at d0).at d)).w.heap.size:=by
    intro b;rw[Bf.X];rintro(hx|⟨_,hx⟩)
    ·exact Es (hX b hx) hG.size
    ·exact hx
   have DZ:∀b,W b->b<(f ((y.w.at d0).at d)).w.heap.size/\¬(f ((y.w.at d0).at d)).own b:=by
    intro b hb;obtain⟨h1,h2⟩:=ho b hb;refine⟨Es h1 hG.size,?_⟩;rw[Bf.own];rintro(hx|⟨hx,_⟩)
    ·exact h2 hx
    ·exact Nat.lt_irrefl _ (Es h1 hx)
   have Ol:∀b,Z b->b<(f ((y.w.at d0).at d)).w.heap.size/\¬(f ((y.w.at d0).at d)).X b:=by
    intro b hb;obtain⟨h1,h2⟩:=hz b hb;refine⟨Es h1 hG.size,?_⟩;rw[Bf.X];rintro(hx|⟨hx,_⟩)
    ·exact h2 hx
    ·exact Nat.lt_irrefl _ (Es h1 hx)
   have hK:Kept W W y.w (f ((y.w.at d0).at d)).w:=⟨λ_ h=>h,λb hb=>hG.keep b (ho b hb).1 (ho b hb).2,hG.os,hG.out⟩;have PW:=hC.own (a':=(f ((y.w.at d0).at d)).g) h0 hG.size hG.evs (λb hb=>by have:=TG b hb;rw[Bf.X]at this;exact this) (λb hb=>hX' b (by rw[Bf.X];exact hb));obtain⟨N,BN,y',Rk,t',q',O3,AU,nK,hS,YG,ho1,Dl,jT,hK1,Bl⟩:=ih _ hrel (sl:=sl') (by simp[Ac]) Bf.run PW ⟨_,rfl⟩ TG DZ Ol hX';exact⟨N+1,BN,y',Rk,t',q',by simp only[runNT,Af,ER];exact O3,AU.trans (by simp),nK,hS,YG,ho1,Dl,jT,hK.trans hK1,BL hG.size Bl⟩
  ·have kN:(i == 0)=false:=by simp;omega
   have Ac:i<gs.size:=(BQ.1 hi).1;cases TD:q i with
   |zero=>
    have hq:=hC.lv.old i g Bj hi;rw[TD]at hq;rw[hq.1]at hg;cases hg
   |succ n=>
    obtain⟨g',es,hgo,PW⟩:=hC.slip hi Bj hg d TD;have ER:=runT_crowd_go (P:=P) (sl:=sl') (i:=i) hi (by rw[kN];exact hgo);have Ae:((gs.map (woken P g g' ((y.w.at d0).at d))).setIfInBounds i g').size=gs.size:=by simp
    have hsum:sumTo gs.size (upd q i n)+(n+1)=sumTo gs.size q+n:=by have:=sumTo_upd q n id Ac;simpa[TD]using this
    obtain⟨N,BN,y',Rk,t',q',O3,AU,nK,hS,YG,bG,jT⟩:=ihM (sumTo gs.size (upd q i n)) (by omega) (gs:=(gs.map (woken P g g' ((y.w.at d0).at d))).setIfInBounds i g') (w:=(y.w.at d0).at d) (sl:=sl') (t:=_) (q:=upd q i n)
     (by rw[AQ (by omega),Array.getElem?_map,h0];simp[woken_run hr])
     PW ⟨d,rfl⟩ (by rw[Ae])
    exact⟨N+1,BN,y',Rk,t',q',by simp only[runNT,Af,ER];exact O3,AU.trans Ae,nK,hS,YG,bG,jT⟩
def wgT:JH:=146
def Shy(W0 W:JB)(w:JE):Prop:=∀b,W0 b->W b/\∃a z,w.heap[b]?=some (.cells a wgT z)
def Reach(P:Program)(Post:(JB)->JF->JE->Prop)(W:JB)(g:JF)(w:JE):Prop:=
 ∀(gs:Array JF)(sl:Option (Nat × Nat))(t:Trace)(q:Nat->Nat)(W0:JB),Shy W0 W w->(∀b,W b->b<w.heap.size)->gs[0]?=some g->Cmp P W0 gs w t q ->
  ∃(N:Nat)(BN:Array JF)(w':JE)(sl':Option (Nat × Nat))(t':Trace)(q':Nat->Nat)(W' vZ:JB)(g':JF),
   runNT P N (crowd gs w sl) t=(.next (crowd BN w' sl'),t')/\BN[0]?=some g'/\Cmp P vZ BN w' t' q'/\Post W' g' w'/\Kept W W' w w'/\Shy vZ W' w'/\∀b,W' b->b<w'.heap.size
section
variable{P:Program}{Post Juc:(JB)->JF->JE->Prop}{W:JB}{g:JF}{w:JE}
theorem zK{m m' m'':Machine}{t t' t'':Trace}{N K:Nat}(h:runNT P N m t=(.next m',t'))(hk:runNT P K m' t'=(.next m'',t'')):runNT P (N+K) m t=(.next m'',t''):=by rw[runNT_add,h];exact hk
theorem Reach.here(h:Post W g w):Reach P Post W g w:=λgs sl t q W0 hs hl h0 hC=>⟨0,gs,w,sl,t,q,W,W0,g,rfl,h0,hC,h,.refl,hs,hl⟩
theorem Reach.bind(h:Reach P Post W g w)(k:∀W' g' w',Post W' g' w'->Reach P Juc W' g' w'):Reach P Juc W g w:=by intro gs sl t q W0 hs hl h0 hC;obtain⟨N,BN,w',sl',t',q',W',W1,g',hr,h0',PW,hP,hK,D6,Zz⟩:=h gs sl t q W0 hs hl h0 hC;obtain⟨N2,Py,w2,Rz,t2,q2,W2,W3,g2,BU,nM,Vd,oD,jH,Bl,Fz⟩:=k W' g' w' hP BN sl' t' q' W1 D6 Zz h0' PW;exact⟨N+N2,Py,w2,Rz,t2,q2,W2,W3,g2,zK hr BU,nM,Vd,oD,hK.trans jH,Bl,Fz⟩
theorem Reach.kept(h:Reach P Post W g w):Reach P (λW' g' w'=>Post W' g' w'/\Kept W W' w w') W g w:=by intro gs sl t q W0 hs hl h0 hC;obtain⟨N,BN,w',sl',t',q',W',W1,g',hr,h0',PW,hP,hK,D6,Zz⟩:=h gs sl t q W0 hs hl h0 hC;exact⟨N,BN,w',sl',t',q',W',W1,g',hr,h0',PW,⟨hP,hK⟩,hK,D6,Zz⟩
theorem Reach.mid{Mid:JF->JE->Prop}(h:Reach P (λW' g' w'=>W'=W/\Mid g' w') W g w)(k:∀g' w',Mid g' w'->(∀b,W b->w'.heap[b]?=w.heap[b]?)->Reach P Post W g' w'):Reach P Post W g w:=
 h.kept.bind λW' g' w' ⟨⟨e,hm⟩,hK⟩=>by subst e;exact k g' w' hm hK.keep
theorem Shy.kept{W0 W':JB}{w':JE}(h:Shy W0 W w)(k:Kept W W' w w'):Shy W0 W' w':=λb hb=>by obtain⟨h1,a,z,h2⟩:=h b hb;exact⟨k.le b h1,a,z,(k.keep b h1).trans h2⟩
theorem Reach.Jiy{own X Z:JB}{Stop:Sit->Prop}(hR:Runs false P true Stop ⟨own,X,g,w⟩)(hr:g.status=.running)(hd:∀b a z,W b->w.heap[b]?=some (.cells a wgT z)->¬X b)(hod:∀b,W b->¬own b)(hZ:∀b,Z b->b<w.heap.size/\¬X b)(hX:∀b,X b->b<w.heap.size)
  (k:∀y,Stop y->(∀b,W b->¬y.own b)->(∀b,Z b->¬y.X b)->(∀b,y.X b->b<y.w.heap.size)->Kept W W w y.w->Reach P Post W y.g y.w):Reach P Post W g w:=by
 intro gs sl t q W0 hs hl h0 hC;obtain⟨N,BN,y',sl',t',q',h1,_,h3,h4,h5,h6,h7,h8,h9,CQ⟩:=Jix (W:=W) (Z:=Z) hR (sl:=sl) h0 hr hC (atRel_refl w) (λb hb=>by obtain⟨a1,a2,a3,a4⟩:=hs b hb;exact hd b a2 a3 a1 a4) (λb hb=>⟨hl b hb,hod b hb⟩) hZ hX;obtain⟨N2,Py,w2,Rz,t2,q2,W2,W3,g2,BU,nM,Vd,oD,hK,Bl,Fz⟩:=k y' h4 h6 h7 h8 h9 BN sl' t' q' W0 (hs.kept h9) (λb hb=>Es (hl b hb) CQ) h3 h5;exact⟨N+N2,Py,w2,Rz,t2,q2,W2,W3,g2,zK h1 BU,nM,Vd,oD,h9.trans hK,Bl,Fz⟩
theorem Reach.Xp{own X:JB}{Stop:Sit->Prop}(hR:Runs false P true Stop ⟨own,X,g,w⟩)(hr:g.status=.running)(hd:∀b,W b->¬X b)(hod:∀b,W b->¬own b)(hX:∀b,X b->b<w.heap.size)
  (k:∀y,Stop y->(∀b,W b->¬y.X b)->(∀b,y.X b->b<y.w.heap.size)->Reach P Post W y.g y.w):Reach P Post W g w:=by
 intro gs sl t q W0 hs hl h0 hC;exact Reach.Jiy (Z:=W) hR hr (λb _ _ hb _=>hd b hb) hod (λb hb=>⟨hl b hb,hd b hb⟩) hX (λy h1 _ h3 h4 _=>k y h1 h3 h4) gs sl t q W0 hs hl h0 hC
theorem Reach.idle{g':JF}(hs:∀w1,stepG P true g w1=.go g' w1 #[])(hr:g.status=.running)(k:∀w',AtRel w w'->Reach P Post W g' w'):Reach P Post W g w:=by intro gs sl t q W0 hsy hl h0 hC;obtain⟨N,BN,d,sl',t',q',h1,_,h3,h5,_⟩:=Jab (f:=id) hr (λd=>hs _) (λd=>Ad _) (sl:=sl) h0 hC (atRel_refl w);obtain⟨N2,Py,w2,Rz,t2,q2,W2,W3,g2,BU,nM,Vd,oD,hK,Bl,Fz⟩:=k _ ⟨d,rfl⟩ BN sl' t' q' W0 (hsy.kept (w':=w.at d) ⟨λ_ h=>h,λ_ _=>rfl,rfl,rfl⟩) hl h3 h5;exact⟨N+N2,Py,w2,Rz,t2,q2,W2,W3,g2,zK h1 BU,nM,Vd,oD,Kept.trans (w1:=w.at d) ⟨λ_ h=>h,λ_ _=>rfl,rfl,rfl⟩ hK,Bl,Fz⟩
end
end Go.Sim
namespace Go.Sim
open Go Go.Conc
structure BOk(C:Cx)(S:Kn)(W E:JB)(w:JE):Prop where
 wr:WR C (okP C S) (idE E) w w
 hnd:E C.P.globals.size
 gl:∀g,S.gs.contains g=true->E g
 dis:∀b,W b->¬E b
section
variable{C:Cx}{S:Kn}{W E:JB}{w:JE}
theorem BOk.lt(h:BOk C S W E w){b:Nat}(hb:E b):b<w.heap.size:=(h.wr.dom b b ⟨rfl,hb⟩).1
theorem WR.atR{ok:JG->Code->Prop}{E:J5}{w w':JE}(h:WR C ok E w w')(d:Nat):WR C ok E w (w'.at d):=
 ⟨h.os,h.dom,h.fn,h.inj,h.old,h.obj,h.lid,h.lsz,h.Qm⟩
theorem WR.atL{ok:JG->Code->Prop}{E:J5}{w w':JE}(h:WR C ok E w w')(d:Nat):WR C ok E (w.at d) w':=
 ⟨h.os,h.dom,h.fn,h.inj,h.old,h.obj,h.lid,h.lsz,h.Qm⟩
theorem BOk.at(h:BOk C S W E w)(d:Nat):BOk C S W E (w.at d):=⟨(h.wr.atR d).atL d,h.hnd,h.gl,h.dis⟩
theorem BOk.link(h:BOk C S W E w):Link C S (idE E) E E w w:=
 ⟨h.wr,⟨rfl,h.hnd⟩,λg hg=>⟨rfl,h.gl g hg⟩,λb b' ⟨e,hb⟩=>by subst e;exact⟨hb,λ_=>hb⟩⟩
theorem TmR.eq_of{fn:JG}{E1:J5}(hE:∀b b',E1 b b'->b=b'){t t' t0:JC}(h:TmR C S fn E1 t t')(hh:∀i,(C.hl fn).contains i=true->t'[i]?=t0[i]?)(hl:∀i,(C.hl fn).contains i=true->t[i]?=t0[i]?):t'=t:=by
 apply Nv;intro i;by_cases hi:(C.hl fn).contains i=true
 ·rw[hh i hi,hl i hi]
 ·by_cases Ac:i<t.size
  ·have h1:t[i]?=some t[i]:=BJ Ac;have h2:t'[i]?=some (t'[i]'(h.size▸Ac)):=BJ _;rw[h1,h2,(h.at_ i _ _ (by simpa using hi) h1 h2).eq hE]
  ·rw[DK (by have:=h.size;omega),DK (by omega)]
theorem Reach.piece(A:Il C S)(Af:C.st=false){Post:(JB)->JF->JE->Prop}{b:Frame}{c:Code}{t:JC}{ds:List Deferred}{k:List Item}{cs:List Frame}{Q:Exit->JC->JE->Prop}
  (hc:Jj C S b.fn c=true) (hb:GH C b.fn) (Oq:S.df.contains b.fn=false) (hl:C.hl b.fn≠[]) (hk:b.kind≠.early)
  (hB:BOk C S W E w) (ht:TmR C S b.fn (idE E) t t)
  (K:∀τ,c.wp C.P (λe a w1=>(e=.normal\/e=.ret)/\(∀i,(C.hl b.fn).contains i=true->a.tmps[i]?=t[i]?)/\Q e a.tmps w1) ⟨t,[Jp]⟩ (w.tp τ 0))
  (kn:∀(E':JB)(t':JC)(w1 w':JE),(∀b,E b->E' b)->BOk C S W E' w'->WR C (okP C S) (idE E') w1 w'->TmR C S b.fn (idE E') t' t'->Q .normal t' w1->Reach C.P Post W (G (b.at ⟨t',ds⟩ k) cs) w')
  (kr:∀(E':JB)(t':JC)(w1 w':JE)(todo:List Item),(∀b,E b->E' b)->BOk C S W E' w'->WR C (okP C S) (idE E') w1 w'->TmR C S b.fn (idE E') t' t'->Q .ret t' w1->Reach C.P Post W (G { b.at ⟨t',ds⟩ todo with mode:=.returning } cs) w') :
  Reach C.P Post W (G (b.at ⟨t,ds⟩ (.code c::k)) cs) w:=by
 have Dj:∀b,¬C.Sh b:=C.lax Af;have hR:=J8w A (main:=true) (b:=b) (c:=c) (ds:=ds) (k:=k) (cs:=cs) (Q:=λe a w1=>(e=.normal\/e=.ret)/\(∀i,(C.hl b.fn).contains i=true->a.tmps[i]?=t[i]?)/\Q e a.tmps w1) hc hb Oq hl hk hB.link ht K (λe a w h=>h.1);rw[Af]at hR;refine Reach.Xp hR rfl hB.dis hB.dis (λb hb=>hB.lt hb) ?_;rintro⟨own,X,g,wy⟩ ⟨E1,a,w1,t',hs,hL,CX,NW,hq⟩ hd hX;simp only at hL hd hX hq
 let E':JB:=λb=>E1 b b
 have e1:∀b b',E1 b b'->b=b':=hL.wr.lid Af;have s1:Sub E1 (idE E'):=λb b' h=>by obtain rfl:=e1 b b' h;exact⟨rfl,h⟩
 have hE:∀b,E b->E' b:=λb hb=>hs b b ⟨rfl,hb⟩;have s2:rng E1=E':=by funext b;simp only[rng,E',eq_iff_iff];exact⟨λ⟨a,h⟩=>by obtain rfl:=e1 a b h;exact h,λh=>⟨b,h⟩⟩
 have s3:E1=idE E':=by funext b b';simp only[idE,E',eq_iff_iff];exact⟨λh=>by obtain rfl:=e1 b b' h;exact⟨rfl,h⟩,λ⟨h,h'⟩=>by subst h;exact h'⟩
 have TN:WR C (okP C S) (idE E') wy wy:=by
  have:=hL.wr.right (Oz.refl C) (ok':=okP C S) Dj Af (λ_=>⟨rfl,rfl⟩)
  rwa [s2]at this
 have FU:BOk C S W E' wy:=⟨TN,hE _ hB.hnd,λg hg=>hE _ (hB.gl g hg),λb hb he=>hd b hb (hL.rng b b he).1⟩;have Cc:WR C (okP C S) (idE E') w1 wy:=by rw[<- s3];exact hL.wr
 have key:(∀i,(C.hl b.fn).contains i=true->a.tmps[i]?=t[i]?)->t'=a.tmps/\TmR C S b.fn (idE E') a.tmps a.tmps:=by intro hh;have:=CX.eq_of e1 NW hh;subst this;refine⟨rfl,?_⟩;rw[<- s3];exact CX
 rcases hq with⟨⟨_,hh,hq⟩,rfl⟩|⟨⟨_,hh,hq⟩,todo,rfl⟩
 ·obtain⟨rfl,htt⟩:=key hh;exact kn E' _ w1 wy hE FU Cc htt hq
 ·obtain⟨rfl,htt⟩:=key hh;exact kr E' _ w1 wy todo hE FU Cc htt hq
end
end Go.Sim
namespace Go.Sim.Z
open Go Go.Proofs Go.RowKit
open Classical
noncomputable def mv(E:J5)(x:Nat):Nat:=if h:∃y,E x y then Classical.choose h else 0
theorem Xe{E:J5}(Qr:∀b c c',E b c->E b c'->c=c'){x y:Nat}(h:E x y):mv E x=y:=by have hx:∃y,E x y:=⟨y,h⟩;unfold mv;rw[dif_pos hx];exact Qr _ _ _ (Classical.choose_spec hx) h
def Zb(C:Cx)(fr:Bool):Prop:=C.st=true\/fr=false
section
variable{C:Cx}{ok:JG->Code->Prop}{E:J5}{w w':JE}{fr:Bool}{x y:Nat}{arr:JC}{t:JH}{k:IntKind}{xs:JD}{cap:Nat}
theorem _root_.Go.Sim.AR.two{a b:JJ}{arr:JC}(h:AR C E #[a,b] arr):∃a' b',arr=#[a',b']/\VR C E a a'/\VR C E b b':=by
 have hs:arr.size=2:=h.size.symm;obtain⟨a',h1,r1⟩:=h.EL (i:=0) rfl;obtain⟨b',h2,r2⟩:=h.EL (i:=1) rfl;refine⟨a',b',?_,r1,r2⟩;apply Nv;intro i
 match i with
 |0=>exact h1
 |1=>exact h2
 |i+2=>rw[DK (by omega),DK (by simp)]
theorem _root_.Go.Sim.AR.four{a b c d:JJ}{arr:JC}(h:AR C E #[a,b,c,d] arr):∃a' b' c' d',arr=#[a',b',c',d']/\VR C E a a'/\VR C E b b'/\VR C E c c'/\VR C E d d':=by
 have hs:arr.size=4:=h.size.symm;obtain⟨a',h1,r1⟩:=h.EL (i:=0) rfl;obtain⟨b',h2,r2⟩:=h.EL (i:=1) rfl;obtain⟨c',h3,r3⟩:=h.EL (i:=2) rfl;obtain⟨d',h4,r4⟩:=h.EL (i:=3) rfl;refine⟨a',b',c',d',?_,r1,r2,r3,r4⟩;apply Nv;intro i
 match i with
 |0=>exact h1
 |1=>exact h2
 |2=>exact h3
 |3=>exact h4
 |i+4=>rw[DK (by omega),DK (by simp)]
theorem _root_.Go.Sim.AR.plain{arr Dz:JC}(h:AR C E arr Dz)(hp:Plain arr):Dz=arr:=by
 apply Nv;intro i;cases hx:arr[i]? with
 |none=>exact h.fB hx
 |some v=>
  obtain⟨v',h1,r⟩:=h.EL hx;obtain⟨k,n,rfl⟩:=hp.at hx;cases r;exact h1
theorem Blk.ren(hW:WR C ok E w w')(hf:Zb C fr)(h:Blk fr w x arr t)(he:E x y):∃Dz,AR C E arr Dz/\Blk false w' y Dz t:=by
 obtain⟨z,h1,h2⟩:=h;have hy:=(hW.dom x y he).2;obtain⟨c',G9,e,ha,hs,hn⟩:=hW.obj x y _ _ he h1 (BJ hy);refine⟨c',ha,G9,by rw[BJ hy,e],λ_=>?_⟩;by_cases hx:C.Sh x
 ·exact(hs hx).2
 ·obtain⟨h3,h4⟩:=hn hx;rcases hf with hf|hf
  ·rw[h3,h4 hf]
  ·rw[h3,h2 hf]
theorem Row.ren(hW:WR C ok E w w')(hf:Zb C fr)(h:Row fr w x t k xs cap)(he:E x y):Row false w' y t k xs cap:=by obtain⟨cur,h1,h2,h3,h4,h5⟩:=h;obtain⟨Sr,ha,hb⟩:=h1.ren hW hf he;obtain rfl:=ha.plain h5;exact⟨_,hb,h2,h3,h4,h5⟩
theorem Ep.ren{r c:Nat}{bits:Int}{rs:JD}(hW:WR C ok E w w')(hf:Zb C fr)(h:Ep fr w x r c bits rs)(he:E x y):E r (mv E r)/\Ep false w' y (mv E r) c bits rs:=by
 obtain⟨arr,ha,hb⟩:=h.hd.ren hW hf he;obtain⟨a,b,rfl,r1,r2⟩:=ha.two;cases r1;cases r2 with
 |slice o s l c hr=>
  have e:=Xe hW.fn hr;rw[e];exact⟨hr,hb,h.row.ren hW hf hr⟩
def Jrw(E:J5)(ba:JI):Prop:=∀a,ba=some a->E a.block a.block
theorem FW.ren{r c nb cb:Nat}{ba:JI}{rs:JD}(hW:WR C ok E w w')(hf:Zb C fr)(CY:Jrw E ba)(h:FW fr w x r c ba nb cb rs)(he:E x y):E r (mv E r)/\FW false w' y (mv E r) c ba nb cb rs:=by
 obtain⟨arr,ha,hb⟩:=h.hd.ren hW hf he;obtain⟨a,b,rfl,r1,r2⟩:=ha.two;have e1:a=.slice ba nb cb:=by
  cases r1 with
  |Jo=>rfl
  |slice o s l c hr=>rw[hW.fn _ _ _ hr (CY _ rfl)]
 subst e1;cases r2 with
 |slice o s l c hr=>
  have e:=Xe hW.fn hr;rw[e];exact⟨hr,hb,h.row.ren hW hf hr⟩
noncomputable def mvL(E:J5):Option (Nat × Nat)->Option (Nat × Nat):=Option.map λp=>(mv E p.1,p.2)
theorem GL.ren{pr:Option (Nat × Nat)}{K:Int}{ls:JD}(hW:WR C ok E w w')(hf:Zb C fr)(h:GL fr w x pr K ls)(he:E x y):(∀r,lpl pr r->E r (mv E r))/\GL false w' y (mvL E pr) K ls:=by
 obtain⟨arr,ha,hb⟩:=h.hd.ren hW hf he;obtain⟨a,b,rfl,r1,r2⟩:=ha.two;cases r1;cases pr with
 |none=>
  cases r2;exact⟨λr ⟨c,hr⟩=>(by cases hr),hb,h.row⟩
 |some p=>
  obtain⟨r,c⟩:=p;cases r2 with
  |slice o s l c hr=>
   have e:=Xe hW.fn hr;refine⟨λr' ⟨c',Fh⟩=>?_,?_,?_⟩
   ·cases Fh;rw[e];exact hr
   ·show Blk false w' y #[_,.slice (some ⟨mv E r,0,none⟩) _ _] 128;rw[e];exact hb
   ·show Row false w' (mv E r) 45 .u64 ls c/\c<=maxLen;rw[e];exact⟨h.row.1.ren hW hf hr,h.row.2⟩
noncomputable def BP.mv(E:J5)(p:BP):BP:=⟨Z.mv E p.b,Z.mv E p.rb,Z.mv E p.rr,p.rc,Z.mv E p.hb,Z.mv E p.hr,p.hc,Z.mv E p.lb,mvL E p.lr⟩
theorem Jfg{pr:Option (Nat × Nat)}{z:Nat}:lpl (mvL E pr) z↔∃r,lpl pr r/\z=mv E r:=by
 cases pr with
 |none=>simp[lpl,mvL]
 |some p=>obtain⟨r,c⟩:=p;simp[lpl,mvL,eq_comm]
theorem BP.sK{p:BP}{z:Nat}:z∈(p.mv E).pl↔∃x∈p.pl,z=Z.mv E x:=by
 rw[BP.mem];constructor
 ·rintro(h|h|h|h|h|h|h)
  ·exact⟨_,BP.mem.2 (.inl rfl),h⟩
  ·exact⟨_,BP.mem.2 (.inr (.inl rfl)),h⟩
  ·exact⟨_,BP.mem.2 (.inr (.inr (.inl rfl))),h⟩
  ·exact⟨_,BP.mem.2 (.inr (.inr (.inr (.inl rfl)))),h⟩
  ·exact⟨_,BP.mem.2 (.inr (.inr (.inr (.inr (.inl rfl))))),h⟩
  ·exact⟨_,BP.mem.2 (.inr (.inr (.inr (.inr (.inr (.inl rfl)))))),h⟩
  ·obtain⟨r,h1,h2⟩:=Jfg.1 h;exact⟨r,BP.mem.2 (.inr (.inr (.inr (.inr (.inr (.inr h1)))))),h2⟩
 ·rintro⟨x,hx,rfl⟩;rcases BP.mem.1 hx with rfl|rfl|rfl|rfl|rfl|rfl|h
  ·exact .inl rfl
  ·exact .inr (.inl rfl)
  ·exact .inr (.inr (.inl rfl))
  ·exact .inr (.inr (.inr (.inl rfl)))
  ·exact .inr (.inr (.inr (.inr (.inl rfl))))
  ·exact .inr (.inr (.inr (.inr (.inr (.inl rfl)))))
  ·exact .inr (.inr (.inr (.inr (.inr (.inr (Jfg.2 ⟨x,h,rfl⟩))))))
theorem Jz.ren{c:J8}{p:BP}{B:Bun}(hW:WR C ok E w w')(hf:Zb C fr)(CY:Jrw E c.ba)(h:Jz fr w c p B)(he:E p.b y):(∀x∈p.pl,E x (mv E x))/\Jz false w' c (p.mv E) B:=by
 obtain⟨arr,ha,hb⟩:=h.hd.ren hW hf he;obtain⟨a1,a2,a3,a4,rfl,r1,r2,r3,r4⟩:=ha.four;cases r1;cases r2 with|iface _ _ r2=>
 cases r3 with|iface _ _ r3=>
 cases r4 with|iface _ _ r4=>
 cases r2 with|ptr _ _ r2=>
 cases r3 with|ptr _ _ r3=>
 cases r4 with|ptr _ _ r4=>
 obtain⟨e2,k2⟩:=h.reg.ren hW hf r2;obtain⟨e3,k3⟩:=h.hist.ren hW hf CY r3;obtain⟨e4,k4⟩:=h.least.ren hW hf r4;have m0:=Xe hW.fn he;have m2:=Xe hW.fn r2;have m3:=Xe hW.fn r3;have m4:=Xe hW.fn r4;rw[<- m2]at k2 hb;rw[<- m3]at k3 hb;rw[<- m4]at k4 hb;rw[<- m0]at hb;have AA:∀x∈p.pl,E x (mv E x):=λx hx=>by
  rcases BP.mem.1 hx with rfl|rfl|rfl|rfl|rfl|rfl|h
  ·rw[m0];exact he
  ·rw[m2];exact r2
  ·exact e2
  ·rw[m3];exact r3
  ·exact e3
  ·rw[m4];exact r4
  ·exact e4 x h
 have inj:∀{x z:Nat},x∈p.pl->z∈p.pl->mv E x=mv E z->x=z:=λhx hz e=>hW.inj _ _ _ (AA _ hx) (e▸AA _ hz);have q1:p.b∈p.pl:=BP.mem.2 (.inl rfl);have q2:p.rb∈p.pl:=BP.mem.2 (.inr (.inl rfl));have q3:p.rr∈p.pl:=BP.mem.2 (.inr (.inr (.inl rfl)));have q4:p.hb∈p.pl:=BP.mem.2 (.inr (.inr (.inr (.inl rfl))));have q5:p.hr∈p.pl:=BP.mem.2 (.inr (.inr (.inr (.inr (.inl rfl)))));have q6:p.lb∈p.pl:=BP.mem.2 (.inr (.inr (.inr (.inr (.inr (.inl rfl))))));have nl:∀{x:Nat},x∈p.pl->¬lpl p.lr x->¬lpl (mvL E p.lr) (mv E x):=λhx hn hl=>by obtain⟨r,h1,h2⟩:=Jfg.1 hl;exact hn ((inj hx (BP.mem.2 (.inr (.inr (.inr (.inr (.inr (.inr h1))))))) h2)▸h1)
 obtain⟨n1,n2,n3,n4,n5,n6⟩:=h.nd;exact⟨AA,hb,k2,k3,k4,
  ⟨λe=>n1.1 (inj q1 q2 e),λe=>n1.2.1 (inj q1 q3 e),λe=>n1.2.2.1 (inj q1 q4 e),λe=>n1.2.2.2.1 (inj q1 q5 e),λe=>n1.2.2.2.2.1 (inj q1 q6 e),nl q1 n1.2.2.2.2.2⟩,
  ⟨λe=>n2.1 (inj q2 q3 e),λe=>n2.2.1 (inj q2 q4 e),λe=>n2.2.2.1 (inj q2 q5 e),λe=>n2.2.2.2.1 (inj q2 q6 e),nl q2 n2.2.2.2.2⟩,
  ⟨λe=>n3.1 (inj q3 q4 e),λe=>n3.2.1 (inj q3 q5 e),λe=>n3.2.2.1 (inj q3 q6 e),nl q3 n3.2.2.2⟩,
  ⟨λe=>n4.1 (inj q4 q5 e),λe=>n4.2.1 (inj q4 q6 e),nl q4 n4.2.2⟩,
  ⟨λe=>n5.1 (inj q5 q6 e),nl q5 n5.2⟩,
  nl q6 n6⟩
end
end Go.Sim.Z
namespace Go.Sim.Z
open Go Go.Proofs Go.RowKit
open Go.WideElems (Fit rd rg)
noncomputable def mvV(E:J5):JJ->JJ
 |.pointer (some a)=>.pointer (some ⟨mv E a.block,a.off,a.spot⟩)
 |v=>v
noncomputable def Jrx(E:J5)(p:JD × JJ):JD × JJ:=(p.1,mvV E p.2)
noncomputable def TR.mv(E:J5)(t:TR):TR:=⟨t.k,t.p.mv E,t.B⟩
theorem J03j{E:J5}{T:List TR}:tm (T.map (TR.mv E))=tm T:=by funext k;unfold tm;rw[List.find?_map,Option.map_map];rfl
def gD(f:JJ->JJ):Lit × DataW JJ->Lit × DataW JJ
 |(l,.held v)=>(l,.held (f v))
 |p=>p
theorem Jxc(f:JJ->JJ)(p:Lit × DataW JJ):(gD f p).1=p.1:=by obtain⟨l,d⟩:=p;cases d<;>rfl
theorem Jgd(f:JJ->JJ)(x:Lit × DataW JJ):∀l:List (Lit × DataW JJ),DataW.insert (gD f x) (l.map (gD f))=(DataW.insert x l).map (gD f)
 |[]=>rfl
 |y::l=>by
  simp only[DW,DataW.insert,Jxc];split
  ·rfl
  ·rw[Jgd f x l];rfl
theorem Jiz(f:JJ->JJ):∀l:List (Lit × DataW JJ),(l.map (gD f)).foldr DataW.insert []=(l.foldr DataW.insert []).map (gD f)
 |[]=>rfl
 |x::l=>by simp only[DW,List.foldr_cons,Jiz f l,Jgd]
def mE(f:JJ->JJ)(x:MapEntry):MapEntry:=⟨x.key,f x.val,x.born⟩
theorem Jud{P:Program}{k:JH}(f:JJ->JJ)(x:MapEntry):rd P k Rv (mE f x)=(rd P k Rv x).map (gD f):=by unfold rd mE;cases keyOf P k x.key<;>rfl
theorem Jvv{P:Program}{k:JH}{es:Array MapEntry}{clock:Nat}(f:JJ->JJ)(hF:Fit P k Rv es clock) :
  Fit P k Rv (es.map (mE f)) clock/\((es.map (mE f)).toList.map (rg P k Rv)).foldr DataW.insert []=((es.toList.map (rg P k Rv)).foldr DataW.insert []).map (gD f):=by
 refine⟨⟨by simpa using hF.size,?_,λx hx=>?_⟩,?_⟩
 ·obtain⟨h1,h2,h3⟩:=hF.stamped;unfold MapKept.Stamped;rw[Array.toList_map];refine⟨λx hx=>?_,?_,?_⟩
  ·obtain⟨z,hz,rfl⟩:=AY.1 hx;exact h1 z hz
  ·rw[List.map_map];exact h2
  ·rw[List.map_map];exact h3
 ·rw[Array.toList_map]at hx;obtain⟨z,hz,rfl⟩:=AY.1 hx;obtain⟨y,hy⟩:=hF.reads z hz;exact⟨_,by rw[Jud,hy];rfl⟩
 ·rw[<- Jiz,Array.toList_map,List.map_map,List.map_map];congr 1;refine List.map_congr_left λx hx=>?_;obtain⟨y,hy⟩:=hF.reads x hx;simp only[Function.comp,rg,Jud,hy];rfl
theorem qP:∀l:List (Lit × DataW JJ),(l.foldr DataW.insert []).Perm l
 |[]=>.refl _
 |x::l=>(insert_perm x _).trans ((qP l).cons x)
section
variable{C:Cx}{ok:JG->Code->Prop}{E:J5}{w w':JE}{fr:Bool}{x y:Nat}
theorem VR.mvV{a:Addr}{v:JJ}(hW:WR C ok E w w')(h:VR C E (.pointer (some a)) v):v=Z.mvV E (.pointer (some a))/\E a.block (mv E a.block):=by
 cases h with
 |ptr o s h=>simp[Z.mvV,Xe hW.fn h,h]
theorem CJ.ren{L:List (JD × JJ)}(hW:WR C ok E w w')(h:CJ w x L)(hp:∀p∈L,∃a,p.2=.pointer (some a))(he:E x y):CJ w' y (L.map (Jrx E))/\∀p∈L,∀a,p.2=.pointer (some a)->E a.block (mv E a.block):=by
 obtain⟨L',h1,n,es,clock,h2,h3,h4,h5⟩:=h.own;have hy:=(hW.dom x y he).2;obtain⟨AZ,e1,hr⟩:=hW.obj x y _ _ he h2 (BJ hy);have key:∀(i:Nat) z,es[i]?=some z->∃k v,(k,v)∈L/\z.key=.agg (ai .i64 k)/\z.val=v:=λi z hz=>by
  have hm:z∈es.toList:=Array.mem_toList_iff.2 (IX hz);obtain⟨q,hq⟩:=h3.reads z hm;have AL:q∈(es.toList.map (rg prog 76 Rv)).foldr DataW.insert []:=(qP _).mem_iff.2 (AY.2 ⟨z,hm,by simp[rg,hq]⟩);have KA:=DataW.map.inj h5;rw[<- KA]at AL;obtain⟨p,Gi,rfl⟩:=AY.1 AL;have jV:=h1.mem_iff.1 Gi;unfold rd at hq;simp only[LX,FX]at hq;obtain⟨l,hl,d,hd,e⟩:=hq;have e1:l=klit p.1:=congrArg Prod.fst e;have e2:d.1=.held p.2:=congrArg Prod.snd e;refine⟨p.1,p.2,jV,?_,?_⟩
  ·rw[e1]at hl;exact Jgv.inj hl (Xo (h.keys p jV))
  ·simp only[Rv,Cm]at hd;rw[<- hd]at e2;exact DataW.held.inj e2
 have EC:AZ=es.map (mE (mvV E)):=by
  apply Nv;intro i;rw[Array.getElem?_map];cases hz:es[i]? with
  |none=>rw[QL]at hz;rw[DK (by rw[<- hr.size];exact hz)];rfl
  |some z=>
   have Ac:i<AZ.size:=by rw[<- hr.size];exact(BQ.1 hz).1
   have Ol:AZ[i]?=some AZ[i]:=BJ Ac;have hq:=hr.at_ i z _ hz Ol;rw[Ol];obtain⟨k,v,Ue,ek,ev⟩:=key i z hz;obtain⟨a,ea⟩:=hp _ Ue;have hv:=hq.val;rw[ev,show v=.pointer (some a)from ea]at hv;have hk:=hq.key;rw[ek]at hk;have ek':AZ[i].key=.agg (ai .i64 k):=by
    generalize AZ[i].key=kk at hk;cases hk with
    |agg ha hx=>rw[AR.plain (C:=C) (E:=E) ⟨ha,hx⟩ Plain.ai]
   have ev':=(VR.mvV hW hv).1;have eb:=hq.born;generalize AZ[i]=z' at ek' ev' eb;obtain⟨zk,zv,zb⟩:=z;obtain⟨zk',zv',zb'⟩:=z';simp only at ek ev ek' ev' eb;show some _=some (MapEntry.mk zk (mvV E zv) zb);rw[ek',ev',<- eb,ek,ev,show v=.pointer (some a)from ea]
 subst EC;obtain⟨q1,q2⟩:=Jvv (mvV E) h3;have KA:=DataW.map.inj h5;refine⟨⟨λp hp=>?_,?_,L'.map (Jrx E),h1.map _,n,_,clock,by rw[BJ hy,e1],q1,by simpa using h4,?_⟩,λp Gi a ea=>?_⟩
 ·obtain⟨p0,iO,rfl⟩:=AY.1 hp;exact h.keys p0 iO
 ·rw[List.map_map];exact h.nodup
 ·rw[q2,<- KA,List.map_map,List.map_map];rfl
 ·have hq:Ed p∈(es.toList.map (rg prog 76 Rv)).foldr DataW.insert []:=by rw[<- KA];exact AY.2 ⟨p,h1.mem_iff.2 Gi,rfl⟩
  obtain⟨z,hz,ez⟩:=AY.1 ((qP _).mem_iff.1 hq);obtain⟨i,hi,rfl⟩:=List.getElem_of_mem hz;simp only[Array.length_toList,Array.getElem_toList]at hi ez;have Dl:es[i]?=some es[i]:=BJ hi;have D7:=hr.at_ i _ _ Dl (by rw[Array.getElem?_map,Dl];rfl);obtain⟨q,Qs⟩:=h3.reads _ (Array.getElem_mem_toList hi);have ez':q=Ed p:=by simpa[rg,Qs]using ez
  have hv:es[i].val=p.2:=by unfold rd at Qs;simp only[LX,FX]at Qs;obtain⟨l,hl,d,hd,e⟩:=Qs;simp only[Rv,Cm]at hd;rw[ez',<- hd]at e;exact DataW.held.inj (congrArg Prod.snd e)
  have LD:=D7.val;rw[hv,ea]at LD;exact(VR.mvV hW LD).2
theorem TabAt.ren{c:J8}{T:List TR}(hW:WR C ok E w w')(hf:Zb C fr)(CY:Jrw E c.ba)(h:TabAt fr w c x T)(he:E x y):(∀z∈tpl T,E z (mv E z))/\TabAt false w' c y (T.map (TR.mv E)):=by
 obtain⟨k1,k2⟩:=h.map.ren hW (λp hp=>by obtain⟨t,_,rfl⟩:=AY.1 hp;exact⟨_,rfl⟩) he;have hb:∀t∈T,(∀z∈t.p.pl,E z (mv E z))/\Jz false w' c (t.p.mv E) t.B:=λt ht=>by have hE:=k2 t.kv (List.mem_map_of_mem ht) _ rfl;exact(h.bun t ht).ren hW hf CY hE
 have AA:∀z∈tpl T,E z (mv E z):=λz hz=>by obtain⟨t,ht,hz⟩:=Jm.1 hz;exact(hb t ht).1 z hz
 refine⟨AA,?_,λt ht=>?_,λt ht=>?_,λhm=>?_,?_⟩
 ·rw[List.map_map,show TR.kv ∘ TR.mv E=Jrx E ∘ TR.kv from rfl,<- List.map_map];exact k1
 ·obtain⟨t0,BA,rfl⟩:=AY.1 ht;exact(hb t0 BA).2
 ·obtain⟨t0,BA,rfl⟩:=AY.1 ht;exact h.ok t0 BA
 ·obtain⟨t,ht,hz⟩:=Jm.1 hm;obtain⟨t0,BA,rfl⟩:=AY.1 ht;obtain⟨z,En,e⟩:=BP.sK.1 hz;have:=hW.inj _ _ _ he (e▸(hb t0 BA).1 z En);exact h.out (this▸Jm.2 ⟨t0,BA,En⟩)
 ·rw[List.pairwise_map];refine h.dis.imp_of_mem λ{s t} hs ht hd z hz Ol=>?_;obtain⟨z1,Dl,rfl⟩:=BP.sK.1 hz;obtain⟨z2,D7,e⟩:=BP.sK.1 Ol;have:=hW.inj _ _ _ ((hb s hs).1 z1 Dl) (e▸(hb t ht).1 z2 D7);exact hd z1 Dl (this▸D7)
theorem Jxd{T:List TR}{z:Nat}:z∈tpl (T.map (TR.mv E))↔∃x∈tpl T,z=mv E x:=by
 rw[Jm];constructor
 ·rintro⟨t,ht,hz⟩;obtain⟨t0,BA,rfl⟩:=AY.1 ht;obtain⟨x,hx,rfl⟩:=BP.sK.1 hz;exact⟨x,Jm.2 ⟨t0,BA,hx⟩,rfl⟩
 ·rintro⟨x,hx,rfl⟩;obtain⟨t0,BA,hx⟩:=Jm.1 hx;exact⟨_,List.mem_map_of_mem BA,BP.sK.2 ⟨x,hx,rfl⟩⟩
end
end Go.Sim.Z
namespace Go.Sim.Z
open Go Go.Proofs Go.Conc Go.ConcN Go.RowKit Go.Conc.Lib Go.ConcR.Gen Go.ConcN.Gen
open Go.ConcR (KK wgBlock WgAt stA smA rd wr mk Payload DC0)
def q3:Array Oper:=#[{ dst:=some 9,op:=Op.alloc 146,type:=0,pos:= "table.go:72",after:=#[],guard:=none }]
def q4:Array Oper:=#[{ dst:=some 18,op:=Op.move (Operand.const (Value.int IntKind.i64 0)),type:=3,pos:= "table.go:73",after:=#[],guard:=none }]
def q5:Array Oper:=#[{ dst:=some 19,op:=Op.binOp BinOp.lss 3 (Operand.tmp 18) (Operand.const (Value.int IntKind.i64 4)) 3,type:=4,pos:= "table.go:73",after:=#[],guard:=none }]
def q6:Array Oper:=#[{ dst:=some 20,op:=Op.move (Operand.tmp 18),type:=3,pos:= "table.go:73",after:=#[],guard:=none },
 { dst:=some 10,op:=Op.alloc 3,type:=0,pos:= "table.go:73",after:=#[],guard:=none },
 { dst:=none,op:=Op.store 3 (Operand.tmp 10) (Operand.tmp 20),type:=0,pos:= "table.go:73",after:=#[{ on:=1,ground:=Ground.data },
 { on:=0,ground:=Ground.data },
 { on:=0,ground:=Ground.phase },
 { on:=1,ground:=Ground.phase }],guard:=none }]
def q7:Array Oper:=#[{ dst:=some 21,op:=Op.call { callee:=Callee.value (Operand.func 62),args:=#[Operand.tmp 9,Operand.const (Value.int IntKind.i64 1)],argTypes:=#[146,3] },type:=0,pos:= "table.go:74",after:=#[],guard:=none }]
def q8:Array Oper:=#[{ dst:=some 22,op:=Op.makeFunc (Fn.func 63) #[] #[Operand.tmp 9,Operand.tmp 10,Operand.tmp 7,Operand.tmp 5,Operand.tmp 4,Operand.tmp 3,Operand.tmp 8],type:=1,pos:= "table.go:75",after:=#[],guard:=none },
 { dst:=none,op:=Op.go { callee:=Callee.value (Operand.tmp 22),args:=#[],argTypes:=#[] },type:=0,pos:= "table.go:75",after:=#[{ on:=0,ground:=Ground.data }],guard:=none }]
def q9:Array Oper:=#[{ dst:=some 23,op:=Op.binOp BinOp.add 3 (Operand.tmp 18) (Operand.const (Value.int IntKind.i64 1)) 3,type:=3,pos:= "table.go:73",after:=#[],guard:=none },
 { dst:=some 18,op:=Op.move (Operand.tmp 23),type:=3,pos:= "table.go:73",after:=#[{ on:=0,ground:=Ground.data }],guard:=none }]
def q10:Array Oper:=#[{ dst:=some 24,op:=Op.call { callee:=Callee.value (Operand.func 66),args:=#[Operand.tmp 9],argTypes:=#[146] },type:=0,pos:= "table.go:86",after:=#[],guard:=none }]
def LL:Code:=.seq (.region 5 q5 false) (.seq (.cond (.tmp 19) .skip (.exit 0)) (.seq (.block 1 (.seq (.region 6 q6 false) (.seq (.region 7 q7 false) (.region 8 q8 false)))) (.region 9 q9 false)))
noncomputable def b40:Code:=f40.body.getD .skip
noncomputable def Jh4:Code:=VD b40
noncomputable def Jh5:Code:=VD (Nu b40)
noncomputable def Jh6:Code:=VD (Nu (Nu b40))
noncomputable def LU:Code:=Nu (Nu (Nu (Nu (Nu (Nu b40)))))
theorem Jxe:b40=.seq Jh4 (.seq Jh5 (.seq Jh6 (.seq (.region 3 q3 false) (.seq (.seq (.region 4 q4 false) (.block 0 (.loop LL))) (.seq (.region 10 q10 false) LU))))):=by kernel_rfl
theorem Jxf:f40.body=some b40:=by kernel_rfl
theorem zF:GH C0 40:=⟨f40,by kernel_rfl,by kernel_rfl,by kernel_rfl⟩
theorem Jxg:Jj C0 S0 40 Jh4=true:=by kernel_rfl
theorem Jxh:Jj C0 S0 40 Jh5=true:=by kernel_rfl
theorem Jxi:Jj C0 S0 40 Jh6=true:=by kernel_rfl
theorem Jxj:Jj C0 S0 40 LU=true:=by kernel_rfl
end Go.Sim.Z
