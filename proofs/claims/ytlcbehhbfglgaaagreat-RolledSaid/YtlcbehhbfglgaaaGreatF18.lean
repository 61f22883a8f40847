/- PROVED HERE: laws. Conditions: none. -/
import Derived.Test.YtlcbehhbfglgaaaGreatF14
import Derived.Test.YtlcbehhbfglgaaaGreatF17
set_option linter.all false
set_option maxRecDepth 100000
namespace Go.Sim
open Go.Conc
open Go.ConcN (sumTo upd)
def rng (E:J5):Nat->Prop:=fun b=>∃ a,E a b
def idE (X:Nat->Prop):J5:=fun b b'=>b=b'/\X b
structure J4n (C C':Cx):Prop where
 fs:∀ f,C.F f->C'.F f
 ts:∀ t,C.J2k t=true->C'.J2k t=true
 ms:∀ n,C.ms.contains n=true->C'.ms.contains n=true
theorem J4n.refl (C:Cx):J4n C C:=⟨fun _ h=>h,fun _ h=>h,fun _ h=>h⟩
section
variable {C C':Cx} {E:J5}
theorem J61 {b b':Nat} (h:E b b'):idE (rng E) b' b':=⟨rfl,b,h⟩
theorem J18 {X Y:Nat->Prop} (h:∀ b,X b->Y b):Sub (idE X) (idE Y):=fun _ _ k=>⟨k.1,h _ k.2⟩
theorem FnR.right (L:J4n C C') {f f':Fn} (h:FnR C E f f'):FnR C' (idE (rng E)) f' f':=by
 cases h with
 | func h=>exact .func (L.fs _ h)
 | yield h=>exact .yield (J61 h)
 | method h=>exact .method (L.ms _ h)
theorem VR.right (L:J4n C C') {v v':Value} (h:VR C E v v'):VR C' (idE (rng E)) v' v':=by
 have arr:∀ {a a':Array Value},a.size=a'.size->(∀ (i:Nat) (x x':Value),a[i]?=some x->a'[i]?=some x'->VR C' (idE (rng E)) x' x')->∀ (i:Nat) (x x':Value),a'[i]?=some x->a'[i]?=some x'->VR C' (idE (rng E)) x x':=by intro a a' hs hx i x x' h1 h2;rw [h1] at h2;cases h2;have hlt:=(Ja3.1 h1).1;exact hx i a[i] x (by simp [hs,hlt]) h1
 induction h with
 | bool b=>exact .bool b
 | int k n=>exact .int k n
 | string x=>exact .string x
 | nilPtr=>exact .nilPtr
 | ptr o p h=>exact .ptr o p (J61 h)
 | Jo l c=>exact .Jo l c
 | slice o p l c h=>exact .slice o p l c (J61 h)
 | J1n=>exact .J1n
 | map h=>exact .map (J61 h)
 | nilFunc=>exact .nilFunc
 | J23=>exact .J23
 | func h ha _ hc _ hx hy=>exact .func (h.right L) rfl (arr ha hx) ⟨rfl,by have:=hc.1;have:=hc.2;omega⟩ (arr hc.1 hy)
 | iface t ht _ ih=>exact .iface t (L.ts _ ht) ih
 | nilIface=>exact .nilIface
 | agg ha _ hx=>exact .agg rfl (arr ha hx)
 | tuple ha _ hx=>exact .tuple rfl (arr ha hx)
theorem AR.right (L:J4n C C') {a a':Array Value} (h:AR C E a a'):AR C' (idE (rng E)) a' a':=by refine ⟨rfl,fun i x x' h1 h2=>?_⟩;rw [h1] at h2;cases h2;have hlt:=(Ja3.1 h1).1;have hs:=h.size;exact (h.at_ i a[i] x (by simp [hs,hlt]) h1).right L
theorem J11.right (L:J4n C C') {e e':MapEntry} (h:J11 C E e e'):J11 C' (idE (rng E)) e' e':=⟨h.key.right L,h.val.right L,rfl⟩
theorem EsR.right (L:J4n C C') {e e':Array MapEntry} (h:EsR C E e e'):EsR C' (idE (rng E)) e' e':=by refine ⟨rfl,fun i x x' h1 h2=>?_⟩;rw [h1] at h2;cases h2;have hlt:=(Ja3.1 h1).1;have hs:=h.size;exact (h.at_ i e[i] x (by simp [hs,hlt]) h1).right L
theorem J0x.right (L:J4n C C') {d d':List Deferred} (h:J0x C E d d'):J0x C' (idE (rng E)) d' d':=by
 induction h with
 | nil=>exact .nil
 | @cons d d' l l' h _ ih=>
  refine .cons ⟨?_,h.args.right L,?_⟩ ih
  ·have ht:=h.target;generalize d.target=t at ht;generalize d'.target=t' at ht ⊢;cases ht with
   | collected h=>exact .collected (J61 h)
   | nil=>exact .nil
   | fn hf hc=>exact .fn (hf.right L) (hc.right L)
  ·intro f c e;have ht:=h.target;have hz:=h.sz;have hs:=h.args.size;rw [e] at ht;generalize d.target=t at ht hz;cases ht with
   | fn hf hc=>have:=hz _ _ rfl;have:=hc.size;omega
theorem J3g.right (L:J4n C C') {ok ok':FuncId->Code->Prop} (hsh:∀ b,¬ C'.Sh b) (hst:C'.st=false) (hok:C.st=false->ok=ok'/\C.hl=C'.hl) {b b':Nat} {o o':Obj} (h:J3g C ok E b o o'):J3g C' ok' (idE (rng E)) b' o' o':=by
 cases o with
 | cells c el fz=>
  obtain ⟨c',fz',rfl,h4,_⟩:=h;exact ⟨c',fz',rfl,h4.right L,fun x=>absurd x (hsh _),fun _=>⟨rfl,fun e=>by rw [hst] at e;cases e⟩⟩
 | map es ck=>obtain ⟨es',rfl,h⟩:=h;exact ⟨es',rfl,h.right L⟩
 | mapIter m a b c=>
  obtain ⟨_,m',rfl,h⟩:=h;refine ⟨hsh _,m',rfl,?_⟩;cases m<;>cases m'<;>first|trivial|exact h.elim|exact J61 h
 | stringIter a b=>obtain ⟨_,rfl⟩:=h;exact ⟨hsh _,rfl⟩
 | loop l=>
  obtain ⟨_,l',rfl,h⟩:=h;obtain ⟨rfl,hhl⟩:=hok h.st;refine ⟨hsh _,l',rfl,⟨rfl,rfl,rfl,⟨rfl,fun i x x' hi h1 h2=>?_⟩,rfl,rfl,rfl,J61 h.defers,?_,?_,?_,hst⟩⟩
  ·rw [h1] at h2;cases h2;have hlt:=(Ja3.1 h1).1;have hs:=h.tmps.size;exact (h.tmps.at_ i l.tmps[i] x (by rw [hhl,h.fn];exact hi) (by simp [hs,hlt]) h1).right L
  ·rw [<- h.fn,<- h.assign];exact h.ok1
  ·rw [<- h.fn,<- h.body];exact h.ok2
  ·rw [<- h.pending];exact h.ok3
 | deferred ds=>
  obtain ⟨_,ds',rfl,h⟩:=h;refine ⟨hsh _,ds',rfl,?_⟩;cases ds<;>cases ds'<;>first|trivial|exact h.elim|exact J0x.right L h
 | number a l=>obtain ⟨_,a',rfl,h⟩:=h;exact ⟨hsh _,a',rfl,⟨J61 h.block,rfl,rfl⟩⟩
 | _=>exact h.elim
theorem WR.right (L:J4n C C') {ok ok':FuncId->Code->Prop} (hsh:∀ b,¬ C'.Sh b) (hst:C'.st=false) (hok:C.st=false->ok=ok'/\C.hl=C'.hl) {w w':World} (h:WR C ok E w w'):WR C' ok' (idE (rng E)) w' w':=by
 refine ⟨rfl,fun b b' ⟨e,a,ha⟩=>?_,fun b c c' h1 h2=>h1.1.symm.trans h2.1,fun b c b2 h1 h2=>h1.1.trans h2.1.symm,fun b hb=>absurd hb (hsh b),fun b b' o o' ⟨e,a,ha⟩ h1 h2=>?_,fun _ b b' h=>h.1,fun _=>rfl,fun e=>by rw [hst] at e;cases e⟩
 ·subst e;exact ⟨(h.dom _ _ ha).2,(h.dom _ _ ha).2⟩
 ·subst e;rw [h1] at h2;cases h2;obtain ⟨x,x',e1,e2,e3⟩:=h.get ha;rw [h1] at e2;cases e2;exact e3.right L hsh hst hok
theorem VR.eq {E:J5} (hE:∀ b b',E b b'->b=b') {v v':Value} (h:VR C E v v'):v=v':=by
 have arr:∀ {a a':Array Value},a.size=a'.size->(∀ (i:Nat) (x x':Value),a[i]?=some x->a'[i]?=some x'->x=x')->a=a':=by
  intro a a' hs hx;apply Jd6;intro i;by_cases hi:i<a.size
  ·have h1:a[i]?=some a[i]:=Ja4 hi;have h2:a'[i]?=some a'[i]:=Ja4 (hs▸hi);rw [h1,h2,hx i _ _ h1 h2]
  ·rw [Jb0 (by omega),Jb0 (by omega)]
 induction h with
 | ptr o p h=>rw [hE _ _ h]
 | slice o p l c h=>rw [hE _ _ h]
 | map h=>rw [hE _ _ h]
 | func h ha _ hc _ hx hy=>
  rw [arr ha hx,arr hc.1 hy];cases h with
  | func h=>rfl
  | yield h=>rw [hE _ _ h]
  | method h=>rfl
 | iface t ht _ ih=>rw [ih]
 | agg ha _ hx=>rw [arr ha hx]
 | tuple ha _ hx=>rw [arr ha hx]
 | _=>rfl
end
end Go.Sim
namespace Go.Sim
open Go.Conc
section
variable {st:Bool} {P:Program} {main:Bool} {Stop Jh3:Sit->Prop}
theorem J07.refl (st:Bool) (X:Nat->Prop) (w:World):J07 st X w w:=⟨fun _ _=>rfl,Ja2 _,fun _=>rfl,rfl⟩
theorem Runs.bind {y:Sit} (h:Runs st P main Stop y) (k:∀ y2,Stop y2->Runs st P main Jh3 y2):Runs st P main Jh3 y:=by
 induction h with
 | stop h=>exact k _ (h _ (.refl ..))
 | step f h _ ih=>exact .step f h ih
theorem Runs.mono {y:Sit} (h:Runs st P main Stop y) (k:∀ y2,Stop y2->Jh3 y2):Runs st P main Jh3 y:=by
 induction h with
 | stop h=>exact .stop fun w1 hr=>k _ (h w1 hr)
 | step f h _ ih=>exact .step f h ih
theorem Runs.idle {own X:Nat->Prop} {g g':Goroutine} {w:World} (hs:∀ w1,stepG P main g w1=.go g' w1 #[]) (hr:g'.status=.running) (hd:g'.dying=none) (ho:g'.offers=none)
  (k:∀ w1,J07 st X w w1->Runs st P main Stop ⟨own,X,g',w1⟩):Runs st P main Stop ⟨own,X,g,w⟩:=by
 have same:∀ (Y:Nat->Prop) (w1:World),grown Y w1 w1=Y:=fun Y w1=>by funext b;simp only [grown,eq_iff_iff];exact ⟨fun h=>h.elim id fun h=>by omega,.inl⟩
 refine .step (fun w1=>⟨own,X,g',w1⟩) (fun w1 _=>⟨⟨#[],hs w1,⟨Ja2 _,fun _ _ _=>rfl,rfl,rfl,Ja2 _,fun e he=>by simp at he⟩⟩,hr,hd,ho,(same own w1).symm,(same X w1).symm⟩) fun w1 hw=>k w1 hw
end
section
variable {C:Cx} {S:Kn}
def Jaa (C:Cx) (S:Kn) (b:Frame) (t0:Array Value) (ds:List Deferred) (k:List Item) (cs:List Frame) (E:J5) (Q:Exit->Act->World->Prop) (y:Sit):Prop:=
 ∃ E1 a w1 t',Sub E E1/\Link C S E1 y.own y.X w1 y.w/\TmR C S b.fn E1 a.tmps t'/\(∀ i,(C.hl b.fn).contains i=true->t'[i]?=t0[i]?) /\
  ((Q .normal a w1/\y.g=G (b.at ⟨t',ds⟩ k) cs)\/(Q .ret a w1/\∃ todo,y.g=G { b.at ⟨t',ds⟩ todo with mode:=.returning } cs))
theorem J8w (A:J1d C S) {main:Bool} {b:Frame} {c:Code} {t t':Array Value} {ds:List Deferred} {k:List Item} {cs:List Frame} {E:J5} {own X:Nat->Prop} {w0 w:World} {Q:Exit->Act->World->Prop}
  (hc:Jj C S b.fn c=true) (hb:J0k C b.fn) (hdf:S.df.contains b.fn=false) (hl:C.hl b.fn≠[]) (hk:b.kind≠.early)
  (hL:Link C S E own X w0 w) (ht:TmR C S b.fn E t t') (K:∀ τ,c.wp C.P Q ⟨t,[Jp]⟩ (w0.tp τ 0)) (hQ:∀ e a w,Q e a w->e=.normal\/e=.ret) :
  Runs C.st C.P main (Jaa C S b t' ds k cs E Q) ⟨own,X,G (b.at ⟨t',ds⟩ (.code c::k)) cs,w⟩:=by
 let B:Bot:=⟨b.fn,t',k,[],b.kind,ds,cs⟩
 have hg:GR C S E B (G ((base b.fn).at ⟨t,[Jp]⟩ [.code c,Jt]) []) (G (b.at ⟨t',ds⟩ (.code c::k)) cs):=by refine ⟨.bot ⟨rfl,hb,rfl,hk,rfl,rfl,ht,?_,rfl,rfl,rfl,hdf,hl,rfl,rfl,rfl,fun _ _=>rfl⟩,rfl,rfl,rfl,rfl,rfl⟩;exact J4j.code (cs:=B) rfl (.cons (.code hc) .nil)
 have K':∀ τ,∃ n g1 w1,runN C.P n (solo (G ((base b.fn).at ⟨t,[Jp]⟩ [.code c,Jt]) []) (w0.tp τ 0))=.next (solo g1 w1)/\Jl4 (fun tm w1=>∃ d,Q .normal ⟨tm,d⟩ w1) (fun tm w1=>∃ d,Q .ret ⟨tm,d⟩ w1) g1 w1:=by
  intro τ;obtain ⟨e,a',w',hq,har⟩:=K τ (base b.fn) [Jt] [];rcases hQ e a' w' hq with rfl|rfl
  ·obtain ⟨n,hn⟩:=har;exact ⟨n,_,w',hn,rfl,.inl ⟨rfl,rfl,a'.defers,hq⟩⟩
  ·obtain ⟨todo,n,hn⟩:=har;exact ⟨n,_,w',hn,rfl,.inr ⟨rfl,a'.defers,hq⟩⟩
 refine (Jl5 A (main:=main) (cs:=B) (y0:=⟨own,X,G (b.at ⟨t',ds⟩ (.code c::k)) cs,w⟩) hL hg K').bind fun y hy=>?_;obtain ⟨E1,g1,w1,hs,hL1,⟨hg1,hd1,d,hq⟩|⟨he,d,hq⟩⟩:=hy
 ·obtain ⟨Jce,X1,gy,wy⟩:=y;obtain ⟨fy,csy,sty,dy,oy⟩:=gy;have hst:=hg1.stack;have r1:=hg1.run';have r2:=hg1.dying';have r3:=hg1.offers;simp only at r1 r2 r3;subst r1 r2 r3;obtain ⟨q1,q2,q3⟩:=hd1;rw [q1] at hst;generalize hz:fy::csy=z at hst;cases hst with
  | cons _ h2=>cases h2
  | bot hB=>
   cases hz;have e:∀ todo,fy.todo=todo->fy=b.at ⟨fy.tmps,ds⟩ todo:=by intro todo ht;obtain ⟨f1,f2,f3,f4,f5,f6,f7⟩:=fy;have a1:=hB.fn2;have a2:=hB.kind2;have a3:=hB.dfr;have a4:=hB.J5r;have a5:=hB.round';simp only at a1 a2 a3 a4 a5 ht;subst a1 a2 a3 a4 a5 ht;rfl
   have htm:TmR C S b.fn E1 g1.frame.tmps fy.tmps:=by
    have:=hB.tmps
    rwa [<- hB.fn,hB.fn2] at this
   have hho:∀ i,(C.hl b.fn).contains i=true->fy.tmps[i]?=t'[i]?:=by
    have:=hB.hold
    rwa [<- hB.fn,hB.fn2] at this
   have htd:=hB.todo;have fin:fy.todo=k->Runs C.st C.P main (Jaa C S b t' ds k cs E Q) ⟨Jce,X1,⟨fy,B.cs,.running,none,none⟩,wy⟩:=fun hk'=>
    .stop fun w2 hr=>⟨E1,⟨g1.frame.tmps,d⟩,w1,fy.tmps,hs,hL1.rely hr,htm,hho,.inl ⟨hq,by show (⟨fy,B.cs,.running,none,none⟩:Goroutine)=_;rw [e k hk'];rfl⟩⟩
   have step:∀ ops,fy.todo=.inRegion ops []::k->Runs C.st C.P main (Jaa C S b t' ds k cs E Q) ⟨Jce,X1,⟨fy,B.cs,.running,none,none⟩,wy⟩:=by
    intro ops ho;have e':(⟨fy,B.cs,.running,none,none⟩:Goroutine)=G (b.at ⟨fy.tmps,ds⟩ (.inRegion ops []::k)) cs:=by rw [e _ ho];rfl
    rw [e'];refine Runs.idle (g':=G (b.at ⟨fy.tmps,ds⟩ k) cs) (fun w1=>stepG_region_end) rfl rfl rfl fun w2 hr=>?_;exact .stop fun w3 hr3=>⟨E1,⟨g1.frame.tmps,d⟩,w1,fy.tmps,hs,(hL1.rely hr).rely hr3,htm,hho,.inl ⟨hq,rfl⟩⟩
   rcases q3 with q3|⟨ops,q3⟩
   ·rw [q3] at htd;generalize hx:([Jt]:List Item)=x at htd;generalize hy:fy.todo=y at htd;cases htd with
    | @code l l' _ hi=>
     cases hi with
     | nil=>exact fin hy
     | cons h1 h2=>simp at hx
    | ops is h=>simp at hx
   ·rw [q3] at htd;generalize hx:([.inRegion ops [],Jt]:List Item)=x at htd;generalize hy:fy.todo=y at htd;cases htd with
    | @code l l' _ hi=>
     cases hi with
     | nil=>simp at hx
     | cons h1 h2=>
      cases h2 with
      | nil=>
       simp only [Jc7,Jc8,List.cons.injEq,and_true] at hx;subst hx;cases h1 with
       | inRegion is hr=>exact step ops hy
      | cons h3 h4=>simp at hx
    | @ops ops2 is h=>
     simp only [List.cons.injEq,Item.inRegion.injEq,and_true] at hx;obtain ⟨rfl,rfl⟩:=hx;exact step ops hy
 ·obtain ⟨Jce,X1,gy,wy⟩:=y;obtain ⟨fy,csy,sty,dy,oy⟩:=gy;obtain ⟨z1,z2,z3,z4,z5,z6,z7,z8,z9,z10,z11,z12,z13,z14,z15,z16,z17⟩:=he;simp only at z2 z3 z5 z6 z9 z11 z12 z13 z14 z15 z16;subst z2 z9 z11 z12;have htm:TmR C S b.fn E1 g1.frame.tmps fy.tmps:=by rwa [<- z3,z16] at z6
  have hho:∀ i,(C.hl b.fn).contains i=true->fy.tmps[i]?=t'[i]?:=by
   have:=z17
   rwa [<- z3,z16] at this
  refine .stop fun w2 hr=>⟨E1,⟨g1.frame.tmps,d⟩,w1,fy.tmps,hs,hL1.rely hr,htm,hho,.inr ⟨hq,fy.todo,?_⟩⟩;obtain ⟨f1,f2,f3,f4,f5,f6,f7⟩:=fy;simp only at z3 z5 z13 z14 z15 z16;subst z5 z13 z14 z15 z16;rfl
end
end Go.Sim
namespace Go.Sim
open Go.Conc Go.ConcN Go.RowKit Go.Conc.Lib Go.ConcR.Gen Go.ConcN.Gen
open Go.ConcR (KK wgBlock WgAt stA smA rd wr mk Payload DC0)
section
variable [Payload] {L:WgLink}
def K1D (P:Program) (g:Goroutine) (w:World):Prop:=∃ g',stepG P false g w=.go g' w #[mk .disable]
def R0D (P:Program) (R:World->World->Prop) (Wg:Nat) (g:Goroutine) (w:World):Prop:=∃ g',stepG P false g w=.go g' w #[mk (.releaseMerge (stA Wg))]/\∃ m,Goes P false R DC0 (K1D P) m g' w
section
variable {P:Program} {R:World->World->Prop} (hR:∀ w,R w w) {ty:TypeId} {Wg C n Low k:Nat} {Own Rd:Nat->Loc->Prop} {val:Value}
include hR
theorem Jpg {n':Nat}:∀ {m:Nat} {g:Goroutine} {w:World},Goes P false R (DWs Wg Own Rd C n k) (AtR0 P ty Wg C n Low k val) n' g w->Goes P false R DC0 (K1D P) m g w->False:=by
 intro m
 induction m generalizing n' with
 | zero=>
  intro g w h1 h2;obtain ⟨g',hg'⟩:=h2 w (hR w);rcases Goes.cases h1 with hs|⟨n2,_,hs⟩
  ·obtain ⟨_,_,g2,hg2,_⟩:=hs w (hR w);rw [hg'] at hg2;simp [mk] at hg2
  ·obtain ⟨g2,w2,es,hg2,⟨_,hev⟩,_⟩:=hs w (hR w);rw [hg'] at hg2;simp only [GStep.go.injEq] at hg2;obtain ⟨_,_,rfl⟩:=hg2;exact (hev (mk .disable) (by simp)).2.1 rfl
 | succ m ih=>
  intro g w h1 h2;rcases Goes.cases h2 with hk|⟨m2,e,hk⟩
  ·obtain ⟨g',hg'⟩:=hk w (hR w);rcases Goes.cases h1 with hs|⟨n2,_,hs⟩
   ·obtain ⟨_,_,g2,hg2,_⟩:=hs w (hR w);rw [hg'] at hg2;simp [mk] at hg2
   ·obtain ⟨g2,w2,es,hg2,⟨_,hev⟩,_⟩:=hs w (hR w);rw [hg'] at hg2;simp only [GStep.go.injEq] at hg2;obtain ⟨_,_,rfl⟩:=hg2;exact (hev (mk .disable) (by simp)).2.1 rfl
  ·obtain rfl:m2=m:=by omega
   obtain ⟨g',w',es,hg',⟨rfl,rfl⟩,hk'⟩:=hk w (hR w);rcases Goes.cases h1 with hs|⟨n2,_,hs⟩
   ·obtain ⟨_,_,g2,hg2,_⟩:=hs w' (hR w');rw [hg'] at hg2;simp at hg2
   ·obtain ⟨g2,w2,es,hg2,_,hg3⟩:=hs w' (hR w');rw [hg'] at hg2;simp only [GStep.go.injEq] at hg2;obtain ⟨rfl,rfl,_⟩:=hg2;exact ih hg3 hk'
theorem follow {n':Nat}:∀ {m:Nat} {g:Goroutine} {w:World},g.status=.running->Goes P false R (DWs Wg Own Rd C n k) (AtR0 P ty Wg C n Low k val) n' g w->Goes P false R DC0 (R0D P R Wg) m g w->Goes P false R DC0 (AtR0 P ty Wg C n Low k val) m g w:=by
 have Jph:∀ {n' m:Nat} {g:Goroutine} {w:World},Goes P false R (DWs Wg Own Rd C n k) (AtR0 P ty Wg C n Low k val) n' g w->(∀ w₁,R w w₁->R0D P R Wg g w₁)->Goes P false R DC0 (AtR0 P ty Wg C n Low k val) m g w:=by
  intro n' m g w h1 hk;rcases Goes.cases h1 with hs|⟨n2,_,hs⟩
  ·exact .stop hs
  ·exfalso;obtain ⟨g',hg',m2,hm⟩:=hk w (hR w);obtain ⟨g2,w2,es,hg2,_,hg3⟩:=hs w (hR w);rw [hg'] at hg2;simp only [GStep.go.injEq] at hg2;obtain ⟨rfl,rfl,_⟩:=hg2;exact Jpg hR hg3 hm
 intro m
 induction m generalizing n' with
 | zero=>intro g w _ h1 h2;exact Jph h1 h2
 | succ m ih=>
  intro g w hrun h1 h2;rcases Goes.cases h2 with hk|⟨m2,e,hk⟩
  ·exact Jph h1 hk
  ·obtain rfl:m2=m:=by omega
   refine .step hrun fun w₁ hw₁=>?_;obtain ⟨g',w',es,hg',hd,hk'⟩:=hk w₁ hw₁;rw [hg'];rw [goes_go];refine ⟨hd,?_⟩;obtain ⟨rfl,rfl⟩:=hd;rcases Goes.cases h1 with hs|⟨n2,_,hs⟩
   ·obtain ⟨_,_,g2,hg2,_⟩:=hs w' hw₁;rw [hg'] at hg2;simp at hg2
   ·obtain ⟨g2,w2,es,hg2,_,hg3⟩:=hs w' hw₁;rw [hg'] at hg2;simp only [GStep.go.injEq] at hg2;obtain ⟨rfl,rfl,_⟩:=hg2;exact ih (Goes.running (fun _ _ x=>x.1) w' (hR w') hg3) hg3 hk'
end
set_option maxHeartbeats 8000000 in
theorem Jvr {P:Program} (H:WgLib P L) {Wg C n Low k:Nat} {val:Value} {b₀:Frame} {a₀:Act} {ops₀:Array Oper} {i₀:Nat} {rest₀:List Nat} {k₀:List Item} {cs:List Frame}
  (w:World) (hK:WgLive L.tWg Wg w/\Has C (k-1) val w) :
  Goes P false (RW L.tWg Wg C n Low (k-1)) DC0 (R0D P (RW L.tWg Wg C n Low (k-1)) Wg) 20 (G ((base L.add).at ⟨#[.pointer (some ⟨Wg,0,none⟩),.int .i64 (-1),undef,undef,undef,undef,undef,undef,undef,undef,undef,undef,undef,undef,undef,undef,undef,undef,undef,undef,undef,undef,undef,undef,undef,undef,undef,undef,undef,undef,undef,undef,undef,undef,undef,undef,undef,undef,undef,undef,undef,undef,undef,undef,undef,undef,undef,undef,undef,undef,undef,undef,undef,undef,undef,undef,undef,undef,undef,undef,undef,undef,undef,undef,undef,undef,undef,undef,undef,undef,undef,undef,undef,undef,undef,undef,undef,undef,undef,undef,undef,undef,undef,undef,undef,undef,undef,undef,undef,undef,undef,undef,undef,undef,undef,undef,undef,undef,undef,undef,undef,undef,undef,undef,undef,undef,undef,undef,undef,undef,undef,undef,undef,undef,undef,undef,undef],[]⟩ [.code (body_add L)]) (b₀.at a₀ (.inRegion ops₀ (i₀::rest₀)::k₀)::cs)) w:=by
 lib_facts
 simp only [body_add,addFn,Ja6]
 u_c stepG_seq kn_rely hK
 u_cond true kn_rely hK
 u_c stepG_seq kn_rely hK
 u_c stepG_seq kn_rely hK
 u_reg kn_rely hK
 u_op kn_rely hK
 u_op kn_rely hK
 u_c stepG_region_end kn_rely hK
 u_cond true kn_rely hK
 u_reg kn_rely hK
 u_op kn_rely hK
 u_conv H.underlying_tWgP H.room_tWg (WgLive.cell0 hK.1).choose_spec kn_rely hK
 refine Goes.stop (fun w₁ h₁=>?_);replace hK:=kn_rely hK h₁;clear h₁;refine ⟨_,stepG_markAt .releaseMerge (by simp) rfl rfl (by k_ne) rfl H.f_relMerge (x_relMerge_n L) (x_relMerge_b L) (x_relMerge_x L) (x_relMerge_f L) (by simp [Act.eval,stA]),10,?_⟩
 walk_nrm
 u_c stepG_region_end kn_rely hK
 u_c stepG_seq kn_rely hK
 u_reg kn_rely hK
 refine Goes.stop (fun w₁ h₁=>?_);exact ⟨_,stepG_mark0 .disable (by simp) rfl rfl (by k_ne) rfl H.f_disable (x_disable_n L) (x_disable_b L) (x_disable_x L) (x_disable_f L)⟩
theorem J03g {P:Program} (H:WgLib P L) {Wg C n Low k:Nat} {val:Value} {c:Frame} {cs:List Frame} {qt:Nat}
  (hcm:c.mode=.returning) (hT:QuitsD P qt 0 (G c cs)) (w:World) (hK:WgLive L.tWg Wg w/\Has C (k-1) val w) :
  Goes P false (RW L.tWg Wg C n Low (k-1)) DC0 (AtR0 P L.tWg Wg C n Low k val) 23 (G ((baseD L.done).at ⟨#[.pointer (some ⟨Wg,0,none⟩),undef,undef,undef],[]⟩ [.code (body_done L)]) (c::cs)) w:=by
 refine follow (fun w=>RW.refl w) rfl (doneN (Own:=fun _ _=>False) (Rd:=fun _ _=>False) H hcm hT w hK) ?_
 lib_facts
 have hA:=@Jvr _ L P H Wg C n Low k val;simp only [body_done,body_add,doneFn,addFn,Ja6] at hA ⊢
 u_reg kn_rely hK
 u_op kn_rely hK
 u_in kn_rely hK
 refine goes_call rfl rfl (by k_ne) rfl H.f_add (nm_add L) rfl ⟨by u_nil,?_⟩
 walk_nrmf addFn
 exact hA _ hK
end
end Go.Sim
namespace Go.Sim.Z
open Go Go.Proofs
abbrev link:Go.Conc.Lib.WgLink:={ add:=62,done:=64,wait:=66,relMerge:=80,disable:=81,enable:=82,inBubble:=83,associate:=84,fatal:=85,uOr:=86,uAdd:=87,raceRead:=88,uLoad:=89,uStore:=90,disassociate:=91,semrelease:=92,acquire:=95,isAssociated:=96,uCas:=97,raceWrite:=98,semacquire:=99,orU64:=123,addU64:=124,loadU64:=125,storeU64:=126,casU64:=127,tWgP:=159,tUP:=161,tAssoc:=163,tWg:=146,tAU:=144,tU64:=45,tUint:=129,tU32:=101,tPU32:=167,tPAU:=195,tPU64:=197,tNoCopy:=140,tANoCopy:=141,tAlign64:=142 }
theorem wgLib:Go.Conc.Lib.WgLib Tryz.prog link:=
 ⟨Tryz.func62,Tryz.func64,Tryz.func66,Tryz.func80,Tryz.func81,Tryz.func82,Tryz.func83,Tryz.func84,Tryz.func85,Tryz.func86,Tryz.func87,Tryz.func88,Tryz.func89,Tryz.func90,Tryz.func91,Tryz.func92,Tryz.func95,Tryz.func96,Tryz.func97,Tryz.func98,Tryz.func99,Tryz.func123,Tryz.func124,Tryz.func125,Tryz.func126,Tryz.func127,Tryz.underlying159,Tryz.runUnderlying159,Tryz.sizeOf159,Tryz.isAgg159,Tryz.zeroValue159,Tryz.underlying161,Tryz.runUnderlying161,Tryz.sizeOf161,Tryz.isAgg161,Tryz.zeroValue161,Tryz.underlying163,Tryz.runUnderlying163,Tryz.sizeOf163,Tryz.isAgg163,Tryz.zeroValue163,Tryz.underlying146,Tryz.runUnderlying146,Tryz.sizeOf146,Tryz.isAgg146,Tryz.zeroValue146,Tryz.underlying144,Tryz.runUnderlying144,Tryz.sizeOf144,Tryz.isAgg144,Tryz.zeroValue144,Tryz.underlying45,Tryz.runUnderlying45,Tryz.sizeOf45,Tryz.isAgg45,Tryz.zeroValue45,Tryz.underlying129,Tryz.runUnderlying129,Tryz.sizeOf129,Tryz.isAgg129,Tryz.zeroValue129,Tryz.underlying101,Tryz.runUnderlying101,Tryz.sizeOf101,Tryz.isAgg101,Tryz.zeroValue101,Tryz.underlying167,Tryz.runUnderlying167,Tryz.sizeOf167,Tryz.isAgg167,Tryz.zeroValue167,Tryz.underlying195,Tryz.runUnderlying195,Tryz.sizeOf195,Tryz.isAgg195,Tryz.zeroValue195,Tryz.underlying197,Tryz.runUnderlying197,Tryz.sizeOf197,Tryz.isAgg197,Tryz.zeroValue197,Tryz.underlying0,Tryz.runUnderlying0,Tryz.sizeOf0,Tryz.isAgg0,Tryz.zeroValue0,Tryz.underlying3,Tryz.runUnderlying3,Tryz.sizeOf3,Tryz.isAgg3,Tryz.zeroValue3,Tryz.underlying4,Tryz.runUnderlying4,Tryz.sizeOf4,Tryz.isAgg4,Tryz.zeroValue4,Tryz.underlying9,Tryz.runUnderlying9,Tryz.sizeOf9,Tryz.isAgg9,Tryz.zeroValue9,Tryz.underlying20,Tryz.runUnderlying20,Tryz.sizeOf20,Tryz.isAgg20,Tryz.zeroValue20,Tryz.underlying21,Tryz.runUnderlying21,Tryz.sizeOf21,Tryz.isAgg21,Tryz.zeroValue21,(by kernel_rfl),(by kernel_rfl)⟩
instance:Go.ConcR.Payload:=⟨138⟩
end Go.Sim.Z
namespace Go.Sim.Z
open Go Go.Proofs Go.Conc Go.ConcN Go.RowKit Go.Conc.Lib Go.ConcR.Gen Go.ConcN.Gen
open Go.ConcR (KK wgBlock WgAt stA smA rd wr mk Payload DC0)
def J8x:Code->Code | .seq a _=>a|c=>c
def J3l:Code->Code | .seq _ b=>b|c=>c
noncomputable def b63:Code:=Tryz.f63.body.getD .skip
noncomputable def c1:Code:=J8x (J3l b63)
noncomputable def cM:Code:=J8x (J3l (J3l b63))
def J3x:Oper:={ dst:=none,op:=.defer { callee:=.value (.func 64),args:=#[.tmp 0],argTypes:=#[146] },type:=0,pos:= "table.go:76",after:=#[],guard:=none }
def J0z:Array Oper:=#[{ dst:=some 37,op:=.load 3 (.tmp 1),type:=3,pos:= "table.go:83",after:=#[],guard:=none },
 { dst:=some 38,op:=.move (.tmp 7),type:=70,pos:= "table.go:83",after:=#[],guard:=none },
 { dst:=some 39,op:=.indexAddr 138 (.tmp 6) (.tmp 37),type:=0,pos:= "table.go:83",after:=#[{ on:=0,ground:=.data },{ on:=0,ground:=.phase },{ on:=1,ground:=.phase }],guard:=none },
 { dst:=none,op:=.store 70 (.tmp 39) (.tmp 38),type:=0,pos:= "table.go:83",after:=#[{ on:=2,ground:=.data },{ on:=1,ground:=.data },{ on:=0,ground:=.phase },{ on:=1,ground:=.phase }],guard:=none }]
def c7:Code:=.region 7 J0z false
theorem Jx8:b63=.seq (.region 0 #[J3x] false) (.seq c1 (.seq cM c7)):=by kernel_rfl
theorem Jx9:Tryz.f63.body=some b63:=by kernel_rfl
theorem Jub (Sh:Nat->Prop):J0k (C1 Sh) 63:=⟨Tryz.f63,by kernel_rfl,by kernel_rfl,by kernel_rfl⟩
theorem J03h (Sh:Nat->Prop):Jj (C1 Sh) S1 63 c1=true:=by kernel_rfl
theorem J03i (Sh:Nat->Prop):Jj (C1 Sh) S1 63 cM=true:=by kernel_rfl
noncomputable def bot:Frame:={ (default:Frame) with fn:=Tryz.prog.funcs.size,defers:=[],mode:=.panicking [goexitEntry] }
theorem Jvs {Sh:Nat->Prop} {E:J5} {own X:Nat->Prop} {w0 w:World} {t T:Array Value} {A1 A2:Array Value->World->Prop} (hL:Link (C1 Sh) S1 E own X w0 w) (ht:TmR (C1 Sh) S1 63 E t T)
  (K1:∀ τ,c1.wp Tryz.prog (fun e a w1=>e=.normal/\A1 a.tmps w1) ⟨t,[Jp]⟩ (w0.tp τ 0))
  (K2:∀ t1 w1,A1 t1 w1->∀ τ,cM.wp Tryz.prog (fun e a w2=>e=.normal/\A2 a.tmps w2) ⟨t1,[Jp]⟩ (w1.tp τ 0)) :
  Runs true Tryz.prog false (fun y=>∃ E2 t2 w2 T2,Sub E E2/\Link (C1 Sh) S1 E2 y.own y.X w2 y.w/\TmR (C1 Sh) S1 63 E2 t2 T2/\(∀ i,i=0\/i=6->T2[i]?=T[i]?)/\A2 t2 w2/\y.g=G ((baseD 63).at ⟨T2,[dcall 64 #[T.getD 0 undef]]⟩ [.code c7]) [bot])
   ⟨own,X,G ((baseD 63).at ⟨T,[]⟩ [.code b63]) [bot],w⟩:=by
 have hol:∀ i,i=0\/i=6->((C1 Sh).hl (baseD 63).fn).contains i=true:=by rintro i (rfl|rfl)<;>rfl
 rw [Jx8];refine Runs.idle (fun w1=>stepG_seq) rfl rfl rfl fun wa ra=>?_;replace hL:=hL.rely ra;clear ra;refine Runs.idle (fun w1=>stepG_region) rfl rfl rfl fun wb rb=>?_;replace hL:=hL.rely rb;clear rb;have hd:∀ w1,stepG Tryz.prog false (G ((baseD 63).at ⟨T,[]⟩ (.inRegion #[J3x] (List.range (#[J3x]:Array Oper).size)::[.code (.seq c1 (.seq cM c7))])) [bot]) w1 =
   .go (G ((baseD 63).at ⟨T,[dcall 64 #[T.getD 0 undef]]⟩ (.inRegion #[J3x] []::[.code (.seq c1 (.seq cM c7))])) [bot]) w1 #[]:=fun w1=>by
  have:=stepG_defer (P:=Tryz.prog) (main:=false) (b:=baseD 63) (a:=⟨T,[]⟩) (k:=[.code (.seq c1 (.seq cM c7))]) (cs:=[bot]) (w:=w1) (ops:=#[J3x]) (i:=0) (rest:=[]) (o:=J3x) (f:=64) rfl rfl (by simp [baseD]) (show J3x.op=.defer { callee:=.value (.func 64),args:=#[.tmp 0],argTypes:=#[146] } from rfl);rw [show (List.range (#[J3x]:Array Oper).size)=[0] from rfl,this];simp [Act.put,J3x,Act.eval]
 refine Runs.idle hd rfl rfl rfl fun wc rc=>?_;replace hL:=hL.rely rc;clear rc;refine Runs.idle (fun w1=>stepG_region_end) rfl rfl rfl fun wd rd=>?_;replace hL:=hL.rely rd;clear rd;refine Runs.idle (fun w1=>stepG_seq) rfl rfl rfl fun we re=>?_;replace hL:=hL.rely re;clear re;refine (J8w (Jp5 Sh) (b:=baseD 63) (k:=[.code (.seq cM c7)]) (cs:=[bot]) (ds:=[dcall 64 #[T.getD 0 undef]]) (J03h Sh) (Jub Sh) rfl (by simp [C1,baseD]) (by simp [baseD]) hL ht K1 (fun _ _ _ h=>.inl h.1)).bind ?_;rintro ⟨Jce,X1,g1,wf⟩ ⟨E1,a1,w1,T1,hs1,hL1,ht1,hh1,⟨⟨_,hA1⟩,hg1⟩|⟨⟨h0,_⟩,_⟩⟩
 rotate_left
 ·cases h0
 simp only at hL1 hg1;subst hg1;refine Runs.idle (fun w1=>stepG_seq) rfl rfl rfl fun wg rg=>?_;replace hL1:=hL1.rely rg;clear rg;refine (J8w (Jp5 Sh) (b:=baseD 63) (k:=[.code c7]) (cs:=[bot]) (ds:=[dcall 64 #[T.getD 0 undef]]) (J03i Sh) (Jub Sh) rfl (by simp [C1,baseD]) (by simp [baseD]) hL1 ht1 (K2 a1.tmps w1 hA1) (fun _ _ _ h=>.inl h.1)).mono ?_;rintro ⟨own2,X2,g2,wh⟩ ⟨E2,a2,w2,T2,hs2,hL2,ht2,hh2,⟨⟨_,hA2⟩,hg2⟩|⟨⟨h0,_⟩,_⟩⟩
 rotate_left
 ·cases h0
 exact ⟨E2,a2.tmps,w2,T2,hs1.trans hs2,hL2,ht2,fun i hi=>(hh2 i (hol i hi)).trans (hh1 i (hol i hi)),hA2,hg2⟩
theorem Jpi:(Tryz.prog.funcs[(baseD 63).fn]?).any (·.norace)=false:=by kernel_rfl
section
variable {main:Bool} {b:Frame} {a:Act} {kk:List Item} {cs:List Frame} {w:World} {ops:Array Oper} {i:Nat} {rest:List Nat} {o:Oper}
theorem Jgq {x y:Operand} (ho:ops[i]?=some o) (hw:Region.wanted o (yielded ops a.tmps)=true) (hk:b.kind≠.early) (hop:o.op=.store 70 x y)
  {ad:Addr} {v:Option Nat} {u:Value} (hx:a.eval x=.pointer (some ad)) (hy:a.eval y=.map v) (hc:w.cell? ad=some u) (hz:w.frozen? ad=false) (hq:(Tryz.prog.funcs[b.fn]?).any (·.norace)=false) :
  stepG Tryz.prog main (G (b.at a (.inRegion ops (i::rest)::kk)) cs) w=.go (G (b.at (a.put o.dst undef) (.inRegion ops rest::kk)) cs) (w.setCell ad (.map v)) #[⟨.cell ad,true,false⟩]:=by
 have hr:(execOp a.eval o).run Tryz.prog w=.ok .skip (w.setCell ad (.map v)):=by unfold execOp;simp only [hop,hx,hy];simp [go_sem,stored,hc,hz]
 have he:(execOp a.eval o).events Tryz.prog w #[]=#[⟨.cell ad,true,false⟩]:=by unfold execOp;simp only [hop,hx,hy];simp [go_sem,events_store Tryz.prog w #[] ad (.map v) .plain rfl,storedEv,hc,hz]
 rw [stepG_none ho hw hk hr];unfold listed;rw [he,seen_eq hq (by simp)]
theorem stepG_load3 {x:Operand} (ho:ops[i]?=some o) (hw:Region.wanted o (yielded ops a.tmps)=true) (hk:b.kind≠.early) (hop:o.op=.load 3 x)
  {ad:Addr} {v:Value} (hx:a.eval x=.pointer (some ad)) (hc:w.cell? ad=some v) (hq:(Tryz.prog.funcs[b.fn]?).any (·.norace)=false) :
  stepG Tryz.prog main (G (b.at a (.inRegion ops (i::rest)::kk)) cs) w=.go (G (b.at (a.put o.dst v) (.inRegion ops rest::kk)) cs) w #[⟨.cell ad,false,false⟩]:=by
 have hr:(execOp a.eval o).run Tryz.prog w=.ok (.value v) w:=by unfold execOp;simp only [hop,hx];simp [go_sem,hc]
 have he:(execOp a.eval o).events Tryz.prog w #[]=#[⟨.cell ad,false,false⟩]:=by unfold execOp;simp only [hop,hx];simp [go_sem,hc]
 rw [stepG_value ho hw hk hr];unfold listed;rw [he,seen_eq hq (by simp)]
end
theorem quitsTail (T:Array Value):QuitsD Tryz.prog 2 0 (G { (baseD 63).at ⟨T,[]⟩ [] with mode:=.returning } [bot]):=by
 refine QuitsD.ctl (g':=G bot []) rfl (fun w=>?_) ?_
 ·simp [G,stepG,unwind,doReturn,results,Frame.at,baseD,bot,Tryz.func63,Tryz.f63,seen,GStep.after,goexitEntry]
 refine QuitsD.ctl (g':={ G bot [] with status:=.finished }) rfl (fun w=>?_) ⟨rfl,rfl⟩;simp [G,stepG,unwind,bot,goexitEntry,Frame.catches];rfl
theorem asideCell_set {w:World} {N n j:Nat} (hp:PayAt N n w) (v:Value):AsideCell N n j w (w.setCell ⟨N,j,none⟩ v):=by
 have hA:=aside_setCell w ⟨N,j,none⟩ v;obtain ⟨arr,h1,h2⟩:=hp;have hb:(w.setCell ⟨N,j,none⟩ v).heap[N]?=some (.cells (arr.setIfInBounds j v) Payload.ety):=by rw [setCell_eq_setRow w N j arr _ (0,0) _ h1,setRow_heap w N _ _ _ _ h1]
 refine ⟨hA.tape,hA.os,hA.output,hA.size,fun b hb'=>hA.block b hb',fun _=>⟨_,hb,by simpa using h2⟩,fun i' hi'=>?_⟩;simp [World.cell?,hb,h1,Ja1 (Ne.symm hi')]
theorem has_set {w:World} {N n j:Nat} (hp:PayAt N n w) (hj:j<n) (v:Value):Has N j v (w.setCell ⟨N,j,none⟩ v):=by
 obtain ⟨arr,h1,h2⟩:=hp;have hb:(w.setCell ⟨N,j,none⟩ v).heap[N]?=some (.cells (arr.setIfInBounds j v) Payload.ety):=by rw [setCell_eq_setRow w N j arr _ (0,0) _ h1,setRow_heap w N _ _ _ _ h1]
 simp [Has,World.cell?,hb,h2,hj]
theorem cellAt {w:World} {N n j:Nat} (h:PayAt N n w) (hj:j<n):∃ u,w.cell? ⟨N,j,none⟩=some u/\w.frozen? ⟨N,j,none⟩=false:=by obtain ⟨arr,h1,h2⟩:=h;exact ⟨arr[j]'(by omega),by simp [World.cell?,h1,h2,hj],by simp [World.frozen?,h1]⟩
theorem Jdc {P:Program} {main:Bool} {R:World->World->Prop} {D D':World->World->Array Event->Prop} {Stop:Goroutine->World->Prop} (h:∀ w w' es,D w w' es->D' w w' es) :
  ∀ {n:Nat} {g:Goroutine} {w:World},Goes P main R D Stop n g w->Goes P main R D' Stop n g w
 | 0,_,_,hg=>hg
 | n+1,g,w,hg=>by
  rcases hg with hs|⟨hr,hs⟩
  ·exact .inl hs
  refine .inr ⟨hr,fun w1 r=>?_⟩;have:=hs w1 r;generalize stepG P main g w1=s at this ⊢;cases s<;>first|exact ⟨h _ _ _ this.1,Jdc h this.2⟩|exact this.elim
theorem Jxa {H:Ph} {i:Nat} {T:Array Value} {r:Option Nat} (hP:H.P=Tryz.prog) (hty:H.ty=146) (hn:H.n=4) (hi:i<4) (hne:H.C≠H.Wg)
  (hT:T.size=40) (h37:T[37]?=some (.int .i64 i)) (h6:T[6]?=some (.pointer (some ⟨H.C,0,none⟩))) (h7:T[7]?=some (.map r)) {w3:World} (hp:PayAt H.C H.n w3) (hg:WgLive H.ty H.Wg w3) :
  ∃ k,Goes H.P false (RW H.ty H.Wg H.C H.n 0 (i+1-1)) (DT H (i+1)) (AtR0 H.P H.ty H.Wg H.C H.n 0 (i+1) (.map r)) k
   (G ((baseD 63).at ⟨T,[dcall 64 #[.pointer (some ⟨H.Wg,0,none⟩)]]⟩ (.inRegion J0z [1,2,3]::[])) [bot]) w3:=by
 have dm:∀ (w:World),DT H (i+1) w w #[]:=fun w=>⟨AsideCell.refl _ _ _ _,fun e he=>by simp at he⟩;generalize hD:DT H (i+1)=DD at *;rw [hP,hty,hn];rw [hn] at hp;rw [hty] at hg;generalize hd:[dcall 64 #[.pointer (some ⟨H.Wg,0,none⟩)]]=ds;refine ⟨6+23,?_⟩;refine Goes.step rfl fun w4 q4=>?_;replace hp:=q4.pay hp;replace hg:=q4.live hg;have st1:stepG Tryz.prog false (G ((baseD 63).at ⟨T,ds⟩ (.inRegion J0z [1,2,3]::[])) [bot]) w4 =
   .go (G ((baseD 63).at ⟨T.setIfInBounds 38 (.map r),ds⟩ (.inRegion J0z [2,3]::[])) [bot]) w4 #[]:=by
  have hr:(execOp (Act.eval ⟨T,ds⟩) J0z[1]).run Tryz.prog w4=.ok (.value (.map r)) w4:=by simp [execOp,J0z,Act.eval,go_sem,h7]
  have he:listed Tryz.prog (baseD 63).fn ⟨T,ds⟩ J0z[1] w4=#[]:=by
   unfold listed;rw [show (execOp (Act.eval ⟨T,ds⟩) J0z[1]).events Tryz.prog w4 #[]=#[] from by simp [execOp,J0z,go_sem],seen_none]
  rw [stepG_value (o:=J0z[1]) rfl rfl (by simp [baseD]) hr,he];rfl
 rw [st1];refine ⟨dm _,?_⟩;refine Goes.step rfl fun w5 q5=>?_;replace hp:=q5.pay hp;replace hg:=q5.live hg;have st2:stepG Tryz.prog false (G ((baseD 63).at ⟨T.setIfInBounds 38 (.map r),ds⟩ (.inRegion J0z [2,3]::[])) [bot]) w5 =
   .go (G ((baseD 63).at ⟨(T.setIfInBounds 38 (.map r)).setIfInBounds 39 (.pointer (some ⟨H.C,i,none⟩)),ds⟩ (.inRegion J0z [3]::[])) [bot]) w5 #[]:=by
  have hr:(execOp (Act.eval ⟨T.setIfInBounds 38 (.map r),ds⟩) J0z[2]).run Tryz.prog w5=.ok (.value (.pointer (some ⟨H.C,i,none⟩))) w5:=by simp [execOp,J0z,Act.eval,go_sem,h6,h37,Jb9];intro h4;omega
  have he:listed Tryz.prog (baseD 63).fn ⟨T.setIfInBounds 38 (.map r),ds⟩ J0z[2] w5=#[]:=by
   unfold listed;rw [show (execOp (Act.eval ⟨T.setIfInBounds 38 (.map r),ds⟩) J0z[2]).events Tryz.prog w5 #[]=#[] from by simp [execOp,J0z,Act.eval,go_sem,h6,h37,Jb9];exact events_indexAt_array 138 _ 4 _ _ _ Tryz.underlying138 ⟨by omega,by omega⟩,seen_none]
  rw [stepG_value (o:=J0z[2]) rfl rfl (by simp [baseD]) hr,he];rfl
 rw [st2];refine ⟨dm _,?_⟩;refine Goes.step rfl fun w6 q6=>?_;replace hp:=q6.pay hp;replace hg:=q6.live hg;obtain ⟨u,hu1,hu2⟩:=cellAt hp hi;have hp0:=hp;rw [Jgq (ad:=⟨H.C,i,none⟩) (v:=r) (o:=J0z[3]) rfl rfl (by simp [baseD]) rfl (by simp [J0z,Act.eval,hT]) (by simp [J0z,Act.eval,hT]) hu1 hu2 Jpi];have hK:=And.intro (let ⟨st,sm,h⟩:=hg;(⟨st,sm,h.of_block ((aside_setCell _ ⟨H.C,i,none⟩ (.map r)).block H.Wg (by simpa using Ne.symm hne))⟩:WgLive 146 H.Wg _)) (has_set hp hi (.map r));clear hp hg hu1 hu2;refine ⟨by subst hD;exact ⟨asideCell_set (hn.symm▸hp0) _,fun e he=>by simpa using he⟩,?_⟩;refine Goes.step rfl fun w7 q7=>?_;replace hK:=And.intro (q7.live hK.1) (q7.cell.trans hK.2);rw [stepG_region_end];refine ⟨dm _,?_⟩;refine Goes.step rfl fun w8 q8=>?_;replace hK:=And.intro (q8.live hK.1) (q8.cell.trans hK.2);rw [stepG_end];refine ⟨dm _,?_⟩;refine Goes.step rfl fun w9 q9=>?_;replace hK:=And.intro (q9.live hK.1) (q9.cell.trans hK.2);rw [stepG_unwind_enter (show Act.defers _=dcall 64 #[.pointer (some ⟨H.Wg,0,none⟩)]::[] from hd.symm) Tryz.func64 (nm_done link) rfl];refine ⟨dm _,?_⟩;have hA:=@J03g _ link Tryz.prog wgLib H.Wg H.C 4 0 (i+1) (.map r);exact Jdc (fun w w' es h=>by obtain ⟨rfl,rfl⟩:=h;exact dm _) (hA rfl (quitsTail _) _ hK)
theorem Jvt {H:Ph} {i s:Nat} {own X:Nat->Prop} {w:World} {T:Array Value} {r:Option Nat} (hP:H.P=Tryz.prog) (hty:H.ty=146) (hn:H.n=4) (hi:i<4) (hne:H.C≠H.Wg)
  (hT:T.size=40) (h1:T[1]?=some (.pointer (some ⟨s,0,none⟩))) (h6:T[6]?=some (.pointer (some ⟨H.C,0,none⟩))) (h7:T[7]?=some (.map r))
  (hs:w.cell? ⟨s,0,none⟩=some (.int .i64 i)) (hX:X s) (hQ:∀ w1,J07 true X w w1->H.Q i own X (.map r) w1) :
  Runs true Tryz.prog false (J52 H i) ⟨own,X,G ((baseD 63).at ⟨T,[dcall 64 #[.pointer (some ⟨H.Wg,0,none⟩)]]⟩ [.code c7]) [bot],w⟩:=by
 refine Runs.idle (fun w1=>stepG_region) rfl rfl rfl fun wa ra=>?_;have hsa:wa.cell? ⟨s,0,none⟩=some (.int .i64 i):=(Jb4 (ra.blocks s hX)).trans hs;have hQa:∀ w1,J07 true X wa w1->H.Q i own X (.map r) w1:=fun w1 r1=>hQ w1 (ra.trans r1);clear hs hQ ra;have e1:T.getD 1 undef=.pointer (some ⟨s,0,none⟩):=by rw [Ja5,h1];rfl
 have e6:T.getD 6 undef=.pointer (some ⟨H.C,0,none⟩):=by rw [Ja5,h6];rfl
 have e7:T.getD 7 undef=.map r:=by rw [Ja5,h7];rfl
 have hl:∀ w1,J07 true X wa w1->stepG Tryz.prog false (G ((baseD 63).at ⟨T,[dcall 64 #[.pointer (some ⟨H.Wg,0,none⟩)]]⟩ (.inRegion J0z (List.range J0z.size)::[])) [bot]) w1 =
   .go (G ((baseD 63).at ⟨T.setIfInBounds 37 (.int .i64 i),[dcall 64 #[.pointer (some ⟨H.Wg,0,none⟩)]]⟩ (.inRegion J0z [1,2,3]::[])) [bot]) w1 #[⟨.cell ⟨s,0,none⟩,false,false⟩]:=by
  intro w1 r1;have hc:=(Jb4 (r1.blocks s hX)).trans hsa;have:=stepG_load3 (main:=false) (b:=baseD 63) (a:=⟨T,[dcall 64 #[.pointer (some ⟨H.Wg,0,none⟩)]]⟩) (kk:=[]) (cs:=[bot]) (w:=w1) (ops:=J0z) (i:=0) (rest:=[1,2,3]) (o:=J0z[0]) (x:=.tmp 1) (ad:=⟨s,0,none⟩) (v:=.int .i64 i) rfl rfl (by simp [baseD]) rfl e1 hc Jpi;rw [show List.range J0z.size=[0,1,2,3] from rfl,this];rfl
 have gr:∀ (Y:Nat->Prop) (w1:World),grown Y w1 w1=Y:=fun Y w1=>by funext b;simp only [grown,eq_iff_iff];exact ⟨fun h=>h.elim id fun h=>by omega,.inl⟩
 refine .step (fun w1=>⟨own,X,_,w1⟩) (fun w1 r1=>⟨⟨_,hl w1 r1,⟨Ja2 _,fun _ _ _=>rfl,rfl,rfl,Ja2 _,fun e he=>?_⟩⟩,rfl,rfl,rfl,(gr own w1).symm,(gr X w1).symm⟩) fun w1 r1=>.stop fun w2 r2=>?_
 ·simp only [Array.mem_singleton] at he;subst he;rw [gr,gr];exact ⟨⟨hX,fun h=>by cases h⟩,rfl⟩
 refine ⟨.map r,hQa w2 (r1.trans r2),fun w3 hp hg=>?_⟩;exact Jxa (T:=T.setIfInBounds 37 (.int .i64 i)) hP hty hn hi hne (by simpa using hT) (by simp [hT]) (by simp [h6]) (by simp [h7]) hp hg
end Go.Sim.Z
section
namespace Go.Sim
open Go Go.Conc
def Jml (C:Cx) (E:J5):Obj->Prop
 | .cells c _ fz=>fz=(0,0)/\AR C E c c
 | .map es _=>EsR C E es es
 | _=>False
structure Jrv (C:Cx) (Sh:Nat->Prop) (w:World):Prop where
 hnd:Sh C.P.globals.size
 at_:∀ b,Sh b->C.P.globals.size<=b/\∃ o,w.heap[b]?=some o/\Jml C (idE Sh) o
def Jxb:Obj->Obj
 | .cells c el _=>.cells c el (0,c.size)
 | o=>o
open Classical in
noncomputable def frz (Sh:Nat->Prop) (w:World):World:={ w with heap:=w.heap.mapIdx fun b o=>if Sh b then Jxb o else o }
section
variable {Sh:Nat->Prop} {w:World}
theorem Jcf:(frz Sh w).heap.size=w.heap.size:=by simp [frz]
theorem Jff {b:Nat} (h:¬ Sh b):(frz Sh w).heap[b]?=w.heap[b]?:=by simp only [frz,Array.getElem?_mapIdx];cases w.heap[b]?<;>simp [h]
theorem Jdd {b:Nat} (h:Sh b):(frz Sh w).heap[b]?=(w.heap[b]?).map Jxb:=by simp only [frz,Array.getElem?_mapIdx];cases w.heap[b]?<;>simp [h]
theorem Jiw (a:Addr):(frz Sh w).cell? a=w.cell? a:=by
 by_cases h:Sh a.block
 ·simp only [World.cell?,Jdd h];cases w.heap[a.block]? with
  | none=>rfl
  | some o=>cases o<;>rfl
 ·simp only [World.cell?,Jff h]
theorem Jvu {b:Nat} {es:Array MapEntry} {ck:Nat} (h:w.heap[b]?=some (.map es ck)):(frz Sh w).heap[b]?=some (.map es ck):=by
 by_cases hs:Sh b
 ·rw [Jdd hs,h];rfl
 ·rw [Jff hs,h]
end
theorem Jmm {C:Cx} {S:Kn} {X:Nat->Prop} {w:World} (hst:C.st=true) (hgs:S.gs=[]) (h:Jrv C C.Sh w) (hX:∀ b,C.Sh b->X b):Link C S (idE C.Sh) (fun _=>False) X (frz C.Sh w) w:=by
 have lt:∀ b,C.Sh b->b<w.heap.size:=fun b hb=>by obtain ⟨_,o,ho,_⟩:=h.at_ b hb;exact (Ja3.1 ho).1
 refine ⟨⟨rfl,fun b b' ⟨e,hb⟩=>?_,fun b c c' h1 h2=>h1.1.symm.trans h2.1,fun b c b2 h1 h2=>h1.1.trans h2.1.symm,fun b hb=>?_,fun b b' o o' ⟨e,hb⟩ h1 h2=>?_,fun e=>(by rw [hst] at e;cases e),fun e=>(by rw [hst] at e;cases e),fun _ b b' ⟨e,hb⟩=>?_⟩,⟨rfl,h.hnd⟩,fun g hg=>(by simp [hgs] at hg),fun b b' ⟨e,hb⟩=>?_⟩
 ·subst e;rw [Jcf];exact ⟨lt b hb,lt b hb⟩
 ·rw [Jcf];exact lt b hb
 ·subst e;obtain ⟨_,o2,ho,hs⟩:=h.at_ b hb;rw [ho] at h2;cases h2;rw [Jdd hb,ho] at h1;cases h1;cases o' with
  | cells c el fz=>
   obtain ⟨hz,hc⟩:=hs;exact ⟨c,fz,rfl,hc,fun _=>⟨rfl,hz⟩,fun hn=>absurd hb hn⟩
  | map es ck=>exact ⟨es,rfl,hs⟩
  | _=>exact hs.elim
 ·subst e;exact ⟨(h.at_ b hb).1,(h.at_ b hb).1⟩
 ·subst e;exact ⟨hX _ hb,fun hn=>absurd hb hn⟩
end Go.Sim
namespace Go.Sim.Z
open Go Go.Proofs Go.Conc Go.ConcN Go.RowKit Go.Conc.Lib Go.ConcR.Gen Go.ConcN.Gen
open Go.ConcR (KK wgBlock WgAt stA smA rd wr mk Payload DC0)
def ptr (b:Nat):Value:=.pointer (some ⟨b,0,none⟩)
def J0h (wg s keys passes mask c parts:Nat):Array Value:=#[ptr wg,ptr s,ptr keys,ptr passes,ptr mask,ptr c,ptr parts]
def T63 (wg s keys passes mask c parts:Nat):Array Value:=J0h wg s keys passes mask c parts++Array.replicate 33 undef
def J87 (wg s keys passes mask c parts:Nat):Deferred:={ target:=.fn (.func 63) (J0h wg s keys passes mask c parts),args:=#[] }
theorem born_step (wg s keys passes mask c parts:Nat) (w:World):stepG Tryz.prog false (born Tryz.prog (J87 wg s keys passes mask c parts)) w =
  .go (G ((baseD 63).at ⟨T63 wg s keys passes mask c parts,[]⟩ [.code b63]) [bot]) w #[]:=by
 have hn:¬ Tryz.f63.name= "runtime.NumGoroutine":=by
  have:(Tryz.f63.name == "runtime.NumGoroutine")=false:=by kernel_rfl
  simpa using this
 have ht:Tryz.f63.ntmps=40:=by kernel_rfl
 simp [born,J87,stepG,unwind,callDeferred,invoke,callFunc,Tryz.func63,seen,GStep.after,G,Frame.enter,Frame.at,baseD,bot,T63,J0h,hn,Jx9,ht]
theorem Jpj {Sh:Nat->Prop} {wg s keys passes mask c parts:Nat} (h1:Sh s) (h2:Sh keys) (h3:Sh passes) (h4:Sh mask) (h5:Sh c) :
  TmR (C1 Sh) S1 63 (idE Sh) (T63 wg s keys passes mask c parts) (T63 wg s keys passes mask c parts):=by
 have hsz:(T63 wg s keys passes mask c parts).size=40:=by simp [T63,J0h]
 have big:∀ i x,(T63 wg s keys passes mask c parts)[i]?=some x->7<=i->x=undef:=by
  intro i x hx h7;rw [T63,Array.getElem?_append_right (by simpa [J0h] using h7),Array.getElem?_replicate] at hx;split at hx
  ·exact (Ja0 hx).symm
  ·cases hx
 have g1:(T63 wg s keys passes mask c parts)[1]?=some (ptr s):=by simp [T63,J0h]
 have g2:(T63 wg s keys passes mask c parts)[2]?=some (ptr keys):=by simp [T63,J0h]
 have g3:(T63 wg s keys passes mask c parts)[3]?=some (ptr passes):=by simp [T63,J0h]
 have g4:(T63 wg s keys passes mask c parts)[4]?=some (ptr mask):=by simp [T63,J0h]
 have g5:(T63 wg s keys passes mask c parts)[5]?=some (ptr c):=by simp [T63,J0h]
 generalize T63 wg s keys passes mask c parts=T at *;refine ⟨rfl,fun i x x' hi hx hx'=>?_,fun i x hi hx=>?_⟩
 ·rw [hx] at hx';cases hx';by_cases h7:7<=i
  ·rw [big i x hx h7];exact VR.undef
  ·have hl:i=0\/i=1\/i=2\/i=3\/i=4\/i=5\/i=6:=by omega
   rcases hl with rfl|rfl|rfl|rfl|rfl|rfl|rfl
   ·rw [show ((C1 Sh).hl 63).contains 0=true from rfl] at hi;exact absurd hi (by simp)
   ·rw [g1] at hx;obtain rfl:=Ja0 hx;exact .ptr 0 none ⟨rfl,h1⟩
   ·rw [g2] at hx;obtain rfl:=Ja0 hx;exact .ptr 0 none ⟨rfl,h2⟩
   ·rw [g3] at hx;obtain rfl:=Ja0 hx;exact .ptr 0 none ⟨rfl,h3⟩
   ·rw [g4] at hx;obtain rfl:=Ja0 hx;exact .ptr 0 none ⟨rfl,h4⟩
   ·rw [g5] at hx;obtain rfl:=Ja0 hx;exact .ptr 0 none ⟨rfl,h5⟩
   ·rw [show ((C1 Sh).hl 63).contains 6=true from rfl] at hi;exact absurd hi (by simp)
 ·have hi':i=7\/i=9\/i=23:=by simpa [S1] using hi
  rw [big i x hx (by omega)];exact ⟨fun r h=>(by cases h),fun h=>(by cases h)⟩
theorem worker {H:Ph} (hP:H.P=Tryz.prog) (hty:H.ty=146) (hn:H.n=4) (hne:H.C≠H.Wg) {Sh X0:Nat->Prop} (hX:∀ b,Sh b->X0 b) {i s keys passes mask c:Nat} (hi:i<4) {w:World}
  (hSh:Jrv (C1 Sh) Sh w) (h1:Sh s) (h2:Sh keys) (h3:Sh passes) (h4:Sh mask) (h5:Sh c) {A:Array Value->World->Prop} {R:Option Nat->World->Prop}
  (K1:∀ τ,c1.wp Tryz.prog (fun e a w1=>e=.normal/\A a.tmps w1) ⟨T63 H.Wg s keys passes mask c H.C,[Jp]⟩ ((frz Sh w).tp τ 0))
  (K2:∀ t1 w1,A t1 w1->∀ τ,cM.wp Tryz.prog (fun e a w2=>e=.normal/\a.tmps.size=40/\a.tmps[1]?=some (ptr s)/\w2.cell? ⟨s,0,none⟩=some (.int .i64 i)/\∃ r,a.tmps[7]?=some (.map r)/\R r w2) ⟨t1,[Jp]⟩ (w1.tp τ 0))
  (hQ:∀ E2 own X w2 w' r r',Sub (idE Sh) E2->Link (C1 Sh) S1 E2 own X w2 w'->VR (C1 Sh) E2 (.map r) (.map r')->R r w2->H.Q i own X (.map r') w') :
  Runs true Tryz.prog false (J52 H i) ⟨fun _=>False,X0,born Tryz.prog (J87 H.Wg s keys passes mask c H.C),w⟩:=by
 have hsz:(T63 H.Wg s keys passes mask c H.C).size=40:=by simp [T63,J0h]
 refine Runs.idle (fun w1=>born_step _ _ _ _ _ _ _ w1) rfl rfl rfl fun wa ra=>?_;have hL:=(Jmm (S:=S1) (C:=C1 Sh) rfl rfl hSh hX).rely ra;refine (Jvs (A2:=fun t w2=>t.size=40/\t[1]?=some (ptr s)/\w2.cell? ⟨s,0,none⟩=some (.int .i64 i)/\∃ r,t[7]?=some (.map r)/\R r w2) hL (Jpj h1 h2 h3 h4 h5) K1 K2).bind ?_;rintro ⟨own,X,g,wz⟩ ⟨E2,t2,w2,T2,hs2,hL2,ht2,hh2,⟨hz2,ht1,hsv,r,hr,hR⟩,hg⟩;simp only at hL2 hg;subst hg;have hE:E2 s s:=hs2 _ _ ⟨rfl,h1⟩;have sz2:T2.size=t2.size:=ht2.size.symm;have J04:∀ (i:Nat) (x:Value),((C1 Sh).hl 63).contains i=false->t2[i]?=some x->∃ x',T2[i]?=some x'/\VR (C1 Sh) E2 x x':=by intro i x hi hx;have hlt:i<t2.size:=(Ja3.1 hx).1;have h':T2[i]?=some (T2[i]'(by omega)):=Ja4 _;exact ⟨_,h',ht2.at_ i x _ hi hx h'⟩
 obtain ⟨x1,hx1,hv1⟩:=J04 1 _ rfl ht1;obtain ⟨x7,hx7,hv7⟩:=J04 7 _ rfl hr;have e1:x1=ptr s:=by
  cases hv1 with
  | ptr o p h=>rw [hL2.wr.fn _ _ _ h hE];rfl
 subst e1;have hm:∃ r',x7=.map r':=by
  cases hv7 with
  | J1n=>exact ⟨_,rfl⟩
  | map h=>exact ⟨_,rfl⟩
 obtain ⟨r',rfl⟩:=hm;have hc:∃ v,wz.cell? ⟨s,0,none⟩=some v/\VR (C1 Sh) E2 (.int .i64 i) v:=hL2.wr.cell hE hsv;obtain ⟨v,hv,hvr⟩:=hc;cases hvr;have g0:(T63 H.Wg s keys passes mask c H.C).getD 0 undef=ptr H.Wg:=by simp [T63,J0h]
 have g6:(T63 H.Wg s keys passes mask c H.C)[6]?=some (ptr H.C):=by simp [T63,J0h]
 rw [g0];have hszT:T2.size=40:=sz2.trans hz2;refine Jvt hP hty hn hi hne hszT hx1 ((hh2 6 (.inr rfl)).trans g6) hx7 hv (hL2.rng _ _ hE).1 fun w1 r1=>?_;exact hQ E2 own X w2 w1 r r' hs2 (hL2.rely r1) hv7 hR
end Go.Sim.Z
end
namespace Go.Sim
open Go Go.Conc
open Go.ConcN (sumTo upd upd_same upd_ne sumTo_upd)
theorem Jab {P:Program} {W:Nat->Prop} {a a':Goroutine} {w0:World} {f:World->World} (hr:a.status=.running) (hs:∀ d,stepG P true a (w0.at d)=.go a' (f (w0.at d)) #[]) (hz:∀ d,w0.heap.size<=(f (w0.at d)).heap.size) :
  ∀ {gs:Array Goroutine} {w:World} {sl:Option (Nat × Nat)} {t:Trace} {q:Nat->Nat},gs[0]?=some a->Cmp P W gs w t q->AtRel w0 w ->
   ∃ (N:Nat) (gs':Array Goroutine) (d:Nat) (sl':Option (Nat × Nat)) (t':Trace) (q':Nat->Nat),
    runNT P N (crowd gs w sl) t=(.next (crowd gs' (f (w0.at d)) sl'),t')/\gs'.size=gs.size/\gs'[0]?=some a'/\Cmp P W gs' (f (w0.at d)) t' q'/\∀ op∈t',op.act.low w0.heap.size:=by
 intro gs w sl t q h0 hC hw;generalize hM:sumTo gs.size q=M
 induction M using Nat.strongRecOn generalizing gs w sl t q with
 | _ M ihM=>
 obtain ⟨d0,rfl⟩:=hw;obtain ⟨i,g,d,sl',hi,hg,hst⟩:=crowd_pick (P:=P) (w:=w0.at d0) (sl:=sl) (Jgb h0 hr hC.lv) ⟨0,a,h0,hr⟩;rcases Nat.eq_zero_or_pos i with rfl|hpos
 ·obtain rfl:g=a:=by rw [h0] at hi;exact (Ja0 hi).symm
  rw [show (w0.at d0).at d=w0.at d from rfl] at hst;have hrunT:=runT_crowd_go (P:=P) (sl:=sl') (i:=0) hi (show stepG P (0 == 0) g _=_ from hs d);have hC':=hC.own (a':=a') (es:=#[]) (w':=f (w0.at d)) h0 (hz d) (own:=fun _=>False) (X:=fun _=>False) (fun e he=>by simp at he) (fun _ _ h=>h) (fun _ h=>h.elim);have hlt:0<gs.size:=(Ja3.1 h0).1;refine ⟨1,_,d,sl',_,q,by simp only [runNT,hst];exact (by rw [hrunT]),by simp,by simp [hlt],hC',fun op hop=>?_⟩;rcases Array.mem_append.1 hop with h1|h1
  ·exact hC.past.seen op h1
  ·obtain ⟨e,he,rfl⟩:=Conc.mem_ofEvents h1;simp at he
 ·have hi0:(i == 0)=false:=by simp;omega
  have hlt:i<gs.size:=(Ja3.1 hi).1;cases hqi:q i with
  | zero=>
   have hq:=hC.lv.old i g hpos hi;rw [hqi] at hq;rw [hq.1] at hg;cases hg
  | succ n=>
   obtain ⟨g',es,hgo,hC'⟩:=hC.slip hi hpos hg d hqi;have hrunT:=runT_crowd_go (P:=P) (sl:=sl') (i:=i) hi (by rw [hi0];exact hgo);have hsz:((gs.map (woken P g g' ((w0.at d0).at d))).setIfInBounds i g').size=gs.size:=by simp
   have hsum:sumTo gs.size (upd q i n)+(n+1)=sumTo gs.size q+n:=by have:=sumTo_upd q n id hlt;simpa [hqi] using this
   obtain ⟨N,gs',d',sl'',t',q',hr1,hs1,h01,hC1,hlo⟩:=ihM (sumTo gs.size (upd q i n)) (by omega) (gs:=(gs.map (woken P g g' ((w0.at d0).at d))).setIfInBounds i g') (w:=(w0.at d0).at d) (sl:=sl') (t:=_) (q:=upd q i n)
    (by rw [Ja1 (by omega),Array.getElem?_map,h0];simp [woken_run hr])
    hC' ⟨d,rfl⟩ (by rw [hsz])
   exact ⟨N+1,gs',d',sl'',t',q',by simp only [runNT,hst,hrunT];exact hr1,hs1.trans hsz,h01,hC1,hlo⟩
structure Kept (W W':Nat->Prop) (w w':World):Prop where
 le:∀ b,W b->W' b
 keep:∀ b,W b->w'.heap[b]?=w.heap[b]?
 os:w'.os=w.os
 out:w'.output=w.output
theorem Kept.refl {W:Nat->Prop} {w:World}:Kept W W w w:=⟨fun _ h=>h,fun _ _=>rfl,rfl,rfl⟩
theorem Kept.trans {W W1 W2:Nat->Prop} {w w1 w2:World} (h:Kept W W1 w w1) (k:Kept W1 W2 w1 w2):Kept W W2 w w2:=
 ⟨fun b hb=>k.le b (h.le b hb),fun b hb=>(k.keep b (h.le b hb)).trans (h.keep b hb),k.os.trans h.os,k.out.trans h.out⟩
theorem Jix {P:Program} {W0 W Z:Nat->Prop} {Stop:Sit->Prop} {y:Sit} (hR:Runs false P true Stop y) :
  ∀ {gs:Array Goroutine} {w:World} {sl:Option (Nat × Nat)} {t:Trace} {q:Nat->Nat},gs[0]?=some y.g->y.g.status=.running->Cmp P W0 gs w t q->AtRel y.w w->(∀ b,W0 b->¬ y.X b)->(∀ b,W b->b<y.w.heap.size/\¬ y.own b)->(∀ b,Z b->b<y.w.heap.size/\¬ y.X b)->(∀ b,y.X b->b<y.w.heap.size) ->
   ∃ (N:Nat) (gs':Array Goroutine) (y':Sit) (sl':Option (Nat × Nat)) (t':Trace) (q':Nat->Nat),
    runNT P N (crowd gs w sl) t=(.next (crowd gs' y'.w sl'),t')/\gs'.size=gs.size/\gs'[0]?=some y'.g/\Stop y'/\Cmp P W0 gs' y'.w t' q'/\(∀ b,W b->¬ y'.own b)/\(∀ b,Z b->¬ y'.X b)/\(∀ b,y'.X b->b<y'.w.heap.size)/\Kept W W y.w y'.w/\y.w.heap.size<=y'.w.heap.size:=by
 induction hR with
 | @stop y h=>
  intro gs w sl t q h0 hr hC hw hd ho hz hX;obtain ⟨d,rfl⟩:=hw;exact ⟨0,gs,{ y with w:=y.w.at d },sl,t,q,rfl,rfl,h0,h _ (.at d),hC,fun b hb=>(ho b hb).2,fun b hb=>(hz b hb).2,hX,⟨fun _ h=>h,fun _ _=>rfl,rfl,rfl⟩,Ja2 _⟩
 | @step y f h k ih=>
  intro gs w sl t q h0 hr hC hw hd ho hz hX;generalize hM:sumTo gs.size q=M
  induction M using Nat.strongRecOn generalizing gs w sl t q with
  | _ M ihM=>
  obtain ⟨d0,rfl⟩:=hw;obtain ⟨i,g,d,sl',hi,hg,hst⟩:=crowd_pick (P:=P) (w:=y.w.at d0) (sl:=sl) (Jgb h0 hr hC.lv) ⟨0,y.g,h0,hr⟩;rcases Nat.eq_zero_or_pos i with rfl|hpos
  ·obtain rfl:g=y.g:=by rw [h0] at hi;exact (Ja0 hi).symm
   have hrel:J07 false y.X y.w ((y.w.at d0).at d):=.at d;have hg1:=h _ hrel;obtain ⟨es,hgo,hG⟩:=hg1.step;have hrunT:=runT_crowd_go (P:=P) (sl:=sl') (i:=0) hi (show stepG P (0 == 0) y.g _=_ from hgo);have hlt:0<gs.size:=(Ja3.1 h0).1;have hd':∀ b,W0 b->¬ (f ((y.w.at d0).at d)).X b:=by
    intro b hb;rw [hg1.X];rintro (hx|⟨hx,_⟩)
    ·exact hd b hb hx
    ·have:=hC.low b hb;exact Nat.lt_irrefl _ (Jb7 this hx)
   have hX':∀ b,(f ((y.w.at d0).at d)).X b->b<(f ((y.w.at d0).at d)).w.heap.size:=by
    intro b;rw [hg1.X];rintro (hx|⟨_,hx⟩)
    ·exact Jb7 (hX b hx) hG.size
    ·exact hx
   have ho':∀ b,W b->b<(f ((y.w.at d0).at d)).w.heap.size/\¬ (f ((y.w.at d0).at d)).own b:=by
    intro b hb;obtain ⟨h1,h2⟩:=ho b hb;refine ⟨Jb7 h1 hG.size,?_⟩;rw [hg1.own];rintro (hx|⟨hx,_⟩)
    ·exact h2 hx
    ·exact Nat.lt_irrefl _ (Jb7 h1 hx)
   have hz':∀ b,Z b->b<(f ((y.w.at d0).at d)).w.heap.size/\¬ (f ((y.w.at d0).at d)).X b:=by
    intro b hb;obtain ⟨h1,h2⟩:=hz b hb;refine ⟨Jb7 h1 hG.size,?_⟩;rw [hg1.X];rintro (hx|⟨hx,_⟩)
    ·exact h2 hx
    ·exact Nat.lt_irrefl _ (Jb7 h1 hx)
   have hK:Kept W W y.w (f ((y.w.at d0).at d)).w:=⟨fun _ h=>h,fun b hb=>hG.keep b (ho b hb).1 (ho b hb).2,hG.os,hG.out⟩;have hC':=hC.own (a':=(f ((y.w.at d0).at d)).g) h0 hG.size hG.evs (fun b hb=>by have:=hd' b hb;rw [hg1.X] at this;exact this) (fun b hb=>hX' b (by rw [hg1.X];exact hb));obtain ⟨N,gs',y',sl'',t',q',hr1,hs1,h01,hS,hC1,ho1,hz1,hX1,hK1,hs2⟩:=ih _ hrel (sl:=sl') (by simp [hlt]) hg1.run hC' ⟨_,rfl⟩ hd' ho' hz' hX';exact ⟨N+1,gs',y',sl'',t',q',by simp only [runNT,hst,hrunT];exact hr1,hs1.trans (by simp),h01,hS,hC1,ho1,hz1,hX1,hK.trans hK1,Jb6 hG.size hs2⟩
  ·have hi0:(i == 0)=false:=by simp;omega
   have hlt:i<gs.size:=(Ja3.1 hi).1;cases hqi:q i with
   | zero=>
    have hq:=hC.lv.old i g hpos hi;rw [hqi] at hq;rw [hq.1] at hg;cases hg
   | succ n=>
    obtain ⟨g',es,hgo,hC'⟩:=hC.slip hi hpos hg d hqi;have hrunT:=runT_crowd_go (P:=P) (sl:=sl') (i:=i) hi (by rw [hi0];exact hgo);have hsz:((gs.map (woken P g g' ((y.w.at d0).at d))).setIfInBounds i g').size=gs.size:=by simp
    have hsum:sumTo gs.size (upd q i n)+(n+1)=sumTo gs.size q+n:=by have:=sumTo_upd q n id hlt;simpa [hqi] using this
    obtain ⟨N,gs',y',sl'',t',q',hr1,hs1,h01,hS,hC1,hd1,hX1⟩:=ihM (sumTo gs.size (upd q i n)) (by omega) (gs:=(gs.map (woken P g g' ((y.w.at d0).at d))).setIfInBounds i g') (w:=(y.w.at d0).at d) (sl:=sl') (t:=_) (q:=upd q i n)
     (by rw [Ja1 (by omega),Array.getElem?_map,h0];simp [woken_run hr])
     hC' ⟨d,rfl⟩ (by rw [hsz])
    exact ⟨N+1,gs',y',sl'',t',q',by simp only [runNT,hst,hrunT];exact hr1,hs1.trans hsz,h01,hS,hC1,hd1,hX1⟩
def wgT:TypeId:=146
def Shy (W0 W:Nat->Prop) (w:World):Prop:=∀ b,W0 b->W b/\∃ a z,w.heap[b]?=some (.cells a wgT z)
def Reach (P:Program) (Post:(Nat->Prop)->Goroutine->World->Prop) (W:Nat->Prop) (g:Goroutine) (w:World):Prop:=
 ∀ (gs:Array Goroutine) (sl:Option (Nat × Nat)) (t:Trace) (q:Nat->Nat) (W0:Nat->Prop),Shy W0 W w->(∀ b,W b->b<w.heap.size)->gs[0]?=some g->Cmp P W0 gs w t q ->
  ∃ (N:Nat) (gs':Array Goroutine) (w':World) (sl':Option (Nat × Nat)) (t':Trace) (q':Nat->Nat) (W' W0':Nat->Prop) (g':Goroutine),
   runNT P N (crowd gs w sl) t=(.next (crowd gs' w' sl'),t')/\gs'[0]?=some g'/\Cmp P W0' gs' w' t' q'/\Post W' g' w'/\Kept W W' w w'/\Shy W0' W' w'/\∀ b,W' b->b<w'.heap.size
section
variable {P:Program} {Post Juc:(Nat->Prop)->Goroutine->World->Prop} {W:Nat->Prop} {g:Goroutine} {w:World}
theorem J55 {m m' m'':Machine} {t t' t'':Trace} {N K:Nat} (h:runNT P N m t=(.next m',t')) (hk:runNT P K m' t'=(.next m'',t'')):runNT P (N+K) m t=(.next m'',t''):=by rw [runNT_add,h];exact hk
theorem Reach.here (h:Post W g w):Reach P Post W g w:=fun gs sl t q W0 hs hl h0 hC=>⟨0,gs,w,sl,t,q,W,W0,g,rfl,h0,hC,h,.refl,hs,hl⟩
theorem Reach.bind (h:Reach P Post W g w) (k:∀ W' g' w',Post W' g' w'->Reach P Juc W' g' w'):Reach P Juc W g w:=by intro gs sl t q W0 hs hl h0 hC;obtain ⟨N,gs',w',sl',t',q',W',W1,g',hr,h0',hC',hP,hK,hs',hl'⟩:=h gs sl t q W0 hs hl h0 hC;obtain ⟨N2,gs2,w2,sl2,t2,q2,W2,W3,g2,hr2,h02,hC2,hP2,hK2,hs2,hl2⟩:=k W' g' w' hP gs' sl' t' q' W1 hs' hl' h0' hC';exact ⟨N+N2,gs2,w2,sl2,t2,q2,W2,W3,g2,J55 hr hr2,h02,hC2,hP2,hK.trans hK2,hs2,hl2⟩
theorem Reach.kept (h:Reach P Post W g w):Reach P (fun W' g' w'=>Post W' g' w'/\Kept W W' w w') W g w:=by intro gs sl t q W0 hs hl h0 hC;obtain ⟨N,gs',w',sl',t',q',W',W1,g',hr,h0',hC',hP,hK,hs',hl'⟩:=h gs sl t q W0 hs hl h0 hC;exact ⟨N,gs',w',sl',t',q',W',W1,g',hr,h0',hC',⟨hP,hK⟩,hK,hs',hl'⟩
theorem Reach.mid {Mid:Goroutine->World->Prop} (h:Reach P (fun W' g' w'=>W'=W/\Mid g' w') W g w) (k:∀ g' w',Mid g' w'->(∀ b,W b->w'.heap[b]?=w.heap[b]?)->Reach P Post W g' w'):Reach P Post W g w:=
 h.kept.bind fun W' g' w' ⟨⟨e,hm⟩,hK⟩=>by subst e;exact k g' w' hm hK.keep
theorem Shy.kept {W0 W':Nat->Prop} {w':World} (h:Shy W0 W w) (k:Kept W W' w w'):Shy W0 W' w':=fun b hb=>by obtain ⟨h1,a,z,h2⟩:=h b hb;exact ⟨k.le b h1,a,z,(k.keep b h1).trans h2⟩
theorem Reach.Jiy {own X Z:Nat->Prop} {Stop:Sit->Prop} (hR:Runs false P true Stop ⟨own,X,g,w⟩) (hr:g.status=.running) (hd:∀ b a z,W b->w.heap[b]?=some (.cells a wgT z)->¬ X b) (hod:∀ b,W b->¬ own b) (hZ:∀ b,Z b->b<w.heap.size/\¬ X b) (hX:∀ b,X b->b<w.heap.size)
  (k:∀ y,Stop y->(∀ b,W b->¬ y.own b)->(∀ b,Z b->¬ y.X b)->(∀ b,y.X b->b<y.w.heap.size)->Kept W W w y.w->Reach P Post W y.g y.w):Reach P Post W g w:=by
 intro gs sl t q W0 hs hl h0 hC;obtain ⟨N,gs',y',sl',t',q',h1,_,h3,h4,h5,h6,h7,h8,h9,h10⟩:=Jix (W:=W) (Z:=Z) hR (sl:=sl) h0 hr hC (atRel_refl w) (fun b hb=>by obtain ⟨a1,a2,a3,a4⟩:=hs b hb;exact hd b a2 a3 a1 a4) (fun b hb=>⟨hl b hb,hod b hb⟩) hZ hX;obtain ⟨N2,gs2,w2,sl2,t2,q2,W2,W3,g2,hr2,h02,hC2,hP2,hK,hs2,hl2⟩:=k y' h4 h6 h7 h8 h9 gs' sl' t' q' W0 (hs.kept h9) (fun b hb=>Jb7 (hl b hb) h10) h3 h5;exact ⟨N+N2,gs2,w2,sl2,t2,q2,W2,W3,g2,J55 h1 hr2,h02,hC2,hP2,h9.trans hK,hs2,hl2⟩
theorem Reach.J4u {own X:Nat->Prop} {Stop:Sit->Prop} (hR:Runs false P true Stop ⟨own,X,g,w⟩) (hr:g.status=.running) (hd:∀ b,W b->¬ X b) (hod:∀ b,W b->¬ own b) (hX:∀ b,X b->b<w.heap.size)
  (k:∀ y,Stop y->(∀ b,W b->¬ y.X b)->(∀ b,y.X b->b<y.w.heap.size)->Reach P Post W y.g y.w):Reach P Post W g w:=by
 intro gs sl t q W0 hs hl h0 hC;exact Reach.Jiy (Z:=W) hR hr (fun b _ _ hb _=>hd b hb) hod (fun b hb=>⟨hl b hb,hd b hb⟩) hX (fun y h1 _ h3 h4 _=>k y h1 h3 h4) gs sl t q W0 hs hl h0 hC
theorem Reach.idle {g':Goroutine} (hs:∀ w1,stepG P true g w1=.go g' w1 #[]) (hr:g.status=.running) (k:∀ w',AtRel w w'->Reach P Post W g' w'):Reach P Post W g w:=by intro gs sl t q W0 hsy hl h0 hC;obtain ⟨N,gs',d,sl',t',q',h1,_,h3,h5,_⟩:=Jab (f:=id) hr (fun d=>hs _) (fun d=>Ja2 _) (sl:=sl) h0 hC (atRel_refl w);obtain ⟨N2,gs2,w2,sl2,t2,q2,W2,W3,g2,hr2,h02,hC2,hP2,hK,hs2,hl2⟩:=k _ ⟨d,rfl⟩ gs' sl' t' q' W0 (hsy.kept (w':=w.at d) ⟨fun _ h=>h,fun _ _=>rfl,rfl,rfl⟩) hl h3 h5;exact ⟨N+N2,gs2,w2,sl2,t2,q2,W2,W3,g2,J55 h1 hr2,h02,hC2,hP2,Kept.trans (w1:=w.at d) ⟨fun _ h=>h,fun _ _=>rfl,rfl,rfl⟩ hK,hs2,hl2⟩
end
end Go.Sim
