/- Proved: laws for the claim. No conditions. -/
import Derived.Control
import Derived.Conc.WgGenN2
import Derived.Tactics
import Derived.RangeFuncRecord
import Derived.RangeFuncSeq
import Derived.Test.YtlcbehhbfglgaaaGreatDoorC06
import Derived.Test.YtlcbehhbfglgaaaGreatDoorC08
set_option linter.all false
set_option maxRecDepth 100000
open Go.Proofs.Tryz
noncomputable section
namespace Go.Sim
open Go.Conc
open Go.ConcN (sumTo upd)
def rng(E:J5):JB:=λb=>∃a,E a b
def idE(X:JB):J5:=λb b'=>b=b'/\X b
structure Md(C C':Cx):Prop where
 fs:∀f,C.F f->C'.F f
 ts:∀t,C.Ed t=true->C'.Ed t=true
 ms:∀n,C.mok n=true->C'.mok n=true
theorem Md.refl(C:Cx):Md C C:=⟨λ_ h=>h,λ_ h=>h,λ_ h=>h⟩
section
variable{C C':Cx}{E:J5}
theorem UD{b b':Nat}(h:E b b'):idE (rng E) b' b':=⟨rfl,b,h⟩
theorem Oj{X Y:JB}(h:∀b,X b->Y b):Sub (idE X) (idE Y):=λ_ _ k=>⟨k.1,h _ k.2⟩
theorem FnR.right(L:Md C C'){f f':Fn}(h:FnR C E f f'):FnR C' (idE (rng E)) f' f':=by
 cases h with
 |func h=>exact .func (L.fs _ h)
 |yield h=>exact .yield (UD h)
 |method h=>exact .method (L.ms _ h)
theorem VR.right(L:Md C C'){v v':JJ}(h:VR C E v v'):VR C' (idE (rng E)) v' v':=by
 have arr:∀{a a':JC},a.size=a'.size->(∀(i:Nat)(x x':JJ),a[i]?=some x->a'[i]?=some x'->VR C' (idE (rng E)) x' x')->∀(i:Nat)(x x':JJ),a'[i]?=some x->a'[i]?=some x'->VR C' (idE (rng E)) x x':=by
  grind
 induction h with
 |bool b=>exact .bool b
 |int k n=>exact .int k n
 |string x=>exact .string x
 |nilPtr=>exact .nilPtr
 |ptr o p h=>exact .ptr o p (UD h)
 |Jk l c=>exact .Jk l c
 |slice o p l c h=>exact .slice o p l c (UD h)
 |I5=>exact .I5
 |map h=>exact .map (UD h)
 |nilFunc=>exact .nilFunc
 |MP=>exact .MP
 |func h ha _ hc _ hx hy=>exact .func (h.right L) rfl (arr ha hx) ⟨rfl,by grind⟩ (arr hc.1 hy)
 |iface t ht _ ih=>exact .iface t (L.ts _ ht) ih
 |nilIface=>exact .nilIface
 |agg ha _ hx=>exact .agg rfl (arr ha hx)
 |tuple ha _ hx=>exact .tuple rfl (arr ha hx)
theorem AR.right(L:Md C C'){a a':JC}(h:AR C E a a'):AR C' (idE (rng E)) a' a':=by refine⟨rfl,λi x x' h1 h2=>?_⟩;rw[h1]at h2;cases h2;have Ac:=(BJ.1 h1).1;have hs:=h.size;exact(h.at_ i a[i] x (by grind) h1).right L
theorem Hl.right(L:Md C C'){e e':MapEntry}(h:Hl C E e e'):Hl C' (idE (rng E)) e' e':=⟨h.key.right L,h.val.right L,rfl⟩
theorem EsR.right(L:Md C C'){e e':Array MapEntry}(h:EsR C E e e'):EsR C' (idE (rng E)) e' e':=by refine⟨rfl,λi x x' h1 h2=>?_⟩;rw[h1]at h2;cases h2;have Ac:=(BJ.1 h1).1;have hs:=h.size;exact(h.at_ i e[i] x (by grind) h1).right L
theorem Fe.right(L:Md C C'){d d':List Deferred}(h:Fe C E d d'):Fe C' (idE (rng E)) d' d':=by
 induction h with
 |nil=>exact .nil
 |@cons d d' l l' h _ ih=>
  refine .cons ⟨?_,h.args.right L,?_⟩ ih
  .have ht:=h.target;generalize d.target=t at ht;generalize d'.target=t' at ht ⊢;cases ht with
   |collected h=>exact .collected (UD h)
   |nil=>exact .nil
   |fn hf hc=>exact .fn (hf.right L) (hc.right L)
  .intro f c e;have ht:=h.target;have hz:=h.sz;have hs:=h.args.size;rw[e]at ht;generalize d.target=t at ht hz;cases ht with
   |fn hf hc=>have:=hz _ _ rfl;have:=hc.size;omega
theorem Kv.right(L:Md C C'){ok ok':JG->Code->Prop}(Cj:∀b,¬C'.Sh b)(Ae:C'.st=false)(hok:C.st=false->ok=ok'/\C.hl=C'.hl){b b':Nat}{o o':Obj}(h:Kv C ok E b o o'):Kv C' ok' (idE (rng E)) b' o' o':=by
 cases o with
 |cells c el fz=>
  obtain⟨c',FU,rfl,h4,_⟩:=h;exact⟨c',FU,rfl,h4.right L,λx=>absurd x (Cj _),λ_=>⟨rfl,λe=>by grind⟩⟩
 |map es ck=>obtain⟨AU,rfl,h⟩:=h;exact⟨AU,rfl,h.right L⟩
 |mapIter m a b c=>
  obtain⟨_,m',rfl,h⟩:=h;refine⟨Cj _,m',rfl,?_⟩;cases m<;>cases m'<;>first|trivial|exact h.elim|exact UD h
 |stringIter a b=>obtain⟨_,rfl⟩:=h;exact⟨Cj _,rfl⟩
 |loop l=>
  obtain⟨_,l',rfl,h⟩:=h;obtain⟨rfl,Um⟩:=hok h.st;refine⟨Cj _,l',rfl,⟨rfl,rfl,rfl,⟨rfl,λi x x' hi h1 h2=>?_⟩,rfl,rfl,rfl,UD h.defers,?_,?_,?_,Ae⟩⟩
  .rw[h1]at h2;cases h2;have Ac:=(BJ.1 h1).1;have hs:=h.tmps.size;exact(h.tmps.at_ i l.tmps[i] x (by rw[Um,h.fn];exact hi) (by grind) h1).right L
  .rw[<- h.fn,<- h.assign];exact h.ok1
  .rw[<- h.fn,<- h.body];exact h.ok2
  .rw[<- h.pending];exact h.ok3
 |deferred ds=>
  obtain⟨_,O4,rfl,h⟩:=h;refine⟨Cj _,O4,rfl,?_⟩;cases ds<;>cases O4<;>first|trivial|exact h.elim|exact Fe.right L h
 |number a l=>obtain⟨_,a',rfl,h⟩:=h;exact⟨Cj _,a',rfl,⟨UD h.block,rfl,rfl⟩⟩
 |_=>exact h.elim
theorem WR.right(L:Md C C'){ok ok':JG->Code->Prop}(Cj:∀b,¬C'.Sh b)(Ae:C'.st=false)(hok:C.st=false->ok=ok'/\C.hl=C'.hl){w w':JE}(h:WR C ok E w w'):WR C' ok' (idE (rng E)) w' w':=by
 refine⟨rfl,λb b' ⟨e,a,ha⟩=>?_,λb c c' h1 h2=>h1.1.symm.trans h2.1,λb c b2 h1 h2=>h1.1.trans h2.1.symm,λb hb=>absurd hb (Cj b),λb b' o o' ⟨e,a,ha⟩ h1 h2=>?_,λ_ b b' h=>h.1,λ_=>rfl,λe=>by grind⟩
 .subst e;exact⟨(h.dom _ _ ha).2,(h.dom _ _ ha).2⟩
 .subst e;rw[h1]at h2;cases h2;obtain⟨x,x',e1,e2,e3⟩:=h.get ha;rw[h1]at e2;cases e2;exact e3.right L Cj Ae hok
theorem VR.eq{E:J5}(hE:∀b b',E b b'->b=b'){v v':JJ}(h:VR C E v v'):v=v':=by
 have arr:∀{a a':JC},a.size=a'.size->(∀(i:Nat)(x x':JJ),a[i]?=some x->a'[i]?=some x'->x=x')->a=a':=by
  intro a a' hs hx;apply Ll
  grind
 induction h with
 |ptr o p h=>rw[hE _ _ h]
 |slice o p l c h=>rw[hE _ _ h]
 |map h=>rw[hE _ _ h]
 |func h ha _ hc _ hx hy=>
  rw[arr ha hx,arr hc.1 hy];cases h with
  |func h=>rfl
  |yield h=>rw[hE _ _ h]
  |method h=>rfl
 |iface t ht _ ih=>rw[ih]
 |agg ha _ hx=>grind
 |tuple ha _ hx=>grind
 |_=>rfl
end
section
variable{st:Bool}{P:Program}{main:Bool}{Stop sJ:Sit->Prop}
theorem BR.refl(st:Bool)(X:JB)(w:JE):BR st X w w:=⟨λ_ _=>rfl,Ad _,λ_=>rfl,rfl⟩
theorem Runs.bind{y:Sit}(h:Runs st P main Stop y)(k:∀y2,Stop y2->Runs st P main sJ y2):Runs st P main sJ y:=by
 induction h with
 |stop h=>exact k _ (h _ (.refl ..))
 |step f h _ ih=>exact .step f h ih
theorem Runs.mono{y:Sit}(h:Runs st P main Stop y)(k:∀y2,Stop y2->sJ y2):Runs st P main sJ y:=by
 induction h with
 |stop h=>exact .stop λw1 hr=>k _ (h w1 hr)
 |step f h _ ih=>exact .step f h ih
theorem Runs.idle{own X:JB}{g g':JF}{w:JE}(hs:∀w1,stepG P main g w1=.go g' w1 #[])(hr:g'.status=.running)(hd:g'.dying=none)(ho:g'.offers=none)
  (k:∀w1,BR st X w w1->Runs st P main Stop ⟨own,X,g',w1⟩):Runs st P main Stop ⟨own,X,g,w⟩:=by
 have same:∀(Y:JB)(w1:JE),grown Y w1 w1=Y:=λY w1=>by
  funext b;simp only[grown,eq_iff_iff]
  grind
 refine .step (λw1=>⟨own,X,g',w1⟩) (λw1 _=>⟨⟨#[],hs w1,⟨Ad _,λ_ _ _=>rfl,rfl,rfl,Ad _,λe he=>by simp at he⟩⟩,hr,hd,ho,(same own w1).symm,(same X w1).symm⟩) λw1 hw=>k w1 hw
end
section
variable{C:Cx}{S:Kn}
def Jad(C:Cx)(S:Kn)(b:Frame)(t0:JC)(ds:List Deferred)(k:List Item)(cs:List Frame)(E:J5)(Q:Exit->Act->JE->Prop)(y:Sit):Prop:=
 ∃E1 a w1 t',Sub E E1/\Link C S E1 y.own y.X w1 y.w/\TmR C S b.fn E1 a.tmps t'/\(∀i,(C.hl b.fn).contains i=true->t'[i]?=t0[i]?) /\
  ((Q .normal a w1/\y.g=G (b.at ⟨t',ds⟩ k) cs)\/(Q .ret a w1/\∃todo,y.g=G { b.at ⟨t',ds⟩ todo with mode:=.returning } cs))
theorem nG(A:FM C S){main:Bool}{b:Frame}{c:Code}{t t':JC}{ds:List Deferred}{k:List Item}{cs:List Frame}{E:J5}{own X:JB}{w0 w:JE}{Q:Exit->Act->JE->Prop}
  (hc:Ji C S b.fn c=true) (hb:GY C b.fn) (Nk:S.df.contains b.fn=false) (hl:C.hl b.fn≠[]) (hk:b.kind≠.early)
  (hL:Link C S E own X w0 w) (ht:TmR C S b.fn E t t') (K:∀τ,c.wp C.P Q ⟨t,[Jq]⟩ (w0.tp τ 0)) (hQ:∀e a w,Q e a w->e=.normal\/e=.ret) :
  Runs C.st C.P main (Jad C S b t' ds k cs E Q) ⟨own,X,G (b.at ⟨t',ds⟩ (.code c::k)) cs,w⟩:=by
 let B:Bot:=⟨b.fn,t',k,[],b.kind,ds,cs⟩
 have hg:GR C S E B (G ((base b.fn).at ⟨t,[Jq]⟩ [.code c,Js]) []) (G (b.at ⟨t',ds⟩ (.code c::k)) cs):=by refine⟨.bot ⟨rfl,hb,rfl,hk,rfl,rfl,ht,?_,rfl,rfl,rfl,Nk,hl,rfl,rfl,rfl,λ_ _=>rfl⟩,rfl,rfl,rfl,rfl,rfl⟩;exact Pz.code (cs:=B) rfl (.cons (.code hc) .nil)
 have K':∀τ,∃n g1 w1,runN C.P n (solo (G ((base b.fn).at ⟨t,[Jq]⟩ [.code c,Js]) []) (w0.tp τ 0))=.next (solo g1 w1)/\Jlt (λtm w1=>∃d,Q .normal ⟨tm,d⟩ w1) (λtm w1=>∃d,Q .ret ⟨tm,d⟩ w1) g1 w1:=by
  intro τ;obtain⟨e,a',w',hq,OB⟩:=K τ (base b.fn) [Js] [];rcases hQ e a' w' hq with rfl|rfl
  .obtain⟨n,hn⟩:=OB;exact⟨n,_,w',hn,rfl,.inl ⟨rfl,rfl,a'.defers,hq⟩⟩
  .obtain⟨todo,n,hn⟩:=OB;exact⟨n,_,w',hn,rfl,.inr ⟨rfl,a'.defers,hq⟩⟩
 refine(Jlu A (main:=main) (cs:=B) (y0:=⟨own,X,G (b.at ⟨t',ds⟩ (.code c::k)) cs,w⟩) hL hg K').bind λy hy=>?_;obtain⟨E1,g1,w1,hs,Ig,⟨Ba,Za,d,hq⟩|⟨he,d,hq⟩⟩:=hy
 .obtain⟨sK,X1,gy,wy⟩:=y;obtain⟨fy,TY,yZ,dy,oy⟩:=gy;have Ae:=Ba.stack;have r1:=Ba.run';have r2:=Ba.dying';have r3:=Ba.offers;simp only at r1 r2 r3;subst r1 r2 r3;obtain⟨q1,q2,q3⟩:=Za;rw[q1]at Ae;generalize hz:fy::TY=z at Ae;cases Ae with
  |cons _ h2=>cases h2
  |bot hB=>
   cases hz;have e:∀todo,fy.todo=todo->fy=b.at ⟨fy.tmps,ds⟩ todo:=by intro todo ht;obtain⟨f1,f2,f3,f4,f5,f6,f7⟩:=fy;have a1:=hB.fn2;have a2:=hB.kind2;have a3:=hB.dfr;have a4:=hB.RV;have a5:=hB.round';simp only at a1 a2 a3 a4 a5 ht;subst a1 a2 a3 a4 a5 ht;rfl
   have CB:TmR C S b.fn E1 g1.frame.tmps fy.tmps:=by
    have:=hB.tmps
    rwa [<- hB.fn,hB.fn2]at this
   have LC:∀i,(C.hl b.fn).contains i=true->fy.tmps[i]?=t'[i]?:=by
    have:=hB.hold
    rwa [<- hB.fn,hB.fn2]at this
   have MJ:=hB.todo;have fin:fy.todo=k->Runs C.st C.P main (Jad C S b t' ds k cs E Q) ⟨sK,X1,⟨fy,B.cs,.running,none,none⟩,wy⟩:=λD6=>
    .stop λw2 hr=>⟨E1,⟨g1.frame.tmps,d⟩,w1,fy.tmps,hs,Ig.rely hr,CB,LC,.inl ⟨hq,by show(⟨fy,B.cs,.running,none,none⟩:JF)=_;rw[e k D6];rfl⟩⟩
   have step:∀ops,fy.todo=.inRegion ops []::k->Runs C.st C.P main (Jad C S b t' ds k cs E Q) ⟨sK,X1,⟨fy,B.cs,.running,none,none⟩,wy⟩:=by
    intro ops ho;have e':(⟨fy,B.cs,.running,none,none⟩:JF)=G (b.at ⟨fy.tmps,ds⟩ (.inRegion ops []::k)) cs:=by rw[e _ ho];rfl
    rw[e'];refine Runs.idle (g':=G (b.at ⟨fy.tmps,ds⟩ k) cs) (λw1=>stepG_region_end) rfl rfl rfl λw2 hr=>?_;exact .stop λw3 Io=>⟨E1,⟨g1.frame.tmps,d⟩,w1,fy.tmps,hs,(Ig.rely hr).rely Io,CB,LC,.inl ⟨hq,rfl⟩⟩
   rcases q3 with q3|⟨ops,q3⟩
   .rw[q3]at MJ;generalize hx:([Js]:List Item)=x at MJ;generalize hy:fy.todo=y at MJ;cases MJ with
    |@code l l' _ hi=>
     cases hi with
     |nil=>exact fin hy
     |cons h1 h2=>simp at hx
    |ops is h=>simp at hx
   .rw[q3]at MJ;generalize hx:([.inRegion ops [],Js]:List Item)=x at MJ;generalize hy:fy.todo=y at MJ;cases MJ with
    |@code l l' _ hi=>
     cases hi with
     |nil=>simp at hx
     |cons h1 h2=>
      cases h2 with
      |nil=>
       simp only[G9,Gm,List.cons.injEq,and_true]at hx;subst hx;cases h1 with
       |inRegion is hr=>grind
      |cons h3 h4=>simp at hx
    |@ops ops2 is h=>
     grind
 .obtain⟨sK,X1,gy,wy⟩:=y;obtain⟨fy,TY,yZ,dy,oy⟩:=gy;obtain⟨z1,z2,z3,z4,z5,z6,z7,z8,z9,VK,ZM,z12,Yg,Yh,Yi,Rt,z17⟩:=he;simp only at z2 z3 z5 z6 z9 ZM z12 Yg Yh Yi Rt;subst z2 z9 ZM z12;have CB:TmR C S b.fn E1 g1.frame.tmps fy.tmps:=by grind
  have LC:∀i,(C.hl b.fn).contains i=true->fy.tmps[i]?=t'[i]?:=by
   grind
  refine .stop λw2 hr=>⟨E1,⟨g1.frame.tmps,d⟩,w1,fy.tmps,hs,Ig.rely hr,CB,LC,.inr ⟨hq,fy.todo,?_⟩⟩;obtain⟨f1,f2,f3,f4,f5,f6,f7⟩:=fy;simp only at z3 z5 Yg Yh Yi Rt;subst z5 Yg Yh Yi Rt;rfl
end
open Go.ConcN Go.RowKit Go.Conc.Lib Go.ConcR.Gen Go.ConcN.Gen
open Go.ConcR (KK wgBlock WgAt stA smA rd wr mk Payload DC0)
section
variable[Payload]{L:WgLink}
def K1D(P:Program)(g:JF)(w:JE):Prop:=∃g',stepG P false g w=.go g' w #[mk .disable]
def R0D(P:Program)(R:JE->JE->Prop)(Wg:Nat)(g:JF)(w:JE):Prop:=∃g',stepG P false g w=.go g' w #[mk (.releaseMerge (stA Wg))]/\∃m,Goes P false R DC0 (K1D P) m g' w
section
variable{P:Program}{R:JE->JE->Prop}(hR:∀w,R w w){ty:JH}{Wg C n NS k:Nat}{Own Rd:Nat->Loc->Prop}{val:JJ}
include hR
theorem Jqq{n':Nat}:∀{m:Nat}{g:JF}{w:JE},Goes P false R (DWs Wg Own Rd C n k) (AtR0 P ty Wg C n NS k val) n' g w->Goes P false R DC0 (K1D P) m g w->False:=by
 intro m
 induction m generalizing n' with
 |zero=>
  intro g w h1 h2;obtain⟨g',Bd⟩:=h2 w (hR w);rcases Goes.cases h1 with hs|⟨n2,_,hs⟩
  .obtain⟨_,_,g2,Bl,_⟩:=hs w (hR w);rw[Bd]at Bl;simp[mk]at Bl
  .obtain⟨g2,w2,es,Bl,⟨_,Fq⟩,_⟩:=hs w (hR w);rw[Bd]at Bl;simp only[GStep.go.injEq]at Bl;obtain⟨_,_,rfl⟩:=Bl;exact(Fq (mk .disable) (by simp)).2.1 rfl
 |succ m ih=>
  intro g w h1 h2;rcases Goes.cases h2 with hk|⟨m2,e,hk⟩
  .obtain⟨g',Bd⟩:=hk w (hR w);rcases Goes.cases h1 with hs|⟨n2,_,hs⟩
   .obtain⟨_,_,g2,Bl,_⟩:=hs w (hR w);rw[Bd]at Bl;simp[mk]at Bl
   .obtain⟨g2,w2,es,Bl,⟨_,Fq⟩,_⟩:=hs w (hR w);rw[Bd]at Bl;simp only[GStep.go.injEq]at Bl;obtain⟨_,_,rfl⟩:=Bl;exact(Fq (mk .disable) (by simp)).2.1 rfl
  .obtain rfl:m2=m:=by omega
   obtain⟨g',w',es,Bd,⟨rfl,rfl⟩,D6⟩:=hk w (hR w);rcases Goes.cases h1 with hs|⟨n2,_,hs⟩
   .obtain⟨_,_,g2,Bl,_⟩:=hs w' (hR w')
    grind
   .obtain⟨g2,w2,es,Bl,_,Gt⟩:=hs w' (hR w')
    grind
theorem follow{n':Nat}:∀{m:Nat}{g:JF}{w:JE},g.status=.running->Goes P false R (DWs Wg Own Rd C n k) (AtR0 P ty Wg C n NS k val) n' g w->Goes P false R DC0 (R0D P R Wg) m g w->Goes P false R DC0 (AtR0 P ty Wg C n NS k val) m g w:=by
 have Jqr:∀{n' m:Nat}{g:JF}{w:JE},Goes P false R (DWs Wg Own Rd C n k) (AtR0 P ty Wg C n NS k val) n' g w->(∀wZ1,R w wZ1->R0D P R Wg g wZ1)->Goes P false R DC0 (AtR0 P ty Wg C n NS k val) m g w:=by
  intro n' m g w h1 hk;rcases Goes.cases h1 with hs|⟨n2,_,hs⟩
  .exact .stop hs
  .exfalso;obtain⟨g',Bd,m2,hm⟩:=hk w (hR w);obtain⟨g2,w2,es,Bl,_,Gt⟩:=hs w (hR w);rw[Bd]at Bl;simp only[GStep.go.injEq]at Bl;obtain⟨rfl,rfl,_⟩:=Bl
   grind[Jqq]
 intro m
 induction m generalizing n' with
 |zero=>intro g w _ h1 h2;exact Jqr h1 h2
 |succ m ih=>
  intro g w AB h1 h2;rcases Goes.cases h2 with hk|⟨m2,e,hk⟩
  .grind
  .obtain rfl:m2=m:=by omega
   refine .step AB λwZ1 hwZ1=>?_;obtain⟨g',w',es,Bd,hd,D6⟩:=hk wZ1 hwZ1;rw[Bd];rw[goes_go];refine⟨hd,?_⟩;obtain⟨rfl,rfl⟩:=hd;rcases Goes.cases h1 with hs|⟨n2,_,hs⟩
   .obtain⟨_,_,g2,Bl,_⟩:=hs w' hwZ1
    grind
   .obtain⟨g2,w2,es,Bl,_,Gt⟩:=hs w' hwZ1;rw[Bd]at Bl;simp only[GStep.go.injEq]at Bl;obtain⟨rfl,rfl,_⟩:=Bl;exact ih (Goes.running (λ_ _ x=>x.1) w' (hR w') Gt) Gt D6
end
set_option maxHeartbeats 8000000 in
theorem Jyb{P:Program}(H:WgLib P L){Wg C n NS k:Nat}{val:JJ}{b₀:Frame}{a₀:Act}{ops₀:Array Oper}{i₀:Nat}{rest₀:List Nat}{k₀:List Item}{cs:List Frame}
  (w:JE) (hK:WgLive L.tWg Wg w/\Has C (k-1) val w) :
  Goes P false (RW L.tWg Wg C n NS (k-1)) DC0 (R0D P (RW L.tWg Wg C n NS (k-1)) Wg) 20 (G ((base L.add).at ⟨#[JL Wg,JK (-1),JA,JA,JA,JA,JA,JA,JA,JA,JA,JA,JA,JA,JA,JA,JA,JA,JA,JA,JA,JA,JA,JA,JA,JA,JA,JA,JA,JA,JA,JA,JA,JA,JA,JA,JA,JA,JA,JA,JA,JA,JA,JA,JA,JA,JA,JA,JA,JA,JA,JA,JA,JA,JA,JA,JA,JA,JA,JA,JA,JA,JA,JA,JA,JA,JA,JA,JA,JA,JA,JA,JA,JA,JA,JA,JA,JA,JA,JA,JA,JA,JA,JA,JA,JA,JA,JA,JA,JA,JA,JA,JA,JA,JA,JA,JA,JA,JA,JA,JA,JA,JA,JA,JA,JA,JA,JA,JA,JA,JA,JA,JA,JA,JA,JA,JA],[]⟩ [.code (body_add L)]) (b₀.at a₀ (.inRegion ops₀ (i₀::rest₀)::k₀)::cs)) w:=by
 lib_facts
 simp only[body_add,addFn,A8]
 u_c stepG_seq kn_rely hK
 u_cond true kn_rely hK
 u_c stepG_seq kn_rely hK
 u_c stepG_seq kn_rely hK
 u_reg kn_rely hK
 u_op kn_rely hK
 u_op kn_rely hK
 u_c stepG_region_end kn_rely hK
 u_cond true kn_rely hK
 u_reg kn_rely hK
 u_op kn_rely hK
 u_conv H.underlying_tWgP H.room_tWg (WgLive.cell0 hK.1).choose_spec kn_rely hK
 refine Goes.stop (λwZ1 h₁=>?_);replace hK:=kn_rely hK h₁;clear h₁;refine⟨_,stepG_markAt .releaseMerge (by simp) rfl rfl (by k_ne) rfl H.f_relMerge (x_relMerge_n L) (x_relMerge_b L) (x_relMerge_x L) (x_relMerge_f L) (by simp[Act.eval,stA]),10,?_⟩
 walk_nrm
 u_c stepG_region_end kn_rely hK
 u_c stepG_seq kn_rely hK
 u_reg kn_rely hK
 refine Goes.stop (λwZ1 h₁=>?_);exact⟨_,stepG_mark0 .disable (by simp) rfl rfl (by k_ne) rfl H.f_disable (x_disable_n L) (x_disable_b L) (x_disable_x L) (x_disable_f L)⟩
theorem J04h{P:Program}(H:WgLib P L){Wg C n NS k:Nat}{val:JJ}{c:Frame}{cs:List Frame}{qt:Nat}
  (hcm:c.mode=.returning) (hT:QuitsD P qt 0 (G c cs)) (w:JE) (hK:WgLive L.tWg Wg w/\Has C (k-1) val w) :
  Goes P false (RW L.tWg Wg C n NS (k-1)) DC0 (AtR0 P L.tWg Wg C n NS k val) 23 (G ((baseD L.done).at ⟨#[JL Wg,JA,JA,JA],[]⟩ [.code (body_done L)]) (c::cs)) w:=by
 refine follow (λw=>RW.refl w) rfl (doneN (Own:=λ_ _=>False) (Rd:=λ_ _=>False) H hcm hT w hK) ?_
 lib_facts
 have hA:=@Jyb _ L P H Wg C n NS k val;simp only[body_done,body_add,doneFn,addFn,A8]at hA ⊢
 u_reg kn_rely hK
 u_op kn_rely hK
 u_in kn_rely hK
 refine goes_call rfl rfl (by k_ne) rfl H.f_add (nm_add L) rfl ⟨by u_nil,?_⟩
 walk_nrmf addFn
 exact hA _ hK
end
end Go.Sim
namespace Go.Sim.Z
open Go Go.Proofs
abbrev link:Go.Conc.Lib.WgLink:={ add:=73,done:=75,wait:=77,relMerge:=117,disable:=118,enable:=119,inBubble:=120,associate:=121,fatal:=122,uOr:=123,uAdd:=124,raceRead:=125,uLoad:=126,uStore:=127,disassociate:=128,semrelease:=129,acquire:=132,isAssociated:=133,uCas:=134,raceWrite:=135,semacquire:=136,orU64:=168,addU64:=169,loadU64:=170,storeU64:=171,casU64:=172,tWgP:=240,tUP:=153,tAssoc:=242,tWg:=179,tAU:=177,tU64:=110,tUint:=196,tU32:=137,tPU32:=246,tPAU:=285,tPU64:=287,tNoCopy:=173,tANoCopy:=174,tAlign64:=175 }
theorem wgLib:Go.Conc.Lib.WgLib prog link:=
 ⟨func73,func75,func77,func117,func118,func119,func120,func121,func122,func123,func124,func125,func126,func127,func128,func129,func132,func133,func134,func135,func136,func168,func169,func170,func171,func172,underlying240,runUnderlying240,sizeOf240,isAgg240,zeroValue240,underlying153,runUnderlying153,sizeOf153,isAgg153,zeroValue153,underlying242,runUnderlying242,sizeOf242,isAgg242,zeroValue242,underlying179,runUnderlying179,sizeOf179,isAgg179,zeroValue179,underlying177,runUnderlying177,sizeOf177,isAgg177,zeroValue177,underlying110,runUnderlying110,sizeOf110,isAgg110,zeroValue110,underlying196,runUnderlying196,sizeOf196,isAgg196,zeroValue196,underlying137,runUnderlying137,sizeOf137,isAgg137,zeroValue137,underlying246,runUnderlying246,sizeOf246,isAgg246,zeroValue246,underlying285,runUnderlying285,sizeOf285,isAgg285,zeroValue285,underlying287,runUnderlying287,sizeOf287,isAgg287,zeroValue287,underlying0,runUnderlying0,sizeOf0,isAgg0,zeroValue0,underlying3,runUnderlying3,sizeOf3,isAgg3,zeroValue3,underlying4,runUnderlying4,sizeOf4,isAgg4,zeroValue4,underlying9,runUnderlying9,sizeOf9,isAgg9,zeroValue9,underlying20,runUnderlying20,sizeOf20,isAgg20,zeroValue20,underlying21,runUnderlying21,sizeOf21,isAgg21,zeroValue21,(by kernel_rfl),(by kernel_rfl)⟩
instance:Go.ConcR.Payload:=⟨171⟩
open Go.Conc Go.ConcN Go.RowKit Go.Conc.Lib Go.ConcR.Gen Go.ConcN.Gen
open Go.ConcR (KK wgBlock WgAt stA smA rd wr mk Payload DC0)
def TT:Code->Code | .seq a _=>a|c=>c
def Ld:Code->Code | .seq _ b=>b|c=>c
def b63:Code:=f74.body.getD .skip
def c1:Code:=TT (Ld b63)
def cM:Code:=TT (Ld (Ld b63))
def Tz:Oper:={ dst:=none,op:=.defer { callee:=.value (.func 75),args:=#[.tmp 0],argTypes:=#[179] },type:=0,pos:= "table.go:76",after:=#[],guard:=none }
def Fg:Array Oper:=#[{ dst:=some 37,op:=.load 3 (.tmp 1),type:=3,pos:= "table.go:83",after:=#[],guard:=none },
 { dst:=some 38,op:=.move (.tmp 7),type:=95,pos:= "table.go:83",after:=#[],guard:=none },
 { dst:=some 39,op:=.indexAddr 171 (.tmp 6) (.tmp 37),type:=0,pos:= "table.go:83",after:=#[{ on:=0,ground:=.data },{ on:=0,ground:=.phase },{ on:=1,ground:=.phase }],guard:=none },
 { dst:=none,op:=.store 95 (.tmp 39) (.tmp 38),type:=0,pos:= "table.go:83",after:=#[{ on:=2,ground:=.data },{ on:=1,ground:=.data },{ on:=0,ground:=.phase },{ on:=1,ground:=.phase }],guard:=none }]
def c7:Code:=.region 7 Fg false
theorem zU:b63=.seq (.region 0 #[Tz] false) (.seq c1 (.seq cM c7)):=by kernel_rfl
theorem zV:f74.body=some b63:=by kernel_rfl
theorem Jwx(Sh:JB):GY (C1 Sh) 74:=⟨f74,by kernel_rfl,by kernel_rfl,by kernel_rfl⟩
theorem J04i(Sh:JB):Ji (C1 Sh) S1 74 c1=true:=by kernel_rfl
theorem J04j(Sh:JB):Ji (C1 Sh) S1 74 cM=true:=by kernel_rfl
def bot:Frame:={ (default:Frame)with fn:=prog.funcs.size,defers:=[],mode:=.panicking [goexitEntry] }
theorem Jyc{Sh:JB}{E:J5}{own X:JB}{w0 w:JE}{t T:JC}{A1 A2:JC->JE->Prop}(hL:Link (C1 Sh) S1 E own X w0 w)(ht:TmR (C1 Sh) S1 74 E t T)
  (K1:∀τ,c1.wp prog (λe a w1=>e=.normal/\A1 a.tmps w1) ⟨t,[Jq]⟩ (w0.tp τ 0))
  (K2:∀t1 w1,A1 t1 w1->∀τ,cM.wp prog (λe a w2=>e=.normal/\A2 a.tmps w2) ⟨t1,[Jq]⟩ (w1.tp τ 0)) :
  Runs true prog false (λy=>∃E2 t2 w2 T2,Sub E E2/\Link (C1 Sh) S1 E2 y.own y.X w2 y.w/\TmR (C1 Sh) S1 74 E2 t2 T2/\(∀i,i=0\/i=6->T2[i]?=T[i]?)/\A2 t2 w2/\y.g=G ((baseD 74).at ⟨T2,[dcall 75 #[T.getD 0 JA]]⟩ [.code c7]) [bot])
   ⟨own,X,G ((baseD 74).at ⟨T,[]⟩ [.code b63]) [bot],w⟩:=by
 have hol:∀i,i=0\/i=6->((C1 Sh).hl (baseD 74).fn).contains i=true:=by rintro i (rfl|rfl)<;>rfl
 rw[zU];refine Runs.idle (λw1=>stepG_seq) rfl rfl rfl λwa ra=>?_;replace hL:=hL.rely ra;clear ra;refine Runs.idle (λw1=>stepG_region) rfl rfl rfl λwb rb=>?_;replace hL:=hL.rely rb;clear rb;have hd:∀w1,stepG prog false (G ((baseD 74).at ⟨T,[]⟩ (.inRegion #[Tz] (List.range (#[Tz]:Array Oper).size)::[.code (.seq c1 (.seq cM c7))])) [bot]) w1 =
   .go (G ((baseD 74).at ⟨T,[dcall 75 #[T.getD 0 JA]]⟩ (.inRegion #[Tz] []::[.code (.seq c1 (.seq cM c7))])) [bot]) w1 #[]:=λw1=>by
  have:=stepG_defer (P:=prog) (main:=false) (b:=baseD 74) (a:=⟨T,[]⟩) (k:=[.code (.seq c1 (.seq cM c7))]) (cs:=[bot]) (w:=w1) (ops:=#[Tz]) (i:=0) (rest:=[]) (o:=Tz) (f:=75) rfl rfl (by simp[baseD]) (show Tz.op=.defer { callee:=.value (.func 75),args:=#[.tmp 0],argTypes:=#[179] } from rfl);rw[show(List.range (#[Tz]:Array Oper).size)=[0]from rfl,this];simp[Act.put,Tz,Act.eval]
 refine Runs.idle hd rfl rfl rfl λwc rc=>?_;replace hL:=hL.rely rc;clear rc;refine Runs.idle (λw1=>stepG_region_end) rfl rfl rfl λwd rd=>?_;replace hL:=hL.rely rd;clear rd;refine Runs.idle (λw1=>stepG_seq) rfl rfl rfl λwe re=>?_;replace hL:=hL.rely re;clear re;refine(nG (Jqf Sh) (b:=baseD 74) (k:=[.code (.seq cM c7)]) (cs:=[bot]) (ds:=[dcall 75 #[T.getD 0 JA]]) (J04i Sh) (Jwx Sh) rfl (by simp[C1,baseD]) (by simp[baseD]) hL ht K1 (λ_ _ _ h=>.inl h.1)).bind ?_;rintro⟨sK,X1,g1,wf⟩ ⟨E1,a1,w1,T1,AQ,Ig,Az,Dn,⟨⟨_,fD⟩,Ba⟩|⟨⟨h0,_⟩,_⟩⟩
 rotate_left
 .cases h0
 simp only at Ig Ba;subst Ba;refine Runs.idle (λw1=>stepG_seq) rfl rfl rfl λwg rg=>?_;replace Ig:=Ig.rely rg;clear rg;refine(nG (Jqf Sh) (b:=baseD 74) (k:=[.code c7]) (cs:=[bot]) (ds:=[dcall 75 #[T.getD 0 JA]]) (J04j Sh) (Jwx Sh) rfl (by simp[C1,baseD]) (by simp[baseD]) Ig Az (K2 a1.tmps w1 fD) (λ_ _ _ h=>.inl h.1)).mono ?_;rintro⟨own2,X2,g2,wh⟩ ⟨E2,a2,w2,T2,Bo,Es,Bc,Fv,⟨⟨_,qB⟩,Bl⟩|⟨⟨h0,_⟩,_⟩⟩
 rotate_left
 .cases h0
 exact⟨E2,a2.tmps,w2,T2,AQ.trans Bo,Es,Bc,λi hi=>(Fv i (hol i hi)).trans (Dn i (hol i hi)),qB,Bl⟩
theorem Jqs:(prog.funcs[(baseD 74).fn]?).any (·.norace)=false:=by kernel_rfl
section
variable{main:Bool}{b:Frame}{a:Act}{kk:List Item}{cs:List Frame}{w:JE}{ops:Array Oper}{i:Nat}{rest:List Nat}{o:Oper}
theorem Jhi{x y:Operand}(ho:ops[i]?=some o)(hw:Region.wanted o (yielded ops a.tmps)=true)(hk:b.kind≠.early)(Ar:o.op=.store 95 x y)
  {ad:Addr} {v:Option Nat} {u:JJ} (hx:a.eval x=.pointer (some ad)) (hy:a.eval y=.map v) (hc:w.cell? ad=some u) (hz:w.frozen? ad=false) (hq:(prog.funcs[b.fn]?).any (·.norace)=false) :
  stepG prog main (G (b.at a (.inRegion ops (i::rest)::kk)) cs) w=.go (G (b.at (a.put o.dst JA) (.inRegion ops rest::kk)) cs) (w.setCell ad (.map v)) #[⟨.cell ad,true,false⟩]:=by
 have hr:(execOp a.eval o).run prog w=.ok .skip (w.setCell ad (.map v)):=by unfold execOp;simp only[Ar,hx,hy];simp[go_sem,stored,hc,hz]
 have he:(execOp a.eval o).events prog w #[]=#[⟨.cell ad,true,false⟩]:=by unfold execOp;simp only[Ar,hx,hy];simp[go_sem,events_store prog w #[] ad (.map v) .plain rfl,storedEv,hc,hz]
 rw[stepG_none ho hw hk hr];unfold listed
 grind[seen_eq]
theorem stepG_load3{x:Operand}(ho:ops[i]?=some o)(hw:Region.wanted o (yielded ops a.tmps)=true)(hk:b.kind≠.early)(Ar:o.op=.load 3 x)
  {ad:Addr} {v:JJ} (hx:a.eval x=.pointer (some ad)) (hc:w.cell? ad=some v) (hq:(prog.funcs[b.fn]?).any (·.norace)=false) :
  stepG prog main (G (b.at a (.inRegion ops (i::rest)::kk)) cs) w=.go (G (b.at (a.put o.dst v) (.inRegion ops rest::kk)) cs) w #[⟨.cell ad,false,false⟩]:=by
 have hr:(execOp a.eval o).run prog w=.ok (.value v) w:=by unfold execOp;simp only[Ar,hx];simp[go_sem,hc]
 have he:(execOp a.eval o).events prog w #[]=#[⟨.cell ad,false,false⟩]:=by unfold execOp;simp only[Ar,hx];simp[go_sem,hc]
 rw[stepG_value ho hw hk hr];unfold listed
 grind[seen_eq]
end
theorem quitsTail(T:JC):QuitsD prog 2 0 (G { (baseD 74).at ⟨T,[]⟩ []with mode:=.returning } [bot]):=by
 refine QuitsD.ctl (g':=G bot []) rfl (λw=>?_) ?_
 .simp[G,stepG,unwind,doReturn,results,Frame.at,baseD,bot,func74,f74,seen,GStep.after,goexitEntry]
 refine QuitsD.ctl (g':={ G bot []with status:=.finished }) rfl (λw=>?_) ⟨rfl,rfl⟩;simp[G,stepG,unwind,bot,goexitEntry,Frame.catches];rfl
theorem asideCell_set{w:JE}{N n j:Nat}(hp:PayAt N n w)(v:JJ):AsideCell N n j w (w.setCell ⟨N,j,none⟩ v):=by
 have hA:=aside_setCell w ⟨N,j,none⟩ v;obtain⟨arr,h1,h2⟩:=hp;have hb:(w.setCell ⟨N,j,none⟩ v).heap[N]?=some (.cells (arr.setIfInBounds j v) Payload.ety):=by
  grind[setCell_eq_setRow,setRow_heap]
 refine⟨hA.tape,hA.os,hA.output,hA.size,λb BO=>hA.block b BO,λ_=>⟨_,hb,by grind⟩,λi' CW=>?_⟩;simp[World.cell?,hb,h1,AV (Ne.symm CW)]
theorem has_set{w:JE}{N n j:Nat}(hp:PayAt N n w)(hj:j<n)(v:JJ):Has N j v (w.setCell ⟨N,j,none⟩ v):=by
 obtain⟨arr,h1,h2⟩:=hp;have hb:(w.setCell ⟨N,j,none⟩ v).heap[N]?=some (.cells (arr.setIfInBounds j v) Payload.ety):=by
  grind[setCell_eq_setRow,setRow_heap]
 simp[Has,World.cell?,hb,h2,hj]
theorem cellAt{w:JE}{N n j:Nat}(h:PayAt N n w)(hj:j<n):∃u,w.cell? ⟨N,j,none⟩=some u/\w.frozen? ⟨N,j,none⟩=false:=by obtain⟨arr,h1,h2⟩:=h;exact⟨arr[j]'(by omega),by simp[World.cell?,h1,h2,hj],by simp[World.frozen?,h1]⟩
theorem Jdw{P:Program}{main:Bool}{R:JE->JE->Prop}{D D':JE->JE->Array Event->Prop}{Stop:JF->JE->Prop}(h:∀w w' es,D w w' es->D' w w' es) :
  ∀{n:Nat}{g:JF}{w:JE},Goes P main R D Stop n g w->Goes P main R D' Stop n g w
 |0,_,_,hg=>hg
 |n+1,g,w,hg=>by
  rcases hg with hs|⟨hr,hs⟩
  .exact .inl hs
  refine .inr ⟨hr,λw1 r=>?_⟩;have:=hs w1 r;generalize stepG P main g w1=s at this ⊢;cases s<;>first|exact⟨h _ _ _ this.1,Jdw h this.2⟩|exact this.elim
theorem zW{H:Ph}{i:Nat}{T:JC}{r:Option Nat}(hP:H.P=prog)(Zi:H.ty=179)(hn:H.n=4)(hi:i<4)(Ap:H.C≠H.Wg)
  (hT:T.size=40) (Vp:T[37]?=some (JK i)) (h6:T[6]?=some (JL H.C)) (h7:T[7]?=some (.map r)) {w3:JE} (hp:PayAt H.C H.n w3) (hg:WgLive H.ty H.Wg w3) :
  ∃k,Goes H.P false (RW H.ty H.Wg H.C H.n 0 (i+1-1)) (DT H (i+1)) (AtR0 H.P H.ty H.Wg H.C H.n 0 (i+1) (.map r)) k
   (G ((baseD 74).at ⟨T,[dcall 75 #[JL H.Wg]]⟩ (.inRegion Fg [1,2,3]::[])) [bot]) w3:=by
 have dm:∀(w:JE),DT H (i+1) w w #[]:=λw=>⟨AsideCell.refl _ _ _ _,λe he=>by simp at he⟩;generalize hD:DT H (i+1)=DD at *;rw[hP,Zi,hn];rw[hn]at hp;rw[Zi]at hg;generalize hd:[dcall 75 #[JL H.Wg]]=ds;refine⟨6+23,?_⟩;refine Goes.step rfl λw4 q4=>?_;replace hp:=q4.pay hp;replace hg:=q4.live hg;have st1:stepG prog false (G ((baseD 74).at ⟨T,ds⟩ (.inRegion Fg [1,2,3]::[])) [bot]) w4 =
   .go (G ((baseD 74).at ⟨T.setIfInBounds 38 (.map r),ds⟩ (.inRegion Fg [2,3]::[])) [bot]) w4 #[]:=by
  have hr:(execOp (Act.eval ⟨T,ds⟩) Fg[1]).run prog w4=.ok (.value (.map r)) w4:=by simp[execOp,Fg,Act.eval,go_sem,h7]
  have he:listed prog (baseD 74).fn ⟨T,ds⟩ Fg[1] w4=#[]:=by
   unfold listed;rw[show(execOp (Act.eval ⟨T,ds⟩) Fg[1]).events prog w4 #[]=#[]from by simp[execOp,Fg,go_sem],seen_none]
  rw[stepG_value (o:=Fg[1]) rfl rfl (by simp[baseD]) hr,he];rfl
 rw[st1];refine⟨dm _,?_⟩;refine Goes.step rfl λw5 q5=>?_;replace hp:=q5.pay hp;replace hg:=q5.live hg;have st2:stepG prog false (G ((baseD 74).at ⟨T.setIfInBounds 38 (.map r),ds⟩ (.inRegion Fg [2,3]::[])) [bot]) w5 =
   .go (G ((baseD 74).at ⟨(T.setIfInBounds 38 (.map r)).setIfInBounds 39 (.pointer (some ⟨H.C,i,none⟩)),ds⟩ (.inRegion Fg [3]::[])) [bot]) w5 #[]:=by
  have hr:(execOp (Act.eval ⟨T.setIfInBounds 38 (.map r),ds⟩) Fg[2]).run prog w5=.ok (.value (.pointer (some ⟨H.C,i,none⟩))) w5:=by
   simp[execOp,Fg,Act.eval,go_sem,h6,Vp,Gj]
   grind
  have he:listed prog (baseD 74).fn ⟨T.setIfInBounds 38 (.map r),ds⟩ Fg[2] w5=#[]:=by
   unfold listed;rw[show(execOp (Act.eval ⟨T.setIfInBounds 38 (.map r),ds⟩) Fg[2]).events prog w5 #[]=#[]from by
    simp[execOp,Fg,Act.eval,go_sem,h6,Vp,Gj]
    grind[events_indexAt_array,underlying171],seen_none]
  rw[stepG_value (o:=Fg[2]) rfl rfl (by simp[baseD]) hr,he];rfl
 rw[st2];refine⟨dm _,?_⟩;refine Goes.step rfl λw6 q6=>?_;replace hp:=q6.pay hp;replace hg:=q6.live hg;obtain⟨u,hu1,Zj⟩:=cellAt hp hi;have QT:=hp;rw[Jhi (ad:=⟨H.C,i,none⟩) (v:=r) (o:=Fg[3]) rfl rfl (by simp[baseD]) rfl (by simp[Fg,Act.eval,hT]) (by simp[Fg,Act.eval,hT]) hu1 Zj Jqs];have hK:=And.intro (let⟨st,sm,h⟩:=hg;(⟨st,sm,h.of_block ((aside_setCell _ ⟨H.C,i,none⟩ (.map r)).block H.Wg (by grind))⟩:WgLive 179 H.Wg _)) (has_set hp hi (.map r));clear hp hg hu1 Zj;refine⟨by subst hD;exact⟨asideCell_set (hn.symm▸QT) _,λe he=>by grind⟩,?_⟩;refine Goes.step rfl λw7 q7=>?_;replace hK:=And.intro (q7.live hK.1) (q7.cell.trans hK.2);rw[stepG_region_end];refine⟨dm _,?_⟩;refine Goes.step rfl λw8 q8=>?_;replace hK:=And.intro (q8.live hK.1) (q8.cell.trans hK.2);rw[stepG_end];refine⟨dm _,?_⟩;refine Goes.step rfl λw9 q9=>?_;replace hK:=And.intro (q9.live hK.1) (q9.cell.trans hK.2);rw[stepG_unwind_enter (show Act.defers _=dcall 75 #[JL H.Wg]::[]from hd.symm) func75 (nm_done link) rfl];refine⟨dm _,?_⟩;have hA:=@J04h _ link prog wgLib H.Wg H.C 4 0 (i+1) (.map r);exact Jdw (λw w' es h=>by obtain⟨rfl,rfl⟩:=h;exact dm _) (hA rfl (quitsTail _) _ hK)
theorem Jyd{H:Ph}{i s:Nat}{own X:JB}{w:JE}{T:JC}{r:Option Nat}(hP:H.P=prog)(Zi:H.ty=179)(hn:H.n=4)(hi:i<4)(Ap:H.C≠H.Wg)
  (hT:T.size=40) (h1:T[1]?=some (JL s)) (h6:T[6]?=some (JL H.C)) (h7:T[7]?=some (.map r))
  (hs:w.cell? ⟨s,0,none⟩=some (JK i)) (hX:X s) (hQ:∀w1,BR true X w w1->H.Q i own X (.map r) w1) :
  Runs true prog false (Qu H i) ⟨own,X,G ((baseD 74).at ⟨T,[dcall 75 #[JL H.Wg]]⟩ [.code c7]) [bot],w⟩:=by
 refine Runs.idle (λw1=>stepG_region) rfl rfl rfl λwa ra=>?_;have hsa:wa.cell? ⟨s,0,none⟩=some (JK i):=(Du (ra.blocks s hX)).trans hs;have hQa:∀w1,BR true X wa w1->H.Q i own X (.map r) w1:=λw1 r1=>hQ w1 (ra.trans r1);clear hs hQ ra;have e1:T.getD 1 JA=JL s:=by simp_all
 have e6:T.getD 6 JA=JL H.C:=by simp_all
 have e7:T.getD 7 JA=.map r:=by simp_all
 have hl:∀w1,BR true X wa w1->stepG prog false (G ((baseD 74).at ⟨T,[dcall 75 #[JL H.Wg]]⟩ (.inRegion Fg (List.range Fg.size)::[])) [bot]) w1 =
   .go (G ((baseD 74).at ⟨T.setIfInBounds 37 (JK i),[dcall 75 #[JL H.Wg]]⟩ (.inRegion Fg [1,2,3]::[])) [bot]) w1 #[⟨.cell ⟨s,0,none⟩,false,false⟩]:=by
  intro w1 r1;have hc:=(Du (r1.blocks s hX)).trans hsa;have:=stepG_load3 (main:=false) (b:=baseD 74) (a:=⟨T,[dcall 75 #[JL H.Wg]]⟩) (kk:=[]) (cs:=[bot]) (w:=w1) (ops:=Fg) (i:=0) (rest:=[1,2,3]) (o:=Fg[0]) (x:=.tmp 1) (ad:=⟨s,0,none⟩) (v:=JK i) rfl rfl (by simp[baseD]) rfl e1 hc Jqs;rw[show List.range Fg.size=[0,1,2,3]from rfl,this];rfl
 have gr:∀(Y:JB)(w1:JE),grown Y w1 w1=Y:=λY w1=>by
  funext b;simp only[grown,eq_iff_iff]
  grind
 refine .step (λw1=>⟨own,X,_,w1⟩) (λw1 r1=>⟨⟨_,hl w1 r1,⟨Ad _,λ_ _ _=>rfl,rfl,rfl,Ad _,λe he=>?_⟩⟩,rfl,rfl,rfl,(gr own w1).symm,(gr X w1).symm⟩) λw1 r1=>.stop λw2 r2=>?_
 .simp only[Array.mem_singleton]at he;subst he;rw[gr,gr];exact⟨⟨hX,λh=>by cases h⟩,rfl⟩
 refine⟨.map r,hQa w2 (r1.trans r2),λw3 hp hg=>?_⟩;exact zW (T:=T.setIfInBounds 37 (JK i)) hP Zi hn hi Ap (by grind) (by simp[hT]) (by simp[h6]) (by simp[h7]) hp hg
end Go.Sim.Z
section
namespace Go.Sim
open Go Go.Conc
def Jnf(C:Cx)(E:J5):Obj->Prop
 |.cells c _ fz=>fz=(0,0)/\AR C E c c
 |.map es _=>EsR C E es es
 |_=>False
structure Jtr(C:Cx)(Sh:JB)(w:JE):Prop where
 hnd:Sh C.P.globals.size
 at_:∀b,Sh b->C.P.globals.size<=b/\∃o,w.heap[b]?=some o/\Jnf C (idE Sh) o
def Jv3:Obj->Obj
 |.cells c el _=>.cells c el (0,c.size)
 |o=>o
open Classical in
def frz(Sh:JB)(w:JE):JE:={ w with heap:=w.heap.mapIdx λb o=>if Sh b then Jv3 o else o }
section
variable{Sh:JB}{w:JE}
theorem Jcx:(frz Sh w).heap.size=w.heap.size:=by simp[frz]
theorem Jg4{b:Nat}(h:¬Sh b):(frz Sh w).heap[b]?=w.heap[b]?:=by
 simp only[frz,Array.getElem?_mapIdx]
 grind
theorem oQ{b:Nat}(h:Sh b):(frz Sh w).heap[b]?=(w.heap[b]?).map Jv3:=by
 simp only[frz,Array.getElem?_mapIdx]
 grind
theorem Jjo(a:Addr):(frz Sh w).cell? a=w.cell? a:=by
 by_cases h:Sh a.block
 .simp only[World.cell?,oQ h];cases w.heap[a.block]? with
  |none=>rfl
  |some o=>cases o<;>rfl
 .simp only[World.cell?,Jg4 h]
theorem Jye{b:Nat}{es:Array MapEntry}{ck:Nat}(h:w.heap[b]?=some (.map es ck)):(frz Sh w).heap[b]?=some (.map es ck):=by
 by_cases hs:Sh b
 .rw[oQ hs,h];rfl
 .rw[Jg4 hs,h]
end
theorem Jng{C:Cx}{S:Kn}{X:JB}{w:JE}(Ae:C.st=true)(hgs:S.gs=[])(h:Jtr C C.Sh w)(hX:∀b,C.Sh b->X b):Link C S (idE C.Sh) (λ_=>False) X (frz C.Sh w) w:=by
 have lt:∀b,C.Sh b->b<w.heap.size:=λb hb=>by
  obtain⟨_,o,ho,_⟩:=h.at_ b hb
  grind
 refine⟨⟨rfl,λb b' ⟨e,hb⟩=>?_,λb c c' h1 h2=>h1.1.symm.trans h2.1,λb c b2 h1 h2=>h1.1.trans h2.1.symm,λb hb=>?_,λb b' o o' ⟨e,hb⟩ h1 h2=>?_,λe=>(by grind),λe=>(by grind),λ_ b b' ⟨e,hb⟩=>?_⟩,⟨rfl,h.hnd⟩,λg hg=>(by grind),λb b' ⟨e,hb⟩=>?_⟩
 .grind[Jcx]
 .grind[Jcx]
 .subst e;obtain⟨_,o2,ho,hs⟩:=h.at_ b hb;rw[ho]at h2;cases h2;rw[oQ hb,ho]at h1;cases h1;cases o' with
  |cells c el fz=>
   obtain⟨hz,hc⟩:=hs;exact⟨c,fz,rfl,hc,λ_=>⟨rfl,hz⟩,λhn=>absurd hb hn⟩
  |map es ck=>exact⟨es,rfl,hs⟩
  |_=>exact hs.elim
 .subst e;exact⟨(h.at_ b hb).1,(h.at_ b hb).1⟩
 grind
end Go.Sim
namespace Go.Sim.Z
open Go Go.Proofs Go.Conc Go.ConcN Go.RowKit Go.Conc.Lib Go.ConcR.Gen Go.ConcN.Gen
open Go.ConcR (KK wgBlock WgAt stA smA rd wr mk Payload DC0)
def ptr(b:Nat):JJ:=JL b
def Fa(wg s keys passes mask c parts:Nat):JC:=#[ptr wg,ptr s,ptr keys,ptr passes,ptr mask,ptr c,ptr parts]
def T63(wg s keys passes mask c parts:Nat):JC:=Fa wg s keys passes mask c parts++Array.replicate 33 JA
def Y3(wg s keys passes mask c parts:Nat):Deferred:={ target:=.fn (.func 74) (Fa wg s keys passes mask c parts),args:=#[] }
theorem born_step(wg s keys passes mask c parts:Nat)(w:JE):stepG prog false (born prog (Y3 wg s keys passes mask c parts)) w =
  .go (G ((baseD 74).at ⟨T63 wg s keys passes mask c parts,[]⟩ [.code b63]) [bot]) w #[]:=by
 have hn:¬f74.name= "runtime.NumGoroutine":=by
  have:(f74.name == "runtime.NumGoroutine")=false:=by kernel_rfl
  grind
 have ht:f74.ntmps=40:=by kernel_rfl
 simp[born,Y3,stepG,unwind,callDeferred,invoke,callFunc,func74,seen,GStep.after,G,Frame.enter,Frame.at,baseD,bot,T63,Fa,hn,zV,ht]
theorem Jqt{Sh:JB}{wg s keys passes mask c parts:Nat}(h1:Sh s)(h2:Sh keys)(h3:Sh passes)(h4:Sh mask)(h5:Sh c) :
  TmR (C1 Sh) S1 74 (idE Sh) (T63 wg s keys passes mask c parts) (T63 wg s keys passes mask c parts):=by
 have Ag:(T63 wg s keys passes mask c parts).size=40:=by simp[T63,Fa]
 have big:∀i x,(T63 wg s keys passes mask c parts)[i]?=some x->7<=i->x=JA:=by
  intro i x hx h7;rw[T63,Array.getElem?_append_right (by simpa[Fa]using h7),Array.getElem?_replicate]at hx
  grind
 have g1:(T63 wg s keys passes mask c parts)[1]?=some (ptr s):=by simp[T63,Fa]
 have g2:(T63 wg s keys passes mask c parts)[2]?=some (ptr keys):=by simp[T63,Fa]
 have g3:(T63 wg s keys passes mask c parts)[3]?=some (ptr passes):=by simp[T63,Fa]
 have g4:(T63 wg s keys passes mask c parts)[4]?=some (ptr mask):=by simp[T63,Fa]
 have g5:(T63 wg s keys passes mask c parts)[5]?=some (ptr c):=by simp[T63,Fa]
 generalize T63 wg s keys passes mask c parts=T at *;refine⟨rfl,λi x x' hi hx Af=>?_,λi x hi hx=>?_⟩
 .rw[hx]at Af;cases Af;by_cases h7:7<=i
  .grind[VR.undef]
  .have hl:i=0\/i=1\/i=2\/i=3\/i=4\/i=5\/i=6:=by omega
   rcases hl with rfl|rfl|rfl|rfl|rfl|rfl|rfl
   .rw[show((C1 Sh).hl 74).contains 0=true from rfl]at hi;grind
   .rw[g1]at hx;obtain rfl:=Aa hx;exact .ptr 0 none ⟨rfl,h1⟩
   .rw[g2]at hx;obtain rfl:=Aa hx;exact .ptr 0 none ⟨rfl,h2⟩
   .rw[g3]at hx;obtain rfl:=Aa hx;exact .ptr 0 none ⟨rfl,h3⟩
   .rw[g4]at hx;obtain rfl:=Aa hx;exact .ptr 0 none ⟨rfl,h4⟩
   .rw[g5]at hx;obtain rfl:=Aa hx;exact .ptr 0 none ⟨rfl,h5⟩
   .rw[show((C1 Sh).hl 74).contains 6=true from rfl]at hi;grind
 .have CW:i=7\/i=9\/i=23:=by simpa[S1]using hi
  rw[big i x hx (by omega)];exact⟨λr h=>(by cases h),λh=>(by cases h)⟩
theorem worker{H:Ph}(hP:H.P=prog)(Zi:H.ty=179)(hn:H.n=4)(Ap:H.C≠H.Wg){Sh X0:JB}(hX:∀b,Sh b->X0 b){i s keys passes mask c:Nat}(hi:i<4){w:JE}
  (hSh:Jtr (C1 Sh) Sh w) (h1:Sh s) (h2:Sh keys) (h3:Sh passes) (h4:Sh mask) (h5:Sh c) {A:JC->JE->Prop} {R:Option Nat->JE->Prop}
  (K1:∀τ,c1.wp prog (λe a w1=>e=.normal/\A a.tmps w1) ⟨T63 H.Wg s keys passes mask c H.C,[Jq]⟩ ((frz Sh w).tp τ 0))
  (K2:∀t1 w1,A t1 w1->∀τ,cM.wp prog (λe a w2=>e=.normal/\a.tmps.size=40/\a.tmps[1]?=some (ptr s)/\w2.cell? ⟨s,0,none⟩=some (JK i)/\∃r,a.tmps[7]?=some (.map r)/\R r w2) ⟨t1,[Jq]⟩ (w1.tp τ 0))
  (hQ:∀E2 own X w2 w' r r',Sub (idE Sh) E2->Link (C1 Sh) S1 E2 own X w2 w'->VR (C1 Sh) E2 (.map r) (.map r')->R r w2->H.Q i own X (.map r') w') :
  Runs true prog false (Qu H i) ⟨λ_=>False,X0,born prog (Y3 H.Wg s keys passes mask c H.C),w⟩:=by
 have Ag:(T63 H.Wg s keys passes mask c H.C).size=40:=by simp[T63,Fa]
 refine Runs.idle (λw1=>born_step _ _ _ _ _ _ _ w1) rfl rfl rfl λwa ra=>?_;have hL:=(Jng (S:=S1) (C:=C1 Sh) rfl rfl hSh hX).rely ra;refine(Jyc (A2:=λt w2=>t.size=40/\t[1]?=some (ptr s)/\w2.cell? ⟨s,0,none⟩=some (JK i)/\∃r,t[7]?=some (.map r)/\R r w2) hL (Jqt h1 h2 h3 h4 h5) K1 K2).bind ?_;rintro⟨own,X,g,wz⟩ ⟨E2,t2,w2,T2,Bo,Es,Bc,Fv,⟨DR,Az,hsv,r,hr,hR⟩,hg⟩;simp only at Es hg;subst hg;have hE:E2 s s:=Bo _ _ ⟨rfl,h1⟩;have lY:T2.size=t2.size:=Bc.size.symm;have Ec:∀(i:Nat)(x:JJ),((C1 Sh).hl 74).contains i=false->t2[i]?=some x->∃x',T2[i]?=some x'/\VR (C1 Sh) E2 x x':=by intro i x hi hx;have Ac:i<t2.size:=(BJ.1 hx).1;have h':T2[i]?=some (T2[i]'(by omega)):=Bz _;exact⟨_,h',Bc.at_ i x _ hi hx h'⟩
 obtain⟨x1,EX,XT⟩:=Ec 1 _ rfl Az;obtain⟨x7,lG,yG⟩:=Ec 7 _ rfl hr;have e1:x1=ptr s:=by
  cases XT with
  |ptr o p h=>rw[Es.wr.fn _ _ _ h hE];rfl
 subst e1;have hm:∃r',x7=.map r':=by
  cases yG with
  |I5=>grind
  |map h=>grind
 obtain⟨r',rfl⟩:=hm;have hc:∃v,wz.cell? ⟨s,0,none⟩=some v/\VR (C1 Sh) E2 (JK i) v:=Es.wr.cell hE hsv;obtain⟨v,hv,Zk⟩:=hc;cases Zk;have g0:(T63 H.Wg s keys passes mask c H.C).getD 0 JA=ptr H.Wg:=by simp[T63,Fa]
 have g6:(T63 H.Wg s keys passes mask c H.C)[6]?=some (ptr H.C):=by simp[T63,Fa]
 rw[g0];have Jnv:T2.size=40:=lY.trans DR;refine Jyd hP Zi hn hi Ap Jnv EX ((Fv 6 (.inr rfl)).trans g6) lG hv (Es.rng _ _ hE).1 λw1 r1=>?_;exact hQ E2 own X w2 w1 r r' Bo (Es.rely r1) yG hR
end Go.Sim.Z
end
namespace Go.Sim
open Go Go.Conc
open Go.ConcN (sumTo upd upd_same upd_ne sumTo_upd)
theorem Jae{P:Program}{W:JB}{a a':JF}{w0:JE}{f:JE->JE}(hr:a.status=.running)(hs:∀d,stepG P true a (w0.at d)=.go a' (f (w0.at d)) #[])(hz:∀d,w0.heap.size<=(f (w0.at d)).heap.size) :
  ∀{gs:Array JF}{w:JE}{sl:Option (Nat × Nat)}{t:Trace}{q:Nat->Nat},gs[0]?=some a->Cmp P W gs w t q->AtRel w0 w ->
   ∃(N:Nat)(BG:Array JF)(d:Nat)(sl':Option (Nat × Nat))(t':Trace)(q':Nat->Nat),
    runNT P N (crowd gs w sl) t=(.next (crowd BG (f (w0.at d)) sl'),t')/\BG.size=gs.size/\BG[0]?=some a'/\Cmp P W BG (f (w0.at d)) t' q'/\∀op∈t',op.act.low w0.heap.size:=by
 intro gs w sl t q h0 hC hw;generalize hM:sumTo gs.size q=M
 induction M using Nat.strongRecOn generalizing gs w sl t q with
 |_ M ihM=>
 obtain⟨d0,rfl⟩:=hw;obtain⟨i,g,d,sl',hi,hg,Ae⟩:=crowd_pick (P:=P) (w:=w0.at d0) (sl:=sl) (Jh3 h0 hr hC.lv) ⟨0,a,h0,hr⟩;rcases Nat.eq_zero_or_pos i with rfl|BZ
 .obtain rfl:g=a:=by grind
  rw[show(w0.at d0).at d=w0.at d from rfl]at Ae;have EK:=runT_crowd_go (P:=P) (sl:=sl') (i:=0) hi (show stepG P (0 == 0) g _=_ from hs d);have O9:=hC.own (a':=a') (es:=#[]) (w':=f (w0.at d)) h0 (hz d) (own:=λ_=>False) (X:=λ_=>False) (λe he=>by simp at he) (λ_ _ h=>h) (λ_ h=>h.elim);have Ac:0<gs.size:=(BJ.1 h0).1;refine⟨1,_,d,sl',_,q,by simp only[runNT,Ae];grind,by simp,by simp[Ac],O9,λop Ar=>?_⟩;rcases Array.mem_append.1 Ar with h1|h1
  .exact hC.past.seen op h1
  .obtain⟨e,he,rfl⟩:=Conc.mem_ofEvents h1;simp at he
 .have iM:(i == 0)=false:=by simp;omega
  have Ac:i<gs.size:=(BJ.1 hi).1;cases wO:q i with
  |zero=>
   have hq:=hC.lv.old i g BZ hi;rw[wO]at hq;rw[hq.1]at hg;cases hg
  |succ n=>
   obtain⟨g',es,hgo,O9⟩:=hC.slip hi BZ hg d wO;have EK:=runT_crowd_go (P:=P) (sl:=sl') (i:=i) hi (by rw[iM];exact hgo);have Ag:((gs.map (woken P g g' ((w0.at d0).at d))).setIfInBounds i g').size=gs.size:=by simp
   have qH:sumTo gs.size (upd q i n)+(n+1)=sumTo gs.size q+n:=by
    have:=sumTo_upd q n id Ac
    simp_all
   obtain⟨N,BG,d',Ro,t',q',KR,AQ,eY,Xc,X4⟩:=ihM (sumTo gs.size (upd q i n)) (by omega) (gs:=(gs.map (woken P g g' ((w0.at d0).at d))).setIfInBounds i g') (w:=(w0.at d0).at d) (sl:=sl') (t:=_) (q:=upd q i n)
    (by
     grind[Array.getElem?_setIfInBounds_ne,woken_run])
    O9 ⟨d,rfl⟩ (by rw[Ag])
   exact⟨N+1,BG,d',Ro,t',q',by simp only[runNT,Ae,EK];exact KR,AQ.trans Ag,eY,Xc,X4⟩
structure Kept(W W':JB)(w w':JE):Prop where
 le:∀b,W b->W' b
 keep:∀b,W b->w'.heap[b]?=w.heap[b]?
 os:w'.os=w.os
 out:w'.output=w.output
theorem Kept.refl{W:JB}{w:JE}:Kept W W w w:=⟨λ_ h=>h,λ_ _=>rfl,rfl,rfl⟩
theorem Kept.trans{W W1 W2:JB}{w w1 w2:JE}(h:Kept W W1 w w1)(k:Kept W1 W2 w1 w2):Kept W W2 w w2:=
 ⟨λb hb=>k.le b (h.le b hb),λb hb=>(k.keep b (h.le b hb)).trans (h.keep b hb),k.os.trans h.os,k.out.trans h.out⟩
theorem Jaf{P:Program}{W0 W Z:JB}{Stop:Sit->Prop}{y:Sit}(hR:Runs false P true Stop y) :
  ∀{gs:Array JF}{w:JE}{sl:Option (Nat × Nat)}{t:Trace}{q:Nat->Nat},gs[0]?=some y.g->y.g.status=.running->Cmp P W0 gs w t q->AtRel y.w w->(∀b,W0 b->¬y.X b)->(∀b,W b->b<y.w.heap.size/\¬y.own b)->(∀b,Z b->b<y.w.heap.size/\¬y.X b)->(∀b,y.X b->b<y.w.heap.size) ->
   ∃(N:Nat)(BG:Array JF)(y':Sit)(sl':Option (Nat × Nat))(t':Trace)(q':Nat->Nat),
    runNT P N (crowd gs w sl) t=(.next (crowd BG y'.w sl'),t')/\BG.size=gs.size/\BG[0]?=some y'.g/\Stop y'/\Cmp P W0 BG y'.w t' q'/\(∀b,W b->¬y'.own b)/\(∀b,Z b->¬y'.X b)/\(∀b,y'.X b->b<y'.w.heap.size)/\Kept W W y.w y'.w/\y.w.heap.size<=y'.w.heap.size:=by
 induction hR with
 |@stop y h=>
  intro gs w sl t q h0 hr hC hw hd ho hz hX;obtain⟨d,rfl⟩:=hw;exact⟨0,gs,{ y with w:=y.w.at d },sl,t,q,rfl,rfl,h0,h _ (.at d),hC,λb hb=>(ho b hb).2,λb hb=>(hz b hb).2,hX,⟨λ_ h=>h,λ_ _=>rfl,rfl,rfl⟩,Ad _⟩
 |@step y f h k ih=>
  intro gs w sl t q h0 hr hC hw hd ho hz hX;generalize hM:sumTo gs.size q=M
  induction M using Nat.strongRecOn generalizing gs w sl t q with
  |_ M ihM=>
  obtain⟨d0,rfl⟩:=hw;obtain⟨i,g,d,sl',hi,hg,Ae⟩:=crowd_pick (P:=P) (w:=y.w.at d0) (sl:=sl) (Jh3 h0 hr hC.lv) ⟨0,y.g,h0,hr⟩;rcases Nat.eq_zero_or_pos i with rfl|BZ
  .obtain rfl:g=y.g:=by grind
   have hrel:BR false y.X y.w ((y.w.at d0).at d):=.at d;have Ba:=h _ hrel;obtain⟨es,hgo,hG⟩:=Ba.step;have EK:=runT_crowd_go (P:=P) (sl:=sl') (i:=0) hi (show stepG P (0 == 0) y.g _=_ from hgo);have Ac:0<gs.size:=(BJ.1 h0).1;have SN:∀b,W0 b->¬(f ((y.w.at d0).at d)).X b:=by
    intro b hb;rw[Ba.X];rintro(hx|⟨hx,_⟩)
    .grind
    .have:=hC.low b hb;exact Nat.lt_irrefl _ (DX this hx)
   have hX':∀b,(f ((y.w.at d0).at d)).X b->b<(f ((y.w.at d0).at d)).w.heap.size:=by
    intro b;rw[Ba.X];rintro(hx|⟨_,hx⟩)
    .exact DX (hX b hx) hG.size
    .exact hx
   have Em:∀b,W b->b<(f ((y.w.at d0).at d)).w.heap.size/\¬(f ((y.w.at d0).at d)).own b:=by
    intro b hb;obtain⟨h1,h2⟩:=ho b hb;refine⟨DX h1 hG.size,?_⟩;rw[Ba.own];rintro(hx|⟨hx,_⟩)
    .exact h2 hx
    .exact Nat.lt_irrefl _ (DX h1 hx)
   have OX:∀b,Z b->b<(f ((y.w.at d0).at d)).w.heap.size/\¬(f ((y.w.at d0).at d)).X b:=by
    intro b hb;obtain⟨h1,h2⟩:=hz b hb;refine⟨DX h1 hG.size,?_⟩;rw[Ba.X];rintro(hx|⟨hx,_⟩)
    .exact h2 hx
    .exact Nat.lt_irrefl _ (DX h1 hx)
   have hK:Kept W W y.w (f ((y.w.at d0).at d)).w:=⟨λ_ h=>h,λb hb=>hG.keep b (ho b hb).1 (ho b hb).2,hG.os,hG.out⟩;have O9:=hC.own (a':=(f ((y.w.at d0).at d)).g) h0 hG.size hG.evs (λb hb=>by have:=SN b hb;rw[Ba.X]at this;exact this) (λb hb=>hX' b (by rw[Ba.X];exact hb));obtain⟨N,BG,y',Ro,t',q',KR,AQ,eY,hS,Xc,ho1,DJ,gU,hK1,Bo⟩:=ih _ hrel (sl:=sl') (by simp[Ac]) Ba.run O9 ⟨_,rfl⟩ SN Em OX hX';exact⟨N+1,BG,y',Ro,t',q',by simp only[runNT,Ae,EK];exact KR,AQ.trans (by simp),eY,hS,Xc,ho1,DJ,gU,hK.trans hK1,BN hG.size Bo⟩
  .have iM:(i == 0)=false:=by simp;omega
   have Ac:i<gs.size:=(BJ.1 hi).1;cases wO:q i with
   |zero=>
    have hq:=hC.lv.old i g BZ hi;rw[wO]at hq;rw[hq.1]at hg;cases hg
   |succ n=>
    obtain⟨g',es,hgo,O9⟩:=hC.slip hi BZ hg d wO;have EK:=runT_crowd_go (P:=P) (sl:=sl') (i:=i) hi (by rw[iM];exact hgo);have Ag:((gs.map (woken P g g' ((y.w.at d0).at d))).setIfInBounds i g').size=gs.size:=by simp
    have qH:sumTo gs.size (upd q i n)+(n+1)=sumTo gs.size q+n:=by have:=sumTo_upd q n id Ac;simpa[wO]using this
    obtain⟨N,BG,y',Ro,t',q',KR,AQ,eY,hS,Xc,Za,gU⟩:=ihM (sumTo gs.size (upd q i n)) (by omega) (gs:=(gs.map (woken P g g' ((y.w.at d0).at d))).setIfInBounds i g') (w:=(y.w.at d0).at d) (sl:=sl') (t:=_) (q:=upd q i n)
     (by
      grind[Array.getElem?_setIfInBounds_ne,woken_run])
     O9 ⟨d,rfl⟩ (by rw[Ag])
    exact⟨N+1,BG,y',Ro,t',q',by simp only[runNT,Ae,EK];exact KR,AQ.trans Ag,eY,hS,Xc,Za,gU⟩
def wgT:JH:=179
def Shy(W0 W:JB)(w:JE):Prop:=∀b,W0 b->W b/\∃a z,w.heap[b]?=some (.cells a wgT z)
def Reach(P:Program)(Post:(JB)->JF->JE->Prop)(W:JB)(g:JF)(w:JE):Prop:=
 ∀(gs:Array JF)(sl:Option (Nat × Nat))(t:Trace)(q:Nat->Nat)(W0:JB),Shy W0 W w->(∀b,W b->b<w.heap.size)->gs[0]?=some g->Cmp P W0 gs w t q ->
  ∃(N:Nat)(BG:Array JF)(w':JE)(sl':Option (Nat × Nat))(t':Trace)(q':Nat->Nat)(W' vN:JB)(g':JF),
   runNT P N (crowd gs w sl) t=(.next (crowd BG w' sl'),t')/\BG[0]?=some g'/\Cmp P vN BG w' t' q'/\Post W' g' w'/\Kept W W' w w'/\Shy vN W' w'/\∀b,W' b->b<w'.heap.size
section
variable{P:Program}{Post Jwy:(JB)->JF->JE->Prop}{W:JB}{g:JF}{w:JE}
theorem ZT{m m' m'':Machine}{t t' t'':Trace}{N K:Nat}(h:runNT P N m t=(.next m',t'))(hk:runNT P K m' t'=(.next m'',t'')):runNT P (N+K) m t=(.next m'',t''):=by
 grind[runNT_add]
theorem Reach.here(h:Post W g w):Reach P Post W g w:=λgs sl t q W0 hs hl h0 hC=>⟨0,gs,w,sl,t,q,W,W0,g,rfl,h0,hC,h,.refl,hs,hl⟩
theorem Reach.bind(h:Reach P Post W g w)(k:∀W' g' w',Post W' g' w'->Reach P Jwy W' g' w'):Reach P Jwy W g w:=by intro gs sl t q W0 hs hl h0 hC;obtain⟨N,BG,w',sl',t',q',W',W1,g',hr,h0',O9,hP,hK,D9,iW⟩:=h gs sl t q W0 hs hl h0 hC;obtain⟨N2,Nb,w2,Pj,t2,q2,W2,W3,g2,BM,WY,QD,Xg,fQ,Bo,Eu⟩:=k W' g' w' hP BG sl' t' q' W1 D9 iW h0' O9;exact⟨N+N2,Nb,w2,Pj,t2,q2,W2,W3,g2,ZT hr BM,WY,QD,Xg,hK.trans fQ,Bo,Eu⟩
theorem Reach.kept(h:Reach P Post W g w):Reach P (λW' g' w'=>Post W' g' w'/\Kept W W' w w') W g w:=by
 intro gs sl t q W0 hs hl h0 hC;obtain⟨N,BG,w',sl',t',q',W',W1,g',hr,h0',O9,hP,hK,D9,iW⟩:=h gs sl t q W0 hs hl h0 hC
 grind
theorem Reach.mid{Mid:JF->JE->Prop}(h:Reach P (λW' g' w'=>W'=W/\Mid g' w') W g w)(k:∀g' w',Mid g' w'->(∀b,W b->w'.heap[b]?=w.heap[b]?)->Reach P Post W g' w'):Reach P Post W g w:=
 h.kept.bind λW' g' w' ⟨⟨e,hm⟩,hK⟩=>by subst e;exact k g' w' hm hK.keep
theorem Shy.kept{W0 W':JB}{w':JE}(h:Shy W0 W w)(k:Kept W W' w w'):Shy W0 W' w':=λb hb=>by obtain⟨h1,a,z,h2⟩:=h b hb;exact⟨k.le b h1,a,z,(k.keep b h1).trans h2⟩
theorem Reach.Jjp{own X Z:JB}{Stop:Sit->Prop}(hR:Runs false P true Stop ⟨own,X,g,w⟩)(hr:g.status=.running)(hd:∀b a z,W b->w.heap[b]?=some (.cells a wgT z)->¬X b)(jP:∀b,W b->¬own b)(hZ:∀b,Z b->b<w.heap.size/\¬X b)(hX:∀b,X b->b<w.heap.size)
  (k:∀y,Stop y->(∀b,W b->¬y.own b)->(∀b,Z b->¬y.X b)->(∀b,y.X b->b<y.w.heap.size)->Kept W W w y.w->Reach P Post W y.g y.w):Reach P Post W g w:=by
 intro gs sl t q W0 hs hl h0 hC;obtain⟨N,BG,y',sl',t',q',h1,_,h3,h4,h5,h6,h7,h8,h9,Ce⟩:=Jaf (W:=W) (Z:=Z) hR (sl:=sl) h0 hr hC (atRel_refl w) (λb hb=>by obtain⟨a1,a2,a3,a4⟩:=hs b hb;grind) (λb hb=>⟨hl b hb,jP b hb⟩) hZ hX;obtain⟨N2,Nb,w2,Pj,t2,q2,W2,W3,g2,BM,WY,QD,Xg,hK,Bo,Eu⟩:=k y' h4 h6 h7 h8 h9 BG sl' t' q' W0 (hs.kept h9) (λb hb=>DX (hl b hb) Ce) h3 h5;exact⟨N+N2,Nb,w2,Pj,t2,q2,W2,W3,g2,ZT h1 BM,WY,QD,Xg,h9.trans hK,Bo,Eu⟩
theorem Reach.U9{own X:JB}{Stop:Sit->Prop}(hR:Runs false P true Stop ⟨own,X,g,w⟩)(hr:g.status=.running)(hd:∀b,W b->¬X b)(jP:∀b,W b->¬own b)(hX:∀b,X b->b<w.heap.size)
  (k:∀y,Stop y->(∀b,W b->¬y.X b)->(∀b,y.X b->b<y.w.heap.size)->Reach P Post W y.g y.w):Reach P Post W g w:=by
 intro gs sl t q W0 hs hl h0 hC;exact Reach.Jjp (Z:=W) hR hr (λb _ _ hb _=>hd b hb) jP (λb hb=>⟨hl b hb,hd b hb⟩) hX (λy h1 _ h3 h4 _=>k y h1 h3 h4) gs sl t q W0 hs hl h0 hC
theorem Reach.idle{g':JF}(hs:∀w1,stepG P true g w1=.go g' w1 #[])(hr:g.status=.running)(k:∀w',AtRel w w'->Reach P Post W g' w'):Reach P Post W g w:=by intro gs sl t q W0 hsy hl h0 hC;obtain⟨N,BG,d,sl',t',q',h1,_,h3,h5,_⟩:=Jae (f:=id) hr (λd=>hs _) (λd=>Ad _) (sl:=sl) h0 hC (atRel_refl w);obtain⟨N2,Nb,w2,Pj,t2,q2,W2,W3,g2,BM,WY,QD,Xg,hK,Bo,Eu⟩:=k _ ⟨d,rfl⟩ BG sl' t' q' W0 (hsy.kept (w':=w.at d) ⟨λ_ h=>h,λ_ _=>rfl,rfl,rfl⟩) hl h3 h5;exact⟨N+N2,Nb,w2,Pj,t2,q2,W2,W3,g2,ZT h1 BM,WY,QD,Xg,Kept.trans (w1:=w.at d) ⟨λ_ h=>h,λ_ _=>rfl,rfl,rfl⟩ hK,Bo,Eu⟩
end
structure BOk(C:Cx)(S:Kn)(W E:JB)(w:JE):Prop where
 wr:WR C (okP C S) (idE E) w w
 hnd:E C.P.globals.size
 gl:∀g,S.gs.contains g=true->E g
 dis:∀b,W b->¬E b
section
variable{C:Cx}{S:Kn}{W E:JB}{w:JE}
theorem BOk.lt(h:BOk C S W E w){b:Nat}(hb:E b):b<w.heap.size:=(h.wr.dom b b ⟨rfl,hb⟩).1
theorem WR.atR{ok:JG->Code->Prop}{E:J5}{w w':JE}(h:WR C ok E w w')(d:Nat):WR C ok E w (w'.at d):=
 ⟨h.os,h.dom,h.fn,h.inj,h.old,h.obj,h.lid,h.lsz,h.glob⟩
theorem WR.atL{ok:JG->Code->Prop}{E:J5}{w w':JE}(h:WR C ok E w w')(d:Nat):WR C ok E (w.at d) w':=
 ⟨h.os,h.dom,h.fn,h.inj,h.old,h.obj,h.lid,h.lsz,h.glob⟩
theorem BOk.at(h:BOk C S W E w)(d:Nat):BOk C S W E (w.at d):=⟨(h.wr.atR d).atL d,h.hnd,h.gl,h.dis⟩
theorem BOk.link(h:BOk C S W E w):Link C S (idE E) E E w w:=
 ⟨h.wr,⟨rfl,h.hnd⟩,λg hg=>⟨rfl,h.gl g hg⟩,λb b' ⟨e,hb⟩=>by grind⟩
theorem TmR.eq_of{fn:JG}{E1:J5}(hE:∀b b',E1 b b'->b=b'){t t' t0:JC}(h:TmR C S fn E1 t t')(hh:∀i,(C.hl fn).contains i=true->t'[i]?=t0[i]?)(hl:∀i,(C.hl fn).contains i=true->i<t0.size->t[i]?=t0[i]?):t'=t:=by
 apply Ll;intro i;by_cases hi:(C.hl fn).contains i=true
 .rw[hh i hi];by_cases Ac:i<t0.size
  .grind
  .have hn:t'.size<=i:=PE.1 ((hh i hi).trans (Cc (by omega)));rw[Cc (by omega),Cc (by have:=h.size;omega)]
 .by_cases Ac:i<t.size
  .have h1:t[i]?=some t[i]:=Bz Ac;have h2:t'[i]?=some (t'[i]'(h.size▸Ac)):=Bz _;rw[h1,h2,(h.at_ i _ _ (by grind) h1 h2).eq hE]
  .rw[Cc (by have:=h.size;omega),Cc (by omega)]
theorem J5x(hB:BOk C S W E w)(Ae:C.st=false){E1:J5}{own X:JB}{w1 wy:JE}(hs:Sub (idE E) E1)(hL:Link C S E1 own X w1 wy)(hd:∀b,W b->¬X b) :
  ∃E':JB,(∀b b',E1 b b'->b=b')/\E1=idE E'/\(∀b,E b->E' b)/\BOk C S W E' wy/\WR C (okP C S) (idE E') w1 wy:=by
 have Cj:∀b,¬C.Sh b:=C.lax Ae
 let E':JB:=λb=>E1 b b
 have e1:∀b b',E1 b b'->b=b':=hL.wr.lid Ae;have hE:∀b,E b->E' b:=λb hb=>hs b b ⟨rfl,hb⟩;have s2:rng E1=E':=by
  funext b;simp only[rng,E',eq_iff_iff]
  grind
 have s3:E1=idE E':=by
  funext b b';simp only[idE,E',eq_iff_iff]
  grind
 have Qh:WR C (okP C S) (idE E') wy wy:=by
  have:=hL.wr.right (Md.refl C) (ok':=okP C S) Cj Ae (λ_=>⟨rfl,rfl⟩)
  grind
 exact⟨E',e1,s3,hE,⟨Qh,hE _ hB.hnd,λg hg=>hE _ (hB.gl g hg),λb hb he=>hd b hb (hL.rng b b he).1⟩,by rw[<- s3];exact hL.wr⟩
theorem Reach.piece(A:FM C S)(Ae:C.st=false){Post:(JB)->JF->JE->Prop}{b:Frame}{c:Code}{t:JC}{ds:List Deferred}{k:List Item}{cs:List Frame}{Q:Exit->JC->JE->Prop}
  (hc:Ji C S b.fn c=true) (hb:GY C b.fn) (Nk:S.df.contains b.fn=false) (hl:C.hl b.fn≠[]) (hk:b.kind≠.early)
  (hB:BOk C S W E w) (ht:TmR C S b.fn (idE E) t t)
  (K:∀τ,c.wp C.P (λe a w1=>(e=.normal\/e=.ret)/\(∀i,(C.hl b.fn).contains i=true->a.tmps[i]?=t[i]?)/\Q e a.tmps w1) ⟨t,[Jq]⟩ (w.tp τ 0))
  (kn:∀(E':JB)(t':JC)(w1 w':JE),(∀b,E b->E' b)->BOk C S W E' w'->WR C (okP C S) (idE E') w1 w'->TmR C S b.fn (idE E') t' t'->Q .normal t' w1->Reach C.P Post W (G (b.at ⟨t',ds⟩ k) cs) w')
  (kr:∀(E':JB)(t':JC)(w1 w':JE)(todo:List Item),(∀b,E b->E' b)->BOk C S W E' w'->WR C (okP C S) (idE E') w1 w'->TmR C S b.fn (idE E') t' t'->Q .ret t' w1->Reach C.P Post W (G { b.at ⟨t',ds⟩ todo with mode:=.returning } cs) w') :
  Reach C.P Post W (G (b.at ⟨t,ds⟩ (.code c::k)) cs) w:=by
 have hR:=nG A (main:=true) (b:=b) (c:=c) (ds:=ds) (k:=k) (cs:=cs) (Q:=λe a w1=>(e=.normal\/e=.ret)/\(∀i,(C.hl b.fn).contains i=true->a.tmps[i]?=t[i]?)/\Q e a.tmps w1) hc hb Nk hl hk hB.link ht K (λe a w h=>h.1);rw[Ae]at hR;refine Reach.U9 hR rfl hB.dis hB.dis (λb hb=>hB.lt hb) ?_;rintro⟨own,X,g,wy⟩ ⟨E1,a,w1,t',hs,hL,CB,LC,hq⟩ hd hX;simp only at hL hd hX hq;obtain⟨E',e1,s3,hE,Gq,BQ⟩:=J5x hB Ae hs hL hd;have key:(∀i,(C.hl b.fn).contains i=true->a.tmps[i]?=t[i]?)->t'=a.tmps/\TmR C S b.fn (idE E') a.tmps a.tmps:=by
  intro hh;have:=CB.eq_of e1 LC λi h _=>hh i h
  grind
 grind
end
def LGo(P:Program)(fn:JG)(Stop:JF->JE->Prop)(X:List Item)(t:JC)(w:JE):Prop:=
 ∃n g w',runN P n (solo (G ((base fn).at ⟨t,[Jq]⟩ (X++[Js])) []) w)=.next (solo g w')/\Stop g w'
def bI(fn:JG)(X:List Item)(Q:JC->JE->Prop)(g:JF)(w:JE):Prop:=
 ∃t,g=G ((base fn).at ⟨t,[Jq]⟩ (X++[Js])) []/\Q t w
def Jm2(fn:JG)(Q:JC->JE->Prop)(g:JF)(w:JE):Prop:=
 ∃t todo,g=G { (base fn).at ⟨t,[Jq]⟩ todo with mode:=.returning } []/\Q t w
section
variable{P:Program}{fn:JG}{Stop:JF->JE->Prop}{X:List Item}{t:JC}{w:JE}
theorem LGo.at{Q:JC->JE->Prop}(h:Q t w):LGo P fn (bI fn X Q) X t w:=⟨0,_,w,rfl,t,rfl,h⟩
theorem LGo.steps{X':List Item}{t':JC}{w':JE}(h:Steps P (lone ((base fn).at ⟨t,[Jq]⟩ (X++[Js])) [] w) (lone ((base fn).at ⟨t',[Jq]⟩ (X'++[Js])) [] w'))(k:LGo P fn Stop X' t' w'):LGo P fn Stop X t w:=by
 obtain⟨n,hn⟩:=h;obtain⟨m,g,w2,hm,hs⟩:=k;refine⟨n+m,g,w2,?_,hs⟩;rw[runN_add];show(match runN P n (lone _ _ _)with| .next m'=>runN P m m'|e=>e)=_;rw[hn];exact hm
theorem Jm3{ops:Array Oper}{Q:Exit->Act->JE->Prop}(hQ:∀e a w,Q e a w->e=.normal):∀(l:List Nat)(a:Act)(w:JE),wpOps P ops Q l a w->∀(b:Frame)(rest:List Nat)(k:List Item)(cs:List Frame),
  ∃a' w',Q .normal a' w'/\Steps P (lone (b.at a (.inRegion ops (l++rest)::k)) cs w) (lone (b.at a' (.inRegion ops rest::k)) cs w'):=by
 intro l
 induction l with
 |nil=>exactλa w h b rest k cs=>⟨a,w,h,.refl _ _⟩
 |cons i l ih=>
  intro a w h b rest k cs;have go:∀(a1:Act)(w1:JE),wpOps P ops Q l a1 w1->Steps P (lone (b.at a (.inRegion ops (i::(l++rest))::k)) cs w) (lone (b.at a1 (.inRegion ops (l++rest)::k)) cs w1) ->
    ∃a' w',Q .normal a' w'/\Steps P (lone (b.at a (.inRegion ops (i::(l++rest))::k)) cs w) (lone (b.at a' (.inRegion ops rest::k)) cs w'):=λa1 w1 h1 hs=>by
   obtain⟨a',w',q,r⟩:=ih a1 w1 h1 b rest k cs;exact⟨a',w',q,hs.trans r⟩
  simp only[wpOps]at h;rw[G9];cases ho:ops[i]? with
  |none=>
   simp only[ho]at h;have hs:=step_op_skip (P:=P) (b:=b) (a:=a) (k:=k) (cs:=cs) (w:=w) (ops:=ops) (i:=i) (rest:=l++rest) (by simp[ho]);simp only[ho,Option.bind_none,Act.put]at hs;exact go _ _ h (.one hs)
  |some o=>
   simp only[ho]at h;have BH:∀v,(b.at a (.inRegion ops (i::(l++rest))::k)).finish v=b.at (a.put o.dst v) (.inRegion ops (l++rest)::k):=λv=>by rw[Frame.finish_at,ho];rfl
   by_cases hw:Region.wanted o (yielded ops a.tmps)=true
   .simp only[hw,if_true]at h;rcases h with h|⟨_,a₀,w₀,hq⟩
    case inr=>grind
    have hg:=stepG_op (P:=P) (b:=b) (k:=k) (cs:=cs) (w:=w) (rest:=l++rest) ho hw;simp only[Oper.wp,Oper.upon]at h;split at h
    .rename_i v w' hr;exact go _ _ h (.one (step_lone_go (by rw[hg,<- BH];simp[stepG.apply,hr])))
    .rename_i w' hr;exact go _ _ h (.one (step_lone_go (by rw[hg,<- BH];simp[stepG.apply,hr])))
    .rename_i d w' hr;refine go _ _ h (.one (step_lone_go ?_));have e1:({ b.at a (.inRegion ops (i::(l++rest))::k)with defers:=d::a.defers }:Frame).finish JA =
       b.at ({ a with defers:=d::a.defers }.put o.dst JA) (.inRegion ops (l++rest)::k):=by
      have:=Frame.finish_at b { a with defers:=d::a.defers } ops i (l++rest) k JA;rw[ho]at this;exact this
     rw[hg];simp only[stepG.apply,Sem.runT_eq,hr,GStep.bare_after];exact congrArg (λfr=>GStep.go { frame:=fr,callers:=cs,status:=.running,dying:=none } w') e1
    .rename_i f args w' hr;obtain⟨e,Qj,fr,hR,N7,_,Xy⟩:=h (b.at a (.inRegion ops (i::(l++rest))::k)::cs);have Nl:step P (lone (b.at a (.inRegion ops (i::(l++rest))::k)) cs w) =
       .next (lone (Frame.enter P f args .normal) (b.at a (.inRegion ops (i::(l++rest))::k)::cs) w'):=
      step_lone_go (by rw[hg];simp[stepG.apply,hr,Frame.at])
     cases e with
     |returned v=>
      refine go _ _ hR (.head Nl (Steps.trans N7 (.one ?_)))
      grind[step_leave_returned]
     |panicked chain=>grind
     |outgrown=>
      obtain⟨a₀,w₀,hq⟩:=hR
      grind
    .rename_i row args w' hr;obtain⟨v,Qj,hR,N7⟩:=h (b.at a (.inRegion ops (i::(l++rest))::k)) cs;have Nl:step P (lone (b.at a (.inRegion ops (i::(l++rest))::k)) cs w) =
       .next (lone (Frame.ofRow P row args .normal) (b.at a (.inRegion ops (i::(l++rest))::k)::cs) w'):=
      step_lone_go (by rw[hg];simp[stepG.apply,hr,Frame.at])
     refine go _ _ hR (.head Nl ?_)
     grind
    all_goals grind
   .simp only[hw,if_false,DY]at h;have hs:=step_op_skip (P:=P) (b:=b) (a:=a) (k:=k) (cs:=cs) (w:=w) (ops:=ops) (i:=i) (rest:=l++rest) (by grind);simp only[ho,Option.bind_some]at hs;exact go _ _ h (.one hs)
def Cont(P:Program)(fn:JG)(Stop:JF->JE->Prop)(X:List Item)(e:Exit)(a:Act)(w:JE):Prop:=
 (e=.normal/\a.defers=[Jq]/\LGo P fn Stop X a.tmps w)\/(e=.ret/\a.defers=[Jq]/\∀todo,Stop (G { (base fn).at a todo with mode:=.returning } []) w)
theorem Cont.ret{Q:JC->JE->Prop}{a:Act}(h:Q a.tmps w)(hd:a.defers=[Jq]):Cont P fn (Jm2 fn Q) X .ret a w:=
 .inr ⟨rfl,hd,λtodo=>⟨a.tmps,todo,by rw[<- hd],h⟩⟩
theorem LGo.wp{c:Code}(h:c.wp P (Cont P fn Stop X) ⟨t,[Jq]⟩ w):LGo P fn Stop (.code c::X) t w:=by
 obtain⟨e,a',w',hq,OB⟩:=h (base fn) (X++[Js]) [];rcases hq with⟨rfl,hd,hl⟩|⟨rfl,hd,hs⟩
 .obtain⟨tm,df⟩:=a';cases hd;exact LGo.steps (X':=X) (t':=tm) (w':=w') OB hl
 .obtain⟨todo,n,hn⟩:=OB;exact⟨n,_,w',hn,hs todo⟩
theorem LGo.done{ops:Array Oper}(h:LGo P fn Stop X t w):LGo P fn Stop (.inRegion ops []::X) t w:=
 LGo.steps (X':=X) (.one step_region_end) h
theorem LGo.ops{ops:Array Oper}{pre rest:List Nat}(h:wpOps P ops (λe a w1=>e=.normal/\a.defers=[Jq]/\LGo P fn Stop (.inRegion ops rest::X) a.tmps w1) pre ⟨t,[Jq]⟩ w):LGo P fn Stop (.inRegion ops (pre++rest)::X) t w:=by obtain⟨a',w',⟨_,hd,hl⟩,hs⟩:=Jm3 (λ_ _ _ h=>h.1) pre _ _ h (base fn) rest (X++[Js]) [];obtain⟨tm,df⟩:=a';cases hd;exact LGo.steps (X':=.inRegion ops rest::X) (t':=tm) (w':=w') hs hl
theorem J9a{ops:Array Oper}{Q:Exit->Act->JE->Prop}:∀(l:List Oper)(i0:Nat),(∀j,j<l.length->ops[i0+j]?=l[j]?)->wpOps P ops Q (List.range' i0 l.length)=wpList P ops Q l
 |[],_,_=>rfl
 |o::l,i0,h=>by
  have h0:ops[i0]?=some o:=by simpa using h 0 (by simp)
  have ih:=J9a (Q:=Q) l (i0+1) λj hj=>by have:=h (j+1) (by simp;omega);rw[show i0+1+j=i0+(j+1) by omega,this];simp
  funext a w;simp only[Lh,List.range'_succ,wpOps,h0,wpList,ih]
theorem LGo.list{ops:Array Oper}{l:List Oper}{i0:Nat}{rest:List Nat}(hi:∀j,j<l.length->ops[i0+j]?=l[j]?)(h:wpList P ops (λe a w1=>e=.normal/\a.defers=[Jq]/\LGo P fn Stop (.inRegion ops rest::X) a.tmps w1) l ⟨t,[Jq]⟩ w):LGo P fn Stop (.inRegion ops (List.range' i0 l.length++rest)::X) t w:=
 LGo.ops (by simp_all[J9a])
theorem GZ.eq_of{C:Cx}{S:Kn}{fn:JG}{E:J5}(hE:∀b b',E b b'->b=b'){l l':List Item}(h:GZ C S fn E l l'):l'=l:=by
 induction h with
 |nil=>rfl
 |cons h _ ih=>
  rw[ih];congr 1;cases h with
  |inRangeFunc h=>rw[hE _ _ h]
  |endRangeFunc h=>rw[hE _ _ h]
  |_=>rfl
end
section
variable{C:Cx}{S:Kn}{W E:JB}{w:JE}
theorem Jeu{E1:J5}{b:Frame}{t t1:JC}{k L L':List Item}{rest:List Nat}{ds:List Deferred}{cs:List Frame}{g:JF}(hG:GR C S E1 ⟨b.fn,t,k,rest,b.kind,ds,cs⟩ (G ((base b.fn).at ⟨t1,[Jq]⟩ L) []) g)(e1:∀b b',E1 b b'->b=b')
  (hh:∀i,(C.hl b.fn).contains i=true->i<t.size->t1[i]?=t[i]?) (hx:∀y,Pz C S ⟨b.fn,t,k,rest,b.kind,ds,cs⟩ b.fn E1 L y->y=L'):g=G (b.at ⟨t1,ds⟩ L') cs/\TmR C S b.fn E1 t1 t1:=by
 obtain⟨fy,TY,yZ,dy,oy⟩:=g;have IW:=hG.stack;have r1:=hG.run';have r2:=hG.dying';have r3:=hG.offers;simp only at r1 r2 r3;subst r1 r2 r3;change StR C S E1 _ [(base b.fn).at ⟨t1,[Jq]⟩ L] (fy::TY)at IW;generalize hz:fy::TY=z at IW;cases IW with
 |cons _ h2=>cases h2
 |bot Pv=>
  cases hz;have CB:TmR C S b.fn E1 t1 fy.tmps:=Pv.tmps;have dK:fy.todo=L':=hx _ Pv.todo;have key:fy.tmps=t1:=CB.eq_of e1 Pv.hold hh;have eP:fy=b.at ⟨fy.tmps,ds⟩ L':=by obtain⟨f1,f2,f3,f4,f5,f6,f7⟩:=fy;have a1:=Pv.fn2;have a2:=Pv.kind2;have a3:=Pv.dfr;have a4:=Pv.RV;have a5:=Pv.round';simp only at a1 a2 a3 a4 a5 dK;subst a1 a2 a3 a4 a5 dK;rfl
  rw[key]at CB eP;exact⟨by rw[eP];rfl,CB⟩
theorem Reach.ret(A:FM C S)(Ae:C.st=false){Post:(JB)->JF->JE->Prop}{b:Frame}{X0:List Item}{t:JC}{ds:List Deferred}{k:List Item}{cs:List Frame}{Q:JC->JE->Prop}
  (hX:GZ C S b.fn (idE E) X0 X0) (hb:GY C b.fn) (Nk:S.df.contains b.fn=false) (hl:C.hl b.fn≠[]) (hk:b.kind≠.early)
  (hB:BOk C S W E w) (ht:TmR C S b.fn (idE E) t t)
  (K:∀τ,LGo C.P b.fn (Jm2 b.fn λt1 w1=>(∀i,(C.hl b.fn).contains i=true->i<t.size->t1[i]?=t[i]?)/\Q t1 w1) X0 t (w.tp τ 0))
  (kn:∀(E':JB)(t':JC)(w1 w':JE)(todo:List Item),(∀b,E b->E' b)->BOk C S W E' w'->WR C (okP C S) (idE E') w1 w'->TmR C S b.fn (idE E') t' t'->Q t' w1->Reach C.P Post W (G { b.at ⟨t',ds⟩ todo with mode:=.returning } cs) w') :
  Reach C.P Post W (G (b.at ⟨t,ds⟩ (X0++k)) cs) w:=by
 let B:Bot:=⟨b.fn,t,k,[],b.kind,ds,cs⟩
 have hg:GR C S (idE E) B (G ((base b.fn).at ⟨t,[Jq]⟩ (X0++[Js])) []) (G (b.at ⟨t,ds⟩ (X0++k)) cs):=
  ⟨.bot ⟨rfl,hb,rfl,hk,rfl,rfl,ht,Pz.code (cs:=B) rfl hX,rfl,rfl,rfl,Nk,hl,rfl,rfl,rfl,λ_ _=>rfl⟩,rfl,rfl,rfl,rfl,rfl⟩
 have hR:=Jlu A (main:=true) (cs:=B) (y0:=⟨E,E,G (b.at ⟨t,ds⟩ (X0++k)) cs,w⟩) (Post:=λ_ _=>False) (PostR:=λt1 w1=>(∀i,(C.hl b.fn).contains i=true->i<t.size->t1[i]?=t[i]?)/\Q t1 w1) hB.link hg (λτ=>by obtain⟨n,g,w1,h1,t1,todo,rfl,h2⟩:=K τ;exact⟨n,_,w1,h1,rfl,.inr ⟨rfl,h2⟩⟩);rw[Ae]at hR;refine Reach.U9 hR rfl hB.dis hB.dis (λb hb=>hB.lt hb) ?_;rintro⟨own,X,g,wy⟩ ⟨E1,g1,w1,hs,hL,⟨_,_,hf⟩|⟨he,hh,hq⟩⟩ hd gV
 .exact hf.elim
 simp only at hL hd gV he;obtain⟨E',e1,s3,hE,Gq,BQ⟩:=J5x hB Ae hs hL hd;obtain⟨fy,TY,yZ,dy,oy⟩:=g;obtain⟨z1,z2,z3,z4,z5,z6,z7,z8,z9,VK,ZM,z12,Yg,Yh,Yi,Rt,z17⟩:=he;simp only at z2 z3 z5 z6 z9 ZM z12 Yg Yh Yi Rt;subst z2 z9 ZM z12;have CB:TmR C S b.fn E1 g1.frame.tmps fy.tmps:=by grind
 have LC:∀i,(C.hl b.fn).contains i=true->fy.tmps[i]?=t[i]?:=by
  grind
 generalize g1.frame.tmps=t1 at CB hh hq;have key:fy.tmps=t1:=CB.eq_of e1 LC hh;obtain⟨f1,f2,f3,f4,f5,f6,f7⟩:=fy;simp only at z3 z5 Yg Yh Yi Rt key CB;subst z5 Yg Yh Yi Rt key;exact kn E' _ w1 wy _ hE Gq BQ (by grind) hq
end
section
variable{C:Cx}{S:Kn}{W E:JB}{w w1:JE}{g g':JF}
theorem BOk.rely(h:BOk C S W E w)(Ae:C.st=false)(r:BR false E w w1):BOk C S W E w1:=by
 have Cj:∀b,¬C.Sh b:=C.lax Ae;refine⟨⟨rfl,λb b' k=>?_,h.wr.fn,h.wr.inj,λb k=>(Cj b k).elim,λb b' o o' k x x'=>?_,h.wr.lid,λ_=>rfl,h.wr.glob⟩,h.hnd,h.gl,h.dis⟩
 .have:=h.wr.dom b b' k;have:=r.size;omega
 .obtain⟨rfl,hb⟩:=k;rw[r.blocks b hb]at x x';exact h.wr.obj b b o o' ⟨rfl,hb⟩ x x'
theorem Reach.hand(hB:BOk C S W E w){Post:(JB)->JF->JE->Prop}{f:JE->JE}(hr:g.status=.running)(ET:g'.status=.running)(hd:g'.dying=none)(ho:g'.offers=none)
  (hs:∀w1,BR false E w w1->∃es,stepG C.P true g w1=.go g' (f w1) es/\Jtd E E w1 (f w1) es)
  (k:∀w1 w2,BR false E w w1->BR false (grown E w1 (f w1)) (f w1) w2->(∀b,W b->¬grown E w1 (f w1) b)->Reach C.P Post W g' w2):Reach C.P Post W g w:=by
 have hR:Runs false C.P true (λy=>∃w1,BR false E w w1/\y.g=g'/\y.X=grown E w1 (f w1)/\BR false (grown E w1 (f w1)) (f w1) y.w) ⟨E,E,g,w⟩:=by refine .step (λw1=>⟨grown E w1 (f w1),grown E w1 (f w1),g',f w1⟩) (λw1 r=>⟨hs w1 r,ET,hd,ho,rfl,rfl⟩) λw1 r=>.stop λw2 r2=>⟨w1,r,rfl,rfl,r2⟩
 refine Reach.U9 hR hr hB.dis hB.dis (λb hb=>hB.lt hb) ?_;rintro⟨own,X,gy,wy⟩ ⟨w1,r1,rfl,rfl,r2⟩ h1 h2
 grind
theorem BOk.push(h:BOk C S W E w)(Ae:C.st=false){o:Obj}(ho:Kv C (okP C S) (idE λb=>E b\/b=w.heap.size) w.heap.size o o)(hW:¬W w.heap.size):BOk C S W (λb=>E b\/b=w.heap.size) (w.alloc o):=by
 have Cj:∀b,¬C.Sh b:=C.lax Ae;have Ac:∀b,E b->b<w.heap.size:=λb hb=>h.lt hb;refine⟨⟨rfl,λb b' k=>?_,λb c c' k k'=>k.1.symm.trans k'.1,λb c b2 k k'=>k.1.trans k'.1.symm,λb k=>(Cj b k).elim,λb b' x x' k hx Af=>?_,λ_ b b' k=>k.1,λ_=>rfl,λe=>by grind⟩,.inl h.hnd,λg hg=>.inl (h.gl g hg),λb hb k=>?_⟩
 .obtain⟨rfl,k⟩:=k;have:b<(w.alloc o).heap.size:=by
   rw[World.size_alloc]
   grind
  grind
 .obtain⟨rfl,k⟩:=k;rw[hx]at Af;cases Af;rcases k with k|rfl
  .have hb:=Ac b k;rw[show(w.alloc o).heap[b]?=w.heap[b]? from by show(w.heap.push o)[b]?=_;grind]at hx;exact(h.wr.obj b b x x ⟨rfl,k⟩ hx hx).mono λ_ _ h=>⟨h.1,.inl h.2⟩
  grind[World.alloc_heap_new]
 .rcases k with k|rfl
  .exact h.dis b hb k
  grind
theorem BOk.put(h:BOk C S W E w)(Ae:C.st=false){D:Nat}{o:Obj}(hD:E D)(ho:Kv C (okP C S) (idE E) D o o):BOk C S W E (w.putObj D o):=by
 have Cj:∀b,¬C.Sh b:=C.lax Ae;have Ag:(w.putObj D o).heap.size=w.heap.size:=by simp_all
 refine⟨⟨rfl,λb b' k=>by rw[Ag];exact h.wr.dom b b' k,h.wr.fn,h.wr.inj,λb k=>(Cj b k).elim,λb b' x x' k hx Af=>?_,h.wr.lid,λ_=>rfl,λe=>by grind⟩,h.hnd,h.gl,h.dis⟩;obtain⟨rfl,k⟩:=k;rw[hx]at Af;cases Af;by_cases e:D=b
 .grind[World.putObj_heap_same]
 .rw[World.putObj_heap_other (Ne.symm e)]at hx;exact h.wr.obj b b x x ⟨rfl,k⟩ hx hx
end
end Go.Sim
end
