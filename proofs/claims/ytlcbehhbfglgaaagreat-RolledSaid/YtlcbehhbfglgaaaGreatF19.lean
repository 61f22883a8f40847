/- PROVED HERE: laws. Conditions: none. -/
import Derived.Test.YtlcbehhbfglgaaaGreatF05
import Derived.Test.YtlcbehhbfglgaaaGreatF18
set_option linter.all false
set_option maxHeartbeats 2000000
set_option maxRecDepth 100000
namespace Go.Sim
open Go Go.Conc
structure BOk (C:Cx) (S:Kn) (W E:Nat->Prop) (w:World):Prop where
 wr:WR C (okP C S) (idE E) w w
 hnd:E C.P.globals.size
 gl:∀ g,S.gs.contains g=true->E g
 dis:∀ b,W b->¬ E b
section
variable {C:Cx} {S:Kn} {W E:Nat->Prop} {w:World}
theorem BOk.lt (h:BOk C S W E w) {b:Nat} (hb:E b):b<w.heap.size:=(h.wr.dom b b ⟨rfl,hb⟩).1
theorem WR.atR {ok:FuncId->Code->Prop} {E:J5} {w w':World} (h:WR C ok E w w') (d:Nat):WR C ok E w (w'.at d):=
 ⟨h.os,h.dom,h.fn,h.inj,h.old,h.obj,h.lid,h.lsz,h.J5i⟩
theorem WR.atL {ok:FuncId->Code->Prop} {E:J5} {w w':World} (h:WR C ok E w w') (d:Nat):WR C ok E (w.at d) w':=
 ⟨h.os,h.dom,h.fn,h.inj,h.old,h.obj,h.lid,h.lsz,h.J5i⟩
theorem BOk.at (h:BOk C S W E w) (d:Nat):BOk C S W E (w.at d):=⟨(h.wr.atR d).atL d,h.hnd,h.gl,h.dis⟩
theorem BOk.link (h:BOk C S W E w):Link C S (idE E) E E w w:=
 ⟨h.wr,⟨rfl,h.hnd⟩,fun g hg=>⟨rfl,h.gl g hg⟩,fun b b' ⟨e,hb⟩=>by subst e;exact ⟨hb,fun _=>hb⟩⟩
theorem TmR.eq_of {fn:FuncId} {E1:J5} (hE:∀ b b',E1 b b'->b=b') {t t' t0:Array Value} (h:TmR C S fn E1 t t') (hh:∀ i,(C.hl fn).contains i=true->t'[i]?=t0[i]?) (hl:∀ i,(C.hl fn).contains i=true->t[i]?=t0[i]?):t'=t:=by
 apply Jd6;intro i;by_cases hi:(C.hl fn).contains i=true
 ·rw [hh i hi,hl i hi]
 ·by_cases hlt:i<t.size
  ·have h1:t[i]?=some t[i]:=Ja4 hlt;have h2:t'[i]?=some (t'[i]'(h.size▸hlt)):=Ja4 _;rw [h1,h2,(h.at_ i _ _ (by simpa using hi) h1 h2).eq hE]
  ·rw [Jb0 (by have:=h.size;omega),Jb0 (by omega)]
theorem Reach.piece (A:J1d C S) (hst:C.st=false) {Post:(Nat->Prop)->Goroutine->World->Prop} {b:Frame} {c:Code} {t:Array Value} {ds:List Deferred} {k:List Item} {cs:List Frame} {Q:Exit->Array Value->World->Prop}
  (hc:Jj C S b.fn c=true) (hb:J0k C b.fn) (hdf:S.df.contains b.fn=false) (hl:C.hl b.fn≠[]) (hk:b.kind≠.early)
  (hB:BOk C S W E w) (ht:TmR C S b.fn (idE E) t t)
  (K:∀ τ,c.wp C.P (fun e a w1=>(e=.normal\/e=.ret)/\(∀ i,(C.hl b.fn).contains i=true->a.tmps[i]?=t[i]?)/\Q e a.tmps w1) ⟨t,[Jp]⟩ (w.tp τ 0))
  (kn:∀ (E':Nat->Prop) (t':Array Value) (w1 w':World),(∀ b,E b->E' b)->BOk C S W E' w'->WR C (okP C S) (idE E') w1 w'->TmR C S b.fn (idE E') t' t'->Q .normal t' w1->Reach C.P Post W (G (b.at ⟨t',ds⟩ k) cs) w')
  (kr:∀ (E':Nat->Prop) (t':Array Value) (w1 w':World) (todo:List Item),(∀ b,E b->E' b)->BOk C S W E' w'->WR C (okP C S) (idE E') w1 w'->TmR C S b.fn (idE E') t' t'->Q .ret t' w1->Reach C.P Post W (G { b.at ⟨t',ds⟩ todo with mode:=.returning } cs) w') :
  Reach C.P Post W (G (b.at ⟨t,ds⟩ (.code c::k)) cs) w:=by
 have hsh:∀ b,¬ C.Sh b:=C.lax hst;have hR:=J8w A (main:=true) (b:=b) (c:=c) (ds:=ds) (k:=k) (cs:=cs) (Q:=fun e a w1=>(e=.normal\/e=.ret)/\(∀ i,(C.hl b.fn).contains i=true->a.tmps[i]?=t[i]?)/\Q e a.tmps w1) hc hb hdf hl hk hB.link ht K (fun e a w h=>h.1);rw [hst] at hR;refine Reach.J4u hR rfl hB.dis hB.dis (fun b hb=>hB.lt hb) ?_;rintro ⟨own,X,g,wy⟩ ⟨E1,a,w1,t',hs,hL,htm,hho,hq⟩ hd hX;simp only at hL hd hX hq
 let E':Nat->Prop:=fun b=>E1 b b
 have e1:∀ b b',E1 b b'->b=b':=hL.wr.lid hst;have s1:Sub E1 (idE E'):=fun b b' h=>by obtain rfl:=e1 b b' h;exact ⟨rfl,h⟩
 have hE:∀ b,E b->E' b:=fun b hb=>hs b b ⟨rfl,hb⟩;have s2:rng E1=E':=by funext b;simp only [rng,E',eq_iff_iff];exact ⟨fun ⟨a,h⟩=>by obtain rfl:=e1 a b h;exact h,fun h=>⟨b,h⟩⟩
 have s3:E1=idE E':=by funext b b';simp only [idE,E',eq_iff_iff];exact ⟨fun h=>by obtain rfl:=e1 b b' h;exact ⟨rfl,h⟩,fun ⟨h,h'⟩=>by subst h;exact h'⟩
 have hwr:WR C (okP C S) (idE E') wy wy:=by
  have:=hL.wr.right (J4n.refl C) (ok':=okP C S) hsh hst (fun _=>⟨rfl,rfl⟩)
  rwa [s2] at this
 have hB':BOk C S W E' wy:=⟨hwr,hE _ hB.hnd,fun g hg=>hE _ (hB.gl g hg),fun b hb he=>hd b hb (hL.rng b b he).1⟩;have hw1:WR C (okP C S) (idE E') w1 wy:=by rw [<- s3];exact hL.wr
 have key:(∀ i,(C.hl b.fn).contains i=true->a.tmps[i]?=t[i]?)->t'=a.tmps/\TmR C S b.fn (idE E') a.tmps a.tmps:=by intro hh;have:=htm.eq_of e1 hho hh;subst this;refine ⟨rfl,?_⟩;rw [<- s3];exact htm
 rcases hq with ⟨⟨_,hh,hq⟩,rfl⟩|⟨⟨_,hh,hq⟩,todo,rfl⟩
 ·obtain ⟨rfl,htt⟩:=key hh;exact kn E' _ w1 wy hE hB' hw1 htt hq
 ·obtain ⟨rfl,htt⟩:=key hh;exact kr E' _ w1 wy todo hE hB' hw1 htt hq
end
end Go.Sim
namespace Go.Sim.Z
open Go Go.Proofs Go.RowKit
open Classical
noncomputable def mv (E:J5) (x:Nat):Nat:=if h:∃ y,E x y then Classical.choose h else 0
theorem J7a {E:J5} (hfn:∀ b c c',E b c->E b c'->c=c') {x y:Nat} (h:E x y):mv E x=y:=by have hx:∃ y,E x y:=⟨y,h⟩;unfold mv;rw [dif_pos hx];exact hfn _ _ _ (Classical.choose_spec hx) h
def Jcg (C:Cx) (fr:Bool):Prop:=C.st=true\/fr=false
section
variable {C:Cx} {ok:FuncId->Code->Prop} {E:J5} {w w':World} {fr:Bool} {x y:Nat} {arr:Array Value} {t:TypeId} {k:IntKind} {xs:List Int} {cap:Nat}
theorem _root_.Go.Sim.AR.two {a b:Value} {arr:Array Value} (h:AR C E #[a,b] arr):∃ a' b',arr=#[a',b']/\VR C E a a'/\VR C E b b':=by
 have hs:arr.size=2:=h.size.symm;obtain ⟨a',h1,r1⟩:=h.J04 (i:=0) rfl;obtain ⟨b',h2,r2⟩:=h.J04 (i:=1) rfl;refine ⟨a',b',?_,r1,r2⟩;apply Jd6;intro i
 match i with
 | 0=>exact h1
 | 1=>exact h2
 | i+2=>rw [Jb0 (by omega),Jb0 (by simp)]
theorem _root_.Go.Sim.AR.four {a b c d:Value} {arr:Array Value} (h:AR C E #[a,b,c,d] arr):∃ a' b' c' d',arr=#[a',b',c',d']/\VR C E a a'/\VR C E b b'/\VR C E c c'/\VR C E d d':=by
 have hs:arr.size=4:=h.size.symm;obtain ⟨a',h1,r1⟩:=h.J04 (i:=0) rfl;obtain ⟨b',h2,r2⟩:=h.J04 (i:=1) rfl;obtain ⟨c',h3,r3⟩:=h.J04 (i:=2) rfl;obtain ⟨d',h4,r4⟩:=h.J04 (i:=3) rfl;refine ⟨a',b',c',d',?_,r1,r2,r3,r4⟩;apply Jd6;intro i
 match i with
 | 0=>exact h1
 | 1=>exact h2
 | 2=>exact h3
 | 3=>exact h4
 | i+4=>rw [Jb0 (by omega),Jb0 (by simp)]
theorem _root_.Go.Sim.AR.plain {arr arr':Array Value} (h:AR C E arr arr') (hp:Plain arr):arr'=arr:=by
 apply Jd6;intro i;cases hx:arr[i]? with
 | none=>exact h.J6m hx
 | some v=>
  obtain ⟨v',h1,r⟩:=h.J04 hx;obtain ⟨k,n,rfl⟩:=hp.at hx;cases r;exact h1
theorem Blk.ren (hW:WR C ok E w w') (hf:Jcg C fr) (h:Blk fr w x arr t) (he:E x y):∃ arr',AR C E arr arr'/\Blk false w' y arr' t:=by
 obtain ⟨z,h1,h2⟩:=h;have hy:=(hW.dom x y he).2;obtain ⟨c',fz',e,ha,hs,hn⟩:=hW.obj x y _ _ he h1 (Ja4 hy);refine ⟨c',ha,fz',by rw [Ja4 hy,e],fun _=>?_⟩;by_cases hx:C.Sh x
 ·exact (hs hx).2
 ·obtain ⟨h3,h4⟩:=hn hx;rcases hf with hf|hf
  ·rw [h3,h4 hf]
  ·rw [h3,h2 hf]
theorem Row.ren (hW:WR C ok E w w') (hf:Jcg C fr) (h:Row fr w x t k xs cap) (he:E x y):Row false w' y t k xs cap:=by obtain ⟨cur,h1,h2,h3,h4,h5⟩:=h;obtain ⟨cur',ha,hb⟩:=h1.ren hW hf he;obtain rfl:=ha.plain h5;exact ⟨_,hb,h2,h3,h4,h5⟩
theorem J0i.ren {r c:Nat} {bits:Int} {rs:List Int} (hW:WR C ok E w w') (hf:Jcg C fr) (h:J0i fr w x r c bits rs) (he:E x y):E r (mv E r)/\J0i false w' y (mv E r) c bits rs:=by
 obtain ⟨arr,ha,hb⟩:=h.hd.ren hW hf he;obtain ⟨a,b,rfl,r1,r2⟩:=ha.two;cases r1;cases r2 with
 | slice o s l c hr=>
  have e:=J7a hW.fn hr;rw [e];exact ⟨hr,hb,h.row.ren hW hf hr⟩
def Jrw (E:J5) (ba:Option Addr):Prop:=∀ a,ba=some a->E a.block a.block
theorem J0f.ren {r c nb cb:Nat} {ba:Option Addr} {rs:List Int} (hW:WR C ok E w w') (hf:Jcg C fr) (hba:Jrw E ba) (h:J0f fr w x r c ba nb cb rs) (he:E x y):E r (mv E r)/\J0f false w' y (mv E r) c ba nb cb rs:=by
 obtain ⟨arr,ha,hb⟩:=h.hd.ren hW hf he;obtain ⟨a,b,rfl,r1,r2⟩:=ha.two;have e1:a=.slice ba nb cb:=by
  cases r1 with
  | Jo=>rfl
  | slice o s l c hr=>rw [hW.fn _ _ _ hr (hba _ rfl)]
 subst e1;cases r2 with
 | slice o s l c hr=>
  have e:=J7a hW.fn hr;rw [e];exact ⟨hr,hb,h.row.ren hW hf hr⟩
noncomputable def mvL (E:J5):Option (Nat × Nat)->Option (Nat × Nat):=Option.map fun p=>(mv E p.1,p.2)
theorem J0b.ren {pr:Option (Nat × Nat)} {K:Int} {ls:List Int} (hW:WR C ok E w w') (hf:Jcg C fr) (h:J0b fr w x pr K ls) (he:E x y):(∀ r,lpl pr r->E r (mv E r))/\J0b false w' y (mvL E pr) K ls:=by
 obtain ⟨arr,ha,hb⟩:=h.hd.ren hW hf he;obtain ⟨a,b,rfl,r1,r2⟩:=ha.two;cases r1;cases pr with
 | none=>
  cases r2;exact ⟨fun r ⟨c,hr⟩=>(by cases hr),hb,h.row⟩
 | some p=>
  obtain ⟨r,c⟩:=p;cases r2 with
  | slice o s l c hr=>
   have e:=J7a hW.fn hr;refine ⟨fun r' ⟨c',hr'⟩=>?_,?_,?_⟩
   ·cases hr';rw [e];exact hr
   ·show Blk false w' y #[_,.slice (some ⟨mv E r,0,none⟩) _ _] 128;rw [e];exact hb
   ·show Row false w' (mv E r) 45 .u64 ls c/\c<=maxLen;rw [e];exact ⟨h.row.1.ren hW hf hr,h.row.2⟩
noncomputable def BP.mv (E:J5) (p:BP):BP:=⟨Z.mv E p.b,Z.mv E p.rb,Z.mv E p.rr,p.rc,Z.mv E p.hb,Z.mv E p.hr,p.hc,Z.mv E p.lb,mvL E p.lr⟩
theorem Jfg {pr:Option (Nat × Nat)} {z:Nat}:lpl (mvL E pr) z↔∃ r,lpl pr r/\z=mv E r:=by
 cases pr with
 | none=>simp [lpl,mvL]
 | some p=>obtain ⟨r,c⟩:=p;simp [lpl,mvL,eq_comm]
theorem BP.Jac {p:BP} {z:Nat}:z∈(p.mv E).pl↔∃ x∈p.pl,z=Z.mv E x:=by
 rw [BP.mem];constructor
 ·rintro (h|h|h|h|h|h|h)
  ·exact ⟨_,BP.mem.2 (.inl rfl),h⟩
  ·exact ⟨_,BP.mem.2 (.inr (.inl rfl)),h⟩
  ·exact ⟨_,BP.mem.2 (.inr (.inr (.inl rfl))),h⟩
  ·exact ⟨_,BP.mem.2 (.inr (.inr (.inr (.inl rfl)))),h⟩
  ·exact ⟨_,BP.mem.2 (.inr (.inr (.inr (.inr (.inl rfl))))),h⟩
  ·exact ⟨_,BP.mem.2 (.inr (.inr (.inr (.inr (.inr (.inl rfl)))))),h⟩
  ·obtain ⟨r,h1,h2⟩:=Jfg.1 h;exact ⟨r,BP.mem.2 (.inr (.inr (.inr (.inr (.inr (.inr h1)))))),h2⟩
 ·rintro ⟨x,hx,rfl⟩;rcases BP.mem.1 hx with rfl|rfl|rfl|rfl|rfl|rfl|h
  ·exact .inl rfl
  ·exact .inr (.inl rfl)
  ·exact .inr (.inr (.inl rfl))
  ·exact .inr (.inr (.inr (.inl rfl)))
  ·exact .inr (.inr (.inr (.inr (.inl rfl))))
  ·exact .inr (.inr (.inr (.inr (.inr (.inl rfl)))))
  ·exact .inr (.inr (.inr (.inr (.inr (.inr (Jfg.2 ⟨x,h,rfl⟩))))))
theorem Jz.ren {c:J8} {p:BP} {B:Bun} (hW:WR C ok E w w') (hf:Jcg C fr) (hba:Jrw E c.ba) (h:Jz fr w c p B) (he:E p.b y):(∀ x∈p.pl,E x (mv E x))/\Jz false w' c (p.mv E) B:=by
 obtain ⟨arr,ha,hb⟩:=h.hd.ren hW hf he;obtain ⟨a1,a2,a3,a4,rfl,r1,r2,r3,r4⟩:=ha.four;cases r1;cases r2 with|iface _ _ r2=>
 cases r3 with|iface _ _ r3=>
 cases r4 with|iface _ _ r4=>
 cases r2 with|ptr _ _ r2=>
 cases r3 with|ptr _ _ r3=>
 cases r4 with|ptr _ _ r4=>
 obtain ⟨e2,k2⟩:=h.reg.ren hW hf r2;obtain ⟨e3,k3⟩:=h.hist.ren hW hf hba r3;obtain ⟨e4,k4⟩:=h.least.ren hW hf r4;have m0:=J7a hW.fn he;have m2:=J7a hW.fn r2;have m3:=J7a hW.fn r3;have m4:=J7a hW.fn r4;rw [<- m2] at k2 hb;rw [<- m3] at k3 hb;rw [<- m4] at k4 hb;rw [<- m0] at hb;have hall:∀ x∈p.pl,E x (mv E x):=fun x hx=>by
  rcases BP.mem.1 hx with rfl|rfl|rfl|rfl|rfl|rfl|h
  ·rw [m0];exact he
  ·rw [m2];exact r2
  ·exact e2
  ·rw [m3];exact r3
  ·exact e3
  ·rw [m4];exact r4
  ·exact e4 x h
 have inj:∀ {x z:Nat},x∈p.pl->z∈p.pl->mv E x=mv E z->x=z:=fun hx hz e=>hW.inj _ _ _ (hall _ hx) (e▸hall _ hz);have q1:p.b∈p.pl:=BP.mem.2 (.inl rfl);have q2:p.rb∈p.pl:=BP.mem.2 (.inr (.inl rfl));have q3:p.rr∈p.pl:=BP.mem.2 (.inr (.inr (.inl rfl)));have q4:p.hb∈p.pl:=BP.mem.2 (.inr (.inr (.inr (.inl rfl))));have q5:p.hr∈p.pl:=BP.mem.2 (.inr (.inr (.inr (.inr (.inl rfl)))));have q6:p.lb∈p.pl:=BP.mem.2 (.inr (.inr (.inr (.inr (.inr (.inl rfl))))));have nl:∀ {x:Nat},x∈p.pl->¬ lpl p.lr x->¬ lpl (mvL E p.lr) (mv E x):=fun hx hn hl=>by obtain ⟨r,h1,h2⟩:=Jfg.1 hl;exact hn ((inj hx (BP.mem.2 (.inr (.inr (.inr (.inr (.inr (.inr h1))))))) h2)▸h1)
 obtain ⟨n1,n2,n3,n4,n5,n6⟩:=h.nd;exact ⟨hall,hb,k2,k3,k4,
  ⟨fun e=>n1.1 (inj q1 q2 e),fun e=>n1.2.1 (inj q1 q3 e),fun e=>n1.2.2.1 (inj q1 q4 e),fun e=>n1.2.2.2.1 (inj q1 q5 e),fun e=>n1.2.2.2.2.1 (inj q1 q6 e),nl q1 n1.2.2.2.2.2⟩,
  ⟨fun e=>n2.1 (inj q2 q3 e),fun e=>n2.2.1 (inj q2 q4 e),fun e=>n2.2.2.1 (inj q2 q5 e),fun e=>n2.2.2.2.1 (inj q2 q6 e),nl q2 n2.2.2.2.2⟩,
  ⟨fun e=>n3.1 (inj q3 q4 e),fun e=>n3.2.1 (inj q3 q5 e),fun e=>n3.2.2.1 (inj q3 q6 e),nl q3 n3.2.2.2⟩,
  ⟨fun e=>n4.1 (inj q4 q5 e),fun e=>n4.2.1 (inj q4 q6 e),nl q4 n4.2.2⟩,
  ⟨fun e=>n5.1 (inj q5 q6 e),nl q5 n5.2⟩,
  nl q6 n6⟩
end
end Go.Sim.Z
namespace Go.Sim.Z
open Go Go.Proofs Go.RowKit
open Go.WideElems (Fit rd rg)
noncomputable def mvV (E:J5):Value->Value
 | .pointer (some a)=>.pointer (some ⟨mv E a.block,a.off,a.spot⟩)
 | v=>v
noncomputable def Jrx (E:J5) (p:List Int × Value):List Int × Value:=(p.1,mvV E p.2)
noncomputable def TR.mv (E:J5) (t:TR):TR:=⟨t.k,t.p.mv E,t.B⟩
theorem J03j {E:J5} {T:List TR}:tm (T.map (TR.mv E))=tm T:=by funext k;unfold tm;rw [List.find?_map,Option.map_map];rfl
def gD (f:Value->Value):Lit × DataW Value->Lit × DataW Value
 | (l,.held v)=>(l,.held (f v))
 | p=>p
theorem Jxc (f:Value->Value) (p:Lit × DataW Value):(gD f p).1=p.1:=by obtain ⟨l,d⟩:=p;cases d<;>rfl
theorem Jgd (f:Value->Value) (x:Lit × DataW Value):∀ l:List (Lit × DataW Value),DataW.insert (gD f x) (l.map (gD f))=(DataW.insert x l).map (gD f)
 | []=>rfl
 | y::l=>by
  simp only [Jc4,DataW.insert,Jxc];split
  ·rfl
  ·rw [Jgd f x l];rfl
theorem Jiz (f:Value->Value):∀ l:List (Lit × DataW Value),(l.map (gD f)).foldr DataW.insert []=(l.foldr DataW.insert []).map (gD f)
 | []=>rfl
 | x::l=>by simp only [Jc4,List.foldr_cons,Jiz f l,Jgd]
def mE (f:Value->Value) (x:MapEntry):MapEntry:=⟨x.key,f x.val,x.born⟩
theorem Jud {P:Program} {k:TypeId} (f:Value->Value) (x:MapEntry):rd P k Rv (mE f x)=(rd P k Rv x).map (gD f):=by unfold rd mE;cases keyOf P k x.key<;>rfl
theorem Jvv {P:Program} {k:TypeId} {es:Array MapEntry} {clock:Nat} (f:Value->Value) (hF:Fit P k Rv es clock) :
  Fit P k Rv (es.map (mE f)) clock/\((es.map (mE f)).toList.map (rg P k Rv)).foldr DataW.insert []=((es.toList.map (rg P k Rv)).foldr DataW.insert []).map (gD f):=by
 refine ⟨⟨by simpa using hF.size,?_,fun x hx=>?_⟩,?_⟩
 ·obtain ⟨h1,h2,h3⟩:=hF.stamped;unfold MapKept.Stamped;rw [Array.toList_map];refine ⟨fun x hx=>?_,?_,?_⟩
  ·obtain ⟨z,hz,rfl⟩:=Jb3.1 hx;exact h1 z hz
  ·rw [List.map_map];exact h2
  ·rw [List.map_map];exact h3
 ·rw [Array.toList_map] at hx;obtain ⟨z,hz,rfl⟩:=Jb3.1 hx;obtain ⟨y,hy⟩:=hF.reads z hz;exact ⟨_,by rw [Jud,hy];rfl⟩
 ·rw [<- Jiz,Array.toList_map,List.map_map,List.map_map];congr 1;refine List.map_congr_left fun x hx=>?_;obtain ⟨y,hy⟩:=hF.reads x hx;simp only [Function.comp,rg,Jud,hy];rfl
theorem J1v:∀ l:List (Lit × DataW Value),(l.foldr DataW.insert []).Perm l
 | []=>.refl _
 | x::l=>(insert_perm x _).trans ((J1v l).cons x)
section
variable {C:Cx} {ok:FuncId->Code->Prop} {E:J5} {w w':World} {fr:Bool} {x y:Nat}
theorem VR.mvV {a:Addr} {v:Value} (hW:WR C ok E w w') (h:VR C E (.pointer (some a)) v):v=Z.mvV E (.pointer (some a))/\E a.block (mv E a.block):=by
 cases h with
 | ptr o s h=>simp [Z.mvV,J7a hW.fn h,h]
theorem J09.ren {L:List (List Int × Value)} (hW:WR C ok E w w') (h:J09 w x L) (hp:∀ p∈L,∃ a,p.2=.pointer (some a)) (he:E x y):J09 w' y (L.map (Jrx E))/\∀ p∈L,∀ a,p.2=.pointer (some a)->E a.block (mv E a.block):=by
 obtain ⟨L',h1,n,es,clock,h2,h3,h4,h5⟩:=h.own;have hy:=(hW.dom x y he).2;obtain ⟨es',e1,hr⟩:=hW.obj x y _ _ he h2 (Ja4 hy);have key:∀ (i:Nat) z,es[i]?=some z->∃ k v,(k,v)∈L/\z.key=.agg (ai .i64 k)/\z.val=v:=fun i z hz=>by
  have hm:z∈es.toList:=Array.mem_toList_iff.2 (Jc5 hz);obtain ⟨q,hq⟩:=h3.reads z hm;have hmem:q∈(es.toList.map (rg Tryz.prog 76 Rv)).foldr DataW.insert []:=(J1v _).mem_iff.2 (Jb3.2 ⟨z,hm,by simp [rg,hq]⟩);have h5':=DataW.map.inj h5;rw [<- h5'] at hmem;obtain ⟨p,hp',rfl⟩:=Jb3.1 hmem;have hpL:=h1.mem_iff.1 hp';unfold rd at hq;simp only [Jc6,Jc0] at hq;obtain ⟨l,hl,d,hd,e⟩:=hq;have e1:l=klit p.1:=congrArg Prod.fst e;have e2:d.1=.held p.2:=congrArg Prod.snd e;refine ⟨p.1,p.2,hpL,?_,?_⟩
  ·rw [e1] at hl;exact Jgv.inj hl (J4q (h.keys p hpL))
  ·simp only [Rv,Jb2] at hd;rw [<- hd] at e2;exact DataW.held.inj e2
 have hes:es'=es.map (mE (mvV E)):=by
  apply Jd6;intro i;rw [Array.getElem?_map];cases hz:es[i]? with
  | none=>rw [Jd7] at hz;rw [Jb0 (by rw [<- hr.size];exact hz)];rfl
  | some z=>
   have hlt:i<es'.size:=by rw [<- hr.size];exact (Ja3.1 hz).1
   have hz':es'[i]?=some es'[i]:=Ja4 hlt;have hq:=hr.at_ i z _ hz hz';rw [hz'];obtain ⟨k,v,hkv,ek,ev⟩:=key i z hz;obtain ⟨a,ea⟩:=hp _ hkv;have hv:=hq.val;rw [ev,show v=.pointer (some a) from ea] at hv;have hk:=hq.key;rw [ek] at hk;have ek':es'[i].key=.agg (ai .i64 k):=by
    generalize es'[i].key=kk at hk;cases hk with
    | agg ha hx=>rw [AR.plain (C:=C) (E:=E) ⟨ha,hx⟩ Plain.ai]
   have ev':=(VR.mvV hW hv).1;have eb:=hq.born;generalize es'[i]=z' at ek' ev' eb;obtain ⟨zk,zv,zb⟩:=z;obtain ⟨zk',zv',zb'⟩:=z';simp only at ek ev ek' ev' eb;show some _=some (MapEntry.mk zk (mvV E zv) zb);rw [ek',ev',<- eb,ek,ev,show v=.pointer (some a) from ea]
 subst hes;obtain ⟨q1,q2⟩:=Jvv (mvV E) h3;have h5':=DataW.map.inj h5;refine ⟨⟨fun p hp=>?_,?_,L'.map (Jrx E),h1.map _,n,_,clock,by rw [Ja4 hy,e1],q1,by simpa using h4,?_⟩,fun p hp' a ea=>?_⟩
 ·obtain ⟨p0,hp0,rfl⟩:=Jb3.1 hp;exact h.keys p0 hp0
 ·rw [List.map_map];exact h.nodup
 ·rw [q2,<- h5',List.map_map,List.map_map];rfl
 ·have hq:J0r p∈(es.toList.map (rg Tryz.prog 76 Rv)).foldr DataW.insert []:=by rw [<- h5'];exact Jb3.2 ⟨p,h1.mem_iff.2 hp',rfl⟩
  obtain ⟨z,hz,ez⟩:=Jb3.1 ((J1v _).mem_iff.1 hq);obtain ⟨i,hi,rfl⟩:=List.getElem_of_mem hz;simp only [Array.length_toList,Array.getElem_toList] at hi ez;have hz1:es[i]?=some es[i]:=Ja4 hi;have hz2:=hr.at_ i _ _ hz1 (by rw [Array.getElem?_map,hz1];rfl);obtain ⟨q,hq2⟩:=h3.reads _ (Array.getElem_mem_toList hi);have ez':q=J0r p:=by simpa [rg,hq2] using ez
  have hv:es[i].val=p.2:=by unfold rd at hq2;simp only [Jc6,Jc0] at hq2;obtain ⟨l,hl,d,hd,e⟩:=hq2;simp only [Rv,Jb2] at hd;rw [ez',<- hd] at e;exact DataW.held.inj (congrArg Prod.snd e)
  have hv2:=hz2.val;rw [hv,ea] at hv2;exact (VR.mvV hW hv2).2
theorem TabAt.ren {c:J8} {T:List TR} (hW:WR C ok E w w') (hf:Jcg C fr) (hba:Jrw E c.ba) (h:TabAt fr w c x T) (he:E x y):(∀ z∈tpl T,E z (mv E z))/\TabAt false w' c y (T.map (TR.mv E)):=by
 obtain ⟨k1,k2⟩:=h.map.ren hW (fun p hp=>by obtain ⟨t,_,rfl⟩:=Jb3.1 hp;exact ⟨_,rfl⟩) he;have hb:∀ t∈T,(∀ z∈t.p.pl,E z (mv E z))/\Jz false w' c (t.p.mv E) t.B:=fun t ht=>by have hE:=k2 t.kv (List.mem_map_of_mem ht) _ rfl;exact (h.bun t ht).ren hW hf hba hE
 have hall:∀ z∈tpl T,E z (mv E z):=fun z hz=>by obtain ⟨t,ht,hz⟩:=Jm.1 hz;exact (hb t ht).1 z hz
 refine ⟨hall,?_,fun t ht=>?_,fun t ht=>?_,fun hm=>?_,?_⟩
 ·rw [List.map_map,show TR.kv ∘ TR.mv E=Jrx E ∘ TR.kv from rfl,<- List.map_map];exact k1
 ·obtain ⟨t0,ht0,rfl⟩:=Jb3.1 ht;exact (hb t0 ht0).2
 ·obtain ⟨t0,ht0,rfl⟩:=Jb3.1 ht;exact h.ok t0 ht0
 ·obtain ⟨t,ht,hz⟩:=Jm.1 hm;obtain ⟨t0,ht0,rfl⟩:=Jb3.1 ht;obtain ⟨z,hz0,e⟩:=BP.Jac.1 hz;have:=hW.inj _ _ _ he (e▸(hb t0 ht0).1 z hz0);exact h.out (this▸Jm.2 ⟨t0,ht0,hz0⟩)
 ·rw [List.pairwise_map];refine h.dis.imp_of_mem fun {s t} hs ht hd z hz hz'=>?_;obtain ⟨z1,hz1,rfl⟩:=BP.Jac.1 hz;obtain ⟨z2,hz2,e⟩:=BP.Jac.1 hz';have:=hW.inj _ _ _ ((hb s hs).1 z1 hz1) (e▸(hb t ht).1 z2 hz2);exact hd z1 hz1 (this▸hz2)
theorem Jxd {T:List TR} {z:Nat}:z∈tpl (T.map (TR.mv E))↔∃ x∈tpl T,z=mv E x:=by
 rw [Jm];constructor
 ·rintro ⟨t,ht,hz⟩;obtain ⟨t0,ht0,rfl⟩:=Jb3.1 ht;obtain ⟨x,hx,rfl⟩:=BP.Jac.1 hz;exact ⟨x,Jm.2 ⟨t0,ht0,hx⟩,rfl⟩
 ·rintro ⟨x,hx,rfl⟩;obtain ⟨t0,ht0,hx⟩:=Jm.1 hx;exact ⟨_,List.mem_map_of_mem ht0,BP.Jac.2 ⟨x,hx,rfl⟩⟩
end
end Go.Sim.Z
namespace Go.Sim.Z
open Go Go.Proofs Go.Conc Go.ConcN Go.RowKit Go.Conc.Lib Go.ConcR.Gen Go.ConcN.Gen
open Go.ConcR (KK wgBlock WgAt stA smA rd wr mk Payload DC0)
def q3:Array Oper:=#[{ dst:=some 9,op:=Op.alloc 146,type:=0,pos:= "table.go:72",after:=#[],guard:=none }]
def q4:Array Oper:=#[{ dst:=some 18,op:=Op.move (Operand.const (Value.int IntKind.i64 0)),type:=3,pos:= "table.go:73",after:=#[],guard:=none }]
def q5:Array Oper:=#[{ dst:=some 19,op:=Op.binOp BinOp.lss 3 (Operand.tmp 18) (Operand.const (Value.int IntKind.i64 4)) 3,type:=4,pos:= "table.go:73",after:=#[],guard:=none }]
def q6:Array Oper:=#[{ dst:=some 20,op:=Op.move (Operand.tmp 18),type:=3,pos:= "table.go:73",after:=#[],guard:=none },
 { dst:=some 10,op:=Op.alloc 3,type:=0,pos:= "table.go:73",after:=#[],guard:=none },
 { dst:=none,op:=Op.store 3 (Operand.tmp 10) (Operand.tmp 20),type:=0,pos:= "table.go:73",after:=#[{ on:=1,ground:=Ground.data },
 { on:=0,ground:=Ground.data },
 { on:=0,ground:=Ground.phase },
 { on:=1,ground:=Ground.phase }],guard:=none }]
def q7:Array Oper:=#[{ dst:=some 21,op:=Op.call { callee:=Callee.value (Operand.func 62),args:=#[Operand.tmp 9,Operand.const (Value.int IntKind.i64 1)],argTypes:=#[146,3] },type:=0,pos:= "table.go:74",after:=#[],guard:=none }]
def q8:Array Oper:=#[{ dst:=some 22,op:=Op.makeFunc (Fn.func 63) #[] #[Operand.tmp 9,Operand.tmp 10,Operand.tmp 7,Operand.tmp 5,Operand.tmp 4,Operand.tmp 3,Operand.tmp 8],type:=1,pos:= "table.go:75",after:=#[],guard:=none },
 { dst:=none,op:=Op.go { callee:=Callee.value (Operand.tmp 22),args:=#[],argTypes:=#[] },type:=0,pos:= "table.go:75",after:=#[{ on:=0,ground:=Ground.data }],guard:=none }]
def q9:Array Oper:=#[{ dst:=some 23,op:=Op.binOp BinOp.add 3 (Operand.tmp 18) (Operand.const (Value.int IntKind.i64 1)) 3,type:=3,pos:= "table.go:73",after:=#[],guard:=none },
 { dst:=some 18,op:=Op.move (Operand.tmp 23),type:=3,pos:= "table.go:73",after:=#[{ on:=0,ground:=Ground.data }],guard:=none }]
def q10:Array Oper:=#[{ dst:=some 24,op:=Op.call { callee:=Callee.value (Operand.func 66),args:=#[Operand.tmp 9],argTypes:=#[146] },type:=0,pos:= "table.go:86",after:=#[],guard:=none }]
def LL:Code:=.seq (.region 5 q5 false) (.seq (.cond (.tmp 19) .skip (.exit 0)) (.seq (.block 1 (.seq (.region 6 q6 false) (.seq (.region 7 q7 false) (.region 8 q8 false)))) (.region 9 q9 false)))
noncomputable def b40:Code:=Tryz.f40.body.getD .skip
noncomputable def Jh4:Code:=J8x b40
noncomputable def Jh5:Code:=J8x (J3l b40)
noncomputable def Jh6:Code:=J8x (J3l (J3l b40))
noncomputable def J39:Code:=J3l (J3l (J3l (J3l (J3l (J3l b40)))))
theorem Jxe:b40=.seq Jh4 (.seq Jh5 (.seq Jh6 (.seq (.region 3 q3 false) (.seq (.seq (.region 4 q4 false) (.block 0 (.loop LL))) (.seq (.region 10 q10 false) J39))))):=by kernel_rfl
theorem Jxf:Tryz.f40.body=some b40:=by kernel_rfl
theorem Jh7:J0k C0 40:=⟨Tryz.f40,by kernel_rfl,by kernel_rfl,by kernel_rfl⟩
theorem Jxg:Jj C0 S0 40 Jh4=true:=by kernel_rfl
theorem Jxh:Jj C0 S0 40 Jh5=true:=by kernel_rfl
theorem Jxi:Jj C0 S0 40 Jh6=true:=by kernel_rfl
theorem Jxj:Jj C0 S0 40 J39=true:=by kernel_rfl
structure RT (Wg C k p m c:Nat) (T0 T:Array Value):Prop where
 size:T.size=49
 c3:T[3]?=some (ptr c)
 m4:T[4]?=some (ptr m)
 p5:T[5]?=some (ptr p)
 k7:T[7]?=some (ptr k)
 C8:T[8]?=some (ptr C)
 w9:T[9]?=some (ptr Wg)
 low:∀ i,i<18\/24<i->i≠9->i≠10->T[i]?=T0[i]?
section
variable {Wg C k p m c:Nat} {T0 T:Array Value}
theorem RT.set (h:RT Wg C k p m c T0 T) {j:Nat} (hj:j=10\/18<=j/\j<=24) (v:Value):RT Wg C k p m c T0 (T.setIfInBounds j v):=by have ne:∀ i,i<10->(T.setIfInBounds j v)[i]?=T[i]?:=fun i hi=>Ja1 (by omega);exact ⟨by simpa using h.size,(ne 3 (by omega)).trans h.c3,(ne 4 (by omega)).trans h.m4,(ne 5 (by omega)).trans h.p5,(ne 7 (by omega)).trans h.k7,(ne 8 (by omega)).trans h.C8,(ne 9 (by omega)).trans h.w9,fun i h1 h2 h3=>(Ja1 (by omega)).trans (h.low i h1 h2 h3)⟩
end
theorem J0d {P:Program} {main:Bool} {b:Frame} {a:Act} {kk:List Item} {cs:List Frame} {w:World} {ops:Array Oper} {i:Nat} {rest:List Nat} {o:Oper} {v:Value} (ho:ops[i]?=some o) (hw:Region.wanted o (yielded ops a.tmps)=true) (hk:b.kind≠.early)
  (hr:(execOp a.eval o).run P w=.ok (.value v) w) (he:(execOp a.eval o).events P w #[]=#[]) :
  stepG P main (G (b.at a (.inRegion ops (i::rest)::kk)) cs) w=.go (G (b.at (a.put o.dst v) (.inRegion ops rest::kk)) cs) w #[]:=by
 rw [stepG_value ho hw hk hr];unfold listed;rw [he,seen_none]
theorem J05 {P:Program} {R:World->World->Prop} {Stop:Goroutine->World->Prop} {n:Nat} {g g':Goroutine} {w:World} (hr:g.status=.running) (hs:∀ w1,stepG P true g w1=.go g' w1 #[])
  (hk:∀ w1,R w w1->Goes P true R DC0 Stop n g' w1):Goes P true R DC0 Stop (n+1) g w:=
 Goes.step hr fun w1 r1=>by rw [hs w1];exact ⟨⟨rfl,rfl⟩,hk w1 r1⟩
def QW (F:Nat->Prop) (R:Nat->(Nat->Prop)->Option Nat->World->Prop) (B:Nat) (i:Nat) (own X:Nat->Prop) (v:Value) (w:World):Prop:=
 ∃ (Sh:Nat->Prop) (E2:J5) (w2:World) (r r':Option Nat),v=.map r'/\(∀ b,F b->Sh b)/\(∀ b,Sh b->F b\/B<b)/\Sub (idE Sh) E2/\Link (C1 Sh) S1 E2 own X w2 w/\VR (C1 Sh) E2 (.map r) (.map r')/\R i Sh r w2
theorem QW.rely {F:Nat->Prop} {R:Nat->(Nat->Prop)->Option Nat->World->Prop} {B i:Nat} {own X:Nat->Prop} {v:Value} {w w':World} (h:QW F R B i own X v w) (r:J07 true X w w'):QW F R B i own X v w':=by obtain ⟨Sh,E2,w2,r1,r2,h1,h2,h2',h3,h4,h5,h6⟩:=h;exact ⟨Sh,E2,w2,r1,r2,h1,h2,h2',h3,h4.rely r,h5,h6⟩
def WaitAt (Wg C k p m c:Nat) (T0:Array Value) (kk:List Item) (T:Array Value) (f:Frame):Prop:=RT Wg C k p m c T0 T/\f=(base 40).at ⟨T,[]⟩ (.inRegion q10 [0]::.code J39::kk)
noncomputable def HR (AJ:Frame->Goroutine->World->Prop) (W E F:Nat->Prop) (R:Nat->(Nat->Prop)->Option Nat->World->Prop) (Wg C k p m c:Nat) (T0:Array Value) (mm:Nat) (w0:World) (t0:Trace) (q0:Nat->Nat) (kk:List Item) (cs:List Frame):Ph where
 P:=Tryz.prog
 ty:=146
 Wg:=Wg
 C:=C
 n:=4
 m:=mm
 W:=W
 Sh0:=fun b=>E b/\b≠C
 w0:=w0
 t0:=t0
 q0:=q0
 tI:=3
 Q:=QW F R Wg
 Fin:=fun g _=>∃ T,RT Wg C k p m c T0 T/\g=G ((base 40).at ⟨T,[]⟩ (.inRegion q10 []::.code J39::kk)) cs
 Anch:=fun g w=>∃ T f,WaitAt Wg C k p m c T0 kk T f/\AJ f g w
structure J7b (Wg:Nat) (cs:List Frame) (AJ:Frame->Goroutine->World->Prop):Prop where
 add:∀ (Next:Goroutine->World->Prop) (mT:Nat) (a₀:Act) (k₀:List Item) (w:World),WgLive 146 Wg w ->
  (∀ w,WgLive 146 Wg w->Goes Tryz.prog true (RM 146 Wg) DC0 Next mT (G ((base 40).at (a₀.put (some 21) (.tuple #[])) (.inRegion q7 []::k₀)) cs) w) ->
  Goes Tryz.prog true (RM 146 Wg) DC0 (Jis Tryz.prog 146 Wg Next) 12 (G ((base 62).at ⟨#[ptr Wg,.int .i64 1]++Array.replicate (Tryz.f62.ntmps-2) undef,[]⟩ [.code (body_add link)]) ((base 40).at a₀ (.inRegion q7 [0]::k₀)::cs)) w
 start:∀ (f:Frame) (w:World),WgLive 146 Wg w->(∃ a₀ k₀,f=(base 40).at a₀ (.inRegion q10 [0]::k₀)) ->
  Goes Tryz.prog true (RM 146 Wg) DC0 (JKd Tryz.prog 146 Wg (AJ f)) 3 (G ((base 66).at ⟨#[ptr Wg]++Array.replicate (Tryz.f66.ntmps-1) undef,[]⟩ [.code (body_wait link)]) (f::cs)) w
theorem J1l {P:Program} {main:Bool} {R:World->World->Prop} {D:World->World->Array Event->Prop} {Stop Stop':Goroutine->World->Prop} (h:∀ g w,Stop g w->Stop' g w) :
  ∀ {n:Nat} {g:Goroutine} {w:World},Goes P main R D Stop n g w->Goes P main R D Stop' n g w
 | 0,_,_,hg=>fun w1 r=>h _ _ (hg w1 r)
 | n+1,g,w,hg=>by
  rcases hg with hs|⟨hr,hs⟩
  ·exact .inl fun w1 r=>h _ _ (hs w1 r)
  refine .inr ⟨hr,fun w1 r=>?_⟩;have:=hs w1 r;generalize stepG P main g w1=s at this ⊢;cases s<;>first|exact ⟨this.1,J1l h this.2⟩|exact this.elim
theorem JKd.mono {P:Program} {ty:TypeId} {Wg:Nat} {A B:Goroutine->World->Prop} (h:∀ g w,A g w->B g w) {g:Goroutine} {w:World} (x:JKd P ty Wg A g w):JKd P ty Wg B g w:=by obtain ⟨h1,g',h2,n,h3⟩:=x;exact ⟨h1,g',h2,n,J1l h h3⟩
theorem Jxk:Tryz.f66.body=some (body_wait link):=by kernel_rfl
theorem nm66:(Tryz.f66.name == "runtime.NumGoroutine")=false:=by kernel_rfl
theorem nm62:(Tryz.f62.name == "runtime.NumGoroutine")=false:=by kernel_rfl
theorem Jxl:Tryz.f62.body=some (body_add link):=by kernel_rfl
section
variable {AJ:Frame->Goroutine->World->Prop} {W E F:Nat->Prop} {R:Nat->(Nat->Prop)->Option Nat->World->Prop} {Wg C k p m c mm:Nat} {T0:Array Value} {w0:World} {t0:Trace} {q0:Nat->Nat} {kk:List Item} {cs:List Frame}
theorem Jla {T:Array Value} {i:Nat} {v:Value} (h:T[i]?=some v):T.getD i undef=v:=by rw [Ja5,h];rfl
theorem J03k (S:J7b Wg cs AJ):∃ n,∀ T w,RT Wg C k p m c T0 T->T[18]?=some (.int .i64 4)->WgLive 146 Wg w ->
  Goes Tryz.prog true (RM 146 Wg) DC0 (JKd Tryz.prog 146 Wg (HR AJ W E F R Wg C k p m c T0 mm w0 t0 q0 kk cs).Anch) n
   (G ((base 40).at ⟨T,[]⟩ (.code LL::.inLoop LL::.inBlock 0::.code (.seq (.region 10 q10 false) J39)::kk)) cs) w:=by
 refine ⟨3+10,fun T w hT h18 hW=>?_⟩;refine J05 rfl (fun w1=>stepG_seq) fun w1 r1=>?_;replace hW:=r1 hW;refine J05 rfl (fun w1=>stepG_region) fun w1 r1=>?_;replace hW:=r1 hW;refine J05 (g':=G ((base 40).at ⟨T.setIfInBounds 19 (.bool false),[]⟩ (.inRegion q5 []::.code (.seq (.cond (.tmp 19) .skip (.exit 0)) (.seq (.block 1 (.seq (.region 6 q6 false) (.seq (.region 7 q7 false) (.region 8 q8 false)))) (.region 9 q9 false)))::.inLoop LL::.inBlock 0::.code (.seq (.region 10 q10 false) J39)::kk)) cs) rfl (fun w1=>?_) fun w1 r1=>?_
 ·rw [show List.range q5.size=[0] from rfl];exact J0d (o:=q5[0]) (v:=.bool false) rfl rfl (by simp [base]) (by simp [execOp,q5,Act.eval,go_sem,h18]) (by simp [execOp,q5,Act.eval,go_sem,h18])
 replace hW:=r1 hW;refine J05 rfl (fun w1=>stepG_region_end) fun w1 r1=>?_;replace hW:=r1 hW;refine J05 rfl (fun w1=>stepG_seq) fun w1 r1=>?_;replace hW:=r1 hW;have hsz:=hT.size;refine J05 rfl (fun w1=>stepG_cond (t:=false) (by simp [Act.eval,hsz])) fun w1 r1=>?_;replace hW:=r1 hW;simp only [Jc1,if_false];refine J05 rfl (fun w1=>stepG_exit rfl) fun w1 r1=>?_;replace hW:=r1 hW;refine J05 rfl (fun w1=>stepG_seq) fun w1 r1=>?_;replace hW:=r1 hW;refine J05 rfl (fun w1=>stepG_region) fun w1 r1=>?_;replace hW:=r1 hW;have hT2:RT Wg C k p m c T0 (T.setIfInBounds 19 (.bool false)):=hT.set (.inr (by omega)) _;generalize T.setIfInBounds 19 (.bool false)=T2 at hT2 ⊢;have e9:=Jla hT2.w9;refine Goes.step rfl fun w1 r1=>?_;replace hW:=r1 hW;rw [show List.range q10.size=[0] from rfl];have h1:q10[0]?=some q10[0]:=rfl;have h2:Region.wanted q10[0] (yielded q10 T2)=true:=rfl;have h3:q10[0].op=.call { callee:=.value (.func 66),args:=#[.tmp 9],argTypes:=#[146] }:=rfl;have h4:(base 40).kind≠.early:=by simp [base]
 have hcl:=fun K=>@goes_call Tryz.prog true (base 40) ⟨T2,[]⟩ (.code J39::kk) cs w1 q10 0 [] q10[0] K 66 Tryz.f66 (body_wait link) #[.tmp 9] #[146] h1 h2 h4 h3 Tryz.func66 nm66 Jxk;refine hcl _ ?_;refine ⟨⟨rfl,rfl⟩,?_⟩;have hf:=S.start ((base 40).at ⟨T2,[]⟩ (.inRegion q10 [0]::.code J39::kk)) w1 hW ⟨_,_,rfl⟩;refine J1l (fun g w h=>JKd.mono (fun g w h=>⟨T2,_,⟨hT2,rfl⟩,h⟩) h) ?_;have ea:(#[.tmp 9]:Array Operand).map (Act.eval ⟨T2,[]⟩)=#[ptr Wg]:=by simp [Act.eval,e9]
 rw [ea,show (#[ptr Wg]:Array Value).size=1 from rfl];exact hf
end
def StopJ (H:Ph):Nat->Goroutine->World->Prop
 | 0=>JKd H.P H.ty H.Wg H.Anch
 | r+1=>JAl H (H.n-(r+1)) (JSp H r)
theorem Jpk {H:Ph} {r n:Nat} {g:Goroutine} {w:World} (h:Goes H.P true (RM H.ty H.Wg) DC0 (StopJ H r) n g w):JSp H r g w:=by cases r<;>exact ⟨n,h⟩
theorem Jxm:(Tryz.prog.funcs[(base 40).fn]?).any (·.norace)=false:=by kernel_rfl
section
variable {main:Bool} {b:Frame} {a:Act} {kk:List Item} {cs:List Frame} {w:World} {ops:Array Oper} {i:Nat} {rest:List Nat} {o:Oper}
theorem Jj0 (ho:ops[i]?=some o) (hw:Region.wanted o (yielded ops a.tmps)=true) (hk:b.kind≠.early) (hop:o.op=.alloc 3) :
  stepG Tryz.prog main (G (b.at a (.inRegion ops (i::rest)::kk)) cs) w=.go (G (b.at (a.put o.dst (ptr w.heap.size)) (.inRegion ops rest::kk)) cs) { w with heap:=w.heap.push (.cells #[.int .i64 0] 3) } #[]:=by
 have hr:(execOp a.eval o).run Tryz.prog w=.ok (.value (ptr w.heap.size)) { w with heap:=w.heap.push (.cells #[.int .i64 0] 3) }:=by unfold execOp;simp only [hop];simp [go_sem,ptr]
 have he:(execOp a.eval o).events Tryz.prog w #[]=#[]:=by unfold execOp;simp only [hop];simp [go_sem]
 rw [stepG_value ho hw hk hr];unfold listed;rw [he,seen_none]
theorem Jj1 {x y:Operand} (ho:ops[i]?=some o) (hw:Region.wanted o (yielded ops a.tmps)=true) (hk:b.kind≠.early) (hop:o.op=.store 3 x y)
  {ad:Addr} {v:Int} {u:Value} (hx:a.eval x=.pointer (some ad)) (hy:a.eval y=.int .i64 v) (hc:w.cell? ad=some u) (hz:w.frozen? ad=false) (hq:(Tryz.prog.funcs[b.fn]?).any (·.norace)=false) :
  stepG Tryz.prog main (G (b.at a (.inRegion ops (i::rest)::kk)) cs) w=.go (G (b.at (a.put o.dst undef) (.inRegion ops rest::kk)) cs) (w.setCell ad (.int .i64 v)) #[⟨.cell ad,true,false⟩]:=by
 have hr:(execOp a.eval o).run Tryz.prog w=.ok .skip (w.setCell ad (.int .i64 v)):=by unfold execOp;simp only [hop,hx,hy];simp [go_sem,stored,hc,hz]
 have he:(execOp a.eval o).events Tryz.prog w #[]=#[⟨.cell ad,true,false⟩]:=by unfold execOp;simp only [hop,hx,hy];simp [go_sem,storedEv,hc,hz]
 rw [stepG_none ho hw hk hr];unfold listed;rw [he,seen_eq hq (by simp)]
end
structure J62 (F:Nat->Prop) (w0:World) (k p m c:Nat) (R:Nat->(Nat->Prop)->Option Nat->World->Prop):Prop where
 sh:∀ b,F b->Tryz.prog.globals.size<=b/\∃ o,w0.heap[b]?=some o/\∀ X Sh:Nat->Prop,(∀ b,F b->X b)->Jml (C1 Sh) (idE X) o
 hnd:F Tryz.prog.globals.size
 kF:F k
 pF:F p
 mF:F m
 cF:F c
 run:∀ (i s Wg C:Nat) (w:World),i<4->¬ F s->(∀ b,F b->w.heap[b]?=w0.heap[b]?)->w.heap[s]?=some (.cells #[.int .i64 i] 3)->∃ A:Array Value->World->Prop,
  (∀ τ,c1.wp Tryz.prog (fun e a w1=>e=.normal/\A a.tmps w1) ⟨T63 Wg s k p m c C,[Jp]⟩ ((frz (fun b=>F b\/b=s) w).tp τ 0)) /\
  ∀ t1 w1,A t1 w1->∀ τ,cM.wp Tryz.prog (fun e a w2=>e=.normal/\a.tmps.size=40/\a.tmps[1]?=some (ptr s)/\w2.cell? ⟨s,0,none⟩=some (.int .i64 i)/\∃ r,a.tmps[7]?=some (.map r)/\R i (fun b=>F b\/b=s) r w2) ⟨t1,[Jp]⟩ (w1.tp τ 0)
section
variable {AJ:Frame->Goroutine->World->Prop} {W E F:Nat->Prop} {R:Nat->(Nat->Prop)->Option Nat->World->Prop} {Wg C k p m c mm:Nat} {T0:Array Value} {w0:World} {t0:Trace} {q0:Nat->Nat} {kk:List Item} {cs:List Frame}
noncomputable def K0 (kk:List Item):List Item:=.inLoop LL::.inBlock 0::.code (.seq (.region 10 q10 false) J39)::kk
noncomputable def K1' (kk:List Item):List Item:=.inBlock 1::.code (.region 9 q9 false)::K0 kk
theorem goJ (hne:C≠Wg) (hFE:∀ b,F b->E b/\b≠C) (hFl:∀ b,F b->b<Wg) (KW:J62 F w0 k p m c R) {i s:Nat} (hi:i<4) (hs:Wg<s) {T:Array Value} (hT:RT Wg C k p m c T0 T) (h10:T[10]?=some (ptr s))
  {Next:Goroutine->World->Prop} (w:World) (hN:Next (G ((base 40).at ⟨T.setIfInBounds 22 (.func (.func 63) #[] (J0h Wg s k p m c C)),[]⟩ (.inRegion q8 []::K1' kk)) cs) w) :
  JGo (HR AJ W E F R Wg C k p m c T0 mm w0 t0 q0 kk cs) i s Next (G ((base 40).at ⟨T.setIfInBounds 22 (.func (.func 63) #[] (J0h Wg s k p m c C)),[]⟩ (.inRegion q8 [1]::K1' kk)) cs) w:=by
 refine ⟨rfl,fun hk hcell _=>?_⟩;have hFs:¬ F s:=fun h=>by have:=hFl s h;omega
 have hw0:∀ b,F b->w.heap[b]?=w0.heap[b]?:=fun b hb=>hk b (hFE b hb);have hgs:Tryz.prog.globals.size<=s:=by have:=hFl _ KW.hnd;omega
 have hsh:Jrv (C1 fun b=>F b\/b=s) (fun b=>F b\/b=s) w:=by
  refine ⟨.inl KW.hnd,fun b hb=>?_⟩;by_cases hbs:b=s
  ·subst hbs;refine ⟨hgs,_,hcell,rfl,AR.one (.int _ _)⟩
  ·obtain ⟨h1,o,h2,h3⟩:=KW.sh b (hb.resolve_right hbs);exact ⟨h1,o,(hw0 b (hb.resolve_right hbs)).trans h2,h3 _ _ fun b hb=>.inl hb⟩
 obtain ⟨A,hA1,hA2⟩:=KW.run i s Wg C w hi hFs hw0 hcell;have hc:w.cell? ⟨s,0,none⟩=some (.int .i64 i):=by simp [World.cell?,hcell]
 have hw:=worker (H:=(HR AJ W E F R Wg C k p m c T0 mm w0 t0 q0 kk cs)) (Sh:=fun b=>F b\/b=s) (X0:=fun b=>(E b/\b≠C)\/b=s) (i:=i) (s:=s) (keys:=k) (passes:=p) (mask:=m) (c:=c) (w:=w) (A:=A) (R:=R i fun b=>F b\/b=s) rfl rfl rfl hne (fun b hb=>hb.imp (hFE b) id) hi hsh (.inr rfl) (.inl KW.kF) (.inl KW.pF) (.inl KW.mF) (.inl KW.cF) hA1 hA2
  (fun E2 own X w2 w' r r' h1 h2 h3 h4=>⟨_,E2,w2,r,r',rfl,fun b hb=>.inl hb,fun b hb=>hb.elim (fun h=>.inl h) (fun e=>.inr (by rw [e];exact hs)),h1,h2,h3,h4⟩)
 have hsz:=hT.size;have hst:stepG Tryz.prog true (G ((base 40).at ⟨T.setIfInBounds 22 (.func (.func 63) #[] (J0h Wg s k p m c C)),[]⟩ (.inRegion q8 [1]::K1' kk)) cs) w =
   .spawn (G ((base 40).at ⟨T.setIfInBounds 22 (.func (.func 63) #[] (J0h Wg s k p m c C)),[]⟩ (.inRegion q8 []::K1' kk)) cs) (born Tryz.prog (J87 Wg s k p m c C)) w #[]:=by
  have hr:(execOp (Act.eval ⟨T.setIfInBounds 22 (.func (.func 63) #[] (J0h Wg s k p m c C)),[]⟩) q8[1]).run Tryz.prog w=.ok (.spawn (J87 Wg s k p m c C)) w:=by simp [execOp,q8,Act.eval,hsz,go_sem,J87]
  have he:listed Tryz.prog (base 40).fn ⟨T.setIfInBounds 22 (.func (.func 63) #[] (J0h Wg s k p m c C)),[]⟩ q8[1] w=#[]:=by
   unfold listed;rw [show (execOp (Act.eval ⟨T.setIfInBounds 22 (.func (.func 63) #[] (J0h Wg s k p m c C)),[]⟩) q8[1]).events Tryz.prog w #[]=#[] from by simp [execOp,q8,Act.eval,hsz,go_sem],seen_none]
  rw [stepG_spawn (o:=q8[1]) rfl rfl (by simp [base]) hr rfl,he];rfl
 exact ⟨_,_,hst,rfl,rfl,hw,rfl,hN⟩
theorem J03l (S:J7b Wg cs AJ) (hne:C≠Wg) (hFE:∀ b,F b->E b/\b≠C) (hFl:∀ b,F b->b<Wg) (KW:J62 F w0 k p m c R) :
  ∀ r,r<=4->∃ n,∀ T w,RT Wg C k p m c T0 T->T[18]?=some (.int .i64 ((4-r:Nat):Int))->WgLive 146 Wg w->(Goes Tryz.prog true (RM 146 Wg) DC0) (StopJ (HR AJ W E F R Wg C k p m c T0 mm w0 t0 q0 kk cs) r) n (G ((base 40).at ⟨T,[]⟩ (.code LL::K0 kk)) cs) w:=by
 intro r
 induction r with
 | zero=>exact fun _=>J03k S
 | succ r ih=>
  intro hr;obtain ⟨n,hn⟩:=ih (by omega);refine ⟨0+12,fun T w hT h18 hW=>?_⟩;have hi:4-(r+1)<4:=by omega
  have hnext:4-(r+1)+1=4-r:=by omega
  generalize hie:4-(r+1)=i at *;refine J05 rfl (fun w1=>stepG_seq) fun w1 r1=>?_;replace hW:=r1 hW;refine J05 rfl (fun w1=>stepG_region) fun w1 r1=>?_;replace hW:=r1 hW;have hlt:(i:Int)<4:=by omega
  refine J05 (g':=G ((base 40).at ⟨T.setIfInBounds 19 (.bool true),[]⟩ (.inRegion q5 []::.code (.seq (.cond (.tmp 19) .skip (.exit 0)) (.seq (.block 1 (.seq (.region 6 q6 false) (.seq (.region 7 q7 false) (.region 8 q8 false)))) (.region 9 q9 false)))::K0 kk)) cs) rfl (fun w1=>?_) fun w1 r1=>?_
  ·rw [show List.range q5.size=[0] from rfl];exact J0d (o:=q5[0]) (v:=.bool true) rfl rfl (by simp [base]) (by simp [execOp,q5,Act.eval,go_sem,h18,hlt]) (by simp [execOp,q5,Act.eval,go_sem,h18])
  replace hW:=r1 hW;refine J05 rfl (fun w1=>stepG_region_end) fun w1 r1=>?_;replace hW:=r1 hW;refine J05 rfl (fun w1=>stepG_seq) fun w1 r1=>?_;replace hW:=r1 hW;have hsz:=hT.size;refine J05 rfl (fun w1=>stepG_cond (t:=true) (by simp [Act.eval,hsz])) fun w1 r1=>?_;replace hW:=r1 hW;simp only [if_true];refine J05 rfl (fun w1=>stepG_skip) fun w1 r1=>?_;replace hW:=r1 hW;refine J05 rfl (fun w1=>stepG_seq) fun w1 r1=>?_;replace hW:=r1 hW;refine J05 rfl (fun w1=>stepG_block) fun w1 r1=>?_;replace hW:=r1 hW;refine J05 rfl (fun w1=>stepG_seq) fun w1 r1=>?_;replace hW:=r1 hW;refine J05 rfl (fun w1=>stepG_region) fun w1 r1=>?_;replace hW:=r1 hW;rw [show List.range q6.size=[0,1,2] from rfl];have hT2:RT Wg C k p m c T0 (T.setIfInBounds 19 (.bool true)):=hT.set (.inr (by omega)) _;have Jmn:(T.setIfInBounds 19 (.bool true))[18]?=some (.int .i64 i):=by simpa using h18
  generalize T.setIfInBounds 19 (.bool true)=T2 at hT2 Jmn ⊢;clear hT h18 hsz;have hsz:=hT2.size;refine J05 (g':=G ((base 40).at ⟨T2.setIfInBounds 20 (.int .i64 i),[]⟩ (.inRegion q6 [1,2]::.code (.seq (.region 7 q7 false) (.region 8 q8 false))::K1' kk)) cs) rfl (fun w1=>?_) fun w1 r1=>?_
  ·exact J0d (o:=q6[0]) (v:=.int .i64 i) rfl rfl (by simp [base]) (by simp [execOp,q6,Act.eval,go_sem,Jmn]) (by simp [execOp,q6,Act.eval,go_sem])
  replace hW:=r1 hW;have hT3:RT Wg C k p m c T0 (T2.setIfInBounds 20 (.int .i64 i)):=hT2.set (.inr (by omega)) _;have g18:(T2.setIfInBounds 20 (.int .i64 i))[18]?=some (.int .i64 i):=by simpa using Jmn
  have g20:(T2.setIfInBounds 20 (.int .i64 i))[20]?=some (.int .i64 i):=by simp [hsz]
  generalize T2.setIfInBounds 20 (.int .i64 i)=T3 at hT3 g18 g20 ⊢;clear hT2 Jmn hsz T2;refine Goes.stop fun w2 r2=>?_;replace hW:=r2 hW;have hWs:Wg<w2.heap.size:=by obtain ⟨st,sm,h⟩:=hW;exact (Ja3.1 h).1
  have hsz:=hT3.size;show JAl (HR AJ W E F R Wg C k p m c T0 mm w0 t0 q0 kk cs) (4-(r+1)) (JSp (HR AJ W E F R Wg C k p m c T0 mm w0 t0 q0 kk cs) r) _ w2;rw [hie];refine ⟨rfl,_,Jj0 (o:=q6[1]) rfl rfl (by simp [base]) rfl,0,Goes.stop fun w3 r3=>?_⟩;have hTs:RT Wg C k p m c T0 (T3.setIfInBounds 10 (ptr w2.heap.size)):=hT3.set (.inl rfl) _;have f10:(T3.setIfInBounds 10 (ptr w2.heap.size))[10]?=some (ptr w2.heap.size):=by simp [hsz]
  have f18:(T3.setIfInBounds 10 (ptr w2.heap.size))[18]?=some (.int .i64 i):=by simpa using g18
  have f20:(T3.setIfInBounds 10 (ptr w2.heap.size))[20]?=some (.int .i64 i):=by simpa using g20
  replace hW:WgLive 146 Wg w3:=r3 (by obtain ⟨st,sm,h⟩:=hW;refine ⟨st,sm,?_⟩;show (w2.heap.push _)[Wg]?=_;unfold WgAt at h;rw [Ja4 hWs] at h;rw [Array.getElem?_push_lt hWs];exact h);clear r3;show JSt (HR AJ W E F R Wg C k p m c T0 mm w0 t0 q0 kk cs) i w2.heap.size (JSp (HR AJ W E F R Wg C k p m c T0 mm w0 t0 q0 kk cs) r) (G ((base 40).at ⟨T3.setIfInBounds 10 (ptr w2.heap.size),[]⟩ (.inRegion q6 [2]::.code (.seq (.region 7 q7 false) (.region 8 q8 false))::K1' kk)) cs) w3;generalize w2.heap.size=s at *;generalize T3.setIfInBounds 10 (ptr s)=T4 at hTs f10 f18 f20 ⊢;clear hT3 g18 g20 hsz T3;refine ⟨rfl,fun hcell=>?_⟩;have hc:w3.cell? ⟨s,0,none⟩=some (.int .i64 0):=by simp [World.cell?,hcell,HR]
  have hz:w3.frozen? ⟨s,0,none⟩=false:=by simp [World.frozen?,hcell,HR]
  refine ⟨_,Jj1 (ad:=⟨s,0,none⟩) (v:=i) (o:=q6[2]) (x:=.tmp 10) (y:=.tmp 20) rfl rfl (by simp [base]) rfl (by simp [Act.eval,f10,ptr]) (by simp [Act.eval,f20]) hc hz Jxm,?_⟩;refine ⟨12+4,?_⟩;show Goes Tryz.prog true (RM 146 Wg) DC0 (Jis Tryz.prog 146 Wg (JGo (HR AJ W E F R Wg C k p m c T0 mm w0 t0 q0 kk cs) i s (JSp (HR AJ W E F R Wg C k p m c T0 mm w0 t0 q0 kk cs) r))) (12+4) (G ((base 40).at ⟨T4,[]⟩ (.inRegion q6 []::.code (.seq (.region 7 q7 false) (.region 8 q8 false))::K1' kk)) cs) _;replace hW:WgLive 146 Wg (w3.setCell ⟨s,0,none⟩ (.int .i64 i)):=by obtain ⟨st,sm,h⟩:=hW;exact ⟨st,sm,h.of_block ((aside_setCell _ ⟨s,0,none⟩ (.int .i64 i)).block Wg (by show Wg≠s;omega))⟩
  generalize w3.setCell ⟨s,0,none⟩ (.int .i64 i)=w4 at hW ⊢;clear hcell hc hz w3;refine J05 rfl (fun w1=>stepG_region_end) fun w1 r1=>?_;replace hW:=r1 hW;refine J05 rfl (fun w1=>stepG_seq) fun w1 r1=>?_;replace hW:=r1 hW;refine J05 rfl (fun w1=>stepG_region) fun w1 r1=>?_;replace hW:=r1 hW;refine Goes.step rfl fun w1 r1=>?_;replace hW:=r1 hW;rw [show List.range q7.size=[0] from rfl];have h1:q7[0]?=some q7[0]:=rfl;have h2:Region.wanted q7[0] (yielded q7 T4)=true:=rfl;have h3:q7[0].op=.call { callee:=.value (.func 62),args:=#[.tmp 9,.const (.int .i64 1)],argTypes:=#[146,3] }:=rfl;have h4:(base 40).kind≠.early:=by simp [base]
  refine goes_call h1 h2 h4 h3 Tryz.func62 nm62 Jxl ?_;refine ⟨⟨rfl,rfl⟩,?_⟩;have e9:=Jla hTs.w9;have ea:(#[.tmp 9,.const (.int .i64 1)]:Array Operand).map (Act.eval ⟨T4,[]⟩)=#[ptr Wg,.int .i64 1]:=by simp [Act.eval,e9]
  rw [ea,show (#[ptr Wg,.int .i64 1]:Array Value).size=2 from rfl];refine S.add (JGo (HR AJ W E F R Wg C k p m c T0 mm w0 t0 q0 kk cs) i s (JSp (HR AJ W E F R Wg C k p m c T0 mm w0 t0 q0 kk cs) r)) 3 ⟨T4,[]⟩ (.code (.region 8 q8 false)::K1' kk) w1 hW fun w5 hW=>?_;have hsz:=hTs.size;show Goes Tryz.prog true (RM 146 Wg) DC0 (JGo (HR AJ W E F R Wg C k p m c T0 mm w0 t0 q0 kk cs) i s (JSp (HR AJ W E F R Wg C k p m c T0 mm w0 t0 q0 kk cs) r)) 3 (G ((base 40).at ⟨T4.setIfInBounds 21 (.tuple #[]),[]⟩ (.inRegion q7 []::.code (.region 8 q8 false)::K1' kk)) cs) w5;have hT5:RT Wg C k p m c T0 (T4.setIfInBounds 21 (.tuple #[])):=hTs.set (.inr (by omega)) _;have z10:(T4.setIfInBounds 21 (.tuple #[]))[10]?=some (ptr s):=by simpa using f10
  have z18:(T4.setIfInBounds 21 (.tuple #[]))[18]?=some (.int .i64 i):=by simpa using f18
  generalize T4.setIfInBounds 21 (.tuple #[])=T5 at hT5 z10 z18 ⊢;refine J05 rfl (fun w1=>stepG_region_end) fun w1 r1=>?_;replace hW:=r1 hW;refine J05 rfl (fun w1=>stepG_region) fun w1 r1=>?_;replace hW:=r1 hW;rw [show List.range q8.size=[0,1] from rfl];have hsz5:=hT5.size;refine J05 (g':=G ((base 40).at ⟨T5.setIfInBounds 22 (.func (.func 63) #[] (J0h Wg s k p m c C)),[]⟩ (.inRegion q8 [1]::K1' kk)) cs) rfl (fun w1=>?_) fun w1 r1=>?_
  ·exact J0d (o:=q8[0]) (v:=.func (.func 63) #[] (J0h Wg s k p m c C)) rfl rfl (by simp [base]) (by simp [execOp,q8,Act.eval,go_sem,J0h,hT5.w9,hT5.k7,hT5.p5,hT5.m4,hT5.c3,hT5.C8,z10];try rfl) (by simp [execOp,q8,Act.eval,go_sem];try rfl)
  replace hW:=r1 hW;refine Goes.stop fun w6 r6=>?_;replace hW:=r6 hW;refine goJ hne hFE hFl KW hi (by omega) hT5 z10 w6 ?_;have hT6:RT Wg C k p m c T0 (T5.setIfInBounds 22 (.func (.func 63) #[] (J0h Wg s k p m c C))):=hT5.set (.inr (by omega)) _;have y18:(T5.setIfInBounds 22 (.func (.func 63) #[] (J0h Wg s k p m c C)))[18]?=some (.int .i64 i):=by simpa using z18
  generalize T5.setIfInBounds 22 (.func (.func 63) #[] (J0h Wg s k p m c C))=T6 at hT6 y18 ⊢;have Jxn:=hT6.size;refine Jpk (n:=n+7) ?_;refine J05 rfl (fun w1=>stepG_region_end) fun w1 r1=>?_;replace hW:=r1 hW;refine J05 rfl (fun w1=>stepG_inBlock) fun w1 r1=>?_;replace hW:=r1 hW;refine J05 rfl (fun w1=>stepG_region) fun w1 r1=>?_;replace hW:=r1 hW;rw [show List.range q9.size=[0,1] from rfl];have hi64:IntKind.i64.wrap ((i:Int)+1)=((i+1:Nat):Int):=by rw [IntKind.wrap_i64];omega
  refine J05 (g':=G ((base 40).at ⟨T6.setIfInBounds 23 (.int .i64 ((i+1:Nat):Int)),[]⟩ (.inRegion q9 [1]::K0 kk)) cs) rfl (fun w1=>?_) fun w1 r1=>?_
  ·exact J0d (o:=q9[0]) (v:=.int .i64 ((i+1:Nat):Int)) rfl rfl (by simp [base]) (by simp [execOp,q9,Act.eval,go_sem,y18,hi64]) (by simp [execOp,q9,Act.eval,go_sem,y18])
  replace hW:=r1 hW;refine J05 (g':=G ((base 40).at ⟨(T6.setIfInBounds 23 (.int .i64 ((i+1:Nat):Int))).setIfInBounds 18 (.int .i64 ((i+1:Nat):Int)),[]⟩ (.inRegion q9 []::K0 kk)) cs) rfl (fun w1=>?_) fun w1 r1=>?_
  ·exact J0d (o:=q9[1]) (v:=.int .i64 ((i+1:Nat):Int)) rfl rfl (by simp [base]) (by simp [execOp,q9,Act.eval,go_sem,Jxn]) (by simp [execOp,q9,Act.eval,go_sem])
  replace hW:=r1 hW;refine J05 rfl (fun w1=>stepG_region_end) fun w1 r1=>?_;replace hW:=r1 hW;refine J05 rfl (fun w1=>stepG_inLoop) fun w1 r1=>?_;replace hW:=r1 hW;refine hn _ _ ((hT6.set (.inr (by omega)) _).set (.inr (by omega)) _) ?_ hW;rw [<- hnext];simp [Jxn]
end
section
variable {P:Program} {ty:TypeId} {Wg:Nat} {Fin Fin' Anch Jh8:Goroutine->World->Prop} {g:Goroutine} {w:World}
theorem Jfd.mono (h:∀ g w,Fin g w->Fin' g w) (x:Jfd P ty Wg Fin g w):Jfd P ty Wg Fin' g w:=by obtain ⟨h1,g',h2,n,h3⟩:=x;exact ⟨h1,g',h2,n,J1l h h3⟩
theorem JKe.mono (h:∀ g w,Fin g w->Fin' g w) (x:JKe P ty Wg Fin g w):JKe P ty Wg Fin' g w:=by obtain ⟨h1,g',h2,n,h3⟩:=x;exact ⟨h1,g',h2,n,J1l (fun _ _=>Jfd.mono h) h3⟩
theorem JW4.mono (h:∀ g w,Fin g w->Fin' g w) (x:JW4 P ty Wg Fin g w):JW4 P ty Wg Fin' g w:=
 ⟨x.1,fun hw=>by obtain ⟨g',h2,n,h3⟩:=x.2 hw;exact ⟨g',h2,n,J1l (fun _ _=>JKe.mono h) h3⟩⟩
theorem JW3.mono (h:∀ g w,Fin g w->Fin' g w) (x:JW3 P ty Wg Fin g w):JW3 P ty Wg Fin' g w:=
 ⟨x.1,x.2.1,x.2.2.1,fun hw=>by obtain ⟨g',h2,n,h3⟩:=x.2.2.2 hw;exact ⟨g',h2,n,J1l (fun _ _=>JW4.mono h) h3⟩⟩
theorem JWr.mono (h:∀ g w,Fin g w->Fin' g w) (x:JWr P ty Wg Fin g w):JWr P ty Wg Fin' g w:=by obtain ⟨h1,g',h2,n,h3⟩:=x;exact ⟨h1,g',h2,n,J1l (fun _ _=>JW3.mono h) h3⟩
theorem JW2.mono {vs:Nat} (h:∀ g w,Fin g w->Fin' g w) (ha:∀ g w,Anch g w->Jh8 g w) (x:JW2 P ty Wg Fin Anch vs g w):JW2 P ty Wg Fin' Jh8 vs g w:=by
 refine ⟨x.1,fun v hv hw=>⟨fun e=>?_,fun e=>?_⟩⟩
 ·obtain ⟨g',h2,n,h3⟩:=(x.2 v hv hw).1 e;exact ⟨g',h2,n,J1l (fun _ _=>JWr.mono h) h3⟩
 ·obtain ⟨g',h2,n,h3⟩:=(x.2 v hv hw).2 e;exact ⟨g',h2,n,J1l ha h3⟩
theorem JW1.mono (h:∀ g w,Fin g w->Fin' g w) (ha:∀ g w,Anch g w->Jh8 g w) (x:JW1 P ty Wg Fin Anch g w):JW1 P ty Wg Fin' Jh8 g w:=by refine ⟨x.1,fun v hv hw=>?_⟩;obtain ⟨g',h2,h3,h4⟩:=x.2 v hv hw;exact ⟨g',h2,fun e=>by obtain ⟨n,h5⟩:=h3 e;exact ⟨n,J1l (fun _ _=>JKe.mono h) h5⟩,fun e=>by obtain ⟨n,h5⟩:=h4 e;exact ⟨n,J1l (fun _ _=>JW2.mono h ha) h5⟩⟩
end
structure Jj2 (Wg:Nat) (cs:List Frame) (AJ:Frame->Goroutine->World->Prop):Prop where
 run:∀ f g w,AJ f g w->g.status=.running
 round:∀ (Fin:Goroutine->World->Prop) (a₀:Act) (k₀:List Item),(∀ w,WgLive 146 Wg w->Goes Tryz.prog true (RM 146 Wg) DC0 Fin 0 (G ((base 40).at (a₀.put (some 24) (.tuple #[])) (.inRegion q10 []::k₀)) cs) w) ->
  ∀ g w,AJ ((base 40).at a₀ (.inRegion q10 [0]::k₀)) g w->∃ m,Goes Tryz.prog true (RM 146 Wg) DC0 (JW1 Tryz.prog 146 Wg Fin (AJ ((base 40).at a₀ (.inRegion q10 [0]::k₀)))) m g w
theorem Jfh {main:Bool} {b:Frame} {a:Act} {kk:List Item} {cs:List Frame} {w:World} {ops:Array Oper} {i:Nat} {rest:List Nat} {o:Oper} (ho:ops[i]?=some o) (hw:Region.wanted o (yielded ops a.tmps)=true) (hk:b.kind≠.early) (hop:o.op=.alloc 146) :
  stepG Tryz.prog main (G (b.at a (.inRegion ops (i::rest)::kk)) cs) w=.go (G (b.at (a.put o.dst (ptr w.heap.size)) (.inRegion ops rest::kk)) cs) { w with heap:=w.heap.push (wgBlock 146 0 0) } #[]:=by
 have hr:(execOp a.eval o).run Tryz.prog w=.ok (.value (ptr w.heap.size)) { w with heap:=w.heap.push (wgBlock 146 0 0) }:=by unfold execOp;simp only [hop];simp [go_sem,ptr,wgBlock]
 have he:(execOp a.eval o).events Tryz.prog w #[]=#[]:=by unfold execOp;simp only [hop];simp [go_sem]
 rw [stepG_value ho hw hk hr];unfold listed;rw [he,seen_none]
structure Jpl (W E:Nat->Prop) (C:Nat) (w0:World) (R2:Nat->(Nat->Prop)->Option Nat->World->Prop) (E2:Nat->Prop) (w:World):Prop where
 bok:BOk C0 S0 W E2 w
 le:∀ b,E b->E2 b
 keep:∀ b,E b->b≠C->w.heap[b]?=w0.heap[b]?
 parts:∃ (cs:Array Value) (O:Nat->Nat->Prop),w.heap[C]?=some (.cells cs 138)/\cs.size=4/\(∀ i j,i<4->j<4->i≠j->∀ b,O i b->¬ O j b)/\(∀ i,i<4->∀ b,O i b->E2 b/\¬ E b)/\∀ i,i<4->∃ r,cs[i]?=some (.map r)/\(∀ b,r=some b->E2 b)/\R2 i (O i) r w
theorem WR.self {C:Cx} {ok:FuncId->Code->Prop} {X:Nat->Prop} {w:World} (hst:C.st=false) (h:∀ b,X b->∃ o,w.heap[b]?=some o/\J3g C ok (idE X) b o o):WR C ok (idE X) w w:=by
 refine ⟨rfl,fun b b' ⟨e,hb⟩=>?_,fun b c c' h1 h2=>h1.1.symm.trans h2.1,fun b c b2 h1 h2=>h1.1.trans h2.1.symm,fun b hb=>absurd hb (C.lax hst b),fun b b' o o' ⟨e,hb⟩ h1 h2=>?_,fun _ b b' h=>h.1,fun _=>rfl,fun e=>by rw [hst] at e;cases e⟩
 ·subst e;obtain ⟨o,ho,_⟩:=h b hb;have:=(Ja3.1 ho).1;exact ⟨this,this⟩
 ·subst e;obtain ⟨o2,ho,h3⟩:=h b hb;rw [ho] at h1 h2;cases h1;cases h2;exact h3
theorem Jxo (Sh:Nat->Prop):J4n (C1 Sh) C0:=by
 refine ⟨fun f h=>?_,fun t h=>?_,fun n h=>?_⟩
 ·have h':f∈[42,44,157,158,164,165,171,172]:=Jd3.1 h;simp only [Jb8,Jc2,or_false] at h';rcases h' with rfl|rfl|rfl|rfl|rfl|rfl|rfl|rfl<;>(show List.contains _ _=true;kernel_rfl)
 ·simp only [Cx.J2k,Bool.or_eq_true] at h ⊢;refine h.imp (fun h=>?_) id;have h':t∈[120,123,126]:=Jd3.1 h;simp only [Jb8,Jc2,or_false] at h';rcases h' with rfl|rfl|rfl<;>(show List.contains _ _=true;kernel_rfl)
 ·have h':n∈["Copy","Merge"]:=Jd3.1 h;simp only [Jb8,Jc2,or_false] at h';rcases h' with rfl|rfl<;>(show List.contains _ _=true;kernel_rfl)
section
variable {AJ:Frame->Goroutine->World->Prop} {W E F:Nat->Prop} {R R2:Nat->(Nat->Prop)->Option Nat->World->Prop} {Wg C k p m c mm:Nat} {T0:Array Value} {w0:World} {t0:Trace} {q0:Nat->Nat} {kk:List Item} {cs:List Frame}
theorem Jmo {W0:Nat->Prop} {wb:World} (hW0:∀ b,W0 b->W b) (hWl:∀ b,W b->b<wb.heap.size) (hFE:∀ b,F b->E b) (hB:BOk C0 S0 W E wb) (hwb:w0.heap=wb.heap.push (wgBlock 146 0 0)) (hos:w0.os=wb.os) (hWg:Wg=wb.heap.size) (hC:E C) (hne:C≠Wg) {w':World} {D:Nat->J0a} (h:Jua (HR AJ W0 (fun b=>E b\/(W b/\¬ W0 b)) F R Wg C k p m c T0 mm w0 t0 q0 kk cs) w' D)
  (hR:∀ i Sh E2 w2 r r',i<4->(∀ b,F b->Sh b)->Sub (idE Sh) E2->WR (C1 Sh) (okP (C1 Sh) S1) E2 w2 w'->VR (C1 Sh) E2 (.map r) (.map r')->R i Sh r w2->R2 i (fun b'=>∃ b,E2 b b'/\¬ Sh b) r' w') :
  ∃ E2,Jpl (fun b=>W b\/b=Wg) E C wb R2 E2 w':=by
 have hlt:∀ b,E b->b<wb.heap.size:=fun b hb=>hB.lt hb;have keep:∀ b,E b->b≠C->w'.heap[b]?=wb.heap[b]?:=fun b hb hbC=>by rw [h.jw.keep b (.inl ⟨.inl hb,hbC⟩)];show w0.heap[b]?=_;rw [hwb,Array.getElem?_push_lt (hlt b hb),Ja4 (hlt b hb)]
 have hq:∀ i,i<4->∃ (Sh:Nat->Prop) (E2:J5) (w2:World) (r r':Option Nat),(D i).v=.map r'/\(∀ b,F b->Sh b)/\(∀ b,Sh b->F b\/Wg<b)/\Sub (idE Sh) E2/\Link (C1 Sh) S1 E2 (D i).own (D i).X w2 w'/\VR (C1 Sh) E2 (.map r) (.map r')/\R i Sh r w2:=fun i hi=>(h.res i hi).2
 let E2:Nat->Prop:=fun b=>E b\/∃ i,∃ _:i<4,∃ (Sh:Nat->Prop) (E2:J5) (w2:World),(∀ b,Sh b->F b\/Wg<b)/\Sub (idE Sh) E2/\Link (C1 Sh) S1 E2 (D i).own (D i).X w2 w'/\rng E2 b
 have J03m:∀ i,∃ O:Nat->Prop,i<4->(∀ b,O b->(D i).own b/\E2 b)/\∃ r',(D i).v=.map r'/\(∀ b,r'=some b->E2 b)/\R2 i O r' w':=by
  intro i;by_cases hi:i<4
  case neg=>exact ⟨fun _=>False,fun h=>absurd h hi⟩
  obtain ⟨Sh,E3,w2,r,r',h1,h2,h2',h3,h4,h5,h6⟩:=hq i hi;refine ⟨_,fun _=>⟨fun b' ⟨b,hb,hs⟩=>⟨(h4.rng b b' hb).2 hs,.inr ⟨i,hi,Sh,E3,w2,h2',h3,h4,_,hb⟩⟩,r',h1,fun b hb=>?_,hR i Sh E3 w2 r r' hi h2 h3 h4.wr h5 h6⟩⟩;subst hb;cases h5 with
  | map hm=>exact .inr ⟨i,hi,Sh,E3,w2,h2',h3,h4,_,hm⟩
 obtain ⟨O,hO⟩:=Classical.axiomOfChoice J03m;have Jxp:∀ i,i<4->∃ r',(D i).v=.map r'/\(∀ b,r'=some b->E2 b)/\R2 i (O i) r' w':=fun i hi=>(hO i hi).2;obtain ⟨cells,hc1,hc2⟩:=h.jw.pay;have hcell:∀ i,i<4->cells[i]?=some (D i).v:=by intro i hi;have:=(h.res i hi).1;unfold Has World.cell? at this;rw [hc1] at this;exact this
 refine ⟨E2,⟨⟨?_,.inl hB.hnd,fun g hg=>.inl (hB.gl g hg),fun b hb he=>?_⟩,fun b hb=>.inl hb,keep,cells,O,?_,hc2,fun i j hi hj hij b h1 h2=>h.jw.J54 i j hi hj hij b ((hO i hi).1 b h1).1 (h.jw.J2o j hj b ((hO j hj).1 b h2).1),fun i hi b hb=>⟨((hO i hi).1 b hb).2,fun hE=>?_⟩,fun i hi=>?_⟩⟩
 ·refine WR.self rfl fun b hb=>?_;by_cases hbC:b=C
  ·subst hbC;refine ⟨_,hc1,cells,_,rfl,⟨rfl,fun i x x' h1 h2=>?_⟩,fun hs=>absurd hs (C0.lax rfl b),fun _=>⟨rfl,fun e=>by cases e⟩⟩;have hi:i<4:=by have:=(Ja3.1 h1).1;rw [hc2] at this;exact this
   rw [hcell i hi] at h1 h2;cases h1;cases h2;obtain ⟨r',e1,e2,_⟩:=Jxp i hi;rw [e1];cases r' with
   | none=>exact .J1n
   | some b=>exact .map ⟨rfl,e2 b rfl⟩
  ·rcases hb with hb|⟨i,hi,Sh,E3,w2,hz1,hz2,hL,hr⟩
   ·obtain ⟨o,o',h1,h2,h3⟩:=hB.wr.get (b:=b) ⟨rfl,hb⟩;rw [h1] at h2;cases h2;exact ⟨o,(keep b hb hbC).trans h1,h3.mono (J18 fun b hb=>.inl hb)⟩
   ·have hw:=hL.wr.right (ok':=okP C0 S0) (Jxo Sh) (C0.lax rfl) rfl (fun e=>by cases e);obtain ⟨o,o',h1,h2,h3⟩:=hw.get (b:=b) ⟨rfl,hr⟩;rw [h1] at h2;cases h2;exact ⟨o,h1,h3.mono (J18 fun b hb=>.inr ⟨i,hi,Sh,E3,w2,hz1,hz2,hL,hb⟩)⟩
 ·rcases he with he|⟨i,hi,Sh,E3,w2,hz1,hz2,hL,a,hr⟩
  ·rcases hb with hb|hb
   ·exact hB.dis b hb he
   ·have:=hlt b he;omega
  ·have:=h.jw.avoid i hi b (hL.rng _ _ hr).1;rcases hb with hb|hb
   ·by_cases hs:Sh a
    ·have e:a=b:=hL.wr.fn a a b (hz2 a a ⟨rfl,hs⟩) hr;subst e;rcases hz1 a hs with hf|hf
     ·exact hB.dis a hb (hFE a hf)
     ·have:=hWl a hb;omega
    ·have ho:=(hL.rng _ _ hr).2 hs;exact h.jw.J5m i hi b ho ⟨.inr ⟨hb,this.2.2⟩,this.2.1⟩
   ·exact this.1 hb
 ·exact hc1
 ·have ho:=((hO i hi).1 b hb).1;exact h.jw.J5m i hi b ho ⟨.inl hE,fun e=>(h.jw.avoid i hi b (h.jw.J2o i hi b ho)).2.1 e⟩
 ·obtain ⟨r',e1,e2,e3⟩:=Jxp i hi;exact ⟨r',(hcell i hi).trans (by rw [e1]),e2,e3⟩
end
end Go.Sim.Z
