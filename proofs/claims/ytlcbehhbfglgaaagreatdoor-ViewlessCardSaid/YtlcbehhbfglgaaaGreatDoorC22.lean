/- Proved: laws for the claim. No conditions. -/
import Derived.Test.YtlcbehhbfglgaaaGreatDoorC10
import Derived.Test.YtlcbehhbfglgaaaGreatDoorC14
import Derived.Test.YtlcbehhbfglgaaaGreatDoorC19
import Derived.Test.YtlcbehhbfglgaaaGreatDoorC20
import Derived.Test.YtlcbehhbfglgaaaGreatDoorC21
set_option linter.all false
set_option maxRecDepth 100000
open Go.Proofs.Tryz
noncomputable section
namespace Go.Sim.Z
open Go Go.Proofs Go.Conc Go.ConcN Go.RowKit Go.Conc.Lib Go.ConcR.Gen Go.ConcN.Gen
open Go.ConcR (KK wgBlock WgAt stA smA rd wr mk Payload DC0)
def Ju7:f73.ntmps=117:=by kernel_rfl
def Juc:f77.ntmps=84:=by kernel_rfl
def J01p:Array.replicate 115 JA=#[JA,JA,JA,JA,JA,JA,JA,JA,JA,JA,JA,JA,JA,JA,JA,JA,JA,JA,JA,JA,JA,JA,JA,JA,JA,JA,JA,JA,JA,JA,JA,JA,JA,JA,JA,JA,JA,JA,JA,JA,JA,JA,JA,JA,JA,JA,JA,JA,JA,JA,JA,JA,JA,JA,JA,JA,JA,JA,JA,JA,JA,JA,JA,JA,JA,JA,JA,JA,JA,JA,JA,JA,JA,JA,JA,JA,JA,JA,JA,JA,JA,JA,JA,JA,JA,JA,JA,JA,JA,JA,JA,JA,JA,JA,JA,JA,JA,JA,JA,JA,JA,JA,JA,JA,JA,JA,JA,JA,JA,JA,JA,JA,JA,JA,JA]:=by kernel_rfl
def J04u:Array.replicate 83 JA=#[JA,JA,JA,JA,JA,JA,JA,JA,JA,JA,JA,JA,JA,JA,JA,JA,JA,JA,JA,JA,JA,JA,JA,JA,JA,JA,JA,JA,JA,JA,JA,JA,JA,JA,JA,JA,JA,JA,JA,JA,JA,JA,JA,JA,JA,JA,JA,JA,JA,JA,JA,JA,JA,JA,JA,JA,JA,JA,JA,JA,JA,JA,JA,JA,JA,JA,JA,JA,JA,JA,JA,JA,JA,JA,JA,JA,JA,JA,JA,JA,JA,JA,JA]:=by kernel_rfl
def Jrk(Wg:Nat)(cs:List Frame):nI Wg cs (λf=>Jea link Wg f cs):=by
 refine⟨λNext mT a₀ k₀ w hW hN=>?_,?_⟩
 .have h:=Jyo (Wg:=Wg) (Next:=Next) (b₀:=base 33) (a₀:=a₀) (ops₀:=q7) (i₀:=0) (rest₀:=[]) (k₀:=k₀) (cs:=cs) (mT:=mT) wgLib hN w hW;rw[Ju7,show 117-2=115 from rfl,J01p];simp only[List.append_toArray,G9,Gm];exact h
 .rintro f w hW ⟨a₀,k₀,rfl⟩;have h:=Jo4 (Wg:=Wg) (b₀:=base 33) (a₀:=a₀) (ops₀:=q10) (i₀:=0) (rest₀:=[]) (k₀:=k₀) (cs:=cs) wgLib w hW;rw[Juc,show 84-1=83 from rfl,J04u];simp only[List.append_toArray,G9,Gm];exact h
def Jum(Wg:Nat)(cs:List Frame):Jjt Wg cs (λf=>Jea link Wg f cs):=by
 refine⟨?_,λFin a₀ k₀ hN g w hA=>?_⟩
 .rintro f g w ⟨T,rfl,_⟩;rfl
 .exact Jo3 (Wg:=Wg) (b₀:=base 33) (a₀:=a₀) (ops₀:=q10) (i₀:=0) (rest₀:=[]) (k₀:=k₀) (cs:=cs) (mT:=0) wgLib hN g w hA
def uK{i:Nat}(h:(C0.hl 33).contains i=true):i=9\/i=10\/i=18\/i=19\/i=20\/i=21\/i=22\/i=23\/i=24:=by have h':i∈[9,10,18,19,20,21,22,23,24]:=Lj.1 h;simpa using h'
def J04v{i:Nat}(h:(C0.hl 33).contains i=false):i≠9/\i≠10/\(i<18\/24<i):=by
 have h':i∉[9,10,18,19,20,21,22,23,24]:=λhm=>by
  have:(C0.hl 33).contains i=true:=Lj.2 hm
  grind
 simp only[AL,BU,or_false,not_or]at h';omega
def nX:C0.hl 33≠[]:=by show[9,10,18,19,20,21,22,23,24]≠[];simp
def uM:S0.df.contains 33=false:=rfl
theorem Jxd{i:Nat}:(S0.own 33).contains i=false:=rfl
def _root_.Go.Sim.TmR.bK{C:Cx}{S:Kn}{fn:JG}{E:JB}{T:JC}(h:∀v∈T.toList,VR C (idE E) v v)(ho:∀i,(S.own fn).contains i=false):TmR C S fn (idE E) T T:=
 ⟨rfl,λi x x' _ h1 h2=>by grind,λi x hi=>by grind⟩
def PV.vr{C:Cx}{E:J5}(fb:PV)(Xa:C.fs.contains 35=true)(h69:C.fs.contains 69=true)(hE:∀b,fb=.cells b->E b b):VR C E fb.val fb.val:=by
 cases fb with
 |cells b=>
  refine .func (.func h69) rfl (λi x x' h=>by simp at h) ⟨rfl,by show 1<=3;omega⟩ λi x x' h1 h2=>?_;have h2:(#[JL b]:JC)[i]?=some x':=h2;have h1:(#[JL b]:JC)[i]?=some x:=h1;rw[h1]at h2;cases h2;cases i with
  |zero=>simp at h1;subst h1;exact .ptr _ _ (hE b rfl)
  |succ i=>simp at h1
 |all=>
  refine .func (.func Xa) rfl (λi x x' h=>by simp at h) ⟨rfl,by show 0<=3;omega⟩ λi x x' h1 h2=>?_;have h1:(#[]:JC)[i]?=some x:=h1;simp at h1
def Jxe{H:Array Obj}{n:Nat}(h:H.size=n)(a b c:Obj):(((H.push a).push b).push c)[n]?=some a/\(((H.push a).push b).push c)[n+1]?=some b/\(((H.push a).push b).push c)[n+2]?=some c:=by
 grind
section
variable{W E Fp:JB}{w:JE}{src mk:Nat}{fb:PV}{S:List TR}{c:J7}{pass:JD->Bool}{cs:List Frame}{kk:List Item}{Post:(JB)->JF->JE->Prop}
structure UF(E Fp:JB)(w:JE)(src:Nat)(fb:PV)(S:List TR)(c:J7)(pass:JD->Bool):Prop where
 h:HOk w
 tab:TabAt false w c src S
 tE:∀x,x=src\/x∈tpl S->E x/\prog.globals.size<=x
 bE:∀a,c.ba=some a->E a.block/\prog.globals.size<=a.block/\Shd Fp w a.block
 fF:∀b,fb=.cells b->Fp b
 fE:∀b,Fp b->E b/\prog.globals.size<=b/\Shd Fp w b
 pass:Jqw Fp w fb pass
 cfg:CZ c
 n:S.length<=1000
def Shd.mono{F F':JB}{b:Nat}(h:Shd F w b)(hs:∀b,F b->F' b):Shd F' w b:=by obtain⟨o,h1,h2⟩:=h;exact⟨o,h1,λX Sh hX=>h2 X Sh λb hb=>hX b (hs b hb)⟩
def UF.ke{E':JB}{w':JE}(h:UF E Fp w src fb S c pass)(hH:E prog.globals.size)(k:KE E w w')(hE:∀b,E b->E' b):UF E' Fp w' src fb S c pass:=
 ⟨h.h.ke k hH,h.tab.ke k λx hx=>(h.tE x hx).1,λx hx=>⟨hE _ (h.tE x hx).1,(h.tE x hx).2⟩,λa ha=>⟨hE _ (h.bE a ha).1,(h.bE a ha).2.1,k.shd (h.bE a ha).1 (h.bE a ha).2.2⟩,h.fF,
  λb hb=>⟨hE _ (h.fE b hb).1,(h.fE b hb).2.1,k.shd (h.fE b hb).1 (h.fE b hb).2.2⟩,λw2 hw=>h.pass w2 λa v hf hv=>hw a v hf (k.cell (h.fE _ hf).1 hv),h.cfg,h.n⟩
structure Yy(E:JB)(w:JE)(S:List TR)(c:J7)(mk:Nat)(pass:JD->Bool)(W' E':JB)(w':JE)(m:Nat):Prop where
 bok:BOk C0 S0 W' E' w'
 le:∀b,E b->E' b
 ke:KE E w w'
 kl:KL E w w'
 tab:∃T,TabAt false w' c m T/\Sum c (tm T) (Gg S mk pass)/\T.length<=4016/\∀x,x=m\/x∈tpl T->E' x/\¬E x/\prog.globals.size<=x
set_option maxHeartbeats 1000000 in
def Jo7(hB:BOk C0 S0 W E w)(hI:UF E Fp w src fb S c pass)
  (k:∀W' E' w' t' todo m,Yy E w S c mk pass W' E' w' m->t'[6]?=some (.map (some m))->Reach prog Post W' (G { (base 33).at ⟨t',[]⟩ todo with mode:=.returning } cs) w') :
  Reach prog Post W (G ((base 33).at ⟨R0 src mk fb,[]⟩ (.code b40::kk)) cs) w:=by
 have Lr:TmR C0 S0 33 (idE E) (R0 src mk fb) (R0 src mk fb):=by
  refine .bK (λv hv=>?_) λ_=>Jxd;have e:R0 src mk fb=#[.map (some src),JK mk,fb.val]++Array.replicate 46 JA:=by rw[Jx0];simp only[R0,List.append_toArray,G9,Gm]
  rw[e,Array.toList_append,Gn]at hv;rcases hv with hv|hv
  .simp only[AL,BU,or_false]at hv;rcases hv with rfl|rfl|rfl
   .exact .map ⟨rfl,(hI.tE _ (.inl rfl)).1⟩
   .exact .int _ _
   .exact fb.vr (by show List.contains _ _=true;kernel_rfl) (by show List.contains _ _=true;kernel_rfl) λb e=>⟨rfl,(hI.fE _ (hI.fF b e)).1⟩
  .simp only[Array.toList_replicate]at hv;rw[List.eq_of_mem_replicate hv];exact .undef
 rw[zZ];refine Reach.idle (λw1=>stepG_seq) rfl λwa ra=>?_;obtain⟨d,rfl⟩:=ra;have vZ:=hB.at d;have kP:prog.globals.size<w.heap.size:=hB.lt hB.hnd;refine Reach.piece (b:=base 33) KY rfl J00p sQ uM nX (by simp[base]) vZ Lr (Q:=λe t w1=>e=.normal/\t=R1 src mk fb w.heap.size (w.heap.size+1) (w.heap.size+2)/\w1.heap=((w.heap.push (.cells #[.map (some src)] 95)).push (.cells #[JK mk] 3)).push (.cells #[fb.val] 105)) (λτ=>?_) (λE1 t1 w1 Am AQ CV AP Az DN=>?_) (λE1 t1 w1 Am todo AQ CV AP Az DN=>by cases DN.1)
 .refine wp_mono Jtx λe a w1 ⟨q1,q2,q3⟩=>⟨.inl q1,λi hi=>?_,q1,q2,q3⟩;rw[q2];rcases uK hi with rfl|rfl|rfl|rfl|rfl|rfl|rfl|rfl|rfl<;>rfl
 obtain⟨-,rfl,Dn⟩:=DN;generalize Ze:w.heap.size=n3 at *;have l1:=Jt rfl AP;have a3:E1 n3:=(Az.slot (i:=3) rfl rfl).NP;have a4:E1 (n3+1):=(Az.slot (i:=4) rfl rfl).NP;have a5:E1 (n3+2):=(Az.slot (i:=5) rfl rfl).NP;have o1:∀b,b<n3->w1.heap[b]?=w.heap[b]?:=λb hb=>by
  grind
 obtain⟨p3,p4,p5⟩:=Jxe Ze (.cells #[.map (some src)] 95) (.cells #[JK mk] 3) (.cells #[fb.val] 105);rw[<- Dn]at p3 p4 p5;have c3:=l1 _ _ a3 p3 trivial;have c4:=l1 _ _ a4 p4 trivial;have c5:=l1 _ _ a5 p5 trivial;have k1:KE E w Am:=λb o hb ho hd=>l1 b o (AQ b hb) ((o1 b (Ze▸Jj ho)).trans ho) hd;have hI1:=hI.ke hB.hnd k1 AQ;refine Reach.idle (λw1=>stepG_seq) rfl λwa ra=>?_;obtain⟨d2,rfl⟩:=ra;refine Reach.piece (b:=base 33) KY rfl J00q sQ uM nX (by simp[base]) (CV.at d2) Az (Q:=λe t w2=>e=.normal/\∃v ks n7,t=R2a src mk fb n3 (n3+1) (n3+2) v n7/\keysOf (S.map TR.kv) ks/\YJ w2 Am.heap.size v ks/\Am.heap.size<=n7/\w2.heap[n7]?=some (.cells #[v] 124)/\Keeps Am w2) (λτ=>?_) (λE2 t2 w2 Bv Bo Dt Dv Bc Qb=>?_) (λE1 t1 w1 Am todo AQ CV AP Az DN=>by cases DN.1)
 .have hm:Cm ((Am.at d2).tp τ 0) src (S.map TR.kv):=hI1.tab.map.kept rfl;refine wp_mono (Jty (mk:=mk) (fb:=fb) (n4:=n3+1) (n5:=n3+2) (d:=Jq) hm (by simp;have:=hI.n;omega) (n3:=n3) ((cell_of (w:=(Am.at d2).tp τ 0) c3 0).trans rfl)) λe a w2 ⟨q1,v,ks,n7,q2,q3,q4,q5,q6,q7⟩=>⟨.inl q1,λi hi=>?_,q1,v,ks,n7,q2,q3,q4,q5,q6,⟨q7.size,q7.heap⟩⟩;rw[q2];rcases uK hi with rfl|rfl|rfl|rfl|rfl|rfl|rfl|rfl|rfl<;>rfl
 obtain⟨-,v,ks,n7,rfl,OO,Aj,hn7,hk7,Vx⟩:=Qb;obtain⟨ka,kc,PZ,rfl,SV⟩:=Aj.at;have l2:=Jt rfl Dv;have a7:E2 n7:=(Bc.slot (i:=7) rfl rfl).NP;have aka:∀a,ka=some a->E2 a.block:=λa e=>by have:=Bc.slot (i:=17) (v:=.slice ka ks.length kc) rfl rfl;rw[e]at this;exact this.MQ
 have k2:KE E1 Am Bv:=.step Vx l2 Bo;have wL:=hI1.ke CV.hnd k2 Bo;have d3:=k2 _ _ a3 c3 trivial;have d4:=k2 _ _ a4 c4 trivial;have d5:=k2 _ _ a5 c5 trivial;have d7:=l2 _ _ a7 hk7 trivial;have Jue:=PZ.ke l2 aka;refine Reach.idle (λw1=>stepG_seq) rfl λwa ra=>?_;obtain⟨d2',rfl⟩:=ra;refine Reach.piece (b:=base 33) KY rfl J00r sQ uM nX (by simp[base]) (Dt.at d2') Bc (Q:=λe t w3=>e=.normal/\t=R3a src mk fb n3 (n3+1) (n3+2) (.slice ka ks.length kc) n7 Bv.heap.size/\w3.heap=Bv.heap.push (.cells #[.map none,.map none,.map none,.map none] 171)) (λτ=>?_) (λE3 t3 w3 Iy CO Hf CY Dx jY=>?_) (λE1 t1 w1 Am todo AQ CV AP Az DN=>by cases DN.1)
 .refine wp_mono Jtz λe a w3 ⟨q1,q2,q3⟩=>⟨.inl q1,λi hi=>?_,q1,q2,q3⟩;rw[q2];rcases uK hi with rfl|rfl|rfl|rfl|rfl|rfl|rfl|rfl|rfl<;>rfl
 obtain⟨-,rfl,PW⟩:=jY;generalize hC:Bv.heap.size=C at *;have l3:=Jt rfl CY;have a8:E3 C:=(Dx.slot (i:=8) rfl rfl).NP;have Jrl:Keeps Bv w3:=⟨by grind,λb hb=>by grind⟩;have k3:KE E2 Bv Iy:=.step Jrl l3 CO;have hI3:=wL.ke Dt.hnd k3 CO;have e3:=k3 _ _ (Bo _ a3) d3 trivial;have e4:=k3 _ _ (Bo _ a4) d4 trivial;have e5:=k3 _ _ (Bo _ a5) d5 trivial;have e7:=k3 _ _ a7 d7 trivial;have Jw3:=Jue.ke k3 aka;have e8:=l3 C (.cells #[.map none,.map none,.map none,.map none] 171) a8 (by grind) trivial;have lt2:∀b,E2 b->b<C:=λb hb=>hC▸Dt.lt hb;refine Reach.idle (λw1=>stepG_seq) rfl λwa ra=>?_;obtain⟨Vk,rfl⟩:=ra;refine Reach.idle (λw1=>stepG_region) rfl λwa ra=>?_;obtain⟨d4',rfl⟩:=ra;rw[show List.range q3.size=[0]from rfl];have hBp:=(Hf.at Vk).at d4';have Uz:((Iy.at Vk).at d4').heap=Iy.heap:=rfl;generalize(Iy.at Vk).at d4'=wp at hBp Uz ⊢;have SC:UF E3 Fp wp src fb S c pass:=hI3.ke Hf.hnd (.of_eq λb _=>by rw[Uz]) λ_ h=>h;have cell:∀{b i:Nat}{arr:JC}{t:JH}{v:JJ},Iy.heap[b]?=some (.cells arr t)->arr[i]?=some v->wp.cell? ⟨b,i,none⟩=some v:=λh hv=>(cell_of (Uz▸h) _).trans hv;have gC:∀b,n3<=b->prog.globals.size<=b:=λb hb=>by omega
 have n31:n3<=Am.heap.size:=Nat.le_of_lt (CV.lt a3);have hkg:∀a,ka=some a->n3<=a.block:=λa e=>by grind
 let F:JB:=λb=>b=prog.globals.size\/b=n7\/b=n3+2\/b=n3+1\/b=n3\/(∃a,ka=some a/\b=a.block)\/(b=src\/b∈tpl S)\/(∃a,c.ba=some a/\b=a.block)\/Fp b
 have Jyi:∀b,F b->E2 b:=by
  rintro b (rfl|rfl|rfl|rfl|rfl|⟨a,e,rfl⟩|h|⟨a,e,rfl⟩|h)
  .exact Dt.hnd
  .exact a7
  .grind
  .grind
  .grind
  .exact aka a e
  .exact(wL.tE b h).1
  .exact(wL.bE a e).1
  .exact(wL.fE b h).1
 have FT:∀x,x=src\/x∈tpl S->F x:=λx h=>.inr (.inr (.inr (.inr (.inr (.inr (.inl h))))));have Fb:∀a,c.ba=some a->F a.block:=λa e=>.inr (.inr (.inr (.inr (.inr (.inr (.inr (.inl ⟨a,e,rfl⟩)))))));have FF:∀b,Fp b->F b:=λb h=>.inr (.inr (.inr (.inr (.inr (.inr (.inr (.inr h)))))));have blk:∀{b:Nat}{arr:JC}{t:JH},Iy.heap[b]?=some (.cells arr t)->Blk false wp b arr t:=λh=>⟨(0,0),Uz▸h,λ_=>rfl⟩;have hRF:RF F wp c n7 (n3+2) (n3+1) n3 ka kc ks fb mk src S pass:=by
  refine⟨cell e7 rfl,cell e5 rfl,cell e4 rfl,cell e3 rfl,Jw3.ke (E:=λ_=>True) (.of_eq λb _=>by rw[Uz]) λ_ _=>trivial,SC.tab,λw2 hw=>SC.pass w2 λa v hf hv=>hw a v (FF _ hf) hv,
   .inr (.inl rfl),.inr (.inr (.inl rfl)),.inr (.inr (.inr (.inl rfl))),.inr (.inr (.inr (.inr (.inl rfl)))),.inl rfl,λa e=>.inr (.inr (.inr (.inr (.inr (.inl ⟨a,e,rfl⟩))))),FT,Fb,?_,hI.cfg,?_,λx hx=>?_⟩
  .rintro b (rfl|rfl|rfl|rfl|rfl|⟨a,e,rfl⟩|h|⟨a,e,rfl⟩|h)
   .obtain⟨arr,t,q1,q2⟩:=SC.h;exact⟨Ad _,.plain q1 q2⟩
   .refine⟨gC _ (by omega),.of_cells (blk e7) λX Sh hX v hv=>?_⟩;simp only[AL,BU,or_false]at hv;subst hv;cases Jyj:ka with
    |none=>exact .Jk _ _
    |some a=>exact .slice _ _ _ _ ⟨rfl,hX _ (.inr (.inr (.inr (.inr (.inr (.inl ⟨a,Jyj,rfl⟩))))))⟩
   .refine⟨gC _ (by omega),.of_cells (blk e5) λX Sh hX v hv=>?_⟩;simp only[AL,BU,or_false]at hv;subst hv;exact fb.vr (by show List.contains _ _=true;kernel_rfl) (by show List.contains _ _=true;kernel_rfl) λb e=>⟨rfl,hX _ (FF _ (hI.fF b e))⟩
   .refine⟨gC _ (by omega),.of_cells (blk e4) λX Sh hX v hv=>?_⟩;simp only[AL,BU,or_false]at hv;subst hv;exact .int _ _
   .refine⟨gC _ (by omega),.of_cells (blk e3) λX Sh hX v hv=>?_⟩;simp only[AL,BU,or_false]at hv;subst hv;exact .map ⟨rfl,hX _ (FT _ (.inl rfl))⟩
   .refine⟨gC _ (hkg a e),?_⟩;rcases Jw3 with⟨e',_⟩|⟨g,cur,q1,q2,q3,q4,q5,q6⟩
    .grind
    .rw[q1]at e;cases e;exact .plain (q2.kept (by rw[Uz])) q6
   .exact⟨(SC.tE b h).2,Shd.tab SC.tab FT Fb b h⟩
   .exact⟨(SC.bE a e).2.1,(SC.bE a e).2.2.mono FF⟩
   .exact⟨(SC.fE b h).2.1,(SC.fE b h).2.2.mono FF⟩
  .have:=OO.length;simp only[FQ]at this;have:=hI.n;omega
  .obtain⟨t,_,_,h⟩:=OO.row SC.tab.nodup hx
   grind
 refine(Jl4 (R2:=RC c S mk pass ks) (λWg=>Jrk Wg cs) (λWg=>Jum Wg cs) hBp (T:=R3a src mk fb n3 (n3+1) (n3+2) (.slice ka ks.length kc) n7 C) rfl rfl rfl rfl rfl rfl a8 ⟨_,Uz▸e8,rfl⟩ (F:=F) (λb hb=>⟨CO b (Jyi b hb),λe=>by grind⟩) hRF.work
  (λw' i Sh E2 w2 r r' hi hF hs hW hv hr=>RC.J04o hs hW hv hr)).bind ?_
 rintro W4 g4 w4 ⟨Wg,T4,E4,rfl,wV,rfl,hP⟩;refine Reach.idle (λw1=>stepG_region_end) rfl λwa ra=>?_;obtain⟨d5',rfl⟩:=ra;obtain⟨cc,O,Ui,FH,Xu,hO,IU⟩:=hP.parts;obtain⟨r0,MI,_,m0,T0,rfl,dO,Jyk,XZ,len0⟩:=IU 0 (by omega);obtain⟨r1,KR,_,m1,T1,rfl,Juo,Jyx,pl1,len1⟩:=IU 1 (by omega);obtain⟨r2,BM,_,m2,T2,rfl,Jup,Jz6,pl2,len2⟩:=IU 2 (by omega);obtain⟨r3,Io,_,m3,T3,rfl,Juq,sum3,pl3,len3⟩:=IU 3 (by omega);have ecc:cc=#[.map (some m0),.map (some m1),.map (some m2),.map (some m3)]:=by
  apply Ll;intro i
  match i with
  |0=>exact MI
  |1=>exact KR
  |2=>exact BM
  |3=>exact Io
  |i+4=>simp_all
 subst ecc;have Jz7:TmR C0 S0 33 (idE E4) T4 T4:=by refine⟨rfl,λi x x' hi h1 h2=>?_,λi x hi=>by grind[Jxd]⟩;rw[h1]at h2;cases h2;obtain⟨h9,Ce,Nc⟩:=J04v hi;rw[wV.low i Nc h9 Ce]at h1;exact(Dx.slot hi h1).mono (Oj hP.le)
 have hl4:ks.length<=1000:=hRF.kn;have hC8:=wV.C8;have Jza:=wV.size;clear wV;obtain⟨x0,x1,x2,x3,x4,x5,x6,x7,x8,x9,Rq,Zq,Zr,Zt,Zu,U2,VF,VG,U3,U4,Yb,Yc,Yd,Ye,Yf,Zv,VH,VI,Zw,Zx,Zy,Zz,Z4,VJ,Z5,Z7,Z8,Z9,ZA,ZB,ZC,ZE,ZF,ZG,ZH,ZI,ZJ,ZK,ZL,rfl⟩:=J04q Jza;obtain rfl:x8=JL C:=by simpa[ptr]using hC8
 refine Reach.piece (b:=base 33) KY rfl J00s sQ uM nX (by simp[base]) (hP.bok.at d5') Jz7 (Q:=λe t w5=>e=.ret/\t[6]?=some (.map (some m0))/\∃EE,EE.Perm (Gz T1++Gz T2++Gz T3)/\∃T,TabAt false w5 c m0 T/\Sum c (tm T) (ents S mk pass (CP 0 ks.length ks)++EE)/\T.length<=4016/\(∀x,x=m0\/x∈tpl T->(x=m0\/x∈tpl T0)\/w4.heap.size<=x)/\∀b,b<w4.heap.size->¬(b=m0\/b∈tpl T0)->w5.heap[b]?=w4.heap[b]?) (λτ=>?_) (λE1 t1 w1 Am AQ CV AP Az DN=>by cases DN.1) (λE5 t5 w5 w5' todo LP fH PU EW hq5=>?_)
 .have kp:∀{m:Nat}{T:List TR},TabAt false w4 c m T->TabAt false ((w4.at d5').tp τ 0) c m T:=λh=>h.kept λ_ _=>rfl;refine wp_mono (Jyh (x8:=JA) (w:=(w4.at d5').tp τ 0) (C:=C) (mp:=λi=>match i with|0=>m1|1=>m2|_=>m3) (P:=λi=>match i with|0=>T1|1=>T2|_=>T3) hI.cfg Ui (kp dO) Jyk (by omega) (λi hi=>?_) (λh=>?_) Jq) λe a w2 ⟨q1,q2,q3,q4,q5,q6,q7,q8,q9,q10,yV,EE,yX,T,z1,z2,z3,z4,z5⟩=>⟨.inr q1,λi hi=>?_,q1,yV,EE,yX,T,z1,z2,z3,z4,z5.heap⟩
  .match i,hi with
   |0,_=>exact⟨kp Juo,by grind,λx hx Af=>Xu 1 0 (by omega) (by omega) (by omega) x (pl1 x hx) (XZ x Af)⟩
   |1,_=>exact⟨kp Jup,by grind,λx hx Af=>Xu 2 0 (by omega) (by omega) (by omega) x (pl2 x hx) (XZ x Af)⟩
   |2,_=>exact⟨kp Juq,by grind,λx hx Af=>Xu 3 0 (by omega) (by omega) (by omega) x (pl3 x hx) (XZ x Af)⟩
  .exact(hO 0 (by omega) C (XZ C h)).2.1 a8
  .rcases uK hi with rfl|rfl|rfl|rfl|rfl|rfl|rfl|rfl|rfl
   all_goals simp[*]
 obtain⟨-,h6,EE,Xe,T5,z1,z2,z3,z4,z5⟩:=hq5;have l5:=Jt rfl PU;have Jzb:∀a,c.ba=some a->E5 a.block:=λa e=>LP _ (hP.le _ (hI3.bE a e).1);have hm5:E5 m0:=(EW.slot (i:=6) rfl h6).Jtu;have Jw4:=z1.places rfl PU Jzb hm5;have KI:∀b,E b->E3 b:=λb hb=>CO b (Bo b (AQ b hb));have Xd:∀b,E b->E4 b:=λb hb=>hP.le b (KI b hb);have lt0:∀b,E b->b<n3:=λb hb=>Ze▸hB.lt hb;have n3C:n3<C:=lt2 n3 (Bo _ a3);refine k _ E5 w5' t5 todo m0 ⟨fH,λb hb=>LP b (Xd b hb),λb o hb ho hd=>?_,?_,T5,z1.ke l5 Jw4,?_,z3,λx hx=>⟨Jw4 x hx,λhEx=>?_,?_⟩⟩ h6
 .have s1:=k1 b o hb ho hd;have s2:=k2 b o (AQ b hb) s1 hd;have s3:=k3 b o (Bo b (AQ b hb)) s2 hd;have Uh:b≠C:=by grind
  have s4:w4.heap[b]?=some o:=(hP.keep b (KI b hb) Uh).trans (by grind);have s5:w5.heap[b]?=some o:=(z5 b (Jj s4) λhm=>(hO 0 (by omega) b (XZ b hm)).2.1 (KI b hb)).trans s4;exact l5 b o (LP b (Xd b hb)) s5 hd
 .have q1:KL E w Am:=(KL.of_eq λb hb=>o1 b (lt0 b hb)).trans ((KL.Oq AP).mono AQ);have q2:KL E1 Am Bv:=(KL.keeps Vx λb hb=>CV.lt hb).trans ((KL.Oq Dv).mono Bo);have q3:KL E2 Bv Iy:=(KL.keeps Jrl λb hb=>Dt.lt hb).trans ((KL.Oq CY).mono CO);have q4:KL E Iy w4:=KL.of_eq λb hb=>(hP.keep b (KI b hb) (by grind)).trans (by rw[Uz]);have q5:KL E w4 w5':=(KL.of_eq λb hb=>z5 b (hP.bok.lt (Xd b hb)) λhm=>(hO 0 (by omega) b (XZ b hm)).2.1 (KI b hb)).trans ((KL.Oq PU).mono λb hb=>LP b (Xd b hb));exact q1.trans ((q2.mono AQ).trans ((q3.mono λb hb=>Bo b (AQ b hb)).trans (q4.trans q5)))
 .exact Sum.all hI.tab.ok hI.tab.nodup OO rfl Juo.nodup Jup.nodup Juq.nodup Juo.ok Jup.ok Juq.ok Jyx Jz6 sum3 Xe z2
 .rcases z4 x hx with h|h
  .exact(hO 0 (by omega) x (XZ x h)).2.1 (KI x hEx)
  grind
 .have g1:prog.globals.size<wp.heap.size:=hBp.lt hBp.hnd;have g2:prog.globals.size<w4.heap.size:=hP.bok.lt hP.bok.hnd;rcases z4 x hx with h|h
  .have:=(hO 0 (by omega) x (XZ x h)).2.2;omega
  .omega
end
section
variable{E E':JB}{w w' Qj:JE}{base mo ob l D:Nat}{T9:JC}{most:Int}{L:List QC}
def hl9{i:Nat}(h:i≠18):(C0.hl 17).contains i=false:=by show[18].contains i=false;simp[h]
def QAt.kl{W:JB}(h:QAt base T9 mo ob l D most L w)(hB:BOk C0 S0 W E w)(hW:KL E w w')(hl:E l)(hm:E mo)(ho:E ob)(hD:E D) :
  ∃NT,QAt base NT mo ob l D most L w'/\NT.size=T9.size/\∀i,i≠18->NT[i]?=T9[i]?:=by
 have hk:=hW.ke;obtain⟨T',q1,q2,q3⟩:=hW.lp _ _ hl h.lp;obtain⟨v,hv,Aw⟩:=h.box;refine⟨T',⟨⟨v,hk _ _ ho hv trivial,?_⟩,q1,hk _ _ hm h.mo trivial,hW.df _ hD h.D⟩,q2,λi hi=>q3 i (hl9 hi)⟩;have hE:∀b b',idE E b b'->b=b':=λ_ _ h=>h.1;refine⟨Aw.1,?_⟩;rcases Aw.2 with hn|⟨g,cap,cur,rfl,hb,OJ,rest⟩
 .exact .inl hn
 .have fM:E g:=by obtain⟨o1,o',h1,h2,h3⟩:=hB.1.get (b:=ob) (b':=ob) ⟨rfl,ho⟩;rw[hv]at h1;cases h1;obtain⟨c',FU,rfl,ha,_⟩:=h3;obtain⟨v',h4,r⟩:=ha.Ec (i:=0) rfl;have e:=r.eq hE;subst e;exact r.MQ
  exact .inr ⟨g,cap,cur,rfl,hb,hk _ _ fM OJ trivial,rest⟩
def J01t:Ji C0 S0 68 d38=true:=by kernel_rfl
def J01u:Ji C0 S0 68 RI=true:=by kernel_rfl
def Jo8:GY C0 68:=⟨f68,by kernel_rfl,by kernel_rfl,by kernel_rfl⟩
def Jur:S0.df.contains 68=false:=rfl
def Jgd:C0.hl 68≠[]:=by show[1000]≠[];simp
def Jus{i:Nat}(h:(C0.hl 68).contains i=true):i=1000:=by
 have h':i∈[1000]:=Lj.1 h
 grind
def Jut{pre:List Nat}(h:∀i∈pre,i<10):IC C0 S0 68 La pre=true:=by
 have Ce:IC C0 S0 68 La (List.range 10)=true:=by kernel_rfl
 unfold IC at Ce ⊢
 grind
end
structure NJ(E:JB)(w:JE)(x:Nat)(c:J7)(seed:Int)(h:JJ)(nf:Int)(vm:Nat)(vs:Nat->Option Nat)(S:Nat->List TR):Prop where
 cube:DU w x c seed h nf vm vs
 f7:(vs 7).isSome=true
 tab:∀v b,vs v=some b->TabAt false w c b (S v)
 hok:HOk w
 tE:∀y,VB vs S y->E y/\prog.globals.size<=y
 bE:∀a,c.ba=some a->E a.block/\prog.globals.size<=a.block/\∃arr t,Blk false w a.block arr t/\Plain arr
 xE:E x/\E vm
 cfg:CZ c
 n:∀v b,vs v=some b->(S v).length<=1000
def Qq(E:JB)(w:JE)(base:Nat)(v:JJ)(F:List LW):Prop:=EF w base v F/\∀g n cap,v=JM g n cap->E g/\prog.globals.size<=g
section
variable{E E':JB}{w w':JE}{x:Nat}{c:J7}{seed nf:Int}{h:JJ}{vm base:Nat}{vs:Nat->Option Nat}{S:Nat->List TR}{v:JJ}{F:List LW}
def KE.cube(q:DU w x c seed h nf vm vs)(hx:E x)(hv:E vm)(k:KE E w w'):DU w' x c seed h nf vm vs:=by obtain⟨⟨z,h1,h2⟩,D,⟨es,ck,h3,h4⟩,h5⟩:=q;exact⟨⟨z,k _ _ hx h1 trivial,h2⟩,D,⟨es,ck,k _ _ hv h3 trivial,h4⟩,h5⟩
def NJ.ke(q:NJ E w x c seed h nf vm vs S)(k:KE E w w')(hH:E prog.globals.size)(hE:∀b,E b->E' b):NJ E' w' x c seed h nf vm vs S:=
 ⟨KE.cube q.cube q.xE.1 q.xE.2 k,q.f7,λv b hv=>(q.tab v b hv).ke k λy hy=>(q.tE y ⟨v,b,hv,hy⟩).1,q.hok.ke k hH,λy hy=>⟨hE _ (q.tE y hy).1,(q.tE y hy).2⟩,λa ha=>by obtain⟨h1,h2,arr,t,h3,h4⟩:=q.bE a ha;exact⟨hE _ h1,h2,arr,t,k.blk h1 h3,h4⟩,⟨hE _ q.xE.1,hE _ q.xE.2⟩,q.cfg,q.n⟩
def Qq.ke(q:Qq E w base v F)(k:KE E w w')(hE:∀b,E b->E' b):Qq E' w' base v F:=by
 refine⟨q.1.kept λg n cap e=>?_,λg n cap e=>⟨hE _ (q.2 g n cap e).1,(q.2 g n cap e).2⟩⟩;rcases q.1.shape with⟨rfl,_⟩|⟨g',c',arr,rfl,_,hb,_⟩
 .cases e
 .cases e;obtain⟨z,hz,_⟩:=hb;rw[hz,k _ _ (q.2 _ _ _ rfl).1 hz trivial]
def Qq.vr(q:Qq E w base v F):VR C0 (idE E) v v:=by
 rcases q.1.shape with⟨rfl,_⟩|⟨g',c',arr,rfl,_⟩
 .exact .Jk _ _
 .exact .slice _ _ _ _ ⟨rfl,(q.2 _ _ _ rfl).1⟩
end
section
variable{W E:JB}{w:JE}{x:Nat}{c:J7}{seed nf:Int}{h:JJ}{vm m b1 b2 b3 l fb0:Nat}{vs:Nat->Option Nat}{S:Nat->List TR}{v0:JJ}{F:List LW}{T0:JC}{cs:List Frame}{kk:List Item}{Post:(JB)->JF->JE->Prop}
def Jrm(hB:BOk C0 S0 W E w)(q:NJ E w x c seed h nf vm vs S)(Ns:m<8)(k1:w.heap[b1]?=some (.cells #[pt x] 30))(k2:w.heap[b2]?=some (.cells #[JK m] 3))(k3:w.heap[b3]?=some (.cells #[v0] 54))(hF:Qq E w fb0 v0 F)(hok:FB m F)
  (hE:E b1/\E b2/\E b3) (Ag:T0.size=75) (t1:T0[1]?=some (pt b1)) (t2:T0[2]?=some (pt b2)) (t3:T0[3]?=some (pt b3)) (ht:TmR C0 S0 68 (idE E) T0 T0)
  (kn:∀E' t' w' u b,vs u=some b->Rn m u=false->(∀b,E b->E' b)->BOk C0 S0 W E' w'->KL E w w'->t'.size=75->(∀s,s<4->t'[s]?=T0[s]?)->t'[28]?=some (.map (some b))->t'[29]?=some (JK m)->t'[30]?=some (.func (.func 69) #[] #[pt b3])->TmR C0 S0 68 (idE E') t' t' ->
   Reach prog Post W (G ((Go.Conc.base 68).at ⟨t',[]⟩ (.inRegion La [10,11]::.code RI::kk)) cs) w') :
  Reach prog Post W (G ((Go.Conc.base 68).at ⟨T0,[]⟩ (.code b38::kk)) cs) w:=by
 obtain⟨id,hb⟩:=J01n;rw[hb];refine Reach.idle (λw1=>stepG_seq) rfl λwa ra=>?_;obtain⟨dd,rfl⟩:=ra;refine Reach.piece (b:=Go.Conc.base 68) KY rfl J01t Jo8 Jur Jgd (by simp[Go.Conc.base]) (hB.at dd) ht (Q:=λe t w1=>e=.normal/\(t.size=75/\∀s,s<4->t[s]?=T0[s]?)/\∀b,b<w.heap.size->w1.heap[b]?=w.heap[b]?) (λτ=>?_) (λE1 T1 w1 Am AQ CV AP Az DN=>?_) (λE1 t1 w1 Am todo AQ CV AP Az DN=>by cases DN.1)
 .refine wp_mono (J01o (d:=Jq) (w:=(w.at dd).tp τ 0) (q.cube.kept rfl rfl) Ns ((cell_of (w:=(w.at dd).tp τ 0) k1 0).trans rfl) ((cell_of (w:=(w.at dd).tp τ 0) k2 0).trans rfl) ((cell_of (w:=(w.at dd).tp τ 0) k3 0).trans rfl) (hF.1.kept λ_ _ _ _=>rfl) hok Ag t1 t2 t3) λe a w1 ⟨q1,q2,q3,q4,q5⟩=>⟨.inl q1,λi hi=>?_,q1,⟨q3,q4⟩,λb hb=>q5.heap b hb λh=>h⟩;rw[Jus hi,Cc (by omega),Cc (by omega)]
 obtain⟨-,⟨z1,y1⟩,Dn⟩:=DN;have kl1:KL E w Am:=(KL.of_eq λb hb=>Dn b (hB.lt hb)).trans ((KL.Oq AP).mono AQ);refine Reach.idle (λw1=>stepG_seq) rfl λwa ra=>?_;obtain⟨d2,rfl⟩:=ra;refine Reach.draw rfl (CV.at d2) λn w2 Dt kS Fv=>?_;rw[show C0.P.follows .mixedOrders=true from mixed];obtain⟨pre,QU,Ac,hW⟩:=Jrh (m:=10) (dst:=λi=>i+21) prog (ops:=La) (by kernel_rfl) n;rw[QU,show List.range' 10 (La.size-10)=[10,11]from by kernel_rfl];have YO:KL E w w2:=kl1.trans (KL.of_eq λb hb=>Fv b (AQ b hb));refine Reach.toOps (b:=Go.Conc.base 68) KY rfl (Jut Ac) (by simp) Jo8 Jur Jgd (by simp[Go.Conc.base]) Dt Az (Q:=λt w3=>t.size=75/\(∀s,s<4->t[s]?=T0[s]?)/\(∃u b:Nat,u<8/\vs u=some b/\Rn m u=false/\t[28]?=some (.map (some b)))/\t[29]?=some (JK m)/\t[30]?=some (.func (.func 69) #[] #[pt b3])/\Keeps w2 w3) (λτ=>?_) λE3 t3 w3 Iy CO Hf CY Dx jY=>?_
 .have qk:=q.ke YO.ke hB.hnd λ_ h=>h;refine Jri (w:=w2.tp τ 0) (d:=Jq) (b3:=b3) (T0:=T1) hW (qk.cube.kept rfl rfl) q.f7 (λv b hv=>(qk.tab v b hv).kept λ_ _=>rfl) Ns ((cell_of (w:=w2.tp τ 0) (YO.ke _ _ hE.1 k1 trivial) 0).trans rfl) ((cell_of (w:=w2.tp τ 0) (YO.ke _ _ hE.2.1 k2 trivial) 0).trans rfl) z1 ((y1 1 (by omega)).trans t1) ((y1 2 (by omega)).trans t2) ((y1 3 (by omega)).trans t3) ?_;exactλa w3 a1 a2 a3 a4 a5 a6 a7 a8=>⟨rfl,a1,λi hi Nq=>absurd Nq (by rw[Jus hi];grind),a2,λs hs=>(a3 s (by omega)).trans (y1 s hs),a5,a6,a7,⟨a8.size,λb hb=>a8.heap b hb λh=>h⟩⟩
 obtain⟨q1,q2,q3,q4,q5,q6⟩:=jY;have kl3:KL E w Iy:=YO.trans ((KL.of_eq λb hb=>q6.heap b (Dt.lt (AQ b hb))).trans ((KL.Oq CY).mono λb hb=>CO b (AQ b hb)));obtain⟨u,b,-,hu,fJ,q3⟩:=q3;exact kn E3 t3 Iy u b hu fJ (λb hb=>CO b (AQ b hb)) Hf kl3 q1 q2 q3 q4 q5 Dx
end
def Jyp:∃o,La[10]?=some o/\o.op=.call { callee:=.value (.func 33),args:=#[.tmp 28,.tmp 29,.tmp 30],argTypes:=#[95,3,105] }/\o.guard=none/\o.dst=some 31:=by
 simp only[La,b38,fC,sC,f68,A8]
 simp_all
def Jyq:∃o,La[11]?=some o/\o.op=.assign (.tmp 31)/\o.guard=none/\o.dst=some 6:=by
 simp only[La,b38,fC,sC,f68,A8]
 simp_all
section
variable{W E Fp:JB}{w:JE}{src mk b3:Nat}{S:List TR}{c:J7}{pass:JD->Bool}{t:JC}{cs:List Frame}{kk:List Item}{Post:(JB)->JF->JE->Prop}
theorem Yy.at{W' E':JB}{w':JE}{m:Nat}(h:Yy E w S c mk pass W' E' w' m)(d:Nat):Yy E w S c mk pass W' E' (w'.at d) m:=by obtain⟨h1,h2,h3,h0,T,h4,h5⟩:=h;exact⟨h1.at d,h2,h3.trans (.of_eq λ_ _=>rfl),h0.trans (.of_eq λ_ _=>rfl),T,h4.kept λ_ _=>rfl,h5⟩
def Jrn(hB:BOk C0 S0 W E w)(hI:UF E Fp w src (.cells b3) S c pass)(Ag:t.size=75)(t28:t[28]?=some (.map (some src)))(t29:t[29]?=some (JK mk))(t30:t[30]?=some (.func (.func 69) #[] #[pt b3]))
  (kn:∀W' E' w' m,Yy E w S c mk pass W' E' w' m->Reach prog Post W' (G ((base 68).at ⟨(t.set! 31 (.map (some m))).set! 6 (.map (some m)),[]⟩ (.inRegion La []::.code RI::kk)) cs) w') :
  Reach prog Post W (G ((base 68).at ⟨t,[]⟩ (.inRegion La [10,11]::.code RI::kk)) cs) w:=by
 obtain⟨o,ho,Ar,hg,hd⟩:=Jyp;obtain⟨o2,Zf,jT,Bl,MH⟩:=Jyq;refine Reach.call (B:=base 68) (a:=⟨t,[]⟩) ho (by simp[Region.wanted,hg]) (by simp[base]) Ar (fn:=f33) (c:=b40) (by kernel_rfl) (by kernel_rfl) J00o λd=>?_;have e:(#[Operand.tmp 28,.tmp 29,.tmp 30].map (Act.eval ⟨t,[]⟩))++Array.replicate (f33.ntmps-(#[Operand.tmp 28,.tmp 29,.tmp 30].map (Act.eval ⟨t,[]⟩)).size) JA=R0 src mk (.cells b3):=by
  have h1:#[Operand.tmp 28,.tmp 29,.tmp 30].map (Act.eval ⟨t,[]⟩)=#[.map (some src),JK mk,.func (.func 69) #[] #[pt b3]]:=by
   grind[aQ]
  have hn:f33.ntmps=49:=by kernel_rfl
  rw[h1,hn];show _++Array.replicate 46 JA=_;rw[Jx0];simp only[R0,PV.val,PV.fn,PV.cap,pt,List.append_toArray,G9,Gm]
 rw[e];refine Jo7 (hB.at d) (hI.ke hB.hnd (.of_eq λ_ _=>rfl) λ_ h=>h) λW' E' w' t' todo m hR h6=>?_;refine Reach.leave1 (B:=base 33) (a:=⟨t',[]⟩) rfl rfl (fn:=f33) (by kernel_rfl) (x:=6) (by kernel_rfl) λd2=>?_;have e6:t'.getD 6 JA=.map (some m):=by simp_all
 rw[ho];simp only[Option.bind_some,hd,e6];have hv:((⟨t,[]⟩:Act).put (some 31) (.map (some m))).eval (.tmp 31)=.map (some m):=by simp[Act.put,Act.eval,Bq,Gj,Ag]
 refine J6 (λw1=>UN (v:=.map (some m)) Zf (by simp[Region.wanted,Bl]) (by simp[base]) (by simp[execOp,jT,hv]) (by simp[execOp,jT])) rfl λd3=>?_;rw[MH];have hR':Yy E w S c mk pass W' E' w' m:=⟨hR.bok,hR.le,(KE.of_eq (w:=w) (w1:=w.at d) λ_ _=>rfl).trans hR.ke,(KL.of_eq (w:=w) (w':=w.at d) λ_ _=>rfl).trans hR.kl,hR.tab⟩;exact kn W' E' _ m ((hR'.at d2).at d3)
end
open Go.Maps
section
variable{E:JB}{w w':JE}{base Jxf mo ob l D m0:Nat}{T9:JC}{most:Int}{L:List QC}{T:List TR}{ks:List Je}
def QAt.cellsE(h:QAt base T9 mo ob l D most L w)(hW:WR C0 (okP C0 S0) (idE E) w w')(ho:E ob){q:QC}(hq:q∈L){v:JJ}(hv:v∈q.cells):VR C0 (idE E) v v:=by
 obtain⟨u,hu,Aw⟩:=h.box;have hE:∀b b',idE E b b'->b=b':=λ_ _ h=>h.1;rcases Aw.2 with⟨_,hn⟩|⟨g,cap,cur,rfl,hb,OJ,_,_,_,hx⟩
 .grind
 .have fM:E g:=by obtain⟨o1,o',h1,h2,h3⟩:=hW.get (b:=ob) (b':=ob) ⟨rfl,ho⟩;rw[hu]at h1;cases h1;obtain⟨c',FU,rfl,ha,_⟩:=h3;obtain⟨v',h4,r⟩:=ha.Ec (i:=0) rfl;have e:=r.eq hE;subst e;exact r.MQ
  have hm:v∈cur.toList:=List.mem_of_mem_take (by rw[hx];grind);obtain⟨o1,o',h1,h2,h3⟩:=hW.get (b:=g) (b':=g) ⟨rfl,fM⟩;rw[OJ]at h1;cases h1;obtain⟨c',FU,rfl,ha,_⟩:=h3;obtain⟨i,hi⟩:=List.mem_iff_getElem?.1 hm;rw[Array.getElem?_toList]at hi;obtain⟨v',h4,r⟩:=ha.Ec hi;have e:=r.eq hE
  grind
def SlN.ke{v:JJ}{t:JH}{k:IntKind}{xs:JD}(h:SlN base w v t k xs)(q:KE E w w')(hv:VR C0 (idE E) v v):SlN base w' v t k xs:=by obtain⟨g,cap,rfl,h2,arr,⟨z,h3,h4⟩,h5⟩:=h;exact⟨g,cap,rfl,h2,arr,⟨z,q _ _ hv.MQ h3 trivial,h4⟩,h5⟩
def SlI.ke{v:JJ}{t:JH}{k:IntKind}{xs:JD}(h:SlI false w base v t k xs)(q:KE E w w')(hv:VR C0 (idE E) v v):SlI false w' base v t k xs:=by
 rcases h with h|⟨g,cap,rfl,h2,arr,⟨z,h3,h4⟩,h5⟩
 .exact .inl h
 .exact .inr ⟨g,cap,rfl,h2,arr,⟨z,q _ _ hv.MQ h3 trivial,h4⟩,h5⟩
def IG.wr(h:IG Jxf w T m0 ks L)(hQ:QAt base T9 mo ob l D most L w)(hW:WR C0 (okP C0 S0) (idE E) w w')(ho:E ob):IG Jxf w' T m0 ks L:=by have hk:=Jt rfl hW;refine⟨h.1,λi x q hx hq=>?_⟩;obtain⟨h1,h2,h3,h4⟩:=h.2 i x q hx hq;have hv:∀v∈q.cells,VR C0 (idE E) v v:=λv hv=>hQ.cellsE hW ho (NR hq) hv;exact⟨h1,h2,h3,h4.k.ke hk (hv _ (by simp[QC.cells])),h4.r.ke hk (hv _ (by simp[QC.cells])),h4.h.ke hk (hv _ (by simp[QC.cells])),h4.l.ke hk (hv _ (by simp[QC.cells]))⟩
end
def Jro:∀(l l':List (JD)),l.Nodup->(∀x∈l,x∈l')->l.length<=l'.length
 |[],_,_,_=>Nat.zero_le _
 |a::l,l',hn,hs=>by
  obtain⟨h1,h2⟩:=List.nodup_cons.1 hn;have h3:=Jro l (l'.erase a) h2 λx hx=>(List.mem_erase_of_ne (λe=>h1 (by grind))).2 (hs x (.tail _ hx))
  grind
def Sum.len{c:J7}{T S:List TR}{mk:Nat}{pass:JD->Bool}(hn:(T.map (·.k)).Nodup)(h:Sum c (tm T) (Gg S mk pass)):T.length<=S.length:=by
 have h1:=Jro (T.map (·.k)) ((Gg S mk pass).map (·.1)) hn λx hx=>by
  obtain⟨t,ht,rfl⟩:=AZ.1 hx;have h2:=h t.k;rw[TJ hn ht]at h2;cases hl:(Gg S mk pass).filter λe=>decide (e.1=t.k)with
  |nil=>rw[hl]at h2;cases h2
  |cons e l=>
   have hm:e∈(Gg S mk pass).filter λe=>decide (e.1=t.k):=by grind
   grind
 rw[FQ,FQ]at h1;exact BN h1 (List.length_filterMap_le _ _)
def HIn(M:Int)(B:Bun):Prop:=∀x∈B.h,0<=x/\x<=M
def HIn.mg{c:J7}{M N:Int}{a b:Bun}(ha:HIn M a)(hb:HIn N b)(h:M+N<=9223372036854775807):HIn (M+N) (mg c a b):=by
 intro z hz;obtain⟨x,hx,y,hy,rfl⟩:=mV (show z∈Eo a.h b.h from hz);have h1:=ha x hx;have h2:=hb y hy;have e:wrap64 (x+y)=x+y:=by unfold wrap64;omega
 rw[e];omega
def HIn.fold{c:J7}{M:Int}(hM:0<=M):∀(l:List Bun)(z:Option Bun)(k:Int),(∀b∈l,HIn M b)->0<=k->(∀B,z=some B->HIn k B)->k+l.length*M<=9223372036854775807->∀B,l.foldl (om c) z=some B->HIn (k+l.length*M) B
 |[],z,k,_,_,hz,_,B,hB=>by grind
 |b::l,z,k,hl,hk,hz,hb,B,hB=>by
  have e:k+((b::l).length:Int)*M=(k+M)+(l.length:Int)*M:=by rw[Lh,Int.natCast_succ,Int.add_mul];omega
  have h0:0<=(l.length:Int)*M:=Int.mul_nonneg (by omega) hM;rw[e]at hb ⊢;refine HIn.fold hM l (om c z b) (k+M) (λx hx=>hl x (.tail _ hx)) (by omega) (λB' Gq=>?_) hb B hB;cases z with
  |none=>
   cases Gq;intro x hx;have:=hl b (.head _) x hx;omega
  |some a=>
   cases Gq;exact(hz a rfl).mg (hl b (.head _)) (by omega)
def Sum.hin{c:J7}{T S:List TR}{mk:Nat}{pass:JD->Bool}{M:Int}(hM:0<=M)(hn:(T.map (·.k)).Nodup)(h:Sum c (tm T) (Gg S mk pass))(hS:∀t∈S,HIn M t.B)(hb:S.length*M<=9223372036854775807):∀t∈T,HIn (S.length*M) t.B:=by
 intro t ht;have h2:=h t.k;rw[TJ hn ht]at h2;have hl:(((Gg S mk pass).filter λe:JD × Bun=>decide (e.1=t.k)).map (λe:JD × Bun=>e.2)).length<=S.length:=by rw[FQ];exact BN (List.length_filter_le _ _) (List.length_filterMap_le _ _)
 have hm:((((Gg S mk pass).filter λe:JD × Bun=>decide (e.1=t.k)).map (λe:JD × Bun=>e.2)).length:Int)*M<=S.length*M:=Int.mul_le_mul_of_nonneg_right (by omega) hM;have h3:=HIn.fold (c:=c) hM (((Gg S mk pass).filter λe:JD × Bun=>decide (e.1=t.k)).map (λe:JD × Bun=>e.2)) none 0 (λb hb=>by
  obtain⟨e,he,rfl⟩:=AZ.1 hb;obtain⟨u,hu,Zj⟩:=List.mem_filterMap.1 (Hq.1 he).1
  grind) (by omega) (λB e=>by cases e) (by omega) t.B h2.symm
 intro x hx;have:=h3 x hx;omega
section
variable{E:JB}{w w':JE}{base mo ob l D:Nat}{T9:JC}{most:Int}{L:List QC}
def QAt.wr(h:QAt base T9 mo ob l D most L w)(hW:WR C0 (okP C0 S0) (idE E) w w')(hl:E l)(hm:E mo)(ho:E ob)(hD:E D) :
  ∃NT,QAt base NT mo ob l D most L w'/\NT.size=T9.size/\∀i,i≠18->NT[i]?=T9[i]?:=by
 have hk:=Jt rfl hW;obtain⟨T',q1,q2,q3⟩:=Jk6 hW hl h.lp;obtain⟨v,hv,Aw⟩:=h.box;refine⟨T',⟨⟨v,hk _ _ ho hv trivial,?_⟩,q1,hk _ _ hm h.mo trivial,Jgc hW hD h.D⟩,q2,λi hi=>q3 i (hl9 hi)⟩;have hE:∀b b',idE E b b'->b=b':=λ_ _ h=>h.1;refine⟨Aw.1,?_⟩;rcases Aw.2 with hn|⟨g,cap,cur,rfl,hb,OJ,rest⟩
 .exact .inl hn
 .have fM:E g:=by obtain⟨o1,o',h1,h2,h3⟩:=hW.get (b:=ob) (b':=ob) ⟨rfl,ho⟩;rw[hv]at h1;cases h1;obtain⟨c',FU,rfl,ha,_⟩:=h3;obtain⟨v',h4,r⟩:=ha.Ec (i:=0) rfl;have e:=r.eq hE;subst e;exact r.MQ
  exact .inr ⟨g,cap,cur,rfl,hb,hk _ _ fM OJ trivial,rest⟩
theorem QAt.at(h:QAt base T9 mo ob l D most L w)(hh:w'.heap=w.heap):QAt base T9 mo ob l D most L w':=by
 obtain⟨v,h1,h2⟩:=h.box;have k:∀(b:Nat)(o:Obj),w.heap[b]?=some o->w'.heap[b]?=some o:=λb o hb=>by grind
 exact⟨⟨v,k _ _ h1,YK h2 λg cur hg=>k _ _ hg⟩,k _ _ h.lp,k _ _ h.mo,k _ _ h.D⟩
def KC(E:JB)(base l ob:Nat)(w w':JE):Prop:=∀b o,E b->w.heap[b]?=some o->b≠l->b≠ob->(base<=b->∀cur,o≠.cells cur 38)->Dat o->w'.heap[b]?=some o
end
section
variable{W E:JB}{w:JE}{base mo ob l D mb mm m0:Nat}{T9 t:JC}{c:J7}{T:List TR}{most:Int}{cs:List Frame}{Post:(JB)->JF->JE->Prop}
def Jrp(hc:CZ c)(hB:BOk C0 S0 W E w)(hT:TabAt false w c mm T)(BZ:∀t∈T,∀x∈t.B.h,0<=x)(hTn:T.length<=1000)(hm:w.heap[mb]?=some (.cells #[JK m0] 3))
  (XM:∀x,x=mm\/x∈tpl T->x≠l/\x≠ob/\∀cur,w.heap[x]?≠some (.cells cur 38)) (X6:mb≠l/\mb≠ob) (hQ:QAt base T9 mo ob l D most [] w) (hb:base<=ob)
  (s9:T9.size=33) (t97:T9[7]?=some (pt mo)) (uN:T9[10]?=some (pt ob)) (YC:(T.length:Int)<=most) (hE:E l/\E mo/\E ob/\E D)
  (ht:TmR C0 S0 68 (idE E) t t) (Ag:t.size=75) (t0:t[0]?=some (.func (.yield l) #[] #[])) (t2:t[2]?=some (pt mb)) (t6:t[6]?=some (.map (some mm)))
  (kn:∀E' t' w' NT ks L,(∀b,E b->E' b)->BOk C0 S0 W E' w'->keysOf (T.map TR.kv) ks->IG w.heap.size w' T m0 ks L->QAt base NT mo ob l D most L w'->KC E base l ob w w' ->
   Reach prog Post W (G { (Go.Conc.base 68).at ⟨t',[]⟩ []with mode:=.returning } cs) w') :
  Reach prog Post W (G ((Go.Conc.base 68).at ⟨t,[]⟩ (.inRegion La []::[.code RI])) cs) w:=by
 refine J6 (λw1=>stepG_region_end) rfl λd=>?_;refine Reach.piece (b:=Go.Conc.base 68) (k:=[]) KY rfl J01u Jo8 Jur Jgd (by simp[Go.Conc.base]) (hB.at d) ht (Q:=λe t1 w1=>e=.normal/\∃ks L,keysOf (T.map TR.kv) ks/\IG w.heap.size w1 T m0 ks L/\QAt base T9 mo ob l D most L w1/\KQ base l ob w w1) (λτ=>?_) (λE1 t1 w1 Am AQ CV AP Az DN=>?_) (λE1 t1 w1 Am todo AQ CV AP Az DN=>by cases DN.1)
 .obtain⟨f,rfl⟩:=Jo2 Ag;rw[VO]at *;have e0:f 0=_:=Aa t0;have e2:f 2=_:=Aa t2;have e6:f 6=_:=Aa t6;rw[e0,e2,e6];obtain⟨g9,Xv⟩:=Jx6 s9;rw[ZN]at Xv;have z7:g9 7=pt mo:=by simp_all
  have VK:g9 10=pt ob:=by simp_all
  rw[z7,VK]at Xv;refine wp_mono (Jrg (d:=Jq) (w:=(w.at d).tp τ 0) (base:=base) (mo:=mo) (ob:=ob) (l:=l) (D:=D) (T9:=T9) (most:=most) hc (hT.kept λ_ _=>rfl) BZ hTn hm XM X6 (hQ.at rfl) (by obtain⟨v,hv,_⟩:=hQ.box;have:=Jj hv;show base<=w.heap.size;omega) ⟨g9,Xv⟩ YC) λe a w1 ⟨q1,q2,q3,ks,L,q4,q5,q6,q7⟩=>⟨.inl q1,λi hi=>?_,q1,ks,L,q4,q5,q6,q7⟩;obtain rfl:=Jus hi
  grind
 obtain⟨-,ks,L,q4,q5,q6,q7⟩:=DN;refine J6 (λw1=>stepG_end) rfl λd2=>?_;obtain⟨NT,r1,-,-⟩:=q6.wr AP (AQ _ hE.1) (AQ _ hE.2.1) (AQ _ hE.2.2.1) (AQ _ hE.2.2.2);have hO:=q5.wr q6 AP (AQ _ hE.2.2.1);refine kn E1 t1 _ NT ks L AQ (CV.at d2) q4 ⟨hO.1,λi x q hx hq=>?_⟩ (r1.at rfl) λb o hb ho h1 h2 h3 hd=>?_
 .obtain⟨a1,a2,a3,a4⟩:=hO.2 i x q hx hq;exact⟨a1,a2,a3,a4.tch ⟨Ad _,λ_ _ _=>rfl,rfl,rfl,rfl⟩⟩
 .exact Jt rfl AP b o (AQ b hb) (q7.2 b o ho h1 h2 h3) hd
end
def Blk.Qz{fr:Bool}{w:JE}{b:Nat}{arr:JC}{t:JH}(h:Blk fr w b arr t)(ht:t≠38)(cur:JC):w.heap[b]?≠some (.cells cur 38):=λe=>by
 obtain⟨z,h1,_⟩:=h
 grind
def Row.Qz{fr:Bool}{w:JE}{b:Nat}{t:JH}{k:IntKind}{xs:JD}{cap:Nat}(h:Row fr w b t k xs cap)(ht:t≠38)(cur:JC):w.heap[b]?≠some (.cells cur 38):=by obtain⟨_,h1,_⟩:=h;exact h1.Qz ht cur
def TabAt.Qz{fr:Bool}{w:JE}{c:J7}{m:Nat}{T:List TR}(h:TabAt fr w c m T):∀x,x=m\/x∈tpl T->∀cur,w.heap[x]?≠some (.cells cur 38):=by
 intro x hx cur;rcases hx with rfl|hx
 .obtain⟨L',_,n,es,ck,h1,_⟩:=h.map.own;rw[h1];simp
 .obtain⟨t,ht,hx⟩:=Jo.1 hx;have hb:=h.bun t ht;rcases BP.mem.1 hx with rfl|rfl|rfl|rfl|rfl|rfl|hx
  .exact hb.hd.Qz (by decide) cur
  .exact hb.reg.hd.Qz (by decide) cur
  .exact hb.reg.row.Qz (by decide) cur
  .exact hb.hist.hd.Qz (by decide) cur
  .exact hb.hist.row.Qz (by decide) cur
  .exact hb.least.hd.Qz (by decide) cur
  .obtain⟨c',MG⟩:=hx;have hr:=hb.least.row;rw[MG]at hr;exact hr.1.Qz (by decide) cur
section
variable{W E Fp:JB}{w:JE}{x:Nat}{c:J7}{seed nf:Int}{h:JJ}{vm m b1 b2 b3 l mo ob D qb fb0:Nat}{vs:Nat->Option Nat}{v0:JJ}{F:List LW}{T9 T0:JC}{S:Nat->List TR}{R:List TR->Prop}{pass:JD->Bool}{M most:Int}{cs:List Frame}{Post:(JB)->JF->JE->Prop}
def Juu(hB:BOk C0 S0 W E w)(q:NJ E w x c seed h nf vm vs S)(Ns:m<8)(k1:w.heap[b1]?=some (.cells #[pt x] 30))(k2:w.heap[b2]?=some (.cells #[JK m] 3))(k3:w.heap[b3]?=some (.cells #[v0] 54))(hF:Qq E w fb0 v0 F)(hok:FB m F)
  (hE:E b1/\E b2/\E b3) (hI:∀u b,vs u=some b->UF E Fp w b (.cells b3) (S u) c pass) (hM:0<=M) (hS:∀u b,vs u=some b->(∀t∈S u,HIn M t.B)/\(S u).length*M<=9223372036854775807)
  (hRo:∀u b T,vs u=some b->Rn m u=false->(T.map (·.k)).Nodup->Sum c (tm T) (Gg (S u) m pass)->R T)
  (YC:∀T:List TR,(T.map (·.k)).Nodup->R T->(T.length:Int)<=most)
  (hQ:QAt qb T9 mo ob l D most [] w) (hqb:qb<=ob) (s9:T9.size=33) (t97:T9[7]?=some (pt mo)) (uN:T9[10]?=some (pt ob)) (FW:E l/\E mo/\E ob/\E D)
  (Ag:T0.size=75) (s0:T0[0]?=some (.func (.yield l) #[] #[])) (s1:T0[1]?=some (pt b1)) (s2:T0[2]?=some (pt b2)) (s3:T0[3]?=some (pt b3)) (ht:TmR C0 S0 68 (idE E) T0 T0)
  (kn:∀W' E' t' w' w2 NT T ks L mm,(∀b,E b->E' b)->BOk C0 S0 W' E' w'->TabAt false w2 c mm T->R T->keysOf (T.map TR.kv) ks->IG w2.heap.size w' T m ks L->qb<=w2.heap.size->QAt qb NT mo ob l D most L w'->KC E qb l ob w w' ->
   Reach prog Post W' (G { (Go.Conc.base 68).at ⟨t',[]⟩ []with mode:=.returning } cs) w') :
  Reach prog Post W (G ((Go.Conc.base 68).at ⟨T0,[]⟩ [.code b38]) cs) w:=by
 obtain⟨v0,MK,_⟩:=hQ.box;have LG:b2≠l:=λe=>by rw[e,hQ.lp]at k2;cases k2
 have hmo:b2≠ob:=λe=>by grind
 refine Jrm hB q Ns k1 k2 k3 hF hok hE Ag s1 s2 s3 ht λEa ta wa u bu hu fJ h1 h2 h3 h4 h5 h6 h7 h8 h9=>?_;have hI:=hI u bu hu;obtain⟨hS,hSM⟩:=hS u bu hu;have hIa:=hI.ke hB.hnd h3.ke h1;refine Jrn h2 hIa h4 h6 h7 h8 λW2 E2 wb mm hR=>?_;obtain⟨T,r1,r2,r3,r4⟩:=hR.tab;obtain⟨T9a,qa,sa,za⟩:=hQ.kl hB h3 FW.1 FW.2.1 FW.2.2.1 FW.2.2.2;obtain⟨T9b,qb',sb,zb⟩:=qa.kl h2 hR.kl (h1 _ FW.1) (h1 _ FW.2.1) (h1 _ FW.2.2.1) (h1 _ FW.2.2.2);have hle:∀b,E b->E2 b:=λb hb=>hR.le b (h1 b hb);have hmv:VR C0 (idE E2) (.map (some mm)) (.map (some mm)):=.map ⟨rfl,(r4 mm (.inl rfl)).1⟩;have XD:ob<wb.heap.size:=by obtain⟨v,hv,_⟩:=qb'.box;grind
 refine Jrp (mb:=b2) (mm:=mm) (m0:=m) (T:=T) (T9:=T9b) (most:=most) (base:=qb) (mo:=mo) (ob:=ob) (l:=l) (D:=D) hI.cfg hR.bok r1 (λt ht x hx=>(Sum.hin hM r1.nodup r2 hS hSM t ht x hx).1) (BN (Sum.len r1.nodup r2) hI.n)
  (hR.ke _ _ (h1 _ hE.2.1) (h3.ke _ _ hE.2.1 k2 trivial) trivial) (λy hy=>⟨λe=>(r4 y hy).2.1 (e▸h1 _ FW.1),λe=>(r4 y hy).2.1 (e▸h1 _ FW.2.2.1),r1.Qz y hy⟩) ⟨LG,hmo⟩ qb' hqb ((sb.trans sa).trans s9)
  ((zb 7 (by decide)).trans ((za 7 (by decide)).trans t97)) ((zb 10 (by decide)).trans ((za 10 (by decide)).trans uN)) (YC T r1.nodup (hRo u bu T hu fJ r1.nodup r2)) ⟨hle _ FW.1,hle _ FW.2.1,hle _ FW.2.2.1,hle _ FW.2.2.2⟩
  (((h9.mono (Oj hR.le)).set 31 hmv (λh=>by cases h)).set 6 hmv (λh=>by cases h)) (by simp[h4]) ?_ ?_ ?_ λE3 t3 w3 T9c ks L j1 j2 j3 j4 j5 j6=>?_
 .simpa[Gj]using(h5 0 (by decide)).trans s0
 .simpa[Gj]using(h5 2 (by decide)).trans s2
 .simp[*]
 .exact kn W2 E3 t3 w3 wb T9c T ks L mm (λb hb=>j1 b (hle b hb)) j2 r1 (hRo u bu T hu fJ r1.nodup r2) j3 j4 (by omega) j5 λb o hb ho n1 n2 n3 hd=>j6 b o (hle b hb) (hR.ke _ _ (h1 _ hb) (h3.ke _ _ hb ho hd) hd) n1 n2 n3 hd
end
def b17:Code:=f31.body.getD .skip
def opsOf:Code->Array Oper | .region _ ops _=>ops|_=>#[]
def RZ:Array Oper:=opsOf (fC b17)
def c17:Code:=fC (sC b17)
def UG:Array Oper:=opsOf (fC (sC (sC b17)))
def J01v:b17=.seq (.region 0 RZ false) (.seq c17 (.seq (.region 2 UG false) .ret)):=by kernel_rfl
def J04w:Ji C0 S0 31 c17=true:=by kernel_rfl
def J04x:GY C0 31:=⟨f31,by kernel_rfl,by kernel_rfl,by kernel_rfl⟩
def Jzi:S0.df.contains 31=false:=rfl
def Jyr:C0.hl 31≠[]:=by show[6,10]≠[];simp
def Jzj{i:Nat}(h:(C0.hl 31).contains i=true):i=6\/i=10:=by
 have h':i∈[6,10]:=Lj.1 h
 grind
def Jxg{i:Nat}:(S0.own 31).contains i=false:=rfl
def J01w:f31.body=some b17:=by kernel_rfl
section
variable{w:JE}{x n k:Nat}{m:Nat}{d:Deferred}
def J01x{fb0:Nat}{v0:JJ}{F:List LW}(hF:EF w fb0 v0 F)(wG:F.length<=3):c17.wp prog (λe a w1=>e=.normal/\a.defers=[d]/\∃v' k,a.tmps=#[pt x,JK m,v0,pt n,pt (n+1),JA,.nilFunc,pt k,v0,v',JA]/\w.heap.size<=k/\w1.heap[k]?=some (.cells #[v'] 54)/\EF w1 w.heap.size v' F/\∀b,b<w.heap.size->w1.heap[b]?=w.heap[b]?) ⟨#[pt x,JK m,v0,pt n,pt (n+1),JA,.nilFunc,JA,JA,JA,JA],[d]⟩ w:=by
 have hc:=Jjz hF wG;obtain⟨va,vc,rfl⟩:=hF.slice;simp only[c17,b17,fC,sC,f31,A8]
 go_wp2_with (go_at_call 67;refine hc.mono ?_;rintro e w1 ⟨v',rfl,iL,t1⟩;obtain⟨wa,wc,OV⟩:=iL.slice;subst OV)
 refine⟨_,_,⟨rfl,rfl⟩,t1.size,Ja _,iL.kept λg n cap e=>J8 _ ?_,λb hb=>(J8 _ (DX hb t1.size)).trans (t1.heap b hb λh=>h)⟩;rcases iL.shape with⟨e',_⟩|⟨g',_,_,e',_,hb,_⟩
 .grind
 .rw[e]at e';cases e';exact hb.lt
end
def J01y:∃o,RZ[0]?=some o/\o.op=.box 30 (.tmp 0)/\o.guard=none/\o.dst=some 3:=by
 simp only[RZ,opsOf,b17,fC,f31,A8]
 simp_all
def J01z:∃o,RZ[1]?=some o/\o.op=.box 3 (.tmp 1)/\o.guard=none/\o.dst=some 4:=by
 simp only[RZ,opsOf,b17,fC,f31,A8]
 simp_all
def J020:∃o,RZ[2]?=some o/\o.op=.assign (.const .nilFunc)/\o.guard=none/\o.dst=some 6:=by
 simp only[RZ,opsOf,b17,fC,f31,A8]
 simp_all
def Jys:∃o,UG[0]?=some o/\o.op=.makeFunc (.func 68) #[] #[.tmp 3,.tmp 4,.tmp 7]/\o.guard=none/\o.dst=some 10:=by
 simp only[UG,opsOf,b17,fC,sC,f31,A8]
 simp_all
def Jyt:∃o,UG[1]?=some o/\o.op=.assign (.tmp 10)/\o.guard=none/\o.dst=some 6:=by
 simp only[UG,opsOf,b17,fC,sC,f31,A8]
 simp_all
section
variable{C:Cx}{S:Kn}{W E:JB}{w:JE}{Post:(JB)->JF->JE->Prop}
def Jeb{P:Program}{fn:JG}{a:Act}{o:Oper}{t:JH}{x:Operand}{w:JE}(h:o.op=.box t x):listed P fn a o w=#[]:=by
 unfold listed;rw[show(execOp a.eval o).events P w #[]=#[]from by simp[execOp,h,Instr.box,newVar,newRow]];exact seen_none _ _
theorem _root_.Go.Sim.Reach.alloc(Ae:C.st=false)(hB:BOk C S W E w){g g':JF}{o:Obj}(hr:g.status=.running)(ET:g'.status=.running)(hd:g'.dying=none)(hof:g'.offers=none)
  (ho:Kv C (okP C S) (idE λb=>E b\/b=w.heap.size) w.heap.size o o) (hs:∀w1,w1.heap.size=w.heap.size->stepG C.P true g w1=.go g' (w1.alloc o) #[])
  (kn:∀w',BOk C S W (λb=>E b\/b=w.heap.size) w'->w'.heap.size=w.heap.size+1->(∀b,E b->w'.heap[b]?=w.heap[b]?)->w'.heap[w.heap.size]?=some o->Reach C.P Post W g' w'):Reach C.P Post W g w:=by
 refine Reach.hand (f:=λw1=>w1.alloc o) hB hr ET hd hof (λw1 r1=>⟨#[],hs w1 (r1.same rfl),?_⟩) λw1 w2 r1 r2 hW=>?_
 .refine⟨by simp,λb hb _=>Below.heap_alloc _ _ b hb,rfl,rfl,Ad _,λe he=>by simp at he⟩
 .have AQ:w1.heap.size=w.heap.size:=r1.same rfl;have Ba:∀b,grown E w1 (w1.alloc o) b↔E b\/b=w.heap.size:=λb=>by
   simp only[grown,World.size_alloc,AQ]
   grind
  have hE:∀b,E b->b<w.heap.size:=λb hb=>hB.lt hb;have Dt:=(hB.rely Ae r1).push Ae (o:=o) (by grind) λh=>hW _ h ((Ba _).2 (.inr AQ));rw[AQ]at Dt;have Hf:=((Dt.ext λb=>Ba b).rely Ae r2).ext λb=>(Ba b).symm;refine kn w2 Hf ((r2.same rfl).trans (by simp_all)) (λb hb=>?_) ?_
  .exact(r2.blocks b ((Ba b).2 (.inl hb))).trans ((Below.heap_alloc _ _ b (by grind)).trans (r1.blocks b hb))
  .exact(r2.blocks _ ((Ba _).2 (.inr rfl))).trans (by grind[World.alloc_heap_new])
end
section
variable{W E:JB}{w:JE}{x m:Nat}{b₀:Frame}{a₀:Act}{ops:Array Oper}{i:Nat}{rest:List Nat}{kk:List Item}{cs:List Frame}{Post:(JB)->JF->JE->Prop}
def _root_.Go.Sim.TmR.hole{C:Cx}{S:Kn}{fn:JG}{E:J5}{t:JC}(h:TmR C S fn E t t){i:Nat}(hi:(C.hl fn).contains i=true)(ho:(S.own fn).contains i=false)(v:JJ):TmR C S fn E (t.setIfInBounds i v) (t.setIfInBounds i v):=by
 refine⟨rfl,λj x x' hj h1 h2=>?_,λj x hj hx=>?_⟩
 .have Ap:i≠j:=λe=>by grind
  rw[AV Ap]at h1 h2;exact h.at_ j x x' hj h1 h2
 .have Ap:i≠j:=λe=>by grind
  rw[AV Ap]at hx;exact h.own j x hj hx
def Juv{fb0:Nat}{v0:JJ}{F:List LW}(hB:BOk C0 S0 W E w)(hE:E x)(hF:Qq E w fb0 v0 F)(wG:F.length<=3)
  (kn:∀E' w' b1 b2 b3 v1 fb1,Qq E' w' fb1 v1 F->(∀b,E b->E' b)->BOk C0 S0 W E' w'->KL E w w'->w'.heap[b1]?=some (.cells #[pt x] 30)->w'.heap[b2]?=some (.cells #[JK m] 3)->w'.heap[b3]?=some (.cells #[v1] 54)->E' b1->E' b2->E' b3->w.heap.size<=b3 ->
   Reach prog Post W (G (b₀.at (a₀.put ((ops[i]?).bind (·.dst)) (.func (.func 68) #[] #[pt b1,pt b2,pt b3])) (.inRegion ops rest::kk)) cs) w') :
  Reach prog Post W (G ((base 31).at ⟨#[pt x,JK m,v0,JA,JA,JA,JA,JA,JA,JA,JA],[]⟩ [.code b17]) (b₀.at a₀ (.inRegion ops (i::rest)::kk)::cs)) w:=by
 obtain⟨o0,h0,p0,g0,q0⟩:=J01y;obtain⟨o1,h1,p1,g1,q1⟩:=J01z;obtain⟨o2,h2,p2,g2,q2⟩:=J020;obtain⟨o3,h3,p3,g3,q3⟩:=Jys;obtain⟨o4,h4,p4,g4,q4⟩:=Jyt;rw[J01v];have Bf:TmR C0 S0 31 (idE E) #[pt x,JK m,v0,JA,JA,JA,JA,JA,JA,JA,JA] #[pt x,JK m,v0,JA,JA,JA,JA,JA,JA,JA,JA]:=by
  refine .bK (λv hv=>?_) λ_=>Jxg;simp only[AL,BU,or_false]at hv;rcases hv with rfl|rfl|rfl|rfl|rfl|rfl|rfl|rfl|rfl|rfl|rfl
  .exact .ptr _ _ ⟨rfl,hE⟩
  .exact .int _ _
  .exact hF.vr
  all_goals exact .undef
 refine J6 (λw1=>stepG_seq) rfl λd1=>?_;refine J6 (λw1=>stepG_region) rfl λd2=>?_;rw[show List.range RZ.size=[0,1,2]from by kernel_rfl];have vZ:=(hB.at d1).at d2;generalize hwa:(w.at d1).at d2=wa at vZ ⊢;have Jw5:wa.heap=w.heap:=by rw[<- hwa];rfl
 clear hwa;have hn:wa.heap.size=w.heap.size:=by rw[Jw5]
 generalize Y6:w.heap.size=n at *;refine Reach.alloc (C:=C0) (S:=S0) (o:=.cells #[pt x] 30) (g':=G ((base 31).at ⟨#[pt x,JK m,v0,pt n,JA,JA,JA,JA,JA,JA,JA],[]⟩ (.inRegion RZ [1,2]::[.code (.seq c17 (.seq (.region 2 UG false) .ret))])) (b₀.at a₀ (.inRegion ops (i::rest)::kk)::cs)) rfl vZ rfl rfl rfl rfl ⟨_,_,rfl,.VZ (λv hv=>?_),λh=>(C0.lax rfl _ h).elim,λ_=>⟨rfl,λ_=>rfl⟩⟩ (λw1 BQ=>?_) λw2 Dt Bo oo2 e2=>?_
 .simp only[AL,BU,or_false]at hv;subst hv;exact .ptr _ _ ⟨rfl,.inl hE⟩
 .rw[hn]at BQ;rw[stepG_value (v:=pt n) (w':=w1.alloc (.cells #[pt x] 30)) h0 (by simp[Region.wanted,g0]) (by simp[base]) (by simp[execOp,p0,Act.eval,go_sem,BQ])];rw[Jeb p0,q0];rfl
 rw[hn]at e2 Bo Dt;refine Reach.alloc (C:=C0) (S:=S0) (o:=.cells #[JK m] 3) (g':=G ((base 31).at ⟨#[pt x,JK m,v0,pt n,pt (n+1),JA,JA,JA,JA,JA,JA],[]⟩ (.inRegion RZ [2]::[.code (.seq c17 (.seq (.region 2 UG false) .ret))])) (b₀.at a₀ (.inRegion ops (i::rest)::kk)::cs)) rfl Dt rfl rfl rfl rfl ⟨_,_,rfl,.VZ (λv hv=>?_),λh=>(C0.lax rfl _ h).elim,λ_=>⟨rfl,λ_=>rfl⟩⟩ (λw1 BQ=>?_) λAm CV AQ oo1 e4=>?_
 .simp only[AL,BU,or_false]at hv;subst hv;exact .int _ _
 .rw[Bo]at BQ;rw[stepG_value (v:=pt (n+1)) (w':=w1.alloc (.cells #[JK m] 3)) h1 (by simp[Region.wanted,g1]) (by simp[base]) (by simp[execOp,p1,Act.eval,go_sem,BQ])];rw[Jeb p1,q1];rfl
 rw[Bo]at e4 AQ CV;have a3:(λb=>(E b\/b=n)\/b=n+1) n:=.inl (.inr rfl);have a4:(λb=>(E b\/b=n)\/b=n+1) (n+1):=.inr rfl;have XJ:∀b,E b->(λb=>(E b\/b=n)\/b=n+1) b:=λb hb=>.inl (.inl hb);have c3:Am.heap[n]?=some (.cells #[pt x] 30):=(oo1 _ (.inr rfl)).trans e2;have c4:Am.heap[n+1]?=some (.cells #[JK m] 3):=e4;have kl1:KL E w Am:=KL.of_eq λb hb=>(oo1 _ (.inl hb)).trans ((oo2 b hb).trans (by rw[Jw5]));have Az:TmR C0 S0 31 (idE λb=>(E b\/b=n)\/b=n+1) #[pt x,JK m,v0,pt n,pt (n+1),JA,JA,JA,JA,JA,JA] #[pt x,JK m,v0,pt n,pt (n+1),JA,JA,JA,JA,JA,JA]:=
  ((Bf.mono (Oj XJ)).set 3 (v:=pt n) (v':=pt n) (.ptr _ _ ⟨rfl,a3⟩) λh=>by cases h).set 4 (v:=pt (n+1)) (v':=pt (n+1)) (.ptr _ _ ⟨rfl,a4⟩) λh=>by cases h
 refine J6 (λw1=>UN (v:=.nilFunc) h2 (by simp[Region.wanted,g2]) (by simp[base]) (by simp[execOp,p2,Act.eval]) (by simp[execOp,p2,Act.eval])) rfl λd3=>?_;rw[q2];refine J6 (λw1=>stepG_region_end) rfl λd4=>?_;refine J6 (λw1=>stepG_seq) rfl λd5=>?_;have iL:Qq _ Am fb0 v0 F:=hF.ke kl1.ke XJ;have Bc:=Az.hole (i:=6) rfl Jxg .nilFunc;refine Reach.piece (b:=base 31) KY rfl J04w J04x Jzi Jyr (by simp[base]) (((CV.at d3).at d4).at d5) Bc (Q:=λe t w2=>e=.normal/\∃v' k,t=#[pt x,JK m,v0,pt n,pt (n+1),JA,.nilFunc,pt k,v0,v',JA]/\Am.heap.size<=k/\w2.heap[k]?=some (.cells #[v'] 54)/\EF w2 Am.heap.size v' F/\∀b,b<Am.heap.size->w2.heap[b]?=Am.heap[b]?) (λτ=>?_) (λE2 t2 w2 Bv Bo Dt Dv Bc Qb=>?_) (λE2 t2 w2 Bv todo Bo Dt Dv Bc Qb=>by cases Qb.1)
 .refine wp_mono (J01x (w:=(((Am.at d3).at d4).at d5).tp τ 0) (iL.1.kept λ_ _ _ _=>rfl) wG) λe a w2 ⟨q1,q2,v',k,q3,q4⟩=>⟨.inl q1,λi hi=>?_,q1,v',k,q3,q4⟩;rw[q3];rcases Jzj hi with rfl|rfl<;>rfl
 obtain⟨-,v',k,rfl,nk',BX,hF2,o2'⟩:=Qb;have l2:=Jt rfl Dv;have a7:E2 k:=(Bc.slot (i:=7) rfl rfl).NP;have YO:KL (λb=>(E b\/b=n)\/b=n+1) Am Bv:=(KL.of_eq λb hb=>o2' b (CV.lt hb)).trans ((KL.Oq Dv).mono Bo);have c7:=l2 k (.cells #[v'] 54) a7 BX trivial;have X9:n<=Am.heap.size:=by omega
 have nk:n<=k:=by omega
 have hgn:prog.globals.size<n:=by have h:prog.globals.size<w.heap.size:=hB.lt hB.hnd;omega
 have hF3:Qq E2 Bv Am.heap.size v' F:=by
  have key:∀g q cap,v'=JM g q cap->E2 g/\Am.heap.size<=g/\Bv.heap[g]?=w2.heap[g]?:=λg q cap e=>by
   have eg:E2 g:=by have:=Bc.slot (i:=9) (v:=v') rfl rfl;rw[e]at this;exact this.MQ
   rcases hF2.shape with⟨e',_⟩|⟨g',_,arr,e',BO,hb,_⟩
   .grind
   .rw[e]at e';cases e';obtain⟨z,hz,_⟩:=hb;exact⟨eg,BO,by rw[hz,l2 g _ eg hz trivial]⟩
  exact⟨hF2.kept λg q cap e=>(key g q cap e).2.2,λg q cap e=>⟨(key g q cap e).1,by grind⟩⟩
 refine J6 (λw1=>stepG_seq) rfl λd6=>?_;refine J6 (λw1=>stepG_region) rfl λd7=>?_;rw[show List.range UG.size=[0,1]from by kernel_rfl];refine J6 (λw1=>UN (v:=.func (.func 68) #[] #[pt n,pt (n+1),pt k]) h3 (by simp[Region.wanted,g3]) (by simp[base]) (by simp[execOp,p3,Act.eval];try rfl) (by simp[execOp,p3,Act.eval];try rfl)) rfl λd8=>?_;rw[q3];refine J6 (λw1=>UN (v:=.func (.func 68) #[] #[pt n,pt (n+1),pt k]) h4 (by simp[Region.wanted,g4]) (by simp[base]) (by simp[execOp,p4,Act.eval,Act.put]) (by simp[execOp,p4,Act.eval,Act.put])) rfl λd9=>?_;rw[q4];refine J6 (λw1=>stepG_region_end) rfl λd10=>?_;refine J6 (λw1=>stepG_ret') rfl λd11=>?_;refine Reach.leave1 (B:=base 31) rfl rfl (fn:=f31) (by kernel_rfl) (x:=6) (by kernel_rfl) λd12=>?_;have hBz:=(((((((Dt.at d6).at d7).at d8).at d9).at d10).at d11).at d12);exact kn E2 _ n (n+1) k v' _ (hF3.ke (.of_eq λ_ _=>rfl) λ_ h=>h) (λb hb=>Bo b (XJ b hb)) hBz ((kl1.trans (YO.mono XJ)).trans (KL.of_eq λ_ _=>rfl)) (YO.ke _ _ a3 c3 trivial) (YO.ke _ _ a4 c4 trivial) c7 (Bo _ a3) (Bo _ a4) a7 nk
end
end Go.Sim.Z
end
