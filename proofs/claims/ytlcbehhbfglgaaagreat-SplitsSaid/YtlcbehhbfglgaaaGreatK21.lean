/- Proved here: laws for the claim. No conditions. -/
import Derived.Test.YtlcbehhbfglgaaaGreatK13
import Derived.Test.YtlcbehhbfglgaaaGreatK18
import Derived.Test.YtlcbehhbfglgaaaGreatK19
import Derived.Test.YtlcbehhbfglgaaaGreatK20
set_option linter.all false
set_option maxRecDepth 100000
open Go.Proofs.Tryz
namespace Go.Sim.Z
open Go Go.Proofs Go.Conc Go.ConcN Go.RowKit Go.Conc.Lib Go.ConcR.Gen Go.ConcN.Gen
open Go.ConcR (KK wgBlock WgAt stA smA rd wr mk Payload DC0)
theorem nt62:f62.ntmps=117:=by kernel_rfl
theorem nt66:f66.ntmps=84:=by kernel_rfl
theorem Jyh:Array.replicate 115 JA=#[JA,JA,JA,JA,JA,JA,JA,JA,JA,JA,JA,JA,JA,JA,JA,JA,JA,JA,JA,JA,JA,JA,JA,JA,JA,JA,JA,JA,JA,JA,JA,JA,JA,JA,JA,JA,JA,JA,JA,JA,JA,JA,JA,JA,JA,JA,JA,JA,JA,JA,JA,JA,JA,JA,JA,JA,JA,JA,JA,JA,JA,JA,JA,JA,JA,JA,JA,JA,JA,JA,JA,JA,JA,JA,JA,JA,JA,JA,JA,JA,JA,JA,JA,JA,JA,JA,JA,JA,JA,JA,JA,JA,JA,JA,JA,JA,JA,JA,JA,JA,JA,JA,JA,JA,JA,JA,JA,JA,JA,JA,JA,JA,JA,JA,JA]:=by kernel_rfl
theorem J03t:Array.replicate 83 JA=#[JA,JA,JA,JA,JA,JA,JA,JA,JA,JA,JA,JA,JA,JA,JA,JA,JA,JA,JA,JA,JA,JA,JA,JA,JA,JA,JA,JA,JA,JA,JA,JA,JA,JA,JA,JA,JA,JA,JA,JA,JA,JA,JA,JA,JA,JA,JA,JA,JA,JA,JA,JA,JA,JA,JA,JA,JA,JA,JA,JA,JA,JA,JA,JA,JA,JA,JA,JA,JA,JA,JA,JA,JA,JA,JA,JA,JA,JA,JA,JA,JA,JA,JA]:=by kernel_rfl
theorem Jqa(Wg:Nat)(cs:List Frame):J7b Wg cs (λf=>tN link Wg f cs):=by
 refine⟨λNext mT a₀ k₀ w hW hN=>?_,?_⟩
 ·have h:=Jw4 (Wg:=Wg) (Next:=Next) (b₀:=base 40) (a₀:=a₀) (ops₀:=q7) (i₀:=0) (rest₀:=[]) (k₀:=k₀) (cs:=cs) (mT:=mT) wgLib hN w hW;rw[nt62,show 117-2=115 from rfl,Jyh];simp only[List.append_toArray,Hr,Gm];exact h
 ·rintro f w hW ⟨a₀,k₀,rfl⟩;have h:=Jna (Wg:=Wg) (b₀:=base 40) (a₀:=a₀) (ops₀:=q10) (i₀:=0) (rest₀:=[]) (k₀:=k₀) (cs:=cs) wgLib w hW;rw[nt66,show 84-1=83 from rfl,J03t];simp only[List.append_toArray,Hr,Gm];exact h
theorem Jsp(Wg:Nat)(cs:List Frame):Jj2 Wg cs (λf=>tN link Wg f cs):=by
 refine⟨?_,λFin a₀ k₀ hN g w hA=>?_⟩
 ·rintro f g w ⟨T,rfl,_⟩;rfl
 ·exact Jn9 (Wg:=Wg) (b₀:=base 40) (a₀:=a₀) (ops₀:=q10) (i₀:=0) (rest₀:=[]) (k₀:=k₀) (cs:=cs) (mT:=0) wgLib hN g w hA
end Go.Sim.Z
namespace Go.Sim.Z
open Go Go.Proofs Go.RowKit Go.Conc
theorem Jnb{i:Nat}(h:(C0.hl 40).contains i=true):i=9\/i=10\/i=18\/i=19\/i=20\/i=21\/i=22\/i=23\/i=24:=by have h':i∈[9,10,18,19,20,21,22,23,24]:=Nh.1 h;simpa using h'
theorem J03u{i:Nat}(h:(C0.hl 40).contains i=false):i≠9/\i≠10/\(i<18\/24<i):=by
 have h':i∉[9,10,18,19,20,21,22,23,24]:=λhm=>by have:(C0.hl 40).contains i=true:=Nh.2 hm;rw[h]at this;cases this
 simp only[AO,C9,or_false,not_or]at h';omega
theorem Jbb:C0.hl 40≠[]:=by show[9,10,18,19,20,21,22,23,24]≠[];simp
theorem Jnc:S0.df.contains 40=false:=rfl
theorem Jut{i:Nat}:(S0.own 40).contains i=false:=rfl
theorem _root_.Go.Sim.TmR.fV{C:Cx}{S:Kn}{fn:JG}{E:JB}{T:JC}(h:∀v∈T.toList,VR C (idE E) v v)(ho:∀i,(S.own fn).contains i=false):TmR C S fn (idE E) T T:=
 ⟨rfl,λi x x' _ h1 h2=>by rw[h1]at h2;cases h2;exact h x (Array.mem_toList_iff.2 (IX h1)),λi x hi=>by rw[ho i]at hi;cases hi⟩
theorem Juu{H:Array Obj}{n:Nat}(h:H.size=n)(a b c:Obj):(((H.push a).push b).push c)[n]?=some a/\(((H.push a).push b).push c)[n+1]?=some b/\(((H.push a).push b).push c)[n+2]?=some c:=by
 subst h;refine⟨?_,?_,?_⟩
 ·rw[Mc,if_neg (by simp;omega),Mc,if_neg (by simp),Mc,if_pos rfl]
 ·rw[Mc,if_neg (by simp),Mc,if_pos (by simp)]
 ·rw[Mc,if_pos (by simp)]
section
variable{W E Fp:JB}{w:JE}{src mk fb:Nat}{S:List TR}{c:J8}{pass:JD->Bool}{cs:List Frame}{kk:List Item}{Post:(JB)->JF->JE->Prop}
structure Xy(E Fp:JB)(w:JE)(src fb:Nat)(S:List TR)(c:J8)(pass:JD->Bool):Prop where
 h:HOk w
 tab:TabAt false w c src S
 tE:∀x,x=src\/x∈tpl S->E x/\prog.globals.size<=x
 bE:∀a,c.ba=some a->E a.block/\prog.globals.size<=a.block/\Shd Fp w a.block
 fF:Fp fb
 fE:∀b,Fp b->E b/\prog.globals.size<=b/\Shd Fp w b
 pass:Jpm Fp w fb pass
 cfg:Jw c
 n:S.length<=1000
theorem Shd.mono{F F':JB}{b:Nat}(h:Shd F w b)(hs:∀b,F b->F' b):Shd F' w b:=by obtain⟨o,h1,h2⟩:=h;exact⟨o,h1,λX Sh hX=>h2 X Sh λb hb=>hX b (hs b hb)⟩
theorem Xy.ke{E':JB}{w':JE}(h:Xy E Fp w src fb S c pass)(hH:E prog.globals.size)(k:KE E w w')(hE:∀b,E b->E' b):Xy E' Fp w' src fb S c pass:=
 ⟨h.h.ke k hH,h.tab.ke k λx hx=>(h.tE x hx).1,λx hx=>⟨hE _ (h.tE x hx).1,(h.tE x hx).2⟩,λa ha=>⟨hE _ (h.bE a ha).1,(h.bE a ha).2.1,k.shd (h.bE a ha).1 (h.bE a ha).2.2⟩,h.fF,
  λb hb=>⟨hE _ (h.fE b hb).1,(h.fE b hb).2.1,k.shd (h.fE b hb).1 (h.fE b hb).2.2⟩,λw2 hw=>h.pass w2 λa v hf hv=>hw a v hf (k.cell (h.fE _ hf).1 hv),h.cfg,h.n⟩
structure aY(E:JB)(w:JE)(S:List TR)(c:J8)(mk:Nat)(pass:JD->Bool)(W' E':JB)(w':JE)(m:Nat):Prop where
 bok:BOk C0 S0 W' E' w'
 le:∀b,E b->E' b
 ke:KE E w w'
 kl:KL E w w'
 tab:∃T,TabAt false w' c m T/\Sum c (tm T) (EG S mk pass)/\T.length<=4016/\∀x,x=m\/x∈tpl T->E' x/\¬E x
set_option maxHeartbeats 1000000 in
theorem Jnd(hB:BOk C0 S0 W E w)(hI:Xy E Fp w src fb S c pass)
  (k:∀W' E' w' t' todo m,aY E w S c mk pass W' E' w' m->t'[6]?=some (.map (some m))->Reach prog Post W' (G { (base 40).at ⟨t',[]⟩ todo with mode:=.returning } cs) w') :
  Reach prog Post W (G ((base 40).at ⟨R0 src mk fb,[]⟩ (.code b40::kk)) cs) w:=by
 have L8:TmR C0 S0 40 (idE E) (R0 src mk fb) (R0 src mk fb):=by
  refine .fV (λv hv=>?_) λ_=>Jut;have e:R0 src mk fb=#[.map (some src),.int .i64 mk,.func (.func 42) #[] #[.pointer (some ⟨fb,0,none⟩)]]++Array.replicate 46 JA:=by rw[Jue];simp only[R0,List.append_toArray,Hr,Gm]
  rw[e,Array.toList_append,FY]at hv;rcases hv with hv|hv
  ·simp only[AO,C9,or_false]at hv;rcases hv with rfl|rfl|rfl
   ·exact .map ⟨rfl,(hI.tE _ (.inl rfl)).1⟩
   ·exact .int _ _
   ·refine .func (.func (by show List.contains _ _=true;kernel_rfl)) rfl (λi x x' h=>by simp at h) ⟨rfl,by simp⟩ λi x x' h1 h2=>?_;rw[h1]at h2;cases h2;cases i with
    |zero=>simp at h1;subst h1;exact .ptr _ _ ⟨rfl,(hI.fE _ hI.fF).1⟩
    |succ i=>simp at h1
  ·simp only[Array.toList_replicate]at hv;rw[List.eq_of_mem_replicate hv];exact .undef
 rw[Jxe];refine Reach.idle (λw1=>stepG_seq) rfl λwa ra=>?_;obtain⟨d,rfl⟩:=ra;have hBa:=hB.at d;have jF:prog.globals.size<w.heap.size:=hB.lt hB.hnd;refine Reach.piece (b:=base 40) MZ rfl Jxg zF Jnc Jbb (by simp[base]) hBa L8 (Q:=λe t w1=>e=.normal/\t=R1 src mk fb w.heap.size (w.heap.size+1) (w.heap.size+2)/\w1.heap=((w.heap.push (.cells #[.map (some src)] 70)).push (.cells #[.int .i64 mk] 3)).push (.cells #[.func (.func 42) #[] #[.pointer (some ⟨fb,0,none⟩)]] 111)) (λτ=>?_) (λE1 t1 w1 Ap AU Cj AV A8 Eh=>?_) (λE1 t1 w1 Ap todo AU Cj AV A8 Eh=>by cases Eh.1)
 ·refine wp_mono Js1 λe a w1 ⟨q1,q2,q3⟩=>⟨.inl q1,λi hi=>?_,q1,q2,q3⟩;rw[q2];rcases Jnb hi with rfl|rfl|rfl|rfl|rfl|rfl|rfl|rfl|rfl<;>rfl
 obtain⟨-,rfl,Dw⟩:=Eh;generalize WW:w.heap.size=n3 at *;have l1:=Jy rfl AV;have a3:E1 n3:=(A8.slot (i:=3) rfl rfl).OX;have a4:E1 (n3+1):=(A8.slot (i:=4) rfl rfl).OX;have a5:E1 (n3+2):=(A8.slot (i:=5) rfl rfl).OX;have o1:∀b,b<n3->w1.heap[b]?=w.heap[b]?:=λb hb=>by rw[Dw,Array.getElem?_push_lt (by simp;omega),Array.getElem_push_lt (by simp;omega),Array.getElem_push_lt (by omega),BJ (by omega)]
 obtain⟨p3,p4,p5⟩:=Juu WW (.cells #[.map (some src)] 70) (.cells #[.int .i64 mk] 3) (.cells #[.func (.func 42) #[] #[.pointer (some ⟨fb,0,none⟩)]] 111);rw[<- Dw]at p3 p4 p5;have c3:=l1 _ _ a3 p3 trivial;have c4:=l1 _ _ a4 p4 trivial;have c5:=l1 _ _ a5 p5 trivial;have k1:KE E w Ap:=λb o hb ho hd=>l1 b o (AU b hb) ((o1 b (WW▸Ji ho)).trans ho) hd;have hI1:=hI.ke hB.hnd k1 AU;refine Reach.idle (λw1=>stepG_seq) rfl λwa ra=>?_;obtain⟨d2,rfl⟩:=ra;refine Reach.piece (b:=base 40) MZ rfl Jxh zF Jnc Jbb (by simp[base]) (Cj.at d2) A8 (Q:=λe t w2=>e=.normal/\∃v ks n7,t=R2a src mk fb n3 (n3+1) (n3+2) v n7/\keysOf (S.map TR.kv) ks/\dP w2 Ap.heap.size v ks/\Ap.heap.size<=n7/\w2.heap[n7]?=some (.cells #[v] 88)/\Keeps Ap w2) (λτ=>?_) (λE2 t2 w2 BD Bl D5 DN Bc Qs=>?_) (λE1 t1 w1 Ap todo AU Cj AV A8 Eh=>by cases Eh.1)
 ·have hm:CJ ((Ap.at d2).tp τ 0) src (S.map TR.kv):=hI1.tab.map.kept rfl;refine wp_mono (Js2 (mk:=mk) (fb:=fb) (n4:=n3+1) (n5:=n3+2) (d:=Jp) hm (by simp;have:=hI.n;omega) (n3:=n3) ((cell_of (w:=(Ap.at d2).tp τ 0) c3 0).trans rfl)) λe a w2 ⟨q1,v,ks,n7,q2,q3,q4,q5,q6,q7⟩=>⟨.inl q1,λi hi=>?_,q1,v,ks,n7,q2,q3,q4,q5,q6,⟨q7.size,q7.heap⟩⟩;rw[q2];rcases Jnb hi with rfl|rfl|rfl|rfl|rfl|rfl|rfl|rfl|rfl<;>rfl
 obtain⟨-,v,ks,n7,rfl,Ky,Aj,hn7,hk7,WY⟩:=Qs;obtain⟨ka,kc,Nz,rfl,GN⟩:=Aj.at;have l2:=Jy rfl DN;have a7:E2 n7:=(Bc.slot (i:=7) rfl rfl).OX;have aka:∀a,ka=some a->E2 a.block:=λa e=>by have:=Bc.slot (i:=17) (v:=.slice ka ks.length kc) rfl rfl;rw[e]at this;exact this.Ik
 have k2:KE E1 Ap BD:=.step WY l2 Bl;have hI2:=hI1.ke Cj.hnd k2 Bl;have d3:=k2 _ _ a3 c3 trivial;have d4:=k2 _ _ a4 c4 trivial;have d5:=k2 _ _ a5 c5 trivial;have d7:=l2 _ _ a7 hk7 trivial;have hka2:=Nz.ke l2 aka;refine Reach.idle (λw1=>stepG_seq) rfl λwa ra=>?_;obtain⟨d2',rfl⟩:=ra;refine Reach.piece (b:=base 40) MZ rfl Jxi zF Jnc Jbb (by simp[base]) (D5.at d2') Bc (Q:=λe t w3=>e=.normal/\t=R3a src mk fb n3 (n3+1) (n3+2) (.slice ka ks.length kc) n7 BD.heap.size/\w3.heap=BD.heap.push (.cells #[.map none,.map none,.map none,.map none] 138)) (λτ=>?_) (λE3 t3 w3 Gx CU Ij Dt DR Wp=>?_) (λE1 t1 w1 Ap todo AU Cj AV A8 Eh=>by cases Eh.1)
 ·refine wp_mono Js3 λe a w3 ⟨q1,q2,q3⟩=>⟨.inl q1,λi hi=>?_,q1,q2,q3⟩;rw[q2];rcases Jnb hi with rfl|rfl|rfl|rfl|rfl|rfl|rfl|rfl|rfl<;>rfl
 obtain⟨-,rfl,ZI⟩:=Wp;generalize hC:BD.heap.size=C at *;have l3:=Jy rfl Dt;have a8:E3 C:=(DR.slot (i:=8) rfl rfl).OX;have Jqb:Keeps BD w3:=⟨by rw[ZI];simp,λb hb=>by rw[ZI,Array.getElem?_push_lt hb,BJ hb]⟩;have k3:KE E2 BD Gx:=.step Jqb l3 CU;have hI3:=hI2.ke D5.hnd k3 CU;have e3:=k3 _ _ (Bl _ a3) d3 trivial;have e4:=k3 _ _ (Bl _ a4) d4 trivial;have e5:=k3 _ _ (Bl _ a5) d5 trivial;have e7:=k3 _ _ a7 d7 trivial;have Jyi:=hka2.ke k3 aka;have e8:=l3 C (.cells #[.map none,.map none,.map none,.map none] 138) a8 (by rw[ZI,<- hC];simp) trivial;have lt2:∀b,E2 b->b<C:=λb hb=>hC▸D5.lt hb;refine Reach.idle (λw1=>stepG_seq) rfl λwa ra=>?_;obtain⟨Wq,rfl⟩:=ra;refine Reach.idle (λw1=>stepG_region) rfl λwa ra=>?_;obtain⟨oP,rfl⟩:=ra;rw[show List.range q3.size=[0]from rfl];have hBp:=(Ij.at Wq).at oP;have UG:((Gx.at Wq).at oP).heap=Gx.heap:=rfl;generalize(Gx.at Wq).at oP=wp at hBp UG ⊢;have Uy:Xy E3 Fp wp src fb S c pass:=hI3.ke Ij.hnd (.of_eq λb _=>by rw[UG]) λ_ h=>h;have cell:∀{b i:Nat}{arr:JC}{t:JH}{v:JJ},Gx.heap[b]?=some (.cells arr t)->arr[i]?=some v->wp.cell? ⟨b,i,none⟩=some v:=λh hv=>(cell_of (UG▸h) _).trans hv;have gC:∀b,n3<=b->prog.globals.size<=b:=λb hb=>by omega
 have n31:n3<=Ap.heap.size:=Nat.le_of_lt (Cj.lt a3);have hkg:∀a,ka=some a->n3<=a.block:=λa e=>by have:=(GN a e).1;omega
 let F:JB:=λb=>b=prog.globals.size\/b=n7\/b=n3+2\/b=n3+1\/b=n3\/(∃a,ka=some a/\b=a.block)\/(b=src\/b∈tpl S)\/(∃a,c.ba=some a/\b=a.block)\/Fp b
 have Jyj:∀b,F b->E2 b:=by
  rintro b (rfl|rfl|rfl|rfl|rfl|⟨a,e,rfl⟩|h|⟨a,e,rfl⟩|h)
  ·exact D5.hnd
  ·exact a7
  ·exact Bl _ a5
  ·exact Bl _ a4
  ·exact Bl _ a3
  ·exact aka a e
  ·exact(hI2.tE b h).1
  ·exact(hI2.bE a e).1
  ·exact(hI2.fE b h).1
 have FT:∀x,x=src\/x∈tpl S->F x:=λx h=>.inr (.inr (.inr (.inr (.inr (.inr (.inl h))))));have Fb:∀a,c.ba=some a->F a.block:=λa e=>.inr (.inr (.inr (.inr (.inr (.inr (.inr (.inl ⟨a,e,rfl⟩)))))));have FF:∀b,Fp b->F b:=λb h=>.inr (.inr (.inr (.inr (.inr (.inr (.inr (.inr h)))))));have blk:∀{b:Nat}{arr:JC}{t:JH},Gx.heap[b]?=some (.cells arr t)->Blk false wp b arr t:=λh=>⟨(0,0),UG▸h,λ_=>rfl⟩;have hRF:RF F wp c n7 (n3+2) (n3+1) n3 ka kc ks fb mk src S pass:=by
  refine⟨cell e7 rfl,cell e5 rfl,cell e4 rfl,cell e3 rfl,Jyi.ke (E:=λ_=>True) (.of_eq λb _=>by rw[UG]) λ_ _=>trivial,Uy.tab,λw2 hw=>Uy.pass w2 λa v hf hv=>hw a v (FF _ hf) hv,
   .inr (.inl rfl),.inr (.inr (.inl rfl)),.inr (.inr (.inr (.inl rfl))),.inr (.inr (.inr (.inr (.inl rfl)))),.inl rfl,λa e=>.inr (.inr (.inr (.inr (.inr (.inl ⟨a,e,rfl⟩))))),FT,Fb,?_,hI.cfg,?_,λx hx=>?_⟩
  ·rintro b (rfl|rfl|rfl|rfl|rfl|⟨a,e,rfl⟩|h|⟨a,e,rfl⟩|h)
   ·obtain⟨arr,t,q1,q2⟩:=Uy.h;exact⟨Ad _,.plain q1 q2⟩
   ·refine⟨gC _ (by omega),.of_cells (blk e7) λX Sh hX v hv=>?_⟩;simp only[AO,C9,or_false]at hv;subst hv;cases hka':ka with
    |none=>exact .Jo _ _
    |some a=>exact .slice _ _ _ _ ⟨rfl,hX _ (.inr (.inr (.inr (.inr (.inr (.inl ⟨a,hka',rfl⟩))))))⟩
   ·refine⟨gC _ (by omega),.of_cells (blk e5) λX Sh hX v hv=>?_⟩;simp only[AO,C9,or_false]at hv;subst hv;refine .func (.func (by show List.contains _ _=true;kernel_rfl)) rfl (λi x x' h=>by simp at h) ⟨rfl,by simp⟩ λi x x' h1 h2=>?_;rw[h1]at h2;cases h2;cases i with
    |zero=>simp at h1;subst h1;exact .ptr _ _ ⟨rfl,hX _ (FF _ hI.fF)⟩
    |succ i=>simp at h1
   ·refine⟨gC _ (by omega),.of_cells (blk e4) λX Sh hX v hv=>?_⟩;simp only[AO,C9,or_false]at hv;subst hv;exact .int _ _
   ·refine⟨gC _ (by omega),.of_cells (blk e3) λX Sh hX v hv=>?_⟩;simp only[AO,C9,or_false]at hv;subst hv;exact .map ⟨rfl,hX _ (FT _ (.inl rfl))⟩
   ·refine⟨gC _ (hkg a e),?_⟩;rcases Jyi with⟨e',_⟩|⟨g,cur,q1,q2,q3,q4,q5,q6⟩
    ·rw[e']at e;cases e
    ·rw[q1]at e;cases e;exact .plain (q2.kept (by rw[UG])) q6
   ·exact⟨(Uy.tE b h).2,Shd.tab Uy.tab FT Fb b h⟩
   ·exact⟨(Uy.bE a e).2.1,(Uy.bE a e).2.2.mono FF⟩
   ·exact⟨(Uy.fE b h).2.1,(Uy.fE b h).2.2.mono FF⟩
  ·have:=Ky.length;simp only[Et]at this;have:=hI.n;omega
  ·obtain⟨t,_,_,h⟩:=Ky.row Uy.tab.nodup hx;exact⟨_,h⟩
 refine(Jke (R2:=RC c S mk pass ks) (λWg=>Jqa Wg cs) (λWg=>Jsp Wg cs) hBp (T:=R3a src mk fb n3 (n3+1) (n3+2) (.slice ka ks.length kc) n7 C) rfl rfl rfl rfl rfl rfl a8 ⟨_,UG▸e8,rfl⟩ (F:=F) (λb hb=>⟨CU b (Jyj b hb),λe=>by have:=lt2 b (Jyj b hb);omega⟩) hRF.work
  (λw' i Sh E2 w2 r r' hi hF hs hW hv hr=>RC.J03n hs hW hv hr)).bind ?_
 rintro W4 g4 w4 ⟨Wg,T4,E4,rfl,hT4,rfl,hP⟩;refine Reach.idle (λw1=>stepG_region_end) rfl λwa ra=>?_;obtain⟨d5',rfl⟩:=ra;obtain⟨cc,O,IE,Gj,Ym,hO,KG⟩:=hP.parts;obtain⟨r0,NJ,_,m0,T0,rfl,lI,sum0,Zw,len0⟩:=KG 0 (by omega);obtain⟨r1,O3,_,m1,T1,rfl,zB,sum1,pl1,len1⟩:=KG 1 (by omega);obtain⟨r2,BU,_,m2,T2,rfl,Jsr,sum2,pl2,len2⟩:=KG 2 (by omega);obtain⟨r3,IJ,_,m3,T3,rfl,Jss,sum3,pl3,len3⟩:=KG 3 (by omega);have ecc:cc=#[.map (some m0),.map (some m1),.map (some m2),.map (some m3)]:=by
  apply Nv;intro i
  match i with
  |0=>exact NJ
  |1=>exact O3
  |2=>exact BU
  |3=>exact IJ
  |i+4=>rw[DK (by omega),DK (by simp)]
 subst ecc;have hT4m:TmR C0 S0 40 (idE E4) T4 T4:=by refine⟨rfl,λi x x' hi h1 h2=>?_,λi x hi=>by rw[Jut]at hi;cases hi⟩;rw[h1]at h2;cases h2;obtain⟨h9,CQ,QH⟩:=J03u hi;rw[hT4.low i QH h9 CQ]at h1;exact(DR.slot hi h1).mono (Ox hP.le)
 have hl4:ks.length<=1000:=hRF.kn;have hC8:=hT4.C8;have hsz4:=hT4.size;clear hT4;obtain⟨x0,x1,x2,x3,x4,x5,x6,x7,x8,x9,XU,aO,Z9,ZN,bH,ZX,cO,aK,Yz,UH,Y6,XK,X9,Ve,Vp,ZA,dA,aI,aV,dG,aF,bQ,ZV,aN,ZR,bU,dK,bD,aC,ZE,ZH,Z5,ZB,aA,aX,ZU,ZW,cZ,aJ,rfl⟩:=J03p hsz4;obtain rfl:x8=.pointer (some ⟨C,0,none⟩):=by simpa[ptr]using hC8
 refine Reach.piece (b:=base 40) MZ rfl Jxj zF Jnc Jbb (by simp[base]) (hP.bok.at d5') hT4m (Q:=λe t w5=>e=.ret/\t[6]?=some (.map (some m0))/\∃EE,EE.Perm (Ie T1++Ie T2++Ie T3)/\∃T,TabAt false w5 c m0 T/\Sum c (tm T) (ents S mk pass (Df 0 ks.length ks)++EE)/\T.length<=4016/\(∀x,x=m0\/x∈tpl T->(x=m0\/x∈tpl T0)\/w4.heap.size<=x)/\∀b,b<w4.heap.size->¬(b=m0\/b∈tpl T0)->w5.heap[b]?=w4.heap[b]?) (λτ=>?_) (λE1 t1 w1 Ap AU Cj AV A8 Eh=>by cases Eh.1) (λE5 t5 w5 w5' todo MN TU OD F8 hq5=>?_)
 ·have kp:∀{m:Nat}{T:List TR},TabAt false w4 c m T->TabAt false ((w4.at d5').tp τ 0) c m T:=λh=>h.kept λ_ _=>rfl;refine wp_mono (Jvx (x8:=JA) (w:=(w4.at d5').tp τ 0) (C:=C) (mp:=λi=>match i with|0=>m1|1=>m2|_=>m3) (P:=λi=>match i with|0=>T1|1=>T2|_=>T3) hI.cfg IE (kp lI) sum0 (by omega) (λi hi=>?_) (λh=>?_) Jp) λe a w2 ⟨q1,q2,q3,q4,q5,q6,q7,q8,q9,q10,XZ,EE,q12,T,z1,z2,z3,z4,z5⟩=>⟨.inr q1,λi hi=>?_,q1,XZ,EE,q12,T,z1,z2,z3,z4,z5.heap⟩
  ·match i,hi with
   |0,_=>exact⟨kp zB,by show T1.length<=1004;omega,λx hx Ag=>Ym 1 0 (by omega) (by omega) (by omega) x (pl1 x hx) (Zw x Ag)⟩
   |1,_=>exact⟨kp Jsr,by show T2.length<=1004;omega,λx hx Ag=>Ym 2 0 (by omega) (by omega) (by omega) x (pl2 x hx) (Zw x Ag)⟩
   |2,_=>exact⟨kp Jss,by show T3.length<=1004;omega,λx hx Ag=>Ym 3 0 (by omega) (by omega) (by omega) x (pl3 x hx) (Zw x Ag)⟩
  ·exact(hO 0 (by omega) C (Zw C h)).2 a8
  ·rcases Jnb hi with rfl|rfl|rfl|rfl|rfl|rfl|rfl|rfl|rfl
   ·exact q2
   ·exact q3
   ·exact q4
   ·exact q5
   ·exact q6
   ·exact q7
   ·exact q8
   ·exact q9
   ·exact q10
 obtain⟨-,h6,EE,XV,T5,z1,z2,z3,z4,z5⟩:=hq5;have l5:=Jy rfl OD;have hba5:∀a,c.ba=some a->E5 a.block:=λa e=>MN _ (hP.le _ (hI3.bE a e).1);have hm5:E5 m0:=(F8.slot (i:=6) rfl h6).Jry;have Jyk:=z1.places rfl OD hba5 hm5;have Lu:∀b,E b->E3 b:=λb hb=>CU b (Bl b (AU b hb));have Yu:∀b,E b->E4 b:=λb hb=>hP.le b (Lu b hb);have lt0:∀b,E b->b<n3:=λb hb=>WW▸hB.lt hb;have n3C:n3<C:=lt2 n3 (Bl _ a3);refine k _ E5 w5' t5 todo m0 ⟨TU,λb hb=>MN b (Yu b hb),λb o hb ho hd=>?_,?_,T5,z1.ke l5 Jyk,?_,z3,λx hx=>⟨Jyk x hx,λhEx=>?_⟩⟩ h6
 ·have s1:=k1 b o hb ho hd;have s2:=k2 b o (AU b hb) s1 hd;have s3:=k3 b o (Bl b (AU b hb)) s2 hd;have Vl:b≠C:=by have:=lt0 b hb;omega
  have s4:w4.heap[b]?=some o:=(hP.keep b (Lu b hb) Vl).trans (by rw[UG];exact s3);have s5:w5.heap[b]?=some o:=(z5 b (Ji s4) λhm=>(hO 0 (by omega) b (Zw b hm)).2 (Lu b hb)).trans s4;exact l5 b o (MN b (Yu b hb)) s5 hd
 ·have q1:KL E w Ap:=(KL.of_eq λb hb=>o1 b (lt0 b hb)).trans ((KL.OW AV).mono AU);have q2:KL E1 Ap BD:=(KL.keeps WY λb hb=>Cj.lt hb).trans ((KL.OW DN).mono Bl);have q3:KL E2 BD Gx:=(KL.keeps Jqb λb hb=>D5.lt hb).trans ((KL.OW Dt).mono CU);have q4:KL E Gx w4:=KL.of_eq λb hb=>(hP.keep b (Lu b hb) (by have:=lt0 b hb;omega)).trans (by rw[UG]);have q5:KL E w4 w5':=(KL.of_eq λb hb=>z5 b (hP.bok.lt (Yu b hb)) λhm=>(hO 0 (by omega) b (Zw b hm)).2 (Lu b hb)).trans ((KL.OW OD).mono λb hb=>MN b (Yu b hb));exact q1.trans ((q2.mono AU).trans ((q3.mono λb hb=>Bl b (AU b hb)).trans (q4.trans q5)))
 ·exact Sum.all hI.tab.ok hI.tab.nodup Ky rfl zB.nodup Jsr.nodup Jss.nodup zB.ok Jsr.ok Jss.ok sum1 sum2 sum3 XV z2
 ·rcases z4 x hx with h|h
  ·exact(hO 0 (by omega) x (Zw x h)).2 (Lu x hEx)
  ·have:=hP.bok.lt (Yu x hEx);omega
end
section
variable{E E':JB}{w w' Qw:JE}{base mo ob l D:Nat}{T9:JC}{most:Int}{L:List QC}
theorem hl9{i:Nat}(h:i≠18):(C0.hl 9).contains i=false:=by show[18].contains i=false;simp[h]
theorem QAt.kl{W:JB}(h:QAt base T9 mo ob l D most L w)(hB:BOk C0 S0 W E w)(hW:KL E w w')(hl:E l)(hm:E mo)(ho:E ob)(hD:E D) :
  ∃O1,QAt base O1 mo ob l D most L w'/\O1.size=T9.size/\∀i,i≠18->O1[i]?=T9[i]?:=by
 have hk:=hW.ke;obtain⟨T',q1,q2,q3⟩:=hW.lp _ _ hl h.lp;obtain⟨v,hv,Aw⟩:=h.box;refine⟨T',⟨⟨v,hk _ _ ho hv trivial,?_⟩,q1,hk _ _ hm h.mo trivial,hW.df _ hD h.D⟩,q2,λi hi=>q3 i (hl9 hi)⟩;have hE:∀b b',idE E b b'->b=b':=λ_ _ h=>h.1;refine⟨Aw.1,?_⟩;rcases Aw.2 with hn|⟨g,cap,cur,rfl,hb,O8,rest⟩
 ·exact .inl hn
 ·have nU:E g:=by obtain⟨o1,o',h1,h2,h3⟩:=hB.1.get (b:=ob) (b':=ob) ⟨rfl,ho⟩;rw[hv]at h1;cases h1;obtain⟨c',G9,rfl,ha,_⟩:=h3;obtain⟨v',h4,r⟩:=ha.EL (i:=0) rfl;have e:=r.eq hE;subst e;exact r.Ik
  exact .inr ⟨g,cap,cur,rfl,hb,hk _ _ nU O8 trivial,rest⟩
theorem Jyl:Jj C0 S0 38 d38=true:=by kernel_rfl
theorem Jym:Jj C0 S0 38 TI=true:=by kernel_rfl
theorem Jne:GH C0 38:=⟨f38,by kernel_rfl,by kernel_rfl,by kernel_rfl⟩
theorem Jst:S0.df.contains 38=false:=rfl
theorem Jfo:C0.hl 38≠[]:=by show[1000]≠[];simp
theorem Jsu{i:Nat}(h:(C0.hl 38).contains i=true):i=1000:=by have h':i∈[1000]:=Nh.1 h;simpa using h'
theorem Jsv{pre:List Nat}(h:∀i∈pre,i<10):La C0 S0 38 Np pre=true:=by
 have CQ:La C0 S0 38 Np (List.range 10)=true:=by kernel_rfl
 unfold La at CQ ⊢;rw[List.all_eq_true]at CQ ⊢;exactλi hi=>CQ i (List.mem_range.2 (h i hi))
end
section
variable{W E:JB}{w:JE}{x:Nat}{c:J8}{seed nf:Int}{h:JJ}{vm base m b1 b2 b3 l:Nat}{f:Nat->JJ}{cs:List Frame}{kk:List Item}{Post:(JB)->JF->JE->Prop}
theorem KL.cube{w':JE}(q:Dq w x c seed h nf vm base)(hx:E x)(hv:E vm)(k:KL E w w'):Dq w' x c seed h nf vm base:=by obtain⟨⟨z,h1,h2⟩,n,es,ck,h3,h4⟩:=q;refine⟨⟨z,k.ke _ _ hx h1 trivial,h2⟩,n,es,ck,k.ke _ _ hv h3 trivial,h4⟩
theorem Jqc(hB:BOk C0 S0 W E w)(q:Dq w x c seed h nf vm base)(Ih:m<8)(k1:w.heap[b1]?=some (.cells #[pt x] 25))(k2:w.heap[b2]?=some (.cells #[.int .i64 m] 3))(k3:w.heap[b3]?=some (.cells #[.slice none 0 0] 55))
  (hE:E b1/\E b2/\E b3/\E x/\E vm) (ht:TmR C0 S0 38 (idE E) #[.func (.yield l) #[] #[],pt b1,pt b2,pt b3,f 4,f 5,f 6,f 7,f 8,f 9,f 10,f 11,f 12,f 13,f 14,f 15,f 16,f 17,f 18,f 19,f 20,f 21,f 22,f 23,f 24,f 25,f 26,f 27,f 28,f 29,f 30,f 31,f 32,f 33,f 34,f 35,f 36,f 37,f 38,f 39,f 40,f 41,f 42,f 43,f 44,f 45,f 46,f 47,f 48,f 49,f 50,f 51,f 52,f 53,f 54,f 55,f 56,f 57,f 58,f 59,f 60,f 61,f 62,f 63,f 64,f 65,f 66,f 67,f 68,f 69,f 70,f 71,f 72,f 73,f 74] #[.func (.yield l) #[] #[],pt b1,pt b2,pt b3,f 4,f 5,f 6,f 7,f 8,f 9,f 10,f 11,f 12,f 13,f 14,f 15,f 16,f 17,f 18,f 19,f 20,f 21,f 22,f 23,f 24,f 25,f 26,f 27,f 28,f 29,f 30,f 31,f 32,f 33,f 34,f 35,f 36,f 37,f 38,f 39,f 40,f 41,f 42,f 43,f 44,f 45,f 46,f 47,f 48,f 49,f 50,f 51,f 52,f 53,f 54,f 55,f 56,f 57,f 58,f 59,f 60,f 61,f 62,f 63,f 64,f 65,f 66,f 67,f 68,f 69,f 70,f 71,f 72,f 73,f 74])
  (kn:∀E' t' w',(∀b,E b->E' b)->BOk C0 S0 W E' w'->KL E w w'->t'.size=75->(∀s,s<4->t'[s]?=(#[.func (.yield l) #[] #[],pt b1,pt b2,pt b3,f 4,f 5,f 6,f 7,f 8,f 9,f 10,f 11,f 12,f 13,f 14,f 15,f 16,f 17,f 18,f 19,f 20,f 21,f 22,f 23,f 24,f 25,f 26,f 27,f 28,f 29,f 30,f 31,f 32,f 33,f 34,f 35,f 36,f 37,f 38,f 39,f 40,f 41,f 42,f 43,f 44,f 45,f 46,f 47,f 48,f 49,f 50,f 51,f 52,f 53,f 54,f 55,f 56,f 57,f 58,f 59,f 60,f 61,f 62,f 63,f 64,f 65,f 66,f 67,f 68,f 69,f 70,f 71,f 72,f 73,f 74]:JC)[s]?)->t'[28]?=some (.map (some base))->t'[29]?=some (.int .i64 m)->t'[30]?=some (.func (.func 42) #[] #[pt b3])->TmR C0 S0 38 (idE E') t' t' ->
   Reach prog Post W (G ((Go.Conc.base 38).at ⟨t',[]⟩ (.inRegion Np [10,11]::.code TI::kk)) cs) w') :
  Reach prog Post W (G ((Go.Conc.base 38).at ⟨#[.func (.yield l) #[] #[],pt b1,pt b2,pt b3,f 4,f 5,f 6,f 7,f 8,f 9,f 10,f 11,f 12,f 13,f 14,f 15,f 16,f 17,f 18,f 19,f 20,f 21,f 22,f 23,f 24,f 25,f 26,f 27,f 28,f 29,f 30,f 31,f 32,f 33,f 34,f 35,f 36,f 37,f 38,f 39,f 40,f 41,f 42,f 43,f 44,f 45,f 46,f 47,f 48,f 49,f 50,f 51,f 52,f 53,f 54,f 55,f 56,f 57,f 58,f 59,f 60,f 61,f 62,f 63,f 64,f 65,f 66,f 67,f 68,f 69,f 70,f 71,f 72,f 73,f 74],[]⟩ (.code b38::kk)) cs) w:=by
 obtain⟨id,hb⟩:=Jyf;rw[hb];refine Reach.idle (λw1=>stepG_seq) rfl λwa ra=>?_;obtain⟨dd,rfl⟩:=ra;refine Reach.piece (b:=Go.Conc.base 38) MZ rfl Jyl Jne Jst Jfo (by simp[Go.Conc.base]) (hB.at dd) ht (Q:=λe t w1=>e=.normal/\t=#[.func (.yield l) #[] #[],pt b1,pt b2,pt b3,f 4,.nilIface,f 6,f 7,f 8,f 9,f 10,pt x,.int .i64 m,.slice none 0 0,.nilIface,.nilIface,.bool false,f 17,f 18,f 19,f 20,f 21,f 22,f 23,f 24,f 25,f 26,f 27,f 28,f 29,f 30,f 31,f 32,f 33,f 34,f 35,f 36,f 37,f 38,f 39,f 40,f 41,f 42,f 43,f 44,f 45,f 46,f 47,f 48,f 49,f 50,f 51,f 52,f 53,f 54,f 55,f 56,f 57,f 58,f 59,f 60,f 61,f 62,f 63,f 64,f 65,f 66,f 67,f 68,f 69,f 70,f 71,f 72,f 73,f 74]/\w1.heap=w.heap) (λτ=>?_) (λE1 t1 w1 Ap AU Cj AV A8 Eh=>?_) (λE1 t1 w1 Ap todo AU Cj AV A8 Eh=>by cases Eh.1)
 ·refine wp_mono (Jyg (d:=Jp) (w:=(w.at dd).tp τ 0) (q.kept rfl rfl) Ih ((cell_of (w:=(w.at dd).tp τ 0) k1 0).trans rfl) ((cell_of (w:=(w.at dd).tp τ 0) k2 0).trans rfl) ((cell_of (w:=(w.at dd).tp τ 0) k3 0).trans rfl)) λe a w1 ⟨q1,q2,q3,q4⟩=>⟨.inl q1,λi hi=>?_,q1,q3,by rw[q4];rfl⟩;rw[q3];rw[Jsu hi];rfl
 obtain⟨-,rfl,Dw⟩:=Eh;have kl1:KL E w Ap:=(KL.of_eq λb _=>by rw[Dw]).trans ((KL.OW AV).mono AU);refine Reach.idle (λw1=>stepG_seq) rfl λwa ra=>?_;obtain⟨d2,rfl⟩:=ra;refine Reach.draw rfl (Cj.at d2) λn w2 D5 nS FI=>?_;rw[show C0.P.follows .mixedOrders=true from mixed];obtain⟨pre,RG,Ac,hW⟩:=Jq7 (m:=10) (dst:=λi=>i+21) prog (ops:=Np) (by kernel_rfl) n;rw[RG,show List.range' 10 (Np.size-10)=[10,11]from by kernel_rfl];have X3:KL E w w2:=kl1.trans (KL.of_eq λb hb=>FI b (AU b hb));refine Reach.toOps (b:=Go.Conc.base 38) MZ rfl (Jsv Ac) (by simp) Jne Jst Jfo (by simp[Go.Conc.base]) D5 A8 (Q:=λt w3=>t.size=75/\(∀s,s<4->t[s]?=(#[.func (.yield l) #[] #[],pt b1,pt b2,pt b3,f 4,f 5,f 6,f 7,f 8,f 9,f 10,f 11,f 12,f 13,f 14,f 15,f 16,f 17,f 18,f 19,f 20,f 21,f 22,f 23,f 24,f 25,f 26,f 27,f 28,f 29,f 30,f 31,f 32,f 33,f 34,f 35,f 36,f 37,f 38,f 39,f 40,f 41,f 42,f 43,f 44,f 45,f 46,f 47,f 48,f 49,f 50,f 51,f 52,f 53,f 54,f 55,f 56,f 57,f 58,f 59,f 60,f 61,f 62,f 63,f 64,f 65,f 66,f 67,f 68,f 69,f 70,f 71,f 72,f 73,f 74]:JC)[s]?)/\t[28]?=some (.map (some base))/\t[29]?=some (.int .i64 m)/\t[30]?=some (.func (.func 42) #[] #[pt b3])/\Keeps w2 w3) (λτ=>?_) λE3 t3 w3 Gx CU Ij Dt DR Wp=>?_
 ·have qk:Dq (w2.tp τ 0) x c seed h nf vm base:=(KL.cube q hE.2.2.2.1 hE.2.2.2.2 X3).kept rfl rfl;refine Jq8 (d:=Jp) (b3:=b3) (T0:=#[.func (.yield l) #[] #[],pt b1,pt b2,pt b3,f 4,.nilIface,f 6,f 7,f 8,f 9,f 10,pt x,.int .i64 m,.slice none 0 0,.nilIface,.nilIface,.bool false,f 17,f 18,f 19,f 20,f 21,f 22,f 23,f 24,f 25,f 26,f 27,f 28,f 29,f 30,f 31,f 32,f 33,f 34,f 35,f 36,f 37,f 38,f 39,f 40,f 41,f 42,f 43,f 44,f 45,f 46,f 47,f 48,f 49,f 50,f 51,f 52,f 53,f 54,f 55,f 56,f 57,f 58,f 59,f 60,f 61,f 62,f 63,f 64,f 65,f 66,f 67,f 68,f 69,f 70,f 71,f 72,f 73,f 74]) hW qk Ih ((cell_of (w:=w2.tp τ 0) (X3.ke _ _ hE.1 k1 trivial) 0).trans rfl) ((cell_of (w:=w2.tp τ 0) (X3.ke _ _ hE.2.1 k2 trivial) 0).trans rfl) rfl rfl rfl rfl ?_;exactλa w3 a1 a2 a3 a4 a5 a6 a7 a8=>⟨rfl,a1,λi hi Oa=>absurd Oa (by rw[Jsu hi];show¬1000<75;decide),a2,λs hs=>(a3 s (by omega)).trans (by match s,hs with|0,_|1,_|2,_|3,_=>rfl|s+4,h=>exact absurd h (by omega)),a5,a6,a7,⟨a8.size,λb hb=>a8.heap b hb λh=>h⟩⟩
 obtain⟨q1,q2,q3,q4,q5,q6⟩:=Wp;have kl3:KL E w Gx:=X3.trans ((KL.of_eq λb hb=>q6.heap b (D5.lt (AU b hb))).trans ((KL.OW Dt).mono λb hb=>CU b (AU b hb)));exact kn E3 t3 Gx (λb hb=>CU b (AU b hb)) Ij kl3 q1 q2 q3 q4 q5 DR
end
theorem Jw5:∃o,Np[10]?=some o/\o.op=.call { callee:=.value (.func 40),args:=#[.tmp 28,.tmp 29,.tmp 30],argTypes:=#[70,3,111] }/\o.guard=none/\o.dst=some 31:=by simp only[Np,b38,fC,sC,f38,Ar];exact⟨_,rfl,rfl,rfl,rfl⟩
theorem Jw6:∃o,Np[11]?=some o/\o.op=.assign (.tmp 31)/\o.guard=none/\o.dst=some 6:=by simp only[Np,b38,fC,sC,f38,Ar];exact⟨_,rfl,rfl,rfl,rfl⟩
section
variable{W E Fp:JB}{w:JE}{src mk b3:Nat}{S:List TR}{c:J8}{pass:JD->Bool}{t:JC}{cs:List Frame}{kk:List Item}{Post:(JB)->JF->JE->Prop}
theorem aY.at{W' E':JB}{w':JE}{m:Nat}(h:aY E w S c mk pass W' E' w' m)(d:Nat):aY E w S c mk pass W' E' (w'.at d) m:=by obtain⟨h1,h2,h3,h0,T,h4,h5⟩:=h;exact⟨h1.at d,h2,h3.trans (.of_eq λ_ _=>rfl),h0.trans (.of_eq λ_ _=>rfl),T,h4.kept λ_ _=>rfl,h5⟩
theorem Jqd(hB:BOk C0 S0 W E w)(hI:Xy E Fp w src b3 S c pass)(Ae:t.size=75)(t28:t[28]?=some (.map (some src)))(t29:t[29]?=some (.int .i64 mk))(t30:t[30]?=some (.func (.func 42) #[] #[pt b3]))
  (kn:∀W' E' w' m,aY E w S c mk pass W' E' w' m->Reach prog Post W' (G ((base 38).at ⟨(t.set! 31 (.map (some m))).set! 6 (.map (some m)),[]⟩ (.inRegion Np []::.code TI::kk)) cs) w') :
  Reach prog Post W (G ((base 38).at ⟨t,[]⟩ (.inRegion Np [10,11]::.code TI::kk)) cs) w:=by
 obtain⟨o,ho,Au,hg,hd⟩:=Jw5;obtain⟨o2,bJ,qX,Bq,NC⟩:=Jw6;refine Reach.call (B:=base 38) (a:=⟨t,[]⟩) ho (by simp[Region.wanted,hg]) (by simp[base]) Au (fn:=f40) (c:=b40) (by kernel_rfl) (by kernel_rfl) Jxf λd=>?_;have e:(#[Operand.tmp 28,.tmp 29,.tmp 30].map (Act.eval ⟨t,[]⟩))++Array.replicate (f40.ntmps-(#[Operand.tmp 28,.tmp 29,.tmp 30].map (Act.eval ⟨t,[]⟩)).size) JA=R0 src mk b3:=by
  have h1:#[Operand.tmp 28,.tmp 29,.tmp 30].map (Act.eval ⟨t,[]⟩)=#[.map (some src),.int .i64 mk,.func (.func 42) #[] #[pt b3]]:=by simp only[List.map_toArray,DW,List.map_nil,sU (a:=⟨t,[]⟩) t28,sU (a:=⟨t,[]⟩) t29,sU (a:=⟨t,[]⟩) t30]
  have hn:f40.ntmps=49:=by kernel_rfl
  rw[h1,hn];show _++Array.replicate 46 JA=_;rw[Jue];simp only[R0,pt,List.append_toArray,Hr,Gm]
 rw[e];refine Jnd (hB.at d) (hI.ke hB.hnd (.of_eq λ_ _=>rfl) λ_ h=>h) λW' E' w' t' todo m hR h6=>?_;refine Reach.leave1 (B:=base 40) (a:=⟨t',[]⟩) rfl rfl (fn:=f40) (by kernel_rfl) (x:=6) (by kernel_rfl) λd2=>?_;have e6:t'.getD 6 JA=.map (some m):=by simp[BH,h6]
 rw[ho];simp only[Option.bind_some,hd,e6];have hv:((⟨t,[]⟩:Act).put (some 31) (.map (some m))).eval (.tmp 31)=.map (some m):=by simp[Act.put,Act.eval,BH,FC,Ae]
 refine J6 (λw1=>NP (v:=.map (some m)) bJ (by simp[Region.wanted,Bq]) (by simp[base]) (by simp[execOp,qX,hv]) (by simp[execOp,qX])) rfl λd3=>?_;rw[NC];have yF:aY E w S c mk pass W' E' w' m:=⟨hR.bok,hR.le,(KE.of_eq (w:=w) (w1:=w.at d) λ_ _=>rfl).trans hR.ke,(KL.of_eq (w:=w) (w':=w.at d) λ_ _=>rfl).trans hR.kl,hR.tab⟩;exact kn W' E' _ m ((yF.at d2).at d3)
end
end Go.Sim.Z
namespace Go.Sim.Z
open Go Go.Proofs Go.RowKit Go.Conc Go.Maps
section
variable{E:JB}{w w':JE}{base Juv mo ob l D m0:Nat}{T9:JC}{most:Int}{L:List QC}{T:List TR}{ks:List Je}
theorem QAt.cellsE(h:QAt base T9 mo ob l D most L w)(hW:WR C0 (okP C0 S0) (idE E) w w')(ho:E ob){q:QC}(hq:q∈L){v:JJ}(hv:v∈q.cells):VR C0 (idE E) v v:=by
 obtain⟨u,hu,Aw⟩:=h.box;have hE:∀b b',idE E b b'->b=b':=λ_ _ h=>h.1;rcases Aw.2 with⟨_,hn⟩|⟨g,cap,cur,rfl,hb,O8,_,_,_,hx⟩
 ·rw[List.length_eq_zero_iff.1 hn]at hq;cases hq
 ·have nU:E g:=by obtain⟨o1,o',h1,h2,h3⟩:=hW.get (b:=ob) (b':=ob) ⟨rfl,ho⟩;rw[hu]at h1;cases h1;obtain⟨c',G9,rfl,ha,_⟩:=h3;obtain⟨v',h4,r⟩:=ha.EL (i:=0) rfl;have e:=r.eq hE;subst e;exact r.Ik
  have hm:v∈cur.toList:=List.mem_of_mem_take (by rw[hx];exact List.mem_flatMap.2 ⟨q,hq,hv⟩);obtain⟨o1,o',h1,h2,h3⟩:=hW.get (b:=g) (b':=g) ⟨rfl,nU⟩;rw[O8]at h1;cases h1;obtain⟨c',G9,rfl,ha,_⟩:=h3;obtain⟨i,hi⟩:=List.mem_iff_getElem?.1 hm;rw[Array.getElem?_toList]at hi;obtain⟨v',h4,r⟩:=ha.EL hi;have e:=r.eq hE;subst e;exact r
theorem SlN.ke{v:JJ}{t:JH}{k:IntKind}{xs:JD}(h:SlN base w v t k xs)(q:KE E w w')(hv:VR C0 (idE E) v v):SlN base w' v t k xs:=by obtain⟨g,cap,rfl,h2,arr,⟨z,h3,h4⟩,h5⟩:=h;exact⟨g,cap,rfl,h2,arr,⟨z,q _ _ hv.Ik h3 trivial,h4⟩,h5⟩
theorem SlI.ke{v:JJ}{t:JH}{k:IntKind}{xs:JD}(h:SlI false w base v t k xs)(q:KE E w w')(hv:VR C0 (idE E) v v):SlI false w' base v t k xs:=by
 rcases h with h|⟨g,cap,rfl,h2,arr,⟨z,h3,h4⟩,h5⟩
 ·exact .inl h
 ·exact .inr ⟨g,cap,rfl,h2,arr,⟨z,q _ _ hv.Ik h3 trivial,h4⟩,h5⟩
theorem I9.wr(h:I9 Juv w T m0 ks L)(hQ:QAt base T9 mo ob l D most L w)(hW:WR C0 (okP C0 S0) (idE E) w w')(ho:E ob):I9 Juv w' T m0 ks L:=by have hk:=Jy rfl hW;refine⟨h.1,λi x q hx hq=>?_⟩;obtain⟨h1,h2,h3,h4⟩:=h.2 i x q hx hq;have hv:∀v∈q.cells,VR C0 (idE E) v v:=λv hv=>hQ.cellsE hW ho (NK hq) hv;exact⟨h1,h2,h3,h4.k.ke hk (hv _ (by simp[QC.cells])),h4.r.ke hk (hv _ (by simp[QC.cells])),h4.h.ke hk (hv _ (by simp[QC.cells])),h4.l.ke hk (hv _ (by simp[QC.cells]))⟩
end
theorem Jqe:∀(l l':List (JD)),l.Nodup->(∀x∈l,x∈l')->l.length<=l'.length
 |[],_,_,_=>Nat.zero_le _
 |a::l,l',hn,hs=>by obtain⟨h1,h2⟩:=List.nodup_cons.1 hn;have h3:=Jqe l (l'.erase a) h2 λx hx=>(List.mem_erase_of_ne (λe=>h1 (by rw[<- e];exact hx))).2 (hs x (.tail _ hx));have h4:=List.length_erase_of_mem (hs a (.head _));have h5:0<l'.length:=List.length_pos_of_mem (hs a (.head _));simp only[Gu];omega
theorem Sum.len{c:J8}{T S:List TR}{mk:Nat}{pass:JD->Bool}(hn:(T.map (·.k)).Nodup)(h:Sum c (tm T) (EG S mk pass)):T.length<=S.length:=by
 have h1:=Jqe (T.map (·.k)) ((EG S mk pass).map (·.1)) hn λx hx=>by
  obtain⟨t,ht,rfl⟩:=AY.1 hx;have h2:=h t.k;rw[U7 hn ht]at h2;cases hl:(EG S mk pass).filter λe=>decide (e.1=t.k)with
  |nil=>rw[hl]at h2;cases h2
  |cons e l=>
   have hm:e∈(EG S mk pass).filter λe=>decide (e.1=t.k):=by rw[hl];exact .head _
   obtain⟨h3,h4⟩:=IZ.1 hm;exact AY.2 ⟨e,h3,of_decide_eq_true h4⟩
 rw[Et,Et]at h1;exact BL h1 (List.length_filterMap_le _ _)
def HIn(M:Int)(B:Bun):Prop:=∀x∈B.h,0<=x/\x<=M
theorem HIn.mg{c:J8}{M N:Int}{a b:Bun}(ha:HIn M a)(hb:HIn N b)(h:M+N<=9223372036854775807):HIn (M+N) (mg c a b):=by
 intro z hz;obtain⟨x,hx,y,hy,rfl⟩:=J5q (show z∈EO a.h b.h from hz);have h1:=ha x hx;have h2:=hb y hy;have e:wrap64 (x+y)=x+y:=by unfold wrap64;omega
 rw[e];omega
theorem HIn.fold{c:J8}{M:Int}(hM:0<=M):∀(l:List Bun)(z:Option Bun)(k:Int),(∀b∈l,HIn M b)->0<=k->(∀B,z=some B->HIn k B)->k+l.length*M<=9223372036854775807->∀B,l.foldl (om c) z=some B->HIn (k+l.length*M) B
 |[],z,k,_,_,hz,_,B,hB=>by simpa using hz B hB
 |b::l,z,k,hl,hk,hz,hb,B,hB=>by
  have e:k+((b::l).length:Int)*M=(k+M)+(l.length:Int)*M:=by rw[Gu,Int.natCast_succ,Int.add_mul];omega
  have h0:0<=(l.length:Int)*M:=Int.mul_nonneg (by omega) hM;rw[e]at hb ⊢;refine HIn.fold hM l (om c z b) (k+M) (λx hx=>hl x (.tail _ hx)) (by omega) (λB' FU=>?_) hb B hB;cases z with
  |none=>
   cases FU;intro x hx;have:=hl b (.head _) x hx;omega
  |some a=>
   cases FU;exact(hz a rfl).mg (hl b (.head _)) (by omega)
theorem Sum.hin{c:J8}{T S:List TR}{mk:Nat}{pass:JD->Bool}{M:Int}(hM:0<=M)(hn:(T.map (·.k)).Nodup)(h:Sum c (tm T) (EG S mk pass))(hS:∀t∈S,HIn M t.B)(hb:S.length*M<=9223372036854775807):∀t∈T,HIn (S.length*M) t.B:=by
 intro t ht;have h2:=h t.k;rw[U7 hn ht]at h2;have hl:(((EG S mk pass).filter λe:JD × Bun=>decide (e.1=t.k)).map (λe:JD × Bun=>e.2)).length<=S.length:=by rw[Et];exact BL (List.length_filter_le _ _) (List.length_filterMap_le _ _)
 have hm:((((EG S mk pass).filter λe:JD × Bun=>decide (e.1=t.k)).map (λe:JD × Bun=>e.2)).length:Int)*M<=S.length*M:=Int.mul_le_mul_of_nonneg_right (by omega) hM;have h3:=HIn.fold (c:=c) hM (((EG S mk pass).filter λe:JD × Bun=>decide (e.1=t.k)).map (λe:JD × Bun=>e.2)) none 0 (λb hb=>by
  obtain⟨e,he,rfl⟩:=AY.1 hb;obtain⟨u,hu,bW⟩:=List.mem_filterMap.1 (IZ.1 he).1;split at bW
  ·cases bW;exact hS u hu
  ·cases bW) (by omega) (λB e=>by cases e) (by omega) t.B h2.symm
 intro x hx;have:=h3 x hx;omega
section
variable{E:JB}{w w':JE}{base mo ob l D:Nat}{T9:JC}{most:Int}{L:List QC}
theorem QAt.wr(h:QAt base T9 mo ob l D most L w)(hW:WR C0 (okP C0 S0) (idE E) w w')(hl:E l)(hm:E mo)(ho:E ob)(hD:E D) :
  ∃O1,QAt base O1 mo ob l D most L w'/\O1.size=T9.size/\∀i,i≠18->O1[i]?=T9[i]?:=by
 have hk:=Jy rfl hW;obtain⟨T',q1,q2,q3⟩:=Jjg hW hl h.lp;obtain⟨v,hv,Aw⟩:=h.box;refine⟨T',⟨⟨v,hk _ _ ho hv trivial,?_⟩,q1,hk _ _ hm h.mo trivial,Jfn hW hD h.D⟩,q2,λi hi=>q3 i (hl9 hi)⟩;have hE:∀b b',idE E b b'->b=b':=λ_ _ h=>h.1;refine⟨Aw.1,?_⟩;rcases Aw.2 with hn|⟨g,cap,cur,rfl,hb,O8,rest⟩
 ·exact .inl hn
 ·have nU:E g:=by obtain⟨o1,o',h1,h2,h3⟩:=hW.get (b:=ob) (b':=ob) ⟨rfl,ho⟩;rw[hv]at h1;cases h1;obtain⟨c',G9,rfl,ha,_⟩:=h3;obtain⟨v',h4,r⟩:=ha.EL (i:=0) rfl;have e:=r.eq hE;subst e;exact r.Ik
  exact .inr ⟨g,cap,cur,rfl,hb,hk _ _ nU O8 trivial,rest⟩
theorem QAt.at(h:QAt base T9 mo ob l D most L w)(hh:w'.heap=w.heap):QAt base T9 mo ob l D most L w':=by
 obtain⟨v,h1,h2⟩:=h.box;have k:∀(b:Nat)(o:Obj),w.heap[b]?=some o->w'.heap[b]?=some o:=λb o hb=>by rw[hh];exact hb
 exact⟨⟨v,k _ _ h1,bT h2 λg cur hg=>k _ _ hg⟩,k _ _ h.lp,k _ _ h.mo,k _ _ h.D⟩
def KC(E:JB)(base l ob:Nat)(w w':JE):Prop:=∀b o,E b->w.heap[b]?=some o->b≠l->b≠ob->(base<=b->∀cur,o≠.cells cur 39)->Dat o->w'.heap[b]?=some o
end
section
variable{W E:JB}{w:JE}{base mo ob l D mb mm m0:Nat}{T9 t:JC}{c:J8}{T:List TR}{most:Int}{cs:List Frame}{Post:(JB)->JF->JE->Prop}
theorem Jqf(hc:Jw c)(hB:BOk C0 S0 W E w)(hT:TabAt false w c mm T)(Bj:∀t∈T,∀x∈t.B.h,0<=x)(jK:T.length<=1000)(hm:w.heap[mb]?=some (.cells #[.int .i64 m0] 3))
  (Zq:∀x,x=mm\/x∈tpl T->x≠l/\x≠ob/\∀cur,w.heap[x]?≠some (.cells cur 39)) (Y7:mb≠l/\mb≠ob) (hQ:QAt base T9 mo ob l D most [] w) (hb:base<=ob)
  (s9:T9.size=33) (t97:T9[7]?=some (pt mo)) (Jnf:T9[10]?=some (pt ob)) (gU:(T.length:Int)<=most) (hE:E l/\E mo/\E ob/\E D)
  (ht:TmR C0 S0 38 (idE E) t t) (Ae:t.size=75) (t0:t[0]?=some (.func (.yield l) #[] #[])) (t2:t[2]?=some (pt mb)) (t6:t[6]?=some (.map (some mm)))
  (kn:∀E' t' w' O1 ks L,(∀b,E b->E' b)->BOk C0 S0 W E' w'->keysOf (T.map TR.kv) ks->I9 w.heap.size w' T m0 ks L->QAt base O1 mo ob l D most L w'->KC E base l ob w w' ->
   Reach prog Post W (G { (Go.Conc.base 38).at ⟨t',[]⟩ []with mode:=.returning } cs) w') :
  Reach prog Post W (G ((Go.Conc.base 38).at ⟨t,[]⟩ (.inRegion Np []::[.code TI])) cs) w:=by
 refine J6 (λw1=>stepG_region_end) rfl λd=>?_;refine Reach.piece (b:=Go.Conc.base 38) (k:=[]) MZ rfl Jym Jne Jst Jfo (by simp[Go.Conc.base]) (hB.at d) ht (Q:=λe t1 w1=>e=.normal/\∃ks L,keysOf (T.map TR.kv) ks/\I9 w.heap.size w1 T m0 ks L/\QAt base T9 mo ob l D most L w1/\KQ base l ob w w1) (λτ=>?_) (λE1 t1 w1 Ap AU Cj AV A8 Eh=>?_) (λE1 t1 w1 Ap todo AU Cj AV A8 Eh=>by cases Eh.1)
 ·obtain⟨f,rfl⟩:=Jn8 Ae;rw[J03s]at *;have e0:f 0=_:=Aa t0;have e2:f 2=_:=Aa t2;have e6:f 6=_:=Aa t6;rw[e0,e2,e6];obtain⟨g9,ZL⟩:=Juk s9;rw[J03r]at ZL;have z7:g9 7=pt mo:=by rw[ZL]at t97;exact Aa t97
  have TS:g9 10=pt ob:=by rw[ZL]at Jnf;exact Aa Jnf
  rw[z7,TS]at ZL;refine wp_mono (Jq6 (d:=Jp) (w:=(w.at d).tp τ 0) (base:=base) (mo:=mo) (ob:=ob) (l:=l) (D:=D) (T9:=T9) (most:=most) hc (hT.kept λ_ _=>rfl) Bj jK hm Zq Y7 (hQ.at rfl) (by obtain⟨v,hv,_⟩:=hQ.box;have:=Ji hv;show base<=w.heap.size;omega) ⟨g9,ZL⟩ gU) λe a w1 ⟨q1,q2,q3,ks,L,q4,q5,q6,q7⟩=>⟨.inl q1,λi hi=>?_,q1,ks,L,q4,q5,q6,q7⟩;obtain rfl:=Jsu hi;rw[DK (by omega)];rfl
 obtain⟨-,ks,L,q4,q5,q6,q7⟩:=Eh;refine J6 (λw1=>stepG_end) rfl λd2=>?_;obtain⟨O1,r1,-,-⟩:=q6.wr AV (AU _ hE.1) (AU _ hE.2.1) (AU _ hE.2.2.1) (AU _ hE.2.2.2);have hO:=q5.wr q6 AV (AU _ hE.2.2.1);refine kn E1 t1 _ O1 ks L AU (Cj.at d2) q4 ⟨hO.1,λi x q hx hq=>?_⟩ (r1.at rfl) λb o hb ho h1 h2 h3 hd=>?_
 ·obtain⟨a1,a2,a3,a4⟩:=hO.2 i x q hx hq;exact⟨a1,a2,a3,a4.tch ⟨Ad _,λ_ _ _=>rfl,rfl,rfl,rfl⟩⟩
 ·exact Jy rfl AV b o (AU b hb) (q7.2 b o ho h1 h2 h3) hd
end
theorem Blk.Tj{fr:Bool}{w:JE}{b:Nat}{arr:JC}{t:JH}(h:Blk fr w b arr t)(ht:t≠39)(cur:JC):w.heap[b]?≠some (.cells cur 39):=λe=>by obtain⟨z,h1,_⟩:=h;rw[h1]at e;exact ht (Obj.cells.inj (Aa e)).2.1
theorem Row.Tj{fr:Bool}{w:JE}{b:Nat}{t:JH}{k:IntKind}{xs:JD}{cap:Nat}(h:Row fr w b t k xs cap)(ht:t≠39)(cur:JC):w.heap[b]?≠some (.cells cur 39):=by obtain⟨_,h1,_⟩:=h;exact h1.Tj ht cur
theorem TabAt.Tj{fr:Bool}{w:JE}{c:J8}{m:Nat}{T:List TR}(h:TabAt fr w c m T):∀x,x=m\/x∈tpl T->∀cur,w.heap[x]?≠some (.cells cur 39):=by
 intro x hx cur;rcases hx with rfl|hx
 ·obtain⟨L',_,n,es,ck,h1,_⟩:=h.map.own;rw[h1];simp
 ·obtain⟨t,ht,hx⟩:=Jm.1 hx;have hb:=h.bun t ht;rcases BP.mem.1 hx with rfl|rfl|rfl|rfl|rfl|rfl|hx
  ·exact hb.hd.Tj (by decide) cur
  ·exact hb.reg.hd.Tj (by decide) cur
  ·exact hb.reg.row.Tj (by decide) cur
  ·exact hb.hist.hd.Tj (by decide) cur
  ·exact hb.hist.row.Tj (by decide) cur
  ·exact hb.least.hd.Tj (by decide) cur
  ·obtain⟨c',L6⟩:=hx;have hr:=hb.least.row;rw[L6]at hr;exact hr.1.Tj (by decide) cur
section
variable{W E Fp:JB}{w:JE}{x:Nat}{c:J8}{seed nf:Int}{h:JJ}{vm src m b1 b2 b3 l mo ob D qb:Nat}{T9 T0:JC}{S:List TR}{pass:JD->Bool}{M most:Int}{cs:List Frame}{Post:(JB)->JF->JE->Prop}
theorem Jsw(hB:BOk C0 S0 W E w)(q:Dq w x c seed h nf vm src)(Ih:m<8)(k1:w.heap[b1]?=some (.cells #[pt x] 25))(k2:w.heap[b2]?=some (.cells #[.int .i64 m] 3))(k3:w.heap[b3]?=some (.cells #[.slice none 0 0] 55))
  (hE:E b1/\E b2/\E b3/\E x/\E vm) (hI:Xy E Fp w src b3 S c pass) (hM:0<=M) (hS:∀t∈S,HIn M t.B) (hSM:S.length*M<=9223372036854775807)
  (gU:∀T:List TR,(T.map (·.k)).Nodup->Sum c (tm T) (EG S m pass)->(T.length:Int)<=most)
  (hQ:QAt qb T9 mo ob l D most [] w) (hqb:qb<=ob) (s9:T9.size=33) (t97:T9[7]?=some (pt mo)) (Jnf:T9[10]?=some (pt ob)) (Gy:E l/\E mo/\E ob/\E D)
  (Ae:T0.size=75) (s0:T0[0]?=some (.func (.yield l) #[] #[])) (s1:T0[1]?=some (pt b1)) (s2:T0[2]?=some (pt b2)) (s3:T0[3]?=some (pt b3)) (ht:TmR C0 S0 38 (idE E) T0 T0)
  (kn:∀W' E' t' w' w2 O1 T ks L mm,(∀b,E b->E' b)->BOk C0 S0 W' E' w'->TabAt false w2 c mm T->Sum c (tm T) (EG S m pass)->keysOf (T.map TR.kv) ks->I9 w2.heap.size w' T m ks L->qb<=w2.heap.size->QAt qb O1 mo ob l D most L w'->KC E qb l ob w w' ->
   Reach prog Post W' (G { (Go.Conc.base 38).at ⟨t',[]⟩ []with mode:=.returning } cs) w') :
  Reach prog Post W (G ((Go.Conc.base 38).at ⟨T0,[]⟩ [.code b38]) cs) w:=by
 obtain⟨g,rfl⟩:=Jn8 Ae;rw[J03s]at *;have e0:g 0=_:=Aa s0;have e1:g 1=_:=Aa s1;have e2:g 2=_:=Aa s2;have e3:g 3=_:=Aa s3;rw[e0,e1,e2,e3]at ht ⊢;obtain⟨v0,Nw,_⟩:=hQ.box;have KR:b2≠l:=λe=>by rw[e,hQ.lp]at k2;cases k2
 have hmo:b2≠ob:=λe=>by rw[e,Nw]at k2;simp at k2
 refine Jqc hB q Ih k1 k2 k3 hE ht λEa ta wa h1 h2 h3 h4 h5 h6 h7 h8 h9=>?_;have hIa:=hI.ke hB.hnd h3.ke h1;refine Jqd h2 hIa h4 h6 h7 h8 λW2 E2 wb mm hR=>?_;obtain⟨T,r1,r2,r3,r4⟩:=hR.tab;obtain⟨T9a,qa,sa,za⟩:=hQ.kl hB h3 Gy.1 Gy.2.1 Gy.2.2.1 Gy.2.2.2;obtain⟨T9b,qb',sb,zb⟩:=qa.kl h2 hR.kl (h1 _ Gy.1) (h1 _ Gy.2.1) (h1 _ Gy.2.2.1) (h1 _ Gy.2.2.2);have hle:∀b,E b->E2 b:=λb hb=>hR.le b (h1 b hb);have hmv:VR C0 (idE E2) (.map (some mm)) (.map (some mm)):=.map ⟨rfl,(r4 mm (.inl rfl)).1⟩;have Ui:ob<wb.heap.size:=by obtain⟨v,hv,_⟩:=qb'.box;exact Ji hv
 refine Jqf (mb:=b2) (mm:=mm) (m0:=m) (T:=T) (T9:=T9b) (most:=most) (base:=qb) (mo:=mo) (ob:=ob) (l:=l) (D:=D) hI.cfg hR.bok r1 (λt ht x hx=>(Sum.hin hM r1.nodup r2 hS hSM t ht x hx).1) (BL (Sum.len r1.nodup r2) hI.n)
  (hR.ke _ _ (h1 _ hE.2.1) (h3.ke _ _ hE.2.1 k2 trivial) trivial) (λy hy=>⟨λe=>(r4 y hy).2 (e▸h1 _ Gy.1),λe=>(r4 y hy).2 (e▸h1 _ Gy.2.2.1),r1.Tj y hy⟩) ⟨KR,hmo⟩ qb' hqb ((sb.trans sa).trans s9)
  ((zb 7 (by decide)).trans ((za 7 (by decide)).trans t97)) ((zb 10 (by decide)).trans ((za 10 (by decide)).trans Jnf)) (gU T r1.nodup r2) ⟨hle _ Gy.1,hle _ Gy.2.1,hle _ Gy.2.2.1,hle _ Gy.2.2.2⟩
  (((h9.mono (Ox hR.le)).set 31 hmv (λh=>by cases h)).set 6 hmv (λh=>by cases h)) (by simp[h4]) ?_ ?_ ?_ λE3 t3 w3 T9c ks L j1 j2 j3 j4 j5 j6=>?_
 ·have:=h5 0 (by decide);simpa[FC]using this
 ·have:=h5 2 (by decide);simpa[FC]using this
 ·simp[FC,h4]
 ·exact kn W2 E3 t3 w3 wb T9c T ks L mm (λb hb=>j1 b (hle b hb)) j2 r1 r2 j3 j4 (by omega) j5 λb o hb ho n1 n2 n3 hd=>j6 b o (hle b hb) (hR.ke _ _ (h1 _ hb) (h3.ke _ _ hb ho hd) hd) n1 n2 n3 hd
end
noncomputable def b17:Code:=f17.body.getD .skip
def opsOf:Code->Array Oper | .region _ ops _=>ops|_=>#[]
noncomputable def Uk:Array Oper:=opsOf (fC b17)
noncomputable def c17:Code:=fC (sC b17)
noncomputable def WE:Array Oper:=opsOf (fC (sC (sC b17)))
theorem Jyn:b17=.seq (.region 0 Uk false) (.seq c17 (.seq (.region 2 WE false) .ret)):=by kernel_rfl
theorem J03v:Jj C0 S0 17 c17=true:=by kernel_rfl
theorem J03w:GH C0 17:=⟨f17,by kernel_rfl,by kernel_rfl,by kernel_rfl⟩
theorem df17:S0.df.contains 17=false:=rfl
theorem Jw7:C0.hl 17≠[]:=by show[6,10]≠[];simp
theorem hl17{i:Nat}(h:(C0.hl 17).contains i=true):i=6\/i=10:=by have h':i∈[6,10]:=Nh.1 h;simpa using h'
theorem Juw{i:Nat}:(S0.own 17).contains i=false:=rfl
theorem Jyo:f17.body=some b17:=by kernel_rfl
section
variable{w:JE}{x n k:Nat}{m:Nat}{d:Deferred}
theorem Jyp:c17.wp prog (λe a w1=>e=.normal/\a.defers=[d]/\a.tmps=(λk=>#[pt x,.int .i64 m,.slice none 0 0,pt n,pt (n+1),JA,.nilFunc,pt k,.slice none 0 0,.slice none 0 0,JA]) w.heap.size/\w1.heap=w.heap.push (.cells #[.slice none 0 0] 55)) ⟨#[pt x,.int .i64 m,.slice none 0 0,pt n,pt (n+1),JA,.nilFunc,JA,JA,JA,JA],[d]⟩ w:=by
 have hc:=Jj8 w;simp only[c17,b17,fC,sC,f17,Ar]
 go_wp2_with (go_at_call 37;refine hc.mono ?_;rintro e w1 ⟨rfl,rfl⟩)
 exact rfl
end
theorem Jyq:∃o,Uk[0]?=some o/\o.op=.box 25 (.tmp 0)/\o.guard=none/\o.dst=some 3:=by simp only[Uk,opsOf,b17,fC,f17,Ar];exact⟨_,rfl,rfl,rfl,rfl⟩
theorem Jyr:∃o,Uk[1]?=some o/\o.op=.box 3 (.tmp 1)/\o.guard=none/\o.dst=some 4:=by simp only[Uk,opsOf,b17,fC,f17,Ar];exact⟨_,rfl,rfl,rfl,rfl⟩
theorem Jys:∃o,Uk[2]?=some o/\o.op=.assign (.const .nilFunc)/\o.guard=none/\o.dst=some 6:=by simp only[Uk,opsOf,b17,fC,f17,Ar];exact⟨_,rfl,rfl,rfl,rfl⟩
theorem Jw8:∃o,WE[0]?=some o/\o.op=.makeFunc (.func 38) #[] #[.tmp 3,.tmp 4,.tmp 7]/\o.guard=none/\o.dst=some 10:=by simp only[WE,opsOf,b17,fC,sC,f17,Ar];exact⟨_,rfl,rfl,rfl,rfl⟩
theorem Jw9:∃o,WE[1]?=some o/\o.op=.assign (.tmp 10)/\o.guard=none/\o.dst=some 6:=by simp only[WE,opsOf,b17,fC,sC,f17,Ar];exact⟨_,rfl,rfl,rfl,rfl⟩
section
variable{C:Cx}{S:Kn}{W E:JB}{w:JE}{Post:(JB)->JF->JE->Prop}
theorem Jdr{P:Program}{fn:JG}{a:Act}{o:Oper}{t:JH}{x:Operand}{w:JE}(h:o.op=.box t x):listed P fn a o w=#[]:=by
 unfold listed;rw[show(execOp a.eval o).events P w #[]=#[]from by simp[execOp,h,Instr.box,newVar,newRow]];exact seen_none _ _
theorem _root_.Go.Sim.Reach.alloc(Af:C.st=false)(hB:BOk C S W E w){g g':JF}{o:Obj}(hr:g.status=.running)(Fh:g'.status=.running)(hd:g'.dying=none)(YB:g'.offers=none)
  (ho:Nj C (okP C S) (idE λb=>E b\/b=w.heap.size) w.heap.size o o) (hs:∀w1,w1.heap.size=w.heap.size->stepG C.P true g w1=.go g' (w1.alloc o) #[])
  (kn:∀w',BOk C S W (λb=>E b\/b=w.heap.size) w'->w'.heap.size=w.heap.size+1->(∀b,E b->w'.heap[b]?=w.heap[b]?)->w'.heap[w.heap.size]?=some o->Reach C.P Post W g' w'):Reach C.P Post W g w:=by
 refine Reach.hand (f:=λw1=>w1.alloc o) hB hr Fh hd YB (λw1 r1=>⟨#[],hs w1 (r1.same rfl),?_⟩) λw1 w2 r1 r2 hW=>?_
 ·refine⟨by simp,λb hb _=>Below.heap_alloc _ _ b hb,rfl,rfl,Ad _,λe he=>by simp at he⟩
 ·have AU:w1.heap.size=w.heap.size:=r1.same rfl;have Bf:∀b,grown E w1 (w1.alloc o) b↔E b\/b=w.heap.size:=λb=>by
   simp only[grown,World.size_alloc,AU];constructor
   ·rintro(h|h)
    ·exact .inl h
    ·exact .inr (by omega)
   ·rintro(h|h)
    ·exact .inl h
    ·exact .inr (by omega)
  have hE:∀b,E b->b<w.heap.size:=λb hb=>hB.lt hb;have D5:=(hB.rely Af r1).push Af (o:=o) (by rw[AU];exact ho) λh=>hW _ h ((Bf _).2 (.inr AU));rw[AU]at D5;have Ij:=((D5.ext λb=>Bf b).rely Af r2).ext λb=>(Bf b).symm;refine kn w2 Ij ((r2.same rfl).trans (by rw[World.size_alloc,AU])) (λb hb=>?_) ?_
  ·exact(r2.blocks b ((Bf b).2 (.inl hb))).trans ((Below.heap_alloc _ _ b (by have:=hE b hb;omega)).trans (r1.blocks b hb))
  ·exact(r2.blocks _ ((Bf _).2 (.inr rfl))).trans (by rw[<- AU];exact World.alloc_heap_new _ _)
end
section
variable{W E:JB}{w:JE}{x m:Nat}{b₀:Frame}{a₀:Act}{ops:Array Oper}{i:Nat}{rest:List Nat}{kk:List Item}{cs:List Frame}{Post:(JB)->JF->JE->Prop}
theorem _root_.Go.Sim.TmR.hole{C:Cx}{S:Kn}{fn:JG}{E:J5}{t:JC}(h:TmR C S fn E t t){i:Nat}(hi:(C.hl fn).contains i=true)(ho:(S.own fn).contains i=false)(v:JJ):TmR C S fn E (t.setIfInBounds i v) (t.setIfInBounds i v):=by
 refine⟨rfl,λj x x' hj h1 h2=>?_,λj x hj hx=>?_⟩
 ·have Aq:i≠j:=λe=>by rw[<- e,hi]at hj;cases hj
  rw[AQ Aq]at h1 h2;exact h.at_ j x x' hj h1 h2
 ·have Aq:i≠j:=λe=>by rw[<- e,ho]at hj;cases hj
  rw[AQ Aq]at hx;exact h.own j x hj hx
theorem Jsx(hB:BOk C0 S0 W E w)(hE:E x)
  (kn:∀E' w' b1 b2 b3,(∀b,E b->E' b)->BOk C0 S0 W E' w'->KL E w w'->w'.heap[b1]?=some (.cells #[pt x] 25)->w'.heap[b2]?=some (.cells #[.int .i64 m] 3)->w'.heap[b3]?=some (.cells #[.slice none 0 0] 55)->E' b1->E' b2->E' b3->w.heap.size<=b3 ->
   Reach prog Post W (G (b₀.at (a₀.put ((ops[i]?).bind (·.dst)) (.func (.func 38) #[] #[pt b1,pt b2,pt b3])) (.inRegion ops rest::kk)) cs) w') :
  Reach prog Post W (G ((base 17).at ⟨#[pt x,.int .i64 m,.slice none 0 0,JA,JA,JA,JA,JA,JA,JA,JA],[]⟩ [.code b17]) (b₀.at a₀ (.inRegion ops (i::rest)::kk)::cs)) w:=by
 obtain⟨o0,h0,p0,g0,q0⟩:=Jyq;obtain⟨o1,h1,p1,g1,q1⟩:=Jyr;obtain⟨o2,h2,p2,g2,q2⟩:=Jys;obtain⟨o3,h3,p3,g3,q3⟩:=Jw8;obtain⟨o4,h4,p4,g4,q4⟩:=Jw9;rw[Jyn];have BA:TmR C0 S0 17 (idE E) #[pt x,.int .i64 m,.slice none 0 0,JA,JA,JA,JA,JA,JA,JA,JA] #[pt x,.int .i64 m,.slice none 0 0,JA,JA,JA,JA,JA,JA,JA,JA]:=by
  refine .fV (λv hv=>?_) λ_=>Juw;simp only[AO,C9,or_false]at hv;rcases hv with rfl|rfl|rfl|rfl|rfl|rfl|rfl|rfl|rfl|rfl|rfl
  ·exact .ptr _ _ ⟨rfl,hE⟩
  ·exact .int _ _
  ·exact .Jo _ _
  all_goals exact .undef
 refine J6 (λw1=>stepG_seq) rfl λd1=>?_;refine J6 (λw1=>stepG_region) rfl λd2=>?_;rw[show List.range Uk.size=[0,1,2]from by kernel_rfl];have hBa:=(hB.at d1).at d2;generalize yH:(w.at d1).at d2=wa at hBa ⊢;have Jyt:wa.heap=w.heap:=by rw[<- yH];rfl
 clear yH;have hn:wa.heap.size=w.heap.size:=by rw[Jyt]
 generalize KI:w.heap.size=n at *;refine Reach.alloc (C:=C0) (S:=S0) (o:=.cells #[pt x] 25) (g':=G ((base 17).at ⟨#[pt x,.int .i64 m,.slice none 0 0,pt n,JA,JA,JA,JA,JA,JA,JA],[]⟩ (.inRegion Uk [1,2]::[.code (.seq c17 (.seq (.region 2 WE false) .ret))])) (b₀.at a₀ (.inRegion ops (i::rest)::kk)::cs)) rfl hBa rfl rfl rfl rfl ⟨_,_,rfl,.gW (λv hv=>?_),λh=>(C0.lax rfl _ h).elim,λ_=>⟨rfl,λ_=>rfl⟩⟩ (λw1 Cc=>?_) λw2 D5 Bl oo2 e2=>?_
 ·simp only[AO,C9,or_false]at hv;subst hv;exact .ptr _ _ ⟨rfl,.inl hE⟩
 ·rw[hn]at Cc;rw[stepG_value (v:=pt n) (w':=w1.alloc (.cells #[pt x] 25)) h0 (by simp[Region.wanted,g0]) (by simp[base]) (by simp[execOp,p0,Act.eval,go_sem,Cc])];rw[Jdr p0,q0];rfl
 rw[hn]at e2 Bl D5;refine Reach.alloc (C:=C0) (S:=S0) (o:=.cells #[.int .i64 m] 3) (g':=G ((base 17).at ⟨#[pt x,.int .i64 m,.slice none 0 0,pt n,pt (n+1),JA,JA,JA,JA,JA,JA],[]⟩ (.inRegion Uk [2]::[.code (.seq c17 (.seq (.region 2 WE false) .ret))])) (b₀.at a₀ (.inRegion ops (i::rest)::kk)::cs)) rfl D5 rfl rfl rfl rfl ⟨_,_,rfl,.gW (λv hv=>?_),λh=>(C0.lax rfl _ h).elim,λ_=>⟨rfl,λ_=>rfl⟩⟩ (λw1 Cc=>?_) λAp Cj AU oo1 e4=>?_
 ·simp only[AO,C9,or_false]at hv;subst hv;exact .int _ _
 ·rw[Bl]at Cc;rw[stepG_value (v:=pt (n+1)) (w':=w1.alloc (.cells #[.int .i64 m] 3)) h1 (by simp[Region.wanted,g1]) (by simp[base]) (by simp[execOp,p1,Act.eval,go_sem,Cc])];rw[Jdr p1,q1];rfl
 rw[Bl]at e4 AU Cj;have a3:(λb=>(E b\/b=n)\/b=n+1) n:=.inl (.inr rfl);have a4:(λb=>(E b\/b=n)\/b=n+1) (n+1):=.inr rfl;have YN:∀b,E b->(λb=>(E b\/b=n)\/b=n+1) b:=λb hb=>.inl (.inl hb);have c3:Ap.heap[n]?=some (.cells #[pt x] 25):=(oo1 _ (.inr rfl)).trans e2;have c4:Ap.heap[n+1]?=some (.cells #[.int .i64 m] 3):=e4;have kl1:KL E w Ap:=KL.of_eq λb hb=>(oo1 _ (.inl hb)).trans ((oo2 b hb).trans (by rw[Jyt]));have A8:TmR C0 S0 17 (idE λb=>(E b\/b=n)\/b=n+1) #[pt x,.int .i64 m,.slice none 0 0,pt n,pt (n+1),JA,JA,JA,JA,JA,JA] #[pt x,.int .i64 m,.slice none 0 0,pt n,pt (n+1),JA,JA,JA,JA,JA,JA]:=
  ((BA.mono (Ox YN)).set 3 (v:=pt n) (v':=pt n) (.ptr _ _ ⟨rfl,a3⟩) λh=>by cases h).set 4 (v:=pt (n+1)) (v':=pt (n+1)) (.ptr _ _ ⟨rfl,a4⟩) λh=>by cases h
 refine J6 (λw1=>NP (v:=.nilFunc) h2 (by simp[Region.wanted,g2]) (by simp[base]) (by simp[execOp,p2,Act.eval]) (by simp[execOp,p2,Act.eval])) rfl λd3=>?_;rw[q2];refine J6 (λw1=>stepG_region_end) rfl λd4=>?_;refine J6 (λw1=>stepG_seq) rfl λd5=>?_;have Bc:=A8.hole (i:=6) rfl Juw .nilFunc;refine Reach.piece (b:=base 17) MZ rfl J03v J03w df17 Jw7 (by simp[base]) (((Cj.at d3).at d4).at d5) Bc (Q:=λe t w2=>e=.normal/\t=(λk=>#[pt x,.int .i64 m,.slice none 0 0,pt n,pt (n+1),JA,.nilFunc,pt k,.slice none 0 0,.slice none 0 0,JA]) Ap.heap.size/\w2.heap=Ap.heap.push (.cells #[.slice none 0 0] 55)) (λτ=>?_) (λE2 t2 w2 BD Bl D5 DN Bc Qs=>?_) (λE2 t2 w2 BD todo Bl D5 DN Bc Qs=>by cases Qs.1)
 ·refine wp_mono (Jyp (w:=(((Ap.at d3).at d4).at d5).tp τ 0)) λe a w2 ⟨q1,q2,q3,q4⟩=>⟨.inl q1,λi hi=>?_,q1,q3,q4⟩;rw[q3];rcases hl17 hi with rfl|rfl<;>rfl
 obtain⟨-,rfl,FI⟩:=Qs;generalize hk:Ap.heap.size=k at *;have l2:=Jy rfl DN;have a7:E2 k:=(Bc.slot (i:=7) rfl rfl).OX;have o2':∀b,b<k->w2.heap[b]?=Ap.heap[b]?:=λb hb=>by rw[FI,Array.getElem?_push_lt (by omega),BJ (by omega)]
 have X3:KL (λb=>(E b\/b=n)\/b=n+1) Ap BD:=(KL.of_eq λb hb=>o2' b (hk▸Cj.lt hb)).trans ((KL.OW DN).mono Bl);have c7:=l2 k (.cells #[.slice none 0 0] 55) a7 (by rw[FI,Mc,if_pos hk.symm]) trivial;have nk:n<=k:=by have:=Cj.lt a3;omega
 refine J6 (λw1=>stepG_seq) rfl λd6=>?_;refine J6 (λw1=>stepG_region) rfl λd7=>?_;rw[show List.range WE.size=[0,1]from by kernel_rfl];refine J6 (λw1=>NP (v:=.func (.func 38) #[] #[pt n,pt (n+1),pt k]) h3 (by simp[Region.wanted,g3]) (by simp[base]) (by simp[execOp,p3,Act.eval];try rfl) (by simp[execOp,p3,Act.eval];try rfl)) rfl λd8=>?_;rw[q3];refine J6 (λw1=>NP (v:=.func (.func 38) #[] #[pt n,pt (n+1),pt k]) h4 (by simp[Region.wanted,g4]) (by simp[base]) (by simp[execOp,p4,Act.eval,Act.put]) (by simp[execOp,p4,Act.eval,Act.put])) rfl λd9=>?_;rw[q4];refine J6 (λw1=>stepG_region_end) rfl λd10=>?_;refine J6 (λw1=>stepG_ret') rfl λd11=>?_;refine Reach.leave1 (B:=base 17) rfl rfl (fn:=f17) (by kernel_rfl) (x:=6) (by kernel_rfl) λd12=>?_;have hBz:=(((((((D5.at d6).at d7).at d8).at d9).at d10).at d11).at d12);exact kn E2 _ n (n+1) k (λb hb=>Bl b (YN b hb)) hBz ((kl1.trans (X3.mono YN)).trans (KL.of_eq λ_ _=>rfl)) (X3.ke _ _ a3 c3 trivial) (X3.ke _ _ a4 c4 trivial) c7 (Bl _ a3) (Bl _ a4) a7 nk
end
end Go.Sim.Z
