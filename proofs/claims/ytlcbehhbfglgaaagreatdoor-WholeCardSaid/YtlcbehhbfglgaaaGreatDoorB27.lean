/- PROVED HERE: the statement itself. Conditions: none. -/
import Derived.Deep.Slices
import Derived.Conc.Holds
import Derived.Test.YtlcbehhbfglgaaaGreatDoorCards
import Derived.LaidByTextLater
import Derived.LaidOnce
import Derived.ProofKit
import Derived.SevenTiedAt
import Derived.LaidLaws
import Derived.LaidHandle
import Derived.ChangeVars
import Derived.Test.YtlcbehhbfglgaaaGreatDoorB13
import Derived.Test.YtlcbehhbfglgaaaGreatDoorB22
import Derived.Test.YtlcbehhbfglgaaaGreatDoorB23
import Derived.Test.YtlcbehhbfglgaaaGreatDoorB26
set_option linter.all false
set_option maxRecDepth 100000
open Go.Proofs.Tryz
namespace Go.Sim.Z
open Go Go.Proofs Go.RowKit Go.Conc Go.Maps
def lD(cf:J7)(c:Int)(S:List TR)(s:ByteArray):Prop:=∃ks,keysOf (S.map TR.kv) ks/\s=iQ (pX cf c Dc S (ks.map (·.1)))
section
variable{W E:JB}{w:JE}{c az mz:Int}{la lb:JI}{rs qI:List Gi}{n n2 lc mG:Nat}
set_option maxHeartbeats 4000000 in
def J07o{T0:JC}(hB:BOk C0 S0 W E w)(hok:HOk w)(hG0:∃t,w.heap[0]?=some (.cells #[.iface 226 (.agg #[.pointer (some ⟨1,33,none⟩)])] t (0,0)))(hG1:∃arr t,w.heap[1]?=some (.cells arr t (0,0))/\∀x∈arr.toList,∃k n,x=.int k n)(hc:I64 c)(haz:I64 az)(hmz:I64 mz)
  (hR:qC w la rs) (hn:rs.length=n) (hWa:∀a,la=some a->W a.block) (hTa:∀a,la=some a->∀c z,w.heap[a.block]?≠some (.cells c wgT z)) (hR2:qC w lb qI) (Ij:qI.length=n2) (Xm:∀a,lb=some a->W a.block) (hTb:∀a,lb=some a->∀c z,w.heap[a.block]?≠some (.cells c wgT z))
  (Ag:T0.size=117) (h0:T0[0]?=some (JK c)) (h1:T0[1]?=some (.slice la n lc)) (h2:T0[2]?=some (.slice lb n2 mG)) (h3:T0[3]?=some (JK az)) (h4:T0[4]?=some (JK mz)) (Bf:TmR C0 S0 7 (idE E) T0 T0) :
  Reach prog (Jrq prog (λv w'=>v=.bool true/\KE E w w')) W (G ((Go.Conc.base 7).at ⟨T0,[]⟩ [.code (dW 0)]) []) w:=by
 obtain⟨fs,Zb⟩:∃fs,fs=(rs.take 200).map Gi.fact:=⟨_,rfl⟩;obtain⟨gs,hgs⟩:∃gs,gs=(qI.take 200).map Gi.fact:=⟨_,rfl⟩;have Ih:fs.length<=200:=by rw[Zb,FQ,List.length_take];omega
 have xK:gs.length<=200:=by rw[hgs,FQ,List.length_take];omega
 have IQ:∀f∈fs,RH f/\BI f.k∈U64:=λf hf=>by rw[Zb]at hf;obtain⟨r,hr,rfl⟩:=AZ.1 hf;exact⟨Gi.J017 (hR.ok r (List.mem_of_mem_take hr)),Jyz r⟩
 have hgo:∀f∈gs,RH f/\BI f.k∈U64:=λf hf=>by rw[hgs]at hf;obtain⟨r,hr,rfl⟩:=AZ.1 hf;exact⟨Gi.J017 (hR2.ok r (List.mem_of_mem_take hr)),Jyz r⟩
 rw[J0f2];refine iL 10 (by omega) (Q:=λ_=>True) (NQ (n:=0) (by simp)) hB Bf Ag (λτ R h=>J0e1 Ag λT' s k=>h T' _ s k trivial λ_ _=>rfl) λE1 T1 w1 U0 CV k1 Az s1 m1 _ kw1=>?_;have ok1:=hok.ke k1 hB.hnd;have H1:HS 7 W E1 w1 E1 T1 w1:=⟨CV,λ_ h=>h,.refl,λ_ _=>rfl,Az,rfl,Ad _⟩;refine J06d (la:=la) (rs:=rs) (fs:=fs) (d1:=26) (d2:=27) (d3:=11) (s:=1) H1 (by kernel_rfl) ⟨by kernel_rfl,by kernel_rfl⟩ (by omega) ((m1 1 (by decide)).trans h1) (hR.of_heap λa ha=>kw1 _ (hWa a ha)) hn Zb hWa (λa ha=>by rw[kw1 _ (hWa a ha)];exact hTa a ha) λE2 w2 ga1 cf pl1 T2 H2 qG k2 fa1 _ vE1 kw2 s2 m2 n11=>?_;have ok2:=ok1.ke k2 CV.hnd;have H2:=H2.start;refine J06d (la:=lb) (rs:=qI) (fs:=gs) (d1:=28) (d2:=29) (d3:=12) (s:=2) H2 (by kernel_rfl) ⟨by kernel_rfl,by kernel_rfl⟩ (by omega) ((m2 2 (by omega) (by omega) (by omega)).trans ((m1 2 (by decide)).trans h2)) (hR2.of_heap λa ha=>(kw2 _ (Xm a ha)).trans (kw1 _ (Xm a ha))) Ij hgs Xm (λa ha=>by rw[kw2 _ (Xm a ha),kw1 _ (Xm a ha)];exact hTb a ha) λE3 w3 ga cg pl2 T3 H3 Ti k3 fa2 _ vE2 kw3 s3 m3 n12=>?_;have ok3:=ok2.ke k3 H2.bok.hnd;have H3:=H3.start;obtain⟨pl1',hpl1,faF⟩:=G8.ke H2.bok.wr (λa ha=>by rw[ha]at vE1;exact vE1.MQ) k3 fa1;refine J06e (c:=c) (fs:=fs) (pl:=pl1') (d1:=30) (d2:=31) (d3:=32) (d4:=13) (sc:=0) (sg:=11) H3 (by kernel_rfl) ⟨by kernel_rfl,by kernel_rfl,by kernel_rfl⟩ (by omega) ((m3 0 (by omega) (by omega) (by omega)).trans ((m2 0 (by omega) (by omega) (by omega)).trans ((m1 0 (by decide)).trans h0))) ((m3 11 (by omega) (by omega) (by omega)).trans n11) (jG (by omega)) ok3 hc faF IQ Ih λW4 E4 w4 x cx hx hs nx vx bx Sx T4 H4 le4 k4 qx4 Jkl cb hb ok4 ex4 bX s4 m4 n13=>?_;obtain⟨J0f9,J0fa,faF'⟩:=G8.ke H3.bok.wr (λa ha=>by rw[ha]at vE1;exact Ti _ vE1.MQ) k4 faF;obtain⟨plG,hplG,faG⟩:=G8.ke H3.bok.wr (λa ha=>by rw[ha]at vE2;exact vE2.MQ) k4 fa2;refine J06e (c:=c) (fs:=fs) (pl:=J0f9) (d1:=33) (d2:=34) (d3:=35) (d4:=14) (sc:=0) (sg:=11) H4 (by kernel_rfl) ⟨by kernel_rfl,by kernel_rfl,by kernel_rfl⟩ (by omega) ((m4 0 (by omega) (by omega) (by omega) (by omega)).trans ((m3 0 (by omega) (by omega) (by omega)).trans ((m2 0 (by omega) (by omega) (by omega)).trans ((m1 0 (by decide)).trans h0)))) ((m4 11 (by omega) (by omega) (by omega) (by omega)).trans ((m3 11 (by omega) (by omega) (by omega)).trans n11)) (jG (by omega)) ok4 hc faF' IQ Ih λW5 E5 w5 y cy hy D9 ny vy TG Sy T5 H5 yQ k5 qy5 Jkm cb' BO ok5 ey5 bY s5 m5 n14=>?_;obtain⟨bY,eh',ec1',ec2',en0,en1⟩:=bY;obtain⟨bX,eh,ec1,ec2,en0',en1'⟩:=bX;obtain rfl:D9=hs:=eh'.trans eh.symm;have Ui:jW cx cy:=⟨ec1.trans ec1'.symm,ec2.trans ec2'.symm,bX.nb.trans bY.nb.symm⟩;have k02:KE E w w2:=k1.trans (k2.mono U0);have Jl9:∀b,E b->E2 b:=λb hb=>qG b (U0 b hb);have k04:KE E w w4:=k02.trans ((k3.mono Jl9).trans (k4.mono λb hb=>Ti b (Jl9 b hb)));have st:S7 E3 E4 E w D9 gs ga cg c x cx hx nx vx bx Sx y cy hy ny vy TG Sy E5 w5:={
  ke:=k04.trans (k5.mono λb hb=>le4 b (Ti b (Jl9 b hb)))
  le0:=λb hb=>Ti b (Jl9 b hb)
  le:=le4
  XE:=yQ
  XH:=H3.bok.hnd
  qx:=bX.ke k5 H4.bok.hnd λ_ h=>h
  qy:=bY
  fa:=FsE.ke ⟨plG,λp hp=>(hplG p hp).2,faG⟩ (k5.mono le4) }
 have r0:∀i,i∈([3,4]:List Nat)->T5[i]?=T0[i]?:=λi hi=>by
  simp only[AL,BU,or_false]at hi;rcases hi with rfl|rfl
  .exact(m5 3 (by omega) (by omega) (by omega) (by omega)).trans ((m4 3 (by omega) (by omega) (by omega) (by omega)).trans ((m3 3 (by omega) (by omega) (by omega)).trans ((m2 3 (by omega) (by omega) (by omega)).trans (m1 3 (by decide)))))
  .exact(m5 4 (by omega) (by omega) (by omega) (by omega)).trans ((m4 4 (by omega) (by omega) (by omega) (by omega)).trans ((m3 4 (by omega) (by omega) (by omega)).trans ((m2 4 (by omega) (by omega) (by omega)).trans (m1 4 (by decide)))))
 have y12:=(m5 12 (by omega) (by omega) (by omega) (by omega)).trans ((m4 12 (by omega) (by omega) (by omega) (by omega)).trans n12);have qK:=(m5 13 (by omega) (by omega) (by omega) (by omega)).trans n13;have y3:=(r0 3 (by simp)).trans h3;have y4:=(r0 4 (by simp)).trans h4;have z5:T5.size=117:=by omega
 clear r0 m5 m4 m3 m2 m1 n13 n12 n11 k02 k04 k5 k4 k3 k2 k1 fa1 fa2 faF faF' faG hpl1 J0fa hplG eh eh' ok1 ok2 ok3 ok4 H1 H2 H3 H4 kw1 kw2 kw3 vE1 vE2 bX bY qx4 qy5;refine iL 10 (by omega) (Q:=λ_=>True) (NQ (n:=5) (by simp)) H5.bok H5.tm z5 (λτ R h=>J0e2 z5 qK n14 λT' s k=>h T' _ s k trivial λ_ _=>rfl) λE6 T6 w6 XV SB k6 V8 s6 m6 _ _=>?_;have st6:=st.to k6 XV;refine iL 15 (by omega) (Q:=λT'=>T'[15]?=some (JK (Jr az (gs.length+1)))) (NQ (n:=6) (by simp)) SB V8 s6 (λτ R h=>J0e3 haz (by omega) s6 ((m6 3 (by decide)).trans y3) ((m6 12 (by decide)).trans y12) λT' s k e=>h T' _ s k e λ_ _=>rfl) λE7 T7 w7 le7 hB7 k7 XR s7 m7 n15 _=>?_;have st7:=st6.to k7 le7;have hpk:=Yr (c:=az) (n:=gs.length+1) (by omega);obtain⟨k,hk⟩:∃k:Nat,Jr az (gs.length+1)=k:=⟨(Jr az (gs.length+1)).toNat,by omega⟩;rw[hk]at n15 hpk;have Oe:k<=gs.length:=by omega
 have x4:=(m7 4 (by decide)).trans ((m6 4 (by decide)).trans y4);have Zr:=(m7 12 (by decide)).trans ((m6 12 (by decide)).trans y12);have Zt:=(m7 13 (by decide)).trans ((m6 13 (by decide)).trans qK);have Zu:=(m7 14 (by decide)).trans ((m6 14 (by decide)).trans n14);clear st st6 k6 k7 m6 m7 y3 y4 y12 qK n14;refine Xk 16 (by omega) (Q:=λT' w1=>∃bb,T'[16]?=some (pt bb)/\Rn w7.heap.size w1 bb ⟨[1,2,100],0,0⟩/\∀b,b<w7.heap.size->w1.heap[b]?=w7.heap[b]?) (NQ (n:=7) (by simp)) hB7 XR s7 (λτ R h=>J0e5 s7 λT' s k w' bb e hb t=>h T' w' s k ⟨bb,e,hb,λb hb=>t.heap b hb λh=>h⟩) λE8 T8 wb8 w8 Qi vX hW8 kV s8 m8 ⟨bb,n16,Jka,kk8⟩ _=>?_;have K8:KE E7 w7 w8:=(KE.of_eq λb hb=>kk8 b (hB7.lt hb)).trans ((Jt rfl hW8).mono Qi);obtain⟨kb8,Jka⟩:=Jka.inE hW8 (kV.slot (i:=16) (jG (by omega)) n16).NP;have hz8:=vX.lt Jka.2.1;have hz8':=Jka.2.2.2.1;refine Xk 10 (by omega) (Q:=λT' w1=>∃bf,Rn w7.heap.size w1 bb bf/\∀b,b<w7.heap.size->w1.heap[b]?=w8.heap[b]?) (NQ (n:=8) (by simp)) vX kV s8 (λτ R h=>J0e6 (base:=w7.heap.size) (w:=w8.tp τ 0) hmz (Nat.le_of_lt (Nat.lt_of_le_of_lt hz8' hz8)) (by obtain⟨q1,q2,q3,q4,q5,kc,q6,q7⟩:=Jka;exact⟨q1,q4,kb8,kc,q5,q6,q7⟩) s8 ((m8 4 (by decide)).trans x4) n16 λT' s k w' bf hb t=>h T' w' s k ⟨bf,hb,λb hb=>t.heap b hb λh=>h⟩) λE9 T9 wb9 w9 lQ hB9 hW9 ht9 s9 m9 ⟨bf,Jlg,kk9⟩ _=>?_;have K9:KE E7 w7 w9:=K8.trans ((KE.of_eq λb hb=>kk9 b (hB7.lt hb)).trans ((Jt rfl hW9).mono λb hb=>lQ b (Qi b hb)));have u16:=(m9 16 (by decide)).trans n16;obtain⟨kb,Jlg⟩:=Jlg.inE hW9 (ht9.slot (i:=16) (jG (by omega)) u16).NP;clear Jka K8 hz8 hz8';refine iL 17 (by omega) (Q:=λT'=>T'[17]?=some (.slice none 0 0)) (NQ (n:=9) (by simp)) hB9 ht9 s9 (λτ R h=>J0e4 s9 λT' s k e=>h T' _ s k e λ_ _=>rfl) λmJ T10 qJ le10 Jp5 k10 Jz9 yY m10 n17 _=>?_;have J08l:∀b,E7 b->mJ b:=λb hb=>le10 b (lQ b (Qi b hb));have K10:KE E7 w7 qJ:=K9.trans (k10.mono λb hb=>lQ b (Qi b hb));have vJ:=Jlg.ke k10 le10;obtain⟨pg,hpg,fa7⟩:=st7.fa;have hfa:∀{w':JE},KE E7 w7 w'->G8 false w' ga gs cg pg:=λk=>fa7.kept λp hp=>by obtain⟨q1,o,q2,q3⟩:=hpg p hp;rw[q2,k _ _ (st7.XE _ (st7.le p q1)) q2 q3]
 have faG:=hfa K10;have hpE:∀p∈kb::pg,mJ p:=λp hp=>(AL.1 hp).elim (λe=>e▸vJ.2.2.1) λh=>J08l p (st7.XE p (st7.le p (hpg p h).1));have bz:∀{E w},BOk C0 S0 W5 E w->E bb->w7.heap.size<=w.heap.size:=λhB hb=>Nat.le_of_lt (Nat.lt_of_le_of_lt vJ.2.2.2.1 (hB.lt hb));have o10:dU qJ w7.heap.size (kb::pg) (.slice none 0 0) []:=⟨⟨rfl,.inl ⟨rfl,rfl⟩⟩,λp hp=>by cases hp⟩;refine Xk 17 (by omega) (Q:=λT' w1=>∃v N,T'[17]?=some v/\N.map (·.1)=gs.take k/\dU w1 w7.heap.size (kb::pg) v N/\∀b,b<qJ.heap.size->w1.heap[b]?=qJ.heap[b]?) (NQ (n:=10) (by simp)) Jp5 Jz9 yY (λτ R h=>by
  obtain⟨v,w',N,r1,r2,r3,r4⟩:=dU.appG (w:=qJ.tp τ 0) (i:=0) (j:=k) (pg:=pg) (gs:=gs) (cg:=cg) (ga:=ga) (a':=ga) ⟨o10.own,o10.rows⟩ (show w7.heap.size<=qJ.heap.size from bz Jp5 vJ.2.1) (faG.kept λ_ _=>rfl) (λp hp=>List.mem_cons_of_mem _ hp) (Nat.zero_le _) Oe (by simp;omega) (λ_=>by cases ga<;>simp[Addr.add]) cg 28;rw[Nat.sub_zero]at r1;exact J0a8 (by have:=faG.cap;omega) r1 yY ((m10 12 (by decide)).trans ((m9 12 (by decide)).trans ((m8 12 (by decide)).trans Zr))) ((m10 15 (by decide)).trans ((m9 15 (by decide)).trans ((m8 15 (by decide)).trans n15))) n17 λT' s k e=>h T' w' s k ⟨v,N,e,r2,r3,λb hb=>r4.2 b hb (by simp[Value.ownBlock])⟩) λE11 T11 wb11 yA Jkj hB11 hW11 ht11 s11 m11 ⟨v11,N1,n17',e1,qH,kk11⟩ _=>?_
 have hN1:N1.length=k:=by have:=congrArg List.length e1;rw[FQ,List.length_take]at this;omega
 have J0fb:∀b,E7 b->E11 b:=λb hb=>Jkj b (J08l b hb);have l11:=Jt rfl hW11;have k11:KE mJ qJ yA:=(KE.of_eq λb hb=>kk11 b (Jp5.lt hb)).trans (l11.mono Jkj);have K11:KE E7 w7 yA:=K10.trans (k11.mono J08l);have qH:=qH.ke l11 (ht11.slot (i:=17) (jG (by omega)) n17') λp hp=>Jkj p (hpE p hp);obtain⟨hbf,bb1,bb2,bb3,bb4,kc,bb5,bb6⟩:=vJ.ke k11 Jkj;have v12:=(m11 12 (by decide)).trans ((m10 12 (by decide)).trans ((m9 12 (by decide)).trans ((m8 12 (by decide)).trans Zr)));have v13:=(m11 13 (by decide)).trans ((m10 13 (by decide)).trans ((m9 13 (by decide)).trans ((m8 13 (by decide)).trans Zt)));have v14:=(m11 14 (by decide)).trans ((m10 14 (by decide)).trans ((m9 14 (by decide)).trans ((m8 14 (by decide)).trans Zu)));have v15:=(m11 15 (by decide)).trans ((m10 15 (by decide)).trans ((m9 15 (by decide)).trans ((m8 15 (by decide)).trans n15)));have v16:=(m11 16 (by decide)).trans ((m10 16 (by decide)).trans u16);refine Xk 17 (by omega) (Q:=λT' w1=>∃v,T'[17]?=some v/\dU w1 w7.heap.size (kb::pg) v (N1++[(bf,kb,kc)])/\∀b,b<w7.heap.size->w1.heap[b]?=yA.heap[b]?) (NQ (n:=11) (by simp)) hB11 ht11 s11 (λτ R h=>by have hz:=bz hB11 bb1;have hr:=Ja (w:=yA.tp τ 0) (.cells #[JM kb bf.k.length kc,JK bf.it,JK bf.v] 50);obtain⟨v,w',r1,r2,r3⟩:=dU.app (w:=(yA.tp τ 0).alloc (.cells #[JM kb bf.k.length kc,JK bf.it,JK bf.v] 50)) (base:=w7.heap.size) (pl:=kb::pg) (v:=v11) (L:=N1) ⟨World.ownsRow.alloc qH.own _,λp hp=>⟨(qH.rows p hp).1,(qH.rows p hp).2.kept (J8 _ (qH.rows p hp).2.lt)⟩⟩ (by rw[size_alloc];exact Nat.le_succ_of_le hz) [(bf,kb,kc)] (by rw[hN1];simp;omega) (λp hp=>by rw[List.mem_singleton.1 hp];exact⟨List.mem_cons_self,bb6.kept (J8 _ bb6.lt)⟩) ⟨yA.heap.size,0,none⟩ 1 (λj u hj=>J087 j u hj) 28;exact J0a9 (w:=yA.tp τ 0) bb5 r1 s11 v16 n17' λT' s k e=>h T' w' s k ⟨v,e,r2,λb hb=>(r3.1.heap b hb λh=>h).trans (J8 _ (DX hb hz))⟩) λE12 T12 wb12 w12 Jm7 hB12 hW12 ht12 s12 m12 ⟨v12',J0a0,o12,kk12⟩ _=>?_;have J0a1:∀b,E7 b->E12 b:=λb hb=>Jm7 b (J0fb b hb);have l12:=Jt rfl hW12;have K12:KE E7 w7 w12:=K11.trans ((KE.of_eq λb hb=>kk12 b (hB7.lt hb)).trans (l12.mono J0a1));have o12:=o12.ke l12 (ht12.slot (i:=17) (jG (by omega)) J0a0) λp hp=>Jm7 p (Jkj p (hpE p hp));have J0a2:=hfa K12;refine Xk 17 (by omega) (Q:=λT' w1=>∃v N,T'[17]?=some v/\N.map (·.1)=gs.drop k/\dU w1 w7.heap.size (kb::pg) v (N1++[(bf,kb,kc)]++N)/\∀b,b<w7.heap.size->w1.heap[b]?=w12.heap[b]?) (NQ (n:=12) (by simp)) hB12 ht12 s12 (λτ R h=>by
  obtain⟨v,w',N,r1,r2,r3,r4,_⟩:=dU.appG (w:=w12.tp τ 0) (i:=k) (j:=gs.length) (pg:=pg) (gs:=gs) (cg:=cg) (ga:=ga) ⟨o12.own,o12.rows⟩ (show w7.heap.size<=w12.heap.size from bz hB12 (Jm7 _ bb1)) (J0a2.kept λ_ _=>rfl) (λp hp=>List.mem_cons_of_mem _ hp) Oe (Ad _) (by rw[List.length_append,hN1];simp;omega) (a':=if cg=k then ga else ga.map (·.add (k*3))) (λAc=>if_neg (by have:=faG.cap;omega)) (cg-k) 28;rw[List.take_of_length_le (by rw[List.length_drop];omega)]at r2;exact J0aa (J091 Oe) r1 s12 ((m12 12 (by decide)).trans v12) ((m12 15 (by decide)).trans v15) J0a0 λT' s k e=>h T' w' s k ⟨v,N,e,r2,r3,λb hb=>r4.heap b hb λh=>h⟩) λE13 T13 wb13 yJ le13 Jma hW13 ht13 Tm m13 ⟨v13',N2,n17c,e2,o13,kk13⟩ _=>?_
 have J0a3:∀b,E7 b->E13 b:=λb hb=>le13 b (J0a1 b hb);have l13:=Jt rfl hW13;have K13:KE E7 w7 yJ:=K12.trans ((KE.of_eq λb hb=>kk13 b (hB7.lt hb)).trans (l13.mono J0a3));have o13:=o13.ke l13 (ht13.slot (i:=17) (jG (by omega)) n17c) λp hp=>le13 p (Jm7 p (Jkj p (hpE p hp)));have Jp6:=st7.to K13 J0a3;have u12:=(m13 12 (by decide)).trans ((m12 12 (by decide)).trans v12);have u13:=(m13 13 (by decide)).trans ((m12 13 (by decide)).trans v13);have u14:=(m13 14 (by decide)).trans ((m12 14 (by decide)).trans v14);have u15:=(m13 15 (by decide)).trans ((m12 15 (by decide)).trans v15);clear v12 v13 v14 v15 v16 Zr Zt Zu n15 x4 m8 m9 m10 m11 m12 m13 K9 K10 K11 K12 K13 st7 l11 l12 l13 qH o12 o10 Jlg vJ faG J0a2 kk8 kk9 kk11 kk12 kk13 k11 bb5 bb6;obtain⟨gb,cb,plb,rfl,fab,_⟩:=o13.at;replace fab:G8 false yJ gb (gs.take k++[bf]++gs.drop k) cb plb:=by rw[List.map_append,List.map_append,e1,e2]at fab;exact fab
 have hlen:(gs.take k++[bf]++gs.drop k).length=gs.length+1:=by simp;omega
 refine Xk 18 (by omega) (Q:=λT' w1=>∃b,T'[18]?=some (.iface 85 (pt b))/\yJ.heap.size<=b/\w1.heap[b]?=some (.cells #[JK 2,JK k] 89)/\∀b,b<yJ.heap.size->w1.heap[b]?=yJ.heap[b]?) (NQ (n:=13) (by simp)) Jma ht13 Tm (λτ R h=>by
  have hI:=J07m (w:=yJ.tp τ 0) (x:=x) (ga:=gb) (cap:=cb) (k0:=k) Jp6.qx.q.cube.cells.1 (fab.kept λ_ _=>rfl) (by omega) (λi g hi hg=>by
   rw[List.append_assoc,List.getElem?_append_left (by rw[List.length_take];omega)]at hg;exact(hgo g (List.mem_of_mem_take (NR hg))).1) (λg hg=>by
   rw[List.append_assoc,List.getElem?_append_right (by rw[List.length_take];omega),List.length_take,show k-min k gs.length=0 by omega]at hg;cases hg;exact hbf) (by omega)
  have hL:(N1++[(bf,kb,kc)]++N2).length=(gs.take k++[bf]++gs.drop k).length:=by rw[<- FQ (f:=(·.1)),List.map_append,List.map_append,e1,e2];rfl
  rw[<- hL]at hI;exact J0ab (w:=yJ.tp τ 0) (R:=λb w'=>yJ.heap.size<=b/\w'.heap[b]?=some (.cells #[JK 2,JK k] 89)/\Tch yJ.heap.size M0 (yJ.tp τ 0) w') hI Tm u13 n17c λT' s k w' b e ⟨q1,q2,q3⟩=>h T' w' s k ⟨b,e,q1,q2,λb hb=>q3.heap b hb λh=>h⟩) λE14 T14 wb14 w14 le14 hB14 hW14 ht14 Pg m14 ⟨b,n18,hbz,hbc,kk14⟩ _=>?_
 have l14:=Jt rfl hW14;have hbE:E14 b:=by
  have hv:=ht14.slot (i:=18) (jG (by omega)) n18;cases hv with
  |iface t ht hv=>exact hv.NP
 have hbc:=l14 _ _ hbE hbc trivial;have Jog:=Jp6.to ((KE.of_eq λb hb=>kk14 b (Jma.lt hb)).trans (l14.mono le14)) le14;clear fab o13 hlen hpE hfa fa7 hpg qH kk14 bb3 bb4 bz;have b1:1<b:=by
  have h1:=Jma.lt Jma.hnd;rw[show C0.P.globals.size=1 from Wv]at h1;omega
 have fK:E 0:=hB.gl 0 rfl;have hE1:E 1:=by
  have h1:=hB.hnd
  rwa [show C0.P.globals.size=1 from Wv]at h1
 have H14:HS 7 W5 E14 w14 E14 T14 w14:=⟨hB14,λ_ h=>h,.refl,λ_ _=>rfl,ht14,rfl,Ad _⟩;refine J6 (λw1=>stepG_seq) rfl λd1=>?_;refine J6 (λw1=>stepG_region) rfl λd2=>?_;rw[show List.range (oW 14).size=List.range' 0 1++[1,2,3,4,5,6]from by kernel_rfl];refine Y5 (l:=[(77,.tmp 18)]) ((H14.at d1).at d2) (by kernel_rfl) (by kernel_rfl) λw15 H15 KG=>?_;have x77:mvT T14 [(77,.tmp 18)]=T14.setIfInBounds 77 (.iface 85 (pt b)):=by simp[mvT,Act.eval,Bq,n18]
 rw[x77]at H15 ⊢;have Jp8:w15.heap=w14.heap:=KG;obtain⟨o,ho,hp⟩:∃o,(oW 14)[1]?=some o/\aG o=some (78,16,#[.tmp 77]):=Gl.1 (by kernel_rfl);obtain⟨g1,g2,ty,g3⟩:=vI hp;refine Jpa (v:=.iface 85 (pt b)) (n:=2) (at_:=k) H15.bok (λb' BO=>by obtain rfl:=FB.one (b:=b) rfl BO;exact hbE) ⟨.fault 89 (by rw[Jp8];exact hbc) b1,by obtain⟨t,ht⟩:=hG0;exact⟨t,by rw[Jp8];exact Jog.ke 0 _ fK ht trivial⟩,by obtain⟨arr,t,ht,hp⟩:=hG1;exact⟨arr,t,by rw[Jp8];exact Jog.ke 1 _ hE1 ht trivial,hp⟩⟩ ho (by simp[Region.wanted,g1]) (by simp[Go.Conc.base]) g3 (by rw[Bq,FC (by omega)];rfl) λw16 hB16 kG sG=>?_;rw[g2];have vt:VR C0 (idE E14) (.tuple #[JK 2,JK k]) (.tuple #[JK 2,JK k]):=.tuple rfl λi x x' h1 h2=>by
  rw[h1]at h2;cases h2
  match i with
  |0=>cases h1;exact .int _ _
  |1=>cases h1;exact .int _ _
  |i+2=>simp at h1
 have HG:=H15.to hB16 (λ_ h=>h) (KE.of_eq λb hb=>kG b (.inl hb)) (λb hb=>kG b (.inr hb)) sG;have HH:=HG.put (HG.set (s:=78) (.inr vt));refine J0b0 (i:=2) (sR:=78) (sT:=76) (sA:=79) (sB:=80) (sX:=19) (sY:=20) HH (FC (by simp;omega)) (.int _ _) (.int _ _) (by simp;omega) (by omega) ⟨jG (by omega),jG (by omega),jG (by omega)⟩ (by kernel_rfl) λT15 w17 H17 NG n19 n20 m15 PK=>?_;have j15:∀i,i∈([12,13,14,15]:List Nat)->T15[i]?=T14[i]?:=λi hi=>by simp only[AL,BU,or_false]at hi;rw[m15 i (by omega) (by omega) (by omega) (by omega) (by omega),AV (by omega),AV (by omega)]
 have Yi:T15.size=117:=by rw[NG];simp;omega
 have y12:=(j15 12 (by simp)).trans ((m14 12 (by decide)).trans u12);have qK:=(j15 13 (by simp)).trans ((m14 13 (by decide)).trans u13);have y14:=(j15 14 (by simp)).trans ((m14 14 (by decide)).trans u14);have y15:=(j15 15 (by simp)).trans ((m14 15 (by decide)).trans u15);have Jpb:=Jog.to H17.ke λ_ h=>h;have hB17:=H17.bok;have ht17:=H17.tm;clear j15 m15 m14 NG HH HG H15 H14 H17 x77 Jog Jp6 u12 u13 u14 u15 kG KG PK;refine iL 21 (by omega) (Q:=λT'=>∃s,lD cx c Sx s/\T'[21]?=some (.string s)) (NQ (n:=15) (by simp)) hB17 ht17 Yi (λτ R h=>J0ac (PX:=lD cx c Sx) (w:=w17.tp τ 0) (Jpb.qxE.text hB17 (λ_ _=>rfl) hc Jkl) Yi qK λT' s k w' e t=>h T' w' s k e λb hb=>t.heap b hb λh=>h) λE18 T18 w18 le18 hB18 k18 ht18 s18 m18 ⟨sx,tx,n21⟩ _=>?_;have Jpe:=Jpb.to k18 le18;refine iL 22 (by omega) (Q:=λT'=>∃s,lD cy c Sy s/\T'[22]?=some (.string s)) (NQ (n:=16) (by simp)) hB18 ht18 s18 (λτ R h=>J0ad (PX:=lD cy c Sy) (w:=w18.tp τ 0) (Jpe.qy.text hB18 (λ_ _=>rfl) hc Jkm) s18 ((m18 14 (by decide)).trans y14) λT' s k w' e t=>h T' w' s k e λb hb=>t.heap b hb λh=>h) λE19 T19 w19 le19 Js2 k19 ht19 s19 m19 ⟨sy,ty',n22⟩ _=>?_;have Jgi:=Jpe.to k19 le19;have Js3:cx.nb=4:=Jgi.qx.nb;have hynb:cy.nb=4:=Jgi.qy.nb;have OG:=Jgi.qx.hash.bd;have hxy:sx=sy:=by obtain⟨ks,q1,rfl⟩:=tx;obtain⟨mD,q2,rfl⟩:=ty';exact congrArg iQ (J0a7 Jkl.nd Jkm.nd (Jkl.same Jkm Ui (.refl _) Jgi.qx.q.cfg Js3 OG) q1 q2 (by unfold LY;rw[Ui.1,Ui.2.1,Ui.2.2]))
 subst hxy;clear Jpb Jpe tx ty' k18 k19;obtain⟨plx,inx⟩:=Jgi.inX Js2 hgo xK ⟨en0',by omega⟩ Jkl λf hf=>(IQ f hf).2;refine Xk 23 (by omega) (Q:=λT' w1=>T'[23]?=some .nilIface/\∃τ,eF (w19.tp τ 0) x cx c hx nx vx bx Sx D9 Dc gs w1) (NQ (n:=17) (by simp)) Js2 ht19 s19 (λτ R h=>J0ae (Jrd (inx τ)) s19 ((m19 13 (by decide)).trans ((m18 13 (by decide)).trans qK)) ((m19 12 (by decide)).trans ((m18 12 (by decide)).trans y12)) λT' s k w' e r=>h T' w' s k ⟨e,τ,r⟩) λE20 T20 wb20 w20 le20 Jow hW20 ht20 s20 m20 ⟨n23,τ1,io1⟩ _=>?_;obtain⟨X',Sx',Js4,vK⟩:=Jgi.ingX Js2 le20 Jow.hnd hW20 io1 Jkl (by rw[List.length_append];omega) λf hf=>(hgo f hf).1.n;obtain⟨ply,iny⟩:=Js4.inY Jow hgo xK ⟨en0,by omega⟩ Jkm λf hf=>(IQ f hf).2;refine Xk 24 (by omega) (Q:=λT' w1=>T'[24]?=some .nilIface/\∃τ,eF (w20.tp τ 0) y cy c hy ny vy TG Sy D9 Dc gs w1) (NQ (n:=18) (by simp)) Jow ht20 s20 (λτ R h=>J0af (Jrd (iny τ)) s20 ((m20 14 (by decide)).trans ((m19 14 (by decide)).trans ((m18 14 (by decide)).trans y14))) ((m20 12 (by decide)).trans ((m19 12 (by decide)).trans ((m18 12 (by decide)).trans y12))) λT' s k w' e r=>h T' w' s k ⟨e,τ,r⟩) λE21 vY wb21 w21 le21 hB21 hW21 ht21 s21 m21 ⟨n24,τ2,io2⟩ _=>?_;obtain⟨Sy',Jsd,vM⟩:=Js4.ingY Jow le21 hB21.hnd hW21 io2 Jkm (by rw[List.length_append];omega) λf hf=>(hgo f hf).1.n;clear Jgi Js4 io1 io2 inx iny hW20 hW21;have v13:=(m21 13 (by decide)).trans ((m20 13 (by decide)).trans ((m19 13 (by decide)).trans ((m18 13 (by decide)).trans qK)));have v14:=(m21 14 (by decide)).trans ((m20 14 (by decide)).trans ((m19 14 (by decide)).trans ((m18 14 (by decide)).trans y14)));have v15:=(m21 15 (by decide)).trans ((m20 15 (by decide)).trans ((m19 15 (by decide)).trans ((m18 15 (by decide)).trans y15)));have v19:=(m21 19 (by decide)).trans ((m20 19 (by decide)).trans ((m19 19 (by decide)).trans ((m18 19 (by decide)).trans n19)));have v20:=(m21 20 (by decide)).trans ((m20 20 (by decide)).trans ((m19 20 (by decide)).trans ((m18 20 (by decide)).trans n20)));have v21:=(m21 21 (by decide)).trans ((m20 21 (by decide)).trans ((m19 21 (by decide)).trans n21));have v22:=(m21 22 (by decide)).trans ((m20 22 (by decide)).trans n22);have v23:=(m21 23 (by decide)).trans n23;clear m18 m19 m20 m21 y12 qK y14 y15 n19 n20 n21 n22 n23;have H21:HS 7 W5 E21 w21 E21 vY w21:=⟨hB21,λ_ h=>h,.refl,λ_ _=>rfl,ht21,rfl,Ad _⟩;have vx:VR C0 (idE E21) (pt x) (pt x):=.ptr _ _ ⟨rfl,Jsd.qxE.q.xE.1⟩;have vy:VR C0 (idE E21) (pt y) (pt y):=.ptr _ _ ⟨rfl,Jsd.qy.q.xE.1⟩;have BA:((oW 19)[2]?).bind aG=some (93,23,#[.tmp 91,.tmp 92,.const (JK 7),.const (.slice none 0 0)]):=by kernel_rfl
 refine jS (m:=2) (l:=[(91,.tmp 13),(92,.tmp 14)]) (rest:=[3]) H21 rfl (by kernel_rfl) (by kernel_rfl) BA (by kernel_rfl) (show prog.funcs[23]?=some f23 by kernel_rfl) (by kernel_rfl) J0eb λw22 H22 WV z22 k22=>?_;have x91:(mvT vY [(91,.tmp 13),(92,.tmp 14)])[91]?=some (pt x):=by show((vY.setIfInBounds 91 (vY.getD 13 JA)).setIfInBounds 92 _)[91]?=_;rw[AV (by omega),FC (by omega),Bq,v13];rfl
 have x92:(mvT vY [(91,.tmp 13),(92,.tmp 14)])[92]?=some (pt y):=by show((vY.setIfInBounds 91 (vY.getD 13 JA)).setIfInBounds 92 ((vY.setIfInBounds 91 (vY.getD 13 JA)).getD 14 JA))[92]?=_;rw[FC (by rw[Array.size_setIfInBounds];omega),Bq,AV (by omega),v14];rfl
 generalize mvT vY [(91,.tmp 13),(92,.tmp 14)]=wO at *;have ea:(#[Operand.tmp 91,.tmp 92,.const (JK 7),.const (.slice none 0 0)].map (Act.eval ⟨wO,[]⟩))++Array.replicate (f23.ntmps-(#[Operand.tmp 91,.tmp 92,.const (JK 7),.const (.slice none 0 0)].map (Act.eval ⟨wO,[]⟩)).size) JA=#[pt x,pt y,JK (7:Nat),.slice none 0 0]++Array.replicate 55 JA:=by
  have LH:f23.ntmps=59:=by kernel_rfl
  have h1:(#[Operand.tmp 91,.tmp 92,.const (JK 7),.const (.slice none 0 0)].map (Act.eval ⟨wO,[]⟩))=#[pt x,pt y,JK 7,.slice none 0 0]:=by simp[Act.eval,Bq,x91,x92]
  rw[LH,h1];rfl
 rw[ea];clear ea;have Jhl:=Jsd.to H22.ke λ_ h=>h;refine J07n (x:=x) (y:=y) (m:=7) (c:=cx) (c':=cy) (S:=Sx') (S':=Sy') H22.bok Jhl.qxE.q Jhl.qy.q (by omega) vK.hin vK.len (λT hn hT=>by
  have:=vK.lenT hn (vK.sum Jhl.qx.q.cfg Js3 OG hT);omega) vM.hin vM.len (λT hn hT=>by
  have:=vM.lenT hn (vM.sum Jhl.qy.q.cfg hynb OG hT);omega) (λA B' _ _ hA Gq=>vK.cmp vM Ui (.refl _) Jhl.qx.q.cfg Jhl.qy.q.cfg Js3 OG hA Gq) (by simp) (by simp) (by simp) (by simp) (by simp) ?_ λWD ED wD leD hBD kD=>?_
 .refine .bK (λu hu=>?_) λ_=>rfl;rw[Array.toList_append,Gn]at hu;rcases hu with hu|hu
  .simp only[AL,BU,or_false]at hu;rcases hu with rfl|rfl|rfl|rfl
   .exact vx
   .exact vy
   .exact .int _ _
   .exact .Jk _ _
  .simp only[Array.toList_replicate]at hu;rw[List.eq_of_mem_replicate hu];exact .undef
 obtain⟨o',Em,Gu⟩:=Gl.1 BA;obtain⟨_,NZ,_⟩:=vI Gu;rw[Em];simp only[Option.bind_some,NZ];have st23:=Jhl.to kD leD;have HD:HS 7 WD ED wD ED wO wD:=⟨hBD,λ_ h=>h,.refl,λ_ _=>rfl,H22.tm.mono (Oj leD),rfl,Ad _⟩;refine J0ah (m:=3) (d:=93) (v:=.bool true) (l2:=[(25,.tmp 93)]) HD (.inr (.bool _)) (by kernel_rfl) (by kernel_rfl) λwE HE eE=>?_;have zE:(mvT (wO.setIfInBounds 93 (.bool true)) [(25,.tmp 93)]).size=117:=by rw[qQ];simp;omega
 have kE:∀i,i∈([15,19,20,21,22,23,24]:List Nat)->(mvT (wO.setIfInBounds 93 (.bool true)) [(25,.tmp 93)])[i]?=vY[i]?:=λi hi=>by simp only[AL,BU,or_false]at hi;rw[qX (by simp;omega),AV (by omega),k22 i (by simp;omega)]
 have v25:(mvT (wO.setIfInBounds 93 (.bool true)) [(25,.tmp 93)])[25]?=some (.bool true):=by show((wO.setIfInBounds 93 (.bool true)).setIfInBounds 25 ((wO.setIfInBounds 93 (.bool true)).getD 93 JA))[25]?=_;rw[FC (by simp;omega),Bq,FC (by omega)];rfl
 generalize mvT (wO.setIfInBounds 93 (.bool true)) [(25,.tmp 93)]=TE at *;have stE:=st23.to HE.ke λ_ h=>h;refine Reach.ret (b:=Go.Conc.base 7) (X0:=[.code (dW 20)]) (k:=[]) KY rfl (.cons (.code J0f4) .nil) hasW rfl J095 (by simp[Go.Conc.base]) HE.bok HE.tm (Q:=λt1 w1=>t1[10]?=some (.bool true)/\∀b,b<wE.heap.size->w1.heap[b]?=wE.heap[b]?) (λτ=>?_) λEP TP wP wQ todo leP hBP hWP htP ⟨t1,t2⟩=>?_
 .refine LGo.wp (J0ag (w:=wE.tp τ 0) (k:=k) (s:=sx) zE ((kE 15 (by simp)).trans v15) ((kE 19 (by simp)).trans v19) ((kE 20 (by simp)).trans v20) ((kE 21 (by simp)).trans v21) ((kE 22 (by simp)).trans v22) ((kE 23 (by simp)).trans v23) ((kE 24 (by simp)).trans n24) v25 λT' s k' g1=>Cont.ret ⟨λi hi Nq=>?_,g1,λb hb=>rfl⟩ rfl);rcases hlW hi with h|h
  .exact k' i (J07u (by omega) h)
  .omega
 .refine Reach.here ⟨rfl,λw1 BQ=>⟨.bool true,?_,rfl,?_⟩⟩
  .rw[Jed (f:=f7) (x:=10) (by kernel_rfl) (by kernel_rfl) (by kernel_rfl)];simp[Bq,t1]
  .obtain⟨dd,rfl⟩:=BQ;have kQ:KE ED wE wQ:=(KE.of_eq λb hb=>t2 b (HE.bok.lt hb)).trans ((Jt rfl hWP).mono leP);exact(stE.ke.trans (kQ.mono λb hb=>stE.XE b (stE.le b (stE.le0 b hb)))).trans (.of_eq λ_ _=>rfl)
end
def rf(P:Program)(fits:JH->Bool):Nat->JH->Bool
 |0,_=>false
 |d+1,e=>fits e || (match P.underlying e with
  |some (.struct fs)=>fs.any λf=>rf P fits d f.type
  |some (.array _ e')=>rf P fits d e'
  |_=>false)
theorem Jdd(P:Program)(fits:JH->Bool):∀(d:Nat)(e:JH)(c o n:Nat),rowAt P fits d e c o n=true->rf P fits d e=true
 |0,_,_,_,_,h=>by cases h
 |d+1,e,c,o,n,h=>by
  simp only[rowAt]at h;unfold rf;by_cases hs:P.cellsOf e=0
  .grind
  rw[if_neg hs]at h;rw[Bool.or_eq_true]at h ⊢;rcases h with h|h
  .grind
  .right;rw[Bh]at h;obtain⟨_,h⟩:=h;cases hu:P.underlying e with
   |none=>grind
   |some u=>
    rw[hu]at h;cases u with
    |struct fs=>
     have h':=((Bh _ _).mp h).2;show(fs.any λf=>rf P fits d f.type)=true;rw[Array.any_eq_true]at h' ⊢;obtain⟨i,hi,h'⟩:=h';exact⟨i,hi,Jdd P fits d _ _ _ _ ((Bh _ _).mp h').2⟩
    |array m e'=>exact Jdd P fits d _ _ _ _ h
    |_=>cases h
def Jkq{α:Type}{l:List α}(h:l.length=5):∃x0 x1 x2 x3 x4,l=[x0,x1,x2,x3,x4]:=by
 rcases l with _|⟨x0,_|⟨x1,_|⟨x2,_|⟨x3,_|⟨x4,_|⟨x5,l⟩⟩⟩⟩⟩⟩<;>simp at h
 grind
theorem Jxi:∃f0 f1 f2 f3 f4:Field,prog.underlying 83=some (.struct #[f0,f1,f2,f3,f4])/\(f0.offset=0/\f1.offset=1/\f2.offset=2/\f3.offset=3/\f4.offset=4)/\(f0.type=3/\f1.type=3/\f2.type=3/\f3.type=3/\f4.type=3):=by
 have h:(prog.underlying 83).map (λu=>match u with| .struct fs=>fs.toList.map (λf=>(f.offset,f.type))|_=>[])=some [(0,3),(1,3),(2,3),(3,3),(4,3)]:=by kernel_rfl
 cases hu:prog.underlying 83 with
 |none=>grind
 |some u=>
  rw[hu]at h;cases u with
  |struct fs=>
   obtain⟨l⟩:=fs;simp only[Option.map_some,Cb]at h;have hl:l.length=5:=by have:=congrArg List.length h;simpa using this
   match l,hl with
   |[f0,f1,f2,f3,f4],_=>
    simp only[D5,List.map_nil,List.cons.injEq,Prod.mk.injEq,and_true]at h
    grind
  |_=>simp at h
def Jpc:prog.underlying 27=some (.slice 83):=by kernel_rfl
def TW:prog.underlying 3=some (.int .i64):=by kernel_rfl
def ce53:prog.cellsOf 83=5:=by kernel_rfl
def ce3:prog.cellsOf 3=1:=by kernel_rfl
theorem J066:rf prog (sameLayout prog prog.depth · 83) prog.depth wgT=false:=by kernel_rfl
theorem rf0:rf prog (sameLayout prog prog.depth · 83) prog.depth 0=false:=by kernel_rfl
theorem J067:rf prog (sameLayout prog prog.depth · 83) prog.depth 159=false:=by kernel_rfl
def J068{w:JE}{r:_root_.Go.Reach}{b0:Nat}{a:Addr}{n:Nat}(h:w.has prog r b0 a 83 n):a.spot=none/\a.block<w.heap.size/\(∀c z,w.heap[a.block]?≠some (.cells c wgT z))/\(∀c z,w.heap[a.block]?≠some (.cells c 0 z))/\∀c z,w.heap[a.block]?≠some (.cells c 159 z):=by
 obtain⟨_,h1,row,cells,h2,h3⟩:=h;have h4:rf prog (sameLayout prog prog.depth · 83) prog.depth row=true:=by
  obtain⟨d,hd⟩:∃d,prog.depth=d+1:=by
   cases hd:prog.depth with
   |zero=>rw[hd]at h3;cases h3
   |succ d=>grind
  have h5:liesAt prog (d+1) row (cells / prog.cellsOf row) a.off 83 n=true:=by grind
  unfold liesAt at h5;rw[Bool.or_eq_true]at h5
  grind[Jdd,Jxi]
 have sh:∀c t z,w.heap[a.block]?=some (.cells c t z)->row=t:=λc t z hc=>by
  simp only[World.shape?,hc]at h2
  grind
 refine⟨h1,?_,λc z hc=>?_,λc z hc=>?_,λc z hc=>?_⟩
 .cases hb:w.heap[a.block]? with
  |none=>simp[World.shape?,hb]at h2
  |some o=>grind
 all_goals grind[J066,rf0,J067]
def Jhk(P:Program)(tape:Nat->Question->Nat)(os:Os):(begin P tape os).world.heap[P.globals.size]?=some (.cells ((Array.range P.types.size).map λt=>.int .u64 (Int.ofNat t)) 0)/\P.globals.size<(begin P tape os).world.heap.size:=by
 unfold begin
 grind
def Jpd{P:Program}{w:JE}(h:w.ShapedOpen P):w.heap[P.globals.size]?=some (.cells ((Array.range P.types.size).map λt=>.int .u64 (Int.ofNat t)) 0):=by obtain⟨h1,h2⟩:=Jhk P (λ_ _=>0) default;obtain⟨o,o0,h3,h4,h5⟩:=h.2 P.globals.size (Ad _) h2;rw[h1]at h4;rw[h3];simp only[Nat.sub_self]at h5;rw[if_neg (by decide)]at h5;rw[h5,h4]
section
variable{H:Type}{enc:JH × JJ->H}{w:JE}{a0:JI}{len cap:Nat}{d:DataW H}{ps:List MemPlace}
def Jwg(IY:∃r b0,Value.okWide prog w r b0 27 (.slice a0 len cap))(h:DataW.Trod enc prog w 0 (λ_=>true) true 27 (.slice a0 len cap) d ps) :
  ∃rs:List Gi,rs.length=len/\qC w a0 rs/\∀a,a0=some a->a.block<w.heap.size/\(∀c z,w.heap[a.block]?≠some (.cells c wgT z))/\(∀c z,w.heap[a.block]?≠some (.cells c 0 z))/\∀c z,w.heap[a.block]?≠some (.cells c 159 z):=by
 obtain⟨r,b0,IY⟩:=IY;obtain⟨fuel,hf⟩:=h;rcases Deep.open_slice Jpc hf with⟨FH,_⟩|⟨a,len',Ee,m,n,D,Pl,FH,_,hl,hm,jH,_,hx⟩
 .simp[Value.cells]at FH;obtain⟨rfl,rfl,rfl⟩:=FH;exact⟨[],rfl,⟨λi r hr=>by simp at hr,λr hr=>by cases hr⟩,λa ha=>by cases ha⟩
 .simp[Value.cells]at FH;obtain⟨rfl,rfl,rfl⟩:=FH;have hh:w.has prog r b0 a 83 cap:=by
   simp only[Value.okWide,Jpc,Cell.okWide,Cell.ok]at IY
   grind
  obtain⟨e1,e2,e3,e4,e5⟩:=J068 hh;obtain⟨b,o,sp⟩:=a;simp only at e1 e2 e3 e4 e5;subst e1;rw[if_pos rfl]at jH;have each:∀i,i<len->∃q:Gi,Jnu q/\w.cell? ⟨b,o+i*5,none⟩=some (JK q.a)/\w.cell? ⟨b,o+i*5+1,none⟩=some (JK q.b)/\w.cell? ⟨b,o+i*5+2,none⟩=some (JK q.c)/\w.cell? ⟨b,o+i*5+3,none⟩=some (JK q.fact.it)/\w.cell? ⟨b,o+i*5+4,none⟩=some (JK q.fact.v):=by
   intro i hi;obtain⟨WJ,h1,h2⟩:=hx i (by omega);rw[ce53]at h1;obtain⟨_,hlen,Aq⟩:=World.cells?_some h1;obtain⟨f0,f1,f2,f3,f4,hu,⟨o0,o1,o2,o3,o4⟩,t0,t1,t2,t3,t4⟩:=Jxi;obtain⟨xs,k,hk,hxy,_,Rj,Uj⟩:=DataW.trod_struct hu h2;have hxl5:xs.length=5:=Rj;obtain⟨y0,y1,y2,y3,y4,rfl⟩:=Jkq hxl5;obtain⟨v0,v1,v2,v3,v4,rfl⟩:=Jkq hlen;have g0:=Uj 0 f0 rfl;have g1:=Uj 1 f1 rfl;have g2:=Uj 2 f2 rfl;have g3:=Uj 3 f3 rfl;have g4:=Uj 4 f4 rfl;simp[o0,o1,o2,o3,o4,t0,t1,t2,t3,t4,ce3]at g0 g1 g2 g3 g4;obtain⟨z0,w0,_,k0⟩:=DataW.trod_int TW g0;obtain⟨z1,w1,_,k1⟩:=DataW.trod_int TW g1;obtain⟨z2,w2,_,k2⟩:=DataW.trod_int TW g2;obtain⟨z3,w3,_,k3⟩:=DataW.trod_int TW g3;obtain⟨z4,w4,_,k4⟩:=DataW.trod_int TW g4;simp only[List.cons.injEq,and_true]at w0 w1 w2 w3 w4;subst w0 w1 w2 w3 w4;have i64:∀{z:Int},(Lit.int .i64 z).wf=true->I64 z:=λh=>by simp[Lit.wf,IntKind.min,IntKind.max,IntKind.signed,IntKind.bits]at h;exact⟨by omega,by omega⟩
   have c:∀j,j<5->w.cell? ⟨b,o+i*5+j,none⟩=[JK z0,JK z1,JK z2,JK z3,JK z4][j]?:=λj hj=>by
    have:=Aq j hj;rw[Deep.add_add]at this;unfold Addr.add at this;by_cases e:i*5+j=0
    .simp_all
    grind
   exact⟨⟨z0,z1,z2,z3,z4⟩,⟨i64 k0,i64 k1,i64 k2,i64 k3,i64 k4⟩,c 0 (by omega),c 1 (by omega),c 2 (by omega),c 3 (by omega),c 4 (by omega)⟩
  haveI:Inhabited Gi:=⟨⟨0,0,0,0,0⟩⟩
  obtain⟨F,hF⟩:=Deep.choose_lt each;refine⟨(List.range len).map F,by simp,⟨λi r hr=>?_,λr hr=>?_⟩,λa ha=>?_⟩
  .rw[List.getElem?_map]at hr;have hi:i<len:=by
    grind
   rw[List.getElem?_range hi]at hr;cases hr;obtain⟨_,q0,q1,q2,q3,q4⟩:=hF i hi;exact⟨b,o,rfl,e2,q0,q1,q2,q3,q4⟩
  all_goals grind
end
end Go.Sim.Z
section
namespace Go.Sim.Z
open Go Go.Proofs Go.RowKit Go.Conc Go.Maps
def Jzs{w w':JE}(h:∀b,b<w.heap.size->w'.heap[b]?=w.heap[b]?):w.heap.size<=w'.heap.size:=by
 grind
theorem Tryz.own:ownKnob prog.godebug=none:=by kernel_rfl
def yR:prog.globals.size=1:=by kernel_rfl
def und4:prog.underlying 4=some .bool:=by kernel_rfl
structure Starts(w:JE):Prop where
 hh:w.heap[1]?=some (.cells ((Array.range prog.types.size).map λt=>.int .u64 (Int.ofNat t)) 0)
 h0:w.heap[0]?=some (.cells #[.iface 226 (.agg #[.pointer (some ⟨1,33,none⟩)])] 159 (0,0))
def Starts.g1{w:JE}(h:Starts w):∃arr t,w.heap[1]?=some (.cells arr t (0,0))/\∀x∈arr.toList,∃k n,x=.int k n:=by
 refine⟨_,_,h.hh,λx hx=>?_⟩
 grind
abbrev E1(b:Nat):Prop:=b=1\/b=0
def Jsk{w:JE}(h:Starts w):BOk C0 S0 (λb=>b<w.heap.size/\¬E1 b) E1 w:=by
 have g1:=h.g1;refine⟨WR.self rfl λb hb=>?_,?_,λg hg=>?_,λb hb he=>hb.2 he⟩
 .rcases hb with rfl|rfl
  .refine⟨_,h.hh,_,_,rfl,.VZ λv hv=>?_,λh=>(C0.lax rfl _ h).elim,λ_=>⟨rfl,λ_=>rfl⟩⟩;simp only[Array.toList_map,AZ]at hv;obtain⟨t,_,rfl⟩:=hv;exact .int _ _
  .refine⟨_,h.h0,_,_,rfl,.VZ λv hv=>?_,λh=>(C0.lax rfl _ h).elim,λ_=>⟨rfl,λ_=>rfl⟩⟩;simp only[AL,BU,or_false]at hv;subst hv;refine .iface 226 (by kernel_rfl) (.agg rfl λi x x' hx Af=>?_);rw[hx]at Af;cases Af
   match i,hx with
   |0,hx=>cases hx;exact .ptr 33 none ⟨rfl,.inl rfl⟩
   |i+1,hx=>simp at hx
 .show E1 prog.globals.size;rw[yR];grind
 .have:g=0:=by simpa[S0]using hg
  grind
def Jsl{w:JE}(h:Starts w):HOk w:=by refine⟨_,_,⟨(0,0),by rw[yR];exact h.hh,λ_=>rfl⟩,λv hv=>?_⟩;simp only[Array.toList_map,AZ]at hv;obtain⟨t,_,rfl⟩:=hv;exact⟨_,_,rfl⟩
theorem Tryz.rtName:(prog.cutTypes.find? (·.1 == "internal/reflectlite.rtype")).map (·.2)=some 226:=by kernel_rfl
theorem Tryz.oneRow:((List.range 371).filter λt=>prog.rowNamed t [101,114,114,111,114])=[33]:=by kernel_rfl
theorem Tryz.glob:prog.globalNamed "errors.errorType"=some 0:=by kernel_rfl
theorem Tryz.row0:((begin prog (λ_ _=>0) default).world.heap[0]?).bind Obj.row?=some (#[.nilIface],159):=by kernel_rfl
def Jsm {w:JE} (Cj:w.ShapedOpen prog) (hl:laidMetH prog [("errors.errorType",Go.Proofs.YtlcbehhbfglgaaaGreatDoor.Rows.laid_errors_errorType)] w):Starts w:=by
 have h':laidMet prog [] w/\handlesMet prog [("errors.errorType",Go.Proofs.YtlcbehhbfglgaaaGreatDoor.Rows.laid_errors_errorType)] w:=hl;obtain⟨name,u,ty,e1,e2,e3,e4,e5⟩:=h'.2 _ (List.mem_singleton.2 rfl);have en:name=[101,114,114,111,114]:=(Aa e1).symm;subst en;obtain rfl:=Aa (Tryz.rtName.symm.trans e2);have hm:ty∈(List.range 371).filter λt=>prog.rowNamed t [101,114,114,111,114]:=Hq.2 ⟨List.mem_range.2 (by simp_all),e4⟩;rw[Tryz.oneRow]at hm;obtain rfl:=List.mem_singleton.1 hm;have hth:typeHandle prog 33=.pointer (some ⟨1,33,none⟩):=by kernel_rfl
 rw[hth]at e5;obtain⟨cs,h0,_⟩:=Cj.1 0 _ _ (by simp_all) Tryz.row0;simp only[World.var?,Tryz.glob,Option.bind_some,h0]at e5;obtain rfl:=Aa e5;have h1:=Jpd Cj;rw[yR]at h1;exact⟨h1,h0⟩
noncomputable def laidWorld(os:Os):JE:=
 let w0:=World.holding prog os ⟨#[],#[],[]⟩
 { w0 with heap:=w0.heap.modify 0 λ
   |.cells _ t frozen=>.cells #[.iface 226 (.agg #[.pointer (some ⟨1,33,none⟩)])] t frozen
   |o=>o }
def laidWorld_met (os:Os) (args:JC):laidMetH prog [("errors.errorType",Go.Proofs.YtlcbehhbfglgaaaGreatDoor.Rows.laid_errors_errorType)] ((laidWorld os).forCall (λ_ _=>0) ⟨#[],args,[]⟩).memory:=
 laidMetH_of_parts (laidMet_nil _ _) (by kernel_rfl)
end Go.Sim.Z
namespace Go.Proofs.YtlcbehhbfglgaaaGreatDoor
open Go.Sim.Z Go.ChangeShapes Go.WideShapes Go.ChangeAt Go.RowKit Go.Conc
theorem Jfl{p:Pinned}{s:OpenSpec}{c:OpenClaim}(OB:Bool × String)(lk:Bool)
  (hc:c.holds p s) (hw:c.wfByText s=true) (htie:c.laidByTextAt .later p [.handle] true)
  (Ae:c.start=.entering) (BL:c.noBlocks=false/\c.again=false) (hm:p.checked.prog.mainIs=some (OB.1,OB.2.toList)) (hn:(! OB.1 && OB.2.isEmpty && !lk)=false)
  (hl:∀f fn,p.checked.prog.funcNamed c.func=some f->p.checked.prog.funcs[f]?=some fn->lk=p.checked.prog.looks []/\∀(j:Nat) t,fn.params[j]?=some t->p.checked.prog.wantsStandIn t=false)
  (hg:true=c.goesBy p.checked.prog) :
  Claim7.holds p (.plain s) { stood:={ row:=c,standIns:=[],harness:=OB,looks:=lk },kinds:=[],alts:=[],goes:=true,laidByText:=true,laidKinds:=[.handle],laidTests:=true,laidLooks:=.later }:=by
 have h6:Claim7.isSixth { stood:={ row:=c,standIns:=[],harness:=OB,looks:=lk },kinds:=[] }=false:=by simpa[Claim7.isSixth]using hn
 exact⟨Claim7.tied_new_at .later [.handle] true (Claim7.new_of_sixth hc OB lk Ae BL hm h6 hl) hw,λD hD=>(by cases hD),htie,(λh=>by cases h),hg⟩
theorem ties:prog.laidByTextLater [("errors.errorType",Rows.laid_errors_errorType)] [.handle] true:=
 Program.laidByTextLater_by_one 16 8 2 (by kernel_rfl) (by kernel_rfl) (by kernel_rfl) (by kernel_rfl) (by kernel_rfl) (by kernel_rfl) (λ_ _=>by kernel_rfl)
end Go.Proofs.YtlcbehhbfglgaaaGreatDoor
end
section
namespace Go.Sim.Z
open Go Go.Proofs Go.RowKit Go.Conc Go.Maps
def J08q{w:JE}{c az mz:Int}{la lb:JI}{rs qI:List Gi}{n lc n2 mG:Nat}(hS:Starts w)(hc:I64 c)(ha:I64 az)(hm:I64 mz)(hR:qC w la rs)(hn:rs.length=n)(hR2:qC w lb qI)(Ij:qI.length=n2)
  (qB:∀a,lb=some a->a.block<w.heap.size/\(∀c z,w.heap[a.block]?≠some (.cells c wgT z))/\(∀c z,w.heap[a.block]?≠some (.cells c 0 z))/\∀c z,w.heap[a.block]?≠some (.cells c 159 z))
  (hA:∀a,la=some a->a.block<w.heap.size/\(∀c z,w.heap[a.block]?≠some (.cells c wgT z))/\(∀c z,w.heap[a.block]?≠some (.cells c 0 z))/\∀c z,w.heap[a.block]?≠some (.cells c 159 z)) :
  ∃M last o w' t',runNT prog (M+1) (solo (G (Frame.enter prog 7 #[JK c,.slice la n lc,.slice lb n2 mG,JK az,JK mz] .normal) []) w) #[]=(.ended o w',t')/\runN prog M (solo (G (Frame.enter prog 7 #[JK c,.slice la n lc,.slice lb n2 mG,JK az,JK mz] .normal) []) w)=.next last /\
   step prog last=.ended o w'/\Go.Conc.Good prog (λv w'=>v=.bool true/\(∀b,b<w.heap.size->w'.heap[b]?=w.heap[b]?)/\w'.os=w.os/\w'.output=w.output) last o w' t':=by
 have hW:∀b,(b<w.heap.size/\¬E1 b)->b<w.heap.size:=λb h=>h.1;rw[enter_at _ (show prog.funcs[7]?=some f7 by kernel_rfl) J0f3];have LH:f7.ntmps=117:=by kernel_rfl
 rw[LH,show(117-(#[JK c,.slice la n lc,.slice lb n2 mG,JK az,JK mz]:JC).size)=112 from rfl];obtain⟨T0,Lr⟩:∃T0,T0=#[JK c,.slice la n lc,.slice lb n2 mG,JK az,JK mz]++Array.replicate 112 JA:=⟨_,rfl⟩;rw[<- Lr];have sz:T0.size=117:=by rw[Lr];simp
 have s0:T0[0]?=some (JK c):=by rw[Lr];simp
 have s1:T0[1]?=some (.slice la n lc):=by rw[Lr];simp
 have s2:T0[2]?=some (.slice lb n2 mG):=by rw[Lr];simp
 have s3:T0[3]?=some (JK az):=by rw[Lr];simp
 have s4:T0[4]?=some (JK mz):=by rw[Lr];simp
 have sn:∀j x,5<=j->T0[j]?=some x->x=JA:=λj x h1 hx=>by
  rw[Lr,Array.getElem?_append_right (by simpa using h1),Array.getElem?_replicate]at hx;split at hx
  .exact(Aa hx).symm
  .cases hx
 clear Lr;have ht:TmR C0 S0 7 (idE E1) T0 T0:=by
  refine⟨rfl,λj x x' hj h1 h2=>?_,λj x hj _=>by cases hj⟩;rw[h1]at h2;cases h2
  match j with
  |0=>rw[s0]at h1;cases h1;exact .int _ _
  |1=>cases hj
  |2=>cases hj
  |3=>rw[s3]at h1;cases h1;exact .int _ _
  |4=>rw[s4]at h1;cases h1;exact .int _ _
  |j+5=>rw[sn _ x (by omega) h1];exact .undef
 have inW:∀{l:JI},(∀a,l=some a->a.block<w.heap.size/\(∀c z,w.heap[a.block]?≠some (.cells c wgT z))/\(∀c z,w.heap[a.block]?≠some (.cells c 0 z))/\∀c z,w.heap[a.block]?≠some (.cells c 159 z))->∀a,l=some a->a.block<w.heap.size/\¬E1 a.block:=λhA a ha=>⟨(hA a ha).1,λe=>by
  rcases e with e|e
  .exact(hA a ha).2.2.1 _ _ (by rw[e];exact hS.hh)
  .exact(hA a ha).2.2.2 _ _ (by rw[e];exact hS.h0)⟩
 obtain⟨M,last,o,w',t',h1,h2,h3,h4⟩:=Jhj hW (J07o (Jsk hS) (Jsl hS) ⟨_,hS.h0⟩ hS.g1 hc ha hm hR hn (inW hA) (λa ha=>(hA a ha).2.1) hR2 Ij (inW qB) (λa ha=>(qB a ha).2.1) sz s0 s1 s2 s3 s4 ht);refine⟨M,last,o,w',t',h1,h2,h3,?_⟩;obtain⟨v,a1,⟨⟨a2,a3⟩,a4,a5,a6⟩,a7⟩:=h4;refine⟨v,a1,⟨a2,λb hb=>?_,a5,a6⟩,a7⟩;by_cases e:E1 b
 .rcases e with rfl|rfl
  .rw[hS.hh];exact a3 _ _ (.inl rfl) hS.hh trivial
  .rw[hS.h0];exact a3 _ _ (.inr rfl) hS.h0 trivial
 .exact a4 b ⟨hb,e⟩
end Go.Sim.Z
namespace Go.Proofs.YtlcbehhbfglgaaaGreatDoor
open Go.Sim.Z Go.ChangeShapes Go.WideShapes Go.ChangeAt Go.RowKit Go.Conc
def J07h(os:Os)(started:os.Started)(H:Type)(enc:JH × JJ->H) :
  ReturnsInLeavingWide {} checked os 7 .any (λw args=>(Rows.wholeSpec.pre enc prog f7 [] false w args/\laidMetH prog [("errors.errorType",Rows.laid_errors_errorType)] w)/\sizedMet enc prog f7 (OpenSpec.ofChange Rows.wholeSpec) false w args) (Rows.wholeSpec.post enc prog f7 false true false false):=by
 refine returnsInLeavingWide_of_good (C:=checked) Go.Sim.Z.Tryz.own started
  (ChangeSpec.witness_at (enc:=enc) (C:=checked) (os:=os) (X:=λw _=>laidMetH prog [("errors.errorType",Rows.laid_errors_errorType)] w) false (laidWorld os) #[JK 0,.slice none 0 0,.slice none 0 0,JK 0,JK 0] 8 rfl (by kernel_rfl) (by kernel_rfl) (by kernel_rfl) (by kernel_rfl) (by kernel_rfl) (laidWorld_met os _)) ?_
 intro w tape i _ Cj _ hok QU _;obtain⟨_,_,_,PL,hfn',_,_,_,_,IY⟩:=hok;have hf4:checked.prog.funcs[7]?=some f7:=by kernel_rfl
 obtain rfl:PL=f7:=Aa (hfn'.symm.trans hf4);obtain⟨⟨⟨ds,gs,before,hw,hc⟩,iY⟩,hz⟩:=QU;have Rf:=DataW.Whole.of_heap (w':=w.forCall tape i) (by rfl) hw;have N8:=DataW.Whole.of_heap (w':=(w.forCall tape i).blind) (by rfl) hw;have J03w:laidMetH prog [("errors.errorType",Rows.laid_errors_errorType)] (w.forCall tape i):=laidMetH.of_heap (w:=(w.forCall tape i).memory) (by rfl) iY;obtain⟨wf,args,vars⟩:Input:=i;generalize hW:w.forCall tape ⟨wf,args,vars⟩=W at *;simp only at Rf N8 IY ⊢;have Ac:=Rf.lt;obtain⟨p,q,hA0,hV,rfl,_,_⟩:=Rf;have Zg:f7.params.toList=[3,27,27,3,3]:=by kernel_rfl
 have hA:DataW.TrodAll enc prog W 0 (λ_=>true) true f7.params.toList args.toList ds p:=hA0;rw[Zg]at hA;obtain⟨v0,_,d0,_,p0,_,hg,rfl,rfl,t0,r0⟩:=trodAll_cons hA;obtain⟨v1,_,d1,_,p1,_,rfl,rfl,rfl,t1,r1⟩:=trodAll_cons r0;obtain⟨v2,_,d2,_,p2,_,rfl,rfl,rfl,t2,r2⟩:=trodAll_cons r1;obtain⟨v3,_,d3,_,p3,_,rfl,rfl,rfl,t3,r3⟩:=trodAll_cons r2;obtain⟨v4,_,d4,_,p4,_,rfl,rfl,rfl,t4,r4⟩:=trodAll_cons r3;obtain⟨rfl,rfl,rfl⟩:=trodAll_nil r4;obtain rfl:args=#[v0,v1,v2,v3,v4]:=by cases args;simp_all
 obtain⟨rfl,rfl⟩:=trodVars_none hV;have MK:Value.okWide prog W .any w.heap.size 3 v0:=IY 0 3 v0 (by kernel_rfl) rfl;have XT:Value.okWide prog W .any w.heap.size 27 v1:=IY 1 27 v1 (by kernel_rfl) rfl;have Iw:Value.okWide prog W .any w.heap.size 27 v2:=IY 2 27 v2 (by kernel_rfl) rfl;have wC:Value.okWide prog W .any w.heap.size 3 v3:=IY 3 3 v3 (by kernel_rfl) rfl;have yF:Value.okWide prog W .any w.heap.size 3 v4:=IY 4 3 v4 (by kernel_rfl) rfl;obtain⟨c,rfl,rfl,rfl,hcw⟩:=open_int TW MK t0;obtain⟨az,rfl,rfl,rfl,haw⟩:=open_int TW wC t3;obtain⟨m,rfl,rfl,rfl,xW⟩:=open_int TW yF t4;obtain⟨la,n,lc,rfl⟩:=okWide_slice Jpc XT;obtain⟨lb,n2,mG,rfl⟩:=okWide_slice Jpc Iw;obtain⟨rs,hn,hR,fD⟩:=Jwg ⟨_,_,XT⟩ t1;obtain⟨qI,Ij,hR2,qB⟩:=Jwg ⟨_,_,Iw⟩ t2;have Un:∀{x:Int},(Lit.int .i64 x).wf=true->I64 x:=λh=>by simp[Lit.wf,IntKind.min,IntKind.max,IntKind.signed,IntKind.bits]at h;exact⟨by omega,by omega⟩
 obtain⟨M,last,o,w',t',h1,h2,h3,v,a1,⟨rfl,a3,a4,a5⟩,a6⟩:=J08q (Jsm Cj J03w) (Un hcw) (Un haw) (Un xW) hR hn hR2 Ij qB fD;refine⟨M,last,o,w',t',h1,h2,h3,_,a1,?_,a6⟩;have hb:Below W.blind.heap.size W.blind w'.blind:=⟨a4,rfl,a5,Jzs a3,a3⟩;have XG:∀x∈p1,x.block<W.blind.heap.size:=λx hx=>Ac x (by simp[hx]);have lZ:∀x∈p2,x.block<W.blind.heap.size:=λx hx=>Ac x (by simp[hx]);refine⟨[.lit (.int .i64 c),d1,d2,.lit (.int .i64 az),.lit (.int .i64 m)],[],_,[],[]++(p1++(p2++([]++[]))),[],N8,?_,?_,rfl,hb.frame _,λh=>by cases h⟩
 .have hrt:f7.resultTypes.toList=[4]:=by kernel_rfl
  have hrs:f7.resultTypes.size=1:=by kernel_rfl
  show DataW.TrodAll enc prog w'.blind W.blind.heap.size (λ_=>false) false f7.resultTypes.toList (Value.resultList f7.resultTypes.size (.bool true)) [.lit (.bool true)] [];rw[hrt,hrs];exact trodAll_mk1 (shut_bool und4 true)
 .show DataW.TrodAll enc prog w'.blind 0 (λb=>decide (b<W.blind.heap.size)) true f7.params.toList [.int .i64 c,.slice la n lc,.slice lb n2 mG,.int .i64 az,.int .i64 m] [.lit (.int .i64 c),d1,d2,.lit (.int .i64 az),.lit (.int .i64 m)] ([]++(p1++(p2++([]++[]))));rw[Zg];have tr:∀{v:JJ}{d:DataW H}{p:List MemPlace},DataW.Trod enc prog W 0 (λ_=>true) true 27 v d p->(∀x∈p,x.block<W.blind.heap.size)->DataW.Trod enc prog w'.blind 0 (λb=>decide (b<W.blind.heap.size)) true 27 v d p:=λt hp=>Below.trod Jie (by kernel_rfl) (of_decide_eq_true (by kernel_rfl)) (W:=W.blind) (DataW.Trod.of_heap (w:=W) (w':=W.blind) rfl t) hb hp;exact⟨_,_,shut_int TW hcw,trodAll_mk4 (tr t1 XG) (tr t2 lZ) (shut_int TW haw) (shut_int TW xW),rfl⟩
theorem J097:Rows.wholeRow.holds Tryz.pinned (OpenSpec.ofChange Rows.wholeSpec):=
 OpenClaim.holds_of_wide_leaving 7 f7 rfl rfl rfl rfl rfl rfl rfl ⟨rfl,rfl,rfl,rfl,rfl⟩ rfl rfl rfl rfl rfl (by kernel_rfl) (by kernel_rfl) (by kernel_rfl)
  (of_decide_eq_true (by kernel_rfl)) (by unfold Func.isWrapper;first|(rw[if_pos (by decide +kernel)];kernel_rfl)|(rw[if_neg (by decide +kernel)];exact⟨rfl,rfl⟩))
  (λos started H enc _=>J07h os started H enc)
theorem whole_holds:Rows.WholeCardSaid:=
 Jfl (true,"5f9b553737c49c39154d28e759f7273cb416c972bbacf44aba8fd4c471e003d3") true J097 (by kernel_rfl) (OpenClaim.laidByTextAt_later rfl rfl ties (by kernel_rfl)) rfl ⟨rfl,rfl⟩ (by kernel_rfl) rfl
  (λf fn hf Oc=>by
   obtain rfl:f=7:=Aa ((show prog.funcNamed "rollups/rollupskeep.Whole"=some 7 by kernel_rfl).symm.trans hf) |>.symm;obtain rfl:fn=f7:=(Aa ((show prog.funcs[7]?=some f7 by kernel_rfl).symm.trans Oc)).symm;exact⟨by kernel_rfl,λj t ht=>by
    have Zg:f7.params=#[3,27,27,3,3]:=by kernel_rfl
    rw[Zg]at ht;have h3:t=3\/t=27:=by
     match j,ht with
     |0,ht=>left;simpa using ht.symm
     |1,ht=>right;simpa using ht.symm
     |2,ht=>right;simpa using ht.symm
     |3,ht=>left;simpa using ht.symm
     |4,ht=>left;simpa using ht.symm
     |j+5,ht=>simp at ht
    rcases h3 with rfl|rfl
    .exact(show prog.wantsStandIn 3=false by kernel_rfl)
    .exact(show prog.wantsStandIn 27=false by kernel_rfl)⟩)
  (by kernel_rfl)
end Go.Proofs.YtlcbehhbfglgaaaGreatDoor
end
