/- Proved here: laws for the claim. No conditions. -/
import Derived.Test.YtlcbehhbfglgaaaGreatK25
set_option linter.all false
set_option maxHeartbeats 4000000
set_option maxRecDepth 100000
open Go.Proofs.Tryz
namespace Go.Sim.Z
open Go Go.Proofs Go.RowKit Go.Conc Go.Maps
noncomputable def VF:Code:=fC b14
noncomputable def D9:Array Oper:=opsOf (fC (sC b14))
noncomputable def DC:Array Oper:=opsOf (fC (sC (sC b14)))
theorem J08r:b14=.seq VF (.seq (.region 1 D9 false) (.seq (.region 2 DC false) Qc)):=by kernel_rfl
theorem J08s:f14.body=some b14:=by kernel_rfl
theorem J08t:Jj C0 S0 14 VF=true:=by kernel_rfl
theorem J08u:Jj C0 S0 14 Qc=true:=by kernel_rfl
theorem qQ:GH C0 14:=⟨f14,by kernel_rfl,by kernel_rfl,by kernel_rfl⟩
theorem df14:S0.df.contains 14=false:=rfl
theorem sQ:C0.hl 14≠[]:=by show[1000]≠[];simp
theorem hl14{i:Nat}(h:(C0.hl 14).contains i=true):i∈([]:List Nat)\/500<=i:=by have h':i∈[1000]:=Nh.1 h;simp at h';omega
theorem J06d:∃o,D9[0]?=some o/\o.op=.move (.tmp 0)/\o.guard=none/\o.dst=some 16:=by simp only[D9,opsOf,b14,fC,sC,f14,Ar];exact⟨_,rfl,rfl,rfl,rfl⟩
theorem J06e:∃o,D9[1]?=some o/\o.op=.move (.tmp 2)/\o.guard=none/\o.dst=some 17:=by simp only[D9,opsOf,b14,fC,sC,f14,Ar];exact⟨_,rfl,rfl,rfl,rfl⟩
theorem J06f:∃o,D9[2]?=some o/\o.op=.move (.tmp 3)/\o.guard=none/\o.dst=some 18:=by simp only[D9,opsOf,b14,fC,sC,f14,Ar];exact⟨_,rfl,rfl,rfl,rfl⟩
theorem J06g:∃o t,D9[3]?=some o/\o.op=.call { callee:=.value (.func 9),args:=#[.tmp 16,.tmp 17,.tmp 18,.const (.int .i64 1000)],argTypes:=t }/\o.guard=none/\o.dst=some 19:=by simp only[D9,opsOf,b14,fC,sC,f14,Ar];exact⟨_,_,rfl,rfl,rfl,rfl⟩
theorem J06h:∃o,D9[4]?=some o/\o.op=.move (.tmp 19)/\o.guard=none/\o.dst=some 15:=by simp only[D9,opsOf,b14,fC,sC,f14,Ar];exact⟨_,rfl,rfl,rfl,rfl⟩
theorem J06i:∃o,D9[5]?=some o/\o.op=.extract (.tmp 15) 0/\o.guard=none/\o.dst=some 20:=by simp only[D9,opsOf,b14,fC,sC,f14,Ar];exact⟨_,rfl,rfl,rfl,rfl⟩
theorem J06j:∃o,D9[6]?=some o/\o.op=.extract (.tmp 15) 1/\o.guard=none/\o.dst=some 21:=by simp only[D9,opsOf,b14,fC,sC,f14,Ar];exact⟨_,rfl,rfl,rfl,rfl⟩
theorem J06k:∃o,D9[7]?=some o/\o.op=.assign (.tmp 20)/\o.guard=none/\o.dst=some 9:=by simp only[D9,opsOf,b14,fC,sC,f14,Ar];exact⟨_,rfl,rfl,rfl,rfl⟩
theorem J06l:∃o,D9[8]?=some o/\o.op=.assign (.tmp 21)/\o.guard=none/\o.dst=some 10:=by simp only[D9,opsOf,b14,fC,sC,f14,Ar];exact⟨_,rfl,rfl,rfl,rfl⟩
theorem J06m:∃o,DC[0]?=some o/\o.op=.move (.tmp 1)/\o.guard=none/\o.dst=some 23:=by simp only[DC,opsOf,b14,fC,sC,f14,Ar];exact⟨_,rfl,rfl,rfl,rfl⟩
theorem J06n:∃o,DC[1]?=some o/\o.op=.move (.tmp 2)/\o.guard=none/\o.dst=some 24:=by simp only[DC,opsOf,b14,fC,sC,f14,Ar];exact⟨_,rfl,rfl,rfl,rfl⟩
theorem J06o:∃o,DC[2]?=some o/\o.op=.move (.tmp 3)/\o.guard=none/\o.dst=some 25:=by simp only[DC,opsOf,b14,fC,sC,f14,Ar];exact⟨_,rfl,rfl,rfl,rfl⟩
theorem J06p:∃o t,DC[3]?=some o/\o.op=.call { callee:=.value (.func 9),args:=#[.tmp 23,.tmp 24,.tmp 25,.const (.int .i64 1000)],argTypes:=t }/\o.guard=none/\o.dst=some 26:=by simp only[DC,opsOf,b14,fC,sC,f14,Ar];exact⟨_,_,rfl,rfl,rfl,rfl⟩
theorem J06q:∃o,DC[4]?=some o/\o.op=.move (.tmp 26)/\o.guard=none/\o.dst=some 22:=by simp only[DC,opsOf,b14,fC,sC,f14,Ar];exact⟨_,rfl,rfl,rfl,rfl⟩
theorem J06r:∃o,DC[5]?=some o/\o.op=.extract (.tmp 22) 0/\o.guard=none/\o.dst=some 27:=by simp only[DC,opsOf,b14,fC,sC,f14,Ar];exact⟨_,rfl,rfl,rfl,rfl⟩
theorem J06s:∃o,DC[6]?=some o/\o.op=.extract (.tmp 22) 1/\o.guard=none/\o.dst=some 28:=by simp only[DC,opsOf,b14,fC,sC,f14,Ar];exact⟨_,rfl,rfl,rfl,rfl⟩
theorem J06t:∃o,DC[7]?=some o/\o.op=.assign (.tmp 27)/\o.guard=none/\o.dst=some 11:=by simp only[DC,opsOf,b14,fC,sC,f14,Ar];exact⟨_,rfl,rfl,rfl,rfl⟩
theorem J06u:∃o,DC[8]?=some o/\o.op=.assign (.tmp 28)/\o.guard=none/\o.dst=some 12:=by simp only[DC,opsOf,b14,fC,sC,f14,Ar];exact⟨_,rfl,rfl,rfl,rfl⟩
section
variable{w:JE}{T:JC}{d:Deferred}{v0 v1 v2 v3:JJ}
theorem J05f(Ae:T.size=59)(h0:T[0]?=some v0)(h1:T[1]?=some v1)(h2:T[2]?=some v2)(h3:T[3]?=some v3) :
  VF.wp prog (λe a w'=>e=.normal/\a.tmps.size=59/\a.tmps[0]?=some v0/\a.tmps[1]?=some v1/\a.tmps[2]?=some v2/\a.tmps[3]?=some v3/\w'.heap=w.heap) ⟨T,[d]⟩ w:=by
 obtain⟨f,rfl⟩:=qW Ae;rw[uY]at *;have e0:f 0=_:=Aa h0;have e1:f 1=_:=Aa h1;have e2:f 2=_:=Aa h2;have e3:f 3=_:=Aa h3;rw[e0,e1,e2,e3];simp only[VF,b14,fC,f14,Ar];go_wp2
end
theorem J09j{A:JC}{a b c d:JJ}(h:A=#[a,b,c,d]):A++Array.replicate (f9.ntmps-A.size) JA=#[a,b,c,d,JA,JA,JA,JA,JA,JA,JA,JA,JA,JA,JA,JA,JA,JA,JA,JA,JA,JA,JA,JA,JA,JA,JA,JA,JA,JA,JA,JA,JA]:=by
 subst h;have KO:f9.ntmps=33:=by kernel_rfl
 rw[KO];show _++Array.replicate 29 JA=_;rw[show Array.replicate 29 JA=#[JA,JA,JA,JA,JA,JA,JA,JA,JA,JA,JA,JA,JA,JA,JA,JA,JA,JA,JA,JA,JA,JA,JA,JA,JA,JA,JA,JA,JA]from by kernel_rfl];simp only[List.append_toArray,Hr,Gm]
section
variable{W E:JB}{w:JE}{x m:Nat}{c:J8}{seed nf:Int}{h:JJ}{vm src:Nat}{S:List TR}{T:JC}{id:Nat}{ops:Array Oper}{rest:Code}{ca s0 s1 s2 sc st sa sb sx sy:Nat}{k:List Item}{cs:List Frame}{Post:(JB)->JF->JE->Prop}
theorem uU(H:HS 14 W E w E T w)(hT:T.size=59)(ta:T[ca]?=some (pt x))(t2:T[2]?=some (.int .i64 m))(t3:T[3]?=some (.slice none 0 0))(hr:List.range ops.size=[0,1,2,3,4,5,6,7,8])
  (p0:∃o:Oper,ops[0]?=some o/\o.op=Op.move (Operand.tmp ca)/\o.guard=none/\o.dst=some s0) (p1:∃o:Oper,ops[1]?=some o/\o.op=Op.move (Operand.tmp 2)/\o.guard=none/\o.dst=some s1) (p2:∃o:Oper,ops[2]?=some o/\o.op=Op.move (Operand.tmp 3)/\o.guard=none/\o.dst=some s2)
  (p3:∃(o:Oper)(t:Array JH),ops[3]?=some o/\o.op=Op.call { callee:=Callee.value (Operand.func 9),args:=#[Operand.tmp s0,Operand.tmp s1,Operand.tmp s2,Operand.const (Value.int .i64 1000)],argTypes:=t }/\o.guard=none/\o.dst=some sc)
  (p4:∃o:Oper,ops[4]?=some o/\o.op=Op.move (Operand.tmp sc)/\o.guard=none/\o.dst=some st) (p5:∃o:Oper,ops[5]?=some o/\o.op=Op.extract (Operand.tmp st) 0/\o.guard=none/\o.dst=some sa) (p6:∃o:Oper,ops[6]?=some o/\o.op=Op.extract (Operand.tmp st) 1/\o.guard=none/\o.dst=some sb) (p7:∃o:Oper,ops[7]?=some o/\o.op=Op.assign (Operand.tmp sa)/\o.guard=none/\o.dst=some sx) (p8:∃o:Oper,ops[8]?=some o/\o.op=Op.assign (Operand.tmp sb)/\o.guard=none/\o.dst=some sy)
  (hs:s0<59/\s1<59/\s2<59/\sc<59/\st<59/\sa<59/\sb<59/\sx<59/\sy<59) (hd:s0≠2/\s0≠3/\s1≠3/\s0≠s1/\s0≠s2/\s1≠s2) (hn:sa≠st/\sb≠sa/\sx≠sb/\sy≠sx)
  (q:KY E w x c seed h nf vm src S) (Ih:m<8) (hin:∀t∈S,HIn 200 t.B) (WV:S.length<=200) (hTl:∀T:List TR,(T.map (·.k)).Nodup->Sum c (tm T) (EG S m (λ_=>true))->(T.length:Int)<=1000)
  (kn:∀W' E' w0 w1 w2 v Tt ks L T',KE E w w0->Jsz E w0 c S m W' E' w1 v Tt ks L->HS 14 W' E' w1 E' T' w2->T'.size=59->T'[sx]?=some v->T'[sy]?=some .nilIface->(∀j,j≠s0->j≠s1->j≠s2->j≠sc->j≠st->j≠sa->j≠sb->j≠sx->j≠sy->T'[j]?=T[j]?)->w2.heap=w1.heap->Reach prog Post W' (G ((Go.Conc.base 14).at ⟨T',[]⟩ (.code rest::k)) cs) w2) :
  Reach prog Post W (G ((Go.Conc.base 14).at ⟨T,[]⟩ (.code (.seq (.region id ops false) rest)::k)) cs) w:=by
 obtain⟨o0,h0,a0,g0,d0⟩:=p0;obtain⟨o1,h1,a1,g1,d1⟩:=p1;obtain⟨o2,h2,a2,g2,d2⟩:=p2;obtain⟨o3,ty,h3,a3,g3,d3⟩:=p3;refine J6 (λw1=>stepG_seq) rfl λe1=>?_;refine J6 (λw1=>stepG_region) rfl λe2=>?_;rw[hr];have vx:VR C0 (idE E) (pt x) (pt x):=.ptr _ _ ⟨rfl,q.xE.1⟩;refine Jc (v:=pt x) ((H.at e1).at e2) h0 (by simp[Region.wanted,g0]) d0 (λw1=>by simp[execOp,a0,Act.eval,BH,ta]) (λw1=>by simp[execOp,a0,Act.eval]) (.inr vx) λw1 H1 q1=>?_;have u2:(T.setIfInBounds s0 (pt x))[2]?=some (.int .i64 m):=(AQ hd.1).trans t2;refine Jc (v:=.int .i64 m) H1 h1 (by simp[Region.wanted,g1]) d1 (λw1=>by simp[execOp,a1,Act.eval,BH,u2]) (λw1=>by simp[execOp,a1,Act.eval]) (.inr (.int _ _)) λw2 H2 q2=>?_;have u3:((T.setIfInBounds s0 (pt x)).setIfInBounds s1 (.int .i64 m))[3]?=some (.slice none 0 0):=(AQ hd.2.2.1).trans ((AQ hd.2.1).trans t3);refine Jc (v:=.slice none 0 0) H2 h2 (by simp[Region.wanted,g2]) d2 (λw1=>by simp[execOp,a2,Act.eval,BH,u3]) (λw1=>by simp[execOp,a2,Act.eval]) (.inr (.Jo _ _)) λw3 H3 q3=>?_;obtain⟨T3,Qv⟩:∃T3,T3=((T.setIfInBounds s0 (pt x)).setIfInBounds s1 (.int .i64 m)).setIfInBounds s2 (.slice none 0 0):=⟨_,rfl⟩;rw[<- Qv]at H3 ⊢;have z3:T3.size=59:=by rw[Qv];simpa using hT
 have y0:T3[s0]?=some (pt x):=by rw[Qv,AQ (Ne.symm hd.2.2.2.2.1),AQ (Ne.symm hd.2.2.2.1),EX (by omega)]
 have y1:T3[s1]?=some (.int .i64 m):=by rw[Qv,AQ (Ne.symm hd.2.2.2.2.2),EX (by simp;omega)]
 have y2:T3[s2]?=some (.slice none 0 0):=by rw[Qv,EX (by simp;omega)]
 have ys:∀j,j≠s0->j≠s1->j≠s2->T3[j]?=T[j]?:=λj m0 m1 m2=>by rw[Qv,AQ (Ne.symm m2),AQ (Ne.symm m1),AQ (Ne.symm m0)]
 clear Qv u2 u3;refine Reach.call (B:=Go.Conc.base 14) (a:=⟨T3,[]⟩) h3 (by simp[Region.wanted,g3]) (by simp[Go.Conc.base]) a3 (fn:=f9) (c:=b9) (by kernel_rfl) (by kernel_rfl) body9 λe4=>?_;rw[J09j (A:=#[Operand.tmp s0,.tmp s1,.tmp s2,.const (.int .i64 1000)].map (Act.eval ⟨T3,[]⟩)) (a:=pt x) (b:=.int .i64 m) (c:=.slice none 0 0) (d:=.int .i64 1000) (by simp[Act.eval,BH,y0,y1,y2])];have kD:=(H3.at e4).ke;refine J7r (x:=x) (m:=m) (most:=1000) (M:=200) (S:=S) (H3.at e4).bok (q.ke kD H.bok.hnd λ_ h=>h) Ih (by omega) hin (by omega) (by omega) hTl λW' E' wF v Tt ks L qo=>?_;rw[h3];simp only[Option.bind_some,d3];have HF:HS 14 W' E' wF E' T3 wF:=⟨qo.bok,λ_ h=>h,.refl,λ_ _=>rfl,H3.tm.mono (Ox qo.le),rfl,Ad _⟩;have HG:=HF.put (HF.set (s:=sc) (.inr (vtup qo.vE)));refine Jlk (i:=4) (sR:=sc) (sT:=st) (sA:=sa) (sB:=sb) (sX:=sx) (sY:=sy) HG (EX (by show sc<T3.size;omega)) qo.vE (by simp only[Array.size_setIfInBounds,z3];omega) hn p4 p5 p6 p7 p8 λT' w' HG' n1 n2 n3 n4 n5=>?_;refine J6 (λw1=>stepG_region_end) rfl λd6=>?_;exact kn W' E' _ wF (w'.at d6) v Tt ks L T' kD qo (HG'.at d6) (by rw[n1];simpa using z3) n2 n3 (λj m0 m1 m2 m3 m4 m5 m6 m7 m8=>by rw[n4 j m4 m5 m6 m7 m8,AQ (Ne.symm m3),ys j m0 m1 m2]) n5
end
section
variable{W E:JB}{w:JE}{x y m:Nat}{c c':J8}{seed nf J09k oG:Int}{h h':JJ}{vm src nY src':Nat}{S S':List TR}{b₀:Frame}{a₀:Act}{ops:Array Oper}{i:Nat}{rest:List Nat}{kk:List Item}{cs:List Frame}{Post:(JB)->JF->JE->Prop}
theorem J01x{T0:JC}(hB:BOk C0 S0 W E w)(qx:KY E w x c seed h nf vm src S)(qy:KY E w y c' J09k h' oG nY src' S')(Ih:m<8)(hix:∀t∈S,HIn 200 t.B)(hSx:S.length<=200)(hTx:∀T:List TR,(T.map (·.k)).Nodup->Sum c (tm T) (EG S m (λ_=>true))->(T.length:Int)<=1000)(hiy:∀t∈S',HIn 200 t.B)(vP:S'.length<=200)(hTy:∀T:List TR,(T.map (·.k)).Nodup->Sum c' (tm T) (EG S' m (λ_=>true))->(T.length:Int)<=1000)
  (Rj:∀A B:List TR,(A.map (·.k)).Nodup->(B.map (·.k)).Nodup->Sum c (tm A) (EG S m (λ_=>true))->Sum c' (tm B) (EG S' m (λ_=>true))->∀k,tm A k=tm B k)
  (Ae:T0.size=59) (t0:T0[0]?=some (pt x)) (t1:T0[1]?=some (pt y)) (t2:T0[2]?=some (.int .i64 m)) (t3:T0[3]?=some (.slice none 0 0)) (BA:TmR C0 S0 14 (idE E) T0 T0)
  (kn:∀W' E' w',(∀b,E b->E' b)->BOk C0 S0 W' E' w'->KE E w w'->Reach prog Post W' (G (b₀.at (a₀.put ((ops[i]?).bind (·.dst)) (.bool true)) (.inRegion ops rest::kk)) cs) w') :
  Reach prog Post W (G ((Go.Conc.base 14).at ⟨T0,[]⟩ [.code b14]) (b₀.at a₀ (.inRegion ops (i::rest)::kk)::cs)) w:=by
 rw[J08r];refine QU [] (λ_=>hl14) sQ J08t qQ df14 hB BA (by omega) (Q:=λt w1=>t.size=59/\t[0]?=some (pt x)/\t[1]?=some (pt y)/\t[2]?=some (.int .i64 m)/\t[3]?=some (.slice none 0 0)/\w1.heap=w.heap) (λτ=>wp_mono (J05f (w:=w.tp τ 0) Ae t0 t1 t2 t3) λe a w1 ⟨q1,q2,q3,q4,q5,q6,q7⟩=>⟨q1,by omega,(λi hi=>by cases hi),q2,q3,q4,q5,q6,q7⟩) λE1 T1 wb1 w1 KH Cj AV A8 ⟨z,z0,z1,z2,z3,zh⟩ _=>?_;have k1:KE E w w1:=(KE.of_eq λb _=>by rw[zh]).trans ((Jy rfl AV).mono KH);have qx1:=qx.ke k1 hB.hnd KH;have qy1:=qy.ke k1 hB.hnd KH;have H1:HS 14 W E1 w1 E1 T1 w1:=⟨Cj,λ_ h=>h,.refl,λ_ _=>rfl,A8,rfl,Ad _⟩;clear zh;refine uU (ca:=0) H1 z z0 z2 z3 (by kernel_rfl) J06d J06e J06f J06g J06h J06i J06j J06k J06l (by omega) (by omega) (by omega) qx1 Ih hix hSx hTx λW2 E2 u0 u1 w2 v Ta ks L T2 ke0 qo H2 s s9 bM ss sh=>?_;have k2:KE E1 w1 w2:=ke0.trans (qo.ke.trans (.of_eq λb _=>by rw[sh]));have qy2:=qy1.ke k2 Cj.hnd qo.le;refine uU (ca:=1) (show HS 14 W2 E2 w2 E2 T2 w2 from H2.start) s ((ss 1 (by omega) (by omega) (by omega) (by omega) (by omega) (by omega) (by omega) (by omega) (by omega)).trans z1) ((ss 2 (by omega) (by omega) (by omega) (by omega) (by omega) (by omega) (by omega) (by omega) (by omega)).trans z2) ((ss 3 (by omega) (by omega) (by omega) (by omega) (by omega) (by omega) (by omega) (by omega) (by omega)).trans z3) (by kernel_rfl) J06m J06n J06o J06p J06q J06r J06s J06t J06u (by omega) (by omega) (by omega) qy2 Ih hiy vP hTy λW3 E3 v0 v1 w3 v' Tb Vb L' T3 ke0' Iw H3 r UE lD rr rh=>?_;have k3:KE E2 w2 w3:=ke0'.trans (Iw.ke.trans (.of_eq λb _=>by rw[rh]));have r9:=(rr 9 (by omega) (by omega) (by omega) (by omega) (by omega) (by omega) (by omega) (by omega) (by omega)).trans s9;have nH:=(rr 10 (by omega) (by omega) (by omega) (by omega) (by omega) (by omega) (by omega) (by omega) (by omega)).trans bM;obtain⟨va,vc,hv⟩:=J7c qo.row;obtain⟨YD,Yw,MH⟩:=J7c Iw.row;have Jo1:∀τ,Qc.wp prog (λe a w'=>e=.ret/\a.defers=[Jp]/\a.tmps.size=59/\a.tmps[8]?=some (.bool true)/\Tch (w3.tp τ 0).heap.size M0 (w3.tp τ 0) w') ⟨T3,[Jp]⟩ (w3.tp τ 0):=by
  intro τ;have Ac:=hTx _ qo.nd qo.sum;have Q5:L.length=Ta.length:=by rw[qo.outs.1];have:=qo.keys.length;simpa using this
  by_cases h0:L.length=0
  ·obtain⟨pl,_⟩:=Zf (w:=w3.tp τ 0) (ga:=0) (gb:=0) qo.nd Iw.nd (Rj _ _ qo.nd Iw.nd qo.sum Iw.sum) qo.keys Iw.keys qo.outs Iw.outs qo.tok qx.cfg;rw[hv,h0]at r9;rw[MH,<- pl,h0]at UE;exact sN (ga:=0) (gb:=0) r r9 nH UE lD (by omega) (λh=>by omega) λj hj=>by omega
  ·obtain⟨g1,c1,e1,R1⟩:=qO qo.outs qo.row (by omega);obtain⟨pl,pp⟩:=Zf (w:=w3.tp τ 0) (ga:=g1) (gb:=0) qo.nd Iw.nd (Rj _ _ qo.nd Iw.nd qo.sum Iw.sum) qo.keys Iw.keys qo.outs Iw.outs qo.tok qx.cfg;obtain⟨g2,c2,e2,R2⟩:=qO Iw.outs Iw.row (by omega);obtain⟨_,pp⟩:=Zf (w:=w3.tp τ 0) (ga:=g1) (gb:=g2) qo.nd Iw.nd (Rj _ _ qo.nd Iw.nd qo.sum Iw.sum) qo.keys Iw.keys qo.outs Iw.outs qo.tok qx.cfg;have eg:E2 g1:=by have:=qo.vE;rw[e1]at this;exact this.Ik
   have Ra:Sz (w3.tp τ 0) g1 L:=((R1.at sh).ke H2.bok.wr eg k3).at rfl;have Rb:Sz (w3.tp τ 0) g2 L':=R2.at rh;rw[e1]at r9;rw[e2,<- pl]at UE;exact sN (ga:=g1) (gb:=g2) r r9 nH UE lD (by omega) (λ_=>⟨rfl,rfl⟩) (pp Ra Rb)
 refine Reach.ret (b:=Go.Conc.base 14) (X0:=[.code Qc]) (k:=[]) MZ rfl (.cons (.code J08u) .nil) qQ df14 sQ (by simp[Go.Conc.base]) H3.bok H3.tm (Q:=λt1 w1=>t1[8]?=some (.bool true)/\∀b,b<w3.heap.size->w1.heap[b]?=w3.heap[b]?) (λτ=>?_) λE4 T4 w4 wA todo jW II MO QB ⟨y1,y2⟩=>?_
 ·refine LGo.wp (wp_mono (Jo1 τ) λe b w' ⟨n1,n2,n3,n4,n5⟩=>?_);subst n1;refine Cont.ret ⟨λi hi Oa=>?_,n4,λb hb=>n5.heap b hb λx=>x⟩ n2;rcases hl14 hi with h|h
  ·cases h
  ·omega
 ·refine Reach.leave1 (B:=Go.Conc.base 14) rfl rfl (fn:=f14) (by kernel_rfl) (x:=8) (by kernel_rfl) λd12=>?_;have k4:KE E3 w3 wA:=(KE.of_eq λb hb=>y2 b (H3.bok.lt hb)).trans ((Jy rfl MO).mono jW);rw[show(Act.mk T4 []).tmps.getD 8 JA=.bool true from by simp[BH,y1]];exact kn W3 E4 (wA.at d12) (λb hb=>jW b (Iw.le b (qo.le b (KH b hb)))) (II.at d12) ((k1.trans ((k2.mono KH).trans ((k3.mono λb hb=>qo.le b (KH b hb)).trans (k4.mono λb hb=>Iw.le b (qo.le b (KH b hb)))))).trans (.of_eq λ_ _=>rfl))
end
abbrev vH:=Jg × Nat × Nat
def UA(p:vH):List JJ:=[.slice (some ⟨p.2.1,0,none⟩) p.1.k.length p.2.2,.int .i64 p.1.it,.int .i64 p.1.v]
structure Jo2(w:JE)(base:Nat)(pl:List Nat)(v:JJ)(L:List vH):Prop where
 own:w.ownsRow base 47 3 v L.length (L.flatMap UA)
 rows:∀p∈L,p.2.1∈pl/\Row false w p.2.1 3 .i64 p.1.k p.2.2
theorem qV:∀(L:List vH)(i:Nat)(p:vH),L[i]?=some p->∀j,j<3->(L.flatMap UA)[i*3+j]?=(UA p)[j]?
 |[],i,p,h,_,_=>by simp at h
 |q::L,0,p,h,j,hj=>by
  simp at h;subst h;rw[List.flatMap_cons,List.getElem?_append_left (by simp[UA];omega)];simp
 |q::L,i+1,p,h,j,hj=>by rw[List.getElem?_cons_succ]at h;rw[List.flatMap_cons,List.getElem?_append_right (by simp[UA];omega)];have:=qV L i p h j hj;rw[show(i+1)*3+j-(UA q).length=i*3+j by simp[UA];omega];exact this
theorem Jo2.at{w:JE}{base:Nat}{pl:List Nat}{v:JJ}{L:List vH}(h:Jo2 w base pl v L):∃ga cap Lr,v=.slice ga L.length cap/\Fa false w ga (L.map (·.1)) cap Lr/\∀y∈Lr,y∈pl\/base<=y:=by
 rcases h.own.2 with⟨rfl,h0⟩|⟨g,cap,cur,rfl,hb,hg,h1,h2,h3,h4⟩
 ·have:L=[]:=List.eq_nil_of_length_eq_zero h0;subst this;exact⟨none,0,[],rfl,⟨λx hx=>(by cases hx),λi f hf=>(by simp at hf),(by simp)⟩,λy hy=>(by cases hy)⟩
 ·refine⟨some ⟨g,0,none⟩,cap,g::L.map (·.2.1),rfl,⟨λx hx=>?_,λi f hf=>?_,by simpa using h1⟩,λy hy=>?_⟩
  ·rcases AO.1 hx with rfl|hx
   ·exact Ji hg
   ·obtain⟨p,hp,rfl⟩:=AY.1 hx;exact(h.rows p hp).2.lt
  ·rw[List.getElem?_map]at hf;cases hp:L[i]? with
   |none=>rw[hp]at hf;cases hf
   |some p=>
    rw[hp]at hf;cases hf;have hm:=NK hp;have Ac:i<L.length:=(List.getElem?_eq_some_iff.1 hp).1;have e:∀j,j<3->w.cell? ⟨g,i*3+j,none⟩=(UA p)[j]?:=λj hj=>by rw[cell_of hg,<- qV L i p hp j hj,<- h4,List.getElem?_take_of_lt (by omega)];simp
    exact⟨g,p.2.1,p.2.2,rfl,by simp,List.mem_cons_of_mem _ (AY.2 ⟨p,hm,rfl⟩),e 0 (by omega),e 1 (by omega),e 2 (by omega),(h.rows p hm).2⟩
  ·rcases AO.1 hy with rfl|hy
   ·exact .inr hb
   ·obtain⟨p,hp,rfl⟩:=AY.1 hy;exact .inl (h.rows p hp).1
theorem J050{W:JE}{x0 x1 x2:JJ}{t:JH}:∀j u,([x0,x1,x2]:List JJ)[j]?=some u->(W.alloc (.cells #[x0,x1,x2] t)).cell? ((⟨W.heap.size,0,none⟩:Addr).add j)=some u:=λj u h=>by
 rw[add0,cell_of (Ja _)]
 match j,h with
 |0,h=>exact h
 |1,h=>exact h
 |2,h=>exact h
theorem Ic(f:Nat->JJ):((List.range 86).map f).toArray=#[f 0,f 1,f 2,f 3,f 4,f 5,f 6,f 7,f 8,f 9,f 10,f 11,f 12,f 13,f 14,f 15,f 16,f 17,f 18,f 19,f 20,f 21,f 22,f 23,f 24,f 25,f 26,f 27,f 28,f 29,f 30,f 31,f 32,f 33,f 34,f 35,f 36,f 37,f 38,f 39,f 40,f 41,f 42,f 43,f 44,f 45,f 46,f 47,f 48,f 49,f 50,f 51,f 52,f 53,f 54,f 55,f 56,f 57,f 58,f 59,f 60,f 61,f 62,f 63,f 64,f 65,f 66,f 67,f 68,f 69,f 70,f 71,f 72,f 73,f 74,f 75,f 76,f 77,f 78,f 79,f 80,f 81,f 82,f 83,f 84,f 85]:=by rfl
theorem Hu{T:JC}(h:T.size=86):∃f:Nat->JJ,T=((List.range 86).map f).toArray:=⟨_,Zd h⟩
noncomputable def b5:Code:=f5.body.getD .skip
noncomputable def Jjx:Code:=fC b5
noncomputable def Ns:Array Oper:=opsOf (fC (sC b5))
noncomputable def I7:Array Oper:=opsOf (fC (sC (sC b5)))
noncomputable def Nr:Array Oper:=opsOf (fC (sC (sC (sC b5))))
noncomputable def yZ:Code:=fC (sC (sC (sC (sC b5))))
noncomputable def Jjz:Code:=fC (sC (sC (sC (sC (sC b5)))))
noncomputable def Jk0:Code:=fC (sC (sC (sC (sC (sC (sC b5))))))
noncomputable def Jk1:Code:=fC (sC (sC (sC (sC (sC (sC (sC b5)))))))
noncomputable def VW:Code:=fC (sC (sC (sC (sC (sC (sC (sC (sC b5))))))))
noncomputable def V6:Code:=fC (sC (sC (sC (sC (sC (sC (sC (sC (sC b5)))))))))
noncomputable def VQ:Code:=fC (sC (sC (sC (sC (sC (sC (sC (sC (sC (sC b5))))))))))
noncomputable def G7:Array Oper:=opsOf (fC (sC (sC (sC (sC (sC (sC (sC (sC (sC (sC (sC b5))))))))))))
noncomputable def Tm:Code:=fC (sC (sC (sC (sC (sC (sC (sC (sC (sC (sC (sC (sC b5))))))))))))
noncomputable def S9:Code:=fC (sC (sC (sC (sC (sC (sC (sC (sC (sC (sC (sC (sC (sC b5)))))))))))))
noncomputable def SY:Code:=sC (sC (sC (sC (sC (sC (sC (sC (sC (sC (sC (sC (sC (sC b5)))))))))))))
theorem J09m:b5=.seq Jjx (.seq (.region 1 Ns false) (.seq (.region 2 I7 false) (.seq (.region 3 Nr false) (.seq yZ (.seq Jjz (.seq Jk0 (.seq Jk1 (.seq VW (.seq V6 (.seq VQ (.seq (.region 15 G7 false) (.seq Tm (.seq S9 SY))))))))))))):=by kernel_rfl
theorem body5:f5.body=some b5:=by kernel_rfl
theorem J09n:Jj C0 S0 5 Jjx=true:=by kernel_rfl
theorem J09o:Jj C0 S0 5 yZ=true:=by kernel_rfl
theorem J09p:Jj C0 S0 5 Jjz=true:=by kernel_rfl
theorem J09q:Jj C0 S0 5 Jk0=true:=by kernel_rfl
theorem J09r:Jj C0 S0 5 Jk1=true:=by kernel_rfl
theorem J08x:Jj C0 S0 5 VW=true:=by kernel_rfl
theorem J08y:Jj C0 S0 5 V6=true:=by kernel_rfl
theorem J08z:Jj C0 S0 5 VQ=true:=by kernel_rfl
theorem J09s:Jj C0 S0 5 (.seq Tm (.seq S9 SY))=true:=by kernel_rfl
theorem VN:GH C0 5:=⟨f5,by kernel_rfl,by kernel_rfl,by kernel_rfl⟩
theorem df5:S0.df.contains 5=false:=rfl
theorem Lc:C0.hl 5≠[]:=by show[1,21,1000]≠[];simp
theorem hl5{i:Nat}(h:(C0.hl 5).contains i=true):i∈([1,21]:List Nat)\/500<=i:=by have h':i∈[1,21,1000]:=Nh.1 h;simp at h' ⊢;omega
theorem hl5'{i:Nat}(h:i<500/\i≠1/\i≠21):(C0.hl 5).contains i=false:=by
 cases e:(C0.hl 5).contains i with
 |false=>rfl
 |true=>
  have h1:=hl5 e;simp at h1;omega
theorem J091:∃o,Ns[0]?=some o/\o.op=.move (.tmp 1)/\o.guard=none/\o.dst=some 21:=by simp only[Ns,opsOf,b5,fC,sC,f5,Ar];exact⟨_,rfl,rfl,rfl,rfl⟩
theorem J092:∃o t,Ns[1]?=some o/\o.op=.call { callee:=.value (.func 6),args:=#[.tmp 21],argTypes:=t }/\o.guard=none/\o.dst=some 22:=by simp only[Ns,opsOf,b5,fC,sC,f5,Ar];exact⟨_,_,rfl,rfl,rfl,rfl⟩
theorem J093:∃o,Ns[2]?=some o/\o.op=.assign (.tmp 22)/\o.guard=none/\o.dst=some 9:=by simp only[Ns,opsOf,b5,fC,sC,f5,Ar];exact⟨_,rfl,rfl,rfl,rfl⟩
theorem J094:∃o,I7[0]?=some o/\o.op=.move (.tmp 0)/\o.guard=none/\o.dst=some 23:=by simp only[I7,opsOf,b5,fC,sC,f5,Ar];exact⟨_,rfl,rfl,rfl,rfl⟩
theorem J095:∃o,I7[1]?=some o/\o.op=.move (.tmp 9)/\o.guard=none/\o.dst=some 24:=by simp only[I7,opsOf,b5,fC,sC,f5,Ar];exact⟨_,rfl,rfl,rfl,rfl⟩
theorem J096:∃o t,I7[2]?=some o/\o.op=.call { callee:=.value (.func 7),args:=#[.tmp 23,.tmp 24],argTypes:=t }/\o.guard=none/\o.dst=some 25:=by simp only[I7,opsOf,b5,fC,sC,f5,Ar];exact⟨_,_,rfl,rfl,rfl,rfl⟩
theorem J097:∃o,I7[3]?=some o/\o.op=.assign (.tmp 25)/\o.guard=none/\o.dst=some 10:=by simp only[I7,opsOf,b5,fC,sC,f5,Ar];exact⟨_,rfl,rfl,rfl,rfl⟩
theorem J098:∃o,Nr[0]?=some o/\o.op=.move (.tmp 0)/\o.guard=none/\o.dst=some 26:=by simp only[Nr,opsOf,b5,fC,sC,f5,Ar];exact⟨_,rfl,rfl,rfl,rfl⟩
theorem J099:∃o t,Nr[1]?=some o/\o.op=.call { callee:=.value (.func 7),args:=#[.tmp 26,.const (.slice none 0 0)],argTypes:=t }/\o.guard=none/\o.dst=some 27:=by simp only[Nr,opsOf,b5,fC,sC,f5,Ar];exact⟨_,_,rfl,rfl,rfl,rfl⟩
theorem J09a:∃o,Nr[2]?=some o/\o.op=.assign (.tmp 27)/\o.guard=none/\o.dst=some 11:=by simp only[Nr,opsOf,b5,fC,sC,f5,Ar];exact⟨_,rfl,rfl,rfl,rfl⟩
theorem J06v:∃o,G7[0]?=some o/\o.op=.move (.tmp 10)/\o.guard=none/\o.dst=some 64:=by simp only[G7,opsOf,b5,fC,sC,f5,Ar];exact⟨_,rfl,rfl,rfl,rfl⟩
theorem J06w:∃o,G7[1]?=some o/\o.op=.move (.tmp 11)/\o.guard=none/\o.dst=some 65:=by simp only[G7,opsOf,b5,fC,sC,f5,Ar];exact⟨_,rfl,rfl,rfl,rfl⟩
theorem J06x:∃o,G7[2]?=some o/\o.op=.move (.tmp 17)/\o.guard=none/\o.dst=some 66:=by simp only[G7,opsOf,b5,fC,sC,f5,Ar];exact⟨_,rfl,rfl,rfl,rfl⟩
theorem J06y:∃o t,G7[3]?=some o/\o.op=.call { callee:=.value (.func 14),args:=#[.tmp 64,.tmp 65,.tmp 66,.const (.slice none 0 0)],argTypes:=t }/\o.guard=none/\o.dst=some 67:=by simp only[G7,opsOf,b5,fC,sC,f5,Ar];exact⟨_,_,rfl,rfl,rfl,rfl⟩
theorem J06z:∃o,G7[4]?=some o/\o.op=.assign (.tmp 67)/\o.guard=none/\o.dst=some 18:=by simp only[G7,opsOf,b5,fC,sC,f5,Ar];exact⟨_,rfl,rfl,rfl,rfl⟩
section
variable{w:JE}{T:JC}{ds:List Deferred}{x y n c2:Nat}{mz:Int}{ga:JI}{Q:Exit->Act->JE->Prop}
theorem J070(Ae:T.size=86)
  (hQ:∀T':JC,T'.size=86->(∀i∈([0,1,2,3,21]:List Nat),T'[i]?=T[i]?)->Q .normal ⟨T',ds⟩ w) :
  Jjx.wp prog Q ⟨T,ds⟩ w:=by
 obtain⟨f,rfl⟩:=Hu Ae;rw[Ic]at *;simp only[Jjx,b5,fC,sC,f5,Ar];go_wp2;exact hQ _ rfl (λi hi=>by simp only[AO,C9,or_false]at hi;rcases hi with rfl|rfl|rfl|rfl|rfl<;>rfl)
theorem J071(Ae:T.size=86)(CQ:T[10]?=some (pt x))(Ef:T[11]?=some (pt y))
  (hQ:∀T':JC,T'.size=86->(∀i∈([1,21,2,3,9,10,11]:List Nat),T'[i]?=T[i]?)->Q .normal ⟨T',ds⟩ w) :
  yZ.wp prog Q ⟨T,ds⟩ w:=by
 obtain⟨f,rfl⟩:=Hu Ae;rw[Ic]at *;have F9:f 10=_:=Aa CQ;have FH:f 11=_:=Aa Ef;rw[F9,FH]at hQ ⊢;clear CQ Ef F9 FH;simp only[yZ,b5,fC,sC,f5,Ar];go_wp2;exact hQ _ rfl (λi hi=>by simp only[AO,C9,or_false]at hi;rcases hi with rfl|rfl|rfl|rfl|rfl|rfl|rfl<;>rfl)
theorem J072(hm:I64 mz)(hn:n<=1000)(Ae:T.size=86)(h2:T[2]?=some (.int .i64 mz))(h9:T[9]?=some (.slice ga n c2))
  (hQ:∀T':JC,T'.size=86->(∀i∈([1,21,3,9,10,11]:List Nat),T'[i]?=T[i]?)->T'[12]?=some (.int .i64 (Ju mz (n+1)))->Q .normal ⟨T',ds⟩ w) :
  Jjz.wp prog Q ⟨T,ds⟩ w:=by
 have hp:=YZ hm (n:=n+1) (by omega) (by omega);obtain⟨f,rfl⟩:=Hu Ae;rw[Ic]at *;have e2:f 2=_:=Aa h2;have e9:f 9=_:=Aa h9;rw[e2,e9]at hQ ⊢;clear h2 h9 e2 e9;simp only[Jjz,b5,fC,sC,f5,Ar]
 go_wp2_with (go_at_call 8;refine(hp _).mono ?_;rintro e w1 ⟨rfl,rfl⟩)
 exact hQ _ rfl (λi hi=>by simp only[AO,C9,or_false]at hi;rcases hi with rfl|rfl|rfl|rfl|rfl|rfl<;>rfl) rfl
theorem J073(Ae:T.size=86)
  (hQ:∀T':JC,T'.size=86->(∀i∈([1,21,3,9,10,11,12]:List Nat),T'[i]?=T[i]?)->T'[13]?=some (.slice none 0 0)->Q .normal ⟨T',ds⟩ w) :
  Jk0.wp prog Q ⟨T,ds⟩ w:=by
 obtain⟨f,rfl⟩:=Hu Ae;rw[Ic]at *;simp only[Jk0,b5,fC,sC,f5,Ar];go_wp2;exact hQ _ rfl (λi hi=>by simp only[AO,C9,or_false]at hi;rcases hi with rfl|rfl|rfl|rfl|rfl|rfl|rfl<;>rfl) rfl
theorem J05u{R:JE->Prop}(hI:Calls prog 13 #[pt y,.slice ga n c2] w λe w'=>e=.returned .nilIface/\R w')(Ae:T.size=86)(Ef:T[11]?=some (pt y))(Ud:T[13]?=some (.slice ga n c2))
  (hQ:∀T':JC,T'.size=86->(∀i∈([1,21,3,9,10,11,12]:List Nat),T'[i]?=T[i]?)->∀w',T'[15]?=some .nilIface->R w'->Q .normal ⟨T',ds⟩ w') :
  VW.wp prog Q ⟨T,ds⟩ w:=by
 obtain⟨f,rfl⟩:=Hu Ae;rw[Ic]at *;have FH:f 11=_:=Aa Ef;have LC:f 13=_:=Aa Ud;rw[FH,LC]at hQ ⊢;clear Ef Ud FH LC;simp only[VW,b5,fC,sC,f5,Ar]
 go_wp2_with (go_at_call 13;refine hI.mono ?_;rintro e w1 ⟨rfl,hR⟩)
 exact hQ _ rfl (λi hi=>by simp only[AO,C9,or_false]at hi;rcases hi with rfl|rfl|rfl|rfl|rfl|rfl|rfl<;>rfl) _ rfl hR
theorem J05v{R:JE->Prop}{k:Nat}(hk:k<=c2)(hI:Calls prog 13 #[pt y,.slice ga k c2] w λe w'=>e=.returned .nilIface/\R w')(Ae:T.size=86)(h9:T[9]?=some (.slice ga n c2))(Ef:T[11]?=some (pt y))(Ii:T[12]?=some (.int .i64 k))
  (hQ:∀T':JC,T'.size=86->(∀i∈([1,21,3,10,11,15]:List Nat),T'[i]?=T[i]?)->∀w',T'[16]?=some .nilIface->R w'->Q .normal ⟨T',ds⟩ w') :
  V6.wp prog Q ⟨T,ds⟩ w:=by
 obtain⟨f,rfl⟩:=Hu Ae;rw[Ic]at *;have e9:f 9=_:=Aa h9;have FH:f 11=_:=Aa Ef;have IV:f 12=_:=Aa Ii;rw[e9,FH,IV]at hQ ⊢;clear h9 Ef Ii e9 FH IV;simp only[V6,b5,fC,sC,f5,Ar]
 go_wp2_with (go_at_call 13;refine hI.mono ?_;rintro e w1 ⟨rfl,hR⟩)
 exact hQ _ rfl (λi hi=>by simp only[AO,C9,or_false]at hi;rcases hi with rfl|rfl|rfl|rfl|rfl|rfl<;>rfl) _ rfl hR
theorem J05w(hm:I64 mz)(Ae:T.size=86)(h3:T[3]?=some (.int .i64 mz))
  (hQ:∀T':JC,T'.size=86->(∀i∈([1,21,10,11,15,16]:List Nat),T'[i]?=T[i]?)->T'[17]?=some (.int .i64 (Ju mz 8))->Q .normal ⟨T',ds⟩ w) :
  VQ.wp prog Q ⟨T,ds⟩ w:=by
 have hp:=YZ hm (n:=8) (by omega) (by omega);obtain⟨f,rfl⟩:=Hu Ae;rw[Ic]at *;have e3:f 3=_:=Aa h3;rw[e3]at hQ ⊢;clear h3 e3;simp only[VQ,b5,fC,sC,f5,Ar]
 go_wp2_with (go_at_call 8;refine(hp _).mono ?_;rintro e w1 ⟨rfl,rfl⟩)
 exact hQ _ rfl (λi hi=>by simp only[AO,C9,or_false]at hi;rcases hi with rfl|rfl|rfl|rfl|rfl|rfl<;>rfl) rfl
theorem J05x{PX:ByteArray->Prop}(hX:Calls prog 15 #[pt x] w λe w'=>∃s,PX s/\e=.returned (.string s)/\Tch w.heap.size M0 w w')(Ae:T.size=86)(CQ:T[10]?=some (pt x))
  (hQ:∀T':JC,T'.size=86->(∀i∈([1,21,11,15,16,18]:List Nat),T'[i]?=T[i]?)->∀w',(∃s,PX s/\T'[19]?=some (.string s))->Tch w.heap.size M0 w w'->Q .normal ⟨T',ds⟩ w') :
  Tm.wp prog Q ⟨T,ds⟩ w:=by
 obtain⟨f,rfl⟩:=Hu Ae;rw[Ic]at *;have F9:f 10=_:=Aa CQ;rw[F9]at hQ ⊢;clear CQ F9;simp only[Tm,b5,fC,sC,f5,Ar]
 go_wp2_with (go_at_call 15;refine hX.mono ?_;rintro e w1 ⟨s,hs,rfl,t1⟩)
 exact hQ _ rfl (λi hi=>by simp only[AO,C9,or_false]at hi;rcases hi with rfl|rfl|rfl|rfl|rfl|rfl<;>rfl) _ ⟨s,hs,rfl⟩ t1
theorem J05y{PX:ByteArray->Prop}(hX:Calls prog 15 #[pt y] w λe w'=>∃s,PX s/\e=.returned (.string s)/\Tch w.heap.size M0 w w')(Ae:T.size=86)(Ef:T[11]?=some (pt y))
  (hQ:∀T':JC,T'.size=86->(∀i∈([1,21,15,16,18,19]:List Nat),T'[i]?=T[i]?)->∀w',(∃s,PX s/\T'[20]?=some (.string s))->Tch w.heap.size M0 w w'->Q .normal ⟨T',ds⟩ w') :
  S9.wp prog Q ⟨T,ds⟩ w:=by
 obtain⟨f,rfl⟩:=Hu Ae;rw[Ic]at *;have FH:f 11=_:=Aa Ef;rw[FH]at hQ ⊢;clear Ef FH;simp only[S9,b5,fC,sC,f5,Ar]
 go_wp2_with (go_at_call 15;refine hX.mono ?_;rintro e w1 ⟨s,hs,rfl,t1⟩)
 exact hQ _ rfl (λi hi=>by simp only[AO,C9,or_false]at hi;rcases hi with rfl|rfl|rfl|rfl|rfl|rfl<;>rfl) _ ⟨s,hs,rfl⟩ t1
theorem J05z{s:ByteArray}(Ae:T.size=86)(UC:T[15]?=some .nilIface)(UU:T[16]?=some .nilIface)(QH:T[18]?=some (.bool true))(h19:T[19]?=some (.string s))(XC:T[20]?=some (.string s))
  (hQ:∀T':JC,T'.size=86->(∀i∈([1,21]:List Nat),T'[i]?=T[i]?)->T'[8]?=some (.bool true)->Q .ret ⟨T',ds⟩ w) :
  SY.wp prog Q ⟨T,ds⟩ w:=by
 obtain⟨f,rfl⟩:=Hu Ae;rw[Ic]at *;have Kw:f 15=_:=Aa UC;have Ny:f 16=_:=Aa UU;have OC:f 18=_:=Aa QH;have O4:f 19=_:=Aa h19;have NZ:f 20=_:=Aa XC;rw[Kw,Ny,OC,O4,NZ]at hQ ⊢;clear UC UU QH h19 XC Kw Ny OC O4 NZ;simp only[SY,b5,fC,sC,f5,Ar];go_wp2;exact hQ _ rfl (λi hi=>by simp only[AO,C9,or_false]at hi;rcases hi with rfl|rfl<;>rfl) rfl
theorem J074{fs:List Jg}{pl:List Nat}{k:Nat}(fa:Fa false w ga fs c2 pl)(hk:k<=fs.length)(TB:fs.length<=200)(Ae:T.size=86)(h9:T[9]?=some (.slice ga fs.length c2))(Ii:T[12]?=some (.int .i64 k))(Ud:T[13]?=some (.slice none 0 0))
  (hQ:∀T':JC,T'.size=86->(∀i∈([1,21,3,9,10,11,12]:List Nat),T'[i]?=T[i]?)->∀w' gb cb Lr,T'[13]?=some (.slice gb (fs.length-k:Nat) cb)->Fa false w' gb (fs.reverse.take (fs.length-k)) cb Lr->(∀y∈Lr,y∈pl\/w.heap.size<=y)->Tch w.heap.size M0 w w'->Q .normal ⟨T',ds⟩ w') :
  Jk1.wp prog Q ⟨T,ds⟩ w:=by
 obtain⟨f,rfl⟩:=Hu Ae;rw[Ic]at *;have e9:f 9=_:=Aa h9;have IV:f 12=_:=Aa Ii;have LC:f 13=_:=Aa Ud;rw[e9,IV,LC]at hQ ⊢;clear h9 Ii Ud e9 IV LC;simp only[Jk1,b5,fC,sC,f5,Ar];go_wp2
 go_loopw [13,14] (λv i wr=>∃j:Nat,j<=fs.length-k/\i=.int .i64 ((fs.length:Int)-1-j)/\(∃L,Jo2 wr w.heap.size pl v L/\L.map (·.1)=fs.reverse.take j)/\Tch w.heap.size M0 w wr) (λ_ i _=>(RowKit.intOf i+1).toNat)
 case atStart=>exact⟨0,by omega,by simp,⟨[],⟨⟨rfl,.inl ⟨rfl,rfl⟩⟩,λp hp=>by cases hp⟩,rfl⟩,.refl⟩
 case round=>
  obtain⟨j,hj,rfl,⟨L,hL,O6⟩,ht⟩:=hrel;rcases BG j (fs.length-k)with Ac|Dp
  ·obtain⟨p,hp⟩:∃p,fs.length=p+j+1:=⟨fs.length-1-j,by omega⟩;have oV:k<=p:=by omega
   have hpn:(p:Int)<fs.length:=by omega
   obtain⟨q,hq⟩:∃q,fs[p]?=some q:=⟨fs[p]'(by omega),Dh _⟩;obtain⟨g,kb,kc,rfl,hg,GN,c0,c1,c2',Aj⟩:=fa.at_ p q hq;have hlg:=fa.lt g hg;have c0:=(ht.cell (a:=⟨g,p*3,none⟩) hlg λh=>h).trans c0;have c1:=(ht.cell (a:=⟨g,p*3+1,none⟩) hlg λh=>h).trans c1;have c2':=(ht.cell (a:=⟨g,p*3+2,none⟩) hlg λh=>h).trans c2';have Aj:=Aj.kept (ht.heap kb (fa.lt kb GN) λh=>h);have TK:(k:Int)<=p:=by omega
   have Q8:L.length=j:=by have:=congrArg List.length O6;rw[Et,List.length_take,List.length_reverse]at this;omega
   obtain⟨i0,hi,En,Dl,D7⟩:=info_parts Jxz;have X5:maxLen=9223372036854775807:=by decide
   have Aw:=hL.own;have hws:=ht.size;rw[show(fs.length:Int)-1-j=(p:Int) by omega];have Gi:Hid (fs.length=p+j+1):=hp;have ZY:=hQ;clear hp hQ
   go_wp2_with (at_builtin;refine wpList_append_own _ rfl _ _ 23 rfl w.heap.size 47 i0 _ 3 40 underlying23 hi En Dl D7 rfl (by decide) _ L.length _ rfl (Aw.alloc _) ⟨wr.heap.size,0,none⟩ 1 1 (UA (q,kb,kc)) rfl rfl J050 (by simp[UA,Value.oneCell']) (by omega) (by omega) (by rw[size_alloc];omega) ?_;intro v' w3 OT Ee VY)
   have hp:fs.length=p+j+1:=Gi;have Ee:=(show World.grownBy _ w3 u13.ownBlock from Ee);have Ui:∀b,u13.ownBlock=some b->w.heap.size<=b/\∃cur,wr.heap[b]?=some (.cells cur 47):=λb hb=>by
    rcases Aw.2 with⟨e,_⟩|⟨g,cap,cur,e,UF,hg,_⟩
    ·rw[e]at hb;cases hb
    ·rw[e]at hb;cases hb;exact⟨UF,cur,hg⟩
   have kept:∀{b:Nat}{xs:JD}{kc:Nat},Row false wr b 3 .i64 xs kc->Row false w3 b 3 .i64 xs kc:=λ{b xs kc} hr=>hr.kept ((Ee.block b (by rw[size_alloc];have:=hr.lt;omega) λe=>by obtain⟨_,cur,hc⟩:=Ui b e.symm;obtain⟨arr,⟨z,hz,_⟩,_⟩:=hr;rw[hc]at hz;cases hz).trans (J7 _ hr.lt));have jR:=Ee.size;rw[size_alloc]at jR;refine⟨⟨j+1,by omega,by go_num,⟨L++[(q,kb,kc)],⟨by simpa using OT,λz hz=>?_⟩,?_⟩,⟨by omega,λb hb _=>?_,Ee.tape.trans ht.tape,Ee.os.trans ht.os,Ee.output.trans ht.output⟩⟩,by simp[RowKit.intOf]⟩
   ·rcases FY.1 hz with hz|hz
    ·exact⟨(hL.rows z hz).1,kept (hL.rows z hz).2⟩
    ·rw[List.mem_singleton.1 hz];exact⟨GN,kept Aj⟩
   ·rw[List.map_append,O6,List.take_add_one,List.getElem?_reverse (by omega),show fs.length-1-j=p by omega,hq];simp
   ·exact((Ee.block b (by rw[size_alloc];omega) λe=>by have:=(Ui b e.symm).1;omega).trans (J7 _ (by omega))).trans (ht.heap b hb λh=>h)
  ·have hx:¬(k:Int)<=(fs.length:Int)-1-j:=by omega
   have dJ:j=fs.length-k:=by omega
   have Q8:L.length=fs.length-k:=by have:=congrArg List.length O6;rw[Et,List.length_take,List.length_reverse]at this;omega
   have aU:Hid (j=fs.length-k):=dJ;have ZY:Hid _:=hQ;clear dJ hQ Dp;go_wp2;obtain⟨gb,cb,Lr,rfl,hA,hp⟩:=hL.at;rw[O6,show j=fs.length-k from aU]at hA;exact ZY _ rfl (λi hi=>by simp only[AO,C9,or_false]at hi;rcases hi with rfl|rfl|rfl|rfl|rfl|rfl|rfl<;>rfl) _ gb cb Lr (by rw[<- Q8];rfl) hA hp ht
end
theorem tZ{c:J8}{hs:Int->Int}{fs:List Jg}{S:List TR}(h:GK c hs fs S)(hf:∀f∈fs,Js f.k∈U64):∀t∈S,t.k∈U64:=λt ht=>by obtain⟨_,f,h1,h2⟩:=dS h.nd h.all ht;rw[<- h2,Jdt (h.n3 f h1)];exact hf f h1
section
variable{X W E E':JB}{w w' wb:JE}{y:Nat}{c:J8}{seed nf:Int}{h:JJ}{hs:Int->Int}{vm base:Nat}{S:List TR}{ga:JI}{fs g0:List Jg}{cap:Nat}{pl:List Nat}
theorem EW.ke(q:EW X E w y c seed h hs nf vm base S)(k:KE E w w')(hH:E prog.globals.size)(hE:∀b,E b->E' b):EW X E' w' y c seed h hs nf vm base S:=by obtain⟨b2,c2,b1,b3,b4⟩:=q.bnd;exact⟨q.q.ke k hH hE,q.hash.ke k (λb hb=>(q.hb b hb).1),λb hb=>⟨hE b (q.hb b hb).1,(q.hb b hb).2⟩,⟨b2,c2,b1,b3.keE k (q.q.bE _ b1).1,b4⟩,q.nb,q.dX,q.dV,q.new⟩
theorem EW.ing(q:EW X E w y c seed h hs nf vm base S)(hB:BOk C0 S0 W E w)(fa:Fa false w ga fs cap pl)(CO:∀b∈pl,b≠y/\b≠base/\b∉tpl S)(FP:∀f∈fs,SA f/\Js f.k∈U64)(TB:fs.length<=200)(h0:0<=nf/\nf<=2000)(hTU:∀t∈S,t.k∈U64)(τ:Nat->Question->Nat):Juf (w.tp τ 0) y c seed h nf vm base S ga fs cap pl hs FB U64:=by
 obtain⟨b2,c2,b1,b3,b4⟩:=q.bnd;have lt:∀b,E b->b<w.heap.size:=λb hb=>hB.lt hb;exact{
  q:=q.q.cube.kept rfl rfl
  tab:=q.q.tab.kept λ_ _=>rfl
  fsa:=fa.kept λ_ _=>rfl
  okf:=λg hg=>(FP g hg).1
  bnd:=.inr ⟨b2,c2,b1,Row.kept b3 rfl⟩
  bsl:=by rw[q.nb];rfl
  so:=gB
  cfg:=q.q.cfg
  hsr:=q.hash.bd
  one:=λw1 t item at_=>IY.calls (q.hash.kept λb s hb hc=>(t.heap b (lt b (q.hb b hb).1) λh=>h).trans hc) ((q.q.cube.kept (w':=w.tp τ 0) rfl rfl).kept (t.heap y q.q.cube.blk.lt λh=>h) (t.heap vm q.q.cube.vs.lt λh=>h)) item at_
  dF:=λb hb=>⟨(CO b hb).2.1,(CO b hb).2.2,(CO b hb).1⟩
  dX:=q.dX
  dV:=q.dV
  dB:=λa ha=>by rw[b1]at ha;cases ha;exact⟨b4.2.1,b4.2.2,lt b2 (q.q.bE _ b1).1,b4.1⟩
  n1:=by omega
  nf0:=h0.1
  nf1:=by omega
  hU:=λg hg=>(FP g hg).2
  hTU:=hTU
  hUn:=by rw[Jwe];omega }
theorem EW.qY(q:EW X E w y c seed h hs nf vm base S)(XH:X prog.globals.size)(XE:∀b,X b->E b)(hB:BOk C0 S0 W E w)(le:∀b,E b->E' b)(hH:E' prog.globals.size)(hW:WR C0 (okP C0 S0) (idE E') wb w'){τ:Nat->Question->Nat}(o:Jxw (w.tp τ 0) y c seed h nf vm base S hs FB fs wb)(tf:GK c hs g0 S)(hn:(g0++fs).length<=200)(h3:∀f∈fs,f.k.length=3) :
  ∃S',EW X E' w' y c seed h hs (nf+fs.length) vm base S'/\GK c hs (g0++fs) S'/\KE (λb=>E b/\b≠y/\b≠base/\b∉tpl S) w w':=by
 obtain⟨oq,⟨T',tab,hT',CO⟩,oh⟩:=o;obtain⟨b2,c2,b1,b3,b4⟩:=q.bnd;have l:=Jy rfl hW;have lt:∀b,E b->b<w.heap.size:=λb hb=>hB.lt hb;have keep:∀b,E b->b≠y->b≠base->b∉tpl S->wb.heap[b]?=w.heap[b]?:=λb hb h1 h2 h4=>oh.heap b (lt b hb) λh=>by
  rcases h with h|h|h
  ·exact h1 h
  ·exact h2 h
  ·exact h4 h
 have Si:∀b,E b->b≠base->b∉tpl S->b∉tpl T':=λb hb h1 h2 h4=>by
  rcases CO b (.inr h4)with(h|h)|h
  ·exact h1 h
  ·exact h2 h
  ·have:w.heap.size<=b:=h;have:=lt b hb;omega
 have tf':GK c hs (g0++fs) T':=⟨tab.nodup,λk=>(hT' k).trans (Jqi (c:=c) (bs:=FB) (hs:=hs) (fs:=fs) (g0:=g0) 7 (g:=tm S) tf.all k),λf hf=>(FY.1 hf).elim (tf.n3 f) (h3 f),hn⟩;have nx:=q.new _ XH;have hH0:E prog.globals.size:=hB.hnd;have bV:HOk wb:=q.q.hok.ke (E:=λb=>b=prog.globals.size) (KE.of_eq λb hb=>by subst hb;exact keep _ hH0 nx.1 nx.2.1 nx.2.2) rfl;have e2:E b2:=(q.q.bE _ b1).1;have q5:KY E' w' y c seed h (nf+fs.length) vm base T':=by
  refine KY.OW hW oq tab bV hH (le y q.q.xE.1) (λz hz=>?_) (λa ha=>?_) q.q.cfg (by have:=tf'.len;omega)
  ·rcases CO z hz with hz|hz
   ·exact(q.q.tE z hz).2
   ·have h1:w.heap.size<=z:=hz;have:=lt _ hH0;omega
  ·obtain⟨-,h2,arr,t,h5,h6⟩:=q.q.bE a ha;rw[b1]at ha;cases ha;exact⟨h2,arr,t,h5.kept (keep b2 e2 b4.1 b4.2.1 b4.2.2),h6⟩
 have ly:=q.q.xE;have eb:E base:=(q.q.tE _ (.inl rfl)).1;refine⟨T',{ q:=q5,hash:=?_,hb:=λb hb=>?_,bnd:=⟨b2,c2,b1,?_,b4.1,b4.2.1,Si b2 e2 b4.2.1 b4.2.2⟩,nb:=q.nb,dX:=⟨q.dX.1,Si y ly.1 q.dX.1 q.dX.2⟩,dV:=⟨q.dV.1,Si vm ly.2 q.dV.1 q.dV.2.1,q.dV.2.2⟩,new:=λb hb=>⟨(q.new b hb).1,(q.new b hb).2.1,Si b (XE b hb) (q.new b hb).2.1 (q.new b hb).2.2⟩ },tf',(KE.of_eq λb hb=>keep b hb.1 hb.2.1 hb.2.2.1 hb.2.2.2).trans (l.mono λb hb=>le b hb.1)⟩
 ·exact(q.hash.kept λb s hb hc=>(keep b (q.hb b hb).1 (q.hb b hb).2.1 (q.hb b hb).2.2.1 (q.hb b hb).2.2.2).trans hc).ke l λb hb=>le b (q.hb b hb).1
 ·obtain⟨h1,h2,h4,h5⟩:=q.hb b hb;exact⟨le b h1,h2,h4,Si b h1 h4 h5⟩
 ·exact(b3.kept (keep b2 e2 b4.1 b4.2.1 b4.2.2)).keE l (le b2 e2)
end
section
variable{fn:JG}{W E:JB}{w:JE}{t:JC}{c:Code}{rest:Code}{k:List Item}{cs:List Frame}{Post:(JB)->JF->JE->Prop}
theorem SX(Sl:List Nat)(hl:∀i,(C0.hl fn).contains i=true->i∈Sl\/500<=i)(Aq:C0.hl fn≠[])(hok:Jj C0 S0 fn c=true)(hb:GH C0 fn)(Oq:S0.df.contains fn=false)(hB:BOk C0 S0 W E w)(ht:TmR C0 S0 fn (idE E) t t)(Ae:t.size<=500){Q:JC->Prop}
  (K:∀τ,c.wp prog (λe a w1=>e=.normal/\a.tmps.size<=500/\(∀i∈Sl,a.tmps[i]?=t[i]?)/\Q a.tmps/\w1.heap=w.heap) ⟨t,[Jp]⟩ (w.tp τ 0))
  (kn:∀E' t' w',(∀b,E b->E' b)->BOk C0 S0 W E' w'->TmR C0 S0 fn (idE E') t' t'->KE E w w'->Q t'->(∀b,W b->w'.heap[b]?=w.heap[b]?)->Reach prog Post W (G ((Go.Conc.base fn).at ⟨t',[]⟩ (.code rest::k)) cs) w') :
  Reach prog Post W (G ((Go.Conc.base fn).at ⟨t,[]⟩ (.code (.seq c rest)::k)) cs) w:=
 QU Sl hl Aq hok hb Oq hB ht Ae (Q:=λt w1=>Q t/\w1.heap=w.heap) K λE' t' w1 w' le FU hW' pX ⟨q,hw⟩ hK=>kn E' t' w' le FU pX ((KE.of_eq λb _=>by rw[hw]).trans ((Jy rfl hW').mono le)) q hK
end
def VL(c c':J8):Prop:=c.bits=c'.bits/\c.K=c'.K/\c.nb=c'.nb
theorem rX{c c':J8}(h:VL c c')(bs:JD)(A:List (Int × Int)):Gp c bs A=Gp c' bs A:=by obtain⟨b,k,ba,nb,cb⟩:=c;obtain⟨b',k',WM,ZJ,cb'⟩:=c';obtain⟨rfl,rfl,rfl⟩:=h;rfl
section
variable{c c':J8}{hs:Int->Int}{fs gs:List Jg}{S S' A B:List TR}{m:Nat}
theorem qZ(h:fs.Perm gs)(k:JD):(sel hs m k fs).Perm (sel hs m k gs):=(h.filter _).map _
theorem GK.same(hx:GK c hs fs S)(hy:GK c' hs gs S')(IE:VL c c')(hp:fs.Perm gs)(hc:Jw c)(BX:c.nb=4)(hh:∀y,0<=hs y/\hs y<=18446744073709551615):∀k,tm S k=tm S' k:=λk=>by rw[hx.all,hy.all,<- rX IE];exact Jgj hc (by rw[BX];rfl) gB (Jjk hh 7 k) (qZ hp k)
theorem GK.cmp(hx:GK c hs fs S)(hy:GK c' hs gs S')(IE:VL c c')(hp:fs.Perm gs)(hc:Jw c)(L6:Jw c')(BX:c.nb=4)(hh:∀y,0<=hs y/\hs y<=18446744073709551615)(hA:Sum c (tm A) (EG S m (λ_=>true)))(hB:Sum c' (tm B) (EG S' m (λ_=>true))):∀k,tm A k=tm B k:=λk=>by rw[hx.sum hc BX hh hA,hy.sum L6 (by rw[<- IE.2.2];exact BX) hh hB,<- rX IE];exact Jgj hc (by rw[BX];rfl) gB (Jjk hh m k) (qZ hp k)
end
theorem J056(fs:List Jg)(k:Nat)(hk:k<=fs.length):fs.Perm (fs.reverse.take (fs.length-k)++fs.take k):=by rw[List.take_reverse,show fs.length-(fs.length-k)=k by omega];refine(List.Perm.of_eq (List.take_append_drop k fs).symm).trans ?_;exact List.perm_append_comm.trans ((List.reverse_perm _).symm.append_right _)
theorem Fa.take{fr:Bool}{w:JE}{ga:JI}{fs:List Jg}{cap:Nat}{pl:List Nat}(h:Fa fr w ga fs cap pl)(k:Nat):Fa fr w ga (fs.take k) cap pl:=
 ⟨h.lt,λi f hf=>h.at_ i f (by rw[List.getElem?_take]at hf;split at hf<;>simp_all),by rw[List.length_take];have:=h.cap;omega⟩
structure S5(X0 X Ei:JB)(wi:JE)(c:Int)(hs:Int->Int)(fs:List Jg)(ga:JI)(c2f:Nat)(x:Nat)(c1:J8)(h1:JJ)(nf1:Int)(Yx b1:Nat)(S1:List TR)(y:Nat)(c2:J8)(h2:JJ)(Wu b2:Nat)(ZT:Int)(S2:List TR)(E:JB)(w:JE):Prop where
 ke:KE Ei wi w
 le:∀b,Ei b->X b
 XE:∀b,X b->E b
 XH:X prog.globals.size
 qx:EW X0 X w x c1 c h1 hs nf1 Yx b1 S1
 qy:EW X E w y c2 c h2 hs ZT Wu b2 S2
 gX:∀a,ga=some a->X a.block
 fa:∃pl,(∀p∈pl,X p/\∃o,w.heap[p]?=some o/\Dat o)/\Fa false w ga fs c2f pl
section
variable{X0 X Ei:JB}{wi:JE}{c:Int}{hs:Int->Int}{fs:List Jg}{ga:JI}{c2f:Nat}{x:Nat}{c1:J8}{h1:JJ}{nf1:Int}{Yx b1:Nat}{S1:List TR}{y:Nat}{c2:J8}{h2:JJ}{Wu b2:Nat}{ZT nf3:Int}{S2 S3:List TR}{E E' W:JB}{w w':JE}
theorem S5.step(s:S5 X0 X Ei wi c hs fs ga c2f x c1 h1 nf1 Yx b1 S1 y c2 h2 Wu b2 ZT S2 E w)(k:KE X w w')(le:∀b,E b->E' b)(qy:EW X E' w' y c2 c h2 hs nf3 Wu b2 S3):S5 X0 X Ei wi c hs fs ga c2f x c1 h1 nf1 Yx b1 S1 y c2 h2 Wu b2 nf3 S3 E' w':=by
 obtain⟨pl,hp,fa⟩:=s.fa;refine⟨s.ke.trans (k.mono s.le),s.le,λb hb=>le b (s.XE b hb),s.XH,s.qx.ke k s.XH λ_ h=>h,qy,s.gX,pl,λp Qz=>?_,fa.kept λp Qz=>?_⟩
 ·obtain⟨q1,o,q2,q3⟩:=hp p Qz;exact⟨q1,o,k _ _ q1 q2 q3,q3⟩
 ·obtain⟨q1,o,q2,q3⟩:=hp p Qz;rw[q2,k _ _ q1 q2 q3]
theorem S5.to(s:S5 X0 X Ei wi c hs fs ga c2f x c1 h1 nf1 Yx b1 S1 y c2 h2 Wu b2 ZT S2 E w)(hB:BOk C0 S0 W E w)(k:KE E w w')(le:∀b,E b->E' b):S5 X0 X Ei wi c hs fs ga c2f x c1 h1 nf1 Yx b1 S1 y c2 h2 Wu b2 ZT S2 E' w':=
 s.step (k.mono s.XE) le (s.qy.ke k hB.hnd le)
theorem S5.neY(s:S5 X0 X Ei wi c hs fs ga c2f x c1 h1 nf1 Yx b1 S1 y c2 h2 Wu b2 ZT S2 E w)(k:KE (λb=>E b/\b≠y/\b≠b2/\b∉tpl S2) w w'):KE X w w':=k.mono λb hb=>⟨s.XE b hb,s.qy.new b hb⟩
end
theorem EW.text{X E W:JB}{w w0:JE}{x:Nat}{cf:J8}{c:Int}{h:JJ}{hs:Int->Int}{nf:Int}{vm base:Nat}{S:List TR}{fs:List Jg}(q:EW X E w x cf c h hs nf vm base S)(hB:BOk C0 S0 W E w)(hh:∀b,b<w.heap.size->w0.heap[b]?=w.heap[b]?)(hc:I64 c)(tf:GK cf hs fs S) :
  Calls prog 15 #[pt x] w0 λe w'=>∃s,(∃ks,keysOf (S.map TR.kv) ks/\s=Qo (VK cf c FB S (ks.map (·.1))))/\e=.returned (.string s)/\Tch w0.heap.size M0 w0 w':=by
 obtain⟨b2,c2,b1,b3,b4⟩:=q.bnd;have lt:∀b,E b->b<w.heap.size:=λb hb=>hB.lt hb;refine(J01q (q.q.cube.kept (hh _ (lt _ q.q.xE.1)) (hh _ (lt _ q.q.xE.2))) q.q.cfg hc b1 (by rw[q.nb];rfl) (b3.kept (hh _ (lt _ (q.q.bE _ b1).1))) (by decide) (q.q.tab.kept λb hb=>hh _ (lt _ (q.q.tE b hb).1)) (by have:=tf.len;omega) λt ht z hz=>(tf.hin t ht z hz).1).mono ?_;rintro e w' ⟨ks,k1,k2,k3⟩;exact⟨_,⟨ks,k1,rfl⟩,k2,k3⟩
section
variable{W E:JB}{w:JE}{c az mz:Int}{la:JI}{rs:List Gt}{n lc:Nat}
theorem J01t{T0:JC}(hB:BOk C0 S0 W E w)(hok:HOk w)(hc:I64 c)(haz:I64 az)(hmz:I64 mz)(hR:gQ w la rs)(hn:rs.length=n)(hWa:∀a,la=some a->W a.block)(hTa:∀a,la=some a->∀c z,w.heap[a.block]?≠some (.cells c wgT z))(Ae:T0.size=86)(h0:T0[0]?=some (.int .i64 c))(h1:T0[1]?=some (.slice la n lc))(h2:T0[2]?=some (.int .i64 az))(h3:T0[3]?=some (.int .i64 mz))(BA:TmR C0 S0 5 (idE E) T0 T0) :
  Reach prog (Jqg prog (λv w'=>v=.bool true/\KE E w w')) W (G ((Go.Conc.base 5).at ⟨T0,[]⟩ [.code b5]) []) w:=by
 obtain⟨fs,Z4⟩:∃fs,fs=(rs.take 200).map Gt.fact:=⟨_,rfl⟩;have TB:fs.length<=200:=by rw[Z4,Et,List.length_take];omega
 have FP:∀f∈fs,SA f/\Js f.k∈U64:=λf hf=>by rw[Z4]at hf;obtain⟨r,hr,rfl⟩:=AY.1 hf;exact⟨Gt.Jxy (hR.ok r (List.mem_of_mem_take hr)),Jwd r⟩
 have hole:∀{T T':JC}{l:List Nat},(∀i∈l,T'[i]?=T[i]?)->1∈l->21∈l->∀i∈([1,21]:List Nat),T'[i]?=T[i]?:=λh p q i hi=>by
  simp at hi;rcases hi with rfl|rfl
  ·exact h _ p
  ·exact h _ q
 rw[J09m];refine SX [1,21] (λ_=>hl5) Lc J09n VN df5 hB BA (by omega) (Q:=λt=>t.size=86/\∀i∈([0,1,2,3,21]:List Nat),t[i]?=T0[i]?) (λτ=>J070 Ae λT' s k=>⟨rfl,by show T'.size<=500;omega,hole k (by simp) (by simp),⟨s,k⟩,rfl⟩) λE3 T4 w3 Vq Ij QB k3 ⟨v1,vk⟩ kw3=>?_;have nI:=hok.ke k3 hB.hnd;have v0:=(vk 0 (by simp)).trans h0;have va:=(vk 1 (by simp)).trans h1;have v2:=(vk 2 (by simp)).trans h2;have v3:=(vk 3 (by simp)).trans h3;clear vk;have kwa:∀a,la=some a->w3.heap[a.block]?=w.heap[a.block]?:=λa ha=>kw3 _ (hWa a ha);obtain⟨g0,h50,p50,g50,q50⟩:=J091;obtain⟨RH,ty6,h51,p51,g51,q51⟩:=J092;obtain⟨OA,h52,p52,g52,q52⟩:=J093;refine J6 (λw1=>stepG_seq) rfl λd1'=>?_;refine J6 (λw1=>stepG_region) rfl λd2'=>?_;rw[show List.range Ns.size=[0,1,2]from by kernel_rfl];have Ha:HS 5 W E3 w3 E3 T4 w3:=⟨Ij,λ_ h=>h,.refl,λ_ _=>rfl,QB,rfl,Ad _⟩;refine Jc (v:=.slice la n lc) ((Ha.at d1').at d2') h50 (by simp[Region.wanted,g50]) q50 (λw1=>by simp[execOp,p50,Act.eval,BH,va]) (λw1=>by simp[execOp,p50,Act.eval]) (.inl rfl) λwx Hx hx=>?_;refine Reach.call (B:=Go.Conc.base 5) (a:=⟨T4.setIfInBounds 21 (.slice la n lc),[]⟩) h51 (by simp[Region.wanted,g51]) (by simp[Go.Conc.base]) p51 (fn:=f6) (c:=b6) (by kernel_rfl) (by kernel_rfl) body6 λlX=>?_;have ea:(#[Operand.tmp 21].map (Act.eval ⟨T4.setIfInBounds 21 (.slice la n lc),[]⟩))++Array.replicate (f6.ntmps-(#[Operand.tmp 21].map (Act.eval ⟨T4.setIfInBounds 21 (.slice la n lc),[]⟩)).size) JA=#[.slice la n lc]++Array.replicate 54 JA:=by
  have KO:f6.ntmps=55:=by kernel_rfl
  have h1:(#[Operand.tmp 21].map (Act.eval ⟨T4.setIfInBounds 21 (.slice la n lc),[]⟩))=#[.slice la n lc]:=by simp[Act.eval,BH,FC,v1]
  rw[KO,h1];rfl
 rw[ea];clear ea;have Yq:(wx.at lX).heap=w3.heap:=hx;refine Jkk (fs:=fs) (rs:=rs) (Hx.at lX).bok ?_ hn Z4 hWa (λa ha=>by rw[Yq,kwa a ha];exact hTa a ha) λE4 w4' ga c2f pl jW II k4' fa pg vE kz kwf=>?_
 ·refine⟨λi r hr=>?_,hR.ok⟩;obtain⟨b,o,r1,r2,r3,r4,r5,r6,r7⟩:=hR.at_ i r hr;have hbb:(wx.at lX).heap[b]?=w.heap[b]?:=by rw[Yq];exact kwa _ r1
  have hc:∀{i v},w.cell? ⟨b,i,none⟩=some v->(wx.at lX).cell? ⟨b,i,none⟩=some v:=λh=>(DX hbb).trans h;refine⟨b,o,r1,?_,hc r3,hc r4,hc r5,hc r6,hc r7⟩;rw[BJ r2]at hbb;exact(BQ.1 hbb).1
 rw[h51];simp only[Option.bind_some,q51];have Hy:HS 5 W E3 w3 E4 (T4.setIfInBounds 21 (.slice la n lc)) w4':=((Hx.at lX).to II jW k4' kwf kz);have Hz:=Hy.put (Hy.set (s:=22) (.inr vE));refine Jc (v:=.slice ga fs.length c2f) Hz h52 (by simp[Region.wanted,g52]) q52 (λw1=>by simp[execOp,p52,Act.eval,BH,FC,v1]) (λw1=>by simp[execOp,p52,Act.eval]) (.inr vE) λxP H5 h5x=>?_;refine J6 (λw1=>stepG_region_end) rfl λWq=>?_;have H4:=H5.at Wq;have fa:Fa false (xP.at Wq) ga fs c2f pl:=fa.kept λb _=>by show xP.heap[b]?=_;rw[h5x]
 have k4:KE E3 w3 (xP.at Wq):=H4.ke;have II:=H4.bok;have F8:=H4.tm;obtain⟨T5,LM⟩:∃T5,T5=((T4.setIfInBounds 21 (.slice la n lc)).setIfInBounds 22 (.slice ga fs.length c2f)).setIfInBounds 9 (.slice ga fs.length c2f):=⟨_,rfl⟩;rw[<- LM]at F8 ⊢;have u1:T5.size=86:=by rw[LM];simpa using v1
 have us:∀i,i≠21->i≠22->i≠9->T5[i]?=T4[i]?:=λi m1 m2 m3=>by rw[LM,AQ (Ne.symm m3),AQ (Ne.symm m2),AQ (Ne.symm m1)]
 have u0:=(us 0 (by omega) (by omega) (by omega)).trans v0;have u2:=(us 2 (by omega) (by omega) (by omega)).trans v2;have u3:=(us 3 (by omega) (by omega) (by omega)).trans v3;have u9:T5[9]?=some (.slice ga fs.length c2f):=by rw[LM,EX (by simp[v1])]
 clear LM us H5 Hz Hy Hx Ha H4;generalize xP.at Wq=w4 at *;have Jnz:=nI.ke k4 Ij.hnd;have kW:KE E w w4:=k3.trans (k4.mono Vq);have Zr:∀b,E b->E4 b:=λb hb=>jW b (Vq b hb);clear h5x hx Yq k4' kwf pg kz nI k4 k3;obtain⟨s0,a0,b0,c0,d0⟩:=J094;obtain⟨s1,a1,b1,c1,d1⟩:=J095;obtain⟨s2,ty7,a2,b2,c2,d2⟩:=J096;obtain⟨s3,a3,YF,c3,d3⟩:=J097;refine J6 (λw1=>stepG_seq) rfl λd4=>?_;refine J6 (λw1=>stepG_region) rfl λd5=>?_;rw[show List.range I7.size=[0,1,2,3]from by kernel_rfl];have Hb:HS 5 W E4 w4 E4 T5 w4:=⟨II,λ_ h=>h,.refl,λ_ _=>rfl,F8,rfl,Ad _⟩;have vg:VR C0 (idE E4) (.slice ga fs.length c2f) (.slice ga fs.length c2f):=F8.slot (i:=9) (hl5' (by omega)) u9;refine Jc (v:=.int .i64 c) ((Hb.at d4).at d5) a0 (by simp[Region.wanted,c0]) d0 (λw1=>by simp[execOp,b0,Act.eval,BH,u0]) (λw1=>by simp[execOp,b0,Act.eval]) (.inr (.int _ _)) λw6 H6 q6=>?_;refine Jc (v:=.slice ga fs.length c2f) H6 a1 (by simp[Region.wanted,c1]) d1 (λw1=>by simp[execOp,b1,Act.eval,BH,FC,u9]) (λw1=>by simp[execOp,b1,Act.eval]) (.inr vg) λw7 H7 q7=>?_;obtain⟨T6,TA⟩:∃T6,T6=(T5.setIfInBounds 23 (.int .i64 c)).setIfInBounds 24 (.slice ga fs.length c2f):=⟨_,rfl⟩;rw[<- TA]at H7 ⊢;have x1:T6.size=86:=by rw[TA];simpa using u1
 have xs:∀i,i≠23->i≠24->T6[i]?=T5[i]?:=λi m1 m2=>by rw[TA,AQ (Ne.symm m2),AQ (Ne.symm m1)]
 have Ve:T6[23]?=some (.int .i64 c):=by rw[TA,AQ (by omega),EX (by omega)]
 have Vp:T6[24]?=some (.slice ga fs.length c2f):=by rw[TA,EX (by simp[u1])]
 clear TA;refine Reach.call (B:=Go.Conc.base 5) (a:=⟨T6,[]⟩) a2 (by simp[Region.wanted,c2]) (by simp[Go.Conc.base]) b2 (fn:=f7) (c:=b7) (by kernel_rfl) (by kernel_rfl) body7 λe5=>?_;have eb:(#[Operand.tmp 23,.tmp 24].map (Act.eval ⟨T6,[]⟩))++Array.replicate (f7.ntmps-(#[Operand.tmp 23,.tmp 24].map (Act.eval ⟨T6,[]⟩)).size) JA=#[.int .i64 c,.slice ga fs.length c2f]++Array.replicate 68 JA:=by
  have KO:f7.ntmps=70:=by kernel_rfl
  have h1:(#[Operand.tmp 23,.tmp 24].map (Act.eval ⟨T6,[]⟩))=#[.int .i64 c,.slice ga fs.length c2f]:=by simp[Act.eval,BH,Ve,Vp]
  rw[KO,h1];rfl
 rw[eb];clear eb;have Ua:(w7.at e5).heap=w4.heap:=by show w7.heap=_;rw[q7,q6];rfl
 have k7:KE E4 w4 (w7.at e5):=.of_eq λb _=>by rw[Ua]
 have tm7:∀{E':JB}{v:JJ},VR C0 (idE E') v v->TmR C0 S0 7 (idE E') (#[.int .i64 c,v]++Array.replicate 68 JA) (#[.int .i64 c,v]++Array.replicate 68 JA):=λ{E' v} hv=>by
  refine .fV (λu hu=>?_) λ_=>rfl;rw[Array.toList_append,FY]at hu;rcases hu with hu|hu
  ·simp only[AO,C9,or_false]at hu;rcases hu with rfl|rfl
   ·exact .int _ _
   ·exact hv
  ·simp only[Array.toList_replicate]at hu;rw[List.eq_of_mem_replicate hu];exact .undef
 refine Jko (fs:=fs) (c2f:=c2f) (pl:=pl) (H7.at e5).bok (Jnz.ke k7 II.hnd) hc (fa.kept λb _=>by rw[Ua]) FP TB (by simp) (by simp) (by simp) (tm7 vg) λW8 E8 w8 x cx h hs nf vm base S OL kM k8 q8 MC cb hh ok8 ex8 bx=>?_;rw[a2];simp only[Option.bind_some,d2];have kE8:KE E4 w4 w8:=k7.trans k8;have vx:VR C0 (idE E8) (pt x) (pt x):=.ptr _ _ ⟨rfl,ex8⟩;have H8:HS 5 W8 E8 w8 E8 T6 w8:=⟨kM,λ_ h=>h,.refl,λ_ _=>rfl,H7.tm.mono (Ox OL),rfl,Ad _⟩;have H9:=H8.put (H8.set (s:=25) (.inr vx));clear H8 k8 k7 H7 H6 Hb;refine Jc (v:=pt x) H9 a3 (by simp[Region.wanted,c3]) d3 (λw1=>by simp[execOp,YF,Act.eval,BH,FC,x1]) (λw1=>by simp[execOp,YF,Act.eval]) (.inr vx) λw9 iP q9=>?_;refine J6 (λw1=>stepG_region_end) rfl λd6=>?_;have HA:=iP.at d6;obtain⟨T7,pR⟩:∃T7,T7=(T6.setIfInBounds 25 (pt x)).setIfInBounds 10 (pt x):=⟨_,rfl⟩;rw[<- pR]at HA ⊢;have z1:T7.size=86:=by rw[pR];simpa using x1
 have zs:∀i,i≠23->i≠24->i≠25->i≠10->T7[i]?=T5[i]?:=λi m1 m2 m3 m4=>by rw[pR,AQ (Ne.symm m4),AQ (Ne.symm m3),xs i m1 m2]
 have z0:=(zs 0 (by omega) (by omega) (by omega) (by omega)).trans u0;have z2:=(zs 2 (by omega) (by omega) (by omega) (by omega)).trans u2;have z3:=(zs 3 (by omega) (by omega) (by omega) (by omega)).trans u3;have z9:=(zs 9 (by omega) (by omega) (by omega) (by omega)).trans u9;have TS:T7[10]?=some (pt x):=by rw[pR,EX (by simp[x1])]
 clear pR H9 iP zs xs;generalize w9.at d6=wA at *;have kA:=HA.ke;have kEA:KE E4 w4 wA:=kE8.trans (kA.mono OL);have wG:=HA.bok;have htA:=HA.tm;have okA:=ok8.ke kA kM.hnd;have bxA:=bx.1.ke kA kM.hnd λ_ h=>h;have wI:=Fa.ke II.wr (λa ha=>by rw[ha]at vg;exact vg.Ik) kEA fa;clear q9 kE8 HA kA;obtain⟨s0,a0,b0,c0,d0⟩:=J098;obtain⟨s1,ty7',a1,b1,c1,d1⟩:=J099;obtain⟨s3,a3,YF,c3,d3⟩:=J09a;refine J6 (λw1=>stepG_seq) rfl λd4=>?_;refine J6 (λw1=>stepG_region) rfl λd5=>?_;rw[show List.range Nr.size=[0,1,2]from by kernel_rfl];have Hb:HS 5 W8 E8 wA E8 T7 wA:=⟨wG,λ_ h=>h,.refl,λ_ _=>rfl,htA,rfl,Ad _⟩;refine Jc (v:=.int .i64 c) ((Hb.at d4).at d5) a0 (by simp[Region.wanted,c0]) d0 (λw1=>by simp[execOp,b0,Act.eval,BH,z0]) (λw1=>by simp[execOp,b0,Act.eval]) (.inr (.int _ _)) λw6 H6 q6=>?_;refine Reach.call (B:=Go.Conc.base 5) (a:=⟨T7.setIfInBounds 26 (.int .i64 c),[]⟩) a1 (by simp[Region.wanted,c1]) (by simp[Go.Conc.base]) b1 (fn:=f7) (c:=b7) (by kernel_rfl) (by kernel_rfl) body7 λe5=>?_;have eb:(#[Operand.tmp 26,.const (.slice none 0 0)].map (Act.eval ⟨T7.setIfInBounds 26 (.int .i64 c),[]⟩))++Array.replicate (f7.ntmps-(#[Operand.tmp 26,.const (.slice none 0 0)].map (Act.eval ⟨T7.setIfInBounds 26 (.int .i64 c),[]⟩)).size) JA=#[.int .i64 c,.slice none (([]:List Jg).length:Nat) 0]++Array.replicate 68 JA:=by
  have KO:f7.ntmps=70:=by kernel_rfl
  have h1:(#[Operand.tmp 26,.const (.slice none 0 0)].map (Act.eval ⟨T7.setIfInBounds 26 (.int .i64 c),[]⟩))=#[.int .i64 c,.slice none 0 0]:=by simp[Act.eval,BH,FC,z1]
  rw[KO,h1];rfl
 rw[eb];clear eb;have Y5:(w6.at e5).heap=wA.heap:=by show w6.heap=_;rw[q6];rfl
 have k6:KE E8 wA (w6.at e5):=.of_eq λb _=>by rw[Y5]
 refine Jko (fs:=[]) (ga:=none) (c2f:=0) (pl:=[]) (H6.at e5).bok (okA.ke k6 wG.hnd) hc ⟨λb hb=>(by cases hb),λi f hf=>(by simp at hf),by simp⟩ (λf hf=>by cases hf) (by simp) (by simp) (by simp) (by simp) (tm7 (.Jo _ _)) λWB EB wB y cy h' D6 oG nY Az S' leB hBB kB qB Jo3 cb' aQ okB exB bY=>?_;obtain⟨bY,eh',ec1',ec2',en0,en1⟩:=bY;obtain⟨bX,eh,ec1,ec2,_,_⟩:=bx;have ehh:D6=hs:=eh'.trans eh.symm;rw[ehh]at bY Jo3;have IE:VL cx cy:=⟨ec1.trans ec1'.symm,ec2.trans ec2'.symm,bX.nb.trans bY.nb.symm⟩;rw[a1];simp only[Option.bind_some,d1];have vy:VR C0 (idE EB) (pt y) (pt y):=.ptr _ _ ⟨rfl,exB⟩;have H8:HS 5 WB EB wB EB (T7.setIfInBounds 26 (.int .i64 c)) wB:=⟨hBB,λ_ h=>h,.refl,λ_ _=>rfl,H6.tm.mono (Ox leB),rfl,Ad _⟩;have H9:=H8.put (H8.set (s:=27) (.inr vy));refine Jc (v:=pt y) H9 a3 (by simp[Region.wanted,c3]) d3 (λw1=>by simp[execOp,YF,Act.eval,BH,FC,z1]) (λw1=>by simp[execOp,YF,Act.eval]) (.inr vy) λw9 iP q9=>?_;refine J6 (λw1=>stepG_region_end) rfl λd6=>?_;have HA:=iP.at d6;obtain⟨T8,lJ⟩:∃T8,T8=((T7.setIfInBounds 26 (.int .i64 c)).setIfInBounds 27 (pt y)).setIfInBounds 11 (pt y):=⟨_,rfl⟩;rw[<- lJ]at HA ⊢;have y1:T8.size=86:=by rw[lJ];simpa using z1
 have ys:∀i,i≠26->i≠27->i≠11->T8[i]?=T7[i]?:=λi m1 m2 m3=>by rw[lJ,AQ (Ne.symm m3),AQ (Ne.symm m2),AQ (Ne.symm m1)]
 have y2:=(ys 2 (by omega) (by omega) (by omega)).trans z2;have y3:=(ys 3 (by omega) (by omega) (by omega)).trans z3;have y9:=(ys 9 (by omega) (by omega) (by omega)).trans z9;have y10:=(ys 10 (by omega) (by omega) (by omega)).trans TS;have y11:T8[11]?=some (pt y):=by rw[lJ,EX (by simp[z1])]
 clear lJ H9 iP H8 H6 Hb ys z0 z2 z3 z9 TS u0 u2 u3 u9 v0 va v2 v3;generalize w9.at d6=wC at *;have kC:KE EB wB wC:=HA.ke;have hBC:=HA.bok;have htC:=HA.tm;have lV:KE E8 wA wC:=k6.trans (kB.trans (kC.mono leB));obtain⟨plA,Jo4,wI⟩:=wI;have st:S5 E4 E8 E w c hs fs ga c2f x cx h nf vm base S y cy h' nY Az oG S' EB wC:={
  ke:=kW.trans ((kEA.mono Zr).trans (lV.mono λb hb=>OL b (Zr b hb)))
  le:=λb hb=>OL b (Zr b hb)
  XE:=leB
  XH:=wG.hnd
  qx:=bxA.ke lV wG.hnd λ_ h=>h
  qy:=bY.ke kC hBB.hnd λ_ h=>h
  gX:=λa ha=>OL _ (by rw[ha]at vg;exact vg.Ik)
  fa:=⟨plA,λp hp=>by
   obtain⟨_,q2,o,q3,q4⟩:=Jo4 p hp;exact⟨OL p q2,o,lV _ _ (OL p q2) q3 q4,q4⟩,wI.kept λp hp=>by
   obtain⟨_,q2,o,q3,q4⟩:=Jo4 p hp;rw[q3,lV _ _ (OL p q2) q3 q4]⟩ }
 clear q9 HA kC kB k6 lV bxA bX bY wI Jo4 okA okB ok8 fa vg Jnz qB q8 kEA kW tm7;refine SX [1,21] (λ_=>hl5) Lc J09o VN df5 hBC htC (by omega) (Q:=λt=>t.size=86/\∀i∈([1,21,2,3,9,10,11]:List Nat),t[i]?=T8[i]?) (λτ=>J071 y1 y10 y11 λT' s k=>⟨rfl,by show T'.size<=500;omega,hole k (by simp) (by simp),⟨s,k⟩,rfl⟩) λE1 T1 w1 KH Cj A8 k1 ⟨s1,m1⟩ _=>?_;have st1:=st.to hBC k1 KH;clear st k1;refine SX [1,21] (λ_=>hl5) Lc J09p VN df5 Cj A8 (by omega) (Q:=λt=>t.size=86/\(∀i∈([1,21,3,9,10,11]:List Nat),t[i]?=T1[i]?)/\t[12]?=some (.int .i64 (Ju az (fs.length+1)))) (λτ=>J072 haz (by omega) s1 ((m1 2 (by simp)).trans y2) ((m1 9 (by simp)).trans y9) λT' s k h=>⟨rfl,by show T'.size<=500;omega,hole k (by simp) (by simp),⟨s,k,h⟩,rfl⟩) λE2 T2 w2 lT D5 Bc k2 ⟨s2,m2,n12⟩ _=>?_;have st2:=st1.to Cj k2 lT;clear st1 k2;have oV:=YP (c:=az) (n:=fs.length+1) (by omega);obtain⟨k,hk⟩:∃k:Nat,Ju az (fs.length+1)=k:=⟨(Ju az (fs.length+1)).toNat,by omega⟩;rw[hk]at n12 oV;have OG:k<=fs.length:=by omega
 have q3:=(m2 3 (by simp)).trans ((m1 3 (by simp)).trans y3);have q9:=(m2 9 (by simp)).trans ((m1 9 (by simp)).trans y9);have q10:=(m2 10 (by simp)).trans ((m1 10 (by simp)).trans y10);have XZ:=(m2 11 (by simp)).trans ((m1 11 (by simp)).trans y11);clear m1 m2 y2 y3 y9 y10 y11;refine SX [1,21] (λ_=>hl5) Lc J09q VN df5 D5 Bc (by omega) (Q:=λt=>t.size=86/\(∀i∈([1,21,3,9,10,11,12]:List Nat),t[i]?=T2[i]?)/\t[13]?=some (.slice none 0 0)) (λτ=>J073 s2 λT' s k h=>⟨rfl,by show T'.size<=500;omega,hole k (by simp) (by simp),⟨s,k,h⟩,rfl⟩) λE3' T3 Gx le3' dZ Jxx iE ⟨vV,m3,n13⟩ _=>?_;have Ya:=st2.to D5 iE le3';clear st2 iE;obtain⟨pl3,mJ,fa3⟩:=Ya.fa;obtain⟨B,vO⟩:∃B,B=fs.reverse.take (fs.length-k):=⟨_,rfl⟩;have iK:B.length=fs.length-k:=by rw[vO,List.length_take,List.length_reverse];omega
 have qH:∀f∈B,f∈fs:=λf hf=>List.mem_reverse.1 (List.mem_of_mem_take (by rw[vO]at hf;exact hf));refine QU [1,21] (λ_=>hl5) Lc J09r VN df5 dZ Jxx (by omega) (Q:=λt w1=>t.size=86/\(∀i∈([1,21,3,9,10,11,12]:List Nat),t[i]?=T3[i]?)/\∃gb cb Lr,t[13]?=some (.slice gb B.length cb)/\Fa false w1 gb B cb Lr/\(∀y∈Lr,y∈pl3\/Gx.heap.size<=y)/\∀b,b<Gx.heap.size->w1.heap[b]?=Gx.heap[b]?) (λτ=>J074 (w:=Gx.tp τ 0) (fa3.kept λ_ _=>rfl) OG TB vV ((m3 9 (by simp)).trans q9) ((m3 12 (by simp)).trans n12) n13 λT' s k' w' gb cb Lr g1 g2 g3 g4=>⟨rfl,by show T'.size<=500;omega,hole k' (by simp) (by simp),s,k',gb,cb,Lr,by rw[iK];exact g1,by rw[vO];exact g2,g3,λb hb=>g4.heap b hb λh=>h⟩) λE4' T4' wb4 w4' iF Jo5 MO oL ⟨s4,m4,gb,cb,Lr,Y9,fab,Em,NV⟩ _=>?_;have l4:=Jy rfl MO;have XD:=Ya.to dZ ((KE.of_eq λb hb=>NV b (dZ.lt hb)).trans (l4.mono iF)) iF;obtain⟨plb,qF,fab⟩:=Fa.ke MO (λa ha=>by rw[ha]at Y9;exact(oL.slot (i:=13) (hl5' (by omega)) Y9).Ik) l4 fab;have hplb:∀b∈plb,b≠y/\b≠Az/\b∉tpl S':=λb hb=>by
  rcases Em b (qF b hb).1 with h1|h1
  ·exact Ya.qy.new b (mJ b h1).1
  ·have e1:=dZ.lt Ya.qy.q.xE.1;have e2:=dZ.lt (Ya.qy.q.tE _ (.inl rfl)).1;exact⟨by omega,by omega,λh=>by have:=dZ.lt (Ya.qy.q.tE _ (.inr h)).1;omega⟩
 have r3:=(m4 3 (by simp)).trans ((m3 3 (by simp)).trans q3);have r9:=(m4 9 (by simp)).trans ((m3 9 (by simp)).trans q9);have nH:=(m4 10 (by simp)).trans ((m3 10 (by simp)).trans q10);have UE:=(m4 11 (by simp)).trans ((m3 11 (by simp)).trans XZ);have lD:=(m4 12 (by simp)).trans ((m3 12 (by simp)).trans n12);clear q3 q9 q10 XZ n12 m3 m4 l4 NV Em qF mJ fa3;refine QU [1,21] (λ_=>hl5) Lc J08x VN df5 Jo5 oL (by omega) (Q:=λt w1=>t.size=86/\(∀i∈([1,21,3,9,10,11,12]:List Nat),t[i]?=T4'[i]?)/\t[15]?=some .nilIface/\∃τ,Jxw (w4'.tp τ 0) y cy c h' oG nY Az S' hs FB B w1) (λτ=>J05u (Jq3 (XD.qy.ing Jo5 fab hplb (λf hf=>FP f (qH f hf)) (by omega) ⟨by omega,by omega⟩ (tZ Jo3 λf hf=>by cases hf) τ)) s4 UE Y9 λT' s k' w' g1 g2=>⟨rfl,by show T'.size<=500;omega,hole k' (by simp) (by simp),s,k',g1,τ,g2⟩) λE5 T5' wb5 w5 XT TU OD uS ⟨s5,m5,n15,τ5,io5⟩ _=>?_;obtain⟨SB,qyB,tfB,kB5⟩:=XD.qy.qY XD.XH XD.XE Jo5 XT TU.hnd OD io5 Jo3 (by rw[Gm];omega) λf hf=>(FP f (qH f hf)).1.n;have UL:=XD.step (XD.neY kB5) XT qyB;clear Ya XD io5 kB5 qyB;rw[Gm]at tfB;obtain⟨pl5,lG,fa5⟩:=UL.fa;have htk:(fs.take k).length=k:=by rw[List.length_take];omega
 have hTm:∀f∈fs.take k,f∈fs:=λf hf=>List.mem_of_mem_take hf;refine QU [1,21] (λ_=>hl5) Lc J08y VN df5 TU uS (by omega) (Q:=λt w1=>t.size=86/\(∀i∈([1,21,3,10,11,15]:List Nat),t[i]?=T5'[i]?)/\t[16]?=some .nilIface/\∃τ,Jxw (w5.tp τ 0) y cy c h' (oG+B.length) nY Az SB hs FB (fs.take k) w1) (λτ=>J05v (k:=k) (by have:=fa5.cap;omega) (by have:=Jq3 (UL.qy.ing TU (fa5.take k) (λb hb=>UL.qy.new b (lG b hb).1) (λf hf=>FP f (hTm f hf)) (by omega) ⟨by omega,by omega⟩ (tZ tfB λf hf=>(FP f (qH f hf)).2) τ);rw[htk]at this;exact this) s5 ((m5 9 (by simp)).trans r9) ((m5 11 (by simp)).trans UE) ((m5 12 (by simp)).trans lD) λT' s k' w' g1 g2=>⟨rfl,by show T'.size<=500;omega,hole k' (by simp) (by simp),s,k',g1,τ,g2⟩) λE6 T6' wb6 w6 Uf O9 QG TY ⟨s6,m6,n16,τ6,io6⟩ _=>?_;obtain⟨SC,qyC,VZ,kC6⟩:=UL.qy.qY UL.XH UL.XE TU Uf O9.hnd QG io6 tfB (by rw[List.length_append];omega) λf hf=>(FP f (hTm f hf)).1.n;have st6:=UL.step (UL.neY kC6) Uf qyC;clear UL io6 kC6 qyC lG fa5;have Wi:fs.Perm (B++fs.take k):=by rw[vO];exact J056 fs k OG
 refine SX [1,21] (λ_=>hl5) Lc J08z VN df5 O9 TY (by omega) (Q:=λt=>t.size=86/\(∀i∈([1,21,10,11,15,16]:List Nat),t[i]?=T6'[i]?)/\t[17]?=some (.int .i64 (Ju mz 8))) (λτ=>J05w hmz s6 ((m6 3 (by simp)).trans ((m5 3 (by simp)).trans r3)) λT' s k h=>⟨rfl,by show T'.size<=500;omega,hole k (by simp) (by simp),⟨s,k,h⟩,rfl⟩) λE7 yM w7 le7 jL Vo k7 ⟨s7,m7,n17⟩ _=>?_;have xX:=st6.to O9 k7 le7;have hpm:=YP (c:=mz) (n:=8) (by omega);obtain⟨m,hm⟩:∃m:Nat,Ju mz 8=m:=⟨(Ju mz 8).toNat,by omega⟩;rw[hm]at n17 hpm;have t10:=(m7 10 (by simp)).trans ((m6 10 (by simp)).trans ((m5 10 (by simp)).trans nH));have t11:=(m7 11 (by simp)).trans ((m6 11 (by simp)).trans ((m5 11 (by simp)).trans UE));have t15:=(m7 15 (by simp)).trans ((m6 15 (by simp)).trans n15);have t16:=(m7 16 (by simp)).trans n16;clear st6 k7 m5 m6 m7 r3 r9 nH UE lD n15 n16;obtain⟨s0,a0,b0,c0,d0⟩:=J06v;obtain⟨s1,a1,b1,c1,d1⟩:=J06w;obtain⟨s2,a2,b2,c2,d2⟩:=J06x;obtain⟨s3,ty14,a3,YF,c3,d3⟩:=J06y;obtain⟨s4',a4,b4',c4,oP⟩:=J06z;refine J6 (λw1=>stepG_seq) rfl λd4=>?_;refine J6 (λw1=>stepG_region) rfl λd5=>?_;rw[show List.range G7.size=[0,1,2,3,4]from by kernel_rfl];have Hb:HS 5 WB E7 w7 E7 yM w7:=⟨jL,λ_ h=>h,.refl,λ_ _=>rfl,Vo,rfl,Ad _⟩;have vx7:VR C0 (idE E7) (pt x) (pt x):=.ptr _ _ ⟨rfl,xX.XE _ xX.qx.q.xE.1⟩;have vy7:VR C0 (idE E7) (pt y) (pt y):=.ptr _ _ ⟨rfl,xX.qy.q.xE.1⟩;refine Jc (v:=pt x) ((Hb.at d4).at d5) a0 (by simp[Region.wanted,c0]) d0 (λw1=>by simp[execOp,b0,Act.eval,BH,t10]) (λw1=>by simp[execOp,b0,Act.eval]) (.inr vx7) λwa1 Ha1 qa1=>?_;refine Jc (v:=pt y) Ha1 a1 (by simp[Region.wanted,c1]) d1 (λw1=>by simp[execOp,b1,Act.eval,BH,FC,t11]) (λw1=>by simp[execOp,b1,Act.eval]) (.inr vy7) λwa2 Ha2 qa2=>?_;refine Jc (v:=.int .i64 m) Ha2 a2 (by simp[Region.wanted,c2]) d2 (λw1=>by simp[execOp,b2,Act.eval,BH,FC,n17]) (λw1=>by simp[execOp,b2,Act.eval]) (.inr (.int _ _)) λwa3 wL qa3=>?_;obtain⟨T9,Vt⟩:∃T9,T9=((yM.setIfInBounds 64 (pt x)).setIfInBounds 65 (pt y)).setIfInBounds 66 (.int .i64 m):=⟨_,rfl⟩;rw[<- Vt]at wL ⊢;have o1:T9.size=86:=by rw[Vt];simpa using s7
 have os:∀i,i≠64->i≠65->i≠66->T9[i]?=yM[i]?:=λi m1 m2 m3=>by rw[Vt,AQ (Ne.symm m3),AQ (Ne.symm m2),AQ (Ne.symm m1)]
 have o64:T9[64]?=some (pt x):=by rw[Vt,AQ (by omega),AQ (by omega),EX (by omega)]
 have o65:T9[65]?=some (pt y):=by rw[Vt,AQ (by omega),EX (by simp[s7])]
 have o66:T9[66]?=some (.int .i64 m):=by rw[Vt,EX (by simp[s7])]
 clear Vt;refine Reach.call (B:=Go.Conc.base 5) (a:=⟨T9,[]⟩) a3 (by simp[Region.wanted,c3]) (by simp[Go.Conc.base]) YF (fn:=f14) (c:=b14) (by kernel_rfl) (by kernel_rfl) J08s λe5=>?_;have eb:(#[Operand.tmp 64,.tmp 65,.tmp 66,.const (.slice none 0 0)].map (Act.eval ⟨T9,[]⟩))++Array.replicate (f14.ntmps-(#[Operand.tmp 64,.tmp 65,.tmp 66,.const (.slice none 0 0)].map (Act.eval ⟨T9,[]⟩)).size) JA=#[pt x,pt y,.int .i64 m,.slice none 0 0]++Array.replicate 55 JA:=by
  have KO:f14.ntmps=59:=by kernel_rfl
  have h1:(#[Operand.tmp 64,.tmp 65,.tmp 66,.const (.slice none 0 0)].map (Act.eval ⟨T9,[]⟩))=#[pt x,pt y,.int .i64 m,.slice none 0 0]:=by simp[Act.eval,BH,o64,o65,o66]
  rw[KO,h1];rfl
 rw[eb];clear eb;have yH:(wa3.at e5).heap=w7.heap:=by show wa3.heap=_;rw[qa3,qa2,qa1];rfl
 have ka:KE E7 w7 (wa3.at e5):=.of_eq λb _=>by rw[yH]
 have QD:=xX.to jL ka λ_ h=>h;have Ih:m<8:=by omega
 have Jo6:cx.nb=4:=QD.qx.nb;have hynb:cy.nb=4:=QD.qy.nb;have LK:=QD.qx.hash.bd;refine J01x (x:=x) (y:=y) (m:=m) (c:=cx) (c':=cy) (S:=S) (S':=SC) (wL.at e5).bok (QD.qx.q.ke .refl QD.XH QD.XE) QD.qy.q Ih MC.hin MC.len (λT hn hT=>by
  have:=MC.Jo7 hn (MC.sum QD.qx.q.cfg Jo6 LK hT);omega) VZ.hin VZ.len (λT hn hT=>by
  have:=VZ.Jo7 hn (VZ.sum QD.qy.q.cfg hynb LK hT);omega) (λA B' _ _ hA FU=>MC.cmp VZ IE Wi QD.qx.q.cfg QD.qy.q.cfg Jo6 LK hA FU) (by simp) (by simp) (by simp) (by simp) (by simp) ?_ λWD ED wD leD hBD kD=>?_
 ·refine .fV (λu hu=>?_) λ_=>rfl;rw[Array.toList_append,FY]at hu;rcases hu with hu|hu
  ·simp only[AO,C9,or_false]at hu;rcases hu with rfl|rfl|rfl|rfl
   ·exact vx7
   ·exact vy7
   ·exact .int _ _
   ·exact .Jo _ _
  ·simp only[Array.toList_replicate]at hu;rw[List.eq_of_mem_replicate hu];exact .undef
 rw[a3];simp only[Option.bind_some,d3];have st9:=QD.to (wL.at e5).bok kD leD;have HD:HS 5 WD ED wD ED T9 wD:=⟨hBD,λ_ h=>h,.refl,λ_ _=>rfl,wL.tm.mono (Ox leD),rfl,Ad _⟩;have HE:=HD.put (HD.set (s:=67) (v:=.bool true) (.inr (.bool _)));refine Jc (v:=.bool true) HE a4 (by simp[Region.wanted,c4]) oP (λw1=>by simp[execOp,b4',Act.eval,BH,FC,o1]) (λw1=>by simp[execOp,b4',Act.eval]) (.inr (.bool _)) λwE HE' qE=>?_;refine J6 (λw1=>stepG_region_end) rfl λd6=>?_;have HF:=HE'.at d6;obtain⟨TF,jG⟩:∃TF,TF=(T9.setIfInBounds 67 (.bool true)).setIfInBounds 18 (.bool true):=⟨_,rfl⟩;rw[<- jG]at HF ⊢;have p1:TF.size=86:=by rw[jG];simpa using o1
 have ps:∀i,i≠64->i≠65->i≠66->i≠67->i≠18->TF[i]?=yM[i]?:=λi m1 m2 m3 m4 m5=>by rw[jG,AQ (Ne.symm m5),AQ (Ne.symm m4),os i m1 m2 m3]
 have p18:TF[18]?=some (.bool true):=by rw[jG,EX (by simp[o1])]
 have p10:=(ps 10 (by omega) (by omega) (by omega) (by omega) (by omega)).trans t10;have p11:=(ps 11 (by omega) (by omega) (by omega) (by omega) (by omega)).trans t11;have p15:=(ps 15 (by omega) (by omega) (by omega) (by omega) (by omega)).trans t15;have p16:=(ps 16 (by omega) (by omega) (by omega) (by omega) (by omega)).trans t16;clear jG HE HE' HD;have WA:=st9.to hBD HF.ke λ_ h=>h;generalize wE.at d6=wF at *;have hPP:∀s s',(∃ks,keysOf (S.map TR.kv) ks/\s=Qo (VK cx c FB S (ks.map (·.1))))->(∃ks,keysOf (SC.map TR.kv) ks/\s'=Qo (VK cy c FB SC (ks.map (·.1))))->s=s':=by rintro s s' ⟨ks,h1,rfl⟩ ⟨Vb,h2,rfl⟩;exact congrArg Qo (J06c MC.nd VZ.nd (MC.same VZ IE Wi WA.qx.q.cfg Jo6 LK) h1 h2 (by unfold EH;rw[IE.1,IE.2.1,IE.2.2]))
 have hXF:=WA.XE;refine Reach.ret (b:=Go.Conc.base 5) (X0:=[.code (.seq Tm (.seq S9 SY))]) (k:=[]) MZ rfl (.cons (.code J09s) .nil) VN df5 Lc (by simp[Go.Conc.base]) HF.bok HF.tm (Q:=λt1 w1=>t1[8]?=some (.bool true)/\∀b,b<wF.heap.size->w1.heap[b]?=wF.heap[b]?) (λτ=>?_) λEP TP wP wQ todo leP hBP hWP htP ⟨t1,t2⟩=>?_
 ·refine LGo.wp (wp_seq (J05x (w:=wF.tp τ 0) ((WA.qx.ke .refl WA.XH hXF).text HF.bok (λ_ _=>rfl) hc MC) p1 p10 λTa sa ka wa ⟨xs,xh,UH⟩ ta=>wp_seq (J05y (WA.qy.text HF.bok (λb hb=>ta.heap b hb λh=>h) hc VZ) sa ((ka 11 (by simp)).trans p11) λTb sb kb wb ⟨ys,yh,y20⟩ tb=>?_)));rw[<- hPP xs ys xh yh]at y20;refine J05z sb ((kb 15 (by simp)).trans ((ka 15 (by simp)).trans p15)) ((kb 16 (by simp)).trans ((ka 16 (by simp)).trans p16)) ((kb 18 (by simp)).trans ((ka 18 (by simp)).trans p18)) ((kb 19 (by simp)).trans UH) y20 λT' s k' g1=>?_;have tab:=ta.then tb ta.size λ_ _ h=>h;refine Cont.ret ⟨λi hi Oa=>?_,g1,λb hb=>tab.heap b hb λx=>x⟩ rfl;rcases hl5 hi with h|h
  ·exact(hole k' (by simp) (by simp) i h).trans ((hole kb (by simp) (by simp) i h).trans (hole ka (by simp) (by simp) i h))
  ·omega
 ·refine Reach.here ⟨rfl,λw1 Cc=>⟨.bool true,?_,rfl,?_⟩⟩
  ·rw[Jnj (f:=f5) (x:=8) (by kernel_rfl) (by kernel_rfl) (by kernel_rfl)];simp[BH,t1]
  ·obtain⟨dd,rfl⟩:=Cc;have kQ:KE ED wF wQ:=(KE.of_eq λb hb=>t2 b (HF.bok.lt hb)).trans ((Jy rfl hWP).mono leP);exact(WA.ke.trans (kQ.mono λb hb=>WA.XE b (WA.le b hb))).trans (.of_eq λ_ _=>rfl)
end
end Go.Sim.Z
