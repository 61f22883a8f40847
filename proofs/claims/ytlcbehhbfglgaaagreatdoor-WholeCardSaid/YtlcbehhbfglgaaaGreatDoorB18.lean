/- Proved: laws for the claim. No conditions. -/
import Derived.Conc.CompanyDraw
import Derived.Test.YtlcbehhbfglgaaaGreatDoorB03
import Derived.Test.YtlcbehhbfglgaaaGreatDoorB16
import Derived.Test.YtlcbehhbfglgaaaGreatDoorB17
set_option linter.all false
set_option maxHeartbeats 8000000
set_option maxRecDepth 100000
open Go.Proofs.Tryz
noncomputable section
namespace Go.Sim.Z
open Go Go.Proofs Go.RowKit Go.Maps Go.Sort Go.Shelf
def VO(f:Nat->JJ):((List.range 75).map f).toArray=#[f 0,f 1,f 2,f 3,f 4,f 5,f 6,f 7,f 8,f 9,f 10,f 11,f 12,f 13,f 14,f 15,f 16,f 17,f 18,f 19,f 20,f 21,f 22,f 23,f 24,f 25,f 26,f 27,f 28,f 29,f 30,f 31,f 32,f 33,f 34,f 35,f 36,f 37,f 38,f 39,f 40,f 41,f 42,f 43,f 44,f 45,f 46,f 47,f 48,f 49,f 50,f 51,f 52,f 53,f 54,f 55,f 56,f 57,f 58,f 59,f 60,f 61,f 62,f 63,f 64,f 65,f 66,f 67,f 68,f 69,f 70,f 71,f 72,f 73,f 74]:=by rfl
def Jo2{T:JC}(h:T.size=75):∃f:Nat->JJ,T=((List.range 75).map f).toArray:=⟨_,dM h⟩
def RI:Code:=sC (sC b38)
def Jx7:Code:=fC RI
def Jx8:Code:=fC WC
def Jx9:Code:=fC (sC WC)
def Jxa:Code:=fC WE
def Jxb:Code:=fC (sC WE)
def Jxc:Code:=sC (sC (sC WE))
def Jre:Code:=sC (sC (sC WC))
def Jrf:RI=.seq Jx7 (.block 0 (.loop (.seq Jx8 (.seq Jx9 (.seq (.block 1 (.seq Jxa (.seq Jxb (.seq Wu Jxc)))) Jre))))):=by kernel_rfl
def KQ.refl{base l ob:Nat}{W:JE}:KQ base l ob W W:=⟨Ad _,λ_ _ h _ _ _=>h⟩
def KQ.trans{base l ob:Nat}{W W1 W2:JE}(h:KQ base l ob W W1)(k:KQ base l ob W1 W2):KQ base l ob W W2:=⟨BN h.1 k.1,λb o hb h1 h2 h3=>k.2 b o (h.2 b o hb h1 h2 h3) h1 h2 h3⟩
def KQ.tch{base l ob:Nat}{W W1:JE}(t:Tch W.heap.size M0 W W1):KQ base l ob W W1:=⟨t.size,λb o hb _ _ _=>(t.heap b (Jj hb) λh=>h).trans hb⟩
def QAt.tch{base mo ob l D:Nat}{T9:JC}{most:Int}{L:List QC}{W W1:JE}(h:QAt base T9 mo ob l D most L W)(t:Tch W.heap.size M0 W W1):QAt base T9 mo ob l D most L W1:=by obtain⟨v,h1,h2⟩:=h.box;have k:∀(b:Nat)(o:Obj),W.heap[b]?=some o->W1.heap[b]?=some o:=λb o hb=>(t.heap b (Jj hb) λh=>h).trans hb;exact⟨⟨v,k _ _ h1,YK h2 λg cur hg=>k _ _ hg⟩,k _ _ h.lp,k _ _ h.mo,k _ _ h.D⟩
def SlN.kq{base qb l ob:Nat}{w w':JE}{v:JJ}{t:JH}{k:IntKind}{xs:JD}(h:SlN base w v t k xs)(q:KQ qb l ob w w')(ht:t≠38)(hl:l<base/\ob<base):SlN base w' v t k xs:=by obtain⟨g,cap,h1,h2,arr,⟨z,h3,h4⟩,h5⟩:=h;obtain rfl:=h4 rfl;exact⟨g,cap,h1,h2,arr,⟨(0,0),q.2 g _ h3 (by omega) (by omega) (λ_ cur e=>ht (Obj.cells.inj e).2.1),λ_=>rfl⟩,h5⟩
def SlI.kq{base qb l ob:Nat}{w w':JE}{v:JJ}{t:JH}{k:IntKind}{xs:JD}(h:SlI false w base v t k xs)(q:KQ qb l ob w w')(ht:t≠38)(hl:l<base/\ob<base):SlI false w' base v t k xs:=by
 rcases h with h|⟨g,cap,h1,h2,arr,⟨z,h3,h4⟩,h5⟩
 .exact .inl h
 .obtain rfl:=h4 rfl;exact .inr ⟨g,cap,h1,h2,arr,⟨(0,0),q.2 g _ h3 (by omega) (by omega) (λ_ cur e=>ht (Obj.cells.inj e).2.1),λ_=>rfl⟩,h5⟩
def KZ.kq{base qb l ob:Nat}{w w':JE}{kv rv hv lv:JJ}{g:JD}{B:Bun}(h:KZ base w kv rv hv lv g B)(q:KQ qb l ob w w')(hl:l<base/\ob<base):KZ base w' kv rv hv lv g B:=⟨h.k.kq q (by decide) hl,h.r.kq q (by decide) hl,h.h.kq q (by decide) hl,h.l.kq q (by decide) hl⟩
def IG(base:Nat)(w:JE)(T:List TR)(m0:Nat)(ks:List Je)(L:List QC):Prop:=
 L.length=ks.length/\∀(i:Nat)(x:Je)(q:QC),ks[i]?=some x->L[i]?=some q->q.g=MV m0 x.1 5/\tm T x.1=some q.B/\q.slices/\KZ base w q.kv q.rv q.hv q.lv q.g q.B
def SlN.mono{base AO:Nat}{w:JE}{v:JJ}{t:JH}{k:IntKind}{xs:JD}(h:SlN base w v t k xs)(hb:AO<=base):SlN AO w v t k xs:=by obtain⟨g,cap,h1,h2,h3⟩:=h;exact⟨g,cap,h1,by omega,h3⟩
def KZ.mono{base AO:Nat}{w:JE}{kv rv hv lv:JJ}{g:JD}{B:Bun}(h:KZ base w kv rv hv lv g B)(hb:AO<=base):KZ AO w kv rv hv lv g B:=⟨h.k.mono hb,h.r.mono hb,h.h.mono hb,h.l.mono hb⟩
def KZ.slices{base:Nat}{w:JE}{q:QC}(h:KZ base w q.kv q.rv q.hv q.lv q.g q.B):q.slices:=by
 obtain⟨h1,⟨g2,c2,h2,_⟩,⟨g3,c3,h3,_⟩,⟨g4,c4,h4,_⟩⟩:=h;rcases h1 with⟨h1,_⟩|⟨g1,c1,h1,_⟩
 .exact⟨_,_,_,_,_,_,_,_,_,_,_,_,h1,h2,h3,h4⟩
 .exact⟨_,_,_,_,_,_,_,_,_,_,_,_,h1,h2,h3,h4⟩
def IG.snoc{base qb l ob m0:Nat}{w w':JE}{T:List TR}{ks:List Je}{L:List QC}{x:Je}{q:QC}(h:IG base w T m0 ks L)(hk:KQ qb l ob w w')(hl:l<base/\ob<base)(h1:q.g=MV m0 x.1 5)(h2:tm T x.1=some q.B)(h3:KZ base w' q.kv q.rv q.hv q.lv q.g q.B):IG base w' T m0 (ks++[x]) (L++[q]):=by
 refine⟨by simp[h.1],λi y p hy hp=>?_⟩;rcases BF i ks.length with hi|hi
 .rw[List.getElem?_append_left hi]at hy;rw[List.getElem?_append_left (by rw[h.1];exact hi)]at hp;obtain⟨k1,k2,k3,k4⟩:=h.2 i y p hy hp;exact⟨k1,k2,k3,k4.kq hk hl⟩
 .have Nq:=(List.getElem?_eq_some_iff.1 hy).1;simp only[List.length_append,List.length_singleton]at Nq;obtain rfl:i=ks.length:=by omega
  rw[List.getElem?_append_right (by omega),Nat.sub_self]at hy;rw[List.getElem?_append_right (by rw[h.1];omega),h.1,Nat.sub_self]at hp;simp at hy hp;subst hy hp;exact⟨h1,h2,h3.slices,h3⟩
section
variable{l mb mm ob mo D base m0:Nat}{f:Nat->JJ}{w:JE}{c:J7}{T:List TR}{T9:JC}{most:Int}{d:Deferred}
def Jrg(hc:CZ c)(hT:TabAt false w c mm T)(BZ:∀t∈T,∀x∈t.B.h,0<=x)(hTn:T.length<=1000)(hm:w.heap[mb]?=some (.cells #[JK m0] 3))(XM:∀x,x=mm\/x∈tpl T->x≠l/\x≠ob/\∀cur,w.heap[x]?≠some (.cells cur 38))(X6:mb≠l/\mb≠ob)
  (hQ:QAt base T9 mo ob l D most [] w) (hb:base<=w.heap.size) (hT9:∃g9:Nat->JJ,T9=(#[g9 0,g9 1,g9 2,g9 3,g9 4,g9 5,g9 6,pt mo,g9 8,g9 9,pt ob,g9 11,g9 12,g9 13,g9 14,g9 15,g9 16,g9 17,g9 18,g9 19,g9 20,g9 21,g9 22,g9 23,g9 24,g9 25,g9 26,g9 27,g9 28,g9 29,g9 30,g9 31,g9 32])) (YC:(T.length:Int)<=most) :
  RI.wp prog (λe a w'=>e=.normal/\a.defers=[d]/\a.tmps.size=75/\∃ks L,keysOf (T.map TR.kv) ks/\IG w.heap.size w' T m0 ks L/\QAt base T9 mo ob l D most L w'/\KQ base l ob w w') ⟨#[.func (.yield l) #[] #[],f 1,pt mb,f 3,f 4,f 5,.map (some mm),f 7,f 8,f 9,f 10,f 11,f 12,f 13,f 14,f 15,f 16,f 17,f 18,f 19,f 20,f 21,f 22,f 23,f 24,f 25,f 26,f 27,f 28,f 29,f 30,f 31,f 32,f 33,f 34,f 35,f 36,f 37,f 38,f 39,f 40,f 41,f 42,f 43,f 44,f 45,f 46,f 47,f 48,f 49,f 50,f 51,f 52,f 53,f 54,f 55,f 56,f 57,f 58,f 59,f 60,f 61,f 62,f 63,f 64,f 65,f 66,f 67,f 68,f 69,f 70,f 71,f 72,f 73,f 74],[d]⟩ w:=by
 obtain⟨g9,rfl⟩:=hT9;have hs:=J73 mm (T.map TR.kv) w hT.map (by simp;omega);rw[<- wpIn_wide (n:=3),Jrf];obtain⟨X8,hX8,hX8'⟩:∃X:Code,X=Wu/\X=Wu:=⟨_,rfl,rfl⟩;simp only[Wu,WE,WC,b38,fC,sC,bC,lC,f68,A8]at hX8;simp only[Wu,Jx7,Jx8,Jx9,Jxa,Jxb,Jxc,Jre,RI,WE,WC,b38,fC,sC,bC,lC,f68,A8];gi_wp2;refine⟨trivial,(callsIn_wide.2 hs).mono ?_⟩;rintro e w1 ⟨v,ks,rfl,OO,Aj,t1⟩;obtain⟨ka,kc,PZ,rfl,SV⟩:=Aj.at;have hlen:ks.length=T.length:=by have:=OO.length;grind
 have jA:=Jj hQ.lp;obtain⟨v0,MK,_⟩:=hQ.box;have hol:=Jj MK;have kq1:KQ base l ob w w1:=.tch t1;have hQ1:=hQ.tch t1;generalize hn:ks.length=n at *;gi_wp2
 gi_loopw [35] (λi wr=>∃(j:Nat)(L:List QC),j<=n/\i=JK j/\IG w.heap.size wr T m0 (ks.take j) L/\QAt base (#[g9 0,g9 1,g9 2,g9 3,g9 4,g9 5,g9 6,pt mo,g9 8,g9 9,pt ob,g9 11,g9 12,g9 13,g9 14,g9 15,g9 16,g9 17,g9 18,g9 19,g9 20,g9 21,g9 22,g9 23,g9 24,g9 25,g9 26,g9 27,g9 28,g9 29,g9 30,g9 31,g9 32]) mo ob l D most L wr/\KQ base l ob w wr/\KQ base l ob w1 wr) (λi _=>n-(RowKit.intOf i).toNat)
 case atStart=>exact⟨0,[],by omega,rfl,⟨rfl,λi x q h=>by simp at h⟩,hQ1,kq1,.refl⟩
 case round=>
  rw[<- hX8];clear hX8;obtain⟨j,L,hj,rfl,hO,hQr,Zo,kqr⟩:=hrel;rcases BF j n with Ac|Et
  .have CS:(j:Int)<n:=by omega
   obtain⟨⟨key,LD⟩,hx⟩:∃x,ks[j]?=some x:=⟨ks[j]'(by omega),DL _⟩;have QN:∃g,ka=some ⟨g,0,none⟩/\j<kc/\∀t,t<5->wr.cell? ⟨g,j*5+t,none⟩=some (JK (key.getD t 0)):=by
    obtain⟨g,e1,_,e3,e4⟩:=PZ.cells hx;refine⟨g,e1,e3,λt ht=>?_⟩;rcases PZ with⟨e,_⟩|⟨g',cur,e,⟨z,hz,OX⟩,_⟩
    .grind
    .rw[e]at e1;cases e1;obtain rfl:=OX rfl;have Et:=(SV _ e).1;simp only at Et;have:=kqr.2 g _ hz (by omega) (by omega) (λ_ cur e=>absurd (Obj.cells.inj e).2.1 (by decide))
     grind[World.cell?_of_block]
   obtain⟨g,rfl,hjc,Dl⟩:=QN;have Jox:TabAt false wr c mm T:=hT.kept λy hy=>by have Ac:=hT.lt y hy;obtain⟨s1,s2,s3⟩:=XM y hy;have ho:=Bz Ac;rw[ho];exact Zo.2 y _ ho s1 s2 λ_ cur e=>s3 cur (ho.trans (congrArg some e))
   have hmr:wr.heap[mb]?=some (.cells #[JK m0] 3):=Zo.2 mb _ hm X6.1 X6.2 (by simp);obtain⟨t,Az,Bc,CB⟩:=OO.row hT.nodup (NR hx);obtain⟨t',T1,T2,hTe,D6,Gq,_,Ew⟩:=Qk CB;have rV:t'∈T:=by grind
   clear hTe;obtain⟨y0,y1,y2,y3,y4,rfl⟩:=Yx LD.1;have c0:wr.cell? ⟨g,j*5,none⟩=some (JK y0):=Dl 0 (by omega);have c1:wr.cell? ⟨g,j*5+1,none⟩=some (JK y1):=Dl 1 (by omega);have c2:wr.cell? ⟨g,j*5+2,none⟩=some (JK y2):=Dl 2 (by omega);have c3:wr.cell? ⟨g,j*5+3,none⟩=some (JK y3):=Dl 3 (by omega);have c4:wr.cell? ⟨g,j*5+4,none⟩=some (JK y4):=Dl 4 (by omega);clear Dl;obtain⟨W0,Ci⟩:∃W0,wr.alloc (.cells #[JK y0,JK y1,JK y2,JK y3,JK y4] 104)=W0:=⟨_,rfl⟩;have t0:Tch wr.heap.size M0 wr W0:=by rw[<- Ci];exact Tch.refl.alloc (Ad _) _
   have e0:W0.heap[wr.heap.size]?=some (.cells #[JK y0,JK y1,JK y2,JK y3,JK y4] 104):=by grind[Ja]
   have dO:=Jox.tch t0 λy hy=>⟨Jox.lt y hy,λh=>h⟩;have xQ:=dO.map.lookup LD;rw[Ew]at xQ;simp only[ai,D5,List.map_nil,A8]at xQ;have z0:=(cell_of e0 0).trans rfl;have z1:=(cell_of e0 1).trans rfl;have z2:=(cell_of e0 2).trans rfl;have z3:=(cell_of e0 3).trans rfl;have z4:=(cell_of e0 4).trans rfl;have OU:W0.cell? ⟨mb,0,none⟩=some (JK m0):=(cell_of ((t0.heap mb (Jj hmr) λh=>h).trans hmr) 0).trans rfl;gi_wp2;have Zh:=λT0 h1 h2 h3 h4=>Jui (d:=d) (T0:=T0) (key:=[y0,y1,y2,y3,y4]) (m:=m0) (mb:=mb) (kb:=wr.heap.size) (dO.bun t' rV) (dO.ok t' rV) hc (BZ t' rV) rfl e0 OU h1 h2 h3 h4;refine Code.wpIn_mono ?_ (wpIn_wide.2 (Zh _ rfl rfl rfl rfl));rintro e ⟨T8,ds⟩ w8 ⟨rfl,Ob,Ag,CX,cb,kv,rv,hv,lv,SL,hcg,Ui,hcd,t8⟩;simp only at Ob Ag CX SL;subst Ob;obtain⟨f8,rfl⟩:=Jo2 Ag;rw[VO]at *;have q0:f8 0=_:=Aa (CX 0 (by decide) (by decide));have q1:f8 1=_:=Aa (CX 1 (by decide) (by decide));have q2:f8 2=_:=Aa (CX 2 (by decide) (by decide));have q3:f8 3=_:=Aa (CX 3 (by decide) (by decide));have q4:f8 4=_:=Aa (CX 4 (by decide) (by decide));have q5:f8 5=_:=Aa (CX 5 (by decide) (by decide));have q6:f8 6=_:=Aa (CX 6 (by decide) (by decide));have q7:f8 7=_:=Aa (CX 7 (by decide) (by decide));have yV:f8 11=_:=Aa (CX 11 (by decide) (by decide));have yX:f8 12=_:=Aa (CX 12 (by decide) (by decide));have q13:f8 13=_:=Aa (CX 13 (by decide) (by decide));have q14:f8 14=_:=Aa (CX 14 (by decide) (by decide));have q15:f8 15=_:=Aa (CX 15 (by decide) (by decide));have q16:f8 16=_:=Aa (CX 16 (by decide) (by decide));have q17:f8 17=_:=Aa (CX 17 (by decide) (by decide));have q18:f8 18=_:=Aa (CX 18 (by decide) (by decide));have q19:f8 19=_:=Aa (CX 19 (by decide) (by decide));have q20:f8 20=_:=Aa (CX 20 (by decide) (by decide));have q21:f8 21=_:=Aa (CX 21 (by decide) (by decide));have q22:f8 22=_:=Aa (CX 22 (by decide) (by decide));have q23:f8 23=_:=Aa (CX 23 (by decide) (by decide));have q24:f8 24=_:=Aa (CX 24 (by decide) (by decide));have q25:f8 25=_:=Aa (CX 25 (by decide) (by decide));have q26:f8 26=_:=Aa (CX 26 (by decide) (by decide));have q27:f8 27=_:=Aa (CX 27 (by decide) (by decide));have q28:f8 28=_:=Aa (CX 28 (by decide) (by decide));have q29:f8 29=_:=Aa (CX 29 (by decide) (by decide));have q30:f8 30=_:=Aa (CX 30 (by decide) (by decide));have q31:f8 31=_:=Aa (CX 31 (by decide) (by decide));have q32:f8 32=_:=Aa (CX 32 (by decide) (by decide));have q33:f8 33=_:=Aa (CX 33 (by decide) (by decide));have q34:f8 34=_:=Aa (CX 34 (by decide) (by decide));have q35:f8 35=_:=Aa (CX 35 (by decide) (by decide));have q10:f8 10=_:=Aa SL;have hD:KZ W0.heap.size w8 kv rv hv lv (MV m0 [y0,y1,y2,y3,y4] 5) t.B:=by rw[<- Gq];exact hcd
   have tq:Tch wr.heap.size M0 wr w8:=t0.then t8 t0.size λb _ h=>h;have hQ8:=hQr.tch tq;obtain⟨q,hq⟩:∃q:QC,q=⟨kv,rv,hv,lv,MV m0 [y0,y1,y2,y3,y4] 5,t.B⟩:=⟨_,rfl⟩;have hqs:q.slices:=by rw[hq];exact KZ.slices (q:=⟨kv,rv,hv,lv,_,t.B⟩) hD
   have gB:L.length=j:=by rw[hO.1,List.length_take];omega
   obtain⟨fn,tmps,asg,bdy,hy,hR⟩:=J01d (m:=2) q hqs hQ8 (by omega) (by omega) (by have:=tq.size;have:=Zo.1;omega);simp only[hq,QC.val]at hy;simp only[q0,q1,q2,q3,q4,q5,q6,q7,yV,yX,q13,q14,q15,q16,q17,q18,q19,q20,q21,q22,q23,q24,q25,q26,q27,q28,q29,q30,q31,q32,q33,q34,q35,q10];clear CX SL Zh q0 q1 q2 q3 q4 q5 q6 q7 yV yX q13 q14 q15 q16 q17 q18 q19 q20 q21 q22 q23 q24 q25 q26 q27 q28 q29 q30 q31 q32 q33 q34 q35 q10;have v0:=(cell_of Ui 0).trans rfl;have v1:=(cell_of Ui 1).trans rfl;have v2:=(cell_of Ui 2).trans rfl;have v3:=(cell_of Ui 3).trans rfl;have v4:=(cell_of Ui 4).trans rfl;gi_wp2;refine hR.mono ?_;rintro e W3 ⟨rfl,hQ3,OM⟩;gi_wp2;have kqt:=(KQ.tch (base:=base) (l:=l) (ob:=ob) tq).trans OM;have Eu:l<W0.heap.size/\ob<W0.heap.size:=by have:=t0.size;have:=Zo.1;omega
   refine⟨⟨j+1,L++[q],by omega,by simp,?_,hQ3,Zo.trans kqt,kqr.trans kqt⟩,by simp[RowKit.intOf];omega⟩;rw[List.take_add_one,hx];exact hO.snoc kqt ⟨jA,hol⟩ (by rw[hq]) (by grind) (by rw[hq];exact(hD.kq OM Eu).mono (by have:=t0.size;have:=Zo.1;omega))
  .have EC:¬((j:Int)<n):=by omega
   obtain rfl:j=n:=by omega
   rw[<- hn,List.take_length]at hO;gi_wp2;exact⟨ks,OO,L,hO,hQr⟩
end
end Go.Sim.Z
namespace Go.Sim
open Go Go.Conc
section
variable{C:Cx}{S:Kn}{W E:JB}{w:JE}
def Reach.toOps(A:FM C S)(Ae:C.st=false){Post:(JB)->JF->JE->Prop}{b:Frame}{ops:Array Oper}{pre rest:List Nat}{t:JC}{ds:List Deferred}{k:List Item}{cs:List Frame}{Q:JC->JE->Prop}
  (hX:IC C S b.fn ops pre=true) (LK:rest≠[]) (hb:GY C b.fn) (Nk:S.df.contains b.fn=false) (hl:C.hl b.fn≠[]) (hk:b.kind≠.early)
  (hB:BOk C S W E w) (ht:TmR C S b.fn (idE E) t t)
  (K:∀τ,wpOps C.P ops (λe a w1=>e=.normal/\a.defers=[Jq]/\(∀i,(C.hl b.fn).contains i=true->i<t.size->a.tmps[i]?=t[i]?)/\Q a.tmps w1) pre ⟨t,[Jq]⟩ (w.tp τ 0))
  (kn:∀(E':JB)(t':JC)(w1 w':JE),(∀b,E b->E' b)->BOk C S W E' w'->WR C (okP C S) (idE E') w1 w'->TmR C S b.fn (idE E') t' t'->Q t' w1->Reach C.P Post W (G (b.at ⟨t',ds⟩ (.inRegion ops rest::k)) cs) w') :
  Reach C.P Post W (G (b.at ⟨t,ds⟩ (.inRegion ops (pre++rest)::k)) cs) w:=by
 have Cj:∀b,¬C.Sh b:=C.lax Ae
 let B:Bot:=⟨b.fn,t,k,rest,b.kind,ds,cs⟩
 have hg:GR C S (idE E) B (G ((base b.fn).at ⟨t,[Jq]⟩ ([.inRegion ops pre]++[Js])) []) (G (b.at ⟨t,ds⟩ (.inRegion ops (pre++rest)::k)) cs):=
  ⟨.bot ⟨rfl,hb,rfl,hk,rfl,rfl,ht,Pz.ops (cs:=B) pre hX,rfl,rfl,rfl,Nk,hl,rfl,rfl,rfl,λ_ _=>rfl⟩,rfl,rfl,rfl,rfl,rfl⟩
 have K':∀τ,LGo C.P b.fn (bI b.fn [.inRegion ops []] λt1 w1=>(∀i,(C.hl b.fn).contains i=true->i<t.size->t1[i]?=t[i]?)/\Q t1 w1) [.inRegion ops pre] t (w.tp τ 0):=λτ=>by
  obtain⟨⟨tm,df⟩,w',⟨_,hd,hh,hq⟩,hs⟩:=Jm3 (λ_ _ _ h=>h.1) pre _ _ (K τ) (base b.fn) [] [Js] []
  grind[LGo.steps,LGo.at]
 have hR:=Jlv A (main:=true) (cs:=B) (y0:=⟨E,E,G (b.at ⟨t,ds⟩ (.inRegion ops (pre++rest)::k)) cs,w⟩) (Post:=bI b.fn [.inRegion ops []] λt1 w1=>(∀i,(C.hl b.fn).contains i=true->i<t.size->t1[i]?=t[i]?)/\Q t1 w1)
  (λg w ⟨t1,Ba,_⟩=>by
   rw[Ba];show[Item.inRegion ops []]++[Js]≠[Js]
   grind)
  (λg w ⟨t1,Ba,_⟩ h=>by rw[Ba]at h;obtain⟨_,⟨c,h⟩,_⟩:=h;cases h) hB.link hg K'
 rw[Ae]at hR;refine Reach.U9 hR rfl hB.dis hB.dis (λb hb=>hB.lt hb) ?_;rintro⟨own,X,g,wy⟩ ⟨E1,g1,w1,hs,hL,fP,t1,rfl,hh,hq⟩ hd gV;simp only at hL hd gV fP
 let E':JB:=λb=>E1 b b
 have e1:∀b b',E1 b b'->b=b':=hL.wr.lid Ae;have hE:∀b,E b->E' b:=λb hb=>hs b b ⟨rfl,hb⟩;have s2:rng E1=E':=by
  funext b;simp only[rng,E',eq_iff_iff]
  grind
 have s3:E1=idE E':=by
  funext b b';simp only[idE,E',eq_iff_iff]
  grind
 have Qh:WR C (okP C S) (idE E') wy wy:=by
  have:=hL.wr.right (Md.refl C) (ok':=okP C S) Cj Ae (λ_=>⟨rfl,rfl⟩)
  grind
 have Gq:BOk C S W E' wy:=⟨Qh,hE _ hB.hnd,λg hg=>hE _ (hB.gl g hg),λb hb he=>hd b hb (hL.rng b b he).1⟩;have BQ:WR C (okP C S) (idE E') w1 wy:=by rw[<- s3];exact hL.wr
 rcases fP with hG|FW
 .obtain⟨fy,TY,yZ,dy,oy⟩:=g;have IW:=hG.stack;have r1:=hG.run';have r2:=hG.dying';have r3:=hG.offers;simp only at r1 r2 r3;subst r1 r2 r3;change StR C S E1 B [(base b.fn).at ⟨t1,[Jq]⟩ ([.inRegion ops []]++[Js])] (fy::TY)at IW;generalize hz:fy::TY=z at IW;cases IW with
  |cons _ h2=>cases h2
  |bot FV=>
   cases hz;have CB:TmR C S b.fn E1 t1 fy.tmps:=FV.tmps;have LC:∀i,(C.hl b.fn).contains i=true->fy.tmps[i]?=t[i]?:=FV.hold;have MJ:Pz C S B b.fn E1 ([.inRegion ops []]++[Js]) fy.todo:=FV.todo;have dK:fy.todo=.inRegion ops rest::k:=by
    generalize hx:[Item.inRegion ops []]++[Js]=x at MJ;generalize hy:fy.todo=y at MJ;cases MJ with
    |@code l l' hr hi=>grind
    |@ops Rl is h=>
     grind
   have key:fy.tmps=t1:=by
    apply Ll;intro i;by_cases hi:(C.hl b.fn).contains i=true
    .rw[LC i hi];by_cases Ac:i<t.size
     .grind
     .have hn:fy.tmps[i]?=none:=by grind
      rw[Cc (by omega)];have:fy.tmps.size<=i:=PE.1 hn;rw[Cc (by have:=CB.size;omega)]
    .by_cases Ac:i<t1.size
     .have h1:t1[i]?=some t1[i]:=Bz Ac;have h2:fy.tmps[i]?=some (fy.tmps[i]'(CB.size▸Ac)):=Bz _;rw[h1,h2,(CB.at_ i _ _ (by grind) h1 h2).eq e1]
     .rw[Cc (by have:=CB.size;omega),Cc (by omega)]
   have eP:fy=b.at ⟨fy.tmps,ds⟩ (.inRegion ops rest::k):=by obtain⟨f1,f2,f3,f4,f5,f6,f7⟩:=fy;have a1:=FV.fn2;have a2:=FV.kind2;have a3:=FV.dfr;have a4:=FV.RV;have a5:=FV.round';simp only at a1 a2 a3 a4 a5 dK;subst a1 a2 a3 a4 a5 dK;rfl
   rw[key]at CB eP;rw[eP];exact kn E' t1 w1 wy hE Gq BQ (by grind) hq
 .exact absurd FW.mode (by intro h;cases h)
def Reach.draw(Ae:C.st=false)(hB:BOk C S W E w){Post:(JB)->JF->JE->Prop}{b:Frame}{a:Act}{k:List Item}{cs:List Frame}{id:Nat}{ops:Array Oper}
  (kn:∀n w',BOk C S W E w'->w'.heap.size=w.heap.size->(∀b,E b->w'.heap[b]?=w.heap[b]?)->Reach C.P Post W (G (b.at a (.inRegion ops (Region.schedule (C.P.follows .mixedOrders) ops n)::k)) cs) w') :
  Reach C.P Post W (G (b.at a (.code (.region id ops true)::k)) cs) w:=by
 have hR:Runs false C.P true (λy=>∃n,y.g=G (b.at a (.inRegion ops (Region.schedule (C.P.follows .mixedOrders) ops n)::k)) cs/\BOk C S W E y.w/\y.w.heap.size=w.heap.size/\∀b,E b->y.w.heap[b]?=w.heap[b]?) ⟨E,E,G (b.at a (.code (.region id ops true)::k)) cs,w⟩:=by
  refine .step (λw1=>⟨grown E w1 { w1 with drawn:=w1.drawn+1 },grown E w1 { w1 with drawn:=w1.drawn+1 },G (b.at a (.inRegion ops (Region.schedule (C.P.follows .mixedOrders) ops (w1.tape w1.drawn (.order b.fn id)))::k)) cs,{ w1 with drawn:=w1.drawn+1 }⟩)
   (λw1 r=>⟨⟨#[],stepG_region_draw,⟨Ad _,λ_ _ _=>rfl,rfl,rfl,Nat.le_succ _,λe he=>by simp at he⟩⟩,rfl,rfl,rfl,rfl,rfl⟩) λw1 r=>.stop λw2 r2=>?_
  have Ba:∀b,grown E w1 { w1 with drawn:=w1.drawn+1 } b↔E b:=J90 rfl;have CV:=hB.rely Ae r;have O0:BOk C S W E { w1 with drawn:=w1.drawn+1 }:=CV.at (w1.drawn+1);have Hf:=((O0.ext Ba).rely Ae r2).ext λb=>(Ba b).symm;exact⟨_,rfl,Hf,(r2.same rfl).trans (r.same rfl),λb hb=>(r2.blocks b ((Ba b).2 hb)).trans (r.blocks b hb)⟩
 refine Reach.U9 hR rfl hB.dis hB.dis (λb hb=>hB.lt hb) ?_
 grind
end
end Go.Sim
namespace Go.Sim.Z
open Go Go.Proofs Go.RowKit
section
variable{P:Program}{ops:Array Oper}{Q:Exit->Act->JE->Prop}{m:Nat}{dst:Nat->Nat}
def Je9(hok:RU .any ops m dst=true):m<=ops.size/\(∀i,i<m->∃o,ops[i]?=some o/\o.guard=none/\o.dst=some (dst i)/\(∀e∈o.after,e.on<i)/\∀j,j<i->dst j≠dst i) /\
  ∀k,m<=k->k<ops.size->∃o,ops[k]?=some o/\(∀e∈o.after,e.on<k)/\∀j,j<k->anc .any ops ops.size k j=true:=by
 unfold RU at hok;simp only[Bh,decide_eq_true_eq,List.all_eq_true,List.mem_range,Bool.or_eq_true]at hok;obtain⟨⟨GN,hA⟩,hB⟩:=hok;refine⟨GN,λi hi=>?_,λk hk BX=>?_⟩
 .have:=hA i hi;cases ho:ops[i]? with
  |none=>grind
  |some o=>
   simp only[ho,Bh,Option.isNone_iff_eq_none,beq_iff_eq,Array.all_eq_true_iff_forall_mem,decide_eq_true_eq,List.all_eq_true,List.mem_range,bne_iff_ne]at this
   grind
 .have ho:=Bz BX;have h0:=hB k BX;rw[ho]at h0;simp only[Bh,Array.all_eq_true_iff_forall_mem,decide_eq_true_eq,List.all_eq_true,List.mem_range]at h0
  grind
def Jk3{listed:Array Bool}{k:Nat}{o:Oper}(ho:ops[k]?=some o)(Il:∀e∈o.after,listed[e.on]?=some true)(hf:listed[k]?=some false):k∈Region.ready .any ops listed:=by
 unfold Region.ready;refine Hq.2 ⟨List.mem_range.2 (BJ.1 ho).1,?_⟩
 simp_all
def Jm5{fuel t:Nat}{listed:Array Bool}(Ap:Region.ready .any ops listed≠[]):∃i∈Region.ready .any ops listed,∃t',Region.linearise.go .any ops (fuel+1) t listed []=i::Region.linearise.go .any ops fuel t' (listed.setIfInBounds i true) []:=by
 have BZ:0<(Region.ready .any ops listed).length:=List.length_pos_iff.2 Ap;have Ac:=Nat.mod_lt t BZ;refine⟨(Region.ready .any ops listed)[t % (Region.ready .any ops listed).length],List.getElem_mem _,t / (Region.ready .any ops listed).length,?_⟩;simp only[Region.linearise.go];change (match(Region.ready .any ops listed)[t % (Region.ready .any ops listed).length]? with
   |some i=>Region.linearise.go .any ops fuel (t / (Region.ready .any ops listed).length) (listed.setIfInBounds i true) [i]
   |none=>[].reverse)=_
 grind[List.getElem?_eq_getElem,linearise_go_acc]
theorem Jym{fuel t:Nat}{listed:Array Bool}(hr:Region.ready .any ops listed=[]):Region.linearise.go .any ops fuel t listed []=[]:=by
 cases fuel with
 |zero=>rfl
 |succ fuel=>
  simp only[Region.linearise.go];change (match(Region.ready .any ops listed)[t % (Region.ready .any ops listed).length]? with
   |some i=>Region.linearise.go .any ops fuel (t / (Region.ready .any ops listed).length) (listed.setIfInBounds i true) [i]
   |none=>[].reverse)=_
  grind
def Jk4(hok:RU .any ops m dst=true):∀(fuel t k:Nat)(listed:Array Bool),listed.size=ops.size->Closed .any ops listed->m<=k->k<=ops.size->(∀j,j<k->listed[j]?=some true)->(∀j,k<=j->j<ops.size->listed[j]?=some false)->ops.size-k<=fuel ->
  Region.linearise.go .any ops fuel t listed []=List.range' k (ops.size-k):=by
 obtain⟨GN,hA,hB⟩:=Je9 hok;intro fuel
 induction fuel with
 |zero=>
  intro t k listed _ _ _ _ _ _ hf;rw[show ops.size-k=0 by omega];rfl
 |succ fuel ih=>
  intro t k listed OQ BA hk BX Au D7 hf;have only:∀i,i∈Region.ready .any ops listed->i=k:=λi hi=>by
   obtain⟨hin,hfi,o,ho,BK⟩:=lW hi;have Ur:k<=i:=by
    grind
   obtain⟨_,_,_,Wx⟩:=hB i (by omega) hin;rcases Nat.eq_or_lt_of_le Ur with h|h
   .exact h.symm
   .have:=BA.anc ops.size i k (λo' Em=>by grind) (Wx k h)
    grind
  rcases BF k ops.size with Ac|Et
  .obtain⟨o,ho,Il,_⟩:=hB k hk Ac;have hr:k∈Region.ready .any ops listed:=Jk3 ho (λe he=>Au _ (Il e he)) (D7 k (Ad _) Ac);obtain⟨i,hi,t',e⟩:=Jm5 (fuel:=fuel) (t:=t) (List.ne_nil_of_mem hr);obtain rfl:=only i hi;rw[e,show ops.size-i=(ops.size-(i+1))+1 by omega,List.range'_succ];congr 1;refine ih t' (i+1) _ (by grind) (BA.set hr) (by omega) (by omega) (λj hj=>?_) (λj hj iO=>?_) (by omega)
   all_goals grind
  .have hr:Region.ready .any ops listed=[]:=by
    cases hr:Region.ready .any ops listed with
    |nil=>rfl
    |cons i l=>
     have hi:i∈Region.ready .any ops listed:=by rw[hr];simp
     grind[lW]
   grind[Jym]
def Walks(P:Program)(ops:Array Oper)(m:Nat)(pre:List Nat)(listed:Array Bool):Prop:=
 ∀(Q:Exit->Act->JE->Prop)(K:Array Bool->Act->JE->Prop),(∀listed a w i,K listed a w->i<m->i∈Region.ready .any ops listed->wpOp P ops Q i (λa' w'=>K (listed.setIfInBounds i true) a' w') a w) ->
  (∀listed a w,K listed a w->(∀j,j<m->listed[j]?=some true)->Q .normal a w)->∀a w,K listed a w->wpOps P ops Q pre a w
inductive Wk(ops:Array Oper)(m:Nat):Array Bool->List Nat->Prop
 |done{listed:Array Bool}(h:∀j,j<m->listed[j]?=some true):Wk ops m listed []
 |step{listed:Array Bool}{i:Nat}{pre:List Nat}(hi:i<m)(hr:i∈Region.ready .any ops listed)(h:Wk ops m (listed.setIfInBounds i true) pre):Wk ops m listed (i::pre)
def Jyn(P:Program)(hok:RU .any ops m dst=true):∀(fuel t:Nat)(listed:Array Bool),listed.size=ops.size->Closed .any ops listed->(∀j,m<=j->j<ops.size->listed[j]?=some false)->lack listed<=fuel ->
  ∃pre,Region.linearise.go .any ops fuel t listed []=pre++List.range' m (ops.size-m)/\(∀i∈pre,i<m)/\Walks P ops m pre listed/\Wk ops m listed pre:=by
 obtain⟨GN,hA,hB⟩:=Je9 hok;intro fuel
 induction fuel with
 |zero=>
  intro t listed OQ BA D7 hf;have Au:∀j,j<ops.size->listed[j]?=some true:=λj hj=>by
   cases hx:listed[j]? with
   |none=>grind
   |some b=>
    cases b with
    |true=>rfl
    |false=>grind[nM]
  refine⟨[],?_,λi hi=>(by cases hi),λQ K _ Ef a w hK=>Ef listed a w hK λj hj=>Au j (by omega),.done λj hj=>Au j (by omega)⟩;rw[Jk4 hok 0 t m listed OQ BA (Ad _) GN (λj hj=>Au j (by omega)) D7 ?_]
  all_goals simp_all
 |succ fuel ih=>
  intro t listed OQ BA D7 hf;by_cases Au:∀j,j<m->listed[j]?=some true
  .refine⟨[],?_,λi hi=>(by cases hi),λQ K _ Ef a w hK=>Ef listed a w hK Au,.done Au⟩;rw[Jk4 hok (fuel+1) t m listed OQ BA (Ad _) GN Au D7 ?_]
   .rfl
   .have:ops.size-m<=lack listed:=by
     unfold lack;rw[<- List.take_append_drop m listed.toList,List.countP_append];have:(listed.toList.drop m).countP (λb=>!b)=(listed.toList.drop m).length:=by
      rw[List.countP_eq_length]
      grind[List.getElem_of_mem,List.length_drop,Array.length_toList,Array.getElem?_eq_getElem]
     grind
    omega
  .have hex:∃j,j<m/\listed[j]?=some false/\∀i,i<j->listed[i]?=some true:=by
    refine Classical.byContradiction λhn=>Au λj=>?_
    induction j using Nat.strongRecOn with
    |_ j ihj=>
     intro hj;cases hx:listed[j]? with
     |none=>grind
     |some b=>
      cases b with
      |true=>rfl
      |false=>grind
   obtain⟨j,hj,hjf,hjl⟩:=hex;obtain⟨o,ho,_,_,Il,_⟩:=hA j hj;have hr:j∈Region.ready .any ops listed:=Jk3 ho (λe he=>hjl _ (Il e he)) hjf;obtain⟨i,hi,t',e⟩:=Jm5 (fuel:=fuel) (t:=t) (List.ne_nil_of_mem hr);obtain⟨hin,hif,oi,hoi,BK⟩:=lW hi;have KN:i<m:=by
    rcases BF i m with h|h
    .exact h
    .obtain⟨_,_,_,Wx⟩:=hB i h hin;have:=BA.anc ops.size i j (λo' Em=>by grind) (Wx j (by omega))
     grind
   have Ew:=nM hif;obtain⟨pre,h1,h2,h3,h4⟩:=ih t' (listed.setIfInBounds i true) (by grind) (BA.set hi) (λj hj iO=>by grind) (by omega);refine⟨i::pre,by grind,λx hx=>?_,λQ K hs Ef a w hK=>?_,.step KN hi h4⟩
   .grind
   .rw[wpOps_cons];exact wpOp_mono (λa' w' h=>h3 Q K hs Ef a' w' h) (hs listed a w i hK KN hi)
def Jk5(P:Program)(hok:RU .any ops m dst=true)(n:Nat):∃pre,Region.schedule true ops n=pre++List.range' m (ops.size-m)/\(∀i∈pre,i<m)/\Walks P ops m pre (Array.replicate ops.size false)/\Wk ops m (Array.replicate ops.size false) pre:=by
 have Ew:lack (Array.replicate ops.size false)<=ops.size:=by
  unfold lack
  grind[Nat.le_trans,List.countP_le_length]
 have:=Jyn P hok ops.size n (Array.replicate ops.size false) (by simp) (λi o hl=>by
  grind) (λj _ hj=>by simp[hj]) Ew
 exact this
def Jrh(P:Program)(hok:RU .any ops m dst=true)(n:Nat):∃pre,Region.schedule true ops n=pre++List.range' m (ops.size-m)/\(∀i∈pre,i<m)/\Walks P ops m pre (Array.replicate ops.size false):=by
 obtain⟨pre,h1,h2,h3,_⟩:=Jk5 P hok n
 grind
def Walks.dag{pre:List Nat}(hW:Walks P ops m pre (Array.replicate ops.size false)){T0:JC}{ds:List Deferred}{w0:JE}{M:JB}(F:Nat->JJ->JE->Prop)(hok:RU .any ops m dst=true)(Ag:∀i,i<m->dst i<T0.size)
  (stable:∀i v w w',F i v w->Tch w.heap.size M w w'->F i v w')
  (step:∀i o a w,i<m->ops[i]?=some o->Tch w0.heap.size M w0 w->a.tmps.size=T0.size->(∀s,(∀i,i<m->dst i≠s)->a.tmps[s]?=T0[s]?)->(∀j,(o.after.toList.any λe=>e.on == j && Region.binds .any e)=true->∃v,a.tmps[dst j]?=some v/\F j v w) ->
   wpOp P ops Q i (λa' w'=>∃v,a'=a.put (some (dst i)) v/\F i v w'/\Tch w.heap.size M w w') a w)
  (fin:∀a w,Tch w0.heap.size M w0 w->a.defers=ds->a.tmps.size=T0.size->(∀s,(∀i,i<m->dst i≠s)->a.tmps[s]?=T0[s]?)->(∀i,i<m->∃v,a.tmps[dst i]?=some v/\F i v w)->Q .normal a w):wpOps P ops Q pre ⟨T0,ds⟩ w0:=by
 obtain⟨GN,hA,hB⟩:=Je9 hok;have Ap:∀i,i<m->∀j,j<m->j≠i->dst j≠dst i:=λi hi j hj Vw=>by
  grind
 refine hW Q (λlisted a w=>YE M m dst F T0 ds w0 listed a w) (λlisted a w i hI KN hi=>?_) (λlisted a w hI Au=>fin a w hI.tch hI.ds hI.size hI.old λi hi=>hI.facts i hi (Au i hi)) ⟨T0,ds⟩ w0 ⟨.refl,rfl,rfl,λ_ _=>rfl,λi hi h=>?_⟩
 .obtain⟨hin,hf,o,ho,BK⟩:=lW hi;obtain⟨o',Em,hg,hd,Il,_⟩:=hA i KN;obtain rfl:o'=o:=by grind
  refine wpOp_mono ?_ (step i o' a w KN ho hI.tch hI.size hI.old λj iP=>?_)
  .rintro a' w' ⟨v,rfl,hv,ht⟩;exact hI.put KN (Ap i KN) (Ag i KN) stable hv ht
  .obtain⟨e,he,h⟩:=List.any_eq_true.1 iP;rw[Bh,beq_iff_eq]at h;obtain⟨rfl,hb⟩:=h;exact hI.facts _ (by grind) (BK e (Array.mem_toList_iff.1 he) hb)
 grind
end
open Go.Maps
def d38:Code:=fC b38
def La:Array Oper:=match fC (sC b38)with| .region _ ops _=>ops|_=>#[]
def J01n:∃id,b38=.seq d38 (.seq (.region id La true) RI):=⟨3,by kernel_rfl⟩
def r3F(x m vm base b3:Nat):Nat->JJ->Prop
 |0,v=>v=pt x
 |1,v=>v=pt x
 |2,v=>v=pt x 7
 |3,v=>v=.map (some vm)
 |4,v=>v=pt x
 |5,v=>v=.int .i64 m
 |6,v=>v=.int .i64 7
 |7,v=>v=.map (some base)
 |8,v=>v=.int .i64 m
 |_,v=>v=.func (.func 69) #[] #[pt b3]
section
variable{w:JE}{x:Nat}{c:J7}{seed nf:Int}{h:JJ}{vm base m b1 b2 b3 l:Nat}{f:Nat->JJ}{d:Deferred}
def J01o(q:DU w x c seed h nf vm base)(Ns:m<8)(k1:w.cell? ⟨b1,0,none⟩=some (pt x))(k2:w.cell? ⟨b2,0,none⟩=some (JK m))(k3:w.cell? ⟨b3,0,none⟩=some (.slice none 0 0)) :
  d38.wp prog (λe a w'=>e=.normal/\a.defers=[d]/\a.tmps=#[.func (.yield l) #[] #[],pt b1,pt b2,pt b3,f 4,.nilIface,f 6,f 7,f 8,f 9,f 10,pt x,JK m,.slice none 0 0,.nilIface,.nilIface,.bool false,f 17,f 18,f 19,f 20,f 21,f 22,f 23,f 24,f 25,f 26,f 27,f 28,f 29,f 30,f 31,f 32,f 33,f 34,f 35,f 36,f 37,f 38,f 39,f 40,f 41,f 42,f 43,f 44,f 45,f 46,f 47,f 48,f 49,f 50,f 51,f 52,f 53,f 54,f 55,f 56,f 57,f 58,f 59,f 60,f 61,f 62,f 63,f 64,f 65,f 66,f 67,f 68,f 69,f 70,f 71,f 72,f 73,f 74]/\w'=w) ⟨#[.func (.yield l) #[] #[],pt b1,pt b2,pt b3,f 4,f 5,f 6,f 7,f 8,f 9,f 10,f 11,f 12,f 13,f 14,f 15,f 16,f 17,f 18,f 19,f 20,f 21,f 22,f 23,f 24,f 25,f 26,f 27,f 28,f 29,f 30,f 31,f 32,f 33,f 34,f 35,f 36,f 37,f 38,f 39,f 40,f 41,f 42,f 43,f 44,f 45,f 46,f 47,f 48,f 49,f 50,f 51,f 52,f 53,f 54,f 55,f 56,f 57,f 58,f 59,f 60,f 61,f 62,f 63,f 64,f 65,f 66,f 67,f 68,f 69,f 70,f 71,f 72,f 73,f 74],[d]⟩ w:=by
 have iD:=Jl7 q Ns;simp only[d38,b38,fC,f68,A8]
 go_wp2_with (go_at_call 54;refine iD.mono ?_;rintro e w1 ⟨rfl,rfl⟩)
def Jri{T0:JC}{pre:List Nat}(hW:Walks prog La 10 pre (Array.replicate La.size false))(q:DU w x c seed h nf vm base)(Ns:m<8)(k1:w.cell? ⟨b1,0,none⟩=some (pt x))(k2:w.cell? ⟨b2,0,none⟩=some (JK m))
  (hT:T0.size=75) (t1:T0[1]?=some (pt b1)) (t2:T0[2]?=some (pt b2)) (t3:T0[3]?=some (pt b3))
  {K:Exit->Act->JE->Prop} (hK:∀a w',a.defers=[d]->a.tmps.size=75->(∀s,s<21->a.tmps[s]?=T0[s]?)->(∀s,30<s->a.tmps[s]?=T0[s]?)->a.tmps[28]?=some (.map (some base))->a.tmps[29]?=some (JK m)->a.tmps[30]?=some (.func (.func 69) #[] #[pt b3])->Tch w.heap.size M0 w w'->K .normal a w') :
  wpOps prog La K pre ⟨T0,[d]⟩ w:=by
 have k1:∀w1,Tch w.heap.size M0 w w1->w1.cell? ⟨b1,0,none⟩=some (pt x):=λw1 t=>(t.cell (cell_lt k1) λh=>h).trans k1;have k2:∀w1,Tch w.heap.size M0 w w1->w1.cell? ⟨b2,0,none⟩=some (JK m):=λw1 t=>(t.cell (cell_lt k2) λh=>h).trans k2;have qk:∀w1,Tch w.heap.size M0 w w1->DU w1 x c seed h nf vm base:=λw1 t=>q.kept (t.heap x q.blk.lt λh=>h) (t.heap vm q.vs.lt λh=>h);have k7:∀w1,Tch w.heap.size M0 w w1->w1.cell? ⟨x,7,none⟩=some (.map (some vm)):=λw1 t=>(qk w1 t).cells.2.2.2.2.2.2.2;simp only[La,b38,fC,sC,f68,A8]at hW ⊢;refine hW.dag (M:=M0) (dst:=λi=>i+21) (λi v _=>r3F x m vm base b3 i v) (by kernel_rfl) (λi hi=>by grind) (λi v w w' h _=>h) ?_ ?_
 .intro i o a w1 hi ho Az Ag hold hd;have s1:=(hold 1 (by grind)).trans t1;have s2:=(hold 2 (by grind)).trans t2;have s3:=(hold 3 (by grind)).trans t3
  match i,hi with
  |0,_=>
   cases ho;exact J9 rfl rfl (by simp[execOp,go_sem,s1,k1 _ Az];try rfl) ⟨_,rfl,rfl,.refl⟩
  |1,_=>
   cases ho;obtain⟨_,e0,rfl⟩:=hd 0 rfl;have e0:=(show a.tmps[21]?=some _ from e0);exact J9 rfl rfl (by simp[execOp,go_sem,e0];try rfl) ⟨_,rfl,rfl,.refl⟩
  |2,_=>
   cases ho;obtain⟨_,e1,rfl⟩:=hd 1 rfl;have e1:=(show a.tmps[22]?=some _ from e1);exact J9 rfl rfl (by simp[execOp,go_sem,e1];try rfl) ⟨_,rfl,rfl,.refl⟩
  |3,_=>
   cases ho;obtain⟨_,e2,rfl⟩:=hd 2 rfl;have e2:=(show a.tmps[23]?=some _ from e2);exact J9 rfl rfl (by simp[execOp,go_sem,e2,k7 _ Az];try rfl) ⟨_,rfl,rfl,.refl⟩
  |4,_=>
   cases ho;exact J9 rfl rfl (by simp[execOp,go_sem,s1,k1 _ Az];try rfl) ⟨_,rfl,rfl,.refl⟩
  |5,_=>
   cases ho;exact J9 rfl rfl (by simp[execOp,go_sem,s2,k2 _ Az];try rfl) ⟨_,rfl,rfl,.refl⟩
  |6,_=>
   cases ho;obtain⟨_,e4,rfl⟩:=hd 4 rfl;have e4:=(show a.tmps[25]?=some _ from e4);obtain⟨_,e5,rfl⟩:=hd 5 rfl;have e5:=(show a.tmps[26]?=some _ from e5);exact Rz rfl rfl (by simp[execOp,go_sem,e4,e5];try rfl) (Jnw (qk _ Az) Ns) λe w2 ⟨h1,h2⟩=>⟨_,h1,_,rfl,rfl,h2⟩
  |7,_=>
   cases ho;obtain⟨_,e3,rfl⟩:=hd 3 rfl;have e3:=(show a.tmps[24]?=some _ from e3);obtain⟨_,e6,rfl⟩:=hd 6 rfl;have e6:=(show a.tmps[27]?=some _ from e6);exact J9 rfl rfl (by simp[execOp,go_sem,e3,e6,HY.lookup (qk _ Az).vs];try rfl) ⟨_,rfl,rfl,.refl⟩
  |8,_=>
   cases ho;exact J9 rfl rfl (by simp[execOp,go_sem,s2,k2 _ Az];try rfl) ⟨_,rfl,rfl,.refl⟩
  |9,_=>
   cases ho;exact J9 rfl rfl (by simp[execOp,go_sem,s3];try rfl) ⟨_,rfl,rfl,.refl⟩
  |i+10,h=>grind
 .intro a w1 Az Ob Ag hold hf;obtain⟨_,f7,rfl⟩:=hf 7 (by omega);obtain⟨_,f8,rfl⟩:=hf 8 (by omega);obtain⟨_,f9,rfl⟩:=hf 9 (by omega)
  grind
end
open Go.Conc
section
variable{C:Cx}{ok:JG->Code->Prop}{E:JB}{w w':JE}{b:Nat}
def Jk6{r:Loop}(hW:WR C ok (idE E) w w')(he:E b)(ho:w.heap[b]?=some (.loop r)):∃T',w'.heap[b]?=some (.loop { r with tmps:=T' })/\T'.size=r.tmps.size/\∀i,(C.hl r.fn).contains i=false->T'[i]?=r.tmps[i]?:=by
 obtain⟨o1,o',h1,h2,h3⟩:=hW.get (b:=b) (b':=b) ⟨rfl,he⟩;rw[ho]at h1;cases h1;have hE:∀b b',idE E b b'->b=b':=λ_ _ h=>h.1;obtain⟨_,l',rfl,h⟩:=h3;refine⟨l'.tmps,?_,h.tmps.size.symm,λi hi=>?_⟩
 .rw[h2];clear h2;have h1:=h.state;have h2:=h.pending;have h3:=h.fn;have h4:=h.params;have h5:=h.assign;have h6:=h.body;have h7:=hE _ _ h.defers
  simp_all
 .have hs:=h.tmps.size;cases hx:r.tmps[i]? with
  |none=>grind
  |some v=>
   have hl:i<l'.tmps.size:=by grind
   have hy:=Bz hl;have:=h.tmps.at_ i _ _ hi hx hy;rw[hy,this.eq hE]
def Jgc(hW:WR C ok (idE E) w w')(he:E b)(ho:w.heap[b]?=some (.deferred (some []))):w'.heap[b]?=some (.deferred (some [])):=by
 obtain⟨o1,o',h1,h2,h3⟩:=hW.get (b:=b) (b':=b) ⟨rfl,he⟩;rw[ho]at h1;cases h1;obtain⟨_,ds,rfl,h⟩:=h3;cases ds with
 |none=>exact absurd h (by simp[Di])
 |some ds=>cases(show Fe C (idE E) [] ds from h);exact h2
end
structure KL(E:JB)(w w':JE):Prop where
 ke:KE E w w'
 df:∀b,E b->w.heap[b]?=some (.deferred (some []))->w'.heap[b]?=some (.deferred (some []))
 lp:∀b r,E b->w.heap[b]?=some (.loop r)->∃T',w'.heap[b]?=some (.loop { r with tmps:=T' })/\T'.size=r.tmps.size/\∀i,(C0.hl r.fn).contains i=false->T'[i]?=r.tmps[i]?
section
variable{E E':JB}{w w' Qj:JE}
def KL.Oq(hW:WR C0 (okP C0 S0) (idE E) w w'):KL E w w':=⟨Jt rfl hW,λ_ hb h=>Jgc hW hb h,λ_ _ hb h=>Jk6 hW hb h⟩
def KL.of_eq(h:∀b,E b->w'.heap[b]?=w.heap[b]?):KL E w w':=⟨.of_eq h,λb hb e=>(h b hb).trans e,λb r hb e=>⟨r.tmps,(h b hb).trans e,rfl,λ_ _=>rfl⟩⟩
def KL.trans(h:KL E w w')(k:KL E w' Qj):KL E w Qj:=⟨h.ke.trans k.ke,λb hb e=>k.df b hb (h.df b hb e),λb r hb e=>by
 obtain⟨T1,a1,a2,a3⟩:=h.lp b r hb e;obtain⟨T2,c1,c2,c3⟩:=k.lp b _ hb a1
 grind⟩
def KL.mono(h:KL E' w w')(hs:∀b,E b->E' b):KL E w w':=⟨h.ke.mono hs,λb hb=>h.df b (hs b hb),λb r hb=>h.lp b r (hs b hb)⟩
def KL.keeps(h:Keeps w w')(hE:∀b,E b->b<w.heap.size):KL E w w':=.of_eq λb hb=>h.heap b (hE b hb)
end
end Go.Sim.Z
end
