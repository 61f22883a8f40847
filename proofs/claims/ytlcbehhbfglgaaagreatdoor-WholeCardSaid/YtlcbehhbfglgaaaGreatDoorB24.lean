/- Proved: laws for the claim. No conditions. -/
import Derived.Shelf.Small.Bits
import Derived.Ground.Names2Prog
import Derived.Test.YtlcbehhbfglgaaaGreatDoorB02
import Derived.Test.YtlcbehhbfglgaaaGreatDoorB15
import Derived.Test.YtlcbehhbfglgaaaGreatDoorB16
import Derived.Test.YtlcbehhbfglgaaaGreatDoorB17
import Derived.Test.YtlcbehhbfglgaaaGreatDoorB23
set_option linter.all false
set_option maxHeartbeats 16000000
set_option maxRecDepth 100000
open Go.Proofs.Tryz
noncomputable section
namespace Go.Sim.Z
open Go Go.Proofs Go.RowKit Go.Conc Go.Maps
def J02n{E:JB}{h:JJ}{b:Nat}(hv:VR C0 (idE E) h h)(hb:Sv h=some b):E b:=by
 cases h with
 |func fn a cap=>
  cases hv with
  |func hf ha hx hc hy=>
   simp only[Sv]at hb;split at hb
   .rename_i p hp;cases hb;exact(hy 0 _ _ hp hp).NP
   .cases hb
 |_=>cases hb
def I8.ke{E:JB}{w w':JE}{h:JJ}{hs:Int->Int}(q:I8 w h hs)(k:KE E w w')(hE:∀b,Sv h=some b->E b):I8 w' h hs:=q.kept λb s hb hc=>k b _ (hE b hb) hc trivial
structure FK(X E:JB)(w:JE)(x:Nat)(c:J7)(seed:Int)(h:JJ)(hs:Int->Int)(nf:Int)(vm base:Nat)(S:List TR):Prop where
 q:NJ E w x c seed h nf vm base S
 hash:I8 w h hs
 hb:∀b,Sv h=some b->E b/\b≠x/\b≠base/\b∉tpl S
 bnd:∃b2 c2,c.ba=some ⟨b2,0,none⟩/\Row false w b2 3 .i64 Dc c2/\b2≠x/\b2≠base/\b2∉tpl S
 nb:c.nb=4
 dX:x≠base/\x∉tpl S
 dV:vm≠base/\vm∉tpl S/\vm≠x
 new:∀b,X b->b≠x/\b≠base/\b∉tpl S
 far:∀b,X b->b≠vm/\(∀a,c.ba=some a->b≠a.block)/\Sv h≠some b
def J05o(X E:JB)(w:JE)(k:Int)(x:Nat)(c:J7)(h:JJ)(hs:Int->Int)(nf:Int)(vm base:Nat)(S:List TR):Prop:=
 FK X E w x c k h hs nf vm base S/\hs=hsK (Jr k 3) k k/\c.bits=(TU k 0).bits/\c.K=(TU k 0).K/\0<=nf/\nf<=200
section
variable{W E:JB}{w:JE}{c:Int}{ga:JI}{fs:List Jd}{c2f:Nat}{pl:List Nat}{b₀:Frame}{a₀:Act}{ops:Array Oper}{i:Nat}{rest:List Nat}{kk:List Item}{cs:List Frame}{Post:(JB)->JF->JE->Prop}
def Jlf{T0:JC}(hB:BOk C0 S0 W E w)(hok:HOk w)(hc:I64 c)(fa:G8 false w ga fs c2f pl)(IQ:∀f∈fs,RH f/\BI f.k∈U64)(Ih:fs.length<=200)(Ag:T0.size=70)(h0:T0[0]?=some (JK c))(h1:T0[1]?=some (.slice ga fs.length c2f))(Bf:TmR C0 S0 14 (idE E) T0 T0)
  (kn:∀W' E' w' x c' h hs nf vm base S,(∀b,E b->E' b)->BOk C0 S0 W' E' w'->KE E w w'->NJ E' w' x c' c h nf vm base S->O3 c' hs fs S->(c'.bits=4+Jr c 1048576 % 3/\c'.nb=4)->(∀y,0<=hs y/\hs y<=18446744073709551615)->HOk w'->E' x->J05o E E' w' c x c' h hs nf vm base S ->
   Reach prog Post W' (G (b₀.at (a₀.put ((ops[i]?).bind (·.dst)) (pt x)) (.inRegion ops rest::kk)) cs) w') :
  Reach prog Post W (G ((Go.Conc.base 14).at ⟨T0,[]⟩ [.code b7]) (b₀.at a₀ (.inRegion ops (i::rest)::kk)::cs)) w:=by
 have Uk:prog.globals.size<w.heap.size:=hB.lt hB.hnd;have eg:∀a,ga=some a->E a.block:=λa e=>by rw[e]at h1;exact(Bf.slot (i:=1) (vF (by omega)) h1).MQ
 rw[J05b];have Xj:∀{a:Act}{t:JC},∀i∈([]:List Nat),a.tmps[i]?=t[i]?:=λi h=>by cases h
 refine Ql [] (λ_=>hl7) UH J05c Vg df7 hB Bf (by omega) (Q:=λt w1=>t.size=70/\t[0]?=some (JK c)/\t[1]?=some (.slice ga fs.length c2f)/\w1.heap=w.heap) (λτ=>wp_mono (Jv9 (w:=w.tp τ 0) Ag h0 h1) λe a w1 ⟨q1,q2,q3,q4,q5,q6⟩=>⟨q1,by omega,Xj,q3,q4,q5,q6⟩) λE0 T1 w1 w0 le0 fG Ci Az ⟨z1,z2,z3,z4⟩ _=>?_;have k0:KE E w w0:=(KE.of_eq λb _=>by rw[z4]).trans ((Jt rfl Ci).mono le0);have hok0:=hok.ke k0 hB.hnd;have Ba:prog.globals.size<w0.heap.size:=fG.lt fG.hnd;clear z4;refine Ql [] (λ_=>hl7) UH J05d Vg df7 fG Az (by omega) (Q:=λt w1=>t.size=70/\t[0]?=some (JK c)/\t[1]?=some (.slice ga fs.length c2f)/\t[5]?=some (pt (w0.heap.size+2))/\Blk false w1 (w0.heap.size+2) (EI (TU c (w0.heap.size+1)) 3 c) 47/\Row false w1 (w0.heap.size+1) 3 .i64 Dc 4/\(w0.heap.size<=w1.heap.size/\∀b,b<w0.heap.size->w1.heap[b]?=w0.heap[b]?)) (λτ=>wp_mono (Jva (w:=w0.tp τ 0) hc z1 z2 z3) λe a w1 ⟨q1,q2,q3,q4,q5,q6,q7,q8,q9⟩=>⟨q1,by omega,Xj,q3,q4,q5,q6,q7,q8,q9.size,λb hb=>q9.heap b hb λh=>h⟩) λE1 T2 wb w1 U0 CV AP Bc ⟨y1,y0,y2,y3,y4,y5,y6⟩ _=>?_;generalize X9:w0.heap.size=n1 at *;have l1:=Jt rfl AP;have k1:KE E0 w0 w1:=(KE.of_eq λb hb=>y6.2 b (X9▸fG.lt hb)).trans (l1.mono U0);have eb:E1 (n1+2):=(Bc.slot (i:=5) (vF (by omega)) y3).NP;have er:E1 (n1+1):=(AP.Y4 eb ((y4.cell 3).trans rfl:wb.cell? ⟨n1+2,3,none⟩=some (.slice (some ⟨n1+1,0,none⟩) 4 4))).MQ;have b1:=l1.blk eb y4;have r1:=y5.keE l1 er;have jQ:=hok0.ke k1 fG.hnd;clear y4 y5 y6;refine Ql [] (λ_=>hl7) UH J05e Vg df7 CV Bc (by omega) (Q:=λt w2=>t.size=70/\t[0]?=some (JK c)/\t[1]?=some (.slice ga fs.length c2f)/\t[5]?=some (pt (n1+2))/\t[6]?=some (JK (Jr c 3))/\w2.heap=w1.heap) (λτ=>wp_mono (Jvb (w:=w1.tp τ 0) hc y1 y0 y2 y3) λe a w2 ⟨q1,q2,q3,q4,q5,q6,q7,q8⟩=>⟨q1,by omega,Xj,q3,q4,q5,q6,q7,q8⟩) λE1' T2' wb' Am Vh O0 hW1' ht2' ⟨v1,v0,v2,v3,v4,v5⟩ _=>?_;have yN:KE E1 w1 Am:=(KE.of_eq λb _=>by rw[v5]).trans ((Jt rfl hW1').mono Vh);have b1':=yN.blk eb b1;have r1':=r1.keE yN er;have Jos:=jQ.ke yN CV.hnd;have Bl:prog.globals.size<Am.heap.size:=O0.lt O0.hnd;clear v5 b1 r1 jQ;have OM:=Yr (c:=c) (n:=3) (by omega);refine Ql [] (λ_=>hl7) UH J05f Vg df7 O0 ht2' (by omega) (Q:=λt w2=>t.size=70/\t[1]?=some (.slice ga fs.length c2f)/\∃x h vm base b2 c2,t[7]?=some (pt x)/\t[8]?=some .nilIface/\(Am.heap.size<=x/\Am.heap.size<=vm/\Am.heap.size<=base/\Am.heap.size<=b2)/\DU w2 x { TU c (n1+1)with ba:=some ⟨b2,0,none⟩,cb:=c2 } c h 0 vm base/\w2.heap[base]?=some (.map #[] 0)/\Row false w2 b2 3 .i64 Dc c2/\(x≠vm/\x≠base/\x≠b2/\vm≠base/\vm≠b2/\base≠b2)/\(Am.heap.size<=w2.heap.size/\∀b,b<Am.heap.size->w2.heap[b]?=Am.heap[b]?)/\I8 w2 h (hsK (Jr c 3) c c)/\(∀b,Sv h=some b->b≠x/\b≠base)/\∀b,Sv h=some b->Am.heap.size<=b) (λτ=>wp_mono (Jvc (w:=Am.tp τ 0) OM (Yz c _) (Row.kept (w:=Am) r1' rfl) rfl rfl aK (Blk.kept (w:=Am) b1' rfl) v1 v0 v2 v3 v4) λe a w2 ⟨q1,q2,q3,q4,x,q6,q7,h,q8,q9,q10⟩=>by
  obtain⟨x',vm,base,b2,c2,e1,p1,p2,p3,p4,p5⟩:=q8.ex;obtain rfl:x=x':=by simpa using e1
  refine⟨q1,by omega,Xj,q3,q4,x,h,vm,base,b2,c2,q6,q7,p1,p2,p3,p4,p5,⟨q8.tch.size,λb hb=>q8.tch.heap b hb λh=>h⟩,q9,λb hb=>?_,q10⟩;obtain⟨s,CQ⟩:∃s,w2.heap[b]?=some (.cells #[JK s] 3):=by
   generalize hsK (Jr c 3) c c=hsx at q9;cases q9 with
   |one=>cases hb
   |two h=>cases hb;exact⟨_,h⟩
   |mix h=>cases hb;exact⟨_,h⟩
  refine⟨λe=>?_,λe=>?_⟩
  .obtain⟨z,hz,_⟩:=p2.blk;rw[e,hz]at CQ;cases CQ
  .rw[e,p3]at CQ;cases CQ) λE2 T3 wb2 w2 qG Dt Dv Dx ⟨x1,x2,x,h,vm,base,b2,c2,x4,x5,⟨g1,g2,g3,g4⟩,cu,em,rw2,⟨d1,d2,d3,d4,d5,d6⟩,⟨kz,kk'⟩,hh,xO,hhf⟩ _=>?_
 obtain⟨hs,Ux⟩:∃hs,hs=hsK (Jr c 3) c c:=⟨_,rfl⟩;rw[<- Ux]at hh;have l2:=Jt rfl Dv;have k2:KE E1' Am w2:=(KE.of_eq λb hb=>kk' b (O0.lt hb)).trans (l2.mono qG);have ex:E2 x:=(Dx.slot (i:=7) (vF (by omega)) x4).NP;obtain⟨c',MG⟩:∃c',c'={ TU c (n1+1)with ba:=some ⟨b2,0,none⟩,cb:=c2 }:=⟨_,rfl⟩;have WH:c'.ba=some ⟨b2,0,none⟩:=by rw[MG]
 have lT:c'.nb=4:=by rw[MG];rfl
 have cb':c'.bits=4+Jr c 1048576 % 3:=by rw[MG];rfl
 have Gp:CZ c':=by rw[MG];exact⟨(Yz c 0).b1,(Yz c 0).b2,(Yz c 0).k1,(Yz c 0).k2,(Yz c 0).nb⟩
 rw[<- MG]at cu;have yT:HOk wb2:=Jos.ke (KE.of_eq λb hb=>kk' b (O0.lt hb)) O0.hnd;have Js1:∃arr t,Blk false wb2 b2 arr t/\Plain arr:=by obtain⟨cur,p1,_,_,_,p2⟩:=rw2;exact⟨cur,_,p1,p2⟩
 have q2:NJ E2 w2 x c' c h 0 vm base []:=by
  refine NJ.Oq Dv cu (TabAt.of_empty em) yT Dt.hnd ex (λy hy=>?_) (λa ha=>?_) Gp (by simp)
  .rcases hy with rfl|hy
   .omega
   .simp[tpl]at hy
  .rw[WH]at ha;cases ha;exact⟨by show _<=b2;omega,Js1⟩
 have Jvh:∀b,Sv h=some b->E2 b:=λb hb=>J02n (Dv.Y4 ex cu.cells.2.2.2.2.2.1) hb;have Fv:I8 w2 h hs:=hh.ke l2 Jvh;have vT:E2 b2:=(q2.bE _ WH).1;have r2:=rw2.keE l2 vT;have Nv:=Jos.ke k2 O0.hnd;clear kz kk' cu yT Js1 rw2 em b1' r1' Jos hh;refine Ql [] (λ_=>hl7) UH J05g Vg df7 Dt Dx (by omega) (Q:=λt w3=>t.size=70/\t[1]?=some (.slice ga fs.length c2f)/\t[7]?=some (pt x)/\w3.heap=w2.heap) (λτ=>wp_mono (Jvd (w:=w2.tp τ 0) x1 x2 x4 x5) λe a w1 ⟨q1,q2,q3,q4,q5,q6⟩=>⟨q1,by omega,Xj,q3,q4,q5,q6⟩) λE4 T5 wb3 w4 Ti KH CY EW ⟨u1,u2,u3,v5⟩ _=>?_;have k3:KE E2 w2 w4:=(KE.of_eq λb _=>by rw[v5]).trans ((Jt rfl CY).mono Ti);have q4:=q2.ke k3 Dt.hnd Ti;have r4:=r2.keE k3 vT;have vG:=Nv.ke k3 Dt.hnd;have QK:=Fv.ke k3 Jvh;have vH:∀b,Sv h=some b->E4 b:=λb hb=>Ti _ (Jvh b hb);have YN:∀b,E b->E4 b:=λb hb=>Ti b (qG b (Vh b (U0 b (le0 b hb))));have lH:KE E w w4:=k0.trans ((k1.mono le0).trans ((yN.mono λb hb=>U0 b (le0 b hb)).trans ((k2.mono λb hb=>Vh b (U0 b (le0 b hb))).trans (k3.mono λb hb=>qG b (Vh b (U0 b (le0 b hb)))))));have XW:∀b,E4 b->b<w4.heap.size:=λb hb=>KH.lt hb;have iJ:prog.globals.size<w4.heap.size:=KH.lt KH.hnd;have ex4:=XW _ q4.xE.1;have ev4:=XW _ q4.xE.2;have es4:=XW _ (q4.tE _ (.inl rfl)).1;have QB:=XW _ (q4.bE _ WH).1;obtain⟨pl4,Zg,fa4⟩:=G8.ke hB.wr eg lH fa;have plt:∀y∈pl4,y<Am.heap.size:=λy hy=>O0.lt (Vh _ (U0 _ (le0 _ (Zg y hy).2.1)));clear v5 r2 Nv q2 Fv;have ing:∀τ,Jx1 (w4.tp τ 0) x c' c h 0 vm base [] ga fs c2f pl4 hs Dc U64:=λτ=>{
  q:=q4.cube.kept rfl rfl
  tab:=q4.tab.kept λ_ _=>rfl
  fsa:=fa4.kept λ_ _=>rfl
  okf:=λg hg=>(IQ g hg).1
  bnd:=.inr ⟨b2,c2,WH,Row.kept r4 rfl⟩
  bsl:=by rw[lT];rfl
  so:=aK
  cfg:=Gp
  hsr:=QK.bd
  one:=λw1 t item at_=>I8.calls (QK.kept λb s hb hc=>(t.heap b (XW b (vH b hb)) λh=>h).trans hc) ((q4.cube.kept (w':=w4.tp τ 0) rfl rfl).kept (t.heap x q4.cube.blk.lt λh=>h) (t.heap vm q4.cube.vs.lt λh=>h)) item at_
  dF:=λy hy=>by have:=plt y hy;exact⟨by omega,by simp[tpl],by omega⟩
  dX:=⟨d2,by simp[tpl]⟩
  dV:=⟨d4,by simp[tpl],Ne.symm d1⟩
  dB:=λa ha=>by rw[WH]at ha;cases ha;exact⟨Ne.symm d6,by simp[tpl],QB,Ne.symm d3⟩
  n1:=by omega
  nf0:=by omega
  nf1:=by omega
  hU:=λg hg=>(IQ g hg).2
  hTU:=λt ht=>by cases ht
  hUn:=by rw[Jz0];omega }
 refine Ql [] (λ_=>hl7) UH J05h Vg df7 KH EW (by omega) (Q:=λt w5=>t.size=70/\t[1]?=some (.slice ga fs.length c2f)/\t[7]?=some (pt x)/\t[8]?=some .nilIface/\DU w5 x c' c h (0+fs.length) vm base/\(∃T',TabAt false w5 c' base T'/\(∀key,tm T' key=MS c' Dc hs 7 (tm []) fs key)/\∀y,y=base\/y∈tpl T'->y=base\/w4.heap.size<=y)/\(∀b,b<w4.heap.size->b≠x->b≠base->w5.heap[b]?=w4.heap[b]?)) (λτ=>wp_mono (Jve (w:=w4.tp τ 0) (Jrd (ing τ)) u1 u2 u3) λe a w5 ⟨p1,p2,p3,p4,p5,p6,p8⟩=>⟨p1,by omega,Xj,p3,p4,p5,p6,p8.q,by
  obtain⟨T',t1,t2,t3⟩:=p8.tab;exact⟨T',t1,t2,λy hy=>(t3 y hy).imp (λh=>h.resolve_right (by simp[tpl])) id⟩,λb hb h1 h2=>p8.tch.heap b hb λh=>by
  rcases h with h|h|h
  .exact h1 h
  .exact h2 h
  .simp[tpl]at h⟩) λE5 T6 wb5 w5 yQ fH PU V8 ⟨s1,s2,s3,s4,cu,⟨T',Jz8,hT',D8⟩,kk5⟩ _=>?_
 have l5:=Jt rfl PU;have k5:KE (λb=>E4 b/\b≠x/\b≠base) w4 w5:=(KE.of_eq λb hb=>kk5 b (KH.lt hb.1) hb.2.1 hb.2.2).trans (l5.mono λb hb=>yQ b hb.1);have ex5:E5 x:=(V8.slot (i:=7) (vF (by omega)) s3).NP;have MB:O3 c' hs fs T':=by refine⟨Jz8.nodup,λk=>?_,λf hf=>(IQ f hf).1.n,BN Ih (by decide)⟩;have:=Jrt (c:=c') (bs:=Dc) (hs:=hs) (fs:=fs) (g0:=[]) 7 (g:=tm []) (λk=>rfl) k;rw[Gm]at this;exact(hT' k).trans this
 have hgx:prog.globals.size≠x/\prog.globals.size≠base:=by omega
 have yT:HOk wb5:=vG.ke (E:=λb=>b=prog.globals.size) (KE.of_eq λb hb=>by subst hb;exact kk5 _ (KH.lt KH.hnd) hgx.1 hgx.2) rfl;have q5:NJ E5 w5 x c' c h (0+fs.length) vm base T':=by
  refine NJ.Oq PU cu Jz8 yT fH.hnd ex5 (λy hy=>?_) (λa ha=>?_) Gp (by have:=MB.len;omega)
  .rcases D8 y hy with rfl|h
   .omega
   .omega
  .rw[WH]at ha;cases ha;obtain⟨cur,p1,p2,p3,p4,p5⟩:=r4;refine⟨by show _<=b2;omega,cur,_,p1.kept (kk5 b2 QB (Ne.symm d3) (Ne.symm d6)),p5⟩
 have kE5:KE E w w5:=lH.trans (k5.mono λb hb=>⟨YN b hb,by have:=O0.lt (Vh b (U0 b (le0 b hb)));omega,by have:=O0.lt (Vh b (U0 b (le0 b hb)));omega⟩);have Jvi:∀b,E b->E5 b:=λb hb=>yQ b (YN b hb);refine Ql [] (λ_=>hl7) UH J05i Vg df7 fH V8 (by omega) (Q:=λt w6=>t.size=70/\t[1]?=some (.slice ga fs.length c2f)/\t[7]?=some (pt x)/\w6.heap=w5.heap) (λτ=>wp_mono (Jvf (w:=w5.tp τ 0) s1 s2 s3 s4) λe a w1 ⟨q1,q2,q3,q4,q5,q6⟩=>⟨q1,by omega,Xj,q3,q4,q5,q6⟩) λE6 T7 wb6 w6 XV SB SH XR ⟨j1,j2,j3,v6⟩ _=>?_;have k6:KE E5 w5 w6:=(KE.of_eq λb _=>by rw[v6]).trans ((Jt rfl SH).mono XV);have q6:=q5.ke k6 fH.hnd XV;have ok6:HOk w6:=q6.hok;have yO:KE E w w6:=kE5.trans (k6.mono Jvi);have ex6:E6 x:=XV _ ex5;clear v6;have H6:HS 14 W E6 w6 E6 T7 w6:=⟨SB,λ_ h=>h,.refl,λ_ _=>rfl,XR,rfl,Ad _⟩;refine J7e (x:=x) (m:=0) (most:=10) (M:=400) (S:=T') (l:=[(34,.tmp 7)]) (ags:=#[.tmp 34,.const (JK 0),.const (.slice none 0 0),.const (JK 10)]) (d:=35) (sT:=33) (sA:=36) (sB:=37) (sX:=9) (sY:=10) H6 rfl (by kernel_rfl) (by kernel_rfl) (by kernel_rfl) (by kernel_rfl) (by kernel_rfl) ⟨vF (by omega),vF (by omega),vF (by omega)⟩ (by omega) (by omega) (by simp[mvT,Act.eval,Bq,Gj,j1,(BJ.1 j3).2]) q6 (by omega) (by omega) MB.hin (by have:=MB.len;omega) (by omega) (λT hn hT=>by have:=(O3.one (hs:=hs) MB.n3 hn (MB.sum Gp lT QK.bd hT)).1;omega) λW7 E7 u0 wq w8 v T ks L T9 ke7 qo H9 n1 j9 yM ss sh=>?_;have Jov:=MB.sum Gp lT QK.bd qo.sum;obtain⟨one1,Jvj,Jvk⟩:=O3.one (hs:=hs) MB.n3 qo.nd Jov;obtain⟨va,vc,hv⟩:=Jh7 qo.row;have k8:KE E6 w6 w8:=ke7.trans (qo.ke.trans (.of_eq λ_ _=>by rw[sh]));replace n1:=n1.trans j1;replace j2:=(ss 1 (by simp) (by omega) (by omega) (by omega) (by omega) (by omega) (by omega)).trans j2;replace j3:=(ss 7 (by simp) (by omega) (by omega) (by omega) (by omega) (by omega) (by omega)).trans j3;have qP:∀τ,UM.wp prog (λe a w'=>e=.ret/\a.defers=[Jq]/\a.tmps.size=70/\a.tmps[4]?=some (pt x)/\w'.heap=w8.heap) ⟨T9,[Jq]⟩ (w8.tp τ 0):=by
  intro τ;have hL:L.length=T.length:=by rw[qo.outs.1];have:=qo.keys.length;simpa using this
  by_cases Ap:fs=[]
  .have Lr:T.length=0:=by
    rcases Nat.eq_zero_or_pos T.length with h|h
    .exact h
    .obtain⟨t,ht⟩:=List.exists_mem_of_length_pos h;obtain⟨_,f,hf,_⟩:=nZ qo.nd Jov ht;rw[Ap]at hf;cases hf
   rw[hv,hL,Lr]at j9;rw[Ap]at j2;exact Js0 (w:=w8.tp τ 0) n1 j2 j3 j9 yM
  .have h1:=Jvj Ap;obtain⟨q,hq⟩:∃q,L[0]?=some q:=⟨L[0]'(by omega),DL _⟩;obtain⟨k0,qA⟩:∃k0,ks[0]?=some k0:=⟨ks[0]'(by have:=qo.outs.1;omega),DL _⟩;obtain⟨a1,a2,a3,a4⟩:=qo.outs.2 0 k0 q qA hq;rw[hL,h1]at hv;rcases qo.row.2 with⟨_,e⟩|⟨g,cap,cur,e,_,OJ,BA,Nj,_,hx⟩
   .rw[hL,h1]at e;cases e
   have a5:=Jov k0.1;rw[a2]at a5;obtain⟨t,T1,T2,rfl,tk,_⟩:=Qk a2;have zk:k0.1=[0,0,0,0,0]:=by rw[<- tk];exact Jvk t (by simp)
   rw[zk,sel0 MB.n3]at a5;have Jvl:q.B=Df c' Dc (fs.map λf=>(hs f.it,f.v)):=by unfold FP at a5;rw[if_neg (by simpa using Ap)]at a5;exact Aa a5
   have hn:q.B.n=fs.length:=by rw[Jvl,J029 (by rw[FQ];omega),FQ]
   have Ig:L.length=1:=by omega
   have hLq:L=[q]:=by obtain⟨y,rfl⟩:=List.length_eq_one_iff.1 Ig;simp at hq;rw[hq]
   have EX:(w8.tp τ 0).cell? ⟨g,1,none⟩=some (JK fs.length):=by
    refine(cell_of (w:=w8.tp τ 0) (show w8.heap[g]?=_ by rw[sh];exact OJ) 1).trans ?_;rw[Ig,hLq]at hx;have h5:(List.take (1*5) cur.toList)[1]?=some (JK q.B.n):=by rw[hx];rfl
    rw[List.getElem?_take,if_pos (by omega),Array.getElem?_toList,hn]at h5;exact h5
   rw[e,Ig]at j9;exact Jvg (w:=w8.tp τ 0) (List.length_pos_iff.2 Ap) EX n1 j2 j3 j9 yM
 refine Reach.ret (b:=Go.Conc.base 14) (X0:=[.code UM]) (k:=[]) KY rfl (.cons (.code J05j) .nil) Vg df7 UH (by simp[Go.Conc.base]) H9.bok H9.tm (Q:=λt1 w1=>t1[4]?=some (pt x)/\w1.heap=w8.heap) (λτ=>?_) λE8 T9 w9 wA todo Qi vX hW8 Jz9 ⟨z1,z2⟩=>?_
 .refine LGo.wp (wp_mono (qP τ) λe b w' ⟨m1,n2,n3,n4,n5⟩=>?_);subst m1;refine Cont.ret ⟨λi hi Nq=>?_,n4,n5⟩ n2;rcases hl7 hi with h|h
  .cases h
  .omega
 .refine Reach.leave1 (B:=Go.Conc.base 14) rfl rfl (fn:=f14) (by kernel_rfl) (x:=4) (by kernel_rfl) λd12=>?_;have kf:KE E7 w8 wA:=(KE.of_eq λb _=>by rw[z2]).trans ((Jt rfl hW8).mono Qi);have kA:KE E6 w6 wA:=k8.trans (kf.mono qo.le);have kA':KE E6 w6 (wA.at d12):=kA.trans (.of_eq λ_ _=>rfl);have q9:=q6.ke kA' SB.hnd λb hb=>Qi b (qo.le b hb);rw[show(Act.mk T9 []).tmps.getD 4 JA=pt x from by simp[Bq,z1]];have lt1:∀b,E b->b<Am.heap.size:=λb hb=>O0.lt (Vh b (U0 b (le0 b hb)));have Dw:∀y,y=base\/y∈tpl T'->y=base\/w4.heap.size<=y:=D8;have lU:∀y,y<w4.heap.size->y≠base->y∉tpl T':=λy h1 h2 h3=>by
   rcases Dw y (.inr h3)with h|h
   .exact h2 h
   .omega
  have k59:KE E5 w5 (wA.at d12):=k6.trans (kA'.mono XV);have r5:=r4.keE k5 ⟨Ti _ vT,Ne.symm d3,Ne.symm d6⟩;have hh5:I8 w5 h hs:=QK.ke k5 λb hb=>⟨vH b hb,xO b hb⟩;have hbY:∀b,Sv h=some b->E5 b:=λb hb=>yQ b (vH b hb);exact kn W7 E8 (wA.at d12) x c' h hs _ vm base T' (λb hb=>Qi b (qo.le b (XV b (Jvi b hb)))) (vX.at d12) (yO.trans (kA'.mono λb hb=>XV b (Jvi b hb))) q9 MB ⟨cb',lT⟩ QK.bd q9.hok (Qi _ (qo.le _ ex6)) ⟨{
   q:=q9
   hash:=hh5.ke k59 hbY
   hb:=λb hb=>⟨Qi b (qo.le b (XV b (hbY b hb))),(xO b hb).1,(xO b hb).2,lU b (XW b (vH b hb)) (xO b hb).2⟩
   bnd:=⟨b2,c2,WH,r5.keE k59 (yQ _ (Ti _ vT)),Ne.symm d3,Ne.symm d6,lU b2 QB (Ne.symm d6)⟩
   nb:=lT
   dX:=⟨d2,lU x ex4 d2⟩
   dV:=⟨d4,lU vm ev4 d4,Ne.symm d1⟩
   new:=λb hb=>⟨by have:=lt1 b hb;omega,by have:=lt1 b hb;omega,lU b (XW b (YN b hb)) (by have:=lt1 b hb;omega)⟩
   far:=λb hb=>⟨by have:=lt1 b hb;omega,λa ha e=>by rw[WH]at ha;cases ha;have:=lt1 b hb;simp only at e;omega,λe=>by have:=lt1 b hb;have:=hhf b e;omega⟩ },Ux,by rw[MG];rfl,by rw[MG];rfl,by omega,by omega⟩
end
section
variable{c:J7}{bs:JD}
end
section
variable{c:J7}{bs:JD}{hs:Int->Int}{fs:List Jd}
end
def selm(m:Nat)(g:JD):JD:=(g.zipIdx.filter λp=>m.testBit p.2).map (·.1)
abbrev Jki:=JD × List (Int × Int)
structure J08g(m:Nat)(fs:List Jd)(ks:List (JD)):Prop where
 nd:ks.Nodup
 of:∀k∈ks,∃f∈fs,Jf m (BI f.k) 5=k
 has:∀f∈fs,Jf m (BI f.k) 5∈ks
section
variable{c:J7}{hs:Int->Int}{fs:List Jd}{m:Nat}{ks k7 km:List (JD)}
def Jvm(m:Nat)(g:JD)(P:List Jki)(j:Nat):List (Int × Int):=((P.take j).filter λp=>decide (selm m p.1=g)).flatMap (·.2)
structure J08h(c:J7)(m n:Nat)(P Pm:List Jki):Prop where
 ok7:∀p∈P,Pq p.2/\p.1.length=3
 sum7:(P.map λp=>p.2.length).sum=n
 fine:∀p∈Pm,Df c Dc (Jvm m p.1 P P.length)=Df c Dc p.2/\Jvm m p.1 P P.length≠[]/\(Jvm m p.1 P P.length).length=p.2.length/\p.1.length<=3
 sum:(Pm.map λp=>p.2.length).sum=n
 one:m=0->Pm.length<=1
end
section
variable{w:JE}{a b:JJ}{xs ys:JD}
def J08t{ga gb ca cb:Nat}(hl:xs.length=ys.length)(hn:xs.length<=1000)(ha:0<xs.length->Row false w ga 3 .i64 xs ca)(hb:0<xs.length->Row false w gb 3 .i64 ys cb){va vb:JJ}(ea:∃p c,va=.slice p xs.length c/\(0<xs.length->p=some ⟨ga,0,none⟩))(eb:∃p c,vb=.slice p ys.length c/\(0<xs.length->p=some ⟨gb,0,none⟩)) :
  Calls prog 85 #[va,vb] w λe w'=>e=.returned (.bool (decide (xs=ys)))/\Tch w.heap.size M0 w w':=by
 obtain⟨pa,c1,rfl,qa⟩:=ea;obtain⟨pb,c2,rfl,qb⟩:=eb;rw[<- hl];obtain⟨n,Y6⟩:∃n,xs.length=n:=⟨_,rfl⟩;have hca:∀wr,Tch w.heap.size M0 w wr->∀i,i<n->wr.cell? ⟨ga,i,none⟩=some (JK (xs.getD i 0)):=λwr t i hi=>((ha (by omega)).tch t (ha (by omega)).lt λx=>x).cell (by omega);have SL:∀wr,Tch w.heap.size M0 w wr->∀i,i<n->wr.cell? ⟨gb,i,none⟩=some (JK (ys.getD i 0)):=λwr t i hi=>((hb (by omega)).tch t (hb (by omega)).lt λx=>x).cell (by omega);rw[Y6]at qa qb ⊢;have xX:¬((n:Int)≠n):=λh=>h rfl;have hx:∀i,i<n->xs.getD i 0=ys.getD i 0\/¬xs=ys:=λi hi=>by
  grind
 have BH:(∀i,i<n->xs.getD i 0=ys.getD i 0)->xs=ys:=λh=>by
  grind[List.ext_getElem]
 clear ha hb
 go_enter func85,ntmps85
 go_wp2
 go_loopw [5] (λi wr=>∃k:Nat,k<=n/\i=JK k/\(∀i,i<k->xs.getD i 0=ys.getD i 0)/\Tch w.heap.size M0 w wr) (λi _=>n-(RowKit.intOf i).toNat)
 case atStart=>exact⟨0,by omega,rfl,λi h=>by omega,.refl⟩
 case round=>
  obtain⟨k,hk,rfl,heq,ht⟩:=hrel;rcases BF k n with Ac|Et
  .have g1:=hca _ ht k Ac;have g2:=SL _ ht k Ac;obtain rfl:=qa (by omega);obtain rfl:=qb (by omega);have CS:(k:Int)<n:=by omega
   have LU:=hx k Ac;have Ae:xs.getD k 0=ys.getD k 0->∀i,i<k+1->xs.getD i 0=ys.getD i 0:=λe i hi=>by
    grind
   generalize xs.getD k 0=x at *;generalize ys.getD k 0=y at *;clear hca SL hx BH heq;by_cases e:x=y
   .have D9:=Ae e;clear Ae LU;subst e;go_wp2
    go_region
    all_goals go_wp2
    exact⟨⟨k+1,by omega,by go_num,D9,ht.drew⟩,by simp[RowKit.intOf];omega⟩
   .have Ap:=LU.resolve_left e;go_wp2
    go_region
    all_goals go_wp2
    go_ret;exact⟨by simp_all,ht.drew⟩
  .obtain rfl:k=n:=by omega
   have EC:¬((k:Int)<k):=by omega
   have:=BH heq;clear hca SL hx BH heq;go_wp2;go_ret
   simp_all
def qN(ha:SlI false w 0 a 3 .i64 xs)(hb:SlI false w 0 b 3 .i64 ys)(hn:xs.length<=1000) :
  Calls prog 85 #[a,b] w λe w'=>e=.returned (.bool (decide (xs=ys)))/\Tch w.heap.size M0 w w':=by
 have ea:∃ga ca p c,a=.slice p xs.length c/\(0<xs.length->p=some ⟨ga,0,none⟩)/\(0<xs.length->Row false w ga 3 .i64 xs ca):=by
  rcases ha with⟨rfl,rfl⟩|⟨g,cap,rfl,_,h⟩
  .simp_all
  grind
 have eb:∃gb cb p c,b=.slice p ys.length c/\(0<ys.length->p=some ⟨gb,0,none⟩)/\(0<ys.length->Row false w gb 3 .i64 ys cb):=by
  rcases hb with⟨rfl,rfl⟩|⟨g,cap,rfl,_,h⟩
  .simp_all
  grind
 obtain⟨ga,ca,p,c,e1,h1,r1⟩:=ea;obtain⟨gb,cb,q,d,e2,h2,r2⟩:=eb;by_cases hl:xs.length=ys.length
 .exact J08t hl hn r1 (λh=>r2 (by omega)) ⟨p,c,e1,h1⟩ ⟨q,d,e2,λh=>h2 (by omega)⟩
 .have Ap:xs≠ys:=λe=>hl (by rw[e]);rw[decide_eq_false Ap];subst e1 e2;have iW:(xs.length:Int)≠ys.length:=by omega
  clear h1 h2 r1 r2;generalize xs.length=n at *;generalize ys.length=m at *
  go_enter func85,ntmps85
  go_wp2;go_ret;exact⟨rfl,.refl⟩
end
structure J08i(w:JE)(g j:Nat)(c:J7)(p:Jki):Prop where
 k:∃v,w.cell? ⟨g,j*5,none⟩=some v/\SlI false w 0 v 3 .i64 p.1
 n:w.cell? ⟨g,j*5+1,none⟩=some (JK (Df c Dc p.2).n)
 r:∃b q,w.cell? ⟨g,j*5+2,none⟩=some (JM b (Df c Dc p.2).r.length q)/\Row false w b 3 .i64 (Df c Dc p.2).r q
 h:∃b q,w.cell? ⟨g,j*5+3,none⟩=some (JM b (Df c Dc p.2).h.length q)/\Row false w b 3 .i64 (Df c Dc p.2).h q
section
variable{w w':JE}{g j:Nat}{c:J7}{p:Jki}{v:JJ}{xs:JD}
end
def setFrom:JC->Nat->List JJ->JC
 |T,_,[]=>T
 |T,b,v::vs=>setFrom (T.setIfInBounds b v) (b+1) vs
theorem qO:∀(vs:List JJ)(T:JC)(b s:Nat),s<b\/b+vs.length<=s->(setFrom T b vs)[s]?=T[s]?
 |[],_,_,_,_=>rfl
 |v::vs,T,b,s,h=>by rw[Lh]at h;rw[setFrom,qO vs _ _ _ (by omega),AV (by omega)]
theorem J06n:∀(vs:List JJ)(T:JC)(b i:Nat),b+vs.length<=T.size->i<vs.length->(setFrom T b vs)[b+i]?=vs[i]?
 |[],_,_,_,_,h=>by simp at h
 |v::vs,T,b,0,h,_=>by
  rw[Lh]at h;show(setFrom (T.setIfInBounds b v) (b+1) vs)[b]?=_;rw[qO vs _ _ _ (by omega),FC (by omega)];rfl
 |v::vs,T,b,i+1,h,hi=>by rw[Lh]at h hi;rw[setFrom,show b+(i+1)=b+1+i by omega,J06n vs _ _ _ (by simp;omega) (by omega)];rfl
def b3:Code:=Tryz.f3.body.getD .skip
def J06f{P:Program}{ops:Array Oper}{Q:Exit->Act->JE->Prop}{id:Nat}{T0:JC}{ds:List Deferred}{w0:JE}(base m:Nat)(F:Nat->JJ->JE->Prop)(hm:P.follows .mixedOrders=true)(hok:RU .any ops m (λi=>base+i)=true)(Ag:base+m<=T0.size)
  (stable:∀(i:Nat)(v:JJ)(w w':JE),F i v w->Tch w.heap.size M0 w w'->F i v w')
  (step:∀(i:Nat)(o:Oper)(a:Act)(w:JE),i<m->ops[i]?=some o->Tch w0.heap.size M0 w0 w->(∀s,s<base\/base+m<=s->a.tmps[s]?=T0[s]?)->(∀j,(o.after.toList.any λe=>e.on == j && Region.binds .any e)=true->∃v,a.tmps[base+j]?=some v/\F j v w) ->
   wpOp P ops Q i (λa' w'=>∃v,a'=a.put (some (base+i)) v/\F i v w'/\Tch w.heap.size M0 w w') a w)
  (fin:∀(vs:List JJ)(w:JE),vs.length=m->Tch w0.heap.size M0 w0 w->(∀i,i<m->F i (vs.getD i JA) w)->wpList P ops Q (ops.toList.drop m) ⟨setFrom T0 base vs,ds⟩ w) :
  (Code.region id ops true).wp P Q ⟨T0,ds⟩ w0:=by
 refine Jdg (M:=M0) m (λi=>base+i) F hm hok (λi hi=>by omega) stable (λi o a w hi ho ht hs hold hd=>?_) λa w ht Ob hs hold hf=>?_
 .exact step i o a w hi ho ht (λs h=>hold s λi hi=>by omega) hd
 .obtain⟨tm,O4⟩:=a;simp only at Ob hs hold hf;subst Ob;obtain⟨vs,hvs⟩:∃vs:List JJ,vs=(List.range m).map λi=>tm.getD (base+i) JA:=⟨_,rfl⟩;have hl:vs.length=m:=by grind
  have hv:∀i,i<m->tm[base+i]?=vs[i]?/\F i (vs.getD i JA) w:=λi hi=>by
   obtain⟨v,h1,h2⟩:=hf i hi
   simp_all
  have e:tm=setFrom T0 base vs:=by
   refine Ll λs=>?_;by_cases h:base<=s/\s<base+m
   .obtain⟨i,rfl⟩:∃i,s=base+i:=⟨s-base,by omega⟩
    grind[J06n]
   grind[qO]
  rw[e];have hw:=J9a (P:=P) (ops:=ops) (Q:=Q) (ops.toList.drop m) m λj hj=>by
   grind
  rw[List.length_drop,show ops.toList.length=ops.size from rfl]at hw;have h2:=fin vs w hl ht λi hi=>(hv i hi).2;rw[<- hw]at h2;exact h2
section
variable{w:JE}{base wb:Nat}{bs:JD}{n:Int}
def J08u(n:Int):EF [n]=bM n.toNat:=by simp[EF]
def Jfk(hw:wb<base)(hb:base<=w.heap.size)(hW:WrB w base wb bs)(hn:0<=n/\n<=18446744073709551615)(hl:bs.length<=900000000) :
  Calls prog 45 #[JL wb,JM w.heap.size 1 1] (w.alloc (.cells #[.int .u64 n] 110)) λe w'=>(∃v,e=.returned v)/\WrB w' base wb (bs++bM n.toNat)/\KP base wb w w':=by
 have Aj:Row false (w.alloc (.cells #[.int .u64 n] 110)) w.heap.size 110 .u64 [n] 1:=by
  refine⟨#[.int .u64 n],⟨(0,0),Ja _,λ_=>rfl⟩,rfl,Ad _,λi hi=>?_,λv hv=>?_⟩
  .grind
  .simp at hv;exact⟨_,_,hv⟩
 obtain⟨v,hv,hp⟩:=hW;have Ac:=Jj hv;have AP:WrB (w.alloc (.cells #[.int .u64 n] 110)) base wb bs:=⟨v,(J8 _ Ac).trans hv,hp.kept λb cur hb h=>(J8 _ (Jj h)).trans h⟩;refine(tX (g:=w.heap.size) (cap:=1) (xs:=[n]) hw (by rw[size_alloc];omega) AP (λ_=>Aj) (λ_=>by omega) (λx hx=>by grind) (by simp;omega) ⟨_,1,rfl,λ_=>rfl⟩).mono ?_;rintro e w' ⟨h1,h2,h3⟩;rw[J08u]at h2;exact⟨h1,h2,(KP.refl.alloc _).trans h3⟩
end
def LY(c:J7)(seed:Int):JD:=[3,IntKind.u64.wrap c.bits,IntKind.u64.wrap c.K,Ym seed,IntKind.u64.wrap c.nb]
def e2F(c:J7)(seed:Int)(x wb N:Nat):Nat->JJ->JE->Prop
 |0,v,_=>v=pt wb
 |1,v,_=>v=pt x
 |2,v,_=>v=pt x
 |3,v,_=>v=pt x
 |4,v,_=>v=pt x
 |5,v,_=>v=.int .i64 3
 |6,v,_=>v=.int .u64 3
 |7,v,_=>v=pt x
 |8,v,_=>v=pt x
 |9,v,_=>v=pt x
 |10,v,_=>v=pt x 1
 |11,v,_=>v=.int .i64 c.bits
 |12,v,_=>v=.int .u64 (IntKind.u64.wrap c.bits)
 |13,v,_=>v=pt x
 |14,v,_=>v=pt x
 |15,v,_=>v=pt x
 |16,v,_=>v=pt x 2
 |17,v,_=>v=.int .i64 c.K
 |18,v,_=>v=.int .u64 (IntKind.u64.wrap c.K)
 |19,v,_=>v=pt x
 |20,v,_=>v=pt x
 |21,v,_=>v=pt x
 |22,v,_=>v=pt x 4
 |23,v,_=>v=.int .i64 seed
 |24,v,_=>v=.int .u64 (Ym seed)
 |25,v,_=>v=pt x
 |26,v,_=>v=pt x
 |27,v,_=>v=pt x
 |28,v,_=>v=pt x 3
 |29,v,_=>v=.slice c.ba c.nb c.cb
 |30,v,_=>v=.int .i64 c.nb
 |31,v,_=>v=.int .u64 (IntKind.u64.wrap c.nb)
 |_,v,w=>∃g,v=.slice (some ⟨g,0,none⟩) 5 5/\N<=g/\Row false w g 110 .u64 (LY c seed) 5
def J07z{c:J7}{seed:Int}{x wb N:Nat}(i:Nat)(v:JJ)(w w':JE)(h:e2F c seed x wb N i v w)(t:Tch w.heap.size M0 w w'):e2F c seed x wb N i v w':=by
 match i,h with
 |0,h=>exact h
 |1,h=>exact h
 |2,h=>exact h
 |3,h=>exact h
 |4,h=>exact h
 |5,h=>exact h
 |6,h=>exact h
 |7,h=>exact h
 |8,h=>exact h
 |9,h=>exact h
 |10,h=>exact h
 |11,h=>exact h
 |12,h=>exact h
 |13,h=>exact h
 |14,h=>exact h
 |15,h=>exact h
 |16,h=>exact h
 |17,h=>exact h
 |18,h=>exact h
 |19,h=>exact h
 |20,h=>exact h
 |21,h=>exact h
 |22,h=>exact h
 |23,h=>exact h
 |24,h=>exact h
 |25,h=>exact h
 |26,h=>exact h
 |27,h=>exact h
 |28,h=>exact h
 |29,h=>exact h
 |30,h=>exact h
 |31,h=>exact h
 |i+32,h=>
  obtain⟨g,h1,h2,h3⟩:=h;exact⟨g,h1,h2,h3.tch t h3.lt λx=>x⟩
def J0bz(w:JE)(xs:JD):Row false (w.alloc (.cells (ai .u64 xs) 110)) w.heap.size 110 .u64 xs xs.length:=by refine⟨_,⟨(0,0),Ja _,λ_=>rfl⟩,by simp[ai],Ad _,λi hi=>?_,.ai⟩;simp[ai,hi,C9]
def b15:Code:=f24.body.getD .skip
def wG:Code:=fC (sC (sC b15))
section
variable{w:JE}{x wb:Nat}{c:J7}{seed nf:Int}{h:JJ}{vm src:Nat}{Q:Exit->Act->JE->Prop}{T0:JC}{ds:List Deferred}
def J099(q:DU w x c seed h nf vm src)(zG:-9223372036854775808<=seed/\seed<=9223372036854775807)(hb:wb<w.heap.size)(hW:WrB w (wb+1) wb [])(Ag:T0.size=190)(t0:T0[0]?=some (pt x))(t3:T0[3]?=some (pt wb))(hxw:x≠wb)
  (hQ:∀T w',T.size=190->(∀s,s<18->T[s]?=T0[s]?)->WrB w' (wb+1) wb (EF (LY c seed))->KP (wb+1) wb w w'->Q .normal ⟨T,ds⟩ w') :
  wG.wp prog Q ⟨T0,ds⟩ w:=by
 have hx:=q.blk.lt;have BA:∀{w1:JE}{i:Nat}{u:JJ},Tch w.heap.size M0 w w1->w.cell? ⟨x,i,none⟩=some u->w1.cell? ⟨x,i,none⟩=some u:=λt h=>(t.cell hx λy=>y).trans h;have hc0:=λw1(t:Tch w.heap.size M0 w w1)=>BA t q.cells.1;have DF:=λw1(t:Tch w.heap.size M0 w w1)=>BA t q.cells.2.1;have Nh:=λw1(t:Tch w.heap.size M0 w w1)=>BA t q.cells.2.2.1;have PV:=λw1(t:Tch w.heap.size M0 w w1)=>BA t q.cells.2.2.2.1;have Xq:=λw1(t:Tch w.heap.size M0 w w1)=>BA t q.cells.2.2.2.2.1;simp only[wG,b15,fC,sC,f24,A8];refine Jdg (M:=M0) 33 (λi=>18+i) (e2F c seed x wb w.heap.size) mixed (by kernel_rfl) (λi hi=>by omega) J07z (λi o a wv hi ho Hr hs hold hd=>?_) λa wv Hr Ob hs hold hF=>?_
 .have s0':=(hold 0 (λi _=>by omega)).trans t0;have s3':=(hold 3 (λi _=>by omega)).trans t3
  match i,hi with
  |0,_=>
   cases ho;have s0:a.tmps[3]?=some _:=(hold 3 (λi _=>by omega)).trans (by assumption);exact J9 rfl rfl (by simp[execOp,go_sem,s0];try rfl) ⟨_,rfl,rfl,.refl⟩
  |1,_=>
   cases ho;have s0:a.tmps[0]?=some _:=(hold 0 (λi _=>by omega)).trans (by assumption);exact J9 rfl rfl (by simp[execOp,go_sem,s0];try rfl) ⟨_,rfl,rfl,.refl⟩
  |2,_=>
   cases ho;obtain⟨_,e1,rfl⟩:=hd 1 rfl;have e1:a.tmps[19]?=some _:=e1;exact J9 rfl rfl (by simp[execOp,go_sem,e1];try rfl) ⟨_,rfl,rfl,.refl⟩
  |3,_=>
   cases ho;obtain⟨_,e2,rfl⟩:=hd 2 rfl;have e2:a.tmps[20]?=some _:=e2;exact J9 rfl rfl (by simp[execOp,go_sem,e2];try rfl) ⟨_,rfl,rfl,.refl⟩
  |4,_=>
   cases ho;obtain⟨_,e3,rfl⟩:=hd 3 rfl;have e3:a.tmps[21]?=some _:=e3;exact J9 rfl rfl (by simp[execOp,go_sem,e3];try rfl) ⟨_,rfl,rfl,.refl⟩
  |5,_=>
   cases ho;obtain⟨_,e4,rfl⟩:=hd 4 rfl;have e4:a.tmps[22]?=some _:=e4;exact J9 rfl rfl (by simp[execOp,go_sem,e4,hc0 _ Hr];try rfl) ⟨_,rfl,rfl,.refl⟩
  |6,_=>
   cases ho;obtain⟨_,e5,rfl⟩:=hd 5 rfl;have e5:a.tmps[23]?=some _:=e5;exact J9 rfl rfl (by simp[execOp,go_sem,e5];try rfl) ⟨_,rfl,rfl,.refl⟩
  |7,_=>
   cases ho;have s0:a.tmps[0]?=some _:=(hold 0 (λi _=>by omega)).trans (by assumption);exact J9 rfl rfl (by simp[execOp,go_sem,s0];try rfl) ⟨_,rfl,rfl,.refl⟩
  |8,_=>
   cases ho;obtain⟨_,e7,rfl⟩:=hd 7 rfl;have e7:a.tmps[25]?=some _:=e7;exact J9 rfl rfl (by simp[execOp,go_sem,e7];try rfl) ⟨_,rfl,rfl,.refl⟩
  |9,_=>
   cases ho;obtain⟨_,e8,rfl⟩:=hd 8 rfl;have e8:a.tmps[26]?=some _:=e8;exact J9 rfl rfl (by simp[execOp,go_sem,e8];try rfl) ⟨_,rfl,rfl,.refl⟩
  |10,_=>
   cases ho;obtain⟨_,e9,rfl⟩:=hd 9 rfl;have e9:a.tmps[27]?=some _:=e9;exact J9 rfl rfl (by simp[execOp,go_sem,e9];try rfl) ⟨_,rfl,rfl,.refl⟩
  |11,_=>
   cases ho;obtain⟨_,MZ,rfl⟩:=hd 10 rfl;have MZ:a.tmps[28]?=some _:=MZ;exact J9 rfl rfl (by simp[execOp,go_sem,MZ,DF _ Hr];try rfl) ⟨_,rfl,rfl,.refl⟩
  |12,_=>
   cases ho;obtain⟨_,QA,rfl⟩:=hd 11 rfl;have QA:a.tmps[29]?=some _:=QA;exact J9 rfl rfl (by simp[execOp,go_sem,QA];try rfl) ⟨_,rfl,rfl,.refl⟩
  |13,_=>
   cases ho;have s0:a.tmps[0]?=some _:=(hold 0 (λi _=>by omega)).trans (by assumption);exact J9 rfl rfl (by simp[execOp,go_sem,s0];try rfl) ⟨_,rfl,rfl,.refl⟩
  |14,_=>
   cases ho;obtain⟨_,NW,rfl⟩:=hd 13 rfl;have NW:a.tmps[31]?=some _:=NW;exact J9 rfl rfl (by simp[execOp,go_sem,NW];try rfl) ⟨_,rfl,rfl,.refl⟩
  |15,_=>
   cases ho;obtain⟨_,O5,rfl⟩:=hd 14 rfl;have O5:a.tmps[32]?=some _:=O5;exact J9 rfl rfl (by simp[execOp,go_sem,O5];try rfl) ⟨_,rfl,rfl,.refl⟩
  |16,_=>
   cases ho;obtain⟨_,KG,rfl⟩:=hd 15 rfl;have KG:a.tmps[33]?=some _:=KG;exact J9 rfl rfl (by simp[execOp,go_sem,KG];try rfl) ⟨_,rfl,rfl,.refl⟩
  |17,_=>
   cases ho;obtain⟨_,PG,rfl⟩:=hd 16 rfl;have PG:a.tmps[34]?=some _:=PG;exact J9 rfl rfl (by simp[execOp,go_sem,PG,Nh _ Hr];try rfl) ⟨_,rfl,rfl,.refl⟩
  |18,_=>
   cases ho;obtain⟨_,PK,rfl⟩:=hd 17 rfl;have PK:a.tmps[35]?=some _:=PK;exact J9 rfl rfl (by simp[execOp,go_sem,PK];try rfl) ⟨_,rfl,rfl,.refl⟩
  |19,_=>
   cases ho;have s0:a.tmps[0]?=some _:=(hold 0 (λi _=>by omega)).trans (by assumption);exact J9 rfl rfl (by simp[execOp,go_sem,s0];try rfl) ⟨_,rfl,rfl,.refl⟩
  |20,_=>
   cases ho;obtain⟨_,S9,rfl⟩:=hd 19 rfl;have S9:a.tmps[37]?=some _:=S9;exact J9 rfl rfl (by simp[execOp,go_sem,S9];try rfl) ⟨_,rfl,rfl,.refl⟩
  |21,_=>
   cases ho;obtain⟨_,Vl,rfl⟩:=hd 20 rfl;have Vl:a.tmps[38]?=some _:=Vl;exact J9 rfl rfl (by simp[execOp,go_sem,Vl];try rfl) ⟨_,rfl,rfl,.refl⟩
  |22,_=>
   cases ho;obtain⟨_,WU,rfl⟩:=hd 21 rfl;have WU:a.tmps[39]?=some _:=WU;exact J9 rfl rfl (by simp[execOp,go_sem,WU];try rfl) ⟨_,rfl,rfl,.refl⟩
  |23,_=>
   cases ho;obtain⟨_,WV,rfl⟩:=hd 22 rfl;have WV:a.tmps[40]?=some _:=WV;exact J9 rfl rfl (by simp[execOp,go_sem,WV,Xq _ Hr];try rfl) ⟨_,rfl,rfl,.refl⟩
  |24,_=>
   cases ho;obtain⟨_,WW,rfl⟩:=hd 23 rfl;have WW:a.tmps[41]?=some _:=WW;exact Rz rfl rfl (by simp[execOp,go_sem,WW];try rfl) (J03v zG.1 zG.2 _) λe w2 SA=>⟨_,SA.1,_,rfl,rfl,by rw[SA.2];exact .refl⟩
  |25,_=>
   cases ho;have s0:a.tmps[0]?=some _:=(hold 0 (λi _=>by omega)).trans (by assumption);exact J9 rfl rfl (by simp[execOp,go_sem,s0];try rfl) ⟨_,rfl,rfl,.refl⟩
  |26,_=>
   cases ho;obtain⟨_,WX,rfl⟩:=hd 25 rfl;have WX:a.tmps[43]?=some _:=WX;exact J9 rfl rfl (by simp[execOp,go_sem,WX];try rfl) ⟨_,rfl,rfl,.refl⟩
  |27,_=>
   cases ho;obtain⟨_,Vm,rfl⟩:=hd 26 rfl;have Vm:a.tmps[44]?=some _:=Vm;exact J9 rfl rfl (by simp[execOp,go_sem,Vm];try rfl) ⟨_,rfl,rfl,.refl⟩
  |28,_=>
   cases ho;obtain⟨_,vS,rfl⟩:=hd 27 rfl;have vS:a.tmps[45]?=some _:=vS;exact J9 rfl rfl (by simp[execOp,go_sem,vS];try rfl) ⟨_,rfl,rfl,.refl⟩
  |29,_=>
   cases ho;obtain⟨_,e28,rfl⟩:=hd 28 rfl;have e28:a.tmps[46]?=some _:=e28;exact J9 rfl rfl (by simp[execOp,go_sem,e28,PV _ Hr];try rfl) ⟨_,rfl,rfl,.refl⟩
  |30,_=>
   cases ho;obtain⟨_,e29,rfl⟩:=hd 29 rfl;have e29:a.tmps[47]?=some _:=e29;exact J9 rfl rfl (by simp[execOp,go_sem,e29];try rfl) ⟨_,rfl,rfl,.refl⟩
  |31,_=>
   cases ho;obtain⟨_,e30,rfl⟩:=hd 30 rfl;have e30:a.tmps[48]?=some _:=e30;exact J9 rfl rfl (by simp[execOp,go_sem,e30];try rfl) ⟨_,rfl,rfl,.refl⟩
  |32,_=>
   cases ho;obtain⟨_,e6,rfl⟩:=hd 6 rfl;have e6:a.tmps[24]?=some _:=e6;obtain⟨_,WQ,rfl⟩:=hd 12 rfl;have WQ:a.tmps[30]?=some _:=WQ;obtain⟨_,Na,rfl⟩:=hd 18 rfl;have Na:a.tmps[36]?=some _:=Na;obtain⟨_,QB,rfl⟩:=hd 24 rfl;have QB:a.tmps[42]?=some _:=QB;obtain⟨_,e31,rfl⟩:=hd 31 rfl;have e31:a.tmps[49]?=some _:=e31;have hr:=J0bz wv (LY c seed);exact J9 (w':=wv.alloc (.cells (ai .u64 (LY c seed)) 110)) rfl rfl (by simp[execOp,go_sem,e6,WQ,Na,QB,e31,ai,LY];try rfl) ⟨_,rfl,⟨wv.heap.size,rfl,Hr.size,hr⟩,Tch.refl.alloc (Ad _) _⟩
  |i+33,h=>omega
 .obtain⟨v0,p0,rfl⟩:=hF 0 (by omega);obtain⟨v32,p32,g,rfl,hg,hr⟩:=hF 32 (by omega);have p0:a.tmps[18]?=some _:=p0;have p32:a.tmps[50]?=some _:=p32;obtain⟨v,hv,hp⟩:=hW;have AP:WrB wv (wb+1) wb []:=⟨v,(Hr.heap wb hb λh=>h).trans hv,hp.kept λb cur _ h=>(Hr.heap b (Jj h) λh=>h).trans h⟩;have hput:=tX (g:=g) (cap:=5) (xs:=LY c seed) (Nat.lt_succ_self wb) (by have:=Hr.size;omega) AP (λ_=>hr) (λ_=>by omega) ?_ (by simp[LY]) ⟨_,5,rfl,λ_=>rfl⟩
  .show wpOps prog _ Q [33] a wv;rw[wpOps_cons];refine Rz rfl rfl (by simp[execOp,go_sem,p0,p32];try rfl) hput λe w2 h=>?_;obtain⟨⟨u,hu⟩,h2,h3⟩:=h;refine⟨u,hu,?_⟩;obtain⟨tm,O4⟩:=a;simp only at Ob;subst Ob;exact hQ _ _ (by grind) (λs h=>by
    grind) (by grind) ((KP.tch Hr).trans h3)
  .intro y hy;have hw:∀z:Int,0<=IntKind.u64.wrap z/\IntKind.u64.wrap z<=18446744073709551615:=λz=>by rw[IntKind.wrap_u64];omega
   simp only[LY,AL,BU,or_false]at hy;rcases hy with rfl|rfl|rfl|rfl|rfl
   all_goals simp_all[yL]
end
def lN(f:Nat->JJ):((List.range 190).map f).toArray=#[f 0,f 1,f 2,f 3,f 4,f 5,f 6,f 7,f 8,f 9,f 10,f 11,f 12,f 13,f 14,f 15,f 16,f 17,f 18,f 19,f 20,f 21,f 22,f 23,f 24,f 25,f 26,f 27,f 28,f 29,f 30,f 31,f 32,f 33,f 34,f 35,f 36,f 37,f 38,f 39,f 40,f 41,f 42,f 43,f 44,f 45,f 46,f 47,f 48,f 49,f 50,f 51,f 52,f 53,f 54,f 55,f 56,f 57,f 58,f 59,f 60,f 61,f 62,f 63,f 64,f 65,f 66,f 67,f 68,f 69,f 70,f 71,f 72,f 73,f 74,f 75,f 76,f 77,f 78,f 79,f 80,f 81,f 82,f 83,f 84,f 85,f 86,f 87,f 88,f 89,f 90,f 91,f 92,f 93,f 94,f 95,f 96,f 97,f 98,f 99,f 100,f 101,f 102,f 103,f 104,f 105,f 106,f 107,f 108,f 109,f 110,f 111,f 112,f 113,f 114,f 115,f 116,f 117,f 118,f 119,f 120,f 121,f 122,f 123,f 124,f 125,f 126,f 127,f 128,f 129,f 130,f 131,f 132,f 133,f 134,f 135,f 136,f 137,f 138,f 139,f 140,f 141,f 142,f 143,f 144,f 145,f 146,f 147,f 148,f 149,f 150,f 151,f 152,f 153,f 154,f 155,f 156,f 157,f 158,f 159,f 160,f 161,f 162,f 163,f 164,f 165,f 166,f 167,f 168,f 169,f 170,f 171,f 172,f 173,f 174,f 175,f 176,f 177,f 178,f 179,f 180,f 181,f 182,f 183,f 184,f 185,f 186,f 187,f 188,f 189]:=by rfl
def jR{T:JC}(h:T.size=190):∃f:Nat->JJ,T=((List.range 190).map f).toArray:=⟨_,dM h⟩
def wI:Code:=fC (sC (sC (sC b15)))
def iC(bs:JD):JD:=bs.flatMap λb=>bM (Ym b).toNat
def J08v{l:JD}{k:Nat}(h:k<l.length):iC (l.take (k+1))=iC (l.take k)++bM (Ym (l.getD k 0)).toNat:=by
 unfold iC
 grind[List.take_add_one,List.getElem?_eq_getElem]
def J077{l:JD}:(iC l).length<=10*l.length:=by
 induction l with
 |nil=>simp[iC]
 |cons x l ih=>
  have h2:=UN (n:=(Ym x).toNat) (by have:=yL x;omega);unfold iC at ih ⊢
  grind
section
variable{w:JE}{x wb:Nat}{c:J7}{seed nf:Int}{h:JJ}{vm src:Nat}{Q:Exit->Act->JE->Prop}{T0:JC}{ds:List Deferred}{done bs:JD}{b cap:Nat}
def J09a(q:DU w x c seed h nf vm src)(Dh:c.ba=some ⟨b,0,none⟩)(BL:c.nb=bs.length)(hb:Row false w b 3 .i64 bs cap)(hI:∀y∈bs,-9223372036854775808<=y/\y<=9223372036854775807)(YZ:bs.length<=100)(hbw:b<wb)(hxw:x<wb)(N8:wb<w.heap.size)(hW:WrB w (wb+1) wb done)(SQ:done.length<=1000000)(Ag:T0.size=190)(t0:T0[0]?=some (pt x))(t3:T0[3]?=some (pt wb))
  (hQ:∀T w',T.size=190->T[0]?=some (pt x)->T[3]?=some (pt wb)->WrB w' (wb+1) wb (done++iC bs)->KP (wb+1) wb w w'->Q .normal ⟨T,ds⟩ w') :
  wI.wp prog Q ⟨T0,ds⟩ w:=by
 obtain⟨f,rfl⟩:=jR Ag;rw[lN]at *;have e0:f 0=_:=Aa t0;have e3:f 3=_:=Aa t3;rw[e0,e3];clear t0 t3 e0 e3;have PV:=q.cells.2.2.2.1;rw[Dh,BL]at PV;obtain⟨n,hn⟩:∃n,bs.length=n:=⟨_,rfl⟩;rw[hn]at PV YZ;have Aq:∀wr,KP (wb+1) wb w wr->∀i,i<n->wr.cell? ⟨b,i,none⟩=some (JK (bs.getD i 0)):=λwr k i hi=>(hb.kept (k.low (by omega) hb.lt (by omega))).cell (by omega);have Ef:iC (bs.take n)=iC bs:=by rw[<- hn,List.take_length]
 have jA:∀k,(iC (bs.take k)).length<=1000:=λk=>by have:=J077 (l:=bs.take k);rw[List.length_take]at this;omega
 clear hb q;simp only[wI,b15,fC,sC,f24,A8];go_wp2
 go_loopw [58] (λi wr=>∃k:Nat,k<=n/\i=JK k/\WrB wr (wb+1) wb (done++iC (bs.take k))/\KP (wb+1) wb w wr) (λi _=>n-(RowKit.intOf i).toNat)
 case atStart=>exact⟨0,by omega,rfl,by simpa[iC]using hW,.refl⟩
 case round=>
  obtain⟨k,hk,rfl,Xn,hkr⟩:=hrel;rcases BF k n with Ac|Et
  .have g1:=Aq _ hkr k Ac;have hs:=J08v (l:=bs) (k:=k) (by omega);have hl1:=jA k;have hin:=hI (bs.getD k 0) (by simp_all);generalize bs.getD k 0=y at *;have hsg:=J03v hin.1 hin.2 wr;have XG:=Jfk (w:=wr) (base:=wb+1) (wb:=wb) (n:=Ym y) (by omega) (by have:=hkr.size;omega) Xn (yL y) (by rw[List.length_append];omega);have CS:(k:Int)<n:=by omega
   clear Aq Ef jA hI hW hQ
   go_wp2_with (first
    |(go_at_call 46;refine hsg.mono ?_;rintro e w1 ⟨rfl,rfl⟩)
    |(go_at_call 45;refine XG.mono ?_;rintro e w1 ⟨⟨v,rfl⟩,z1,z2⟩))
   exact⟨⟨k+1,by omega,by go_num,by simp_all,hkr.trans z2⟩,by simp[RowKit.intOf];omega⟩
  .obtain rfl:k=n:=by omega
   have EC:¬((k:Int)<k):=by omega
   rw[Ef]at Xn;go_wp2
   simp_all
end
def aT:Code:=fC (sC (sC (sC (sC b15))))
def J083:Code:=fC (sC (sC (sC (sC (sC b15)))))
def e8F(x vm src:Nat):Nat->JJ->JE->Prop
 |0,v,_=>v=pt x
 |1,v,_=>v=pt x
 |2,v,_=>v=pt x 7
 |3,v,_=>v=.map (some vm)
 |4,v,_=>v=pt x
 |5,v,_=>v=.int .i64 7
 |_,v,_=>v=.map (some src)
section
variable{w:JE}{x wb:Nat}{c:J7}{seed nf:Int}{h:JJ}{vm src:Nat}{Q:Exit->Act->JE->Prop}{T0:JC}{ds:List Deferred}{done:JD}
def J09b(q:DU w x c seed h nf vm src)(Ag:T0.size=190)(t0:T0[0]?=some (pt x))(t3:T0[3]?=some (pt wb))
  (hQ:∀T w',T.size=190->T[0]?=some (pt x)->T[3]?=some (pt wb)->T[6]?=some (.map (some src))->Tch w.heap.size M0 w w'->Q .normal ⟨T,ds⟩ w') :
  aT.wp prog Q ⟨T0,ds⟩ w:=by
 have qk:∀w1,Tch w.heap.size M0 w w1->DU w1 x c seed h nf vm src:=λw1 t=>q.kept (t.heap x q.blk.lt λh=>h) (t.heap vm q.vs.lt λh=>h);have hc7:=λw1(t:Tch w.heap.size M0 w w1)=>(qk w1 t).cells.2.2.2.2.2.2.2;simp only[aT,b15,fC,sC,f24,A8];refine Jdg (M:=M0) 7 (λi=>68+i) (e8F x vm src) mixed (by kernel_rfl) (λi hi=>by omega) (λi v w w' h t=>by match i,h with|0,h|1,h|2,h|3,h|4,h|5,h|i+6,h=>exact h) (λi o a wv hi ho Hr hs hold hd=>?_) λa wv Hr Ob hs hold hF=>?_
 .have s0:=(hold 0 (λi _=>by omega)).trans t0
  match i,hi with
  |0,_=>
   cases ho;exact J9 rfl rfl (by simp[execOp,go_sem,s0];try rfl) ⟨_,rfl,rfl,.refl⟩
  |1,_=>
   cases ho;obtain⟨_,e0,rfl⟩:=hd 0 rfl;have e0:a.tmps[68]?=some _:=e0;exact J9 rfl rfl (by simp[execOp,go_sem,e0];try rfl) ⟨_,rfl,rfl,.refl⟩
  |2,_=>
   cases ho;obtain⟨_,e0,rfl⟩:=hd 1 rfl;have e0:a.tmps[69]?=some _:=e0;exact J9 rfl rfl (by simp[execOp,go_sem,e0];try rfl) ⟨_,rfl,rfl,.refl⟩
  |3,_=>
   cases ho;obtain⟨_,e0,rfl⟩:=hd 2 rfl;have e0:a.tmps[70]?=some _:=e0;exact J9 rfl rfl (by simp[execOp,go_sem,e0,hc7 _ Hr];try rfl) ⟨_,rfl,rfl,.refl⟩
  |4,_=>
   cases ho;exact J9 rfl rfl (by simp[execOp,go_sem,s0];try rfl) ⟨_,rfl,rfl,.refl⟩
  |5,_=>
   cases ho;obtain⟨_,e0,rfl⟩:=hd 4 rfl;have e0:a.tmps[72]?=some _:=e0;exact Rz rfl rfl (by simp[execOp,go_sem,e0];try rfl) (nC (qk _ Hr).cells.1) λe w2 SA=>⟨_,SA.1,_,rfl,rfl,by rw[SA.2];exact .refl⟩
  |6,_=>
   cases ho;obtain⟨_,e3,rfl⟩:=hd 3 rfl;have e3:a.tmps[71]?=some _:=e3;obtain⟨_,e5,rfl⟩:=hd 5 rfl;have e5:a.tmps[73]?=some _:=e5;exact J9 rfl rfl (by simp[execOp,go_sem,e3,e5,(qk _ Hr).vs.lookup];try rfl) ⟨_,rfl,rfl,.refl⟩
  |i+7,h=>omega
 .obtain⟨v6,p6,rfl⟩:=hF 6 (by omega);have p6:a.tmps[74]?=some _:=p6;show wpOps prog _ Q [7] a wv;rw[wpOps_cons];refine J9 (v:=.map (some src)) (w':=wv) rfl rfl (by simp[execOp,go_sem,p6];try rfl) ?_;obtain⟨tm,O4⟩:=a;simp only at Ob;subst Ob;exact hQ _ _ (by grind) ((AV (by omega)).trans ((hold 0 λi _=>by omega).trans t0)) ((AV (by omega)).trans ((hold 3 λi _=>by omega).trans t3)) (FC (by omega)) Hr
def J09c{L:List (JD × JJ)}(hm:Cm w src L)(hL:L.length<=1000)(N8:wb<w.heap.size)(hW:WrB w (wb+1) wb done)(SQ:done.length<=1000000)(Ag:T0.size=190)(t0:T0[0]?=some (pt x))(t3:T0[3]?=some (pt wb))(t6:T0[6]?=some (.map (some src)))
  (hQ:∀T w',T.size=190->T[0]?=some (pt x)->T[3]?=some (pt wb)->T[6]?=some (.map (some src))->WrB w' (wb+1) wb (done++bM L.length)->KP (wb+1) wb w w'->Q .normal ⟨T,ds⟩ w') :
  J083.wp prog Q ⟨T0,ds⟩ w:=by
 obtain⟨f,rfl⟩:=jR Ag;rw[lN]at *;have e0:f 0=_:=Aa t0;have e3:f 3=_:=Aa t3;have e6:f 6=_:=Aa t6;rw[e0,e3,e6];clear t0 t3 t6 e0 e3 e6;have hlen:=λty=>hm.len underlying95 ty;have XG:=Jfk (w:=w) (base:=wb+1) (wb:=wb) (n:=(L.length:Int)) (by omega) (by omega) hW (by omega) (by omega);rw[Int.toNat_natCast]at XG;simp only[J083,b15,fC,sC,f24,A8]
 go_wp2_with (go_at_call 45;refine XG.mono ?_;rintro e w1 ⟨⟨v,rfl⟩,z1,z2⟩)
 simp_all
end
def kC:Code:=fC (sC (sC (sC (sC (sC (sC b15))))))
def Joz:Code:=lC (bC (sC kC))
def Jp0:Code:=bC (fC (sC (sC Joz)))
def k15:Code:=sC (sC Jp0)
def Jgh(B:Bun):JD:=bM (IntKind.u64.wrap B.n).toNat++EF B.r++EF B.h++bM B.l.length++EF B.l
def WrB.tch{w w':JE}{base wb:Nat}{bs:JD}(h:WrB w base wb bs)(t:Tch w.heap.size M0 w w'):WrB w' base wb bs:=by obtain⟨v,hv,hp⟩:=h;exact⟨v,(t.heap wb (Jj hv) λh=>h).trans hv,hp.kept λb cur _ h=>(t.heap b (Jj h) λh=>h).trans h⟩
section
variable{w0 w:JE}{wb kb src:Nat}{c:J7}{key:JD}{t:TR}{T:List TR}{Q:Exit->Act->JE->Prop}{ds:List Deferred}{done:JD}
def J0c1{a0 a1 a2 a4 a5 a7 a9 Q5 a11 a12 a13 a14 a15 a16 a17 a18 a19 a20 a21 a22 a23 a24 a25 a26 a27 a28 a29 a30 a31 a32 a33 a34 a35 a36 a37 a38 a39 a40 a41 a42 a43 a44 a45 a46 a47 a48 a49 a50 a51 a52 a53 a54 a55 a56 a57 a58 a59 a60 a61 a62 a63 a64 a65 a66 a67 a68 a69 a70 a71 a72 a73 a74 a75 a76 a77 a78 a79 a80 a81 a82 a83 a84 a85 a86 a87 a88 a89 a90 a91 a92 a93 a94 a95 a96 a97 a98 a99 Jza Jzb Jzi a103 a104 a105 a106 a107 a108 a109 a110 a111 a112 a113 a114 a115 a116 a117 a118 a119 a120 a121 a122 a123 a124 a125 a126 a127 a128 a129 a130 a131 a132 a133 a134 a135 a136 a137 a138 a139 a140 a141 a142 a143 a144 a145 a146 Jzj a148 Jzk Jzl Jzm a152 Jzn a154 Jzq a156 a157 Jzr a159 a160 Jzx a162 Jel a164 Jem Jen a167 a168 Jeo Jep a171 Jeq a173 Jer a175 Jes Jet Jeu Jev Jew Jex a182 a183 Jey Jez Jf0 Jf1 Jf2 Jf3:JJ}(hc:CZ c)(hT:TabAt false w c src T)(ht:t∈T)(hl:look (T.map TR.kv) t.k=some (JL t.p.b))(hK:EM t.k)(BZ:∀x∈t.B.h,0<=x)(Dp:∀x∈t.p.pl,x<wb)(SV:w.heap[kb]?=some (.cells (ai .i64 t.k) 104))(N8:wb<w.heap.size)(hW:WrB w (wb+1) wb done)(SQ:done.length<=900000)
  (hQ:∀(u11 u12 Jf4 Jf5 u105 Jkf Jkg Jkh Jqz Jr3 Ju0 Ju2 Ju3 Ju4 Ju5 Ju6 Ju7 Juc u119 Jue Jz6 Jz7 u123 u124 u125 u126 u127 u128 u129 u130 u131 u132 u133 u134 u135 u136 u137 u138 u139 u140 u141 u142 u143 u144:JJ)(w':JE),WrB w' (wb+1) wb (done++Jgh t.B)->KP (wb+1) wb w w'->Q .normal ⟨#[a0,a1,a2,pt wb,a4,a5,.map (some src),a7,pt kb,a9,Q5,u11,u12,a13,a14,a15,a16,a17,a18,a19,a20,a21,a22,a23,a24,a25,a26,a27,a28,a29,a30,a31,a32,a33,a34,a35,a36,a37,a38,a39,a40,a41,a42,a43,a44,a45,a46,a47,a48,a49,a50,a51,a52,a53,a54,a55,a56,a57,a58,a59,a60,a61,a62,a63,a64,a65,a66,a67,a68,a69,a70,a71,a72,a73,a74,a75,a76,a77,a78,a79,a80,a81,a82,a83,a84,a85,a86,a87,a88,a89,a90,a91,a92,a93,a94,a95,a96,a97,a98,a99,Jza,Jzb,Jzi,Jf4,Jf5,u105,Jkf,Jkg,Jkh,Jqz,Jr3,Ju0,Ju2,Ju3,Ju4,Ju5,Ju6,Ju7,Juc,u119,Jue,Jz6,Jz7,u123,u124,u125,u126,u127,u128,u129,u130,u131,u132,u133,u134,u135,u136,u137,u138,u139,u140,u141,u142,u143,u144,a145,a146,Jzj,a148,Jzk,Jzl,Jzm,a152,Jzn,a154,Jzq,a156,a157,Jzr,a159,a160,Jzx,a162,Jel,a164,Jem,Jen,a167,a168,Jeo,Jep,a171,Jeq,a173,Jer,a175,Jes,Jet,Jeu,Jev,Jew,Jex,a182,a183,Jey,Jez,Jf0,Jf1,Jf2,Jf3],ds⟩ w') :
  k15.wp prog Q ⟨#[a0,a1,a2,pt wb,a4,a5,.map (some src),a7,pt kb,a9,Q5,a11,a12,a13,a14,a15,a16,a17,a18,a19,a20,a21,a22,a23,a24,a25,a26,a27,a28,a29,a30,a31,a32,a33,a34,a35,a36,a37,a38,a39,a40,a41,a42,a43,a44,a45,a46,a47,a48,a49,a50,a51,a52,a53,a54,a55,a56,a57,a58,a59,a60,a61,a62,a63,a64,a65,a66,a67,a68,a69,a70,a71,a72,a73,a74,a75,a76,a77,a78,a79,a80,a81,a82,a83,a84,a85,a86,a87,a88,a89,a90,a91,a92,a93,a94,a95,a96,a97,a98,a99,Jza,Jzb,Jzi,a103,a104,a105,a106,a107,a108,a109,a110,a111,a112,a113,a114,a115,a116,a117,a118,a119,a120,a121,a122,a123,a124,a125,a126,a127,a128,a129,a130,a131,a132,a133,a134,a135,a136,a137,a138,a139,a140,a141,a142,a143,a144,a145,a146,Jzj,a148,Jzk,Jzl,Jzm,a152,Jzn,a154,Jzq,a156,a157,Jzr,a159,a160,Jzx,a162,Jel,a164,Jem,Jen,a167,a168,Jeo,Jep,a171,Jeq,a173,Jer,a175,Jes,Jet,Jeu,Jev,Jew,Jex,a182,a183,Jey,Jez,Jf0,Jf1,Jf2,Jf3],ds⟩ w:=by
 have hok:=hT.ok t ht;have uD:=hT.bun t ht;have XI:t.B.r.length<=64/\0<t.B.r.length:=by
  have h1:=hc.b1;have h2:=hc.b2;rw[hok.r];have:c.bits=4\/c.bits=5\/c.bits=6:=by omega
  grind
 have Um:t.B.h.length<=9/\0<t.B.h.length:=by rw[hok.h];have:=hc.nb;omega
 have jA:t.B.l.length<=8:=by have:=hok.lK;have:=hc.k2;omega
 have hbt:∀w1,KP (wb+1) wb w w1->Jw false w1 c t.p t.B:=λw1 k=>uD.kept λx hx=>k.low (by grind) (uD.lt x hx) (by grind);have Ew:=hT.map.lookup hK;rw[hl]at Ew;obtain⟨y0,y1,y2,y3,y4,hy⟩:=Yx hK.1;have LD:ai .i64 t.k=#[JK y0,JK y1,JK y2,JK y3,JK y4]:=by rw[hy];rfl
 rw[LD]at SV Ew;have z0:=(cell_of SV 0).trans rfl;have z1:=(cell_of SV 1).trans rfl;have z2:=(cell_of SV 2).trans rfl;have z3:=(cell_of SV 3).trans rfl;have z4:=(cell_of SV 4).trans rfl;have b0:=uD.c0;have xU:∃r cc,t.p.lr=some (r,cc):=by
  have hl:=uD.least;cases hp:t.p.lr with
  |none=>rw[hp]at hl;exact absurd hl.row hok.lne
  |some q=>grind
 obtain⟨lr,lc,xU⟩:=xU;have hw8:∀z:Int,0<=IntKind.u64.wrap z/\IntKind.u64.wrap z<=18446744073709551615:=λz=>by rw[IntKind.wrap_u64];omega
 have hrb:∀y∈t.B.r,0<=y/\y<=18446744073709551615:=λy hy=>by have:=hok.r8 y hy;omega
 have Xw:∀y∈t.B.h,0<=y/\y<=18446744073709551615:=λy hy=>by have:=BZ y hy;have:=(hok.h64 y hy).2;omega
 have hlb:∀y∈t.B.l,0<=y/\y<=18446744073709551615:=λy hy=>hok.l64 y hy;have l1:(bM (IntKind.u64.wrap t.B.n).toNat).length<=10:=UN (by grind);have l2:(EF t.B.r).length<=10*t.B.r.length:=YO λy hy=>(hrb y hy).2;have l3:(EF t.B.h).length<=10*t.B.h.length:=YO λy hy=>(Xw y hy).2;have l4:(bM t.B.l.length).length<=10:=UN (by omega);have XG:=Jfk (w:=w) (base:=wb+1) (wb:=wb) (n:=IntKind.u64.wrap t.B.n) (by omega) (by omega) hW (hw8 _) (by omega);simp only[k15,Jp0,Joz,kC,b15,fC,sC,bC,lC,f24,A8]
 go_wp2_with (first
  |(go_at_call 251;refine X9.mono ?_;rintro e w2 ⟨g2,q2,rfl,Bl,r2,t2⟩;have W2:=W1.tch t2;have s2:=t2.size;have lZ:=tX (g:=g2) (cap:=q2) (xs:=t.B.r) (Nat.lt_succ_self wb) (by omega) W2 (λ_=>r2) (λ_=>by omega) hrb (by rw[List.length_append];omega) ⟨_,q2,rfl,λ_=>rfl⟩)
  |(go_at_call 258;refine Ij.mono ?_;rintro e w4 ⟨g4,q4,rfl,iJ,r4,t4⟩;have W4:=W3.tch t4;have s4:=t4.size;have hp3:=tX (g:=g4) (cap:=q4) (xs:=t.B.h) (Nat.lt_succ_self wb) (by omega) W4 (λ_=>r4) (λ_=>by omega) Xw (by simp only[List.length_append];omega) ⟨_,q4,rfl,λ_=>rfl⟩)
  |(go_at_call 265;refine Ze.mono ?_;rintro e w6 ⟨g6,q6,rfl,Zc,r6,t6⟩;have W6:=W5.tch t6;have s6:=t6.size;have Zg:=Jfk (w:=w6) (base:=wb+1) (wb:=wb) (n:=(t.B.l.length:Int)) (by omega) (by omega) W6 (by omega) (by simp only[List.length_append];omega))
  |(go_at_call 45;first
   |(refine hp5.mono ?_;rintro e w8 ⟨⟨v8,rfl⟩,W8,k8⟩)
   |(refine Zg.mono ?_;rintro e w7 ⟨⟨v7,rfl⟩,W7,k7⟩;rw[Int.toNat_natCast]at W7;have s7:=k7.size;have r7:=k7.row r6 (by omega) (by decide);have hp5:=tX (g:=g6) (cap:=q6) (xs:=t.B.l) (Nat.lt_succ_self wb) (by omega) W7 (λ_=>r7) (λ_=>by omega) hlb (by simp only[List.length_append];omega) ⟨_,q6,rfl,λ_=>rfl⟩)
   |(refine hp3.mono ?_;rintro e w5 ⟨⟨v5,rfl⟩,W5,k5⟩;have s5:=k5.size;have k05:=(k03.trans (KP.tch t4)).trans k5;have c5:=(hbt w5 k05).c3;have mm3:=Jkx t.p.lb w5;have Ze:=Jiq (xU▸(hbt w5 k05).least) (by omega))
   |(refine lZ.mono ?_;rintro e w3 ⟨⟨v3,rfl⟩,W3,k3⟩;have s3:=k3.size;have k03:=(k1.trans (KP.tch t2)).trans k3;have c3:=(hbt w3 k03).c2;have mm2:=Jkw t.p.hb w3;have Ij:=Jl8 (hbt w3 k03).hist (by omega) Um.2 λy hy=>⟨BZ y hy,(hok.h64 y hy).2⟩)
   |(refine XG.mono ?_;rintro e w1 ⟨⟨v1,rfl⟩,W1,k1⟩;have s1:=k1.size;have c1:=(hbt w1 k1).c1;have mm1:=Jkv t.p.rb w1;have X9:=Jny (hbt w1 k1).reg (by omega) XI.2 hok.r8)))
 refine hQ _ _ _ _ _ _ _ _ _ _ _ _ _ _ _ _ _ _ _ _ _ _ _ _ _ _ _ _ _ _ _ _ _ _ _ _ _ _ _ _ _ _ _ _ _ ?_ (((k05.trans (KP.tch t6)).trans k7).trans k8);simpa[Jgh,List.append_assoc]using W8
end
def fJ(g:JD):JD:=g.flatMap λy=>bM (IntKind.u64.wrap y).toNat
def rowB(T:List TR)(x:JD):JD:=fJ (MV 7 x 5)++match tm T x with|some B=>Jgh B|none=>[]
def Pv(T:List TR)(ks:List (JD)):JD:=ks.flatMap (rowB T)
def qU(z:Int):0<=IntKind.u64.wrap z/\IntKind.u64.wrap z<=18446744073709551615:=by rw[IntKind.wrap_u64];omega
def J078{g:JD}:(fJ g).length<=10*g.length:=by
 induction g with
 |nil=>simp[fJ]
 |cons x l ih=>
  have h2:=UN (n:=(IntKind.u64.wrap x).toNat) (by have:=qU x;omega);unfold fJ at ih ⊢
  grind
def J08w{l:JD}{k:Nat}(h:k<l.length):fJ (l.take (k+1))=fJ (l.take k)++bM (IntKind.u64.wrap (l.getD k 0)).toNat:=by
 unfold fJ
 grind[List.take_add_one,List.getElem?_eq_getElem]
theorem J079{c:J7}{B:Bun}(hc:CZ c)(h:Jl c B)(hp:∀x∈B.h,0<=x):(Jgh B).length<=1000:=by
 have XI:B.r.length<=64:=by
  have h1:=hc.b1;have h2:=hc.b2;rw[h.r];have:c.bits=4\/c.bits=5\/c.bits=6:=by omega
  grind
 have Um:B.h.length<=9:=by rw[h.h];have:=hc.nb;omega
 have jA:B.l.length<=8:=by have:=h.lK;have:=hc.k2;omega
 have l1:=UN (n:=(IntKind.u64.wrap B.n).toNat) (by have:=qU B.n;omega);have l2:=YO (l:=B.r) λy hy=>by have:=h.r8 y hy;omega
 have l3:=YO (l:=B.h) λy hy=>by have:=(h.h64 y hy).2;omega
 have l4:=UN (n:=B.l.length) (by omega);have l5:=YO (l:=B.l) λy hy=>(h.l64 y hy).2;unfold Jgh
 grind
def J07a{c:J7}{T:List TR}{x:JD}(hc:CZ c)(hok:∀t∈T,Jl c t.B)(hp:∀t∈T,∀y∈t.B.h,0<=y)(hx:x.length=5):(rowB T x).length<=1100:=by
 have h1:=J078 (g:=MV 7 x 5);have h2:(MV 7 x 5).length<=5:=by unfold MV;rw[FQ];refine BN (List.length_filter_le _ _) ?_;simp;omega
 unfold rowB;rw[List.length_append];cases hm:tm T x with
 |none=>simp;omega
 |some B=>
  obtain⟨t,T1,T2,hTe,_,rfl,_,_⟩:=Qk hm
  grind[J079]
def J06w{T:List TR}{l:List (JD)}(h:∀x∈l,(rowB T x).length<=1100):(Pv T l).length<=1100*l.length:=by
 induction l with
 |nil=>simp[Pv]
 |cons x l ih=>
  have h1:=ih λy hy=>h y (by simp[hy]);have h2:=h x (by simp);unfold Pv at h1 ⊢
  grind
def Jp1(x N:Nat)(key:JD):Nat->JJ->JE->Prop
 |0,v,_=>v=.agg (ai .i64 key)
 |1,v,_=>v=pt x
 |2,v,_=>v=.int .i64 7
 |3,v,w=>SlI false w N v 3 .i64 (MV 7 key 5)
 |4,v,_=>v=.int .i64 (MV 7 key 5).length
 |_,v,_=>v=.int .i64 0
def J07i{x N:Nat}{key:JD}(i:Nat)(v:JJ)(w w':JE)(h:Jp1 x N key i v w)(t:Tch w.heap.size M0 w w'):Jp1 x N key i v w':=by
 match i,h with
 |0,h|1,h|2,h=>exact h
 |3,h=>exact SlI.tch h t
 |4,h=>exact h
 |i+5,h=>exact h
section
variable{w:JE}{x wb src vm:Nat}{c:J7}{seed nf:Int}{h:JJ}{T:List TR}{Q:Exit->Act->JE->Prop}{T0:JC}{ds:List Deferred}{done:JD}
def J08x(hc:CZ c)(h0:w.cell? ⟨x,0,none⟩=some (JK 3))(hT:TabAt false w c src T)(hTn:T.length<=500)(BZ:∀t∈T,∀y∈t.B.h,0<=y)(Dp:∀y,y=src\/y∈tpl T->y<wb)(hxw:x<wb)(N8:wb<w.heap.size)(hW:WrB w (wb+1) wb done)(SQ:done.length<=100000)(Ag:T0.size=190)(t0:T0[0]?=some (pt x))(t3:T0[3]?=some (pt wb))(t6:T0[6]?=some (.map (some src)))
  (hQ:∀T' w' ks,T'.size=190->T'[0]?=some (pt x)->T'[3]?=some (pt wb)->keysOf (T.map TR.kv) ks->WrB w' (wb+1) wb (done++Pv T (ks.map (·.1)))->KP (wb+1) wb w w'->Q .normal ⟨T',ds⟩ w') :
  kC.wp prog Q ⟨T0,ds⟩ w:=by
 obtain⟨f,rfl⟩:=jR Ag;rw[lN]at *;have e0:f 0=_:=Aa t0;have e3:f 3=_:=Aa t3;have e6:f 6=_:=Aa t6;rw[e0,e3,e6];clear t0 t3 t6 e0 e3 e6;have hs:=J73 src (T.map TR.kv) w hT.map (by simp;omega);obtain⟨X,hX,hX'⟩:∃X:Code,X=k15/\X=k15:=⟨_,rfl,rfl⟩;simp only[k15,Jp0,Joz,kC,b15,fC,sC,bC,lC,f24,A8]at hX;simp only[kC,b15,fC,sC,f24,A8]
 go_wp2_with (go_at_call 47;refine hs.mono ?_;rintro e w1 ⟨v,ks,rfl,OO,Aj,t1⟩;obtain⟨ka,kc,PZ,rfl,SV⟩:=Aj.at)
 have hlen:ks.length=T.length:=by have:=OO.length;simp_all
 obtain⟨n,hn⟩:∃n,ks.length=n:=⟨_,rfl⟩;rw[hn]at hlen ⊢;have hn5:n<=500:=by omega
 clear hlen
 go_loopw [84] (λi wr=>∃j:Nat,j<=n/\i=JK j/\WrB wr (wb+1) wb (done++Pv T ((ks.take j).map (·.1)))/\KP (wb+1) wb w wr/\KP (wb+1) wb w1 wr) (λi _=>n-(RowKit.intOf i).toNat)
 case atStart=>exact⟨0,by omega,rfl,by simpa[Pv]using hW.tch t1,.tch t1,.refl⟩
 case round=>
  rw[<- hX];clear hX;obtain⟨j,hj,rfl,Xn,iV,DI⟩:=hrel;rcases BF j n with Ac|Et
  .have CS:(j:Int)<n:=by omega
   obtain⟨⟨key,LD⟩,hx⟩:∃x,ks[j]?=some x:=⟨ks[j]'(by omega),DL _⟩;have QN:∃g,ka=some ⟨g,0,none⟩/\j<kc/\∀t,t<5->wr.cell? ⟨g,j*5+t,none⟩=some (JK (key.getD t 0)):=by
    obtain⟨g,e1,_,e3,e4⟩:=PZ.cells hx;refine⟨g,e1,e3,λt ht=>?_⟩;rcases PZ with⟨e,_⟩|⟨g',cur,e,⟨z,hz,OX⟩,_⟩
    .simp_all
    .rw[e]at e1;cases e1;obtain rfl:=OX rfl;have Et:=(SV _ e).1;simp only at Et;exact DI.cell hz (e4 t ht) (by omega) (by decide)
   obtain⟨g,rfl,hjc,Dl⟩:=QN;have Jox:TabAt false wr c src T:=hT.kept λy hy=>iV.low (by have:=Dp y hy;omega) (hT.lt y hy) (by have:=Dp y hy;omega);obtain⟨t,Az,Bc,CB⟩:=OO.row hT.nodup (NR hx);obtain⟨t',T1,T2,hTe,D6,Gq,_,Ew⟩:=Qk CB;have rV:t'∈T:=by rw[hTe];simp
   clear hTe;simp only at Bc CB Ew D6;have hrb:rowB T key=fJ (MV 7 key 5)++Jgh t'.B:=by unfold rowB;rw[CB,Gq]
   have YZ:=J079 hc (hT.ok t' rV) (BZ t' rV);have xK:(MV 7 key 5).length<=5:=by unfold MV;rw[FQ];refine BN (List.length_filter_le _ _) ?_;simp;omega
   have hrs:Pv T ((ks.take (j+1)).map (·.1))=Pv T ((ks.take j).map (·.1))++(fJ (MV 7 key 5)++Jgh t'.B):=by
    rw[List.take_add_one,hx,List.map_append];unfold Pv
    simp_all
   have XI:(Pv T ((ks.take j).map (·.1))).length<=600000:=by
    have h1:=J06w (T:=T) (l:=(ks.take j).map (·.1)) λy hy=>by obtain⟨z,_,rfl⟩:=AZ.1 hy;exact J07a hc hT.ok BZ z.2.1
    rw[FQ,List.length_take]at h1;omega
   have Gt:MV 7 key 5≠[]:=by obtain⟨y0,y1,y2,y3,y4,hy⟩:=Yx LD.1;rw[hy];simp[MV,List.zipIdx_cons,Nat.testBit]
   have h0r:wr.cell? ⟨x,0,none⟩=some (JK 3):=(Du (w:=w) (iV.low (b:=x) (by omega) (by omega) (by omega))).trans h0;have Jko:∀w:JE,Calls prog 48 #[.agg (ai .i64 key),JK 7] w λe w'=>∃v,e=.returned v/\SlI false w' w.heap.size v 3 .i64 (MV 7 key 5)/\Tch w.heap.size M0 w w':=Jky key LD.1 7;have hswr:=iV.size;have hK':EM t'.k:=by simp_all
   obtain⟨y0,y1,y2,y3,y4,hy⟩:=Yx LD.1;have hai:ai .i64 key=#[JK y0,JK y1,JK y2,JK y3,JK y4]:=by rw[hy];rfl
   have c0:wr.cell? ⟨g,j*5,none⟩=some (JK y0):=(Dl 0 (by omega)).trans (by rw[hy];rfl);have c1:wr.cell? ⟨g,j*5+1,none⟩=some (JK y1):=(Dl 1 (by omega)).trans (by rw[hy];rfl);have c2:wr.cell? ⟨g,j*5+2,none⟩=some (JK y2):=(Dl 2 (by omega)).trans (by rw[hy];rfl);have c3:wr.cell? ⟨g,j*5+3,none⟩=some (JK y3):=(Dl 3 (by omega)).trans (by rw[hy];rfl);have c4:wr.cell? ⟨g,j*5+4,none⟩=some (JK y4):=(Dl 4 (by omega)).trans (by rw[hy];rfl);clear Dl;obtain⟨W0,Ci⟩:∃W0,wr.alloc (.cells #[JK y0,JK y1,JK y2,JK y3,JK y4] 104)=W0:=⟨_,rfl⟩;have t0:Tch wr.heap.size M0 wr W0:=by rw[<- Ci];exact Tch.refl.alloc (Ad _) _
   have e0:W0.heap[wr.heap.size]?=some (.cells #[JK y0,JK y1,JK y2,JK y3,JK y4] 104):=by rw[<- Ci];exact Ja _
   have z0:=(cell_of e0 0).trans rfl;have z1:=(cell_of e0 1).trans rfl;have z2:=(cell_of e0 2).trans rfl;have z3:=(cell_of e0 3).trans rfl;have z4:=(cell_of e0 4).trans rfl;have BA:∀{wv:JE}{a:Addr}{u:JJ},Tch W0.heap.size M0 W0 wv->W0.cell? a=some u->wv.cell? a=some u:=λt h=>(t.cell (cell_lt h) λx=>x).trans h;have h0W:W0.cell? ⟨x,0,none⟩=some (JK 3):=(t0.cell (cell_lt h0r) λx=>x).trans h0r;go_wp2;refine J06f 88 6 (Jp1 x W0.heap.size key) mixed (by kernel_rfl) (by simp_all) J07i (λi o a wv hi ho Hr hold hd=>?_) λvs wv hl Hr hF=>?_
   .match i,hi with
    |0,_=>
     cases ho;have s8:a.tmps[8]?=some _:=(hold 8 (.inl (by omega))).trans rfl;exact J9 (v:=.agg (ai .i64 key)) rfl rfl (by rw[hai];simp[execOp,go_sem,s8,BA Hr z0,BA Hr z1,BA Hr z2,BA Hr z3,BA Hr z4];try rfl) ⟨_,rfl,rfl,.refl⟩
    |1,_=>
     cases ho;have s0:a.tmps[0]?=some _:=(hold 0 (.inl (by omega))).trans rfl;exact J9 rfl rfl (by simp[execOp,go_sem,s0];try rfl) ⟨_,rfl,rfl,.refl⟩
    |2,_=>
     cases ho;obtain⟨_,e1,rfl⟩:=hd 1 rfl;have e1:a.tmps[89]?=some _:=e1;exact Rz rfl rfl (by simp[execOp,go_sem,e1];try rfl) (nC (BA Hr h0W)) λe w2 SA=>⟨_,SA.1,_,rfl,rfl,by rw[SA.2];exact .refl⟩
    |3,_=>
     cases ho;obtain⟨_,e1,rfl⟩:=hd 0 rfl;have e1:a.tmps[88]?=some _:=e1;obtain⟨_,e2,rfl⟩:=hd 2 rfl;have e2:a.tmps[90]?=some _:=e2;exact Rz rfl rfl (by simp[execOp,go_sem,e1,e2];try rfl) (Jko _) λe w2 ⟨v,h1,h2,h3⟩=>⟨v,h1,v,rfl,h2.mono Hr.size,h3⟩
    |4,_=>
     cases ho;obtain⟨v,e3,hv⟩:=hd 3 rfl;have e3:a.tmps[91]?=some _:=e3;have OV:∃p c,v=.slice p (MV 7 key 5).length c:=by
      rcases hv with⟨h1,h2⟩|⟨g,cap,h1,_⟩
      .exact⟨none,0,by rw[h2];exact h1⟩
      simp[*]
     obtain⟨p,c,rfl⟩:=OV;exact J9 rfl rfl (by simp[execOp,go_sem,e3];try rfl) ⟨_,rfl,rfl,.refl⟩
    |5,_=>
     cases ho;exact J9 rfl rfl (by simp[execOp,go_sem];try rfl) ⟨_,rfl,rfl,.refl⟩
    |i+6,h=>omega
   .match vs,hl with
    |[v0,v1,v2,v3,v4,v5],_=>
     obtain rfl:v0=_:=hF 0 (by omega);obtain rfl:v1=_:=hF 1 (by omega);obtain rfl:v2=_:=hF 2 (by omega);have h3:SlI false wv W0.heap.size v3 3 .i64 (MV 7 key 5):=hF 3 (by omega);obtain rfl:v4=_:=hF 4 (by omega);obtain rfl:v5=_:=hF 5 (by omega);clear hF;rcases h3 with⟨_,h3⟩|⟨g3,q3,rfl,hg3b,r3⟩
     .simp_all
     simp only[List.drop_succ_cons,List.drop_zero,setFrom,List.setIfInBounds_toArray,List.set_cons_succ,List.set_cons_zero];refine wpList_nil ?_;have Xx:KP (wb+1) wb wr wv:=(KP.tch t0).trans (KP.tch Hr);have hWv:=(Xn.tch t0).tch Hr;have hebv:wv.heap[wr.heap.size]?=some (.cells (ai .i64 key) 104):=by rw[hai];exact(Hr.heap _ (Jj e0) λh=>h).trans e0
     have hkwv:=iV.trans Xx;have hkvq:=Xx;have hsv:=Xx.size;have hg3w:g3≠wb:=by have:=t0.size;omega
     have BL:wr.heap.size≠wb:=by omega
     clear hai hy;clear z0 z1 z2 z3 z4 e0 t0 Hr BA c0 c1 c2 c3 c4 Jko h0W h0r Xx Xn PZ SV OO hQ hs YZ;generalize wr.heap.size=kb at *;obtain⟨m3,hm3⟩:∃m,(MV 7 key 5).length=m:=⟨_,rfl⟩;have J08y:∀q,q<m3->fJ ((MV 7 key 5).take (q+1))=fJ ((MV 7 key 5).take q)++bM (IntKind.u64.wrap ((MV 7 key 5).getD q 0)).toNat:=λq hq=>J08w (by omega);have J09v:fJ ((MV 7 key 5).take m3)=fJ (MV 7 key 5):=by rw[<- hm3,List.take_length]
     have Jp2:∀q,(fJ ((MV 7 key 5).take q)).length<=50:=λq=>by have:=J078 (g:=(MV 7 key 5).take q);rw[List.length_take]at this;omega
     rw[hm3];go_wp2
     go_loopw [93] (λi wx=>∃q:Nat,q<=m3/\i=JK q/\WrB wx (wb+1) wb (done++Pv T ((ks.take j).map (·.1))++fJ ((MV 7 key 5).take q))/\KP (wb+1) wb wv wx) (λi _=>m3-(RowKit.intOf i).toNat)
     case atStart=>exact⟨0,by omega,rfl,by simpa[fJ]using hWv,.refl⟩
     case round=>
      obtain⟨q,hq,rfl,hWx,xZ⟩:=hrel;have hsx:=xZ.size;rcases BF q m3 with jY|jY
      .have g1:=(xZ.row r3 hg3w (by decide)).cell (i:=q) (by omega);have g2:=J08y q jY;have g4:=Jp2 q;generalize(MV 7 key 5).getD q 0=y at *;have hq3':(q:Int)<m3:=by omega
       have XG:=Jfk (w:=wr) (base:=wb+1) (wb:=wb) (n:=IntKind.u64.wrap y) (by omega) (by omega) hWx (qU y) (by simp only[List.length_append];omega);clear J08y Jp2
       go_wp2_with (go_at_call 45;refine XG.mono ?_;rintro e w2 ⟨⟨v,rfl⟩,W2,k2⟩)
       exact⟨⟨q+1,by omega,by go_num,by simp_all,xZ.trans k2⟩,by simp[RowKit.intOf];omega⟩
      .have EC:¬((q:Int)<m3):=by omega
       obtain rfl:q=m3:=by omega
       rw[J09v]at hWx;have g4:=Jp2 q;rw[J09v]at g4;have J09w:=hkwv.trans xZ;have tabx:TabAt false wr c src T:=hT.kept λy hy=>J09w.low (by have:=Dp y hy;omega) (hT.lt y hy) (by have:=Dp y hy;omega);have hebx:wr.heap[kb]?=some (.cells (ai .i64 t'.k) 104):=by rw[D6];exact xZ.heap _ _ hebv BL λ_ cur e=>absurd (Obj.cells.inj e).2.1 (by decide)
       have hlow':∀y∈t'.p.pl,y<wb:=λy hy=>Dp y (.inr (Jo.2 ⟨t',rV,hy⟩));rw[<- D6]at Ew;go_wp2;refine J0c1 hc tabx rV Ew hK' (BZ t' rV) hlow' hebx (by omega) hWx (by simp only[List.length_append];omega) ?_;intro u11 u12 Jf4 Jf5 u105 Jkf Jkg Jkh Jqz Jr3 Ju0 Ju2 Ju3 Ju4 Ju5 Ju6 Ju7 Juc u119 Jue Jz6 Jz7 u123 u124 u125 u126 u127 u128 u129 u130 u131 u132 u133 u134 u135 u136 u137 u138 u139 u140 u141 u142 u143 u144 w3 W3 k3;go_wp2;refine⟨⟨j+1,by omega,by go_num,?_,J09w.trans k3,(DI.trans hkvq).trans (xZ.trans k3)⟩,by simp[RowKit.intOf];omega⟩
       simp_all
  .obtain rfl:j=n:=by omega
   have EC:¬((j:Int)<j):=by omega
   rw[<- hn,List.take_length]at Xn;go_wp2;exact hQ _ _ ks rfl rfl rfl OO Xn iV
end
end Go.Sim.Z
section
namespace Go.Proofs
open Go.Shelf
def Tryz.lays125p_ren:Go.Shelf.Ren:=⟨λ|125=>145|128=>182|129=>183|n=>n,λ|46=>196|3=>3|51=>137|53=>110|4=>4|5=>5|9=>9|n=>n,λ|n=>n⟩
def Tryz.lays125p:Go.Proofs.Lays.n125 prog Tryz.lays125p_ren:={
 mixed:=by kernel_rfl
 f125:=func145.trans (congrArg some (by kernel_rfl))
 f128:=func182.trans (congrArg some (by kernel_rfl))
 f129:=func183.trans (congrArg some (by kernel_rfl))
 t3:=underlying3
 a3:=isAgg3
 z3:=sizeOf3
 v3:=zeroValue3
 t4:=underlying4
 a4:=isAgg4
 z4:=sizeOf4
 v4:=zeroValue4
 t5:=underlying5
 a5:=isAgg5
 z5:=sizeOf5
 v5:=zeroValue5
 t9:=underlying9
 a9:=isAgg9
 z9:=sizeOf9
 v9:=zeroValue9
 t46:=underlying196
 a46:=isAgg196
 z46:=sizeOf196
 v46:=zeroValue196
 t51:=underlying137
 a51:=isAgg137
 z51:=sizeOf137
 v51:=zeroValue137
 t53:=underlying110
 a53:=isAgg110
 z53:=sizeOf110
 v53:=zeroValue110 }
def Tryz.bits_LenP(x:Int)(w:JE)(h0:0<=x)(h1:x<=18446744073709551615) :
  Calls prog 145 #[.int .u64 x] w λe w'=>e=.returned (JK (Lib.bitLen x.toNat))/\w'=w:=Any.bits_Len Tryz.lays125p x w h0 h1
end Go.Proofs
namespace Go.Sim.Z
open Go Go.Proofs Go.RowKit
section
variable{w:JE}{g cap:Nat}
def J085:Calls prog 184 #[JM g 1 cap,JK 0,JK 1] w λe w'=>(∃v,e=.returned v)/\w'=w:=by
 go_enter func184,ntmps184
 go_wp2
 go_loopw [6] (λi wr=>i=JK 1/\wr=w) (λ_ _=>0)
 case atStart=>grind
 case round=>
  obtain⟨rfl,rfl⟩:=hrel;go_wp2;go_end0
  simp_all
def J086(l:Int):Calls prog 147 #[JM g 1 cap,JK 0,JK 1,JK l] w λe w'=>(∃v,e=.returned v)/\w'=w:=by
 have h:=J085 (w:=w) (g:=g) (cap:=cap)
 go_enter func147,ntmps147
 go_wp2
 go_loopw [1,2] (λa b wr=>a=JK 0/\b=JK 1/\wr=w) (λ_ _ _=>0)
 case atStart=>grind
 case round=>
  obtain⟨rfl,rfl,rfl⟩:=hrel
  go_wp2_with (go_at_call 184;refine h.mono ?_;rintro e w1 ⟨⟨v,rfl⟩,rfl⟩)
  refine bodyPost_ret (results_none rfl _ _ _) rfl ?_
  simp_all
def J07j:Calls prog 90 #[JM g 1 cap] w λe w'=>(∃v,e=.returned v)/\w'=w:=by
 have h1:=Tryz.bits_LenP 1 w (by omega) (by omega);have h:=λl=>J086 (w:=w) (g:=g) (cap:=cap) l
 go_enter func90,ntmps90
 go_wp2_with (first
  |(go_at_call 145;refine h1.mono ?_;rintro e w1 ⟨rfl,rfl⟩)
  |(go_at_call 147;refine(h _).mono ?_;rintro e w1 ⟨⟨v,rfl⟩,rfl⟩))
 go_end0
 grind
def J07k{vm base:Nat}(hV:HY w vm base) :
  Calls prog 49 #[.func (.func 91) #[] #[JL w.heap.size]] (w.alloc (.cells #[.map (some vm)] 99)) λe w'=>∃g cap,e=.returned (JM g 1 cap)/\w.heap.size<=g/\Tch w.heap.size M0 w w':=by
 have uG:=Jg9 hV;have hs:=λ(w1:JE)(g cap:Nat)=>J07j (w:=w1) (g:=g) (cap:=cap)
 go_enter func49,ntmps49
 go_wp2_with (first
  |(go_at_call 79;refine uG.mono ?_;rintro e w1 ⟨g,cap,rfl,hg,_,t1⟩;have AQ:=hs w1 g cap)
  |(go_at_call 90;refine AQ.mono ?_;rintro e w2 ⟨⟨v,rfl⟩,rfl⟩))
 go_ret
 simp_all
end
end Go.Sim.Z
end
namespace Go.Sim.Z
open Go Go.Proofs Go.RowKit
def qW:Code:=sC (sC (sC (sC (sC (sC (sC b15))))))
def J0dv:b15=.seq (fC b15) (.seq (fC (sC b15)) (.seq wG (.seq wI (.seq aT (.seq J083 (.seq kC qW)))))):=by kernel_rfl
def Jp3(bs:JD):JD:=bs++bM 0++bM (sumF (iQ (bs++bM 0))).toNat
def pX(c:J7)(seed:Int)(bs:JD)(T:List TR)(ks:List (JD)):JD:=
 Jp3 (EF (LY c seed)++iC bs++bM T.length++Pv T ks)
section
variable{w:JE}{x wb src vm:Nat}{c:J7}{seed nf:Int}{h:JJ}{T:List TR}{Q:Exit->Act->JE->Prop}{T0:JC}{ds:List Deferred}{done:JD}
def J08z(q:DU w x c seed h nf vm src)(N8:wb<w.heap.size)(hxw:x<wb)(hW:WrB w (wb+1) wb done)(SQ:done.length<=10000000)(Ap:done≠[])(Ag:T0.size=190)(t0:T0[0]?=some (pt x))(t3:T0[3]?=some (pt wb))
  (hQ:∀T w',T[2]?=some (.string (iQ (Jp3 done)))->KP (wb+1) wb w w'->Q .ret ⟨T,ds⟩ w') :
  qW.wp prog Q ⟨T0,ds⟩ w:=by
 obtain⟨f,rfl⟩:=jR Ag;rw[lN]at *;have e0:f 0=_:=Aa t0;have e3:f 3=_:=Aa t3;rw[e0,e3];clear t0 t3 e0 e3;have hc7:=q.cells.2.2.2.2.2.2.2;have X7:=J07k (w:=w) q.vs;simp only[qW,b15,fC,sC,f24,A8];have lF:∀{w1:JE},Tch w.heap.size M0 w w1->WrB w1 (wb+1) wb done:=λt=>hW.tch t;have Vy:(bM 0).length<=10:=UN (by omega)
 go_wp2_with (first
  |(go_at_call 50;refine(Jl6 _ _).mono ?_;rintro e w1 ⟨rfl,rfl⟩)
  |(go_at_call 49;refine X7.mono ?_;rintro e w2 ⟨g,cap,rfl,hg,t2⟩;have W2:=lF t2;have s2:=t2.size;have XG:=Jfk (w:=w2) (base:=wb+1) (wb:=wb) (n:=0) (by omega) (by omega) W2 (by omega) (by omega))
  |(go_at_call 45;refine XG.mono ?_;rintro e w3 ⟨⟨v3,rfl⟩,W3,k3⟩;have s3:=k3.size;have W3:WrB w3 (wb+1) wb (done++bM 0):=W3;have W3':=W3;obtain⟨u3,hu3,hpx3⟩:=W3;have d3:=(cell_of hu3 0).trans rfl;have hst3:=hpx3.str (by simp[Ap]);obtain⟨a3,n3,c3,rfl⟩:=hpx3.sl3;have Gs:=J0a6 (iQ (done++bM 0));have lZ:=Jfk (w:=w3) (base:=wb+1) (wb:=wb) (n:=sumF (iQ (done++bM 0))) (by omega) (by omega) W3' (by omega) (by rw[List.length_append];omega)))
 go_loopw [165] (λi wr=>i=JK 0/\wr=w3) (λ_ _=>0)
 case atStart=>simp_all
 case round=>
  obtain⟨rfl,rfl⟩:=hrel
  go_wp2_with (first
   |(go_at_call 51;refine(J08r _ (by rw[J08s,List.length_append];omega) _).mono ?_;rintro e w5 ⟨rfl,rfl⟩)
   |(go_at_call 45;refine lZ.mono ?_;rintro e w4 ⟨⟨v4,rfl⟩,W4,k4⟩;obtain⟨u4,hu4,hpx4⟩:=W4;have d4:=(cell_of hu4 0).trans rfl;have hst4:=hpx4.str (by simp[Ap]);obtain⟨a4,n4,c4,rfl⟩:=hpx4.sl3))
  refine hQ _ _ ?_ ((KP.tch t2).trans (k3.trans k4));unfold Jp3
  simp_all
def J09i(Ag:T0.size=190)(t0:T0[0]?=some (pt x))(hQ:∀T w',T.size=190->T[0]?=some (pt x)->w'=w->Q .normal ⟨T,ds⟩ w'):(fC b15).wp prog Q ⟨T0,ds⟩ w:=by
 obtain⟨f,rfl⟩:=jR Ag;rw[lN]at *;have e0:f 0=_:=Aa t0;rw[e0];clear t0 e0;simp only[b15,fC,sC,f24,A8];go_wp2
 simp_all
def J09j(Ag:T0.size=190)(t0:T0[0]?=some (pt x))(hQ:∀T w',T.size=190->T[0]?=some (pt x)->T[3]?=some (pt w.heap.size)->w'=w.alloc (.cells #[.slice none 0 0] 122)->Q .normal ⟨T,ds⟩ w'):(fC (sC b15)).wp prog Q ⟨T0,ds⟩ w:=by
 obtain⟨f,rfl⟩:=jR Ag;rw[lN]at *;have e0:f 0=_:=Aa t0;rw[e0];clear t0 e0;simp only[b15,fC,sC,f24,A8];go_wp2
 simp_all
def J07c{b cap:Nat}{bs:JD}(q:DU w x c seed h nf vm src)(hc:CZ c)(zG:-9223372036854775808<=seed/\seed<=9223372036854775807)(Dh:c.ba=some ⟨b,0,none⟩)(BL:c.nb=bs.length)(hb:Row false w b 3 .i64 bs cap)(hI:∀y∈bs,-9223372036854775808<=y/\y<=9223372036854775807)(tab:TabAt false w c src T)(hTn:T.length<=500)(BZ:∀t∈T,∀y∈t.B.h,0<=y) :
  Calls prog 24 #[pt x] w λe w'=>∃ks,keysOf (T.map TR.kv) ks/\e=.returned (.string (iQ (pX c seed bs T (ks.map (·.1)))))/\Tch w.heap.size M0 w w':=by
 have hx:=q.blk.lt;obtain⟨w1,BQ⟩:∃w1,w1=w.alloc (.cells #[.slice none 0 0] 122):=⟨_,rfl⟩;have t1:Tch w.heap.size M0 w w1:=by rw[BQ];exact Tch.refl.alloc (Ad _) _
 have N8:w1.heap[w.heap.size]?=some (.cells #[.slice none 0 0] 122):=by grind[Ja]
 have AP:WrB w1 (w.heap.size+1) w.heap.size []:=⟨_,N8,.nil _ _⟩;have q1:DU w1 x c seed h nf vm src:=q.kept (t1.heap x hx λh=>h) (t1.heap vm q.vs.lt λh=>h);have Juo:TabAt false w1 c src T:=tab.kept λy hy=>t1.heap y (tab.lt y hy) λh=>h;have FD:=hb.kept (t1.heap b hb.lt λh=>h);have hnb9:=hc.nb;have htl:∀y,y=src\/y∈tpl T->y<w.heap.size:=λy hy=>tab.lt y hy
 go_enter func24,ntmps24
 show Code.wp prog b15 _ _ _;rw[J0dv];refine wp_seq (J09i (x:=x) rfl rfl λTa wa a1 a2 a3=>?_);have a3:=a3.symm;subst a3;refine wp_seq (J09j (x:=x) a1 a2 λTb wb' b1 b2 b3 b4=>?_);rw[<- BQ]at b4;have b4:=b4.symm;subst b4;have hwl:=Jj N8;refine wp_seq (J099 q1 zG hwl AP b1 b2 b3 (by omega) λTc wc c1 c2 c3 c4=>?_);have low:∀{w2:JE},KP (w.heap.size+1) w.heap.size w w2->∀y,y<w.heap.size->w2.heap[y]?=w.heap[y]?:=λk y hy=>k.low (by omega) hy (by omega);have hq:∀{w2:JE},KP (w.heap.size+1) w.heap.size w w2->DU w2 x c seed h nf vm src:=λk=>q.kept (low k _ hx) (low k _ q.vs.lt);have ht:∀{w2:JE},KP (w.heap.size+1) w.heap.size w w2->TabAt false w2 c src T:=λk=>tab.kept λy hy=>low k y (tab.lt y hy);have kc:KP (w.heap.size+1) w.heap.size w wc:=(KP.tch t1).trans c4;have sc:=c4.size;have l0:(EF (LY c seed)).length<=50:=by
  refine YO (l:=LY c seed) λy hy=>?_;have hw:∀z:Int,IntKind.u64.wrap z<=18446744073709551615:=λz=>by rw[IntKind.wrap_u64];omega
  simp only[LY,AL,BU,or_false]at hy;rcases hy with rfl|rfl|rfl|rfl|rfl
  all_goals simp_all[yL]
 have l1:=J077 (l:=bs);refine wp_seq (J09a (hq kc) Dh BL (hb.kept (low kc _ hb.lt)) hI (by omega) hb.lt hx (by omega) c3 (by omega) c1 ((c2 0 (by omega)).trans b2) ((c2 3 (by omega)).trans b3) λTd wd d1 d2 d3 d4 d5=>?_);have kd:=kc.trans d5;have sd:=d5.size;refine wp_seq (J09b (hq kd) d1 d2 d3 λTe we e1 e2 e3 e4 e5=>?_);have ke:=kd.trans (.tch e5);have se:=e5.size;have LG:(T.map TR.kv).length=T.length:=FQ _;refine wp_seq (J09c (ht ke).map (by omega) (by omega) (d4.tch e5) (by grind) e1 e2 e3 e4 λTf wf f1 f2 f3 f4 f5 f6=>?_);rw[LG]at f5;have kf:=ke.trans f6;have sf:=f6.size;have l2:=UN (n:=T.length) (by omega);refine wp_seq (J08x hc (hq kf).cells.1 (ht kf) hTn BZ htl hx (by omega) f5 (by grind) f1 f2 f3 f4 λTg wg ks g1 g2 g3 g4 g5 g6=>?_);have kg:=kf.trans g6;have sg:=g6.size;have OO:=g4.length;have l3:=J06w (T:=T) (l:=ks.map (·.1)) λy hy=>by obtain⟨z,_,rfl⟩:=AZ.1 hy;exact J07a hc tab.ok BZ z.2.1
 rw[FQ]at l3;refine J08z (hq kg) (by omega) hx g5 (by grind) (by
  have:bM T.length≠[]:=by rw[bM];grind
  simp[this]) g1 g2 g3 λTh wh h2 h3=>?_
 have kh:=kg.trans h3;refine bodyPost_ret (v:=.string (iQ (pX c seed bs T (ks.map (·.1))))) ?_ rfl ⟨ks,g4,rfl,⟨kh.size,λy hy _=>low kh y hy,kh.tape,kh.os,kh.output⟩⟩;simp[results,results24,go_sem,Bq,h2,pX]
end
end Go.Sim.Z
end
