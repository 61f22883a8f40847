/- Proved: laws for the claim. No conditions. -/
import Derived.RunNT
import Derived.Test.YtlcbehhbfglgaaaGreatDoorC09
import Derived.Test.YtlcbehhbfglgaaaGreatDoorC17
import Derived.Test.YtlcbehhbfglgaaaGreatDoorC22
set_option linter.all false
set_option maxHeartbeats 2000000
open Go.Proofs.Tryz
noncomputable section
namespace Go.Sim.Z
open Go Go.Proofs Go.RowKit Go.Conc Go.Maps
section
variable{E:JB}{w:JE}{x:Nat}{c:J7}{seed nf:Int}{h:JJ}{vm b3 u b fb1:Nat}{vs:Nat->Option Nat}{S:Nat->List TR}{v1:JJ}{F:List LW}
def Jf5(b3:Nat)(v:JJ)(y:Nat):Prop:=y=b3\/∃n cap,v=JM y n cap
def NJ.roll(q:NJ E w x c seed h nf vm vs S)(hu:vs u=some b)(k3:w.heap[b3]?=some (.cells #[v1] 54))(hF:Qq E w fb1 v1 F){m:Nat}(hok:FB m F)(h3:E b3)(hb:prog.globals.size<=b3):UF E (Jf5 b3 v1) w b (.cells b3) (S u) c (LZ F) where
 h:=q.hok
 tab:=q.tab u b hu
 tE:=λy hy=>q.tE y ⟨u,b,hu,hy⟩
 bE:=λa ha=>by obtain⟨h1,h2,arr,t,h3,h4⟩:=q.bE a ha;exact⟨h1,h2,.plain h3 h4⟩
 fF:=λb e=>by cases e;exact .inl rfl
 fE:=λy hy=>by
  rcases hy with rfl|⟨n,cap,e⟩
  .refine⟨h3,hb,.of_cells (arr:=#[v1]) (t:=54) ⟨(0,0),k3,λ_=>rfl⟩ λX Sh hX v hv=>?_⟩;simp only[AL,BU,or_false]at hv;subst hv;rcases hF.1.shape with⟨rfl,_⟩|⟨g,cap,arr,rfl,_⟩
   .exact .Jk _ _
   .exact .slice _ _ _ _ ⟨rfl,hX _ (.inr ⟨_,_,rfl⟩)⟩
  .refine⟨(hF.2 _ _ _ e).1,(hF.2 _ _ _ e).2,?_⟩;rcases hF.1.shape with⟨e',_⟩|⟨g,cap,arr,e',_,hk,hp,_⟩
   .grind
   .rw[e]at e';cases e';exact .plain hk hp
 pass:=λw' Rf x hx=>J01a (Rf ⟨b3,0,none⟩ _ (.inl rfl) ((cell_of k3 0).trans rfl)) (hF.1.c.kept λg n cap i u e h=>Rf _ _ (.inr ⟨_,_,e⟩) h) hok.1 (λp hp=>(hok.2 p hp).imp λd h=>⟨h.1,h.2.1⟩) hx.1
 cfg:=q.cfg
 n:=q.n u b hu
end
def t9:Code:=sC (sC (sC (sC b9)))
def ops9:Array Oper:=opsOf (fC B9)
def c9:Code:=fC b9
def c9b:Code:=fC (sC b9)
def c9c:Code:=fC (sC (sC b9))
def J04y:b9=.seq c9 (.seq c9b (.seq c9c (.seq B9 t9))):=by kernel_rfl
def J04z:B9=.seq (.region 4 ops9 false) (.block 0 (.rangeFunc (.tmp 18) #[19,20] Ve Vf)):=by kernel_rfl
def ok9:Ji C0 S0 17 c9=true:=by kernel_rfl
def Jzk:Ji C0 S0 17 c9b=true:=by kernel_rfl
def Jzl:Ji C0 S0 17 c9c=true:=by kernel_rfl
def Jzm:Ji C0 S0 17 t9=true:=by kernel_rfl
def YL:GY C0 17:=⟨f17,by kernel_rfl,by kernel_rfl,by kernel_rfl⟩
def df9:S0.df.contains 17=false:=rfl
def Jk7:Yv C0 17:=by
 intro fn hf r hr;have e:C0.P.funcs[17]?=some f17:=by kernel_rfl
 rw[e]at hf;cases hf;rw[show f17.results=#[.cell 8 42,.cell 9 33]from by kernel_rfl]at hr;simp only[List.mem_toArray,AL,BU,or_false]at hr;rcases hr with rfl|rfl
 .exact hl9 (by decide)
 .exact hl9 (by decide)
def Jzn:okP C0 S0 17 Ve:=⟨by kernel_rfl,rfl,Jk7,YL,df9⟩
def Jzq:okP C0 S0 17 Vf:=⟨by kernel_rfl,rfl,Jk7,YL,df9⟩
def oZ:C0.hl 17≠[]:=by show[18]≠[];simp
def uO{i:Nat}(h:(C0.hl 17).contains i=true):i=18:=by
 have h':i∈[18]:=Lj.1 h
 grind
def Jw6{i:Nat}:(S0.own 17).contains i=false:=rfl
def J050{i:Nat}:(S0.own 68).contains i=false:=rfl
def body9:f17.body=some b9:=by kernel_rfl
def J023:f68.body=some b38:=by kernel_rfl
def J051:∃o,ops9[0]?=some o/\o.op=.move (.tmp 0)/\o.guard=none/\o.dst=some 15:=by
 simp only[ops9,opsOf,B9,b9,fC,sC,f17,A8]
 simp_all
def J052:∃o,ops9[1]?=some o/\o.op=.move (.tmp 1)/\o.guard=none/\o.dst=some 16:=by
 simp only[ops9,opsOf,B9,b9,fC,sC,f17,A8]
 simp_all
def J053:∃o,ops9[2]?=some o/\o.op=.move (.tmp 2)/\o.guard=none/\o.dst=some 17:=by
 simp only[ops9,opsOf,B9,b9,fC,sC,f17,A8]
 simp_all
def J054:∃o,ops9[3]?=some o/\o.op=.call { callee:=.value (.func 31),args:=#[.tmp 15,.tmp 16,.tmp 17],argTypes:=#[30,3,54] }/\o.guard=none/\o.dst=some 18:=by
 simp only[ops9,opsOf,B9,b9,fC,sC,f17,A8]
 simp_all
section
variable{w:JE}{x n m:Nat}{most:Int}{v0:JJ}{d:Deferred}
def J055:c9.wp prog (λe a w1=>e=.normal/\a.defers=[d]/\a.tmps=(λn=>#[pt x,JK m,v0,JK most,JA,JA,JA,pt n,pt (n+1),pt (n+2),JA,JA,JA,JA,JA,JA,JA,JA,JA,JA,JA,JA,JA,JA,JA,JA,JA,JA,JA,JA,JA,JA,JA]) w.heap.size/\w1.heap=((w.heap.push (.cells #[JK most] 3)).push (.cells #[.slice none 0 0] 42)).push (.cells #[.nilIface] 33)) ⟨#[pt x,JK m,v0,JK most,JA,JA,JA,JA,JA,JA,JA,JA,JA,JA,JA,JA,JA,JA,JA,JA,JA,JA,JA,JA,JA,JA,JA,JA,JA,JA,JA,JA,JA],[d]⟩ w:=by simp only[c9,b9,fC,f17,A8];go_wp2;exact rfl
def J024:c9b.wp prog (λe a w1=>e=.normal/\a.defers=[d]/\a.tmps=(λn4=>#[pt x,JK m,v0,JK most,JA,JA,JA,pt n,pt (n+1),pt (n+2),pt n4,JA,JA,JA,JA,JA,JA,JA,JA,JA,JA,JA,JA,JA,JA,JA,JA,JA,JA,JA,JA,JA,JA]) w.heap.size/\w1.heap=w.heap.push (.cells #[.slice none 0 0] 42)) ⟨#[pt x,JK m,v0,JK most,JA,JA,JA,pt n,pt (n+1),pt (n+2),JA,JA,JA,JA,JA,JA,JA,JA,JA,JA,JA,JA,JA,JA,JA,JA,JA,JA,JA,JA,JA,JA,JA],[d]⟩ w:=by simp only[c9b,b9,fC,sC,f17,A8];go_wp2;exact rfl
def J025{n4:Nat}(hm:1<=most)(h7:w.heap[n]?=some (.cells #[JK most] 3)):c9c.wp prog (λe a w1=>e=.normal/\a.defers=[d]/\a.tmps=#[pt x,JK m,v0,JK most,JA,JA,JA,pt n,pt (n+1),pt (n+2),pt n4,JA,JA,JK most,.bool false,JA,JA,JA,JA,JA,JA,JA,JA,JA,JA,JA,JA,JA,JA,JA,JA,JA,JA]/\w1.heap=w.heap) ⟨#[pt x,JK m,v0,JK most,JA,JA,JA,pt n,pt (n+1),pt (n+2),pt n4,JA,JA,JA,JA,JA,JA,JA,JA,JA,JA,JA,JA,JA,JA,JA,JA,JA,JA,JA,JA,JA,JA],[d]⟩ w:=by
 have hmn:¬most<1:=by omega
 have q7:=(cell_of h7 0).trans rfl;simp only[c9c,b9,fC,sC,f17,A8];go_wp2
def J056{n8 n9 n10:Nat}{v:JJ}{T:JC}(hT:T.size=33)(s8:T[8]?=some (pt n8))(s9:T[9]?=some (pt n9))(yY:T[10]?=some (pt n10))(h8:w.heap[n8]?=some (.cells #[.slice none 0 0] 42))(h9:w.heap[n9]?=some (.cells #[.nilIface] 33))(Ce:w.heap[n10]?=some (.cells #[v] 42))(hv:∃a l c,v=.slice a l c)(Ap:n8≠n10) :
  t9.wp prog (λe a w1=>e=.ret/\a.defers=[d]/\a.tmps[18]?=T[18]?/\a.tmps[8]?=some (pt n8)/\a.tmps[9]?=some (pt n9)/\w1.heap[n8]?=some (.cells #[v] 42)/\w1.heap[n9]?=some (.cells #[.nilIface] 33)/\(∀b,b≠n8->b≠n9->w1.heap[b]?=w.heap[b]?)) ⟨T,[d]⟩ w:=by
 obtain⟨f,rfl⟩:=Jx6 hT;rw[ZN]at *;have e8:f 8=_:=Aa s8;have e9:f 9=_:=Aa s9;have MZ:f 10=_:=Aa yY;rw[e8,e9,MZ];obtain⟨va,vl,vc,rfl⟩:=hv;have q8:=(cell_of h8 0).trans rfl;have q9:=(cell_of h9 0).trans rfl;have q10:=(cell_of Ce 0).trans rfl;have f8:=FZ h8 0;have f9:=FZ h9 0;have h89:n8≠n9:=λe=>by grind
 have h98:n9≠n8:=λe=>h89 e.symm;simp only[t9,b9,sC,f17,A8];go_wp2;have k8:(w.setCell ⟨n8,0,none⟩ (.slice va vl vc)).heap[n8]?=some (.cells #[.slice va vl vc] 42):=by rw[heap_set h8];rfl
 have k9:(w.setCell ⟨n8,0,none⟩ (.slice va vl vc)).heap[n9]?=some (.cells #[.nilIface] 33):=(Jm _ _ h98).trans h9;refine⟨(Jm _ _ h89).trans k8,?_,λb h1 h2=>(Jm _ _ h2).trans (Jm _ _ h1)⟩;rw[heap_set k9];rfl
end
section
variable{E:JB}{w w':JE}{base AO m0:Nat}{T:List TR}{ks:List Je}{L:List QC}{v:JJ}{t:JH}{k:IntKind}{xs:JD}{n:Nat}{cs:List JJ}
def KD(E:JB)(w w':JE):Prop:=∀b arr t,E b->t≠42->t≠33->w.heap[b]?=some (.cells arr t)->w'.heap[b]?=some (.cells arr t)
def SlN.kd(h:SlN base w v t k xs)(q:KD E w w')(h1:t≠42)(h2:t≠33)(hv:VR C0 (idE E) v v):SlN base w' v t k xs:=by obtain⟨g,cap,rfl,hb,arr,⟨z,h3,h4⟩,h5⟩:=h;cases h4 rfl;exact⟨g,cap,rfl,hb,arr,⟨(0,0),q _ _ _ hv.MQ h1 h2 h3,λ_=>rfl⟩,h5⟩
def SlI.kd(h:SlI false w base v t k xs)(q:KD E w w')(h1:t≠42)(h2:t≠33)(hv:VR C0 (idE E) v v):SlI false w' base v t k xs:=by
 rcases h with h|⟨g,cap,rfl,hb,arr,⟨z,h3,h4⟩,h5⟩
 .exact .inl h
 .cases h4 rfl;exact .inr ⟨g,cap,rfl,hb,arr,⟨(0,0),q _ _ _ hv.MQ h1 h2 h3,λ_=>rfl⟩,h5⟩
def IG.kd(h:IG base w T m0 ks L)(hv:∀q∈L,∀v∈q.cells,VR C0 (idE E) v v)(q:KD E w w'):IG base w' T m0 ks L:=by refine⟨h.1,λi x p hx hp=>?_⟩;obtain⟨h1,h2,h3,h4⟩:=h.2 i x p hx hp;have hv:=hv p (NR hp);exact⟨h1,h2,h3,h4.k.kd q (by decide) (by decide) (hv _ (by simp[QC.cells])),h4.r.kd q (by decide) (by decide) (hv _ (by simp[QC.cells])),h4.h.kd q (by decide) (by decide) (hv _ (by simp[QC.cells])),h4.l.kd q (by decide) (by decide) (hv _ (by simp[QC.cells]))⟩
def IG.mono(h:IG base w T m0 ks L)(hb:AO<=base):IG AO w T m0 ks L:=by refine⟨h.1,λi x p hx hp=>?_⟩;obtain⟨h1,h2,h3,h4⟩:=h.2 i x p hx hp;exact⟨h1,h2,h3,h4.mono hb⟩
def J026(h:w.ownsRow base 38 5 v n cs)(hv:VR C0 (idE E) v v)(q:KD E w w'):w'.ownsRow base 38 5 v n cs:=by
 refine⟨h.1,?_⟩;rcases h.2 with hn|⟨g,cap,cur,rfl,hb,OJ,rest⟩
 .exact .inl hn
 .exact .inr ⟨g,cap,cur,rfl,hb,q _ _ _ hv.MQ (by decide) (by decide) OJ,rest⟩
def Jh7(h:w.ownsRow base 38 5 v n cs):∃a c,v=.slice a n c:=by
 rcases h.2 with⟨rfl,hn⟩|⟨g,cap,cur,rfl,_⟩
 all_goals grind
end
def Juw{w1:JE}{T:JC}{b8 b9:Nat}{v u:JJ}(h8:T[8]?=some (pt b8))(h9:T[9]?=some (pt b9))(c8:w1.cell? ⟨b8,0,none⟩=some v)(c9:w1.cell? ⟨b9,0,none⟩=some u) :
  (results f17 T).run prog w1=.ok (.tuple #[v,u]) w1/\∀e∈(results f17 T).events prog w1 #[],∃ad:Addr,(ad.block=b8\/ad.block=b9)/\e=⟨.cell ad,false,false⟩:=by
 have hr:f17.results=#[.cell 8 42,.cell 9 33]:=by kernel_rfl
 have g8:T.getD 8 JA=pt b8:=by simp_all
 have g9:T.getD 9 JA=pt b9:=by simp_all
 have u28:=underlying42;have u30:=underlying33;constructor
 .simp[results,hr,Bq,h8,h9,go_sem,asAddr,loadVar,isAgg,underlying,c8,c9,u28,u30]
 .simp[results,hr,Bq,h8,h9,go_sem,asAddr,loadVar,isAgg,underlying,c8,c9,u28,u30]
section
variable{W E:JB}{w:JE}{x:Nat}{c:J7}{seed nf:Int}{h:JJ}{vm m fb0:Nat}{vs:Nat->Option Nat}{S:Nat->List TR}{v0:JJ}{F:List LW}{R:List TR->Prop}{M most:Int}{b₀:Frame}{a₀:Act}{ops:Array Oper}{i:Nat}{rest:List Nat}{kk:List Item}{cs:List Frame}{Post:(JB)->JF->JE->Prop}
structure Jux(E:JB)(w:JE)(c:J7)(R:List TR->Prop)(m:Nat)(W' E':JB)(w':JE)(v:JJ)(T:List TR)(ks:List Je)(L:List QC):Prop where
 le:∀b,E b->E' b
 bok:BOk C0 S0 W' E' w'
 ke:KE E w w'
 nd:(T.map (·.k)).Nodup
 tok:∀t∈T,EM t.k/\Jl c t.B
 sum:R T
 keys:keysOf (T.map TR.kv) ks
 outs:IG w.heap.size w' T m ks L
 row:w'.ownsRow w.heap.size 38 5 v L.length (L.flatMap QC.cells)
 vE:VR C0 (idE E') v v
set_option maxRecDepth 100000 in
def Jcf(hB:BOk C0 S0 W E w)(q:NJ E w x c seed h nf vm vs S)(hF:Qq E w fb0 v0 F)(hok:FB m F)(Ns:m<8)(hM:0<=M)(hS:∀u b,vs u=some b->(∀t∈S u,HIn M t.B)/\(S u).length*M<=9223372036854775807)(GN:1<=most)
  (hR:∀u b T,vs u=some b->Rn m u=false->(T.map (·.k)).Nodup->Sum c (tm T) (Gg (S u) m (LZ F))->R T) (YC:∀T:List TR,(T.map (·.k)).Nodup->R T->(T.length:Int)<=most)
  (kn:∀W' E' w' v T ks L,Jux E w c R m W' E' w' v T ks L->Reach prog Post W' (G (b₀.at (a₀.put ((ops[i]?).bind (·.dst)) (.tuple #[v,.nilIface])) (.inRegion ops rest::kk)) cs) w') :
  Reach prog Post W (G ((Go.Conc.base 17).at ⟨#[pt x,JK m,v0,JK most,JA,JA,JA,JA,JA,JA,JA,JA,JA,JA,JA,JA,JA,JA,JA,JA,JA,JA,JA,JA,JA,JA,JA,JA,JA,JA,JA,JA,JA],[]⟩ [.code b9]) (b₀.at a₀ (.inRegion ops (i::rest)::kk)::cs)) w:=by
 obtain⟨o0,h0,p0,g0,q0⟩:=J051;obtain⟨o1,h1,p1,g1,q1⟩:=J052;obtain⟨o2,h2,p2,g2,q2⟩:=J053;obtain⟨o3,h3,p3,g3,q3⟩:=J054;have kP:prog.globals.size<w.heap.size:=hB.lt hB.hnd;have Bf:TmR C0 S0 17 (idE E) #[pt x,JK m,v0,JK most,JA,JA,JA,JA,JA,JA,JA,JA,JA,JA,JA,JA,JA,JA,JA,JA,JA,JA,JA,JA,JA,JA,JA,JA,JA,JA,JA,JA,JA] #[pt x,JK m,v0,JK most,JA,JA,JA,JA,JA,JA,JA,JA,JA,JA,JA,JA,JA,JA,JA,JA,JA,JA,JA,JA,JA,JA,JA,JA,JA,JA,JA,JA,JA]:=by
  refine .bK (λv hv=>?_) λ_=>Jw6;have e:#[pt x,JK m,v0,JK most,JA,JA,JA,JA,JA,JA,JA,JA,JA,JA,JA,JA,JA,JA,JA,JA,JA,JA,JA,JA,JA,JA,JA,JA,JA,JA,JA,JA,JA]=#[pt x,JK m,v0,JK most]++Array.replicate 29 JA:=by
   simp_all
  rw[e,Array.toList_append,Gn]at hv;rcases hv with hv|hv
  .simp only[AL,BU,or_false]at hv;rcases hv with rfl|rfl|rfl|rfl
   .exact .ptr _ _ ⟨rfl,q.xE.1⟩
   .exact .int _ _
   .exact hF.vr
   .exact .int _ _
  .simp only[Array.toList_replicate]at hv;rw[List.eq_of_mem_replicate hv];exact .undef
 rw[J04y];refine J6 (λw1=>stepG_seq) rfl λd1=>?_;refine Reach.piece (b:=Go.Conc.base 17) KY rfl ok9 YL df9 oZ (by simp[Go.Conc.base]) (hB.at d1) Bf (Q:=λe t w1=>e=.normal/\t=(λn=>#[pt x,JK m,v0,JK most,JA,JA,JA,pt n,pt (n+1),pt (n+2),JA,JA,JA,JA,JA,JA,JA,JA,JA,JA,JA,JA,JA,JA,JA,JA,JA,JA,JA,JA,JA,JA,JA]) w.heap.size/\w1.heap=((w.heap.push (.cells #[JK most] 3)).push (.cells #[.slice none 0 0] 42)).push (.cells #[.nilIface] 33)) (λτ=>?_) (λE1 t1 w1 Am AQ CV AP Az DN=>?_) (λE1 t1 w1 Am todo AQ CV AP Az DN=>by cases DN.1)
 .refine wp_mono (J055 (w:=(w.at d1).tp τ 0)) λe a w1 ⟨r1,r2,r3,r4⟩=>⟨.inl r1,λi hi=>?_,r1,r3,r4⟩;rw[r3,uO hi];rfl
 obtain⟨-,rfl,Dn⟩:=DN;generalize hn:w.heap.size=n at *;have l1:=Jt rfl AP;have a7:E1 n:=(Az.slot (i:=7) rfl rfl).NP;have a8:E1 (n+1):=(Az.slot (i:=8) rfl rfl).NP;have a9:E1 (n+2):=(Az.slot (i:=9) rfl rfl).NP;have o1:∀b,b<n->w1.heap[b]?=w.heap[b]?:=λb hb=>by
  grind
 obtain⟨p7,p8,p9⟩:=Jxe hn (.cells #[JK most] 3) (.cells #[.slice none 0 0] 42) (.cells #[.nilIface] 33);rw[<- Dn]at p7 p8 p9;have c7:=l1 _ _ a7 p7 trivial;have c8:=l1 _ _ a8 p8 trivial;have c9':=l1 _ _ a9 p9 trivial;have k1:KL E w Am:=(KL.of_eq λb hb=>o1 b (hn▸hB.lt hb)).trans ((KL.Oq AP).mono AQ);refine J6 (λw1=>stepG_seq) rfl λd2=>?_;refine Reach.piece (b:=Go.Conc.base 17) KY rfl Jzk YL df9 oZ (by simp[Go.Conc.base]) (CV.at d2) Az (Q:=λe t w2=>e=.normal/\t=(λn4=>#[pt x,JK m,v0,JK most,JA,JA,JA,pt n,pt (n+1),pt (n+2),pt n4,JA,JA,JA,JA,JA,JA,JA,JA,JA,JA,JA,JA,JA,JA,JA,JA,JA,JA,JA,JA,JA,JA]) Am.heap.size/\w2.heap=Am.heap.push (.cells #[.slice none 0 0] 42)) (λτ=>?_) (λE2 t2 w2 Bv Bo Dt Dv Bc Qb=>?_) (λE1 t1 w1 Am todo AQ CV AP Az DN=>by cases DN.1)
 .refine wp_mono (J024 (w:=(Am.at d2).tp τ 0)) λe a w1 ⟨r1,r2,r3,r4⟩=>⟨.inl r1,λi hi=>?_,r1,r3,r4⟩;rw[r3,uO hi];rfl
 obtain⟨-,rfl,Fv⟩:=Qb;have n4lt:n+2<Am.heap.size:=CV.lt a9;generalize hn4:Am.heap.size=n4 at *;have l2:=Jt rfl Dv;have Q5:E2 n4:=(Bc.slot (i:=10) rfl rfl).NP;have o2':∀b,b<n4->w2.heap[b]?=Am.heap[b]?:=λb hb=>by
  grind
 have k2:KL E1 Am Bv:=(KL.of_eq λb hb=>o2' b (hn4▸CV.lt hb)).trans ((KL.Oq Dv).mono Bo);have c10:=l2 n4 (.cells #[.slice none 0 0] 42) Q5 (by grind) trivial;have d7:=k2.ke _ _ a7 c7 trivial;have d8:=k2.ke _ _ a8 c8 trivial;have d9:=k2.ke _ _ a9 c9' trivial;refine J6 (λw1=>stepG_seq) rfl λd3=>?_;refine Reach.piece (b:=Go.Conc.base 17) KY rfl Jzl YL df9 oZ (by simp[Go.Conc.base]) (Dt.at d3) Bc (Q:=λe t w3=>e=.normal/\t=#[pt x,JK m,v0,JK most,JA,JA,JA,pt n,pt (n+1),pt (n+2),pt n4,JA,JA,JK most,.bool false,JA,JA,JA,JA,JA,JA,JA,JA,JA,JA,JA,JA,JA,JA,JA,JA,JA,JA]/\w3.heap=Bv.heap) (λτ=>?_) (λE3 t3 w3 Iy CO Hf CY Dx jY=>?_) (λE1 t1 w1 Am todo AQ CV AP Az DN=>by cases DN.1)
 .refine wp_mono (J025 (w:=(Bv.at d3).tp τ 0) GN d7) λe a w1 ⟨r1,r2,r3,r4⟩=>⟨.inl r1,λi hi=>?_,r1,r3,r4⟩;rw[r3,uO hi];rfl
 obtain⟨-,rfl,PW⟩:=jY;have k3:KL E2 Bv Iy:=(KL.of_eq λb hb=>by rw[PW]).trans ((KL.Oq CY).mono CO);have kE:KL E w Iy:=k1.trans ((k2.mono AQ).trans (k3.mono λb hb=>Bo b (AQ b hb)));have KI:∀b,E b->E3 b:=λb hb=>CO b (Bo b (AQ b hb));have e7:=k3.ke _ _ (Bo _ a7) d7 trivial;have e8:=k3.ke _ _ (Bo _ a8) d8 trivial;have e9:=k3.ke _ _ (Bo _ a9) d9 trivial;have MZ:=k3.ke _ _ Q5 c10 trivial;have a7:=CO _ (Bo _ a7);have a8:=CO _ (Bo _ a8);have a9:=CO _ (Bo _ a9);have Q5:=CO _ Q5;clear p7 p8 p9 c7 c8 c9' d7 d8 d9 c10 Dn Fv PW;refine J6 (λw1=>stepG_seq) rfl λd4=>?_;rw[J04z];refine J6 (λw1=>stepG_seq) rfl λd5=>?_;refine J6 (λw1=>stepG_region) rfl λd6=>?_;rw[show List.range ops9.size=[0,1,2,3]from by kernel_rfl];refine J6 (λw1=>UN (v:=pt x) h0 (by simp[Region.wanted,g0]) (by simp[Go.Conc.base]) (by simp[execOp,p0,Act.eval]) (by simp[execOp,p0,Act.eval])) rfl λd7=>?_;rw[q0];refine J6 (λw1=>UN (v:=JK m) h1 (by simp[Region.wanted,g1]) (by simp[Go.Conc.base]) (by simp[execOp,p1,Act.eval,Act.put]) (by simp[execOp,p1,Act.eval,Act.put])) rfl λd8=>?_;rw[q1];refine J6 (λw1=>UN (v:=v0) h2 (by simp[Region.wanted,g2]) (by simp[Go.Conc.base]) (by simp[execOp,p2,Act.eval,Act.put]) (by simp[execOp,p2,Act.eval,Act.put])) rfl λd9=>?_;rw[q2];have QY:TmR C0 S0 17 (idE E3) #[pt x,JK m,v0,JK most,JA,JA,JA,pt n,pt (n+1),pt (n+2),pt n4,JA,JA,JK most,.bool false,pt x,JK m,v0,JA,JA,JA,JA,JA,JA,JA,JA,JA,JA,JA,JA,JA,JA,JA] #[pt x,JK m,v0,JK most,JA,JA,JA,pt n,pt (n+1),pt (n+2),pt n4,JA,JA,JK most,.bool false,pt x,JK m,v0,JA,JA,JA,JA,JA,JA,JA,JA,JA,JA,JA,JA,JA,JA,JA]:=
  ((Dx.set 15 (v:=pt x) (v':=pt x) (.ptr _ _ ⟨rfl,KI _ q.xE.1⟩) λh=>by cases h).set 16 (v:=JK m) (v':=JK m) (.int _ _) λh=>by cases h).set 17 (v:=v0) (v':=v0) (hF.vr.mono (Oj KI)) λh=>by cases h
 have KH:=((((((Hf.at d4).at d5).at d6).at d7).at d8).at d9);generalize Qg:((((((Iy.at d4).at d5).at d6).at d7).at d8).at d9)=w4 at KH ⊢;have Juy:w4.heap=Iy.heap:=by rw[<- Qg];rfl
 clear Qg;show Reach prog Post W (G ((Go.Conc.base 17).at ⟨#[pt x,JK m,v0,JK most,JA,JA,JA,pt n,pt (n+1),pt (n+2),pt n4,JA,JA,JK most,.bool false,pt x,JK m,v0,JA,JA,JA,JA,JA,JA,JA,JA,JA,JA,JA,JA,JA,JA,JA],[]⟩ _) _) w4;refine Reach.call (B:=Go.Conc.base 17) h3 (by simp[Region.wanted,g3]) (by simp[Go.Conc.base]) p3 (fn:=f31) (c:=b17) (by kernel_rfl) (by kernel_rfl) J01w λd10=>?_;have PK:(#[Operand.tmp 15,.tmp 16,.tmp 17].map (Act.eval ⟨#[pt x,JK m,v0,JK most,JA,JA,JA,pt n,pt (n+1),pt (n+2),pt n4,JA,JA,JK most,.bool false,pt x,JK m,v0,JA,JA,JA,JA,JA,JA,JA,JA,JA,JA,JA,JA,JA,JA,JA],[]⟩))++Array.replicate (f31.ntmps-(#[Operand.tmp 15,.tmp 16,.tmp 17].map (Act.eval ⟨#[pt x,JK m,v0,JK most,JA,JA,JA,pt n,pt (n+1),pt (n+2),pt n4,JA,JA,JK most,.bool false,pt x,JK m,v0,JA,JA,JA,JA,JA,JA,JA,JA,JA,JA,JA,JA,JA,JA,JA],[]⟩)).size) JA=#[pt x,JK m,v0,JA,JA,JA,JA,JA,JA,JA,JA]:=by
  have LH:f31.ntmps=11:=by kernel_rfl
  have h1:(#[Operand.tmp 15,.tmp 16,.tmp 17].map (Act.eval ⟨#[pt x,JK m,v0,JK most,JA,JA,JA,pt n,pt (n+1),pt (n+2),pt n4,JA,JA,JK most,.bool false,pt x,JK m,v0,JA,JA,JA,JA,JA,JA,JA,JA,JA,JA,JA,JA,JA,JA,JA],[]⟩))=#[pt x,JK m,v0]:=by simp[Act.eval]
  simp_all
 rw[PK];refine Juv (x:=x) (m:=m) (KH.at d10) (KI _ q.xE.1) ((hF.ke kE.ke KI).ke (.of_eq λb _=>by show w4.heap[b]?=_;rw[Juy]) λ_ h=>h) hok.1 λE5 w5 b1 b2 b3 v1 fb1 hF5 j1 j2 j3 j4 j5 j6 j7 j8 j9 yM=>?_;rw[h3];simp only[Option.bind_some,q3];refine J6 (λw1=>stepG_region_end) rfl λd11=>?_;refine J6 (λw1=>stepG_block) rfl λd12=>?_;have EW:TmR C0 S0 17 (idE E5) #[pt x,JK m,v0,JK most,JA,JA,JA,pt n,pt (n+1),pt (n+2),pt n4,JA,JA,JK most,.bool false,pt x,JK m,v0,.func (.func 68) #[] #[pt b1,pt b2,pt b3],JA,JA,JA,JA,JA,JA,JA,JA,JA,JA,JA,JA,JA,JA] #[pt x,JK m,v0,JK most,JA,JA,JA,pt n,pt (n+1),pt (n+2),pt n4,JA,JA,JK most,.bool false,pt x,JK m,v0,.func (.func 68) #[] #[pt b1,pt b2,pt b3],JA,JA,JA,JA,JA,JA,JA,JA,JA,JA,JA,JA,JA,JA]:=(QY.mono (Oj j1)).hole (i:=18) rfl Jw6 (.func (.func 68) #[] #[pt b1,pt b2,pt b3]);show Reach prog Post W (G ((Go.Conc.base 17).at ⟨#[pt x,JK m,v0,JK most,JA,JA,JA,pt n,pt (n+1),pt (n+2),pt n4,JA,JA,JK most,.bool false,pt x,JK m,v0,.func (.func 68) #[] #[pt b1,pt b2,pt b3],JA,JA,JA,JA,JA,JA,JA,JA,JA,JA,JA,JA,JA,JA],[]⟩ _) _) _;have kE5:KE E w w5:=kE.ke.trans ((KE.of_eq (E:=E) (w:=Iy) (w1:=w4.at d10) λb _=>by show w4.heap[b]?=_;rw[Juy]).trans (j3.ke.mono KI));have r5:∀{b:Nat}{o:Obj},E3 b->Iy.heap[b]?=some o->Dat o->w5.heap[b]?=some o:=λhb ho hd=>j3.ke _ _ hb (show w4.heap[_]?=_ by grind) hd;have f7:=r5 a7 e7 trivial;have f8:=r5 a8 e8 trivial;have f9:=r5 a9 e9 trivial;have f10:=r5 Q5 MZ trivial;have wJ:∀b,E b->E5 b:=λb hb=>j1 b (KI b hb);have a7:=j1 _ a7;have a8:=j1 _ a8;have a9:=j1 _ a9;have Q5:=j1 _ Q5;have lt5:∀b,E5 b->b<w5.heap.size:=λb hb=>j2.lt hb;refine Reach.range (C:=C0) (S:=S0) (B:=Go.Conc.base 17) rfl ((j2.at d11).at d12) EW rfl (by simp[Go.Conc.base]) (g:=.tmp 18) (f:=68) (fb:=#[pt b1,pt b2,pt b3]) rfl (fn:=f68) (by kernel_rfl) (by kernel_rfl) J023 Jzn Jzq λw6 m1 m2 m3 m4 m5=>?_;generalize hN:((w5.at d11).at d12).heap.size=N at *;have hN5:w5.heap.size=N:=hN;have yJ:∀b,E5 b->w6.heap[b]?=w5.heap[b]?:=m3;have yO:KE E w w6:=kE5.trans (.of_eq λb hb=>yJ b (wJ b hb));have n0N:n4<N:=hN5▸lt5 _ Q5;have wK:∀b,E b->(E5 b\/b=N)\/b=N+1:=λb hb=>.inl (.inl (wJ b hb));have g8:=(yJ _ a8).trans f8;have g9':=(yJ _ a9).trans f9;have q6:=q.ke yO hB.hnd wK;have hF6:=hF5.ke (E':=λb=>(E5 b\/b=N)\/b=N+1) (w':=w6) (.of_eq yJ) λb hb=>.inl (.inl hb);have k3':=(yJ _ j9).trans j6;have hQ:QAt n #[pt x,JK m,v0,JK most,JA,JA,JA,pt n,pt (n+1),pt (n+2),pt n4,JA,JA,JK most,.bool false,pt x,JK m,v0,.func (.func 68) #[] #[pt b1,pt b2,pt b3],JA,JA,JA,JA,JA,JA,JA,JA,JA,JA,JA,JA,JA,JA] n n4 (N+1) N most [] w6:=⟨⟨.slice none 0 0,(yJ _ Q5).trans f10,World.ownsRow_nil _ _ _ _⟩,m5,(yJ _ a7).trans f7,m4⟩;have eT:((#[.func (.yield (N+1)) #[] #[]]++#[pt b1,pt b2,pt b3])++Array.replicate (f68.ntmps-(#[Value.func (.yield (N+1)) #[] #[]]++#[pt b1,pt b2,pt b3]).size) JA:JC)=#[.func (.yield (N+1)) #[] #[],pt b1,pt b2,pt b3]++Array.replicate 71 JA:=by
  simp_all
 rw[eT];have Gs:prog.globals.size<=b3:=by
  have h1:w4.heap.size<=b3:=yM
  grind
 refine Juu (E:=λb=>(E5 b\/b=N)\/b=N+1) (w:=w6) (Fp:=Jf5 b3 v1) (pass:=LZ F) (M:=M) (S:=S) (R:=R) (m:=m) (b1:=b1) (b2:=b2) (b3:=b3) (l:=N+1) (mo:=n) (ob:=n4) (D:=N) (qb:=n) (T9:=#[pt x,JK m,v0,JK most,JA,JA,JA,pt n,pt (n+1),pt (n+2),pt n4,JA,JA,JK most,.bool false,pt x,JK m,v0,.func (.func 68) #[] #[pt b1,pt b2,pt b3],JA,JA,JA,JA,JA,JA,JA,JA,JA,JA,JA,JA,JA,JA]) m1 q6 Ns ((yJ _ j7).trans j4) ((yJ _ j8).trans j5) k3' hF6 hok ⟨.inl (.inl j7),.inl (.inl j8),.inl (.inl j9)⟩ (λu b hu=>q6.roll hu k3' hF6 hok (.inl (.inl j9)) Gs) hM hS hR YC hQ (by omega) rfl rfl rfl ⟨.inr rfl,.inl (.inl a7),.inl (.inl Q5),.inl (.inr rfl)⟩ (by simp) (by simp) (by simp) (by simp) (by simp) ?_ ?_
 .refine .bK (λv hv=>?_) λ_=>J050;rw[Array.toList_append,Gn]at hv;rcases hv with hv|hv
  .simp only[AL,BU,or_false]at hv;rcases hv with rfl|rfl|rfl|rfl
   .exact .func (.yield ⟨rfl,.inr rfl⟩) rfl (λi x x' h=>by simp at h) ⟨rfl,by simp⟩ (λi x x' h=>by simp at h)
   .exact .ptr _ _ ⟨rfl,.inl (.inl j7)⟩
   .exact .ptr _ _ ⟨rfl,.inl (.inl j8)⟩
   .exact .ptr _ _ ⟨rfl,.inl (.inl j9)⟩
  .simp only[Array.toList_replicate]at hv;rw[List.eq_of_mem_replicate hv];exact .undef
 .intro W7 E7 t7 w7 wb NT T ks L mm i1 i2 i3 i4 i5 i6 i7 i8 i9;refine Reach.J01b (B:=Go.Conc.base 68) (a:=⟨t7,[]⟩) rfl rfl (fn:=f68) (by kernel_rfl) (by kernel_rfl) λd13=>?_;refine Reach.Juj (C:=C0) (S:=S0) (B:=Go.Conc.base 17) rfl (i2.at d13) (l:=N+1) (i1 _ (.inr rfl)) (i8.at (w':=w7.at d13) rfl).lp (by simp[NI]) rfl (by kernel_rfl) λw8 u1 u2 u3=>?_;have u3:∀b,E7 b->b≠N+1->w8.heap[b]?=w7.heap[b]?:=u3;refine J6 (λw1=>stepG_inBlock) rfl λd14=>?_;obtain⟨v,hv,Aj⟩:=i8.box;have E8:E7 (n+1):=i1 _ (.inl (.inl a8));have E9:E7 (n+2):=i1 _ (.inl (.inl a9));have mJ:E7 n4:=i1 _ (.inl (.inl Q5));have EN:E7 N:=i1 _ (.inl (.inr rfl));have y8:=i9 _ _ (.inl (.inl a8)) g8 (by omega) (by omega) (λ_ cur=>by simp) trivial;have y9:=i9 _ _ (.inl (.inl a9)) g9' (by omega) (by omega) (λ_ cur=>by simp) trivial;have v8:=(u3 _ mJ (by omega)).trans hv;have x8:=(u3 _ E8 (by omega)).trans y8;have x9:=(u3 _ E9 (by omega)).trans y9;have xD:=(u3 _ EN (by omega)).trans i8.D;have kV:TmR C0 S0 17 (idE E7) #[pt x,JK m,v0,JK most,JA,JA,JA,pt n,pt (n+1),pt (n+2),pt n4,JA,JA,JK most,.bool false,pt x,JK m,v0,.func (.func 68) #[] #[pt b1,pt b2,pt b3],JA,JA,JA,JA,JA,JA,JA,JA,JA,JA,JA,JA,JA,JA] #[pt x,JK m,v0,JK most,JA,JA,JA,pt n,pt (n+1),pt (n+2),pt n4,JA,JA,JK most,.bool false,pt x,JK m,v0,.func (.func 68) #[] #[pt b1,pt b2,pt b3],JA,JA,JA,JA,JA,JA,JA,JA,JA,JA,JA,JA,JA,JA]:=EW.mono (Oj λb hb=>i1 b (.inl (.inl hb)));refine Reach.piece (b:=Go.Conc.base 17) (k:=[]) KY rfl Jzm YL df9 oZ (by simp[Go.Conc.base]) (u1.at d14) kV (Q:=λe t w9=>e=.ret/\t[8]?=some (pt (n+1))/\t[9]?=some (pt (n+2))/\w9.heap[n+1]?=some (.cells #[v] 42)/\w9.heap[n+2]?=some (.cells #[.nilIface] 33)/\∀b,b≠n+1->b≠n+2->w9.heap[b]?=w8.heap[b]?) (λτ=>?_) (λE1 t1 w1 Am AQ CV AP Az DN=>by cases DN.1) (λEz tz wz wz' todo Ag hBz hWz htz hqz=>?_)
  .obtain⟨va,vc,rfl⟩:=Jh7 Aj;refine wp_mono (J056 (w:=(w8.at d14).tp τ 0) (n8:=n+1) (n9:=n+2) (n10:=n4) rfl rfl rfl rfl x8 x9 v8 ⟨_,_,_,rfl⟩ (by omega)) λe a w1 ⟨r1,r2,r3,r4,r5,r6,r7,r8⟩=>⟨.inr r1,λi hi=>?_,r1,r4,r5,r6,r7,r8⟩;rw[uO hi];exact r3
  obtain⟨-,t8,t9',z8,z9,z⟩:=hqz;have lz:=Jt rfl hWz;have zD:=Jgc hWz (Ag _ EN) ((z N (by omega) (by omega)).trans xD);have z8':=lz _ _ (Ag _ E8) z8 trivial;have z9':=lz _ _ (Ag _ E9) z9 trivial;refine Reach.collected (C:=C0) (S:=S0) (B:=Go.Conc.base 17) rfl hBz (D:=N) (Ag _ EN) zD (by kernel_rfl) λqJ u4 u5 u6=>?_;have q8:=(u6 _ (Ag _ E8) (by omega)).trans z8';have q9:=(u6 _ (Ag _ E9) (by omega)).trans z9';refine Reach.Jyl (C:=C0) (S:=S0) (B:=Go.Conc.base 17) (a:=⟨tz,[]⟩) rfl u4 (fn:=f17) (x:=8) (y:=9) (tx:=42) (ty:=33) (bx:=n+1) (by_:=n+2) (u:=v) (v:=.nilIface) rfl rfl (by kernel_rfl) (by kernel_rfl) (by kernel_rfl) (by simp[*]) (by simp[*]) (Ag _ E8) (Ag _ E9) (λw1 BQ=>?_) λyA u7 u8 u9=>?_
  .exact Juw t8 t9' ((cell_of ((BQ _ (.inl rfl)).trans q8) 0).trans rfl) ((cell_of ((BQ _ (.inr rfl)).trans q9) 0).trans rfl)
  have neq:∀b arr t,t≠42->t≠33->w7.heap[b]?=some (.cells arr t)->b≠N+1/\b≠N/\b≠n+1/\b≠n+2:=λb arr t h1 h2 h3=>by
   refine⟨λe=>?_,λe=>?_,λe=>?_,λe=>?_⟩
   .rw[e,i8.lp]at h3;cases h3
   .grind
   all_goals grind
  have kd:KD E7 w7 yA:=λb arr t hb h1 h2 h3=>by obtain⟨n1,n2,n3,n4'⟩:=neq b arr t h1 h2 h3;exact(u9 b (Ag b hb)).trans ((u6 b (Ag b hb) n2).trans (lz b _ (Ag b hb) ((z b n3 n4').trans ((u3 b hb n1).trans h3)) trivial))
  have vE7:VR C0 (idE E7) v v:=i2.wr.Y4 mJ ((cell_of hv 0).trans rfl);refine kn W7 Ez yA v T ks L ⟨λb hb=>Ag b (i1 b (wK b hb)),u7,λb o hb ho hd=>?_,i3.nodup,λt ht=>⟨i3.keys t ht,i3.ok t ht⟩,i4,i5,?_,?_,?_⟩
  .have hbn:b<n:=hn▸hB.lt hb;have e7:=i1 b (wK b hb);have s7:=i9 b o (wK b hb) (yO b o hb ho hd) (by omega) (by omega) (λh=>absurd h (by omega)) hd;exact(u9 b (Ag b e7)).trans ((u6 b (Ag b e7) (by omega)).trans (lz b _ (Ag b e7) ((z b (by omega) (by omega)).trans ((u3 b e7 (by omega)).trans s7)) hd))
  .rw[hn];exact(i6.mono i7).kd (λp hp v hv=>i8.cellsE i2.wr mJ hp hv) kd
  .rw[hn];exact J026 Aj vE7 kd
  .exact vE7.mono (Oj Ag)
end
end Go.Sim.Z
namespace Go.Sim
open Go Go.Conc
open Go.ConcN (sumTo upd)
def Jyu(said:Bool):¬Race said #[]:=by rintro⟨i,j,_,⟨a,b,ha,_⟩,_⟩;simp[Trace.act?]at ha
def Juz{P:Program}{W:JB}(g:JF)(w:JE)(hW:∀b,W b->b<w.heap.size):Cmp P W #[g] w #[] (λ_=>0) where
 lv:=⟨λj x hj hx=>(by grind),λj hj=>rfl⟩
 past:=⟨Jyu,λi a ha=>by simp[touchAt,Trace.act?]at ha,λi g hg=>by simp[Trace.g?]at hg,rfl,λop Ar=>by simp at Ar⟩
 quiet:=λi op x hi=>by simp at hi
 low:=hW
 tidy:=λop Ar=>by simp at Ar
def Jrq(P:Program)(Post:JJ->JE->Prop)(_:JB)(g:JF)(w:JE):Prop:=
 g.status=.running/\∀w1,AtRel w w1->∃v,stepG P true g w1=.ended (.done v) w1 #[]/\Post v w1
theorem Joc{P:Program}:∀(N:Nat){m m':Machine}{t t':Trace},runNT P N m t=(.next m',t')->runN P N m=.next m':=by
 intro N m m' t t' h;have:=congrArg Prod.fst h
 grind[runNT_fst]
def Jhj{P:Program}{Post:JJ->JE->Prop}{W:JB}{g:JF}{w:JE}(hW:∀b,W b->b<w.heap.size)(h:Reach P (Jrq P Post) W g w) :
  ∃M last o w' t',runNT P (M+1) (solo g w) #[]=(.ended o w',t')/\runN P M (solo g w)=.next last/\step P last=.ended o w'/\Go.Conc.Good P (λv w'=>Post v w'/\(∀b,W b->w'.heap[b]?=w.heap[b]?)/\w'.os=w.os/\w'.output=w.output) last o w' t':=by
 obtain⟨N,BG,w',sl',t',q',W',vN,g',h1,h2,h3,⟨h4,h5⟩,hK,_,_⟩:=h #[g] none #[] (λ_=>0) (λ_=>False) (λ_ h=>h.elim) hW rfl (Juz g w λ_ h=>h.elim);have hG:Goes P true AtRel (λ_ _ _=>False) (AtEnd P (ShW vN) w'.heap.size (λv w'=>Post v w'/\(∀b,W b->w'.heap[b]?=w.heap[b]?)/\w'.os=w.os/\w'.output=w.output)) 0 g' w':=λw1 hr=>by obtain⟨v,h6,h7⟩:=h5 w1 hr;obtain⟨d,rfl⟩:=hr;exact⟨h4,v,#[],h6,λe he=>by simp at he,h7,hK.keep,hK.os,hK.out⟩
 obtain⟨N2,last,o,w2,t2,k1,k2,k3,k4⟩:=beside_ends (sl:=sl') (λ_ _ _ h=>h.elim) h2 h3.lv h3.past hG;refine⟨N+N2,last,o,w2,t2,?_,?_,k3,k4⟩
 all_goals grind[solo_eq_crowd,Nat.add_assoc,runNT_add,runN_add,Joc]
end Go.Sim
namespace Go.Sim.Z
open Go Go.Proofs Go.RowKit Go.Conc Go.Maps
open Go.WideElems (Fit rd rg)
section
variable{C:Cx}{ok:JG->Code->Prop}{E:JB}{w w':JE}
def HY.inE{vm u b:Nat}{vs:Nat->Option Nat}(hW:WR C ok (idE E) w w')(h:HY w vm vs)(hv:E vm)(hu:vs u=some b):E b:=by
 obtain⟨D,⟨es,clock,h2,h3,h4,h5⟩,hq⟩:=h;obtain⟨o1,o',g1,g2,g3⟩:=hW.get (b:=vm) (b':=vm) ⟨rfl,hv⟩;rw[h2]at g1;cases g1;obtain⟨AU,rfl,hr⟩:=g3;have hrd:=hq.rd u;have hf:=hq.hf u;rw[hu]at hrd hf;obtain⟨p,hp,lZ⟩:∃p∈es.toList.map (rg prog 3 Rv),p.2=.held (.map (some b)):=by
  rw[h5]at hrd hf;simp only[DataW.atKey]at hrd
  grind[ZO,List.mem_of_find?_eq_some]
 obtain⟨z,hz,e⟩:=AZ.1 hp;obtain⟨q,hq⟩:=h3.reads z hz;have e2:q=p:=by rw[<- e];simp[rg,hq]
 subst e2;unfold rd at hq;simp only[Gl,Fh]at hq;obtain⟨l,hl,d,hd,e⟩:=hq;have e3:d.1=.held (.map (some b)):=(congrArg Prod.snd e).trans lZ;simp only[Rv,Cb]at hd;rw[<- hd]at e3;have e4:=DataW.held.inj e3;obtain⟨i,hi⟩:=List.mem_iff_getElem?.1 hz;rw[Array.getElem?_toList]at hi;have Ac:i<AU.size:=by rw[<- hr.size];grind
 have CW:AU[i]?=some AU[i]:=Bz Ac;have hq:=(hr.at_ i z _ hi CW).val;have e5:=hq.eq λ_ _ h=>h.1;rw[<- e5,e4]at hq;exact hq.Jtu
end
section
variable{E:JB}{w w1 w':JE}{x:Nat}{c:J7}{seed nf:Int}{h:JJ}{vm:Nat}{vs:Nat->Option Nat}{S:Nat->List TR}
def NJ.Oq(hW:WR C0 (okP C0 S0) (idE E) w1 w')(q:DU w1 x c seed h nf vm vs)(f7:(vs 7).isSome=true)(tab:∀v b,vs v=some b->TabAt false w1 c b (S v))(hok:HOk w1)(hH:E prog.globals.size)(hx:E x)
  (hg:∀y,VB vs S y->prog.globals.size<=y) (hb:∀a,c.ba=some a->prog.globals.size<=a.block/\∃arr t,Blk false w1 a.block arr t/\Plain arr) (cfg:CZ c) (n:∀v b,vs v=some b->(S v).length<=1000):NJ E w' x c seed h nf vm vs S:=by
 have l:=Jt rfl hW;have hv:E vm:=(hW.Y4 hx q.cells.2.2.2.2.2.2.2).Jtu;have Dh:∀a,c.ba=some a->E a.block:=λa ha=>by have h3:=q.cells.2.2.2.1;rw[ha]at h3;exact(hW.Y4 hx h3).MQ
 have hT:=λv b(aT:vs v=some b)=>(tab v b aT).places rfl hW Dh (q.vs.inE hW hv aT);refine⟨KE.cube q hx hv l,f7,λv b aT=>(tab v b aT).ke l (hT v b aT),hok.ke l hH,λy hy=>⟨?_,hg y hy⟩,λa ha=>?_,⟨hx,hv⟩,cfg,n⟩
 .obtain⟨v,b,aT,hy⟩:=hy
  grind
 obtain⟨h1,arr,t,h2,h3⟩:=hb a ha;exact⟨Dh a ha,h1,arr,t,l.blk (Dh a ha) h2,h3⟩
end
def RD{α:Type}{motive:List α->Prop}(l:List α)(nil:motive [])(append_singleton:∀l a,motive l->motive (l++[a])):motive l:=by
 have:∀n,∀l:List α,l.length=n->motive l:=by
  intro n
  induction n with
  |zero=>grind
  |succ n ih=>
   intro l h;have Ap:l≠[]:=by grind
   rw[<- List.dropLast_concat_getLast Ap]
   grind
 grind
def Df(c:J7)(bs:JD)(A:List (Int × Int)):Bun:=A.foldl (λB f=>P6 c bs B f.1 f.2) (P7 c)
def FP(c:J7)(bs:JD)(A:List (Int × Int)):Option Bun:=if A=[]then none else some (Df c bs A)
def Pq(A:List (Int × Int)):Prop:=∀f∈A,0<=f.1/\f.1<=18446744073709551615
def Jas{x:Int}(h:I64 x):wrap64 x=x:=by unfold I64 at h;unfold wrap64;omega
section
variable{c:J7}{bs:JD}{a b:Bun}{A B:List (Int × Int)}
def Rx(f:Int × Int):Df c bs (A++[f])=P6 c bs (Df c bs A) f.1 f.2:=by simp[Df]
def Ou.J057(h:Jl c b):Ou c b:=⟨h.r,h.r8,h.h,h.h64,h.l,h.lK,h.l64,h.n64⟩
def nY(hc:CZ c)(CQ:bs.length=c.nb)(hA:Pq A):Ou c (Df c bs A)/\(A≠[]->Jl c (Df c bs A)):=by
 induction A using RD with
 |nil=>exact⟨Jfo hc,λh=>absurd rfl h⟩
 |append_singleton A f ih=>
  have h1:=(ih λg hg=>hA g (by simp[hg])).1;have h2:=h1.add hc CQ (hA f (by simp)) f.2;rw[Rx];exact⟨.J057 h2,λ_=>h2⟩
def Jh8:∀{l:JD}{n:Nat},l.length=n->(∀x∈l,0<=x)->maxL l (List.replicate n 0)=l
 |[],_,h,_=>by cases h;rfl
 |x::l,n+1,h,hp=>by have:=Jh8 (l:=l) (n:=n) (by simpa using h) λy hy=>hp y (by simp[hy]);have hx:=hp x (by simp);unfold maxL at this ⊢;rw[List.replicate_succ,List.zipWith_cons_cons,this,Int.max_eq_left hx]
def Jh9:∀{l:JD}{n:Nat},l.length=n->(∀x∈l,I64 x)->Eo l (List.replicate n 0)=l
 |[],_,h,_=>by cases h;rfl
 |x::l,n+1,h,hp=>by have:=Jh9 (l:=l) (n:=n) (by simpa using h) λy hy=>hp y (by simp[hy]);have hx:=hp x (by simp);unfold Eo at this ⊢;rw[List.replicate_succ,List.zipWith_cons_cons,this,Int.add_zero,Jas hx]
def J027(ha:Ou c a):mg c a (P7 c)=a:=by obtain⟨n,r,h,l⟩:=a;have h1:=ha.n64;have h2:=Jh8 ha.r λx hx=>(ha.r8 x hx).1;have h3:=Jh9 ha.h ha.h64;simp only at h1 h2 h3;unfold mg P7;simp only[Int.add_zero,Jas h1,h2,h3];rfl
def Jk8:∀{a b:JD}{i:Nat}{y:Int},a.length=b.length->i<b.length->maxL a (b.set i (max (b.getD i 0) y))=(maxL a b).set i (max ((maxL a b).getD i 0) y)
 |[],[],_,_,_,h=>by simp at h
 |p::a,q::b,0,y,_,_=>by simp[maxL,Int.max_assoc]
 |p::a,q::b,i+1,y,h,hi=>by have:=Jk8 (a:=a) (b:=b) (i:=i) (y:=y) (by simpa using h) (by simpa using hi);unfold maxL at this ⊢;simpa using this
def Jk9:∀{a b:JD}{i:Nat},a.length=b.length->i<b.length->Eo a (b.set i (wrap64 (b.getD i 0+1)))=(Eo a b).set i (wrap64 ((Eo a b).getD i 0+1))
 |[],[],_,_,h=>by simp at h
 |p::a,q::b,0,_,_=>by
  simp only[Eo,List.set_cons_zero,List.zipWith_cons_cons,List.getD_cons_zero,List.cons.injEq,and_true];unfold wrap64;omega
 |p::a,q::b,i+1,h,hi=>by have:=Jk9 (a:=a) (b:=b) (i:=i) (by simpa using h) (by simpa using hi);unfold Eo at this ⊢;simpa using this
def Jod{K:Int}{x:Int}{a b:JD}(ha:Ep a)(hb:Ep b)(ka:(a.length:Int)<=K)(kb:(b.length:Int)<=K):Gx K a (Iz K b x)=Iz K (Gx K a b) x:=by
 have h1:=ZR hb kb x;have h2:=ZV (b:=b) ha ka;rw[J7i ha h1.1 ka h1.2,Pn h1.1 h1.2,ZU hb kb,Yq,ZU h2.1 h2.2,Pn ha ka,J9d];congr 1
 grind[nK,Ry,aC,U7,VU]
def J028(hc:CZ c)(CQ:bs.length=c.nb)(IV:bs.Pairwise (· < ·))(ha:Ou c a)(hb:Ou c b){x:Int}(hx:0<=x/\x<=18446744073709551615)(v:Int):mg c a (P6 c bs b x v)=P6 c bs (mg c a b) x v:=by
 unfold mg P6;simp only;have e1:wrap64 (a.n+wrap64 (b.n+1))=wrap64 (wrap64 (a.n+b.n)+1):=by unfold wrap64;omega
 have hi:IB c.bits x<b.r.length:=by rw[hb.r];exact Jll ⟨hc.b1,hc.b2⟩ hx
 have e2:maxL a.r (Om c.bits b.r x)=Om c.bits (maxL a.r b.r) x:=Jk8 (by rw[ha.r,hb.r]) hi;have hj:Jv bs v<b.h.length:=by rw[hb.h,<- CQ];exact Jch IV v
 have e3:Eo a.h (NH bs b.h v)=NH bs (Eo a.h b.h) v:=Jk9 (by rw[ha.h,hb.h]) hj;rw[e1,e2,e3,Jod ha.l hb.l ha.lK hb.lK]
def Jyv(hc:CZ c)(CQ:bs.length=c.nb)(IV:bs.Pairwise (· < ·))(hA:Pq A)(hB:Pq B):mg c (Df c bs A) (Df c bs B)=Df c bs (A++B):=by
 induction B using RD with
 |nil=>
  rw[List.append_nil];exact J027 (nY hc CQ hA).1
 |append_singleton B f ih=>
  have Gq:Pq B:=λg hg=>hB g (by simp[hg]);rw[Rx,J028 hc CQ IV (nY hc CQ hA).1 (nY hc CQ Gq).1 (hB f (by simp)),ih Gq,<- List.append_assoc,Rx]
def Jyw(hc:CZ c)(CQ:bs.length=c.nb)(IV:bs.Pairwise (· < ·))(hA:Pq A)(hB:Pq B)(h:B≠[]):om c (FP c bs A) (Df c bs B)=FP c bs (A++B):=by
 unfold FP om;by_cases e:A=[]
 all_goals simp_all[if_neg,Jyv]
def Jha(hc:CZ c)(CQ:bs.length=c.nb)(IV:bs.Pairwise (· < ·)):∀{Ls:List (List (Int × Int))},(∀A∈Ls,Pq A/\A≠[])->Gh c (Ls.map (Df c bs))=FP c bs Ls.flatten:=by
 intro Ls
 induction Ls using RD with
 |nil=>intro _;rfl
 |append_singleton Ls A ih=>
  intro h;have h1:=ih λB hB=>h B (by simp[hB]);have h2:=h A (by simp);rw[List.map_append,List.map_singleton,Jgq,h1,List.flatten_append,List.flatten_singleton];refine Jyw hc CQ IV (λf hf=>?_) h2.1 h2.2;obtain⟨B,hB,hf⟩:=List.mem_flatten.1 hf;exact(h B (by simp[hB])).1 f hf
def Jrr(hc:CZ c)(CQ:bs.length=c.nb)(IV:bs.Pairwise (· < ·))(hA:Pq A)(hp:A.Perm B):FP c bs A=FP c bs B:=by
 have key:∀{A:List (Int × Int)},Pq A->Gh c (A.map λf=>Df c bs [f])=FP c bs A:=λ{A} hA=>by
  have:=Jha (c:=c) (bs:=bs) hc CQ IV (Ls:=A.map λf=>[f]) λB hB=>by obtain⟨f,hf,rfl⟩:=AZ.1 hB;exact⟨λg hg=>by rw[List.mem_singleton.1 hg];exact hA f hf,by simp⟩
  rw[List.map_map]at this;have e:(A.map λf=>[f]).flatten=A:=by
   clear this hp hA
   induction A with
   |nil=>rfl
   |cons f A ih=>simp[ih]
  rw[e]at this;exact this
 have hB:Pq B:=λf hf=>hA f (hp.mem_iff.2 hf);rw[<- key hA,<- key hB];refine Jgm (hp.map _) λb hb=>?_;obtain⟨f,hf,rfl⟩:=AZ.1 hb;exact(nY hc CQ (A:=[f]) λg hg=>by rw[List.mem_singleton.1 hg];exact hA f hf).2 (by simp)
theorem J029(hA:(A.length:Int)<=9223372036854775807):(Df c bs A).n=A.length:=by
 induction A using RD with
 |nil=>rfl
 |append_singleton A f ih=>
  rw[List.length_append,List.length_singleton]at hA ⊢;rw[Rx];show wrap64 ((Df c bs A).n+1)=_;rw[ih (by omega)];unfold wrap64;omega
end
def sel(hs:Int->Int)(m:Nat)(k:JD)(fs:List Jd):List (Int × Int):=(fs.filter λf=>decide (Jf m (BI f.k) 5=k)).map λf=>(hs f.it,f.v)
section
variable{c:J7}{bs:JD}{hs:Int->Int}{fs:List Jd}
def Jrs(hh:∀y,0<=hs y/\hs y<=18446744073709551615)(m:Nat)(k:JD):Pq (sel hs m k fs):=λf hf=>by obtain⟨g,_,rfl⟩:=AZ.1 hf;exact hh _
def Jv0(m:Nat)(k:JD)(f:Jd):sel hs m k (fs++[f])=sel hs m k fs++if Jf m (BI f.k) 5=k then[(hs f.it,f.v)]else[]:=by
 unfold sel
 grind
def Jrt{g0:List Jd}(m:Nat){g:JD->Option Bun}(hg:∀k,g k=FP c bs (sel hs m k g0)):∀k,MS c bs hs m g fs k=FP c bs (sel hs m k (g0++fs)):=by
 induction fs using RD with
 |nil=>intro k;rw[List.append_nil];exact hg k
 |append_singleton fs f ih=>
  intro k;rw[Je4,<- List.append_assoc,Jv0];unfold Sr;by_cases e:Jf m (BI f.k) 5=k
  .rw[if_pos e.symm,if_pos e,ih k];unfold FP;rw[if_neg (c:=sel hs m k (g0++fs)++_=[]) (by simp),Rx];by_cases e2:sel hs m k (g0++fs)=[]
   .rw[if_pos e2,e2];rfl
   grind
  grind
def J02a{ks:JD}(h:ks.length=3):Jf 7 (BI ks) 5=BI ks:=by
 match ks,h with
 |[a,b,d],_=>
  have t0:Nat.testBit 7 0=true:=by decide
  have t1:Nat.testBit 7 1=true:=by decide
  have t2:Nat.testBit 7 2=true:=by decide
  simp[Jf,BI,List.zipIdx_cons,List.replicate,t0,t1,t2]
def J87{α:Type}(p q:α->Bool):∀l:List α,(∀x∈l,¬(p x=true/\q x=true))->(l.filter p++l.filter q).Perm (l.filter λx=>p x || q x)
 |[],_=>.refl _
 |x::l,h=>by
  have ih:=J87 p q l λy hy=>h y (by simp[hy]);have hx:=h x (by simp);cases hp:p x<;>cases hq:q x
  .grind
  .simp only[List.filter_cons,hp,hq,DY,if_false,if_true,Bool.or_true];exact List.perm_middle.trans (ih.cons x)
  all_goals simp_all
def Jhb{fs:List Jd}{key:Jd->JD}{P:JD->Bool}:∀{Ks:List (JD)},Ks.Nodup->((Ks.filter P).flatMap λκ=>fs.filter λf=>decide (key f=κ)).Perm (fs.filter λf=>decide (key f∈Ks) && P (key f))
 |[],_=>by simp
 |κ::Ks,hn=>by
  obtain⟨h1,h2⟩:=List.nodup_cons.1 hn;have ih:=Jhb (fs:=fs) (key:=key) (P:=P) h2;have e:fs.filter (λf=>decide (key f∈κ::Ks) && P (key f))=fs.filter λf=>(decide (key f=κ) && P κ) || (decide (key f∈Ks) && P (key f)):=by
   grind
  rw[e];refine List.Perm.trans ?_ (J87 _ _ fs λf _ ⟨a,b⟩=>?_)
  .cases hP:P κ
   .simp only[List.filter_cons,hP,DY,if_false,Bool.and_false];rw[show fs.filter (λ_=>false)=[]from List.filter_eq_nil_iff.2 λ_ _=>by simp,Gm];exact ih
   .simp only[List.filter_cons,hP,if_true,Bool.and_true,List.flatMap_cons];exact ih.append_left _
  grind
def J0aq(hc:CZ c)(CQ:bs.length=c.nb)(IV:bs.Pairwise (· < ·))(hh:∀y,0<=hs y/\hs y<=18446744073709551615){S T:List TR}{v m:Nat}{pass:JD->Bool}(hn:(S.map (·.k)).Nodup)(hS:∀k,tm S k=FP c bs (sel hs v k fs))
  (yH:∀f∈fs,Jf m (Jf v (BI f.k) 5) 5=Jf m (BI f.k) 5/\pass (Jf v (BI f.k) 5)=pass (BI f.k)) (h:Sum c (tm T) (Gg S m pass)):∀k,tm T k=FP c bs (sel hs m k (fs.filter λf=>pass (BI f.k))):=by
 intro k;rw[h k];have e1:((Gg S m pass).filter λe=>decide (e.1=k)).map (·.2)=((S.filter λt=>pass t.k && decide (Jf m t.k 5=k)).map (λt=>sel hs v t.k fs)).map (Df c bs):=by
  unfold Gg;have hB:∀t∈S,t.B=Df c bs (sel hs v t.k fs):=λt ht=>by
   have h1:=hS t.k;rw[TJ hn ht]at h1;unfold FP at h1
   grind
  clear h hS hn
  induction S with
  |nil=>rfl
  |cons t S ih=>
   grind
 rw[e1,Jha hc CQ IV λA hA=>?_]
 .refine Jrr hc CQ IV (λf hf=>?_) ?_
  .obtain⟨A,hA,hf⟩:=List.mem_flatten.1 hf;obtain⟨t,_,rfl⟩:=AZ.1 hA;exact Jrs hh _ _ f hf
  .have p:=Jhb (fs:=fs) (key:=λf=>Jf v (BI f.k) 5) (P:=λκ=>pass κ && decide (Jf m κ 5=k)) hn;have p2:=p.map λf=>(hs f.it,f.v);have e2:(fs.filter λf=>decide (Jf v (BI f.k) 5∈S.map (·.k)) && (pass (Jf v (BI f.k) 5) && decide (Jf m (Jf v (BI f.k) 5) 5=k)))=(fs.filter λf=>pass (BI f.k)).filter λf=>decide (Jf m (BI f.k) 5=k):=by
    rw[List.filter_filter];refine List.filter_congr λf hf=>?_;obtain⟨h1,h2⟩:=yH f hf;rw[h1,h2];have hm:Jf v (BI f.k) 5∈S.map (·.k):=by
     have h1:=hS (Jf v (BI f.k) 5);have Ap:sel hs v (Jf v (BI f.k) 5) fs≠[]:=by
      unfold sel;intro e;simp only[List.map_eq_nil_iff,List.filter_eq_nil_iff,decide_eq_true_eq]at e
      grind
     unfold FP at h1;rw[if_neg Ap]at h1;obtain⟨t,T1,T2,rfl,ht,_⟩:=Qk h1
     grind
    grind
   have e3:(((S.filter λt=>pass t.k && decide (Jf m t.k 5=k)).map λt=>sel hs v t.k fs).flatten)=((((S.map (·.k)).filter λκ=>pass κ && decide (Jf m κ 5=k)).flatMap λκ=>fs.filter λf=>decide (Jf v (BI f.k) 5=κ)).map λf=>(hs f.it,f.v)):=by
    clear p p2 e1 e2 h hS hn
    induction S with
    |nil=>rfl
    |cons t S ih=>
     simp only[List.filter_cons,D5];by_cases e:(pass t.k && decide (Jf m t.k 5=k))=true
     .simp only[e,if_true,D5,List.flatten_cons,List.flatMap_cons,List.map_append,ih];rfl
     grind
   rw[e3];rw[e2]at p2;exact p2
 .obtain⟨t,ht,rfl⟩:=AZ.1 hA;have ht:=(Hq.1 ht).1;refine⟨Jrs hh _ _,λe=>?_⟩;have h1:=hS t.k;rw[TJ hn ht]at h1;unfold FP at h1
  grind
end
def Jed{P:Program}{fn:JG}{f:Func}{t:JC}{todo:List Item}{x:Tmp}{w:JE}(hf:P.funcs[fn]?=some f)(hr:f.results=#[.tmp x])(hi:P.inits.idxOf? fn=none) :
  stepG P true (G { (Go.Conc.base fn).at ⟨t,[]⟩ todo with mode:=.returning } []) w=.ended (.done (t.getD x JA)) w #[]:=by
 have h1:=results_tmp hr t P w;have h2:=events_results_tmp (P:=P) (w:=w) hr t #[];simp only[G,stepG,unwind,Frame.at,Go.Conc.base,hf,Sem.runT_eq,h1,h2,doReturn,hi,GStep.after];simp[seen_none]
def TU(c:Int)(n:Nat):J7:=⟨4+Jr c 1048576 % 3,1+Jr c 1048576 / 3 % 8,some ⟨n,0,none⟩,4,4⟩
def Yz(c:Int)(n:Nat):CZ (TU c n):=by have:=Yr (c:=c) (n:=1048576) (by omega);refine⟨?_,?_,?_,?_,?_⟩<;>simp only[TU]<;>omega
def aK:Dc.Pairwise (· < ·):=by decide
section
variable{W E:JB}{w w' w2:JE}{ga la:JI}{fs:List Jd}{rs:List Gi}{cap:Nat}{pl:List Nat}
def Jv1{w:JE}{a:Addr}{v:JJ}(h:w.cell? a=some v):∃o,w.heap[a.block]?=some o/\Dat o:=by
 unfold World.cell? at h;cases ho:w.heap[a.block]? with
 |none=>grind
 |some o=>
  rw[ho]at h;cases o with
  |cells c el fz=>exact⟨_,rfl,trivial⟩
  |_=>cases h
def G8.ke(hW:WR C0 (okP C0 S0) (idE E) w w2)(hg:∀a,ga=some a->E a.block)(k:KE E w w')(h:G8 false w ga fs cap pl):∃yU,(∀y∈yU,y∈pl/\E y/\∃o,w'.heap[y]?=some o/\Dat o)/\G8 false w' ga fs cap yU:=by
 classical
 refine⟨pl.filter λb=>decide (E b/\∃o,w.heap[b]?=some o/\Dat o),λy hy=>?_,λy hy=>?_,λi f hf=>?_,h.cap⟩
 .obtain⟨h1,h2⟩:=Hq.1 hy;obtain⟨h3,o,h4,h5⟩:=of_decide_eq_true h2;exact⟨h1,h3,o,k _ _ h3 h4 h5,h5⟩
 .obtain⟨h1,h2⟩:=Hq.1 hy;obtain⟨h3,o,h4,h5⟩:=of_decide_eq_true h2;exact Jj (k _ _ h3 h4 h5)
 .obtain⟨g,kb,kc,h1,h2,h3,h4⟩:=h.at_ i f hf;have eg:E g:=hg _ h1;have ek:E kb:=(hW.Y4 eg h4.ck).MQ;obtain⟨cur,hb,LK⟩:=h4.row;obtain⟨z,hz,DR⟩:=id hb;refine⟨g,kb,kc,h1,Hq.2 ⟨h2,decide_eq_true ⟨eg,Jv1 h4.ck⟩⟩,Hq.2 ⟨h3,decide_eq_true ⟨ek,_,hz,trivial⟩⟩,k.cell eg h4.ck,k.cell eg h4.ci,k.cell eg h4.cv,cur,k.blk ek hb,LK⟩
def Row.keE{b:Nat}{t:JH}{q:IntKind}{xs:JD}(h:Row false w b t q xs cap)(k:KE E w w')(hb:E b):Row false w' b t q xs cap:=by obtain⟨cur,h1,h2⟩:=h;exact⟨cur,k.blk hb h1,h2⟩
def Cm.of_empty{b:Nat}(h:w.heap[b]?=some (.map #[] 0)):Cm w b []:=by
 obtain⟨es,clock,h2,h3,h4,h5⟩:=World.ownsMap_made w prog 104 (H:=JJ) Rv;rw[show(w.alloc (.map #[] 0)).heap[w.heap.size]?=some (.map #[] 0)from Ja _]at h2;cases h2;exact⟨λp hp=>by simp at hp,by simp,[],.refl _,0,#[],0,h,h3,h4,h5⟩
def TabAt.of_empty{c:J7}{b:Nat}(h:w.heap[b]?=some (.map #[] 0)):TabAt false w c b []:=
 ⟨Cm.of_empty h,λt ht=>(by cases ht),λt ht=>(by cases ht),(by simp[tpl]),.nil⟩
end
def J02b{c:J7}{bs:JD}{A:List (Int × Int)}(hA:(A.length:Int)<=9223372036854775807):∀x∈(Df c bs A).h,0<=x/\x<=A.length:=by
 induction A using RD with
 |nil=>
  intro x hx;obtain rfl:=List.eq_of_mem_replicate (show x∈List.replicate (c.nb+1) 0 from hx)
  grind
 |append_singleton A f ih=>
  rw[List.length_append,List.length_singleton]at hA ⊢;have ih:=ih (by omega);rw[Rx];intro x hx;rcases mem_set (show x∈(Df c bs A).h.set _ _ from hx)with rfl|hx
  .have hg:0<=(Df c bs A).h.getD (Jv bs f.2) 0/\(Df c bs A).h.getD (Jv bs f.2) 0<=A.length:=by
    rw[C9];cases he:(Df c bs A).h[Jv bs f.2]? with
    |none=>simp
    |some z=>exact ih z (NR he)
   unfold wrap64;omega
  grind
def Jof(hs:Int->Int)(m:Nat)(k:JD)(fs:List Jd):(sel hs m k fs).length<=fs.length:=by
 unfold sel
 grind
section
variable{c:J7}{bs:JD}{hs:Int->Int}{fs:List Jd}{T:List TR}{m:Nat}
def nZ(hn:(T.map (·.k)).Nodup)(hT:∀k,tm T k=FP c bs (sel hs m k fs)){t:TR}(ht:t∈T):t.B=Df c bs (sel hs m t.k fs)/\∃f∈fs,Jf m (BI f.k) 5=t.k:=by
 have h1:=hT t.k;rw[TJ hn ht]at h1;unfold FP at h1;split at h1
 .cases h1
 .rename_i Ap;refine⟨Aa h1,?_⟩;cases D9:sel hs m t.k fs with
  |nil=>grind
  |cons x l=>
   have hx:x∈sel hs m t.k fs:=by grind
   obtain⟨f,hf,_⟩:=AZ.1 hx
   grind
def Jyy(hT:∀k,tm T k=FP c bs (sel hs m k fs)){f:Jd}(hf:f∈fs):∃t∈T,t.k=Jf m (BI f.k) 5:=by
 have h1:=hT (Jf m (BI f.k) 5);have Ap:sel hs m (Jf m (BI f.k) 5) fs≠[]:=by
  unfold sel;intro e;have:=List.map_eq_nil_iff.1 e;have IL:f∈fs.filter λg=>decide (Jf m (BI g.k) 5=Jf m (BI f.k) 5):=Hq.2 ⟨hf,by simp⟩
  grind
 unfold FP at h1;rw[if_neg Ap]at h1;obtain⟨t,T1,T2,rfl,ht,_⟩:=Qk h1
 grind
theorem Jru{k:JD}(h:k.length=5):Jf 0 k 5=[0,0,0,0,0]:=by obtain⟨a,b,d,e,f,rfl⟩:=Yx h;simp[Jf,List.zipIdx_cons]
def Jzr(h3:∀f∈fs,f.k.length=3):sel hs 0 [0,0,0,0,0] fs=fs.map λf=>(hs f.it,f.v):=by unfold sel;rw[List.filter_eq_self.2 λf hf=>?_];rw[Jru (Jrv (h3 f hf))];simp
where Jrv {ks:JD} (h:ks.length=3):(BI ks).length=5:=mW (by omega)
end
def U64:List (JD):=(List.range 64).map λi=>[((i / 16:Nat):Int),((i / 4 % 4:Nat):Int),((i % 4:Nat):Int),0,0]
def Jyz(r:Gi):BI r.fact.k∈U64:=by
 have p:∀c,0<=Jr c 4/\Jr c 4<4:=λc=>by simp_all[Yr]
 have ha:=p r.a;have hb:=p r.b;have hc:=p r.c;refine AZ.2 ⟨((Jr r.a 4)*16+(Jr r.b 4)*4+Jr r.c 4).toNat,List.mem_range.2 (by omega),?_⟩;simp only[Gi.fact,BI,Lh,List.length_nil,G9,Gm,List.cons.injEq]
 grind
def Jz0:U64.length=64:=by simp[U64]
def J02d(y:Int):0<=IntKind.u64.wrap y/\IntKind.u64.wrap y<=18446744073709551615:=by
 have e:IntKind.u64.wrap y=y % 18446744073709551616:=by simp[IntKind.wrap,IntKind.signed,IntKind.bits]
 omega
structure HS(fn:JG)(W E0:JB)(w0:JE)(E:JB)(T:JC)(w:JE):Prop where
 bok:BOk C0 S0 W E w
 le:∀b,E0 b->E b
 ke:KE E0 w0 w
 kw:∀b,W b->w.heap[b]?=w0.heap[b]?
 tm:TmR C0 S0 fn (idE E) T T
 own:S0.own fn=[]
 sz:w0.heap.size<=w.heap.size
section
variable{fn:JG}{W E0 E:JB}{w0 w:JE}{T:JC}{ops:Array Oper}{i:Nat}{rest:List Nat}{o:Oper}{s:Nat}{v:JJ}{k:List Item}{cs:List Frame}{Post:(JB)->JF->JE->Prop}
theorem HS.at(h:HS fn W E0 w0 E T w)(d:Nat):HS fn W E0 w0 E T (w.at d):=⟨h.bok.at d,h.le,h.ke.trans (.of_eq λ_ _=>rfl),h.kw,h.tm,h.own,h.sz⟩
def HS.own'(h:HS fn W E0 w0 E T w)(s:Nat):(S0.own fn).contains s=false:=by rw[h.own];rfl
def HS.set(h:HS fn W E0 w0 E T w)(hv:(C0.hl fn).contains s=true\/VR C0 (idE E) v v):TmR C0 S0 fn (idE E) (T.setIfInBounds s v) (T.setIfInBounds s v):=by
 rcases hv with hv|hv
 .exact h.tm.hole hv (h.own' s) v
 .exact h.tm.set s hv λe=>by rw[h.own' s]at e;cases e
def HS.to{E':JB}{w':JE}(h:HS fn W E0 w0 E T w)(hB:BOk C0 S0 W E' w')(hs:∀b,E b->E' b)(he:KE E w w')(hw:∀b,W b->w'.heap[b]?=w.heap[b]?)(hz:w.heap.size<=w'.heap.size):HS fn W E0 w0 E' T w':=
 ⟨hB,λb hb=>hs b (h.le b hb),h.ke.trans (he.mono h.le),λb hb=>(hw b hb).trans (h.kw b hb),h.tm.mono (Oj hs),h.own,BN h.sz hz⟩
def HS.put(h:HS fn W E0 w0 E T w){T':JC}(ht:TmR C0 S0 fn (idE E) T' T'):HS fn W E0 w0 E T' w:=⟨h.bok,h.le,h.ke,h.kw,ht,h.own,h.sz⟩
def HS.start(h:HS fn W E0 w0 E T w):HS fn W E w E T w:=⟨h.bok,λ_ h=>h,.refl,λ_ _=>rfl,h.tm,h.own,Ad _⟩
def HS.comp{E':JB}{T':JC}{w':JE}(h:HS fn W E0 w0 E T w)(k:HS fn W E w E' T' w'):HS fn W E0 w0 E' T' w':=⟨k.bok,λb hb=>k.le b (h.le b hb),h.ke.trans (k.ke.mono h.le),λb hb=>(k.kw b hb).trans (h.kw b hb),k.tm,k.own,BN h.sz k.sz⟩
def Jb(h:HS fn W E0 w0 E T w)(ho:ops[i]?=some o)(hw:Region.wanted o (yielded ops T)=true)(hd:o.dst=some s)(hr:∀w1,(execOp (Act.eval ⟨T,[]⟩) o).run prog w1=.ok (.value v) w1)(he:∀w1,(execOp (Act.eval ⟨T,[]⟩) o).events prog w1 #[]=#[])
  (hv:(C0.hl fn).contains s=true\/VR C0 (idE E) v v) (kn:∀w',HS fn W E0 w0 E (T.setIfInBounds s v) w'->w'.heap=w.heap->Reach prog Post W (G ((base fn).at ⟨T.setIfInBounds s v,[]⟩ (.inRegion ops rest::k)) cs) w') :
  Reach prog Post W (G ((base fn).at ⟨T,[]⟩ (.inRegion ops (i::rest)::k)) cs) w:=by
 refine J6 (λw1=>UN (v:=v) ho hw (by simp[base]) (hr w1) (he w1)) rfl λd=>?_;rw[hd];exact kn _ ((h.put (h.set hv)).at d) rfl
def Jm6(h:HS fn W E0 w0 E T w)(ho:ops[i]?=some o)(hw:Region.wanted o (yielded ops T)=false)(hd:o.dst=some s)
  (kn:∀w',HS fn W E0 w0 E (T.setIfInBounds s JA) w'->w'.heap=w.heap->Reach prog Post W (G ((base fn).at ⟨T.setIfInBounds s JA,[]⟩ (.inRegion ops rest::k)) cs) w') :
  Reach prog Post W (G ((base fn).at ⟨T,[]⟩ (.inRegion ops (i::rest)::k)) cs) w:=by
 refine J6 (λw1=>stepG_unwanted ho hw) rfl λd=>?_;rw[hd];exact kn _ ((h.put (h.set (.inr .undef))).at d) rfl
def aW(h:HS fn W E0 w0 E T w){a:Addr}(hW:W a.block)(hT:∀c z,w.heap[a.block]?≠some (.cells c wgT z))(hc:w.cell? a=some v)(ho:ops[i]?=some o)(hw:Region.wanted o (yielded ops T)=true)(hd:o.dst=some s)
  (hr:∀w1,w1.cell? a=some v->(execOp (Act.eval ⟨T,[]⟩) o).run prog w1=.ok (.value v) w1) (he:∀w1,w1.cell? a=some v->(execOp (Act.eval ⟨T,[]⟩) o).events prog w1 #[]=#[⟨.cell a,false,false⟩])
  (hv:(C0.hl fn).contains s=true\/VR C0 (idE E) v v) (kn:∀w',HS fn W E0 w0 E (T.setIfInBounds s v) w'->(∀b,E b\/W b->w'.heap[b]?=w.heap[b]?)->w'.heap.size=w.heap.size->Reach prog Post W (G ((base fn).at ⟨T.setIfInBounds s v,[]⟩ (.inRegion ops rest::k)) cs) w') :
  Reach prog Post W (G ((base fn).at ⟨T,[]⟩ (.inRegion ops (i::rest)::k)) cs) w:=by
 have hB:=h.bok;have Ac:a.block<w.heap.size:=by
  unfold World.cell? at hc
  grind
 have hR:Runs false prog true (λy=>y.g=G ((base fn).at ⟨T.setIfInBounds s v,[]⟩ (.inRegion ops rest::k)) cs/\(∀b,E b->y.w.heap[b]?=w.heap[b]?)/\y.w.heap.size=w.heap.size/\y.w.os=w.os) ⟨E,λb=>E b\/b=a.block,G ((base fn).at ⟨T,[]⟩ (.inRegion ops (i::rest)::k)) cs,w⟩:=by
  refine .step (λw1=>⟨grown E w1 w1,grown (λb=>E b\/b=a.block) w1 w1,G ((base fn).at ⟨T.setIfInBounds s v,[]⟩ (.inRegion ops rest::k)) cs,w1⟩) (λw1 r=>⟨?_,rfl,rfl,rfl,rfl,rfl⟩) λw1 r=>.stop λw2 r2=>⟨rfl,λb hb=>?_,?_,?_⟩
  .have DF:w1.cell? a=some v:=(Du (r.blocks a.block (.inr rfl))).trans hc;refine⟨listed prog (base fn).fn ⟨T,[]⟩ o w1,?_,⟨Ad _,λ_ _ _=>rfl,rfl,rfl,Ad _,λe Fq=>?_⟩⟩
   .rw[stepG_value ho hw (by simp[base]) (hr w1 DF),hd];rfl
   .have h1:=mem_seen Fq;rw[he w1 DF]at h1;simp only[List.mem_toArray,AL,BU,or_false]at h1;subst h1;exact⟨⟨.inl (.inr rfl),λh=>by cases h⟩,rfl⟩
  .exact(r2.blocks b (.inl (.inl hb))).trans (r.blocks b (.inl hb))
  .exact(r2.same rfl).trans (r.same rfl)
  .exact r2.os.trans r.os
 refine Reach.Jjp (Z:=λ_=>False) hR rfl (λb c z hb ht hx=>?_) hB.dis (λb hb=>hb.elim) (λb hb=>hb.elim (λhb=>hB.lt hb) λe=>e▸Ac) ?_
 .rcases hx with hx|rfl
  .exact hB.dis b hb hx
  grind
 rintro⟨own,X,g,wy⟩ ⟨rfl,h1,h2,h3⟩ _ _ _ hK;simp only at h1 h2 h3;have Gq:BOk C0 S0 W E wy:=hB.rely rfl ⟨h1,Nat.le_of_eq h2.symm,λ_=>h2,h3⟩;exact kn wy ((h.put (h.set hv)).to Gq (λ_ h=>h) (.of_eq h1) hK.keep (Nat.le_of_eq h2.symm)) (λb hb=>hb.elim (h1 b) (hK.keep b)) h2
def Jkd(h:HS fn W E0 w0 E T w){arr:JC}{ty:JH}(ho:ops[i]?=some o)(hw:Region.wanted o (yielded ops T)=true)(hd:o.dst=some s)
  (hr:∀w1,w1.heap.size=w.heap.size->(execOp (Act.eval ⟨T,[]⟩) o).run prog w1=.ok (.value v) (w1.alloc (.cells arr ty))) (he:∀w1,(execOp (Act.eval ⟨T,[]⟩) o).events prog w1 #[]=#[])
  (ha:∀x∈arr.toList,VR C0 (idE E) x x) (hv:(C0.hl fn).contains s=true\/VR C0 (idE λb=>E b\/b=w.heap.size) v v)
  (kn:∀w',HS fn W E0 w0 (λb=>E b\/b=w.heap.size) (T.setIfInBounds s v) w'->(∀b,E b\/W b->w'.heap[b]?=w.heap[b]?)->w'.heap[w.heap.size]?=some (.cells arr ty)->w'.heap.size=w.heap.size+1->Reach prog Post W (G ((base fn).at ⟨T.setIfInBounds s v,[]⟩ (.inRegion ops rest::k)) cs) w') :
  Reach prog Post W (G ((base fn).at ⟨T,[]⟩ (.inRegion ops (i::rest)::k)) cs) w:=by
 refine Reach.mid (Mid:=λg' w'=>g'=G ((base fn).at ⟨T.setIfInBounds s v,[]⟩ (.inRegion ops rest::k)) cs/\BOk C0 S0 W (λb=>E b\/b=w.heap.size) w'/\w'.heap.size=w.heap.size+1/\(∀b,E b->w'.heap[b]?=w.heap[b]?)/\w'.heap[w.heap.size]?=some (.cells arr ty)) ?_ λg' w' ⟨e,h1,h2,h3,h4⟩ hK=>?_
 .refine Reach.alloc (C:=C0) (S:=S0) (g':=G ((base fn).at ⟨T.setIfInBounds s v,[]⟩ (.inRegion ops rest::k)) cs) (o:=.cells arr ty) rfl h.bok rfl rfl rfl rfl ⟨_,_,rfl,.VZ (λx hx=>(ha x hx).mono (Oj λb hb=>.inl hb)),λh=>(C0.lax rfl _ h).elim,λ_=>⟨rfl,λ_=>rfl⟩⟩ (λw1 BQ=>?_) λw' h1 h2 h3 h4=>Reach.here ⟨rfl,rfl,h1,h2,h3,h4⟩;show stepG prog true _ w1=_;rw[stepG_value ho hw (by simp[base]) (hr w1 BQ),hd];unfold listed;rw[he w1,seen_none];rfl
 .subst e;have h5:HS fn W E0 w0 (λb=>E b\/b=w.heap.size) T w':=h.to h1 (λb hb=>.inl hb) (.of_eq h3) hK (by omega);exact kn w' (h5.put (h5.set hv)) (λb hb=>hb.elim (h3 b) (hK b)) h4 h2
def pG(h:HS fn W E0 w0 E T w){pre:List Nat}{Q:JC->JE->Prop}(hX:IC C0 S0 fn ops pre=true)(LK:rest≠[])(hb:GY C0 fn)(Nk:S0.df.contains fn=false)(hl:C0.hl fn≠[])
  (K:∀τ,wpOps prog ops (λe a w1=>e=.normal/\a.defers=[Jq]/\(∀i,(C0.hl fn).contains i=true->i<T.size->a.tmps[i]?=T[i]?)/\Q a.tmps w1) pre ⟨T,[Jq]⟩ (w.tp τ 0))
  (kn:∀E' T' w1 w',(∀b,E b->E' b)->BOk C0 S0 W E' w'->WR C0 (okP C0 S0) (idE E') w1 w'->TmR C0 S0 fn (idE E') T' T'->Q T' w1->(∀b,W b->w'.heap[b]?=w.heap[b]?)->Reach prog Post W (G ((base fn).at ⟨T',[]⟩ (.inRegion ops rest::k)) cs) w') :
  Reach prog Post W (G ((base fn).at ⟨T,[]⟩ (.inRegion ops (pre++rest)::k)) cs) w:=by
 refine Reach.mid (Mid:=λg' w'=>∃E' T' w1,g'=G ((base fn).at ⟨T',[]⟩ (.inRegion ops rest::k)) cs/\(∀b,E b->E' b)/\BOk C0 S0 W E' w'/\WR C0 (okP C0 S0) (idE E') w1 w'/\TmR C0 S0 fn (idE E') T' T'/\Q T' w1) ?_ λg' w' ⟨E',T',w1,e,h1,h2,h3,h4,h5⟩ hK=>?_
 .exact Reach.toOps (b:=base fn) KY rfl hX LK hb Nk hl (by simp[base]) h.bok h.tm K λE' T' w1 w' h1 h2 h3 h4 h5=>Reach.here ⟨rfl,E',T',w1,rfl,h1,h2,h3,h4,h5⟩
 grind
end
def rgO(n:Nat):Code->Array Oper
 |.region i o _=>if i=n then o else #[]
 |.seq a b=>rgO n a++rgO n b
 |.cond _ a b=>rgO n a++rgO n b
 |.block _ a=>rgO n a
 |.loop a=>rgO n a
 |_=>#[]
def qF (n k:Nat):Oper:=((rgO n (f13.body.getD .skip))[k]?).getD ⟨none,.move (.tmp 0),0,"",#[],none⟩
def oF(j:Nat):Nat->Oper
 |0=>{ qF (5+j) 0 with dst:=some (18+6*j),op:=.move (.tmp 0),guard:=none }
 |1=>{ qF (5+j) 1 with dst:=some (19+6*j),op:=.move (.tmp 4),guard:=none }
 |2=>{ qF (5+j) 2 with dst:=some (20+6*j),op:=.indexAddr 27 (.tmp (18+6*j)) (.tmp (19+6*j)),guard:=none }
 |3=>{ qF (5+j) 3 with dst:=some (21+6*j),op:=.fieldAddr 83 (.tmp (20+6*j)) j,guard:=none }
 |4=>{ qF (5+j) 4 with dst:=some (22+6*j),op:=.load 3 (.tmp (21+6*j)),guard:=none }
 |5=>{ qF (5+j) 5 with dst:=some (23+6*j),op:=.call { callee:=.value (.func 18),args:=#[.tmp (22+6*j),.const (.int .i64 4)],argTypes:=#[3,3] },guard:=none }
 |_=>{ qF (5+j) 6 with dst:=some (5+j),op:=.assign (.tmp (23+6*j)),guard:=none }
def xF(j:Nat):Array Oper:=#[oF j 0,oF j 1,oF j 2,oF j 3,oF j 4,oF j 5,oF j 6]
def pI:Oper:={ qF 0 0 with dst:=some 2,op:=.assign (.const (.slice none 0 0)),guard:=none }
def Jzx:Array Oper:=#[pI]
def pK:Oper:={ qF 1 0 with dst:=some 3,op:=.assign (.const (.slice none 0 0)),guard:=none }
def J1x:Array Oper:=#[pK]
def pO:Oper:={ qF 2 0 with dst:=some 4,op:=.assign (.const (JK 0)),guard:=none }
def J3q:Array Oper:=#[pO]
def O1:Array Oper:=rgO 3 (f13.body.getD .skip)
def pR:Oper:={ qF 4 0 with dst:=some 16,op:=.move (.tmp 4),guard:=none }
def pU:Oper:={ qF 4 1 with dst:=some 17,op:=.binOp .add 3 (.tmp 16) (.const (JK 1)) 3,guard:=none }
def pV:Oper:={ qF 4 2 with dst:=some 4,op:=.assign (.tmp 17),guard:=none }
def dQ:Array Oper:=#[pR,pU,pV]
def qZ:Oper:={ qF 8 0 with dst:=some 36,op:=.move (.tmp 3),guard:=none }
def rC:Oper:={ qF 8 1 with dst:=some 37,op:=.move (.tmp 5),guard:=none }
def rD:Oper:={ qF 8 2 with dst:=some 38,op:=.move (.tmp 6),guard:=none }
def rE:Oper:={ qF 8 3 with dst:=some 39,op:=.move (.tmp 7),guard:=none }
def rG:Oper:={ qF 8 4 with dst:=some 40,op:=.buildSlice 24 3 #[(0,.tmp 37),(1,.tmp 38),(2,.tmp 39)],guard:=none }
def rH:Oper:={ qF 8 5 with dst:=some 41,op:=.move (.tmp 0),guard:=none }
def rJ:Oper:={ qF 8 6 with dst:=some 42,op:=.move (.tmp 4),guard:=none }
def rM:Oper:={ qF 8 7 with dst:=some 43,op:=.indexAddr 27 (.tmp 41) (.tmp 42),guard:=none }
def rO:Oper:={ qF 8 8 with dst:=some 44,op:=.fieldAddr 83 (.tmp 43) 3,guard:=none }
def bP:Oper:={ qF 8 9 with dst:=some 45,op:=.load 3 (.tmp 44),guard:=none }
def oC:Oper:={ qF 8 10 with dst:=some 46,op:=.move (.tmp 0),guard:=none }
def oD:Oper:={ qF 8 11 with dst:=some 47,op:=.move (.tmp 4),guard:=none }
def oG:Oper:={ qF 8 12 with dst:=some 48,op:=.indexAddr 27 (.tmp 46) (.tmp 47),guard:=none }
def oH:Oper:={ qF 8 13 with dst:=some 49,op:=.fieldAddr 83 (.tmp 48) 4,guard:=none }
def aX:Oper:={ qF 8 14 with dst:=some 50,op:=.load 3 (.tmp 49),guard:=none }
def oI:Oper:={ qF 8 15 with dst:=some 51,op:=.build 50 #[(0,.tmp 40),(1,.tmp 45),(2,.tmp 50)],guard:=none }
def aY:Oper:={ qF 8 16 with dst:=some 52,op:=.buildSlice 28 1 #[(0,.tmp 51)],guard:=none }
def Jz4:Oper:={ qF 8 17 with dst:=some 53,op:=.call { callee:=.builtin .append,args:=#[.tmp 36,.tmp 52],argTypes:=#[28,28] },guard:=none }
def oJ:Oper:={ qF 8 18 with dst:=some 3,op:=.assign (.tmp 53),guard:=none }
def MW:Array Oper:=#[qZ,rC,rD,rE,rG,rH,rJ,rM,rO,bP,oC,oD,oG,oH,aX,oI,aY,Jz4,oJ]
def rP:Oper:={ qF 9 0 with dst:=some 54,op:=.move (.tmp 3),guard:=none }
def rQ:Oper:={ qF 9 1 with dst:=some 2,op:=.assign (.tmp 54),guard:=none }
def Jwe:Array Oper:=#[rP,rQ]
def Ji8:Code:=.seq (.seq (.region 3 O1 false) (.cond (.tmp 15) .skip (.exit 0))) (.seq (.block 1 (.seq (.region 5 (xF 0) false) (.seq (.region 6 (xF 1) false) (.seq (.region 7 (xF 2) false) (.region 8 MW true))))) (.region 4 dQ false))
def b6:Code:=.seq (.region 0 Jzx false) (.seq (.region 1 J1x false) (.seq (.seq (.region 2 J3q false) (.block 0 (.loop Ji8))) (.seq (.region 9 Jwe false) .ret)))
def body6:f13.body=some b6:=by kernel_rfl
def uS:GY C0 13:=⟨f13,by kernel_rfl,by kernel_rfl,by kernel_rfl⟩
def rU:C0.hl 13≠[]:=by show[0,9,18,20,21,24,26,27,30,32,33,41,43,44,46,48,49,1000]≠[];simp
theorem hl6{i:Nat}(h:(C0.hl 13).contains i=true):i≠2/\i≠3/\i≠4/\i≠5/\i≠6/\i≠7/\i≠23/\i≠29/\i≠35/\i≠53:=by have h':i∈[0,9,18,20,21,24,26,27,30,32,33,41,43,44,46,48,49,1000]:=Lj.1 h;simp only[AL,BU,or_false]at h';omega
structure F6(la:JI)(n cap k:Nat)(v3:JJ)(T:JC):Prop where
 sz:T.size=55
 s0:T[0]?=some (.slice la n cap)
 s2:T[2]?=some (.slice none 0 0)
 s3:T[3]?=some v3
 s4:T[4]?=some (JK k)
def F6.set{la:JI}{n cap k:Nat}{v3:JJ}{T:JC}(h:F6 la n cap k v3 T){s:Nat}(hs:5<=s)(v:JJ):F6 la n cap k v3 (T.setIfInBounds s v):=by obtain⟨h1,h2,h3,h4,h5⟩:=h;refine⟨by grind,?_,?_,?_,?_⟩<;>rw[AV (by omega)]<;>assumption
section
variable{W E0 E:JB}{w0 w:JE}{T:JC}{la:JI}{n cap k b o:Nat}{v3:JJ}{x:Int}{kk:List Item}{cs:List Frame}{Post:(JB)->JF->JE->Prop}
def Joy{j:Nat}(hj:j<3)(H:HS 13 W E0 w0 E T w)(F:F6 la n cap k v3 T)(Qa:la=some ⟨b,o,none⟩)(hk:k<n)(hW:W b)(hT:∀c z,w.heap[b]?≠some (.cells c wgT z))(hc:w.cell? ⟨b,o+k*5+j,none⟩=some (JK x))(hx:I64 x)
  (kn:∀E' T' w',HS 13 W E0 w0 E' T' w'->F6 la n cap k v3 T'->T'[5+j]?=some (JK (Jr x 4))->(∀s,2<=s->s<8->s≠5+j->T'[s]?=T[s]?)->(∀b,E b->E' b)->Reach prog Post W (G ((base 13).at ⟨T',[]⟩ kk) cs) w') :
  Reach prog Post W (G ((base 13).at ⟨T,[]⟩ (.code (.region (5+j) (xF j) false)::kk)) cs) w:=by
 obtain⟨Dn,Fv,PW,QK⟩:((C0.hl 13).contains (18+6*j)=true/\(C0.hl 13).contains (20+6*j)=true/\(C0.hl 13).contains (21+6*j)=true)/\IC C0 S0 13 (xF j) [5]=true/\(∀i,(C0.hl 13).contains i=true->i≠23+6*j)/\True:=by
  refine⟨?_,?_,λi hi=>?_,trivial⟩
  .obtain rfl|rfl|rfl:j=0\/j=1\/j=2:=by omega
   all_goals exact⟨rfl,rfl,rfl⟩
  .obtain rfl|rfl|rfl:j=0\/j=1\/j=2:=by omega
   all_goals kernel_rfl
  grind[hl6]
 obtain e|e|e:j=0\/j=1\/j=2:=by omega
 all_goals
  subst Qa;have sz:=F.sz;have s0:=F.s0;have s4:=F.s4;have D6:(k:Int)<n:=by omega
  have ct:∀{d:Nat}{h:Array Obj}(z:JE),z.heap=w.heap->z.cell? ⟨b,o+k*5+j,none⟩=some (JK x):=λz hz=>(Du (by rw[hz])).trans hc;refine J6 (λw1=>stepG_region) rfl λd1=>?_;rw[show List.range (xF j).size=[0,1,2,3,4]++([5]++[6])from rfl];have H:=H.at d1;refine Jb (o:=(oF j 0)) (v:=.slice (some ⟨b,o,none⟩) n cap) H rfl rfl rfl (λw1=>by simp[execOp,go_sem,e,oF,s0];try rfl) (λw1=>by simp[execOp,go_sem,e,oF,s0];try rfl) (.inl Dn.1) λw1 H h1=>?_;refine Jb (o:=(oF j 1)) (v:=JK k) H rfl rfl rfl (λw1=>by simp[execOp,go_sem,e,oF,s4];try rfl) (λw1=>by simp[execOp,go_sem,e,oF,s4];try rfl) (.inr (.int _ _)) λw2 H h2=>?_;refine Jb (o:=(oF j 2)) (v:=pt b (o+k*5)) H rfl rfl rfl (λw1=>by simp[execOp,go_sem,e,oF,sz,D6];try rfl) (λw1=>by simp[execOp,go_sem,e,oF,sz,D6];try rfl) (.inl Dn.2.1) λw3 H h3=>?_;refine Jb (o:=(oF j 3)) (v:=pt b (o+k*5+j)) H rfl rfl rfl (λw1=>by simp[execOp,go_sem,e,oF,sz];try rfl) (λw1=>by simp[execOp,go_sem,e,oF,sz];try rfl) (.inl Dn.2.2) λw4 H h4=>?_;have e4:w4.heap=w.heap:=h4.trans (h3.trans (h2.trans h1));refine aW (o:=(oF j 4)) (v:=JK x) (a:=⟨b,o+k*5+j,none⟩) H hW (by grind) (ct (d:=0) (h:=#[]) w4 e4) rfl rfl rfl (λw1 DF=>by simp only[e,Nat.add_zero]at DF;simp[execOp,go_sem,e,oF,sz,DF];try rfl) (λw1 DF=>by simp only[e,Nat.add_zero]at DF;simp[execOp,go_sem,e,oF,sz,DF];try rfl) (.inr (.int _ _)) λw5 H h5 II=>?_;have pa:=Yo (n:=4) hx (by omega) (by omega);refine pG (pre:=[5]) (rest:=[6]) (Q:=λT2 w2=>T2=(((((T.setIfInBounds (18+6*j) (.slice (some ⟨b,o,none⟩) n cap)).setIfInBounds (19+6*j) (JK k)).setIfInBounds (20+6*j) (pt b (o+k*5))).setIfInBounds (21+6*j) (pt b (o+k*5+j))).setIfInBounds (22+6*j) (JK x)).setIfInBounds (23+6*j) (JK (Jr x 4))/\w2.heap=w5.heap) H Fv (by simp) uS rfl rU (λτ=>?_) λE6 T6 w6' w6 KT SB SH V8 ⟨q1,q2⟩ kZ=>?_
  .rw[wpOps_cons];refine Rz (o:=(oF j 5)) (w':=w5.tp τ 0) (i:=5) (f:=18) (args:=#[JK x,JK 4]) rfl rfl (by simp[execOp,go_sem,e,oF,sz];try rfl) (pa _) ?_;rintro e w2 ⟨rfl,rfl⟩;refine⟨_,rfl,?_⟩;simp only[wpOps,Act.put,oF];refine⟨trivial,trivial,λi hi Nq=>?_,trivial,rfl⟩
   grind
  subst q1;have H:=(H.to SB KT ((KE.of_eq (λb _=>by rw[q2])).trans ((Jt rfl SH).mono KT)) kZ (by rw[SH.lsz rfl,q2];grind)).put V8;refine Jb (o:=(oF j 6)) (v:=JK (Jr x 4)) H rfl rfl rfl (λw1=>by simp[execOp,go_sem,e,oF,sz];try rfl) (λw1=>by simp[execOp,go_sem,e,oF,sz];try rfl) (.inr (.int _ _)) λw7 H h7=>?_;refine J6 (λw1=>stepG_region_end) rfl λd2=>?_;refine kn _ _ _ (H.at d2) (((((((F.set (by omega) _).set (by omega) _).set (by omega) _).set (by omega) _).set (by omega) _).set (by omega) _).set (by omega) _) (by simp[sz,e]) (λs h2 h8 hq=>?_) KT;simp only[Gj]
  repeat rw[if_neg (by omega)]
end
end Go.Sim.Z
end
