/- Proved here: laws for the claim. No conditions. -/
import Derived.RunNT
import Derived.Test.YtlcbehhbfglgaaaGreatK12
import Derived.Test.YtlcbehhbfglgaaaGreatK16
import Derived.Test.YtlcbehhbfglgaaaGreatK21
set_option linter.all false
open Go.Proofs.Tryz
namespace Go.Sim.Z
open Go Go.Proofs Go.RowKit Go.Conc Go.Maps
structure KY(E:JB)(w:JE)(x:Nat)(c:J8)(seed:Int)(h:JJ)(nf:Int)(vm src:Nat)(S:List TR):Prop where
 cube:Dq w x c seed h nf vm src
 tab:TabAt false w c src S
 hok:HOk w
 tE:∀y,y=src\/y∈tpl S->E y/\prog.globals.size<=y
 bE:∀a,c.ba=some a->E a.block/\prog.globals.size<=a.block/\∃arr t,Blk false w a.block arr t/\Plain arr
 xE:E x/\E vm
 cfg:Jw c
 n:S.length<=1000
section
variable{E E':JB}{w w':JE}{x:Nat}{c:J8}{seed nf:Int}{h:JJ}{vm src b3:Nat}{S:List TR}
theorem KE.cube(q:Dq w x c seed h nf vm src)(hx:E x)(hv:E vm)(k:KE E w w'):Dq w' x c seed h nf vm src:=by obtain⟨⟨z,h1,h2⟩,n,es,ck,h3,h4⟩:=q;exact⟨⟨z,k _ _ hx h1 trivial,h2⟩,n,es,ck,k _ _ hv h3 trivial,h4⟩
theorem KY.ke(q:KY E w x c seed h nf vm src S)(k:KE E w w')(hH:E prog.globals.size)(hE:∀b,E b->E' b):KY E' w' x c seed h nf vm src S:=
 ⟨KE.cube q.cube q.xE.1 q.xE.2 k,q.tab.ke k λy hy=>(q.tE y hy).1,q.hok.ke k hH,λy hy=>⟨hE _ (q.tE y hy).1,(q.tE y hy).2⟩,λa ha=>by obtain⟨h1,h2,arr,t,h3,h4⟩:=q.bE a ha;exact⟨hE _ h1,h2,arr,t,k.blk h1 h3,h4⟩,⟨hE _ q.xE.1,hE _ q.xE.2⟩,q.cfg,q.n⟩
theorem KY.roll(q:KY E w x c seed h nf vm src S)(k3:w.heap[b3]?=some (.cells #[.slice none 0 0] 55))(h3:E b3)(hb:prog.globals.size<=b3):Xy E (λb=>b=b3) w src b3 S c (λ_=>true) where
 h:=q.hok
 tab:=q.tab
 tE:=q.tE
 bE:=λa ha=>by obtain⟨h1,h2,arr,t,h3,h4⟩:=q.bE a ha;exact⟨h1,h2,.plain h3 h4⟩
 fF:=rfl
 fE:=λb e=>by subst e;refine⟨h3,hb,.of_cells (arr:=#[.slice none 0 0]) (t:=55) ⟨(0,0),k3,λ_=>rfl⟩ λX Sh hX v hv=>?_⟩;simp only[AO,C9,or_false]at hv;subst hv;exact .Jo _ _
 pass:=λw' UM x hx=>Jy1 (UM ⟨b3,0,none⟩ _ rfl ((cell_of k3 0).trans rfl)) hx.1
 cfg:=q.cfg
 n:=q.n
end
noncomputable def t9:Code:=sC (sC (sC (sC b9)))
noncomputable def ops9:Array Oper:=opsOf (fC B9)
noncomputable def c9:Code:=fC b9
noncomputable def c9b:Code:=fC (sC b9)
noncomputable def c9c:Code:=fC (sC (sC b9))
theorem J03x:b9=.seq c9 (.seq c9b (.seq c9c (.seq B9 t9))):=by kernel_rfl
theorem J03y:B9=.seq (.region 4 ops9 false) (.block 0 (.rangeFunc (.tmp 18) #[19,20] Xv Xt)):=by kernel_rfl
theorem ok9:Jj C0 S0 9 c9=true:=by kernel_rfl
theorem ok9b:Jj C0 S0 9 c9b=true:=by kernel_rfl
theorem ok9c:Jj C0 S0 9 c9c=true:=by kernel_rfl
theorem ok9t:Jj C0 S0 9 t9=true:=by kernel_rfl
theorem fZ:GH C0 9:=⟨Tryz.f9,by kernel_rfl,by kernel_rfl,by kernel_rfl⟩
theorem df9:S0.df.contains 9=false:=rfl
theorem Jjh:dO C0 9:=by
 intro fn hf r hr;have e:C0.P.funcs[9]?=some Tryz.f9:=by kernel_rfl
 rw[e]at hf;cases hf;rw[show Tryz.f9.results=#[.cell 8 28,.cell 9 30]from by kernel_rfl]at hr;simp only[List.mem_toArray,AO,C9,or_false]at hr;rcases hr with rfl|rfl
 ·exact hl9 (by decide)
 ·exact hl9 (by decide)
theorem ok9a:okP C0 S0 9 Xv:=⟨by kernel_rfl,rfl,Jjh,fZ,df9⟩
theorem ok9y:okP C0 S0 9 Xt:=⟨by kernel_rfl,rfl,Jjh,fZ,df9⟩
theorem Jds:C0.hl 9≠[]:=by show[18]≠[];simp
theorem Jng{i:Nat}(h:(C0.hl 9).contains i=true):i=18:=by have h':i∈[18]:=Nh.1 h;simpa using h'
theorem Jyu{i:Nat}:(S0.own 9).contains i=false:=rfl
theorem J03z{i:Nat}:(S0.own 38).contains i=false:=rfl
theorem body9:Tryz.f9.body=some b9:=by kernel_rfl
theorem Jyv:f38.body=some b38:=by kernel_rfl
theorem J040:∃o,ops9[0]?=some o/\o.op=.move (.tmp 0)/\o.guard=none/\o.dst=some 15:=by simp only[ops9,opsOf,B9,b9,fC,sC,Tryz.f9,Ar];exact⟨_,rfl,rfl,rfl,rfl⟩
theorem J041:∃o,ops9[1]?=some o/\o.op=.move (.tmp 1)/\o.guard=none/\o.dst=some 16:=by simp only[ops9,opsOf,B9,b9,fC,sC,Tryz.f9,Ar];exact⟨_,rfl,rfl,rfl,rfl⟩
theorem J042:∃o,ops9[2]?=some o/\o.op=.move (.tmp 2)/\o.guard=none/\o.dst=some 17:=by simp only[ops9,opsOf,B9,b9,fC,sC,Tryz.f9,Ar];exact⟨_,rfl,rfl,rfl,rfl⟩
theorem J043:∃o,ops9[3]?=some o/\o.op=.call { callee:=.value (.func 17),args:=#[.tmp 15,.tmp 16,.tmp 17],argTypes:=#[25,3,55] }/\o.guard=none/\o.dst=some 18:=by simp only[ops9,opsOf,B9,b9,fC,sC,Tryz.f9,Ar];exact⟨_,rfl,rfl,rfl,rfl⟩
section
variable{w:JE}{x n m:Nat}{most:Int}{d:Deferred}
theorem J044:c9.wp prog (λe a w1=>e=.normal/\a.defers=[d]/\a.tmps=(λn=>#[pt x,.int .i64 m,.slice none 0 0,.int .i64 most,JA,JA,JA,pt n,pt (n+1),pt (n+2),JA,JA,JA,JA,JA,JA,JA,JA,JA,JA,JA,JA,JA,JA,JA,JA,JA,JA,JA,JA,JA,JA,JA]) w.heap.size/\w1.heap=((w.heap.push (.cells #[.int .i64 most] 3)).push (.cells #[.slice none 0 0] 28)).push (.cells #[.nilIface] 30)) ⟨#[pt x,.int .i64 m,.slice none 0 0,.int .i64 most,JA,JA,JA,JA,JA,JA,JA,JA,JA,JA,JA,JA,JA,JA,JA,JA,JA,JA,JA,JA,JA,JA,JA,JA,JA,JA,JA,JA,JA],[d]⟩ w:=by simp only[c9,b9,fC,Tryz.f9,Ar];go_wp2;exact rfl
theorem Jyw:c9b.wp prog (λe a w1=>e=.normal/\a.defers=[d]/\a.tmps=(λn4=>#[pt x,.int .i64 m,.slice none 0 0,.int .i64 most,JA,JA,JA,pt n,pt (n+1),pt (n+2),pt n4,JA,JA,JA,JA,JA,JA,JA,JA,JA,JA,JA,JA,JA,JA,JA,JA,JA,JA,JA,JA,JA,JA]) w.heap.size/\w1.heap=w.heap.push (.cells #[.slice none 0 0] 28)) ⟨#[pt x,.int .i64 m,.slice none 0 0,.int .i64 most,JA,JA,JA,pt n,pt (n+1),pt (n+2),JA,JA,JA,JA,JA,JA,JA,JA,JA,JA,JA,JA,JA,JA,JA,JA,JA,JA,JA,JA,JA,JA,JA],[d]⟩ w:=by simp only[c9b,b9,fC,sC,Tryz.f9,Ar];go_wp2;exact rfl
theorem Jyx{n4:Nat}(hm:1<=most)(h7:w.heap[n]?=some (.cells #[.int .i64 most] 3)):c9c.wp prog (λe a w1=>e=.normal/\a.defers=[d]/\a.tmps=#[pt x,.int .i64 m,.slice none 0 0,.int .i64 most,JA,JA,JA,pt n,pt (n+1),pt (n+2),pt n4,JA,JA,.int .i64 most,.bool false,JA,JA,JA,JA,JA,JA,JA,JA,JA,JA,JA,JA,JA,JA,JA,JA,JA,JA]/\w1.heap=w.heap) ⟨#[pt x,.int .i64 m,.slice none 0 0,.int .i64 most,JA,JA,JA,pt n,pt (n+1),pt (n+2),pt n4,JA,JA,JA,JA,JA,JA,JA,JA,JA,JA,JA,JA,JA,JA,JA,JA,JA,JA,JA,JA,JA,JA],[d]⟩ w:=by
 have hmn:¬most<1:=by omega
 have q7:=(cell_of h7 0).trans rfl;simp only[c9c,b9,fC,sC,Tryz.f9,Ar];go_wp2
theorem J045{n8 n9 n10:Nat}{v:JJ}{T:JC}(hT:T.size=33)(s8:T[8]?=some (pt n8))(s9:T[9]?=some (pt n9))(bM:T[10]?=some (pt n10))(h8:w.heap[n8]?=some (.cells #[.slice none 0 0] 28))(h9:w.heap[n9]?=some (.cells #[.nilIface] 30))(CQ:w.heap[n10]?=some (.cells #[v] 28))(hv:∃a l c,v=.slice a l c)(Aq:n8≠n10) :
  t9.wp prog (λe a w1=>e=.ret/\a.defers=[d]/\a.tmps[18]?=T[18]?/\a.tmps[8]?=some (pt n8)/\a.tmps[9]?=some (pt n9)/\w1.heap[n8]?=some (.cells #[v] 28)/\w1.heap[n9]?=some (.cells #[.nilIface] 30)/\(∀b,b≠n8->b≠n9->w1.heap[b]?=w.heap[b]?)) ⟨T,[d]⟩ w:=by
 obtain⟨f,rfl⟩:=Juk hT;rw[J03r]at *;have e8:f 8=_:=Aa s8;have e9:f 9=_:=Aa s9;have F9:f 10=_:=Aa bM;rw[e8,e9,F9];obtain⟨va,vl,vc,rfl⟩:=hv;have q8:=(cell_of h8 0).trans rfl;have q9:=(cell_of h9 0).trans rfl;have q10:=(cell_of CQ 0).trans rfl;have f8:=Gs h8 0;have f9:=Gs h9 0;have h89:n8≠n9:=λe=>by rw[e,h9]at h8;simp at h8
 have h98:n9≠n8:=λe=>h89 e.symm;simp only[t9,b9,sC,Tryz.f9,Ar];go_wp2;have k8:(w.setCell ⟨n8,0,none⟩ (.slice va vl vc)).heap[n8]?=some (.cells #[.slice va vl vc] 28):=by rw[heap_set h8];rfl
 have k9:(w.setCell ⟨n8,0,none⟩ (.slice va vl vc)).heap[n9]?=some (.cells #[.nilIface] 30):=(Jk _ _ h98).trans h9;refine⟨(Jk _ _ h89).trans k8,?_,λb h1 h2=>(Jk _ _ h2).trans (Jk _ _ h1)⟩;rw[heap_set k9];rfl
end
section
variable{E:JB}{w w':JE}{base Az m0:Nat}{T:List TR}{ks:List Je}{L:List QC}{v:JJ}{t:JH}{k:IntKind}{xs:JD}{n:Nat}{cs:List JJ}
def KD(E:JB)(w w':JE):Prop:=∀b arr t,E b->t≠28->t≠30->w.heap[b]?=some (.cells arr t)->w'.heap[b]?=some (.cells arr t)
theorem SlN.kd(h:SlN base w v t k xs)(q:KD E w w')(h1:t≠28)(h2:t≠30)(hv:VR C0 (idE E) v v):SlN base w' v t k xs:=by obtain⟨g,cap,rfl,hb,arr,⟨z,h3,h4⟩,h5⟩:=h;cases h4 rfl;exact⟨g,cap,rfl,hb,arr,⟨(0,0),q _ _ _ hv.Ik h1 h2 h3,λ_=>rfl⟩,h5⟩
theorem SlI.kd(h:SlI false w base v t k xs)(q:KD E w w')(h1:t≠28)(h2:t≠30)(hv:VR C0 (idE E) v v):SlI false w' base v t k xs:=by
 rcases h with h|⟨g,cap,rfl,hb,arr,⟨z,h3,h4⟩,h5⟩
 ·exact .inl h
 ·cases h4 rfl;exact .inr ⟨g,cap,rfl,hb,arr,⟨(0,0),q _ _ _ hv.Ik h1 h2 h3,λ_=>rfl⟩,h5⟩
theorem I9.kd(h:I9 base w T m0 ks L)(hv:∀q∈L,∀v∈q.cells,VR C0 (idE E) v v)(q:KD E w w'):I9 base w' T m0 ks L:=by refine⟨h.1,λi x p hx hp=>?_⟩;obtain⟨h1,h2,h3,h4⟩:=h.2 i x p hx hp;have hv:=hv p (NK hp);exact⟨h1,h2,h3,h4.k.kd q (by decide) (by decide) (hv _ (by simp[QC.cells])),h4.r.kd q (by decide) (by decide) (hv _ (by simp[QC.cells])),h4.h.kd q (by decide) (by decide) (hv _ (by simp[QC.cells])),h4.l.kd q (by decide) (by decide) (hv _ (by simp[QC.cells]))⟩
theorem I9.mono(h:I9 base w T m0 ks L)(hb:Az<=base):I9 Az w T m0 ks L:=by refine⟨h.1,λi x p hx hp=>?_⟩;obtain⟨h1,h2,h3,h4⟩:=h.2 i x p hx hp;exact⟨h1,h2,h3,h4.mono hb⟩
theorem Jyy(h:w.ownsRow base 39 5 v n cs)(hv:VR C0 (idE E) v v)(q:KD E w w'):w'.ownsRow base 39 5 v n cs:=by
 refine⟨h.1,?_⟩;rcases h.2 with hn|⟨g,cap,cur,rfl,hb,O8,rest⟩
 ·exact .inl hn
 ·exact .inr ⟨g,cap,cur,rfl,hb,q _ _ _ hv.Ik (by decide) (by decide) O8,rest⟩
theorem J7c(h:w.ownsRow base 39 5 v n cs):∃a c,v=.slice a n c:=by
 rcases h.2 with⟨rfl,hn⟩|⟨g,cap,cur,rfl,_⟩
 ·exact⟨none,0,by rw[hn]⟩
 ·exact⟨_,_,rfl⟩
end
theorem Jsy{w1:JE}{T:JC}{b8 b9:Nat}{v u:JJ}(h8:T[8]?=some (pt b8))(h9:T[9]?=some (pt b9))(c8:w1.cell? ⟨b8,0,none⟩=some v)(c9:w1.cell? ⟨b9,0,none⟩=some u) :
  (results Tryz.f9 T).run prog w1=.ok (.tuple #[v,u]) w1/\∀e∈(results Tryz.f9 T).events prog w1 #[],∃ad:Addr,(ad.block=b8\/ad.block=b9)/\e=⟨.cell ad,false,false⟩:=by
 have hr:Tryz.f9.results=#[.cell 8 28,.cell 9 30]:=by kernel_rfl
 have g8:T.getD 8 JA=pt b8:=by simp[BH,h8]
 have g9:T.getD 9 JA=pt b9:=by simp[BH,h9]
 have u28:=underlying28;have u30:=underlying30;constructor
 ·simp[results,hr,BH,h8,h9,go_sem,asAddr,loadVar,isAgg,underlying,c8,c9,u28,u30]
 ·simp[results,hr,BH,h8,h9,go_sem,asAddr,loadVar,isAgg,underlying,c8,c9,u28,u30]
section
variable{W E:JB}{w:JE}{x:Nat}{c:J8}{seed nf:Int}{h:JJ}{vm src m:Nat}{S:List TR}{M most:Int}{b₀:Frame}{a₀:Act}{ops:Array Oper}{i:Nat}{rest:List Nat}{kk:List Item}{cs:List Frame}{Post:(JB)->JF->JE->Prop}
structure Jsz(E:JB)(w:JE)(c:J8)(S:List TR)(m:Nat)(W' E':JB)(w':JE)(v:JJ)(T:List TR)(ks:List Je)(L:List QC):Prop where
 le:∀b,E b->E' b
 bok:BOk C0 S0 W' E' w'
 ke:KE E w w'
 nd:(T.map (·.k)).Nodup
 tok:∀t∈T,EI t.k/\Jl c t.B
 sum:Sum c (tm T) (EG S m (λ_=>true))
 keys:keysOf (T.map TR.kv) ks
 outs:I9 w.heap.size w' T m ks L
 row:w'.ownsRow w.heap.size 39 5 v L.length (L.flatMap QC.cells)
 vE:VR C0 (idE E') v v
set_option maxRecDepth 100000 in
set_option maxHeartbeats 2000000 in
theorem J7r(hB:BOk C0 S0 W E w)(q:KY E w x c seed h nf vm src S)(Ih:m<8)(hM:0<=M)(hS:∀t∈S,HIn M t.B)(hSM:S.length*M<=9223372036854775807)(He:1<=most)
  (gU:∀T:List TR,(T.map (·.k)).Nodup->Sum c (tm T) (EG S m (λ_=>true))->(T.length:Int)<=most)
  (kn:∀W' E' w' v T ks L,Jsz E w c S m W' E' w' v T ks L->Reach prog Post W' (G (b₀.at (a₀.put ((ops[i]?).bind (·.dst)) (.tuple #[v,.nilIface])) (.inRegion ops rest::kk)) cs) w') :
  Reach prog Post W (G ((Go.Conc.base 9).at ⟨#[pt x,.int .i64 m,.slice none 0 0,.int .i64 most,JA,JA,JA,JA,JA,JA,JA,JA,JA,JA,JA,JA,JA,JA,JA,JA,JA,JA,JA,JA,JA,JA,JA,JA,JA,JA,JA,JA,JA],[]⟩ [.code b9]) (b₀.at a₀ (.inRegion ops (i::rest)::kk)::cs)) w:=by
 obtain⟨o0,h0,p0,g0,q0⟩:=J040;obtain⟨o1,h1,p1,g1,q1⟩:=J041;obtain⟨o2,h2,p2,g2,q2⟩:=J042;obtain⟨o3,h3,p3,g3,q3⟩:=J043;have jF:prog.globals.size<w.heap.size:=hB.lt hB.hnd;have BA:TmR C0 S0 9 (idE E) #[pt x,.int .i64 m,.slice none 0 0,.int .i64 most,JA,JA,JA,JA,JA,JA,JA,JA,JA,JA,JA,JA,JA,JA,JA,JA,JA,JA,JA,JA,JA,JA,JA,JA,JA,JA,JA,JA,JA] #[pt x,.int .i64 m,.slice none 0 0,.int .i64 most,JA,JA,JA,JA,JA,JA,JA,JA,JA,JA,JA,JA,JA,JA,JA,JA,JA,JA,JA,JA,JA,JA,JA,JA,JA,JA,JA,JA,JA]:=by
  refine .fV (λv hv=>?_) λ_=>Jyu;have e:#[pt x,.int .i64 m,.slice none 0 0,.int .i64 most,JA,JA,JA,JA,JA,JA,JA,JA,JA,JA,JA,JA,JA,JA,JA,JA,JA,JA,JA,JA,JA,JA,JA,JA,JA,JA,JA,JA,JA]=#[pt x,.int .i64 m,.slice none 0 0,.int .i64 most]++Array.replicate 29 JA:=by
   rw[show Array.replicate 29 JA=#[JA,JA,JA,JA,JA,JA,JA,JA,JA,JA,JA,JA,JA,JA,JA,JA,JA,JA,JA,JA,JA,JA,JA,JA,JA,JA,JA,JA,JA]from by kernel_rfl];simp only[List.append_toArray,Hr,Gm]
  rw[e,Array.toList_append,FY]at hv;rcases hv with hv|hv
  ·simp only[AO,C9,or_false]at hv;rcases hv with rfl|rfl|rfl|rfl
   ·exact .ptr _ _ ⟨rfl,q.xE.1⟩
   ·exact .int _ _
   ·exact .Jo _ _
   ·exact .int _ _
  ·simp only[Array.toList_replicate]at hv;rw[List.eq_of_mem_replicate hv];exact .undef
 rw[J03x];refine J6 (λw1=>stepG_seq) rfl λd1=>?_;refine Reach.piece (b:=Go.Conc.base 9) MZ rfl ok9 fZ df9 Jds (by simp[Go.Conc.base]) (hB.at d1) BA (Q:=λe t w1=>e=.normal/\t=(λn=>#[pt x,.int .i64 m,.slice none 0 0,.int .i64 most,JA,JA,JA,pt n,pt (n+1),pt (n+2),JA,JA,JA,JA,JA,JA,JA,JA,JA,JA,JA,JA,JA,JA,JA,JA,JA,JA,JA,JA,JA,JA,JA]) w.heap.size/\w1.heap=((w.heap.push (.cells #[.int .i64 most] 3)).push (.cells #[.slice none 0 0] 28)).push (.cells #[.nilIface] 30)) (λτ=>?_) (λE1 t1 w1 Ap AU Cj AV A8 Eh=>?_) (λE1 t1 w1 Ap todo AU Cj AV A8 Eh=>by cases Eh.1)
 ·refine wp_mono (J044 (w:=(w.at d1).tp τ 0)) λe a w1 ⟨r1,r2,r3,r4⟩=>⟨.inl r1,λi hi=>?_,r1,r3,r4⟩;rw[r3,Jng hi];rfl
 obtain⟨-,rfl,Dw⟩:=Eh;generalize hn:w.heap.size=n at *;have l1:=Jy rfl AV;have a7:E1 n:=(A8.slot (i:=7) rfl rfl).OX;have a8:E1 (n+1):=(A8.slot (i:=8) rfl rfl).OX;have a9:E1 (n+2):=(A8.slot (i:=9) rfl rfl).OX;have o1:∀b,b<n->w1.heap[b]?=w.heap[b]?:=λb hb=>by rw[Dw,Array.getElem?_push_lt (by simp;omega),Array.getElem_push_lt (by simp;omega),Array.getElem_push_lt (by omega),BJ (by omega)]
 obtain⟨p7,p8,p9⟩:=Juu hn (.cells #[.int .i64 most] 3) (.cells #[.slice none 0 0] 28) (.cells #[.nilIface] 30);rw[<- Dw]at p7 p8 p9;have c7:=l1 _ _ a7 p7 trivial;have c8:=l1 _ _ a8 p8 trivial;have c9':=l1 _ _ a9 p9 trivial;have k1:KL E w Ap:=(KL.of_eq λb hb=>o1 b (hn▸hB.lt hb)).trans ((KL.OW AV).mono AU);refine J6 (λw1=>stepG_seq) rfl λd2=>?_;refine Reach.piece (b:=Go.Conc.base 9) MZ rfl ok9b fZ df9 Jds (by simp[Go.Conc.base]) (Cj.at d2) A8 (Q:=λe t w2=>e=.normal/\t=(λn4=>#[pt x,.int .i64 m,.slice none 0 0,.int .i64 most,JA,JA,JA,pt n,pt (n+1),pt (n+2),pt n4,JA,JA,JA,JA,JA,JA,JA,JA,JA,JA,JA,JA,JA,JA,JA,JA,JA,JA,JA,JA,JA,JA]) Ap.heap.size/\w2.heap=Ap.heap.push (.cells #[.slice none 0 0] 28)) (λτ=>?_) (λE2 t2 w2 BD Bl D5 DN Bc Qs=>?_) (λE1 t1 w1 Ap todo AU Cj AV A8 Eh=>by cases Eh.1)
 ·refine wp_mono (Jyw (w:=(Ap.at d2).tp τ 0)) λe a w1 ⟨r1,r2,r3,r4⟩=>⟨.inl r1,λi hi=>?_,r1,r3,r4⟩;rw[r3,Jng hi];rfl
 obtain⟨-,rfl,FI⟩:=Qs;have n4lt:n+2<Ap.heap.size:=Cj.lt a9;generalize hn4:Ap.heap.size=n4 at *;have l2:=Jy rfl DN;have OJ:E2 n4:=(Bc.slot (i:=10) rfl rfl).OX;have o2':∀b,b<n4->w2.heap[b]?=Ap.heap[b]?:=λb hb=>by rw[FI,Array.getElem?_push_lt (by omega),BJ (by omega)]
 have k2:KL E1 Ap BD:=(KL.of_eq λb hb=>o2' b (hn4▸Cj.lt hb)).trans ((KL.OW DN).mono Bl);have c10:=l2 n4 (.cells #[.slice none 0 0] 28) OJ (by rw[FI,Mc,if_pos hn4.symm]) trivial;have d7:=k2.ke _ _ a7 c7 trivial;have d8:=k2.ke _ _ a8 c8 trivial;have d9:=k2.ke _ _ a9 c9' trivial;refine J6 (λw1=>stepG_seq) rfl λd3=>?_;refine Reach.piece (b:=Go.Conc.base 9) MZ rfl ok9c fZ df9 Jds (by simp[Go.Conc.base]) (D5.at d3) Bc (Q:=λe t w3=>e=.normal/\t=#[pt x,.int .i64 m,.slice none 0 0,.int .i64 most,JA,JA,JA,pt n,pt (n+1),pt (n+2),pt n4,JA,JA,.int .i64 most,.bool false,JA,JA,JA,JA,JA,JA,JA,JA,JA,JA,JA,JA,JA,JA,JA,JA,JA,JA]/\w3.heap=BD.heap) (λτ=>?_) (λE3 t3 w3 Gx CU Ij Dt DR Wp=>?_) (λE1 t1 w1 Ap todo AU Cj AV A8 Eh=>by cases Eh.1)
 ·refine wp_mono (Jyx (w:=(BD.at d3).tp τ 0) He d7) λe a w1 ⟨r1,r2,r3,r4⟩=>⟨.inl r1,λi hi=>?_,r1,r3,r4⟩;rw[r3,Jng hi];rfl
 obtain⟨-,rfl,ZI⟩:=Wp;have k3:KL E2 BD Gx:=(KL.of_eq λb hb=>by rw[ZI]).trans ((KL.OW Dt).mono CU);have kE:KL E w Gx:=k1.trans ((k2.mono AU).trans (k3.mono λb hb=>Bl b (AU b hb)));have Lu:∀b,E b->E3 b:=λb hb=>CU b (Bl b (AU b hb));have e7:=k3.ke _ _ (Bl _ a7) d7 trivial;have e8:=k3.ke _ _ (Bl _ a8) d8 trivial;have e9:=k3.ke _ _ (Bl _ a9) d9 trivial;have F9:=k3.ke _ _ OJ c10 trivial;have a7:=CU _ (Bl _ a7);have a8:=CU _ (Bl _ a8);have a9:=CU _ (Bl _ a9);have OJ:=CU _ OJ;clear p7 p8 p9 c7 c8 c9' d7 d8 d9 c10 Dw FI ZI;refine J6 (λw1=>stepG_seq) rfl λd4=>?_;rw[J03y];refine J6 (λw1=>stepG_seq) rfl λd5=>?_;refine J6 (λw1=>stepG_region) rfl λd6=>?_;rw[show List.range ops9.size=[0,1,2,3]from by kernel_rfl];refine J6 (λw1=>NP (v:=pt x) h0 (by simp[Region.wanted,g0]) (by simp[Go.Conc.base]) (by simp[execOp,p0,Act.eval]) (by simp[execOp,p0,Act.eval])) rfl λd7=>?_;rw[q0];refine J6 (λw1=>NP (v:=.int .i64 m) h1 (by simp[Region.wanted,g1]) (by simp[Go.Conc.base]) (by simp[execOp,p1,Act.eval,Act.put]) (by simp[execOp,p1,Act.eval,Act.put])) rfl λd8=>?_;rw[q1];refine J6 (λw1=>NP (v:=.slice none 0 0) h2 (by simp[Region.wanted,g2]) (by simp[Go.Conc.base]) (by simp[execOp,p2,Act.eval,Act.put]) (by simp[execOp,p2,Act.eval,Act.put])) rfl λd9=>?_;rw[q2];have QB:TmR C0 S0 9 (idE E3) #[pt x,.int .i64 m,.slice none 0 0,.int .i64 most,JA,JA,JA,pt n,pt (n+1),pt (n+2),pt n4,JA,JA,.int .i64 most,.bool false,pt x,.int .i64 m,.slice none 0 0,JA,JA,JA,JA,JA,JA,JA,JA,JA,JA,JA,JA,JA,JA,JA] #[pt x,.int .i64 m,.slice none 0 0,.int .i64 most,JA,JA,JA,pt n,pt (n+1),pt (n+2),pt n4,JA,JA,.int .i64 most,.bool false,pt x,.int .i64 m,.slice none 0 0,JA,JA,JA,JA,JA,JA,JA,JA,JA,JA,JA,JA,JA,JA,JA]:=
  ((DR.set 15 (v:=pt x) (v':=pt x) (.ptr _ _ ⟨rfl,Lu _ q.xE.1⟩) λh=>by cases h).set 16 (v:=.int .i64 m) (v':=.int .i64 m) (.int _ _) λh=>by cases h).set 17 (v:=.slice none 0 0) (v':=.slice none 0 0) (.Jo _ _) λh=>by cases h
 have II:=((((((Ij.at d4).at d5).at d6).at d7).at d8).at d9);generalize Q9:((((((Gx.at d4).at d5).at d6).at d7).at d8).at d9)=w4 at II ⊢;have Jt0:w4.heap=Gx.heap:=by rw[<- Q9];rfl
 clear Q9;show Reach prog Post W (G ((Go.Conc.base 9).at ⟨#[pt x,.int .i64 m,.slice none 0 0,.int .i64 most,JA,JA,JA,pt n,pt (n+1),pt (n+2),pt n4,JA,JA,.int .i64 most,.bool false,pt x,.int .i64 m,.slice none 0 0,JA,JA,JA,JA,JA,JA,JA,JA,JA,JA,JA,JA,JA,JA,JA],[]⟩ _) _) w4;refine Reach.call (B:=Go.Conc.base 9) h3 (by simp[Region.wanted,g3]) (by simp[Go.Conc.base]) p3 (fn:=f17) (c:=b17) (by kernel_rfl) (by kernel_rfl) Jyo λd10=>?_;have PO:(#[Operand.tmp 15,.tmp 16,.tmp 17].map (Act.eval ⟨#[pt x,.int .i64 m,.slice none 0 0,.int .i64 most,JA,JA,JA,pt n,pt (n+1),pt (n+2),pt n4,JA,JA,.int .i64 most,.bool false,pt x,.int .i64 m,.slice none 0 0,JA,JA,JA,JA,JA,JA,JA,JA,JA,JA,JA,JA,JA,JA,JA],[]⟩))++Array.replicate (f17.ntmps-(#[Operand.tmp 15,.tmp 16,.tmp 17].map (Act.eval ⟨#[pt x,.int .i64 m,.slice none 0 0,.int .i64 most,JA,JA,JA,pt n,pt (n+1),pt (n+2),pt n4,JA,JA,.int .i64 most,.bool false,pt x,.int .i64 m,.slice none 0 0,JA,JA,JA,JA,JA,JA,JA,JA,JA,JA,JA,JA,JA,JA,JA],[]⟩)).size) JA=#[pt x,.int .i64 m,.slice none 0 0,JA,JA,JA,JA,JA,JA,JA,JA]:=by
  have KO:f17.ntmps=11:=by kernel_rfl
  have h1:(#[Operand.tmp 15,.tmp 16,.tmp 17].map (Act.eval ⟨#[pt x,.int .i64 m,.slice none 0 0,.int .i64 most,JA,JA,JA,pt n,pt (n+1),pt (n+2),pt n4,JA,JA,.int .i64 most,.bool false,pt x,.int .i64 m,.slice none 0 0,JA,JA,JA,JA,JA,JA,JA,JA,JA,JA,JA,JA,JA,JA,JA],[]⟩))=#[pt x,.int .i64 m,.slice none 0 0]:=by simp[Act.eval]
  rw[KO,h1];show _++Array.replicate 8 JA=_;rw[show Array.replicate 8 JA=#[JA,JA,JA,JA,JA,JA,JA,JA]from by kernel_rfl];simp only[List.append_toArray,Hr,Gm]
 rw[PO];refine Jsx (x:=x) (m:=m) (II.at d10) (Lu _ q.xE.1) λE5 w5 b1 b2 b3 j1 j2 j3 j4 j5 j6 j7 j8 j9 yG=>?_;rw[h3];simp only[Option.bind_some,q3];refine J6 (λw1=>stepG_region_end) rfl λd11=>?_;refine J6 (λw1=>stepG_block) rfl λd12=>?_;have F8:TmR C0 S0 9 (idE E5) #[pt x,.int .i64 m,.slice none 0 0,.int .i64 most,JA,JA,JA,pt n,pt (n+1),pt (n+2),pt n4,JA,JA,.int .i64 most,.bool false,pt x,.int .i64 m,.slice none 0 0,.func (.func 38) #[] #[pt b1,pt b2,pt b3],JA,JA,JA,JA,JA,JA,JA,JA,JA,JA,JA,JA,JA,JA] #[pt x,.int .i64 m,.slice none 0 0,.int .i64 most,JA,JA,JA,pt n,pt (n+1),pt (n+2),pt n4,JA,JA,.int .i64 most,.bool false,pt x,.int .i64 m,.slice none 0 0,.func (.func 38) #[] #[pt b1,pt b2,pt b3],JA,JA,JA,JA,JA,JA,JA,JA,JA,JA,JA,JA,JA,JA]:=(QB.mono (Ox j1)).hole (i:=18) rfl Jyu (.func (.func 38) #[] #[pt b1,pt b2,pt b3]);show Reach prog Post W (G ((Go.Conc.base 9).at ⟨#[pt x,.int .i64 m,.slice none 0 0,.int .i64 most,JA,JA,JA,pt n,pt (n+1),pt (n+2),pt n4,JA,JA,.int .i64 most,.bool false,pt x,.int .i64 m,.slice none 0 0,.func (.func 38) #[] #[pt b1,pt b2,pt b3],JA,JA,JA,JA,JA,JA,JA,JA,JA,JA,JA,JA,JA,JA],[]⟩ _) _) _;have kE5:KE E w w5:=kE.ke.trans ((KE.of_eq (E:=E) (w:=Gx) (w1:=w4.at d10) λb _=>by show w4.heap[b]?=_;rw[Jt0]).trans (j3.ke.mono Lu));have r5:∀{b:Nat}{o:Obj},E3 b->Gx.heap[b]?=some o->Dat o->w5.heap[b]?=some o:=λhb ho hd=>j3.ke _ _ hb (show w4.heap[_]?=_ by rw[Jt0];exact ho) hd;have f7:=r5 a7 e7 trivial;have f8:=r5 a8 e8 trivial;have f9:=r5 a9 e9 trivial;have f10:=r5 OJ F9 trivial;have wO:∀b,E b->E5 b:=λb hb=>j1 b (Lu b hb);have a7:=j1 _ a7;have a8:=j1 _ a8;have a9:=j1 _ a9;have OJ:=j1 _ OJ;have lt5:∀b,E5 b->b<w5.heap.size:=λb hb=>j2.lt hb;refine Reach.range (C:=C0) (S:=S0) (B:=Go.Conc.base 9) rfl ((j2.at d11).at d12) F8 rfl (by simp[Go.Conc.base]) (g:=.tmp 18) (f:=38) (fb:=#[pt b1,pt b2,pt b3]) rfl (fn:=f38) (by kernel_rfl) (by kernel_rfl) Jyv ok9a ok9y λw6 m1 m2 m3 m4 m5=>?_;generalize hN:((w5.at d11).at d12).heap.size=N at *;have hN5:w5.heap.size=N:=hN;have WH:∀b,E5 b->w6.heap[b]?=w5.heap[b]?:=m3;have yL:KE E w w6:=kE5.trans (.of_eq λb hb=>WH b (wO b hb));have n0N:n4<N:=hN5▸lt5 _ OJ;have wV:∀b,E b->(E5 b\/b=N)\/b=N+1:=λb hb=>.inl (.inl (wO b hb));have g8:=(WH _ a8).trans f8;have g9':=(WH _ a9).trans f9;have q6:=q.ke yL hB.hnd wV;have iE:=(WH _ j9).trans j6;have hQ:QAt n #[pt x,.int .i64 m,.slice none 0 0,.int .i64 most,JA,JA,JA,pt n,pt (n+1),pt (n+2),pt n4,JA,JA,.int .i64 most,.bool false,pt x,.int .i64 m,.slice none 0 0,.func (.func 38) #[] #[pt b1,pt b2,pt b3],JA,JA,JA,JA,JA,JA,JA,JA,JA,JA,JA,JA,JA,JA] n n4 (N+1) N most [] w6:=⟨⟨.slice none 0 0,(WH _ OJ).trans f10,World.ownsRow_nil _ _ _ _⟩,m5,(WH _ a7).trans f7,m4⟩;have eT:((#[.func (.yield (N+1)) #[] #[]]++#[pt b1,pt b2,pt b3])++Array.replicate (f38.ntmps-(#[Value.func (.yield (N+1)) #[] #[]]++#[pt b1,pt b2,pt b3]).size) JA:JC)=#[.func (.yield (N+1)) #[] #[],pt b1,pt b2,pt b3]++Array.replicate 71 JA:=by
  have KO:f38.ntmps=75:=by kernel_rfl
  rw[KO];rfl
 rw[eT];have Hq:prog.globals.size<=b3:=by have h1:w4.heap.size<=b3:=yG;rw[Jt0]at h1;have h2:prog.globals.size<Gx.heap.size:=Ij.lt (Lu _ hB.hnd);omega
 refine Jsw (E:=λb=>(E5 b\/b=N)\/b=N+1) (w:=w6) (Fp:=λb=>b=b3) (pass:=λ_=>true) (M:=M) (S:=S) (m:=m) (b1:=b1) (b2:=b2) (b3:=b3) (l:=N+1) (mo:=n) (ob:=n4) (D:=N) (qb:=n) (T9:=#[pt x,.int .i64 m,.slice none 0 0,.int .i64 most,JA,JA,JA,pt n,pt (n+1),pt (n+2),pt n4,JA,JA,.int .i64 most,.bool false,pt x,.int .i64 m,.slice none 0 0,.func (.func 38) #[] #[pt b1,pt b2,pt b3],JA,JA,JA,JA,JA,JA,JA,JA,JA,JA,JA,JA,JA,JA]) m1 q6.cube Ih ((WH _ j7).trans j4) ((WH _ j8).trans j5) iE ⟨.inl (.inl j7),.inl (.inl j8),.inl (.inl j9),q6.xE.1,q6.xE.2⟩ (q6.roll iE (.inl (.inl j9)) Hq) hM hS hSM gU hQ (by omega) rfl rfl rfl ⟨.inr rfl,.inl (.inl a7),.inl (.inl OJ),.inl (.inr rfl)⟩ (by simp) (by simp) (by simp) (by simp) (by simp) ?_ ?_
 ·refine .fV (λv hv=>?_) λ_=>J03z;rw[Array.toList_append,FY]at hv;rcases hv with hv|hv
  ·simp only[AO,C9,or_false]at hv;rcases hv with rfl|rfl|rfl|rfl
   ·exact .func (.yield ⟨rfl,.inr rfl⟩) rfl (λi x x' h=>by simp at h) ⟨rfl,by simp⟩ (λi x x' h=>by simp at h)
   ·exact .ptr _ _ ⟨rfl,.inl (.inl j7)⟩
   ·exact .ptr _ _ ⟨rfl,.inl (.inl j8)⟩
   ·exact .ptr _ _ ⟨rfl,.inl (.inl j9)⟩
  ·simp only[Array.toList_replicate]at hv;rw[List.eq_of_mem_replicate hv];exact .undef
 ·intro W7 E7 t7 w7 wb O1 T ks L mm i1 i2 i3 i4 i5 i6 i7 i8 i9;refine Reach.Jy3 (B:=Go.Conc.base 38) (a:=⟨t7,[]⟩) rfl rfl (fn:=f38) (by kernel_rfl) (by kernel_rfl) λd13=>?_;refine Reach.Jsn (C:=C0) (S:=S0) (B:=Go.Conc.base 9) rfl (i2.at d13) (l:=N+1) (i1 _ (.inr rfl)) (i8.at (w':=w7.at d13) rfl).lp (by simp[OV]) rfl (by kernel_rfl) λw8 u1 u2 u3=>?_;have u3:∀b,E7 b->b≠N+1->w8.heap[b]?=w7.heap[b]?:=u3;refine J6 (λw1=>stepG_inBlock) rfl λd14=>?_;obtain⟨v,hv,Aj⟩:=i8.box;have E8:E7 (n+1):=i1 _ (.inl (.inl a8));have E9:E7 (n+2):=i1 _ (.inl (.inl a9));have xR:E7 n4:=i1 _ (.inl (.inl OJ));have EN:E7 N:=i1 _ (.inl (.inr rfl));have y8:=i9 _ _ (.inl (.inl a8)) g8 (by omega) (by omega) (λ_ cur=>by simp) trivial;have y9:=i9 _ _ (.inl (.inl a9)) g9' (by omega) (by omega) (λ_ cur=>by simp) trivial;have v8:=(u3 _ xR (by omega)).trans hv;have x8:=(u3 _ E8 (by omega)).trans y8;have x9:=(u3 _ E9 (by omega)).trans y9;have xD:=(u3 _ EN (by omega)).trans i8.D;have ht8:TmR C0 S0 9 (idE E7) #[pt x,.int .i64 m,.slice none 0 0,.int .i64 most,JA,JA,JA,pt n,pt (n+1),pt (n+2),pt n4,JA,JA,.int .i64 most,.bool false,pt x,.int .i64 m,.slice none 0 0,.func (.func 38) #[] #[pt b1,pt b2,pt b3],JA,JA,JA,JA,JA,JA,JA,JA,JA,JA,JA,JA,JA,JA] #[pt x,.int .i64 m,.slice none 0 0,.int .i64 most,JA,JA,JA,pt n,pt (n+1),pt (n+2),pt n4,JA,JA,.int .i64 most,.bool false,pt x,.int .i64 m,.slice none 0 0,.func (.func 38) #[] #[pt b1,pt b2,pt b3],JA,JA,JA,JA,JA,JA,JA,JA,JA,JA,JA,JA,JA,JA]:=F8.mono (Ox λb hb=>i1 b (.inl (.inl hb)));refine Reach.piece (b:=Go.Conc.base 9) (k:=[]) MZ rfl ok9t fZ df9 Jds (by simp[Go.Conc.base]) (u1.at d14) ht8 (Q:=λe t w9=>e=.ret/\t[8]?=some (pt (n+1))/\t[9]?=some (pt (n+2))/\w9.heap[n+1]?=some (.cells #[v] 28)/\w9.heap[n+2]?=some (.cells #[.nilIface] 30)/\∀b,b≠n+1->b≠n+2->w9.heap[b]?=w8.heap[b]?) (λτ=>?_) (λE1 t1 w1 Ap AU Cj AV A8 Eh=>by cases Eh.1) (λEz tz wz wz' todo Ae hBz hWz htz hqz=>?_)
  ·obtain⟨va,vc,rfl⟩:=J7c Aj;refine wp_mono (J045 (w:=(w8.at d14).tp τ 0) (n8:=n+1) (n9:=n+2) (n10:=n4) rfl rfl rfl rfl x8 x9 v8 ⟨_,_,_,rfl⟩ (by omega)) λe a w1 ⟨r1,r2,r3,r4,r5,r6,r7,r8⟩=>⟨.inr r1,λi hi=>?_,r1,r4,r5,r6,r7,r8⟩;rw[Jng hi];exact r3
  obtain⟨-,t8,t9',z8,z9,z⟩:=hqz;have lz:=Jy rfl hWz;have zD:=Jfn hWz (Ae _ EN) ((z N (by omega) (by omega)).trans xD);have z8':=lz _ _ (Ae _ E8) z8 trivial;have z9':=lz _ _ (Ae _ E9) z9 trivial;refine Reach.collected (C:=C0) (S:=S0) (B:=Go.Conc.base 9) rfl hBz (D:=N) (Ae _ EN) zD (by kernel_rfl) λw10 u4 u5 u6=>?_;have q8:=(u6 _ (Ae _ E8) (by omega)).trans z8';have q9:=(u6 _ (Ae _ E9) (by omega)).trans z9';refine Reach.Jw1 (C:=C0) (S:=S0) (B:=Go.Conc.base 9) (a:=⟨tz,[]⟩) rfl u4 (fn:=Tryz.f9) (x:=8) (y:=9) (tx:=28) (ty:=30) (bx:=n+1) (by_:=n+2) (u:=v) (v:=.nilIface) rfl rfl (by kernel_rfl) (by kernel_rfl) (by kernel_rfl) (by simp[BH,t8]) (by simp[BH,t9']) (Ae _ E8) (Ae _ E9) (λw1 Cc=>?_) λw11 u7 u8 u9=>?_
  ·exact Jsy t8 t9' ((cell_of ((Cc _ (.inl rfl)).trans q8) 0).trans rfl) ((cell_of ((Cc _ (.inr rfl)).trans q9) 0).trans rfl)
  have neq:∀b arr t,t≠28->t≠30->w7.heap[b]?=some (.cells arr t)->b≠N+1/\b≠N/\b≠n+1/\b≠n+2:=λb arr t h1 h2 h3=>by
   refine⟨λe=>?_,λe=>?_,λe=>?_,λe=>?_⟩
   ·rw[e,i8.lp]at h3;cases h3
   ·rw[e,i8.D]at h3;cases h3
   ·rw[e,y8]at h3;exact h1 (Obj.cells.inj (Aa h3)).2.1.symm
   ·rw[e,y9]at h3;exact h2 (Obj.cells.inj (Aa h3)).2.1.symm
  have kd:KD E7 w7 w11:=λb arr t hb h1 h2 h3=>by obtain⟨n1,n2,n3,n4'⟩:=neq b arr t h1 h2 h3;exact(u9 b (Ae b hb)).trans ((u6 b (Ae b hb) n2).trans (lz b _ (Ae b hb) ((z b n3 n4').trans ((u3 b hb n1).trans h3)) trivial))
  have vE7:VR C0 (idE E7) v v:=i2.wr.Uu xR ((cell_of hv 0).trans rfl);refine kn W7 Ez w11 v T ks L ⟨λb hb=>Ae b (i1 b (wV b hb)),u7,λb o hb ho hd=>?_,i3.nodup,λt ht=>⟨i3.keys t ht,i3.ok t ht⟩,i4,i5,?_,?_,?_⟩
  ·have hbn:b<n:=hn▸hB.lt hb;have e7:=i1 b (wV b hb);have s7:=i9 b o (wV b hb) (yL b o hb ho hd) (by omega) (by omega) (λh=>absurd h (by omega)) hd;exact(u9 b (Ae b e7)).trans ((u6 b (Ae b e7) (by omega)).trans (lz b _ (Ae b e7) ((z b (by omega) (by omega)).trans ((u3 b e7 (by omega)).trans s7)) hd))
  ·rw[hn];exact(i6.mono i7).kd (λp hp v hv=>i8.cellsE i2.wr xR hp hv) kd
  ·rw[hn];exact Jyy Aj vE7 kd
  ·exact vE7.mono (Ox Ae)
end
end Go.Sim.Z
namespace Go.Sim
open Go Go.Conc
open Go.ConcN (sumTo upd)
theorem Jwa(said:Bool):¬Race said #[]:=by rintro⟨i,j,_,⟨a,b,ha,_⟩,_⟩;simp[Trace.act?]at ha
theorem Jt1{P:Program}{W:JB}(g:JF)(w:JE)(hW:∀b,W b->b<w.heap.size):Cmp P W #[g] w #[] (λ_=>0) where
 lv:=⟨λj x hj hx=>(by rw[DK (by simp;omega)]at hx;cases hx),λj hj=>rfl⟩
 past:=⟨Jwa,λi a ha=>by simp[touchAt,Trace.act?]at ha,λi g hg=>by simp[Trace.g?]at hg,rfl,λop Au=>by simp at Au⟩
 quiet:=λi op x hi=>by simp at hi
 low:=hW
 tidy:=λop Au=>by simp at Au
def Jqg(P:Program)(Post:JJ->JE->Prop)(_:JB)(g:JF)(w:JE):Prop:=
 g.status=.running/\∀w1,AtRel w w1->∃v,stepG P true g w1=.ended (.done v) w1 #[]/\Post v w1
theorem Jnh{P:Program}:∀(N:Nat){m m':Machine}{t t':Trace},runNT P N m t=(.next m',t')->runN P N m=.next m':=by intro N m m' t t' h;have:=congrArg Prod.fst h;rw[runNT_fst]at this;exact this
theorem Jgr{P:Program}{Post:JJ->JE->Prop}{W:JB}{g:JF}{w:JE}(hW:∀b,W b->b<w.heap.size)(h:Reach P (Jqg P Post) W g w) :
  ∃M last o w' t',runNT P (M+1) (solo g w) #[]=(.ended o w',t')/\runN P M (solo g w)=.next last/\step P last=.ended o w'/\Go.Conc.Good P (λv w'=>Post v w'/\(∀b,W b->w'.heap[b]?=w.heap[b]?)/\w'.os=w.os/\w'.output=w.output) last o w' t':=by
 obtain⟨N,BN,w',sl',t',q',W',vZ,g',h1,h2,h3,⟨h4,h5⟩,hK,_,_⟩:=h #[g] none #[] (λ_=>0) (λ_=>False) (λ_ h=>h.elim) hW rfl (Jt1 g w λ_ h=>h.elim);have hG:Goes P true AtRel (λ_ _ _=>False) (AtEnd P (ShW vZ) w'.heap.size (λv w'=>Post v w'/\(∀b,W b->w'.heap[b]?=w.heap[b]?)/\w'.os=w.os/\w'.output=w.output)) 0 g' w':=λw1 hr=>by obtain⟨v,h6,h7⟩:=h5 w1 hr;obtain⟨d,rfl⟩:=hr;exact⟨h4,v,#[],h6,λe he=>by simp at he,h7,hK.keep,hK.os,hK.out⟩
 obtain⟨N2,last,o,w2,t2,k1,k2,k3,k4⟩:=beside_ends (sl:=sl') (λ_ _ _ h=>h.elim) h2 h3.lv h3.past hG;refine⟨N+N2,last,o,w2,t2,?_,?_,k3,k4⟩
 ·rw[solo_eq_crowd,Nat.add_assoc,runNT_add,h1];exact k1
 ·rw[solo_eq_crowd,runN_add,Jnh N h1];exact k2
end Go.Sim
namespace Go.Sim.Z
open Go Go.Proofs Go.RowKit Go.Conc Go.Maps
open Go.WideElems (Fit rd rg)
section
variable{C:Cx}{ok:JG->Code->Prop}{E:JB}{w w':JE}
theorem I5.inE{vm src:Nat}(hW:WR C ok (idE E) w w')(h:I5 w vm src)(hv:E vm):E src:=by
 obtain⟨n,es,clock,h2,h3,h4,h5⟩:=h;obtain⟨o1,o',g1,g2,g3⟩:=hW.get (b:=vm) (b':=vm) ⟨rfl,hv⟩;rw[h2]at g1;cases g1;obtain⟨AZ,rfl,hr⟩:=g3;have KA:=DataW.map.inj h5;have hm:((Lit.int .i64 7,.held (.map (some src))):Lit × DataW JJ)∈es.toList.map (rg prog 3 Rv):=(qP _).mem_iff.1 (by rw[<- KA];simp);obtain⟨z,hz,e⟩:=AY.1 hm;obtain⟨q,hq⟩:=h3.reads z hz;have e2:q=(Lit.int .i64 7,.held (.map (some src))):=by rw[<- e];simp[rg,hq]
 subst e2;unfold rd at hq;simp only[LX,FX]at hq;obtain⟨l,hl,d,hd,e⟩:=hq;have e3:d.1=.held (.map (some src)):=congrArg Prod.snd e;simp only[Rv,Cm]at hd;rw[<- hd]at e3;have e4:=DataW.held.inj e3;obtain⟨i,hi⟩:=List.mem_iff_getElem?.1 hz;rw[Array.getElem?_toList]at hi;have Ac:i<AZ.size:=by rw[<- hr.size];exact(BQ.1 hi).1
 have Dn:AZ[i]?=some AZ[i]:=BJ Ac;have hq:=(hr.at_ i z _ hi Dn).val;have e5:=hq.eq λ_ _ h=>h.1;rw[<- e5,e4]at hq;exact hq.Jry
end
section
variable{E:JB}{w w1 w':JE}{x:Nat}{c:J8}{seed nf:Int}{h:JJ}{vm src:Nat}{S:List TR}
theorem KY.OW(hW:WR C0 (okP C0 S0) (idE E) w1 w')(q:Dq w1 x c seed h nf vm src)(tab:TabAt false w1 c src S)(hok:HOk w1)(hH:E prog.globals.size)(hx:E x)
  (hg:∀y,y=src\/y∈tpl S->prog.globals.size<=y) (hb:∀a,c.ba=some a->prog.globals.size<=a.block/\∃arr t,Blk false w1 a.block arr t/\Plain arr) (cfg:Jw c) (n:S.length<=1000):KY E w' x c seed h nf vm src S:=by
 have l:=Jy rfl hW;have hv:E vm:=(hW.Uu hx q.cells.2.2.2.2.2.2.2).Jry;have hs:E src:=q.vs.inE hW hv;have CY:∀a,c.ba=some a->E a.block:=λa ha=>by have h3:=q.cells.2.2.2.1;rw[ha]at h3;exact(hW.Uu hx h3).Ik
 have hT:=tab.places rfl hW CY hs;refine⟨KE.cube q hx hv l,tab.ke l hT,hok.ke l hH,λy hy=>⟨hT y hy,hg y hy⟩,λa ha=>?_,⟨hx,hv⟩,cfg,n⟩;obtain⟨h1,arr,t,h2,h3⟩:=hb a ha;exact⟨CY a ha,h1,arr,t,l.blk (CY a ha) h2,h3⟩
end
end Go.Sim.Z
namespace Go.Sim.Z
open Go Go.Proofs Go.RowKit
theorem fA{α:Type}{motive:List α->Prop}(l:List α)(nil:motive [])(append_singleton:∀l a,motive l->motive (l++[a])):motive l:=by
 have:∀n,∀l:List α,l.length=n->motive l:=by
  intro n
  induction n with
  |zero=>intro l h;rw[List.length_eq_zero_iff.1 h];exact nil
  |succ n ih=>
   intro l h;have Aq:l≠[]:=by intro e;rw[e]at h;cases h
   rw[<- List.dropLast_concat_getLast Aq];exact append_singleton _ _ (ih _ (by simp[h]))
 exact this _ l rfl
def Jq(c:J8)(bs:JD)(A:List (Int × Int)):Bun:=A.foldl (λB f=>QJ c bs B f.1 f.2) (QS c)
def Gp(c:J8)(bs:JD)(A:List (Int × Int)):Option Bun:=if A=[]then none else some (Jq c bs A)
def QM(A:List (Int × Int)):Prop:=∀f∈A,0<=f.1/\f.1<=18446744073709551615
theorem Jgf{x:Int}(h:I64 x):wrap64 x=x:=by unfold I64 at h;unfold wrap64;omega
section
variable{c:J8}{bs:JD}{a b:Bun}{A B:List (Int × Int)}
theorem dM(f:Int × Int):Jq c bs (A++[f])=QJ c bs (Jq c bs A) f.1 f.2:=by simp[Jq]
theorem Qp.J046(h:Jl c b):Qp c b:=⟨h.r,h.r8,h.h,h.h64,h.l,h.lK,h.l64,h.n64⟩
theorem zJ(hc:Jw c)(Dx:bs.length=c.nb)(hA:QM A):Qp c (Jq c bs A)/\(A≠[]->Jl c (Jq c bs A)):=by
 induction A using fA with
 |nil=>exact⟨Jf4 hc,λh=>absurd rfl h⟩
 |append_singleton A f ih=>
  have h1:=(ih λg hg=>hA g (by simp[hg])).1;have h2:=h1.add hc Dx (hA f (by simp)) f.2;rw[dM];exact⟨.J046 h2,λ_=>h2⟩
theorem Jgg:∀{l:JD}{n:Nat},l.length=n->(∀x∈l,0<=x)->maxL l (List.replicate n 0)=l
 |[],_,h,_=>by cases h;rfl
 |x::l,n+1,h,hp=>by have:=Jgg (l:=l) (n:=n) (by simpa using h) λy hy=>hp y (by simp[hy]);have hx:=hp x (by simp);unfold maxL at this ⊢;rw[List.replicate_succ,List.zipWith_cons_cons,this,Int.max_eq_left hx]
theorem Jgh:∀{l:JD}{n:Nat},l.length=n->(∀x∈l,I64 x)->EO l (List.replicate n 0)=l
 |[],_,h,_=>by cases h;rfl
 |x::l,n+1,h,hp=>by have:=Jgh (l:=l) (n:=n) (by simpa using h) λy hy=>hp y (by simp[hy]);have hx:=hp x (by simp);unfold EO at this ⊢;rw[List.replicate_succ,List.zipWith_cons_cons,this,Int.add_zero,Jgf hx]
theorem Jyz(ha:Qp c a):mg c a (QS c)=a:=by obtain⟨n,r,h,l⟩:=a;have h1:=ha.n64;have h2:=Jgg ha.r λx hx=>(ha.r8 x hx).1;have h3:=Jgh ha.h ha.h64;simp only at h1 h2 h3;unfold mg QS;simp only[Int.add_zero,Jgf h1,h2,h3];rfl
theorem Jji:∀{a b:JD}{i:Nat}{y:Int},a.length=b.length->i<b.length->maxL a (b.set i (max (b.getD i 0) y))=(maxL a b).set i (max ((maxL a b).getD i 0) y)
 |[],[],_,_,_,h=>by simp at h
 |p::a,q::b,0,y,_,_=>by simp[maxL,Int.max_assoc]
 |p::a,q::b,i+1,y,h,hi=>by have:=Jji (a:=a) (b:=b) (i:=i) (y:=y) (by simpa using h) (by simpa using hi);unfold maxL at this ⊢;simpa using this
theorem Jjj:∀{a b:JD}{i:Nat},a.length=b.length->i<b.length->EO a (b.set i (wrap64 (b.getD i 0+1)))=(EO a b).set i (wrap64 ((EO a b).getD i 0+1))
 |[],[],_,_,h=>by simp at h
 |p::a,q::b,0,_,_=>by
  simp only[EO,List.set_cons_zero,List.zipWith_cons_cons,List.getD_cons_zero,List.cons.injEq,and_true];unfold wrap64;omega
 |p::a,q::b,i+1,h,hi=>by have:=Jjj (a:=a) (b:=b) (i:=i) (by simpa using h) (by simpa using hi);unfold EO at this ⊢;simpa using this
theorem Jni{K:Int}{x:Int}{a b:JD}(ha:EM a)(hb:EM b)(ka:(a.length:Int)<=K)(kb:(b.length:Int)<=K):Ia K a (Lj K b x)=Lj K (Ia K a b) x:=by
 have h1:=sW hb kb x;have h2:=vC (b:=b) ha ka;rw[J7l ha h1.1 ka h1.2,QN h1.1 h1.2,rQ hb kb,gJ,rQ h2.1 h2.2,QN ha ka,J9b];congr 1;refine zG (U5 (sV hb)) (sV (U5 ha)) λz=>?_;rw[Xc,YO,YO,Xc];constructor
 ·rintro((h|h)|h)
  ·exact .inl h
  ·exact .inr (.inr h)
  ·exact .inr (.inl h)
 ·rintro(h|h|h)
  ·exact .inl (.inl h)
  ·exact .inr h
  ·exact .inl (.inr h)
theorem Jz0(hc:Jw c)(Dx:bs.length=c.nb)(KJ:bs.Pairwise (· < ·))(ha:Qp c a)(hb:Qp c b){x:Int}(hx:0<=x/\x<=18446744073709551615)(v:Int):mg c a (QJ c bs b x v)=QJ c bs (mg c a b) x v:=by
 unfold mg QJ;simp only;have e1:wrap64 (a.n+wrap64 (b.n+1))=wrap64 (wrap64 (a.n+b.n)+1):=by unfold wrap64;omega
 have hi:KX c.bits x<b.r.length:=by rw[hb.r];exact Jf1 ⟨hc.b1,hc.b2⟩ hx
 have e2:maxL a.r (Qb c.bits b.r x)=Qb c.bits (maxL a.r b.r) x:=Jji (by rw[ha.r,hb.r]) hi;have hj:Lh bs v<b.h.length:=by rw[hb.h,<- Dx];exact Jhs KJ v
 have e3:EO a.h (V4 bs b.h v)=V4 bs (EO a.h b.h) v:=Jjj (by rw[ha.h,hb.h]) hj;rw[e1,e2,e3,Jni ha.l hb.l ha.lK hb.lK]
theorem Jlf(hc:Jw c)(Dx:bs.length=c.nb)(KJ:bs.Pairwise (· < ·))(hA:QM A)(hB:QM B):mg c (Jq c bs A) (Jq c bs B)=Jq c bs (A++B):=by
 induction B using fA with
 |nil=>
  rw[List.append_nil];exact Jyz (zJ hc Dx hA).1
 |append_singleton B f ih=>
  have FU:QM B:=λg hg=>hB g (by simp[hg]);rw[dM,Jz0 hc Dx KJ (zJ hc Dx hA).1 (zJ hc Dx FU).1 (hB f (by simp)),ih FU,<- List.append_assoc,dM]
theorem Jwb(hc:Jw c)(Dx:bs.length=c.nb)(KJ:bs.Pairwise (· < ·))(hA:QM A)(hB:QM B)(h:B≠[]):om c (Gp c bs A) (Jq c bs B)=Gp c bs (A++B):=by
 unfold Gp om;by_cases e:A=[]
 ·subst e;simp[h]
 ·have:A++B≠[]:=by simp[e]
  rw[if_neg e,if_neg this];simp only[Jlf hc Dx KJ hA hB]
theorem Jgi(hc:Jw c)(Dx:bs.length=c.nb)(KJ:bs.Pairwise (· < ·)):∀{Ls:List (List (Int × Int))},(∀A∈Ls,QM A/\A≠[])->GI c (Ls.map (Jq c bs))=Gp c bs Ls.flatten:=by
 intro Ls
 induction Ls using fA with
 |nil=>intro _;rfl
 |append_singleton Ls A ih=>
  intro h;have h1:=ih λB hB=>h B (by simp[hB]);have h2:=h A (by simp);rw[List.map_append,List.map_singleton,Jfz,h1,List.flatten_append,List.flatten_singleton];refine Jwb hc Dx KJ (λf hf=>?_) h2.1 h2.2;obtain⟨B,hB,hf⟩:=List.mem_flatten.1 hf;exact(h B (by simp[hB])).1 f hf
theorem Jgj(hc:Jw c)(Dx:bs.length=c.nb)(KJ:bs.Pairwise (· < ·))(hA:QM A)(hp:A.Perm B):Gp c bs A=Gp c bs B:=by
 have key:∀{A:List (Int × Int)},QM A->GI c (A.map λf=>Jq c bs [f])=Gp c bs A:=λ{A} hA=>by
  have:=Jgi (c:=c) (bs:=bs) hc Dx KJ (Ls:=A.map λf=>[f]) λB hB=>by obtain⟨f,hf,rfl⟩:=AY.1 hB;exact⟨λg hg=>by rw[List.mem_singleton.1 hg];exact hA f hf,by simp⟩
  rw[List.map_map]at this;have e:(A.map λf=>[f]).flatten=A:=by
   clear this hp hA
   induction A with
   |nil=>rfl
   |cons f A ih=>simp[ih]
  rw[e]at this;exact this
 have hB:QM B:=λf hf=>hA f (hp.mem_iff.2 hf);rw[<- key hA,<- key hB];refine Jfu (hp.map _) λb hb=>?_;obtain⟨f,hf,rfl⟩:=AY.1 hb;exact(zJ hc Dx (A:=[f]) λg hg=>by rw[List.mem_singleton.1 hg];exact hA f hf).2 (by simp)
theorem Jqh(hA:(A.length:Int)<=9223372036854775807):(Jq c bs A).n=A.length:=by
 induction A using fA with
 |nil=>rfl
 |append_singleton A f ih=>
  rw[List.length_append,List.length_singleton]at hA ⊢;rw[dM];show wrap64 ((Jq c bs A).n+1)=_;rw[ih (by omega)];unfold wrap64;omega
end
def sel(hs:Int->Int)(m:Nat)(k:JD)(fs:List Jg):List (Int × Int):=(fs.filter λf=>decide (Jb m (Js f.k) 5=k)).map λf=>(hs f.it,f.v)
section
variable{c:J8}{bs:JD}{hs:Int->Int}{fs:List Jg}
theorem Jjk(hh:∀y,0<=hs y/\hs y<=18446744073709551615)(m:Nat)(k:JD):QM (sel hs m k fs):=λf hf=>by obtain⟨g,_,rfl⟩:=AY.1 hf;exact hh _
theorem Jt2(m:Nat)(k:JD)(f:Jg):sel hs m k (fs++[f])=sel hs m k fs++if Jb m (Js f.k) 5=k then[(hs f.it,f.v)]else[]:=by unfold sel;rw[List.filter_append,List.map_append];by_cases e:Jb m (Js f.k) 5=k<;>simp[e]
theorem Jqi{g0:List Jg}(m:Nat){g:JD->Option Bun}(hg:∀k,g k=Gp c bs (sel hs m k g0)):∀k,Oy c bs hs m g fs k=Gp c bs (sel hs m k (g0++fs)):=by
 induction fs using fA with
 |nil=>intro k;rw[List.append_nil];exact hg k
 |append_singleton fs f ih=>
  intro k;rw[Jdk,<- List.append_assoc,Jt2];unfold Um;by_cases e:Jb m (Js f.k) 5=k
  ·rw[if_pos e.symm,if_pos e,ih k];unfold Gp;rw[if_neg (c:=sel hs m k (g0++fs)++_=[]) (by simp),dM];by_cases e2:sel hs m k (g0++fs)=[]
   ·rw[if_pos e2,e2];rfl
   ·rw[if_neg e2];rfl
  ·rw[if_neg (Ne.symm e),if_neg e,List.append_nil,ih k]
theorem Jdt{ks:JD}(h:ks.length=3):Jb 7 (Js ks) 5=Js ks:=by
 match ks,h with
 |[a,b,d],_=>
  have t0:Nat.testBit 7 0=true:=by decide
  have t1:Nat.testBit 7 1=true:=by decide
  have t2:Nat.testBit 7 2=true:=by decide
  simp[Jb,Js,List.zipIdx_cons,List.replicate,t0,t1,t2]
theorem J89{α:Type}(p q:α->Bool):∀l:List α,(∀x∈l,¬(p x=true/\q x=true))->(l.filter p++l.filter q).Perm (l.filter λx=>p x || q x)
 |[],_=>.refl _
 |x::l,h=>by
  have ih:=J89 p q l λy hy=>h y (by simp[hy]);have hx:=h x (by simp);cases hp:p x<;>cases hq:q x
  ·simpa[hp,hq]using ih
  ·simp only[List.filter_cons,hp,hq,EK,if_false,if_true,Bool.or_true];exact List.perm_middle.trans (ih.cons x)
  ·simp only[List.filter_cons,hp,hq,EK,if_false,if_true,Bool.or_false,Hr];exact ih.cons x
  ·exact absurd ⟨hp,hq⟩ hx
theorem J7d{fs:List Jg}{key:Jg->JD}{P:JD->Bool}:∀{Ks:List (JD)},Ks.Nodup->((Ks.filter P).flatMap λκ=>fs.filter λf=>decide (key f=κ)).Perm (fs.filter λf=>decide (key f∈Ks) && P (key f))
 |[],_=>by simp
 |κ::Ks,hn=>by
  obtain⟨h1,h2⟩:=List.nodup_cons.1 hn;have ih:=J7d (fs:=fs) (key:=key) (P:=P) h2;have e:fs.filter (λf=>decide (key f∈κ::Ks) && P (key f))=fs.filter λf=>(decide (key f=κ) && P κ) || (decide (key f∈Ks) && P (key f)):=by
   congr 1;funext f;by_cases hk:key f=κ
   ·simp[hk,h1]
   ·simp[hk]
  rw[e];refine List.Perm.trans ?_ (J89 _ _ fs λf _ ⟨a,b⟩=>?_)
  ·cases hP:P κ
   ·simp only[List.filter_cons,hP,EK,if_false,Bool.and_false];rw[show fs.filter (λ_=>false)=[]from List.filter_eq_nil_iff.2 λ_ _=>by simp,Gm];exact ih
   ·simp only[List.filter_cons,hP,if_true,Bool.and_true,List.flatMap_cons];exact ih.append_left _
  ·simp only[Bv,decide_eq_true_eq]at a b;exact h1 (a.1▸b.1)
theorem Jwc(hc:Jw c)(Dx:bs.length=c.nb)(KJ:bs.Pairwise (· < ·))(hh:∀y,0<=hs y/\hs y<=18446744073709551615)(h3:∀f∈fs,f.k.length=3){S T:List TR}{m:Nat}(hn:(S.map (·.k)).Nodup)(hS:∀k,tm S k=Gp c bs (sel hs 7 k fs))
  (h:Sum c (tm T) (EG S m (λ_=>true))):∀k,tm T k=Gp c bs (sel hs m k fs):=by
 intro k;rw[h k];have e1:((EG S m λ_=>true).filter λe=>decide (e.1=k)).map (·.2)=((S.filter λt=>decide (Jb m t.k 5=k)).map (λt=>sel hs 7 t.k fs)).map (Jq c bs):=by
  unfold EG;simp only[if_true];have hB:∀t∈S,t.B=Jq c bs (sel hs 7 t.k fs):=λt ht=>by
   have h1:=hS t.k;rw[U7 hn ht]at h1;unfold Gp at h1;split at h1
   ·cases h1
   ·exact Aa h1
  clear h hS hn
  induction S with
  |nil=>rfl
  |cons t S ih=>
   have ih:=ih λu hu=>hB u (by simp[hu]);have ht:=hB t (by simp);simp only[List.filterMap_cons,List.filter_cons];by_cases e:Jb m t.k 5=k
   ·simp only[e,decide_true,if_true,DW,ih,<- ht]
   ·simp only[e,decide_false,EK,if_false,ih]
 rw[e1,Jgi hc Dx KJ λA hA=>?_]
 ·refine Jgj hc Dx KJ (λf hf=>?_) ?_
  ·obtain⟨A,hA,hf⟩:=List.mem_flatten.1 hf;obtain⟨t,_,rfl⟩:=AY.1 hA;exact Jjk hh _ _ f hf
  ·have p:=J7d (fs:=fs) (key:=λf=>Jb 7 (Js f.k) 5) (P:=λκ=>decide (Jb m κ 5=k)) hn;have p2:=p.map λf=>(hs f.it,f.v);have e2:(fs.filter λf=>decide (Jb 7 (Js f.k) 5∈S.map (·.k)) && decide (Jb m (Jb 7 (Js f.k) 5) 5=k))=fs.filter λf=>decide (Jb m (Js f.k) 5=k):=by
    refine List.filter_congr λf hf=>?_;have h7:=Jdt (h3 f hf);rw[h7];have hm:Js f.k∈S.map (·.k):=by
     have h1:=hS (Js f.k);have Aq:sel hs 7 (Js f.k) fs≠[]:=by unfold sel;intro e;have:=List.map_eq_nil_iff.1 e;have KT:f∈fs.filter λg=>decide (Jb 7 (Js g.k) 5=Js f.k):=IZ.2 ⟨hf,by simp[h7]⟩;rw[this]at KT;cases KT
     unfold Gp at h1;rw[if_neg Aq]at h1;obtain⟨t,T1,T2,rfl,ht,_⟩:=OY h1;exact AY.2 ⟨t,by simp,ht⟩
    simp[hm]
   have e3:(((S.filter λt=>decide (Jb m t.k 5=k)).map λt=>sel hs 7 t.k fs).flatten)=((((S.map (·.k)).filter λκ=>decide (Jb m κ 5=k)).flatMap λκ=>fs.filter λf=>decide (Jb 7 (Js f.k) 5=κ)).map λf=>(hs f.it,f.v)):=by
    clear p p2 e1 e2 h hS hn
    induction S with
    |nil=>rfl
    |cons t S ih=>
     simp only[List.filter_cons,DW];by_cases e:Jb m t.k 5=k
     ·simp only[e,decide_true,if_true,DW,List.flatten_cons,List.flatMap_cons,List.map_append,ih];rfl
     ·simp only[e,decide_false,EK,if_false,ih]
   rw[e3];rw[e2]at p2;exact p2
 ·obtain⟨t,ht,rfl⟩:=AY.1 hA;have ht:=(IZ.1 ht).1;refine⟨Jjk hh _ _,λe=>?_⟩;have h1:=hS t.k;rw[U7 hn ht]at h1;unfold Gp at h1;rw[if_pos e]at h1;cases h1
end
end Go.Sim.Z
namespace Go.Sim.Z
open Go Go.Proofs Go.RowKit Go.Conc Go.Maps
noncomputable def b4:Code:=f4.body.getD .skip
section
variable{w:JE}{f:Nat->JJ}{ga:JI}{fs:List Jg}{cap:Nat}{pl:List Nat}{cb:Nat}{v:JJ}{K:Int}{d:Deferred}
end
theorem Jnj{P:Program}{fn:JG}{f:Func}{t:JC}{todo:List Item}{x:Tmp}{w:JE}(hf:P.funcs[fn]?=some f)(hr:f.results=#[.tmp x])(hi:P.inits.idxOf? fn=none) :
  stepG P true (G { (Go.Conc.base fn).at ⟨t,[]⟩ todo with mode:=.returning } []) w=.ended (.done (t.getD x JA)) w #[]:=by
 have h1:=results_tmp hr t P w;have h2:=events_results_tmp (P:=P) (w:=w) hr t #[];simp only[G,stepG,unwind,Frame.at,Go.Conc.base,hf,Sem.runT_eq,h1,h2,doReturn,hi,GStep.after];simp[seen_none]
def V3(c:Int)(n:Nat):J8:=⟨4+Ju c 1048576 % 3,1+Ju c 1048576 / 3 % 8,some ⟨n,0,none⟩,4,4⟩
theorem dQ(c:Int)(n:Nat):Jw (V3 c n):=by have:=YP (c:=c) (n:=1048576) (by omega);refine⟨?_,?_,?_,?_,?_⟩<;>simp only[V3]<;>omega
theorem gB:FB.Pairwise (· < ·):=by decide
section
variable{w:JE}{T:JC}{d:Deferred}{c:Int}{sl:JJ}{la ga:JI}{n cb x cap lc:Nat}
end
section
variable{W E:JB}{w w' w2:JE}{ga la:JI}{fs:List Jg}{rs:List Gt}{cap:Nat}{pl:List Nat}
theorem Jt3{w:JE}{a:Addr}{v:JJ}(h:w.cell? a=some v):∃o,w.heap[a.block]?=some o/\Dat o:=by
 unfold World.cell? at h;cases ho:w.heap[a.block]? with
 |none=>rw[ho]at h;cases h
 |some o=>
  rw[ho]at h;cases o with
  |cells c el fz=>exact⟨_,rfl,trivial⟩
  |_=>cases h
theorem Fa.ke(hW:WR C0 (okP C0 S0) (idE E) w w2)(hg:∀a,ga=some a->E a.block)(k:KE E w w')(h:Fa false w ga fs cap pl):∃Lr,(∀y∈Lr,y∈pl/\E y/\∃o,w'.heap[y]?=some o/\Dat o)/\Fa false w' ga fs cap Lr:=by
 classical
 refine⟨pl.filter λb=>decide (E b/\∃o,w.heap[b]?=some o/\Dat o),λy hy=>?_,λy hy=>?_,λi f hf=>?_,h.cap⟩
 ·obtain⟨h1,h2⟩:=IZ.1 hy;obtain⟨h3,o,h4,h5⟩:=of_decide_eq_true h2;exact⟨h1,h3,o,k _ _ h3 h4 h5,h5⟩
 ·obtain⟨h1,h2⟩:=IZ.1 hy;obtain⟨h3,o,h4,h5⟩:=of_decide_eq_true h2;exact Ji (k _ _ h3 h4 h5)
 ·obtain⟨g,kb,kc,h1,h2,h3,h4⟩:=h.at_ i f hf;have eg:E g:=hg _ h1;have ek:E kb:=(hW.Uu eg h4.ck).Ik;obtain⟨cur,hb,MK⟩:=h4.row;obtain⟨z,hz,D7⟩:=id hb;refine⟨g,kb,kc,h1,IZ.2 ⟨h2,decide_eq_true ⟨eg,Jt3 h4.ck⟩⟩,IZ.2 ⟨h3,decide_eq_true ⟨ek,_,hz,trivial⟩⟩,k.cell eg h4.ck,k.cell eg h4.ci,k.cell eg h4.cv,cur,k.blk ek hb,MK⟩
theorem Row.keE{b:Nat}{t:JH}{q:IntKind}{xs:JD}(h:Row false w b t q xs cap)(k:KE E w w')(hb:E b):Row false w' b t q xs cap:=by obtain⟨cur,h1,h2⟩:=h;exact⟨cur,k.blk hb h1,h2⟩
theorem CJ.of_empty{b:Nat}(h:w.heap[b]?=some (.map #[] 0)):CJ w b []:=by
 obtain⟨es,clock,h2,h3,h4,h5⟩:=World.ownsMap_made w prog 76 (H:=JJ) Rv;rw[show(w.alloc (.map #[] 0)).heap[w.heap.size]?=some (.map #[] 0)from Ja _]at h2;cases h2;exact⟨λp hp=>by simp at hp,by simp,[],.refl _,0,#[],0,h,h3,h4,h5⟩
theorem TabAt.of_empty{c:J8}{b:Nat}(h:w.heap[b]?=some (.map #[] 0)):TabAt false w c b []:=
 ⟨CJ.of_empty h,λt ht=>(by cases ht),λt ht=>(by cases ht),(by simp[tpl]),.nil⟩
end
theorem Jz1{c:J8}{bs:JD}{A:List (Int × Int)}(hA:(A.length:Int)<=9223372036854775807):∀x∈(Jq c bs A).h,0<=x/\x<=A.length:=by
 induction A using fA with
 |nil=>
  intro x hx;obtain rfl:=List.eq_of_mem_replicate (show x∈List.replicate (c.nb+1) 0 from hx);exact⟨by omega,by simp⟩
 |append_singleton A f ih=>
  rw[List.length_append,List.length_singleton]at hA ⊢;have ih:=ih (by omega);rw[dM];intro x hx;rcases mem_set (show x∈(Jq c bs A).h.set _ _ from hx)with rfl|hx
  ·have hg:0<=(Jq c bs A).h.getD (Lh bs f.2) 0/\(Jq c bs A).h.getD (Lh bs f.2) 0<=A.length:=by
    rw[CP];cases he:(Jq c bs A).h[Lh bs f.2]? with
    |none=>simp
    |some z=>exact ih z (NK he)
   unfold wrap64;omega
  ·have:=ih x hx;omega
theorem Jnk(hs:Int->Int)(m:Nat)(k:JD)(fs:List Jg):(sel hs m k fs).length<=fs.length:=by unfold sel;rw[Et];exact List.length_filter_le _ _
section
variable{c:J8}{bs:JD}{hs:Int->Int}{fs:List Jg}{T:List TR}{m:Nat}
theorem dS(hn:(T.map (·.k)).Nodup)(hT:∀k,tm T k=Gp c bs (sel hs m k fs)){t:TR}(ht:t∈T):t.B=Jq c bs (sel hs m t.k fs)/\∃f∈fs,Jb m (Js f.k) 5=t.k:=by
 have h1:=hT t.k;rw[U7 hn ht]at h1;unfold Gp at h1;split at h1
 ·cases h1
 ·rename_i Aq;refine⟨Aa h1,?_⟩;cases D6:sel hs m t.k fs with
  |nil=>exact absurd D6 Aq
  |cons x l=>
   have hx:x∈sel hs m t.k fs:=by rw[D6];exact .head _
   obtain⟨f,hf,_⟩:=AY.1 hx;obtain⟨h2,h3⟩:=IZ.1 hf;exact⟨f,h2,of_decide_eq_true h3⟩
theorem Jlg(hT:∀k,tm T k=Gp c bs (sel hs m k fs)){f:Jg}(hf:f∈fs):∃t∈T,t.k=Jb m (Js f.k) 5:=by
 have h1:=hT (Jb m (Js f.k) 5);have Aq:sel hs m (Jb m (Js f.k) 5) fs≠[]:=by unfold sel;intro e;have:=List.map_eq_nil_iff.1 e;have KT:f∈fs.filter λg=>decide (Jb m (Js g.k) 5=Jb m (Js f.k) 5):=IZ.2 ⟨hf,by simp⟩;rw[this]at KT;cases KT
 unfold Gp at h1;rw[if_neg Aq]at h1;obtain⟨t,T1,T2,rfl,ht,_⟩:=OY h1;exact⟨t,by simp,ht⟩
theorem Jjl{k:JD}(h:k.length=5):Jb 0 k 5=[0,0,0,0,0]:=by obtain⟨a,b,d,e,f,rfl⟩:=VJ h;simp[Jb,List.zipIdx_cons]
theorem sel0(h3:∀f∈fs,f.k.length=3):sel hs 0 [0,0,0,0,0] fs=fs.map λf=>(hs f.it,f.v):=by unfold sel;rw[List.filter_eq_self.2 λf hf=>?_];rw[Jjl (Jqj (h3 f hf))];simp
where Jqj {ks:JD} (h:ks.length=3):(Js ks).length=5:=J45 (by omega)
end
def U64:List (JD):=(List.range 64).map λi=>[((i / 16:Nat):Int),((i / 4 % 4:Nat):Int),((i % 4:Nat):Int),0,0]
theorem Jwd(r:Gt):Js r.fact.k∈U64:=by
 have p:∀c,0<=Ju c 4/\Ju c 4<4:=λc=>by have:=YP (c:=c) (n:=4) (by omega);omega
 have ha:=p r.a;have hb:=p r.b;have hc:=p r.c;refine AY.2 ⟨((Ju r.a 4)*16+(Ju r.b 4)*4+Ju r.c 4).toNat,List.mem_range.2 (by omega),?_⟩;simp only[Gt.fact,Js,Gu,List.length_nil,Hr,Gm,List.cons.injEq];refine⟨by omega,by omega,by omega,rfl⟩
theorem Jwe:U64.length=64:=by simp[U64]
theorem Jz2(y:Int):0<=IntKind.u64.wrap y/\IntKind.u64.wrap y<=18446744073709551615:=by
 have e:IntKind.u64.wrap y=y % 18446744073709551616:=by simp[IntKind.wrap,IntKind.signed,IntKind.bits]
 omega
section
variable{W E:JB}{w:JE}{fn:JG}{c rest:Code}{t:JC}{k:List Item}{cs:List Frame}{Q:JC->JE->Prop}{Post:(JB)->JF->JE->Prop}
end
theorem hl4{i:Nat}(h:(C0.hl 4).contains i=true):i=1\/i=34\/500<=i:=by have h':i∈[1,34,1000]:=Nh.1 h;simp at h';omega
section
variable{w:JE}{T:JC}{d:Deferred}{v:JJ}{sl:JJ}{cb:Nat}
end
structure HS(fn:JG)(W E0:JB)(w0:JE)(E:JB)(T:JC)(w:JE):Prop where
 bok:BOk C0 S0 W E w
 le:∀b,E0 b->E b
 ke:KE E0 w0 w
 kw:∀b,W b->w.heap[b]?=w0.heap[b]?
 tm:TmR C0 S0 fn (idE E) T T
 own:S0.own fn=[]
 sz:w0.heap.size<=w.heap.size
section
variable{fn:JG}{W E0 E:JB}{w0 w:JE}{T:JC}{ops:Array Oper}{i:Nat}{rest:List Nat}{o:Oper}{s:Nat}{v:JJ}{k:List Item}{cs:List Frame}{Post:(JB)->JF->JE->Prop}
theorem HS.at(h:HS fn W E0 w0 E T w)(d:Nat):HS fn W E0 w0 E T (w.at d):=⟨h.bok.at d,h.le,h.ke.trans (.of_eq λ_ _=>rfl),h.kw,h.tm,h.own,h.sz⟩
theorem HS.own'(h:HS fn W E0 w0 E T w)(s:Nat):(S0.own fn).contains s=false:=by rw[h.own];rfl
theorem HS.set(h:HS fn W E0 w0 E T w)(hv:(C0.hl fn).contains s=true\/VR C0 (idE E) v v):TmR C0 S0 fn (idE E) (T.setIfInBounds s v) (T.setIfInBounds s v):=by
 rcases hv with hv|hv
 ·exact h.tm.hole hv (h.own' s) v
 ·exact h.tm.set s hv λe=>by rw[h.own' s]at e;cases e
theorem HS.to{E':JB}{w':JE}(h:HS fn W E0 w0 E T w)(hB:BOk C0 S0 W E' w')(hs:∀b,E b->E' b)(he:KE E w w')(hw:∀b,W b->w'.heap[b]?=w.heap[b]?)(hz:w.heap.size<=w'.heap.size):HS fn W E0 w0 E' T w':=
 ⟨hB,λb hb=>hs b (h.le b hb),h.ke.trans (he.mono h.le),λb hb=>(hw b hb).trans (h.kw b hb),h.tm.mono (Ox hs),h.own,BL h.sz hz⟩
theorem HS.put(h:HS fn W E0 w0 E T w){T':JC}(ht:TmR C0 S0 fn (idE E) T' T'):HS fn W E0 w0 E T' w:=⟨h.bok,h.le,h.ke,h.kw,ht,h.own,h.sz⟩
theorem HS.start(h:HS fn W E0 w0 E T w):HS fn W E w E T w:=⟨h.bok,λ_ h=>h,.refl,λ_ _=>rfl,h.tm,h.own,Ad _⟩
theorem HS.comp{E':JB}{T':JC}{w':JE}(h:HS fn W E0 w0 E T w)(k:HS fn W E w E' T' w'):HS fn W E0 w0 E' T' w':=⟨k.bok,λb hb=>k.le b (h.le b hb),h.ke.trans (k.ke.mono h.le),λb hb=>(k.kw b hb).trans (h.kw b hb),k.tm,k.own,BL h.sz k.sz⟩
theorem Jc(h:HS fn W E0 w0 E T w)(ho:ops[i]?=some o)(hw:Region.wanted o (yielded ops T)=true)(hd:o.dst=some s)(hr:∀w1,(execOp (Act.eval ⟨T,[]⟩) o).run prog w1=.ok (.value v) w1)(he:∀w1,(execOp (Act.eval ⟨T,[]⟩) o).events prog w1 #[]=#[])
  (hv:(C0.hl fn).contains s=true\/VR C0 (idE E) v v) (kn:∀w',HS fn W E0 w0 E (T.setIfInBounds s v) w'->w'.heap=w.heap->Reach prog Post W (G ((base fn).at ⟨T.setIfInBounds s v,[]⟩ (.inRegion ops rest::k)) cs) w') :
  Reach prog Post W (G ((base fn).at ⟨T,[]⟩ (.inRegion ops (i::rest)::k)) cs) w:=by
 refine J6 (λw1=>NP (v:=v) ho hw (by simp[base]) (hr w1) (he w1)) rfl λd=>?_;rw[hd];exact kn _ ((h.put (h.set hv)).at d) rfl
theorem Jlh(h:HS fn W E0 w0 E T w)(ho:ops[i]?=some o)(hw:Region.wanted o (yielded ops T)=false)(hd:o.dst=some s)
  (kn:∀w',HS fn W E0 w0 E (T.setIfInBounds s JA) w'->w'.heap=w.heap->Reach prog Post W (G ((base fn).at ⟨T.setIfInBounds s JA,[]⟩ (.inRegion ops rest::k)) cs) w') :
  Reach prog Post W (G ((base fn).at ⟨T,[]⟩ (.inRegion ops (i::rest)::k)) cs) w:=by
 refine J6 (λw1=>stepG_unwanted ho hw) rfl λd=>?_;rw[hd];exact kn _ ((h.put (h.set (.inr .undef))).at d) rfl
theorem uP(h:HS fn W E0 w0 E T w){a:Addr}(hW:W a.block)(hT:∀c z,w.heap[a.block]?≠some (.cells c wgT z))(hc:w.cell? a=some v)(ho:ops[i]?=some o)(hw:Region.wanted o (yielded ops T)=true)(hd:o.dst=some s)
  (hr:∀w1,w1.cell? a=some v->(execOp (Act.eval ⟨T,[]⟩) o).run prog w1=.ok (.value v) w1) (he:∀w1,w1.cell? a=some v->(execOp (Act.eval ⟨T,[]⟩) o).events prog w1 #[]=#[⟨.cell a,false,false⟩])
  (hv:(C0.hl fn).contains s=true\/VR C0 (idE E) v v) (kn:∀w',HS fn W E0 w0 E (T.setIfInBounds s v) w'->(∀b,E b\/W b->w'.heap[b]?=w.heap[b]?)->w'.heap.size=w.heap.size->Reach prog Post W (G ((base fn).at ⟨T.setIfInBounds s v,[]⟩ (.inRegion ops rest::k)) cs) w') :
  Reach prog Post W (G ((base fn).at ⟨T,[]⟩ (.inRegion ops (i::rest)::k)) cs) w:=by
 have hB:=h.bok;have Ac:a.block<w.heap.size:=by
  unfold World.cell? at hc;cases hb:w.heap[a.block]? with
  |none=>rw[hb]at hc;cases hc
  |some x=>exact(BQ.1 hb).1
 have hR:Runs false prog true (λy=>y.g=G ((base fn).at ⟨T.setIfInBounds s v,[]⟩ (.inRegion ops rest::k)) cs/\(∀b,E b->y.w.heap[b]?=w.heap[b]?)/\y.w.heap.size=w.heap.size/\y.w.os=w.os) ⟨E,λb=>E b\/b=a.block,G ((base fn).at ⟨T,[]⟩ (.inRegion ops (i::rest)::k)) cs,w⟩:=by
  refine .step (λw1=>⟨grown E w1 w1,grown (λb=>E b\/b=a.block) w1 w1,G ((base fn).at ⟨T.setIfInBounds s v,[]⟩ (.inRegion ops rest::k)) cs,w1⟩) (λw1 r=>⟨?_,rfl,rfl,rfl,rfl,rfl⟩) λw1 r=>.stop λw2 r2=>⟨rfl,λb hb=>?_,?_,?_⟩
  ·have DU:w1.cell? a=some v:=(DX (r.blocks a.block (.inr rfl))).trans hc;refine⟨listed prog (base fn).fn ⟨T,[]⟩ o w1,?_,⟨Ad _,λ_ _ _=>rfl,rfl,rfl,Ad _,λe FD=>?_⟩⟩
   ·rw[stepG_value ho hw (by simp[base]) (hr w1 DU),hd];rfl
   ·have h1:=mem_seen FD;rw[he w1 DU]at h1;simp only[List.mem_toArray,AO,C9,or_false]at h1;subst h1;exact⟨⟨.inl (.inr rfl),λh=>by cases h⟩,rfl⟩
  ·exact(r2.blocks b (.inl (.inl hb))).trans (r.blocks b (.inl hb))
  ·exact(r2.same rfl).trans (r.same rfl)
  ·exact r2.os.trans r.os
 refine Reach.Jiy (Z:=λ_=>False) hR rfl (λb c z hb ht hx=>?_) hB.dis (λb hb=>hb.elim) (λb hb=>hb.elim (λhb=>hB.lt hb) λe=>e▸Ac) ?_
 ·rcases hx with hx|rfl
  ·exact hB.dis b hb hx
  ·exact hT c z ht
 rintro⟨own,X,g,wy⟩ ⟨rfl,h1,h2,h3⟩ _ _ _ hK;simp only at h1 h2 h3;have FU:BOk C0 S0 W E wy:=hB.rely rfl ⟨h1,Nat.le_of_eq h2.symm,λ_=>h2,h3⟩;exact kn wy ((h.put (h.set hv)).to FU (λ_ h=>h) (.of_eq h1) hK.keep (Nat.le_of_eq h2.symm)) (λb hb=>hb.elim (h1 b) (hK.keep b)) h2
theorem Jjm(h:HS fn W E0 w0 E T w){arr:JC}{ty:JH}(ho:ops[i]?=some o)(hw:Region.wanted o (yielded ops T)=true)(hd:o.dst=some s)
  (hr:∀w1,w1.heap.size=w.heap.size->(execOp (Act.eval ⟨T,[]⟩) o).run prog w1=.ok (.value v) (w1.alloc (.cells arr ty))) (he:∀w1,(execOp (Act.eval ⟨T,[]⟩) o).events prog w1 #[]=#[])
  (ha:∀x∈arr.toList,VR C0 (idE E) x x) (hv:(C0.hl fn).contains s=true\/VR C0 (idE λb=>E b\/b=w.heap.size) v v)
  (kn:∀w',HS fn W E0 w0 (λb=>E b\/b=w.heap.size) (T.setIfInBounds s v) w'->(∀b,E b\/W b->w'.heap[b]?=w.heap[b]?)->w'.heap[w.heap.size]?=some (.cells arr ty)->w'.heap.size=w.heap.size+1->Reach prog Post W (G ((base fn).at ⟨T.setIfInBounds s v,[]⟩ (.inRegion ops rest::k)) cs) w') :
  Reach prog Post W (G ((base fn).at ⟨T,[]⟩ (.inRegion ops (i::rest)::k)) cs) w:=by
 refine Reach.mid (Mid:=λg' w'=>g'=G ((base fn).at ⟨T.setIfInBounds s v,[]⟩ (.inRegion ops rest::k)) cs/\BOk C0 S0 W (λb=>E b\/b=w.heap.size) w'/\w'.heap.size=w.heap.size+1/\(∀b,E b->w'.heap[b]?=w.heap[b]?)/\w'.heap[w.heap.size]?=some (.cells arr ty)) ?_ λg' w' ⟨e,h1,h2,h3,h4⟩ hK=>?_
 ·refine Reach.alloc (C:=C0) (S:=S0) (g':=G ((base fn).at ⟨T.setIfInBounds s v,[]⟩ (.inRegion ops rest::k)) cs) (o:=.cells arr ty) rfl h.bok rfl rfl rfl rfl ⟨_,_,rfl,.gW (λx hx=>(ha x hx).mono (Ox λb hb=>.inl hb)),λh=>(C0.lax rfl _ h).elim,λ_=>⟨rfl,λ_=>rfl⟩⟩ (λw1 Cc=>?_) λw' h1 h2 h3 h4=>Reach.here ⟨rfl,rfl,h1,h2,h3,h4⟩;show stepG prog true _ w1=_;rw[stepG_value ho hw (by simp[base]) (hr w1 Cc),hd];unfold listed;rw[he w1,seen_none];rfl
 ·subst e;have h5:HS fn W E0 w0 (λb=>E b\/b=w.heap.size) T w':=h.to h1 (λb hb=>.inl hb) (.of_eq h3) hK (by omega);exact kn w' (h5.put (h5.set hv)) (λb hb=>hb.elim (h3 b) (hK b)) h4 h2
theorem Jdu(h:HS fn W E0 w0 E T w){pre:List Nat}{Q:JC->JE->Prop}(hX:La C0 S0 fn ops pre=true)(MK:rest≠[])(hb:GH C0 fn)(Oq:S0.df.contains fn=false)(hl:C0.hl fn≠[])
  (K:∀τ,wpOps prog ops (λe a w1=>e=.normal/\a.defers=[Jp]/\(∀i,(C0.hl fn).contains i=true->i<T.size->a.tmps[i]?=T[i]?)/\Q a.tmps w1) pre ⟨T,[Jp]⟩ (w.tp τ 0))
  (kn:∀E' T' w1 w',(∀b,E b->E' b)->BOk C0 S0 W E' w'->WR C0 (okP C0 S0) (idE E') w1 w'->TmR C0 S0 fn (idE E') T' T'->Q T' w1->(∀b,W b->w'.heap[b]?=w.heap[b]?)->Reach prog Post W (G ((base fn).at ⟨T',[]⟩ (.inRegion ops rest::k)) cs) w') :
  Reach prog Post W (G ((base fn).at ⟨T,[]⟩ (.inRegion ops (pre++rest)::k)) cs) w:=by
 refine Reach.mid (Mid:=λg' w'=>∃E' T' w1,g'=G ((base fn).at ⟨T',[]⟩ (.inRegion ops rest::k)) cs/\(∀b,E b->E' b)/\BOk C0 S0 W E' w'/\WR C0 (okP C0 S0) (idE E') w1 w'/\TmR C0 S0 fn (idE E') T' T'/\Q T' w1) ?_ λg' w' ⟨E',T',w1,e,h1,h2,h3,h4,h5⟩ hK=>?_
 ·exact Reach.toOps (b:=base fn) MZ rfl hX MK hb Oq hl (by simp[base]) h.bok h.tm K λE' T' w1 w' h1 h2 h3 h4 h5=>Reach.here ⟨rfl,E',T',w1,rfl,h1,h2,h3,h4,h5⟩
 ·subst e;exact kn E' T' w1 w' h1 h2 h3 h4 h5 hK
end
end Go.Sim.Z
