/- Proved: laws for the claim. No conditions. -/
import Derived.Test.YtlcbehhbfglgaaaGreatDoorC15
set_option linter.all false
open Go.Proofs.Tryz
namespace Go.Sim.Z
open Go Go.Proofs Go.RowKit
def Jh{α:Type}{l:List α}{n:Nat}(h:l.length=n+1):∃x l',l=x::l'/\l'.length=n:=by
 cases l with
 |nil=>simp at h
 |cons x l=>grind
def J04q{T:JC}(h:T.size=49):∃x0 x1 x2 x3 x4 x5 x6 x7 x8 x9 Rq Zq Zr Zt Zu U2 VF VG U3 U4 Yb Yc Yd Ye Yf Zv VH VI Zw Zx Zy Zz Z4 VJ Z5 Z7 Z8 Z9 ZA ZB ZC ZE ZF ZG ZH ZI ZJ ZK ZL,T=#[x0,x1,x2,x3,x4,x5,x6,x7,x8,x9,Rq,Zq,Zr,Zt,Zu,U2,VF,VG,U3,U4,Yb,Yc,Yd,Ye,Yf,Zv,VH,VI,Zw,Zx,Zy,Zz,Z4,VJ,Z5,Z7,Z8,Z9,ZA,ZB,ZC,ZE,ZF,ZG,ZH,ZI,ZJ,ZK,ZL]:=by
 obtain⟨l⟩:=T;simp only[List.size_toArray]at h;obtain⟨x0,l0,e0,h⟩:=Jh h;obtain⟨x1,l1,e1,h⟩:=Jh h;obtain⟨x2,l2,e2,h⟩:=Jh h;obtain⟨x3,l3,e3,h⟩:=Jh h;obtain⟨x4,l4,e4,h⟩:=Jh h;obtain⟨x5,l5,e5,h⟩:=Jh h;obtain⟨x6,l6,e6,h⟩:=Jh h;obtain⟨x7,l7,e7,h⟩:=Jh h;obtain⟨x8,l8,e8,h⟩:=Jh h;obtain⟨x9,l9,e9,h⟩:=Jh h;obtain⟨Rq,l10,MZ,h⟩:=Jh h;obtain⟨Zq,l11,QA,h⟩:=Jh h;obtain⟨Zr,l12,WQ,h⟩:=Jh h;obtain⟨Zt,l13,NW,h⟩:=Jh h;obtain⟨Zu,l14,O5,h⟩:=Jh h;obtain⟨U2,lJ,KG,h⟩:=Jh h;obtain⟨VF,lM,PG,h⟩:=Jh h;obtain⟨VG,l17,PK,h⟩:=Jh h;obtain⟨U3,l18,Na,h⟩:=Jh h;obtain⟨U4,l19,S9,h⟩:=Jh h;obtain⟨Yb,l20,Vl,h⟩:=Jh h;obtain⟨Yc,l21,WU,h⟩:=Jh h;obtain⟨Yd,l22,WV,h⟩:=Jh h;obtain⟨Ye,l23,WW,h⟩:=Jh h;obtain⟨Yf,l24,QB,h⟩:=Jh h;obtain⟨Zv,l25,WX,h⟩:=Jh h;obtain⟨VH,l26,Vm,h⟩:=Jh h;obtain⟨VI,l27,vS,h⟩:=Jh h;obtain⟨Zw,l28,e28,h⟩:=Jh h;obtain⟨Zx,l29,e29,h⟩:=Jh h;obtain⟨Zy,l30,e30,h⟩:=Jh h;obtain⟨Zz,l31,e31,h⟩:=Jh h;obtain⟨Z4,l32,e32,h⟩:=Jh h;obtain⟨VJ,l33,e33,h⟩:=Jh h;obtain⟨Z5,l34,e34,h⟩:=Jh h;obtain⟨Z7,l35,e35,h⟩:=Jh h;obtain⟨Z8,l36,e36,h⟩:=Jh h;obtain⟨Z9,l37,e37,h⟩:=Jh h;obtain⟨ZA,l38,e38,h⟩:=Jh h;obtain⟨ZB,l39,e39,h⟩:=Jh h;obtain⟨ZC,l40,e40,h⟩:=Jh h;obtain⟨ZE,l41,e41,h⟩:=Jh h;obtain⟨ZF,l42,e42,h⟩:=Jh h;obtain⟨ZG,l43,e43,h⟩:=Jh h;obtain⟨ZH,l44,e44,h⟩:=Jh h;obtain⟨ZI,l45,e45,h⟩:=Jh h;obtain⟨ZJ,l46,e46,h⟩:=Jh h;obtain⟨ZK,l47,e47,h⟩:=Jh h;obtain⟨ZL,l48,e48,h⟩:=Jh h;subst e0 e1 e2 e3 e4 e5 e6 e7 e8 e9 MZ QA WQ NW O5 KG PG PK Na S9 Vl WU WV WW QB WX Vm vS e28 e29 e30 e31 e32 e33 e34 e35 e36 e37 e38 e39 e40 e41 e42 e43 e44 e45 e46 e47 e48;cases l48 with
 |nil=>grind
 |cons x l=>simp at h
def Gz(T:List TR):List (JD × Bun):=T.map λt=>(t.k,t.B)
def Oo(T:List TR)(l:List Je):List (JD × Bun):=l.filterMap λk=>(tm T k.1).map λB=>(k.1,B)
def Jjv(T:List TR)(l l':List Je):Oo T (l++l')=Oo T l++Oo T l':=List.filterMap_append
def TL(w:JE)(c:J7)(m:Nat)(Pl:JB)(n:Nat)(E:List (JD × Bun))(wr:JE):Prop:=
 ∃T,TabAt false wr c m T/\Sum c (tm T) E/\T.length<=n/\(∀x,x=m\/x∈tpl T->Pl x\/w.heap.size<=x)/\Tch w.heap.size Pl w wr
section
variable{c:J7}{m:Nat}{Pl:JB}{n:Nat}{E:List (JD × Bun)}{w wr w' w2:JE}
def TL.skip(h:TL w c m Pl n E wr)(ht:Tch wr.heap.size M0 wr w'):TL w c m Pl n E w':=by obtain⟨T,h1,h2,h3,h4,h5⟩:=h;exact⟨T,h1.kept λx hx=>ht.heap x (h1.lt x hx) λh=>h,h2,h3,h4,h5.trans (ht.mono h5.size λ_ _ h=>h.elim)⟩
def TL.take{P:List TR}{mp:Nat}{x:Je}{t:TR}(h:TL w c m Pl n E wr)(hq:Tch wr.heap.size M0 wr w2)(hc:CZ c)(hP:TabAt false w c mp P)(hd:∀y,y=mp\/y∈tpl P->¬Pl y)(hPw:∀y,y=mp\/y∈tpl P->y<w.heap.size)(ht:t∈P)(hk:x.1=t.k)(hn:n<=100000) :
  Calls prog 76 #[.map (some m),.agg (ai .i64 x.1),JL t.p.b] w2 λe w'=>(∃v,e=.returned v)/\TL w c m Pl (n+1) (E++[(x.1,t.B)]) w'/\∀b,wr.heap.size<=b\/b=mp->b<w2.heap.size->w'.heap[b]?=w2.heap[b]?:=by
 have hs:=h.skip hq;obtain⟨T,h1,_,_,h4,h5⟩:=h;obtain⟨_,_,h2,h3,_,II⟩:=hs;have Vo:TabAt false w2 c m T:=h1.kept λx hx=>hq.heap x (h1.lt x hx) λh=>h;rename_i h2o h3o _ _ _;have hb:=(hP.bun t ht).kept (w':=w2) λy hy=>II.heap y (hPw y (.inr (Jo.2 ⟨t,ht,hy⟩))) (hd y (.inr (Jo.2 ⟨t,ht,hy⟩)));refine(Jln Vo x.2 hb (hP.ok t ht) hc (λy hy=>?_) (by omega)).mono ?_
 .grind[Jo]
 .rintro e w' ⟨hv,T',k1,k2,k3,k4,k5⟩;refine⟨hv,⟨T',k1,h2o.put k2,by omega,λy hy=>?_,II.trans (k5.mono II.size λy hy hm=>?_)⟩,λb hb Ac=>k5.heap b Ac λhm=>?_⟩
  .rcases hy with hy|hy
   .grind
   .rcases k4 y hy with h|h
    .grind
    .exact .inr (BN II.size h)
  .grind
  .rcases hb with hb|rfl
   .have:=h1.lt b hm;omega
   .have:=hPw b (.inl rfl)
    grind
end
theorem YJ.at{w:JE}{base:Nat}{v:JJ}{ks:List Je}(h:YJ w base v ks):∃ka kc,KAt false w ka kc ks/\v=.slice ka ks.length kc/\∀a,ka=some a->base<=a.block/\a.block<w.heap.size:=by
 rcases h with⟨rfl,rfl⟩|⟨g,cap,cur,h1,h2,h3,h4,h5,h6,h7,h8⟩
 .exact⟨none,0,.inl ⟨rfl,rfl⟩,rfl,λa e=>by cases e⟩
 .exact⟨_,cap,.inr ⟨g,cur,rfl,⟨(0,0),h3,λ_=>rfl⟩,h4,h6,h8,h7⟩,h1,λa e=>by grind⟩
def Jnn(ss:List Je):(sortK ss).Perm ss:=List.mergeSort_perm _ _
def keysOf.keys{L:List (JD × JJ)}{ks:List Je}(h:keysOf L ks):(ks.map (·.1)).Perm (L.map (·.1)):=by obtain⟨ss,h1,rfl⟩:=h;exact((Jnn ss).map _).trans h1
def keysOf.length{L:List (JD × JJ)}{ks:List Je}(h:keysOf L ks):ks.length=L.length:=by
 have:=h.keys.length_eq
 grind
theorem TJ{T:List TR}(hn:(T.map (·.k)).Nodup){t:TR}(ht:t∈T):tm T t.k=some t.B:=by
 induction T with
 |nil=>simp at ht
 |cons s T ih=>
  simp only[D5,List.nodup_cons]at hn;unfold tm at ih ⊢
  grind
theorem Jg8(T:List TR):(T.map TR.kv).map (·.1)=T.map (·.k):=by rw[List.map_map];rfl
theorem keysOf.row{T:List TR}{ks:List Je}(h:keysOf (T.map TR.kv) ks)(hn:(T.map (·.k)).Nodup){x:Je}(hx:x∈ks):∃t∈T,t.k=x.1/\tm T x.1=some t.B:=by
 have hm:x.1∈(T.map TR.kv).map (·.1):=h.keys.mem_iff.1 (List.mem_map_of_mem hx)
 grind[Jg8,TJ]
def Jno{T:List TR}{ks:List Je}(hn:(T.map (·.k)).Nodup)(h:keysOf (T.map TR.kv) ks):(Oo T ks).Perm (Gz T):=by
 have hp:=h.keys;rw[Jg8]at hp;have e1:Oo T ks=(ks.map (·.1)).filterMap λk=>(tm T k).map λB=>(k,B):=by
  unfold Oo
  simp_all
 have e2:Gz T=(T.map (·.k)).filterMap λk=>(tm T k).map λB=>(k,B):=by
  unfold Gz;have gen:∀l:List TR,(∀t∈l,t∈T)->(l.map λt=>(t.k,t.B))=(l.map (·.k)).filterMap λk=>(tm T k).map λB=>(k,B):=by
   intro l
   induction l with
   |nil=>grind
   |cons t l ih=>
    grind[TJ]
  grind
 grind
section
variable{c:J7}{C m0:Nat}{T0:List TR}{E0:List (JD × Bun)}{mp:Nat->Nat}{P:Nat->List TR}{w:JE}
set_option maxRecDepth 100000 in
set_option maxHeartbeats 4000000 in
def Jyh{x0 x1 x2 x3 x4 x5 x6 x7 x8 x9 Rq Zq Zr Zt Zu U2 VF VG U3 U4 Yb Yc Yd Ye Yf Zv VH VI Zw Zx Zy Zz Z4 VJ Z5 Z7 Z8 Z9 ZA ZB ZC ZE ZF ZG ZH ZI ZJ ZK ZL:JJ}(hc:CZ c)(hC:w.heap[C]?=some (.cells #[.map (some m0),.map (some (mp 0)),.map (some (mp 1)),.map (some (mp 2))] 171))(hT:TabAt false w c m0 T0)(hS:Sum c (tm T0) E0)(hl:T0.length<=1004)
  (hP:∀i,i<3->TabAt false w c (mp i) (P i)/\(P i).length<=1004/\∀x,x=mp i\/x∈tpl (P i)->¬(x=m0\/x∈tpl T0)) (hCm:¬(C=m0\/C∈tpl T0)) (d:Deferred) :
  Kz.wp prog (λe a w1=>e=.ret/\a.tmps[9]?=some x9/\a.tmps[10]?=some Rq/\a.tmps[18]?=some U3/\a.tmps[19]?=some U4/\a.tmps[20]?=some Yb/\a.tmps[21]?=some Yc/\a.tmps[22]?=some Yd/\a.tmps[23]?=some Ye/\a.tmps[24]?=some Yf/\a.tmps[6]?=some (.map (some m0))/\∃EE,EE.Perm (Gz (P 0)++Gz (P 1)++Gz (P 2))/\TL w c m0 (λx=>x=m0\/x∈tpl T0) 4016 (E0++EE) w1) ⟨#[x0,x1,x2,x3,x4,x5,x6,x7,JL C,x9,Rq,Zq,Zr,Zt,Zu,U2,VF,VG,U3,U4,Yb,Yc,Yd,Ye,Yf,Zv,VH,VI,Zw,Zx,Zy,Zz,Z4,VJ,Z5,Z7,Z8,Z9,ZA,ZB,ZC,ZE,ZF,ZG,ZH,ZI,ZJ,ZK,ZL],[d]⟩ w:=by
 have hc0:w.cell? ⟨C,0,none⟩=some (.map (some m0)):=(cell_of hC 0).trans rfl;simp only[Kz,b40,Ld,f33,A8];go_wp2
 go_loopw [29] (λx wr=>∃i:Nat,x=JK (i:Int)/\i<=3/\∃EE,EE.Perm (((List.range i).map λi=>Gz (P i)).flatten)/\TL w c m0 (λx=>x=m0\/x∈tpl T0) (1004+i*1004) (E0++EE) wr) (λx _=>3-(RowKit.intOf x).toNat)
 case atStart=>exact⟨0,rfl,by omega,[],.refl _,T0,hT,by grind,by omega,λx hx=>.inl hx,.refl⟩
 case round=>
  obtain⟨i,rfl,hi,EE,Xe,wX⟩:=hrel;rcases BF i 3 with Ac|Et
  .have CS:(i:Int)<3:=by omega
   have BA:wr.cell? ⟨C,1+i,none⟩=some (.map (some (mp i))):=by
    have hCl:=Jj hC;obtain⟨T,h1,h2,h3,h4,h5⟩:=wX;have:=h5.heap C hCl hCm;rw[Du this,cell_of hC]
    grind
   have hCl:=Jj hC;have Uf:=hP i Ac;have hCM:Cm wr (mp i) ((P i).map TR.kv):=by obtain⟨T,h1,h2,h3,h4,h5⟩:=wX;exact Uf.1.map.kept (h5.heap _ Uf.1.map.lt (Uf.2.2 _ (.inl rfl)))
   have QX:=J73 (mp i) _ wr hCM (by simp;omega)
   go_wp2_with (go_at_call 47;refine QX.mono ?_;rintro e w1 ⟨v,ks,rfl,hk,hr,ht⟩;obtain⟨ka,kc,PZ,rfl,SV⟩:=hr.at)
   obtain⟨T,h1,h2,h3,h4,h5⟩:=wX;have fZ:TL w1 c m0 (λx=>x=m0\/x∈tpl T) (1004+i*1004) (E0++EE) w1:=⟨T,h1.kept λx hx=>ht.heap x (h1.lt x hx) λh=>h,h2,h3,λx hx=>.inl hx,.refl⟩;have Xf:TabAt false w1 c (mp i) (P i):=Uf.1.kept λx hx=>(ht.heap x (DX (Uf.1.lt x hx) h5.size) λh=>h).trans (h5.heap x (Uf.1.lt x hx) (Uf.2.2 x hx));have hPd:∀y,y=mp i\/y∈tpl (P i)->¬(y=m0\/y∈tpl T):=λy hy hm=>(h4 y hm).elim (Uf.2.2 y hy) λh=>by have:=Uf.1.lt y hy;omega
   have hgd:∀a,ka=some a->¬(a.block=m0\/a.block∈tpl T):=λa ha hm=>by
    have:=h1.lt _ hm
    grind
   have Us:=Jno Xf.nodup hk;have hkl:ks.length<=1004:=by have:=hk.length;grind
   go_loopw [36] (λx wr2=>∃j:Nat,x=JK (j:Int)/\j<=ks.length/\TL w1 c m0 (λx=>x=m0\/x∈tpl T) (1004+i*1004+j) (E0++EE++Oo (P i) (ks.take j)) wr2) (λx _=>ks.length-(RowKit.intOf x).toNat)
   case atStart=>exact⟨0,rfl,by omega,by simpa[Oo]using fZ⟩
   case round=>
    obtain⟨j,rfl,hj,dL⟩:=hrel;rcases BF j ks.length with hjlt|hjge
    .have J08d:(j:Int)<ks.length:=by omega
     have hx:ks[j]?=some ks[j]:=DL hjlt;generalize ks[j]=x at hx;have OO:KAt false wr ka kc ks:=by
      obtain⟨T2,k1,k2,k3,k4,k5⟩:=dL;rcases PZ with h|⟨g,cur,q1,q2,q3⟩
      .exact .inl h
      .exact .inr ⟨g,cur,q1,q2.kept (k5.heap g q2.lt (hgd _ q1)),q3⟩
     obtain⟨g,rfl,hg,hpk,BA⟩:=OO.cells hx;obtain⟨x,LU⟩:=x;obtain⟨a0,a1,a2,a3,a4,rfl⟩:∃a0 a1 a2 a3 a4,x=[a0,a1,a2,a3,a4]:=by
      have:=LU.1
      match x,this with
      |[a0,a1,a2,a3,a4],_=>grind
     have q0:=BA 0 (by omega);have q1:=BA 1 (by omega);have q2:=BA 2 (by omega);have q3:=BA 3 (by omega);have q4:=BA 4 (by omega);simp only[List.getD_cons_zero,List.getD_cons_succ,Nat.add_zero]at q0 q1 q2 q3 q4;obtain⟨t,Az,Bc,Dx⟩:=hk.row Xf.nodup (x:=⟨[a0,a1,a2,a3,a4],LU⟩) (NR hx);have Dk:TabAt false wr c (mp i) (P i):=by obtain⟨T2,k1,k2,k3,k4,k5⟩:=dL;exact Xf.kept λy hy=>k5.heap y (Xf.lt y hy) (hPd y hy)
     have Xz:Tch wr.heap.size M0 wr (wr.alloc (.cells #[JK a0,JK a1,JK a2,JK a3,JK a4] 104)).drew:=(Tch.refl.alloc (Ad _) _).drew;have Gs:=Dk.kept λy hy=>Xz.heap y (Dk.lt y hy) λh=>h;have Ew:=Gs.map.lookup LU;have CJ:look ((P i).map TR.kv) [a0,a1,a2,a3,a4]=some (JL t.p.b):=(Jcg Xf.map.nodup).2 (AZ.2 ⟨t,Az,by simp[TR.kv,Bc]⟩);rw[CJ]at Ew;have oU:=dL.take Xz (x:=⟨_,LU⟩) hc Xf hPd Xf.lt Az Bc.symm (by omega);have xP:Oo (P i) (ks.take (j+1))=Oo (P i) (ks.take j)++[([a0,a1,a2,a3,a4],t.B)]:=by rw[List.take_add_one,hx,Jjv];simp[Oo,Dx]
     rw[List.append_assoc,<- xP]at oU;rw[show ai .i64 [a0,a1,a2,a3,a4]=#[JK a0,JK a1,JK a2,JK a3,JK a4]from rfl]at Ew oU;have Dw:(wr.alloc (.cells #[JK a0,JK a1,JK a2,JK a3,JK a4] 104)).drew.heap[wr.heap.size]?=some (.cells #[JK a0,JK a1,JK a2,JK a3,JK a4] 104):=Ja _;have Bj:Hid (Calls prog 76 #[.map (some m0),.agg #[JK a0,JK a1,JK a2,JK a3,JK a4],JL t.p.b] (wr.alloc (.cells #[JK a0,JK a1,JK a2,JK a3,JK a4] 104)).drew λe w'=>(∃v,e=.returned v)/\TL w1 c m0 (λx=>x=m0\/x∈tpl T) (1004+i*1004+j+1) (E0++EE++Oo (P i) (ks.take (j+1))) w'/\(w'.cell? ⟨wr.heap.size,0,none⟩=some (JK a0)/\w'.cell? ⟨wr.heap.size,1,none⟩=some (JK a1)/\w'.cell? ⟨wr.heap.size,2,none⟩=some (JK a2)/\w'.cell? ⟨wr.heap.size,3,none⟩=some (JK a3)/\w'.cell? ⟨wr.heap.size,4,none⟩=some (JK a4)/\(Instr.lookup 95 (.map (some (mp i))) (.agg #[JK a0,JK a1,JK a2,JK a3,JK a4]) false).run prog w'=.ok (JL t.p.b) w')):=by refine oU.mono ?_;rintro e w' ⟨k1,k2,k3⟩;rw[List.append_assoc]at k2 ⊢;have hz:(wr.alloc (.cells #[JK a0,JK a1,JK a2,JK a3,JK a4] 104)).drew.heap.size=wr.heap.size+1:=size_alloc _;have bU:w'.heap[wr.heap.size]?=some (.cells #[JK a0,JK a1,JK a2,JK a3,JK a4] 104):=(k3 _ (.inl (Ad _)) (by omega)).trans Dw;have SK:=(Gs.map.kept (k3 _ (.inr rfl) Gs.map.lt)).lookup LU;rw[CJ]at SK;exact⟨k1,k2,(cell_of bU 0).trans rfl,(cell_of bU 1).trans rfl,(cell_of bU 2).trans rfl,(cell_of bU 3).trans rfl,(cell_of bU 4).trans rfl,SK⟩
     clear oU;have hf:Hid ((wr.alloc (.cells #[JK a0,JK a1,JK a2,JK a3,JK a4] 104)).drew.cell? ⟨wr.heap.size,0,none⟩=some (JK a0)/\(wr.alloc (.cells #[JK a0,JK a1,JK a2,JK a3,JK a4] 104)).drew.cell? ⟨wr.heap.size,1,none⟩=some (JK a1)/\(wr.alloc (.cells #[JK a0,JK a1,JK a2,JK a3,JK a4] 104)).drew.cell? ⟨wr.heap.size,2,none⟩=some (JK a2)/\(wr.alloc (.cells #[JK a0,JK a1,JK a2,JK a3,JK a4] 104)).drew.cell? ⟨wr.heap.size,3,none⟩=some (JK a3)/\(wr.alloc (.cells #[JK a0,JK a1,JK a2,JK a3,JK a4] 104)).drew.cell? ⟨wr.heap.size,4,none⟩=some (JK a4) /\
       (Instr.lookup 95 (.map (some (mp i))) (.agg #[JK a0,JK a1,JK a2,JK a3,JK a4]) false).run prog (wr.alloc (.cells #[JK a0,JK a1,JK a2,JK a3,JK a4] 104)).drew=.ok (JL t.p.b) (wr.alloc (.cells #[JK a0,JK a1,JK a2,JK a3,JK a4] 104)).drew):=
      ⟨(cell_of Dw 0).trans rfl,(cell_of Dw 1).trans rfl,(cell_of Dw 2).trans rfl,(cell_of Dw 3).trans rfl,(cell_of Dw 4).trans rfl,Ew⟩
     go_wp2_with fail
     clear Ew Dw Gs Xz Dk q0 q1 q2 q3 q4 BA xP;generalize hW:(wr.alloc (.cells #[JK a0,JK a1,JK a2,JK a3,JK a4] 104))=W at *
     go_region_held3 (λw1=>w1.cell? ⟨wr.heap.size,0,none⟩=some (JK a0)/\w1.cell? ⟨wr.heap.size,1,none⟩=some (JK a1)/\w1.cell? ⟨wr.heap.size,2,none⟩=some (JK a2)/\w1.cell? ⟨wr.heap.size,3,none⟩=some (JK a3)/\w1.cell? ⟨wr.heap.size,4,none⟩=some (JK a4)/\(Instr.lookup 95 (.map (some (mp i))) (.agg #[JK a0,JK a1,JK a2,JK a3,JK a4]) false).run prog w1=.ok (JL t.p.b) w1)
      (first|exact hf|exact hS3)
      ((go_at_call 76;refine(show Calls _ _ _ _ _ from Bj).mono ?_;rintro e w3 ⟨⟨v,rfl⟩,Lp,hS3⟩))
     all_goals go_wp2
     all_goals exact⟨⟨j+1,by go_num,by omega,Lp⟩,by simp[RowKit.intOf];omega⟩
    .have J08e:¬((j:Int)<ks.length):=by omega
     have iP:j=ks.length:=by omega
     subst iP;rw[List.take_length]at dL;go_wp2;refine⟨⟨i+1,by go_num,by omega,EE++Oo (P i) ks,?_,?_⟩,by simp[RowKit.intOf];omega⟩
     .grind[List.range_succ,List.flatten_append]
     .obtain⟨T2,k1,k2,k3,k4,k5⟩:=dL;refine⟨T2,k1,by grind,by omega,λx hx=>?_,(h5.trans (ht.mono h5.size λ_ _ h=>h.elim)).trans (k5.mono (BN h5.size ht.size) λb hb hm=>(h4 b hm).elim id λh=>by omega)⟩;rcases k4 x hx with h|h
      .exact h4 x h
      .exact .inr (BN (BN h5.size ht.size) h)
  .have EC:¬((i:Int)<3):=by omega
   have hi3:i=3:=by omega
   subst hi3;go_wp2
   grind[List.range_succ]
end
end Go.Sim.Z
