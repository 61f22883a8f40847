/- Proved here: laws for the claim. No conditions. -/
import Derived.Test.YtlcbehhbfglgaaaGreatK14
set_option linter.all false
open Go.Proofs.Tryz
namespace Go.Sim.Z
open Go Go.Proofs Go.RowKit
theorem Jh{α:Type}{l:List α}{n:Nat}(h:l.length=n+1):∃x l',l=x::l'/\l'.length=n:=by
 cases l with
 |nil=>simp at h
 |cons x l=>exact⟨x,l,rfl,by simpa using h⟩
theorem J03p{T:JC}(h:T.size=49):∃x0 x1 x2 x3 x4 x5 x6 x7 x8 x9 XU aO Z9 ZN bH ZX cO aK Yz UH Y6 XK X9 Ve Vp ZA dA aI aV dG aF bQ ZV aN ZR bU dK bD aC ZE ZH Z5 ZB aA aX ZU ZW cZ aJ,T=#[x0,x1,x2,x3,x4,x5,x6,x7,x8,x9,XU,aO,Z9,ZN,bH,ZX,cO,aK,Yz,UH,Y6,XK,X9,Ve,Vp,ZA,dA,aI,aV,dG,aF,bQ,ZV,aN,ZR,bU,dK,bD,aC,ZE,ZH,Z5,ZB,aA,aX,ZU,ZW,cZ,aJ]:=by
 obtain⟨l⟩:=T;simp only[List.size_toArray]at h;obtain⟨x0,l0,e0,h⟩:=Jh h;obtain⟨x1,l1,e1,h⟩:=Jh h;obtain⟨x2,l2,e2,h⟩:=Jh h;obtain⟨x3,l3,e3,h⟩:=Jh h;obtain⟨x4,l4,e4,h⟩:=Jh h;obtain⟨x5,l5,e5,h⟩:=Jh h;obtain⟨x6,l6,e6,h⟩:=Jh h;obtain⟨x7,l7,e7,h⟩:=Jh h;obtain⟨x8,l8,e8,h⟩:=Jh h;obtain⟨x9,l9,e9,h⟩:=Jh h;obtain⟨XU,l10,F9,h⟩:=Jh h;obtain⟨aO,l11,FH,h⟩:=Jh h;obtain⟨Z9,l12,IV,h⟩:=Jh h;obtain⟨ZN,l13,LC,h⟩:=Jh h;obtain⟨bH,l14,OO,h⟩:=Jh h;obtain⟨ZX,lU,Kw,h⟩:=Jh h;obtain⟨cO,iY,Ny,h⟩:=Jh h;obtain⟨aK,l17,PO,h⟩:=Jh h;obtain⟨Yz,l18,OC,h⟩:=Jh h;obtain⟨UH,l19,O4,h⟩:=Jh h;obtain⟨Y6,l20,NZ,h⟩:=Jh h;obtain⟨XK,l21,RI,h⟩:=Jh h;obtain⟨X9,l22,Sm,h⟩:=Jh h;obtain⟨Ve,l23,Rq,h⟩:=Jh h;obtain⟨Vp,l24,Om,h⟩:=Jh h;obtain⟨ZA,l25,RD,h⟩:=Jh h;obtain⟨dA,l26,QI,h⟩:=Jh h;obtain⟨aI,l27,iI,h⟩:=Jh h;obtain⟨aV,l28,lZ,h⟩:=Jh h;obtain⟨dG,l29,jE,h⟩:=Jh h;obtain⟨aF,l30,kJ,h⟩:=Jh h;obtain⟨bQ,l31,iD,h⟩:=Jh h;obtain⟨ZV,l32,e32,h⟩:=Jh h;obtain⟨aN,l33,e33,h⟩:=Jh h;obtain⟨ZR,l34,e34,h⟩:=Jh h;obtain⟨bU,l35,e35,h⟩:=Jh h;obtain⟨dK,l36,e36,h⟩:=Jh h;obtain⟨bD,l37,e37,h⟩:=Jh h;obtain⟨aC,l38,e38,h⟩:=Jh h;obtain⟨ZE,l39,e39,h⟩:=Jh h;obtain⟨ZH,l40,e40,h⟩:=Jh h;obtain⟨Z5,l41,e41,h⟩:=Jh h;obtain⟨ZB,l42,e42,h⟩:=Jh h;obtain⟨aA,l43,e43,h⟩:=Jh h;obtain⟨aX,l44,e44,h⟩:=Jh h;obtain⟨ZU,l45,e45,h⟩:=Jh h;obtain⟨ZW,l46,e46,h⟩:=Jh h;obtain⟨cZ,l47,e47,h⟩:=Jh h;obtain⟨aJ,l48,e48,h⟩:=Jh h;subst e0 e1 e2 e3 e4 e5 e6 e7 e8 e9 F9 FH IV LC OO Kw Ny PO OC O4 NZ RI Sm Rq Om RD QI iI lZ jE kJ iD e32 e33 e34 e35 e36 e37 e38 e39 e40 e41 e42 e43 e44 e45 e46 e47 e48;cases l48 with
 |nil=>exact⟨x0,x1,x2,x3,x4,x5,x6,x7,x8,x9,XU,aO,Z9,ZN,bH,ZX,cO,aK,Yz,UH,Y6,XK,X9,Ve,Vp,ZA,dA,aI,aV,dG,aF,bQ,ZV,aN,ZR,bU,dK,bD,aC,ZE,ZH,Z5,ZB,aA,aX,ZU,ZW,cZ,aJ,rfl⟩
 |cons x l=>simp at h
def Ie(T:List TR):List (JD × Bun):=T.map λt=>(t.k,t.B)
def Qa(T:List TR)(l:List Je):List (JD × Bun):=l.filterMap λk=>(tm T k.1).map λB=>(k.1,B)
theorem Jj4(T:List TR)(l l':List Je):Qa T (l++l')=Qa T l++Qa T l':=List.filterMap_append
def TL(w:JE)(c:J8)(m:Nat)(Pl:JB)(n:Nat)(E:List (JD × Bun))(wr:JE):Prop:=
 ∃T,TabAt false wr c m T/\Sum c (tm T) E/\T.length<=n/\(∀x,x=m\/x∈tpl T->Pl x\/w.heap.size<=x)/\Tch w.heap.size Pl w wr
section
variable{c:J8}{m:Nat}{Pl:JB}{n:Nat}{E:List (JD × Bun)}{w wr w' w2:JE}
theorem TL.skip(h:TL w c m Pl n E wr)(ht:Tch wr.heap.size M0 wr w'):TL w c m Pl n E w':=by obtain⟨T,h1,h2,h3,h4,h5⟩:=h;exact⟨T,h1.kept λx hx=>ht.heap x (h1.lt x hx) λh=>h,h2,h3,h4,h5.trans (ht.mono h5.size λ_ _ h=>h.elim)⟩
theorem TL.take{P:List TR}{mp:Nat}{x:Je}{t:TR}(h:TL w c m Pl n E wr)(hq:Tch wr.heap.size M0 wr w2)(hc:Jw c)(hP:TabAt false w c mp P)(hd:∀y,y=mp\/y∈tpl P->¬Pl y)(hPw:∀y,y=mp\/y∈tpl P->y<w.heap.size)(ht:t∈P)(hk:x.1=t.k)(hn:n<=100000) :
  Calls prog 65 #[.map (some m),.agg (ai .i64 x.1),.pointer (some ⟨t.p.b,0,none⟩)] w2 λe w'=>(∃v,e=.returned v)/\TL w c m Pl (n+1) (E++[(x.1,t.B)]) w'/\∀b,wr.heap.size<=b\/b=mp->b<w2.heap.size->w'.heap[b]?=w2.heap[b]?:=by
 have hs:=h.skip hq;obtain⟨T,h1,_,_,h4,h5⟩:=h;obtain⟨_,_,h2,h3,_,KA⟩:=hs;have WI:TabAt false w2 c m T:=h1.kept λx hx=>hq.heap x (h1.lt x hx) λh=>h;rename_i h2o h3o _ _ _;have hb:=(hP.bun t ht).kept (w':=w2) λy hy=>KA.heap y (hPw y (.inr (Jm.2 ⟨t,ht,hy⟩))) (hd y (.inr (Jm.2 ⟨t,ht,hy⟩)));refine(Jky WI x.2 hb (hP.ok t ht) hc (λy hy=>?_) (by omega)).mono ?_
 ·have DY:=Jm.2 ⟨t,ht,hy⟩;have Ac:=hPw y (.inr DY);have hn:=hd y (.inr DY);exact⟨λe=>(h4 y (.inl e)).elim hn λh=>by omega,λe=>(h4 y (.inr e)).elim hn λh=>by omega⟩
 ·rintro e w' ⟨hv,T',k1,k2,k3,k4,k5⟩;refine⟨hv,⟨T',k1,h2o.put k2,by omega,λy hy=>?_,KA.trans (k5.mono KA.size λy hy hm=>?_)⟩,λb hb Ac=>k5.heap b Ac λhm=>?_⟩
  ·rcases hy with hy|hy
   ·exact h4 y (.inl hy)
   ·rcases k4 y hy with h|h
    ·exact h4 y (.inr h)
    ·exact .inr (BL KA.size h)
  ·exact(h4 y hm).elim id λh=>by omega
  ·rcases hb with hb|rfl
   ·have:=h1.lt b hm;omega
   ·have:=hPw b (.inl rfl);exact(h4 b hm).elim (hd b (.inl rfl)) λh=>by omega
end
theorem dP.at{w:JE}{base:Nat}{v:JJ}{ks:List Je}(h:dP w base v ks):∃ka kc,KAt false w ka kc ks/\v=.slice ka ks.length kc/\∀a,ka=some a->base<=a.block/\a.block<w.heap.size:=by
 rcases h with⟨rfl,rfl⟩|⟨g,cap,cur,h1,h2,h3,h4,h5,h6,h7,h8⟩
 ·exact⟨none,0,.inl ⟨rfl,rfl⟩,rfl,λa e=>by cases e⟩
 ·exact⟨_,cap,.inr ⟨g,cur,rfl,⟨(0,0),h3,λ_=>rfl⟩,h4,h6,h8,h7⟩,h1,λa e=>by cases e;exact⟨h2,Ji h3⟩⟩
theorem Jmt(ss:List Je):(sortK ss).Perm ss:=List.mergeSort_perm _ _
theorem keysOf.keys{L:List (JD × JJ)}{ks:List Je}(h:keysOf L ks):(ks.map (·.1)).Perm (L.map (·.1)):=by obtain⟨ss,h1,rfl⟩:=h;exact((Jmt ss).map _).trans h1
theorem keysOf.length{L:List (JD × JJ)}{ks:List Je}(h:keysOf L ks):ks.length=L.length:=by have:=h.keys.length_eq;simpa using this
theorem U7{T:List TR}(hn:(T.map (·.k)).Nodup){t:TR}(ht:t∈T):tm T t.k=some t.B:=by
 induction T with
 |nil=>simp at ht
 |cons s T ih=>
  simp only[DW,List.nodup_cons]at hn;unfold tm at ih ⊢;rw[List.find?_cons];by_cases e:s.k=t.k
  ·rcases AO.1 ht with rfl|ht
   ·simp
   ·exact absurd (AY.2 ⟨t,ht,e.symm⟩) hn.1
  ·simp only[e,decide_false];rcases AO.1 ht with rfl|ht
   ·exact absurd rfl e
   ·exact ih hn.2 ht
theorem Jfj(T:List TR):(T.map TR.kv).map (·.1)=T.map (·.k):=by rw[List.map_map];rfl
theorem keysOf.row{T:List TR}{ks:List Je}(h:keysOf (T.map TR.kv) ks)(hn:(T.map (·.k)).Nodup){x:Je}(hx:x∈ks):∃t∈T,t.k=x.1/\tm T x.1=some t.B:=by have hm:x.1∈(T.map TR.kv).map (·.1):=h.keys.mem_iff.1 (List.mem_map_of_mem hx);rw[Jfj]at hm;obtain⟨t,ht,e⟩:=AY.1 hm;exact⟨t,ht,e,e▸U7 hn ht⟩
theorem Jmu{T:List TR}{ks:List Je}(hn:(T.map (·.k)).Nodup)(h:keysOf (T.map TR.kv) ks):(Qa T ks).Perm (Ie T):=by
 have hp:=h.keys;rw[Jfj]at hp;have e1:Qa T ks=(ks.map (·.1)).filterMap λk=>(tm T k).map λB=>(k,B):=by unfold Qa;rw[List.filterMap_map];rfl
 have e2:Ie T=(T.map (·.k)).filterMap λk=>(tm T k).map λB=>(k,B):=by
  unfold Ie;have gen:∀l:List TR,(∀t∈l,t∈T)->(l.map λt=>(t.k,t.B))=(l.map (·.k)).filterMap λk=>(tm T k).map λB=>(k,B):=by
   intro l
   induction l with
   |nil=>exactλ_=>rfl
   |cons t l ih=>
    intro h;rw[DW,DW,List.filterMap_cons,U7 hn (h t (by simp)),ih λs hs=>h s (by simp[hs])];rfl
  exact gen T λ_ h=>h
 rw[e1,e2];exact hp.filterMap _
section
variable{c:J8}{C m0:Nat}{T0:List TR}{E0:List (JD × Bun)}{mp:Nat->Nat}{P:Nat->List TR}{w:JE}
set_option maxRecDepth 100000 in
set_option maxHeartbeats 4000000 in
theorem Jvx{x0 x1 x2 x3 x4 x5 x6 x7 x8 x9 XU aO Z9 ZN bH ZX cO aK Yz UH Y6 XK X9 Ve Vp ZA dA aI aV dG aF bQ ZV aN ZR bU dK bD aC ZE ZH Z5 ZB aA aX ZU ZW cZ aJ:JJ}(hc:Jw c)(hC:w.heap[C]?=some (.cells #[.map (some m0),.map (some (mp 0)),.map (some (mp 1)),.map (some (mp 2))] 138))(hT:TabAt false w c m0 T0)(hS:Sum c (tm T0) E0)(hl:T0.length<=1004)
  (hP:∀i,i<3->TabAt false w c (mp i) (P i)/\(P i).length<=1004/\∀x,x=mp i\/x∈tpl (P i)->¬(x=m0\/x∈tpl T0)) (wY:¬(C=m0\/C∈tpl T0)) (d:Deferred) :
  LU.wp prog (λe a w1=>e=.ret/\a.tmps[9]?=some x9/\a.tmps[10]?=some XU/\a.tmps[18]?=some Yz/\a.tmps[19]?=some UH/\a.tmps[20]?=some Y6/\a.tmps[21]?=some XK/\a.tmps[22]?=some X9/\a.tmps[23]?=some Ve/\a.tmps[24]?=some Vp/\a.tmps[6]?=some (.map (some m0))/\∃EE,EE.Perm (Ie (P 0)++Ie (P 1)++Ie (P 2))/\TL w c m0 (λx=>x=m0\/x∈tpl T0) 4016 (E0++EE) w1) ⟨#[x0,x1,x2,x3,x4,x5,x6,x7,.pointer (some ⟨C,0,none⟩),x9,XU,aO,Z9,ZN,bH,ZX,cO,aK,Yz,UH,Y6,XK,X9,Ve,Vp,ZA,dA,aI,aV,dG,aF,bQ,ZV,aN,ZR,bU,dK,bD,aC,ZE,ZH,Z5,ZB,aA,aX,ZU,ZW,cZ,aJ],[d]⟩ w:=by
 have iR:w.cell? ⟨C,0,none⟩=some (.map (some m0)):=(cell_of hC 0).trans rfl;simp only[LU,b40,Nu,f40,Ar];go_wp2
 go_loopw [29] (λx wr=>∃i:Nat,x=.int .i64 (i:Int)/\i<=3/\∃EE,EE.Perm (((List.range i).map λi=>Ie (P i)).flatten)/\TL w c m0 (λx=>x=m0\/x∈tpl T0) (1004+i*1004) (E0++EE) wr) (λx _=>3-(RowKit.intOf x).toNat)
 case atStart=>exact⟨0,rfl,by omega,[],.refl _,T0,hT,by simpa using hS,by omega,λx hx=>.inl hx,.refl⟩
 case round=>
  obtain⟨i,rfl,hi,EE,XV,wK⟩:=hrel;rcases BG i 3 with Ac|Dp
  ·have BI:(i:Int)<3:=by omega
   have AX:wr.cell? ⟨C,1+i,none⟩=some (.map (some (mp i))):=by
    have hCl:=Ji hC;obtain⟨T,h1,h2,h3,h4,h5⟩:=wK;have:=h5.heap C hCl wY;rw[DX this,cell_of hC]
    match i,Ac with
    |0,_=>rfl
    |1,_=>rfl
    |2,_=>rfl
   have hCl:=Ji hC;have Vh:=hP i Ac;have hCM:CJ wr (mp i) ((P i).map TR.kv):=by obtain⟨T,h1,h2,h3,h4,h5⟩:=wK;exact Vh.1.map.kept (h5.heap _ Vh.1.map.lt (Vh.2.2 _ (.inl rfl)))
   have RZ:=yR (mp i) _ wr hCM (by simp;omega)
   go_wp2_with (go_at_call 32;refine RZ.mono ?_;rintro e w1 ⟨v,ks,rfl,hk,hr,ht⟩;obtain⟨ka,kc,Nz,rfl,GN⟩:=hr.at)
   obtain⟨T,h1,h2,h3,h4,h5⟩:=wK;have kX:TL w1 c m0 (λx=>x=m0\/x∈tpl T) (1004+i*1004) (E0++EE) w1:=⟨T,h1.kept λx hx=>ht.heap x (h1.lt x hx) λh=>h,h2,h3,λx hx=>.inl hx,.refl⟩;have XY:TabAt false w1 c (mp i) (P i):=Vh.1.kept λx hx=>(ht.heap x (Es (Vh.1.lt x hx) h5.size) λh=>h).trans (h5.heap x (Vh.1.lt x hx) (Vh.2.2 x hx));have hPd:∀y,y=mp i\/y∈tpl (P i)->¬(y=m0\/y∈tpl T):=λy hy hm=>(h4 y hm).elim (Vh.2.2 y hy) λh=>by have:=Vh.1.lt y hy;omega
   have hgd:∀a,ka=some a->¬(a.block=m0\/a.block∈tpl T):=λa ha hm=>by have:=h1.lt _ hm;have:=(GN a ha).1;omega
   have TK:=Jmu XY.nodup hk;have hkl:ks.length<=1004:=by have:=hk.length;simp only[Et]at this;omega
   go_loopw [36] (λx wr2=>∃j:Nat,x=.int .i64 (j:Int)/\j<=ks.length/\TL w1 c m0 (λx=>x=m0\/x∈tpl T) (1004+i*1004+j) (E0++EE++Qa (P i) (ks.take j)) wr2) (λx _=>ks.length-(RowKit.intOf x).toNat)
   case atStart=>exact⟨0,rfl,by omega,by simpa[Qa]using kX⟩
   case round=>
    obtain⟨j,rfl,hj,tH⟩:=hrel;rcases BG j ks.length with hjlt|hjge
    ·have J07v:(j:Int)<ks.length:=by omega
     have hx:ks[j]?=some ks[j]:=Dh hjlt;generalize ks[j]=x at hx;have Ky:KAt false wr ka kc ks:=by
      obtain⟨T2,k1,k2,k3,k4,k5⟩:=tH;rcases Nz with h|⟨g,cur,q1,q2,q3⟩
      ·exact .inl h
      ·exact .inr ⟨g,cur,q1,q2.kept (k5.heap g q2.lt (hgd _ q1)),q3⟩
     obtain⟨g,rfl,hg,oV,AX⟩:=Ky.cells hx;obtain⟨x,IC⟩:=x;obtain⟨a0,a1,a2,a3,a4,rfl⟩:∃a0 a1 a2 a3 a4,x=[a0,a1,a2,a3,a4]:=by
      have:=IC.1
      match x,this with
      |[a0,a1,a2,a3,a4],_=>exact⟨a0,a1,a2,a3,a4,rfl⟩
     have q0:=AX 0 (by omega);have q1:=AX 1 (by omega);have q2:=AX 2 (by omega);have q3:=AX 3 (by omega);have q4:=AX 4 (by omega);simp only[List.getD_cons_zero,List.getD_cons_succ,Nat.add_zero]at q0 q1 q2 q3 q4;obtain⟨t,A8,Bc,DR⟩:=hk.row XY.nodup (x:=⟨[a0,a1,a2,a3,a4],IC⟩) (NK hx);have D8:TabAt false wr c (mp i) (P i):=by obtain⟨T2,k1,k2,k3,k4,k5⟩:=tH;exact XY.kept λy hy=>k5.heap y (XY.lt y hy) (hPd y hy)
     have Yh:Tch wr.heap.size M0 wr (wr.alloc (.cells #[.int .i64 a0,.int .i64 a1,.int .i64 a2,.int .i64 a3,.int .i64 a4] 76)).drew:=(Tch.refl.alloc (Ad _) _).drew;have Hq:=D8.kept λy hy=>Yh.heap y (D8.lt y hy) λh=>h;have DV:=Hq.map.lookup IC;have CV:look ((P i).map TR.kv) [a0,a1,a2,a3,a4]=some (.pointer (some ⟨t.p.b,0,none⟩)):=(Jbs XY.map.nodup).2 (AY.2 ⟨t,A8,by simp[TR.kv,Bc]⟩);rw[CV]at DV;have Jdg:=tH.take Yh (x:=⟨_,IC⟩) hc XY hPd XY.lt A8 Bc.symm (by omega);have yO:Qa (P i) (ks.take (j+1))=Qa (P i) (ks.take j)++[([a0,a1,a2,a3,a4],t.B)]:=by rw[List.take_add_one,hx,Jj4];simp[Qa,DR]
     rw[List.append_assoc,<- yO]at Jdg;rw[show ai .i64 [a0,a1,a2,a3,a4]=#[.int .i64 a0,.int .i64 a1,.int .i64 a2,.int .i64 a3,.int .i64 a4]from rfl]at DV Jdg;have DL:(wr.alloc (.cells #[.int .i64 a0,.int .i64 a1,.int .i64 a2,.int .i64 a3,.int .i64 a4] 76)).drew.heap[wr.heap.size]?=some (.cells #[.int .i64 a0,.int .i64 a1,.int .i64 a2,.int .i64 a3,.int .i64 a4] 76):=Ja _;have BF:Hid (Calls prog 65 #[.map (some m0),.agg #[.int .i64 a0,.int .i64 a1,.int .i64 a2,.int .i64 a3,.int .i64 a4],.pointer (some ⟨t.p.b,0,none⟩)] (wr.alloc (.cells #[.int .i64 a0,.int .i64 a1,.int .i64 a2,.int .i64 a3,.int .i64 a4] 76)).drew λe w'=>(∃v,e=.returned v)/\TL w1 c m0 (λx=>x=m0\/x∈tpl T) (1004+i*1004+j+1) (E0++EE++Qa (P i) (ks.take (j+1))) w'/\(w'.cell? ⟨wr.heap.size,0,none⟩=some (.int .i64 a0)/\w'.cell? ⟨wr.heap.size,1,none⟩=some (.int .i64 a1)/\w'.cell? ⟨wr.heap.size,2,none⟩=some (.int .i64 a2)/\w'.cell? ⟨wr.heap.size,3,none⟩=some (.int .i64 a3)/\w'.cell? ⟨wr.heap.size,4,none⟩=some (.int .i64 a4)/\(Instr.lookup 70 (.map (some (mp i))) (.agg #[.int .i64 a0,.int .i64 a1,.int .i64 a2,.int .i64 a3,.int .i64 a4]) false).run prog w'=.ok (.pointer (some ⟨t.p.b,0,none⟩)) w')):=by refine Jdg.mono ?_;rintro e w' ⟨k1,k2,k3⟩;rw[List.append_assoc]at k2 ⊢;have hz:(wr.alloc (.cells #[.int .i64 a0,.int .i64 a1,.int .i64 a2,.int .i64 a3,.int .i64 a4] 76)).drew.heap.size=wr.heap.size+1:=size_alloc _;have uG:w'.heap[wr.heap.size]?=some (.cells #[.int .i64 a0,.int .i64 a1,.int .i64 a2,.int .i64 a3,.int .i64 a4] 76):=(k3 _ (.inl (Ad _)) (by omega)).trans DL;have Ug:=(Hq.map.kept (k3 _ (.inr rfl) Hq.map.lt)).lookup IC;rw[CV]at Ug;exact⟨k1,k2,(cell_of uG 0).trans rfl,(cell_of uG 1).trans rfl,(cell_of uG 2).trans rfl,(cell_of uG 3).trans rfl,(cell_of uG 4).trans rfl,Ug⟩
     clear Jdg;have hf:Hid ((wr.alloc (.cells #[.int .i64 a0,.int .i64 a1,.int .i64 a2,.int .i64 a3,.int .i64 a4] 76)).drew.cell? ⟨wr.heap.size,0,none⟩=some (.int .i64 a0)/\(wr.alloc (.cells #[.int .i64 a0,.int .i64 a1,.int .i64 a2,.int .i64 a3,.int .i64 a4] 76)).drew.cell? ⟨wr.heap.size,1,none⟩=some (.int .i64 a1)/\(wr.alloc (.cells #[.int .i64 a0,.int .i64 a1,.int .i64 a2,.int .i64 a3,.int .i64 a4] 76)).drew.cell? ⟨wr.heap.size,2,none⟩=some (.int .i64 a2)/\(wr.alloc (.cells #[.int .i64 a0,.int .i64 a1,.int .i64 a2,.int .i64 a3,.int .i64 a4] 76)).drew.cell? ⟨wr.heap.size,3,none⟩=some (.int .i64 a3)/\(wr.alloc (.cells #[.int .i64 a0,.int .i64 a1,.int .i64 a2,.int .i64 a3,.int .i64 a4] 76)).drew.cell? ⟨wr.heap.size,4,none⟩=some (.int .i64 a4) /\
       (Instr.lookup 70 (.map (some (mp i))) (.agg #[.int .i64 a0,.int .i64 a1,.int .i64 a2,.int .i64 a3,.int .i64 a4]) false).run prog (wr.alloc (.cells #[.int .i64 a0,.int .i64 a1,.int .i64 a2,.int .i64 a3,.int .i64 a4] 76)).drew=.ok (.pointer (some ⟨t.p.b,0,none⟩)) (wr.alloc (.cells #[.int .i64 a0,.int .i64 a1,.int .i64 a2,.int .i64 a3,.int .i64 a4] 76)).drew):=
      ⟨(cell_of DL 0).trans rfl,(cell_of DL 1).trans rfl,(cell_of DL 2).trans rfl,(cell_of DL 3).trans rfl,(cell_of DL 4).trans rfl,DV⟩
     go_wp2_with fail
     clear DV DL Hq Yh D8 q0 q1 q2 q3 q4 AX yO;generalize hW:(wr.alloc (.cells #[.int .i64 a0,.int .i64 a1,.int .i64 a2,.int .i64 a3,.int .i64 a4] 76))=W at *
     go_region_held3 (λw1=>w1.cell? ⟨wr.heap.size,0,none⟩=some (.int .i64 a0)/\w1.cell? ⟨wr.heap.size,1,none⟩=some (.int .i64 a1)/\w1.cell? ⟨wr.heap.size,2,none⟩=some (.int .i64 a2)/\w1.cell? ⟨wr.heap.size,3,none⟩=some (.int .i64 a3)/\w1.cell? ⟨wr.heap.size,4,none⟩=some (.int .i64 a4)/\(Instr.lookup 70 (.map (some (mp i))) (.agg #[.int .i64 a0,.int .i64 a1,.int .i64 a2,.int .i64 a3,.int .i64 a4]) false).run prog w1=.ok (.pointer (some ⟨t.p.b,0,none⟩)) w1)
      (first|exact hf|exact hS3)
      ((go_at_call 65;refine(show Calls _ _ _ _ _ from BF).mono ?_;rintro e w3 ⟨⟨v,rfl⟩,MQ,hS3⟩))
     all_goals go_wp2
     all_goals exact⟨⟨j+1,by go_num,by omega,MQ⟩,by simp[RowKit.intOf];omega⟩
    ·have J07w:¬((j:Int)<ks.length):=by omega
     have mZ:j=ks.length:=by omega
     subst mZ;rw[List.take_length]at tH;go_wp2;refine⟨⟨i+1,by go_num,by omega,EE++Qa (P i) ks,?_,?_⟩,by simp[RowKit.intOf];omega⟩
     ·rw[List.range_succ,List.map_append,List.flatten_append];exact XV.append (by simpa using TK)
     ·obtain⟨T2,k1,k2,k3,k4,k5⟩:=tH;refine⟨T2,k1,by rw[<- List.append_assoc];exact k2,by omega,λx hx=>?_,(h5.trans (ht.mono h5.size λ_ _ h=>h.elim)).trans (k5.mono (BL h5.size ht.size) λb hb hm=>(h4 b hm).elim id λh=>by omega)⟩;rcases k4 x hx with h|h
      ·exact h4 x h
      ·exact .inr (BL (BL h5.size ht.size) h)
  ·have CB:¬((i:Int)<3):=by omega
   have hi3:i=3:=by omega
   subst hi3;go_wp2;exact⟨EE,by simpa[List.range_succ]using XV,wK⟩
end
end Go.Sim.Z
