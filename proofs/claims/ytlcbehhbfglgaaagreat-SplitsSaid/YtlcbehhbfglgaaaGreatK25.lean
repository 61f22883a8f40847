/- Proved here: laws for the claim. No conditions. -/
import Derived.Test.YtlcbehhbfglgaaaGreatK24
set_option linter.all false
set_option maxHeartbeats 16000000
set_option maxRecDepth 100000
open Go.Proofs.Tryz
namespace Go.Sim.Z
open Go Go.Proofs Go.RowKit
def EH(c:J8)(seed:Int):JD:=[3,IntKind.u64.wrap c.bits,IntKind.u64.wrap c.K,KU seed,IntKind.u64.wrap c.nb]
def e2F(c:J8)(seed:Int)(x wb N:Nat):Nat->JJ->JE->Prop
 |0,v,_=>v=pt wb
 |1,v,_=>v=pt x
 |2,v,_=>v=pt x
 |3,v,_=>v=pt x
 |4,v,_=>v=pt x
 |5,v,_=>v=.int .i64 3
 |6,v,_=>v=.int .u64 3
 |7,v,_=>v=pt x
 |8,v,_=>v=pt x
 |9,v,_=>v=pt x
 |10,v,_=>v=pt x 1
 |11,v,_=>v=.int .i64 c.bits
 |12,v,_=>v=.int .u64 (IntKind.u64.wrap c.bits)
 |13,v,_=>v=pt x
 |14,v,_=>v=pt x
 |15,v,_=>v=pt x
 |16,v,_=>v=pt x 2
 |17,v,_=>v=.int .i64 c.K
 |18,v,_=>v=.int .u64 (IntKind.u64.wrap c.K)
 |19,v,_=>v=pt x
 |20,v,_=>v=pt x
 |21,v,_=>v=pt x
 |22,v,_=>v=pt x 4
 |23,v,_=>v=.int .i64 seed
 |24,v,_=>v=.int .u64 (KU seed)
 |25,v,_=>v=pt x
 |26,v,_=>v=pt x
 |27,v,_=>v=pt x
 |28,v,_=>v=pt x 3
 |29,v,_=>v=.slice c.ba c.nb c.cb
 |30,v,_=>v=.int .i64 c.nb
 |31,v,_=>v=.int .u64 (IntKind.u64.wrap c.nb)
 |_,v,w=>∃g,v=.slice (some ⟨g,0,none⟩) 5 5/\N<=g/\Row false w g 45 .u64 (EH c seed) 5
theorem J02u{c:J8}{seed:Int}{x wb N:Nat}(i:Nat)(v:JJ)(w w':JE)(h:e2F c seed x wb N i v w)(t:Tch w.heap.size M0 w w'):e2F c seed x wb N i v w':=by
 match i,h with
 |0,h=>exact h
 |1,h=>exact h
 |2,h=>exact h
 |3,h=>exact h
 |4,h=>exact h
 |5,h=>exact h
 |6,h=>exact h
 |7,h=>exact h
 |8,h=>exact h
 |9,h=>exact h
 |10,h=>exact h
 |11,h=>exact h
 |12,h=>exact h
 |13,h=>exact h
 |14,h=>exact h
 |15,h=>exact h
 |16,h=>exact h
 |17,h=>exact h
 |18,h=>exact h
 |19,h=>exact h
 |20,h=>exact h
 |21,h=>exact h
 |22,h=>exact h
 |23,h=>exact h
 |24,h=>exact h
 |25,h=>exact h
 |26,h=>exact h
 |27,h=>exact h
 |28,h=>exact h
 |29,h=>exact h
 |30,h=>exact h
 |31,h=>exact h
 |i+32,h=>
  obtain⟨g,h1,h2,h3⟩:=h;exact⟨g,h1,h2,h3.tch t h3.lt λx=>x⟩
theorem J076(w:JE)(xs:JD):Row false (w.alloc (.cells (ai .u64 xs) 45)) w.heap.size 45 .u64 xs xs.length:=by refine⟨_,⟨(0,0),Ja _,λ_=>rfl⟩,by simp[ai],Ad _,λi hi=>?_,.ai⟩;simp[ai,hi,CP]
noncomputable def b15:Code:=f15.body.getD .skip
noncomputable def YX:Code:=fC (sC (sC b15))
section
variable{w:JE}{x wb:Nat}{c:J8}{seed nf:Int}{h:JJ}{vm src:Nat}{Q:Exit->Act->JE->Prop}{T0:JC}{ds:List Deferred}
theorem J05h(q:Dq w x c seed h nf vm src)(V9:-9223372036854775808<=seed/\seed<=9223372036854775807)(hb:wb<w.heap.size)(hW:WrB w (wb+1) wb [])(Ae:T0.size=190)(t0:T0[0]?=some (pt x))(t3:T0[3]?=some (pt wb))(Yq:x≠wb)
  (hQ:∀T w',T.size=190->(∀s,s<18->T[s]?=T0[s]?)->WrB w' (wb+1) wb (CG (EH c seed))->KP (wb+1) wb w w'->Q .normal ⟨T,ds⟩ w') :
  YX.wp prog Q ⟨T0,ds⟩ w:=by
 have hx:=q.blk.lt;have AX:∀{w1:JE}{i:Nat}{u:JJ},Tch w.heap.size M0 w w1->w.cell? ⟨x,i,none⟩=some u->w1.cell? ⟨x,i,none⟩=some u:=λt h=>(t.cell hx λy=>y).trans h;have iR:=λw1(t:Tch w.heap.size M0 w w1)=>AX t q.cells.1;have DU:=λw1(t:Tch w.heap.size M0 w w1)=>AX t q.cells.2.1;have MJ:=λw1(t:Tch w.heap.size M0 w w1)=>AX t q.cells.2.2.1;have MG:=λw1(t:Tch w.heap.size M0 w w1)=>AX t q.cells.2.2.2.1;have Vf:=λw1(t:Tch w.heap.size M0 w w1)=>AX t q.cells.2.2.2.2.1;simp only[YX,b15,fC,sC,f15,Ar];refine uT (M:=M0) 33 (λi=>18+i) (e2F c seed x wb w.heap.size) mixed (by kernel_rfl) (λi hi=>by omega) J02u (λi o a wv hi ho CS hs hold hd=>?_) λa wv CS GX hs hold hF=>?_
 ·have s0':=(hold 0 (λi _=>by omega)).trans t0;have vV:=(hold 3 (λi _=>by omega)).trans t3
  match i,hi with
  |0,_=>
   cases ho;have s0:a.tmps[3]?=some _:=(hold 3 (λi _=>by omega)).trans (by assumption);exact J9 rfl rfl (by simp[execOp,go_sem,s0];try rfl) ⟨_,rfl,rfl,.refl⟩
  |1,_=>
   cases ho;have s0:a.tmps[0]?=some _:=(hold 0 (λi _=>by omega)).trans (by assumption);exact J9 rfl rfl (by simp[execOp,go_sem,s0];try rfl) ⟨_,rfl,rfl,.refl⟩
  |2,_=>
   cases ho;obtain⟨_,e1,rfl⟩:=hd 1 rfl;have e1:a.tmps[19]?=some _:=e1;exact J9 rfl rfl (by simp[execOp,go_sem,e1];try rfl) ⟨_,rfl,rfl,.refl⟩
  |3,_=>
   cases ho;obtain⟨_,e2,rfl⟩:=hd 2 rfl;have e2:a.tmps[20]?=some _:=e2;exact J9 rfl rfl (by simp[execOp,go_sem,e2];try rfl) ⟨_,rfl,rfl,.refl⟩
  |4,_=>
   cases ho;obtain⟨_,e3,rfl⟩:=hd 3 rfl;have e3:a.tmps[21]?=some _:=e3;exact J9 rfl rfl (by simp[execOp,go_sem,e3];try rfl) ⟨_,rfl,rfl,.refl⟩
  |5,_=>
   cases ho;obtain⟨_,e4,rfl⟩:=hd 4 rfl;have e4:a.tmps[22]?=some _:=e4;exact J9 rfl rfl (by simp[execOp,go_sem,e4,iR _ CS];try rfl) ⟨_,rfl,rfl,.refl⟩
  |6,_=>
   cases ho;obtain⟨_,e5,rfl⟩:=hd 5 rfl;have e5:a.tmps[23]?=some _:=e5;exact J9 rfl rfl (by simp[execOp,go_sem,e5];try rfl) ⟨_,rfl,rfl,.refl⟩
  |7,_=>
   cases ho;have s0:a.tmps[0]?=some _:=(hold 0 (λi _=>by omega)).trans (by assumption);exact J9 rfl rfl (by simp[execOp,go_sem,s0];try rfl) ⟨_,rfl,rfl,.refl⟩
  |8,_=>
   cases ho;obtain⟨_,e7,rfl⟩:=hd 7 rfl;have e7:a.tmps[25]?=some _:=e7;exact J9 rfl rfl (by simp[execOp,go_sem,e7];try rfl) ⟨_,rfl,rfl,.refl⟩
  |9,_=>
   cases ho;obtain⟨_,e8,rfl⟩:=hd 8 rfl;have e8:a.tmps[26]?=some _:=e8;exact J9 rfl rfl (by simp[execOp,go_sem,e8];try rfl) ⟨_,rfl,rfl,.refl⟩
  |10,_=>
   cases ho;obtain⟨_,e9,rfl⟩:=hd 9 rfl;have e9:a.tmps[27]?=some _:=e9;exact J9 rfl rfl (by simp[execOp,go_sem,e9];try rfl) ⟨_,rfl,rfl,.refl⟩
  |11,_=>
   cases ho;obtain⟨_,F9,rfl⟩:=hd 10 rfl;have F9:a.tmps[28]?=some _:=F9;exact J9 rfl rfl (by simp[execOp,go_sem,F9,DU _ CS];try rfl) ⟨_,rfl,rfl,.refl⟩
  |12,_=>
   cases ho;obtain⟨_,FH,rfl⟩:=hd 11 rfl;have FH:a.tmps[29]?=some _:=FH;exact J9 rfl rfl (by simp[execOp,go_sem,FH];try rfl) ⟨_,rfl,rfl,.refl⟩
  |13,_=>
   cases ho;have s0:a.tmps[0]?=some _:=(hold 0 (λi _=>by omega)).trans (by assumption);exact J9 rfl rfl (by simp[execOp,go_sem,s0];try rfl) ⟨_,rfl,rfl,.refl⟩
  |14,_=>
   cases ho;obtain⟨_,LC,rfl⟩:=hd 13 rfl;have LC:a.tmps[31]?=some _:=LC;exact J9 rfl rfl (by simp[execOp,go_sem,LC];try rfl) ⟨_,rfl,rfl,.refl⟩
  |15,_=>
   cases ho;obtain⟨_,OO,rfl⟩:=hd 14 rfl;have OO:a.tmps[32]?=some _:=OO;exact J9 rfl rfl (by simp[execOp,go_sem,OO];try rfl) ⟨_,rfl,rfl,.refl⟩
  |16,_=>
   cases ho;obtain⟨_,Kw,rfl⟩:=hd 15 rfl;have Kw:a.tmps[33]?=some _:=Kw;exact J9 rfl rfl (by simp[execOp,go_sem,Kw];try rfl) ⟨_,rfl,rfl,.refl⟩
  |17,_=>
   cases ho;obtain⟨_,Ny,rfl⟩:=hd 16 rfl;have Ny:a.tmps[34]?=some _:=Ny;exact J9 rfl rfl (by simp[execOp,go_sem,Ny,MJ _ CS];try rfl) ⟨_,rfl,rfl,.refl⟩
  |18,_=>
   cases ho;obtain⟨_,PO,rfl⟩:=hd 17 rfl;have PO:a.tmps[35]?=some _:=PO;exact J9 rfl rfl (by simp[execOp,go_sem,PO];try rfl) ⟨_,rfl,rfl,.refl⟩
  |19,_=>
   cases ho;have s0:a.tmps[0]?=some _:=(hold 0 (λi _=>by omega)).trans (by assumption);exact J9 rfl rfl (by simp[execOp,go_sem,s0];try rfl) ⟨_,rfl,rfl,.refl⟩
  |20,_=>
   cases ho;obtain⟨_,O4,rfl⟩:=hd 19 rfl;have O4:a.tmps[37]?=some _:=O4;exact J9 rfl rfl (by simp[execOp,go_sem,O4];try rfl) ⟨_,rfl,rfl,.refl⟩
  |21,_=>
   cases ho;obtain⟨_,NZ,rfl⟩:=hd 20 rfl;have NZ:a.tmps[38]?=some _:=NZ;exact J9 rfl rfl (by simp[execOp,go_sem,NZ];try rfl) ⟨_,rfl,rfl,.refl⟩
  |22,_=>
   cases ho;obtain⟨_,RI,rfl⟩:=hd 21 rfl;have RI:a.tmps[39]?=some _:=RI;exact J9 rfl rfl (by simp[execOp,go_sem,RI];try rfl) ⟨_,rfl,rfl,.refl⟩
  |23,_=>
   cases ho;obtain⟨_,Sm,rfl⟩:=hd 22 rfl;have Sm:a.tmps[40]?=some _:=Sm;exact J9 rfl rfl (by simp[execOp,go_sem,Sm,Vf _ CS];try rfl) ⟨_,rfl,rfl,.refl⟩
  |24,_=>
   cases ho;obtain⟨_,Rq,rfl⟩:=hd 23 rfl;have Rq:a.tmps[41]?=some _:=Rq;exact NM rfl rfl (by simp[execOp,go_sem,Rq];try rfl) (sJ V9.1 V9.2 _) λe w2 Ii=>⟨_,Ii.1,_,rfl,rfl,by rw[Ii.2];exact .refl⟩
  |25,_=>
   cases ho;have s0:a.tmps[0]?=some _:=(hold 0 (λi _=>by omega)).trans (by assumption);exact J9 rfl rfl (by simp[execOp,go_sem,s0];try rfl) ⟨_,rfl,rfl,.refl⟩
  |26,_=>
   cases ho;obtain⟨_,RD,rfl⟩:=hd 25 rfl;have RD:a.tmps[43]?=some _:=RD;exact J9 rfl rfl (by simp[execOp,go_sem,RD];try rfl) ⟨_,rfl,rfl,.refl⟩
  |27,_=>
   cases ho;obtain⟨_,QI,rfl⟩:=hd 26 rfl;have QI:a.tmps[44]?=some _:=QI;exact J9 rfl rfl (by simp[execOp,go_sem,QI];try rfl) ⟨_,rfl,rfl,.refl⟩
  |28,_=>
   cases ho;obtain⟨_,iI,rfl⟩:=hd 27 rfl;have iI:a.tmps[45]?=some _:=iI;exact J9 rfl rfl (by simp[execOp,go_sem,iI];try rfl) ⟨_,rfl,rfl,.refl⟩
  |29,_=>
   cases ho;obtain⟨_,lZ,rfl⟩:=hd 28 rfl;have lZ:a.tmps[46]?=some _:=lZ;exact J9 rfl rfl (by simp[execOp,go_sem,lZ,MG _ CS];try rfl) ⟨_,rfl,rfl,.refl⟩
  |30,_=>
   cases ho;obtain⟨_,jE,rfl⟩:=hd 29 rfl;have jE:a.tmps[47]?=some _:=jE;exact J9 rfl rfl (by simp[execOp,go_sem,jE];try rfl) ⟨_,rfl,rfl,.refl⟩
  |31,_=>
   cases ho;obtain⟨_,kJ,rfl⟩:=hd 30 rfl;have kJ:a.tmps[48]?=some _:=kJ;exact J9 rfl rfl (by simp[execOp,go_sem,kJ];try rfl) ⟨_,rfl,rfl,.refl⟩
  |32,_=>
   cases ho;obtain⟨_,e6,rfl⟩:=hd 6 rfl;have e6:a.tmps[24]?=some _:=e6;obtain⟨_,IV,rfl⟩:=hd 12 rfl;have IV:a.tmps[30]?=some _:=IV;obtain⟨_,OC,rfl⟩:=hd 18 rfl;have OC:a.tmps[36]?=some _:=OC;obtain⟨_,Om,rfl⟩:=hd 24 rfl;have Om:a.tmps[42]?=some _:=Om;obtain⟨_,iD,rfl⟩:=hd 31 rfl;have iD:a.tmps[49]?=some _:=iD;have hr:=J076 wv (EH c seed);exact J9 (w':=wv.alloc (.cells (ai .u64 (EH c seed)) 45)) rfl rfl (by simp[execOp,go_sem,e6,IV,OC,Om,iD,ai,EH];try rfl) ⟨_,rfl,⟨wv.heap.size,rfl,CS.size,hr⟩,Tch.refl.alloc (Ad _) _⟩
  |i+33,h=>omega
 ·obtain⟨v0,p0,rfl⟩:=hF 0 (by omega);obtain⟨v32,p32,g,rfl,hg,hr⟩:=hF 32 (by omega);have p0:a.tmps[18]?=some _:=p0;have p32:a.tmps[50]?=some _:=p32;obtain⟨v,hv,hp⟩:=hW;have AV:WrB wv (wb+1) wb []:=⟨v,(CS.heap wb hb λh=>h).trans hv,hp.kept λb cur _ h=>(CS.heap b (Ji h) λh=>h).trans h⟩;have hput:=SH (g:=g) (cap:=5) (xs:=EH c seed) (Nat.lt_succ_self wb) (by have:=CS.size;omega) AV (λ_=>hr) (λ_=>by omega) ?_ (by simp[EH]) ⟨_,5,rfl,λ_=>rfl⟩
  ·show wpOps prog _ Q [33] a wv;rw[wpOps_cons];refine NM rfl rfl (by simp[execOp,go_sem,p0,p32];try rfl) hput λe w2 h=>?_;obtain⟨⟨u,hu⟩,h2,h3⟩:=h;refine⟨u,hu,?_⟩;obtain⟨tm,NI⟩:=a;simp only at GX;subst GX;exact hQ _ _ (by rw[<- Ae,<- hs];simp[Act.put]) (λs h=>by show(tm.setIfInBounds 51 u)[s]?=_;rw[AQ (by omega)];exact hold s λi _=>by omega) (by simpa using h2) ((KP.tch CS).trans h3)
  ·intro y hy;have hw:∀z:Int,0<=IntKind.u64.wrap z/\IntKind.u64.wrap z<=18446744073709551615:=λz=>by rw[IntKind.wrap_u64];omega
   simp only[EH,AO,C9,or_false]at hy;rcases hy with rfl|rfl|rfl|rfl|rfl
   ·omega
   ·exact hw _
   ·exact hw _
   ·exact Vz _
   ·exact hw _
end
theorem Qj(f:Nat->JJ):((List.range 190).map f).toArray=#[f 0,f 1,f 2,f 3,f 4,f 5,f 6,f 7,f 8,f 9,f 10,f 11,f 12,f 13,f 14,f 15,f 16,f 17,f 18,f 19,f 20,f 21,f 22,f 23,f 24,f 25,f 26,f 27,f 28,f 29,f 30,f 31,f 32,f 33,f 34,f 35,f 36,f 37,f 38,f 39,f 40,f 41,f 42,f 43,f 44,f 45,f 46,f 47,f 48,f 49,f 50,f 51,f 52,f 53,f 54,f 55,f 56,f 57,f 58,f 59,f 60,f 61,f 62,f 63,f 64,f 65,f 66,f 67,f 68,f 69,f 70,f 71,f 72,f 73,f 74,f 75,f 76,f 77,f 78,f 79,f 80,f 81,f 82,f 83,f 84,f 85,f 86,f 87,f 88,f 89,f 90,f 91,f 92,f 93,f 94,f 95,f 96,f 97,f 98,f 99,f 100,f 101,f 102,f 103,f 104,f 105,f 106,f 107,f 108,f 109,f 110,f 111,f 112,f 113,f 114,f 115,f 116,f 117,f 118,f 119,f 120,f 121,f 122,f 123,f 124,f 125,f 126,f 127,f 128,f 129,f 130,f 131,f 132,f 133,f 134,f 135,f 136,f 137,f 138,f 139,f 140,f 141,f 142,f 143,f 144,f 145,f 146,f 147,f 148,f 149,f 150,f 151,f 152,f 153,f 154,f 155,f 156,f 157,f 158,f 159,f 160,f 161,f 162,f 163,f 164,f 165,f 166,f 167,f 168,f 169,f 170,f 171,f 172,f 173,f 174,f 175,f 176,f 177,f 178,f 179,f 180,f 181,f 182,f 183,f 184,f 185,f 186,f 187,f 188,f 189]:=by rfl
theorem Qg{T:JC}(h:T.size=190):∃f:Nat->JJ,T=((List.range 190).map f).toArray:=⟨_,Zd h⟩
noncomputable def Zg:Code:=fC (sC (sC (sC b15)))
def Qi(bs:JD):JD:=bs.flatMap λb=>Eo (KU b).toNat
theorem J05a{l:JD}{k:Nat}(h:k<l.length):Qi (l.take (k+1))=Qi (l.take k)++Eo (KU (l.getD k 0)).toNat:=by unfold Qi;rw[List.take_add_one,Dh h,List.flatMap_append,CP,Dh h];simp
theorem vG{l:JD}:(Qi l).length<=10*l.length:=by
 induction l with
 |nil=>simp[Qi]
 |cons x l ih=>
  have h2:=Ld (n:=(KU x).toNat) (by have:=Vz x;omega);unfold Qi at ih ⊢;rw[List.flatMap_cons,List.length_append,Gu];omega
section
variable{w:JE}{x wb:Nat}{c:J8}{seed nf:Int}{h:JJ}{vm src:Nat}{Q:Exit->Act->JE->Prop}{T0:JC}{ds:List Deferred}{done bs:JD}{b cap:Nat}
theorem J05i(q:Dq w x c seed h nf vm src)(CY:c.ba=some ⟨b,0,none⟩)(BX:c.nb=bs.length)(hb:Row false w b 3 .i64 bs cap)(hI:∀y∈bs,-9223372036854775808<=y/\y<=9223372036854775807)(TQ:bs.length<=100)(hbw:b<wb)(Yq:x<wb)(GY:wb<w.heap.size)(hW:WrB w (wb+1) wb done)(NG:done.length<=1000000)(Ae:T0.size=190)(t0:T0[0]?=some (pt x))(t3:T0[3]?=some (pt wb))
  (hQ:∀T w',T.size=190->T[0]?=some (pt x)->T[3]?=some (pt wb)->WrB w' (wb+1) wb (done++Qi bs)->KP (wb+1) wb w w'->Q .normal ⟨T,ds⟩ w') :
  Zg.wp prog Q ⟨T0,ds⟩ w:=by
 obtain⟨f,rfl⟩:=Qg Ae;rw[Qj]at *;have e0:f 0=_:=Aa t0;have e3:f 3=_:=Aa t3;rw[e0,e3];clear t0 t3 e0 e3;have MG:=q.cells.2.2.2.1;rw[CY,BX]at MG;obtain⟨n,hn⟩:∃n,bs.length=n:=⟨_,rfl⟩;rw[hn]at MG TQ;have Am:∀wr,KP (wb+1) wb w wr->∀i,i<n->wr.cell? ⟨b,i,none⟩=some (.int .i64 (bs.getD i 0)):=λwr k i hi=>(hb.kept (k.low (by omega) hb.lt (by omega))).cell (by omega);have Dc:Qi (bs.take n)=Qi bs:=by rw[<- hn,List.take_length]
 have Q5:∀k,(Qi (bs.take k)).length<=1000:=λk=>by have:=vG (l:=bs.take k);rw[List.length_take]at this;omega
 clear hb q;simp only[Zg,b15,fC,sC,f15,Ar];go_wp2
 go_loopw [58] (λi wr=>∃k:Nat,k<=n/\i=.int .i64 k/\WrB wr (wb+1) wb (done++Qi (bs.take k))/\KP (wb+1) wb w wr) (λi _=>n-(RowKit.intOf i).toNat)
 case atStart=>exact⟨0,by omega,rfl,by simpa[Qi]using hW,.refl⟩
 case round=>
  obtain⟨k,hk,rfl,Iq,UR⟩:=hrel;rcases BG k n with Ac|Dp
  ·have g1:=Am _ UR k Ac;have hs:=J05a (l:=bs) (k:=k) (by omega);have hl1:=Q5 k;have hin:=hI (bs.getD k 0) (by rw[CP,Dh (by omega)];exact List.getElem_mem _);generalize bs.getD k 0=y at *;have hsg:=sJ hin.1 hin.2 wr;have Lp:=YQ (w:=wr) (base:=wb+1) (wb:=wb) (n:=KU y) (by omega) (by have:=UR.size;omega) Iq (Vz y) (by rw[List.length_append];omega);have BI:(k:Int)<n:=by omega
   clear Am Dc Q5 hI hW hQ
   go_wp2_with (first
    |(go_at_call 31;refine hsg.mono ?_;rintro e w1 ⟨rfl,rfl⟩)
    |(go_at_call 30;refine Lp.mono ?_;rintro e w1 ⟨⟨v,rfl⟩,z1,z2⟩))
   exact⟨⟨k+1,by omega,by go_num,by rw[hs,<- List.append_assoc];exact z1,UR.trans z2⟩,by simp[RowKit.intOf];omega⟩
  ·obtain rfl:k=n:=by omega
   have CB:¬((k:Int)<k):=by omega
   rw[Dc]at Iq;go_wp2;exact hQ _ _ rfl rfl rfl Iq UR
end
noncomputable def Zk:Code:=fC (sC (sC (sC (sC b15))))
noncomputable def Zv:Code:=fC (sC (sC (sC (sC (sC b15)))))
def e8F(x vm src:Nat):Nat->JJ->JE->Prop
 |0,v,_=>v=pt x
 |1,v,_=>v=pt x
 |2,v,_=>v=pt x 7
 |3,v,_=>v=.map (some vm)
 |4,v,_=>v=pt x
 |5,v,_=>v=.int .i64 7
 |_,v,_=>v=.map (some src)
section
variable{w:JE}{x wb:Nat}{c:J8}{seed nf:Int}{h:JJ}{vm src:Nat}{Q:Exit->Act->JE->Prop}{T0:JC}{ds:List Deferred}{done:JD}
theorem J05j(q:Dq w x c seed h nf vm src)(Ae:T0.size=190)(t0:T0[0]?=some (pt x))(t3:T0[3]?=some (pt wb))
  (hQ:∀T w',T.size=190->T[0]?=some (pt x)->T[3]?=some (pt wb)->T[6]?=some (.map (some src))->Tch w.heap.size M0 w w'->Q .normal ⟨T,ds⟩ w') :
  Zk.wp prog Q ⟨T0,ds⟩ w:=by
 have qk:∀w1,Tch w.heap.size M0 w w1->Dq w1 x c seed h nf vm src:=λw1 t=>q.kept (t.heap x q.blk.lt λh=>h) (t.heap vm q.vs.lt λh=>h);have hc7:=λw1(t:Tch w.heap.size M0 w w1)=>(qk w1 t).cells.2.2.2.2.2.2.2;simp only[Zk,b15,fC,sC,f15,Ar];refine uT (M:=M0) 7 (λi=>68+i) (e8F x vm src) mixed (by kernel_rfl) (λi hi=>by omega) (λi v w w' h t=>by match i,h with|0,h|1,h|2,h|3,h|4,h|5,h|i+6,h=>exact h) (λi o a wv hi ho CS hs hold hd=>?_) λa wv CS GX hs hold hF=>?_
 ·have s0:=(hold 0 (λi _=>by omega)).trans t0
  match i,hi with
  |0,_=>
   cases ho;exact J9 rfl rfl (by simp[execOp,go_sem,s0];try rfl) ⟨_,rfl,rfl,.refl⟩
  |1,_=>
   cases ho;obtain⟨_,e0,rfl⟩:=hd 0 rfl;have e0:a.tmps[68]?=some _:=e0;exact J9 rfl rfl (by simp[execOp,go_sem,e0];try rfl) ⟨_,rfl,rfl,.refl⟩
  |2,_=>
   cases ho;obtain⟨_,e0,rfl⟩:=hd 1 rfl;have e0:a.tmps[69]?=some _:=e0;exact J9 rfl rfl (by simp[execOp,go_sem,e0];try rfl) ⟨_,rfl,rfl,.refl⟩
  |3,_=>
   cases ho;obtain⟨_,e0,rfl⟩:=hd 2 rfl;have e0:a.tmps[70]?=some _:=e0;exact J9 rfl rfl (by simp[execOp,go_sem,e0,hc7 _ CS];try rfl) ⟨_,rfl,rfl,.refl⟩
  |4,_=>
   cases ho;exact J9 rfl rfl (by simp[execOp,go_sem,s0];try rfl) ⟨_,rfl,rfl,.refl⟩
  |5,_=>
   cases ho;obtain⟨_,e0,rfl⟩:=hd 4 rfl;have e0:a.tmps[72]?=some _:=e0;exact NM rfl rfl (by simp[execOp,go_sem,e0];try rfl) (gY (qk _ CS).cells.1) λe w2 Ii=>⟨_,Ii.1,_,rfl,rfl,by rw[Ii.2];exact .refl⟩
  |6,_=>
   cases ho;obtain⟨_,e3,rfl⟩:=hd 3 rfl;have e3:a.tmps[71]?=some _:=e3;obtain⟨_,e5,rfl⟩:=hd 5 rfl;have e5:a.tmps[73]?=some _:=e5;exact J9 rfl rfl (by simp[execOp,go_sem,e3,e5,(qk _ CS).vs.lookup];try rfl) ⟨_,rfl,rfl,.refl⟩
  |i+7,h=>omega
 ·obtain⟨v6,p6,rfl⟩:=hF 6 (by omega);have p6:a.tmps[74]?=some _:=p6;show wpOps prog _ Q [7] a wv;rw[wpOps_cons];refine J9 (v:=.map (some src)) (w':=wv) rfl rfl (by simp[execOp,go_sem,p6];try rfl) ?_;obtain⟨tm,NI⟩:=a;simp only at GX;subst GX;exact hQ _ _ (by rw[<- Ae,<- hs];simp[Act.put]) ((AQ (by omega)).trans ((hold 0 λi _=>by omega).trans t0)) ((AQ (by omega)).trans ((hold 3 λi _=>by omega).trans t3)) (EX (by omega)) CS
theorem J05k{L:List (JD × JJ)}(hm:CJ w src L)(hL:L.length<=1000)(GY:wb<w.heap.size)(hW:WrB w (wb+1) wb done)(NG:done.length<=1000000)(Ae:T0.size=190)(t0:T0[0]?=some (pt x))(t3:T0[3]?=some (pt wb))(t6:T0[6]?=some (.map (some src)))
  (hQ:∀T w',T.size=190->T[0]?=some (pt x)->T[3]?=some (pt wb)->T[6]?=some (.map (some src))->WrB w' (wb+1) wb (done++Eo L.length)->KP (wb+1) wb w w'->Q .normal ⟨T,ds⟩ w') :
  Zv.wp prog Q ⟨T0,ds⟩ w:=by
 obtain⟨f,rfl⟩:=Qg Ae;rw[Qj]at *;have e0:f 0=_:=Aa t0;have e3:f 3=_:=Aa t3;have e6:f 6=_:=Aa t6;rw[e0,e3,e6];clear t0 t3 t6 e0 e3 e6;have hlen:=λty=>hm.len underlying70 ty;have Lp:=YQ (w:=w) (base:=wb+1) (wb:=wb) (n:=(L.length:Int)) (by omega) (by omega) hW (by omega) (by omega);rw[Int.toNat_natCast]at Lp;simp only[Zv,b15,fC,sC,f15,Ar]
 go_wp2_with (go_at_call 30;refine Lp.mono ?_;rintro e w1 ⟨⟨v,rfl⟩,z1,z2⟩)
 exact hQ _ _ rfl rfl rfl rfl z1 z2
end
noncomputable def Qe:Code:=fC (sC (sC (sC (sC (sC (sC b15))))))
noncomputable def Jkp:Code:=lC (bC (sC Qe))
noncomputable def Jkq:Code:=bC (fC (sC (sC Jkp)))
noncomputable def k15:Code:=sC (sC Jkq)
def YR(B:Bun):JD:=Eo (IntKind.u64.wrap B.n).toNat++CG B.r++CG B.h++Eo B.l.length++CG B.l
theorem WrB.tch{w w':JE}{base wb:Nat}{bs:JD}(h:WrB w base wb bs)(t:Tch w.heap.size M0 w w'):WrB w' base wb bs:=by obtain⟨v,hv,hp⟩:=h;exact⟨v,(t.heap wb (Ji hv) λh=>h).trans hv,hp.kept λb cur _ h=>(t.heap b (Ji h) λh=>h).trans h⟩
section
variable{w0 w:JE}{wb kb src:Nat}{c:J8}{key:JD}{t:TR}{T:List TR}{Q:Exit->Act->JE->Prop}{ds:List Deferred}{done:JD}
theorem J078{a0 a1 a2 a4 a5 a7 a9 OJ a11 a12 a13 a14 a15 a16 a17 a18 a19 a20 a21 a22 a23 a24 a25 a26 a27 a28 a29 a30 a31 a32 a33 a34 a35 a36 a37 a38 a39 a40 a41 a42 a43 a44 a45 a46 a47 a48 a49 a50 a51 a52 a53 a54 a55 a56 a57 a58 a59 a60 a61 a62 a63 a64 a65 a66 a67 a68 a69 a70 a71 a72 a73 a74 a75 a76 a77 a78 a79 a80 a81 a82 a83 a84 a85 a86 a87 a88 a89 a90 a91 a92 a93 a94 a95 a96 a97 a98 a99 Jqt Jqu Jqv a103 a104 a105 a106 a107 a108 a109 a110 a111 a112 a113 a114 a115 a116 a117 a118 a119 a120 a121 a122 a123 a124 a125 a126 a127 a128 a129 a130 a131 a132 a133 a134 a135 a136 a137 a138 a139 a140 a141 a142 a143 a144 a145 a146 Jqx a148 Jqy Jtk Jtl a152 Jtm a154 Jtn a156 a157 Jto a159 a160 Jzf a162 Jzg a164 Jzh Jzi a167 a168 Jzj Jzk a171 Jzl a173 Jzm a175 Jzn Jzo Jzp Jzq Jzr Jzs a182 a183 Jzt Jzu Jzv Jzw Jzx Jzy:JJ}(hc:Jw c)(hT:TabAt false w c src T)(ht:t∈T)(hl:look (T.map TR.kv) t.k=some (.pointer (some ⟨t.p.b,0,none⟩)))(hK:EI t.k)(Bj:∀x∈t.B.h,0<=x)(BK:∀x∈t.p.pl,x<wb)(GN:w.heap[kb]?=some (.cells (ai .i64 t.k) 76))(GY:wb<w.heap.size)(hW:WrB w (wb+1) wb done)(NG:done.length<=900000)
  (hQ:∀(u11 u12 Jtp Jtq lY Jtr Jts Jtt Jtu Jtv Jtw Jze Jzz pW lN nZ mW nP mY jQ pU qG kY iL kK jS qI iQ kL lM lS kZ mM oJ lH iM jP qC mG nC pK nN nG jZ:JJ)(w':JE),WrB w' (wb+1) wb (done++YR t.B)->KP (wb+1) wb w w'->Q .normal ⟨#[a0,a1,a2,pt wb,a4,a5,.map (some src),a7,pt kb,a9,OJ,u11,u12,a13,a14,a15,a16,a17,a18,a19,a20,a21,a22,a23,a24,a25,a26,a27,a28,a29,a30,a31,a32,a33,a34,a35,a36,a37,a38,a39,a40,a41,a42,a43,a44,a45,a46,a47,a48,a49,a50,a51,a52,a53,a54,a55,a56,a57,a58,a59,a60,a61,a62,a63,a64,a65,a66,a67,a68,a69,a70,a71,a72,a73,a74,a75,a76,a77,a78,a79,a80,a81,a82,a83,a84,a85,a86,a87,a88,a89,a90,a91,a92,a93,a94,a95,a96,a97,a98,a99,Jqt,Jqu,Jqv,Jtp,Jtq,lY,Jtr,Jts,Jtt,Jtu,Jtv,Jtw,Jze,Jzz,pW,lN,nZ,mW,nP,mY,jQ,pU,qG,kY,iL,kK,jS,qI,iQ,kL,lM,lS,kZ,mM,oJ,lH,iM,jP,qC,mG,nC,pK,nN,nG,jZ,a145,a146,Jqx,a148,Jqy,Jtk,Jtl,a152,Jtm,a154,Jtn,a156,a157,Jto,a159,a160,Jzf,a162,Jzg,a164,Jzh,Jzi,a167,a168,Jzj,Jzk,a171,Jzl,a173,Jzm,a175,Jzn,Jzo,Jzp,Jzq,Jzr,Jzs,a182,a183,Jzt,Jzu,Jzv,Jzw,Jzx,Jzy],ds⟩ w') :
  k15.wp prog Q ⟨#[a0,a1,a2,pt wb,a4,a5,.map (some src),a7,pt kb,a9,OJ,a11,a12,a13,a14,a15,a16,a17,a18,a19,a20,a21,a22,a23,a24,a25,a26,a27,a28,a29,a30,a31,a32,a33,a34,a35,a36,a37,a38,a39,a40,a41,a42,a43,a44,a45,a46,a47,a48,a49,a50,a51,a52,a53,a54,a55,a56,a57,a58,a59,a60,a61,a62,a63,a64,a65,a66,a67,a68,a69,a70,a71,a72,a73,a74,a75,a76,a77,a78,a79,a80,a81,a82,a83,a84,a85,a86,a87,a88,a89,a90,a91,a92,a93,a94,a95,a96,a97,a98,a99,Jqt,Jqu,Jqv,a103,a104,a105,a106,a107,a108,a109,a110,a111,a112,a113,a114,a115,a116,a117,a118,a119,a120,a121,a122,a123,a124,a125,a126,a127,a128,a129,a130,a131,a132,a133,a134,a135,a136,a137,a138,a139,a140,a141,a142,a143,a144,a145,a146,Jqx,a148,Jqy,Jtk,Jtl,a152,Jtm,a154,Jtn,a156,a157,Jto,a159,a160,Jzf,a162,Jzg,a164,Jzh,Jzi,a167,a168,Jzj,Jzk,a171,Jzl,a173,Jzm,a175,Jzn,Jzo,Jzp,Jzq,Jzr,Jzs,a182,a183,Jzt,Jzu,Jzv,Jzw,Jzx,Jzy],ds⟩ w:=by
 have hok:=hT.ok t ht;have V7:=hT.bun t ht;have Qu:t.B.r.length<=64/\0<t.B.r.length:=by
  have h1:=hc.b1;have h2:=hc.b2;rw[hok.r];have:c.bits=4\/c.bits=5\/c.bits=6:=by omega
  rcases this with e|e|e<;>rw[e]<;>decide
 have PU:t.B.h.length<=9/\0<t.B.h.length:=by rw[hok.h];have:=hc.nb;omega
 have Q5:t.B.l.length<=8:=by have:=hok.lK;have:=hc.k2;omega
 have aG:∀w1,KP (wb+1) wb w w1->Jz false w1 c t.p t.B:=λw1 k=>V7.kept λx hx=>k.low (by have:=BK x hx;omega) (V7.lt x hx) (by have:=BK x hx;omega);have DV:=hT.map.lookup hK;rw[hl]at DV;obtain⟨y0,y1,y2,y3,y4,hy⟩:=VJ hK.1;have Ew:ai .i64 t.k=#[.int .i64 y0,.int .i64 y1,.int .i64 y2,.int .i64 y3,.int .i64 y4]:=by rw[hy];rfl
 rw[Ew]at GN DV;have z0:=(cell_of GN 0).trans rfl;have z1:=(cell_of GN 1).trans rfl;have z2:=(cell_of GN 2).trans rfl;have z3:=(cell_of GN 3).trans rfl;have z4:=(cell_of GN 4).trans rfl;have b0:=V7.c0;have WC:∃r cc,t.p.lr=some (r,cc):=by
  have hl:=V7.least;cases hp:t.p.lr with
  |none=>rw[hp]at hl;exact absurd hl.row hok.lne
  |some q=>exact⟨q.1,q.2,rfl⟩
 obtain⟨lr,lc,WC⟩:=WC;have aH:∀z:Int,0<=IntKind.u64.wrap z/\IntKind.u64.wrap z<=18446744073709551615:=λz=>by rw[IntKind.wrap_u64];omega
 have xZ:∀y∈t.B.r,0<=y/\y<=18446744073709551615:=λy hy=>by have:=hok.r8 y hy;omega
 have Uc:∀y∈t.B.h,0<=y/\y<=18446744073709551615:=λy hy=>by have:=Bj y hy;have:=(hok.h64 y hy).2;omega
 have iZ:∀y∈t.B.l,0<=y/\y<=18446744073709551615:=λy hy=>hok.l64 y hy;have l1:(Eo (IntKind.u64.wrap t.B.n).toNat).length<=10:=Ld (by have:=aH t.B.n;omega);have l2:(CG t.B.r).length<=10*t.B.r.length:=Ou λy hy=>(xZ y hy).2;have l3:(CG t.B.h).length<=10*t.B.h.length:=Ou λy hy=>(Uc y hy).2;have l4:(Eo t.B.l.length).length<=10:=Ld (by omega);have Lp:=YQ (w:=w) (base:=wb+1) (wb:=wb) (n:=IntKind.u64.wrap t.B.n) (by omega) (by omega) hW (aH _) (by omega);simp only[k15,Jkq,Jkp,Qe,b15,fC,sC,bC,lC,f15,Ar]
 go_wp2_with (first
  |(go_at_call 159;refine YA.mono ?_;rintro e w2 ⟨g2,q2,rfl,Bq,r2,t2⟩;have W2:=W1.tch t2;have s2:=t2.size;have Yj:=SH (g:=g2) (cap:=q2) (xs:=t.B.r) (Nat.lt_succ_self wb) (by omega) W2 (λ_=>r2) (λ_=>by omega) xZ (by rw[List.length_append];omega) ⟨_,q2,rfl,λ_=>rfl⟩)
  |(go_at_call 166;refine Ir.mono ?_;rintro e w4 ⟨g4,q4,rfl,aT,r4,t4⟩;have W4:=W3.tch t4;have s4:=t4.size;have hp3:=SH (g:=g4) (cap:=q4) (xs:=t.B.h) (Nat.lt_succ_self wb) (by omega) W4 (λ_=>r4) (λ_=>by omega) Uc (by simp only[List.length_append];omega) ⟨_,q4,rfl,λ_=>rfl⟩)
  |(go_at_call 173;refine WW.mono ?_;rintro e w6 ⟨g6,q6,rfl,Y3,r6,t6⟩;have W6:=W5.tch t6;have s6:=t6.size;have ZF:=YQ (w:=w6) (base:=wb+1) (wb:=wb) (n:=(t.B.l.length:Int)) (by omega) (by omega) W6 (by omega) (by simp only[List.length_append];omega))
  |(go_at_call 30;first
   |(refine hp5.mono ?_;rintro e w8 ⟨⟨v8,rfl⟩,W8,k8⟩)
   |(refine ZF.mono ?_;rintro e w7 ⟨⟨v7,rfl⟩,W7,k7⟩;rw[Int.toNat_natCast]at W7;have s7:=k7.size;have r7:=k7.row r6 (by omega) (by decide);have hp5:=SH (g:=g6) (cap:=q6) (xs:=t.B.l) (Nat.lt_succ_self wb) (by omega) W7 (λ_=>r7) (λ_=>by omega) iZ (by simp only[List.length_append];omega) ⟨_,q6,rfl,λ_=>rfl⟩)
   |(refine hp3.mono ?_;rintro e w5 ⟨⟨v5,rfl⟩,W5,k5⟩;have s5:=k5.size;have k05:=(k03.trans (KP.tch t4)).trans k5;have c5:=(aG w5 k05).c3;have mm3:=Jk8 t.p.lb w5;have WW:=Ji1 (WC▸(aG w5 k05).least) (by omega))
   |(refine Yj.mono ?_;rintro e w3 ⟨⟨v3,rfl⟩,W3,k3⟩;have s3:=k3.size;have k03:=(k1.trans (KP.tch t2)).trans k3;have c3:=(aG w3 k03).c2;have mm2:=Jk7 t.p.hb w3;have Ir:=Jki (aG w3 k03).hist (by omega) PU.2 λy hy=>⟨Bj y hy,(hok.h64 y hy).2⟩)
   |(refine Lp.mono ?_;rintro e w1 ⟨⟨v1,rfl⟩,W1,k1⟩;have s1:=k1.size;have c1:=(aG w1 k1).c1;have mm1:=Jk6 t.p.rb w1;have YA:=Jn4 (aG w1 k1).reg (by omega) Qu.2 hok.r8)))
 refine hQ _ _ _ _ _ _ _ _ _ _ _ _ _ _ _ _ _ _ _ _ _ _ _ _ _ _ _ _ _ _ _ _ _ _ _ _ _ _ _ _ _ _ _ _ _ ?_ (((k05.trans (KP.tch t6)).trans k7).trans k8);simpa[YR,List.append_assoc]using W8
end
def NU(g:JD):JD:=g.flatMap λy=>Eo (IntKind.u64.wrap y).toNat
def rowB(T:List TR)(x:JD):JD:=NU (Dk 7 x 5)++match tm T x with|some B=>YR B|none=>[]
def FZ(T:List TR)(ks:List (JD)):JD:=ks.flatMap (rowB T)
theorem Zl(z:Int):0<=IntKind.u64.wrap z/\IntKind.u64.wrap z<=18446744073709551615:=by rw[IntKind.wrap_u64];omega
theorem rH{g:JD}:(NU g).length<=10*g.length:=by
 induction g with
 |nil=>simp[NU]
 |cons x l ih=>
  have h2:=Ld (n:=(IntKind.u64.wrap x).toNat) (by have:=Zl x;omega);unfold NU at ih ⊢;rw[List.flatMap_cons,List.length_append,Gu];omega
theorem J05b{l:JD}{k:Nat}(h:k<l.length):NU (l.take (k+1))=NU (l.take k)++Eo (IntKind.u64.wrap (l.getD k 0)).toNat:=by unfold NU;rw[List.take_add_one,Dh h,List.flatMap_append,CP,Dh h];simp
theorem uK{c:J8}{B:Bun}(hc:Jw c)(h:Jl c B)(hp:∀x∈B.h,0<=x):(YR B).length<=1000:=by
 have Qu:B.r.length<=64:=by
  have h1:=hc.b1;have h2:=hc.b2;rw[h.r];have:c.bits=4\/c.bits=5\/c.bits=6:=by omega
  rcases this with e|e|e<;>rw[e]<;>decide
 have PU:B.h.length<=9:=by rw[h.h];have:=hc.nb;omega
 have Q5:B.l.length<=8:=by have:=h.lK;have:=hc.k2;omega
 have l1:=Ld (n:=(IntKind.u64.wrap B.n).toNat) (by have:=Zl B.n;omega);have l2:=Ou (l:=B.r) λy hy=>by have:=h.r8 y hy;omega
 have l3:=Ou (l:=B.h) λy hy=>by have:=(h.h64 y hy).2;omega
 have l4:=Ld (n:=B.l.length) (by omega);have l5:=Ou (l:=B.l) λy hy=>(h.l64 y hy).2;unfold YR;simp only[List.length_append];omega
theorem uD{c:J8}{T:List TR}{x:JD}(hc:Jw c)(hok:∀t∈T,Jl c t.B)(hp:∀t∈T,∀y∈t.B.h,0<=y)(hx:x.length=5):(rowB T x).length<=1100:=by
 have h1:=rH (g:=Dk 7 x 5);have h2:(Dk 7 x 5).length<=5:=by unfold Dk;rw[Et];refine BL (List.length_filter_le _ _) ?_;simp;omega
 unfold rowB;rw[List.length_append];cases hm:tm T x with
 |none=>simp;omega
 |some B=>
  obtain⟨t,T1,T2,Va,_,rfl,_,_⟩:=OY hm;have Qx:t∈T:=by rw[Va];simp
  have:=uK hc (hok t Qx) (hp t Qx);simp only;omega
theorem qR{T:List TR}{l:List (JD)}(h:∀x∈l,(rowB T x).length<=1100):(FZ T l).length<=1100*l.length:=by
 induction l with
 |nil=>simp[FZ]
 |cons x l ih=>
  have h1:=ih λy hy=>h y (by simp[hy]);have h2:=h x (by simp);unfold FZ at h1 ⊢;rw[List.flatMap_cons,List.length_append,Gu];omega
def Jkr(x N:Nat)(key:JD):Nat->JJ->JE->Prop
 |0,v,_=>v=.agg (ai .i64 key)
 |1,v,_=>v=pt x
 |2,v,_=>v=.int .i64 7
 |3,v,w=>SlI false w N v 3 .i64 (Dk 7 key 5)
 |4,v,_=>v=.int .i64 (Dk 7 key 5).length
 |_,v,_=>v=.int .i64 0
theorem J01u{x N:Nat}{key:JD}(i:Nat)(v:JJ)(w w':JE)(h:Jkr x N key i v w)(t:Tch w.heap.size M0 w w'):Jkr x N key i v w':=by
 match i,h with
 |0,h|1,h|2,h=>exact h
 |3,h=>exact SlI.tch h t
 |4,h=>exact h
 |i+5,h=>exact h
section
variable{w:JE}{x wb src vm:Nat}{c:J8}{seed nf:Int}{h:JJ}{T:List TR}{Q:Exit->Act->JE->Prop}{T0:JC}{ds:List Deferred}{done:JD}
theorem J05c(hc:Jw c)(h0:w.cell? ⟨x,0,none⟩=some (.int .i64 3))(hT:TabAt false w c src T)(jK:T.length<=500)(Bj:∀t∈T,∀y∈t.B.h,0<=y)(BK:∀y,y=src\/y∈tpl T->y<wb)(Yq:x<wb)(GY:wb<w.heap.size)(hW:WrB w (wb+1) wb done)(NG:done.length<=100000)(Ae:T0.size=190)(t0:T0[0]?=some (pt x))(t3:T0[3]?=some (pt wb))(t6:T0[6]?=some (.map (some src)))
  (hQ:∀T' w' ks,T'.size=190->T'[0]?=some (pt x)->T'[3]?=some (pt wb)->keysOf (T.map TR.kv) ks->WrB w' (wb+1) wb (done++FZ T (ks.map (·.1)))->KP (wb+1) wb w w'->Q .normal ⟨T',ds⟩ w') :
  Qe.wp prog Q ⟨T0,ds⟩ w:=by
 obtain⟨f,rfl⟩:=Qg Ae;rw[Qj]at *;have e0:f 0=_:=Aa t0;have e3:f 3=_:=Aa t3;have e6:f 6=_:=Aa t6;rw[e0,e3,e6];clear t0 t3 t6 e0 e3 e6;have hs:=yR src (T.map TR.kv) w hT.map (by simp;omega);obtain⟨X,hX,hX'⟩:∃X:Code,X=k15/\X=k15:=⟨_,rfl,rfl⟩;simp only[k15,Jkq,Jkp,Qe,b15,fC,sC,bC,lC,f15,Ar]at hX;simp only[Qe,b15,fC,sC,f15,Ar]
 go_wp2_with (go_at_call 32;refine hs.mono ?_;rintro e w1 ⟨v,ks,rfl,Ky,Aj,t1⟩;obtain⟨ka,kc,Nz,rfl,GN⟩:=Aj.at)
 have hlen:ks.length=T.length:=by have:=Ky.length;simpa using this
 obtain⟨n,hn⟩:∃n,ks.length=n:=⟨_,rfl⟩;rw[hn]at hlen ⊢;have hn5:n<=500:=by omega
 clear hlen
 go_loopw [84] (λi wr=>∃j:Nat,j<=n/\i=.int .i64 j/\WrB wr (wb+1) wb (done++FZ T ((ks.take j).map (·.1)))/\KP (wb+1) wb w wr/\KP (wb+1) wb w1 wr) (λi _=>n-(RowKit.intOf i).toNat)
 case atStart=>exact⟨0,by omega,rfl,by simpa[FZ]using hW.tch t1,.tch t1,.refl⟩
 case round=>
  rw[<- hX];clear hX;obtain⟨j,hj,rfl,Iq,RP,DF⟩:=hrel;rcases BG j n with Ac|Dp
  ·have BI:(j:Int)<n:=by omega
   obtain⟨⟨key,Ew⟩,hx⟩:∃x,ks[j]?=some x:=⟨ks[j]'(by omega),Dh _⟩;have P8:∃g,ka=some ⟨g,0,none⟩/\j<kc/\∀t,t<5->wr.cell? ⟨g,j*5+t,none⟩=some (.int .i64 (key.getD t 0)):=by
    obtain⟨g,e1,_,e3,e4⟩:=Nz.cells hx;refine⟨g,e1,e3,λt ht=>?_⟩;rcases Nz with⟨e,_⟩|⟨g',cur,e,⟨z,hz,Ol⟩,_⟩
    ·rw[e]at e1;cases e1
    ·rw[e]at e1;cases e1;obtain rfl:=Ol rfl;have Dp:=(GN _ e).1;simp only at Dp;exact DF.cell hz (e4 t ht) (by omega) (by decide)
   obtain⟨g,rfl,hjc,Bo⟩:=P8;have Jye:TabAt false wr c src T:=hT.kept λy hy=>RP.low (by have:=BK y hy;omega) (hT.lt y hy) (by have:=BK y hy;omega);obtain⟨t,A8,Bc,CX⟩:=Ky.row hT.nodup (NK hx);obtain⟨t',T1,T2,Va,Ce,FU,_,DV⟩:=OY CX;have Qx:t'∈T:=by rw[Va];simp
   clear Va;simp only at Bc CX DV Ce;have xZ:rowB T key=NU (Dk 7 key 5)++YR t'.B:=by unfold rowB;rw[CX,FU]
   have TQ:=uK hc (hT.ok t' Qx) (Bj t' Qx);have hgl:(Dk 7 key 5).length<=5:=by unfold Dk;rw[Et];refine BL (List.length_filter_le _ _) ?_;simp;omega
   have hrs:FZ T ((ks.take (j+1)).map (·.1))=FZ T ((ks.take j).map (·.1))++(NU (Dk 7 key 5)++YR t'.B):=by rw[List.take_add_one,hx,List.map_append];unfold FZ;rw[List.flatMap_append];simp[xZ]
   have Qu:(FZ T ((ks.take j).map (·.1))).length<=600000:=by
    have h1:=qR (T:=T) (l:=(ks.take j).map (·.1)) λy hy=>by obtain⟨z,_,rfl⟩:=AY.1 hy;exact uD hc hT.ok Bj z.2.1
    rw[Et,List.length_take]at h1;omega
   have Ee:Dk 7 key 5≠[]:=by obtain⟨y0,y1,y2,y3,y4,hy⟩:=VJ Ew.1;rw[hy];simp[Dk,List.zipIdx_cons,Nat.testBit]
   have h0r:wr.cell? ⟨x,0,none⟩=some (.int .i64 3):=(DX (w:=w) (RP.low (b:=x) (by omega) (by have:=cell_lt h0;exact this) (by omega))).trans h0;have Jgt:∀w:JE,Calls prog 33 #[.agg (ai .i64 key),.int .i64 7] w λe w'=>∃v,e=.returned v/\SlI false w' w.heap.size v 3 .i64 (Dk 7 key 5)/\Tch w.heap.size M0 w w':=Jk9 key Ew.1 7;have hswr:=RP.size;have hK':EI t'.k:=by rw[Ce];exact Ew
   obtain⟨y0,y1,y2,y3,y4,hy⟩:=VJ Ew.1;have XJ:ai .i64 key=#[.int .i64 y0,.int .i64 y1,.int .i64 y2,.int .i64 y3,.int .i64 y4]:=by rw[hy];rfl
   have c0:wr.cell? ⟨g,j*5,none⟩=some (.int .i64 y0):=(Bo 0 (by omega)).trans (by rw[hy];rfl);have c1:wr.cell? ⟨g,j*5+1,none⟩=some (.int .i64 y1):=(Bo 1 (by omega)).trans (by rw[hy];rfl);have c2:wr.cell? ⟨g,j*5+2,none⟩=some (.int .i64 y2):=(Bo 2 (by omega)).trans (by rw[hy];rfl);have c3:wr.cell? ⟨g,j*5+3,none⟩=some (.int .i64 y3):=(Bo 3 (by omega)).trans (by rw[hy];rfl);have c4:wr.cell? ⟨g,j*5+4,none⟩=some (.int .i64 y4):=(Bo 4 (by omega)).trans (by rw[hy];rfl);clear Bo;obtain⟨W0,BZ⟩:∃W0,wr.alloc (.cells #[.int .i64 y0,.int .i64 y1,.int .i64 y2,.int .i64 y3,.int .i64 y4] 76)=W0:=⟨_,rfl⟩;have t0:Tch wr.heap.size M0 wr W0:=by rw[<- BZ];exact Tch.refl.alloc (Ad _) _
   have e0:W0.heap[wr.heap.size]?=some (.cells #[.int .i64 y0,.int .i64 y1,.int .i64 y2,.int .i64 y3,.int .i64 y4] 76):=by rw[<- BZ];exact Ja _
   have z0:=(cell_of e0 0).trans rfl;have z1:=(cell_of e0 1).trans rfl;have z2:=(cell_of e0 2).trans rfl;have z3:=(cell_of e0 3).trans rfl;have z4:=(cell_of e0 4).trans rfl;have AX:∀{wv:JE}{a:Addr}{u:JJ},Tch W0.heap.size M0 W0 wv->W0.cell? a=some u->wv.cell? a=some u:=λt h=>(t.cell (cell_lt h) λx=>x).trans h;have h0W:W0.cell? ⟨x,0,none⟩=some (.int .i64 3):=(t0.cell (cell_lt h0r) λx=>x).trans h0r;go_wp2;refine rZ 88 6 (Jkr x W0.heap.size key) mixed (by kernel_rfl) (by show 88+6<=190;omega) J01u (λi o a wv hi ho CS hold hd=>?_) λvs wv hl CS hF=>?_
   ·match i,hi with
    |0,_=>
     cases ho;have s8:a.tmps[8]?=some _:=(hold 8 (.inl (by omega))).trans rfl;exact J9 (v:=.agg (ai .i64 key)) rfl rfl (by rw[XJ];simp[execOp,go_sem,s8,AX CS z0,AX CS z1,AX CS z2,AX CS z3,AX CS z4];try rfl) ⟨_,rfl,rfl,.refl⟩
    |1,_=>
     cases ho;have s0:a.tmps[0]?=some _:=(hold 0 (.inl (by omega))).trans rfl;exact J9 rfl rfl (by simp[execOp,go_sem,s0];try rfl) ⟨_,rfl,rfl,.refl⟩
    |2,_=>
     cases ho;obtain⟨_,e1,rfl⟩:=hd 1 rfl;have e1:a.tmps[89]?=some _:=e1;exact NM rfl rfl (by simp[execOp,go_sem,e1];try rfl) (gY (AX CS h0W)) λe w2 Ii=>⟨_,Ii.1,_,rfl,rfl,by rw[Ii.2];exact .refl⟩
    |3,_=>
     cases ho;obtain⟨_,e1,rfl⟩:=hd 0 rfl;have e1:a.tmps[88]?=some _:=e1;obtain⟨_,e2,rfl⟩:=hd 2 rfl;have e2:a.tmps[90]?=some _:=e2;exact NM rfl rfl (by simp[execOp,go_sem,e1,e2];try rfl) (Jgt _) λe w2 ⟨v,h1,h2,h3⟩=>⟨v,h1,v,rfl,h2.mono CS.size,h3⟩
    |4,_=>
     cases ho;obtain⟨v,e3,hv⟩:=hd 3 rfl;have e3:a.tmps[91]?=some _:=e3;have MH:∃p c,v=.slice p (Dk 7 key 5).length c:=by
      rcases hv with⟨h1,h2⟩|⟨g,cap,h1,_⟩
      ·exact⟨none,0,by rw[h2];exact h1⟩
      ·exact⟨_,_,h1⟩
     obtain⟨p,c,rfl⟩:=MH;exact J9 rfl rfl (by simp[execOp,go_sem,e3];try rfl) ⟨_,rfl,rfl,.refl⟩
    |5,_=>
     cases ho;exact J9 rfl rfl (by simp[execOp,go_sem];try rfl) ⟨_,rfl,rfl,.refl⟩
    |i+6,h=>omega
   ·match vs,hl with
    |[v0,v1,v2,v3,v4,v5],_=>
     obtain rfl:v0=_:=hF 0 (by omega);obtain rfl:v1=_:=hF 1 (by omega);obtain rfl:v2=_:=hF 2 (by omega);have h3:SlI false wv W0.heap.size v3 3 .i64 (Dk 7 key 5):=hF 3 (by omega);obtain rfl:v4=_:=hF 4 (by omega);obtain rfl:v5=_:=hF 5 (by omega);clear hF;rcases h3 with⟨_,h3⟩|⟨g3,q3,rfl,hg3b,r3⟩
     ·exact absurd h3 Ee
     simp only[List.drop_succ_cons,List.drop_zero,setFrom,List.setIfInBounds_toArray,List.set_cons_succ,List.set_cons_zero];refine wpList_nil ?_;have Ue:KP (wb+1) wb wr wv:=(KP.tch t0).trans (KP.tch CS);have hWv:=(Iq.tch t0).tch CS;have hebv:wv.heap[wr.heap.size]?=some (.cells (ai .i64 key) 76):=by rw[XJ];exact(CS.heap _ (Ji e0) λh=>h).trans e0
     have hkwv:=RP.trans Ue;have hkvq:=Ue;have hsv:=Ue.size;have hg3w:g3≠wb:=by have:=t0.size;omega
     have BX:wr.heap.size≠wb:=by omega
     clear XJ hy;clear z0 z1 z2 z3 z4 e0 t0 CS AX c0 c1 c2 c3 c4 Jgt h0W h0r Ue Iq Nz GN Ky hQ hs TQ;generalize wr.heap.size=kb at *;obtain⟨m3,aZ⟩:∃m,(Dk 7 key 5).length=m:=⟨_,rfl⟩;have sF:∀q,q<m3->NU ((Dk 7 key 5).take (q+1))=NU ((Dk 7 key 5).take q)++Eo (IntKind.u64.wrap ((Dk 7 key 5).getD q 0)).toNat:=λq hq=>J05b (by omega);have rY:NU ((Dk 7 key 5).take m3)=NU (Dk 7 key 5):=by rw[<- aZ,List.take_length]
     have Jli:∀q,(NU ((Dk 7 key 5).take q)).length<=50:=λq=>by have:=rH (g:=(Dk 7 key 5).take q);rw[List.length_take]at this;omega
     rw[aZ];go_wp2
     go_loopw [93] (λi wx=>∃q:Nat,q<=m3/\i=.int .i64 q/\WrB wx (wb+1) wb (done++FZ T ((ks.take j).map (·.1))++NU ((Dk 7 key 5).take q))/\KP (wb+1) wb wv wx) (λi _=>m3-(RowKit.intOf i).toNat)
     case atStart=>exact⟨0,by omega,rfl,by simpa[NU]using hWv,.refl⟩
     case round=>
      obtain⟨q,hq,rfl,hWx,TM⟩:=hrel;have hsx:=TM.size;rcases BG q m3 with Wp|Wp
      ·have g1:=(TM.row r3 hg3w (by decide)).cell (i:=q) (by omega);have g2:=sF q Wp;have g4:=Jli q;generalize(Dk 7 key 5).getD q 0=y at *;have hq3':(q:Int)<m3:=by omega
       have Lp:=YQ (w:=wr) (base:=wb+1) (wb:=wb) (n:=IntKind.u64.wrap y) (by omega) (by omega) hWx (Zl y) (by simp only[List.length_append];omega);clear sF Jli
       go_wp2_with (go_at_call 30;refine Lp.mono ?_;rintro e w2 ⟨⟨v,rfl⟩,W2,k2⟩)
       exact⟨⟨q+1,by omega,by go_num,by rw[g2,<- List.append_assoc];exact W2,TM.trans k2⟩,by simp[RowKit.intOf];omega⟩
      ·have CB:¬((q:Int)<m3):=by omega
       obtain rfl:q=m3:=by omega
       rw[rY]at hWx;have g4:=Jli q;rw[rY]at g4;have uZ:=hkwv.trans TM;have tabx:TabAt false wr c src T:=hT.kept λy hy=>uZ.low (by have:=BK y hy;omega) (hT.lt y hy) (by have:=BK y hy;omega);have hebx:wr.heap[kb]?=some (.cells (ai .i64 t'.k) 76):=by rw[Ce];exact TM.heap _ _ hebv BX λ_ cur e=>absurd (Obj.cells.inj e).2.1 (by decide)
       have mO:∀y∈t'.p.pl,y<wb:=λy hy=>BK y (.inr (Jm.2 ⟨t',Qx,hy⟩));rw[<- Ce]at DV;go_wp2;refine J078 hc tabx Qx DV hK' (Bj t' Qx) mO hebx (by omega) hWx (by simp only[List.length_append];omega) ?_;intro u11 u12 Jtp Jtq lY Jtr Jts Jtt Jtu Jtv Jtw Jze Jzz pW lN nZ mW nP mY jQ pU qG kY iL kK jS qI iQ kL lM lS kZ mM oJ lH iM jP qC mG nC pK nN nG jZ w3 W3 k3;go_wp2;refine⟨⟨j+1,by omega,by go_num,?_,uZ.trans k3,(DF.trans hkvq).trans (TM.trans k3)⟩,by simp[RowKit.intOf];omega⟩;rw[hrs];simpa[List.append_assoc]using W3
  ·obtain rfl:j=n:=by omega
   have CB:¬((j:Int)<j):=by omega
   rw[<- hn,List.take_length]at Iq;go_wp2;exact hQ _ _ ks rfl rfl rfl Ky Iq RP
end
end Go.Sim.Z
section
namespace Go.Proofs
open Go.Shelf
def Tryz.lays125p_ren:Go.Shelf.Ren:=⟨λ|125=>76|128=>112|129=>113|n=>n,λ|46=>129|3=>3|51=>101|53=>45|4=>4|5=>5|9=>9|n=>n,λ|n=>n⟩
theorem Tryz.lays125p:Go.Proofs.Lays.n125 prog Tryz.lays125p_ren:={
 mixed:=by kernel_rfl
 f125:=func76.trans (congrArg some (by kernel_rfl))
 f128:=func112.trans (congrArg some (by kernel_rfl))
 f129:=func113.trans (congrArg some (by kernel_rfl))
 t3:=underlying3
 a3:=isAgg3
 z3:=sizeOf3
 v3:=zeroValue3
 t4:=underlying4
 a4:=isAgg4
 z4:=sizeOf4
 v4:=zeroValue4
 t5:=underlying5
 a5:=isAgg5
 z5:=sizeOf5
 v5:=zeroValue5
 t9:=underlying9
 a9:=isAgg9
 z9:=sizeOf9
 v9:=zeroValue9
 t46:=underlying129
 a46:=isAgg129
 z46:=sizeOf129
 v46:=zeroValue129
 t51:=underlying101
 a51:=isAgg101
 z51:=sizeOf101
 v51:=zeroValue101
 t53:=underlying45
 a53:=isAgg45
 z53:=sizeOf45
 v53:=zeroValue45 }
theorem Tryz.bits_LenP(x:Int)(w:JE)(h0:0<=x)(h1:x<=18446744073709551615) :
  Calls prog 76 #[.int .u64 x] w λe w'=>e=.returned (.int .i64 (Lib.bitLen x.toNat))/\w'=w:=Any.bits_Len Tryz.lays125p x w h0 h1
end Go.Proofs
namespace Go.Sim.Z
open Go Go.Proofs Go.RowKit
section
variable{w:JE}{g cap:Nat}
theorem J04x:Calls prog 114 #[.slice (some ⟨g,0,none⟩) 1 cap,.int .i64 0,.int .i64 1] w λe w'=>(∃v,e=.returned v)/\w'=w:=by
 go_enter func114,ntmps114
 go_wp2
 go_loopw [6] (λi wr=>i=.int .i64 1/\wr=w) (λ_ _=>0)
 case atStart=>exact⟨rfl,rfl⟩
 case round=>
  obtain⟨rfl,rfl⟩:=hrel;go_wp2;go_end0;exact⟨⟨_,rfl⟩,rfl⟩
theorem J04y(l:Int):Calls prog 79 #[.slice (some ⟨g,0,none⟩) 1 cap,.int .i64 0,.int .i64 1,.int .i64 l] w λe w'=>(∃v,e=.returned v)/\w'=w:=by
 have h:=J04x (w:=w) (g:=g) (cap:=cap)
 go_enter func79,ntmps79
 go_wp2
 go_loopw [1,2] (λa b wr=>a=.int .i64 0/\b=.int .i64 1/\wr=w) (λ_ _ _=>0)
 case atStart=>exact⟨rfl,rfl,rfl⟩
 case round=>
  obtain⟨rfl,rfl,rfl⟩:=hrel
  go_wp2_with (go_at_call 114;refine h.mono ?_;rintro e w1 ⟨⟨v,rfl⟩,rfl⟩)
  refine bodyPost_ret (results_none rfl _ _ _) rfl ?_;exact⟨⟨_,rfl⟩,rfl⟩
theorem J01v:Calls prog 60 #[.slice (some ⟨g,0,none⟩) 1 cap] w λe w'=>(∃v,e=.returned v)/\w'=w:=by
 have h1:=Tryz.bits_LenP 1 w (by omega) (by omega);have h:=λl=>J04y (w:=w) (g:=g) (cap:=cap) l
 go_enter func60,ntmps60
 go_wp2_with (first
  |(go_at_call 76;refine h1.mono ?_;rintro e w1 ⟨rfl,rfl⟩)
  |(go_at_call 79;refine(h _).mono ?_;rintro e w1 ⟨⟨v,rfl⟩,rfl⟩))
 go_end0;exact⟨⟨_,rfl⟩,rfl⟩
theorem J01w{vm base:Nat}(hV:I5 w vm base) :
  Calls prog 34 #[.func (.func 61) #[] #[.pointer (some ⟨w.heap.size,0,none⟩)]] (w.alloc (.cells #[.map (some vm)] 62)) λe w'=>∃g cap,e=.returned (.slice (some ⟨g,0,none⟩) 1 cap)/\w.heap.size<=g/\Tch w.heap.size M0 w w':=by
 have gG:=Jfk hV;have hs:=λ(w1:JE)(g cap:Nat)=>J01v (w:=w1) (g:=g) (cap:=cap)
 go_enter func34,ntmps34
 go_wp2_with (first
  |(go_at_call 59;refine gG.mono ?_;rintro e w1 ⟨g,cap,rfl,hg,_,t1⟩;have AU:=hs w1 g cap)
  |(go_at_call 60;refine AU.mono ?_;rintro e w2 ⟨⟨v,rfl⟩,rfl⟩))
 go_ret;exact⟨g,cap,rfl,hg,t1⟩
end
end Go.Sim.Z
end
namespace Go.Sim.Z
open Go Go.Proofs Go.RowKit
noncomputable def YS:Code:=sC (sC (sC (sC (sC (sC (sC b15))))))
theorem J08n:b15=.seq (fC b15) (.seq (fC (sC b15)) (.seq YX (.seq Zg (.seq Zk (.seq Zv (.seq Qe YS)))))):=by kernel_rfl
def Jlj(bs:JD):JD:=bs++Eo 0++Eo (sumF (Qo (bs++Eo 0))).toNat
def VK(c:J8)(seed:Int)(bs:JD)(T:List TR)(ks:List (JD)):JD:=
 Jlj (CG (EH c seed)++Qi bs++Eo T.length++FZ T ks)
section
variable{w:JE}{x wb src vm:Nat}{c:J8}{seed nf:Int}{h:JJ}{T:List TR}{Q:Exit->Act->JE->Prop}{T0:JC}{ds:List Deferred}{done:JD}
theorem J05e(q:Dq w x c seed h nf vm src)(GY:wb<w.heap.size)(Yq:x<wb)(hW:WrB w (wb+1) wb done)(NG:done.length<=10000000)(Aq:done≠[])(Ae:T0.size=190)(t0:T0[0]?=some (pt x))(t3:T0[3]?=some (pt wb))
  (hQ:∀T w',T[2]?=some (.string (Qo (Jlj done)))->KP (wb+1) wb w w'->Q .ret ⟨T,ds⟩ w') :
  YS.wp prog Q ⟨T0,ds⟩ w:=by
 obtain⟨f,rfl⟩:=Qg Ae;rw[Qj]at *;have e0:f 0=_:=Aa t0;have e3:f 3=_:=Aa t3;rw[e0,e3];clear t0 t3 e0 e3;have hc7:=q.cells.2.2.2.2.2.2.2;have Vg:=J01w (w:=w) q.vs;simp only[YS,b15,fC,sC,f15,Ar];have XG:∀{w1:JE},Tch w.heap.size M0 w w1->WrB w1 (wb+1) wb done:=λt=>hW.tch t;have bP:(Eo 0).length<=10:=Ld (by omega)
 go_wp2_with (first
  |(go_at_call 35;refine(Jkg _ _).mono ?_;rintro e w1 ⟨rfl,rfl⟩)
  |(go_at_call 34;refine Vg.mono ?_;rintro e w2 ⟨g,cap,rfl,hg,t2⟩;have W2:=XG t2;have s2:=t2.size;have Lp:=YQ (w:=w2) (base:=wb+1) (wb:=wb) (n:=0) (by omega) (by omega) W2 (by omega) (by omega))
  |(go_at_call 30;refine Lp.mono ?_;rintro e w3 ⟨⟨v3,rfl⟩,W3,k3⟩;have s3:=k3.size;have W3:WrB w3 (wb+1) wb (done++Eo 0):=W3;have W3':=W3;obtain⟨u3,hu3,oC⟩:=W3;have d3:=(cell_of hu3 0).trans rfl;have hst3:=oC.str (by simp[Aq]);obtain⟨a3,n3,c3,rfl⟩:=oC.sl3;have Hq:=J06b (Qo (done++Eo 0));have Yj:=YQ (w:=w3) (base:=wb+1) (wb:=wb) (n:=sumF (Qo (done++Eo 0))) (by omega) (by omega) W3' (by omega) (by rw[List.length_append];omega)))
 go_loopw [165] (λi wr=>i=.int .i64 0/\wr=w3) (λ_ _=>0)
 case atStart=>exact⟨rfl,rfl⟩
 case round=>
  obtain⟨rfl,rfl⟩:=hrel
  go_wp2_with (first
   |(go_at_call 36;refine(J057 _ (by rw[J058,List.length_append];omega) _).mono ?_;rintro e w5 ⟨rfl,rfl⟩)
   |(go_at_call 30;refine Yj.mono ?_;rintro e w4 ⟨⟨v4,rfl⟩,W4,k4⟩;obtain⟨u4,hu4,jX⟩:=W4;have d4:=(cell_of hu4 0).trans rfl;have hst4:=jX.str (by simp[Aq]);obtain⟨a4,n4,c4,rfl⟩:=jX.sl3))
  refine hQ _ _ ?_ ((KP.tch t2).trans (k3.trans k4));unfold Jlj;rw[List.append_assoc];rfl
theorem J05q(Ae:T0.size=190)(t0:T0[0]?=some (pt x))(hQ:∀T w',T.size=190->T[0]?=some (pt x)->w'=w->Q .normal ⟨T,ds⟩ w'):(fC b15).wp prog Q ⟨T0,ds⟩ w:=by obtain⟨f,rfl⟩:=Qg Ae;rw[Qj]at *;have e0:f 0=_:=Aa t0;rw[e0];clear t0 e0;simp only[b15,fC,sC,f15,Ar];go_wp2;exact hQ _ _ rfl rfl rfl
theorem J05r(Ae:T0.size=190)(t0:T0[0]?=some (pt x))(hQ:∀T w',T.size=190->T[0]?=some (pt x)->T[3]?=some (pt w.heap.size)->w'=w.alloc (.cells #[.slice none 0 0] 86)->Q .normal ⟨T,ds⟩ w'):(fC (sC b15)).wp prog Q ⟨T0,ds⟩ w:=by obtain⟨f,rfl⟩:=Qg Ae;rw[Qj]at *;have e0:f 0=_:=Aa t0;rw[e0];clear t0 e0;simp only[b15,fC,sC,f15,Ar];go_wp2;exact hQ _ _ rfl rfl rfl rfl
theorem J01q{b cap:Nat}{bs:JD}(q:Dq w x c seed h nf vm src)(hc:Jw c)(V9:-9223372036854775808<=seed/\seed<=9223372036854775807)(CY:c.ba=some ⟨b,0,none⟩)(BX:c.nb=bs.length)(hb:Row false w b 3 .i64 bs cap)(hI:∀y∈bs,-9223372036854775808<=y/\y<=9223372036854775807)(tab:TabAt false w c src T)(jK:T.length<=500)(Bj:∀t∈T,∀y∈t.B.h,0<=y) :
  Calls prog 15 #[pt x] w λe w'=>∃ks,keysOf (T.map TR.kv) ks/\e=.returned (.string (Qo (VK c seed bs T (ks.map (·.1)))))/\Tch w.heap.size M0 w w':=by
 have hx:=q.blk.lt;obtain⟨w1,Cc⟩:∃w1,w1=w.alloc (.cells #[.slice none 0 0] 86):=⟨_,rfl⟩;have t1:Tch w.heap.size M0 w w1:=by rw[Cc];exact Tch.refl.alloc (Ad _) _
 have GY:w1.heap[w.heap.size]?=some (.cells #[.slice none 0 0] 86):=by rw[Cc];exact Ja _
 have AV:WrB w1 (w.heap.size+1) w.heap.size []:=⟨_,GY,.nil _ _⟩;have q1:Dq w1 x c seed h nf vm src:=q.kept (t1.heap x hx λh=>h) (t1.heap vm q.vs.lt λh=>h);have zB:TabAt false w1 c src T:=tab.kept λy hy=>t1.heap y (tab.lt y hy) λh=>h;have FQ:=hb.kept (t1.heap b hb.lt λh=>h);have hnb9:=hc.nb;have htl:∀y,y=src\/y∈tpl T->y<w.heap.size:=λy hy=>tab.lt y hy
 go_enter func15,ntmps15
 show Code.wp prog b15 _ _ _;rw[J08n];refine wp_seq (J05q (x:=x) rfl rfl λTa wa a1 a2 a3=>?_);have a3:=a3.symm;subst a3;refine wp_seq (J05r (x:=x) a1 a2 λTb wb' b1 b2 b3 b4=>?_);rw[<- Cc]at b4;have b4:=b4.symm;subst b4;have hwl:=Ji GY;refine wp_seq (J05h q1 V9 hwl AV b1 b2 b3 (by omega) λTc wc c1 c2 c3 c4=>?_);have low:∀{w2:JE},KP (w.heap.size+1) w.heap.size w w2->∀y,y<w.heap.size->w2.heap[y]?=w.heap[y]?:=λk y hy=>k.low (by omega) hy (by omega);have hq:∀{w2:JE},KP (w.heap.size+1) w.heap.size w w2->Dq w2 x c seed h nf vm src:=λk=>q.kept (low k _ hx) (low k _ q.vs.lt);have ht:∀{w2:JE},KP (w.heap.size+1) w.heap.size w w2->TabAt false w2 c src T:=λk=>tab.kept λy hy=>low k y (tab.lt y hy);have kc:KP (w.heap.size+1) w.heap.size w wc:=(KP.tch t1).trans c4;have sc:=c4.size;have l0:(CG (EH c seed)).length<=50:=by
  refine Ou (l:=EH c seed) λy hy=>?_;have hw:∀z:Int,IntKind.u64.wrap z<=18446744073709551615:=λz=>by rw[IntKind.wrap_u64];omega
  simp only[EH,AO,C9,or_false]at hy;rcases hy with rfl|rfl|rfl|rfl|rfl
  ·omega
  ·exact hw _
  ·exact hw _
  ·exact(Vz _).2
  ·exact hw _
 have l1:=vG (l:=bs);refine wp_seq (J05i (hq kc) CY BX (hb.kept (low kc _ hb.lt)) hI (by omega) hb.lt hx (by omega) c3 (by omega) c1 ((c2 0 (by omega)).trans b2) ((c2 3 (by omega)).trans b3) λTd wd d1 d2 d3 d4 d5=>?_);have kd:=kc.trans d5;have sd:=d5.size;refine wp_seq (J05j (hq kd) d1 d2 d3 λTe we e1 e2 e3 e4 e5=>?_);have ke:=kd.trans (.tch e5);have se:=e5.size;have KR:(T.map TR.kv).length=T.length:=Et _;refine wp_seq (J05k (ht ke).map (by omega) (by omega) (d4.tch e5) (by rw[List.length_append];omega) e1 e2 e3 e4 λTf wf f1 f2 f3 f4 f5 f6=>?_);rw[KR]at f5;have kf:=ke.trans f6;have sf:=f6.size;have l2:=Ld (n:=T.length) (by omega);refine wp_seq (J05c hc (hq kf).cells.1 (ht kf) jK Bj htl hx (by omega) f5 (by simp only[List.length_append];omega) f1 f2 f3 f4 λTg wg ks g1 g2 g3 g4 g5 g6=>?_);have kg:=kf.trans g6;have sg:=g6.size;have Ky:=g4.length;have l3:=qR (T:=T) (l:=ks.map (·.1)) λy hy=>by obtain⟨z,_,rfl⟩:=AY.1 hy;exact uD hc tab.ok Bj z.2.1
 rw[Et]at l3;refine J05e (hq kg) (by omega) hx g5 (by simp only[List.length_append];omega) (by
  have:Eo T.length≠[]:=by rw[Eo];split<;>simp
  simp[this]) g1 g2 g3 λTh wh h2 h3=>?_
 have kh:=kg.trans h3;refine bodyPost_ret (v:=.string (Qo (VK c seed bs T (ks.map (·.1))))) ?_ rfl ⟨ks,g4,rfl,⟨kh.size,λy hy _=>low kh y hy,kh.tape,kh.os,kh.output⟩⟩;simp[results,results15,go_sem,BH,h2,VK]
end
theorem J05s{a b:List Je}(h:a.Perm b):sortK a=sortK b:=by
 have tr:∀x y z:Je,(!ltOf Nb y x)=true->(!ltOf Nb z y)=true->(!ltOf Nb z x)=true:=λx y z h1 h2=>by simp only[Bool.not_eq_true']at h1 h2 ⊢;exact swoK.ntrans z y x h2 h1
 have tot:∀x y:Je,((!ltOf Nb y x) || (!ltOf Nb x y))=true:=λx y=>by
  cases h1:ltOf Nb y x with
  |false=>rfl
  |true=>
   cases h2:ltOf Nb x y with
   |false=>rfl
   |true=>
    have:=swoK.trans y x y h1 h2;rw[swoK.irrefl]at this;cases this
 have s1:=List.pairwise_mergeSort (le:=λx y=>!ltOf Nb y x) tr tot a;have s2:=List.pairwise_mergeSort (le:=λx y=>!ltOf Nb y x) tr tot b;refine List.Perm.eq_of_pairwise (λx y _ _ h1 h2=>?_) s1 s2 (((List.mergeSort_perm a _).trans h).trans (List.mergeSort_perm b _).symm);simp only[Bool.not_eq_true']at h1 h2;exact Jqs x y h2 h1
section
variable{T T':List TR}{ks Vb:List Je}
theorem tV(hn:(T.map (·.k)).Nodup)(F7:(T'.map (·.k)).Nodup)(h:∀k,tm T k=tm T' k):(T.map (·.k)).Perm (T'.map (·.k)):=by
 have key:∀{A B:List TR},(A.map (·.k)).Nodup->(∀k,tm A k=tm B k)->∀k,k∈A.map (·.k)->k∈B.map (·.k):=λhA h k hk=>by obtain⟨t,ht,rfl⟩:=AY.1 hk;have:=U7 hA ht;rw[h]at this;obtain⟨s,T1,T2,rfl,hs,_⟩:=OY this;exact AY.2 ⟨s,by simp,hs⟩
 exact(List.perm_ext_iff_of_nodup hn F7).2 λk=>⟨key hn h k,key F7 (λk=>(h k).symm) k⟩
theorem keysOf_eq(hn:(T.map (·.k)).Nodup)(F7:(T'.map (·.k)).Nodup)(h:∀k,tm T k=tm T' k)(hk:keysOf (T.map TR.kv) ks)(Ce:keysOf (T'.map TR.kv) Vb):ks=Vb:=by
 obtain⟨a,ha,rfl⟩:=hk;obtain⟨b,hb,rfl⟩:=Ce;refine J05s ?_;have h1:(a.map (·.1)).Perm (b.map (·.1)):=by
  have e1:(a.map (·.1)).Perm (T.map (·.k)):=by have h2:(a.map (·.1)).Perm ((T.map TR.kv).map (·.1)):=ha;rw[List.map_map]at h2;exact h2
  have e2:(b.map (·.1)).Perm (T'.map (·.k)):=by have h2:(b.map (·.1)).Perm ((T'.map TR.kv).map (·.1)):=hb;rw[List.map_map]at h2;exact h2
  exact(e1.trans (tV hn F7 h)).trans e2.symm
 have nd:∀{l:List Je},(l.map (·.1)).Nodup->l.Nodup:=λ{l} hl=>by
  induction l with
  |nil=>exact List.nodup_nil
  |cons x l ih=>
   rw[DW,List.nodup_cons]at hl;exact List.nodup_cons.2 ⟨λhx=>hl.1 (List.mem_map_of_mem hx),ih hl.2⟩
 have na:(a.map (·.1)).Nodup:=by have h2:(a.map (·.1)).Perm ((T.map TR.kv).map (·.1)):=ha;rw[List.map_map]at h2;exact h2.nodup_iff.2 hn
 have mem:∀{l:List Je}{x:Je},x∈l↔x.1∈l.map (·.1):=λ{l x}=>⟨λh=>List.mem_map_of_mem h,λh=>by
  obtain⟨y,hy,e⟩:=AY.1 h
  rwa [<- Subtype.ext e]⟩
 refine(List.perm_ext_iff_of_nodup (nd na) (nd (h1.nodup_iff.1 na))).2 λx=>?_;rw[mem,mem (l:=b),h1.mem_iff]
theorem J06c{c c':J8}{seed:Int}{bs:JD}(hn:(T.map (·.k)).Nodup)(F7:(T'.map (·.k)).Nodup)(h:∀k,tm T k=tm T' k)(hk:keysOf (T.map TR.kv) ks)(Ce:keysOf (T'.map TR.kv) Vb)(hc:EH c seed=EH c' seed):VK c seed bs T (ks.map (·.1))=VK c' seed bs T' (Vb.map (·.1)):=by
 rw[keysOf_eq hn F7 h hk Ce];have hr:rowB T=rowB T':=funext λx=>by unfold rowB;rw[h x]
 have hl:T.length=T'.length:=by simpa using(tV hn F7 h).length_eq
 unfold VK FZ;rw[hc,hr,hl]
end
theorem SlN.sli{base:Nat}{w:JE}{v:JJ}{t:JH}{k:IntKind}{xs:JD}(h:SlN base w v t k xs):SlI false w 0 v t k xs:=by obtain⟨g,cap,h1,_,h3⟩:=h;exact .inr ⟨g,cap,h1,Nat.zero_le _,h3⟩
section
variable{w:JE}{ba bb:Nat}{ka ra ha la kb rb hb lb:JJ}{g:JD}{B:Bun}
theorem J08q(A:Ig ba w ka ra ha la g B)(A':Ig bb w kb rb hb lb g B)(l1:g.length<=1000)(l2:B.r.length<=1000)(l3:B.h.length<=1000)(l4:B.l.length<=1000) :
  Calls prog 29 #[.agg #[ka,.int .i64 B.n,ra,ha,la],.agg #[kb,.int .i64 B.n,rb,hb,lb]] w λe w'=>e=.returned (.bool true)/\Tch w.heap.size M0 w w':=by
 have hk:=A.k.mono (Nat.zero_le _);have Ce:=A'.k.mono (Nat.zero_le _);have sk:∀{w1:JE},Tch w.heap.size M0 w w1->Calls prog 11 #[ka,kb] w1 λe w'=>e=.returned (.bool true)/\Tch w1.heap.size M0 w1 w':=λt=>by have:=J93 (hk.tch t) (Ce.tch t) l1;rw[decide_eq_true rfl]at this;exact this
 have sr:∀{w1:JE},Tch w.heap.size M0 w w1->Calls prog 11 #[ra,rb] w1 λe w'=>e=.returned (.bool true)/\Tch w1.heap.size M0 w1 w':=λt=>by have:=J93 (A.r.sli.tch t) (A'.r.sli.tch t) l2;rw[decide_eq_true rfl]at this;exact this
 have sh:∀{w1:JE},Tch w.heap.size M0 w w1->Calls prog 11 #[ha,hb] w1 λe w'=>e=.returned (.bool true)/\Tch w1.heap.size M0 w1 w':=λt=>by have:=J93 (A.h.sli.tch t) (A'.h.sli.tch t) l3;rw[decide_eq_true rfl]at this;exact this
 obtain⟨ga,ca,rfl,_,XR⟩:=A.l;obtain⟨gb,cb,rfl,_,YL⟩:=A'.l;obtain⟨n,hn⟩:∃n,B.l.length=n:=⟨_,rfl⟩;have hcA:∀wr,Tch w.heap.size M0 w wr->∀i,i<n->wr.cell? ⟨ga,i,none⟩=some (.int .u64 (B.l.getD i 0)):=λwr t i hi=>(XR.tch t XR.lt λx=>x).cell (by omega);have hcB:∀wr,Tch w.heap.size M0 w wr->∀i,i<n->wr.cell? ⟨gb,i,none⟩=some (.int .u64 (B.l.getD i 0)):=λwr t i hi=>(YL.tch t YL.lt λx=>x).cell (by omega);have ska:∃p l c,ka=.slice p l c:=by
  rcases A.k with⟨rfl,_⟩|⟨_,_,rfl,_⟩<;>exact⟨_,_,_,rfl⟩
 have skb:∃p l c,kb=.slice p l c:=by
  rcases A'.k with⟨rfl,_⟩|⟨_,_,rfl,_⟩<;>exact⟨_,_,_,rfl⟩
 obtain⟨r1,r2,rfl,_⟩:=A.r;obtain⟨r3,r4,rfl,_⟩:=A'.r;obtain⟨h1,h2,rfl,_⟩:=A.h;obtain⟨h3,h4,rfl,_⟩:=A'.h;obtain⟨k1,k2,k3,rfl⟩:=ska;obtain⟨k4,k5,k6,rfl⟩:=skb;rw[hn]at l4 ⊢;clear A A' hk Ce XR YL hn;obtain⟨W,hW⟩:∃W,(w.alloc (.cells #[.slice k1 k2 k3,.int .i64 B.n,.slice (some ⟨r1,0,none⟩) B.r.length r2,.slice (some ⟨h1,0,none⟩) B.h.length h2,.slice (some ⟨ga,0,none⟩) n ca] 39)).alloc (.cells #[.slice k4 k5 k6,.int .i64 B.n,.slice (some ⟨r3,0,none⟩) B.r.length r4,.slice (some ⟨h3,0,none⟩) B.h.length h4,.slice (some ⟨gb,0,none⟩) n cb] 39)=W:=⟨_,rfl⟩;have t0:Tch w.heap.size M0 w W:=by rw[<- hW];exact(Tch.refl.alloc (Ad _) _).alloc (by rw[size_alloc];omega) _
 have hA:W.heap[w.heap.size]?=some (.cells #[.slice k1 k2 k3,.int .i64 B.n,.slice (some ⟨r1,0,none⟩) B.r.length r2,.slice (some ⟨h1,0,none⟩) B.h.length h2,.slice (some ⟨ga,0,none⟩) n ca] 39):=by rw[<- hW];exact(J7 _ (by rw[size_alloc];omega)).trans (Ja _)
 have hB:W.heap[w.heap.size+1]?=some (.cells #[.slice k4 k5 k6,.int .i64 B.n,.slice (some ⟨r3,0,none⟩) B.r.length r4,.slice (some ⟨h3,0,none⟩) B.h.length h4,.slice (some ⟨gb,0,none⟩) n cb] 39):=by
  rw[<- hW];have:=Ja (w:=w.alloc (.cells #[.slice k1 k2 k3,.int .i64 B.n,.slice (some ⟨r1,0,none⟩) B.r.length r2,.slice (some ⟨h1,0,none⟩) B.h.length h2,.slice (some ⟨ga,0,none⟩) n ca] 39)) (.cells #[.slice k4 k5 k6,.int .i64 B.n,.slice (some ⟨r3,0,none⟩) B.r.length r4,.slice (some ⟨h3,0,none⟩) B.h.length h4,.slice (some ⟨gb,0,none⟩) n cb] 39)
  rwa [size_alloc]at this
 have cA:∀{wx:JE},Tch W.heap.size M0 W wx->wx.heap[w.heap.size]?=some (.cells #[.slice k1 k2 k3,.int .i64 B.n,.slice (some ⟨r1,0,none⟩) B.r.length r2,.slice (some ⟨h1,0,none⟩) B.h.length h2,.slice (some ⟨ga,0,none⟩) n ca] 39):=λt=>(t.heap _ (Ji hA) λh=>h).trans hA;have cB:∀{wx:JE},Tch W.heap.size M0 W wx->wx.heap[w.heap.size+1]?=some (.cells #[.slice k4 k5 k6,.int .i64 B.n,.slice (some ⟨r3,0,none⟩) B.r.length r4,.slice (some ⟨h3,0,none⟩) B.h.length h4,.slice (some ⟨gb,0,none⟩) n cb] 39):=λt=>(t.heap _ (Ji hB) λh=>h).trans hB;have th:∀{wx:JE},Tch W.heap.size M0 W wx->Tch w.heap.size M0 w wx:=λt=>t0.then t t0.size λ_ _ h=>h;have y0:=(cell_of hA 0).trans rfl;have z0:=(cell_of hB 0).trans rfl;have s1:=sk t0;have sr':=λ(wx:JE)(t:Tch W.heap.size M0 W wx)=>sr (th t);have sh':=λ(wx:JE)(t:Tch W.heap.size M0 W wx)=>sh (th t);clear sk sr sh
 go_enter func29,ntmps29
 go_wp2_with (go_at_call 11;first
  |(refine s3.mono ?_;rintro e w3 ⟨rfl,u3⟩;have v3:Tch W.heap.size M0 W w3:=v2.then u3 v2.size (λ_ _ h=>h);have y3:=(cell_of (cA v3) 1).trans rfl;have z3:=(cell_of (cB v3) 1).trans rfl;have y4:=(cell_of (cA v3) 4).trans rfl;have z4:=(cell_of (cB v3) 4).trans rfl)
  |(refine s2.mono ?_;rintro e w2 ⟨rfl,u2⟩;have v2:Tch W.heap.size M0 W w2:=v1.then u2 v1.size (λ_ _ h=>h);have y2:=(cell_of (cA v2) 3).trans rfl;have z2:=(cell_of (cB v2) 3).trans rfl;have s3:=sh' _ v2)
  |(refine s1.mono ?_;rintro e w1 ⟨rfl,v1⟩;have y1:=(cell_of (cA v1) 2).trans rfl;have z1:=(cell_of (cB v1) 2).trans rfl;have s2:=sr' _ v1))
 have v3':=th v3
 go_loopw [8] (λi wr=>∃k:Nat,k<=n/\i=.int .i64 k/\Tch W.heap.size M0 W wr) (λi _=>n-(RowKit.intOf i).toNat)
 case atStart=>exact⟨0,by omega,rfl,v3⟩
 case round=>
  obtain⟨k,hk,rfl,ht⟩:=hrel;have a4:=(cell_of (cA ht) 4).trans rfl;have b4:=(cell_of (cB ht) 4).trans rfl;rcases BG k n with Ac|Dp
  ·have g1:=hcA _ (th ht) k Ac;have g2:=hcB _ (th ht) k Ac;have BI:(k:Int)<n:=by omega
   generalize B.l.getD k 0=x at *;clear hcA hcB cA cB;go_wp2
   go_region
   all_goals go_wp2
   exact⟨⟨k+1,by omega,by go_num,ht.drew⟩,by simp[RowKit.intOf];omega⟩
  ·obtain rfl:k=n:=by omega
   have CB:¬((k:Int)<k):=by omega
   clear hcA hcB;go_wp2;go_ret;exact⟨rfl,th ht⟩
end
theorem uY(f:Nat->JJ):((List.range 59).map f).toArray=#[f 0,f 1,f 2,f 3,f 4,f 5,f 6,f 7,f 8,f 9,f 10,f 11,f 12,f 13,f 14,f 15,f 16,f 17,f 18,f 19,f 20,f 21,f 22,f 23,f 24,f 25,f 26,f 27,f 28,f 29,f 30,f 31,f 32,f 33,f 34,f 35,f 36,f 37,f 38,f 39,f 40,f 41,f 42,f 43,f 44,f 45,f 46,f 47,f 48,f 49,f 50,f 51,f 52,f 53,f 54,f 55,f 56,f 57,f 58]:=by rfl
theorem qW{T:JC}(h:T.size=59):∃f:Nat->JJ,T=((List.range 59).map f).toArray:=⟨_,Zd h⟩
noncomputable def b14:Code:=f14.body.getD .skip
noncomputable def Qc:Code:=sC (sC (sC b14))
structure Pair(w:JE)(ga gb j:Nat)(q1 q2:QC):Prop where
 g:q1.g=q2.g
 B:q1.B=q2.B
 c1:∀o u,o<5->q1.cells[o]?=some u->w.cell? ⟨ga,j*5+o,none⟩=some u
 c2:∀o u,o<5->q2.cells[o]?=some u->w.cell? ⟨gb,j*5+o,none⟩=some u
 d1:Ig 0 w q1.kv q1.rv q1.hv q1.lv q1.g q1.B
 d2:Ig 0 w q2.kv q2.rv q2.hv q2.lv q2.g q2.B
 l:q1.g.length<=1000/\q1.B.r.length<=1000/\q1.B.h.length<=1000/\q1.B.l.length<=1000
def r8F(ga gb n ca cb k:Nat)(q1 q2:QC):Nat->JJ->JE->Prop
 |0,v,_=>v=.slice (some ⟨ga,0,none⟩) n ca
 |1,v,_=>v=.int .i64 k
 |2,v,_=>v=.pointer (some ⟨ga,k*5,none⟩)
 |3,v,_=>v=q1.val
 |4,v,_=>v=.slice (some ⟨gb,0,none⟩) n cb
 |5,v,_=>v=.int .i64 k
 |6,v,_=>v=.pointer (some ⟨gb,k*5,none⟩)
 |7,v,_=>v=q2.val
 |_,v,_=>v=.bool true
section
variable{w:JE}{ga gb n ca cb:Nat}{T0:JC}{d:Deferred}
theorem sN(Ae:T0.size=59){pa pb:JI}(t9:T0[9]?=some (.slice pa n ca))(t10:T0[10]?=some .nilIface)(t11:T0[11]?=some (.slice pb n cb))(t12:T0[12]?=some .nilIface)(hn:n<=1000)(jD:0<n->pa=some ⟨ga,0,none⟩/\pb=some ⟨gb,0,none⟩)(hp:∀j,j<n->∃q1 q2,Pair w ga gb j q1 q2) :
  Qc.wp prog (λe a w'=>e=.ret/\a.defers=[d]/\a.tmps.size=59/\a.tmps[8]?=some (.bool true)/\Tch w.heap.size M0 w w') ⟨T0,[d]⟩ w:=by
 obtain⟨f,rfl⟩:=qW Ae;rw[uY]at *;have e9:f 9=_:=Aa t9;have F9:f 10=_:=Aa t10;have FH:f 11=_:=Aa t11;have IV:f 12=_:=Aa t12;rw[e9,F9,FH,IV];clear t9 t10 t11 t12 e9 F9 FH IV;simp only[Qc,b14,fC,sC,f14,Ar];go_wp2
 go_loopw [13] (λi wr=>∃k:Nat,k<=n/\i=.int .i64 k/\Tch w.heap.size M0 w wr) (λi _=>n-(RowKit.intOf i).toNat)
 case atStart=>exact⟨0,by omega,rfl,.refl⟩
 case round=>
  obtain⟨k,hk,rfl,ht⟩:=hrel;rcases BG k n with Ac|Dp
  ·obtain⟨q1,q2,pr⟩:=hp k Ac;obtain⟨rfl,rfl⟩:=jD (by omega);clear jD;have BI:(k:Int)<n:=by omega
   have AX:∀{wx:JE}{a:Addr}{u:JJ},Tch wr.heap.size M0 wr wx->w.cell? a=some u->wx.cell? a=some u:=λt h=>((ht.then t ht.size λ_ _ h=>h).cell (cell_lt h) λx=>x).trans h;have tw:∀{wx:JE},Tch wr.heap.size M0 wr wx->Tch w.heap.size M0 w wx:=λt=>ht.then t ht.size λ_ _ h=>h;have x0:w.cell? ⟨ga,k*5,none⟩=some q1.kv:=pr.c1 0 _ (by omega) rfl;have x1:w.cell? ⟨ga,k*5+1,none⟩=some (.int .i64 q1.B.n):=pr.c1 1 _ (by omega) rfl;have x2:w.cell? ⟨ga,k*5+2,none⟩=some q1.rv:=pr.c1 2 _ (by omega) rfl;have x3:w.cell? ⟨ga,k*5+3,none⟩=some q1.hv:=pr.c1 3 _ (by omega) rfl;have x4:w.cell? ⟨ga,k*5+4,none⟩=some q1.lv:=pr.c1 4 _ (by omega) rfl;have y0:w.cell? ⟨gb,k*5,none⟩=some q2.kv:=pr.c2 0 _ (by omega) rfl;have y1:w.cell? ⟨gb,k*5+1,none⟩=some (.int .i64 q2.B.n):=pr.c2 1 _ (by omega) rfl;have y2:w.cell? ⟨gb,k*5+2,none⟩=some q2.rv:=pr.c2 2 _ (by omega) rfl;have y3:w.cell? ⟨gb,k*5+3,none⟩=some q2.hv:=pr.c2 3 _ (by omega) rfl;have y4:w.cell? ⟨gb,k*5+4,none⟩=some q2.lv:=pr.c2 4 _ (by omega) rfl;have hs:=λ(wx:JE)(t:Tch wr.heap.size M0 wr wx)=>J08q (w:=wx) (pr.d1.tch (tw t)) (show Ig 0 wx q2.kv q2.rv q2.hv q2.lv q1.g q1.B from by rw[pr.g,pr.B];exact pr.d2.tch (tw t)) pr.l.1 pr.l.2.1 pr.l.2.2.1 pr.l.2.2.2;have v2:q2.val=.agg #[q2.kv,.int .i64 q1.B.n,q2.rv,q2.hv,q2.lv]:=by unfold QC.val;rw[pr.B]
   go_wp2;refine rZ 48 9 (r8F ga gb n ca cb k q1 q2) mixed (by kernel_rfl) (by show 48+9<=59;omega) (λi v w w' h _=>by match i,h with|0,h|1,h|2,h|3,h|4,h|5,h|6,h|7,h=>exact h|i+8,h=>exact h) (λi o a wv hi ho CS hold hd=>?_) λvs wv hl CS hF=>?_
   ·have s9:a.tmps[9]?=some (.slice (some ⟨ga,0,none⟩) n ca):=(hold 9 (.inl (by omega))).trans rfl;have vI:a.tmps[11]?=some (.slice (some ⟨gb,0,none⟩) n cb):=(hold 11 (.inl (by omega))).trans rfl;have P7:a.tmps[13]?=some (.int .i64 k):=(hold 13 (.inl (by omega))).trans rfl
    match i,hi with
    |0,_=>
     cases ho;exact J9 rfl rfl (by simp[execOp,go_sem,s9];try rfl) ⟨_,rfl,rfl,.refl⟩
    |1,_=>
     cases ho;exact J9 rfl rfl (by simp[execOp,go_sem,P7];try rfl) ⟨_,rfl,rfl,.refl⟩
    |2,_=>
     cases ho;obtain⟨_,e0,rfl⟩:=hd 0 rfl;have e0:a.tmps[48]?=some _:=e0;obtain⟨_,e1,rfl⟩:=hd 1 rfl;have e1:a.tmps[49]?=some _:=e1;exact J9 rfl rfl (by simp[execOp,go_sem,e0,e1,BI];try rfl) ⟨_,rfl,rfl,.refl⟩
    |3,_=>
     cases ho;obtain⟨_,e0,rfl⟩:=hd 2 rfl;have e0:a.tmps[50]?=some _:=e0;exact J9 (v:=q1.val) rfl rfl (by unfold QC.val;simp[execOp,go_sem,e0,AX CS x0,AX CS x1,AX CS x2,AX CS x3,AX CS x4];try rfl) ⟨_,rfl,rfl,.refl⟩
    |4,_=>
     cases ho;exact J9 rfl rfl (by simp[execOp,go_sem,vI];try rfl) ⟨_,rfl,rfl,.refl⟩
    |5,_=>
     cases ho;exact J9 rfl rfl (by simp[execOp,go_sem,P7];try rfl) ⟨_,rfl,rfl,.refl⟩
    |6,_=>
     cases ho;obtain⟨_,e0,rfl⟩:=hd 4 rfl;have e0:a.tmps[52]?=some _:=e0;obtain⟨_,e1,rfl⟩:=hd 5 rfl;have e1:a.tmps[53]?=some _:=e1;exact J9 rfl rfl (by simp[execOp,go_sem,e0,e1,BI];try rfl) ⟨_,rfl,rfl,.refl⟩
    |7,_=>
     cases ho;obtain⟨_,e0,rfl⟩:=hd 6 rfl;have e0:a.tmps[54]?=some _:=e0;exact J9 (v:=q2.val) rfl rfl (by unfold QC.val;simp[execOp,go_sem,e0,AX CS y0,AX CS y1,AX CS y2,AX CS y3,AX CS y4];try rfl) ⟨_,rfl,rfl,.refl⟩
    |8,_=>
     cases ho;obtain⟨_,e3,rfl⟩:=hd 3 rfl;have e3:a.tmps[51]?=some _:=e3;obtain⟨_,e7,rfl⟩:=hd 7 rfl;have e7:a.tmps[55]?=some _:=e7;rw[v2]at e7;unfold QC.val at e3;exact NM rfl rfl (by simp[execOp,go_sem,e3,e7];try rfl) (hs wv CS) λe w2 Ii=>⟨_,Ii.1,_,rfl,rfl,Ii.2⟩
    |i+9,h=>omega
   ·match vs,hl with
    |[v0,v1,v2,v3,v4,v5,v6,v7,v8],_=>
     obtain rfl:v8=_:=hF 8 (by omega);simp only[List.drop_succ_cons,List.drop_zero,setFrom,List.setIfInBounds_toArray,List.set_cons_succ,List.set_cons_zero];go_wp2;exact⟨⟨k+1,by omega,by go_num,tw CS⟩,by simp[RowKit.intOf];omega⟩
  ·obtain rfl:k=n:=by omega
   have CB:¬((k:Int)<k):=by omega
   go_wp2
   all_goals exact ht
end
end Go.Sim.Z
namespace Go.Sim.Z
open Go Go.Proofs Go.RowKit Go.Conc Go.Maps
section
variable{w0 w:JE}{c:J8}{m g7 c7 gm nm cm i hb rb N:Nat}{P:List Zj}{gk:JD}{kv:JJ}{d:Deferred}
end
section
variable{w:JE}{c:J8}{cz:Int}{m n g7 c7 gm cm fc:Nat}{ga:JI}{P Pm:List Zj}{d:Deferred}
end
section
variable{w:JE}{T:JC}{d:Deferred}{c mz:Int}{sl fv:JJ}{x:Nat}
end
section
variable{fn:JG}{W E0 E:JB}{w0 w:JE}{T:JC}{ops:Array Oper}{i sR sT sA sB sX sY:Nat}{v:JJ}{k:List Item}{cs:List Frame}{Post:(JB)->JF->JE->Prop}
theorem Jlk(h:HS fn W E0 w0 E T w)(hT:T[sR]?=some (.tuple #[v,.nilIface]))(hv:VR C0 (idE E) v v)(hd:sT<T.size/\sA<T.size/\sB<T.size/\sX<T.size/\sY<T.size)(hn:sA≠sT/\sB≠sA/\sX≠sB/\sY≠sX)
  (p0:∃o,ops[i]?=some o/\o.op=.move (.tmp sR)/\o.guard=none/\o.dst=some sT) (p1:∃o,ops[i+1]?=some o/\o.op=.extract (.tmp sT) 0/\o.guard=none/\o.dst=some sA) (p2:∃o,ops[i+2]?=some o/\o.op=.extract (.tmp sT) 1/\o.guard=none/\o.dst=some sB) (p3:∃o,ops[i+3]?=some o/\o.op=.assign (.tmp sA)/\o.guard=none/\o.dst=some sX) (p4:∃o,ops[i+4]?=some o/\o.op=.assign (.tmp sB)/\o.guard=none/\o.dst=some sY)
  (kn:∀T' w',HS fn W E0 w0 E T' w'->T'.size=T.size->T'[sX]?=some v->T'[sY]?=some .nilIface->(∀j,j≠sT->j≠sA->j≠sB->j≠sX->j≠sY->T'[j]?=T[j]?)->w'.heap=w.heap->Reach prog Post W (G ((base fn).at ⟨T',[]⟩ (.inRegion ops []::k)) cs) w') :
  Reach prog Post W (G ((base fn).at ⟨T,[]⟩ (.inRegion ops [i,i+1,i+2,i+3,i+4]::k)) cs) w:=by
 obtain⟨o0,h0,a0,g0,d0⟩:=p0;obtain⟨o1,h1,a1,g1,d1⟩:=p1;obtain⟨o2,h2,a2,g2,d2⟩:=p2;obtain⟨o3,h3,a3,g3,d3⟩:=p3;obtain⟨o4,h4,a4,g4,d4⟩:=p4;have vt:VR C0 (idE E) (.tuple #[v,.nilIface]) (.tuple #[v,.nilIface]):=.tuple rfl λi x x' h1 h2=>by
  rw[h1]at h2;cases h2
  match i with
  |0=>cases h1;exact hv
  |1=>cases h1;exact .nilIface
  |i+2=>simp at h1
 obtain⟨n1,n2,n3,n4⟩:=hn;obtain⟨z1,z2,z3,z4,z5⟩:=hd;have t1:(T.setIfInBounds sT (.tuple #[v,.nilIface]))[sT]?=some (.tuple #[v,.nilIface]):=EX z1;have t2:((T.setIfInBounds sT (.tuple #[v,.nilIface])).setIfInBounds sA v)[sT]?=some (.tuple #[v,.nilIface]):=(AQ n1).trans t1;have t3:(((T.setIfInBounds sT (.tuple #[v,.nilIface])).setIfInBounds sA v).setIfInBounds sB .nilIface)[sA]?=some v:=(AQ n2).trans (EX (by simpa using z2));have t4:((((T.setIfInBounds sT (.tuple #[v,.nilIface])).setIfInBounds sA v).setIfInBounds sB .nilIface).setIfInBounds sX v)[sB]?=some .nilIface:=(AQ n3).trans (EX (by simpa using z3));refine Jc (v:=.tuple #[v,.nilIface]) h h0 (by simp[Region.wanted,g0]) d0 (λw1=>by simp[execOp,a0,Act.eval,BH,hT]) (λw1=>by simp[execOp,a0,Act.eval]) (.inr vt) λw1 H1 q1=>?_;refine Jc (v:=v) H1 h1 (by simp[Region.wanted,g1]) d1 (λw1=>by simp[execOp,a1,Act.eval,BH,t1,go_sem]) (λw1=>by simp[execOp,a1,Act.eval,BH,z1,go_sem]) (.inr hv) λw2 H2 q2=>?_;refine Jc (v:=.nilIface) H2 h2 (by simp[Region.wanted,g2]) d2 (λw1=>by simp[execOp,a2,Act.eval,BH,t2,go_sem]) (λw1=>by simp[execOp,a2,Act.eval,BH,t2,go_sem]) (.inr .nilIface) λw3 H3 q3=>?_;refine Jc (v:=v) H3 h3 (by simp[Region.wanted,g3]) d3 (λw1=>by simp[execOp,a3,Act.eval,BH,t3]) (λw1=>by simp[execOp,a3,Act.eval]) (.inr hv) λw4 H4 q4=>?_;refine Jc (v:=.nilIface) H4 h4 (by simp[Region.wanted,g4]) d4 (λw1=>by simp[execOp,a4,Act.eval,BH,t4]) (λw1=>by simp[execOp,a4,Act.eval]) (.inr .nilIface) λw5 H5 q5=>?_;refine kn _ w5 H5 (by simp) ((AQ n4).trans (EX (by simpa using z4))) (EX (by simpa using z5)) (λj m1 m2 m3 m4 m5=>?_) (by rw[q5,q4,q3,q2,q1]);rw[AQ (Ne.symm m5),AQ (Ne.symm m4),AQ (Ne.symm m3),AQ (Ne.symm m2),AQ (Ne.symm m1)]
end
theorem flat5:∀(L:List QC)(j o:Nat),o<5->(L.flatMap QC.cells)[j*5+o]?=L[j]?.bind λq=>q.cells[o]?
 |[],j,o,_=>by simp
 |q::L,0,o,h=>by
  have h5:q.cells.length=5:=rfl;rw[List.flatMap_cons,Nat.zero_mul,Nat.zero_add,List.getElem?_append_left (by omega)];rfl
 |q::L,j+1,o,h=>by
  have h5:q.cells.length=5:=rfl;rw[List.flatMap_cons,List.getElem?_append_right (by omega),h5,show(j+1)*5+o-5=j*5+o from by omega,flat5 L j o h];rfl
section
variable{E:JB}{w w':JE}{c:J8}{hs:Int->Int}{fs:List Jg}{m g j base:Nat}{T S:List TR}{ks:List Je}{L:List QC}{v:JJ}{p:Zj}
theorem GK.Jo7(h:GK c hs fs S)(hn:(T.map (·.k)).Nodup)(hT:∀k,tm T k=Gp c FB (sel hs m k fs)):T.length<=200:=by
 have h1:=fD hn (U:=fs.map λf=>Jb m (Js f.k) 5) λx hx=>by obtain⟨t,ht,rfl⟩:=AY.1 hx;obtain⟨_,f,hf,e⟩:=dS hn hT ht;exact AY.2 ⟨f,hf,e⟩
 simp only[Et]at h1;have:=h.n;omega
end
theorem vtup{E:JB}{v:JJ}(hv:VR C0 (idE E) v v):VR C0 (idE E) (.tuple #[v,.nilIface]) (.tuple #[v,.nilIface]):=.tuple rfl λi x x' h1 h2=>by
 rw[h1]at h2;cases h2
 match i with
 |0=>cases h1;exact hv
 |1=>cases h1;exact .nilIface
 |i+2=>simp at h1
section
variable{W E:JB}{w:JE}{c mz:Int}{la:JI}{rs:List Gt}{n lc:Nat}
end
def Sz(w:JE)(g:Nat)(L:List QC):Prop:=∀j q,L[j]?=some q->(∀o u,o<5->q.cells[o]?=some u->w.cell? ⟨g,j*5+o,none⟩=some u)/\Ig 0 w q.kv q.rv q.hv q.lv q.g q.B
section
variable{E:JB}{w w':JE}{g m base:Nat}{T:List TR}{ks:List Je}{L:List QC}{v:JJ}
theorem qO(ho:I9 base w T m ks L)(hr:w.ownsRow base 39 5 v L.length (L.flatMap QC.cells))(h0:0<L.length):∃g cap,v=.slice (some ⟨g,0,none⟩) L.length cap/\Sz w g L:=by
 rcases hr.2 with⟨_,e⟩|⟨g,cap,cur,e,_,hg,AX,PK,_,hx⟩
 ·omega
 refine⟨g,cap,e,λj q hq=>⟨λo u DZ hu=>?_,?_⟩⟩
 ·have hj:j<L.length:=(List.getElem?_eq_some_iff.1 hq).1;refine(cell_of hg _).trans ?_;have h5:(List.take (L.length*5) cur.toList)[j*5+o]?=some u:=by rw[hx,flat5 _ _ _ DZ,hq];exact hu
  rw[List.getElem?_take,if_pos (by omega),Array.getElem?_toList]at h5;exact h5
 ·have hj:j<ks.length:=by rw[<- ho.1];exact(List.getElem?_eq_some_iff.1 hq).1
  exact(ho.2 j _ q (Dh hj) hq).2.2.2.mono (Nat.zero_le _)
theorem Sz.ke(h:Sz w g L)(hW:WR C0 (okP C0 S0) (idE E) w w)(hE:E g)(k:KE E w w'):Sz w' g L:=λj q hq=>by
 obtain⟨h1,d⟩:=h j q hq;have hc:∀{i u},w.cell? ⟨g,i,none⟩=some u->w'.cell? ⟨g,i,none⟩=some u:=λhu=>k.cell hE hu;refine⟨λo u ho hu=>hc (h1 o u ho hu),?_⟩;have p0:=hW.Uu hE (h1 0 _ (by omega) rfl);have p2:=hW.Uu hE (h1 2 _ (by omega) rfl);have p3:=hW.Uu hE (h1 3 _ (by omega) rfl);have p4:=hW.Uu hE (h1 4 _ (by omega) rfl);obtain⟨dk,⟨g2,c2,e2,z2,r2⟩,⟨g3,c3,e3,z3,r3⟩,⟨g4,c4,e4,z4,r4⟩⟩:=d;rw[e2]at p2;rw[e3]at p3;rw[e4]at p4;refine⟨?_,⟨g2,c2,e2,z2,r2.keE k p2.Ik⟩,⟨g3,c3,e3,z3,r3.keE k p3.Ik⟩,⟨g4,c4,e4,z4,r4.keE k p4.Ik⟩⟩;rcases dk with dk|⟨g1,c1,e1,z1,r1⟩
 ·exact .inl dk
 ·rw[e1]at p0;exact .inr ⟨g1,c1,e1,z1,r1.keE k p0.Ik⟩
theorem Sz.at(h:Sz w g L)(hh:w'.heap=w.heap):Sz w' g L:=λj q hq=>by
 obtain⟨h1,d⟩:=h j q hq;have hc:∀{a u},w.cell? a=some u->w'.cell? a=some u:=λh=>(DX (w:=w) (by rw[hh])).trans h;have hb:∀b:Nat,w'.heap[b]?=w.heap[b]?:=λb=>by rw[hh]
 obtain⟨dk,⟨g2,c2,e2,z2,r2⟩,⟨g3,c3,e3,z3,r3⟩,⟨g4,c4,e4,z4,r4⟩⟩:=d;refine⟨λo u ho hu=>hc (h1 o u ho hu),?_,⟨g2,c2,e2,z2,r2.kept (hb _)⟩,⟨g3,c3,e3,z3,r3.kept (hb _)⟩,⟨g4,c4,e4,z4,r4.kept (hb _)⟩⟩;rcases dk with dk|⟨g1,c1,e1,z1,r1⟩
 ·exact .inl dk
 ·exact .inr ⟨g1,c1,e1,z1,r1.kept (hb _)⟩
end
section
variable{w:JE}{ga gb m b1 b2:Nat}{w1 w2:JE}{T T':List TR}{ks Vb:List Je}{L L':List QC}{c c':J8}
theorem Zf(hn:(T.map (·.k)).Nodup)(F7:(T'.map (·.k)).Nodup)(ht:∀k,tm T k=tm T' k)(hk:keysOf (T.map TR.kv) ks)(Ce:keysOf (T'.map TR.kv) Vb)(ho:I9 b1 w1 T m ks L)(DZ:I9 b2 w2 T' m Vb L')(tok:∀t∈T,EI t.k/\Jl c t.B)(hc:Jw c) :
  L.length=L'.length/\(Sz w ga L->Sz w gb L'->∀j,j<L.length->∃q1 q2,Pair w ga gb j q1 q2):=by
 obtain rfl:=keysOf_eq hn F7 ht hk Ce;refine⟨ho.1.trans DZ.1.symm,λh1 h2 j hj=>?_⟩;have dJ:j<ks.length:=by rw[<- ho.1];exact hj
 have aU:j<L'.length:=by rw[DZ.1];exact dJ
 obtain⟨a1,a2,_,_⟩:=ho.2 j _ L[j] (Dh dJ) (Dh hj);obtain⟨a1',a2',_,_⟩:=DZ.2 j _ L'[j] (Dh dJ) (Dh aU);obtain⟨c1,d1⟩:=h1 j L[j] (Dh hj);obtain⟨c2,d2⟩:=h2 j L'[j] (Dh aU);have eB:L[j].B=L'[j].B:=by rw[ht,a2']at a2;exact(Aa a2).symm
 obtain⟨t,T1,T2,Va,DF,hB,_,_⟩:=OY a2;have hok:=(tok t (by rw[Va];simp)).2;rw[hB]at hok;have Qu:L[j].B.r.length<=64:=by
  have h1:=hc.b1;have h2:=hc.b2;rw[hok.r];have:c.bits=4\/c.bits=5\/c.bits=6:=by omega
  rcases this with e|e|e<;>rw[e]<;>decide
 have PU:L[j].B.h.length<=9:=by rw[hok.h];have:=hc.nb;omega
 have Q5:L[j].B.l.length<=8:=by have:=hok.lK;have:=hc.k2;omega
 have hgl:L[j].g.length<=5:=by rw[a1];unfold Dk;rw[Et];refine BL (List.length_filter_le _ _) ?_;simp;omega
 exact⟨L[j],L'[j],by rw[a1,a1'],eB,c1,c2,d1,d2,by omega,by omega,by omega,by omega⟩
end
end Go.Sim.Z
