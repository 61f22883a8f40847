/- Proved: laws for the claim. No conditions. -/
import Derived.Test.YtlcbehhbfglgaaaGreatDoorC12
import Derived.Test.YtlcbehhbfglgaaaGreatDoorC17
import Derived.Test.YtlcbehhbfglgaaaGreatDoorC18
set_option linter.all false
set_option maxHeartbeats 2000000
set_option maxRecDepth 100000
open Go.Proofs.Tryz
namespace Go.Sim.Z
open Go Go.Proofs Go.RowKit Go.Maps
noncomputable def d38:Code:=fC b38
noncomputable def La:Array Oper:=match fC (sC b38)with| .region _ ops _=>ops|_=>#[]
def J01n:∃id,b38=.seq d38 (.seq (.region id La true) RI):=⟨3,by kernel_rfl⟩
def r3F(x m vm:Nat)(vs:Nat->Option Nat)(b3:Nat):Nat->JJ->Prop
 |0,v=>v=pt x
 |1,v=>v=pt x
 |2,v=>v=pt x 7
 |3,v=>v=.map (some vm)
 |4,v=>v=pt x
 |5,v=>v=.int .i64 m
 |6,v=>∃u b:Nat,u<8/\vs u=some b/\Rn m u=false/\v=.int .i64 u
 |7,v=>∃u b:Nat,u<8/\vs u=some b/\Rn m u=false/\v=.map (some b)
 |8,v=>v=.int .i64 m
 |_,v=>v=.func (.func 69) #[] #[pt b3]
section
variable{w:JE}{x:Nat}{c:J7}{seed nf:Int}{h:JJ}{vm m b1 b2 b3 l fb0:Nat}{vs:Nat->Option Nat}{S:Nat->List TR}{v0:JJ}{F:List LW}{f:Nat->JJ}{d:Deferred}
def J01o{T:JC}(q:DU w x c seed h nf vm vs)(Ns:m<8)(k1:w.cell? ⟨b1,0,none⟩=some (pt x))(k2:w.cell? ⟨b2,0,none⟩=some (JK m))(k3:w.cell? ⟨b3,0,none⟩=some v0)(hF:EF w fb0 v0 F)(hok:FB m F)(Ag:T.size=75)(t1:T[1]?=some (pt b1))(t2:T[2]?=some (pt b2))(t3:T[3]?=some (pt b3)) :
  d38.wp prog (λe a w'=>e=.normal/\a.defers=[d]/\a.tmps.size=75/\(∀s,s<4->a.tmps[s]?=T[s]?)/\Tch w.heap.size M0 w w') ⟨T,[d]⟩ w:=by
 have iD:=Jl7 q Ns hF hok;obtain⟨va,vc,rfl⟩:=hF.slice;obtain⟨f,rfl⟩:=Jo2 Ag;rw[VO]at *;have e1:f 1=_:=Aa t1;have e2:f 2=_:=Aa t2;have e3:f 3=_:=Aa t3;rw[e1,e2,e3];clear t1 t2 t3 e1 e2 e3 Ag;obtain⟨A,hA⟩:∃A:JC->Prop,A=λT=>∀s,s<4->T[s]?=(#[f 0,pt b1,pt b2,pt b3]:JC)[s]?:=⟨_,rfl⟩;refine wp_mono (Q:=λe a w'=>e=.normal/\a.defers=[d]/\a.tmps.size=75/\A a.tmps/\Tch w.heap.size M0 w w') ?_ λe a w' ⟨q1,q2,q3,q4,q5⟩=>⟨q1,q2,q3,λs hs=>by
  rw[hA]at q4;rw[q4 s hs]
  match s,hs with
  |0,_|1,_|2,_|3,_=>rfl
  |s+4,h=>omega,q5⟩
 simp only[d38,b38,fC,f68,A8]
 go_wp2_with (go_at_call 54;refine iD.mono ?_;rintro e w1 ⟨rfl,t1⟩)
 intro s hs
 match s,hs with
 |0,_|1,_|2,_|3,_=>rfl
 |s+4,h=>omega
def Jri{T0:JC}{pre:List Nat}(hW:Walks prog La 10 pre (Array.replicate La.size false))(q:DU w x c seed h nf vm vs)(f7:(vs 7).isSome=true)(tab:∀v b,vs v=some b->TabAt false w c b (S v))(Ns:m<8)(k1:w.cell? ⟨b1,0,none⟩=some (pt x))(k2:w.cell? ⟨b2,0,none⟩=some (JK m))
  (hT:T0.size=75) (t1:T0[1]?=some (pt b1)) (t2:T0[2]?=some (pt b2)) (t3:T0[3]?=some (pt b3))
  {K:Exit->Act->JE->Prop} (hK:∀a w',a.defers=[d]->a.tmps.size=75->(∀s,s<21->a.tmps[s]?=T0[s]?)->(∀s,30<s->a.tmps[s]?=T0[s]?)->(∃u b:Nat,u<8/\vs u=some b/\Rn m u=false/\a.tmps[28]?=some (.map (some b)))->a.tmps[29]?=some (JK m)->a.tmps[30]?=some (.func (.func 69) #[] #[pt b3])->Tch w.heap.size M0 w w'->K .normal a w') :
  wpOps prog La K pre ⟨T0,[d]⟩ w:=by
 have k1:∀w1,Tch w.heap.size M0 w w1->w1.cell? ⟨b1,0,none⟩=some (pt x):=λw1 t=>(t.cell (cell_lt k1) λh=>h).trans k1;have k2:∀w1,Tch w.heap.size M0 w w1->w1.cell? ⟨b2,0,none⟩=some (JK m):=λw1 t=>(t.cell (cell_lt k2) λh=>h).trans k2;have qk:∀w1,Tch w.heap.size M0 w w1->DU w1 x c seed h nf vm vs:=λw1 t=>q.kept (t.heap x q.blk.lt λh=>h) (t.heap vm q.vs.lt λh=>h);have k7:∀w1,Tch w.heap.size M0 w w1->w1.cell? ⟨x,7,none⟩=some (.map (some vm)):=λw1 t=>(qk w1 t).cells.2.2.2.2.2.2.2;simp only[La,b38,fC,sC,f68,A8]at hW ⊢;refine hW.dag (M:=M0) (dst:=λi=>i+21) (λi v _=>r3F x m vm vs b3 i v) (by kernel_rfl) (λi hi=>by grind) (λi v w w' h _=>h) ?_ ?_
 .intro i o a w1 hi ho Az Ag hold hd;have s1:=(hold 1 (by grind)).trans t1;have s2:=(hold 2 (by grind)).trans t2;have s3:=(hold 3 (by grind)).trans t3
  match i,hi with
  |0,_=>
   cases ho;exact J9 rfl rfl (by simp[execOp,go_sem,s1,k1 _ Az];try rfl) ⟨_,rfl,rfl,.refl⟩
  |1,_=>
   cases ho;obtain⟨_,e0,rfl⟩:=hd 0 rfl;have e0:=(show a.tmps[21]?=some _ from e0);exact J9 rfl rfl (by simp[execOp,go_sem,e0];try rfl) ⟨_,rfl,rfl,.refl⟩
  |2,_=>
   cases ho;obtain⟨_,e1,rfl⟩:=hd 1 rfl;have e1:=(show a.tmps[22]?=some _ from e1);exact J9 rfl rfl (by simp[execOp,go_sem,e1];try rfl) ⟨_,rfl,rfl,.refl⟩
  |3,_=>
   cases ho;obtain⟨_,e2,rfl⟩:=hd 2 rfl;have e2:=(show a.tmps[23]?=some _ from e2);exact J9 rfl rfl (by simp[execOp,go_sem,e2,k7 _ Az];try rfl) ⟨_,rfl,rfl,.refl⟩
  |4,_=>
   cases ho;exact J9 rfl rfl (by simp[execOp,go_sem,s1,k1 _ Az];try rfl) ⟨_,rfl,rfl,.refl⟩
  |5,_=>
   cases ho;exact J9 rfl rfl (by simp[execOp,go_sem,s2,k2 _ Az];try rfl) ⟨_,rfl,rfl,.refl⟩
  |6,_=>
   cases ho;obtain⟨_,e4,rfl⟩:=hd 4 rfl;have e4:=(show a.tmps[25]?=some _ from e4);obtain⟨_,e5,rfl⟩:=hd 5 rfl;have e5:=(show a.tmps[26]?=some _ from e5);exact Rz rfl rfl (by simp[execOp,go_sem,e4,e5];try rfl) (Jnw (qk _ Az) f7 (λv b hv=>(tab v b hv).kept λy hy=>Az.heap y ((tab v b hv).lt y hy) λh=>h) Ns) λe w2 ⟨⟨u,b,h0,h1,h2,h3⟩,h4⟩=>⟨_,h3,_,rfl,⟨u,b,h0,h1,h2,rfl⟩,h4⟩
  |7,_=>
   cases ho;obtain⟨_,e3,rfl⟩:=hd 3 rfl;have e3:=(show a.tmps[24]?=some _ from e3);obtain⟨_,e6,u,b,h0,h1,h2,rfl⟩:=hd 6 rfl;have e6:=(show a.tmps[27]?=some _ from e6);have Ew:=(qk _ Az).vs.lookup h0;rw[h1]at Ew;exact J9 rfl rfl (by simp[execOp,go_sem,e3,e6,Ew];try rfl) ⟨_,rfl,⟨u,b,h0,h1,h2,rfl⟩,.refl⟩
  |8,_=>
   cases ho;exact J9 rfl rfl (by simp[execOp,go_sem,s2,k2 _ Az];try rfl) ⟨_,rfl,rfl,.refl⟩
  |9,_=>
   cases ho;exact J9 rfl rfl (by simp[execOp,go_sem,s3];try rfl) ⟨_,rfl,rfl,.refl⟩
  |i+10,h=>grind
 .intro a w1 Az Ob Ag hold hf;obtain⟨_,f7,u,b,h0,h1,h2,rfl⟩:=hf 7 (by omega);obtain⟨_,f8,rfl⟩:=hf 8 (by omega);obtain⟨_,f9,rfl⟩:=hf 9 (by omega);exact hK a w1 Ob (Ag.trans hT) (λs hs=>hold s (by grind)) (λs hs=>hold s (by grind)) ⟨u,b,h0,h1,h2,f7⟩ f8 f9 Az
end
open Go.Conc
section
variable{C:Cx}{ok:JG->Code->Prop}{E:JB}{w w':JE}{b:Nat}
def Jk6{r:Loop}(hW:WR C ok (idE E) w w')(he:E b)(ho:w.heap[b]?=some (.loop r)):∃T',w'.heap[b]?=some (.loop { r with tmps:=T' })/\T'.size=r.tmps.size/\∀i,(C.hl r.fn).contains i=false->T'[i]?=r.tmps[i]?:=by
 obtain⟨o1,o',h1,h2,h3⟩:=hW.get (b:=b) (b':=b) ⟨rfl,he⟩;rw[ho]at h1;cases h1;have hE:∀b b',idE E b b'->b=b':=λ_ _ h=>h.1;obtain⟨_,l',rfl,h⟩:=h3;refine⟨l'.tmps,?_,h.tmps.size.symm,λi hi=>?_⟩
 .rw[h2];clear h2;have h1:=h.state;have h2:=h.pending;have h3:=h.fn;have h4:=h.params;have h5:=h.assign;have h6:=h.body;have h7:=hE _ _ h.defers
  simp_all
 .have hs:=h.tmps.size;cases hx:r.tmps[i]? with
  |none=>grind
  |some v=>
   have hl:i<l'.tmps.size:=by grind
   have hy:=Bz hl;have:=h.tmps.at_ i _ _ hi hx hy;rw[hy,this.eq hE]
def Jgc(hW:WR C ok (idE E) w w')(he:E b)(ho:w.heap[b]?=some (.deferred (some []))):w'.heap[b]?=some (.deferred (some [])):=by
 obtain⟨o1,o',h1,h2,h3⟩:=hW.get (b:=b) (b':=b) ⟨rfl,he⟩;rw[ho]at h1;cases h1;obtain⟨_,ds,rfl,h⟩:=h3;cases ds with
 |none=>exact absurd h (by simp[Di])
 |some ds=>cases(show Fe C (idE E) [] ds from h);exact h2
end
structure KL(E:JB)(w w':JE):Prop where
 ke:KE E w w'
 df:∀b,E b->w.heap[b]?=some (.deferred (some []))->w'.heap[b]?=some (.deferred (some []))
 lp:∀b r,E b->w.heap[b]?=some (.loop r)->∃T',w'.heap[b]?=some (.loop { r with tmps:=T' })/\T'.size=r.tmps.size/\∀i,(C0.hl r.fn).contains i=false->T'[i]?=r.tmps[i]?
section
variable{E E':JB}{w w' Qj:JE}
def KL.Oq(hW:WR C0 (okP C0 S0) (idE E) w w'):KL E w w':=⟨Jt rfl hW,λ_ hb h=>Jgc hW hb h,λ_ _ hb h=>Jk6 hW hb h⟩
def KL.of_eq(h:∀b,E b->w'.heap[b]?=w.heap[b]?):KL E w w':=⟨.of_eq h,λb hb e=>(h b hb).trans e,λb r hb e=>⟨r.tmps,(h b hb).trans e,rfl,λ_ _=>rfl⟩⟩
def KL.trans(h:KL E w w')(k:KL E w' Qj):KL E w Qj:=⟨h.ke.trans k.ke,λb hb e=>k.df b hb (h.df b hb e),λb r hb e=>by
 obtain⟨T1,a1,a2,a3⟩:=h.lp b r hb e;obtain⟨T2,c1,c2,c3⟩:=k.lp b _ hb a1
 grind⟩
def KL.mono(h:KL E' w w')(hs:∀b,E b->E' b):KL E w w':=⟨h.ke.mono hs,λb hb=>h.df b (hs b hb),λb r hb=>h.lp b r (hs b hb)⟩
def KL.keeps(h:Keeps w w')(hE:∀b,E b->b<w.heap.size):KL E w w':=.of_eq λb hb=>h.heap b (hE b hb)
end
end Go.Sim.Z
