/- PROVED HERE: the statement itself. Conditions: none. -/
import Derived.Deep.Slices
import Derived.Conc.Holds
import Derived.Test.YtlcbehhbfglgaaaGreatDoorCards
import Derived.LaidByTextLater
import Derived.LaidOnce
import Derived.ProofKit
import Derived.SevenTiedAt
import Derived.LaidLaws
import Derived.LaidHandle
import Derived.ChangeVars
import Derived.Test.YtlcbehhbfglgaaaGreatDoorC14
import Derived.Test.YtlcbehhbfglgaaaGreatDoorC23
import Derived.Test.YtlcbehhbfglgaaaGreatDoorC24
import Derived.Test.YtlcbehhbfglgaaaGreatDoorC25
import Derived.Test.YtlcbehhbfglgaaaGreatDoorC27
set_option linter.all false
set_option maxHeartbeats 4000000
set_option maxRecDepth 100000
open Go.Proofs.Tryz
noncomputable section
namespace Go.Sim.Z
open Go Go.Proofs Go.RowKit
def J06f{P:Program}{ops:Array Oper}{Q:Exit->Act->JE->Prop}{id:Nat}{T0:JC}{ds:List Deferred}{w0:JE}(base m:Nat)(F:Nat->JJ->JE->Prop)(hm:P.follows .mixedOrders=true)(hok:RU .any ops m (λi=>base+i)=true)(Ag:base+m<=T0.size)
  (stable:∀(i:Nat)(v:JJ)(w w':JE),F i v w->Tch w.heap.size M0 w w'->F i v w')
  (step:∀(i:Nat)(o:Oper)(a:Act)(w:JE),i<m->ops[i]?=some o->Tch w0.heap.size M0 w0 w->(∀s,s<base\/base+m<=s->a.tmps[s]?=T0[s]?)->(∀j,(o.after.toList.any λe=>e.on == j && Region.binds .any e)=true->∃v,a.tmps[base+j]?=some v/\F j v w) ->
   wpOp P ops Q i (λa' w'=>∃v,a'=a.put (some (base+i)) v/\F i v w'/\Tch w.heap.size M0 w w') a w)
  (fin:∀(vs:List JJ)(w:JE),vs.length=m->Tch w0.heap.size M0 w0 w->(∀i,i<m->F i (vs.getD i JA) w)->wpList P ops Q (ops.toList.drop m) ⟨setFrom T0 base vs,ds⟩ w) :
  (Code.region id ops true).wp P Q ⟨T0,ds⟩ w0:=by
 refine Jdg (M:=M0) m (λi=>base+i) F hm hok (λi hi=>by omega) stable (λi o a w hi ho ht hs hold hd=>?_) λa w ht Ob hs hold hf=>?_
 .exact step i o a w hi ho ht (λs h=>hold s λi hi=>by omega) hd
 .obtain⟨tm,O4⟩:=a;simp only at Ob hs hold hf;subst Ob;obtain⟨vs,hvs⟩:∃vs:List JJ,vs=(List.range m).map λi=>tm.getD (base+i) JA:=⟨_,rfl⟩;have hl:vs.length=m:=by grind
  have hv:∀i,i<m->tm[base+i]?=vs[i]?/\F i (vs.getD i JA) w:=λi hi=>by
   obtain⟨v,h1,h2⟩:=hf i hi
   simp_all
  have e:tm=setFrom T0 base vs:=by
   refine Ll λs=>?_;by_cases h:base<=s/\s<base+m
   .obtain⟨i,rfl⟩:∃i,s=base+i:=⟨s-base,by omega⟩
    grind[J06n]
   grind[qO]
  rw[e];have hw:=J9a (P:=P) (ops:=ops) (Q:=Q) (ops.toList.drop m) m λj hj=>by
   grind
  rw[List.length_drop,show ops.toList.length=ops.size from rfl]at hw;have h2:=fin vs w hl ht λi hi=>(hv i hi).2;rw[<- hw]at h2;exact h2
section
variable{w:JE}{base wb:Nat}{bs:JD}{n:Int}
end
def J0f6(f:Nat->JJ):((List.range 59).map f).toArray=#[f 0,f 1,f 2,f 3,f 4,f 5,f 6,f 7,f 8,f 9,f 10,f 11,f 12,f 13,f 14,f 15,f 16,f 17,f 18,f 19,f 20,f 21,f 22,f 23,f 24,f 25,f 26,f 27,f 28,f 29,f 30,f 31,f 32,f 33,f 34,f 35,f 36,f 37,f 38,f 39,f 40,f 41,f 42,f 43,f 44,f 45,f 46,f 47,f 48,f 49,f 50,f 51,f 52,f 53,f 54,f 55,f 56,f 57,f 58]:=by rfl
def J09y{T:JC}(h:T.size=59):∃f:Nat->JJ,T=((List.range 59).map f).toArray:=⟨_,dM h⟩
def b14:Code:=f23.body.getD .skip
def lI:Code:=sC (sC (sC b14))
structure Pair(w:JE)(ga gb j:Nat)(q1 q2:QC):Prop where
 g:q1.g=q2.g
 B:q1.B=q2.B
 c1:∀o u,o<5->q1.cells[o]?=some u->w.cell? ⟨ga,j*5+o,none⟩=some u
 c2:∀o u,o<5->q2.cells[o]?=some u->w.cell? ⟨gb,j*5+o,none⟩=some u
 d1:KZ 0 w q1.kv q1.rv q1.hv q1.lv q1.g q1.B
 d2:KZ 0 w q2.kv q2.rv q2.hv q2.lv q2.g q2.B
 l:q1.g.length<=1000/\q1.B.r.length<=1000/\q1.B.h.length<=1000/\q1.B.l.length<=1000
def r8F(ga gb n ca cb k:Nat)(q1 q2:QC):Nat->JJ->JE->Prop
 |0,v,_=>v=.slice (some ⟨ga,0,none⟩) n ca
 |1,v,_=>v=.int .i64 k
 |2,v,_=>v=.pointer (some ⟨ga,k*5,none⟩)
 |3,v,_=>v=q1.val
 |4,v,_=>v=.slice (some ⟨gb,0,none⟩) n cb
 |5,v,_=>v=.int .i64 k
 |6,v,_=>v=.pointer (some ⟨gb,k*5,none⟩)
 |7,v,_=>v=q2.val
 |_,v,_=>v=.bool true
section
variable{w:JE}{ga gb n ca cb:Nat}{T0:JC}{d:Deferred}
theorem J06y(Ag:T0.size=59){pa pb:JI}(t9:T0[9]?=some (.slice pa n ca))(t10:T0[10]?=some .nilIface)(t11:T0[11]?=some (.slice pb n cb))(t12:T0[12]?=some .nilIface)(hn:n<=1000)(xY:0<n->pa=some ⟨ga,0,none⟩/\pb=some ⟨gb,0,none⟩)(hp:∀j,j<n->∃q1 q2,Pair w ga gb j q1 q2) :
  lI.wp prog (λe a w'=>e=.ret/\a.defers=[d]/\a.tmps.size=59/\a.tmps[8]?=some (.bool true)/\Tch w.heap.size M0 w w') ⟨T0,[d]⟩ w:=by
 obtain⟨f,rfl⟩:=J09y Ag;rw[J0f6]at *;have e9:f 9=_:=Aa t9;have MZ:f 10=_:=Aa t10;have QA:f 11=_:=Aa t11;have WQ:f 12=_:=Aa t12;rw[e9,MZ,QA,WQ];clear t9 t10 t11 t12 e9 MZ QA WQ;simp only[lI,b14,fC,sC,f23,A8];go_wp2
 go_loopw [13] (λi wr=>∃k:Nat,k<=n/\i=JK k/\Tch w.heap.size M0 w wr) (λi _=>n-(RowKit.intOf i).toNat)
 case atStart=>exact⟨0,by omega,rfl,.refl⟩
 case round=>
  obtain⟨k,hk,rfl,ht⟩:=hrel;rcases BF k n with Ac|Et
  .obtain⟨q1,q2,pr⟩:=hp k Ac;obtain⟨rfl,rfl⟩:=xY (by omega);clear xY;have CS:(k:Int)<n:=by omega
   have BA:∀{wx:JE}{a:Addr}{u:JJ},Tch wr.heap.size M0 wr wx->w.cell? a=some u->wx.cell? a=some u:=λt h=>((ht.then t ht.size λ_ _ h=>h).cell (cell_lt h) λx=>x).trans h;have tw:∀{wx:JE},Tch wr.heap.size M0 wr wx->Tch w.heap.size M0 w wx:=λt=>ht.then t ht.size λ_ _ h=>h;have x0:w.cell? ⟨ga,k*5,none⟩=some q1.kv:=pr.c1 0 _ (by omega) rfl;have x1:w.cell? ⟨ga,k*5+1,none⟩=some (JK q1.B.n):=pr.c1 1 _ (by omega) rfl;have x2:w.cell? ⟨ga,k*5+2,none⟩=some q1.rv:=pr.c1 2 _ (by omega) rfl;have x3:w.cell? ⟨ga,k*5+3,none⟩=some q1.hv:=pr.c1 3 _ (by omega) rfl;have x4:w.cell? ⟨ga,k*5+4,none⟩=some q1.lv:=pr.c1 4 _ (by omega) rfl;have y0:w.cell? ⟨gb,k*5,none⟩=some q2.kv:=pr.c2 0 _ (by omega) rfl;have y1:w.cell? ⟨gb,k*5+1,none⟩=some (JK q2.B.n):=pr.c2 1 _ (by omega) rfl;have y2:w.cell? ⟨gb,k*5+2,none⟩=some q2.rv:=pr.c2 2 _ (by omega) rfl;have y3:w.cell? ⟨gb,k*5+3,none⟩=some q2.hv:=pr.c2 3 _ (by omega) rfl;have y4:w.cell? ⟨gb,k*5+4,none⟩=some q2.lv:=pr.c2 4 _ (by omega) rfl;have hs:=λ(wx:JE)(t:Tch wr.heap.size M0 wr wx)=>J0e8 (w:=wx) (pr.d1.tch (tw t)) (show KZ 0 wx q2.kv q2.rv q2.hv q2.lv q1.g q1.B from by rw[pr.g,pr.B];exact pr.d2.tch (tw t)) pr.l.1 pr.l.2.1 pr.l.2.2.1 pr.l.2.2.2;have v2:q2.val=.agg #[q2.kv,JK q1.B.n,q2.rv,q2.hv,q2.lv]:=by unfold QC.val;rw[pr.B]
   go_wp2;refine J06f 48 9 (r8F ga gb n ca cb k q1 q2) mixed (by kernel_rfl) (by simp_all) (λi v w w' h _=>by match i,h with|0,h|1,h|2,h|3,h|4,h|5,h|6,h|7,h=>exact h|i+8,h=>exact h) (λi o a wv hi ho Hr hold hd=>?_) λvs wv hl Hr hF=>?_
   .have s9:a.tmps[9]?=some (JM ga n ca):=(hold 9 (.inl (by omega))).trans rfl;have s11:a.tmps[11]?=some (JM gb n cb):=(hold 11 (.inl (by omega))).trans rfl;have Tm:a.tmps[13]?=some (JK k):=(hold 13 (.inl (by omega))).trans rfl
    match i,hi with
    |0,_=>
     cases ho;exact J9 rfl rfl (by simp[execOp,go_sem,s9];try rfl) ⟨_,rfl,rfl,.refl⟩
    |1,_=>
     cases ho;exact J9 rfl rfl (by simp[execOp,go_sem,Tm];try rfl) ⟨_,rfl,rfl,.refl⟩
    |2,_=>
     cases ho;obtain⟨_,e0,rfl⟩:=hd 0 rfl;have e0:a.tmps[48]?=some _:=e0;obtain⟨_,e1,rfl⟩:=hd 1 rfl;have e1:a.tmps[49]?=some _:=e1;exact J9 rfl rfl (by simp[execOp,go_sem,e0,e1,CS];try rfl) ⟨_,rfl,rfl,.refl⟩
    |3,_=>
     cases ho;obtain⟨_,e0,rfl⟩:=hd 2 rfl;have e0:a.tmps[50]?=some _:=e0;exact J9 (v:=q1.val) rfl rfl (by unfold QC.val;simp[execOp,go_sem,e0,BA Hr x0,BA Hr x1,BA Hr x2,BA Hr x3,BA Hr x4];try rfl) ⟨_,rfl,rfl,.refl⟩
    |4,_=>
     cases ho;exact J9 rfl rfl (by simp[execOp,go_sem,s11];try rfl) ⟨_,rfl,rfl,.refl⟩
    |5,_=>
     cases ho;exact J9 rfl rfl (by simp[execOp,go_sem,Tm];try rfl) ⟨_,rfl,rfl,.refl⟩
    |6,_=>
     cases ho;obtain⟨_,e0,rfl⟩:=hd 4 rfl;have e0:a.tmps[52]?=some _:=e0;obtain⟨_,e1,rfl⟩:=hd 5 rfl;have e1:a.tmps[53]?=some _:=e1;exact J9 rfl rfl (by simp[execOp,go_sem,e0,e1,CS];try rfl) ⟨_,rfl,rfl,.refl⟩
    |7,_=>
     cases ho;obtain⟨_,e0,rfl⟩:=hd 6 rfl;have e0:a.tmps[54]?=some _:=e0;exact J9 (v:=q2.val) rfl rfl (by unfold QC.val;simp[execOp,go_sem,e0,BA Hr y0,BA Hr y1,BA Hr y2,BA Hr y3,BA Hr y4];try rfl) ⟨_,rfl,rfl,.refl⟩
    |8,_=>
     cases ho;obtain⟨_,e3,rfl⟩:=hd 3 rfl;have e3:a.tmps[51]?=some _:=e3;obtain⟨_,e7,rfl⟩:=hd 7 rfl;have e7:a.tmps[55]?=some _:=e7;rw[v2]at e7;unfold QC.val at e3;exact Rz rfl rfl (by simp[execOp,go_sem,e3,e7];try rfl) (hs wv Hr) λe w2 SA=>⟨_,SA.1,_,rfl,rfl,SA.2⟩
    |i+9,h=>omega
   .match vs,hl with
    |[v0,v1,v2,v3,v4,v5,v6,v7,v8],_=>
     obtain rfl:v8=_:=hF 8 (by omega);simp only[List.drop_succ_cons,List.drop_zero,setFrom,List.setIfInBounds_toArray,List.set_cons_succ,List.set_cons_zero];go_wp2;exact⟨⟨k+1,by omega,by go_num,tw Hr⟩,by simp[RowKit.intOf];omega⟩
  .obtain rfl:k=n:=by omega
   have EC:¬((k:Int)<k):=by omega
   go_wp2
   all_goals exact ht
end
def J09k{a b:List Je}(h:a.Perm b):sortK a=sortK b:=by
 have tr:∀x y z:Je,(!ltOf Vb y x)=true->(!ltOf Vb z y)=true->(!ltOf Vb z x)=true:=λx y z h1 h2=>by simp only[Bool.not_eq_true']at h1 h2 ⊢;exact swoK.ntrans z y x h2 h1
 have tot:∀x y:Je,((!ltOf Vb y x) || (!ltOf Vb x y))=true:=λx y=>by
  cases h1:ltOf Vb y x with
  |false=>rfl
  |true=>
   cases h2:ltOf Vb x y with
   |false=>rfl
   |true=>
    have:=swoK.trans y x y h1 h2;rw[swoK.irrefl]at this;cases this
 have s1:=List.pairwise_mergeSort (le:=λx y=>!ltOf Vb y x) tr tot a;have s2:=List.pairwise_mergeSort (le:=λx y=>!ltOf Vb y x) tr tot b;refine List.Perm.eq_of_pairwise (λx y _ _ h1 h2=>?_) s1 s2 (((List.mergeSort_perm a _).trans h).trans (List.mergeSort_perm b _).symm)
 grind[Bool.not_eq_true',Jvn]
section
variable{T T':List TR}{ks mD:List Je}
def J07p(hn:(T.map (·.k)).Nodup)(KO:(T'.map (·.k)).Nodup)(h:∀k,tm T k=tm T' k):(T.map (·.k)).Perm (T'.map (·.k)):=by
 have key:∀{A B:List TR},(A.map (·.k)).Nodup->(∀k,tm A k=tm B k)->∀k,k∈A.map (·.k)->k∈B.map (·.k):=λhA h k hk=>by
  obtain⟨t,ht,rfl⟩:=AZ.1 hk;have:=TJ hA ht;rw[h]at this;obtain⟨s,T1,T2,rfl,hs,_⟩:=Qk this
  grind
 grind
def keysOf_eq(hn:(T.map (·.k)).Nodup)(KO:(T'.map (·.k)).Nodup)(h:∀k,tm T k=tm T' k)(hk:keysOf (T.map TR.kv) ks)(D6:keysOf (T'.map TR.kv) mD):ks=mD:=by
 obtain⟨a,ha,rfl⟩:=hk;obtain⟨b,hb,rfl⟩:=D6;refine J09k ?_;have h1:(a.map (·.1)).Perm (b.map (·.1)):=by
  have e1:(a.map (·.1)).Perm (T.map (·.k)):=by have h2:(a.map (·.1)).Perm ((T.map TR.kv).map (·.1)):=ha;rw[List.map_map]at h2;exact h2
  have e2:(b.map (·.1)).Perm (T'.map (·.k)):=by have h2:(b.map (·.1)).Perm ((T'.map TR.kv).map (·.1)):=hb;rw[List.map_map]at h2;exact h2
  exact(e1.trans (J07p hn KO h)).trans e2.symm
 have nd:∀{l:List Je},(l.map (·.1)).Nodup->l.Nodup:=λ{l} hl=>by
  grind
 have na:(a.map (·.1)).Nodup:=by have h2:(a.map (·.1)).Perm ((T.map TR.kv).map (·.1)):=ha;rw[List.map_map]at h2;exact h2.nodup_iff.2 hn
 grind[List.mem_map_of_mem,Subtype.ext,List.perm_ext_iff_of_nodup]
end
open Go.Conc Go.Maps
section
variable{fn:JG}{W E0 E:JB}{w0 w:JE}{T:JC}{ops:Array Oper}{i sR sT sA sB sX sY:Nat}{v:JJ}{k:List Item}{cs:List Frame}{Post:(JB)->JF->JE->Prop}
end
theorem flat5:∀(L:List QC)(j o:Nat),o<5->(L.flatMap QC.cells)[j*5+o]?=L[j]?.bind λq=>q.cells[o]?
 |[],j,o,_=>by simp
 |q::L,0,o,h=>by
  have h5:q.cells.length=5:=rfl
  grind
 |q::L,j+1,o,h=>by
  have h5:q.cells.length=5:=rfl;rw[List.flatMap_cons,List.getElem?_append_right (by omega),h5,show(j+1)*5+o-5=j*5+o from by omega,flat5 L j o h];rfl
section
variable{E:JB}{w w':JE}{c:J7}{hs:Int->Int}{fs:List Jd}{m g j base:Nat}{T S:List TR}{ks:List Je}{L:List QC}{v:JJ}{p:Jki}
end

def jD(w:JE)(g:Nat)(L:List QC):Prop:=∀j q,L[j]?=some q->(∀o u,o<5->q.cells[o]?=some u->w.cell? ⟨g,j*5+o,none⟩=some u)/\KZ 0 w q.kv q.rv q.hv q.lv q.g q.B
section
variable{E:JB}{w w':JE}{g m base:Nat}{T:List TR}{ks:List Je}{L:List QC}{v:JJ}
def J07s(ho:IG base w T m ks L)(hr:w.ownsRow base 38 5 v L.length (L.flatMap QC.cells))(h0:0<L.length):∃g cap,v=JM g L.length cap/\jD w g L:=by
 rcases hr.2 with⟨_,e⟩|⟨g,cap,cur,e,_,hg,BA,Nj,_,hx⟩
 .omega
 refine⟨g,cap,e,λj q hq=>⟨λo u Em hu=>?_,?_⟩⟩
 .have hj:j<L.length:=(List.getElem?_eq_some_iff.1 hq).1;refine(cell_of hg _).trans ?_;have h5:(List.take (L.length*5) cur.toList)[j*5+o]?=some u:=by grind[flat5]
  grind
 .have hj:j<ks.length:=by rw[<- ho.1];grind
  exact(ho.2 j _ q (DL hj) hq).2.2.2.mono (Nat.zero_le _)
def jD.ke(h:jD w g L)(hW:WR C0 (okP C0 S0) (idE E) w w)(hE:E g)(k:KE E w w'):jD w' g L:=λj q hq=>by
 obtain⟨h1,d⟩:=h j q hq;have hc:∀{i u},w.cell? ⟨g,i,none⟩=some u->w'.cell? ⟨g,i,none⟩=some u:=λhu=>k.cell hE hu;refine⟨λo u ho hu=>hc (h1 o u ho hu),?_⟩;have p0:=hW.Y4 hE (h1 0 _ (by omega) rfl);have p2:=hW.Y4 hE (h1 2 _ (by omega) rfl);have p3:=hW.Y4 hE (h1 3 _ (by omega) rfl);have p4:=hW.Y4 hE (h1 4 _ (by omega) rfl);obtain⟨dk,⟨g2,c2,e2,z2,r2⟩,⟨g3,c3,e3,z3,r3⟩,⟨g4,c4,e4,z4,r4⟩⟩:=d;rw[e2]at p2;rw[e3]at p3;rw[e4]at p4;refine⟨?_,⟨g2,c2,e2,z2,r2.keE k p2.MQ⟩,⟨g3,c3,e3,z3,r3.keE k p3.MQ⟩,⟨g4,c4,e4,z4,r4.keE k p4.MQ⟩⟩;rcases dk with dk|⟨g1,c1,e1,z1,r1⟩
 .exact .inl dk
 .rw[e1]at p0;exact .inr ⟨g1,c1,e1,z1,r1.keE k p0.MQ⟩
theorem jD.at(h:jD w g L)(hh:w'.heap=w.heap):jD w' g L:=λj q hq=>by
 obtain⟨h1,d⟩:=h j q hq;have hc:∀{a u},w.cell? a=some u->w'.cell? a=some u:=λh=>(Du (w:=w) (by rw[hh])).trans h;have hb:∀b:Nat,w'.heap[b]?=w.heap[b]?:=λb=>by rw[hh]
 obtain⟨dk,⟨g2,c2,e2,z2,r2⟩,⟨g3,c3,e3,z3,r3⟩,⟨g4,c4,e4,z4,r4⟩⟩:=d;refine⟨λo u ho hu=>hc (h1 o u ho hu),?_,⟨g2,c2,e2,z2,r2.kept (hb _)⟩,⟨g3,c3,e3,z3,r3.kept (hb _)⟩,⟨g4,c4,e4,z4,r4.kept (hb _)⟩⟩;rcases dk with dk|⟨g1,c1,e1,z1,r1⟩
 .exact .inl dk
 .exact .inr ⟨g1,c1,e1,z1,r1.kept (hb _)⟩
end
section
variable{w:JE}{ga gb m b1 b2:Nat}{w1 w2:JE}{T T':List TR}{ks mD:List Je}{L L':List QC}{c c':J7}
def qR(hn:(T.map (·.k)).Nodup)(KO:(T'.map (·.k)).Nodup)(ht:∀k,tm T k=tm T' k)(hk:keysOf (T.map TR.kv) ks)(D6:keysOf (T'.map TR.kv) mD)(ho:IG b1 w1 T m ks L)(Em:IG b2 w2 T' m mD L')(tok:∀t∈T,EM t.k/\Jl c t.B)(hc:CZ c) :
  L.length=L'.length/\(jD w ga L->jD w gb L'->∀j,j<L.length->∃q1 q2,Pair w ga gb j q1 q2):=by
 obtain rfl:=keysOf_eq hn KO ht hk D6;refine⟨ho.1.trans Em.1.symm,λh1 h2 j hj=>?_⟩;have hjk:j<ks.length:=by rw[<- ho.1];exact hj
 have hj':j<L'.length:=by rw[Em.1];exact hjk
 obtain⟨a1,a2,_,_⟩:=ho.2 j _ L[j] (DL hjk) (DL hj);obtain⟨a1',a2',_,_⟩:=Em.2 j _ L'[j] (DL hjk) (DL hj');obtain⟨c1,d1⟩:=h1 j L[j] (DL hj);obtain⟨c2,d2⟩:=h2 j L'[j] (DL hj');have eB:L[j].B=L'[j].B:=by
  grind
 obtain⟨t,T1,T2,hTe,DI,hB,_,_⟩:=Qk a2;have hok:=(tok t (by grind)).2;rw[hB]at hok;have XI:L[j].B.r.length<=64:=by
  have h1:=hc.b1;have h2:=hc.b2;rw[hok.r];have:c.bits=4\/c.bits=5\/c.bits=6:=by omega
  grind
 have Um:L[j].B.h.length<=9:=by rw[hok.h];have:=hc.nb;omega
 have jA:L[j].B.l.length<=8:=by have:=hok.lK;have:=hc.k2;omega
 have xK:L[j].g.length<=5:=by rw[a1];unfold MV;rw[FQ];refine BN (List.length_filter_le _ _) ?_;simp;omega
 exact⟨L[j],L'[j],by rw[a1,a1'],eB,c1,c2,d1,d2,by omega,by omega,by omega,by omega⟩
end
def kU:Code:=fC b14
def Hy:Array Oper:=opsOf (fC (sC b14))
def Hz:Array Oper:=opsOf (fC (sC (sC b14)))
def J0ea:b14=.seq kU (.seq (.region 1 Hy false) (.seq (.region 2 Hz false) lI)):=by kernel_rfl
def J0eb:f23.body=some b14:=by kernel_rfl
def J0ec:Ji C0 S0 23 kU=true:=by kernel_rfl
def J0ed:Ji C0 S0 23 lI=true:=by kernel_rfl
def J09z:GY C0 23:=⟨f23,by kernel_rfl,by kernel_rfl,by kernel_rfl⟩
def Jgi:S0.df.contains 23=false:=rfl
def J07t:C0.hl 23≠[]:=by show[1000]≠[];simp
def Jp4{i:Nat}(h:(C0.hl 23).contains i=true):i∈([]:List Nat)\/500<=i:=by
 have h':i∈[1000]:=Lj.1 h
 grind
def Jfj{i:Nat}(h:i<500):(C0.hl 23).contains i=false:=by
 cases e:(C0.hl 23).contains i with
 |false=>rfl
 |true=>
  rcases Jp4 e with h1|h1
  all_goals grind
section
variable{w:JE}{T:JC}{d:Deferred}{v0 v1 v2 v3:JJ}
def J094(Ag:T.size=59)(h0:T[0]?=some v0)(h1:T[1]?=some v1)(h2:T[2]?=some v2)(h3:T[3]?=some v3) :
  kU.wp prog (λe a w'=>e=.normal/\a.tmps.size=59/\a.tmps[0]?=some v0/\a.tmps[1]?=some v1/\a.tmps[2]?=some v2/\a.tmps[3]?=some v3/\w'.heap=w.heap) ⟨T,[d]⟩ w:=by
 obtain⟨f,rfl⟩:=J09y Ag;rw[J0f6]at *;have e0:f 0=_:=Aa h0;have e1:f 1=_:=Aa h1;have e2:f 2=_:=Aa h2;have e3:f 3=_:=Aa h3;rw[e0,e1,e2,e3];simp only[kU,b14,fC,f23,A8];go_wp2
end
section
variable{W E:JB}{w:JE}{x y m:Nat}{c c':J7}{seed nf J0f8 nf':Int}{h h':JJ}{vm vm' fb0:Nat}{vs LY:Nat->Option Nat}{S S':Nat->List TR}{hs:Int->Int}{fs gs:List Jd}{v0:JJ}{F:List LW}{b₀:Frame}{a₀:Act}{ops:Array Oper}{i:Nat}{rest:List Nat}{kk:List Item}{cs:List Frame}{Post:(JB)->JF->JE->Prop}
def J07n{T0:JC}(hB:BOk C0 S0 W E w)(qx:NJ E w x c seed h nf vm vs S)(qy:NJ E w y c' J0f8 h' nf' vm' LY S')(hF:Qq E w fb0 v0 F)(hok:FB m F)(Ns:m<8)(tx:VwF c hs vs fs S)(ty:VwF c' hs LY gs S')
  (Ui:jW c c') (hp:fs.Perm gs) (BL:c.nb=4) (hh:∀y,0<=hs y/\hs y<=18446744073709551615) (h3:∀f∈fs,f.k.length=3) (hl:fs.length<=400)
  (Ag:T0.size=59) (t0:T0[0]?=some (pt x)) (t1:T0[1]?=some (pt y)) (t2:T0[2]?=some (JK m)) (t3:T0[3]?=some v0) (Bf:TmR C0 S0 23 (idE E) T0 T0)
  (kn:∀W' E' w',(∀b,E b->E' b)->BOk C0 S0 W' E' w'->KE E w w'->Reach prog Post W' (G (b₀.at (a₀.put ((ops[i]?).bind (·.dst)) (.bool true)) (.inRegion ops rest::kk)) cs) w') :
  Reach prog Post W (G ((Go.Conc.base 23).at ⟨T0,[]⟩ [.code b14]) (b₀.at a₀ (.inRegion ops (i::rest)::kk)::cs)) w:=by
 rw[J0ea];refine Ql [] (λ_=>Jp4) J07t J0ec J09z Jgi hB Bf (by omega) (Q:=λt w1=>t.size=59/\t[0]?=some (pt x)/\t[1]?=some (pt y)/\t[2]?=some (JK m)/\t[3]?=some v0/\w1.heap=w.heap) (λτ=>wp_mono (J094 (w:=w.tp τ 0) Ag t0 t1 t2 t3) λe a w1 ⟨q1,q2,q3,q4,q5,q6,q7⟩=>⟨q1,by omega,(λi hi=>by cases hi),q2,q3,q4,q5,q6,q7⟩) λE1 T1 wb1 w1 U0 CV AP Az ⟨z,z0,z1,z2,z3,zh⟩ _=>?_;have k1:KE E w w1:=(KE.of_eq λb _=>by rw[zh]).trans ((Jt rfl AP).mono U0);have iL:=hF.ke k1 U0;have h3':∀f∈gs,f.k.length=3:=λf hf=>h3 f (hp.mem_iff.2 hf);have iW:gs.length<=400:=by rw[<- hp.length_eq];exact hl
 have hTx:∀T:List TR,(T.map (·.k)).Nodup->QR c hs m F fs T->(T.length:Int)<=1000:=λT hn hT=>by have:=(hT.tab hn h3 hl).len;omega
 have hTy:∀T:List TR,(T.map (·.k)).Nodup->QR c' hs m F gs T->(T.length:Int)<=1000:=λT hn hT=>by have:=(hT.tab hn h3' iW).len;omega
 have wB:∀A B:List TR,QR c hs m F fs A->QR c' hs m F gs B->∀k,tm A k=tm B k:=λA B hA hB=>hA.cmp hB Ui hp qx.cfg BL hh;have qx1:=qx.ke k1 hB.hnd U0;have qy1:=qy.ke k1 hB.hnd U0;have H1:HS 23 W E1 w1 E1 T1 w1:=⟨CV,λ_ h=>h,.refl,λ_ _=>rfl,Az,rfl,Ad _⟩;clear zh;refine J7e (x:=x) (m:=m) (most:=1000) (M:=400) (R:=QR c hs m F fs) (l:=[(16,.tmp 0),(17,.tmp 2),(18,.tmp 3)]) (ags:=#[.tmp 16,.tmp 17,.tmp 18,.const (JK 1000)]) (d:=19) (sT:=15) (sA:=20) (sB:=21) (sX:=9) (sY:=10) H1 rfl (by kernel_rfl) (by kernel_rfl) (by kernel_rfl) (by kernel_rfl) (by kernel_rfl) ⟨Jfj (by omega),Jfj (by omega),Jfj (by omega)⟩ (by omega) (by omega) (by simp[mvT,Act.eval,Bq,Gj,z,(BJ.1 z0).2,(BJ.1 z2).2,(BJ.1 z3).2]) qx1 iL hok Ns (by omega) tx.hin (by omega) (tx.sum qx.cfg BL hh Ns (λv b hv=>qx.cube.vs.lt8 hv) hok) hTx λW2 E2 u0 u1 w2 v Ta ks L T2 ke0 qo H2 s s9 yY ss sh=>?_;replace s:T2.size=59:=s.trans z;replace ss:∀j,j∈([1,2,3]:List Nat)->T2[j]?=T1[j]?:=λj hj=>by
  grind
 have k2:KE E1 w1 w2:=ke0.trans (qo.ke.trans (.of_eq λb _=>by rw[sh]));have qy2:=qy1.ke k2 CV.hnd qo.le;have s1:=(ss 1 (by simp)).trans z1;have s2:=(ss 2 (by simp)).trans z2;have s3:=(ss 3 (by simp)).trans z3;refine J7e (x:=y) (m:=m) (most:=1000) (M:=400) (R:=QR c' hs m F gs) (l:=[(23,.tmp 1),(24,.tmp 2),(25,.tmp 3)]) (ags:=#[.tmp 23,.tmp 24,.tmp 25,.const (JK 1000)]) (d:=26) (sT:=22) (sA:=27) (sB:=28) (sX:=11) (sY:=12) (show HS 23 W2 E2 w2 E2 T2 w2 from H2.start) rfl (by kernel_rfl) (by kernel_rfl) (by kernel_rfl) (by kernel_rfl) (by kernel_rfl) ⟨Jfj (by omega),Jfj (by omega),Jfj (by omega)⟩ (by omega) (by omega) (by simp[mvT,Act.eval,Bq,Gj,s,(BJ.1 s1).2,(BJ.1 s2).2,(BJ.1 s3).2]) qy2 (iL.ke k2 qo.le) hok Ns (by omega) ty.hin (by omega) (ty.sum qy.cfg (Ui.2.2.symm.trans BL) hh Ns (λv b hv=>qy.cube.vs.lt8 hv) hok) hTy λW3 E3 v0 v1 w3 v' Tb mD L' T3 ke0' TD H3 r r11 r12 rr rh=>?_;replace r:T3.size=59:=r.trans s;have k3:KE E2 w2 w3:=ke0'.trans (TD.ke.trans (.of_eq λb _=>by rw[rh]));have r9:=(rr 9 (by simp) (by omega) (by omega) (by omega) (by omega) (by omega) (by omega)).trans s9;have r10:=(rr 10 (by simp) (by omega) (by omega) (by omega) (by omega) (by omega) (by omega)).trans yY;obtain⟨va,vc,hv⟩:=Jh7 qo.row;obtain⟨zC,zF,OV⟩:=Jh7 TD.row;have qP:∀τ,lI.wp prog (λe a w'=>e=.ret/\a.defers=[Jq]/\a.tmps.size=59/\a.tmps[8]?=some (.bool true)/\Tch (w3.tp τ 0).heap.size M0 (w3.tp τ 0) w') ⟨T3,[Jq]⟩ (w3.tp τ 0):=by
  intro τ;have Ac:=hTx _ qo.nd qo.sum;have jA:L.length=Ta.length:=by rw[qo.outs.1];have:=qo.keys.length;grind
  by_cases h0:L.length=0
  .obtain⟨pl,_⟩:=qR (w:=w3.tp τ 0) (ga:=0) (gb:=0) qo.nd TD.nd (wB _ _ qo.sum TD.sum) qo.keys TD.keys qo.outs TD.outs qo.tok qx.cfg;rw[hv,h0]at r9
   grind[J06y]
  .obtain⟨g1,c1,e1,R1⟩:=J07s qo.outs qo.row (by omega);obtain⟨pl,pp⟩:=qR (w:=w3.tp τ 0) (ga:=g1) (gb:=0) qo.nd TD.nd (wB _ _ qo.sum TD.sum) qo.keys TD.keys qo.outs TD.outs qo.tok qx.cfg;obtain⟨g2,c2,e2,R2⟩:=J07s TD.outs TD.row (by omega);obtain⟨_,pp⟩:=qR (w:=w3.tp τ 0) (ga:=g1) (gb:=g2) qo.nd TD.nd (wB _ _ qo.sum TD.sum) qo.keys TD.keys qo.outs TD.outs qo.tok qx.cfg;have eg:E2 g1:=by have:=qo.vE;rw[e1]at this;exact this.MQ
   have Ra:jD (w3.tp τ 0) g1 L:=((R1.at sh).ke H2.bok.wr eg k3).at rfl;have Rb:jD (w3.tp τ 0) g2 L':=R2.at rh;rw[e1]at r9;rw[e2,<- pl]at r11;exact J06y (ga:=g1) (gb:=g2) r r9 r10 r11 r12 (by omega) (λ_=>⟨rfl,rfl⟩) (pp Ra Rb)
 refine Reach.ret (b:=Go.Conc.base 23) (X0:=[.code lI]) (k:=[]) KY rfl (.cons (.code J0ed) .nil) J09z Jgi J07t (by simp[Go.Conc.base]) H3.bok H3.tm (Q:=λt1 w1=>t1[8]?=some (.bool true)/\∀b,b<w3.heap.size->w1.heap[b]?=w3.heap[b]?) (λτ=>?_) λE4 T4 w4 wA todo Td KH PS QY ⟨y1,y2⟩=>?_
 .refine LGo.wp (wp_mono (qP τ) λe b w' ⟨n1,n2,n3,n4,n5⟩=>?_);subst n1;refine Cont.ret ⟨λi hi Nq=>?_,n4,λb hb=>n5.heap b hb λx=>x⟩ n2;rcases Jp4 hi with h|h
  all_goals grind
 .refine Reach.leave1 (B:=Go.Conc.base 23) rfl rfl (fn:=f23) (by kernel_rfl) (x:=8) (by kernel_rfl) λd12=>?_;have k4:KE E3 w3 wA:=(KE.of_eq λb hb=>y2 b (H3.bok.lt hb)).trans ((Jt rfl PS).mono Td);rw[show(Act.mk T4 []).tmps.getD 8 JA=.bool true from by simp_all];exact kn W3 E4 (wA.at d12) (λb hb=>Td b (TD.le b (qo.le b (U0 b hb)))) (KH.at d12) ((k1.trans ((k2.mono U0).trans ((k3.mono λb hb=>qo.le b (U0 b hb)).trans (k4.mono λb hb=>TD.le b (qo.le b (U0 b hb)))))).trans (.of_eq λ_ _=>rfl))
end
section
variable{W E:JB}{w:JE}{c rest:Code}{t:JC}{k:List Item}{cs:List Frame}{Post:(JB)->JF->JE->Prop}
def iQ(d:Nat)(hd:12<=d/\d<30){Q:JC->Prop}(hok:Ji C0 S0 6 c=true)(hB:BOk C0 S0 W E w)(ht:TmR C0 S0 6 (idE E) t t)(Ag:t.size=143)
  (K:∀τ (R:Exit->Act->JE->Prop),(∀T',T'.size=143->(∀i∈kX d,T'[i]?=t[i]?)->Q T'->R .normal ⟨T',[Jq]⟩ (w.tp τ 0))->c.wp prog R ⟨t,[Jq]⟩ (w.tp τ 0))
  (kn:∀E' t' w',(∀b,E b->E' b)->BOk C0 S0 W E' w'->KE E w w'->TmR C0 S0 6 (idE E') t' t'->t'.size=143->(∀i∈kX d,t'[i]?=t[i]?)->Q t'->(∀b,W b->w'.heap[b]?=w.heap[b]?)->Reach prog Post W (G ((Go.Conc.base 6).at ⟨t',[]⟩ (.code rest::k)) cs) w') :
  Reach prog Post W (G ((Go.Conc.base 6).at ⟨t,[]⟩ (.code (.seq c rest)::k)) cs) w:=
 iT d hd hok hB ht Ag (Q:=λt' w1=>Q t'/\w1.heap=w.heap) (λτ R h=>K τ R λT' h1 h2 h3=>h T' _ h1 h2 ⟨h3,rfl⟩)
  λE' t' w1 w' le Gq hW' xZ q1 q2 ⟨q3,q4⟩ kw=>kn E' t' w' le Gq ((KE.of_eq λb _=>by rw[q4]).trans ((Jt rfl hW').mono le)) xZ q1 q2 q3 kw
end
structure MX(E0:JB)(w0:JE)(fs gs:List Jd)(c:Int)(T0:JC)(R:Code)(W:JB)(g:JF)(w:JE)(X0 X E:JB)(hs:Int->Int)(ga:JI)(cg:Nat)(x:Nat)(cx:J7)(hx:JJ)(nx:Int)(vx:Nat)(px:Nat->Option Nat)(Sx:Nat->List TR)(y:Nat)(cy:J7)(hy:JJ)(ny:Int)(vy:Nat)(py:Nat->Option Nat)(Sy:Nat->List TR)(T:JC):Prop where
 g:g=G ((Go.Conc.base 6).at ⟨T,[]⟩ [.code R]) []
 bok:BOk C0 S0 W E w
 tm:TmR C0 S0 6 (idE E) T T
 sz:T.size=143
 st:S6 X0 X E0 w0 hs gs ga cg c x cx hx nx vx px Sx y cy hy ny vy py Sy E w
 tx:VwF cx hs px fs Sx
 ty:VwF cy hs py fs Sy
 cc:jW cx cy
 nb:0<=nx/\nx<=200/\0<=ny/\ny<=200
 hh:∀y,0<=hs y/\hs y<=18446744073709551615
 same:∀i,i∈([3,4,5]:List Nat)->T[i]?=T0[i]?
 s14:T[14]?=some (.slice ga gs.length cg)
 s15:T[15]?=some (pt x)
 s16:T[16]?=some (pt y)
section
variable{W E:JB}{w:JE}{c:Int}{la lb:JI}{rs qI:List Gi}{fs gs:List Jd}{n n2 lc mG:Nat}{R:Code}
def J07w{T0:JC}(hB:BOk C0 S0 W E w)(hok:HOk w)(hc:I64 c)
  (hR:qC w la rs) (hn:rs.length=n) (hWa:∀a,la=some a->W a.block) (hTa:∀a,la=some a->∀c z,w.heap[a.block]?≠some (.cells c wgT z)) (zG:qC w lb qI) (Ij:qI.length=n2) (Xm:∀a,lb=some a->W a.block) (hTb:∀a,lb=some a->∀c z,w.heap[a.block]?≠some (.cells c wgT z))
  (Zb:fs=(rs.take 200).map Gi.fact) (hgs:gs=(qI.take 200).map Gi.fact) (Ih:fs.length<=200) (IQ:∀f∈fs,RH f/\BI f.k∈U64)
  (Ag:T0.size=143) (h0:T0[0]?=some (JK c)) (h1:T0[1]?=some (.slice la n lc)) (h2:T0[2]?=some (.slice lb n2 mG)) (Bf:TmR C0 S0 6 (idE E) T0 T0) :
  Reach prog (λW' g' w'=>∃X0 X E' hs ga cg x cx hx nx vx px Sx y cy hy ny vy py Sy T',MX E w fs gs c T0 R W' g' w' X0 X E' hs ga cg x cx hx nx vx px Sx y cy hy ny vy py Sy T') W (G ((Go.Conc.base 6).at ⟨T0,[]⟩ [.code (.seq (cX 0) (.seq (.region 1 (oX 1) false) (.seq (.region 2 (oX 2) false) (.seq (.region 3 (oX 3) false) (.seq (.region 4 (oX 4) false) (.seq (cX 5) R))))))]) []) w:=by
 refine iQ 12 (by omega) (Q:=λ_=>True) (TG (n:=0) (by simp)) hB Bf Ag (λτ R h=>J0bn Ag λT' s k=>h T' s k trivial) λE1 T1 w1 U0 CV k1 Az s1 m1 _ kw1=>?_;have ok1:=hok.ke k1 hB.hnd;have H1:HS 6 W E1 w1 E1 T1 w1:=⟨CV,λ_ h=>h,.refl,λ_ _=>rfl,Az,rfl,Ad _⟩;refine J06d (la:=la) (rs:=rs) (fs:=fs) (d1:=30) (d2:=31) (d3:=13) (s:=1) H1 (by kernel_rfl) ⟨by kernel_rfl,by kernel_rfl⟩ (by omega) ((m1 1 (by decide)).trans h1) (hR.of_heap λa ha=>kw1 _ (hWa a ha)) hn Zb hWa (λa ha=>by grind) λE2 w2 ga1 cf pl1 T2 H2 Tc k2 fa1 _ vE1 kw2 s2 m2 n13=>?_;have ok2:=ok1.ke k2 CV.hnd;have H2:=H2.start;refine J06d (la:=lb) (rs:=qI) (fs:=gs) (d1:=32) (d2:=33) (d3:=14) (s:=2) H2 (by kernel_rfl) ⟨by kernel_rfl,by kernel_rfl⟩ (by omega) ((m2 2 (by omega) (by omega) (by omega)).trans ((m1 2 (by decide)).trans h2)) (zG.of_heap λa ha=>(kw2 _ (Xm a ha)).trans (kw1 _ (Xm a ha))) Ij hgs Xm (λa ha=>by grind) λE3 w3 ga cg pl2 T3 H3 Ti k3 fa2 _ vE2 kw3 s3 m3 n14=>?_;have ok3:=ok2.ke k3 H2.bok.hnd;have H3:=H3.start;obtain⟨pl1',hpl1,faF⟩:=G8.ke H2.bok.wr (λa ha=>by rw[ha]at vE1;exact vE1.MQ) k3 fa1;refine J06e (c:=c) (fs:=fs) (pl:=pl1') (d1:=34) (d2:=35) (d3:=36) (d4:=15) (sc:=0) (sg:=13) H3 (by kernel_rfl) ⟨by kernel_rfl,by kernel_rfl,by kernel_rfl⟩ (by omega) ((m3 0 (by omega) (by omega) (by omega)).trans ((m2 0 (by omega) (by omega) (by omega)).trans ((m1 0 (by decide)).trans h0))) ((m3 13 (by omega) (by omega) (by omega)).trans n13) (Ym (by omega)) ok3 hc faF IQ Ih λW4 E4 w4 x cx hx hs nx vx px Sx T4 H4 Td k4 qx4 Jkl cb hb ok4 ex4 bX s4 m4 n15=>?_;obtain⟨J0f9,J0fa,faF'⟩:=G8.ke H3.bok.wr (λa ha=>by rw[ha]at vE1;exact Ti _ vE1.MQ) k4 faF;obtain⟨plG,hplG,faG⟩:=G8.ke H3.bok.wr (λa ha=>by rw[ha]at vE2;exact vE2.MQ) k4 fa2;refine J06e (c:=c) (fs:=fs) (pl:=J0f9) (d1:=37) (d2:=38) (d3:=39) (d4:=16) (sc:=0) (sg:=13) H4 (by kernel_rfl) ⟨by kernel_rfl,by kernel_rfl,by kernel_rfl⟩ (by omega) ((m4 0 (by omega) (by omega) (by omega) (by omega)).trans ((m3 0 (by omega) (by omega) (by omega)).trans ((m2 0 (by omega) (by omega) (by omega)).trans ((m1 0 (by decide)).trans h0)))) ((m4 13 (by omega) (by omega) (by omega) (by omega)).trans ((m3 13 (by omega) (by omega) (by omega)).trans n13)) (Ym (by omega)) ok4 hc faF' IQ Ih λW5 E5 w5 y cy hy D9 ny vy py Sy T5 H5 yQ k5 qy5 Jkm cb' BO ok5 ey5 bY s5 m5 n16=>?_;obtain⟨bY,eh',ec1',ec2',en0,en1⟩:=bY;obtain⟨bX,eh,ec1,ec2,en0',en1'⟩:=bX;obtain rfl:D9=hs:=eh'.trans eh.symm;have Ui:jW cx cy:=⟨ec1.trans ec1'.symm,ec2.trans ec2'.symm,bX.nb.trans bY.nb.symm⟩;have k02:KE E w w2:=k1.trans (k2.mono U0);have Jl9:∀b,E b->E2 b:=λb hb=>Tc b (U0 b hb);have k04:KE E w w4:=k02.trans ((k3.mono Jl9).trans (k4.mono λb hb=>Ti b (Jl9 b hb)));have st:S6 E3 E4 E w D9 gs ga cg c x cx hx nx vx px Sx y cy hy ny vy py Sy E5 w5:={
  ke:=k04.trans (k5.mono λb hb=>Td b (Ti b (Jl9 b hb)))
  le0:=λb hb=>Ti b (Jl9 b hb)
  le:=Td
  XE:=yQ
  XH:=H3.bok.hnd
  qx:=bX.ke k5 H4.bok.hnd λ_ h=>h
  qy:=bY
  fa:=FsE.ke ⟨plG,λp hp=>(hplG p hp).2,faG⟩ (k5.mono Td) }
 have r0:∀i,i∈([3,4,5]:List Nat)->T5[i]?=T0[i]?:=λi hi=>by
  have hk:i∈kX 12:=by
   simp only[AL,BU,or_false]at hi;rcases hi with rfl|rfl|rfl<;>decide
  simp only[AL,BU,or_false]at hi;exact(m5 i (by omega) (by omega) (by omega) (by omega)).trans ((m4 i (by omega) (by omega) (by omega) (by omega)).trans ((m3 i (by omega) (by omega) (by omega)).trans ((m2 i (by omega) (by omega) (by omega)).trans (m1 i hk))))
 have y14:=(m5 14 (by omega) (by omega) (by omega) (by omega)).trans ((m4 14 (by omega) (by omega) (by omega) (by omega)).trans n14);have y15:=(m5 15 (by omega) (by omega) (by omega) (by omega)).trans n15;have z5:T5.size=143:=by omega
 refine iQ 12 (by omega) (Q:=λ_=>True) (TG (n:=5) (by simp)) H5.bok H5.tm z5 (λτ R h=>J0bo z5 y15 n16 λT' s k=>h T' s k trivial) λE6 T6 w6 XV SB k6 V8 s6 m6 _ _=>?_;refine Reach.here ⟨E3,E4,E6,D9,ga,cg,x,cx,hx,nx,vx,px,Sx,y,cy,hy,ny,vy,py,Sy,T6,rfl,SB,V8,s6,st.to k6 XV,Jkl,Jkm,Ui,⟨en0',en1',en0,en1⟩,hb,λi hi=>(m6 i ?_).trans (r0 i hi),(m6 14 (by decide)).trans y14,(m6 15 (by decide)).trans y15,(m6 16 (by decide)).trans n16⟩;simp only[AL,BU,or_false]at hi;rcases hi with rfl|rfl|rfl<;>decide
end
section
variable{X0 X Ei:JB}{wi:JE}{hs:Int->Int}{fs gs:List Jd}{ga:JI}{c2:Nat}{c:Int}{x:Nat}{cx:J7}{hx:JJ}{nx:Int}{vx:Nat}{px:Nat->Option Nat}{Sx:Nat->List TR}{y:Nat}{cy:J7}{hy:JJ}{ny:Int}{vy:Nat}{py:Nat->Option Nat}{Sy:Nat->List TR}{W E:JB}{w:JE}{T:JC}{kk:List Item}{cs:List Frame}{Post:(JB)->JF->JE->Prop}{v0:JJ}{F:List LW}{fb0 m id ml d dd:Nat}{ops:Array Oper}{l:List (Nat × Operand)}{ags:Array Operand}{rest:Code}
def J039(hB:BOk C0 S0 W E w)(ht:TmR C0 S0 6 (idE E) T T)(Ag:T.size=143)(st:S6 X0 X Ei wi hs gs ga c2 c x cx hx nx vx px Sx y cy hy ny vy py Sy E w)(tx:VwF cx hs px fs Sx)(ty:VwF cy hs py fs Sy)(Ui:jW cx cy)(hh:∀y,0<=hs y/\hs y<=18446744073709551615)(h3:∀f∈fs,f.k.length=3)(hl4:fs.length<=400)(Ns:m<8)(hF:Qq E w fb0 v0 F)(hok:FB m F)
  (hl:l.length=ml) (hm:((List.range' 0 ml).map λj=>(ops[j]?).bind mvP)=l.map some) (hk:l.all (Xk 6)=true) (hc:(ops[ml]?).bind aG=some (d,23,ags)) (hr:(List.range ops.size)=List.range' 0 ml++ml::[ml+1]) (he:(ops[ml+1]?).bind mvP=some (dd,.tmp d)) (hd:30<=d/\d<143/\dd<30/\(C0.hl 6).contains d=false) (X4:∀p∈l,30<=p.1)
  (hea:ags.map (Act.eval ⟨mvT T l,[]⟩)=#[pt x,pt y,JK m,v0])
  (kn:∀W' E' T' w',BOk C0 S0 W' E' w'->TmR C0 S0 6 (idE E') T' T'->(∀b,E b->E' b)->KE E w w'->T'.size=143->T'[dd]?=some (.bool true)->(∀i,i<30->i≠dd->T'[i]?=T[i]?)->Reach prog Post W' (G ((Go.Conc.base 6).at ⟨T',[]⟩ (.code rest::kk)) cs) w') :
  Reach prog Post W (G ((Go.Conc.base 6).at ⟨T,[]⟩ (.code (.seq (.region id ops false) rest)::kk)) cs) w:=by
 have H:HS 6 W E w E T w:=⟨hB,λ_ h=>h,.refl,λ_ _=>rfl,ht,rfl,Ad _⟩;refine jS (m:=ml) (l:=l) (rest:=[ml+1]) H hl hm hk hc hr (show prog.funcs[23]?=some f23 by kernel_rfl) (by kernel_rfl) J0eb λw2 H2 e2 z2 k2=>?_;have LH:f23.ntmps=59:=by kernel_rfl
 rw[hea,LH];generalize mvT T l=T2 at *;have st2:=st.to H2.ke λ_ h=>h;have hF2:=hF.ke H2.ke λ_ h=>h;have vx:VR C0 (idE E) (pt x) (pt x):=.ptr _ _ ⟨rfl,st2.qxE.q.xE.1⟩;have vy:VR C0 (idE E) (pt y) (pt y):=.ptr _ _ ⟨rfl,st2.qy.q.xE.1⟩;have v0E:VR C0 (idE E) v0 v0:=hF2.vr;refine J07n (x:=x) (y:=y) (m:=m) (c:=cx) (c':=cy) (S:=Sx) (S':=Sy) (fs:=fs) (gs:=fs) (v0:=v0) H2.bok st2.qxE.q st2.qy.q hF2 hok Ns tx ty Ui (.refl _) st2.qx.nb hh h3 hl4 (by simp) (by simp) (by simp) (by simp) (by simp) ?_ λWD ED wD leD hBD kD=>?_
 .refine .bK (λu hu=>?_) λ_=>rfl;rw[Array.toList_append,Gn]at hu;rcases hu with hu|hu
  .simp only[AL,BU,or_false]at hu;rcases hu with rfl|rfl|rfl|rfl
   .exact vx
   .exact vy
   .exact .int _ _
   .exact v0E
  .simp only[Array.toList_replicate]at hu;rw[List.eq_of_mem_replicate hu];exact .undef
 obtain⟨o',Em,Gu⟩:=Gl.1 hc;obtain⟨_,NZ,_⟩:=vI Gu;rw[Em];simp only[Option.bind_some,NZ];have HD:HS 6 WD ED wD ED T2 wD:=⟨hBD,λ_ h=>h,.refl,λ_ _=>rfl,H2.tm.mono (Oj leD),rfl,Ad _⟩;refine J0ah (m:=ml+1) (d:=d) (v:=.bool true) (l2:=[(dd,.tmp d)]) HD (.inr (.bool _)) (by simp[he]) (by simp only[List.all_cons,List.all_nil,Xk,hd.2.2.2,Bool.not_false,Bool.or_true,Bool.and_true]) λwE HE eE=>?_;refine kn WD ED _ wE HE.bok HE.tm leD ((H2.ke.trans kD).trans (HE.ke.mono leD)) (by grind[qQ]) ?_ λi hi hn=>?_
 .show((T2.setIfInBounds d (.bool true)).setIfInBounds dd ((T2.setIfInBounds d (.bool true)).getD d JA))[dd]?=_;rw[FC (by simp;omega),Bq,FC (by omega)];rfl
 .rw[uP (by simp;omega),AV (by omega)]
  grind
end
section
variable{W E:JB}{w:JE}{c mz key:Int}{la lb lv:JI}{rs qI:List Gi}{xs:JD}{n n2 n3 lc mG qK:Nat}
def J05u{T0:JC}(hB:BOk C0 S0 W E w)(hok:HOk w)(hG0:∃t,w.heap[0]?=some (.cells #[.iface 226 (.agg #[.pointer (some ⟨1,33,none⟩)])] t (0,0)))(hG1:∃arr t,w.heap[1]?=some (.cells arr t (0,0))/\∀x∈arr.toList,∃k n,x=.int k n)(hc:I64 c)(hmz:I64 mz)(LD:I64 key)
  (hR:qC w la rs) (hn:rs.length=n) (hWa:∀a,la=some a->W a.block) (hTa:∀a,la=some a->∀c z,w.heap[a.block]?≠some (.cells c wgT z)) (zG:qC w lb qI) (Ij:qI.length=n2) (Xm:∀a,lb=some a->W a.block) (hTb:∀a,lb=some a->∀c z,w.heap[a.block]?≠some (.cells c wgT z))
  (hV:jK w lv xs) (Ze:xs.length=n3) (hWv:∀a,lv=some a->W a.block) (hTv:∀a,lv=some a->∀c z,w.heap[a.block]?≠some (.cells c wgT z))
  (Ag:T0.size=143) (h0:T0[0]?=some (JK c)) (h1:T0[1]?=some (.slice la n lc)) (h2:T0[2]?=some (.slice lb n2 mG)) (h3:T0[3]?=some (.slice lv n3 qK)) (h4:T0[4]?=some (JK mz)) (h5:T0[5]?=some (JK key)) (Bf:TmR C0 S0 6 (idE E) T0 T0) :
  Reach prog (Jrq prog (λv w'=>v=.bool true/\KE E w w')) W (G ((Go.Conc.base 6).at ⟨T0,[]⟩ [.code (dX 0)]) []) w:=by
 obtain⟨fs,Zb⟩:∃fs,fs=(rs.take 200).map Gi.fact:=⟨_,rfl⟩;obtain⟨gs,hgs⟩:∃gs,gs=(qI.take 200).map Gi.fact:=⟨_,rfl⟩;have Ih:fs.length<=200:=by grind
 have xK:gs.length<=200:=by grind
 have IQ:∀f∈fs,RH f/\BI f.k∈U64:=λf hf=>by rw[Zb]at hf;obtain⟨r,hr,rfl⟩:=AZ.1 hf;exact⟨Gi.J017 (hR.ok r (List.mem_of_mem_take hr)),Jyz r⟩
 have hgo:∀f∈gs,RH f/\BI f.k∈U64:=λf hf=>by rw[hgs]at hf;obtain⟨r,hr,rfl⟩:=AZ.1 hf;exact⟨Gi.J017 (zG.ok r (List.mem_of_mem_take hr)),Jyz r⟩
 have h3f:∀f∈fs++gs,f.k.length=3:=λf hf=>(Gn.1 hf).elim (λh=>(IQ f h).1.n) λh=>(hgo f h).1.n;have fK:E 0:=hB.gl 0 rfl;have hE1:E 1:=by
  have h1:=hB.hnd
  rwa [show C0.P.globals.size=1 from Wv]at h1
 rw[J0co];refine Reach.Jg9 (J07w (fs:=fs) (gs:=gs) hB hok hc hR hn hWa hTa zG Ij Xm hTb Zb hgs Ih IQ Ag h0 h1 h2 Bf) λW1 g1 w1 ⟨X0,X,E1,hs,ga,cg,x,cx,hx,nx,vx,px,Sx,y,cy,hy,ny,vy,py,Sy,T1,q⟩ leW kW=>?_;obtain⟨rfl,CV,Az,s1,st,tx,ty,Ui,BL,hh,same,y14,y15,y16⟩:=q;refine J6 (λw1=>stepG_seq) rfl λd1=>?_;rw[J0bm];refine iQ 17 (by omega) (Q:=λT'=>T'[17]?=some (JK 0)) qY.2.2.1 (CV.at d1) Az s1 (λτ R h=>J0cr s1 λT' s k e=>h T' s k e) λE2 T2 w2 Tc Dt k2 Bc s2 m2 n17 kw2=>?_;refine J6 (λw1=>stepG_block) rfl λd2=>?_;refine J6 (λw1=>stepG_loop) rfl λd3=>?_;have st2:=((st.to (.of_eq (λb _=>rfl):KE E1 w1 (w1.at d1)) λ_ h=>h).to k2 Tc).to (.of_eq (λb _=>rfl):KE E2 w2 ((w2.at d2).at d3)) λ_ h=>h;refine J07g (WI:=W) (wI:=w) (T0:=T2) (la:=lv) (n:=n3) (cap:=qK) (fs:=fs) hV Ze hWv hTv fK hE1 hG0 hG1 ((m2 16 (by decide)).trans y16) hh (λW3 E3 T3 w3 k st3=>?_) _ 0 W1 E2 T2 _ rfl (by omega) ⟨(Dt.at d2).at d3,Bc,⟨s2,(m2 3 (by decide)).trans ((same 3 (by simp)).trans h3),n17,λ_ _=>rfl⟩,⟨py,Sy,st2,ty⟩,λb hb=>⟨leW b hb,(kw2 b (leW b hb)).trans (kW b hb)⟩⟩;obtain⟨Hf,Dx,F3,⟨py,Sy,st3,ty⟩,_⟩:=st3;have s3:=F3.sz;have v4:T3[4]?=some (JK mz):=(F3.same 4 (by simp)).trans ((m2 4 (by decide)).trans ((same 4 (by simp)).trans h4));have v5:T3[5]?=some (JK key):=(F3.same 5 (by simp)).trans ((m2 5 (by decide)).trans ((same 5 (by simp)).trans h5));have v14:=(F3.same 14 (by simp)).trans ((m2 14 (by decide)).trans y14);have v15:=(F3.same 15 (by simp)).trans ((m2 15 (by decide)).trans y15);have v16:=(F3.same 16 (by simp)).trans ((m2 16 (by decide)).trans y16);clear st2 st same m2 y14 y15 y16 F3 k2 n17 kw2;obtain⟨plx,inx⟩:=st3.inX Hf hgo xK ⟨BL.1,by omega⟩ tx λf hf=>(IQ f hf).2;refine iT 22 (by omega) (Q:=λT' w1=>T'[22]?=some .nilIface/\∃τ,eF (w3.tp τ 0) x cx c hx nx vx px Sx hs Dc gs w1) (TG (n:=7) (by simp)) Hf Dx s3 (λτ R h=>J0br (Jrd (inx τ)) s3 v15 v14 λT' w' s k e r=>h T' w' s k ⟨e,τ,r⟩) λE4 T4 wb4 w4 Td KH PS QY s4 m4 ⟨n22,τ1,io1⟩ _=>?_;obtain⟨X',Sx',st4,tx'⟩:=st3.ingX Hf Td KH.hnd PS io1 tx (by grind) λf hf=>(hgo f hf).1.n;obtain⟨ply,iny⟩:=st4.inY KH hgo xK ⟨BL.2.2.1,by omega⟩ ty λf hf=>(IQ f hf).2;refine iT 23 (by omega) (Q:=λT' w1=>T'[23]?=some .nilIface/\∃τ,eF (w4.tp τ 0) y cy c hy ny vy py Sy hs Dc gs w1) (TG (n:=8) (by simp)) KH QY s4 (λτ R h=>J0bs (Jrd (iny τ)) s4 ((m4 16 (by decide)).trans v16) ((m4 14 (by decide)).trans v14) λT' w' s k e r=>h T' w' s k ⟨e,τ,r⟩) λE5 T5 wb5 w5 yQ fH PU EW s5 m5 ⟨n23,τ2,io2⟩ _=>?_;obtain⟨qM,st5,ty'⟩:=st4.ingY KH yQ fH.hnd PU io2 ty (by grind) λf hf=>(hgo f hf).1.n;clear st3 st4 io1 io2 inx iny PS PU;refine iQ 24 (by omega) (Q:=λT'=>T'[24]?=some (JK (Jr mz 8))) (TG (n:=9) (by simp)) fH EW s5 (λτ R h=>J0bt hmz s5 ((m5 4 (by decide)).trans ((m4 4 (by decide)).trans v4)) λT' s k e=>h T' s k e) λE6 T6 w6 XV SB k6 V8 s6 m6 n24 _=>?_;have st6:=st5.to k6 XV;have hpk:=Yr (c:=mz) (n:=8) (by omega);obtain⟨m,hm⟩:∃m:Nat,Jr mz 8=m:=⟨(Jr mz 8).toNat,by omega⟩;rw[hm]at n24 hpk;have Ns:m<8:=by omega
 refine iQ 25 (by omega) (Q:=λT'=>T'[25]?=some (.slice none 0 0)) (TG (n:=10) (by simp)) SB V8 s6 (λτ R h=>J0b6 s6 λT' s k e=>h T' s k e) λE7 T7 w7 le7 hB7 k7 XR s7 m7 n25 _=>?_;have st7:=st6.to k7 le7;have u5:=(m7 5 (by decide)).trans ((m6 5 (by decide)).trans ((m5 5 (by decide)).trans ((m4 5 (by decide)).trans v5)));have u15:=(m7 15 (by decide)).trans ((m6 15 (by decide)).trans ((m5 15 (by decide)).trans ((m4 15 (by decide)).trans v15)));have u16:=(m7 16 (by decide)).trans ((m6 16 (by decide)).trans ((m5 16 (by decide)).trans ((m4 16 (by decide)).trans v16)));have u22:=(m7 22 (by decide)).trans ((m6 22 (by decide)).trans ((m5 22 (by decide)).trans n22));have u23:=(m7 23 (by decide)).trans ((m6 23 (by decide)).trans n23);have u24:=(m7 24 (by decide)).trans n24;clear m4 m5 m6 m7 v4 v5 v14 v15 v16 n22 n23 n24 st5 st6;refine iT 25 (by omega) (Q:=λT' w1=>∃v F,T'[25]?=some v/\EF w1 w7.heap.size v F/\FB m F/\∀b,b<w7.heap.size->w1.heap[b]?=w7.heap[b]?) (TG (n:=11) (by simp)) hB7 XR s7 (λτ R h=>J0b9 (w:=w7.tp τ 0) Ns LD s7 u5 u24 n25 λT' w' v F s k e f1 f2 t=>h T' w' s k ⟨v,F,e,f1,f2,λb hb=>t.heap b hb λh=>h⟩) λE8 T8 wb8 w8 Qi vX hW8 kV s8 m8 ⟨v,F,Jhl,f1,hfok,kk8⟩ _=>?_;have l8:=Jt rfl hW8;have st8:=st7.to ((KE.of_eq λb hb=>kk8 b (hB7.lt hb)).trans (l8.mono Qi)) Qi;have hF8:Qq E8 w8 w7.heap.size v F:=Qq.ke ⟨f1,λg n cap e=>⟨by
  have hv:=kV.slot (i:=25) (Ym (by omega)) Jhl;rw[e]at hv;exact hv.MQ,by
  have hz:=hB7.lt hB7.hnd;rcases f1.shape with⟨e',_⟩|⟨g',_,_,e',hb,_⟩
  .grind
  .rw[e]at e';cases e';exact Nat.le_of_lt (DX hz hb)⟩⟩ l8 λ_ h=>h
 have t15:=(m8 15 (by decide)).trans u15;have t16:=(m8 16 (by decide)).trans u16;have t22:=(m8 22 (by decide)).trans u22;have t23:=(m8 23 (by decide)).trans u23;have t24:=(m8 24 (by decide)).trans u24;clear m8 u5 u15 u16 u22 u23 u24 st7 l8 kk8 hW8 f1 n25;refine J039 (m:=m) (fb0:=0) (F:=[]) (v0:=.slice none 0 0) (d:=125) (dd:=28) (ml:=3) (l:=[(122,.tmp 15),(123,.tmp 16),(124,.tmp 24)]) (ags:=#[.tmp 122,.tmp 123,.tmp 124,.const (.slice none 0 0)]) vX kV s8 st8 tx' ty' Ui hh h3f (by grind) Ns (Qq.nil _ _ _) (FB.nil _) rfl (by kernel_rfl) (by kernel_rfl) (by kernel_rfl) (by kernel_rfl) (by kernel_rfl) ⟨by omega,by omega,by omega,Ym (by omega)⟩ (by simp) (by
  simp[mvT,Act.eval,Bq,s8]
  grind) λW9 E9 T9 w9 hB9 ht9 lQ k9 s9 n28 m9=>?_
 have st9:=st8.to k9 lQ;have hF9:=hF8.ke k9 lQ;refine J039 (m:=m) (fb0:=w7.heap.size) (F:=F) (v0:=v) (d:=130) (dd:=29) (ml:=4) (l:=[(126,.tmp 15),(127,.tmp 16),(128,.tmp 24),(129,.tmp 25)]) (ags:=#[.tmp 126,.tmp 127,.tmp 128,.tmp 129]) hB9 ht9 s9 st9 tx' ty' Ui hh h3f (by grind) Ns hF9 hfok rfl (by kernel_rfl) (by kernel_rfl) (by kernel_rfl) (by kernel_rfl) (by kernel_rfl) ⟨by omega,by omega,by omega,Ym (by omega)⟩ (by simp) (by
  have a15:=(m9 15 (by omega) (by omega)).trans t15;have a16:=(m9 16 (by omega) (by omega)).trans t16;have a24:=(m9 24 (by omega) (by omega)).trans t24;have a25:=(m9 25 (by omega) (by omega)).trans Jhl;simp[mvT,Act.eval,Bq,s9]
  grind) λWE EE TE wE hBE htE leE kE zE n29 mE=>?_
 have stE:=st9.to kE leE;refine Reach.ret (b:=Go.Conc.base 6) (X0:=[.code (dX 14)]) (k:=[]) KY rfl (.cons (.code J0cq) .nil) Jew rfl qV (by simp[Go.Conc.base]) hBE htE (Q:=λt1 w1=>t1[12]?=some (.bool true)/\∀b,b<wE.heap.size->w1.heap[b]?=wE.heap[b]?) (λτ=>?_) λEP TP wP wQ todo leP hBP hWP htP ⟨t1,t2⟩=>?_
 .refine LGo.wp (J0b7 (w:=wE.tp τ 0) zE ((mE 22 (by omega) (by omega)).trans ((m9 22 (by omega) (by omega)).trans t22)) ((mE 23 (by omega) (by omega)).trans ((m9 23 (by omega) (by omega)).trans t23)) ((mE 28 (by omega) (by omega)).trans n28) n29 λT' s k' g1=>Cont.ret ⟨λi hi Nq=>?_,g1,λb hb=>rfl⟩ rfl);rcases hlX hi with h|h
  all_goals grind[iC]
 .refine Reach.here ⟨rfl,λw1 BQ=>⟨.bool true,?_,rfl,?_⟩⟩
  .rw[Jed (f:=f6) (x:=12) (by kernel_rfl) (by kernel_rfl) (by kernel_rfl)];simp[*]
  .obtain⟨dd,rfl⟩:=BQ;have kQ:KE EE wE wQ:=(KE.of_eq λb hb=>t2 b (hBE.lt hb)).trans ((Jt rfl hWP).mono leP);exact(stE.ke.trans (kQ.mono λb hb=>stE.XE b (stE.le b (stE.le0 b hb)))).trans (.of_eq λ_ _=>rfl)
end
def rf(P:Program)(fits:JH->Bool):Nat->JH->Bool
 |0,_=>false
 |d+1,e=>fits e || (match P.underlying e with
  |some (.struct fs)=>fs.any λf=>rf P fits d f.type
  |some (.array _ e')=>rf P fits d e'
  |_=>false)
theorem Jdd(P:Program)(fits:JH->Bool):∀(d:Nat)(e:JH)(c o n:Nat),rowAt P fits d e c o n=true->rf P fits d e=true
 |0,_,_,_,_,h=>by cases h
 |d+1,e,c,o,n,h=>by
  simp only[rowAt]at h;unfold rf;by_cases hs:P.cellsOf e=0
  .grind
  rw[if_neg hs]at h;rw[Bool.or_eq_true]at h ⊢;rcases h with h|h
  .grind
  .right;rw[Bh]at h;obtain⟨_,h⟩:=h;cases hu:P.underlying e with
   |none=>grind
   |some u=>
    rw[hu]at h;cases u with
    |struct fs=>
     have h':=((Bh _ _).mp h).2;show(fs.any λf=>rf P fits d f.type)=true;rw[Array.any_eq_true]at h' ⊢;obtain⟨i,hi,h'⟩:=h';exact⟨i,hi,Jdd P fits d _ _ _ _ ((Bh _ _).mp h').2⟩
    |array m e'=>exact Jdd P fits d _ _ _ _ h
    |_=>cases h
def Jkq{α:Type}{l:List α}(h:l.length=5):∃x0 x1 x2 x3 x4,l=[x0,x1,x2,x3,x4]:=by
 rcases l with _|⟨x0,_|⟨x1,_|⟨x2,_|⟨x3,_|⟨x4,_|⟨x5,l⟩⟩⟩⟩⟩⟩<;>simp at h
 grind
theorem Jxi:∃f0 f1 f2 f3 f4:Field,prog.underlying 83=some (.struct #[f0,f1,f2,f3,f4])/\(f0.offset=0/\f1.offset=1/\f2.offset=2/\f3.offset=3/\f4.offset=4)/\(f0.type=3/\f1.type=3/\f2.type=3/\f3.type=3/\f4.type=3):=by
 have h:(prog.underlying 83).map (λu=>match u with| .struct fs=>fs.toList.map (λf=>(f.offset,f.type))|_=>[])=some [(0,3),(1,3),(2,3),(3,3),(4,3)]:=by kernel_rfl
 cases hu:prog.underlying 83 with
 |none=>grind
 |some u=>
  rw[hu]at h;cases u with
  |struct fs=>
   obtain⟨l⟩:=fs;simp only[Option.map_some,Cb]at h;have hl:l.length=5:=by have:=congrArg List.length h;simpa using this
   match l,hl with
   |[f0,f1,f2,f3,f4],_=>
    simp only[D5,List.map_nil,List.cons.injEq,Prod.mk.injEq,and_true]at h
    grind
  |_=>simp at h
def Jpc:prog.underlying 27=some (.slice 83):=by kernel_rfl
theorem dU:prog.underlying 3=some (.int .i64):=by kernel_rfl
def ce53:prog.cellsOf 83=5:=by kernel_rfl
def ce3:prog.cellsOf 3=1:=by kernel_rfl
theorem J066:rf prog (sameLayout prog prog.depth · 83) prog.depth wgT=false:=by kernel_rfl
theorem rf0:rf prog (sameLayout prog prog.depth · 83) prog.depth 0=false:=by kernel_rfl
theorem J067:rf prog (sameLayout prog prog.depth · 83) prog.depth 159=false:=by kernel_rfl
def J068{w:JE}{r:_root_.Go.Reach}{b0:Nat}{a:Addr}{n:Nat}(h:w.has prog r b0 a 83 n):a.spot=none/\a.block<w.heap.size/\(∀c z,w.heap[a.block]?≠some (.cells c wgT z))/\(∀c z,w.heap[a.block]?≠some (.cells c 0 z))/\∀c z,w.heap[a.block]?≠some (.cells c 159 z):=by
 obtain⟨_,h1,row,cells,h2,h3⟩:=h;have h4:rf prog (sameLayout prog prog.depth · 83) prog.depth row=true:=by
  obtain⟨d,hd⟩:∃d,prog.depth=d+1:=by
   cases hd:prog.depth with
   |zero=>rw[hd]at h3;cases h3
   |succ d=>grind
  have h5:liesAt prog (d+1) row (cells / prog.cellsOf row) a.off 83 n=true:=by grind
  unfold liesAt at h5;rw[Bool.or_eq_true]at h5
  grind[Jdd,Jxi]
 have sh:∀c t z,w.heap[a.block]?=some (.cells c t z)->row=t:=λc t z hc=>by
  simp only[World.shape?,hc]at h2
  grind
 refine⟨h1,?_,λc z hc=>?_,λc z hc=>?_,λc z hc=>?_⟩
 .cases hb:w.heap[a.block]? with
  |none=>simp[World.shape?,hb]at h2
  |some o=>grind
 all_goals grind[J066,rf0,J067]
def Jhk(P:Program)(tape:Nat->Question->Nat)(os:Os):(begin P tape os).world.heap[P.globals.size]?=some (.cells ((Array.range P.types.size).map λt=>.int .u64 (Int.ofNat t)) 0)/\P.globals.size<(begin P tape os).world.heap.size:=by
 unfold begin
 grind
def Jpd{P:Program}{w:JE}(h:w.ShapedOpen P):w.heap[P.globals.size]?=some (.cells ((Array.range P.types.size).map λt=>.int .u64 (Int.ofNat t)) 0):=by obtain⟨h1,h2⟩:=Jhk P (λ_ _=>0) default;obtain⟨o,o0,h3,h4,h5⟩:=h.2 P.globals.size (Ad _) h2;rw[h1]at h4;rw[h3];simp only[Nat.sub_self]at h5;rw[if_neg (by decide)]at h5;rw[h5,h4]
section
variable{H:Type}{enc:JH × JJ->H}{w:JE}{a0:JI}{len cap:Nat}{d:DataW H}{ps:List MemPlace}
def Jwg(IY:∃r b0,Value.okWide prog w r b0 27 (.slice a0 len cap))(h:DataW.Trod enc prog w 0 (λ_=>true) true 27 (.slice a0 len cap) d ps) :
  ∃rs:List Gi,rs.length=len/\qC w a0 rs/\∀a,a0=some a->a.block<w.heap.size/\(∀c z,w.heap[a.block]?≠some (.cells c wgT z))/\(∀c z,w.heap[a.block]?≠some (.cells c 0 z))/\∀c z,w.heap[a.block]?≠some (.cells c 159 z):=by
 obtain⟨r,b0,IY⟩:=IY;obtain⟨fuel,hf⟩:=h;rcases Deep.open_slice Jpc hf with⟨FH,_⟩|⟨a,len',Ee,m,n,D,Pl,FH,_,hl,hm,jH,_,hx⟩
 .simp[Value.cells]at FH;obtain⟨rfl,rfl,rfl⟩:=FH;exact⟨[],rfl,⟨λi r hr=>by simp at hr,λr hr=>by cases hr⟩,λa ha=>by cases ha⟩
 .simp[Value.cells]at FH;obtain⟨rfl,rfl,rfl⟩:=FH;have hh:w.has prog r b0 a 83 cap:=by
   simp only[Value.okWide,Jpc,Cell.okWide,Cell.ok]at IY
   grind
  obtain⟨e1,e2,e3,e4,e5⟩:=J068 hh;obtain⟨b,o,sp⟩:=a;simp only at e1 e2 e3 e4 e5;subst e1;rw[if_pos rfl]at jH;have each:∀i,i<len->∃q:Gi,Jnu q/\w.cell? ⟨b,o+i*5,none⟩=some (JK q.a)/\w.cell? ⟨b,o+i*5+1,none⟩=some (JK q.b)/\w.cell? ⟨b,o+i*5+2,none⟩=some (JK q.c)/\w.cell? ⟨b,o+i*5+3,none⟩=some (JK q.fact.it)/\w.cell? ⟨b,o+i*5+4,none⟩=some (JK q.fact.v):=by
   intro i hi;obtain⟨WJ,h1,h2⟩:=hx i (by omega);rw[ce53]at h1;obtain⟨_,hlen,Aq⟩:=World.cells?_some h1;obtain⟨f0,f1,f2,f3,f4,hu,⟨o0,o1,o2,o3,o4⟩,t0,t1,t2,t3,t4⟩:=Jxi;obtain⟨xs,k,hk,hxy,_,Rj,Uj⟩:=DataW.trod_struct hu h2;have hxl5:xs.length=5:=Rj;obtain⟨y0,y1,y2,y3,y4,rfl⟩:=Jkq hxl5;obtain⟨v0,v1,v2,v3,v4,rfl⟩:=Jkq hlen;have g0:=Uj 0 f0 rfl;have g1:=Uj 1 f1 rfl;have g2:=Uj 2 f2 rfl;have g3:=Uj 3 f3 rfl;have g4:=Uj 4 f4 rfl;simp[o0,o1,o2,o3,o4,t0,t1,t2,t3,t4,ce3]at g0 g1 g2 g3 g4;obtain⟨z0,w0,_,k0⟩:=DataW.trod_int dU g0;obtain⟨z1,w1,_,k1⟩:=DataW.trod_int dU g1;obtain⟨z2,w2,_,k2⟩:=DataW.trod_int dU g2;obtain⟨z3,w3,_,k3⟩:=DataW.trod_int dU g3;obtain⟨z4,w4,_,k4⟩:=DataW.trod_int dU g4;simp only[List.cons.injEq,and_true]at w0 w1 w2 w3 w4;subst w0 w1 w2 w3 w4;have i64:∀{z:Int},(Lit.int .i64 z).wf=true->I64 z:=λh=>by simp[Lit.wf,IntKind.min,IntKind.max,IntKind.signed,IntKind.bits]at h;exact⟨by omega,by omega⟩
   have c:∀j,j<5->w.cell? ⟨b,o+i*5+j,none⟩=[JK z0,JK z1,JK z2,JK z3,JK z4][j]?:=λj hj=>by
    have:=Aq j hj;rw[Deep.add_add]at this;unfold Addr.add at this;by_cases e:i*5+j=0
    .simp_all
    grind
   exact⟨⟨z0,z1,z2,z3,z4⟩,⟨i64 k0,i64 k1,i64 k2,i64 k3,i64 k4⟩,c 0 (by omega),c 1 (by omega),c 2 (by omega),c 3 (by omega),c 4 (by omega)⟩
  haveI:Inhabited Gi:=⟨⟨0,0,0,0,0⟩⟩
  obtain⟨F,hF⟩:=Deep.choose_lt each;refine⟨(List.range len).map F,by simp,⟨λi r hr=>?_,λr hr=>?_⟩,λa ha=>?_⟩
  .rw[List.getElem?_map]at hr;have hi:i<len:=by
    grind
   rw[List.getElem?_range hi]at hr;cases hr;obtain⟨_,q0,q1,q2,q3,q4⟩:=hF i hi;exact⟨b,o,rfl,e2,q0,q1,q2,q3,q4⟩
  all_goals grind
end
end Go.Sim.Z
section
namespace Go.Sim.Z
open Go Go.Proofs Go.RowKit Go.Conc Go.Maps
def Jzs{w w':JE}(h:∀b,b<w.heap.size->w'.heap[b]?=w.heap[b]?):w.heap.size<=w'.heap.size:=by
 grind
theorem Tryz.own:ownKnob prog.godebug=none:=by kernel_rfl
def yR:prog.globals.size=1:=by kernel_rfl
def und4:prog.underlying 4=some .bool:=by kernel_rfl
structure Starts(w:JE):Prop where
 hh:w.heap[1]?=some (.cells ((Array.range prog.types.size).map λt=>.int .u64 (Int.ofNat t)) 0)
 h0:w.heap[0]?=some (.cells #[.iface 226 (.agg #[.pointer (some ⟨1,33,none⟩)])] 159 (0,0))
def Starts.g1{w:JE}(h:Starts w):∃arr t,w.heap[1]?=some (.cells arr t (0,0))/\∀x∈arr.toList,∃k n,x=.int k n:=by
 refine⟨_,_,h.hh,λx hx=>?_⟩
 grind
abbrev E1(b:Nat):Prop:=b=1\/b=0
def Jsk{w:JE}(h:Starts w):BOk C0 S0 (λb=>b<w.heap.size/\¬E1 b) E1 w:=by
 have g1:=h.g1;refine⟨WR.self rfl λb hb=>?_,?_,λg hg=>?_,λb hb he=>hb.2 he⟩
 .rcases hb with rfl|rfl
  .refine⟨_,h.hh,_,_,rfl,.VZ λv hv=>?_,λh=>(C0.lax rfl _ h).elim,λ_=>⟨rfl,λ_=>rfl⟩⟩;simp only[Array.toList_map,AZ]at hv;obtain⟨t,_,rfl⟩:=hv;exact .int _ _
  .refine⟨_,h.h0,_,_,rfl,.VZ λv hv=>?_,λh=>(C0.lax rfl _ h).elim,λ_=>⟨rfl,λ_=>rfl⟩⟩;simp only[AL,BU,or_false]at hv;subst hv;refine .iface 226 (by kernel_rfl) (.agg rfl λi x x' hx Af=>?_);rw[hx]at Af;cases Af
   match i,hx with
   |0,hx=>cases hx;exact .ptr 33 none ⟨rfl,.inl rfl⟩
   |i+1,hx=>simp at hx
 .show E1 prog.globals.size;rw[yR];grind
 .have:g=0:=by simpa[S0]using hg
  grind
def Jsl{w:JE}(h:Starts w):HOk w:=by refine⟨_,_,⟨(0,0),by rw[yR];exact h.hh,λ_=>rfl⟩,λv hv=>?_⟩;simp only[Array.toList_map,AZ]at hv;obtain⟨t,_,rfl⟩:=hv;exact⟨_,_,rfl⟩
def Tryz.rtName:(prog.cutTypes.find? (·.1 == "internal/reflectlite.rtype")).map (·.2)=some 226:=by kernel_rfl
def Tryz.oneRow:((List.range 371).filter λt=>prog.rowNamed t [101,114,114,111,114])=[33]:=by kernel_rfl
def Tryz.glob:prog.globalNamed "errors.errorType"=some 0:=by kernel_rfl
def Tryz.row0:((begin prog (λ_ _=>0) default).world.heap[0]?).bind Obj.row?=some (#[.nilIface],159):=by kernel_rfl
def Jsm {w:JE} (Cj:w.ShapedOpen prog) (hl:laidMetH prog [("errors.errorType",Go.Proofs.YtlcbehhbfglgaaaGreatDoor.Rows.laid_errors_errorType)] w):Starts w:=by
 have h':laidMet prog [] w/\handlesMet prog [("errors.errorType",Go.Proofs.YtlcbehhbfglgaaaGreatDoor.Rows.laid_errors_errorType)] w:=hl;obtain⟨name,u,ty,e1,e2,e3,e4,e5⟩:=h'.2 _ (List.mem_singleton.2 rfl);have en:name=[101,114,114,111,114]:=(Aa e1).symm;subst en;obtain rfl:=Aa (Tryz.rtName.symm.trans e2);have hm:ty∈(List.range 371).filter λt=>prog.rowNamed t [101,114,114,111,114]:=Hq.2 ⟨List.mem_range.2 (by simp_all),e4⟩;rw[Tryz.oneRow]at hm;obtain rfl:=List.mem_singleton.1 hm;have hth:typeHandle prog 33=.pointer (some ⟨1,33,none⟩):=by kernel_rfl
 rw[hth]at e5;obtain⟨cs,h0,_⟩:=Cj.1 0 _ _ (by simp_all) Tryz.row0;simp only[World.var?,Tryz.glob,Option.bind_some,h0]at e5;obtain rfl:=Aa e5;have h1:=Jpd Cj;rw[yR]at h1;exact⟨h1,h0⟩
def laidWorld(os:Os):JE:=
 let w0:=World.holding prog os ⟨#[],#[],[]⟩
 { w0 with heap:=w0.heap.modify 0 λ
   |.cells _ t frozen=>.cells #[.iface 226 (.agg #[.pointer (some ⟨1,33,none⟩)])] t frozen
   |o=>o }
def laidWorld_met (os:Os) (args:JC):laidMetH prog [("errors.errorType",Go.Proofs.YtlcbehhbfglgaaaGreatDoor.Rows.laid_errors_errorType)] ((laidWorld os).forCall (λ_ _=>0) ⟨#[],args,[]⟩).memory:=
 laidMetH_of_parts (laidMet_nil _ _) (by kernel_rfl)
end Go.Sim.Z
namespace Go.Proofs.YtlcbehhbfglgaaaGreatDoor
open Go.Sim.Z Go.ChangeShapes Go.WideShapes Go.ChangeAt Go.RowKit Go.Conc
theorem Jfl{p:Pinned}{s:OpenSpec}{c:OpenClaim}(OB:Bool × String)(lk:Bool)
  (hc:c.holds p s) (hw:c.wfByText s=true) (htie:c.laidByTextAt .later p [.handle] true)
  (Ae:c.start=.entering) (BL:c.noBlocks=false/\c.again=false) (hm:p.checked.prog.mainIs=some (OB.1,OB.2.toList)) (hn:(!OB.1 && OB.2.isEmpty && !lk)=false)
  (hl:∀f fn,p.checked.prog.funcNamed c.func=some f->p.checked.prog.funcs[f]?=some fn->lk=p.checked.prog.looks []/\∀(j:Nat) t,fn.params[j]?=some t->p.checked.prog.wantsStandIn t=false)
  (hg:true=c.goesBy p.checked.prog) :
  Claim7.holds p (.plain s) { stood:={ row:=c,standIns:=[],harness:=OB,looks:=lk },kinds:=[],alts:=[],goes:=true,laidByText:=true,laidKinds:=[.handle],laidTests:=true,laidLooks:=.later }:=by
 have h6:Claim7.isSixth { stood:={ row:=c,standIns:=[],harness:=OB,looks:=lk },kinds:=[] }=false:=by simpa[Claim7.isSixth]using hn
 exact⟨Claim7.tied_new_at .later [.handle] true (Claim7.new_of_sixth hc OB lk Ae BL hm h6 hl) hw,λD hD=>(by cases hD),htie,(λh=>by cases h),hg⟩
theorem ties:prog.laidByTextLater [("errors.errorType",Rows.laid_errors_errorType)] [.handle] true:=
 Program.laidByTextLater_by_one 16 8 2 (by kernel_rfl) (by kernel_rfl) (by kernel_rfl) (by kernel_rfl) (by kernel_rfl) (by kernel_rfl) (λ_ _=>by kernel_rfl)
end Go.Proofs.YtlcbehhbfglgaaaGreatDoor
end
section
namespace Go.Sim.Z
open Go Go.Proofs Go.RowKit Go.Conc Go.Maps
def lS:prog.underlying 24=some (.slice 3):=by kernel_rfl
def rfi:rf prog (sameLayout prog prog.depth · 3) prog.depth wgT=false/\rf prog (sameLayout prog prog.depth · 3) prog.depth 0=false/\rf prog (sameLayout prog prog.depth · 3) prog.depth 159=false:=⟨by kernel_rfl,by kernel_rfl,by kernel_rfl⟩
def has3{w:JE}{r:_root_.Go.Reach}{b0:Nat}{a:Addr}{n:Nat}(h:w.has prog r b0 a 3 n):a.spot=none/\a.block<w.heap.size/\(∀c z,w.heap[a.block]?≠some (.cells c wgT z))/\(∀c z,w.heap[a.block]?≠some (.cells c 0 z))/\∀c z,w.heap[a.block]?≠some (.cells c 159 z):=by
 obtain⟨_,h1,row,cells,h2,h3⟩:=h;have h4:rf prog (sameLayout prog prog.depth · 3) prog.depth row=true:=by
  obtain⟨d,hd⟩:∃d,prog.depth=d+1:=by
   cases hd:prog.depth with
   |zero=>rw[hd]at h3;cases h3
   |succ d=>grind
  have h5:liesAt prog (d+1) row (cells / prog.cellsOf row) a.off 3 n=true:=by grind
  unfold liesAt at h5;rw[Bool.or_eq_true]at h5
  grind[Jdd,dU]
 obtain⟨r0,r1,r2⟩:=rfi;have sh:∀c t z,w.heap[a.block]?=some (.cells c t z)->row=t:=λc t z hc=>by
  simp only[World.shape?,hc]at h2
  grind
 refine⟨h1,?_,λc z hc=>?_,λc z hc=>?_,λc z hc=>?_⟩
 .cases hb:w.heap[a.block]? with
  |none=>simp[World.shape?,hb]at h2
  |some o=>grind
 all_goals grind
section
variable{H:Type}{enc:JH × JJ->H}{w:JE}{a0:JI}{len cap:Nat}{d:DataW H}{ps:List MemPlace}
def open_ints(IY:∃r b0,Value.okWide prog w r b0 24 (.slice a0 len cap))(h:DataW.Trod enc prog w 0 (λ_=>true) true 24 (.slice a0 len cap) d ps) :
  ∃xs:JD,xs.length=len/\jK w a0 xs/\∀a,a0=some a->a.block<w.heap.size/\(∀c z,w.heap[a.block]?≠some (.cells c wgT z))/\(∀c z,w.heap[a.block]?≠some (.cells c 0 z))/\∀c z,w.heap[a.block]?≠some (.cells c 159 z):=by
 obtain⟨r,b0,IY⟩:=IY;obtain⟨fuel,hf⟩:=h;rcases Deep.open_slice lS hf with⟨FH,_⟩|⟨a,len',Ee,m,n,D,Pl,FH,_,hl,hm,jH,_,hx⟩
 .simp[Value.cells]at FH;obtain⟨rfl,rfl,rfl⟩:=FH;exact⟨[],rfl,λi r hr=>by simp at hr,λa ha=>by cases ha⟩
 .simp[Value.cells]at FH;obtain⟨rfl,rfl,rfl⟩:=FH;have hh:w.has prog r b0 a 3 cap:=by
   simp only[Value.okWide,lS,Cell.okWide,Cell.ok]at IY
   grind
  obtain⟨e1,e2,e3,e4,e5⟩:=has3 hh;obtain⟨b,o,sp⟩:=a;simp only at e1 e2 e3 e4 e5;subst e1;rw[if_pos rfl]at jH;have each:∀i,i<len->∃q:Int,I64 q/\w.cell? ⟨b,o+i,none⟩=some (JK q):=by
   intro i hi;obtain⟨WJ,h1,h2⟩:=hx i (by omega);rw[ce3]at h1;obtain⟨_,hlen,Aq⟩:=World.cells?_some h1;obtain⟨z,w0,_,k0⟩:=DataW.trod_int dU h2;subst w0;have:=Aq 0 (by omega);rw[Deep.add_add]at this;have e:i*1+0=i:=by omega
   rw[e]at this;refine⟨z,?_,?_⟩
   .simp[Lit.wf,IntKind.min,IntKind.max,IntKind.signed,IntKind.bits]at k0;exact⟨by omega,by omega⟩
   .have ea:(⟨b,o,none⟩:Addr).add i=⟨b,o+i,none⟩:=by cases i<;>simp[Addr.add]
    grind
  obtain⟨F,hF⟩:=Deep.choose_lt each;refine⟨(List.range len).map F,by simp,λi r hr=>?_,λa ha=>?_⟩
  all_goals grind
end
def J060{w:JE}{c mz key:Int}{la lb lv:JI}{rs qI:List Gi}{xs:JD}{n lc n2 mG n3 qK:Nat}(hS:Starts w)(hc:I64 c)(hm:I64 mz)(hk:I64 key)(hR:qC w la rs)(hn:rs.length=n)(zG:qC w lb qI)(Ij:qI.length=n2)(hV:jK w lv xs)(Ze:xs.length=n3)
  (hA3:∀a,lv=some a->a.block<w.heap.size/\(∀c z,w.heap[a.block]?≠some (.cells c wgT z))/\(∀c z,w.heap[a.block]?≠some (.cells c 0 z))/\∀c z,w.heap[a.block]?≠some (.cells c 159 z))
  (qB:∀a,lb=some a->a.block<w.heap.size/\(∀c z,w.heap[a.block]?≠some (.cells c wgT z))/\(∀c z,w.heap[a.block]?≠some (.cells c 0 z))/\∀c z,w.heap[a.block]?≠some (.cells c 159 z))
  (hA:∀a,la=some a->a.block<w.heap.size/\(∀c z,w.heap[a.block]?≠some (.cells c wgT z))/\(∀c z,w.heap[a.block]?≠some (.cells c 0 z))/\∀c z,w.heap[a.block]?≠some (.cells c 159 z)) :
  ∃M last o w' t',runNT prog (M+1) (solo (G (Frame.enter prog 6 #[JK c,.slice la n lc,.slice lb n2 mG,.slice lv n3 qK,JK mz,JK key] .normal) []) w) #[]=(.ended o w',t')/\runN prog M (solo (G (Frame.enter prog 6 #[JK c,.slice la n lc,.slice lb n2 mG,.slice lv n3 qK,JK mz,JK key] .normal) []) w)=.next last /\
   step prog last=.ended o w'/\Go.Conc.Good prog (λv w'=>v=.bool true/\(∀b,b<w.heap.size->w'.heap[b]?=w.heap[b]?)/\w'.os=w.os/\w'.output=w.output) last o w' t':=by
 have hW:∀b,(b<w.heap.size/\¬E1 b)->b<w.heap.size:=λb h=>h.1;rw[enter_at _ (show prog.funcs[6]?=some f6 by kernel_rfl) J0cp];have LH:f6.ntmps=143:=by kernel_rfl
 rw[LH,show(143-(#[JK c,.slice la n lc,.slice lb n2 mG,.slice lv n3 qK,JK mz,JK key]:JC).size)=137 from rfl];obtain⟨T0,Lr⟩:∃T0,T0=#[JK c,.slice la n lc,.slice lb n2 mG,.slice lv n3 qK,JK mz,JK key]++Array.replicate 137 JA:=⟨_,rfl⟩;rw[<- Lr];have sz:T0.size=143:=by rw[Lr];simp
 have s0:T0[0]?=some (JK c):=by rw[Lr];simp
 have s1:T0[1]?=some (.slice la n lc):=by rw[Lr];simp
 have s2:T0[2]?=some (.slice lb n2 mG):=by rw[Lr];simp
 have s3:T0[3]?=some (.slice lv n3 qK):=by rw[Lr];simp
 have s4:T0[4]?=some (JK mz):=by rw[Lr];simp
 have s5:T0[5]?=some (JK key):=by rw[Lr];simp
 have sn:∀j x,6<=j->T0[j]?=some x->x=JA:=λj x h1 hx=>by
  rw[Lr,Array.getElem?_append_right (by omega),Array.getElem?_replicate]at hx;split at hx
  all_goals grind
 clear Lr;have ht:TmR C0 S0 6 (idE E1) T0 T0:=by
  refine⟨rfl,λj x x' hj h1 h2=>?_,λj x hj _=>by cases hj⟩;rw[h1]at h2;cases h2
  match j with
  |0=>rw[s0]at h1;cases h1;exact .int _ _
  |1=>cases hj
  |2=>cases hj
  |3=>cases hj
  |4=>rw[s4]at h1;cases h1;exact .int _ _
  |5=>rw[s5]at h1;cases h1;exact .int _ _
  |j+6=>rw[sn _ x (by omega) h1];exact .undef
 have inW:∀{l:JI},(∀a,l=some a->a.block<w.heap.size/\(∀c z,w.heap[a.block]?≠some (.cells c wgT z))/\(∀c z,w.heap[a.block]?≠some (.cells c 0 z))/\∀c z,w.heap[a.block]?≠some (.cells c 159 z))->∀a,l=some a->a.block<w.heap.size/\¬E1 a.block:=λhA a ha=>⟨(hA a ha).1,λe=>by
  rcases e with e|e
  .exact(hA a ha).2.2.1 _ _ (by rw[e];exact hS.hh)
  .exact(hA a ha).2.2.2 _ _ (by rw[e];exact hS.h0)⟩
 obtain⟨M,last,o,w',t',h1,h2,h3,h4⟩:=Jhj hW (J05u (Jsk hS) (Jsl hS) ⟨_,hS.h0⟩ hS.g1 hc hm hk hR hn (inW hA) (λa ha=>(hA a ha).2.1) zG Ij (inW qB) (λa ha=>(qB a ha).2.1) hV Ze (inW hA3) (λa ha=>(hA3 a ha).2.1) sz s0 s1 s2 s3 s4 s5 ht);refine⟨M,last,o,w',t',h1,h2,h3,?_⟩;obtain⟨v,a1,⟨⟨a2,a3⟩,a4,a5,a6⟩,a7⟩:=h4;refine⟨v,a1,⟨a2,λb hb=>?_,a5,a6⟩,a7⟩;by_cases e:E1 b
 .rcases e with rfl|rfl
  .rw[hS.hh];exact a3 _ _ (.inl rfl) hS.hh trivial
  .rw[hS.h0];exact a3 _ _ (.inr rfl) hS.h0 trivial
 grind
end Go.Sim.Z
namespace Go.Proofs.YtlcbehhbfglgaaaGreatDoor
open Go.Sim.Z Go.ChangeShapes Go.WideShapes Go.ChangeAt Go.RowKit Go.Conc
theorem J03r(os:Os)(started:os.Started)(H:Type)(enc:JH × JJ->H) :
  ReturnsInLeavingWide {} checked os 6 .any (λw args=>(Rows.viewlessSpec.pre enc prog f6 [] false w args/\laidMetH prog [("errors.errorType",Rows.laid_errors_errorType)] w)/\sizedMet enc prog f6 (OpenSpec.ofChange Rows.viewlessSpec) false w args) (Rows.viewlessSpec.post enc prog f6 false true false false):=by
 refine returnsInLeavingWide_of_good (C:=checked) Go.Sim.Z.Tryz.own started
  (ChangeSpec.witness_at (enc:=enc) (C:=checked) (os:=os) (X:=λw _=>laidMetH prog [("errors.errorType",Rows.laid_errors_errorType)] w) false (laidWorld os) #[JK 0,.slice none 0 0,.slice none 0 0,.slice none 0 0,JK 0,JK 0] 8 rfl (by kernel_rfl) (by kernel_rfl) (by kernel_rfl) (by kernel_rfl) (by kernel_rfl) (laidWorld_met os _)) ?_
 intro w tape i _ Cj _ hok QU _;obtain⟨_,_,_,PL,hfn',_,_,_,_,IY⟩:=hok;have hf4:checked.prog.funcs[6]?=some f6:=by kernel_rfl
 obtain rfl:PL=f6:=Aa (hfn'.symm.trans hf4);obtain⟨⟨⟨ds,gs,before,hw,hc⟩,iY⟩,hz⟩:=QU;have Rf:=DataW.Whole.of_heap (w':=w.forCall tape i) (by rfl) hw;have N8:=DataW.Whole.of_heap (w':=(w.forCall tape i).blind) (by rfl) hw;have J03w:laidMetH prog [("errors.errorType",Rows.laid_errors_errorType)] (w.forCall tape i):=laidMetH.of_heap (w:=(w.forCall tape i).memory) (by rfl) iY;obtain⟨wf,args,vars⟩:Input:=i;generalize hW:w.forCall tape ⟨wf,args,vars⟩=W at *;simp only at Rf N8 IY ⊢;have Ac:=Rf.lt;obtain⟨p,q,hA0,hV,rfl,_,_⟩:=Rf;have Zg:f6.params.toList=[3,27,27,24,3,3]:=by kernel_rfl
 have hA:DataW.TrodAll enc prog W 0 (λ_=>true) true f6.params.toList args.toList ds p:=hA0;rw[Zg]at hA;obtain⟨v0,_,d0,_,p0,_,hg,rfl,rfl,t0,r0⟩:=trodAll_cons hA;obtain⟨v1,_,d1,_,p1,_,rfl,rfl,rfl,t1,r1⟩:=trodAll_cons r0;obtain⟨v2,_,d2,_,p2,_,rfl,rfl,rfl,t2,r2⟩:=trodAll_cons r1;obtain⟨v3,_,d3,_,p3,_,rfl,rfl,rfl,t3,r3⟩:=trodAll_cons r2;obtain⟨v4,_,d4,_,p4,_,rfl,rfl,rfl,t4,r4⟩:=trodAll_cons r3;obtain⟨v5,_,d5,_,p5,_,rfl,rfl,rfl,t5,r5⟩:=trodAll_cons r4;obtain⟨rfl,rfl,rfl⟩:=trodAll_nil r5;obtain rfl:args=#[v0,v1,v2,v3,v4,v5]:=by grind
 obtain⟨rfl,rfl⟩:=trodVars_none hV;have MK:Value.okWide prog W .any w.heap.size 3 v0:=IY 0 3 v0 (by kernel_rfl) rfl;have XT:Value.okWide prog W .any w.heap.size 27 v1:=IY 1 27 v1 (by kernel_rfl) rfl;have Iw:Value.okWide prog W .any w.heap.size 27 v2:=IY 2 27 v2 (by kernel_rfl) rfl;have wC:Value.okWide prog W .any w.heap.size 24 v3:=IY 3 24 v3 (by kernel_rfl) rfl;have yF:Value.okWide prog W .any w.heap.size 3 v4:=IY 4 3 v4 (by kernel_rfl) rfl;have hv5:Value.okWide prog W .any w.heap.size 3 v5:=IY 5 3 v5 (by kernel_rfl) rfl;obtain⟨c,rfl,rfl,rfl,hcw⟩:=open_int dU MK t0;obtain⟨m,rfl,rfl,rfl,xW⟩:=open_int dU yF t4;obtain⟨key,rfl,rfl,rfl,iV⟩:=open_int dU hv5 t5;obtain⟨la,n,lc,rfl⟩:=okWide_slice Jpc XT;obtain⟨lb,n2,mG,rfl⟩:=okWide_slice Jpc Iw;obtain⟨lv,n3,qK,rfl⟩:=okWide_slice lS wC;obtain⟨rs,hn,hR,fD⟩:=Jwg ⟨_,_,XT⟩ t1;obtain⟨qI,Ij,zG,qB⟩:=Jwg ⟨_,_,Iw⟩ t2;obtain⟨xs,Ze,hV,hA3⟩:=open_ints ⟨_,_,wC⟩ t3;have Un:∀{x:Int},(Lit.int .i64 x).wf=true->I64 x:=λh=>by simp[Lit.wf,IntKind.min,IntKind.max,IntKind.signed,IntKind.bits]at h;exact⟨by omega,by omega⟩
 obtain⟨M,last,o,w',t',h1,h2,h3,v,a1,⟨rfl,a3,a4,a5⟩,a6⟩:=J060 (Jsm Cj J03w) (Un hcw) (Un xW) (Un iV) hR hn zG Ij hV Ze hA3 qB fD;refine⟨M,last,o,w',t',h1,h2,h3,_,a1,?_,a6⟩;have hb:Below W.blind.heap.size W.blind w'.blind:=⟨a4,rfl,a5,Jzs a3,a3⟩;have XG:∀x∈p1,x.block<W.blind.heap.size:=λx hx=>Ac x (by simp[hx]);have lZ:∀x∈p2,x.block<W.blind.heap.size:=λx hx=>Ac x (by simp[hx]);have hp3:∀x∈p3,x.block<W.blind.heap.size:=λx hx=>Ac x (by simp[hx]);refine⟨[.lit (.int .i64 c),d1,d2,d3,.lit (.int .i64 m),.lit (.int .i64 key)],[],_,[],[]++(p1++(p2++(p3++([]++[])))),[],N8,?_,?_,rfl,hb.frame _,λh=>by cases h⟩
 .have hrt:f6.resultTypes.toList=[4]:=by kernel_rfl
  have hrs:f6.resultTypes.size=1:=by kernel_rfl
  show DataW.TrodAll enc prog w'.blind W.blind.heap.size (λ_=>false) false f6.resultTypes.toList (Value.resultList f6.resultTypes.size (.bool true)) [.lit (.bool true)] [];rw[hrt,hrs];exact trodAll_mk1 (shut_bool und4 true)
 .show DataW.TrodAll enc prog w'.blind 0 (λb=>decide (b<W.blind.heap.size)) true f6.params.toList [.int .i64 c,.slice la n lc,.slice lb n2 mG,.slice lv n3 qK,.int .i64 m,.int .i64 key] [.lit (.int .i64 c),d1,d2,d3,.lit (.int .i64 m),.lit (.int .i64 key)] ([]++(p1++(p2++(p3++([]++[])))));rw[Zg];have tr:∀{v:JJ}{d:DataW H}{p:List MemPlace},DataW.Trod enc prog W 0 (λ_=>true) true 27 v d p->(∀x∈p,x.block<W.blind.heap.size)->DataW.Trod enc prog w'.blind 0 (λb=>decide (b<W.blind.heap.size)) true 27 v d p:=λt hp=>Below.trod Jie (by kernel_rfl) (of_decide_eq_true (by kernel_rfl)) (W:=W.blind) (DataW.Trod.of_heap (w:=W) (w':=W.blind) rfl t) hb hp;have tr3:DataW.Trod enc prog w'.blind 0 (λb=>decide (b<W.blind.heap.size)) true 24 (.slice lv n3 qK) d3 p3:=Below.trod Jie (by kernel_rfl) (of_decide_eq_true (by kernel_rfl)) (W:=W.blind) (DataW.Trod.of_heap (w:=W) (w':=W.blind) rfl t3) hb hp3;exact⟨_,_,shut_int dU hcw,⟨_,_,tr t1 XG,trodAll_mk4 (tr t2 lZ) tr3 (shut_int dU xW) (shut_int dU iV),rfl⟩,rfl⟩
theorem J06u:Rows.viewlessRow.holds Tryz.pinned (OpenSpec.ofChange Rows.viewlessSpec):=
 OpenClaim.holds_of_wide_leaving 6 f6 rfl rfl rfl rfl rfl rfl rfl ⟨rfl,rfl,rfl,rfl,rfl⟩ rfl rfl rfl rfl rfl (by kernel_rfl) (by kernel_rfl) (by kernel_rfl)
  (of_decide_eq_true (by kernel_rfl)) (by unfold Func.isWrapper;first|(rw[if_pos (by decide +kernel)];kernel_rfl)|(rw[if_neg (by decide +kernel)];exact⟨rfl,rfl⟩))
  (λos started H enc _=>J03r os started H enc)
theorem viewless_holds:Rows.ViewlessCardSaid:=
 Jfl (true,"5f9b553737c49c39154d28e759f7273cb416c972bbacf44aba8fd4c471e003d3") true J06u (by kernel_rfl) (OpenClaim.laidByTextAt_later rfl rfl ties (by kernel_rfl)) rfl ⟨rfl,rfl⟩ (by kernel_rfl) rfl
  (λf fn hf Oc=>by
   obtain rfl:f=6:=Aa ((show prog.funcNamed "rollups/rollupskeep.Viewless"=some 6 by kernel_rfl).symm.trans hf) |>.symm;obtain rfl:fn=f6:=(Aa ((show prog.funcs[6]?=some f6 by kernel_rfl).symm.trans Oc)).symm;exact⟨by kernel_rfl,λj t ht=>by
    have Zg:f6.params=#[3,27,27,24,3,3]:=by kernel_rfl
    rw[Zg]at ht;have h3:t=3\/t=27\/t=24:=by
     grind
    rcases h3 with rfl|rfl|rfl
    .exact(show prog.wantsStandIn 3=false by kernel_rfl)
    .exact(show prog.wantsStandIn 27=false by kernel_rfl)
    .exact(show prog.wantsStandIn 24=false by kernel_rfl)⟩)
  (by kernel_rfl)
end Go.Proofs.YtlcbehhbfglgaaaGreatDoor
end
end
