/- Proved: laws for the claim. No conditions. -/
import Derived.Test.YtlcbehhbfglgaaaGreatDoorC23
import Derived.Test.YtlcbehhbfglgaaaGreatDoorC24
set_option linter.all false
set_option maxHeartbeats 4000000
set_option maxRecDepth 100000
open Go.Proofs.Tryz
noncomputable section
namespace Go.Sim.Z
open Go Go.Proofs Go.RowKit Go.Conc Go.Maps
def mvP(o:Oper):Option (Nat × Operand):=match o.guard,o.dst,o.op with
 |none,some d,.move x=>some (d,x)
 |none,some d,.assign x=>some (d,x)
 |_,_,_=>none
def aG(o:Oper):Option (Nat × JG × Array Operand):=match o.guard,o.dst,o.op with
 |none,some d,.call { callee:=.value (.func f),args:=a,.. }=>some (d,f,a)
 |_,_,_=>none
def mvT(T:JC)(l:List (Nat × Operand)):JC:=l.foldl (λT p=>T.setIfInBounds p.1 (Act.eval ⟨T,[]⟩ p.2)) T
def Xk(fn:JG)(p:Nat × Operand):Bool:=(C0.hl fn).contains p.1 || match p.2 with
 |.tmp s=>!(C0.hl fn).contains s
 |.const (.int _ _) | .const .nilIface | .const (.slice none _ _) | .const (.bool _)=>true
 |_=>false
section
variable{fn:JG}{W E0 E:JB}{w0 w:JE}{T:JC}{ops:Array Oper}{i:Nat}{rest:List Nat}{o:Oper}{d:Nat}{x:Operand}{v:JJ}{k:List Item}{cs:List Frame}{Post:(JB)->JF->JE->Prop}
theorem J0e7(h:mvP o=some (d,x)):o.guard=none/\o.dst=some d/\(o.op=.move x\/o.op=.assign x):=by
 unfold mvP at h
 grind
theorem vI{f:JG}{a:Array Operand}(h:aG o=some (d,f,a)):o.guard=none/\o.dst=some d/\∃t,o.op=.call { callee:=.value (.func f),args:=a,argTypes:=t }:=by
 unfold aG at h
 grind
theorem J0f5(h:HS fn W E0 w0 E T w)(hk:Xk fn (d,x)=true):(C0.hl fn).contains d=true\/VR C0 (idE E) (Act.eval ⟨T,[]⟩ x) (Act.eval ⟨T,[]⟩ x):=by
 unfold Xk at hk;rw[Bool.or_eq_true]at hk;rcases hk with hk|hk
 .exact .inl hk
 right;split at hk
 .next s e=>
  obtain rfl:x=_:=e;simp only[Act.eval,Bq];cases hs:T[s]? with
  |none=>exact .undef
  |some v=>exact h.tm.slot (by simpa using hk) hs
 .next e=>obtain rfl:x=_:=e;exact .int _ _
 .next e=>obtain rfl:x=_:=e;exact .nilIface
 .next e=>obtain rfl:x=_:=e;exact .Jk _ _
 .next e=>obtain rfl:x=_:=e;exact .bool _
 .cases hk
theorem Y5:∀{l:List (Nat × Operand)}{T:JC}{w:JE}{i:Nat},HS fn W E0 w0 E T w->((List.range' i l.length).map λj=>(ops[j]?).bind mvP)=l.map some->l.all (Xk fn)=true ->
  (∀w',HS fn W E0 w0 E (mvT T l) w'->w'.heap=w.heap->Reach prog Post W (G ((base fn).at ⟨mvT T l,[]⟩ (.inRegion ops rest::k)) cs) w') ->
  Reach prog Post W (G ((base fn).at ⟨T,[]⟩ (.inRegion ops (List.range' i l.length++rest)::k)) cs) w
 |[],T,w,i,h,_,_,kn=>kn w h rfl
 |(d,x)::l,T,w,i,h,hm,hk,kn=>by
  simp only[Lh,List.range'_succ,D5,List.cons.injEq]at hm;rw[List.all_cons,Bh]at hk;obtain⟨o,ho,hp⟩:=Gl.1 hm.1;obtain⟨h1,h2,h3⟩:=J0e7 hp;simp only[Lh,List.range'_succ,G9];refine Jb (v:=Act.eval ⟨T,[]⟩ x) h ho (by simp[Region.wanted,h1]) h2 (λw1=>?_) (λw1=>?_) (J0f5 h hk.1) λw' H e=>Y5 H hm.2 hk.2 λw2 H2 e2=>kn w2 H2 (e2.trans e)
  .rcases h3 with e|e<;>simp[execOp,e]
  .rcases h3 with e|e<;>simp[execOp,e]
theorem qQ:∀{l:List (Nat × Operand)}{T:JC},(mvT T l).size=T.size
 |[],_=>rfl
 |(d,x)::l,T=>by show(mvT (T.setIfInBounds d _) l).size=_;rw[qQ,Array.size_setIfInBounds]
theorem uP:∀{l:List (Nat × Operand)}{T:JC}{i:Nat},i∉l.map (·.1)->(mvT T l)[i]?=T[i]?
 |[],_,_,_=>rfl
 |(d,x)::l,T,i,h=>by simp only[D5,AL,not_or]at h;show(mvT (T.setIfInBounds d _) l)[i]?=_;rw[uP h.2,AV (Ne.symm h.1)]
theorem jS{id m:Nat}{l:List (Nat × Operand)}{f:JG}{ags:Array Operand}{g:Func}{cb c:Code}(h:HS fn W E0 w0 E T w)(hl:l.length=m)
  (hm:((List.range' 0 m).map λj=>(ops[j]?).bind mvP)=l.map some) (hk:l.all (Xk fn)=true) (hc:(ops[m]?).bind aG=some (d,f,ags)) (hr:(List.range ops.size)=List.range' 0 m++m::rest)
  (hf:prog.funcs[f]?=some g) (hn:(g.name == "runtime.NumGoroutine")=false) (hb:g.body=some cb)
  (kn:∀w',HS fn W E0 w0 E (mvT T l) w'->w'.heap=w.heap->(mvT T l).size=T.size->(∀i,i∉l.map (·.1)->(mvT T l)[i]?=T[i]?) ->
   Reach prog Post W (G ((base f).at { tmps:=ags.map (Act.eval ⟨mvT T l,[]⟩)++Array.replicate (g.ntmps-(ags.map (Act.eval ⟨mvT T l,[]⟩)).size) JA,defers:=[] } [.code cb]) ((base fn).at ⟨mvT T l,[]⟩ (.inRegion ops (m::rest)::.code c::k)::cs)) w') :
  Reach prog Post W (G ((base fn).at ⟨T,[]⟩ (.code (.seq (.region id ops false) c)::k)) cs) w:=by
 refine J6 (λw1=>stepG_seq) rfl λd1=>?_;refine J6 (λw1=>stepG_region) rfl λd2=>?_;rw[hr];subst hl;obtain⟨o,ho,hp⟩:=Gl.1 hc;obtain⟨h1,h2,t,h3⟩:=vI hp;refine Y5 ((h.at d1).at d2) hm hk λw' H e=>?_;exact Reach.call ho (by simp[Region.wanted,h1]) (by simp[base]) h3 hf hn hb λd3=>kn _ (H.at d3) e qQ λi hi=>uP hi
theorem J0ah{m:Nat}{l2:List (Nat × Operand)}{c:Code}(h:HS fn W E0 w0 E T w)(hv:(C0.hl fn).contains d=true\/VR C0 (idE E) v v)
  (hm:((List.range' m l2.length).map λj=>(ops[j]?).bind mvP)=l2.map some) (hk:l2.all (Xk fn)=true)
  (kn:∀w',HS fn W E0 w0 E (mvT (T.setIfInBounds d v) l2) w'->w'.heap=w.heap->Reach prog Post W (G ((base fn).at ⟨mvT (T.setIfInBounds d v) l2,[]⟩ (.code c::k)) cs) w') :
  Reach prog Post W (G ((base fn).at ⟨T.setIfInBounds d v,[]⟩ (.inRegion ops (List.range' m l2.length)::.code c::k)) cs) w:=by
 rw[<- List.append_nil (List.range' m l2.length)];exact Y5 (h.put (h.set hv)) hm hk λw' H e=>J6 (λw1=>stepG_region_end) rfl λd=>kn _ (H.at d) e
end
def exP(o:Oper):Option (Nat × Nat × Nat):=match o.guard,o.dst,o.op with
 |none,some d,.extract (.tmp s) i=>some (d,s,i)
 |_,_,_=>none
theorem J096{o:Oper}{d s i:Nat}(h:exP o=some (d,s,i)):o.guard=none/\o.dst=some d/\o.op=.extract (.tmp s) i:=by unfold exP at h;split at h<;>simp_all
section
variable{fn:JG}{W E0 E:JB}{w0 w:JE}{T:JC}{ops:Array Oper}{i sR sT sA sB sX sY:Nat}{v u:JJ}{c:Code}{k:List Item}{cs:List Frame}{Post:(JB)->JF->JE->Prop}
theorem J0b0(h:HS fn W E0 w0 E T w)(hT:T[sR]?=some (.tuple #[v,u]))(hv:VR C0 (idE E) v v)(hu:VR C0 (idE E) u u)(hd:sT<T.size/\sA<T.size/\sB<T.size/\sX<T.size/\sY<T.size)(hn:sA≠sT/\sB≠sA/\sX≠sB/\sY≠sX)(hh:(C0.hl fn).contains sR=false/\(C0.hl fn).contains sA=false/\(C0.hl fn).contains sB=false)
  (hp:((ops[i]?).bind mvP,(ops[i+1]?).bind exP,(ops[i+2]?).bind exP,(ops[i+3]?).bind mvP,(ops[i+4]?).bind mvP)=(some (sT,.tmp sR),some (sA,sT,0),some (sB,sT,1),some (sX,.tmp sA),some (sY,.tmp sB)))
  (kn:∀T' w',HS fn W E0 w0 E T' w'->T'.size=T.size->T'[sX]?=some v->T'[sY]?=some u->(∀j,j≠sT->j≠sA->j≠sB->j≠sX->j≠sY->T'[j]?=T[j]?)->w'.heap=w.heap->Reach prog Post W (G ((base fn).at ⟨T',[]⟩ (.code c::k)) cs) w') :
  Reach prog Post W (G ((base fn).at ⟨T,[]⟩ (.inRegion ops [i,i+1,i+2,i+3,i+4]::.code c::k)) cs) w:=by
 simp only[Prod.mk.injEq]at hp;obtain⟨p0,p1,p2,p3,p4⟩:=hp;obtain⟨o1,h1,q1⟩:=Gl.1 p1;obtain⟨g1,d1,a1⟩:=J096 q1;obtain⟨o2,h2,q2⟩:=Gl.1 p2;obtain⟨g2,d2,a2⟩:=J096 q2;obtain⟨n1,n2,n3,n4⟩:=hn;obtain⟨z1,z2,z3,z4,z5⟩:=hd;have t1:(T.setIfInBounds sT (.tuple #[v,u]))[sT]?=some (.tuple #[v,u]):=FC z1;have t2:((T.setIfInBounds sT (.tuple #[v,u])).setIfInBounds sA v)[sT]?=some (.tuple #[v,u]):=(AV n1).trans t1;have t3:(((T.setIfInBounds sT (.tuple #[v,u])).setIfInBounds sA v).setIfInBounds sB u)[sA]?=some v:=(AV n2).trans (FC (by simpa using z2));have t4:((((T.setIfInBounds sT (.tuple #[v,u])).setIfInBounds sA v).setIfInBounds sB u).setIfInBounds sX v)[sB]?=some u:=(AV n3).trans (FC (by simpa using z3));refine Y5 (l:=[(sT,.tmp sR)]) (rest:=[i+1,i+2,i+3,i+4]) h (by simp[p0]) (by simp only[List.all_cons,List.all_nil,Xk,hh.1,Bool.not_false,Bool.or_true,Bool.and_true]) λw1 H1 e1=>?_;have x1:mvT T [(sT,.tmp sR)]=T.setIfInBounds sT (.tuple #[v,u]):=by simp[mvT,Act.eval,Bq,hT]
 rw[x1]at H1 ⊢;refine Jb (v:=v) H1 h1 (by simp[Region.wanted,g1]) d1 (λw1=>by simp[execOp,a1,Act.eval,Bq,t1,go_sem]) (λw1=>by simp[execOp,a1,Act.eval,Bq,z1,go_sem]) (.inr hv) λw2 H2 e2=>?_;refine Jb (v:=u) H2 h2 (by simp[Region.wanted,g2]) d2 (λw1=>by simp[execOp,a2,Act.eval,Bq,t2,go_sem]) (λw1=>by simp[execOp,a2,Act.eval,Bq,t2,go_sem]) (.inr hu) λw3 H3 e3=>?_;refine Y5 (l:=[(sX,.tmp sA),(sY,.tmp sB)]) (rest:=[]) H3 (by simp[List.range'_succ,p3,p4]) (by simp only[List.all_cons,List.all_nil,Xk,hh.2.1,hh.2.2,Bool.not_false,Bool.or_true,Bool.and_true]) λw4 H4 e4=>J6 (λw1=>stepG_region_end) rfl λd=>?_;have x2:mvT (((T.setIfInBounds sT (.tuple #[v,u])).setIfInBounds sA v).setIfInBounds sB u) [(sX,.tmp sA),(sY,.tmp sB)]=((((T.setIfInBounds sT (.tuple #[v,u])).setIfInBounds sA v).setIfInBounds sB u).setIfInBounds sX v).setIfInBounds sY u:=by simp only[mvT,List.foldl_cons,List.foldl_nil,Act.eval,Bq,t3,A8,t4]
 rw[x2]at H4 ⊢;refine kn _ _ (H4.at d) (by simp) ((AV n4).trans (FC (by simpa using z4))) (FC (by simpa using z5)) (λj m1 m2 m3 m4 m5=>?_) (by show w4.heap=_;rw[e4,e3,e2,e1]);rw[AV (Ne.symm m5),AV (Ne.symm m4),AV (Ne.symm m3),AV (Ne.symm m2),AV (Ne.symm m1)]
end
theorem J0f7{A:JC}{a b c d:JJ}(h:A=#[a,b,c,d]):A++Array.replicate (f17.ntmps-A.size) JA=#[a,b,c,d,JA,JA,JA,JA,JA,JA,JA,JA,JA,JA,JA,JA,JA,JA,JA,JA,JA,JA,JA,JA,JA,JA,JA,JA,JA,JA,JA,JA,JA]:=by
 simp_all
section
variable{fn:JG}{W E:JB}{w:JE}{T:JC}{ops:Array Oper}{id m0 d sT sA sB sX sY x m:Nat}{most M:Int}{c:J7}{seed nf:Int}{h:JJ}{vm fb0:Nat}{vs:Nat->Option Nat}{S:Nat->List TR}{v0:JJ}{F:List LW}{R:List TR->Prop}{cd:Code}{k:List Item}{cs:List Frame}{Post:(JB)->JF->JE->Prop}{l:List (Nat × Operand)}{ags:Array Operand}
theorem J7e(H:HS fn W E w E T w)(hl:l.length=m0)(hm:((List.range' 0 m0).map λj=>(ops[j]?).bind mvP)=l.map some)(hk:l.all (Xk fn)=true)(hc:(ops[m0]?).bind aG=some (d,17,ags))(hr:List.range ops.size=List.range' 0 m0++m0::[m0+1,m0+1+1,m0+1+2,m0+1+3,m0+1+4])
  (hp:((ops[m0+1]?).bind mvP,(ops[m0+1+1]?).bind exP,(ops[m0+1+2]?).bind exP,(ops[m0+1+3]?).bind mvP,(ops[m0+1+4]?).bind mvP)=(some (sT,.tmp d),some (sA,sT,0),some (sB,sT,1),some (sX,.tmp sA),some (sY,.tmp sB)))
  (hh:(C0.hl fn).contains d=false/\(C0.hl fn).contains sA=false/\(C0.hl fn).contains sB=false) (hz:d<T.size/\sT<T.size/\sA<T.size/\sB<T.size/\sX<T.size/\sY<T.size) (hn:sA≠sT/\sB≠sA/\sX≠sB/\sY≠sX)
  (hag:ags.map (Act.eval ⟨mvT T l,[]⟩)=#[pt x,JK m,v0,JK most])
  (q:NJ E w x c seed h nf vm vs S) (hF:Qq E w fb0 v0 F) (hok:FB m F) (Ns:m<8) (hM:0<=M) (hS:∀u b,vs u=some b->(∀t∈S u,HIn M t.B)/\(S u).length*M<=9223372036854775807) (GN:1<=most)
  (hR:∀u b T,vs u=some b->Rn m u=false->(T.map (·.k)).Nodup->Sum c (tm T) (Gg (S u) m (LZ F))->R T) (YC:∀T:List TR,(T.map (·.k)).Nodup->R T->(T.length:Int)<=most)
  (kn:∀W' E' w0 w1 w2 v Tt ks L T',KE E w w0->Jux E w0 c R m W' E' w1 v Tt ks L->HS fn W' E' w1 E' T' w2->T'.size=T.size->T'[sX]?=some v->T'[sY]?=some .nilIface->(∀j,j∉l.map (·.1)->j≠d->j≠sT->j≠sA->j≠sB->j≠sX->j≠sY->T'[j]?=T[j]?)->w2.heap=w1.heap->Reach prog Post W' (G ((Go.Conc.base fn).at ⟨T',[]⟩ (.code cd::k)) cs) w2) :
  Reach prog Post W (G ((Go.Conc.base fn).at ⟨T,[]⟩ (.code (.seq (.region id ops false) cd)::k)) cs) w:=by
 refine jS H hl hm hk hc hr (show prog.funcs[17]?=some f17 by kernel_rfl) (by kernel_rfl) body9 λw1 H1 e1 z1 k1=>?_;rw[J0f7 hag];obtain⟨o,ho,Xt⟩:=Gl.1 hc;obtain⟨_,jI,_⟩:=vI Xt;refine Jcf (x:=x) (m:=m) (M:=M) (S:=S) (R:=R) H1.bok (q.ke H1.ke H.bok.hnd λ_ h=>h) (hF.ke H1.ke λ_ h=>h) hok Ns hM hS GN hR YC λW' E' wF v Tt ks L qo=>?_;rw[ho];simp only[Option.bind_some,jI];have HF:HS fn W' E' wF E' (mvT T l) wF:=⟨qo.bok,λ_ h=>h,.refl,λ_ _=>rfl,H1.tm.mono (Oj qo.le),H1.own,Ad _⟩;have vt:VR C0 (idE E') (.tuple #[v,.nilIface]) (.tuple #[v,.nilIface]):=.tuple rfl λi x x' h1 h2=>by
  rw[h1]at h2;cases h2
  match i with
  |0=>cases h1;exact qo.vE
  |1=>cases h1;exact .nilIface
  |i+2=>simp at h1
 have HG:=HF.put (HF.set (s:=d) (.inr vt));have zs:((mvT T l).setIfInBounds d (.tuple #[v,.nilIface])).size=T.size:=by grind
 refine J0b0 (i:=m0+1) HG (FC (show d<(mvT T l).size by grind)) qo.vE .nilIface (by grind) hn hh hp λT' w' HG' n1 n2 n3 n4 n5=>?_;exact kn W' E' _ wF w' v Tt ks L T' H1.ke qo HG' (n1.trans zs) n2 n3 (λj m0 m1 m2 m3 m4 m5 m6=>by grind) n5
end
theorem J02n{E:JB}{h:JJ}{b:Nat}(hv:VR C0 (idE E) h h)(hb:Sv h=some b):E b:=by
 cases h with
 |func fn a cap=>
  cases hv with
  |func hf ha hx hc hy=>
   simp only[Sv]at hb;split at hb
   .rename_i p hp;cases hb;exact(hy 0 _ _ hp hp).NP
   .cases hb
 |_=>cases hb
theorem I8.ke{E:JB}{w w':JE}{h:JJ}{hs:Int->Int}(q:I8 w h hs)(k:KE E w w')(hE:∀b,Sv h=some b->E b):I8 w' h hs:=q.kept λb s hb hc=>k b _ (hE b hb) hc trivial
structure FK(X E:JB)(w:JE)(x:Nat)(c:J7)(seed:Int)(h:JJ)(hs:Int->Int)(nf:Int)(vm:Nat)(vs:Nat->Option Nat)(S:Nat->List TR):Prop where
 q:NJ E w x c seed h nf vm vs S
 hash:I8 w h hs
 hb:∀b,Sv h=some b->E b/\b≠x/\¬VB vs S b
 bnd:∃b2 c2,c.ba=some ⟨b2,0,none⟩/\Row false w b2 3 .i64 Dc c2/\b2≠x/\¬VB vs S b2
 nb:c.nb=4
 dis:Jep vs S
 dX:¬VB vs S x
 dV:¬VB vs S vm/\vm≠x
 new:∀b,X b->b≠x/\¬VB vs S b
 far:∀b,X b->b≠vm/\(∀a,c.ba=some a->b≠a.block)/\Sv h≠some b
def J05o(X E:JB)(w:JE)(k:Int)(x:Nat)(c:J7)(h:JJ)(hs:Int->Int)(nf:Int)(vm:Nat)(vs:Nat->Option Nat)(S:Nat->List TR):Prop:=
 FK X E w x c k h hs nf vm vs S/\hs=hsK (Jr k 3) k k/\c.bits=(TU k 0).bits/\c.K=(TU k 0).K/\0<=nf/\nf<=200
theorem VB.none{b y:Nat}:VB (one b) (λ_=>[]) y↔y=b:=
 ⟨λ⟨v,b',hv,h⟩=>by obtain⟨-,rfl⟩:=jG hv;exact h.elim id λh=>by simp[tpl]at h,λh=>⟨7,b,rfl,.inl h⟩⟩
section
variable{W E:JB}{w:JE}{c:Int}{ga:JI}{fs:List Jd}{c2f:Nat}{pl:List Nat}{b₀:Frame}{a₀:Act}{ops:Array Oper}{i:Nat}{rest:List Nat}{kk:List Item}{cs:List Frame}{Post:(JB)->JF->JE->Prop}
theorem Jlf{T0:JC}(hB:BOk C0 S0 W E w)(hok:HOk w)(hc:I64 c)(fa:G8 false w ga fs c2f pl)(IQ:∀f∈fs,RH f/\BI f.k∈U64)(Ih:fs.length<=200)(Ag:T0.size=70)(h0:T0[0]?=some (JK c))(h1:T0[1]?=some (.slice ga fs.length c2f))(Bf:TmR C0 S0 14 (idE E) T0 T0)
  (kn:∀W' E' w' x c' h hs nf vm vs S,(∀b,E b->E' b)->BOk C0 S0 W' E' w'->KE E w w'->NJ E' w' x c' c h nf vm vs S->VwF c' hs vs fs S->(c'.bits=4+Jr c 1048576 % 3/\c'.nb=4)->(∀y,0<=hs y/\hs y<=18446744073709551615)->HOk w'->E' x->J05o E E' w' c x c' h hs nf vm vs S ->
   Reach prog Post W' (G (b₀.at (a₀.put ((ops[i]?).bind (·.dst)) (pt x)) (.inRegion ops rest::kk)) cs) w') :
  Reach prog Post W (G ((Go.Conc.base 14).at ⟨T0,[]⟩ [.code b7]) (b₀.at a₀ (.inRegion ops (i::rest)::kk)::cs)) w:=by
 have Uk:prog.globals.size<w.heap.size:=hB.lt hB.hnd;have eg:∀a,ga=some a->E a.block:=λa e=>by rw[e]at h1;exact(Bf.slot (i:=1) (vF (by omega)) h1).MQ
 rw[J05b];have Xj:∀{a:Act}{t:JC},∀i∈([]:List Nat),a.tmps[i]?=t[i]?:=λi h=>by cases h
 refine Ql [] (λ_=>hl7) UH J05c Vg df7 hB Bf (by omega) (Q:=λt w1=>t.size=70/\t[0]?=some (JK c)/\t[1]?=some (.slice ga fs.length c2f)/\w1.heap=w.heap) (λτ=>wp_mono (Jv9 (w:=w.tp τ 0) Ag h0 h1) λe a w1 ⟨q1,q2,q3,q4,q5,q6⟩=>⟨q1,by omega,Xj,q3,q4,q5,q6⟩) λE0 T1 w1 w0 le0 fG Ci Az ⟨z1,z2,z3,z4⟩ _=>?_;have k0:KE E w w0:=(KE.of_eq λb _=>by rw[z4]).trans ((Jt rfl Ci).mono le0);have hok0:=hok.ke k0 hB.hnd;have Ba:prog.globals.size<w0.heap.size:=fG.lt fG.hnd;clear z4;refine Ql [] (λ_=>hl7) UH J05d Vg df7 fG Az (by omega) (Q:=λt w1=>t.size=70/\t[0]?=some (JK c)/\t[1]?=some (.slice ga fs.length c2f)/\t[5]?=some (pt (w0.heap.size+2))/\Blk false w1 (w0.heap.size+2) (EI (TU c (w0.heap.size+1)) 3 c) 47/\Row false w1 (w0.heap.size+1) 3 .i64 Dc 4/\(w0.heap.size<=w1.heap.size/\∀b,b<w0.heap.size->w1.heap[b]?=w0.heap[b]?)) (λτ=>wp_mono (Jva (w:=w0.tp τ 0) hc z1 z2 z3) λe a w1 ⟨q1,q2,q3,q4,q5,q6,q7,q8,q9⟩=>⟨q1,by omega,Xj,q3,q4,q5,q6,q7,q8,q9.size,λb hb=>q9.heap b hb λh=>h⟩) λE1 T2 wb w1 U0 CV AP Bc ⟨y1,y0,y2,y3,y4,y5,y6⟩ _=>?_;generalize X9:w0.heap.size=n1 at *;have l1:=Jt rfl AP;have k1:KE E0 w0 w1:=(KE.of_eq λb hb=>y6.2 b (X9▸fG.lt hb)).trans (l1.mono U0);have eb:E1 (n1+2):=(Bc.slot (i:=5) (vF (by omega)) y3).NP;have er:E1 (n1+1):=(AP.Y4 eb ((y4.cell 3).trans rfl:wb.cell? ⟨n1+2,3,none⟩=some (.slice (some ⟨n1+1,0,none⟩) 4 4))).MQ;have b1:=l1.blk eb y4;have r1:=y5.keE l1 er;have jQ:=hok0.ke k1 fG.hnd;clear y4 y5 y6;refine Ql [] (λ_=>hl7) UH J05e Vg df7 CV Bc (by omega) (Q:=λt w2=>t.size=70/\t[0]?=some (JK c)/\t[1]?=some (.slice ga fs.length c2f)/\t[5]?=some (pt (n1+2))/\t[6]?=some (JK (Jr c 3))/\w2.heap=w1.heap) (λτ=>wp_mono (Jvb (w:=w1.tp τ 0) hc y1 y0 y2 y3) λe a w2 ⟨q1,q2,q3,q4,q5,q6,q7,q8⟩=>⟨q1,by omega,Xj,q3,q4,q5,q6,q7,q8⟩) λE1' T2' wb' Am Vh O0 hW1' J4a ⟨v1,v0,v2,v3,v4,v5⟩ _=>?_;have yN:KE E1 w1 Am:=(KE.of_eq λb _=>by rw[v5]).trans ((Jt rfl hW1').mono Vh);have b1':=yN.blk eb b1;have r1':=r1.keE yN er;have Jos:=jQ.ke yN CV.hnd;have Bl:prog.globals.size<Am.heap.size:=O0.lt O0.hnd;clear v5 b1 r1 jQ;have OM:=Yr (c:=c) (n:=3) (by omega);refine Ql [] (λ_=>hl7) UH J05f Vg df7 O0 J4a (by omega) (Q:=λt w2=>t.size=70/\t[1]?=some (.slice ga fs.length c2f)/\∃x h vm base b2 c2,t[7]?=some (pt x)/\t[8]?=some .nilIface/\(Am.heap.size<=x/\Am.heap.size<=vm/\Am.heap.size<=base/\Am.heap.size<=b2)/\DU w2 x { TU c (n1+1)with ba:=some ⟨b2,0,none⟩,cb:=c2 } c h 0 vm (one base)/\w2.heap[base]?=some (.map #[] 0)/\Row false w2 b2 3 .i64 Dc c2/\(x≠vm/\x≠base/\x≠b2/\vm≠base/\vm≠b2/\base≠b2)/\(Am.heap.size<=w2.heap.size/\∀b,b<Am.heap.size->w2.heap[b]?=Am.heap[b]?)/\I8 w2 h (hsK (Jr c 3) c c)/\(∀b,Sv h=some b->b≠x/\b≠base)/\∀b,Sv h=some b->Am.heap.size<=b) (λτ=>wp_mono (Jvc (w:=Am.tp τ 0) OM (Yz c _) (Row.kept (w:=Am) r1' rfl) rfl rfl aK (Blk.kept (w:=Am) b1' rfl) v1 v0 v2 v3 v4) λe a w2 ⟨q1,q2,q3,q4,x,q6,q7,h,q8,q9,q10⟩=>by
  obtain⟨x',vm,base,b2,c2,e1,p1,p2,p3,p4,p5⟩:=q8.ex;obtain rfl:x=x':=by grind
  refine⟨q1,by omega,Xj,q3,q4,x,h,vm,base,b2,c2,q6,q7,p1,p2,p3,p4,p5,⟨q8.tch.size,λb hb=>q8.tch.heap b hb λh=>h⟩,q9,λb hb=>?_,q10⟩;obtain⟨s,CQ⟩:∃s,w2.heap[b]?=some (.cells #[JK s] 3):=by
   generalize hsK (Jr c 3) c c=hsx at q9;cases q9 with
   |one=>cases hb
   |two h=>cases hb;grind
   |mix h=>cases hb;grind
  refine⟨λe=>?_,λe=>?_⟩
  .obtain⟨z,hz,_⟩:=p2.blk
   grind
  grind) λE2 T3 wb2 w2 Tc Dt Dv Dx ⟨x1,x2,x,h,vm,base,b2,c2,x4,x5,⟨g1,g2,g3,g4⟩,cu,em,rw2,⟨d1,d2,d3,d4,d5,d6⟩,⟨kz,kk'⟩,hh,xO,hhf⟩ _=>?_
 obtain⟨hs,Ux⟩:∃hs,hs=hsK (Jr c 3) c c:=⟨_,rfl⟩;rw[<- Ux]at hh;have l2:=Jt rfl Dv;have k2:KE E1' Am w2:=(KE.of_eq λb hb=>kk' b (O0.lt hb)).trans (l2.mono Tc);have ex:E2 x:=(Dx.slot (i:=7) (vF (by omega)) x4).NP;obtain⟨c',MG⟩:∃c',c'={ TU c (n1+1)with ba:=some ⟨b2,0,none⟩,cb:=c2 }:=⟨_,rfl⟩;have WH:c'.ba=some ⟨b2,0,none⟩:=by rw[MG]
 have lT:c'.nb=4:=by rw[MG];rfl
 have cb':c'.bits=4+Jr c 1048576 % 3:=by rw[MG];rfl
 have Gp:CZ c':=by rw[MG];exact⟨(Yz c 0).b1,(Yz c 0).b2,(Yz c 0).k1,(Yz c 0).k2,(Yz c 0).nb⟩
 rw[<- MG]at cu;have yT:HOk wb2:=Jos.ke (KE.of_eq λb hb=>kk' b (O0.lt hb)) O0.hnd;have Js1:∃arr t,Blk false wb2 b2 arr t/\Plain arr:=by
  obtain⟨cur,p1,_,_,_,p2⟩:=rw2
  grind
 have q2:NJ E2 w2 x c' c h 0 vm (one base) λ_=>[]:=by
  refine NJ.Oq Dv cu rfl (λv b hv=>by obtain⟨-,rfl⟩:=jG hv;exact TabAt.of_empty em) yT Dt.hnd ex (λy hy=>?_) (λa ha=>?_) Gp (λ_ _ _=>by simp)
  .grind[VB.none]
  grind
 have Jvh:∀b,Sv h=some b->E2 b:=λb hb=>J02n (Dv.Y4 ex cu.cells.2.2.2.2.2.1) hb;have Fv:I8 w2 h hs:=hh.ke l2 Jvh;have vT:E2 b2:=(q2.bE _ WH).1;have r2:=rw2.keE l2 vT;have Nv:=Jos.ke k2 O0.hnd;clear kz kk' cu yT Js1 rw2 em b1' r1' Jos hh;refine Ql [] (λ_=>hl7) UH J05g Vg df7 Dt Dx (by omega) (Q:=λt w3=>t.size=70/\t[1]?=some (.slice ga fs.length c2f)/\t[7]?=some (pt x)/\w3.heap=w2.heap) (λτ=>wp_mono (Jvd (w:=w2.tp τ 0) x1 x2 x4 x5) λe a w1 ⟨q1,q2,q3,q4,q5,q6⟩=>⟨q1,by omega,Xj,q3,q4,q5,q6⟩) λE4 T5 wb3 w4 Ti KH CY EW ⟨u1,u2,u3,v5⟩ _=>?_;have k3:KE E2 w2 w4:=(KE.of_eq λb _=>by rw[v5]).trans ((Jt rfl CY).mono Ti);have q4:=q2.ke k3 Dt.hnd Ti;have r4:=r2.keE k3 vT;have vG:=Nv.ke k3 Dt.hnd;have QK:=Fv.ke k3 Jvh;have vH:∀b,Sv h=some b->E4 b:=λb hb=>Ti _ (Jvh b hb);have YN:∀b,E b->E4 b:=λb hb=>Ti b (Tc b (Vh b (U0 b (le0 b hb))));have lH:KE E w w4:=k0.trans ((k1.mono le0).trans ((yN.mono λb hb=>U0 b (le0 b hb)).trans ((k2.mono λb hb=>Vh b (U0 b (le0 b hb))).trans (k3.mono λb hb=>Tc b (Vh b (U0 b (le0 b hb)))))));have XW:∀b,E4 b->b<w4.heap.size:=λb hb=>KH.lt hb;have iJ:prog.globals.size<w4.heap.size:=KH.lt KH.hnd;have ex4:=XW _ q4.xE.1;have ev4:=XW _ q4.xE.2;have es4:base<w4.heap.size:=XW _ (q4.tE _ (VB.none.2 rfl)).1;have QB:=XW _ (q4.bE _ WH).1;obtain⟨pl4,Zg,fa4⟩:=G8.ke hB.wr eg lH fa;have plt:∀y∈pl4,y<Am.heap.size:=λy hy=>O0.lt (Vh _ (U0 _ (le0 _ (Zg y hy).2.1)));clear v5 r2 Nv q2 Fv;have ing:∀τ,Jx1 (w4.tp τ 0) x c' c h 0 vm (one base) (λ_=>[]) ga fs c2f pl4 hs Dc U64:=λτ=>{
  q:=q4.cube.kept rfl rfl
  f7:=rfl
  tab:=λv b hv=>(q4.tab v b hv).kept λ_ _=>rfl
  dis:=λv u y ⟨_,h1,_⟩ ⟨_,h2,_⟩=>by grind[jG]
  nT:=λ_ _ _=>by simp
  fsa:=fa4.kept λ_ _=>rfl
  okf:=λg hg=>(IQ g hg).1
  bnd:=.inr ⟨b2,c2,WH,Row.kept r4 rfl⟩
  bsl:=by rw[lT];rfl
  so:=aK
  cfg:=Gp
  hsr:=QK.bd
  one:=λw1 t item at_=>I8.calls (QK.kept λb s hb hc=>(t.heap b (XW b (vH b hb)) λh=>h).trans hc) ((q4.cube.kept (w':=w4.tp τ 0) rfl rfl).kept (t.heap x q4.cube.blk.lt λh=>h) (t.heap vm q4.cube.vs.lt λh=>h)) item at_
  dF:=λy hy=>by have:=plt y hy;exact⟨by rw[VB.none];omega,by omega⟩
  dX:=by grind[VB.none]
  dV:=⟨by grind[VB.none],Ne.symm d1⟩
  dB:=λa ha=>by rw[WH]at ha;cases ha;exact⟨by rw[VB.none];grind,QB,Ne.symm d3⟩
  n1:=by omega
  nf0:=by omega
  nf1:=by omega
  hU:=λg hg=>(IQ g hg).2
  hTU:=λt ht=>by cases ht
  hUn:=by rw[Jz0];omega }
 refine Ql [] (λ_=>hl7) UH J05h Vg df7 KH EW (by omega) (Q:=λt w5=>t.size=70/\t[1]?=some (.slice ga fs.length c2f)/\t[7]?=some (pt x)/\t[8]?=some .nilIface/\DU w5 x c' c h (0+fs.length) vm (one base)/\(∃S',(∀v b,one base v=some b->TabAt false w5 c' b (S' v)/\∀key,tm (S' v) key=MS c' Dc hs v (tm []) fs key)/\Jep (one base) S'/\∀y,VB (one base) S' y->y=base\/w4.heap.size<=y)/\(∀b,b<w4.heap.size->b≠x->b≠base->w5.heap[b]?=w4.heap[b]?)) (λτ=>wp_mono (Jve (w:=w4.tp τ 0) (Jrd (ing τ)) u1 u2 u3) λe a w5 ⟨p1,p2,p3,p4,p5,p6,p8⟩=>⟨p1,by omega,Xj,p3,p4,p5,p6,p8.q,by obtain⟨S',t1,t2,t3⟩:=p8.tab;exact⟨S',t1,t2,λy hy=>(t3 y hy).imp VB.none.1 id⟩,λb hb h1 h2=>p8.tch.heap b hb λh=>h.elim h1 λh=>h2 (VB.none.1 h)⟩) λE5 T6 wb5 w5 yQ fH PU V8 ⟨s1,s2,s3,s4,cu,⟨S',Jz8,J4b,D8⟩,kk5⟩ _=>?_;have l5:=Jt rfl PU;have k5:KE (λb=>E4 b/\b≠x/\b≠base) w4 w5:=(KE.of_eq λb hb=>kk5 b (KH.lt hb.1) hb.2.1 hb.2.2).trans (l5.mono λb hb=>yQ b hb.1);have ex5:E5 x:=(V8.slot (i:=7) (vF (by omega)) s3).NP;have MB:VwF c' hs (one base) fs S':=λv b hv=>by
  refine⟨(Jz8 v b hv).1.nodup,λk=>?_,λf hf=>(IQ f hf).1.n,BN Ih (by decide)⟩;have:=Jrt (c:=c') (bs:=Dc) (hs:=hs) (fs:=fs) (g0:=[]) v (g:=tm []) (λk=>rfl) k
  grind
 have hgx:prog.globals.size≠x/\prog.globals.size≠base:=by omega
 have yT:HOk wb5:=vG.ke (E:=λb=>b=prog.globals.size) (KE.of_eq λb hb=>by
  grind) rfl
 have q5:NJ E5 w5 x c' c h (0+fs.length) vm (one base) S':=by
  refine NJ.Oq PU cu rfl (λv b hv=>(Jz8 v b hv).1) yT fH.hnd ex5 (λy hy=>?_) (λa ha=>?_) Gp (λv b hv=>by have:=(MB v b hv).len;omega)
  .grind
  .rw[WH]at ha;cases ha;obtain⟨cur,p1,p2,p3,p4,p5⟩:=r4;refine⟨by grind,cur,_,p1.kept (kk5 b2 QB (Ne.symm d3) (Ne.symm d6)),p5⟩
 have kE5:KE E w w5:=lH.trans (k5.mono λb hb=>⟨YN b hb,by have:=O0.lt (Vh b (U0 b (le0 b hb)));omega,by have:=O0.lt (Vh b (U0 b (le0 b hb)));omega⟩);have Jvi:∀b,E b->E5 b:=λb hb=>yQ b (YN b hb);refine Ql [] (λ_=>hl7) UH J05i Vg df7 fH V8 (by omega) (Q:=λt w6=>t.size=70/\t[1]?=some (.slice ga fs.length c2f)/\t[7]?=some (pt x)/\w6.heap=w5.heap) (λτ=>wp_mono (Jvf (w:=w5.tp τ 0) s1 s2 s3 s4) λe a w1 ⟨q1,q2,q3,q4,q5,q6⟩=>⟨q1,by omega,Xj,q3,q4,q5,q6⟩) λE6 T7 wb6 w6 XV SB SH XR ⟨j1,j2,j3,v6⟩ _=>?_;have k6:KE E5 w5 w6:=(KE.of_eq λb _=>by rw[v6]).trans ((Jt rfl SH).mono XV);have q6:=q5.ke k6 fH.hnd XV;have ok6:HOk w6:=q6.hok;have yO:KE E w w6:=kE5.trans (k6.mono Jvi);have ex6:E6 x:=XV _ ex5;clear v6;have Ze:∀f∈fs,f.k.length=3:=λf hf=>(IQ f hf).1.n;have H6:HS 14 W E6 w6 E6 T7 w6:=⟨SB,λ_ h=>h,.refl,λ_ _=>rfl,XR,rfl,Ad _⟩;refine J7e (x:=x) (m:=0) (most:=10) (M:=400) (R:=QR c' hs 0 [] fs) (l:=[(34,.tmp 7)]) (ags:=#[.tmp 34,.const (JK 0),.const (.slice none 0 0),.const (JK 10)]) (d:=35) (sT:=33) (sA:=36) (sB:=37) (sX:=9) (sY:=10) H6 rfl (by kernel_rfl) (by kernel_rfl) (by kernel_rfl) (by kernel_rfl) (by kernel_rfl) ⟨vF (by omega),vF (by omega),vF (by omega)⟩ (by omega) (by omega) (by simp[mvT,Act.eval,Bq,Gj,j1,(BJ.1 j3).2]) q6 (Qq.nil _ _ 0) (FB.nil _) (by omega) (by omega) MB.hin (by omega) (MB.sum Gp lT QK.bd (by omega) (λv b hv=>by grind[jG]) (FB.nil _)) (λT hn hT=>by have:=(O3.one (hs:=hs) Ze hn (λk=>by rw[hT k,dP])).1;omega) λW7 E7 u0 wq w8 v T ks L T9 ke7 qo H9 n1 j9 yM ss sh=>?_;have Jov:∀k,tm T k=FP c' Dc (sel hs 0 k fs):=λk=>by rw[qo.sum k,dP]
 obtain⟨one1,Jvj,Jvk⟩:=O3.one (hs:=hs) Ze qo.nd Jov;obtain⟨va,vc,hv⟩:=Jh7 qo.row;have k8:KE E6 w6 w8:=ke7.trans (qo.ke.trans (.of_eq λ_ _=>by rw[sh]));replace n1:=n1.trans j1;replace j2:=(ss 1 (by simp) (by omega) (by omega) (by omega) (by omega) (by omega) (by omega)).trans j2;replace j3:=(ss 7 (by simp) (by omega) (by omega) (by omega) (by omega) (by omega) (by omega)).trans j3;have qP:∀τ,UM.wp prog (λe a w'=>e=.ret/\a.defers=[Jq]/\a.tmps.size=70/\a.tmps[4]?=some (pt x)/\w'.heap=w8.heap) ⟨T9,[Jq]⟩ (w8.tp τ 0):=by
  intro τ;have hL:L.length=T.length:=by rw[qo.outs.1];have:=qo.keys.length;grind
  by_cases Ap:fs=[]
  .have Lr:T.length=0:=by
    rcases Nat.eq_zero_or_pos T.length with h|h
    .exact h
    .obtain⟨t,ht⟩:=List.exists_mem_of_length_pos h;obtain⟨_,f,hf,_⟩:=nZ qo.nd Jov ht
     grind
   rw[hv,hL,Lr]at j9;rw[Ap]at j2;exact Js0 (w:=w8.tp τ 0) n1 j2 j3 j9 yM
  .have h1:=Jvj Ap;obtain⟨q,hq⟩:∃q,L[0]?=some q:=⟨L[0]'(by omega),DL _⟩;obtain⟨k0,qA⟩:∃k0,ks[0]?=some k0:=⟨ks[0]'(by have:=qo.outs.1;omega),DL _⟩;obtain⟨a1,a2,a3,a4⟩:=qo.outs.2 0 k0 q qA hq;rw[hL,h1]at hv;rcases qo.row.2 with⟨_,e⟩|⟨g,cap,cur,e,_,OJ,BA,Nj,_,hx⟩
   .grind
   have a5:=Jov k0.1;rw[a2]at a5;obtain⟨t,T1,T2,rfl,tk,_⟩:=Qk a2;have zk:k0.1=[0,0,0,0,0]:=by rw[<- tk];simp[*]
   rw[zk,Jzr Ze]at a5;have Jvl:q.B=Df c' Dc (fs.map λf=>(hs f.it,f.v)):=by
    unfold FP at a5;rw[if_neg (by grind)]at a5
    grind
   have hn:q.B.n=fs.length:=by
    grind[J029,List.length_map]
   have Ig:L.length=1:=by omega
   have hLq:L=[q]:=by
    obtain⟨y,rfl⟩:=List.length_eq_one_iff.1 Ig
    grind
   have EX:(w8.tp τ 0).cell? ⟨g,1,none⟩=some (JK fs.length):=by
    refine(cell_of (w:=w8.tp τ 0) (show w8.heap[g]?=_ by rw[sh];exact OJ) 1).trans ?_;rw[Ig,hLq]at hx;have h5:(List.take (1*5) cur.toList)[1]?=some (JK q.B.n):=by rw[hx];rfl
    rw[List.getElem?_take,if_pos (by omega),Array.getElem?_toList,hn]at h5;exact h5
   rw[e,Ig]at j9;exact Jvg (w:=w8.tp τ 0) (List.length_pos_iff.2 Ap) EX n1 j2 j3 j9 yM
 refine Reach.ret (b:=Go.Conc.base 14) (X0:=[.code UM]) (k:=[]) KY rfl (.cons (.code J05j) .nil) Vg df7 UH (by simp[Go.Conc.base]) H9.bok H9.tm (Q:=λt1 w1=>t1[4]?=some (pt x)/\w1.heap=w8.heap) (λτ=>?_) λE8 T9 w9 wA todo Qi vX hW8 Jz9 ⟨z1,z2⟩=>?_
 .refine LGo.wp (wp_mono (qP τ) λe b w' ⟨m1,n2,n3,n4,n5⟩=>?_);subst m1;refine Cont.ret ⟨λi hi Nq=>?_,n4,n5⟩ n2;rcases hl7 hi with h|h
  .cases h
  .omega
 .refine Reach.leave1 (B:=Go.Conc.base 14) rfl rfl (fn:=f14) (by kernel_rfl) (x:=4) (by kernel_rfl) λd12=>?_;have kf:KE E7 w8 wA:=(KE.of_eq λb _=>by rw[z2]).trans ((Jt rfl hW8).mono Qi);have kA:KE E6 w6 wA:=k8.trans (kf.mono qo.le);have kA':KE E6 w6 (wA.at d12):=kA.trans (.of_eq λ_ _=>rfl);have q9:=q6.ke kA' SB.hnd λb hb=>Qi b (qo.le b hb);rw[show(Act.mk T9 []).tmps.getD 4 JA=pt x from by simp[*]];have lt1:∀b,E b->b<Am.heap.size:=λb hb=>O0.lt (Vh b (U0 b (le0 b hb)));have lU:∀y,y<w4.heap.size->y≠base->¬VB (one base) S' y:=λy h1 h2 h3=>by
   grind
  have k59:KE E5 w5 (wA.at d12):=k6.trans (kA'.mono XV);have r5:=r4.keE k5 ⟨Ti _ vT,Ne.symm d3,Ne.symm d6⟩;have hh5:I8 w5 h hs:=QK.ke k5 λb hb=>⟨vH b hb,xO b hb⟩;have hbY:∀b,Sv h=some b->E5 b:=λb hb=>yQ b (vH b hb);exact kn W7 E8 (wA.at d12) x c' h hs _ vm (one base) S' (λb hb=>Qi b (qo.le b (XV b (Jvi b hb)))) (vX.at d12) (yO.trans (kA'.mono λb hb=>XV b (Jvi b hb))) q9 MB ⟨cb',lT⟩ QK.bd q9.hok (Qi _ (qo.le _ ex6)) ⟨{
   q:=q9
   hash:=hh5.ke k59 hbY
   hb:=λb hb=>⟨Qi b (qo.le b (XV b (hbY b hb))),(xO b hb).1,lU b (XW b (vH b hb)) (xO b hb).2⟩
   bnd:=⟨b2,c2,WH,r5.keE k59 (yQ _ (Ti _ vT)),Ne.symm d3,lU b2 QB (Ne.symm d6)⟩
   nb:=lT
   dis:=J4b
   dX:=lU x ex4 d2
   dV:=⟨lU vm ev4 d4,Ne.symm d1⟩
   new:=λb hb=>⟨by grind,lU b (XW b (YN b hb)) (by grind)⟩
   far:=λb hb=>⟨by grind,λa ha e=>by
    grind,λe=>by grind⟩ },Ux,by rw[MG];rfl,by rw[MG];rfl,by omega,by omega⟩
end
theorem J09x{c:J7}{hs:Int->Int}{fs:List Jd}{S:List TR}(h:O3 c hs fs S)(hf:∀f∈fs,BI f.k∈U64):∀t∈S,t.k∈U64:=λt ht=>by obtain⟨_,f,h1,h2⟩:=nZ h.nd h.all ht;rw[<- h2,J02a (h.n3 f h1)];exact hf f h1
section
variable{X W E E':JB}{w w' wb:JE}{y:Nat}{c:J7}{seed nf:Int}{h:JJ}{hs:Int->Int}{vm:Nat}{vs:Nat->Option Nat}{S:Nat->List TR}{ga:JI}{fs g0:List Jd}{cap:Nat}{pl:List Nat}
theorem FK.ke(q:FK X E w y c seed h hs nf vm vs S)(k:KE E w w')(hH:E prog.globals.size)(hE:∀b,E b->E' b):FK X E' w' y c seed h hs nf vm vs S:=by obtain⟨b2,c2,b1,b3,b4⟩:=q.bnd;exact⟨q.q.ke k hH hE,q.hash.ke k (λb hb=>(q.hb b hb).1),λb hb=>⟨hE b (q.hb b hb).1,(q.hb b hb).2⟩,⟨b2,c2,b1,b3.keE k (q.q.bE _ b1).1,b4⟩,q.nb,q.dis,q.dX,q.dV,q.new,q.far⟩
theorem FK.ing(q:FK X E w y c seed h hs nf vm vs S)(hB:BOk C0 S0 W E w)(fa:G8 false w ga fs cap pl)(D8:∀b∈pl,b≠y/\¬VB vs S b)(IQ:∀f∈fs,RH f/\BI f.k∈U64)(Ih:fs.length<=200)(h0:0<=nf/\nf<=2000)(hTU:∀t∈S 7,t.k∈U64)(τ:Nat->Question->Nat):Jx1 (w.tp τ 0) y c seed h nf vm vs S ga fs cap pl hs Dc U64:=by
 obtain⟨b2,c2,b1,b3,b4⟩:=q.bnd;have lt:∀b,E b->b<w.heap.size:=λb hb=>hB.lt hb;exact{
  q:=q.q.cube.kept rfl rfl
  f7:=q.q.f7
  tab:=λv b hv=>(q.q.tab v b hv).kept λ_ _=>rfl
  dis:=q.dis
  nT:=λv b hv=>by have:=q.q.n v b hv;omega
  fsa:=fa.kept λ_ _=>rfl
  okf:=λg hg=>(IQ g hg).1
  bnd:=.inr ⟨b2,c2,b1,Row.kept b3 rfl⟩
  bsl:=by rw[q.nb];rfl
  so:=aK
  cfg:=q.q.cfg
  hsr:=q.hash.bd
  one:=λw1 t item at_=>I8.calls (q.hash.kept λb s hb hc=>(t.heap b (lt b (q.hb b hb).1) λh=>h).trans hc) ((q.q.cube.kept (w':=w.tp τ 0) rfl rfl).kept (t.heap y q.q.cube.blk.lt λh=>h) (t.heap vm q.q.cube.vs.lt λh=>h)) item at_
  dF:=λb hb=>⟨(D8 b hb).2,(D8 b hb).1⟩
  dX:=q.dX
  dV:=q.dV
  dB:=λa ha=>by rw[b1]at ha;cases ha;exact⟨b4.2,lt b2 (q.q.bE _ b1).1,b4.1⟩
  n1:=by omega
  nf0:=h0.1
  nf1:=by omega
  hU:=λg hg=>(IQ g hg).2
  hTU:=hTU
  hUn:=by rw[Jz0];omega }
theorem FK.J090(q:FK X E w y c seed h hs nf vm vs S)(XH:X prog.globals.size)(XE:∀b,X b->E b)(hB:BOk C0 S0 W E w)(le:∀b,E b->E' b)(hH:E' prog.globals.size)(hW:WR C0 (okP C0 S0) (idE E') wb w'){τ:Nat->Question->Nat}(o:eF (w.tp τ 0) y c seed h nf vm vs S hs Dc fs wb)(tf:VwF c hs vs g0 S)(hn:(g0++fs).length<=400)(h3:∀f∈fs,f.k.length=3) :
  ∃S',FK X E' w' y c seed h hs (nf+fs.length) vm vs S'/\VwF c hs vs (g0++fs) S'/\KE (λb=>E b/\b≠y/\¬VB vs S b) w w'/\∀b,VB vs S' b->VB vs S b\/w.heap.size<=b:=by
 obtain⟨oq,⟨S',tab,dis,D8⟩,oh⟩:=o;obtain⟨b2,c2,b1,b3,b4⟩:=q.bnd;have l:=Jt rfl hW;have lt:∀b,E b->b<w.heap.size:=λb hb=>hB.lt hb;have keep:∀b,E b->b≠y->¬VB vs S b->wb.heap[b]?=w.heap[b]?:=λb hb h1 h2=>oh.heap b (lt b hb) λh=>h.elim h1 h2;have lU:∀b,E b->¬VB vs S b->¬VB vs S' b:=λb hb h1 h2=>by
  rcases D8 b h2 with h|h
  .exact h1 h
  .have:w.heap.size<=b:=h
   grind
 have yL:VwF c hs vs (g0++fs) S':=λv b hv=>⟨(tab v b hv).1.nodup,λk=>((tab v b hv).2 k).trans (Jrt (c:=c) (bs:=Dc) (hs:=hs) (fs:=fs) (g0:=g0) v (g:=tm (S v)) (tf v b hv).all k),λf hf=>(Gn.1 hf).elim ((tf v b hv).n3 f) (h3 f),hn⟩;have nx:=q.new _ XH;have hH0:E prog.globals.size:=hB.hnd;have yT:HOk wb:=q.q.hok.ke (E:=λb=>b=prog.globals.size) (KE.of_eq λb hb=>by
  grind) rfl
 have e2:E b2:=(q.q.bE _ b1).1;have q5:NJ E' w' y c seed h (nf+fs.length) vm vs S':=by
  refine NJ.Oq hW oq q.q.f7 (λv b hv=>(tab v b hv).1) yT hH (le y q.q.xE.1) (λz hz=>?_) (λa ha=>?_) q.q.cfg (λv b hv=>by have:=(yL v b hv).len;omega)
  .rcases D8 z hz with hz|hz
   .exact(q.q.tE z hz).2
   .have h1:w.heap.size<=z:=hz
    grind
  .obtain⟨-,h2,arr,t,h5,h6⟩:=q.q.bE a ha;rw[b1]at ha;cases ha;exact⟨h2,arr,t,h5.kept (keep b2 e2 b4.1 b4.2),h6⟩
 have ly:=q.q.xE;refine⟨S',{ q:=q5,hash:=?_,hb:=λb hb=>⟨le b (q.hb b hb).1,(q.hb b hb).2.1,lU b (q.hb b hb).1 (q.hb b hb).2.2⟩,bnd:=⟨b2,c2,b1,?_,b4.1,lU b2 e2 b4.2⟩,nb:=q.nb,dis:=dis,dX:=lU y ly.1 q.dX,dV:=⟨lU vm ly.2 q.dV.1,q.dV.2⟩,new:=λb hb=>⟨(q.new b hb).1,lU b (XE b hb) (q.new b hb).2⟩,far:=q.far },yL,(KE.of_eq λb hb=>keep b hb.1 hb.2.1 hb.2.2).trans (l.mono λb hb=>le b hb.1),λb hb=>D8 b hb⟩
 .exact(q.hash.kept λb s hb hc=>(keep b (q.hb b hb).1 (q.hb b hb).2.1 (q.hb b hb).2.2).trans hc).ke l λb hb=>le b (q.hb b hb).1
 .exact(b3.kept (keep b2 e2 b4.1 b4.2)).keE l (le b2 e2)
end
section
variable{fn:JG}{W E:JB}{w:JE}{t:JC}{c:Code}{rest:Code}{k:List Item}{cs:List Frame}{Post:(JB)->JF->JE->Prop}
end
def jW(c c':J7):Prop:=c.bits=c'.bits/\c.K=c'.K/\c.nb=c'.nb
theorem J06x{c c':J7}(h:jW c c')(bs:JD)(A:List (Int × Int)):FP c bs A=FP c' bs A:=by obtain⟨b,k,ba,nb,cb⟩:=c;obtain⟨b',k',WH,lT,cb'⟩:=c';obtain⟨rfl,rfl,rfl⟩:=h;rfl
section
variable{c c':J7}{hs:Int->Int}{fs gs:List Jd}{S S' A B:List TR}{m:Nat}
theorem J07d(h:fs.Perm gs)(k:JD):(sel hs m k fs).Perm (sel hs m k gs):=(h.filter _).map _
theorem QR.cmp{F:List LW}(hA:QR c hs m F fs A)(hB:QR c' hs m F gs B)(Ui:jW c c')(hp:fs.Perm gs)(hc:CZ c)(BL:c.nb=4)(hh:∀y,0<=hs y/\hs y<=18446744073709551615):∀k,tm A k=tm B k:=λk=>by rw[hA,hB,<- J06x Ui];exact Jrr hc (by rw[BL];rfl) aK (Jrs hh m k) (J07d (hp.filter _) k)
end
theorem dR:C0.hl 20≠[]:=by show[1000]≠[];simp
theorem hlV{i:Nat}(h:(C0.hl 20).contains i=true):i=1000:=by
 have h':i∈[1000]:=Lj.1 h
 grind
theorem Jer:GY C0 20:=⟨f20,by kernel_rfl,by kernel_rfl,by kernel_rfl⟩
theorem dfV:S0.df.contains 20=false:=rfl
theorem J4c{i:Nat}:(S0.own 20).contains i=false:=rfl
theorem Jet:Ji C0 S0 20 aV0=true/\Ji C0 S0 20 aV1=true/\Ji C0 S0 20 aV2=true/\Ji C0 S0 20 aV3=true/\Ji C0 S0 20 tV=true:=⟨by kernel_rfl,by kernel_rfl,by kernel_rfl,by kernel_rfl,by kernel_rfl⟩
theorem J09r{pre:List Nat}(h:∀i∈pre,i<16/\i≠14):IC C0 S0 20 opsV pre=true:=by
 have Ce:IC C0 S0 20 opsV [0,1,2,3,4,5,6,7,8,9,10,11,12,13,15]=true:=by kernel_rfl
 unfold IC at Ce ⊢;rw[List.all_eq_true]at Ce ⊢;intro i hi;obtain⟨h1,h2⟩:=h i hi;exact Ce i (by simp only[AL,BU,or_false];omega)
theorem J0cn:∃o,opsV[14]?=some o/\o.op=.call { callee:=.value (.func 33),args:=#[.tmp 46,.tmp 47,.func 35],argTypes:=#[95,3,105] }/\o.guard=none/\o.dst=some 48/\∀j,j=12\/j=13->(o.after.toList.any λe=>e.on == j && Region.binds .any e)=true:=by
 simp only[opsV,opsOf,bV,fC,sC,f20,A8];refine⟨_,rfl,rfl,rfl,rfl,λj hj=>?_⟩;rcases hj with rfl|rfl<;>rfl
section
variable{E:JB}{w:JE}{x:Nat}{c:J7}{seed nf:Int}{h:JJ}{vm u b:Nat}{vs:Nat->Option Nat}{S:Nat->List TR}
theorem NJ.J0b5(q:NJ E w x c seed h nf vm vs S)(hu:vs u=some b):UF E (λ_=>False) w b .all (S u) c (λ_=>true) where
 h:=q.hok
 tab:=q.tab u b hu
 tE:=λy hy=>q.tE y ⟨u,b,hu,hy⟩
 bE:=λa ha=>by obtain⟨h1,h2,arr,t,h3,h4⟩:=q.bE a ha;exact⟨h1,h2,.plain h3 h4⟩
 fF:=λb e=>by cases e
 fE:=λy hy=>hy.elim
 pass:=λw' _ y hy=>by have:=J0ap hy.1 w';simpa[PV.fn,PV.cap]using this
 cfg:=q.cfg
 n:=q.n u b hu
end
section
variable{w:JE}{x:Nat}{c:J7}{seed nf:Int}{h:JJ}{vm v mm:Nat}{vs:Nat->Option Nat}{S:Nat->List TR}{T:JC}{Stop:JF->JE->Prop}
theorem J0as(hm:HY w vm vs)(hv:v<8)(Ag:T.size=49)(t3:T[37]?=some (.map (some vm)))(t4:T[38]?=some (JK v))(t14:T[48]?=some (.map (some mm))) :
  LGo prog 20 (Jm2 20 λt w1=>t.size=49/\t[4]?=some .nilIface/\HY w1 vm (λk=>if k=v then some mm else vs k)/\Tch w.heap.size (λb=>b=vm) w w1) [.inRegion opsV [15],.code tV] T w:=by
 obtain⟨w',AB,OV,ht⟩:=hm.store hv mm;obtain⟨o,ho⟩:∃o,opsV[15]?=some o:=by
  simp only[opsV,opsOf,bV,fC,sC,f20,A8]
  simp_all
 refine LGo.list (l:=[o]) (i0:=15) (rest:=[]) (λj hj=>by grind) ?_;simp only[opsV,opsOf,bV,fC,sC,f20,A8]at ho ⊢;cases ho;obtain⟨f,rfl⟩:=jJ Ag;rw[qE]at *;have e3:f 37=_:=Aa t3;have e4:f 38=_:=Aa t4;have O5:f 48=_:=Aa t14;rw[e3,e4,O5];have ht:=J05z ht.grown;go_wp2;refine LGo.done (LGo.wp ?_);simp only[tV,bV,sC,f20,A8];go_wp2;exact Cont.ret ⟨rfl,rfl,OV,ht⟩ rfl
end
theorem J0at{x v vm i:Nat}{vs:Nat->Option Nat}{M M':JJ->Prop}{u:JJ}(hi:i≠14)(h:rV x v vm vs M i u):rV x v vm vs M' i u:=by
 unfold rV at h ⊢
 grind
theorem LGo.mono{P:Program}{fn:JG}{Stop Vj:JF->JE->Prop}{X:List Item}{t:JC}{w:JE}(h:LGo P fn Stop X t w)(k:∀g w,Stop g w->Vj g w):LGo P fn Vj X t w:=by obtain⟨n,g,w1,h1,h2⟩:=h;exact⟨n,g,w1,h1,k _ _ h2⟩
section
variable{W E:JB}{w:JE}{x:Nat}{c:J7}{seed nf:Int}{h:JJ}{vm v:Nat}{vs:Nat->Option Nat}{S:Nat->List TR}{T:JC}{cs:List Frame}{Post:(JB)->JF->JE->Prop}
theorem J07f(hB:BOk C0 S0 W E w)(q:NJ E w x c seed h nf vm vs S)(hxv:x≠vm)(hv:v<8)(ht:TmR C0 S0 20 (idE E) T T)(Ag:T.size=49)(t0:T[0]?=some (pt x))(t1:T[1]?=some (JK v))
  (kn:∀W' E' w' t' todo u b mm Tn,vs u=some b->Rn v u=false->(∀b,E b->E' b)->BOk C0 S0 W' E' w'->KE (λb=>E b/\b≠vm) w w'->DU w' x c seed h nf vm (λk=>if k=v then some mm else vs k)->TabAt false w' c mm Tn->Sum c (tm Tn) (Gg (S u) v (λ_=>true)) ->
   (∀y,y=mm\/y∈tpl Tn->E' y/\¬E y/\prog.globals.size<=y)->t'[4]?=some .nilIface->Reach prog Post W' (G { (Go.Conc.base 20).at ⟨t',[]⟩ todo with mode:=.returning } cs) w') :
  Reach prog Post W (G ((Go.Conc.base 20).at ⟨T,[]⟩ [.code (.seq (.region 8 opsV true) tV)]) cs) w:=by
 obtain⟨o14,Jfi,Ar,hg,hd,haf⟩:=J0cn;refine J6 (λw1=>stepG_seq) rfl λd1=>?_;refine Reach.draw rfl (hB.at d1) λn w2 Dt kS Fv=>?_;rw[show C0.P.follows .mixedOrders=true from mixed];obtain⟨pre,QU,-,-,hWk⟩:=Jk5 (m:=15) prog Jf0 n;obtain⟨Jeo,l1,post,rfl,AP,X9,Jkb,Jpj,Ij⟩:=hWk.split (p:=14) (by
  grind) (by omega)
 obtain⟨l3,CY,Au⟩:=Jpj.all;rw[QU,show List.range' 15 (opsV.size-15)=[15]from by kernel_rfl,List.append_assoc,G9];have k2:KE E w w2:=.of_eq Fv;have q2:=q.ke k2 hB.hnd λ_ h=>h;have lt1:=AP.lt;have lt2:=CY.lt;refine Reach.toOps (b:=Go.Conc.base 20) KY rfl (J09r λi hi=>⟨by grind,λe=>X9 (e▸hi)⟩) (by simp) Jer dfV dR (by simp[Go.Conc.base]) Dt ht (Q:=λt w3=>t.size=49/\(∀s,s<34->t[s]?=T[s]?)/\(∀i,i<15->l1[i]?=some true->∃u,t[i+34]?=some u/\rV x v vm vs (λ_=>False) i u)/\Keeps w2 w3) (λτ=>?_) λE3 T3 w3 Iy CO Hf Jsp Dx jY=>?_
 .refine AP.dag (M:=M0) (T0:=T) (ds:=[Jq]) (w0:=w2.tp τ 0) (λi u _=>rV x v vm vs (λ_=>False) i u) Jf0 (λi hi=>by omega) (λi u w w' h _=>h) (λa w3 hI=>⟨rfl,hI.ds,λi hi Nq=>absurd Nq (by rw[hlV hi];omega),hI.size.trans Ag,λs hs=>hI.old s λi _=>by omega,λi hi hl=>hI.facts i hi hl,⟨hI.tch.size,λb hb=>hI.tch.heap b hb λh=>h⟩⟩) ?_ ⟨T,[Jq]⟩ (w2.tp τ 0) ⟨.refl,rfl,rfl,λ_ _=>rfl,λi hi h=>?_⟩
  .intro i o a w hip hi ho Az hs hold Vu;exact J0b3 (w0:=w2.tp τ 0) (T0:=T) (q2.cube.kept rfl rfl) q.f7 (λv b hv=>(q2.tab v b hv).kept λ_ _=>rfl) hv t0 t1 i o a w (λe=>X9 (e▸hip)) hi ho Az (hs.trans Ag) hold Vu
  grind
 obtain⟨z3,Jfk,f3,kp3⟩:=jY;have l3':=Jt rfl Jsp;have k3:KE E w Iy:=k2.trans (.step kp3 l3' CO);have q3:=q.ke k3 hB.hnd CO;have on:∀j,j=12\/j=13->l1[j]?=some true:=λj hj=>by
  obtain⟨_,_,o,ho,BK⟩:=lW Jkb;obtain rfl:o14=o:=by grind
  obtain⟨e,he,h⟩:=List.any_eq_true.1 (haf j hj)
  grind
 obtain⟨_,t46,u,b,hu8,hu,fJ,rfl⟩:=f3 12 (by omega) (on 12 (.inl rfl));obtain⟨_,t47,rfl⟩:=f3 13 (by omega) (on 13 (.inr rfl));refine Reach.call (B:=Go.Conc.base 20) (a:=⟨T3,[]⟩) Jfi (by simp[Region.wanted,hg]) (by simp[Go.Conc.base]) Ar (fn:=f33) (c:=b40) (by kernel_rfl) (by kernel_rfl) J00o λd=>?_;have e:(#[Operand.tmp 46,.tmp 47,.func 35].map (Act.eval ⟨T3,[]⟩))++Array.replicate (f33.ntmps-(#[Operand.tmp 46,.tmp 47,.func 35].map (Act.eval ⟨T3,[]⟩)).size) JA=R0 b v .all:=by
  have h1:#[Operand.tmp 46,.tmp 47,.func 35].map (Act.eval ⟨T3,[]⟩)=#[.map (some b),JK v,.func (.func 35) #[] #[]]:=by have e1:Act.eval ⟨T3,[]⟩ (.tmp 46)=.map (some b):=aQ t46;have e2:Act.eval ⟨T3,[]⟩ (.tmp 47)=JK v:=aQ t47;simp[List.map_toArray,e1,e2];rfl
  have hn:f33.ntmps=49:=by kernel_rfl
  rw[h1,hn];show _++Array.replicate 46 JA=_;rw[Jx0];simp only[R0,PV.val,PV.fn,PV.cap,List.append_toArray,G9,Gm]
 rw[e];refine Jo7 (Hf.at d) ((q3.J0b5 hu).ke Hf.hnd (.of_eq λ_ _=>rfl) λ_ h=>h) λW4 E4 w4 t4 todo m hR h6=>?_;refine Reach.leave1 (B:=Go.Conc.base 33) (a:=⟨t4,[]⟩) rfl rfl (fn:=f33) (by kernel_rfl) (x:=6) (by kernel_rfl) λd2=>?_;have e6:t4.getD 6 JA=.map (some m):=by simp_all
 rw[Jfi];simp only[Option.bind_some,hd,e6];obtain⟨Tn,Jst,sumn,-,Jem⟩:=hR.tab;have hmv:VR C0 (idE E4) (.map (some m)) (.map (some m)):=.map ⟨rfl,(Jem m (.inl rfl)).1⟩;obtain⟨T4,wV⟩:∃T4,T4=T3.setIfInBounds 48 (.map (some m)):=⟨_,rfl⟩;have QY:TmR C0 S0 20 (idE E4) T4 T4:=by rw[wV];exact(Dx.mono (Oj hR.le)).set 48 hmv λh=>by cases h
 have z4:T4.size=49:=by grind
 have o4:∀s,s≠48->T4[s]?=T3[s]?:=λs hs=>by grind
 have t48:T4[48]?=some (.map (some m)):=by grind
 have k4:KE E3 Iy w4:=(KE.of_eq (w1:=Iy.at d) λ_ _=>rfl).trans hR.ke;have q4:=q3.ke k4 Hf.hnd hR.le;have KH:=hR.bok.at d2;show Reach prog Post W4 (G ((Go.Conc.base 20).at ⟨T3.setIfInBounds 48 (.map (some m)),[]⟩ _) cs) _;rw[<- wV];refine Reach.ret (b:=Go.Conc.base 20) (X0:=[.inRegion opsV (post++[15]),.code tV]) (k:=[]) KY rfl (.cons (.inRegion _ (J09r λi hi=>?_)) (.cons (.code Jet.2.2.2.2) .nil)) Jer dfV dR (by simp[Go.Conc.base]) KH QY (Q:=λt w5=>t[4]?=some .nilIface/\HY w5 vm (λk=>if k=v then some m else vs k)/\∀b,b<w4.heap.size->b≠vm->w5.heap[b]?=w4.heap[b]?) (λτ=>?_) λE5 t5 w5 wA todo yQ fH PU EW ⟨y1,y2,y3⟩=>?_
 .grind
 .refine LGo.ops (pre:=post) (rest:=[15]) (CY.dag (M:=M0) (T0:=T4) (ds:=[Jq]) (w0:=(w4.at d2).tp τ 0) (λi u _=>rV x v vm vs (λu=>u=.map (some m)) i u) Jf0 (λi hi=>by omega) (λi u w w' h _=>h) (λa w5 hI=>?_) ?_ ⟨T4,[Jq]⟩ ((w4.at d2).tp τ 0) ⟨.refl,rfl,rfl,λ_ _=>rfl,λi hi h=>?_⟩)
  .obtain⟨_,g3,rfl⟩:=hI.facts 3 (by omega) (Au 3 (by omega));obtain⟨_,g4,rfl⟩:=hI.facts 4 (by omega) (Au 4 (by omega));obtain⟨_,g14,rfl⟩:=hI.facts 14 (by omega) (Au 14 (by omega));refine⟨rfl,hI.ds,LGo.mono (J0as (w:=w5) (q4.cube.vs.kept (hI.tch.heap vm q4.cube.vs.lt λh=>h)) hv (hI.size.trans z4) g3 g4 g14) ?_⟩;rintro g w6 ⟨t,td,rfl,p1,p2,p3,p4⟩;refine⟨t,td,rfl,λi hi Nq=>absurd Nq (by rw[hlV hi];omega),p2,p3,λb hb hn=>?_⟩;exact(p4.heap b (DX hb hI.tch.size) hn).trans (hI.tch.heap b hb λh=>h)
  .intro i o a w hip hi ho Az hs hold Vu;exact J0b3 (w0:=(w4.at d2).tp τ 0) (T0:=T4) (q4.cube.kept rfl rfl) q.f7 (λv b hv=>(q4.tab v b hv).kept λ_ _=>rfl) hv ((o4 0 (by omega)).trans ((Jfk 0 (by omega)).trans t0)) ((o4 1 (by omega)).trans ((Jfk 1 (by omega)).trans t1)) i o a w (λe=>Ij (e▸hip)) hi ho Az (hs.trans z4) hold Vu
  .by_cases e:i=14
   .subst e;exact⟨_,t48,rfl⟩
   .rw[AV (Ne.symm e)]at h
    grind[J0at]
 have l5:=Jt rfl PU;have evm:E4 vm:=hR.le _ (CO _ q.xE.2);have ex:E4 x:=hR.le _ (CO _ q.xE.1);have hle:∀b,E b->E5 b:=λb hb=>yQ _ (hR.le _ (CO _ hb));have kA:KE (λb=>E b/\b≠vm) w wA:=((k3.trans (k4.mono CO)).mono λb hb=>hb.1).trans ((KE.of_eq λb hb=>y3 b (hR.bok.lt (hR.le _ (CO _ hb.1))) hb.2).trans (l5.mono λb hb=>hle b hb.1));have c5:DU w5 x c seed h nf vm (λk=>if k=v then some m else vs k):=⟨q4.cube.blk.kept (y3 x q4.cube.blk.lt hxv),y2⟩;have nvm:∀y,y=m\/y∈tpl Tn->y≠vm:=λy hy e=>(Jem y hy).2.1 (e▸CO _ q.xE.2);refine kn W4 E5 wA t5 todo u b m Tn hu fJ hle fH kA (KE.cube c5 (yQ _ ex) (yQ _ evm) l5) ?_ sumn (λy hy=>⟨yQ _ (Jem y hy).1,λe=>(Jem y hy).2.1 (CO _ e),(Jem y hy).2.2⟩) y1;exact(Jst.kept λy hy=>y3 y (hR.bok.lt (Jem y hy).1) (nvm y hy)).ke l5 λy hy=>yQ _ (Jem y hy).1
end
section
variable{X W E E':JB}{w w':JE}{y:Nat}{c:J7}{seed nf:Int}{h:JJ}{hs:Int->Int}{vm v mm u b:Nat}{vs:Nat->Option Nat}{S:Nat->List TR}{Tn:List TR}{fs:List Jd}
def RJ(vs:Nat->Option Nat)(v mm:Nat):Nat->Option Nat:=λk=>if k=v then some mm else vs k
def RN(S:Nat->List TR)(v:Nat)(T:List TR):Nat->List TR:=λk=>if k=v then T else S k
theorem VB.upd{z:Nat}(h:VB (RJ vs v mm) (RN S v Tn) z):VB vs S z\/(z=mm\/z∈tpl Tn):=by
 obtain⟨k,b,hk,hz⟩:=h;unfold RJ at hk;unfold RN at hz;by_cases e:k=v
 .grind
 .rw[if_neg e]at hk hz;exact .inl ⟨k,b,hk,hz⟩
theorem FK.view(q:FK X E w y c seed h hs nf vm vs S)(tf:VwF c hs vs fs S)(XE:∀b,X b->E b)(hB:BOk C0 S0 W E w)(hv:v<7)(hn:vs v=none)(hh:∀y,0<=hs y/\hs y<=18446744073709551615)(hu:vs u=some b)(fJ:Rn v u=false)(le:∀b,E b->E' b)(k:KE (λb=>E b/\b≠vm) w w')
  (cu:DU w' y c seed h nf vm (RJ vs v mm)) (tab:TabAt false w' c mm Tn) (qH:Sum c (tm Tn) (Gg (S u) v (λ_=>true))) (Dw:∀y,y=mm\/y∈tpl Tn->E' y/\¬E y/\prog.globals.size<=y) (yH:prog.globals.size≠vm) :
  FK X E' w' y c seed h hs nf vm (RJ vs v mm) (RN S v Tn)/\VwF c hs (RJ vs v mm) fs (RN S v Tn):=by
 obtain⟨b2,c2,b1,b3,b4⟩:=q.bnd;have hE:∀z,VB vs S z->E z/\z≠vm:=λz hz=>⟨(q.q.tE z hz).1,λe=>q.dV.1 (e▸hz)⟩;have nE:∀z,E z->¬VB vs S z->¬VB (RJ vs v mm) (RN S v Tn) z:=λz h1 h2 h3=>h3.upd.elim h2 λh=>(Dw z h).2.1 h1;have e2:E b2:=(q.q.bE _ b1).1;have yL:VwF c hs (RJ vs v mm) fs (RN S v Tn):=λk' b' hk=>by
  unfold RJ at hk;unfold RN;by_cases e:k'=v
  .subst e;rw[if_pos rfl];have h3:=(tf u b hu).n3;have hq:QR c hs k' [] fs Tn:=tf.sum q.q.cfg q.nb hh (by omega) (λv b hv=>q.q.cube.vs.lt8 hv) (FB.nil _) u b Tn hu fJ tab.nodup qH;have:=hq.tab tab.nodup h3 (tf u b hu).n
   grind[dP]
  .rw[if_neg e]at hk ⊢;exact tf k' b' hk
 have b2v:b2≠vm:=λe=>by
  obtain⟨cur,⟨z,hz,_⟩,_⟩:=b3;obtain⟨D,⟨es,ck,h3,_⟩,_⟩:=q.q.cube.vs
  grind
 have hbv:∀b,Sv h=some b->b≠vm:=λb hb e=>by
  have hq:=q.hash;obtain⟨s,CQ⟩:∃s,w.heap[b]?=some (.cells #[JK s] 3):=by
   clear cu q;cases hq with
   |one=>cases hb
   |two h=>cases hb;grind
   |mix h=>cases hb;grind
  obtain⟨D,⟨es,ck,h3,_⟩,_⟩:=q.q.cube.vs
  grind
 have hH:E prog.globals.size:=hB.hnd;have q5:NJ E' w' y c seed h nf vm (RJ vs v mm) (RN S v Tn):={
  cube:=cu
  f7:=by show(RJ vs v mm 7).isSome=true;unfold RJ;rw[if_neg (by omega)];exact q.q.f7
  tab:=λk' b' hk=>by
   unfold RJ at hk;unfold RN;by_cases e:k'=v
   .grind
   .rw[if_neg e]at hk ⊢;exact(q.q.tab k' b' hk).ke k λz hz=>hE z ⟨k',b',hk,hz⟩
  hok:=q.q.hok.ke k ⟨hH,yH⟩
  tE:=λz hz=>hz.upd.elim (λh=>⟨le z (hE z h).1,(q.q.tE z h).2⟩) λh=>⟨(Dw z h).1,(Dw z h).2.2⟩
  bE:=λa ha=>by obtain⟨h1,h2,arr,t,h5,h6⟩:=q.q.bE a ha;rw[b1]at ha;cases ha;exact⟨le _ h1,h2,arr,t,k.blk ⟨h1,b2v⟩ h5,h6⟩
  xE:=⟨le _ q.q.xE.1,le _ q.q.xE.2⟩
  cfg:=q.q.cfg
  n:=λk' b' hk=>by have:=(yL k' b' hk).len;omega }
 refine⟨{ q:=q5,hash:=q.hash.ke k λb hb=>⟨(q.hb b hb).1,hbv b hb⟩,hb:=λb hb=>⟨le b (q.hb b hb).1,(q.hb b hb).2.1,nE b (q.hb b hb).1 (q.hb b hb).2.2⟩,bnd:=⟨b2,c2,b1,b3.keE k ⟨e2,b2v⟩,b4.1,nE b2 e2 b4.2⟩,nb:=q.nb,dis:=λi j z h1 h2=>?_,dX:=nE y q.q.xE.1 q.dX,dV:=⟨nE vm q.q.xE.2 q.dV.1,q.dV.2⟩,new:=λb hb=>⟨(q.new b hb).1,nE b (XE b hb) (q.new b hb).2⟩,far:=q.far },yL⟩;have key:∀{i},VA (RJ vs v mm) (RN S v Tn) i z->(VA vs S i z/\i≠v)\/(i=v/\(z=mm\/z∈tpl Tn)):=λ{i} h=>by
  obtain⟨b',hk,hz⟩:=h;unfold RJ at hk;unfold RN at hz;by_cases e:i=v
  .grind
  .rw[if_neg e]at hk hz;exact .inl ⟨⟨b',hk,hz⟩,e⟩
 rcases key h1 with⟨h1,n1⟩|⟨e1,h1⟩<;>rcases key h2 with⟨h2,n2⟩|⟨e2,h2⟩
 .exact q.dis i j z h1 h2
 .exact absurd (hE z ⟨i,h1⟩).1 (Dw z h2).2.1
 .exact absurd (hE z ⟨j,h2⟩).1 (Dw z h1).2.1
 grind
end
section
variable{X W E:JB}{w:JE}{y:Nat}{c:J7}{seed nf:Int}{h:JJ}{hs:Int->Int}{vm v:Nat}{vs:Nat->Option Nat}{S:Nat->List TR}{fs:List Jd}{b₀:Frame}{a₀:Act}{ops:Array Oper}{i:Nat}{rest:List Nat}{kk:List Item}{cs:List Frame}{Post:(JB)->JF->JE->Prop}
def kY(e:JJ):Prop:=e=.nilIface\/e=.iface 39 (JK 6)\/e=.iface 39 (JK 4)
theorem J098(hB:BOk C0 S0 W E w)(q:FK X E w y c seed h hs nf vm vs S)(tf:VwF c hs vs fs S)(XE:∀b,X b->E b)(XH:X prog.globals.size)(hv:v<7)(hh:∀y,0<=hs y/\hs y<=18446744073709551615)
  (kn:∀W' E' w' e LY S',kY e->(∀b,E b->E' b)->BOk C0 S0 W' E' w'->KE (λb=>E b/\b≠vm) w w'->FK X E' w' y c seed h hs nf vm LY S'->VwF c hs LY fs S'->Reach prog Post W' (G (b₀.at (a₀.put ((ops[i]?).bind (·.dst)) e) (.inRegion ops rest::kk)) cs) w') :
  Reach prog Post W (G ((Go.Conc.base 20).at ⟨tmV y v,[]⟩ [.code bV]) (b₀.at a₀ (.inRegion ops (i::rest)::kk)::cs)) w:=by
 have Bf:TmR C0 S0 20 (idE E) (tmV y v) (tmV y v):=by
  refine .bK (λu hu=>?_) λ_=>J4c;unfold tmV at hu;rw[Array.toList_append,Gn]at hu;rcases hu with hu|hu
  .simp only[AL,BU,or_false]at hu;rcases hu with rfl|rfl
   .exact .ptr _ _ ⟨rfl,q.q.xE.1⟩
   .exact .int _ _
  .simp only[Array.toList_replicate]at hu;rw[List.eq_of_mem_replicate hu];exact .undef
 have no:∀{t t':JC},t.size=49->t'.size=49->∀i,(C0.hl 20).contains i=true->t[i]?=t'[i]?:=λ{t t'} h1 h2 i hi=>by
  grind[hlV,Array.getElem?_eq_none]
 have z0:(tmV y v).size=49:=by simp[tmV]
 have v0:V2 y v (tmV y v):=⟨z0,by simp[tmV],by simp[tmV]⟩;have early:∀{E' t w' todo e},kY e->(∀b,E b->E' b)->BOk C0 S0 W E' w'->KE E w w'->t[4]?=some e->Reach prog Post W (G { (Go.Conc.base 20).at ⟨t,[]⟩ todo with mode:=.returning } (b₀.at a₀ (.inRegion ops (i::rest)::kk)::cs)) w':=λ{E' t w' todo e} he le Gq k h4=>by
  refine Reach.leave1 (B:=Go.Conc.base 20) rfl rfl (fn:=f20) (by kernel_rfl) (x:=4) (by kernel_rfl) λd12=>?_;rw[show(Act.mk t []).tmps.getD 4 JA=e from by simp_all];have kd:KE E w (w'.at d12):=k.trans (.of_eq λ_ _=>rfl);exact kn W E' (w'.at d12) e vs S he le (Gq.at d12) (kd.mono λb hb=>hb.1) ((q.ke kd hB.hnd le)) tf
 rw[J0ci];refine J6 (λw1=>stepG_seq) rfl λd1=>?_;refine Reach.piece (b:=Go.Conc.base 20) KY rfl Jet.1 Jer dfV dR (by simp[Go.Conc.base]) (hB.at d1) Bf (Q:=λe t w1=>e=.normal/\V2 y v t/\w1.heap=w.heap) (λτ=>view0 (w:=(w.at d1).tp τ 0) v0 λT' h=>⟨.inl rfl,λi hi=>no h.1 z0 i hi,rfl,h,rfl⟩) (λE1 T1 w1 wa U0 CV AP Az DN=>?_) (λE1 t1 w1 Am todo AQ CV AP Az DN=>by cases DN.1);obtain⟨-,v1,h1⟩:=DN;have k1:KE E w wa:=(KE.of_eq λb _=>by rw[h1]).trans ((Jt rfl AP).mono U0);have q1:=q.ke k1 hB.hnd U0;refine J6 (λw1=>stepG_seq) rfl λd2=>?_;refine Reach.piece (b:=Go.Conc.base 20) KY rfl Jet.2.1 Jer dfV dR (by simp[Go.Conc.base]) (CV.at d2) Az (Q:=λe t w1=>e=.normal/\V2 y v t/\w1.heap=wa.heap) (λτ=>J0ck (w:=(wa.at d2).tp τ 0) (q1.q.cube.kept rfl rfl) hv v1 λT' h=>⟨.inl rfl,λi hi=>no h.1 v1.1 i hi,rfl,h,rfl⟩) (λE2 T2 w2 wb Tc Dt Dv Bc Qb=>?_) (λE1 t1 w1 Am todo AQ CV AP Az DN=>by cases DN.1);obtain⟨-,v2,h2⟩:=Qb;have k2:KE E1 wa wb:=(KE.of_eq λb _=>by rw[h2]).trans ((Jt rfl Dv).mono Tc);have q2:=q1.ke k2 CV.hnd Tc;refine J6 (λw1=>stepG_seq) rfl λd3=>?_;refine Reach.piece (b:=Go.Conc.base 20) KY rfl Jet.2.2.1 Jer dfV dR (by simp[Go.Conc.base]) (Dt.at d3) Bc (Q:=λe t w1=>(e=.normal/\V2 y v t/\vs v=none\/e=.ret/\t[4]?=some (.iface 39 (JK 6)))/\w1.heap=wb.heap) (λτ=>J0cl (w:=(wb.at d3).tp τ 0) (q2.q.cube.kept rfl rfl) hv v2 (λhn T' h=>⟨.inl rfl,λi hi=>no h.1 v2.1 i hi,.inl ⟨rfl,h,hn⟩,rfl⟩) λT' hz h=>⟨.inr rfl,λi hi=>no hz v2.1 i hi,.inr ⟨rfl,h⟩,rfl⟩) (λE3 T3 w3 wc Ti Hf CY Dx jY=>?_) (λE3 T3 w3 wc todo Ti Hf CY Dx jY=>?_)
 rotate_left
 .obtain⟨h|h,h3⟩:=jY
  .cases h.1
  .exact early (.inr (.inl rfl)) (λb hb=>Ti b (Tc b (U0 b hb))) Hf (k1.trans ((k2.mono U0).trans (((KE.of_eq λb _=>by rw[h3]).trans ((Jt rfl CY).mono Ti)).mono λb hb=>Tc b (U0 b hb)))) h.2
 obtain⟨h|h,h3⟩:=jY
 rotate_left
 .cases h.1
 obtain⟨-,v3,hn⟩:=h;have k3:KE E2 wb wc:=(KE.of_eq λb _=>by rw[h3]).trans ((Jt rfl CY).mono Ti);have q3:=q2.ke k3 Dt.hnd Ti;refine J6 (λw1=>stepG_seq) rfl λd4=>?_;refine Reach.piece (b:=Go.Conc.base 20) KY rfl Jet.2.2.2.1 Jer dfV dR (by simp[Go.Conc.base]) (Hf.at d4) Dx (Q:=λe t w1=>(e=.normal/\V2 y v t\/e=.ret/\t[4]?=some (.iface 39 (JK 4)))/\w1.heap=wc.heap) (λτ=>J0cm (w:=(wc.at d4).tp τ 0) (q3.q.cube.kept rfl rfl) v3 (λT' h=>⟨.inl rfl,λi hi=>no h.1 v3.1 i hi,.inl ⟨rfl,h⟩,rfl⟩) λT' hz h=>⟨.inr rfl,λi hi=>no hz v3.1 i hi,.inr ⟨rfl,h⟩,rfl⟩) (λE4 T4 w4 wd Td KH PS QY hq4=>?_) (λE4 T4 w4 wd todo Td KH PS QY hq4=>?_)
 rotate_left
 .obtain⟨h|h,h4⟩:=hq4
  .cases h.1
  .exact early (.inr (.inr rfl)) (λb hb=>Td b (Ti b (Tc b (U0 b hb)))) KH (k1.trans ((k2.mono U0).trans ((k3.mono λb hb=>Tc b (U0 b hb)).trans (((KE.of_eq λb _=>by rw[h4]).trans ((Jt rfl PS).mono Td)).mono λb hb=>Ti b (Tc b (U0 b hb)))))) h.2
 obtain⟨h|h,h4⟩:=hq4
 rotate_left
 .cases h.1
 obtain⟨-,v4⟩:=h;have YN:∀b,E b->E4 b:=λb hb=>Td b (Ti b (Tc b (U0 b hb)));have k4:KE E3 wc wd:=(KE.of_eq λb _=>by rw[h4]).trans ((Jt rfl PS).mono Td);have kE:KE E w wd:=k1.trans ((k2.mono U0).trans ((k3.mono λb hb=>Tc b (U0 b hb)).trans (k4.mono λb hb=>Ti b (Tc b (U0 b hb)))));have q4:=q3.ke k4 Hf.hnd Td;have yH:prog.globals.size≠vm:=(q.far _ XH).1;refine J07f KH q4.q (Ne.symm q4.dV.2) (by omega) QY v4.1 v4.2.1 v4.2.2 λW' E' w' t' todo u b mm Tn hu fJ yQ fH k5 cu tab qH Dw t4=>?_;obtain⟨qn,tn⟩:=q4.view tf (λb hb=>YN b (XE b hb)) KH hv hn hh hu fJ yQ k5 cu tab qH Dw yH;refine Reach.leave1 (B:=Go.Conc.base 20) rfl rfl (fn:=f20) (by kernel_rfl) (x:=4) (by kernel_rfl) λd12=>?_;rw[show(Act.mk t' []).tmps.getD 4 JA=.nilIface from by simp_all];have kd:KE E' w' (w'.at d12):=.of_eq λ_ _=>rfl;refine kn W' E' (w'.at d12) .nilIface _ _ (.inl rfl) (λb hb=>yQ b (YN b hb)) (fH.at d12) ?_ (qn.ke kd fH.hnd λ_ h=>h) tn;exact(kE.mono λb hb=>hb.1).trans ((k5.mono λb hb=>⟨YN b hb.1,hb.2⟩).trans (.of_eq λ_ _=>rfl))
end
def FsE(E:JB)(w:JE)(ga:JI)(fs:List Jd)(cap:Nat):Prop:=∃pl,(∀p∈pl,E p/\∃o,w.heap[p]?=some o/\Dat o)/\G8 false w ga fs cap pl
theorem FsE.ke{E:JB}{w w':JE}{ga:JI}{fs:List Jd}{cap:Nat}(h:FsE E w ga fs cap)(k:KE E w w'):FsE E w' ga fs cap:=by
 obtain⟨pl,hp,fa⟩:=h;refine⟨pl,λp V4=>?_,fa.kept λp V4=>?_⟩
 .obtain⟨q1,o,q2,q3⟩:=hp p V4;exact⟨q1,o,k _ _ q1 q2 q3,q3⟩
 .obtain⟨q1,o,q2,q3⟩:=hp p V4;rw[q2,k _ _ q1 q2 q3]
section
variable{X E E':JB}{w w' w1:JE}{y:Nat}{c:J7}{seed nf:Int}{h:JJ}{hs:Int->Int}{vm:Nat}{vs LY:Nat->Option Nat}{S:Nat->List TR}{fs:List Jd}
theorem FK.narrow{Y:JB}(q:FK X E w y c seed h hs nf vm vs S)(hy:Y y/\Y vm)(ht:∀z,VB vs S z->Y z)(hb:∀a,c.ba=some a->Y a.block)(hh:∀b,Sv h=some b->Y b):FK X (λb=>E b/\Y b) w y c seed h hs nf vm vs S:=
 { q with
  q:={ q.q with
   tE:=λz hz=>⟨⟨(q.q.tE z hz).1,ht z hz⟩,(q.q.tE z hz).2⟩
   bE:=λa ha=>⟨⟨(q.q.bE a ha).1,hb a ha⟩,(q.q.bE a ha).2⟩
   xE:=⟨⟨q.q.xE.1,hy.1⟩,q.q.xE.2,hy.2⟩ }
  hb:=λb e=>⟨⟨(q.hb b e).1,hh b e⟩,(q.hb b e).2⟩ }
theorem FK.J0dy{Z:JB}(q:FK X E w y c seed h hs nf vm vs S)(k:KE (λb=>E b/\¬Z b) w w')(hZ:∀b,Z b->X b/\b≠prog.globals.size)(hH:E prog.globals.size)(hE:∀b,E b->E' b):FK X E' w' y c seed h hs nf vm vs S:=
 (q.narrow (Y:=λb=>¬Z b) ⟨λhz=>(q.new _ (hZ _ hz).1).1 rfl,λhz=>(q.far _ (hZ _ hz).1).1 rfl⟩ (λz hz e=>(q.new _ (hZ _ e).1).2 hz) (λa ha e=>(q.far _ (hZ _ e).1).2.1 a ha rfl) (λb hb e=>(q.far _ (hZ _ e).1).2.2 hb)).ke k ⟨hH,λhz=>(hZ _ hz).2 rfl⟩ λb hb=>hE b hb.1
theorem FK.fewer(q:FK X E w y c seed h hs nf vm vs S)(tf:VwF c hs vs fs S)(XE:∀b,X b->E b)(hH:E prog.globals.size)(yH:prog.globals.size≠vm)(le:∀b,E b->E' b)(k:KE (λb=>E b/\b≠vm) w w')(cu:DU w' y c seed h nf vm LY)(sub:∀k b,LY k=some b->vs k=some b)(h7:LY 7=vs 7) :
  FK X E' w' y c seed h hs nf vm LY S/\VwF c hs LY fs S:=by
 obtain⟨b2,c2,b1,b3,b4⟩:=q.bnd;have Jen:∀z,VB LY S z->VB vs S z:=λz ⟨u,b,hu,hz⟩=>⟨u,b,sub u b hu,hz⟩;have hE:∀z,VB vs S z->E z/\z≠vm:=λz hz=>⟨(q.q.tE z hz).1,λe=>q.dV.1 (e▸hz)⟩;have e2:E b2:=(q.q.bE _ b1).1;have b2v:b2≠vm:=λe=>by
  obtain⟨cur,⟨z,hz,_⟩,_⟩:=b3;obtain⟨D,⟨es,ck,h3,_⟩,_⟩:=q.q.cube.vs
  grind
 have hbv:∀b,Sv h=some b->b≠vm:=λb hb e=>by
  have hq:=q.hash;obtain⟨s,CQ⟩:∃s,w.heap[b]?=some (.cells #[JK s] 3):=by
   clear cu q;cases hq with
   |one=>cases hb
   |two h=>cases hb;grind
   |mix h=>cases hb;grind
  obtain⟨D,⟨es,ck,h3,_⟩,_⟩:=q.q.cube.vs
  grind
 have q5:NJ E' w' y c seed h nf vm LY S:={
   cube:=cu
   f7:=by rw[h7];exact q.q.f7
   tab:=λu b hu=>(q.q.tab u b (sub u b hu)).ke k λz hz=>hE z ⟨u,b,sub u b hu,hz⟩
   hok:=q.q.hok.ke k ⟨hH,yH⟩
   tE:=λz hz=>⟨le z (hE z (Jen z hz)).1,(q.q.tE z (Jen z hz)).2⟩
   bE:=λa ha=>by obtain⟨h1,h2,arr,t,h5,h6⟩:=q.q.bE a ha;rw[b1]at ha;cases ha;exact⟨le _ h1,h2,arr,t,k.blk ⟨h1,b2v⟩ h5,h6⟩
   xE:=⟨le _ q.q.xE.1,le _ q.q.xE.2⟩
   cfg:=q.q.cfg
   n:=λu b hu=>q.q.n u b (sub u b hu) }
 refine⟨{ q:=q5,hash:=q.hash.ke k λb hb=>⟨(q.hb b hb).1,hbv b hb⟩,hb:=λb hb=>⟨le b (q.hb b hb).1,(q.hb b hb).2.1,λe=>(q.hb b hb).2.2 (Jen _ e)⟩,bnd:=⟨b2,c2,b1,b3.keE k ⟨e2,b2v⟩,b4.1,λe=>b4.2 (Jen _ e)⟩,nb:=q.nb,dis:=λi j z ⟨bi,hi,h1⟩ ⟨bj,hj,h2⟩=>q.dis i j z ⟨bi,sub i bi hi,h1⟩ ⟨bj,sub j bj hj,h2⟩,dX:=λe=>q.dX (Jen _ e),dV:=⟨λe=>q.dV.1 (Jen _ e),q.dV.2⟩,new:=λb hb=>⟨(q.new b hb).1,λe=>(q.new b hb).2 (Jen _ e)⟩,far:=q.far },λu b hu=>tf u b (sub u b hu)⟩
end
structure S6(X0 X Ei:JB)(wi:JE)(hs:Int->Int)(gs:List Jd)(ga:JI)(c2:Nat)(c:Int)(x:Nat)(cx:J7)(hx:JJ)(nx:Int)(vx:Nat)(px:Nat->Option Nat)(Sx:Nat->List TR)(y:Nat)(cy:J7)(hy:JJ)(ny:Int)(vy:Nat)(py:Nat->Option Nat)(Sy:Nat->List TR)(E:JB)(w:JE):Prop where
 ke:KE Ei wi w
 le0:∀b,Ei b->X0 b
 le:∀b,X0 b->X b
 XE:∀b,X b->E b
 XH:X0 prog.globals.size
 qx:FK X0 X w x cx c hx hs nx vx px Sx
 qy:FK X E w y cy c hy hs ny vy py Sy
 fa:FsE X0 w ga gs c2
def YB(y:Nat)(cy:J7)(hy:JJ)(vy:Nat)(py:Nat->Option Nat)(Sy:Nat->List TR)(b:Nat):Prop:=b=y\/VB py Sy b\/b=vy\/(∃a,cy.ba=some a/\b=a.block)\/Sv hy=some b
section
variable{X0 X Ei:JB}{wi:JE}{hs:Int->Int}{fs gs:List Jd}{ga:JI}{c2:Nat}{c:Int}{x:Nat}{cx:J7}{hx:JJ}{nx:Int}{vx:Nat}{px:Nat->Option Nat}{Sx:Nat->List TR}{y:Nat}{cy:J7}{hy:JJ}{ny:Int}{vy:Nat}{py py':Nat->Option Nat}{Sy qM:Nat->List TR}{E E' W:JB}{w w' wb:JE}{τ:Nat->Question->Nat}
theorem YB.no(q:FK X E w y cy c hy hs ny vy py Sy){b:Nat}(h:X b):¬YB y cy hy vy py Sy b:=by
 rintro(e|e|e|⟨a,e,e'⟩|e)
 .exact(q.new b h).1 e
 .exact(q.new b h).2 e
 .exact(q.far b h).1 e
 .exact(q.far b h).2.1 a e e'
 .exact(q.far b h).2.2 e
theorem YB.inE(q:FK X E w y cy c hy hs ny vy py Sy){b:Nat}(h:YB y cy hy vy py Sy b):E b:=by
 rcases h with rfl|e|rfl|⟨a,e,rfl⟩|e
 .exact q.q.xE.1
 .exact(q.q.tE _ e).1
 .exact q.q.xE.2
 .exact(q.q.bE a e).1
 .exact(q.hb b e).1
variable(s:S6 X0 X Ei wi hs gs ga c2 c x cx hx nx vx px Sx y cy hy ny vy py Sy E w)
include s
theorem S6.H:E prog.globals.size:=s.XE _ (s.le _ s.XH)
theorem S6.step(kX:KE X w w')(le:∀b,E b->E' b)(qy':FK X E' w' y cy c hy hs ny vy py' qM):S6 X0 X Ei wi hs gs ga c2 c x cx hx nx vx px Sx y cy hy ny vy py' qM E' w':=
 ⟨s.ke.trans (kX.mono λb hb=>s.le b (s.le0 b hb)),s.le0,s.le,λb hb=>le b (s.XE b hb),s.XH,s.qx.ke kX (s.le _ s.XH) λ_ h=>h,qy',s.fa.ke (kX.mono s.le)⟩
theorem S6.to(k:KE E w w')(le:∀b,E b->E' b):S6 X0 X Ei wi hs gs ga c2 c x cx hx nx vx px Sx y cy hy ny vy py Sy E' w':=
 s.step (k.mono s.XE) le (s.qy.ke k s.H le)
theorem S6.turn(k:KE (λb=>E b/\b≠vy) w w')(le:∀b,E b->E' b)(qy':FK X E' w' y cy c hy hs ny vy py' qM):S6 X0 X Ei wi hs gs ga c2 c x cx hx nx vx px Sx y cy hy ny vy py' qM E' w':=
 s.step (k.mono λb hb=>⟨s.XE b hb,(s.qy.far b hb).1⟩) le qy'
theorem S6.qxE:FK X0 E w x cx c hx hs nx vx px Sx:=s.qx.ke .refl (s.le _ s.XH) s.XE
theorem S6.inX(hB:BOk C0 S0 W E w)(hgo:∀f∈gs,RH f/\BI f.k∈U64)(xK:gs.length<=200)(h0:0<=nx/\nx<=2000)(tf:VwF cx hs px fs Sx)(IQ:∀f∈fs,BI f.k∈U64):∃pl,∀τ,Jx1 (w.tp τ 0) x cx c hx nx vx px Sx ga gs c2 pl hs Dc U64:=by obtain⟨pl,hp,fa⟩:=s.fa;obtain⟨b7,h7⟩:=Option.isSome_iff_exists.1 s.qx.q.f7;exact⟨pl,λτ=>s.qxE.ing hB fa (λb hb=>s.qx.new b (hp b hb).1) hgo xK h0 (J09x (tf 7 b7 h7) IQ) τ⟩
theorem S6.inY(hB:BOk C0 S0 W E w)(hgo:∀f∈gs,RH f/\BI f.k∈U64)(xK:gs.length<=200)(h0:0<=ny/\ny<=2000)(tf:VwF cy hs py fs Sy)(IQ:∀f∈fs,BI f.k∈U64):∃pl,∀τ,Jx1 (w.tp τ 0) y cy c hy ny vy py Sy ga gs c2 pl hs Dc U64:=by obtain⟨pl,hp,fa⟩:=s.fa;obtain⟨b7,h7⟩:=Option.isSome_iff_exists.1 s.qy.q.f7;exact⟨pl,λτ=>s.qy.ing hB fa (λb hb=>s.qy.new b (s.le b (hp b hb).1)) hgo xK h0 (J09x (tf 7 b7 h7) IQ) τ⟩
theorem S6.ingX(hB:BOk C0 S0 W E w)(le:∀b,E b->E' b)(hH:E' prog.globals.size)(hW:WR C0 (okP C0 S0) (idE E') wb w')(o:eF (w.tp τ 0) x cx c hx nx vx px Sx hs Dc gs wb)(tf:VwF cx hs px fs Sx)(hn:(fs++gs).length<=400)(h3:∀f∈gs,f.k.length=3) :
  ∃X' Sx',S6 X0 X' Ei wi hs gs ga c2 c x cx hx (nx+gs.length) vx px Sx' y cy hy ny vy py Sy E' w'/\VwF cx hs px (fs++gs) Sx':=by
 obtain⟨Sx',q',yL,k,D8⟩:=s.qxE.J090 s.XH (λb hb=>s.XE b (s.le b hb)) hB le hH hW o tf hn h3;have kf:KE (λb=>E b/\¬(b=x\/VB px Sx b)) w w':=k.mono λb hb=>⟨hb.1,λh=>hb.2 (.inl h),λh=>hb.2 (.inr h)⟩;have no:∀b,X b->¬YB y cy hy vy py Sy b:=λb hb=>YB.no s.qy hb;have qx:=s.qx.q;have qy':=s.qy.J0dy kf (λb hb=>⟨by
  rcases hb with rfl|hb
  .exact qx.xE.1
  .exact(qx.tE _ hb).1,λe=>by
  subst e;have:=s.qx.new _ s.XH
  grind⟩) s.H le
 refine⟨λb=>E' b/\¬YB y cy hy vy py Sy b,Sx',⟨s.ke.trans (k.mono λb hb=>?_),s.le0,λb hb=>⟨le b (s.XE b (s.le b hb)),no b (s.le b hb)⟩,λb hb=>hb.1,s.XH,q'.narrow (Y:=λb=>¬YB y cy hy vy py Sy b) ⟨no _ qx.xE.1,no _ qx.xE.2⟩ (λz hz=>?_) (λa ha=>no _ (qx.bE a ha).1) (λb hb=>no _ (s.qx.hb b hb).1),{ qy' with new:=λb hb=>?_,far:=λb hb=>?_ },s.fa.ke (k.mono λb hb=>?_)⟩,yL⟩
 .have h0:=s.le0 b hb;exact⟨s.XE b (s.le b h0),s.qx.new b h0⟩
 .rcases D8 z hz with h|h
  .exact no _ (qx.tE _ h).1
  .exactλe=>by have:=hB.lt (YB.inE s.qy e);omega
 .exact⟨λe=>hb.2 (.inl e),λe=>hb.2 (.inr (.inl e))⟩
 .exact⟨λe=>hb.2 (.inr (.inr (.inl e))),λa ha e=>hb.2 (.inr (.inr (.inr (.inl ⟨a,ha,e⟩)))),λe=>hb.2 (.inr (.inr (.inr (.inr e))))⟩
 .exact⟨s.XE b (s.le b hb),s.qx.new b hb⟩
theorem S6.ingY(hB:BOk C0 S0 W E w)(le:∀b,E b->E' b)(hH:E' prog.globals.size)(hW:WR C0 (okP C0 S0) (idE E') wb w')(o:eF (w.tp τ 0) y cy c hy ny vy py Sy hs Dc gs wb)(tf:VwF cy hs py fs Sy)(hn:(fs++gs).length<=400)(h3:∀f∈gs,f.k.length=3) :
  ∃qM,S6 X0 X Ei wi hs gs ga c2 c x cx hx nx vx px Sx y cy hy (ny+gs.length) vy py qM E' w'/\VwF cy hs py (fs++gs) qM:=by
 obtain⟨qM,q',yL,k,_⟩:=s.qy.J090 (s.le _ s.XH) s.XE hB le hH hW o tf hn h3;have kX:KE X w w':=k.mono λb hb=>⟨s.XE b hb,s.qy.new b hb⟩;exact⟨qM,⟨s.ke.trans (kX.mono λb hb=>s.le b (s.le0 b hb)),s.le0,s.le,λb hb=>le b (s.XE b hb),s.XH,s.qx.ke kX (s.le _ s.XH) λ_ h=>h,q',s.fa.ke (kX.mono s.le)⟩,yL⟩
end
theorem Pg(f:Nat->JJ):((List.range 143).map f).toArray=#[f 0,f 1,f 2,f 3,f 4,f 5,f 6,f 7,f 8,f 9,f 10,f 11,f 12,f 13,f 14,f 15,f 16,f 17,f 18,f 19,f 20,f 21,f 22,f 23,f 24,f 25,f 26,f 27,f 28,f 29,f 30,f 31,f 32,f 33,f 34,f 35,f 36,f 37,f 38,f 39,f 40,f 41,f 42,f 43,f 44,f 45,f 46,f 47,f 48,f 49,f 50,f 51,f 52,f 53,f 54,f 55,f 56,f 57,f 58,f 59,f 60,f 61,f 62,f 63,f 64,f 65,f 66,f 67,f 68,f 69,f 70,f 71,f 72,f 73,f 74,f 75,f 76,f 77,f 78,f 79,f 80,f 81,f 82,f 83,f 84,f 85,f 86,f 87,f 88,f 89,f 90,f 91,f 92,f 93,f 94,f 95,f 96,f 97,f 98,f 99,f 100,f 101,f 102,f 103,f 104,f 105,f 106,f 107,f 108,f 109,f 110,f 111,f 112,f 113,f 114,f 115,f 116,f 117,f 118,f 119,f 120,f 121,f 122,f 123,f 124,f 125,f 126,f 127,f 128,f 129,f 130,f 131,f 132,f 133,f 134,f 135,f 136,f 137,f 138,f 139,f 140,f 141,f 142]:=by rfl
theorem NQ{T:JC}(h:T.size=143):∃f:Nat->JJ,T=((List.range 143).map f).toArray:=⟨_,dM h⟩
def dX:Nat->Code
 |0=>f6.body.getD .skip
 |n+1=>sC (dX n)
def cX(n:Nat):Code:=fC (dX n)
def oX(n:Nat):Array Oper:=opsOf (cX n)
def rX:Code:=fC (cX 6)
def lX:Code:=lC (bC (sC (cX 6)))
def tX:Array Oper:=opsOf (fC (fC lX))
def bX:Nat->Code
 |0=>bC (fC (sC lX))
 |n+1=>sC (bX n)
def gX(n:Nat):Code:=fC (bX n)
def qX(n:Nat):Array Oper:=opsOf (gX n)
def iX:Code:=sC (sC lX)
theorem J0co:dX 0=.seq (cX 0) (.seq (.region 1 (oX 1) false) (.seq (.region 2 (oX 2) false) (.seq (.region 3 (oX 3) false) (.seq (.region 4 (oX 4) false) (.seq (cX 5) (.seq (cX 6) (.seq (cX 7) (.seq (cX 8) (.seq (cX 9) (.seq (cX 10) (.seq (cX 11) (.seq (.region 27 (oX 12) false) (.seq (.region 28 (oX 13) false) (dX 14)))))))))))))):=by kernel_rfl
theorem J0bm:cX 6=.seq rX (.block 0 (.loop lX)):=by kernel_rfl
theorem J0b4:lX=.seq (.seq (.region 8 tX false) (.cond (.tmp 53) .skip (.exit 0))) (.seq (.block 1 (.seq (.region 10 (qX 0) false) (.seq (.region 11 (qX 1) false) (.seq (gX 2) (.seq (.region 14 (qX 3) false) (bX 4)))))) iX):=by kernel_rfl
theorem J0cp:f6.body=some (dX 0):=by kernel_rfl
theorem okX:([0,5,7,8,9,10,11].all λn=>Ji C0 S0 6 (cX n))=true:=by kernel_rfl
theorem J0cq:Ji C0 S0 6 (dX 14)=true:=by kernel_rfl
theorem qY:Ji C0 S0 6 (gX 2)=true/\Ji C0 S0 6 (bX 4)=true/\Ji C0 S0 6 rX=true/\Ji C0 S0 6 iX=true:=⟨by kernel_rfl,by kernel_rfl,by kernel_rfl,by kernel_rfl⟩
theorem TG{n:Nat}(h:n∈([0,5,7,8,9,10,11]:List Nat)):Ji C0 S0 6 (cX n)=true:=by
 grind[okX,List.all_eq_true]
theorem Jew:GY C0 6:=⟨f6,by kernel_rfl,by kernel_rfl,by kernel_rfl⟩
theorem hlX{i:Nat}(h:(C0.hl 6).contains i=true):i∈([1,2,3,30,32,47,56,58]:List Nat)\/500<=i:=by have h':i∈[1,2,3,30,32,47,56,58,1000]:=Lj.1 h;simp only[AL,BU,or_false]at h' ⊢;omega
def kX(d:Nat):List Nat:=[1,2,3,30,32,47,56,58,0,4,5,13,14,15,16,17,18,19,20,22,23,24,25,28,29].filter (· != d)
section
variable{w:JE}{T:JC}{ds:List Deferred}{x y n i m c2:Nat}{mz key:Int}{ga:JI}{v:JJ}{Q:Exit->Act->JE->Prop}
theorem J0bn(Ag:T.size=143)
  (hQ:∀T':JC,T'.size=143->(∀i∈kX 12,T'[i]?=T[i]?)->Q .normal ⟨T',ds⟩ w) :
  (cX 0).wp prog Q ⟨T,ds⟩ w:=by
 obtain⟨f,rfl⟩:=NQ Ag;rw[Pg]at *;simp only[cX,dX,fC,sC,bC,lC,f6,A8];go_wp2;exact hQ _ rfl (by(repeat refine List.forall_mem_cons.2 ⟨rfl,?_⟩);grind)
theorem J0bo(Ag:T.size=143)(PN:T[15]?=some (pt x))(Ub:T[16]?=some (pt y))
  (hQ:∀T':JC,T'.size=143->(∀i∈kX 12,T'[i]?=T[i]?)->Q .normal ⟨T',ds⟩ w) :
  (cX 5).wp prog Q ⟨T,ds⟩ w:=by
 obtain⟨f,rfl⟩:=NQ Ag;rw[Pg]at *;have KG:f 15=_:=Aa PN;have PG:f 16=_:=Aa Ub;rw[KG,PG]at hQ ⊢;clear PN KG Ub PG;simp only[cX,dX,fC,sC,bC,lC,f6,A8];go_wp2;exact hQ _ rfl (by(repeat refine List.forall_mem_cons.2 ⟨rfl,?_⟩);grind)
theorem J0cr(Ag:T.size=143)
  (hQ:∀T':JC,T'.size=143->(∀i∈kX 17,T'[i]?=T[i]?)->T'[17]?=some (JK 0)->Q .normal ⟨T',ds⟩ w) :
  rX.wp prog Q ⟨T,ds⟩ w:=by
 obtain⟨f,rfl⟩:=NQ Ag;rw[Pg]at *;simp only[rX,cX,dX,fC,sC,bC,lC,f6,A8];go_wp2;exact hQ _ rfl (by(repeat refine List.forall_mem_cons.2 ⟨rfl,?_⟩);grind) rfl
theorem J0cs(hi:i<1000)(Ag:T.size=143)(WZ:T[17]?=some (JK i))
  (hQ:∀T':JC,T'.size=143->(∀i∈kX 17,T'[i]?=T[i]?)->T'[17]?=some (JK (i+1:Nat))->Q .normal ⟨T',ds⟩ w) :
  iX.wp prog Q ⟨T,ds⟩ w:=by
 obtain⟨f,rfl⟩:=NQ Ag;rw[Pg]at *;have PK:f 17=_:=Aa WZ;rw[PK]at hQ ⊢;clear WZ PK;simp only[iX,lX,cX,dX,fC,sC,bC,lC,f6,A8];go_wp2;refine hQ _ rfl (by(repeat refine List.forall_mem_cons.2 ⟨rfl,?_⟩);grind) ?_
 go_num
theorem J0bp{R:JJ->JE->Prop}(hi:i<10)(hd:Calls prog 21 #[pt y,JK m] w λe w'=>∃u,e=.returned u/\R u w')(Ag:T.size=143)(Ub:T[16]?=some (pt y))(WZ:T[17]?=some (JK i))(Nc:T[18]?=some (JK m))(h19:T[19]?=some v)
  (hQ:∀(T':JC) w' u,T'.size=143->(∀i∈kX 19,T'[i]?=T[i]?)->T'[19]?=some u->(u=v/\w'=w\/R u w')->Q .normal ⟨T',ds⟩ w') :
  (gX 2).wp prog Q ⟨T,ds⟩ w:=by
 obtain⟨f,rfl⟩:=NQ Ag;rw[Pg]at *;have PG:f 16=_:=Aa Ub;have PK:f 17=_:=Aa WZ;have Na:f 18=_:=Aa Nc;have S9:f 19=_:=Aa h19;rw[PG,PK,Na,S9]at hQ ⊢;clear Ub PG WZ PK Nc Na h19 S9;simp only[gX,bX,lX,cX,dX,fC,sC,bC,lC,f6,A8];rcases Bool.eq_false_or_eq_true ((i:Int) % 3 == 2)with h3|h3
 .go_wp2_with (go_at_call 21;refine hd.mono ?_;rintro e w1 ⟨u,rfl,hr⟩)
  exact hQ _ _ u rfl (by(repeat refine List.forall_mem_cons.2 ⟨rfl,?_⟩);grind) rfl (.inr hr)
 .go_wp2;exact hQ _ _ v rfl (by(repeat refine List.forall_mem_cons.2 ⟨rfl,?_⟩);grind) rfl (.inl ⟨rfl,rfl⟩)
theorem J0bq{e:Int}(he:e=0\/e=4\/e=6\/e=7)(Ag:T.size=143)(vV:T[20]?=some (JK e))
  (hQ:∀T':JC,T'.size=143->(∀i∈kX 12,T'[i]?=T[i]?)->Q .normal ⟨T',ds⟩ w) :
  (bX 4).wp prog Q ⟨T,ds⟩ w:=by
 obtain⟨f,rfl⟩:=NQ Ag;rw[Pg]at *;have Vl:f 20=_:=Aa vV;rw[Vl]at hQ ⊢;clear vV Vl;simp only[bX,lX,cX,dX,fC,sC,bC,lC,f6,A8];rcases he with rfl|rfl|rfl|rfl
 all_goals
  go_wp2;exact hQ _ rfl (by(repeat refine List.forall_mem_cons.2 ⟨rfl,?_⟩);grind)
theorem J0br{R:JE->Prop}(hc:Calls prog 22 #[pt x,.slice ga n c2] w λe w'=>e=.returned .nilIface/\R w')(Ag:T.size=143)(PN:T[15]?=some (pt x))(Ua:T[14]?=some (.slice ga n c2))
  (hQ:∀(T':JC) w',T'.size=143->(∀i∈kX 22,T'[i]?=T[i]?)->T'[22]?=some .nilIface->R w'->Q .normal ⟨T',ds⟩ w') :
  (cX 7).wp prog Q ⟨T,ds⟩ w:=by
 obtain⟨f,rfl⟩:=NQ Ag;rw[Pg]at *;have KG:f 15=_:=Aa PN;have O5:f 14=_:=Aa Ua;rw[KG,O5]at hQ ⊢;clear PN KG Ua O5;simp only[cX,dX,fC,sC,bC,lC,f6,A8]
 go_wp2_with (go_at_call 22;refine hc.mono ?_;rintro e w1 ⟨rfl,hr⟩)
 exact hQ _ _ rfl (by(repeat refine List.forall_mem_cons.2 ⟨rfl,?_⟩);grind) rfl hr
theorem J0bs{R:JE->Prop}(hc:Calls prog 22 #[pt x,.slice ga n c2] w λe w'=>e=.returned .nilIface/\R w')(Ag:T.size=143)(Ub:T[16]?=some (pt x))(Ua:T[14]?=some (.slice ga n c2))
  (hQ:∀(T':JC) w',T'.size=143->(∀i∈kX 23,T'[i]?=T[i]?)->T'[23]?=some .nilIface->R w'->Q .normal ⟨T',ds⟩ w') :
  (cX 8).wp prog Q ⟨T,ds⟩ w:=by
 obtain⟨f,rfl⟩:=NQ Ag;rw[Pg]at *;have PG:f 16=_:=Aa Ub;have O5:f 14=_:=Aa Ua;rw[PG,O5]at hQ ⊢;clear Ub PG Ua O5;simp only[cX,dX,fC,sC,bC,lC,f6,A8]
 go_wp2_with (go_at_call 22;refine hc.mono ?_;rintro e w1 ⟨rfl,hr⟩)
 exact hQ _ _ rfl (by(repeat refine List.forall_mem_cons.2 ⟨rfl,?_⟩);grind) rfl hr
theorem J0bt(hm:I64 mz)(Ag:T.size=143)(h4:T[4]?=some (JK mz))
  (hQ:∀T':JC,T'.size=143->(∀i∈kX 24,T'[i]?=T[i]?)->T'[24]?=some (JK (Jr mz 8))->Q .normal ⟨T',ds⟩ w) :
  (cX 9).wp prog Q ⟨T,ds⟩ w:=by
 have hp:=Yo hm (n:=8) (by omega) (by omega);obtain⟨f,rfl⟩:=NQ Ag;rw[Pg]at *;have e4:f 4=_:=Aa h4;rw[e4]at hQ ⊢;clear h4 e4;simp only[cX,dX,fC,sC,bC,lC,f6,A8]
 go_wp2_with (go_at_call 18;refine(hp _).mono ?_;rintro e w1 ⟨rfl,rfl⟩)
 exact hQ _ rfl (by(repeat refine List.forall_mem_cons.2 ⟨rfl,?_⟩);grind) rfl
theorem J0b6(Ag:T.size=143)
  (hQ:∀T':JC,T'.size=143->(∀i∈kX 25,T'[i]?=T[i]?)->T'[25]?=some (.slice none 0 0)->Q .normal ⟨T',ds⟩ w) :
  (cX 10).wp prog Q ⟨T,ds⟩ w:=by
 obtain⟨f,rfl⟩:=NQ Ag;rw[Pg]at *;simp only[cX,dX,fC,sC,bC,lC,f6,A8];go_wp2;exact hQ _ rfl (by(repeat refine List.forall_mem_cons.2 ⟨rfl,?_⟩);grind) rfl
theorem J0b7(Ag:T.size=143)(h22:T[22]?=some .nilIface)(h23:T[23]?=some .nilIface)(h28:T[28]?=some (.bool true))(h29:T[29]?=some (.bool true))
  (hQ:∀T':JC,T'.size=143->(∀i∈kX 12,T'[i]?=T[i]?)->T'[12]?=some (.bool true)->Q .ret ⟨T',ds⟩ w) :
  (dX 14).wp prog Q ⟨T,ds⟩ w:=by
 obtain⟨f,rfl⟩:=NQ Ag;rw[Pg]at *;have WV:f 22=_:=Aa h22;have WW:f 23=_:=Aa h23;have e28:f 28=_:=Aa h28;have e29:f 29=_:=Aa h29;rw[WV,WW,e28,e29]at hQ ⊢;clear h22 WV h23 WW h28 e28 h29 e29;simp only[dX,fC,sC,bC,lC,f6,A8];go_wp2;exact hQ _ rfl (by(repeat refine List.forall_mem_cons.2 ⟨rfl,?_⟩);grind) rfl
end
end Go.Sim.Z
end
