/- Proved: laws for the claim. No conditions. -/
import Derived.Lib.OwnBridge
import Derived.Test.YtlcbehhbfglgaaaGreatDoorC00
import Derived.Test.YtlcbehhbfglgaaaGreatDoorC10
import Derived.Test.YtlcbehhbfglgaaaGreatDoorC17
set_option linter.all false
set_option maxHeartbeats 16000000
set_option maxRecDepth 100000
open Go.Proofs.Tryz
noncomputable section
namespace Go.Sim.Z
open Go Go.Proofs Go.RowKit Go.Maps
def Jnt{P:Program}{ops:Array Oper}{Q:Exit->Act->JE->Prop}{i:Nat}{o:Oper}{a:Act}{w w':JE}{v vs vx:JJ}{K:Act->JE->Prop}{s x:Tmp}{t:JH}(ho:ops[i]?=some o)(hg:o.guard=none)(Ar:o.op=.call { callee:=.builtin .append,args:=#[.tmp s,.tmp x],argTypes:=#[t,t] })
  (hs:a.tmps[s]?=some vs) (hx:a.tmps[x]?=some vx) (hr:(Builtin.append_ #[t,t] o.type #[vs,vx]).run P w=.ok v w') (h:K (a.put o.dst v) w'):wpOp P ops Q i K a w:=by
 refine J9 ho hg (v:=v) (w':=w') ?_ h;unfold execOp;simp only[Ar,resolve,invoke,builtin,Sem.run_bind,Sem.run_pure,Result.andThen_ok,List.map_toArray,D5,List.map_nil,aQ hs,aQ hx,hr]
structure Gi where
 a:Int
 b:Int
 c:Int
 it:Int
 v:Int
structure Jnu(r:Gi):Prop where
 a:I64 r.a
 b:I64 r.b
 c:I64 r.c
 it:I64 r.it
 v:I64 r.v
def Gi.fact(r:Gi):Jd:=⟨[Jr r.a 4,Jr r.b 4,Jr r.c 4],r.it,r.v⟩
def Gi.J017{r:Gi}(h:Jnu r):RH r.fact:=by
 refine⟨rfl,λx hx=>?_,h.it,h.v⟩;have p:∀c,0<=Jr c 4/\Jr c 4<=99:=λc=>by have:=Yr (c:=c) (n:=4) (by omega);omega
 simp only[Gi.fact,AL,BU,or_false]at hx
 grind
structure qC(w:JE)(la:JI)(rs:List Gi):Prop where
 at_:∀i r,rs[i]?=some r->∃b o,la=some ⟨b,o,none⟩/\b<w.heap.size/\w.cell? ⟨b,o+i*5,none⟩=some (JK r.a)/\w.cell? ⟨b,o+i*5+1,none⟩=some (JK r.b)/\w.cell? ⟨b,o+i*5+2,none⟩=some (JK r.c)/\w.cell? ⟨b,o+i*5+3,none⟩=some (JK r.it)/\w.cell? ⟨b,o+i*5+4,none⟩=some (JK r.v)
 ok:∀r∈rs,Jnu r
def Qx(p:Jd × Nat):List JJ:=[JM p.2 3 3,JK p.1.it,JK p.1.v]
structure FN(w:JE)(base:Nat)(v:JJ)(L:List (Jd × Nat)):Prop where
 own:w.ownsRow base 50 3 v L.length (L.flatMap Qx)
 rows:∀p∈L,base<=p.2/\Row false w p.2 3 .i64 p.1.k 3/\p.1.k.length=3
theorem FN.nil(w:JE)(base:Nat):FN w base (.slice none 0 0) []:=⟨⟨rfl,.inl ⟨rfl,rfl⟩⟩,λp hp=>by cases hp⟩
def Jjy:∀(L:List (Jd × Nat))(i:Nat)(p:Jd × Nat),L[i]?=some p->∀j,j<3->(L.flatMap Qx)[i*3+j]?=(Qx p)[j]?
 |[],i,p,h,_,_=>by simp at h
 |q::L,0,p,h,j,hj=>by
  simp at h;subst h;rw[List.flatMap_cons,List.getElem?_append_left (by simp[Qx];omega)];simp
 |q::L,i+1,p,h,j,hj=>by rw[List.getElem?_cons_succ]at h;rw[List.flatMap_cons,List.getElem?_append_right (by simp[Qx];omega)];have:=Jjy L i p h j hj;rw[show(i+1)*3+j-(Qx q).length=i*3+j by simp[Qx];omega];exact this
theorem FN.at{w:JE}{base:Nat}{v:JJ}{L:List (Jd × Nat)}(h:FN w base v L):∃ga cap pl,v=.slice ga L.length cap/\G8 false w ga (L.map (·.1)) cap pl/\∀y∈pl,base<=y:=by
 rcases h.own.2 with⟨rfl,h0⟩|⟨g,cap,cur,rfl,hb,hg,h1,h2,h3,h4⟩
 .have:L=[]:=List.eq_nil_of_length_eq_zero h0;subst this;exact⟨none,0,[],rfl,⟨λx hx=>(by cases hx),λi f hf=>(by simp at hf),(by simp)⟩,λy hy=>(by cases hy)⟩
 .refine⟨some ⟨g,0,none⟩,cap,g::L.map (·.2),rfl,⟨λx hx=>?_,λi f hf=>?_,by grind⟩,λy hy=>?_⟩
  .rcases AL.1 hx with rfl|hx
   .grind
   .obtain⟨p,hp,rfl⟩:=AZ.1 hx;exact(h.rows p hp).2.1.lt
  .rw[List.getElem?_map]at hf;cases hp:L[i]? with
   |none=>grind
   |some p=>
    rw[hp]at hf;cases hf;have hm:=NR hp;obtain⟨_,r2,r3⟩:=h.rows p hm;have Ac:i<L.length:=(List.getElem?_eq_some_iff.1 hp).1;have e:∀j,j<3->w.cell? ⟨g,i*3+j,none⟩=(Qx p)[j]?:=λj hj=>by rw[cell_of hg,<- Jjy L i p hp j hj,<- h4,List.getElem?_take_of_lt (by omega)];simp
    exact⟨g,p.2,3,rfl,by simp,List.mem_cons_of_mem _ (AZ.2 ⟨p,hm,rfl⟩),by rw[r3];exact e 0 (by omega),e 1 (by omega),e 2 (by omega),r2⟩
  .rcases AL.1 hy with rfl|hy
   .exact hb
   .obtain⟨p,hp,rfl⟩:=AZ.1 hy;exact(h.rows p hp).1
def qL:(prog.info? 50).map (λi=>(i.zero,i.size,i.bytes))=some (some (.agg #[.slice none 0 0,JK 0,JK 0]),3,40):=by kernel_rfl
def FN.kept{w w':JE}{base:Nat}{v:JJ}{L:List (Jd × Nat)}(h:FN w base v L)(hh:∀b,b<w.heap.size->w'.heap[b]?=w.heap[b]?):FN w' base v L:=by
 refine⟨⟨h.own.1,?_⟩,λp hp=>⟨(h.rows p hp).1,(h.rows p hp).2.1.kept (hh _ (h.rows p hp).2.1.lt),(h.rows p hp).2.2⟩⟩;rcases h.own.2 with hn|⟨g,cap,cur,rfl,hb,hg,rest⟩
 .exact .inl hn
 .exact .inr ⟨g,cap,cur,rfl,hb,(hh g (Jj hg)).trans hg,rest⟩
def FN.push{w:JE}{base:Nat}{v:JJ}{L:List (Jd × Nat)}(h:FN w base v L)(hb:base<=w.heap.size)(hn:L.length<=1000){f:Jd}{kb sb:Nat}(hk:f.k.length=3)(SV:base<=kb)(hr:Row false w kb 3 .i64 f.k 3)(hs:w.heap[sb]?=some (.cells #[JM kb 3 3,JK f.it,JK f.v] 50))(ty:JH) :
  ∃v' w',(Builtin.append_ #[28,28] ty #[v,JM sb 1 1]).run prog w=.ok v' w'/\FN w' base v' (L++[(f,kb)])/\w.grownBy w' v.ownBlock/\(∀b,v.ownBlock=some b->base<=b):=by
 obtain⟨i0,hi,EY,DJ,DR⟩:=info_parts qL;have e:maxLen=9223372036854775807:=by decide
 obtain⟨v',w',r1,r2,r3,_⟩:=run_append_own_at (P:=prog) (w:=w) base 28 ty 50 i0 _ 3 40 underlying28 hi EY DJ DR rfl (by omega) v L.length _ h.own ⟨sb,0,none⟩ 1 1 (Qx (f,kb)) rfl (λj u hj=>by
  rw[add0,cell_of hs]
  match j,hj with
  |0,hj=>exact hj
  |1,hj=>exact hj
  |2,hj=>exact hj
  |j+3,hj=>simp[Qx]at hj) (λu hu=>by simp only[Qx,AL,BU,or_false]at hu;rcases hu with rfl|rfl|rfl<;>rfl) (by omega) (by omega) hb
 have XD:∀b,v.ownBlock=some b->base<=b/\∃cur,w.heap[b]?=some (.cells cur 50):=λb hb=>by
  rcases h.own.2 with⟨rfl,_⟩|⟨g,cap,cur,rfl,xC,hg,_⟩
  .cases hb
  .cases hb;grind
 have kept:∀{b:Nat}{xs:JD},Row false w b 3 .i64 xs 3->Row false w' b 3 .i64 xs 3:=λ{b xs} Aj=>Aj.kept (r3.block b Aj.lt λe=>by
  obtain⟨_,cur,hc⟩:=XD b e.symm;obtain⟨arr,⟨z,hz,OX⟩,_⟩:=Aj
  grind)
 refine⟨v',w',r1,⟨by grind,λp hp=>?_⟩,r3,λb hb=>(XD b hb).1⟩;rcases Gn.1 hp with hp|hp
 .obtain⟨q1,q2,q3⟩:=h.rows p hp
  grind
 grind
def J019(vv:JJ)(b o n cap k:Nat)(f:Jd)(A B C:Int):Nat->JJ->List (Nat × Obj)->Prop
 |0,v,H=>H=[]/\v=vv
 |1,v,H=>H=[]/\v=.int .i64 A
 |2,v,H=>H=[]/\v=.int .i64 B
 |3,v,H=>H=[]/\v=.int .i64 C
 |4,v,H=>∃kb,H=[(kb,.cells #[.int .i64 A,.int .i64 B,.int .i64 C] 3)]/\v=.slice (some ⟨kb,0,none⟩) 3 3
 |5,v,H=>H=[]/\v=.slice (some ⟨b,o,none⟩) n cap
 |6,v,H=>H=[]/\v=.int .i64 k
 |7,v,H=>H=[]/\v=pt b (o+k*5)
 |8,v,H=>H=[]/\v=pt b (o+k*5+3)
 |9,v,H=>H=[]/\v=.int .i64 f.it
 |10,v,H=>H=[]/\v=.slice (some ⟨b,o,none⟩) n cap
 |11,v,H=>H=[]/\v=.int .i64 k
 |12,v,H=>H=[]/\v=pt b (o+k*5)
 |13,v,H=>H=[]/\v=pt b (o+k*5+4)
 |14,v,H=>H=[]/\v=.int .i64 f.v
 |15,v,H=>∃kb,H=[(kb,.cells #[.int .i64 A,.int .i64 B,.int .i64 C] 3)]/\v=.agg #[.slice (some ⟨kb,0,none⟩) 3 3,.int .i64 f.it,.int .i64 f.v]
 |_,v,H=>∃sb kb,H=[(sb,.cells #[.slice (some ⟨kb,0,none⟩) 3 3,.int .i64 f.it,.int .i64 f.v] 50),(kb,.cells #[.int .i64 A,.int .i64 B,.int .i64 C] 3)]/\v=.slice (some ⟨sb,0,none⟩) 1 1
open Go.Sort
def Jl6(m:Nat)(w:JE) :
  Calls prog 50 #[.map (some m)] w λe w'=>e=.returned (.func (.func 91) #[] #[JL w.heap.size])/\w'=w.alloc (.cells #[.map (some m)] 99):=by
 go_enter func50,ntmps50
 go_wp2;go_ret
 simp_all
def Je6{w:JE}{mb m:Nat}(h:w.cell? ⟨mb,0,none⟩=some (JK m))(v:Int):Calls prog 80 #[JK v,JL mb] w λe w'=>e=.returned (.bool (bits .and .i64 v m != m))/\w'=w:=by
 go_enter func80,ntmps80
 go_wp2;go_ret
 simp_all
abbrev LW:=Int × Int
def Qp(F:List LW):List JJ:=F.flatMap λp=>[JK p.1,JK p.2]
def EF(w:JE)(base:Nat)(v:JJ)(F:List LW):Prop:=w.ownsRow base 56 2 v F.length (Qp F)/\Ko w v
def FB(m:Nat)(F:List LW):Prop:=F.length<=3/\∀p∈F,∃d:Nat,p.1=d/\d<3/\m.testBit d=true
def fO:∀(F:List LW)(i:Nat)(p:LW),F[i]?=some p->(Qp F)[i*2]?=some (JK p.1)/\(Qp F)[i*2+1]?=some (JK p.2)
 |[],i,p,h=>by simp at h
 |q::F,0,p,h=>by
  simp at h;subst h;exact⟨rfl,rfl⟩
 |q::F,i+1,p,h=>by
  rw[List.getElem?_cons_succ]at h;have:=fO F i p h;have e:Qp (q::F)=JK q.1::JK q.2::Qp F:=rfl
  grind
theorem dW:∀F:List LW,(Qp F).length=F.length*2
 |[]=>rfl
 |q::F=>by
  have:=dW F;have e:Qp (q::F)=JK q.1::JK q.2::Qp F:=rfl
  grind
def J069{F:List LW}:∀u∈Qp F,IsInt u:=λu hu=>by
 obtain⟨p,_,hp⟩:=List.mem_flatMap.1 hu;simp only[AL,BU,or_false]at hp;rcases hp with rfl|rfl<;>exact⟨_,_,rfl⟩
section
variable{w w':JE}{base:Nat}{v:JJ}{F:List LW}
def EF.kept(h:EF w base v F)(k:∀g n cap,v=JM g n cap->w'.heap[g]?=w.heap[g]?):EF w' base v F:=by
 refine⟨⟨h.1.1,?_⟩,h.2.kept k⟩;rcases h.1.2 with h1|⟨g,cap,cur,e,h1,h2,h3⟩
 .exact .inl h1
 .exact .inr ⟨g,cap,cur,e,h1,(k _ _ _ e).trans h2,h3⟩
theorem EF.shape(h:EF w base v F):(v=.slice none 0 0/\F=[])\/∃g cap arr,v=JM g F.length cap/\base<=g/\Blk false w g arr 56/\Plain arr/\(∀i p,F[i]?=some p->w.cell? ⟨g,i*2,none⟩=some (JK p.1)/\w.cell? ⟨g,i*2+1,none⟩=some (JK p.2))/\∀j u,(Qp F)[j]?=some u->w.cell? ⟨g,j,none⟩=some u:=by
 rcases h.1.2 with⟨e,h0⟩|⟨g,cap,cur,rfl,hb,hg,h1,h2,h3,h4⟩
 .grind
 .have key:∀j u,(Qp F)[j]?=some u->w.cell? ⟨g,j,none⟩=some u:=λj u hj=>by
   grind[List.getElem?_eq_some_iff,cell_of,List.getElem?_take_of_lt,dW]
  exact .inr ⟨g,cap,cur,rfl,hb,⟨(0,0),hg,λ_=>rfl⟩,h.2 g _ cap rfl cur 56 _ hg,λi p hi=>⟨key _ _ (fO F i p hi).1,key _ _ (fO F i p hi).2⟩,key⟩
def EF.slice(h:EF w base v F):∃a c,v=.slice a F.length c:=by
 rcases h.shape with⟨rfl,rfl⟩|⟨g,cap,_,rfl,_⟩
 all_goals grind
theorem EF.nil(w:JE)(base:Nat):EF w base (.slice none 0 0) []:=⟨⟨rfl,.inl ⟨rfl,rfl⟩⟩,Ko.nil _ _ _⟩
def J09n:(prog.info? 56).map (λi=>(i.zero,i.size,i.bytes))=some (some (.agg #[JK 0,JK 0]),2,16):=by kernel_rfl
def Jjz(h:EF w base v F)(hn:F.length<=3):Calls prog 67 #[v] w λe w'=>∃v',e=.returned v'/\EF w' w.heap.size v' F/\Tch w.heap.size M0 w w':=by
 have qT:∀(w:JE)(a:JI)(n c n' c':Nat),(binOp .eql 54 (.slice a n c) (.slice none n' c')).run prog w=.ok (.bool a.isNone) w:=λw a n c n' c'=>Lib.run_eql_slice_nil w _ _ a n c n' c' underlying54;rcases h.shape with⟨rfl,rfl⟩|⟨b,c,arr,rfl,hb,hblk,xY,_,QN⟩
 .go_enter func67,ntmps67
  go_wp2;go_ret;exact⟨_,rfl,EF.nil _ _,.refl⟩
 .obtain⟨i0,hi,EY,DJ,DR⟩:=info_parts J09n;have hm:maxLen=9223372036854775807:=by decide
  have Aw:(w.alloc (.cells #[] 56)).ownsRow w.heap.size 56 2 (JM w.heap.size 0 0) 0 []:=⟨rfl,.inr ⟨w.heap.size,0,#[],rfl,Ad _,Ja _,Ad _,by omega,rfl,rfl⟩⟩;have D8:Ko (w.alloc (.cells #[] 56)) (JM w.heap.size 0 0):=λg n cap e arr t z ha=>by cases e;have hq:=ha.symm.trans (Ja (w:=w) _);cases hq;exactλv hv=>by simp at hv
  have iV:∀j u,(Qp F)[j]?=some u->(w.alloc (.cells #[] 56)).cell? ((⟨b,0,none⟩:Addr).add j)=some u:=λj u hj=>by
   have e:(⟨b,0,none⟩:Addr).add j=⟨b,j,none⟩:=by cases j<;>simp[Addr.add]
   rw[e];exact(Du (J8 _ hblk.lt)).trans (QN j u hj)
  have hlen:(Qp F).length=F.length*2:=dW F;have EJ:∀u∈Qp F,u.oneCell'=true:=λu hu=>by obtain⟨_,_,rfl⟩:=J069 u hu;rfl
  have hint:∀u∈Qp F,IsInt u:=J069;have fin:∀v' w1,w1.ownsRow w.heap.size 56 2 v' F.length (Qp F)->Ko w1 v'->EF w1 w.heap.size v' F:=λv' w1 h1 h2=>⟨h1,h2⟩;generalize Qp F=news at *;generalize F.length=n at *
  go_enter func67,ntmps67
  go_wp2_with (at_builtin;refine mO _ rfl _ _ 54 rfl w.heap.size 56 i0 _ 2 16 underlying54 hi EY DJ DR rfl (by decide) _ 0 [] rfl Aw ⟨b,0,none⟩ n c news rfl hlen iV EJ (by omega) (by omega) (by simp) D8 hint (Plain.ai (k:=.i64) (xs:=[0,0])) ?_;intro v' w1 BD AX Ej Ny)
  go_ret;rw[Nat.zero_add,Gm]at BD;refine⟨v',by simp_all,fin _ _ BD Ny,?_,λx hx _=>?_,?_,?_,?_⟩
  .have:=AX.size;grind[size_alloc]
  .exact(AX.block x (by rw[size_alloc];omega) λe=>by have:=Aa e;grind).trans (J8 _ hx)
  .exact AX.tape
  .exact AX.os
  .exact AX.output
end
def Jl7{w:JE}{x:Nat}{c:J7}{seed nf:Int}{h:JJ}{vm m base:Nat}{vs:Nat->Option Nat}{v:JJ}{F:List LW}(q:DU w x c seed h nf vm vs)(Ns:m<8)(hF:EF w base v F)(hok:FB m F) :
  Calls prog 54 #[JL x,JK m,v] w λe w'=>e=.returned .nilIface/\Tch w.heap.size M0 w w':=by
 have hb:=nC q.cells.1;have h1:¬(m:Int)<0:=by omega
 have h2:¬(7:Int)<m:=by omega
 have x0:=q.cells.1;have Rj:=q.blk.lt;obtain⟨wG,hok⟩:=hok;rcases hF.shape with⟨rfl,rfl⟩|⟨g,cap,arr,rfl,_,hblk,_,Jeq,_⟩
 .go_enter func54,ntmps54
  go_wp2_with (go_at_call 32;refine hb.mono ?_;rintro e w1 ⟨rfl,rfl⟩)
  refine wp_loop_rounds 1 ?_;rw[rounds_succ];go_wp2;go_ret;exact⟨by simp_all,.refl⟩
 .generalize hn:F.length=n at *;have xK:=hblk.lt
  go_enter func54,ntmps54
  go_wp2_with (go_at_call 32;refine hb.mono ?_;rintro e w1 ⟨rfl,rfl⟩)
  go_loopw [20] (λi wr=>∃k:Nat,k<=n/\i=JK k/\Tch w1.heap.size M0 w1 wr) (λi _=>n-(RowKit.intOf i).toNat)
  case atStart=>exact⟨0,by omega,rfl,.refl⟩
  case round=>
   obtain⟨k,hk,rfl,ht⟩:=hrel;rcases BF k n with Ac|Et
   .have CS:(k:Int)<n:=by omega
    have hp:F[k]?=some F[k]:=DL (by omega);obtain⟨d,hd,hd3,L8⟩:=hok _ (List.getElem_mem (by omega:k<F.length));generalize F[k]=p at *;obtain⟨p1,p2⟩:=p;obtain rfl:p1=d:=hd;have g0:=(ht.cell (a:=⟨g,k*2,none⟩) xK λh=>h).trans (Jeq k _ hp).1;have g1:=(ht.cell (a:=⟨g,k*2+1,none⟩) xK λh=>h).trans (Jeq k _ hp).2;have gx:=(ht.cell (a:=⟨x,0,none⟩) Rj λh=>h).trans x0;have Dh:=Jxk m d;rw[L8]at Dh;have iF:¬(d:Int)<0:=by omega
    have Za:¬(3:Int)<=d:=by omega
    have hs:=ht.size;have gx':∀o,(wr.alloc o).cell? ⟨x,0,none⟩=some (JK 3):=λo=>(Du (J8 _ (DX Rj hs))).trans gx
    go_wp2_with fail
    go_quiet (fail)
    go_wp2;exact⟨⟨k+1,by omega,by go_num,let t:=ht.alloc ht.size _;⟨t.size,t.heap,t.tape,t.os,t.output⟩⟩,by simp[RowKit.intOf];omega⟩
   .obtain rfl:k=n:=by omega
    have EC:¬((k:Int)<k):=by omega
    go_wp2;go_ret
    simp_all
def Szd(w:JE)(f:Nat->Option Nat)(sz:Nat->Int):Prop:=∀m,m<8->∀W:JE,W.heap=w.heap->(Builtin.len_ #[95] 3 #[.map (f m)]).run prog W=.ok (JK (sz m)) W
structure Mea(w:JE)(xb x vm:Nat)(f:Nat->Option Nat)(sz:Nat->Int):Prop where
 hx:w.cell? ⟨xb,0,none⟩=some (JL x)
 h7:w.cell? ⟨x,7,none⟩=some (.map (some vm))
 hv:HY w vm f
 hz:Szd w f sz
def Mea.kept{w W:JE}{xb x vm:Nat}{f:Nat->Option Nat}{sz:Nat->Int}(q:Mea w xb x vm f sz)(h:W.heap=w.heap):Mea W xb x vm f sz:=
 ⟨(Du (by rw[h])).trans q.hx,(Du (by rw[h])).trans q.h7,q.hv.kept (by rw[h]),λm hm V hV=>q.hz m hm V (hV.trans h)⟩
def orN(a b:Int):Int:=if a=0 then b else a
section
variable{w:JE}{fb xb x vm:Nat}{f:Nat->Option Nat}{sz:Nat->Int}
def J08j(q:Mea w xb x vm f sz){m:Nat}(hm:m<8) :
  Calls prog 82 #[JK m,JL xb] w λe w'=>e=.returned (JK (sz m))/\w'=w:=by
 obtain⟨hx,h7,hv,hz⟩:=q;have hz:=hz m hm w rfl;have hk:=hv.lookup hm
 go_enter func82,ntmps82
 go_wp2;go_ret
 simp_all
def J0an{g:Nat}{a b:Int}(ha:w.cell? ⟨g,0,none⟩=some (JK a))(hb:w.cell? ⟨g,1,none⟩=some (JK b))(cap:Nat) :
  Calls prog 140 #[JM g 2 cap] w λe w'=>e=.returned (JK (orN a b))/\w'=w:=by
 go_enter func140,ntmps140
 go_wp2;refine wp_loop_rounds 3 ?_;rw[rounds_succ];by_cases h1:a=0
 .go_wp2;rw[rounds_succ];by_cases h2:b=0
  .go_wp2;rw[rounds_succ];go_wp2;go_ret
   simp_all [orN]
  .go_wp2;go_ret
   simp_all [orN]
 .go_wp2;go_ret
  simp_all [orN]
def Jf4(sz:Nat->Int)(a b:Nat):Int:=orN (Lib.compareInt (sz a) (sz b)) (Lib.compareInt a b)
def J08k(hf:w.cell? ⟨fb,0,none⟩=some (.func (.func 82) #[] #[JL xb]))(q:Mea w xb x vm f sz){a b:Nat}(ha:a<8)(hb:b<8) :
  Calls prog 139 #[JK a,JK b,JL fb] w λe w'=>e=.returned (JK (Jf4 sz a b))/\Tch w.heap.size M0 w w':=by
 have kk:=λ(W:JE)(h:W.heap=w.heap)(m:_root_.Fin 8)=>J08j (q.kept h) m.2;obtain⟨a,rfl⟩:∃m:_root_.Fin 8,a=m.1:=⟨⟨a,ha⟩,rfl⟩;obtain⟨b,rfl⟩:∃m:_root_.Fin 8,b=m.1:=⟨⟨b,hb⟩,rfl⟩;have ho:=λ(A B:Int)=>J0an (w:=(w.alloc (.cells #[JK A,JK B] 3)).drew) (g:=w.heap.size) (a:=A) (b:=B) ((cell_of (w:=(w.alloc (.cells #[JK A,JK B] 3)).drew) (Ja _) 0).trans rfl) ((cell_of (w:=(w.alloc (.cells #[JK A,JK B] 3)).drew) (Ja _) 1).trans rfl) 2;have c1:=λ(x y:Int)(w:JE)=>Tryz.cmp_Compare_int x y w
 go_enter func139,ntmps139
 go_wp2
 go_region_with (first
  |(go_at_call 82;refine(kk _ (by rfl) _).mono ?_;rintro e w1 ⟨rfl,rfl⟩)
  |(go_at_call 141;refine(c1 _ _ _).mono ?_;rintro e w1 ⟨rfl,rfl⟩)
  |(go_at_call 140;refine(ho _ _).mono ?_;rintro e w1 ⟨rfl,rfl⟩))
 all_goals go_wp2
 all_goals go_ret
 all_goals exact⟨rfl,(Tch.refl.alloc (Ad _) _).drew⟩
end
section
variable{w:JE}{fb xb x vm g n cap:Nat}{f:Nat->Option Nat}{sz:Nat->Int}
def J09o(hf:w.cell? ⟨fb,0,none⟩=some (.func (.func 82) #[] #[JL xb]))(q:∀W,Tch w.heap.size M0 w W->Mea W xb x vm f sz){u:Nat->Nat}(h0:0<n)(hn:n<=8)
  (hk:∀k:Nat,k<n->w.cell? ⟨g,k,none⟩=some (JK (u k))) (h8:∀k,u k<8) :
  Calls prog 138 #[JM g n cap,.func (.func 139) #[] #[JL fb]] w λe w'=>(∃j:Nat,j<n/\e=.returned (JK (u j)))/\Tch w.heap.size M0 w w':=by
 have hg:=λk h=>cell_lt (hk k h);have k0:=hk 0 h0;have h1:¬(n:Int)<1:=by omega
 have h2:(0:Int)<n:=by omega
 go_enter func138,ntmps138
 go_wp2
 go_loopw [5,6] (λm i wr=>∃k j:Nat,1<=k/\k<=n/\j<n/\i=JK k/\m=JK (u j)/\Tch w.heap.size M0 w wr) (λ_ i _=>n-(RowKit.intOf i).toNat)
 case atStart=>exact⟨1,0,by omega,by omega,h0,rfl,rfl,Tch.refl⟩
 case round=>
  obtain⟨k,j,DI,Oe,hj,rfl,rfl,ht⟩:=hrel;rcases BF k n with Ac|Et
  .have g1:=(ht.cell (a:=⟨g,k,none⟩) (hg k Ac) λh=>h).trans (hk k Ac);have CS:(k:Int)<n:=by omega
   have hc:=J08k ((ht.cell (a:=⟨fb,0,none⟩) (cell_lt hf) λh=>h).trans hf) (q _ ht) (h8 k) (h8 j);generalize Jf4 sz (u k) (u j)=z at *;by_cases hz:z<0
   all_goals
    go_wp2_with (go_at_call 139;refine hc.mono ?_;rintro e w1 ⟨rfl,t1⟩;have t2:=ht.then t1 ht.size λ_ _ h=>h;have g2:=(t2.cell (a:=⟨g,k,none⟩) (hg k Ac) λh=>h).trans (hk k Ac))
    refine⟨?_,by simp only[RowKit.intOf];omega⟩
    first
     |exact⟨k+1,k,by omega,by omega,Ac,by simp,rfl,t2⟩
     |exact⟨k+1,j,by omega,by omega,hj,by simp,rfl,t2⟩
  .obtain rfl:k=n:=by omega
   have EC:¬((k:Int)<k):=by omega
   go_wp2;go_ret;exact⟨⟨j,hj,rfl⟩,ht⟩
def J09p(q:∀W,Tch w.heap.size M0 w W->Mea W xb x vm f sz){u:Nat->Nat}(h0:0<n)(hn:n<=8)
  (hk:∀k:Nat,k<n->w.cell? ⟨g,k,none⟩=some (JK (u k))) (h8:∀k,u k<8) :
  Calls prog 81 #[JM g n cap,.func (.func 82) #[] #[JL xb]] w λe w'=>(∃j:Nat,j<n/\e=.returned (JK (u j)))/\Tch w.heap.size M0 w w':=by
 have t0:Tch w.heap.size M0 w (w.alloc (.cells #[.func (.func 82) #[] #[JL xb]] 64)):=Tch.refl.alloc (Ad _) _;have hm:=J09o (w:=w.alloc (.cells #[.func (.func 82) #[] #[JL xb]] 64)) (fb:=w.heap.size) (cap:=cap) ((cell_of (Ja _) 0).trans rfl)
  (λW t=>q W (t0.then t t0.size λ_ _ h=>h)) h0 hn (λk h=>(t0.cell (a:=⟨g,k,none⟩) (cell_lt (hk k h)) λh=>h).trans (hk k h)) h8
 go_enter func81,ntmps81
 go_wp2_with (go_at_call 138;refine hm.mono ?_;rintro e w1 ⟨⟨j,hj,rfl⟩,t1⟩)
 go_ret;exact⟨⟨j,hj,rfl⟩,t0.then t1 t0.size λ_ _ h=>h⟩
end
def J05q{vm:Nat}{w:JE}{f:Nat->Option Nat}(hV:HY w vm f) :
  Calls prog 79 #[.func (.func 91) #[] #[JL w.heap.size]] (w.alloc (.cells #[.map (some vm)] 99)) λe w'=>∃(v:JJ)(ks:JD),e=.returned v/\ks.length<=8/\(∀z,z∈ks↔∃m:Nat,m<8/\z=m/\(f m).isSome) /\
   w'.ownsRow (w.heap.size+1) 3 1 v ks.length (ks.map encZ)/\(v=.slice none 0 0↔ks=[])/\Tch w.heap.size M0 w w':=by
 obtain⟨D,Aw,q⟩:=hV;have jF:maxLen=9223372036854775807:=by decide
 have e61:∀args w,(callFunc 91 args).run prog w=.ok (.enter 91 args) w:=enters_of func91 (by kernel_rfl) rfl;have Ac:=Aw.lt;have h8:=q.small;have Nz:=AnyZI.keys_gives Tryz.keysI Fence.wide 1 trivial rfl (by omega) w.heap.size vm _ D (R:=Rv) (w.alloc (.cells #[.map (some vm)] 99)) (by simp) ((cell_of (Ja _) 0).trans rfl) (by obtain⟨es,clock,hb,rest⟩:=Aw;exact⟨es,clock,(J8 _ Ac).trans hb,rest⟩);have:=AnyZI.collect_in Tryz.collectI Fence.wide 3 trivial trivial rfl (by omega) 91 #[JL w.heap.size] trivial e61 _ (size D) (by omega) (by omega) _ Nz;refine(callsIn_wide.1 this).mono ?_;rintro e w' ⟨v,ss,rfl,hp,BD,Ej,hB⟩;have Vm:Tryz.collectI_ren.t 26=3:=by kernel_rfl
 rw[Vm,size_alloc]at BD;rw[size_alloc]at hB;have t0:Tch w.heap.size M0 w w':=(Tch.refl.alloc (Ad _) _).trans ((Tch.of_below hB).mono (Nat.le_succ _) λ_ _ h=>h);obtain⟨es,rfl,hpw⟩:=q.td;refine⟨v,ss,rfl,?_,λz=>?_,BD,Ej,t0⟩
 .rw[hp.length_eq];simpa[intKeys,size]using h8
 .rw[hp.mem_iff];constructor
  .intro h;obtain⟨p,XG,rfl⟩:=AZ.1 h;have hh:has (.map es) p.1=true:=List.any_eq_true.2 ⟨p,XG,WideAt.sameKey_self (q.fs p XG)⟩;obtain⟨m,hm,e⟩:=q.hs _ hh;refine⟨m,hm,by rw[e];rfl,?_⟩;rw[<- q.hf,<- e];exact hh
  .rintro⟨m,hm,rfl,h⟩;rw[<- q.hf]at h;obtain⟨p,XG,lZ⟩:=List.any_eq_true.1 h;refine AZ.2 ⟨p,XG,?_⟩;rw[WideAt.sameKey_eq lZ];rfl
def Rn(m:Nat)(v:Int):Bool:=bits .and .i64 v m != (m:Int)
def delN{w:JE}{base mb m n:Nat}{v:JJ}{ks:JD}(h:w.ownsRow base 3 1 v n (ks.map (Value.int .i64)))(hv:v≠.slice none 0 0)(hm:w.cell? ⟨mb,0,none⟩=some (JK m))(X6:mb<base)(hn:n<=8) :
  Calls prog 78 #[v,.func (.func 80) #[] #[JL mb]] w λe w'=>∃g cap,e=.returned (JM g (ks.filter λz=>!Rn m z).length cap)/\base<=g/\g<w.heap.size /\
   w'.ownsRow base 3 1 (JM g (ks.filter λz=>!Rn m z).length cap) (ks.filter λz=>!Rn m z).length ((ks.filter λz=>!Rn m z).map (Value.int .i64))/\Tch base M0 w w':=by
 obtain⟨g,cap,rfl,hb,hg,hnc,hcm,hl,hH⟩:=Go.Lib.holds_of_ownsRow h hv;have Ju2:=cell_lt hm;have Ap:mb≠g:=by omega
 have:=Tryz.slices_DeleteFunc (Value.int .i64) (λ_=>rfl) (Rn m) 80 #[JL mb] (enters_of func80 (by kernel_rfl) rfl) 0 (λw=>zeroValue3 w) g 0 cap ks.toArray w
  (λW v hW=>(Je6 ((hW.cell (p:=⟨mb,0,none⟩) Ju2).trans hm) v).mono λe w' ⟨h1,h2⟩=>⟨h1,0,h2⟩)
  (λn os dk v _=>(Je6 (by
   have hs:mb<(putRow (Value.int .i64) (Sort.ahead w n) g 0 dk).heap.size:=by simp_all
   refine(Du (w:=putRow (Value.int .i64) (Sort.ahead w n) g 0 dk) ?_).trans ((cell?_putRow_other _ _ _ _ _ _ (.inl Ap)).trans hm);show(_++os)[mb]?=_
   grind) v).mono λe w' ⟨h1,h2⟩=>⟨h1,0,h2⟩)
  hH (by simp;omega) (by simp;omega)
 have e0:ks.toArray.size=n:=by simp[hl]
 rw[e0]at this;refine this.mono ?_;rintro e w' ⟨rfl,q,rfl⟩;simp only[List.toList_toArray]at *;have Ih:=List.length_filter_le (λz=>!Rn m z) ks;have ho:=Go.Lib.ownsRow_putRow (q:=q) (k:=(ks.filter λz=>!Rn m z).length) (ys:=(ks.filter λz=>!Rn m z)++List.replicate (n-(ks.filter λz=>!Rn m z).length) 0) h (by simp;omega) (by omega);rw[List.take_left' rfl]at ho;exact⟨g,cap,rfl,hb,hg,ho,Tch.of_below (Go.Lib.below_putRow (RowKit.Below.refl _ _) hb)⟩
def J0cf{m:Nat}(h:m<8):Rn m 7=false:=by
 match m,h with
 |0,_=>decide
 |1,_=>decide
 |2,_=>decide
 |3,_=>decide
 |4,_=>decide
 |5,_=>decide
 |6,_=>decide
 |7,_=>decide
 |m+8,h=>omega
def J0cg{w:JE}{x vm m:Nat}{f:Nat->Option Nat}{sz:Nat->Int}(c7:w.cell? ⟨x,7,none⟩=some (.map (some vm)))(hv:HY w vm f)(h7:(f 7).isSome)(hz:∀W,Tch w.heap.size M0 w W->Szd W f sz)(Ns:m<8) :
  Calls prog 34 #[JL x,JK m] w λe w'=>(∃v:Nat,v<8/\(f v).isSome/\Rn m v=false/\e=.returned (JK v))/\Tch w.heap.size M0 w w':=by
 obtain⟨W0,Ci⟩:∃W0,(w.alloc (.cells #[JL x] 30)).alloc (.cells #[JK m] 3)=W0:=⟨_,rfl⟩;have t0:Tch w.heap.size M0 w W0:=by rw[<- Ci];exact(Tch.refl.alloc (Ad _) _).alloc (by simp) _
 have V7:W0.heap.size=w.heap.size+2:=by rw[<- Ci];simp
 have e0:W0.heap[w.heap.size]?=some (.cells #[JL x] 30):=by grind[J8,Ja]
 have e1:W0.heap[w.heap.size+1]?=some (.cells #[JK m] 3):=by
  grind[Ja,size_alloc]
 have hx:=cell_lt c7;have v0:=hv.kept (w':=W0) (t0.heap vm hv.lt λh=>h);have c7':=(t0.cell hx λh=>h).trans c7;have k0:=(cell_of e0 0).trans rfl;have hk:=Jl6 vm W0;have uG:=J05q v0;generalize Vy:w.heap.size=n0 at *;rw[V7]at hk uG
 go_enter func34,ntmps34
 go_wp2_with (first
  |(go_at_call 50;refine hk.mono ?_;rintro e w1 ⟨rfl,rfl⟩)
  |(go_at_call 79;refine uG.mono ?_;rintro e w2 ⟨v,ks,rfl,hl8,AA,Aw,Ej,t2⟩
    have m2:w2.cell? ⟨n0+1,0,none⟩=some (JK m):=(t2.cell (show n0+1<n0+2 by omega) λh=>h).trans ((cell_of e1 0).trans rfl);have h7k:(7:Int)∈ks:=(AA 7).2 ⟨7,by decide,rfl,h7⟩;have hdel:=delN Aw (λh=>by grind) m2 (by omega) hl8)
  |(go_at_call 78;refine hdel.mono ?_;rintro e w3 ⟨g,cap,rfl,Uk,Ba,V3,t3⟩))
 have l7:(7:Int)∈ks.filter λz=>!Rn m z:=Hq.2 ⟨h7k,by rw[J0cf Ns];rfl⟩;have BZ:=List.length_pos_of_mem l7;have hlen:=List.length_filter_le (λz=>!Rn m z) ks;obtain⟨g',Ee,eg,-,-,-,-,-,hH⟩:=Go.Lib.holds_of_ownsRow V3 (by simp);cases eg;obtain⟨u,Aq,h8⟩:∃u:Nat->Nat,(∀k:Nat,k<(ks.filter λz=>!Rn m z).length->w3.cell? ⟨g,k,none⟩=some (JK (u k)))/\∀k,u k<8/\(k<(ks.filter λz=>!Rn m z).length->(f (u k)).isSome=true/\Rn m (u k)=false):=by
  refine⟨λk=>((ks.filter λz=>!Rn m z).getD k 0).toNat,?_⟩;have Aq:∀k:Nat,k<(ks.filter λz=>!Rn m z).length->w3.cell? ⟨g,k,none⟩=some (JK (((ks.filter λz=>!Rn m z).getD k 0).toNat:Nat)):=λk hk=>by
   have h1:=(hH k (by grind)).1;have hm:=(Hq.1 (List.getElem_mem hk)).1
   grind
  have h8:∀k,((ks.filter λz=>!Rn m z).getD k 0).toNat<8/\(k<(ks.filter λz=>!Rn m z).length->(f ((ks.filter λz=>!Rn m z).getD k 0).toNat).isSome=true/\Rn m ((ks.filter λz=>!Rn m z).getD k 0).toNat=false):=λk=>by
   rcases BF k (ks.filter λz=>!Rn m z).length with hk|hk
   .obtain⟨hm,Nr⟩:=Hq.1 (List.getElem_mem hk)
    grind
   grind
  grind
 have T2:Tch W0.heap.size M0 W0 w2:=by grind
 have T03:Tch W0.heap.size M0 W0 w3:=T2.trans (t3.mono (by omega) λ_ _ h=>h);have t0':Tch w.heap.size M0 w W0:=by grind
 have f3:=J09p (w:=w3) (xb:=n0) (x:=x) (vm:=vm) (f:=f) (sz:=sz) (g:=g) (cap:=cap) (n:=(ks.filter λz=>!Rn m z).length) (u:=u)
  (λW tW=>by have TW:=T03.then tW T03.size λ_ _ h=>h;exact⟨(TW.cell (cell_lt k0) λh=>h).trans k0,(TW.cell (cell_lt c7') λh=>h).trans c7',v0.kept (TW.heap vm v0.lt λh=>h),hz W (by have:=t0'.then TW t0'.size λ_ _ h=>h;grind)⟩) BZ (by omega) Aq λk=>(h8 k).1
 refine f3.mono ?_;rintro e w4 ⟨⟨j,hj,rfl⟩,t4⟩;go_wp2;go_ret;refine⟨⟨_,(h8 j).1,((h8 j).2 hj).1,((h8 j).2 hj).2,rfl⟩,?_⟩;have TW:=T03.then t4 T03.size λ_ _ h=>h;have:=t0'.then TW t0'.size λ_ _ h=>h
 grind
def Szd.of{w:JE}{c:J7}{vs:Nat->Option Nat}{S:Nat->List TR}(hT:∀v b,vs v=some b->TabAt false w c b (S v)):Szd w vs λm=>if(vs m).isSome then((S m).length:Int)else 0:=by
 intro m _ W hW;cases e:vs m with
 |none=>simp[Builtin.len_,Builtin.lenOf,e];rfl
 |some b=>
  have:=(((hT m b e).map).kept (w':=W) (by rw[hW])).len underlying95 3
  grind
def Jnw{w:JE}{x:Nat}{c:J7}{seed nf:Int}{h:JJ}{vm m:Nat}{vs:Nat->Option Nat}{S:Nat->List TR}(q:DU w x c seed h nf vm vs)(f7:(vs 7).isSome=true)(hT:∀v b,vs v=some b->TabAt false w c b (S v))(Ns:m<8) :
  Calls prog 34 #[JL x,JK m] w λe w'=>(∃v b:Nat,v<8/\vs v=some b/\Rn m v=false/\e=.returned (JK v))/\Tch w.heap.size M0 w w':=
 (J0cg q.cells.2.2.2.2.2.2.2 q.vs f7 (λW t=>Szd.of (c:=c) (S:=S) λv b hv=>(hT v b hv).kept λy hy=>t.heap y ((hT v b hv).lt y hy) λh=>h) Ns).mono λe w' ⟨⟨v,h8,hs,hm,he⟩,t⟩=>by
  grind[Option.isSome_iff_exists]
def LZ(F:List LW)(x:JD):Bool:=F.all λp=>x.getD p.1.toNat 0 == p.2
def RS(w:JE)(v:JJ)(F:List LW):Prop:=(v=.slice none 0 0/\F=[])\/∃g cap,v=JM g F.length cap/\∀i p,F[i]?=some p->w.cell? ⟨g,i*2,none⟩=some (JK p.1)/\w.cell? ⟨g,i*2+1,none⟩=some (JK p.2)
def EF.c{w:JE}{base:Nat}{v:JJ}{F:List LW}(h:EF w base v F):RS w v F:=h.shape.imp id λ⟨g,cap,_,e,_,_,_,hc,_⟩=>⟨g,cap,e,hc⟩
def RS.kept{w w':JE}{v:JJ}{F:List LW}(h:RS w v F)(k:∀g n cap i u,v=JM g n cap->w.cell? ⟨g,i,none⟩=some u->w'.cell? ⟨g,i,none⟩=some u):RS w' v F:=
 h.imp id λ⟨g,cap,e,hc⟩=>⟨g,cap,e,λi p hp=>⟨k _ _ _ _ _ e (hc i p hp).1,k _ _ _ _ _ e (hc i p hp).2⟩⟩
def J0ch{w:JE}{kb d:Nat}{k:Int}{x:JD}(h:w.heap[kb]?=some (.cells (ai .i64 x) 104))(hx:x.length=5)(hd:d<3):Calls prog 71 #[.agg #[JK d,JK k],JL kb] w λe w'=>e=.returned (.bool (x.getD d 0 != k))/\Tch w.heap.size M0 w w':=by
 have hl:=Jj h;have c0:(w.alloc (.cells #[JK d,JK k] 56)).cell? ⟨kb,d,none⟩=some (JK (x.getD d 0)):=by
  refine(Du (J8 _ hl)).trans ((cell_of h d).trans ?_)
  grind[nO]
 have e0:(w.alloc (.cells #[JK d,JK k] 56)).cell? ⟨w.heap.size,0,none⟩=some (JK d):=(cell_of (Ja _) 0).trans rfl;have e1:(w.alloc (.cells #[JK d,JK k] 56)).cell? ⟨w.heap.size,1,none⟩=some (JK k):=(cell_of (Ja _) 1).trans rfl;have hd5:(d:Int)<5:=by omega
 go_enter func71,ntmps71
 go_wp2_with fail
 go_quiet (fail)
 go_wp2;go_ret;refine⟨by simp_all,?_⟩
 let t:Tch w.heap.size M0 w (w.alloc (.cells #[JK d,JK k] 56)):=Tch.refl.alloc (Ad _) _
 exact⟨t.size,t.heap,t.tape,t.os,t.output⟩
section
variable{w:JE}{kb:Nat}{x:JD}{v:JJ}{F:List LW}
def J0ao(hF:RS w v F)(wG:F.length<=3)(hd:∀p∈F,∃d:Nat,p.1=d/\d<3)(h:w.heap[kb]?=some (.cells (ai .i64 x) 104))(hx:x.length=5) :
  Calls prog 116 #[v,.func (.func 71) #[] #[JL kb]] w λe w'=>(∃z:Int,e=.returned (JK z)/\(0<=z↔LZ F x=false))/\Tch w.heap.size M0 w w':=by
 rcases hF with⟨rfl,rfl⟩|⟨g,cap,rfl,Jeq⟩
 .go_enter func116,ntmps116
  go_wp2;refine wp_loop_rounds 1 ?_;rw[rounds_succ];go_wp2;go_ret;exact⟨⟨-1,rfl,by simp[LZ]⟩,.refl⟩
 .have hkl:=Jj h;have Vy:Hid (∀n,n=F.length->n=F.length):=λ_ h=>h;generalize hn:F.length=n at *
  go_enter func116,ntmps116
  go_wp2
  go_loopw [8] (λi wr=>∃k:Nat,k<=n/\i=JK k/\(∀p∈F.take k,x.getD p.1.toNat 0=p.2)/\Tch w.heap.size M0 w wr) (λi _=>n-(RowKit.intOf i).toNat)
  case atStart=>exact⟨0,by omega,rfl,λp hp=>by simp at hp,.refl⟩
  case round=>
   obtain⟨k,hk,rfl,Au,ht⟩:=hrel;rcases BF k n with Ac|Et
   .have CS:(k:Int)<n:=by omega
    have hp:F[k]?=some F[k]:=DL (by omega);obtain⟨d,hde,hd3⟩:=hd _ (List.getElem_mem (by omega:k<F.length));have DI:∀p∈F.take (k+1),p∈F.take k\/p=F[k]:=λp Gu=>by
     grind[List.take_add_one,List.mem_singleton]
    have AA:F[k]∈F:=List.getElem_mem _;generalize F[k]=p at *;obtain⟨p1,p2⟩:=p;obtain rfl:p1=d:=hde;have xK:g<w.heap.size:=cell_lt (Jeq k _ hp).1;have g0:=(ht.cell (a:=⟨g,k*2,none⟩) xK λh=>h).trans (Jeq k _ hp).1;have g1:=(ht.cell (a:=⟨g,k*2+1,none⟩) xK λh=>h).trans (Jeq k _ hp).2;have hc:=J0ch (k:=p2) ((ht.heap kb hkl λh=>h).trans h) hx hd3;by_cases hq:x.getD d 0=p2
    .have hb:(x.getD d 0 != p2)=false:=by grind
     rw[hb]at hc
     go_wp2_with (go_at_call 71;refine hc.mono ?_;rintro e w1 ⟨rfl,t1⟩)
     refine⟨⟨k+1,by omega,by go_num,λp Gu=>?_,ht.then t1 ht.size λ_ _ h=>h⟩,by simp[RowKit.intOf];omega⟩
     grind
    .have hb:(x.getD d 0 != p2)=true:=bne_iff_ne.2 hq;rw[hb]at hc
     go_wp2_with (go_at_call 71;refine hc.mono ?_;rintro e w1 ⟨rfl,t1⟩)
     go_ret;refine⟨⟨k,rfl,iff_of_true (by omega) ?_⟩,ht.then t1 ht.size λ_ _ h=>h⟩;unfold LZ
     grind
   .obtain rfl:k=n:=by omega
    have EC:¬((k:Int)<k):=by omega
    go_wp2;go_ret;refine⟨⟨-1,rfl,iff_of_false (by omega) ?_⟩,ht⟩;rw[Bool.not_eq_false];unfold LZ
    grind
def J08m(hF:RS w v F)(wG:F.length<=3)(hd:∀p∈F,∃d:Nat,p.1=d/\d<3)(h:w.heap[kb]?=some (.cells (ai .i64 x) 104))(hx:x.length=5) :
  Calls prog 70 #[v,.func (.func 71) #[] #[JL kb]] w λe w'=>e=.returned (.bool (!LZ F x))/\Tch w.heap.size M0 w w':=by
 have h:=J0ao hF wG hd h hx
 go_enter func70,ntmps70
 go_wp2_with (go_at_call 116;refine h.mono ?_;rintro e w1 ⟨⟨z,rfl,hz⟩,t1⟩)
 go_ret
 simp_all
def J01a{fb:Nat}(h:w.cell? ⟨fb,0,none⟩=some v)(hF:RS w v F)(wG:F.length<=3)(hd:∀p∈F,∃d:Nat,p.1=d/\d<3)(hx:x.length=5):Calls prog 69 #[.agg (ai .i64 x),JL fb] w λe w'=>e=.returned (.bool (LZ F x))/\Tch w.heap.size M0 w w':=by
 have hl:=cell_lt h;have h1:(w.alloc (.cells (ai .i64 x) 104)).cell? ⟨fb,0,none⟩=some v:=(Du (J8 _ hl)).trans h;have iL:RS (w.alloc (.cells (ai .i64 x) 104)) v F:=hF.kept λg n cap i u e h=>(Du (J8 _ (cell_lt h))).trans h;have hc:=J08m iL wG hd (Ja _) hx;obtain⟨a,c,rfl⟩:∃a c,v=.slice a F.length c:=by
  rcases hF with⟨rfl,rfl⟩|⟨g,cap,rfl,_⟩
  all_goals grind
 obtain⟨x0,x1,x2,x3,x4,rfl⟩:=Yx hx;simp only[ai,D5,List.map_nil]at *
 go_enter func69,ntmps69
 go_wp2_with (go_at_call 70;refine hc.mono ?_;rintro e w1 ⟨rfl,t1⟩)
 go_ret;refine⟨by simp_all,?_⟩
 let t:Tch w.heap.size M0 w (w.alloc (.cells #[JK x0,JK x1,JK x2,JK x3,JK x4] 104)):=Tch.refl.alloc (Ad _) _
 exact t.then t1 t.size λ_ _ h=>h
def J0ap(hx:x.length=5)(w:JE):Calls prog 35 #[.agg (ai .i64 x)] w λe w'=>e=.returned (.bool true)/\Tch w.heap.size M0 w w':=by
 obtain⟨x0,x1,x2,x3,x4,rfl⟩:=Yx hx;simp only[ai,D5,List.map_nil]
 go_enter func35,ntmps35
 go_wp2;go_ret;exact⟨rfl,Tch.refl.alloc (Ad _) _⟩
end
section
variable{fr:Bool}{w:JE}{b r cap:Nat}{rs:JD}
def Jny{bits:Int}(h:DV fr w b r cap bits rs)(hn:rs.length<=1000)(h0:0<rs.length)(hr:∀x∈rs,0<=x/\x<=255) :
  Calls prog 251 #[JL b] w λe w'=>∃g c',e=.returned (JM g rs.length c')/\w.heap.size<=g/\Row false w' g 110 .u64 rs c'/\Tch w.heap.size M0 w w':=by
 have c1:=(h.hd.cell 1).trans rfl;have BA:=J69 (.inl ⟨rfl,rfl,rfl,rfl,rfl,rfl⟩) h.row hn h0 λx hx=>⟨(hr x hx).1,by have:=(hr x hx).2;omega⟩
 go_enter func251,ntmps251
 go_wp2_with (go_at_call 254;refine BA.mono ?_;rintro e w' ⟨g,c',rfl,hg,Aj,ht⟩)
 go_ret;exact⟨g,c',rfl,hg,Aj,ht⟩
def Jl8{ba:JI}{nb cb:Nat}(h:EZ fr w b r cap ba nb cb rs)(hn:rs.length<=1000)(h0:0<rs.length)(hr:∀x∈rs,0<=x/\x<=9223372036854775807) :
  Calls prog 258 #[JL b] w λe w'=>∃g c',e=.returned (JM g rs.length c')/\w.heap.size<=g/\Row false w' g 110 .u64 rs c'/\Tch w.heap.size M0 w w':=by
 have c1:=(h.hd.cell 1).trans rfl;have BA:=J69 (.inr (.inl ⟨rfl,rfl,rfl,rfl,rfl,rfl⟩)) h.row hn h0 hr
 go_enter func258,ntmps258
 go_wp2_with (go_at_call 260;refine BA.mono ?_;rintro e w' ⟨g,c',rfl,hg,Aj,ht⟩)
 go_ret;exact⟨g,c',rfl,hg,Aj,ht⟩
end
def SlN(base:Nat)(w:JE)(v:JJ)(t:JH)(k:IntKind)(xs:JD):Prop:=∃g cap,v=JM g xs.length cap/\base<=g/\Row false w g t k xs cap
def SlN.tch{base:Nat}{w w':JE}{v:JJ}{t:JH}{k:IntKind}{xs:JD}(h:SlN base w v t k xs)(q:Tch w.heap.size M0 w w'):SlN base w' v t k xs:=by obtain⟨g,cap,h1,h2,h3⟩:=h;exact⟨g,cap,h1,h2,h3.tch q h3.lt λh=>h⟩
def SlI.mono{fr:Bool}{w:JE}{base AO:Nat}{v:JJ}{t:JH}{k:IntKind}{xs:JD}(h:SlI fr w base v t k xs)(hb:AO<=base):SlI fr w AO v t k xs:=by
 rcases h with h|⟨g,cap,h1,h2,h3⟩
 .exact .inl h
 .exact .inr ⟨g,cap,h1,by omega,h3⟩
def SlI.tch{w w':JE}{base:Nat}{v:JJ}{t:JH}{k:IntKind}{xs:JD}(h:SlI false w base v t k xs)(q:Tch w.heap.size M0 w w'):SlI false w' base v t k xs:=by
 rcases h with h|⟨g,cap,h1,h2,h3⟩
 .exact .inl h
 .exact .inr ⟨g,cap,h1,h2,h3.tch q h3.lt λh=>h⟩
structure KZ(base:Nat)(w:JE)(kv rv hv lv:JJ)(g:JD)(B:Bun):Prop where
 k:SlI false w base kv 3 .i64 g
 r:SlN base w rv 3 .i64 B.r
 h:SlN base w hv 3 .i64 B.h
 l:SlN base w lv 110 .u64 B.l
def KZ.tch{base:Nat}{w w':JE}{kv rv hv lv:JJ}{g:JD}{B:Bun}(h:KZ base w kv rv hv lv g B)(q:Tch w.heap.size M0 w w'):KZ base w' kv rv hv lv g B:=⟨h.k.tch q,h.r.tch q,h.h.tch q,h.l.tch q⟩
def Juh{P:Program}{ops:Array Oper}{Q:Exit->Act->JE->Prop}{i:Nat}{o:Oper}{a:Act}{w w':JE}{K:Act->JE->Prop}(ho:ops[i]?=some o)(hg:o.guard=none/\o.dst=none)(hr:(execOp a.eval o).run P w=.ok .skip w')(h:K a w'):wpOp P ops Q i K a w:=by unfold wpOp;simp only[ho,Region.wanted,hg.1,if_true];left;unfold Oper.wp;rw[hr];show K (a.put o.dst JA) w';rw[hg.2];exact h
def b38:Code:=f68.body.getD .skip
def WC:Code:=lC (bC (sC (sC (sC b38))))
def vK:Code:=bC (fC (sC (sC WC)))
def Wu:Code:=fC (sC (sC vK))
def Jnz(N:Nat)(p:BP)(B:Bun)(key:JD)(m:Nat):Nat->JJ->JE->Prop
 |0,v,_=>v=.agg (ai .i64 key)
 |1,v,_=>v=.int .i64 m
 |2,v,w=>SlI false w N v 3 .i64 (MV m key 5)
 |3,v,_=>v=pt p.b
 |4,v,_=>v=pt p.b
 |5,v,_=>v=pt p.b
 |6,v,_=>v=.int .i64 B.n
 |7,v,_=>v=pt p.b
 |8,v,_=>v=pt p.b
 |9,v,_=>v=pt p.b 1
 |10,v,_=>v=pt p.b 1
 |11,v,_=>v=.iface 186 (pt p.rb)
 |12,v,w=>SlN N w v 110 .u64 B.r
 |13,v,w=>SlN N w v 3 .i64 B.r
 |14,v,_=>v=pt p.b
 |15,v,_=>v=pt p.b
 |16,v,_=>v=pt p.b 1
 |17,v,_=>v=pt p.b 2
 |18,v,_=>v=.iface 189 (pt p.hb)
 |19,v,w=>SlN N w v 110 .u64 B.h
 |20,v,w=>SlN N w v 3 .i64 B.h
 |21,v,_=>v=pt p.b
 |22,v,_=>v=pt p.b
 |23,v,_=>v=pt p.b 1
 |24,v,_=>v=pt p.b 3
 |25,v,_=>v=.iface 192 (pt p.lb)
 |26,v,w=>SlN N w v 110 .u64 B.l
 |27,v,w=>∃kv rv hv lv,v=.agg #[kv,.int .i64 B.n,rv,hv,lv]/\KZ N w kv rv hv lv (MV m key 5) B
 |_,v,w=>∃cb,v=pt cb/\N<=cb/\w.heap[cb]?=some (.cells #[.slice none 0 0,.int .i64 0,.slice none 0 0,.slice none 0 0,.slice none 0 0] 38)
def Jk0{N:Nat}{p:BP}{B:Bun}{key:JD}{m:Nat}(i:Nat)(v:JJ)(w w':JE)(h:Jnz N p B key m i v w)(t:Tch w.heap.size M0 w w'):Jnz N p B key m i v w':=by
 match i,h with
 |2,h=>exact SlI.tch h t
 |12,h=>exact SlN.tch h t
 |13,h=>exact SlN.tch h t
 |19,h=>exact SlN.tch h t
 |20,h=>exact SlN.tch h t
 |26,h=>exact SlN.tch h t
 |27,⟨kv,rv,hv,lv,h1,h2⟩=>exact⟨kv,rv,hv,lv,h1,h2.tch t⟩
 |0,h|1,h|3,h|4,h|5,h|6,h|7,h|8,h|9,h|10,h|11,h|14,h|15,h|16,h|17,h|18,h|21,h|22,h|23,h|24,h|25,h=>exact h
 |i+28,⟨cb,h1,h2,h3⟩=>exact⟨cb,h1,h2,(t.heap cb (Jj h3) λh=>h).trans h3⟩
section
variable{w:JE}{f:Nat->JJ}{mb kb:Nat}{p:BP}{B:Bun}{c:J7}{key:JD}{m:Nat}{d:Deferred}
def Jui{T0:JC}(hB:Jw false w c p B)(hok:Jl c B)(hc:CZ c)(BZ:∀x∈B.h,0<=x)(hK:key.length=5)(SV:w.heap[kb]?=some (.cells (ai .i64 key) 104))(hm:w.cell? ⟨mb,0,none⟩=some (JK m))
  (hT:T0.size=75) (t2:T0[2]?=some (pt mb)) (t8:T0[8]?=some (pt kb)) (t9:T0[9]?=some (pt p.b)) :
  Wu.wp prog (λe a w'=>e=.normal/\a.defers=[d]/\a.tmps.size=75/\(∀s,s<42->s≠10->a.tmps[s]?=T0[s]?)/\∃cb kv rv hv lv,a.tmps[10]?=some (pt cb)/\w.heap.size<=cb/\w'.heap[cb]?=some (.cells #[kv,JK B.n,rv,hv,lv] 38)/\KZ w.heap.size w' kv rv hv lv (MV m key 5) B/\Tch w.heap.size M0 w w') ⟨T0,[d]⟩ w:=by
 have XI:B.r.length<=64/\0<B.r.length:=by
  have h1:=hc.b1;have h2:=hc.b2;rw[hok.r];have:c.bits=4\/c.bits=5\/c.bits=6:=by omega
  grind
 have Um:B.h.length<=9/\0<B.h.length:=by rw[hok.h];have:=hc.nb;omega
 have jA:B.l.length<=8:=by have:=hok.lK;have:=hc.k2;omega
 have Pv:∀w1,Tch w.heap.size M0 w w1->Jw false w1 c p B:=λw1 t=>hB.kept λx hx=>t.heap x (hB.lt x hx) λh=>h;obtain⟨y0,y1,y2,y3,y4,hy⟩:=Yx hK;have iU:∀i v,(ai .i64 key)[i]?=some v->∀w1,Tch w.heap.size M0 w w1->w1.cell? ⟨kb,i,none⟩=some v:=λi v h w1 t=>(cell_of ((t.heap kb (Jj SV) λh=>h).trans SV) i).trans h;have qA:=iU 0 (JK y0) (by rw[hy];rfl);have DI:=iU 1 (JK y1) (by rw[hy];rfl);have BX:=iU 2 (JK y2) (by rw[hy];rfl);have OM:=iU 3 (JK y3) (by rw[hy];rfl);have PY:=iU 4 (JK y4) (by rw[hy];rfl);have LD:ai .i64 key=#[JK y0,JK y1,JK y2,JK y3,JK y4]:=by rw[hy];rfl
 have X7:∀w1,Tch w.heap.size M0 w w1->w1.cell? ⟨mb,0,none⟩=some (JK m):=λw1 t=>(t.cell (cell_lt hm) λh=>h).trans hm;have Jko:=Jky key hK m;have hc0:=λw1 t=>(Pv w1 t).c0;have DF:=λw1 t=>(Pv w1 t).c1;have Nh:=λw1 t=>(Pv w1 t).c2;have vY:=λw1 t=>(Pv w1 t).c3;have X9:=λw1 t=>Jny (Pv w1 t).reg (by omega) XI.2 hok.r8;have Ij:=λw1 t=>Jl8 (Pv w1 t).hist (by omega) Um.2 λx hx=>⟨BZ x hx,(hok.h64 x hx).2⟩;have hi1:=λ{w1 g cap}(h:Row false w1 g 110 .u64 B.r cap)=>J69 (.inr (.inr ⟨rfl,rfl,rfl,rfl,rfl,rfl⟩)) h (by omega) XI.2 λx hx=>by have:=hok.r8 x hx;omega
 have Nq:=λ{w1 g cap}(h:Row false w1 g 110 .u64 B.h cap)=>J69 (.inr (.inr ⟨rfl,rfl,rfl,rfl,rfl,rfl⟩)) h (by omega) Um.2 λx hx=>⟨BZ x hx,(hok.h64 x hx).2⟩;have Ze:∀w1,Tch w.heap.size M0 w w1->Calls prog 265 #[JL p.lb] w1 λe w'=>∃g c',e=.returned (JM g B.l.length c')/\w1.heap.size<=g/\Row false w' g 110 .u64 B.l c'/\Tch w1.heap.size M0 w1 w':=λw1 t=>by
  have hl:=(Pv w1 t).least;cases hp:p.lr with
  |none=>
   rw[hp]at hl;exact absurd hl.row hok.lne
  |some q=>
   grind[Jiq]
 simp only[Wu,vK,WC,b38,fC,sC,bC,lC,f68,A8];refine Jdg 29 (λi=>if i=28 then 10 else i+42) (Jnz w.heap.size p B key m) mixed (by kernel_rfl) (λi hi=>by grind) Jk0 ?_ ?_
 .intro i o a w1 hi ho Az Ag hold hd;have s2:=(hold 2 (by grind)).trans t2;have s8:=(hold 8 (by grind)).trans t8;have s9:=(hold 9 (by grind)).trans t9
  match i,hi with
  |0,_=>
   cases ho;exact J9 rfl rfl (by simp[execOp,go_sem,s8,qA _ Az,DI _ Az,BX _ Az,OM _ Az,PY _ Az,LD];try rfl) ⟨_,rfl,rfl,.refl⟩
  |1,_=>
   cases ho;exact J9 rfl rfl (by simp[execOp,go_sem,s2,X7 _ Az];try rfl) ⟨_,rfl,rfl,.refl⟩
  |2,_=>
   cases ho;obtain⟨_,e0,rfl⟩:=hd 0 rfl;have e0:=(show a.tmps[42]?=some _ from e0);obtain⟨_,e1,rfl⟩:=hd 1 rfl;have e1:=(show a.tmps[43]?=some _ from e1);exact Rz rfl rfl (by simp[execOp,go_sem,e0,e1];try rfl) (Jko _) λe w2 ⟨v,h1,h2,h3⟩=>⟨v,h1,v,rfl,h2.mono Az.size,h3⟩
  |3,_=>
   cases ho;exact J9 rfl rfl (by simp[execOp,go_sem,s9];try rfl) ⟨_,rfl,rfl,.refl⟩
  |7,_=>
   cases ho;exact J9 rfl rfl (by simp[execOp,go_sem,s9];try rfl) ⟨_,rfl,rfl,.refl⟩
  |14,_=>
   cases ho;exact J9 rfl rfl (by simp[execOp,go_sem,s9];try rfl) ⟨_,rfl,rfl,.refl⟩
  |21,_=>
   cases ho;exact J9 rfl rfl (by simp[execOp,go_sem,s9];try rfl) ⟨_,rfl,rfl,.refl⟩
  |4,_=>
   cases ho;obtain⟨_,e3,rfl⟩:=hd 3 rfl;have e3:=(show a.tmps[45]?=some _ from e3);exact J9 rfl rfl (by simp[execOp,go_sem,e3];try rfl) ⟨_,rfl,rfl,.refl⟩
  |8,_=>
   cases ho;obtain⟨_,e7,rfl⟩:=hd 7 rfl;have e7:=(show a.tmps[49]?=some _ from e7);exact J9 rfl rfl (by simp[execOp,go_sem,e7];try rfl) ⟨_,rfl,rfl,.refl⟩
  |15,_=>
   cases ho;obtain⟨_,O5,rfl⟩:=hd 14 rfl;have O5:=(show a.tmps[56]?=some _ from O5);exact J9 rfl rfl (by simp[execOp,go_sem,O5];try rfl) ⟨_,rfl,rfl,.refl⟩
  |22,_=>
   cases ho;obtain⟨_,WU,rfl⟩:=hd 21 rfl;have WU:=(show a.tmps[63]?=some _ from WU);exact J9 rfl rfl (by simp[execOp,go_sem,WU];try rfl) ⟨_,rfl,rfl,.refl⟩
  |5,_=>
   cases ho;obtain⟨_,e4,rfl⟩:=hd 4 rfl;have e4:=(show a.tmps[46]?=some _ from e4);exact J9 rfl rfl (by simp[execOp,go_sem,e4];try rfl) ⟨_,rfl,rfl,.refl⟩
  |6,_=>
   cases ho;obtain⟨_,e5,rfl⟩:=hd 5 rfl;have e5:=(show a.tmps[47]?=some _ from e5);exact J9 rfl rfl (by simp[execOp,go_sem,e5,hc0 _ Az];try rfl) ⟨_,rfl,rfl,.refl⟩
  |9,_=>
   cases ho;obtain⟨_,e8,rfl⟩:=hd 8 rfl;have e8:=(show a.tmps[50]?=some _ from e8);exact J9 rfl rfl (by simp[execOp,go_sem,e8];try rfl) ⟨_,rfl,rfl,.refl⟩
  |16,_=>
   cases ho;obtain⟨_,KG,rfl⟩:=hd 15 rfl;have KG:=(show a.tmps[57]?=some _ from KG);exact J9 rfl rfl (by simp[execOp,go_sem,KG];try rfl) ⟨_,rfl,rfl,.refl⟩
  |23,_=>
   cases ho;obtain⟨_,WV,rfl⟩:=hd 22 rfl;have WV:=(show a.tmps[64]?=some _ from WV);exact J9 rfl rfl (by simp[execOp,go_sem,WV];try rfl) ⟨_,rfl,rfl,.refl⟩
  |10,_=>
   cases ho;obtain⟨_,e9,rfl⟩:=hd 9 rfl;have e9:=(show a.tmps[51]?=some _ from e9);exact J9 rfl rfl (by simp[execOp,go_sem,e9];try rfl) ⟨_,rfl,rfl,.refl⟩
  |17,_=>
   cases ho;obtain⟨_,PG,rfl⟩:=hd 16 rfl;have PG:=(show a.tmps[58]?=some _ from PG);exact J9 rfl rfl (by simp[execOp,go_sem,PG];try rfl) ⟨_,rfl,rfl,.refl⟩
  |24,_=>
   cases ho;obtain⟨_,WW,rfl⟩:=hd 23 rfl;have WW:=(show a.tmps[65]?=some _ from WW);exact J9 rfl rfl (by simp[execOp,go_sem,WW];try rfl) ⟨_,rfl,rfl,.refl⟩
  |11,_=>
   cases ho;obtain⟨_,MZ,rfl⟩:=hd 10 rfl;have MZ:=(show a.tmps[52]?=some _ from MZ);exact J9 rfl rfl (by simp[execOp,go_sem,MZ,DF _ Az];try rfl) ⟨_,rfl,rfl,.refl⟩
  |18,_=>
   cases ho;obtain⟨_,PK,rfl⟩:=hd 17 rfl;have PK:=(show a.tmps[59]?=some _ from PK);exact J9 rfl rfl (by simp[execOp,go_sem,PK,Nh _ Az];try rfl) ⟨_,rfl,rfl,.refl⟩
  |25,_=>
   cases ho;obtain⟨_,QB,rfl⟩:=hd 24 rfl;have QB:=(show a.tmps[66]?=some _ from QB);exact J9 rfl rfl (by simp[execOp,go_sem,QB,vY _ Az];try rfl) ⟨_,rfl,rfl,.refl⟩
  |12,_=>
   cases ho;obtain⟨_,QA,rfl⟩:=hd 11 rfl;have QA:=(show a.tmps[53]?=some _ from QA);exact Rz rfl rfl (by simp[execOp,go_sem,QA,Jkv];try rfl) (X9 _ Az) λe w2 ⟨g,c',h1,h2,h3,h4⟩=>⟨_,h1,_,rfl,⟨g,c',rfl,BN Az.size h2,h3⟩,h4⟩
  |19,_=>
   cases ho;obtain⟨_,Na,rfl⟩:=hd 18 rfl;have Na:=(show a.tmps[60]?=some _ from Na);exact Rz rfl rfl (by simp[execOp,go_sem,Na,Jkw];try rfl) (Ij _ Az) λe w2 ⟨g,c',h1,h2,h3,h4⟩=>⟨_,h1,_,rfl,⟨g,c',rfl,BN Az.size h2,h3⟩,h4⟩
  |26,_=>
   cases ho;obtain⟨_,WX,rfl⟩:=hd 25 rfl;have WX:=(show a.tmps[67]?=some _ from WX);exact Rz rfl rfl (by simp[execOp,go_sem,WX,Jkx];try rfl) (Ze _ Az) λe w2 ⟨g,c',h1,h2,h3,h4⟩=>⟨_,h1,_,rfl,⟨g,c',rfl,BN Az.size h2,h3⟩,h4⟩
  |13,_=>
   cases ho;obtain⟨_,WQ,g,c1,rfl,hg,Aj⟩:=hd 12 rfl;have WQ:=(show a.tmps[54]?=some _ from WQ);exact Rz rfl rfl (by simp[execOp,go_sem,WQ];try rfl) (hi1 Aj) λe w2 ⟨g,c',h1,h2,h3,h4⟩=>⟨_,h1,_,rfl,⟨g,c',rfl,BN Az.size h2,h3⟩,h4⟩
  |20,_=>
   cases ho;obtain⟨_,S9,g,c1,rfl,hg,Aj⟩:=hd 19 rfl;have S9:=(show a.tmps[61]?=some _ from S9);exact Rz rfl rfl (by simp[execOp,go_sem,S9];try rfl) (Nq Aj) λe w2 ⟨g,c',h1,h2,h3,h4⟩=>⟨_,h1,_,rfl,⟨g,c',rfl,BN Az.size h2,h3⟩,h4⟩
  |27,_=>
   cases ho;obtain⟨_,e2,h2⟩:=hd 2 rfl;have e2:=(show a.tmps[44]?=some _ from e2);obtain⟨_,e6,rfl⟩:=hd 6 rfl;have e6:=(show a.tmps[48]?=some _ from e6);obtain⟨_,NW,g1,c1,rfl,Ba,r1⟩:=hd 13 rfl;have NW:=(show a.tmps[55]?=some _ from NW);obtain⟨_,Vl,g2,c2,rfl,Bl,r2⟩:=hd 20 rfl;have Vl:=(show a.tmps[62]?=some _ from Vl);obtain⟨_,Vm,g3,c3,rfl,Gt,r3⟩:=hd 26 rfl;have Vm:=(show a.tmps[68]?=some _ from Vm);rcases h2 with⟨rfl,q0⟩|⟨g0,c0,rfl,q0,r0⟩
   .exact J9 rfl rfl (by simp[execOp,go_sem,e2,e6,NW,Vl,Vm];try rfl) ⟨_,rfl,⟨_,_,_,_,rfl,.inl ⟨rfl,q0⟩,⟨g1,c1,rfl,Ba,r1⟩,⟨g2,c2,rfl,Bl,r2⟩,⟨g3,c3,rfl,Gt,r3⟩⟩,.refl⟩
   .exact J9 rfl rfl (by simp[execOp,go_sem,e2,e6,NW,Vl,Vm];try rfl) ⟨_,rfl,⟨_,_,_,_,rfl,.inr ⟨g0,c0,rfl,q0,r0⟩,⟨g1,c1,rfl,Ba,r1⟩,⟨g2,c2,rfl,Bl,r2⟩,⟨g3,c3,rfl,Gt,r3⟩⟩,.refl⟩
  |28,_=>
   cases ho;exact J9 rfl rfl (by simp[execOp,go_sem,zeroValue38];try rfl) ⟨_,rfl,⟨_,rfl,Az.size,Ja _⟩,(Tch.refl.alloc (Ad _) _)⟩
  |i+29,h=>grind
 .intro a w1 Az Ob Ag hold hf;obtain⟨_,f27,kv,rv,hv,lv,rfl,hD⟩:=hf 27 (by omega);obtain⟨_,f28,cb,rfl,SL,hz⟩:=hf 28 (by omega);have f27:=(show a.tmps[69]?=some _ from f27);have f28:=(show a.tmps[10]?=some _ from f28);show wpOps _ _ _ [29] a w1;rw[wpOps_cons];have EY:=(cell_of hz 0).trans rfl;have q0:=FZ hz 0;have q1:=FZ hz 1;have DJ:=(cell_of hz 1).trans rfl;have DR:=(cell_of hz 2).trans rfl;have hz3:=(cell_of hz 3).trans rfl;have hz4:=(cell_of hz 4).trans rfl;have q2:=FZ hz 2;have q3:=FZ hz 3;have q4:=FZ hz 4;obtain⟨D6,⟨g1,c1,rfl,Ba,r1⟩,⟨g2,c2,rfl,Bl,r2⟩,⟨g3,c3,rfl,Gt,r3⟩⟩:=hD;obtain⟨ka,kl,kc,rfl⟩:∃ka kl kc,kv=.slice ka kl kc:=by
   rcases D6 with⟨rfl,_⟩|⟨g,cap,rfl,_⟩
   all_goals grind
  refine Juh rfl ⟨rfl,rfl⟩ (w':=(((((w1.setCell ⟨cb,0,none⟩ (.slice ka kl kc)).setCell ⟨cb,1,none⟩ (JK B.n)).setCell ⟨cb,2,none⟩ (JM g1 B.r.length c1)).setCell ⟨cb,3,none⟩ (JM g2 B.h.length c2)).setCell ⟨cb,4,none⟩ (JM g3 B.l.length c3))) (by simp[execOp,go_sem,f27,f28,EY,DJ,DR,hz3,hz4,q0,q1,q2,q3,q4,stored]) ?_;have hcb2:Blk false w1 cb #[.slice none 0 0,JK 0,.slice none 0 0,.slice none 0 0,.slice none 0 0] 38:=⟨_,hz,λ_=>rfl⟩;have QF:=((((hcb2.set 0 (.slice ka kl kc)).set 1 (JK B.n)).set 2 (JM g1 B.r.length c1)).set 3 (JM g2 B.h.length c2)).set 4 (JM g3 B.l.length c3);obtain⟨z,QF,hz5⟩:=QF;obtain rfl:=hz5 rfl;have yS:∀{g t k xs cap},Row false w1 g t k xs cap->t≠38->g≠cb:=λh hn e=>by
   obtain⟨arr,⟨z,h1,h2⟩,_⟩:=h
   grind
  have keep:∀{g},g≠cb->(((((w1.setCell ⟨cb,0,none⟩ (.slice ka kl kc)).setCell ⟨cb,1,none⟩ (JK B.n)).setCell ⟨cb,2,none⟩ (JM g1 B.r.length c1)).setCell ⟨cb,3,none⟩ (JM g2 B.h.length c2)).setCell ⟨cb,4,none⟩ (JM g3 B.l.length c3)).heap[g]?=w1.heap[g]?:=λhg=>by
   simp_all[Jm]
  have EW:=((((Az.set (a:=⟨cb,0,none⟩) (.inl SL) (.slice ka kl kc)).set (a:=⟨cb,1,none⟩) (.inl SL) (JK B.n)).set (a:=⟨cb,2,none⟩) (.inl SL) (JM g1 B.r.length c1)).set (a:=⟨cb,3,none⟩) (.inl SL) (JM g2 B.h.length c2)).set (a:=⟨cb,4,none⟩) (.inl SL) (JM g3 B.l.length c3);generalize(((((w1.setCell ⟨cb,0,none⟩ (.slice ka kl kc)).setCell ⟨cb,1,none⟩ (JK B.n)).setCell ⟨cb,2,none⟩ (JM g1 B.r.length c1)).setCell ⟨cb,3,none⟩ (JM g2 B.h.length c2)).setCell ⟨cb,4,none⟩ (JM g3 B.l.length c3))=w2 at *;refine⟨rfl,Ob,Ag.trans hT,λs hs Bo=>hold s λi hi=>?_,cb,_,_,_,_,f28,SL,QF,⟨?_,⟨g1,c1,rfl,Ba,r1.kept (keep (yS r1 (by decide)))⟩,⟨g2,c2,rfl,Bl,r2.kept (keep (yS r2 (by decide)))⟩,⟨g3,c3,rfl,Gt,r3.kept (keep (yS r3 (by decide)))⟩⟩,?_⟩
  .show(if i=28 then 10 else i+42)≠s;split<;>omega
  .rcases D6 with h|⟨g,cap,h1,h2,h3⟩
   .exact .inl h
   .exact .inr ⟨g,cap,h1,h2,h3.kept (keep (yS h3 (by decide)))⟩
  .exact EW
end
open Go.Shelf
def b9:Code:=f17.body.getD .skip
def B9:Code:=fC (sC (sC (sC b9)))
def Jx4:Code->Code | .rangeFunc _ _ a _=>a|c=>c
def Jx5:Code->Code | .rangeFunc _ _ _ b=>b|c=>c
def Ve:Code:=Jx4 (bC (sC B9))
def Vf:Code:=Jx5 (bC (sC B9))
def ZN(f:Nat->JJ):((List.range 33).map f).toArray=#[f 0,f 1,f 2,f 3,f 4,f 5,f 6,f 7,f 8,f 9,f 10,f 11,f 12,f 13,f 14,f 15,f 16,f 17,f 18,f 19,f 20,f 21,f 22,f 23,f 24,f 25,f 26,f 27,f 28,f 29,f 30,f 31,f 32]:=by rfl
def Jx6{T:JC}(h:T.size=33):∃f:Nat->JJ,T=((List.range 33).map f).toArray:=⟨_,dM h⟩
structure QC where
 kv:JJ
 rv:JJ
 hv:JJ
 lv:JJ
 g:JD
 B:Bun
def QC.val(q:QC):JJ:=.agg #[q.kv,JK q.B.n,q.rv,q.hv,q.lv]
def QC.cells(q:QC):List JJ:=[q.kv,JK q.B.n,q.rv,q.hv,q.lv]
def QC.slices(q:QC):Prop:=∃a1 l1 c1 a2 l2 c2 a3 l3 c3 a4 l4 c4,q.kv=.slice a1 l1 c1/\q.rv=.slice a2 l2 c2/\q.hv=.slice a3 l3 c3/\q.lv=.slice a4 l4 c4
def J01c:(prog.info? 38).map (λi=>(i.zero,i.size,i.bytes))=some (some (.agg #[.slice none 0 0,JK 0,.slice none 0 0,.slice none 0 0,.slice none 0 0]),5,104):=by kernel_rfl
structure QAt(base:Nat)(T9:JC)(mo ob l D:Nat)(most:Int)(L:List QC)(W:JE):Prop where
 box:∃v,W.heap[ob]?=some (.cells #[v] 42)/\W.ownsRow base 38 5 v L.length (L.flatMap QC.cells)
 lp:W.heap[l]?=some (.loop (NI 17 T9 #[19,20] Ve Vf D))
 mo:W.heap[mo]?=some (.cells #[JK most] 3)
 D:W.heap[D]?=some (.deferred (some []))
def KQ(base l ob:Nat)(W W':JE):Prop:=W.heap.size<=W'.heap.size/\∀b o,W.heap[b]?=some o->b≠l->b≠ob->(base<=b->∀cur,o≠.cells cur 38)->W'.heap[b]?=some o
def YK{base:Nat}{e:JH}{size:Nat}{v:JJ}{n:Nat}{xs:List JJ}{w w':JE}(h:w.ownsRow base e size v n xs)(hh:∀(g:Nat)(cur:JC),w.heap[g]?=some (Obj.cells cur e)->w'.heap[g]?=some (Obj.cells cur e)):w'.ownsRow base e size v n xs:=by
 refine⟨h.1,?_⟩;rcases h.2 with hn|⟨g,cap,cur,rfl,hb,OJ,rest⟩
 .exact .inl hn
 .exact .inr ⟨g,cap,cur,rfl,hb,hh g cur OJ,rest⟩
section
variable{base mo ob l D m:Nat}{f:Nat->JJ}{most:Int}{L:List QC}{W:JE}
def J01d(q:QC)(hq:q.slices)(hJ:QAt base #[f 0,f 1,f 2,f 3,f 4,f 5,f 6,pt mo,f 8,f 9,pt ob,f 11,f 12,f 13,f 14,f 15,f 16,f 17,f 18,f 19,f 20,f 21,f 22,f 23,f 24,f 25,f 26,f 27,f 28,f 29,f 30,f 31,f 32] mo ob l D most L W)(Ac:(L.length:Int)<most)(hn:L.length<=1000)(hb:base<=W.heap.size) :
  YieldAt Fence.wide m prog l #[q.val,.nilIface] W λe W'=>e=.returned (.bool true)/\QAt base #[f 0,f 1,f 2,f 3,f 4,f 5,f 6,pt mo,f 8,f 9,pt ob,f 11,f 12,f 13,f 14,f 15,f 16,f 17,f 18,f 19,f 20,f 21,f 22,f 23,f 24,f 25,f 26,f 27,f 28,f 29,f 30,f 31,f 32] mo ob l D most (L++[q]) W'/\KQ base l ob W W':=by
 obtain⟨i0,hi,EY,DJ,DR⟩:=info_parts J01c;obtain⟨v,hv,Aw⟩:=hJ.box;obtain⟨a1,l1,c1,a2,l2,c2,a3,l3,c3,a4,l4,c4,DI,BX,OM,PY⟩:=hq;refine⟨17,#[f 0,f 1,f 2,f 3,f 4,f 5,f 6,pt mo,f 8,f 9,pt ob,f 11,f 12,f 13,f 14,f 15,f 16,f 17,f 18,q.val,.nilIface,f 21,f 22,f 23,f 24,f 25,f 26,f 27,f 28,f 29,f 30,f 31,f 32],Ve,Vf,by simpa[NI]using run_yield (P:=prog) (args:=#[q.val,.nilIface]) hJ.lp rfl,roundIn_of_wpIn trivial ?_⟩;unfold QC.val;rw[DI,BX,OM,PY];simp only[Ve,Vf,B9,b9,Jx4,Jx5,fC,sC,bC,f17,A8]
 gi_wp2_with gi_round_op_a
 obtain⟨va,vc,rfl⟩:∃va vc,v=.slice va L.length vc:=by
  rcases Aw.2 with⟨rfl,h0⟩|⟨g,cap,cur,rfl,_⟩
  all_goals grind
 obtain⟨W1,AP⟩:∃W1,W.alloc (.cells #[.slice a1 l1 c1,JK q.B.n,.slice a2 l2 c2,.slice a3 l3 c3,.slice a4 l4 c4] 38)=W1:=⟨_,rfl⟩;rw[AP];have Ba:W.grownBy W1 none:=by grind[World.grownBy_alloc]
 have o1:∀b,b<W.heap.size->W1.heap[b]?=W.heap[b]?:=λb h=>by grind[J8]
 have Vt:W1.heap[W.heap.size]?=some (.cells #[.slice a1 l1 c1,JK q.B.n,.slice a2 l2 c2,.slice a3 l3 c3,.slice a4 l4 c4] 38):=by grind[Ja]
 have jA:=Jj hJ.lp;have hol:=Jj hv;have LG:=Jj hJ.mo;have wH:=Jj hJ.D;have AQ:W1.heap.size=W.heap.size+1:=by rw[<- AP];simp
 have Ju3:=(o1 _ jA).trans hJ.lp;have XT:=(o1 _ hol).trans hv;have Jvr:=(o1 _ LG).trans hJ.mo;have hD1:=(o1 _ wH).trans hJ.D;have jU:=YK Aw λg cur h=>(o1 g (Jj h)).trans h;have OH:=run_beginRound (P:=prog) Ju3 rfl;obtain⟨W2,Dv⟩:∃W2,W1.putObj l (.loop { NI 17 #[f 0,f 1,f 2,f 3,f 4,f 5,f 6,pt mo,f 8,f 9,pt ob,f 11,f 12,f 13,f 14,f 15,f 16,f 17,f 18,f 19,f 20,f 21,f 22,f 23,f 24,f 25,f 26,f 27,f 28,f 29,f 30,f 31,f 32] #[19,20] Ve Vf D with state:=.busy })=W2:=⟨_,rfl⟩;rw[Dv]at OH;have Bo:W2.heap.size=W.heap.size+1:=by rw[<- Dv];simp[AQ]
 have o2:∀b,b≠l->W2.heap[b]?=W1.heap[b]?:=λb h=>by grind[World.putObj_heap_other]
 have dN:∀{b o},W1.heap[b]?=some o->(∀r,o≠.loop r)->b≠l:=λh hn e=>by
  grind
 have Jvs:=dN XT (by simp);have Rj:=dN Vt (by simp);have Jvt:=dN Jvr (by simp);have Jvu:=dN hD1 (by simp);have GH:=(o2 _ Rj).trans Vt;have Iw:=(o2 _ Jvs).trans XT;have Jvv:=(o2 _ Jvt).trans Jvr;have hD2:=(o2 _ Jvu).trans hD1;have Ju4:W2.heap[l]?=some (.loop { NI 17 #[f 0,f 1,f 2,f 3,f 4,f 5,f 6,pt mo,f 8,f 9,pt ob,f 11,f 12,f 13,f 14,f 15,f 16,f 17,f 18,f 19,f 20,f 21,f 22,f 23,f 24,f 25,f 26,f 27,f 28,f 29,f 30,f 31,f 32] #[19,20] Ve Vf D with state:=.busy }):=by grind[World.putObj_heap_same]
 have Oh:=YK jU λg cur h=>(o2 g (dN h (by simp))).trans h;have J08f:∀cur,W2.heap[ob]?≠some (.cells cur 38):=λcur h=>by grind
 have k0:=(cell_of GH 0).trans rfl;have k1:=(cell_of GH 1).trans rfl;have k2:=(cell_of GH 2).trans rfl;have k3:=(cell_of GH 3).trans rfl;have k4:=(cell_of GH 4).trans rfl;have kob:=(cell_of Iw 0).trans rfl;have kmo:=(cell_of Jvv 0).trans rfl;have Ap:¬(L.length:Int)=most:=by omega
 have jF:maxLen=9223372036854775807:=by decide
 generalize hBx:W.heap.size=Bx at *;have D7:some ob≠(Value.slice va L.length vc).ownBlock:=by
  grind[ownsRow_ne_a]
 have Dk:base<=W2.heap.size:=by omega
 have hs2':Hid (W2.heap.size=Bx+1):=Bo;clear Bo AQ;refine⟨W2,OH,?_⟩
 gi_wp2_with (first
  |(gi_at_builtin;refine wpListIn_append_own _ rfl _ _ 42 rfl base 38 i0 _ 5 104 underlying42 hi EY DJ DR rfl (by decide) _ L.length _ rfl (YK Oh λg cur h=>(J8 _ (Jj h)).trans h) ⟨W2.heap.size,0,none⟩ 1 1 [.slice a1 l1 c1,.int .i64 q.B.n,.slice a2 l2 c2,.slice a3 l3 c3,.slice a4 l4 c4] rfl rfl J8f (by simp[Value.oneCell']) (by omega) (by omega) (by rw[size_alloc];omega) ?_;intro v' w3 V3 Gt jO
    have uI:w3.heap[ob]?=some (.cells #[.slice va L.length vc] 42):=(Gt.block ob (by grind[size_alloc,Jj]) D7).trans ((J8 _ (Jj Iw)).trans Iw);have kob3:=(cell_of uI 0).trans rfl;have qob3:=FZ uI 0;obtain⟨zC,zF,rfl⟩:∃zC zF,v'=.slice zC (L.length+1) zF:=by
     rcases V3.2 with⟨rfl,h0⟩|⟨g,cap,cur,rfl,_⟩
     all_goals grind)
  |gi_round_op_a)
 have hb2s:W2.heap.size=Bx+1:=hs2';have Gt:=(show World.grownBy _ w3 (Value.slice va L.length vc).ownBlock from Gt);have tN:∀(b:Nat)(o:Obj),W2.heap[b]?=some o->(∀cur,o≠.cells cur 38)->w3.heap[b]?=some o:=λb o h hn=>by
  refine(Gt.block b (by grind[size_alloc,Jj]) ?_).trans ((J8 _ (Jj h)).trans h);rcases ownsRow_ne_a Oh h hn with h1|h1
  all_goals grind
 have Juk:=tN l _ Ju4 (by simp);have Jvw:=tN mo _ Jvv (by simp);have hD3:=tN D _ hD2 (by simp);have Ju5:=Gt.size;rw[size_alloc]at Ju5;obtain⟨W4,PS⟩:∃W4,w3.setCell ⟨ob,0,none⟩ (.slice zC (L.length+1) zF)=W4:=⟨_,rfl⟩;rw[PS];have o4:∀b,b≠ob->W4.heap[b]?=w3.heap[b]?:=λb h=>by grind[Jm]
 have Ju6:W4.heap[ob]?=some (.cells #[.slice zC (L.length+1) zF] 42):=by rw[<- PS,heap_set uI];rfl
 have XK:W4.heap.size=w3.heap.size:=by grind[size_set]
 have uJ:∀{b:Nat}{o:Obj},w3.heap[b]?=some o->(∀cur,o≠.cells cur 42)->b≠ob:=λh hn e=>by
  grind
 have Jvx:=(o4 _ (uJ Juk (by simp))).trans Juk;refine⟨_,_,run_endRound none Jvx,rfl,⟨⟨_,(World.putObj_heap_other Jvs).trans Ju6,?_⟩,World.putObj_heap_same (Jj Jvx),(World.putObj_heap_other Jvt).trans ((o4 _ (uJ Jvw (by simp))).trans Jvw),(World.putObj_heap_other Jvu).trans ((o4 _ (uJ hD3 (by simp))).trans hD3)⟩,?_,λb o hb hl ho h39=>?_⟩
 .have h5:=YK V3 (w':=W4.putObj l (.loop { { NI 17 #[f 0,f 1,f 2,f 3,f 4,f 5,f 6,pt mo,f 8,f 9,pt ob,f 11,f 12,f 13,f 14,f 15,f 16,f 17,f 18,f 19,f 20,f 21,f 22,f 23,f 24,f 25,f 26,f 27,f 28,f 29,f 30,f 31,f 32] #[19,20] Ve Vf D with state:=.busy } with state:=if(none:Option Code).isNone then .ready else .done,pending:=none })) λg cur h=>(World.putObj_heap_other λe=>by grind).trans ((o4 g (uJ h (by simp))).trans h);have e:(L++[q]).flatMap QC.cells=L.flatMap QC.cells++[.slice a1 l1 c1,JK q.B.n,.slice a2 l2 c2,.slice a3 l3 c3,.slice a4 l4 c4]:=by simp[QC.cells,DI,BX,OM,PY]
  grind
 .rw[World.putObj_size];omega
 .rw[World.putObj_heap_other hl,o4 b ho];have Dv:W2.heap[b]?=some o:=by
   grind
  rcases BF b base with Ac|Et
  .refine(Gt.block b (by grind[size_alloc,Jj]) ?_).trans ((J8 _ (Jj Dv)).trans Dv);rcases Oh.2 with⟨e,_⟩|⟨g,cap,cur,e,xC,_⟩
   .rw[e];simp[Value.ownBlock]
   .rw[e];simp only[Value.ownBlock,ne_eq,Cb];omega
  .exact tN b o Dv (h39 Et)
end
def VO(f:Nat->JJ):((List.range 75).map f).toArray=#[f 0,f 1,f 2,f 3,f 4,f 5,f 6,f 7,f 8,f 9,f 10,f 11,f 12,f 13,f 14,f 15,f 16,f 17,f 18,f 19,f 20,f 21,f 22,f 23,f 24,f 25,f 26,f 27,f 28,f 29,f 30,f 31,f 32,f 33,f 34,f 35,f 36,f 37,f 38,f 39,f 40,f 41,f 42,f 43,f 44,f 45,f 46,f 47,f 48,f 49,f 50,f 51,f 52,f 53,f 54,f 55,f 56,f 57,f 58,f 59,f 60,f 61,f 62,f 63,f 64,f 65,f 66,f 67,f 68,f 69,f 70,f 71,f 72,f 73,f 74]:=by rfl
def Jo2{T:JC}(h:T.size=75):∃f:Nat->JJ,T=((List.range 75).map f).toArray:=⟨_,dM h⟩
def RI:Code:=sC (sC b38)
def Jx7:Code:=fC RI
def Jx8:Code:=fC WC
def Jx9:Code:=fC (sC WC)
def Jxa:Code:=fC vK
def Jxb:Code:=fC (sC vK)
def Jxc:Code:=sC (sC (sC vK))
def Jre:Code:=sC (sC (sC WC))
def Jrf:RI=.seq Jx7 (.block 0 (.loop (.seq Jx8 (.seq Jx9 (.seq (.block 1 (.seq Jxa (.seq Jxb (.seq Wu Jxc)))) Jre))))):=by kernel_rfl
def KQ.refl{base l ob:Nat}{W:JE}:KQ base l ob W W:=⟨Ad _,λ_ _ h _ _ _=>h⟩
def KQ.trans{base l ob:Nat}{W W1 W2:JE}(h:KQ base l ob W W1)(k:KQ base l ob W1 W2):KQ base l ob W W2:=⟨BN h.1 k.1,λb o hb h1 h2 h3=>k.2 b o (h.2 b o hb h1 h2 h3) h1 h2 h3⟩
def KQ.tch{base l ob:Nat}{W W1:JE}(t:Tch W.heap.size M0 W W1):KQ base l ob W W1:=⟨t.size,λb o hb _ _ _=>(t.heap b (Jj hb) λh=>h).trans hb⟩
def QAt.tch{base mo ob l D:Nat}{T9:JC}{most:Int}{L:List QC}{W W1:JE}(h:QAt base T9 mo ob l D most L W)(t:Tch W.heap.size M0 W W1):QAt base T9 mo ob l D most L W1:=by obtain⟨v,h1,h2⟩:=h.box;have k:∀(b:Nat)(o:Obj),W.heap[b]?=some o->W1.heap[b]?=some o:=λb o hb=>(t.heap b (Jj hb) λh=>h).trans hb;exact⟨⟨v,k _ _ h1,YK h2 λg cur hg=>k _ _ hg⟩,k _ _ h.lp,k _ _ h.mo,k _ _ h.D⟩
def SlN.kq{base qb l ob:Nat}{w w':JE}{v:JJ}{t:JH}{k:IntKind}{xs:JD}(h:SlN base w v t k xs)(q:KQ qb l ob w w')(ht:t≠38)(hl:l<base/\ob<base):SlN base w' v t k xs:=by obtain⟨g,cap,h1,h2,arr,⟨z,h3,h4⟩,h5⟩:=h;obtain rfl:=h4 rfl;exact⟨g,cap,h1,h2,arr,⟨(0,0),q.2 g _ h3 (by omega) (by omega) (λ_ cur e=>ht (Obj.cells.inj e).2.1),λ_=>rfl⟩,h5⟩
def SlI.kq{base qb l ob:Nat}{w w':JE}{v:JJ}{t:JH}{k:IntKind}{xs:JD}(h:SlI false w base v t k xs)(q:KQ qb l ob w w')(ht:t≠38)(hl:l<base/\ob<base):SlI false w' base v t k xs:=by
 rcases h with h|⟨g,cap,h1,h2,arr,⟨z,h3,h4⟩,h5⟩
 .exact .inl h
 .obtain rfl:=h4 rfl;exact .inr ⟨g,cap,h1,h2,arr,⟨(0,0),q.2 g _ h3 (by omega) (by omega) (λ_ cur e=>ht (Obj.cells.inj e).2.1),λ_=>rfl⟩,h5⟩
def KZ.kq{base qb l ob:Nat}{w w':JE}{kv rv hv lv:JJ}{g:JD}{B:Bun}(h:KZ base w kv rv hv lv g B)(q:KQ qb l ob w w')(hl:l<base/\ob<base):KZ base w' kv rv hv lv g B:=⟨h.k.kq q (by decide) hl,h.r.kq q (by decide) hl,h.h.kq q (by decide) hl,h.l.kq q (by decide) hl⟩
def IG(base:Nat)(w:JE)(T:List TR)(m0:Nat)(ks:List Je)(L:List QC):Prop:=
 L.length=ks.length/\∀(i:Nat)(x:Je)(q:QC),ks[i]?=some x->L[i]?=some q->q.g=MV m0 x.1 5/\tm T x.1=some q.B/\q.slices/\KZ base w q.kv q.rv q.hv q.lv q.g q.B
def SlN.mono{base AO:Nat}{w:JE}{v:JJ}{t:JH}{k:IntKind}{xs:JD}(h:SlN base w v t k xs)(hb:AO<=base):SlN AO w v t k xs:=by obtain⟨g,cap,h1,h2,h3⟩:=h;exact⟨g,cap,h1,by omega,h3⟩
def KZ.mono{base AO:Nat}{w:JE}{kv rv hv lv:JJ}{g:JD}{B:Bun}(h:KZ base w kv rv hv lv g B)(hb:AO<=base):KZ AO w kv rv hv lv g B:=⟨h.k.mono hb,h.r.mono hb,h.h.mono hb,h.l.mono hb⟩
def KZ.slices{base:Nat}{w:JE}{q:QC}(h:KZ base w q.kv q.rv q.hv q.lv q.g q.B):q.slices:=by
 obtain⟨h1,⟨g2,c2,h2,_⟩,⟨g3,c3,h3,_⟩,⟨g4,c4,h4,_⟩⟩:=h;rcases h1 with⟨h1,_⟩|⟨g1,c1,h1,_⟩
 .exact⟨_,_,_,_,_,_,_,_,_,_,_,_,h1,h2,h3,h4⟩
 .exact⟨_,_,_,_,_,_,_,_,_,_,_,_,h1,h2,h3,h4⟩
def IG.snoc{base qb l ob m0:Nat}{w w':JE}{T:List TR}{ks:List Je}{L:List QC}{x:Je}{q:QC}(h:IG base w T m0 ks L)(hk:KQ qb l ob w w')(hl:l<base/\ob<base)(h1:q.g=MV m0 x.1 5)(h2:tm T x.1=some q.B)(h3:KZ base w' q.kv q.rv q.hv q.lv q.g q.B):IG base w' T m0 (ks++[x]) (L++[q]):=by
 refine⟨by simp[h.1],λi y p hy hp=>?_⟩;rcases BF i ks.length with hi|hi
 .rw[List.getElem?_append_left hi]at hy;rw[List.getElem?_append_left (by rw[h.1];exact hi)]at hp;obtain⟨k1,k2,k3,k4⟩:=h.2 i y p hy hp;exact⟨k1,k2,k3,k4.kq hk hl⟩
 .have Nq:=(List.getElem?_eq_some_iff.1 hy).1;simp only[List.length_append,List.length_singleton]at Nq;obtain rfl:i=ks.length:=by omega
  rw[List.getElem?_append_right (by omega),Nat.sub_self]at hy;rw[List.getElem?_append_right (by rw[h.1];omega),h.1,Nat.sub_self]at hp;simp at hy hp;subst hy hp;exact⟨h1,h2,h3.slices,h3⟩
section
variable{l mb mm ob mo D base m0:Nat}{f:Nat->JJ}{w:JE}{c:J7}{T:List TR}{T9:JC}{most:Int}{d:Deferred}
def Jrg(hc:CZ c)(hT:TabAt false w c mm T)(BZ:∀t∈T,∀x∈t.B.h,0<=x)(hTn:T.length<=1000)(hm:w.heap[mb]?=some (.cells #[JK m0] 3))(XM:∀x,x=mm\/x∈tpl T->x≠l/\x≠ob/\∀cur,w.heap[x]?≠some (.cells cur 38))(X6:mb≠l/\mb≠ob)
  (hQ:QAt base T9 mo ob l D most [] w) (hb:base<=w.heap.size) (hT9:∃g9:Nat->JJ,T9=(#[g9 0,g9 1,g9 2,g9 3,g9 4,g9 5,g9 6,pt mo,g9 8,g9 9,pt ob,g9 11,g9 12,g9 13,g9 14,g9 15,g9 16,g9 17,g9 18,g9 19,g9 20,g9 21,g9 22,g9 23,g9 24,g9 25,g9 26,g9 27,g9 28,g9 29,g9 30,g9 31,g9 32])) (YC:(T.length:Int)<=most) :
  RI.wp prog (λe a w'=>e=.normal/\a.defers=[d]/\a.tmps.size=75/\∃ks L,keysOf (T.map TR.kv) ks/\IG w.heap.size w' T m0 ks L/\QAt base T9 mo ob l D most L w'/\KQ base l ob w w') ⟨#[.func (.yield l) #[] #[],f 1,pt mb,f 3,f 4,f 5,.map (some mm),f 7,f 8,f 9,f 10,f 11,f 12,f 13,f 14,f 15,f 16,f 17,f 18,f 19,f 20,f 21,f 22,f 23,f 24,f 25,f 26,f 27,f 28,f 29,f 30,f 31,f 32,f 33,f 34,f 35,f 36,f 37,f 38,f 39,f 40,f 41,f 42,f 43,f 44,f 45,f 46,f 47,f 48,f 49,f 50,f 51,f 52,f 53,f 54,f 55,f 56,f 57,f 58,f 59,f 60,f 61,f 62,f 63,f 64,f 65,f 66,f 67,f 68,f 69,f 70,f 71,f 72,f 73,f 74],[d]⟩ w:=by
 obtain⟨g9,rfl⟩:=hT9;have hs:=J73 mm (T.map TR.kv) w hT.map (by simp;omega);rw[<- wpIn_wide (n:=3),Jrf];obtain⟨X8,hX8,hX8'⟩:∃X:Code,X=Wu/\X=Wu:=⟨_,rfl,rfl⟩;simp only[Wu,vK,WC,b38,fC,sC,bC,lC,f68,A8]at hX8;simp only[Wu,Jx7,Jx8,Jx9,Jxa,Jxb,Jxc,Jre,RI,vK,WC,b38,fC,sC,bC,lC,f68,A8];gi_wp2;refine⟨trivial,(callsIn_wide.2 hs).mono ?_⟩;rintro e w1 ⟨v,ks,rfl,OO,Aj,t1⟩;obtain⟨ka,kc,PZ,rfl,SV⟩:=Aj.at;have hlen:ks.length=T.length:=by have:=OO.length;grind
 have jA:=Jj hQ.lp;obtain⟨v0,MK,_⟩:=hQ.box;have hol:=Jj MK;have kq1:KQ base l ob w w1:=.tch t1;have hQ1:=hQ.tch t1;generalize hn:ks.length=n at *;gi_wp2
 gi_loopw [35] (λi wr=>∃(j:Nat)(L:List QC),j<=n/\i=JK j/\IG w.heap.size wr T m0 (ks.take j) L/\QAt base (#[g9 0,g9 1,g9 2,g9 3,g9 4,g9 5,g9 6,pt mo,g9 8,g9 9,pt ob,g9 11,g9 12,g9 13,g9 14,g9 15,g9 16,g9 17,g9 18,g9 19,g9 20,g9 21,g9 22,g9 23,g9 24,g9 25,g9 26,g9 27,g9 28,g9 29,g9 30,g9 31,g9 32]) mo ob l D most L wr/\KQ base l ob w wr/\KQ base l ob w1 wr) (λi _=>n-(RowKit.intOf i).toNat)
 case atStart=>exact⟨0,[],by omega,rfl,⟨rfl,λi x q h=>by simp at h⟩,hQ1,kq1,.refl⟩
 case round=>
  rw[<- hX8];clear hX8;obtain⟨j,L,hj,rfl,hO,hQr,Zo,kqr⟩:=hrel;rcases BF j n with Ac|Et
  .have CS:(j:Int)<n:=by omega
   obtain⟨⟨key,LD⟩,hx⟩:∃x,ks[j]?=some x:=⟨ks[j]'(by omega),DL _⟩;have QN:∃g,ka=some ⟨g,0,none⟩/\j<kc/\∀t,t<5->wr.cell? ⟨g,j*5+t,none⟩=some (JK (key.getD t 0)):=by
    obtain⟨g,e1,_,e3,e4⟩:=PZ.cells hx;refine⟨g,e1,e3,λt ht=>?_⟩;rcases PZ with⟨e,_⟩|⟨g',cur,e,⟨z,hz,OX⟩,_⟩
    .grind
    .rw[e]at e1;cases e1;obtain rfl:=OX rfl;have Et:=(SV _ e).1;simp only at Et;have:=kqr.2 g _ hz (by omega) (by omega) (λ_ cur e=>absurd (Obj.cells.inj e).2.1 (by decide))
     grind[World.cell?_of_block]
   obtain⟨g,rfl,hjc,Dl⟩:=QN;have Jox:TabAt false wr c mm T:=hT.kept λy hy=>by have Ac:=hT.lt y hy;obtain⟨s1,s2,s3⟩:=XM y hy;have ho:=Bz Ac;rw[ho];exact Zo.2 y _ ho s1 s2 λ_ cur e=>s3 cur (ho.trans (congrArg some e))
   have hmr:wr.heap[mb]?=some (.cells #[JK m0] 3):=Zo.2 mb _ hm X6.1 X6.2 (by simp);obtain⟨t,Az,Bc,CB⟩:=OO.row hT.nodup (NR hx);obtain⟨t',T1,T2,hTe,D6,Gq,_,Ew⟩:=Qk CB;have hmt:t'∈T:=by grind
   clear hTe;obtain⟨y0,y1,y2,y3,y4,rfl⟩:=Yx LD.1;have c0:wr.cell? ⟨g,j*5,none⟩=some (JK y0):=Dl 0 (by omega);have c1:wr.cell? ⟨g,j*5+1,none⟩=some (JK y1):=Dl 1 (by omega);have c2:wr.cell? ⟨g,j*5+2,none⟩=some (JK y2):=Dl 2 (by omega);have c3:wr.cell? ⟨g,j*5+3,none⟩=some (JK y3):=Dl 3 (by omega);have c4:wr.cell? ⟨g,j*5+4,none⟩=some (JK y4):=Dl 4 (by omega);clear Dl;obtain⟨W0,Ci⟩:∃W0,wr.alloc (.cells #[JK y0,JK y1,JK y2,JK y3,JK y4] 104)=W0:=⟨_,rfl⟩;have t0:Tch wr.heap.size M0 wr W0:=by rw[<- Ci];exact Tch.refl.alloc (Ad _) _
   have e0:W0.heap[wr.heap.size]?=some (.cells #[JK y0,JK y1,JK y2,JK y3,JK y4] 104):=by grind[Ja]
   have dO:=Jox.tch t0 λy hy=>⟨Jox.lt y hy,λh=>h⟩;have xQ:=dO.map.lookup LD;rw[Ew]at xQ;simp only[ai,D5,List.map_nil,A8]at xQ;have z0:=(cell_of e0 0).trans rfl;have z1:=(cell_of e0 1).trans rfl;have z2:=(cell_of e0 2).trans rfl;have z3:=(cell_of e0 3).trans rfl;have z4:=(cell_of e0 4).trans rfl;have OU:W0.cell? ⟨mb,0,none⟩=some (JK m0):=(cell_of ((t0.heap mb (Jj hmr) λh=>h).trans hmr) 0).trans rfl;gi_wp2;have Zh:=λT0 h1 h2 h3 h4=>Jui (d:=d) (T0:=T0) (key:=[y0,y1,y2,y3,y4]) (m:=m0) (mb:=mb) (kb:=wr.heap.size) (dO.bun t' hmt) (dO.ok t' hmt) hc (BZ t' hmt) rfl e0 OU h1 h2 h3 h4;refine Code.wpIn_mono ?_ (wpIn_wide.2 (Zh _ rfl rfl rfl rfl));rintro e ⟨T8,ds⟩ w8 ⟨rfl,Ob,Ag,CX,cb,kv,rv,hv,lv,SL,hcg,Ui,hcd,t8⟩;simp only at Ob Ag CX SL;subst Ob;obtain⟨f8,rfl⟩:=Jo2 Ag;rw[VO]at *;have q0:f8 0=_:=Aa (CX 0 (by decide) (by decide));have q1:f8 1=_:=Aa (CX 1 (by decide) (by decide));have q2:f8 2=_:=Aa (CX 2 (by decide) (by decide));have q3:f8 3=_:=Aa (CX 3 (by decide) (by decide));have q4:f8 4=_:=Aa (CX 4 (by decide) (by decide));have q5:f8 5=_:=Aa (CX 5 (by decide) (by decide));have q6:f8 6=_:=Aa (CX 6 (by decide) (by decide));have q7:f8 7=_:=Aa (CX 7 (by decide) (by decide));have yV:f8 11=_:=Aa (CX 11 (by decide) (by decide));have yX:f8 12=_:=Aa (CX 12 (by decide) (by decide));have q13:f8 13=_:=Aa (CX 13 (by decide) (by decide));have q14:f8 14=_:=Aa (CX 14 (by decide) (by decide));have q15:f8 15=_:=Aa (CX 15 (by decide) (by decide));have q16:f8 16=_:=Aa (CX 16 (by decide) (by decide));have q17:f8 17=_:=Aa (CX 17 (by decide) (by decide));have q18:f8 18=_:=Aa (CX 18 (by decide) (by decide));have q19:f8 19=_:=Aa (CX 19 (by decide) (by decide));have q20:f8 20=_:=Aa (CX 20 (by decide) (by decide));have q21:f8 21=_:=Aa (CX 21 (by decide) (by decide));have q22:f8 22=_:=Aa (CX 22 (by decide) (by decide));have q23:f8 23=_:=Aa (CX 23 (by decide) (by decide));have q24:f8 24=_:=Aa (CX 24 (by decide) (by decide));have q25:f8 25=_:=Aa (CX 25 (by decide) (by decide));have q26:f8 26=_:=Aa (CX 26 (by decide) (by decide));have q27:f8 27=_:=Aa (CX 27 (by decide) (by decide));have q28:f8 28=_:=Aa (CX 28 (by decide) (by decide));have q29:f8 29=_:=Aa (CX 29 (by decide) (by decide));have q30:f8 30=_:=Aa (CX 30 (by decide) (by decide));have q31:f8 31=_:=Aa (CX 31 (by decide) (by decide));have q32:f8 32=_:=Aa (CX 32 (by decide) (by decide));have q33:f8 33=_:=Aa (CX 33 (by decide) (by decide));have q34:f8 34=_:=Aa (CX 34 (by decide) (by decide));have q35:f8 35=_:=Aa (CX 35 (by decide) (by decide));have q10:f8 10=_:=Aa SL;have hD:KZ W0.heap.size w8 kv rv hv lv (MV m0 [y0,y1,y2,y3,y4] 5) t.B:=by rw[<- Gq];exact hcd
   have tq:Tch wr.heap.size M0 wr w8:=t0.then t8 t0.size λb _ h=>h;have hQ8:=hQr.tch tq;obtain⟨q,hq⟩:∃q:QC,q=⟨kv,rv,hv,lv,MV m0 [y0,y1,y2,y3,y4] 5,t.B⟩:=⟨_,rfl⟩;have hqs:q.slices:=by rw[hq];exact KZ.slices (q:=⟨kv,rv,hv,lv,_,t.B⟩) hD
   have gB:L.length=j:=by rw[hO.1,List.length_take];omega
   obtain⟨fn,tmps,asg,bdy,hy,hR⟩:=J01d (m:=2) q hqs hQ8 (by omega) (by omega) (by have:=tq.size;have:=Zo.1;omega);simp only[hq,QC.val]at hy;simp only[q0,q1,q2,q3,q4,q5,q6,q7,yV,yX,q13,q14,q15,q16,q17,q18,q19,q20,q21,q22,q23,q24,q25,q26,q27,q28,q29,q30,q31,q32,q33,q34,q35,q10];clear CX SL Zh q0 q1 q2 q3 q4 q5 q6 q7 yV yX q13 q14 q15 q16 q17 q18 q19 q20 q21 q22 q23 q24 q25 q26 q27 q28 q29 q30 q31 q32 q33 q34 q35 q10;have v0:=(cell_of Ui 0).trans rfl;have v1:=(cell_of Ui 1).trans rfl;have v2:=(cell_of Ui 2).trans rfl;have v3:=(cell_of Ui 3).trans rfl;have v4:=(cell_of Ui 4).trans rfl;gi_wp2;refine hR.mono ?_;rintro e W3 ⟨rfl,hQ3,OM⟩;gi_wp2;have kqt:=(KQ.tch (base:=base) (l:=l) (ob:=ob) tq).trans OM;have Eu:l<W0.heap.size/\ob<W0.heap.size:=by have:=t0.size;have:=Zo.1;omega
   refine⟨⟨j+1,L++[q],by omega,by simp,?_,hQ3,Zo.trans kqt,kqr.trans kqt⟩,by simp[RowKit.intOf];omega⟩;rw[List.take_add_one,hx];exact hO.snoc kqt ⟨jA,hol⟩ (by rw[hq]) (by grind) (by rw[hq];exact(hD.kq OM Eu).mono (by have:=t0.size;have:=Zo.1;omega))
  .have EC:¬((j:Int)<n):=by omega
   obtain rfl:j=n:=by omega
   rw[<- hn,List.take_length]at hO;gi_wp2;exact⟨ks,OO,L,hO,hQr⟩
end
end Go.Sim.Z
end
