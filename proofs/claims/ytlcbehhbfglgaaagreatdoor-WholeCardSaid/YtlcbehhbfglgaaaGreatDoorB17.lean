/- Proved: laws for the claim. No conditions. -/
import Derived.RangeFuncRecord
import Derived.RangeFuncSeq
import Derived.Conc.Own3
import Derived.Below
import Derived.Test.YtlcbehhbfglgaaaGreatDoorB00
import Derived.Test.YtlcbehhbfglgaaaGreatDoorB13
import Derived.Test.YtlcbehhbfglgaaaGreatDoorB16
set_option linter.all false
set_option maxHeartbeats 8000000
set_option maxRecDepth 100000
open Go.Proofs.Tryz
noncomputable section
namespace Go.Sim.Z
open Go Go.Proofs Go.RowKit Go.Maps
def Jnt{P:Program}{ops:Array Oper}{Q:Exit->Act->JE->Prop}{i:Nat}{o:Oper}{a:Act}{w w':JE}{v vs vx:JJ}{K:Act->JE->Prop}{s x:Tmp}{t:JH}(ho:ops[i]?=some o)(hg:o.guard=none)(Ar:o.op=.call { callee:=.builtin .append,args:=#[.tmp s,.tmp x],argTypes:=#[t,t] })
  (hs:a.tmps[s]?=some vs) (hx:a.tmps[x]?=some vx) (hr:(Builtin.append_ #[t,t] o.type #[vs,vx]).run P w=.ok v w') (h:K (a.put o.dst v) w'):wpOp P ops Q i K a w:=by
 refine J9 ho hg (v:=v) (w':=w') ?_ h;unfold execOp;simp only[Ar,resolve,invoke,builtin,Sem.run_bind,Sem.run_pure,Result.andThen_ok,List.map_toArray,D5,List.map_nil,aQ hs,aQ hx,hr]
structure Gi where
 a:Int
 b:Int
 c:Int
 it:Int
 v:Int
structure Jnu(r:Gi):Prop where
 a:I64 r.a
 b:I64 r.b
 c:I64 r.c
 it:I64 r.it
 v:I64 r.v
def Gi.fact(r:Gi):Jd:=⟨[Jr r.a 4,Jr r.b 4,Jr r.c 4],r.it,r.v⟩
def Gi.J017{r:Gi}(h:Jnu r):RH r.fact:=by
 refine⟨rfl,λx hx=>?_,h.it,h.v⟩;have p:∀c,0<=Jr c 4/\Jr c 4<=99:=λc=>by have:=Yr (c:=c) (n:=4) (by omega);omega
 simp only[Gi.fact,AL,BU,or_false]at hx
 grind
structure qC(w:JE)(la:JI)(rs:List Gi):Prop where
 at_:∀i r,rs[i]?=some r->∃b o,la=some ⟨b,o,none⟩/\b<w.heap.size/\w.cell? ⟨b,o+i*5,none⟩=some (JK r.a)/\w.cell? ⟨b,o+i*5+1,none⟩=some (JK r.b)/\w.cell? ⟨b,o+i*5+2,none⟩=some (JK r.c)/\w.cell? ⟨b,o+i*5+3,none⟩=some (JK r.it)/\w.cell? ⟨b,o+i*5+4,none⟩=some (JK r.v)
 ok:∀r∈rs,Jnu r
def Qx(p:Jd × Nat):List JJ:=[JM p.2 3 3,JK p.1.it,JK p.1.v]
structure FN(w:JE)(base:Nat)(v:JJ)(L:List (Jd × Nat)):Prop where
 own:w.ownsRow base 50 3 v L.length (L.flatMap Qx)
 rows:∀p∈L,base<=p.2/\Row false w p.2 3 .i64 p.1.k 3/\p.1.k.length=3
theorem FN.nil(w:JE)(base:Nat):FN w base (.slice none 0 0) []:=⟨⟨rfl,.inl ⟨rfl,rfl⟩⟩,λp hp=>by cases hp⟩
def Jjy:∀(L:List (Jd × Nat))(i:Nat)(p:Jd × Nat),L[i]?=some p->∀j,j<3->(L.flatMap Qx)[i*3+j]?=(Qx p)[j]?
 |[],i,p,h,_,_=>by simp at h
 |q::L,0,p,h,j,hj=>by
  simp at h;subst h;rw[List.flatMap_cons,List.getElem?_append_left (by simp[Qx];omega)];simp
 |q::L,i+1,p,h,j,hj=>by rw[List.getElem?_cons_succ]at h;rw[List.flatMap_cons,List.getElem?_append_right (by simp[Qx];omega)];have:=Jjy L i p h j hj;rw[show(i+1)*3+j-(Qx q).length=i*3+j by simp[Qx];omega];exact this
theorem FN.at{w:JE}{base:Nat}{v:JJ}{L:List (Jd × Nat)}(h:FN w base v L):∃ga cap pl,v=.slice ga L.length cap/\G8 false w ga (L.map (·.1)) cap pl/\∀y∈pl,base<=y:=by
 rcases h.own.2 with⟨rfl,h0⟩|⟨g,cap,cur,rfl,hb,hg,h1,h2,h3,h4⟩
 .have:L=[]:=List.eq_nil_of_length_eq_zero h0;subst this;exact⟨none,0,[],rfl,⟨λx hx=>(by cases hx),λi f hf=>(by simp at hf),(by simp)⟩,λy hy=>(by cases hy)⟩
 .refine⟨some ⟨g,0,none⟩,cap,g::L.map (·.2),rfl,⟨λx hx=>?_,λi f hf=>?_,by grind⟩,λy hy=>?_⟩
  .rcases AL.1 hx with rfl|hx
   .grind
   .obtain⟨p,hp,rfl⟩:=AZ.1 hx;exact(h.rows p hp).2.1.lt
  .rw[List.getElem?_map]at hf;cases hp:L[i]? with
   |none=>grind
   |some p=>
    rw[hp]at hf;cases hf;have hm:=NR hp;obtain⟨_,r2,r3⟩:=h.rows p hm;have Ac:i<L.length:=(List.getElem?_eq_some_iff.1 hp).1;have e:∀j,j<3->w.cell? ⟨g,i*3+j,none⟩=(Qx p)[j]?:=λj hj=>by rw[cell_of hg,<- Jjy L i p hp j hj,<- h4,List.getElem?_take_of_lt (by omega)];simp
    exact⟨g,p.2,3,rfl,by simp,List.mem_cons_of_mem _ (AZ.2 ⟨p,hm,rfl⟩),by rw[r3];exact e 0 (by omega),e 1 (by omega),e 2 (by omega),r2⟩
  .rcases AL.1 hy with rfl|hy
   .exact hb
   .obtain⟨p,hp,rfl⟩:=AZ.1 hy;exact(h.rows p hp).1
def qL:(prog.info? 50).map (λi=>(i.zero,i.size,i.bytes))=some (some (.agg #[.slice none 0 0,JK 0,JK 0]),3,40):=by kernel_rfl
def FN.kept{w w':JE}{base:Nat}{v:JJ}{L:List (Jd × Nat)}(h:FN w base v L)(hh:∀b,b<w.heap.size->w'.heap[b]?=w.heap[b]?):FN w' base v L:=by
 refine⟨⟨h.own.1,?_⟩,λp hp=>⟨(h.rows p hp).1,(h.rows p hp).2.1.kept (hh _ (h.rows p hp).2.1.lt),(h.rows p hp).2.2⟩⟩;rcases h.own.2 with hn|⟨g,cap,cur,rfl,hb,hg,rest⟩
 .exact .inl hn
 .exact .inr ⟨g,cap,cur,rfl,hb,(hh g (Jj hg)).trans hg,rest⟩
def FN.push{w:JE}{base:Nat}{v:JJ}{L:List (Jd × Nat)}(h:FN w base v L)(hb:base<=w.heap.size)(hn:L.length<=1000){f:Jd}{kb sb:Nat}(hk:f.k.length=3)(SV:base<=kb)(hr:Row false w kb 3 .i64 f.k 3)(hs:w.heap[sb]?=some (.cells #[JM kb 3 3,JK f.it,JK f.v] 50))(ty:JH) :
  ∃v' w',(Builtin.append_ #[28,28] ty #[v,JM sb 1 1]).run prog w=.ok v' w'/\FN w' base v' (L++[(f,kb)])/\w.grownBy w' v.ownBlock/\(∀b,v.ownBlock=some b->base<=b):=by
 obtain⟨i0,hi,EY,DJ,DR⟩:=info_parts qL;have e:maxLen=9223372036854775807:=by decide
 obtain⟨v',w',r1,r2,r3,_⟩:=run_append_own_at (P:=prog) (w:=w) base 28 ty 50 i0 _ 3 40 underlying28 hi EY DJ DR rfl (by omega) v L.length _ h.own ⟨sb,0,none⟩ 1 1 (Qx (f,kb)) rfl (λj u hj=>by
  rw[add0,cell_of hs]
  match j,hj with
  |0,hj=>exact hj
  |1,hj=>exact hj
  |2,hj=>exact hj
  |j+3,hj=>simp[Qx]at hj) (λu hu=>by simp only[Qx,AL,BU,or_false]at hu;rcases hu with rfl|rfl|rfl<;>rfl) (by omega) (by omega) hb
 have XD:∀b,v.ownBlock=some b->base<=b/\∃cur,w.heap[b]?=some (.cells cur 50):=λb hb=>by
  rcases h.own.2 with⟨rfl,_⟩|⟨g,cap,cur,rfl,xC,hg,_⟩
  .cases hb
  .cases hb;grind
 have kept:∀{b:Nat}{xs:JD},Row false w b 3 .i64 xs 3->Row false w' b 3 .i64 xs 3:=λ{b xs} Aj=>Aj.kept (r3.block b Aj.lt λe=>by
  obtain⟨_,cur,hc⟩:=XD b e.symm;obtain⟨arr,⟨z,hz,OX⟩,_⟩:=Aj
  grind)
 refine⟨v',w',r1,⟨by grind,λp hp=>?_⟩,r3,λb hb=>(XD b hb).1⟩;rcases Gn.1 hp with hp|hp
 .obtain⟨q1,q2,q3⟩:=h.rows p hp
  grind
 grind
def J019(vv:JJ)(b o n cap k:Nat)(f:Jd)(A B C:Int):Nat->JJ->List (Nat × Obj)->Prop
 |0,v,H=>H=[]/\v=vv
 |1,v,H=>H=[]/\v=.int .i64 A
 |2,v,H=>H=[]/\v=.int .i64 B
 |3,v,H=>H=[]/\v=.int .i64 C
 |4,v,H=>∃kb,H=[(kb,.cells #[.int .i64 A,.int .i64 B,.int .i64 C] 3)]/\v=.slice (some ⟨kb,0,none⟩) 3 3
 |5,v,H=>H=[]/\v=.slice (some ⟨b,o,none⟩) n cap
 |6,v,H=>H=[]/\v=.int .i64 k
 |7,v,H=>H=[]/\v=pt b (o+k*5)
 |8,v,H=>H=[]/\v=pt b (o+k*5+3)
 |9,v,H=>H=[]/\v=.int .i64 f.it
 |10,v,H=>H=[]/\v=.slice (some ⟨b,o,none⟩) n cap
 |11,v,H=>H=[]/\v=.int .i64 k
 |12,v,H=>H=[]/\v=pt b (o+k*5)
 |13,v,H=>H=[]/\v=pt b (o+k*5+4)
 |14,v,H=>H=[]/\v=.int .i64 f.v
 |15,v,H=>∃kb,H=[(kb,.cells #[.int .i64 A,.int .i64 B,.int .i64 C] 3)]/\v=.agg #[.slice (some ⟨kb,0,none⟩) 3 3,.int .i64 f.it,.int .i64 f.v]
 |_,v,H=>∃sb kb,H=[(sb,.cells #[.slice (some ⟨kb,0,none⟩) 3 3,.int .i64 f.it,.int .i64 f.v] 50),(kb,.cells #[.int .i64 A,.int .i64 B,.int .i64 C] 3)]/\v=.slice (some ⟨sb,0,none⟩) 1 1
open Go.Sort
def Jl6(m:Nat)(w:JE) :
  Calls prog 50 #[.map (some m)] w λe w'=>e=.returned (.func (.func 91) #[] #[JL w.heap.size])/\w'=w.alloc (.cells #[.map (some m)] 99):=by
 go_enter func50,ntmps50
 go_wp2;go_ret
 simp_all
def Jg9{vm base:Nat}{w:JE}(hV:HY w vm base) :
  Calls prog 79 #[.func (.func 91) #[] #[JL w.heap.size]] (w.alloc (.cells #[.map (some vm)] 99)) λe w'=>∃g cap,e=.returned (JM g 1 cap)/\w.heap.size<=g/\(∃cur,w'.heap[g]?=some (.cells cur 3)/\cur.size=cap/\1<=cap/\cur[0]?=some (JK 7))/\Tch w.heap.size M0 w w':=by
 obtain⟨nn,Aw⟩:=hV;have jF:maxLen=9223372036854775807:=by decide
 have e61:∀args w,(callFunc 91 args).run prog w=.ok (.enter 91 args) w:=enters_of func91 (by kernel_rfl) rfl;have Ac:=Aw.lt;have Nz:=AnyZI.keys_gives Tryz.keysI Fence.wide 1 trivial rfl (by omega) w.heap.size vm nn (.map [(.int .i64 7,.held (.map (some base)))]) (R:=Rv) (w.alloc (.cells #[.map (some vm)] 99)) (by simp) ((cell_of (Ja _) 0).trans rfl) (by obtain⟨es,clock,hb,rest⟩:=Aw;exact⟨es,clock,(J8 _ Ac).trans hb,rest⟩);have:=AnyZI.collect_in Tryz.collectI Fence.wide 3 trivial trivial rfl (by omega) 91 #[JL w.heap.size] trivial e61 _ 1 (by omega) (by omega) _ Nz;refine(callsIn_wide.1 this).mono ?_;rintro e w' ⟨v,ss,rfl,hp,BD,_,hB⟩;have hs:ss=[7]:=List.perm_singleton.1 hp;subst hs;have Vm:Tryz.collectI_ren.t 26=3:=by kernel_rfl
 rw[Vm,size_alloc]at BD;rw[size_alloc]at hB;have t0:Tch w.heap.size M0 w w':=(Tch.refl.alloc (Ad _) _).trans ((Tch.of_below hB).mono (Nat.le_succ _) λ_ _ h=>h);rcases BD.2 with⟨rfl,h⟩|⟨g,cap,cur,rfl,hb,hg,h1,h2,h3,h4⟩
 .cases h
 .refine⟨g,cap,rfl,by omega,⟨cur,hg,by grind,h1,?_⟩,t0⟩;have:(cur.toList.take 1)[0]?=some (JK 7):=by
   grind
  grind
def Je6{w:JE}{mb m:Nat}(h:w.cell? ⟨mb,0,none⟩=some (JK m))(v:Int):Calls prog 80 #[JK v,JL mb] w λe w'=>e=.returned (.bool (bits .and .i64 v m != m))/\w'=w:=by
 go_enter func80,ntmps80
 go_wp2;go_ret
 simp_all
def Jyi{w:JE}{g cap:Nat}{f:JJ}(h:w.cell? ⟨g,0,none⟩=some (JK 7)):Calls prog 138 #[JM g 1 cap,f] w λe w'=>e=.returned (JK 7)/\w'=w:=by
 go_enter func138,ntmps138
 go_wp2;refine wp_loop_rounds 1 ?_;rw[rounds_succ];go_wp2;go_ret
 simp_all
def Jnv{w:JE}{g cap xb:Nat}(h:w.cell? ⟨g,0,none⟩=some (JK 7)):Calls prog 81 #[JM g 1 cap,.func (.func 82) #[] #[JL xb]] w λe w'=>e=.returned (JK 7)/\Tch w.heap.size M0 w w':=by
 have hg:=cell_lt h;have hm:=Jyi (w:=w.alloc (.cells #[.func (.func 82) #[] #[JL xb]] 64)) (cap:=cap) (f:=.func (.func 139) #[] #[JL w.heap.size]) ((Du (J8 _ hg)).trans h)
 go_enter func81,ntmps81
 go_wp2_with (go_at_call 138;refine hm.mono ?_;rintro e w1 ⟨rfl,rfl⟩)
 go_ret;exact⟨rfl,Tch.refl.alloc (Ad _) _⟩
def Jyj{w:JE}{g cap mb m:Nat}{cur:JC}(hg:w.heap[g]?=some (.cells cur 3))(hc:cur.size=cap)(h1:1<=cap)(h7:cur[0]?=some (JK 7))(hm:w.cell? ⟨mb,0,none⟩=some (JK m))(Ap:mb≠g)(Ns:m<8) :
  Calls prog 78 #[JM g 1 cap,.func (.func 80) #[] #[JL mb]] w λe w'=>e=.returned (JM g 1 cap)/\∃q,w'=w.drewN q:=by
 have hb7:(λv:Int=>(bits .and .i64 v m != (m:Int))) 7=false:=by
  match m,Ns with
  |0,_=>decide
  |1,_=>decide
  |2,_=>decide
  |3,_=>decide
  |4,_=>decide
  |5,_=>decide
  |6,_=>decide
  |7,_=>decide
  |m+8,h=>grind
 have X6:=cell_lt hm;have hH:Sort.Holds (Value.int .i64) w g 0 #[(7:Int)]:=λj hj=>by
  have:j=0:=by grind
  subst this;exact⟨by rw[Nat.zero_add,cell_of hg,h7];rfl,by rw[Nat.zero_add];exact FZ hg 0⟩
 have hglt:=Jj hg;have:=Tryz.slices_DeleteFunc (Value.int .i64) (λ_=>rfl) (λv:Int=>(bits .and .i64 v m != (m:Int))) 80 #[JL mb] (enters_of func80 (by kernel_rfl) rfl) 0 (λw=>zeroValue3 w) g 0 cap #[(7:Int)] w
  (λW v hW=>(Je6 ((hW.cell (p:=⟨mb,0,none⟩) X6).trans hm) v).mono λe w' ⟨h1,h2⟩=>⟨h1,0,h2⟩)
  (λn os dk v _=>(Je6 (by
   have hs:mb<(putRow (Value.int .i64) (Sort.ahead w n) g 0 dk).heap.size:=by simp_all
   refine(Du (w:=putRow (Value.int .i64) (Sort.ahead w n) g 0 dk) ?_).trans ((cell?_putRow_other _ _ _ _ _ _ (.inl Ap)).trans hm);show(_++os)[mb]?=_
   grind) v).mono λe w' ⟨h1,h2⟩=>⟨h1,0,h2⟩)
  hH (by decide) h1
 refine this.mono ?_;rintro e w' ⟨rfl,q,rfl⟩;have e1:(List.filter (λx=>!(λv:Int=>(bits .and .i64 v m != (m:Int))) x) #[(7:Int)].toList)=[7]:=by
  grind
 rw[e1];refine⟨rfl,q,?_⟩;show putRow (Value.int .i64) (Sort.ahead w q) g 0 #[(7:Int)]=_;exact putRow_self _ _ _ _ _ hH
def Jnw{w:JE}{x:Nat}{c:J7}{seed nf:Int}{h:JJ}{vm base m:Nat}(q:DU w x c seed h nf vm base)(Ns:m<8) :
  Calls prog 34 #[JL x,JK m] w λe w'=>e=.returned (JK 7)/\Tch w.heap.size M0 w w':=by
 obtain⟨W0,Ci⟩:∃W0,(w.alloc (.cells #[JL x] 30)).alloc (.cells #[JK m] 3)=W0:=⟨_,rfl⟩;have t0:Tch w.heap.size M0 w W0:=by rw[<- Ci];exact(Tch.refl.alloc (Ad _) _).alloc (by simp) _
 have V7:W0.heap.size=w.heap.size+2:=by rw[<- Ci];simp
 have e0:W0.heap[w.heap.size]?=some (.cells #[JL x] 30):=by grind[J8,Ja]
 have e1:W0.heap[w.heap.size+1]?=some (.cells #[JK m] 3):=by
  grind[Ja,size_alloc]
 have q0:=q.kept (w':=W0) (t0.heap x q.blk.lt λh=>h) (t0.heap vm q.vs.lt λh=>h);have c7:=q0.cells.2.2.2.2.2.2.2;have k0:=(cell_of e0 0).trans rfl;have hk:=Jl6 vm W0;have uG:=Jg9 q0.vs;generalize Vy:w.heap.size=n0 at *;rw[V7]at hk uG
 go_enter func34,ntmps34
 go_wp2_with (first
  |(go_at_call 50;refine hk.mono ?_;rintro e w1 ⟨rfl,rfl⟩)
  |(go_at_call 79;refine uG.mono ?_;rintro e w2 ⟨g,cap,rfl,Uk,⟨cur,hg,DF,Nh,PV⟩,t2⟩
    have m2:w2.cell? ⟨n0+1,0,none⟩=some (JK m):=(t2.cell (show n0+1<n0+2 by omega) λh=>h).trans ((cell_of e1 0).trans rfl);have hdel:=Jyj hg DF Nh PV m2 (by omega) Ns)
  |(go_at_call 78;refine hdel.mono ?_;rintro e w3 ⟨rfl,qn,rfl⟩
    have f3:=Jnv (w:=w2.drewN qn) (cap:=cap) (xb:=n0) ((cell_of (w:=w2.drewN qn) hg 0).trans PV))
  |(go_at_call 81;refine f3.mono ?_;rintro e w4 ⟨rfl,t4⟩))
 go_ret;have t4':Tch w2.heap.size M0 w2 w4:=⟨t4.size,t4.heap,t4.tape,t4.os,t4.output⟩;rw[<- V7]at t2;have t02:Tch W0.heap.size M0 W0 w4:=t2.then t4' t2.size λ_ _ h=>h;rw[<- Vy]at t0 ⊢;exact⟨rfl,t0.then t02 t0.size λ_ _ h=>h⟩
def Jl7{w:JE}{x:Nat}{c:J7}{seed nf:Int}{h:JJ}{vm base m:Nat}(q:DU w x c seed h nf vm base)(Ns:m<8) :
  Calls prog 54 #[JL x,JK m,.slice none 0 0] w λe w'=>e=.returned .nilIface/\w'=w:=by
 have hb:=nC q.cells.1;have h1:¬(m:Int)<0:=by omega
 have h2:¬(7:Int)<m:=by omega
 go_enter func54,ntmps54
 go_wp2_with (go_at_call 32;refine hb.mono ?_;rintro e w1 ⟨rfl,rfl⟩)
 refine wp_loop_rounds 1 ?_;rw[rounds_succ];go_wp2;go_ret
 simp_all
def Jjz(w:JE):Calls prog 67 #[.slice none 0 0] w λe w'=>e=.returned (.slice none 0 0)/\w'=w:=by
 have qT:∀(w:JE)(a:JI)(n c n' c':Nat),(binOp .eql 54 (.slice a n c) (.slice none n' c')).run prog w=.ok (.bool a.isNone) w:=λw a n c n' c'=>Lib.run_eql_slice_nil w _ _ a n c n' c' underlying54
 go_enter func67,ntmps67
 go_wp2;go_ret
 simp_all
def Jv4(n:Int)(w:JE):Calls prog 53 #[JK 0,JK n] w λe w'=>e=.returned .nilFunc/\w'=w.alloc (.cells #[JK n] 3):=by
 go_enter func53,ntmps53
 go_wp2
 all_goals go_ret
 simp_all
def Jv5(n:Int)(w:JE):Calls prog 53 #[JK 2,JK n] w λe w'=>e=.returned (.func (.func 95) #[] #[pt w.heap.size])/\w'=w.alloc (.cells #[JK n] 3):=by
 go_enter func53,ntmps53
 go_wp2
 all_goals go_ret
 simp_all
def Jla(n:Int)(w:JE):Calls prog 112 #[JK n] w λe w'=>e=.returned (.func (.func 167) #[] #[pt w.heap.size])/\w'=w.alloc (.cells #[JK n] 3):=by
 go_enter func112,ntmps112
 go_wp2
 all_goals go_ret
 simp_all
def YM(s n:Int):Int:=IntKind.u64.wrap (IntKind.u64.wrap n*IntKind.u64.wrap (IntKind.u64.wrap (2*IntKind.u64.wrap s)+1))
def Jrw{s n:Int}{b:Nat}{w:JE}(h:w.cell? ⟨b,0,none⟩=some (JK s)):Calls prog 95 #[JK n,JL b] w λe w'=>e=.returned (.int .u64 (YM s n))/\w'=w:=by
 go_enter func95,ntmps95
 go_wp2;go_ret;exact⟨rfl,rfl⟩
def Jrx{w2:JE}{n:Nat}{v0 v1 v2 v3 v4:JJ}{t:JH}(hb:Blk false w2 n #[v0,v1,v2,v3,v4] t)(o:Obj)(v:JJ):((w2.setCell ⟨n,3,none⟩ v).alloc o).cell? ⟨n,0,none⟩=some v0/\((w2.setCell ⟨n,3,none⟩ v).alloc o).cell? ⟨n,1,none⟩=some v1/\((w2.setCell ⟨n,3,none⟩ v).alloc o).cell? ⟨n,2,none⟩=some v2/\((w2.setCell ⟨n,3,none⟩ v).alloc o).cell? ⟨n,3,none⟩=some v/\((w2.setCell ⟨n,3,none⟩ v).alloc o).cell? ⟨n,4,none⟩=some v4:=by
 obtain⟨z,h1,h2⟩:=hb;cases h2 rfl;have hq:((w2.setCell ⟨n,3,none⟩ v).alloc o).heap[n]?=some (.cells #[v0,v1,v2,v,v4] t):=by rw[J8 _ (by grind[size_set,Jj]),heap_set h1];rfl
 exact⟨(cell_of hq 0).trans rfl,(cell_of hq 1).trans rfl,(cell_of hq 2).trans rfl,(cell_of hq 3).trans rfl,(cell_of hq 4).trans rfl⟩
section
variable{w:JE}{x:Nat}{c:J7}{seed:Int}{nf:Int}{vm base:Nat}
def Jz2{fr:Bool}{bb cap:Nat}{bs:JD}(hc:CZ c)(hr:Row fr w bb 3 .i64 bs cap)(Dh:c.ba=some ⟨bb,0,none⟩)(BL:c.nb=bs.length)(hp:bs.Pairwise (· < ·)) :
  Calls prog 62 #[.agg (EI c 3 seed),.nilFunc] w λe w'=>∃hb,NewAt w c seed (.func (.func 167) #[] #[pt hb]) bs e w'/\w.heap.size<=hb/\w'.heap[hb]?=some (.cells #[JK seed] 3):=by
 have hv:=λw1(ht:Tch w.heap.size M0 w w1)=>Jbz (seed:=seed) hc (hr.tch ht hr.lt λx=>x) Dh BL hp;have BA:=λw1(ht:Tch w.heap.size M0 w w1)=>Jih (hr.tch ht hr.lt λx=>x) (by have:=hc.nb;omega);have hlen:=hc.nb;obtain⟨W0,Ci⟩:∃W0,W0=w.alloc (.cells #[JK 3,JK c.bits,JK c.K,JM bb bs.length c.cb,JK seed] 47):=⟨_,rfl⟩;have Bf:Tch w.heap.size M0 w W0:=by rw[Ci];exact Tch.refl.alloc (Ad _) _
 have Fj:Blk false W0 w.heap.size #[JK 3,JK c.bits,JK c.K,JM bb bs.length c.cb,JK seed] 47:=⟨(0,0),by grind[Ja],λ_=>rfl⟩;have e1:∀{w1:JE}{arr:JC},Blk false w1 w.heap.size arr 47->∀i,w1.cell? ⟨w.heap.size,i,none⟩=arr[i]?:=λh i=>h.cell i;unfold EI at hv ⊢;rw[Dh,BL]at hv ⊢;have MK:=hv W0 Bf;have Xr:Hid (∀w1,Tch W0.heap.size M0 W0 w1->Calls prog 111 #[JM bb bs.length c.cb] w1 λe w'=>∃g c',e=.returned (JM g bs.length c')/\w1.heap.size<=g/\Row false w' g 3 .i64 bs c'/\Tch w1.heap.size M0 w1 w'/\c'<=maxLen):=λw1 ht=>BA w1 (Bf.trans (ht.mono Bf.size λ_ _ h=>h)) _;have Dq:=Fj.lt;clear hv BA;have jM:∀w,(binOp .eql 98 .nilFunc .nilFunc).run prog w=.ok (.bool true) w:=λw=>rfl;have jH:∀(t:JH) w,(Instr.makeMap t none).run prog w=.ok (.map (some w.heap.size)) (w.alloc (.map #[] 0)):=λ_ _=>rfl;have hgm':=BL;generalize hgm:bs.length=m at *
 go_enter func62,ntmps62
 go_wp2_with (first
  |(go_at_call 110;rw[<- Ci];refine MK.mono ?_;rintro e w1 ⟨rfl,Az⟩;have FD:=Fj.tch Az Dq (λx=>x);obtain⟨y0,y1,y2,y3,y4⟩:=FD.five;have X5:=FD.lt)
  |(go_at_call 111;refine(Xr _ Az).mono ?_;rintro e w2 ⟨b2,c2,rfl,hge2,BM,Bc,Nh⟩;have Dk:=FD.tch Bc X5 (λx=>x);obtain⟨z0,z1,z2,z3,z4⟩:=Dk.five;have zf:=Dk.frozen 3;obtain⟨p0,p1,p2,p3,p4⟩:=Jrx Dk (.cells #[.int .i64 seed] 3) (.slice (some ⟨b2,0,none⟩) m c2))
  |(go_at_call 112;refine(Jla seed _).mono ?_;rintro e Bv ⟨rfl,rfl⟩))
 have CO:(w2.setCell ⟨w.heap.size,3,none⟩ (JM b2 m c2)).heap.size=w2.heap.size:=size_set _ _;have Dx:Tch w.heap.size M0 w (w2.setCell ⟨w.heap.size,3,none⟩ (JM b2 m c2)):=((Bf.trans (Az.mono Bf.size λ_ _ h=>h)).trans (Bc.mono (BN Bf.size Az.size) λ_ _ h=>h)).set (.inl (Ad _)) _;have Io:Row false (w2.setCell ⟨w.heap.size,3,none⟩ (JM b2 m c2)) b2 3 .i64 bs c2:=BM.kept (Jm _ _ (show b2≠w.heap.size by grind));have Eu:=BM.lt;generalize w2.setCell ⟨w.heap.size,3,none⟩ (JM b2 m c2)=vO at *;obtain⟨W3,CY⟩:∃W3,W3=vO.alloc (.cells #[JK seed] 3):=⟨_,rfl⟩;have dP:=CO;have hl30:b2<vO.heap.size:=by grind
 have Vt:W3.heap[w2.heap.size]?=some (.cells #[JK seed] 3):=by grind[Ja]
 have kY:w.heap.size<=vO.heap.size:=Dx.size;have Dx:Tch w.heap.size M0 w W3:=by rw[CY];exact Dx.alloc Dx.size _
 have Io:Row false W3 b2 3 .i64 bs c2:=by rw[CY];exact Io.kept (J8 _ hl30)
 have CO:W3.heap.size=w2.heap.size+1:=by simp_all
 have dP:vO.heap.size=w2.heap.size:=dP;rw[<- CY];have Qe:w.heap.size<=W3.heap.size:=Dx.size;have hV:((W3.alloc (.map #[] 0)).alloc (.cells #[JK 3,JK c.bits,JK c.K,JM b2 m c2,JK seed,.func (.func 167) #[] #[pt w2.heap.size],JK 0,.map (some (w2.heap.size+1))] 101)).heap[(w2.heap.size+1)]?=some (.map #[] 0):=by
  grind[J8,size_alloc,Ja]
 have hX:((W3.alloc (.map #[] 0)).alloc (.cells #[JK 3,JK c.bits,JK c.K,JM b2 m c2,JK seed,.func (.func 167) #[] #[pt w2.heap.size],JK 0,.map (some (w2.heap.size+1))] 101)).heap[w2.heap.size+1+1]?=some (.cells #[JK 3,JK c.bits,JK c.K,JM b2 m c2,JK seed,.func (.func 167) #[] #[pt w2.heap.size],JK 0,.map (some (w2.heap.size+1))] 101):=by
  grind[Ja,size_alloc]
 have SY:=(Io.kept (w':=(W3.alloc (.map #[] 0)).alloc (.cells #[JK 3,JK c.bits,JK c.K,JM b2 m c2,JK seed,.func (.func 167) #[] #[pt w2.heap.size],JK 0,.map (some (w2.heap.size+1))] 101)) (by grind[J8,size_alloc]));have EW:=(Dx.alloc Qe (.map #[] 0)).alloc (by rw[size_alloc];omega) (.cells #[JK 3,JK c.bits,JK c.K,JM b2 m c2,JK seed,.func (.func 167) #[] #[pt w2.heap.size],JK 0,.map (some (w2.heap.size+1))] 101);have LP:((W3.alloc (.map #[] 0)).alloc (.cells #[JK 3,JK c.bits,JK c.K,JM b2 m c2,JK seed,.func (.func 167) #[] #[pt w2.heap.size],JK 0,.map (some (w2.heap.size+1))] 101)).heap.size=w2.heap.size+1+2:=by simp_all
 have QF:((W3.alloc (.map #[] 0)).alloc (.cells #[JK 3,JK c.bits,JK c.K,JM b2 m c2,JK seed,.func (.func 167) #[] #[pt w2.heap.size],JK 0,.map (some (w2.heap.size+1))] 101)).heap[w2.heap.size]?=some (.cells #[JK seed] 3):=by
  grind[J8,size_alloc]
 generalize(W3.alloc (.map #[] 0)).alloc (.cells #[JK 3,JK c.bits,JK c.K,JM b2 m c2,JK seed,.func (.func 167) #[] #[pt w2.heap.size],JK 0,.map (some (w2.heap.size+1))] 101)=W5 at *;have gJ:((W5.alloc (.map #[] 0)).drew).heap[(w2.heap.size+1)]?=some (.map #[] 0):=(J8 (w:=W5) _ (show _<W5.heap.size by omega)).trans hV;obtain⟨w7,QV,Jt4,OI⟩:=HY.made (base:=W5.heap.size) gJ;have zK:(Instr.mapUpdate 99 (.map (some (w2.heap.size+1))) (JK 7) (.map (some (w2.heap.size+1+2)))).run prog ((W5.alloc (.map #[] 0)).drew)=.ok () w7:=by grind
 have MN:W5.cell? ⟨w2.heap.size+1+1,0,none⟩=some (JK 3):=(cell_of hX 0).trans rfl;have lG:W5.cell? ⟨w2.heap.size+1+1,7,none⟩=some (.map (some (w2.heap.size+1))):=(cell_of hX 7).trans rfl;have cb:Hid (∀w',(w'=W5.drew\/w'=(W5.alloc (.map #[] 0)).drew)->Calls prog 32 #[.pointer (some ⟨w2.heap.size+1+1,0,none⟩)] w' λe Qj=>e=.returned (JK 7)/\Qj=w'):=λw' h=>nC (by
  rcases h with rfl|rfl
  .exact MN
  .refine(Du (J8 (w:=W5) _ ?_)).trans MN
   grind)
 have UJ:∀k,k<W5.heap.size->k≠(w2.heap.size+1)->w7.heap[k]?=W5.heap[k]?:=λk hk Ap=>(OI.block k (by show k<(W5.alloc _).heap.size;rw[size_alloc];omega) λe=>Ap (Aa e)).trans (J8 (w:=W5) _ hk);have fin:NewAt w c seed (.func (.func 167) #[] #[pt w2.heap.size]) bs (.returned (.tuple #[.pointer (some ⟨w2.heap.size+1+1,0,none⟩),.nilIface])) w7:=by
  have kS:w.heap.size<=(w2.heap.size+1):=by grind
  have hsz3:w.heap.size<=w2.heap.size:=by grind
  refine⟨⟨w2.heap.size+1+1,(w2.heap.size+1),W5.heap.size,b2,c2,rfl,⟨by omega,by omega,by omega,by grind⟩,⟨⟨(0,0),?_,λ_=>rfl⟩,Jt4⟩,?_,?_,?_⟩,?_⟩
  .grind
  .exact(OI.block _ (by simp_all) λe=>by grind).trans (Ja (w:=W5) _)
  .exact SY.kept (UJ _ (by omega) (by omega))
  .omega
  .exact⟨by grind,λk hk _=>(UJ k (by omega) (by omega)).trans (EW.heap k hk λx=>x),OI.tape.trans EW.tape,OI.os.trans EW.os,OI.output.trans EW.output⟩
 clear gJ hV
 go_region_with (go_at_call 32;refine(cb _ (by grind)).mono ?_;rintro e w' ⟨rfl,rfl⟩)
 all_goals go_wp2
 all_goals go_ret2
 all_goals exact⟨w2.heap.size,fin,by grind,(UJ _ (by omega) (by omega)).trans QF⟩
end
section
variable{w:JE}{x:Nat}{c:J7}{seed:Int}{nf:Int}{vm base:Nat}
def Jv6{fr:Bool}{bb cap:Nat}{bs:JD}(hc:CZ c)(hr:Row fr w bb 3 .i64 bs cap)(Dh:c.ba=some ⟨bb,0,none⟩)(BL:c.nb=bs.length)(hp:bs.Pairwise (· < ·))(n:Int) :
  Calls prog 29 #[.agg (EI c 3 seed),JK 2,JK n] w λe w'=>∃hb,NewAt w c seed (.func (.func 95) #[] #[pt hb]) bs e w'/\w.heap.size<=hb/\w'.heap[hb]?=some (.cells #[JK n] 3):=by
 obtain⟨W0,Ci⟩:∃W0,W0=w.alloc (.cells (EI c 3 seed) 47):=⟨_,rfl⟩;have Bf:Tch w.heap.size M0 w W0:=by rw[Ci];exact Tch.refl.alloc (Ad _) _
 have Fj:Blk false W0 w.heap.size (EI c 3 seed) 47:=⟨(0,0),by grind[Ja],λ_=>rfl⟩;have Dq:=Fj.lt;have hf:Hid (∀w1,Tch W0.heap.size M0 W0 w1->w1.cell? ⟨w.heap.size,0,none⟩=some (JK 3)/\w1.cell? ⟨w.heap.size,1,none⟩=some (JK c.bits)/\w1.cell? ⟨w.heap.size,2,none⟩=some (JK c.K)/\w1.cell? ⟨w.heap.size,3,none⟩=some (.slice c.ba c.nb c.cb)/\w1.cell? ⟨w.heap.size,4,none⟩=some (JK seed)):=λw1 ht=>(Fj.tch ht Dq λx=>x).five;have MH:Hid (∀w1,Tch W0.heap.size M0 W0 w1->Calls prog 62 #[.agg (EI c 3 seed),.func (.func 95) #[] #[pt (w.heap.size+1)]] w1 λe w'=>NewAt w c seed (.func (.func 95) #[] #[pt (w.heap.size+1)]) bs e w'/\Tch W0.heap.size M0 W0 w'/\Tch w1.heap.size M0 w1 w'):=λw1 ht=>by have Bc:=Bf.trans (ht.mono Bf.size λ_ _ h=>h);refine(Jgo (seed:=seed) hc (hr.tch Bc hr.lt λx=>x) Dh BL hp (.func 95) #[] #[pt (w.heap.size+1)]).mono λe w'(h:NewAt w1 c seed (.func (.func 95) #[] #[pt (w.heap.size+1)]) bs e w')=>?_;obtain⟨⟨x,vm,base,b2,c2,h1,h2,h3⟩,h4⟩:=h;have:=Bc.size;exact⟨⟨⟨x,vm,base,b2,c2,h1,⟨by omega,by omega,by omega,by omega⟩,h3⟩,(Bc.trans (h4.mono Bc.size λ_ _ h=>h))⟩,ht.trans (h4.mono ht.size λ_ _ h=>h),h4⟩
 clear hr hp Fj Bf Dq Dh BL;unfold EI at MH Ci ⊢;have t0:Tch W0.heap.size M0 W0 W0.drew:=Tch.refl.drew;have t1:Tch W0.heap.size M0 W0 (W0.alloc (.cells #[JK n] 3)).drew:=(Tch.refl.alloc (Ad _) _).drew;have IK:(W0.alloc (.cells #[JK n] 3)).drew.heap[w.heap.size+1]?=some (.cells #[JK n] 3):=by have:=Ja (w:=W0) (.cells #[JK n] 3);rw[Ci,size_alloc]at this;rw[Ci];exact this
 have Jxh:w.heap.size+1<(W0.alloc (.cells #[JK n] 3)).drew.heap.size:=Jj IK
 go_enter func29,ntmps29
 go_wp2_with fail
 subst Ci;generalize Vy:w.heap.size=n0 at hf MH IK Jxh ⊢;obtain⟨q0,q1,q2,q3,q4⟩:=hf _ t0;obtain⟨r0,r1,r2,r3,r4⟩:=hf _ t1
 go_region_with (first|(go_at_call 53;refine(Jv5 n _).mono ?_;rintro e w1 ⟨rfl,rfl⟩)|(go_at_call 62;refine(MH _ t1).mono ?_;rintro e w1 ⟨hN,t2,t3⟩;have YT:=hN;have BH:=(t3.heap _ Jxh λh=>h).trans IK;obtain⟨⟨x,vm,base,b2,c2,rfl,_⟩,_⟩:=hN))
 all_goals go_wp2
 all_goals go_ret2
 all_goals exact⟨_,YT,by omega,BH⟩
def Jv7{fr:Bool}{bb cap:Nat}{bs:JD}(hc:CZ c)(hr:Row fr w bb 3 .i64 bs cap)(Dh:c.ba=some ⟨bb,0,none⟩)(BL:c.nb=bs.length)(hp:bs.Pairwise (· < ·))(n:Int) :
  Calls prog 29 #[.agg (EI c 3 seed),JK 0,JK n] w λe w'=>∃hb,NewAt w c seed (.func (.func 167) #[] #[pt hb]) bs e w'/\w.heap.size<=hb/\w'.heap[hb]?=some (.cells #[JK seed] 3):=by
 obtain⟨W0,Ci⟩:∃W0,W0=w.alloc (.cells (EI c 3 seed) 47):=⟨_,rfl⟩;have Bf:Tch w.heap.size M0 w W0:=by rw[Ci];exact Tch.refl.alloc (Ad _) _
 have Fj:Blk false W0 w.heap.size (EI c 3 seed) 47:=⟨(0,0),by grind[Ja],λ_=>rfl⟩;have Dq:=Fj.lt;have hf:Hid (∀w1,Tch W0.heap.size M0 W0 w1->w1.cell? ⟨w.heap.size,0,none⟩=some (JK 3)/\w1.cell? ⟨w.heap.size,1,none⟩=some (JK c.bits)/\w1.cell? ⟨w.heap.size,2,none⟩=some (JK c.K)/\w1.cell? ⟨w.heap.size,3,none⟩=some (.slice c.ba c.nb c.cb)/\w1.cell? ⟨w.heap.size,4,none⟩=some (JK seed)):=λw1 ht=>(Fj.tch ht Dq λx=>x).five;have MH:Hid (∀w1,Tch W0.heap.size M0 W0 w1->Calls prog 62 #[.agg (EI c 3 seed),.nilFunc] w1 λe w'=>∃hb,NewAt w c seed (.func (.func 167) #[] #[pt hb]) bs e w'/\w.heap.size<=hb/\w'.heap[hb]?=some (.cells #[JK seed] 3)/\Tch W0.heap.size M0 W0 w'):=λw1 ht=>by have Bc:=Bf.trans (ht.mono Bf.size λ_ _ h=>h);refine(Jz2 (seed:=seed) hc (hr.tch Bc hr.lt λx=>x) Dh BL hp).mono λe w' hx=>?_;obtain⟨hb,⟨⟨x,vm,base,b2,c2,h1,h2,h3⟩,h4⟩,h5,h6⟩:=hx;have:=Bc.size;exact⟨hb,⟨⟨x,vm,base,b2,c2,h1,⟨by omega,by omega,by omega,by omega⟩,h3⟩,(Bc.trans (h4.mono Bc.size λ_ _ h=>h))⟩,by omega,h6,ht.trans (h4.mono ht.size λ_ _ h=>h)⟩
 clear hr hp Fj Bf Dq Dh BL;unfold EI at MH Ci ⊢;have t0:Tch W0.heap.size M0 W0 W0.drew:=Tch.refl.drew;have t1:Tch W0.heap.size M0 W0 (W0.alloc (.cells #[JK n] 3)).drew:=(Tch.refl.alloc (Ad _) _).drew
 go_enter func29,ntmps29
 go_wp2_with fail
 subst Ci;generalize Vy:w.heap.size=n0 at hf ⊢;obtain⟨q0,q1,q2,q3,q4⟩:=hf _ t0;obtain⟨r0,r1,r2,r3,r4⟩:=hf _ t1
 go_region_with (first|(go_at_call 53;refine(Jv4 n _).mono ?_;rintro e w1 ⟨rfl,rfl⟩)|(go_at_call 62;refine(MH _ t1).mono ?_;rintro e w1 ⟨hb,hN,q8,q9,t2⟩;have YT:=hN;obtain⟨⟨x,vm,base,b2,c2,rfl,_⟩,_⟩:=hN))
 all_goals go_wp2
 all_goals go_ret2
 all_goals exact⟨_,YT,by omega,q9⟩
theorem Jlb{hb:Nat}{s:Int}(q:DU w x c seed (.func (.func 95) #[] #[pt hb]) nf vm base)(hc:w.heap[hb]?=some (.cells #[JK s] 3))(item at_:Int) :
  Calls prog 39 #[JL x,JK item,JK at_] w λe w'=>e=.returned (.tuple #[.int .u64 (YM s item),.nilIface])/\Tch w.heap.size M0 w w':=by
 have hmf:∀(fn:Fn)(first cap:JC)(w:JE),(Instr.makeFunc fn first cap).run prog w=.ok (.func fn first cap) w:=λ_ _ _ _=>rfl;have hx:x<w.heap.size:=q.blk.lt;have c5:w.cell? ⟨x,5,none⟩=some (.func (.func 95) #[] #[pt hb]):=q.cells.2.2.2.2.2.1;have YZ:=Jj hc;have h1:Calls prog 95 #[JK item,JL hb] (((w.alloc (.cells #[JK at_] 3)).alloc (.cells #[.int .u64 0] 110)).alloc (.cells #[.nilIface] 33)) λe w'=>e=.returned (.int .u64 (YM s item))/\w'=((w.alloc (.cells #[JK at_] 3)).alloc (.cells #[.int .u64 0] 110)).alloc (.cells #[.nilIface] 33):=Jrw ((Du (by grind[J8,size_alloc])).trans ((cell_of hc 0).trans rfl));have c5':(((w.alloc (.cells #[JK at_] 3)).alloc (.cells #[.int .u64 0] 110)).alloc (.cells #[.nilIface] 33)).cell? ⟨x,5,none⟩=some (.func (.func 95) #[] #[pt hb]):=
  (Du (by grind[J8,size_alloc])).trans c5
 generalize YM s item=hh at *;clear hc
 go_enter_defers func39,ntmps39
 go_wp2_with (go_at_call 95;refine h1.mono ?_;rintro e w1 ⟨rfl,rfl⟩)
 refine leaves_cons (f:=84) (args:=#[JL w.heap.size,.pointer (some ⟨w.heap.size+1,0,none⟩),.pointer (some ⟨w.heap.size+1+1,0,none⟩)]) (by simp) (by simp[go_sem]) ?_;refine(Jis _ _ _ _).mono ?_;rintro e u' Qj ⟨rfl,rfl,rfl⟩;simp[Leaves,settle,results,results39,go_sem];exact((Tch.refl.alloc (Ad _) _).alloc (by simp_all) _).alloc (by grind[size_alloc]) _
end
def Jyk(w:JE)(f:JJ):Calls prog 116 #[.slice none 0 0,f] w λe w'=>e=.returned (JK (-1))/\w'=w:=by
 go_enter func116,ntmps116
 go_wp2;refine wp_loop_rounds 1 ?_;rw[rounds_succ];go_wp2;go_ret
 simp_all
def Jnx(w:JE)(f:JJ):Calls prog 70 #[.slice none 0 0,f] w λe w'=>e=.returned (.bool false)/\w'=w:=by
 have h:=Jyk w f
 go_enter func70,ntmps70
 go_wp2_with (go_at_call 116;refine h.mono ?_;rintro e w1 ⟨rfl,rfl⟩)
 go_ret
 simp_all
def J01a{w:JE}{fb:Nat}(h:w.cell? ⟨fb,0,none⟩=some (.slice none 0 0)){x:JD}(hx:x.length=5):Calls prog 69 #[.agg (ai .i64 x),JL fb] w λe w'=>e=.returned (.bool true)/\Tch w.heap.size M0 w w':=by
 obtain⟨x0,x1,x2,x3,x4,rfl⟩:=Yx hx;simp only[ai,D5,List.map_nil];have hl:=cell_lt h;have h1:(w.alloc (.cells #[JK x0,JK x1,JK x2,JK x3,JK x4] 104)).cell? ⟨fb,0,none⟩=some (.slice none 0 0):=(Du (J8 _ hl)).trans h;have hc:=λw f=>Jnx w f
 go_enter func69,ntmps69
 go_wp2_with (go_at_call 70;refine(hc _ _).mono ?_;rintro e w1 ⟨rfl,rfl⟩)
 go_ret;exact⟨rfl,Tch.refl.alloc (Ad _) _⟩
section
variable{fr:Bool}{w:JE}{b r cap:Nat}{rs:JD}
def Jny{bits:Int}(h:DV fr w b r cap bits rs)(hn:rs.length<=1000)(h0:0<rs.length)(hr:∀x∈rs,0<=x/\x<=255) :
  Calls prog 251 #[JL b] w λe w'=>∃g c',e=.returned (JM g rs.length c')/\w.heap.size<=g/\Row false w' g 110 .u64 rs c'/\Tch w.heap.size M0 w w':=by
 have c1:=(h.hd.cell 1).trans rfl;have BA:=Jsp h.row hn h0 hr
 go_enter func251,ntmps251
 go_wp2_with (go_at_call 254;refine BA.mono ?_;rintro e w' ⟨g,c',rfl,hg,Aj,ht⟩)
 go_ret;exact⟨g,c',rfl,hg,Aj,ht⟩
def Jl8{ba:JI}{nb cb:Nat}(h:EZ fr w b r cap ba nb cb rs)(hn:rs.length<=1000)(h0:0<rs.length)(hr:∀x∈rs,0<=x/\x<=9223372036854775807) :
  Calls prog 258 #[JL b] w λe w'=>∃g c',e=.returned (JM g rs.length c')/\w.heap.size<=g/\Row false w' g 110 .u64 rs c'/\Tch w.heap.size M0 w w':=by
 have c1:=(h.hd.cell 1).trans rfl;have BA:=Jst h.row hn h0 hr
 go_enter func258,ntmps258
 go_wp2_with (go_at_call 260;refine BA.mono ?_;rintro e w' ⟨g,c',rfl,hg,Aj,ht⟩)
 go_ret;exact⟨g,c',rfl,hg,Aj,ht⟩
end
def SlN(base:Nat)(w:JE)(v:JJ)(t:JH)(k:IntKind)(xs:JD):Prop:=∃g cap,v=JM g xs.length cap/\base<=g/\Row false w g t k xs cap
def SlN.tch{base:Nat}{w w':JE}{v:JJ}{t:JH}{k:IntKind}{xs:JD}(h:SlN base w v t k xs)(q:Tch w.heap.size M0 w w'):SlN base w' v t k xs:=by obtain⟨g,cap,h1,h2,h3⟩:=h;exact⟨g,cap,h1,h2,h3.tch q h3.lt λh=>h⟩
def SlI.mono{fr:Bool}{w:JE}{base AO:Nat}{v:JJ}{t:JH}{k:IntKind}{xs:JD}(h:SlI fr w base v t k xs)(hb:AO<=base):SlI fr w AO v t k xs:=by
 rcases h with h|⟨g,cap,h1,h2,h3⟩
 .exact .inl h
 .exact .inr ⟨g,cap,h1,by omega,h3⟩
def SlI.tch{w w':JE}{base:Nat}{v:JJ}{t:JH}{k:IntKind}{xs:JD}(h:SlI false w base v t k xs)(q:Tch w.heap.size M0 w w'):SlI false w' base v t k xs:=by
 rcases h with h|⟨g,cap,h1,h2,h3⟩
 .exact .inl h
 .exact .inr ⟨g,cap,h1,h2,h3.tch q h3.lt λh=>h⟩
structure KZ(base:Nat)(w:JE)(kv rv hv lv:JJ)(g:JD)(B:Bun):Prop where
 k:SlI false w base kv 3 .i64 g
 r:SlN base w rv 3 .i64 B.r
 h:SlN base w hv 3 .i64 B.h
 l:SlN base w lv 110 .u64 B.l
def KZ.tch{base:Nat}{w w':JE}{kv rv hv lv:JJ}{g:JD}{B:Bun}(h:KZ base w kv rv hv lv g B)(q:Tch w.heap.size M0 w w'):KZ base w' kv rv hv lv g B:=⟨h.k.tch q,h.r.tch q,h.h.tch q,h.l.tch q⟩
def Juh{P:Program}{ops:Array Oper}{Q:Exit->Act->JE->Prop}{i:Nat}{o:Oper}{a:Act}{w w':JE}{K:Act->JE->Prop}(ho:ops[i]?=some o)(hg:o.guard=none/\o.dst=none)(hr:(execOp a.eval o).run P w=.ok .skip w')(h:K a w'):wpOp P ops Q i K a w:=by unfold wpOp;simp only[ho,Region.wanted,hg.1,if_true];left;unfold Oper.wp;rw[hr];show K (a.put o.dst JA) w';rw[hg.2];exact h
def b38:Code:=f68.body.getD .skip
def WC:Code:=lC (bC (sC (sC (sC b38))))
def WE:Code:=bC (fC (sC (sC WC)))
def Wu:Code:=fC (sC (sC WE))
def Jnz(N:Nat)(p:BP)(B:Bun)(key:JD)(m:Nat):Nat->JJ->JE->Prop
 |0,v,_=>v=.agg (ai .i64 key)
 |1,v,_=>v=.int .i64 m
 |2,v,w=>SlI false w N v 3 .i64 (MV m key 5)
 |3,v,_=>v=pt p.b
 |4,v,_=>v=pt p.b
 |5,v,_=>v=pt p.b
 |6,v,_=>v=.int .i64 B.n
 |7,v,_=>v=pt p.b
 |8,v,_=>v=pt p.b
 |9,v,_=>v=pt p.b 1
 |10,v,_=>v=pt p.b 1
 |11,v,_=>v=.iface 186 (pt p.rb)
 |12,v,w=>SlN N w v 110 .u64 B.r
 |13,v,w=>SlN N w v 3 .i64 B.r
 |14,v,_=>v=pt p.b
 |15,v,_=>v=pt p.b
 |16,v,_=>v=pt p.b 1
 |17,v,_=>v=pt p.b 2
 |18,v,_=>v=.iface 189 (pt p.hb)
 |19,v,w=>SlN N w v 110 .u64 B.h
 |20,v,w=>SlN N w v 3 .i64 B.h
 |21,v,_=>v=pt p.b
 |22,v,_=>v=pt p.b
 |23,v,_=>v=pt p.b 1
 |24,v,_=>v=pt p.b 3
 |25,v,_=>v=.iface 192 (pt p.lb)
 |26,v,w=>SlN N w v 110 .u64 B.l
 |27,v,w=>∃kv rv hv lv,v=.agg #[kv,.int .i64 B.n,rv,hv,lv]/\KZ N w kv rv hv lv (MV m key 5) B
 |_,v,w=>∃cb,v=pt cb/\N<=cb/\w.heap[cb]?=some (.cells #[.slice none 0 0,.int .i64 0,.slice none 0 0,.slice none 0 0,.slice none 0 0] 38)
def Jk0{N:Nat}{p:BP}{B:Bun}{key:JD}{m:Nat}(i:Nat)(v:JJ)(w w':JE)(h:Jnz N p B key m i v w)(t:Tch w.heap.size M0 w w'):Jnz N p B key m i v w':=by
 match i,h with
 |2,h=>exact SlI.tch h t
 |12,h=>exact SlN.tch h t
 |13,h=>exact SlN.tch h t
 |19,h=>exact SlN.tch h t
 |20,h=>exact SlN.tch h t
 |26,h=>exact SlN.tch h t
 |27,⟨kv,rv,hv,lv,h1,h2⟩=>exact⟨kv,rv,hv,lv,h1,h2.tch t⟩
 |0,h|1,h|3,h|4,h|5,h|6,h|7,h|8,h|9,h|10,h|11,h|14,h|15,h|16,h|17,h|18,h|21,h|22,h|23,h|24,h|25,h=>exact h
 |i+28,⟨cb,h1,h2,h3⟩=>exact⟨cb,h1,h2,(t.heap cb (Jj h3) λh=>h).trans h3⟩
section
variable{w:JE}{f:Nat->JJ}{mb kb:Nat}{p:BP}{B:Bun}{c:J7}{key:JD}{m:Nat}{d:Deferred}
def Jui{T0:JC}(hB:Jw false w c p B)(hok:Jl c B)(hc:CZ c)(BZ:∀x∈B.h,0<=x)(hK:key.length=5)(SV:w.heap[kb]?=some (.cells (ai .i64 key) 104))(hm:w.cell? ⟨mb,0,none⟩=some (JK m))
  (hT:T0.size=75) (t2:T0[2]?=some (pt mb)) (t8:T0[8]?=some (pt kb)) (t9:T0[9]?=some (pt p.b)) :
  Wu.wp prog (λe a w'=>e=.normal/\a.defers=[d]/\a.tmps.size=75/\(∀s,s<42->s≠10->a.tmps[s]?=T0[s]?)/\∃cb kv rv hv lv,a.tmps[10]?=some (pt cb)/\w.heap.size<=cb/\w'.heap[cb]?=some (.cells #[kv,JK B.n,rv,hv,lv] 38)/\KZ w.heap.size w' kv rv hv lv (MV m key 5) B/\Tch w.heap.size M0 w w') ⟨T0,[d]⟩ w:=by
 have XI:B.r.length<=64/\0<B.r.length:=by
  have h1:=hc.b1;have h2:=hc.b2;rw[hok.r];have:c.bits=4\/c.bits=5\/c.bits=6:=by omega
  grind
 have Um:B.h.length<=9/\0<B.h.length:=by rw[hok.h];have:=hc.nb;omega
 have jA:B.l.length<=8:=by have:=hok.lK;have:=hc.k2;omega
 have FV:∀w1,Tch w.heap.size M0 w w1->Jw false w1 c p B:=λw1 t=>hB.kept λx hx=>t.heap x (hB.lt x hx) λh=>h;obtain⟨y0,y1,y2,y3,y4,hy⟩:=Yx hK;have iU:∀i v,(ai .i64 key)[i]?=some v->∀w1,Tch w.heap.size M0 w w1->w1.cell? ⟨kb,i,none⟩=some v:=λi v h w1 t=>(cell_of ((t.heap kb (Jj SV) λh=>h).trans SV) i).trans h;have qA:=iU 0 (JK y0) (by rw[hy];rfl);have DI:=iU 1 (JK y1) (by rw[hy];rfl);have BX:=iU 2 (JK y2) (by rw[hy];rfl);have OM:=iU 3 (JK y3) (by rw[hy];rfl);have PY:=iU 4 (JK y4) (by rw[hy];rfl);have LD:ai .i64 key=#[JK y0,JK y1,JK y2,JK y3,JK y4]:=by rw[hy];rfl
 have X7:∀w1,Tch w.heap.size M0 w w1->w1.cell? ⟨mb,0,none⟩=some (JK m):=λw1 t=>(t.cell (cell_lt hm) λh=>h).trans hm;have Jko:=Jky key hK m;have hc0:=λw1 t=>(FV w1 t).c0;have DF:=λw1 t=>(FV w1 t).c1;have Nh:=λw1 t=>(FV w1 t).c2;have PV:=λw1 t=>(FV w1 t).c3;have X9:=λw1 t=>Jny (FV w1 t).reg (by omega) XI.2 hok.r8;have Ij:=λw1 t=>Jl8 (FV w1 t).hist (by omega) Um.2 λx hx=>⟨BZ x hx,(hok.h64 x hx).2⟩;have hi1:=λ{w1 g cap}(h:Row false w1 g 110 .u64 B.r cap)=>Jpj h (by omega) XI.2 λx hx=>by have:=hok.r8 x hx;omega
 have Nq:=λ{w1 g cap}(h:Row false w1 g 110 .u64 B.h cap)=>Jpj h (by omega) Um.2 λx hx=>⟨BZ x hx,(hok.h64 x hx).2⟩;have Ze:∀w1,Tch w.heap.size M0 w w1->Calls prog 265 #[JL p.lb] w1 λe w'=>∃g c',e=.returned (JM g B.l.length c')/\w1.heap.size<=g/\Row false w' g 110 .u64 B.l c'/\Tch w1.heap.size M0 w1 w':=λw1 t=>by
  have hl:=(FV w1 t).least;cases hp:p.lr with
  |none=>
   rw[hp]at hl;exact absurd hl.row hok.lne
  |some q=>
   grind[Jiq]
 simp only[Wu,WE,WC,b38,fC,sC,bC,lC,f68,A8];refine Jdg 29 (λi=>if i=28 then 10 else i+42) (Jnz w.heap.size p B key m) mixed (by kernel_rfl) (λi hi=>by grind) Jk0 ?_ ?_
 .intro i o a w1 hi ho Az Ag hold hd;have s2:=(hold 2 (by grind)).trans t2;have s8:=(hold 8 (by grind)).trans t8;have s9:=(hold 9 (by grind)).trans t9
  match i,hi with
  |0,_=>
   cases ho;exact J9 rfl rfl (by simp[execOp,go_sem,s8,qA _ Az,DI _ Az,BX _ Az,OM _ Az,PY _ Az,LD];try rfl) ⟨_,rfl,rfl,.refl⟩
  |1,_=>
   cases ho;exact J9 rfl rfl (by simp[execOp,go_sem,s2,X7 _ Az];try rfl) ⟨_,rfl,rfl,.refl⟩
  |2,_=>
   cases ho;obtain⟨_,e0,rfl⟩:=hd 0 rfl;have e0:=(show a.tmps[42]?=some _ from e0);obtain⟨_,e1,rfl⟩:=hd 1 rfl;have e1:=(show a.tmps[43]?=some _ from e1);exact Rz rfl rfl (by simp[execOp,go_sem,e0,e1];try rfl) (Jko _) λe w2 ⟨v,h1,h2,h3⟩=>⟨v,h1,v,rfl,h2.mono Az.size,h3⟩
  |3,_=>
   cases ho;exact J9 rfl rfl (by simp[execOp,go_sem,s9];try rfl) ⟨_,rfl,rfl,.refl⟩
  |7,_=>
   cases ho;exact J9 rfl rfl (by simp[execOp,go_sem,s9];try rfl) ⟨_,rfl,rfl,.refl⟩
  |14,_=>
   cases ho;exact J9 rfl rfl (by simp[execOp,go_sem,s9];try rfl) ⟨_,rfl,rfl,.refl⟩
  |21,_=>
   cases ho;exact J9 rfl rfl (by simp[execOp,go_sem,s9];try rfl) ⟨_,rfl,rfl,.refl⟩
  |4,_=>
   cases ho;obtain⟨_,e3,rfl⟩:=hd 3 rfl;have e3:=(show a.tmps[45]?=some _ from e3);exact J9 rfl rfl (by simp[execOp,go_sem,e3];try rfl) ⟨_,rfl,rfl,.refl⟩
  |8,_=>
   cases ho;obtain⟨_,e7,rfl⟩:=hd 7 rfl;have e7:=(show a.tmps[49]?=some _ from e7);exact J9 rfl rfl (by simp[execOp,go_sem,e7];try rfl) ⟨_,rfl,rfl,.refl⟩
  |15,_=>
   cases ho;obtain⟨_,O5,rfl⟩:=hd 14 rfl;have O5:=(show a.tmps[56]?=some _ from O5);exact J9 rfl rfl (by simp[execOp,go_sem,O5];try rfl) ⟨_,rfl,rfl,.refl⟩
  |22,_=>
   cases ho;obtain⟨_,WU,rfl⟩:=hd 21 rfl;have WU:=(show a.tmps[63]?=some _ from WU);exact J9 rfl rfl (by simp[execOp,go_sem,WU];try rfl) ⟨_,rfl,rfl,.refl⟩
  |5,_=>
   cases ho;obtain⟨_,e4,rfl⟩:=hd 4 rfl;have e4:=(show a.tmps[46]?=some _ from e4);exact J9 rfl rfl (by simp[execOp,go_sem,e4];try rfl) ⟨_,rfl,rfl,.refl⟩
  |6,_=>
   cases ho;obtain⟨_,e5,rfl⟩:=hd 5 rfl;have e5:=(show a.tmps[47]?=some _ from e5);exact J9 rfl rfl (by simp[execOp,go_sem,e5,hc0 _ Az];try rfl) ⟨_,rfl,rfl,.refl⟩
  |9,_=>
   cases ho;obtain⟨_,e8,rfl⟩:=hd 8 rfl;have e8:=(show a.tmps[50]?=some _ from e8);exact J9 rfl rfl (by simp[execOp,go_sem,e8];try rfl) ⟨_,rfl,rfl,.refl⟩
  |16,_=>
   cases ho;obtain⟨_,KG,rfl⟩:=hd 15 rfl;have KG:=(show a.tmps[57]?=some _ from KG);exact J9 rfl rfl (by simp[execOp,go_sem,KG];try rfl) ⟨_,rfl,rfl,.refl⟩
  |23,_=>
   cases ho;obtain⟨_,WV,rfl⟩:=hd 22 rfl;have WV:=(show a.tmps[64]?=some _ from WV);exact J9 rfl rfl (by simp[execOp,go_sem,WV];try rfl) ⟨_,rfl,rfl,.refl⟩
  |10,_=>
   cases ho;obtain⟨_,e9,rfl⟩:=hd 9 rfl;have e9:=(show a.tmps[51]?=some _ from e9);exact J9 rfl rfl (by simp[execOp,go_sem,e9];try rfl) ⟨_,rfl,rfl,.refl⟩
  |17,_=>
   cases ho;obtain⟨_,PG,rfl⟩:=hd 16 rfl;have PG:=(show a.tmps[58]?=some _ from PG);exact J9 rfl rfl (by simp[execOp,go_sem,PG];try rfl) ⟨_,rfl,rfl,.refl⟩
  |24,_=>
   cases ho;obtain⟨_,WW,rfl⟩:=hd 23 rfl;have WW:=(show a.tmps[65]?=some _ from WW);exact J9 rfl rfl (by simp[execOp,go_sem,WW];try rfl) ⟨_,rfl,rfl,.refl⟩
  |11,_=>
   cases ho;obtain⟨_,MZ,rfl⟩:=hd 10 rfl;have MZ:=(show a.tmps[52]?=some _ from MZ);exact J9 rfl rfl (by simp[execOp,go_sem,MZ,DF _ Az];try rfl) ⟨_,rfl,rfl,.refl⟩
  |18,_=>
   cases ho;obtain⟨_,PK,rfl⟩:=hd 17 rfl;have PK:=(show a.tmps[59]?=some _ from PK);exact J9 rfl rfl (by simp[execOp,go_sem,PK,Nh _ Az];try rfl) ⟨_,rfl,rfl,.refl⟩
  |25,_=>
   cases ho;obtain⟨_,QB,rfl⟩:=hd 24 rfl;have QB:=(show a.tmps[66]?=some _ from QB);exact J9 rfl rfl (by simp[execOp,go_sem,QB,PV _ Az];try rfl) ⟨_,rfl,rfl,.refl⟩
  |12,_=>
   cases ho;obtain⟨_,QA,rfl⟩:=hd 11 rfl;have QA:=(show a.tmps[53]?=some _ from QA);exact Rz rfl rfl (by simp[execOp,go_sem,QA,Jkv];try rfl) (X9 _ Az) λe w2 ⟨g,c',h1,h2,h3,h4⟩=>⟨_,h1,_,rfl,⟨g,c',rfl,BN Az.size h2,h3⟩,h4⟩
  |19,_=>
   cases ho;obtain⟨_,Na,rfl⟩:=hd 18 rfl;have Na:=(show a.tmps[60]?=some _ from Na);exact Rz rfl rfl (by simp[execOp,go_sem,Na,Jkw];try rfl) (Ij _ Az) λe w2 ⟨g,c',h1,h2,h3,h4⟩=>⟨_,h1,_,rfl,⟨g,c',rfl,BN Az.size h2,h3⟩,h4⟩
  |26,_=>
   cases ho;obtain⟨_,WX,rfl⟩:=hd 25 rfl;have WX:=(show a.tmps[67]?=some _ from WX);exact Rz rfl rfl (by simp[execOp,go_sem,WX,Jkx];try rfl) (Ze _ Az) λe w2 ⟨g,c',h1,h2,h3,h4⟩=>⟨_,h1,_,rfl,⟨g,c',rfl,BN Az.size h2,h3⟩,h4⟩
  |13,_=>
   cases ho;obtain⟨_,WQ,g,c1,rfl,hg,Aj⟩:=hd 12 rfl;have WQ:=(show a.tmps[54]?=some _ from WQ);exact Rz rfl rfl (by simp[execOp,go_sem,WQ];try rfl) (hi1 Aj) λe w2 ⟨g,c',h1,h2,h3,h4⟩=>⟨_,h1,_,rfl,⟨g,c',rfl,BN Az.size h2,h3⟩,h4⟩
  |20,_=>
   cases ho;obtain⟨_,S9,g,c1,rfl,hg,Aj⟩:=hd 19 rfl;have S9:=(show a.tmps[61]?=some _ from S9);exact Rz rfl rfl (by simp[execOp,go_sem,S9];try rfl) (Nq Aj) λe w2 ⟨g,c',h1,h2,h3,h4⟩=>⟨_,h1,_,rfl,⟨g,c',rfl,BN Az.size h2,h3⟩,h4⟩
  |27,_=>
   cases ho;obtain⟨_,e2,h2⟩:=hd 2 rfl;have e2:=(show a.tmps[44]?=some _ from e2);obtain⟨_,e6,rfl⟩:=hd 6 rfl;have e6:=(show a.tmps[48]?=some _ from e6);obtain⟨_,NW,g1,c1,rfl,Ba,r1⟩:=hd 13 rfl;have NW:=(show a.tmps[55]?=some _ from NW);obtain⟨_,Vl,g2,c2,rfl,Bl,r2⟩:=hd 20 rfl;have Vl:=(show a.tmps[62]?=some _ from Vl);obtain⟨_,Vm,g3,c3,rfl,Gt,r3⟩:=hd 26 rfl;have Vm:=(show a.tmps[68]?=some _ from Vm);rcases h2 with⟨rfl,q0⟩|⟨g0,c0,rfl,q0,r0⟩
   .exact J9 rfl rfl (by simp[execOp,go_sem,e2,e6,NW,Vl,Vm];try rfl) ⟨_,rfl,⟨_,_,_,_,rfl,.inl ⟨rfl,q0⟩,⟨g1,c1,rfl,Ba,r1⟩,⟨g2,c2,rfl,Bl,r2⟩,⟨g3,c3,rfl,Gt,r3⟩⟩,.refl⟩
   .exact J9 rfl rfl (by simp[execOp,go_sem,e2,e6,NW,Vl,Vm];try rfl) ⟨_,rfl,⟨_,_,_,_,rfl,.inr ⟨g0,c0,rfl,q0,r0⟩,⟨g1,c1,rfl,Ba,r1⟩,⟨g2,c2,rfl,Bl,r2⟩,⟨g3,c3,rfl,Gt,r3⟩⟩,.refl⟩
  |28,_=>
   cases ho;exact J9 rfl rfl (by simp[execOp,go_sem,zeroValue38];try rfl) ⟨_,rfl,⟨_,rfl,Az.size,Ja _⟩,(Tch.refl.alloc (Ad _) _)⟩
  |i+29,h=>grind
 .intro a w1 Az Ob Ag hold hf;obtain⟨_,f27,kv,rv,hv,lv,rfl,hD⟩:=hf 27 (by omega);obtain⟨_,f28,cb,rfl,SL,hz⟩:=hf 28 (by omega);have f27:=(show a.tmps[69]?=some _ from f27);have f28:=(show a.tmps[10]?=some _ from f28);show wpOps _ _ _ [29] a w1;rw[wpOps_cons];have EY:=(cell_of hz 0).trans rfl;have q0:=FZ hz 0;have q1:=FZ hz 1;have DJ:=(cell_of hz 1).trans rfl;have DR:=(cell_of hz 2).trans rfl;have hz3:=(cell_of hz 3).trans rfl;have hz4:=(cell_of hz 4).trans rfl;have q2:=FZ hz 2;have q3:=FZ hz 3;have q4:=FZ hz 4;obtain⟨D6,⟨g1,c1,rfl,Ba,r1⟩,⟨g2,c2,rfl,Bl,r2⟩,⟨g3,c3,rfl,Gt,r3⟩⟩:=hD;obtain⟨ka,kl,kc,rfl⟩:∃ka kl kc,kv=.slice ka kl kc:=by
   rcases D6 with⟨rfl,_⟩|⟨g,cap,rfl,_⟩
   all_goals grind
  refine Juh rfl ⟨rfl,rfl⟩ (w':=(((((w1.setCell ⟨cb,0,none⟩ (.slice ka kl kc)).setCell ⟨cb,1,none⟩ (JK B.n)).setCell ⟨cb,2,none⟩ (JM g1 B.r.length c1)).setCell ⟨cb,3,none⟩ (JM g2 B.h.length c2)).setCell ⟨cb,4,none⟩ (JM g3 B.l.length c3))) (by simp[execOp,go_sem,f27,f28,EY,DJ,DR,hz3,hz4,q0,q1,q2,q3,q4,stored]) ?_;have hcb2:Blk false w1 cb #[.slice none 0 0,JK 0,.slice none 0 0,.slice none 0 0,.slice none 0 0] 38:=⟨_,hz,λ_=>rfl⟩;have QF:=((((hcb2.set 0 (.slice ka kl kc)).set 1 (JK B.n)).set 2 (JM g1 B.r.length c1)).set 3 (JM g2 B.h.length c2)).set 4 (JM g3 B.l.length c3);obtain⟨z,QF,hz5⟩:=QF;obtain rfl:=hz5 rfl;have yS:∀{g t k xs cap},Row false w1 g t k xs cap->t≠38->g≠cb:=λh hn e=>by
   obtain⟨arr,⟨z,h1,h2⟩,_⟩:=h
   grind
  have keep:∀{g},g≠cb->(((((w1.setCell ⟨cb,0,none⟩ (.slice ka kl kc)).setCell ⟨cb,1,none⟩ (JK B.n)).setCell ⟨cb,2,none⟩ (JM g1 B.r.length c1)).setCell ⟨cb,3,none⟩ (JM g2 B.h.length c2)).setCell ⟨cb,4,none⟩ (JM g3 B.l.length c3)).heap[g]?=w1.heap[g]?:=λhg=>by
   simp_all[Jm]
  have EW:=((((Az.set (a:=⟨cb,0,none⟩) (.inl SL) (.slice ka kl kc)).set (a:=⟨cb,1,none⟩) (.inl SL) (JK B.n)).set (a:=⟨cb,2,none⟩) (.inl SL) (JM g1 B.r.length c1)).set (a:=⟨cb,3,none⟩) (.inl SL) (JM g2 B.h.length c2)).set (a:=⟨cb,4,none⟩) (.inl SL) (JM g3 B.l.length c3);generalize(((((w1.setCell ⟨cb,0,none⟩ (.slice ka kl kc)).setCell ⟨cb,1,none⟩ (JK B.n)).setCell ⟨cb,2,none⟩ (JM g1 B.r.length c1)).setCell ⟨cb,3,none⟩ (JM g2 B.h.length c2)).setCell ⟨cb,4,none⟩ (JM g3 B.l.length c3))=w2 at *;refine⟨rfl,Ob,Ag.trans hT,λs hs Bo=>hold s λi hi=>?_,cb,_,_,_,_,f28,SL,QF,⟨?_,⟨g1,c1,rfl,Ba,r1.kept (keep (yS r1 (by decide)))⟩,⟨g2,c2,rfl,Bl,r2.kept (keep (yS r2 (by decide)))⟩,⟨g3,c3,rfl,Gt,r3.kept (keep (yS r3 (by decide)))⟩⟩,?_⟩
  .show(if i=28 then 10 else i+42)≠s;split<;>omega
  .rcases D6 with h|⟨g,cap,h1,h2,h3⟩
   .exact .inl h
   .exact .inr ⟨g,cap,h1,h2,h3.kept (keep (yS h3 (by decide)))⟩
  .exact EW
end
end Go.Sim.Z
namespace Go.Sim
open Go Go.Conc
section
variable{C:Cx}{S:Kn}{W E:JB}{w w1:JE}{g g':JF}
def BOk.rely(h:BOk C S W E w)(Ae:C.st=false)(r:BR false E w w1):BOk C S W E w1:=by
 have Cj:∀b,¬C.Sh b:=C.lax Ae;refine⟨⟨rfl,λb b' k=>?_,h.wr.fn,h.wr.inj,λb k=>(Cj b k).elim,λb b' o o' k x x'=>?_,h.wr.lid,λ_=>rfl,h.wr.glob⟩,h.hnd,h.gl,h.dis⟩
 .have:=h.wr.dom b b' k;have:=r.size;omega
 .obtain⟨rfl,hb⟩:=k;rw[r.blocks b hb]at x x';exact h.wr.obj b b o o' ⟨rfl,hb⟩ x x'
def Reach.hand(hB:BOk C S W E w){Post:(JB)->JF->JE->Prop}{f:JE->JE}(hr:g.status=.running)(ET:g'.status=.running)(hd:g'.dying=none)(ho:g'.offers=none)
  (hs:∀w1,BR false E w w1->∃es,stepG C.P true g w1=.go g' (f w1) es/\Jtd E E w1 (f w1) es)
  (k:∀w1 w2,BR false E w w1->BR false (grown E w1 (f w1)) (f w1) w2->(∀b,W b->¬grown E w1 (f w1) b)->Reach C.P Post W g' w2):Reach C.P Post W g w:=by
 have hR:Runs false C.P true (λy=>∃w1,BR false E w w1/\y.g=g'/\y.X=grown E w1 (f w1)/\BR false (grown E w1 (f w1)) (f w1) y.w) ⟨E,E,g,w⟩:=by refine .step (λw1=>⟨grown E w1 (f w1),grown E w1 (f w1),g',f w1⟩) (λw1 r=>⟨hs w1 r,ET,hd,ho,rfl,rfl⟩) λw1 r=>.stop λw2 r2=>⟨w1,r,rfl,rfl,r2⟩
 refine Reach.U9 hR hr hB.dis hB.dis (λb hb=>hB.lt hb) ?_;rintro⟨own,X,gy,wy⟩ ⟨w1,r1,rfl,rfl,r2⟩ h1 h2
 grind
def BOk.push(h:BOk C S W E w)(Ae:C.st=false){o:Obj}(ho:Kv C (okP C S) (idE λb=>E b\/b=w.heap.size) w.heap.size o o)(hW:¬W w.heap.size):BOk C S W (λb=>E b\/b=w.heap.size) (w.alloc o):=by
 have Cj:∀b,¬C.Sh b:=C.lax Ae;have Ac:∀b,E b->b<w.heap.size:=λb hb=>h.lt hb;refine⟨⟨rfl,λb b' k=>?_,λb c c' k k'=>k.1.symm.trans k'.1,λb c b2 k k'=>k.1.trans k'.1.symm,λb k=>(Cj b k).elim,λb b' x x' k hx Af=>?_,λ_ b b' k=>k.1,λ_=>rfl,λe=>by grind⟩,.inl h.hnd,λg hg=>.inl (h.gl g hg),λb hb k=>?_⟩
 .obtain⟨rfl,k⟩:=k;have:b<(w.alloc o).heap.size:=by
   rw[World.size_alloc]
   grind
  grind
 .obtain⟨rfl,k⟩:=k;rw[hx]at Af;cases Af;rcases k with k|rfl
  .have hb:=Ac b k;rw[show(w.alloc o).heap[b]?=w.heap[b]? from by show(w.heap.push o)[b]?=_;grind]at hx;exact(h.wr.obj b b x x ⟨rfl,k⟩ hx hx).mono λ_ _ h=>⟨h.1,.inl h.2⟩
  grind[World.alloc_heap_new]
 .rcases k with k|rfl
  .exact h.dis b hb k
  grind
def BOk.put(h:BOk C S W E w)(Ae:C.st=false){D:Nat}{o:Obj}(hD:E D)(ho:Kv C (okP C S) (idE E) D o o):BOk C S W E (w.putObj D o):=by
 have Cj:∀b,¬C.Sh b:=C.lax Ae;have Ag:(w.putObj D o).heap.size=w.heap.size:=by simp_all
 refine⟨⟨rfl,λb b' k=>by rw[Ag];exact h.wr.dom b b' k,h.wr.fn,h.wr.inj,λb k=>(Cj b k).elim,λb b' x x' k hx Af=>?_,h.wr.lid,λ_=>rfl,λe=>by grind⟩,h.hnd,h.gl,h.dis⟩;obtain⟨rfl,k⟩:=k;rw[hx]at Af;cases Af;by_cases e:D=b
 .grind[World.putObj_heap_same]
 .rw[World.putObj_heap_other (Ne.symm e)]at hx;exact h.wr.obj b b x x ⟨rfl,k⟩ hx hx
end
open Go.RowKit
section
variable{P:Program}{main:Bool}{b:Frame}{a:Act}{k:List Item}{cs:List Frame}{w:JE}
def NI(fn:JG)(t:JC)(ps:Array Tmp)(assign body:Code)(D:Nat):Loop:={ state:=.ready,pending:=none,fn,tmps:=t,params:=ps,assign,body,defers:=D }
def Je7 {g:Operand} {ps:Array Tmp} {assign body:Code} {f:JG} {fb:JC} {fn:Func} {c:Code} (hb:b.roundOf=none) (hk:b.kind≠.early) (hg:a.eval g=.func (.func f) #[] fb) (hf:P.funcs[f]?=some fn) (Eb:(fn.name == "runtime.NumGoroutine")=false) (OG:fn.body=some c) :
  stepG P main (G (b.at a (.code (.rangeFunc g ps assign body)::k)) cs) w =
   .go (G (Frame.enter P f (#[.func (.yield (w.heap.size+1)) #[] #[]]++fb) .normal) (b.at ⟨a.tmps,{ target:=.collected w.heap.size,args:=#[] }::a.defers⟩ (.inRangeFunc (w.heap.size+1)::k)::cs)) ((w.alloc (.deferred (some []))).alloc (.loop (NI b.fn a.tmps ps assign body w.heap.size))) #[]:=by
 have D6:(b.kind == CallKind.early)=false:=by grind
 have XA:¬fn.name= "runtime.NumGoroutine":=by grind
 have Fq:∀fr:Frame,fr.fn=b.fn->fr.tmps=a.tmps->fr.eval g=.func (.func f) #[] fb:=λfr _ h=>by rw[<- hg];unfold Frame.eval Act.eval;grind
 simp[G,stepG,stepG.exec,Frame.at,Sem.runT_eq,hb,Instr.enterLoop,GStep.after,seen_none,stepG.apply,resolve,Fq,Deferred.ofValue,invoke,callFunc,hf,XA,OG,NI,D6];rfl
def Jx2{r:Nat}{o:Obj}(h:w.heap[r]?=some o)(hc:∀c e f,o≠.cells c e f)(es:Array Event):(getObj r).events P w es=es.push ⟨.obj r,false,o.isChan⟩:=by
 cases o with
 |cells c e f=>grind
 |_=>simp[getObj,Sem.events,Sem.runT,h,-Sem.runT_eq]
def Jx3{r:Nat}{o o':Obj}(h:w.heap[r]?=some o)(hc:∀c e f,o≠.cells c e f)(es:Array Event):(setObj r o').events P w es=es.push ⟨.obj r,true,o'.isChan⟩:=by
 cases o with
 |cells c e f=>grind
 |_=>simp[setObj,Sem.events,Sem.runT,h,-Sem.runT_eq]
theorem Jga(hq:(P.funcs[b.fn]?).any (·.norace)=false){l:Nat}{r:Loop}(h:w.heap[l]?=some (.loop r))(hb:r.state≠.busy) :
  stepG P main (G (b.at a (.endRangeFunc l::k)) cs) w=.go (G (b.at a ((r.pending.map Item.code).toList++k)) cs) (w.putObj l (.loop { r with state:=.exhausted })) #[⟨.obj l,false,false⟩,⟨.obj l,true,false⟩]:=by
 have he:=run_endLoop (P:=P) h hb;have hv:(Instr.endLoop l).events P w #[]=#[⟨.obj l,false,false⟩,⟨.obj l,true,false⟩]:=by
  have hs:=run_setObj_loop (P:=P) (.loop { r with state:=.exhausted }) h;simp[Instr.endLoop,Instr.getLoop,Sem.events_bind,Sem.run_bind,run_getObj_loop h,hs,Result.andThen,hb,Jx2 h (by simp),Jx3 h (by simp),Obj.isChan]
 simp[G,stepG,stepG.exec,Frame.at,Sem.runT_eq,he,hv,GStep.after,seen_eq hq]
def Je8(hq:(P.funcs[b.fn]?).any (·.norace)=false){D:Nat}{ds:List Deferred}{todo:List Item}(h:w.heap[D]?=some (.deferred (some [])))(hd:a.defers={ target:=.collected D,args:=#[] }::ds) :
  stepG P main (G { b.at a todo with mode:=.returning } cs) w=.go (G { b.at ⟨a.tmps,ds⟩ todo with mode:=.returning } cs) (w.putObj D (.deferred none)) #[⟨.obj D,false,false⟩,⟨.obj D,true,false⟩]:=by
 have he:=run_takeDeferred (P:=P) h;have hv:(Instr.takeDeferred D).events P w #[]=#[⟨.obj D,false,false⟩,⟨.obj D,true,false⟩]:=by
  have g1:(getObj D).run P w=.ok (.deferred (some [])) w:=by simp[getObj,Sem.run,h]
  have s1:(setObj D (.deferred none)).run P w=.ok () (w.putObj D (.deferred none)):=by simp[setObj,Sem.run,h,World.putObj]
  simp[Instr.takeDeferred,Sem.events_bind,Sem.run_bind,g1,s1,Result.andThen,Jx2 h (by simp),Jx3 h (by simp),Obj.isChan]
 simp[G,stepG,unwind,Frame.at,hd,callDeferred,Sem.runT_eq,he,hv,GStep.after,seen_eq hq]
def Jam{fn:Func}{todo:List Item}{c:Frame}{v:JJ}(hn:b.kind=.normal)(hd:a.defers=[])(hf:P.funcs[b.fn]?=some fn)(hr:(results fn a.tmps).run P w=.ok v w) :
  stepG P main (G { b.at a todo with mode:=.returning } (c::cs)) w=.go (G (c.finish v) cs) w (seen P b.fn ((results fn a.tmps).events P w #[])):=by
 simp[G,stepG,unwind,doReturn,Frame.at,hn,hd,hf,hr,GStep.after]
end
section
variable{C:Cx}{S:Kn}{W E:JB}{w:JE}{B b₀:Frame}{a a₀:Act}{k:List Item}{cs:List Frame}{t:JC}{ds:List Deferred}{Post:(JB)->JF->JE->Prop}
def bJ{α:Type}{H:Array α}{n:Nat}{o:α}(h:H[n]?=some o):n<H.size:=(BJ.1 h).1
def J6{g g':JF}{P:Program}(hs:∀w1,stepG P true g w1=.go g' w1 #[])(hr:g.status=.running)(kn:∀d,Reach P Post W g' (w.at d)):Reach P Post W g w:=
 Reach.idle hs hr λw1 r1=>by obtain⟨d,rfl⟩:=r1;exact kn d
def Reach.call{P:Program}{ops:Array Oper}{i:Nat}{rest:List Nat}{o:Oper}{f:JG}{fn:Func}{c:Code}{ags:Array Operand}{NU:Array JH}(ho:ops[i]?=some o)(hw:Region.wanted o (yielded ops a.tmps)=true)(hk:B.kind≠.early)
  (Ar:o.op=.call { callee:=.value (.func f),args:=ags,argTypes:=NU }) (hf:P.funcs[f]?=some fn) (Eb:(fn.name == "runtime.NumGoroutine")=false) (OG:fn.body=some c)
  (kn:∀d,Reach P Post W (G ((base f).at { tmps:=ags.map a.eval++Array.replicate (fn.ntmps-(ags.map a.eval).size) JA,defers:=[] } [.code c]) (B.at a (.inRegion ops (i::rest)::k)::cs)) (w.at d)) :
  Reach P Post W (G (B.at a (.inRegion ops (i::rest)::k)) cs) w:=by
 refine J6 (λw1=>?_) rfl kn;have BO:fn.body.isNone=false:=by rw[OG];rfl
 rw[stepG_enter ho hw hk (run_call_body Ar hf Eb BO),enter_at _ hf OG];have:listed P B.fn a o w1=#[]:=by unfold listed;grind[events_call_body,seen_none]
 rw[this]
def Reach.leave1{P:Program}{fn:Func}{todo:List Item}{ops:Array Oper}{i:Nat}{rest:List Nat}{x:Tmp}(hn:B.kind=.normal)(hd:a.defers=[])(hf:P.funcs[B.fn]?=some fn)(hr:fn.results=#[.tmp x])
  (kn:∀d,Reach P Post W (G (b₀.at (a₀.put ((ops[i]?).bind (·.dst)) (a.tmps.getD x JA)) (.inRegion ops rest::k)) cs) (w.at d)) :
  Reach P Post W (G { B.at a todo with mode:=.returning } (b₀.at a₀ (.inRegion ops (i::rest)::k)::cs)) w:=by
 refine J6 (λw1=>?_) rfl kn
 simp_all[stepG_leave,results_tmp,events_results_tmp,Frame.finish_at]
def Reach.J01b{P:Program}{fn:Func}{todo:List Item}{l:Nat}(hn:B.kind=.normal)(hd:a.defers=[])(hf:P.funcs[B.fn]?=some fn)(hr:fn.results=#[])
  (kn:∀d,Reach P Post W (G (b₀.at a₀ (.endRangeFunc l::k)) cs) (w.at d)) :
  Reach P Post W (G { B.at a todo with mode:=.returning } (b₀.at a₀ (.inRangeFunc l::k)::cs)) w:=by
 refine J6 (λw1=>?_) rfl kn;rw[stepG_leave hn hd hf (results_none hr _ P w1) (events_results_none hr _ _)];simp[Frame.finish,Frame.at]
theorem BOk.ext{E':JB}(h:BOk C S W E w)(e:∀b,E' b↔E b):BOk C S W E' w:=by
 have:E'=E:=funext λb=>propext (e b)
 grind
def Reach.range(Ae:C.st=false)(hB:BOk C S W E w)(ht:TmR C S B.fn (idE E) t t)(EU:B.roundOf=none)(hk:B.kind≠.early){g:Operand}{ps:Array Tmp}{assign body:Code}{f:JG}{fb:JC}{fn:Func}{c:Code}
  (hg:(⟨t,ds⟩:Act).eval g=.func (.func f) #[] fb) (hf:C.P.funcs[f]?=some fn) (Eb:(fn.name == "runtime.NumGoroutine")=false) (OG:fn.body=some c) (ok1:okP C S B.fn assign) (ok2:okP C S B.fn body)
  (kn:∀w',BOk C S W (λb=>(E b\/b=w.heap.size)\/b=w.heap.size+1) w'->w'.heap.size=w.heap.size+2->(∀b,E b->w'.heap[b]?=w.heap[b]?)->w'.heap[w.heap.size]?=some (.deferred (some [])) ->
   w'.heap[w.heap.size+1]?=some (.loop (NI B.fn t ps assign body w.heap.size)) ->
   Reach C.P Post W (G ((base f).at { tmps:=(#[.func (.yield (w.heap.size+1)) #[] #[]]++fb)++Array.replicate (fn.ntmps-(#[Value.func (.yield (w.heap.size+1)) #[] #[]]++fb).size) JA,defers:=[] } [.code c]) (B.at ⟨t,{ target:=.collected w.heap.size,args:=#[] }::ds⟩ (.inRangeFunc (w.heap.size+1)::k)::cs)) w') :
  Reach C.P Post W (G (B.at ⟨t,ds⟩ (.code (.rangeFunc g ps assign body)::k)) cs) w:=by
 generalize hn:w.heap.size=n at *;have hE:∀b,E b->b<n:=λb hb=>hn▸hB.lt hb;refine Reach.hand (f:=λw1=>(w1.alloc (.deferred (some []))).alloc (.loop (NI B.fn t ps assign body w1.heap.size)))
  (g':=G ((base f).at { tmps:=(#[.func (.yield (n+1)) #[] #[]]++fb)++Array.replicate (fn.ntmps-(#[Value.func (.yield (n+1)) #[] #[]]++fb).size) JA,defers:=[] } [.code c]) (B.at ⟨t,{ target:=.collected n,args:=#[] }::ds⟩ (.inRangeFunc (n+1)::k)::cs))
  hB rfl rfl rfl rfl (λw1 r1=>?_) λw1 w2 r1 r2 hW=>?_
 .have AQ:w1.heap.size=n:=hn▸r1.same rfl;refine⟨#[],?_,?_⟩
  .rw[Je7 EU hk hg hf Eb OG,enter_at _ hf OG,AQ]
  .refine⟨by simp;omega,λb hb _=>?_,rfl,rfl,Ad _,λe he=>by simp at he⟩
   grind[Below.heap_alloc]
 .have AQ:w1.heap.size=n:=hn▸r1.same rfl;have Ba:∀b,grown E w1 ((w1.alloc (.deferred (some []))).alloc (.loop (NI B.fn t ps assign body w1.heap.size))) b↔(E b\/b=n)\/b=n+1:=λb=>by
   simp only[grown,World.size_alloc,AQ]
   grind
  have CV:=hB.rely Ae r1;have nW:∀b,W b->b≠n/\b≠n+1:=λb hb=>⟨λe=>hW b hb ((Ba b).2 (.inl (.inr e))),λe=>hW b hb ((Ba b).2 (.inr e))⟩;have Dt:=CV.push Ae (o:=.deferred (some [])) ⟨C.lax Ae _,_,rfl,.nil⟩ λh=>(nW _ h).1 AQ;have Hf:=Dt.push Ae (o:=.loop (NI B.fn t ps assign body w1.heap.size)) ⟨C.lax Ae _,_,rfl,⟨rfl,rfl,rfl,?_,rfl,rfl,rfl,⟨rfl,.inl (.inr rfl)⟩,ok1,ok2,λc hc=>(by cases hc),Ae⟩⟩ λh=>(nW _ h).2 (by simp_all)
  .have KH:=(Hf.ext λb=>(Ba b).trans (by simp_all)).rely Ae r2;have e1:w2.heap.size=n+2:=(r2.same rfl).trans (by simp;omega);have e2:∀b,E b->w2.heap[b]?=w.heap[b]?:=λb hb=>(r2.blocks b ((Ba b).2 (.inl (.inl hb)))).trans ((Below.heap_alloc _ _ b (by have:=hE b hb;simp;omega)).trans ((Below.heap_alloc _ _ b (by grind)).trans (r1.blocks b hb)));have e3:w2.heap[n]?=some (.deferred (some [])):=(r2.blocks n ((Ba n).2 (.inl (.inr rfl)))).trans ((Below.heap_alloc _ _ n (by simp;omega)).trans (by grind[World.alloc_heap_new]));have e4:w2.heap[n+1]?=some (.loop (NI B.fn t ps assign body n)):=(r2.blocks (n+1) ((Ba _).2 (.inr rfl))).trans (by
    grind[World.alloc_heap_new,World.size_alloc])
   exact kn w2 (KH.ext λb=>(Ba b).symm) e1 e2 e3 e4
  .exact⟨rfl,λi x x' hi h1 h2=>(ht.at_ i x x' hi h1 h2).mono λb b' h=>⟨h.1,.inl (.inl h.2)⟩⟩
def J90{w1 w2:JE}(h:w2.heap.size=w1.heap.size)(b:Nat):grown E w1 w2 b↔E b:=by
 simp only[grown,h]
 grind
def Reach.put(Ae:C.st=false)(hB:BOk C S W E w){g g':JF}{D:Nat}{o o':Obj}(hD:E D)(ho:w.heap[D]?=some o)(Em:Kv C (okP C S) (idE E) D o' o')(hr:g.status=.running)(ET:g'.status=.running)(hd:g'.dying=none)(hof:g'.offers=none)
  (hs:∀w1,w1.heap[D]?=some o->stepG C.P true g w1=.go g' (w1.putObj D o') #[⟨.obj D,false,false⟩,⟨.obj D,true,false⟩])
  (kn:∀w',BOk C S W E w'->w'.heap.size=w.heap.size->(∀b,E b->b≠D->w'.heap[b]?=w.heap[b]?)->w'.heap[D]?=some o'->Reach C.P Post W g' w'):Reach C.P Post W g w:=by
 refine Reach.hand (f:=λw1=>w1.putObj D o') hB hr ET hd hof (λw1 r1=>⟨_,hs w1 ((r1.blocks D hD).trans ho),?_⟩) λw1 w2 r1 r2 hW=>?_
 .refine⟨by simp,λb hb hn=>World.putObj_heap_other λe=>hn (e▸hD),rfl,rfl,Ad _,λe he=>?_⟩;simp only[List.mem_toArray,AL,BU,or_false]at he;rcases he with rfl|rfl
  .exact⟨⟨.inl hD,λh=>by cases h⟩,rfl⟩
  .exact⟨⟨.inl hD,λ_=>.inl hD⟩,rfl⟩
 .have Ba:∀b,grown E w1 (w1.putObj D o') b↔E b:=J90 (by simp);have Dt:=(hB.rely Ae r1).put Ae hD Em;have Hf:=(Dt.ext Ba).rely Ae r2;have Ac:D<w1.heap.size:=by have:=bJ ho;have:=r1.same rfl;omega
  exact kn w2 (Hf.ext λb=>(Ba b).symm) ((r2.same rfl).trans (by simpa using r1.same rfl)) (λb hb Ap=>(r2.blocks b ((Ba b).2 hb)).trans ((World.putObj_heap_other Ap).trans (r1.blocks b hb))) ((r2.blocks D ((Ba D).2 hD)).trans (World.putObj_heap_same Ac))
def Reach.Juj(Ae:C.st=false)(hB:BOk C S W E w){l:Nat}{r:Loop}(hl:E l)(h:w.heap[l]?=some (.loop r))(hb:r.state≠.busy)(hp:r.pending=none)(hq:(C.P.funcs[B.fn]?).any (·.norace)=false)
  (kn:∀w',BOk C S W E w'->w'.heap.size=w.heap.size->(∀b,E b->b≠l->w'.heap[b]?=w.heap[b]?)->Reach C.P Post W (G (B.at a k) cs) w') :
  Reach C.P Post W (G (B.at a (.endRangeFunc l::k)) cs) w:=by
 obtain⟨s1,l',e1,e2⟩:=hB.wr.obj l l _ _ ⟨rfl,hl⟩ h h;cases e1;refine Reach.put Ae hB hl h (o':=.loop { r with state:=.exhausted }) ⟨s1,_,rfl,⟨rfl,rfl,rfl,e2.tmps,rfl,rfl,rfl,e2.defers,e2.ok1,e2.ok2,e2.ok3,e2.st⟩⟩ rfl rfl rfl rfl (λw1 h1=>?_) λw' h1 h2 h3 _=>kn w' h1 h2 h3
 grind[Jga]
def Reach.collected(Ae:C.st=false)(hB:BOk C S W E w){D:Nat}{todo:List Item}(hD:E D)(h:w.heap[D]?=some (.deferred (some [])))(hq:(C.P.funcs[B.fn]?).any (·.norace)=false)
  (kn:∀w',BOk C S W E w'->w'.heap.size=w.heap.size->(∀b,E b->b≠D->w'.heap[b]?=w.heap[b]?)->Reach C.P Post W (G { B.at ⟨t,ds⟩ todo with mode:=.returning } cs) w') :
  Reach C.P Post W (G { B.at ⟨t,{ target:=.collected D,args:=#[] }::ds⟩ todo with mode:=.returning } cs) w:=by
 refine Reach.put Ae hB hD h (o':=.deferred none) ⟨C.lax Ae _,_,rfl,trivial⟩ rfl rfl rfl rfl (λw1 h1=>?_) λw' h1 h2 h3 _=>kn w' h1 h2 h3;rw[Je8 hq h1 rfl]
def Reach.Jyl(Ae:C.st=false)(hB:BOk C S W E w){fn:Func}{todo:List Item}{ops:Array Oper}{i:Nat}{rest:List Nat}{x y:Tmp}{tx ty:JH}{bx by_:Nat}{u v:JJ}(hn:B.kind=.normal)(hd:a.defers=[])(hf:C.P.funcs[B.fn]?=some fn)(hq:(C.P.funcs[B.fn]?).any (·.norace)=false)(hr:fn.results=#[.cell x tx,.cell y ty])
  (hx:a.tmps.getD x JA=JL bx) (hy:a.tmps.getD y JA=JL by_) (Ex:E bx) (Ey:E by_)
  (hl:∀w1,(∀b,b=bx\/b=by_->w1.heap[b]?=w.heap[b]?)->(results fn a.tmps).run C.P w1=.ok (.tuple #[u,v]) w1/\∀e∈(results fn a.tmps).events C.P w1 #[],∃ad:Addr,(ad.block=bx\/ad.block=by_)/\e=⟨.cell ad,false,false⟩)
  (kn:∀w',BOk C S W E w'->w'.heap.size=w.heap.size->(∀b,E b->w'.heap[b]?=w.heap[b]?)->Reach C.P Post W (G (b₀.at (a₀.put ((ops[i]?).bind (·.dst)) (.tuple #[u,v])) (.inRegion ops rest::k)) cs) w') :
  Reach C.P Post W (G { B.at a todo with mode:=.returning } (b₀.at a₀ (.inRegion ops (i::rest)::k)::cs)) w:=by
 refine Reach.hand (f:=λw1=>w1) (g':=G (b₀.at (a₀.put ((ops[i]?).bind (·.dst)) (.tuple #[u,v])) (.inRegion ops rest::k)) cs) hB rfl rfl rfl rfl (λw1 r1=>?_) λw1 w2 r1 r2 hW=>?_
 .obtain⟨h1,h2⟩:=hl w1 λb hb=>r1.blocks b (by grind);refine⟨_,by rw[Jam hn hd hf h1,Frame.finish_at],⟨Ad _,λ_ _ _=>rfl,rfl,rfl,Ad _,λe he=>?_⟩⟩;rw[seen_eq hq λe he=>?_]at he
  .obtain⟨ad,h3,rfl⟩:=h2 e he;exact⟨⟨.inl (by grind),λh=>by cases h⟩,rfl⟩
  grind
 .have Ba:∀b,grown E w1 w1 b↔E b:=J90 rfl;have Hf:=((hB.rely Ae r1).ext Ba).rely Ae r2;exact kn w2 (Hf.ext λb=>(Ba b).symm) ((r2.same rfl).trans (r1.same rfl)) λb hb=>(r2.blocks b ((Ba b).2 hb)).trans (r1.blocks b hb)
end
end Go.Sim
namespace Go.Sim.Z
open Go Go.Proofs Go.RowKit Go.Maps Go.Sort Go.Shelf
def b9:Code:=f17.body.getD .skip
def B9:Code:=fC (sC (sC (sC b9)))
def Jx4:Code->Code | .rangeFunc _ _ a _=>a|c=>c
def Jx5:Code->Code | .rangeFunc _ _ _ b=>b|c=>c
def Ve:Code:=Jx4 (bC (sC B9))
def Vf:Code:=Jx5 (bC (sC B9))
def ZN(f:Nat->JJ):((List.range 33).map f).toArray=#[f 0,f 1,f 2,f 3,f 4,f 5,f 6,f 7,f 8,f 9,f 10,f 11,f 12,f 13,f 14,f 15,f 16,f 17,f 18,f 19,f 20,f 21,f 22,f 23,f 24,f 25,f 26,f 27,f 28,f 29,f 30,f 31,f 32]:=by rfl
def Jx6{T:JC}(h:T.size=33):∃f:Nat->JJ,T=((List.range 33).map f).toArray:=⟨_,dM h⟩
structure QC where
 kv:JJ
 rv:JJ
 hv:JJ
 lv:JJ
 g:JD
 B:Bun
def QC.val(q:QC):JJ:=.agg #[q.kv,JK q.B.n,q.rv,q.hv,q.lv]
def QC.cells(q:QC):List JJ:=[q.kv,JK q.B.n,q.rv,q.hv,q.lv]
def QC.slices(q:QC):Prop:=∃a1 l1 c1 a2 l2 c2 a3 l3 c3 a4 l4 c4,q.kv=.slice a1 l1 c1/\q.rv=.slice a2 l2 c2/\q.hv=.slice a3 l3 c3/\q.lv=.slice a4 l4 c4
def J01c:(prog.info? 38).map (λi=>(i.zero,i.size,i.bytes))=some (some (.agg #[.slice none 0 0,JK 0,.slice none 0 0,.slice none 0 0,.slice none 0 0]),5,104):=by kernel_rfl
structure QAt(base:Nat)(T9:JC)(mo ob l D:Nat)(most:Int)(L:List QC)(W:JE):Prop where
 box:∃v,W.heap[ob]?=some (.cells #[v] 42)/\W.ownsRow base 38 5 v L.length (L.flatMap QC.cells)
 lp:W.heap[l]?=some (.loop (NI 17 T9 #[19,20] Ve Vf D))
 mo:W.heap[mo]?=some (.cells #[JK most] 3)
 D:W.heap[D]?=some (.deferred (some []))
def KQ(base l ob:Nat)(W W':JE):Prop:=W.heap.size<=W'.heap.size/\∀b o,W.heap[b]?=some o->b≠l->b≠ob->(base<=b->∀cur,o≠.cells cur 38)->W'.heap[b]?=some o
def YK{base:Nat}{e:JH}{size:Nat}{v:JJ}{n:Nat}{xs:List JJ}{w w':JE}(h:w.ownsRow base e size v n xs)(hh:∀(g:Nat)(cur:JC),w.heap[g]?=some (Obj.cells cur e)->w'.heap[g]?=some (Obj.cells cur e)):w'.ownsRow base e size v n xs:=by
 refine⟨h.1,?_⟩;rcases h.2 with hn|⟨g,cap,cur,rfl,hb,OJ,rest⟩
 .exact .inl hn
 .exact .inr ⟨g,cap,cur,rfl,hb,hh g cur OJ,rest⟩
section
variable{base mo ob l D m:Nat}{f:Nat->JJ}{most:Int}{L:List QC}{W:JE}
def J01d(q:QC)(hq:q.slices)(hJ:QAt base #[f 0,f 1,f 2,f 3,f 4,f 5,f 6,pt mo,f 8,f 9,pt ob,f 11,f 12,f 13,f 14,f 15,f 16,f 17,f 18,f 19,f 20,f 21,f 22,f 23,f 24,f 25,f 26,f 27,f 28,f 29,f 30,f 31,f 32] mo ob l D most L W)(Ac:(L.length:Int)<most)(hn:L.length<=1000)(hb:base<=W.heap.size) :
  YieldAt Fence.wide m prog l #[q.val,.nilIface] W λe W'=>e=.returned (.bool true)/\QAt base #[f 0,f 1,f 2,f 3,f 4,f 5,f 6,pt mo,f 8,f 9,pt ob,f 11,f 12,f 13,f 14,f 15,f 16,f 17,f 18,f 19,f 20,f 21,f 22,f 23,f 24,f 25,f 26,f 27,f 28,f 29,f 30,f 31,f 32] mo ob l D most (L++[q]) W'/\KQ base l ob W W':=by
 obtain⟨i0,hi,EY,DJ,DR⟩:=info_parts J01c;obtain⟨v,hv,Aw⟩:=hJ.box;obtain⟨a1,l1,c1,a2,l2,c2,a3,l3,c3,a4,l4,c4,DI,BX,OM,PY⟩:=hq;refine⟨17,#[f 0,f 1,f 2,f 3,f 4,f 5,f 6,pt mo,f 8,f 9,pt ob,f 11,f 12,f 13,f 14,f 15,f 16,f 17,f 18,q.val,.nilIface,f 21,f 22,f 23,f 24,f 25,f 26,f 27,f 28,f 29,f 30,f 31,f 32],Ve,Vf,by simpa[NI]using run_yield (P:=prog) (args:=#[q.val,.nilIface]) hJ.lp rfl,roundIn_of_wpIn trivial ?_⟩;unfold QC.val;rw[DI,BX,OM,PY];simp only[Ve,Vf,B9,b9,Jx4,Jx5,fC,sC,bC,f17,A8]
 gi_wp2_with gi_round_op_a
 obtain⟨va,vc,rfl⟩:∃va vc,v=.slice va L.length vc:=by
  rcases Aw.2 with⟨rfl,h0⟩|⟨g,cap,cur,rfl,_⟩
  all_goals grind
 obtain⟨W1,AP⟩:∃W1,W.alloc (.cells #[.slice a1 l1 c1,JK q.B.n,.slice a2 l2 c2,.slice a3 l3 c3,.slice a4 l4 c4] 38)=W1:=⟨_,rfl⟩;rw[AP];have Ba:W.grownBy W1 none:=by grind[World.grownBy_alloc]
 have o1:∀b,b<W.heap.size->W1.heap[b]?=W.heap[b]?:=λb h=>by grind[J8]
 have Vt:W1.heap[W.heap.size]?=some (.cells #[.slice a1 l1 c1,JK q.B.n,.slice a2 l2 c2,.slice a3 l3 c3,.slice a4 l4 c4] 38):=by grind[Ja]
 have jA:=Jj hJ.lp;have hol:=Jj hv;have LG:=Jj hJ.mo;have wH:=Jj hJ.D;have AQ:W1.heap.size=W.heap.size+1:=by rw[<- AP];simp
 have jC:=(o1 _ jA).trans hJ.lp;have XT:=(o1 _ hol).trans hv;have Jvr:=(o1 _ LG).trans hJ.mo;have hD1:=(o1 _ wH).trans hJ.D;have jU:=YK Aw λg cur h=>(o1 g (Jj h)).trans h;have OH:=run_beginRound (P:=prog) jC rfl;obtain⟨W2,Dv⟩:∃W2,W1.putObj l (.loop { NI 17 #[f 0,f 1,f 2,f 3,f 4,f 5,f 6,pt mo,f 8,f 9,pt ob,f 11,f 12,f 13,f 14,f 15,f 16,f 17,f 18,f 19,f 20,f 21,f 22,f 23,f 24,f 25,f 26,f 27,f 28,f 29,f 30,f 31,f 32] #[19,20] Ve Vf D with state:=.busy })=W2:=⟨_,rfl⟩;rw[Dv]at OH;have Bo:W2.heap.size=W.heap.size+1:=by rw[<- Dv];simp[AQ]
 have o2:∀b,b≠l->W2.heap[b]?=W1.heap[b]?:=λb h=>by grind[World.putObj_heap_other]
 have dN:∀{b o},W1.heap[b]?=some o->(∀r,o≠.loop r)->b≠l:=λh hn e=>by
  grind
 have Jvs:=dN XT (by simp);have Rj:=dN Vt (by simp);have Jvt:=dN Jvr (by simp);have Jvu:=dN hD1 (by simp);have GH:=(o2 _ Rj).trans Vt;have Iw:=(o2 _ Jvs).trans XT;have Jvv:=(o2 _ Jvt).trans Jvr;have hD2:=(o2 _ Jvu).trans hD1;have hlp2:W2.heap[l]?=some (.loop { NI 17 #[f 0,f 1,f 2,f 3,f 4,f 5,f 6,pt mo,f 8,f 9,pt ob,f 11,f 12,f 13,f 14,f 15,f 16,f 17,f 18,f 19,f 20,f 21,f 22,f 23,f 24,f 25,f 26,f 27,f 28,f 29,f 30,f 31,f 32] #[19,20] Ve Vf D with state:=.busy }):=by grind[World.putObj_heap_same]
 have Oh:=YK jU λg cur h=>(o2 g (dN h (by simp))).trans h;have J08f:∀cur,W2.heap[ob]?≠some (.cells cur 38):=λcur h=>by grind
 have k0:=(cell_of GH 0).trans rfl;have k1:=(cell_of GH 1).trans rfl;have k2:=(cell_of GH 2).trans rfl;have k3:=(cell_of GH 3).trans rfl;have k4:=(cell_of GH 4).trans rfl;have kob:=(cell_of Iw 0).trans rfl;have kmo:=(cell_of Jvv 0).trans rfl;have Ap:¬(L.length:Int)=most:=by omega
 have jF:maxLen=9223372036854775807:=by decide
 generalize hBx:W.heap.size=Bx at *;have D7:some ob≠(Value.slice va L.length vc).ownBlock:=by
  grind[ownsRow_ne_a]
 have Dk:base<=W2.heap.size:=by omega
 have hs2':Hid (W2.heap.size=Bx+1):=Bo;clear Bo AQ;refine⟨W2,OH,?_⟩
 gi_wp2_with (first
  |(gi_at_builtin;refine wpListIn_append_own _ rfl _ _ 42 rfl base 38 i0 _ 5 104 underlying42 hi EY DJ DR rfl (by decide) _ L.length _ rfl (YK Oh λg cur h=>(J8 _ (Jj h)).trans h) ⟨W2.heap.size,0,none⟩ 1 1 [.slice a1 l1 c1,.int .i64 q.B.n,.slice a2 l2 c2,.slice a3 l3 c3,.slice a4 l4 c4] rfl rfl J8f (by simp[Value.oneCell']) (by omega) (by omega) (by rw[size_alloc];omega) ?_;intro v' w3 V3 Gt jO
    have uI:w3.heap[ob]?=some (.cells #[.slice va L.length vc] 42):=(Gt.block ob (by grind[size_alloc,Jj]) D7).trans ((J8 _ (Jj Iw)).trans Iw);have kob3:=(cell_of uI 0).trans rfl;have qob3:=FZ uI 0;obtain⟨zC,zF,rfl⟩:∃zC zF,v'=.slice zC (L.length+1) zF:=by
     rcases V3.2 with⟨rfl,h0⟩|⟨g,cap,cur,rfl,_⟩
     all_goals grind)
  |gi_round_op_a)
 have hb2s:W2.heap.size=Bx+1:=hs2';have Gt:=(show World.grownBy _ w3 (Value.slice va L.length vc).ownBlock from Gt);have tN:∀(b:Nat)(o:Obj),W2.heap[b]?=some o->(∀cur,o≠.cells cur 38)->w3.heap[b]?=some o:=λb o h hn=>by
  refine(Gt.block b (by grind[size_alloc,Jj]) ?_).trans ((J8 _ (Jj h)).trans h);rcases ownsRow_ne_a Oh h hn with h1|h1
  all_goals grind
 have Juk:=tN l _ hlp2 (by simp);have Jvw:=tN mo _ Jvv (by simp);have hD3:=tN D _ hD2 (by simp);have hg3s:=Gt.size;rw[size_alloc]at hg3s;obtain⟨W4,PS⟩:∃W4,w3.setCell ⟨ob,0,none⟩ (.slice zC (L.length+1) zF)=W4:=⟨_,rfl⟩;rw[PS];have o4:∀b,b≠ob->W4.heap[b]?=w3.heap[b]?:=λb h=>by grind[Jm]
 have hob4:W4.heap[ob]?=some (.cells #[.slice zC (L.length+1) zF] 42):=by rw[<- PS,heap_set uI];rfl
 have XK:W4.heap.size=w3.heap.size:=by grind[size_set]
 have uJ:∀{b:Nat}{o:Obj},w3.heap[b]?=some o->(∀cur,o≠.cells cur 42)->b≠ob:=λh hn e=>by
  grind
 have Jvx:=(o4 _ (uJ Juk (by simp))).trans Juk;refine⟨_,_,run_endRound none Jvx,rfl,⟨⟨_,(World.putObj_heap_other Jvs).trans hob4,?_⟩,World.putObj_heap_same (Jj Jvx),(World.putObj_heap_other Jvt).trans ((o4 _ (uJ Jvw (by simp))).trans Jvw),(World.putObj_heap_other Jvu).trans ((o4 _ (uJ hD3 (by simp))).trans hD3)⟩,?_,λb o hb hl ho h39=>?_⟩
 .have h5:=YK V3 (w':=W4.putObj l (.loop { { NI 17 #[f 0,f 1,f 2,f 3,f 4,f 5,f 6,pt mo,f 8,f 9,pt ob,f 11,f 12,f 13,f 14,f 15,f 16,f 17,f 18,f 19,f 20,f 21,f 22,f 23,f 24,f 25,f 26,f 27,f 28,f 29,f 30,f 31,f 32] #[19,20] Ve Vf D with state:=.busy } with state:=if(none:Option Code).isNone then .ready else .done,pending:=none })) λg cur h=>(World.putObj_heap_other λe=>by grind).trans ((o4 g (uJ h (by simp))).trans h);have e:(L++[q]).flatMap QC.cells=L.flatMap QC.cells++[.slice a1 l1 c1,JK q.B.n,.slice a2 l2 c2,.slice a3 l3 c3,.slice a4 l4 c4]:=by simp[QC.cells,DI,BX,OM,PY]
  grind
 .rw[World.putObj_size];omega
 .rw[World.putObj_heap_other hl,o4 b ho];have Dv:W2.heap[b]?=some o:=by
   grind
  rcases BF b base with Ac|Et
  .refine(Gt.block b (by grind[size_alloc,Jj]) ?_).trans ((J8 _ (Jj Dv)).trans Dv);rcases Oh.2 with⟨e,_⟩|⟨g,cap,cur,e,xC,_⟩
   .rw[e];simp[Value.ownBlock]
   .rw[e];simp only[Value.ownBlock,ne_eq,Cb];omega
  .exact tN b o Dv (h39 Et)
end
end Go.Sim.Z
end
