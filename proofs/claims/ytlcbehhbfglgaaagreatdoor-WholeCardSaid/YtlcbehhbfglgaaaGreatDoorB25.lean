/- Proved: laws for the claim. No conditions. -/
import Derived.Lib.SlFresh
import Derived.Test.YtlcbehhbfglgaaaGreatDoorB09
import Derived.Test.YtlcbehhbfglgaaaGreatDoorB16
import Derived.Test.YtlcbehhbfglgaaaGreatDoorB24
set_option linter.all false
set_option maxHeartbeats 4000000
set_option maxRecDepth 100000
open Go.Proofs.Tryz
noncomputable section
namespace Go.Sim.Z
open Go Go.Proofs Go.RowKit
def J09k{a b:List Je}(h:a.Perm b):sortK a=sortK b:=by
 have tr:∀x y z:Je,(!ltOf Vb y x)=true->(!ltOf Vb z y)=true->(!ltOf Vb z x)=true:=λx y z h1 h2=>by simp only[Bool.not_eq_true']at h1 h2 ⊢;exact swoK.ntrans z y x h2 h1
 have tot:∀x y:Je,((!ltOf Vb y x) || (!ltOf Vb x y))=true:=λx y=>by
  cases h1:ltOf Vb y x with
  |false=>rfl
  |true=>
   cases h2:ltOf Vb x y with
   |false=>rfl
   |true=>
    have:=swoK.trans y x y h1 h2;rw[swoK.irrefl]at this;cases this
 have s1:=List.pairwise_mergeSort (le:=λx y=>!ltOf Vb y x) tr tot a;have s2:=List.pairwise_mergeSort (le:=λx y=>!ltOf Vb y x) tr tot b;refine List.Perm.eq_of_pairwise (λx y _ _ h1 h2=>?_) s1 s2 (((List.mergeSort_perm a _).trans h).trans (List.mergeSort_perm b _).symm)
 grind[Bool.not_eq_true',Jvn]
section
variable{T T':List TR}{ks mD:List Je}
def J07p(hn:(T.map (·.k)).Nodup)(KO:(T'.map (·.k)).Nodup)(h:∀k,tm T k=tm T' k):(T.map (·.k)).Perm (T'.map (·.k)):=by
 have key:∀{A B:List TR},(A.map (·.k)).Nodup->(∀k,tm A k=tm B k)->∀k,k∈A.map (·.k)->k∈B.map (·.k):=λhA h k hk=>by
  obtain⟨t,ht,rfl⟩:=AZ.1 hk;have:=TJ hA ht;rw[h]at this;obtain⟨s,T1,T2,rfl,hs,_⟩:=Qk this
  grind
 grind
def keysOf_eq(hn:(T.map (·.k)).Nodup)(KO:(T'.map (·.k)).Nodup)(h:∀k,tm T k=tm T' k)(hk:keysOf (T.map TR.kv) ks)(D6:keysOf (T'.map TR.kv) mD):ks=mD:=by
 obtain⟨a,ha,rfl⟩:=hk;obtain⟨b,hb,rfl⟩:=D6;refine J09k ?_;have h1:(a.map (·.1)).Perm (b.map (·.1)):=by
  have e1:(a.map (·.1)).Perm (T.map (·.k)):=by have h2:(a.map (·.1)).Perm ((T.map TR.kv).map (·.1)):=ha;rw[List.map_map]at h2;exact h2
  have e2:(b.map (·.1)).Perm (T'.map (·.k)):=by have h2:(b.map (·.1)).Perm ((T'.map TR.kv).map (·.1)):=hb;rw[List.map_map]at h2;exact h2
  exact(e1.trans (J07p hn KO h)).trans e2.symm
 have nd:∀{l:List Je},(l.map (·.1)).Nodup->l.Nodup:=λ{l} hl=>by
  grind
 have na:(a.map (·.1)).Nodup:=by have h2:(a.map (·.1)).Perm ((T.map TR.kv).map (·.1)):=ha;rw[List.map_map]at h2;exact h2.nodup_iff.2 hn
 grind[List.mem_map_of_mem,Subtype.ext,List.perm_ext_iff_of_nodup]
def J0a7{c c':J7}{seed:Int}{bs:JD}(hn:(T.map (·.k)).Nodup)(KO:(T'.map (·.k)).Nodup)(h:∀k,tm T k=tm T' k)(hk:keysOf (T.map TR.kv) ks)(D6:keysOf (T'.map TR.kv) mD)(hc:LY c seed=LY c' seed):pX c seed bs T (ks.map (·.1))=pX c' seed bs T' (mD.map (·.1)):=by
 rw[keysOf_eq hn KO h hk D6];have hr:rowB T=rowB T':=funext λx=>by unfold rowB;rw[h x]
 have hl:T.length=T'.length:=by simpa using(J07p hn KO h).length_eq
 unfold pX Pv
 grind
end
open Go.Conc Go.Maps
def J09x{c:J7}{hs:Int->Int}{fs:List Jd}{S:List TR}(h:O3 c hs fs S)(hf:∀f∈fs,BI f.k∈U64):∀t∈S,t.k∈U64:=λt ht=>by obtain⟨_,f,h1,h2⟩:=nZ h.nd h.all ht;rw[<- h2,J02a (h.n3 f h1)];exact hf f h1
section
variable{X W E E':JB}{w w' wb:JE}{y:Nat}{c:J7}{seed nf:Int}{h:JJ}{hs:Int->Int}{vm base:Nat}{S:List TR}{ga:JI}{fs g0:List Jd}{cap:Nat}{pl:List Nat}
def FK.ke(q:FK X E w y c seed h hs nf vm base S)(k:KE E w w')(hH:E prog.globals.size)(hE:∀b,E b->E' b):FK X E' w' y c seed h hs nf vm base S:=by obtain⟨b2,c2,b1,b3,b4⟩:=q.bnd;exact⟨q.q.ke k hH hE,q.hash.ke k (λb hb=>(q.hb b hb).1),λb hb=>⟨hE b (q.hb b hb).1,(q.hb b hb).2⟩,⟨b2,c2,b1,b3.keE k (q.q.bE _ b1).1,b4⟩,q.nb,q.dX,q.dV,q.new,q.far⟩
def FK.ing(q:FK X E w y c seed h hs nf vm base S)(hB:BOk C0 S0 W E w)(fa:G8 false w ga fs cap pl)(D8:∀b∈pl,b≠y/\b≠base/\b∉tpl S)(IQ:∀f∈fs,RH f/\BI f.k∈U64)(Ih:fs.length<=200)(h0:0<=nf/\nf<=2000)(hTU:∀t∈S,t.k∈U64)(τ:Nat->Question->Nat):Jx1 (w.tp τ 0) y c seed h nf vm base S ga fs cap pl hs Dc U64:=by
 obtain⟨b2,c2,b1,b3,b4⟩:=q.bnd;have lt:∀b,E b->b<w.heap.size:=λb hb=>hB.lt hb;exact{
  q:=q.q.cube.kept rfl rfl
  tab:=q.q.tab.kept λ_ _=>rfl
  fsa:=fa.kept λ_ _=>rfl
  okf:=λg hg=>(IQ g hg).1
  bnd:=.inr ⟨b2,c2,b1,Row.kept b3 rfl⟩
  bsl:=by rw[q.nb];rfl
  so:=aK
  cfg:=q.q.cfg
  hsr:=q.hash.bd
  one:=λw1 t item at_=>I8.calls (q.hash.kept λb s hb hc=>(t.heap b (lt b (q.hb b hb).1) λh=>h).trans hc) ((q.q.cube.kept (w':=w.tp τ 0) rfl rfl).kept (t.heap y q.q.cube.blk.lt λh=>h) (t.heap vm q.q.cube.vs.lt λh=>h)) item at_
  dF:=λb hb=>⟨(D8 b hb).2.1,(D8 b hb).2.2,(D8 b hb).1⟩
  dX:=q.dX
  dV:=q.dV
  dB:=λa ha=>by rw[b1]at ha;cases ha;exact⟨b4.2.1,b4.2.2,lt b2 (q.q.bE _ b1).1,b4.1⟩
  n1:=by omega
  nf0:=h0.1
  nf1:=by omega
  hU:=λg hg=>(IQ g hg).2
  hTU:=hTU
  hUn:=by rw[Jz0];omega }
def FK.J090(q:FK X E w y c seed h hs nf vm base S)(XH:X prog.globals.size)(XE:∀b,X b->E b)(hB:BOk C0 S0 W E w)(le:∀b,E b->E' b)(hH:E' prog.globals.size)(hW:WR C0 (okP C0 S0) (idE E') wb w'){τ:Nat->Question->Nat}(o:eF (w.tp τ 0) y c seed h nf vm base S hs Dc fs wb)(tf:O3 c hs g0 S)(hn:(g0++fs).length<=400)(h3:∀f∈fs,f.k.length=3) :
  ∃S',FK X E' w' y c seed h hs (nf+fs.length) vm base S'/\O3 c hs (g0++fs) S'/\KE (λb=>E b/\b≠y/\b≠base/\b∉tpl S) w w'/\∀b∈tpl S',(b=base\/b∈tpl S)\/w.heap.size<=b:=by
 obtain⟨oq,⟨T',tab,hT',D8⟩,oh⟩:=o;obtain⟨b2,c2,b1,b3,b4⟩:=q.bnd;have l:=Jt rfl hW;have lt:∀b,E b->b<w.heap.size:=λb hb=>hB.lt hb;have keep:∀b,E b->b≠y->b≠base->b∉tpl S->wb.heap[b]?=w.heap[b]?:=λb hb h1 h2 h4=>oh.heap b (lt b hb) λh=>by
  grind
 have lU:∀b,E b->b≠base->b∉tpl S->b∉tpl T':=λb hb h1 h2 h4=>by
  rcases D8 b (.inr h4)with(h|h)|h
  .exact h1 h
  .exact h2 h
  .have:w.heap.size<=b:=h
   grind
 have tf':O3 c hs (g0++fs) T':=⟨tab.nodup,λk=>(hT' k).trans (Jrt (c:=c) (bs:=Dc) (hs:=hs) (fs:=fs) (g0:=g0) 7 (g:=tm S) tf.all k),λf hf=>(Gn.1 hf).elim (tf.n3 f) (h3 f),hn⟩;have nx:=q.new _ XH;have hH0:E prog.globals.size:=hB.hnd;have yT:HOk wb:=q.q.hok.ke (E:=λb=>b=prog.globals.size) (KE.of_eq λb hb=>by
  grind) rfl
 have e2:E b2:=(q.q.bE _ b1).1;have q5:NJ E' w' y c seed h (nf+fs.length) vm base T':=by
  refine NJ.Oq hW oq tab yT hH (le y q.q.xE.1) (λz hz=>?_) (λa ha=>?_) q.q.cfg (by have:=tf'.len;omega)
  .rcases D8 z hz with hz|hz
   .exact(q.q.tE z hz).2
   .have h1:w.heap.size<=z:=hz
    grind
  .obtain⟨-,h2,arr,t,h5,h6⟩:=q.q.bE a ha;rw[b1]at ha;cases ha;exact⟨h2,arr,t,h5.kept (keep b2 e2 b4.1 b4.2.1 b4.2.2),h6⟩
 have ly:=q.q.xE;have eb:E base:=(q.q.tE _ (.inl rfl)).1;refine⟨T',{ q:=q5,hash:=?_,hb:=λb hb=>?_,bnd:=⟨b2,c2,b1,?_,b4.1,b4.2.1,lU b2 e2 b4.2.1 b4.2.2⟩,nb:=q.nb,dX:=⟨q.dX.1,lU y ly.1 q.dX.1 q.dX.2⟩,dV:=⟨q.dV.1,lU vm ly.2 q.dV.1 q.dV.2.1,q.dV.2.2⟩,new:=λb hb=>⟨(q.new b hb).1,(q.new b hb).2.1,lU b (XE b hb) (q.new b hb).2.1 (q.new b hb).2.2⟩,far:=q.far },tf',(KE.of_eq λb hb=>keep b hb.1 hb.2.1 hb.2.2.1 hb.2.2.2).trans (l.mono λb hb=>le b hb.1),λb hb=>D8 b (.inr hb)⟩
 .exact(q.hash.kept λb s hb hc=>(keep b (q.hb b hb).1 (q.hb b hb).2.1 (q.hb b hb).2.2.1 (q.hb b hb).2.2.2).trans hc).ke l λb hb=>le b (q.hb b hb).1
 .grind[hb]
 .exact(b3.kept (keep b2 e2 b4.1 b4.2.1 b4.2.2)).keE l (le b2 e2)
end
section
variable{fn:JG}{W E:JB}{w:JE}{t:JC}{c:Code}{rest:Code}{k:List Item}{cs:List Frame}{Post:(JB)->JF->JE->Prop}
end
def jW(c c':J7):Prop:=c.bits=c'.bits/\c.K=c'.K/\c.nb=c'.nb
def J06x{c c':J7}(h:jW c c')(bs:JD)(A:List (Int × Int)):FP c bs A=FP c' bs A:=by obtain⟨b,k,ba,nb,cb⟩:=c;obtain⟨b',k',WH,lT,cb'⟩:=c';obtain⟨rfl,rfl,rfl⟩:=h;rfl
section
variable{c c':J7}{hs:Int->Int}{fs gs:List Jd}{S S' A B:List TR}{m:Nat}
def J07d(h:fs.Perm gs)(k:JD):(sel hs m k fs).Perm (sel hs m k gs):=(h.filter _).map _
theorem O3.same(hx:O3 c hs fs S)(hy:O3 c' hs gs S')(Ui:jW c c')(hp:fs.Perm gs)(hc:CZ c)(BL:c.nb=4)(hh:∀y,0<=hs y/\hs y<=18446744073709551615):∀k,tm S k=tm S' k:=λk=>by rw[hx.all,hy.all,<- J06x Ui];exact Jrr hc (by rw[BL];rfl) aK (Jrs hh 7 k) (J07d hp k)
def O3.cmp(hx:O3 c hs fs S)(hy:O3 c' hs gs S')(Ui:jW c c')(hp:fs.Perm gs)(hc:CZ c)(MG:CZ c')(BL:c.nb=4)(hh:∀y,0<=hs y/\hs y<=18446744073709551615)(hA:Sum c (tm A) (Gg S m (λ_=>true)))(hB:Sum c' (tm B) (Gg S' m (λ_=>true))):∀k,tm A k=tm B k:=λk=>by rw[hx.sum hc BL hh hA,hy.sum MG (by rw[<- Ui.2.2];exact BL) hh hB,<- J06x Ui];exact Jrr hc (by rw[BL];rfl) aK (Jrs hh m k) (J07d hp k)
end
abbrev iT:=Jd × Nat × Nat
def dR(p:iT):List JJ:=[JM p.2.1 p.1.k.length p.2.2,JK p.1.it,JK p.1.v]
structure dU(w:JE)(base:Nat)(pl:List Nat)(v:JJ)(L:List iT):Prop where
 own:w.ownsRow base 50 3 v L.length (L.flatMap dR)
 rows:∀p∈L,p.2.1∈pl/\Row false w p.2.1 3 .i64 p.1.k p.2.2
def J07q:∀(L:List iT)(i:Nat)(p:iT),L[i]?=some p->∀j,j<3->(L.flatMap dR)[i*3+j]?=(dR p)[j]?
 |[],i,p,h,_,_=>by simp at h
 |q::L,0,p,h,j,hj=>by
  simp at h;subst h;rw[List.flatMap_cons,List.getElem?_append_left (by simp[dR];omega)];simp
 |q::L,i+1,p,h,j,hj=>by rw[List.getElem?_cons_succ]at h;rw[List.flatMap_cons,List.getElem?_append_right (by simp[dR];omega)];have:=J07q L i p h j hj;rw[show(i+1)*3+j-(dR q).length=i*3+j by simp[dR];omega];exact this
theorem dU.at{w:JE}{base:Nat}{pl:List Nat}{v:JJ}{L:List iT}(h:dU w base pl v L):∃ga cap yU,v=.slice ga L.length cap/\G8 false w ga (L.map (·.1)) cap yU/\∀y∈yU,y∈pl\/base<=y:=by
 rcases h.own.2 with⟨rfl,h0⟩|⟨g,cap,cur,rfl,hb,hg,h1,h2,h3,h4⟩
 .have:L=[]:=List.eq_nil_of_length_eq_zero h0;subst this;exact⟨none,0,[],rfl,⟨λx hx=>(by cases hx),λi f hf=>(by simp at hf),(by simp)⟩,λy hy=>(by cases hy)⟩
 .refine⟨some ⟨g,0,none⟩,cap,g::L.map (·.2.1),rfl,⟨λx hx=>?_,λi f hf=>?_,by grind⟩,λy hy=>?_⟩
  .rcases AL.1 hx with rfl|hx
   .grind
   .obtain⟨p,hp,rfl⟩:=AZ.1 hx;exact(h.rows p hp).2.lt
  .rw[List.getElem?_map]at hf;cases hp:L[i]? with
   |none=>grind
   |some p=>
    rw[hp]at hf;cases hf;have hm:=NR hp;have Ac:i<L.length:=(List.getElem?_eq_some_iff.1 hp).1;have e:∀j,j<3->w.cell? ⟨g,i*3+j,none⟩=(dR p)[j]?:=λj hj=>by rw[cell_of hg,<- J07q L i p hp j hj,<- h4,List.getElem?_take_of_lt (by omega)];simp
    exact⟨g,p.2.1,p.2.2,rfl,by simp,List.mem_cons_of_mem _ (AZ.2 ⟨p,hm,rfl⟩),e 0 (by omega),e 1 (by omega),e 2 (by omega),(h.rows p hm).2⟩
  .rcases AL.1 hy with rfl|hy
   .exact .inr hb
   .obtain⟨p,hp,rfl⟩:=AZ.1 hy;exact .inl (h.rows p hp).1
def J087{W:JE}{x0 x1 x2:JJ}{t:JH}:∀j u,([x0,x1,x2]:List JJ)[j]?=some u->(W.alloc (.cells #[x0,x1,x2] t)).cell? ((⟨W.heap.size,0,none⟩:Addr).add j)=some u:=λj u h=>by
 simp_all[add0,cell_of,Ja]
def G8.take{fr:Bool}{w:JE}{ga:JI}{fs:List Jd}{cap:Nat}{pl:List Nat}(h:G8 fr w ga fs cap pl)(k:Nat):G8 fr w ga (fs.take k) cap pl:=
 ⟨h.lt,λi f hf=>h.at_ i f (by grind),by rw[List.length_take];have:=h.cap;omega⟩
def uP:∀L:List iT,(L.flatMap dR).length=3*L.length
 |[]=>rfl
 |p::L=>by rw[List.flatMap_cons,List.length_append,uP L,Lh];simp[dR];omega
def G8.facs{w:JE}{g:Nat}{fs:List Jd}{cap:Nat}{pl:List Nat}(h:G8 false w (some ⟨g,0,none⟩) fs cap pl) :
  ∃M:List iT,M.map (·.1)=fs/\(∀p∈M,p.2.1∈pl/\Row false w p.2.1 3 .i64 p.1.k p.2.2)/\∀j u,(M.flatMap dR)[j]?=some u->w.cell? ⟨g,j,none⟩=some u:=by
 suffices H:∀n,n<=fs.length->∃M:List iT,M.map (·.1)=fs.take n/\(∀p∈M,p.2.1∈pl/\Row false w p.2.1 3 .i64 p.1.k p.2.2)/\∀j u,(M.flatMap dR)[j]?=some u->w.cell? ⟨g,j,none⟩=some u by
  have:=H fs.length (Ad _)
  grind
 intro n
 induction n with
 |zero=>simp_all
 |succ n ih=>
  intro hn;obtain⟨M,h1,h2,h3⟩:=ih (by omega);have hq:fs[n]?=some (fs[n]'(by omega)):=DL _;obtain⟨g',kb,kc,e,hg,SV,c0,c1,c2,Aj⟩:=h.at_ n _ hq;cases e;have hl:M.length=n:=by have:=congrArg List.length h1;grind
  refine⟨M++[(fs[n]'(by omega),kb,kc)],by simp_all,λp hp=>?_,λj u hu=>?_⟩
  .grind
  .rw[List.flatMap_append]at hu;rcases BF j (M.flatMap dR).length with hj|hj
   .grind
   .rw[List.getElem?_append_right hj]at hu;rw[uP,hl]at hj hu;obtain⟨i,rfl⟩:∃i,j=n*3+i:=⟨j-3*n,by omega⟩;rw[show n*3+i-3*n=i by omega]at hu
    match i,hu with
    |0,hu=>cases hu;exact c0
    |1,hu=>cases hu;exact c1
    |2,hu=>cases hu;exact c2
    |i+3,hu=>simp[dR]at hu
def dU.app{w:JE}{base:Nat}{pl:List Nat}{v:JJ}{L:List iT}(h:dU w base pl v L)(hb:base<=w.heap.size)(M:List iT)(hn:L.length+M.length<=1000)(hr:∀p∈M,p.2.1∈pl/\Row false w p.2.1 3 .i64 p.1.k p.2.2)(s:Addr)(c:Nat)
  (hs:∀j u,(M.flatMap dR)[j]?=some u->w.cell? (s.add j)=some u) (ty:JH) :
  ∃v' w',(Builtin.append_ #[28,28] ty #[v,.slice (some s) M.length c]).run prog w=.ok v' w'/\dU w' base pl v' (L++M)/\Tch base M0 w w'/\∀b,b<w.heap.size->v.ownBlock≠some b->w'.heap[b]?=w.heap[b]?:=by
 obtain⟨i0,hi,EY,DJ,DR⟩:=info_parts qL;have e:maxLen=9223372036854775807:=by decide
 obtain⟨v',w',r1,r2,r3,_⟩:=run_append_own_at (P:=prog) (w:=w) base 28 ty 50 i0 _ 3 40 underlying28 hi EY DJ DR rfl (by omega) v L.length _ h.own s M.length c (M.flatMap dR) (by rw[uP];omega) hs (λu hu=>by
  obtain⟨p,_,hp⟩:=List.mem_flatMap.1 hu;simp only[dR,AL,BU,or_false]at hp;rcases hp with rfl|rfl|rfl<;>rfl) (by omega) (by omega) hb
 have XD:∀b,v.ownBlock=some b->base<=b/\∃cur,w.heap[b]?=some (.cells cur 50):=λb hb=>by
  rcases h.own.2 with⟨rfl,_⟩|⟨g,cap,cur,rfl,xC,hg,_⟩
  .cases hb
  .cases hb;grind
 have kept:∀{b:Nat}{xs:JD}{q:Nat},Row false w b 3 .i64 xs q->Row false w' b 3 .i64 xs q:=λ{b xs q} Aj=>Aj.kept (r3.block b Aj.lt λe=>by
  obtain⟨_,cur,hc⟩:=XD b e.symm;obtain⟨arr,⟨z,hz,OX⟩,_⟩:=Aj
  grind)
 refine⟨v',w',r1,⟨by grind,λp hp=>?_⟩,⟨by have:=r3.size;omega,λb hb _=>r3.block b (by omega) λe=>?_,r3.tape,r3.os,r3.output⟩,λb hb hv=>r3.block b hb (Ne.symm hv)⟩
 .rcases Gn.1 hp with hp|hp
  .exact⟨(h.rows p hp).1,kept (h.rows p hp).2⟩
  grind
 grind
theorem append_empty{w:JE}{a b:JI}{n c c2:Nat}(ty:JH)(h:n<=c):(Builtin.append_ #[28,28] ty #[.slice a n c,.slice b 0 c2]).run prog w=.ok (.slice a n c) w:=by cases a<;>cases b<;>simp[Builtin.append_,Builtin.firstCells,Builtin.lenOf,storeCells,loadCells,underlying28,go_sem,h]
def dU.appG{w:JE}{base:Nat}{pl pg:List Nat}{v:JJ}{L:List iT}{ga a':JI}{gs:List Jd}{cg i j:Nat}(h:dU w base pl v L)(hb:base<=w.heap.size)(fa:G8 false w ga gs cg pg)(hp:∀p∈pg,p∈pl)(hi:i<=j)(hj:j<=gs.length)(hn:L.length+gs.length<=1000)(ha:i<j->a'=ga.map (·.add (i*3)))(c:Nat)(ty:JH) :
  ∃v' w' N,(Builtin.append_ #[28,28] ty #[v,.slice a' (j-i) c]).run prog w=.ok v' w'/\N.map (·.1)=(gs.drop i).take (j-i)/\dU w' base pl v' (L++N)/\Tch base M0 w w'/\∀b,b<w.heap.size->v.ownBlock≠some b->w'.heap[b]?=w.heap[b]?:=by
 rcases Nat.eq_or_lt_of_le hi with rfl|h0
 .obtain⟨ga',cap,yU,rfl,hA,_⟩:=h.at;have hc:=hA.cap;rw[FQ]at hc;exact⟨_,w,[],by rw[Nat.sub_self];exact append_empty ty hc,by simp,by grind,.refl,λ_ _ _=>rfl⟩
 .obtain rfl:=ha h0;obtain⟨g,kb,kc,rfl,_⟩:=fa.at_ 0 _ (DL (by omega));obtain⟨M,m1,m2,m3⟩:=fa.facs;have hl:M.length=gs.length:=by grind
  have Eu:((M.drop i).take (j-i)).length=j-i:=by grind
  have hm:∀p∈(M.drop i).take (j-i),p∈M:=λp hp=>List.mem_of_mem_drop (List.mem_of_mem_take hp);have key:∀(q:Nat)(u:JJ),(((M.drop i).take (j-i)).flatMap dR)[q]?=some u->(M.flatMap dR)[i*3+q]?=some u:=λq u hu=>by have e:=List.take_append_drop i M;rw[<- e,List.flatMap_append,List.getElem?_append_right (by rw[uP,List.length_take];omega),uP,List.length_take,show i*3+q-3*min i M.length=q by omega,<- List.take_append_drop (j-i) (M.drop i),List.flatMap_append,List.getElem?_append_left (List.getElem?_eq_some_iff.1 hu).1];exact hu
  have ad:∀o j:Nat,(⟨g,o,none⟩:Addr).add j=⟨g,o+j,none⟩:=λo j=>by unfold Addr.add;grind
  obtain⟨v',w',r1,r2,r3⟩:=h.app hb ((M.drop i).take (j-i)) (by omega) (λp q=>⟨hp _ (m2 p (hm p q)).1,(m2 p (hm p q)).2⟩) ((⟨g,0,none⟩:Addr).add (i*3)) c (λq u hu=>by
   grind) ty
  grind[List.map_take,List.map_drop]
def J091{w:JE}{ga:JI}{n c k:Nat}(hk:k<=n):(Instr.slice 28 (.slice ga n c) (some (JK k)) none none).run prog w=.ok (.slice (if c=k then ga else ga.map (·.add (k*3))) (n-k) (c-k)) w:=by
 obtain⟨i0,hi,EY,DJ,DR⟩:=info_parts qL;have hz:(sizeOf 50).run prog w=.ok 3 w:=by
  simp_all
 have D6:(k:Int)<=n:=by omega
 simp[Instr.slice,Instr.sliceBounds,Instr.sliceBound,asIntOf,underlying28,go_sem,hz,D6,hk]
def FsE(E:JB)(w:JE)(ga:JI)(fs:List Jd)(cap:Nat):Prop:=∃pl,(∀p∈pl,E p/\∃o,w.heap[p]?=some o/\Dat o)/\G8 false w ga fs cap pl
def FsE.ke{E:JB}{w w':JE}{ga:JI}{fs:List Jd}{cap:Nat}(h:FsE E w ga fs cap)(k:KE E w w'):FsE E w' ga fs cap:=by
 obtain⟨pl,hp,fa⟩:=h;refine⟨pl,λp V4=>?_,fa.kept λp V4=>?_⟩
 .obtain⟨q1,o,q2,q3⟩:=hp p V4;exact⟨q1,o,k _ _ q1 q2 q3,q3⟩
 .obtain⟨q1,o,q2,q3⟩:=hp p V4;rw[q2,k _ _ q1 q2 q3]
def dU.ke{E:JB}{w w':JE}{base:Nat}{pl:List Nat}{v:JJ}{L:List iT}(h:dU w base pl v L)(k:KE E w w')(hv:VR C0 (idE E) v v)(hp:∀p∈pl,E p):dU w' base pl v L:=by obtain⟨⟨h1,h2⟩,h3⟩:=h;refine⟨⟨h1,h2.imp id ?_⟩,λp V4=>⟨(h3 p V4).1,(h3 p V4).2.keE k (hp _ (h3 p V4).1)⟩⟩;rintro⟨g,cap,cur,rfl,hb,hg,hr⟩;exact⟨g,cap,cur,rfl,hb,k g _ hv.MQ hg trivial,hr⟩
section
variable{X E E' W:JB}{w w' wb:JE}{y:Nat}{c:J7}{seed nf:Int}{h:JJ}{hs:Int->Int}{vm base:Nat}{S:List TR}
def FK.narrow{Y:JB}(q:FK X E w y c seed h hs nf vm base S)(hy:Y y/\Y vm)(ht:∀z,z=base\/z∈tpl S->Y z)(hb:∀a,c.ba=some a->Y a.block)(hh:∀b,Sv h=some b->Y b):FK X (λb=>E b/\Y b) w y c seed h hs nf vm base S:=
 { q with
  q:={ q.q with
   tE:=λz hz=>⟨⟨(q.q.tE z hz).1,ht z hz⟩,(q.q.tE z hz).2⟩
   bE:=λa ha=>⟨⟨(q.q.bE a ha).1,hb a ha⟩,(q.q.bE a ha).2⟩
   xE:=⟨⟨q.q.xE.1,hy.1⟩,q.q.xE.2,hy.2⟩ }
  hb:=λb e=>⟨⟨(q.hb b e).1,hh b e⟩,(q.hb b e).2⟩ }
def FK.J0dy{Z:JB}(q:FK X E w y c seed h hs nf vm base S)(k:KE (λb=>E b/\¬Z b) w w')(hZ:∀b,Z b->X b/\b≠prog.globals.size)(hH:E prog.globals.size)(hE:∀b,E b->E' b):FK X E' w' y c seed h hs nf vm base S:=
 (q.narrow (Y:=λb=>¬Z b) ⟨λhz=>(q.new _ (hZ _ hz).1).1 rfl,λhz=>(q.far _ (hZ _ hz).1).1 rfl⟩ (λz hz e=>hz.elim (λh=>(q.new _ (hZ _ e).1).2.1 h) (q.new _ (hZ _ e).1).2.2) (λa ha e=>(q.far _ (hZ _ e).1).2.1 a ha rfl) (λb hb e=>(q.far _ (hZ _ e).1).2.2 hb)).ke k ⟨hH,λhz=>(hZ _ hz).2 rfl⟩ λb hb=>hE b hb.1
end
def FK.text{X E W:JB}{w w0:JE}{x:Nat}{cf:J7}{c:Int}{h:JJ}{hs:Int->Int}{nf:Int}{vm base:Nat}{S:List TR}{fs:List Jd}(q:FK X E w x cf c h hs nf vm base S)(hB:BOk C0 S0 W E w)(hh:∀b,b<w.heap.size->w0.heap[b]?=w.heap[b]?)(hc:I64 c)(tf:O3 cf hs fs S) :
  Calls prog 24 #[pt x] w0 λe w'=>∃s,(∃ks,keysOf (S.map TR.kv) ks/\s=iQ (pX cf c Dc S (ks.map (·.1))))/\e=.returned (.string s)/\Tch w0.heap.size M0 w0 w':=by
 obtain⟨b2,c2,b1,b3,b4⟩:=q.bnd;have lt:∀b,E b->b<w.heap.size:=λb hb=>hB.lt hb;refine(J07c (q.q.cube.kept (hh _ (lt _ q.q.xE.1)) (hh _ (lt _ q.q.xE.2))) q.q.cfg hc b1 (by rw[q.nb];rfl) (b3.kept (hh _ (lt _ (q.q.bE _ b1).1))) (by decide) (q.q.tab.kept λb hb=>hh _ (lt _ (q.q.tE b hb).1)) (by have:=tf.len;omega) λt ht z hz=>(tf.hin t ht z hz).1).mono ?_
 grind
section
variable{w:JE}{x:Nat}{ga:JI}{fs:List Jd}{cap:Nat}{pl:List Nat}{k0:Nat}
def J07m(hx:w.cell? ⟨x,0,none⟩=some (JK 3))(hf:G8 false w ga fs cap pl)(qA:k0<fs.length)(hok:∀i g,i<k0->fs[i]?=some g->RH g)(aV:∀g,fs[k0]?=some g->pW g)(hn:fs.length<=1000) :
  Calls prog 22 #[JL x,.slice ga fs.length cap] w λe w'=>∃b,e=.returned (.iface 85 (JL b))/\w.heap.size<=b/\w'.heap[b]?=some (.cells #[JK 2,JK k0] 89)/\Tch w.heap.size M0 w w':=by
 refine calls_of_wp func22 (show f22.body=some b13 by kernel_rfl) ?_;simp only[ntmps22,List.size_toArray,Lh,List.length_nil,Nat.reduceAdd,Nat.reduceSub];rw[J012];refine wp_seq (Code.wp_mono ?_ Jud);rintro e ⟨t0,d0⟩ w0 ⟨rfl,iF,i0,rfl⟩;simp only at iF i0;subst iF;refine wp_seq (Code.wp_mono ?_ (Ji9 hx hf (Nat.le_of_lt qA) hok aV hn i0));rintro e ⟨t1,d1⟩ w1 ⟨Za,s1,ht,h|⟨_,rfl,b,h4,hb,hw⟩⟩
 .grind
 .obtain⟨f,rfl⟩:=Qo s1;rw[Gv]at *;have e4:f 4=.iface 85 (JL b):=Aa (show some (f 4)=_ from h4);simp only[Exit.then];refine bodyPost_ret (v:=.iface 85 (JL b)) ?_ Za ⟨b,rfl,hb,hw,ht⟩;rw[<- e4];simp[results,results22,go_sem]
end
def MX(f:Nat->JJ):((List.range 117).map f).toArray=#[f 0,f 1,f 2,f 3,f 4,f 5,f 6,f 7,f 8,f 9,f 10,f 11,f 12,f 13,f 14,f 15,f 16,f 17,f 18,f 19,f 20,f 21,f 22,f 23,f 24,f 25,f 26,f 27,f 28,f 29,f 30,f 31,f 32,f 33,f 34,f 35,f 36,f 37,f 38,f 39,f 40,f 41,f 42,f 43,f 44,f 45,f 46,f 47,f 48,f 49,f 50,f 51,f 52,f 53,f 54,f 55,f 56,f 57,f 58,f 59,f 60,f 61,f 62,f 63,f 64,f 65,f 66,f 67,f 68,f 69,f 70,f 71,f 72,f 73,f 74,f 75,f 76,f 77,f 78,f 79,f 80,f 81,f 82,f 83,f 84,f 85,f 86,f 87,f 88,f 89,f 90,f 91,f 92,f 93,f 94,f 95,f 96,f 97,f 98,f 99,f 100,f 101,f 102,f 103,f 104,f 105,f 106,f 107,f 108,f 109,f 110,f 111,f 112,f 113,f 114,f 115,f 116]:=by rfl
def LZ{T:JC}(h:T.size=117):∃f:Nat->JJ,T=((List.range 117).map f).toArray:=⟨_,dM h⟩
def dW:Nat->Code
 |0=>f7.body.getD .skip
 |n+1=>sC (dW n)
def cW(n:Nat):Code:=fC (dW n)
def oW(n:Nat):Array Oper:=opsOf (cW n)
def J0f2:dW 0=.seq (cW 0) (.seq (.region 1 (oW 1) false) (.seq (.region 2 (oW 2) false) (.seq (.region 3 (oW 3) false) (.seq (.region 4 (oW 4) false) (.seq (cW 5) (.seq (cW 6) (.seq (cW 7) (.seq (cW 8) (.seq (cW 9) (.seq (cW 10) (.seq (cW 11) (.seq (cW 12) (.seq (cW 13) (.seq (.region 19 (oW 14) false) (.seq (cW 15) (.seq (cW 16) (.seq (cW 17) (.seq (cW 18) (.seq (.region 24 (oW 19) false) (dW 20)))))))))))))))))))):=by kernel_rfl
def J0f3:f7.body=some (dW 0):=by kernel_rfl
theorem okW:([0,5,6,7,8,9,10,11,12,13,15,16,17,18].all λn=>Ji C0 S0 7 (cW n))=true:=by kernel_rfl
def J0f4:Ji C0 S0 7 (dW 20)=true:=by kernel_rfl
def Rn(base:Nat)(w:JE)(bb:Nat)(b:Jd):Prop:=pW b/\base<=bb/\∃kb kc,base<=kb/\w.heap[bb]?=some (.cells #[JM kb b.k.length kc,JK b.it,JK b.v] 50)/\Row false w kb 3 .i64 b.k kc
def bad0:pW ⟨[1,2,100],0,0⟩:=⟨by decide,λ_=>⟨100,by simp,by omega⟩⟩
def bad1:pW ⟨[1,2],0,0⟩:=⟨by decide,λh=>by cases h⟩
def bad2:pW ⟨[-1,2,3],0,0⟩:=⟨by decide,λ_=>⟨-1,by simp,by omega⟩⟩
def J07r{w:JE}{b:Nat}{ks:JD}(h:w.heap[b]?=some (.cells (ks.map (Value.int .i64)).toArray 3)):Row false w b 3 .i64 ks ks.length:=by refine⟨_,⟨_,h,λ_=>rfl⟩,by simp,Ad _,λi hi=>by grind,λx hx=>?_⟩;simp only[AZ]at hx;obtain⟨n,_,rfl⟩:=hx;exact⟨_,_,rfl⟩
def Rn.put{base bb:Nat}{w:JE}{x0 x1 x2:JJ}(hb:base<=w.heap.size)(qE:base<=bb)(h:w.heap[bb]?=some (.cells #[x0,x1,x2] 50))(ks:JD)(hf:pW ⟨ks,0,0⟩) :
  Rn base ((((w.alloc (.cells (ks.map (Value.int .i64)).toArray 3)).setCell ⟨bb,0,none⟩ (JM w.heap.size ks.length ks.length)).setCell ⟨bb,1,none⟩ (JK 0)).setCell ⟨bb,2,none⟩ (JK 0)) bb ⟨ks,0,0⟩ /\
  Tch base M0 w ((((w.alloc (.cells (ks.map (Value.int .i64)).toArray 3)).setCell ⟨bb,0,none⟩ (JM w.heap.size ks.length ks.length)).setCell ⟨bb,1,none⟩ (JK 0)).setCell ⟨bb,2,none⟩ (JK 0)):=by
 have Ac:=Jj h;refine⟨⟨hf,qE,w.heap.size,ks.length,hb,heap_set (heap_set (heap_set ((J8 _ Ac).trans h) 0 _) 1 _) 2 _,J07r ?_⟩,(((Tch.refl.alloc hb _).set (.inl qE) _).set (.inl qE) _).set (.inl qE) _⟩
 grind[Jm,Ja]
def NQ{n:Nat}(h:n∈([0,5,6,7,8,9,10,11,12,13,15,16,17,18]:List Nat)):Ji C0 S0 7 (cW n)=true:=by
 grind[okW,List.all_eq_true]
def hasW:GY C0 7:=⟨f7,by kernel_rfl,by kernel_rfl,by kernel_rfl⟩
def hlW{i:Nat}(h:(C0.hl 7).contains i=true):i∈([1,2,26,28]:List Nat)\/500<=i:=by
 have h':i∈[1,2,26,28,1000]:=Lj.1 h
 grind
def kW(d:Nat):List Nat:=[1,2,26,28,0,3,4,11,12,13,14,15,16,17,18,19,20,21,22,23,24,25].filter (· != d)
section
variable{w:JE}{T:JC}{ds:List Deferred}{x y n k c2:Nat}{mz:Int}{ga:JI}{v:JJ}{Q:Exit->Act->JE->Prop}
def J0e1(Ag:T.size=117)
  (hQ:∀T':JC,T'.size=117->(∀i∈kW 10,T'[i]?=T[i]?)->Q .normal ⟨T',ds⟩ w) :
  (cW 0).wp prog Q ⟨T,ds⟩ w:=by
 obtain⟨f,rfl⟩:=LZ Ag;rw[MX]at *;simp only[cW,dW,fC,sC,f7,A8];go_wp2;exact hQ _ rfl (by(repeat refine List.forall_mem_cons.2 ⟨rfl,?_⟩);grind) 
def J0e2(Ag:T.size=117)(O7:T[13]?=some (pt x))(Ua:T[14]?=some (pt y))
  (hQ:∀T':JC,T'.size=117->(∀i∈kW 10,T'[i]?=T[i]?)->Q .normal ⟨T',ds⟩ w) :
  (cW 5).wp prog Q ⟨T,ds⟩ w:=by
 obtain⟨f,rfl⟩:=LZ Ag;rw[MX]at *;have NW:f 13=_:=Aa O7;have O5:f 14=_:=Aa Ua;rw[NW,O5]at hQ ⊢;clear O7 NW Ua O5;simp only[cW,dW,fC,sC,f7,A8];go_wp2;exact hQ _ rfl (by(repeat refine List.forall_mem_cons.2 ⟨rfl,?_⟩);grind) 
def J0e3(hm:I64 mz)(hn:n<=1000)(Ag:T.size=117)(h3:T[3]?=some (JK mz))(SA:T[12]?=some (.slice ga n c2))
  (hQ:∀T':JC,T'.size=117->(∀i∈kW 15,T'[i]?=T[i]?)->T'[15]?=some (JK (Jr mz (n+1)))->Q .normal ⟨T',ds⟩ w) :
  (cW 6).wp prog Q ⟨T,ds⟩ w:=by
 have hp:=Yo hm (n:=n+1) (by omega) (by omega);obtain⟨f,rfl⟩:=LZ Ag;rw[MX]at *;have e3:f 3=_:=Aa h3;have WQ:f 12=_:=Aa SA;rw[e3,WQ]at hQ ⊢;clear h3 e3 SA WQ;simp only[cW,dW,fC,sC,f7,A8]
 go_wp2_with (go_at_call 18;refine(hp _).mono ?_;rintro e w1 ⟨rfl,rfl⟩)
 exact hQ _ rfl (by(repeat refine List.forall_mem_cons.2 ⟨rfl,?_⟩);grind) rfl
def J0e4(Ag:T.size=117)
  (hQ:∀T':JC,T'.size=117->(∀i∈kW 17,T'[i]?=T[i]?)->T'[17]?=some (.slice none 0 0)->Q .normal ⟨T',ds⟩ w) :
  (cW 9).wp prog Q ⟨T,ds⟩ w:=by
 obtain⟨f,rfl⟩:=LZ Ag;rw[MX]at *;simp only[cW,dW,fC,sC,f7,A8];go_wp2;exact hQ _ rfl (by(repeat refine List.forall_mem_cons.2 ⟨rfl,?_⟩);grind) rfl
def J0e5(Ag:T.size=117)
  (hQ:∀T':JC,T'.size=117->(∀i∈kW 16,T'[i]?=T[i]?)->∀w' bb,T'[16]?=some (pt bb)->Rn w.heap.size w' bb ⟨[1,2,100],0,0⟩->Tch w.heap.size M0 w w'->Q .normal ⟨T',ds⟩ w') :
  (cW 7).wp prog Q ⟨T,ds⟩ w:=by
 obtain⟨f,rfl⟩:=LZ Ag;rw[MX]at *;simp only[cW,dW,fC,sC,f7,A8];go_wp2;exact hQ _ rfl (by(repeat refine List.forall_mem_cons.2 ⟨rfl,?_⟩);grind) _ _ rfl ⟨bad0,Nat.le_succ _,w.heap.size,3,Ad _,(by grind[size_alloc,Ja]),J07r ((J8 _ (by simp_all)).trans (Ja _))⟩ ((Tch.refl.alloc (Ad _) _).alloc (by simp_all) _)
def J0e6{base bb:Nat}{b:Jd}{how:Int}(hm:I64 how)(hb:base<=w.heap.size)(h:Rn base w bb b)(Ag:T.size=117)(h4:T[4]?=some (JK how))(Ub:T[16]?=some (pt bb))
  (hQ:∀T':JC,T'.size=117->(∀i∈kW 10,T'[i]?=T[i]?)->∀w' b',Rn base w' bb b'->Tch base M0 w w'->Q .normal ⟨T',ds⟩ w') :
  (cW 8).wp prog Q ⟨T,ds⟩ w:=by
 have hp:=Yo hm (n:=3) (by omega) (by omega);have hz:=Yr (c:=how) (n:=3) (by omega);generalize Jr how 3=p at hp hz;obtain⟨aV,qE,kb,kc,SV,YZ,Aj⟩:=h;have hA:∀o,(w.alloc o).heap[bb]?=some (.cells #[JM kb b.k.length kc,JK b.it,JK b.v] 50):=λo=>(J8 o (Jj YZ)).trans YZ;have hC:∀o i,(w.alloc o).cell? ⟨bb,i,none⟩=#[JM kb b.k.length kc,JK b.it,JK b.v][i]?:=λo i=>cell_of (hA o) i;have hF:∀o i,(w.alloc o).frozen? ⟨bb,i,none⟩=false:=λo i=>FZ (hA o) i;obtain⟨f,rfl⟩:=LZ Ag;rw[MX]at *;have e4:f 4=_:=Aa h4;have PG:f 16=_:=Aa Ub;rw[e4,PG]at hQ ⊢;clear h4 e4 Ub PG;simp only[cW,dW,fC,sC,f7,A8]
 go_wp2_with (go_at_call 18;refine(hp _).mono ?_;rintro e w1 ⟨rfl,rfl⟩)
 .obtain⟨q1,q2⟩:=Rn.put hb qE YZ [1,2] bad1;exact hQ _ rfl (by(repeat refine List.forall_mem_cons.2 ⟨rfl,?_⟩);grind) _ _ q1 q2
 .obtain⟨q1,q2⟩:=Rn.put hb qE YZ [-1,2,3] bad2;exact hQ _ rfl (by(repeat refine List.forall_mem_cons.2 ⟨rfl,?_⟩);grind) _ _ q1 q2
 .exact hQ _ rfl (by(repeat refine List.forall_mem_cons.2 ⟨rfl,?_⟩);grind) _ _ ⟨aV,qE,kb,kc,SV,YZ,Aj⟩ .refl
def J0a8{v v':JJ}{w':JE}(hk:k<=c2)(hr:(Builtin.append_ #[28,28] 28 #[v,.slice ga k c2]).run prog w=.ok v' w')(Ag:T.size=117)(SA:T[12]?=some (.slice ga n c2))(PN:T[15]?=some (JK k))(WZ:T[17]?=some v)
  (hQ:∀T':JC,T'.size=117->(∀i∈kW 17,T'[i]?=T[i]?)->T'[17]?=some v'->Q .normal ⟨T',ds⟩ w') :
  (cW 10).wp prog Q ⟨T,ds⟩ w:=by
 obtain⟨f,rfl⟩:=LZ Ag;rw[MX]at *;have WQ:f 12=_:=Aa SA;have KG:f 15=_:=Aa PN;have PK:f 17=_:=Aa WZ;rw[WQ,KG,PK]at hQ ⊢;clear SA WQ PN KG WZ PK;simp only[cW,dW,fC,sC,f7,A8]
 go_wp2_with (at_builtin;refine Lib.wpList_append_run_sl _ rfl _ _ 28 rfl _ _ rfl rfl hr ?_)
 exact hQ _ rfl (by(repeat refine List.forall_mem_cons.2 ⟨rfl,?_⟩);grind) rfl
def J0a9{v v' x0 x1 x2:JJ}{w':JE}{bb:Nat}(hb:w.heap[bb]?=some (.cells #[x0,x1,x2] 50))(hr:(Builtin.append_ #[28,28] 28 #[v,JM w.heap.size 1 1]).run prog (w.alloc (.cells #[x0,x1,x2] 50))=.ok v' w')(Ag:T.size=117)(Ub:T[16]?=some (pt bb))(WZ:T[17]?=some v)
  (hQ:∀T':JC,T'.size=117->(∀i∈kW 17,T'[i]?=T[i]?)->T'[17]?=some v'->Q .normal ⟨T',ds⟩ w') :
  (cW 11).wp prog Q ⟨T,ds⟩ w:=by
 have c0:=(cell_of hb 0).trans rfl;have c1:=(cell_of hb 1).trans rfl;have c2:=(cell_of hb 2).trans rfl;clear hb;obtain⟨f,rfl⟩:=LZ Ag;rw[MX]at *;have PG:f 16=_:=Aa Ub;have PK:f 17=_:=Aa WZ;rw[PG,PK]at hQ ⊢;clear Ub PG WZ PK;simp only[cW,dW,fC,sC,f7,A8]
 go_wp2_with (at_builtin;refine Lib.wpList_append_run_sl _ rfl _ _ 28 rfl _ _ rfl rfl hr ?_)
 exact hQ _ rfl (by(repeat refine List.forall_mem_cons.2 ⟨rfl,?_⟩);grind) rfl
def J0aa{v v':JJ}{w':JE}{a':JI}(hs:(Instr.slice 28 (.slice ga n c2) (some (JK k)) none none).run prog w=.ok (.slice a' (n-k) (c2-k)) w)(hr:(Builtin.append_ #[28,28] 28 #[v,.slice a' (n-k) (c2-k)]).run prog w=.ok v' w')(Ag:T.size=117)(SA:T[12]?=some (.slice ga n c2))(PN:T[15]?=some (JK k))(WZ:T[17]?=some v)
  (hQ:∀T':JC,T'.size=117->(∀i∈kW 17,T'[i]?=T[i]?)->T'[17]?=some v'->Q .normal ⟨T',ds⟩ w') :
  (cW 12).wp prog Q ⟨T,ds⟩ w:=by
 obtain⟨f,rfl⟩:=LZ Ag;rw[MX]at *;have WQ:f 12=_:=Aa SA;have KG:f 15=_:=Aa PN;have PK:f 17=_:=Aa WZ;rw[WQ,KG,PK]at hQ ⊢;clear SA WQ PN KG WZ PK;simp only[cW,dW,fC,sC,f7,A8]
 go_wp2_with (at_builtin;refine Lib.wpList_append_run_sl _ rfl _ _ 28 rfl _ _ rfl rfl hr ?_)
 exact hQ _ rfl (by(repeat refine List.forall_mem_cons.2 ⟨rfl,?_⟩);grind) rfl
def J0ab{R:Nat->JE->Prop}{gb:JI}(hI:Calls prog 22 #[pt x,.slice gb n c2] w λe w'=>∃b,e=.returned (.iface 85 (pt b))/\R b w')(Ag:T.size=117)(O7:T[13]?=some (pt x))(WZ:T[17]?=some (.slice gb n c2))
  (hQ:∀T':JC,T'.size=117->(∀i∈kW 18,T'[i]?=T[i]?)->∀w' b,T'[18]?=some (.iface 85 (pt b))->R b w'->Q .normal ⟨T',ds⟩ w') :
  (cW 13).wp prog Q ⟨T,ds⟩ w:=by
 obtain⟨f,rfl⟩:=LZ Ag;rw[MX]at *;have NW:f 13=_:=Aa O7;have PK:f 17=_:=Aa WZ;rw[NW,PK]at hQ ⊢;clear O7 NW WZ PK;simp only[cW,dW,fC,sC,f7,A8]
 go_wp2_with (go_at_call 22;refine hI.mono ?_;rintro e w1 ⟨b,rfl,hR⟩)
 exact hQ _ rfl (by(repeat refine List.forall_mem_cons.2 ⟨rfl,?_⟩);grind) _ b rfl hR
def J0ac{PX:ByteArray->Prop}(hX:Calls prog 24 #[pt x] w λe w'=>∃s,PX s/\e=.returned (.string s)/\Tch w.heap.size M0 w w')(Ag:T.size=117)(O7:T[13]?=some (pt x))
  (hQ:∀T':JC,T'.size=117->(∀i∈kW 21,T'[i]?=T[i]?)->∀w',(∃s,PX s/\T'[21]?=some (.string s))->Tch w.heap.size M0 w w'->Q .normal ⟨T',ds⟩ w') :
  (cW 15).wp prog Q ⟨T,ds⟩ w:=by
 obtain⟨f,rfl⟩:=LZ Ag;rw[MX]at *;have NW:f 13=_:=Aa O7;rw[NW]at hQ ⊢;clear O7 NW;simp only[cW,dW,fC,sC,f7,A8]
 go_wp2_with (go_at_call 24;refine hX.mono ?_;rintro e w1 ⟨s,hs,rfl,t1⟩)
 exact hQ _ rfl (by(repeat refine List.forall_mem_cons.2 ⟨rfl,?_⟩);grind) _ ⟨s,hs,rfl⟩ t1
def J0ad{PX:ByteArray->Prop}(hX:Calls prog 24 #[pt x] w λe w'=>∃s,PX s/\e=.returned (.string s)/\Tch w.heap.size M0 w w')(Ag:T.size=117)(Ua:T[14]?=some (pt x))
  (hQ:∀T':JC,T'.size=117->(∀i∈kW 22,T'[i]?=T[i]?)->∀w',(∃s,PX s/\T'[22]?=some (.string s))->Tch w.heap.size M0 w w'->Q .normal ⟨T',ds⟩ w') :
  (cW 16).wp prog Q ⟨T,ds⟩ w:=by
 obtain⟨f,rfl⟩:=LZ Ag;rw[MX]at *;have O5:f 14=_:=Aa Ua;rw[O5]at hQ ⊢;clear Ua O5;simp only[cW,dW,fC,sC,f7,A8]
 go_wp2_with (go_at_call 24;refine hX.mono ?_;rintro e w1 ⟨s,hs,rfl,t1⟩)
 exact hQ _ rfl (by(repeat refine List.forall_mem_cons.2 ⟨rfl,?_⟩);grind) _ ⟨s,hs,rfl⟩ t1
def J0ae{R:JE->Prop}(hI:Calls prog 22 #[pt x,.slice ga n c2] w λe w'=>e=.returned .nilIface/\R w')(Ag:T.size=117)(O7:T[13]?=some (pt x))(SA:T[12]?=some (.slice ga n c2))
  (hQ:∀T':JC,T'.size=117->(∀i∈kW 23,T'[i]?=T[i]?)->∀w',T'[23]?=some .nilIface->R w'->Q .normal ⟨T',ds⟩ w') :
  (cW 17).wp prog Q ⟨T,ds⟩ w:=by
 obtain⟨f,rfl⟩:=LZ Ag;rw[MX]at *;have NW:f 13=_:=Aa O7;have WQ:f 12=_:=Aa SA;rw[NW,WQ]at hQ ⊢;clear O7 NW SA WQ;simp only[cW,dW,fC,sC,f7,A8]
 go_wp2_with (go_at_call 22;refine hI.mono ?_;rintro e w1 ⟨rfl,hR⟩)
 exact hQ _ rfl (by(repeat refine List.forall_mem_cons.2 ⟨rfl,?_⟩);grind) _ rfl hR
def J0af{R:JE->Prop}(hI:Calls prog 22 #[pt x,.slice ga n c2] w λe w'=>e=.returned .nilIface/\R w')(Ag:T.size=117)(Ua:T[14]?=some (pt x))(SA:T[12]?=some (.slice ga n c2))
  (hQ:∀T':JC,T'.size=117->(∀i∈kW 24,T'[i]?=T[i]?)->∀w',T'[24]?=some .nilIface->R w'->Q .normal ⟨T',ds⟩ w') :
  (cW 18).wp prog Q ⟨T,ds⟩ w:=by
 obtain⟨f,rfl⟩:=LZ Ag;rw[MX]at *;have O5:f 14=_:=Aa Ua;have WQ:f 12=_:=Aa SA;rw[O5,WQ]at hQ ⊢;clear Ua O5 SA WQ;simp only[cW,dW,fC,sC,f7,A8]
 go_wp2_with (go_at_call 22;refine hI.mono ?_;rintro e w1 ⟨rfl,hR⟩)
 exact hQ _ rfl (by(repeat refine List.forall_mem_cons.2 ⟨rfl,?_⟩);grind) _ rfl hR
def J0ag{s:ByteArray}{k:Int}(Ag:T.size=117)(PN:T[15]?=some (JK k))(h19:T[19]?=some (JK 2))(vV:T[20]?=some (JK k))(h21:T[21]?=some (.string s))(h22:T[22]?=some (.string s))(h23:T[23]?=some .nilIface)(h24:T[24]?=some .nilIface)(h25:T[25]?=some (.bool true))
  (hQ:∀T':JC,T'.size=117->(∀i∈kW 10,T'[i]?=T[i]?)->T'[10]?=some (.bool true)->Q .ret ⟨T',ds⟩ w) :
  (dW 20).wp prog Q ⟨T,ds⟩ w:=by
 obtain⟨f,rfl⟩:=LZ Ag;rw[MX]at *;have KG:f 15=_:=Aa PN;have S9:f 19=_:=Aa h19;have Vl:f 20=_:=Aa vV;have WU:f 21=_:=Aa h21;have WV:f 22=_:=Aa h22;have WW:f 23=_:=Aa h23;have QB:f 24=_:=Aa h24;have WX:f 25=_:=Aa h25;rw[KG,S9,Vl,WU,WV,WW,QB,WX]at hQ ⊢;clear PN KG h19 S9 vV Vl h21 WU h22 WV h23 WW h24 QB h25 WX;simp only[cW,dW,fC,sC,f7,A8];go_wp2;exact hQ _ rfl (by(repeat refine List.forall_mem_cons.2 ⟨rfl,?_⟩);grind) rfl
end
end Go.Sim.Z
namespace Go.Sim
open Go.Extern.Rtype Go.Extern.ReflectliteType Go.Extern.ReflectliteValue
section
variable{C:Cx}{ok:JG->Code->Prop}{E:J5}
def oK(v x:JJ):Go.Extern.ReflectliteValue.set #[v,x]=(do
  let(some (dst,a,fl),some (src,b,_)):=(<- parts v,<- parts x)
   |unsupported (.noEntry "extern/(internal/reflectlite.Value).Set.zeroValue")
  if fl / flagAddr % 2 == 0 then unsupported (.noEntry "extern/(internal/reflectlite.Value).Set.unaddressable")
  let val <- loadVar src b
  if <- directlyAssignable dst src then storeVar dst a val
  else if <- Go.Extern.Rtype.implements dst src then
   if(<- kind src) == 20 then
    match val with
    |.nilIface=>unsupported (.noEntry "extern/reflectlite: a nil value of one interface type handed on as a value of another")
    |_=>storeVar dst a val
   else storeVar dst a (.iface src val)
  else panicString ("reflectlite.Set: value of type "++(<- spelt src)++ " is not assignable to type "++(<- spelt dst))
  Pure.pure (.tuple #[])):=rfl
def J035(t:JH):J3 C ok E (kind t) (kind t) (λ_ k k'=>k=k'/\(C.P.info? t).isSome=true):=by
 unfold kind under;refine J3.bind' (R:=λ_ x x'=>x=x'/\(C.P.info? t).isSome=true) ?_ λE1 s1 i i' h=>?_
 .refine J3.bind' (J3.typeInfo t) λE1 s1 i i' h=>?_;obtain⟨rfl,hi⟩:=h;have hs:(C.P.info? t).isSome=true:=by rw[hi];rfl
  try dsimp only
  split
  .refine J3.bind' (sInfo _) λE2 s2 j j' h=>?_;obtain rfl:j=j':=h;exact .pure ⟨rfl,hs⟩
  .exact .pure ⟨rfl,hs⟩
 .obtain⟨rfl,hs⟩:=h;obtain⟨u,i⟩:=i
  dsimp only
  split<;>first|exact .pure ⟨rfl,hs⟩|exact .stuck _
def Jzc(K:Oy C)(Au:∀t,(C.P.info? t).isSome=true->C.Ed t=true):Gy C Go.Extern.ReflectliteValue.set:=λok E hh a a' ha=>by
 obtain⟨l⟩:=a;obtain⟨l'⟩:=a'
 match l,l',ha with
 |[],_,_=>exact .stuck _
 |[_],_,_=>exact .stuck _
 |_::_::_::_,_,_=>exact .stuck _
 |[_,_],[],ha=>exact absurd ha.size (by simp)
 |[_,_],[_],ha=>exact absurd ha.size (by simp)
 |[_,_],_::_::_::_,ha=>exact absurd ha.size (by simp)
 |[v,x],[v',x'],ha=>
  have hv:=ha.at_ 0 v v' rfl rfl;have hx:=ha.at_ 1 x x' rfl rfl;show J3 C ok E (Go.Extern.ReflectliteValue.set #[v,x]) (Go.Extern.ReflectliteValue.set #[v',x']) (VR C);rw[oK,oK];refine J3.bind' (Jjj hh hv) λE1 s1 o o' h1=>?_;refine J3.bind' (Jjj (hh.mono s1) (hx.mono s1)) λE2 s2 q q' h2=>?_;cases o with
  |none=>cases o' with
   |none=>exact .unsupported _
   |some _=>exact h1.elim
  |some o=>cases o' with
   |none=>exact h1.elim
   |some o'=>cases q with
    |none=>cases q' with
     |none=>exact .unsupported _
     |some _=>exact h2.elim
    |some q=>cases q' with
     |none=>exact h2.elim
     |some q'=>
      obtain⟨dst,p,fl⟩:=o;obtain⟨dst',p',fl'⟩:=o';obtain⟨e1,e2,e3⟩:=h1;obtain rfl:dst=dst':=e1;obtain rfl:fl=fl':=e3;obtain⟨src,b,n⟩:=q;obtain⟨src',b',n'⟩:=q';obtain⟨e4,e5,e6⟩:=h2;obtain rfl:src=src':=e4;have hp:Jc E2 p p':=⟨s2 _ _ e2.block,e2.off,e2.spot⟩;have fin:∀E3,Sub E2 E3->∀u u',VR C E3 u u'->J3 C ok E3 (do storeVar dst p u;Pure.pure (Value.tuple #[])) (do storeVar dst p' u';Pure.pure (Value.tuple #[])) (VR C):=λE3 s3 u u' hu=>
       J3.bind' (J3.storeVar dst ⟨s3 _ _ hp.block,hp.off,hp.spot⟩ hu) λ_ _ _ _ _=>.pure .undef
      dsimp only
      split
      .exact J3.bind' (R:=λ_ _ _=>False) (.unsupported _) λ_ _ _ _ h=>h.elim
      refine J3.bind' (J3.loadVar src e5) λE3 s3 u u' hu=>?_;refine J3.bind' (Jlw dst src) λE4 s4 d d' h=>?_;obtain rfl:d=d':=h;have hu4:=hu.mono s4;cases d with
      |true=>exact fin _ (s3.trans s4) _ _ hu4
      |false=>
       refine J3.bind' (J7l dst src) λE5 s5 d d' h=>?_;obtain rfl:d=d':=h;have hu5:=hu4.mono s5;have s25:=(s3.trans s4).trans s5;cases d with
       |true=>
        refine J3.bind' (J035 src) λE6 s6 k k' h=>?_;obtain⟨rfl,hi⟩:=h;have hu6:=hu5.mono s6;have MO:=s25.trans s6
        try dsimp only
        split
        .cases hu6 with
         |nilIface=>exact J3.bind' (R:=λ_ _ _=>False) (.unsupported _) λ_ _ _ _ h=>h.elim
         |bool b=>exact fin _ MO _ _ (.bool b)
         |int k n=>exact fin _ MO _ _ (.int k n)
         |string x=>exact fin _ MO _ _ (.string x)
         |nilPtr=>exact fin _ MO _ _ .nilPtr
         |ptr o s h=>exact fin _ MO _ _ (.ptr o s h)
         |Jk l c=>exact fin _ MO _ _ (.Jk l c)
         |slice o s l c h=>exact fin _ MO _ _ (.slice o s l c h)
         |I5=>exact fin _ MO _ _ .I5
         |map h=>exact fin _ MO _ _ (.map h)
         |nilFunc=>exact fin _ MO _ _ .nilFunc
         |MP=>exact fin _ MO _ _ .MP
         |func h h1 h2 h3 h4=>exact fin _ MO _ _ (.func h h1 h2 h3 h4)
         |iface t ht h=>exact fin _ MO _ _ (.iface t ht h)
         |agg h1 h2=>exact fin _ MO _ _ (.agg h1 h2)
         |tuple h1 h2=>exact fin _ MO _ _ (.tuple h1 h2)
        .exact fin _ MO _ _ (.iface src (Au src hi) hu6)
       |false=>
        refine J3.bind' (Jjg src) λE6 s6 k k' h=>?_;obtain rfl:k=k':=h;refine J3.bind' (Jjg dst) λE7 s7 k k' h=>?_;obtain rfl:k=k':=h;exact J3.bind' (R:=λ_ _ _=>False) (oO K _) λ_ _ _ _ h=>h.elim
def Js5:Gy C (Go.Extern.ReflectliteValue.method (Pure.pure (.int .u8 0)) λ_ _ _ k=>Pure.pure (.int .u8 (Int.ofNat k))):=
 mX (zero:=Pure.pure (.int .u8 0)) (f:=λ_ _ _ k=>Pure.pure (.int .u8 (Int.ofNat k))) false (λok E hh=>.pure (.int _ _)) λok E hh t a a' fl k h=>.pure (.int _ _)
end
end Go.Sim
namespace Go.Sim.Z
open Go Go.Proofs
def tY:List JH:=List.range 371
def Js6{t:JH}(h:t<371):tY.contains t=true:=by
 unfold tY
 grind
def C2:Cx:={ P:=prog,fs:=[239,246,238,276,114,277,274,244],ts:=tY,ms:=["Kind","Elem","Implements","AssignableTo","As","Unwrap"],mf:=[],hl:=λf=>if f == 16 then[1000]else[],any:=true,st:=false,Sh:=λ_=>False,lax:=λ_ _ h=>h }
def S2:Kn:={ own:=λf=>if f == 30 then[12,24,36]else[],cs:=[30,66,244],gs:=[0],df:=[],xs:=[63,64,65,113,114,115,239,246,274,276,277],xn:=[238] }
def UO:Oy C2 where
 rt p h:=by have e:some p=some ("internal/reflectlite.rtype",226):=h.symm.trans zN;obtain rfl:=Aa e;show C2.Ed 226=true;kernel_rfl
 ve p h:=by have e:some p=some ("*internal/reflectlite.ValueError",227):=h.symm.trans zO;obtain rfl:=Aa e;show C2.Ed 227=true;kernel_rfl
 str:=by kernel_rfl
def Jzd{C:Cx}{t:JH}(h:C.ts.contains t=true):C.Ed t=true:=by
 unfold Cx.Ed
 grind
def Jvy{C:Cx}{t:JH}(h:C.any=true)(h':C.P.types.size<=t):C.Ed t=true:=by
 unfold Cx.Ed
 grind
def c2ts:C2.ts=tY:=by kernel_rfl
def Jze:C2.P.types.size=371:=by kernel_rfl
def all2(t:JH):C2.Ed t=true:=by
 rcases BF t 371 with h|h
 .exact Jzd (c2ts▸Js6 h)
 .exact Jvy rfl (by rw[Jze];exact h)
def J05w (f:JG) (h:[63,64,65,113,114,115,239,246,274,276,277].contains f=true):∃fn row,prog.funcs[f]?=some fn/\(fn.name == "runtime.NumGoroutine")=false/\fn.body=none/\Go.Extern.findNext fn=none/\Go.Extern.find fn=some row/\Gy C2 row:=by
 have h':=Lj.1 h;simp only[AL,BU,or_false]at h';rcases h' with rfl|rfl|rfl|rfl|rfl|rfl|rfl|rfl|rfl|rfl|rfl
 .exact⟨f63,_,by kernel_rfl,by kernel_rfl,by kernel_rfl,by kernel_rfl,by kernel_rfl,Jl2⟩
 .exact⟨f64,_,by kernel_rfl,by kernel_rfl,by kernel_rfl,by kernel_rfl,by kernel_rfl,Jti UO⟩
 .exact⟨f65,_,by kernel_rfl,by kernel_rfl,by kernel_rfl,by kernel_rfl,by kernel_rfl,Jqd UO⟩
 .exact⟨f113,_,by kernel_rfl,by kernel_rfl,by kernel_rfl,by kernel_rfl,by kernel_rfl,Jn4 UO⟩
 .exact⟨f114,_,by kernel_rfl,by kernel_rfl,by kernel_rfl,by kernel_rfl,by kernel_rfl,Jqe UO⟩
 .exact⟨f115,_,by kernel_rfl,by kernel_rfl,by kernel_rfl,by kernel_rfl,by kernel_rfl,Jzc UO λt _=>all2 t⟩
 .exact⟨f239,_,by kernel_rfl,by kernel_rfl,by kernel_rfl,by kernel_rfl,by kernel_rfl,Jtg⟩
 .exact⟨f246,_,by kernel_rfl,by kernel_rfl,by kernel_rfl,by kernel_rfl,by kernel_rfl,Js5⟩
 .exact⟨f274,_,by kernel_rfl,by kernel_rfl,by kernel_rfl,by kernel_rfl,by kernel_rfl,Jg1 UO⟩
 .exact⟨f276,_,by kernel_rfl,by kernel_rfl,by kernel_rfl,by kernel_rfl,by kernel_rfl,Jtf UO⟩
 .exact⟨f277,_,by kernel_rfl,by kernel_rfl,by kernel_rfl,by kernel_rfl,by kernel_rfl,Jg0 UO⟩
def J05x (f:JG) (h:S2.xn.contains f=true):∃fn,prog.funcs[f]?=some fn/\(fn.name == "runtime.NumGoroutine")=false/\fn.body=none/\Go.Extern.findNext fn=none/\Go.Extern.find fn=none/\(fn.name.endsWith ".init" && !fn.name.startsWith "(" && !fn.name.startsWith "gosem.")=false:=by
 have e:f=238:=by simpa[S2]using h
 subst e;exact⟨f238,by kernel_rfl,by kernel_rfl,by kernel_rfl,by kernel_rfl,by kernel_rfl,by kernel_rfl⟩
def J036:FM C2 S2:=FM.Jct (by kernel_rfl) (by kernel_rfl) (by kernel_rfl) (by kernel_rfl) J05w J05x
def ok16:Ji C2 S2 16 (f16.body.getD .skip)=true:=by kernel_rfl
end Go.Sim.Z
end
