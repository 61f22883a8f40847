/- Proved: laws for the claim. No conditions. -/
import Derived.Laws.Closers25b
import Derived.Laws.BytesString
import Derived.Deep.RegionHeld3
import Derived.LoopN
import Derived.Test.YtlcbehhbfglgaaaGreatDoorB01
set_option linter.all false
set_option maxHeartbeats 12000000
set_option maxRecDepth 100000
open Go.Proofs.Tryz
namespace Go.Sim.Z
open Go Go.Proofs Go.RowKit Go.Maps
section
variable{w:JE}{x:Nat}{c:J7}{seed:Int}{nf:Int}{vm base:Nat}
def Jis(p q r:Addr)(w:JE) :
  CallsD prog 84 #[.pointer (some p),.pointer (some q),.pointer (some r)] .returning w λe u' w'=>e=.returned (.tuple #[])/\u'=.returning/\w'=w:=by
 have Y6:∀w,(binOp .neq 20 .nilIface .nilIface).run prog w=.ok (.bool false) w:=λ_=>rfl;refine callsD_of_wpS func84 rfl λc₀ cs hu=>?_;apply wpS_seq;apply wpS_region;simp[wpOpsS,go_sem,recoverD,hu,ntmps84,Exit.thenS];refine wpS_cond (t:=false) (by simp[Act.eval,Array.replicate]) ?_;simp only[DY,if_false];refine wpS_of_wp (wp_skip ?_);cases c₀
 simp_all [bodyPostS,results,results84]
theorem Jpx(q:DU w x c seed h49 nf vm base)(item at_:Int) :
  Calls prog 39 #[JL x,JK item,JK at_] w λe w'=>e=.returned (.tuple #[.int .u64 (IntKind.u64.wrap item),.nilIface])/\Tch w.heap.size M0 w w':=by
 have hmf:∀(fn:Fn)(first cap:JC)(w:JE),(Instr.makeFunc fn first cap).run prog w=.ok (.func fn first cap) w:=λ_ _ _ _=>rfl;have hx:x<w.heap.size:=q.blk.lt;have c5:w.cell? ⟨x,5,none⟩=some (.func (.func 94) #[] #[]):=q.cells.2.2.2.2.2.1;have h1:∀w,Calls prog 94 #[JK item] w λe w'=>e=.returned (.int .u64 (IntKind.u64.wrap item))/\w'=w:=Jpw item;have c5':(((w.alloc (.cells #[JK at_] 3)).alloc (.cells #[.int .u64 0] 110)).alloc (.cells #[.nilIface] 33)).cell? ⟨x,5,none⟩=some (.func (.func 94) #[] #[]):=
  (Du (by grind[J8,size_alloc])).trans c5
 generalize IntKind.u64.wrap item=hh at *
 go_enter_defers func39,ntmps39
 go_wp2_with (go_at_call 94;refine(h1 _).mono ?_;rintro e w1 ⟨rfl,rfl⟩)
 refine leaves_cons (f:=84) (args:=#[JL w.heap.size,.pointer (some ⟨w.heap.size+1,0,none⟩),.pointer (some ⟨w.heap.size+1+1,0,none⟩)]) (by simp) (by simp[go_sem]) ?_;refine(Jis _ _ _ _).mono ?_;rintro e u' Qj ⟨rfl,rfl,rfl⟩;simp[Leaves,settle,results,results39,go_sem];exact((Tch.refl.alloc (Ad _) _).alloc (by simp_all) _).alloc (by grind[size_alloc]) _
end
structure PI(w:JE)(base:Nat)(v:JJ)(xs:JD):Prop where
 own:w.ownsRow base 3 1 v xs.length (xs.map (Value.int .i64))
 pl:Ko w v
 nl:v=.slice none 0 0↔xs=[]
theorem PI.nil(w:JE)(base:Nat):PI w base (.slice none 0 0) []:=⟨⟨rfl,.inl ⟨rfl,rfl⟩⟩,.nil _ _ _,by simp⟩
def PI.lt{w:JE}{base:Nat}{v:JJ}{xs:JD}(h:PI w base v xs){g n cap:Nat}(e:v=JM g n cap):base<=g/\g<w.heap.size:=by
 rcases h.own.2 with⟨rfl,_⟩|⟨g',Ee,cur,rfl,hb,hg,_⟩
 all_goals grind
def SlI(fr:Bool)(w:JE)(base:Nat)(v:JJ)(t:JH)(k:IntKind)(xs:JD):Prop:=
 (v=.slice none 0 0/\xs=[])\/∃g cap,v=JM g xs.length cap/\base<=g/\Row fr w g t k xs cap
def PI.sl{w:JE}{base:Nat}{v:JJ}{xs:JD}(h:PI w base v xs):SlI false w base v 3 .i64 xs:=by
 by_cases e:v=.slice none 0 0
 .exact .inl ⟨e,h.nl.1 e⟩
 .obtain⟨g,cap,h1,h2,h3,_⟩:=Row.nP h.own e h.pl;exact .inr ⟨g,cap,h1,h2,h3⟩
def PI.pushed{wr w1:JE}{base:Nat}{v v':JJ}{xs:JD}{y:Int}{o:Obj}(hv:PI wr base v xs)(Aw:w1.ownsRow base 3 1 v' (xs.length+1) (xs.map (Value.int .i64)++[JK y]))(hg:(wr.alloc o).grownBy w1 v.ownBlock)
  (Ej:v'=.slice none 0 0↔v=.slice none 0 0/\1=0) (D8:Ko w1 v') (hb:base<=wr.heap.size):PI w1 base v' (xs++[y])/\Tch base M0 wr w1:=by
 refine⟨⟨by grind,D8,by simp[Ej]⟩,⟨?_,λb BO _=>?_,hg.tape,hg.os,hg.output⟩⟩
 .have:=hg.size;grind[size_alloc]
 .refine(hg.block b (by rw[size_alloc];omega) λe=>?_).trans (J8 _ (by omega));rcases hv.own.2 with⟨rfl,_⟩|⟨g',Ee,cur,rfl,xC,_⟩
  .cases e
  .have:=Aa e
   grind
def MV(m:Nat)(k:JD)(n:Nat):JD:=((k.take n).zipIdx.filter λp=>m.testBit p.2).map (·.1)
def Jpy{m n:Nat}{k:JD}(hn:n<k.length):MV m k (n+1)=if m.testBit n then MV m k n++[k.getD n 0]else MV m k n:=by
 unfold MV;rw[List.take_add_one,List.zipIdx_append,List.filter_append,List.map_append]
 grind
def Jxw{w:JE}{vb:Nat}{v:JJ}{t:JH}(hv:w.heap[vb]?=some (.cells #[v] t)):∀j u,([v]:List JJ)[j]?=some u->w.cell? ((⟨vb,0,none⟩:Addr).add j)=some u:=by
 intro j u hj;cases j with
 |zero=>
  simp at hj;subst hj;exact(cell_of hv 0).trans rfl
 |succ j=>simp at hj
def Jt6(m k:Nat):(bits BinOp.and IntKind.i64 (((m:Int)) / 2 ^ k) 1 == 1)=m.testBit k:=by
 rw[Jic,Nat.testBit,Nat.shiftRight_eq_div_pow]
 grind
def Jky(ks:JD)(hk:ks.length=5)(m:Nat)(w:JE):Calls prog 48 #[.agg (ai .i64 ks),JK m] w λe w'=>∃v,e=.returned v/\SlI false w' w.heap.size v 3 .i64 (MV m ks 5)/\Tch w.heap.size M0 w w':=by
 obtain⟨i0,hi,EY,DJ,DR⟩:=info_parts info3;have hm:maxLen=9223372036854775807:=by decide
 go_enter func48,ntmps48
 go_wp2
 go_loopw [5,7] (λv i wr=>∃k:Nat,k<=5/\i=JK k/\PI wr (w.heap.size+1) v (MV m ks k)/\wr.heap[w.heap.size]?=some (.cells (ai .i64 ks) 104)/\Tch w.heap.size M0 w wr) (λ_ i _=>5-(RowKit.intOf i).toNat)
 case atStart=>exact⟨0,by omega,rfl,PI.nil _ _,Ja _,Tch.refl.alloc (Ad _) _⟩
 case round=>
  obtain⟨k,hk5,rfl,hv,hc,ht⟩:=hrel;have L8:=Jt6 m k;have hlen:(MV m ks k).length<=5:=by unfold MV;rw[FQ];refine BN (List.length_filter_le _ _) ?_;simp;omega
  rcases BF k 5 with Ac|Et
  .have Aq:=cell_of hc k;rw[nO (by omega)]at Aq;have CS:(k:Int)<5:=by omega
   have Iu:=Jpy (m:=m) (n:=k) (k:=ks) (by omega);cases hb:m.testBit k
   .rw[hb]at L8 Iu;simp only[DY,if_false]at Iu;go_wp2;refine⟨⟨k+1,by omega,by go_num,?_,hc,ht⟩,?_⟩
    .grind
    .simp[RowKit.intOf];omega
   .rw[hb]at L8 Iu;simp only[if_true]at Iu;generalize ks.getD k 0=y at *;have Ag:=Jj hc
    go_wp2_with (at_builtin;refine mO _ rfl _ _ 24 rfl (w.heap.size+1) 3 i0 _ 1 8 underlying24 hi EY DJ DR rfl (by decide) _ _ _ rfl (hv.own.alloc _) ⟨wr.heap.size,0,none⟩ 1 1 [.int .i64 y] rfl rfl (Jxw (Ja _)) (by simp[Value.oneCell']) (by omega) (by omega) (by rw[size_alloc];omega) (hv.pl.kept λg n cap e=>J8 _ (hv.lt e).2) (λu hu=>by rcases AL.1 hu with rfl|hu;exact⟨_,_,rfl⟩;cases hu) (Plain.ai (k:=.i64) (xs:=[0])) ?_;intro v' w1 BD AX Ej Ny)
    obtain⟨h1,h2⟩:=hv.pushed BD AX Ej Ny (by omega);refine⟨⟨k+1,by omega,by go_num,?_,(h2.heap _ (by omega) λx=>x).trans hc,ht.trans (h2.mono (by omega) λ_ _ h=>h)⟩,?_⟩
    .grind
    .simp[RowKit.intOf];omega
  .have EC:¬(k:Int)<5:=by omega
   obtain rfl:k=5:=by omega
   clear hc;go_wp2;go_ret;refine⟨_,rfl,?_,ht⟩;rcases hv.sl with h|⟨g,cap,h1,h2,h3⟩
   .exact .inl h
   .exact .inr ⟨g,cap,h1,by omega,h3⟩
structure PX(w:JE)(base:Nat)(v:JJ)(xs:JD):Prop where
 own:w.ownsRow base 5 1 v xs.length (xs.map (Value.int .u8))
 pl:Ko w v
theorem PX.nil(w:JE)(base:Nat):PX w base (.slice none 0 0) []:=⟨⟨rfl,.inl ⟨rfl,rfl⟩⟩,.nil _ _ _⟩
structure KP(base wb:Nat)(w w':JE):Prop where
 size:w.heap.size<=w'.heap.size
 heap:∀b o,w.heap[b]?=some o->b≠wb->(base<=b->∀cur,o≠.cells cur 5)->w'.heap[b]?=some o
 tape:w'.tape=w.tape
 os:w'.os=w.os
 output:w'.output=w.output
section
variable{w w' w1 w2:JE}{base wb:Nat}{v v':JJ}{xs:JD}
def PX.sl(h:PX w base v xs):∃a c,v=.slice a xs.length c:=by
 rcases h.own.2 with⟨rfl,h1⟩|⟨g,cap,cur,rfl,_⟩
 all_goals grind
def PX.sl3(h:PX w base v xs):∃a n c,v=.slice a n c:=by
 obtain⟨a,c,e⟩:=h.sl
 grind
def PX.kept(h:PX w base v xs)(hh:∀b cur,base<=b->w.heap[b]?=some (.cells cur 5)->w'.heap[b]?=some (.cells cur 5)):PX w' base v xs:=by
 rcases h.own.2 with hn|⟨g,cap,cur,rfl,hb,hg,rest⟩
 .obtain⟨rfl,h1⟩:=hn;exact⟨⟨h.own.1,.inl ⟨rfl,h1⟩⟩,.nil _ _ _⟩
 .exact⟨⟨h.own.1,.inr ⟨g,cap,cur,rfl,hb,hh g cur hb hg,rest⟩⟩,h.pl.kept λg' n' Ee e=>by grind⟩
def KP.refl:KP base wb w w:=⟨Ad _,λ_ _ h _ _=>h,rfl,rfl,rfl⟩
def KP.trans(h:KP base wb w w1)(k:KP base wb w1 w2):KP base wb w w2:=⟨BN h.size k.size,λb o hb h1 h2=>k.heap b o (h.heap b o hb h1 h2) h1 h2,k.tape.trans h.tape,k.os.trans h.os,k.output.trans h.output⟩
def KP.tch(t:Tch w.heap.size M0 w w'):KP base wb w w':=⟨t.size,λb o hb _ _=>(t.heap b (Jj hb) λh=>h).trans hb,t.tape,t.os,t.output⟩
theorem KP.alloc(h:KP base wb w w1)(o:Obj):KP base wb w (w1.alloc o):=h.trans (.tch (Tch.refl.alloc (Ad _) _))
def KP.cell(h:KP base wb w w'){b i:Nat}{u:JJ}{arr:JC}{t:JH}(hb:w.heap[b]?=some (.cells arr t))(hc:w.cell? ⟨b,i,none⟩=some u)(hn:b≠wb)(ht:t≠5):w'.cell? ⟨b,i,none⟩=some u:=
 (Du (w:=w) ((h.heap b _ hb hn λ_ cur e=>ht (Obj.cells.inj e).2.1).trans hb.symm)).trans hc
theorem KP.row(h:KP base wb w w'){b cap:Nat}{t:JH}{k:IntKind}{ys:JD}(hr:Row false w b t k ys cap)(hn:b≠wb)(ht:t≠5):Row false w' b t k ys cap:=by obtain⟨cur,⟨z,h1,h2⟩,h3⟩:=hr;obtain rfl:=h2 rfl;exact⟨cur,⟨(0,0),h.heap b _ h1 hn λ_ cur e=>ht (Obj.cells.inj e).2.1,λ_=>rfl⟩,h3⟩
def KP.low(h:KP base wb w w'){b:Nat}(hb:b<base)(hw:b<w.heap.size)(hn:b≠wb):w'.heap[b]?=w.heap[b]?:=by rw[Bz hw];exact h.heap b _ (Bz hw) hn λh=>by omega
def PX.pushed{wr:JE}{o:Obj}{y:Int}(hv:PX wr base v xs)(Aw:w1.ownsRow base 5 1 v' (xs.length+1) (xs.map (Value.int .u8)++[.int .u8 y]))(hg:(wr.alloc o).grownBy w1 v.ownBlock)(D8:Ko w1 v')(hw:wb<base):PX w1 base v' (xs++[y])/\KP base wb wr w1/\∀o',wr.heap[wb]?=some o'->w1.heap[wb]?=some o':=by
 refine⟨⟨by grind,D8⟩,⟨?_,λb o' hb _ h2=>?_,hg.tape,hg.os,hg.output⟩,λo' hb=>?_⟩
 .have:=hg.size;grind[size_alloc]
 .have Ac:=Jj hb;refine(hg.block b (by rw[size_alloc];omega) λe=>?_).trans ((J8 _ Ac).trans hb);rcases hv.own.2 with⟨rfl,_⟩|⟨g',Ee,cur,rfl,xC,OJ,_⟩
  .cases e
  .have:=Aa e
   grind
 .have Ac:=Jj hb;refine(hg.block wb (by rw[size_alloc];omega) λe=>?_).trans ((J8 _ Ac).trans hb);rcases hv.own.2 with⟨rfl,_⟩|⟨g',Ee,cur,rfl,xC,OJ,_⟩
  .cases e
  .have:=Aa e
   grind
def PX.lt(h:PX w base v xs){g n cap:Nat}(e:v=JM g n cap):base<=g/\g<w.heap.size:=by
 rcases h.own.2 with⟨rfl,_⟩|⟨g',Ee,cur,rfl,hb,hg,_⟩
 all_goals grind
def PX.set(h:PX w base v xs)(hw:wb<base)(u:JJ):PX (w.setCell ⟨wb,0,none⟩ u) base v xs:=h.kept λb cur hb hg=>(Jm _ _ (show b≠wb by omega)).trans hg
def KP.set(h:KP base wb w w1)(u:JJ):KP base wb w (w1.setCell ⟨wb,0,none⟩ u):=⟨by rw[size_set];exact h.size,λb o hb hn h2=>(Jm _ _ hn).trans (h.heap b o hb hn h2),h.tape,h.os,h.output⟩
end
def WrB(w:JE)(base wb:Nat)(bs:JD):Prop:=∃v,w.heap[wb]?=some (.cells #[v] 122)/\PX w base v bs
def bM(n:Nat):JD:=if 128<=n then bits BinOp.or IntKind.u8 (IntKind.u8.wrap n) 128::bM (n / 128)else[IntKind.u8.wrap n]
termination_by n
decreasing_by omega
def J074{n:Nat}(h:128<=n):bM n=bits BinOp.or IntKind.u8 (IntKind.u8.wrap n) 128::bM (n / 128):=by rw[bM,if_pos h]
theorem qM{n:Nat}(h:¬128<=n):bM n=[IntKind.u8.wrap n]:=by rw[bM,if_neg h]
def J075:∀(k n:Nat),n<128 ^ (k+1)->(bM n).length<=k+1
 |0,n,h=>by grind[qM]
 |k+1,n,h=>by
  by_cases h1:128<=n
  .rw[J074 h1,Lh];have:=J075 k (n / 128) (by grind);omega
  grind[qM]
def UN{n:Nat}(h:n<18446744073709551616):(bM n).length<=10:=J075 9 n (DX h (by decide))
def EF(l:JD):JD:=l.flatMap λx=>bM x.toNat
def J07v{l:JD}{k:Nat}(h:k<l.length):EF (l.take (k+1))=EF (l.take k)++bM (l.getD k 0).toNat:=by
 unfold EF
 grind[List.take_add_one,List.getElem?_eq_getElem]
theorem YO{l:JD}(h:∀x∈l,x<=18446744073709551615):(EF l).length<=10*l.length:=by
 induction l with
 |nil=>simp[EF]
 |cons x l ih=>
  have h1:=ih λy hy=>h y (by simp[hy]);have h2:=UN (n:=x.toNat) (by have:=h x (by simp);omega);unfold EF at h1 ⊢
  grind
def tX{w:JE}{base wb g cap:Nat}{bs xs:JD}(hw:wb<base)(hb:base<=w.heap.size)(hW:WrB w base wb bs)(hR:0<xs.length->Row false w g 110 .u64 xs cap)(hg:0<xs.length->g≠wb)(hx:∀x∈xs,0<=x/\x<=18446744073709551615)(hl:bs.length+10*xs.length<=1000000000){sl:JJ}(CX:∃p c,sl=.slice p xs.length c/\(0<xs.length->p=some ⟨g,0,none⟩)) :
  Calls prog 45 #[JL wb,sl] w λe w'=>(∃v,e=.returned v)/\WrB w' base wb (bs++EF xs)/\KP base wb w w':=by
 obtain⟨pa,pc,rfl,xY⟩:=CX;obtain⟨i0,hi,EY,DJ,DR⟩:=info_parts info5;have hmx:maxLen=9223372036854775807:=by decide
 obtain⟨n,hn⟩:∃n,xs.length=n:=⟨_,rfl⟩;rw[hn]at hl hR hg xY ⊢;have hkl:∀k,(EF (xs.take k)).length<=10*n:=λk=>by
  grind[YO,List.mem_of_mem_take,List.length_take]
 have Ef:EF (xs.take n)=EF xs:=by grind
 go_enter func45,ntmps45
 go_wp2
 go_loopw [8] (λi wr=>∃k:Nat,k<=n/\i=JK k/\WrB wr base wb (bs++EF (xs.take k))/\KP base wb w wr) (λi _=>n-(RowKit.intOf i).toNat)
 case atStart=>exact⟨0,by omega,rfl,by simpa[EF]using hW,.refl⟩
 case round=>
  obtain⟨k,hk,rfl,Xn,hkr⟩:=hrel;rcases BF k n with Ac|Et
  .have hR':=hkr.row (hR (by omega)) (hg (by omega)) (by decide);have g1:=hR'.cell (i:=k) (by omega);obtain rfl:=xY (by omega);have MN:=hx (xs.getD k 0) (by grind);have hs:=J07v (l:=xs) (k:=k) (by omega);have hkl1:=hkl (k+1);obtain⟨m0,OU⟩:∃m:Nat,xs.getD k 0=m:=⟨(xs.getD k 0).toNat,by omega⟩;rw[OU]at g1 MN hs;rw[Int.toNat_natCast]at hs;have CS:(k:Int)<n:=by omega
   clear hR hR' hkl OU Ef hx;go_wp2
   go_loopw [5] (λx wx=>∃(m:Nat)(done:JD),x=.int .u64 m/\m<=18446744073709551615/\WrB wx base wb done/\done++bM m=bs++EF (xs.take (k+1))/\KP base wb w wx) (λx _=>(RowKit.intOf x).toNat)
   case atStart=>exact⟨m0,_,rfl,by omega,Xn,by simp_all,hkr⟩
   case round=>
    clear Xn hkr g1;obtain⟨m,done,rfl,hm,⟨v,hv,hp⟩,hd,xZ⟩:=hrel;have c0:=(cell_of hv 0).trans rfl;have SQ:done.length<=1000000000:=by have:=congrArg List.length hd;rw[List.length_append,List.length_append]at this;omega
    have Ag:=xZ.size;by_cases Xp:128<=m
    .have BO:(m:Int)>=128:=by omega
     have hw8:IntKind.u8.wrap (m:Int)=(m:Int) % 256:=by rw[IntKind.wrap_u8]
     rw[J074 Xp,hw8]at hd
     go_wp2_with (at_builtin;refine mO _ rfl _ _ 120 rfl base 5 i0 _ 1 1 underlying120 hi EY DJ DR rfl (by decide) _ _ _ rfl (hp.own.alloc _) ⟨wr.heap.size,0,none⟩ 1 1 [.int .u8 (bits BinOp.or IntKind.u8 ((m:Int) % 256) 128)] rfl rfl (Jxw (Ja _)) (by simp[Value.oneCell']) (by omega) (by omega) (by rw[size_alloc];omega) (hp.pl.kept λg n cap e=>J8 _ (hp.lt e).2) (λu hu=>by rcases AL.1 hu with rfl|hu;exact⟨_,_,rfl⟩;cases hu) (Plain.ai (k:=.u8) (xs:=[0])) ?_;intro v' w1 BD AX Ej Ny;obtain⟨z1,z2,z3⟩:=hp.pushed BD AX Ny hw;have z4:=z3 _ hv;have z5:=FZ z4 0;have z6:=(cell_of z4 0).trans rfl;obtain⟨zC,vn',zF,rfl⟩:=z1.sl3;clear BD AX Ny Ej hp c0 hv)
     refine⟨⟨m / 128,_,by go_num,by omega,⟨_,?_,z1.set hw _⟩,by simp_all,(xZ.trans z2).set _⟩,by simp[RowKit.intOf];omega⟩;exact heap_set z4 0 _
    .have BO:¬(m:Int)>=128:=by omega
     have hw8:IntKind.u8.wrap (m:Int)=m:=by rw[IntKind.wrap_u8];omega
     rw[qM Xp,hw8]at hd
     go_wp2_with (at_builtin;refine mO _ rfl _ _ 120 rfl base 5 i0 _ 1 1 underlying120 hi EY DJ DR rfl (by decide) _ _ _ rfl (hp.own.alloc _) ⟨wr.heap.size,0,none⟩ 1 1 [.int .u8 (m:Int)] rfl rfl (Jxw (Ja _)) (by simp[Value.oneCell']) (by omega) (by omega) (by rw[size_alloc];omega) (hp.pl.kept λg n cap e=>J8 _ (hp.lt e).2) (λu hu=>by rcases AL.1 hu with rfl|hu;exact⟨_,_,rfl⟩;cases hu) (Plain.ai (k:=.u8) (xs:=[0])) ?_;intro v' w1 BD AX Ej Ny;obtain⟨z1,z2,z3⟩:=hp.pushed BD AX Ny hw;have z4:=z3 _ hv;have z5:=FZ z4 0;have z6:=(cell_of z4 0).trans rfl;obtain⟨zC,vn',zF,rfl⟩:=z1.sl3;clear BD AX Ny Ej hp c0 hv)
     refine⟨⟨k+1,by omega,by go_num,⟨_,heap_set z4 0 _,by rw[<- hd];exact z1.set hw _⟩,(xZ.trans z2).set _⟩,by simp[RowKit.intOf];omega⟩
  .obtain rfl:k=n:=by omega
   have EC:¬((k:Int)<k):=by omega
   rw[Ef]at Xn;go_wp2;go_end0
   grind
def Ym(n:Int):Int:=bits BinOp.xor IntKind.u64 (IntKind.u64.wrap (IntKind.u64.wrap n*2)) (IntKind.u64.wrap (n / 9223372036854775808))
def yL(n:Int):0<=Ym n/\Ym n<=18446744073709551615:=bits_within _ _ _ _
def J03v{n:Int}(h1:-9223372036854775808<=n)(h2:n<=9223372036854775807)(w:JE):Calls prog 46 #[JK n] w λe w'=>e=.returned (.int .u64 (Ym n))/\w'=w:=by
 go_enter func46,ntmps46
 go_wp2;go_ret;exact⟨rfl,rfl⟩
def Jkn(c:Int):Int:=bits BinOp.xor IntKind.u32 (c / 2) (bits BinOp.and IntKind.u32 (-(bits BinOp.and IntKind.u32 c 1) % 4294967296) 3988292384)
def jJ:Nat->Int->Int
 |0,c=>c
 |n+1,c=>Jkn (jJ n c)
def qY(s:ByteArray)(k:Nat):Int:=if h:k<s.size then(s[k].toNat:Int) % 4294967296 else 0
def jK(s:ByteArray):Nat->Int
 |0=>4294967295
 |k+1=>jJ 8 (bits BinOp.xor IntKind.u32 (jK s k) (qY s k))
def qV{x:Int}(h:IntKind.u32.min<=x/\x<=IntKind.u32.max):0<=x/\x<=4294967295:=by simpa[IntKind.min,IntKind.max,IntKind.signed,IntKind.bits]using h
def J0a4{c:Int}(h:0<=c/\c<=4294967295):∀n,0<=jJ n c/\jJ n c<=4294967295
 |0=>h
 |n+1=>by unfold jJ Jkn;simp_all[qV,bits_within]
def J0a5(s:ByteArray):∀n,0<=jK s n/\jK s n<=4294967295
 |0=>by unfold jK;omega
 |n+1=>by unfold jK;simp_all[J0a4,qV,bits_within]
def sumF(s:ByteArray):Int:=bits BinOp.xor IntKind.u32 IntKind.u32.max (jK s s.size)
def J0a6(s:ByteArray):0<=sumF s/\sumF s<=4294967295:=qV (bits_within _ .u32 _ _)
def J08r(s:ByteArray)(hs:s.size<=1000000000)(w:JE):Calls prog 51 #[.string s] w λe w'=>e=.returned (.int .u32 (sumF s))/\w'=w:=by
 have hb:=J0a5 s
 go_enter func51,ntmps51
 go_wp2
 go_loopw [3,4] (λc i wr=>∃k:Nat,k<=s.size/\i=JK k/\c=.int .u32 (jK s k)/\wr=w) (λ_ i _=>s.size-(RowKit.intOf i).toNat)
 case atStart=>exact⟨0,by omega,rfl,rfl,rfl⟩
 case round=>
  obtain⟨k,hk,rfl,rfl,rfl⟩:=hrel;rcases BF k s.size with Ac|Et
  .have CS:(k:Int)<s.size:=by omega
   have MF:=hb k;have AQ:jK s (k+1)=jJ 8 (bits BinOp.xor IntKind.u32 (jK s k) (qY s k)):=rfl;generalize jK s k=c at *;unfold qY at AQ;rw[dif_pos Ac]at AQ;go_wp2;generalize bits BinOp.xor IntKind.u32 c ((s[k].toNat:Int) % 4294967296)=d at *;clear MF hb
   go_loopw [3,17] (λc i wx=>∃j:Nat,j<=8/\i=JK j/\c=.int .u32 (jJ j d)/\wx=wr) (λ_ i _=>8-(RowKit.intOf i).toNat)
   case atStart=>exact⟨0,by omega,rfl,rfl,rfl⟩
   case round=>
    obtain⟨j,hj,rfl,rfl,rfl⟩:=hrel;rcases BF j 8 with hj8|hj8
    .have hj':(j:Int)<8:=by omega
     have Bo:jJ (j+1) d=Jkn (jJ j d):=rfl;unfold Jkn at Bo;generalize jJ j d=e at *;go_wp2;exact⟨⟨j+1,by omega,by go_num,by rw[Bo],trivial⟩,by simp[RowKit.intOf];omega⟩
    .have hj':¬(j:Int)<8:=by omega
     obtain rfl:j=8:=by omega
     go_wp2;exact⟨⟨k+1,by omega,by go_num,by rw[AQ],trivial⟩,by simp[RowKit.intOf];omega⟩
  .obtain rfl:k=s.size:=by omega
   have EC:¬((s.size:Int)<s.size):=by omega
   go_wp2;go_ret;exact⟨rfl,rfl⟩
def iQ(bs:JD):ByteArray:=bs.foldl (λr n=>r.push (UInt8.ofNat n.toNat)) ByteArray.empty
def J06m:∀(bs:JD)(r:ByteArray),(bs.foldl (λr n=>r.push (UInt8.ofNat n.toNat)) r).size=r.size+bs.length
 |[],r=>rfl
 |b::bs,r=>by rw[List.foldl_cons,J06m bs,Lh,ByteArray.size_push];omega
def J08s(bs:JD):(iQ bs).size=bs.length:=by unfold iQ;rw[J06m];simp
def und9:prog.underlying 9=some .string:=by kernel_rfl
def und5:prog.underlying 5=some (.int .u8):=by kernel_rfl
section
variable{w:JE}{base wb:Nat}{v:JJ}{bs:JD}
def PX.str(h:PX w base v bs)(Ap:bs≠[]):(convert 120 9 v).run prog w=.ok (.string (iQ bs)) w:=by
 rcases h.own.2 with⟨rfl,h1⟩|⟨g,cap,cur,rfl,hb,hg,BA,Nj,Ag,hx⟩
 .grind
 .rw[run_convert_bytes_string w 120 9 5 _ _ _ underlying120 und5 und9];refine run_bytesToString w _ _ _ bs ?_;have:=run_loadCells_list (P:=prog) (w:=w) ⟨g,0,none⟩ (bs.map (Value.int .u8)) λj u hj=>?_
  .grind
  .have h2:(List.take (bs.length*1) cur.toList)[j]?=some u:=by grind
   have Ac:j<bs.length:=by grind
   rw[List.getElem?_take,if_pos (by omega),Array.getElem?_toList]at h2;have e:(⟨g,0,none⟩:Addr).add j=⟨g,j,none⟩:=by
    cases j with
    |zero=>rfl
    |succ j=>simp[Addr.add]
   grind[cell_of]
end
section
variable{fr:Bool}{w w':JE}{b r cap:Nat}{rs:JD}
def Jpj(h:Row fr w r 110 .u64 rs cap)(hn:rs.length<=1000)(h0:0<rs.length)(hr:∀x∈rs,0<=x/\x<=9223372036854775807) :
  Calls prog 72 #[JM r rs.length cap] w λe w'=>∃g c',e=.returned (JM g rs.length c')/\w.heap.size<=g/\Row false w' g 3 .i64 rs c'/\Tch w.heap.size M0 w w':=by
 have X7:=mkRow 24 3 .i64 8 underlying24 info3 (by omega) rs.length (by omega) w;have FI:=nR w 3 .i64 rs.length;have MI:=h.kept (w':=w.alloc (.cells (Array.replicate rs.length (JK 0)) 3)) (J8 _ h.lt);have Bf:Tch w.heap.size M0 w (w.alloc (.cells (Array.replicate rs.length (JK 0)) 3)):=Tch.refl.alloc (Ad _) _;have XI:=h.lt;generalize KO:rs.length=n at *;generalize w.alloc (.cells (Array.replicate n (JK 0)) 3)=w0 at *;clear h
 go_enter func72,ntmps72
 go_wp2
 go_loopw [11] (λi wr=>∃k:Nat,k<=n/\i=JK k/\Row false wr w.heap.size 3 .i64 (F8 rs (List.replicate n 0) k) n/\Row fr wr r 110 .u64 rs cap/\Tch w.heap.size M0 w wr) (λi _=>n-(RowKit.intOf i).toNat)
 case atStart=>exact⟨0,by omega,rfl,by grind[ZY],MI,Bf⟩
 case round=>
  obtain⟨k,hk,rfl,hd,hs,ht⟩:=hrel;clear FI MI Bf X7;have Eu:rs.length=(List.replicate n (0:Int)).length:=by grind
  rcases BF k n with Ac|Et
  .have g1:=hs.cell (i:=k) (KO.symm▸Ac);have g2:=hd.cell (i:=k) (by grind[Rw,List.length_replicate]);have g3:=hd.frozen k;have CS:(k:Int)<n:=by omega
   have hx:=hr (rs.getD k 0) (by grind);generalize MN:rs.getD k 0=x at *;have V9:IntKind.i64.wrap x=x:=by rw[IntKind.wrap_i64];omega
   have J08c:wrap64 x=x:=by unfold wrap64;omega
   have kL:r≠w.heap.size:=by omega
   have hp:(F8 rs (List.replicate n 0) k).set k x=F8 rs (List.replicate n 0) (k+1):=aB Eu (by grind) MN.symm;go_wp2;refine⟨⟨k+1,by omega,by go_num,?_,hs.kept (Jm _ _ kL),ht.set (.inl (Ad _)) _⟩,by simp[RowKit.intOf];omega⟩;have:=hd.set k x
   grind
  .have EC:¬((k:Int)<n):=by omega
   obtain rfl:k=n:=by omega
   have Y6:¬((k:Int)<k):=by omega
   go_wp2;go_ret;rw[aA KO (by simp)]at hd;exact⟨_,_,rfl,Ad _,hd,ht⟩
end
def IB(bits x:Int):Nat:=(x / 2 ^ (64-bits).toNat).toNat
def UQ(bits x:Int):Int:=min (64-(Lib.bitLen (x*2 ^ bits.toNat % 18446744073709551616).toNat:Int)) (64-bits)+1
def Om(bits:Int)(rs:JD)(x:Int):JD:=rs.set (IB bits x) (max (rs.getD (IB bits x) 0) (UQ bits x))
def bitLenAux_le:∀f x,Lib.bitLenAux f x<=f
 |0,x=>by simp[Lib.bitLenAux]
 |f+1,x=>by have:=bitLenAux_le f (x / 2);unfold Lib.bitLenAux;split<;>omega
theorem bitLen_le(x:Nat):Lib.bitLen x<=64:=bitLenAux_le 64 x
def Jlk{bits x:Int}(hb:4<=bits/\bits<=6):1<=UQ bits x/\UQ bits x<=61:=by have:=bitLen_le (x*2 ^ bits.toNat % 18446744073709551616).toNat;unfold UQ;omega
def Jll{bits x:Int}(hb:4<=bits/\bits<=6)(hx:0<=x/\x<=18446744073709551615):IB bits x<2 ^ bits.toNat:=by
 have:bits=4\/bits=5\/bits=6:=by omega
 rcases this with rfl|rfl|rfl<;>simp[IB]<;>omega
def J95{bits x:Int}{rs:JD}:(Om bits rs x).length=rs.length:=by simp[Om]
section
variable{fr:Bool}{w w':JE}{b r cap:Nat}{bits:Int}{rs:JD}
def Jzw(h:DV false w b r cap bits rs)(hb:4<=bits/\bits<=6)(hl:rs.length=2 ^ bits.toNat)(hr:∀x∈rs,0<=x/\x<=255)(OH:b≠r){x:Int}(hx:0<=x/\x<=18446744073709551615)(v:Int) :
  Calls prog 248 #[JL b,.int .u64 x,JK v] w λe w'=>(∃v,e=.returned v)/\DV false w' b r cap bits (Om bits rs x)/\Tch w.heap.size (λy=>y=r) w w':=by
 have hi:=Jll hb hx;have hn:=Jlk (x:=x) hb;have c0:=h.c0;have c1:=h.c1;have Aj:=h.row.cell (i:=IB bits x) (by omega);have iI:=h.row.frozen (IB bits x);have hy:=hr (rs.getD (IB bits x) 0) (by grind);have fin:∀m:Int,m=max (rs.getD (IB bits x) 0) (UQ bits x)->∀wx:JE,wx.heap=w.heap->wx.tape=w.tape->wx.os=w.os->wx.output=w.output ->
   DV false (wx.setCell ⟨r,IB bits x,none⟩ (.int .u8 m)) b r cap bits (Om bits rs x)/\Tch w.heap.size (λy=>y=r) w (wx.setCell ⟨r,IB bits x,none⟩ (.int .u8 m)):=by
  rintro m rfl wx e1 e2 e3 e4;have Lm:∀b:Nat,wx.heap[b]?=w.heap[b]?:=λb=>by rw[e1]
  refine⟨⟨?_,?_⟩,Tch.set ⟨by grind,λb _ _=>Lm b,e2,e3,e4⟩ (.inr (show(λy=>y=r) r from rfl)) _⟩
  .rw[J95];exact h.hd.kept ((Jm _ _ OH).trans (Lm b))
  .have:=(h.row.kept (w':=wx) (Lm r)).set (IB bits x) (max (rs.getD (IB bits x) 0) (UQ bits x));exact this
 have L8:bits=4\/bits=5\/bits=6:=by omega
 obtain⟨L,Ig,Es,BA⟩:∃L:Int,(0<=L/\L<=64)/\UQ bits x=min L (64-bits)+1/\∀w,Calls prog 252 #[.int .u64 (IntKind.u64.wrap (x*2 ^ bits.toNat))] w λe w'=>e=.returned (JK L)/\w'=w:=by
  refine⟨64-(Lib.bitLen (x*2 ^ bits.toNat % 18446744073709551616).toNat:Int),?_,rfl,λw=>?_⟩
  all_goals grind[bitLen_le,IntKind.wrap_u64,Tryz.bits_LeadingZeros64]
 generalize hN:UQ bits x=N at *;generalize hI:IB bits x=I at *;generalize hY:rs.getD I 0=Y at *;rcases L8 with rfl|rfl|rfl
 .have Uc:I=(x / 1152921504606846976).toNat:=by rw[<- hI];simp[IB]
  have gG:N=min L 60+1:=Es;have L9:Hid (∀w,Calls prog 252 #[.int .u64 (IntKind.u64.wrap (x*16))] w λe w'=>e=.returned (JK L)/\w'=w):=BA;have BX:IntKind.u8.wrap (min L 60+1)=N:=by rw[IntKind.wrap_u8];omega
  have DI:IntKind.u8.wrap (IntKind.i64.wrap (min L (IntKind.i64.wrap 60)+1))=N:=by grind[IntKind.wrap_u8,IntKind.wrap_i64]
  have hlen:rs.length=16:=hl;have hii:0<=x / 1152921504606846976/\x / 1152921504606846976<16:=by omega
  have KJ:¬x / 1152921504606846976<0:=by omega
  clear BA Es hI hN;subst Uc
  go_enter func248,ntmps248
  go_wp2_with fail
  go_region_held3 (λw1=>w1.cell? ⟨b,0,none⟩=some (JK 4)) (go_keep) ((go_at_call 252;refine(L9 _).mono ?_;rintro e w' ⟨rfl,rfl⟩))
  all_goals go_wp2_with fail
  all_goals go_region
  all_goals go_wp2
  all_goals go_end0
  all_goals(try simp only[DI,BX])
  all_goals exact(λq=>⟨⟨_,rfl⟩,DV.kept q.1 rfl rfl,⟨q.2.size,q.2.heap,q.2.tape,q.2.os,q.2.output⟩⟩) (fin (max Y (min L 60+1)) (by rw[<- gG]) w rfl rfl rfl rfl)
 .have Uc:I=(x / 576460752303423488).toNat:=by rw[<- hI];simp[IB]
  have gG:N=min L 59+1:=Es;have L9:Hid (∀w,Calls prog 252 #[.int .u64 (IntKind.u64.wrap (x*32))] w λe w'=>e=.returned (JK L)/\w'=w):=BA;have BX:IntKind.u8.wrap (min L 59+1)=N:=by rw[IntKind.wrap_u8];omega
  have DI:IntKind.u8.wrap (IntKind.i64.wrap (min L (IntKind.i64.wrap 59)+1))=N:=by grind[IntKind.wrap_u8,IntKind.wrap_i64]
  have hlen:rs.length=32:=hl;have hii:0<=x / 576460752303423488/\x / 576460752303423488<32:=by omega
  have KJ:¬x / 576460752303423488<0:=by omega
  clear BA Es hI hN;subst Uc
  go_enter func248,ntmps248
  go_wp2_with fail
  go_region_held3 (λw1=>w1.cell? ⟨b,0,none⟩=some (JK 5)) (go_keep) ((go_at_call 252;refine(L9 _).mono ?_;rintro e w' ⟨rfl,rfl⟩))
  all_goals go_wp2_with fail
  all_goals go_region
  all_goals go_wp2
  all_goals go_end0
  all_goals(try simp only[DI,BX])
  all_goals exact(λq=>⟨⟨_,rfl⟩,DV.kept q.1 rfl rfl,⟨q.2.size,q.2.heap,q.2.tape,q.2.os,q.2.output⟩⟩) (fin (max Y (min L 59+1)) (by rw[<- gG]) w rfl rfl rfl rfl)
 .have Uc:I=(x / 288230376151711744).toNat:=by rw[<- hI];simp[IB]
  have gG:N=min L 58+1:=Es;have L9:Hid (∀w,Calls prog 252 #[.int .u64 (IntKind.u64.wrap (x*64))] w λe w'=>e=.returned (JK L)/\w'=w):=BA;have BX:IntKind.u8.wrap (min L 58+1)=N:=by rw[IntKind.wrap_u8];omega
  have DI:IntKind.u8.wrap (IntKind.i64.wrap (min L (IntKind.i64.wrap 58)+1))=N:=by grind[IntKind.wrap_u8,IntKind.wrap_i64]
  have hlen:rs.length=64:=hl;have hii:0<=x / 288230376151711744/\x / 288230376151711744<64:=by omega
  have KJ:¬x / 288230376151711744<0:=by omega
  clear BA Es hI hN;subst Uc
  go_enter func248,ntmps248
  go_wp2_with fail
  go_region_held3 (λw1=>w1.cell? ⟨b,0,none⟩=some (JK 6)) (go_keep) ((go_at_call 252;refine(L9 _).mono ?_;rintro e w' ⟨rfl,rfl⟩))
  all_goals go_wp2_with fail
  all_goals go_region
  all_goals go_wp2
  all_goals go_end0
  all_goals(try simp only[DI,BX])
  all_goals exact(λq=>⟨⟨_,rfl⟩,DV.kept q.1 rfl rfl,⟨q.2.size,q.2.heap,q.2.tape,q.2.os,q.2.output⟩⟩) (fin (max Y (min L 58+1)) (by rw[<- gG]) w rfl rfl rfl rfl)
end
def Px(fr:Bool)(w:JE)(ba:JI)(bs:JD):Prop:=bs=[]\/∃bb cap,ba=some ⟨bb,0,none⟩/\Row fr w bb 3 .i64 bs cap
def Jv(bs:JD)(v:Int):Nat:=bs.countP (· < v)+if bs.contains v then 1 else 0
def NH(bs:JD)(hs:JD)(v:Int):JD:=hs.set (Jv bs v) (wrap64 (hs.getD (Jv bs v) 0+1))
def ZP{bs hs:JD}{v:Int}:(NH bs hs v).length=hs.length:=by simp[NH]
def Jch{bs:JD}(h:bs.Pairwise (· < ·))(v:Int):Jv bs v<bs.length+1:=by
 unfold Jv
 grind[Nat.not_le,List.countP_eq_length,Nat.le_antisymm,List.countP_le_length]
section
variable{fr:Bool}{w w':JE}{b r cap:Nat}{ba:JI}{nb cb:Nat}{hs bs:JD}
def Jpk(h:Px fr w ba bs)(hn:bs.length<=1000)(hs:bs.Pairwise (· < ·))(c:Nat)(x:Int) :
  Calls prog 259 #[.slice ba bs.length c,JK x] w λe w'=>e=.returned (.tuple #[JK (bs.countP (· < x):Nat),.bool (bs.contains x)])/\∃q,w'=w.drewN q:=by
 rcases h with rfl|⟨bb,cap,rfl,hr⟩
 .refine(Tryz.slices_BinarySearch_int_empty ba c x w).mono ?_;rintro e w' ⟨rfl,rfl⟩;exact⟨rfl,0,rfl⟩
 .have:=Tryz.slices_BinarySearch_int bb 0 bs.length c bs x w (Ad _) (by omega) (λj hj=>by rw[Nat.zero_add];exact hr.cell hj) (by rw[List.take_length];exact hs.imp λh=>by omega)
  grind
def Jxm(h:EZ false w b r cap ba bs.length cb hs)(hB:Px fr w ba bs)(hn:bs.length<=1000)(IV:bs.Pairwise (· < ·))(hl:hs.length=bs.length+1)(OH:b≠r)(x v:Int) :
  Calls prog 255 #[JL b,.int .u64 x,JK v] w λe w'=>(∃v,e=.returned v)/\EZ false w' b r cap ba bs.length cb (NH bs hs v)/\Tch w.heap.size (λy=>y=r) w w':=by
 have c0:=h.c0;have c1:=h.c1;have hi:=Jch IV v;have Aj:=h.row.cell (i:=Jv bs v) (by omega);have iI:=h.row.frozen (Jv bs v);have hsr:=Jpk hB hn IV cb v;have fin:Hid (∀wx:JE,wx.heap=w.heap->wx.tape=w.tape->wx.os=w.os->wx.output=w.output ->
   EZ false (wx.setCell ⟨r,Jv bs v,none⟩ (JK (wrap64 (hs.getD (Jv bs v) 0+1)))) b r cap ba bs.length cb (NH bs hs v)/\Tch w.heap.size (λy=>y=r) w (wx.setCell ⟨r,Jv bs v,none⟩ (JK (wrap64 (hs.getD (Jv bs v) 0+1))))):=by
  rintro wx e1 e2 e3 e4;have Lm:∀b:Nat,wx.heap[b]?=w.heap[b]?:=λb=>by rw[e1]
  refine⟨⟨?_,?_⟩,Tch.set ⟨by grind,λb _ _=>Lm b,e2,e3,e4⟩ (.inr (show(λy=>y=r) r from rfl)) _⟩
  .rw[ZP];exact h.hd.kept ((Jm _ _ OH).trans (Lm b))
  .exact(h.row.kept (w':=wx) (Lm r)).set (Jv bs v) (wrap64 (hs.getD (Jv bs v) 0+1))
 generalize hY:hs.getD (Jv bs v) 0=Y at *;have hlen:hs.length=bs.length+1:=hl;have hu:Jv bs v=bs.countP (· < v)+if bs.contains v then 1 else 0:=rfl
 generalize Jv bs v=I at *;generalize bs.countP (· < v)=N at *;generalize bs.length=n at *;cases hcn:bs.contains v with
 |true=>
  rw[hcn]at hu hsr;have hI:I=N+1:=hu;clear hu;subst hI
  go_enter func255,ntmps255
  go_wp2_with (go_at_call 259;refine hsr.mono ?_;rintro e w1 ⟨rfl,q,rfl⟩)
  go_end0;exact⟨⟨_,rfl⟩,fin _ rfl rfl rfl rfl⟩
 |false=>
  rw[hcn]at hu hsr;have hI:I=N:=hu;clear hu;subst hI
  go_enter func255,ntmps255
  go_wp2_with (go_at_call 259;refine hsr.mono ?_;rintro e w1 ⟨rfl,q,rfl⟩)
  go_end0;exact⟨⟨_,rfl⟩,fin _ rfl rfl rfl rfl⟩
end
open Go.Shelf
section
variable{fr:Bool}{w w':JE}{b:Nat}{pr:Option (Nat × Nat)}{K:Int}{ls:JD}
def Jmn{g c':Nat}(hc:c'<=maxLen)(hg:w.heap.size<=g)(Aj:Row false w' g 110 .u64 ls c')(ht:Tch w.heap.size M0 w w') :
  ∃b' r' c2,Ending.returned (Value.iface 192 (JL w'.heap.size))=.returned (.iface 192 (JL b'))/\w.heap.size<=b'/\w.heap.size<=r'/\b'≠r'/\Gf false (w'.alloc (.cells #[JK K,JM g ls.length c'] 194)) b' (some (r',c2)) K ls/\Tch w.heap.size M0 w (w'.alloc (.cells #[JK K,JM g ls.length c'] 194)):=
 ⟨_,g,c',rfl,ht.size,hg,by have:=Aj.lt;omega,⟨⟨(0,0),Ja _,λ_=>rfl⟩,Aj.kept (J8 _ Aj.lt),hc⟩,ht.alloc ht.size _⟩
def Jsz{r cap:Nat}{xs:JD}(h:Row fr w r 110 .u64 xs cap)(hn:xs.length<=100000)(c:Nat):Calls prog 214 #[JM r xs.length c] w λe w'=>∃g c',e=.returned (JM g xs.length c')/\c'<=maxLen/\w.heap.size<=g/\Row false w' g 110 .u64 xs c'/\Tch w.heap.size M0 w w':=by
 grind[Jlj]
def Jpp{r c:Nat}(h:Gf fr w b (some (r,c)) K ls)(hn:ls.length<=1000) :
  Calls prog 263 #[JL b] w λe w'=>∃b' r' c',e=.returned (.iface 192 (JL b'))/\w.heap.size<=b'/\w.heap.size<=r'/\b'≠r'/\Gf false w' b' (some (r',c')) K ls/\Tch w.heap.size M0 w w':=by
 have c0:=h.c0;have c1:=h.c1;have BA:=Jsz (w:=w.drew) (h.row.1.kept rfl) (by omega) c;have hb:=h.hd.lt;simp only[lval]at c1
 go_enter func263,ntmps263
 go_wp2
 go_region_with (go_at_call 214;refine BA.mono ?_;rintro e w' ⟨g,c',rfl,hc,hg,Aj,ht⟩;have d0:=(ht.cell (a:=⟨b,0,none⟩) hb (λx=>x)).trans c0;have d1:=(ht.cell (a:=⟨b,1,none⟩) hb (λx=>x)).trans c1)
 all_goals go_wp2
 all_goals go_ret
 all_goals exact Jmn hc hg Aj ht.bW
theorem Jiq{r c:Nat}(h:Gf fr w b (some (r,c)) K ls)(hn:ls.length<=1000) :
  Calls prog 265 #[JL b] w λe w'=>∃g c',e=.returned (JM g ls.length c')/\w.heap.size<=g/\Row false w' g 110 .u64 ls c'/\Tch w.heap.size M0 w w':=by
 have c1:=h.c1;have BA:=Jlj h.row.1 (by omega) c;simp only[lval]at c1
 go_enter func265,ntmps265
 go_wp2_with (go_at_call 214;refine BA.mono ?_;rintro e w' ⟨g,c',rfl,hg,Aj,ht,_⟩)
 go_ret;exact⟨g,c',rfl,hg,Aj,ht⟩
def Jgn{K:Int}:∀(ys ls:JD),Ep ls->(ls.length:Int)<=K->Ep (ys.foldl (Iz K) ls)/\((ys.foldl (Iz K) ls).length:Int)<=K
 |[],_,h,hK=>⟨h,hK⟩
 |y::ys,ls,h,hK=>Jgn ys _ (ZR h hK y).1 (ZR h hK y).2
def TN(w:JE)(b:Nat)(pr:Option (Nat × Nat))(K:Int)(ls:JD)(w':JE):Prop:=
 ∃OZ,Gf false w' b OZ K ls/\(∀x,lpl OZ x->lpl pr x\/w.heap.size<=x)/\Tch w.heap.size (λx=>x=b\/lpl pr x) w w'
def TN.step{w1 w2:JE}{ls2:JD}{OZ:Option (Nat × Nat)}{e:Ending}(h2:∀x,lpl OZ x->lpl pr x\/w.heap.size<=x)(h3:Tch w.heap.size (λx=>x=b\/lpl pr x) w w1)(k:rX w1 b OZ K ls2 e w2):TN w b pr K ls2 w2:=by
 obtain⟨_,pr2,k1,k2,k3⟩:=k;refine⟨pr2,k1,λx hx=>?_,h3.trans (k3.mono h3.size λx hx hm=>?_)⟩
 .rcases k2 x hx with h|h
  .exact h2 x h
  .exact .inr (BN h3.size h)
 grind
def Jmo{b2 r2 c2:Nat}{K2:Int}{ys:JD}(h:Gf false w b pr K ls)(h2:Gf fr w b2 (some (r2,c2)) K2 ys)(hb:¬lpl pr b)(Dk:b2≠b/\¬lpl pr b2)(BM:r2≠b/\¬lpl pr r2)(hs:Ep ls)(hlK:(ls.length:Int)<=K)(hK:K<=1000)(hn:ys.length<=1000) :
  Calls prog 264 #[JL b,.iface 192 (JL b2)] w λe w'=>(∃v,e=.returned v)/\TN w b pr K (Gx K ls ys) w':=by
 have d0:=h2.c0;have d1:=h2.c1;have hta:=J03z (JL b2) w;have YZ:=h.hd.lt;have hb2l:=h2.hd.lt;have hr2l:=h2.row.1.lt;simp only[lval]at d1;have hys:ys.length=ys.length:=rfl;generalize KO:ys.length=n at *
 go_enter func264,ntmps264
 go_wp2
 go_loopw [12] (λi wr=>∃k:Nat,k<=n/\i=JK k/\TN w b pr K (Gx K ls (ys.take k)) wr/\Gf fr wr b2 (some (r2,c2)) K2 ys) (λi _=>n-(RowKit.intOf i).toNat)
 case atStart=>exact⟨0,by omega,rfl,⟨pr,h,λx hx=>.inl hx,.refl⟩,h2⟩
 case round=>
  obtain⟨k,hk,rfl,hd,Bo⟩:=hrel;clear d0 d1;rcases BF k n with Ac|Et
  .have g1:=Bo.row.1.cell (i:=k) (KO.symm▸Ac);have CS:(k:Int)<n:=by omega
   have et:Gx K ls (ys.take (k+1))=Iz K (Gx K ls (ys.take k)) (ys.getD k 0):=by
    unfold Gx
    grind[List.take_succ_eq_append_getElem,List.getElem?_eq_getElem]
   generalize ys.getD k 0=y at *;have yD:=Jgn (ys.take k) ls hs hlK;have Bj:Calls prog 262 #[JL b,.int .u64 y,JK 0] wr λe w2=>(∃v,e=.returned v)/\TN w b pr K (Gx K ls (ys.take (k+1))) w2/\Gf fr w2 b2 (some (r2,c2)) K2 ys:=by
    obtain⟨OZ,q1,q2,q3⟩:=hd;have hbp:¬lpl OZ b:=λhx=>by grind
    have hle:(Gx K ls (ys.take k)).length<=1000:=by have:=yD.2;unfold Gx;omega
    refine(Jim q1 hbp hle (yD.1.imp λh=>by omega) ⟨by grind,hK⟩ y 0).mono ?_;rintro e w2 hp;have hv:=hp.1;have ht:=hp.2;obtain⟨pr2,_,_,p3⟩:=ht;have out:∀x,x<w.heap.size->x≠b->¬lpl pr x->w2.heap[x]?=wr.heap[x]?:=λx hx Ri hxp=>by
     refine p3.heap x (by have:=q3.size;omega) ?_
     grind
    refine⟨hv,TN.step q2 q3 (by rw[et];exact hp),Bo.kept (out b2 hb2l Dk.1 Dk.2) λx hx=>?_⟩;obtain⟨c,hc⟩:=hx
    grind
   clear et yD hd Bo
   go_wp2_with (go_at_call 262;refine Bj.mono ?_;rintro e w2 ⟨⟨v,rfl⟩,Nr,CO⟩)
   exact⟨⟨k+1,by omega,by go_num,Nr,CO⟩,by simp[RowKit.intOf];omega⟩
  .have EC:¬((k:Int)<n):=by omega
   obtain rfl:k=n:=by omega
   have Y6:¬((k:Int)<k):=by omega
   go_wp2;go_end0
   grind
end
structure BP where
 b:Nat
 rb:Nat
 rr:Nat
 rc:Nat
 hb:Nat
 hr:Nat
 hc:Nat
 lb:Nat
 lr:Option (Nat × Nat)
def BP.pl(p:BP):List Nat:=[p.b,p.rb,p.rr,p.hb,p.hr,p.lb]++(match p.lr with|none=>[]|some (r,_)=>[r])
def Jxq{o:Option (Nat × Nat)}{x:Nat}:x∈(match o with|none=>([]:List Nat)|some (r,_)=>[r])↔lpl o x:=by
 unfold lpl
 grind
theorem BP.mem{p:BP}{x:Nat}:x∈p.pl↔x=p.b\/x=p.rb\/x=p.rr\/x=p.hb\/x=p.hr\/x=p.lb\/lpl p.lr x:=by
 unfold BP.pl
 simp_all[Gn,Jxq,AL,BU,or_false]
structure BP.Nd(p:BP):Prop where
 n1:p.b≠p.rb/\p.b≠p.rr/\p.b≠p.hb/\p.b≠p.hr/\p.b≠p.lb/\¬lpl p.lr p.b
 n2:p.rb≠p.rr/\p.rb≠p.hb/\p.rb≠p.hr/\p.rb≠p.lb/\¬lpl p.lr p.rb
 n3:p.rr≠p.hb/\p.rr≠p.hr/\p.rr≠p.lb/\¬lpl p.lr p.rr
 n4:p.hb≠p.hr/\p.hb≠p.lb/\¬lpl p.lr p.hb
 n5:p.hr≠p.lb/\¬lpl p.lr p.hr
 n6:¬lpl p.lr p.lb
structure Jw(fr:Bool)(w:JE)(c:J7)(p:BP)(B:Bun):Prop where
 hd:Blk fr w p.b #[JK B.n,.iface 186 (JL p.rb),.iface 189 (JL p.hb),.iface 192 (JL p.lb)] 131
 reg:DV fr w p.rb p.rr p.rc c.bits B.r
 hist:EZ fr w p.hb p.hr p.hc c.ba c.nb c.cb B.h
 least:Gf fr w p.lb p.lr c.K B.l
 nd:p.Nd
section
variable{fr:Bool}{w w':JE}{c:J7}{p:BP}{B:Bun}
def Jw.kept(h:Jw fr w c p B)(hh:∀x∈p.pl,w'.heap[x]?=w.heap[x]?):Jw fr w' c p B:=
 have m {x:Nat} (h:x=p.b\/x=p.rb\/x=p.rr\/x=p.hb\/x=p.hr\/x=p.lb\/lpl p.lr x):=hh x (BP.mem.2 h)
 ⟨h.hd.kept (m (.inl rfl)),h.reg.kept (m (.inr (.inl rfl))) (m (.inr (.inr (.inl rfl)))),h.hist.kept (m (.inr (.inr (.inr (.inl rfl))))) (m (.inr (.inr (.inr (.inr (.inl rfl)))))),
  h.least.kept (m (.inr (.inr (.inr (.inr (.inr (.inl rfl))))))) λx hx=>m (.inr (.inr (.inr (.inr (.inr (.inr hx)))))),h.nd⟩
def Jw.lt(h:Jw fr w c p B):∀x∈p.pl,x<w.heap.size:=λx hx=>by
 rcases BP.mem.1 hx with rfl|rfl|rfl|rfl|rfl|rfl|hx
 .exact h.hd.lt
 .exact h.reg.hd.lt
 .exact h.reg.row.lt
 .exact h.hist.hd.lt
 .exact h.hist.row.lt
 .exact h.least.hd.lt
 .exact h.least.row.lt hx
def Jw.c0(h:Jw fr w c p B):w.cell? ⟨p.b,0,none⟩=some (JK B.n):=(h.hd.cell 0).trans rfl
def Jw.c1(h:Jw fr w c p B):w.cell? ⟨p.b,1,none⟩=some (.iface 186 (JL p.rb)):=(h.hd.cell 1).trans rfl
def Jw.c2(h:Jw fr w c p B):w.cell? ⟨p.b,2,none⟩=some (.iface 189 (JL p.hb)):=(h.hd.cell 2).trans rfl
def Jw.c3(h:Jw fr w c p B):w.cell? ⟨p.b,3,none⟩=some (.iface 192 (JL p.lb)):=(h.hd.cell 3).trans rfl
end
structure TQ(w:JE)(g:Nat)(arr:JC)(wr:JE):Prop where
 blk:Blk false wr g arr 131
 tch:Tch w.heap.size M0 w wr
 le:w.heap.size<=g
def TQ.set{w wr w2:JE}{g:Nat}{arr:JC}(h:TQ w g arr wr)(k:Tch wr.heap.size M0 wr w2)(i:Nat)(x:JJ):TQ w g (arr.setIfInBounds i x) (w2.setCell ⟨g,i,none⟩ x):=
 ⟨(h.blk.kept (k.heap g h.blk.lt λx=>x)).set i x,(h.tch.then k h.tch.size λ_ _ h=>h).set (.inl h.le) x,h.le⟩
theorem TQ.same{w wr w2:JE}{g:Nat}{arr:JC}(_h:TQ w g arr wr)(k:Tch wr.heap.size M0 wr w2)(i:Nat)(x:JJ){y:Nat}(hy:y<wr.heap.size)(Ap:y≠g):(w2.setCell ⟨g,i,none⟩ x).heap[y]?=wr.heap[y]?:=
 (Jm _ _ Ap).trans (k.heap y hy λx=>x)
def Jxr (b:Nat) (w:JE):(method 471 186 (JL b) "Add").run prog w=.ok (248,JL b) w:=by kernel_rfl
def Jt0 (b:Nat) (w:JE):(method 471 186 (JL b) "Copy").run prog w=.ok (249,JL b) w:=by kernel_rfl
def Jpq (b:Nat) (w:JE):(method 471 186 (JL b) "Merge").run prog w=.ok (250,JL b) w:=by kernel_rfl
def Jkv (b:Nat) (w:JE):(method 471 186 (JL b) "Numbers").run prog w=.ok (251,JL b) w:=by kernel_rfl
def Jxs (b:Nat) (w:JE):(method 471 189 (JL b) "Add").run prog w=.ok (255,JL b) w:=by kernel_rfl
def Jt1 (b:Nat) (w:JE):(method 471 189 (JL b) "Copy").run prog w=.ok (256,JL b) w:=by kernel_rfl
def Jpr (b:Nat) (w:JE):(method 471 189 (JL b) "Merge").run prog w=.ok (257,JL b) w:=by kernel_rfl
def Jkw (b:Nat) (w:JE):(method 471 189 (JL b) "Numbers").run prog w=.ok (258,JL b) w:=by kernel_rfl
def Jxt (b:Nat) (w:JE):(method 471 192 (JL b) "Add").run prog w=.ok (262,JL b) w:=by kernel_rfl
def Jt2 (b:Nat) (w:JE):(method 471 192 (JL b) "Copy").run prog w=.ok (263,JL b) w:=by kernel_rfl
def Jps (b:Nat) (w:JE):(method 471 192 (JL b) "Merge").run prog w=.ok (264,JL b) w:=by kernel_rfl
def Jkx (b:Nat) (w:JE):(method 471 192 (JL b) "Numbers").run prog w=.ok (265,JL b) w:=by kernel_rfl
def ix0(a b c:JJ)(w:JE):(Instr.index 129 (.agg #[a,b,c]) (JK 0)).run prog w=.ok a w:=by simp[Instr.index,go_sem,underlying129]
def ix1(a b c:JJ)(w:JE):(Instr.index 129 (.agg #[a,b,c]) (JK 1)).run prog w=.ok b w:=by simp[Instr.index,go_sem,underlying129]
def ix2(a b c:JJ)(w:JE):(Instr.index 129 (.agg #[a,b,c]) (JK 2)).run prog w=.ok c w:=by simp[Instr.index,go_sem,underlying129]
section
variable{fr:Bool}{w w':JE}{c:J7}{p:BP}{B:Bun}
def Jxu(h:Jw fr w c p B)(hok:Jl c B)(hc:CZ c) :
  Calls prog 131 #[JL p.b] w λe w'=>∃q:BP,e=.returned (JL q.b)/\Jw false w' c q B/\(∀x∈q.pl,w.heap.size<=x)/\Tch w.heap.size M0 w w':=by
 have hlen:(2:Nat) ^ c.bits.toNat<=1000:=by
  have h1:=hc.b1;have h2:=hc.b2;have:c.bits=4\/c.bits=5\/c.bits=6:=by omega
  grind
 have c0:=h.c0;have c1:=h.c1;have c2:=h.c2;have c3:=h.c3;have hb:=h.hd.lt;have x0:=ix0 (.iface 186 (JL p.rb)) (.iface 189 (JL p.hb)) (.iface 192 (JL p.lb));have x1:=ix1 (.iface 186 (JL p.rb)) (.iface 189 (JL p.hb)) (.iface 192 (JL p.lb));have x2:=ix2 (.iface 186 (JL p.rb)) (.iface 189 (JL p.hb)) (.iface 192 (JL p.lb));have y0:=Jt0 p.rb;have y1:=Jt1 p.hb;have y2:=Jt2 p.lb;have Xt:TQ w w.heap.size #[JK B.n,.nilIface,.nilIface,.nilIface] (w.alloc (.cells #[JK B.n,.nilIface,.nilIface,.nilIface] 131)):=⟨⟨_,Ja _,λ_=>rfl⟩,Tch.refl.alloc (Ad _) _,Ad _⟩;have uD:Jw fr (w.alloc (.cells #[JK B.n,.nilIface,.nilIface,.nilIface] 131)) c p B:=h.kept λx hx=>J8 _ (h.lt x hx);have Ac:∀x∈p.pl,x<w.heap.size:=h.lt;obtain⟨rr,cc,xU⟩:∃rr cc,p.lr=some (rr,cc):=by
  have:=h.least.row;cases hp:p.lr with
  |none=>rw[hp]at this;exact absurd this hok.lne
  |some q=>grind
 go_enter func131,ntmps131
 go_wp2;refine wp_loop_rounds 4 ?_;rw[rounds_succ];go_wp2
 go_region_with (go_at_call 249;refine(Jxl (w:=(w.alloc (.cells #[JK B.n,.nilIface,.nilIface,.nilIface] 131)).drew) (uD.reg.kept rfl rfl) (by rw[hok.r];grind)).mono ?_;rintro e w1 ⟨b1,r1,k1,rfl,FD,KR,X9,Jwi,Az⟩;have f1:=(Xt.blk.kept (Az.heap w.heap.size Xt.blk.lt λx=>x)).cell 1;have f2:=(Xt.blk.kept (Az.heap w.heap.size Xt.blk.lt λx=>x)).frozen 1)
 have FX:TQ w w.heap.size #[JK B.n,.iface 186 (JL b1),.nilIface,.nilIface] (w1.setCell ⟨w.heap.size,1,none⟩ (.iface 186 (JL b1))):=Xt.set Az.bW 1 _;have rY:Jw fr (w1.setCell ⟨w.heap.size,1,none⟩ (.iface 186 (JL b1))) c p B:=uD.kept λx hx=>Xt.same Az.bW 1 _ (uD.lt x hx) (by grind);have z0:(w.alloc (.cells #[JK B.n,.nilIface,.nilIface,.nilIface] 131)).drew.heap.size=w.heap.size+1:=size_alloc _;have oL:DV false (w1.setCell ⟨w.heap.size,1,none⟩ (.iface 186 (JL b1))) b1 r1 k1 c.bits B.r:=Jwi.kept (Jm _ _ (by grind)) (Jm _ _ (by grind));clear f1 f2 Xt Jwi Az uD;generalize w1.setCell ⟨w.heap.size,1,none⟩ (.iface 186 (JL b1))=W1 at *;have l1:=oL.hd.lt;have l1':=oL.row.lt;go_wp2;rw[rounds_succ];go_wp2
 go_region_with (go_at_call 256;refine(Jss (w:=W1.drew) (rY.hist.kept rfl rfl) (by rw[hok.h];have:=hc.nb;omega)).mono ?_;rintro e w2 ⟨b2,r2,k2,rfl,Dk,BM,Ij,Jwj,Bc⟩;have f1:=(FX.blk.kept (Bc.heap w.heap.size FX.blk.lt λx=>x)).cell 2;have f2:=(FX.blk.kept (Bc.heap w.heap.size FX.blk.lt λx=>x)).frozen 2)
 have FY:TQ w w.heap.size #[JK B.n,.iface 186 (JL b1),.iface 189 (JL b2),.nilIface] (w2.setCell ⟨w.heap.size,2,none⟩ (.iface 189 (JL b2))):=FX.set Bc.bW 2 _;have Jwk:Jw fr (w2.setCell ⟨w.heap.size,2,none⟩ (.iface 189 (JL b2))) c p B:=rY.kept λx hx=>FX.same Bc.bW 2 _ (rY.lt x hx) (by grind);have z1:W1.drew.heap.size=W1.heap.size:=rfl;have rZ:DV false (w2.setCell ⟨w.heap.size,2,none⟩ (.iface 189 (JL b2))) b1 r1 k1 c.bits B.r:=oL.kept (FX.same Bc.bW 2 _ l1 (by omega)) (FX.same Bc.bW 2 _ l1' (by omega));have oM:EZ false (w2.setCell ⟨w.heap.size,2,none⟩ (.iface 189 (JL b2))) b2 r2 k2 c.ba c.nb c.cb B.h:=Jwj.kept (Jm _ _ (by grind)) (Jm _ _ (by grind));clear f1 f2 FX oL Bc rY Jwj;generalize w2.setCell ⟨w.heap.size,2,none⟩ (.iface 189 (JL b2))=W2 at *;have l2:=oM.hd.lt;have l2':=oM.row.lt;have l3:=rZ.hd.lt;have l3':=rZ.row.lt;have hlw:Gf fr W2.drew p.lb (some (rr,cc)) c.K B.l:=by have:=Jwk.least;rw[xU]at this;exact this.kept rfl λ_ _=>rfl
 go_wp2;rw[rounds_succ];go_wp2
 go_region_with (go_at_call 263;refine(Jpp (r:=rr) (c:=cc) (w:=W2.drew) hlw (by have:=hok.lK;have:=hc.k2;omega)).mono ?_;rintro e w3 ⟨b3,r3,k3,rfl,Gs,Io,Ze,Jpt,Dx⟩;have f1:=(FY.blk.kept (Dx.heap w.heap.size FY.blk.lt λx=>x)).cell 3;have f2:=(FY.blk.kept (Dx.heap w.heap.size FY.blk.lt λx=>x)).frozen 3)
 have Jzz:TQ w w.heap.size #[JK B.n,.iface 186 (JL b1),.iface 189 (JL b2),.iface 192 (JL b3)] (w3.setCell ⟨w.heap.size,3,none⟩ (.iface 192 (JL b3))):=FY.set Dx.bW 3 _;have z2:W2.drew.heap.size=W2.heap.size:=rfl;have J041:DV false (w3.setCell ⟨w.heap.size,3,none⟩ (.iface 192 (JL b3))) b1 r1 k1 c.bits B.r:=rZ.kept (FY.same Dx.bW 3 _ l3 (by omega)) (FY.same Dx.bW 3 _ l3' (by omega));have zI:EZ false (w3.setCell ⟨w.heap.size,3,none⟩ (.iface 192 (JL b3))) b2 r2 k2 c.ba c.nb c.cb B.h:=oM.kept (FY.same Dx.bW 3 _ l2 (by omega)) (FY.same Dx.bW 3 _ l2' (by omega));have Jxv:Gf false (w3.setCell ⟨w.heap.size,3,none⟩ (.iface 192 (JL b3))) b3 (some (r3,k3)) c.K B.l:=Jpt.kept (Jm _ _ (by grind)) λx hx=>by obtain⟨_,hx⟩:=hx;grind[Jm]
 clear f1 f2 FY rZ Dx Jwk oM Jpt;generalize w3.setCell ⟨w.heap.size,3,none⟩ (.iface 192 (JL b3))=W3 at *;go_wp2;rw[rounds_succ];go_wp2;go_ret;refine⟨⟨w.heap.size,b1,r1,k1,b2,r2,k2,b3,some (r3,k3)⟩,rfl,⟨Jzz.blk,J041,zI,Jxv,?_⟩,λx hx=>?_,Jzz.tch⟩
 .have q:∀x:Nat,lpl (some (r3,k3)) x↔x=r3:=λx=>⟨λ⟨_,h⟩=>by cases h;rfl,λh=>⟨k3,by rw[h]⟩⟩;refine⟨?_,?_,?_,?_,?_,?_⟩<;>simp only[q]<;>(try refine⟨?_,?_⟩)<;>omega
 .have q:∀x:Nat,lpl (some (r3,k3)) x↔x=r3:=λx=>⟨λ⟨_,h⟩=>by cases h;rfl,λh=>⟨k3,by rw[h]⟩⟩
  grind[BP.mem]
end
def J042 (b:Nat) (w:JE):(nilAhead 471 186 (JL b) "Merge").run prog w=.ok (some false) w:=by kernel_rfl
def J043 (b:Nat) (w:JE):(nilAhead 471 189 (JL b) "Merge").run prog w=.ok (some false) w:=by kernel_rfl
def J044 (b:Nat) (w:JE):(nilAhead 471 192 (JL b) "Merge").run prog w=.ok (some false) w:=by kernel_rfl
section
variable{fr:Bool}{w wr w2:JE}{c:J7}{p q:BP}{B B2:Bun}
structure G5(fr:Bool)(w:JE)(c:J7)(p q:BP)(B B2:Bun)(wr:JE):Prop where
 l:Jw false wr c p B
 r:Jw fr wr c q B2
 dis:∀x∈p.pl,x∉q.pl
 tch:Tch w.heap.size (λx=>x∈p.pl) w wr
 lt:∀x∈p.pl,x<w.heap.size
def G5.right(h:G5 fr w c p q B B2 wr){y:Nat}(hy:y∈p.pl)(k:Tch wr.heap.size (λx=>x=y) wr w2):Jw fr w2 c q B2:=
 h.r.kept λx hx=>k.heap x (h.r.lt x hx) λe=>h.dis y hy (e▸hx)
def G5.touch(h:G5 fr w c p q B B2 wr){y:Nat}(hy:y∈p.pl)(k:Tch wr.heap.size (λx=>x=y) wr w2):Tch w.heap.size (λx=>x∈p.pl) w w2:=
 h.tch.then k h.tch.size λ_ _ e=>e▸hy
def G5.reg(h:G5 fr w c p q B B2 wr){rs:JD}(hr:DV false w2 p.rb p.rr p.rc c.bits rs)(k:Tch wr.heap.size (λx=>x=p.rr) wr w2):G5 fr w c p q { B with r:=rs } B2 w2:=by have hy:p.rr∈p.pl:=BP.mem.2 (.inr (.inr (.inl rfl)));have nd:=h.l.nd;have same:∀x,x∈p.pl->x≠p.rr->w2.heap[x]?=wr.heap[x]?:=λx hx Ap=>k.heap x (h.l.lt x hx) Ap;have m {x:Nat} (h:x=p.b\/x=p.rb\/x=p.rr\/x=p.hb\/x=p.hr\/x=p.lb\/lpl p.lr x):x∈p.pl:=BP.mem.2 h;refine⟨⟨h.l.hd.kept (same _ (m (by simp)) nd.n1.2.1),hr,h.l.hist.kept (same _ (m (by simp)) (Ne.symm nd.n3.1)) (same _ (m (by simp)) (Ne.symm nd.n3.2.1)),h.l.least.kept (same _ (m (by simp)) (Ne.symm nd.n3.2.2.1)) λx hx=>same _ (m (by simp[hx])) λe=>nd.n3.2.2.2 (e▸hx),nd⟩,h.right hy k,h.dis,h.touch hy k,h.lt⟩
def G5.hist(h:G5 fr w c p q B B2 wr){rs:JD}(hr:EZ false w2 p.hb p.hr p.hc c.ba c.nb c.cb rs)(k:Tch wr.heap.size (λx=>x=p.hr) wr w2):G5 fr w c p q { B with h:=rs } B2 w2:=by have hy:p.hr∈p.pl:=BP.mem.2 (by simp);have nd:=h.l.nd;have same:∀x,x∈p.pl->x≠p.hr->w2.heap[x]?=wr.heap[x]?:=λx hx Ap=>k.heap x (h.l.lt x hx) Ap;have m {x:Nat} (h:x=p.b\/x=p.rb\/x=p.rr\/x=p.hb\/x=p.hr\/x=p.lb\/lpl p.lr x):x∈p.pl:=BP.mem.2 h;refine⟨⟨h.l.hd.kept (same _ (m (by simp)) nd.n1.2.2.2.1),h.l.reg.kept (same _ (m (by simp)) nd.n2.2.2.1) (same _ (m (by simp)) nd.n3.2.1),hr,h.l.least.kept (same _ (m (by simp)) (Ne.symm nd.n5.1)) λx hx=>same _ (m (by simp[hx])) λe=>nd.n5.2 (e▸hx),nd⟩,h.right hy k,h.dis,h.touch hy k,h.lt⟩
def G5.num(h:G5 fr w c p q B B2 wr)(n:Int):G5 fr w c p q { B with n:=n } B2 (wr.setCell ⟨p.b,0,none⟩ (JK n)):=by
 have hy:p.b∈p.pl:=BP.mem.2 (by simp);have nd:=h.l.nd;have same:∀x,x≠p.b->(wr.setCell ⟨p.b,0,none⟩ (JK n)).heap[x]?=wr.heap[x]?:=λx Ap=>Jm _ _ Ap;have k:Tch wr.heap.size (λx=>x=p.b) wr (wr.setCell ⟨p.b,0,none⟩ (JK n)):=Tch.refl.set (.inr (show(λx=>x=p.b) p.b from rfl)) _;exact⟨⟨h.l.hd.set 0 _,h.l.reg.kept (same _ (Ne.symm nd.n1.1)) (same _ (Ne.symm nd.n1.2.1)),h.l.hist.kept (same _ (Ne.symm nd.n1.2.2.1)) (same _ (Ne.symm nd.n1.2.2.2.1)),h.l.least.kept (same _ (Ne.symm nd.n1.2.2.2.2.1)) λx hx=>same _ λe=>nd.n1.2.2.2.2.2 (e▸hx),nd⟩,h.right hy k,h.dis,h.touch hy k,h.lt⟩
def G5.drew(h:G5 fr w c p q B B2 wr):G5 fr w c p q B B2 wr.drew:=⟨h.l.kept λ_ _=>rfl,h.r.kept λ_ _=>rfl,h.dis,h.tch.drew,h.lt⟩
def TB(w:JE)(c:J7)(p:BP)(B:Bun)(w':JE):Prop:=
 ∃p':BP,p'.b=p.b/\Jw false w' c p' B/\(∀x∈p'.pl,x∈p.pl\/w.heap.size<=x)/\Tch w.heap.size (λx=>x∈p.pl) w w'
def G5.Jpu(hl:Jw false wr c p B)(htc:Tch w.heap.size (λx=>x∈p.pl) w wr){ls:JD}(hr:TN wr p.lb p.lr c.K ls w2):TB w c p { B with l:=ls } w2:=by
 obtain⟨OZ,h1,h2,k⟩:=hr;have nd:=hl.nd;have m {x:Nat} (h:x=p.b\/x=p.rb\/x=p.rr\/x=p.hb\/x=p.hr\/x=p.lb\/lpl p.lr x):x∈p.pl:=BP.mem.2 h;have same:∀x,x∈p.pl->x≠p.lb->¬lpl p.lr x->w2.heap[x]?=wr.heap[x]?:=λx hx Ap hn=>k.heap x (hl.lt x hx) λe=>e.elim Ap hn;have fresh:∀x,x∈p.pl->¬lpl p.lr x->¬lpl OZ x:=λx hx hn he=>by
  rcases h2 x he with h3|h3
  .exact hn h3
  .have:=hl.lt x hx;omega
 refine⟨{ p with lr:=OZ },rfl,⟨hl.hd.kept (same _ (m (by simp)) nd.n1.2.2.2.2.1 nd.n1.2.2.2.2.2),hl.reg.kept (same _ (m (by simp)) nd.n2.2.2.2.1 nd.n2.2.2.2.2) (same _ (m (by simp)) nd.n3.2.2.1 nd.n3.2.2.2),hl.hist.kept (same _ (m (by simp)) nd.n4.2.1 nd.n4.2.2) (same _ (m (by simp)) nd.n5.1 nd.n5.2),h1,?_⟩,λx hx=>?_,htc.then k htc.size λx _ e=>?_⟩
 .exact⟨⟨nd.n1.1,nd.n1.2.1,nd.n1.2.2.1,nd.n1.2.2.2.1,nd.n1.2.2.2.2.1,fresh _ (m (by simp)) nd.n1.2.2.2.2.2⟩,⟨nd.n2.1,nd.n2.2.1,nd.n2.2.2.1,nd.n2.2.2.2.1,fresh _ (m (by simp)) nd.n2.2.2.2.2⟩,⟨nd.n3.1,nd.n3.2.1,nd.n3.2.2.1,fresh _ (m (by simp)) nd.n3.2.2.2⟩,⟨nd.n4.1,nd.n4.2.1,fresh _ (m (by simp)) nd.n4.2.2⟩,⟨nd.n5.1,fresh _ (m (by simp)) nd.n5.2⟩,fresh _ (m (by simp)) nd.n6⟩
 .rcases BP.mem.1 hx with e|e|e|e|e|e|e
  .grind
  .grind
  .grind
  .grind
  .grind
  .grind
  .rcases h2 x e with h3|h3
   .grind
   .exact .inr (BN htc.size h3)
 grind
def G5.least(h:G5 fr w c p q B B2 wr){ls:JD}(hr:TN wr p.lb p.lr c.K ls w2):TB w c p { B with l:=ls } w2:=G5.Jpu h.l h.tch hr
def Jt3(h:Jw false w c p B)(h2:Jw fr w c q B2)(hd:∀x∈p.pl,x∉q.pl)(hok:Jl c B)(Nv:Jl c B2)(hc:CZ c) :
  Calls prog 130 #[JL p.b,JL q.b] w λe w'=>(∃v,e=.returned v)/\TB w c p (mg c B B2) w':=by
 have hlen:(2:Nat) ^ c.bits.toNat<=1000:=by
  have h1:=hc.b1;have h2:=hc.b2;have:c.bits=4\/c.bits=5\/c.bits=6:=by omega
  grind
 have c0:=h.c0;have c1:=h.c1;have c2:=h.c2;have c3:=h.c3;have cf:=h.hd.frozen 0;have d0:=h2.c0;have d1:=h2.c1;have d2:=h2.c2;have d3:=h2.c3;have hb:=h.hd.lt;have Dk:=h2.hd.lt;have Ap:q.b≠p.b:=λe=>hd p.b (BP.mem.2 (by simp)) (e▸BP.mem.2 (by simp));have x0:=ix0 (.iface 186 (JL p.rb)) (.iface 189 (JL p.hb)) (.iface 192 (JL p.lb));have x1:=ix1 (.iface 186 (JL p.rb)) (.iface 189 (JL p.hb)) (.iface 192 (JL p.lb));have x2:=ix2 (.iface 186 (JL p.rb)) (.iface 189 (JL p.hb)) (.iface 192 (JL p.lb));have y0:=Jpq p.rb;have y1:=Jpr p.hb;have y2:=Jps p.lb;have n0:=J042 p.rb;have n1:=J043 p.hb;have n2:=J044 p.lb;obtain⟨rr,cc,xU⟩:∃rr cc,q.lr=some (rr,cc):=by
  have:=h2.least.row;cases hp:q.lr with
  |none=>rw[hp]at this;exact absurd this Nv.lne
  |some q=>grind
 have dlb:∀x∈p.pl,q.lb≠x:=λx hx e=>hd x hx (e▸BP.mem.2 (by simp));have dlr:∀x∈p.pl,rr≠x:=λx hx e=>hd x hx (e▸BP.mem.2 (.inr (.inr (.inr (.inr (.inr (.inr ⟨cc,xU⟩)))))));have hm:G5 fr w c p q B B2 w:=⟨h,h2,hd,.refl,h.lt⟩
 go_enter func130,ntmps130
 go_wp2
 go_region
 have OU:G5 fr w c p q { B with n:=wrap64 (B.n+B2.n) } B2 (w.setCell ⟨p.b,0,none⟩ (JK (wrap64 (B.n+B2.n)))).drew:=(hm.num _).drew;clear c0 c1 c2 c3 cf d0 d1 d2 d3 hm;generalize(w.setCell ⟨p.b,0,none⟩ (JK (wrap64 (B.n+B2.n)))).drew=W0 at *;have c1:=OU.l.c1;have c2:=OU.l.c2;have c3:=OU.l.c3;have d1:=OU.r.c1;go_wp2;refine wp_loop_rounds 4 ?_;rw[rounds_succ];go_wp2
 go_region_with (go_at_call 250;refine(Jsr (w:=W0.drew) OU.drew.l.reg OU.drew.r.reg (by rw[show({ B with n:=wrap64 (B.n+B2.n) }:Bun).r=B.r from rfl,hok.r,Nv.r]) (by rw[show({ B with n:=wrap64 (B.n+B2.n) }:Bun).r=B.r from rfl,hok.r];exact hlen) h.nd.n2.1 (λe=>hd p.rr (BP.mem.2 (by simp)) (e▸BP.mem.2 (by simp))) (λe=>hd p.rr (BP.mem.2 (by simp)) (e▸BP.mem.2 (by simp)))).mono ?_;rintro e w1 ⟨⟨v1,rfl⟩,KR,Az⟩)
 all_goals have GN:=OU.drew.reg KR Az
 all_goals clear c1 c2 c3 d1 KR Az OU
 all_goals have d2:=GN.r.c2
 all_goals go_wp2
 all_goals rw[rounds_succ]
 all_goals go_wp2
 all_goals go_region_with (go_at_call 257;refine(Jpi (w:=w1.drew) GN.drew.l.hist GN.drew.r.hist (by show B.h.length=B2.h.length;rw[hok.h,Nv.h]) (by show B.h.length<=1000;rw[hok.h];have:=hc.nb;omega) h.nd.n4.1 (λe=>hd p.hr (BP.mem.2 (by simp)) (e▸BP.mem.2 (by simp))) (λe=>hd p.hr (BP.mem.2 (by simp)) (e▸BP.mem.2 (by simp)))).mono ?_;rintro e w2 ⟨⟨v2,rfl⟩,BM,Bc⟩)
 all_goals have Nr:=GN.drew.hist BM Bc
 all_goals clear d2 BM Bc GN
 all_goals have d3:=Nr.r.c3
 all_goals go_wp2
 all_goals rw[rounds_succ]
 all_goals go_wp2
 all_goals have hq:=Nr.drew.r.least
 all_goals rw[xU]at hq
 all_goals go_region_with (go_at_call 264;refine(Jmo (w:=w2.drew) Nr.drew.l.least hq h.nd.n6 ⟨dlb p.lb (by simp[BP.mem]),λe=>dlb q.lb (BP.mem.2 (.inr (.inr (.inr (.inr (.inr (.inr e))))))) rfl⟩ ⟨dlr p.lb (by simp[BP.mem]),λe=>dlr rr (BP.mem.2 (.inr (.inr (.inr (.inr (.inr (.inr e))))))) rfl⟩ hok.l hok.lK (by have:=hc.k2;omega) (by have:=Nv.lK;have:=hc.k2;omega)).mono ?_;rintro e w3 ⟨⟨v3,rfl⟩,Io⟩)
 all_goals have hm3:=Nr.drew.least Io
 all_goals clear d3 Io Nr hq
 all_goals go_wp2
 all_goals rw[rounds_succ]
 all_goals go_wp2
 all_goals go_end0
 all_goals exact⟨⟨_,rfl⟩,hm3⟩
end
structure Ou(c:J7)(B:Bun):Prop where
 r:B.r.length=2 ^ c.bits.toNat
 r8:∀x∈B.r,0<=x/\x<=255
 h:B.h.length=c.nb+1
 h64:∀x∈B.h,I64 x
 l:Ep B.l
 lK:(B.l.length:Int)<=c.K
 l64:∀x∈B.l,0<=x/\x<=18446744073709551615
 n64:I64 B.n
def Jl.zero{c:J7}{B:Bun}(h:Jl c B):Ou c B:=⟨h.r,h.r8,h.h,h.h64,h.l,h.lK,h.l64,h.n64⟩
def P6(c:J7)(bs:JD)(B:Bun)(x v:Int):Bun:=⟨wrap64 (B.n+1),Om c.bits B.r x,NH bs B.h v,Iz c.K B.l x⟩
def mem_set{l:JD}{i:Nat}{a z:Int}(h:z∈l.set i a):z=a\/z∈l:=by
 grind
def Ou.add{c:J7}{bs:JD}{B:Bun}(h:Ou c B)(hc:CZ c)(CQ:bs.length=c.nb){x:Int}(hx:0<=x/\x<=18446744073709551615)(v:Int):Jl c (P6 c bs B x v):=by
 have ha:=ZR h.l h.lK x;have hr:=Jlk (bits:=c.bits) (x:=x) ⟨hc.b1,hc.b2⟩;have he:=ZU h.l h.lK x;refine⟨J95.trans h.r,λz hz=>?_,ZP.trans h.h,λz hz=>?_,ha.1,ha.2,λz hz=>?_,mZ _,?_⟩
 .rcases mem_set hz with rfl|hz
  .have:∀z:Int,z=B.r.getD (IB c.bits x) 0->0<=z/\z<=255:=λz hz=>by
    rw[C9]at hz;cases hq:B.r[IB c.bits x]? with
    |none=>grind
    |some y=>rw[hq]at hz;simp at hz;subst hz;exact h.r8 _ (NR hq)
   grind
  .exact h.r8 z hz
 .rcases mem_set hz with rfl|hz
  .exact mZ _
  .exact h.h64 z hz
 .have OX:z∈Iz c.K B.l x:=hz;rw[he]at OX;rcases VU.1 (List.mem_of_mem_take OX)with rfl|h2
  .exact hx
  .exact h.l64 z h2
 .show Iz c.K B.l x≠[];rw[he];have h1:x∈F9 x B.l:=VU.2 (.inl rfl);have h2:0<(F9 x B.l).length:=List.length_pos_iff.2 (List.ne_nil_of_mem h1);have:=hc.k1
  grind
section
variable{fr:Bool}{w wr w2:JE}{c:J7}{p q:BP}{B:Bun}{bs:JD}{ba:JI}
def Px.kept{w w':JE}(h:Px fr w ba bs)(hh:∀bb,ba=some ⟨bb,0,none⟩->bb<w.heap.size->w'.heap[bb]?=w.heap[bb]?):Px fr w' ba bs:=by
 rcases h with h|⟨bb,cap,rfl,h⟩
 .exact .inl h
 .exact .inr ⟨bb,cap,rfl,h.kept (hh bb rfl h.lt)⟩
structure G6(w:JE)(c:J7)(p:BP)(ba:JI)(bs:JD)(B:Bun)(wr:JE):Prop where
 l:Jw false wr c p B
 r:Px false wr ba bs
 dis:∀x∈p.pl,ba≠some ⟨x,0,none⟩
 tch:Tch w.heap.size (λx=>x∈p.pl) w wr
 lt:∀x∈p.pl,x<w.heap.size
def G6.right(h:G6 w c p ba bs B wr){y:Nat}(hy:y∈p.pl)(k:Tch wr.heap.size (λx=>x=y) wr w2):Px false w2 ba bs:=
 h.r.kept λx hx hl=>k.heap x hl λe=>h.dis y hy (e▸hx)
def G6.touch(h:G6 w c p ba bs B wr){y:Nat}(hy:y∈p.pl)(k:Tch wr.heap.size (λx=>x=y) wr w2):Tch w.heap.size (λx=>x∈p.pl) w w2:=
 h.tch.then k h.tch.size λ_ _ e=>e▸hy
def G6.reg(h:G6 w c p ba bs B wr){rs:JD}(hr:DV false w2 p.rb p.rr p.rc c.bits rs)(k:Tch wr.heap.size (λx=>x=p.rr) wr w2):G6 w c p ba bs { B with r:=rs } w2:=by have hy:p.rr∈p.pl:=BP.mem.2 (.inr (.inr (.inl rfl)));have nd:=h.l.nd;have same:∀x,x∈p.pl->x≠p.rr->w2.heap[x]?=wr.heap[x]?:=λx hx Ap=>k.heap x (h.l.lt x hx) Ap;have m {x:Nat} (h:x=p.b\/x=p.rb\/x=p.rr\/x=p.hb\/x=p.hr\/x=p.lb\/lpl p.lr x):x∈p.pl:=BP.mem.2 h;refine⟨⟨h.l.hd.kept (same _ (m (by simp)) nd.n1.2.1),hr,h.l.hist.kept (same _ (m (by simp)) (Ne.symm nd.n3.1)) (same _ (m (by simp)) (Ne.symm nd.n3.2.1)),h.l.least.kept (same _ (m (by simp)) (Ne.symm nd.n3.2.2.1)) λx hx=>same _ (m (by simp[hx])) λe=>nd.n3.2.2.2 (e▸hx),nd⟩,h.right hy k,h.dis,h.touch hy k,h.lt⟩
def G6.hist(h:G6 w c p ba bs B wr){rs:JD}(hr:EZ false w2 p.hb p.hr p.hc c.ba c.nb c.cb rs)(k:Tch wr.heap.size (λx=>x=p.hr) wr w2):G6 w c p ba bs { B with h:=rs } w2:=by have hy:p.hr∈p.pl:=BP.mem.2 (by simp);have nd:=h.l.nd;have same:∀x,x∈p.pl->x≠p.hr->w2.heap[x]?=wr.heap[x]?:=λx hx Ap=>k.heap x (h.l.lt x hx) Ap;have m {x:Nat} (h:x=p.b\/x=p.rb\/x=p.rr\/x=p.hb\/x=p.hr\/x=p.lb\/lpl p.lr x):x∈p.pl:=BP.mem.2 h;refine⟨⟨h.l.hd.kept (same _ (m (by simp)) nd.n1.2.2.2.1),h.l.reg.kept (same _ (m (by simp)) nd.n2.2.2.1) (same _ (m (by simp)) nd.n3.2.1),hr,h.l.least.kept (same _ (m (by simp)) (Ne.symm nd.n5.1)) λx hx=>same _ (m (by simp[hx])) λe=>nd.n5.2 (e▸hx),nd⟩,h.right hy k,h.dis,h.touch hy k,h.lt⟩
def G6.num(h:G6 w c p ba bs B wr)(n:Int):G6 w c p ba bs { B with n:=n } (wr.setCell ⟨p.b,0,none⟩ (JK n)):=by
 have hy:p.b∈p.pl:=BP.mem.2 (by simp);have nd:=h.l.nd;have same:∀x,x≠p.b->(wr.setCell ⟨p.b,0,none⟩ (JK n)).heap[x]?=wr.heap[x]?:=λx Ap=>Jm _ _ Ap;have k:Tch wr.heap.size (λx=>x=p.b) wr (wr.setCell ⟨p.b,0,none⟩ (JK n)):=Tch.refl.set (.inr (show(λx=>x=p.b) p.b from rfl)) _;exact⟨⟨h.l.hd.set 0 _,h.l.reg.kept (same _ (Ne.symm nd.n1.1)) (same _ (Ne.symm nd.n1.2.1)),h.l.hist.kept (same _ (Ne.symm nd.n1.2.2.1)) (same _ (Ne.symm nd.n1.2.2.2.1)),h.l.least.kept (same _ (Ne.symm nd.n1.2.2.2.2.1)) λx hx=>same _ λe=>nd.n1.2.2.2.2.2 (e▸hx),nd⟩,h.right hy k,h.dis,h.touch hy k,h.lt⟩
def G6.least(h:G6 w c p ba bs B wr){ls:JD}(hr:TN wr p.lb p.lr c.K ls w2):TB w c p { B with l:=ls } w2:=G5.Jpu h.l h.tch hr
def zJ(h:Jw false w c p B)(hB:Px false w c.ba bs)(hd:∀x∈p.pl,c.ba≠some ⟨x,0,none⟩)(hok:Ou c B)(hc:CZ c)(CQ:bs.length=c.nb)(IV:bs.Pairwise (· < ·)){x:Int}(hx:0<=x/\x<=18446744073709551615)(v:Int) :
  Calls prog 43 #[JL p.b,.int .u64 x,JK v] w λe w'=>(∃v,e=.returned v)/\TB w c p (P6 c bs B x v) w':=by
 have c0:=h.c0;have c1:=h.c1;have c2:=h.c2;have c3:=h.c3;have cf:=h.hd.frozen 0;have x0:=ix0 (.iface 186 (JL p.rb)) (.iface 189 (JL p.hb)) (.iface 192 (JL p.lb));have x1:=ix1 (.iface 186 (JL p.rb)) (.iface 189 (JL p.hb)) (.iface 192 (JL p.lb));have x2:=ix2 (.iface 186 (JL p.rb)) (.iface 189 (JL p.hb)) (.iface 192 (JL p.lb));have y0:=Jxr p.rb;have y1:=Jxs p.hb;have y2:=Jxt p.lb;have hm:G6 w c p c.ba bs B w:=⟨h,hB,hd,.refl,h.lt⟩;have OU:=hm.num (wrap64 (B.n+1));have BL:=hc.nb;have s1:∀wr w1,G6 w c p c.ba bs { B with n:=wrap64 (B.n+1) } wr->DV false w1 p.rb p.rr p.rc c.bits (Om c.bits B.r x)->Tch wr.heap.size (λy=>y=p.rr) wr w1->G6 w c p c.ba bs { B with n:=wrap64 (B.n+1),r:=Om c.bits B.r x } w1:=λwr w1 h h1 h2=>h.reg h1 h2;have t1:Hid (∀wr,G6 w c p c.ba bs { B with n:=wrap64 (B.n+1) } wr->Calls prog 248 #[JL p.rb,.int .u64 x,JK v] wr λe w'=>(∃v,e=.returned v)/\G6 w c p c.ba bs { B with n:=wrap64 (B.n+1),r:=Om c.bits B.r x } w'):=λwr hr=>
  (Jzw hr.l.reg ⟨hc.b1,hc.b2⟩ hok.r hok.r8 h.nd.n2.1 hx v).mono λe w' ⟨h1,h2,h3⟩=>⟨h1,hr.reg h2 h3⟩
 have t2:Hid (∀wr,G6 w c p c.ba bs { B with n:=wrap64 (B.n+1),r:=Om c.bits B.r x } wr->Calls prog 255 #[JL p.hb,.int .u64 x,JK v] wr λe w'=>(∃v,e=.returned v)/\G6 w c p c.ba bs { B with n:=wrap64 (B.n+1),r:=Om c.bits B.r x,h:=NH bs B.h v } w'):=λwr hr=>by have hh:=hr.l.hist;rw[<- CQ]at hh;refine(Jxm hh hr.r (by grind) IV (hok.h.trans (by rw[CQ])) h.nd.n4.1 x v).mono λe w' ⟨h1,h2,h3⟩=>⟨h1,?_⟩;rw[CQ]at h2;exact hr.hist h2 h3
 have t3:Hid (∀wr,G6 w c p c.ba bs { B with n:=wrap64 (B.n+1),r:=Om c.bits B.r x,h:=NH bs B.h v } wr->Calls prog 262 #[JL p.lb,.int .u64 x,JK v] wr λe w'=>(∃v,e=.returned v)/\TB w c p (P6 c bs B x v) w'):=λwr hr=>
  (Jim hr.l.least h.nd.n6 (by show B.l.length<=1000;have:=hok.lK;have:=hc.k2;omega) (hok.l.imp λh=>by omega) ⟨by have:=hc.k1;omega,by have:=hc.k2;omega⟩ x v).mono λe w' ⟨h1,h2⟩=>⟨h1,hr.least h2⟩
 clear s1 hm BL
 go_enter func43,ntmps43
 go_wp2;clear c0 c1 c2 c3 cf;generalize w.setCell ⟨p.b,0,none⟩ (JK (wrap64 (B.n+1)))=W0 at *;refine wp_loop_rounds 4 ?_;rw[rounds_succ]
 go_wp2_with (go_at_call 248;refine(t1 _ OU).mono ?_;rintro e w1 ⟨⟨v1,rfl⟩,GN⟩)
 rw[rounds_succ]
 go_wp2_with (go_at_call 255;refine(t2 _ GN).mono ?_;rintro e w2 ⟨⟨v2,rfl⟩,Nr⟩)
 rw[rounds_succ]
 go_wp2_with (go_at_call 262;refine(t3 _ Nr).mono ?_;rintro e w3 ⟨⟨v3,rfl⟩,hm3⟩)
 rw[rounds_succ];go_wp2;go_end0
 grind
end
end Go.Sim.Z
