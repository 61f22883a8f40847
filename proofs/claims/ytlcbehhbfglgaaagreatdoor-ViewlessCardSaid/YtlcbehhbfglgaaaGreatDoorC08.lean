/- Proved: laws for the claim. No conditions. -/
import Derived.OneCell
import Derived.Test.YtlcbehhbfglgaaaGreatDoorC07
set_option linter.all false
namespace Go.Sim
open Go.Conc Go.ConcN
open Go.ConcR (KK wgBlock WgAt stA smA rd wr mk Payload DC0 Bk bk_of_mute ofEvent_loc_mark ofEvent_cell g_of_ofEvents ofEvent_mk)
section
variable{j:Nat}{D:Nat->WD}{tag tag':DW}{st sm:Int}
theorem Ju.open_inv(hm:Ju j D tag st sm)(h:Y8 tag):OpenSt j D/\st=((Vc j D+He tag:Nat):Int)*KK/\sm=0/\∀vs,tag=.w2 vs->Vc j D<=vs/\1<=vs:=by
 cases hm with
 |opn _ h2 h3=>grind
 |reg h1 _ _=>cases tag<;>first|exact h.elim|exact h1.elim
 |last L h1 _ _ _=>cases tag<;>first|exact h.elim|exact h1.elim
 |sema h1 _=>rcases h1 with rfl|rfl<;>exact h.elim
 |fin h1 _=>cases tag<;>first|exact h.elim|exact h1.elim
theorem Ju.reopen(hm:Ju j D tag st sm)(h:Y8 tag)(h':Y8 tag')(hp:He tag'=He tag)(hw:∀vs,tag'=.w2 vs->Vc j D<=vs/\1<=vs):Ju j D tag' st sm:=by obtain⟨h2,rfl,rfl,_⟩:=hm.open_inv h;rw[<- hp];exact .opn h' h2 hw
theorem Ju.fin_inv(hm:Ju j D tag st sm)(h:Jsj tag):AllQuit j D/\st=0/\sm=0:=by
 cases hm with
 |opn h1 _ _=>cases tag<;>first|exact h.elim|exact h1.elim
 |reg h1 _ _=>cases tag<;>first|exact h.elim|exact h1.elim
 |last L h1 _ _ _=>cases tag<;>first|exact h.elim|exact h1.elim
 |sema h1 _=>rcases h1 with rfl|rfl<;>exact h.elim
 |fin _ h2=>grind
theorem Ju.Jqo(hm:Ju j D tag st sm)(h:jw3 tag)(h':jw3 tag')(hb:tag'=.blk->sm=0):Ju j D tag' st sm:=by
 cases hm with
 |opn h1 _ _=>cases tag<;>first|exact h.elim|exact h1.elim
 |reg _ h2 h3=>exact .reg h' h2 h3
 |last L _ h2 h3 h4=>exact .last L h' h2 h3 h4
 |sema _ h2=>
  refine .sema ?_ h2;cases tag'<;>first|exact .inl rfl|exact .inr rfl|exact h'.elim|grind
 |fin h1 _=>cases tag<;>first|exact h.elim|exact h1.elim
theorem Ju.J04g(hm:Ju j D tag st sm)(h:jw3 tag):sm=0\/(st=0/\sm=1/\AllQuit j D):=by
 cases hm with
 |opn h1 _ _=>grind
 |reg _ h2 h3=>grind
 |last L _ h2 h3 h4=>grind
 |sema _ h2=>grind
 |fin h1 _=>grind
end
section
variable[Payload]{H:Ph}{tag tag':DW}{j:Nat}{D:Nat->CG}{f0 d0 f':Nat}{q:Nat->Nat}{gs:Array JF}{w w':JE}{sl:Option (Nat × Nat)}{t:Trace}{a a':JF}{es:Array Event}
theorem bk1{e:Event}{es:List Event}(h:e∈es.toArray)(hb:∀e∈es,Bk H.Wg e\/e=mk (.read (smA H.Wg))\/e=mk (.write (smA H.Wg))\/e=mk (.acquire (stA H.Wg))):Bk H.Wg e\/e=mk (.read (smA H.Wg))\/e=mk (.write (smA H.Wg))\/e=mk (.acquire (stA H.Wg)):=hb e (by simpa using h)
section
variable(hQ:∀i own X v w w',H.Q i own X v w->BR true X w w'->H.Q i own X v w')
include hQ
theorem Jnb{s:Nat}(h:JInv H (.go s) j D f0 d0 q gs w t)(ha:gs[0]?=some a){r:Nat}(hr:r<H.n)(hj:j=H.n-(r+1))(iF:d0=0)(hG:JGo H j s (JSp H r) a w):MR H (.go s) j D f0 q 0 gs w sl t:=by
 have hJ:=h.jw;obtain⟨AQ,Bo,CO,XK,LP,KT⟩:=h.sb;obtain⟨a',child,Qc,hcr,hco,hR,OB,Og⟩:=hG.2 (λb hb=>hJ.keep b (.inl hb)) AQ hJ.os;obtain⟨st,sm,AY,Ai⟩:=h.wg;obtain⟨ho,rfl,rfl,_⟩:=Ai.open_inv trivial;have AB:=runT_crowd_spawn (P:=H.P) (sl:=sl) (i:=0) ha Qc;rw[h.size]at AB;have Dq:0<gs.size:=(BJ.1 ha).1;have XO:s<w.heap.size:=(BJ.1 AQ).1
 let D':CG:=⟨λ_=>False,λb=>H.Sh0 b\/b=s,JA,some ⟨λ_=>False,λb=>H.Sh0 b\/b=s,child,w⟩,⟨7,0,0⟩⟩
 have other:∀k,k<j->upd D j D' k=D k:=λk hk=>upd_ne D D' (by omega);have SS:JW H (j+1) (upd D j D') w:=by
  refine⟨hJ.keep,hJ.pay,λk hk hs=>?_,λk hk b hb=>?_,λk hk b hb=>?_,λa b ha hb Oa c hc=>?_,λk hk b hb=>?_,λk hk b hb=>?_,hJ.wg,hJ.c,hJ.cw,hJ.cW,hJ.wW,hJ.sh0,hJ.wl,hJ.os,hJ.out⟩
  .rcases BF k j with h1|h1
   .rw[other k h1]at hs ⊢;exact hJ.has k h1 hs
   .obtain rfl:k=j:=by omega
    grind[upd_same]
  .rcases BF k j with h1|h1
   .rw[other k h1]at hb;exact hJ.low k h1 b hb
   .obtain rfl:k=j:=by omega
    rw[upd_same]at hb;rcases hb with hb|rfl
    .exact(hJ.sh0 b hb).1
    .exact XO
  .rcases BF k j with h1|h1
   .rw[other k h1]at hb ⊢;exact hJ.Ie k h1 b hb
   .obtain rfl:k=j:=by omega
    grind[upd_same]
  .rcases BF a j with h1|h1
   .rw[other a h1]at hc;rcases BF b j with h2|h2
    .rw[other b h2];exact hJ.NM a b h1 h2 Oa c hc
    .obtain rfl:b=j:=by omega
     rw[upd_same];rintro(hx|rfl)
     .exact(hJ.Oz a h1 c hc).1 hx
     .exact CO a h1 (hJ.Ie a h1 c hc)
   .obtain rfl:a=j:=by omega
    grind[upd_same]
  .rcases BF k j with h1|h1
   .rw[other k h1]at hb;exact hJ.Oz k h1 b hb
   .obtain rfl:k=j:=by omega
    grind[upd_same]
  .rcases BF k j with h1|h1
   .rw[other k h1]at hb;exact hJ.avoid k h1 b hb
   .obtain rfl:k=j:=by omega
    rw[upd_same]at hb;rcases hb with hb|rfl
    .exact(hJ.sh0 b hb).2
    grind
 have sK:∀k,k<=H.m+j->∀l,Ky H (j+1) (upd D j D') k l↔Ky H j D k l:=by
  intro k hk l;constructor
  .rintro⟨i,hi,rfl,h1⟩;have h2:i<j:=by omega
   rw[other i h2]at h1;exact⟨i,h2,rfl,h1⟩
  .rintro⟨i,hi,rfl,h1⟩;exact⟨i,by omega,rfl,by grind⟩
 have rd1:∀k,k<=H.m+j->∀l,RdJ H (j+1) (upd D j D') k l↔RdJ H j D k l:=by
  intro k hk l;constructor
  .rintro⟨i,hi,rfl,h1⟩;have h2:i<j:=by omega
   rw[other i h2]at h1;exact⟨i,h2,rfl,h1⟩
  .rintro⟨i,hi,rfl,h1⟩;exact⟨i,by omega,rfl,by grind⟩
 let x:MemOp:={ g:=0,fn:=a.frame.fn,pos:=a.frame.place,act:=.go (H.m+j+1) }
 let y:MemOp:={ g:=H.m+j+1,fn:=child.frame.fn,pos:=a.frame.place,act:=.start }
 have Jma:((MemOp.ofEvents 0 a.frame.fn a.frame.place #[]).push { g:=0,fn:=a.frame.fn,pos:=a.frame.place,act:=.go (H.m+1+j) }).push { g:=H.m+1+j,fn:=child.frame.fn,pos:=a.frame.place,act:=.start }=#[x,y]:=by
  grind[ofEvents_eq]
 rw[Jma]at AB;have AA:∀op∈#[x,y],op=x\/op=y:=by simp
 have LH:∀op∈#[x,y],op.act.touch?=none:=λop Ar=>by rcases AA op Ar with rfl|rfl<;>rfl
 have hct:CT (ShJ H) (Ky H (j+1) (upd D j D')) (RdJ H (j+1) (upd D j D')) (t++#[x,y]) (H.m+j+1):=by
  have c0:CT (ShJ H) (Ky H (j+1) (upd D j D')) (RdJ H (j+1) (upd D j D')) t (H.m+j):=
   Sim.CT.widen h.jt.ct (λk _ kj l=>(sK k kj l).2) (λk _ kj l hl=>.inl ((sK k kj l).1 hl)) (λk _ kj l=>rd1 k kj l)
  exact c0.fork SS.apart ⟨rfl,rfl⟩ ⟨rfl,rfl⟩ (by rw[h.jt.deaf0];exact iF)
 have Ae:∀g,Deaf (t++#[x,y]) g=Deaf t g:=λg=>Deaf_still t g #[x,y] λop Ar=>by grind
 have hjt:JT H (j+1) (upd D j D') 0 w (t++#[x,y]):=by
  refine⟨hct,?_,?_,?_,?_,?_,?_,?_,?_⟩
  .obtain⟨u,hu⟩:=h.jt.pre
   grind
  .refine seen_app h.jt.low λop Ar=>?_;rcases AA op Ar with rfl|rfl<;>trivial
  .intro k op z hk Ar hz;rcases getElem?_append_cases Ar with⟨_,h1⟩|⟨_,h1⟩
   .obtain⟨h2,h3⟩:=h.jt.new k op z hk h1 hz;exact⟨h2.imp id λ⟨i',h4,h5⟩=>⟨i',by omega,h5⟩,h3⟩
   grind
  .refine h.jt.UZ.app λop Ar=>?_
   grind
  .rw[Ae,h.jt.deaf0,iF]
  .intro k hk;rw[Ae];rcases BF k j with h1|h1
   .rw[other k h1];exact h.jt.deafW k h1
   .obtain rfl:k=j:=by omega
    rw[upd_same];exact h.jt.above _ (by omega)
  .intro k hk;rw[Ae];exact h.jt.above k (by omega)
  .intro k hk hs;rcases BF k j with h1|h1
   .rw[other k h1]at hs;obtain⟨r,hr⟩:=h.jt.rel k h1 hs;refine⟨r,hr.appNot λop Ar=>?_⟩
    grind
   .obtain rfl:k=j:=by omega
    grind[upd_same]
 have eV:Vc (j+1) (upd (λk=>(D k).d) j D'.d)=Vc j (λk=>(D k).d)+1:=by simp only[Vc,sumTo,upd_same];rw[sumTo_upd_out (λk=>(D k).d) _ cnt (Ad _)];rfl
 have Em:OpenSt (j+1) (upd (λk=>(D k).d) j D'.d):=λi hi=>by
  by_cases e:i=j
  .grind[upd_same]
  .rw[upd_ne _ _ e];exact ho i (by omega)
 have LQ:∃tag' f',Dz H tag' (j+1) f' 0 a' w/\Y8 tag'/\He tag'=0/\(∀vs,tag'≠.w2 vs)/\(∀D w,Va H tag' (j+1) D w)/\tag'≠.fin:=by
  cases r with
  |zero=>
   obtain⟨k,hk⟩:=Og;have e:j+1=H.n:=by omega
   rw[e];exact⟨.kd,k,.kd hk,trivial,rfl,by simp,λ_ _=>trivial,by simp⟩
  |succ r=>
   obtain⟨k,hk⟩:=Og;have e:j+1=H.n-(r+1):=by omega
   rw[e];exact⟨.al,k,.al (by omega) hk,trivial,rfl,by simp,λ_ _=>trivial,by simp⟩
 obtain⟨tag',f',D9,Az,Bc,Dx,QY,EW⟩:=LQ;refine⟨_,w,_,tag',j+1,upd D j D',f',0,q,AB,⟨by omega,by simp[h.size];omega,⟨a',?_,D9⟩,λk hk=>?_,λk b DI BX hb=>?_,SS,hjt,⟨_,_,AY,?_⟩,?_,λe=>absurd e EW⟩,.inl (by omega)⟩
 .grind
 .rcases BF k j with h1|h1
  .obtain⟨b,hb,N8⟩:=h.ws k h1
   grind
  .obtain rfl:k=j:=by omega
   refine⟨child,?_,by rw[upd_same];exact .work _ rfl rfl rfl rfl hR ⟨λ_ _=>rfl,Ad _,λ_=>rfl,rfl⟩ rfl hcr hco⟩;rw[show H.m+1+k=(gs.setIfInBounds 0 a').size by simp[h.size],Array.getElem?_push_size]
 .have Ac:k<gs.size:=by have:=h.size;omega
  rw[Array.getElem?_push_lt (by grind),<- Bz,AV (by omega)]at hb;rw[Ae];exact h.old k b DI BX hb
 .have hm:Ju (j+1) (λk=>(upd D j D' k).d) tag' (((Vc (j+1) (λk=>(upd D j D' k).d)+He tag':Nat):Int)*KK) 0:=.opn Az (by rw[Ws];exact Em) (λvs e=>absurd e (Dx vs));have e:(Vc (j+1) (λk=>(upd D j D' k).d)+He tag':Nat)=Vc j (λk=>(D k).d)+He (.go s):=by rw[Ws,eV,Bc];rfl
  grind
 grind
theorem nH(hn:H.n<2147483648)(O8:∀g w,H.Anch g w->∃m,Goes H.P true (RM H.ty H.Wg) DC0 (JW1 H.P H.ty H.Wg H.Fin H.Anch) m g w)
  (h:JInv H tag j D f0 d0 q gs w t) (ha:gs[0]?=some a) (AB:a.status=.running) (FH:Dz H tag j f0 d0 a w) :
  (tag=.fin/\∀wZ1,RM H.ty H.Wg w wZ1->H.Fin a wZ1)\/(∃f',tag=.anch/\JInv H .w1 j D f' d0 q gs w t)\/MR H tag j D f0 q 0 gs w sl t:=by
 have hJ:=h.jw;obtain⟨st,sm,AY,Ai⟩:=h.wg;have hVj:=Vc_le j (λk=>(D k).d);cases FH with
 |@al r f _ _ hr hG=>
  rcases Goes.cases hG with Ak|⟨m',rfl,Ah⟩
  .obtain⟨_,a',hgo,k,hk⟩:=Ak w id;have old:∀b,b<w.heap.size->(w.heap.push (.cells #[JK 0] H.tI))[b]?=w.heap[b]?:=λb hb=>by grind
   have hz:w.heap.size<=(w.heap.push (.cells #[JK 0] H.tI)).size:=by simp
   refine .inr (.inr (Jab hQ h ha hgo hz (λk hk=>⟨⟨λb hb=>old b (hJ.low k hk b hb),hz,λe=>by(cases e),rfl⟩,RW.of_same (old _ hJ.wg) (old _ hJ.c)⟩) ?_ (by simp) (by simp) (by simp) (by simp) (tag':=.st w.heap.size) (.st hr hk) (AY.of_block (old _ hJ.wg)) (Ai.reopen trivial trivial rfl (by simp)) ?_ (by simp) (.inl (by simp only[DK];omega))))
   .obtain⟨cs,h1,h2⟩:=hJ.pay;exact⟨λb hb=>(old b (hb.elim (λz=>(hJ.sh0 b z).1) (hJ.wl b))).trans (hJ.keep b hb),⟨cs,(old _ hJ.c).trans h1,h2⟩,λk hk hs=>(cell_of_block (old _ hJ.c) k).trans (hJ.has k hk hs),λk hk b hb=>DX (hJ.low k hk b hb) hz,hJ.Ie,hJ.NM,hJ.Oz,hJ.avoid,
     DX hJ.wg hz,DX hJ.c hz,hJ.cw,hJ.cW,hJ.wW,λb hb=>⟨DX (hJ.sh0 b hb).1 hz,(hJ.sh0 b hb).2⟩,λb hb=>DX (hJ.wl b hb) hz,hJ.os,hJ.out⟩
   .refine⟨by simp,λhx=>?_,λi hi hx=>?_,λe=>?_,λe=>?_,λhx=>?_⟩
    .exact absurd (hJ.sh0 _ hx).1 (by omega)
    .exact absurd (hJ.low i hi _ hx) (by omega)
    .exact absurd hJ.wg (by omega)
    .exact absurd hJ.c (by omega)
    .exact absurd (hJ.wl _ hx) (by omega)
  .obtain⟨a',w',es,hgo,⟨rfl,rfl⟩,Bd⟩:=Ah w id;exact .inr (.inr (idle0 hQ h ha hgo (.al hr Bd) (by omega)))
 |@st r s f _ _ hr hG=>
  rcases Goes.cases hG with Ak|⟨m',rfl,Ah⟩
  .obtain⟨_,hx⟩:=Ak w id;obtain⟨AQ,Bo,CO,XK,LP,KT⟩:=h.sb;obtain⟨a',hgo,k,hk⟩:=hx AQ;have XO:s<w.heap.size:=(BJ.1 AQ).1;have keep:∀b,b≠s->(w.setCell ⟨s,0,none⟩ (JK ((H.n-(r+1):Nat):Int))).heap[b]?=w.heap[b]?:=λb hb=>(aside_setCell w ⟨s,0,none⟩ _).block b hb;have hz:(w.setCell ⟨s,0,none⟩ (JK ((H.n-(r+1):Nat):Int))).heap.size=w.heap.size:=(aside_setCell w ⟨s,0,none⟩ _).size;have hb:∀e∈(#[⟨.cell ⟨s,0,none⟩,true,false⟩]:Array Event),e=⟨.cell ⟨s,0,none⟩,true,false⟩:=by simp
   have bl:∀l:Loc,∀b,Qv l=some b->l=.cell ⟨s,0,none⟩->b=s:=λl b h1 h2=>by rw[h2]at h1;simp[Qv]at h1;exact h1.symm
   refine .inr (.inr (Jab hQ h ha hgo (Nat.le_of_eq hz.symm) (λk hk=>⟨⟨λb hb=>keep b (λe=>CO k hk (e▸hb)),Nat.le_of_eq hz.symm,λe=>by(cases e),rfl⟩,RW.of_same (keep _ (Ne.symm XK)) (keep _ (Ne.symm LP))⟩) ?_ (λe he=>?_) (λe he=>?_) (λe he x hx hn=>?_) (λe he=>?_) (tag':=.kds s) (.kds hr hk)
    (AY.of_block (keep _ (Ne.symm XK))) (Ai.reopen trivial trivial rfl (by simp)) ?_ (by simp) (.inl (by simp only[DK];omega))))
   .obtain⟨cs,h1,h2⟩:=hJ.pay;have eC:=keep _ (Ne.symm LP);exact⟨λb hb=>(keep b (λe=>hb.elim (λz=>Bo (e▸z)) λz=>KT (e▸z))).trans (hJ.keep b hb),⟨cs,eC.trans h1,h2⟩,λk hk hs=>(cell_of_block eC k).trans (hJ.has k hk hs),λk hk b hb=>by rw[hz];exact hJ.low k hk b hb,hJ.Ie,hJ.NM,hJ.Oz,hJ.avoid,
     by rw[hz];exact hJ.wg,by grind,hJ.cw,hJ.cW,hJ.wW,λb hb=>by rw[hz];exact hJ.sh0 b hb,λb hb=>by rw[hz];exact hJ.wl b hb,hJ.os,hJ.out⟩
   .rw[hb e he];refine⟨rfl,λx hx=>?_⟩;simp only[ofEvent_cell,MemAct.touch?,Cb]at hx;subst hx;refine .inr ⟨?_,?_,?_⟩
    .rintro⟨a,ha,hw⟩
     grind
    .rintro k _ _ ⟨i,hi,_,h1⟩;rcases h1 with⟨b,h1,h2⟩|h1
     .have:=bl _ b h1 rfl;subst this;exact CO i hi (hJ.Ie i hi _ h2)
     grind
    .rintro _ k _ _ ⟨i,hi,_,b,h1,h2,_⟩
     grind
   .rw[hb e he];show s<_;grind
   .rw[hb e he]at hx;simp only[ofEvent_cell,MemAct.touch?,Cb]at hx;subst hx;exact⟨rfl,rfl⟩
   .rw[hb e he];simp[MemAct.ofEvent]
   .exact⟨one_setCell AQ,Bo,CO,XK,LP,KT⟩
  .obtain⟨a',w',es,hgo,⟨rfl,rfl⟩,Bd⟩:=Ah w id;exact .inr (.inr (idle0 hQ h ha hgo (.st hr Bd) (by omega)))
 |@kds r s f _ _ hr hG=>
  rcases Goes.cases hG with Ak|⟨m',rfl,Ah⟩
  .obtain⟨_,a',hgo,k,hk⟩:=Ak w id;exact .inr (.inr (book0 hQ h ha hgo (.refl H.Wg w) AY (λe he=>bk1 he (by simp[Bk,mk])) (tag':=.a1 s) (.a1 hr hk) (Ai.reopen trivial trivial rfl (by simp)) id (by simp) (.inl (by simp only[DK];omega))))
  .obtain⟨a',w',es,hgo,⟨rfl,rfl⟩,Bd⟩:=Ah w id;exact .inr (.inr (idle0 hQ h ha hgo (.kds hr Bd) (by omega)))
 |@a1 r s f _ _ hr hG=>
  rcases Goes.cases hG with Ak|⟨m',rfl,Ah⟩
  .obtain⟨_,Au⟩:=Ak w id;obtain⟨ho,rfl,rfl,_⟩:=Ai.open_inv trivial;obtain⟨a',hgo,h0,h1⟩:=Au (Vc (H.n-(r+1)) λk=>(D k).d) (by omega) (by simpa[He]using AY);have bks:∀e∈#[rd (stA H.Wg),wr (stA H.Wg)],Bk H.Wg e\/e=mk (.read (smA H.Wg))\/e=mk (.write (smA H.Wg))\/e=mk (.acquire (stA H.Wg)):=λe he=>.inl (by simp at he;rcases he with rfl|rfl<;>exact bk_cell _ _ rfl);have hm:∀tag',Y8 tag'->He tag'=1->(∀vs,tag'≠.w2 vs)->Ju (H.n-(r+1)) (λk=>(D k).d) tag' ((((Vc (H.n-(r+1)) λk=>(D k).d):Nat):Int)*KK+1*KK) 0:=λtag' h1 h2 h3=>by
    have e:((((Vc (H.n-(r+1)) λk=>(D k).d):Nat):Int)*KK+1*KK)=(((Vc (H.n-(r+1)) λk=>(D k).d)+He tag':Nat):Int)*KK:=by
     grind
    rw[e];exact .opn h1 ho (λvs e=>absurd e (h3 vs))
   have e2:((((Vc (H.n-(r+1)) λk=>(D k).d):Nat):Int)+1)*KK=((((Vc (H.n-(r+1)) λk=>(D k).d):Nat):Int)*KK+1*KK):=Int.add_mul _ _ _;by_cases hv:(Vc (H.n-(r+1)) λk=>(D k).d)=0
   .obtain⟨k,hk⟩:=h0 hv;exact .inr (.inr (book0 hQ h ha hgo (aside_setCell w (stA H.Wg) _) (AY.setSt _) bks (tag':=.rd s) (.rd hr hk) (by rw[e2];exact hm _ trivial rfl (by simp)) id (by simp) (.inl (by simp only[DK];omega))))
   .obtain⟨k,hk⟩:=h1 hv;exact .inr (.inr (book0 hQ h ha hgo (aside_setCell w (stA H.Wg) _) (AY.setSt _) bks (tag':=.kes s) (.kes hr hk) (by rw[e2];exact hm _ trivial rfl (by simp)) id (by simp) (.inl (by simp only[DK];omega))))
  .obtain⟨a',w',es,hgo,⟨rfl,rfl⟩,Bd⟩:=Ah w id;exact .inr (.inr (idle0 hQ h ha hgo (.a1 hr Bd) (by omega)))
 |@rd r s f _ _ hr hG=>
  rcases Goes.cases hG with Ak|⟨m',rfl,Ah⟩
  .obtain⟨_,a',hgo,k,hk⟩:=Ak w id;exact .inr (.inr (book0 hQ h ha hgo (.refl H.Wg w) AY (λe he=>bk1 he (by simp)) (tag':=.kes s) (.kes hr hk) (Ai.reopen trivial trivial rfl (by simp)) id (by simp) (.inl (by simp only[DK];omega))))
  .obtain⟨a',w',es,hgo,⟨rfl,rfl⟩,Bd⟩:=Ah w id;exact .inr (.inr (idle0 hQ h ha hgo (.rd hr Bd) (by omega)))
 |@kes r s f _ _ hr hG=>
  rcases Goes.cases hG with Ak|⟨m',rfl,Ah⟩
  .obtain⟨_,a',hgo,k,hk⟩:=Ak w id;exact .inr (.inr (book0 hQ h ha hgo (.refl H.Wg w) AY (λe he=>bk1 he (by simp[Bk,mk])) (tag':=.go s) (.go hr hk) (Ai.reopen trivial trivial rfl (by simp)) id (by simp) (.inl (by simp only[DK];omega))))
  .obtain⟨a',w',es,hgo,⟨rfl,rfl⟩,Bd⟩:=Ah w id;exact .inr (.inr (idle0 hQ h ha hgo (.kes hr Bd) (by omega)))
 |@go r s f _ _ hr hG=>
  rcases Goes.cases hG with Ak|⟨m',rfl,Ah⟩
  .exact .inr (.inr (Jnb hQ h ha hr rfl rfl (Ak w id)))
  .obtain⟨a',w',es,hgo,⟨rfl,rfl⟩,Bd⟩:=Ah w id;exact .inr (.inr (idle0 hQ h ha hgo (.go hr Bd) (by omega)))
 |kd hG=>
  rcases Goes.cases hG with Ak|⟨m',rfl,Ah⟩
  .obtain⟨_,a',hgo,k,hk⟩:=Ak w id;exact .inr (.inr (book0 hQ h ha hgo (.refl H.Wg w) AY (λe he=>bk1 he (by simp[Bk,mk])) (tag':=.anch) (.anch hk) (Ai.reopen trivial trivial rfl (by simp)) (λ_=>trivial) (by simp) (.inl (by simp only[DK];omega))))
  .obtain⟨a',w',es,hgo,⟨rfl,rfl⟩,Bd⟩:=Ah w id;exact .inr (.inr (idle0 hQ h ha hgo (.kd Bd) (by omega)))
 |anch hG=>
  rcases Goes.cases hG with Ak|⟨m',rfl,Ah⟩
  .obtain⟨m,hm⟩:=O8 a w (Ak w id);exact .inr (.inl ⟨m,rfl,⟨h.jn,h.size,⟨a,ha,.w1 hm⟩,h.ws,h.old,h.jw,h.jt,⟨st,sm,AY,Ai.reopen trivial trivial rfl (by simp)⟩,trivial,by simp⟩⟩)
  .obtain⟨a',w',es,hgo,⟨rfl,rfl⟩,Bd⟩:=Ah w id;exact .inr (.inr (idle0 hQ h ha hgo (.anch Bd) (by omega)))
 |w1 hG=>
  rcases Goes.cases hG with Ak|⟨m',rfl,Ah⟩
  .obtain⟨_,Au⟩:=Ak w id;obtain⟨ho,rfl,rfl,_⟩:=Ai.open_inv trivial;obtain⟨a',hgo,h0,Ap⟩:=Au (Vc H.n λk=>(D k).d) (by omega) (by simpa[He]using AY);by_cases hv:(Vc H.n λk=>(D k).d)=0
   .obtain⟨k,hk⟩:=h0 hv;refine .inr (.inr (book0 hQ h ha hgo (.refl H.Wg w) AY (λe he=>bk1 he (by simp[Bk,rd,stA])) (tag':=.ke) (.ke hk) ?_ (λ_=>trivial) (by simp) (.inl (by simp only[DK];omega))));have e:(((Vc H.n λk=>(D k).d)+He .w1:Nat):Int)*KK=0:=by rw[hv];simp[He]
    rw[e];exact .fin trivial (allQuit_of ho hv)
   .obtain⟨k,hk⟩:=Ap hv;exact .inr (.inr (book0 hQ h ha hgo (.refl H.Wg w) AY (λe he=>bk1 he (by simp[Bk,rd,stA])) (tag':=.w2 (Vc H.n λk=>(D k).d)) (.w2 hk) (Ai.reopen trivial trivial rfl (λvs e=>by grind)) (λ_=>trivial) (by simp) (.inl (by simp only[DK];omega))))
  .obtain⟨a',w',es,hgo,⟨rfl,rfl⟩,Bd⟩:=Ah w id;exact .inr (.inr (idle0 hQ h ha hgo (.w1 Bd) (by omega)))
 |@w2 vs f _ _ hG=>
  rcases Goes.cases hG with Ak|⟨m',rfl,Ah⟩
  .obtain⟨_,Au⟩:=Ak w id;obtain⟨ho,rfl,rfl,hvs⟩:=Ai.open_inv trivial;obtain⟨hle,h1⟩:=hvs vs rfl;obtain⟨hhit,Ii⟩:=Au (Vc H.n λk=>(D k).d) (by omega) (by simpa[He]using AY);by_cases hv:(Vc H.n λk=>(D k).d)=vs
   .obtain⟨a',hgo,k,hk⟩:=hhit hv;exact .inr (.inr (book0 hQ h ha hgo (aside_setCell w (stA H.Wg) _) (AY.setSt _) (λe he=>.inl (by simp at he;rcases he with rfl|rfl<;>exact bk_cell _ _ rfl)) (tag':=.wr) (.wr hk) (.reg trivial ho (by omega)) (λ_=>trivial) (by simp) (.inl (by simp only[DK];omega))))
   .obtain⟨a',hgo,k,hk⟩:=Ii hv;exact .inr (.inr (book0 hQ h ha hgo (.refl H.Wg w) AY (λe he=>bk1 he (by simp[Bk,rd,stA])) (tag':=.anch) (.anch hk) (Ai.reopen trivial trivial rfl (by simp)) (λ_=>trivial) (by simp) (.inl (by simp only[DK];omega))))
  .obtain⟨a',w',es,hgo,⟨rfl,rfl⟩,Bd⟩:=Ah w id;exact .inr (.inr (idle0 hQ h ha hgo (.w2 Bd) (by omega)))
 |wr hG=>
  rcases Goes.cases hG with Ak|⟨m',rfl,Ah⟩
  .obtain⟨_,a',hgo,k,hk⟩:=Ak w id;exact .inr (.inr (book0 hQ h ha hgo (.refl H.Wg w) AY (λe he=>bk1 he (by simp)) (tag':=.w3) (.w3 hk) (Ai.Jqo trivial trivial (by simp)) (λ_=>trivial) (by simp) (.inl (by simp only[DK];omega))))
  .obtain⟨a',w',es,hgo,⟨rfl,rfl⟩,Bd⟩:=Ah w id;exact .inr (.inr (idle0 hQ h ha hgo (.wr Bd) (by omega)))
 |w3 hG=>
  rcases Goes.cases hG with Ak|⟨m',rfl,Ah⟩
  .obtain⟨_,_,hblk,QZ⟩:=Ak w id;rcases Ai.J04g trivial with rfl|⟨rfl,rfl,hq⟩
   .exact .inr (.inr (book0 hQ h ha (hblk ⟨_,AY⟩) (.refl H.Wg w) AY (by simp) (tag':=.blk) (.blk Ak) (Ai.Jqo trivial trivial (λ_=>rfl)) (λ_=>trivial) (by simp) (.inr ⟨rfl,by omega⟩)))
   .obtain⟨a',hgo,k,hk⟩:=QZ AY;exact .inr (.inr (book0 hQ h ha hgo (aside_setCell w (smA H.Wg) _) (AY.setSm 0) (λe he=>.inl (Jm0 e he)) (tag':=.w4) (.w4 hk) (.fin trivial hq) (λ_=>trivial) (by simp) (.inl (by simp only[DK];omega))))
  .obtain⟨a',w',es,hgo,⟨rfl,rfl⟩,Bd⟩:=Ah w id;exact .inr (.inr (idle0 hQ h ha hgo (.w3 Bd) (by omega)))
 |blk h=>simp at AB
 |w4 hG=>
  rcases Goes.cases hG with Ak|⟨m',rfl,Ah⟩
  .obtain⟨_,hx⟩:=Ak w id;obtain⟨hq,rfl,rfl⟩:=Ai.fin_inv trivial;obtain⟨a',hgo,k,hk⟩:=hx AY;exact .inr (.inr (book0 hQ h ha hgo (.refl H.Wg w) AY (λe he=>bk1 he (by simp[Bk,rd,stA])) (tag':=.ke) (.ke hk) (.fin trivial hq) (λ_=>trivial) (by simp) (.inl (by simp only[DK];omega))))
  .obtain⟨a',w',es,hgo,⟨rfl,rfl⟩,Bd⟩:=Ah w id;exact .inr (.inr (idle0 hQ h ha hgo (.w4 Bd) (by omega)))
 |ke hG=>
  rcases Goes.cases hG with Ak|⟨m',rfl,Ah⟩
  .obtain⟨_,a',hgo,k,hk⟩:=Ak w id;obtain⟨hq,rfl,rfl⟩:=Ai.fin_inv trivial;exact .inr (.inr (book0 hQ h ha hgo (.refl H.Wg w) AY (λe he=>bk1 he (by simp[Bk,mk])) (tag':=.acq) (.acq hk) (.fin trivial hq) (λ_=>trivial) (by simp) (.inl (by simp only[DK];omega))))
  .obtain⟨a',w',es,hgo,⟨rfl,rfl⟩,Bd⟩:=Ah w id;exact .inr (.inr (idle0 hQ h ha hgo (.ke Bd) (by omega)))
 |acq hG=>
  rcases Goes.cases hG with Ak|⟨m',rfl,Ah⟩
  .obtain⟨_,a',hgo,k,hk⟩:=Ak w id;obtain⟨hq,rfl,rfl⟩:=Ai.fin_inv trivial;refine .inr (.inr (book0 hQ h ha hgo (.refl H.Wg w) AY (λe he=>bk1 he (by simp)) (tag':=.fin) (.fin hk) (.fin trivial hq) (λ_=>trivial) (λ_=>?_) (.inl (by simp only[DK];omega))));have e1:MemOp.ofEvents 0 a.frame.fn a.frame.place #[mk (.acquire (stA H.Wg))]=#[{ g:=0,fn:=a.frame.fn,pos:=a.frame.place,act:=.mark (.acquire (stA H.Wg)) }]:=by rw[ofEvents_eq];simp[ofEvent_mk]
   have hy:(t++#[({ g:=0,fn:=a.frame.fn,pos:=a.frame.place,act:=.mark (.acquire (stA H.Wg)) }:MemOp)])[t.size]?=some { g:=0,fn:=a.frame.fn,pos:=a.frame.place,act:=.mark (.acquire (stA H.Wg)) }:=by simp
   refine⟨t.size,by rw[e1,act?_of hy],by rw[e1];simp[Trace.g?],by rw[e1];exact⟨0,by simp[Trace.g?],by rw[deaf_old (Ad _)];exact h.jt.deaf0⟩,λi hi=>?_⟩;obtain⟨r,hr⟩:=h.jt.rel i hi (by have:=hq i hi;grind);exact⟨r,hr.appOther g_of_ofEvents (by omega),lt_of_act? hr.act⟩
  .obtain⟨a',w',es,hgo,⟨rfl,rfl⟩,Bd⟩:=Ah w id;exact .inr (.inr (idle0 hQ h ha hgo (.acq Bd) (by omega)))
 |fin hG=>
  rcases Goes.cases hG with Ak|⟨m',rfl,Ah⟩
  .grind
  .obtain⟨a',w',es,hgo,⟨rfl,rfl⟩,Bd⟩:=Ah w id;exact .inr (.inr (idle0 hQ h ha hgo (.fin Bd) (by omega)))
end
end
section
variable[Payload]{H:Ph}{tag tag':DW}{j:Nat}{D:Nat->CG}{f0 d0 f':Nat}{q:Nat->Nat}{gs:Array JF}{w w':JE}{sl:Option (Nat × Nat)}{t:Trace}{a a':JF}{es:Array Event}
theorem Dz.status(EO:∀g w,H.Anch g w->g.status=.running)(ES:∀g w,H.Fin g w->g.status=.running){d:Nat}(h:Dz H tag j f' d a w):a.status=.running\/(a.status=.blocked/\tag=.blk):=by
 have gm:∀{Stop:JF->JE->Prop}{n:Nat},(∀g w,Stop g w->g.status=.running)->Goes H.P true (RM H.ty H.Wg) DC0 Stop n a w->a.status=.running:=λhs hg=>Goes.running hs w id hg;cases h with
 |al hr h=>exact .inl (gm (λ_ _ x=>x.1) h)
 |st hr h=>exact .inl (gm (λ_ _ x=>x.1) h)
 |kds hr h=>exact .inl (gm (λ_ _ x=>x.1) h)
 |a1 hr h=>exact .inl (gm (λ_ _ x=>x.1) h)
 |rd hr h=>exact .inl (gm (λ_ _ x=>x.1) h)
 |kes hr h=>exact .inl (gm (λ_ _ x=>x.1) h)
 |go hr h=>exact .inl (gm (λ_ _ x=>x.1) h)
 |kd h=>exact .inl (gm (λ_ _ x=>x.1) h)
 |anch h=>grind
 |w1 h=>exact .inl (gm (λ_ _ x=>x.1) h)
 |w2 h=>exact .inl (gm (λ_ _ x=>x.1) h)
 |wr h=>exact .inl (gm (λ_ _ x=>x.1) h)
 |w3 h=>exact .inl (gm (λ_ _ x=>x.1) h)
 |w4 h=>exact .inl (gm (λ_ _ x=>x.1) h)
 |ke h=>exact .inl (gm (λ_ _ x=>x.1) h)
 |acq h=>exact .inl (gm (λ_ _ x=>x.1) h)
 |fin h=>grind
 |blk h=>grind
theorem WS.running_of{i:Nat}{D:CG}{g:JF}(h:WS H i D g w)(hs:D.d.stage≠1):g.status=.running:=by
 cases h with
 |work y _ _ _ _ _ _ _ hs=>exact hs
 |r0 _ f _ hs=>exact Goes.running (λ_ _ x=>x.1) w (RW.refl w) hs
 |tail _ _ D9=>exact WSit.running_of D9 hs
theorem JInv.at(hQ:∀i own X v w w',H.Q i own X v w->BR true X w w'->H.Q i own X v w')(h:JInv H tag j D f0 d0 q gs w t)(d:Nat):JInv H tag j D f0 d0 q gs (w.at d) t:=by
 obtain⟨a,ha,hs⟩:=h.main;have hJ:=h.jw;have hT:=h.jt;refine⟨h.jn,h.size,⟨a,ha,hs.rely H (λx=>x)⟩,λi hi=>?_,h.old,⟨hJ.keep,hJ.pay,hJ.has,hJ.low,hJ.Ie,hJ.NM,hJ.Oz,hJ.avoid,hJ.wg,hJ.c,hJ.cw,hJ.cW,hJ.wW,hJ.sh0,hJ.wl,hJ.os,hJ.out⟩,
  ⟨hT.ct,hT.pre,hT.low,hT.new,hT.UZ,hT.deaf0,hT.deafW,hT.above,hT.rel⟩,h.wg,h.sb,h.acq⟩
 obtain⟨g,hg,hw⟩:=h.ws i hi;exact⟨g,hg,hw.other H hQ ⟨⟨λ_ _=>rfl,Ad _,λe=>by(cases e),rfl⟩,RW.of_same rfl rfl⟩⟩
section
variable(EO:∀g w,H.Anch g w->g.status=.running)(ES:∀g w,H.Fin g w->g.status=.running)
include EO ES
theorem JInv.someone(h:JInv H tag j D f0 d0 q gs w t):∃(i:Nat)(g:JF),gs[i]?=some g/\g.status=.running:=by
 obtain⟨a,ha,hs⟩:=h.main;rcases hs.status EO ES with hr|⟨_,rfl⟩
 .grind
 .obtain⟨st,sm,_,Ai⟩:=h.wg;cases Ai with
  |opn h1 _ _=>exact h1.elim
  |reg _ _ h3=>
   obtain⟨i,hi,h5⟩:=exists_counted h3;obtain⟨g,hg,hw⟩:=h.ws i hi;exact⟨_,g,hg,hw.running_of (by omega)⟩
  |last L _ h2 h3 _=>
   obtain⟨g,hg,hw⟩:=h.ws L h2;exact⟨_,g,hg,hw.running_of (by omega)⟩
  |sema h1 _=>grind
  |fin h1 _=>exact h1.elim
theorem JInv.awake(h:JInv H tag j D f0 d0 q gs w t):∀g∈gs,awake g:=by
 intro g hg;obtain⟨i,hi⟩:=Array.mem_iff_getElem?.1 hg;obtain⟨a,ha,hs⟩:=h.main;have Ac:=(BJ.1 hi).1;rw[h.size]at Ac;rcases Nat.eq_zero_or_pos i with rfl|BZ
 .rw[ha]at hi;cases hi;rcases hs.status EO ES with hr|⟨hr,_⟩
  all_goals grind[awake_of]
 .by_cases hm:i<=H.m
  .exact awake_of ((h.old i g BZ hm hi).status.elim .inl λx=>.inr (.inr x))
  .obtain⟨g',Bd,hw⟩:=h.ws (i-(H.m+1)) (by omega);rw[show H.m+1+(i-(H.m+1))=i by omega,hi]at Bd;cases Bd;exact awake_of (hw.status.elim .inl λx=>.inr (.inr x))
theorem Jto(h:JInv H tag j D f0 d0 q gs w t){k:Nat}(DI:0<k)(BX:k<=H.m){g:JF}(hg:gs[k]?=some g)(AB:g.status=.running):MR H tag j D f0 q k gs w sl t:=by
 have hq:=h.old k g DI BX hg;cases hqk:q k with
 |zero=>rw[hqk]at hq;rw[hq.1]at AB;cases AB
 |succ n=>
  rw[hqk]at hq;rcases hq with⟨hf,_⟩|⟨_,g',es,hm,XP,yB⟩
  .grind
  obtain⟨a,ha,LQ⟩:=h.main;obtain⟨tag',f',Jna,IL,Hu,Zl⟩:=LQ.woken EO ES h.live (w':=w) (λx=>x) g g';have Ap:(k == 0)=false:=by simp;omega
  have EK:=runT_crowd_go (P:=H.P) (sl:=sl) (i:=k) hg (by rw[Ap];exact XP w);have Ac:k<gs.size:=(BJ.1 hg).1;have RY:∀op∈MemOp.ofEvents k g.frame.fn g.frame.place es,op.g=k:=λop Ar=>by obtain⟨e,_,rfl⟩:=Conc.mem_ofEvents Ar;rfl
  have nt:∀op∈MemOp.ofEvents k g.frame.fn g.frame.place es,op.act.touch?=none:=λop Ar=>by
   obtain⟨e,he,rfl⟩:=Conc.mem_ofEvents Ar
   grind[touch_mute]
  obtain⟨st,sm,AY,Ai⟩:=h.wg;have hT:=h.jt;refine⟨_,w,_,tag',j,D,f',d0,upd q k n,EK,⟨h.jn,by simpa using h.size,⟨_,?_,Jna⟩,λi hi=>?_,λi b hi1 Nq hb=>?_,h.jw,?_,⟨st,sm,AY,Ai.retag Hu⟩,?_,λe'=>?_⟩,?_⟩
  .grind
  .obtain⟨b,hb,N8⟩:=h.ws i hi;refine⟨b,?_,N8⟩;rw[AV (by omega),Array.getElem?_map,hb];simp[J7m N8.status]
  .by_cases e:k=i
   .subst e;rw[FC (by grind)]at hb;obtain rfl:=Aa hb
    grind[upd_same,Deaf_own]
   .rw[AV e,Array.getElem?_map]at hb;obtain⟨y,hy,rfl⟩:=Fh.1 hb;have wO:=h.old i y hi1 Nq hy;rw[woken_quitsD wO,upd_ne q n (Ne.symm e),Deaf_other t (g:=i) (g':=k) e _ RY];exact wO
  .refine⟨hT.ct.appW h.jw.apart (k:=k) (by omega) (by omega) λop Ar=>⟨RY op Ar,λx hx=>by grind⟩,?_,?_,?_,?_,?_,?_,?_,?_⟩
   .obtain⟨u,hu⟩:=hT.pre
    grind
   .refine seen_app hT.low λop Ar=>?_;obtain⟨e,he,rfl⟩:=Conc.mem_ofEvents Ar;grind[low_mute]
   .intro i op x hi Ar hx;rcases getElem?_append_cases Ar with⟨_,h1⟩|⟨_,h1⟩
    .exact hT.new i op x hi h1 hx
    grind
   .exact hT.UZ.app λop Ar=>by obtain⟨e,he,rfl⟩:=Conc.mem_ofEvents Ar;grind[Jjn,bk_of_mute]
   .rw[Deaf_other t (g:=0) (g':=k) (by omega) _ RY];exact hT.deaf0
   .intro i hi;rw[Deaf_other t (g:=H.m+1+i) (g':=k) (by omega) _ RY];exact hT.deafW i hi
   .intro i hi;rw[Deaf_other t (g:=i) (g':=k) (by omega) _ RY];exact hT.above i hi
   .intro i hi hs;obtain⟨r,hr⟩:=hT.rel i hi hs;exact⟨r,hr.appOther RY (by omega)⟩
  .exact h.sb.keep Hu (λ_ _ _ _ _=>rfl) (λs _ hX=>hX)
  .have OC:TS H j t:=by
    rcases Hu with rfl|⟨_,rfl⟩
    .exact h.acq e'
    .cases e'
   exact OC.app λi r _ hr=>hr.appOther RY (by omega)
  .refine .inr (.inr ⟨rfl,rfl,?_⟩);unfold mu;rw[Jdu _ _ Hu];refine Prod.Lex.right _ ?_;have:=sumTo_upd q n id (j:=H.m+1) (i:=k) (by omega);simp only[id,hqk]at this
   grind
section
variable(hQ:∀i own X v w w',H.Q i own X v w->BR true X w w'->H.Q i own X v w')(hn:H.n<2147483648)(O8:∀g w,H.Anch g w->∃m,Goes H.P true (RM H.ty H.Wg) DC0 (JW1 H.P H.ty H.Wg H.Fin H.Anch) m g w)
include hQ hn O8
theorem JInv.done(h:JInv H tag j D f0 d0 q gs w t){i:Nat}(hi:i<j){g:JF}(hg:gs[H.m+1+i]?=some g){y:Sit}(hr:(D i).rank=some y)(ho:y.own=(D i).own)(hX:y.X=(D i).X)(xM:y.g=g)(hw:BR true y.X y.w w)(hd:(D i).d=⟨7,0,0⟩)
  (Ae:∀w1,BR true y.X y.w w1->Qu H i { y with w:=w1 }):∃D',JInv H tag j D' f0 d0 q gs w t/\Falls H (H.n-j) (ranks j D') (mu H tag j D' f0 q) (H.n-j) (ranks j D) (mu H tag j D f0 q):=by
 obtain⟨v,hq,hk⟩:=Ae w hw;obtain⟨k,hk⟩:=hk w h.jw.pay h.live;simp only at hq hk;rw[ho,hX]at hq;rw[xM]at hk
 let D':CG:=⟨(D i).own,(D i).X,v,none,⟨7,k,0⟩⟩
 have sm:∀a,(upd D i D' a).own=(D a).own/\(upd D i D' a).X=(D a).X/\((upd D i D' a).d.stage=(D a).d.stage)/\(upd D i D' a).d.deaf=(D a).d.deaf/\((D a).d.stage<=6->(upd D i D' a).v=(D a).v):=λa=>by
  by_cases e:a=i
  .subst e;rw[upd_same];grind
  .rw[upd_ne D _ e];grind
 have eo:Ky H j (upd D i D')=Ky H j D:=by funext g l;unfold Ky;grind
 have er:RdJ H j (upd D i D')=RdJ H j D:=by funext g l;unfold RdJ;grind
 have hJ:=h.jw;have hT:=h.jt;obtain⟨st,sm',AY,Ai⟩:=h.wg;refine⟨upd D i D',⟨h.jn,h.size,h.main,λa ha=>?_,h.old,⟨hJ.keep,hJ.pay,λa ha hs=>?_,λa ha b hb=>?_,λa ha b hb=>?_,λa c ha hc Lu b hb=>?_,λa ha b hb=>?_,λa ha b hb=>?_,hJ.wg,hJ.c,hJ.cw,hJ.cW,hJ.wW,hJ.sh0,hJ.wl,hJ.os,hJ.out⟩,
  ⟨by rw[eo,er];exact hT.ct,hT.pre,hT.low,hT.new,hT.UZ,hT.deaf0,λa ha=>by rw[(sm a).2.2.2.1];exact hT.deafW a ha,hT.above,λa ha hs=>hT.rel a ha (by grind)⟩,⟨st,sm',AY,Ai.congr λa _=>(sm a).2.2.1⟩,?_,h.acq⟩,.inr (.inl ⟨rfl,Jdt hi (by rw[hr];exact .done)⟩)⟩
 .by_cases e:a=i
  .subst e;refine⟨g,hg,?_⟩;rw[upd_same];exact .r0 rfl k rfl hk hq
  .rw[upd_ne D _ e];exact h.ws a ha
 .have h6:(D a).d.stage<=6:=by grind
  rw[(sm a).2.2.2.2 h6];exact hJ.has a ha h6
 .rw[(sm a).2.1]at hb;exact hJ.low a ha b hb
 .rw[(sm a).1]at hb;rw[(sm a).2.1];exact hJ.Ie a ha b hb
 .rw[(sm a).1]at hb;rw[(sm c).2.1];exact hJ.NM a c ha hc Lu b hb
 .rw[(sm a).1]at hb;exact hJ.Oz a ha b hb
 .rw[(sm a).2.1]at hb;exact hJ.avoid a ha b hb
 .exact h.sb.keep (.inl rfl) (λ_ _ _ _ _=>rfl) (λs _ hX a ha=>by grind)
theorem Jnc(h:JInv H tag j D f0 d0 q gs w t) :
  (tag=.fin/\∃a,gs[0]?=some a/\∀wZ1,RM H.ty H.Wg w wZ1->H.Fin a wZ1) \/
  (∃tag' D' f' ,JInv H tag' j D' f' d0 q gs w t/\Falls H (H.n-j) (ranks j D') (mu H tag' j D' f' q) (H.n-j) (ranks j D) (mu H tag j D f0 q)) \/
  (∃BG w' sl' ops tag' j' D' f' d' q',stepT H.P (crowd gs w sl)=(.next (crowd BG w' sl'),ops)/\JInv H tag' j' D' f' d' q' BG w' (t++ops) /\
   Falls H (H.n-j') (ranks j' D') (mu H tag' j' D' f' q') (H.n-j) (ranks j D) (mu H tag j D f0 q)):=by
 obtain⟨i,g,d,sl',hg,AB,Ah⟩:=crowd_pick (P:=H.P) (w:=w) (sl:=sl) (h.awake EO ES) (h.someone EO ES);have h':=h.at hQ d;have next:MR H tag j D f0 q i gs (w.at d) sl' t->∃BG w' sl' ops tag' j' D' f' d' q',stepT H.P (crowd gs w sl)=(.next (crowd BG w' sl'),ops)/\JInv H tag' j' D' f' d' q' BG w' (t++ops) /\
   Falls H (H.n-j') (ranks j' D') (mu H tag' j' D' f' q') (H.n-j) (ranks j D) (mu H tag j D f0 q):=λ⟨BG,w',ops,tag',j',D',f',d',q',h1,h2,h3⟩=>
  ⟨BG,w',sl',ops,tag',j',D',f',d',q',by grind,h2,h3⟩
 have Ac:=(BJ.1 hg).1;rw[h.size]at Ac;rcases Nat.eq_zero_or_pos i with rfl|BZ
 .obtain⟨a,ha,hs⟩:=h.main;rw[ha]at hg;cases hg;rcases nH (sl:=sl) hQ hn O8 h ha AB hs with⟨e,hf⟩|⟨f',rfl,hj⟩|_
  .grind
  .refine .inr (.inl ⟨_,_,_,hj,.inr (.inr ⟨rfl,rfl,?_⟩)⟩);unfold mu;refine Prod.Lex.left _ _ ?_;simp only[DK];omega
  .obtain⟨a',YW,D9⟩:=h'.main;rw[ha]at YW;cases YW;rcases nH (sl:=sl') hQ hn O8 h' ha AB D9 with⟨e,hf⟩|⟨f',rfl,hj⟩|hx
   .exact .inl ⟨e,_,ha,hf⟩
   .rcases nH (sl:=sl) hQ hn O8 h ha AB hs with⟨e,hf⟩|⟨f',_,hj⟩|_
    .grind
    .refine .inr (.inl ⟨_,_,_,hj,.inr (.inr ⟨rfl,rfl,?_⟩)⟩);unfold mu;refine Prod.Lex.left _ _ ?_;simp only[DK];omega
    .obtain⟨a2,wZ,Bo⟩:=hj.main;rw[ha]at wZ;cases wZ;rcases nH (sl:=sl') hQ hn O8 hj ha AB Bo with⟨e,_⟩|⟨_,e,_⟩|⟨BG,w',ops,tag',j',D',f2,d',q',h1,h2,h3⟩
     .cases e
     .cases e
     .refine .inr (.inr ⟨BG,w',sl',ops,tag',j',D',f2,d',q',by grind,h2,?_⟩);rcases h3 with h3|h3|⟨e1,e2,h3⟩
      .exact .inl h3
      .exact .inr (.inl h3)
      .refine .inr (.inr ⟨e1,e2,?_⟩);have key:∀{x y z:Nat × Nat},Prod.Lex (· < ·) (· < ·) x y->y.1<z.1->Prod.Lex (· < ·) (· < ·) x z:=λ{x y z} h1 h2=>by
        grind
       refine key h3 ?_;unfold mu;simp only[DK];omega
   grind
 .by_cases hm:i<=H.m
  .grind[Jto]
  .obtain⟨k,hk,rfl⟩:∃k,k<j/\i=H.m+1+k:=⟨i-(H.m+1),by omega,by omega⟩;obtain⟨b,hb,hw⟩:=h.ws k hk;obtain⟨b',BO,Rf⟩:=h'.ws k hk;rw[hg]at hb;cases hb;rw[hg]at BO;cases BO;cases hw with
   |work y hr ho hX xM hR Qh hd hs hof=>
    by_cases Ae:∀w1,BR true y.X y.w w1->Qu H k { y with w:=w1 }
    .obtain⟨D',h1,h2⟩:=h.done EO ES hQ hn O8 hk hg hr ho hX xM Qh hd Ae
     grind
    .refine .inr (.inr (next (Jqk hQ EO ES h' hk hr ho hX hR (Qh.trans ⟨λ_ _=>rfl,Ad _,λe=>by(cases e),rfl⟩) hd Ae (by grind))))
   |r0 hr f hd hs Vr=>
    cases Rf with
    |r0 ET f' SN D9 Jtp=>grind[Jy8]
    |work y ET=>grind
    |tail ET h6=>grind
   |tail hr h6 hs Vr=>
    cases Rf with
    |tail ET Xb D9 Jtp=>grind[Jqn]
    |work y ET=>grind
    |r0 ET f SN=>grind
theorem Jnd(h:JInv H tag j D f0 d0 q gs w t):∃(N:Nat)(BG:Array JF)(w':JE)(sl':Option (Nat × Nat))(t':Trace)(D':Nat->CG)(f':Nat)(q':Nat->Nat)(a:JF),
  runNT H.P N (crowd gs w sl) t=(.next (crowd BG w' sl'),t')/\JInv H .fin H.n D' f' 0 q' BG w' t'/\BG[0]?=some a/\∀wZ1,RM H.ty H.Wg w' wZ1->H.Fin a wZ1:=by
 generalize hr:H.n-j=r
 induction r using Nat.strongRecOn generalizing tag j D f0 d0 q gs w sl t with
 |_ r ih1=>
 have gW:=h.Jtn;generalize hl:ranks j D=l at gW
 induction gW generalizing tag j D f0 d0 q gs w sl t with
 |intro l _ ih2=>
 generalize hμ:mu H tag j D f0 q=μ
 induction μ using(Prod.lex Nat.lt_wfRel Nat.lt_wfRel).wf.induction generalizing tag j D f0 d0 q gs w sl t with
 |_ μ ih3=>
 have go:∀{tag' j' D' f' d' q' BG w' t' sl'},JInv H tag' j' D' f' d' q' BG w' t'->Falls H (H.n-j') (ranks j' D') (mu H tag' j' D' f' q') (H.n-j) (ranks j D) (mu H tag j D f0 q) ->
   ∃(N:Nat)(Nb:Array JF)(w2:JE)(Pj:Option (Nat × Nat))(t2:Trace)(D2:Nat->CG)(f2:Nat)(q2:Nat->Nat)(a:JF),
    runNT H.P N (crowd BG w' sl') t'=(.next (crowd Nb w2 Pj),t2)/\JInv H .fin H.n D2 f2 0 q2 Nb w2 t2/\Nb[0]?=some a/\∀wZ1,RM H.ty H.Wg w2 wZ1->H.Fin a wZ1:=by
  intro tag' j' D' f' d' q' BG w' t' sl' h1 hf;rcases hf with hf|⟨e,hf⟩|⟨e,e2,hf⟩
  .exact ih1 _ (by grind) h1 rfl
  .exact ih2 _ (by grind) h1 (e.trans hr) rfl
  .exact ih3 _ (by rw[<- hμ];exact hf) h1 (e.trans hr) (e2.trans hl) rfl
 rcases Jnc (sl:=sl) EO ES hQ hn O8 h with⟨rfl,a,ha,hF⟩|⟨tag',D',f',h1,hf⟩|⟨BG,w',sl',ops,tag',j',D',f',d',q',hs,h1,hf⟩
 .have h0:=h;obtain⟨a',_,hs⟩:=h0.main;cases hs;exact⟨0,gs,w,sl,t,D,f0,q,a,rfl,h,ha,hF⟩
 .exact go h1 hf
 .obtain⟨N,Nb,w2,Pj,t2,D2,f2,q2,a,BM,rest⟩:=go (sl':=sl') h1 hf;exact⟨N+1,Nb,w2,Pj,t2,D2,f2,q2,a,by simp only[runNT,hs];exact BM,rest⟩
end
end
end
open Go.ConcR (KK wgBlock WgAt stA smA rd wr mk Payload DC0)
section
variable[Payload]{H:Ph}{j:Nat}{D:Nat->CG}{f0 d0:Nat}{q:Nat->Nat}{gs:Array JF}{w:JE}{t:Trace}
theorem Jac(h:TS H j t)(hn:NoRelease (stA H.Wg) t){i k:Nat}(hk:k<j)(hg:t.g? i=some (H.m+1+k))(hc:t.counts i):∃q,t.g? q=some 0/\HappensBefore t i q:=by
 obtain⟨q,hq,yC,hh,Au⟩:=h;obtain⟨r,hr,hrq⟩:=Au k hk;have eH:HappensBefore t r q:=.single (.inr ⟨.marked hrq (.inr hr.act) hq (λk _ _=>hn k),hr.heard,hh⟩);have hle:i<=r:=Nat.le_of_not_lt λAc=>hr.after i Ac hg hc;refine⟨q,yC,?_⟩;rcases BF i r with Ac|Et
 .exact .trans (.single (.inl ⟨Ac,_,hg,hr.g⟩)) eH
 grind
theorem Jne{B:Nat}(hP:Past (ShJ H) B H.t0)(h:JInv H .fin j D f0 0 q gs w t):Past (ShJ H) w.heap.size t:=by
 have hT:=h.jt;have hA:=h.acq rfl;obtain⟨u,hu⟩:=hT.pre;have old:∀i,i<H.t0.size->t[i]?=H.t0[i]?:=λi hi=>by grind
 refine⟨hT.ct.nr,λi a ha hm=>?_,λi g hg Ap hc=>?_,hT.deaf0,hT.low⟩
 .rcases BF i H.t0.size with hi|hi
  .have YW:touchAt H.t0 i=some a:=by grind[touchAt_old]
   exact(hP.known i a YW hm).imp (λh=>by rw[hu];exact h.app u) id
  .obtain⟨op,Ar,hx⟩:=touch_of ha;obtain⟨hg,D8⟩:=hT.new i op a hi Ar hx;rcases hg with hg|⟨k,hk,hg⟩
   .grind[knows_own]
   .have hgi:t.g? i=some (H.m+1+k):=by simp[Trace.g?,Ar,hg]
    by_cases hc:t.counts i
    .obtain⟨p,hp,hb⟩:=Jac hA hT.UZ hk hgi hc;obtain⟨z,hz,hzg⟩:=Fh.1 hp;exact .inl ⟨p,z,hz,hzg,.inr hb⟩
    .have PZ:a.kind=.atomic:=Classical.byContradiction λhn=>hc ⟨a,ha,hm,.inl hn⟩
     grind
 .rcases BF i H.t0.size with hi|hi
  .obtain⟨p,hp,hb⟩:=hP.over i g (by grind[g?_old]) Ap (by grind[counts_old]);have D8:p<H.t0.size:=by
    unfold Trace.g? at hp
    grind
   exact⟨p,by grind[g?_old],by grind[hb_app]⟩
  .obtain⟨a,ha,_⟩:=id hc;obtain⟨op,Ar,hx⟩:=touch_of ha;obtain⟨Bd,_⟩:=hT.new i op a hi Ar hx;have eg:op.g=g:=by simpa[Trace.g?,Ar]using hg
   rcases Bd with Bd|⟨k,hk,Bd⟩
   .grind
   .exact Jac hA hT.UZ hk (by grind) hc
theorem phase_end{B:Nat}(hP:Past (ShJ H) B H.t0)(hM:∀op∈H.t0,∀x,op.act.touch?=some x->x.loc.isMemory=true)(h:JInv H .fin j D f0 0 q gs w t) :
  ∃q',Cmp H.P (λb=>H.W b\/b=H.Wg) gs w t q'/\JW H j D w/\(∀i,i<j->Has H.C i (D i).v w/\H.Q i (D i).own (D i).X (D i).v w)/\∃st sm,WgAt H.ty H.Wg w st sm:=by
 obtain⟨st,sm,AY,Ai⟩:=h.wg;obtain⟨hq,_,_⟩:=Ai.fin_inv trivial;have DN:∀i,i<j->(D i).d.stage=1:=hq;have tl:∀i,i<j->∃g,gs[H.m+1+i]?=some g/\QuitsD H.P (D i).d.fuel (D i).d.deaf g/\H.Q i (D i).own (D i).X (D i).v w:=by
  intro i hi;obtain⟨g,hg,hw⟩:=h.ws i hi;have h1:=DN i hi;cases hw with
  |work y _ _ _ _ _ _ hd=>grind
  |r0 _ f hd=>grind
  |tail _ _ hs hQ=>
   rw[h1]at hs;cases hs with
   |quit hs=>grind
 refine⟨λi=>if i<=H.m then q i else(D (i-(H.m+1))).d.fuel,⟨⟨λi g hi hg=>?_,λk hk=>h.jt.above k (by rw[h.size]at hk;omega)⟩,Jne hP h,h.jt.ct.quiet,λb hb=>?_,λop Ar=>?_⟩,h.jw,λi hi=>?_,st,sm,AY⟩
 .have Ac:=(BJ.1 hg).1;rw[h.size]at Ac;show QuitsD H.P (if i<=H.m then q i else(D (i-(H.m+1))).d.fuel) (Deaf t i) g;by_cases hm:i<=H.m
  .rw[if_pos hm];exact h.old i g hi hm hg
  .rw[if_neg hm];obtain⟨k,hk,rfl⟩:∃k,k<j/\i=H.m+1+k:=⟨i-(H.m+1),by omega,by omega⟩;obtain⟨g',Bd,hQ,_⟩:=tl k hk;rw[hg]at Bd;cases Bd;rw[h.jt.deafW k hk,show H.m+1+k-(H.m+1)=k by omega];exact hQ
 .rcases hb with hb|rfl
  .exact h.jw.wl b hb
  .exact h.jw.wg
 .obtain⟨i,hi,rfl⟩:=Array.mem_iff_getElem.1 Ar;have CW:t[i]?=some t[i]:=Bz hi;refine⟨by have:=h.jt.ct.gs i _ CW;rw[h.size];omega,λx hx=>?_⟩;rcases BF i H.t0.size with Ac|Et
  .obtain⟨u,hu⟩:=h.jt.pre
   grind
  .have:=(h.jt.new i _ x Et CW hx).2;by_cases hs:ShJ H x.loc
   .obtain⟨a,ha,_⟩:=hs;rw[ha];rfl
   grind
 .obtain⟨g,_,_,hQ⟩:=tl i hi;exact⟨h.jw.has i hi (by grind),hQ⟩
end
section
variable[Payload]{H:Ph}{q:Nat->Nat}{gs:Array JF}{sl:Option (Nat × Nat)}{a:JF}
theorem Jtq{t:Trace}{B:Nat}(h:∀op∈t,op.act.low B){i:Nat}{x:Touch}(hx:touchAt t i=some x){c:Addr}(hc:x.loc=.cell c):c.block<B:=by
 have:=J9x (t:=t) h (l:=.cell c) (B:=B);by_cases hb:c.block<B
 .exact hb
 .exact absurd hc (this hb i x hx)
theorem Jl3(hC:Cmp H.P H.W gs H.w0 H.t0 q)(Dp:∀op∈H.t0,op.act.low H.Wg)(hm:gs.size=H.m+1)(h0:gs[0]?=some a)(hs:JSp H H.n a H.w0)(hn:0<H.n)(AY:WgAt H.ty H.Wg H.w0 0 0)(pay:PayAt H.C H.n H.w0)
  (wg:H.Wg<H.w0.heap.size) (c:H.C<H.w0.heap.size) (cw:H.C≠H.Wg) (cW:¬H.W H.C) (wW:¬H.W H.Wg) (sh0:∀b,H.Sh0 b->b<H.w0.heap.size/\b≠H.Wg/\b≠H.C/\¬H.W b) :
  ∃f0 D,JInv H .al 0 D f0 0 q gs H.w0 H.t0:=by
 obtain⟨r,hr⟩:∃r,H.n=r+1:=⟨H.n-1,by omega⟩;rw[hr]at hs;obtain⟨f0,hs⟩:=hs;have e0:H.n-(r+1)=0:=by omega
 have LQ:Dz H .al (H.n-(r+1)) f0 0 a H.w0:=.al (by omega) hs;rw[e0]at LQ;have hP:=hC.past;have quiet:Quiet (ShJ H) H.t0:=by
  intro i op x hi hx ⟨c,hc,xH⟩;rcases xH with xH|xH
  .exact hC.quiet i op x hi hx ⟨c,hc,xH⟩
  .have:=Jtq Dp (i:=i) (by grind[touchAt_of]) hc;omega
 have perm:∀l,¬ShJ H l->Perm H.t0 0 l:=λl hl i x hx e=>by
  obtain⟨op,Ar,hox⟩:=touch_of hx;rcases hP.known i x hx ((hC.tidy op (Ho Ar)).2 x hox)with h|⟨⟨c,h1,h2⟩,_⟩
  .exact h
  .exact absurd ⟨c,e▸h1,.inl h2⟩ hl
 refine⟨f0,λ_=>⟨λ_=>False,λ_=>False,JA,none,⟨1,0,0⟩⟩,Nat.zero_le _,hm,⟨a,h0,LQ⟩,λi hi=>absurd hi (Nat.not_lt_zero _),λk g h1 _ hg=>hC.lv.old k g h1 hg,
  ⟨λ_ _=>rfl,pay,λi hi=>absurd hi (Nat.not_lt_zero _),λi hi=>absurd hi (Nat.not_lt_zero _),λi hi=>absurd hi (Nat.not_lt_zero _),λi _ hi=>absurd hi (Nat.not_lt_zero _),λi hi=>absurd hi (Nat.not_lt_zero _),λi hi=>absurd hi (Nat.not_lt_zero _),wg,c,cw,cW,wW,sh0,hC.low,rfl,rfl⟩,
  ⟨⟨quiet,λk _ _ l ⟨i,hi,_⟩=>absurd hi (Nat.not_lt_zero _),λk _ _ l ⟨i,hi,_⟩=>absurd hi (Nat.not_lt_zero _),λl hl _=>perm l hl,λl hl _=>PermW.of (perm l hl),hP.clean,λi op hi=>?_⟩,⟨#[],by simp⟩,hP.seen,λi op x hi Ar=>?_,λi hi=>?_,hP.hears,λi hi=>absurd hi (Nat.not_lt_zero _),λk hk=>hC.lv.above k (by omega),λi hi=>absurd hi (Nat.not_lt_zero _)⟩,
  ⟨0,0,AY,?_⟩,trivial,λe=>by cases e⟩
 .have:=(hC.tidy op (Ho hi)).1;omega
 .grind
 .unfold Trace.act? at hi;obtain⟨op,Ar,hact⟩:=Fh.1 hi;have:=Dp op (Ho Ar);rw[hact]at this;exact absurd this (Nat.lt_irrefl _)
 .have:=Ju.opn (j:=0) (D:=λi=>((λ_=>(⟨λ_=>False,λ_=>False,JA,none,⟨1,0,0⟩⟩:CG)) i).d) (tag:=.al) trivial (λi hi=>absurd hi (Nat.not_lt_zero _)) (λvs e=>by cases e);simpa[Vc,sumTo,He]using this
structure Jww(H:Ph)(w:JE)(D:Nat->CG):Prop where
 jw:JW H H.n D w
 res:∀i,i<H.n->Has H.C i (D i).v w/\H.Q i (D i).own (D i).X (D i).v w
 wg:∃st sm,WgAt H.ty H.Wg w st sm
theorem Jqp(hQ:∀i own X v w w',H.Q i own X v w->BR true X w w'->H.Q i own X v w')(EO:∀g w,H.Anch g w->g.status=.running)(ES:∀g w,H.Fin g w->g.status=.running)(Ij:H.n<2147483648)
  (O8:∀g w,H.Anch g w->∃m,Goes H.P true (RM H.ty H.Wg) DC0 (JW1 H.P H.ty H.Wg H.Fin H.Anch) m g w)
  (hC:Cmp H.P H.W gs H.w0 H.t0 q) (Dp:∀op∈H.t0,op.act.low H.Wg) (hm:gs.size=H.m+1) (h0:gs[0]?=some a) (hs:JSp H H.n a H.w0) (hn:0<H.n) (AY:WgAt H.ty H.Wg H.w0 0 0) (pay:PayAt H.C H.n H.w0)
  (wg:H.Wg<H.w0.heap.size) (c:H.C<H.w0.heap.size) (cw:H.C≠H.Wg) (cW:¬H.W H.C) (wW:¬H.W H.Wg) (sh0:∀b,H.Sh0 b->b<H.w0.heap.size/\b≠H.Wg/\b≠H.C/\¬H.W b) :
  ∃(N:Nat)(BG:Array JF)(w':JE)(sl':Option (Nat × Nat))(t':Trace)(q':Nat->Nat)(D:Nat->CG)(a':JF),
   runNT H.P N (crowd gs H.w0 sl) H.t0=(.next (crowd BG w' sl'),t')/\BG[0]?=some a'/\H.Fin a' w'/\Cmp H.P (λb=>H.W b\/b=H.Wg) BG w' t' q'/\Jww H w' D:=by
 obtain⟨f0,D,hI⟩:=Jl3 hC Dp hm h0 hs hn AY pay wg c cw cW wW sh0;obtain⟨N,BG,w',sl',t',D',f',q',a',hr,Uc,YW,hF⟩:=Jnd (sl:=sl) EO ES hQ Ij O8 hI;have hP:Past (ShJ H) H.w0.heap.size H.t0:=⟨hC.past.clean,λi x hx hm=>(hC.past.known i x hx hm).imp id λ⟨⟨c,h1,h2⟩,h3⟩=>⟨⟨c,h1,.inl h2⟩,h3⟩,hC.past.over,hC.past.hears,hC.past.seen⟩;obtain⟨q2,O9,hJ,IU,Rh⟩:=phase_end hP (λop Ar=>(hC.tidy op Ar).2) Uc;exact⟨N,BG,w',sl',t',q2,D',a',hr,YW,hF w' λx=>x,O9,⟨hJ,IU,Rh⟩⟩
end
end Go.Sim
