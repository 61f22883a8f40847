/- Proved here: laws for the claim. No conditions. -/
import Derived.Conc.CrowdStepC
import Derived.OneCell
import Derived.Test.YtlcbehhbfglgaaaGreatK10
set_option linter.all false
section
set_option linter.unusedSectionVars false
namespace Go.Sim
open Go.Conc Go.ConcN
open Go.ConcR (KK wgBlock WgAt stA smA rd wr mk Payload DC0 Bk bk_of_mute ofEvent_loc_mark ofEvent_cell g_of_ofEvents)
section
variable[Payload]{H:Ph}{tag tag':Eu}{j:Nat}{D:Nat->CZ}{f0 d0 f':Nat}{q:Nat->Nat}{gs:Array JF}{w w':JE}{sl:Option (Nat × Nat)}{t:Trace}{a a':JF}{es:Array Event}
theorem JT.app0(h:JT H j D d0 w t)(hA:Apart (ShJ H) (LZ H j D) (RdJ H j D))(h0:H.t0.size<=t.size)(hz:w.heap.size<=w'.heap.size){fn:JG}{pos:String}
  (hok:∀e∈es,Ok0 (ShJ H) (LZ H j D) (RdJ H j D) (H.m+j) { g:=0,fn,pos,act:=.ofEvent e }) (BK:∀e∈es,(MemAct.ofEvent e).low w'.heap.size)
  (CO:∀e∈es,∀x,(MemAct.ofEvent e).touch?=some x->¬ShJ H x.loc->x.kind=.plain/\x.loc.isMemory=true) (Yr:∀e∈es,MemAct.ofEvent e≠.mark (.release (stA H.Wg))) :
  JT H j D (deafBehind d0 es) w' (t++MemOp.ofEvents 0 fn pos es):=by
 have hg:∀op∈MemOp.ofEvents 0 fn pos es,op.g=0:=λop Au=>by obtain⟨e,_,rfl⟩:=Conc.mem_ofEvents Au;rfl
 refine⟨h.ct.app0 hA λop Au=>?_,?_,?_,?_,?_,?_,?_,?_,?_⟩
 ·obtain⟨e,he,rfl⟩:=Conc.mem_ofEvents Au;exact hok e he
 ·obtain⟨u,hu⟩:=h.pre;exact⟨u++MemOp.ofEvents 0 fn pos es,by rw[hu,Array.append_assoc]⟩
 ·refine seen_app (λop Au=>MemAct.low_mono hz (h.low op Au)) λop Au=>?_;obtain⟨e,he,rfl⟩:=Conc.mem_ofEvents Au;exact BK e he
 ·intro k op x hk Au hx;rcases getElem?_append_cases Au with⟨_,h1⟩|⟨_,h1⟩
  ·exact h.new k op x hk h1 hx
  ·obtain⟨e,he,rfl⟩:=Conc.mem_ofEvents h1;exact⟨.inl rfl,CO e he x hx⟩
 ·exact h.Xx.app λop Au=>by obtain⟨e,he,rfl⟩:=Conc.mem_ofEvents Au;exact Yr e he
 ·rw[Deaf_own,h.deaf0]
 ·intro k hk;rw[Deaf_other t (g:=H.m+1+k) (g':=0) (by omega) _ hg];exact h.deafW k hk
 ·intro k hk;rw[Deaf_other t (g:=k) (g':=0) (by omega) _ hg];exact h.above k hk
 ·intro k hk hs;obtain⟨r,hr⟩:=h.rel k hk hs;exact⟨r,hr.appOther hg (by omega)⟩
section
variable(hQ:∀i own X v w w',H.Q i own X v w->Cb true X w w'->H.Q i own X v w')
include hQ
theorem J9y(h:JInv H tag j D f0 d0 q gs w t)(ha:gs[0]?=some a)(hgo:stepG H.P true a w=.go a' w' es)(hz:w.heap.size<=w'.heap.size)(ho:∀k,k<j->Oth H k (D k).X w w')(TW:JW H j D w')
  (hok:∀e∈es,Ok0 (ShJ H) (LZ H j D) (RdJ H j D) (H.m+j) { g:=0,fn:=a.frame.fn,pos:=a.frame.place,act:=.ofEvent e }) (BK:∀e∈es,(MemAct.ofEvent e).low w'.heap.size)
  (CO:∀e∈es,∀x,(MemAct.ofEvent e).touch?=some x->¬ShJ H x.loc->x.kind=.plain/\x.loc.isMemory=true) (Yr:∀e∈es,MemAct.ofEvent e≠.mark (.release (stA H.Wg)))
  (hs:Ec H tag' j f' (deafBehind d0 es) a' w') {st' sm':Int} (Ba:WgAt H.ty H.Wg w' st' sm') (Ai:Jv j (λk=>(D k).d) tag' st' sm') (XI:WZ H tag' j D w')
  (Yc:tag'=.fin->V8 H j (t++MemOp.ofEvents 0 a.frame.fn a.frame.place es))
  (Ac:Ej H.n (Vc j λk=>(D k).d) tag'<Ej H.n (Vc j λk=>(D k).d) tag\/(Ej H.n (Vc j λk=>(D k).d) tag'=Ej H.n (Vc j λk=>(D k).d) tag/\f'<f0)):Ov H tag j D f0 q 0 gs w sl t:=by
 have AB:=runT_crowd_go (P:=H.P) (sl:=sl) (i:=0) ha hgo;have Du:0<gs.size:=(BQ.1 ha).1;refine⟨_,w',_,tag',j,D,f',deafBehind d0 es,q,AB,⟨h.jn,by simpa using h.size,⟨a',by simp[Du],hs⟩,λk hk=>?_,λk b DF Ci hb=>?_,TW,h.jt.app0 h.jw.apart h.Ju8 hz hok BK CO Yr,⟨st',sm',Ba,Ai⟩,XI,Yc⟩,.inr (.inr ⟨rfl,rfl,?_⟩)⟩
 ·obtain⟨b,hb,GY⟩:=h.ws k hk;refine⟨b,?_,GY.other H hQ (ho k hk)⟩;rw[AQ (by omega),Array.getElem?_map,hb];simp[J7p GY.status]
 ·rw[AQ (by omega),Array.getElem?_map]at hb;obtain⟨y,hy,rfl⟩:=FX.1 hb;have hq:=h.old k y DF Ci hy;rw[woken_quitsD hq,Deaf_other t (g:=k) (g':=0) (by omega) _ g_of_ofEvents];exact hq
 ·unfold mu;rcases Ac with h1|⟨h1,h2⟩
  ·exact Prod.Lex.left _ _ (by omega)
  ·rw[h1];exact Prod.Lex.right _ (by omega)
theorem JW.J03e(h:JW H j D w)(hz:w'.heap.size=w.heap.size)(hb:∀b,b≠H.Wg->w'.heap[b]?=w.heap[b]?)(os:w'.os=w.os)(out:w'.output=w.output):JW H j D w':=by
 have eC:=hb H.C h.cw;obtain⟨cs,h1,h2⟩:=h.pay;exact⟨λb BR=>(hb b (BR.elim (λz=>(h.sh0 b z).2.1) λz e=>h.wW (e▸z))).trans (h.keep b BR),⟨cs,eC.trans h1,h2⟩,λk hk hs=>(cell_of_block eC k).trans (h.has k hk hs),λk hk b BR=>by rw[hz];exact h.low k hk b BR,h.Kr,h.Pg,h.Qk,h.avoid,
  by rw[hz];exact h.wg,by rw[hz];exact h.c,h.cw,h.cW,h.wW,λb BR=>by rw[hz];exact h.sh0 b BR,λb BR=>by rw[hz];exact h.wl b BR,os.trans h.os,out.trans h.out⟩
theorem Jx6{Own Rd:Nat->Loc->Prop}{k:Nat}{e:Event}(h:Bk H.Wg e\/e=mk (.read (smA H.Wg))\/e=mk (.write (smA H.Wg))\/e=mk (.acquire (stA H.Wg)))(fn:JG)(pos:String):Ok0 (ShJ H) Own Rd k { g:=0,fn,pos,act:=.ofEvent e }:=by
 refine⟨rfl,λx hx=>?_⟩;rcases h with(h1|h1|⟨a,wr,rfl,ha⟩)|rfl|rfl|rfl
 ·simp only[ofEvent_loc_mark h1]at hx;cases hx
 ·simp only[ofEvent_loc_mark h1]at hx;cases hx
 ·simp only[ofEvent_cell,MemAct.touch?,Cm]at hx;subst hx;exact .inl ⟨⟨a,rfl,.inr ha⟩,by simp⟩
 ·simp only[mk,MemAct.ofEvent,MemAct.touch?,Cm]at hx;subst hx;exact .inl ⟨⟨smA H.Wg,rfl,.inr rfl⟩,by simp⟩
 ·simp only[mk,MemAct.ofEvent,MemAct.touch?,Cm]at hx;subst hx;exact .inl ⟨⟨smA H.Wg,rfl,.inr rfl⟩,by simp⟩
 ·simp[mk,MemAct.ofEvent,MemAct.touch?]at hx
theorem Jvp{B:Nat}(hB:H.Wg<B){e:Event}(h:Bk H.Wg e\/e=mk (.read (smA H.Wg))\/e=mk (.write (smA H.Wg))\/e=mk (.acquire (stA H.Wg))):(MemAct.ofEvent e).low B:=by
 rcases h with h|rfl|rfl|rfl
 ·exact Jpc hB h
 ·exact hB
 ·exact hB
 ·exact hB
theorem Jx7{e:Event}(h:Bk H.Wg e\/e=mk (.read (smA H.Wg))\/e=mk (.write (smA H.Wg))\/e=mk (.acquire (stA H.Wg))){x:Touch}(hx:(MemAct.ofEvent e).touch?=some x):ShJ H x.loc:=by
 rcases h with h|rfl|rfl|rfl
 ·exact Ju9 h hx
 ·simp only[mk,MemAct.ofEvent,MemAct.touch?,Cm]at hx;subst hx;exact⟨smA H.Wg,rfl,.inr rfl⟩
 ·simp only[mk,MemAct.ofEvent,MemAct.touch?,Cm]at hx;subst hx;exact⟨smA H.Wg,rfl,.inr rfl⟩
 ·simp[mk,MemAct.ofEvent,MemAct.touch?]at hx
theorem Jvq{e:Event}(h:Bk H.Wg e\/e=mk (.read (smA H.Wg))\/e=mk (.write (smA H.Wg))\/e=mk (.acquire (stA H.Wg))):MemAct.ofEvent e≠.mark (.release (stA H.Wg)):=by
 rcases h with h|rfl|rfl|rfl
 ·exact Jiv h
 ·simp[mk,MemAct.ofEvent]
 ·simp[mk,MemAct.ofEvent]
 ·simp[mk,MemAct.ofEvent]
theorem book0(h:JInv H tag j D f0 d0 q gs w t)(ha:gs[0]?=some a)(hgo:stepG H.P true a w=.go a' w' es)(Fq:Aside H.Wg w w'){st' sm':Int}(Ba:WgAt H.ty H.Wg w' st' sm')
  (L9:∀e∈es,Bk H.Wg e\/e=mk (.read (smA H.Wg))\/e=mk (.write (smA H.Wg))\/e=mk (.acquire (stA H.Wg))) (hs:Ec H tag' j f' (deafBehind d0 es) a' w') (Ai:Jv j (λk=>(D k).d) tag' st' sm') (XI:WZ H tag j D w->WZ H tag' j D w)
  (Yc:tag'=.fin->V8 H j (t++MemOp.ofEvents 0 a.frame.fn a.frame.place es))
  (Ac:Ej H.n (Vc j λk=>(D k).d) tag'<Ej H.n (Vc j λk=>(D k).d) tag\/(Ej H.n (Vc j λk=>(D k).d) tag'=Ej H.n (Vc j λk=>(D k).d) tag/\f'<f0)):Ov H tag j D f0 q 0 gs w sl t:=by
 have hJ:=h.jw;refine J9y hQ h ha hgo (Nat.le_of_eq Fq.size.symm) (λk hk=>⟨⟨λb hb=>Fq.block b (hJ.avoid k hk b hb).1,Nat.le_of_eq Fq.size.symm,λe=>by(cases e),Fq.os⟩,RW.of_wg Fq ⟨_,_,Ba⟩ hJ.cw⟩)
  (hJ.J03e hQ Fq.size (λb hb=>Fq.block b hb) Fq.os Fq.output) (λe he=>Jx6 hQ (L9 e he) _ _) (λe he=>Jvp hQ (by rw[Fq.size];exact hJ.wg) (L9 e he)) (λe he x hx hn=>absurd (Jx7 hQ (L9 e he) hx) hn) (λe he=>Jvq hQ (L9 e he))
  hs Ba Ai ?_ Yc Ac
 exact(XI h.sb).keep (.inl rfl) (λs _ Bl _ _=>Fq.block s Bl) (λs _ hX=>hX)
theorem idle0(h:JInv H tag j D f0 d0 q gs w t)(ha:gs[0]?=some a)(hgo:stepG H.P true a w=.go a' w #[])(hs:Ec H tag j f' d0 a' w)(hf:f'<f0):Ov H tag j D f0 q 0 gs w sl t:=by obtain⟨st,sm,Ba,Ai⟩:=h.wg;exact book0 hQ h ha hgo (.refl H.Wg w) Ba (by simp) hs Ai id (λe=>(h.acq e).app λi r _ hr=>hr.appOther g_of_ofEvents (by omega)) (.inr ⟨rfl,hf⟩)
end
end
end Go.Sim
end
section
set_option linter.unusedSectionVars false
namespace Go.Sim
open Go.Conc Go.ConcN
open Go.ConcR (KK wgBlock WgAt stA smA rd wr mk Payload DC0 Bk bk_of_mute ofEvent_loc_mark ofEvent_cell g_of_ofEvents ofEvent_mk)
section
variable{j:Nat}{D:Nat->WD}{tag tag':Eu}{st sm:Int}
theorem Jv.open_inv(hm:Jv j D tag st sm)(h:dU tag):OpenSt j D/\st=((Vc j D+Io tag:Nat):Int)*KK/\sm=0/\∀vs,tag=.w2 vs->Vc j D<=vs/\1<=vs:=by
 cases hm with
 |opn _ h2 h3=>exact⟨h2,rfl,rfl,h3⟩
 |reg h1 _ _=>cases tag<;>first|exact h.elim|exact h1.elim
 |last L h1 _ _ _=>cases tag<;>first|exact h.elim|exact h1.elim
 |sema h1 _=>rcases h1 with rfl|rfl<;>exact h.elim
 |fin h1 _=>cases tag<;>first|exact h.elim|exact h1.elim
theorem Jv.reopen(hm:Jv j D tag st sm)(h:dU tag)(h':dU tag')(hp:Io tag'=Io tag)(hw:∀vs,tag'=.w2 vs->Vc j D<=vs/\1<=vs):Jv j D tag' st sm:=by obtain⟨h2,rfl,rfl,_⟩:=hm.open_inv h;rw[<- hp];exact .opn h' h2 hw
theorem Jv.fin_inv(hm:Jv j D tag st sm)(h:Jx3 tag):AllQuit j D/\st=0/\sm=0:=by
 cases hm with
 |opn h1 _ _=>cases tag<;>first|exact h.elim|exact h1.elim
 |reg h1 _ _=>cases tag<;>first|exact h.elim|exact h1.elim
 |last L h1 _ _ _=>cases tag<;>first|exact h.elim|exact h1.elim
 |sema h1 _=>rcases h1 with rfl|rfl<;>exact h.elim
 |fin _ h2=>exact⟨h2,rfl,rfl⟩
theorem Jv.Jpe(hm:Jv j D tag st sm)(h:jw3 tag)(h':jw3 tag')(hb:tag'=.blk->sm=0):Jv j D tag' st sm:=by
 cases hm with
 |opn h1 _ _=>cases tag<;>first|exact h.elim|exact h1.elim
 |reg _ h2 h3=>exact .reg h' h2 h3
 |last L _ h2 h3 h4=>exact .last L h' h2 h3 h4
 |sema _ h2=>
  refine .sema ?_ h2;cases tag'<;>first|exact .inl rfl|exact .inr rfl|exact h'.elim|exact absurd (hb rfl) (by decide)
 |fin h1 _=>cases tag<;>first|exact h.elim|exact h1.elim
theorem Jv.J03f(hm:Jv j D tag st sm)(h:jw3 tag):sm=0\/(st=0/\sm=1/\AllQuit j D):=by
 cases hm with
 |opn h1 _ _=>exact .inl rfl
 |reg _ h2 h3=>exact .inl rfl
 |last L _ h2 h3 h4=>exact .inl rfl
 |sema _ h2=>exact .inr ⟨rfl,rfl,h2⟩
 |fin h1 _=>exact .inl rfl
end
section
variable[Payload]{H:Ph}{tag tag':Eu}{j:Nat}{D:Nat->CZ}{f0 d0 f':Nat}{q:Nat->Nat}{gs:Array JF}{w w':JE}{sl:Option (Nat × Nat)}{t:Trace}{a a':JF}{es:Array Event}
theorem bk1{e:Event}{es:List Event}(h:e∈es.toArray)(hb:∀e∈es,Bk H.Wg e\/e=mk (.read (smA H.Wg))\/e=mk (.write (smA H.Wg))\/e=mk (.acquire (stA H.Wg))):Bk H.Wg e\/e=mk (.read (smA H.Wg))\/e=mk (.write (smA H.Wg))\/e=mk (.acquire (stA H.Wg)):=hb e (by simpa using h)
section
variable(hQ:∀i own X v w w',H.Q i own X v w->Cb true X w w'->H.Q i own X v w')
include hQ
theorem Jmh{s:Nat}(h:JInv H (.go s) j D f0 d0 q gs w t)(ha:gs[0]?=some a){r:Nat}(hr:r<H.n)(hj:j=H.n-(r+1))(kP:d0=0)(hG:JGo H j s (JSp H r) a w):Ov H (.go s) j D f0 q 0 gs w sl t:=by
 have hJ:=h.jw;obtain⟨AU,Bl,CU,X6,MN,LP⟩:=h.sb;obtain⟨a',child,Q7,hcr,hco,hR,dI,OH⟩:=hG.2 (λb hb=>hJ.keep b (.inl hb)) AU hJ.os;obtain⟨st,sm,Ba,Ai⟩:=h.wg;obtain⟨ho,rfl,rfl,_⟩:=Ai.open_inv trivial;have AB:=runT_crowd_spawn (P:=H.P) (sl:=sl) (i:=0) ha Q7;rw[h.size]at AB;have Du:0<gs.size:=(BQ.1 ha).1;have Yv:s<w.heap.size:=(BQ.1 AU).1
 let D':CZ:=⟨λ_=>False,λb=>H.Sh0 b\/b=s,JA,some ⟨λ_=>False,λb=>H.Sh0 b\/b=s,child,w⟩,⟨7,0,0⟩⟩
 have other:∀k,k<j->upd D j D' k=D k:=λk hk=>upd_ne D D' (by omega);have TW:JW H (j+1) (upd D j D') w:=by
  refine⟨hJ.keep,hJ.pay,λk hk hs=>?_,λk hk b hb=>?_,λk hk b hb=>?_,λa b ha hb O5 c hc=>?_,λk hk b hb=>?_,λk hk b hb=>?_,hJ.wg,hJ.c,hJ.cw,hJ.cW,hJ.wW,hJ.sh0,hJ.wl,hJ.os,hJ.out⟩
  ·rcases BG k j with h1|h1
   ·rw[other k h1]at hs ⊢;exact hJ.has k h1 hs
   ·obtain rfl:k=j:=by omega
    rw[upd_same]at hs;exact absurd hs (by show¬(7<=6);omega)
  ·rcases BG k j with h1|h1
   ·rw[other k h1]at hb;exact hJ.low k h1 b hb
   ·obtain rfl:k=j:=by omega
    rw[upd_same]at hb;rcases hb with hb|rfl
    ·exact(hJ.sh0 b hb).1
    ·exact Yv
  ·rcases BG k j with h1|h1
   ·rw[other k h1]at hb ⊢;exact hJ.Kr k h1 b hb
   ·obtain rfl:k=j:=by omega
    rw[upd_same]at hb;exact hb.elim
  ·rcases BG a j with h1|h1
   ·rw[other a h1]at hc;rcases BG b j with h2|h2
    ·rw[other b h2];exact hJ.Pg a b h1 h2 O5 c hc
    ·obtain rfl:b=j:=by omega
     rw[upd_same];rintro(hx|rfl)
     ·exact hJ.Qk a h1 c hc hx
     ·exact CU a h1 (hJ.Kr a h1 c hc)
   ·obtain rfl:a=j:=by omega
    rw[upd_same]at hc;exact hc.elim
  ·rcases BG k j with h1|h1
   ·rw[other k h1]at hb;exact hJ.Qk k h1 b hb
   ·obtain rfl:k=j:=by omega
    rw[upd_same]at hb;exact hb.elim
  ·rcases BG k j with h1|h1
   ·rw[other k h1]at hb;exact hJ.avoid k h1 b hb
   ·obtain rfl:k=j:=by omega
    rw[upd_same]at hb;rcases hb with hb|rfl
    ·exact(hJ.sh0 b hb).2
    ·exact⟨X6,MN,LP⟩
 have Zx:∀k,k<=H.m+j->∀l,LZ H (j+1) (upd D j D') k l↔LZ H j D k l:=by
  intro k hk l;constructor
  ·rintro⟨i,hi,rfl,h1⟩;have h2:i<j:=by omega
   rw[other i h2]at h1;exact⟨i,h2,rfl,h1⟩
  ·rintro⟨i,hi,rfl,h1⟩;exact⟨i,by omega,rfl,by rw[other i hi];exact h1⟩
 have rd1:∀k,k<=H.m+j->∀l,RdJ H (j+1) (upd D j D') k l↔RdJ H j D k l:=by
  intro k hk l;constructor
  ·rintro⟨i,hi,rfl,h1⟩;have h2:i<j:=by omega
   rw[other i h2]at h1;exact⟨i,h2,rfl,h1⟩
  ·rintro⟨i,hi,rfl,h1⟩;exact⟨i,by omega,rfl,by rw[other i hi];exact h1⟩
 let x:MemOp:={ g:=0,fn:=a.frame.fn,pos:=a.frame.place,act:=.go (H.m+j+1) }
 let y:MemOp:={ g:=H.m+j+1,fn:=child.frame.fn,pos:=a.frame.place,act:=.start }
 have eops:((MemOp.ofEvents 0 a.frame.fn a.frame.place #[]).push { g:=0,fn:=a.frame.fn,pos:=a.frame.place,act:=.go (H.m+1+j) }).push { g:=H.m+1+j,fn:=child.frame.fn,pos:=a.frame.place,act:=.start }=#[x,y]:=by rw[ofEvents_eq,show H.m+1+j=H.m+j+1 by omega];simp[x,y]
 rw[eops]at AB;have AL:∀op∈#[x,y],op=x\/op=y:=by simp
 have KO:∀op∈#[x,y],op.act.touch?=none:=λop Au=>by rcases AL op Au with rfl|rfl<;>rfl
 have hct:CT (ShJ H) (LZ H (j+1) (upd D j D')) (RdJ H (j+1) (upd D j D')) (t++#[x,y]) (H.m+j+1):=by
  have c0:CT (ShJ H) (LZ H (j+1) (upd D j D')) (RdJ H (j+1) (upd D j D')) t (H.m+j):=
   Sim.CT.widen h.jt.ct (λk _ kj l=>(Zx k kj l).2) (λk _ kj l hl=>.inl ((Zx k kj l).1 hl)) (λk _ kj l=>rd1 k kj l)
  exact c0.fork TW.apart ⟨rfl,rfl⟩ ⟨rfl,rfl⟩ (by rw[h.jt.deaf0];exact kP)
 have Af:∀g,Deaf (t++#[x,y]) g=Deaf t g:=λg=>Deaf_still t g #[x,y] λop Au=>by rcases AL op Au with rfl|rfl<;>(refine⟨λe=>?_,λe=>?_⟩<;>first|(simp[x]at e;done)|(simp[y]at e;done))
 have hjt:JT H (j+1) (upd D j D') 0 w (t++#[x,y]):=by
  refine⟨hct,?_,?_,?_,?_,?_,?_,?_,?_⟩
  ·obtain⟨u,hu⟩:=h.jt.pre;exact⟨u++#[x,y],by rw[hu,Array.append_assoc]⟩
  ·refine seen_app h.jt.low λop Au=>?_;rcases AL op Au with rfl|rfl<;>trivial
  ·intro k op z hk Au hz;rcases getElem?_append_cases Au with⟨_,h1⟩|⟨_,h1⟩
   ·obtain⟨h2,h3⟩:=h.jt.new k op z hk h1 hz;exact⟨h2.imp id λ⟨i',h4,h5⟩=>⟨i',by omega,h5⟩,h3⟩
   ·rw[KO op h1]at hz;cases hz
  ·refine h.jt.Xx.app λop Au=>?_;rcases AL op Au with rfl|rfl<;>(intro e;first|(simp[x]at e;done)|(simp[y]at e;done))
  ·rw[Af,h.jt.deaf0,kP]
  ·intro k hk;rw[Af];rcases BG k j with h1|h1
   ·rw[other k h1];exact h.jt.deafW k h1
   ·obtain rfl:k=j:=by omega
    rw[upd_same];exact h.jt.above _ (by omega)
  ·intro k hk;rw[Af];exact h.jt.above k (by omega)
  ·intro k hk hs;rcases BG k j with h1|h1
   ·rw[other k h1]at hs;obtain⟨r,hr⟩:=h.jt.rel k h1 hs;refine⟨r,hr.appNot λop Au=>?_⟩;rcases AL op Au with rfl|rfl
    ·show(0:Nat)≠_;omega
    ·show H.m+j+1≠_;omega
   ·obtain rfl:k=j:=by omega
    rw[upd_same]at hs;exact absurd hs (by show¬(7<=6);omega)
 have eV:Vc (j+1) (upd (λk=>(D k).d) j D'.d)=Vc j (λk=>(D k).d)+1:=by simp only[Vc,sumTo,upd_same];rw[sumTo_upd_out (λk=>(D k).d) _ cnt (Ad _)];rfl
 have DZ:OpenSt (j+1) (upd (λk=>(D k).d) j D'.d):=λi hi=>by
  by_cases e:i=j
  ·subst e;rw[upd_same];exact .inl rfl
  ·rw[upd_ne _ _ e];exact ho i (by omega)
 have MP:∃tag' f',Ec H tag' (j+1) f' 0 a' w/\dU tag'/\Io tag'=0/\(∀vs,tag'≠.w2 vs)/\(∀D w,WZ H tag' (j+1) D w)/\tag'≠.fin:=by
  cases r with
  |zero=>
   obtain⟨k,hk⟩:=OH;have e:j+1=H.n:=by omega
   rw[e];exact⟨.kd,k,.kd hk,trivial,rfl,by simp,λ_ _=>trivial,by simp⟩
  |succ r=>
   obtain⟨k,hk⟩:=OH;have e:j+1=H.n-(r+1):=by omega
   rw[e];exact⟨.al,k,.al (by omega) hk,trivial,rfl,by simp,λ_ _=>trivial,by simp⟩
 obtain⟨tag',f',D6,A8,Bc,DR,QB,F8⟩:=MP;refine⟨_,w,_,tag',j+1,upd D j D',f',0,q,AB,⟨by omega,by simp[h.size];omega,⟨a',?_,D6⟩,λk hk=>?_,λk b DF Ci hb=>?_,TW,hjt,⟨_,_,Ba,?_⟩,?_,λe=>absurd e F8⟩,.inl (by omega)⟩
 ·rw[Array.getElem?_push_lt (by simp[Du]),<- BJ];simp[Du]
 ·rcases BG k j with h1|h1
  ·obtain⟨b,hb,GY⟩:=h.ws k h1;refine⟨b,?_,by rw[other k h1];exact GY⟩;have Ac:H.m+1+k<gs.size:=(BQ.1 hb).1;rw[Array.getElem?_push_lt (by simpa using Ac),<- BJ,AQ (by omega)];exact hb
  ·obtain rfl:k=j:=by omega
   refine⟨child,?_,by rw[upd_same];exact .work _ rfl rfl rfl rfl hR ⟨λ_ _=>rfl,Ad _,λ_=>rfl,rfl⟩ rfl hcr hco⟩;rw[show H.m+1+k=(gs.setIfInBounds 0 a').size by simp[h.size],Array.getElem?_push_size]
 ·have Ac:k<gs.size:=by have:=h.size;omega
  rw[Array.getElem?_push_lt (by simpa using Ac),<- BJ,AQ (by omega)]at hb;rw[Af];exact h.old k b DF Ci hb
 ·have hm:Jv (j+1) (λk=>(upd D j D' k).d) tag' (((Vc (j+1) (λk=>(upd D j D' k).d)+Io tag':Nat):Int)*KK) 0:=.opn A8 (by rw[Ze];exact DZ) (λvs e=>absurd e (DR vs));have e:(Vc (j+1) (λk=>(upd D j D' k).d)+Io tag':Nat)=Vc j (λk=>(D k).d)+Io (.go s):=by rw[Ze,eV,Bc];rfl
  rw[e]at hm;exact hm
 ·exact QB _ _
theorem J79(hn:H.n<2147483648)(Pn:∀g w,H.Anch g w->∃m,Goes H.P true (RM H.ty H.Wg) DC0 (JW1 H.P H.ty H.Wg H.Fin H.Anch) m g w)
  (h:JInv H tag j D f0 d0 q gs w t) (ha:gs[0]?=some a) (AB:a.status=.running) (Gj:Ec H tag j f0 d0 a w) :
  (tag=.fin/\∀w₁,RM H.ty H.Wg w w₁->H.Fin a w₁)\/(∃f',tag=.anch/\JInv H .w1 j D f' d0 q gs w t)\/Ov H tag j D f0 q 0 gs w sl t:=by
 have hJ:=h.jw;obtain⟨st,sm,Ba,Ai⟩:=h.wg;have hVj:=Vc_le j (λk=>(D k).d);cases Gj with
 |@al r f _ _ hr hG=>
  rcases Goes.cases hG with Ak|⟨m',rfl,Ah⟩
  ·obtain⟨_,a',hgo,k,hk⟩:=Ak w id;have old:∀b,b<w.heap.size->(w.heap.push (.cells #[.int .i64 0] H.tI))[b]?=w.heap[b]?:=λb hb=>by rw[Array.getElem?_push_lt hb,<- BJ]
   have hz:w.heap.size<=(w.heap.push (.cells #[.int .i64 0] H.tI)).size:=by simp
   refine .inr (.inr (J9y hQ h ha hgo hz (λk hk=>⟨⟨λb hb=>old b (hJ.low k hk b hb),hz,λe=>by(cases e),rfl⟩,RW.of_same (old _ hJ.wg) (old _ hJ.c)⟩) ?_ (by simp) (by simp) (by simp) (by simp) (tag':=.st w.heap.size) (.st hr hk) (Ba.of_block (old _ hJ.wg)) (Ai.reopen trivial trivial rfl (by simp)) ?_ (by simp) (.inl (by simp only[Ej];omega))))
   ·obtain⟨cs,h1,h2⟩:=hJ.pay;exact⟨λb hb=>(old b (hb.elim (λz=>(hJ.sh0 b z).1) (hJ.wl b))).trans (hJ.keep b hb),⟨cs,(old _ hJ.c).trans h1,h2⟩,λk hk hs=>(cell_of_block (old _ hJ.c) k).trans (hJ.has k hk hs),λk hk b hb=>Es (hJ.low k hk b hb) hz,hJ.Kr,hJ.Pg,hJ.Qk,hJ.avoid,
     Es hJ.wg hz,Es hJ.c hz,hJ.cw,hJ.cW,hJ.wW,λb hb=>⟨Es (hJ.sh0 b hb).1 hz,(hJ.sh0 b hb).2⟩,λb hb=>Es (hJ.wl b hb) hz,hJ.os,hJ.out⟩
   ·refine⟨by simp,λhx=>?_,λi hi hx=>?_,λe=>?_,λe=>?_,λhx=>?_⟩
    ·exact absurd (hJ.sh0 _ hx).1 (by omega)
    ·exact absurd (hJ.low i hi _ hx) (by omega)
    ·exact absurd hJ.wg (by omega)
    ·exact absurd hJ.c (by omega)
    ·exact absurd (hJ.wl _ hx) (by omega)
  ·obtain⟨a',w',es,hgo,⟨rfl,rfl⟩,Bg⟩:=Ah w id;exact .inr (.inr (idle0 hQ h ha hgo (.al hr Bg) (by omega)))
 |@st r s f _ _ hr hG=>
  rcases Goes.cases hG with Ak|⟨m',rfl,Ah⟩
  ·obtain⟨_,hx⟩:=Ak w id;obtain⟨AU,Bl,CU,X6,MN,LP⟩:=h.sb;obtain⟨a',hgo,k,hk⟩:=hx AU;have Yv:s<w.heap.size:=(BQ.1 AU).1;have keep:∀b,b≠s->(w.setCell ⟨s,0,none⟩ (.int .i64 ((H.n-(r+1):Nat):Int))).heap[b]?=w.heap[b]?:=λb hb=>(aside_setCell w ⟨s,0,none⟩ _).block b hb;have hz:(w.setCell ⟨s,0,none⟩ (.int .i64 ((H.n-(r+1):Nat):Int))).heap.size=w.heap.size:=(aside_setCell w ⟨s,0,none⟩ _).size;have hb:∀e∈(#[⟨.cell ⟨s,0,none⟩,true,false⟩]:Array Event),e=⟨.cell ⟨s,0,none⟩,true,false⟩:=by simp
   have bl:∀l:Loc,∀b,Tn l=some b->l=.cell ⟨s,0,none⟩->b=s:=λl b h1 h2=>by rw[h2]at h1;simp[Tn]at h1;exact h1.symm
   refine .inr (.inr (J9y hQ h ha hgo (Nat.le_of_eq hz.symm) (λk hk=>⟨⟨λb hb=>keep b (λe=>CU k hk (e▸hb)),Nat.le_of_eq hz.symm,λe=>by(cases e),rfl⟩,RW.of_same (keep _ (Ne.symm X6)) (keep _ (Ne.symm MN))⟩) ?_ (λe he=>?_) (λe he=>?_) (λe he x hx hn=>?_) (λe he=>?_) (tag':=.kds s) (.kds hr hk)
    (Ba.of_block (keep _ (Ne.symm X6))) (Ai.reopen trivial trivial rfl (by simp)) ?_ (by simp) (.inl (by simp only[Ej];omega))))
   ·obtain⟨cs,h1,h2⟩:=hJ.pay;have eC:=keep _ (Ne.symm MN);exact⟨λb hb=>(keep b (λe=>hb.elim (λz=>Bl (e▸z)) λz=>LP (e▸z))).trans (hJ.keep b hb),⟨cs,eC.trans h1,h2⟩,λk hk hs=>(cell_of_block eC k).trans (hJ.has k hk hs),λk hk b hb=>by rw[hz];exact hJ.low k hk b hb,hJ.Kr,hJ.Pg,hJ.Qk,hJ.avoid,
     by rw[hz];exact hJ.wg,by rw[hz];exact hJ.c,hJ.cw,hJ.cW,hJ.wW,λb hb=>by rw[hz];exact hJ.sh0 b hb,λb hb=>by rw[hz];exact hJ.wl b hb,hJ.os,hJ.out⟩
   ·rw[hb e he];refine⟨rfl,λx hx=>?_⟩;simp only[ofEvent_cell,MemAct.touch?,Cm]at hx;subst hx;refine .inr ⟨?_,?_,?_⟩
    ·rintro⟨a,ha,hw⟩;simp only[Loc.cell.injEq]at ha;subst ha;exact hw.elim LP X6
    ·rintro k _ _ ⟨i,hi,_,h1⟩;rcases h1 with⟨b,h1,h2⟩|h1
     ·have:=bl _ b h1 rfl;subst this;exact CU i hi (hJ.Kr i hi _ h2)
     ·simp only[Loc.cell.injEq,Addr.mk.injEq]at h1;exact MN h1.1
    ·rintro _ k _ _ ⟨i,hi,_,b,h1,h2,_⟩;have:=bl _ b h1 rfl;subst this;exact CU i hi h2
   ·rw[hb e he];show s<_;rw[hz];exact Yv
   ·rw[hb e he]at hx;simp only[ofEvent_cell,MemAct.touch?,Cm]at hx;subst hx;exact⟨rfl,rfl⟩
   ·rw[hb e he];simp[MemAct.ofEvent]
   ·exact⟨one_setCell AU,Bl,CU,X6,MN,LP⟩
  ·obtain⟨a',w',es,hgo,⟨rfl,rfl⟩,Bg⟩:=Ah w id;exact .inr (.inr (idle0 hQ h ha hgo (.st hr Bg) (by omega)))
 |@kds r s f _ _ hr hG=>
  rcases Goes.cases hG with Ak|⟨m',rfl,Ah⟩
  ·obtain⟨_,a',hgo,k,hk⟩:=Ak w id;exact .inr (.inr (book0 hQ h ha hgo (.refl H.Wg w) Ba (λe he=>bk1 he (by simp[Bk,mk])) (tag':=.a1 s) (.a1 hr hk) (Ai.reopen trivial trivial rfl (by simp)) id (by simp) (.inl (by simp only[Ej];omega))))
  ·obtain⟨a',w',es,hgo,⟨rfl,rfl⟩,Bg⟩:=Ah w id;exact .inr (.inr (idle0 hQ h ha hgo (.kds hr Bg) (by omega)))
 |@a1 r s f _ _ hr hG=>
  rcases Goes.cases hG with Ak|⟨m',rfl,Ah⟩
  ·obtain⟨_,AA⟩:=Ak w id;obtain⟨ho,rfl,rfl,_⟩:=Ai.open_inv trivial;obtain⟨a',hgo,h0,h1⟩:=AA (Vc (H.n-(r+1)) λk=>(D k).d) (by omega) (by simpa[Io]using Ba);have bks:∀e∈#[rd (stA H.Wg),wr (stA H.Wg)],Bk H.Wg e\/e=mk (.read (smA H.Wg))\/e=mk (.write (smA H.Wg))\/e=mk (.acquire (stA H.Wg)):=λe he=>.inl (by simp at he;rcases he with rfl|rfl<;>exact bk_cell _ _ rfl);have hm:∀tag',dU tag'->Io tag'=1->(∀vs,tag'≠.w2 vs)->Jv (H.n-(r+1)) (λk=>(D k).d) tag' ((((Vc (H.n-(r+1)) λk=>(D k).d):Nat):Int)*KK+1*KK) 0:=λtag' h1 h2 h3=>by
    have e:((((Vc (H.n-(r+1)) λk=>(D k).d):Nat):Int)*KK+1*KK)=(((Vc (H.n-(r+1)) λk=>(D k).d)+Io tag':Nat):Int)*KK:=by rw[h2,Int.natCast_add,Int.add_mul];rfl
    rw[e];exact .opn h1 ho (λvs e=>absurd e (h3 vs))
   have e2:((((Vc (H.n-(r+1)) λk=>(D k).d):Nat):Int)+1)*KK=((((Vc (H.n-(r+1)) λk=>(D k).d):Nat):Int)*KK+1*KK):=Int.add_mul _ _ _;by_cases hv:(Vc (H.n-(r+1)) λk=>(D k).d)=0
   ·obtain⟨k,hk⟩:=h0 hv;exact .inr (.inr (book0 hQ h ha hgo (aside_setCell w (stA H.Wg) _) (Ba.setSt _) bks (tag':=.rd s) (.rd hr hk) (by rw[e2];exact hm _ trivial rfl (by simp)) id (by simp) (.inl (by simp only[Ej];omega))))
   ·obtain⟨k,hk⟩:=h1 hv;exact .inr (.inr (book0 hQ h ha hgo (aside_setCell w (stA H.Wg) _) (Ba.setSt _) bks (tag':=.kes s) (.kes hr hk) (by rw[e2];exact hm _ trivial rfl (by simp)) id (by simp) (.inl (by simp only[Ej];omega))))
  ·obtain⟨a',w',es,hgo,⟨rfl,rfl⟩,Bg⟩:=Ah w id;exact .inr (.inr (idle0 hQ h ha hgo (.a1 hr Bg) (by omega)))
 |@rd r s f _ _ hr hG=>
  rcases Goes.cases hG with Ak|⟨m',rfl,Ah⟩
  ·obtain⟨_,a',hgo,k,hk⟩:=Ak w id;exact .inr (.inr (book0 hQ h ha hgo (.refl H.Wg w) Ba (λe he=>bk1 he (by simp)) (tag':=.kes s) (.kes hr hk) (Ai.reopen trivial trivial rfl (by simp)) id (by simp) (.inl (by simp only[Ej];omega))))
  ·obtain⟨a',w',es,hgo,⟨rfl,rfl⟩,Bg⟩:=Ah w id;exact .inr (.inr (idle0 hQ h ha hgo (.rd hr Bg) (by omega)))
 |@kes r s f _ _ hr hG=>
  rcases Goes.cases hG with Ak|⟨m',rfl,Ah⟩
  ·obtain⟨_,a',hgo,k,hk⟩:=Ak w id;exact .inr (.inr (book0 hQ h ha hgo (.refl H.Wg w) Ba (λe he=>bk1 he (by simp[Bk,mk])) (tag':=.go s) (.go hr hk) (Ai.reopen trivial trivial rfl (by simp)) id (by simp) (.inl (by simp only[Ej];omega))))
  ·obtain⟨a',w',es,hgo,⟨rfl,rfl⟩,Bg⟩:=Ah w id;exact .inr (.inr (idle0 hQ h ha hgo (.kes hr Bg) (by omega)))
 |@go r s f _ _ hr hG=>
  rcases Goes.cases hG with Ak|⟨m',rfl,Ah⟩
  ·exact .inr (.inr (Jmh hQ h ha hr rfl rfl (Ak w id)))
  ·obtain⟨a',w',es,hgo,⟨rfl,rfl⟩,Bg⟩:=Ah w id;exact .inr (.inr (idle0 hQ h ha hgo (.go hr Bg) (by omega)))
 |kd hG=>
  rcases Goes.cases hG with Ak|⟨m',rfl,Ah⟩
  ·obtain⟨_,a',hgo,k,hk⟩:=Ak w id;exact .inr (.inr (book0 hQ h ha hgo (.refl H.Wg w) Ba (λe he=>bk1 he (by simp[Bk,mk])) (tag':=.anch) (.anch hk) (Ai.reopen trivial trivial rfl (by simp)) (λ_=>trivial) (by simp) (.inl (by simp only[Ej];omega))))
  ·obtain⟨a',w',es,hgo,⟨rfl,rfl⟩,Bg⟩:=Ah w id;exact .inr (.inr (idle0 hQ h ha hgo (.kd Bg) (by omega)))
 |anch hG=>
  rcases Goes.cases hG with Ak|⟨m',rfl,Ah⟩
  ·obtain⟨m,hm⟩:=Pn a w (Ak w id);exact .inr (.inl ⟨m,rfl,⟨h.jn,h.size,⟨a,ha,.w1 hm⟩,h.ws,h.old,h.jw,h.jt,⟨st,sm,Ba,Ai.reopen trivial trivial rfl (by simp)⟩,trivial,by simp⟩⟩)
  ·obtain⟨a',w',es,hgo,⟨rfl,rfl⟩,Bg⟩:=Ah w id;exact .inr (.inr (idle0 hQ h ha hgo (.anch Bg) (by omega)))
 |w1 hG=>
  rcases Goes.cases hG with Ak|⟨m',rfl,Ah⟩
  ·obtain⟨_,AA⟩:=Ak w id;obtain⟨ho,rfl,rfl,_⟩:=Ai.open_inv trivial;obtain⟨a',hgo,h0,Aq⟩:=AA (Vc H.n λk=>(D k).d) (by omega) (by simpa[Io]using Ba);by_cases hv:(Vc H.n λk=>(D k).d)=0
   ·obtain⟨k,hk⟩:=h0 hv;refine .inr (.inr (book0 hQ h ha hgo (.refl H.Wg w) Ba (λe he=>bk1 he (by simp[Bk,rd,stA])) (tag':=.ke) (.ke hk) ?_ (λ_=>trivial) (by simp) (.inl (by simp only[Ej];omega))));have e:(((Vc H.n λk=>(D k).d)+Io .w1:Nat):Int)*KK=0:=by rw[hv];simp[Io]
    rw[e];exact .fin trivial (allQuit_of ho hv)
   ·obtain⟨k,hk⟩:=Aq hv;exact .inr (.inr (book0 hQ h ha hgo (.refl H.Wg w) Ba (λe he=>bk1 he (by simp[Bk,rd,stA])) (tag':=.w2 (Vc H.n λk=>(D k).d)) (.w2 hk) (Ai.reopen trivial trivial rfl (λvs e=>by cases e;omega)) (λ_=>trivial) (by simp) (.inl (by simp only[Ej];omega))))
  ·obtain⟨a',w',es,hgo,⟨rfl,rfl⟩,Bg⟩:=Ah w id;exact .inr (.inr (idle0 hQ h ha hgo (.w1 Bg) (by omega)))
 |@w2 vs f _ _ hG=>
  rcases Goes.cases hG with Ak|⟨m',rfl,Ah⟩
  ·obtain⟨_,AA⟩:=Ak w id;obtain⟨ho,rfl,rfl,wS⟩:=Ai.open_inv trivial;obtain⟨hle,h1⟩:=wS vs rfl;obtain⟨hhit,IW⟩:=AA (Vc H.n λk=>(D k).d) (by omega) (by simpa[Io]using Ba);by_cases hv:(Vc H.n λk=>(D k).d)=vs
   ·obtain⟨a',hgo,k,hk⟩:=hhit hv;exact .inr (.inr (book0 hQ h ha hgo (aside_setCell w (stA H.Wg) _) (Ba.setSt _) (λe he=>.inl (by simp at he;rcases he with rfl|rfl<;>exact bk_cell _ _ rfl)) (tag':=.wr) (.wr hk) (.reg trivial ho (by omega)) (λ_=>trivial) (by simp) (.inl (by simp only[Ej];omega))))
   ·obtain⟨a',hgo,k,hk⟩:=IW hv;exact .inr (.inr (book0 hQ h ha hgo (.refl H.Wg w) Ba (λe he=>bk1 he (by simp[Bk,rd,stA])) (tag':=.anch) (.anch hk) (Ai.reopen trivial trivial rfl (by simp)) (λ_=>trivial) (by simp) (.inl (by simp only[Ej];omega))))
  ·obtain⟨a',w',es,hgo,⟨rfl,rfl⟩,Bg⟩:=Ah w id;exact .inr (.inr (idle0 hQ h ha hgo (.w2 Bg) (by omega)))
 |wr hG=>
  rcases Goes.cases hG with Ak|⟨m',rfl,Ah⟩
  ·obtain⟨_,a',hgo,k,hk⟩:=Ak w id;exact .inr (.inr (book0 hQ h ha hgo (.refl H.Wg w) Ba (λe he=>bk1 he (by simp)) (tag':=.w3) (.w3 hk) (Ai.Jpe trivial trivial (by simp)) (λ_=>trivial) (by simp) (.inl (by simp only[Ej];omega))))
  ·obtain⟨a',w',es,hgo,⟨rfl,rfl⟩,Bg⟩:=Ah w id;exact .inr (.inr (idle0 hQ h ha hgo (.wr Bg) (by omega)))
 |w3 hG=>
  rcases Goes.cases hG with Ak|⟨m',rfl,Ah⟩
  ·obtain⟨_,_,hblk,Rt⟩:=Ak w id;rcases Ai.J03f trivial with rfl|⟨rfl,rfl,hq⟩
   ·exact .inr (.inr (book0 hQ h ha (hblk ⟨_,Ba⟩) (.refl H.Wg w) Ba (by simp) (tag':=.blk) (.blk Ak) (Ai.Jpe trivial trivial (λ_=>rfl)) (λ_=>trivial) (by simp) (.inr ⟨rfl,by omega⟩)))
   ·obtain⟨a',hgo,k,hk⟩:=Rt Ba;exact .inr (.inr (book0 hQ h ha hgo (aside_setCell w (smA H.Wg) _) (Ba.setSm 0) (λe he=>.inl (Jl9 e he)) (tag':=.w4) (.w4 hk) (.fin trivial hq) (λ_=>trivial) (by simp) (.inl (by simp only[Ej];omega))))
  ·obtain⟨a',w',es,hgo,⟨rfl,rfl⟩,Bg⟩:=Ah w id;exact .inr (.inr (idle0 hQ h ha hgo (.w3 Bg) (by omega)))
 |blk h=>simp at AB
 |w4 hG=>
  rcases Goes.cases hG with Ak|⟨m',rfl,Ah⟩
  ·obtain⟨_,hx⟩:=Ak w id;obtain⟨hq,rfl,rfl⟩:=Ai.fin_inv trivial;obtain⟨a',hgo,k,hk⟩:=hx Ba;exact .inr (.inr (book0 hQ h ha hgo (.refl H.Wg w) Ba (λe he=>bk1 he (by simp[Bk,rd,stA])) (tag':=.ke) (.ke hk) (.fin trivial hq) (λ_=>trivial) (by simp) (.inl (by simp only[Ej];omega))))
  ·obtain⟨a',w',es,hgo,⟨rfl,rfl⟩,Bg⟩:=Ah w id;exact .inr (.inr (idle0 hQ h ha hgo (.w4 Bg) (by omega)))
 |ke hG=>
  rcases Goes.cases hG with Ak|⟨m',rfl,Ah⟩
  ·obtain⟨_,a',hgo,k,hk⟩:=Ak w id;obtain⟨hq,rfl,rfl⟩:=Ai.fin_inv trivial;exact .inr (.inr (book0 hQ h ha hgo (.refl H.Wg w) Ba (λe he=>bk1 he (by simp[Bk,mk])) (tag':=.acq) (.acq hk) (.fin trivial hq) (λ_=>trivial) (by simp) (.inl (by simp only[Ej];omega))))
  ·obtain⟨a',w',es,hgo,⟨rfl,rfl⟩,Bg⟩:=Ah w id;exact .inr (.inr (idle0 hQ h ha hgo (.ke Bg) (by omega)))
 |acq hG=>
  rcases Goes.cases hG with Ak|⟨m',rfl,Ah⟩
  ·obtain⟨_,a',hgo,k,hk⟩:=Ak w id;obtain⟨hq,rfl,rfl⟩:=Ai.fin_inv trivial;refine .inr (.inr (book0 hQ h ha hgo (.refl H.Wg w) Ba (λe he=>bk1 he (by simp)) (tag':=.fin) (.fin hk) (.fin trivial hq) (λ_=>trivial) (λ_=>?_) (.inl (by simp only[Ej];omega))));have e1:MemOp.ofEvents 0 a.frame.fn a.frame.place #[mk (.acquire (stA H.Wg))]=#[{ g:=0,fn:=a.frame.fn,pos:=a.frame.place,act:=.mark (.acquire (stA H.Wg)) }]:=by rw[ofEvents_eq];simp[ofEvent_mk]
   have hy:(t++#[({ g:=0,fn:=a.frame.fn,pos:=a.frame.place,act:=.mark (.acquire (stA H.Wg)) }:MemOp)])[t.size]?=some { g:=0,fn:=a.frame.fn,pos:=a.frame.place,act:=.mark (.acquire (stA H.Wg)) }:=by simp
   refine⟨t.size,by rw[e1,act?_of hy],by rw[e1];simp[Trace.g?],by rw[e1];exact⟨0,by simp[Trace.g?],by rw[deaf_old (Ad _)];exact h.jt.deaf0⟩,λi hi=>?_⟩;obtain⟨r,hr⟩:=h.jt.rel i hi (by have:=hq i hi;simp only at this;rw[this];omega);exact⟨r,hr.appOther g_of_ofEvents (by omega),lt_of_act? hr.act⟩
  ·obtain⟨a',w',es,hgo,⟨rfl,rfl⟩,Bg⟩:=Ah w id;exact .inr (.inr (idle0 hQ h ha hgo (.acq Bg) (by omega)))
 |fin hG=>
  rcases Goes.cases hG with Ak|⟨m',rfl,Ah⟩
  ·exact .inl ⟨rfl,Ak⟩
  ·obtain⟨a',w',es,hgo,⟨rfl,rfl⟩,Bg⟩:=Ah w id;exact .inr (.inr (idle0 hQ h ha hgo (.fin Bg) (by omega)))
end
end
end Go.Sim
end
section
set_option linter.unusedSectionVars false
namespace Go.Sim
open Go.Conc Go.ConcN
open Go.ConcR (KK wgBlock WgAt stA smA rd wr mk Payload DC0 Bk bk_of_mute ofEvent_loc_mark ofEvent_cell g_of_ofEvents ofEvent_mk)
section
variable[Payload]{H:Ph}{tag tag':Eu}{j:Nat}{D:Nat->CZ}{f0 d0 f':Nat}{q:Nat->Nat}{gs:Array JF}{w w':JE}{sl:Option (Nat × Nat)}{t:Trace}{a a':JF}{es:Array Event}
theorem Ec.status(Fj:∀g w,H.Anch g w->g.status=.running)(Fg:∀g w,H.Fin g w->g.status=.running){d:Nat}(h:Ec H tag j f' d a w):a.status=.running\/(a.status=.blocked/\tag=.blk):=by
 have gm:∀{Stop:JF->JE->Prop}{n:Nat},(∀g w,Stop g w->g.status=.running)->Goes H.P true (RM H.ty H.Wg) DC0 Stop n a w->a.status=.running:=λhs hg=>Goes.running hs w id hg;cases h with
 |al hr h=>exact .inl (gm (λ_ _ x=>x.1) h)
 |st hr h=>exact .inl (gm (λ_ _ x=>x.1) h)
 |kds hr h=>exact .inl (gm (λ_ _ x=>x.1) h)
 |a1 hr h=>exact .inl (gm (λ_ _ x=>x.1) h)
 |rd hr h=>exact .inl (gm (λ_ _ x=>x.1) h)
 |kes hr h=>exact .inl (gm (λ_ _ x=>x.1) h)
 |go hr h=>exact .inl (gm (λ_ _ x=>x.1) h)
 |kd h=>exact .inl (gm (λ_ _ x=>x.1) h)
 |anch h=>exact .inl (gm Fj h)
 |w1 h=>exact .inl (gm (λ_ _ x=>x.1) h)
 |w2 h=>exact .inl (gm (λ_ _ x=>x.1) h)
 |wr h=>exact .inl (gm (λ_ _ x=>x.1) h)
 |w3 h=>exact .inl (gm (λ_ _ x=>x.1) h)
 |w4 h=>exact .inl (gm (λ_ _ x=>x.1) h)
 |ke h=>exact .inl (gm (λ_ _ x=>x.1) h)
 |acq h=>exact .inl (gm (λ_ _ x=>x.1) h)
 |fin h=>exact .inl (gm Fg h)
 |blk h=>exact .inr ⟨rfl,rfl⟩
theorem WS.running_of{i:Nat}{D:CZ}{g:JF}(h:WS H i D g w)(hs:D.d.stage≠1):g.status=.running:=by
 cases h with
 |work y _ _ _ _ _ _ _ hs=>exact hs
 |r0 _ f _ hs=>exact Goes.running (λ_ _ x=>x.1) w (RW.refl w) hs
 |tail _ _ D6=>exact WSit.running_of D6 hs
theorem JInv.at(hQ:∀i own X v w w',H.Q i own X v w->Cb true X w w'->H.Q i own X v w')(h:JInv H tag j D f0 d0 q gs w t)(d:Nat):JInv H tag j D f0 d0 q gs (w.at d) t:=by
 obtain⟨a,ha,hs⟩:=h.main;have hJ:=h.jw;have hT:=h.jt;refine⟨h.jn,h.size,⟨a,ha,hs.rely H (λx=>x)⟩,λi hi=>?_,h.old,⟨hJ.keep,hJ.pay,hJ.has,hJ.low,hJ.Kr,hJ.Pg,hJ.Qk,hJ.avoid,hJ.wg,hJ.c,hJ.cw,hJ.cW,hJ.wW,hJ.sh0,hJ.wl,hJ.os,hJ.out⟩,
  ⟨hT.ct,hT.pre,hT.low,hT.new,hT.Xx,hT.deaf0,hT.deafW,hT.above,hT.rel⟩,h.wg,h.sb,h.acq⟩
 obtain⟨g,hg,hw⟩:=h.ws i hi;exact⟨g,hg,hw.other H hQ ⟨⟨λ_ _=>rfl,Ad _,λe=>by(cases e),rfl⟩,RW.of_same rfl rfl⟩⟩
section
variable(Fj:∀g w,H.Anch g w->g.status=.running)(Fg:∀g w,H.Fin g w->g.status=.running)
include Fj Fg
theorem JInv.someone(h:JInv H tag j D f0 d0 q gs w t):∃(i:Nat)(g:JF),gs[i]?=some g/\g.status=.running:=by
 obtain⟨a,ha,hs⟩:=h.main;rcases hs.status Fj Fg with hr|⟨_,rfl⟩
 ·exact⟨0,a,ha,hr⟩
 ·obtain⟨st,sm,_,Ai⟩:=h.wg;cases Ai with
  |opn h1 _ _=>exact h1.elim
  |reg _ _ h3=>
   obtain⟨i,hi,h5⟩:=exists_counted h3;obtain⟨g,hg,hw⟩:=h.ws i hi;exact⟨_,g,hg,hw.running_of (by omega)⟩
  |last L _ h2 h3 _=>
   obtain⟨g,hg,hw⟩:=h.ws L h2;exact⟨_,g,hg,hw.running_of (by omega)⟩
  |sema h1 _=>rcases h1 with h1|h1<;>cases h1
  |fin h1 _=>exact h1.elim
theorem JInv.awake(h:JInv H tag j D f0 d0 q gs w t):∀g∈gs,awake g:=by
 intro g hg;obtain⟨i,hi⟩:=Array.mem_iff_getElem?.1 hg;obtain⟨a,ha,hs⟩:=h.main;have Ac:=(BQ.1 hi).1;rw[h.size]at Ac;rcases Nat.eq_zero_or_pos i with rfl|Bj
 ·rw[ha]at hi;cases hi;rcases hs.status Fj Fg with hr|⟨hr,_⟩
  ·exact awake_of (.inl hr)
  ·exact awake_of (.inr (.inl hr))
 ·by_cases hm:i<=H.m
  ·exact awake_of ((h.old i g Bj hm hi).status.elim .inl λx=>.inr (.inr x))
  ·obtain⟨g',Bg,hw⟩:=h.ws (i-(H.m+1)) (by omega);rw[show H.m+1+(i-(H.m+1))=i by omega,hi]at Bg;cases Bg;exact awake_of (hw.status.elim .inl λx=>.inr (.inr x))
theorem Jrs(h:JInv H tag j D f0 d0 q gs w t){k:Nat}(DF:0<k)(Ci:k<=H.m){g:JF}(hg:gs[k]?=some g)(AB:g.status=.running):Ov H tag j D f0 q k gs w sl t:=by
 have hq:=h.old k g DF Ci hg;cases hqk:q k with
 |zero=>rw[hqk]at hq;rw[hq.1]at AB;cases AB
 |succ n=>
  rw[hqk]at hq;rcases hq with⟨hf,_⟩|⟨_,g',es,hm,XF,hq'⟩
  ·rw[hf]at AB;cases AB
  obtain⟨a,ha,MP⟩:=h.main;obtain⟨tag',f',Jmg,KT,Iy,bK⟩:=MP.woken Fj Fg h.live (w':=w) (λx=>x) g g';have Aq:(k == 0)=false:=by simp;omega
  have ER:=runT_crowd_go (P:=H.P) (sl:=sl) (i:=k) hg (by rw[Aq];exact XF w);have Ac:k<gs.size:=(BQ.1 hg).1;have Ur:∀op∈MemOp.ofEvents k g.frame.fn g.frame.place es,op.g=k:=λop Au=>by obtain⟨e,_,rfl⟩:=Conc.mem_ofEvents Au;rfl
  have nt:∀op∈MemOp.ofEvents k g.frame.fn g.frame.place es,op.act.touch?=none:=λop Au=>by obtain⟨e,he,rfl⟩:=Conc.mem_ofEvents Au;exact touch_mute (hm e he)
  obtain⟨st,sm,Ba,Ai⟩:=h.wg;have hT:=h.jt;refine⟨_,w,_,tag',j,D,f',d0,upd q k n,ER,⟨h.jn,by simpa using h.size,⟨_,?_,Jmg⟩,λi hi=>?_,λi b hi1 Oa hb=>?_,h.jw,?_,⟨st,sm,Ba,Ai.retag Iy⟩,?_,λe'=>?_⟩,?_⟩
  ·rw[AQ (by omega),Array.getElem?_map,ha];rfl
  ·obtain⟨b,hb,GY⟩:=h.ws i hi;refine⟨b,?_,GY⟩;rw[AQ (by omega),Array.getElem?_map,hb];simp[J7p GY.status]
  ·by_cases e:k=i
   ·subst e;rw[EX (by simpa using Ac)]at hb;obtain rfl:=Aa hb;rw[upd_same,Deaf_own];exact hq'
   ·rw[AQ e,Array.getElem?_map]at hb;obtain⟨y,hy,rfl⟩:=FX.1 hb;have TD:=h.old i y hi1 Oa hy;rw[woken_quitsD TD,upd_ne q n (Ne.symm e),Deaf_other t (g:=i) (g':=k) e _ Ur];exact TD
  ·refine⟨hT.ct.appW h.jw.apart (k:=k) (by omega) (by omega) λop Au=>⟨Ur op Au,λx hx=>by rw[nt op Au]at hx;cases hx⟩,?_,?_,?_,?_,?_,?_,?_,?_⟩
   ·obtain⟨u,hu⟩:=hT.pre;exact⟨u++MemOp.ofEvents k g.frame.fn g.frame.place es,by rw[hu,Array.append_assoc]⟩
   ·refine seen_app hT.low λop Au=>?_;obtain⟨e,he,rfl⟩:=Conc.mem_ofEvents Au;exact low_mute (hm e he) _
   ·intro i op x hi Au hx;rcases getElem?_append_cases Au with⟨_,h1⟩|⟨_,h1⟩
    ·exact hT.new i op x hi h1 hx
    ·rw[nt op h1]at hx;cases hx
   ·exact hT.Xx.app λop Au=>by obtain⟨e,he,rfl⟩:=Conc.mem_ofEvents Au;exact Jiv (H:=H) (bk_of_mute (hm e he))
   ·rw[Deaf_other t (g:=0) (g':=k) (by omega) _ Ur];exact hT.deaf0
   ·intro i hi;rw[Deaf_other t (g:=H.m+1+i) (g':=k) (by omega) _ Ur];exact hT.deafW i hi
   ·intro i hi;rw[Deaf_other t (g:=i) (g':=k) (by omega) _ Ur];exact hT.above i hi
   ·intro i hi hs;obtain⟨r,hr⟩:=hT.rel i hi hs;exact⟨r,hr.appOther Ur (by omega)⟩
  ·exact h.sb.keep Iy (λ_ _ _ _ _=>rfl) (λs _ hX=>hX)
  ·have Px:V8 H j t:=by
    rcases Iy with rfl|⟨_,rfl⟩
    ·exact h.acq e'
    ·cases e'
   exact Px.app λi r _ hr=>hr.appOther Ur (by omega)
  ·refine .inr (.inr ⟨rfl,rfl,?_⟩);unfold mu;rw[Jda _ _ Iy];refine Prod.Lex.right _ ?_;have:=sumTo_upd q n id (j:=H.m+1) (i:=k) (by omega);simp only[id,hqk]at this;have e1:(sumTo (H.m+1) λx=>upd q k n x)=sumTo (H.m+1) (upd q k n):=rfl;have e2:(sumTo (H.m+1) λx=>q x)=sumTo (H.m+1) q:=rfl;omega
section
variable(hQ:∀i own X v w w',H.Q i own X v w->Cb true X w w'->H.Q i own X v w')(hn:H.n<2147483648)(Pn:∀g w,H.Anch g w->∃m,Goes H.P true (RM H.ty H.Wg) DC0 (JW1 H.P H.ty H.Wg H.Fin H.Anch) m g w)
include hQ hn Pn
theorem JInv.done(h:JInv H tag j D f0 d0 q gs w t){i:Nat}(hi:i<j){g:JF}(hg:gs[H.m+1+i]?=some g){y:Sit}(hr:(D i).rank=some y)(ho:y.own=(D i).own)(hX:y.X=(D i).X)(yD:y.g=g)(hw:Cb true y.X y.w w)(hd:(D i).d=⟨7,0,0⟩)
  (Af:∀w1,Cb true y.X y.w w1->SE H i { y with w:=w1 }):∃D',JInv H tag j D' f0 d0 q gs w t/\Falls H (H.n-j) (ranks j D') (mu H tag j D' f0 q) (H.n-j) (ranks j D) (mu H tag j D f0 q):=by
 obtain⟨v,hq,hk⟩:=Af w hw;obtain⟨k,hk⟩:=hk w h.jw.pay h.live;simp only at hq hk;rw[ho,hX]at hq;rw[yD]at hk
 let D':CZ:=⟨(D i).own,(D i).X,v,none,⟨7,k,0⟩⟩
 have sm:∀a,(upd D i D' a).own=(D a).own/\(upd D i D' a).X=(D a).X/\((upd D i D' a).d.stage=(D a).d.stage)/\(upd D i D' a).d.deaf=(D a).d.deaf/\((D a).d.stage<=6->(upd D i D' a).v=(D a).v):=λa=>by
  by_cases e:a=i
  ·subst e;rw[upd_same];exact⟨rfl,rfl,by rw[hd],by rw[hd],λh=>by rw[hd]at h;exact absurd h (by decide)⟩
  ·rw[upd_ne D _ e];exact⟨rfl,rfl,rfl,rfl,λ_=>rfl⟩
 have eo:LZ H j (upd D i D')=LZ H j D:=by funext g l;unfold LZ;simp only[λa=>(sm a).1]
 have er:RdJ H j (upd D i D')=RdJ H j D:=by funext g l;unfold RdJ;simp only[λa=>(sm a).1,λa=>(sm a).2.1]
 have hJ:=h.jw;have hT:=h.jt;obtain⟨st,sm',Ba,Ai⟩:=h.wg;refine⟨upd D i D',⟨h.jn,h.size,h.main,λa ha=>?_,h.old,⟨hJ.keep,hJ.pay,λa ha hs=>?_,λa ha b hb=>?_,λa ha b hb=>?_,λa c ha hc MI b hb=>?_,λa ha b hb=>?_,λa ha b hb=>?_,hJ.wg,hJ.c,hJ.cw,hJ.cW,hJ.wW,hJ.sh0,hJ.wl,hJ.os,hJ.out⟩,
  ⟨by rw[eo,er];exact hT.ct,hT.pre,hT.low,hT.new,hT.Xx,hT.deaf0,λa ha=>by rw[(sm a).2.2.2.1];exact hT.deafW a ha,hT.above,λa ha hs=>hT.rel a ha (by rw[<- (sm a).2.2.1];exact hs)⟩,⟨st,sm',Ba,Ai.congr λa _=>(sm a).2.2.1⟩,?_,h.acq⟩,.inr (.inl ⟨rfl,Jd9 hi (by rw[hr];exact .done)⟩)⟩
 ·by_cases e:a=i
  ·subst e;refine⟨g,hg,?_⟩;rw[upd_same];exact .r0 rfl k rfl hk hq
  ·rw[upd_ne D _ e];exact h.ws a ha
 ·have h6:(D a).d.stage<=6:=by rw[<- (sm a).2.2.1];exact hs
  rw[(sm a).2.2.2.2 h6];exact hJ.has a ha h6
 ·rw[(sm a).2.1]at hb;exact hJ.low a ha b hb
 ·rw[(sm a).1]at hb;rw[(sm a).2.1];exact hJ.Kr a ha b hb
 ·rw[(sm a).1]at hb;rw[(sm c).2.1];exact hJ.Pg a c ha hc MI b hb
 ·rw[(sm a).1]at hb;exact hJ.Qk a ha b hb
 ·rw[(sm a).2.1]at hb;exact hJ.avoid a ha b hb
 ·exact h.sb.keep (.inl rfl) (λ_ _ _ _ _=>rfl) (λs _ hX a ha=>by rw[(sm a).2.1];exact hX a ha)
theorem Jmi(h:JInv H tag j D f0 d0 q gs w t) :
  (tag=.fin/\∃a,gs[0]?=some a/\∀w₁,RM H.ty H.Wg w w₁->H.Fin a w₁) \/
  (∃tag' D' f' ,JInv H tag' j D' f' d0 q gs w t/\Falls H (H.n-j) (ranks j D') (mu H tag' j D' f' q) (H.n-j) (ranks j D) (mu H tag j D f0 q)) \/
  (∃BN w' sl' ops tag' j' D' f' d' q',stepT H.P (crowd gs w sl)=(.next (crowd BN w' sl'),ops)/\JInv H tag' j' D' f' d' q' BN w' (t++ops) /\
   Falls H (H.n-j') (ranks j' D') (mu H tag' j' D' f' q') (H.n-j) (ranks j D) (mu H tag j D f0 q)):=by
 obtain⟨i,g,d,sl',hg,AB,Ah⟩:=crowd_pick (P:=H.P) (w:=w) (sl:=sl) (h.awake Fj Fg) (h.someone Fj Fg);have h':=h.at hQ d;have next:Ov H tag j D f0 q i gs (w.at d) sl' t->∃BN w' sl' ops tag' j' D' f' d' q',stepT H.P (crowd gs w sl)=(.next (crowd BN w' sl'),ops)/\JInv H tag' j' D' f' d' q' BN w' (t++ops) /\
   Falls H (H.n-j') (ranks j' D') (mu H tag' j' D' f' q') (H.n-j) (ranks j D) (mu H tag j D f0 q):=λ⟨BN,w',ops,tag',j',D',f',d',q',h1,h2,h3⟩=>
  ⟨BN,w',sl',ops,tag',j',D',f',d',q',by rw[Ah];exact h1,h2,h3⟩
 have Ac:=(BQ.1 hg).1;rw[h.size]at Ac;rcases Nat.eq_zero_or_pos i with rfl|Bj
 ·obtain⟨a,ha,hs⟩:=h.main;rw[ha]at hg;cases hg;rcases J79 (sl:=sl) hQ hn Pn h ha AB hs with⟨e,hf⟩|⟨f',rfl,hj⟩|_
  ·exact .inl ⟨e,_,ha,hf⟩
  ·refine .inr (.inl ⟨_,_,_,hj,.inr (.inr ⟨rfl,rfl,?_⟩)⟩);unfold mu;refine Prod.Lex.left _ _ ?_;simp only[Ej];omega
  ·obtain⟨a',ZG,D6⟩:=h'.main;rw[ha]at ZG;cases ZG;rcases J79 (sl:=sl') hQ hn Pn h' ha AB D6 with⟨e,hf⟩|⟨f',rfl,hj⟩|hx
   ·exact .inl ⟨e,_,ha,hf⟩
   ·rcases J79 (sl:=sl) hQ hn Pn h ha AB hs with⟨e,hf⟩|⟨f',_,hj⟩|_
    ·exact .inl ⟨e,_,ha,hf⟩
    ·refine .inr (.inl ⟨_,_,_,hj,.inr (.inr ⟨rfl,rfl,?_⟩)⟩);unfold mu;refine Prod.Lex.left _ _ ?_;simp only[Ej];omega
    ·obtain⟨a2,vU,Bl⟩:=hj.main;rw[ha]at vU;cases vU;rcases J79 (sl:=sl') hQ hn Pn hj ha AB Bl with⟨e,_⟩|⟨_,e,_⟩|⟨BN,w',ops,tag',j',D',f2,d',q',h1,h2,h3⟩
     ·cases e
     ·cases e
     ·refine .inr (.inr ⟨BN,w',sl',ops,tag',j',D',f2,d',q',by rw[Ah];exact h1,h2,?_⟩);rcases h3 with h3|h3|⟨e1,e2,h3⟩
      ·exact .inl h3
      ·exact .inr (.inl h3)
      ·refine .inr (.inr ⟨e1,e2,?_⟩);have key:∀{x y z:Nat × Nat},Prod.Lex (· < ·) (· < ·) x y->y.1<z.1->Prod.Lex (· < ·) (· < ·) x z:=λ{x y z} h1 h2=>by
        obtain⟨x1,x2⟩:=x;obtain⟨y1,y2⟩:=y;obtain⟨z1,z2⟩:=z;cases h1 with
        |left _ _ h=>exact Prod.Lex.left _ _ (by simp only at h2 ⊢;omega)
        |right _ h=>exact Prod.Lex.left _ _ h2
       refine key h3 ?_;unfold mu;simp only[Ej];omega
   ·exact .inr (.inr (next hx))
 ·by_cases hm:i<=H.m
  ·exact .inr (.inr (next (Jrs Fj Fg h' Bj hm hg AB)))
  ·obtain⟨k,hk,rfl⟩:∃k,k<j/\i=H.m+1+k:=⟨i-(H.m+1),by omega,by omega⟩;obtain⟨b,hb,hw⟩:=h.ws k hk;obtain⟨b',BR,UM⟩:=h'.ws k hk;rw[hg]at hb;cases hb;rw[hg]at BR;cases BR;cases hw with
   |work y hr ho hX yD hR TN hd hs YB=>
    by_cases Af:∀w1,Cb true y.X y.w w1->SE H k { y with w:=w1 }
    ·obtain⟨D',h1,h2⟩:=h.done Fj Fg hQ hn Pn hk hg hr ho hX yD TN hd Af;exact .inr (.inl ⟨_,_,_,h1,h2⟩)
    ·refine .inr (.inr (next (Jpa hQ Fj Fg h' hk hr ho hX hR (TN.trans ⟨λ_ _=>rfl,Ad _,λe=>by(cases e),rfl⟩) hd Af (by rw[yD];exact hg))))
   |r0 hr f hd hs Wv=>
    cases UM with
    |r0 Fh f' TG D6 Jrt=>exact .inr (.inr (next (Jvo hQ Fj Fg h' hk hg Fh TG D6 Jrt)))
    |work y Fh=>rw[hr]at Fh;cases Fh
    |tail Fh h6=>rw[hd]at h6;simp at h6
   |tail hr h6 hs Wv=>
    cases UM with
    |tail Fh XL D6 Jrt=>exact .inr (.inr (next (Jpd hQ Fj Fg hn h' hk hg AB Fh XL D6 Jrt)))
    |work y Fh=>rw[hr]at Fh;cases Fh
    |r0 Fh f TG=>rw[TG]at h6;simp at h6
theorem Jmj(h:JInv H tag j D f0 d0 q gs w t):∃(N:Nat)(BN:Array JF)(w':JE)(sl':Option (Nat × Nat))(t':Trace)(D':Nat->CZ)(f':Nat)(q':Nat->Nat)(a:JF),
  runNT H.P N (crowd gs w sl) t=(.next (crowd BN w' sl'),t')/\JInv H .fin H.n D' f' 0 q' BN w' t'/\BN[0]?=some a/\∀w₁,RM H.ty H.Wg w' w₁->H.Fin a w₁:=by
 generalize hr:H.n-j=r
 induction r using Nat.strongRecOn generalizing tag j D f0 d0 q gs w sl t with
 |_ r ih1=>
 have oH:=h.Jrr;generalize hl:ranks j D=l at oH
 induction oH generalizing tag j D f0 d0 q gs w sl t with
 |intro l _ ih2=>
 generalize hμ:mu H tag j D f0 q=μ
 induction μ using(Prod.lex Nat.lt_wfRel Nat.lt_wfRel).wf.induction generalizing tag j D f0 d0 q gs w sl t with
 |_ μ ih3=>
 have go:∀{tag' j' D' f' d' q' BN w' t' sl'},JInv H tag' j' D' f' d' q' BN w' t'->Falls H (H.n-j') (ranks j' D') (mu H tag' j' D' f' q') (H.n-j) (ranks j D) (mu H tag j D f0 q) ->
   ∃(N:Nat)(Py:Array JF)(w2:JE)(Rz:Option (Nat × Nat))(t2:Trace)(D2:Nat->CZ)(f2:Nat)(q2:Nat->Nat)(a:JF),
    runNT H.P N (crowd BN w' sl') t'=(.next (crowd Py w2 Rz),t2)/\JInv H .fin H.n D2 f2 0 q2 Py w2 t2/\Py[0]?=some a/\∀w₁,RM H.ty H.Wg w2 w₁->H.Fin a w₁:=by
  intro tag' j' D' f' d' q' BN w' t' sl' h1 hf;rcases hf with hf|⟨e,hf⟩|⟨e,e2,hf⟩
  ·exact ih1 _ (by rw[<- hr];exact hf) h1 rfl
  ·exact ih2 _ (by rw[<- hl];exact hf) h1 (e.trans hr) rfl
  ·exact ih3 _ (by rw[<- hμ];exact hf) h1 (e.trans hr) (e2.trans hl) rfl
 rcases Jmi (sl:=sl) Fj Fg hQ hn Pn h with⟨rfl,a,ha,hF⟩|⟨tag',D',f',h1,hf⟩|⟨BN,w',sl',ops,tag',j',D',f',d',q',hs,h1,hf⟩
 ·have h0:=h;obtain⟨a',_,hs⟩:=h0.main;cases hs;exact⟨0,gs,w,sl,t,D,f0,q,a,rfl,h,ha,hF⟩
 ·exact go h1 hf
 ·obtain⟨N,Py,w2,Rz,t2,D2,f2,q2,a,BU,rest⟩:=go (sl':=sl') h1 hf;exact⟨N+1,Py,w2,Rz,t2,D2,f2,q2,a,by simp only[runNT,hs];exact BU,rest⟩
end
end
end
end Go.Sim
end
section
set_option linter.unusedSectionVars false
namespace Go.Sim
open Go.Conc Go.ConcN
open Go.ConcR (KK wgBlock WgAt stA smA rd wr mk Payload DC0)
section
variable[Payload]{H:Ph}{j:Nat}{D:Nat->CZ}{f0 d0:Nat}{q:Nat->Nat}{gs:Array JF}{w:JE}{t:Trace}
theorem J9z(h:V8 H j t)(hn:NoRelease (stA H.Wg) t){i k:Nat}(hk:k<j)(hg:t.g? i=some (H.m+1+k))(hc:t.counts i):∃q,t.g? q=some 0/\HappensBefore t i q:=by
 obtain⟨q,hq,xB,hh,AA⟩:=h;obtain⟨r,hr,hrq⟩:=AA k hk;have iT:HappensBefore t r q:=.single (.inr ⟨.marked hrq (.inr hr.act) hq (λk _ _=>hn k),hr.heard,hh⟩);have hle:i<=r:=Nat.le_of_not_lt λAc=>hr.after i Ac hg hc;refine⟨q,xB,?_⟩;rcases BG i r with Ac|Dp
 ·exact .trans (.single (.inl ⟨Ac,_,hg,hr.g⟩)) iT
 ·obtain rfl:i=r:=by omega
  exact iT
theorem Jmk{B:Nat}(hP:Past (ShJ H) B H.t0)(h:JInv H .fin j D f0 0 q gs w t):Past (ShJ H) w.heap.size t:=by
 have hT:=h.jt;have hA:=h.acq rfl;obtain⟨u,hu⟩:=hT.pre;have old:∀i,i<H.t0.size->t[i]?=H.t0[i]?:=λi hi=>by rw[hu,getElem?_append_old hi]
 refine⟨hT.ct.nr,λi a ha hm=>?_,λi g hg Aq hc=>?_,hT.deaf0,hT.low⟩
 ·rcases BG i H.t0.size with hi|hi
  ·have ZG:touchAt H.t0 i=some a:=by rw[hu,touchAt_old hi]at ha;exact ha
   exact(hP.known i a ZG hm).imp (λh=>by rw[hu];exact h.app u) id
  ·obtain⟨op,Au,hx⟩:=touch_of ha;obtain⟨hg,CO⟩:=hT.new i op a hi Au hx;rcases hg with hg|⟨k,hk,hg⟩
   ·have:=knows_own Au;rw[hg]at this;exact .inl this
   ·have hgi:t.g? i=some (H.m+1+k):=by simp[Trace.g?,Au,hg]
    by_cases hc:t.counts i
    ·obtain⟨p,hp,hb⟩:=J9z hA hT.Xx hk hgi hc;obtain⟨z,hz,hzg⟩:=FX.1 hp;exact .inl ⟨p,z,hz,hzg,.inr hb⟩
    ·have Nz:a.kind=.atomic:=Classical.byContradiction λhn=>hc ⟨a,ha,hm,.inl hn⟩;by_cases hs:ShJ H a.loc
     ·exact .inr ⟨hs,Nz⟩
     ·rw[(CO hs).1]at Nz;cases Nz
 ·rcases BG i H.t0.size with hi|hi
  ·obtain⟨p,hp,hb⟩:=hP.over i g (by rw[hu,g?_old hi]at hg;exact hg) Aq (by rw[hu]at hc;exact(counts_old hi).1 hc);have CO:p<H.t0.size:=by unfold Trace.g? at hp;obtain⟨z,hz,_⟩:=FX.1 hp;exact lt_size_of_getElem? hz
   exact⟨p,by rw[hu,g?_old CO];exact hp,by rw[hu];exact hb_app u hb⟩
  ·obtain⟨a,ha,_⟩:=id hc;obtain⟨op,Au,hx⟩:=touch_of ha;obtain⟨Bg,_⟩:=hT.new i op a hi Au hx;have eg:op.g=g:=by simpa[Trace.g?,Au]using hg
   rcases Bg with Bg|⟨k,hk,Bg⟩
   ·exact absurd (eg▸Bg) Aq
   ·exact J9z hA hT.Xx hk (by rw[hg,<- eg,Bg]) hc
theorem phase_end{B:Nat}(hP:Past (ShJ H) B H.t0)(hM:∀op∈H.t0,∀x,op.act.touch?=some x->x.loc.isMemory=true)(h:JInv H .fin j D f0 0 q gs w t) :
  ∃q',Cmp H.P (λb=>H.W b\/b=H.Wg) gs w t q'/\JW H j D w/\(∀i,i<j->Has H.C i (D i).v w/\H.Q i (D i).own (D i).X (D i).v w)/\∃st sm,WgAt H.ty H.Wg w st sm:=by
 obtain⟨st,sm,Ba,Ai⟩:=h.wg;obtain⟨hq,_,_⟩:=Ai.fin_inv trivial;have Eh:∀i,i<j->(D i).d.stage=1:=hq;have tl:∀i,i<j->∃g,gs[H.m+1+i]?=some g/\QuitsD H.P (D i).d.fuel (D i).d.deaf g/\H.Q i (D i).own (D i).X (D i).v w:=by
  intro i hi;obtain⟨g,hg,hw⟩:=h.ws i hi;have h1:=Eh i hi;cases hw with
  |work y _ _ _ _ _ _ hd=>rw[hd]at h1;cases h1
  |r0 _ f hd=>rw[hd]at h1;cases h1
  |tail _ _ hs hQ=>
   rw[h1]at hs;cases hs with
   |quit hs=>exact⟨g,hg,hs,hQ⟩
 refine⟨λi=>if i<=H.m then q i else(D (i-(H.m+1))).d.fuel,⟨⟨λi g hi hg=>?_,λk hk=>h.jt.above k (by rw[h.size]at hk;omega)⟩,Jmk hP h,h.jt.ct.quiet,λb hb=>?_,λop Au=>?_⟩,h.jw,λi hi=>?_,st,sm,Ba⟩
 ·have Ac:=(BQ.1 hg).1;rw[h.size]at Ac;show QuitsD H.P (if i<=H.m then q i else(D (i-(H.m+1))).d.fuel) (Deaf t i) g;by_cases hm:i<=H.m
  ·rw[if_pos hm];exact h.old i g hi hm hg
  ·rw[if_neg hm];obtain⟨k,hk,rfl⟩:∃k,k<j/\i=H.m+1+k:=⟨i-(H.m+1),by omega,by omega⟩;obtain⟨g',Bg,hQ,_⟩:=tl k hk;rw[hg]at Bg;cases Bg;rw[h.jt.deafW k hk,show H.m+1+k-(H.m+1)=k by omega];exact hQ
 ·rcases hb with hb|rfl
  ·exact h.jw.wl b hb
  ·exact h.jw.wg
 ·obtain⟨i,hi,rfl⟩:=Array.mem_iff_getElem.1 Au;have Dn:t[i]?=some t[i]:=BJ hi;refine⟨by have:=h.jt.ct.gs i _ Dn;rw[h.size];omega,λx hx=>?_⟩;rcases BG i H.t0.size with Ac|Dp
  ·obtain⟨u,hu⟩:=h.jt.pre;have e:H.t0[i]?=some t[i]:=by rw[<- Dn,hu,getElem?_append_old Ac]
   exact hM _ (IX e) x hx
  ·have:=(h.jt.new i _ x Dp Dn hx).2;by_cases hs:ShJ H x.loc
   ·obtain⟨a,ha,_⟩:=hs;rw[ha];rfl
   ·exact(this hs).2
 ·obtain⟨g,_,_,hQ⟩:=tl i hi;exact⟨h.jw.has i hi (by rw[Eh i hi];decide),hQ⟩
end
end Go.Sim
end
section
set_option linter.unusedSectionVars false
namespace Go.Sim
open Go.Conc Go.ConcN
open Go.ConcR (KK wgBlock WgAt stA smA rd wr mk Payload DC0)
section
variable[Payload]{H:Ph}{q:Nat->Nat}{gs:Array JF}{sl:Option (Nat × Nat)}{a:JF}
theorem Jru{t:Trace}{B:Nat}(h:∀op∈t,op.act.low B){i:Nat}{x:Touch}(hx:touchAt t i=some x){c:Addr}(hc:x.loc=.cell c):c.block<B:=by
 have:=J9u (t:=t) h (l:=.cell c) (B:=B);by_cases hb:c.block<B
 ·exact hb
 ·exact absurd hc (this hb i x hx)
theorem Jkd(hC:Cmp H.P H.W gs H.w0 H.t0 q)(BK:∀op∈H.t0,op.act.low H.Wg)(hm:gs.size=H.m+1)(h0:gs[0]?=some a)(hs:JSp H H.n a H.w0)(hn:0<H.n)(Ba:WgAt H.ty H.Wg H.w0 0 0)(pay:PayAt H.C H.n H.w0)
  (wg:H.Wg<H.w0.heap.size) (c:H.C<H.w0.heap.size) (cw:H.C≠H.Wg) (cW:¬H.W H.C) (wW:¬H.W H.Wg) (sh0:∀b,H.Sh0 b->b<H.w0.heap.size/\b≠H.Wg/\b≠H.C/\¬H.W b) :
  ∃f0 D,JInv H .al 0 D f0 0 q gs H.w0 H.t0:=by
 obtain⟨r,hr⟩:∃r,H.n=r+1:=⟨H.n-1,by omega⟩;rw[hr]at hs;obtain⟨f0,hs⟩:=hs;have e0:H.n-(r+1)=0:=by omega
 have MP:Ec H .al (H.n-(r+1)) f0 0 a H.w0:=.al (by omega) hs;rw[e0]at MP;have hP:=hC.past;have quiet:Quiet (ShJ H) H.t0:=by
  intro i op x hi hx ⟨c,hc,yB⟩;rcases yB with yB|yB
  ·exact hC.quiet i op x hi hx ⟨c,hc,yB⟩
  ·have:=Jru BK (i:=i) (by rw[touchAt_of hi];exact hx) hc;omega
 have perm:∀l,¬ShJ H l->Perm H.t0 0 l:=λl hl i x hx e=>by
  obtain⟨op,Au,hox⟩:=touch_of hx;rcases hP.known i x hx ((hC.tidy op (IX Au)).2 x hox)with h|⟨⟨c,h1,h2⟩,_⟩
  ·exact h
  ·exact absurd ⟨c,e▸h1,.inl h2⟩ hl
 refine⟨f0,λ_=>⟨λ_=>False,λ_=>False,JA,none,⟨1,0,0⟩⟩,Nat.zero_le _,hm,⟨a,h0,MP⟩,λi hi=>absurd hi (Nat.not_lt_zero _),λk g h1 _ hg=>hC.lv.old k g h1 hg,
  ⟨λ_ _=>rfl,pay,λi hi=>absurd hi (Nat.not_lt_zero _),λi hi=>absurd hi (Nat.not_lt_zero _),λi hi=>absurd hi (Nat.not_lt_zero _),λi _ hi=>absurd hi (Nat.not_lt_zero _),λi hi=>absurd hi (Nat.not_lt_zero _),λi hi=>absurd hi (Nat.not_lt_zero _),wg,c,cw,cW,wW,sh0,hC.low,rfl,rfl⟩,
  ⟨⟨quiet,λk _ _ l ⟨i,hi,_⟩=>absurd hi (Nat.not_lt_zero _),λk _ _ l ⟨i,hi,_⟩=>absurd hi (Nat.not_lt_zero _),λl hl _=>perm l hl,λl hl _=>PermW.of (perm l hl),hP.clean,λi op hi=>?_⟩,⟨#[],by simp⟩,hP.seen,λi op x hi Au=>?_,λi hi=>?_,hP.hears,λi hi=>absurd hi (Nat.not_lt_zero _),λk hk=>hC.lv.above k (by omega),λi hi=>absurd hi (Nat.not_lt_zero _)⟩,
  ⟨0,0,Ba,?_⟩,trivial,λe=>by cases e⟩
 ·have:=(hC.tidy op (IX hi)).1;omega
 ·have:=(BQ.1 Au).1;omega
 ·unfold Trace.act? at hi;obtain⟨op,Au,hact⟩:=FX.1 hi;have:=BK op (IX Au);rw[hact]at this;exact absurd this (Nat.lt_irrefl _)
 ·have:=Jv.opn (j:=0) (D:=λi=>((λ_=>(⟨λ_=>False,λ_=>False,JA,none,⟨1,0,0⟩⟩:CZ)) i).d) (tag:=.al) trivial (λi hi=>absurd hi (Nat.not_lt_zero _)) (λvs e=>by cases e);simpa[Vc,sumTo,Io]using this
structure Jua(H:Ph)(w:JE)(D:Nat->CZ):Prop where
 jw:JW H H.n D w
 res:∀i,i<H.n->Has H.C i (D i).v w/\H.Q i (D i).own (D i).X (D i).v w
 wg:∃st sm,WgAt H.ty H.Wg w st sm
theorem Jpf(hQ:∀i own X v w w',H.Q i own X v w->Cb true X w w'->H.Q i own X v w')(Fj:∀g w,H.Anch g w->g.status=.running)(Fg:∀g w,H.Fin g w->g.status=.running)(Ir:H.n<2147483648)
  (Pn:∀g w,H.Anch g w->∃m,Goes H.P true (RM H.ty H.Wg) DC0 (JW1 H.P H.ty H.Wg H.Fin H.Anch) m g w)
  (hC:Cmp H.P H.W gs H.w0 H.t0 q) (BK:∀op∈H.t0,op.act.low H.Wg) (hm:gs.size=H.m+1) (h0:gs[0]?=some a) (hs:JSp H H.n a H.w0) (hn:0<H.n) (Ba:WgAt H.ty H.Wg H.w0 0 0) (pay:PayAt H.C H.n H.w0)
  (wg:H.Wg<H.w0.heap.size) (c:H.C<H.w0.heap.size) (cw:H.C≠H.Wg) (cW:¬H.W H.C) (wW:¬H.W H.Wg) (sh0:∀b,H.Sh0 b->b<H.w0.heap.size/\b≠H.Wg/\b≠H.C/\¬H.W b) :
  ∃(N:Nat)(BN:Array JF)(w':JE)(sl':Option (Nat × Nat))(t':Trace)(q':Nat->Nat)(D:Nat->CZ)(a':JF),
   runNT H.P N (crowd gs H.w0 sl) H.t0=(.next (crowd BN w' sl'),t')/\BN[0]?=some a'/\H.Fin a' w'/\Cmp H.P (λb=>H.W b\/b=H.Wg) BN w' t' q'/\Jua H w' D:=by
 obtain⟨f0,D,hI⟩:=Jkd hC BK hm h0 hs hn Ba pay wg c cw cW wW sh0;obtain⟨N,BN,w',sl',t',D',f',q',a',hr,UD,ZG,hF⟩:=Jmj (sl:=sl) Fj Fg hQ Ir Pn hI;have hP:Past (ShJ H) H.w0.heap.size H.t0:=⟨hC.past.clean,λi x hx hm=>(hC.past.known i x hx hm).imp id λ⟨⟨c,h1,h2⟩,h3⟩=>⟨⟨c,h1,.inl h2⟩,h3⟩,hC.past.over,hC.past.hears,hC.past.seen⟩;obtain⟨q2,PW,hJ,KG,Rh⟩:=phase_end hP (λop Au=>(hC.tidy op Au).2) UD;exact⟨N,BN,w',sl',t',q2,D',a',hr,ZG,hF w' λx=>x,PW,⟨hJ,KG,Rh⟩⟩
end
end Go.Sim
end
