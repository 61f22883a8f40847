/- PROVED HERE: laws that the statement rests on (parts Tl). Conditions: none. -/
import Derived.OneCell
import Derived.Test.YtlcbehhbfglgaaaGreatE22
set_option linter.all false
section
set_option linter.unusedSectionVars false
namespace Go.Sim
open Go.Conc Go.ConcN
open Go.ConcR (KK wgBlock WgAt stA smA rd wr mk Payload DC0 Bk bk_of_mute ofEvent_loc_mark ofEvent_cell g_of_ofEvents ofEvent_mk)
section
variable {j:Nat} {D:Nat→WD} {tag tag':JTag} {st sm:Int}
theorem JMode.open_inv (hm:JMode j D tag st sm) (h:jopen tag):OpenSt j D∧st=((Vc j D+jpend tag:Nat):Int)*KK∧sm=0∧∀ vs,tag=.w2 vs→Vc j D≤vs∧1≤vs:=by
 cases hm with
 | opn _ h2 h3=>exact ⟨h2,rfl,rfl,h3⟩
 | reg h1 _ _=>cases tag<;>first|exact h.elim|exact h1.elim
 | last L h1 _ _ _=>cases tag<;>first|exact h.elim|exact h1.elim
 | sema h1 _=>rcases h1 with rfl|rfl<;>exact h.elim
 | fin h1 _=>cases tag<;>first|exact h.elim|exact h1.elim
theorem JMode.reopen (hm:JMode j D tag st sm) (h:jopen tag) (h':jopen tag') (hp:jpend tag'=jpend tag) (hw:∀ vs,tag'=.w2 vs→Vc j D≤vs∧1≤vs):JMode j D tag' st sm:=by
 obtain ⟨h2,rfl,rfl,_⟩:=hm.open_inv h
 rw [← hp];exact .opn h' h2 hw
theorem JMode.fin_inv (hm:JMode j D tag st sm) (h:jfin tag):AllQuit j D∧st=0∧sm=0:=by
 cases hm with
 | opn h1 _ _=>cases tag<;>first|exact h.elim|exact h1.elim
 | reg h1 _ _=>cases tag<;>first|exact h.elim|exact h1.elim
 | last L h1 _ _ _=>cases tag<;>first|exact h.elim|exact h1.elim
 | sema h1 _=>rcases h1 with rfl|rfl<;>exact h.elim
 | fin _ h2=>exact ⟨h2,rfl,rfl⟩
theorem JMode.w3_inv (hm:JMode j D tag st sm) (h:jw3 tag) (h':jw3 tag') (hb:tag'=.blk→sm=0):JMode j D tag' st sm:=by
 cases hm with
 | opn h1 _ _=>cases tag<;>first|exact h.elim|exact h1.elim
 | reg _ h2 h3=>exact .reg h' h2 h3
 | last L _ h2 h3 h4=>exact .last L h' h2 h3 h4
 | sema _ h2=>
  refine .sema ?_ h2
  cases tag'<;>first|exact .inl rfl|exact .inr rfl|exact h'.elim|exact absurd (hb rfl) (by decide)
 | fin h1 _=>cases tag<;>first|exact h.elim|exact h1.elim
theorem JMode.w3_sm (hm:JMode j D tag st sm) (h:jw3 tag):sm=0∨(st=0∧sm=1∧AllQuit j D):=by
 cases hm with
 | opn h1 _ _=>exact .inl rfl
 | reg _ h2 h3=>exact .inl rfl
 | last L _ h2 h3 h4=>exact .inl rfl
 | sema _ h2=>exact .inr ⟨rfl,rfl,h2⟩
 | fin h1 _=>exact .inl rfl
end
section
variable [Payload] {H:Ph} {tag tag':JTag} {j:Nat} {D:Nat→WDat} {f0 d0 f':Nat} {q:Nat→Nat} {gs:Array Goroutine} {w w':World} {sl:Option (Nat × Nat)} {t:Trace} {a a':Goroutine} {es:Array Event}
theorem bk1 {e:Event} {es:List Event} (h:e∈es.toArray) (hb:∀ e∈es,Bk H.Wg e∨e=mk (.read (smA H.Wg))∨e=mk (.write (smA H.Wg))∨e=mk (.acquire (stA H.Wg))):Bk H.Wg e∨e=mk (.read (smA H.Wg))∨e=mk (.write (smA H.Wg))∨e=mk (.acquire (stA H.Wg)):=hb e (by simpa using h)
section
variable (hQ:∀ i own X v w w',H.Q i own X v w→Rely true X w w'→H.Q i own X v w')
include hQ
theorem spawn_step {s:Nat} (h:JInv H (.go s) j D f0 d0 q gs w t) (ha:gs[0]?=some a) {r:Nat} (hr:r<H.n) (hj:j=H.n-(r+1)) (hd0:d0=0) (hG:JGo H j s (JSp H r) a w):JNext H (.go s) j D f0 q 0 gs w sl t:=by
 have hJ:=h.jw
 obtain ⟨hs1,hs2,hs3,hs4,hs5,hs6⟩:=h.sb
 obtain ⟨a',child,hsp,hcr,hco,hR,har,hnext⟩:=hG.2 (fun b hb=>hJ.keep b (.inl hb)) hs1 hJ.os
 obtain ⟨st,sm,hwg,hmode⟩:=h.wg
 obtain ⟨ho,rfl,rfl,_⟩:=hmode.open_inv trivial
 have hrun:=runT_crowd_spawn (P:=H.P) (sl:=sl) (i:=0) ha hsp
 rw [h.size] at hrun
 have hlt0:0<gs.size:=(Array.getElem?_eq_some_iff.1 ha).1
 have hslt:s<w.heap.size:=(Array.getElem?_eq_some_iff.1 hs1).1
 let D':WDat:=⟨fun _=>False,fun b=>H.Sh0 b∨b=s,undef,some ⟨fun _=>False,fun b=>H.Sh0 b∨b=s,child,w⟩,⟨7,0,0⟩⟩
 have other:∀ k,k<j→upd D j D' k=D k:=fun k hk=>upd_ne D D' (by omega)
 have hjw:JW H (j+1) (upd D j D') w:=by
  refine ⟨hJ.keep,hJ.pay,fun k hk hs=>?_,fun k hk b hb=>?_,fun k hk b hb=>?_,fun a b ha hb hab c hc=>?_,fun k hk b hb=>?_,fun k hk b hb=>?_,hJ.wg,hJ.c,hJ.cw,hJ.cW,hJ.wW,hJ.sh0,hJ.wl,hJ.os,hJ.out⟩
  ·rcases Nat.lt_or_ge k j with h1|h1
   ·rw [other k h1] at hs ⊢;exact hJ.has k h1 hs
   ·obtain rfl:k=j:=by omega
    rw [upd_same] at hs;exact absurd hs (by show ¬ (7≤6);omega)
  ·rcases Nat.lt_or_ge k j with h1|h1
   ·rw [other k h1] at hb;exact hJ.low k h1 b hb
   ·obtain rfl:k=j:=by omega
    rw [upd_same] at hb
    rcases hb with hb|rfl
    ·exact (hJ.sh0 b hb).1
    ·exact hslt
  ·rcases Nat.lt_or_ge k j with h1|h1
   ·rw [other k h1] at hb ⊢;exact hJ.ownX k h1 b hb
   ·obtain rfl:k=j:=by omega
    rw [upd_same] at hb;exact hb.elim
  ·rcases Nat.lt_or_ge a j with h1|h1
   ·rw [other a h1] at hc
    rcases Nat.lt_or_ge b j with h2|h2
    ·rw [other b h2];exact hJ.disj a b h1 h2 hab c hc
    ·obtain rfl:b=j:=by omega
     rw [upd_same]
     rintro (hx|rfl)
     ·exact hJ.own0 a h1 c hc hx
     ·exact hs3 a h1 (hJ.ownX a h1 c hc)
   ·obtain rfl:a=j:=by omega
    rw [upd_same] at hc;exact hc.elim
  ·rcases Nat.lt_or_ge k j with h1|h1
   ·rw [other k h1] at hb;exact hJ.own0 k h1 b hb
   ·obtain rfl:k=j:=by omega
    rw [upd_same] at hb;exact hb.elim
  ·rcases Nat.lt_or_ge k j with h1|h1
   ·rw [other k h1] at hb;exact hJ.avoid k h1 b hb
   ·obtain rfl:k=j:=by omega
    rw [upd_same] at hb
    rcases hb with hb|rfl
    ·exact (hJ.sh0 b hb).2
    ·exact ⟨hs4,hs5,hs6⟩
 have own1:∀ k,k≤H.m+j→∀ l,OwnJ H (j+1) (upd D j D') k l↔OwnJ H j D k l:=by
  intro k hk l
  constructor
  ·rintro ⟨i,hi,rfl,h1⟩
   have h2:i<j:=by omega
   rw [other i h2] at h1
   exact ⟨i,h2,rfl,h1⟩
  ·rintro ⟨i,hi,rfl,h1⟩
   exact ⟨i,by omega,rfl,by rw [other i hi];exact h1⟩
 have rd1:∀ k,k≤H.m+j→∀ l,RdJ H (j+1) (upd D j D') k l↔RdJ H j D k l:=by
  intro k hk l
  constructor
  ·rintro ⟨i,hi,rfl,h1⟩
   have h2:i<j:=by omega
   rw [other i h2] at h1
   exact ⟨i,h2,rfl,h1⟩
  ·rintro ⟨i,hi,rfl,h1⟩
   exact ⟨i,by omega,rfl,by rw [other i hi];exact h1⟩
 let x:MemOp:={ g:=0,fn:=a.frame.fn,pos:=a.frame.place,act:=.go (H.m+j+1) }
 let y:MemOp:={ g:=H.m+j+1,fn:=child.frame.fn,pos:=a.frame.place,act:=.start }
 have eops:((MemOp.ofEvents 0 a.frame.fn a.frame.place #[]).push { g:=0,fn:=a.frame.fn,pos:=a.frame.place,act:=.go (H.m+1+j) }).push { g:=H.m+1+j,fn:=child.frame.fn,pos:=a.frame.place,act:=.start }=#[x,y]:=by
  rw [ofEvents_eq,show H.m+1+j=H.m+j+1 by omega];simp [x,y]
 rw [eops] at hrun
 have hmem:∀ op∈#[x,y],op=x∨op=y:=by simp
 have hnt:∀ op∈#[x,y],op.act.touch?=none:=fun op hop=>by rcases hmem op hop with rfl|rfl<;>rfl
 have hct:CT (ShJ H) (OwnJ H (j+1) (upd D j D')) (RdJ H (j+1) (upd D j D')) (t++#[x,y]) (H.m+j+1):=by
  have c0:CT (ShJ H) (OwnJ H (j+1) (upd D j D')) (RdJ H (j+1) (upd D j D')) t (H.m+j):=
   Sim.CT.widen h.jt.ct (fun k _ kj l=>(own1 k kj l).2) (fun k _ kj l hl=>.inl ((own1 k kj l).1 hl)) (fun k _ kj l=>rd1 k kj l)
  exact c0.fork hjw.apart ⟨rfl,rfl⟩ ⟨rfl,rfl⟩ (by rw [h.jt.deaf0];exact hd0)
 have hst:∀ g,Deaf (t++#[x,y]) g=Deaf t g:=fun g=>Deaf_still t g #[x,y] fun op hop=>by rcases hmem op hop with rfl|rfl<;>(refine ⟨fun e=>?_,fun e=>?_⟩<;>first|(simp [x] at e;done)|(simp [y] at e;done))
 have hjt:JT H (j+1) (upd D j D') 0 w (t++#[x,y]):=by
  refine ⟨hct,?_,?_,?_,?_,?_,?_,?_,?_⟩
  ·obtain ⟨u,hu⟩:=h.jt.pre
   exact ⟨u++#[x,y],by rw [hu,Array.append_assoc]⟩
  ·refine seen_app h.jt.low fun op hop=>?_
   rcases hmem op hop with rfl|rfl<;>trivial
  ·intro k op z hk hop hz
   rcases getElem?_append_cases hop with ⟨_,h1⟩|⟨_,h1⟩
   ·obtain ⟨h2,h3⟩:=h.jt.new k op z hk h1 hz
    exact ⟨h2.imp id fun ⟨i',h4,h5⟩=>⟨i',by omega,h5⟩,h3⟩
   ·rw [hnt op h1] at hz;cases hz
  ·refine h.jt.nrel.app fun op hop=>?_
   rcases hmem op hop with rfl|rfl<;>(intro e;first|(simp [x] at e;done)|(simp [y] at e;done))
  ·rw [hst,h.jt.deaf0,hd0]
  ·intro k hk
   rw [hst]
   rcases Nat.lt_or_ge k j with h1|h1
   ·rw [other k h1];exact h.jt.deafW k h1
   ·obtain rfl:k=j:=by omega
    rw [upd_same];exact h.jt.above _ (by omega)
  ·intro k hk
   rw [hst];exact h.jt.above k (by omega)
  ·intro k hk hs
   rcases Nat.lt_or_ge k j with h1|h1
   ·rw [other k h1] at hs
    obtain ⟨r,hr⟩:=h.jt.rel k h1 hs
    refine ⟨r,hr.appNot fun op hop=>?_⟩
    rcases hmem op hop with rfl|rfl
    ·show (0:Nat)≠_;omega
    ·show H.m+j+1≠_;omega
   ·obtain rfl:k=j:=by omega
    rw [upd_same] at hs;exact absurd hs (by show ¬ (7≤6);omega)
 have eV:Vc (j+1) (upd (fun k=>(D k).d) j D'.d)=Vc j (fun k=>(D k).d)+1:=by
  simp only [Vc,sumTo,upd_same]
  rw [sumTo_upd_out (fun k=>(D k).d) _ cnt (Nat.le_refl _)];rfl
 have ho':OpenSt (j+1) (upd (fun k=>(D k).d) j D'.d):=fun i hi=>by
  by_cases e:i=j
  ·subst e;rw [upd_same];exact .inl rfl
  ·rw [upd_ne _ _ e];exact ho i (by omega)
 have hsit:∃ tag' f',JSit H tag' (j+1) f' 0 a' w∧jopen tag'∧jpend tag'=0∧(∀ vs,tag'≠.w2 vs)∧(∀ D w,SBlk H tag' (j+1) D w)∧tag'≠.fin:=by
  cases r with
  | zero=>
   obtain ⟨k,hk⟩:=hnext
   have e:j+1=H.n:=by omega
   rw [e]
   exact ⟨.kd,k,.kd hk,trivial,rfl,by simp,fun _ _=>trivial,by simp⟩
  | succ r=>
   obtain ⟨k,hk⟩:=hnext
   have e:j+1=H.n-(r+1):=by omega
   rw [e]
   exact ⟨.al,k,.al (by omega) hk,trivial,rfl,by simp,fun _ _=>trivial,by simp⟩
 obtain ⟨tag',f',hs',ht1,ht2,ht3,ht4,ht5⟩:=hsit
 refine ⟨_,w,_,tag',j+1,upd D j D',f',0,q,hrun,⟨by omega,by simp [h.size];omega,⟨a',?_,hs'⟩,fun k hk=>?_,fun k b hk1 hk2 hb=>?_,hjw,hjt,⟨_,_,hwg,?_⟩,?_,fun e=>absurd e ht5⟩,.inl (by omega)⟩
 ·rw [Array.getElem?_push_lt (by simp [hlt0]),← Array.getElem?_eq_getElem]
  simp [hlt0]
 ·rcases Nat.lt_or_ge k j with h1|h1
  ·obtain ⟨b,hb,hwb⟩:=h.ws k h1
   refine ⟨b,?_,by rw [other k h1];exact hwb⟩
   have hlt:H.m+1+k<gs.size:=(Array.getElem?_eq_some_iff.1 hb).1
   rw [Array.getElem?_push_lt (by simpa using hlt),← Array.getElem?_eq_getElem,Array.getElem?_setIfInBounds_ne (by omega)]
   exact hb
  ·obtain rfl:k=j:=by omega
   refine ⟨child,?_,by rw [upd_same];exact .work _ rfl rfl rfl rfl hR ⟨fun _ _=>rfl,Nat.le_refl _,fun _=>rfl,rfl⟩ rfl hcr hco⟩
   rw [show H.m+1+k=(gs.setIfInBounds 0 a').size by simp [h.size],Array.getElem?_push_size]
 ·have hlt:k<gs.size:=by have:=h.size;omega
  rw [Array.getElem?_push_lt (by simpa using hlt),← Array.getElem?_eq_getElem,Array.getElem?_setIfInBounds_ne (by omega)] at hb
  rw [hst]
  exact h.old k b hk1 hk2 hb
 ·have hm:JMode (j+1) (fun k=>(upd D j D' k).d) tag' (((Vc (j+1) (fun k=>(upd D j D' k).d)+jpend tag':Nat):Int)*KK) 0:=.opn ht1 (by rw [d_upd];exact ho') (fun vs e=>absurd e (ht3 vs))
  have e:(Vc (j+1) (fun k=>(upd D j D' k).d)+jpend tag':Nat)=Vc j (fun k=>(D k).d)+jpend (.go s):=by rw [d_upd,eV,ht2];rfl
  rw [e] at hm
  exact hm
 ·exact ht4 _ _
theorem main_step (hn:H.n<2147483648) (hAn:∀ g w,H.Anch g w→∃ m,Goes H.P true (RM H.ty H.Wg) DC0 (JW1 H.P H.ty H.Wg H.Fin H.Anch) m g w)
  (h:JInv H tag j D f0 d0 q gs w t) (ha:gs[0]?=some a) (hrun:a.status=.running) (hcs:JSit H tag j f0 d0 a w) :
  (tag=.fin∧∀ w₁,RM H.ty H.Wg w w₁→H.Fin a w₁)∨(∃ f',tag=.anch∧JInv H .w1 j D f' d0 q gs w t)∨JNext H tag j D f0 q 0 gs w sl t:=by
 have hJ:=h.jw
 obtain ⟨st,sm,hwg,hmode⟩:=h.wg
 have hVj:=Vc_le j (fun k=>(D k).d)
 cases hcs with
 | @al r f _ _ hr hG=>
  rcases Goes.cases hG with hstop|⟨m',rfl,hstep⟩
  ·obtain ⟨_,a',hgo,k,hk⟩:=hstop w id
   have old:∀ b,b<w.heap.size→(w.heap.push (.cells #[.int .i64 0] H.tI))[b]?=w.heap[b]?:=fun b hb=>by rw [Array.getElem?_push_lt hb,← Array.getElem?_eq_getElem]
   have hz:w.heap.size≤(w.heap.push (.cells #[.int .i64 0] H.tI)).size:=by simp
   refine .inr (.inr (mainFrame hQ h ha hgo hz (fun k hk=>⟨⟨fun b hb=>old b (hJ.low k hk b hb),hz,fun e=>by (cases e),rfl⟩,RW.of_same (old _ hJ.wg) (old _ hJ.c)⟩) ?_ (by simp) (by simp) (by simp) (by simp) (tag':=.st w.heap.size) (.st hr hk) (hwg.of_block (old _ hJ.wg)) (hmode.reopen trivial trivial rfl (by simp)) ?_ (by simp) (.inl (by simp only [jphi];omega))))
   ·obtain ⟨cs,h1,h2⟩:=hJ.pay
    exact ⟨fun b hb=>(old b (hb.elim (fun z=>(hJ.sh0 b z).1) (hJ.wl b))).trans (hJ.keep b hb),⟨cs,(old _ hJ.c).trans h1,h2⟩,fun k hk hs=>(cell_of_block (old _ hJ.c) k).trans (hJ.has k hk hs),fun k hk b hb=>Nat.lt_of_lt_of_le (hJ.low k hk b hb) hz,hJ.ownX,hJ.disj,hJ.own0,hJ.avoid,
     Nat.lt_of_lt_of_le hJ.wg hz,Nat.lt_of_lt_of_le hJ.c hz,hJ.cw,hJ.cW,hJ.wW,fun b hb=>⟨Nat.lt_of_lt_of_le (hJ.sh0 b hb).1 hz,(hJ.sh0 b hb).2⟩,fun b hb=>Nat.lt_of_lt_of_le (hJ.wl b hb) hz,hJ.os,hJ.out⟩
   ·refine ⟨by simp,fun hx=>?_,fun i hi hx=>?_,fun e=>?_,fun e=>?_,fun hx=>?_⟩
    ·exact absurd (hJ.sh0 _ hx).1 (by omega)
    ·exact absurd (hJ.low i hi _ hx) (by omega)
    ·exact absurd hJ.wg (by omega)
    ·exact absurd hJ.c (by omega)
    ·exact absurd (hJ.wl _ hx) (by omega)
  ·obtain ⟨a',w',es,hgo,⟨rfl,rfl⟩,hg'⟩:=hstep w id
   exact .inr (.inr (idle0 hQ h ha hgo (.al hr hg') (by omega)))
 | @st r s f _ _ hr hG=>
  rcases Goes.cases hG with hstop|⟨m',rfl,hstep⟩
  ·obtain ⟨_,hx⟩:=hstop w id
   obtain ⟨hs1,hs2,hs3,hs4,hs5,hs6⟩:=h.sb
   obtain ⟨a',hgo,k,hk⟩:=hx hs1
   have hslt:s<w.heap.size:=(Array.getElem?_eq_some_iff.1 hs1).1
   have keep:∀ b,b≠s→(w.setCell ⟨s,0,none⟩ (.int .i64 ((H.n-(r+1):Nat):Int))).heap[b]?=w.heap[b]?:=fun b hb=>(aside_setCell w ⟨s,0,none⟩ _).block b hb
   have hz:(w.setCell ⟨s,0,none⟩ (.int .i64 ((H.n-(r+1):Nat):Int))).heap.size=w.heap.size:=(aside_setCell w ⟨s,0,none⟩ _).size
   have hb:∀ e∈(#[⟨.cell ⟨s,0,none⟩,true,false⟩]:Array Event),e=⟨.cell ⟨s,0,none⟩,true,false⟩:=by simp
   have bl:∀ l:Loc,∀ b,blkOf l=some b→l=.cell ⟨s,0,none⟩→b=s:=fun l b h1 h2=>by rw [h2] at h1;simp [blkOf] at h1;exact h1.symm
   refine .inr (.inr (mainFrame hQ h ha hgo (Nat.le_of_eq hz.symm) (fun k hk=>⟨⟨fun b hb=>keep b (fun e=>hs3 k hk (e▸hb)),Nat.le_of_eq hz.symm,fun e=>by (cases e),rfl⟩,RW.of_same (keep _ (Ne.symm hs4)) (keep _ (Ne.symm hs5))⟩) ?_ (fun e he=>?_) (fun e he=>?_) (fun e he x hx hn=>?_) (fun e he=>?_) (tag':=.kds s) (.kds hr hk)
    (hwg.of_block (keep _ (Ne.symm hs4))) (hmode.reopen trivial trivial rfl (by simp)) ?_ (by simp) (.inl (by simp only [jphi];omega))))
   ·obtain ⟨cs,h1,h2⟩:=hJ.pay
    have eC:=keep _ (Ne.symm hs5)
    exact ⟨fun b hb=>(keep b (fun e=>hb.elim (fun z=>hs2 (e▸z)) fun z=>hs6 (e▸z))).trans (hJ.keep b hb),⟨cs,eC.trans h1,h2⟩,fun k hk hs=>(cell_of_block eC k).trans (hJ.has k hk hs),fun k hk b hb=>by rw [hz];exact hJ.low k hk b hb,hJ.ownX,hJ.disj,hJ.own0,hJ.avoid,
     by rw [hz];exact hJ.wg,by rw [hz];exact hJ.c,hJ.cw,hJ.cW,hJ.wW,fun b hb=>by rw [hz];exact hJ.sh0 b hb,fun b hb=>by rw [hz];exact hJ.wl b hb,hJ.os,hJ.out⟩
   ·rw [hb e he]
    refine ⟨rfl,fun x hx=>?_⟩
    simp only [ofEvent_cell,MemAct.touch?,Option.some.injEq] at hx
    subst hx
    refine .inr ⟨?_,?_,?_⟩
    ·rintro ⟨a,ha,hw⟩
     simp only [Loc.cell.injEq] at ha
     subst ha
     exact hw.elim hs6 hs4
    ·rintro k _ _ ⟨i,hi,_,h1⟩
     rcases h1 with ⟨b,h1,h2⟩|h1
     ·have:=bl _ b h1 rfl;subst this
      exact hs3 i hi (hJ.ownX i hi _ h2)
     ·simp only [Loc.cell.injEq,Addr.mk.injEq] at h1
      exact hs5 h1.1
    ·rintro _ k _ _ ⟨i,hi,_,b,h1,h2,_⟩
     have:=bl _ b h1 rfl;subst this
     exact hs3 i hi h2
   ·rw [hb e he];show s<_;rw [hz];exact hslt
   ·rw [hb e he] at hx
    simp only [ofEvent_cell,MemAct.touch?,Option.some.injEq] at hx
    subst hx;exact ⟨rfl,rfl⟩
   ·rw [hb e he];simp [MemAct.ofEvent]
   ·exact ⟨one_setCell hs1,hs2,hs3,hs4,hs5,hs6⟩
  ·obtain ⟨a',w',es,hgo,⟨rfl,rfl⟩,hg'⟩:=hstep w id
   exact .inr (.inr (idle0 hQ h ha hgo (.st hr hg') (by omega)))
 | @kds r s f _ _ hr hG=>
  rcases Goes.cases hG with hstop|⟨m',rfl,hstep⟩
  ·obtain ⟨_,a',hgo,k,hk⟩:=hstop w id
   exact .inr (.inr (book0 hQ h ha hgo (.refl H.Wg w) hwg (fun e he=>bk1 he (by simp [Bk,mk])) (tag':=.a1 s) (.a1 hr hk) (hmode.reopen trivial trivial rfl (by simp)) id (by simp) (.inl (by simp only [jphi];omega))))
  ·obtain ⟨a',w',es,hgo,⟨rfl,rfl⟩,hg'⟩:=hstep w id
   exact .inr (.inr (idle0 hQ h ha hgo (.kds hr hg') (by omega)))
 | @a1 r s f _ _ hr hG=>
  rcases Goes.cases hG with hstop|⟨m',rfl,hstep⟩
  ·obtain ⟨_,hall⟩:=hstop w id
   obtain ⟨ho,rfl,rfl,_⟩:=hmode.open_inv trivial
   obtain ⟨a',hgo,h0,h1⟩:=hall (Vc (H.n-(r+1)) fun k=>(D k).d) (by omega) (by simpa [jpend] using hwg)
   have bks:∀ e∈#[rd (stA H.Wg),wr (stA H.Wg)],Bk H.Wg e∨e=mk (.read (smA H.Wg))∨e=mk (.write (smA H.Wg))∨e=mk (.acquire (stA H.Wg)):=fun e he=>.inl (by simp at he;rcases he with rfl|rfl<;>exact bk_cell _ _ rfl)
   have hm:∀ tag',jopen tag'→jpend tag'=1→(∀ vs,tag'≠.w2 vs)→JMode (H.n-(r+1)) (fun k=>(D k).d) tag' ((((Vc (H.n-(r+1)) fun k=>(D k).d):Nat):Int)*KK+1*KK) 0:=fun tag' h1 h2 h3=>by
    have e:((((Vc (H.n-(r+1)) fun k=>(D k).d):Nat):Int)*KK+1*KK)=(((Vc (H.n-(r+1)) fun k=>(D k).d)+jpend tag':Nat):Int)*KK:=by
     rw [h2,Int.natCast_add,Int.add_mul];rfl
    rw [e]
    exact .opn h1 ho (fun vs e=>absurd e (h3 vs))
   have e2:((((Vc (H.n-(r+1)) fun k=>(D k).d):Nat):Int)+1)*KK=((((Vc (H.n-(r+1)) fun k=>(D k).d):Nat):Int)*KK+1*KK):=Int.add_mul _ _ _
   by_cases hv:(Vc (H.n-(r+1)) fun k=>(D k).d)=0
   ·obtain ⟨k,hk⟩:=h0 hv
    exact .inr (.inr (book0 hQ h ha hgo (aside_setCell w (stA H.Wg) _) (hwg.setSt _) bks (tag':=.rd s) (.rd hr hk) (by rw [e2];exact hm _ trivial rfl (by simp)) id (by simp) (.inl (by simp only [jphi];omega))))
   ·obtain ⟨k,hk⟩:=h1 hv
    exact .inr (.inr (book0 hQ h ha hgo (aside_setCell w (stA H.Wg) _) (hwg.setSt _) bks (tag':=.kes s) (.kes hr hk) (by rw [e2];exact hm _ trivial rfl (by simp)) id (by simp) (.inl (by simp only [jphi];omega))))
  ·obtain ⟨a',w',es,hgo,⟨rfl,rfl⟩,hg'⟩:=hstep w id
   exact .inr (.inr (idle0 hQ h ha hgo (.a1 hr hg') (by omega)))
 | @rd r s f _ _ hr hG=>
  rcases Goes.cases hG with hstop|⟨m',rfl,hstep⟩
  ·obtain ⟨_,a',hgo,k,hk⟩:=hstop w id
   exact .inr (.inr (book0 hQ h ha hgo (.refl H.Wg w) hwg (fun e he=>bk1 he (by simp)) (tag':=.kes s) (.kes hr hk) (hmode.reopen trivial trivial rfl (by simp)) id (by simp) (.inl (by simp only [jphi];omega))))
  ·obtain ⟨a',w',es,hgo,⟨rfl,rfl⟩,hg'⟩:=hstep w id
   exact .inr (.inr (idle0 hQ h ha hgo (.rd hr hg') (by omega)))
 | @kes r s f _ _ hr hG=>
  rcases Goes.cases hG with hstop|⟨m',rfl,hstep⟩
  ·obtain ⟨_,a',hgo,k,hk⟩:=hstop w id
   exact .inr (.inr (book0 hQ h ha hgo (.refl H.Wg w) hwg (fun e he=>bk1 he (by simp [Bk,mk])) (tag':=.go s) (.go hr hk) (hmode.reopen trivial trivial rfl (by simp)) id (by simp) (.inl (by simp only [jphi];omega))))
  ·obtain ⟨a',w',es,hgo,⟨rfl,rfl⟩,hg'⟩:=hstep w id
   exact .inr (.inr (idle0 hQ h ha hgo (.kes hr hg') (by omega)))
 | @go r s f _ _ hr hG=>
  rcases Goes.cases hG with hstop|⟨m',rfl,hstep⟩
  ·exact .inr (.inr (spawn_step hQ h ha hr rfl rfl (hstop w id)))
  ·obtain ⟨a',w',es,hgo,⟨rfl,rfl⟩,hg'⟩:=hstep w id
   exact .inr (.inr (idle0 hQ h ha hgo (.go hr hg') (by omega)))
 | kd hG=>
  rcases Goes.cases hG with hstop|⟨m',rfl,hstep⟩
  ·obtain ⟨_,a',hgo,k,hk⟩:=hstop w id
   exact .inr (.inr (book0 hQ h ha hgo (.refl H.Wg w) hwg (fun e he=>bk1 he (by simp [Bk,mk])) (tag':=.anch) (.anch hk) (hmode.reopen trivial trivial rfl (by simp)) (fun _=>trivial) (by simp) (.inl (by simp only [jphi];omega))))
  ·obtain ⟨a',w',es,hgo,⟨rfl,rfl⟩,hg'⟩:=hstep w id
   exact .inr (.inr (idle0 hQ h ha hgo (.kd hg') (by omega)))
 | anch hG=>
  rcases Goes.cases hG with hstop|⟨m',rfl,hstep⟩
  ·obtain ⟨m,hm⟩:=hAn a w (hstop w id)
   exact .inr (.inl ⟨m,rfl,⟨h.jn,h.size,⟨a,ha,.w1 hm⟩,h.ws,h.old,h.jw,h.jt,⟨st,sm,hwg,hmode.reopen trivial trivial rfl (by simp)⟩,trivial,by simp⟩⟩)
  ·obtain ⟨a',w',es,hgo,⟨rfl,rfl⟩,hg'⟩:=hstep w id
   exact .inr (.inr (idle0 hQ h ha hgo (.anch hg') (by omega)))
 | w1 hG=>
  rcases Goes.cases hG with hstop|⟨m',rfl,hstep⟩
  ·obtain ⟨_,hall⟩:=hstop w id
   obtain ⟨ho,rfl,rfl,_⟩:=hmode.open_inv trivial
   obtain ⟨a',hgo,h0,hne⟩:=hall (Vc H.n fun k=>(D k).d) (by omega) (by simpa [jpend] using hwg)
   by_cases hv:(Vc H.n fun k=>(D k).d)=0
   ·obtain ⟨k,hk⟩:=h0 hv
    refine .inr (.inr (book0 hQ h ha hgo (.refl H.Wg w) hwg (fun e he=>bk1 he (by simp [Bk,rd,stA])) (tag':=.ke) (.ke hk) ?_ (fun _=>trivial) (by simp) (.inl (by simp only [jphi];omega))))
    have e:(((Vc H.n fun k=>(D k).d)+jpend .w1:Nat):Int)*KK=0:=by rw [hv];simp [jpend]
    rw [e]
    exact .fin trivial (allQuit_of ho hv)
   ·obtain ⟨k,hk⟩:=hne hv
    exact .inr (.inr (book0 hQ h ha hgo (.refl H.Wg w) hwg (fun e he=>bk1 he (by simp [Bk,rd,stA])) (tag':=.w2 (Vc H.n fun k=>(D k).d)) (.w2 hk) (hmode.reopen trivial trivial rfl (fun vs e=>by cases e;omega)) (fun _=>trivial) (by simp) (.inl (by simp only [jphi];omega))))
  ·obtain ⟨a',w',es,hgo,⟨rfl,rfl⟩,hg'⟩:=hstep w id
   exact .inr (.inr (idle0 hQ h ha hgo (.w1 hg') (by omega)))
 | @w2 vs f _ _ hG=>
  rcases Goes.cases hG with hstop|⟨m',rfl,hstep⟩
  ·obtain ⟨_,hall⟩:=hstop w id
   obtain ⟨ho,rfl,rfl,hvs⟩:=hmode.open_inv trivial
   obtain ⟨hle,h1⟩:=hvs vs rfl
   obtain ⟨hhit,hmiss⟩:=hall (Vc H.n fun k=>(D k).d) (by omega) (by simpa [jpend] using hwg)
   by_cases hv:(Vc H.n fun k=>(D k).d)=vs
   ·obtain ⟨a',hgo,k,hk⟩:=hhit hv
    exact .inr (.inr (book0 hQ h ha hgo (aside_setCell w (stA H.Wg) _) (hwg.setSt _) (fun e he=>.inl (by simp at he;rcases he with rfl|rfl<;>exact bk_cell _ _ rfl)) (tag':=.wr) (.wr hk) (.reg trivial ho (by omega)) (fun _=>trivial) (by simp) (.inl (by simp only [jphi];omega))))
   ·obtain ⟨a',hgo,k,hk⟩:=hmiss hv
    exact .inr (.inr (book0 hQ h ha hgo (.refl H.Wg w) hwg (fun e he=>bk1 he (by simp [Bk,rd,stA])) (tag':=.anch) (.anch hk) (hmode.reopen trivial trivial rfl (by simp)) (fun _=>trivial) (by simp) (.inl (by simp only [jphi];omega))))
  ·obtain ⟨a',w',es,hgo,⟨rfl,rfl⟩,hg'⟩:=hstep w id
   exact .inr (.inr (idle0 hQ h ha hgo (.w2 hg') (by omega)))
 | wr hG=>
  rcases Goes.cases hG with hstop|⟨m',rfl,hstep⟩
  ·obtain ⟨_,a',hgo,k,hk⟩:=hstop w id
   exact .inr (.inr (book0 hQ h ha hgo (.refl H.Wg w) hwg (fun e he=>bk1 he (by simp)) (tag':=.w3) (.w3 hk) (hmode.w3_inv trivial trivial (by simp)) (fun _=>trivial) (by simp) (.inl (by simp only [jphi];omega))))
  ·obtain ⟨a',w',es,hgo,⟨rfl,rfl⟩,hg'⟩:=hstep w id
   exact .inr (.inr (idle0 hQ h ha hgo (.wr hg') (by omega)))
 | w3 hG=>
  rcases Goes.cases hG with hstop|⟨m',rfl,hstep⟩
  ·obtain ⟨_,_,hblk,htake⟩:=hstop w id
   rcases hmode.w3_sm trivial with rfl|⟨rfl,rfl,hq⟩
   ·exact .inr (.inr (book0 hQ h ha (hblk ⟨_,hwg⟩) (.refl H.Wg w) hwg (by simp) (tag':=.blk) (.blk hstop) (hmode.w3_inv trivial trivial (fun _=>rfl)) (fun _=>trivial) (by simp) (.inr ⟨rfl,by omega⟩)))
   ·obtain ⟨a',hgo,k,hk⟩:=htake hwg
    exact .inr (.inr (book0 hQ h ha hgo (aside_setCell w (smA H.Wg) _) (hwg.setSm 0) (fun e he=>.inl (bk_semJ e he)) (tag':=.w4) (.w4 hk) (.fin trivial hq) (fun _=>trivial) (by simp) (.inl (by simp only [jphi];omega))))
  ·obtain ⟨a',w',es,hgo,⟨rfl,rfl⟩,hg'⟩:=hstep w id
   exact .inr (.inr (idle0 hQ h ha hgo (.w3 hg') (by omega)))
 | blk h=>simp at hrun
 | w4 hG=>
  rcases Goes.cases hG with hstop|⟨m',rfl,hstep⟩
  ·obtain ⟨_,hx⟩:=hstop w id
   obtain ⟨hq,rfl,rfl⟩:=hmode.fin_inv trivial
   obtain ⟨a',hgo,k,hk⟩:=hx hwg
   exact .inr (.inr (book0 hQ h ha hgo (.refl H.Wg w) hwg (fun e he=>bk1 he (by simp [Bk,rd,stA])) (tag':=.ke) (.ke hk) (.fin trivial hq) (fun _=>trivial) (by simp) (.inl (by simp only [jphi];omega))))
  ·obtain ⟨a',w',es,hgo,⟨rfl,rfl⟩,hg'⟩:=hstep w id
   exact .inr (.inr (idle0 hQ h ha hgo (.w4 hg') (by omega)))
 | ke hG=>
  rcases Goes.cases hG with hstop|⟨m',rfl,hstep⟩
  ·obtain ⟨_,a',hgo,k,hk⟩:=hstop w id
   obtain ⟨hq,rfl,rfl⟩:=hmode.fin_inv trivial
   exact .inr (.inr (book0 hQ h ha hgo (.refl H.Wg w) hwg (fun e he=>bk1 he (by simp [Bk,mk])) (tag':=.acq) (.acq hk) (.fin trivial hq) (fun _=>trivial) (by simp) (.inl (by simp only [jphi];omega))))
  ·obtain ⟨a',w',es,hgo,⟨rfl,rfl⟩,hg'⟩:=hstep w id
   exact .inr (.inr (idle0 hQ h ha hgo (.ke hg') (by omega)))
 | acq hG=>
  rcases Goes.cases hG with hstop|⟨m',rfl,hstep⟩
  ·obtain ⟨_,a',hgo,k,hk⟩:=hstop w id
   obtain ⟨hq,rfl,rfl⟩:=hmode.fin_inv trivial
   refine .inr (.inr (book0 hQ h ha hgo (.refl H.Wg w) hwg (fun e he=>bk1 he (by simp)) (tag':=.fin) (.fin hk) (.fin trivial hq) (fun _=>trivial) (fun _=>?_) (.inl (by simp only [jphi];omega))))
   have e1:MemOp.ofEvents 0 a.frame.fn a.frame.place #[mk (.acquire (stA H.Wg))]=#[{ g:=0,fn:=a.frame.fn,pos:=a.frame.place,act:=.mark (.acquire (stA H.Wg)) }]:=by rw [ofEvents_eq];simp [ofEvent_mk]
   have hy:(t++#[({ g:=0,fn:=a.frame.fn,pos:=a.frame.place,act:=.mark (.acquire (stA H.Wg)) }:MemOp)])[t.size]?=some { g:=0,fn:=a.frame.fn,pos:=a.frame.place,act:=.mark (.acquire (stA H.Wg)) }:=by simp
   refine ⟨t.size,by rw [e1,act?_of hy],by rw [e1];simp [Trace.g?],by rw [e1];exact ⟨0,by simp [Trace.g?],by rw [deaf_old (Nat.le_refl _)];exact h.jt.deaf0⟩,fun i hi=>?_⟩
   obtain ⟨r,hr⟩:=h.jt.rel i hi (by have:=hq i hi;simp only at this;rw [this];omega)
   exact ⟨r,hr.appOther g_of_ofEvents (by omega),lt_of_act? hr.act⟩
  ·obtain ⟨a',w',es,hgo,⟨rfl,rfl⟩,hg'⟩:=hstep w id
   exact .inr (.inr (idle0 hQ h ha hgo (.acq hg') (by omega)))
 | fin hG=>
  rcases Goes.cases hG with hstop|⟨m',rfl,hstep⟩
  ·exact .inl ⟨rfl,hstop⟩
  ·obtain ⟨a',w',es,hgo,⟨rfl,rfl⟩,hg'⟩:=hstep w id
   exact .inr (.inr (idle0 hQ h ha hgo (.fin hg') (by omega)))
end
end
end Go.Sim
end
