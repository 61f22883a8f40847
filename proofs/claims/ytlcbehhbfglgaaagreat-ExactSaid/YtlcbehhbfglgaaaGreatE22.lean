/- PROVED HERE: laws that the statement rests on (parts Ti, Tj, Tk). Conditions: none. -/
import Derived.Conc.CrowdStepW
import Derived.Conc.CrowdStepC
import Derived.Test.YtlcbehhbfglgaaaGreatE21
set_option linter.all false
section
set_option linter.unusedSectionVars false
namespace Go.Sim
open Go.Conc Go.ConcN
open Go.ConcR (KK wgBlock WgAt stA smA rd wr mk Payload DC0 Bk bk_of_mute ofEvent_loc_mark ofEvent_cell deafBehind_cons deafBehind_one)
section
variable {j:Nat} {D D':Nat→WD} {tag:JTag} {st sm:Int}
theorem JMode.congr (h:∀ a,a<j→(D' a).stage=(D a).stage) (hm:JMode j D tag st sm):JMode j D' tag st sm:=by
 have hv:Vc j D'=Vc j D:=sumTo_congr fun a ha=>by simp only [cnt,h a ha]
 cases hm with
 | opn h1 h2 h3=>rw [← hv];exact .opn h1 (fun a ha=>by rw [h a ha];exact h2 a ha) (fun vs e=>by rw [hv];exact h3 vs e)
 | reg h1 h2 h3=>rw [← hv];exact .reg h1 (fun a ha=>by rw [h a ha];exact h2 a ha) (by rw [hv];exact h3)
 | last L h1 h2 h3 h4=>rw [← h L h2];exact .last L h1 h2 (by rw [h L h2];exact h3) (fun a ha e=>by rw [h a ha];exact h4 a ha e)
 | sema h1 h2=>exact .sema h1 fun a ha=>by rw [h a ha];exact h2 a ha
 | fin h1 h2=>exact .fin h1 fun a ha=>by rw [h a ha];exact h2 a ha
theorem JMode.same {i:Nat} (hm:JMode j D tag st sm) (m' dd':Nat):JMode j (upd D i ⟨(D i).stage,m',dd'⟩) tag st sm:=
 hm.congr fun a _=>by
  by_cases e:a=i
  ·subst e;rw [upd_same]
  ·rw [upd_ne D _ e]
theorem JMode.counted {i:Nat} (hm:JMode j D tag st sm) (hi:i<j) (h5:5≤(D i).stage) {s':Nat} (hs:s'=6∨s'=5) (m' dd':Nat):JMode j (upd D i ⟨s',m',dd'⟩) tag st sm:=by
 have hv:Vc j (upd D i ⟨s',m',dd'⟩)=Vc j D:=by
  have:=Vc_upd D (⟨s',m',dd'⟩:WD) hi
  have c1:cnt (D i)=1:=by simp [cnt,h5]
  have c2:cnt (⟨s',m',dd'⟩:WD)=1:=by rcases hs with rfl|rfl<;>simp [cnt]
  omega
 have ho:OpenSt j D→OpenSt j (upd D i ⟨s',m',dd'⟩):=fun h a ha=>by
  by_cases e:a=i
  ·subst e;rw [upd_same];rcases hs with rfl|rfl<;>simp
  ·rw [upd_ne D _ e];exact h a ha
 cases hm with
 | opn h1 h2 h3=>rw [← hv];exact .opn h1 (ho h2) (fun vs e=>by rw [hv];exact h3 vs e)
 | reg h1 h2 h3=>rw [← hv];exact .reg h1 (ho h2) (by rw [hv];exact h3)
 | last L h1 h2 h3 h4=>
  by_cases e:i=L
  ·subst e;omega
  ·have:=h4 i hi e;omega
 | sema _ h2=>have:=h2 i hi;omega
 | fin h1 h2=>have:=h2 i hi;omega
theorem JMode.not_fin {i:Nat} (hm:JMode j D tag st sm) (hi:i<j) (h:(D i).stage≠1):tag≠.fin:=by
 rintro rfl
 cases hm with
 | opn h1 _ _=>exact h1
 | reg h1 _ _=>exact h1
 | last L h1 _ _ _=>exact h1
 | sema h1 _=>rcases h1 with h1|h1<;>cases h1
 | fin _ h2=>exact h (h2 i hi)
theorem JMode.isLast {i:Nat} (hm:JMode j D tag st sm) (hi:i<j) (h:(D i).stage=4∨(D i).stage=3∨(D i).stage=2) :
  jw3 tag∧(∀ a,a<j→a≠i→(D a).stage=1)∧st=(if (D i).stage=2 then 0 else 1)∧sm=0:=by
 cases hm with
 | opn _ h2 _=>have:=h2 i hi;omega
 | reg _ h2 _=>have:=h2 i hi;omega
 | last L h1 h2 h3 h4=>
  by_cases e:i=L
  ·subst e;exact ⟨h1,h4,rfl,rfl⟩
  ·have:=h4 i hi e;omega
 | sema _ h2=>have:=h2 i hi;omega
 | fin _ h2=>have:=h2 i hi;omega
theorem jphi_mono (n:Nat) {v v':Nat} (h:v'≤v) (tag:JTag):jphi n v' tag≤jphi n v tag:=by
 cases tag<;>simp only [jphi]<;>omega
theorem jphi_retag (n v:Nat) {tag tag':JTag} (e:tag'=tag∨(tag=.blk∧tag'=.w3)):jphi n v tag'=jphi n v tag:=by
 rcases e with rfl|⟨rfl,rfl⟩<;>rfl
end
section
variable [Payload] {H:Ph} {tag:JTag} {j:Nat} {D:Nat→WDat} {f0 d0:Nat} {q:Nat→Nat} {gs:Array Goroutine} {w:World} {sl:Option (Nat × Nat)} {t:Trace}
theorem JSit.bound {f d:Nat} {a:Goroutine} (h:JSit H tag j f d a w):j+jpend tag≤H.n:=by
 cases h<;>simp only [jpend]<;>(try simp)<;>omega
theorem falls_book {i:Nat} (hi:i<j) {d':WD} (hr:(D i).rank=none∨True) (h:(d'.stage<(D i).d.stage∧cnt d'≤cnt (D i).d)∨(d'.stage=(D i).d.stage∧d'.fuel+1=(D i).d.fuel)) {tag':JTag} {f':Nat} (hf:f'≤f0+1)
  (ht:tag'=tag∨(tag=.blk∧tag'=.w3)):Falls H (H.n-j) (ranks j (upd D i { D i with d:=d' })) (mu H tag' j (upd D i { D i with d:=d' }) f' q) (H.n-j) (ranks j D) (mu H tag j D f0 q):=by
 refine .inr (.inr ⟨rfl,ranks_same hi rfl,?_⟩)
 unfold mu
 rw [d_upd,jphi_retag _ _ ht]
 have e1:=sumTo_upd (fun k=>(D k).d) d' cnt hi
 have e2:=sumTo_upd (fun k=>(D k).d) d' WD.stage hi
 have e3:=sumTo_upd (fun k=>(D k).d) d' WD.fuel hi
 simp only [Vc,Ssum,Fsum] at *
 rcases h with ⟨h1,h2⟩|⟨h1,h2⟩
 ·refine Prod.Lex.left _ _ ?_
  have:=jphi_mono H.n (v':=sumTo j fun a=>cnt (upd (fun k=>(D k).d) i d' a)) (v:=sumTo j fun a=>cnt (D a).d) (by omega) tag
  omega
 ·have ec:cnt d'=cnt (D i).d:=by simp only [cnt,h1]
  have ev:(sumTo j fun a=>cnt (upd (fun k=>(D k).d) i d' a))=sumTo j fun a=>cnt (D a).d:=by omega
  have es':(sumTo j fun a=>(upd (fun k=>(D k).d) i d' a).stage)=sumTo j fun a=>(D a).d.stage:=by omega
  rw [ev,es']
  refine Prod.Lex.right _ ?_
  omega
theorem JW.turn (h:JW H j D w) {i:Nat} (hi:i<j) {d':WD} {w':World} (hz:w'.heap.size=w.heap.size) (hb:∀ b,b≠H.Wg→b≠H.C→w'.heap[b]?=w.heap[b]?) (hpay:PayAt H.C H.n w')
  (hcell:∀ k,k≠i→w'.cell? ⟨H.C,k,none⟩=w.cell? ⟨H.C,k,none⟩) (hhas:d'.stage≤6→Has H.C i (D i).v w') (os:w'.os=w.os) (out:w'.output=w.output):JW H j (upd D i { D i with d:=d' }) w':=by
 have sm:∀ k,(upd D i { D i with d:=d' } k).own=(D k).own∧(upd D i { D i with d:=d' } k).X=(D k).X∧(upd D i { D i with d:=d' } k).v=(D k).v:=fun k=>by
  by_cases e:k=i
  ·subst e;rw [upd_same];exact ⟨rfl,rfl,rfl⟩
  ·rw [upd_ne D _ e];exact ⟨rfl,rfl,rfl⟩
 refine ⟨fun b hb'=>(hb b (hb'.elim (fun z=>(h.sh0 b z).2.1) fun z e=>h.wW (e▸z)) (hb'.elim (fun z=>(h.sh0 b z).2.2.1) fun z e=>h.cW (e▸z))).trans (h.keep b hb'),hpay,fun k hk hs=>?_,fun k hk b hb'=>?_,fun k hk b hb'=>?_,fun a b ha hb' hab c hc=>?_,fun k hk b hb'=>?_,fun k hk b hb'=>?_,
  by rw [hz];exact h.wg,by rw [hz];exact h.c,h.cw,h.cW,h.wW,fun b hb'=>?_,fun b hb'=>by rw [hz];exact h.wl b hb',os.trans h.os,out.trans h.out⟩
 ·rw [(sm k).2.2]
  by_cases e:k=i
  ·subst e;rw [upd_same] at hs;exact hhas hs
  ·rw [upd_ne D _ e] at hs
   exact (hcell k e).trans (h.has k hk hs)
 ·rw [(sm k).2.1] at hb';rw [hz];exact h.low k hk b hb'
 ·rw [(sm k).1] at hb';rw [(sm k).2.1];exact h.ownX k hk b hb'
 ·rw [(sm a).1] at hc;rw [(sm b).2.1];exact h.disj a b ha hb' hab c hc
 ·rw [(sm k).1] at hb';exact h.own0 k hk b hb'
 ·rw [(sm k).2.1] at hb';exact h.avoid k hk b hb'
 ·rw [hz];exact h.sh0 b hb'
theorem okW_bk {Own Rd:Nat→Loc→Prop} {k:Nat} {e:Event} (h:Bk H.Wg e) (fn:FuncId) (pos:String):OkW (ShJ H) Own Rd k { g:=k,fn,pos,act:=.ofEvent e }:=by
 refine ⟨rfl,fun x hx=>?_⟩
 rcases h with h1|h1|⟨a,wr,rfl,ha⟩
 ·simp only [ofEvent_loc_mark h1] at hx;cases hx
 ·simp only [ofEvent_loc_mark h1] at hx;cases hx
 ·simp only [ofEvent_cell,MemAct.touch?,Option.some.injEq] at hx
  subst hx
  exact .inl ⟨⟨a,rfl,.inr ha⟩,by simp,by simp⟩
theorem low_bk {B:Nat} (hB:H.Wg<B) {e:Event} (h:Bk H.Wg e):(MemAct.ofEvent e).low B:=by
 rcases h with h1|h1|⟨a,wr,rfl,ha⟩
 ·rw [ofEvent_loc_mark h1];trivial
 ·rw [ofEvent_loc_mark h1];trivial
 ·rw [ofEvent_cell];show a.block<B;omega
theorem pl_bk {e:Event} (h:Bk H.Wg e) {x:Touch} (hx:(MemAct.ofEvent e).touch?=some x):ShJ H x.loc:=by
 rcases h with h1|h1|⟨a,wr,rfl,ha⟩
 ·simp only [ofEvent_loc_mark h1] at hx;cases hx
 ·simp only [ofEvent_loc_mark h1] at hx;cases hx
 ·simp only [ofEvent_cell,MemAct.touch?,Option.some.injEq] at hx
  subst hx
  exact ⟨a,rfl,.inr ha⟩
theorem rel_bk {e:Event} (h:Bk H.Wg e):MemAct.ofEvent e≠.mark (.release (stA H.Wg)):=by
 rcases h with h1|h1|⟨a,wr,rfl,ha⟩
 ·rw [ofEvent_loc_mark h1];simp
 ·rw [ofEvent_loc_mark h1];simp
 ·rw [ofEvent_cell];simp
section
variable (hQ:∀ i own X v w w',H.Q i own X v w→Rely true X w w'→H.Q i own X v w') (hAr:∀ g w,H.Anch g w→g.status=.running) (hFr:∀ g w,H.Fin g w→g.status=.running)
include hQ hAr hFr
theorem bookW (h:JInv H tag j D f0 d0 q gs w t) {i:Nat} (hi:i<j) {g g':Goroutine} {w':World} {es:Array Event} {d':WD} {st' sm':Int} (hg:gs[H.m+1+i]?=some g) (hgo:stepG H.P false g w=.go g' w' es)
  (hrank:(D i).rank=none) (hQi:H.Q i (D i).own (D i).X (D i).v w) (hAs:Aside H.Wg w w') (hwg:WgAt H.ty H.Wg w' st' sm') (hbk:∀ e∈es,Bk H.Wg e)
  (hd:∀ jx e,es[jx]?=some e→(MemAct.ofEvent e).touch?=none∨0<deafBehind (D i).d.deaf (es.extract 0 jx)) (h6:(D i).d.stage≤6) (h6':d'.stage≤6)
  (hs':WSit H.P H.ty H.Wg H.C H.n NoRd NoRd 0 (i+1) (D i).v d'.stage d'.fuel d'.deaf g' w') (hdd:deafBehind (D i).d.deaf es=d'.deaf)
  (hmode:∀ tag',(tag'=tag∨(tag=.blk∧tag'=.w3))→(mayWake H.P g=true→g'.status=.running→tag'≠.blk)→JMode j (upd (fun k=>(D k).d) i d') tag' st' sm')
  (hlt:(d'.stage<(D i).d.stage∧cnt d'≤cnt (D i).d)∨(d'.stage=(D i).d.stage∧d'.fuel+1=(D i).d.fuel)):JNext H tag j D f0 q (H.m+1+i) gs w sl t:=by
 have hJ:=h.jw
 have hdk:Deaf t (H.m+1+i)=(D i).d.deaf:=h.jt.deafW i hi
 have eC:w'.heap[H.C]?=w.heap[H.C]?:=hAs.block H.C hJ.cw
 have hX:∀ k,k<j→∀ b,(D k).X b→w'.heap[b]?=w.heap[b]?:=fun k hk b hb=>hAs.block b (hJ.avoid k hk b hb).1
 have rel:∀ k,k<j→Rely true (D k).X w w':=fun k hk=>⟨fun b hb=>hX k hk b hb,Nat.le_of_eq hAs.size.symm,fun e=>by (cases e),hAs.os⟩
 have rw0:∀ k,RW H.ty H.Wg H.C H.n 0 k w w':=fun k=>RW.of_wg hAs ⟨_,_,hwg⟩ hJ.cw
 have hlive:RM H.ty H.Wg w w':=fun _=>⟨_,_,hwg⟩
 have relB:∀ r,RelBy (stA H.Wg) t (H.m+1+i) r→RelBy (stA H.Wg) (t++MemOp.ofEvents (H.m+1+i) g.frame.fn g.frame.place es) (H.m+1+i) r:=fun r hr=>hr.book hdk _ _ hbk hd
 refine workerFrame (D':={ D i with d:=d' }) hQ hAr hFr h hi hg hgo (Nat.le_of_eq hAs.size.symm) (fun k hk _=>⟨rel k hk,rw0 k⟩) (.tail hrank h6' hs' (hQ _ _ _ _ _ _ hQi (rel i hi)))
  (hJ.turn hi hAs.size (fun b h1 _=>hAs.block b h1) ((rw0 0).pay hJ.pay) (fun k _=>cell_of_block eC k) (fun _=>(cell_of_block eC i).trans (hJ.has i hi h6)) hAs.os hAs.output)
  (fun b hb=>hb) (fun b hb=>.inl hb) (fun b=>Iff.rfl) (fun b hb=>.inl hb) (fun e he=>okW_bk (hbk e he) _ _) (fun e he=>low_bk (by rw [hAs.size];exact hJ.wg) (hbk e he)) (fun e he x hx hn=>absurd (pl_bk (hbk e he) hx) hn)
  (fun e he=>rel_bk (hbk e he)) hdd (fun _=>let ⟨r,hr⟩:=h.jt.rel i hi h6;⟨r,relB r hr⟩) (fun _ r hr=>relB r hr) hlive hwg (fun tag' h1 h2=>by rw [d_upd];exact hmode tag' h1 h2)
  (fun s _ h2 _ _=>hAs.block s h2) (fun tag' f' hf ht=>falls_book hi (.inr trivial) hlt hf ht)
end
end
end Go.Sim
end
section
set_option linter.unusedSectionVars false
namespace Go.Sim
open Go.Conc Go.ConcN
open Go.ConcR (KK wgBlock WgAt stA smA rd wr mk Payload DC0 Bk bk_of_mute ofEvent_loc_mark ofEvent_cell deafBehind_cons deafBehind_one)
theorem bk_semJ {Wg:Nat}:∀ e∈semEvents (smA Wg),Bk Wg e:=by
 intro e he
 simp [semEvents] at he
 rcases he with rfl|rfl|rfl|rfl
 ·exact .inl rfl
 ·exact bk_cell _ _ rfl
 ·exact bk_cell _ _ rfl
 ·exact .inr (.inl rfl)
section
variable [Payload] {H:Ph} {tag:JTag} {j:Nat} {D:Nat→WDat} {f0 d0:Nat} {q:Nat→Nat} {gs:Array Goroutine} {w:World} {sl:Option (Nat × Nat)} {t:Trace}
section
variable (hQ:∀ i own X v w w',H.Q i own X v w→Rely true X w w'→H.Q i own X v w') (hAr:∀ g w,H.Anch g w→g.status=.running) (hFr:∀ g w,H.Fin g w→g.status=.running)
include hQ hAr hFr
theorem r0_step (h:JInv H tag j D f0 d0 q gs w t) {i:Nat} (hi:i<j) {g:Goroutine} {f:Nat} (hg:gs[H.m+1+i]?=some g) (hrank:(D i).rank=none) (hd:(D i).d=⟨7,f,0⟩)
  (hs:Goes H.P false (RW H.ty H.Wg H.C H.n 0 (i+1-1)) (DT H (i+1)) (AtR0 H.P H.ty H.Wg H.C H.n 0 (i+1) (D i).v) f g w) (hQi:H.Q i (D i).own (D i).X (D i).v w):JNext H tag j D f0 q (H.m+1+i) gs w sl t:=by
 have hJ:=h.jw
 have hdk:Deaf t (H.m+1+i)=0:=by rw [h.jt.deafW i hi,hd]
 obtain ⟨st,sm,hwg,hmode⟩:=h.wg
 have hmode1:JMode j (fun k=>(D k).d) tag st sm:=hmode
 rcases Goes.cases hs with hstop|⟨f',rfl,hstep⟩
 ·
  obtain ⟨_,hhas,g',hgo,m₂,hk⟩:=hstop w (RW.refl w)
  have rw0:∀ k,RW H.ty H.Wg H.C H.n 0 k w w:=fun k=>RW.refl w
  have tc:∀ e∈#[mk (.releaseMerge (stA H.Wg))],e=mk (.releaseMerge (stA H.Wg)):=by simp
  refine workerFrame (D':={ D i with d:=⟨6,m₂,0⟩ }) hQ hAr hFr h hi hg hgo (Nat.le_refl _) (fun k hk _=>⟨⟨fun _ _=>rfl,Nat.le_refl _,fun _=>rfl,rfl⟩,rw0 k⟩) (.tail hrank (by show 6≤6;omega) (.k1 hk) hQi)
   (hJ.turn hi rfl (fun _ _ _=>rfl) hJ.pay (fun _ _=>rfl) (fun _=>by simpa using hhas) rfl rfl) (fun b hb=>hb) (fun b hb=>.inl hb) (fun b=>Iff.rfl) (fun b hb=>.inl hb)
   (fun e he=>?_) (fun e he=>?_) (fun e he x hx=>?_) (fun e he=>?_) (by rw [hd];rfl) (fun _=>⟨t.size,RelBy.new hdk _ _⟩) (fun ef=>absurd ef (hmode1.not_fin hi (by show (D i).d.stage≠1;rw [hd];simp))) id hwg
   (fun tag' ht _=>by rw [d_upd];exact (hmode1.counted hi (by show 5≤(D i).d.stage;rw [hd];simp) (.inl rfl) _ _).retag ht) (fun _ _ _ _ _=>rfl) (fun tag' f' hf ht=>falls_book hi (.inr trivial) (.inl ⟨by rw [hd];simp,by rw [hd];simp [cnt]⟩) hf ht)
  ·rw [tc e he];exact ⟨rfl,fun x hx=>by simp [mk,MemAct.ofEvent,MemAct.touch?] at hx⟩
  ·rw [tc e he];exact hJ.wg
  ·rw [tc e he] at hx;simp [mk,MemAct.ofEvent,MemAct.touch?] at hx
  ·rw [tc e he];simp [mk,MemAct.ofEvent]
 ·
  obtain ⟨g',w',es,hgo,⟨hac,hev⟩,hg'⟩:=hstep w (RW.refl w)
  simp only [Nat.add_sub_cancel] at hac
  have eW:w'.heap[H.Wg]?=w.heap[H.Wg]?:=hac.block H.Wg (Ne.symm hJ.cw)
  have rel:∀ k,k<j→Rely true (D k).X w w':=fun k hk=>⟨fun b hb=>hac.block b (hJ.avoid k hk b hb).2.1,Nat.le_of_eq hac.size.symm,fun e=>by (cases e),hac.os⟩
  have evc:∀ e∈es,e=⟨.cell ⟨H.C,i,none⟩,true,false⟩:=hev
  have still:∀ e∈es,e.loc≠.mark .disable∧e.loc≠.mark .enable:=fun e he=>by
   rw [evc e he];simp
  refine workerFrame (D':={ D i with d:=⟨7,f',0⟩ }) hQ hAr hFr h hi hg hgo (Nat.le_of_eq hac.size.symm) (fun k hk hki=>⟨rel k hk,RW.of_cell hac hki hJ.cw⟩) (.r0 hrank f' rfl hg' (hQ _ _ _ _ _ _ hQi (rel i hi)))
   (hJ.turn hi hac.size (fun b _ h1=>hac.block b h1) (hac.pay hJ.pay) (fun k hk=>hac.cells k hk) (fun h6=>absurd h6 (by show ¬ (7≤6);omega)) hac.os hac.output) (fun b hb=>hb) (fun b hb=>.inl hb) (fun b=>Iff.rfl) (fun b hb=>.inl hb)
   (fun e he=>?_) (fun e he=>?_) (fun e he x hx hn=>?_) (fun e he=>?_) (by rw [hd];exact ConcN.deafBehind_idle still 0) (fun h6=>absurd h6 (by show ¬ (7≤6);omega)) (fun ef=>absurd ef (hmode1.not_fin hi (by show (D i).d.stage≠1;rw [hd];simp)))
   (fun hl=>let ⟨st,sm,x⟩:=hl;⟨st,sm,x.of_block eW⟩) (hwg.of_block eW) (fun tag' ht _=>by
    rw [d_upd]
    refine JMode.retag ?_ ht
    have:=hmode1.same (i:=i) f' 0
    simp only [hd] at this
    exact this) (fun s _ _ h3 _=>hac.block s h3) (fun tag' f'' hf ht=>falls_book hi (.inr trivial) (.inr ⟨by rw [hd],by rw [hd]⟩) hf ht)
  ·rw [evc e he]
   refine ⟨rfl,fun x hx=>?_⟩
   simp only [ofEvent_cell,MemAct.touch?,Option.some.injEq] at hx
   subst hx
   exact .inr (.inl ⟨i,hi,rfl,.inr rfl⟩)
  ·rw [evc e he]
   show H.C<w'.heap.size
   rw [hac.size];exact hJ.c
  ·rw [evc e he] at hx
   simp only [ofEvent_cell,MemAct.touch?,Option.some.injEq] at hx
   subst hx;exact ⟨rfl,rfl⟩
  ·rw [evc e he];simp [MemAct.ofEvent]
theorem tail_step (hn:H.n<2147483648) (h:JInv H tag j D f0 d0 q gs w t) {i:Nat} (hi:i<j) {g:Goroutine} (hg:gs[H.m+1+i]?=some g) (hrun:g.status=.running) (hrank:(D i).rank=none) (h6:(D i).d.stage≤6)
  (hs:WSit H.P H.ty H.Wg H.C H.n NoRd NoRd 0 (i+1) (D i).v (D i).d.stage (D i).d.fuel (D i).d.deaf g w) (hQi:H.Q i (D i).own (D i).X (D i).v w):JNext H tag j D f0 q (H.m+1+i) gs w sl t:=by
 obtain ⟨st,sm,hwg,hmode⟩:=h.wg
 obtain ⟨a0,ha0,hsit0⟩:=h.main
 have hb:=hsit0.bound
 have hVj:=Vc_le j (fun k=>(D k).d)
 generalize hE:(fun k=>(D k).d)=E at hmode hVj
 have hEi:E i=(D i).d:=by rw [← hE]
 have bookG:∀ {g':Goroutine} {w':World} {es:Array Event} {d':WD} {st' sm':Int},stepG H.P false g w=.go g' w' es→Aside H.Wg w w'→WgAt H.ty H.Wg w' st' sm'→(∀ e∈es,Bk H.Wg e) →
   (∀ jx e,es[jx]?=some e→(MemAct.ofEvent e).touch?=none∨0<deafBehind (D i).d.deaf (es.extract 0 jx))→WSit H.P H.ty H.Wg H.C H.n NoRd NoRd 0 (i+1) (D i).v d'.stage d'.fuel d'.deaf g' w'→deafBehind (D i).d.deaf es=d'.deaf→d'.stage≤6 →
   (∀ tag',(tag'=tag∨(tag=.blk∧tag'=.w3))→(mayWake H.P g=true→g'.status=.running→tag'≠.blk)→JMode j (upd E i d') tag' st' sm')→((d'.stage<(D i).d.stage∧cnt d'≤cnt (D i).d)∨(d'.stage=(D i).d.stage∧d'.fuel+1=(D i).d.fuel)) →
   JNext H tag j D f0 q (H.m+1+i) gs w sl t:=fun hgo hAs hwg' hbk hd hs' hdd h6' hmode' hlt=>
  bookW hQ hAr hFr h hi hg hgo hrank hQi hAs hwg' hbk hd h6 h6' hs' hdd (by rw [hE];exact hmode') hlt
 have book:∀ {g':Goroutine} {w':World} {es:Array Event} {d':WD} {st' sm':Int},stepG H.P false g w=.go g' w' es→Aside H.Wg w w'→WgAt H.ty H.Wg w' st' sm'→(∀ e∈es,Bk H.Wg e) →
   (∀ jx e,es[jx]?=some e→(MemAct.ofEvent e).touch?=none∨0<deafBehind (D i).d.deaf (es.extract 0 jx))→WSit H.P H.ty H.Wg H.C H.n NoRd NoRd 0 (i+1) (D i).v d'.stage d'.fuel d'.deaf g' w'→deafBehind (D i).d.deaf es=d'.deaf→d'.stage≤6 →
   JMode j (upd E i d') tag st' sm'→((d'.stage<(D i).d.stage∧cnt d'≤cnt (D i).d)∨(d'.stage=(D i).d.stage∧d'.fuel+1=(D i).d.fuel)) →
   JNext H tag j D f0 q (H.m+1+i) gs w sl t:=fun hgo hAs hwg' hbk hd hs' hdd h6' hmode' hlt=>
  bookG hgo hAs hwg' hbk hd hs' hdd h6' (fun _ ht _=>hmode'.retag ht) hlt
 generalize hst:(D i).d.stage=s at hs
 generalize hfu:(D i).d.fuel=m at hs
 generalize hde:(D i).d.deaf=dd at hs bookG book
 have hsE:(E i).stage=s:=by rw [hEi,hst]
 have idle:∀ {g':Goroutine} {m':Nat},stepG H.P false g w=.go g' w #[]→WSit H.P H.ty H.Wg H.C H.n NoRd NoRd 0 (i+1) (D i).v s m' dd g' w→m'+1=m→JNext H tag j D f0 q (H.m+1+i) gs w sl t:=by
  intro g' m' hgo hs' hm
  refine book (d':=⟨s,m',dd⟩) hgo (.refl H.Wg w) hwg (by simp) (by simp) hs' rfl (by show s≤6;omega) ?_ (.inr ⟨hst.symm,by show m'+1=_;omega⟩)
  have:=hmode.same (i:=i) m' dd
  rwa [hsE] at this
 cases hs with
 | r0 h=>omega
 | k1 h=>
  rcases Goes.cases h with hstop|⟨m',rfl,hstep⟩
  ·obtain ⟨_,g',hgo,m₂,hk⟩:=hstop w (RW.refl w)
   exact book (d':=⟨5,m₂,1⟩) hgo (.refl H.Wg w) hwg (by intro e he;simp at he;subst he;exact .inl rfl) (by intro jx e he;exact .inl (by have:=Array.mem_of_getElem? he;simp at this;subst this;rfl)) (.d1 hk) rfl (by show 5≤6;omega)
    (hmode.counted hi (by omega) (.inr rfl) _ _) (.inl ⟨by show 5<_;omega,by simp [cnt,hst]⟩)
  ·obtain ⟨g',w',es,hgo,⟨rfl,rfl⟩,hg'⟩:=hstep w (RW.refl w)
   exact idle hgo (.k1 hg') rfl
 | d1 h=>
  rcases Goes.cases h with hstop|⟨m',rfl,hstep⟩
  ·obtain ⟨_,hall⟩:=hstop w (RW.refl w)
   have hc1:cnt (E i)=1:=by simp [cnt,hsE]
   have hV1:1≤Vc j E:=by have:=le_sumTo (f:=fun x=>cnt (E x)) hi;simp only [Vc];omega
   have bk2:∀ e∈#[rd (stA H.Wg),wr (stA H.Wg)],Bk H.Wg e:=by intro e he;simp at he;rcases he with rfl|rfl<;>exact bk_cell _ _ rfl
   have df2:∀ jx e,(#[rd (stA H.Wg),wr (stA H.Wg)]:Array Event)[jx]?=some e→(MemAct.ofEvent e).touch?=none∨0<deafBehind 1 ((#[rd (stA H.Wg),wr (stA H.Wg)]:Array Event).extract 0 jx):=by
    intro jx e he
    match jx,he with
    | 0,_=>exact .inr (by simp [deafBehind])
    | 1,_=>exact .inr (by simp [deafBehind,rd])
    | jx+2,he=>simp at he
   have hq0:∀ q,cnt (⟨1,q,1⟩:WD)=0:=fun _=>rfl
   have opq:∀ q,OpenSt j E→OpenSt j (upd E i ⟨1,q,1⟩):=fun q h a ha=>by
    by_cases e:a=i
    ·subst e;rw [upd_same];simp
    ·rw [upd_ne E _ e];exact h a ha
   cases hmode with
   | opn h1 h2 h3=>
    obtain ⟨v,hv⟩:∃ v,Vc j E+jpend tag=v+1:=⟨Vc j E+jpend tag-1,by omega⟩
    rw [hv] at hwg
    have hw1:WgAt H.ty H.Wg w (((v:Nat)+1)*KK+((0:Nat):Int)) 0:=by simpa using hwg
    obtain ⟨g',hgo,_,hq⟩:=hall v 0 (by omega) (by omega) hw1
    obtain ⟨q,hq⟩:=hq (by omega)
    have hv':Vc j (upd E i ⟨1,q,1⟩)+jpend tag=v:=by have:=Vc_upd E (⟨1,q,1⟩:WD) hi;have:=hq0 q;omega
    refine book (d':=⟨1,q,1⟩) hgo (aside_setCell w (stA H.Wg) _) (hwg.setSt _) bk2 df2 (.quit hq) rfl (by show 1≤6;omega) ?_ (.inl ⟨by show 1<_;omega,by simp [cnt]⟩)
    have e:((v:Nat):Int)*KK+((0:Nat):Int)=((Vc j (upd E i ⟨1,q,1⟩)+jpend tag:Nat):Int)*KK:=by rw [hv'];simp
    rw [e]
    exact .opn h1 (opq q h2) (fun vs ev=>by have:=h3 vs ev;omega)
   | reg h1 h2 h3=>
    obtain ⟨v,hv⟩:∃ v,Vc j E=v+1:=⟨Vc j E-1,by omega⟩
    rw [hv] at hwg
    have hw1:WgAt H.ty H.Wg w (((v:Nat)+1)*KK+((1:Nat):Int)) 0:=by simpa using hwg
    obtain ⟨g',hgo,hl,hq⟩:=hall v 1 (by omega) (by omega) hw1
    by_cases hv0:v=0
    ·subst hv0
     obtain ⟨m₂,hk⟩:=hl ⟨rfl,rfl⟩
     refine book (d':=⟨4,m₂,1⟩) hgo (aside_setCell w (stA H.Wg) _) (hwg.setSt _) bk2 df2 (.d2 hk) rfl (by show 4≤6;omega) ?_ (.inl ⟨by show 4<_;omega,by simp [cnt]⟩)
     have hoth:∀ a,a<j→a≠i→(E a).stage=1:=fun a ha e=>by
      have c0:=others_uncounted hi hv hc1 a ha e
      have:=h2 a ha
      simp only [cnt] at c0
      split at c0<;>omega
     have:=JMode.last (j:=j) (D:=upd E i ⟨4,m₂,1⟩) (tag:=tag) i h1 hi (by rw [upd_same];simp) (fun a ha e=>by rw [upd_ne E _ e];exact hoth a ha e)
     rw [upd_same] at this
     simpa using this
    ·obtain ⟨q,hq⟩:=hq (by omega)
     have hv':Vc j (upd E i ⟨1,q,1⟩)=v:=by have:=Vc_upd E (⟨1,q,1⟩:WD) hi;have:=hq0 q;omega
     refine book (d':=⟨1,q,1⟩) hgo (aside_setCell w (stA H.Wg) _) (hwg.setSt _) bk2 df2 (.quit hq) rfl (by show 1≤6;omega) ?_ (.inl ⟨by show 1<_;omega,by simp [cnt]⟩)
     have e:((v:Nat):Int)*KK+((1:Nat):Int)=((Vc j (upd E i ⟨1,q,1⟩):Nat):Int)*KK+1:=by rw [hv'];simp
     rw [e]
     exact .reg h1 (opq q h2) (by omega)
   | last L _ h2 h3 h4=>
    by_cases e:i=L
    ·subst e;omega
    ·have:=h4 i hi e;omega
   | sema _ h2=>have:=h2 i hi;omega
   | fin _ h2=>have:=h2 i hi;omega
  ·obtain ⟨g',w',es,hgo,⟨rfl,rfl⟩,hg'⟩:=hstep w (RW.refl w)
   exact idle hgo (.d1 hg') rfl
 | d2 h=>
  rcases Goes.cases h with hstop|⟨m',rfl,hstep⟩
  ·obtain ⟨_,hx⟩:=hstop w (RW.refl w)
   obtain ⟨hW3,hoth,rfl,rfl⟩:=hmode.isLast hi (by omega)
   simp only [hsE] at hwg
   obtain ⟨g',hgo,m₂,hk⟩:=hx (by simpa using hwg)
   refine book (d':=⟨3,m₂,1⟩) hgo (.refl H.Wg w) hwg (by intro e he;simp at he;subst he;exact bk_cell _ _ rfl) (by intro jx e he;match jx,he with|0,_=>exact .inr (by simp [deafBehind])|jx+1,he=>simp at he) (.d3 hk) rfl (by show 3≤6;omega) ?_ (.inl ⟨by show 3<_;omega,by simp [cnt]⟩)
   have:=JMode.last (j:=j) (D:=upd E i ⟨3,m₂,1⟩) (tag:=tag) i hW3 hi (by rw [upd_same];simp) (fun a ha e=>by rw [upd_ne E _ e];exact hoth a ha e)
   rw [upd_same] at this
   simpa using this
  ·obtain ⟨g',w',es,hgo,⟨rfl,rfl⟩,hg'⟩:=hstep w (RW.refl w)
   exact idle hgo (.d2 hg') rfl
 | d3 h=>
  rcases Goes.cases h with hstop|⟨m',rfl,hstep⟩
  ·obtain ⟨_,hx⟩:=hstop w (RW.refl w)
   obtain ⟨hW3,hoth,rfl,rfl⟩:=hmode.isLast hi (by omega)
   simp only [hsE] at hwg
   obtain ⟨g',hgo,m₂,hk⟩:=hx (by simpa using hwg)
   refine book (d':=⟨2,m₂,1⟩) hgo (aside_setCell w (stA H.Wg) _) (hwg.setSt 0) (by intro e he;simp at he;subst he;exact bk_cell _ _ rfl) (by intro jx e he;match jx,he with|0,_=>exact .inr (by simp [deafBehind])|jx+1,he=>simp at he) (.d4 hk) rfl (by show 2≤6;omega) ?_ (.inl ⟨by show 2<_;omega,by simp [cnt]⟩)
   have:=JMode.last (j:=j) (D:=upd E i ⟨2,m₂,1⟩) (tag:=tag) i hW3 hi (by rw [upd_same];simp) (fun a ha e=>by rw [upd_ne E _ e];exact hoth a ha e)
   rw [upd_same] at this
   simpa using this
  ·obtain ⟨g',w',es,hgo,⟨rfl,rfl⟩,hg'⟩:=hstep w (RW.refl w)
   exact idle hgo (.d3 hg') rfl
 | d4 h=>
  rcases Goes.cases h with hstop|⟨m',rfl,hstep⟩
  ·obtain ⟨_,hmw,hx⟩:=hstop w (RW.refl w)
   obtain ⟨hW3,hoth,rfl,rfl⟩:=hmode.isLast hi (by omega)
   simp only [hsE] at hwg
   obtain ⟨g',hgo,q,hq⟩:=hx (by simpa using hwg)
   have hrun':g'.status=.running:=by
    cases q with
    | zero=>exact absurd hq.2 (by decide)
    | succ q=>exact hq.elim (fun x=>absurd x.2 (by decide)) (fun x=>x.1)
   refine bookG (d':=⟨1,q,1⟩) hgo (aside_setCell w (smA H.Wg) _) (hwg.setSm 1) (es:=semEvents (smA H.Wg)) bk_semJ ?_ (.quit hq) (by simp [deafBehind,semEvents]) (by show 1≤6;omega) ?_ (.inl ⟨by show 1<_;omega,by simp [cnt]⟩)
   ·intro jx e he
    match jx,he with
    | 0,he=>simp [semEvents] at he;subst he;exact .inl rfl
    | 1,_=>exact .inr (by simp [deafBehind,semEvents])
    | 2,_=>exact .inr (by simp [deafBehind,semEvents])
    | 3,he=>simp [semEvents] at he;subst he;exact .inl rfl
    | jx+4,he=>simp [semEvents] at he
   ·intro tag' ht hw
    have hnb:=hw hmw hrun'
    have e3:tag'=.wr∨tag'=.w3:=by
     rcases ht with rfl|⟨_,rfl⟩
     ·cases tag'<;>first|exact .inl rfl|exact .inr rfl|exact hW3.elim|exact absurd rfl hnb
     ·exact .inr rfl
    simp only [if_true]
    exact .sema e3 fun a ha=>by
     by_cases e:a=i
     ·subst e;rw [upd_same]
     ·rw [upd_ne E _ e];exact hoth a ha e
  ·obtain ⟨g',w',es,hgo,⟨rfl,rfl⟩,hg'⟩:=hstep w (RW.refl w)
   exact idle hgo (.d4 hg') rfl
 | quit h=>
  cases m with
  | zero=>rw [h.1] at hrun;cases hrun
  | succ qq=>
   rcases h with ⟨hf,_⟩|⟨_,g',es,hmute,hstep,hq⟩
   ·rw [hf] at hrun;cases hrun
   ·have hbk:∀ e∈es,Bk H.Wg e:=fun e he=>bk_of_mute (hmute e he)
    have hno:∀ jx e,es[jx]?=some e→(MemAct.ofEvent e).touch?=none∨0<deafBehind dd (es.extract 0 jx):=fun jx e he=>.inl (by
     rcases bk_of_mute (Wg:=H.Wg) (hmute e (Array.mem_of_getElem? he)) with h1|h1|⟨a,wr,rfl,_⟩
     ·rw [ofEvent_loc_mark h1];rfl
     ·rw [ofEvent_loc_mark h1];rfl
     ·have:=hmute _ (Array.mem_of_getElem? he);simp [Event.mute] at this)
    refine book (d':=⟨1,qq,deafBehind dd es⟩) (hstep w) (.refl H.Wg w) hwg hbk hno (.quit hq) rfl (by show 1≤6;omega) ?_ (.inr ⟨hst.symm,by show qq+1=_;omega⟩)
    have:=hmode.same (i:=i) qq (deafBehind dd es)
    rwa [hsE] at this
end
end
end Go.Sim
end
section
set_option linter.unusedSectionVars false
namespace Go.Sim
open Go.Conc Go.ConcN
open Go.ConcR (KK wgBlock WgAt stA smA rd wr mk Payload DC0 Bk bk_of_mute ofEvent_loc_mark ofEvent_cell g_of_ofEvents)
section
variable [Payload] {H:Ph} {tag tag':JTag} {j:Nat} {D:Nat→WDat} {f0 d0 f':Nat} {q:Nat→Nat} {gs:Array Goroutine} {w w':World} {sl:Option (Nat × Nat)} {t:Trace} {a a':Goroutine} {es:Array Event}
theorem JT.app0 (h:JT H j D d0 w t) (hA:Apart (ShJ H) (OwnJ H j D) (RdJ H j D)) (h0:H.t0.size≤t.size) (hz:w.heap.size≤w'.heap.size) {fn:FuncId} {pos:String}
  (hok:∀ e∈es,Ok0 (ShJ H) (OwnJ H j D) (RdJ H j D) (H.m+j) { g:=0,fn,pos,act:=.ofEvent e }) (hlow:∀ e∈es,(MemAct.ofEvent e).low w'.heap.size)
  (hpl:∀ e∈es,∀ x,(MemAct.ofEvent e).touch?=some x→¬ ShJ H x.loc→x.kind=.plain∧x.loc.isMemory=true) (hnr:∀ e∈es,MemAct.ofEvent e≠.mark (.release (stA H.Wg))) :
  JT H j D (deafBehind d0 es) w' (t++MemOp.ofEvents 0 fn pos es):=by
 have hg:∀ op∈MemOp.ofEvents 0 fn pos es,op.g=0:=fun op hop=>by obtain ⟨e,_,rfl⟩:=Conc.mem_ofEvents hop;rfl
 refine ⟨h.ct.app0 hA fun op hop=>?_,?_,?_,?_,?_,?_,?_,?_,?_⟩
 ·obtain ⟨e,he,rfl⟩:=Conc.mem_ofEvents hop;exact hok e he
 ·obtain ⟨u,hu⟩:=h.pre
  exact ⟨u++MemOp.ofEvents 0 fn pos es,by rw [hu,Array.append_assoc]⟩
 ·refine seen_app (fun op hop=>MemAct.low_mono hz (h.low op hop)) fun op hop=>?_
  obtain ⟨e,he,rfl⟩:=Conc.mem_ofEvents hop;exact hlow e he
 ·intro k op x hk hop hx
  rcases getElem?_append_cases hop with ⟨_,h1⟩|⟨_,h1⟩
  ·exact h.new k op x hk h1 hx
  ·obtain ⟨e,he,rfl⟩:=Conc.mem_ofEvents h1
   exact ⟨.inl rfl,hpl e he x hx⟩
 ·exact h.nrel.app fun op hop=>by obtain ⟨e,he,rfl⟩:=Conc.mem_ofEvents hop;exact hnr e he
 ·rw [Deaf_own,h.deaf0]
 ·intro k hk
  rw [Deaf_other t (g:=H.m+1+k) (g':=0) (by omega) _ hg];exact h.deafW k hk
 ·intro k hk
  rw [Deaf_other t (g:=k) (g':=0) (by omega) _ hg];exact h.above k hk
 ·intro k hk hs
  obtain ⟨r,hr⟩:=h.rel k hk hs
  exact ⟨r,hr.appOther hg (by omega)⟩
section
variable (hQ:∀ i own X v w w',H.Q i own X v w→Rely true X w w'→H.Q i own X v w')
include hQ
theorem mainFrame (h:JInv H tag j D f0 d0 q gs w t) (ha:gs[0]?=some a) (hgo:stepG H.P true a w=.go a' w' es) (hz:w.heap.size≤w'.heap.size) (ho:∀ k,k<j→Oth H k (D k).X w w') (hjw:JW H j D w')
  (hok:∀ e∈es,Ok0 (ShJ H) (OwnJ H j D) (RdJ H j D) (H.m+j) { g:=0,fn:=a.frame.fn,pos:=a.frame.place,act:=.ofEvent e }) (hlow:∀ e∈es,(MemAct.ofEvent e).low w'.heap.size)
  (hpl:∀ e∈es,∀ x,(MemAct.ofEvent e).touch?=some x→¬ ShJ H x.loc→x.kind=.plain∧x.loc.isMemory=true) (hnr:∀ e∈es,MemAct.ofEvent e≠.mark (.release (stA H.Wg)))
  (hs:JSit H tag' j f' (deafBehind d0 es) a' w') {st' sm':Int} (hwg:WgAt H.ty H.Wg w' st' sm') (hmode:JMode j (fun k=>(D k).d) tag' st' sm') (hsb:SBlk H tag' j D w')
  (hacq:tag'=.fin→AcqJ H j (t++MemOp.ofEvents 0 a.frame.fn a.frame.place es))
  (hlt:jphi H.n (Vc j fun k=>(D k).d) tag'<jphi H.n (Vc j fun k=>(D k).d) tag∨(jphi H.n (Vc j fun k=>(D k).d) tag'=jphi H.n (Vc j fun k=>(D k).d) tag∧f'<f0)):JNext H tag j D f0 q 0 gs w sl t:=by
 have hrun:=runT_crowd_go (P:=H.P) (sl:=sl) (i:=0) ha hgo
 have hlt0:0<gs.size:=(Array.getElem?_eq_some_iff.1 ha).1
 refine ⟨_,w',_,tag',j,D,f',deafBehind d0 es,q,hrun,⟨h.jn,by simpa using h.size,⟨a',by simp [hlt0],hs⟩,fun k hk=>?_,fun k b hk1 hk2 hb=>?_,hjw,h.jt.app0 h.jw.apart h.t0_le hz hok hlow hpl hnr,⟨st',sm',hwg,hmode⟩,hsb,hacq⟩,.inr (.inr ⟨rfl,rfl,?_⟩)⟩
 ·obtain ⟨b,hb,hwb⟩:=h.ws k hk
  refine ⟨b,?_,hwb.other H hQ (ho k hk)⟩
  rw [Array.getElem?_setIfInBounds_ne (by omega),Array.getElem?_map,hb]
  simp [woken_still hwb.status]
 ·rw [Array.getElem?_setIfInBounds_ne (by omega),Array.getElem?_map] at hb
  obtain ⟨y,hy,rfl⟩:=Option.map_eq_some_iff.1 hb
  have hq:=h.old k y hk1 hk2 hy
  rw [woken_quitsD hq,Deaf_other t (g:=k) (g':=0) (by omega) _ g_of_ofEvents]
  exact hq
 ·unfold mu
  rcases hlt with h1|⟨h1,h2⟩
  ·exact Prod.Lex.left _ _ (by omega)
  ·rw [h1];exact Prod.Lex.right _ (by omega)
theorem JW.turn0 (h:JW H j D w) (hz:w'.heap.size=w.heap.size) (hb:∀ b,b≠H.Wg→w'.heap[b]?=w.heap[b]?) (os:w'.os=w.os) (out:w'.output=w.output):JW H j D w':=by
 have eC:=hb H.C h.cw
 obtain ⟨cs,h1,h2⟩:=h.pay
 exact ⟨fun b hb'=>(hb b (hb'.elim (fun z=>(h.sh0 b z).2.1) fun z e=>h.wW (e▸z))).trans (h.keep b hb'),⟨cs,eC.trans h1,h2⟩,fun k hk hs=>(cell_of_block eC k).trans (h.has k hk hs),fun k hk b hb'=>by rw [hz];exact h.low k hk b hb',h.ownX,h.disj,h.own0,h.avoid,
  by rw [hz];exact h.wg,by rw [hz];exact h.c,h.cw,h.cW,h.wW,fun b hb'=>by rw [hz];exact h.sh0 b hb',fun b hb'=>by rw [hz];exact h.wl b hb',os.trans h.os,out.trans h.out⟩
theorem ok0_bk {Own Rd:Nat→Loc→Prop} {k:Nat} {e:Event} (h:Bk H.Wg e∨e=mk (.read (smA H.Wg))∨e=mk (.write (smA H.Wg))∨e=mk (.acquire (stA H.Wg))) (fn:FuncId) (pos:String):Ok0 (ShJ H) Own Rd k { g:=0,fn,pos,act:=.ofEvent e }:=by
 refine ⟨rfl,fun x hx=>?_⟩
 rcases h with (h1|h1|⟨a,wr,rfl,ha⟩)|rfl|rfl|rfl
 ·simp only [ofEvent_loc_mark h1] at hx;cases hx
 ·simp only [ofEvent_loc_mark h1] at hx;cases hx
 ·simp only [ofEvent_cell,MemAct.touch?,Option.some.injEq] at hx
  subst hx
  exact .inl ⟨⟨a,rfl,.inr ha⟩,by simp⟩
 ·simp only [mk,MemAct.ofEvent,MemAct.touch?,Option.some.injEq] at hx
  subst hx
  exact .inl ⟨⟨smA H.Wg,rfl,.inr rfl⟩,by simp⟩
 ·simp only [mk,MemAct.ofEvent,MemAct.touch?,Option.some.injEq] at hx
  subst hx
  exact .inl ⟨⟨smA H.Wg,rfl,.inr rfl⟩,by simp⟩
 ·simp [mk,MemAct.ofEvent,MemAct.touch?] at hx
theorem low_bk0 {B:Nat} (hB:H.Wg<B) {e:Event} (h:Bk H.Wg e∨e=mk (.read (smA H.Wg))∨e=mk (.write (smA H.Wg))∨e=mk (.acquire (stA H.Wg))):(MemAct.ofEvent e).low B:=by
 rcases h with h|rfl|rfl|rfl
 ·exact low_bk hB h
 ·exact hB
 ·exact hB
 ·exact hB
theorem sh_bk0 {e:Event} (h:Bk H.Wg e∨e=mk (.read (smA H.Wg))∨e=mk (.write (smA H.Wg))∨e=mk (.acquire (stA H.Wg))) {x:Touch} (hx:(MemAct.ofEvent e).touch?=some x):ShJ H x.loc:=by
 rcases h with h|rfl|rfl|rfl
 ·exact pl_bk h hx
 ·simp only [mk,MemAct.ofEvent,MemAct.touch?,Option.some.injEq] at hx
  subst hx
  exact ⟨smA H.Wg,rfl,.inr rfl⟩
 ·simp only [mk,MemAct.ofEvent,MemAct.touch?,Option.some.injEq] at hx
  subst hx
  exact ⟨smA H.Wg,rfl,.inr rfl⟩
 ·simp [mk,MemAct.ofEvent,MemAct.touch?] at hx
theorem rel_bk0 {e:Event} (h:Bk H.Wg e∨e=mk (.read (smA H.Wg))∨e=mk (.write (smA H.Wg))∨e=mk (.acquire (stA H.Wg))):MemAct.ofEvent e≠.mark (.release (stA H.Wg)):=by
 rcases h with h|rfl|rfl|rfl
 ·exact rel_bk h
 ·simp [mk,MemAct.ofEvent]
 ·simp [mk,MemAct.ofEvent]
 ·simp [mk,MemAct.ofEvent]
theorem book0 (h:JInv H tag j D f0 d0 q gs w t) (ha:gs[0]?=some a) (hgo:stepG H.P true a w=.go a' w' es) (hAs:Aside H.Wg w w') {st' sm':Int} (hwg:WgAt H.ty H.Wg w' st' sm')
  (hbk:∀ e∈es,Bk H.Wg e∨e=mk (.read (smA H.Wg))∨e=mk (.write (smA H.Wg))∨e=mk (.acquire (stA H.Wg))) (hs:JSit H tag' j f' (deafBehind d0 es) a' w') (hmode:JMode j (fun k=>(D k).d) tag' st' sm') (hsb:SBlk H tag j D w→SBlk H tag' j D w)
  (hacq:tag'=.fin→AcqJ H j (t++MemOp.ofEvents 0 a.frame.fn a.frame.place es))
  (hlt:jphi H.n (Vc j fun k=>(D k).d) tag'<jphi H.n (Vc j fun k=>(D k).d) tag∨(jphi H.n (Vc j fun k=>(D k).d) tag'=jphi H.n (Vc j fun k=>(D k).d) tag∧f'<f0)):JNext H tag j D f0 q 0 gs w sl t:=by
 have hJ:=h.jw
 refine mainFrame hQ h ha hgo (Nat.le_of_eq hAs.size.symm) (fun k hk=>⟨⟨fun b hb=>hAs.block b (hJ.avoid k hk b hb).1,Nat.le_of_eq hAs.size.symm,fun e=>by (cases e),hAs.os⟩,RW.of_wg hAs ⟨_,_,hwg⟩ hJ.cw⟩)
  (hJ.turn0 hQ hAs.size (fun b hb=>hAs.block b hb) hAs.os hAs.output) (fun e he=>ok0_bk hQ (hbk e he) _ _) (fun e he=>low_bk0 hQ (by rw [hAs.size];exact hJ.wg) (hbk e he)) (fun e he x hx hn=>absurd (sh_bk0 hQ (hbk e he) hx) hn) (fun e he=>rel_bk0 hQ (hbk e he))
  hs hwg hmode ?_ hacq hlt
 exact (hsb h.sb).keep (.inl rfl) (fun s _ hs2 _ _=>hAs.block s hs2) (fun s _ hX=>hX)
theorem idle0 (h:JInv H tag j D f0 d0 q gs w t) (ha:gs[0]?=some a) (hgo:stepG H.P true a w=.go a' w #[]) (hs:JSit H tag j f' d0 a' w) (hf:f'<f0):JNext H tag j D f0 q 0 gs w sl t:=by
 obtain ⟨st,sm,hwg,hmode⟩:=h.wg
 exact book0 hQ h ha hgo (.refl H.Wg w) hwg (by simp) hs hmode id (fun e=>(h.acq e).app fun i r _ hr=>hr.appOther g_of_ofEvents (by omega)) (.inr ⟨rfl,hf⟩)
end
end
end Go.Sim
end
