/- PROVED HERE: laws. Conditions: none. -/
import Derived.OneCell
import Derived.Test.YtlcbehhbfglgaaaGreatF15
set_option linter.all false
section
set_option linter.unusedSectionVars false
namespace Go.Sim
open Go.Conc Go.ConcN
open Go.ConcR (KK wgBlock WgAt stA smA rd wr mk Payload DC0 Bk bk_of_mute ofEvent_loc_mark ofEvent_cell deafBehind_cons deafBehind_one)
section
variable {j:Nat} {D D':Nat->WD} {tag:J12} {st sm:Int}
theorem Jv.congr (h:∀ a,a<j->(D' a).stage=(D a).stage) (hm:Jv j D tag st sm):Jv j D' tag st sm:=by
 have hv:Vc j D'=Vc j D:=sumTo_congr fun a ha=>by simp only [cnt,h a ha]
 cases hm with
 | opn h1 h2 h3=>rw [<- hv];exact .opn h1 (fun a ha=>by rw [h a ha];exact h2 a ha) (fun vs e=>by rw [hv];exact h3 vs e)
 | reg h1 h2 h3=>rw [<- hv];exact .reg h1 (fun a ha=>by rw [h a ha];exact h2 a ha) (by rw [hv];exact h3)
 | last L h1 h2 h3 h4=>rw [<- h L h2];exact .last L h1 h2 (by rw [h L h2];exact h3) (fun a ha e=>by rw [h a ha];exact h4 a ha e)
 | sema h1 h2=>exact .sema h1 fun a ha=>by rw [h a ha];exact h2 a ha
 | fin h1 h2=>exact .fin h1 fun a ha=>by rw [h a ha];exact h2 a ha
theorem Jv.same {i:Nat} (hm:Jv j D tag st sm) (m' dd':Nat):Jv j (upd D i ⟨(D i).stage,m',dd'⟩) tag st sm:=
 hm.congr fun a _=>by
  by_cases e:a=i
  ·subst e;rw [upd_same]
  ·rw [upd_ne D _ e]
theorem Jv.counted {i:Nat} (hm:Jv j D tag st sm) (hi:i<j) (h5:5<=(D i).stage) {s':Nat} (hs:s'=6\/s'=5) (m' dd':Nat):Jv j (upd D i ⟨s',m',dd'⟩) tag st sm:=by
 have hv:Vc j (upd D i ⟨s',m',dd'⟩)=Vc j D:=by
  have:=Vc_upd D (⟨s',m',dd'⟩:WD) hi;have c1:cnt (D i)=1:=by simp [cnt,h5]
  have c2:cnt (⟨s',m',dd'⟩:WD)=1:=by rcases hs with rfl|rfl<;>simp [cnt]
  omega
 have ho:OpenSt j D->OpenSt j (upd D i ⟨s',m',dd'⟩):=fun h a ha=>by
  by_cases e:a=i
  ·subst e;rw [upd_same];rcases hs with rfl|rfl<;>simp
  ·rw [upd_ne D _ e];exact h a ha
 cases hm with
 | opn h1 h2 h3=>rw [<- hv];exact .opn h1 (ho h2) (fun vs e=>by rw [hv];exact h3 vs e)
 | reg h1 h2 h3=>rw [<- hv];exact .reg h1 (ho h2) (by rw [hv];exact h3)
 | last L h1 h2 h3 h4=>
  by_cases e:i=L
  ·subst e;omega
  ·have:=h4 i hi e;omega
 | sema _ h2=>have:=h2 i hi;omega
 | fin h1 h2=>have:=h2 i hi;omega
theorem Jv.Jl8 {i:Nat} (hm:Jv j D tag st sm) (hi:i<j) (h:(D i).stage≠1):tag≠.fin:=by
 rintro rfl;cases hm with
 | opn h1 _ _=>exact h1
 | reg h1 _ _=>exact h1
 | last L h1 _ _ _=>exact h1
 | sema h1 _=>rcases h1 with h1|h1<;>cases h1
 | fin _ h2=>exact h (h2 i hi)
theorem Jv.isLast {i:Nat} (hm:Jv j D tag st sm) (hi:i<j) (h:(D i).stage=4\/(D i).stage=3\/(D i).stage=2) :
  jw3 tag/\(∀ a,a<j->a≠i->(D a).stage=1)/\st=(if (D i).stage=2 then 0 else 1)/\sm=0:=by
 cases hm with
 | opn _ h2 _=>have:=h2 i hi;omega
 | reg _ h2 _=>have:=h2 i hi;omega
 | last L h1 h2 h3 h4=>
  by_cases e:i=L
  ·subst e;exact ⟨h1,h4,rfl,rfl⟩
  ·have:=h4 i hi e;omega
 | sema _ h2=>have:=h2 i hi;omega
 | fin _ h2=>have:=h2 i hi;omega
theorem Jpb (n:Nat) {v v':Nat} (h:v'<=v) (tag:J12):J0y n v' tag<=J0y n v tag:=by cases tag<;>simp only [J0y]<;>omega
theorem Jda (n v:Nat) {tag tag':J12} (e:tag'=tag\/(tag=.blk/\tag'=.w3)):J0y n v tag'=J0y n v tag:=by
 rcases e with rfl|⟨rfl,rfl⟩<;>rfl
end
section
variable [Payload] {H:Ph} {tag:J12} {j:Nat} {D:Nat->J0a} {f0 d0:Nat} {q:Nat->Nat} {gs:Array Goroutine} {w:World} {sl:Option (Nat × Nat)} {t:Trace}
theorem J0s.bound {f d:Nat} {a:Goroutine} (h:J0s H tag j f d a w):j+J1e tag<=H.n:=by
 cases h<;>simp only [J1e]<;>(try simp)<;>omega
theorem J8v {i:Nat} (hi:i<j) {d':WD} (hr:(D i).rank=none\/True) (h:(d'.stage<(D i).d.stage/\cnt d'<=cnt (D i).d)\/(d'.stage=(D i).d.stage/\d'.fuel+1=(D i).d.fuel)) {tag':J12} {f':Nat} (hf:f'<=f0+1)
  (ht:tag'=tag\/(tag=.blk/\tag'=.w3)):Falls H (H.n-j) (ranks j (upd D i { D i with d:=d' })) (mu H tag' j (upd D i { D i with d:=d' }) f' q) (H.n-j) (ranks j D) (mu H tag j D f0 q):=by
 refine .inr (.inr ⟨rfl,Jmf hi rfl,?_⟩);unfold mu;rw [J8u,Jda _ _ ht];have e1:=sumTo_upd (fun k=>(D k).d) d' cnt hi;have e2:=sumTo_upd (fun k=>(D k).d) d' WD.stage hi;have e3:=sumTo_upd (fun k=>(D k).d) d' WD.fuel hi;simp only [Vc,Ssum,Fsum] at *;rcases h with ⟨h1,h2⟩|⟨h1,h2⟩
 ·refine Prod.Lex.left _ _ ?_;have:=Jpb H.n (v':=sumTo j fun a=>cnt (upd (fun k=>(D k).d) i d' a)) (v:=sumTo j fun a=>cnt (D a).d) (by omega) tag;omega
 ·have ec:cnt d'=cnt (D i).d:=by simp only [cnt,h1]
  have ev:(sumTo j fun a=>cnt (upd (fun k=>(D k).d) i d' a))=sumTo j fun a=>cnt (D a).d:=by omega
  have es':(sumTo j fun a=>(upd (fun k=>(D k).d) i d' a).stage)=sumTo j fun a=>(D a).d.stage:=by omega
  rw [ev,es'];refine Prod.Lex.right _ ?_;omega
theorem JW.turn (h:JW H j D w) {i:Nat} (hi:i<j) {d':WD} {w':World} (hz:w'.heap.size=w.heap.size) (hb:∀ b,b≠H.Wg->b≠H.C->w'.heap[b]?=w.heap[b]?) (hpay:PayAt H.C H.n w')
  (hcell:∀ k,k≠i->w'.cell? ⟨H.C,k,none⟩=w.cell? ⟨H.C,k,none⟩) (hhas:d'.stage<=6->Has H.C i (D i).v w') (os:w'.os=w.os) (out:w'.output=w.output):JW H j (upd D i { D i with d:=d' }) w':=by
 have sm:∀ k,(upd D i { D i with d:=d' } k).own=(D k).own/\(upd D i { D i with d:=d' } k).X=(D k).X/\(upd D i { D i with d:=d' } k).v=(D k).v:=fun k=>by
  by_cases e:k=i
  ·subst e;rw [upd_same];exact ⟨rfl,rfl,rfl⟩
  ·rw [upd_ne D _ e];exact ⟨rfl,rfl,rfl⟩
 refine ⟨fun b hb'=>(hb b (hb'.elim (fun z=>(h.sh0 b z).2.1) fun z e=>h.wW (e▸z)) (hb'.elim (fun z=>(h.sh0 b z).2.2.1) fun z e=>h.cW (e▸z))).trans (h.keep b hb'),hpay,fun k hk hs=>?_,fun k hk b hb'=>?_,fun k hk b hb'=>?_,fun a b ha hb' hab c hc=>?_,fun k hk b hb'=>?_,fun k hk b hb'=>?_,
  by rw [hz];exact h.wg,by rw [hz];exact h.c,h.cw,h.cW,h.wW,fun b hb'=>?_,fun b hb'=>by rw [hz];exact h.wl b hb',os.trans h.os,out.trans h.out⟩
 ·rw [(sm k).2.2];by_cases e:k=i
  ·subst e;rw [upd_same] at hs;exact hhas hs
  ·rw [upd_ne D _ e] at hs;exact (hcell k e).trans (h.has k hk hs)
 ·rw [(sm k).2.1] at hb';rw [hz];exact h.low k hk b hb'
 ·rw [(sm k).1] at hb';rw [(sm k).2.1];exact h.J2o k hk b hb'
 ·rw [(sm a).1] at hc;rw [(sm b).2.1];exact h.J54 a b ha hb' hab c hc
 ·rw [(sm k).1] at hb';exact h.J5m k hk b hb'
 ·rw [(sm k).2.1] at hb';exact h.avoid k hk b hb'
 ·rw [hz];exact h.sh0 b hb'
theorem Jx4 {Own Rd:Nat->Loc->Prop} {k:Nat} {e:Event} (h:Bk H.Wg e) (fn:FuncId) (pos:String):OkW (ShJ H) Own Rd k { g:=k,fn,pos,act:=.ofEvent e }:=by
 refine ⟨rfl,fun x hx=>?_⟩;rcases h with h1|h1|⟨a,wr,rfl,ha⟩
 ·simp only [ofEvent_loc_mark h1] at hx;cases hx
 ·simp only [ofEvent_loc_mark h1] at hx;cases hx
 ·simp only [ofEvent_cell,MemAct.touch?,Jb2] at hx;subst hx;exact .inl ⟨⟨a,rfl,.inr ha⟩,by simp,by simp⟩
theorem Jpc {B:Nat} (hB:H.Wg<B) {e:Event} (h:Bk H.Wg e):(MemAct.ofEvent e).low B:=by
 rcases h with h1|h1|⟨a,wr,rfl,ha⟩
 ·rw [ofEvent_loc_mark h1];trivial
 ·rw [ofEvent_loc_mark h1];trivial
 ·rw [ofEvent_cell];show a.block<B;omega
theorem Ju9 {e:Event} (h:Bk H.Wg e) {x:Touch} (hx:(MemAct.ofEvent e).touch?=some x):ShJ H x.loc:=by
 rcases h with h1|h1|⟨a,wr,rfl,ha⟩
 ·simp only [ofEvent_loc_mark h1] at hx;cases hx
 ·simp only [ofEvent_loc_mark h1] at hx;cases hx
 ·simp only [ofEvent_cell,MemAct.touch?,Jb2] at hx;subst hx;exact ⟨a,rfl,.inr ha⟩
theorem Jiv {e:Event} (h:Bk H.Wg e):MemAct.ofEvent e≠.mark (.release (stA H.Wg)):=by
 rcases h with h1|h1|⟨a,wr,rfl,ha⟩
 ·rw [ofEvent_loc_mark h1];simp
 ·rw [ofEvent_loc_mark h1];simp
 ·rw [ofEvent_cell];simp
section
variable (hQ:∀ i own X v w w',H.Q i own X v w->J07 true X w w'->H.Q i own X v w') (hAr:∀ g w,H.Anch g w->g.status=.running) (hFr:∀ g w,H.Fin g w->g.status=.running)
include hQ hAr hFr
theorem J03c (h:JInv H tag j D f0 d0 q gs w t) {i:Nat} (hi:i<j) {g g':Goroutine} {w':World} {es:Array Event} {d':WD} {st' sm':Int} (hg:gs[H.m+1+i]?=some g) (hgo:stepG H.P false g w=.go g' w' es)
  (Jay:(D i).rank=none) (hQi:H.Q i (D i).own (D i).X (D i).v w) (hAs:Aside H.Wg w w') (hwg:WgAt H.ty H.Wg w' st' sm') (hbk:∀ e∈es,Bk H.Wg e)
  (hd:∀ jx e,es[jx]?=some e->(MemAct.ofEvent e).touch?=none\/0<deafBehind (D i).d.deaf (es.extract 0 jx)) (h6:(D i).d.stage<=6) (h6':d'.stage<=6)
  (hs':WSit H.P H.ty H.Wg H.C H.n J69 J69 0 (i+1) (D i).v d'.stage d'.fuel d'.deaf g' w') (hdd:deafBehind (D i).d.deaf es=d'.deaf)
  (hmode:∀ tag',(tag'=tag\/(tag=.blk/\tag'=.w3))->(mayWake H.P g=true->g'.status=.running->tag'≠.blk)->Jv j (upd (fun k=>(D k).d) i d') tag' st' sm')
  (hlt:(d'.stage<(D i).d.stage/\cnt d'<=cnt (D i).d)\/(d'.stage=(D i).d.stage/\d'.fuel+1=(D i).d.fuel)):J2x H tag j D f0 q (H.m+1+i) gs w sl t:=by
 have hJ:=h.jw;have hdk:Deaf t (H.m+1+i)=(D i).d.deaf:=h.jt.deafW i hi;have eC:w'.heap[H.C]?=w.heap[H.C]?:=hAs.block H.C hJ.cw;have hX:∀ k,k<j->∀ b,(D k).X b->w'.heap[b]?=w.heap[b]?:=fun k hk b hb=>hAs.block b (hJ.avoid k hk b hb).1;have rel:∀ k,k<j->J07 true (D k).X w w':=fun k hk=>⟨fun b hb=>hX k hk b hb,Nat.le_of_eq hAs.size.symm,fun e=>by (cases e),hAs.os⟩;have rw0:∀ k,RW H.ty H.Wg H.C H.n 0 k w w':=fun k=>RW.of_wg hAs ⟨_,_,hwg⟩ hJ.cw;have hlive:RM H.ty H.Wg w w':=fun _=>⟨_,_,hwg⟩;have Jx5:∀ r,RelBy (stA H.Wg) t (H.m+1+i) r->RelBy (stA H.Wg) (t++MemOp.ofEvents (H.m+1+i) g.frame.fn g.frame.place es) (H.m+1+i) r:=fun r hr=>hr.book hdk _ _ hbk hd;refine J5s (D':={ D i with d:=d' }) hQ hAr hFr h hi hg hgo (Nat.le_of_eq hAs.size.symm) (fun k hk _=>⟨rel k hk,rw0 k⟩) (.tail Jay h6' hs' (hQ _ _ _ _ _ _ hQi (rel i hi)))
  (hJ.turn hi hAs.size (fun b h1 _=>hAs.block b h1) ((rw0 0).pay hJ.pay) (fun k _=>cell_of_block eC k) (fun _=>(cell_of_block eC i).trans (hJ.has i hi h6)) hAs.os hAs.output)
  (fun b hb=>hb) (fun b hb=>.inl hb) (fun b=>Iff.rfl) (fun b hb=>.inl hb) (fun e he=>Jx4 (hbk e he) _ _) (fun e he=>Jpc (by rw [hAs.size];exact hJ.wg) (hbk e he)) (fun e he x hx hn=>absurd (Ju9 (hbk e he) hx) hn)
  (fun e he=>Jiv (hbk e he)) hdd (fun _=>let ⟨r,hr⟩:=h.jt.rel i hi h6;⟨r,Jx5 r hr⟩) (fun _ r hr=>Jx5 r hr) hlive hwg (fun tag' h1 h2=>by rw [J8u];exact hmode tag' h1 h2)
  (fun s _ h2 _ _=>hAs.block s h2) (fun tag' f' hf ht=>J8v hi (.inr trivial) hlt hf ht)
end
end
end Go.Sim
end
section
set_option linter.unusedSectionVars false
namespace Go.Sim
open Go.Conc Go.ConcN
open Go.ConcR (KK wgBlock WgAt stA smA rd wr mk Payload DC0 Bk bk_of_mute ofEvent_loc_mark ofEvent_cell deafBehind_cons deafBehind_one)
theorem Jl9 {Wg:Nat}:∀ e∈semEvents (smA Wg),Bk Wg e:=by
 intro e he;simp [semEvents] at he;rcases he with rfl|rfl|rfl|rfl
 ·exact .inl rfl
 ·exact bk_cell _ _ rfl
 ·exact bk_cell _ _ rfl
 ·exact .inr (.inl rfl)
section
variable [Payload] {H:Ph} {tag:J12} {j:Nat} {D:Nat->J0a} {f0 d0:Nat} {q:Nat->Nat} {gs:Array Goroutine} {w:World} {sl:Option (Nat × Nat)} {t:Trace}
section
variable (hQ:∀ i own X v w w',H.Q i own X v w->J07 true X w w'->H.Q i own X v w') (hAr:∀ g w,H.Anch g w->g.status=.running) (hFr:∀ g w,H.Fin g w->g.status=.running)
include hQ hAr hFr
theorem Jvo (h:JInv H tag j D f0 d0 q gs w t) {i:Nat} (hi:i<j) {g:Goroutine} {f:Nat} (hg:gs[H.m+1+i]?=some g) (Jay:(D i).rank=none) (hd:(D i).d=⟨7,f,0⟩)
  (hs:Goes H.P false (RW H.ty H.Wg H.C H.n 0 (i+1-1)) (DT H (i+1)) (AtR0 H.P H.ty H.Wg H.C H.n 0 (i+1) (D i).v) f g w) (hQi:H.Q i (D i).own (D i).X (D i).v w):J2x H tag j D f0 q (H.m+1+i) gs w sl t:=by
 have hJ:=h.jw;have hdk:Deaf t (H.m+1+i)=0:=by rw [h.jt.deafW i hi,hd]
 obtain ⟨st,sm,hwg,hmode⟩:=h.wg;have Jdb:Jv j (fun k=>(D k).d) tag st sm:=hmode;rcases Goes.cases hs with hstop|⟨f',rfl,hstep⟩
 ·
  obtain ⟨_,hhas,g',hgo,m₂,hk⟩:=hstop w (RW.refl w);have rw0:∀ k,RW H.ty H.Wg H.C H.n 0 k w w:=fun k=>RW.refl w;have tc:∀ e∈#[mk (.releaseMerge (stA H.Wg))],e=mk (.releaseMerge (stA H.Wg)):=by simp
  refine J5s (D':={ D i with d:=⟨6,m₂,0⟩ }) hQ hAr hFr h hi hg hgo (Ja2 _) (fun k hk _=>⟨⟨fun _ _=>rfl,Ja2 _,fun _=>rfl,rfl⟩,rw0 k⟩) (.tail Jay (by show 6<=6;omega) (.k1 hk) hQi)
   (hJ.turn hi rfl (fun _ _ _=>rfl) hJ.pay (fun _ _=>rfl) (fun _=>by simpa using hhas) rfl rfl) (fun b hb=>hb) (fun b hb=>.inl hb) (fun b=>Iff.rfl) (fun b hb=>.inl hb)
   (fun e he=>?_) (fun e he=>?_) (fun e he x hx=>?_) (fun e he=>?_) (by rw [hd];rfl) (fun _=>⟨t.size,RelBy.new hdk _ _⟩) (fun ef=>absurd ef (Jdb.Jl8 hi (by show (D i).d.stage≠1;rw [hd];simp))) id hwg
   (fun tag' ht _=>by rw [J8u];exact (Jdb.counted hi (by show 5<=(D i).d.stage;rw [hd];simp) (.inl rfl) _ _).retag ht) (fun _ _ _ _ _=>rfl) (fun tag' f' hf ht=>J8v hi (.inr trivial) (.inl ⟨by rw [hd];simp,by rw [hd];simp [cnt]⟩) hf ht)
  ·rw [tc e he];exact ⟨rfl,fun x hx=>by simp [mk,MemAct.ofEvent,MemAct.touch?] at hx⟩
  ·rw [tc e he];exact hJ.wg
  ·rw [tc e he] at hx;simp [mk,MemAct.ofEvent,MemAct.touch?] at hx
  ·rw [tc e he];simp [mk,MemAct.ofEvent]
 ·
  obtain ⟨g',w',es,hgo,⟨hac,hev⟩,hg'⟩:=hstep w (RW.refl w);simp only [Nat.add_sub_cancel] at hac;have eW:w'.heap[H.Wg]?=w.heap[H.Wg]?:=hac.block H.Wg (Ne.symm hJ.cw);have rel:∀ k,k<j->J07 true (D k).X w w':=fun k hk=>⟨fun b hb=>hac.block b (hJ.avoid k hk b hb).2.1,Nat.le_of_eq hac.size.symm,fun e=>by (cases e),hac.os⟩;have evc:∀ e∈es,e=⟨.cell ⟨H.C,i,none⟩,true,false⟩:=hev;have still:∀ e∈es,e.loc≠.mark .disable/\e.loc≠.mark .enable:=fun e he=>by rw [evc e he];simp
  refine J5s (D':={ D i with d:=⟨7,f',0⟩ }) hQ hAr hFr h hi hg hgo (Nat.le_of_eq hac.size.symm) (fun k hk hki=>⟨rel k hk,RW.of_cell hac hki hJ.cw⟩) (.r0 Jay f' rfl hg' (hQ _ _ _ _ _ _ hQi (rel i hi)))
   (hJ.turn hi hac.size (fun b _ h1=>hac.block b h1) (hac.pay hJ.pay) (fun k hk=>hac.cells k hk) (fun h6=>absurd h6 (by show ¬ (7<=6);omega)) hac.os hac.output) (fun b hb=>hb) (fun b hb=>.inl hb) (fun b=>Iff.rfl) (fun b hb=>.inl hb)
   (fun e he=>?_) (fun e he=>?_) (fun e he x hx hn=>?_) (fun e he=>?_) (by rw [hd];exact ConcN.deafBehind_idle still 0) (fun h6=>absurd h6 (by show ¬ (7<=6);omega)) (fun ef=>absurd ef (Jdb.Jl8 hi (by show (D i).d.stage≠1;rw [hd];simp)))
   (fun hl=>let ⟨st,sm,x⟩:=hl;⟨st,sm,x.of_block eW⟩) (hwg.of_block eW) (fun tag' ht _=>by rw [J8u];refine Jv.retag ?_ ht;have:=Jdb.same (i:=i) f' 0;simp only [hd] at this;exact this) (fun s _ _ h3 _=>hac.block s h3) (fun tag' f'' hf ht=>J8v hi (.inr trivial) (.inr ⟨by rw [hd],by rw [hd]⟩) hf ht)
  ·rw [evc e he];refine ⟨rfl,fun x hx=>?_⟩;simp only [ofEvent_cell,MemAct.touch?,Jb2] at hx;subst hx;exact .inr (.inl ⟨i,hi,rfl,.inr rfl⟩)
  ·rw [evc e he];show H.C<w'.heap.size;rw [hac.size];exact hJ.c
  ·rw [evc e he] at hx;simp only [ofEvent_cell,MemAct.touch?,Jb2] at hx;subst hx;exact ⟨rfl,rfl⟩
  ·rw [evc e he];simp [MemAct.ofEvent]
theorem Jpd (hn:H.n<2147483648) (h:JInv H tag j D f0 d0 q gs w t) {i:Nat} (hi:i<j) {g:Goroutine} (hg:gs[H.m+1+i]?=some g) (hrun:g.status=.running) (Jay:(D i).rank=none) (h6:(D i).d.stage<=6)
  (hs:WSit H.P H.ty H.Wg H.C H.n J69 J69 0 (i+1) (D i).v (D i).d.stage (D i).d.fuel (D i).d.deaf g w) (hQi:H.Q i (D i).own (D i).X (D i).v w):J2x H tag j D f0 q (H.m+1+i) gs w sl t:=by
 obtain ⟨st,sm,hwg,hmode⟩:=h.wg;obtain ⟨a0,ha0,J03d⟩:=h.main;have hb:=J03d.bound;have hVj:=Vc_le j (fun k=>(D k).d);generalize hE:(fun k=>(D k).d)=E at hmode hVj;have hEi:E i=(D i).d:=by rw [<- hE]
 have bookG:∀ {g':Goroutine} {w':World} {es:Array Event} {d':WD} {st' sm':Int},stepG H.P false g w=.go g' w' es->Aside H.Wg w w'->WgAt H.ty H.Wg w' st' sm'->(∀ e∈es,Bk H.Wg e) ->
   (∀ jx e,es[jx]?=some e->(MemAct.ofEvent e).touch?=none\/0<deafBehind (D i).d.deaf (es.extract 0 jx))->WSit H.P H.ty H.Wg H.C H.n J69 J69 0 (i+1) (D i).v d'.stage d'.fuel d'.deaf g' w'->deafBehind (D i).d.deaf es=d'.deaf->d'.stage<=6 ->
   (∀ tag',(tag'=tag\/(tag=.blk/\tag'=.w3))->(mayWake H.P g=true->g'.status=.running->tag'≠.blk)->Jv j (upd E i d') tag' st' sm')->((d'.stage<(D i).d.stage/\cnt d'<=cnt (D i).d)\/(d'.stage=(D i).d.stage/\d'.fuel+1=(D i).d.fuel)) ->
   J2x H tag j D f0 q (H.m+1+i) gs w sl t:=fun hgo hAs hwg' hbk hd hs' hdd h6' hmode' hlt=>
  J03c hQ hAr hFr h hi hg hgo Jay hQi hAs hwg' hbk hd h6 h6' hs' hdd (by rw [hE];exact hmode') hlt
 have book:∀ {g':Goroutine} {w':World} {es:Array Event} {d':WD} {st' sm':Int},stepG H.P false g w=.go g' w' es->Aside H.Wg w w'->WgAt H.ty H.Wg w' st' sm'->(∀ e∈es,Bk H.Wg e) ->
   (∀ jx e,es[jx]?=some e->(MemAct.ofEvent e).touch?=none\/0<deafBehind (D i).d.deaf (es.extract 0 jx))->WSit H.P H.ty H.Wg H.C H.n J69 J69 0 (i+1) (D i).v d'.stage d'.fuel d'.deaf g' w'->deafBehind (D i).d.deaf es=d'.deaf->d'.stage<=6 ->
   Jv j (upd E i d') tag st' sm'->((d'.stage<(D i).d.stage/\cnt d'<=cnt (D i).d)\/(d'.stage=(D i).d.stage/\d'.fuel+1=(D i).d.fuel)) ->
   J2x H tag j D f0 q (H.m+1+i) gs w sl t:=fun hgo hAs hwg' hbk hd hs' hdd h6' hmode' hlt=>
  bookG hgo hAs hwg' hbk hd hs' hdd h6' (fun _ ht _=>hmode'.retag ht) hlt
 generalize hst:(D i).d.stage=s at hs;generalize hfu:(D i).d.fuel=m at hs;generalize hde:(D i).d.deaf=dd at hs bookG book;have hsE:(E i).stage=s:=by rw [hEi,hst]
 have idle:∀ {g':Goroutine} {m':Nat},stepG H.P false g w=.go g' w #[]->WSit H.P H.ty H.Wg H.C H.n J69 J69 0 (i+1) (D i).v s m' dd g' w->m'+1=m->J2x H tag j D f0 q (H.m+1+i) gs w sl t:=by
  intro g' m' hgo hs' hm;refine book (d':=⟨s,m',dd⟩) hgo (.refl H.Wg w) hwg (by simp) (by simp) hs' rfl (by show s<=6;omega) ?_ (.inr ⟨hst.symm,by show m'+1=_;omega⟩);have:=hmode.same (i:=i) m' dd
  rwa [hsE] at this
 cases hs with
 | r0 h=>omega
 | k1 h=>
  rcases Goes.cases h with hstop|⟨m',rfl,hstep⟩
  ·obtain ⟨_,g',hgo,m₂,hk⟩:=hstop w (RW.refl w);exact book (d':=⟨5,m₂,1⟩) hgo (.refl H.Wg w) hwg (by intro e he;simp at he;subst he;exact .inl rfl) (by intro jx e he;exact .inl (by have:=Jc5 he;simp at this;subst this;rfl)) (.d1 hk) rfl (by show 5<=6;omega)
    (hmode.counted hi (by omega) (.inr rfl) _ _) (.inl ⟨by show 5<_;omega,by simp [cnt,hst]⟩)
  ·obtain ⟨g',w',es,hgo,⟨rfl,rfl⟩,hg'⟩:=hstep w (RW.refl w);exact idle hgo (.k1 hg') rfl
 | d1 h=>
  rcases Goes.cases h with hstop|⟨m',rfl,hstep⟩
  ·obtain ⟨_,hall⟩:=hstop w (RW.refl w);have hc1:cnt (E i)=1:=by simp [cnt,hsE]
   have hV1:1<=Vc j E:=by have:=le_sumTo (f:=fun x=>cnt (E x)) hi;simp only [Vc];omega
   have bk2:∀ e∈#[rd (stA H.Wg),wr (stA H.Wg)],Bk H.Wg e:=by intro e he;simp at he;rcases he with rfl|rfl<;>exact bk_cell _ _ rfl
   have df2:∀ jx e,(#[rd (stA H.Wg),wr (stA H.Wg)]:Array Event)[jx]?=some e->(MemAct.ofEvent e).touch?=none\/0<deafBehind 1 ((#[rd (stA H.Wg),wr (stA H.Wg)]:Array Event).extract 0 jx):=by
    intro jx e he
    match jx,he with
    | 0,_=>exact .inr (by simp [deafBehind])
    | 1,_=>exact .inr (by simp [deafBehind,rd])
    | jx+2,he=>simp at he
   have hq0:∀ q,cnt (⟨1,q,1⟩:WD)=0:=fun _=>rfl;have opq:∀ q,OpenSt j E->OpenSt j (upd E i ⟨1,q,1⟩):=fun q h a ha=>by
    by_cases e:a=i
    ·subst e;rw [upd_same];simp
    ·rw [upd_ne E _ e];exact h a ha
   cases hmode with
   | opn h1 h2 h3=>
    obtain ⟨v,hv⟩:∃ v,Vc j E+J1e tag=v+1:=⟨Vc j E+J1e tag-1,by omega⟩;rw [hv] at hwg;have hw1:WgAt H.ty H.Wg w (((v:Nat)+1)*KK+((0:Nat):Int)) 0:=by simpa using hwg
    obtain ⟨g',hgo,_,hq⟩:=hall v 0 (by omega) (by omega) hw1;obtain ⟨q,hq⟩:=hq (by omega);have hv':Vc j (upd E i ⟨1,q,1⟩)+J1e tag=v:=by have:=Vc_upd E (⟨1,q,1⟩:WD) hi;have:=hq0 q;omega
    refine book (d':=⟨1,q,1⟩) hgo (aside_setCell w (stA H.Wg) _) (hwg.setSt _) bk2 df2 (.quit hq) rfl (by show 1<=6;omega) ?_ (.inl ⟨by show 1<_;omega,by simp [cnt]⟩);have e:((v:Nat):Int)*KK+((0:Nat):Int)=((Vc j (upd E i ⟨1,q,1⟩)+J1e tag:Nat):Int)*KK:=by rw [hv'];simp
    rw [e];exact .opn h1 (opq q h2) (fun vs ev=>by have:=h3 vs ev;omega)
   | reg h1 h2 h3=>
    obtain ⟨v,hv⟩:∃ v,Vc j E=v+1:=⟨Vc j E-1,by omega⟩;rw [hv] at hwg;have hw1:WgAt H.ty H.Wg w (((v:Nat)+1)*KK+((1:Nat):Int)) 0:=by simpa using hwg
    obtain ⟨g',hgo,hl,hq⟩:=hall v 1 (by omega) (by omega) hw1;by_cases hv0:v=0
    ·subst hv0;obtain ⟨m₂,hk⟩:=hl ⟨rfl,rfl⟩;refine book (d':=⟨4,m₂,1⟩) hgo (aside_setCell w (stA H.Wg) _) (hwg.setSt _) bk2 df2 (.d2 hk) rfl (by show 4<=6;omega) ?_ (.inl ⟨by show 4<_;omega,by simp [cnt]⟩);have hoth:∀ a,a<j->a≠i->(E a).stage=1:=fun a ha e=>by have c0:=others_uncounted hi hv hc1 a ha e;have:=h2 a ha;simp only [cnt] at c0;split at c0<;>omega
     have:=Jv.last (j:=j) (D:=upd E i ⟨4,m₂,1⟩) (tag:=tag) i h1 hi (by rw [upd_same];simp) (fun a ha e=>by rw [upd_ne E _ e];exact hoth a ha e);rw [upd_same] at this;simpa using this
    ·obtain ⟨q,hq⟩:=hq (by omega);have hv':Vc j (upd E i ⟨1,q,1⟩)=v:=by have:=Vc_upd E (⟨1,q,1⟩:WD) hi;have:=hq0 q;omega
     refine book (d':=⟨1,q,1⟩) hgo (aside_setCell w (stA H.Wg) _) (hwg.setSt _) bk2 df2 (.quit hq) rfl (by show 1<=6;omega) ?_ (.inl ⟨by show 1<_;omega,by simp [cnt]⟩);have e:((v:Nat):Int)*KK+((1:Nat):Int)=((Vc j (upd E i ⟨1,q,1⟩):Nat):Int)*KK+1:=by rw [hv'];simp
     rw [e];exact .reg h1 (opq q h2) (by omega)
   | last L _ h2 h3 h4=>
    by_cases e:i=L
    ·subst e;omega
    ·have:=h4 i hi e;omega
   | sema _ h2=>have:=h2 i hi;omega
   | fin _ h2=>have:=h2 i hi;omega
  ·obtain ⟨g',w',es,hgo,⟨rfl,rfl⟩,hg'⟩:=hstep w (RW.refl w);exact idle hgo (.d1 hg') rfl
 | d2 h=>
  rcases Goes.cases h with hstop|⟨m',rfl,hstep⟩
  ·obtain ⟨_,hx⟩:=hstop w (RW.refl w);obtain ⟨hW3,hoth,rfl,rfl⟩:=hmode.isLast hi (by omega);simp only [hsE] at hwg;obtain ⟨g',hgo,m₂,hk⟩:=hx (by simpa using hwg);refine book (d':=⟨3,m₂,1⟩) hgo (.refl H.Wg w) hwg (by intro e he;simp at he;subst he;exact bk_cell _ _ rfl) (by intro jx e he;match jx,he with|0,_=>exact .inr (by simp [deafBehind])|jx+1,he=>simp at he) (.d3 hk) rfl (by show 3<=6;omega) ?_ (.inl ⟨by show 3<_;omega,by simp [cnt]⟩);have:=Jv.last (j:=j) (D:=upd E i ⟨3,m₂,1⟩) (tag:=tag) i hW3 hi (by rw [upd_same];simp) (fun a ha e=>by rw [upd_ne E _ e];exact hoth a ha e);rw [upd_same] at this;simpa using this
  ·obtain ⟨g',w',es,hgo,⟨rfl,rfl⟩,hg'⟩:=hstep w (RW.refl w);exact idle hgo (.d2 hg') rfl
 | d3 h=>
  rcases Goes.cases h with hstop|⟨m',rfl,hstep⟩
  ·obtain ⟨_,hx⟩:=hstop w (RW.refl w);obtain ⟨hW3,hoth,rfl,rfl⟩:=hmode.isLast hi (by omega);simp only [hsE] at hwg;obtain ⟨g',hgo,m₂,hk⟩:=hx (by simpa using hwg);refine book (d':=⟨2,m₂,1⟩) hgo (aside_setCell w (stA H.Wg) _) (hwg.setSt 0) (by intro e he;simp at he;subst he;exact bk_cell _ _ rfl) (by intro jx e he;match jx,he with|0,_=>exact .inr (by simp [deafBehind])|jx+1,he=>simp at he) (.d4 hk) rfl (by show 2<=6;omega) ?_ (.inl ⟨by show 2<_;omega,by simp [cnt]⟩);have:=Jv.last (j:=j) (D:=upd E i ⟨2,m₂,1⟩) (tag:=tag) i hW3 hi (by rw [upd_same];simp) (fun a ha e=>by rw [upd_ne E _ e];exact hoth a ha e);rw [upd_same] at this;simpa using this
  ·obtain ⟨g',w',es,hgo,⟨rfl,rfl⟩,hg'⟩:=hstep w (RW.refl w);exact idle hgo (.d3 hg') rfl
 | d4 h=>
  rcases Goes.cases h with hstop|⟨m',rfl,hstep⟩
  ·obtain ⟨_,hmw,hx⟩:=hstop w (RW.refl w);obtain ⟨hW3,hoth,rfl,rfl⟩:=hmode.isLast hi (by omega);simp only [hsE] at hwg;obtain ⟨g',hgo,q,hq⟩:=hx (by simpa using hwg);have hrun':g'.status=.running:=by
    cases q with
    | zero=>exact absurd hq.2 (by decide)
    | succ q=>exact hq.elim (fun x=>absurd x.2 (by decide)) (fun x=>x.1)
   refine bookG (d':=⟨1,q,1⟩) hgo (aside_setCell w (smA H.Wg) _) (hwg.setSm 1) (es:=semEvents (smA H.Wg)) Jl9 ?_ (.quit hq) (by simp [deafBehind,semEvents]) (by show 1<=6;omega) ?_ (.inl ⟨by show 1<_;omega,by simp [cnt]⟩)
   ·intro jx e he
    match jx,he with
    | 0,he=>simp [semEvents] at he;subst he;exact .inl rfl
    | 1,_=>exact .inr (by simp [deafBehind,semEvents])
    | 2,_=>exact .inr (by simp [deafBehind,semEvents])
    | 3,he=>simp [semEvents] at he;subst he;exact .inl rfl
    | jx+4,he=>simp [semEvents] at he
   ·intro tag' ht hw;have hnb:=hw hmw hrun';have e3:tag'=.wr\/tag'=.w3:=by
     rcases ht with rfl|⟨_,rfl⟩
     ·cases tag'<;>first|exact .inl rfl|exact .inr rfl|exact hW3.elim|exact absurd rfl hnb
     ·exact .inr rfl
    simp only [if_true];exact .sema e3 fun a ha=>by
     by_cases e:a=i
     ·subst e;rw [upd_same]
     ·rw [upd_ne E _ e];exact hoth a ha e
  ·obtain ⟨g',w',es,hgo,⟨rfl,rfl⟩,hg'⟩:=hstep w (RW.refl w);exact idle hgo (.d4 hg') rfl
 | quit h=>
  cases m with
  | zero=>rw [h.1] at hrun;cases hrun
  | succ qq=>
   rcases h with ⟨hf,_⟩|⟨_,g',es,hmute,hstep,hq⟩
   ·rw [hf] at hrun;cases hrun
   ·have hbk:∀ e∈es,Bk H.Wg e:=fun e he=>bk_of_mute (hmute e he);have hno:∀ jx e,es[jx]?=some e->(MemAct.ofEvent e).touch?=none\/0<deafBehind dd (es.extract 0 jx):=fun jx e he=>.inl (by
     rcases bk_of_mute (Wg:=H.Wg) (hmute e (Jc5 he)) with h1|h1|⟨a,wr,rfl,_⟩
     ·rw [ofEvent_loc_mark h1];rfl
     ·rw [ofEvent_loc_mark h1];rfl
     ·have:=hmute _ (Jc5 he);simp [Event.mute] at this)
    refine book (d':=⟨1,qq,deafBehind dd es⟩) (hstep w) (.refl H.Wg w) hwg hbk hno (.quit hq) rfl (by show 1<=6;omega) ?_ (.inr ⟨hst.symm,by show qq+1=_;omega⟩);have:=hmode.same (i:=i) qq (deafBehind dd es)
    rwa [hsE] at this
end
end
end Go.Sim
end
section
set_option linter.unusedSectionVars false
namespace Go.Sim
open Go.Conc Go.ConcN
open Go.ConcR (KK wgBlock WgAt stA smA rd wr mk Payload DC0 Bk bk_of_mute ofEvent_loc_mark ofEvent_cell g_of_ofEvents)
section
variable [Payload] {H:Ph} {tag tag':J12} {j:Nat} {D:Nat->J0a} {f0 d0 f':Nat} {q:Nat->Nat} {gs:Array Goroutine} {w w':World} {sl:Option (Nat × Nat)} {t:Trace} {a a':Goroutine} {es:Array Event}
theorem JT.app0 (h:JT H j D d0 w t) (hA:Apart (ShJ H) (J38 H j D) (RdJ H j D)) (h0:H.t0.size<=t.size) (hz:w.heap.size<=w'.heap.size) {fn:FuncId} {pos:String}
  (hok:∀ e∈es,Ok0 (ShJ H) (J38 H j D) (RdJ H j D) (H.m+j) { g:=0,fn,pos,act:=.ofEvent e }) (hlow:∀ e∈es,(MemAct.ofEvent e).low w'.heap.size)
  (hpl:∀ e∈es,∀ x,(MemAct.ofEvent e).touch?=some x->¬ ShJ H x.loc->x.kind=.plain/\x.loc.isMemory=true) (hnr:∀ e∈es,MemAct.ofEvent e≠.mark (.release (stA H.Wg))) :
  JT H j D (deafBehind d0 es) w' (t++MemOp.ofEvents 0 fn pos es):=by
 have hg:∀ op∈MemOp.ofEvents 0 fn pos es,op.g=0:=fun op hop=>by obtain ⟨e,_,rfl⟩:=Conc.mem_ofEvents hop;rfl
 refine ⟨h.ct.app0 hA fun op hop=>?_,?_,?_,?_,?_,?_,?_,?_,?_⟩
 ·obtain ⟨e,he,rfl⟩:=Conc.mem_ofEvents hop;exact hok e he
 ·obtain ⟨u,hu⟩:=h.pre;exact ⟨u++MemOp.ofEvents 0 fn pos es,by rw [hu,Array.append_assoc]⟩
 ·refine seen_app (fun op hop=>MemAct.low_mono hz (h.low op hop)) fun op hop=>?_;obtain ⟨e,he,rfl⟩:=Conc.mem_ofEvents hop;exact hlow e he
 ·intro k op x hk hop hx;rcases getElem?_append_cases hop with ⟨_,h1⟩|⟨_,h1⟩
  ·exact h.new k op x hk h1 hx
  ·obtain ⟨e,he,rfl⟩:=Conc.mem_ofEvents h1;exact ⟨.inl rfl,hpl e he x hx⟩
 ·exact h.J9v.app fun op hop=>by obtain ⟨e,he,rfl⟩:=Conc.mem_ofEvents hop;exact hnr e he
 ·rw [Deaf_own,h.deaf0]
 ·intro k hk;rw [Deaf_other t (g:=H.m+1+k) (g':=0) (by omega) _ hg];exact h.deafW k hk
 ·intro k hk;rw [Deaf_other t (g:=k) (g':=0) (by omega) _ hg];exact h.above k hk
 ·intro k hk hs;obtain ⟨r,hr⟩:=h.rel k hk hs;exact ⟨r,hr.appOther hg (by omega)⟩
section
variable (hQ:∀ i own X v w w',H.Q i own X v w->J07 true X w w'->H.Q i own X v w')
include hQ
theorem J9y (h:JInv H tag j D f0 d0 q gs w t) (ha:gs[0]?=some a) (hgo:stepG H.P true a w=.go a' w' es) (hz:w.heap.size<=w'.heap.size) (ho:∀ k,k<j->Oth H k (D k).X w w') (hjw:JW H j D w')
  (hok:∀ e∈es,Ok0 (ShJ H) (J38 H j D) (RdJ H j D) (H.m+j) { g:=0,fn:=a.frame.fn,pos:=a.frame.place,act:=.ofEvent e }) (hlow:∀ e∈es,(MemAct.ofEvent e).low w'.heap.size)
  (hpl:∀ e∈es,∀ x,(MemAct.ofEvent e).touch?=some x->¬ ShJ H x.loc->x.kind=.plain/\x.loc.isMemory=true) (hnr:∀ e∈es,MemAct.ofEvent e≠.mark (.release (stA H.Wg)))
  (hs:J0s H tag' j f' (deafBehind d0 es) a' w') {st' sm':Int} (hwg:WgAt H.ty H.Wg w' st' sm') (hmode:Jv j (fun k=>(D k).d) tag' st' sm') (hsb:J9x H tag' j D w')
  (hacq:tag'=.fin->J8t H j (t++MemOp.ofEvents 0 a.frame.fn a.frame.place es))
  (hlt:J0y H.n (Vc j fun k=>(D k).d) tag'<J0y H.n (Vc j fun k=>(D k).d) tag\/(J0y H.n (Vc j fun k=>(D k).d) tag'=J0y H.n (Vc j fun k=>(D k).d) tag/\f'<f0)):J2x H tag j D f0 q 0 gs w sl t:=by
 have hrun:=runT_crowd_go (P:=H.P) (sl:=sl) (i:=0) ha hgo;have hlt0:0<gs.size:=(Ja3.1 ha).1;refine ⟨_,w',_,tag',j,D,f',deafBehind d0 es,q,hrun,⟨h.jn,by simpa using h.size,⟨a',by simp [hlt0],hs⟩,fun k hk=>?_,fun k b hk1 hk2 hb=>?_,hjw,h.jt.app0 h.jw.apart h.Ju8 hz hok hlow hpl hnr,⟨st',sm',hwg,hmode⟩,hsb,hacq⟩,.inr (.inr ⟨rfl,rfl,?_⟩)⟩
 ·obtain ⟨b,hb,hwb⟩:=h.ws k hk;refine ⟨b,?_,hwb.other H hQ (ho k hk)⟩;rw [Ja1 (by omega),Array.getElem?_map,hb];simp [J7p hwb.status]
 ·rw [Ja1 (by omega),Array.getElem?_map] at hb;obtain ⟨y,hy,rfl⟩:=Jc0.1 hb;have hq:=h.old k y hk1 hk2 hy;rw [woken_quitsD hq,Deaf_other t (g:=k) (g':=0) (by omega) _ g_of_ofEvents];exact hq
 ·unfold mu;rcases hlt with h1|⟨h1,h2⟩
  ·exact Prod.Lex.left _ _ (by omega)
  ·rw [h1];exact Prod.Lex.right _ (by omega)
theorem JW.J03e (h:JW H j D w) (hz:w'.heap.size=w.heap.size) (hb:∀ b,b≠H.Wg->w'.heap[b]?=w.heap[b]?) (os:w'.os=w.os) (out:w'.output=w.output):JW H j D w':=by
 have eC:=hb H.C h.cw;obtain ⟨cs,h1,h2⟩:=h.pay;exact ⟨fun b hb'=>(hb b (hb'.elim (fun z=>(h.sh0 b z).2.1) fun z e=>h.wW (e▸z))).trans (h.keep b hb'),⟨cs,eC.trans h1,h2⟩,fun k hk hs=>(cell_of_block eC k).trans (h.has k hk hs),fun k hk b hb'=>by rw [hz];exact h.low k hk b hb',h.J2o,h.J54,h.J5m,h.avoid,
  by rw [hz];exact h.wg,by rw [hz];exact h.c,h.cw,h.cW,h.wW,fun b hb'=>by rw [hz];exact h.sh0 b hb',fun b hb'=>by rw [hz];exact h.wl b hb',os.trans h.os,out.trans h.out⟩
theorem Jx6 {Own Rd:Nat->Loc->Prop} {k:Nat} {e:Event} (h:Bk H.Wg e\/e=mk (.read (smA H.Wg))\/e=mk (.write (smA H.Wg))\/e=mk (.acquire (stA H.Wg))) (fn:FuncId) (pos:String):Ok0 (ShJ H) Own Rd k { g:=0,fn,pos,act:=.ofEvent e }:=by
 refine ⟨rfl,fun x hx=>?_⟩;rcases h with (h1|h1|⟨a,wr,rfl,ha⟩)|rfl|rfl|rfl
 ·simp only [ofEvent_loc_mark h1] at hx;cases hx
 ·simp only [ofEvent_loc_mark h1] at hx;cases hx
 ·simp only [ofEvent_cell,MemAct.touch?,Jb2] at hx;subst hx;exact .inl ⟨⟨a,rfl,.inr ha⟩,by simp⟩
 ·simp only [mk,MemAct.ofEvent,MemAct.touch?,Jb2] at hx;subst hx;exact .inl ⟨⟨smA H.Wg,rfl,.inr rfl⟩,by simp⟩
 ·simp only [mk,MemAct.ofEvent,MemAct.touch?,Jb2] at hx;subst hx;exact .inl ⟨⟨smA H.Wg,rfl,.inr rfl⟩,by simp⟩
 ·simp [mk,MemAct.ofEvent,MemAct.touch?] at hx
theorem Jvp {B:Nat} (hB:H.Wg<B) {e:Event} (h:Bk H.Wg e\/e=mk (.read (smA H.Wg))\/e=mk (.write (smA H.Wg))\/e=mk (.acquire (stA H.Wg))):(MemAct.ofEvent e).low B:=by
 rcases h with h|rfl|rfl|rfl
 ·exact Jpc hB h
 ·exact hB
 ·exact hB
 ·exact hB
theorem Jx7 {e:Event} (h:Bk H.Wg e\/e=mk (.read (smA H.Wg))\/e=mk (.write (smA H.Wg))\/e=mk (.acquire (stA H.Wg))) {x:Touch} (hx:(MemAct.ofEvent e).touch?=some x):ShJ H x.loc:=by
 rcases h with h|rfl|rfl|rfl
 ·exact Ju9 h hx
 ·simp only [mk,MemAct.ofEvent,MemAct.touch?,Jb2] at hx;subst hx;exact ⟨smA H.Wg,rfl,.inr rfl⟩
 ·simp only [mk,MemAct.ofEvent,MemAct.touch?,Jb2] at hx;subst hx;exact ⟨smA H.Wg,rfl,.inr rfl⟩
 ·simp [mk,MemAct.ofEvent,MemAct.touch?] at hx
theorem Jvq {e:Event} (h:Bk H.Wg e\/e=mk (.read (smA H.Wg))\/e=mk (.write (smA H.Wg))\/e=mk (.acquire (stA H.Wg))):MemAct.ofEvent e≠.mark (.release (stA H.Wg)):=by
 rcases h with h|rfl|rfl|rfl
 ·exact Jiv h
 ·simp [mk,MemAct.ofEvent]
 ·simp [mk,MemAct.ofEvent]
 ·simp [mk,MemAct.ofEvent]
theorem book0 (h:JInv H tag j D f0 d0 q gs w t) (ha:gs[0]?=some a) (hgo:stepG H.P true a w=.go a' w' es) (hAs:Aside H.Wg w w') {st' sm':Int} (hwg:WgAt H.ty H.Wg w' st' sm')
  (hbk:∀ e∈es,Bk H.Wg e\/e=mk (.read (smA H.Wg))\/e=mk (.write (smA H.Wg))\/e=mk (.acquire (stA H.Wg))) (hs:J0s H tag' j f' (deafBehind d0 es) a' w') (hmode:Jv j (fun k=>(D k).d) tag' st' sm') (hsb:J9x H tag j D w->J9x H tag' j D w)
  (hacq:tag'=.fin->J8t H j (t++MemOp.ofEvents 0 a.frame.fn a.frame.place es))
  (hlt:J0y H.n (Vc j fun k=>(D k).d) tag'<J0y H.n (Vc j fun k=>(D k).d) tag\/(J0y H.n (Vc j fun k=>(D k).d) tag'=J0y H.n (Vc j fun k=>(D k).d) tag/\f'<f0)):J2x H tag j D f0 q 0 gs w sl t:=by
 have hJ:=h.jw;refine J9y hQ h ha hgo (Nat.le_of_eq hAs.size.symm) (fun k hk=>⟨⟨fun b hb=>hAs.block b (hJ.avoid k hk b hb).1,Nat.le_of_eq hAs.size.symm,fun e=>by (cases e),hAs.os⟩,RW.of_wg hAs ⟨_,_,hwg⟩ hJ.cw⟩)
  (hJ.J03e hQ hAs.size (fun b hb=>hAs.block b hb) hAs.os hAs.output) (fun e he=>Jx6 hQ (hbk e he) _ _) (fun e he=>Jvp hQ (by rw [hAs.size];exact hJ.wg) (hbk e he)) (fun e he x hx hn=>absurd (Jx7 hQ (hbk e he) hx) hn) (fun e he=>Jvq hQ (hbk e he))
  hs hwg hmode ?_ hacq hlt
 exact (hsb h.sb).keep (.inl rfl) (fun s _ hs2 _ _=>hAs.block s hs2) (fun s _ hX=>hX)
theorem idle0 (h:JInv H tag j D f0 d0 q gs w t) (ha:gs[0]?=some a) (hgo:stepG H.P true a w=.go a' w #[]) (hs:J0s H tag j f' d0 a' w) (hf:f'<f0):J2x H tag j D f0 q 0 gs w sl t:=by obtain ⟨st,sm,hwg,hmode⟩:=h.wg;exact book0 hQ h ha hgo (.refl H.Wg w) hwg (by simp) hs hmode id (fun e=>(h.acq e).app fun i r _ hr=>hr.appOther g_of_ofEvents (by omega)) (.inr ⟨rfl,hf⟩)
end
end
end Go.Sim
end
section
set_option linter.unusedSectionVars false
namespace Go.Sim
open Go.Conc Go.ConcN
open Go.ConcR (KK wgBlock WgAt stA smA rd wr mk Payload DC0 Bk bk_of_mute ofEvent_loc_mark ofEvent_cell g_of_ofEvents ofEvent_mk)
section
variable {j:Nat} {D:Nat->WD} {tag tag':J12} {st sm:Int}
theorem Jv.open_inv (hm:Jv j D tag st sm) (h:Jaw tag):OpenSt j D/\st=((Vc j D+J1e tag:Nat):Int)*KK/\sm=0/\∀ vs,tag=.w2 vs->Vc j D<=vs/\1<=vs:=by
 cases hm with
 | opn _ h2 h3=>exact ⟨h2,rfl,rfl,h3⟩
 | reg h1 _ _=>cases tag<;>first|exact h.elim|exact h1.elim
 | last L h1 _ _ _=>cases tag<;>first|exact h.elim|exact h1.elim
 | sema h1 _=>rcases h1 with rfl|rfl<;>exact h.elim
 | fin h1 _=>cases tag<;>first|exact h.elim|exact h1.elim
theorem Jv.reopen (hm:Jv j D tag st sm) (h:Jaw tag) (h':Jaw tag') (hp:J1e tag'=J1e tag) (hw:∀ vs,tag'=.w2 vs->Vc j D<=vs/\1<=vs):Jv j D tag' st sm:=by obtain ⟨h2,rfl,rfl,_⟩:=hm.open_inv h;rw [<- hp];exact .opn h' h2 hw
theorem Jv.fin_inv (hm:Jv j D tag st sm) (h:Jx3 tag):AllQuit j D/\st=0/\sm=0:=by
 cases hm with
 | opn h1 _ _=>cases tag<;>first|exact h.elim|exact h1.elim
 | reg h1 _ _=>cases tag<;>first|exact h.elim|exact h1.elim
 | last L h1 _ _ _=>cases tag<;>first|exact h.elim|exact h1.elim
 | sema h1 _=>rcases h1 with rfl|rfl<;>exact h.elim
 | fin _ h2=>exact ⟨h2,rfl,rfl⟩
theorem Jv.Jpe (hm:Jv j D tag st sm) (h:jw3 tag) (h':jw3 tag') (hb:tag'=.blk->sm=0):Jv j D tag' st sm:=by
 cases hm with
 | opn h1 _ _=>cases tag<;>first|exact h.elim|exact h1.elim
 | reg _ h2 h3=>exact .reg h' h2 h3
 | last L _ h2 h3 h4=>exact .last L h' h2 h3 h4
 | sema _ h2=>
  refine .sema ?_ h2;cases tag'<;>first|exact .inl rfl|exact .inr rfl|exact h'.elim|exact absurd (hb rfl) (by decide)
 | fin h1 _=>cases tag<;>first|exact h.elim|exact h1.elim
theorem Jv.J03f (hm:Jv j D tag st sm) (h:jw3 tag):sm=0\/(st=0/\sm=1/\AllQuit j D):=by
 cases hm with
 | opn h1 _ _=>exact .inl rfl
 | reg _ h2 h3=>exact .inl rfl
 | last L _ h2 h3 h4=>exact .inl rfl
 | sema _ h2=>exact .inr ⟨rfl,rfl,h2⟩
 | fin h1 _=>exact .inl rfl
end
section
variable [Payload] {H:Ph} {tag tag':J12} {j:Nat} {D:Nat->J0a} {f0 d0 f':Nat} {q:Nat->Nat} {gs:Array Goroutine} {w w':World} {sl:Option (Nat × Nat)} {t:Trace} {a a':Goroutine} {es:Array Event}
theorem bk1 {e:Event} {es:List Event} (h:e∈es.toArray) (hb:∀ e∈es,Bk H.Wg e\/e=mk (.read (smA H.Wg))\/e=mk (.write (smA H.Wg))\/e=mk (.acquire (stA H.Wg))):Bk H.Wg e\/e=mk (.read (smA H.Wg))\/e=mk (.write (smA H.Wg))\/e=mk (.acquire (stA H.Wg)):=hb e (by simpa using h)
section
variable (hQ:∀ i own X v w w',H.Q i own X v w->J07 true X w w'->H.Q i own X v w')
include hQ
theorem Jmh {s:Nat} (h:JInv H (.go s) j D f0 d0 q gs w t) (ha:gs[0]?=some a) {r:Nat} (hr:r<H.n) (hj:j=H.n-(r+1)) (hd0:d0=0) (hG:JGo H j s (JSp H r) a w):J2x H (.go s) j D f0 q 0 gs w sl t:=by
 have hJ:=h.jw;obtain ⟨hs1,hs2,hs3,hs4,hs5,hs6⟩:=h.sb;obtain ⟨a',child,hsp,hcr,hco,hR,har,hnext⟩:=hG.2 (fun b hb=>hJ.keep b (.inl hb)) hs1 hJ.os;obtain ⟨st,sm,hwg,hmode⟩:=h.wg;obtain ⟨ho,rfl,rfl,_⟩:=hmode.open_inv trivial;have hrun:=runT_crowd_spawn (P:=H.P) (sl:=sl) (i:=0) ha hsp;rw [h.size] at hrun;have hlt0:0<gs.size:=(Ja3.1 ha).1;have hslt:s<w.heap.size:=(Ja3.1 hs1).1
 let D':J0a:=⟨fun _=>False,fun b=>H.Sh0 b\/b=s,undef,some ⟨fun _=>False,fun b=>H.Sh0 b\/b=s,child,w⟩,⟨7,0,0⟩⟩
 have other:∀ k,k<j->upd D j D' k=D k:=fun k hk=>upd_ne D D' (by omega);have hjw:JW H (j+1) (upd D j D') w:=by
  refine ⟨hJ.keep,hJ.pay,fun k hk hs=>?_,fun k hk b hb=>?_,fun k hk b hb=>?_,fun a b ha hb hab c hc=>?_,fun k hk b hb=>?_,fun k hk b hb=>?_,hJ.wg,hJ.c,hJ.cw,hJ.cW,hJ.wW,hJ.sh0,hJ.wl,hJ.os,hJ.out⟩
  ·rcases Jb5 k j with h1|h1
   ·rw [other k h1] at hs ⊢;exact hJ.has k h1 hs
   ·obtain rfl:k=j:=by omega
    rw [upd_same] at hs;exact absurd hs (by show ¬ (7<=6);omega)
  ·rcases Jb5 k j with h1|h1
   ·rw [other k h1] at hb;exact hJ.low k h1 b hb
   ·obtain rfl:k=j:=by omega
    rw [upd_same] at hb;rcases hb with hb|rfl
    ·exact (hJ.sh0 b hb).1
    ·exact hslt
  ·rcases Jb5 k j with h1|h1
   ·rw [other k h1] at hb ⊢;exact hJ.J2o k h1 b hb
   ·obtain rfl:k=j:=by omega
    rw [upd_same] at hb;exact hb.elim
  ·rcases Jb5 a j with h1|h1
   ·rw [other a h1] at hc;rcases Jb5 b j with h2|h2
    ·rw [other b h2];exact hJ.J54 a b h1 h2 hab c hc
    ·obtain rfl:b=j:=by omega
     rw [upd_same];rintro (hx|rfl)
     ·exact hJ.J5m a h1 c hc hx
     ·exact hs3 a h1 (hJ.J2o a h1 c hc)
   ·obtain rfl:a=j:=by omega
    rw [upd_same] at hc;exact hc.elim
  ·rcases Jb5 k j with h1|h1
   ·rw [other k h1] at hb;exact hJ.J5m k h1 b hb
   ·obtain rfl:k=j:=by omega
    rw [upd_same] at hb;exact hb.elim
  ·rcases Jb5 k j with h1|h1
   ·rw [other k h1] at hb;exact hJ.avoid k h1 b hb
   ·obtain rfl:k=j:=by omega
    rw [upd_same] at hb;rcases hb with hb|rfl
    ·exact (hJ.sh0 b hb).2
    ·exact ⟨hs4,hs5,hs6⟩
 have Jce:∀ k,k<=H.m+j->∀ l,J38 H (j+1) (upd D j D') k l↔J38 H j D k l:=by
  intro k hk l;constructor
  ·rintro ⟨i,hi,rfl,h1⟩;have h2:i<j:=by omega
   rw [other i h2] at h1;exact ⟨i,h2,rfl,h1⟩
  ·rintro ⟨i,hi,rfl,h1⟩;exact ⟨i,by omega,rfl,by rw [other i hi];exact h1⟩
 have rd1:∀ k,k<=H.m+j->∀ l,RdJ H (j+1) (upd D j D') k l↔RdJ H j D k l:=by
  intro k hk l;constructor
  ·rintro ⟨i,hi,rfl,h1⟩;have h2:i<j:=by omega
   rw [other i h2] at h1;exact ⟨i,h2,rfl,h1⟩
  ·rintro ⟨i,hi,rfl,h1⟩;exact ⟨i,by omega,rfl,by rw [other i hi];exact h1⟩
 let x:MemOp:={ g:=0,fn:=a.frame.fn,pos:=a.frame.place,act:=.go (H.m+j+1) }
 let y:MemOp:={ g:=H.m+j+1,fn:=child.frame.fn,pos:=a.frame.place,act:=.start }
 have eops:((MemOp.ofEvents 0 a.frame.fn a.frame.place #[]).push { g:=0,fn:=a.frame.fn,pos:=a.frame.place,act:=.go (H.m+1+j) }).push { g:=H.m+1+j,fn:=child.frame.fn,pos:=a.frame.place,act:=.start }=#[x,y]:=by rw [ofEvents_eq,show H.m+1+j=H.m+j+1 by omega];simp [x,y]
 rw [eops] at hrun;have hmem:∀ op∈#[x,y],op=x\/op=y:=by simp
 have hnt:∀ op∈#[x,y],op.act.touch?=none:=fun op hop=>by rcases hmem op hop with rfl|rfl<;>rfl
 have hct:CT (ShJ H) (J38 H (j+1) (upd D j D')) (RdJ H (j+1) (upd D j D')) (t++#[x,y]) (H.m+j+1):=by
  have c0:CT (ShJ H) (J38 H (j+1) (upd D j D')) (RdJ H (j+1) (upd D j D')) t (H.m+j):=
   Sim.CT.widen h.jt.ct (fun k _ kj l=>(Jce k kj l).2) (fun k _ kj l hl=>.inl ((Jce k kj l).1 hl)) (fun k _ kj l=>rd1 k kj l)
  exact c0.fork hjw.apart ⟨rfl,rfl⟩ ⟨rfl,rfl⟩ (by rw [h.jt.deaf0];exact hd0)
 have hst:∀ g,Deaf (t++#[x,y]) g=Deaf t g:=fun g=>Deaf_still t g #[x,y] fun op hop=>by rcases hmem op hop with rfl|rfl<;>(refine ⟨fun e=>?_,fun e=>?_⟩<;>first|(simp [x] at e;done)|(simp [y] at e;done))
 have hjt:JT H (j+1) (upd D j D') 0 w (t++#[x,y]):=by
  refine ⟨hct,?_,?_,?_,?_,?_,?_,?_,?_⟩
  ·obtain ⟨u,hu⟩:=h.jt.pre;exact ⟨u++#[x,y],by rw [hu,Array.append_assoc]⟩
  ·refine seen_app h.jt.low fun op hop=>?_;rcases hmem op hop with rfl|rfl<;>trivial
  ·intro k op z hk hop hz;rcases getElem?_append_cases hop with ⟨_,h1⟩|⟨_,h1⟩
   ·obtain ⟨h2,h3⟩:=h.jt.new k op z hk h1 hz;exact ⟨h2.imp id fun ⟨i',h4,h5⟩=>⟨i',by omega,h5⟩,h3⟩
   ·rw [hnt op h1] at hz;cases hz
  ·refine h.jt.J9v.app fun op hop=>?_;rcases hmem op hop with rfl|rfl<;>(intro e;first|(simp [x] at e;done)|(simp [y] at e;done))
  ·rw [hst,h.jt.deaf0,hd0]
  ·intro k hk;rw [hst];rcases Jb5 k j with h1|h1
   ·rw [other k h1];exact h.jt.deafW k h1
   ·obtain rfl:k=j:=by omega
    rw [upd_same];exact h.jt.above _ (by omega)
  ·intro k hk;rw [hst];exact h.jt.above k (by omega)
  ·intro k hk hs;rcases Jb5 k j with h1|h1
   ·rw [other k h1] at hs;obtain ⟨r,hr⟩:=h.jt.rel k h1 hs;refine ⟨r,hr.appNot fun op hop=>?_⟩;rcases hmem op hop with rfl|rfl
    ·show (0:Nat)≠_;omega
    ·show H.m+j+1≠_;omega
   ·obtain rfl:k=j:=by omega
    rw [upd_same] at hs;exact absurd hs (by show ¬ (7<=6);omega)
 have eV:Vc (j+1) (upd (fun k=>(D k).d) j D'.d)=Vc j (fun k=>(D k).d)+1:=by simp only [Vc,sumTo,upd_same];rw [sumTo_upd_out (fun k=>(D k).d) _ cnt (Ja2 _)];rfl
 have ho':OpenSt (j+1) (upd (fun k=>(D k).d) j D'.d):=fun i hi=>by
  by_cases e:i=j
  ·subst e;rw [upd_same];exact .inl rfl
  ·rw [upd_ne _ _ e];exact ho i (by omega)
 have hsit:∃ tag' f',J0s H tag' (j+1) f' 0 a' w/\Jaw tag'/\J1e tag'=0/\(∀ vs,tag'≠.w2 vs)/\(∀ D w,J9x H tag' (j+1) D w)/\tag'≠.fin:=by
  cases r with
  | zero=>
   obtain ⟨k,hk⟩:=hnext;have e:j+1=H.n:=by omega
   rw [e];exact ⟨.kd,k,.kd hk,trivial,rfl,by simp,fun _ _=>trivial,by simp⟩
  | succ r=>
   obtain ⟨k,hk⟩:=hnext;have e:j+1=H.n-(r+1):=by omega
   rw [e];exact ⟨.al,k,.al (by omega) hk,trivial,rfl,by simp,fun _ _=>trivial,by simp⟩
 obtain ⟨tag',f',hs',ht1,ht2,ht3,ht4,ht5⟩:=hsit;refine ⟨_,w,_,tag',j+1,upd D j D',f',0,q,hrun,⟨by omega,by simp [h.size];omega,⟨a',?_,hs'⟩,fun k hk=>?_,fun k b hk1 hk2 hb=>?_,hjw,hjt,⟨_,_,hwg,?_⟩,?_,fun e=>absurd e ht5⟩,.inl (by omega)⟩
 ·rw [Array.getElem?_push_lt (by simp [hlt0]),<- Ja4];simp [hlt0]
 ·rcases Jb5 k j with h1|h1
  ·obtain ⟨b,hb,hwb⟩:=h.ws k h1;refine ⟨b,?_,by rw [other k h1];exact hwb⟩;have hlt:H.m+1+k<gs.size:=(Ja3.1 hb).1;rw [Array.getElem?_push_lt (by simpa using hlt),<- Ja4,Ja1 (by omega)];exact hb
  ·obtain rfl:k=j:=by omega
   refine ⟨child,?_,by rw [upd_same];exact .work _ rfl rfl rfl rfl hR ⟨fun _ _=>rfl,Ja2 _,fun _=>rfl,rfl⟩ rfl hcr hco⟩;rw [show H.m+1+k=(gs.setIfInBounds 0 a').size by simp [h.size],Array.getElem?_push_size]
 ·have hlt:k<gs.size:=by have:=h.size;omega
  rw [Array.getElem?_push_lt (by simpa using hlt),<- Ja4,Ja1 (by omega)] at hb;rw [hst];exact h.old k b hk1 hk2 hb
 ·have hm:Jv (j+1) (fun k=>(upd D j D' k).d) tag' (((Vc (j+1) (fun k=>(upd D j D' k).d)+J1e tag':Nat):Int)*KK) 0:=.opn ht1 (by rw [J8u];exact ho') (fun vs e=>absurd e (ht3 vs));have e:(Vc (j+1) (fun k=>(upd D j D' k).d)+J1e tag':Nat)=Vc j (fun k=>(D k).d)+J1e (.go s):=by rw [J8u,eV,ht2];rfl
  rw [e] at hm;exact hm
 ·exact ht4 _ _
theorem J79 (hn:H.n<2147483648) (hAn:∀ g w,H.Anch g w->∃ m,Goes H.P true (RM H.ty H.Wg) DC0 (JW1 H.P H.ty H.Wg H.Fin H.Anch) m g w)
  (h:JInv H tag j D f0 d0 q gs w t) (ha:gs[0]?=some a) (hrun:a.status=.running) (hcs:J0s H tag j f0 d0 a w) :
  (tag=.fin/\∀ w₁,RM H.ty H.Wg w w₁->H.Fin a w₁)\/(∃ f',tag=.anch/\JInv H .w1 j D f' d0 q gs w t)\/J2x H tag j D f0 q 0 gs w sl t:=by
 have hJ:=h.jw;obtain ⟨st,sm,hwg,hmode⟩:=h.wg;have hVj:=Vc_le j (fun k=>(D k).d);cases hcs with
 | @al r f _ _ hr hG=>
  rcases Goes.cases hG with hstop|⟨m',rfl,hstep⟩
  ·obtain ⟨_,a',hgo,k,hk⟩:=hstop w id;have old:∀ b,b<w.heap.size->(w.heap.push (.cells #[.int .i64 0] H.tI))[b]?=w.heap[b]?:=fun b hb=>by rw [Array.getElem?_push_lt hb,<- Ja4]
   have hz:w.heap.size<=(w.heap.push (.cells #[.int .i64 0] H.tI)).size:=by simp
   refine .inr (.inr (J9y hQ h ha hgo hz (fun k hk=>⟨⟨fun b hb=>old b (hJ.low k hk b hb),hz,fun e=>by (cases e),rfl⟩,RW.of_same (old _ hJ.wg) (old _ hJ.c)⟩) ?_ (by simp) (by simp) (by simp) (by simp) (tag':=.st w.heap.size) (.st hr hk) (hwg.of_block (old _ hJ.wg)) (hmode.reopen trivial trivial rfl (by simp)) ?_ (by simp) (.inl (by simp only [J0y];omega))))
   ·obtain ⟨cs,h1,h2⟩:=hJ.pay;exact ⟨fun b hb=>(old b (hb.elim (fun z=>(hJ.sh0 b z).1) (hJ.wl b))).trans (hJ.keep b hb),⟨cs,(old _ hJ.c).trans h1,h2⟩,fun k hk hs=>(cell_of_block (old _ hJ.c) k).trans (hJ.has k hk hs),fun k hk b hb=>Jb7 (hJ.low k hk b hb) hz,hJ.J2o,hJ.J54,hJ.J5m,hJ.avoid,
     Jb7 hJ.wg hz,Jb7 hJ.c hz,hJ.cw,hJ.cW,hJ.wW,fun b hb=>⟨Jb7 (hJ.sh0 b hb).1 hz,(hJ.sh0 b hb).2⟩,fun b hb=>Jb7 (hJ.wl b hb) hz,hJ.os,hJ.out⟩
   ·refine ⟨by simp,fun hx=>?_,fun i hi hx=>?_,fun e=>?_,fun e=>?_,fun hx=>?_⟩
    ·exact absurd (hJ.sh0 _ hx).1 (by omega)
    ·exact absurd (hJ.low i hi _ hx) (by omega)
    ·exact absurd hJ.wg (by omega)
    ·exact absurd hJ.c (by omega)
    ·exact absurd (hJ.wl _ hx) (by omega)
  ·obtain ⟨a',w',es,hgo,⟨rfl,rfl⟩,hg'⟩:=hstep w id;exact .inr (.inr (idle0 hQ h ha hgo (.al hr hg') (by omega)))
 | @st r s f _ _ hr hG=>
  rcases Goes.cases hG with hstop|⟨m',rfl,hstep⟩
  ·obtain ⟨_,hx⟩:=hstop w id;obtain ⟨hs1,hs2,hs3,hs4,hs5,hs6⟩:=h.sb;obtain ⟨a',hgo,k,hk⟩:=hx hs1;have hslt:s<w.heap.size:=(Ja3.1 hs1).1;have keep:∀ b,b≠s->(w.setCell ⟨s,0,none⟩ (.int .i64 ((H.n-(r+1):Nat):Int))).heap[b]?=w.heap[b]?:=fun b hb=>(aside_setCell w ⟨s,0,none⟩ _).block b hb;have hz:(w.setCell ⟨s,0,none⟩ (.int .i64 ((H.n-(r+1):Nat):Int))).heap.size=w.heap.size:=(aside_setCell w ⟨s,0,none⟩ _).size;have hb:∀ e∈(#[⟨.cell ⟨s,0,none⟩,true,false⟩]:Array Event),e=⟨.cell ⟨s,0,none⟩,true,false⟩:=by simp
   have bl:∀ l:Loc,∀ b,J53 l=some b->l=.cell ⟨s,0,none⟩->b=s:=fun l b h1 h2=>by rw [h2] at h1;simp [J53] at h1;exact h1.symm
   refine .inr (.inr (J9y hQ h ha hgo (Nat.le_of_eq hz.symm) (fun k hk=>⟨⟨fun b hb=>keep b (fun e=>hs3 k hk (e▸hb)),Nat.le_of_eq hz.symm,fun e=>by (cases e),rfl⟩,RW.of_same (keep _ (Ne.symm hs4)) (keep _ (Ne.symm hs5))⟩) ?_ (fun e he=>?_) (fun e he=>?_) (fun e he x hx hn=>?_) (fun e he=>?_) (tag':=.kds s) (.kds hr hk)
    (hwg.of_block (keep _ (Ne.symm hs4))) (hmode.reopen trivial trivial rfl (by simp)) ?_ (by simp) (.inl (by simp only [J0y];omega))))
   ·obtain ⟨cs,h1,h2⟩:=hJ.pay;have eC:=keep _ (Ne.symm hs5);exact ⟨fun b hb=>(keep b (fun e=>hb.elim (fun z=>hs2 (e▸z)) fun z=>hs6 (e▸z))).trans (hJ.keep b hb),⟨cs,eC.trans h1,h2⟩,fun k hk hs=>(cell_of_block eC k).trans (hJ.has k hk hs),fun k hk b hb=>by rw [hz];exact hJ.low k hk b hb,hJ.J2o,hJ.J54,hJ.J5m,hJ.avoid,
     by rw [hz];exact hJ.wg,by rw [hz];exact hJ.c,hJ.cw,hJ.cW,hJ.wW,fun b hb=>by rw [hz];exact hJ.sh0 b hb,fun b hb=>by rw [hz];exact hJ.wl b hb,hJ.os,hJ.out⟩
   ·rw [hb e he];refine ⟨rfl,fun x hx=>?_⟩;simp only [ofEvent_cell,MemAct.touch?,Jb2] at hx;subst hx;refine .inr ⟨?_,?_,?_⟩
    ·rintro ⟨a,ha,hw⟩;simp only [Loc.cell.injEq] at ha;subst ha;exact hw.elim hs6 hs4
    ·rintro k _ _ ⟨i,hi,_,h1⟩;rcases h1 with ⟨b,h1,h2⟩|h1
     ·have:=bl _ b h1 rfl;subst this;exact hs3 i hi (hJ.J2o i hi _ h2)
     ·simp only [Loc.cell.injEq,Addr.mk.injEq] at h1;exact hs5 h1.1
    ·rintro _ k _ _ ⟨i,hi,_,b,h1,h2,_⟩;have:=bl _ b h1 rfl;subst this;exact hs3 i hi h2
   ·rw [hb e he];show s<_;rw [hz];exact hslt
   ·rw [hb e he] at hx;simp only [ofEvent_cell,MemAct.touch?,Jb2] at hx;subst hx;exact ⟨rfl,rfl⟩
   ·rw [hb e he];simp [MemAct.ofEvent]
   ·exact ⟨one_setCell hs1,hs2,hs3,hs4,hs5,hs6⟩
  ·obtain ⟨a',w',es,hgo,⟨rfl,rfl⟩,hg'⟩:=hstep w id;exact .inr (.inr (idle0 hQ h ha hgo (.st hr hg') (by omega)))
 | @kds r s f _ _ hr hG=>
  rcases Goes.cases hG with hstop|⟨m',rfl,hstep⟩
  ·obtain ⟨_,a',hgo,k,hk⟩:=hstop w id;exact .inr (.inr (book0 hQ h ha hgo (.refl H.Wg w) hwg (fun e he=>bk1 he (by simp [Bk,mk])) (tag':=.a1 s) (.a1 hr hk) (hmode.reopen trivial trivial rfl (by simp)) id (by simp) (.inl (by simp only [J0y];omega))))
  ·obtain ⟨a',w',es,hgo,⟨rfl,rfl⟩,hg'⟩:=hstep w id;exact .inr (.inr (idle0 hQ h ha hgo (.kds hr hg') (by omega)))
 | @a1 r s f _ _ hr hG=>
  rcases Goes.cases hG with hstop|⟨m',rfl,hstep⟩
  ·obtain ⟨_,hall⟩:=hstop w id;obtain ⟨ho,rfl,rfl,_⟩:=hmode.open_inv trivial;obtain ⟨a',hgo,h0,h1⟩:=hall (Vc (H.n-(r+1)) fun k=>(D k).d) (by omega) (by simpa [J1e] using hwg);have bks:∀ e∈#[rd (stA H.Wg),wr (stA H.Wg)],Bk H.Wg e\/e=mk (.read (smA H.Wg))\/e=mk (.write (smA H.Wg))\/e=mk (.acquire (stA H.Wg)):=fun e he=>.inl (by simp at he;rcases he with rfl|rfl<;>exact bk_cell _ _ rfl);have hm:∀ tag',Jaw tag'->J1e tag'=1->(∀ vs,tag'≠.w2 vs)->Jv (H.n-(r+1)) (fun k=>(D k).d) tag' ((((Vc (H.n-(r+1)) fun k=>(D k).d):Nat):Int)*KK+1*KK) 0:=fun tag' h1 h2 h3=>by
    have e:((((Vc (H.n-(r+1)) fun k=>(D k).d):Nat):Int)*KK+1*KK)=(((Vc (H.n-(r+1)) fun k=>(D k).d)+J1e tag':Nat):Int)*KK:=by rw [h2,Int.natCast_add,Int.add_mul];rfl
    rw [e];exact .opn h1 ho (fun vs e=>absurd e (h3 vs))
   have e2:((((Vc (H.n-(r+1)) fun k=>(D k).d):Nat):Int)+1)*KK=((((Vc (H.n-(r+1)) fun k=>(D k).d):Nat):Int)*KK+1*KK):=Int.add_mul _ _ _;by_cases hv:(Vc (H.n-(r+1)) fun k=>(D k).d)=0
   ·obtain ⟨k,hk⟩:=h0 hv;exact .inr (.inr (book0 hQ h ha hgo (aside_setCell w (stA H.Wg) _) (hwg.setSt _) bks (tag':=.rd s) (.rd hr hk) (by rw [e2];exact hm _ trivial rfl (by simp)) id (by simp) (.inl (by simp only [J0y];omega))))
   ·obtain ⟨k,hk⟩:=h1 hv;exact .inr (.inr (book0 hQ h ha hgo (aside_setCell w (stA H.Wg) _) (hwg.setSt _) bks (tag':=.kes s) (.kes hr hk) (by rw [e2];exact hm _ trivial rfl (by simp)) id (by simp) (.inl (by simp only [J0y];omega))))
  ·obtain ⟨a',w',es,hgo,⟨rfl,rfl⟩,hg'⟩:=hstep w id;exact .inr (.inr (idle0 hQ h ha hgo (.a1 hr hg') (by omega)))
 | @rd r s f _ _ hr hG=>
  rcases Goes.cases hG with hstop|⟨m',rfl,hstep⟩
  ·obtain ⟨_,a',hgo,k,hk⟩:=hstop w id;exact .inr (.inr (book0 hQ h ha hgo (.refl H.Wg w) hwg (fun e he=>bk1 he (by simp)) (tag':=.kes s) (.kes hr hk) (hmode.reopen trivial trivial rfl (by simp)) id (by simp) (.inl (by simp only [J0y];omega))))
  ·obtain ⟨a',w',es,hgo,⟨rfl,rfl⟩,hg'⟩:=hstep w id;exact .inr (.inr (idle0 hQ h ha hgo (.rd hr hg') (by omega)))
 | @kes r s f _ _ hr hG=>
  rcases Goes.cases hG with hstop|⟨m',rfl,hstep⟩
  ·obtain ⟨_,a',hgo,k,hk⟩:=hstop w id;exact .inr (.inr (book0 hQ h ha hgo (.refl H.Wg w) hwg (fun e he=>bk1 he (by simp [Bk,mk])) (tag':=.go s) (.go hr hk) (hmode.reopen trivial trivial rfl (by simp)) id (by simp) (.inl (by simp only [J0y];omega))))
  ·obtain ⟨a',w',es,hgo,⟨rfl,rfl⟩,hg'⟩:=hstep w id;exact .inr (.inr (idle0 hQ h ha hgo (.kes hr hg') (by omega)))
 | @go r s f _ _ hr hG=>
  rcases Goes.cases hG with hstop|⟨m',rfl,hstep⟩
  ·exact .inr (.inr (Jmh hQ h ha hr rfl rfl (hstop w id)))
  ·obtain ⟨a',w',es,hgo,⟨rfl,rfl⟩,hg'⟩:=hstep w id;exact .inr (.inr (idle0 hQ h ha hgo (.go hr hg') (by omega)))
 | kd hG=>
  rcases Goes.cases hG with hstop|⟨m',rfl,hstep⟩
  ·obtain ⟨_,a',hgo,k,hk⟩:=hstop w id;exact .inr (.inr (book0 hQ h ha hgo (.refl H.Wg w) hwg (fun e he=>bk1 he (by simp [Bk,mk])) (tag':=.anch) (.anch hk) (hmode.reopen trivial trivial rfl (by simp)) (fun _=>trivial) (by simp) (.inl (by simp only [J0y];omega))))
  ·obtain ⟨a',w',es,hgo,⟨rfl,rfl⟩,hg'⟩:=hstep w id;exact .inr (.inr (idle0 hQ h ha hgo (.kd hg') (by omega)))
 | anch hG=>
  rcases Goes.cases hG with hstop|⟨m',rfl,hstep⟩
  ·obtain ⟨m,hm⟩:=hAn a w (hstop w id);exact .inr (.inl ⟨m,rfl,⟨h.jn,h.size,⟨a,ha,.w1 hm⟩,h.ws,h.old,h.jw,h.jt,⟨st,sm,hwg,hmode.reopen trivial trivial rfl (by simp)⟩,trivial,by simp⟩⟩)
  ·obtain ⟨a',w',es,hgo,⟨rfl,rfl⟩,hg'⟩:=hstep w id;exact .inr (.inr (idle0 hQ h ha hgo (.anch hg') (by omega)))
 | w1 hG=>
  rcases Goes.cases hG with hstop|⟨m',rfl,hstep⟩
  ·obtain ⟨_,hall⟩:=hstop w id;obtain ⟨ho,rfl,rfl,_⟩:=hmode.open_inv trivial;obtain ⟨a',hgo,h0,hne⟩:=hall (Vc H.n fun k=>(D k).d) (by omega) (by simpa [J1e] using hwg);by_cases hv:(Vc H.n fun k=>(D k).d)=0
   ·obtain ⟨k,hk⟩:=h0 hv;refine .inr (.inr (book0 hQ h ha hgo (.refl H.Wg w) hwg (fun e he=>bk1 he (by simp [Bk,rd,stA])) (tag':=.ke) (.ke hk) ?_ (fun _=>trivial) (by simp) (.inl (by simp only [J0y];omega))));have e:(((Vc H.n fun k=>(D k).d)+J1e .w1:Nat):Int)*KK=0:=by rw [hv];simp [J1e]
    rw [e];exact .fin trivial (allQuit_of ho hv)
   ·obtain ⟨k,hk⟩:=hne hv;exact .inr (.inr (book0 hQ h ha hgo (.refl H.Wg w) hwg (fun e he=>bk1 he (by simp [Bk,rd,stA])) (tag':=.w2 (Vc H.n fun k=>(D k).d)) (.w2 hk) (hmode.reopen trivial trivial rfl (fun vs e=>by cases e;omega)) (fun _=>trivial) (by simp) (.inl (by simp only [J0y];omega))))
  ·obtain ⟨a',w',es,hgo,⟨rfl,rfl⟩,hg'⟩:=hstep w id;exact .inr (.inr (idle0 hQ h ha hgo (.w1 hg') (by omega)))
 | @w2 vs f _ _ hG=>
  rcases Goes.cases hG with hstop|⟨m',rfl,hstep⟩
  ·obtain ⟨_,hall⟩:=hstop w id;obtain ⟨ho,rfl,rfl,hvs⟩:=hmode.open_inv trivial;obtain ⟨hle,h1⟩:=hvs vs rfl;obtain ⟨hhit,hmiss⟩:=hall (Vc H.n fun k=>(D k).d) (by omega) (by simpa [J1e] using hwg);by_cases hv:(Vc H.n fun k=>(D k).d)=vs
   ·obtain ⟨a',hgo,k,hk⟩:=hhit hv;exact .inr (.inr (book0 hQ h ha hgo (aside_setCell w (stA H.Wg) _) (hwg.setSt _) (fun e he=>.inl (by simp at he;rcases he with rfl|rfl<;>exact bk_cell _ _ rfl)) (tag':=.wr) (.wr hk) (.reg trivial ho (by omega)) (fun _=>trivial) (by simp) (.inl (by simp only [J0y];omega))))
   ·obtain ⟨a',hgo,k,hk⟩:=hmiss hv;exact .inr (.inr (book0 hQ h ha hgo (.refl H.Wg w) hwg (fun e he=>bk1 he (by simp [Bk,rd,stA])) (tag':=.anch) (.anch hk) (hmode.reopen trivial trivial rfl (by simp)) (fun _=>trivial) (by simp) (.inl (by simp only [J0y];omega))))
  ·obtain ⟨a',w',es,hgo,⟨rfl,rfl⟩,hg'⟩:=hstep w id;exact .inr (.inr (idle0 hQ h ha hgo (.w2 hg') (by omega)))
 | wr hG=>
  rcases Goes.cases hG with hstop|⟨m',rfl,hstep⟩
  ·obtain ⟨_,a',hgo,k,hk⟩:=hstop w id;exact .inr (.inr (book0 hQ h ha hgo (.refl H.Wg w) hwg (fun e he=>bk1 he (by simp)) (tag':=.w3) (.w3 hk) (hmode.Jpe trivial trivial (by simp)) (fun _=>trivial) (by simp) (.inl (by simp only [J0y];omega))))
  ·obtain ⟨a',w',es,hgo,⟨rfl,rfl⟩,hg'⟩:=hstep w id;exact .inr (.inr (idle0 hQ h ha hgo (.wr hg') (by omega)))
 | w3 hG=>
  rcases Goes.cases hG with hstop|⟨m',rfl,hstep⟩
  ·obtain ⟨_,_,hblk,htake⟩:=hstop w id;rcases hmode.J03f trivial with rfl|⟨rfl,rfl,hq⟩
   ·exact .inr (.inr (book0 hQ h ha (hblk ⟨_,hwg⟩) (.refl H.Wg w) hwg (by simp) (tag':=.blk) (.blk hstop) (hmode.Jpe trivial trivial (fun _=>rfl)) (fun _=>trivial) (by simp) (.inr ⟨rfl,by omega⟩)))
   ·obtain ⟨a',hgo,k,hk⟩:=htake hwg;exact .inr (.inr (book0 hQ h ha hgo (aside_setCell w (smA H.Wg) _) (hwg.setSm 0) (fun e he=>.inl (Jl9 e he)) (tag':=.w4) (.w4 hk) (.fin trivial hq) (fun _=>trivial) (by simp) (.inl (by simp only [J0y];omega))))
  ·obtain ⟨a',w',es,hgo,⟨rfl,rfl⟩,hg'⟩:=hstep w id;exact .inr (.inr (idle0 hQ h ha hgo (.w3 hg') (by omega)))
 | blk h=>simp at hrun
 | w4 hG=>
  rcases Goes.cases hG with hstop|⟨m',rfl,hstep⟩
  ·obtain ⟨_,hx⟩:=hstop w id;obtain ⟨hq,rfl,rfl⟩:=hmode.fin_inv trivial;obtain ⟨a',hgo,k,hk⟩:=hx hwg;exact .inr (.inr (book0 hQ h ha hgo (.refl H.Wg w) hwg (fun e he=>bk1 he (by simp [Bk,rd,stA])) (tag':=.ke) (.ke hk) (.fin trivial hq) (fun _=>trivial) (by simp) (.inl (by simp only [J0y];omega))))
  ·obtain ⟨a',w',es,hgo,⟨rfl,rfl⟩,hg'⟩:=hstep w id;exact .inr (.inr (idle0 hQ h ha hgo (.w4 hg') (by omega)))
 | ke hG=>
  rcases Goes.cases hG with hstop|⟨m',rfl,hstep⟩
  ·obtain ⟨_,a',hgo,k,hk⟩:=hstop w id;obtain ⟨hq,rfl,rfl⟩:=hmode.fin_inv trivial;exact .inr (.inr (book0 hQ h ha hgo (.refl H.Wg w) hwg (fun e he=>bk1 he (by simp [Bk,mk])) (tag':=.acq) (.acq hk) (.fin trivial hq) (fun _=>trivial) (by simp) (.inl (by simp only [J0y];omega))))
  ·obtain ⟨a',w',es,hgo,⟨rfl,rfl⟩,hg'⟩:=hstep w id;exact .inr (.inr (idle0 hQ h ha hgo (.ke hg') (by omega)))
 | acq hG=>
  rcases Goes.cases hG with hstop|⟨m',rfl,hstep⟩
  ·obtain ⟨_,a',hgo,k,hk⟩:=hstop w id;obtain ⟨hq,rfl,rfl⟩:=hmode.fin_inv trivial;refine .inr (.inr (book0 hQ h ha hgo (.refl H.Wg w) hwg (fun e he=>bk1 he (by simp)) (tag':=.fin) (.fin hk) (.fin trivial hq) (fun _=>trivial) (fun _=>?_) (.inl (by simp only [J0y];omega))));have e1:MemOp.ofEvents 0 a.frame.fn a.frame.place #[mk (.acquire (stA H.Wg))]=#[{ g:=0,fn:=a.frame.fn,pos:=a.frame.place,act:=.mark (.acquire (stA H.Wg)) }]:=by rw [ofEvents_eq];simp [ofEvent_mk]
   have hy:(t++#[({ g:=0,fn:=a.frame.fn,pos:=a.frame.place,act:=.mark (.acquire (stA H.Wg)) }:MemOp)])[t.size]?=some { g:=0,fn:=a.frame.fn,pos:=a.frame.place,act:=.mark (.acquire (stA H.Wg)) }:=by simp
   refine ⟨t.size,by rw [e1,act?_of hy],by rw [e1];simp [Trace.g?],by rw [e1];exact ⟨0,by simp [Trace.g?],by rw [deaf_old (Ja2 _)];exact h.jt.deaf0⟩,fun i hi=>?_⟩;obtain ⟨r,hr⟩:=h.jt.rel i hi (by have:=hq i hi;simp only at this;rw [this];omega);exact ⟨r,hr.appOther g_of_ofEvents (by omega),lt_of_act? hr.act⟩
  ·obtain ⟨a',w',es,hgo,⟨rfl,rfl⟩,hg'⟩:=hstep w id;exact .inr (.inr (idle0 hQ h ha hgo (.acq hg') (by omega)))
 | fin hG=>
  rcases Goes.cases hG with hstop|⟨m',rfl,hstep⟩
  ·exact .inl ⟨rfl,hstop⟩
  ·obtain ⟨a',w',es,hgo,⟨rfl,rfl⟩,hg'⟩:=hstep w id;exact .inr (.inr (idle0 hQ h ha hgo (.fin hg') (by omega)))
end
end
end Go.Sim
end
