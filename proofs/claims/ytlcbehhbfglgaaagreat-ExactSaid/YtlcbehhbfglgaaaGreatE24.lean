/- PROVED HERE: laws that the statement rests on (parts Tm, Tn, To, Ud, Ue). Conditions: none. -/
import Derived.Control
import Derived.Test.YtlcbehhbfglgaaaGreatE20
import Derived.Test.YtlcbehhbfglgaaaGreatE23
set_option linter.all false
section
set_option linter.unusedSectionVars false
namespace Go.Sim
open Go.Conc Go.ConcN
open Go.ConcR (KK wgBlock WgAt stA smA rd wr mk Payload DC0 Bk bk_of_mute ofEvent_loc_mark ofEvent_cell g_of_ofEvents ofEvent_mk)
section
variable [Payload] {H:Ph} {tag tag':JTag} {j:Nat} {D:Nat→WDat} {f0 d0 f':Nat} {q:Nat→Nat} {gs:Array Goroutine} {w w':World} {sl:Option (Nat × Nat)} {t:Trace} {a a':Goroutine} {es:Array Event}
theorem JSit.status (hAr:∀ g w,H.Anch g w→g.status=.running) (hFr:∀ g w,H.Fin g w→g.status=.running) {d:Nat} (h:JSit H tag j f' d a w):a.status=.running∨(a.status=.blocked∧tag=.blk):=by
 have gm:∀ {Stop:Goroutine→World→Prop} {n:Nat},(∀ g w,Stop g w→g.status=.running)→Goes H.P true (RM H.ty H.Wg) DC0 Stop n a w→a.status=.running:=fun hs hg=>Goes.running hs w id hg
 cases h with
 | al hr h=>exact .inl (gm (fun _ _ x=>x.1) h)
 | st hr h=>exact .inl (gm (fun _ _ x=>x.1) h)
 | kds hr h=>exact .inl (gm (fun _ _ x=>x.1) h)
 | a1 hr h=>exact .inl (gm (fun _ _ x=>x.1) h)
 | rd hr h=>exact .inl (gm (fun _ _ x=>x.1) h)
 | kes hr h=>exact .inl (gm (fun _ _ x=>x.1) h)
 | go hr h=>exact .inl (gm (fun _ _ x=>x.1) h)
 | kd h=>exact .inl (gm (fun _ _ x=>x.1) h)
 | anch h=>exact .inl (gm hAr h)
 | w1 h=>exact .inl (gm (fun _ _ x=>x.1) h)
 | w2 h=>exact .inl (gm (fun _ _ x=>x.1) h)
 | wr h=>exact .inl (gm (fun _ _ x=>x.1) h)
 | w3 h=>exact .inl (gm (fun _ _ x=>x.1) h)
 | w4 h=>exact .inl (gm (fun _ _ x=>x.1) h)
 | ke h=>exact .inl (gm (fun _ _ x=>x.1) h)
 | acq h=>exact .inl (gm (fun _ _ x=>x.1) h)
 | fin h=>exact .inl (gm hFr h)
 | blk h=>exact .inr ⟨rfl,rfl⟩
theorem WS.running_of {i:Nat} {D:WDat} {g:Goroutine} (h:WS H i D g w) (hs:D.d.stage≠1):g.status=.running:=by
 cases h with
 | work y _ _ _ _ _ _ _ hs=>exact hs
 | r0 _ f _ hs=>exact Goes.running (fun _ _ x=>x.1) w (RW.refl w) hs
 | tail _ _ hs'=>exact WSit.running_of hs' hs
theorem JInv.at (hQ:∀ i own X v w w',H.Q i own X v w→Rely true X w w'→H.Q i own X v w') (h:JInv H tag j D f0 d0 q gs w t) (d:Nat):JInv H tag j D f0 d0 q gs (w.at d) t:=by
 obtain ⟨a,ha,hs⟩:=h.main
 have hJ:=h.jw
 have hT:=h.jt
 refine ⟨h.jn,h.size,⟨a,ha,hs.rely H (fun x=>x)⟩,fun i hi=>?_,h.old,⟨hJ.keep,hJ.pay,hJ.has,hJ.low,hJ.ownX,hJ.disj,hJ.own0,hJ.avoid,hJ.wg,hJ.c,hJ.cw,hJ.cW,hJ.wW,hJ.sh0,hJ.wl,hJ.os,hJ.out⟩,
  ⟨hT.ct,hT.pre,hT.low,hT.new,hT.nrel,hT.deaf0,hT.deafW,hT.above,hT.rel⟩,h.wg,h.sb,h.acq⟩
 obtain ⟨g,hg,hw⟩:=h.ws i hi
 exact ⟨g,hg,hw.other H hQ ⟨⟨fun _ _=>rfl,Nat.le_refl _,fun e=>by (cases e),rfl⟩,RW.of_same rfl rfl⟩⟩
section
variable (hAr:∀ g w,H.Anch g w→g.status=.running) (hFr:∀ g w,H.Fin g w→g.status=.running)
include hAr hFr
theorem JInv.someone (h:JInv H tag j D f0 d0 q gs w t):∃ (i:Nat) (g:Goroutine),gs[i]?=some g∧g.status=.running:=by
 obtain ⟨a,ha,hs⟩:=h.main
 rcases hs.status hAr hFr with hr|⟨_,rfl⟩
 ·exact ⟨0,a,ha,hr⟩
 ·obtain ⟨st,sm,_,hmode⟩:=h.wg
  cases hmode with
  | opn h1 _ _=>exact h1.elim
  | reg _ _ h3=>
   obtain ⟨i,hi,h5⟩:=exists_counted h3
   obtain ⟨g,hg,hw⟩:=h.ws i hi
   exact ⟨_,g,hg,hw.running_of (by omega)⟩
  | last L _ h2 h3 _=>
   obtain ⟨g,hg,hw⟩:=h.ws L h2
   exact ⟨_,g,hg,hw.running_of (by omega)⟩
  | sema h1 _=>rcases h1 with h1|h1<;>cases h1
  | fin h1 _=>exact h1.elim
theorem JInv.awake (h:JInv H tag j D f0 d0 q gs w t):∀ g∈gs,awake g:=by
 intro g hg
 obtain ⟨i,hi⟩:=Array.mem_iff_getElem?.1 hg
 obtain ⟨a,ha,hs⟩:=h.main
 have hlt:=(Array.getElem?_eq_some_iff.1 hi).1
 rw [h.size] at hlt
 rcases Nat.eq_zero_or_pos i with rfl|hpos
 ·rw [ha] at hi;cases hi
  rcases hs.status hAr hFr with hr|⟨hr,_⟩
  ·exact awake_of (.inl hr)
  ·exact awake_of (.inr (.inl hr))
 ·by_cases hm:i≤H.m
  ·exact awake_of ((h.old i g hpos hm hi).status.elim .inl fun x=>.inr (.inr x))
  ·obtain ⟨g',hg',hw⟩:=h.ws (i-(H.m+1)) (by omega)
   rw [show H.m+1+(i-(H.m+1))=i by omega,hi] at hg'
   cases hg'
   exact awake_of (hw.status.elim .inl fun x=>.inr (.inr x))
theorem old_step (h:JInv H tag j D f0 d0 q gs w t) {k:Nat} (hk1:0<k) (hk2:k≤H.m) {g:Goroutine} (hg:gs[k]?=some g) (hrun:g.status=.running):JNext H tag j D f0 q k gs w sl t:=by
 have hq:=h.old k g hk1 hk2 hg
 cases hqk:q k with
 | zero=>rw [hqk] at hq;rw [hq.1] at hrun;cases hrun
 | succ n=>
  rw [hqk] at hq
  rcases hq with ⟨hf,_⟩|⟨_,g',es,hm,hstp,hq'⟩
  ·rw [hf] at hrun;cases hrun
  obtain ⟨a,ha,hsit⟩:=h.main
  obtain ⟨tag',f',hsit',hf',htag,hwk⟩:=hsit.woken hAr hFr h.live (w':=w) (fun x=>x) g g'
  have hne:(k == 0)=false:=by simp;omega
  have hrunT:=runT_crowd_go (P:=H.P) (sl:=sl) (i:=k) hg (by rw [hne];exact hstp w)
  have hlt:k<gs.size:=(Array.getElem?_eq_some_iff.1 hg).1
  have hgall:∀ op∈MemOp.ofEvents k g.frame.fn g.frame.place es,op.g=k:=fun op hop=>by obtain ⟨e,_,rfl⟩:=Conc.mem_ofEvents hop;rfl
  have nt:∀ op∈MemOp.ofEvents k g.frame.fn g.frame.place es,op.act.touch?=none:=fun op hop=>by
   obtain ⟨e,he,rfl⟩:=Conc.mem_ofEvents hop
   exact touch_mute (hm e he)
  obtain ⟨st,sm,hwg,hmode⟩:=h.wg
  have hT:=h.jt
  refine ⟨_,w,_,tag',j,D,f',d0,upd q k n,hrunT,⟨h.jn,by simpa using h.size,⟨_,?_,hsit'⟩,fun i hi=>?_,fun i b hi1 hi2 hb=>?_,h.jw,?_,⟨st,sm,hwg,hmode.retag htag⟩,?_,fun e'=>?_⟩,?_⟩
  ·rw [Array.getElem?_setIfInBounds_ne (by omega),Array.getElem?_map,ha];rfl
  ·obtain ⟨b,hb,hwb⟩:=h.ws i hi
   refine ⟨b,?_,hwb⟩
   rw [Array.getElem?_setIfInBounds_ne (by omega),Array.getElem?_map,hb]
   simp [woken_still hwb.status]
  ·by_cases e:k=i
   ·subst e
    rw [Array.getElem?_setIfInBounds_self_of_lt (by simpa using hlt)] at hb
    obtain rfl:=Option.some.inj hb
    rw [upd_same,Deaf_own]
    exact hq'
   ·rw [Array.getElem?_setIfInBounds_ne e,Array.getElem?_map] at hb
    obtain ⟨y,hy,rfl⟩:=Option.map_eq_some_iff.1 hb
    have hqi:=h.old i y hi1 hi2 hy
    rw [woken_quitsD hqi,upd_ne q n (Ne.symm e),Deaf_other t (g:=i) (g':=k) e _ hgall]
    exact hqi
  ·refine ⟨hT.ct.appW h.jw.apart (k:=k) (by omega) (by omega) fun op hop=>⟨hgall op hop,fun x hx=>by rw [nt op hop] at hx;cases hx⟩,?_,?_,?_,?_,?_,?_,?_,?_⟩
   ·obtain ⟨u,hu⟩:=hT.pre
    exact ⟨u++MemOp.ofEvents k g.frame.fn g.frame.place es,by rw [hu,Array.append_assoc]⟩
   ·refine seen_app hT.low fun op hop=>?_
    obtain ⟨e,he,rfl⟩:=Conc.mem_ofEvents hop;exact low_mute (hm e he) _
   ·intro i op x hi hop hx
    rcases getElem?_append_cases hop with ⟨_,h1⟩|⟨_,h1⟩
    ·exact hT.new i op x hi h1 hx
    ·rw [nt op h1] at hx;cases hx
   ·exact hT.nrel.app fun op hop=>by obtain ⟨e,he,rfl⟩:=Conc.mem_ofEvents hop;exact rel_bk (H:=H) (bk_of_mute (hm e he))
   ·rw [Deaf_other t (g:=0) (g':=k) (by omega) _ hgall];exact hT.deaf0
   ·intro i hi
    rw [Deaf_other t (g:=H.m+1+i) (g':=k) (by omega) _ hgall];exact hT.deafW i hi
   ·intro i hi
    rw [Deaf_other t (g:=i) (g':=k) (by omega) _ hgall];exact hT.above i hi
   ·intro i hi hs
    obtain ⟨r,hr⟩:=hT.rel i hi hs
    exact ⟨r,hr.appOther hgall (by omega)⟩
  ·exact h.sb.keep htag (fun _ _ _ _ _=>rfl) (fun s _ hX=>hX)
  ·have hat:AcqJ H j t:=by
    rcases htag with rfl|⟨_,rfl⟩
    ·exact h.acq e'
    ·cases e'
   exact hat.app fun i r _ hr=>hr.appOther hgall (by omega)
  ·refine .inr (.inr ⟨rfl,rfl,?_⟩)
   unfold mu
   rw [jphi_retag _ _ htag]
   refine Prod.Lex.right _ ?_
   have:=sumTo_upd q n id (j:=H.m+1) (i:=k) (by omega)
   simp only [id,hqk] at this
   have e1:(sumTo (H.m+1) fun x=>upd q k n x)=sumTo (H.m+1) (upd q k n):=rfl
   have e2:(sumTo (H.m+1) fun x=>q x)=sumTo (H.m+1) q:=rfl
   omega
section
variable (hQ:∀ i own X v w w',H.Q i own X v w→Rely true X w w'→H.Q i own X v w') (hn:H.n<2147483648) (hAn:∀ g w,H.Anch g w→∃ m,Goes H.P true (RM H.ty H.Wg) DC0 (JW1 H.P H.ty H.Wg H.Fin H.Anch) m g w)
include hQ hn hAn
theorem JInv.done (h:JInv H tag j D f0 d0 q gs w t) {i:Nat} (hi:i<j) {g:Goroutine} (hg:gs[H.m+1+i]?=some g) {y:Sit} (hr:(D i).rank=some y) (ho:y.own=(D i).own) (hX:y.X=(D i).X) (hgy:y.g=g) (hw:Rely true y.X y.w w) (hd:(D i).d=⟨7,0,0⟩)
  (hst:∀ w1,Rely true y.X y.w w1→WStop H i { y with w:=w1 }):∃ D',JInv H tag j D' f0 d0 q gs w t∧Falls H (H.n-j) (ranks j D') (mu H tag j D' f0 q) (H.n-j) (ranks j D) (mu H tag j D f0 q):=by
 obtain ⟨v,hq,hk⟩:=hst w hw
 obtain ⟨k,hk⟩:=hk w h.jw.pay h.live
 simp only at hq hk
 rw [ho,hX] at hq
 rw [hgy] at hk
 let D':WDat:=⟨(D i).own,(D i).X,v,none,⟨7,k,0⟩⟩
 have sm:∀ a,(upd D i D' a).own=(D a).own∧(upd D i D' a).X=(D a).X∧((upd D i D' a).d.stage=(D a).d.stage)∧(upd D i D' a).d.deaf=(D a).d.deaf∧((D a).d.stage≤6→(upd D i D' a).v=(D a).v):=fun a=>by
  by_cases e:a=i
  ·subst e;rw [upd_same];exact ⟨rfl,rfl,by rw [hd],by rw [hd],fun h=>by rw [hd] at h;exact absurd h (by decide)⟩
  ·rw [upd_ne D _ e];exact ⟨rfl,rfl,rfl,rfl,fun _=>rfl⟩
 have eo:OwnJ H j (upd D i D')=OwnJ H j D:=by
  funext g l;unfold OwnJ;simp only [fun a=>(sm a).1]
 have er:RdJ H j (upd D i D')=RdJ H j D:=by
  funext g l;unfold RdJ;simp only [fun a=>(sm a).1,fun a=>(sm a).2.1]
 have hJ:=h.jw
 have hT:=h.jt
 obtain ⟨st,sm',hwg,hmode⟩:=h.wg
 refine ⟨upd D i D',⟨h.jn,h.size,h.main,fun a ha=>?_,h.old,⟨hJ.keep,hJ.pay,fun a ha hs=>?_,fun a ha b hb=>?_,fun a ha b hb=>?_,fun a c ha hc hac b hb=>?_,fun a ha b hb=>?_,fun a ha b hb=>?_,hJ.wg,hJ.c,hJ.cw,hJ.cW,hJ.wW,hJ.sh0,hJ.wl,hJ.os,hJ.out⟩,
  ⟨by rw [eo,er];exact hT.ct,hT.pre,hT.low,hT.new,hT.nrel,hT.deaf0,fun a ha=>by rw [(sm a).2.2.2.1];exact hT.deafW a ha,hT.above,fun a ha hs=>hT.rel a ha (by rw [← (sm a).2.2.1];exact hs)⟩,⟨st,sm',hwg,hmode.congr fun a _=>(sm a).2.2.1⟩,?_,h.acq⟩,.inr (.inl ⟨rfl,ranks_less hi (by rw [hr];exact .done)⟩)⟩
 ·by_cases e:a=i
  ·subst e
   refine ⟨g,hg,?_⟩
   rw [upd_same]
   exact .r0 rfl k rfl hk hq
  ·rw [upd_ne D _ e];exact h.ws a ha
 ·have h6:(D a).d.stage≤6:=by rw [← (sm a).2.2.1];exact hs
  rw [(sm a).2.2.2.2 h6];exact hJ.has a ha h6
 ·rw [(sm a).2.1] at hb;exact hJ.low a ha b hb
 ·rw [(sm a).1] at hb;rw [(sm a).2.1];exact hJ.ownX a ha b hb
 ·rw [(sm a).1] at hb;rw [(sm c).2.1];exact hJ.disj a c ha hc hac b hb
 ·rw [(sm a).1] at hb;exact hJ.own0 a ha b hb
 ·rw [(sm a).2.1] at hb;exact hJ.avoid a ha b hb
 ·exact h.sb.keep (.inl rfl) (fun _ _ _ _ _=>rfl) (fun s _ hX a ha=>by rw [(sm a).2.1];exact hX a ha)
theorem phase_step (h:JInv H tag j D f0 d0 q gs w t) :
  (tag=.fin∧∃ a,gs[0]?=some a∧∀ w₁,RM H.ty H.Wg w w₁→H.Fin a w₁) ∨
  (∃ tag' D' f' ,JInv H tag' j D' f' d0 q gs w t∧Falls H (H.n-j) (ranks j D') (mu H tag' j D' f' q) (H.n-j) (ranks j D) (mu H tag j D f0 q)) ∨
  (∃ gs' w' sl' ops tag' j' D' f' d' q',stepT H.P (crowd gs w sl)=(.next (crowd gs' w' sl'),ops)∧JInv H tag' j' D' f' d' q' gs' w' (t++ops) ∧
   Falls H (H.n-j') (ranks j' D') (mu H tag' j' D' f' q') (H.n-j) (ranks j D) (mu H tag j D f0 q)):=by
 obtain ⟨i,g,d,sl',hg,hrun,hstep⟩:=crowd_pick (P:=H.P) (w:=w) (sl:=sl) (h.awake hAr hFr) (h.someone hAr hFr)
 have h':=h.at hQ d
 have next:JNext H tag j D f0 q i gs (w.at d) sl' t→∃ gs' w' sl' ops tag' j' D' f' d' q',stepT H.P (crowd gs w sl)=(.next (crowd gs' w' sl'),ops)∧JInv H tag' j' D' f' d' q' gs' w' (t++ops) ∧
   Falls H (H.n-j') (ranks j' D') (mu H tag' j' D' f' q') (H.n-j) (ranks j D) (mu H tag j D f0 q):=fun ⟨gs',w',ops,tag',j',D',f',d',q',h1,h2,h3⟩=>
  ⟨gs',w',sl',ops,tag',j',D',f',d',q',by rw [hstep];exact h1,h2,h3⟩
 have hlt:=(Array.getElem?_eq_some_iff.1 hg).1
 rw [h.size] at hlt
 rcases Nat.eq_zero_or_pos i with rfl|hpos
 ·obtain ⟨a,ha,hs⟩:=h.main
  rw [ha] at hg;cases hg
  rcases main_step (sl:=sl) hQ hn hAn h ha hrun hs with ⟨e,hf⟩|⟨f',rfl,hj⟩|_
  ·exact .inl ⟨e,_,ha,hf⟩
  ·refine .inr (.inl ⟨_,_,_,hj,.inr (.inr ⟨rfl,rfl,?_⟩)⟩)
   unfold mu
   refine Prod.Lex.left _ _ ?_
   simp only [jphi];omega
  ·obtain ⟨a',ha',hs'⟩:=h'.main
   rw [ha] at ha';cases ha'
   rcases main_step (sl:=sl') hQ hn hAn h' ha hrun hs' with ⟨e,hf⟩|⟨f',rfl,hj⟩|hx
   ·exact .inl ⟨e,_,ha,hf⟩
   ·rcases main_step (sl:=sl) hQ hn hAn h ha hrun hs with ⟨e,hf⟩|⟨f',_,hj⟩|_
    ·exact .inl ⟨e,_,ha,hf⟩
    ·refine .inr (.inl ⟨_,_,_,hj,.inr (.inr ⟨rfl,rfl,?_⟩)⟩)
     unfold mu
     refine Prod.Lex.left _ _ ?_
     simp only [jphi];omega
    ·obtain ⟨a2,ha2,hs2⟩:=hj.main
     rw [ha] at ha2;cases ha2
     rcases main_step (sl:=sl') hQ hn hAn hj ha hrun hs2 with ⟨e,_⟩|⟨_,e,_⟩|⟨gs',w',ops,tag',j',D',f2,d',q',h1,h2,h3⟩
     ·cases e
     ·cases e
     ·refine .inr (.inr ⟨gs',w',sl',ops,tag',j',D',f2,d',q',by rw [hstep];exact h1,h2,?_⟩)
      rcases h3 with h3|h3|⟨e1,e2,h3⟩
      ·exact .inl h3
      ·exact .inr (.inl h3)
      ·refine .inr (.inr ⟨e1,e2,?_⟩)
       have key:∀ {x y z:Nat × Nat},Prod.Lex (· < ·) (· < ·) x y→y.1<z.1→Prod.Lex (· < ·) (· < ·) x z:=fun {x y z} h1 h2=>by
        obtain ⟨x1,x2⟩:=x
        obtain ⟨y1,y2⟩:=y
        obtain ⟨z1,z2⟩:=z
        cases h1 with
        | left _ _ h=>exact Prod.Lex.left _ _ (by simp only at h2 ⊢;omega)
        | right _ h=>exact Prod.Lex.left _ _ h2
       refine key h3 ?_
       unfold mu
       simp only [jphi];omega
   ·exact .inr (.inr (next hx))
 ·by_cases hm:i≤H.m
  ·exact .inr (.inr (next (old_step hAr hFr h' hpos hm hg hrun)))
  ·obtain ⟨k,hk,rfl⟩:∃ k,k<j∧i=H.m+1+k:=⟨i-(H.m+1),by omega,by omega⟩
   obtain ⟨b,hb,hw⟩:=h.ws k hk
   obtain ⟨b',hb',hw'⟩:=h'.ws k hk
   rw [hg] at hb;cases hb
   rw [hg] at hb';cases hb'
   cases hw with
   | work y hr ho hX hgy hR hwr hd hs hof=>
    by_cases hst:∀ w1,Rely true y.X y.w w1→WStop H k { y with w:=w1 }
    ·obtain ⟨D',h1,h2⟩:=h.done hAr hFr hQ hn hAn hk hg hr ho hX hgy hwr hd hst
     exact .inr (.inl ⟨_,_,_,h1,h2⟩)
    ·refine .inr (.inr (next (work_step hQ hAr hFr h' hk hr ho hX hR (hwr.trans ⟨fun _ _=>rfl,Nat.le_refl _,fun e=>by (cases e),rfl⟩) hd hst (by rw [hgy];exact hg))))
   | r0 hr f hd hs hQi=>
    cases hw' with
    | r0 hr' f' hd' hs' hQi'=>exact .inr (.inr (next (r0_step hQ hAr hFr h' hk hg hr' hd' hs' hQi')))
    | work y hr'=>rw [hr] at hr';cases hr'
    | tail hr' h6=>rw [hd] at h6;simp at h6
   | tail hr h6 hs hQi=>
    cases hw' with
    | tail hr' h6' hs' hQi'=>exact .inr (.inr (next (tail_step hQ hAr hFr hn h' hk hg hrun hr' h6' hs' hQi')))
    | work y hr'=>rw [hr] at hr';cases hr'
    | r0 hr' f hd'=>rw [hd'] at h6;simp at h6
theorem phase_runs (h:JInv H tag j D f0 d0 q gs w t):∃ (N:Nat) (gs':Array Goroutine) (w':World) (sl':Option (Nat × Nat)) (t':Trace) (D':Nat→WDat) (f':Nat) (q':Nat→Nat) (a:Goroutine),
  runNT H.P N (crowd gs w sl) t=(.next (crowd gs' w' sl'),t')∧JInv H .fin H.n D' f' 0 q' gs' w' t'∧gs'[0]?=some a∧∀ w₁,RM H.ty H.Wg w' w₁→H.Fin a w₁:=by
 generalize hr:H.n-j=r
 induction r using Nat.strongRecOn generalizing tag j D f0 d0 q gs w sl t with
 | _ r ih1=>
 have hacc:=h.ranksAcc
 generalize hl:ranks j D=l at hacc
 induction hacc generalizing tag j D f0 d0 q gs w sl t with
 | intro l _ ih2=>
 generalize hμ:mu H tag j D f0 q=μ
 induction μ using (Prod.lex Nat.lt_wfRel Nat.lt_wfRel).wf.induction generalizing tag j D f0 d0 q gs w sl t with
 | _ μ ih3=>
 have go:∀ {tag' j' D' f' d' q' gs' w' t' sl'},JInv H tag' j' D' f' d' q' gs' w' t'→Falls H (H.n-j') (ranks j' D') (mu H tag' j' D' f' q') (H.n-j) (ranks j D) (mu H tag j D f0 q) →
   ∃ (N:Nat) (gs2:Array Goroutine) (w2:World) (sl2:Option (Nat × Nat)) (t2:Trace) (D2:Nat→WDat) (f2:Nat) (q2:Nat→Nat) (a:Goroutine),
    runNT H.P N (crowd gs' w' sl') t'=(.next (crowd gs2 w2 sl2),t2)∧JInv H .fin H.n D2 f2 0 q2 gs2 w2 t2∧gs2[0]?=some a∧∀ w₁,RM H.ty H.Wg w2 w₁→H.Fin a w₁:=by
  intro tag' j' D' f' d' q' gs' w' t' sl' h1 hf
  rcases hf with hf|⟨e,hf⟩|⟨e,e2,hf⟩
  ·exact ih1 _ (by rw [← hr];exact hf) h1 rfl
  ·exact ih2 _ (by rw [← hl];exact hf) h1 (e.trans hr) rfl
  ·exact ih3 _ (by rw [← hμ];exact hf) h1 (e.trans hr) (e2.trans hl) rfl
 rcases phase_step (sl:=sl) hAr hFr hQ hn hAn h with ⟨rfl,a,ha,hF⟩|⟨tag',D',f',h1,hf⟩|⟨gs',w',sl',ops,tag',j',D',f',d',q',hs,h1,hf⟩
 ·have h0:=h
  obtain ⟨a',_,hs⟩:=h0.main
  cases hs
  exact ⟨0,gs,w,sl,t,D,f0,q,a,rfl,h,ha,hF⟩
 ·exact go h1 hf
 ·obtain ⟨N,gs2,w2,sl2,t2,D2,f2,q2,a,hr2,rest⟩:=go (sl':=sl') h1 hf
  exact ⟨N+1,gs2,w2,sl2,t2,D2,f2,q2,a,by simp only [runNT,hs];exact hr2,rest⟩
end
end
end
end Go.Sim
end
section
set_option linter.unusedSectionVars false
namespace Go.Sim
open Go.Conc Go.ConcN
open Go.ConcR (KK wgBlock WgAt stA smA rd wr mk Payload DC0)
section
variable [Payload] {H:Ph} {j:Nat} {D:Nat→WDat} {f0 d0:Nat} {q:Nat→Nat} {gs:Array Goroutine} {w:World} {t:Trace}
theorem counts_known (h:AcqJ H j t) (hn:NoRelease (stA H.Wg) t) {i k:Nat} (hk:k<j) (hg:t.g? i=some (H.m+1+k)) (hc:t.counts i):∃ q,t.g? q=some 0∧HappensBefore t i q:=by
 obtain ⟨q,hq,hq0,hh,hall⟩:=h
 obtain ⟨r,hr,hrq⟩:=hall k hk
 have edge:HappensBefore t r q:=.single (.inr ⟨.marked hrq (.inr hr.act) hq (fun k _ _=>hn k),hr.heard,hh⟩)
 have hle:i≤r:=Nat.le_of_not_lt fun hlt=>hr.after i hlt hg hc
 refine ⟨q,hq0,?_⟩
 rcases Nat.lt_or_ge i r with hlt|hge
 ·exact .trans (.single (.inl ⟨hlt,_,hg,hr.g⟩)) edge
 ·obtain rfl:i=r:=by omega
  exact edge
theorem phase_past {B:Nat} (hP:Past (ShJ H) B H.t0) (h:JInv H .fin j D f0 0 q gs w t):Past (ShJ H) w.heap.size t:=by
 have hT:=h.jt
 have hA:=h.acq rfl
 obtain ⟨u,hu⟩:=hT.pre
 have old:∀ i,i<H.t0.size→t[i]?=H.t0[i]?:=fun i hi=>by rw [hu,getElem?_append_old hi]
 refine ⟨hT.ct.nr,fun i a ha hm=>?_,fun i g hg hne hc=>?_,hT.deaf0,hT.low⟩
 ·rcases Nat.lt_or_ge i H.t0.size with hi|hi
  ·have ha':touchAt H.t0 i=some a:=by rw [hu,touchAt_old hi] at ha;exact ha
   exact (hP.known i a ha' hm).imp (fun h=>by rw [hu];exact h.app u) id
  ·obtain ⟨op,hop,hx⟩:=touch_of ha
   obtain ⟨hg,hpl⟩:=hT.new i op a hi hop hx
   rcases hg with hg|⟨k,hk,hg⟩
   ·have:=knows_own hop
    rw [hg] at this
    exact .inl this
   ·have hgi:t.g? i=some (H.m+1+k):=by simp [Trace.g?,hop,hg]
    by_cases hc:t.counts i
    ·obtain ⟨p,hp,hb⟩:=counts_known hA hT.nrel hk hgi hc
     obtain ⟨z,hz,hzg⟩:=Option.map_eq_some_iff.1 hp
     exact .inl ⟨p,z,hz,hzg,.inr hb⟩
    ·have hka:a.kind=.atomic:=Classical.byContradiction fun hn=>hc ⟨a,ha,hm,.inl hn⟩
     by_cases hs:ShJ H a.loc
     ·exact .inr ⟨hs,hka⟩
     ·rw [(hpl hs).1] at hka;cases hka
 ·rcases Nat.lt_or_ge i H.t0.size with hi|hi
  ·obtain ⟨p,hp,hb⟩:=hP.over i g (by rw [hu,g?_old hi] at hg;exact hg) hne (by rw [hu] at hc;exact (counts_old hi).1 hc)
   have hpl:p<H.t0.size:=by
    unfold Trace.g? at hp
    obtain ⟨z,hz,_⟩:=Option.map_eq_some_iff.1 hp
    exact lt_size_of_getElem? hz
   exact ⟨p,by rw [hu,g?_old hpl];exact hp,by rw [hu];exact hb_app u hb⟩
  ·obtain ⟨a,ha,_⟩:=id hc
   obtain ⟨op,hop,hx⟩:=touch_of ha
   obtain ⟨hg',_⟩:=hT.new i op a hi hop hx
   have eg:op.g=g:=by simpa [Trace.g?,hop] using hg
   rcases hg' with hg'|⟨k,hk,hg'⟩
   ·exact absurd (eg▸hg') hne
   ·exact counts_known hA hT.nrel hk (by rw [hg,← eg,hg']) hc
theorem phase_end {B:Nat} (hP:Past (ShJ H) B H.t0) (hM:∀ op∈H.t0,∀ x,op.act.touch?=some x→x.loc.isMemory=true) (h:JInv H .fin j D f0 0 q gs w t) :
  ∃ q',Cmp H.P (fun b=>H.W b∨b=H.Wg) gs w t q'∧JW H j D w∧(∀ i,i<j→Has H.C i (D i).v w∧H.Q i (D i).own (D i).X (D i).v w)∧∃ st sm,WgAt H.ty H.Wg w st sm:=by
 obtain ⟨st,sm,hwg,hmode⟩:=h.wg
 obtain ⟨hq,_,_⟩:=hmode.fin_inv trivial
 have hq1:∀ i,i<j→(D i).d.stage=1:=hq
 have tl:∀ i,i<j→∃ g,gs[H.m+1+i]?=some g∧QuitsD H.P (D i).d.fuel (D i).d.deaf g∧H.Q i (D i).own (D i).X (D i).v w:=by
  intro i hi
  obtain ⟨g,hg,hw⟩:=h.ws i hi
  have h1:=hq1 i hi
  cases hw with
  | work y _ _ _ _ _ _ hd=>rw [hd] at h1;cases h1
  | r0 _ f hd=>rw [hd] at h1;cases h1
  | tail _ _ hs hQ=>
   rw [h1] at hs
   cases hs with
   | quit hs=>exact ⟨g,hg,hs,hQ⟩
 refine ⟨fun i=>if i≤H.m then q i else (D (i-(H.m+1))).d.fuel,⟨⟨fun i g hi hg=>?_,fun k hk=>h.jt.above k (by rw [h.size] at hk;omega)⟩,phase_past hP h,h.jt.ct.quiet,fun b hb=>?_,fun op hop=>?_⟩,h.jw,fun i hi=>?_,st,sm,hwg⟩
 ·have hlt:=(Array.getElem?_eq_some_iff.1 hg).1
  rw [h.size] at hlt
  show QuitsD H.P (if i≤H.m then q i else (D (i-(H.m+1))).d.fuel) (Deaf t i) g
  by_cases hm:i≤H.m
  ·rw [if_pos hm];exact h.old i g hi hm hg
  ·rw [if_neg hm]
   obtain ⟨k,hk,rfl⟩:∃ k,k<j∧i=H.m+1+k:=⟨i-(H.m+1),by omega,by omega⟩
   obtain ⟨g',hg',hQ,_⟩:=tl k hk
   rw [hg] at hg';cases hg'
   rw [h.jt.deafW k hk,show H.m+1+k-(H.m+1)=k by omega]
   exact hQ
 ·rcases hb with hb|rfl
  ·exact h.jw.wl b hb
  ·exact h.jw.wg
 ·obtain ⟨i,hi,rfl⟩:=Array.mem_iff_getElem.1 hop
  have hi':t[i]?=some t[i]:=Array.getElem?_eq_getElem hi
  refine ⟨by have:=h.jt.ct.gs i _ hi';rw [h.size];omega,fun x hx=>?_⟩
  rcases Nat.lt_or_ge i H.t0.size with hlt|hge
  ·obtain ⟨u,hu⟩:=h.jt.pre
   have e:H.t0[i]?=some t[i]:=by rw [← hi',hu,getElem?_append_old hlt]
   exact hM _ (Array.mem_of_getElem? e) x hx
  ·have:=(h.jt.new i _ x hge hi' hx).2
   by_cases hs:ShJ H x.loc
   ·obtain ⟨a,ha,_⟩:=hs
    rw [ha];rfl
   ·exact (this hs).2
 ·obtain ⟨g,_,_,hQ⟩:=tl i hi
  exact ⟨h.jw.has i hi (by rw [hq1 i hi];decide),hQ⟩
end
end Go.Sim
end
section
set_option linter.unusedSectionVars false
namespace Go.Sim
open Go.Conc Go.ConcN
open Go.ConcR (KK wgBlock WgAt stA smA rd wr mk Payload DC0)
section
variable [Payload] {H:Ph} {q:Nat→Nat} {gs:Array Goroutine} {sl:Option (Nat × Nat)} {a:Goroutine}
theorem low_cell {t:Trace} {B:Nat} (h:∀ op∈t,op.act.low B) {i:Nat} {x:Touch} (hx:touchAt t i=some x) {c:Addr} (hc:x.loc=.cell c):c.block<B:=by
 have:=fresh_of_low (t:=t) h (l:=.cell c) (B:=B)
 by_cases hb:c.block<B
 ·exact hb
 ·exact absurd hc (this hb i x hx)
theorem phase_start (hC:Cmp H.P H.W gs H.w0 H.t0 q) (hlow:∀ op∈H.t0,op.act.low H.Wg) (hm:gs.size=H.m+1) (h0:gs[0]?=some a) (hs:JSp H H.n a H.w0) (hn:0<H.n) (hwg:WgAt H.ty H.Wg H.w0 0 0) (pay:PayAt H.C H.n H.w0)
  (wg:H.Wg<H.w0.heap.size) (c:H.C<H.w0.heap.size) (cw:H.C≠H.Wg) (cW:¬ H.W H.C) (wW:¬ H.W H.Wg) (sh0:∀ b,H.Sh0 b→b<H.w0.heap.size∧b≠H.Wg∧b≠H.C∧¬ H.W b) :
  ∃ f0 D,JInv H .al 0 D f0 0 q gs H.w0 H.t0:=by
 obtain ⟨r,hr⟩:∃ r,H.n=r+1:=⟨H.n-1,by omega⟩
 rw [hr] at hs
 obtain ⟨f0,hs⟩:=hs
 have e0:H.n-(r+1)=0:=by omega
 have hsit:JSit H .al (H.n-(r+1)) f0 0 a H.w0:=.al (by omega) hs
 rw [e0] at hsit
 have hP:=hC.past
 have quiet:Quiet (ShJ H) H.t0:=by
  intro i op x hi hx ⟨c,hc,hcW⟩
  rcases hcW with hcW|hcW
  ·exact hC.quiet i op x hi hx ⟨c,hc,hcW⟩
  ·have:=low_cell hlow (i:=i) (by rw [touchAt_of hi];exact hx) hc
   omega
 have perm:∀ l,¬ ShJ H l→Perm H.t0 0 l:=fun l hl i x hx e=>by
  obtain ⟨op,hop,hox⟩:=touch_of hx
  rcases hP.known i x hx ((hC.tidy op (Array.mem_of_getElem? hop)).2 x hox) with h|⟨⟨c,h1,h2⟩,_⟩
  ·exact h
  ·exact absurd ⟨c,e▸h1,.inl h2⟩ hl
 refine ⟨f0,fun _=>⟨fun _=>False,fun _=>False,undef,none,⟨1,0,0⟩⟩,Nat.zero_le _,hm,⟨a,h0,hsit⟩,fun i hi=>absurd hi (Nat.not_lt_zero _),fun k g h1 _ hg=>hC.lv.old k g h1 hg,
  ⟨fun _ _=>rfl,pay,fun i hi=>absurd hi (Nat.not_lt_zero _),fun i hi=>absurd hi (Nat.not_lt_zero _),fun i hi=>absurd hi (Nat.not_lt_zero _),fun i _ hi=>absurd hi (Nat.not_lt_zero _),fun i hi=>absurd hi (Nat.not_lt_zero _),fun i hi=>absurd hi (Nat.not_lt_zero _),wg,c,cw,cW,wW,sh0,hC.low,rfl,rfl⟩,
  ⟨⟨quiet,fun k _ _ l ⟨i,hi,_⟩=>absurd hi (Nat.not_lt_zero _),fun k _ _ l ⟨i,hi,_⟩=>absurd hi (Nat.not_lt_zero _),fun l hl _=>perm l hl,fun l hl _=>PermW.of (perm l hl),hP.clean,fun i op hi=>?_⟩,⟨#[],by simp⟩,hP.seen,fun i op x hi hop=>?_,fun i hi=>?_,hP.hears,fun i hi=>absurd hi (Nat.not_lt_zero _),fun k hk=>hC.lv.above k (by omega),fun i hi=>absurd hi (Nat.not_lt_zero _)⟩,
  ⟨0,0,hwg,?_⟩,trivial,fun e=>by cases e⟩
 ·have:=(hC.tidy op (Array.mem_of_getElem? hi)).1
  omega
 ·have:=(Array.getElem?_eq_some_iff.1 hop).1
  omega
 ·unfold Trace.act? at hi
  obtain ⟨op,hop,hact⟩:=Option.map_eq_some_iff.1 hi
  have:=hlow op (Array.mem_of_getElem? hop)
  rw [hact] at this
  exact absurd this (Nat.lt_irrefl _)
 ·have:=JMode.opn (j:=0) (D:=fun i=>((fun _=>(⟨fun _=>False,fun _=>False,undef,none,⟨1,0,0⟩⟩:WDat)) i).d) (tag:=.al) trivial (fun i hi=>absurd hi (Nat.not_lt_zero _)) (fun vs e=>by cases e)
  simpa [Vc,sumTo,jpend] using this
structure PhEnd (H:Ph) (w:World) (D:Nat→WDat):Prop where
 jw:JW H H.n D w
 res:∀ i,i<H.n→Has H.C i (D i).v w∧H.Q i (D i).own (D i).X (D i).v w
 wg:∃ st sm,WgAt H.ty H.Wg w st sm
theorem phase_all (hQ:∀ i own X v w w',H.Q i own X v w→Rely true X w w'→H.Q i own X v w') (hAr:∀ g w,H.Anch g w→g.status=.running) (hFr:∀ g w,H.Fin g w→g.status=.running) (hn2:H.n<2147483648)
  (hAn:∀ g w,H.Anch g w→∃ m,Goes H.P true (RM H.ty H.Wg) DC0 (JW1 H.P H.ty H.Wg H.Fin H.Anch) m g w)
  (hC:Cmp H.P H.W gs H.w0 H.t0 q) (hlow:∀ op∈H.t0,op.act.low H.Wg) (hm:gs.size=H.m+1) (h0:gs[0]?=some a) (hs:JSp H H.n a H.w0) (hn:0<H.n) (hwg:WgAt H.ty H.Wg H.w0 0 0) (pay:PayAt H.C H.n H.w0)
  (wg:H.Wg<H.w0.heap.size) (c:H.C<H.w0.heap.size) (cw:H.C≠H.Wg) (cW:¬ H.W H.C) (wW:¬ H.W H.Wg) (sh0:∀ b,H.Sh0 b→b<H.w0.heap.size∧b≠H.Wg∧b≠H.C∧¬ H.W b) :
  ∃ (N:Nat) (gs':Array Goroutine) (w':World) (sl':Option (Nat × Nat)) (t':Trace) (q':Nat→Nat) (D:Nat→WDat) (a':Goroutine),
   runNT H.P N (crowd gs H.w0 sl) H.t0=(.next (crowd gs' w' sl'),t')∧gs'[0]?=some a'∧H.Fin a' w'∧Cmp H.P (fun b=>H.W b∨b=H.Wg) gs' w' t' q'∧PhEnd H w' D:=by
 obtain ⟨f0,D,hI⟩:=phase_start hC hlow hm h0 hs hn hwg pay wg c cw cW wW sh0
 obtain ⟨N,gs',w',sl',t',D',f',q',a',hr,hI',ha',hF⟩:=phase_runs (sl:=sl) hAr hFr hQ hn2 hAn hI
 have hP:Past (ShJ H) H.w0.heap.size H.t0:=⟨hC.past.clean,fun i x hx hm=>(hC.past.known i x hx hm).imp id fun ⟨⟨c,h1,h2⟩,h3⟩=>⟨⟨c,h1,.inl h2⟩,h3⟩,hC.past.over,hC.past.hears,hC.past.seen⟩
 obtain ⟨q2,hC',hJ,hres,hwg'⟩:=phase_end hP (fun op hop=>(hC.tidy op hop).2) hI'
 exact ⟨N,gs',w',sl',t',q2,D',a',hr,ha',hF w' fun x=>x,hC',⟨hJ,hres,hwg'⟩⟩
end
end Go.Sim
end
namespace Go.Sim
open Go.Conc
open Go.ConcN (sumTo upd)
def rng (E:BRel):Nat→Prop:=fun b=>∃ a,E a b
def idE (X:Nat→Prop):BRel:=fun b b'=>b=b'∧X b
structure CxLe (C C':Cx):Prop where
 fs:∀ f,C.F f→C'.F f
 ts:∀ t,C.tyOk t=true→C'.tyOk t=true
 ms:∀ n,C.ms.contains n=true→C'.ms.contains n=true
theorem CxLe.refl (C:Cx):CxLe C C:=⟨fun _ h=>h,fun _ h=>h,fun _ h=>h⟩
section
variable {C C':Cx} {E:BRel}
theorem rng_of {b b':Nat} (h:E b b'):idE (rng E) b' b':=⟨rfl,b,h⟩
theorem idE_mono {X Y:Nat→Prop} (h:∀ b,X b→Y b):Sub (idE X) (idE Y):=fun _ _ k=>⟨k.1,h _ k.2⟩
theorem FnR.right (L:CxLe C C') {f f':Fn} (h:FnR C E f f'):FnR C' (idE (rng E)) f' f':=by
 cases h with
 | func h=>exact .func (L.fs _ h)
 | yield h=>exact .yield (rng_of h)
 | method h=>exact .method (L.ms _ h)
theorem VR.right (L:CxLe C C') {v v':Value} (h:VR C E v v'):VR C' (idE (rng E)) v' v':=by
 have arr:∀ {a a':Array Value},a.size=a'.size→(∀ (i:Nat) (x x':Value),a[i]?=some x→a'[i]?=some x'→VR C' (idE (rng E)) x' x')→∀ (i:Nat) (x x':Value),a'[i]?=some x→a'[i]?=some x'→VR C' (idE (rng E)) x x':=by
  intro a a' hs hx i x x' h1 h2
  rw [h1] at h2;cases h2
  have hlt:=(Array.getElem?_eq_some_iff.1 h1).1
  exact hx i a[i] x (by simp [hs,hlt]) h1
 induction h with
 | bool b=>exact .bool b
 | int k n=>exact .int k n
 | string x=>exact .string x
 | nilPtr=>exact .nilPtr
 | ptr o p h=>exact .ptr o p (rng_of h)
 | nilSlice l c=>exact .nilSlice l c
 | slice o p l c h=>exact .slice o p l c (rng_of h)
 | nilMap=>exact .nilMap
 | map h=>exact .map (rng_of h)
 | nilFunc=>exact .nilFunc
 | nilChan=>exact .nilChan
 | func h ha _ hc _ hx hy=>exact .func (h.right L) rfl (arr ha hx) ⟨rfl,by have:=hc.1;have:=hc.2;omega⟩ (arr hc.1 hy)
 | iface t ht _ ih=>exact .iface t (L.ts _ ht) ih
 | nilIface=>exact .nilIface
 | agg ha _ hx=>exact .agg rfl (arr ha hx)
 | tuple ha _ hx=>exact .tuple rfl (arr ha hx)
theorem AR.right (L:CxLe C C') {a a':Array Value} (h:AR C E a a'):AR C' (idE (rng E)) a' a':=by
 refine ⟨rfl,fun i x x' h1 h2=>?_⟩
 rw [h1] at h2;cases h2
 have hlt:=(Array.getElem?_eq_some_iff.1 h1).1
 have hs:=h.size
 exact (h.at_ i a[i] x (by simp [hs,hlt]) h1).right L
theorem EntryR.right (L:CxLe C C') {e e':MapEntry} (h:EntryR C E e e'):EntryR C' (idE (rng E)) e' e':=⟨h.key.right L,h.val.right L,rfl⟩
theorem EsR.right (L:CxLe C C') {e e':Array MapEntry} (h:EsR C E e e'):EsR C' (idE (rng E)) e' e':=by
 refine ⟨rfl,fun i x x' h1 h2=>?_⟩
 rw [h1] at h2;cases h2
 have hlt:=(Array.getElem?_eq_some_iff.1 h1).1
 have hs:=h.size
 exact (h.at_ i e[i] x (by simp [hs,hlt]) h1).right L
theorem DefsR.right (L:CxLe C C') {d d':List Deferred} (h:DefsR C E d d'):DefsR C' (idE (rng E)) d' d':=by
 induction h with
 | nil=>exact .nil
 | @cons d d' l l' h _ ih=>
  refine .cons ⟨?_,h.args.right L,?_⟩ ih
  ·have ht:=h.target
   generalize d.target=t at ht
   generalize d'.target=t' at ht ⊢
   cases ht with
   | collected h=>exact .collected (rng_of h)
   | nil=>exact .nil
   | fn hf hc=>exact .fn (hf.right L) (hc.right L)
  ·intro f c e
   have ht:=h.target
   have hz:=h.sz
   have hs:=h.args.size
   rw [e] at ht
   generalize d.target=t at ht hz
   cases ht with
   | fn hf hc=>have:=hz _ _ rfl;have:=hc.size;omega
theorem ObjR.right (L:CxLe C C') {ok ok':FuncId→Code→Prop} (hsh:∀ b,¬ C'.Sh b) (hst:C'.st=false) (hok:C.st=false→ok=ok'∧C.hl=C'.hl) {b b':Nat} {o o':Obj} (h:ObjR C ok E b o o'):ObjR C' ok' (idE (rng E)) b' o' o':=by
 cases o with
 | cells c el fz=>
  obtain ⟨c',fz',rfl,h4,_⟩:=h
  exact ⟨c',fz',rfl,h4.right L,fun x=>absurd x (hsh _),fun _=>⟨rfl,fun e=>by rw [hst] at e;cases e⟩⟩
 | map es ck=>obtain ⟨es',rfl,h⟩:=h;exact ⟨es',rfl,h.right L⟩
 | mapIter m a b c=>
  obtain ⟨_,m',rfl,h⟩:=h
  refine ⟨hsh _,m',rfl,?_⟩
  cases m<;>cases m'<;>first|trivial|exact h.elim|exact rng_of h
 | stringIter a b=>obtain ⟨_,rfl⟩:=h;exact ⟨hsh _,rfl⟩
 | loop l=>
  obtain ⟨_,l',rfl,h⟩:=h
  obtain ⟨rfl,hhl⟩:=hok h.st
  refine ⟨hsh _,l',rfl,⟨rfl,rfl,rfl,⟨rfl,fun i x x' hi h1 h2=>?_⟩,rfl,rfl,rfl,rng_of h.defers,?_,?_,?_,hst⟩⟩
  ·rw [h1] at h2;cases h2
   have hlt:=(Array.getElem?_eq_some_iff.1 h1).1
   have hs:=h.tmps.size
   exact (h.tmps.at_ i l.tmps[i] x (by rw [hhl,h.fn];exact hi) (by simp [hs,hlt]) h1).right L
  ·rw [← h.fn,← h.assign];exact h.ok1
  ·rw [← h.fn,← h.body];exact h.ok2
  ·rw [← h.pending];exact h.ok3
 | deferred ds=>
  obtain ⟨_,ds',rfl,h⟩:=h
  refine ⟨hsh _,ds',rfl,?_⟩
  cases ds<;>cases ds'<;>first|trivial|exact h.elim|exact DefsR.right L h
 | number a l=>obtain ⟨_,a',rfl,h⟩:=h;exact ⟨hsh _,a',rfl,⟨rng_of h.block,rfl,rfl⟩⟩
 | _=>exact h.elim
theorem WR.right (L:CxLe C C') {ok ok':FuncId→Code→Prop} (hsh:∀ b,¬ C'.Sh b) (hst:C'.st=false) (hok:C.st=false→ok=ok'∧C.hl=C'.hl) {w w':World} (h:WR C ok E w w'):WR C' ok' (idE (rng E)) w' w':=by
 refine ⟨rfl,fun b b' ⟨e,a,ha⟩=>?_,fun b c c' h1 h2=>h1.1.symm.trans h2.1,fun b c b2 h1 h2=>h1.1.trans h2.1.symm,fun b hb=>absurd hb (hsh b),fun b b' o o' ⟨e,a,ha⟩ h1 h2=>?_,fun _ b b' h=>h.1,fun _=>rfl,fun e=>by rw [hst] at e;cases e⟩
 ·subst e;exact ⟨(h.dom _ _ ha).2,(h.dom _ _ ha).2⟩
 ·subst e
  rw [h1] at h2;cases h2
  obtain ⟨x,x',e1,e2,e3⟩:=h.get ha
  rw [h1] at e2;cases e2
  exact e3.right L hsh hst hok
theorem VR.eq {E:BRel} (hE:∀ b b',E b b'→b=b') {v v':Value} (h:VR C E v v'):v=v':=by
 have arr:∀ {a a':Array Value},a.size=a'.size→(∀ (i:Nat) (x x':Value),a[i]?=some x→a'[i]?=some x'→x=x')→a=a':=by
  intro a a' hs hx
  apply Array.ext_getElem?
  intro i
  by_cases hi:i<a.size
  ·have h1:a[i]?=some a[i]:=Array.getElem?_eq_getElem hi
   have h2:a'[i]?=some a'[i]:=Array.getElem?_eq_getElem (hs▸hi)
   rw [h1,h2,hx i _ _ h1 h2]
  ·rw [Array.getElem?_eq_none (by omega),Array.getElem?_eq_none (by omega)]
 induction h with
 | ptr o p h=>rw [hE _ _ h]
 | slice o p l c h=>rw [hE _ _ h]
 | map h=>rw [hE _ _ h]
 | func h ha _ hc _ hx hy=>
  rw [arr ha hx,arr hc.1 hy]
  cases h with
  | func h=>rfl
  | yield h=>rw [hE _ _ h]
  | method h=>rfl
 | iface t ht _ ih=>rw [ih]
 | agg ha _ hx=>rw [arr ha hx]
 | tuple ha _ hx=>rw [arr ha hx]
 | _=>rfl
end
end Go.Sim
namespace Go.Sim
open Go.Conc
section
variable {st:Bool} {P:Program} {main:Bool} {Stop Stop2:Sit→Prop}
theorem Rely.refl (st:Bool) (X:Nat→Prop) (w:World):Rely st X w w:=⟨fun _ _=>rfl,Nat.le_refl _,fun _=>rfl,rfl⟩
theorem Runs.bind {y:Sit} (h:Runs st P main Stop y) (k:∀ y2,Stop y2→Runs st P main Stop2 y2):Runs st P main Stop2 y:=by
 induction h with
 | stop h=>exact k _ (h _ (.refl ..))
 | step f h _ ih=>exact .step f h ih
theorem Runs.mono {y:Sit} (h:Runs st P main Stop y) (k:∀ y2,Stop y2→Stop2 y2):Runs st P main Stop2 y:=by
 induction h with
 | stop h=>exact .stop fun w1 hr=>k _ (h w1 hr)
 | step f h _ ih=>exact .step f h ih
theorem Runs.idle {own X:Nat→Prop} {g g':Goroutine} {w:World} (hs:∀ w1,stepG P main g w1=.go g' w1 #[]) (hr:g'.status=.running) (hd:g'.dying=none) (ho:g'.offers=none)
  (k:∀ w1,Rely st X w w1→Runs st P main Stop ⟨own,X,g',w1⟩):Runs st P main Stop ⟨own,X,g,w⟩:=by
 have same:∀ (Y:Nat→Prop) (w1:World),grown Y w1 w1=Y:=fun Y w1=>by
  funext b
  simp only [grown,eq_iff_iff]
  exact ⟨fun h=>h.elim id fun h=>by omega,.inl⟩
 refine .step (fun w1=>⟨own,X,g',w1⟩) (fun w1 _=>⟨⟨#[],hs w1,⟨Nat.le_refl _,fun _ _ _=>rfl,rfl,rfl,Nat.le_refl _,fun e he=>by simp at he⟩⟩,hr,hd,ho,(same own w1).symm,(same X w1).symm⟩) fun w1 hw=>k w1 hw
end
section
variable {C:Cx} {S:Kn}
def PieceStop (C:Cx) (S:Kn) (b:Frame) (t0:Array Value) (ds:List Deferred) (k:List Item) (cs:List Frame) (E:BRel) (Q:Exit→Act→World→Prop) (y:Sit):Prop:=
 ∃ E1 a w1 t',Sub E E1∧Link C S E1 y.own y.X w1 y.w∧TmR C S b.fn E1 a.tmps t'∧(∀ i,(C.hl b.fn).contains i=true→t'[i]?=t0[i]?) ∧
  ((Q .normal a w1∧y.g=G (b.at ⟨t',ds⟩ k) cs)∨(Q .ret a w1∧∃ todo,y.g=G { b.at ⟨t',ds⟩ todo with mode:=.returning } cs))
theorem runs_piece (A:AllOk C S) {main:Bool} {b:Frame} {c:Code} {t t':Array Value} {ds:List Deferred} {k:List Item} {cs:List Frame} {E:BRel} {own X:Nat→Prop} {w0 w:World} {Q:Exit→Act→World→Prop}
  (hc:okCode C S b.fn c=true) (hb:HasBody C b.fn) (hdf:S.df.contains b.fn=false) (hl:C.hl b.fn≠[]) (hk:b.kind≠.early)
  (hL:Link C S E own X w0 w) (ht:TmR C S b.fn E t t') (K:∀ τ,c.wp C.P Q ⟨t,[stuckD]⟩ (w0.tp τ 0)) (hQ:∀ e a w,Q e a w→e=.normal∨e=.ret) :
  Runs C.st C.P main (PieceStop C S b t' ds k cs E Q) ⟨own,X,G (b.at ⟨t',ds⟩ (.code c::k)) cs,w⟩:=by
 let B:Bot:=⟨b.fn,t',k,[],b.kind,ds,cs⟩
 have hg:GR C S E B (G ((base b.fn).at ⟨t,[stuckD]⟩ [.code c,stopI]) []) (G (b.at ⟨t',ds⟩ (.code c::k)) cs):=by
  refine ⟨.bot ⟨rfl,hb,rfl,hk,rfl,rfl,ht,?_,rfl,rfl,rfl,hdf,hl,rfl,rfl,rfl,fun _ _=>rfl⟩,rfl,rfl,rfl,rfl,rfl⟩
  exact RestR.code (cs:=B) rfl (.cons (.code hc) .nil)
 have K':∀ τ,∃ n g1 w1,runN C.P n (solo (G ((base b.fn).at ⟨t,[stuckD]⟩ [.code c,stopI]) []) (w0.tp τ 0))=.next (solo g1 w1)∧LoneFin (fun tm w1=>∃ d,Q .normal ⟨tm,d⟩ w1) (fun tm w1=>∃ d,Q .ret ⟨tm,d⟩ w1) g1 w1:=by
  intro τ
  obtain ⟨e,a',w',hq,har⟩:=K τ (base b.fn) [stopI] []
  rcases hQ e a' w' hq with rfl|rfl
  ·obtain ⟨n,hn⟩:=har
   exact ⟨n,_,w',hn,rfl,.inl ⟨rfl,rfl,a'.defers,hq⟩⟩
  ·obtain ⟨todo,n,hn⟩:=har
   exact ⟨n,_,w',hn,rfl,.inr ⟨rfl,a'.defers,hq⟩⟩
 refine (runs_of A (main:=main) (cs:=B) (y0:=⟨own,X,G (b.at ⟨t',ds⟩ (.code c::k)) cs,w⟩) hL hg K').bind fun y hy=>?_
 obtain ⟨E1,g1,w1,hs,hL1,⟨hg1,hd1,d,hq⟩|⟨he,d,hq⟩⟩:=hy
 ·obtain ⟨own1,X1,gy,wy⟩:=y
  obtain ⟨fy,csy,sty,dy,oy⟩:=gy
  have hst:=hg1.stack
  have r1:=hg1.run'
  have r2:=hg1.dying'
  have r3:=hg1.offers
  simp only at r1 r2 r3
  subst r1 r2 r3
  obtain ⟨q1,q2,q3⟩:=hd1
  rw [q1] at hst
  generalize hz:fy::csy=z at hst
  cases hst with
  | cons _ h2=>cases h2
  | bot hB=>
   cases hz
   have e:∀ todo,fy.todo=todo→fy=b.at ⟨fy.tmps,ds⟩ todo:=by
    intro todo ht
    obtain ⟨f1,f2,f3,f4,f5,f6,f7⟩:=fy
    have a1:=hB.fn2
    have a2:=hB.kind2
    have a3:=hB.dfr
    have a4:=hB.mode'
    have a5:=hB.round'
    simp only at a1 a2 a3 a4 a5 ht
    subst a1 a2 a3 a4 a5 ht
    rfl
   have htm:TmR C S b.fn E1 g1.frame.tmps fy.tmps:=by
    have:=hB.tmps
    rwa [← hB.fn,hB.fn2] at this
   have hho:∀ i,(C.hl b.fn).contains i=true→fy.tmps[i]?=t'[i]?:=by
    have:=hB.hold
    rwa [← hB.fn,hB.fn2] at this
   have htd:=hB.todo
   have fin:fy.todo=k→Runs C.st C.P main (PieceStop C S b t' ds k cs E Q) ⟨own1,X1,⟨fy,B.cs,.running,none,none⟩,wy⟩:=fun hk'=>
    .stop fun w2 hr=>⟨E1,⟨g1.frame.tmps,d⟩,w1,fy.tmps,hs,hL1.rely hr,htm,hho,.inl ⟨hq,by show (⟨fy,B.cs,.running,none,none⟩:Goroutine)=_;rw [e k hk'];rfl⟩⟩
   have step:∀ ops,fy.todo=.inRegion ops []::k→Runs C.st C.P main (PieceStop C S b t' ds k cs E Q) ⟨own1,X1,⟨fy,B.cs,.running,none,none⟩,wy⟩:=by
    intro ops ho
    have e':(⟨fy,B.cs,.running,none,none⟩:Goroutine)=G (b.at ⟨fy.tmps,ds⟩ (.inRegion ops []::k)) cs:=by rw [e _ ho];rfl
    rw [e']
    refine Runs.idle (g':=G (b.at ⟨fy.tmps,ds⟩ k) cs) (fun w1=>stepG_region_end) rfl rfl rfl fun w2 hr=>?_
    exact .stop fun w3 hr3=>⟨E1,⟨g1.frame.tmps,d⟩,w1,fy.tmps,hs,(hL1.rely hr).rely hr3,htm,hho,.inl ⟨hq,rfl⟩⟩
   rcases q3 with q3|⟨ops,q3⟩
   ·rw [q3] at htd
    generalize hx:([stopI]:List Item)=x at htd
    generalize hy:fy.todo=y at htd
    cases htd with
    | @code l l' _ hi=>
     cases hi with
     | nil=>exact fin hy
     | cons h1 h2=>simp at hx
    | ops is h=>simp at hx
   ·rw [q3] at htd
    generalize hx:([.inRegion ops [],stopI]:List Item)=x at htd
    generalize hy:fy.todo=y at htd
    cases htd with
    | @code l l' _ hi=>
     cases hi with
     | nil=>simp at hx
     | cons h1 h2=>
      cases h2 with
      | nil=>
       simp only [List.cons_append,List.nil_append,List.cons.injEq,and_true] at hx
       subst hx
       cases h1 with
       | inRegion is hr=>exact step ops hy
      | cons h3 h4=>simp at hx
    | @ops ops2 is h=>
     simp only [List.cons.injEq,Item.inRegion.injEq,and_true] at hx
     obtain ⟨rfl,rfl⟩:=hx
     exact step ops hy
 ·obtain ⟨own1,X1,gy,wy⟩:=y
  obtain ⟨fy,csy,sty,dy,oy⟩:=gy
  obtain ⟨z1,z2,z3,z4,z5,z6,z7,z8,z9,z10,z11,z12,z13,z14,z15,z16,z17⟩:=he
  simp only at z2 z3 z5 z6 z9 z11 z12 z13 z14 z15 z16
  subst z2 z9 z11 z12
  have htm:TmR C S b.fn E1 g1.frame.tmps fy.tmps:=by rwa [← z3,z16] at z6
  have hho:∀ i,(C.hl b.fn).contains i=true→fy.tmps[i]?=t'[i]?:=by
   have:=z17
   rwa [← z3,z16] at this
  refine .stop fun w2 hr=>⟨E1,⟨g1.frame.tmps,d⟩,w1,fy.tmps,hs,hL1.rely hr,htm,hho,.inr ⟨hq,fy.todo,?_⟩⟩
  obtain ⟨f1,f2,f3,f4,f5,f6,f7⟩:=fy
  simp only at z3 z5 z13 z14 z15 z16
  subst z5 z13 z14 z15 z16
  rfl
end
end Go.Sim
