/- PROVED HERE: laws. Conditions: none. -/
import Derived.Test.YtlcbehhbfglgaaaGreatF16
set_option linter.all false
section
set_option linter.unusedSectionVars false
namespace Go.Sim
open Go.Conc Go.ConcN
open Go.ConcR (KK wgBlock WgAt stA smA rd wr mk Payload DC0 Bk bk_of_mute ofEvent_loc_mark ofEvent_cell g_of_ofEvents ofEvent_mk)
section
variable [Payload] {H:Ph} {tag tag':J12} {j:Nat} {D:Nat->J0a} {f0 d0 f':Nat} {q:Nat->Nat} {gs:Array Goroutine} {w w':World} {sl:Option (Nat × Nat)} {t:Trace} {a a':Goroutine} {es:Array Event}
theorem J0s.status (hAr:∀ g w,H.Anch g w->g.status=.running) (hFr:∀ g w,H.Fin g w->g.status=.running) {d:Nat} (h:J0s H tag j f' d a w):a.status=.running\/(a.status=.blocked/\tag=.blk):=by
 have gm:∀ {Stop:Goroutine->World->Prop} {n:Nat},(∀ g w,Stop g w->g.status=.running)->Goes H.P true (RM H.ty H.Wg) DC0 Stop n a w->a.status=.running:=fun hs hg=>Goes.running hs w id hg;cases h with
 | al hr h=>exact .inl (gm (fun _ _ x=>x.1) h)
 | st hr h=>exact .inl (gm (fun _ _ x=>x.1) h)
 | kds hr h=>exact .inl (gm (fun _ _ x=>x.1) h)
 | a1 hr h=>exact .inl (gm (fun _ _ x=>x.1) h)
 | rd hr h=>exact .inl (gm (fun _ _ x=>x.1) h)
 | kes hr h=>exact .inl (gm (fun _ _ x=>x.1) h)
 | go hr h=>exact .inl (gm (fun _ _ x=>x.1) h)
 | kd h=>exact .inl (gm (fun _ _ x=>x.1) h)
 | anch h=>exact .inl (gm hAr h)
 | w1 h=>exact .inl (gm (fun _ _ x=>x.1) h)
 | w2 h=>exact .inl (gm (fun _ _ x=>x.1) h)
 | wr h=>exact .inl (gm (fun _ _ x=>x.1) h)
 | w3 h=>exact .inl (gm (fun _ _ x=>x.1) h)
 | w4 h=>exact .inl (gm (fun _ _ x=>x.1) h)
 | ke h=>exact .inl (gm (fun _ _ x=>x.1) h)
 | acq h=>exact .inl (gm (fun _ _ x=>x.1) h)
 | fin h=>exact .inl (gm hFr h)
 | blk h=>exact .inr ⟨rfl,rfl⟩
theorem WS.running_of {i:Nat} {D:J0a} {g:Goroutine} (h:WS H i D g w) (hs:D.d.stage≠1):g.status=.running:=by
 cases h with
 | work y _ _ _ _ _ _ _ hs=>exact hs
 | r0 _ f _ hs=>exact Goes.running (fun _ _ x=>x.1) w (RW.refl w) hs
 | tail _ _ hs'=>exact WSit.running_of hs' hs
theorem JInv.at (hQ:∀ i own X v w w',H.Q i own X v w->J07 true X w w'->H.Q i own X v w') (h:JInv H tag j D f0 d0 q gs w t) (d:Nat):JInv H tag j D f0 d0 q gs (w.at d) t:=by
 obtain ⟨a,ha,hs⟩:=h.main;have hJ:=h.jw;have hT:=h.jt;refine ⟨h.jn,h.size,⟨a,ha,hs.rely H (fun x=>x)⟩,fun i hi=>?_,h.old,⟨hJ.keep,hJ.pay,hJ.has,hJ.low,hJ.J2o,hJ.J54,hJ.J5m,hJ.avoid,hJ.wg,hJ.c,hJ.cw,hJ.cW,hJ.wW,hJ.sh0,hJ.wl,hJ.os,hJ.out⟩,
  ⟨hT.ct,hT.pre,hT.low,hT.new,hT.J9v,hT.deaf0,hT.deafW,hT.above,hT.rel⟩,h.wg,h.sb,h.acq⟩
 obtain ⟨g,hg,hw⟩:=h.ws i hi;exact ⟨g,hg,hw.other H hQ ⟨⟨fun _ _=>rfl,Ja2 _,fun e=>by (cases e),rfl⟩,RW.of_same rfl rfl⟩⟩
section
variable (hAr:∀ g w,H.Anch g w->g.status=.running) (hFr:∀ g w,H.Fin g w->g.status=.running)
include hAr hFr
theorem JInv.someone (h:JInv H tag j D f0 d0 q gs w t):∃ (i:Nat) (g:Goroutine),gs[i]?=some g/\g.status=.running:=by
 obtain ⟨a,ha,hs⟩:=h.main;rcases hs.status hAr hFr with hr|⟨_,rfl⟩
 ·exact ⟨0,a,ha,hr⟩
 ·obtain ⟨st,sm,_,hmode⟩:=h.wg;cases hmode with
  | opn h1 _ _=>exact h1.elim
  | reg _ _ h3=>
   obtain ⟨i,hi,h5⟩:=exists_counted h3;obtain ⟨g,hg,hw⟩:=h.ws i hi;exact ⟨_,g,hg,hw.running_of (by omega)⟩
  | last L _ h2 h3 _=>
   obtain ⟨g,hg,hw⟩:=h.ws L h2;exact ⟨_,g,hg,hw.running_of (by omega)⟩
  | sema h1 _=>rcases h1 with h1|h1<;>cases h1
  | fin h1 _=>exact h1.elim
theorem JInv.awake (h:JInv H tag j D f0 d0 q gs w t):∀ g∈gs,awake g:=by
 intro g hg;obtain ⟨i,hi⟩:=Array.mem_iff_getElem?.1 hg;obtain ⟨a,ha,hs⟩:=h.main;have hlt:=(Ja3.1 hi).1;rw [h.size] at hlt;rcases Nat.eq_zero_or_pos i with rfl|hpos
 ·rw [ha] at hi;cases hi;rcases hs.status hAr hFr with hr|⟨hr,_⟩
  ·exact awake_of (.inl hr)
  ·exact awake_of (.inr (.inl hr))
 ·by_cases hm:i<=H.m
  ·exact awake_of ((h.old i g hpos hm hi).status.elim .inl fun x=>.inr (.inr x))
  ·obtain ⟨g',hg',hw⟩:=h.ws (i-(H.m+1)) (by omega);rw [show H.m+1+(i-(H.m+1))=i by omega,hi] at hg';cases hg';exact awake_of (hw.status.elim .inl fun x=>.inr (.inr x))
theorem Jrs (h:JInv H tag j D f0 d0 q gs w t) {k:Nat} (hk1:0<k) (hk2:k<=H.m) {g:Goroutine} (hg:gs[k]?=some g) (hrun:g.status=.running):J2x H tag j D f0 q k gs w sl t:=by
 have hq:=h.old k g hk1 hk2 hg;cases hqk:q k with
 | zero=>rw [hqk] at hq;rw [hq.1] at hrun;cases hrun
 | succ n=>
  rw [hqk] at hq;rcases hq with ⟨hf,_⟩|⟨_,g',es,hm,hstp,hq'⟩
  ·rw [hf] at hrun;cases hrun
  obtain ⟨a,ha,hsit⟩:=h.main;obtain ⟨tag',f',Jmg,hf',htag,hwk⟩:=hsit.woken hAr hFr h.live (w':=w) (fun x=>x) g g';have hne:(k == 0)=false:=by simp;omega
  have hrunT:=runT_crowd_go (P:=H.P) (sl:=sl) (i:=k) hg (by rw [hne];exact hstp w);have hlt:k<gs.size:=(Ja3.1 hg).1;have J5t:∀ op∈MemOp.ofEvents k g.frame.fn g.frame.place es,op.g=k:=fun op hop=>by obtain ⟨e,_,rfl⟩:=Conc.mem_ofEvents hop;rfl
  have nt:∀ op∈MemOp.ofEvents k g.frame.fn g.frame.place es,op.act.touch?=none:=fun op hop=>by obtain ⟨e,he,rfl⟩:=Conc.mem_ofEvents hop;exact touch_mute (hm e he)
  obtain ⟨st,sm,hwg,hmode⟩:=h.wg;have hT:=h.jt;refine ⟨_,w,_,tag',j,D,f',d0,upd q k n,hrunT,⟨h.jn,by simpa using h.size,⟨_,?_,Jmg⟩,fun i hi=>?_,fun i b hi1 hi2 hb=>?_,h.jw,?_,⟨st,sm,hwg,hmode.retag htag⟩,?_,fun e'=>?_⟩,?_⟩
  ·rw [Ja1 (by omega),Array.getElem?_map,ha];rfl
  ·obtain ⟨b,hb,hwb⟩:=h.ws i hi;refine ⟨b,?_,hwb⟩;rw [Ja1 (by omega),Array.getElem?_map,hb];simp [J7p hwb.status]
  ·by_cases e:k=i
   ·subst e;rw [Ja9 (by simpa using hlt)] at hb;obtain rfl:=Ja0 hb;rw [upd_same,Deaf_own];exact hq'
   ·rw [Ja1 e,Array.getElem?_map] at hb;obtain ⟨y,hy,rfl⟩:=Jc0.1 hb;have hqi:=h.old i y hi1 hi2 hy;rw [woken_quitsD hqi,upd_ne q n (Ne.symm e),Deaf_other t (g:=i) (g':=k) e _ J5t];exact hqi
  ·refine ⟨hT.ct.appW h.jw.apart (k:=k) (by omega) (by omega) fun op hop=>⟨J5t op hop,fun x hx=>by rw [nt op hop] at hx;cases hx⟩,?_,?_,?_,?_,?_,?_,?_,?_⟩
   ·obtain ⟨u,hu⟩:=hT.pre;exact ⟨u++MemOp.ofEvents k g.frame.fn g.frame.place es,by rw [hu,Array.append_assoc]⟩
   ·refine seen_app hT.low fun op hop=>?_;obtain ⟨e,he,rfl⟩:=Conc.mem_ofEvents hop;exact low_mute (hm e he) _
   ·intro i op x hi hop hx;rcases getElem?_append_cases hop with ⟨_,h1⟩|⟨_,h1⟩
    ·exact hT.new i op x hi h1 hx
    ·rw [nt op h1] at hx;cases hx
   ·exact hT.J9v.app fun op hop=>by obtain ⟨e,he,rfl⟩:=Conc.mem_ofEvents hop;exact Jiv (H:=H) (bk_of_mute (hm e he))
   ·rw [Deaf_other t (g:=0) (g':=k) (by omega) _ J5t];exact hT.deaf0
   ·intro i hi;rw [Deaf_other t (g:=H.m+1+i) (g':=k) (by omega) _ J5t];exact hT.deafW i hi
   ·intro i hi;rw [Deaf_other t (g:=i) (g':=k) (by omega) _ J5t];exact hT.above i hi
   ·intro i hi hs;obtain ⟨r,hr⟩:=hT.rel i hi hs;exact ⟨r,hr.appOther J5t (by omega)⟩
  ·exact h.sb.keep htag (fun _ _ _ _ _=>rfl) (fun s _ hX=>hX)
  ·have hat:J8t H j t:=by
    rcases htag with rfl|⟨_,rfl⟩
    ·exact h.acq e'
    ·cases e'
   exact hat.app fun i r _ hr=>hr.appOther J5t (by omega)
  ·refine .inr (.inr ⟨rfl,rfl,?_⟩);unfold mu;rw [Jda _ _ htag];refine Prod.Lex.right _ ?_;have:=sumTo_upd q n id (j:=H.m+1) (i:=k) (by omega);simp only [id,hqk] at this;have e1:(sumTo (H.m+1) fun x=>upd q k n x)=sumTo (H.m+1) (upd q k n):=rfl;have e2:(sumTo (H.m+1) fun x=>q x)=sumTo (H.m+1) q:=rfl;omega
section
variable (hQ:∀ i own X v w w',H.Q i own X v w->J07 true X w w'->H.Q i own X v w') (hn:H.n<2147483648) (hAn:∀ g w,H.Anch g w->∃ m,Goes H.P true (RM H.ty H.Wg) DC0 (JW1 H.P H.ty H.Wg H.Fin H.Anch) m g w)
include hQ hn hAn
theorem JInv.done (h:JInv H tag j D f0 d0 q gs w t) {i:Nat} (hi:i<j) {g:Goroutine} (hg:gs[H.m+1+i]?=some g) {y:Sit} (hr:(D i).rank=some y) (ho:y.own=(D i).own) (hX:y.X=(D i).X) (hgy:y.g=g) (hw:J07 true y.X y.w w) (hd:(D i).d=⟨7,0,0⟩)
  (hst:∀ w1,J07 true y.X y.w w1->J52 H i { y with w:=w1 }):∃ D',JInv H tag j D' f0 d0 q gs w t/\Falls H (H.n-j) (ranks j D') (mu H tag j D' f0 q) (H.n-j) (ranks j D) (mu H tag j D f0 q):=by
 obtain ⟨v,hq,hk⟩:=hst w hw;obtain ⟨k,hk⟩:=hk w h.jw.pay h.live;simp only at hq hk;rw [ho,hX] at hq;rw [hgy] at hk
 let D':J0a:=⟨(D i).own,(D i).X,v,none,⟨7,k,0⟩⟩
 have sm:∀ a,(upd D i D' a).own=(D a).own/\(upd D i D' a).X=(D a).X/\((upd D i D' a).d.stage=(D a).d.stage)/\(upd D i D' a).d.deaf=(D a).d.deaf/\((D a).d.stage<=6->(upd D i D' a).v=(D a).v):=fun a=>by
  by_cases e:a=i
  ·subst e;rw [upd_same];exact ⟨rfl,rfl,by rw [hd],by rw [hd],fun h=>by rw [hd] at h;exact absurd h (by decide)⟩
  ·rw [upd_ne D _ e];exact ⟨rfl,rfl,rfl,rfl,fun _=>rfl⟩
 have eo:J38 H j (upd D i D')=J38 H j D:=by funext g l;unfold J38;simp only [fun a=>(sm a).1]
 have er:RdJ H j (upd D i D')=RdJ H j D:=by funext g l;unfold RdJ;simp only [fun a=>(sm a).1,fun a=>(sm a).2.1]
 have hJ:=h.jw;have hT:=h.jt;obtain ⟨st,sm',hwg,hmode⟩:=h.wg;refine ⟨upd D i D',⟨h.jn,h.size,h.main,fun a ha=>?_,h.old,⟨hJ.keep,hJ.pay,fun a ha hs=>?_,fun a ha b hb=>?_,fun a ha b hb=>?_,fun a c ha hc hac b hb=>?_,fun a ha b hb=>?_,fun a ha b hb=>?_,hJ.wg,hJ.c,hJ.cw,hJ.cW,hJ.wW,hJ.sh0,hJ.wl,hJ.os,hJ.out⟩,
  ⟨by rw [eo,er];exact hT.ct,hT.pre,hT.low,hT.new,hT.J9v,hT.deaf0,fun a ha=>by rw [(sm a).2.2.2.1];exact hT.deafW a ha,hT.above,fun a ha hs=>hT.rel a ha (by rw [<- (sm a).2.2.1];exact hs)⟩,⟨st,sm',hwg,hmode.congr fun a _=>(sm a).2.2.1⟩,?_,h.acq⟩,.inr (.inl ⟨rfl,Jd9 hi (by rw [hr];exact .done)⟩)⟩
 ·by_cases e:a=i
  ·subst e;refine ⟨g,hg,?_⟩;rw [upd_same];exact .r0 rfl k rfl hk hq
  ·rw [upd_ne D _ e];exact h.ws a ha
 ·have h6:(D a).d.stage<=6:=by rw [<- (sm a).2.2.1];exact hs
  rw [(sm a).2.2.2.2 h6];exact hJ.has a ha h6
 ·rw [(sm a).2.1] at hb;exact hJ.low a ha b hb
 ·rw [(sm a).1] at hb;rw [(sm a).2.1];exact hJ.J2o a ha b hb
 ·rw [(sm a).1] at hb;rw [(sm c).2.1];exact hJ.J54 a c ha hc hac b hb
 ·rw [(sm a).1] at hb;exact hJ.J5m a ha b hb
 ·rw [(sm a).2.1] at hb;exact hJ.avoid a ha b hb
 ·exact h.sb.keep (.inl rfl) (fun _ _ _ _ _=>rfl) (fun s _ hX a ha=>by rw [(sm a).2.1];exact hX a ha)
theorem Jmi (h:JInv H tag j D f0 d0 q gs w t) :
  (tag=.fin/\∃ a,gs[0]?=some a/\∀ w₁,RM H.ty H.Wg w w₁->H.Fin a w₁) \/
  (∃ tag' D' f' ,JInv H tag' j D' f' d0 q gs w t/\Falls H (H.n-j) (ranks j D') (mu H tag' j D' f' q) (H.n-j) (ranks j D) (mu H tag j D f0 q)) \/
  (∃ gs' w' sl' ops tag' j' D' f' d' q',stepT H.P (crowd gs w sl)=(.next (crowd gs' w' sl'),ops)/\JInv H tag' j' D' f' d' q' gs' w' (t++ops) /\
   Falls H (H.n-j') (ranks j' D') (mu H tag' j' D' f' q') (H.n-j) (ranks j D) (mu H tag j D f0 q)):=by
 obtain ⟨i,g,d,sl',hg,hrun,hstep⟩:=crowd_pick (P:=H.P) (w:=w) (sl:=sl) (h.awake hAr hFr) (h.someone hAr hFr);have h':=h.at hQ d;have next:J2x H tag j D f0 q i gs (w.at d) sl' t->∃ gs' w' sl' ops tag' j' D' f' d' q',stepT H.P (crowd gs w sl)=(.next (crowd gs' w' sl'),ops)/\JInv H tag' j' D' f' d' q' gs' w' (t++ops) /\
   Falls H (H.n-j') (ranks j' D') (mu H tag' j' D' f' q') (H.n-j) (ranks j D) (mu H tag j D f0 q):=fun ⟨gs',w',ops,tag',j',D',f',d',q',h1,h2,h3⟩=>
  ⟨gs',w',sl',ops,tag',j',D',f',d',q',by rw [hstep];exact h1,h2,h3⟩
 have hlt:=(Ja3.1 hg).1;rw [h.size] at hlt;rcases Nat.eq_zero_or_pos i with rfl|hpos
 ·obtain ⟨a,ha,hs⟩:=h.main;rw [ha] at hg;cases hg;rcases J79 (sl:=sl) hQ hn hAn h ha hrun hs with ⟨e,hf⟩|⟨f',rfl,hj⟩|_
  ·exact .inl ⟨e,_,ha,hf⟩
  ·refine .inr (.inl ⟨_,_,_,hj,.inr (.inr ⟨rfl,rfl,?_⟩)⟩);unfold mu;refine Prod.Lex.left _ _ ?_;simp only [J0y];omega
  ·obtain ⟨a',ha',hs'⟩:=h'.main;rw [ha] at ha';cases ha';rcases J79 (sl:=sl') hQ hn hAn h' ha hrun hs' with ⟨e,hf⟩|⟨f',rfl,hj⟩|hx
   ·exact .inl ⟨e,_,ha,hf⟩
   ·rcases J79 (sl:=sl) hQ hn hAn h ha hrun hs with ⟨e,hf⟩|⟨f',_,hj⟩|_
    ·exact .inl ⟨e,_,ha,hf⟩
    ·refine .inr (.inl ⟨_,_,_,hj,.inr (.inr ⟨rfl,rfl,?_⟩)⟩);unfold mu;refine Prod.Lex.left _ _ ?_;simp only [J0y];omega
    ·obtain ⟨a2,ha2,hs2⟩:=hj.main;rw [ha] at ha2;cases ha2;rcases J79 (sl:=sl') hQ hn hAn hj ha hrun hs2 with ⟨e,_⟩|⟨_,e,_⟩|⟨gs',w',ops,tag',j',D',f2,d',q',h1,h2,h3⟩
     ·cases e
     ·cases e
     ·refine .inr (.inr ⟨gs',w',sl',ops,tag',j',D',f2,d',q',by rw [hstep];exact h1,h2,?_⟩);rcases h3 with h3|h3|⟨e1,e2,h3⟩
      ·exact .inl h3
      ·exact .inr (.inl h3)
      ·refine .inr (.inr ⟨e1,e2,?_⟩);have key:∀ {x y z:Nat × Nat},Prod.Lex (· < ·) (· < ·) x y->y.1<z.1->Prod.Lex (· < ·) (· < ·) x z:=fun {x y z} h1 h2=>by
        obtain ⟨x1,x2⟩:=x;obtain ⟨y1,y2⟩:=y;obtain ⟨z1,z2⟩:=z;cases h1 with
        | left _ _ h=>exact Prod.Lex.left _ _ (by simp only at h2 ⊢;omega)
        | right _ h=>exact Prod.Lex.left _ _ h2
       refine key h3 ?_;unfold mu;simp only [J0y];omega
   ·exact .inr (.inr (next hx))
 ·by_cases hm:i<=H.m
  ·exact .inr (.inr (next (Jrs hAr hFr h' hpos hm hg hrun)))
  ·obtain ⟨k,hk,rfl⟩:∃ k,k<j/\i=H.m+1+k:=⟨i-(H.m+1),by omega,by omega⟩;obtain ⟨b,hb,hw⟩:=h.ws k hk;obtain ⟨b',hb',hw'⟩:=h'.ws k hk;rw [hg] at hb;cases hb;rw [hg] at hb';cases hb';cases hw with
   | work y hr ho hX hgy hR hwr hd hs hof=>
    by_cases hst:∀ w1,J07 true y.X y.w w1->J52 H k { y with w:=w1 }
    ·obtain ⟨D',h1,h2⟩:=h.done hAr hFr hQ hn hAn hk hg hr ho hX hgy hwr hd hst;exact .inr (.inl ⟨_,_,_,h1,h2⟩)
    ·refine .inr (.inr (next (Jpa hQ hAr hFr h' hk hr ho hX hR (hwr.trans ⟨fun _ _=>rfl,Ja2 _,fun e=>by (cases e),rfl⟩) hd hst (by rw [hgy];exact hg))))
   | r0 hr f hd hs hQi=>
    cases hw' with
    | r0 hr' f' hd' hs' Jrt=>exact .inr (.inr (next (Jvo hQ hAr hFr h' hk hg hr' hd' hs' Jrt)))
    | work y hr'=>rw [hr] at hr';cases hr'
    | tail hr' h6=>rw [hd] at h6;simp at h6
   | tail hr h6 hs hQi=>
    cases hw' with
    | tail hr' h6' hs' Jrt=>exact .inr (.inr (next (Jpd hQ hAr hFr hn h' hk hg hrun hr' h6' hs' Jrt)))
    | work y hr'=>rw [hr] at hr';cases hr'
    | r0 hr' f hd'=>rw [hd'] at h6;simp at h6
theorem Jmj (h:JInv H tag j D f0 d0 q gs w t):∃ (N:Nat) (gs':Array Goroutine) (w':World) (sl':Option (Nat × Nat)) (t':Trace) (D':Nat->J0a) (f':Nat) (q':Nat->Nat) (a:Goroutine),
  runNT H.P N (crowd gs w sl) t=(.next (crowd gs' w' sl'),t')/\JInv H .fin H.n D' f' 0 q' gs' w' t'/\gs'[0]?=some a/\∀ w₁,RM H.ty H.Wg w' w₁->H.Fin a w₁:=by
 generalize hr:H.n-j=r
 induction r using Nat.strongRecOn generalizing tag j D f0 d0 q gs w sl t with
 | _ r ih1=>
 have hacc:=h.Jrr;generalize hl:ranks j D=l at hacc
 induction hacc generalizing tag j D f0 d0 q gs w sl t with
 | intro l _ ih2=>
 generalize hμ:mu H tag j D f0 q=μ
 induction μ using (Prod.lex Nat.lt_wfRel Nat.lt_wfRel).wf.induction generalizing tag j D f0 d0 q gs w sl t with
 | _ μ ih3=>
 have go:∀ {tag' j' D' f' d' q' gs' w' t' sl'},JInv H tag' j' D' f' d' q' gs' w' t'->Falls H (H.n-j') (ranks j' D') (mu H tag' j' D' f' q') (H.n-j) (ranks j D) (mu H tag j D f0 q) ->
   ∃ (N:Nat) (gs2:Array Goroutine) (w2:World) (sl2:Option (Nat × Nat)) (t2:Trace) (D2:Nat->J0a) (f2:Nat) (q2:Nat->Nat) (a:Goroutine),
    runNT H.P N (crowd gs' w' sl') t'=(.next (crowd gs2 w2 sl2),t2)/\JInv H .fin H.n D2 f2 0 q2 gs2 w2 t2/\gs2[0]?=some a/\∀ w₁,RM H.ty H.Wg w2 w₁->H.Fin a w₁:=by
  intro tag' j' D' f' d' q' gs' w' t' sl' h1 hf;rcases hf with hf|⟨e,hf⟩|⟨e,e2,hf⟩
  ·exact ih1 _ (by rw [<- hr];exact hf) h1 rfl
  ·exact ih2 _ (by rw [<- hl];exact hf) h1 (e.trans hr) rfl
  ·exact ih3 _ (by rw [<- hμ];exact hf) h1 (e.trans hr) (e2.trans hl) rfl
 rcases Jmi (sl:=sl) hAr hFr hQ hn hAn h with ⟨rfl,a,ha,hF⟩|⟨tag',D',f',h1,hf⟩|⟨gs',w',sl',ops,tag',j',D',f',d',q',hs,h1,hf⟩
 ·have h0:=h;obtain ⟨a',_,hs⟩:=h0.main;cases hs;exact ⟨0,gs,w,sl,t,D,f0,q,a,rfl,h,ha,hF⟩
 ·exact go h1 hf
 ·obtain ⟨N,gs2,w2,sl2,t2,D2,f2,q2,a,hr2,rest⟩:=go (sl':=sl') h1 hf;exact ⟨N+1,gs2,w2,sl2,t2,D2,f2,q2,a,by simp only [runNT,hs];exact hr2,rest⟩
end
end
end
end Go.Sim
end
section
set_option linter.unusedSectionVars false
namespace Go.Sim
open Go.Conc Go.ConcN
open Go.ConcR (KK wgBlock WgAt stA smA rd wr mk Payload DC0)
section
variable [Payload] {H:Ph} {j:Nat} {D:Nat->J0a} {f0 d0:Nat} {q:Nat->Nat} {gs:Array Goroutine} {w:World} {t:Trace}
theorem J9z (h:J8t H j t) (hn:NoRelease (stA H.Wg) t) {i k:Nat} (hk:k<j) (hg:t.g? i=some (H.m+1+k)) (hc:t.counts i):∃ q,t.g? q=some 0/\HappensBefore t i q:=by
 obtain ⟨q,hq,hq0,hh,hall⟩:=h;obtain ⟨r,hr,hrq⟩:=hall k hk;have edge:HappensBefore t r q:=.single (.inr ⟨.marked hrq (.inr hr.act) hq (fun k _ _=>hn k),hr.heard,hh⟩);have hle:i<=r:=Nat.le_of_not_lt fun hlt=>hr.after i hlt hg hc;refine ⟨q,hq0,?_⟩;rcases Jb5 i r with hlt|hge
 ·exact .trans (.single (.inl ⟨hlt,_,hg,hr.g⟩)) edge
 ·obtain rfl:i=r:=by omega
  exact edge
theorem Jmk {B:Nat} (hP:Past (ShJ H) B H.t0) (h:JInv H .fin j D f0 0 q gs w t):Past (ShJ H) w.heap.size t:=by
 have hT:=h.jt;have hA:=h.acq rfl;obtain ⟨u,hu⟩:=hT.pre;have old:∀ i,i<H.t0.size->t[i]?=H.t0[i]?:=fun i hi=>by rw [hu,getElem?_append_old hi]
 refine ⟨hT.ct.nr,fun i a ha hm=>?_,fun i g hg hne hc=>?_,hT.deaf0,hT.low⟩
 ·rcases Jb5 i H.t0.size with hi|hi
  ·have ha':touchAt H.t0 i=some a:=by rw [hu,touchAt_old hi] at ha;exact ha
   exact (hP.known i a ha' hm).imp (fun h=>by rw [hu];exact h.app u) id
  ·obtain ⟨op,hop,hx⟩:=touch_of ha;obtain ⟨hg,hpl⟩:=hT.new i op a hi hop hx;rcases hg with hg|⟨k,hk,hg⟩
   ·have:=knows_own hop;rw [hg] at this;exact .inl this
   ·have hgi:t.g? i=some (H.m+1+k):=by simp [Trace.g?,hop,hg]
    by_cases hc:t.counts i
    ·obtain ⟨p,hp,hb⟩:=J9z hA hT.J9v hk hgi hc;obtain ⟨z,hz,hzg⟩:=Jc0.1 hp;exact .inl ⟨p,z,hz,hzg,.inr hb⟩
    ·have hka:a.kind=.atomic:=Classical.byContradiction fun hn=>hc ⟨a,ha,hm,.inl hn⟩;by_cases hs:ShJ H a.loc
     ·exact .inr ⟨hs,hka⟩
     ·rw [(hpl hs).1] at hka;cases hka
 ·rcases Jb5 i H.t0.size with hi|hi
  ·obtain ⟨p,hp,hb⟩:=hP.over i g (by rw [hu,g?_old hi] at hg;exact hg) hne (by rw [hu] at hc;exact (counts_old hi).1 hc);have hpl:p<H.t0.size:=by unfold Trace.g? at hp;obtain ⟨z,hz,_⟩:=Jc0.1 hp;exact lt_size_of_getElem? hz
   exact ⟨p,by rw [hu,g?_old hpl];exact hp,by rw [hu];exact hb_app u hb⟩
  ·obtain ⟨a,ha,_⟩:=id hc;obtain ⟨op,hop,hx⟩:=touch_of ha;obtain ⟨hg',_⟩:=hT.new i op a hi hop hx;have eg:op.g=g:=by simpa [Trace.g?,hop] using hg
   rcases hg' with hg'|⟨k,hk,hg'⟩
   ·exact absurd (eg▸hg') hne
   ·exact J9z hA hT.J9v hk (by rw [hg,<- eg,hg']) hc
theorem phase_end {B:Nat} (hP:Past (ShJ H) B H.t0) (hM:∀ op∈H.t0,∀ x,op.act.touch?=some x->x.loc.isMemory=true) (h:JInv H .fin j D f0 0 q gs w t) :
  ∃ q',Cmp H.P (fun b=>H.W b\/b=H.Wg) gs w t q'/\JW H j D w/\(∀ i,i<j->Has H.C i (D i).v w/\H.Q i (D i).own (D i).X (D i).v w)/\∃ st sm,WgAt H.ty H.Wg w st sm:=by
 obtain ⟨st,sm,hwg,hmode⟩:=h.wg;obtain ⟨hq,_,_⟩:=hmode.fin_inv trivial;have hq1:∀ i,i<j->(D i).d.stage=1:=hq;have tl:∀ i,i<j->∃ g,gs[H.m+1+i]?=some g/\QuitsD H.P (D i).d.fuel (D i).d.deaf g/\H.Q i (D i).own (D i).X (D i).v w:=by
  intro i hi;obtain ⟨g,hg,hw⟩:=h.ws i hi;have h1:=hq1 i hi;cases hw with
  | work y _ _ _ _ _ _ hd=>rw [hd] at h1;cases h1
  | r0 _ f hd=>rw [hd] at h1;cases h1
  | tail _ _ hs hQ=>
   rw [h1] at hs;cases hs with
   | quit hs=>exact ⟨g,hg,hs,hQ⟩
 refine ⟨fun i=>if i<=H.m then q i else (D (i-(H.m+1))).d.fuel,⟨⟨fun i g hi hg=>?_,fun k hk=>h.jt.above k (by rw [h.size] at hk;omega)⟩,Jmk hP h,h.jt.ct.quiet,fun b hb=>?_,fun op hop=>?_⟩,h.jw,fun i hi=>?_,st,sm,hwg⟩
 ·have hlt:=(Ja3.1 hg).1;rw [h.size] at hlt;show QuitsD H.P (if i<=H.m then q i else (D (i-(H.m+1))).d.fuel) (Deaf t i) g;by_cases hm:i<=H.m
  ·rw [if_pos hm];exact h.old i g hi hm hg
  ·rw [if_neg hm];obtain ⟨k,hk,rfl⟩:∃ k,k<j/\i=H.m+1+k:=⟨i-(H.m+1),by omega,by omega⟩;obtain ⟨g',hg',hQ,_⟩:=tl k hk;rw [hg] at hg';cases hg';rw [h.jt.deafW k hk,show H.m+1+k-(H.m+1)=k by omega];exact hQ
 ·rcases hb with hb|rfl
  ·exact h.jw.wl b hb
  ·exact h.jw.wg
 ·obtain ⟨i,hi,rfl⟩:=Array.mem_iff_getElem.1 hop;have hi':t[i]?=some t[i]:=Ja4 hi;refine ⟨by have:=h.jt.ct.gs i _ hi';rw [h.size];omega,fun x hx=>?_⟩;rcases Jb5 i H.t0.size with hlt|hge
  ·obtain ⟨u,hu⟩:=h.jt.pre;have e:H.t0[i]?=some t[i]:=by rw [<- hi',hu,getElem?_append_old hlt]
   exact hM _ (Jc5 e) x hx
  ·have:=(h.jt.new i _ x hge hi' hx).2;by_cases hs:ShJ H x.loc
   ·obtain ⟨a,ha,_⟩:=hs;rw [ha];rfl
   ·exact (this hs).2
 ·obtain ⟨g,_,_,hQ⟩:=tl i hi;exact ⟨h.jw.has i hi (by rw [hq1 i hi];decide),hQ⟩
end
end Go.Sim
end
section
set_option linter.unusedSectionVars false
namespace Go.Sim
open Go.Conc Go.ConcN
open Go.ConcR (KK wgBlock WgAt stA smA rd wr mk Payload DC0)
section
variable [Payload] {H:Ph} {q:Nat->Nat} {gs:Array Goroutine} {sl:Option (Nat × Nat)} {a:Goroutine}
theorem Jru {t:Trace} {B:Nat} (h:∀ op∈t,op.act.low B) {i:Nat} {x:Touch} (hx:touchAt t i=some x) {c:Addr} (hc:x.loc=.cell c):c.block<B:=by
 have:=J9u (t:=t) h (l:=.cell c) (B:=B);by_cases hb:c.block<B
 ·exact hb
 ·exact absurd hc (this hb i x hx)
theorem Jkd (hC:Cmp H.P H.W gs H.w0 H.t0 q) (hlow:∀ op∈H.t0,op.act.low H.Wg) (hm:gs.size=H.m+1) (h0:gs[0]?=some a) (hs:JSp H H.n a H.w0) (hn:0<H.n) (hwg:WgAt H.ty H.Wg H.w0 0 0) (pay:PayAt H.C H.n H.w0)
  (wg:H.Wg<H.w0.heap.size) (c:H.C<H.w0.heap.size) (cw:H.C≠H.Wg) (cW:¬ H.W H.C) (wW:¬ H.W H.Wg) (sh0:∀ b,H.Sh0 b->b<H.w0.heap.size/\b≠H.Wg/\b≠H.C/\¬ H.W b) :
  ∃ f0 D,JInv H .al 0 D f0 0 q gs H.w0 H.t0:=by
 obtain ⟨r,hr⟩:∃ r,H.n=r+1:=⟨H.n-1,by omega⟩;rw [hr] at hs;obtain ⟨f0,hs⟩:=hs;have e0:H.n-(r+1)=0:=by omega
 have hsit:J0s H .al (H.n-(r+1)) f0 0 a H.w0:=.al (by omega) hs;rw [e0] at hsit;have hP:=hC.past;have quiet:Quiet (ShJ H) H.t0:=by
  intro i op x hi hx ⟨c,hc,hcW⟩;rcases hcW with hcW|hcW
  ·exact hC.quiet i op x hi hx ⟨c,hc,hcW⟩
  ·have:=Jru hlow (i:=i) (by rw [touchAt_of hi];exact hx) hc;omega
 have perm:∀ l,¬ ShJ H l->Perm H.t0 0 l:=fun l hl i x hx e=>by
  obtain ⟨op,hop,hox⟩:=touch_of hx;rcases hP.known i x hx ((hC.tidy op (Jc5 hop)).2 x hox) with h|⟨⟨c,h1,h2⟩,_⟩
  ·exact h
  ·exact absurd ⟨c,e▸h1,.inl h2⟩ hl
 refine ⟨f0,fun _=>⟨fun _=>False,fun _=>False,undef,none,⟨1,0,0⟩⟩,Nat.zero_le _,hm,⟨a,h0,hsit⟩,fun i hi=>absurd hi (Nat.not_lt_zero _),fun k g h1 _ hg=>hC.lv.old k g h1 hg,
  ⟨fun _ _=>rfl,pay,fun i hi=>absurd hi (Nat.not_lt_zero _),fun i hi=>absurd hi (Nat.not_lt_zero _),fun i hi=>absurd hi (Nat.not_lt_zero _),fun i _ hi=>absurd hi (Nat.not_lt_zero _),fun i hi=>absurd hi (Nat.not_lt_zero _),fun i hi=>absurd hi (Nat.not_lt_zero _),wg,c,cw,cW,wW,sh0,hC.low,rfl,rfl⟩,
  ⟨⟨quiet,fun k _ _ l ⟨i,hi,_⟩=>absurd hi (Nat.not_lt_zero _),fun k _ _ l ⟨i,hi,_⟩=>absurd hi (Nat.not_lt_zero _),fun l hl _=>perm l hl,fun l hl _=>PermW.of (perm l hl),hP.clean,fun i op hi=>?_⟩,⟨#[],by simp⟩,hP.seen,fun i op x hi hop=>?_,fun i hi=>?_,hP.hears,fun i hi=>absurd hi (Nat.not_lt_zero _),fun k hk=>hC.lv.above k (by omega),fun i hi=>absurd hi (Nat.not_lt_zero _)⟩,
  ⟨0,0,hwg,?_⟩,trivial,fun e=>by cases e⟩
 ·have:=(hC.tidy op (Jc5 hi)).1;omega
 ·have:=(Ja3.1 hop).1;omega
 ·unfold Trace.act? at hi;obtain ⟨op,hop,hact⟩:=Jc0.1 hi;have:=hlow op (Jc5 hop);rw [hact] at this;exact absurd this (Nat.lt_irrefl _)
 ·have:=Jv.opn (j:=0) (D:=fun i=>((fun _=>(⟨fun _=>False,fun _=>False,undef,none,⟨1,0,0⟩⟩:J0a)) i).d) (tag:=.al) trivial (fun i hi=>absurd hi (Nat.not_lt_zero _)) (fun vs e=>by cases e);simpa [Vc,sumTo,J1e] using this
structure Jua (H:Ph) (w:World) (D:Nat->J0a):Prop where
 jw:JW H H.n D w
 res:∀ i,i<H.n->Has H.C i (D i).v w/\H.Q i (D i).own (D i).X (D i).v w
 wg:∃ st sm,WgAt H.ty H.Wg w st sm
theorem Jpf (hQ:∀ i own X v w w',H.Q i own X v w->J07 true X w w'->H.Q i own X v w') (hAr:∀ g w,H.Anch g w->g.status=.running) (hFr:∀ g w,H.Fin g w->g.status=.running) (hn2:H.n<2147483648)
  (hAn:∀ g w,H.Anch g w->∃ m,Goes H.P true (RM H.ty H.Wg) DC0 (JW1 H.P H.ty H.Wg H.Fin H.Anch) m g w)
  (hC:Cmp H.P H.W gs H.w0 H.t0 q) (hlow:∀ op∈H.t0,op.act.low H.Wg) (hm:gs.size=H.m+1) (h0:gs[0]?=some a) (hs:JSp H H.n a H.w0) (hn:0<H.n) (hwg:WgAt H.ty H.Wg H.w0 0 0) (pay:PayAt H.C H.n H.w0)
  (wg:H.Wg<H.w0.heap.size) (c:H.C<H.w0.heap.size) (cw:H.C≠H.Wg) (cW:¬ H.W H.C) (wW:¬ H.W H.Wg) (sh0:∀ b,H.Sh0 b->b<H.w0.heap.size/\b≠H.Wg/\b≠H.C/\¬ H.W b) :
  ∃ (N:Nat) (gs':Array Goroutine) (w':World) (sl':Option (Nat × Nat)) (t':Trace) (q':Nat->Nat) (D:Nat->J0a) (a':Goroutine),
   runNT H.P N (crowd gs H.w0 sl) H.t0=(.next (crowd gs' w' sl'),t')/\gs'[0]?=some a'/\H.Fin a' w'/\Cmp H.P (fun b=>H.W b\/b=H.Wg) gs' w' t' q'/\Jua H w' D:=by
 obtain ⟨f0,D,hI⟩:=Jkd hC hlow hm h0 hs hn hwg pay wg c cw cW wW sh0;obtain ⟨N,gs',w',sl',t',D',f',q',a',hr,hI',ha',hF⟩:=Jmj (sl:=sl) hAr hFr hQ hn2 hAn hI;have hP:Past (ShJ H) H.w0.heap.size H.t0:=⟨hC.past.clean,fun i x hx hm=>(hC.past.known i x hx hm).imp id fun ⟨⟨c,h1,h2⟩,h3⟩=>⟨⟨c,h1,.inl h2⟩,h3⟩,hC.past.over,hC.past.hears,hC.past.seen⟩;obtain ⟨q2,hC',hJ,hres,hwg'⟩:=phase_end hP (fun op hop=>(hC.tidy op hop).2) hI';exact ⟨N,gs',w',sl',t',q2,D',a',hr,ha',hF w' fun x=>x,hC',⟨hJ,hres,hwg'⟩⟩
end
end Go.Sim
end
