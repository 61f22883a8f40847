/- PROVED HERE: laws that the statement rests on (parts Ve, Vf, Xb, Xc, Vg). Conditions: none. -/
import Derived.Test.YtlcbehhbfglgaaaGreatE08
import Derived.Test.YtlcbehhbfglgaaaGreatE25
set_option linter.all false
namespace Go.Sim
open Go Go.Conc
open Go.ConcN (sumTo upd upd_same upd_ne sumTo_upd)
theorem beside_quiet {P:Program} {W:Nat→Prop} {a a':Goroutine} {w0:World} {f:World→World} (hr:a.status=.running) (hs:∀ d,stepG P true a (w0.at d)=.go a' (f (w0.at d)) #[]) (hz:∀ d,w0.heap.size≤(f (w0.at d)).heap.size) :
  ∀ {gs:Array Goroutine} {w:World} {sl:Option (Nat × Nat)} {t:Trace} {q:Nat→Nat},gs[0]?=some a→Cmp P W gs w t q→AtRel w0 w →
   ∃ (N:Nat) (gs':Array Goroutine) (d:Nat) (sl':Option (Nat × Nat)) (t':Trace) (q':Nat→Nat),
    runNT P N (crowd gs w sl) t=(.next (crowd gs' (f (w0.at d)) sl'),t')∧gs'.size=gs.size∧gs'[0]?=some a'∧Cmp P W gs' (f (w0.at d)) t' q'∧∀ op∈t',op.act.low w0.heap.size:=by
 intro gs w sl t q h0 hC hw
 generalize hM:sumTo gs.size q=M
 induction M using Nat.strongRecOn generalizing gs w sl t q with
 | _ M ihM=>
 obtain ⟨d0,rfl⟩:=hw
 obtain ⟨i,g,d,sl',hi,hg,hst⟩:=crowd_pick (P:=P) (w:=w0.at d0) (sl:=sl) (awake_all h0 hr hC.lv) ⟨0,a,h0,hr⟩
 rcases Nat.eq_zero_or_pos i with rfl|hpos
 ·obtain rfl:g=a:=by rw [h0] at hi;exact (Option.some.inj hi).symm
  rw [show (w0.at d0).at d=w0.at d from rfl] at hst
  have hrunT:=runT_crowd_go (P:=P) (sl:=sl') (i:=0) hi (show stepG P (0 == 0) g _=_ from hs d)
  have hC':=hC.own (a':=a') (es:=#[]) (w':=f (w0.at d)) h0 (hz d) (own:=fun _=>False) (X:=fun _=>False) (fun e he=>by simp at he) (fun _ _ h=>h) (fun _ h=>h.elim)
  have hlt:0<gs.size:=(Array.getElem?_eq_some_iff.1 h0).1
  refine ⟨1,_,d,sl',_,q,by simp only [runNT,hst];exact (by rw [hrunT]),by simp,by simp [hlt],hC',fun op hop=>?_⟩
  rcases Array.mem_append.1 hop with h1|h1
  ·exact hC.past.seen op h1
  ·obtain ⟨e,he,rfl⟩:=Conc.mem_ofEvents h1
   simp at he
 ·have hi0:(i == 0)=false:=by simp;omega
  have hlt:i<gs.size:=(Array.getElem?_eq_some_iff.1 hi).1
  cases hqi:q i with
  | zero=>
   have hq:=hC.lv.old i g hpos hi
   rw [hqi] at hq;rw [hq.1] at hg;cases hg
  | succ n=>
   obtain ⟨g',es,hgo,hC'⟩:=hC.slip hi hpos hg d hqi
   have hrunT:=runT_crowd_go (P:=P) (sl:=sl') (i:=i) hi (by rw [hi0];exact hgo)
   have hsz:((gs.map (woken P g g' ((w0.at d0).at d))).setIfInBounds i g').size=gs.size:=by simp
   have hsum:sumTo gs.size (upd q i n)+(n+1)=sumTo gs.size q+n:=by
    have:=sumTo_upd q n id hlt
    simpa [hqi] using this
   obtain ⟨N,gs',d',sl'',t',q',hr1,hs1,h01,hC1,hlo⟩:=ihM (sumTo gs.size (upd q i n)) (by omega) (gs:=(gs.map (woken P g g' ((w0.at d0).at d))).setIfInBounds i g') (w:=(w0.at d0).at d) (sl:=sl') (t:=_) (q:=upd q i n)
    (by
     rw [Array.getElem?_setIfInBounds_ne (by omega),Array.getElem?_map,h0]
     simp [woken_run hr])
    hC' ⟨d,rfl⟩ (by rw [hsz])
   exact ⟨N+1,gs',d',sl'',t',q',by simp only [runNT,hst,hrunT];exact hr1,hs1.trans hsz,h01,hC1,hlo⟩
structure Kept (W W':Nat→Prop) (w w':World):Prop where
 le:∀ b,W b→W' b
 keep:∀ b,W b→w'.heap[b]?=w.heap[b]?
 os:w'.os=w.os
 out:w'.output=w.output
theorem Kept.refl {W:Nat→Prop} {w:World}:Kept W W w w:=⟨fun _ h=>h,fun _ _=>rfl,rfl,rfl⟩
theorem Kept.trans {W W1 W2:Nat→Prop} {w w1 w2:World} (h:Kept W W1 w w1) (k:Kept W1 W2 w1 w2):Kept W W2 w w2:=
 ⟨fun b hb=>k.le b (h.le b hb),fun b hb=>(k.keep b (h.le b hb)).trans (h.keep b hb),k.os.trans h.os,k.out.trans h.out⟩
theorem beside_runs2 {P:Program} {W0 W Z:Nat→Prop} {Stop:Sit→Prop} {y:Sit} (hR:Runs false P true Stop y) :
  ∀ {gs:Array Goroutine} {w:World} {sl:Option (Nat × Nat)} {t:Trace} {q:Nat→Nat},gs[0]?=some y.g→y.g.status=.running→Cmp P W0 gs w t q→AtRel y.w w→(∀ b,W0 b→¬ y.X b)→(∀ b,W b→b<y.w.heap.size∧¬ y.own b)→(∀ b,Z b→b<y.w.heap.size∧¬ y.X b)→(∀ b,y.X b→b<y.w.heap.size) →
   ∃ (N:Nat) (gs':Array Goroutine) (y':Sit) (sl':Option (Nat × Nat)) (t':Trace) (q':Nat→Nat),
    runNT P N (crowd gs w sl) t=(.next (crowd gs' y'.w sl'),t')∧gs'.size=gs.size∧gs'[0]?=some y'.g∧Stop y'∧Cmp P W0 gs' y'.w t' q'∧(∀ b,W b→¬ y'.own b)∧(∀ b,Z b→¬ y'.X b)∧(∀ b,y'.X b→b<y'.w.heap.size)∧Kept W W y.w y'.w∧y.w.heap.size≤y'.w.heap.size:=by
 induction hR with
 | @stop y h=>
  intro gs w sl t q h0 hr hC hw hd ho hz hX
  obtain ⟨d,rfl⟩:=hw
  exact ⟨0,gs,{ y with w:=y.w.at d },sl,t,q,rfl,rfl,h0,h _ (.at d),hC,fun b hb=>(ho b hb).2,fun b hb=>(hz b hb).2,hX,⟨fun _ h=>h,fun _ _=>rfl,rfl,rfl⟩,Nat.le_refl _⟩
 | @step y f h k ih=>
  intro gs w sl t q h0 hr hC hw hd ho hz hX
  generalize hM:sumTo gs.size q=M
  induction M using Nat.strongRecOn generalizing gs w sl t q with
  | _ M ihM=>
  obtain ⟨d0,rfl⟩:=hw
  obtain ⟨i,g,d,sl',hi,hg,hst⟩:=crowd_pick (P:=P) (w:=y.w.at d0) (sl:=sl) (awake_all h0 hr hC.lv) ⟨0,y.g,h0,hr⟩
  rcases Nat.eq_zero_or_pos i with rfl|hpos
  ·obtain rfl:g=y.g:=by rw [h0] at hi;exact (Option.some.inj hi).symm
   have hrel:Rely false y.X y.w ((y.w.at d0).at d):=.at d
   have hg1:=h _ hrel
   obtain ⟨es,hgo,hG⟩:=hg1.step
   have hrunT:=runT_crowd_go (P:=P) (sl:=sl') (i:=0) hi (show stepG P (0 == 0) y.g _=_ from hgo)
   have hlt:0<gs.size:=(Array.getElem?_eq_some_iff.1 h0).1
   have hd':∀ b,W0 b→¬ (f ((y.w.at d0).at d)).X b:=by
    intro b hb
    rw [hg1.X]
    rintro (hx|⟨hx,_⟩)
    ·exact hd b hb hx
    ·have:=hC.low b hb
     exact Nat.lt_irrefl _ (Nat.lt_of_lt_of_le this hx)
   have hX':∀ b,(f ((y.w.at d0).at d)).X b→b<(f ((y.w.at d0).at d)).w.heap.size:=by
    intro b
    rw [hg1.X]
    rintro (hx|⟨_,hx⟩)
    ·exact Nat.lt_of_lt_of_le (hX b hx) hG.size
    ·exact hx
   have ho':∀ b,W b→b<(f ((y.w.at d0).at d)).w.heap.size∧¬ (f ((y.w.at d0).at d)).own b:=by
    intro b hb
    obtain ⟨h1,h2⟩:=ho b hb
    refine ⟨Nat.lt_of_lt_of_le h1 hG.size,?_⟩
    rw [hg1.own]
    rintro (hx|⟨hx,_⟩)
    ·exact h2 hx
    ·exact Nat.lt_irrefl _ (Nat.lt_of_lt_of_le h1 hx)
   have hz':∀ b,Z b→b<(f ((y.w.at d0).at d)).w.heap.size∧¬ (f ((y.w.at d0).at d)).X b:=by
    intro b hb
    obtain ⟨h1,h2⟩:=hz b hb
    refine ⟨Nat.lt_of_lt_of_le h1 hG.size,?_⟩
    rw [hg1.X]
    rintro (hx|⟨hx,_⟩)
    ·exact h2 hx
    ·exact Nat.lt_irrefl _ (Nat.lt_of_lt_of_le h1 hx)
   have hK:Kept W W y.w (f ((y.w.at d0).at d)).w:=⟨fun _ h=>h,fun b hb=>hG.keep b (ho b hb).1 (ho b hb).2,hG.os,hG.out⟩
   have hC':=hC.own (a':=(f ((y.w.at d0).at d)).g) h0 hG.size hG.evs (fun b hb=>by have:=hd' b hb;rw [hg1.X] at this;exact this) (fun b hb=>hX' b (by rw [hg1.X];exact hb))
   obtain ⟨N,gs',y',sl'',t',q',hr1,hs1,h01,hS,hC1,ho1,hz1,hX1,hK1,hs2⟩:=ih _ hrel (sl:=sl') (by simp [hlt]) hg1.run hC' ⟨_,rfl⟩ hd' ho' hz' hX'
   exact ⟨N+1,gs',y',sl'',t',q',by simp only [runNT,hst,hrunT];exact hr1,hs1.trans (by simp),h01,hS,hC1,ho1,hz1,hX1,hK.trans hK1,Nat.le_trans hG.size hs2⟩
  ·have hi0:(i == 0)=false:=by simp;omega
   have hlt:i<gs.size:=(Array.getElem?_eq_some_iff.1 hi).1
   cases hqi:q i with
   | zero=>
    have hq:=hC.lv.old i g hpos hi
    rw [hqi] at hq;rw [hq.1] at hg;cases hg
   | succ n=>
    obtain ⟨g',es,hgo,hC'⟩:=hC.slip hi hpos hg d hqi
    have hrunT:=runT_crowd_go (P:=P) (sl:=sl') (i:=i) hi (by rw [hi0];exact hgo)
    have hsz:((gs.map (woken P g g' ((y.w.at d0).at d))).setIfInBounds i g').size=gs.size:=by simp
    have hsum:sumTo gs.size (upd q i n)+(n+1)=sumTo gs.size q+n:=by
     have:=sumTo_upd q n id hlt
     simpa [hqi] using this
    obtain ⟨N,gs',y',sl'',t',q',hr1,hs1,h01,hS,hC1,hd1,hX1⟩:=ihM (sumTo gs.size (upd q i n)) (by omega) (gs:=(gs.map (woken P g g' ((y.w.at d0).at d))).setIfInBounds i g') (w:=(y.w.at d0).at d) (sl:=sl') (t:=_) (q:=upd q i n)
     (by
      rw [Array.getElem?_setIfInBounds_ne (by omega),Array.getElem?_map,h0]
      simp [woken_run hr])
     hC' ⟨d,rfl⟩ (by rw [hsz])
    exact ⟨N+1,gs',y',sl'',t',q',by simp only [runNT,hst,hrunT];exact hr1,hs1.trans hsz,h01,hS,hC1,hd1,hX1⟩
def wgT:TypeId:=146
def Shy (W0 W:Nat→Prop) (w:World):Prop:=∀ b,W0 b→W b∧∃ a z,w.heap[b]?=some (.cells a wgT z)
def Reach (P:Program) (Post:(Nat→Prop)→Goroutine→World→Prop) (W:Nat→Prop) (g:Goroutine) (w:World):Prop:=
 ∀ (gs:Array Goroutine) (sl:Option (Nat × Nat)) (t:Trace) (q:Nat→Nat) (W0:Nat→Prop),Shy W0 W w→(∀ b,W b→b<w.heap.size)→gs[0]?=some g→Cmp P W0 gs w t q →
  ∃ (N:Nat) (gs':Array Goroutine) (w':World) (sl':Option (Nat × Nat)) (t':Trace) (q':Nat→Nat) (W' W0':Nat→Prop) (g':Goroutine),
   runNT P N (crowd gs w sl) t=(.next (crowd gs' w' sl'),t')∧gs'[0]?=some g'∧Cmp P W0' gs' w' t' q'∧Post W' g' w'∧Kept W W' w w'∧Shy W0' W' w'∧∀ b,W' b→b<w'.heap.size
section
variable {P:Program} {Post Post2:(Nat→Prop)→Goroutine→World→Prop} {W:Nat→Prop} {g:Goroutine} {w:World}
theorem runNT_trans' {m m' m'':Machine} {t t' t'':Trace} {N K:Nat} (h:runNT P N m t=(.next m',t')) (hk:runNT P K m' t'=(.next m'',t'')):runNT P (N+K) m t=(.next m'',t''):=by
 rw [runNT_add,h];exact hk
theorem Reach.here (h:Post W g w):Reach P Post W g w:=fun gs sl t q W0 hs hl h0 hC=>⟨0,gs,w,sl,t,q,W,W0,g,rfl,h0,hC,h,.refl,hs,hl⟩
theorem Reach.bind (h:Reach P Post W g w) (k:∀ W' g' w',Post W' g' w'→Reach P Post2 W' g' w'):Reach P Post2 W g w:=by
 intro gs sl t q W0 hs hl h0 hC
 obtain ⟨N,gs',w',sl',t',q',W',W1,g',hr,h0',hC',hP,hK,hs',hl'⟩:=h gs sl t q W0 hs hl h0 hC
 obtain ⟨N2,gs2,w2,sl2,t2,q2,W2,W3,g2,hr2,h02,hC2,hP2,hK2,hs2,hl2⟩:=k W' g' w' hP gs' sl' t' q' W1 hs' hl' h0' hC'
 exact ⟨N+N2,gs2,w2,sl2,t2,q2,W2,W3,g2,runNT_trans' hr hr2,h02,hC2,hP2,hK.trans hK2,hs2,hl2⟩
theorem Reach.kept (h:Reach P Post W g w):Reach P (fun W' g' w'=>Post W' g' w'∧Kept W W' w w') W g w:=by
 intro gs sl t q W0 hs hl h0 hC
 obtain ⟨N,gs',w',sl',t',q',W',W1,g',hr,h0',hC',hP,hK,hs',hl'⟩:=h gs sl t q W0 hs hl h0 hC
 exact ⟨N,gs',w',sl',t',q',W',W1,g',hr,h0',hC',⟨hP,hK⟩,hK,hs',hl'⟩
theorem Reach.mid {Mid:Goroutine→World→Prop} (h:Reach P (fun W' g' w'=>W'=W∧Mid g' w') W g w) (k:∀ g' w',Mid g' w'→(∀ b,W b→w'.heap[b]?=w.heap[b]?)→Reach P Post W g' w'):Reach P Post W g w:=
 h.kept.bind fun W' g' w' ⟨⟨e,hm⟩,hK⟩=>by subst e;exact k g' w' hm hK.keep
theorem Shy.kept {W0 W':Nat→Prop} {w':World} (h:Shy W0 W w) (k:Kept W W' w w'):Shy W0 W' w':=fun b hb=>by
 obtain ⟨h1,a,z,h2⟩:=h b hb
 exact ⟨k.le b h1,a,z,(k.keep b h1).trans h2⟩
theorem Reach.of_runs_ {own X Z:Nat→Prop} {Stop:Sit→Prop} (hR:Runs false P true Stop ⟨own,X,g,w⟩) (hr:g.status=.running) (hd:∀ b a z,W b→w.heap[b]?=some (.cells a wgT z)→¬ X b) (hod:∀ b,W b→¬ own b) (hZ:∀ b,Z b→b<w.heap.size∧¬ X b) (hX:∀ b,X b→b<w.heap.size)
  (k:∀ y,Stop y→(∀ b,W b→¬ y.own b)→(∀ b,Z b→¬ y.X b)→(∀ b,y.X b→b<y.w.heap.size)→Kept W W w y.w→Reach P Post W y.g y.w):Reach P Post W g w:=by
 intro gs sl t q W0 hs hl h0 hC
 obtain ⟨N,gs',y',sl',t',q',h1,_,h3,h4,h5,h6,h7,h8,h9,h10⟩:=beside_runs2 (W:=W) (Z:=Z) hR (sl:=sl) h0 hr hC (atRel_refl w) (fun b hb=>by obtain ⟨a1,a2,a3,a4⟩:=hs b hb;exact hd b a2 a3 a1 a4) (fun b hb=>⟨hl b hb,hod b hb⟩) hZ hX
 obtain ⟨N2,gs2,w2,sl2,t2,q2,W2,W3,g2,hr2,h02,hC2,hP2,hK,hs2,hl2⟩:=k y' h4 h6 h7 h8 h9 gs' sl' t' q' W0 (hs.kept h9) (fun b hb=>Nat.lt_of_lt_of_le (hl b hb) h10) h3 h5
 exact ⟨N+N2,gs2,w2,sl2,t2,q2,W2,W3,g2,runNT_trans' h1 hr2,h02,hC2,hP2,h9.trans hK,hs2,hl2⟩
theorem Reach.of_runs {own X:Nat→Prop} {Stop:Sit→Prop} (hR:Runs false P true Stop ⟨own,X,g,w⟩) (hr:g.status=.running) (hd:∀ b,W b→¬ X b) (hod:∀ b,W b→¬ own b) (hX:∀ b,X b→b<w.heap.size)
  (k:∀ y,Stop y→(∀ b,W b→¬ y.X b)→(∀ b,y.X b→b<y.w.heap.size)→Reach P Post W y.g y.w):Reach P Post W g w:=by
 intro gs sl t q W0 hs hl h0 hC
 exact Reach.of_runs_ (Z:=W) hR hr (fun b _ _ hb _=>hd b hb) hod (fun b hb=>⟨hl b hb,hd b hb⟩) hX (fun y h1 _ h3 h4 _=>k y h1 h3 h4) gs sl t q W0 hs hl h0 hC
theorem Reach.idle {g':Goroutine} (hs:∀ w1,stepG P true g w1=.go g' w1 #[]) (hr:g.status=.running) (k:∀ w',AtRel w w'→Reach P Post W g' w'):Reach P Post W g w:=by
 intro gs sl t q W0 hsy hl h0 hC
 obtain ⟨N,gs',d,sl',t',q',h1,_,h3,h5,_⟩:=beside_quiet (f:=id) hr (fun d=>hs _) (fun d=>Nat.le_refl _) (sl:=sl) h0 hC (atRel_refl w)
 obtain ⟨N2,gs2,w2,sl2,t2,q2,W2,W3,g2,hr2,h02,hC2,hP2,hK,hs2,hl2⟩:=k _ ⟨d,rfl⟩ gs' sl' t' q' W0 (hsy.kept (w':=w.at d) ⟨fun _ h=>h,fun _ _=>rfl,rfl,rfl⟩) hl h3 h5
 exact ⟨N+N2,gs2,w2,sl2,t2,q2,W2,W3,g2,runNT_trans' h1 hr2,h02,hC2,hP2,Kept.trans (w1:=w.at d) ⟨fun _ h=>h,fun _ _=>rfl,rfl,rfl⟩ hK,hs2,hl2⟩
end
end Go.Sim
namespace Go.Sim
open Go Go.Conc
structure BOk (C:Cx) (S:Kn) (W E:Nat→Prop) (w:World):Prop where
 wr:WR C (okP C S) (idE E) w w
 hnd:E C.P.globals.size
 gl:∀ g,S.gs.contains g=true→E g
 dis:∀ b,W b→¬ E b
section
variable {C:Cx} {S:Kn} {W E:Nat→Prop} {w:World}
theorem BOk.lt (h:BOk C S W E w) {b:Nat} (hb:E b):b<w.heap.size:=(h.wr.dom b b ⟨rfl,hb⟩).1
theorem WR.atR {ok:FuncId→Code→Prop} {E:BRel} {w w':World} (h:WR C ok E w w') (d:Nat):WR C ok E w (w'.at d):=
 ⟨h.os,h.dom,h.fn,h.inj,h.old,h.obj,h.lid,h.lsz,h.glob⟩
theorem WR.atL {ok:FuncId→Code→Prop} {E:BRel} {w w':World} (h:WR C ok E w w') (d:Nat):WR C ok E (w.at d) w':=
 ⟨h.os,h.dom,h.fn,h.inj,h.old,h.obj,h.lid,h.lsz,h.glob⟩
theorem BOk.at (h:BOk C S W E w) (d:Nat):BOk C S W E (w.at d):=⟨(h.wr.atR d).atL d,h.hnd,h.gl,h.dis⟩
theorem BOk.link (h:BOk C S W E w):Link C S (idE E) E E w w:=
 ⟨h.wr,⟨rfl,h.hnd⟩,fun g hg=>⟨rfl,h.gl g hg⟩,fun b b' ⟨e,hb⟩=>by subst e;exact ⟨hb,fun _=>hb⟩⟩
theorem TmR.eq_of {fn:FuncId} {E1:BRel} (hE:∀ b b',E1 b b'→b=b') {t t' t0:Array Value} (h:TmR C S fn E1 t t') (hh:∀ i,(C.hl fn).contains i=true→t'[i]?=t0[i]?) (hl:∀ i,(C.hl fn).contains i=true→t[i]?=t0[i]?):t'=t:=by
 apply Array.ext_getElem?
 intro i
 by_cases hi:(C.hl fn).contains i=true
 ·rw [hh i hi,hl i hi]
 ·by_cases hlt:i<t.size
  ·have h1:t[i]?=some t[i]:=Array.getElem?_eq_getElem hlt
   have h2:t'[i]?=some (t'[i]'(h.size▸hlt)):=Array.getElem?_eq_getElem _
   rw [h1,h2,(h.at_ i _ _ (by simpa using hi) h1 h2).eq hE]
  ·rw [Array.getElem?_eq_none (by have:=h.size;omega),Array.getElem?_eq_none (by omega)]
theorem Reach.piece (A:AllOk C S) (hst:C.st=false) {Post:(Nat→Prop)→Goroutine→World→Prop} {b:Frame} {c:Code} {t:Array Value} {ds:List Deferred} {k:List Item} {cs:List Frame} {Q:Exit→Array Value→World→Prop}
  (hc:okCode C S b.fn c=true) (hb:HasBody C b.fn) (hdf:S.df.contains b.fn=false) (hl:C.hl b.fn≠[]) (hk:b.kind≠.early)
  (hB:BOk C S W E w) (ht:TmR C S b.fn (idE E) t t)
  (K:∀ τ,c.wp C.P (fun e a w1=>(e=.normal∨e=.ret)∧(∀ i,(C.hl b.fn).contains i=true→a.tmps[i]?=t[i]?)∧Q e a.tmps w1) ⟨t,[stuckD]⟩ (w.tp τ 0))
  (kn:∀ (E':Nat→Prop) (t':Array Value) (w1 w':World),(∀ b,E b→E' b)→BOk C S W E' w'→WR C (okP C S) (idE E') w1 w'→TmR C S b.fn (idE E') t' t'→Q .normal t' w1→Reach C.P Post W (G (b.at ⟨t',ds⟩ k) cs) w')
  (kr:∀ (E':Nat→Prop) (t':Array Value) (w1 w':World) (todo:List Item),(∀ b,E b→E' b)→BOk C S W E' w'→WR C (okP C S) (idE E') w1 w'→TmR C S b.fn (idE E') t' t'→Q .ret t' w1→Reach C.P Post W (G { b.at ⟨t',ds⟩ todo with mode:=.returning } cs) w') :
  Reach C.P Post W (G (b.at ⟨t,ds⟩ (.code c::k)) cs) w:=by
 have hsh:∀ b,¬ C.Sh b:=C.lax hst
 have hR:=runs_piece A (main:=true) (b:=b) (c:=c) (ds:=ds) (k:=k) (cs:=cs) (Q:=fun e a w1=>(e=.normal∨e=.ret)∧(∀ i,(C.hl b.fn).contains i=true→a.tmps[i]?=t[i]?)∧Q e a.tmps w1) hc hb hdf hl hk hB.link ht K (fun e a w h=>h.1)
 rw [hst] at hR
 refine Reach.of_runs hR rfl hB.dis hB.dis (fun b hb=>hB.lt hb) ?_
 rintro ⟨own,X,g,wy⟩ ⟨E1,a,w1,t',hs,hL,htm,hho,hq⟩ hd hX
 simp only at hL hd hX hq
 let E':Nat→Prop:=fun b=>E1 b b
 have e1:∀ b b',E1 b b'→b=b':=hL.wr.lid hst
 have s1:Sub E1 (idE E'):=fun b b' h=>by obtain rfl:=e1 b b' h;exact ⟨rfl,h⟩
 have hE:∀ b,E b→E' b:=fun b hb=>hs b b ⟨rfl,hb⟩
 have s2:rng E1=E':=by
  funext b
  simp only [rng,E',eq_iff_iff]
  exact ⟨fun ⟨a,h⟩=>by obtain rfl:=e1 a b h;exact h,fun h=>⟨b,h⟩⟩
 have s3:E1=idE E':=by
  funext b b'
  simp only [idE,E',eq_iff_iff]
  exact ⟨fun h=>by obtain rfl:=e1 b b' h;exact ⟨rfl,h⟩,fun ⟨h,h'⟩=>by subst h;exact h'⟩
 have hwr:WR C (okP C S) (idE E') wy wy:=by
  have:=hL.wr.right (CxLe.refl C) (ok':=okP C S) hsh hst (fun _=>⟨rfl,rfl⟩)
  rwa [s2] at this
 have hB':BOk C S W E' wy:=⟨hwr,hE _ hB.hnd,fun g hg=>hE _ (hB.gl g hg),fun b hb he=>hd b hb (hL.rng b b he).1⟩
 have hw1:WR C (okP C S) (idE E') w1 wy:=by rw [← s3];exact hL.wr
 have key:(∀ i,(C.hl b.fn).contains i=true→a.tmps[i]?=t[i]?)→t'=a.tmps∧TmR C S b.fn (idE E') a.tmps a.tmps:=by
  intro hh
  have:=htm.eq_of e1 hho hh
  subst this
  refine ⟨rfl,?_⟩
  rw [← s3];exact htm
 rcases hq with ⟨⟨_,hh,hq⟩,rfl⟩|⟨⟨_,hh,hq⟩,todo,rfl⟩
 ·obtain ⟨rfl,htt⟩:=key hh
  exact kn E' _ w1 wy hE hB' hw1 htt hq
 ·obtain ⟨rfl,htt⟩:=key hh
  exact kr E' _ w1 wy todo hE hB' hw1 htt hq
end
end Go.Sim
namespace Go.Sim.Z
open Go Go.Proofs Go.RowKit
open Classical
noncomputable def mv (E:BRel) (x:Nat):Nat:=if h:∃ y,E x y then Classical.choose h else 0
theorem mv_eq {E:BRel} (hfn:∀ b c c',E b c→E b c'→c=c') {x y:Nat} (h:E x y):mv E x=y:=by
 have hx:∃ y,E x y:=⟨y,h⟩
 unfold mv
 rw [dif_pos hx]
 exact hfn _ _ _ (Classical.choose_spec hx) h
def FrOk (C:Cx) (fr:Bool):Prop:=C.st=true∨fr=false
section
variable {C:Cx} {ok:FuncId→Code→Prop} {E:BRel} {w w':World} {fr:Bool} {x y:Nat} {arr:Array Value} {t:TypeId} {k:IntKind} {xs:List Int} {cap:Nat}
theorem _root_.Go.Sim.AR.two {a b:Value} {arr:Array Value} (h:AR C E #[a,b] arr):∃ a' b',arr=#[a',b']∧VR C E a a'∧VR C E b b':=by
 have hs:arr.size=2:=h.size.symm
 obtain ⟨a',h1,r1⟩:=h.some_of (i:=0) rfl
 obtain ⟨b',h2,r2⟩:=h.some_of (i:=1) rfl
 refine ⟨a',b',?_,r1,r2⟩
 apply Array.ext_getElem?
 intro i
 match i with
 | 0=>exact h1
 | 1=>exact h2
 | i+2=>rw [Array.getElem?_eq_none (by omega),Array.getElem?_eq_none (by simp)]
theorem _root_.Go.Sim.AR.four {a b c d:Value} {arr:Array Value} (h:AR C E #[a,b,c,d] arr):∃ a' b' c' d',arr=#[a',b',c',d']∧VR C E a a'∧VR C E b b'∧VR C E c c'∧VR C E d d':=by
 have hs:arr.size=4:=h.size.symm
 obtain ⟨a',h1,r1⟩:=h.some_of (i:=0) rfl
 obtain ⟨b',h2,r2⟩:=h.some_of (i:=1) rfl
 obtain ⟨c',h3,r3⟩:=h.some_of (i:=2) rfl
 obtain ⟨d',h4,r4⟩:=h.some_of (i:=3) rfl
 refine ⟨a',b',c',d',?_,r1,r2,r3,r4⟩
 apply Array.ext_getElem?
 intro i
 match i with
 | 0=>exact h1
 | 1=>exact h2
 | 2=>exact h3
 | 3=>exact h4
 | i+4=>rw [Array.getElem?_eq_none (by omega),Array.getElem?_eq_none (by simp)]
theorem _root_.Go.Sim.AR.plain {arr arr':Array Value} (h:AR C E arr arr') (hp:Plain arr):arr'=arr:=by
 apply Array.ext_getElem?
 intro i
 cases hx:arr[i]? with
 | none=>exact h.none_of hx
 | some v=>
  obtain ⟨v',h1,r⟩:=h.some_of hx
  obtain ⟨k,n,rfl⟩:=hp.at hx
  cases r
  exact h1
theorem Blk.ren (hW:WR C ok E w w') (hf:FrOk C fr) (h:Blk fr w x arr t) (he:E x y):∃ arr',AR C E arr arr'∧Blk false w' y arr' t:=by
 obtain ⟨z,h1,h2⟩:=h
 have hy:=(hW.dom x y he).2
 obtain ⟨c',fz',e,ha,hs,hn⟩:=hW.obj x y _ _ he h1 (Array.getElem?_eq_getElem hy)
 refine ⟨c',ha,fz',by rw [Array.getElem?_eq_getElem hy,e],fun _=>?_⟩
 by_cases hx:C.Sh x
 ·exact (hs hx).2
 ·obtain ⟨h3,h4⟩:=hn hx
  rcases hf with hf|hf
  ·rw [h3,h4 hf]
  ·rw [h3,h2 hf]
theorem Row.ren (hW:WR C ok E w w') (hf:FrOk C fr) (h:Row fr w x t k xs cap) (he:E x y):Row false w' y t k xs cap:=by
 obtain ⟨cur,h1,h2,h3,h4,h5⟩:=h
 obtain ⟨cur',ha,hb⟩:=h1.ren hW hf he
 obtain rfl:=ha.plain h5
 exact ⟨_,hb,h2,h3,h4,h5⟩
theorem RegAt.ren {r c:Nat} {bits:Int} {rs:List Int} (hW:WR C ok E w w') (hf:FrOk C fr) (h:RegAt fr w x r c bits rs) (he:E x y):E r (mv E r)∧RegAt false w' y (mv E r) c bits rs:=by
 obtain ⟨arr,ha,hb⟩:=h.hd.ren hW hf he
 obtain ⟨a,b,rfl,r1,r2⟩:=ha.two
 cases r1
 cases r2 with
 | slice o s l c hr=>
  have e:=mv_eq hW.fn hr
  rw [e]
  exact ⟨hr,hb,h.row.ren hW hf hr⟩
def BaOk (E:BRel) (ba:Option Addr):Prop:=∀ a,ba=some a→E a.block a.block
theorem HistAt.ren {r c nb cb:Nat} {ba:Option Addr} {rs:List Int} (hW:WR C ok E w w') (hf:FrOk C fr) (hba:BaOk E ba) (h:HistAt fr w x r c ba nb cb rs) (he:E x y):E r (mv E r)∧HistAt false w' y (mv E r) c ba nb cb rs:=by
 obtain ⟨arr,ha,hb⟩:=h.hd.ren hW hf he
 obtain ⟨a,b,rfl,r1,r2⟩:=ha.two
 have e1:a=.slice ba nb cb:=by
  cases r1 with
  | nilSlice=>rfl
  | slice o s l c hr=>rw [hW.fn _ _ _ hr (hba _ rfl)]
 subst e1
 cases r2 with
 | slice o s l c hr=>
  have e:=mv_eq hW.fn hr
  rw [e]
  exact ⟨hr,hb,h.row.ren hW hf hr⟩
noncomputable def mvL (E:BRel):Option (Nat × Nat)→Option (Nat × Nat):=Option.map fun p=>(mv E p.1,p.2)
theorem LeastAt.ren {pr:Option (Nat × Nat)} {K:Int} {ls:List Int} (hW:WR C ok E w w') (hf:FrOk C fr) (h:LeastAt fr w x pr K ls) (he:E x y):(∀ r,lpl pr r→E r (mv E r))∧LeastAt false w' y (mvL E pr) K ls:=by
 obtain ⟨arr,ha,hb⟩:=h.hd.ren hW hf he
 obtain ⟨a,b,rfl,r1,r2⟩:=ha.two
 cases r1
 cases pr with
 | none=>
  cases r2
  exact ⟨fun r ⟨c,hr⟩=>(by cases hr),hb,h.row⟩
 | some p=>
  obtain ⟨r,c⟩:=p
  cases r2 with
  | slice o s l c hr=>
   have e:=mv_eq hW.fn hr
   refine ⟨fun r' ⟨c',hr'⟩=>?_,?_,?_⟩
   ·cases hr';rw [e];exact hr
   ·show Blk false w' y #[_,.slice (some ⟨mv E r,0,none⟩) _ _] 128
    rw [e];exact hb
   ·show Row false w' (mv E r) 45 .u64 ls c∧c≤maxLen
    rw [e]
    exact ⟨h.row.1.ren hW hf hr,h.row.2⟩
noncomputable def BP.mv (E:BRel) (p:BP):BP:=⟨Z.mv E p.b,Z.mv E p.rb,Z.mv E p.rr,p.rc,Z.mv E p.hb,Z.mv E p.hr,p.hc,Z.mv E p.lb,mvL E p.lr⟩
theorem lpl_mvL {pr:Option (Nat × Nat)} {z:Nat}:lpl (mvL E pr) z↔∃ r,lpl pr r∧z=mv E r:=by
 cases pr with
 | none=>simp [lpl,mvL]
 | some p=>obtain ⟨r,c⟩:=p;simp [lpl,mvL,eq_comm]
theorem BP.mem_mv {p:BP} {z:Nat}:z∈(p.mv E).pl↔∃ x∈p.pl,z=Z.mv E x:=by
 rw [BP.mem]
 constructor
 ·rintro (h|h|h|h|h|h|h)
  ·exact ⟨_,BP.mem.2 (.inl rfl),h⟩
  ·exact ⟨_,BP.mem.2 (.inr (.inl rfl)),h⟩
  ·exact ⟨_,BP.mem.2 (.inr (.inr (.inl rfl))),h⟩
  ·exact ⟨_,BP.mem.2 (.inr (.inr (.inr (.inl rfl)))),h⟩
  ·exact ⟨_,BP.mem.2 (.inr (.inr (.inr (.inr (.inl rfl))))),h⟩
  ·exact ⟨_,BP.mem.2 (.inr (.inr (.inr (.inr (.inr (.inl rfl)))))),h⟩
  ·obtain ⟨r,h1,h2⟩:=lpl_mvL.1 h
   exact ⟨r,BP.mem.2 (.inr (.inr (.inr (.inr (.inr (.inr h1)))))),h2⟩
 ·rintro ⟨x,hx,rfl⟩
  rcases BP.mem.1 hx with rfl|rfl|rfl|rfl|rfl|rfl|h
  ·exact .inl rfl
  ·exact .inr (.inl rfl)
  ·exact .inr (.inr (.inl rfl))
  ·exact .inr (.inr (.inr (.inl rfl)))
  ·exact .inr (.inr (.inr (.inr (.inl rfl))))
  ·exact .inr (.inr (.inr (.inr (.inr (.inl rfl)))))
  ·exact .inr (.inr (.inr (.inr (.inr (.inr (lpl_mvL.2 ⟨x,h,rfl⟩))))))
theorem BunAt.ren {c:CfgD} {p:BP} {B:Bun} (hW:WR C ok E w w') (hf:FrOk C fr) (hba:BaOk E c.ba) (h:BunAt fr w c p B) (he:E p.b y):(∀ x∈p.pl,E x (mv E x))∧BunAt false w' c (p.mv E) B:=by
 obtain ⟨arr,ha,hb⟩:=h.hd.ren hW hf he
 obtain ⟨a1,a2,a3,a4,rfl,r1,r2,r3,r4⟩:=ha.four
 cases r1
 cases r2 with|iface _ _ r2=>
 cases r3 with|iface _ _ r3=>
 cases r4 with|iface _ _ r4=>
 cases r2 with|ptr _ _ r2=>
 cases r3 with|ptr _ _ r3=>
 cases r4 with|ptr _ _ r4=>
 obtain ⟨e2,k2⟩:=h.reg.ren hW hf r2
 obtain ⟨e3,k3⟩:=h.hist.ren hW hf hba r3
 obtain ⟨e4,k4⟩:=h.least.ren hW hf r4
 have m0:=mv_eq hW.fn he
 have m2:=mv_eq hW.fn r2
 have m3:=mv_eq hW.fn r3
 have m4:=mv_eq hW.fn r4
 rw [← m2] at k2 hb
 rw [← m3] at k3 hb
 rw [← m4] at k4 hb
 rw [← m0] at hb
 have hall:∀ x∈p.pl,E x (mv E x):=fun x hx=>by
  rcases BP.mem.1 hx with rfl|rfl|rfl|rfl|rfl|rfl|h
  ·rw [m0];exact he
  ·rw [m2];exact r2
  ·exact e2
  ·rw [m3];exact r3
  ·exact e3
  ·rw [m4];exact r4
  ·exact e4 x h
 have inj:∀ {x z:Nat},x∈p.pl→z∈p.pl→mv E x=mv E z→x=z:=fun hx hz e=>hW.inj _ _ _ (hall _ hx) (e▸hall _ hz)
 have q1:p.b∈p.pl:=BP.mem.2 (.inl rfl)
 have q2:p.rb∈p.pl:=BP.mem.2 (.inr (.inl rfl))
 have q3:p.rr∈p.pl:=BP.mem.2 (.inr (.inr (.inl rfl)))
 have q4:p.hb∈p.pl:=BP.mem.2 (.inr (.inr (.inr (.inl rfl))))
 have q5:p.hr∈p.pl:=BP.mem.2 (.inr (.inr (.inr (.inr (.inl rfl)))))
 have q6:p.lb∈p.pl:=BP.mem.2 (.inr (.inr (.inr (.inr (.inr (.inl rfl))))))
 have nl:∀ {x:Nat},x∈p.pl→¬ lpl p.lr x→¬ lpl (mvL E p.lr) (mv E x):=fun hx hn hl=>by
  obtain ⟨r,h1,h2⟩:=lpl_mvL.1 hl
  exact hn ((inj hx (BP.mem.2 (.inr (.inr (.inr (.inr (.inr (.inr h1))))))) h2)▸h1)
 obtain ⟨n1,n2,n3,n4,n5,n6⟩:=h.nd
 exact ⟨hall,hb,k2,k3,k4,
  ⟨fun e=>n1.1 (inj q1 q2 e),fun e=>n1.2.1 (inj q1 q3 e),fun e=>n1.2.2.1 (inj q1 q4 e),fun e=>n1.2.2.2.1 (inj q1 q5 e),fun e=>n1.2.2.2.2.1 (inj q1 q6 e),nl q1 n1.2.2.2.2.2⟩,
  ⟨fun e=>n2.1 (inj q2 q3 e),fun e=>n2.2.1 (inj q2 q4 e),fun e=>n2.2.2.1 (inj q2 q5 e),fun e=>n2.2.2.2.1 (inj q2 q6 e),nl q2 n2.2.2.2.2⟩,
  ⟨fun e=>n3.1 (inj q3 q4 e),fun e=>n3.2.1 (inj q3 q5 e),fun e=>n3.2.2.1 (inj q3 q6 e),nl q3 n3.2.2.2⟩,
  ⟨fun e=>n4.1 (inj q4 q5 e),fun e=>n4.2.1 (inj q4 q6 e),nl q4 n4.2.2⟩,
  ⟨fun e=>n5.1 (inj q5 q6 e),nl q5 n5.2⟩,
  nl q6 n6⟩
end
end Go.Sim.Z
namespace Go.Sim.Z
open Go Go.Proofs Go.RowKit
open Go.WideElems (Fit rd rg)
noncomputable def mvV (E:BRel):Value→Value
 | .pointer (some a)=>.pointer (some ⟨mv E a.block,a.off,a.spot⟩)
 | v=>v
noncomputable def mvKV (E:BRel) (p:List Int × Value):List Int × Value:=(p.1,mvV E p.2)
noncomputable def TR.mv (E:BRel) (t:TR):TR:=⟨t.k,t.p.mv E,t.B⟩
theorem tm_mv {E:BRel} {T:List TR}:tm (T.map (TR.mv E))=tm T:=by
 funext k
 unfold tm
 rw [List.find?_map,Option.map_map]
 rfl
def gD (f:Value→Value):Lit × DataW Value→Lit × DataW Value
 | (l,.held v)=>(l,.held (f v))
 | p=>p
theorem gD_key (f:Value→Value) (p:Lit × DataW Value):(gD f p).1=p.1:=by
 obtain ⟨l,d⟩:=p
 cases d<;>rfl
theorem insert_gD (f:Value→Value) (x:Lit × DataW Value):∀ l:List (Lit × DataW Value),DataW.insert (gD f x) (l.map (gD f))=(DataW.insert x l).map (gD f)
 | []=>rfl
 | y::l=>by
  simp only [List.map_cons,DataW.insert,gD_key]
  split
  ·rfl
  ·rw [insert_gD f x l];rfl
theorem foldr_gD (f:Value→Value):∀ l:List (Lit × DataW Value),(l.map (gD f)).foldr DataW.insert []=(l.foldr DataW.insert []).map (gD f)
 | []=>rfl
 | x::l=>by simp only [List.map_cons,List.foldr_cons,foldr_gD f l,insert_gD]
def mE (f:Value→Value) (x:MapEntry):MapEntry:=⟨x.key,f x.val,x.born⟩
theorem rd_mE {P:Program} {k:TypeId} (f:Value→Value) (x:MapEntry):rd P k Rv (mE f x)=(rd P k Rv x).map (gD f):=by
 unfold rd mE
 cases keyOf P k x.key<;>rfl
theorem fit_ren {P:Program} {k:TypeId} {es:Array MapEntry} {clock:Nat} (f:Value→Value) (hF:Fit P k Rv es clock) :
  Fit P k Rv (es.map (mE f)) clock∧((es.map (mE f)).toList.map (rg P k Rv)).foldr DataW.insert []=((es.toList.map (rg P k Rv)).foldr DataW.insert []).map (gD f):=by
 refine ⟨⟨by simpa using hF.size,?_,fun x hx=>?_⟩,?_⟩
 ·obtain ⟨h1,h2,h3⟩:=hF.stamped
  unfold MapKept.Stamped
  rw [Array.toList_map]
  refine ⟨fun x hx=>?_,?_,?_⟩
  ·obtain ⟨z,hz,rfl⟩:=List.mem_map.1 hx
   exact h1 z hz
  ·rw [List.map_map];exact h2
  ·rw [List.map_map];exact h3
 ·rw [Array.toList_map] at hx
  obtain ⟨z,hz,rfl⟩:=List.mem_map.1 hx
  obtain ⟨y,hy⟩:=hF.reads z hz
  exact ⟨_,by rw [rd_mE,hy];rfl⟩
 ·rw [← foldr_gD,Array.toList_map,List.map_map,List.map_map]
  congr 1
  refine List.map_congr_left fun x hx=>?_
  obtain ⟨y,hy⟩:=hF.reads x hx
  simp only [Function.comp,rg,rd_mE,hy]
  rfl
theorem foldr_insert_perm:∀ l:List (Lit × DataW Value),(l.foldr DataW.insert []).Perm l
 | []=>.refl _
 | x::l=>(insert_perm x _).trans ((foldr_insert_perm l).cons x)
section
variable {C:Cx} {ok:FuncId→Code→Prop} {E:BRel} {w w':World} {fr:Bool} {x y:Nat}
theorem VR.mvV {a:Addr} {v:Value} (hW:WR C ok E w w') (h:VR C E (.pointer (some a)) v):v=Z.mvV E (.pointer (some a))∧E a.block (mv E a.block):=by
 cases h with
 | ptr o s h=>simp [Z.mvV,mv_eq hW.fn h,h]
theorem CMap.ren {L:List (List Int × Value)} (hW:WR C ok E w w') (h:CMap w x L) (hp:∀ p∈L,∃ a,p.2=.pointer (some a)) (he:E x y):CMap w' y (L.map (mvKV E))∧∀ p∈L,∀ a,p.2=.pointer (some a)→E a.block (mv E a.block):=by
 obtain ⟨L',h1,n,es,clock,h2,h3,h4,h5⟩:=h.own
 have hy:=(hW.dom x y he).2
 obtain ⟨es',e1,hr⟩:=hW.obj x y _ _ he h2 (Array.getElem?_eq_getElem hy)
 have key:∀ (i:Nat) z,es[i]?=some z→∃ k v,(k,v)∈L∧z.key=.agg (ai .i64 k)∧z.val=v:=fun i z hz=>by
  have hm:z∈es.toList:=Array.mem_toList_iff.2 (Array.mem_of_getElem? hz)
  obtain ⟨q,hq⟩:=h3.reads z hm
  have hmem:q∈(es.toList.map (rg Tryz.prog 76 Rv)).foldr DataW.insert []:=(foldr_insert_perm _).mem_iff.2 (List.mem_map.2 ⟨z,hm,by simp [rg,hq]⟩)
  have h5':=DataW.map.inj h5
  rw [← h5'] at hmem
  obtain ⟨p,hp',rfl⟩:=List.mem_map.1 hmem
  have hpL:=h1.mem_iff.1 hp'
  unfold rd at hq
  simp only [Option.bind_eq_some_iff,Option.map_eq_some_iff] at hq
  obtain ⟨l,hl,d,hd,e⟩:=hq
  have e1:l=klit p.1:=congrArg Prod.fst e
  have e2:d.1=.held p.2:=congrArg Prod.snd e
  refine ⟨p.1,p.2,hpL,?_,?_⟩
  ·rw [e1] at hl
   exact law76.inj hl (keyOf76 (h.keys p hpL))
  ·simp only [Rv,Option.some.injEq] at hd
   rw [← hd] at e2
   exact DataW.held.inj e2
 have hes:es'=es.map (mE (mvV E)):=by
  apply Array.ext_getElem?
  intro i
  rw [Array.getElem?_map]
  cases hz:es[i]? with
  | none=>rw [Array.getElem?_eq_none_iff] at hz;rw [Array.getElem?_eq_none (by rw [← hr.size];exact hz)];rfl
  | some z=>
   have hlt:i<es'.size:=by rw [← hr.size];exact (Array.getElem?_eq_some_iff.1 hz).1
   have hz':es'[i]?=some es'[i]:=Array.getElem?_eq_getElem hlt
   have hq:=hr.at_ i z _ hz hz'
   rw [hz']
   obtain ⟨k,v,hkv,ek,ev⟩:=key i z hz
   obtain ⟨a,ea⟩:=hp _ hkv
   have hv:=hq.val
   rw [ev,show v=.pointer (some a) from ea] at hv
   have hk:=hq.key
   rw [ek] at hk
   have ek':es'[i].key=.agg (ai .i64 k):=by
    generalize es'[i].key=kk at hk
    cases hk with
    | agg ha hx=>rw [AR.plain (C:=C) (E:=E) ⟨ha,hx⟩ Plain.ai]
   have ev':=(VR.mvV hW hv).1
   have eb:=hq.born
   generalize es'[i]=z' at ek' ev' eb
   obtain ⟨zk,zv,zb⟩:=z
   obtain ⟨zk',zv',zb'⟩:=z'
   simp only at ek ev ek' ev' eb
   show some _=some (MapEntry.mk zk (mvV E zv) zb)
   rw [ek',ev',← eb,ek,ev,show v=.pointer (some a) from ea]
 subst hes
 obtain ⟨q1,q2⟩:=fit_ren (mvV E) h3
 have h5':=DataW.map.inj h5
 refine ⟨⟨fun p hp=>?_,?_,L'.map (mvKV E),h1.map _,n,_,clock,by rw [Array.getElem?_eq_getElem hy,e1],q1,by simpa using h4,?_⟩,fun p hp' a ea=>?_⟩
 ·obtain ⟨p0,hp0,rfl⟩:=List.mem_map.1 hp
  exact h.keys p0 hp0
 ·rw [List.map_map];exact h.nodup
 ·rw [q2,← h5',List.map_map,List.map_map]
  rfl
 ·have hq:encE p∈(es.toList.map (rg Tryz.prog 76 Rv)).foldr DataW.insert []:=by
   rw [← h5']
   exact List.mem_map.2 ⟨p,h1.mem_iff.2 hp',rfl⟩
  obtain ⟨z,hz,ez⟩:=List.mem_map.1 ((foldr_insert_perm _).mem_iff.1 hq)
  obtain ⟨i,hi,rfl⟩:=List.getElem_of_mem hz
  simp only [Array.length_toList,Array.getElem_toList] at hi ez
  have hz1:es[i]?=some es[i]:=Array.getElem?_eq_getElem hi
  have hz2:=hr.at_ i _ _ hz1 (by rw [Array.getElem?_map,hz1];rfl)
  obtain ⟨q,hq2⟩:=h3.reads _ (Array.getElem_mem_toList hi)
  have ez':q=encE p:=by simpa [rg,hq2] using ez
  have hv:es[i].val=p.2:=by
   unfold rd at hq2
   simp only [Option.bind_eq_some_iff,Option.map_eq_some_iff] at hq2
   obtain ⟨l,hl,d,hd,e⟩:=hq2
   simp only [Rv,Option.some.injEq] at hd
   rw [ez',← hd] at e
   exact DataW.held.inj (congrArg Prod.snd e)
  have hv2:=hz2.val
  rw [hv,ea] at hv2
  exact (VR.mvV hW hv2).2
theorem TabAt.ren {c:CfgD} {T:List TR} (hW:WR C ok E w w') (hf:FrOk C fr) (hba:BaOk E c.ba) (h:TabAt fr w c x T) (he:E x y):(∀ z∈tpl T,E z (mv E z))∧TabAt false w' c y (T.map (TR.mv E)):=by
 obtain ⟨k1,k2⟩:=h.map.ren hW (fun p hp=>by obtain ⟨t,_,rfl⟩:=List.mem_map.1 hp;exact ⟨_,rfl⟩) he
 have hb:∀ t∈T,(∀ z∈t.p.pl,E z (mv E z))∧BunAt false w' c (t.p.mv E) t.B:=fun t ht=>by
  have hE:=k2 t.kv (List.mem_map_of_mem ht) _ rfl
  exact (h.bun t ht).ren hW hf hba hE
 have hall:∀ z∈tpl T,E z (mv E z):=fun z hz=>by
  obtain ⟨t,ht,hz⟩:=mem_tpl.1 hz
  exact (hb t ht).1 z hz
 refine ⟨hall,?_,fun t ht=>?_,fun t ht=>?_,fun hm=>?_,?_⟩
 ·rw [List.map_map,show TR.kv ∘ TR.mv E=mvKV E ∘ TR.kv from rfl,← List.map_map]
  exact k1
 ·obtain ⟨t0,ht0,rfl⟩:=List.mem_map.1 ht
  exact (hb t0 ht0).2
 ·obtain ⟨t0,ht0,rfl⟩:=List.mem_map.1 ht
  exact h.ok t0 ht0
 ·obtain ⟨t,ht,hz⟩:=mem_tpl.1 hm
  obtain ⟨t0,ht0,rfl⟩:=List.mem_map.1 ht
  obtain ⟨z,hz0,e⟩:=BP.mem_mv.1 hz
  have:=hW.inj _ _ _ he (e▸(hb t0 ht0).1 z hz0)
  exact h.out (this▸mem_tpl.2 ⟨t0,ht0,hz0⟩)
 ·rw [List.pairwise_map]
  refine h.dis.imp_of_mem fun {s t} hs ht hd z hz hz'=>?_
  obtain ⟨z1,hz1,rfl⟩:=BP.mem_mv.1 hz
  obtain ⟨z2,hz2,e⟩:=BP.mem_mv.1 hz'
  have:=hW.inj _ _ _ ((hb s hs).1 z1 hz1) (e▸(hb t ht).1 z2 hz2)
  exact hd z1 hz1 (this▸hz2)
theorem tpl_mv {T:List TR} {z:Nat}:z∈tpl (T.map (TR.mv E))↔∃ x∈tpl T,z=mv E x:=by
 rw [mem_tpl]
 constructor
 ·rintro ⟨t,ht,hz⟩
  obtain ⟨t0,ht0,rfl⟩:=List.mem_map.1 ht
  obtain ⟨x,hx,rfl⟩:=BP.mem_mv.1 hz
  exact ⟨x,mem_tpl.2 ⟨t0,ht0,hx⟩,rfl⟩
 ·rintro ⟨x,hx,rfl⟩
  obtain ⟨t0,ht0,hx⟩:=mem_tpl.1 hx
  exact ⟨_,List.mem_map_of_mem ht0,BP.mem_mv.2 ⟨x,hx,rfl⟩⟩
end
end Go.Sim.Z
namespace Go.Sim.Z
open Go Go.Proofs Go.Conc Go.ConcN Go.RowKit Go.Conc.Lib Go.ConcR.Gen Go.ConcN.Gen
open Go.ConcR (KK wgBlock WgAt stA smA rd wr mk Payload DC0)
def q3:Array Oper:=#[{ dst:=some 9,op:=Op.alloc 146,type:=0,pos:= "table.go:72",after:=#[],guard:=none }]
def q4:Array Oper:=#[{ dst:=some 18,op:=Op.move (Operand.const (Value.int IntKind.i64 0)),type:=3,pos:= "table.go:73",after:=#[],guard:=none }]
def q5:Array Oper:=#[{ dst:=some 19,op:=Op.binOp BinOp.lss 3 (Operand.tmp 18) (Operand.const (Value.int IntKind.i64 4)) 3,type:=4,pos:= "table.go:73",after:=#[],guard:=none }]
def q6:Array Oper:=#[{ dst:=some 20,op:=Op.move (Operand.tmp 18),type:=3,pos:= "table.go:73",after:=#[],guard:=none },
 { dst:=some 10,op:=Op.alloc 3,type:=0,pos:= "table.go:73",after:=#[],guard:=none },
 { dst:=none,op:=Op.store 3 (Operand.tmp 10) (Operand.tmp 20),type:=0,pos:= "table.go:73",after:=#[{ on:=1,ground:=Ground.data },
 { on:=0,ground:=Ground.data },
 { on:=0,ground:=Ground.phase },
 { on:=1,ground:=Ground.phase }],guard:=none }]
def q7:Array Oper:=#[{ dst:=some 21,op:=Op.call { callee:=Callee.value (Operand.func 62),args:=#[Operand.tmp 9,Operand.const (Value.int IntKind.i64 1)],argTypes:=#[146,3] },type:=0,pos:= "table.go:74",after:=#[],guard:=none }]
def q8:Array Oper:=#[{ dst:=some 22,op:=Op.makeFunc (Fn.func 63) #[] #[Operand.tmp 9,Operand.tmp 10,Operand.tmp 7,Operand.tmp 5,Operand.tmp 4,Operand.tmp 3,Operand.tmp 8],type:=1,pos:= "table.go:75",after:=#[],guard:=none },
 { dst:=none,op:=Op.go { callee:=Callee.value (Operand.tmp 22),args:=#[],argTypes:=#[] },type:=0,pos:= "table.go:75",after:=#[{ on:=0,ground:=Ground.data }],guard:=none }]
def q9:Array Oper:=#[{ dst:=some 23,op:=Op.binOp BinOp.add 3 (Operand.tmp 18) (Operand.const (Value.int IntKind.i64 1)) 3,type:=3,pos:= "table.go:73",after:=#[],guard:=none },
 { dst:=some 18,op:=Op.move (Operand.tmp 23),type:=3,pos:= "table.go:73",after:=#[{ on:=0,ground:=Ground.data }],guard:=none }]
def q10:Array Oper:=#[{ dst:=some 24,op:=Op.call { callee:=Callee.value (Operand.func 66),args:=#[Operand.tmp 9],argTypes:=#[146] },type:=0,pos:= "table.go:86",after:=#[],guard:=none }]
def LL:Code:=.seq (.region 5 q5 false) (.seq (.cond (.tmp 19) .skip (.exit 0)) (.seq (.block 1 (.seq (.region 6 q6 false) (.seq (.region 7 q7 false) (.region 8 q8 false)))) (.region 9 q9 false)))
noncomputable def b40:Code:=Tryz.f40.body.getD .skip
noncomputable def p40_0:Code:=fstC b40
noncomputable def p40_1:Code:=fstC (sndC b40)
noncomputable def p40_2:Code:=fstC (sndC (sndC b40))
noncomputable def tl40:Code:=sndC (sndC (sndC (sndC (sndC (sndC b40)))))
theorem b40_eq:b40=.seq p40_0 (.seq p40_1 (.seq p40_2 (.seq (.region 3 q3 false) (.seq (.seq (.region 4 q4 false) (.block 0 (.loop LL))) (.seq (.region 10 q10 false) tl40))))):=by kernel_rfl
theorem body40:Tryz.f40.body=some b40:=by kernel_rfl
theorem has40:HasBody C0 40:=⟨Tryz.f40,by kernel_rfl,by kernel_rfl,by kernel_rfl⟩
theorem ok40_0:okCode C0 S0 40 p40_0=true:=by kernel_rfl
theorem ok40_1:okCode C0 S0 40 p40_1=true:=by kernel_rfl
theorem ok40_2:okCode C0 S0 40 p40_2=true:=by kernel_rfl
theorem ok40_t:okCode C0 S0 40 tl40=true:=by kernel_rfl
end Go.Sim.Z
