/- PROVED HERE: laws that the statement rests on (parts Vk, Xd, Xa). Conditions: none. -/
import Derived.Tactics
import Derived.Test.YtlcbehhbfglgaaaGreatE26
import Derived.Test.YtlcbehhbfglgaaaGreatE27
set_option linter.all false
namespace Go.Sim.Z
open Go Go.Proofs Go.Conc Go.ConcN Go.RowKit Go.Conc.Lib Go.ConcR.Gen Go.ConcN.Gen
open Go.ConcR (KK wgBlock WgAt stA smA rd wr mk Payload DC0)
theorem WorkOk.of_heap {F:Nat→Prop} {w0 w1:World} {k p m c:Nat} {R:Nat→(Nat→Prop)→Option Nat→World→Prop} (h:WorkOk F w0 k p m c R) (hh:∀ b,F b→w1.heap[b]?=w0.heap[b]?):WorkOk F w1 k p m c R:=by
 refine ⟨fun b hb=>?_,h.hnd,h.kF,h.pF,h.mF,h.cF,fun i s Wg C w hi hs hw hc=>h.run i s Wg C w hi hs (fun b hb=>(hw b hb).trans (hh b hb)) hc⟩
 obtain ⟨h1,o,h2,h3⟩:=h.sh b hb
 exact ⟨h1,o,(hh b hb).trans h2,h3⟩
section
variable {AJ:Nat→Frame→Goroutine→World→Prop} {W E F:Nat→Prop} {R R2:Nat→(Nat→Prop)→Option Nat→World→Prop} {C k p m c:Nat} {wb:World} {T:Array Value} {kk:List Item} {cs:List Frame}
def PhEndG (W E:Nat→Prop) (C k p m c:Nat) (T0:Array Value) (wb:World) (R2:Nat→(Nat→Prop)→Option Nat→World→Prop) (kk:List Item) (cs:List Frame) (W':Nat→Prop) (g':Goroutine) (w':World):Prop:=
 ∃ Wg T' E2,W'=(fun b=>W b∨b=Wg)∧RT Wg C k p m c T0 T'∧g'=G ((base 40).at ⟨T',[]⟩ (.inRegion q10 []::.code tl40::kk)) cs∧PhPost W' E C wb R2 E2 w'
set_option maxHeartbeats 1000000 in
theorem reach_phase (hS:∀ Wg,WgScripts Wg cs (AJ Wg)) (hRd:∀ Wg,WgRounds Wg cs (AJ Wg)) (hB:BOk C0 S0 W E wb) (hsz:T.size=49) (h3:T[3]?=some (ptr c)) (h4:T[4]?=some (ptr m)) (h5:T[5]?=some (ptr p)) (h7:T[7]?=some (ptr k)) (h8:T[8]?=some (ptr C))
  (hC:E C) (pay:PayAt C 4 wb) (hFE:∀ b,F b→E b∧b≠C) (KW:WorkOk F wb k p m c R)
  (hR:∀ w' i Sh E2 w2 r r',i<4→(∀ b,F b→Sh b)→Sub (idE Sh) E2→WR (C1 Sh) (okP (C1 Sh) S1) E2 w2 w'→VR (C1 Sh) E2 (.map r) (.map r')→R i Sh r w2→R2 i (fun b'=>∃ b,E2 b b'∧¬ Sh b) r' w') :
  Reach Tryz.prog (PhEndG W E C k p m c T wb R2 kk cs) W
   (G ((base 40).at ⟨T,[]⟩ (.inRegion q3 [0]::.code (.seq (.seq (.region 4 q4 false) (.block 0 (.loop LL))) (.seq (.region 10 q10 false) tl40))::kk)) cs) wb:=by
 intro gs sl t q W0 hSy hWl h0 hCm
 have hW0:∀ b,W0 b→W b:=fun b hb=>(hSy b hb).1
 have hst:∀ d,stepG Tryz.prog true (G ((base 40).at ⟨T,[]⟩ (.inRegion q3 [0]::.code (.seq (.seq (.region 4 q4 false) (.block 0 (.loop LL))) (.seq (.region 10 q10 false) tl40))::kk)) cs) (wb.at d) =
   .go (G ((base 40).at ⟨T.setIfInBounds 9 (ptr wb.heap.size),[]⟩ (.inRegion q3 []::.code (.seq (.seq (.region 4 q4 false) (.block 0 (.loop LL))) (.seq (.region 10 q10 false) tl40))::kk)) cs) ((fun w=>{ w with heap:=w.heap.push (wgBlock 146 0 0) }) (wb.at d)) #[]:=fun d=>
  stepG_alloc146 (o:=q3[0]) rfl rfl (by simp [base]) rfl
 obtain ⟨N1,gs1,d,sl1,t1,q1,hr1,hs1,ha1,hC1,hlow⟩:=beside_quiet (P:=Tryz.prog) (W:=W0) (f:=fun w=>{ w with heap:=w.heap.push (wgBlock 146 0 0) }) rfl hst (fun d=>by show wb.heap.size≤(wb.heap.push _).size;simp) (sl:=sl) h0 hCm (atRel_refl wb)
 generalize hWg:wb.heap.size=Wg at *
 have hlt:∀ b,E b→b<Wg:=fun b hb=>hWg▸hB.lt hb
 have hne:C≠Wg:=by have:=hlt C hC;omega
 let w0:World:={ (wb.at d) with heap:=(wb.at d).heap.push (wgBlock 146 0 0) }
 have hw0:w0.heap=wb.heap.push (wgBlock 146 0 0):=rfl
 have hW0':∀ b,b<Wg→w0.heap[b]?=wb.heap[b]?:=fun b hb=>by
  rw [hw0,Array.getElem?_push_lt (hWg▸hb),Array.getElem?_eq_getElem (hWg▸hb)]
 have KW':WorkOk F w0 k p m c R:=KW.of_heap fun b hb=>hW0' b (hlt b (hFE b hb).1)
 have hgs0:0<gs1.size:=(Array.getElem?_eq_some_iff.1 ha1).1
 let H:=HR (AJ Wg) W0 (fun b=>E b∨(W b∧¬ W0 b)) F R Wg C k p m c T (gs1.size-1) w0 t1 q1 kk cs
 have hT:RT Wg C k p m c T (T.setIfInBounds 9 (ptr Wg)):=by
  have ne:∀ i,i≠9→(T.setIfInBounds 9 (ptr Wg))[i]?=T[i]?:=fun i hi=>Array.getElem?_setIfInBounds_ne (by omega)
  exact ⟨by simpa using hsz,(ne 3 (by omega)).trans h3,(ne 4 (by omega)).trans h4,(ne 5 (by omega)).trans h5,(ne 7 (by omega)).trans h7,(ne 8 (by omega)).trans h8,by simp [hsz],fun i _ h2 _=>ne i h2⟩
 have hwl:WgLive 146 Wg w0:=⟨0,0,by show w0.heap[Wg]?=_;rw [hw0,← hWg];simp⟩
 have hjs:JSp H 4 (G ((base 40).at ⟨T.setIfInBounds 9 (ptr Wg),[]⟩ (.inRegion q3 []::.code (.seq (.seq (.region 4 q4 false) (.block 0 (.loop LL))) (.seq (.region 10 q10 false) tl40))::kk)) cs) w0:=by
  obtain ⟨n,hn⟩:=loopJ (T0:=T) (W:=W0) (E:=fun b=>E b∨(W b∧¬ W0 b)) (w0:=w0) (mm:=gs1.size-1) (t0:=t1) (q0:=q1) (kk:=kk) (hS Wg) hne (fun b hb=>⟨.inl (hFE b hb).1,(hFE b hb).2⟩) (fun b hb=>hlt b (hFE b hb).1) KW' 4 (by omega)
  generalize T.setIfInBounds 9 (ptr Wg)=T1 at hT ⊢
  have hsz1:=hT.size
  refine jsp_of (n:=n+8) ?_
  have hW:=hwl
  show Goes Tryz.prog true (RM 146 Wg) DC0 (StopJ H 4) (n+8) _ w0
  generalize w0=w at hW ⊢
  refine gidle rfl (fun w1=>stepG_region_end) fun w1 r1=>?_
  replace hW:=r1 hW
  refine gidle rfl (fun w1=>stepG_seq) fun w1 r1=>?_
  replace hW:=r1 hW
  refine gidle rfl (fun w1=>stepG_seq) fun w1 r1=>?_
  replace hW:=r1 hW
  refine gidle rfl (fun w1=>stepG_region) fun w1 r1=>?_
  replace hW:=r1 hW
  rw [show List.range q4.size=[0] from rfl]
  refine gidle (g':=G ((base 40).at ⟨T1.setIfInBounds 18 (.int .i64 0),[]⟩ (.inRegion q4 []::.code (.block 0 (.loop LL))::.code (.seq (.region 10 q10 false) tl40)::kk)) cs) rfl (fun w1=>?_) fun w1 r1=>?_
  ·exact stepG_pure (o:=q4[0]) (v:=.int .i64 0) rfl rfl (by simp [base]) (by simp [execOp,q4,Act.eval,go_sem]) (by simp [execOp,q4,Act.eval,go_sem])
  replace hW:=r1 hW
  refine gidle rfl (fun w1=>stepG_region_end) fun w1 r1=>?_
  replace hW:=r1 hW
  refine gidle rfl (fun w1=>stepG_block) fun w1 r1=>?_
  replace hW:=r1 hW
  refine gidle rfl (fun w1=>stepG_loop) fun w1 r1=>?_
  replace hW:=r1 hW
  exact hn _ _ (hT.set (.inr (by omega)) _) (by simp [hsz1]) hW
 have hAn:∀ g w,H.Anch g w→∃ m,Goes H.P true (RM H.ty H.Wg) DC0 (JW1 H.P H.ty H.Wg H.Fin H.Anch) m g w:=by
  rintro g w ⟨T2,f,⟨hT2,rfl⟩,hA⟩
  obtain ⟨n,hn⟩:=(hRd Wg).round H.Fin ⟨T2,[]⟩ (.code tl40::kk) (fun w _=>Goes.stop fun w1 _=>⟨_,hT2.set (j:=24) (.inr (by omega)) (.tuple #[]),rfl⟩) g w hA
  exact ⟨n,goesMono (fun _ _=>JW1.mono (fun _ _ h=>h) fun g w h=>⟨T2,_,⟨hT2,rfl⟩,h⟩) hn⟩
 have hp0:PayAt C 4 w0:=by
  obtain ⟨cells,h1,h2⟩:=pay
  exact ⟨cells,(hW0' C (hlt C hC)).trans h1,h2⟩
 have hsz0:w0.heap.size=Wg+1:=by rw [hw0];simp [hWg]
 obtain ⟨N2,gs2,w2,sl2,t2,q2,D,a2,hr2,ha2,hF,hC2,hE⟩:=phase_all (H:=H) (q:=q1) (gs:=gs1) (sl:=sl1) (fun i own X v w w' h r=>QW.rely h r) (fun g w ⟨T,f,_,hA⟩=>(hRd Wg).run f g w hA) (fun g w ⟨T,_,hg⟩=>by rw [hg];rfl) (by show (4:Nat)<_;omega) hAn hC1 hlow
  (by show gs1.size=gs1.size-1+1;omega) ha1 hjs (by show 0<(4:Nat);omega) (by show w0.heap[Wg]?=_;rw [hw0,← hWg];simp;rfl) hp0 (by show Wg<w0.heap.size;omega) (by show C<w0.heap.size;have:=hlt C hC;omega) hne (fun h=>hB.dis C (hW0 C h) hC) (fun h=>by have:=hCm.low Wg h;omega)
  (fun b ⟨hb,hbC⟩=>hb.elim (fun hb=>⟨by show b<w0.heap.size;have:=hlt b hb;omega,by have:=hlt b hb;show b≠Wg;omega,hbC,fun h=>hB.dis b (hW0 b h) hb⟩) fun hb=>⟨by show b<w0.heap.size;have:=hWl b hb.1;omega,by have:=hWl b hb.1;show b≠Wg;omega,hbC,hb.2⟩)
 obtain ⟨T2,hT2,rfl⟩:=hF
 obtain ⟨E2,hpost⟩:=phase_post (R2:=R2) hW0 (fun b hb=>by rw [hWg];exact hWl b hb) (fun b hb=>(hFE b hb).1) hB hw0 rfl hWg.symm hC hne hE (hR w2)
 have keep:∀ b,W b→w2.heap[b]?=wb.heap[b]?:=fun b hb=>by
  have e:w2.heap[b]?=w0.heap[b]?:=by
   by_cases hb0:W0 b
   ·exact hE.jw.keep b (.inr hb0)
   ·exact hE.jw.keep b (.inl ⟨.inr ⟨hb,hb0⟩,fun e=>hB.dis C (e▸hb) hC⟩)
  exact e.trans (hW0' b (hWl b hb))
 obtain ⟨st,sm,hwg⟩:=hE.wg
 refine ⟨N1+N2,gs2,w2,sl2,t2,q2,_,_,_,runNT_trans' hr1 hr2,ha2,hC2,⟨Wg,T2,E2,rfl,hT2,rfl,hpost⟩,⟨fun _ h=>.inl h,keep,hE.jw.os,hE.jw.out⟩,fun b hb=>?_,fun b hb=>?_⟩
 ·rcases hb with hb|rfl
  ·obtain ⟨h1,a,z,h2⟩:=hSy b hb
   exact ⟨.inl h1,a,z,(keep b h1).trans h2⟩
  ·exact ⟨.inr rfl,_,_,hwg⟩
 ·rcases hb with hb|rfl
  ·by_cases hb0:W0 b
   ·exact hE.jw.wl b hb0
   ·exact (hE.jw.sh0 b ⟨.inr ⟨hb,hb0⟩,fun e=>hB.dis C (e▸hb) hC⟩).1
  ·exact hE.jw.wg
end
end Go.Sim.Z
namespace Go.Sim.Z
open Go Go.Proofs Go.RowKit
open Go.WideElems (Fit rd rg)
def Shd (F:Nat→Prop) (w:World) (b:Nat):Prop:=∃ o,w.heap[b]?=some o∧∀ X Sh:Nat→Prop,(∀ b,F b→X b)→ShObj (C1 Sh) (idE X) o
section
variable {C:Cx} {E:BRel} {w w':World} {F:Nat→Prop} {b x:Nat} {arr:Array Value} {t:TypeId} {k:IntKind} {xs:List Int} {cap:Nat}
theorem _root_.Go.Sim.AR.refl_of (h:∀ v∈arr.toList,VR C E v v):AR C E arr arr:=⟨rfl,fun i x x' h1 h2=>by
 rw [h1] at h2;cases h2
 exact h x (Array.mem_toList_iff.2 (Array.mem_of_getElem? h1))⟩
theorem _root_.Go.Sim.AR.plain_self (h:Plain arr):AR C E arr arr:=.refl_of fun v hv=>by obtain ⟨k,n,rfl⟩:=h v hv;exact .int k n
theorem Shd.of_cells (h:Blk false w b arr t) (hv:∀ X Sh:Nat→Prop,(∀ b,F b→X b)→∀ v∈arr.toList,VR (C1 Sh) (idE X) v v):Shd F w b:=by
 obtain ⟨z,h1,h2⟩:=h
 cases h2 rfl
 exact ⟨_,h1,fun X Sh hX=>⟨rfl,.refl_of (hv X Sh hX)⟩⟩
theorem Shd.plain (h:Blk false w b arr t) (hp:Plain arr):Shd F w b:=.of_cells h fun X Sh _ v hv=>by obtain ⟨k,n,rfl⟩:=hp v hv;exact .int k n
theorem Shd.row (h:Row false w b t k xs cap):Shd F w b:=by
 obtain ⟨cur,h1,_,_,_,h5⟩:=h
 exact .plain h1 h5
theorem Shd.bun {c:CfgD} {p:BP} {B:Bun} (h:BunAt false w c p B) (hF:∀ x∈p.pl,F x) (hba:∀ a,c.ba=some a→F a.block):∀ x∈p.pl,Shd F w x:=fun x hx=>by
 have m {x:Nat} (h:x=p.b∨x=p.rb∨x=p.rr∨x=p.hb∨x=p.hr∨x=p.lb∨lpl p.lr x):=hF x (BP.mem.2 h)
 rcases BP.mem.1 hx with rfl|rfl|rfl|rfl|rfl|rfl|hx
 ·refine .of_cells h.hd fun X Sh hX v hv=>?_
  simp only [List.mem_cons,List.not_mem_nil,or_false] at hv
  rcases hv with rfl|rfl|rfl|rfl
  ·exact .int _ _
  ·exact .iface _ (by kernel_rfl) (.ptr _ _ ⟨rfl,hX _ (m (.inr (.inl rfl)))⟩)
  ·exact .iface _ (by kernel_rfl) (.ptr _ _ ⟨rfl,hX _ (m (.inr (.inr (.inr (.inl rfl)))))⟩)
  ·exact .iface _ (by kernel_rfl) (.ptr _ _ ⟨rfl,hX _ (m (.inr (.inr (.inr (.inr (.inr (.inl rfl)))))))⟩)
 ·refine .of_cells h.reg.hd fun X Sh hX v hv=>?_
  simp only [List.mem_cons,List.not_mem_nil,or_false] at hv
  rcases hv with rfl|rfl
  ·exact .int _ _
  ·exact .slice _ _ _ _ ⟨rfl,hX _ (m (.inr (.inr (.inl rfl))))⟩
 ·exact .row h.reg.row
 ·refine .of_cells h.hist.hd fun X Sh hX v hv=>?_
  simp only [List.mem_cons,List.not_mem_nil,or_false] at hv
  rcases hv with rfl|rfl
  ·cases hc:c.ba with
   | none=>exact .nilSlice _ _
   | some a=>exact .slice _ _ _ _ ⟨rfl,hX _ (hba a hc)⟩
  ·exact .slice _ _ _ _ ⟨rfl,hX _ (m (.inr (.inr (.inr (.inr (.inl rfl))))))⟩
 ·exact .row h.hist.row
 ·refine .of_cells h.least.hd fun X Sh hX v hv=>?_
  simp only [List.mem_cons,List.not_mem_nil,or_false] at hv
  rcases hv with rfl|rfl
  ·exact .int _ _
  ·unfold lval
   cases hc:p.lr with
   | none=>exact .nilSlice _ _
   | some q=>obtain ⟨r,cc⟩:=q;exact .slice _ _ _ _ ⟨rfl,hX _ (m (.inr (.inr (.inr (.inr (.inr (.inr ⟨cc,hc⟩)))))))⟩
 ·obtain ⟨cc,hc⟩:=hx
  have:=h.least.row
  unfold LRow at this
  rw [hc] at this
  exact .row this.1
theorem CMap.obj {L:List (List Int × Value)} (h:CMap w x L):∃ es clock,w.heap[x]?=some (.map es clock)∧∀ z∈es.toList,∃ p∈L,z.key=.agg (ai .i64 p.1)∧z.val=p.2:=by
 obtain ⟨L',h1,n,es,clock,h2,h3,h4,h5⟩:=h.own
 refine ⟨es,clock,h2,fun z hm=>?_⟩
 obtain ⟨q,hq⟩:=h3.reads z hm
 have hmem:q∈(es.toList.map (rg Tryz.prog 76 Rv)).foldr DataW.insert []:=(foldr_insert_perm _).mem_iff.2 (List.mem_map.2 ⟨z,hm,by simp [rg,hq]⟩)
 have h5':=DataW.map.inj h5
 rw [← h5'] at hmem
 obtain ⟨p,hp',rfl⟩:=List.mem_map.1 hmem
 have hpL:=h1.mem_iff.1 hp'
 unfold rd at hq
 simp only [Option.bind_eq_some_iff,Option.map_eq_some_iff] at hq
 obtain ⟨l,hl,d,hd,e⟩:=hq
 have e1:l=klit p.1:=congrArg Prod.fst e
 have e2:d.1=.held p.2:=congrArg Prod.snd e
 refine ⟨p,hpL,?_,?_⟩
 ·rw [e1] at hl
  exact law76.inj hl (keyOf76 (h.keys p hpL))
 ·simp only [Rv,Option.some.injEq] at hd
  rw [← hd] at e2
  exact DataW.held.inj e2
theorem Shd.tab {c:CfgD} {T:List TR} (h:TabAt false w c x T) (hF:∀ z,z=x∨z∈tpl T→F z) (hba:∀ a,c.ba=some a→F a.block):∀ z,z=x∨z∈tpl T→Shd F w z:=fun z hz=>by
 rcases hz with rfl|hz
 ·obtain ⟨es,clock,h1,h2⟩:=h.map.obj
  refine ⟨_,h1,fun X Sh hX=>⟨rfl,fun i y y' hy hy'=>?_⟩⟩
  rw [hy] at hy';cases hy'
  obtain ⟨p,hp,e1,e2⟩:=h2 y (Array.mem_toList_iff.2 (Array.mem_of_getElem? hy))
  obtain ⟨t,ht,rfl⟩:=List.mem_map.1 hp
  refine ⟨?_,?_,rfl⟩
  ·rw [e1];exact .of_agg (AR.plain_self .ai)
  ·rw [e2];exact .ptr _ _ ⟨rfl,hX _ (hF _ (.inr (mem_tpl.2 ⟨t,ht,BP.mem.2 (.inl rfl)⟩)))⟩
 ·obtain ⟨t,ht,hz⟩:=mem_tpl.1 hz
  exact Shd.bun (h.bun t ht) (fun y hy=>hF y (.inr (mem_tpl.2 ⟨t,ht,hy⟩))) hba z hz
theorem Blk.frz {Sh:Nat→Prop} (h:Blk false w b arr t):Blk true (frz Sh w) b arr t:=by
 obtain ⟨z,h1,h2⟩:=h
 by_cases hs:Sh b
 ·exact ⟨(0,arr.size),by rw [frz_in hs,h1];rfl,fun e=>by cases e⟩
 ·exact ⟨z,by rw [frz_out hs,h1],fun e=>by cases e⟩
theorem Row.frz {Sh:Nat→Prop} (h:Row false w b t k xs cap):Row true (frz Sh w) b t k xs cap:=by
 obtain ⟨cur,h1,h2⟩:=h
 exact ⟨cur,h1.frz,h2⟩
theorem BunAt.frz {Sh:Nat→Prop} {c:CfgD} {p:BP} {B:Bun} (h:BunAt false w c p B):BunAt true (frz Sh w) c p B:=by
 refine ⟨h.hd.frz,⟨h.reg.hd.frz,h.reg.row.frz⟩,⟨h.hist.hd.frz,h.hist.row.frz⟩,⟨h.least.hd.frz,?_⟩,h.nd⟩
 have:=h.least.row
 unfold LRow at this ⊢
 cases hc:p.lr with
 | none=>rw [hc] at this;exact this
 | some q=>rw [hc] at this;exact ⟨this.1.frz,this.2⟩
theorem CMap.frz {Sh:Nat→Prop} {L:List (List Int × Value)} (h:CMap w x L):CMap (frz Sh w) x L:=by
 obtain ⟨L',h1,n,es,clock,h2,h3⟩:=h.own
 exact ⟨h.keys,h.nodup,L',h1,n,es,clock,frz_map h2,h3⟩
theorem TabAt.frz {Sh:Nat→Prop} {c:CfgD} {T:List TR} (h:TabAt false w c x T):TabAt true (frz Sh w) c x T:=
 ⟨h.map.frz,fun t ht=>(h.bun t ht).frz,h.ok,h.out,h.dis⟩
end
def PassOk (F:Nat→Prop) (w:World) (fb:Nat) (pass:List Int→Bool):Prop:=
 ∀ w',(∀ a v,F a.block→w.cell? a=some v→w'.cell? a=some v)→∀ x,KeyOk x→Calls Tryz.prog 42 #[.agg (ai .i64 x),.pointer (some ⟨fb,0,none⟩)] w' fun e w2=>e=.returned (.bool (pass x))∧Tch w'.heap.size M0 w' w2
structure RF (F:Nat→Prop) (w:World) (c:CfgD) (k p m cb:Nat) (ka:Option Addr) (kc:Nat) (ks:List KeyT) (fb mk src:Nat) (S:List TR) (pass:List Int→Bool):Prop where
 ck:w.cell? ⟨k,0,none⟩=some (.slice ka ks.length kc)
 cp:w.cell? ⟨p,0,none⟩=some (.func (.func 42) #[] #[.pointer (some ⟨fb,0,none⟩)])
 cm:w.cell? ⟨m,0,none⟩=some (.int .i64 mk)
 cc:w.cell? ⟨cb,0,none⟩=some (.map (some src))
 keys:KAt false w ka kc ks
 tab:TabAt false w c src S
 pass:PassOk F w fb pass
 kF:F k
 pF:F p
 mF:F m
 cF:F cb
 hF:F Tryz.prog.globals.size
 rF:∀ a,ka=some a→F a.block
 tF:∀ x,x=src∨x∈tpl S→F x
 bF:∀ a,c.ba=some a→F a.block
 sh:∀ b,F b→Tryz.prog.globals.size≤b∧Shd F w b
 cfg:CfgOk c
 kn:ks.length≤1000
 ex:∀ x∈ks,∃ B,tm S x.1=some B
def RW (c:CfgD) (S:List TR) (mk:Nat) (pass:List Int→Bool) (ks:List KeyT) (i:Nat) (Sh:Nat→Prop) (r:Option Nat) (w:World):Prop:=
 ∃ m T,r=some m∧TabAt false w c m T∧Sum c (tm T) (ents S mk pass (pick4 i ks.length ks))∧(∀ x,x=m∨x∈tpl T→¬ Sh x)∧T.length≤ks.length+4∧∀ a,c.ba=some a→Sh a.block
def RC (c:CfgD) (S:List TR) (mk:Nat) (pass:List Int→Bool) (ks:List KeyT) (i:Nat) (O:Nat→Prop) (r:Option Nat) (w:World):Prop:=
 ∃ m T,r=some m∧TabAt false w c m T∧Sum c (tm T) (ents S mk pass (pick4 i ks.length ks))∧(∀ x,x=m∨x∈tpl T→O x)∧T.length≤ks.length+4
theorem RC.of_RW {c:CfgD} {S:List TR} {mk:Nat} {pass:List Int→Bool} {ks:List KeyT} {i:Nat} {Sh:Nat→Prop} {E2:BRel} {w2 w':World} {r r':Option Nat} (hs:Sub (idE Sh) E2) (hW:WR (C1 Sh) (okP (C1 Sh) S1) E2 w2 w') (hv:VR (C1 Sh) E2 (.map r) (.map r')) (h:RW c S mk pass ks i Sh r w2) :
  RC c S mk pass ks i (fun b'=>∃ b,E2 b b'∧¬ Sh b) r' w':=by
 obtain ⟨m,T,rfl,h1,h2,h3,h4,h5⟩:=h
 cases hv with
 | @map _ m' he=>
  obtain ⟨k1,k2⟩:=h1.ren hW (.inl rfl) (fun a ha=>hs _ _ ⟨rfl,h5 a ha⟩) he
  refine ⟨m',_,rfl,k2,by rw [tm_mv];exact h2,fun x hx=>?_,by simpa using h4⟩
  rcases hx with rfl|hx
  ·exact ⟨m,he,h3 m (.inl rfl)⟩
  ·obtain ⟨y,hy,rfl⟩:=tpl_mv.1 hx
   exact ⟨y,k1 y hy,h3 y (.inr hy)⟩
section
variable {F:Nat→Prop} {w0 w:World} {c:CfgD} {k p m cb:Nat} {ka:Option Addr} {kc:Nat} {ks:List KeyT} {fb mk src:Nat} {S:List TR} {pass:List Int→Bool}
theorem RF.wf (h:RF F w0 c k p m cb ka kc ks fb mk src S pass) {i s:Nat} {Sh:Nat→Prop} (hw:∀ b,F b→w.heap[b]?=w0.heap[b]?) (hs:w.heap[s]?=some (.cells #[.int .i64 i] 3)) :
  WF (frz Sh w) c s k p m cb i ka kc ks fb mk src S pass:=by
 have cell:∀ {a:Addr} {v:Value},F a.block→w0.cell? a=some v→(frz Sh w).cell? a=some v:=fun {a v} hf hv=>by
  rw [frz_cell,World.cell?_of_block (hw _ hf)];exact hv
 refine ⟨cell h.kF h.ck,cell h.pF h.cp,cell h.mF h.cm,cell h.cF h.cc,by rw [frz_cell];simp [World.cell?,hs],?_,(h.tab.kept fun x hx=>hw x (h.tF x hx)).frz,fun x hx w' q=>h.pass w' (fun a v hf hv=>q.cell (cell hf hv)) x hx⟩
 rcases h.keys with ⟨e1,e2⟩|⟨g,cur,e,h2,h3⟩
 ·exact .inl ⟨e1,e2⟩
 ·exact .inr ⟨g,cur,e,(h2.kept (hw g (h.rF _ e))).frz,h3⟩
theorem pick4_end {i j:Nat} (h:ks.length≤i+4*j):pick4 i j ks=pick4 i ks.length ks:=by
 have e1:=pick4_more h ks.length
 have e2:=pick4_more (i:=i) (ks:=ks) (j:=ks.length) (by omega) j
 rw [← e1,← e2,Nat.add_comm]
theorem T63_eq (wg s k p m c parts:Nat):T63 wg s k p m c parts=#[ptr wg,ptr s,ptr k,ptr p,ptr m,ptr c,ptr parts,undef,undef,undef,undef,undef,undef,undef,undef,undef,undef,undef,undef,undef,undef,undef,undef,undef,undef,undef,undef,undef,undef,undef,undef,undef,undef,undef,undef,undef,undef,undef,undef,undef]:=by
 unfold T63 caps63
 rw [show Array.replicate 33 undef=#[undef,undef,undef,undef,undef,undef,undef,undef,undef,undef,undef,undef,undef,undef,undef,undef,undef,undef,undef,undef,undef,undef,undef,undef,undef,undef,undef,undef,undef,undef,undef,undef,undef] from by kernel_rfl]
 simp only [List.append_toArray,List.cons_append,List.nil_append]
set_option maxRecDepth 100000 in
theorem RF.work (h:RF F w0 c k p m cb ka kc ks fb mk src S pass):WorkOk F w0 k p m cb (RW c S mk pass ks):=by
 refine ⟨fun b hb=>h.sh b hb,h.hF,h.kF,h.pF,h.mF,h.cF,fun i s Wg C w hi hs hw hc=>?_⟩
 have hFl:∀ b,F b→b<w.heap.size:=fun b hb=>by
  obtain ⟨_,o,ho,_⟩:=h.sh b hb
  exact lt_of ((hw b hb).trans ho)
 have hsl:s<w.heap.size:=lt_of hc
 have hWF:=h.wf (i:=i) (s:=s) (Sh:=fun b=>F b∨b=s) hw hc
 generalize hw1:frz (fun b=>F b∨b=s) w=wz at hWF
 have hzs:wz.heap.size=w.heap.size:=by rw [← hw1,frz_size]
 refine ⟨fun t1 w1=>w1.heap=wz.heap.push (.map #[] 0)∧t1=#[ptr Wg,ptr s,ptr k,ptr p,ptr m,ptr cb,ptr C,.map (some wz.heap.size),undef,.map (some wz.heap.size),undef,undef,undef,undef,undef,undef,undef,undef,undef,undef,undef,undef,undef,undef,undef,undef,undef,undef,undef,undef,undef,undef,undef,undef,undef,undef,undef,undef,undef,undef],fun τ=>?_,?_⟩
 ·rw [T63_eq]
  simp only [c1,b63,fstC,sndC,Tryz.f63,Option.getD_some]
  have hmm:∀ w,(Instr.makeMap 70 none).run Tryz.prog w=.ok (.map (some w.heap.size)) (w.alloc (.map #[] 0)):=fun _=>rfl
  go_wp2
  exact ⟨rfl,hzs⟩
 ·rintro t1 w1 ⟨e1,rfl⟩ τ
  have hk:Keeps wz (w1.tp τ 0):=⟨by show _≤w1.heap.size;rw [e1];simp,fun b hb=>by
   show w1.heap[b]?=_
   rw [e1,Array.getElem?_push_lt hb,Array.getElem?_eq_getElem hb]⟩
  have hm:CMap (w1.tp τ 0) wz.heap.size []:=(CMap.made wz).kept (by
   show w1.heap[_]?=_
   rw [e1];rfl)
  have hL:WL wz c wz.heap.size i ks mk S pass 0 (w1.tp τ 0):=by
   refine ⟨[],⟨hm,fun t ht=>by simp at ht,fun t ht=>by simp at ht,by simp [tpl],.nil⟩,?_,by simp,fun x hx=>?_,hk⟩
   ·exact .nil c
   ·rcases hx with rfl|hx
    ·exact Nat.le_refl _
    ·simp [tpl] at hx
  refine wp_mono (work_loop hWF h.ex h.kn hi h.cfg hL Wg C stuckD) fun e a w2 hq=>?_
  cases e with
  | normal=>
   obtain ⟨q1,q2,q3,r,q4,j,q5,q6,r0,rfl,T,t1,t2,t3,t4,t5⟩:=hq
   refine ⟨rfl,q1,q2,q3,_,q4,r0,T,rfl,t1,?_,fun x hx hs'=>?_,by omega,fun a ha=>.inl (h.bF a ha)⟩
   ·rw [← pick4_end q5];exact t2
   ·have:=t4 x hx
    rcases hs' with hs'|rfl
    ·have:=hFl x hs';omega
    ·omega
  | _=>exact hq.elim
end
end Go.Sim.Z
namespace Go.Sim
open Go Go.Conc
def LGo (P:Program) (fn:FuncId) (Stop:Goroutine→World→Prop) (X:List Item) (t:Array Value) (w:World):Prop:=
 ∃ n g w',runN P n (solo (G ((base fn).at ⟨t,[stuckD]⟩ (X++[stopI])) []) w)=.next (solo g w')∧Stop g w'
def StopAt (fn:FuncId) (X:List Item) (Q:Array Value→World→Prop) (g:Goroutine) (w:World):Prop:=
 ∃ t,g=G ((base fn).at ⟨t,[stuckD]⟩ (X++[stopI])) []∧Q t w
def StopRet (fn:FuncId) (Q:Array Value→World→Prop) (g:Goroutine) (w:World):Prop:=
 ∃ t todo,g=G { (base fn).at ⟨t,[stuckD]⟩ todo with mode:=.returning } []∧Q t w
section
variable {P:Program} {fn:FuncId} {Stop:Goroutine→World→Prop} {X:List Item} {t:Array Value} {w:World}
theorem LGo.at {Q:Array Value→World→Prop} (h:Q t w):LGo P fn (StopAt fn X Q) X t w:=⟨0,_,w,rfl,t,rfl,h⟩
theorem LGo.steps {X':List Item} {t':Array Value} {w':World} (h:Steps P (lone ((base fn).at ⟨t,[stuckD]⟩ (X++[stopI])) [] w) (lone ((base fn).at ⟨t',[stuckD]⟩ (X'++[stopI])) [] w')) (k:LGo P fn Stop X' t' w'):LGo P fn Stop X t w:=by
 obtain ⟨n,hn⟩:=h
 obtain ⟨m,g,w2,hm,hs⟩:=k
 refine ⟨n+m,g,w2,?_,hs⟩
 rw [runN_add]
 show (match runN P n (lone _ _ _) with | .next m'=>runN P m m'|e=>e)=_
 rw [hn]
 exact hm
theorem ops_pre {ops:Array Oper} {Q:Exit→Act→World→Prop} (hQ:∀ e a w,Q e a w→e=.normal):∀ (l:List Nat) (a:Act) (w:World),wpOps P ops Q l a w→∀ (b:Frame) (rest:List Nat) (k:List Item) (cs:List Frame),
  ∃ a' w',Q .normal a' w'∧Steps P (lone (b.at a (.inRegion ops (l++rest)::k)) cs w) (lone (b.at a' (.inRegion ops rest::k)) cs w'):=by
 intro l
 induction l with
 | nil=>exact fun a w h b rest k cs=>⟨a,w,h,.refl _ _⟩
 | cons i l ih=>
  intro a w h b rest k cs
  have go:∀ (a1:Act) (w1:World),wpOps P ops Q l a1 w1→Steps P (lone (b.at a (.inRegion ops (i::(l++rest))::k)) cs w) (lone (b.at a1 (.inRegion ops (l++rest)::k)) cs w1) →
    ∃ a' w',Q .normal a' w'∧Steps P (lone (b.at a (.inRegion ops (i::(l++rest))::k)) cs w) (lone (b.at a' (.inRegion ops rest::k)) cs w'):=fun a1 w1 h1 hs=>by
   obtain ⟨a',w',q,r⟩:=ih a1 w1 h1 b rest k cs
   exact ⟨a',w',q,hs.trans r⟩
  simp only [wpOps] at h
  rw [List.cons_append]
  cases ho:ops[i]? with
  | none=>
   simp only [ho] at h
   have hs:=step_op_skip (P:=P) (b:=b) (a:=a) (k:=k) (cs:=cs) (w:=w) (ops:=ops) (i:=i) (rest:=l++rest) (by simp [ho])
   simp only [ho,Option.bind_none,Act.put] at hs
   exact go _ _ h (.one hs)
  | some o=>
   simp only [ho] at h
   have hfin:∀ v,(b.at a (.inRegion ops (i::(l++rest))::k)).finish v=b.at (a.put o.dst v) (.inRegion ops (l++rest)::k):=fun v=>by
    rw [Frame.finish_at,ho];rfl
   by_cases hw:Region.wanted o (yielded ops a.tmps)=true
   ·simp only [hw,if_true] at h
    rcases h with h|⟨_,a₀,w₀,hq⟩
    case inr=>exact absurd (hQ _ _ _ hq) (by simp)
    have hg:=stepG_op (P:=P) (b:=b) (k:=k) (cs:=cs) (w:=w) (rest:=l++rest) ho hw
    simp only [Oper.wp,Oper.upon] at h
    split at h
    ·rename_i v w' hr
     exact go _ _ h (.one (step_lone_go (by rw [hg,← hfin];simp [stepG.apply,hr])))
    ·rename_i w' hr
     exact go _ _ h (.one (step_lone_go (by rw [hg,← hfin];simp [stepG.apply,hr])))
    ·rename_i d w' hr
     refine go _ _ h (.one (step_lone_go ?_))
     have e1:({ b.at a (.inRegion ops (i::(l++rest))::k) with defers:=d::a.defers }:Frame).finish undef =
       b.at ({ a with defers:=d::a.defers }.put o.dst undef) (.inRegion ops (l++rest)::k):=by
      have:=Frame.finish_at b { a with defers:=d::a.defers } ops i (l++rest) k undef
      rw [ho] at this;exact this
     rw [hg];simp only [stepG.apply,Sem.runT_eq,hr,GStep.bare_after]
     exact congrArg (fun fr=>GStep.go { frame:=fr,callers:=cs,status:=.running,dying:=none } w') e1
    ·rename_i f args w' hr
     obtain ⟨e,w'',fr,hR,hsteps,_,hleave⟩:=h (b.at a (.inRegion ops (i::(l++rest))::k)::cs)
     have henter:step P (lone (b.at a (.inRegion ops (i::(l++rest))::k)) cs w) =
       .next (lone (Frame.enter P f args .normal) (b.at a (.inRegion ops (i::(l++rest))::k)::cs) w'):=
      step_lone_go (by rw [hg];simp [stepG.apply,hr,Frame.at])
     cases e with
     | returned v=>
      refine go _ _ hR (.head henter (Steps.trans hsteps (.one ?_)))
      rw [← hfin];exact step_leave_returned hleave
     | panicked chain=>exact absurd (hQ _ _ _ hR) (by simp)
     | outgrown=>
      obtain ⟨a₀,w₀,hq⟩:=hR
      exact absurd (hQ _ _ _ hq) (by simp)
    ·rename_i row args w' hr
     obtain ⟨v,w'',hR,hsteps⟩:=h (b.at a (.inRegion ops (i::(l++rest))::k)) cs
     have henter:step P (lone (b.at a (.inRegion ops (i::(l++rest))::k)) cs w) =
       .next (lone (Frame.ofRow P row args .normal) (b.at a (.inRegion ops (i::(l++rest))::k)::cs) w'):=
      step_lone_go (by rw [hg];simp [stepG.apply,hr,Frame.at])
     refine go _ _ hR (.head henter ?_)
     rw [← hfin];exact hsteps
    ·exact absurd (hQ _ _ _ h) (by simp)
    ·exact h.elim
   ·simp only [hw,if_false,Bool.false_eq_true] at h
    have hs:=step_op_skip (P:=P) (b:=b) (a:=a) (k:=k) (cs:=cs) (w:=w) (ops:=ops) (i:=i) (rest:=l++rest) (by simp [ho];simpa using hw)
    simp only [ho,Option.bind_some] at hs
    exact go _ _ h (.one hs)
def Cont (P:Program) (fn:FuncId) (Stop:Goroutine→World→Prop) (X:List Item) (e:Exit) (a:Act) (w:World):Prop:=
 (e=.normal∧a.defers=[stuckD]∧LGo P fn Stop X a.tmps w)∨(e=.ret∧a.defers=[stuckD]∧∀ todo,Stop (G { (base fn).at a todo with mode:=.returning } []) w)
theorem Cont.ret {Q:Array Value→World→Prop} {a:Act} (h:Q a.tmps w) (hd:a.defers=[stuckD]):Cont P fn (StopRet fn Q) X .ret a w:=
 .inr ⟨rfl,hd,fun todo=>⟨a.tmps,todo,by rw [← hd],h⟩⟩
theorem LGo.wp {c:Code} (h:c.wp P (Cont P fn Stop X) ⟨t,[stuckD]⟩ w):LGo P fn Stop (.code c::X) t w:=by
 obtain ⟨e,a',w',hq,har⟩:=h (base fn) (X++[stopI]) []
 rcases hq with ⟨rfl,hd,hl⟩|⟨rfl,hd,hs⟩
 ·obtain ⟨tm,df⟩:=a'
  cases hd
  exact LGo.steps (X':=X) (t':=tm) (w':=w') har hl
 ·obtain ⟨todo,n,hn⟩:=har
  exact ⟨n,_,w',hn,hs todo⟩
theorem LGo.done {ops:Array Oper} (h:LGo P fn Stop X t w):LGo P fn Stop (.inRegion ops []::X) t w:=
 LGo.steps (X':=X) (.one step_region_end) h
theorem LGo.ops {ops:Array Oper} {pre rest:List Nat} (h:wpOps P ops (fun e a w1=>e=.normal∧a.defers=[stuckD]∧LGo P fn Stop (.inRegion ops rest::X) a.tmps w1) pre ⟨t,[stuckD]⟩ w):LGo P fn Stop (.inRegion ops (pre++rest)::X) t w:=by
 obtain ⟨a',w',⟨_,hd,hl⟩,hs⟩:=ops_pre (fun _ _ _ h=>h.1) pre _ _ h (base fn) rest (X++[stopI]) []
 obtain ⟨tm,df⟩:=a'
 cases hd
 exact LGo.steps (X':=.inRegion ops rest::X) (t':=tm) (w':=w') hs hl
theorem wpOps_of_list {ops:Array Oper} {Q:Exit→Act→World→Prop}:∀ (l:List Oper) (i0:Nat),(∀ j,j<l.length→ops[i0+j]?=l[j]?)→wpOps P ops Q (List.range' i0 l.length)=wpList P ops Q l
 | [],_,_=>rfl
 | o::l,i0,h=>by
  have h0:ops[i0]?=some o:=by simpa using h 0 (by simp)
  have ih:=wpOps_of_list (Q:=Q) l (i0+1) fun j hj=>by
   have:=h (j+1) (by simp;omega)
   rw [show i0+1+j=i0+(j+1) by omega,this];simp
  funext a w
  simp only [List.length_cons,List.range'_succ,wpOps,h0,wpList,ih]
theorem ItemsR.eq_of {C:Cx} {S:Kn} {fn:FuncId} {E:BRel} (hE:∀ b b',E b b'→b=b') {l l':List Item} (h:ItemsR C S fn E l l'):l'=l:=by
 induction h with
 | nil=>rfl
 | cons h _ ih=>
  rw [ih]
  congr 1
  cases h with
  | inRangeFunc h=>rw [hE _ _ h]
  | endRangeFunc h=>rw [hE _ _ h]
  | _=>rfl
end
section
variable {C:Cx} {S:Kn} {W E:Nat→Prop} {w:World}
theorem Reach.to (A:AllOk C S) (hst:C.st=false) {Post:(Nat→Prop)→Goroutine→World→Prop} {b:Frame} {X0 X1:List Item} {t:Array Value} {ds:List Deferred} {k:List Item} {cs:List Frame} {Q:Array Value→World→Prop}
  (hX:ItemsR C S b.fn (idE E) X0 X0) (hX1:X1≠[]) (hb:HasBody C b.fn) (hdf:S.df.contains b.fn=false) (hl:C.hl b.fn≠[]) (hk:b.kind≠.early)
  (hB:BOk C S W E w) (ht:TmR C S b.fn (idE E) t t)
  (K:∀ τ,LGo C.P b.fn (StopAt b.fn X1 fun t1 w1=>(∀ i,(C.hl b.fn).contains i=true→i<t.size→t1[i]?=t[i]?)∧Q t1 w1) X0 t (w.tp τ 0))
  (kn:∀ (E':Nat→Prop) (t':Array Value) (w1 w':World),(∀ b,E b→E' b)→BOk C S W E' w'→WR C (okP C S) (idE E') w1 w'→TmR C S b.fn (idE E') t' t'→Q t' w1→Reach C.P Post W (G (b.at ⟨t',ds⟩ (X1++k)) cs) w') :
  Reach C.P Post W (G (b.at ⟨t,ds⟩ (X0++k)) cs) w:=by
 have hsh:∀ b,¬ C.Sh b:=C.lax hst
 let B:Bot:=⟨b.fn,t,k,[],b.kind,ds,cs⟩
 have hg:GR C S (idE E) B (G ((base b.fn).at ⟨t,[stuckD]⟩ (X0++[stopI])) []) (G (b.at ⟨t,ds⟩ (X0++k)) cs):=
  ⟨.bot ⟨rfl,hb,rfl,hk,rfl,rfl,ht,RestR.code (cs:=B) rfl hX,rfl,rfl,rfl,hdf,hl,rfl,rfl,rfl,fun _ _=>rfl⟩,rfl,rfl,rfl,rfl,rfl⟩
 have hR:=runs_to A (main:=true) (cs:=B) (y0:=⟨E,E,G (b.at ⟨t,ds⟩ (X0++k)) cs,w⟩) (Post:=StopAt b.fn X1 fun t1 w1=>(∀ i,(C.hl b.fn).contains i=true→i<t.size→t1[i]?=t[i]?)∧Q t1 w1)
  (fun g w ⟨t1,hg1,_⟩=>by
   rw [hg1]
   show X1++[stopI]≠[stopI]
   intro e
   have:=congrArg List.length e
   simp at this
   exact hX1 this)
  (fun g w ⟨t1,hg1,_⟩ h=>by rw [hg1] at h;obtain ⟨_,⟨c,h⟩,_⟩:=h;cases h) hB.link hg K
 rw [hst] at hR
 refine Reach.of_runs hR rfl hB.dis hB.dis (fun b hb=>hB.lt hb) ?_
 rintro ⟨own,X,g,wy⟩ ⟨E1,g1,w1,hs,hL,hGE,t1,rfl,hh,hq⟩ hd hXl
 simp only at hL hd hXl hGE
 let E':Nat→Prop:=fun b=>E1 b b
 have e1:∀ b b',E1 b b'→b=b':=hL.wr.lid hst
 have hE:∀ b,E b→E' b:=fun b hb=>hs b b ⟨rfl,hb⟩
 have s2:rng E1=E':=by
  funext b
  simp only [rng,E',eq_iff_iff]
  exact ⟨fun ⟨a,h⟩=>by obtain rfl:=e1 a b h;exact h,fun h=>⟨b,h⟩⟩
 have s3:E1=idE E':=by
  funext b b'
  simp only [idE,E',eq_iff_iff]
  exact ⟨fun h=>by obtain rfl:=e1 b b' h;exact ⟨rfl,h⟩,fun ⟨h,h'⟩=>by subst h;exact h'⟩
 have hwr:WR C (okP C S) (idE E') wy wy:=by
  have:=hL.wr.right (CxLe.refl C) (ok':=okP C S) hsh hst (fun _=>⟨rfl,rfl⟩)
  rwa [s2] at this
 have hB':BOk C S W E' wy:=⟨hwr,hE _ hB.hnd,fun g hg=>hE _ (hB.gl g hg),fun b hb he=>hd b hb (hL.rng b b he).1⟩
 have hw1:WR C (okP C S) (idE E') w1 wy:=by rw [← s3];exact hL.wr
 rcases hGE with hG|hE2
 ·obtain ⟨fy,csy,sty,dy,oy⟩:=g
  have hst':=hG.stack
  have r1:=hG.run'
  have r2:=hG.dying'
  have r3:=hG.offers
  simp only at r1 r2 r3
  subst r1 r2 r3
  change StR C S E1 B [(base b.fn).at ⟨t1,[stuckD]⟩ (X1++[stopI])] (fy::csy) at hst'
  generalize hz:fy::csy=z at hst'
  cases hst' with
  | cons _ h2=>cases h2
  | bot hBt=>
   cases hz
   have htm:TmR C S b.fn E1 t1 fy.tmps:=hBt.tmps
   have hho:∀ i,(C.hl b.fn).contains i=true→fy.tmps[i]?=t[i]?:=hBt.hold
   have htd:RestR C S B b.fn E1 (X1++[stopI]) fy.todo:=hBt.todo
   have htd':fy.todo=X1++k:=by
    generalize hx:X1++[stopI]=x at htd
    generalize hy:fy.todo=y at htd
    cases htd with
    | @code l l' _ hi=>
     have:l=X1:=by have:=List.append_cancel_right hx;exact this.symm
     subst this
     rw [hi.eq_of e1]
    | @ops ops is h=>
     have:X1=[.inRegion ops is]:=by
      have e:[.inRegion ops is,stopI]=[Item.inRegion ops is]++[stopI]:=rfl
      rw [e] at hx
      exact List.append_cancel_right hx
     subst this
     simp [B]
   have hsz:fy.tmps.size=t.size∨True:=.inr trivial
   have key:fy.tmps=t1:=by
    apply Array.ext_getElem?
    intro i
    by_cases hi:(C.hl b.fn).contains i=true
    ·rw [hho i hi]
     by_cases hlt:i<t.size
     ·exact (hh i hi hlt).symm
     ·have hn:fy.tmps[i]?=none:=by rw [hho i hi,Array.getElem?_eq_none (by omega)]
      rw [Array.getElem?_eq_none (by omega)]
      have:fy.tmps.size≤i:=Array.getElem?_eq_none_iff.1 hn
      rw [Array.getElem?_eq_none (by have:=htm.size;omega)]
    ·by_cases hlt:i<t1.size
     ·have h1:t1[i]?=some t1[i]:=Array.getElem?_eq_getElem hlt
      have h2:fy.tmps[i]?=some (fy.tmps[i]'(htm.size▸hlt)):=Array.getElem?_eq_getElem _
      rw [h1,h2,(htm.at_ i _ _ (by simpa using hi) h1 h2).eq e1]
     ·rw [Array.getElem?_eq_none (by have:=htm.size;omega),Array.getElem?_eq_none (by omega)]
   have efy:fy=b.at ⟨fy.tmps,ds⟩ (X1++k):=by
    obtain ⟨f1,f2,f3,f4,f5,f6,f7⟩:=fy
    have a1:=hBt.fn2
    have a2:=hBt.kind2
    have a3:=hBt.dfr
    have a4:=hBt.mode'
    have a5:=hBt.round'
    simp only at a1 a2 a3 a4 a5 htd'
    subst a1 a2 a3 a4 a5 htd'
    rfl
   rw [key] at htm efy
   rw [efy]
   exact kn E' t1 w1 wy hE hB' hw1 (by rw [← s3];exact htm) hq
 ·exact absurd hE2.mode (by intro h;cases h)
theorem Reach.ret (A:AllOk C S) (hst:C.st=false) {Post:(Nat→Prop)→Goroutine→World→Prop} {b:Frame} {X0:List Item} {t:Array Value} {ds:List Deferred} {k:List Item} {cs:List Frame} {Q:Array Value→World→Prop}
  (hX:ItemsR C S b.fn (idE E) X0 X0) (hb:HasBody C b.fn) (hdf:S.df.contains b.fn=false) (hl:C.hl b.fn≠[]) (hk:b.kind≠.early)
  (hB:BOk C S W E w) (ht:TmR C S b.fn (idE E) t t)
  (K:∀ τ,LGo C.P b.fn (StopRet b.fn fun t1 w1=>(∀ i,(C.hl b.fn).contains i=true→i<t.size→t1[i]?=t[i]?)∧Q t1 w1) X0 t (w.tp τ 0))
  (kn:∀ (E':Nat→Prop) (t':Array Value) (w1 w':World) (todo:List Item),(∀ b,E b→E' b)→BOk C S W E' w'→WR C (okP C S) (idE E') w1 w'→TmR C S b.fn (idE E') t' t'→Q t' w1→Reach C.P Post W (G { b.at ⟨t',ds⟩ todo with mode:=.returning } cs) w') :
  Reach C.P Post W (G (b.at ⟨t,ds⟩ (X0++k)) cs) w:=by
 have hsh:∀ b,¬ C.Sh b:=C.lax hst
 let B:Bot:=⟨b.fn,t,k,[],b.kind,ds,cs⟩
 have hg:GR C S (idE E) B (G ((base b.fn).at ⟨t,[stuckD]⟩ (X0++[stopI])) []) (G (b.at ⟨t,ds⟩ (X0++k)) cs):=
  ⟨.bot ⟨rfl,hb,rfl,hk,rfl,rfl,ht,RestR.code (cs:=B) rfl hX,rfl,rfl,rfl,hdf,hl,rfl,rfl,rfl,fun _ _=>rfl⟩,rfl,rfl,rfl,rfl,rfl⟩
 have hR:=runs_of A (main:=true) (cs:=B) (y0:=⟨E,E,G (b.at ⟨t,ds⟩ (X0++k)) cs,w⟩) (Post:=fun _ _=>False) (PostR:=fun t1 w1=>(∀ i,(C.hl b.fn).contains i=true→i<t.size→t1[i]?=t[i]?)∧Q t1 w1) hB.link hg (fun τ=>by
  obtain ⟨n,g,w1,h1,t1,todo,rfl,h2⟩:=K τ
  exact ⟨n,_,w1,h1,rfl,.inr ⟨rfl,h2⟩⟩)
 rw [hst] at hR
 refine Reach.of_runs hR rfl hB.dis hB.dis (fun b hb=>hB.lt hb) ?_
 rintro ⟨own,X,g,wy⟩ ⟨E1,g1,w1,hs,hL,⟨_,_,hf⟩|⟨he,hh,hq⟩⟩ hd hXl
 ·exact hf.elim
 simp only at hL hd hXl he
 let E':Nat→Prop:=fun b=>E1 b b
 have e1:∀ b b',E1 b b'→b=b':=hL.wr.lid hst
 have hE:∀ b,E b→E' b:=fun b hb=>hs b b ⟨rfl,hb⟩
 have s2:rng E1=E':=by
  funext b
  simp only [rng,E',eq_iff_iff]
  exact ⟨fun ⟨a,h⟩=>by obtain rfl:=e1 a b h;exact h,fun h=>⟨b,h⟩⟩
 have s3:E1=idE E':=by
  funext b b'
  simp only [idE,E',eq_iff_iff]
  exact ⟨fun h=>by obtain rfl:=e1 b b' h;exact ⟨rfl,h⟩,fun ⟨h,h'⟩=>by subst h;exact h'⟩
 have hwr:WR C (okP C S) (idE E') wy wy:=by
  have:=hL.wr.right (CxLe.refl C) (ok':=okP C S) hsh hst (fun _=>⟨rfl,rfl⟩)
  rwa [s2] at this
 have hB':BOk C S W E' wy:=⟨hwr,hE _ hB.hnd,fun g hg=>hE _ (hB.gl g hg),fun b hb he=>hd b hb (hL.rng b b he).1⟩
 have hw1:WR C (okP C S) (idE E') w1 wy:=by rw [← s3];exact hL.wr
 obtain ⟨fy,csy,sty,dy,oy⟩:=g
 obtain ⟨z1,z2,z3,z4,z5,z6,z7,z8,z9,z10,z11,z12,z13,z14,z15,z16,z17⟩:=he
 simp only at z2 z3 z5 z6 z9 z11 z12 z13 z14 z15 z16
 subst z2 z9 z11 z12
 have htm:TmR C S b.fn E1 g1.frame.tmps fy.tmps:=by rwa [← z3,z16] at z6
 have hho:∀ i,(C.hl b.fn).contains i=true→fy.tmps[i]?=t[i]?:=by
  have:=z17
  rwa [← z3,z16] at this
 generalize g1.frame.tmps=t1 at htm hh hq
 have key:fy.tmps=t1:=by
  apply Array.ext_getElem?
  intro i
  by_cases hi:(C.hl b.fn).contains i=true
  ·rw [hho i hi]
   by_cases hlt:i<t.size
   ·exact (hh i hi hlt).symm
   ·have hn:fy.tmps[i]?=none:=by rw [hho i hi,Array.getElem?_eq_none (by omega)]
    rw [Array.getElem?_eq_none (by omega)]
    have:fy.tmps.size≤i:=Array.getElem?_eq_none_iff.1 hn
    rw [Array.getElem?_eq_none (by have:=htm.size;omega)]
  ·by_cases hlt:i<t1.size
   ·have h1:t1[i]?=some t1[i]:=Array.getElem?_eq_getElem hlt
    have h2:fy.tmps[i]?=some (fy.tmps[i]'(htm.size▸hlt)):=Array.getElem?_eq_getElem _
    rw [h1,h2,(htm.at_ i _ _ (by simpa using hi) h1 h2).eq e1]
   ·rw [Array.getElem?_eq_none (by have:=htm.size;omega),Array.getElem?_eq_none (by omega)]
 obtain ⟨f1,f2,f3,f4,f5,f6,f7⟩:=fy
 simp only at z3 z5 z13 z14 z15 z16 key htm
 subst z5 z13 z14 z15 z16 key
 exact kn E' _ w1 wy _ hE hB' hw1 (by rw [← s3];exact htm) hq
end
end Go.Sim
