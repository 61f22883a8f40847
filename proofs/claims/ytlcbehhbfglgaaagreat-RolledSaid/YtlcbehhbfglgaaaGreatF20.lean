/- PROVED HERE: laws. Conditions: none. -/
import Derived.Test.YtlcbehhbfglgaaaGreatF19
set_option linter.all false
set_option maxHeartbeats 1000000
namespace Go.Sim.Z
open Go Go.Proofs Go.Conc Go.ConcN Go.RowKit Go.Conc.Lib Go.ConcR.Gen Go.ConcN.Gen
open Go.ConcR (KK wgBlock WgAt stA smA rd wr mk Payload DC0)
theorem J62.of_heap {F:Nat->Prop} {w0 w1:World} {k p m c:Nat} {R:Nat->(Nat->Prop)->Option Nat->World->Prop} (h:J62 F w0 k p m c R) (hh:∀ b,F b->w1.heap[b]?=w0.heap[b]?):J62 F w1 k p m c R:=by refine ⟨fun b hb=>?_,h.hnd,h.kF,h.pF,h.mF,h.cF,fun i s Wg C w hi hs hw hc=>h.run i s Wg C w hi hs (fun b hb=>(hw b hb).trans (hh b hb)) hc⟩;obtain ⟨h1,o,h2,h3⟩:=h.sh b hb;exact ⟨h1,o,(hh b hb).trans h2,h3⟩
section
variable {AJ:Nat->Frame->Goroutine->World->Prop} {W E F:Nat->Prop} {R R2:Nat->(Nat->Prop)->Option Nat->World->Prop} {C k p m c:Nat} {wb:World} {T:Array Value} {kk:List Item} {cs:List Frame}
def Jxq (W E:Nat->Prop) (C k p m c:Nat) (T0:Array Value) (wb:World) (R2:Nat->(Nat->Prop)->Option Nat->World->Prop) (kk:List Item) (cs:List Frame) (W':Nat->Prop) (g':Goroutine) (w':World):Prop:=
 ∃ Wg T' E2,W'=(fun b=>W b\/b=Wg)/\RT Wg C k p m c T0 T'/\g'=G ((base 40).at ⟨T',[]⟩ (.inRegion q10 []::.code J39::kk)) cs/\Jpl W' E C wb R2 E2 w'
theorem Jke (hS:∀ Wg,J7b Wg cs (AJ Wg)) (hRd:∀ Wg,Jj2 Wg cs (AJ Wg)) (hB:BOk C0 S0 W E wb) (hsz:T.size=49) (h3:T[3]?=some (ptr c)) (h4:T[4]?=some (ptr m)) (h5:T[5]?=some (ptr p)) (h7:T[7]?=some (ptr k)) (h8:T[8]?=some (ptr C))
  (hC:E C) (pay:PayAt C 4 wb) (hFE:∀ b,F b->E b/\b≠C) (KW:J62 F wb k p m c R)
  (hR:∀ w' i Sh E2 w2 r r',i<4->(∀ b,F b->Sh b)->Sub (idE Sh) E2->WR (C1 Sh) (okP (C1 Sh) S1) E2 w2 w'->VR (C1 Sh) E2 (.map r) (.map r')->R i Sh r w2->R2 i (fun b'=>∃ b,E2 b b'/\¬ Sh b) r' w') :
  Reach Tryz.prog (Jxq W E C k p m c T wb R2 kk cs) W
   (G ((base 40).at ⟨T,[]⟩ (.inRegion q3 [0]::.code (.seq (.seq (.region 4 q4 false) (.block 0 (.loop LL))) (.seq (.region 10 q10 false) J39))::kk)) cs) wb:=by
 intro gs sl t q W0 hSy hWl h0 hCm;have hW0:∀ b,W0 b->W b:=fun b hb=>(hSy b hb).1;have hst:∀ d,stepG Tryz.prog true (G ((base 40).at ⟨T,[]⟩ (.inRegion q3 [0]::.code (.seq (.seq (.region 4 q4 false) (.block 0 (.loop LL))) (.seq (.region 10 q10 false) J39))::kk)) cs) (wb.at d) =
   .go (G ((base 40).at ⟨T.setIfInBounds 9 (ptr wb.heap.size),[]⟩ (.inRegion q3 []::.code (.seq (.seq (.region 4 q4 false) (.block 0 (.loop LL))) (.seq (.region 10 q10 false) J39))::kk)) cs) ((fun w=>{ w with heap:=w.heap.push (wgBlock 146 0 0) }) (wb.at d)) #[]:=fun d=>
  Jfh (o:=q3[0]) rfl rfl (by simp [base]) rfl
 obtain ⟨N1,gs1,d,sl1,t1,q1,hr1,hs1,ha1,hC1,hlow⟩:=Jab (P:=Tryz.prog) (W:=W0) (f:=fun w=>{ w with heap:=w.heap.push (wgBlock 146 0 0) }) rfl hst (fun d=>by show wb.heap.size<=(wb.heap.push _).size;simp) (sl:=sl) h0 hCm (atRel_refl wb);generalize hWg:wb.heap.size=Wg at *;have hlt:∀ b,E b->b<Wg:=fun b hb=>hWg▸hB.lt hb;have hne:C≠Wg:=by have:=hlt C hC;omega
 let w0:World:={ (wb.at d) with heap:=(wb.at d).heap.push (wgBlock 146 0 0) }
 have hw0:w0.heap=wb.heap.push (wgBlock 146 0 0):=rfl;have hW0':∀ b,b<Wg->w0.heap[b]?=wb.heap[b]?:=fun b hb=>by rw [hw0,Array.getElem?_push_lt (hWg▸hb),Ja4 (hWg▸hb)]
 have KW':J62 F w0 k p m c R:=KW.of_heap fun b hb=>hW0' b (hlt b (hFE b hb).1);have hgs0:0<gs1.size:=(Ja3.1 ha1).1
 let H:=HR (AJ Wg) W0 (fun b=>E b\/(W b/\¬ W0 b)) F R Wg C k p m c T (gs1.size-1) w0 t1 q1 kk cs
 have hT:RT Wg C k p m c T (T.setIfInBounds 9 (ptr Wg)):=by have ne:∀ i,i≠9->(T.setIfInBounds 9 (ptr Wg))[i]?=T[i]?:=fun i hi=>Ja1 (by omega);exact ⟨by simpa using hsz,(ne 3 (by omega)).trans h3,(ne 4 (by omega)).trans h4,(ne 5 (by omega)).trans h5,(ne 7 (by omega)).trans h7,(ne 8 (by omega)).trans h8,by simp [hsz],fun i _ h2 _=>ne i h2⟩
 have hwl:WgLive 146 Wg w0:=⟨0,0,by show w0.heap[Wg]?=_;rw [hw0,<- hWg];simp⟩;have hjs:JSp H 4 (G ((base 40).at ⟨T.setIfInBounds 9 (ptr Wg),[]⟩ (.inRegion q3 []::.code (.seq (.seq (.region 4 q4 false) (.block 0 (.loop LL))) (.seq (.region 10 q10 false) J39))::kk)) cs) w0:=by
  obtain ⟨n,hn⟩:=J03l (T0:=T) (W:=W0) (E:=fun b=>E b\/(W b/\¬ W0 b)) (w0:=w0) (mm:=gs1.size-1) (t0:=t1) (q0:=q1) (kk:=kk) (hS Wg) hne (fun b hb=>⟨.inl (hFE b hb).1,(hFE b hb).2⟩) (fun b hb=>hlt b (hFE b hb).1) KW' 4 (by omega);generalize T.setIfInBounds 9 (ptr Wg)=T1 at hT ⊢;have hsz1:=hT.size;refine Jpk (n:=n+8) ?_;have hW:=hwl;show Goes Tryz.prog true (RM 146 Wg) DC0 (StopJ H 4) (n+8) _ w0;generalize w0=w at hW ⊢;refine J05 rfl (fun w1=>stepG_region_end) fun w1 r1=>?_;replace hW:=r1 hW;refine J05 rfl (fun w1=>stepG_seq) fun w1 r1=>?_;replace hW:=r1 hW;refine J05 rfl (fun w1=>stepG_seq) fun w1 r1=>?_;replace hW:=r1 hW;refine J05 rfl (fun w1=>stepG_region) fun w1 r1=>?_;replace hW:=r1 hW;rw [show List.range q4.size=[0] from rfl];refine J05 (g':=G ((base 40).at ⟨T1.setIfInBounds 18 (.int .i64 0),[]⟩ (.inRegion q4 []::.code (.block 0 (.loop LL))::.code (.seq (.region 10 q10 false) J39)::kk)) cs) rfl (fun w1=>?_) fun w1 r1=>?_
  ·exact J0d (o:=q4[0]) (v:=.int .i64 0) rfl rfl (by simp [base]) (by simp [execOp,q4,Act.eval,go_sem]) (by simp [execOp,q4,Act.eval,go_sem])
  replace hW:=r1 hW;refine J05 rfl (fun w1=>stepG_region_end) fun w1 r1=>?_;replace hW:=r1 hW;refine J05 rfl (fun w1=>stepG_block) fun w1 r1=>?_;replace hW:=r1 hW;refine J05 rfl (fun w1=>stepG_loop) fun w1 r1=>?_;replace hW:=r1 hW;exact hn _ _ (hT.set (.inr (by omega)) _) (by simp [hsz1]) hW
 have hAn:∀ g w,H.Anch g w->∃ m,Goes H.P true (RM H.ty H.Wg) DC0 (JW1 H.P H.ty H.Wg H.Fin H.Anch) m g w:=by rintro g w ⟨T2,f,⟨hT2,rfl⟩,hA⟩;obtain ⟨n,hn⟩:=(hRd Wg).round H.Fin ⟨T2,[]⟩ (.code J39::kk) (fun w _=>Goes.stop fun w1 _=>⟨_,hT2.set (j:=24) (.inr (by omega)) (.tuple #[]),rfl⟩) g w hA;exact ⟨n,J1l (fun _ _=>JW1.mono (fun _ _ h=>h) fun g w h=>⟨T2,_,⟨hT2,rfl⟩,h⟩) hn⟩
 have hp0:PayAt C 4 w0:=by obtain ⟨cells,h1,h2⟩:=pay;exact ⟨cells,(hW0' C (hlt C hC)).trans h1,h2⟩
 have hsz0:w0.heap.size=Wg+1:=by rw [hw0];simp [hWg]
 obtain ⟨N2,gs2,w2,sl2,t2,q2,D,a2,hr2,ha2,hF,hC2,hE⟩:=Jpf (H:=H) (q:=q1) (gs:=gs1) (sl:=sl1) (fun i own X v w w' h r=>QW.rely h r) (fun g w ⟨T,f,_,hA⟩=>(hRd Wg).run f g w hA) (fun g w ⟨T,_,hg⟩=>by rw [hg];rfl) (by show (4:Nat)<_;omega) hAn hC1 hlow
  (by show gs1.size=gs1.size-1+1;omega) ha1 hjs (by show 0<(4:Nat);omega) (by show w0.heap[Wg]?=_;rw [hw0,<- hWg];simp;rfl) hp0 (by show Wg<w0.heap.size;omega) (by show C<w0.heap.size;have:=hlt C hC;omega) hne (fun h=>hB.dis C (hW0 C h) hC) (fun h=>by have:=hCm.low Wg h;omega)
  (fun b ⟨hb,hbC⟩=>hb.elim (fun hb=>⟨by show b<w0.heap.size;have:=hlt b hb;omega,by have:=hlt b hb;show b≠Wg;omega,hbC,fun h=>hB.dis b (hW0 b h) hb⟩) fun hb=>⟨by show b<w0.heap.size;have:=hWl b hb.1;omega,by have:=hWl b hb.1;show b≠Wg;omega,hbC,hb.2⟩)
 obtain ⟨T2,hT2,rfl⟩:=hF;obtain ⟨E2,hpost⟩:=Jmo (R2:=R2) hW0 (fun b hb=>by rw [hWg];exact hWl b hb) (fun b hb=>(hFE b hb).1) hB hw0 rfl hWg.symm hC hne hE (hR w2);have keep:∀ b,W b->w2.heap[b]?=wb.heap[b]?:=fun b hb=>by
  have e:w2.heap[b]?=w0.heap[b]?:=by
   by_cases hb0:W0 b
   ·exact hE.jw.keep b (.inr hb0)
   ·exact hE.jw.keep b (.inl ⟨.inr ⟨hb,hb0⟩,fun e=>hB.dis C (e▸hb) hC⟩)
  exact e.trans (hW0' b (hWl b hb))
 obtain ⟨st,sm,hwg⟩:=hE.wg;refine ⟨N1+N2,gs2,w2,sl2,t2,q2,_,_,_,J55 hr1 hr2,ha2,hC2,⟨Wg,T2,E2,rfl,hT2,rfl,hpost⟩,⟨fun _ h=>.inl h,keep,hE.jw.os,hE.jw.out⟩,fun b hb=>?_,fun b hb=>?_⟩
 ·rcases hb with hb|rfl
  ·obtain ⟨h1,a,z,h2⟩:=hSy b hb;exact ⟨.inl h1,a,z,(keep b h1).trans h2⟩
  ·exact ⟨.inr rfl,_,_,hwg⟩
 ·rcases hb with hb|rfl
  ·by_cases hb0:W0 b
   ·exact hE.jw.wl b hb0
   ·exact (hE.jw.sh0 b ⟨.inr ⟨hb,hb0⟩,fun e=>hB.dis C (e▸hb) hC⟩).1
  ·exact hE.jw.wg
end
end Go.Sim.Z
namespace Go.Sim.Z
open Go Go.Proofs Go.RowKit
open Go.WideElems (Fit rd rg)
def Shd (F:Nat->Prop) (w:World) (b:Nat):Prop:=∃ o,w.heap[b]?=some o/\∀ X Sh:Nat->Prop,(∀ b,F b->X b)->Jml (C1 Sh) (idE X) o
section
variable {C:Cx} {E:J5} {w w':World} {F:Nat->Prop} {b x:Nat} {arr:Array Value} {t:TypeId} {k:IntKind} {xs:List Int} {cap:Nat}
theorem _root_.Go.Sim.AR.J6r (h:∀ v∈arr.toList,VR C E v v):AR C E arr arr:=⟨rfl,fun i x x' h1 h2=>by rw [h1] at h2;cases h2;exact h x (Array.mem_toList_iff.2 (Jc5 h1))⟩
theorem _root_.Go.Sim.AR.Jmp (h:Plain arr):AR C E arr arr:=.J6r fun v hv=>by obtain ⟨k,n,rfl⟩:=h v hv;exact .int k n
theorem Shd.of_cells (h:Blk false w b arr t) (hv:∀ X Sh:Nat->Prop,(∀ b,F b->X b)->∀ v∈arr.toList,VR (C1 Sh) (idE X) v v):Shd F w b:=by obtain ⟨z,h1,h2⟩:=h;cases h2 rfl;exact ⟨_,h1,fun X Sh hX=>⟨rfl,.J6r (hv X Sh hX)⟩⟩
theorem Shd.plain (h:Blk false w b arr t) (hp:Plain arr):Shd F w b:=.of_cells h fun X Sh _ v hv=>by obtain ⟨k,n,rfl⟩:=hp v hv;exact .int k n
theorem Shd.row (h:Row false w b t k xs cap):Shd F w b:=by obtain ⟨cur,h1,_,_,_,h5⟩:=h;exact .plain h1 h5
theorem Shd.bun {c:J8} {p:BP} {B:Bun} (h:Jz false w c p B) (hF:∀ x∈p.pl,F x) (hba:∀ a,c.ba=some a->F a.block):∀ x∈p.pl,Shd F w x:=fun x hx=>by
 have m {x:Nat} (h:x=p.b\/x=p.rb\/x=p.rr\/x=p.hb\/x=p.hr\/x=p.lb\/lpl p.lr x):=hF x (BP.mem.2 h);rcases BP.mem.1 hx with rfl|rfl|rfl|rfl|rfl|rfl|hx
 ·refine .of_cells h.hd fun X Sh hX v hv=>?_;simp only [Jb8,Jc2,or_false] at hv;rcases hv with rfl|rfl|rfl|rfl
  ·exact .int _ _
  ·exact .iface _ (by kernel_rfl) (.ptr _ _ ⟨rfl,hX _ (m (.inr (.inl rfl)))⟩)
  ·exact .iface _ (by kernel_rfl) (.ptr _ _ ⟨rfl,hX _ (m (.inr (.inr (.inr (.inl rfl)))))⟩)
  ·exact .iface _ (by kernel_rfl) (.ptr _ _ ⟨rfl,hX _ (m (.inr (.inr (.inr (.inr (.inr (.inl rfl)))))))⟩)
 ·refine .of_cells h.reg.hd fun X Sh hX v hv=>?_;simp only [Jb8,Jc2,or_false] at hv;rcases hv with rfl|rfl
  ·exact .int _ _
  ·exact .slice _ _ _ _ ⟨rfl,hX _ (m (.inr (.inr (.inl rfl))))⟩
 ·exact .row h.reg.row
 ·refine .of_cells h.hist.hd fun X Sh hX v hv=>?_;simp only [Jb8,Jc2,or_false] at hv;rcases hv with rfl|rfl
  ·cases hc:c.ba with
   | none=>exact .Jo _ _
   | some a=>exact .slice _ _ _ _ ⟨rfl,hX _ (hba a hc)⟩
  ·exact .slice _ _ _ _ ⟨rfl,hX _ (m (.inr (.inr (.inr (.inr (.inl rfl))))))⟩
 ·exact .row h.hist.row
 ·refine .of_cells h.least.hd fun X Sh hX v hv=>?_;simp only [Jb8,Jc2,or_false] at hv;rcases hv with rfl|rfl
  ·exact .int _ _
  ·unfold lval;cases hc:p.lr with
   | none=>exact .Jo _ _
   | some q=>obtain ⟨r,cc⟩:=q;exact .slice _ _ _ _ ⟨rfl,hX _ (m (.inr (.inr (.inr (.inr (.inr (.inr ⟨cc,hc⟩)))))))⟩
 ·obtain ⟨cc,hc⟩:=hx;have:=h.least.row;unfold J6x at this;rw [hc] at this;exact .row this.1
theorem J09.obj {L:List (List Int × Value)} (h:J09 w x L):∃ es clock,w.heap[x]?=some (.map es clock)/\∀ z∈es.toList,∃ p∈L,z.key=.agg (ai .i64 p.1)/\z.val=p.2:=by
 obtain ⟨L',h1,n,es,clock,h2,h3,h4,h5⟩:=h.own;refine ⟨es,clock,h2,fun z hm=>?_⟩;obtain ⟨q,hq⟩:=h3.reads z hm;have hmem:q∈(es.toList.map (rg Tryz.prog 76 Rv)).foldr DataW.insert []:=(J1v _).mem_iff.2 (Jb3.2 ⟨z,hm,by simp [rg,hq]⟩);have h5':=DataW.map.inj h5;rw [<- h5'] at hmem;obtain ⟨p,hp',rfl⟩:=Jb3.1 hmem;have hpL:=h1.mem_iff.1 hp';unfold rd at hq;simp only [Jc6,Jc0] at hq;obtain ⟨l,hl,d,hd,e⟩:=hq;have e1:l=klit p.1:=congrArg Prod.fst e;have e2:d.1=.held p.2:=congrArg Prod.snd e;refine ⟨p,hpL,?_,?_⟩
 ·rw [e1] at hl;exact Jgv.inj hl (J4q (h.keys p hpL))
 ·simp only [Rv,Jb2] at hd;rw [<- hd] at e2;exact DataW.held.inj e2
theorem Shd.tab {c:J8} {T:List TR} (h:TabAt false w c x T) (hF:∀ z,z=x\/z∈tpl T->F z) (hba:∀ a,c.ba=some a->F a.block):∀ z,z=x\/z∈tpl T->Shd F w z:=fun z hz=>by
 rcases hz with rfl|hz
 ·obtain ⟨es,clock,h1,h2⟩:=h.map.obj;refine ⟨_,h1,fun X Sh hX=>⟨rfl,fun i y y' hy hy'=>?_⟩⟩;rw [hy] at hy';cases hy';obtain ⟨p,hp,e1,e2⟩:=h2 y (Array.mem_toList_iff.2 (Jc5 hy));obtain ⟨t,ht,rfl⟩:=Jb3.1 hp;refine ⟨?_,?_,rfl⟩
  ·rw [e1];exact .J32 (AR.Jmp .ai)
  ·rw [e2];exact .ptr _ _ ⟨rfl,hX _ (hF _ (.inr (Jm.2 ⟨t,ht,BP.mem.2 (.inl rfl)⟩)))⟩
 ·obtain ⟨t,ht,hz⟩:=Jm.1 hz;exact Shd.bun (h.bun t ht) (fun y hy=>hF y (.inr (Jm.2 ⟨t,ht,hy⟩))) hba z hz
theorem Blk.frz {Sh:Nat->Prop} (h:Blk false w b arr t):Blk true (frz Sh w) b arr t:=by
 obtain ⟨z,h1,h2⟩:=h;by_cases hs:Sh b
 ·exact ⟨(0,arr.size),by rw [Jdd hs,h1];rfl,fun e=>by cases e⟩
 ·exact ⟨z,by rw [Jff hs,h1],fun e=>by cases e⟩
theorem Row.frz {Sh:Nat->Prop} (h:Row false w b t k xs cap):Row true (frz Sh w) b t k xs cap:=by obtain ⟨cur,h1,h2⟩:=h;exact ⟨cur,h1.frz,h2⟩
theorem Jz.frz {Sh:Nat->Prop} {c:J8} {p:BP} {B:Bun} (h:Jz false w c p B):Jz true (frz Sh w) c p B:=by
 refine ⟨h.hd.frz,⟨h.reg.hd.frz,h.reg.row.frz⟩,⟨h.hist.hd.frz,h.hist.row.frz⟩,⟨h.least.hd.frz,?_⟩,h.nd⟩;have:=h.least.row;unfold J6x at this ⊢;cases hc:p.lr with
 | none=>rw [hc] at this;exact this
 | some q=>rw [hc] at this;exact ⟨this.1.frz,this.2⟩
theorem J09.frz {Sh:Nat->Prop} {L:List (List Int × Value)} (h:J09 w x L):J09 (frz Sh w) x L:=by obtain ⟨L',h1,n,es,clock,h2,h3⟩:=h.own;exact ⟨h.keys,h.nodup,L',h1,n,es,clock,Jvu h2,h3⟩
theorem TabAt.frz {Sh:Nat->Prop} {c:J8} {T:List TR} (h:TabAt false w c x T):TabAt true (frz Sh w) c x T:=
 ⟨h.map.frz,fun t ht=>(h.bun t ht).frz,h.ok,h.out,h.dis⟩
end
def Jpm (F:Nat->Prop) (w:World) (fb:Nat) (pass:List Int->Bool):Prop:=
 ∀ w',(∀ a v,F a.block->w.cell? a=some v->w'.cell? a=some v)->∀ x,J0t x->Calls Tryz.prog 42 #[.agg (ai .i64 x),.pointer (some ⟨fb,0,none⟩)] w' fun e w2=>e=.returned (.bool (pass x))/\Tch w'.heap.size M0 w' w2
structure RF (F:Nat->Prop) (w:World) (c:J8) (k p m cb:Nat) (ka:Option Addr) (kc:Nat) (ks:List Je) (fb mk src:Nat) (S:List TR) (pass:List Int->Bool):Prop where
 ck:w.cell? ⟨k,0,none⟩=some (.slice ka ks.length kc)
 cp:w.cell? ⟨p,0,none⟩=some (.func (.func 42) #[] #[.pointer (some ⟨fb,0,none⟩)])
 cm:w.cell? ⟨m,0,none⟩=some (.int .i64 mk)
 cc:w.cell? ⟨cb,0,none⟩=some (.map (some src))
 keys:KAt false w ka kc ks
 tab:TabAt false w c src S
 pass:Jpm F w fb pass
 kF:F k
 pF:F p
 mF:F m
 cF:F cb
 hF:F Tryz.prog.globals.size
 rF:∀ a,ka=some a->F a.block
 tF:∀ x,x=src\/x∈tpl S->F x
 bF:∀ a,c.ba=some a->F a.block
 sh:∀ b,F b->Tryz.prog.globals.size<=b/\Shd F w b
 cfg:Jw c
 kn:ks.length<=1000
 ex:∀ x∈ks,∃ B,tm S x.1=some B
def RW (c:J8) (S:List TR) (mk:Nat) (pass:List Int->Bool) (ks:List Je) (i:Nat) (Sh:Nat->Prop) (r:Option Nat) (w:World):Prop:=
 ∃ m T,r=some m/\TabAt false w c m T/\Sum c (tm T) (ents S mk pass (J03 i ks.length ks))/\(∀ x,x=m\/x∈tpl T->¬ Sh x)/\T.length<=ks.length+4/\∀ a,c.ba=some a->Sh a.block
def RC (c:J8) (S:List TR) (mk:Nat) (pass:List Int->Bool) (ks:List Je) (i:Nat) (O:Nat->Prop) (r:Option Nat) (w:World):Prop:=
 ∃ m T,r=some m/\TabAt false w c m T/\Sum c (tm T) (ents S mk pass (J03 i ks.length ks))/\(∀ x,x=m\/x∈tpl T->O x)/\T.length<=ks.length+4
theorem RC.J03n {c:J8} {S:List TR} {mk:Nat} {pass:List Int->Bool} {ks:List Je} {i:Nat} {Sh:Nat->Prop} {E2:J5} {w2 w':World} {r r':Option Nat} (hs:Sub (idE Sh) E2) (hW:WR (C1 Sh) (okP (C1 Sh) S1) E2 w2 w') (hv:VR (C1 Sh) E2 (.map r) (.map r')) (h:RW c S mk pass ks i Sh r w2) :
  RC c S mk pass ks i (fun b'=>∃ b,E2 b b'/\¬ Sh b) r' w':=by
 obtain ⟨m,T,rfl,h1,h2,h3,h4,h5⟩:=h;cases hv with
 | @map _ m' he=>
  obtain ⟨k1,k2⟩:=h1.ren hW (.inl rfl) (fun a ha=>hs _ _ ⟨rfl,h5 a ha⟩) he;refine ⟨m',_,rfl,k2,by rw [J03j];exact h2,fun x hx=>?_,by simpa using h4⟩;rcases hx with rfl|hx
  ·exact ⟨m,he,h3 m (.inl rfl)⟩
  ·obtain ⟨y,hy,rfl⟩:=Jxd.1 hx;exact ⟨y,k1 y hy,h3 y (.inr hy)⟩
section
variable {F:Nat->Prop} {w0 w:World} {c:J8} {k p m cb:Nat} {ka:Option Addr} {kc:Nat} {ks:List Je} {fb mk src:Nat} {S:List TR} {pass:List Int->Bool}
theorem RF.wf (h:RF F w0 c k p m cb ka kc ks fb mk src S pass) {i s:Nat} {Sh:Nat->Prop} (hw:∀ b,F b->w.heap[b]?=w0.heap[b]?) (hs:w.heap[s]?=some (.cells #[.int .i64 i] 3)) :
  WF (frz Sh w) c s k p m cb i ka kc ks fb mk src S pass:=by
 have cell:∀ {a:Addr} {v:Value},F a.block->w0.cell? a=some v->(frz Sh w).cell? a=some v:=fun {a v} hf hv=>by rw [Jiw,Jb4 (hw _ hf)];exact hv
 refine ⟨cell h.kF h.ck,cell h.pF h.cp,cell h.mF h.cm,cell h.cF h.cc,by rw [Jiw];simp [World.cell?,hs],?_,(h.tab.kept fun x hx=>hw x (h.tF x hx)).frz,fun x hx w' q=>h.pass w' (fun a v hf hv=>q.cell (cell hf hv)) x hx⟩;rcases h.keys with ⟨e1,e2⟩|⟨g,cur,e,h2,h3⟩
 ·exact .inl ⟨e1,e2⟩
 ·exact .inr ⟨g,cur,e,(h2.kept (hw g (h.rF _ e))).frz,h3⟩
theorem Jpn {i j:Nat} (h:ks.length<=i+4*j):J03 i j ks=J03 i ks.length ks:=by have e1:=J8l h ks.length;have e2:=J8l (i:=i) (ks:=ks) (j:=ks.length) (by omega) j;rw [<- e1,<- e2,Nat.add_comm]
theorem Jxr (wg s k p m c parts:Nat):T63 wg s k p m c parts=#[ptr wg,ptr s,ptr k,ptr p,ptr m,ptr c,ptr parts,undef,undef,undef,undef,undef,undef,undef,undef,undef,undef,undef,undef,undef,undef,undef,undef,undef,undef,undef,undef,undef,undef,undef,undef,undef,undef,undef,undef,undef,undef,undef,undef,undef]:=by
 unfold T63 J0h;rw [show Array.replicate 33 undef=#[undef,undef,undef,undef,undef,undef,undef,undef,undef,undef,undef,undef,undef,undef,undef,undef,undef,undef,undef,undef,undef,undef,undef,undef,undef,undef,undef,undef,undef,undef,undef,undef,undef] from by kernel_rfl];simp only [List.append_toArray,Jc7,Jc8]
set_option maxRecDepth 100000 in
theorem RF.work (h:RF F w0 c k p m cb ka kc ks fb mk src S pass):J62 F w0 k p m cb (RW c S mk pass ks):=by
 refine ⟨fun b hb=>h.sh b hb,h.hF,h.kF,h.pF,h.mF,h.cF,fun i s Wg C w hi hs hw hc=>?_⟩;have hFl:∀ b,F b->b<w.heap.size:=fun b hb=>by obtain ⟨_,o,ho,_⟩:=h.sh b hb;exact Ji ((hw b hb).trans ho)
 have hsl:s<w.heap.size:=Ji hc;have hWF:=h.wf (i:=i) (s:=s) (Sh:=fun b=>F b\/b=s) hw hc;generalize hw1:frz (fun b=>F b\/b=s) w=wz at hWF;have hzs:wz.heap.size=w.heap.size:=by rw [<- hw1,Jcf]
 refine ⟨fun t1 w1=>w1.heap=wz.heap.push (.map #[] 0)/\t1=#[ptr Wg,ptr s,ptr k,ptr p,ptr m,ptr cb,ptr C,.map (some wz.heap.size),undef,.map (some wz.heap.size),undef,undef,undef,undef,undef,undef,undef,undef,undef,undef,undef,undef,undef,undef,undef,undef,undef,undef,undef,undef,undef,undef,undef,undef,undef,undef,undef,undef,undef,undef],fun τ=>?_,?_⟩
 ·rw [Jxr];simp only [c1,b63,J8x,J3l,Tryz.f63,Ja6];have hmm:∀ w,(Instr.makeMap 70 none).run Tryz.prog w=.ok (.map (some w.heap.size)) (w.alloc (.map #[] 0)):=fun _=>rfl;go_wp2;exact ⟨rfl,hzs⟩
 ·rintro t1 w1 ⟨e1,rfl⟩ τ;have hk:Keeps wz (w1.tp τ 0):=⟨by show _<=w1.heap.size;rw [e1];simp,fun b hb=>by show w1.heap[b]?=_;rw [e1,Array.getElem?_push_lt hb,Ja4 hb]⟩;have hm:J09 (w1.tp τ 0) wz.heap.size []:=(J09.made wz).kept (by show w1.heap[_]?=_;rw [e1];rfl);have hL:WL wz c wz.heap.size i ks mk S pass 0 (w1.tp τ 0):=by
   refine ⟨[],⟨hm,fun t ht=>by simp at ht,fun t ht=>by simp at ht,by simp [tpl],.nil⟩,?_,by simp,fun x hx=>?_,hk⟩
   ·exact .nil c
   ·rcases hx with rfl|hx
    ·exact Ja2 _
    ·simp [tpl] at hx
  refine wp_mono (Jot hWF h.ex h.kn hi h.cfg hL Wg C Jp) fun e a w2 hq=>?_;cases e with
  | normal=>
   obtain ⟨q1,q2,q3,r,q4,j,q5,q6,r0,rfl,T,t1,t2,t3,t4,t5⟩:=hq;refine ⟨rfl,q1,q2,q3,_,q4,r0,T,rfl,t1,?_,fun x hx hs'=>?_,by omega,fun a ha=>.inl (h.bF a ha)⟩
   ·rw [<- Jpn q5];exact t2
   ·have:=t4 x hx;rcases hs' with hs'|rfl
    ·have:=hFl x hs';omega
    ·omega
  | _=>exact hq.elim
end
end Go.Sim.Z
namespace Go.Sim
open Go Go.Conc
def LGo (P:Program) (fn:FuncId) (Stop:Goroutine->World->Prop) (X:List Item) (t:Array Value) (w:World):Prop:=
 ∃ n g w',runN P n (solo (G ((base fn).at ⟨t,[Jp]⟩ (X++[Jt])) []) w)=.next (solo g w')/\Stop g w'
def Jad (fn:FuncId) (X:List Item) (Q:Array Value->World->Prop) (g:Goroutine) (w:World):Prop:=
 ∃ t,g=G ((base fn).at ⟨t,[Jp]⟩ (X++[Jt])) []/\Q t w
def Jlb (fn:FuncId) (Q:Array Value->World->Prop) (g:Goroutine) (w:World):Prop:=
 ∃ t todo,g=G { (base fn).at ⟨t,[Jp]⟩ todo with mode:=.returning } []/\Q t w
section
variable {P:Program} {fn:FuncId} {Stop:Goroutine->World->Prop} {X:List Item} {t:Array Value} {w:World}
theorem LGo.at {Q:Array Value->World->Prop} (h:Q t w):LGo P fn (Jad fn X Q) X t w:=⟨0,_,w,rfl,t,rfl,h⟩
theorem LGo.steps {X':List Item} {t':Array Value} {w':World} (h:Steps P (lone ((base fn).at ⟨t,[Jp]⟩ (X++[Jt])) [] w) (lone ((base fn).at ⟨t',[Jp]⟩ (X'++[Jt])) [] w')) (k:LGo P fn Stop X' t' w'):LGo P fn Stop X t w:=by
 obtain ⟨n,hn⟩:=h;obtain ⟨m,g,w2,hm,hs⟩:=k;refine ⟨n+m,g,w2,?_,hs⟩;rw [runN_add];show (match runN P n (lone _ _ _) with | .next m'=>runN P m m'|e=>e)=_;rw [hn];exact hm
theorem Jlc {ops:Array Oper} {Q:Exit->Act->World->Prop} (hQ:∀ e a w,Q e a w->e=.normal):∀ (l:List Nat) (a:Act) (w:World),wpOps P ops Q l a w->∀ (b:Frame) (rest:List Nat) (k:List Item) (cs:List Frame),
  ∃ a' w',Q .normal a' w'/\Steps P (lone (b.at a (.inRegion ops (l++rest)::k)) cs w) (lone (b.at a' (.inRegion ops rest::k)) cs w'):=by
 intro l
 induction l with
 | nil=>exact fun a w h b rest k cs=>⟨a,w,h,.refl _ _⟩
 | cons i l ih=>
  intro a w h b rest k cs;have go:∀ (a1:Act) (w1:World),wpOps P ops Q l a1 w1->Steps P (lone (b.at a (.inRegion ops (i::(l++rest))::k)) cs w) (lone (b.at a1 (.inRegion ops (l++rest)::k)) cs w1) ->
    ∃ a' w',Q .normal a' w'/\Steps P (lone (b.at a (.inRegion ops (i::(l++rest))::k)) cs w) (lone (b.at a' (.inRegion ops rest::k)) cs w'):=fun a1 w1 h1 hs=>by
   obtain ⟨a',w',q,r⟩:=ih a1 w1 h1 b rest k cs;exact ⟨a',w',q,hs.trans r⟩
  simp only [wpOps] at h;rw [Jc7];cases ho:ops[i]? with
  | none=>
   simp only [ho] at h;have hs:=step_op_skip (P:=P) (b:=b) (a:=a) (k:=k) (cs:=cs) (w:=w) (ops:=ops) (i:=i) (rest:=l++rest) (by simp [ho]);simp only [ho,Option.bind_none,Act.put] at hs;exact go _ _ h (.one hs)
  | some o=>
   simp only [ho] at h;have hfin:∀ v,(b.at a (.inRegion ops (i::(l++rest))::k)).finish v=b.at (a.put o.dst v) (.inRegion ops (l++rest)::k):=fun v=>by rw [Frame.finish_at,ho];rfl
   by_cases hw:Region.wanted o (yielded ops a.tmps)=true
   ·simp only [hw,if_true] at h;rcases h with h|⟨_,a₀,w₀,hq⟩
    case inr=>exact absurd (hQ _ _ _ hq) (by simp)
    have hg:=stepG_op (P:=P) (b:=b) (k:=k) (cs:=cs) (w:=w) (rest:=l++rest) ho hw;simp only [Oper.wp,Oper.upon] at h;split at h
    ·rename_i v w' hr;exact go _ _ h (.one (step_lone_go (by rw [hg,<- hfin];simp [stepG.apply,hr])))
    ·rename_i w' hr;exact go _ _ h (.one (step_lone_go (by rw [hg,<- hfin];simp [stepG.apply,hr])))
    ·rename_i d w' hr;refine go _ _ h (.one (step_lone_go ?_));have e1:({ b.at a (.inRegion ops (i::(l++rest))::k) with defers:=d::a.defers }:Frame).finish undef =
       b.at ({ a with defers:=d::a.defers }.put o.dst undef) (.inRegion ops (l++rest)::k):=by
      have:=Frame.finish_at b { a with defers:=d::a.defers } ops i (l++rest) k undef;rw [ho] at this;exact this
     rw [hg];simp only [stepG.apply,Sem.runT_eq,hr,GStep.bare_after];exact congrArg (fun fr=>GStep.go { frame:=fr,callers:=cs,status:=.running,dying:=none } w') e1
    ·rename_i f args w' hr;obtain ⟨e,w'',fr,hR,hsteps,_,hleave⟩:=h (b.at a (.inRegion ops (i::(l++rest))::k)::cs);have henter:step P (lone (b.at a (.inRegion ops (i::(l++rest))::k)) cs w) =
       .next (lone (Frame.enter P f args .normal) (b.at a (.inRegion ops (i::(l++rest))::k)::cs) w'):=
      step_lone_go (by rw [hg];simp [stepG.apply,hr,Frame.at])
     cases e with
     | returned v=>
      refine go _ _ hR (.head henter (Steps.trans hsteps (.one ?_)));rw [<- hfin];exact step_leave_returned hleave
     | panicked chain=>exact absurd (hQ _ _ _ hR) (by simp)
     | outgrown=>
      obtain ⟨a₀,w₀,hq⟩:=hR;exact absurd (hQ _ _ _ hq) (by simp)
    ·rename_i row args w' hr;obtain ⟨v,w'',hR,hsteps⟩:=h (b.at a (.inRegion ops (i::(l++rest))::k)) cs;have henter:step P (lone (b.at a (.inRegion ops (i::(l++rest))::k)) cs w) =
       .next (lone (Frame.ofRow P row args .normal) (b.at a (.inRegion ops (i::(l++rest))::k)::cs) w'):=
      step_lone_go (by rw [hg];simp [stepG.apply,hr,Frame.at])
     refine go _ _ hR (.head henter ?_);rw [<- hfin];exact hsteps
    ·exact absurd (hQ _ _ _ h) (by simp)
    ·exact h.elim
   ·simp only [hw,if_false,Jc1] at h;have hs:=step_op_skip (P:=P) (b:=b) (a:=a) (k:=k) (cs:=cs) (w:=w) (ops:=ops) (i:=i) (rest:=l++rest) (by simp [ho];simpa using hw);simp only [ho,Option.bind_some] at hs;exact go _ _ h (.one hs)
def Cont (P:Program) (fn:FuncId) (Stop:Goroutine->World->Prop) (X:List Item) (e:Exit) (a:Act) (w:World):Prop:=
 (e=.normal/\a.defers=[Jp]/\LGo P fn Stop X a.tmps w)\/(e=.ret/\a.defers=[Jp]/\∀ todo,Stop (G { (base fn).at a todo with mode:=.returning } []) w)
theorem Cont.ret {Q:Array Value->World->Prop} {a:Act} (h:Q a.tmps w) (hd:a.defers=[Jp]):Cont P fn (Jlb fn Q) X .ret a w:=
 .inr ⟨rfl,hd,fun todo=>⟨a.tmps,todo,by rw [<- hd],h⟩⟩
theorem LGo.wp {c:Code} (h:c.wp P (Cont P fn Stop X) ⟨t,[Jp]⟩ w):LGo P fn Stop (.code c::X) t w:=by
 obtain ⟨e,a',w',hq,har⟩:=h (base fn) (X++[Jt]) [];rcases hq with ⟨rfl,hd,hl⟩|⟨rfl,hd,hs⟩
 ·obtain ⟨tm,df⟩:=a';cases hd;exact LGo.steps (X':=X) (t':=tm) (w':=w') har hl
 ·obtain ⟨todo,n,hn⟩:=har;exact ⟨n,_,w',hn,hs todo⟩
theorem LGo.done {ops:Array Oper} (h:LGo P fn Stop X t w):LGo P fn Stop (.inRegion ops []::X) t w:=
 LGo.steps (X':=X) (.one step_region_end) h
theorem LGo.ops {ops:Array Oper} {pre rest:List Nat} (h:wpOps P ops (fun e a w1=>e=.normal/\a.defers=[Jp]/\LGo P fn Stop (.inRegion ops rest::X) a.tmps w1) pre ⟨t,[Jp]⟩ w):LGo P fn Stop (.inRegion ops (pre++rest)::X) t w:=by obtain ⟨a',w',⟨_,hd,hl⟩,hs⟩:=Jlc (fun _ _ _ h=>h.1) pre _ _ h (base fn) rest (X++[Jt]) [];obtain ⟨tm,df⟩:=a';cases hd;exact LGo.steps (X':=.inRegion ops rest::X) (t':=tm) (w':=w') hs hl
theorem J6a {ops:Array Oper} {Q:Exit->Act->World->Prop}:∀ (l:List Oper) (i0:Nat),(∀ j,j<l.length->ops[i0+j]?=l[j]?)->wpOps P ops Q (List.range' i0 l.length)=wpList P ops Q l
 | [],_,_=>rfl
 | o::l,i0,h=>by
  have h0:ops[i0]?=some o:=by simpa using h 0 (by simp)
  have ih:=J6a (Q:=Q) l (i0+1) fun j hj=>by have:=h (j+1) (by simp;omega);rw [show i0+1+j=i0+(j+1) by omega,this];simp
  funext a w;simp only [Jd2,List.range'_succ,wpOps,h0,wpList,ih]
theorem J10.eq_of {C:Cx} {S:Kn} {fn:FuncId} {E:J5} (hE:∀ b b',E b b'->b=b') {l l':List Item} (h:J10 C S fn E l l'):l'=l:=by
 induction h with
 | nil=>rfl
 | cons h _ ih=>
  rw [ih];congr 1;cases h with
  | inRangeFunc h=>rw [hE _ _ h]
  | endRangeFunc h=>rw [hE _ _ h]
  | _=>rfl
end
section
variable {C:Cx} {S:Kn} {W E:Nat->Prop} {w:World}
theorem Reach.to (A:J1d C S) (hst:C.st=false) {Post:(Nat->Prop)->Goroutine->World->Prop} {b:Frame} {X0 X1:List Item} {t:Array Value} {ds:List Deferred} {k:List Item} {cs:List Frame} {Q:Array Value->World->Prop}
  (hX:J10 C S b.fn (idE E) X0 X0) (hX1:X1≠[]) (hb:J0k C b.fn) (hdf:S.df.contains b.fn=false) (hl:C.hl b.fn≠[]) (hk:b.kind≠.early)
  (hB:BOk C S W E w) (ht:TmR C S b.fn (idE E) t t)
  (K:∀ τ,LGo C.P b.fn (Jad b.fn X1 fun t1 w1=>(∀ i,(C.hl b.fn).contains i=true->i<t.size->t1[i]?=t[i]?)/\Q t1 w1) X0 t (w.tp τ 0))
  (kn:∀ (E':Nat->Prop) (t':Array Value) (w1 w':World),(∀ b,E b->E' b)->BOk C S W E' w'->WR C (okP C S) (idE E') w1 w'->TmR C S b.fn (idE E') t' t'->Q t' w1->Reach C.P Post W (G (b.at ⟨t',ds⟩ (X1++k)) cs) w') :
  Reach C.P Post W (G (b.at ⟨t,ds⟩ (X0++k)) cs) w:=by
 have hsh:∀ b,¬ C.Sh b:=C.lax hst
 let B:Bot:=⟨b.fn,t,k,[],b.kind,ds,cs⟩
 have hg:GR C S (idE E) B (G ((base b.fn).at ⟨t,[Jp]⟩ (X0++[Jt])) []) (G (b.at ⟨t,ds⟩ (X0++k)) cs):=
  ⟨.bot ⟨rfl,hb,rfl,hk,rfl,rfl,ht,J4j.code (cs:=B) rfl hX,rfl,rfl,rfl,hdf,hl,rfl,rfl,rfl,fun _ _=>rfl⟩,rfl,rfl,rfl,rfl,rfl⟩
 have hR:=Jl6 A (main:=true) (cs:=B) (y0:=⟨E,E,G (b.at ⟨t,ds⟩ (X0++k)) cs,w⟩) (Post:=Jad b.fn X1 fun t1 w1=>(∀ i,(C.hl b.fn).contains i=true->i<t.size->t1[i]?=t[i]?)/\Q t1 w1)
  (fun g w ⟨t1,hg1,_⟩=>by rw [hg1];show X1++[Jt]≠[Jt];intro e;have:=congrArg List.length e;simp at this;exact hX1 this)
  (fun g w ⟨t1,hg1,_⟩ h=>by rw [hg1] at h;obtain ⟨_,⟨c,h⟩,_⟩:=h;cases h) hB.link hg K
 rw [hst] at hR;refine Reach.J4u hR rfl hB.dis hB.dis (fun b hb=>hB.lt hb) ?_;rintro ⟨own,X,g,wy⟩ ⟨E1,g1,w1,hs,hL,hGE,t1,rfl,hh,hq⟩ hd hXl;simp only at hL hd hXl hGE
 let E':Nat->Prop:=fun b=>E1 b b
 have e1:∀ b b',E1 b b'->b=b':=hL.wr.lid hst;have hE:∀ b,E b->E' b:=fun b hb=>hs b b ⟨rfl,hb⟩;have s2:rng E1=E':=by funext b;simp only [rng,E',eq_iff_iff];exact ⟨fun ⟨a,h⟩=>by obtain rfl:=e1 a b h;exact h,fun h=>⟨b,h⟩⟩
 have s3:E1=idE E':=by funext b b';simp only [idE,E',eq_iff_iff];exact ⟨fun h=>by obtain rfl:=e1 b b' h;exact ⟨rfl,h⟩,fun ⟨h,h'⟩=>by subst h;exact h'⟩
 have hwr:WR C (okP C S) (idE E') wy wy:=by
  have:=hL.wr.right (J4n.refl C) (ok':=okP C S) hsh hst (fun _=>⟨rfl,rfl⟩)
  rwa [s2] at this
 have hB':BOk C S W E' wy:=⟨hwr,hE _ hB.hnd,fun g hg=>hE _ (hB.gl g hg),fun b hb he=>hd b hb (hL.rng b b he).1⟩;have hw1:WR C (okP C S) (idE E') w1 wy:=by rw [<- s3];exact hL.wr
 rcases hGE with hG|hE2
 ·obtain ⟨fy,csy,sty,dy,oy⟩:=g;have hst':=hG.stack;have r1:=hG.run';have r2:=hG.dying';have r3:=hG.offers;simp only at r1 r2 r3;subst r1 r2 r3;change StR C S E1 B [(base b.fn).at ⟨t1,[Jp]⟩ (X1++[Jt])] (fy::csy) at hst';generalize hz:fy::csy=z at hst';cases hst' with
  | cons _ h2=>cases h2
  | bot hBt=>
   cases hz;have htm:TmR C S b.fn E1 t1 fy.tmps:=hBt.tmps;have hho:∀ i,(C.hl b.fn).contains i=true->fy.tmps[i]?=t[i]?:=hBt.hold;have htd:J4j C S B b.fn E1 (X1++[Jt]) fy.todo:=hBt.todo;have Jj3:fy.todo=X1++k:=by
    generalize hx:X1++[Jt]=x at htd;generalize hy:fy.todo=y at htd;cases htd with
    | @code l l' _ hi=>
     have:l=X1:=by have:=List.append_cancel_right hx;exact this.symm
     subst this;rw [hi.eq_of e1]
    | @ops ops is h=>
     have:X1=[.inRegion ops is]:=by have e:[.inRegion ops is,Jt]=[Item.inRegion ops is]++[Jt]:=rfl;rw [e] at hx;exact List.append_cancel_right hx
     subst this;simp [B]
   have hsz:fy.tmps.size=t.size\/True:=.inr trivial;have key:fy.tmps=t1:=by
    apply Jd6;intro i;by_cases hi:(C.hl b.fn).contains i=true
    ·rw [hho i hi];by_cases hlt:i<t.size
     ·exact (hh i hi hlt).symm
     ·have hn:fy.tmps[i]?=none:=by rw [hho i hi,Jb0 (by omega)]
      rw [Jb0 (by omega)];have:fy.tmps.size<=i:=Jd7.1 hn;rw [Jb0 (by have:=htm.size;omega)]
    ·by_cases hlt:i<t1.size
     ·have h1:t1[i]?=some t1[i]:=Ja4 hlt;have h2:fy.tmps[i]?=some (fy.tmps[i]'(htm.size▸hlt)):=Ja4 _;rw [h1,h2,(htm.at_ i _ _ (by simpa using hi) h1 h2).eq e1]
     ·rw [Jb0 (by have:=htm.size;omega),Jb0 (by omega)]
   have efy:fy=b.at ⟨fy.tmps,ds⟩ (X1++k):=by obtain ⟨f1,f2,f3,f4,f5,f6,f7⟩:=fy;have a1:=hBt.fn2;have a2:=hBt.kind2;have a3:=hBt.dfr;have a4:=hBt.J5r;have a5:=hBt.round';simp only at a1 a2 a3 a4 a5 Jj3;subst a1 a2 a3 a4 a5 Jj3;rfl
   rw [key] at htm efy;rw [efy];exact kn E' t1 w1 wy hE hB' hw1 (by rw [<- s3];exact htm) hq
 ·exact absurd hE2.mode (by intro h;cases h)
theorem Reach.ret (A:J1d C S) (hst:C.st=false) {Post:(Nat->Prop)->Goroutine->World->Prop} {b:Frame} {X0:List Item} {t:Array Value} {ds:List Deferred} {k:List Item} {cs:List Frame} {Q:Array Value->World->Prop}
  (hX:J10 C S b.fn (idE E) X0 X0) (hb:J0k C b.fn) (hdf:S.df.contains b.fn=false) (hl:C.hl b.fn≠[]) (hk:b.kind≠.early)
  (hB:BOk C S W E w) (ht:TmR C S b.fn (idE E) t t)
  (K:∀ τ,LGo C.P b.fn (Jlb b.fn fun t1 w1=>(∀ i,(C.hl b.fn).contains i=true->i<t.size->t1[i]?=t[i]?)/\Q t1 w1) X0 t (w.tp τ 0))
  (kn:∀ (E':Nat->Prop) (t':Array Value) (w1 w':World) (todo:List Item),(∀ b,E b->E' b)->BOk C S W E' w'->WR C (okP C S) (idE E') w1 w'->TmR C S b.fn (idE E') t' t'->Q t' w1->Reach C.P Post W (G { b.at ⟨t',ds⟩ todo with mode:=.returning } cs) w') :
  Reach C.P Post W (G (b.at ⟨t,ds⟩ (X0++k)) cs) w:=by
 have hsh:∀ b,¬ C.Sh b:=C.lax hst
 let B:Bot:=⟨b.fn,t,k,[],b.kind,ds,cs⟩
 have hg:GR C S (idE E) B (G ((base b.fn).at ⟨t,[Jp]⟩ (X0++[Jt])) []) (G (b.at ⟨t,ds⟩ (X0++k)) cs):=
  ⟨.bot ⟨rfl,hb,rfl,hk,rfl,rfl,ht,J4j.code (cs:=B) rfl hX,rfl,rfl,rfl,hdf,hl,rfl,rfl,rfl,fun _ _=>rfl⟩,rfl,rfl,rfl,rfl,rfl⟩
 have hR:=Jl5 A (main:=true) (cs:=B) (y0:=⟨E,E,G (b.at ⟨t,ds⟩ (X0++k)) cs,w⟩) (Post:=fun _ _=>False) (PostR:=fun t1 w1=>(∀ i,(C.hl b.fn).contains i=true->i<t.size->t1[i]?=t[i]?)/\Q t1 w1) hB.link hg (fun τ=>by obtain ⟨n,g,w1,h1,t1,todo,rfl,h2⟩:=K τ;exact ⟨n,_,w1,h1,rfl,.inr ⟨rfl,h2⟩⟩);rw [hst] at hR;refine Reach.J4u hR rfl hB.dis hB.dis (fun b hb=>hB.lt hb) ?_;rintro ⟨own,X,g,wy⟩ ⟨E1,g1,w1,hs,hL,⟨_,_,hf⟩|⟨he,hh,hq⟩⟩ hd hXl
 ·exact hf.elim
 simp only at hL hd hXl he
 let E':Nat->Prop:=fun b=>E1 b b
 have e1:∀ b b',E1 b b'->b=b':=hL.wr.lid hst;have hE:∀ b,E b->E' b:=fun b hb=>hs b b ⟨rfl,hb⟩;have s2:rng E1=E':=by funext b;simp only [rng,E',eq_iff_iff];exact ⟨fun ⟨a,h⟩=>by obtain rfl:=e1 a b h;exact h,fun h=>⟨b,h⟩⟩
 have s3:E1=idE E':=by funext b b';simp only [idE,E',eq_iff_iff];exact ⟨fun h=>by obtain rfl:=e1 b b' h;exact ⟨rfl,h⟩,fun ⟨h,h'⟩=>by subst h;exact h'⟩
 have hwr:WR C (okP C S) (idE E') wy wy:=by
  have:=hL.wr.right (J4n.refl C) (ok':=okP C S) hsh hst (fun _=>⟨rfl,rfl⟩)
  rwa [s2] at this
 have hB':BOk C S W E' wy:=⟨hwr,hE _ hB.hnd,fun g hg=>hE _ (hB.gl g hg),fun b hb he=>hd b hb (hL.rng b b he).1⟩;have hw1:WR C (okP C S) (idE E') w1 wy:=by rw [<- s3];exact hL.wr
 obtain ⟨fy,csy,sty,dy,oy⟩:=g;obtain ⟨z1,z2,z3,z4,z5,z6,z7,z8,z9,z10,z11,z12,z13,z14,z15,z16,z17⟩:=he;simp only at z2 z3 z5 z6 z9 z11 z12 z13 z14 z15 z16;subst z2 z9 z11 z12;have htm:TmR C S b.fn E1 g1.frame.tmps fy.tmps:=by rwa [<- z3,z16] at z6
 have hho:∀ i,(C.hl b.fn).contains i=true->fy.tmps[i]?=t[i]?:=by
  have:=z17
  rwa [<- z3,z16] at this
 generalize g1.frame.tmps=t1 at htm hh hq;have key:fy.tmps=t1:=by
  apply Jd6;intro i;by_cases hi:(C.hl b.fn).contains i=true
  ·rw [hho i hi];by_cases hlt:i<t.size
   ·exact (hh i hi hlt).symm
   ·have hn:fy.tmps[i]?=none:=by rw [hho i hi,Jb0 (by omega)]
    rw [Jb0 (by omega)];have:fy.tmps.size<=i:=Jd7.1 hn;rw [Jb0 (by have:=htm.size;omega)]
  ·by_cases hlt:i<t1.size
   ·have h1:t1[i]?=some t1[i]:=Ja4 hlt;have h2:fy.tmps[i]?=some (fy.tmps[i]'(htm.size▸hlt)):=Ja4 _;rw [h1,h2,(htm.at_ i _ _ (by simpa using hi) h1 h2).eq e1]
   ·rw [Jb0 (by have:=htm.size;omega),Jb0 (by omega)]
 obtain ⟨f1,f2,f3,f4,f5,f6,f7⟩:=fy;simp only at z3 z5 z13 z14 z15 z16 key htm;subst z5 z13 z14 z15 z16 key;exact kn E' _ w1 wy _ hE hB' hw1 (by rw [<- s3];exact htm) hq
end
end Go.Sim
namespace Go.Sim.Z
open Go Go.Proofs Go.RowKit Go.Conc
def Dat:Obj->Prop
 | .cells _ _ _=>True
 | .map _ _=>True
 | _=>False
def KE (E:Nat->Prop) (w w':World):Prop:=∀ b o,E b->w.heap[b]?=some o->Dat o->w'.heap[b]?=some o
section
variable {C:Cx} {ok:FuncId->Code->Prop} {E E':Nat->Prop} {w w1 w2 w':World} {b x:Nat} {arr:Array Value} {t:TypeId}
theorem KE.refl:KE E w w:=fun _ _ _ h _=>h
theorem KE.trans (h:KE E w w1) (k:KE E w1 w2):KE E w w2:=fun b o hb ho hd=>k b o hb (h b o hb ho hd) hd
theorem KE.mono (h:KE E' w w1) (hs:∀ b,E b->E' b):KE E w w1:=fun b o hb=>h b o (hs b hb)
theorem KE.of_eq (h:∀ b,E b->w1.heap[b]?=w.heap[b]?):KE E w w1:=fun b o hb ho _=>(h b hb).trans ho
theorem Jy (hst:C.st=false) (hW:WR C ok (idE E) w w'):KE E w w':=by
 intro b o he ho hd;obtain ⟨o1,o',h1,h2,h3⟩:=hW.get (b:=b) (b':=b) ⟨rfl,he⟩;rw [ho] at h1;cases h1;have hE:∀ b b',idE E b b'->b=b':=fun _ _ h=>h.1;cases o with
 | cells c el fz=>
  obtain ⟨c',fz',rfl,ha,_,hn⟩:=h3;have e:c'=c:=by
   apply Jd6;intro i;cases hx:c[i]? with
   | none=>exact ha.J6m hx
   | some v=>obtain ⟨v',h4,r⟩:=ha.J04 hx;rw [h4,r.eq hE]
  rw [h2,e,(hn (C.lax hst b)).1]
 | map es ck=>
  obtain ⟨es',rfl,hr⟩:=h3;have e:es'=es:=by
   apply Jd6;intro i;cases hx:es[i]? with
   | none=>rw [Jd7] at hx ⊢;rw [<- hr.size];exact hx
   | some z=>
    have hlt:i<es'.size:=by rw [<- hr.size];exact (Ja3.1 hx).1
    have h4:es'[i]?=some es'[i]:=Ja4 hlt;have q:=hr.at_ i z _ hx h4;rw [h4];generalize es'[i]=z' at q;obtain ⟨k,v,n⟩:=z;obtain ⟨k',v',n'⟩:=z';have e1:=q.key.eq hE;have e2:=q.val.eq hE;have e3:=q.born;simp only at e1 e2 e3;rw [e1,e2,e3]
  rw [h2,e]
 | _=>exact hd.elim
theorem KE.cell (h:KE E w w') {a:Addr} {v:Value} (he:E a.block) (hc:w.cell? a=some v):w'.cell? a=some v:=by
 unfold World.cell? at hc ⊢;cases ho:w.heap[a.block]? with
 | none=>rw [ho] at hc;cases hc
 | some o=>
  rw [ho] at hc;cases o with
  | cells c el fz=>rw [h _ _ he ho trivial];exact hc
  | _=>cases hc
theorem KE.blk (h:KE E w w') {fr:Bool} (he:E b) (hb:Blk fr w b arr t):Blk fr w' b arr t:=by obtain ⟨z,h1,h2⟩:=hb;exact ⟨z,h _ _ he h1 trivial,h2⟩
theorem KE.shd (h:KE E w w') {F:Nat->Prop} (he:E b) (hs:Shd F w b):Shd F w' b:=by
 obtain ⟨o,h1,h2⟩:=hs;refine ⟨o,h _ _ he h1 ?_,h2⟩;have:=h2 (fun _=>True) (fun _=>False) fun _ _=>trivial;cases o<;>first|trivial|exact this.elim
theorem KE.at (h:KE E w w') (he:E b) (hs:∃ F,Shd F w b):w'.heap[b]?=w.heap[b]?:=by
 obtain ⟨F,o,h1,h2⟩:=hs;have hd:Dat o:=by
  have:=h2 (fun _=>True) (fun _=>False) fun _ _=>trivial;cases o<;>first|trivial|exact this.elim
 rw [h1,h _ _ he h1 hd]
theorem TabAt.ke {c:J8} {m:Nat} {T:List TR} (h:TabAt false w c m T) (k:KE E w w') (hE:∀ x,x=m\/x∈tpl T->E x):TabAt false w' c m T:=
 h.kept fun x hx=>k.at (hE x hx) ⟨fun _=>True,Shd.tab h (fun _ _=>trivial) (fun _ _=>trivial) x hx⟩
theorem KAt.ke {ka:Option Addr} {kc:Nat} {ks:List Je} (h:KAt false w ka kc ks) (k:KE E w w') (hE:∀ a,ka=some a->E a.block):KAt false w' ka kc ks:=by
 rcases h with h|⟨g,cur,h1,h2,h3⟩
 ·exact .inl h
 ·exact .inr ⟨g,cur,h1,k.blk (hE _ h1) h2,h3⟩
theorem TabAt.places {c:J8} {m:Nat} {T:List TR} (hst:C.st=false) (hW:WR C ok (idE E) w w') (hba:∀ a,c.ba=some a->E a.block) (h:TabAt false w c m T) (hm:E m):∀ x,x=m\/x∈tpl T->E x:=fun x hx=>by
 rcases hx with rfl|hx
 ·exact hm
 ·exact ((h.ren (fr:=false) hW (.inr rfl) (fun a ha=>⟨rfl,hba a ha⟩) ⟨rfl,hm⟩).1 x hx).2 |> fun q=>by have e:=((h.ren (fr:=false) hW (.inr rfl) (fun a ha=>⟨rfl,hba a ha⟩) ⟨rfl,hm⟩).1 x hx);exact e.2
theorem _root_.Go.Sim.WR.J56 (hW:WR C ok (idE E) w w') (he:E b) {i:Nat} {v:Value} (hc:w.cell? ⟨b,i,none⟩=some v):VR C (idE E) v v:=by obtain ⟨v',h1,h2⟩:=hW.cell (b:=b) (b':=b) ⟨rfl,he⟩ hc;have:=h2.eq fun _ _ h=>h.1;subst this;exact h2
theorem _root_.Go.Sim.VR.J57 {o:Nat} {s:Option Nat} (h:VR C (idE E) (.pointer (some ⟨b,o,s⟩)) (.pointer (some ⟨b,o,s⟩))):E b:=by
 cases h with
 | ptr _ _ h=>exact h.2
theorem _root_.Go.Sim.VR.Jry (h:VR C (idE E) (.map (some b)) (.map (some b))):E b:=by
 cases h with
 | map h=>exact h.2
theorem _root_.Go.Sim.VR.J1i {a:Addr} {l c:Nat} (h:VR C (idE E) (.slice (some a) l c) (.slice (some a) l c)):E a.block:=by
 cases h with
 | slice _ _ _ _ h=>exact h.2
theorem KE.step (hk:Keeps w w1) (l:KE E' w1 w') (hs:∀ b,E b->E' b):KE E w w':=fun b o hb ho hd=>l b o (hs b hb) ((hk.heap b (Ji ho)).trans ho) hd
theorem _root_.Go.Sim.TmR.slot {S:Kn} {fn:FuncId} {T:Array Value} (h:TmR C S fn (idE E) T T) {i:Nat} {v:Value} (hi:(C.hl fn).contains i=false) (hv:T[i]?=some v):VR C (idE E) v v:=h.at_ i v v hi hv hv
end
def HOk (w:World):Prop:=∃ arr t,Blk false w Tryz.prog.globals.size arr t/\Plain arr
theorem HOk.ke {E:Nat->Prop} {w w':World} (h:HOk w) (k:KE E w w') (hE:E Tryz.prog.globals.size):HOk w':=by obtain ⟨arr,t,h1,h2⟩:=h;exact ⟨arr,t,k.blk hE h1,h2⟩
end Go.Sim.Z
namespace Go.Sim.Z
open Go Go.Proofs Go.RowKit Go.Maps Go.Sort Go.Shelf
instance:Inhabited Je:=⟨⟨[0,0,0,0,0],rfl,by decide⟩⟩
def J41 (x:Je):List Value:=x.1.map (Value.int .i64)
def Jae (x y:Je):Int:=cmpK x.1 y.1
theorem J1z (x y:Int):(Lib.compareInt x y=-1/\x<y)\/(Lib.compareInt x y=0/\x=y)\/(Lib.compareInt x y=1/\y<x):=by
 unfold Lib.compareInt;split
 ·exact .inl ⟨rfl,by assumption⟩
 ·split
  ·exact .inr (.inr ⟨rfl,by assumption⟩)
  ·exact .inr (.inl ⟨rfl,by omega⟩)
theorem Jge:∀ x:List Int,cmpK x x=0
 | []=>rfl
 | x::xs=>by
  unfold cmpK;rcases J1z x x with ⟨h,h'⟩|⟨h,_⟩|⟨h,h'⟩
  ·omega
  ·rw [if_pos h];exact Jge xs
  ·omega
theorem Jde:∀ {x y z:List Int},x.length=y.length->y.length=z.length->cmpK x y<0->cmpK y z<0->cmpK x z<0
 | [],_,_,_,_,h,_=>by unfold cmpK at h;simp at h
 | _::_,[],_,h,_,_,_=>by simp at h
 | _::_,_::_,[],_,h,_,_=>by simp at h
 | x::xs,y::ys,z::zs,h1,h2,h3,h4=>by
  simp only [Jd2,Nat.add_right_cancel_iff] at h1 h2;unfold cmpK at h3 h4 ⊢;rcases J1z x y with ⟨e1,_⟩|⟨e1,_⟩|⟨e1,_⟩<;>rcases J1z y z with ⟨e2,_⟩|⟨e2,_⟩|⟨e2,_⟩<;>rcases J1z x z with ⟨e3,_⟩|⟨e3,_⟩|⟨e3,_⟩ <;>
   simp [e1,e2,e3] at h3 h4 ⊢<;>first|omega|exact Jde h1 h2 h3 h4
theorem Jbq:∀ {x y z:List Int},x.length=y.length->y.length=z.length->¬ cmpK x y<0->¬ cmpK y z<0->¬ cmpK x z<0
 | [],_,_,_,_,_,_=>by unfold cmpK;simp
 | _::_,[],_,h,_,_,_=>by simp at h
 | _::_,_::_,[],_,h,_,_=>by simp at h
 | x::xs,y::ys,z::zs,h1,h2,h3,h4=>by
  simp only [Jd2,Nat.add_right_cancel_iff] at h1 h2;unfold cmpK at h3 h4 ⊢;rcases J1z x y with ⟨e1,_⟩|⟨e1,_⟩|⟨e1,_⟩<;>rcases J1z y z with ⟨e2,_⟩|⟨e2,_⟩|⟨e2,_⟩<;>rcases J1z x z with ⟨e3,_⟩|⟨e3,_⟩|⟨e3,_⟩ <;>
   simp [e1,e2,e3] at h3 h4 ⊢<;>first|omega|exact Int.not_lt.1 (Jbq h1 h2 (Int.not_lt.2 h3) (Int.not_lt.2 h4))
theorem Jdf:∀ {x y:List Int},x.length=y.length->¬ cmpK x y<0->¬ cmpK y x<0->x=y
 | [],[],_,_,_=>rfl
 | [],_::_,h,_,_=>by simp at h
 | _::_,[],h,_,_=>by simp at h
 | x::xs,y::ys,h1,h3,h4=>by
  simp only [Jd2,Nat.add_right_cancel_iff] at h1;unfold cmpK at h3 h4;rcases J1z x y with ⟨e1,_⟩|⟨e1,_⟩|⟨e1,_⟩<;>rcases J1z y x with ⟨e2,_⟩|⟨e2,_⟩|⟨e2,_⟩ <;>
   simp [e1,e2] at h3 h4<;>try omega
  subst x;rw [Jdf h1 (Int.not_lt.2 h3) (Int.not_lt.2 h4)]
theorem ltK (x y:Je):ltOf Jae x y=decide (cmpK x.1 y.1<0):=rfl
theorem len_eq (x y:Je):x.1.length=y.1.length:=x.2.1.trans y.2.1.symm
theorem swoK:SWO (ltOf Jae) where
 irrefl x:=by rw [ltK,Jge];rfl
 trans x y z h1 h2:=by rw [ltK] at *;simp only [decide_eq_true_eq] at *;exact Jde (len_eq x y) (len_eq y z) h1 h2
 ntrans x y z h1 h2:=by rw [ltK] at *;simp only [decide_eq_false_iff_not] at *;exact Jbq (len_eq x y) (len_eq y z) h1 h2
theorem totK (x y:Je) (h1:ltOf Jae x y=false) (h2:ltOf Jae y x=false):x=y:=by rw [ltK] at *;simp only [decide_eq_false_iff_not] at *;exact Subtype.ext (Jdf (len_eq x y) h1 h2)
theorem Jrz (blk off size:Nat) (w:World):CmpLays Tryz.prog 58 #[] J41 5 Jae blk off size w:=by intro m os dk _ x y;refine (Jhl x.1 y.1 x.2.1 y.2.1 _).mono ?_;rintro e w' ⟨rfl,rfl⟩;exact ⟨rfl,(((Tch.refl.alloc (Ja2 _) _).alloc (by rw [size_alloc];omega) _).drew).grown (Nat.le_succ _)⟩
def Jfi (w:World) (base:Nat) (v:Value) (ks:List Je):Prop:=
 (v=.slice none 0 0/\ks=[]) \/
 ∃ (g cap:Nat) (cur:Array Value),v=.slice (some ⟨g,0,none⟩) ks.length cap/\base<=g/\w.heap[g]?=some (.cells cur 76)/\ks.length<=cap/\cap<=maxLen/\cur.size=cap*5/\Plain cur/\cur.toList.take (ks.length*5)=J0u ks
def sortK (ss:List Je):List Je:=ss.mergeSort fun x y=>!ltOf Jae y x
theorem flat_get (d:Array Je) (t:Nat) (h:t<d.size*5):(J0u d.toList)[t]?=some ((flatK J41 5 d)[t]!):=by
 rw [get_flatK _ _ _ _ h];have hd:t / 5<d.size:=by omega
 rw [getElem!_pos d (t / 5) hd];have gen:∀ (l:List Je) (t:Nat) (ht:t / 5<l.length),(J0u l)[t]?=some ((J41 l[t / 5])[t % 5]!):=by
  intro l
  induction l with
  | nil=>intro t ht;simp at ht
  | cons x l ih=>
   intro t ht;have e:J0u (x::l)=J41 x++J0u l:=rfl;have hl:(J41 x).length=5:=by simp [J41,x.2.1]
   rw [e,List.getElem?_append];by_cases h5:t<5
   ·have e0:t / 5=0:=by omega
    have e1:t % 5=t:=by omega
    simp only [hl,h5,if_true,e0,List.getElem_cons_zero,e1];rw [Jb1 (by omega),getElem!_pos _ _ (by omega)]
   ·rw [if_neg (by omega),hl,ih (t-5) (by simp at ht;omega)];have e0:t / 5=(t-5) / 5+1:=by omega
    have e1:(t-5) % 5=t % 5:=by omega
    simp only [e0,List.getElem_cons_succ,e1]
 have:=gen d.toList t (by simpa using hd);simpa using this
theorem Js0 {w:World} {g n b:Nat} {arr:Array Je} {os:Array Obj} (hb:b<w.heap.size) (hne:b≠g):(sortWorldK J41 5 w g 0 n arr os).heap[b]?=w.heap[b]?:=by show ((w.heap.modify g (onCells _))++os)[b]?=_;rw [Array.getElem?_append_left (by simpa using hb),Array.getElem?_modify,if_neg (Ne.symm hne)]
theorem J03o {w:World} {g n:Nat} {arr:Array Je} {os:Array Obj} {cur:Array Value} {t:TypeId} {z:Nat × Nat} (h:w.heap[g]?=some (.cells cur t z)) :
  (sortWorldK J41 5 w g 0 n arr os).heap[g]?=some (.cells (putCells id 0 (flatK J41 5 arr) cur) t z):=by
 show ((w.heap.modify g (onCells _))++os)[g]?=_;rw [Array.getElem?_append_left (by simpa using Ji h),Array.getElem?_modify,if_pos rfl,h];rfl
theorem Jvw {w:World} {g n:Nat} {arr:Array Je} {os:Array Obj}:w.heap.size<=(sortWorldK J41 5 w g 0 n arr os).heap.size:=by show _<=((w.heap.modify g (onCells _))++os).size;simp
theorem Jmq {ss:List Je}:∀ v∈J0u ss,IsInt v:=fun v hv=>by obtain ⟨x,_,hx⟩:=List.mem_flatMap.1 hv;obtain ⟨n,_,rfl⟩:=Jb3.1 hx;exact ⟨_,_,rfl⟩
theorem Plain.put {cur:Array Value} {arr:Array Je} (h:Plain cur):Plain (putCells id 0 (flatK J41 5 arr) cur):=.J4v fun i v hv=>by
 unfold putCells at hv;rw [Array.getElem?_mapIdx] at hv;obtain ⟨x,hx,rfl⟩:=Jc0.1 hv;split
 ·rename_i hc;rw [size_flatK] at hc;have:=flat_get arr i (by omega);exact Jmq _ (Jd0 this)
 ·exact h.at hx
theorem Jmr (base:Nat) (v:Value) (ss:List Je) (w:World) (h:PR w base v ss) (hl:ss.length<=1000000) :
  Calls Tryz.prog 57 #[v,.func (.func 58) #[] #[]] w fun e w'=>e=.returned (.tuple #[])/\Jfi w' base v (sortK ss)/\Tch base M0 w w':=by
 obtain ⟨⟨hlen,⟨rfl,h0⟩|⟨g,cap,cur,rfl,hb,hg,hc1,hc2,hc3,hc4⟩⟩,hpl⟩:=h
 ·have:ss=[]:=List.length_eq_zero_iff.1 h0;subst this;refine (AnyF.slices_SortFunc_none Tryz.sortK none 0 _ w).mono ?_;rintro e w' ⟨rfl,rfl⟩;exact ⟨rfl,.inl ⟨rfl,by simp [sortK]⟩,.refl⟩
 ·have hgl:g<w.heap.size:=Ji hg;have hcell:∀ t,t<ss.length*5->cur[t]?=some ((flatK J41 5 ss.toArray)[t]!):=by intro t ht;rw [<- flat_get ss.toArray t (by simpa using ht)];simp only [<- hc4];rw [List.getElem?_take,if_pos ht];simp
  have hH:HoldsK J41 5 w g 0 ss.toArray:=by intro j hj;rw [size_flatK] at hj;rw [Nat.zero_add];exact ⟨by rw [cell_of hg];exact hcell j (by simpa using hj),J02 hg j⟩
  have eg:∀ args w,(callFunc 58 args).run Tryz.prog w=.ok (.enter 58 args) w:=enters_of Tryz.func58 (by kernel_rfl) rfl;have hcon:=AnyQ.slices_SortFunc_total Tryz.sortK 5 Tryz.isAgg76 Tryz.sizeOf76 J41 (fun x=>by simp [J41,x.2.1]) (fun x u hu=>by simp only [J41,Jb3] at hu;obtain ⟨n,_,rfl⟩:=hu;rfl) Jae swoK 58 #[] g 0 cap ss.toArray w eg (Jrz g 0 _ w) hH hgl (by simp;omega) totK;change Calls Tryz.prog 57 _ _ _ at hcon;simp only [List.size_toArray] at hcon;refine hcon.mono ?_;rintro e w' ⟨rfl,n,os,rfl⟩;have hsl:(sortK ss).length=ss.length:=List.length_mergeSort _;refine ⟨rfl,.inr ⟨g,cap,_,by rw [hsl],hb,J03o hg,by omega,hc2,by simpa [putCells] using hc3,Plain.put (hpl g _ cap rfl cur 76 _ hg),?_⟩,⟨Jvw,fun b hb' _=>Js0 (by omega) (by omega),rfl,rfl,rfl⟩⟩;apply List.ext_getElem?;intro t;rw [List.getElem?_take,hsl];split
  ·rename_i ht;have hf:=flat_get (sortK ss).toArray t (by simp [hsl];omega);rw [show (sortK ss).toArray.toList=sortK ss from rfl] at hf;rw [hf];have hcs:t<cur.size:=by omega
   have e0:(List.mergeSort ss fun x y=>!ltOf Jae y x)=sortK ss:=rfl;simp [putCells,hcs,e0,hsl,ht]
  ·rename_i ht;rw [List.getElem?_eq_none (by rw [Jgn,hsl];omega)]
def keysOf (L:List (List Int × Value)) (ks:List Je):Prop:=∃ ss,KeysOf L ss/\ks=sortK ss
theorem J72 (b:Nat) (L:List (List Int × Value)) (w:World) (hm:J09 w b L) (hN:L.length<=1000000) :
  Calls Tryz.prog 32 #[.map (some b)] w fun e w'=>∃ v ks,e=.returned v/\keysOf L ks/\Jfi w' (w.heap.size+1) v ks/\Tch w.heap.size M0 w w':=by
 have Jms:=Jho b L w hm hN
 go_enter Tryz.func32,Tryz.ntmps32
 go_wp2_with (first
  | (go_at_call 56;refine (Jlm _ _).mono ?_;rintro e w' ⟨rfl,rfl⟩)
  | (go_at_call 55;refine Jms.mono ?_;rintro e w1 ⟨v,ss,rfl,hS,hrow,hnil,hb⟩;have hsort:=Jmr (w.heap.size+1) v ss w1 hrow (by have:=hS.length_eq;simp at this;omega);clear hrow hnil)
  | (go_at_call 57;refine hsort.mono ?_;rintro e w2 ⟨rfl,hk,ht⟩))
 go_ret;refine ⟨_,_,rfl,⟨ss,hS,rfl⟩,hk,?_⟩;have h1:Tch w.heap.size M0 w (w.alloc (.cells #[.map (some b)] 70)):=Tch.refl.alloc (Ja2 _) _;have h2:Tch (w.heap.size+1) M0 (w.alloc (.cells #[.map (some b)] 70)) w1:=.of_below hb;exact (h1.trans (h2.mono (by omega) fun b _ h=>h)).trans (ht.mono (by omega) fun b _ h=>h)
end Go.Sim.Z
namespace Go.Sim.Z
open Go Go.Proofs Go.RowKit
theorem Jue:Array.replicate 46 undef=#[undef,undef,undef,undef,undef,undef,undef,undef,undef,undef,undef,undef,undef,undef,undef,undef,undef,undef,undef,undef,undef,undef,undef,undef,undef,undef,undef,undef,undef,undef,undef,undef,undef,undef,undef,undef,undef,undef,undef,undef,undef,undef,undef,undef,undef,undef]:=by kernel_rfl
noncomputable def R0 (src mk fb:Nat):Array Value:=#[.map (some src),.int .i64 (mk:Int),.func (.func 42) #[] #[.pointer (some ⟨fb,0,none⟩)],undef,undef,undef,undef,undef,undef,undef,undef,undef,undef,undef,undef,undef,undef,undef,undef,undef,undef,undef,undef,undef,undef,undef,undef,undef,undef,undef,undef,undef,undef,undef,undef,undef,undef,undef,undef,undef,undef,undef,undef,undef,undef,undef,undef,undef,undef]
noncomputable def R1 (src mk fb:Nat) (n3 n4 n5:Nat):Array Value:=#[.map (some src),.int .i64 (mk:Int),.func (.func 42) #[] #[.pointer (some ⟨fb,0,none⟩)],.pointer (some ⟨n3,0,none⟩),.pointer (some ⟨n4,0,none⟩),.pointer (some ⟨n5,0,none⟩),.map none,undef,undef,undef,undef,undef,undef,undef,undef,undef,undef,undef,undef,undef,undef,undef,undef,undef,undef,undef,undef,undef,undef,undef,undef,undef,undef,undef,undef,undef,undef,undef,undef,undef,undef,undef,undef,undef,undef,undef,undef,undef,undef]
noncomputable def R2a (src mk fb:Nat) (n3 n4 n5:Nat) (v:Value) (n7:Nat):Array Value:=#[.map (some src),.int .i64 (mk:Int),.func (.func 42) #[] #[.pointer (some ⟨fb,0,none⟩)],.pointer (some ⟨n3,0,none⟩),.pointer (some ⟨n4,0,none⟩),.pointer (some ⟨n5,0,none⟩),.map none,.pointer (some ⟨n7,0,none⟩),undef,undef,undef,undef,undef,undef,undef,undef,.map (some src),v,undef,undef,undef,undef,undef,undef,undef,undef,undef,undef,undef,undef,undef,undef,undef,undef,undef,undef,undef,undef,undef,undef,undef,undef,undef,undef,undef,undef,undef,undef,undef]
noncomputable def R3a (src mk fb:Nat) (n3 n4 n5:Nat) (v:Value) (n7 n8:Nat):Array Value:=#[.map (some src),.int .i64 (mk:Int),.func (.func 42) #[] #[.pointer (some ⟨fb,0,none⟩)],.pointer (some ⟨n3,0,none⟩),.pointer (some ⟨n4,0,none⟩),.pointer (some ⟨n5,0,none⟩),.map none,.pointer (some ⟨n7,0,none⟩),.pointer (some ⟨n8,0,none⟩),undef,undef,undef,undef,undef,undef,undef,.map (some src),v,undef,undef,undef,undef,undef,undef,undef,undef,undef,undef,undef,undef,undef,undef,undef,undef,undef,undef,undef,undef,undef,undef,undef,undef,undef,undef,undef,undef,undef,undef,undef]
section
variable {src mk fb:Nat} {v:Value} {n3 n4 n5 n7:Nat} {w:World} {d:Deferred}
theorem Js1:Jh4.wp Tryz.prog (fun e a w1=>e=.normal/\a.tmps=R1 src mk fb w.heap.size (w.heap.size+1) (w.heap.size+2)/\w1.heap=((w.heap.push (.cells #[.map (some src)] 70)).push (.cells #[.int .i64 mk] 3)).push (.cells #[.func (.func 42) #[] #[.pointer (some ⟨fb,0,none⟩)]] 111)) ⟨R0 src mk fb,[d]⟩ w:=by unfold R0 R1;simp only [Jh4,b40,J8x,J3l,Tryz.f40,Ja6];go_wp2;exact rfl
theorem Js2 {L:List (List Int × Value)} (hm:J09 w src L) (hN:L.length<=1000000) (h3:w.cell? ⟨n3,0,none⟩=some (.map (some src))):Jh5.wp Tryz.prog (fun e a w1=>e=.normal/\∃ v ks n7,a.tmps=R2a src mk fb n3 n4 n5 v n7/\keysOf L ks/\Jfi w1 w.heap.size v ks/\w.heap.size<=n7/\w1.heap[n7]?=some (.cells #[v] 88)/\Keeps w w1) ⟨R1 src mk fb n3 n4 n5,[d]⟩ w:=by
 have hs:=J72 src L w hm hN;unfold R1;simp only [Jh5,b40,J8x,J3l,Tryz.f40,Ja6]
 go_wp2_with (go_at_call 32;refine hs.mono ?_;rintro e w1 ⟨v,ks,rfl,hk,hr,ht⟩;obtain ⟨ka,l,kc,rfl⟩:∃ ka l kc,v=.slice ka l kc:=by (rcases hr with ⟨h,_⟩|⟨g,cap,cur,h,_⟩<;>exact ⟨_,_,_,h⟩))
 refine ⟨_,ks,_,rfl,hk,?_,ht.size,Ja _,Keeps.refl.Ji7 (ht.alloc ht.size _)⟩;rcases hr with h|⟨g,cap,cur,h1,h2,h3,h4⟩
 ·exact .inl h
 ·exact .inr ⟨g,cap,cur,h1,by omega,(J7 _ (Ji h3)).trans h3,h4⟩
theorem Js3:Jh6.wp Tryz.prog (fun e a w1=>e=.normal/\a.tmps=R3a src mk fb n3 n4 n5 v n7 w.heap.size/\w1.heap=w.heap.push (.cells #[.map none,.map none,.map none,.map none] 138)) ⟨R2a src mk fb n3 n4 n5 v n7,[d]⟩ w:=by unfold R2a R3a;simp only [Jh6,b40,J8x,J3l,Tryz.f40,Ja6];go_wp2;exact rfl
end
end Go.Sim.Z
