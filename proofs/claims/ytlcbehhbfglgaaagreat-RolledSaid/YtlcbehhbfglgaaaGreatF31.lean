/- PROVED HERE: laws. Conditions: none. -/
import Derived.Conc.Holds
import Derived.Test.YtlcbehhbfglgaaaGreatRows
import Derived.ProofKit
import Derived.Test.YtlcbehhbfglgaaaGreatF30
set_option linter.all false
set_option maxHeartbeats 4000000
set_option maxRecDepth 100000
namespace Go.Sim.Z
open Go Go.Proofs Go.RowKit Go.Conc Go.Maps
inductive J6c (b0:Nat) (E:Nat->Prop) (w:World):List (Nat × Obj)->Prop
 | nil:J6c b0 E w []
 | cons {p:Nat × Obj} {H:List (Nat × Obj)} (h:b0<=p.1/\E p.1/\w.heap[p.1]?=some p.2) (t:J6c b0 E w H):J6c b0 E w (p::H)
theorem J6c.hd {b0:Nat} {E:Nat->Prop} {w:World} {p:Nat × Obj} {H:List (Nat × Obj)} (h:J6c b0 E w (p::H)):b0<=p.1/\E p.1/\w.heap[p.1]?=some p.2:=by cases h;assumption
theorem J6c.tl {b0:Nat} {E:Nat->Prop} {w:World} {p:Nat × Obj} {H:List (Nat × Obj)} (h:J6c b0 E w (p::H)):J6c b0 E w H:=by cases h;assumption
theorem J6c.up {b0:Nat} {E E':Nat->Prop} {w w':World} {H:List (Nat × Obj)} (h:J6c b0 E w H) (hs:∀ b,E b->E' b) (hh:∀ b,E b->w'.heap[b]?=w.heap[b]?):J6c b0 E' w' H:=by
 induction h with
 | nil=>exact .nil
 | cons h _ ih=>exact .cons ⟨h.1,hs _ h.2.1,(hh _ h.2.1).trans h.2.2⟩ ih
def FJ (b0:Nat) (vv:Value) (b o n cap k:Nat) (f:Jg) (A B C:Int) (E:Nat->Prop) (w:World) (i:Nat) (v:Value):Prop:=∃ H,Jy0 vv b o n cap k f A B C i v H/\J6c b0 E w H
theorem FJ.up {b0:Nat} {vv:Value} {b o n cap k:Nat} {f:Jg} {A B C:Int} {E E':Nat->Prop} {w w':World} {i:Nat} {v:Value} (h:FJ b0 vv b o n cap k f A B C E w i v) (hs:∀ b,E b->E' b) (hh:∀ b,E b->w'.heap[b]?=w.heap[b]?):FJ b0 vv b o n cap k f A B C E' w' i v:=by obtain ⟨H,h1,h2⟩:=h;exact ⟨H,h1,h2.up hs hh⟩
theorem Jz4:J3v .any J4p 17 (fun i=>i+36)=true:=by kernel_rfl
theorem Jwg {E:Nat->Prop} {kb:Nat} {x y:Int} (h:E kb):VR C0 (idE E) (.agg #[.slice (some ⟨kb,0,none⟩) 3 3,.int .i64 x,.int .i64 y]) (.agg #[.slice (some ⟨kb,0,none⟩) 3 3,.int .i64 x,.int .i64 y]):=by
 refine .agg rfl fun i x x' h1 h2=>?_;rw [h1] at h2;cases h2
 match i with
 | 0=>cases h1;exact .slice _ _ _ _ ⟨rfl,h⟩
 | 1=>cases h1;exact .int _ _
 | 2=>cases h1;exact .int _ _
 | i+3=>simp at h1
section
variable {W E0 E:Nat->Prop} {w0 w:World} {T:Array Value} {n cap k b o:Nat} {v3:Value} {f:Jg} {A B C:Int} {kk:List Item} {cs:List Frame} {Post:(Nat->Prop)->Goroutine->World->Prop}
theorem J047 (hk:(k:Int)<n) (hW:W b) (hT:∀ c z,w0.heap[b]?≠some (.cells c wgT z)) (hc3:w0.cell? ⟨b,o+k*5+3,none⟩=some (.int .i64 f.it)) (hc4:w0.cell? ⟨b,o+k*5+4,none⟩=some (.int .i64 f.v))
  (kn:∀ E T w,HS 6 W E0 w0 E T w->F6 (some ⟨b,o,none⟩) n cap k v3 T->(∀ i,i<17->∃ v,T[i+36]?=some v/\FJ w0.heap.size v3 b o n cap k f A B C E w i v)->Reach Tryz.prog Post W (G ((base 6).at ⟨T,[]⟩ (.inRegion J4p [17,18]::kk)) cs) w) :
  ∀ (listed:Array Bool) (pre:List Nat),Wk J4p 17 listed pre->∀ E T w,listed.size=19->HS 6 W E0 w0 E T w->F6 (some ⟨b,o,none⟩) n cap k v3 T->T[5]?=some (.int .i64 A)->T[6]?=some (.int .i64 B)->T[7]?=some (.int .i64 C) ->
   (∀ i,i<17->listed[i]?=some true->∃ v,T[i+36]?=some v/\FJ w0.heap.size v3 b o n cap k f A B C E w i v)->Reach Tryz.prog Post W (G ((base 6).at ⟨T,[]⟩ (.inRegion J4p (pre++[17,18])::kk)) cs) w:=by
 intro listed pre hwk
 induction hwk with
 | done h=>exact fun E T w hls H F s5 s6 s7 hJ=>kn E T w H F fun i hi=>hJ i hi (h i hi)
 | @step listed i pre hi hr _ ih=>
  intro E T w hls H F s5 s6 s7 hJ;obtain ⟨hin,hf,o2x,ho,hafter⟩:=J2s hr;obtain ⟨o2,ho2,hg,hdd,hon,_⟩:=(Jdp Jz4).2.1 i hi;obtain rfl:o2=o2x:=by rw [ho] at ho2;exact (Ja0 ho2).symm
  have sz:=F.sz;have s0:=F.s0;have s3:=F.s3;have s4:=F.s4;have hv3:VR C0 (idE E) v3 v3:=H.tm.slot (i:=3) rfl s3;have hd:∀ j,(o2.after.toList.any fun e=>e.on == j && Region.binds .any e)=true->∃ v,T[j+36]?=some v/\FJ w0.heap.size v3 b o n cap k f A B C E w j v:=fun j hj=>by obtain ⟨e,he,h⟩:=List.any_eq_true.1 hj;rw [Ja8,beq_iff_eq] at h;obtain ⟨rfl,hb⟩:=h;exact hJ _ (by have:=hon e (Array.mem_toList_iff.1 he);omega) (hafter e (Array.mem_toList_iff.1 he) hb)
  have ih':∀ E' v w',HS 6 W E0 w0 E' (T.setIfInBounds (i+36) v) w'->(∀ b,E b->E' b)->(∀ b,E b->w'.heap[b]?=w.heap[b]?)->FJ w0.heap.size v3 b o n cap k f A B C E' w' i v->Reach Tryz.prog Post W (G ((base 6).at ⟨T.setIfInBounds (i+36) v,[]⟩ (.inRegion J4p (pre++[17,18])::kk)) cs) w':=fun E' v w' H' hs hh hv=>by
   refine ih E' _ w' (by simpa using hls) H' (F.set (by omega) v) ?_ ?_ ?_ fun j hj hl=>?_
   ·rw [Ja1 (by omega)];exact s5
   ·rw [Ja1 (by omega)];exact s6
   ·rw [Ja1 (by omega)];exact s7
   ·by_cases e:j=i
    ·subst e;exact ⟨v,by rw [Ja9 (by omega)],hv⟩
    ·rw [Ja1 (Ne.symm e)] at hl;obtain ⟨x,h1,h2⟩:=hJ j hj hl;exact ⟨x,by rw [Ja1 (by omega)];exact h1,h2.up hs hh⟩
  have Jr:∀ v,(∀ w1,(execOp (Act.eval ⟨T,[]⟩) o2).run Tryz.prog w1=.ok (.value v) w1)->(∀ w1,(execOp (Act.eval ⟨T,[]⟩) o2).events Tryz.prog w1 #[]=#[])->((C0.hl 6).contains (i+36)=true\/VR C0 (idE E) v v)->FJ w0.heap.size v3 b o n cap k f A B C E w i v ->
    Reach Tryz.prog Post W (G ((base 6).at ⟨T,[]⟩ (.inRegion J4p (i::(pre++[17,18]))::kk)) cs) w:=fun v hr he hv hj=>by
   exact Jc H ho (by simp [Region.wanted,hg]) hdd hr he hv fun w' H' hh=>ih' E v w' H' (fun b hb=>hb) (fun b _=>by rw [hh]) (hj.up (fun b hb=>hb) fun b _=>by rw [hh])
  show Reach Tryz.prog Post W (G ((base 6).at ⟨T,[]⟩ (.inRegion J4p (i::(pre++[17,18]))::kk)) cs) w
  revert ho hd Jr ih'
  clear hf hr hin ih hafter ho2 hon hg hdd
  match i,hi with
  | 0,_=>
   intro ho hd ih' Jr;obtain rfl:o2=Jem:=(Ja0 ho).symm;exact Jr v3 (fun w1=>by simp [execOp,go_sem,Jem,s3];try rfl) (fun w1=>by simp [execOp,go_sem,Jem,s3];try rfl) (.inr hv3) ⟨[],⟨rfl,rfl⟩,.nil⟩
  | 1,_=>
   intro ho hd ih' Jr;obtain rfl:o2=Jen:=(Ja0 ho).symm;exact Jr (.int .i64 A) (fun w1=>by simp [execOp,go_sem,Jen,s5];try rfl) (fun w1=>by simp [execOp,go_sem,Jen,s5];try rfl) (.inr (.int _ _)) ⟨[],⟨rfl,rfl⟩,.nil⟩
  | 2,_=>
   intro ho hd ih' Jr;obtain rfl:o2=Jeo:=(Ja0 ho).symm;exact Jr (.int .i64 B) (fun w1=>by simp [execOp,go_sem,Jeo,s6];try rfl) (fun w1=>by simp [execOp,go_sem,Jeo,s6];try rfl) (.inr (.int _ _)) ⟨[],⟨rfl,rfl⟩,.nil⟩
  | 3,_=>
   intro ho hd ih' Jr;obtain rfl:o2=Jep:=(Ja0 ho).symm;exact Jr (.int .i64 C) (fun w1=>by simp [execOp,go_sem,Jep,s7];try rfl) (fun w1=>by simp [execOp,go_sem,Jep,s7];try rfl) (.inr (.int _ _)) ⟨[],⟨rfl,rfl⟩,.nil⟩
  | 4,_=>
   intro ho hd ih' Jr;obtain rfl:=(Ja0 ho).symm;obtain ⟨_,e1,H1,⟨rfl,rfl⟩,l1⟩:=hd 1 rfl;obtain ⟨_,e2,H2,⟨rfl,rfl⟩,l2⟩:=hd 2 rfl;obtain ⟨_,e3,H3,⟨rfl,rfl⟩,l3⟩:=hd 3 rfl;refine Jjm (o:=Jeq) (v:=.slice (some ⟨w.heap.size,0,none⟩) 3 3) (arr:=#[.int .i64 A,.int .i64 B,.int .i64 C]) (ty:=3) H rfl rfl rfl (fun w1 hz=>by simp [execOp,go_sem,Jeq,e1,e2,e3,hz];try rfl) (fun w1=>by simp [execOp,go_sem,Jeq,e1,e2,e3];try rfl) (fun x hx=>?_) (.inr (.slice _ _ _ _ ⟨rfl,.inr rfl⟩)) fun w' H' hk hb hz=>?_
   ·simp only [Jb8,Jc2,or_false] at hx;rcases hx with rfl|rfl|rfl<;>exact .int _ _
   ·exact ih' _ _ _ H' (fun b hb=>.inl hb) (fun b hb=>hk b (.inl hb)) ⟨_,⟨_,rfl,rfl⟩,.cons ⟨H.sz,.inr rfl,hb⟩ .nil⟩
  | 5,_=>
   intro ho hd ih' Jr;obtain rfl:o2=Jer:=(Ja0 ho).symm;exact Jr (.slice (some ⟨b,o,none⟩) n cap) (fun w1=>by simp [execOp,go_sem,Jer,s0];try rfl) (fun w1=>by simp [execOp,go_sem,Jer,s0];try rfl) (.inl rfl) ⟨[],⟨rfl,rfl⟩,.nil⟩
  | 10,_=>
   intro ho hd ih' Jr;obtain rfl:o2=Jbc:=(Ja0 ho).symm;exact Jr (.slice (some ⟨b,o,none⟩) n cap) (fun w1=>by simp [execOp,go_sem,Jbc,s0];try rfl) (fun w1=>by simp [execOp,go_sem,Jbc,s0];try rfl) (.inl rfl) ⟨[],⟨rfl,rfl⟩,.nil⟩
  | 6,_=>
   intro ho hd ih' Jr;obtain rfl:o2=Jes:=(Ja0 ho).symm;exact Jr (.int .i64 k) (fun w1=>by simp [execOp,go_sem,Jes,s4];try rfl) (fun w1=>by simp [execOp,go_sem,Jes,s4];try rfl) (.inr (.int _ _)) ⟨[],⟨rfl,rfl⟩,.nil⟩
  | 11,_=>
   intro ho hd ih' Jr;obtain rfl:o2=Jbd:=(Ja0 ho).symm;exact Jr (.int .i64 k) (fun w1=>by simp [execOp,go_sem,Jbd,s4];try rfl) (fun w1=>by simp [execOp,go_sem,Jbd,s4];try rfl) (.inr (.int _ _)) ⟨[],⟨rfl,rfl⟩,.nil⟩
  | 7,_=>
   intro ho hd ih' Jr;obtain rfl:o2=Jet:=(Ja0 ho).symm;obtain ⟨_,e5,H5,⟨rfl,rfl⟩,l5⟩:=hd 5 rfl;obtain ⟨_,e6,H6,⟨rfl,rfl⟩,l6⟩:=hd 6 rfl;exact Jr (pt b (o+k*5)) (fun w1=>by simp [execOp,go_sem,Jet,e5,e6,hk];try rfl) (fun w1=>by simp [execOp,go_sem,Jet,e5,e6,hk];try rfl) (.inl rfl) ⟨[],⟨rfl,rfl⟩,.nil⟩
  | 8,_=>
   intro ho hd ih' Jr;obtain rfl:o2=Jeu:=(Ja0 ho).symm;obtain ⟨_,e7,H7,⟨rfl,rfl⟩,l7⟩:=hd 7 rfl;exact Jr (pt b (o+k*5+3)) (fun w1=>by simp [execOp,go_sem,Jeu,e7];try rfl) (fun w1=>by simp [execOp,go_sem,Jeu,e7];try rfl) (.inl rfl) ⟨[],⟨rfl,rfl⟩,.nil⟩
  | 12,_=>
   intro ho hd ih' Jr;obtain rfl:o2=Jbe:=(Ja0 ho).symm;obtain ⟨_,e5,H5,⟨rfl,rfl⟩,l5⟩:=hd 10 rfl;obtain ⟨_,e6,H6,⟨rfl,rfl⟩,l6⟩:=hd 11 rfl;exact Jr (pt b (o+k*5)) (fun w1=>by simp [execOp,go_sem,Jbe,e5,e6,hk];try rfl) (fun w1=>by simp [execOp,go_sem,Jbe,e5,e6,hk];try rfl) (.inl rfl) ⟨[],⟨rfl,rfl⟩,.nil⟩
  | 13,_=>
   intro ho hd ih' Jr;obtain rfl:o2=Jbf:=(Ja0 ho).symm;obtain ⟨_,e7,H7,⟨rfl,rfl⟩,l7⟩:=hd 12 rfl;exact Jr (pt b (o+k*5+4)) (fun w1=>by simp [execOp,go_sem,Jbf,e7];try rfl) (fun w1=>by simp [execOp,go_sem,Jbf,e7];try rfl) (.inl rfl) ⟨[],⟨rfl,rfl⟩,.nil⟩
  | 9,_=>
   intro ho hd ih' Jr;obtain rfl:o2=Jal:=(Ja0 ho).symm;obtain ⟨_,e8,H8,⟨rfl,rfl⟩,l8⟩:=hd 8 rfl;refine J8a (o:=Jal) (v:=.int .i64 f.it) (a:=⟨b,o+k*5+3,none⟩) H hW (fun c z=>by rw [H.kw b hW];exact hT c z) ((Jb4 (H.kw b hW)).trans hc3) rfl rfl rfl (fun w1 hc1=>by simp [execOp,go_sem,Jal,e8,hc1];try rfl) (fun w1 hc1=>by simp [execOp,go_sem,Jal,e8,hc1];try rfl) (.inr (.int _ _)) fun w' H' hk hz=>?_;exact ih' _ _ _ H' (fun b hb=>hb) (fun b hb=>hk b (.inl hb)) ⟨[],⟨rfl,rfl⟩,.nil⟩
  | 14,_=>
   intro ho hd ih' Jr;obtain rfl:o2=J8b:=(Ja0 ho).symm;obtain ⟨_,e8,H8,⟨rfl,rfl⟩,l8⟩:=hd 13 rfl;refine J8a (o:=J8b) (v:=.int .i64 f.v) (a:=⟨b,o+k*5+4,none⟩) H hW (fun c z=>by rw [H.kw b hW];exact hT c z) ((Jb4 (H.kw b hW)).trans hc4) rfl rfl rfl (fun w1 hc1=>by simp [execOp,go_sem,J8b,e8,hc1];try rfl) (fun w1 hc1=>by simp [execOp,go_sem,J8b,e8,hc1];try rfl) (.inr (.int _ _)) fun w' H' hk hz=>?_;exact ih' _ _ _ H' (fun b hb=>hb) (fun b hb=>hk b (.inl hb)) ⟨[],⟨rfl,rfl⟩,.nil⟩
  | 15,_=>
   intro ho hd ih' Jr;obtain rfl:o2=Jbg:=(Ja0 ho).symm;obtain ⟨_,e4,H4,⟨kb,rfl,rfl⟩,l4⟩:=hd 4 rfl;obtain ⟨_,e9,H9,⟨rfl,rfl⟩,l9⟩:=hd 9 rfl;obtain ⟨_,e14,H14,⟨rfl,rfl⟩,l14⟩:=hd 14 rfl;exact Jr (.agg #[.slice (some ⟨kb,0,none⟩) 3 3,.int .i64 f.it,.int .i64 f.v]) (fun w1=>by simp [execOp,go_sem,Jbg,e4,e9,e14];try rfl) (fun w1=>by simp [execOp,go_sem,Jbg,e4,e9,e14];try rfl) (.inr (Jwg l4.hd.2.1)) ⟨_,⟨_,rfl,rfl⟩,l4⟩
  | 16,_=>
   intro ho hd ih' Jr;obtain rfl:o2=J8c:=(Ja0 ho).symm;obtain ⟨_,e15,H15,⟨kb,rfl,rfl⟩,l15⟩:=hd 15 rfl;refine Jjm (o:=J8c) (v:=.slice (some ⟨w.heap.size,0,none⟩) 1 1) (arr:=#[.slice (some ⟨kb,0,none⟩) 3 3,.int .i64 f.it,.int .i64 f.v]) (ty:=47) H rfl rfl rfl (fun w1 hz=>by simp [execOp,go_sem,J8c,e15,hz];try rfl) (fun w1=>by simp [execOp,go_sem,J8c,e15];try rfl) (fun x hx=>?_) (.inr (.slice _ _ _ _ ⟨rfl,.inr rfl⟩)) fun w' H' hk hb hz=>?_
   ·simp only [Jb8,Jc2,or_false] at hx;rcases hx with rfl|rfl|rfl
    ·exact .slice _ _ _ _ ⟨rfl,l15.hd.2.1⟩
    ·exact .int _ _
    ·exact .int _ _
   ·exact ih' _ _ _ H' (fun b hb=>.inl hb) (fun b hb=>hk b (.inl hb)) ⟨_,⟨_,_,rfl,rfl⟩,.cons ⟨H.sz,.inr rfl,hb⟩ (l15.up (fun b hb=>.inl hb) fun b hb=>hk b (.inl hb))⟩
  | i+17,h=>exact absurd h (by omega)
end
section
variable {W E0 E:Nat->Prop} {w0 w:World} {T:Array Value} {la:Option Addr} {n cap k:Nat} {v3:Value} {kk:List Item} {cs:List Frame} {Post:(Nat->Prop)->Goroutine->World->Prop}
theorem Jz5 (H:HS 6 W E0 w0 E T w) (F:F6 la n cap k v3 T) (hkn:(k:Int)<n) (hk2:(k:Int)<200)
  (kn:∀ T' w',HS 6 W E0 w0 E T' w'->F6 la n cap k v3 T'->T'[15]?=some (.bool true)->w'.heap=w.heap->Reach Tryz.prog Post W (G ((base 6).at ⟨T',[]⟩ kk) cs) w') :
  Reach Tryz.prog Post W (G ((base 6).at ⟨T,[]⟩ (.code (.region 3 J5o false)::kk)) cs) w:=by
 have sz:=F.sz;have s0:=F.s0;have s4:=F.s4;refine J6 (fun w1=>stepG_region) rfl fun d1=>?_;rw [show List.range J5o.size=[0,1,2,3,4,5,6,7] from rfl];have H:=H.at d1;refine Jc (o:=J4b) (v:=.int .i64 k) H rfl rfl rfl (fun w1=>by simp [execOp,go_sem,J4b,s4];try rfl) (fun w1=>by simp [execOp,go_sem,J4b,s4];try rfl) (.inr (.int _ _)) fun w0 H h0=>?_;refine Jc (o:=J4c) (v:=.slice la n cap) H rfl rfl rfl (fun w1=>by simp [execOp,go_sem,J4c,s0];try rfl) (fun w1=>by simp [execOp,go_sem,J4c,s0];try rfl) (.inl rfl) fun w1 H h1=>?_;refine Jc (o:=J4d) (v:=.int .i64 n) H rfl rfl rfl (fun w1=>by simp [execOp,go_sem,J4d,sz];try rfl) (fun w1=>by simp [execOp,go_sem,J4d,sz];try rfl) (.inr (.int _ _)) fun w2 H h2=>?_;refine Jc (o:=J4e) (v:=.bool true) H rfl rfl rfl (fun w1=>by simp [execOp,go_sem,J4e,sz,hkn];try rfl) (fun w1=>by simp [execOp,go_sem,J4e,sz,hkn];try rfl) (.inr (.bool _)) fun w3 H h3=>?_;refine Jc (o:=J1w) (v:=.bool true) H rfl rfl rfl (fun w1=>by simp [execOp,go_sem,J1w,sz];try rfl) (fun w1=>by simp [execOp,go_sem,J1w,sz];try rfl) (.inr (.bool _)) fun w4 H h4=>?_;refine Jc (o:=J3p) (v:=.int .i64 k) H rfl (by simp [Region.wanted,yielded,J3p,J5o,J1w,sz]) rfl (fun w1=>by simp [execOp,go_sem,J3p,s4];try rfl) (fun w1=>by simp [execOp,go_sem,J3p,s4];try rfl) (.inr (.int _ _)) fun w5 H h5=>?_;refine Jc (o:=J3q) (v:=.bool true) H rfl (by simp [Region.wanted,yielded,J3q,J5o,J1w,sz]) rfl (fun w1=>by simp [execOp,go_sem,J3q,sz,hk2];try rfl) (fun w1=>by simp [execOp,go_sem,J3q,sz,hk2];try rfl) (.inr (.bool _)) fun w6 H h6=>?_;refine Jc (o:=J4f) (v:=.bool true) H rfl rfl rfl (fun w1=>by simp [execOp,go_sem,J4f,sz];try rfl) (fun w1=>by simp [execOp,go_sem,J4f,sz];try rfl) (.inr (.bool _)) fun w7 H h7=>?_;refine J6 (fun w1=>stepG_region_end) rfl fun d2=>?_;exact kn _ _ (H.at d2) ((((((((F.set (by omega) _).set (by omega) _).set (by omega) _).set (by omega) _).set (by omega) _).set (by omega) _).set (by omega) _).set (by omega) _) (by simp [sz]) (h7.trans (h6.trans (h5.trans (h4.trans (h3.trans (h2.trans (h1.trans (h0.trans rfl))))))))
theorem Jz6 (H:HS 6 W E0 w0 E T w) (F:F6 la n cap k v3 T) (hkn:(k:Int)<n) (hk2:¬ (k:Int)<200)
  (kn:∀ T' w',HS 6 W E0 w0 E T' w'->F6 la n cap k v3 T'->T'[15]?=some (.bool false)->w'.heap=w.heap->Reach Tryz.prog Post W (G ((base 6).at ⟨T',[]⟩ kk) cs) w') :
  Reach Tryz.prog Post W (G ((base 6).at ⟨T,[]⟩ (.code (.region 3 J5o false)::kk)) cs) w:=by
 have sz:=F.sz;have s0:=F.s0;have s4:=F.s4;refine J6 (fun w1=>stepG_region) rfl fun d1=>?_;rw [show List.range J5o.size=[0,1,2,3,4,5,6,7] from rfl];have H:=H.at d1;refine Jc (o:=J4b) (v:=.int .i64 k) H rfl rfl rfl (fun w1=>by simp [execOp,go_sem,J4b,s4];try rfl) (fun w1=>by simp [execOp,go_sem,J4b,s4];try rfl) (.inr (.int _ _)) fun w0 H h0=>?_;refine Jc (o:=J4c) (v:=.slice la n cap) H rfl rfl rfl (fun w1=>by simp [execOp,go_sem,J4c,s0];try rfl) (fun w1=>by simp [execOp,go_sem,J4c,s0];try rfl) (.inl rfl) fun w1 H h1=>?_;refine Jc (o:=J4d) (v:=.int .i64 n) H rfl rfl rfl (fun w1=>by simp [execOp,go_sem,J4d,sz];try rfl) (fun w1=>by simp [execOp,go_sem,J4d,sz];try rfl) (.inr (.int _ _)) fun w2 H h2=>?_;refine Jc (o:=J4e) (v:=.bool true) H rfl rfl rfl (fun w1=>by simp [execOp,go_sem,J4e,sz,hkn];try rfl) (fun w1=>by simp [execOp,go_sem,J4e,sz,hkn];try rfl) (.inr (.bool _)) fun w3 H h3=>?_;refine Jc (o:=J1w) (v:=.bool true) H rfl rfl rfl (fun w1=>by simp [execOp,go_sem,J1w,sz];try rfl) (fun w1=>by simp [execOp,go_sem,J1w,sz];try rfl) (.inr (.bool _)) fun w4 H h4=>?_;refine Jc (o:=J3p) (v:=.int .i64 k) H rfl (by simp [Region.wanted,yielded,J3p,J5o,J1w,sz]) rfl (fun w1=>by simp [execOp,go_sem,J3p,s4];try rfl) (fun w1=>by simp [execOp,go_sem,J3p,s4];try rfl) (.inr (.int _ _)) fun w5 H h5=>?_;refine Jc (o:=J3q) (v:=.bool false) H rfl (by simp [Region.wanted,yielded,J3q,J5o,J1w,sz]) rfl (fun w1=>by simp [execOp,go_sem,J3q,sz,hk2];try rfl) (fun w1=>by simp [execOp,go_sem,J3q,sz,hk2];try rfl) (.inr (.bool _)) fun w6 H h6=>?_;refine Jc (o:=J4f) (v:=.bool false) H rfl rfl rfl (fun w1=>by simp [execOp,go_sem,J4f,sz];try rfl) (fun w1=>by simp [execOp,go_sem,J4f,sz];try rfl) (.inr (.bool _)) fun w7 H h7=>?_;refine J6 (fun w1=>stepG_region_end) rfl fun d2=>?_;exact kn _ _ (H.at d2) ((((((((F.set (by omega) _).set (by omega) _).set (by omega) _).set (by omega) _).set (by omega) _).set (by omega) _).set (by omega) _).set (by omega) _) (by simp [sz]) (h7.trans (h6.trans (h5.trans (h4.trans (h3.trans (h2.trans (h1.trans (h0.trans rfl))))))))
theorem Jz7 (H:HS 6 W E0 w0 E T w) (F:F6 la n cap k v3 T) (hkn:¬ (k:Int)<n)
  (kn:∀ T' w',HS 6 W E0 w0 E T' w'->F6 la n cap k v3 T'->T'[15]?=some (.bool false)->w'.heap=w.heap->Reach Tryz.prog Post W (G ((base 6).at ⟨T',[]⟩ kk) cs) w') :
  Reach Tryz.prog Post W (G ((base 6).at ⟨T,[]⟩ (.code (.region 3 J5o false)::kk)) cs) w:=by
 have sz:=F.sz;have s0:=F.s0;have s4:=F.s4;refine J6 (fun w1=>stepG_region) rfl fun d1=>?_;rw [show List.range J5o.size=[0,1,2,3,4,5,6,7] from rfl];have H:=H.at d1;refine Jc (o:=J4b) (v:=.int .i64 k) H rfl rfl rfl (fun w1=>by simp [execOp,go_sem,J4b,s4];try rfl) (fun w1=>by simp [execOp,go_sem,J4b,s4];try rfl) (.inr (.int _ _)) fun w0 H h0=>?_;refine Jc (o:=J4c) (v:=.slice la n cap) H rfl rfl rfl (fun w1=>by simp [execOp,go_sem,J4c,s0];try rfl) (fun w1=>by simp [execOp,go_sem,J4c,s0];try rfl) (.inl rfl) fun w1 H h1=>?_;refine Jc (o:=J4d) (v:=.int .i64 n) H rfl rfl rfl (fun w1=>by simp [execOp,go_sem,J4d,sz];try rfl) (fun w1=>by simp [execOp,go_sem,J4d,sz];try rfl) (.inr (.int _ _)) fun w2 H h2=>?_;refine Jc (o:=J4e) (v:=.bool false) H rfl rfl rfl (fun w1=>by simp [execOp,go_sem,J4e,sz,hkn];try rfl) (fun w1=>by simp [execOp,go_sem,J4e,sz,hkn];try rfl) (.inr (.bool _)) fun w3 H h3=>?_;refine Jc (o:=J1w) (v:=.bool false) H rfl rfl rfl (fun w1=>by simp [execOp,go_sem,J1w,sz];try rfl) (fun w1=>by simp [execOp,go_sem,J1w,sz];try rfl) (.inr (.bool _)) fun w4 H h4=>?_;refine Jlh (o:=J3p) H rfl (by simp [Region.wanted,yielded,J3p,J5o,J1w,sz]) rfl fun w5 H h5=>?_;refine Jlh (o:=J3q) H rfl (by simp [Region.wanted,yielded,J3q,J5o,J1w,sz]) rfl fun w6 H h6=>?_;refine Jc (o:=J4f) (v:=.bool false) H rfl rfl rfl (fun w1=>by simp [execOp,go_sem,J4f,sz];try rfl) (fun w1=>by simp [execOp,go_sem,J4f,sz];try rfl) (.inr (.bool _)) fun w7 H h7=>?_;refine J6 (fun w1=>stepG_region_end) rfl fun d2=>?_;exact kn _ _ (H.at d2) ((((((((F.set (by omega) _).set (by omega) _).set (by omega) _).set (by omega) _).set (by omega) _).set (by omega) _).set (by omega) _).set (by omega) _) (by simp [sz]) (h7.trans (h6.trans (h5.trans (h4.trans (h3.trans (h2.trans (h1.trans (h0.trans rfl))))))))
theorem inc6 (H:HS 6 W E0 w0 E T w) (F:F6 la n cap k v3 T) (hk:k<1000)
  (kn:∀ T' w',HS 6 W E0 w0 E T' w'->F6 la n cap (k+1) v3 T'->w'.heap=w.heap->Reach Tryz.prog Post W (G ((base 6).at ⟨T',[]⟩ kk) cs) w') :
  Reach Tryz.prog Post W (G ((base 6).at ⟨T,[]⟩ (.code (.region 4 Jjn false)::kk)) cs) w:=by
 have sz:=F.sz;have s4:=F.s4;have hw:IntKind.i64.wrap ((k:Int)+1)=((k+1:Nat):Int):=by simp [IntKind.wrap,IntKind.signed,IntKind.bits];omega
 refine J6 (fun w1=>stepG_region) rfl fun d1=>?_;rw [show List.range Jjn.size=[0,1,2] from rfl];have H:=H.at d1;refine Jc (o:=Jdy) (v:=.int .i64 k) H rfl rfl rfl (fun w1=>by simp [execOp,go_sem,Jdy,s4];try rfl) (fun w1=>by simp [execOp,go_sem,Jdy,s4];try rfl) (.inr (.int _ _)) fun w2 H h0=>?_;refine Jc (o:=Jdz) (v:=.int .i64 (k+1:Nat)) H rfl rfl rfl (fun w1=>by simp [execOp,go_sem,Jdz,sz,hw];try rfl) (fun w1=>by simp [execOp,go_sem,Jdz,sz];try rfl) (.inr (.int _ _)) fun w3 H h1=>?_;refine Jc (o:=Je0) (v:=.int .i64 (k+1:Nat)) H rfl rfl rfl (fun w1=>by simp [execOp,go_sem,Je0,sz];try rfl) (fun w1=>by simp [execOp,go_sem,Je0,sz];try rfl) (.inr (.int _ _)) fun w4 H h2=>?_;refine J6 (fun w1=>stepG_region_end) rfl fun d2=>?_;obtain ⟨f1,f2,f3,f4,f5⟩:=F;refine kn _ _ (H.at d2) ⟨by simpa using f1,?_,?_,?_,by simp [sz]⟩ (h2.trans (h1.trans h0))<;>(repeat rw [Ja1 (by omega)])<;>assumption
theorem J13.keE {base:Nat} {v:Value} {L:List (Jg × Nat)} {w':World} (h:J13 w base v L) (k:KE E w w') (hv:VR C0 (idE E) v v) (hE:∀ p∈L,E p.2):J13 w' base v L:=by
 refine ⟨⟨h.own.1,?_⟩,fun p hp=>⟨(h.rows p hp).1,(by obtain ⟨cur,h1,h2⟩:=(h.rows p hp).2.1;exact ⟨cur,k.blk (hE p hp) h1,h2⟩),(h.rows p hp).2.2⟩⟩;rcases h.own.2 with hn|⟨g,cap,cur,rfl,hb,hg,rest⟩
 ·exact .inl hn
 ·exact .inr ⟨g,cap,cur,rfl,hb,k _ _ hv.J1i hg trivial,rest⟩
theorem HS.to0 {fn:FuncId} {E':Nat->Prop} {w':World} (h:HS fn W E0 w0 E T w) (hB:BOk C0 S0 W E' w') (hs:∀ b,E b->E' b) (he:KE E0 w w') (hw:∀ b,W b->w'.heap[b]?=w.heap[b]?) (hz:w.heap.size<=w'.heap.size) {T':Array Value} (ht:TmR C0 S0 fn (idE E') T' T'):HS fn W E0 w0 E' T' w':=
 ⟨hB,fun b hb=>hs b (h.le b hb),h.ke.trans he,fun b hb=>(hw b hb).trans (h.kw b hb),ht,h.own,Jb6 h.sz hz⟩
theorem Jqk {b o base:Nat} {f:Jg} {A B C:Int} {L:List (Jg × Nat)} (H:HS 6 W E0 w0 E T w) (F:F6 (some ⟨b,o,none⟩) n cap k v3 T) (s5:T[5]?=some (.int .i64 A)) (s6:T[6]?=some (.int .i64 B)) (s7:T[7]?=some (.int .i64 C)) (hk:(k:Int)<n) (hW:W b) (hT:∀ c z,w.heap[b]?≠some (.cells c wgT z)) (hc3:w.cell? ⟨b,o+k*5+3,none⟩=some (.int .i64 f.it)) (hc4:w.cell? ⟨b,o+k*5+4,none⟩=some (.int .i64 f.v))
  (hL:J13 w base v3 L) (hLE:∀ p∈L,E p.2) (hbs:base<=w0.heap.size) (hE0:∀ b,E0 b->b<base) (hn:L.length<=1000) (hf:f.k=[A,B,C])
  (kn:∀ E' T' w' v' kb,HS 6 W E0 w0 E' T' w'->F6 (some ⟨b,o,none⟩) n cap k v' T'->J13 w' base v' (L++[(f,kb)])->(∀ p∈L++[(f,kb)],E' p.2)->Reach Tryz.prog Post W (G ((Go.Conc.base 6).at ⟨T',[]⟩ kk) cs) w') :
  Reach Tryz.prog Post W (G ((Go.Conc.base 6).at ⟨T,[]⟩ (.code (.region 8 J4p true)::kk)) cs) w:=by
 refine Reach.mid (Mid:=fun g' w'=>∃ n0,g'=G ((Go.Conc.base 6).at ⟨T,[]⟩ (.inRegion J4p (Region.schedule (C0.P.follows .mixedOrders) J4p n0)::kk)) cs/\BOk C0 S0 W E w'/\w'.heap.size=w.heap.size/\∀ b,E b->w'.heap[b]?=w.heap[b]?) (Reach.draw (C:=C0) rfl H.bok fun n0 w' h1 h2 h3=>Reach.here ⟨rfl,n0,rfl,h1,h2,h3⟩) fun g' w1 ⟨n0,e,h1,h2,h3⟩ hK=>?_;subst e;rw [show C0.P.follows .mixedOrders=true from mixed];obtain ⟨pre,hpre,_,_,hwk⟩:=Jjf Tryz.prog Jz4 n0;rw [hpre,show List.range' 17 (J4p.size-17)=[17,18] from rfl];have Hs:HS 6 W E w E T w1:=H.start.to h1 (fun _ h=>h) (.of_eq h3) hK (by omega);refine J047 (f:=f) (A:=A) (B:=B) (C:=C) hk hW hT hc3 hc4 (fun E2 T2 w2 H2 F2 hJ=>?_) (Array.replicate J4p.size false) pre hwk E T w1 rfl Hs F s5 s6 s7 fun i hi hl=>by rw [Array.getElem?_replicate] at hl;split at hl<;>cases hl
 have hL2:J13 w2 base v3 L:=hL.keE H2.ke (H.tm.slot (i:=3) rfl F.s3) hLE;obtain ⟨v0,f0,H0,⟨_,e0⟩,l0⟩:=hJ 0 (by omega);rw [e0] at f0;obtain ⟨_,f16,H16,⟨sb,kb,rfl,rfl⟩,l16⟩:=hJ 16 (by omega);have b1:=l16.hd;have b2:=l16.tl.hd;simp only at b1 b2;have sz2:=F2.sz;have hz2:=H2.sz;have hz:=H.sz;have hrow:Row false w2 kb 3 .i64 f.k 3:=by
  rw [hf];refine ⟨_,⟨(0,0),b2.2.2,fun _=>rfl⟩,rfl,by show 3<=3;omega,fun i hi=>?_,?_⟩
  ·match i,hi with
   | 0,_=>rfl
   | 1,_=>rfl
   | 2,_=>rfl
   | i+3,hi=>exact absurd (show i+3<3 from hi) (by omega)
  ·exact fun v hv=>by
    simp only [Jb8,Jc2,or_false] at hv;rcases hv with rfl|rfl|rfl<;>exact ⟨_,_,rfl⟩
 have Hc:=H.comp H2;refine Jdu (pre:=[17]) (rest:=[18]) (Q:=fun T3 w3=>∃ v',T3=T2.setIfInBounds 53 v'/\J13 w3 base v' (L++[(f,kb)])/\w2.heap.size<=w3.heap.size/\∀ b,b<base->w3.heap[b]?=w2.heap[b]?) Hc (by kernel_rfl) (by simp) Jnl rfl Jex (fun τ=>?_) fun E3 T3 w3' w3 hs3 hB3 hW3 ht3 ⟨v',q1,q2,q3,q4⟩ hw3=>?_
 ·rw [wpOps_cons];obtain ⟨v',w',r1,r2,r3,r4⟩:=(hL2.kept (w':=w2.tp τ 0) fun _ _=>rfl).push (f:=f) (kb:=kb) (sb:=sb) (by show base<=w2.heap.size;omega) hn (by rw [hf];rfl) (by omega) (hrow.kept rfl) b1.2.2 23;refine Jmz rfl rfl rfl f0 f16 r1 ?_;refine ⟨rfl,rfl,fun i hi hi2=>?_,v',rfl,r2,r3.size,fun b hb=>r3.block b (by show b<w2.heap.size;omega) fun e=>?_⟩
  ·have:=hl6 hi;exact Ja1 (by omega)
  ·have:=r4 b e.symm;omega
 subst q1;have vE3:VR C0 (idE E3) v' v':=ht3.slot (i:=53) rfl (by rw [Ja9 (by omega)]);have l3:=Jy rfl hW3;have Hd:=Hc.to0 hB3 hs3 ((KE.of_eq (fun b hb=>q4 b (hE0 b hb))).trans (l3.mono fun b hb=>hs3 b (Hc.le b hb))) hw3 (by rw [hW3.lsz rfl];exact q3) ht3;have hE3:∀ p∈L++[(f,kb)],E3 p.2:=fun p hp=>by
  rcases Jc9.1 hp with hp|hp
  ·exact hs3 _ (H2.le _ (hLE p hp))
  ·simp only [Jb8,Jc2,or_false] at hp;subst hp;exact hs3 _ b2.2.1
 have hLd:=q2.keE l3 vE3 hE3;refine Jc (o:=Jbh) (v:=v') Hd rfl rfl rfl (fun w1=>by simp [execOp,go_sem,Jbh,sz2];try rfl) (fun w1=>by simp [execOp,go_sem,Jbh,sz2];try rfl) (.inr vE3) fun w4 H4 h4=>?_;refine J6 (fun w1=>stepG_region_end) rfl fun d2=>?_;refine kn _ _ _ v' kb (H4.at d2) ?_ (hLd.kept (w':=w4.at d2) fun b _=>by show w4.heap[b]?=_;rw [h4]) hE3;obtain ⟨f1,f2,f3,f4,f5⟩:=F2;refine ⟨by simpa using f1,?_,?_,by simp [sz2],?_⟩<;>(repeat rw [Ja1 (by omega)])<;>assumption
end
section
variable {W E0 E:Nat->Prop} {w0 w:World} {T:Array Value} {la:Option Addr} {rs:List J1t} {fs:List Jg} {n cap k:Nat} {v3:Value} {kk:List Item} {cs:List Frame} {Post:(Nat->Prop)->Goroutine->World->Prop}
theorem Jz8 {E:Nat->Prop} {w:World} {T:Array Value} (hR:Jaz w0 la rs) (hn:rs.length=n) (hW:∀ a,la=some a->W a.block) (hT:∀ a,la=some a->∀ c z,w0.heap[a.block]?≠some (.cells c wgT z)) (hE0:∀ b,E0 b->b<w0.heap.size) {L:List (Jg × Nat)} (hk:k<n) (hk2:k<200) (H:HS 6 W E0 w0 E T w) (F:F6 la n cap k v3 T) (hL:J13 w w0.heap.size v3 L) (hLr:L.map (·.1)=(rs.take k).map J1t.fact) (hLE:∀ p∈L,E p.2)
  (kn:∀ E' T' w' v' L',HS 6 W E0 w0 E' T' w'->F6 la n cap (k+1) v' T'->J13 w' w0.heap.size v' L'->L'.map (·.1)=(rs.take (k+1)).map J1t.fact->(∀ p∈L',E' p.2)->Reach Tryz.prog Post W (G ((Go.Conc.base 6).at ⟨T',[]⟩ kk) cs) w') :
  Reach Tryz.prog Post W (G ((Go.Conc.base 6).at ⟨T,[]⟩ (.code (.seq (.block 1 (.seq (.region 5 Jjo false) (.seq (.region 6 Jjp false) (.seq (.region 7 Jjq false) (.region 8 J4p true))))) (.region 4 Jjn false))::kk)) cs) w:=by
 obtain ⟨r,hr⟩:∃ r,rs[k]?=some r:=⟨rs[k]'(by omega),Jb1 _⟩;have hro:=hR.ok r (Jd0 hr);obtain ⟨b,o,hla,hb,q0,q1,q2,q3,q4⟩:=hR.at_ k r hr;have hWb:=hW _ hla;have hTb:=hT _ hla;simp only at hWb hTb;have up:∀ {w:World},(∀ b,W b->w.heap[b]?=w0.heap[b]?)->∀ {i v},w0.cell? ⟨b,i,none⟩=some v->w.cell? ⟨b,i,none⟩=some v:=fun h _ _ hc=>(Jb4 (h b hWb)).trans hc;have upT:∀ {w:World},(∀ b,W b->w.heap[b]?=w0.heap[b]?)->∀ c z,w.heap[b]?≠some (.cells c wgT z):=fun h c z=>by rw [h b hWb];exact hTb c z
 refine J6 (fun w1=>stepG_seq) rfl fun d1=>?_;refine J6 (fun w1=>stepG_block) rfl fun d2=>?_;refine J6 (fun w1=>stepG_seq) rfl fun d3=>?_;have H1:=((H.at d1).at d2).at d3;have hL1:J13 (((w.at d1).at d2).at d3) w0.heap.size v3 L:=hL.kept fun _ _=>rfl;refine fld5 H1.start F hla hk hWb (upT H1.kw) (up H1.kw q0) hro.a fun E2 T2 w2 H2 F2 s5 z5 _=>?_;have H2':=H1.comp H2;have hL2:=hL1.keE H2.ke (H1.tm.slot (i:=3) rfl F.s3) hLE;have hE2:∀ p∈L,E2 p.2:=fun p hp=>H2.le _ (hLE p hp);refine J6 (fun w1=>stepG_seq) rfl fun d4=>?_;have H2':=H2'.at d4;have hL2:J13 (w2.at d4) w0.heap.size v3 L:=hL2.kept fun _ _=>rfl;refine fld6 H2'.start F2 hla hk hWb (upT H2'.kw) (up H2'.kw q1) hro.b fun E3 T3 w3 H3 F3 s6 z6 _=>?_;have H3':=H2'.comp H3;have hL3:=hL2.keE H3.ke (H2'.tm.slot (i:=3) rfl F2.s3) hE2;have hE3:∀ p∈L,E3 p.2:=fun p hp=>H3.le _ (hE2 p hp);refine J6 (fun w1=>stepG_seq) rfl fun d5=>?_;have H3':=H3'.at d5;have hL3:J13 (w3.at d5) w0.heap.size v3 L:=hL3.kept fun _ _=>rfl;refine fld7 H3'.start F3 hla hk hWb (upT H3'.kw) (up H3'.kw q2) hro.c fun E4 T4 w4 H4 F4 s7 z7 _=>?_;have H4':=H3'.comp H4;have hL4:=hL3.keE H4.ke (H3'.tm.slot (i:=3) rfl F3.s3) hE3;have hE4:∀ p∈L,E4 p.2:=fun p hp=>H4.le _ (hE3 p hp);have t5:T4[5]?=some (.int .i64 (Ju r.a 4)):=(z7 5 (by omega) (by omega) (by omega)).trans ((z6 5 (by omega) (by omega) (by omega)).trans s5);have t6:T4[6]?=some (.int .i64 (Ju r.b 4)):=(z7 6 (by omega) (by omega) (by omega)).trans s6;have hlen:L.length=k:=by have:=congrArg List.length hLr;simp at this;omega
 subst hla;refine Jqk (f:=r.fact) H4' F4 t5 t6 s7 (by omega) hWb (upT H4'.kw) (up H4'.kw q3) (up H4'.kw q4) hL4 hE4 (Ja2 _) hE0 (by omega) rfl fun E5 T5 w5 v' kb H5 F5 hL5 hE5=>?_;refine J6 (fun w1=>stepG_inBlock) rfl fun d6=>?_;refine inc6 (H5.at d6) F5 (by omega) fun T6 w6 H6 F6 h6=>?_;refine kn _ _ _ _ _ H6 F6 (hL5.kept fun b _=>by rw [h6];rfl) ?_ hE5;rw [List.map_append,hLr,List.take_add_one,hr];simp
theorem Jkj (hR:Jaz w0 la rs) (hn:rs.length=n) (hW:∀ a,la=some a->W a.block) (hT:∀ a,la=some a->∀ c z,w0.heap[a.block]?≠some (.cells c wgT z)) (hE0:∀ b,E0 b->b<w0.heap.size)
  (kn:∀ E T w v3 L k,HS 6 W E0 w0 E T w->F6 la n cap k v3 T->J13 w w0.heap.size v3 L->L.map (·.1)=(rs.take 200).map J1t.fact->Reach Tryz.prog Post W (G ((Go.Conc.base 6).at ⟨T,[]⟩ kk) cs) w) :
  ∀ (d k:Nat) (E:Nat->Prop) (T:Array Value) (w:World) (v3:Value) (L:List (Jg × Nat)),min n 200-k=d->k<=min n 200->HS 6 W E0 w0 E T w->F6 la n cap k v3 T->J13 w w0.heap.size v3 L->L.map (·.1)=(rs.take k).map J1t.fact->(∀ p∈L,E p.2) ->
   Reach Tryz.prog Post W (G ((Go.Conc.base 6).at ⟨T,[]⟩ (.code Jhi::.inLoop Jhi::.inBlock 0::kk)) cs) w:=by
 intro d
 induction d with
 | zero=>
  intro k E T w v3 L hd hk H F hL hLr hLE;have fin:∀ T' w',HS 6 W E0 w0 E T' w'->F6 la n cap k v3 T'->T'[15]?=some (.bool false)->w'.heap=w.heap->Reach Tryz.prog Post W (G ((Go.Conc.base 6).at ⟨T',[]⟩ (.code (.cond (.tmp 15) .skip (.exit 0))::.code (.seq (.block 1 (.seq (.region 5 Jjo false) (.seq (.region 6 Jjp false) (.seq (.region 7 Jjq false) (.region 8 J4p true))))) (.region 4 Jjn false))::.inLoop Jhi::.inBlock 0::kk)) cs) w':=fun T' w' H' F' s15 hh=>by
   refine J6 (fun w1=>stepG_cond (t:=false) (by simp [Act.eval,Ja5,s15])) rfl fun d1=>?_;refine J6 (fun w1=>stepG_exit (k':=kk) rfl) rfl fun d2=>?_;refine kn _ _ _ v3 L k ((H'.at d1).at d2) F' (hL.kept fun b _=>by show w'.heap[b]?=_;rw [hh]) ?_;rw [hLr];have:rs.take k=rs.take 200:=by
    rcases Jb5 n 200 with h|h
    ·rw [List.take_of_length_le (by omega),List.take_of_length_le (by omega)]
    ·rw [show k=200 by omega]
   rw [this]
  refine J6 (fun w1=>stepG_seq) rfl fun d1=>?_;refine J6 (fun w1=>stepG_seq) rfl fun d2=>?_;rcases Jb5 k n with h|h
  ·exact Jz6 ((H.at d1).at d2) F (by omega) (by omega) fun T' w' a b c e=>fin T' w' a b c e
  ·exact Jz7 ((H.at d1).at d2) F (by omega) fun T' w' a b c e=>fin T' w' a b c e
 | succ d ih=>
  intro k E T w v3 L hd hk H F hL hLr hLE;refine J6 (fun w1=>stepG_seq) rfl fun d1=>?_;refine J6 (fun w1=>stepG_seq) rfl fun d2=>?_;refine Jz5 ((H.at d1).at d2) F (by omega) (by omega) fun T' w' H' F' s15 hh=>?_;refine J6 (fun w1=>stepG_cond (t:=true) (by simp [Act.eval,Ja5,s15])) rfl fun d3=>?_;refine J6 (fun w1=>stepG_skip) rfl fun d4=>?_;refine Jz8 hR hn hW hT hE0 (by omega) (by omega) ((H'.at d3).at d4) F' (hL.kept fun b _=>by show w'.heap[b]?=_;rw [hh];rfl) hLr hLE fun E2 T2 w2 v' L' H2 F2 hL2 hr2 hE2=>?_;refine J6 (fun w1=>stepG_inLoop) rfl fun d5=>?_;exact ih (k+1) E2 T2 (w2.at d5) v' L' (by omega) (by omega) (H2.at d5) F2 (hL2.kept fun _ _=>rfl) hr2 hE2
end
section
variable {W E:Nat->Prop} {w:World} {la:Option Addr} {rs:List J1t} {fs:List Jg} {n cap:Nat} {b₀:Frame} {a₀:Act} {ops:Array Oper} {i:Nat} {rest:List Nat} {kk:List Item} {cs:List Frame} {Post:(Nat->Prop)->Goroutine->World->Prop}
theorem Jkk (hB:BOk C0 S0 W E w) (hR:Jaz w la rs) (hn:rs.length=n) (hfs:fs=(rs.take 200).map J1t.fact) (hW:∀ a,la=some a->W a.block) (hT:∀ a,la=some a->∀ c z,w.heap[a.block]?≠some (.cells c wgT z))
  (kn:∀ E' w' ga c2 pl,(∀ b,E b->E' b)->BOk C0 S0 W E' w'->KE E w w'->J3a false w' ga fs c2 pl->(∀ y∈pl,w.heap.size<=y)->VR C0 (idE E') (.slice ga fs.length c2) (.slice ga fs.length c2)->w.heap.size<=w'.heap.size->(∀ b,W b->w'.heap[b]?=w.heap[b]?) ->
   Reach Tryz.prog Post W (G (b₀.at (a₀.put ((ops[i]?).bind (·.dst)) (.slice ga fs.length c2)) (.inRegion ops rest::kk)) cs) w') :
  Reach Tryz.prog Post W (G ((Go.Conc.base 6).at ⟨#[.slice la n cap]++Array.replicate 54 undef,[]⟩ [.code b6]) (b₀.at a₀ (.inRegion ops (i::rest)::kk)::cs)) w:=by
 obtain ⟨T0,hT0⟩:∃ T0,T0=#[.slice la n cap]++Array.replicate 54 undef:=⟨_,rfl⟩;rw [<- hT0];have sz:T0.size=55:=by rw [hT0];simp
 have s0:T0[0]?=some (.slice la n cap):=by rw [hT0];simp
 have sn:∀ j x,1<=j->T0[j]?=some x->x=undef:=fun j x h1 hx=>by
  rw [hT0,Array.getElem?_append_right (by simpa using h1),Array.getElem?_replicate] at hx;split at hx
  ·exact (Ja0 hx).symm
  ·cases hx
 clear hT0;have ht:TmR C0 S0 6 (idE E) T0 T0:=by
  refine ⟨rfl,fun j x x' hj h1 h2=>?_,fun j x hj _=>by cases hj⟩;rw [h1] at h2;cases h2;rcases Nat.eq_zero_or_pos j with rfl|h
  ·cases hj
  ·rw [sn j x h h1];exact .undef
 have H:HS 6 W E w E T0 w:=⟨hB,fun _ h=>h,.refl,fun _ _=>rfl,ht,rfl,Ja2 _⟩;refine J6 (fun w1=>stepG_seq) rfl fun d1=>?_;refine J6 (fun w1=>stepG_region) rfl fun d2=>?_;refine Jc (o:=Jdv) (v:=.slice none 0 0) ((H.at d1).at d2) rfl rfl rfl (fun w1=>by simp [execOp,go_sem,Jdv];try rfl) (fun w1=>by simp [execOp,go_sem,Jdv];try rfl) (.inr (.Jo _ _)) fun w1 H1 h1=>?_;refine J6 (fun w1=>stepG_region_end) rfl fun d3=>?_;refine J6 (fun w1=>stepG_seq) rfl fun d4=>?_;refine J6 (fun w1=>stepG_region) rfl fun d5=>?_;refine Jc (o:=Jdw) (v:=.slice none 0 0) (((H1.at d3).at d4).at d5) rfl rfl rfl (fun w1=>by simp [execOp,go_sem,Jdw];try rfl) (fun w1=>by simp [execOp,go_sem,Jdw];try rfl) (.inr (.Jo _ _)) fun w2 H2 h2=>?_;refine J6 (fun w1=>stepG_region_end) rfl fun d6=>?_;refine J6 (fun w1=>stepG_seq) rfl fun d7=>?_;refine J6 (fun w1=>stepG_seq) rfl fun d8=>?_;refine J6 (fun w1=>stepG_region) rfl fun d9=>?_;refine Jc (o:=Jdx) (v:=.int .i64 (0:Nat)) ((((H2.at d6).at d7).at d8).at d9) rfl rfl rfl (fun w1=>by simp [execOp,go_sem,Jdx];try rfl) (fun w1=>by simp [execOp,go_sem,Jdx];try rfl) (.inr (.int _ _)) fun w3 H3 h3=>?_;refine J6 (fun w1=>stepG_region_end) rfl fun d10=>?_;refine J6 (fun w1=>stepG_block) rfl fun d11=>?_;refine J6 (fun w1=>stepG_loop) rfl fun d12=>?_;refine Jkj (cap:=cap) (Post:=Post) hR hn hW hT (fun b hb=>hB.lt hb) (fun E4 T4 w4 v3 L k H4 F4 hL4 hLr=>?_) _ 0 E _ _ (.slice none 0 0) [] rfl (by omega) (((H3.at d10).at d11).at d12) ⟨by simpa using sz,?_,?_,?_,?_⟩ (.nil _ _) rfl fun p hp=>by cases hp
 ·have sz4:=F4.sz;have s3:=F4.s3;have v3E:VR C0 (idE E4) v3 v3:=H4.tm.slot (i:=3) rfl s3;refine J6 (fun w1=>stepG_seq) rfl fun e1=>?_;refine J6 (fun w1=>stepG_region) rfl fun e2=>?_;rw [show List.range Jz3.size=[0,1] from rfl];refine Jc (o:=Jev) (v:=v3) ((H4.at e1).at e2) rfl rfl rfl (fun w1=>by simp [execOp,go_sem,Jev,s3];try rfl) (fun w1=>by simp [execOp,go_sem,Jev,s3];try rfl) (.inr v3E) fun w5 H5 h5=>?_;refine Jc (o:=Jew) (v:=v3) H5 rfl rfl rfl (fun w1=>by simp [execOp,go_sem,Jew,sz4];try rfl) (fun w1=>by simp [execOp,go_sem,Jew,sz4];try rfl) (.inr v3E) fun w6 H6 h6=>?_;refine J6 (fun w1=>stepG_region_end) rfl fun e3=>?_;refine J6 (fun w1=>stepG_ret') rfl fun e4=>?_;refine Reach.leave1 (B:=Go.Conc.base 6) rfl rfl (fn:=Tryz.f6) (by kernel_rfl) (x:=2) (by kernel_rfl) fun e5=>?_;have H7:=((H6.at e3).at e4).at e5;have hL7:J13 (((w6.at e3).at e4).at e5) w.heap.size v3 L:=hL4.kept fun b _=>by show w6.heap[b]?=_;rw [h6,h5];rfl
  obtain ⟨ga,c2,pl,rfl,hfa,hpl⟩:=hL7.at;have hlf:L.length=fs.length:=by rw [hfs,<- hLr,Jc3]
  rw [hLr,<- hfs] at hfa;rw [hlf] at v3E;have e2:(Act.mk ((T4.setIfInBounds 54 (Value.slice ga fs.length c2)).setIfInBounds 2 (Value.slice ga fs.length c2)) []).tmps.getD 2 undef=.slice ga fs.length c2:=by simp [Ja5,sz4]
  rw [hlf,e2];exact kn E4 _ ga c2 pl H7.le H7.bok H7.ke hfa hpl v3E H7.sz H7.kw
 ·rw [Ja1 (by omega),Ja1 (by omega),Ja1 (by omega)];exact s0
 ·simp [sz]
 ·simp [sz]
 ·simp [sz]
end
structure J5p (c:J8) (hs:Int->Int) (fs:List Jg) (S:List TR):Prop where
 nd:(S.map (·.k)).Nodup
 all:∀ k,tm S k=J1c c J06 (sel hs 7 k fs)
 n3:∀ f∈fs,f.k.length=3
 n:fs.length<=200
theorem J5p.len {c:J8} {hs:Int->Int} {fs:List Jg} {S:List TR} (h:J5p c hs fs S):S.length<=200:=by
 have h1:=J4o h.nd (U:=fs.map fun f=>Jb 7 (Js f.k) 5) fun x hx=>by obtain ⟨t,ht,rfl⟩:=Jb3.1 hx;obtain ⟨_,f,hf,e⟩:=J6u h.nd h.all ht;exact Jb3.2 ⟨f,hf,e⟩
 simp only [Jc3] at h1;have:=h.n;omega
theorem J5p.hin {c:J8} {hs:Int->Int} {fs:List Jg} {S:List TR} (h:J5p c hs fs S):∀ t∈S,HIn 200 t.B:=by intro t ht x hx;obtain ⟨e,_⟩:=J6u h.nd h.all ht;rw [e] at hx;have h1:=Jnk hs 7 t.k fs;have h2:=h.n;have:=Jz1 (by omega) x hx;omega
theorem J5p.sum {c:J8} {hs:Int->Int} {fs:List Jg} {S T:List TR} {m:Nat} (h:J5p c hs fs S) (hc:Jw c) (hnb:c.nb=4) (hh:∀ y,0<=hs y/\hs y<=18446744073709551615) (hT:Sum c (tm T) (J14 S m (fun _=>true))):∀ k,tm T k=J1c c J06 (sel hs m k fs):=
 Jwc hc (by rw [hnb];rfl) J74 hh h.n3 h.nd h.all hT
theorem J5p.one {c:J8} {hs:Int->Int} {fs:List Jg} {T:List TR} (h3:∀ f∈fs,f.k.length=3) (hn:(T.map (·.k)).Nodup) (hT:∀ k,tm T k=J1c c J06 (sel hs 0 k fs)):T.length<=1/\(fs≠[]->T.length=1)/\∀ t∈T,t.k=[0,0,0,0,0]:=by
 have hk:∀ t∈T,t.k=[0,0,0,0,0]:=fun t ht=>by obtain ⟨_,f,hf,e⟩:=J6u hn hT ht;rw [<- e,Jjl (J45 (by have:=h3 f hf;omega))]
 have h1:=J4o hn (U:=[[0,0,0,0,0]]) fun x hx=>by obtain ⟨t,ht,rfl⟩:=Jb3.1 hx;rw [hk t ht];exact .head _
 simp only [Jc3,Jd2,List.length_nil] at h1;refine ⟨h1,fun hne=>?_,hk⟩;obtain ⟨f,hf⟩:=List.exists_mem_of_ne_nil _ hne;obtain ⟨t,ht,_⟩:=Jlg hT hf;have:=List.length_pos_of_mem ht;omega
section
variable {W E:Nat->Prop} {w:World} {c:Int} {la:Option Addr} {rs:List J1t} {n lc:Nat}
end
def rf (P:Program) (fits:TypeId->Bool):Nat->TypeId->Bool
 | 0,_=>false
 | d+1,e=>fits e || (match P.underlying e with
  | some (.struct fs)=>fs.any fun f=>rf P fits d f.type
  | some (.array _ e')=>rf P fits d e'
  | _=>false)
theorem Jcm (P:Program) (fits:TypeId->Bool):∀ (d:Nat) (e:TypeId) (c o n:Nat),rowAt P fits d e c o n=true->rf P fits d e=true
 | 0,_,_,_,_,h=>by cases h
 | d+1,e,c,o,n,h=>by
  simp only [rowAt] at h;unfold rf;by_cases hs:P.cellsOf e=0
  ·rw [if_pos hs] at h;cases h
  rw [if_neg hs] at h;rw [Bool.or_eq_true] at h ⊢;rcases h with h|h
  ·simp only [Ja8] at h;exact .inl h.2
  ·right;rw [Ja8] at h;obtain ⟨_,h⟩:=h;cases hu:P.underlying e with
   | none=>rw [hu] at h;cases h
   | some u=>
    rw [hu] at h;cases u with
    | struct fs=>
     have h':=((Ja8 _ _).mp h).2;show (fs.any fun f=>rf P fits d f.type)=true;rw [Array.any_eq_true] at h' ⊢;obtain ⟨i,hi,h'⟩:=h';exact ⟨i,hi,Jcm P fits d _ _ _ _ ((Ja8 _ _).mp h').2⟩
    | array m e'=>exact Jcm P fits d _ _ _ _ h
    | _=>cases h
theorem Jjr {α:Type} {l:List α} (h:l.length=5):∃ x0 x1 x2 x3 x4,l=[x0,x1,x2,x3,x4]:=by
 rcases l with _|⟨x0,_|⟨x1,_|⟨x2,_|⟨x3,_|⟨x4,_|⟨x5,l⟩⟩⟩⟩⟩⟩<;>simp at h
 exact ⟨_,_,_,_,_,rfl⟩
theorem Jux:∃ f0 f1 f2 f3 f4:Field,Tryz.prog.underlying 53=some (.struct #[f0,f1,f2,f3,f4])/\(f0.offset=0/\f1.offset=1/\f2.offset=2/\f3.offset=3/\f4.offset=4)/\(f0.type=3/\f1.type=3/\f2.type=3/\f3.type=3/\f4.type=3):=by
 have h:(Tryz.prog.underlying 53).map (fun u=>match u with | .struct fs=>fs.toList.map (fun f=>(f.offset,f.type))|_=>[])=some [(0,3),(1,3),(2,3),(3,3),(4,3)]:=by kernel_rfl
 cases hu:Tryz.prog.underlying 53 with
 | none=>rw [hu] at h;cases h
 | some u=>
  rw [hu] at h;cases u with
  | struct fs=>
   obtain ⟨l⟩:=fs;simp only [Option.map_some,Jb2] at h;have hl:l.length=5:=by have:=congrArg List.length h;simpa using this
   match l,hl with
   | [f0,f1,f2,f3,f4],_=>
    simp only [Jc4,List.map_nil,List.cons.injEq,Prod.mk.injEq,and_true] at h;obtain ⟨⟨a0,b0⟩,⟨a1,b1⟩,⟨a2,b2⟩,⟨a3,b3⟩,⟨a4,b4⟩⟩:=h;exact ⟨f0,f1,f2,f3,f4,rfl,⟨a0,a1,a2,a3,a4⟩,b0,b1,b2,b3,b4⟩
  | _=>simp at h
theorem Jnm:Tryz.prog.underlying 22=some (.slice 53):=by kernel_rfl
theorem J91:Tryz.prog.underlying 3=some (.int .i64):=by kernel_rfl
theorem ce53:Tryz.prog.cellsOf 53=5:=by kernel_rfl
theorem ce3:Tryz.prog.cellsOf 3=1:=by kernel_rfl
theorem J048:rf Tryz.prog (sameLayout Tryz.prog Tryz.prog.depth · 53) Tryz.prog.depth wgT=false:=by kernel_rfl
theorem rf0:rf Tryz.prog (sameLayout Tryz.prog Tryz.prog.depth · 53) Tryz.prog.depth 0=false:=by kernel_rfl
theorem J049 {w:World} {r:_root_.Go.Reach} {b0:Nat} {a:Addr} {n:Nat} (h:w.has Tryz.prog r b0 a 53 n):a.spot=none/\a.block<w.heap.size/\(∀ c z,w.heap[a.block]?≠some (.cells c wgT z))/\∀ c z,w.heap[a.block]?≠some (.cells c 0 z):=by
 obtain ⟨_,h1,row,cells,h2,h3⟩:=h;have h4:rf Tryz.prog (sameLayout Tryz.prog Tryz.prog.depth · 53) Tryz.prog.depth row=true:=by
  obtain ⟨d,hd⟩:∃ d,Tryz.prog.depth=d+1:=by
   cases hd:Tryz.prog.depth with
   | zero=>rw [hd] at h3;cases h3
   | succ d=>exact ⟨d,rfl⟩
  have h5:liesAt Tryz.prog (d+1) row (cells / Tryz.prog.cellsOf row) a.off 53 n=true:=by rw [<- hd];exact h3
  unfold liesAt at h5;rw [Bool.or_eq_true] at h5;rcases h5 with h5|h5
  ·exact Jcm _ _ _ _ _ _ _ h5
  ·obtain ⟨f0,f1,f2,f3,f4,hu,_⟩:=Jux;rw [hu] at h5;cases h5
 have sh:∀ c t z,w.heap[a.block]?=some (.cells c t z)->row=t:=fun c t z hc=>by simp only [World.shape?,hc] at h2;simp at h2;exact h2.1.symm
 refine ⟨h1,?_,fun c z hc=>?_,fun c z hc=>?_⟩
 ·cases hb:w.heap[a.block]? with
  | none=>simp [World.shape?,hb] at h2
  | some o=>exact (Ja3.1 hb).1
 ·rw [sh _ _ _ hc,J048] at h4;cases h4
 ·rw [sh _ _ _ hc,rf0] at h4;cases h4
theorem J04a {α:Type} (m:Array α) (a b c d e:α) {n:Nat} (hn:m.size=n):(((((m.push a).push b).push c).push d).push e)[n]?=some a/\n<(((((m.push a).push b).push c).push d).push e).size:=by subst hn;refine ⟨?_,by simp only [Array.size_push];omega⟩;rw [Jd1,if_neg (by simp only [Array.size_push];omega),Jd1,if_neg (by simp only [Array.size_push];omega),Jd1,if_neg (by simp only [Array.size_push];omega),Jd1,if_neg (by simp only [Array.size_push];omega),Jd1,if_pos rfl]
theorem Jgs (P:Program) (tape:Nat->Question->Nat) (os:Os):(begin P tape os).world.heap[P.globals.size]?=some (.cells ((Array.range P.types.size).map fun t=>.int .u64 (Int.ofNat t)) 0)/\P.globals.size<(begin P tape os).world.heap.size:=by unfold begin;exact J04a _ _ _ _ _ _ (by simp)
theorem Jnn {P:Program} {w:World} (h:w.ShapedOpen P):w.heap[P.globals.size]?=some (.cells ((Array.range P.types.size).map fun t=>.int .u64 (Int.ofNat t)) 0):=by obtain ⟨h1,h2⟩:=Jgs P (fun _ _=>0) default;obtain ⟨o,o0,h3,h4,h5⟩:=h.2 P.globals.size (Ja2 _) h2;rw [h1] at h4;rw [h3];simp only [Nat.sub_self] at h5;rw [if_neg (by decide)] at h5;rw [h5,h4]
section
variable {H:Type} {enc:TypeId × Value->H} {w:World} {a0:Option Addr} {len cap:Nat} {d:DataW H} {ps:List MemPlace}
theorem Jt4 (hval:∃ r b0,Value.okWide Tryz.prog w r b0 22 (.slice a0 len cap)) (h:DataW.Trod enc Tryz.prog w 0 (fun _=>true) true 22 (.slice a0 len cap) d ps) :
  ∃ rs:List J1t,rs.length=len/\Jaz w a0 rs/\∀ a,a0=some a->a.block<w.heap.size/\(∀ c z,w.heap[a.block]?≠some (.cells c wgT z))/\∀ c z,w.heap[a.block]?≠some (.cells c 0 z):=by
 obtain ⟨r,b0,hval⟩:=hval;obtain ⟨fuel,hf⟩:=h;rcases Deep.open_slice Jnm hf with ⟨hcs,_⟩|⟨a,len',cap',m,n,D,Pl,hcs,_,hl,hm,hmm,_,hx⟩
 ·simp [Value.cells] at hcs;obtain ⟨rfl,rfl,rfl⟩:=hcs;exact ⟨[],rfl,⟨fun i r hr=>by simp at hr,fun r hr=>by cases hr⟩,fun a ha=>by cases ha⟩
 ·simp [Value.cells] at hcs;obtain ⟨rfl,rfl,rfl⟩:=hcs;have hh:w.has Tryz.prog r b0 a 53 cap:=by simp only [Value.okWide,Jnm,Cell.okWide,Cell.ok] at hval;exact hval.2.2
  obtain ⟨e1,e2,e3,e4⟩:=J049 hh;obtain ⟨b,o,sp⟩:=a;simp only at e1 e2 e3 e4;subst e1;rw [if_pos rfl] at hmm;have each:∀ i,i<len->∃ q:J1t,Jn0 q/\w.cell? ⟨b,o+i*5,none⟩=some (.int .i64 q.a)/\w.cell? ⟨b,o+i*5+1,none⟩=some (.int .i64 q.b)/\w.cell? ⟨b,o+i*5+2,none⟩=some (.int .i64 q.c)/\w.cell? ⟨b,o+i*5+3,none⟩=some (.int .i64 q.fact.it)/\w.cell? ⟨b,o+i*5+4,none⟩=some (.int .i64 q.fact.v):=by
   intro i hi;obtain ⟨cs',h1,h2⟩:=hx i (by omega);rw [ce53] at h1;obtain ⟨_,hlen,hcell⟩:=World.cells?_some h1;obtain ⟨f0,f1,f2,f3,f4,hu,⟨o0,o1,o2,o3,o4⟩,t0,t1,t2,t3,t4⟩:=Jux;obtain ⟨xs,k,hk,hxy,_,hxl,hff⟩:=DataW.trod_struct hu h2;have hxl5:xs.length=5:=hxl;obtain ⟨y0,y1,y2,y3,y4,rfl⟩:=Jjr hxl5;obtain ⟨v0,v1,v2,v3,v4,rfl⟩:=Jjr hlen;have g0:=hff 0 f0 rfl;have g1:=hff 1 f1 rfl;have g2:=hff 2 f2 rfl;have g3:=hff 3 f3 rfl;have g4:=hff 4 f4 rfl;simp [o0,o1,o2,o3,o4,t0,t1,t2,t3,t4,ce3] at g0 g1 g2 g3 g4;obtain ⟨z0,w0,_,k0⟩:=DataW.trod_int J91 g0;obtain ⟨z1,w1,_,k1⟩:=DataW.trod_int J91 g1;obtain ⟨z2,w2,_,k2⟩:=DataW.trod_int J91 g2;obtain ⟨z3,w3,_,k3⟩:=DataW.trod_int J91 g3;obtain ⟨z4,w4,_,k4⟩:=DataW.trod_int J91 g4;simp only [List.cons.injEq,and_true] at w0 w1 w2 w3 w4;subst w0 w1 w2 w3 w4;have i64:∀ {z:Int},(Lit.int .i64 z).wf=true->I64 z:=fun h=>by simp [Lit.wf,IntKind.min,IntKind.max,IntKind.signed,IntKind.bits] at h;exact ⟨by omega,by omega⟩
   have c:∀ j,j<5->w.cell? ⟨b,o+i*5+j,none⟩=[Value.int .i64 z0,.int .i64 z1,.int .i64 z2,.int .i64 z3,.int .i64 z4][j]?:=fun j hj=>by
    have:=hcell j hj;rw [Deep.add_add] at this;unfold Addr.add at this;by_cases e:i*5+j=0
    ·rw [if_pos e] at this;rw [show o+i*5+j=o by omega];exact this
    ·rw [if_neg e] at this;rw [show o+i*5+j=o+(i*5+j) by omega];simpa using this
   exact ⟨⟨z0,z1,z2,z3,z4⟩,⟨i64 k0,i64 k1,i64 k2,i64 k3,i64 k4⟩,c 0 (by omega),c 1 (by omega),c 2 (by omega),c 3 (by omega),c 4 (by omega)⟩
  haveI:Inhabited J1t:=⟨⟨0,0,0,0,0⟩⟩
  obtain ⟨F,hF⟩:=Deep.choose_lt each;refine ⟨(List.range len).map F,by simp,⟨fun i r hr=>?_,fun r hr=>?_⟩,fun a ha=>?_⟩
  ·rw [List.getElem?_map] at hr;have hi:i<len:=by
    rcases Jb5 i len with h|h
    ·exact h
    ·rw [List.getElem?_eq_none (by simpa using h)] at hr;cases hr
   rw [List.getElem?_range hi] at hr;cases hr;obtain ⟨_,q0,q1,q2,q3,q4⟩:=hF i hi;exact ⟨b,o,rfl,e2,q0,q1,q2,q3,q4⟩
  ·obtain ⟨i,hi,rfl⟩:=Jb3.1 hr;exact (hF i (List.mem_range.1 hi)).1
  ·cases ha;exact ⟨e2,e3,e4⟩
end
end Go.Sim.Z
section
namespace Go.Sim.Z
open Go Go.Proofs Go.RowKit Go.Conc Go.Maps
theorem Jql {w:World} (hh:w.heap[Tryz.prog.globals.size]?=some (.cells ((Array.range Tryz.prog.types.size).map fun t=>.int .u64 (Int.ofNat t)) 0)):BOk C0 S0 (fun b=>b<w.heap.size/\b≠Tryz.prog.globals.size) (fun b=>b=Tryz.prog.globals.size) w:=by refine ⟨WR.self rfl fun b hb=>?_,rfl,fun g hg=>(by cases hg),fun b hb he=>hb.2 he⟩;subst hb;refine ⟨_,hh,_,_,rfl,.J6r fun v hv=>?_,fun h=>(C0.lax rfl _ h).elim,fun _=>⟨rfl,fun _=>rfl⟩⟩;simp only [Array.toList_map,Jb3] at hv;obtain ⟨t,_,rfl⟩:=hv;exact .int _ _
theorem Jqm {w:World} (hh:w.heap[Tryz.prog.globals.size]?=some (.cells ((Array.range Tryz.prog.types.size).map fun t=>.int .u64 (Int.ofNat t)) 0)):HOk w:=by refine ⟨_,_,⟨(0,0),hh,fun _=>rfl⟩,fun v hv=>?_⟩;simp only [Array.toList_map,Jb3] at hv;obtain ⟨t,_,rfl⟩:=hv;exact ⟨_,_,rfl⟩
theorem Jwh {w w':World} (h:∀ b,b<w.heap.size->w'.heap[b]?=w.heap[b]?):w.heap.size<=w'.heap.size:=by
 rcases Nat.eq_zero_or_pos w.heap.size with e|e
 ·omega
 ·have h1:=h (w.heap.size-1) (by omega);rw [Ja4 (show w.heap.size-1<w.heap.size by omega)] at h1;have:=(Ja3.1 h1).1;omega
theorem Tryz.own:ownKnob Tryz.prog.godebug=none:=by kernel_rfl
theorem und4:Tryz.prog.underlying 4=some .bool:=by kernel_rfl
end Go.Sim.Z
namespace Go.Proofs.YtlcbehhbfglgaaaGreat
open Go.Sim.Z Go.ChangeShapes Go.WideShapes Go.ChangeAt Go.RowKit Go.Conc
end Go.Proofs.YtlcbehhbfglgaaaGreat
end
