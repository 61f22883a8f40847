/- PROVED HERE: laws that the statement rests on (parts Yi, Ye, Yj). Conditions: none. -/
import Derived.Orders
import Derived.Laws.CopyOwn
import Derived.Test.YtlcbehhbfglgaaaGreatE05
import Derived.Test.YtlcbehhbfglgaaaGreatE06
set_option linter.all false
namespace Go.Sim.Z
open Go Go.Proofs Go.RowKit
section
variable {P:Program} {ops:Array Oper} {Q:Exit→Act→World→Prop} {md:Region.Mode}
def lack (l:Array Bool):Nat:=l.toList.countP fun b=>!b
theorem lack_set {l:Array Bool} {i:Nat} (h:l[i]?=some false):lack (l.setIfInBounds i true)+1=lack l:=by
 unfold lack
 rw [Array.toList_setIfInBounds]
 obtain ⟨hl,e⟩:=Array.getElem?_eq_some_iff.1 h
 have hl':i<l.toList.length:=by simpa using hl
 have e':l.toList[i]=false:=by simpa using e
 rw [List.countP_set (h:=hl'),e']
 have:0<l.toList.countP fun b=>!b:=List.countP_pos_iff.2 ⟨false,by rw [← e'];exact List.getElem_mem _,rfl⟩
 simp only [Bool.not_false,Bool.not_true,if_true,Bool.false_eq_true,if_false]
 omega
theorem ready_at {listed:Array Bool} {i:Nat} (h:i∈Region.ready md ops listed):i<ops.size∧listed[i]?=some false∧∃ o,ops[i]?=some o∧∀ e∈o.after,Region.binds md e=true→listed[e.on]?=some true:=by
 unfold Region.ready at h
 obtain ⟨h1,h2⟩:=List.mem_filter.1 h
 have hi:=List.mem_range.1 h1
 rw [Bool.and_eq_true] at h2
 obtain ⟨h3,h4⟩:=h2
 refine ⟨hi,?_,ops[i],Array.getElem?_eq_getElem hi,fun e he hb=>?_⟩
 ·cases hx:listed[i]? with
  | none=>simp [Array.getD_eq_getD_getElem?,hx] at h3
  | some b=>simp [Array.getD_eq_getD_getElem?,hx] at h3;subst h3;rfl
 ·rw [Array.getElem?_eq_getElem hi] at h4
  simp only [Option.map_some,Option.getD_some,Array.all_eq_true_iff_forall_mem] at h4
  have:=h4 e he
  rw [hb] at this
  cases hx:listed[e.on]? with
  | none=>simp [Array.getD_eq_getD_getElem?,hx] at this
  | some b=>simp [Array.getD_eq_getD_getElem?,hx] at this;subst this;rfl
theorem wpAny_inv (I:Array Bool→Act→World→Prop) (hstep:∀ listed a w i,I listed a w→i∈Region.ready md ops listed→wpOp P ops Q i (fun a' w'=>I (listed.setIfInBounds i true) a' w') a w)
  (hend:∀ listed a w,I listed a w→Region.ready md ops listed=[]→Q .normal a w) :
  ∀ (fuel:Nat) (listed:Array Bool) (a:Act) (w:World),lack listed≤fuel→I listed a w→wpAny P md ops Q fuel listed a w
 | 0,listed,a,w,hf,h=>by
  have hr:Region.ready md ops listed=[]:=by
   cases hr:Region.ready md ops listed with
   | nil=>rfl
   | cons i l=>
    have:=lack_set (ready_at (i:=i) (by rw [hr];simp)).2.1
    omega
  exact ⟨hr,hend _ _ _ h hr⟩
 | fuel+1,listed,a,w,hf,h=>by
  refine ⟨hend _ _ _ h,fun i hi=>wpOp_mono (fun a' w' h'=>?_) (hstep _ _ _ _ h hi)⟩
  have:=lack_set (ready_at hi).2.1
  exact wpAny_inv I hstep hend fuel _ a' w' (by omega) h'
def anc (md:Region.Mode) (ops:Array Oper):Nat→Nat→Nat→Bool
 | 0,_,_=>false
 | f+1,k,j=>match ops[k]? with
  | none=>false
  | some o=>o.after.toList.any fun e=>Region.binds md e && (e.on == j || anc md ops f e.on j)
def Closed (md:Region.Mode) (ops:Array Oper) (listed:Array Bool):Prop:=∀ (i:Nat) (o:Oper),listed[i]?=some true→ops[i]?=some o→∀ e∈o.after,Region.binds md e=true→listed[e.on]?=some true
theorem Closed.anc {listed:Array Bool} (h:Closed md ops listed):∀ (f k j:Nat),(∀ o,ops[k]?=some o→∀ e∈o.after,Region.binds md e=true→listed[e.on]?=some true)→anc md ops f k j=true→listed[j]?=some true
 | 0,_,_,_,ha=>by cases ha
 | f+1,k,j,hk,ha=>by
  unfold Z.anc at ha
  cases ho:ops[k]? with
  | none=>simp [ho] at ha
  | some o=>
   simp only [ho,List.any_eq_true,Bool.and_eq_true,Bool.or_eq_true,beq_iff_eq] at ha
   obtain ⟨e,he,hb,h1|h1⟩:=ha
   ·rw [← h1];exact hk o ho e (Array.mem_toList_iff.1 he) hb
   ·have hl:=hk o ho e (Array.mem_toList_iff.1 he) hb
    exact h.anc f e.on j (fun o' ho'=>h e.on o' hl ho') h1
theorem Closed.set {listed:Array Bool} (h:Closed md ops listed) {i:Nat} (hi:i∈Region.ready md ops listed):Closed md ops (listed.setIfInBounds i true):=by
 obtain ⟨_,hf,o,ho,hafter⟩:=ready_at hi
 intro i' o' hl ho' e he hb
 have key:listed[e.on]?=some true→(listed.setIfInBounds i true)[e.on]?=some true:=fun hx=>by
  by_cases e1:e.on=i
  ·rw [e1] at hx ⊢;rw [hx] at hf;cases hf
  ·rw [Array.getElem?_setIfInBounds_ne (Ne.symm e1)];exact hx
 by_cases e1:i'=i
 ·subst e1
  rw [ho] at ho';cases ho'
  exact key (hafter e he hb)
 ·rw [Array.getElem?_setIfInBounds_ne (Ne.symm e1)] at hl
  exact key (h i' o' hl ho' e he hb)
def dagOk (md:Region.Mode) (ops:Array Oper) (m:Nat) (dst:Nat→Nat):Bool:=
 decide (m≤ops.size) && (List.range m).all (fun i=>match ops[i]? with
  | none=>false
  | some o=>o.guard.isNone && o.dst == some (dst i) && o.after.all (fun e=>decide (e.on<i)) && (List.range i).all fun j=>dst j != dst i)
 && (List.range ops.size).all fun k=>decide (k<m) || match ops[k]? with
  | none=>false
  | some o=>o.after.all (fun e=>decide (e.on<k)) && (List.range k).all fun j=>anc md ops ops.size k j
structure DagI (M:Nat→Prop) (m:Nat) (dst:Nat→Nat) (F:Nat→Value→World→Prop) (T0:Array Value) (ds:List Deferred) (w0:World) (listed:Array Bool) (a:Act) (w:World):Prop where
 tch:Tch w0.heap.size M w0 w
 ds:a.defers=ds
 size:a.tmps.size=T0.size
 old:∀ s,(∀ i,i<m→dst i≠s)→a.tmps[s]?=T0[s]?
 facts:∀ i,i<m→listed[i]?=some true→∃ v,a.tmps[dst i]?=some v∧F i v w
theorem DagI.put {M:Nat→Prop} {m:Nat} {dst:Nat→Nat} {F:Nat→Value→World→Prop} {T0:Array Value} {ds:List Deferred} {w0 w w':World} {listed:Array Bool} {a:Act} {i:Nat} {v:Value}
  (h:DagI M m dst F T0 ds w0 listed a w) (hi:i<m) (hne:∀ j,j<m→j≠i→dst j≠dst i) (hsz:dst i<T0.size) (stable:∀ i v w w',F i v w→Tch w.heap.size M w w'→F i v w') (hv:F i v w') (ht:Tch w.heap.size M w w') :
  DagI M m dst F T0 ds w0 (listed.setIfInBounds i true) (a.put (some (dst i)) v) w':=by
 refine ⟨h.tch.then ht h.tch.size fun _ _ h=>h,h.ds,by simp [Act.put,h.size],fun s hs=>?_,fun j hj hl=>?_⟩
 ·show (a.tmps.setIfInBounds (dst i) v)[s]?=_
  rw [Array.getElem?_setIfInBounds_ne (hs i hi)]
  exact h.old s hs
 ·by_cases e:j=i
  ·subst e
   exact ⟨v,by show (a.tmps.setIfInBounds (dst j) v)[dst j]?=_;rw [Array.getElem?_setIfInBounds_self_of_lt (by rw [h.size];exact hsz)],hv⟩
  ·rw [Array.getElem?_setIfInBounds_ne (Ne.symm e)] at hl
   obtain ⟨u,h1,h2⟩:=h.facts j hj hl
   exact ⟨u,by show (a.tmps.setIfInBounds (dst i) v)[dst j]?=_;rw [Array.getElem?_setIfInBounds_ne (Ne.symm (hne j hj e))];exact h1,stable _ _ _ _ h2 ht⟩
theorem region_dag {id:Nat} {T0:Array Value} {ds:List Deferred} {w0:World} {M:Nat→Prop} (m:Nat) (dst:Nat→Nat) (F:Nat→Value→World→Prop) (hm:P.follows .mixedOrders=true) (hok:dagOk .any ops m dst=true) (hsz:∀ i,i<m→dst i<T0.size)
  (stable:∀ i v w w',F i v w→Tch w.heap.size M w w'→F i v w')
  (step:∀ i o a w,i<m→ops[i]?=some o→Tch w0.heap.size M w0 w→a.tmps.size=T0.size→(∀ s,(∀ i,i<m→dst i≠s)→a.tmps[s]?=T0[s]?)→(∀ j,(o.after.toList.any fun e=>e.on == j && Region.binds .any e)=true→∃ v,a.tmps[dst j]?=some v∧F j v w) →
   wpOp P ops Q i (fun a' w'=>∃ v,a'=a.put (some (dst i)) v∧F i v w'∧Tch w.heap.size M w w') a w)
  (fin:∀ a w,Tch w0.heap.size M w0 w→a.defers=ds→a.tmps.size=T0.size→(∀ s,(∀ i,i<m→dst i≠s)→a.tmps[s]?=T0[s]?)→(∀ i,i<m→∃ v,a.tmps[dst i]?=some v∧F i v w)→wpOps P ops Q (List.range' m (ops.size-m)) a w) :
  (Code.region id ops true).wp P Q ⟨T0,ds⟩ w0:=by
 unfold dagOk at hok
 simp only [Bool.and_eq_true,decide_eq_true_eq,List.all_eq_true,List.mem_range,Bool.or_eq_true] at hok
 obtain ⟨⟨hm1,hA⟩,hB⟩:=hok
 have at_:∀ i,i<m→∃ o,ops[i]?=some o∧o.guard=none∧o.dst=some (dst i)∧(∀ e∈o.after,e.on<i)∧∀ j,j<i→dst j≠dst i:=fun i hi=>by
  have:=hA i hi
  cases ho:ops[i]? with
  | none=>simp [ho] at this
  | some o=>
   simp only [ho,Bool.and_eq_true,Option.isNone_iff_eq_none,beq_iff_eq,Array.all_eq_true_iff_forall_mem,decide_eq_true_eq,List.all_eq_true,List.mem_range,bne_iff_ne] at this
   exact ⟨o,rfl,this.1.1.1,this.1.1.2,this.1.2,this.2⟩
 have tl_:∀ k,m≤k→k<ops.size→∃ o,ops[k]?=some o∧(∀ e∈o.after,e.on<k)∧∀ j,j<k→anc .any ops ops.size k j=true:=fun k hk hk2=>by
  have ho:=Array.getElem?_eq_getElem hk2
  have h0:=hB k hk2
  rw [ho] at h0
  simp only [Bool.and_eq_true,Array.all_eq_true_iff_forall_mem,decide_eq_true_eq,List.all_eq_true,List.mem_range] at h0
  rcases h0 with h|h
  ·omega
  ·exact ⟨_,ho,h.1,h.2⟩
 have hne:∀ i,i<m→∀ j,j<m→j≠i→dst j≠dst i:=fun i hi j hj hji=>by
  obtain ⟨_,_,_,_,_,h1⟩:=at_ i hi
  obtain ⟨_,_,_,_,_,h2⟩:=at_ j hj
  rcases Nat.lt_or_gt_of_ne hji with h|h
  ·exact h1 j h
  ·exact fun e=>h2 i h e.symm
 refine wp_region_any hm ?_
 have hlk:lack (Array.replicate ops.size false)≤ops.size:=by
  unfold lack
  refine Nat.le_trans List.countP_le_length ?_
  simp
 have rdy:∀ (listed:Array Bool) (k:Nat),m≤k→k<ops.size→listed[k]?=some false→(∀ j,j<k→listed[j]?=some true)→k∈Region.ready .any ops listed:=fun listed k hk hk2 hf hall=>by
  obtain ⟨o,ho,hon,_⟩:=tl_ k hk hk2
  unfold Region.ready
  refine List.mem_filter.2 ⟨List.mem_range.2 hk2,?_⟩
  simp only [Array.getD_eq_getD_getElem?,hf,ho,Option.getD_some,Bool.not_false,Option.map_some,Bool.true_and,Array.all_eq_true_iff_forall_mem,Bool.or_eq_true]
  exact fun e he=>.inr (by rw [hall e.on (hon e he)];rfl)
 refine wpAny_inv (md:=.any) (P:=P) (Q:=Q) (fun listed a w=>listed.size=ops.size∧Closed .any ops listed∧((DagI M m dst F T0 ds w0 listed a w∧∀ k,m≤k→k<ops.size→listed[k]?=some false)∨(∃ k,m≤k∧k≤ops.size∧(∀ i,i<k→listed[i]?=some true)∧(∀ i,k≤i→i<ops.size→listed[i]?=some false)∧wpOps P ops Q (List.range' k (ops.size-k)) a w))) ?_ ?_ _ _ _ _ hlk
  ⟨by simp,fun i o hl=>?_,.inl ⟨⟨⟨Nat.le_refl _,fun _ _ _=>rfl,rfl,rfl,rfl⟩,rfl,rfl,fun _ _=>rfl,fun i hi h=>?_⟩,fun k _ hk=>by simp [hk]⟩⟩
 ·rintro listed a w i ⟨hls,hcl,h⟩ hi
  have hcl':=hcl.set hi
  obtain ⟨hin,hf,o,ho,hafter⟩:=ready_at hi
  have hdeps:∀ o',ops[i]?=some o'→∀ e∈o'.after,Region.binds .any e=true→listed[e.on]?=some true:=fun o' ho'=>by
   rw [ho] at ho';cases ho';exact hafter
  have tail:∀ k,m≤k→k≤ops.size→(∀ j,j<k→listed[j]?=some true)→(∀ j,k≤j→j<ops.size→listed[j]?=some false)→wpOps P ops Q (List.range' k (ops.size-k)) a w →
    wpOp P ops Q i (fun a' w'=>(listed.setIfInBounds i true).size=ops.size∧Closed .any ops (listed.setIfInBounds i true)∧((DagI M m dst F T0 ds w0 (listed.setIfInBounds i true) a' w'∧∀ k,m≤k→k<ops.size→(listed.setIfInBounds i true)[k]?=some false)∨(∃ k,m≤k∧k≤ops.size∧(∀ j,j<k→(listed.setIfInBounds i true)[j]?=some true)∧(∀ j,k≤j→j<ops.size→(listed.setIfInBounds i true)[j]?=some false)∧wpOps P ops Q (List.range' k (ops.size-k)) a' w'))) a w:=fun k hk hk2 hall hno hw=>by
   have hki:k≤i:=by
    rcases Nat.lt_or_ge i k with h|h
    ·rw [hall i h] at hf;cases hf
    ·exact h
   obtain ⟨o2,ho2,hon2,hanc⟩:=tl_ i (by omega) hin
   obtain rfl:i=k:=by
    rcases Nat.eq_or_lt_of_le hki with h|h
    ·exact h.symm
    ·have:=hcl.anc ops.size i k hdeps (hanc k h)
     rw [hno k (Nat.le_refl _) (by omega)] at this
     cases this
   rw [show ops.size-i=(ops.size-(i+1))+1 by omega,List.range'_succ,wpOps_cons] at hw
   refine wpOp_mono (fun a' w' h=>⟨by simpa using hls,hcl',.inr ⟨i+1,by omega,by omega,fun j hj=>?_,fun j hj hj2=>?_,h⟩⟩) hw
   ·by_cases e:j=i
    ·subst e
     rw [Array.getElem?_setIfInBounds_self_of_lt (by omega)]
    ·rw [Array.getElem?_setIfInBounds_ne (Ne.symm e)]
     exact hall j (by omega)
   ·rw [Array.getElem?_setIfInBounds_ne (by omega)]
    exact hno j (by omega) hj2
  rcases h with ⟨hI,hT⟩|⟨k,hk,hk2,hall,hno,hw⟩
  ·rcases Nat.lt_or_ge i m with him|him
   ·obtain ⟨o',ho',hg,hd,hon,_⟩:=at_ i him
    obtain rfl:o'=o:=by rw [ho] at ho';exact (Option.some.inj ho').symm
    refine wpOp_mono ?_ (step i o' a w him ho hI.tch hI.size hI.old fun j hjj=>?_)
    ·rintro a' w' ⟨v,rfl,hv,ht⟩
     refine ⟨by simpa using hls,hcl',.inl ⟨hI.put him (hne i him) (hsz i him) stable hv ht,fun k hk hk2=>?_⟩⟩
     rw [Array.getElem?_setIfInBounds_ne (by omega)]
     exact hT k hk hk2
    ·obtain ⟨e,he,h⟩:=List.any_eq_true.1 hjj
     rw [Bool.and_eq_true,beq_iff_eq] at h
     obtain ⟨rfl,hb⟩:=h
     exact hI.facts _ (by have:=hon e (Array.mem_toList_iff.1 he);omega) (hafter e (Array.mem_toList_iff.1 he) hb)
   ·obtain ⟨_,_,_,hanc⟩:=tl_ i him hin
    have hall:∀ j,j<i→listed[j]?=some true:=fun j hj=>hcl.anc ops.size i j hdeps (hanc j hj)
    obtain rfl:i=m:=by
     rcases Nat.eq_or_lt_of_le him with h|h
     ·exact h.symm
     ·have:=hall m h
      rw [hT m (Nat.le_refl _) (by omega)] at this;cases this
    exact tail i (Nat.le_refl _) (by omega) hall hT (fin a w hI.tch hI.ds hI.size hI.old fun j hj=>hI.facts j hj (hall j hj))
  ·exact tail k hk hk2 hall hno hw
 ·rintro listed a w ⟨hls,hcl,h⟩ hr
  have dn:∀ k,m≤k→k≤ops.size→(∀ j,j<k→listed[j]?=some true)→(∀ j,k≤j→j<ops.size→listed[j]?=some false)→wpOps P ops Q (List.range' k (ops.size-k)) a w→Q .normal a w:=fun k hk hk2 hall hno hw=>by
   rcases Nat.lt_or_ge k ops.size with hlt|hge
   ·have:=rdy listed k hk hlt (hno k (Nat.le_refl _) hlt) hall
    rw [hr] at this;cases this
   ·rw [show ops.size-k=0 by omega] at hw
    exact hw
  rcases h with ⟨hI,hT⟩|⟨k,hk,hk2,hall,hno,hw⟩
  ·have hall:∀ j,j<m→listed[j]?=some true:=fun j=>by
    induction j using Nat.strongRecOn with
    | _ j ih=>
     intro hj
     obtain ⟨o,ho,_,_,hon,_⟩:=at_ j hj
     cases hx:listed[j]? with
     | none=>have:=Array.getElem?_eq_none_iff.1 hx;omega
     | some b=>
      cases b with
      | true=>rfl
      | false=>
       exfalso
       have:j∈Region.ready .any ops listed:=by
        unfold Region.ready
        refine List.mem_filter.2 ⟨List.mem_range.2 (by omega),?_⟩
        simp only [Array.getD_eq_getD_getElem?,hx,ho,Option.getD_some,Bool.not_false,Option.map_some,Bool.true_and,Array.all_eq_true_iff_forall_mem,Bool.or_eq_true]
        exact fun e he=>.inr (by rw [ih e.on (hon e he) (by have:=hon e he;omega)];rfl)
       rw [hr] at this;cases this
   exact dn m (Nat.le_refl _) hm1 hall hT (fin a w hI.tch hI.ds hI.size hI.old fun j hj=>hI.facts j hj (hall j hj))
  ·exact dn k hk hk2 hall hno hw
 ·rw [Array.getElem?_replicate] at hl
  split at hl<;>cases hl
 ·rw [Array.getElem?_replicate] at h
  split at h<;>cases h
theorem dag_value {i:Nat} {o:Oper} {a:Act} {w w':World} {v:Value} {K:Act→World→Prop} (ho:ops[i]?=some o) (hg:o.guard=none) (hr:(execOp a.eval o).run P w=.ok (.value v) w') (h:K (a.put o.dst v) w'):wpOp P ops Q i K a w:=by
 unfold wpOp
 simp only [ho,Region.wanted,hg,if_true]
 left
 unfold Oper.wp
 rw [hr]
 exact h
theorem dag_call {i:Nat} {o:Oper} {a:Act} {w w':World} {f:FuncId} {args:Array Value} {R:Ending→World→Prop} {K:Act→World→Prop} (ho:ops[i]?=some o) (hg:o.guard=none) (hr:(execOp a.eval o).run P w=.ok (.enter f args) w') (hc:Calls P f args w' R) (h:∀ e w2,R e w2→∃ v,e=.returned v∧K (a.put o.dst v) w2):wpOp P ops Q i K a w:=by
 unfold wpOp
 simp only [ho,Region.wanted,hg,if_true]
 left
 unfold Oper.wp
 rw [hr]
 refine hc.mono fun e w2 he=>?_
 obtain ⟨v,rfl,hk⟩:=h e w2 he
 exact hk
theorem eval_of {a:Act} {t:Tmp} {v:Value} (h:a.tmps[t]?=some v):a.eval (.tmp t)=v:=by
 simp [Act.eval,Array.getD_eq_getD_getElem?,h]
end
def Lies (base:Nat) (H:List (Nat × Obj)) (w:World):Prop:=∀ p∈H,base≤p.1∧w.heap[p.1]?=some p.2
theorem Lies.tch {base:Nat} {H:List (Nat × Obj)} {w w':World} (h:Lies base H w) (t:Tch w.heap.size M0 w w'):Lies base H w':=fun p hp=>⟨(h p hp).1,(t.heap _ (lt_of (h p hp).2) fun x=>x).trans (h p hp).2⟩
theorem Lies.nil {base:Nat} {w:World}:Lies base [] w:=fun p hp=>by cases hp
theorem Lies.cons {base:Nat} {H:List (Nat × Obj)} {w:World} {o:Obj} (h:Lies base H w) (hb:base≤w.heap.size):Lies base ((w.heap.size,o)::H) (w.alloc o):=fun p hp=>by
 rcases List.mem_cons.1 hp with rfl|hp
 ·exact ⟨hb,heap_new _⟩
 ·exact ⟨(h p hp).1,(heap_old _ (lt_of (h p hp).2)).trans (h p hp).2⟩
theorem Lies.app {base:Nat} {H H':List (Nat × Obj)} {w:World} (h:Lies base H w) (h':Lies base H' w):Lies base (H++H') w:=fun p hp=>(List.mem_append.1 hp).elim (h p) (h' p)
def LF (base:Nat) (Φ:Nat→Value→List (Nat × Obj)→Prop) (i:Nat) (v:Value) (w:World):Prop:=∃ H,Φ i v H∧Lies base H w
theorem LF.stable {base:Nat} {Φ:Nat→Value→List (Nat × Obj)→Prop} (i:Nat) (v:Value) (w w':World) (h:LF base Φ i v w) (t:Tch w.heap.size M0 w w'):LF base Φ i v w':=by
 obtain ⟨H,h1,h2⟩:=h
 exact ⟨H,h1,h2.tch t⟩
def empB (c:CfgD):Bun:=⟨0,List.replicate (2 ^ c.bits.toNat) 0,List.replicate (c.nb+1) 0,[]⟩
theorem empB_ok {c:CfgD} (hc:CfgOk c):Bun0 c (empB c):=
 ⟨List.length_replicate,fun x hx=>by obtain rfl:=List.eq_of_mem_replicate hx;decide,List.length_replicate,fun x hx=>by obtain rfl:=List.eq_of_mem_replicate hx;exact ⟨by decide,by decide⟩,List.Pairwise.nil,by have:=hc.k1;simp [empB];omega,fun x hx=>(by cases hx),by show I64 0;exact ⟨by decide,by decide⟩⟩
section
variable {w:World} {c:CfgD}
abbrev pt (b:Nat) (o:Nat:=0):Value:=.pointer (some ⟨b,o,none⟩)
def mkO5 (n:Nat):Obj:=.cells (Array.replicate n (.int .u8 0)) 5
def mkO3 (n:Nat):Obj:=.cells (Array.replicate n (.int .i64 0)) 3
def mkPhi (c:CfgD) (n0 n:Nat):Nat→Value→List (Nat × Obj)→Prop
 | 0,v,H=>H=[]∧v=pt n0 1
 | 1,v,H=>H=[]∧v=.int .i64 c.bits
 | 2,v,H=>H=[]∧v=pt n0 1
 | 3,v,H=>H=[]∧v=.int .i64 c.bits
 | 4,v,H=>H=[]∧v=.int .i64 n
 | 5,v,H=>∃ g,H=[(g,mkO5 n)]∧v=.slice (some ⟨g,0,none⟩) n n
 | 6,v,H=>∃ g,H=[(g,mkO5 n)]∧v=.agg #[.int .i64 c.bits,.slice (some ⟨g,0,none⟩) n n]
 | 7,v,H=>∃ b g,H=[(b,.cells #[.int .i64 c.bits,.slice (some ⟨g,0,none⟩) n n] 122),(g,mkO5 n)]∧v=pt b
 | 8,v,H=>∃ b g,H=[(b,.cells #[.int .i64 c.bits,.slice (some ⟨g,0,none⟩) n n] 122),(g,mkO5 n)]∧v=.iface 120 (pt b)
 | 9,v,H=>H=[]∧v=pt n0 3
 | 10,v,H=>H=[]∧v=.slice c.ba c.nb c.cb
 | 11,v,H=>H=[]∧v=pt n0 3
 | 12,v,H=>H=[]∧v=.slice c.ba c.nb c.cb
 | 13,v,H=>H=[]∧v=.int .i64 c.nb
 | 14,v,H=>H=[]∧v=.int .i64 (c.nb+1)
 | 15,v,H=>∃ g,H=[(g,mkO3 (c.nb+1))]∧v=.slice (some ⟨g,0,none⟩) (c.nb+1) (c.nb+1)
 | 16,v,H=>∃ g,H=[(g,mkO3 (c.nb+1))]∧v=.agg #[.slice c.ba c.nb c.cb,.slice (some ⟨g,0,none⟩) (c.nb+1) (c.nb+1)]
 | 17,v,H=>∃ b g,H=[(b,.cells #[.slice c.ba c.nb c.cb,.slice (some ⟨g,0,none⟩) (c.nb+1) (c.nb+1)] 125),(g,mkO3 (c.nb+1))]∧v=pt b
 | 18,v,H=>∃ b g,H=[(b,.cells #[.slice c.ba c.nb c.cb,.slice (some ⟨g,0,none⟩) (c.nb+1) (c.nb+1)] 125),(g,mkO3 (c.nb+1))]∧v=.iface 123 (pt b)
 | 19,v,H=>H=[]∧v=pt n0 2
 | 20,v,H=>H=[]∧v=.int .i64 c.K
 | 21,v,H=>H=[]∧v=.agg #[.int .i64 c.K,.slice none 0 0]
 | 22,v,H=>∃ b,H=[(b,.cells #[.int .i64 c.K,.slice none 0 0] 128)]∧v=pt b
 | 23,v,H=>∃ b,H=[(b,.cells #[.int .i64 c.K,.slice none 0 0] 128)]∧v=.iface 126 (pt b)
 | 24,v,H=>∃ b1 g1 b2 g2 b3,H=[(b1,.cells #[.int .i64 c.bits,.slice (some ⟨g1,0,none⟩) n n] 122),(g1,mkO5 n)]++([(b2,.cells #[.slice c.ba c.nb c.cb,.slice (some ⟨g2,0,none⟩) (c.nb+1) (c.nb+1)] 125),(g2,mkO3 (c.nb+1))]++[(b3,.cells #[.int .i64 c.K,.slice none 0 0] 128)])∧v=.agg #[.iface 120 (pt b1),.iface 123 (pt b2),.iface 126 (pt b3)]
 | 25,v,H=>∃ b1 g1 b2 g2 b3,H=[(b1,.cells #[.int .i64 c.bits,.slice (some ⟨g1,0,none⟩) n n] 122),(g1,mkO5 n)]++([(b2,.cells #[.slice c.ba c.nb c.cb,.slice (some ⟨g2,0,none⟩) (c.nb+1) (c.nb+1)] 125),(g2,mkO3 (c.nb+1))]++[(b3,.cells #[.int .i64 c.K,.slice none 0 0] 128)])∧v=.agg #[.int .i64 0,.iface 120 (pt b1),.iface 123 (pt b2),.iface 126 (pt b3)]
 | _,v,H=>∃ b b1 g1 b2 g2 b3,H=(b,.cells #[.int .i64 0,.iface 120 (pt b1),.iface 123 (pt b2),.iface 126 (pt b3)] 95)::([(b1,.cells #[.int .i64 c.bits,.slice (some ⟨g1,0,none⟩) n n] 122),(g1,mkO5 n)]++([(b2,.cells #[.slice c.ba c.nb c.cb,.slice (some ⟨g2,0,none⟩) (c.nb+1) (c.nb+1)] 125),(g2,mkO3 (c.nb+1))]++[(b3,.cells #[.int .i64 c.K,.slice none 0 0] 128)]))∧v=pt b
theorem ne_ty {w:World} {b b':Nat} {a a':Array Value} {t t':TypeId} (h:w.heap[b]?=some (.cells a t)) (h':w.heap[b']?=some (.cells a' t')) (hn:t≠t'):b≠b':=fun e=>by
 subst e
 rw [h] at h'
 simp only [Option.some.injEq,Obj.cells.injEq] at h'
 exact hn h'.2.1
theorem mixed:Tryz.prog.follows .mixedOrders=true:=by kernel_rfl
set_option maxRecDepth 100000 in
set_option maxHeartbeats 4000000 in
theorem bunMake (hc:CfgOk c) (dims seed:Int) :
  Calls Tryz.prog 27 #[.agg (cfgV c dims seed)] w fun e w'=>∃ q:BP,e=.returned (.pointer (some ⟨q.b,0,none⟩))∧BunAt false w' c q (empB c)∧(∀ x∈q.pl,w.heap.size≤x)∧Tch w.heap.size M0 w w':=by
 have hb1:=hc.b1
 have hb2:=hc.b2
 have hnb:=hc.nb
 obtain ⟨n,hn⟩:∃ n:Nat,n=2 ^ c.bits.toNat:=⟨_,rfl⟩
 have hb3:c.bits=4∨c.bits=5∨c.bits=6:=by omega
 have hn64:n≤64:=by
  rcases hb3 with e|e|e<;>rw [hn,e]<;>decide
 have hm1:=mkRow 84 5 .u8 1 Tryz.underlying84 info5 (by omega) n (by omega)
 have hm2:=mkRow 33 3 .i64 8 Tryz.underlying33 info3 (by omega) (c.nb+1) (by omega)
 have hm2':∀ w1,(Instr.makeSlice 33 (.int .i64 ((c.nb:Int)+1)) (.int .i64 ((c.nb:Int)+1))).run Tryz.prog w1=.ok (.slice (some ⟨w1.heap.size,0,none⟩) (c.nb+1) (c.nb+1)) (w1.alloc (.cells (Array.replicate (c.nb+1) (.int .i64 0)) 3)):=fun w1=>by
  have:=hm2 w1
  rwa [show ((c.nb+1:Nat):Int)=(c.nb:Int)+1 by omega] at this
 unfold cfgV
 go_enter Tryz.func27,Tryz.ntmps27
 go_wp2_with fail
 have hcell:∀ w1 k v,Tch (w.heap.size+1) M0 (w.alloc (.cells #[.int .i64 dims,.int .i64 c.bits,.int .i64 c.K,.slice c.ba c.nb c.cb,.int .i64 seed] 35)) w1→#[Value.int .i64 dims,.int .i64 c.bits,.int .i64 c.K,.slice c.ba c.nb c.cb,.int .i64 seed][k]?=some v→w1.cell? ⟨w.heap.size,k,none⟩=some v:=fun w1 k v t h=>
  (cell_of ((t.heap _ (by omega) fun x=>x).trans (heap_new _)) k).trans h
 have hadd:IntKind.i64.wrap ((c.nb:Int)+1)=c.nb+1:=by rw [IntKind.wrap_i64];omega
 have hpow:IntKind.i64.wrap (2 ^ c.bits.toNat)=n:=by
  rw [IntKind.wrap_i64]
  rcases hb3 with e|e|e<;>rw [hn,e]<;>decide
 generalize hW0:w.alloc (.cells #[.int .i64 dims,.int .i64 c.bits,.int .i64 c.K,.slice c.ba c.nb c.cb,.int .i64 seed] 35)=W0 at *
 have hs0:W0.heap.size=w.heap.size+1:=by rw [← hW0];simp
 rw [← hs0] at hcell
 generalize hn0:w.heap.size=n0 at *
 refine region_dag 27 (fun i=>i+3) (LF W0.heap.size (mkPhi c n0 n)) mixed (by kernel_rfl) (fun i hi=>by simp;omega) LF.stable ?_ ?_
 ·intro i o a w1 hi ho ht hsz hold hd
  have h1:a.tmps[1]?=some (pt n0):=(hold 1 (by intro i _;omega)).trans rfl
  have hsz1:=ht.size
  match i,hi with
  | 0,_=>
   cases ho
   exact dag_value rfl rfl (by simp [execOp,go_sem,h1];try rfl) ⟨_,rfl,⟨_,⟨rfl,rfl⟩,.nil⟩,.refl⟩
  | 2,_=>
   cases ho
   exact dag_value rfl rfl (by simp [execOp,go_sem,h1];try rfl) ⟨_,rfl,⟨_,⟨rfl,rfl⟩,.nil⟩,.refl⟩
  | 9,_=>
   cases ho
   exact dag_value rfl rfl (by simp [execOp,go_sem,h1];try rfl) ⟨_,rfl,⟨_,⟨rfl,rfl⟩,.nil⟩,.refl⟩
  | 11,_=>
   cases ho
   exact dag_value rfl rfl (by simp [execOp,go_sem,h1];try rfl) ⟨_,rfl,⟨_,⟨rfl,rfl⟩,.nil⟩,.refl⟩
  | 19,_=>
   cases ho
   exact dag_value rfl rfl (by simp [execOp,go_sem,h1];try rfl) ⟨_,rfl,⟨_,⟨rfl,rfl⟩,.nil⟩,.refl⟩
  | 1,_=>
   cases ho
   obtain ⟨_,e0,H0,⟨rfl,rfl⟩,l0⟩:=hd 0 rfl
   exact dag_value rfl rfl (by simp [execOp,go_sem,e0,hcell _ 1 _ ht rfl];try rfl) ⟨_,rfl,⟨_,⟨rfl,rfl⟩,.nil⟩,.refl⟩
  | 3,_=>
   cases ho
   obtain ⟨_,e2,H2,⟨rfl,rfl⟩,l2⟩:=hd 2 rfl
   exact dag_value rfl rfl (by simp [execOp,go_sem,e2,hcell _ 1 _ ht rfl];try rfl) ⟨_,rfl,⟨_,⟨rfl,rfl⟩,.nil⟩,.refl⟩
  | 4,_=>
   cases ho
   obtain ⟨_,e3,H3,⟨rfl,rfl⟩,l3⟩:=hd 3 rfl
   exact dag_value rfl rfl (by simp [execOp,go_sem,e3,hpow];try rfl) ⟨_,rfl,⟨_,⟨rfl,rfl⟩,.nil⟩,.refl⟩
  | 5,_=>
   cases ho
   obtain ⟨_,e4,H4,⟨rfl,rfl⟩,l4⟩:=hd 4 rfl
   exact dag_value rfl rfl (by simp [execOp,go_sem,e4,hm1];try rfl) ⟨_,rfl,⟨_,⟨_,rfl,rfl⟩,Lies.nil.cons ht.size⟩,(Tch.refl.alloc (Nat.le_refl _) _)⟩
  | 6,_=>
   cases ho
   obtain ⟨_,e1,H1,⟨rfl,rfl⟩,l1⟩:=hd 1 rfl
   obtain ⟨_,e5,H5,⟨g,rfl,rfl⟩,l5⟩:=hd 5 rfl
   exact dag_value rfl rfl (by simp [execOp,go_sem,e1,e5];try rfl) ⟨_,rfl,⟨_,⟨_,rfl,rfl⟩,l5⟩,.refl⟩
  | 7,_=>
   cases ho
   obtain ⟨_,e6,H6,⟨g,rfl,rfl⟩,l6⟩:=hd 6 rfl
   exact dag_value rfl rfl (by simp [execOp,go_sem,e6];try rfl) ⟨_,rfl,⟨_,⟨_,_,rfl,rfl⟩,l6.cons ht.size⟩,(Tch.refl.alloc (Nat.le_refl _) _)⟩
  | 8,_=>
   cases ho
   obtain ⟨_,e7,H7,⟨b,g,rfl,rfl⟩,l7⟩:=hd 7 rfl
   exact dag_value rfl rfl (by simp [execOp,go_sem,e7];try rfl) ⟨_,rfl,⟨_,⟨_,_,rfl,rfl⟩,l7⟩,.refl⟩
  | 10,_=>
   cases ho
   obtain ⟨_,e9,H9,⟨rfl,rfl⟩,l9⟩:=hd 9 rfl
   exact dag_value rfl rfl (by simp [execOp,go_sem,e9,hcell _ 3 _ ht rfl];try rfl) ⟨_,rfl,⟨_,⟨rfl,rfl⟩,.nil⟩,.refl⟩
  | 12,_=>
   cases ho
   obtain ⟨_,e11,H11,⟨rfl,rfl⟩,l11⟩:=hd 11 rfl
   exact dag_value rfl rfl (by simp [execOp,go_sem,e11,hcell _ 3 _ ht rfl];try rfl) ⟨_,rfl,⟨_,⟨rfl,rfl⟩,.nil⟩,.refl⟩
  | 13,_=>
   cases ho
   obtain ⟨_,e12,H12,⟨rfl,rfl⟩,l12⟩:=hd 12 rfl
   exact dag_value rfl rfl (by simp [execOp,go_sem,e12];try rfl) ⟨_,rfl,⟨_,⟨rfl,rfl⟩,.nil⟩,.refl⟩
  | 14,_=>
   cases ho
   obtain ⟨_,e13,H13,⟨rfl,rfl⟩,l13⟩:=hd 13 rfl
   exact dag_value rfl rfl (by simp [execOp,go_sem,e13,hadd];try rfl) ⟨_,rfl,⟨_,⟨rfl,rfl⟩,.nil⟩,.refl⟩
  | 15,_=>
   cases ho
   obtain ⟨_,e14,H14,⟨rfl,rfl⟩,l14⟩:=hd 14 rfl
   exact dag_value rfl rfl (by simp [execOp,go_sem,e14,hm2'];try rfl) ⟨_,rfl,⟨_,⟨_,rfl,rfl⟩,Lies.nil.cons ht.size⟩,(Tch.refl.alloc (Nat.le_refl _) _)⟩
  | 16,_=>
   cases ho
   obtain ⟨_,e10,H10,⟨rfl,rfl⟩,l10⟩:=hd 10 rfl
   obtain ⟨_,e15,H15,⟨g,rfl,rfl⟩,l15⟩:=hd 15 rfl
   exact dag_value rfl rfl (by simp [execOp,go_sem,e10,e15];try rfl) ⟨_,rfl,⟨_,⟨_,rfl,rfl⟩,l15⟩,.refl⟩
  | 17,_=>
   cases ho
   obtain ⟨_,e16,H16,⟨g,rfl,rfl⟩,l16⟩:=hd 16 rfl
   exact dag_value rfl rfl (by simp [execOp,go_sem,e16];try rfl) ⟨_,rfl,⟨_,⟨_,_,rfl,rfl⟩,l16.cons ht.size⟩,(Tch.refl.alloc (Nat.le_refl _) _)⟩
  | 18,_=>
   cases ho
   obtain ⟨_,e17,H17,⟨b,g,rfl,rfl⟩,l17⟩:=hd 17 rfl
   exact dag_value rfl rfl (by simp [execOp,go_sem,e17];try rfl) ⟨_,rfl,⟨_,⟨_,_,rfl,rfl⟩,l17⟩,.refl⟩
  | 20,_=>
   cases ho
   obtain ⟨_,e19,H19,⟨rfl,rfl⟩,l19⟩:=hd 19 rfl
   exact dag_value rfl rfl (by simp [execOp,go_sem,e19,hcell _ 2 _ ht rfl];try rfl) ⟨_,rfl,⟨_,⟨rfl,rfl⟩,.nil⟩,.refl⟩
  | 21,_=>
   cases ho
   obtain ⟨_,e20,H20,⟨rfl,rfl⟩,l20⟩:=hd 20 rfl
   exact dag_value rfl rfl (by simp [execOp,go_sem,e20];try rfl) ⟨_,rfl,⟨_,⟨rfl,rfl⟩,.nil⟩,.refl⟩
  | 22,_=>
   cases ho
   obtain ⟨_,e21,H21,⟨rfl,rfl⟩,l21⟩:=hd 21 rfl
   exact dag_value rfl rfl (by simp [execOp,go_sem,e21];try rfl) ⟨_,rfl,⟨_,⟨_,rfl,rfl⟩,Lies.nil.cons ht.size⟩,(Tch.refl.alloc (Nat.le_refl _) _)⟩
  | 23,_=>
   cases ho
   obtain ⟨_,e22,H22,⟨b,rfl,rfl⟩,l22⟩:=hd 22 rfl
   exact dag_value rfl rfl (by simp [execOp,go_sem,e22];try rfl) ⟨_,rfl,⟨_,⟨_,rfl,rfl⟩,l22⟩,.refl⟩
  | 24,_=>
   cases ho
   obtain ⟨_,e8,H8,⟨b1,g1,rfl,rfl⟩,l8⟩:=hd 8 rfl
   obtain ⟨_,e18,H18,⟨b2,g2,rfl,rfl⟩,l18⟩:=hd 18 rfl
   obtain ⟨_,e23,H23,⟨b3,rfl,rfl⟩,l23⟩:=hd 23 rfl
   exact dag_value rfl rfl (by simp [execOp,go_sem,e8,e18,e23];try rfl) ⟨_,rfl,⟨_,⟨_,_,_,_,_,rfl,rfl⟩,l8.app (l18.app l23)⟩,.refl⟩
  | 25,_=>
   cases ho
   obtain ⟨_,e24,H24,⟨b1,g1,b2,g2,b3,rfl,rfl⟩,l24⟩:=hd 24 rfl
   exact dag_value rfl rfl (by simp [execOp,go_sem,e24];try rfl) ⟨_,rfl,⟨_,⟨_,_,_,_,_,rfl,rfl⟩,l24⟩,.refl⟩
  | 26,_=>
   cases ho
   obtain ⟨_,e25,H25,⟨b1,g1,b2,g2,b3,rfl,rfl⟩,l25⟩:=hd 25 rfl
   exact dag_value rfl rfl (by simp [execOp,go_sem,e25];try rfl) ⟨_,rfl,⟨_,⟨_,_,_,_,_,_,rfl,rfl⟩,l25.cons ht.size⟩,(Tch.refl.alloc (Nat.le_refl _) _)⟩
  | i+27,h=>exact absurd h (by omega)
 ·intro a w1 ht hds hsz hold hf
  obtain ⟨v,hv,H,⟨b,b1,g1,b2,g2,b3,rfl,rfl⟩,hl⟩:=hf 26 (by omega)
  show wpOps _ _ _ [27] a w1
  rw [wpOps_cons]
  refine dag_value rfl rfl (v:=pt b) (w':=w1) (by simp [execOp,hv,go_sem]) ?_
  simp only [wpOps]
  go_wp2
  simp only [Lies,List.cons_append,List.nil_append,List.mem_cons,List.not_mem_nil,or_false,forall_eq_or_imp,forall_eq] at hl
  obtain ⟨⟨B0,hb⟩,⟨B1,hb1'⟩,⟨B2,hg1⟩,⟨B3,hb2'⟩,⟨B4,hg2⟩,⟨B5,hb3'⟩⟩:=hl
  unfold mkO5 at hg1
  unfold mkO3 at hg2
  have hn5:(empB c).r=List.replicate n 0:=by unfold empB;rw [hn]
  have hrow:∀ {g:Nat} {k:IntKind} {t:TypeId} (m:Nat),w1.heap[g]?=some (.cells (Array.replicate m (.int k 0)) t)→Row false w1 g t k (List.replicate m 0) m:=fun m h=>by
   refine ⟨_,⟨(0,0),h,fun _=>rfl⟩,by simp,by simp,fun i hi=>?_,.replicate ⟨_,_,rfl⟩⟩
   simp only [List.length_replicate] at hi
   simp [hi,List.getD_eq_getElem?_getD]
  refine bodyPost_ret (v:=pt b) ?_ hds ⟨⟨b,b1,g1,n,b2,g2,c.nb+1,b3,none⟩,rfl,⟨⟨_,hb,fun _=>rfl⟩,⟨⟨_,hb1'.trans (by simp [hn5]),fun _=>rfl⟩,by rw [hn5];exact hrow n hg1⟩,⟨⟨_,hb2'.trans (by simp [empB]),fun _=>rfl⟩,hrow (c.nb+1) hg2⟩,⟨⟨_,hb3',fun _=>rfl⟩,rfl⟩,⟨⟨?_,?_,?_,?_,?_,?_⟩,⟨?_,?_,?_,?_,?_⟩,⟨?_,?_,?_,?_⟩,⟨?_,?_,?_⟩,⟨?_,?_⟩,?_⟩⟩,fun x hx=>?_,?_⟩
  ·simp [results,Tryz.results27,go_sem,Act.put,hsz]
  all_goals first|exact ne_ty (by assumption) (by assumption) (by decide)|exact ne_ty hb hb1' (by decide)|exact ne_ty hb hg1 (by decide)|exact ne_ty hb hb2' (by decide)|exact ne_ty hb hg2 (by decide)|exact ne_ty hb hb3' (by decide)|exact ne_ty hb1' hg1 (by decide)|exact ne_ty hb1' hb2' (by decide)|exact ne_ty hb1' hg2 (by decide)|exact ne_ty hb1' hb3' (by decide)|exact ne_ty hg1 hb2' (by decide)|exact ne_ty hg1 hg2 (by decide)|exact ne_ty hg1 hb3' (by decide)|exact ne_ty hb2' hg2 (by decide)|exact ne_ty hb2' hb3' (by decide)|exact ne_ty hg2 hb3' (by decide)|(rintro ⟨_,h⟩;cases h)|skip
  ·rcases BP.mem.1 hx with h|h|h|h|h|h|⟨_,h⟩
   ·have h:x=b:=h
    omega
   ·have h:x=b1:=h
    omega
   ·have h:x=g1:=h
    omega
   ·have h:x=b2:=h
    omega
   ·have h:x=g2:=h
    omega
   ·have h:x=b3:=h
    omega
   ·cases h
  ·rw [← hn0,← hW0] at *
   exact (Tch.refl.alloc (Nat.le_refl _) _).then ht (by simp) fun _ _ h=>h
end
def padK (ks:List Int):List Int:=ks++List.replicate (5-ks.length) 0
theorem padK_length {ks:List Int} (h:ks.length≤5):(padK ks).length=5:=by simp [padK];omega
section
variable {fr:Bool} {w:World} {kb kc:Nat} {ks:List Int}
theorem add0 (b j:Nat):((⟨b,0,none⟩:Addr).add j)=⟨b,j,none⟩:=by simp [Addr.add];exact fun h=>h.symm
theorem Row.cellv {t:TypeId} {k:IntKind} {xs:List Int} {cap b:Nat} (h:Row fr w b t k xs cap):∀ j v,(xs.map (Value.int k))[j]?=some v→w.cell? ((⟨b,0,none⟩:Addr).add j)=some v:=by
 intro j v hj
 have hl:j<xs.length:=by have:=(List.getElem?_eq_some_iff.1 hj).1;simpa using this
 have:=h.cell hl
 rw [add0]
 rw [this]
 rw [List.getElem?_map,List.getElem?_eq_getElem hl] at hj
 simp [List.getD_eq_getElem?_getD,hl] at hj ⊢
 exact hj
set_option maxRecDepth 100000 in
set_option maxHeartbeats 1000000 in
theorem of_calls (h:Row fr w kb 3 .i64 ks kc) (hn:ks.length≤5) :
  Calls Tryz.prog 25 #[.slice (some ⟨kb,0,none⟩) ks.length kc] w fun e w'=>e=.returned (.agg (ai .i64 (padK ks)))∧Tch w.heap.size M0 w w':=by
 have hi3:(Tryz.prog.info? 3).map (·.size)=some 1:=by kernel_rfl
 have hlt:=h.lt
 have hcells:=h.cellv
 have hsp:splice (List.replicate 5 (Value.int .i64 0)) 0 (ks.map (Value.int .i64))=(padK ks).map (Value.int .i64):=by
  unfold splice padK
  rw [List.take_zero,List.nil_append,List.drop_replicate,List.map_append,List.map_replicate,Nat.zero_add,List.length_map]
 have hsp:splice [Value.int .i64 0,.int .i64 0,.int .i64 0,.int .i64 0,.int .i64 0] 0 (ks.map (Value.int .i64))=(padK ks).map (Value.int .i64):=hsp
 obtain ⟨x0,x1,x2,x3,x4,hx⟩:∃ x0 x1 x2 x3 x4,padK ks=[x0,x1,x2,x3,x4]:=by
  have h1:=padK_length hn
  generalize padK ks=l at h1
  rcases l with _|⟨x0,_|⟨x1,_|⟨x2,_|⟨x3,_|⟨x4,_|⟨x5,l⟩⟩⟩⟩⟩⟩<;>simp at h1
  exact ⟨_,_,_,_,_,rfl⟩
 rw [hx] at hsp ⊢
 simp only [ai,List.map_cons,List.map_nil] at hsp ⊢
 have hL:(ks.map (Value.int .i64)).length=ks.length:=by simp
 generalize hcs:ks.map (Value.int .i64)=cs at *
 have h1c:∀ v∈cs,v.oneCell'=true:=by
  rw [← hcs];intro v hv
  obtain ⟨x,_,rfl⟩:=List.mem_map.1 hv
  rfl
 clear hcs hx h
 generalize ks.length=n at *
 go_enter Tryz.func25,Tryz.ntmps25
 go_wp2_with (refine wpList_copy_splice rfl _ _ 33 33 rfl 3 Tryz.underlying33 hi3 (some ⟨w.heap.size,0,none⟩) (some ⟨kb,0,none⟩) 5 5 n kc rfl rfl w.heap.size 0 [Value.int .i64 0,.int .i64 0,.int .i64 0,.int .i64 0,.int .i64 0] 76 (heap_new _) cs (by rw [hL];show n=min n 5;omega) (fun _=>⟨rfl,_,rfl,fun j v hj=>by rw [add0];exact (World.cell?_of_block (heap_old _ hlt)).trans (by have:=hcells j v hj;rwa [add0] at this)⟩) (by rw [hL];simp;omega) h1c w.heap.size w ((Below.refl _ w).alloc (Nat.le_refl _) _) (Nat.le_refl _) ?_;intro w2 hb2 hbel;rw [hsp] at hb2;have c0:=(cell_of hb2 0).trans rfl;have c1:=(cell_of hb2 1).trans rfl;have c2:=(cell_of hb2 2).trans rfl;have c3:=(cell_of hb2 3).trans rfl;have c4:=(cell_of hb2 4).trans rfl;have q:=frozen_of hb2 0;have q1:=frozen_of hb2 1;have q2:=frozen_of hb2 2;have q3:=frozen_of hb2 3;have q4:=frozen_of hb2 4)
 go_wp2
 have hB:Tch w.heap.size M0 w w2:=.of_below hbel
 refine bodyPost_ret (v:=.agg #[.int .i64 x0,.int .i64 x1,.int .i64 x2,.int .i64 x3,.int .i64 x4]) (by
    have hr:Tryz.f25.results=#[.cell 2 76]:=rfl
    simp [results,hr,go_sem,c0,c1,c2,c3,c4]) rfl ⟨rfl,?_⟩
 refine ((((hB.set ?_ _).set ?_ _).set ?_ _).set ?_ _).set ?_ _<;>exact .inl (by simp)
end
end Go.Sim.Z
