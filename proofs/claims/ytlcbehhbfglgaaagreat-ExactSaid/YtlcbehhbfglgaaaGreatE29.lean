/- PROVED HERE: laws that the statement rests on (parts Xe, Wg, Xf). Conditions: none. -/
import Derived.Test.YtlcbehhbfglgaaaGreatE00
import Derived.Test.YtlcbehhbfglgaaaGreatE01
import Derived.Test.YtlcbehhbfglgaaaGreatE28
set_option linter.all false
namespace Go.Sim.Z
open Go Go.Proofs Go.RowKit Go.Conc
def Dat:Obj→Prop
 | .cells _ _ _=>True
 | .map _ _=>True
 | _=>False
def KE (E:Nat→Prop) (w w':World):Prop:=∀ b o,E b→w.heap[b]?=some o→Dat o→w'.heap[b]?=some o
section
variable {C:Cx} {ok:FuncId→Code→Prop} {E E':Nat→Prop} {w w1 w2 w':World} {b x:Nat} {arr:Array Value} {t:TypeId}
theorem KE.refl:KE E w w:=fun _ _ _ h _=>h
theorem KE.trans (h:KE E w w1) (k:KE E w1 w2):KE E w w2:=fun b o hb ho hd=>k b o hb (h b o hb ho hd) hd
theorem KE.mono (h:KE E' w w1) (hs:∀ b,E b→E' b):KE E w w1:=fun b o hb=>h b o (hs b hb)
theorem KE.of_eq (h:∀ b,E b→w1.heap[b]?=w.heap[b]?):KE E w w1:=fun b o hb ho _=>(h b hb).trans ho
theorem lax_heap (hst:C.st=false) (hW:WR C ok (idE E) w w'):KE E w w':=by
 intro b o he ho hd
 obtain ⟨o1,o',h1,h2,h3⟩:=hW.get (b:=b) (b':=b) ⟨rfl,he⟩
 rw [ho] at h1;cases h1
 have hE:∀ b b',idE E b b'→b=b':=fun _ _ h=>h.1
 cases o with
 | cells c el fz=>
  obtain ⟨c',fz',rfl,ha,_,hn⟩:=h3
  have e:c'=c:=by
   apply Array.ext_getElem?
   intro i
   cases hx:c[i]? with
   | none=>exact ha.none_of hx
   | some v=>obtain ⟨v',h4,r⟩:=ha.some_of hx;rw [h4,r.eq hE]
  rw [h2,e,(hn (C.lax hst b)).1]
 | map es ck=>
  obtain ⟨es',rfl,hr⟩:=h3
  have e:es'=es:=by
   apply Array.ext_getElem?
   intro i
   cases hx:es[i]? with
   | none=>rw [Array.getElem?_eq_none_iff] at hx ⊢;rw [← hr.size];exact hx
   | some z=>
    have hlt:i<es'.size:=by rw [← hr.size];exact (Array.getElem?_eq_some_iff.1 hx).1
    have h4:es'[i]?=some es'[i]:=Array.getElem?_eq_getElem hlt
    have q:=hr.at_ i z _ hx h4
    rw [h4]
    generalize es'[i]=z' at q
    obtain ⟨k,v,n⟩:=z
    obtain ⟨k',v',n'⟩:=z'
    have e1:=q.key.eq hE
    have e2:=q.val.eq hE
    have e3:=q.born
    simp only at e1 e2 e3
    rw [e1,e2,e3]
  rw [h2,e]
 | _=>exact hd.elim
theorem KE.cell (h:KE E w w') {a:Addr} {v:Value} (he:E a.block) (hc:w.cell? a=some v):w'.cell? a=some v:=by
 unfold World.cell? at hc ⊢
 cases ho:w.heap[a.block]? with
 | none=>rw [ho] at hc;cases hc
 | some o=>
  rw [ho] at hc
  cases o with
  | cells c el fz=>rw [h _ _ he ho trivial];exact hc
  | _=>cases hc
theorem KE.blk (h:KE E w w') {fr:Bool} (he:E b) (hb:Blk fr w b arr t):Blk fr w' b arr t:=by
 obtain ⟨z,h1,h2⟩:=hb
 exact ⟨z,h _ _ he h1 trivial,h2⟩
theorem KE.shd (h:KE E w w') {F:Nat→Prop} (he:E b) (hs:Shd F w b):Shd F w' b:=by
 obtain ⟨o,h1,h2⟩:=hs
 refine ⟨o,h _ _ he h1 ?_,h2⟩
 have:=h2 (fun _=>True) (fun _=>False) fun _ _=>trivial
 cases o<;>first|trivial|exact this.elim
theorem KE.at (h:KE E w w') (he:E b) (hs:∃ F,Shd F w b):w'.heap[b]?=w.heap[b]?:=by
 obtain ⟨F,o,h1,h2⟩:=hs
 have hd:Dat o:=by
  have:=h2 (fun _=>True) (fun _=>False) fun _ _=>trivial
  cases o<;>first|trivial|exact this.elim
 rw [h1,h _ _ he h1 hd]
theorem TabAt.ke {c:CfgD} {m:Nat} {T:List TR} (h:TabAt false w c m T) (k:KE E w w') (hE:∀ x,x=m∨x∈tpl T→E x):TabAt false w' c m T:=
 h.kept fun x hx=>k.at (hE x hx) ⟨fun _=>True,Shd.tab h (fun _ _=>trivial) (fun _ _=>trivial) x hx⟩
theorem KAt.ke {ka:Option Addr} {kc:Nat} {ks:List KeyT} (h:KAt false w ka kc ks) (k:KE E w w') (hE:∀ a,ka=some a→E a.block):KAt false w' ka kc ks:=by
 rcases h with h|⟨g,cur,h1,h2,h3⟩
 ·exact .inl h
 ·exact .inr ⟨g,cur,h1,k.blk (hE _ h1) h2,h3⟩
theorem TabAt.places {c:CfgD} {m:Nat} {T:List TR} (hst:C.st=false) (hW:WR C ok (idE E) w w') (hba:∀ a,c.ba=some a→E a.block) (h:TabAt false w c m T) (hm:E m):∀ x,x=m∨x∈tpl T→E x:=fun x hx=>by
 rcases hx with rfl|hx
 ·exact hm
 ·exact ((h.ren (fr:=false) hW (.inr rfl) (fun a ha=>⟨rfl,hba a ha⟩) ⟨rfl,hm⟩).1 x hx).2 |> fun q=>by
   have e:=((h.ren (fr:=false) hW (.inr rfl) (fun a ha=>⟨rfl,hba a ha⟩) ⟨rfl,hm⟩).1 x hx)
   exact e.2
theorem _root_.Go.Sim.WR.ptr_in (hW:WR C ok (idE E) w w') (he:E b) {i:Nat} {v:Value} (hc:w.cell? ⟨b,i,none⟩=some v):VR C (idE E) v v:=by
 obtain ⟨v',h1,h2⟩:=hW.cell (b:=b) (b':=b) ⟨rfl,he⟩ hc
 have:=h2.eq fun _ _ h=>h.1
 subst this
 exact h2
theorem _root_.Go.Sim.VR.ptrE {o:Nat} {s:Option Nat} (h:VR C (idE E) (.pointer (some ⟨b,o,s⟩)) (.pointer (some ⟨b,o,s⟩))):E b:=by
 cases h with
 | ptr _ _ h=>exact h.2
theorem _root_.Go.Sim.VR.mapE (h:VR C (idE E) (.map (some b)) (.map (some b))):E b:=by
 cases h with
 | map h=>exact h.2
theorem _root_.Go.Sim.VR.sliceE {a:Addr} {l c:Nat} (h:VR C (idE E) (.slice (some a) l c) (.slice (some a) l c)):E a.block:=by
 cases h with
 | slice _ _ _ _ h=>exact h.2
theorem KE.step (hk:Keeps w w1) (l:KE E' w1 w') (hs:∀ b,E b→E' b):KE E w w':=fun b o hb ho hd=>l b o (hs b hb) ((hk.heap b (lt_of ho)).trans ho) hd
theorem _root_.Go.Sim.TmR.slot {S:Kn} {fn:FuncId} {T:Array Value} (h:TmR C S fn (idE E) T T) {i:Nat} {v:Value} (hi:(C.hl fn).contains i=false) (hv:T[i]?=some v):VR C (idE E) v v:=h.at_ i v v hi hv hv
end
def HOk (w:World):Prop:=∃ arr t,Blk false w Tryz.prog.globals.size arr t∧Plain arr
theorem HOk.ke {E:Nat→Prop} {w w':World} (h:HOk w) (k:KE E w w') (hE:E Tryz.prog.globals.size):HOk w':=by
 obtain ⟨arr,t,h1,h2⟩:=h
 exact ⟨arr,t,k.blk hE h1,h2⟩
end Go.Sim.Z
namespace Go.Sim.Z
open Go Go.Proofs Go.RowKit Go.Maps Go.Sort Go.Shelf
instance:Inhabited KeyT:=⟨⟨[0,0,0,0,0],rfl,by decide⟩⟩
def encC (x:KeyT):List Value:=x.1.map (Value.int .i64)
def cmpT (x y:KeyT):Int:=cmpK x.1 y.1
theorem cmpI_cases (x y:Int):(Lib.compareInt x y=-1∧x<y)∨(Lib.compareInt x y=0∧x=y)∨(Lib.compareInt x y=1∧y<x):=by
 unfold Lib.compareInt
 split
 ·exact .inl ⟨rfl,by assumption⟩
 ·split
  ·exact .inr (.inr ⟨rfl,by assumption⟩)
  ·exact .inr (.inl ⟨rfl,by omega⟩)
theorem cmpK_refl:∀ x:List Int,cmpK x x=0
 | []=>rfl
 | x::xs=>by
  unfold cmpK
  rcases cmpI_cases x x with ⟨h,h'⟩|⟨h,_⟩|⟨h,h'⟩
  ·omega
  ·rw [if_pos h];exact cmpK_refl xs
  ·omega
theorem cmpK_trans:∀ {x y z:List Int},x.length=y.length→y.length=z.length→cmpK x y<0→cmpK y z<0→cmpK x z<0
 | [],_,_,_,_,h,_=>by unfold cmpK at h;simp at h
 | _::_,[],_,h,_,_,_=>by simp at h
 | _::_,_::_,[],_,h,_,_=>by simp at h
 | x::xs,y::ys,z::zs,h1,h2,h3,h4=>by
  simp only [List.length_cons,Nat.add_right_cancel_iff] at h1 h2
  unfold cmpK at h3 h4 ⊢
  rcases cmpI_cases x y with ⟨e1,_⟩|⟨e1,_⟩|⟨e1,_⟩<;>rcases cmpI_cases y z with ⟨e2,_⟩|⟨e2,_⟩|⟨e2,_⟩<;>rcases cmpI_cases x z with ⟨e3,_⟩|⟨e3,_⟩|⟨e3,_⟩ <;>
   simp [e1,e2,e3] at h3 h4 ⊢<;>first|omega|exact cmpK_trans h1 h2 h3 h4
theorem cmpK_ntrans:∀ {x y z:List Int},x.length=y.length→y.length=z.length→¬ cmpK x y<0→¬ cmpK y z<0→¬ cmpK x z<0
 | [],_,_,_,_,_,_=>by unfold cmpK;simp
 | _::_,[],_,h,_,_,_=>by simp at h
 | _::_,_::_,[],_,h,_,_=>by simp at h
 | x::xs,y::ys,z::zs,h1,h2,h3,h4=>by
  simp only [List.length_cons,Nat.add_right_cancel_iff] at h1 h2
  unfold cmpK at h3 h4 ⊢
  rcases cmpI_cases x y with ⟨e1,_⟩|⟨e1,_⟩|⟨e1,_⟩<;>rcases cmpI_cases y z with ⟨e2,_⟩|⟨e2,_⟩|⟨e2,_⟩<;>rcases cmpI_cases x z with ⟨e3,_⟩|⟨e3,_⟩|⟨e3,_⟩ <;>
   simp [e1,e2,e3] at h3 h4 ⊢<;>first|omega|exact Int.not_lt.1 (cmpK_ntrans h1 h2 (Int.not_lt.2 h3) (Int.not_lt.2 h4))
theorem cmpK_total:∀ {x y:List Int},x.length=y.length→¬ cmpK x y<0→¬ cmpK y x<0→x=y
 | [],[],_,_,_=>rfl
 | [],_::_,h,_,_=>by simp at h
 | _::_,[],h,_,_=>by simp at h
 | x::xs,y::ys,h1,h3,h4=>by
  simp only [List.length_cons,Nat.add_right_cancel_iff] at h1
  unfold cmpK at h3 h4
  rcases cmpI_cases x y with ⟨e1,_⟩|⟨e1,_⟩|⟨e1,_⟩<;>rcases cmpI_cases y x with ⟨e2,_⟩|⟨e2,_⟩|⟨e2,_⟩ <;>
   simp [e1,e2] at h3 h4<;>try omega
  subst x
  rw [cmpK_total h1 (Int.not_lt.2 h3) (Int.not_lt.2 h4)]
theorem ltK (x y:KeyT):ltOf cmpT x y=decide (cmpK x.1 y.1<0):=rfl
theorem len_eq (x y:KeyT):x.1.length=y.1.length:=x.2.1.trans y.2.1.symm
theorem swoK:SWO (ltOf cmpT) where
 irrefl x:=by rw [ltK,cmpK_refl];rfl
 trans x y z h1 h2:=by rw [ltK] at *;simp only [decide_eq_true_eq] at *;exact cmpK_trans (len_eq x y) (len_eq y z) h1 h2
 ntrans x y z h1 h2:=by rw [ltK] at *;simp only [decide_eq_false_iff_not] at *;exact cmpK_ntrans (len_eq x y) (len_eq y z) h1 h2
theorem totK (x y:KeyT) (h1:ltOf cmpT x y=false) (h2:ltOf cmpT y x=false):x=y:=by
 rw [ltK] at *
 simp only [decide_eq_false_iff_not] at *
 exact Subtype.ext (cmpK_total (len_eq x y) h1 h2)
theorem cmpLaysK (blk off size:Nat) (w:World):CmpLays Tryz.prog 58 #[] encC 5 cmpT blk off size w:=by
 intro m os dk _ x y
 refine (before_calls x.1 y.1 x.2.1 y.2.1 _).mono ?_
 rintro e w' ⟨rfl,rfl⟩
 exact ⟨rfl,(((Tch.refl.alloc (Nat.le_refl _) _).alloc (by rw [size_alloc];omega) _).drew).grown (Nat.le_succ _)⟩
def KRow (w:World) (base:Nat) (v:Value) (ks:List KeyT):Prop:=
 (v=.slice none 0 0∧ks=[]) ∨
 ∃ (g cap:Nat) (cur:Array Value),v=.slice (some ⟨g,0,none⟩) ks.length cap∧base≤g∧w.heap[g]?=some (.cells cur 76)∧ks.length≤cap∧cap≤maxLen∧cur.size=cap*5∧Plain cur∧cur.toList.take (ks.length*5)=kcells ks
def sortK (ss:List KeyT):List KeyT:=ss.mergeSort fun x y=>!ltOf cmpT y x
theorem flat_get (d:Array KeyT) (t:Nat) (h:t<d.size*5):(kcells d.toList)[t]?=some ((flatK encC 5 d)[t]!):=by
 rw [get_flatK _ _ _ _ h]
 have hd:t / 5<d.size:=by omega
 rw [getElem!_pos d (t / 5) hd]
 have gen:∀ (l:List KeyT) (t:Nat) (ht:t / 5<l.length),(kcells l)[t]?=some ((encC l[t / 5])[t % 5]!):=by
  intro l
  induction l with
  | nil=>intro t ht;simp at ht
  | cons x l ih=>
   intro t ht
   have e:kcells (x::l)=encC x++kcells l:=rfl
   have hl:(encC x).length=5:=by simp [encC,x.2.1]
   rw [e,List.getElem?_append]
   by_cases h5:t<5
   ·have e0:t / 5=0:=by omega
    have e1:t % 5=t:=by omega
    simp only [hl,h5,if_true,e0,List.getElem_cons_zero,e1]
    rw [List.getElem?_eq_getElem (by omega),getElem!_pos _ _ (by omega)]
   ·rw [if_neg (by omega),hl,ih (t-5) (by simp at ht;omega)]
    have e0:t / 5=(t-5) / 5+1:=by omega
    have e1:(t-5) % 5=t % 5:=by omega
    simp only [e0,List.getElem_cons_succ,e1]
 have:=gen d.toList t (by simpa using hd)
 simpa using this
theorem sw_other {w:World} {g n b:Nat} {arr:Array KeyT} {os:Array Obj} (hb:b<w.heap.size) (hne:b≠g):(sortWorldK encC 5 w g 0 n arr os).heap[b]?=w.heap[b]?:=by
 show ((w.heap.modify g (onCells _))++os)[b]?=_
 rw [Array.getElem?_append_left (by simpa using hb),Array.getElem?_modify,if_neg (Ne.symm hne)]
theorem sw_at {w:World} {g n:Nat} {arr:Array KeyT} {os:Array Obj} {cur:Array Value} {t:TypeId} {z:Nat × Nat} (h:w.heap[g]?=some (.cells cur t z)) :
  (sortWorldK encC 5 w g 0 n arr os).heap[g]?=some (.cells (putCells id 0 (flatK encC 5 arr) cur) t z):=by
 show ((w.heap.modify g (onCells _))++os)[g]?=_
 rw [Array.getElem?_append_left (by simpa using lt_of h),Array.getElem?_modify,if_pos rfl,h]
 rfl
theorem sw_size {w:World} {g n:Nat} {arr:Array KeyT} {os:Array Obj}:w.heap.size≤(sortWorldK encC 5 w g 0 n arr os).heap.size:=by
 show _≤((w.heap.modify g (onCells _))++os).size
 simp
theorem kcells_int {ss:List KeyT}:∀ v∈kcells ss,IsInt v:=fun v hv=>by
 obtain ⟨x,_,hx⟩:=List.mem_flatMap.1 hv
 obtain ⟨n,_,rfl⟩:=List.mem_map.1 hx
 exact ⟨_,_,rfl⟩
theorem Plain.put {cur:Array Value} {arr:Array KeyT} (h:Plain cur):Plain (putCells id 0 (flatK encC 5 arr) cur):=.of_get fun i v hv=>by
 unfold putCells at hv
 rw [Array.getElem?_mapIdx] at hv
 obtain ⟨x,hx,rfl⟩:=Option.map_eq_some_iff.1 hv
 split
 ·rename_i hc
  rw [size_flatK] at hc
  have:=flat_get arr i (by omega)
  exact kcells_int _ (List.mem_of_getElem? this)
 ·exact h.at hx
set_option maxHeartbeats 1000000 in
theorem sort_calls (base:Nat) (v:Value) (ss:List KeyT) (w:World) (h:PR w base v ss) (hl:ss.length≤1000000) :
  Calls Tryz.prog 57 #[v,.func (.func 58) #[] #[]] w fun e w'=>e=.returned (.tuple #[])∧KRow w' base v (sortK ss)∧Tch base M0 w w':=by
 obtain ⟨⟨hlen,⟨rfl,h0⟩|⟨g,cap,cur,rfl,hb,hg,hc1,hc2,hc3,hc4⟩⟩,hpl⟩:=h
 ·have:ss=[]:=List.length_eq_zero_iff.1 h0
  subst this
  refine (AnyF.slices_SortFunc_none Tryz.sortK none 0 _ w).mono ?_
  rintro e w' ⟨rfl,rfl⟩
  exact ⟨rfl,.inl ⟨rfl,by simp [sortK]⟩,.refl⟩
 ·have hgl:g<w.heap.size:=lt_of hg
  have hcell:∀ t,t<ss.length*5→cur[t]?=some ((flatK encC 5 ss.toArray)[t]!):=by
   intro t ht
   rw [← flat_get ss.toArray t (by simpa using ht)]
   simp only [← hc4]
   rw [List.getElem?_take,if_pos ht]
   simp
  have hH:HoldsK encC 5 w g 0 ss.toArray:=by
   intro j hj
   rw [size_flatK] at hj
   rw [Nat.zero_add]
   exact ⟨by rw [cell_of hg];exact hcell j (by simpa using hj),frozen_of hg j⟩
  have eg:∀ args w,(callFunc 58 args).run Tryz.prog w=.ok (.enter 58 args) w:=enters_of Tryz.func58 (by kernel_rfl) rfl
  have hcon:=AnyQ.slices_SortFunc_total Tryz.sortK 5 Tryz.isAgg76 Tryz.sizeOf76 encC (fun x=>by simp [encC,x.2.1]) (fun x u hu=>by
   simp only [encC,List.mem_map] at hu
   obtain ⟨n,_,rfl⟩:=hu
   rfl) cmpT swoK 58 #[] g 0 cap ss.toArray w eg (cmpLaysK g 0 _ w) hH hgl (by simp;omega) totK
  change Calls Tryz.prog 57 _ _ _ at hcon
  simp only [List.size_toArray] at hcon
  refine hcon.mono ?_
  rintro e w' ⟨rfl,n,os,rfl⟩
  have hsl:(sortK ss).length=ss.length:=List.length_mergeSort _
  refine ⟨rfl,.inr ⟨g,cap,_,by rw [hsl],hb,sw_at hg,by omega,hc2,by simpa [putCells] using hc3,Plain.put (hpl g _ cap rfl cur 76 _ hg),?_⟩,⟨sw_size,fun b hb' _=>sw_other (by omega) (by omega),rfl,rfl,rfl⟩⟩
  apply List.ext_getElem?
  intro t
  rw [List.getElem?_take,hsl]
  split
  ·rename_i ht
   have hf:=flat_get (sortK ss).toArray t (by simp [hsl];omega)
   rw [show (sortK ss).toArray.toList=sortK ss from rfl] at hf
   rw [hf]
   have hcs:t<cur.size:=by omega
   have e0:(List.mergeSort ss fun x y=>!ltOf cmpT y x)=sortK ss:=rfl
   simp [putCells,hcs,e0,hsl,ht]
  ·rename_i ht
   rw [List.getElem?_eq_none (by rw [kcells_length,hsl];omega)]
def keysOf (L:List (List Int × Value)) (ks:List KeyT):Prop:=∃ ss,KeysOf L ss∧ks=sortK ss
set_option maxHeartbeats 1000000 in
theorem sorted_calls (b:Nat) (L:List (List Int × Value)) (w:World) (hm:CMap w b L) (hN:L.length≤1000000) :
  Calls Tryz.prog 32 #[.map (some b)] w fun e w'=>∃ v ks,e=.returned v∧keysOf L ks∧KRow w' (w.heap.size+1) v ks∧Tch w.heap.size M0 w w':=by
 have hcol:=collect_keys b L w hm hN
 go_enter Tryz.func32,Tryz.ntmps32
 go_wp2_with (first
  | (go_at_call 56;refine (keys_calls _ _).mono ?_;rintro e w' ⟨rfl,rfl⟩)
  | (go_at_call 55;refine hcol.mono ?_;rintro e w1 ⟨v,ss,rfl,hS,hrow,hnil,hb⟩;have hsort:=sort_calls (w.heap.size+1) v ss w1 hrow (by have:=hS.length_eq;simp at this;omega);clear hrow hnil)
  | (go_at_call 57;refine hsort.mono ?_;rintro e w2 ⟨rfl,hk,ht⟩))
 go_ret
 refine ⟨_,_,rfl,⟨ss,hS,rfl⟩,hk,?_⟩
 have h1:Tch w.heap.size M0 w (w.alloc (.cells #[.map (some b)] 70)):=Tch.refl.alloc (Nat.le_refl _) _
 have h2:Tch (w.heap.size+1) M0 (w.alloc (.cells #[.map (some b)] 70)) w1:=.of_below hb
 exact (h1.trans (h2.mono (by omega) fun b _ h=>h)).trans (ht.mono (by omega) fun b _ h=>h)
end Go.Sim.Z
namespace Go.Sim.Z
open Go Go.Proofs Go.RowKit
theorem rep46:Array.replicate 46 undef=#[undef,undef,undef,undef,undef,undef,undef,undef,undef,undef,undef,undef,undef,undef,undef,undef,undef,undef,undef,undef,undef,undef,undef,undef,undef,undef,undef,undef,undef,undef,undef,undef,undef,undef,undef,undef,undef,undef,undef,undef,undef,undef,undef,undef,undef,undef]:=by kernel_rfl
noncomputable def R0 (src mk fb:Nat):Array Value:=#[.map (some src),.int .i64 (mk:Int),.func (.func 42) #[] #[.pointer (some ⟨fb,0,none⟩)],undef,undef,undef,undef,undef,undef,undef,undef,undef,undef,undef,undef,undef,undef,undef,undef,undef,undef,undef,undef,undef,undef,undef,undef,undef,undef,undef,undef,undef,undef,undef,undef,undef,undef,undef,undef,undef,undef,undef,undef,undef,undef,undef,undef,undef,undef]
noncomputable def R1 (src mk fb:Nat) (n3 n4 n5:Nat):Array Value:=#[.map (some src),.int .i64 (mk:Int),.func (.func 42) #[] #[.pointer (some ⟨fb,0,none⟩)],.pointer (some ⟨n3,0,none⟩),.pointer (some ⟨n4,0,none⟩),.pointer (some ⟨n5,0,none⟩),.map none,undef,undef,undef,undef,undef,undef,undef,undef,undef,undef,undef,undef,undef,undef,undef,undef,undef,undef,undef,undef,undef,undef,undef,undef,undef,undef,undef,undef,undef,undef,undef,undef,undef,undef,undef,undef,undef,undef,undef,undef,undef,undef]
noncomputable def R2a (src mk fb:Nat) (n3 n4 n5:Nat) (v:Value) (n7:Nat):Array Value:=#[.map (some src),.int .i64 (mk:Int),.func (.func 42) #[] #[.pointer (some ⟨fb,0,none⟩)],.pointer (some ⟨n3,0,none⟩),.pointer (some ⟨n4,0,none⟩),.pointer (some ⟨n5,0,none⟩),.map none,.pointer (some ⟨n7,0,none⟩),undef,undef,undef,undef,undef,undef,undef,undef,.map (some src),v,undef,undef,undef,undef,undef,undef,undef,undef,undef,undef,undef,undef,undef,undef,undef,undef,undef,undef,undef,undef,undef,undef,undef,undef,undef,undef,undef,undef,undef,undef,undef]
noncomputable def R3a (src mk fb:Nat) (n3 n4 n5:Nat) (v:Value) (n7 n8:Nat):Array Value:=#[.map (some src),.int .i64 (mk:Int),.func (.func 42) #[] #[.pointer (some ⟨fb,0,none⟩)],.pointer (some ⟨n3,0,none⟩),.pointer (some ⟨n4,0,none⟩),.pointer (some ⟨n5,0,none⟩),.map none,.pointer (some ⟨n7,0,none⟩),.pointer (some ⟨n8,0,none⟩),undef,undef,undef,undef,undef,undef,undef,.map (some src),v,undef,undef,undef,undef,undef,undef,undef,undef,undef,undef,undef,undef,undef,undef,undef,undef,undef,undef,undef,undef,undef,undef,undef,undef,undef,undef,undef,undef,undef,undef,undef]
section
variable {src mk fb:Nat} {v:Value} {n3 n4 n5 n7:Nat} {w:World} {d:Deferred}
theorem p40_0_wp:p40_0.wp Tryz.prog (fun e a w1=>e=.normal∧a.tmps=R1 src mk fb w.heap.size (w.heap.size+1) (w.heap.size+2)∧w1.heap=((w.heap.push (.cells #[.map (some src)] 70)).push (.cells #[.int .i64 mk] 3)).push (.cells #[.func (.func 42) #[] #[.pointer (some ⟨fb,0,none⟩)]] 111)) ⟨R0 src mk fb,[d]⟩ w:=by
 unfold R0 R1
 simp only [p40_0,b40,fstC,sndC,Tryz.f40,Option.getD_some]
 go_wp2
 exact rfl
theorem p40_1_wp {L:List (List Int × Value)} (hm:CMap w src L) (hN:L.length≤1000000) (h3:w.cell? ⟨n3,0,none⟩=some (.map (some src))):p40_1.wp Tryz.prog (fun e a w1=>e=.normal∧∃ v ks n7,a.tmps=R2a src mk fb n3 n4 n5 v n7∧keysOf L ks∧KRow w1 w.heap.size v ks∧w.heap.size≤n7∧w1.heap[n7]?=some (.cells #[v] 88)∧Keeps w w1) ⟨R1 src mk fb n3 n4 n5,[d]⟩ w:=by
 have hs:=sorted_calls src L w hm hN
 unfold R1
 simp only [p40_1,b40,fstC,sndC,Tryz.f40,Option.getD_some]
 go_wp2_with (go_at_call 32;refine hs.mono ?_;rintro e w1 ⟨v,ks,rfl,hk,hr,ht⟩;obtain ⟨ka,l,kc,rfl⟩:∃ ka l kc,v=.slice ka l kc:=by (rcases hr with ⟨h,_⟩|⟨g,cap,cur,h,_⟩<;>exact ⟨_,_,_,h⟩))
 refine ⟨_,ks,_,rfl,hk,?_,ht.size,heap_new _,Keeps.refl.tch0 (ht.alloc ht.size _)⟩
 rcases hr with h|⟨g,cap,cur,h1,h2,h3,h4⟩
 ·exact .inl h
 ·exact .inr ⟨g,cap,cur,h1,by omega,(heap_old _ (lt_of h3)).trans h3,h4⟩
theorem p40_2_wp:p40_2.wp Tryz.prog (fun e a w1=>e=.normal∧a.tmps=R3a src mk fb n3 n4 n5 v n7 w.heap.size∧w1.heap=w.heap.push (.cells #[.map none,.map none,.map none,.map none] 138)) ⟨R2a src mk fb n3 n4 n5 v n7,[d]⟩ w:=by
 unfold R2a R3a
 simp only [p40_2,b40,fstC,sndC,Tryz.f40,Option.getD_some]
 go_wp2
 exact rfl
end
end Go.Sim.Z
