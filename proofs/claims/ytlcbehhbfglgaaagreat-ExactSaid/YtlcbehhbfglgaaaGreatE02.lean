/- PROVED HERE: laws that the statement rests on (parts Wh, Wi, Wj, Wk, Wl, Ya). Conditions: none. -/
import Derived.Lib.SliceRun
import Derived.Test.YtlcbehhbfglgaaaGreatE01
set_option linter.all false
namespace Go.Sim.Z
open Go Go.Proofs Go.RowKit
def Blk (fr:Bool) (w:World) (b:Nat) (arr:Array Value) (t:TypeId):Prop:=∃ z,w.heap[b]?=some (.cells arr t z)∧(fr=false→z=(0,0))
def Row (fr:Bool) (w:World) (b:Nat) (t:TypeId) (k:IntKind) (xs:List Int) (cap:Nat):Prop:=
 ∃ cur,Blk fr w b cur t∧cur.size=cap∧xs.length≤cap∧(∀ i,i<xs.length→cur[i]?=some (.int k (xs.getD i 0)))∧Plain cur
section
variable {fr:Bool} {w w':World} {b:Nat} {arr:Array Value} {t:TypeId} {k:IntKind} {xs:List Int} {cap:Nat}
theorem Blk.lt (h:Blk fr w b arr t):b<w.heap.size:=by obtain ⟨z,h,_⟩:=h;exact lt_of h
theorem Blk.cell (h:Blk fr w b arr t) (i:Nat):w.cell? ⟨b,i,none⟩=arr[i]?:=by obtain ⟨z,h,_⟩:=h;exact cell_of h i
theorem Blk.frozen (h:Blk false w b arr t) (i:Nat):w.frozen? ⟨b,i,none⟩=false:=by
 obtain ⟨z,h,hz⟩:=h
 cases hz rfl
 exact frozen_of h i
theorem Blk.kept (h:Blk fr w b arr t) (hb:w'.heap[b]?=w.heap[b]?):Blk fr w' b arr t:=by obtain ⟨z,h,hz⟩:=h;exact ⟨z,hb.trans h,hz⟩
theorem Blk.set (h:Blk false w b arr t) (i:Nat) (v:Value):Blk false (w.setCell ⟨b,i,none⟩ v) b (arr.setIfInBounds i v) t:=by
 obtain ⟨z,h,hz⟩:=h
 cases hz rfl
 exact ⟨(0,0),heap_set h i v,fun _=>rfl⟩
theorem Blk.tch {N:Nat} {M:Nat→Prop} (h:Blk fr w b arr t) (k:Tch N M w w') (hb:b<N) (hm:¬ M b):Blk fr w' b arr t:=h.kept (k.heap b hb hm)
theorem Row.lt (h:Row fr w b t k xs cap):b<w.heap.size:=by obtain ⟨_,h,_⟩:=h;exact h.lt
theorem Row.cell (h:Row fr w b t k xs cap) {i:Nat} (hi:i<xs.length):w.cell? ⟨b,i,none⟩=some (.int k (xs.getD i 0)):=by
 obtain ⟨cur,h1,_,_,h4,_⟩:=h
 rw [h1.cell,h4 i hi]
theorem Row.frozen (h:Row false w b t k xs cap) (i:Nat):w.frozen? ⟨b,i,none⟩=false:=by obtain ⟨_,h,_⟩:=h;exact h.frozen i
theorem Row.kept (h:Row fr w b t k xs cap) (hb:w'.heap[b]?=w.heap[b]?):Row fr w' b t k xs cap:=by
 obtain ⟨cur,h1,h2⟩:=h
 exact ⟨cur,h1.kept hb,h2⟩
theorem Row.tch {N:Nat} {M:Nat→Prop} (h:Row fr w b t k xs cap) (q:Tch N M w w') (hb:b<N) (hm:¬ M b):Row fr w' b t k xs cap:=h.kept (q.heap b hb hm)
theorem Row.set (h:Row false w b t k xs cap) (i:Nat) (v:Int):Row false (w.setCell ⟨b,i,none⟩ (.int k v)) b t k (xs.set i v) cap:=by
 obtain ⟨cur,h1,h2,h3,h4,h5⟩:=h
 refine ⟨_,h1.set i _,by simpa using h2,by simpa using h3,fun j hj=>?_,h5.set i ⟨_,_,rfl⟩⟩
 simp only [List.length_set] at hj
 rw [Array.getElem?_setIfInBounds,List.getD_eq_getElem?_getD,List.getElem?_set]
 by_cases e:i=j
 ·subst e
  simp [hj,show i<cur.size by omega]
 ·simp only [e,if_false]
  rw [h4 j hj,List.getD_eq_getElem?_getD]
theorem Row.cells (h:Row fr w b t k xs cap):∀ j u,(xs.map (Value.int k))[j]?=some u→w.cell? ⟨b,0+j,none⟩=some u:=by
 intro j u hj
 rw [List.getElem?_map,Option.map_eq_some_iff] at hj
 obtain ⟨x,hx,rfl⟩:=hj
 have hlt:j<xs.length:=(List.getElem?_eq_some_iff.1 hx).1
 rw [Nat.zero_add,h.cell hlt,List.getD_eq_getElem?_getD,hx]
 rfl
theorem Row.of_owns {base n:Nat} {v:Value} (h:w.ownsRow base t 1 v n (xs.map (Value.int k))) (hv:v≠.slice none 0 0) (hp:PlainV w v):∃ g cap,v=.slice (some ⟨g,0,none⟩) xs.length cap∧base≤g∧Row false w g t k xs cap∧cap≤maxLen:=by
 obtain ⟨h0,⟨rfl,_⟩|⟨g,cap,cur,rfl,h1,h2,h3,h4,h5,h6⟩⟩:=h
 ·exact absurd rfl hv
 ·simp only [List.length_map,Nat.mul_one] at h0 h5 h6
  subst h0
  refine ⟨g,cap,rfl,h1,⟨cur,⟨(0,0),h2,fun _=>rfl⟩,h5,h3,fun i hi=>?_,hp g _ cap rfl cur t _ h2⟩,h4⟩
  have:=congrArg (·[i]?) h6
  simp only [List.getElem?_take,hi,if_true,List.getElem?_map] at this
  rw [← Array.getElem?_toList,this,List.getD_eq_getElem?_getD,List.getElem?_eq_getElem hi]
  rfl
end
def partL (xs ys:List Int) (k:Nat):List Int:=xs.take k++ys.drop k
theorem partL_length {xs ys:List Int} (h:xs.length=ys.length) (k:Nat):(partL xs ys k).length=ys.length:=by simp [partL];omega
theorem partL_zero (xs ys:List Int):partL xs ys 0=ys:=by simp [partL]
theorem partL_all {xs ys:List Int} {n:Nat} (h:xs.length=n) (h':ys.length=n):partL xs ys n=xs:=by
 unfold partL
 rw [List.drop_eq_nil_of_le (by omega),List.append_nil,List.take_of_length_le (by omega)]
theorem partL_get {xs ys:List Int} (h:xs.length=ys.length) {k:Nat} (hk:k<ys.length):(partL xs ys k).getD k 0=ys.getD k 0:=by
 unfold partL
 rw [List.getD_eq_getElem?_getD,List.getD_eq_getElem?_getD,List.getElem?_append_right (by simp;omega)]
 simp [Nat.min_eq_left (show k≤xs.length by omega)]
theorem partL_set {xs ys:List Int} (h:xs.length=ys.length) {k:Nat} (hk:k<ys.length) {v:Int} (hv:v=xs.getD k 0):(partL xs ys k).set k v=partL xs ys (k+1):=by
 subst hv
 apply List.ext_getElem?
 intro i
 rw [List.getElem?_set,partL_length h]
 unfold partL
 by_cases e:k=i
 ·subst e
  rw [if_pos rfl,if_pos hk,List.getElem?_append_left (by simp;omega),List.getElem?_take,if_pos (by omega),List.getD_eq_getElem?_getD,List.getElem?_eq_getElem (by omega)]
  rfl
 ·rw [if_neg e]
  rcases Nat.lt_or_ge i k with h1|h1
  ·rw [List.getElem?_append_left (by simp;omega),List.getElem?_append_left (by simp;omega),List.getElem?_take,List.getElem?_take,if_pos h1,if_pos (by omega)]
  ·rw [List.getElem?_append_right (by simp;omega),List.getElem?_append_right (by simp;omega)]
   simp only [List.length_take,List.getElem?_drop]
   congr 1
   omega
theorem madeCells_one (z:Value) (n:Nat):madeCells #[z] n=Array.replicate n z:=by
 apply Array.ext_getElem?
 intro i
 by_cases h:i<n
 ·simp [madeCells,h,Nat.mod_one]
 ·rw [Array.getElem?_eq_none (by simp [madeCells];omega),Array.getElem?_eq_none (by simp;omega)]
theorem info5:(Tryz.prog.info? 5).map (fun i=>(i.zero,i.size,i.bytes))=some (some (.int .u8 0),1,1):=by kernel_rfl
theorem info3:(Tryz.prog.info? 3).map (fun i=>(i.zero,i.size,i.bytes))=some (some (.int .i64 0),1,8):=by kernel_rfl
theorem info45:(Tryz.prog.info? 45).map (fun i=>(i.zero,i.size,i.bytes))=some (some (.int .u64 0),1,8):=by kernel_rfl
theorem mkRow (t e:TypeId) (k:IntKind) (by8:Nat) (ht:Tryz.prog.underlying t=some (.slice e)) (hi:(Tryz.prog.info? e).map (fun i=>(i.zero,i.size,i.bytes))=some (some (.int k 0),1,by8)) (hb:by8≤8) (n:Nat) (hn:n≤100000) (w:World) :
  (Instr.makeSlice t (.int .i64 n) (.int .i64 n)).run Tryz.prog w=.ok (.slice (some ⟨w.heap.size,0,none⟩) n n) (w.alloc (.cells (Array.replicate n (.int k 0)) e)):=by
 obtain ⟨i0,h1,h2,h3,h4⟩:=info_parts hi
 have hb1:(i0.bytes:Int)*n≤281474976710656:=by
  rw [h4]
  have:by8*n≤8*100000:=Nat.mul_le_mul hb hn
  have h:((by8*n:Nat):Int)≤281474976710656:=by omega
  rwa [Int.natCast_mul] at h
 have:=run_makeSlice w t e i0 _ ht h1 h2 .i64 .i64 n n (by omega) (by omega) (by rw [h3];simp;omega) hb1 (by omega)
 rw [h3] at this
 simp only [Int.toNat_natCast,Nat.mul_one] at this
 rw [this,show (Value.int k 0).cells=#[.int k 0] from rfl,madeCells_one]
theorem rowMade (w:World) (t:TypeId) (k:IntKind) (n:Nat):Row false (w.alloc (.cells (Array.replicate n (.int k 0)) t)) w.heap.size t k (List.replicate n 0) n:=by
 refine ⟨_,⟨(0,0),heap_new _,fun _=>rfl⟩,by simp,by simp,fun i hi=>?_,.replicate ⟨_,_,rfl⟩⟩
 simp only [List.length_replicate] at hi
 simp [hi,List.getD_eq_getElem?_getD]
section
variable {fr:Bool} {w:World} {b:Nat} {xs:List Int} {cap:Nat}
theorem Row.kcells {t:TypeId} {k:IntKind} (h:Row fr w b t k xs cap):∀ j u,(xs.map (Value.int k))[j]?=some u→w.cell? ((⟨b,0,none⟩:Addr).add j)=some u:=fun j u hj=>by
 have:=h.cells j u hj
 rw [Nat.zero_add] at this
 cases j with
 | zero=>exact this
 | succ j=>simpa [Addr.add] using this
set_option maxHeartbeats 1000000 in
theorem clone8 (h:Row fr w b 5 .u8 xs cap) (hn:xs.length≤100000) (c:Nat):Calls Tryz.prog 161 #[.slice (some ⟨b,0,none⟩) xs.length c] w fun e w'=>∃ g c',e=.returned (.slice (some ⟨g,0,none⟩) xs.length c')∧w.heap.size≤g∧Row false w' g 5 .u8 xs c'∧Tch w.heap.size M0 w w'∧c'≤maxLen:=by
 obtain ⟨i0,hi,hz0,hz1,hz2⟩:=info_parts info5
 have hm:maxLen=9223372036854775807:=by decide
 have hkc:=h.kcells
 have hown:(w.alloc (.cells #[] 5)).ownsRow w.heap.size 5 1 (.slice (some ⟨w.heap.size,0,none⟩) 0 0) 0 []:=⟨rfl,.inr ⟨w.heap.size,0,#[],rfl,Nat.le_refl _,heap_new _,Nat.le_refl _,by omega,rfl,rfl⟩⟩
 have hpl:PlainV (w.alloc (.cells #[] 5)) (.slice (some ⟨w.heap.size,0,none⟩) 0 0):=fun g n cap e arr t z ha=>by
  cases e
  have hq:=ha.symm.trans (heap_new (w:=w) _)
  cases hq
  exact fun v hv=>by simp at hv
 have hkw:∀ j u,(xs.map (Value.int .u8))[j]?=some u→(w.alloc (.cells #[] 5)).cell? ((⟨b,0,none⟩:Addr).add j)=some u:=fun j u hj=>by
  refine (World.cell?_of_block (heap_old _ ?_)).trans (hkc j u hj)
  cases j with
  | zero=>exact h.lt
  | succ j=>simpa [Addr.add] using h.lt
 have hlen:(xs.map (Value.int .u8)).length=xs.length*1:=by simp
 have hone:∀ u∈xs.map (Value.int .u8),u.oneCell'=true:=fun u hu=>by obtain ⟨x,_,rfl⟩:=List.mem_map.1 hu;rfl
 have hint:∀ u∈xs.map (Value.int .u8),IsInt u:=fun u hu=>by obtain ⟨x,_,rfl⟩:=List.mem_map.1 hu;exact ⟨_,_,rfl⟩
 have qT:∀ (w:World) (a:Option Addr) (n c n' c':Nat),(binOp .eql 84 (.slice a n c) (.slice none n' c')).run Tryz.prog w=.ok (.bool a.isNone) w:=fun w a n c n' c'=>Lib.run_eql_slice_nil w _ _ a n c n' c' Tryz.underlying84
 generalize hxs:xs.map (Value.int .u8)=news at *
 generalize hnn:xs.length=n at *
 go_enter Tryz.func161,Tryz.ntmps161
 go_wp2_with (at_builtin;refine wpList_append_plain _ rfl _ _ 84 rfl w.heap.size 5 i0 _ 1 1 Tryz.underlying84 hi hz0 hz1 hz2 rfl (by decide) _ 0 [] rfl hown ⟨b,0,none⟩ n c news rfl hlen hkw hone (by omega) (by omega) (by simp) hpl hint (Plain.ai (k:=.u8) (xs:=[0])) ?_;intro v' w1 hown' hgrow hnil hpl')
 go_ret
 rw [Nat.zero_add,List.nil_append,← hxs,← hnn] at hown'
 have hv:v'≠.slice none 0 0:=fun e=>by have:=(hnil.1 e).1;cases this
 obtain ⟨g,c',rfl,h1,h2,h3⟩:=Row.of_owns hown' hv hpl'
 refine ⟨g,c',by first|rfl|(rw [hnn];rfl),h1,h2,⟨?_,fun x hx _=>?_,?_,?_,?_⟩,h3⟩
 ·have:=hgrow.size;rw [size_alloc] at this;omega
 ·exact (hgrow.block x (by rw [size_alloc];omega) fun e=>by have:=Option.some.inj e;simp at this;omega).trans (heap_old _ hx)
 ·exact hgrow.tape
 ·exact hgrow.os
 ·exact hgrow.output
set_option maxHeartbeats 1000000 in
theorem clone3 (h:Row fr w b 3 .i64 xs cap) (hn:xs.length≤100000) (c:Nat):Calls Tryz.prog 47 #[.slice (some ⟨b,0,none⟩) xs.length c] w fun e w'=>∃ g c',e=.returned (.slice (some ⟨g,0,none⟩) xs.length c')∧w.heap.size≤g∧Row false w' g 3 .i64 xs c'∧Tch w.heap.size M0 w w'∧c'≤maxLen:=by
 obtain ⟨i0,hi,hz0,hz1,hz2⟩:=info_parts info3
 have hm:maxLen=9223372036854775807:=by decide
 have hkc:=h.kcells
 have hown:(w.alloc (.cells #[] 3)).ownsRow w.heap.size 3 1 (.slice (some ⟨w.heap.size,0,none⟩) 0 0) 0 []:=⟨rfl,.inr ⟨w.heap.size,0,#[],rfl,Nat.le_refl _,heap_new _,Nat.le_refl _,by omega,rfl,rfl⟩⟩
 have hpl:PlainV (w.alloc (.cells #[] 3)) (.slice (some ⟨w.heap.size,0,none⟩) 0 0):=fun g n cap e arr t z ha=>by
  cases e
  have hq:=ha.symm.trans (heap_new (w:=w) _)
  cases hq
  exact fun v hv=>by simp at hv
 have hkw:∀ j u,(xs.map (Value.int .i64))[j]?=some u→(w.alloc (.cells #[] 3)).cell? ((⟨b,0,none⟩:Addr).add j)=some u:=fun j u hj=>by
  refine (World.cell?_of_block (heap_old _ ?_)).trans (hkc j u hj)
  cases j with
  | zero=>exact h.lt
  | succ j=>simpa [Addr.add] using h.lt
 have hlen:(xs.map (Value.int .i64)).length=xs.length*1:=by simp
 have hone:∀ u∈xs.map (Value.int .i64),u.oneCell'=true:=fun u hu=>by obtain ⟨x,_,rfl⟩:=List.mem_map.1 hu;rfl
 have hint:∀ u∈xs.map (Value.int .i64),IsInt u:=fun u hu=>by obtain ⟨x,_,rfl⟩:=List.mem_map.1 hu;exact ⟨_,_,rfl⟩
 have qT:∀ (w:World) (a:Option Addr) (n c n' c':Nat),(binOp .eql 33 (.slice a n c) (.slice none n' c')).run Tryz.prog w=.ok (.bool a.isNone) w:=fun w a n c n' c'=>Lib.run_eql_slice_nil w _ _ a n c n' c' Tryz.underlying33
 generalize hxs:xs.map (Value.int .i64)=news at *
 generalize hnn:xs.length=n at *
 go_enter Tryz.func47,Tryz.ntmps47
 go_wp2_with (at_builtin;refine wpList_append_plain _ rfl _ _ 33 rfl w.heap.size 3 i0 _ 1 8 Tryz.underlying33 hi hz0 hz1 hz2 rfl (by decide) _ 0 [] rfl hown ⟨b,0,none⟩ n c news rfl hlen hkw hone (by omega) (by omega) (by simp) hpl hint (Plain.ai (k:=.i64) (xs:=[0])) ?_;intro v' w1 hown' hgrow hnil hpl')
 go_ret
 rw [Nat.zero_add,List.nil_append,← hxs,← hnn] at hown'
 have hv:v'≠.slice none 0 0:=fun e=>by have:=(hnil.1 e).1;cases this
 obtain ⟨g,c',rfl,h1,h2,h3⟩:=Row.of_owns hown' hv hpl'
 refine ⟨g,c',by first|rfl|(rw [hnn];rfl),h1,h2,⟨?_,fun x hx _=>?_,?_,?_,?_⟩,h3⟩
 ·have:=hgrow.size;rw [size_alloc] at this;omega
 ·exact (hgrow.block x (by rw [size_alloc];omega) fun e=>by have:=Option.some.inj e;simp at this;omega).trans (heap_old _ hx)
 ·exact hgrow.tape
 ·exact hgrow.os
 ·exact hgrow.output
set_option maxHeartbeats 1000000 in
theorem clone45 (h:Row fr w b 45 .u64 xs cap) (hn:xs.length≤100000) (c:Nat):Calls Tryz.prog 176 #[.slice (some ⟨b,0,none⟩) xs.length c] w fun e w'=>∃ g c',e=.returned (.slice (some ⟨g,0,none⟩) xs.length c')∧w.heap.size≤g∧Row false w' g 45 .u64 xs c'∧Tch w.heap.size M0 w w'∧c'≤maxLen:=by
 obtain ⟨i0,hi,hz0,hz1,hz2⟩:=info_parts info45
 have hm:maxLen=9223372036854775807:=by decide
 have hkc:=h.kcells
 have hown:(w.alloc (.cells #[] 45)).ownsRow w.heap.size 45 1 (.slice (some ⟨w.heap.size,0,none⟩) 0 0) 0 []:=⟨rfl,.inr ⟨w.heap.size,0,#[],rfl,Nat.le_refl _,heap_new _,Nat.le_refl _,by omega,rfl,rfl⟩⟩
 have hpl:PlainV (w.alloc (.cells #[] 45)) (.slice (some ⟨w.heap.size,0,none⟩) 0 0):=fun g n cap e arr t z ha=>by
  cases e
  have hq:=ha.symm.trans (heap_new (w:=w) _)
  cases hq
  exact fun v hv=>by simp at hv
 have hkw:∀ j u,(xs.map (Value.int .u64))[j]?=some u→(w.alloc (.cells #[] 45)).cell? ((⟨b,0,none⟩:Addr).add j)=some u:=fun j u hj=>by
  refine (World.cell?_of_block (heap_old _ ?_)).trans (hkc j u hj)
  cases j with
  | zero=>exact h.lt
  | succ j=>simpa [Addr.add] using h.lt
 have hlen:(xs.map (Value.int .u64)).length=xs.length*1:=by simp
 have hone:∀ u∈xs.map (Value.int .u64),u.oneCell'=true:=fun u hu=>by obtain ⟨x,_,rfl⟩:=List.mem_map.1 hu;rfl
 have hint:∀ u∈xs.map (Value.int .u64),IsInt u:=fun u hu=>by obtain ⟨x,_,rfl⟩:=List.mem_map.1 hu;exact ⟨_,_,rfl⟩
 have qT:∀ (w:World) (a:Option Addr) (n c n' c':Nat),(binOp .eql 37 (.slice a n c) (.slice none n' c')).run Tryz.prog w=.ok (.bool a.isNone) w:=fun w a n c n' c'=>Lib.run_eql_slice_nil w _ _ a n c n' c' Tryz.underlying37
 generalize hxs:xs.map (Value.int .u64)=news at *
 generalize hnn:xs.length=n at *
 go_enter Tryz.func176,Tryz.ntmps176
 go_wp2_with (at_builtin;refine wpList_append_plain _ rfl _ _ 37 rfl w.heap.size 45 i0 _ 1 8 Tryz.underlying37 hi hz0 hz1 hz2 rfl (by decide) _ 0 [] rfl hown ⟨b,0,none⟩ n c news rfl hlen hkw hone (by omega) (by omega) (by simp) hpl hint (Plain.ai (k:=.u64) (xs:=[0])) ?_;intro v' w1 hown' hgrow hnil hpl')
 go_ret
 rw [Nat.zero_add,List.nil_append,← hxs,← hnn] at hown'
 have hv:v'≠.slice none 0 0:=fun e=>by have:=(hnil.1 e).1;cases this
 obtain ⟨g,c',rfl,h1,h2,h3⟩:=Row.of_owns hown' hv hpl'
 refine ⟨g,c',by first|rfl|(rw [hnn];rfl),h1,h2,⟨?_,fun x hx _=>?_,?_,?_,?_⟩,h3⟩
 ·have:=hgrow.size;rw [size_alloc] at this;omega
 ·exact (hgrow.block x (by rw [size_alloc];omega) fun e=>by have:=Option.some.inj e;simp at this;omega).trans (heap_old _ hx)
 ·exact hgrow.tape
 ·exact hgrow.os
 ·exact hgrow.output
end
theorem ta120 (v:Value) (w:World):(Instr.typeAssert (.iface 120 v) 92 120 false).run Tryz.prog w=.ok v w:=by
 unfold Instr.typeAssert
 simp [go_sem]
theorem ta123 (v:Value) (w:World):(Instr.typeAssert (.iface 123 v) 92 123 false).run Tryz.prog w=.ok v w:=by
 unfold Instr.typeAssert
 simp [go_sem]
theorem ta126 (v:Value) (w:World):(Instr.typeAssert (.iface 126 v) 92 126 false).run Tryz.prog w=.ok v w:=by
 unfold Instr.typeAssert
 simp [go_sem]
structure RegAt (fr:Bool) (w:World) (b r cap:Nat) (bits:Int) (rs:List Int):Prop where
 hd:Blk fr w b #[.int .i64 bits,.slice (some ⟨r,0,none⟩) rs.length cap] 122
 row:Row fr w r 5 .u8 rs cap
theorem Tch.ofDrew {N:Nat} {M:Nat→Prop} {w w':World} (h:Tch N M w.drew w'):Tch N M w w':=⟨h.size,h.heap,h.tape,h.os,h.output⟩
theorem reg_made {w w':World} {g c':Nat} {bits:Int} {rs:List Int} (hg:w.heap.size≤g) (hrow:Row false w' g 5 .u8 rs c') (ht:Tch w.heap.size M0 w w') :
  ∃ b' r' c2,Ending.returned (Value.iface 120 (.pointer (some ⟨w'.heap.size,0,none⟩)))=.returned (.iface 120 (.pointer (some ⟨b',0,none⟩)))∧w.heap.size≤b'∧w.heap.size≤r'∧b'≠r'∧RegAt false (w'.alloc (.cells #[.int .i64 bits,.slice (some ⟨g,0,none⟩) rs.length c'] 122)) b' r' c2 bits rs∧Tch w.heap.size M0 w (w'.alloc (.cells #[.int .i64 bits,.slice (some ⟨g,0,none⟩) rs.length c'] 122)):=
 ⟨_,g,c',rfl,ht.size,hg,by have:=hrow.lt;omega,⟨⟨(0,0),heap_new _,fun _=>rfl⟩,hrow.kept (heap_old _ hrow.lt)⟩,ht.alloc ht.size _⟩
section
variable {fr:Bool} {w w':World} {b r cap:Nat} {bits:Int} {rs:List Int}
theorem RegAt.kept (h:RegAt fr w b r cap bits rs) (h1:w'.heap[b]?=w.heap[b]?) (h2:w'.heap[r]?=w.heap[r]?):RegAt fr w' b r cap bits rs:=⟨h.hd.kept h1,h.row.kept h2⟩
theorem RegAt.c0 (h:RegAt fr w b r cap bits rs):w.cell? ⟨b,0,none⟩=some (.int .i64 bits):=(h.hd.cell 0).trans rfl
theorem RegAt.c1 (h:RegAt fr w b r cap bits rs):w.cell? ⟨b,1,none⟩=some (.slice (some ⟨r,0,none⟩) rs.length cap):=(h.hd.cell 1).trans rfl
set_option maxHeartbeats 1000000 in
theorem regCopy (h:RegAt fr w b r cap bits rs) (hn:rs.length≤1000) :
  Calls Tryz.prog 157 #[.pointer (some ⟨b,0,none⟩)] w fun e w'=>∃ b' r' c',e=.returned (.iface 120 (.pointer (some ⟨b',0,none⟩)))∧w.heap.size≤b'∧w.heap.size≤r'∧b'≠r'∧RegAt false w' b' r' c' bits rs∧Tch w.heap.size M0 w w':=by
 have c0:=h.c0
 have c1:=h.c1
 have hcl:=clone8 (w:=w.drew) (h.row.kept rfl) (by omega) cap
 have hb:=h.hd.lt
 have hr:=h.row.lt
 go_enter Tryz.func157,Tryz.ntmps157
 go_wp2
 go_region_with (go_at_call 161;refine hcl.mono ?_;rintro e w' ⟨g,c',rfl,hg,hrow,ht,_⟩;have d0:=(ht.cell (a:=⟨b,0,none⟩) hb (fun x=>x)).trans c0;have d1:=(ht.cell (a:=⟨b,1,none⟩) hb (fun x=>x)).trans c1)
 all_goals go_wp2
 all_goals go_ret
 all_goals exact reg_made hg hrow ht.ofDrew
end
section
variable {fr:Bool} {w w':World} {b r cap:Nat} {bits:Int} {rs:List Int}
set_option maxRecDepth 100000 in
set_option maxHeartbeats 1000000 in
theorem numbers8 (h:Row fr w r 5 .u8 rs cap) (hn:rs.length≤1000) (h0:0<rs.length) (hr:∀ x∈rs,0≤x∧x≤255) :
  Calls Tryz.prog 162 #[.slice (some ⟨r,0,none⟩) rs.length cap] w fun e w'=>∃ g c',e=.returned (.slice (some ⟨g,0,none⟩) rs.length c')∧w.heap.size≤g∧Row false w' g 45 .u64 rs c'∧Tch w.heap.size M0 w w':=by
 have hmk:=mkRow 37 45 .u64 8 Tryz.underlying37 info45 (by omega) rs.length (by omega) w
 have hrow0:=rowMade w 45 .u64 rs.length
 have hr0:=h.kept (w':=w.alloc (.cells (Array.replicate rs.length (.int .u64 0)) 45)) (heap_old _ h.lt)
 have ht0:Tch w.heap.size M0 w (w.alloc (.cells (Array.replicate rs.length (.int .u64 0)) 45)):=Tch.refl.alloc (Nat.le_refl _) _
 have hrl:=h.lt
 generalize hn':rs.length=n at *
 generalize w.alloc (.cells (Array.replicate n (.int .u64 0)) 45)=w0 at *
 clear h
 go_enter Tryz.func162,Tryz.ntmps162
 go_wp2
 go_loopw [11] (fun i wr=>∃ k:Nat,k≤n∧i=.int .i64 k∧Row false wr w.heap.size 45 .u64 (partL rs (List.replicate n 0) k) n∧Row fr wr r 5 .u8 rs cap∧Tch w.heap.size M0 w wr) (fun i _=>n-(RowKit.intOf i).toNat)
 case atStart=>exact ⟨0,by omega,rfl,by rw [partL_zero];exact hrow0,hr0,ht0⟩
 case round=>
  obtain ⟨k,hk,rfl,hd,hs,ht⟩:=hrel
  clear hrow0 hr0 ht0 hmk
  have hl2:rs.length=(List.replicate n (0:Int)).length:=by simpa using hn'
  rcases Nat.lt_or_ge k n with hlt|hge
  ·have g1:=hs.cell (i:=k) (hn'.symm▸hlt)
   have g2:=hd.cell (i:=k) (by rw [partL_length hl2,List.length_replicate];exact hlt)
   have g3:=hd.frozen k
   have hlt':(k:Int)<n:=by omega
   have hx:=hr (rs.getD k 0) (by rw [List.getD_eq_getElem?_getD,List.getElem?_eq_getElem (by omega)];exact List.getElem_mem _)
   generalize hx0:rs.getD k 0=x at *
   have hwrap:IntKind.u64.wrap x=x:=by rw [IntKind.wrap_u64];omega
   have hrw:r≠w.heap.size:=by omega
   have hp:(partL rs (List.replicate n 0) k).set k x=partL rs (List.replicate n 0) (k+1):=partL_set hl2 (by simpa using hlt) hx0.symm
   go_wp2
   refine ⟨⟨k+1,by omega,by go_num,?_,hs.kept (heap_ne _ _ hrw),ht.set (.inl (Nat.le_refl _)) _⟩,by simp [RowKit.intOf];omega⟩
   have:=hd.set k x
   rwa [hp] at this
  ·have hge':¬ ((k:Int)<n):=by omega
   obtain rfl:k=n:=by omega
   have hnn:¬ ((k:Int)<k):=by omega
   go_wp2
   go_ret
   rw [partL_all hn' (by simp)] at hd
   exact ⟨_,_,rfl,Nat.le_refl _,hd,ht⟩
def maxL (xs ys:List Int):List Int:=xs.zipWith max ys
theorem maxL_length {xs ys:List Int} (h:xs.length=ys.length):(maxL xs ys).length=xs.length:=by simp [maxL,h]
theorem maxL_get {xs ys:List Int} (h:xs.length=ys.length) {k:Nat} (hk:k<xs.length):(maxL xs ys).getD k 0=max (xs.getD k 0) (ys.getD k 0):=by
 simp [maxL,List.getD_eq_getElem?_getD,List.getElem?_zipWith,hk,show k<ys.length by omega]
set_option maxRecDepth 100000 in
set_option maxHeartbeats 1000000 in
theorem regMerge {b2 r2 cap2:Nat} {ys:List Int} {bits2:Int} (h:RegAt false w b r cap bits rs) (h2:RegAt fr w b2 r2 cap2 bits2 ys) (hl:rs.length=ys.length) (hn:rs.length≤1000) (hbr:b≠r) (hb2:b2≠r) (hr2:r2≠r) :
  Calls Tryz.prog 158 #[.pointer (some ⟨b,0,none⟩),.iface 120 (.pointer (some ⟨b2,0,none⟩))] w fun e w'=>(∃ v,e=.returned v)∧RegAt false w' b r cap bits (maxL rs ys)∧Tch w.heap.size (fun x=>x=r) w w':=by
 have d0:=h2.c0
 have d1:=h2.c1
 have hta:=ta120 (.pointer (some ⟨b2,0,none⟩)) w
 generalize hn':ys.length=n at *
 go_enter Tryz.func158,Tryz.ntmps158
 go_wp2
 go_loopw [12] (fun i wr=>∃ k:Nat,k≤n∧i=.int .i64 k∧RegAt false wr b r cap bits (partL (maxL rs ys) rs k)∧RegAt fr wr b2 r2 cap2 bits2 ys∧Tch w.heap.size (fun x=>x=r) w wr) (fun i _=>n-(RowKit.intOf i).toNat)
 case atStart=>exact ⟨0,by omega,rfl,by rw [partL_zero];exact h,h2,.refl⟩
 case round=>
  obtain ⟨k,hk,rfl,hd,hs,ht⟩:=hrel
  clear d0 d1
  have hml:(maxL rs ys).length=rs.length:=maxL_length (by omega)
  rcases Nat.lt_or_ge k n with hlt|hge
  ·have e1:=hd.c1
   rw [partL_length hml] at e1
   rw [hl] at e1
   have g1:=hs.row.cell (i:=k) (hn'.symm▸hlt)
   have g2:=hd.row.cell (i:=k) (by rw [partL_length hml,hl];exact hlt)
   rw [partL_get hml (by omega)] at g2
   have g3:=hd.row.frozen k
   have hlt':(k:Int)<n:=by omega
   have hm:=maxL_get (xs:=rs) (ys:=ys) (by omega) (k:=k) (by omega)
   have hp:∀ v,v=(maxL rs ys).getD k 0→(partL (maxL rs ys) rs k).set k v=partL (maxL rs ys) rs (k+1):=fun v hv=>partL_set hml (by omega) hv
   generalize rs.getD k 0=x at *
   generalize ys.getD k 0=y at *
   go_wp2
   go_region
   all_goals go_wp2
   refine ⟨⟨k+1,by omega,by go_num,⟨?_,?_⟩,hs.kept (heap_ne _ _ hb2) (heap_ne _ _ hr2),(ht.set (.inr rfl) _).drew⟩,by simp [RowKit.intOf];omega⟩
   ·have:=hd.hd.kept (w':=(wr.setCell ⟨r,k,none⟩ (.int .u8 (max x y))).drew) (heap_ne _ _ hbr)
    rw [partL_length hml] at this ⊢
    exact this
   ·have:=hd.row.set k (max x y)
    rw [hp _ hm.symm] at this
    exact this.kept rfl
  ·have hge':¬ ((k:Int)<n):=by omega
   obtain rfl:k=n:=by omega
   have hnn:¬ ((k:Int)<k):=by omega
   go_wp2
   go_end0
   rw [partL_all (by omega) hl] at hd
   exact ⟨⟨_,rfl⟩,hd,ht⟩
end
structure HistAt (fr:Bool) (w:World) (b r cap:Nat) (ba:Option Addr) (nb cb:Nat) (rs:List Int):Prop where
 hd:Blk fr w b #[.slice ba nb cb,.slice (some ⟨r,0,none⟩) rs.length cap] 125
 row:Row fr w r 3 .i64 rs cap
theorem hist_made {w w':World} {g c':Nat} {ba:Option Addr} {nb cb:Nat} {rs:List Int} (hg:w.heap.size≤g) (hrow:Row false w' g 3 .i64 rs c') (ht:Tch w.heap.size M0 w w') :
  ∃ b' r' c2,Ending.returned (Value.iface 123 (.pointer (some ⟨w'.heap.size,0,none⟩)))=.returned (.iface 123 (.pointer (some ⟨b',0,none⟩)))∧w.heap.size≤b'∧w.heap.size≤r'∧b'≠r'∧HistAt false (w'.alloc (.cells #[.slice ba nb cb,.slice (some ⟨g,0,none⟩) rs.length c'] 125)) b' r' c2 ba nb cb rs∧Tch w.heap.size M0 w (w'.alloc (.cells #[.slice ba nb cb,.slice (some ⟨g,0,none⟩) rs.length c'] 125)):=
 ⟨_,g,c',rfl,ht.size,hg,by have:=hrow.lt;omega,⟨⟨(0,0),heap_new _,fun _=>rfl⟩,hrow.kept (heap_old _ hrow.lt)⟩,ht.alloc ht.size _⟩
section
variable {fr:Bool} {w w':World} {b r cap:Nat} {ba:Option Addr} {nb cb:Nat} {rs:List Int}
theorem HistAt.kept (h:HistAt fr w b r cap ba nb cb rs) (h1:w'.heap[b]?=w.heap[b]?) (h2:w'.heap[r]?=w.heap[r]?):HistAt fr w' b r cap ba nb cb rs:=⟨h.hd.kept h1,h.row.kept h2⟩
theorem HistAt.c0 (h:HistAt fr w b r cap ba nb cb rs):w.cell? ⟨b,0,none⟩=some (.slice ba nb cb):=(h.hd.cell 0).trans rfl
theorem HistAt.c1 (h:HistAt fr w b r cap ba nb cb rs):w.cell? ⟨b,1,none⟩=some (.slice (some ⟨r,0,none⟩) rs.length cap):=(h.hd.cell 1).trans rfl
set_option maxHeartbeats 1000000 in
theorem histCopy (h:HistAt fr w b r cap ba nb cb rs) (hn:rs.length≤1000) :
  Calls Tryz.prog 164 #[.pointer (some ⟨b,0,none⟩)] w fun e w'=>∃ b' r' c',e=.returned (.iface 123 (.pointer (some ⟨b',0,none⟩)))∧w.heap.size≤b'∧w.heap.size≤r'∧b'≠r'∧HistAt false w' b' r' c' ba nb cb rs∧Tch w.heap.size M0 w w':=by
 have c0:=h.c0
 have c1:=h.c1
 have hcl:=clone3 (w:=w.drew) (h.row.kept rfl) (by omega) cap
 have hb:=h.hd.lt
 have hr:=h.row.lt
 go_enter Tryz.func164,Tryz.ntmps164
 go_wp2
 go_region_with (go_at_call 47;refine hcl.mono ?_;rintro e w' ⟨g,c',rfl,hg,hrow,ht,_⟩;have d0:=(ht.cell (a:=⟨b,0,none⟩) hb (fun x=>x)).trans c0;have d1:=(ht.cell (a:=⟨b,1,none⟩) hb (fun x=>x)).trans c1)
 all_goals go_wp2
 all_goals go_ret
 all_goals exact hist_made hg hrow ht.ofDrew
end
section
variable {fr:Bool} {w w':World} {b r cap:Nat} {ba:Option Addr} {nb cb:Nat} {rs:List Int}
set_option maxRecDepth 100000 in
set_option maxHeartbeats 1000000 in
theorem numbers3 (h:Row fr w r 3 .i64 rs cap) (hn:rs.length≤1000) (h0:0<rs.length) (hr:∀ x∈rs,0≤x∧x≤9223372036854775807) :
  Calls Tryz.prog 168 #[.slice (some ⟨r,0,none⟩) rs.length cap] w fun e w'=>∃ g c',e=.returned (.slice (some ⟨g,0,none⟩) rs.length c')∧w.heap.size≤g∧Row false w' g 45 .u64 rs c'∧Tch w.heap.size M0 w w':=by
 have hmk:=mkRow 37 45 .u64 8 Tryz.underlying37 info45 (by omega) rs.length (by omega) w
 have hrow0:=rowMade w 45 .u64 rs.length
 have hr0:=h.kept (w':=w.alloc (.cells (Array.replicate rs.length (.int .u64 0)) 45)) (heap_old _ h.lt)
 have ht0:Tch w.heap.size M0 w (w.alloc (.cells (Array.replicate rs.length (.int .u64 0)) 45)):=Tch.refl.alloc (Nat.le_refl _) _
 have hrl:=h.lt
 generalize hn':rs.length=n at *
 generalize w.alloc (.cells (Array.replicate n (.int .u64 0)) 45)=w0 at *
 clear h
 go_enter Tryz.func168,Tryz.ntmps168
 go_wp2
 go_loopw [11] (fun i wr=>∃ k:Nat,k≤n∧i=.int .i64 k∧Row false wr w.heap.size 45 .u64 (partL rs (List.replicate n 0) k) n∧Row fr wr r 3 .i64 rs cap∧Tch w.heap.size M0 w wr) (fun i _=>n-(RowKit.intOf i).toNat)
 case atStart=>exact ⟨0,by omega,rfl,by rw [partL_zero];exact hrow0,hr0,ht0⟩
 case round=>
  obtain ⟨k,hk,rfl,hd,hs,ht⟩:=hrel
  clear hrow0 hr0 ht0 hmk
  have hl2:rs.length=(List.replicate n (0:Int)).length:=by simpa using hn'
  rcases Nat.lt_or_ge k n with hlt|hge
  ·have g1:=hs.cell (i:=k) (hn'.symm▸hlt)
   have g2:=hd.cell (i:=k) (by rw [partL_length hl2,List.length_replicate];exact hlt)
   have g3:=hd.frozen k
   have hlt':(k:Int)<n:=by omega
   have hx:=hr (rs.getD k 0) (by rw [List.getD_eq_getElem?_getD,List.getElem?_eq_getElem (by omega)];exact List.getElem_mem _)
   generalize hx0:rs.getD k 0=x at *
   have hwrap:IntKind.u64.wrap x=x:=by rw [IntKind.wrap_u64];omega
   have hrw:r≠w.heap.size:=by omega
   have hp:(partL rs (List.replicate n 0) k).set k x=partL rs (List.replicate n 0) (k+1):=partL_set hl2 (by simpa using hlt) hx0.symm
   go_wp2
   refine ⟨⟨k+1,by omega,by go_num,?_,hs.kept (heap_ne _ _ hrw),ht.set (.inl (Nat.le_refl _)) _⟩,by simp [RowKit.intOf];omega⟩
   have:=hd.set k x
   rwa [hp] at this
  ·have hge':¬ ((k:Int)<n):=by omega
   obtain rfl:k=n:=by omega
   have hnn:¬ ((k:Int)<k):=by omega
   go_wp2
   go_ret
   rw [partL_all hn' (by simp)] at hd
   exact ⟨_,_,rfl,Nat.le_refl _,hd,ht⟩
def addL (xs ys:List Int):List Int:=xs.zipWith (fun x y=>wrap64 (x+y)) ys
theorem addL_length {xs ys:List Int} (h:xs.length=ys.length):(addL xs ys).length=xs.length:=by simp [addL,h]
theorem addL_get {xs ys:List Int} (h:xs.length=ys.length) {k:Nat} (hk:k<xs.length):(addL xs ys).getD k 0=wrap64 (xs.getD k 0+ys.getD k 0):=by
 simp [addL,List.getD_eq_getElem?_getD,List.getElem?_zipWith,hk,show k<ys.length by omega]
set_option maxRecDepth 100000 in
set_option maxHeartbeats 1000000 in
theorem histMerge {b2 r2 cap2:Nat} {ys:List Int} {ba2:Option Addr} {nb2 cb2:Nat} (h:HistAt false w b r cap ba nb cb rs) (h2:HistAt fr w b2 r2 cap2 ba2 nb2 cb2 ys) (hl:rs.length=ys.length) (hn:rs.length≤1000) (hbr:b≠r) (hb2:b2≠r) (hr2:r2≠r) :
  Calls Tryz.prog 165 #[.pointer (some ⟨b,0,none⟩),.iface 123 (.pointer (some ⟨b2,0,none⟩))] w fun e w'=>(∃ v,e=.returned v)∧HistAt false w' b r cap ba nb cb (addL rs ys)∧Tch w.heap.size (fun x=>x=r) w w':=by
 have d0:=h2.c0
 have d1:=h2.c1
 have hta:=ta123 (.pointer (some ⟨b2,0,none⟩)) w
 generalize hn':ys.length=n at *
 go_enter Tryz.func165,Tryz.ntmps165
 go_wp2
 go_loopw [12] (fun i wr=>∃ k:Nat,k≤n∧i=.int .i64 k∧HistAt false wr b r cap ba nb cb (partL (addL rs ys) rs k)∧HistAt fr wr b2 r2 cap2 ba2 nb2 cb2 ys∧Tch w.heap.size (fun x=>x=r) w wr) (fun i _=>n-(RowKit.intOf i).toNat)
 case atStart=>exact ⟨0,by omega,rfl,by rw [partL_zero];exact h,h2,.refl⟩
 case round=>
  obtain ⟨k,hk,rfl,hd,hs,ht⟩:=hrel
  clear d0 d1
  have hml:(addL rs ys).length=rs.length:=addL_length (by omega)
  rcases Nat.lt_or_ge k n with hlt|hge
  ·have e1:=hd.c1
   rw [partL_length hml] at e1
   rw [hl] at e1
   have g1:=hs.row.cell (i:=k) (hn'.symm▸hlt)
   have g2:=hd.row.cell (i:=k) (by rw [partL_length hml,hl];exact hlt)
   rw [partL_get hml (by omega)] at g2
   have g3:=hd.row.frozen k
   have hlt':(k:Int)<n:=by omega
   have hm:=addL_get (xs:=rs) (ys:=ys) (by omega) (k:=k) (by omega)
   have hp:∀ v,v=(addL rs ys).getD k 0→(partL (addL rs ys) rs k).set k v=partL (addL rs ys) rs (k+1):=fun v hv=>partL_set hml (by omega) hv
   generalize rs.getD k 0=x at *
   generalize ys.getD k 0=y at *
   go_wp2
   refine ⟨⟨k+1,by omega,by go_num,⟨?_,?_⟩,hs.kept (heap_ne _ _ hb2) (heap_ne _ _ hr2),ht.set (.inr rfl) _⟩,by simp [RowKit.intOf];omega⟩
   ·have:=hd.hd.kept (w':=wr.setCell ⟨r,k,none⟩ (.int .i64 (wrap64 (x+y)))) (heap_ne _ _ hbr)
    rw [partL_length hml] at this ⊢
    exact this
   ·have:=hd.row.set k (wrap64 (x+y))
    rw [hp _ hm.symm] at this
    exact this
  ·have hge':¬ ((k:Int)<n):=by omega
   obtain rfl:k=n:=by omega
   have hnn:¬ ((k:Int)<k):=by omega
   go_wp2
   go_end0
   rw [partL_all (by omega) hl] at hd
   exact ⟨⟨_,rfl⟩,hd,ht⟩
end
section
variable {fr:Bool} {w w':World} {b r cap:Nat} {rs:List Int}
set_option maxRecDepth 100000 in
set_option maxHeartbeats 1000000 in
theorem ints45 (h:Row fr w r 45 .u64 rs cap) (hn:rs.length≤1000) (h0:0<rs.length) (hr:∀ x∈rs,0≤x∧x≤9223372036854775807) :
  Calls Tryz.prog 45 #[.slice (some ⟨r,0,none⟩) rs.length cap] w fun e w'=>∃ g c',e=.returned (.slice (some ⟨g,0,none⟩) rs.length c')∧w.heap.size≤g∧Row false w' g 3 .i64 rs c'∧Tch w.heap.size M0 w w':=by
 have hmk:=mkRow 33 3 .i64 8 Tryz.underlying33 info3 (by omega) rs.length (by omega) w
 have hrow0:=rowMade w 3 .i64 rs.length
 have hr0:=h.kept (w':=w.alloc (.cells (Array.replicate rs.length (.int .i64 0)) 3)) (heap_old _ h.lt)
 have ht0:Tch w.heap.size M0 w (w.alloc (.cells (Array.replicate rs.length (.int .i64 0)) 3)):=Tch.refl.alloc (Nat.le_refl _) _
 have hrl:=h.lt
 generalize hn':rs.length=n at *
 generalize w.alloc (.cells (Array.replicate n (.int .i64 0)) 3)=w0 at *
 clear h
 go_enter Tryz.func45,Tryz.ntmps45
 go_wp2
 go_loopw [11] (fun i wr=>∃ k:Nat,k≤n∧i=.int .i64 k∧Row false wr w.heap.size 3 .i64 (partL rs (List.replicate n 0) k) n∧Row fr wr r 45 .u64 rs cap∧Tch w.heap.size M0 w wr) (fun i _=>n-(RowKit.intOf i).toNat)
 case atStart=>exact ⟨0,by omega,rfl,by rw [partL_zero];exact hrow0,hr0,ht0⟩
 case round=>
  obtain ⟨k,hk,rfl,hd,hs,ht⟩:=hrel
  clear hrow0 hr0 ht0 hmk
  have hl2:rs.length=(List.replicate n (0:Int)).length:=by simpa using hn'
  rcases Nat.lt_or_ge k n with hlt|hge
  ·have g1:=hs.cell (i:=k) (hn'.symm▸hlt)
   have g2:=hd.cell (i:=k) (by rw [partL_length hl2,List.length_replicate];exact hlt)
   have g3:=hd.frozen k
   have hlt':(k:Int)<n:=by omega
   have hx:=hr (rs.getD k 0) (by rw [List.getD_eq_getElem?_getD,List.getElem?_eq_getElem (by omega)];exact List.getElem_mem _)
   generalize hx0:rs.getD k 0=x at *
   have hwrap:IntKind.i64.wrap x=x:=by rw [IntKind.wrap_i64];omega
   have hwrap':wrap64 x=x:=by unfold wrap64;omega
   have hrw:r≠w.heap.size:=by omega
   have hp:(partL rs (List.replicate n 0) k).set k x=partL rs (List.replicate n 0) (k+1):=partL_set hl2 (by simpa using hlt) hx0.symm
   go_wp2
   refine ⟨⟨k+1,by omega,by go_num,?_,hs.kept (heap_ne _ _ hrw),ht.set (.inl (Nat.le_refl _)) _⟩,by simp [RowKit.intOf];omega⟩
   have:=hd.set k x
   rwa [hp] at this
  ·have hge':¬ ((k:Int)<n):=by omega
   obtain rfl:k=n:=by omega
   have hnn:¬ ((k:Int)<k):=by omega
   go_wp2
   go_ret
   rw [partL_all hn' (by simp)] at hd
   exact ⟨_,_,rfl,Nat.le_refl _,hd,ht⟩
end
end Go.Sim.Z
