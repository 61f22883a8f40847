/- PROVED HERE: laws that the statement rests on (parts Wo, Wp, Pa). Conditions: none. -/
import Derived.Test.YtlcbehhbfglgaaaGreatE03
set_option linter.all false
namespace Go.Sim.Z
open Go Go.Proofs Go.RowKit Go.Shelf
theorem setCells_same (b:Nat):∀ (vs:List Value) (o:Nat) (w:World),(w.setCells b o vs).tape=w.tape∧(w.setCells b o vs).os=w.os∧(w.setCells b o vs).output=w.output
 | [],_,_=>⟨rfl,rfl,rfl⟩
 | v::r,o,w=>setCells_same b r (o+1) (w.setCell ⟨b,o,none⟩ v)
theorem setCells_heap (b:Nat):∀ (vs:List Value) (o:Nat) (w w1:World),w.heap=w1.heap→(w.setCells b o vs).heap=(w1.setCells b o vs).heap
 | [],_,_,_,h=>h
 | v::r,o,w,w1,h=>setCells_heap b r (o+1) _ _ (by simp only [World.setCell,h])
theorem Blk.setRow {w:World} {b:Nat} {arr:Array Value} {t:TypeId} (h:Blk false w b arr t) (arr':Array Value):Blk false (w.setRow b arr') b arr' t:=by
 obtain ⟨z,h,hz⟩:=h
 cases hz rfl
 refine ⟨(0,0),?_,fun _=>rfl⟩
 simp only [World.setRow,Array.getElem?_modify,if_true,h,Option.map_some]
theorem Tch.setRow {N:Nat} {M:Nat→Prop} {w w1:World} {b:Nat} (h:Tch N M w w1) (hb:N≤b∨M b) (arr':Array Value):Tch N M w (w1.setRow b arr'):=
 ⟨Nat.le_trans h.size (by simp [World.setRow]),fun k hk hm=>by
  have:k≠b:=by rintro rfl;rcases hb with hb|hb;omega;exact hm hb
  simp only [World.setRow,Array.getElem?_modify,if_neg (Ne.symm this)]
  exact h.heap k hk hm,h.tape,h.os,h.output⟩
section
variable {w:World} {r cap vb i:Nat} {ls:List Int} {x:Int}
set_option maxHeartbeats 4000000 in
set_option maxRecDepth 100000 in
theorem insert_end (h:Row false w r 45 .u64 ls cap) (hc:cap≤maxLen) (hv:w.heap[vb]?=some (.cells #[.int .u64 x] 45)) (hn:ls.length≤1000) :
  Calls Tryz.prog 175 #[.slice (some ⟨r,0,none⟩) ls.length cap,.int .i64 ls.length,.slice (some ⟨vb,0,none⟩) 1 1] w (InsPost w r (insL ls.length x ls)):=by
 obtain ⟨cur,hb,hcs,hlc,hcur,hpc⟩:=h
 obtain ⟨i0,hi,hz0,hz1,hz2⟩:=info_parts info45
 have hc63:cap≤9223372036854775807:=by unfold maxLen at hc;omega
 have hins:insL ls.length x ls=ls++[x]:=insL_end x ls
 have hil:(ls++[x]).length=ls.length+1:=by simp
 rw [hins]
 have fin:∃ v' w',(Builtin.append_ #[37,37] 37 #[.slice (some ⟨r,0,none⟩) ls.length cap,.slice (some ⟨vb,0,none⟩) 1 1]).run Tryz.prog w=.ok v' w'∧InsPost w r (ls++[x]) (.returned v') w':=by
  rcases Nat.lt_or_ge cap (ls.length+1) with hgr|hroom
  ·have hap:=run_append_grow (P:=Tryz.prog) (w:=w) 37 37 45 i0 _ Tryz.underlying37 hi hz0 ⟨r,0,none⟩ ls.length cap (ls.map (Value.int .u64)) (by rw [hz1];simp) (fun j v hj=>by
     rw [List.getElem?_map,Option.map_eq_some_iff] at hj
     obtain ⟨y,hy,rfl⟩:=hj
     have hlt:=(List.getElem?_eq_some_iff.1 hy).1
     rw [Addr.add_lit,Nat.zero_add,hb.cell,hcur j hlt,List.getD_eq_getElem?_getD,hy];rfl)
    ⟨vb,0,none⟩ 1 1 [.int .u64 x] (by rw [hz1];rfl) (cells1 hv) (by omega) (by omega) (growslice_fits hgr (by rw [hz2];omega))
   have hge:=grownCap_ge w (ls.length+1) cap 45
   have hle:=grownCap_le_maxLen w (ls.length+1) cap 45 (by unfold maxLen;omega)
   generalize grownCap w (ls.length+1) cap 45=G at *
   refine ⟨_,_,hap,w.heap.size,G,by rw [hil],Row.of_get ⟨(0,0),heap_new _,fun _=>rfl⟩ (by simp [Builtin.zeroCells,Value.cells];omega) (by omega) (fun j hj=>?_) (((Plain.list ints_int).append (Plain.list int_int)).append (Plain.madeCells (Plain.ai (k:=.u64) (xs:=[0])) _)),hle,.inr (Nat.le_refl _),Tch.refl.drew.alloc (Nat.le_refl _) _⟩
   rw [Array.getElem?_append_left (by simp;omega)]
   simp [List.getElem?_append]
   split
   ·simp_all
   ·generalize j-ls.length=q
    cases q<;>rfl
  ·have hg:w.heap[r]?=some (.cells cur 45 (0,0)):=by
    obtain ⟨z,hz,hzz⟩:=hb
    cases hzz rfl
    exact hz
   have hap:=run_append_room (P:=Tryz.prog) (w:=w) 37 37 45 i0 Tryz.underlying37 hi r ls.length cap cur hg ⟨vb,0,none⟩ 1 1 [.int .u64 x] (by rw [hz1];rfl) (cells1 hv) (by simp [Value.oneCell']) hroom (by rw [hz1];simp;omega)
   rw [hz1] at hap
   refine ⟨_,_,hap,r,cap,by rw [hil],Row.of_get (hb.setRow _) (by simp;omega) (by omega) (fun j hj=>?_) (Plain.list fun v hv=>(List.mem_append.1 hv).elim (fun hv=>(List.mem_append.1 hv).elim (fun hv=>hpc v (List.mem_of_mem_take hv)) (int_int v)) fun hv=>hpc v (List.mem_of_mem_drop hv)),hc,.inl rfl,Tch.setRow (M:=fun b=>b=r) Tch.refl (.inr rfl) _⟩
   rw [hil] at hj
   simp only [List.getElem?_toArray,Nat.mul_one,List.length_singleton]
   rw [getA,getA]
   by_cases h1:j<ls.length
   ·simp [h1,List.getElem?_take,show j<cur.size by omega,show ls.length≤cur.size by omega]
    have:=hcur j h1
    rw [Array.getElem?_eq_getElem (by omega)] at this
    rw [Option.some.inj this]
    simp [List.getD_eq_getElem?_getD,h1,show j<ls.length+1 by omega,List.getElem?_append_left h1]
   ·have:j=ls.length:=by omega
    subst this
    simp [show ls.length<cur.size by omega,show min ls.length cur.size=ls.length by omega]
 obtain ⟨v',w',hap,hfin⟩:=fin
 clear hcur hb hv hins hil
 generalize ls.length=n at *
 go_enter Tryz.func175,Tryz.ntmps175
 go_wp2_with (at_builtin;refine Lib.wpList_append_run _ rfl _ _ _ _ rfl _ _ rfl rfl _ _ hap ?_)
 all_goals go_ret
 all_goals exact hfin
set_option maxHeartbeats 4000000 in
set_option maxRecDepth 100000 in
theorem insert_grow (h:Row false w r 45 .u64 ls cap) (hc:cap≤maxLen) (hv:w.heap[vb]?=some (.cells #[.int .u64 x] 45)) (hi:i<ls.length) (hroom:cap<ls.length+1) (hn:ls.length≤1000) :
  Calls Tryz.prog 175 #[.slice (some ⟨r,0,none⟩) ls.length cap,.int .i64 i,.slice (some ⟨vb,0,none⟩) 1 1] w (InsPost w r (insL i x ls)):=by
 obtain ⟨cur,hb,hcs,hlc,hcur,hpc⟩:=h
 obtain ⟨i0,hi0,hz0,hzs,hzb⟩:=info_parts info45
 have mixed:Tryz.prog.follows .mixedOrders=true:=by kernel_rfl
 have hcap:cap=ls.length:=by omega
 have hil:(insL i x ls).length=ls.length+1:=insL_length (by omega)
 have hig:=insL_get (i:=i) (x:=x) (ls:=ls) (by omega)
 generalize hnl:ls.length=n at *
 have hcell:∀ j,j<n→w.cell? ⟨r,j,none⟩=some (.int .u64 (ls.getD j 0)):=fun j hj=>(hb.cell j).trans (hcur j hj)
 have hvc:w.cell? ⟨vb,0,none⟩=some (.int .u64 x):=(cell_of hv 0).trans rfl
 have hz2:¬ ((i:Int)=(n:Int)):=by omega
 have hz3:(cap:Int)<(n:Int)+1:=by omega
 have hsz:(Tryz.prog.info? 45).map (·.size)=some 1:=by kernel_rfl
 have hbw:r<w.heap.size:=hb.lt
 have hvw:vb<w.heap.size:=lt_of hv
 have hkk:(n:Int)+1-(i:Int)=((n+1-i:Nat):Int):=by omega
 have hik:i+(n+1-i)=n+1:=by omega
 have hold:(Builtin.firstCells i0.size i (.slice (some ⟨r,0,none⟩) i cap)).run Tryz.prog w.drew=.ok ((ls.map (Value.int .u64)).take i).toArray w.drew:=by
  rw [hzs]
  exact run_firstCells_some w.drew 1 i ⟨r,0,none⟩ i cap ((ls.map (Value.int .u64)).take i) (by rw [List.length_take];simp;omega) (fun j v hj=>by
   rw [Addr.add_lit,Nat.zero_add]
   rw [List.getElem?_take] at hj
   split at hj
   ·rw [List.getElem?_map,Option.map_eq_some_iff] at hj
    obtain ⟨y,hy,rfl⟩:=hj
    show w.cell? ⟨r,j,none⟩=_
    rw [hcell _ (by omega),List.getD_eq_getElem?_getD,hy];rfl
   ·cases hj)
 have hrz:∀ ty,(Builtin.append_ #[37,3] ty #[.slice (some ⟨r,0,none⟩) i cap,.int .i64 ((n:Int)+1-(i:Int))]).run Tryz.prog w=.ok (.slice (some ⟨w.heap.size,0,none⟩) (n+1) (grownCap w (n+1) cap 45)) (w.drew.alloc (.cells (((ls.map (Value.int .u64)).take i).toArray++Builtin.zeroCells (Value.int .u64 0).cells (n+1-i)++Builtin.zeroCells (Value.int .u64 0).cells (grownCap w (n+1) cap 45-(n+1))) 45)):=fun ty=>by
  have h:=Lib.run_append_grow_zeros w 37 3 ty 45 i0 _ .i64 .i64 Tryz.underlying37 Tryz.underlying3 hi0 hz0 (some ⟨r,0,none⟩) i cap ((ls.map (Value.int .u64)).take i) hold (n+1-i) (by omega) (by omega) (by omega) (by omega) (by rw [hzb];omega) (by rw [hzb,hik];exact growslice_fits (by omega) (by omega))
  rw [hik] at h
  rw [hkk]
  exact h
 have hGn:n+1≤grownCap w (n+1) cap 45:=grownCap_ge w _ _ _
 have hGm:=grownCap_le_maxLen w (n+1) cap 45 (by unfold maxLen;omega)
 generalize grownCap w (n+1) cap 45=G at *
 obtain ⟨ROW,hROW⟩:∃ ROW:Array Value,ROW=((ls.map (Value.int .u64)).take i).toArray++Builtin.zeroCells (Value.int .u64 0).cells (n+1-i)++Builtin.zeroCells (Value.int .u64 0).cells (G-(n+1)):=⟨_,rfl⟩
 rw [← hROW] at hrz
 have hRl:ROW.size=G:=by
  rw [hROW]
  simp [Builtin.zeroCells,Value.cells]
  omega
 have hRg:∀ j,j<i→ROW[j]?=some (.int .u64 (ls.getD j 0)):=fun j hj=>by
  rw [hROW,Array.getElem?_append_left (by simp [Builtin.zeroCells,Value.cells];omega),Array.getElem?_append_left (by simp;omega)]
  simp [List.getElem?_take,hj,List.getD_eq_getElem?_getD,show j<ls.length by omega]
 obtain ⟨W1,hW1⟩:∃ W1,W1=w.drew.alloc (.cells ROW 45):=⟨_,rfl⟩
 rw [← hW1] at hrz
 have hpN:Plain ROW:=by
  rw [hROW]
  exact ((Plain.list fun v hv=>ints_int v (List.mem_of_mem_take hv)).append (Plain.madeCells (Plain.ai (k:=.u64) (xs:=[0])) _)).append (Plain.madeCells (Plain.ai (k:=.u64) (xs:=[0])) _)
 have hbN:Blk false W1 w.heap.size ROW 45:=⟨(0,0),by rw [hW1];exact heap_new _,fun _=>rfl⟩
 have hN:∀ j,j<n+1→(W1.cell? ⟨w.heap.size,j,none⟩).isSome=true:=fun j hj=>by
  rw [hbN.cell,Array.getElem?_eq_getElem (by omega)];rfl
 have hNf:∀ j,W1.frozen? ⟨w.heap.size,j,none⟩=false:=fun j=>hbN.frozen j
 have hOb:∀ j,j<n→W1.cell? ⟨r,j,none⟩=some (.int .u64 (ls.getD j 0)):=fun j hj=>by
  rw [← hcell j hj,hW1]
  exact World.cell?_of_block (w:=w) (heap_old (w:=w.drew) _ hbw)
 have hOv:W1.cell? ⟨vb,0,none⟩=some (.int .u64 x):=by
  rw [← hvc,hW1]
  exact World.cell?_of_block (w:=w) (heap_old (w:=w.drew) _ hvw)
 have hrN:r≠w.heap.size:=by omega
 have hdl:((ls.map (Value.int .u64)).drop i).length=n-i:=by simp [hnl]
 have hcpA:∀ (W:World),(∀ x,W.cell? x=W1.cell? x)→(∀ x,W.frozen? x=W1.frozen? x)→∀ ty dc,(Builtin.copy_ #[37,37] ty #[.slice (some ⟨w.heap.size,i,none⟩) (n+1-i) dc,.slice (some ⟨vb,0,none⟩) 1 1]).run Tryz.prog W=.ok (goInt [Value.int .u64 x].length) (W.setCells w.heap.size i [.int .u64 x]):=fun W hWc hWf ty dc=>
  run_copy_cells W _ _ ty 45 w.heap.size i (n+1-i) dc ⟨vb,0,none⟩ 1 1 [.int .u64 x] Tryz.underlying37 hsz (by simp only [Nat.min_def,List.length_singleton];split<;>omega)
   (fun j v hj=>by
    have:j=0∧v=.int .u64 x:=by
     cases j with
     | zero=>simp at hj;exact ⟨rfl,hj.symm⟩
     | succ j=>simp at hj
    obtain ⟨rfl,rfl⟩:=this
    rw [Addr.add_lit,hWc]
    exact hOv)
   (fun j hj=>by rw [hWc];exact hN _ (by simp at hj;omega)) (fun j hj=>by rw [hWf];exact hNf _) (by simp [Value.oneCell'])
 have hcpB:∀ (W:World),(∀ y,W.cell? y=(W1.setCells w.heap.size i [.int .u64 x]).cell? y)→(∀ y,W.frozen? y=(W1.setCells w.heap.size i [.int .u64 x]).frozen? y)→∀ ty dc sc,(Builtin.copy_ #[37,37] ty #[.slice (some ⟨w.heap.size,i+1,none⟩) (n-i) dc,.slice (some ⟨r,i,none⟩) (n-i) sc]).run Tryz.prog W=.ok (goInt ((ls.map (Value.int .u64)).drop i).length) (W.setCells w.heap.size (i+1) ((ls.map (Value.int .u64)).drop i)):=fun W hWc hWf ty dc sc=>
  run_copy_cells W _ _ ty 45 w.heap.size (i+1) (n-i) dc ⟨r,i,none⟩ (n-i) sc ((ls.map (Value.int .u64)).drop i) Tryz.underlying37 hsz (by rw [hdl];simp only [Nat.min_def];split<;>omega)
   (fun j v hj=>by
    rw [List.getElem?_drop,List.getElem?_map,Option.map_eq_some_iff] at hj
    obtain ⟨y,hy,rfl⟩:=hj
    have hlt:=(List.getElem?_eq_some_iff.1 hy).1
    rw [Addr.add_lit,hWc,World.cell?_setCells_out _ _ _ _ _ (fun h _=>absurd h hrN),hOb _ (by omega),List.getD_eq_getElem?_getD,hy];rfl)
   (fun j hj=>by rw [hWc];exact isSome_setCells w.heap.size [.int .u64 x] i W1 (fun t (ht:t<([Value.int .u64 x]).length)=>hN _ (by simp at ht;omega)) _ (hN _ (by rw [hdl] at hj;omega)))
   (fun j hj=>by rw [hWf,World.frozen?_setCells];exact hNf _) (fun v hv=>by obtain ⟨y,_,rfl⟩:=List.mem_map.1 (List.mem_of_mem_drop hv);rfl)
 have hfin:∀ W,W.heap=((W1.setCells w.heap.size i [.int .u64 x]).setCells w.heap.size (i+1) ((ls.map (Value.int .u64)).drop i)).heap→W.tape=w.tape→W.os=w.os→W.output=w.output→InsPost w r (insL i x ls) (.returned (.slice (some ⟨w.heap.size,0,none⟩) (n+1) G)) W:=by
  intro W hW e1 e2 e3
  obtain ⟨a1,b1,s1,g1⟩:=hbN.setCells (vs:=[.int .u64 x]) (o:=i) (by simp;omega)
  obtain ⟨a2,b2,s2,g2⟩:=b1.setCells (vs:=(ls.map (Value.int .u64)).drop i) (o:=i+1) (by rw [hdl];omega)
  have ht:Tch w.heap.size (fun b=>b=r) w ((W1.setCells w.heap.size i [.int .u64 x]).setCells w.heap.size (i+1) ((ls.map (Value.int .u64)).drop i)):=by
   rw [hW1]
   exact Tch.setCells (.inl (Nat.le_refl _)) (Tch.setCells (.inl (Nat.le_refl _)) (Tch.refl.drew.alloc (Nat.le_refl _) _))
  refine ⟨w.heap.size,G,by rw [hil],Row.of_get (b2.kept (by rw [hW])) (by omega) (by omega) (fun j hj=>?_) (Plain.setc (Plain.setc hpN int_int g1) (fun v hv=>ints_int v (List.mem_of_mem_drop hv)) g2),hGm,.inr (Nat.le_refl _),⟨by rw [hW];exact ht.size,fun b hb hm=>by rw [hW];exact ht.heap b hb hm,e1,e2,e3⟩⟩
  rw [hig,g2,g1,hdl]
  rw [hil] at hj
  simp only [List.length_singleton]
  by_cases h1:j<i
  ·rw [if_neg (by omega),if_neg (by omega),if_pos h1,hRg j h1,List.getD_eq_getElem?_getD,List.getElem?_eq_getElem (by omega)];rfl
  ·by_cases h2:j=i
   ·rw [if_neg (by omega),if_pos (by omega),if_neg h1,if_pos h2,h2,Nat.sub_self];rfl
   ·rw [if_pos (by omega),if_neg h1,if_neg h2,List.getElem?_drop,List.getElem?_map,show i+(j-(i+1))=j-1 by omega]
 have hG63:G≤9223372036854775807:=by unfold maxLen at hGm;omega
 have hGi:¬ (G=i):=by omega
 have hGim:¬ (G=i+1):=by omega
 have hci:¬ (cap=i):=by omega
 subst hW1
 have hE1:∀ x,((w.alloc (.cells ROW 45)).drew).cell? x=(w.drew.alloc (.cells ROW 45)).cell? x:=fun x=>rfl
 have hE2:∀ x,((w.alloc (.cells ROW 45)).drew).frozen? x=(w.drew.alloc (.cells ROW 45)).frozen? x:=fun x=>rfl
 have hF1:∀ y,(((w.alloc (.cells ROW 45)).drew.setCells w.heap.size i [.int .u64 x]).drew).cell? y=((w.drew.alloc (.cells ROW 45)).setCells w.heap.size i [.int .u64 x]).cell? y:=fun x=>rfl
 have hF2:∀ y,(((w.alloc (.cells ROW 45)).drew.setCells w.heap.size i [.int .u64 x]).drew).frozen? y=((w.drew.alloc (.cells ROW 45)).setCells w.heap.size i [.int .u64 x]).frozen? y:=fun x=>rfl
 have hw1:IntKind.i64.wrap ((i:Int)+1)=(i:Int)+1:=by rw [IntKind.wrap_i64];omega
 have hb1:(0:Int)≤(i:Int)+1:=by omega
 have hin:i≤n:=by omega
 have htn:((i:Int)+1).toNat=i+1:=by omega
 have hb3:(i:Int)≤(n:Int):=by omega
 have hic:(i:Int)≤(cap:Int):=by omega
 clear hpN
 clear hkk hik hold hROW hRl hcell hcur hb hN hNf hOb hOv hbN hRg hig hil hvc hv hcs hlc hcap
 go_enter Tryz.func175,Tryz.ntmps175
 go_wp2_with (first
  | (at_builtin;refine Lib.wpList_append_run _ rfl _ _ _ _ rfl _ _ rfl rfl _ _ (hrz _) ?_)
  | (at_builtin;refine wpList_copy_runI _ rfl _ _ 37 37 rfl _ _ rfl rfl (hcpA _ hE1 hE2 _ _) ?_)
  | (at_builtin;refine wpList_copy_runI _ rfl _ _ 37 37 rfl _ _ rfl rfl (hcpB _ (fun _=>rfl) (fun _=>rfl) _ _ _) ?_))
 go_region_law_o (refine step_copy_runI rfl _ _ 37 37 rfl (.slice (some ⟨w.heap.size,i+1,none⟩) (n-i) (G-(i+1))) (.slice (some ⟨r,i,none⟩) (n-i) (cap-i)) (by simp [Act.eval,Act.put]) (by simp [Act.eval,Act.put]) (hcpB _ hF1 hF2 3 (G-(i+1)) (cap-i)) ?_)
 go_wp2
 go_ret
 obtain ⟨q1,q2,q3⟩:=setCells_same w.heap.size ((ls.map (Value.int .u64)).drop i) (i+1) ((w.alloc (.cells ROW 45)).drew.setCells w.heap.size i [.int .u64 x]).drew
 exact hfin _ (setCells_heap _ _ _ _ _ rfl) q1 q2 q3
end
def lval (pr:Option (Nat × Nat)) (ls:List Int):Value:=match pr with|none=>.slice none 0 0|some (r,c)=>.slice (some ⟨r,0,none⟩) ls.length c
def LRow (fr:Bool) (w:World) (pr:Option (Nat × Nat)) (ls:List Int):Prop:=match pr with|none=>ls=[]|some (r,c)=>Row fr w r 45 .u64 ls c∧c≤maxLen
def lpl (pr:Option (Nat × Nat)) (x:Nat):Prop:=∃ c,pr=some (x,c)
structure LeastAt (fr:Bool) (w:World) (b:Nat) (pr:Option (Nat × Nat)) (K:Int) (ls:List Int):Prop where
 hd:Blk fr w b #[.int .i64 K,lval pr ls] 128
 row:LRow fr w pr ls
section
variable {fr:Bool} {w w':World} {b:Nat} {pr:Option (Nat × Nat)} {K:Int} {ls:List Int}
theorem LRow.kept (h:LRow fr w pr ls) (hh:∀ x,lpl pr x→w'.heap[x]?=w.heap[x]?):LRow fr w' pr ls:=by
 cases pr with
 | none=>exact h
 | some p=>exact ⟨h.1.kept (hh p.1 ⟨p.2,rfl⟩),h.2⟩
theorem LRow.lt (h:LRow fr w pr ls) {x:Nat} (hx:lpl pr x):x<w.heap.size:=by
 obtain ⟨c,rfl⟩:=hx
 exact h.1.lt
theorem LeastAt.kept (h:LeastAt fr w b pr K ls) (h1:w'.heap[b]?=w.heap[b]?) (hh:∀ x,lpl pr x→w'.heap[x]?=w.heap[x]?):LeastAt fr w' b pr K ls:=⟨h.hd.kept h1,h.row.kept hh⟩
theorem LeastAt.c0 (h:LeastAt fr w b pr K ls):w.cell? ⟨b,0,none⟩=some (.int .i64 K):=(h.hd.cell 0).trans rfl
theorem LeastAt.c1 (h:LeastAt fr w b pr K ls):w.cell? ⟨b,1,none⟩=some (lval pr ls):=(h.hd.cell 1).trans rfl
set_option maxHeartbeats 1000000 in
set_option maxRecDepth 100000 in
theorem search_nil (x:Int) (w:World):Calls Tryz.prog 174 #[.slice none 0 0,.int .u64 x] w fun e w'=>e=.returned (.tuple #[.int .i64 0,.bool false])∧w'=w:=by
 go_enter Tryz.func174,Tryz.ntmps174
 go_wp2
 go_loop [7,8] (fun s7 s8=>s7=.int .i64 0∧s8=.int .i64 0) (fun _ _=>0)
 case atStart=>exact ⟨rfl,rfl⟩
 case round=>
  obtain ⟨rfl,rfl⟩:=hrel
  go_wp2
  go_ret2
  exact ⟨rfl,rfl⟩
theorem search_any (h:LRow fr w pr ls) (hn:ls.length≤1000) (hs:ls.Pairwise (·≤·)) (x:Int) :
  Calls Tryz.prog 174 #[lval pr ls,.int .u64 x] w fun e w'=>e=.returned (.tuple #[.int .i64 (ls.countP (· < x):Nat),.bool (decide (x∈ls))])∧w'=w:=by
 cases pr with
 | none=>
  have:ls=[]:=h
  subst this
  refine (search_nil x w).mono ?_
  rintro e w' ⟨rfl,rfl⟩
  exact ⟨by simp,rfl⟩
 | some p=>exact search_calls h.1 hn hs x p.2
def InsAny (w:World) (pr:Option (Nat × Nat)) (ls:List Int) (e:Ending) (w':World):Prop:=
 ∃ g c',e=.returned (.slice (some ⟨g,0,none⟩) ls.length c')∧Row false w' g 45 .u64 ls c'∧c'≤maxLen∧(lpl pr g∨w.heap.size≤g)∧Tch w.heap.size (lpl pr) w w'
theorem insert_any {vb i:Nat} {x:Int} (h:LRow false w pr ls) (hv:w.heap[vb]?=some (.cells #[.int .u64 x] 45)) (hvr:¬ lpl pr vb) (hi:i≤ls.length) (hn:ls.length≤1000) :
  Calls Tryz.prog 175 #[lval pr ls,.int .i64 i,.slice (some ⟨vb,0,none⟩) 1 1] w (InsAny w pr (insL i x ls)):=by
 cases pr with
 | none=>
  have:ls=[]:=h
  subst this
  have:i=0:=by simpa using hi
  subst this
  refine (insert_nil (r:=w.heap.size) hv).mono ?_
  rintro e w' ⟨g,c',rfl,h1,h2,h3,h4⟩
  exact ⟨g,c',rfl,h1,h2,.inr (by omega),h4.mono (Nat.le_refl _) fun b hb e=>by omega⟩
 | some p=>
  obtain ⟨r,c⟩:=p
  have hvr':vb≠r:=by rintro rfl;exact hvr ⟨c,rfl⟩
  have conv:∀ e w',InsPost w r (insL i x ls) e w'→InsAny w (some (r,c)) (insL i x ls) e w':=by
   rintro e w' ⟨g,c',rfl,h1,h2,h3,h4⟩
   exact ⟨g,c',rfl,h1,h2,h3.imp (fun e=>by subst e;exact ⟨c,rfl⟩) id,h4.mono (Nat.le_refl _) fun b _ e=>by subst e;exact ⟨c,rfl⟩⟩
  rcases Nat.lt_or_ge i ls.length with hlt|hge
  ·rcases Nat.lt_or_ge c (ls.length+1) with h1|h1
   ·exact (insert_grow h.1 h.2 hv hlt h1 hn).mono conv
   ·exact (insert_shift h.1 h.2 hv hvr' hlt h1 hn).mono conv
  ·obtain rfl:i=ls.length:=by omega
   exact (insert_end h.1 h.2 hv hn).mono conv
def addLeast (K:Int) (ls:List Int) (h:Int):List Int:=if h∈ls then ls else (insL (ls.countP (· < h)) h ls).take K.toNat
theorem Row.take {r cap:Nat} {t:TypeId} {k:IntKind} {xs:List Int} (h:Row fr w r t k xs cap) (m:Nat):Row fr w r t k (xs.take m) cap:=by
 obtain ⟨cur,h1,h2,h3,h4,h5⟩:=h
 refine ⟨cur,h1,h2,by simp;omega,fun i hi=>?_,h5⟩
 simp only [List.length_take] at hi
 rw [h4 i (by omega),List.getD_eq_getElem?_getD,List.getD_eq_getElem?_getD,List.getElem?_take,if_pos (by omega)]
def LPost (w:World) (b:Nat) (pr:Option (Nat × Nat)) (K:Int) (ls:List Int) (e:Ending) (w':World):Prop:=
 (∃ v,e=.returned v)∧∃ pr',LeastAt false w' b pr' K ls∧(∀ x,lpl pr' x→lpl pr x∨w.heap.size≤x)∧Tch w.heap.size (fun x=>x=b∨lpl pr x) w w'
theorem leastFin {w2:World} {L:List Int} {g c' m:Nat} {x:Int} {s1 lv:Value} (v:Value) (hbl:b<w.heap.size) (hb:¬ lpl pr b) (hB2:Blk false w2 b #[.int .i64 K,lv] 128) (hr2:Row false w2 g 45 .u64 L c') (hc2:c'≤maxLen) (hg2:lpl pr g∨w.heap.size+1≤g) (hL:(L.take K.toNat).length=m)
  (ht2:Tch (w.heap.size+1) (lpl pr) (w.alloc (.cells #[.int .u64 x] 45)) w2):LPost w b pr K (L.take K.toNat) (.returned v) ((w2.setCell ⟨b,1,none⟩ s1).setCell ⟨b,1,none⟩ (.slice (some ⟨g,0,none⟩) m c')).drew:=by
 have hgb:g≠b:=by
  rintro rfl
  rcases hg2 with h|h
  ·exact hb h
  ·omega
 refine ⟨⟨_,rfl⟩,some (g,c'),⟨?_,?_,hc2⟩,fun y ⟨c,hc⟩=>?_,?_⟩
 ·have:=((hB2.set 1 s1).set 1 (.slice (some ⟨g,0,none⟩) m c')).kept (w':=((w2.setCell ⟨b,1,none⟩ s1).setCell ⟨b,1,none⟩ (.slice (some ⟨g,0,none⟩) m c')).drew) rfl
  rw [show lval (some (g,c')) (L.take K.toNat)=.slice (some ⟨g,0,none⟩) m c' by rw [← hL];rfl]
  exact this
 ·exact (hr2.take K.toNat).kept ((heap_ne _ _ hgb).trans (heap_ne _ _ hgb))
 ·cases hc
  exact hg2.imp id fun h=>by omega
 ·have h1:Tch w.heap.size (fun x=>x=b∨lpl pr x) w (w.alloc (.cells #[.int .u64 x] 45)):=Tch.refl.alloc (Nat.le_refl _) _
  have h2:Tch w.heap.size (fun x=>x=b∨lpl pr x) (w.alloc (.cells #[.int .u64 x] 45)) w2:=ht2.mono (by omega) fun _ _ h=>.inr h
  exact (((h1.trans h2).set (.inr (.inl rfl)) _).set (.inr (.inl rfl)) _).drew
set_option maxHeartbeats 4000000 in
set_option maxRecDepth 100000 in
theorem leastAdd (h:LeastAt false w b pr K ls) (hb:¬ lpl pr b) (hn:ls.length≤1000) (hs:ls.Pairwise (·≤·)) (hK:0≤K∧K≤1000) (x:Int) (v:Int) :
  Calls Tryz.prog 170 #[.pointer (some ⟨b,0,none⟩),.int .u64 x,.int .i64 v] w (LPost w b pr K (addLeast K ls x)):=by
 have d0:=h.c0
 have d1:=h.c1
 have f1:=h.hd.frozen 1
 have hse:=search_any h.row hn hs x
 have hblt:=h.hd.lt
 by_cases hx:x∈ls
 ·have e1:addLeast K ls x=ls:=by simp [addLeast,hx]
  rw [e1]
  have hfin:LPost w b pr K ls (.returned (.tuple #[])) w:=⟨⟨_,rfl⟩,pr,h,fun x hx=>.inl hx,.refl⟩
  rw [decide_eq_true hx] at hse
  generalize lval pr ls=lv at *
  go_enter Tryz.func170,Tryz.ntmps170
  go_wp2_with (go_at_call 174;refine hse.mono ?_;rintro e w' ⟨rfl,rfl⟩)
  go_end0
  exact hfin
 ·have e1:addLeast K ls x=(insL (ls.countP (· < x)) x ls).take K.toNat:=by simp [addLeast,hx]
  rw [e1]
  rw [decide_eq_false hx] at hse
  have hcle:ls.countP (· < x)≤ls.length:=List.countP_le_length
  have hvN:(w.alloc (.cells #[.int .u64 x] 45)).heap[w.heap.size]?=some (.cells #[.int .u64 x] 45):=heap_new _
  have hrow1:LRow false (w.alloc (.cells #[.int .u64 x] 45)) pr ls:=h.row.kept fun y hy=>heap_old _ (h.row.lt hy)
  have hins:=insert_any hrow1 hvN (fun hy=>by have:=h.row.lt hy;omega) hcle hn
  have hil:(insL (ls.countP (· < x)) x ls).length=ls.length+1:=insL_length hcle
  generalize ls.countP (· < x)=i at *
  generalize hL:insL i x ls=L at *
  clear hx hL
  obtain ⟨k,hk⟩:∃ k:Nat,K=k:=⟨K.toNat,by omega⟩
  obtain ⟨m,hm⟩:∃ m:Nat,m=min (ls.length+1) k:=⟨_,rfl⟩
  have hmin:min ((ls.length:Int)+1) K=(m:Int):=by omega
  have hm0:(0:Int)≤(m:Int):=by omega
  have hB:Blk false (w.alloc (.cells #[.int .u64 x] 45)) b #[.int .i64 K,lval pr ls] 128:=h.hd.kept (heap_old _ hblt)
  have hblt1:=hB.lt
  generalize lval pr ls=lv at d1 hse hins hB
  go_enter Tryz.func170,Tryz.ntmps170
  go_wp2_with (first
   | (go_at_call 174;refine hse.mono ?_;rintro e w' ⟨rfl,rfl⟩)
   | (go_at_call 175;refine hins.mono ?_;rintro e w2 ⟨g,c',rfl,hr2,hc2,hg2,ht2⟩
      have hB2:Blk false w2 b #[.int .i64 K,lv] 128:=hB.kept (ht2.heap b hblt1 hb)
      have k0:w2.cell? ⟨b,0,none⟩=some (.int .i64 K):=(hB2.cell 0).trans rfl
      have k1:w2.cell? ⟨b,1,none⟩=some lv:=(hB2.cell 1).trans rfl
      have k2:=hB2.frozen 1
      have hmc:(m:Int)≤(c':Int):=by obtain ⟨_,_,_,h3,_⟩:=hr2;omega))
  go_region
  all_goals go_wp2
  all_goals go_end0
  all_goals exact leastFin _ hblt hb hB2 hr2 hc2 (by rw [size_alloc] at hg2;exact hg2) (by rw [List.length_take,hil];omega) (by rw [size_alloc] at ht2;exact ht2)
end
end Go.Sim.Z
namespace Go.Sim.Z
open Go Go.Proofs Go.RowKit
abbrev Rise (l:List Int):Prop:=l.Pairwise (· < ·)
def insU (x:Int):List Int→List Int
 | []=>[x]
 | y::l=>if x<y then x::y::l else if x=y then y::l else y::insU x l
theorem mem_insU {x z:Int}:∀ {l:List Int},z∈insU x l↔z=x∨z∈l
 | []=>by simp [insU]
 | y::l=>by
  unfold insU
  split
  ·simp
  ·split
   ·rename_i e;subst e;simp
   ·rw [List.mem_cons,mem_insU,List.mem_cons]
    constructor
    ·rintro (h|h|h)
     ·exact .inr (.inl h)
     ·exact .inl h
     ·exact .inr (.inr h)
    ·rintro (h|h|h)
     ·exact .inr (.inl h)
     ·exact .inl h
     ·exact .inr (.inr h)
theorem rise_insU {x:Int}:∀ {l:List Int},Rise l→Rise (insU x l)
 | [],_=>by simp [insU]
 | y::l,h=>by
  have h1:=(List.pairwise_cons.1 h).1
  have h2:=(List.pairwise_cons.1 h).2
  unfold insU
  split
  ·rename_i hx
   refine List.pairwise_cons.2 ⟨fun z hz=>?_,h⟩
   rcases List.mem_cons.1 hz with rfl|hz
   ·exact hx
   ·have:=h1 z hz;omega
  ·split
   ·exact h
   ·refine List.pairwise_cons.2 ⟨fun z hz=>?_,rise_insU h2⟩
    rcases mem_insU.1 hz with rfl|hz
    ·omega
    ·exact h1 z hz
theorem insU_mem {x:Int}:∀ {l:List Int},Rise l→x∈l→insU x l=l
 | [],_,h=>by simp at h
 | y::l,h,hx=>by
  have h1:=(List.pairwise_cons.1 h).1
  have h2:=(List.pairwise_cons.1 h).2
  unfold insU
  rcases List.mem_cons.1 hx with rfl|hx
  ·rw [if_neg (by omega),if_pos rfl]
  ·have:=h1 x hx
   rw [if_neg (by omega),if_neg (by omega),insU_mem h2 hx]
theorem insL_insU {x:Int}:∀ {l:List Int},Rise l→x∉l→insL (l.countP (· < x)) x l=insU x l
 | [],_,_=>by simp [insL,insU]
 | y::l,h,hx=>by
  have h1:=(List.pairwise_cons.1 h).1
  have h2:=(List.pairwise_cons.1 h).2
  rw [List.mem_cons,not_or] at hx
  unfold insU
  by_cases hxy:x<y
  ·have:(y::l).countP (· < x)=0:=by
    rw [List.countP_eq_zero]
    intro z hz
    rcases List.mem_cons.1 hz with rfl|hz
    ·simp;omega
    ·have:=h1 z hz;simp;omega
   rw [this,if_pos hxy]
   simp [insL]
  ·rw [if_neg hxy,if_neg hx.1,List.countP_cons_of_pos (by simp;omega),← insL_insU h2 hx.2]
   simp [insL]
theorem rise_ext:∀ {a b:List Int},Rise a→Rise b→(∀ x,x∈a↔x∈b)→a=b
 | [],[],_,_,_=>rfl
 | [],y::b,_,_,h=>by have:=(h y).2 (by simp);simp at this
 | x::a,[],_,_,h=>by have:=(h x).1 (by simp);simp at this
 | x::a,y::b,ha,hb,h=>by
  have a1:=(List.pairwise_cons.1 ha).1
  have b1:=(List.pairwise_cons.1 hb).1
  have e:x=y:=by
   rcases List.mem_cons.1 ((h x).1 (by simp)) with e|e
   ·exact e
   ·rcases List.mem_cons.1 ((h y).2 (by simp)) with e'|e'
    ·exact e'.symm
    ·have:=b1 x e;have:=a1 y e';omega
  subst e
  congr 1
  refine rise_ext (List.pairwise_cons.1 ha).2 (List.pairwise_cons.1 hb).2 fun z=>?_
  constructor
  ·intro hz
   rcases List.mem_cons.1 ((h z).1 (by simp [hz])) with e|e
   ·subst e;have:=a1 z hz;omega
   ·exact e
  ·intro hz
   rcases List.mem_cons.1 ((h z).2 (by simp [hz])) with e|e
   ·subst e;have:=b1 z hz;omega
   ·exact e
theorem take_insU {x:Int}:∀ {l:List Int} {K:Nat},(insU x (l.take K)).take K=(insU x l).take K
 | _,0=>by simp
 | [],K+1=>by simp
 | y::l,K+1=>by
  simp only [List.take_succ_cons]
  unfold insU
  have key:∀ m:List Int,(y::m.take K).take K=(y::m).take K:=by
   intro m
   cases K with
   | zero=>simp
   | succ k=>simp [List.take_take,Nat.min_eq_left (Nat.le_succ k)]
  split
  ·rw [List.take_succ_cons,List.take_succ_cons,key]
  ·split
   ·simp [List.take_take]
   ·rw [List.take_succ_cons,List.take_succ_cons,take_insU]
def uni (a b:List Int):List Int:=b.foldl (fun l x=>insU x l) a
theorem mem_uni {z:Int}:∀ {b a:List Int},z∈uni a b↔z∈a∨z∈b
 | [],a=>by simp [uni]
 | x::b,a=>by
  show z∈uni (insU x a) b↔_
  rw [mem_uni,mem_insU,List.mem_cons]
  constructor
  ·rintro ((h|h)|h)
   ·exact .inr (.inl h)
   ·exact .inl h
   ·exact .inr (.inr h)
  ·rintro (h|h|h)
   ·exact .inl (.inr h)
   ·exact .inl (.inl h)
   ·exact .inr h
theorem rise_uni:∀ {b a:List Int},Rise a→Rise (uni a b)
 | [],_,h=>h
 | x::b,a,h=>by show Rise (uni (insU x a) b);exact rise_uni (rise_insU h)
theorem take_uni {K:Nat}:∀ {b l:List Int},(uni (l.take K) b).take K=(uni l b).take K
 | [],l=>by simp [uni,List.take_take]
 | x::b,l=>by
  show (uni (insU x (l.take K)) b).take K=(uni (insU x l) b).take K
  rw [← take_uni (l:=insU x (l.take K)),← take_uni (l:=insU x l),take_insU]
theorem addLeast_eq {K:Int} {ls:List Int} (h:Rise ls) (hK:(ls.length:Int)≤K) (x:Int):addLeast K ls x=(insU x ls).take K.toNat:=by
 unfold addLeast
 split
 ·rename_i hx
  rw [insU_mem h hx,List.take_of_length_le (by omega)]
 ·rename_i hx
  rw [insL_insU h hx]
theorem rise_take {l:List Int} (h:Rise l) (k:Nat):Rise (l.take k):=h.sublist (List.take_sublist _ _)
theorem rise_addLeast {K:Int} {ls:List Int} (h:Rise ls) (hK:(ls.length:Int)≤K) (x:Int):Rise (addLeast K ls x)∧((addLeast K ls x).length:Int)≤K:=by
 rw [addLeast_eq h hK]
 exact ⟨rise_take (rise_insU h) _,by rw [List.length_take];omega⟩
def mergeL (K:Int) (a b:List Int):List Int:=b.foldl (addLeast K) a
theorem mergeL_eq {K:Int}:∀ {b a:List Int},Rise a→(a.length:Int)≤K→mergeL K a b=(uni a b).take K.toNat
 | [],a,_,hK=>by
  show a=a.take _
  rw [List.take_of_length_le (by omega)]
 | x::b,a,h,hK=>by
  show mergeL K (addLeast K a x) b=(uni (insU x a) b).take _
  have:=rise_addLeast h hK x
  rw [mergeL_eq this.1 this.2,addLeast_eq h hK,take_uni]
theorem rise_mergeL {K:Int} {a b:List Int} (h:Rise a) (hK:(a.length:Int)≤K):Rise (mergeL K a b)∧((mergeL K a b).length:Int)≤K:=by
 rw [mergeL_eq h hK]
 exact ⟨rise_take (rise_uni h) _,by rw [List.length_take];omega⟩
theorem mergeL_comm {K:Int} {a b:List Int} (ha:Rise a) (hb:Rise b) (ka:(a.length:Int)≤K) (kb:(b.length:Int)≤K):mergeL K a b=mergeL K b a:=by
 rw [mergeL_eq ha ka,mergeL_eq hb kb]
 congr 1
 exact rise_ext (rise_uni ha) (rise_uni hb) fun x=>by rw [mem_uni,mem_uni,or_comm]
theorem mergeL_assoc {K:Int} {a b c:List Int} (ha:Rise a) (hb:Rise b) (hc:Rise c) (ka:(a.length:Int)≤K) (kb:(b.length:Int)≤K) (_kc:(c.length:Int)≤K):mergeL K (mergeL K a b) c=mergeL K a (mergeL K b c):=by
 have h1:=rise_mergeL (b:=b) ha ka
 have h2:=rise_mergeL (b:=c) hb kb
 rw [mergeL_comm ha h2.1 ka h2.2,mergeL_eq h1.1 h1.2,mergeL_eq h2.1 h2.2,mergeL_eq ha ka,mergeL_eq hb kb,take_uni,take_uni]
 congr 1
 refine rise_ext (rise_uni (rise_uni ha)) (rise_uni (rise_uni hb)) fun x=>?_
 simp only [mem_uni]
 constructor
 ·rintro ((h|h)|h)
  ·exact .inr h
  ·exact .inl (.inl h)
  ·exact .inl (.inr h)
 ·rintro ((h|h)|h)
  ·exact .inl (.inr h)
  ·exact .inr h
  ·exact .inl (.inl h)
theorem mem_mergeL {K:Int} {a b:List Int} (ha:Rise a) (ka:(a.length:Int)≤K) {x:Int} (h:x∈mergeL K a b):x∈a∨x∈b:=by
 rw [mergeL_eq ha ka] at h
 exact mem_uni.1 (List.mem_of_mem_take h)
theorem maxL_comm (a b:List Int):maxL a b=maxL b a:=by
 unfold maxL
 induction a generalizing b with
 | nil=>cases b<;>rfl
 | cons x a ih=>cases b with
  | nil=>rfl
  | cons y b=>simp only [List.zipWith_cons_cons,ih,Int.max_comm]
theorem maxL_assoc (a b c:List Int):maxL (maxL a b) c=maxL a (maxL b c):=by
 unfold maxL
 induction a generalizing b c with
 | nil=>cases b<;>rfl
 | cons x a ih=>cases b with
  | nil=>cases c<;>rfl
  | cons y b=>cases c with
   | nil=>rfl
   | cons z c=>simp only [List.zipWith_cons_cons,ih,Int.max_assoc]
theorem wrap_add_comm (x y:Int):wrap64 (x+y)=wrap64 (y+x):=by rw [Int.add_comm]
theorem wrap_add_assoc (x y z:Int):wrap64 (wrap64 (x+y)+z)=wrap64 (x+wrap64 (y+z)):=by
 unfold wrap64;omega
theorem addL_comm (a b:List Int):addL a b=addL b a:=by
 unfold addL
 induction a generalizing b with
 | nil=>cases b<;>rfl
 | cons x a ih=>cases b with
  | nil=>rfl
  | cons y b=>simp only [List.zipWith_cons_cons,ih,wrap_add_comm x y]
theorem addL_assoc (a b c:List Int):addL (addL a b) c=addL a (addL b c):=by
 unfold addL
 induction a generalizing b c with
 | nil=>cases b<;>rfl
 | cons x a ih=>cases b with
  | nil=>cases c<;>rfl
  | cons y b=>cases c with
   | nil=>rfl
   | cons z c=>simp only [List.zipWith_cons_cons,ih,wrap_add_assoc x y z]
structure Bun where
 n:Int
 r:List Int
 h:List Int
 l:List Int
structure CfgD where
 bits:Int
 K:Int
 ba:Option Addr
 nb:Nat
 cb:Nat
structure CfgOk (c:CfgD):Prop where
 b1:4≤c.bits
 b2:c.bits≤6
 k1:1≤c.K
 k2:c.K≤8
 nb:c.nb≤8
def I64 (x:Int):Prop:=-9223372036854775808≤x∧x≤9223372036854775807
structure BunOk (c:CfgD) (B:Bun):Prop where
 r:B.r.length=2 ^ c.bits.toNat
 r8:∀ x∈B.r,0≤x∧x≤255
 h:B.h.length=c.nb+1
 h64:∀ x∈B.h,I64 x
 l:Rise B.l
 lK:(B.l.length:Int)≤c.K
 l64:∀ x∈B.l,0≤x∧x≤18446744073709551615
 n64:I64 B.n
 lne:B.l≠[]
def mg (c:CfgD) (a b:Bun):Bun:=⟨wrap64 (a.n+b.n),maxL a.r b.r,addL a.h b.h,mergeL c.K a.l b.l⟩
theorem mem_zipWith {f:Int→Int→Int} {z:Int}:∀ {a b:List Int},z∈a.zipWith f b→∃ x∈a,∃ y∈b,z=f x y
 | [],_,h=>by simp at h
 | _::_,[],h=>by simp at h
 | x::a,y::b,h=>by
  rw [List.zipWith_cons_cons,List.mem_cons] at h
  rcases h with rfl|h
  ·exact ⟨x,by simp,y,by simp,rfl⟩
  ·obtain ⟨p,hp,q,hq,e⟩:=mem_zipWith h
   exact ⟨p,by simp [hp],q,by simp [hq],e⟩
theorem wrap64_I64 (x:Int):I64 (wrap64 x):=by unfold I64 wrap64;omega
section
variable {c:CfgD} {a b d:Bun}
theorem BunOk.mg (ha:BunOk c a) (hb:BunOk c b):BunOk c (mg c a b):=by
 refine ⟨?_,fun x hx=>?_,?_,fun x hx=>?_,(rise_mergeL ha.l ha.lK).1,(rise_mergeL ha.l ha.lK).2,fun x hx=>?_,wrap64_I64 _,?_⟩
 ·show (maxL a.r b.r).length=_
  rw [maxL_length (by rw [ha.r,hb.r]),ha.r]
 ·obtain ⟨p,hp,q,hq,rfl⟩:=mem_zipWith hx
  have:=ha.r8 p hp
  have:=hb.r8 q hq
  omega
 ·show (addL a.h b.h).length=_
  rw [addL_length (by rw [ha.h,hb.h]),ha.h]
 ·obtain ⟨p,hp,q,hq,rfl⟩:=mem_zipWith hx
  exact wrap64_I64 _
 ·rcases mem_mergeL ha.l ha.lK hx with h|h
  ·exact ha.l64 x h
  ·exact hb.l64 x h
 ·show mergeL c.K a.l b.l≠[]
  rw [mergeL_eq ha.l ha.lK]
  have h1:=ha.lne
  have h2:=ha.lK
  obtain ⟨x,hx⟩:=List.exists_mem_of_ne_nil _ h1
  have h3:x∈uni a.l b.l:=mem_uni.2 (.inl hx)
  have h4:0<a.l.length:=List.length_pos_iff.2 h1
  have h5:0<(uni a.l b.l).length:=List.length_pos_iff.2 (List.ne_nil_of_mem h3)
  intro e
  have:=congrArg List.length e
  simp only [List.length_take,List.length_nil] at this
  omega
theorem mg_comm (ha:BunOk c a) (hb:BunOk c b):mg c a b=mg c b a:=by
 unfold mg
 rw [wrap_add_comm,maxL_comm,addL_comm,mergeL_comm ha.l hb.l ha.lK hb.lK]
theorem mg_assoc (ha:BunOk c a) (hb:BunOk c b) (hd:BunOk c d):mg c (mg c a b) d=mg c a (mg c b d):=by
 unfold mg
 simp only
 rw [wrap_add_assoc,maxL_assoc,addL_assoc,mergeL_assoc ha.l hb.l hd.l ha.lK hb.lK hd.lK]
def om (c:CfgD) (z:Option Bun) (b:Bun):Option Bun:=match z with|none=>some b|some a=>some (mg c a b)
def ocat (c:CfgD) (x y:Option Bun):Option Bun:=match y with|none=>x|some b=>om c x b
def osum (c:CfgD) (l:List Bun):Option Bun:=l.foldl (om c) none
def OOk (c:CfgD) (z:Option Bun):Prop:=∀ b,z=some b→BunOk c b
theorem OOk.om {z:Option Bun} (hz:OOk c z) (hb:BunOk c b):OOk c (om c z b):=by
 intro x hx
 cases z with
 | none=>cases hx;exact hb
 | some a=>cases hx;exact (hz a rfl).mg hb
theorem om_swap {z:Option Bun} (hz:OOk c z) (ha:BunOk c a) (hb:BunOk c b):om c (om c z a) b=om c (om c z b) a:=by
 cases z with
 | none=>exact congrArg some (mg_comm ha hb)
 | some x=>
  have hx:=hz x rfl
  show some _=some _
  rw [mg_assoc hx ha hb,mg_assoc hx hb ha,mg_comm ha hb]
theorem foldl_perm {l1 l2:List Bun} (hp:l1.Perm l2):(∀ b∈l1,BunOk c b)→∀ z,OOk c z→l1.foldl (om c) z=l2.foldl (om c) z:=by
 induction hp with
 | nil=>exact fun _ _ _=>rfl
 | cons x _ ih=>exact fun h z hz=>ih (fun b hb=>h b (by simp [hb])) _ (hz.om (h x (by simp)))
 | swap x y l=>
  intro h z hz
  simp only [List.foldl_cons]
  rw [om_swap hz (h y (by simp)) (h x (by simp))]
 | trans h1 _ ih1 ih2=>exact fun h z hz=>(ih1 h z hz).trans (ih2 (fun b hb=>h b (h1.mem_iff.2 hb)) z hz)
theorem osum_perm {l1 l2:List Bun} (hp:l1.Perm l2) (h:∀ b∈l1,BunOk c b):osum c l1=osum c l2:=foldl_perm hp h none (fun _ h=>by cases h)
theorem foldl_ok {l:List Bun} (h:∀ b∈l,BunOk c b):∀ z,OOk c z→OOk c (l.foldl (om c) z):=by
 induction l with
 | nil=>exact fun z hz=>hz
 | cons x l ih=>exact fun z hz=>ih (fun b hb=>h b (by simp [hb])) _ (hz.om (h x (by simp)))
theorem osum_ok {l:List Bun} (h:∀ b∈l,BunOk c b):OOk c (osum c l):=foldl_ok h none (fun _ h=>by cases h)
theorem ocat_om {x y:Option Bun} (hx:OOk c x) (hy:OOk c y) (hb:BunOk c b):om c (ocat c x y) b=ocat c x (om c y b):=by
 cases y with
 | none=>rfl
 | some p=>
  have hp:=hy p rfl
  cases x with
  | none=>rfl
  | some q=>
   show some _=some _
   rw [mg_assoc (hx q rfl) hp hb]
theorem foldl_cat {l:List Bun} (h:∀ b∈l,BunOk c b):∀ x y,OOk c x→OOk c y→l.foldl (om c) (ocat c x y)=ocat c x (l.foldl (om c) y):=by
 induction l with
 | nil=>exact fun _ _ _ _=>rfl
 | cons b l ih=>
   intro x y hx hy
   simp only [List.foldl_cons]
   have hb:=h b (by simp)
   rw [ocat_om hx hy hb,ih (fun d hd=>h d (by simp [hd])) x _ hx (hy.om hb)]
theorem osum_append {l1 l2:List Bun} (h1:∀ b∈l1,BunOk c b) (h2:∀ b∈l2,BunOk c b):osum c (l1++l2)=ocat c (osum c l1) (osum c l2):=by
 unfold osum
 rw [List.foldl_append]
 exact foldl_cat h2 _ none (osum_ok h1) (fun _ h=>by cases h)
end
end Go.Sim.Z
