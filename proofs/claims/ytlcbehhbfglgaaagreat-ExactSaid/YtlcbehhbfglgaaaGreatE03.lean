/- PROVED HERE: laws that the statement rests on (parts Yb, Yc, Wm, Wn). Conditions: none. -/
import Derived.Deep.RegionHeld3
import Derived.Lib.SlicesSearch
import Derived.Shelf.Spec.SlicesInsertGrow
import Derived.Test.YtlcbehhbfglgaaaGreatE02
set_option linter.all false
namespace Go.Sim.Z
open Go Go.Proofs Go.RowKit
def regI (bits x:Int):Nat:=(x / 2 ^ (64-bits).toNat).toNat
def regN (bits x:Int):Int:=min (64-(Lib.bitLen (x*2 ^ bits.toNat % 18446744073709551616).toNat:Int)) (64-bits)+1
def addReg (bits:Int) (rs:List Int) (x:Int):List Int:=rs.set (regI bits x) (max (rs.getD (regI bits x) 0) (regN bits x))
theorem bitLenAux_le:∀ f x,Lib.bitLenAux f x≤f
 | 0,x=>by simp [Lib.bitLenAux]
 | f+1,x=>by
  have:=bitLenAux_le f (x / 2)
  unfold Lib.bitLenAux
  split<;>omega
theorem bitLen_le (x:Nat):Lib.bitLen x≤64:=bitLenAux_le 64 x
theorem regN_bd {bits x:Int} (hb:4≤bits∧bits≤6):1≤regN bits x∧regN bits x≤61:=by
 have:=bitLen_le (x*2 ^ bits.toNat % 18446744073709551616).toNat
 unfold regN;omega
theorem regI_lt {bits x:Int} (hb:4≤bits∧bits≤6) (hx:0≤x∧x≤18446744073709551615):regI bits x<2 ^ bits.toNat:=by
 have:bits=4∨bits=5∨bits=6:=by omega
 rcases this with rfl|rfl|rfl<;>simp [regI]<;>omega
theorem addReg_length {bits x:Int} {rs:List Int}:(addReg bits rs x).length=rs.length:=by simp [addReg]
section
variable {fr:Bool} {w w':World} {b r cap:Nat} {bits:Int} {rs:List Int}
set_option maxRecDepth 100000 in
set_option maxHeartbeats 12000000 in
theorem regAdd (h:RegAt false w b r cap bits rs) (hb:4≤bits∧bits≤6) (hl:rs.length=2 ^ bits.toNat) (hr:∀ x∈rs,0≤x∧x≤255) (hbr:b≠r) {x:Int} (hx:0≤x∧x≤18446744073709551615) (v:Int) :
  Calls Tryz.prog 156 #[.pointer (some ⟨b,0,none⟩),.int .u64 x,.int .i64 v] w fun e w'=>(∃ v,e=.returned v)∧RegAt false w' b r cap bits (addReg bits rs x)∧Tch w.heap.size (fun y=>y=r) w w':=by
 have hi:=regI_lt hb hx
 have hn:=regN_bd (x:=x) hb
 have c0:=h.c0
 have c1:=h.c1
 have hrow:=h.row.cell (i:=regI bits x) (by omega)
 have hfz:=h.row.frozen (regI bits x)
 have hy:=hr (rs.getD (regI bits x) 0) (by rw [List.getD_eq_getElem?_getD,List.getElem?_eq_getElem (by omega)];exact List.getElem_mem _)
 have fin:∀ m:Int,m=max (rs.getD (regI bits x) 0) (regN bits x)→∀ wx:World,wx.heap=w.heap→wx.tape=w.tape→wx.os=w.os→wx.output=w.output →
   RegAt false (wx.setCell ⟨r,regI bits x,none⟩ (.int .u8 m)) b r cap bits (addReg bits rs x)∧Tch w.heap.size (fun y=>y=r) w (wx.setCell ⟨r,regI bits x,none⟩ (.int .u8 m)):=by
  rintro m rfl wx e1 e2 e3 e4
  have e1':∀ b:Nat,wx.heap[b]?=w.heap[b]?:=fun b=>by rw [e1]
  refine ⟨⟨?_,?_⟩,Tch.set ⟨by rw [e1];omega,fun b _ _=>e1' b,e2,e3,e4⟩ (.inr (show (fun y=>y=r) r from rfl)) _⟩
  ·rw [addReg_length]
   exact h.hd.kept ((heap_ne _ _ hbr).trans (e1' b))
  ·have:=(h.row.kept (w':=wx) (e1' r)).set (regI bits x) (max (rs.getD (regI bits x) 0) (regN bits x))
   exact this
 have hbit:bits=4∨bits=5∨bits=6:=by omega
 obtain ⟨L,hL1,hL2,hcl⟩:∃ L:Int,(0≤L∧L≤64)∧regN bits x=min L (64-bits)+1∧∀ w,Calls Tryz.prog 160 #[.int .u64 (IntKind.u64.wrap (x*2 ^ bits.toNat))] w fun e w'=>e=.returned (.int .i64 L)∧w'=w:=by
  refine ⟨64-(Lib.bitLen (x*2 ^ bits.toNat % 18446744073709551616).toNat:Int),?_,rfl,fun w=>?_⟩
  ·have:=bitLen_le (x*2 ^ bits.toNat % 18446744073709551616).toNat
   omega
  ·have e:IntKind.u64.wrap (x*2 ^ bits.toNat)=x*2 ^ bits.toNat % 18446744073709551616:=by rw [IntKind.wrap_u64]
   rw [e]
   exact Tryz.bits_LeadingZeros64 _ _ (by omega) (by omega)
 generalize hN:regN bits x=N at *
 generalize hI:regI bits x=I at *
 generalize hY:rs.getD I 0=Y at *
 rcases hbit with rfl|rfl|rfl
 ·have hI':I=(x / 1152921504606846976).toNat:=by rw [← hI];simp [regI]
  have hNk:N=min L 60+1:=hL2
  have hcl':Hid (∀ w,Calls Tryz.prog 160 #[.int .u64 (IntKind.u64.wrap (x*16))] w fun e w'=>e=.returned (.int .i64 L)∧w'=w):=hcl
  have hk2:IntKind.u8.wrap (min L 60+1)=N:=by rw [IntKind.wrap_u8];omega
  have hk1:IntKind.u8.wrap (IntKind.i64.wrap (min L (IntKind.i64.wrap 60)+1))=N:=by rw [IntKind.wrap_u8,IntKind.wrap_i64,IntKind.wrap_i64];omega
  have hlen:rs.length=16:=hl
  have hii:0≤x / 1152921504606846976∧x / 1152921504606846976<16:=by omega
  have hij:¬ x / 1152921504606846976<0:=by omega
  clear hcl hL2 hI hN
  subst hI'
  go_enter Tryz.func156,Tryz.ntmps156
  go_wp2_with fail
  go_region_held3 (fun w1=>w1.cell? ⟨b,0,none⟩=some (.int .i64 4)) (go_keep) ((go_at_call 160;refine (hcl' _).mono ?_;rintro e w' ⟨rfl,rfl⟩))
  all_goals go_wp2_with fail
  all_goals go_region
  all_goals go_wp2
  all_goals go_end0
  all_goals (try simp only [hk1,hk2])
  all_goals exact (fun q=>⟨⟨_,rfl⟩,RegAt.kept q.1 rfl rfl,⟨q.2.size,q.2.heap,q.2.tape,q.2.os,q.2.output⟩⟩) (fin (max Y (min L 60+1)) (by rw [← hNk]) w rfl rfl rfl rfl)
 ·have hI':I=(x / 576460752303423488).toNat:=by rw [← hI];simp [regI]
  have hNk:N=min L 59+1:=hL2
  have hcl':Hid (∀ w,Calls Tryz.prog 160 #[.int .u64 (IntKind.u64.wrap (x*32))] w fun e w'=>e=.returned (.int .i64 L)∧w'=w):=hcl
  have hk2:IntKind.u8.wrap (min L 59+1)=N:=by rw [IntKind.wrap_u8];omega
  have hk1:IntKind.u8.wrap (IntKind.i64.wrap (min L (IntKind.i64.wrap 59)+1))=N:=by rw [IntKind.wrap_u8,IntKind.wrap_i64,IntKind.wrap_i64];omega
  have hlen:rs.length=32:=hl
  have hii:0≤x / 576460752303423488∧x / 576460752303423488<32:=by omega
  have hij:¬ x / 576460752303423488<0:=by omega
  clear hcl hL2 hI hN
  subst hI'
  go_enter Tryz.func156,Tryz.ntmps156
  go_wp2_with fail
  go_region_held3 (fun w1=>w1.cell? ⟨b,0,none⟩=some (.int .i64 5)) (go_keep) ((go_at_call 160;refine (hcl' _).mono ?_;rintro e w' ⟨rfl,rfl⟩))
  all_goals go_wp2_with fail
  all_goals go_region
  all_goals go_wp2
  all_goals go_end0
  all_goals (try simp only [hk1,hk2])
  all_goals exact (fun q=>⟨⟨_,rfl⟩,RegAt.kept q.1 rfl rfl,⟨q.2.size,q.2.heap,q.2.tape,q.2.os,q.2.output⟩⟩) (fin (max Y (min L 59+1)) (by rw [← hNk]) w rfl rfl rfl rfl)
 ·have hI':I=(x / 288230376151711744).toNat:=by rw [← hI];simp [regI]
  have hNk:N=min L 58+1:=hL2
  have hcl':Hid (∀ w,Calls Tryz.prog 160 #[.int .u64 (IntKind.u64.wrap (x*64))] w fun e w'=>e=.returned (.int .i64 L)∧w'=w):=hcl
  have hk2:IntKind.u8.wrap (min L 58+1)=N:=by rw [IntKind.wrap_u8];omega
  have hk1:IntKind.u8.wrap (IntKind.i64.wrap (min L (IntKind.i64.wrap 58)+1))=N:=by rw [IntKind.wrap_u8,IntKind.wrap_i64,IntKind.wrap_i64];omega
  have hlen:rs.length=64:=hl
  have hii:0≤x / 288230376151711744∧x / 288230376151711744<64:=by omega
  have hij:¬ x / 288230376151711744<0:=by omega
  clear hcl hL2 hI hN
  subst hI'
  go_enter Tryz.func156,Tryz.ntmps156
  go_wp2_with fail
  go_region_held3 (fun w1=>w1.cell? ⟨b,0,none⟩=some (.int .i64 6)) (go_keep) ((go_at_call 160;refine (hcl' _).mono ?_;rintro e w' ⟨rfl,rfl⟩))
  all_goals go_wp2_with fail
  all_goals go_region
  all_goals go_wp2
  all_goals go_end0
  all_goals (try simp only [hk1,hk2])
  all_goals exact (fun q=>⟨⟨_,rfl⟩,RegAt.kept q.1 rfl rfl,⟨q.2.size,q.2.heap,q.2.tape,q.2.os,q.2.output⟩⟩) (fin (max Y (min L 58+1)) (by rw [← hNk]) w rfl rfl rfl rfl)
end
def BndAt (fr:Bool) (w:World) (ba:Option Addr) (bs:List Int):Prop:=bs=[]∨∃ bb cap,ba=some ⟨bb,0,none⟩∧Row fr w bb 3 .i64 bs cap
def histI (bs:List Int) (v:Int):Nat:=bs.countP (· < v)+if bs.contains v then 1 else 0
def addHist (bs:List Int) (hs:List Int) (v:Int):List Int:=hs.set (histI bs v) (wrap64 (hs.getD (histI bs v) 0+1))
theorem addHist_length {bs hs:List Int} {v:Int}:(addHist bs hs v).length=hs.length:=by simp [addHist]
theorem histI_lt {bs:List Int} (h:bs.Pairwise (· < ·)) (v:Int):histI bs v<bs.length+1:=by
 unfold histI
 split
 ·rename_i hm
  have hm:v∈bs:=by simpa using hm
  have:bs.countP (· < v)<bs.length:=by
   rw [← Nat.not_le]
   intro hle
   have:=List.countP_eq_length.1 (Nat.le_antisymm List.countP_le_length hle) v hm
   simp at this
  omega
 ·have:=List.countP_le_length (p:=fun x=>decide (x<v)) (l:=bs);omega
section
variable {fr:Bool} {w w':World} {b r cap:Nat} {ba:Option Addr} {nb cb:Nat} {hs bs:List Int}
theorem search167 (h:BndAt fr w ba bs) (hn:bs.length≤1000) (hs:bs.Pairwise (· < ·)) (c:Nat) (x:Int) :
  Calls Tryz.prog 167 #[.slice ba bs.length c,.int .i64 x] w fun e w'=>e=.returned (.tuple #[.int .i64 (bs.countP (· < x):Nat),.bool (bs.contains x)])∧∃ q,w'=w.drewN q:=by
 rcases h with rfl|⟨bb,cap,rfl,hr⟩
 ·refine (Tryz.slices_BinarySearch_int_empty ba c x w).mono ?_
  rintro e w' ⟨rfl,rfl⟩
  exact ⟨rfl,0,rfl⟩
 ·have:=Tryz.slices_BinarySearch_int bb 0 bs.length c bs x w (Nat.le_refl _) (by omega) (fun j hj=>by rw [Nat.zero_add];exact hr.cell hj) (by rw [List.take_length];exact hs.imp fun h=>by omega)
  rwa [List.take_length] at this
set_option maxRecDepth 100000 in
set_option maxHeartbeats 2000000 in
theorem histAdd (h:HistAt false w b r cap ba bs.length cb hs) (hB:BndAt fr w ba bs) (hn:bs.length≤1000) (hso:bs.Pairwise (· < ·)) (hl:hs.length=bs.length+1) (hbr:b≠r) (x v:Int) :
  Calls Tryz.prog 163 #[.pointer (some ⟨b,0,none⟩),.int .u64 x,.int .i64 v] w fun e w'=>(∃ v,e=.returned v)∧HistAt false w' b r cap ba bs.length cb (addHist bs hs v)∧Tch w.heap.size (fun y=>y=r) w w':=by
 have c0:=h.c0
 have c1:=h.c1
 have hi:=histI_lt hso v
 have hrow:=h.row.cell (i:=histI bs v) (by omega)
 have hfz:=h.row.frozen (histI bs v)
 have hsr:=search167 hB hn hso cb v
 have fin:Hid (∀ wx:World,wx.heap=w.heap→wx.tape=w.tape→wx.os=w.os→wx.output=w.output →
   HistAt false (wx.setCell ⟨r,histI bs v,none⟩ (.int .i64 (wrap64 (hs.getD (histI bs v) 0+1)))) b r cap ba bs.length cb (addHist bs hs v)∧Tch w.heap.size (fun y=>y=r) w (wx.setCell ⟨r,histI bs v,none⟩ (.int .i64 (wrap64 (hs.getD (histI bs v) 0+1))))):=by
  rintro wx e1 e2 e3 e4
  have e1':∀ b:Nat,wx.heap[b]?=w.heap[b]?:=fun b=>by rw [e1]
  refine ⟨⟨?_,?_⟩,Tch.set ⟨by rw [e1];omega,fun b _ _=>e1' b,e2,e3,e4⟩ (.inr (show (fun y=>y=r) r from rfl)) _⟩
  ·rw [addHist_length]
   exact h.hd.kept ((heap_ne _ _ hbr).trans (e1' b))
  ·exact (h.row.kept (w':=wx) (e1' r)).set (histI bs v) (wrap64 (hs.getD (histI bs v) 0+1))
 generalize hY:hs.getD (histI bs v) 0=Y at *
 have hlen:hs.length=bs.length+1:=hl
 have hu:histI bs v=bs.countP (· < v)+if bs.contains v then 1 else 0:=rfl
 generalize histI bs v=I at *
 generalize bs.countP (· < v)=N at *
 generalize bs.length=n at *
 cases hcn:bs.contains v with
 | true=>
  rw [hcn] at hu hsr
  have hI:I=N+1:=hu
  clear hu
  subst hI
  go_enter Tryz.func163,Tryz.ntmps163
  go_wp2_with (go_at_call 167;refine hsr.mono ?_;rintro e w1 ⟨rfl,q,rfl⟩)
  go_end0
  exact ⟨⟨_,rfl⟩,fin _ rfl rfl rfl rfl⟩
 | false=>
  rw [hcn] at hu hsr
  have hI:I=N:=hu
  clear hu
  subst hI
  go_enter Tryz.func163,Tryz.ntmps163
  go_wp2_with (go_at_call 167;refine hsr.mono ?_;rintro e w1 ⟨rfl,q,rfl⟩)
  go_end0
  exact ⟨⟨_,rfl⟩,fin _ rfl rfl rfl rfl⟩
end
theorem isNaN178 (x:Int) (w:World):Calls Tryz.prog 178 #[.int .u64 x] w fun e w'=>e=.returned (.bool false)∧w'=w:=by
 go_enter Tryz.func178,Tryz.ntmps178
 go_wp2
 go_ret
 exact ⟨by simp,rfl⟩
theorem isNaN181 (x:Int) (w:World):Calls Tryz.prog 181 #[.int .u64 x] w fun e w'=>e=.returned (.bool false)∧w'=w:=by
 go_enter Tryz.func181,Tryz.ntmps181
 go_wp2
 go_ret
 exact ⟨by simp,rfl⟩
theorem less177 (x y:Int) (w:World):Calls Tryz.prog 177 #[.int .u64 x,.int .u64 y] w fun e w'=>e=.returned (.bool (decide (x<y)))∧w'=w:=by
 go_enter Tryz.func177,Tryz.ntmps177
 go_wp2_with (go_at_call 181;refine (isNaN181 _ _).mono ?_;rintro e w' ⟨rfl,rfl⟩)
 go_ret
 exact ⟨rfl,rfl⟩
section
variable {fr:Bool} {w:World} {r cap:Nat} {ls:List Int}
set_option maxRecDepth 100000 in
set_option maxHeartbeats 4000000 in
theorem search_calls (h:Row fr w r 45 .u64 ls cap) (hn:ls.length≤1000) (hs:ls.Pairwise (·≤·)) (x:Int) (c:Nat) :
  Calls Tryz.prog 174 #[.slice (some ⟨r,0,none⟩) ls.length c,.int .u64 x] w fun e w'=>e=.returned (.tuple #[.int .i64 (ls.countP (· < x):Nat),.bool (decide (x∈ls))])∧w'=w:=by
 have S:Hid (∀ a b,a≤b→b<ls.length→ls.getD a 0≤ls.getD b 0):=Lib.sorted_at ls ls.length (Nat.le_refl _) (by rw [List.take_length];exact hs)
 have hce:Hid (∀ hi,hi≤ls.length→(∀ t,t<hi→ls.getD t 0<x)→(∀ t,hi≤t→t<ls.length→x≤ls.getD t 0)→ls.countP (· < x)=hi∧decide (x∈ls)=decide (hi<ls.length∧ls.getD hi 0=x)):=fun hi h1 h2 h3=>by
  have:=Lib.search_end ls ls.length hi x (Nat.le_refl _) h1 h2 h3 S.out
  rw [List.take_length] at this
  simpa using this
 have hc:Hid (∀ j,j<ls.length→w.cell? ⟨r,j,none⟩=some (.int .u64 (ls.getD j 0))):=fun j hj=>h.cell hj
 clear h hs
 generalize hn':ls.length=n at *
 go_enter Tryz.func174,Tryz.ntmps174
 go_wp2
 go_loop [7,8] (fun s7 s8=>∃ lo hi:Nat,s7=.int .i64 lo∧s8=.int .i64 hi∧lo≤hi∧hi≤n∧Hid ((∀ t,t<lo→ls.getD t 0<x)∧(∀ t,hi≤t→t<n→x≤ls.getD t 0))) (fun a b=>(RowKit.intOf b-RowKit.intOf a).toNat)
 case atStart=>exact ⟨0,n,rfl,rfl,Nat.zero_le _,Nat.le_refl _,fun t ht=>absurd ht (Nat.not_lt_zero _),fun t h1 h2=>by omega⟩
 case round=>
  obtain ⟨lo,hi,rfl,rfl,hlh,hin,I⟩:=hrel
  by_cases hlt:lo<hi
  ·have cm:=hc.out ((lo+hi) / 2) (by omega)
   generalize hy:ls.getD ((lo+hi) / 2) 0=y at cm
   have Y:Hid (ls.getD ((lo+hi) / 2) 0=y):=hy
   clear hy hc
   have hlt':(lo:Int)<hi:=by omega
   by_cases hyx:y<x
   ·go_wp2_with (first|(go_at_call 177;refine (less177 _ _ _).mono ?_;rintro e w' ⟨rfl,rfl⟩)|(go_at_call 178;refine (isNaN178 _ _).mono ?_;rintro e w' ⟨rfl,rfl⟩))
    refine ⟨⟨(lo+hi) / 2+1,hi,?_,rfl,by omega,hin,fun t ht=>?_,I.out.2⟩,?_⟩
    ·rw [show ((lo:Int)+(hi:Int)) / 2+1=(((lo+hi) / 2+1:Nat):Int) by omega]
    ·have:=S.out t ((lo+hi) / 2) (by omega) (by omega)
     rw [Y.out] at this
     omega
    ·simp [RowKit.intOf];omega
   ·go_wp2_with (first|(go_at_call 177;refine (less177 _ _ _).mono ?_;rintro e w' ⟨rfl,rfl⟩)|(go_at_call 178;refine (isNaN178 _ _).mono ?_;rintro e w' ⟨rfl,rfl⟩))
    refine ⟨⟨lo,(lo+hi) / 2,rfl,?_,by omega,by omega,I.out.1,fun t ht htn=>?_⟩,?_⟩
    ·rw [show ((lo:Int)+(hi:Int)) / 2=(((lo+hi) / 2:Nat):Int) by omega]
    ·have:=S.out ((lo+hi) / 2) t ht htn
     rw [Y.out] at this
     omega
    ·simp [RowKit.intOf];omega
  ·obtain rfl:hi=lo:=by omega
   have E:Hid (ls.countP (· < x)=hi∧decide (x∈ls)=decide (hi<n∧ls.getD hi 0=x)):=hce.out hi hin I.out.1 I.out.2
   clear hce
   have hll:¬ ((hi:Int)<hi):=by omega
   by_cases hn:hi<n
   ·have cl:=hc.out hi hn
    have hlt':(hi:Int)<n:=by omega
    clear hc
    generalize hy:ls.getD hi 0=y at cl
    have Y:Hid (ls.getD hi 0=y):=hy
    clear hy
    by_cases hyx:y=x
    ·go_wp2_with (first|(go_at_call 177;refine (less177 _ _ _).mono ?_;rintro e w' ⟨rfl,rfl⟩)|(go_at_call 178;refine (isNaN178 _ _).mono ?_;rintro e w' ⟨rfl,rfl⟩))
     go_ret2
     refine ⟨?_,rfl⟩
     rw [E.out.1,E.out.2,Y.out,decide_eq_true (show hi<n∧y=x from ⟨hn,hyx⟩)]
     first|rfl|simp [*]
    ·go_wp2_with (first|(go_at_call 177;refine (less177 _ _ _).mono ?_;rintro e w' ⟨rfl,rfl⟩)|(go_at_call 178;refine (isNaN178 _ _).mono ?_;rintro e w' ⟨rfl,rfl⟩))
     go_ret2
     refine ⟨?_,rfl⟩
     rw [E.out.1,E.out.2,Y.out,decide_eq_false (show ¬ (hi<n∧y=x) from fun h=>hyx h.2)]
     first|rfl|simp [*]
   ·have hge':¬ ((hi:Int)<n):=by omega
    clear hc
    go_wp2_with (first|(go_at_call 177;refine (less177 _ _ _).mono ?_;rintro e w' ⟨rfl,rfl⟩)|(go_at_call 178;refine (isNaN178 _ _).mono ?_;rintro e w' ⟨rfl,rfl⟩))
    go_ret2
    refine ⟨?_,rfl⟩
    rw [E.out.1,E.out.2,decide_eq_false (show ¬ (hi<n∧ls.getD hi 0=x) from fun h=>hn h.1)]
    first|rfl|simp [*]
end
end Go.Sim.Z
namespace Go.Sim.Z
open Go Go.Proofs Go.RowKit Go.Shelf
theorem Blk.setCells {b:Nat} {t:TypeId}:∀ {vs:List Value} {o:Nat} {w:World} {arr:Array Value},Blk false w b arr t→o+vs.length≤arr.size →
  ∃ arr',Blk false (w.setCells b o vs) b arr' t∧arr'.size=arr.size∧∀ i,arr'[i]?=if o≤i∧i<o+vs.length then vs[i-o]? else arr[i]?
 | [],o,w,arr,h,_=>⟨arr,h,rfl,fun i=>by rw [if_neg (by simp)]⟩
 | v::r,o,w,arr,h,hs=>by
  simp only [List.length_cons] at hs
  obtain ⟨arr',h1,h2,h3⟩:=Blk.setCells (vs:=r) (o:=o+1) (h.set o v) (by simp;omega)
  refine ⟨arr',h1,by simpa using h2,fun i=>?_⟩
  rw [h3]
  simp only [List.length_cons]
  by_cases e:i=o
  ·subst e
   rw [if_neg (by omega),if_pos (by omega),Array.getElem?_setIfInBounds_self_of_lt (by omega)]
   simp
  ·by_cases hi:o+1≤i∧i<o+1+r.length
   ·rw [if_pos hi,if_pos (by omega),show i-o=(i-(o+1))+1 by omega,List.getElem?_cons_succ]
   ·rw [if_neg hi,if_neg (by omega),Array.getElem?_setIfInBounds_ne (Ne.symm e)]
theorem Tch.setCells {N:Nat} {M:Nat→Prop} {b:Nat} (hb:N≤b∨M b):∀ {vs:List Value} {o:Nat} {w w1:World},Tch N M w w1→Tch N M w (w1.setCells b o vs)
 | [],_,_,_,h=>h
 | v::r,o,w,w1,h=>Tch.setCells (vs:=r) hb (h.set hb v)
theorem Plain.setc {arr arr':Array Value} {vs:List Value} {o:Nat} (h:Plain arr) (hv:∀ v∈vs,IsInt v) (hg:∀ i,arr'[i]?=if o≤i∧i<o+vs.length then vs[i-o]? else arr[i]?):Plain arr':=.of_get fun i v hi=>by
 rw [hg] at hi
 split at hi
 ·exact hv v (List.mem_of_getElem? hi)
 ·exact h.at hi
theorem ints_int {k:IntKind} {xs:List Int}:∀ v∈xs.map (Value.int k),IsInt v:=fun v hv=>by obtain ⟨x,_,rfl⟩:=List.mem_map.1 hv;exact ⟨_,_,rfl⟩
theorem int_int {k:IntKind} {x:Int}:∀ v∈[Value.int k x],IsInt v:=fun v hv=>by obtain rfl:=List.mem_singleton.1 hv;exact ⟨_,_,rfl⟩
def insL (i:Nat) (x:Int) (ls:List Int):List Int:=ls.take i++x::ls.drop i
theorem insL_length {i:Nat} {x:Int} {ls:List Int} (h:i≤ls.length):(insL i x ls).length=ls.length+1:=by simp [insL];omega
theorem insL_get {i:Nat} {x:Int} {ls:List Int} (h:i≤ls.length) (j:Nat):(insL i x ls)[j]?=if j<i then ls[j]? else if j=i then some x else ls[j-1]?:=by
 unfold insL
 by_cases h1:j<i
 ·rw [if_pos h1,List.getElem?_append_left (by simp;omega),List.getElem?_take,if_pos h1]
 ·rw [if_neg h1,List.getElem?_append_right (by simp;omega)]
  simp only [List.length_take,Nat.min_eq_left h]
  by_cases h2:j=i
  ·subst h2;simp
  ·rw [if_neg h2,show j-i=(j-1-i)+1 by omega,List.getElem?_cons_succ,List.getElem?_drop,show i+(j-1-i)=j-1 by omega]
theorem Row.of_get {w:World} {b cap:Nat} {t:TypeId} {k:IntKind} {xs:List Int} {arr:Array Value} (h:Blk false w b arr t) (hs:arr.size=cap) (hl:xs.length≤cap) (hg:∀ j,j<xs.length→arr[j]?=(xs[j]?).map (Value.int k)) (hp:Plain arr):Row false w b t k xs cap:=
 ⟨arr,h,hs,hl,fun j hj=>by rw [hg j hj,List.getD_eq_getElem?_getD,List.getElem?_eq_getElem hj];rfl,hp⟩
def InsPost (w:World) (r:Nat) (ls:List Int) (e:Ending) (w':World):Prop:=
 ∃ g c',e=.returned (.slice (some ⟨g,0,none⟩) ls.length c')∧Row false w' g 45 .u64 ls c'∧c'≤maxLen∧(g=r∨w.heap.size≤g)∧Tch w.heap.size (fun b=>b=r) w w'
section
variable {w:World} {r cap vb i:Nat} {ls:List Int} {x:Int}
set_option maxHeartbeats 4000000 in
set_option maxRecDepth 100000 in
theorem insert_shift (h:Row false w r 45 .u64 ls cap) (hc:cap≤maxLen) (hv:w.heap[vb]?=some (.cells #[.int .u64 x] 45)) (hvr:vb≠r) (hi:i<ls.length) (hroom:ls.length+1≤cap) (hn:ls.length≤1000) :
  Calls Tryz.prog 175 #[.slice (some ⟨r,0,none⟩) ls.length cap,.int .i64 i,.slice (some ⟨vb,0,none⟩) 1 1] w (InsPost w r (insL i x ls)):=by
 obtain ⟨cur,hb,hcs,_,hcur,hpc⟩:=h
 have hc63:cap≤9223372036854775807:=by unfold maxLen at hc;omega
 generalize hnl:ls.length=n at *
 have mixed:Tryz.prog.follows .mixedOrders=true:=by kernel_rfl
 have hz2:¬ ((i:Int)=(n:Int)):=by omega
 have hsz:(Tryz.prog.info? 45).map (·.size)=some 1:=by kernel_rfl
 have hvc:w.cell? ⟨vb,0,none⟩=some (.int .u64 x):=(cell_of hv 0).trans rfl
 have hcell:∀ j,j<n→w.cell? ⟨r,j,none⟩=some (.int .u64 (ls.getD j 0)):=fun j hj=>(hb.cell j).trans (hcur j hj)
 have hsp:∀ j,j<n+1→(w.cell? ⟨r,j,none⟩).isSome=true:=fun j hj=>by
  rw [hb.cell,Array.getElem?_eq_getElem (by omega)];rfl
 have hfz:∀ j,w.frozen? ⟨r,j,none⟩=false:=fun j=>hb.frozen _
 have hov:∀ lb cb,(callFunc 179 #[.slice (some ⟨vb,0,none⟩) 1 1,.slice (some ⟨r,i+1,none⟩) lb cb]).run Tryz.prog w=.ok (.value (.bool false)) w:=fun lb cb=>by
  have hsb:w.shape? r=some (45,cur.size):=by
   obtain ⟨z,hz,_⟩:=hb
   simp [World.shape?,hz]
  rw [run_callFunc_extern Tryz.func179 (by kernel_rfl) (by kernel_rfl) (by kernel_rfl) (e:=Extern.SlicesOverlaps.overlaps #[37,37] #[4]) (by kernel_rfl),
   Lib.run_overlaps_apart w 37 4 45 Tryz.underlying37 1 Tryz.sizeOf45 ⟨vb,0,none⟩ ⟨r,i+1,none⟩ 1 1 lb cb hvr 45 45 1 cur.size (by simp [World.shape?,hv]) hsb (by omega) (frozen_of hv 0) (frozen_of hv 1)]
  rfl
 have hdl:((ls.map (Value.int .u64)).drop i).length=n-i:=by simp [hnl]
 have hcp1:∀ ty dc sc,(Builtin.copy_ #[37,37] ty #[.slice (some ⟨r,i+1,none⟩) (n-i) dc,.slice (some ⟨r,i,none⟩) (n+1-i) sc]).run Tryz.prog w.drew=.ok (goInt ((ls.map (Value.int .u64)).drop i).length) (w.drew.setCells r (i+1) ((ls.map (Value.int .u64)).drop i)):=fun ty dc sc=>
  run_copy_cells w.drew _ _ ty 45 r (i+1) (n-i) dc ⟨r,i,none⟩ (n+1-i) sc ((ls.map (Value.int .u64)).drop i) Tryz.underlying37 hsz (by rw [hdl];simp only [Nat.min_def];split<;>omega)
   (fun j v hj=>by
    rw [List.getElem?_drop,List.getElem?_map,Option.map_eq_some_iff] at hj
    obtain ⟨y,hy,rfl⟩:=hj
    have hlt:=(List.getElem?_eq_some_iff.1 hy).1
    rw [Addr.add_lit]
    show w.cell? ⟨r,i+j,none⟩=_
    rw [hcell _ (by omega),List.getD_eq_getElem?_getD,hy];rfl)
   (fun j hj=>hsp _ (by have:=hdl;omega)) (fun j hj=>hfz _) (fun v hv=>by obtain ⟨y,_,rfl⟩:=List.mem_map.1 (List.mem_of_mem_drop hv);rfl)
 obtain ⟨W1,hW1⟩:∃ W1,W1=w.drew.setCells r (i+1) ((ls.map (Value.int .u64)).drop i):=⟨_,rfl⟩
 have hsp1:∀ k,k<n+1→(W1.cell? ⟨r,k,none⟩).isSome=true:=fun k hk=>by
  rw [hW1]
  exact isSome_setCells r ((ls.map (Value.int .u64)).drop i) (i+1) w.drew (fun j (hj:j<((ls.map (Value.int .u64)).drop i).length)=>hsp _ (by rw [hdl] at hj;omega)) _ (hsp k hk)
 have hcp2:∀ (W:World),(∀ x,W.cell? x=W1.cell? x)→(∀ x,W.frozen? x=W1.frozen? x)→∀ ty dc,(Builtin.copy_ #[37,37] ty #[.slice (some ⟨r,i,none⟩) (n+1-i) dc,.slice (some ⟨vb,0,none⟩) 1 1]).run Tryz.prog W=.ok (goInt [Value.int .u64 x].length) (W.setCells r i [.int .u64 x]):=fun W hWc hWf ty dc=>
  run_copy_cells W _ _ ty 45 r i (n+1-i) dc ⟨vb,0,none⟩ 1 1 [.int .u64 x] Tryz.underlying37 hsz (by simp only [Nat.min_def,List.length_singleton];split<;>omega)
   (fun j v hj=>by
    have:j=0∧v=.int .u64 x:=by
     cases j with
     | zero=>simp at hj;exact ⟨rfl,hj.symm⟩
     | succ j=>simp at hj
    obtain ⟨rfl,rfl⟩:=this
    rw [Addr.add_lit,hWc,hW1,World.cell?_setCells_out r _ _ _ _ (fun h _=>absurd h hvr)]
    exact hvc)
   (fun j hj=>by rw [hWc];exact hsp1 _ (by simp at hj;omega)) (fun j hj=>by rw [hWf,hW1,World.frozen?_setCells];exact hfz _) (by simp [Value.oneCell'])
 rw [← hW1] at hcp1
 have hw1:IntKind.i64.wrap ((i:Int)+1)=(i:Int)+1:=by rw [IntKind.wrap_i64];omega
 have hb1:(0:Int)≤(i:Int)+1:=by omega
 have hin:i≤n:=by omega
 have htn:((i:Int)+1).toNat=i+1:=by omega
 have hb2:¬ (cap=i+1):=by omega
 have hb3:(i:Int)≤(n:Int)+1:=by omega
 have hb4:¬ (cap=i):=by omega
 have hfin:InsPost w r (insL i x ls) (.returned (.slice (some ⟨r,0,none⟩) (n+1) cap)) (W1.setCells r i [.int .u64 x]):=by
  have hbd:Blk false w.drew r cur 45:=hb.kept rfl
  obtain ⟨a1,b1,s1,g1⟩:=hbd.setCells (vs:=(ls.map (Value.int .u64)).drop i) (o:=i+1) (by rw [hdl];omega)
  rw [← hW1] at b1
  obtain ⟨a2,b2,s2,g2⟩:=b1.setCells (vs:=[.int .u64 x]) (o:=i) (by simp;omega)
  have hil:(insL i x ls).length=n+1:=by rw [insL_length (by omega),hnl]
  refine ⟨r,cap,by rw [hil],Row.of_get b2 (by omega) (by omega) (fun j hj=>?_) (Plain.setc (Plain.setc hpc (fun v hv=>ints_int v (List.mem_of_mem_drop hv)) g1) int_int g2),hc,.inl rfl,?_⟩
  ·rw [insL_get (by omega),g2,g1,hdl]
   rw [hil] at hj
   simp only [List.length_singleton]
   by_cases h1:j<i
   ·rw [if_neg (by omega),if_neg (by omega),if_pos h1,hcur j (by omega),List.getD_eq_getElem?_getD,List.getElem?_eq_getElem (by omega)];rfl
   ·by_cases h2:j=i
    ·subst h2;simp
    ·rw [if_neg (by omega),if_pos (by omega),if_neg h1,if_neg h2,List.getElem?_drop,List.getElem?_map,show i+(j-(i+1))=j-1 by omega]
  ·rw [hW1]
   exact Tch.setCells (M:=fun b=>b=r) (.inr rfl) (Tch.setCells (M:=fun b=>b=r) (.inr rfl) (Tch.refl.drew))
 clear hcell hsp hfz hcur hb hsp1 hvc hv hW1
 go_enter Tryz.func175,Tryz.ntmps175
 go_wp2_with (simp only [hov])
 go_region_law_o (refine step_copy_runI rfl _ _ 37 37 rfl _ _ (by simp [Act.eval,Act.put]) (by simp [Act.eval,Act.put]) (hcp1 _ _ _) ?_)
 go_wp2_with (at_builtin;refine wpList_copy_runI _ rfl _ _ 37 37 rfl _ _ rfl rfl (hcp2 _ (fun _=>rfl) (fun _=>rfl) _ _) ?_)
 go_ret
 exact hfin
theorem cells1 {w:World} {vb:Nat} {x:Int} {t:TypeId} (hv:w.heap[vb]?=some (.cells #[.int .u64 x] t)):∀ j u,([.int .u64 x]:List Value)[j]?=some u→w.cell? ((⟨vb,0,none⟩:Addr).add j)=some u:=by
 intro j u hj
 cases j with
 | zero=>
  simp at hj
  subst hj
  rw [Addr.add_lit]
  exact (cell_of hv 0).trans rfl
 | succ j=>simp at hj
theorem insL_end (x:Int) (ls:List Int):insL ls.length x ls=ls++[x]:=by simp [insL]
theorem getA {α:Type} (a b:List α) (j:Nat):(a++b)[j]?=if j<a.length then a[j]? else b[j-a.length]?:=List.getElem?_append
set_option maxHeartbeats 4000000 in
set_option maxRecDepth 100000 in
theorem insert_nil (hv:w.heap[vb]?=some (.cells #[.int .u64 x] 45)) :
  Calls Tryz.prog 175 #[.slice none 0 0,.int .i64 0,.slice (some ⟨vb,0,none⟩) 1 1] w (InsPost w r [x]):=by
 obtain ⟨i0,hi,hz0,hz1,hz2⟩:=info_parts info45
 have hap:(Builtin.append_ #[37,37] 37 #[.slice none 0 0,.slice (some ⟨vb,0,none⟩) 1 1]).run Tryz.prog w=_:=
  run_append_nil (w:=w) 37 37 45 i0 _ Tryz.underlying37 hi hz0 ⟨vb,0,none⟩ 1 1 [.int .u64 x] (by rw [hz1];rfl) (cells1 hv) (by omega) (by omega) (by rw [hz2];omega)
 have hge:=grownCap_ge w 1 0 45
 have hle:=grownCap_le_maxLen w 1 0 45 (by decide)
 generalize grownCap w 1 0 45=G at *
 have hfin:InsPost w r [x] (.returned (.slice (some ⟨w.heap.size,0,none⟩) 1 G)) (w.drew.alloc (.cells ([Value.int .u64 x].toArray++Builtin.zeroCells (Value.int .u64 0).cells (G-1)) 45)):=by
  refine ⟨w.heap.size,G,rfl,Row.of_get (xs:=[x]) ⟨(0,0),heap_new _,fun _=>rfl⟩ (by simp [Builtin.zeroCells,Value.cells];omega) (by simpa using hge) (fun j hj=>?_) ((Plain.list int_int).append (Plain.madeCells (Plain.ai (k:=.u64) (xs:=[0])) _)),hle,.inr (Nat.le_refl _),Tch.refl.drew.alloc (Nat.le_refl _) _⟩
  simp at hj
  subst hj
  rw [Array.getElem?_append_left (by simp)]
  rfl
 clear hv
 generalize hw':w.drew.alloc (.cells ([Value.int .u64 x].toArray++Builtin.zeroCells (Value.int .u64 0).cells (G-1)) 45)=w' at *
 go_enter Tryz.func175,Tryz.ntmps175
 go_wp2_with (at_builtin;refine Lib.wpList_append_run _ rfl _ _ _ _ rfl _ _ rfl rfl _ _ hap ?_)
 go_ret
 exact hfin
end
end Go.Sim.Z
