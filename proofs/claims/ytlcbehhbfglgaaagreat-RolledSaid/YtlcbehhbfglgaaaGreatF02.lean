/- PROVED HERE: laws. Conditions: none. -/
import Derived.Deep.RegionHeld3
import Derived.Shelf.Spec.SlicesInsertGrow
import Derived.Test.YtlcbehhbfglgaaaGreatF01
set_option linter.all false
set_option maxHeartbeats 12000000
set_option maxRecDepth 100000
namespace Go.Sim.Z
open Go Go.Proofs Go.RowKit
def J1k (bits x:Int):Nat:=(x / 2 ^ (64-bits).toNat).toNat
def J5d (bits x:Int):Int:=min (64-(Lib.bitLen (x*2 ^ bits.toNat % 18446744073709551616).toNat:Int)) (64-bits)+1
def J2i (bits:Int) (rs:List Int) (x:Int):List Int:=rs.set (J1k bits x) (max (rs.getD (J1k bits x) 0) (J5d bits x))
theorem bitLenAux_le:∀ f x,Lib.bitLenAux f x<=f
 | 0,x=>by simp [Lib.bitLenAux]
 | f+1,x=>by have:=bitLenAux_le f (x / 2);unfold Lib.bitLenAux;split<;>omega
theorem bitLen_le (x:Nat):Lib.bitLen x<=64:=bitLenAux_le 64 x
theorem Jkv {bits x:Int} (hb:4<=bits/\bits<=6):1<=J5d bits x/\J5d bits x<=61:=by have:=bitLen_le (x*2 ^ bits.toNat % 18446744073709551616).toNat;unfold J5d;omega
theorem Jf1 {bits x:Int} (hb:4<=bits/\bits<=6) (hx:0<=x/\x<=18446744073709551615):J1k bits x<2 ^ bits.toNat:=by
 have:bits=4\/bits=5\/bits=6:=by omega
 rcases this with rfl|rfl|rfl<;>simp [J1k]<;>omega
theorem J95 {bits x:Int} {rs:List Int}:(J2i bits rs x).length=rs.length:=by simp [J2i]
section
variable {fr:Bool} {w w':World} {b r cap:Nat} {bits:Int} {rs:List Int}
theorem Jwo (h:J0i false w b r cap bits rs) (hb:4<=bits/\bits<=6) (hl:rs.length=2 ^ bits.toNat) (hr:∀ x∈rs,0<=x/\x<=255) (hbr:b≠r) {x:Int} (hx:0<=x/\x<=18446744073709551615) (v:Int) :
  Calls Tryz.prog 156 #[.pointer (some ⟨b,0,none⟩),.int .u64 x,.int .i64 v] w fun e w'=>(∃ v,e=.returned v)/\J0i false w' b r cap bits (J2i bits rs x)/\Tch w.heap.size (fun y=>y=r) w w':=by
 have hi:=Jf1 hb hx;have hn:=Jkv (x:=x) hb;have c0:=h.c0;have c1:=h.c1;have hrow:=h.row.cell (i:=J1k bits x) (by omega);have hfz:=h.row.frozen (J1k bits x);have hy:=hr (rs.getD (J1k bits x) 0) (by rw [Ja7,Jb1 (by omega)];exact List.getElem_mem _);have fin:∀ m:Int,m=max (rs.getD (J1k bits x) 0) (J5d bits x)->∀ wx:World,wx.heap=w.heap->wx.tape=w.tape->wx.os=w.os->wx.output=w.output ->
   J0i false (wx.setCell ⟨r,J1k bits x,none⟩ (.int .u8 m)) b r cap bits (J2i bits rs x)/\Tch w.heap.size (fun y=>y=r) w (wx.setCell ⟨r,J1k bits x,none⟩ (.int .u8 m)):=by
  rintro m rfl wx e1 e2 e3 e4;have e1':∀ b:Nat,wx.heap[b]?=w.heap[b]?:=fun b=>by rw [e1]
  refine ⟨⟨?_,?_⟩,Tch.set ⟨by rw [e1];omega,fun b _ _=>e1' b,e2,e3,e4⟩ (.inr (show (fun y=>y=r) r from rfl)) _⟩
  ·rw [J95];exact h.hd.kept ((Jk _ _ hbr).trans (e1' b))
  ·have:=(h.row.kept (w':=wx) (e1' r)).set (J1k bits x) (max (rs.getD (J1k bits x) 0) (J5d bits x));exact this
 have hbit:bits=4\/bits=5\/bits=6:=by omega
 obtain ⟨L,hL1,hL2,hcl⟩:∃ L:Int,(0<=L/\L<=64)/\J5d bits x=min L (64-bits)+1/\∀ w,Calls Tryz.prog 160 #[.int .u64 (IntKind.u64.wrap (x*2 ^ bits.toNat))] w fun e w'=>e=.returned (.int .i64 L)/\w'=w:=by
  refine ⟨64-(Lib.bitLen (x*2 ^ bits.toNat % 18446744073709551616).toNat:Int),?_,rfl,fun w=>?_⟩
  ·have:=bitLen_le (x*2 ^ bits.toNat % 18446744073709551616).toNat;omega
  ·have e:IntKind.u64.wrap (x*2 ^ bits.toNat)=x*2 ^ bits.toNat % 18446744073709551616:=by rw [IntKind.wrap_u64]
   rw [e];exact Tryz.bits_LeadingZeros64 _ _ (by omega) (by omega)
 generalize hN:J5d bits x=N at *;generalize hI:J1k bits x=I at *;generalize hY:rs.getD I 0=Y at *;rcases hbit with rfl|rfl|rfl
 ·have hI':I=(x / 1152921504606846976).toNat:=by rw [<- hI];simp [J1k]
  have hNk:N=min L 60+1:=hL2;have hcl':Hid (∀ w,Calls Tryz.prog 160 #[.int .u64 (IntKind.u64.wrap (x*16))] w fun e w'=>e=.returned (.int .i64 L)/\w'=w):=hcl;have hk2:IntKind.u8.wrap (min L 60+1)=N:=by rw [IntKind.wrap_u8];omega
  have hk1:IntKind.u8.wrap (IntKind.i64.wrap (min L (IntKind.i64.wrap 60)+1))=N:=by rw [IntKind.wrap_u8,IntKind.wrap_i64,IntKind.wrap_i64];omega
  have hlen:rs.length=16:=hl;have hii:0<=x / 1152921504606846976/\x / 1152921504606846976<16:=by omega
  have hij:¬ x / 1152921504606846976<0:=by omega
  clear hcl hL2 hI hN;subst hI'
  go_enter Tryz.func156,Tryz.ntmps156
  go_wp2_with fail
  go_region_held3 (fun w1=>w1.cell? ⟨b,0,none⟩=some (.int .i64 4)) (go_keep) ((go_at_call 160;refine (hcl' _).mono ?_;rintro e w' ⟨rfl,rfl⟩))
  all_goals go_wp2_with fail
  all_goals go_region
  all_goals go_wp2
  all_goals go_end0
  all_goals (try simp only [hk1,hk2])
  all_goals exact (fun q=>⟨⟨_,rfl⟩,J0i.kept q.1 rfl rfl,⟨q.2.size,q.2.heap,q.2.tape,q.2.os,q.2.output⟩⟩) (fin (max Y (min L 60+1)) (by rw [<- hNk]) w rfl rfl rfl rfl)
 ·have hI':I=(x / 576460752303423488).toNat:=by rw [<- hI];simp [J1k]
  have hNk:N=min L 59+1:=hL2;have hcl':Hid (∀ w,Calls Tryz.prog 160 #[.int .u64 (IntKind.u64.wrap (x*32))] w fun e w'=>e=.returned (.int .i64 L)/\w'=w):=hcl;have hk2:IntKind.u8.wrap (min L 59+1)=N:=by rw [IntKind.wrap_u8];omega
  have hk1:IntKind.u8.wrap (IntKind.i64.wrap (min L (IntKind.i64.wrap 59)+1))=N:=by rw [IntKind.wrap_u8,IntKind.wrap_i64,IntKind.wrap_i64];omega
  have hlen:rs.length=32:=hl;have hii:0<=x / 576460752303423488/\x / 576460752303423488<32:=by omega
  have hij:¬ x / 576460752303423488<0:=by omega
  clear hcl hL2 hI hN;subst hI'
  go_enter Tryz.func156,Tryz.ntmps156
  go_wp2_with fail
  go_region_held3 (fun w1=>w1.cell? ⟨b,0,none⟩=some (.int .i64 5)) (go_keep) ((go_at_call 160;refine (hcl' _).mono ?_;rintro e w' ⟨rfl,rfl⟩))
  all_goals go_wp2_with fail
  all_goals go_region
  all_goals go_wp2
  all_goals go_end0
  all_goals (try simp only [hk1,hk2])
  all_goals exact (fun q=>⟨⟨_,rfl⟩,J0i.kept q.1 rfl rfl,⟨q.2.size,q.2.heap,q.2.tape,q.2.os,q.2.output⟩⟩) (fin (max Y (min L 59+1)) (by rw [<- hNk]) w rfl rfl rfl rfl)
 ·have hI':I=(x / 288230376151711744).toNat:=by rw [<- hI];simp [J1k]
  have hNk:N=min L 58+1:=hL2;have hcl':Hid (∀ w,Calls Tryz.prog 160 #[.int .u64 (IntKind.u64.wrap (x*64))] w fun e w'=>e=.returned (.int .i64 L)/\w'=w):=hcl;have hk2:IntKind.u8.wrap (min L 58+1)=N:=by rw [IntKind.wrap_u8];omega
  have hk1:IntKind.u8.wrap (IntKind.i64.wrap (min L (IntKind.i64.wrap 58)+1))=N:=by rw [IntKind.wrap_u8,IntKind.wrap_i64,IntKind.wrap_i64];omega
  have hlen:rs.length=64:=hl;have hii:0<=x / 288230376151711744/\x / 288230376151711744<64:=by omega
  have hij:¬ x / 288230376151711744<0:=by omega
  clear hcl hL2 hI hN;subst hI'
  go_enter Tryz.func156,Tryz.ntmps156
  go_wp2_with fail
  go_region_held3 (fun w1=>w1.cell? ⟨b,0,none⟩=some (.int .i64 6)) (go_keep) ((go_at_call 160;refine (hcl' _).mono ?_;rintro e w' ⟨rfl,rfl⟩))
  all_goals go_wp2_with fail
  all_goals go_region
  all_goals go_wp2
  all_goals go_end0
  all_goals (try simp only [hk1,hk2])
  all_goals exact (fun q=>⟨⟨_,rfl⟩,J0i.kept q.1 rfl rfl,⟨q.2.size,q.2.heap,q.2.tape,q.2.os,q.2.output⟩⟩) (fin (max Y (min L 58+1)) (by rw [<- hNk]) w rfl rfl rfl rfl)
end
def J4g (fr:Bool) (w:World) (ba:Option Addr) (bs:List Int):Prop:=bs=[]\/∃ bb cap,ba=some ⟨bb,0,none⟩/\Row fr w bb 3 .i64 bs cap
def J1x (bs:List Int) (v:Int):Nat:=bs.countP (· < v)+if bs.contains v then 1 else 0
def J3s (bs:List Int) (hs:List Int) (v:Int):List Int:=hs.set (J1x bs v) (wrap64 (hs.getD (J1x bs v) 0+1))
theorem J7u {bs hs:List Int} {v:Int}:(J3s bs hs v).length=hs.length:=by simp [J3s]
theorem Jhs {bs:List Int} (h:bs.Pairwise (· < ·)) (v:Int):J1x bs v<bs.length+1:=by
 unfold J1x;split
 ·rename_i hm;have hm:v∈bs:=by simpa using hm
  have:bs.countP (· < v)<bs.length:=by rw [<- Nat.not_le];intro hle;have:=List.countP_eq_length.1 (Nat.le_antisymm List.countP_le_length hle) v hm;simp at this
  omega
 ·have:=List.countP_le_length (p:=fun x=>decide (x<v)) (l:=bs);omega
section
variable {fr:Bool} {w w':World} {b r cap:Nat} {ba:Option Addr} {nb cb:Nat} {hs bs:List Int}
theorem Jof (h:J4g fr w ba bs) (hn:bs.length<=1000) (hs:bs.Pairwise (· < ·)) (c:Nat) (x:Int) :
  Calls Tryz.prog 167 #[.slice ba bs.length c,.int .i64 x] w fun e w'=>e=.returned (.tuple #[.int .i64 (bs.countP (· < x):Nat),.bool (bs.contains x)])/\∃ q,w'=w.drewN q:=by
 rcases h with rfl|⟨bb,cap,rfl,hr⟩
 ·refine (Tryz.slices_BinarySearch_int_empty ba c x w).mono ?_;rintro e w' ⟨rfl,rfl⟩;exact ⟨rfl,0,rfl⟩
 ·have:=Tryz.slices_BinarySearch_int bb 0 bs.length c bs x w (Ja2 _) (by omega) (fun j hj=>by rw [Nat.zero_add];exact hr.cell hj) (by rw [List.take_length];exact hs.imp fun h=>by omega)
  rwa [List.take_length] at this
theorem Jv3 (h:J0f false w b r cap ba bs.length cb hs) (hB:J4g fr w ba bs) (hn:bs.length<=1000) (hso:bs.Pairwise (· < ·)) (hl:hs.length=bs.length+1) (hbr:b≠r) (x v:Int) :
  Calls Tryz.prog 163 #[.pointer (some ⟨b,0,none⟩),.int .u64 x,.int .i64 v] w fun e w'=>(∃ v,e=.returned v)/\J0f false w' b r cap ba bs.length cb (J3s bs hs v)/\Tch w.heap.size (fun y=>y=r) w w':=by
 have c0:=h.c0;have c1:=h.c1;have hi:=Jhs hso v;have hrow:=h.row.cell (i:=J1x bs v) (by omega);have hfz:=h.row.frozen (J1x bs v);have hsr:=Jof hB hn hso cb v;have fin:Hid (∀ wx:World,wx.heap=w.heap->wx.tape=w.tape->wx.os=w.os->wx.output=w.output ->
   J0f false (wx.setCell ⟨r,J1x bs v,none⟩ (.int .i64 (wrap64 (hs.getD (J1x bs v) 0+1)))) b r cap ba bs.length cb (J3s bs hs v)/\Tch w.heap.size (fun y=>y=r) w (wx.setCell ⟨r,J1x bs v,none⟩ (.int .i64 (wrap64 (hs.getD (J1x bs v) 0+1))))):=by
  rintro wx e1 e2 e3 e4;have e1':∀ b:Nat,wx.heap[b]?=w.heap[b]?:=fun b=>by rw [e1]
  refine ⟨⟨?_,?_⟩,Tch.set ⟨by rw [e1];omega,fun b _ _=>e1' b,e2,e3,e4⟩ (.inr (show (fun y=>y=r) r from rfl)) _⟩
  ·rw [J7u];exact h.hd.kept ((Jk _ _ hbr).trans (e1' b))
  ·exact (h.row.kept (w':=wx) (e1' r)).set (J1x bs v) (wrap64 (hs.getD (J1x bs v) 0+1))
 generalize hY:hs.getD (J1x bs v) 0=Y at *;have hlen:hs.length=bs.length+1:=hl;have hu:J1x bs v=bs.countP (· < v)+if bs.contains v then 1 else 0:=rfl
 generalize J1x bs v=I at *;generalize bs.countP (· < v)=N at *;generalize bs.length=n at *;cases hcn:bs.contains v with
 | true=>
  rw [hcn] at hu hsr;have hI:I=N+1:=hu;clear hu;subst hI
  go_enter Tryz.func163,Tryz.ntmps163
  go_wp2_with (go_at_call 167;refine hsr.mono ?_;rintro e w1 ⟨rfl,q,rfl⟩)
  go_end0;exact ⟨⟨_,rfl⟩,fin _ rfl rfl rfl rfl⟩
 | false=>
  rw [hcn] at hu hsr;have hI:I=N:=hu;clear hu;subst hI
  go_enter Tryz.func163,Tryz.ntmps163
  go_wp2_with (go_at_call 167;refine hsr.mono ?_;rintro e w1 ⟨rfl,q,rfl⟩)
  go_end0;exact ⟨⟨_,rfl⟩,fin _ rfl rfl rfl rfl⟩
end
theorem J6w (x:Int) (w:World):Calls Tryz.prog 178 #[.int .u64 x] w fun e w'=>e=.returned (.bool false)/\w'=w:=by
 go_enter Tryz.func178,Tryz.ntmps178
 go_wp2;go_ret;exact ⟨by simp,rfl⟩
theorem Jr5 (x:Int) (w:World):Calls Tryz.prog 181 #[.int .u64 x] w fun e w'=>e=.returned (.bool false)/\w'=w:=by
 go_enter Tryz.func181,Tryz.ntmps181
 go_wp2;go_ret;exact ⟨by simp,rfl⟩
theorem J7v (x y:Int) (w:World):Calls Tryz.prog 177 #[.int .u64 x,.int .u64 y] w fun e w'=>e=.returned (.bool (decide (x<y)))/\w'=w:=by
 go_enter Tryz.func177,Tryz.ntmps177
 go_wp2_with (go_at_call 181;refine (Jr5 _ _).mono ?_;rintro e w' ⟨rfl,rfl⟩)
 go_ret;exact ⟨rfl,rfl⟩
section
variable {fr:Bool} {w:World} {r cap:Nat} {ls:List Int}
theorem Jht (h:Row fr w r 45 .u64 ls cap) (hn:ls.length<=1000) (hs:ls.Pairwise (·<=·)) (x:Int) (c:Nat) :
  Calls Tryz.prog 174 #[.slice (some ⟨r,0,none⟩) ls.length c,.int .u64 x] w fun e w'=>e=.returned (.tuple #[.int .i64 (ls.countP (· < x):Nat),.bool (decide (x∈ls))])/\w'=w:=by
 have S:Hid (∀ a b,a<=b->b<ls.length->ls.getD a 0<=ls.getD b 0):=Lib.sorted_at ls ls.length (Ja2 _) (by rw [List.take_length];exact hs);have hce:Hid (∀ hi,hi<=ls.length->(∀ t,t<hi->ls.getD t 0<x)->(∀ t,hi<=t->t<ls.length->x<=ls.getD t 0)->ls.countP (· < x)=hi/\decide (x∈ls)=decide (hi<ls.length/\ls.getD hi 0=x)):=fun hi h1 h2 h3=>by have:=Lib.search_end ls ls.length hi x (Ja2 _) h1 h2 h3 S.out;rw [List.take_length] at this;simpa using this
 have hc:Hid (∀ j,j<ls.length->w.cell? ⟨r,j,none⟩=some (.int .u64 (ls.getD j 0))):=fun j hj=>h.cell hj;clear h hs;generalize hn':ls.length=n at *
 go_enter Tryz.func174,Tryz.ntmps174
 go_wp2
 go_loop [7,8] (fun s7 s8=>∃ lo hi:Nat,s7=.int .i64 lo/\s8=.int .i64 hi/\lo<=hi/\hi<=n/\Hid ((∀ t,t<lo->ls.getD t 0<x)/\(∀ t,hi<=t->t<n->x<=ls.getD t 0))) (fun a b=>(RowKit.intOf b-RowKit.intOf a).toNat)
 case atStart=>exact ⟨0,n,rfl,rfl,Nat.zero_le _,Ja2 _,fun t ht=>absurd ht (Nat.not_lt_zero _),fun t h1 h2=>by omega⟩
 case round=>
  obtain ⟨lo,hi,rfl,rfl,hlh,hin,I⟩:=hrel;by_cases hlt:lo<hi
  ·have cm:=hc.out ((lo+hi) / 2) (by omega);generalize hy:ls.getD ((lo+hi) / 2) 0=y at cm;have Y:Hid (ls.getD ((lo+hi) / 2) 0=y):=hy;clear hy hc;have hlt':(lo:Int)<hi:=by omega
   by_cases hyx:y<x
   ·go_wp2_with (first|(go_at_call 177;refine (J7v _ _ _).mono ?_;rintro e w' ⟨rfl,rfl⟩)|(go_at_call 178;refine (J6w _ _).mono ?_;rintro e w' ⟨rfl,rfl⟩))
    refine ⟨⟨(lo+hi) / 2+1,hi,?_,rfl,by omega,hin,fun t ht=>?_,I.out.2⟩,?_⟩
    ·rw [show ((lo:Int)+(hi:Int)) / 2+1=(((lo+hi) / 2+1:Nat):Int) by omega]
    ·have:=S.out t ((lo+hi) / 2) (by omega) (by omega);rw [Y.out] at this;omega
    ·simp [RowKit.intOf];omega
   ·go_wp2_with (first|(go_at_call 177;refine (J7v _ _ _).mono ?_;rintro e w' ⟨rfl,rfl⟩)|(go_at_call 178;refine (J6w _ _).mono ?_;rintro e w' ⟨rfl,rfl⟩))
    refine ⟨⟨lo,(lo+hi) / 2,rfl,?_,by omega,by omega,I.out.1,fun t ht htn=>?_⟩,?_⟩
    ·rw [show ((lo:Int)+(hi:Int)) / 2=(((lo+hi) / 2:Nat):Int) by omega]
    ·have:=S.out ((lo+hi) / 2) t ht htn;rw [Y.out] at this;omega
    ·simp [RowKit.intOf];omega
  ·obtain rfl:hi=lo:=by omega
   have E:Hid (ls.countP (· < x)=hi/\decide (x∈ls)=decide (hi<n/\ls.getD hi 0=x)):=hce.out hi hin I.out.1 I.out.2;clear hce;have hll:¬ ((hi:Int)<hi):=by omega
   by_cases hn:hi<n
   ·have cl:=hc.out hi hn;have hlt':(hi:Int)<n:=by omega
    clear hc;generalize hy:ls.getD hi 0=y at cl;have Y:Hid (ls.getD hi 0=y):=hy;clear hy;by_cases hyx:y=x
    ·go_wp2_with (first|(go_at_call 177;refine (J7v _ _ _).mono ?_;rintro e w' ⟨rfl,rfl⟩)|(go_at_call 178;refine (J6w _ _).mono ?_;rintro e w' ⟨rfl,rfl⟩))
     go_ret2
     refine ⟨?_,rfl⟩;rw [E.out.1,E.out.2,Y.out,decide_eq_true (show hi<n/\y=x from ⟨hn,hyx⟩)]
     first|rfl|simp [*]
    ·go_wp2_with (first|(go_at_call 177;refine (J7v _ _ _).mono ?_;rintro e w' ⟨rfl,rfl⟩)|(go_at_call 178;refine (J6w _ _).mono ?_;rintro e w' ⟨rfl,rfl⟩))
     go_ret2
     refine ⟨?_,rfl⟩;rw [E.out.1,E.out.2,Y.out,decide_eq_false (show ¬ (hi<n/\y=x) from fun h=>hyx h.2)]
     first|rfl|simp [*]
   ·have hge':¬ ((hi:Int)<n):=by omega
    clear hc
    go_wp2_with (first|(go_at_call 177;refine (J7v _ _ _).mono ?_;rintro e w' ⟨rfl,rfl⟩)|(go_at_call 178;refine (J6w _ _).mono ?_;rintro e w' ⟨rfl,rfl⟩))
    go_ret2
    refine ⟨?_,rfl⟩;rw [E.out.1,E.out.2,decide_eq_false (show ¬ (hi<n/\ls.getD hi 0=x) from fun h=>hn h.1)]
    first|rfl|simp [*]
end
end Go.Sim.Z
namespace Go.Sim.Z
open Go Go.Proofs Go.RowKit Go.Shelf
theorem Blk.setCells {b:Nat} {t:TypeId}:∀ {vs:List Value} {o:Nat} {w:World} {arr:Array Value},Blk false w b arr t->o+vs.length<=arr.size ->
  ∃ arr',Blk false (w.setCells b o vs) b arr' t/\arr'.size=arr.size/\∀ i,arr'[i]?=if o<=i/\i<o+vs.length then vs[i-o]? else arr[i]?
 | [],o,w,arr,h,_=>⟨arr,h,rfl,fun i=>by rw [if_neg (by simp)]⟩
 | v::r,o,w,arr,h,hs=>by
  simp only [Jd2] at hs;obtain ⟨arr',h1,h2,h3⟩:=Blk.setCells (vs:=r) (o:=o+1) (h.set o v) (by simp;omega);refine ⟨arr',h1,by simpa using h2,fun i=>?_⟩;rw [h3];simp only [Jd2];by_cases e:i=o
  ·subst e;rw [if_neg (by omega),if_pos (by omega),Ja9 (by omega)];simp
  ·by_cases hi:o+1<=i/\i<o+1+r.length
   ·rw [if_pos hi,if_pos (by omega),show i-o=(i-(o+1))+1 by omega,List.getElem?_cons_succ]
   ·rw [if_neg hi,if_neg (by omega),Ja1 (Ne.symm e)]
theorem Tch.setCells {N:Nat} {M:Nat->Prop} {b:Nat} (hb:N<=b\/M b):∀ {vs:List Value} {o:Nat} {w w1:World},Tch N M w w1->Tch N M w (w1.setCells b o vs)
 | [],_,_,_,h=>h
 | v::r,o,w,w1,h=>Tch.setCells (vs:=r) hb (h.set hb v)
theorem Plain.Jln {arr arr':Array Value} {vs:List Value} {o:Nat} (h:Plain arr) (hv:∀ v∈vs,IsInt v) (hg:∀ i,arr'[i]?=if o<=i/\i<o+vs.length then vs[i-o]? else arr[i]?):Plain arr':=.J4v fun i v hi=>by
 rw [hg] at hi;split at hi
 ·exact hv v (Jd0 hi)
 ·exact h.at hi
theorem J8f {k:IntKind} {xs:List Int}:∀ v∈xs.map (Value.int k),IsInt v:=fun v hv=>by obtain ⟨x,_,rfl⟩:=Jb3.1 hv;exact ⟨_,_,rfl⟩
theorem J7w {k:IntKind} {x:Int}:∀ v∈[Value.int k x],IsInt v:=fun v hv=>by obtain rfl:=List.mem_singleton.1 hv;exact ⟨_,_,rfl⟩
def insL (i:Nat) (x:Int) (ls:List Int):List Int:=ls.take i++x::ls.drop i
theorem J7k {i:Nat} {x:Int} {ls:List Int} (h:i<=ls.length):(insL i x ls).length=ls.length+1:=by simp [insL];omega
theorem Jhu {i:Nat} {x:Int} {ls:List Int} (h:i<=ls.length) (j:Nat):(insL i x ls)[j]?=if j<i then ls[j]? else if j=i then some x else ls[j-1]?:=by
 unfold insL;by_cases h1:j<i
 ·rw [if_pos h1,List.getElem?_append_left (by simp;omega),List.getElem?_take,if_pos h1]
 ·rw [if_neg h1,List.getElem?_append_right (by simp;omega)];simp only [List.length_take,Nat.min_eq_left h];by_cases h2:j=i
  ·subst h2;simp
  ·rw [if_neg h2,show j-i=(j-1-i)+1 by omega,List.getElem?_cons_succ,List.getElem?_drop,show i+(j-1-i)=j-1 by omega]
theorem Row.J4v {w:World} {b cap:Nat} {t:TypeId} {k:IntKind} {xs:List Int} {arr:Array Value} (h:Blk false w b arr t) (hs:arr.size=cap) (hl:xs.length<=cap) (hg:∀ j,j<xs.length->arr[j]?=(xs[j]?).map (Value.int k)) (hp:Plain arr):Row false w b t k xs cap:=
 ⟨arr,h,hs,hl,fun j hj=>by rw [hg j hj,Ja7,Jb1 hj];rfl,hp⟩
def J3t (w:World) (r:Nat) (ls:List Int) (e:Ending) (w':World):Prop:=
 ∃ g c',e=.returned (.slice (some ⟨g,0,none⟩) ls.length c')/\Row false w' g 45 .u64 ls c'/\c'<=maxLen/\(g=r\/w.heap.size<=g)/\Tch w.heap.size (fun b=>b=r) w w'
section
variable {w:World} {r cap vb i:Nat} {ls:List Int} {x:Int}
theorem Jhv (h:Row false w r 45 .u64 ls cap) (hc:cap<=maxLen) (hv:w.heap[vb]?=some (.cells #[.int .u64 x] 45)) (hvr:vb≠r) (hi:i<ls.length) (hroom:ls.length+1<=cap) (hn:ls.length<=1000) :
  Calls Tryz.prog 175 #[.slice (some ⟨r,0,none⟩) ls.length cap,.int .i64 i,.slice (some ⟨vb,0,none⟩) 1 1] w (J3t w r (insL i x ls)):=by
 obtain ⟨cur,hb,hcs,_,hcur,hpc⟩:=h;have hc63:cap<=9223372036854775807:=by unfold maxLen at hc;omega
 generalize hnl:ls.length=n at *;have mixed:Tryz.prog.follows .mixedOrders=true:=by kernel_rfl
 have hz2:¬ ((i:Int)=(n:Int)):=by omega
 have hsz:(Tryz.prog.info? 45).map (·.size)=some 1:=by kernel_rfl
 have hvc:w.cell? ⟨vb,0,none⟩=some (.int .u64 x):=(cell_of hv 0).trans rfl;have hcell:∀ j,j<n->w.cell? ⟨r,j,none⟩=some (.int .u64 (ls.getD j 0)):=fun j hj=>(hb.cell j).trans (hcur j hj);have hsp:∀ j,j<n+1->(w.cell? ⟨r,j,none⟩).isSome=true:=fun j hj=>by rw [hb.cell,Ja4 (by omega)];rfl
 have hfz:∀ j,w.frozen? ⟨r,j,none⟩=false:=fun j=>hb.frozen _;have hov:∀ lb cb,(callFunc 179 #[.slice (some ⟨vb,0,none⟩) 1 1,.slice (some ⟨r,i+1,none⟩) lb cb]).run Tryz.prog w=.ok (.value (.bool false)) w:=fun lb cb=>by
  have hsb:w.shape? r=some (45,cur.size):=by obtain ⟨z,hz,_⟩:=hb;simp [World.shape?,hz]
  rw [run_callFunc_extern Tryz.func179 (by kernel_rfl) (by kernel_rfl) (by kernel_rfl) (e:=Extern.SlicesOverlaps.overlaps #[37,37] #[4]) (by kernel_rfl),
   Lib.run_overlaps_apart w 37 4 45 Tryz.underlying37 1 Tryz.sizeOf45 ⟨vb,0,none⟩ ⟨r,i+1,none⟩ 1 1 lb cb hvr 45 45 1 cur.size (by simp [World.shape?,hv]) hsb (by omega) (J02 hv 0) (J02 hv 1)]
  rfl
 have hdl:((ls.map (Value.int .u64)).drop i).length=n-i:=by simp [hnl]
 have hcp1:∀ ty dc sc,(Builtin.copy_ #[37,37] ty #[.slice (some ⟨r,i+1,none⟩) (n-i) dc,.slice (some ⟨r,i,none⟩) (n+1-i) sc]).run Tryz.prog w.drew=.ok (goInt ((ls.map (Value.int .u64)).drop i).length) (w.drew.setCells r (i+1) ((ls.map (Value.int .u64)).drop i)):=fun ty dc sc=>
  run_copy_cells w.drew _ _ ty 45 r (i+1) (n-i) dc ⟨r,i,none⟩ (n+1-i) sc ((ls.map (Value.int .u64)).drop i) Tryz.underlying37 hsz (by rw [hdl];simp only [Nat.min_def];split<;>omega)
   (fun j v hj=>by rw [List.getElem?_drop,List.getElem?_map,Jc0] at hj;obtain ⟨y,hy,rfl⟩:=hj;have hlt:=(List.getElem?_eq_some_iff.1 hy).1;rw [Addr.add_lit];show w.cell? ⟨r,i+j,none⟩=_;rw [hcell _ (by omega),Ja7,hy];rfl)
   (fun j hj=>hsp _ (by have:=hdl;omega)) (fun j hj=>hfz _) (fun v hv=>by obtain ⟨y,_,rfl⟩:=Jb3.1 (List.mem_of_mem_drop hv);rfl)
 obtain ⟨W1,hW1⟩:∃ W1,W1=w.drew.setCells r (i+1) ((ls.map (Value.int .u64)).drop i):=⟨_,rfl⟩;have hsp1:∀ k,k<n+1->(W1.cell? ⟨r,k,none⟩).isSome=true:=fun k hk=>by rw [hW1];exact isSome_setCells r ((ls.map (Value.int .u64)).drop i) (i+1) w.drew (fun j (hj:j<((ls.map (Value.int .u64)).drop i).length)=>hsp _ (by rw [hdl] at hj;omega)) _ (hsp k hk)
 have hcp2:∀ (W:World),(∀ x,W.cell? x=W1.cell? x)->(∀ x,W.frozen? x=W1.frozen? x)->∀ ty dc,(Builtin.copy_ #[37,37] ty #[.slice (some ⟨r,i,none⟩) (n+1-i) dc,.slice (some ⟨vb,0,none⟩) 1 1]).run Tryz.prog W=.ok (goInt [Value.int .u64 x].length) (W.setCells r i [.int .u64 x]):=fun W hWc hWf ty dc=>
  run_copy_cells W _ _ ty 45 r i (n+1-i) dc ⟨vb,0,none⟩ 1 1 [.int .u64 x] Tryz.underlying37 hsz (by simp only [Nat.min_def,List.length_singleton];split<;>omega)
   (fun j v hj=>by
    have:j=0/\v=.int .u64 x:=by
     cases j with
     | zero=>simp at hj;exact ⟨rfl,hj.symm⟩
     | succ j=>simp at hj
    obtain ⟨rfl,rfl⟩:=this;rw [Addr.add_lit,hWc,hW1,World.cell?_setCells_out r _ _ _ _ (fun h _=>absurd h hvr)];exact hvc)
   (fun j hj=>by rw [hWc];exact hsp1 _ (by simp at hj;omega)) (fun j hj=>by rw [hWf,hW1,World.frozen?_setCells];exact hfz _) (by simp [Value.oneCell'])
 rw [<- hW1] at hcp1;have hw1:IntKind.i64.wrap ((i:Int)+1)=(i:Int)+1:=by rw [IntKind.wrap_i64];omega
 have hb1:(0:Int)<=(i:Int)+1:=by omega
 have hin:i<=n:=by omega
 have htn:((i:Int)+1).toNat=i+1:=by omega
 have hb2:¬ (cap=i+1):=by omega
 have hb3:(i:Int)<=(n:Int)+1:=by omega
 have hb4:¬ (cap=i):=by omega
 have hfin:J3t w r (insL i x ls) (.returned (.slice (some ⟨r,0,none⟩) (n+1) cap)) (W1.setCells r i [.int .u64 x]):=by
  have hbd:Blk false w.drew r cur 45:=hb.kept rfl;obtain ⟨a1,b1,s1,g1⟩:=hbd.setCells (vs:=(ls.map (Value.int .u64)).drop i) (o:=i+1) (by rw [hdl];omega);rw [<- hW1] at b1;obtain ⟨a2,b2,s2,g2⟩:=b1.setCells (vs:=[.int .u64 x]) (o:=i) (by simp;omega);have hil:(insL i x ls).length=n+1:=by rw [J7k (by omega),hnl]
  refine ⟨r,cap,by rw [hil],Row.J4v b2 (by omega) (by omega) (fun j hj=>?_) (Plain.Jln (Plain.Jln hpc (fun v hv=>J8f v (List.mem_of_mem_drop hv)) g1) J7w g2),hc,.inl rfl,?_⟩
  ·rw [Jhu (by omega),g2,g1,hdl];rw [hil] at hj;simp only [List.length_singleton];by_cases h1:j<i
   ·rw [if_neg (by omega),if_neg (by omega),if_pos h1,hcur j (by omega),Ja7,Jb1 (by omega)];rfl
   ·by_cases h2:j=i
    ·subst h2;simp
    ·rw [if_neg (by omega),if_pos (by omega),if_neg h1,if_neg h2,List.getElem?_drop,List.getElem?_map,show i+(j-(i+1))=j-1 by omega]
  ·rw [hW1];exact Tch.setCells (M:=fun b=>b=r) (.inr rfl) (Tch.setCells (M:=fun b=>b=r) (.inr rfl) (Tch.refl.drew))
 clear hcell hsp hfz hcur hb hsp1 hvc hv hW1
 go_enter Tryz.func175,Tryz.ntmps175
 go_wp2_with (simp only [hov])
 go_region_law_o (refine step_copy_runI rfl _ _ 37 37 rfl _ _ (by simp [Act.eval,Act.put]) (by simp [Act.eval,Act.put]) (hcp1 _ _ _) ?_)
 go_wp2_with (at_builtin;refine wpList_copy_runI _ rfl _ _ 37 37 rfl _ _ rfl rfl (hcp2 _ (fun _=>rfl) (fun _=>rfl) _ _) ?_)
 go_ret;exact hfin
theorem Jhw {w:World} {vb:Nat} {x:Int} {t:TypeId} (hv:w.heap[vb]?=some (.cells #[.int .u64 x] t)):∀ j u,([.int .u64 x]:List Value)[j]?=some u->w.cell? ((⟨vb,0,none⟩:Addr).add j)=some u:=by
 intro j u hj;cases j with
 | zero=>
  simp at hj;subst hj;rw [Addr.add_lit];exact (cell_of hv 0).trans rfl
 | succ j=>simp at hj
theorem Jr6 (x:Int) (ls:List Int):insL ls.length x ls=ls++[x]:=by simp [insL]
theorem Jwp {α:Type} (a b:List α) (j:Nat):(a++b)[j]?=if j<a.length then a[j]? else b[j-a.length]?:=List.getElem?_append
theorem insert_nil (hv:w.heap[vb]?=some (.cells #[.int .u64 x] 45)) :
  Calls Tryz.prog 175 #[.slice none 0 0,.int .i64 0,.slice (some ⟨vb,0,none⟩) 1 1] w (J3t w r [x]):=by
 obtain ⟨i0,hi,hz0,hz1,hz2⟩:=info_parts J6v;have hap:(Builtin.append_ #[37,37] 37 #[.slice none 0 0,.slice (some ⟨vb,0,none⟩) 1 1]).run Tryz.prog w=_:=
  run_append_nil (w:=w) 37 37 45 i0 _ Tryz.underlying37 hi hz0 ⟨vb,0,none⟩ 1 1 [.int .u64 x] (by rw [hz1];rfl) (Jhw hv) (by omega) (by omega) (by rw [hz2];omega)
 have hge:=grownCap_ge w 1 0 45;have hle:=grownCap_le_maxLen w 1 0 45 (by decide);generalize grownCap w 1 0 45=G at *;have hfin:J3t w r [x] (.returned (.slice (some ⟨w.heap.size,0,none⟩) 1 G)) (w.drew.alloc (.cells ([Value.int .u64 x].toArray++Builtin.zeroCells (Value.int .u64 0).cells (G-1)) 45)):=by refine ⟨w.heap.size,G,rfl,Row.J4v (xs:=[x]) ⟨(0,0),Ja _,fun _=>rfl⟩ (by simp [Builtin.zeroCells,Value.cells];omega) (by simpa using hge) (fun j hj=>?_) ((Plain.list J7w).append (Plain.madeCells (Plain.ai (k:=.u64) (xs:=[0])) _)),hle,.inr (Ja2 _),Tch.refl.drew.alloc (Ja2 _) _⟩;simp at hj;subst hj;rw [Array.getElem?_append_left (by simp)];rfl
 clear hv;generalize hw':w.drew.alloc (.cells ([Value.int .u64 x].toArray++Builtin.zeroCells (Value.int .u64 0).cells (G-1)) 45)=w' at *
 go_enter Tryz.func175,Tryz.ntmps175
 go_wp2_with (at_builtin;refine Lib.wpList_append_run _ rfl _ _ _ _ rfl _ _ rfl rfl _ _ hap ?_)
 go_ret;exact hfin
end
theorem J96 (b:Nat):∀ (vs:List Value) (o:Nat) (w:World),(w.setCells b o vs).tape=w.tape/\(w.setCells b o vs).os=w.os/\(w.setCells b o vs).output=w.output
 | [],_,_=>⟨rfl,rfl,rfl⟩
 | v::r,o,w=>J96 b r (o+1) (w.setCell ⟨b,o,none⟩ v)
theorem J97 (b:Nat):∀ (vs:List Value) (o:Nat) (w w1:World),w.heap=w1.heap->(w.setCells b o vs).heap=(w1.setCells b o vs).heap
 | [],_,_,_,h=>h
 | v::r,o,w,w1,h=>J97 b r (o+1) _ _ (by simp only [World.setCell,h])
theorem Blk.setRow {w:World} {b:Nat} {arr:Array Value} {t:TypeId} (h:Blk false w b arr t) (arr':Array Value):Blk false (w.setRow b arr') b arr' t:=by obtain ⟨z,h,hz⟩:=h;cases hz rfl;refine ⟨(0,0),?_,fun _=>rfl⟩;simp only [World.setRow,Array.getElem?_modify,if_true,h,Option.map_some]
theorem Tch.setRow {N:Nat} {M:Nat->Prop} {w w1:World} {b:Nat} (h:Tch N M w w1) (hb:N<=b\/M b) (arr':Array Value):Tch N M w (w1.setRow b arr'):=
 ⟨Jb6 h.size (by simp [World.setRow]),fun k hk hm=>by
  have:k≠b:=by rintro rfl;rcases hb with hb|hb;omega;exact hm hb
  simp only [World.setRow,Array.getElem?_modify,if_neg (Ne.symm this)];exact h.heap k hk hm,h.tape,h.os,h.output⟩
section
variable {w:World} {r cap vb i:Nat} {ls:List Int} {x:Int}
theorem Jlo (h:Row false w r 45 .u64 ls cap) (hc:cap<=maxLen) (hv:w.heap[vb]?=some (.cells #[.int .u64 x] 45)) (hn:ls.length<=1000) :
  Calls Tryz.prog 175 #[.slice (some ⟨r,0,none⟩) ls.length cap,.int .i64 ls.length,.slice (some ⟨vb,0,none⟩) 1 1] w (J3t w r (insL ls.length x ls)):=by
 obtain ⟨cur,hb,hcs,hlc,hcur,hpc⟩:=h;obtain ⟨i0,hi,hz0,hz1,hz2⟩:=info_parts J6v;have hc63:cap<=9223372036854775807:=by unfold maxLen at hc;omega
 have hins:insL ls.length x ls=ls++[x]:=Jr6 x ls;have hil:(ls++[x]).length=ls.length+1:=by simp
 rw [hins];have fin:∃ v' w',(Builtin.append_ #[37,37] 37 #[.slice (some ⟨r,0,none⟩) ls.length cap,.slice (some ⟨vb,0,none⟩) 1 1]).run Tryz.prog w=.ok v' w'/\J3t w r (ls++[x]) (.returned v') w':=by
  rcases Jb5 cap (ls.length+1) with hgr|hroom
  ·have hap:=run_append_grow (P:=Tryz.prog) (w:=w) 37 37 45 i0 _ Tryz.underlying37 hi hz0 ⟨r,0,none⟩ ls.length cap (ls.map (Value.int .u64)) (by rw [hz1];simp) (fun j v hj=>by
     rw [List.getElem?_map,Jc0] at hj;obtain ⟨y,hy,rfl⟩:=hj;have hlt:=(List.getElem?_eq_some_iff.1 hy).1;rw [Addr.add_lit,Nat.zero_add,hb.cell,hcur j hlt,Ja7,hy];rfl)
    ⟨vb,0,none⟩ 1 1 [.int .u64 x] (by rw [hz1];rfl) (Jhw hv) (by omega) (by omega) (growslice_fits hgr (by rw [hz2];omega))
   have hge:=grownCap_ge w (ls.length+1) cap 45;have hle:=grownCap_le_maxLen w (ls.length+1) cap 45 (by unfold maxLen;omega);generalize grownCap w (ls.length+1) cap 45=G at *;refine ⟨_,_,hap,w.heap.size,G,by rw [hil],Row.J4v ⟨(0,0),Ja _,fun _=>rfl⟩ (by simp [Builtin.zeroCells,Value.cells];omega) (by omega) (fun j hj=>?_) (((Plain.list J8f).append (Plain.list J7w)).append (Plain.madeCells (Plain.ai (k:=.u64) (xs:=[0])) _)),hle,.inr (Ja2 _),Tch.refl.drew.alloc (Ja2 _) _⟩;rw [Array.getElem?_append_left (by simp;omega)];simp [List.getElem?_append];split
   ·simp_all
   ·generalize j-ls.length=q;cases q<;>rfl
  ·have hg:w.heap[r]?=some (.cells cur 45 (0,0)):=by obtain ⟨z,hz,hzz⟩:=hb;cases hzz rfl;exact hz
   have hap:=run_append_room (P:=Tryz.prog) (w:=w) 37 37 45 i0 Tryz.underlying37 hi r ls.length cap cur hg ⟨vb,0,none⟩ 1 1 [.int .u64 x] (by rw [hz1];rfl) (Jhw hv) (by simp [Value.oneCell']) hroom (by rw [hz1];simp;omega);rw [hz1] at hap;refine ⟨_,_,hap,r,cap,by rw [hil],Row.J4v (hb.setRow _) (by simp;omega) (by omega) (fun j hj=>?_) (Plain.list fun v hv=>(Jc9.1 hv).elim (fun hv=>(Jc9.1 hv).elim (fun hv=>hpc v (List.mem_of_mem_take hv)) (J7w v)) fun hv=>hpc v (List.mem_of_mem_drop hv)),hc,.inl rfl,Tch.setRow (M:=fun b=>b=r) Tch.refl (.inr rfl) _⟩;rw [hil] at hj;simp only [List.getElem?_toArray,Nat.mul_one,List.length_singleton];rw [Jwp,Jwp];by_cases h1:j<ls.length
   ·simp [h1,List.getElem?_take,show j<cur.size by omega,show ls.length<=cur.size by omega];have:=hcur j h1;rw [Ja4 (by omega)] at this;rw [Ja0 this];simp [Ja7,h1,show j<ls.length+1 by omega,List.getElem?_append_left h1]
   ·have:j=ls.length:=by omega
    subst this;simp [show ls.length<cur.size by omega,show min ls.length cur.size=ls.length by omega]
 obtain ⟨v',w',hap,hfin⟩:=fin;clear hcur hb hv hins hil;generalize ls.length=n at *
 go_enter Tryz.func175,Tryz.ntmps175
 go_wp2_with (at_builtin;refine Lib.wpList_append_run _ rfl _ _ _ _ rfl _ _ rfl rfl _ _ hap ?_)
 all_goals go_ret
 all_goals exact hfin
theorem Jk5 (h:Row false w r 45 .u64 ls cap) (hc:cap<=maxLen) (hv:w.heap[vb]?=some (.cells #[.int .u64 x] 45)) (hi:i<ls.length) (hroom:cap<ls.length+1) (hn:ls.length<=1000) :
  Calls Tryz.prog 175 #[.slice (some ⟨r,0,none⟩) ls.length cap,.int .i64 i,.slice (some ⟨vb,0,none⟩) 1 1] w (J3t w r (insL i x ls)):=by
 obtain ⟨cur,hb,hcs,hlc,hcur,hpc⟩:=h;obtain ⟨i0,hi0,hz0,hzs,hzb⟩:=info_parts J6v;have mixed:Tryz.prog.follows .mixedOrders=true:=by kernel_rfl
 have hcap:cap=ls.length:=by omega
 have hil:(insL i x ls).length=ls.length+1:=J7k (by omega);have hig:=Jhu (i:=i) (x:=x) (ls:=ls) (by omega);generalize hnl:ls.length=n at *;have hcell:∀ j,j<n->w.cell? ⟨r,j,none⟩=some (.int .u64 (ls.getD j 0)):=fun j hj=>(hb.cell j).trans (hcur j hj);have hvc:w.cell? ⟨vb,0,none⟩=some (.int .u64 x):=(cell_of hv 0).trans rfl;have hz2:¬ ((i:Int)=(n:Int)):=by omega
 have hz3:(cap:Int)<(n:Int)+1:=by omega
 have hsz:(Tryz.prog.info? 45).map (·.size)=some 1:=by kernel_rfl
 have hbw:r<w.heap.size:=hb.lt;have hvw:vb<w.heap.size:=Ji hv;have hkk:(n:Int)+1-(i:Int)=((n+1-i:Nat):Int):=by omega
 have hik:i+(n+1-i)=n+1:=by omega
 have hold:(Builtin.firstCells i0.size i (.slice (some ⟨r,0,none⟩) i cap)).run Tryz.prog w.drew=.ok ((ls.map (Value.int .u64)).take i).toArray w.drew:=by
  rw [hzs];exact run_firstCells_some w.drew 1 i ⟨r,0,none⟩ i cap ((ls.map (Value.int .u64)).take i) (by rw [List.length_take];simp;omega) (fun j v hj=>by
   rw [Addr.add_lit,Nat.zero_add];rw [List.getElem?_take] at hj;split at hj
   ·rw [List.getElem?_map,Jc0] at hj;obtain ⟨y,hy,rfl⟩:=hj;show w.cell? ⟨r,j,none⟩=_;rw [hcell _ (by omega),Ja7,hy];rfl
   ·cases hj)
 have hrz:∀ ty,(Builtin.append_ #[37,3] ty #[.slice (some ⟨r,0,none⟩) i cap,.int .i64 ((n:Int)+1-(i:Int))]).run Tryz.prog w=.ok (.slice (some ⟨w.heap.size,0,none⟩) (n+1) (grownCap w (n+1) cap 45)) (w.drew.alloc (.cells (((ls.map (Value.int .u64)).take i).toArray++Builtin.zeroCells (Value.int .u64 0).cells (n+1-i)++Builtin.zeroCells (Value.int .u64 0).cells (grownCap w (n+1) cap 45-(n+1))) 45)):=fun ty=>by have h:=Lib.run_append_grow_zeros w 37 3 ty 45 i0 _ .i64 .i64 Tryz.underlying37 Tryz.underlying3 hi0 hz0 (some ⟨r,0,none⟩) i cap ((ls.map (Value.int .u64)).take i) hold (n+1-i) (by omega) (by omega) (by omega) (by omega) (by rw [hzb];omega) (by rw [hzb,hik];exact growslice_fits (by omega) (by omega));rw [hik] at h;rw [hkk];exact h
 have hGn:n+1<=grownCap w (n+1) cap 45:=grownCap_ge w _ _ _;have hGm:=grownCap_le_maxLen w (n+1) cap 45 (by unfold maxLen;omega);generalize grownCap w (n+1) cap 45=G at *;obtain ⟨ROW,hROW⟩:∃ ROW:Array Value,ROW=((ls.map (Value.int .u64)).take i).toArray++Builtin.zeroCells (Value.int .u64 0).cells (n+1-i)++Builtin.zeroCells (Value.int .u64 0).cells (G-(n+1)):=⟨_,rfl⟩;rw [<- hROW] at hrz;have hRl:ROW.size=G:=by rw [hROW];simp [Builtin.zeroCells,Value.cells];omega
 have hRg:∀ j,j<i->ROW[j]?=some (.int .u64 (ls.getD j 0)):=fun j hj=>by rw [hROW,Array.getElem?_append_left (by simp [Builtin.zeroCells,Value.cells];omega),Array.getElem?_append_left (by simp;omega)];simp [List.getElem?_take,hj,Ja7,show j<ls.length by omega]
 obtain ⟨W1,hW1⟩:∃ W1,W1=w.drew.alloc (.cells ROW 45):=⟨_,rfl⟩;rw [<- hW1] at hrz;have hpN:Plain ROW:=by rw [hROW];exact ((Plain.list fun v hv=>J8f v (List.mem_of_mem_take hv)).append (Plain.madeCells (Plain.ai (k:=.u64) (xs:=[0])) _)).append (Plain.madeCells (Plain.ai (k:=.u64) (xs:=[0])) _)
 have hbN:Blk false W1 w.heap.size ROW 45:=⟨(0,0),by rw [hW1];exact Ja _,fun _=>rfl⟩;have hN:∀ j,j<n+1->(W1.cell? ⟨w.heap.size,j,none⟩).isSome=true:=fun j hj=>by rw [hbN.cell,Ja4 (by omega)];rfl
 have hNf:∀ j,W1.frozen? ⟨w.heap.size,j,none⟩=false:=fun j=>hbN.frozen j;have hOb:∀ j,j<n->W1.cell? ⟨r,j,none⟩=some (.int .u64 (ls.getD j 0)):=fun j hj=>by rw [<- hcell j hj,hW1];exact Jb4 (w:=w) (J7 (w:=w.drew) _ hbw)
 have hOv:W1.cell? ⟨vb,0,none⟩=some (.int .u64 x):=by rw [<- hvc,hW1];exact Jb4 (w:=w) (J7 (w:=w.drew) _ hvw)
 have hrN:r≠w.heap.size:=by omega
 have hdl:((ls.map (Value.int .u64)).drop i).length=n-i:=by simp [hnl]
 have hcpA:∀ (W:World),(∀ x,W.cell? x=W1.cell? x)->(∀ x,W.frozen? x=W1.frozen? x)->∀ ty dc,(Builtin.copy_ #[37,37] ty #[.slice (some ⟨w.heap.size,i,none⟩) (n+1-i) dc,.slice (some ⟨vb,0,none⟩) 1 1]).run Tryz.prog W=.ok (goInt [Value.int .u64 x].length) (W.setCells w.heap.size i [.int .u64 x]):=fun W hWc hWf ty dc=>
  run_copy_cells W _ _ ty 45 w.heap.size i (n+1-i) dc ⟨vb,0,none⟩ 1 1 [.int .u64 x] Tryz.underlying37 hsz (by simp only [Nat.min_def,List.length_singleton];split<;>omega)
   (fun j v hj=>by
    have:j=0/\v=.int .u64 x:=by
     cases j with
     | zero=>simp at hj;exact ⟨rfl,hj.symm⟩
     | succ j=>simp at hj
    obtain ⟨rfl,rfl⟩:=this;rw [Addr.add_lit,hWc];exact hOv)
   (fun j hj=>by rw [hWc];exact hN _ (by simp at hj;omega)) (fun j hj=>by rw [hWf];exact hNf _) (by simp [Value.oneCell'])
 have hcpB:∀ (W:World),(∀ y,W.cell? y=(W1.setCells w.heap.size i [.int .u64 x]).cell? y)->(∀ y,W.frozen? y=(W1.setCells w.heap.size i [.int .u64 x]).frozen? y)->∀ ty dc sc,(Builtin.copy_ #[37,37] ty #[.slice (some ⟨w.heap.size,i+1,none⟩) (n-i) dc,.slice (some ⟨r,i,none⟩) (n-i) sc]).run Tryz.prog W=.ok (goInt ((ls.map (Value.int .u64)).drop i).length) (W.setCells w.heap.size (i+1) ((ls.map (Value.int .u64)).drop i)):=fun W hWc hWf ty dc sc=>
  run_copy_cells W _ _ ty 45 w.heap.size (i+1) (n-i) dc ⟨r,i,none⟩ (n-i) sc ((ls.map (Value.int .u64)).drop i) Tryz.underlying37 hsz (by rw [hdl];simp only [Nat.min_def];split<;>omega)
   (fun j v hj=>by rw [List.getElem?_drop,List.getElem?_map,Jc0] at hj;obtain ⟨y,hy,rfl⟩:=hj;have hlt:=(List.getElem?_eq_some_iff.1 hy).1;rw [Addr.add_lit,hWc,World.cell?_setCells_out _ _ _ _ _ (fun h _=>absurd h hrN),hOb _ (by omega),Ja7,hy];rfl)
   (fun j hj=>by rw [hWc];exact isSome_setCells w.heap.size [.int .u64 x] i W1 (fun t (ht:t<([Value.int .u64 x]).length)=>hN _ (by simp at ht;omega)) _ (hN _ (by rw [hdl] at hj;omega)))
   (fun j hj=>by rw [hWf,World.frozen?_setCells];exact hNf _) (fun v hv=>by obtain ⟨y,_,rfl⟩:=Jb3.1 (List.mem_of_mem_drop hv);rfl)
 have hfin:∀ W,W.heap=((W1.setCells w.heap.size i [.int .u64 x]).setCells w.heap.size (i+1) ((ls.map (Value.int .u64)).drop i)).heap->W.tape=w.tape->W.os=w.os->W.output=w.output->J3t w r (insL i x ls) (.returned (.slice (some ⟨w.heap.size,0,none⟩) (n+1) G)) W:=by
  intro W hW e1 e2 e3;obtain ⟨a1,b1,s1,g1⟩:=hbN.setCells (vs:=[.int .u64 x]) (o:=i) (by simp;omega);obtain ⟨a2,b2,s2,g2⟩:=b1.setCells (vs:=(ls.map (Value.int .u64)).drop i) (o:=i+1) (by rw [hdl];omega);have ht:Tch w.heap.size (fun b=>b=r) w ((W1.setCells w.heap.size i [.int .u64 x]).setCells w.heap.size (i+1) ((ls.map (Value.int .u64)).drop i)):=by rw [hW1];exact Tch.setCells (.inl (Ja2 _)) (Tch.setCells (.inl (Ja2 _)) (Tch.refl.drew.alloc (Ja2 _) _))
  refine ⟨w.heap.size,G,by rw [hil],Row.J4v (b2.kept (by rw [hW])) (by omega) (by omega) (fun j hj=>?_) (Plain.Jln (Plain.Jln hpN J7w g1) (fun v hv=>J8f v (List.mem_of_mem_drop hv)) g2),hGm,.inr (Ja2 _),⟨by rw [hW];exact ht.size,fun b hb hm=>by rw [hW];exact ht.heap b hb hm,e1,e2,e3⟩⟩;rw [hig,g2,g1,hdl];rw [hil] at hj;simp only [List.length_singleton];by_cases h1:j<i
  ·rw [if_neg (by omega),if_neg (by omega),if_pos h1,hRg j h1,Ja7,Jb1 (by omega)];rfl
  ·by_cases h2:j=i
   ·rw [if_neg (by omega),if_pos (by omega),if_neg h1,if_pos h2,h2,Nat.sub_self];rfl
   ·rw [if_pos (by omega),if_neg h1,if_neg h2,List.getElem?_drop,List.getElem?_map,show i+(j-(i+1))=j-1 by omega]
 have hG63:G<=9223372036854775807:=by unfold maxLen at hGm;omega
 have hGi:¬ (G=i):=by omega
 have hGim:¬ (G=i+1):=by omega
 have hci:¬ (cap=i):=by omega
 subst hW1;have hE1:∀ x,((w.alloc (.cells ROW 45)).drew).cell? x=(w.drew.alloc (.cells ROW 45)).cell? x:=fun x=>rfl;have hE2:∀ x,((w.alloc (.cells ROW 45)).drew).frozen? x=(w.drew.alloc (.cells ROW 45)).frozen? x:=fun x=>rfl;have hF1:∀ y,(((w.alloc (.cells ROW 45)).drew.setCells w.heap.size i [.int .u64 x]).drew).cell? y=((w.drew.alloc (.cells ROW 45)).setCells w.heap.size i [.int .u64 x]).cell? y:=fun x=>rfl;have hF2:∀ y,(((w.alloc (.cells ROW 45)).drew.setCells w.heap.size i [.int .u64 x]).drew).frozen? y=((w.drew.alloc (.cells ROW 45)).setCells w.heap.size i [.int .u64 x]).frozen? y:=fun x=>rfl;have hw1:IntKind.i64.wrap ((i:Int)+1)=(i:Int)+1:=by rw [IntKind.wrap_i64];omega
 have hb1:(0:Int)<=(i:Int)+1:=by omega
 have hin:i<=n:=by omega
 have htn:((i:Int)+1).toNat=i+1:=by omega
 have hb3:(i:Int)<=(n:Int):=by omega
 have hic:(i:Int)<=(cap:Int):=by omega
 clear hpN;clear hkk hik hold hROW hRl hcell hcur hb hN hNf hOb hOv hbN hRg hig hil hvc hv hcs hlc hcap
 go_enter Tryz.func175,Tryz.ntmps175
 go_wp2_with (first
  | (at_builtin;refine Lib.wpList_append_run _ rfl _ _ _ _ rfl _ _ rfl rfl _ _ (hrz _) ?_)
  | (at_builtin;refine wpList_copy_runI _ rfl _ _ 37 37 rfl _ _ rfl rfl (hcpA _ hE1 hE2 _ _) ?_)
  | (at_builtin;refine wpList_copy_runI _ rfl _ _ 37 37 rfl _ _ rfl rfl (hcpB _ (fun _=>rfl) (fun _=>rfl) _ _ _) ?_))
 go_region_law_o (refine step_copy_runI rfl _ _ 37 37 rfl (.slice (some ⟨w.heap.size,i+1,none⟩) (n-i) (G-(i+1))) (.slice (some ⟨r,i,none⟩) (n-i) (cap-i)) (by simp [Act.eval,Act.put]) (by simp [Act.eval,Act.put]) (hcpB _ hF1 hF2 3 (G-(i+1)) (cap-i)) ?_)
 go_wp2;go_ret;obtain ⟨q1,q2,q3⟩:=J96 w.heap.size ((ls.map (Value.int .u64)).drop i) (i+1) ((w.alloc (.cells ROW 45)).drew.setCells w.heap.size i [.int .u64 x]).drew;exact hfin _ (J97 _ _ _ _ _ rfl) q1 q2 q3
end
def lval (pr:Option (Nat × Nat)) (ls:List Int):Value:=match pr with|none=>.slice none 0 0|some (r,c)=>.slice (some ⟨r,0,none⟩) ls.length c
def J6x (fr:Bool) (w:World) (pr:Option (Nat × Nat)) (ls:List Int):Prop:=match pr with|none=>ls=[]|some (r,c)=>Row fr w r 45 .u64 ls c/\c<=maxLen
def lpl (pr:Option (Nat × Nat)) (x:Nat):Prop:=∃ c,pr=some (x,c)
structure J0b (fr:Bool) (w:World) (b:Nat) (pr:Option (Nat × Nat)) (K:Int) (ls:List Int):Prop where
 hd:Blk fr w b #[.int .i64 K,lval pr ls] 128
 row:J6x fr w pr ls
section
variable {fr:Bool} {w w':World} {b:Nat} {pr:Option (Nat × Nat)} {K:Int} {ls:List Int}
theorem J6x.kept (h:J6x fr w pr ls) (hh:∀ x,lpl pr x->w'.heap[x]?=w.heap[x]?):J6x fr w' pr ls:=by
 cases pr with
 | none=>exact h
 | some p=>exact ⟨h.1.kept (hh p.1 ⟨p.2,rfl⟩),h.2⟩
theorem J6x.lt (h:J6x fr w pr ls) {x:Nat} (hx:lpl pr x):x<w.heap.size:=by obtain ⟨c,rfl⟩:=hx;exact h.1.lt
theorem J0b.kept (h:J0b fr w b pr K ls) (h1:w'.heap[b]?=w.heap[b]?) (hh:∀ x,lpl pr x->w'.heap[x]?=w.heap[x]?):J0b fr w' b pr K ls:=⟨h.hd.kept h1,h.row.kept hh⟩
theorem J0b.c0 (h:J0b fr w b pr K ls):w.cell? ⟨b,0,none⟩=some (.int .i64 K):=(h.hd.cell 0).trans rfl
theorem J0b.c1 (h:J0b fr w b pr K ls):w.cell? ⟨b,1,none⟩=some (lval pr ls):=(h.hd.cell 1).trans rfl
theorem Jlp (x:Int) (w:World):Calls Tryz.prog 174 #[.slice none 0 0,.int .u64 x] w fun e w'=>e=.returned (.tuple #[.int .i64 0,.bool false])/\w'=w:=by
 go_enter Tryz.func174,Tryz.ntmps174
 go_wp2
 go_loop [7,8] (fun s7 s8=>s7=.int .i64 0/\s8=.int .i64 0) (fun _ _=>0)
 case atStart=>exact ⟨rfl,rfl⟩
 case round=>
  obtain ⟨rfl,rfl⟩:=hrel;go_wp2
  go_ret2
  exact ⟨rfl,rfl⟩
theorem Jlq (h:J6x fr w pr ls) (hn:ls.length<=1000) (hs:ls.Pairwise (·<=·)) (x:Int) :
  Calls Tryz.prog 174 #[lval pr ls,.int .u64 x] w fun e w'=>e=.returned (.tuple #[.int .i64 (ls.countP (· < x):Nat),.bool (decide (x∈ls))])/\w'=w:=by
 cases pr with
 | none=>
  have:ls=[]:=h;subst this;refine (Jlp x w).mono ?_;rintro e w' ⟨rfl,rfl⟩;exact ⟨by simp,rfl⟩
 | some p=>exact Jht h.1 hn hs x p.2
def Jog (w:World) (pr:Option (Nat × Nat)) (ls:List Int) (e:Ending) (w':World):Prop:=
 ∃ g c',e=.returned (.slice (some ⟨g,0,none⟩) ls.length c')/\Row false w' g 45 .u64 ls c'/\c'<=maxLen/\(lpl pr g\/w.heap.size<=g)/\Tch w.heap.size (lpl pr) w w'
theorem Jlr {vb i:Nat} {x:Int} (h:J6x false w pr ls) (hv:w.heap[vb]?=some (.cells #[.int .u64 x] 45)) (hvr:¬ lpl pr vb) (hi:i<=ls.length) (hn:ls.length<=1000) :
  Calls Tryz.prog 175 #[lval pr ls,.int .i64 i,.slice (some ⟨vb,0,none⟩) 1 1] w (Jog w pr (insL i x ls)):=by
 cases pr with
 | none=>
  have:ls=[]:=h;subst this;have:i=0:=by simpa using hi
  subst this;refine (insert_nil (r:=w.heap.size) hv).mono ?_;rintro e w' ⟨g,c',rfl,h1,h2,h3,h4⟩;exact ⟨g,c',rfl,h1,h2,.inr (by omega),h4.mono (Ja2 _) fun b hb e=>by omega⟩
 | some p=>
  obtain ⟨r,c⟩:=p;have hvr':vb≠r:=by rintro rfl;exact hvr ⟨c,rfl⟩
  have conv:∀ e w',J3t w r (insL i x ls) e w'->Jog w (some (r,c)) (insL i x ls) e w':=by rintro e w' ⟨g,c',rfl,h1,h2,h3,h4⟩;exact ⟨g,c',rfl,h1,h2,h3.imp (fun e=>by subst e;exact ⟨c,rfl⟩) id,h4.mono (Ja2 _) fun b _ e=>by subst e;exact ⟨c,rfl⟩⟩
  rcases Jb5 i ls.length with hlt|hge
  ·rcases Jb5 c (ls.length+1) with h1|h1
   ·exact (Jk5 h.1 h.2 hv hlt h1 hn).mono conv
   ·exact (Jhv h.1 h.2 hv hvr' hlt h1 hn).mono conv
  ·obtain rfl:i=ls.length:=by omega
   exact (Jlo h.1 h.2 hv hn).mono conv
def J0l (K:Int) (ls:List Int) (h:Int):List Int:=if h∈ls then ls else (insL (ls.countP (· < h)) h ls).take K.toNat
theorem Row.take {r cap:Nat} {t:TypeId} {k:IntKind} {xs:List Int} (h:Row fr w r t k xs cap) (m:Nat):Row fr w r t k (xs.take m) cap:=by obtain ⟨cur,h1,h2,h3,h4,h5⟩:=h;refine ⟨cur,h1,h2,by simp;omega,fun i hi=>?_,h5⟩;simp only [List.length_take] at hi;rw [h4 i (by omega),Ja7,Ja7,List.getElem?_take,if_pos (by omega)]
def Jgw (w:World) (b:Nat) (pr:Option (Nat × Nat)) (K:Int) (ls:List Int) (e:Ending) (w':World):Prop:=
 (∃ v,e=.returned v)/\∃ pr',J0b false w' b pr' K ls/\(∀ x,lpl pr' x->lpl pr x\/w.heap.size<=x)/\Tch w.heap.size (fun x=>x=b\/lpl pr x) w w'
theorem Jr7 {w2:World} {L:List Int} {g c' m:Nat} {x:Int} {s1 lv:Value} (v:Value) (hbl:b<w.heap.size) (hb:¬ lpl pr b) (hB2:Blk false w2 b #[.int .i64 K,lv] 128) (hr2:Row false w2 g 45 .u64 L c') (hc2:c'<=maxLen) (hg2:lpl pr g\/w.heap.size+1<=g) (hL:(L.take K.toNat).length=m)
  (ht2:Tch (w.heap.size+1) (lpl pr) (w.alloc (.cells #[.int .u64 x] 45)) w2):Jgw w b pr K (L.take K.toNat) (.returned v) ((w2.setCell ⟨b,1,none⟩ s1).setCell ⟨b,1,none⟩ (.slice (some ⟨g,0,none⟩) m c')).drew:=by
 have hgb:g≠b:=by
  rintro rfl;rcases hg2 with h|h
  ·exact hb h
  ·omega
 refine ⟨⟨_,rfl⟩,some (g,c'),⟨?_,?_,hc2⟩,fun y ⟨c,hc⟩=>?_,?_⟩
 ·have:=((hB2.set 1 s1).set 1 (.slice (some ⟨g,0,none⟩) m c')).kept (w':=((w2.setCell ⟨b,1,none⟩ s1).setCell ⟨b,1,none⟩ (.slice (some ⟨g,0,none⟩) m c')).drew) rfl;rw [show lval (some (g,c')) (L.take K.toNat)=.slice (some ⟨g,0,none⟩) m c' by rw [<- hL];rfl];exact this
 ·exact (hr2.take K.toNat).kept ((Jk _ _ hgb).trans (Jk _ _ hgb))
 ·cases hc;exact hg2.imp id fun h=>by omega
 ·have h1:Tch w.heap.size (fun x=>x=b\/lpl pr x) w (w.alloc (.cells #[.int .u64 x] 45)):=Tch.refl.alloc (Ja2 _) _;have h2:Tch w.heap.size (fun x=>x=b\/lpl pr x) (w.alloc (.cells #[.int .u64 x] 45)) w2:=ht2.mono (by omega) fun _ _ h=>.inr h;exact (((h1.trans h2).set (.inr (.inl rfl)) _).set (.inr (.inl rfl)) _).drew
theorem Jhx (h:J0b false w b pr K ls) (hb:¬ lpl pr b) (hn:ls.length<=1000) (hs:ls.Pairwise (·<=·)) (hK:0<=K/\K<=1000) (x:Int) (v:Int) :
  Calls Tryz.prog 170 #[.pointer (some ⟨b,0,none⟩),.int .u64 x,.int .i64 v] w (Jgw w b pr K (J0l K ls x)):=by
 have d0:=h.c0;have d1:=h.c1;have f1:=h.hd.frozen 1;have hse:=Jlq h.row hn hs x;have hblt:=h.hd.lt;by_cases hx:x∈ls
 ·have e1:J0l K ls x=ls:=by simp [J0l,hx]
  rw [e1];have hfin:Jgw w b pr K ls (.returned (.tuple #[])) w:=⟨⟨_,rfl⟩,pr,h,fun x hx=>.inl hx,.refl⟩;rw [decide_eq_true hx] at hse;generalize lval pr ls=lv at *
  go_enter Tryz.func170,Tryz.ntmps170
  go_wp2_with (go_at_call 174;refine hse.mono ?_;rintro e w' ⟨rfl,rfl⟩)
  go_end0;exact hfin
 ·have e1:J0l K ls x=(insL (ls.countP (· < x)) x ls).take K.toNat:=by simp [J0l,hx]
  rw [e1];rw [decide_eq_false hx] at hse;have Jwq:ls.countP (· < x)<=ls.length:=List.countP_le_length;have hvN:(w.alloc (.cells #[.int .u64 x] 45)).heap[w.heap.size]?=some (.cells #[.int .u64 x] 45):=Ja _;have hrow1:J6x false (w.alloc (.cells #[.int .u64 x] 45)) pr ls:=h.row.kept fun y hy=>J7 _ (h.row.lt hy);have hins:=Jlr hrow1 hvN (fun hy=>by have:=h.row.lt hy;omega) Jwq hn;have hil:(insL (ls.countP (· < x)) x ls).length=ls.length+1:=J7k Jwq;generalize ls.countP (· < x)=i at *;generalize hL:insL i x ls=L at *;clear hx hL;obtain ⟨k,hk⟩:∃ k:Nat,K=k:=⟨K.toNat,by omega⟩;obtain ⟨m,hm⟩:∃ m:Nat,m=min (ls.length+1) k:=⟨_,rfl⟩;have hmin:min ((ls.length:Int)+1) K=(m:Int):=by omega
  have hm0:(0:Int)<=(m:Int):=by omega
  have hB:Blk false (w.alloc (.cells #[.int .u64 x] 45)) b #[.int .i64 K,lval pr ls] 128:=h.hd.kept (J7 _ hblt);have J02z:=hB.lt;generalize lval pr ls=lv at d1 hse hins hB
  go_enter Tryz.func170,Tryz.ntmps170
  go_wp2_with (first
   | (go_at_call 174;refine hse.mono ?_;rintro e w' ⟨rfl,rfl⟩)
   | (go_at_call 175;refine hins.mono ?_;rintro e w2 ⟨g,c',rfl,hr2,hc2,hg2,ht2⟩
      have hB2:Blk false w2 b #[.int .i64 K,lv] 128:=hB.kept (ht2.heap b J02z hb);have k0:w2.cell? ⟨b,0,none⟩=some (.int .i64 K):=(hB2.cell 0).trans rfl;have k1:w2.cell? ⟨b,1,none⟩=some lv:=(hB2.cell 1).trans rfl;have k2:=hB2.frozen 1;have hmc:(m:Int)<=(c':Int):=by obtain ⟨_,_,_,h3,_⟩:=hr2;omega))
  go_region
  all_goals go_wp2
  all_goals go_end0
  all_goals exact Jr7 _ hblt hb hB2 hr2 hc2 (by rw [size_alloc] at hg2;exact hg2) (by rw [List.length_take,hil];omega) (by rw [size_alloc] at ht2;exact ht2)
end
end Go.Sim.Z
