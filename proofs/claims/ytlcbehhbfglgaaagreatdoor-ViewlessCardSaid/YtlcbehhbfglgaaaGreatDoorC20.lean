/- Proved: laws for the claim. No conditions. -/
import Derived.Test.YtlcbehhbfglgaaaGreatDoorC07
set_option linter.all false
namespace Go.Sim
open Go.Conc Go.ConcN Go.RowKit Go.Conc.Lib Go.ConcR.Gen Go.ConcN.Gen
open Go.ConcR (KK wgBlock WgAt stA smA rd wr mk DC0)
section
variable{L:WgLink}{Wg:Nat}{Next:JF->JE->Prop}{b₀:Frame}{a₀:Act}{ops₀:Array Oper}{i₀:Nat}{rest₀:List Nat}{k₀:List Item}{cs:List Frame}{mT:Nat}
set_option maxRecDepth 100000 in
set_option maxHeartbeats 8000000 in
def Jyo{P:Program}(H:WgLib P L)
  (hT:∀w,WgLive L.tWg Wg w->Goes P true (RM L.tWg Wg) DC0 Next mT (G (b₀.at (a₀.put ((ops₀[i₀]?).bind (·.dst)) (.tuple #[])) (.inRegion ops₀ rest₀::k₀)) cs) w)
  (w:JE) (hK:WgLive L.tWg Wg w) :
  Goes P true (RM L.tWg Wg) DC0 (dI P L.tWg Wg Next) 12
   (G ((base L.add).at ⟨#[JL Wg,JK 1,JA,JA,JA,JA,JA,JA,JA,JA,JA,JA,JA,JA,JA,JA,JA,JA,JA,JA,JA,JA,JA,JA,JA,JA,JA,JA,JA,JA,JA,JA,JA,JA,JA,JA,JA,JA,JA,JA,JA,JA,JA,JA,JA,JA,JA,JA,JA,JA,JA,JA,JA,JA,JA,JA,JA,JA,JA,JA,JA,JA,JA,JA,JA,JA,JA,JA,JA,JA,JA,JA,JA,JA,JA,JA,JA,JA,JA,JA,JA,JA,JA,JA,JA,JA,JA,JA,JA,JA,JA,JA,JA,JA,JA,JA,JA,JA,JA,JA,JA,JA,JA,JA,JA,JA,JA,JA,JA,JA,JA,JA,JA,JA,JA,JA,JA],[]⟩ [.code (body_add L)]) (b₀.at a₀ (.inRegion ops₀ (i₀::rest₀)::k₀)::cs)) w:=by
 lib_facts
 simp only[body_add,addFn,A8]
 repeat(first
  |u_c stepG_region_end (J4) hK
  |u_c stepG_seq (J4) hK
  |u_reg (J4) hK
  |u_skip (J4) hK
  |u_c stepG_skip (J4) hK
  |u_c stepG_ret' (J4) hK
  |u_cond true (J4) hK
  |u_cond false (J4) hK
  |u_op (J4) hK)
 refine Goes.stop (λwZ1 h₁=>?_);replace hK:=J4 hK h₁;clear h₁;refine⟨rfl,_,stepG_mark0 .disable (by simp) rfl rfl (by k_ne) rfl H.f_disable (x_disable_n L) (x_disable_b L) (x_disable_x L) (x_disable_f L),128,?_⟩
 walk_nrm
 repeat(first
  |u_c stepG_region_end (J4) hK
  |u_c stepG_seq (J4) hK
  |u_reg (J4) hK
  |u_skip (J4) hK
  |u_c stepG_skip (J4) hK
  |u_c stepG_ret' (J4) hK
  |u_cond true (J4) hK
  |u_cond false (J4) hK
  |u_op (J4) hK
  |u_defer (J4) hK
  |u_bub (J4) hK
  |u_call H.f_uAdd (nm_uAdd L) uAddFn (J4) hK)
 refine Goes.stop (λwZ2 h₂=>?_);replace hK:=J4 hK h₂;clear h₂;refine⟨rfl,λv hv hw=>?_⟩;rcases Nat.eq_zero_or_pos v with rfl|hvp
 ·
  replace hw:WgAt L.tWg Wg wZ2 0 0:=by simpa using hw
  have z:(((0:Nat):Int)+1)*KK=KK:=by simp
  rw[z];have e0:IntKind.u64.wrap (0+4294967296)=KK:=by decide
  refine⟨_,(stepG_add_atomic rfl rfl (by k_ne) rfl H.f_addU64 (x_addU64_n L) (x_addU64_b L) (x_addU64_x L) .u64 (x_addU64_f L) rfl rfl hw.cellSt (hw.thaw 0)).trans (by rw[e0];rfl),λ_=>⟨110,?_⟩,λh=>absurd rfl h⟩;replace hK:WgLive L.tWg Wg (wZ2.setCell (stA Wg) (.int .u64 KK)):=⟨_,_,hw.setSt KK⟩;clear hw;simp only[KK]at hK ⊢
  walk_nrm
  repeat(first
   |u_c stepG_region_end (J4) hK
   |u_c stepG_seq (J4) hK
   |u_reg (J4) hK
   |u_skip (J4) hK
   |u_c stepG_skip (J4) hK
   |u_c stepG_ret' (J4) hK
   |u_cond true (J4) hK
   |u_cond false (J4) hK
   |u_op (J4) hK
   |u_leave1 H.f_uAdd (J4) hK
   |u_conv H.underlying_tPU32 H.room_tU32 (WgLive.cell1 hK).choose_spec (J4) hK)
  refine Goes.stop (λwZ3 h₃=>?_);replace hK:=J4 hK h₃;clear h₃;refine⟨rfl,_,stepG_markAt .read (by simp) rfl rfl (by k_ne) rfl H.f_raceRead (x_raceRead_n L) (x_raceRead_b L) (x_raceRead_x L) (x_raceRead_f L) (ad:=⟨Wg,1,none⟩) (by simp[Act.eval]),50,?_⟩
  walk_nrm
  repeat(first
   |u_c stepG_region_end (J4) hK
   |u_c stepG_seq (J4) hK
   |u_reg (J4) hK
   |u_skip (J4) hK
   |u_c stepG_skip (J4) hK
   |u_c stepG_ret' (J4) hK
   |u_cond true (J4) hK
   |u_cond false (J4) hK
   |u_op (J4) hK)
  refine Goes.stop (λwZ4 hZ4=>?_);replace hK:=J4 hK hZ4;clear hZ4;refine⟨rfl,_,stepG_unwind_entry (v:=.tuple #[]) (evs:=#[mk .enable]) rfl H.f_enable (x_enable_n L) (x_enable_b L) (x_enable_x L) (x_enable_f L) (by simp[Extern.Race.none_]) (by simp[mk]) (by simp[mk]),mT+1,?_⟩
  u_leave0 H.f_add (J4) hK
  exact hT _ hK
 ·
  obtain⟨V,hV⟩:∃V:Int,V=(v:Int)+1:=⟨_,rfl⟩;obtain⟨S,hS⟩:∃S:Int,S=V*KK:=⟨_,rfl⟩;have eS:IntKind.u64.wrap ((v:Int)*KK+4294967296)=S:=by rw[IntKind.wrap_u64,hS,hV];simp only[KK];omega
  rw[<- hV,<- hS];have a1:S / 4294967296=V:=by rw[hS];simp only[KK];omega
  have b1:bits .and .u64 S 2147483648=0:=by rw[hS,hV];have:=st_flag (v+1) 0 (by omega) (by omega);simpa[KK]using this
  have b2:bits .and .u64 S 2147483647=0:=by rw[hS,hV];have:=st_waiters (v+1) 0 (by omega) (by omega);simpa[KK]using this
  have c1:IntKind.i32.wrap V=V:=by rw[IntKind.wrap_i32];omega
  have hV1:1<V:=by omega
  have hV2:V<2147483648:=by omega
  have q1:(V == 1)=false:=by simp;omega
  have q2:decide (V=1)=false:=decide_eq_false (by omega);have q3:decide (V<0)=false:=decide_eq_false (by omega);have q4:decide (0<V)=true:=decide_eq_true (by omega);have q5:(V == 0)=false:=by simp;omega
  have q6:decide (V=0)=false:=decide_eq_false (by omega);refine⟨_,(stepG_add_atomic rfl rfl (by k_ne) rfl H.f_addU64 (x_addU64_n L) (x_addU64_b L) (x_addU64_x L) .u64 (x_addU64_f L) rfl rfl hw.cellSt (hw.thaw 0)).trans (by rw[eS];rfl),λh=>absurd h (by omega),λ_=>⟨110,?_⟩⟩;replace hK:WgLive L.tWg Wg (wZ2.setCell (stA Wg) (.int .u64 S)):=⟨_,_,hw.setSt S⟩;clear hw hS eS hV
  walk_nrm
  repeat(first
   |u_c stepG_region_end (J4) hK
   |u_c stepG_seq (J4) hK
   |u_reg (J4) hK
   |u_skip (J4) hK
   |u_c stepG_skip (J4) hK
   |u_c stepG_ret' (J4) hK
   |u_cond true (J4) hK
   |u_cond false (J4) hK
   |u_op (J4) hK
   |u_leave1 H.f_uAdd (J4) hK
   |u_cnd true (J4) hK
   |u_cnd false (J4) hK)
  refine Goes.stop (λwZ4 hZ4=>?_);replace hK:=J4 hK hZ4;clear hZ4;refine⟨rfl,_,stepG_unwind_entry (v:=.tuple #[]) (evs:=#[mk .enable]) rfl H.f_enable (x_enable_n L) (x_enable_b L) (x_enable_x L) (x_enable_f L) (by simp[Extern.Race.none_]) (by simp[mk]) (by simp[mk]),mT+1,?_⟩
  u_leave0 H.f_add (J4) hK
  exact hT _ hK
end
end Go.Sim
