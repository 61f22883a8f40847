/- Proved: laws for the claim. No conditions. -/
import Derived.Conc.WgGenN3
import Derived.Test.YtlcbehhbfglgaaaGreatDoorC07
set_option linter.all false
set_option maxRecDepth 100000
namespace Go.Sim
open Go.Conc Go.ConcN Go.RowKit Go.Conc.Lib Go.ConcR.Gen Go.ConcN.Gen
open Go.ConcR (KK wgBlock WgAt stA smA rd wr mk DC0)
def Jrj{P:Program}{main:Bool}{R:JE->JE->Prop}{D:JE->JE->Array Event->Prop}{Stop:JF->JE->Prop}{n n':Nat}{g:JF}{w:JE}(h:Goes P main R D Stop n g w)(hn:n<=n'):Goes P main R D Stop n' g w:=by
 induction hn with
 |refl=>exact h
 |step _ ih=>exact ih.more
def Jea(L:WgLink)(Wg:Nat)(c:Frame)(cs:List Frame)(g:JF)(w:JE):Prop:=
 ∃T:JC,g=G ((base L.wait).at ⟨T,[]⟩ [.code (L7 L),.inLoop (L7 L),.inBlock 0]) (c::cs)/\T.size=84/\T[0]?=some (JL Wg)/\WgLive L.tWg Wg w
section
variable{L:WgLink}{Wg:Nat}{Fin:JF->JE->Prop}{b₀:Frame}{a₀:Act}{ops₀:Array Oper}{i₀:Nat}{rest₀:List Nat}{k₀:List Item}{cs:List Frame}{mT:Nat}
set_option maxHeartbeats 16000000 in
def Jo3{P:Program}(H:WgLib P L)
  (hT:∀w,WgLive L.tWg Wg w->Goes P true (RM L.tWg Wg) DC0 Fin mT (G (b₀.at (a₀.put ((ops₀[i₀]?).bind (·.dst)) (.tuple #[])) (.inRegion ops₀ rest₀::k₀)) cs) w)
  (g:JF) (w:JE) (h:Jea L Wg (b₀.at a₀ (.inRegion ops₀ (i₀::rest₀)::k₀)) cs g w) :
  ∃m,Goes P true (RM L.tWg Wg) DC0 (JW1 P L.tWg Wg Fin (Jea L Wg (b₀.at a₀ (.inRegion ops₀ (i₀::rest₀)::k₀)) cs)) m g w:=by
 lib_facts
 obtain⟨T,rfl,hT84,t0,hK⟩:=h;obtain⟨v0,v1,v2,v3,v4,v5,v6,v7,v8,v9,v10,v11,v12,v13,v14,v15,v16,v17,v18,v19,v20,v21,v22,v23,v24,v25,v26,v27,v28,v29,v30,v31,v32,v33,v34,v35,v36,v37,v38,v39,v40,v41,v42,v43,v44,v45,v46,v47,v48,v49,v50,v51,v52,v53,v54,v55,v56,v57,v58,v59,v60,v61,v62,v63,v64,v65,v66,v67,v68,v69,v70,v71,v72,v73,v74,v75,v76,v77,v78,v79,v80,v81,v82,v83,rfl⟩:=array84 T hT84;simp only[List.getElem?_toArray,List.getElem?_cons_zero,Cb]at t0;subst t0;refine⟨30,?_⟩;simp only[L7,body_wait,waitFn,A8]
 u_c stepG_block (J4) hK
 repeat(first
  |u_c stepG_region_end (J4) hK
  |u_c stepG_seq (J4) hK
  |u_reg (J4) hK
  |u_skip (J4) hK
  |u_c stepG_skip (J4) hK
  |u_c stepG_ret' (J4) hK
  |u_cond true (J4) hK
  |u_cond false (J4) hK
  |u_op (J4) hK
  |u_call H.f_uLoad (nm_uLoad L) uLoadFn (J4) hK)
 refine Goes.stop (λwZ1 h₁=>?_);replace hK:=J4 hK h₁;clear h₁;refine⟨rfl,λv hv hw=>?_⟩;rcases Nat.eq_zero_or_pos v with rfl|hvp
 ·
  replace hw:WgAt L.tWg Wg wZ1 0 0:=by simpa using hw
  refine⟨_,stepG_load_atomic (v:=0) rfl rfl (by k_ne) rfl H.f_loadU64 (x_loadU64_n L) (x_loadU64_b L) (x_loadU64_x L) .u64 (x_loadU64_f L) rfl hw.cellSt,λ_=>⟨50,?_⟩,λh=>absurd rfl h⟩;clear hw
  walk_nrm
  repeat(first
   |u_c stepG_region_end (J4) hK
   |u_c stepG_seq (J4) hK
   |u_reg (J4) hK
   |u_skip (J4) hK
   |u_c stepG_skip (J4) hK
   |u_c stepG_ret' (J4) hK
   |u_cond true (J4) hK
   |u_cond false (J4) hK
   |u_leave1 H.f_uLoad (J4) hK
   |u_op (J4) hK)
  refine Goes.stop (λwZ5 hZ5=>?_);replace hK:=J4 hK hZ5;clear hZ5;refine⟨rfl,_,stepG_mark0 .enable (by simp) rfl rfl (by k_ne) rfl H.f_enable (x_enable_n L) (x_enable_b L) (x_enable_x L) (x_enable_f L),12,?_⟩
  walk_nrm
  repeat(first
   |u_c stepG_region_end (J4) hK
   |u_c stepG_seq (J4) hK
   |u_reg (J4) hK
   |u_skip (J4) hK
   |u_c stepG_skip (J4) hK
   |u_c stepG_ret' (J4) hK
   |u_cond true (J4) hK
   |u_cond false (J4) hK
   |u_op (J4) hK
   |u_conv H.underlying_tWgP H.room_tWg (WgLive.cell0 hK).choose_spec (J4) hK)
  refine Goes.stop (λwZ6 hZ6=>?_);replace hK:=J4 hK hZ6;clear hZ6;refine⟨rfl,_,stepG_markAt .acquire (by simp) rfl rfl (by k_ne) rfl H.f_acquire (x_acquire_n L) (x_acquire_b L) (x_acquire_x L) (x_acquire_f L) (by simp[Act.eval,stA]),⟨mT+20,?_⟩⟩
  walk_nrm
  repeat(first
   |u_c stepG_region_end (J4) hK
   |u_c stepG_seq (J4) hK
   |u_reg (J4) hK
   |u_skip (J4) hK
   |u_c stepG_skip (J4) hK
   |u_c stepG_ret' (J4) hK
   |u_cond true (J4) hK
   |u_cond false (J4) hK
   |u_leave0 H.f_wait (J4) hK
   |u_op (J4) hK)
  exact Jrj (hT _ hK) (by omega)
 ·
  obtain⟨S,hS⟩:∃S:Int,(v:Int)*KK=S:=⟨_,rfl⟩;have a1:S / 4294967296=(v:Int):=by rw[<- hS];simp only[KK];omega
  have b1:bits .and .u64 S 2147483648=0:=by rw[<- hS];have:=st_flag v 0 (by omega) (by omega);simpa[KK]using this
  have b2:bits .and .u64 S 2147483647=0:=by rw[<- hS];have:=st_waiters v 0 (by omega) (by omega);simpa[KK]using this
  have c1:IntKind.i32.wrap (v:Int)=(v:Int):=by rw[IntKind.wrap_i32];omega
  have w1:IntKind.u64.wrap (S+1)=S+1:=by rw[IntKind.wrap_u64,<- hS];simp only[KK];omega
  have q3:decide ((v:Int)<0)=false:=decide_eq_false (by omega);have q4:decide (0<(v:Int))=true:=decide_eq_true (by omega);have q5:((v:Int) == 0)=false:=by simp;omega
  have q6:decide ((v:Int)=0)=false:=decide_eq_false (by omega);rw[hS]at hw;refine⟨_,stepG_load_atomic (v:=S) rfl rfl (by k_ne) rfl H.f_loadU64 (x_loadU64_n L) (x_loadU64_b L) (x_loadU64_x L) .u64 (x_loadU64_f L) rfl hw.cellSt,λh0=>absurd h0 (by omega),λ_=>⟨80,?_⟩⟩;clear hw
  walk_nrm
  repeat(first
   |u_c stepG_region_end (J4) hK
   |u_c stepG_seq (J4) hK
   |u_reg (J4) hK
   |u_skip (J4) hK
   |u_c stepG_skip (J4) hK
   |u_c stepG_ret' (J4) hK
   |u_cond true (J4) hK
   |u_cond false (J4) hK
   |u_leave1 H.f_uLoad (J4) hK
   |u_cnd false (J4) hK
   |u_op (J4) hK
   |u_call H.f_uCas (nm_uCas L) uCasFn (J4) hK)
  refine Goes.stop (λwZ2 h₂=>?_);replace hK:=J4 hK h₂;clear h₂;refine⟨rfl,λv' OV hw=>⟨λe=>?_,λe=>?_⟩⟩
  ·
   subst e;rw[hS]at hw ⊢;refine⟨_,(stepG_cas_hit (v:=S) (n:=S+1) rfl rfl (by k_ne) rfl H.f_casU64 (x_casU64_n L) (x_casU64_b L) (x_casU64_x L) .u64 (x_casU64_f L) rfl rfl rfl hw.cellSt (hw.thaw 0)).trans (by rfl),60,?_⟩;replace hK:WgLive L.tWg Wg (wZ2.setCell (stA Wg) (.int .u64 (S+1))):=⟨_,_,hw.setSt (S+1)⟩;clear hw
   walk_nrm
   repeat(first
    |u_c stepG_region_end (J4) hK
    |u_c stepG_seq (J4) hK
    |u_reg (J4) hK
    |u_skip (J4) hK
    |u_c stepG_skip (J4) hK
    |u_c stepG_ret' (J4) hK
    |u_cond true (J4) hK
    |u_cond false (J4) hK
    |u_leave1 H.f_uCas (J4) hK
    |u_op (J4) hK
    |u_conv H.underlying_tPU32 H.room_tU32 (WgLive.cell1 hK).choose_spec (J4) hK)
   refine Goes.stop (λwZ3 h₃=>?_);replace hK:=J4 hK h₃;clear h₃;refine⟨rfl,_,stepG_markAt .write (by simp) rfl rfl (by k_ne) rfl H.f_raceWrite (x_raceWrite_n L) (x_raceWrite_b L) (x_raceWrite_x L) (x_raceWrite_f L) (ad:=⟨Wg,1,none⟩) (by simp[Act.eval]),40,?_⟩
   walk_nrm
   repeat(first
    |u_c stepG_region_end (J4) hK
    |u_c stepG_seq (J4) hK
    |u_reg (J4) hK
    |u_skip (J4) hK
    |u_c stepG_skip (J4) hK
    |u_c stepG_ret' (J4) hK
    |u_cond true (J4) hK
    |u_cond false (J4) hK
    |u_op (J4) hK)
   refine Goes.stop (λwZ3 h₃=>?_);replace hK:=J4 hK h₃;clear h₃;refine⟨rfl,rfl,λ⟨st,hw⟩=>stepG_semacquire_wait rfl rfl rfl H.f_semacquire (x_semacquire_n L) (x_semacquire_b L) (x_semacquire_x L) (x_semacquire_f L) (by simp[Act.eval,smA]) hw.cellSm,λhf=>?_⟩;refine⟨_,(stepG_semacquire (n:=1) rfl rfl (by k_ne) rfl H.f_semacquire (x_semacquire_n L) (x_semacquire_b L) (x_semacquire_x L) (x_semacquire_f L) (by simp[Act.eval,smA]) hf.cellSm (by k_ne) (hf.thaw 1)).trans (by rfl),30,?_⟩;replace hK:WgLive L.tWg Wg (wZ3.setCell (smA Wg) (.int .u32 0)):=⟨_,_,hf.setSm 0⟩;clear hf
   walk_nrm
   repeat(first
    |u_c stepG_region_end (J4) hK
    |u_c stepG_seq (J4) hK
    |u_reg (J4) hK
    |u_skip (J4) hK
    |u_c stepG_skip (J4) hK
    |u_c stepG_ret' (J4) hK
    |u_cond true (J4) hK
    |u_cond false (J4) hK
    |u_op (J4) hK
    |u_call H.f_uLoad (nm_uLoad L) uLoadFn (J4) hK)
   refine Goes.stop (λwZ4 hZ4=>?_);replace hK:=J4 hK hZ4;clear hZ4;refine⟨rfl,λhw=>⟨_,stepG_load_atomic (v:=0) rfl rfl (by k_ne) rfl H.f_loadU64 (x_loadU64_n L) (x_loadU64_b L) (x_loadU64_x L) .u64 (x_loadU64_f L) rfl hw.cellSt,30,?_⟩⟩;clear hw
   walk_nrm
   repeat(first
    |u_c stepG_region_end (J4) hK
    |u_c stepG_seq (J4) hK
    |u_reg (J4) hK
    |u_skip (J4) hK
    |u_c stepG_skip (J4) hK
    |u_c stepG_ret' (J4) hK
    |u_cond true (J4) hK
    |u_cond false (J4) hK
    |u_leave1 H.f_uLoad (J4) hK
    |u_op (J4) hK)
   refine Goes.stop (λwZ5 hZ5=>?_);replace hK:=J4 hK hZ5;clear hZ5;refine⟨rfl,_,stepG_mark0 .enable (by simp) rfl rfl (by k_ne) rfl H.f_enable (x_enable_n L) (x_enable_b L) (x_enable_x L) (x_enable_f L),12,?_⟩
   walk_nrm
   repeat(first
    |u_c stepG_region_end (J4) hK
    |u_c stepG_seq (J4) hK
    |u_reg (J4) hK
    |u_skip (J4) hK
    |u_c stepG_skip (J4) hK
    |u_c stepG_ret' (J4) hK
    |u_cond true (J4) hK
    |u_cond false (J4) hK
    |u_op (J4) hK
    |u_conv H.underlying_tWgP H.room_tWg (WgLive.cell0 hK).choose_spec (J4) hK)
   refine Goes.stop (λwZ6 hZ6=>?_);replace hK:=J4 hK hZ6;clear hZ6;refine⟨rfl,_,stepG_markAt .acquire (by simp) rfl rfl (by k_ne) rfl H.f_acquire (x_acquire_n L) (x_acquire_b L) (x_acquire_x L) (x_acquire_f L) (by simp[Act.eval,stA]),⟨mT+20,?_⟩⟩
   walk_nrm
   repeat(first
    |u_c stepG_region_end (J4) hK
    |u_c stepG_seq (J4) hK
    |u_reg (J4) hK
    |u_skip (J4) hK
    |u_c stepG_skip (J4) hK
    |u_c stepG_ret' (J4) hK
    |u_cond true (J4) hK
    |u_cond false (J4) hK
    |u_leave0 H.f_wait (J4) hK
    |u_op (J4) hK)
   exact Jrj (hT _ hK) (by omega)
  ·
   refine⟨_,stepG_cas_miss (v:=(v':Int)*KK) (old:=S) (n:=S+1) rfl rfl (by k_ne) rfl H.f_casU64 (x_casU64_n L) (x_casU64_b L) (x_casU64_x L) .u64 (x_casU64_f L) rfl rfl rfl hw.cellSt (hw.thaw 0) (by rw[<- hS];simp only[KK];omega),20,?_⟩;clear hw
   walk_nrm
   repeat(first
    |u_c stepG_region_end (J4) hK
    |u_c stepG_seq (J4) hK
    |u_reg (J4) hK
    |u_skip (J4) hK
    |u_c stepG_skip (J4) hK
    |u_c stepG_ret' (J4) hK
    |u_cond true (J4) hK
    |u_cond false (J4) hK
    |u_leave1 H.f_uCas (J4) hK
    |u_op (J4) hK)
   u_c stepG_inBlock (J4) hK
   u_c stepG_inLoop (J4) hK
   refine Goes.stop (λwZ3 h₃=>?_);replace hK:=J4 hK h₃;exact⟨_,rfl,by simp,by simp,hK⟩
def Jo4{P:Program}(H:WgLib P L)(w:JE)(hK:WgLive L.tWg Wg w) :
  Goes P true (RM L.tWg Wg) DC0 (JKd P L.tWg Wg (Jea L Wg (b₀.at a₀ (.inRegion ops₀ (i₀::rest₀)::k₀)) cs)) 3
   (G ((base L.wait).at ⟨#[JL Wg,JA,JA,JA,JA,JA,JA,JA,JA,JA,JA,JA,JA,JA,JA,JA,JA,JA,JA,JA,JA,JA,JA,JA,JA,JA,JA,JA,JA,JA,JA,JA,JA,JA,JA,JA,JA,JA,JA,JA,JA,JA,JA,JA,JA,JA,JA,JA,JA,JA,JA,JA,JA,JA,JA,JA,JA,JA,JA,JA,JA,JA,JA,JA,JA,JA,JA,JA,JA,JA,JA,JA,JA,JA,JA,JA,JA,JA,JA,JA,JA,JA,JA,JA],[]⟩ [.code (body_wait L)]) (b₀.at a₀ (.inRegion ops₀ (i₀::rest₀)::k₀)::cs)) w:=by
 lib_facts
 simp only[body_wait,waitFn,A8]
 u_c stepG_seq (J4) hK
 u_cond true (J4) hK
 u_reg (J4) hK
 refine Goes.stop (λwZ1 h₁=>?_);replace hK:=J4 hK h₁;clear h₁;refine⟨rfl,_,stepG_mark0 .disable (by simp) rfl rfl (by k_ne) rfl H.f_disable (x_disable_n L) (x_disable_b L) (x_disable_x L) (x_disable_f L),3,?_⟩
 walk_nrm
 u_c stepG_region_end (J4) hK
 u_c stepG_block (J4) hK
 u_c stepG_loop (J4) hK
 exact Goes.stop (λwZ2 h₂=>⟨_,rfl,by simp,by simp,J4 hK h₂⟩)
end
end Go.Sim
