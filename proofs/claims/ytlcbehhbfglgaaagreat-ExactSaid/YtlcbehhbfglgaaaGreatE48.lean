/- PROVED HERE: the statement itself. Conditions: none. (parts Rg) -/
import Derived.Test.YtlcbehhbfglgaaaGreatRows
import Derived.ProofKit
import Derived.Test.YtlcbehhbfglgaaaGreatE42
import Derived.Test.YtlcbehhbfglgaaaGreatE47
set_option linter.all false
section
namespace Go.Sim.Z
open Go Go.Proofs Go.RowKit Go.Conc Go.Maps
theorem bok_start {w:World} (hh:w.heap[Tryz.prog.globals.size]?=some (.cells ((Array.range Tryz.prog.types.size).map fun t=>.int .u64 (Int.ofNat t)) 0)):BOk C0 S0 (fun b=>b<w.heap.size∧b≠Tryz.prog.globals.size) (fun b=>b=Tryz.prog.globals.size) w:=by
 refine ⟨WR.self rfl fun b hb=>?_,rfl,fun g hg=>(by cases hg),fun b hb he=>hb.2 he⟩
 subst hb
 refine ⟨_,hh,_,_,rfl,.refl_of fun v hv=>?_,fun h=>(C0.lax rfl _ h).elim,fun _=>⟨rfl,fun _=>rfl⟩⟩
 simp only [Array.toList_map,List.mem_map] at hv
 obtain ⟨t,_,rfl⟩:=hv
 exact .int _ _
theorem hok_start {w:World} (hh:w.heap[Tryz.prog.globals.size]?=some (.cells ((Array.range Tryz.prog.types.size).map fun t=>.int .u64 (Int.ofNat t)) 0)):HOk w:=by
 refine ⟨_,_,⟨(0,0),hh,fun _=>rfl⟩,fun v hv=>?_⟩
 simp only [Array.toList_map,List.mem_map] at hv
 obtain ⟨t,_,rfl⟩:=hv
 exact ⟨_,_,rfl⟩
set_option maxRecDepth 10000 in
theorem exact_runs {w:World} {c:Int} {la:Option Addr} {rs:List RawD} {n lc:Nat} (hh:w.heap[Tryz.prog.globals.size]?=some (.cells ((Array.range Tryz.prog.types.size).map fun t=>.int .u64 (Int.ofNat t)) 0)) (hc:I64 c) (hR:RawAt w la rs) (hn:rs.length=n)
  (hA:∀ a,la=some a→a.block<w.heap.size∧(∀ c z,w.heap[a.block]?≠some (.cells c wgT z))∧∀ c z,w.heap[a.block]?≠some (.cells c 0 z)) :
  ∃ M last o w' t',runNT Tryz.prog (M+1) (solo (G (Frame.enter Tryz.prog 4 #[.int .i64 c,.slice la n lc] .normal) []) w) #[]=(.ended o w',t')∧runN Tryz.prog M (solo (G (Frame.enter Tryz.prog 4 #[.int .i64 c,.slice la n lc] .normal) []) w)=.next last ∧
   step Tryz.prog last=.ended o w'∧Go.Conc.Good Tryz.prog (fun v w'=>v=.bool true∧(∀ b,b<w.heap.size→w'.heap[b]?=w.heap[b]?)∧w'.os=w.os∧w'.output=w.output) last o w' t':=by
 have hW:∀ b,(b<w.heap.size∧b≠Tryz.prog.globals.size)→b<w.heap.size:=fun b h=>h.1
 rw [enter_at _ (show Tryz.prog.funcs[4]?=some Tryz.f4 by kernel_rfl) body4]
 have hnt:Tryz.f4.ntmps=170:=by kernel_rfl
 rw [hnt,show (170-(#[Value.int .i64 c,.slice la n lc]:Array Value).size)=168 from rfl]
 obtain ⟨T0,hT0⟩:∃ T0,T0=#[Value.int .i64 c,.slice la n lc]++Array.replicate 168 undef:=⟨_,rfl⟩
 rw [← hT0]
 have sz:T0.size=170:=by rw [hT0];simp
 have s0:T0[0]?=some (.int .i64 c):=by rw [hT0];simp
 have s1:T0[1]?=some (.slice la n lc):=by rw [hT0];simp
 have sn:∀ j x,2≤j→T0[j]?=some x→x=undef:=fun j x h1 hx=>by
  rw [hT0,Array.getElem?_append_right (by simpa using h1),Array.getElem?_replicate] at hx
  split at hx
  ·exact (Option.some.inj hx).symm
  ·cases hx
 clear hT0
 have ht:TmR C0 S0 4 (idE fun b=>b=Tryz.prog.globals.size) T0 T0:=by
  refine ⟨rfl,fun j x x' hj h1 h2=>?_,fun j x hj _=>by cases hj⟩
  rw [h1] at h2;cases h2
  match j with
  | 0=>rw [s0] at h1;cases h1;exact .int _ _
  | 1=>cases hj
  | j+2=>rw [sn _ x (by omega) h1];exact .undef
 obtain ⟨M,last,o,w',t',h1,h2,h3,h4⟩:=ends_of_reach hW (reach_exact (bok_start hh) (hok_start hh) hc hR hn (fun a ha=>⟨(hA a ha).1,fun e=>(hA a ha).2.2 _ _ (by rw [e];exact hh)⟩) (fun a ha=>(hA a ha).2.1) sz s0 s1 ht)
 refine ⟨M,last,o,w',t',h1,h2,h3,?_⟩
 obtain ⟨v,a1,⟨⟨a2,a3⟩,a4,a5,a6⟩,a7⟩:=h4
 refine ⟨v,a1,⟨a2,fun b hb=>?_,a5,a6⟩,a7⟩
 by_cases e:b=Tryz.prog.globals.size
 ·subst e
  rw [hh]
  exact a3 _ _ rfl hh trivial
 ·exact a4 b ⟨hb,e⟩
theorem size_of {w w':World} (h:∀ b,b<w.heap.size→w'.heap[b]?=w.heap[b]?):w.heap.size≤w'.heap.size:=by
 rcases Nat.eq_zero_or_pos w.heap.size with e|e
 ·omega
 ·have h1:=h (w.heap.size-1) (by omega)
  rw [Array.getElem?_eq_getElem (show w.heap.size-1<w.heap.size by omega)] at h1
  have:=(Array.getElem?_eq_some_iff.1 h1).1
  omega
theorem Tryz.own:ownKnob Tryz.prog.godebug=none:=by kernel_rfl
theorem und4:Tryz.prog.underlying 4=some .bool:=by kernel_rfl
end Go.Sim.Z
namespace Go.Proofs.YtlcbehhbfglgaaaGreat
open Go.Sim.Z Go.ChangeShapes Go.WideShapes Go.ChangeAt Go.RowKit Go.Conc
set_option maxRecDepth 100000 in
theorem exact_lifted (os:Os) (started:os.Started) (H:Type) (enc:TypeId × Value→H) :
  ReturnsInLeavingWide {} Tryz.checked os 4 .any (Rows.exactSpec.pre6 enc Tryz.prog Tryz.f4 Rows.exactRow.domain false) (Rows.exactSpec.post enc Tryz.prog Tryz.f4 false true false false):=by
 refine returnsInLeavingWide_of_good (C:=Tryz.checked) Go.Sim.Z.Tryz.own started
  (ChangeSpec.witness6 (enc:=enc) (C:=Tryz.checked) false ⟨#[],#[.int .i64 0,.slice none 0 0],[]⟩ 8 (by kernel_rfl) (by kernel_rfl) (by kernel_rfl) (by kernel_rfl)) ?_
 intro w tape i _ hsh _ hok hpre _
 obtain ⟨_,_,_,fn',hfn',_,_,_,_,hval⟩:=hok
 have hf4:Tryz.checked.prog.funcs[4]?=some Tryz.f4:=by kernel_rfl
 obtain rfl:fn'=Tryz.f4:=Option.some.inj (hfn'.symm.trans hf4)
 obtain ⟨⟨ds,gs,before,hw,hc⟩,hz⟩:=hpre
 have hw':=DataW.Whole.of_heap (w':=w.forCall tape i) (by rfl) hw
 have hwb:=DataW.Whole.of_heap (w':=(w.forCall tape i).blind) (by rfl) hw
 obtain ⟨wf,args,vars⟩:Input:=i
 generalize hW:w.forCall tape ⟨wf,args,vars⟩=W at *
 simp only at hw' hwb hval ⊢
 have hlt:=hw'.lt
 obtain ⟨p,q,hA0,hV,rfl,_,_⟩:=hw'
 have hp4:Tryz.f4.params.toList=[3,22]:=by kernel_rfl
 have hA:DataW.TrodAll enc Tryz.prog W 0 (fun _=>true) true Tryz.f4.params.toList args.toList ds p:=hA0
 rw [hp4] at hA
 obtain ⟨v0,v1,d0,d1,p0,p1,rfl,rfl,rfl,t0,t1⟩:=trodAll_two hA
 obtain ⟨rfl,rfl⟩:=trodVars_none hV
 have hv0:Value.okWide Tryz.prog W .any w.heap.size 3 v0:=hval 0 3 v0 (by kernel_rfl) rfl
 have hv1:Value.okWide Tryz.prog W .any w.heap.size 22 v1:=hval 1 22 v1 (by kernel_rfl) rfl
 obtain ⟨c,rfl,rfl,rfl,hcw⟩:=open_int und3 hv0 t0
 obtain ⟨la,n,lc,rfl⟩:=okWide_slice und22 hv1
 obtain ⟨rs,hn,hR,hA1⟩:=open_raw ⟨_,_,hv1⟩ t1
 have hci:I64 c:=by
  simp [Lit.wf,IntKind.min,IntKind.max,IntKind.signed,IntKind.bits] at hcw
  exact ⟨by omega,by omega⟩
 obtain ⟨M,last,o,w',t',h1,h2,h3,v,a1,⟨rfl,a3,a4,a5⟩,a6⟩:=exact_runs (shaped_hok hsh) hci hR hn hA1
 refine ⟨M,last,o,w',t',h1,h2,h3,_,a1,?_,a6⟩
 have hb:Below W.blind.heap.size W.blind w'.blind:=⟨a4,rfl,a5,size_of a3,a3⟩
 have hp1:∀ x∈p1,x.block<W.blind.heap.size:=fun x hx=>hlt x (by simp [hx])
 refine ⟨[.lit (.int .i64 c),d1],[],_,[],[]++p1,[],hwb,?_,?_,rfl,hb.frame _,fun h=>by cases h⟩
 ·have hrt:Tryz.f4.resultTypes.toList=[4]:=by kernel_rfl
  have hrs:Tryz.f4.resultTypes.size=1:=by kernel_rfl
  show DataW.TrodAll enc Tryz.prog w'.blind W.blind.heap.size (fun _=>false) false Tryz.f4.resultTypes.toList (Value.resultList Tryz.f4.resultTypes.size (.bool true)) [.lit (.bool true)] []
  rw [hrt,hrs]
  exact trodAll_mk1 (shut_bool und4 true)
 ·show DataW.TrodAll enc Tryz.prog w'.blind 0 (fun b=>decide (b<W.blind.heap.size)) true Tryz.f4.params.toList [.int .i64 c,.slice la n lc] [.lit (.int .i64 c),d1] ([]++p1)
  rw [hp4]
  exact trodAll_mk2 (shut_int und3 hcw) (Below.trod laidOutZ (by kernel_rfl) (of_decide_eq_true (by kernel_rfl)) (W:=W.blind) (DataW.Trod.of_heap (w:=W) (w':=W.blind) rfl t1) hb hp1)
theorem exact_holds:Rows.ExactSaid:=
 OpenClaim.holds_of_wide_leaving 4 Tryz.f4 rfl rfl rfl rfl rfl rfl rfl ⟨rfl,rfl,rfl,rfl,rfl⟩ rfl rfl rfl rfl rfl (by kernel_rfl) (by kernel_rfl) (by kernel_rfl)
  (of_decide_eq_true (by kernel_rfl)) (by unfold Func.isWrapper;first|(rw [if_pos (by decide +kernel)];kernel_rfl)|(rw [if_neg (by decide +kernel)];exact ⟨rfl,rfl⟩))
  (fun os started H enc _=>exact_lifted os started H enc)
end Go.Proofs.YtlcbehhbfglgaaaGreat
end
