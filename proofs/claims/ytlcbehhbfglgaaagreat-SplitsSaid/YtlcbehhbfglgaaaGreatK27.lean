/- PROVED HERE: the statement itself. Conditions: none. -/
import Derived.Carry
import Derived.Test.YtlcbehhbfglgaaaGreatK23
import Derived.Test.YtlcbehhbfglgaaaGreatK26
set_option linter.all false
set_option maxRecDepth 100000
open Go.Proofs.Tryz
section
namespace Go.Sim.Z
open Go Go.Proofs Go.RowKit Go.Conc Go.Maps
theorem J01y{w:JE}{c az mz:Int}{la:JI}{rs:List Gt}{n lc:Nat}(hh:w.heap[prog.globals.size]?=some (.cells ((Array.range prog.types.size).map λt=>.int .u64 (Int.ofNat t)) 0))(hc:I64 c)(haz:I64 az)(hm:I64 mz)(hR:gQ w la rs)(hn:rs.length=n)
  (hA:∀a,la=some a->a.block<w.heap.size/\(∀c z,w.heap[a.block]?≠some (.cells c wgT z))/\∀c z,w.heap[a.block]?≠some (.cells c 0 z)) :
  ∃M last o w' t',runNT prog (M+1) (solo (G (Frame.enter prog 5 #[.int .i64 c,.slice la n lc,.int .i64 az,.int .i64 mz] .normal) []) w) #[]=(.ended o w',t')/\runN prog M (solo (G (Frame.enter prog 5 #[.int .i64 c,.slice la n lc,.int .i64 az,.int .i64 mz] .normal) []) w)=.next last /\
   step prog last=.ended o w'/\Go.Conc.Good prog (λv w'=>v=.bool true/\(∀b,b<w.heap.size->w'.heap[b]?=w.heap[b]?)/\w'.os=w.os/\w'.output=w.output) last o w' t':=by
 have hW:∀b,(b<w.heap.size/\b≠prog.globals.size)->b<w.heap.size:=λb h=>h.1;rw[enter_at _ (show prog.funcs[5]?=some f5 by kernel_rfl) body5];have KO:f5.ntmps=86:=by kernel_rfl
 rw[KO,show(86-(#[Value.int .i64 c,.slice la n lc,.int .i64 az,.int .i64 mz]:JC).size)=82 from rfl];obtain⟨T0,L8⟩:∃T0,T0=#[Value.int .i64 c,.slice la n lc,.int .i64 az,.int .i64 mz]++Array.replicate 82 JA:=⟨_,rfl⟩;rw[<- L8];have sz:T0.size=86:=by rw[L8];simp
 have s0:T0[0]?=some (.int .i64 c):=by rw[L8];simp
 have s1:T0[1]?=some (.slice la n lc):=by rw[L8];simp
 have s2:T0[2]?=some (.int .i64 az):=by rw[L8];simp
 have s3:T0[3]?=some (.int .i64 mz):=by rw[L8];simp
 have sn:∀j x,4<=j->T0[j]?=some x->x=JA:=λj x h1 hx=>by
  rw[L8,Array.getElem?_append_right (by simpa using h1),Array.getElem?_replicate]at hx;split at hx
  ·exact(Aa hx).symm
  ·cases hx
 clear L8;have ht:TmR C0 S0 5 (idE λb=>b=prog.globals.size) T0 T0:=by
  refine⟨rfl,λj x x' hj h1 h2=>?_,λj x hj _=>by cases hj⟩;rw[h1]at h2;cases h2
  match j with
  |0=>rw[s0]at h1;cases h1;exact .int _ _
  |1=>cases hj
  |2=>rw[s2]at h1;cases h1;exact .int _ _
  |3=>rw[s3]at h1;cases h1;exact .int _ _
  |j+4=>rw[sn _ x (by omega) h1];exact .undef
 obtain⟨M,last,o,w',t',h1,h2,h3,h4⟩:=Jgr hW (J01t (Jql hh) (Jqm hh) hc haz hm hR hn (λa ha=>⟨(hA a ha).1,λe=>(hA a ha).2.2 _ _ (by rw[e];exact hh)⟩) (λa ha=>(hA a ha).2.1) sz s0 s1 s2 s3 ht);refine⟨M,last,o,w',t',h1,h2,h3,?_⟩;obtain⟨v,a1,⟨⟨a2,a3⟩,a4,a5,a6⟩,a7⟩:=h4;refine⟨v,a1,⟨a2,λb hb=>?_,a5,a6⟩,a7⟩;by_cases e:b=prog.globals.size
 ·subst e;rw[hh];exact a3 _ _ rfl hh trivial
 ·exact a4 b ⟨hb,e⟩
end Go.Sim.Z
namespace Go.Proofs.YtlcbehhbfglgaaaGreat
open Go.Sim.Z Go.ChangeShapes Go.WideShapes Go.ChangeAt Go.RowKit Go.Conc
theorem J01b(os:Os)(started:os.Started)(H:Type)(enc:JH × JJ->H) :
  ReturnsInLeavingWide {} checked os 5 .any (Rows.splitsSpec.pre6 enc prog f5 Rows.splitsRow.domain false) (Rows.splitsSpec.post enc prog f5 false true false false):=by
 refine returnsInLeavingWide_of_good (C:=checked) Go.Sim.Z.Tryz.own started
  (ChangeSpec.witness6 (enc:=enc) (C:=checked) false ⟨#[],#[.int .i64 0,.slice none 0 0,.int .i64 0,.int .i64 0],[]⟩ 8 (by kernel_rfl) (by kernel_rfl) (by kernel_rfl) (by kernel_rfl)) ?_
 intro w tape i _ Dj _ hok RG _;obtain⟨_,_,_,Qq,hfn',_,_,_,_,Iu⟩:=hok;have hf4:checked.prog.funcs[5]?=some f5:=by kernel_rfl
 obtain rfl:Qq=f5:=Aa (hfn'.symm.trans hf4);obtain⟨⟨ds,gs,before,hw,hc⟩,hz⟩:=RG;have UM:=DataW.Whole.of_heap (w':=w.forCall tape i) (by rfl) hw;have GY:=DataW.Whole.of_heap (w':=(w.forCall tape i).blind) (by rfl) hw;obtain⟨wf,args,vars⟩:Input:=i;generalize hW:w.forCall tape ⟨wf,args,vars⟩=W at *;simp only at UM GY Iu ⊢;have Ac:=UM.lt;obtain⟨p,q,hA0,hV,rfl,_,_⟩:=UM;have ZF:f5.params.toList=[3,22,3,3]:=by kernel_rfl
 have hA:DataW.TrodAll enc prog W 0 (λ_=>true) true f5.params.toList args.toList ds p:=hA0;rw[ZF]at hA;obtain⟨v0,v1,v2,v3,d0,d1,d2,d3,p0,p1,p2,p3,rfl,rfl,rfl,t0,t1,t2,t3⟩:=trodAll_four hA;obtain⟨rfl,rfl⟩:=trodVars_none hV;have Nw:Value.okWide prog W .any w.heap.size 3 v0:=Iu 0 3 v0 (by kernel_rfl) rfl;have YH:Value.okWide prog W .any w.heap.size 22 v1:=Iu 1 22 v1 (by kernel_rfl) rfl;have LD:Value.okWide prog W .any w.heap.size 3 v2:=Iu 2 3 v2 (by kernel_rfl) rfl;have UO:Value.okWide prog W .any w.heap.size 3 v3:=Iu 3 3 v3 (by kernel_rfl) rfl;obtain⟨c,rfl,rfl,rfl,hcw⟩:=open_int SG Nw t0;obtain⟨z,rfl,rfl,rfl,hzw⟩:=open_int SG LD t2;obtain⟨m,rfl,rfl,rfl,xK⟩:=open_int SG UO t3;obtain⟨la,n,lc,rfl⟩:=okWide_slice Jnm YH;obtain⟨rs,hn,hR,jY⟩:=Jt4 ⟨_,_,YH⟩ t1;have Rf:∀{x:Int},(Lit.int .i64 x).wf=true->I64 x:=λh=>by simp[Lit.wf,IntKind.min,IntKind.max,IntKind.signed,IntKind.bits]at h;exact⟨by omega,by omega⟩
 obtain⟨M,last,o,w',t',h1,h2,h3,v,a1,⟨rfl,a3,a4,a5⟩,a6⟩:=J01y (Jnn Dj) (Rf hcw) (Rf hzw) (Rf xK) hR hn jY;refine⟨M,last,o,w',t',h1,h2,h3,_,a1,?_,a6⟩;have hb:Below W.blind.heap.size W.blind w'.blind:=⟨a4,rfl,a5,Jwh a3,a3⟩;have Lp:∀x∈p1,x.block<W.blind.heap.size:=λx hx=>Ac x (by simp[hx]);refine⟨[.lit (.int .i64 c),d1,.lit (.int .i64 z),.lit (.int .i64 m)],[],_,[],[]++(p1++([]++[])),[],GY,?_,?_,rfl,hb.frame _,λh=>by cases h⟩
 ·have hrt:f5.resultTypes.toList=[4]:=by kernel_rfl
  have hrs:f5.resultTypes.size=1:=by kernel_rfl
  show DataW.TrodAll enc prog w'.blind W.blind.heap.size (λ_=>false) false f5.resultTypes.toList (Value.resultList f5.resultTypes.size (.bool true)) [.lit (.bool true)] [];rw[hrt,hrs];exact trodAll_mk1 (shut_bool und4 true)
 ·show DataW.TrodAll enc prog w'.blind 0 (λb=>decide (b<W.blind.heap.size)) true f5.params.toList [.int .i64 c,.slice la n lc,.int .i64 z,.int .i64 m] [.lit (.int .i64 c),d1,.lit (.int .i64 z),.lit (.int .i64 m)] ([]++(p1++([]++[])));rw[ZF];exact trodAll_mk4 (shut_int SG hcw) (Below.trod Jhm (by kernel_rfl) (of_decide_eq_true (by kernel_rfl)) (W:=W.blind) (DataW.Trod.of_heap (w:=W) (w':=W.blind) rfl t1) hb Lp) (shut_int SG hzw) (shut_int SG xK)
theorem splits_holds:Rows.SplitsSaid:=
 OpenClaim.holds_of_wide_leaving 5 f5 rfl rfl rfl rfl rfl rfl rfl ⟨rfl,rfl,rfl,rfl,rfl⟩ rfl rfl rfl rfl rfl (by kernel_rfl) (by kernel_rfl) (by kernel_rfl)
  (of_decide_eq_true (by kernel_rfl)) (by unfold Func.isWrapper;first|(rw[if_pos (by decide +kernel)];kernel_rfl)|(rw[if_neg (by decide +kernel)];exact⟨rfl,rfl⟩))
  (λos started H enc _=>J01b os started H enc)
end Go.Proofs.YtlcbehhbfglgaaaGreat
end
