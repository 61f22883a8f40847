/- PROVED HERE: the statement itself. Conditions: none. -/
import Derived.Test.YtlcbehhbfglgaaaGreatDoorCards
import Derived.LaidByTextLater
import Derived.LaidOnce
import Derived.ProofKit
import Derived.SevenTiedAt
import Derived.LaidLaws
import Derived.LaidHandle
import Derived.ChangeVars
import Derived.Test.YtlcbehhbfglgaaaGreatDoorA22
import Derived.Test.YtlcbehhbfglgaaaGreatDoorA26
set_option linter.all false
set_option maxRecDepth 100000
open Go.Proofs.Tryz
section
namespace Go.Sim.Z
open Go Go.Proofs Go.RowKit Go.Conc Go.Maps
def Jzs{w w':JE}(h:∀b,b<w.heap.size->w'.heap[b]?=w.heap[b]?):w.heap.size<=w'.heap.size:=by
 rcases Nat.eq_zero_or_pos w.heap.size with e|e
 .omega
 .have h1:=h (w.heap.size-1) (by omega);rw[Bz (show w.heap.size-1<w.heap.size by omega)]at h1;have:=(BJ.1 h1).1;omega
def Tryz.own:ownKnob prog.godebug=none:=by kernel_rfl
def und4:prog.underlying 4=some .bool:=by kernel_rfl
structure Starts(w:JE):Prop where
 hh:w.heap[1]?=some (.cells ((Array.range prog.types.size).map λt=>.int .u64 (Int.ofNat t)) 0)
 h0:w.heap[0]?=some (.cells #[.iface 226 (.agg #[.pointer (some ⟨1,33,none⟩)])] 159 (0,0))
def Starts.g1{w:JE}(h:Starts w):∃arr t,w.heap[1]?=some (.cells arr t (0,0))/\∀x∈arr.toList,∃k n,x=.int k n:=by refine⟨_,_,h.hh,λx hx=>?_⟩;simp only[Array.toList_map,AZ]at hx;obtain⟨t,_,rfl⟩:=hx;exact⟨_,_,rfl⟩
abbrev E1(b:Nat):Prop:=b=1\/b=0
def Jsk{w:JE}(h:Starts w):BOk C0 S0 (λb=>b<w.heap.size/\¬E1 b) E1 w:=by
 have g1:=h.g1;refine⟨WR.self rfl λb hb=>?_,?_,λg hg=>?_,λb hb he=>hb.2 he⟩
 .rcases hb with rfl|rfl
  .refine⟨_,h.hh,_,_,rfl,.VZ λv hv=>?_,λh=>(C0.lax rfl _ h).elim,λ_=>⟨rfl,λ_=>rfl⟩⟩;simp only[Array.toList_map,AZ]at hv;obtain⟨t,_,rfl⟩:=hv;exact .int _ _
  .refine⟨_,h.h0,_,_,rfl,.VZ λv hv=>?_,λh=>(C0.lax rfl _ h).elim,λ_=>⟨rfl,λ_=>rfl⟩⟩;simp only[AL,BU,or_false]at hv;subst hv;refine .iface 226 (by kernel_rfl) (.agg rfl λi x x' hx Af=>?_);rw[hx]at Af;cases Af
   match i,hx with
   |0,hx=>cases hx;exact .ptr 33 none ⟨rfl,.inl rfl⟩
   |i+1,hx=>simp at hx
 .show E1 prog.globals.size;rw[Wv];exact .inl rfl
 .have:g=0:=by simpa[S0]using hg
  subst this;exact .inr rfl
def Jsl{w:JE}(h:Starts w):HOk w:=by refine⟨_,_,⟨(0,0),by rw[Wv];exact h.hh,λ_=>rfl⟩,λv hv=>?_⟩;simp only[Array.toList_map,AZ]at hv;obtain⟨t,_,rfl⟩:=hv;exact⟨_,_,rfl⟩
def Tryz.rtName:(prog.cutTypes.find? (·.1 == "internal/reflectlite.rtype")).map (·.2)=some 226:=by kernel_rfl
def Tryz.oneRow:((List.range 371).filter λt=>prog.rowNamed t [101,114,114,111,114])=[33]:=by kernel_rfl
def Tryz.tsize:prog.types.size=371:=by kernel_rfl
def Tryz.glob:prog.globalNamed "errors.errorType"=some 0:=by kernel_rfl
def Tryz.row0:((begin prog (λ_ _=>0) default).world.heap[0]?).bind Obj.row?=some (#[.nilIface],159):=by kernel_rfl
def Jsm {w:JE} (Cj:w.ShapedOpen prog) (hl:laidMetH prog [("errors.errorType",Go.Proofs.YtlcbehhbfglgaaaGreatDoor.Rows.laid_errors_errorType)] w):Starts w:=by
 have h':laidMet prog [] w/\handlesMet prog [("errors.errorType",Go.Proofs.YtlcbehhbfglgaaaGreatDoor.Rows.laid_errors_errorType)] w:=hl;obtain⟨name,u,ty,e1,e2,e3,e4,e5⟩:=h'.2 _ (List.mem_singleton.2 rfl);have en:name=[101,114,114,111,114]:=(Aa e1).symm;subst en;obtain rfl:=Aa (Tryz.rtName.symm.trans e2);have hm:ty∈(List.range 371).filter λt=>prog.rowNamed t [101,114,114,111,114]:=Hq.2 ⟨List.mem_range.2 (by rw[<- Tryz.tsize];exact e3),e4⟩;rw[Tryz.oneRow]at hm;obtain rfl:=List.mem_singleton.1 hm;have hth:typeHandle prog 33=.pointer (some ⟨1,33,none⟩):=by kernel_rfl
 rw[hth]at e5;obtain⟨cs,h0,_⟩:=Cj.1 0 _ _ (by rw[Wv];omega) Tryz.row0;simp only[World.var?,Tryz.glob,Option.bind_some,h0]at e5;obtain rfl:=Aa e5;have h1:=Jpd Cj;rw[Wv]at h1;exact⟨h1,h0⟩
def Jlg{w:JE}{c mz:Int}{la:JI}{rs:List Gi}{n lc:Nat}(hS:Starts w)(hc:I64 c)(hm:I64 mz)(hR:YB w la rs)(hn:rs.length=n)
  (hA:∀a,la=some a->a.block<w.heap.size/\(∀c z,w.heap[a.block]?≠some (.cells c wgT z))/\(∀c z,w.heap[a.block]?≠some (.cells c 0 z))/\∀c z,w.heap[a.block]?≠some (.cells c 159 z)) :
  ∃M last o w' t',runNT prog (M+1) (solo (G (Frame.enter prog 5 #[.int .i64 c,.slice la n lc,.int .i64 mz] .normal) []) w) #[]=(.ended o w',t')/\runN prog M (solo (G (Frame.enter prog 5 #[.int .i64 c,.slice la n lc,.int .i64 mz] .normal) []) w)=.next last /\
   step prog last=.ended o w'/\Go.Conc.Good prog (λv w'=>v=.bool true/\(∀b,b<w.heap.size->w'.heap[b]?=w.heap[b]?)/\w'.os=w.os/\w'.output=w.output) last o w' t':=by
 have hW:∀b,(b<w.heap.size/\¬E1 b)->b<w.heap.size:=λb h=>h.1;rw[enter_at _ (show prog.funcs[5]?=some f5 by kernel_rfl) J05r];have LH:f5.ntmps=126:=by kernel_rfl
 rw[LH,show(126-(#[Value.int .i64 c,.slice la n lc,.int .i64 mz]:JC).size)=123 from rfl];obtain⟨T0,Lr⟩:∃T0,T0=#[Value.int .i64 c,.slice la n lc,.int .i64 mz]++Array.replicate 123 JA:=⟨_,rfl⟩;rw[<- Lr];have sz:T0.size=126:=by rw[Lr];simp
 have s0:T0[0]?=some (.int .i64 c):=by rw[Lr];simp
 have s1:T0[1]?=some (.slice la n lc):=by rw[Lr];simp
 have s2:T0[2]?=some (.int .i64 mz):=by rw[Lr];simp
 have sn:∀j x,3<=j->T0[j]?=some x->x=JA:=λj x h1 hx=>by
  rw[Lr,Array.getElem?_append_right (by simpa using h1),Array.getElem?_replicate]at hx;split at hx
  .exact(Aa hx).symm
  .cases hx
 clear Lr;have ht:TmR C0 S0 5 (idE E1) T0 T0:=by
  refine⟨rfl,λj x x' hj h1 h2=>?_,λj x hj _=>by cases hj⟩;rw[h1]at h2;cases h2
  match j with
  |0=>rw[s0]at h1;cases h1;exact .int _ _
  |1=>cases hj
  |2=>rw[s2]at h1;cases h1;exact .int _ _
  |j+3=>rw[sn _ x (by omega) h1];exact .undef
 obtain⟨M,last,o,w',t',h1,h2,h3,h4⟩:=Jhj hW (Jkp (Jsk hS) (Jsl hS) ⟨_,hS.h0⟩ hS.g1 hc hm hR hn (λa ha=>⟨(hA a ha).1,λe=>by
  rcases e with e|e
  .exact(hA a ha).2.2.1 _ _ (by rw[e];exact hS.hh)
  .exact(hA a ha).2.2.2 _ _ (by rw[e];exact hS.h0)⟩) (λa ha=>(hA a ha).2.1) sz s0 s1 s2 ht)
 refine⟨M,last,o,w',t',h1,h2,h3,?_⟩;obtain⟨v,a1,⟨⟨a2,a3⟩,a4,a5,a6⟩,a7⟩:=h4;refine⟨v,a1,⟨a2,λb hb=>?_,a5,a6⟩,a7⟩;by_cases e:E1 b
 .rcases e with rfl|rfl
  .rw[hS.hh];exact a3 _ _ (.inl rfl) hS.hh trivial
  .rw[hS.h0];exact a3 _ _ (.inr rfl) hS.h0 trivial
 .exact a4 b ⟨hb,e⟩
noncomputable def laidWorld(os:Os):JE:=
 let w0:=World.holding prog os ⟨#[],#[],[]⟩
 { w0 with heap:=w0.heap.modify 0 λ
   |.cells _ t frozen=>.cells #[.iface 226 (.agg #[.pointer (some ⟨1,33,none⟩)])] t frozen
   |o=>o }
def laidWorld_met (os:Os) (args:JC):laidMetH prog [("errors.errorType",Go.Proofs.YtlcbehhbfglgaaaGreatDoor.Rows.laid_errors_errorType)] ((laidWorld os).forCall (λ_ _=>0) ⟨#[],args,[]⟩).memory:=
 laidMetH_of_parts (laidMet_nil _ _) (by kernel_rfl)
end Go.Sim.Z
namespace Go.Proofs.YtlcbehhbfglgaaaGreatDoor
open Go.Sim.Z Go.ChangeShapes Go.WideShapes Go.ChangeAt Go.RowKit Go.Conc
theorem Jhl(os:Os)(started:os.Started)(H:Type)(enc:JH × JJ->H) :
  ReturnsInLeavingWide {} checked os 5 .any (λw args=>(Rows.middleSpec.pre enc prog f5 [] false w args/\laidMetH prog [("errors.errorType",Rows.laid_errors_errorType)] w)/\sizedMet enc prog f5 (OpenSpec.ofChange Rows.middleSpec) false w args) (Rows.middleSpec.post enc prog f5 false true false false):=by
 refine returnsInLeavingWide_of_good (C:=checked) Go.Sim.Z.Tryz.own started
  (ChangeSpec.witness_at (enc:=enc) (C:=checked) (os:=os) (X:=λw _=>laidMetH prog [("errors.errorType",Rows.laid_errors_errorType)] w) false (laidWorld os) #[.int .i64 0,.slice none 0 0,.int .i64 0] 8 rfl (by kernel_rfl) (by kernel_rfl) (by kernel_rfl) (by kernel_rfl) (by kernel_rfl) (laidWorld_met os _)) ?_
 intro w tape i _ Cj _ hok QU _;obtain⟨_,_,_,PL,hfn',_,_,_,_,IY⟩:=hok;have hf4:checked.prog.funcs[5]?=some f5:=by kernel_rfl
 obtain rfl:PL=f5:=Aa (hfn'.symm.trans hf4);obtain⟨⟨⟨ds,gs,before,hw,hc⟩,iY⟩,hz⟩:=QU;have Rf:=DataW.Whole.of_heap (w':=w.forCall tape i) (by rfl) hw;have N8:=DataW.Whole.of_heap (w':=(w.forCall tape i).blind) (by rfl) hw;have J03w:laidMetH prog [("errors.errorType",Rows.laid_errors_errorType)] (w.forCall tape i):=laidMetH.of_heap (w:=(w.forCall tape i).memory) (by rfl) iY;obtain⟨wf,args,vars⟩:Input:=i;generalize hW:w.forCall tape ⟨wf,args,vars⟩=W at *;simp only at Rf N8 IY ⊢;have Ac:=Rf.lt;obtain⟨p,q,hA0,hV,rfl,_,_⟩:=Rf;have Zg:f5.params.toList=[3,27,3]:=by kernel_rfl
 have hA:DataW.TrodAll enc prog W 0 (λ_=>true) true f5.params.toList args.toList ds p:=hA0;rw[Zg]at hA;obtain⟨v0,v1,v2,d0,d1,d2,p0,p1,p2,rfl,rfl,rfl,t0,t1,t2⟩:=trodAll_three hA;obtain⟨rfl,rfl⟩:=trodVars_none hV;have MK:Value.okWide prog W .any w.heap.size 3 v0:=IY 0 3 v0 (by kernel_rfl) rfl;have XT:Value.okWide prog W .any w.heap.size 27 v1:=IY 1 27 v1 (by kernel_rfl) rfl;have Iw:Value.okWide prog W .any w.heap.size 3 v2:=IY 2 3 v2 (by kernel_rfl) rfl;obtain⟨c,rfl,rfl,rfl,hcw⟩:=open_int TW MK t0;obtain⟨m,rfl,rfl,rfl,xW⟩:=open_int TW Iw t2;obtain⟨la,n,lc,rfl⟩:=okWide_slice Jpc XT;obtain⟨rs,hn,hR,fD⟩:=Jwg ⟨_,_,XT⟩ t1;have Un:∀{x:Int},(Lit.int .i64 x).wf=true->I64 x:=λh=>by simp[Lit.wf,IntKind.min,IntKind.max,IntKind.signed,IntKind.bits]at h;exact⟨by omega,by omega⟩
 obtain⟨M,last,o,w',t',h1,h2,h3,v,a1,⟨rfl,a3,a4,a5⟩,a6⟩:=Jlg (Jsm Cj J03w) (Un hcw) (Un xW) hR hn fD;refine⟨M,last,o,w',t',h1,h2,h3,_,a1,?_,a6⟩;have hb:Below W.blind.heap.size W.blind w'.blind:=⟨a4,rfl,a5,Jzs a3,a3⟩;have XG:∀x∈p1,x.block<W.blind.heap.size:=λx hx=>Ac x (by simp[hx]);refine⟨[.lit (.int .i64 c),d1,.lit (.int .i64 m)],[],_,[],[]++(p1++[]),[],N8,?_,?_,rfl,hb.frame _,λh=>by cases h⟩
 .have hrt:f5.resultTypes.toList=[4]:=by kernel_rfl
  have hrs:f5.resultTypes.size=1:=by kernel_rfl
  show DataW.TrodAll enc prog w'.blind W.blind.heap.size (λ_=>false) false f5.resultTypes.toList (Value.resultList f5.resultTypes.size (.bool true)) [.lit (.bool true)] [];rw[hrt,hrs];exact trodAll_mk1 (shut_bool und4 true)
 .show DataW.TrodAll enc prog w'.blind 0 (λb=>decide (b<W.blind.heap.size)) true f5.params.toList [.int .i64 c,.slice la n lc,.int .i64 m] [.lit (.int .i64 c),d1,.lit (.int .i64 m)] ([]++(p1++[]));rw[Zg];exact trodAll_mk3 (shut_int TW hcw) (Below.trod Jie (by kernel_rfl) (of_decide_eq_true (by kernel_rfl)) (W:=W.blind) (DataW.Trod.of_heap (w:=W) (w':=W.blind) rfl t1) hb XG) (shut_int TW xW)
theorem Jpe:Rows.middleRow.holds Tryz.pinned (OpenSpec.ofChange Rows.middleSpec):=
 OpenClaim.holds_of_wide_leaving 5 f5 rfl rfl rfl rfl rfl rfl rfl ⟨rfl,rfl,rfl,rfl,rfl⟩ rfl rfl rfl rfl rfl (by kernel_rfl) (by kernel_rfl) (by kernel_rfl)
  (of_decide_eq_true (by kernel_rfl)) (by unfold Func.isWrapper;first|(rw[if_pos (by decide +kernel)];kernel_rfl)|(rw[if_neg (by decide +kernel)];exact⟨rfl,rfl⟩))
  (λos started H enc _=>Jhl os started H enc)
theorem Jfl{p:Pinned}{s:OpenSpec}{c:OpenClaim}(OB:Bool × String)(lk:Bool)
  (hc:c.holds p s) (hw:c.wfByText s=true) (htie:c.laidByTextAt .later p [.handle] true)
  (Ae:c.start=.entering) (BL:c.noBlocks=false/\c.again=false) (hm:p.checked.prog.mainIs=some (OB.1,OB.2.toList)) (hn:(!OB.1 && OB.2.isEmpty && !lk)=false)
  (hl:∀f fn,p.checked.prog.funcNamed c.func=some f->p.checked.prog.funcs[f]?=some fn->lk=p.checked.prog.looks []/\∀(j:Nat) t,fn.params[j]?=some t->p.checked.prog.wantsStandIn t=false)
  (hg:true=c.goesBy p.checked.prog) :
  Claim7.holds p (.plain s) { stood:={ row:=c,standIns:=[],harness:=OB,looks:=lk },kinds:=[],alts:=[],goes:=true,laidByText:=true,laidKinds:=[.handle],laidTests:=true,laidLooks:=.later }:=by
 have h6:Claim7.isSixth { stood:={ row:=c,standIns:=[],harness:=OB,looks:=lk },kinds:=[] }=false:=by simpa[Claim7.isSixth]using hn
 exact⟨Claim7.tied_new_at .later [.handle] true (Claim7.new_of_sixth hc OB lk Ae BL hm h6 hl) hw,λD hD=>(by cases hD),htie,(λh=>by cases h),hg⟩
theorem ties:prog.laidByTextLater [("errors.errorType",Rows.laid_errors_errorType)] [.handle] true:=
 Program.laidByTextLater_by_one 16 8 2 (by kernel_rfl) (by kernel_rfl) (by kernel_rfl) (by kernel_rfl) (by kernel_rfl) (by kernel_rfl) (λ_ _=>by kernel_rfl)
theorem middle_holds:Rows.MiddleCardSaid:=
 Jfl (true,"5f9b553737c49c39154d28e759f7273cb416c972bbacf44aba8fd4c471e003d3") true Jpe (by kernel_rfl) (OpenClaim.laidByTextAt_later rfl rfl ties (by kernel_rfl)) rfl ⟨rfl,rfl⟩ (by kernel_rfl) rfl
  (λf fn hf Oc=>by
   obtain rfl:f=5:=Aa ((show prog.funcNamed "rollups/rollupskeep.Middle"=some 5 by kernel_rfl).symm.trans hf) |>.symm;obtain rfl:fn=f5:=(Aa ((show prog.funcs[5]?=some f5 by kernel_rfl).symm.trans Oc)).symm;exact⟨by kernel_rfl,λj t ht=>by
    have Zg:f5.params=#[3,27,3]:=by kernel_rfl
    rw[Zg]at ht;have h3:t=3\/t=27:=by
     match j,ht with
     |0,ht=>left;simpa using ht.symm
     |1,ht=>right;simpa using ht.symm
     |2,ht=>left;simpa using ht.symm
     |j+3,ht=>simp at ht
    rcases h3 with rfl|rfl
    .exact(show prog.wantsStandIn 3=false by kernel_rfl)
    .exact(show prog.wantsStandIn 27=false by kernel_rfl)⟩)
  (by kernel_rfl)
end Go.Proofs.YtlcbehhbfglgaaaGreatDoor
end
