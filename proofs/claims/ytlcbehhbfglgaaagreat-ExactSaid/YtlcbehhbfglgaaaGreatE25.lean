/- PROVED HERE: laws that the statement rests on (parts Tp, Vb0, Vb, Vc, Vd). Conditions: none. -/
import Derived.Conc.WgGenN2
import Derived.Test.YtlcbehhbfglgaaaGreatE20
import Derived.Test.YtlcbehhbfglgaaaGreatE24
set_option linter.all false
namespace Go.Sim
open Go.Conc Go.ConcN Go.RowKit Go.Conc.Lib Go.ConcR.Gen Go.ConcN.Gen
open Go.ConcR (KK wgBlock WgAt stA smA rd wr mk Payload DC0)
section
variable [Payload] {L:WgLink}
def K1D (P:Program) (g:Goroutine) (w:World):Prop:=∃ g',stepG P false g w=.go g' w #[mk .disable]
def R0D (P:Program) (R:World→World→Prop) (Wg:Nat) (g:Goroutine) (w:World):Prop:=∃ g',stepG P false g w=.go g' w #[mk (.releaseMerge (stA Wg))]∧∃ m,Goes P false R DC0 (K1D P) m g' w
section
variable {P:Program} {R:World→World→Prop} (hR:∀ w,R w w) {ty:TypeId} {Wg C n Low k:Nat} {Own Rd:Nat→Loc→Prop} {val:Value}
include hR
theorem follow_no {n':Nat}:∀ {m:Nat} {g:Goroutine} {w:World},Goes P false R (DWs Wg Own Rd C n k) (AtR0 P ty Wg C n Low k val) n' g w→Goes P false R DC0 (K1D P) m g w→False:=by
 intro m
 induction m generalizing n' with
 | zero=>
  intro g w h1 h2
  obtain ⟨g',hg'⟩:=h2 w (hR w)
  rcases Goes.cases h1 with hs|⟨n2,_,hs⟩
  ·obtain ⟨_,_,g2,hg2,_⟩:=hs w (hR w)
   rw [hg'] at hg2
   simp [mk] at hg2
  ·obtain ⟨g2,w2,es,hg2,⟨_,hev⟩,_⟩:=hs w (hR w)
   rw [hg'] at hg2
   simp only [GStep.go.injEq] at hg2
   obtain ⟨_,_,rfl⟩:=hg2
   exact (hev (mk .disable) (by simp)).2.1 rfl
 | succ m ih=>
  intro g w h1 h2
  rcases Goes.cases h2 with hk|⟨m2,e,hk⟩
  ·obtain ⟨g',hg'⟩:=hk w (hR w)
   rcases Goes.cases h1 with hs|⟨n2,_,hs⟩
   ·obtain ⟨_,_,g2,hg2,_⟩:=hs w (hR w)
    rw [hg'] at hg2
    simp [mk] at hg2
   ·obtain ⟨g2,w2,es,hg2,⟨_,hev⟩,_⟩:=hs w (hR w)
    rw [hg'] at hg2
    simp only [GStep.go.injEq] at hg2
    obtain ⟨_,_,rfl⟩:=hg2
    exact (hev (mk .disable) (by simp)).2.1 rfl
  ·obtain rfl:m2=m:=by omega
   obtain ⟨g',w',es,hg',⟨rfl,rfl⟩,hk'⟩:=hk w (hR w)
   rcases Goes.cases h1 with hs|⟨n2,_,hs⟩
   ·obtain ⟨_,_,g2,hg2,_⟩:=hs w' (hR w')
    rw [hg'] at hg2
    simp at hg2
   ·obtain ⟨g2,w2,es,hg2,_,hg3⟩:=hs w' (hR w')
    rw [hg'] at hg2
    simp only [GStep.go.injEq] at hg2
    obtain ⟨rfl,rfl,_⟩:=hg2
    exact ih hg3 hk'
theorem follow {n':Nat}:∀ {m:Nat} {g:Goroutine} {w:World},g.status=.running→Goes P false R (DWs Wg Own Rd C n k) (AtR0 P ty Wg C n Low k val) n' g w→Goes P false R DC0 (R0D P R Wg) m g w→Goes P false R DC0 (AtR0 P ty Wg C n Low k val) m g w:=by
 have atStop:∀ {n' m:Nat} {g:Goroutine} {w:World},Goes P false R (DWs Wg Own Rd C n k) (AtR0 P ty Wg C n Low k val) n' g w→(∀ w₁,R w w₁→R0D P R Wg g w₁)→Goes P false R DC0 (AtR0 P ty Wg C n Low k val) m g w:=by
  intro n' m g w h1 hk
  rcases Goes.cases h1 with hs|⟨n2,_,hs⟩
  ·exact .stop hs
  ·exfalso
   obtain ⟨g',hg',m2,hm⟩:=hk w (hR w)
   obtain ⟨g2,w2,es,hg2,_,hg3⟩:=hs w (hR w)
   rw [hg'] at hg2
   simp only [GStep.go.injEq] at hg2
   obtain ⟨rfl,rfl,_⟩:=hg2
   exact follow_no hR hg3 hm
 intro m
 induction m generalizing n' with
 | zero=>intro g w _ h1 h2;exact atStop h1 h2
 | succ m ih=>
  intro g w hrun h1 h2
  rcases Goes.cases h2 with hk|⟨m2,e,hk⟩
  ·exact atStop h1 hk
  ·obtain rfl:m2=m:=by omega
   refine .step hrun fun w₁ hw₁=>?_
   obtain ⟨g',w',es,hg',hd,hk'⟩:=hk w₁ hw₁
   rw [hg']
   rw [goes_go]
   refine ⟨hd,?_⟩
   obtain ⟨rfl,rfl⟩:=hd
   rcases Goes.cases h1 with hs|⟨n2,_,hs⟩
   ·obtain ⟨_,_,g2,hg2,_⟩:=hs w' hw₁
    rw [hg'] at hg2
    simp at hg2
   ·obtain ⟨g2,w2,es,hg2,_,hg3⟩:=hs w' hw₁
    rw [hg'] at hg2
    simp only [GStep.go.injEq] at hg2
    obtain ⟨rfl,rfl,_⟩:=hg2
    exact ih (Goes.running (fun _ _ x=>x.1) w' (hR w') hg3) hg3 hk'
end
set_option maxRecDepth 100000 in
set_option maxHeartbeats 8000000 in
theorem addNegR {P:Program} (H:WgLib P L) {Wg C n Low k:Nat} {val:Value} {b₀:Frame} {a₀:Act} {ops₀:Array Oper} {i₀:Nat} {rest₀:List Nat} {k₀:List Item} {cs:List Frame}
  (w:World) (hK:WgLive L.tWg Wg w∧Has C (k-1) val w) :
  Goes P false (RW L.tWg Wg C n Low (k-1)) DC0 (R0D P (RW L.tWg Wg C n Low (k-1)) Wg) 20 (G ((base L.add).at ⟨#[.pointer (some ⟨Wg,0,none⟩),.int .i64 (-1),undef,undef,undef,undef,undef,undef,undef,undef,undef,undef,undef,undef,undef,undef,undef,undef,undef,undef,undef,undef,undef,undef,undef,undef,undef,undef,undef,undef,undef,undef,undef,undef,undef,undef,undef,undef,undef,undef,undef,undef,undef,undef,undef,undef,undef,undef,undef,undef,undef,undef,undef,undef,undef,undef,undef,undef,undef,undef,undef,undef,undef,undef,undef,undef,undef,undef,undef,undef,undef,undef,undef,undef,undef,undef,undef,undef,undef,undef,undef,undef,undef,undef,undef,undef,undef,undef,undef,undef,undef,undef,undef,undef,undef,undef,undef,undef,undef,undef,undef,undef,undef,undef,undef,undef,undef,undef,undef,undef,undef,undef,undef,undef,undef,undef,undef],[]⟩ [.code (body_add L)]) (b₀.at a₀ (.inRegion ops₀ (i₀::rest₀)::k₀)::cs)) w:=by
 lib_facts
 simp only [body_add,addFn,Option.getD_some]
 u_c stepG_seq kn_rely hK
 u_cond true kn_rely hK
 u_c stepG_seq kn_rely hK
 u_c stepG_seq kn_rely hK
 u_reg kn_rely hK
 u_op kn_rely hK
 u_op kn_rely hK
 u_c stepG_region_end kn_rely hK
 u_cond true kn_rely hK
 u_reg kn_rely hK
 u_op kn_rely hK
 u_conv H.underlying_tWgP H.room_tWg (WgLive.cell0 hK.1).choose_spec kn_rely hK
 refine Goes.stop (fun w₁ h₁=>?_)
 replace hK:=kn_rely hK h₁
 clear h₁
 refine ⟨_,stepG_markAt .releaseMerge (by simp) rfl rfl (by k_ne) rfl H.f_relMerge (x_relMerge_n L) (x_relMerge_b L) (x_relMerge_x L) (x_relMerge_f L) (by simp [Act.eval,stA]),10,?_⟩
 walk_nrm
 u_c stepG_region_end kn_rely hK
 u_c stepG_seq kn_rely hK
 u_reg kn_rely hK
 refine Goes.stop (fun w₁ h₁=>?_)
 exact ⟨_,stepG_mark0 .disable (by simp) rfl rfl (by k_ne) rfl H.f_disable (x_disable_n L) (x_disable_b L) (x_disable_x L) (x_disable_f L)⟩
set_option maxRecDepth 100000 in
theorem doneJ {P:Program} (H:WgLib P L) {Wg C n Low k:Nat} {val:Value} {c:Frame} {cs:List Frame} {qt:Nat}
  (hcm:c.mode=.returning) (hT:QuitsD P qt 0 (G c cs)) (w:World) (hK:WgLive L.tWg Wg w∧Has C (k-1) val w) :
  Goes P false (RW L.tWg Wg C n Low (k-1)) DC0 (AtR0 P L.tWg Wg C n Low k val) 23 (G ((baseD L.done).at ⟨#[.pointer (some ⟨Wg,0,none⟩),undef,undef,undef],[]⟩ [.code (body_done L)]) (c::cs)) w:=by
 refine follow (fun w=>RW.refl w) rfl (doneN (Own:=fun _ _=>False) (Rd:=fun _ _=>False) H hcm hT w hK) ?_
 lib_facts
 have hA:=@addNegR _ L P H Wg C n Low k val
 simp only [body_done,body_add,doneFn,addFn,Option.getD_some] at hA ⊢
 u_reg kn_rely hK
 u_op kn_rely hK
 u_in kn_rely hK
 refine goes_call rfl rfl (by k_ne) rfl H.f_add (nm_add L) rfl ⟨by u_nil,?_⟩
 walk_nrmf addFn
 exact hA _ hK
end
end Go.Sim
namespace Go.Sim.Z
open Go Go.Proofs
abbrev link:Go.Conc.Lib.WgLink:={ add:=62,done:=64,wait:=66,relMerge:=80,disable:=81,enable:=82,inBubble:=83,associate:=84,fatal:=85,uOr:=86,uAdd:=87,raceRead:=88,uLoad:=89,uStore:=90,disassociate:=91,semrelease:=92,acquire:=95,isAssociated:=96,uCas:=97,raceWrite:=98,semacquire:=99,orU64:=123,addU64:=124,loadU64:=125,storeU64:=126,casU64:=127,tWgP:=159,tUP:=161,tAssoc:=163,tWg:=146,tAU:=144,tU64:=45,tUint:=129,tU32:=101,tPU32:=167,tPAU:=195,tPU64:=197,tNoCopy:=140,tANoCopy:=141,tAlign64:=142 }
theorem wgLib:Go.Conc.Lib.WgLib Tryz.prog link:=
 ⟨Tryz.func62,Tryz.func64,Tryz.func66,Tryz.func80,Tryz.func81,Tryz.func82,Tryz.func83,Tryz.func84,Tryz.func85,Tryz.func86,Tryz.func87,Tryz.func88,Tryz.func89,Tryz.func90,Tryz.func91,Tryz.func92,Tryz.func95,Tryz.func96,Tryz.func97,Tryz.func98,Tryz.func99,Tryz.func123,Tryz.func124,Tryz.func125,Tryz.func126,Tryz.func127,Tryz.underlying159,Tryz.runUnderlying159,Tryz.sizeOf159,Tryz.isAgg159,Tryz.zeroValue159,Tryz.underlying161,Tryz.runUnderlying161,Tryz.sizeOf161,Tryz.isAgg161,Tryz.zeroValue161,Tryz.underlying163,Tryz.runUnderlying163,Tryz.sizeOf163,Tryz.isAgg163,Tryz.zeroValue163,Tryz.underlying146,Tryz.runUnderlying146,Tryz.sizeOf146,Tryz.isAgg146,Tryz.zeroValue146,Tryz.underlying144,Tryz.runUnderlying144,Tryz.sizeOf144,Tryz.isAgg144,Tryz.zeroValue144,Tryz.underlying45,Tryz.runUnderlying45,Tryz.sizeOf45,Tryz.isAgg45,Tryz.zeroValue45,Tryz.underlying129,Tryz.runUnderlying129,Tryz.sizeOf129,Tryz.isAgg129,Tryz.zeroValue129,Tryz.underlying101,Tryz.runUnderlying101,Tryz.sizeOf101,Tryz.isAgg101,Tryz.zeroValue101,Tryz.underlying167,Tryz.runUnderlying167,Tryz.sizeOf167,Tryz.isAgg167,Tryz.zeroValue167,Tryz.underlying195,Tryz.runUnderlying195,Tryz.sizeOf195,Tryz.isAgg195,Tryz.zeroValue195,Tryz.underlying197,Tryz.runUnderlying197,Tryz.sizeOf197,Tryz.isAgg197,Tryz.zeroValue197,Tryz.underlying0,Tryz.runUnderlying0,Tryz.sizeOf0,Tryz.isAgg0,Tryz.zeroValue0,Tryz.underlying3,Tryz.runUnderlying3,Tryz.sizeOf3,Tryz.isAgg3,Tryz.zeroValue3,Tryz.underlying4,Tryz.runUnderlying4,Tryz.sizeOf4,Tryz.isAgg4,Tryz.zeroValue4,Tryz.underlying9,Tryz.runUnderlying9,Tryz.sizeOf9,Tryz.isAgg9,Tryz.zeroValue9,Tryz.underlying20,Tryz.runUnderlying20,Tryz.sizeOf20,Tryz.isAgg20,Tryz.zeroValue20,Tryz.underlying21,Tryz.runUnderlying21,Tryz.sizeOf21,Tryz.isAgg21,Tryz.zeroValue21,(by kernel_rfl),(by kernel_rfl)⟩
instance:Go.ConcR.Payload:=⟨138⟩
end Go.Sim.Z
namespace Go.Sim.Z
open Go Go.Proofs Go.Conc Go.ConcN Go.RowKit Go.Conc.Lib Go.ConcR.Gen Go.ConcN.Gen
open Go.ConcR (KK wgBlock WgAt stA smA rd wr mk Payload DC0)
def fstC:Code→Code | .seq a _=>a|c=>c
def sndC:Code→Code | .seq _ b=>b|c=>c
noncomputable def b63:Code:=Tryz.f63.body.getD .skip
noncomputable def c1:Code:=fstC (sndC b63)
noncomputable def cM:Code:=fstC (sndC (sndC b63))
def deferOp:Oper:={ dst:=none,op:=.defer { callee:=.value (.func 64),args:=#[.tmp 0],argTypes:=#[146] },type:=0,pos:= "table.go:76",after:=#[],guard:=none }
def r7ops:Array Oper:=#[{ dst:=some 37,op:=.load 3 (.tmp 1),type:=3,pos:= "table.go:83",after:=#[],guard:=none },
 { dst:=some 38,op:=.move (.tmp 7),type:=70,pos:= "table.go:83",after:=#[],guard:=none },
 { dst:=some 39,op:=.indexAddr 138 (.tmp 6) (.tmp 37),type:=0,pos:= "table.go:83",after:=#[{ on:=0,ground:=.data },{ on:=0,ground:=.phase },{ on:=1,ground:=.phase }],guard:=none },
 { dst:=none,op:=.store 70 (.tmp 39) (.tmp 38),type:=0,pos:= "table.go:83",after:=#[{ on:=2,ground:=.data },{ on:=1,ground:=.data },{ on:=0,ground:=.phase },{ on:=1,ground:=.phase }],guard:=none }]
def c7:Code:=.region 7 r7ops false
theorem b63_eq:b63=.seq (.region 0 #[deferOp] false) (.seq c1 (.seq cM c7)):=by kernel_rfl
theorem body63:Tryz.f63.body=some b63:=by kernel_rfl
theorem has63 (Sh:Nat→Prop):HasBody (C1 Sh) 63:=⟨Tryz.f63,by kernel_rfl,by kernel_rfl,by kernel_rfl⟩
theorem ok_c1 (Sh:Nat→Prop):okCode (C1 Sh) S1 63 c1=true:=by kernel_rfl
theorem ok_cM (Sh:Nat→Prop):okCode (C1 Sh) S1 63 cM=true:=by kernel_rfl
noncomputable def bot:Frame:={ (default:Frame) with fn:=Tryz.prog.funcs.size,defers:=[],mode:=.panicking [goexitEntry] }
theorem worker1 {Sh:Nat→Prop} {E:BRel} {own X:Nat→Prop} {w0 w:World} {t T:Array Value} {A1 A2:Array Value→World→Prop} (hL:Link (C1 Sh) S1 E own X w0 w) (ht:TmR (C1 Sh) S1 63 E t T)
  (K1:∀ τ,c1.wp Tryz.prog (fun e a w1=>e=.normal∧A1 a.tmps w1) ⟨t,[stuckD]⟩ (w0.tp τ 0))
  (K2:∀ t1 w1,A1 t1 w1→∀ τ,cM.wp Tryz.prog (fun e a w2=>e=.normal∧A2 a.tmps w2) ⟨t1,[stuckD]⟩ (w1.tp τ 0)) :
  Runs true Tryz.prog false (fun y=>∃ E2 t2 w2 T2,Sub E E2∧Link (C1 Sh) S1 E2 y.own y.X w2 y.w∧TmR (C1 Sh) S1 63 E2 t2 T2∧(∀ i,i=0∨i=6→T2[i]?=T[i]?)∧A2 t2 w2∧y.g=G ((baseD 63).at ⟨T2,[dcall 64 #[T.getD 0 undef]]⟩ [.code c7]) [bot])
   ⟨own,X,G ((baseD 63).at ⟨T,[]⟩ [.code b63]) [bot],w⟩:=by
 have hol:∀ i,i=0∨i=6→((C1 Sh).hl (baseD 63).fn).contains i=true:=by
  rintro i (rfl|rfl)<;>rfl
 rw [b63_eq]
 refine Runs.idle (fun w1=>stepG_seq) rfl rfl rfl fun wa ra=>?_
 replace hL:=hL.rely ra;clear ra
 refine Runs.idle (fun w1=>stepG_region) rfl rfl rfl fun wb rb=>?_
 replace hL:=hL.rely rb;clear rb
 have hd:∀ w1,stepG Tryz.prog false (G ((baseD 63).at ⟨T,[]⟩ (.inRegion #[deferOp] (List.range (#[deferOp]:Array Oper).size)::[.code (.seq c1 (.seq cM c7))])) [bot]) w1 =
   .go (G ((baseD 63).at ⟨T,[dcall 64 #[T.getD 0 undef]]⟩ (.inRegion #[deferOp] []::[.code (.seq c1 (.seq cM c7))])) [bot]) w1 #[]:=fun w1=>by
  have:=stepG_defer (P:=Tryz.prog) (main:=false) (b:=baseD 63) (a:=⟨T,[]⟩) (k:=[.code (.seq c1 (.seq cM c7))]) (cs:=[bot]) (w:=w1) (ops:=#[deferOp]) (i:=0) (rest:=[]) (o:=deferOp) (f:=64) rfl rfl (by simp [baseD]) (show deferOp.op=.defer { callee:=.value (.func 64),args:=#[.tmp 0],argTypes:=#[146] } from rfl)
  rw [show (List.range (#[deferOp]:Array Oper).size)=[0] from rfl,this]
  simp [Act.put,deferOp,Act.eval]
 refine Runs.idle hd rfl rfl rfl fun wc rc=>?_
 replace hL:=hL.rely rc;clear rc
 refine Runs.idle (fun w1=>stepG_region_end) rfl rfl rfl fun wd rd=>?_
 replace hL:=hL.rely rd;clear rd
 refine Runs.idle (fun w1=>stepG_seq) rfl rfl rfl fun we re=>?_
 replace hL:=hL.rely re;clear re
 refine (runs_piece (allOk1 Sh) (b:=baseD 63) (k:=[.code (.seq cM c7)]) (cs:=[bot]) (ds:=[dcall 64 #[T.getD 0 undef]]) (ok_c1 Sh) (has63 Sh) rfl (by simp [C1,baseD]) (by simp [baseD]) hL ht K1 (fun _ _ _ h=>.inl h.1)).bind ?_
 rintro ⟨own1,X1,g1,wf⟩ ⟨E1,a1,w1,T1,hs1,hL1,ht1,hh1,⟨⟨_,hA1⟩,hg1⟩|⟨⟨h0,_⟩,_⟩⟩
 rotate_left
 ·cases h0
 simp only at hL1 hg1
 subst hg1
 refine Runs.idle (fun w1=>stepG_seq) rfl rfl rfl fun wg rg=>?_
 replace hL1:=hL1.rely rg;clear rg
 refine (runs_piece (allOk1 Sh) (b:=baseD 63) (k:=[.code c7]) (cs:=[bot]) (ds:=[dcall 64 #[T.getD 0 undef]]) (ok_cM Sh) (has63 Sh) rfl (by simp [C1,baseD]) (by simp [baseD]) hL1 ht1 (K2 a1.tmps w1 hA1) (fun _ _ _ h=>.inl h.1)).mono ?_
 rintro ⟨own2,X2,g2,wh⟩ ⟨E2,a2,w2,T2,hs2,hL2,ht2,hh2,⟨⟨_,hA2⟩,hg2⟩|⟨⟨h0,_⟩,_⟩⟩
 rotate_left
 ·cases h0
 exact ⟨E2,a2.tmps,w2,T2,hs1.trans hs2,hL2,ht2,fun i hi=>(hh2 i (hol i hi)).trans (hh1 i (hol i hi)),hA2,hg2⟩
theorem loud63:(Tryz.prog.funcs[(baseD 63).fn]?).any (·.norace)=false:=by kernel_rfl
section
variable {main:Bool} {b:Frame} {a:Act} {kk:List Item} {cs:List Frame} {w:World} {ops:Array Oper} {i:Nat} {rest:List Nat} {o:Oper}
theorem stepG_store70 {x y:Operand} (ho:ops[i]?=some o) (hw:Region.wanted o (yielded ops a.tmps)=true) (hk:b.kind≠.early) (hop:o.op=.store 70 x y)
  {ad:Addr} {v:Option Nat} {u:Value} (hx:a.eval x=.pointer (some ad)) (hy:a.eval y=.map v) (hc:w.cell? ad=some u) (hz:w.frozen? ad=false) (hq:(Tryz.prog.funcs[b.fn]?).any (·.norace)=false) :
  stepG Tryz.prog main (G (b.at a (.inRegion ops (i::rest)::kk)) cs) w=.go (G (b.at (a.put o.dst undef) (.inRegion ops rest::kk)) cs) (w.setCell ad (.map v)) #[⟨.cell ad,true,false⟩]:=by
 have hr:(execOp a.eval o).run Tryz.prog w=.ok .skip (w.setCell ad (.map v)):=by
  unfold execOp
  simp only [hop,hx,hy]
  simp [go_sem,stored,hc,hz]
 have he:(execOp a.eval o).events Tryz.prog w #[]=#[⟨.cell ad,true,false⟩]:=by
  unfold execOp
  simp only [hop,hx,hy]
  simp [go_sem,events_store Tryz.prog w #[] ad (.map v) .plain rfl,storedEv,hc,hz]
 rw [stepG_none ho hw hk hr]
 unfold listed
 rw [he,seen_eq hq (by simp)]
theorem stepG_load3 {x:Operand} (ho:ops[i]?=some o) (hw:Region.wanted o (yielded ops a.tmps)=true) (hk:b.kind≠.early) (hop:o.op=.load 3 x)
  {ad:Addr} {v:Value} (hx:a.eval x=.pointer (some ad)) (hc:w.cell? ad=some v) (hq:(Tryz.prog.funcs[b.fn]?).any (·.norace)=false) :
  stepG Tryz.prog main (G (b.at a (.inRegion ops (i::rest)::kk)) cs) w=.go (G (b.at (a.put o.dst v) (.inRegion ops rest::kk)) cs) w #[⟨.cell ad,false,false⟩]:=by
 have hr:(execOp a.eval o).run Tryz.prog w=.ok (.value v) w:=by
  unfold execOp
  simp only [hop,hx]
  simp [go_sem,hc]
 have he:(execOp a.eval o).events Tryz.prog w #[]=#[⟨.cell ad,false,false⟩]:=by
  unfold execOp
  simp only [hop,hx]
  simp [go_sem,hc]
 rw [stepG_value ho hw hk hr]
 unfold listed
 rw [he,seen_eq hq (by simp)]
end
theorem quitsTail (T:Array Value):QuitsD Tryz.prog 2 0 (G { (baseD 63).at ⟨T,[]⟩ [] with mode:=.returning } [bot]):=by
 refine QuitsD.ctl (g':=G bot []) rfl (fun w=>?_) ?_
 ·simp [G,stepG,unwind,doReturn,results,Frame.at,baseD,bot,Tryz.func63,Tryz.f63,seen,GStep.after,goexitEntry]
 refine QuitsD.ctl (g':={ G bot [] with status:=.finished }) rfl (fun w=>?_) ⟨rfl,rfl⟩
 simp [G,stepG,unwind,bot,goexitEntry,Frame.catches]
 rfl
theorem asideCell_set {w:World} {N n j:Nat} (hp:PayAt N n w) (v:Value):AsideCell N n j w (w.setCell ⟨N,j,none⟩ v):=by
 have hA:=aside_setCell w ⟨N,j,none⟩ v
 obtain ⟨arr,h1,h2⟩:=hp
 have hb:(w.setCell ⟨N,j,none⟩ v).heap[N]?=some (.cells (arr.setIfInBounds j v) Payload.ety):=by
  rw [setCell_eq_setRow w N j arr _ (0,0) _ h1,setRow_heap w N _ _ _ _ h1]
 refine ⟨hA.tape,hA.os,hA.output,hA.size,fun b hb'=>hA.block b hb',fun _=>⟨_,hb,by simpa using h2⟩,fun i' hi'=>?_⟩
 simp [World.cell?,hb,h1,Array.getElem?_setIfInBounds_ne (Ne.symm hi')]
theorem has_set {w:World} {N n j:Nat} (hp:PayAt N n w) (hj:j<n) (v:Value):Has N j v (w.setCell ⟨N,j,none⟩ v):=by
 obtain ⟨arr,h1,h2⟩:=hp
 have hb:(w.setCell ⟨N,j,none⟩ v).heap[N]?=some (.cells (arr.setIfInBounds j v) Payload.ety):=by
  rw [setCell_eq_setRow w N j arr _ (0,0) _ h1,setRow_heap w N _ _ _ _ h1]
 simp [Has,World.cell?,hb,h2,hj]
theorem cellAt {w:World} {N n j:Nat} (h:PayAt N n w) (hj:j<n):∃ u,w.cell? ⟨N,j,none⟩=some u∧w.frozen? ⟨N,j,none⟩=false:=by
 obtain ⟨arr,h1,h2⟩:=h
 exact ⟨arr[j]'(by omega),by simp [World.cell?,h1,h2,hj],by simp [World.frozen?,h1]⟩
theorem goes_aside {P:Program} {main:Bool} {R:World→World→Prop} {D D':World→World→Array Event→Prop} {Stop:Goroutine→World→Prop} (h:∀ w w' es,D w w' es→D' w w' es) :
  ∀ {n:Nat} {g:Goroutine} {w:World},Goes P main R D Stop n g w→Goes P main R D' Stop n g w
 | 0,_,_,hg=>hg
 | n+1,g,w,hg=>by
  rcases hg with hs|⟨hr,hs⟩
  ·exact .inl hs
  refine .inr ⟨hr,fun w1 r=>?_⟩
  have:=hs w1 r
  generalize stepG P main g w1=s at this ⊢
  cases s<;>first|exact ⟨h _ _ _ this.1,goes_aside h this.2⟩|exact this.elim
theorem tail63 {H:Ph} {i:Nat} {T:Array Value} {r:Option Nat} (hP:H.P=Tryz.prog) (hty:H.ty=146) (hn:H.n=4) (hi:i<4) (hne:H.C≠H.Wg)
  (hT:T.size=40) (h37:T[37]?=some (.int .i64 i)) (h6:T[6]?=some (.pointer (some ⟨H.C,0,none⟩))) (h7:T[7]?=some (.map r)) {w3:World} (hp:PayAt H.C H.n w3) (hg:WgLive H.ty H.Wg w3) :
  ∃ k,Goes H.P false (RW H.ty H.Wg H.C H.n 0 (i+1-1)) (DT H (i+1)) (AtR0 H.P H.ty H.Wg H.C H.n 0 (i+1) (.map r)) k
   (G ((baseD 63).at ⟨T,[dcall 64 #[.pointer (some ⟨H.Wg,0,none⟩)]]⟩ (.inRegion r7ops [1,2,3]::[])) [bot]) w3:=by
 have dm:∀ (w:World),DT H (i+1) w w #[]:=fun w=>⟨AsideCell.refl _ _ _ _,fun e he=>by simp at he⟩
 generalize hD:DT H (i+1)=DD at *
 rw [hP,hty,hn]
 rw [hn] at hp
 rw [hty] at hg
 generalize hd:[dcall 64 #[.pointer (some ⟨H.Wg,0,none⟩)]]=ds
 refine ⟨6+23,?_⟩
 refine Goes.step rfl fun w4 q4=>?_
 replace hp:=q4.pay hp
 replace hg:=q4.live hg
 have st1:stepG Tryz.prog false (G ((baseD 63).at ⟨T,ds⟩ (.inRegion r7ops [1,2,3]::[])) [bot]) w4 =
   .go (G ((baseD 63).at ⟨T.setIfInBounds 38 (.map r),ds⟩ (.inRegion r7ops [2,3]::[])) [bot]) w4 #[]:=by
  have hr:(execOp (Act.eval ⟨T,ds⟩) r7ops[1]).run Tryz.prog w4=.ok (.value (.map r)) w4:=by
   simp [execOp,r7ops,Act.eval,go_sem,h7]
  have he:listed Tryz.prog (baseD 63).fn ⟨T,ds⟩ r7ops[1] w4=#[]:=by
   unfold listed
   rw [show (execOp (Act.eval ⟨T,ds⟩) r7ops[1]).events Tryz.prog w4 #[]=#[] from by simp [execOp,r7ops,go_sem],seen_none]
  rw [stepG_value (o:=r7ops[1]) rfl rfl (by simp [baseD]) hr,he]
  rfl
 rw [st1]
 refine ⟨dm _,?_⟩
 refine Goes.step rfl fun w5 q5=>?_
 replace hp:=q5.pay hp
 replace hg:=q5.live hg
 have st2:stepG Tryz.prog false (G ((baseD 63).at ⟨T.setIfInBounds 38 (.map r),ds⟩ (.inRegion r7ops [2,3]::[])) [bot]) w5 =
   .go (G ((baseD 63).at ⟨(T.setIfInBounds 38 (.map r)).setIfInBounds 39 (.pointer (some ⟨H.C,i,none⟩)),ds⟩ (.inRegion r7ops [3]::[])) [bot]) w5 #[]:=by
  have hr:(execOp (Act.eval ⟨T.setIfInBounds 38 (.map r),ds⟩) r7ops[2]).run Tryz.prog w5=.ok (.value (.pointer (some ⟨H.C,i,none⟩))) w5:=by
   simp [execOp,r7ops,Act.eval,go_sem,h6,h37,Array.getElem?_setIfInBounds]
   intro h4
   omega
  have he:listed Tryz.prog (baseD 63).fn ⟨T.setIfInBounds 38 (.map r),ds⟩ r7ops[2] w5=#[]:=by
   unfold listed
   rw [show (execOp (Act.eval ⟨T.setIfInBounds 38 (.map r),ds⟩) r7ops[2]).events Tryz.prog w5 #[]=#[] from by
    simp [execOp,r7ops,Act.eval,go_sem,h6,h37,Array.getElem?_setIfInBounds]
    exact events_indexAt_array 138 _ 4 _ _ _ Tryz.underlying138 ⟨by omega,by omega⟩,seen_none]
  rw [stepG_value (o:=r7ops[2]) rfl rfl (by simp [baseD]) hr,he]
  rfl
 rw [st2]
 refine ⟨dm _,?_⟩
 refine Goes.step rfl fun w6 q6=>?_
 replace hp:=q6.pay hp
 replace hg:=q6.live hg
 obtain ⟨u,hu1,hu2⟩:=cellAt hp hi
 have hp0:=hp
 rw [stepG_store70 (ad:=⟨H.C,i,none⟩) (v:=r) (o:=r7ops[3]) rfl rfl (by simp [baseD]) rfl (by simp [r7ops,Act.eval,hT]) (by simp [r7ops,Act.eval,hT]) hu1 hu2 loud63]
 have hK:=And.intro (let ⟨st,sm,h⟩:=hg;(⟨st,sm,h.of_block ((aside_setCell _ ⟨H.C,i,none⟩ (.map r)).block H.Wg (by simpa using Ne.symm hne))⟩:WgLive 146 H.Wg _)) (has_set hp hi (.map r))
 clear hp hg hu1 hu2
 refine ⟨by subst hD;exact ⟨asideCell_set (hn.symm▸hp0) _,fun e he=>by simpa using he⟩,?_⟩
 refine Goes.step rfl fun w7 q7=>?_
 replace hK:=And.intro (q7.live hK.1) (q7.cell.trans hK.2)
 rw [stepG_region_end]
 refine ⟨dm _,?_⟩
 refine Goes.step rfl fun w8 q8=>?_
 replace hK:=And.intro (q8.live hK.1) (q8.cell.trans hK.2)
 rw [stepG_end]
 refine ⟨dm _,?_⟩
 refine Goes.step rfl fun w9 q9=>?_
 replace hK:=And.intro (q9.live hK.1) (q9.cell.trans hK.2)
 rw [stepG_unwind_enter (show Act.defers _=dcall 64 #[.pointer (some ⟨H.Wg,0,none⟩)]::[] from hd.symm) Tryz.func64 (nm_done link) rfl]
 refine ⟨dm _,?_⟩
 have hA:=@doneJ _ link Tryz.prog wgLib H.Wg H.C 4 0 (i+1) (.map r)
 exact goes_aside (fun w w' es h=>by obtain ⟨rfl,rfl⟩:=h;exact dm _) (hA rfl (quitsTail _) _ hK)
theorem worker2 {H:Ph} {i s:Nat} {own X:Nat→Prop} {w:World} {T:Array Value} {r:Option Nat} (hP:H.P=Tryz.prog) (hty:H.ty=146) (hn:H.n=4) (hi:i<4) (hne:H.C≠H.Wg)
  (hT:T.size=40) (h1:T[1]?=some (.pointer (some ⟨s,0,none⟩))) (h6:T[6]?=some (.pointer (some ⟨H.C,0,none⟩))) (h7:T[7]?=some (.map r))
  (hs:w.cell? ⟨s,0,none⟩=some (.int .i64 i)) (hX:X s) (hQ:∀ w1,Rely true X w w1→H.Q i own X (.map r) w1) :
  Runs true Tryz.prog false (WStop H i) ⟨own,X,G ((baseD 63).at ⟨T,[dcall 64 #[.pointer (some ⟨H.Wg,0,none⟩)]]⟩ [.code c7]) [bot],w⟩:=by
 refine Runs.idle (fun w1=>stepG_region) rfl rfl rfl fun wa ra=>?_
 have hsa:wa.cell? ⟨s,0,none⟩=some (.int .i64 i):=(World.cell?_of_block (ra.blocks s hX)).trans hs
 have hQa:∀ w1,Rely true X wa w1→H.Q i own X (.map r) w1:=fun w1 r1=>hQ w1 (ra.trans r1)
 clear hs hQ ra
 have e1:T.getD 1 undef=.pointer (some ⟨s,0,none⟩):=by rw [Array.getD_eq_getD_getElem?,h1];rfl
 have e6:T.getD 6 undef=.pointer (some ⟨H.C,0,none⟩):=by rw [Array.getD_eq_getD_getElem?,h6];rfl
 have e7:T.getD 7 undef=.map r:=by rw [Array.getD_eq_getD_getElem?,h7];rfl
 have hl:∀ w1,Rely true X wa w1→stepG Tryz.prog false (G ((baseD 63).at ⟨T,[dcall 64 #[.pointer (some ⟨H.Wg,0,none⟩)]]⟩ (.inRegion r7ops (List.range r7ops.size)::[])) [bot]) w1 =
   .go (G ((baseD 63).at ⟨T.setIfInBounds 37 (.int .i64 i),[dcall 64 #[.pointer (some ⟨H.Wg,0,none⟩)]]⟩ (.inRegion r7ops [1,2,3]::[])) [bot]) w1 #[⟨.cell ⟨s,0,none⟩,false,false⟩]:=by
  intro w1 r1
  have hc:=(World.cell?_of_block (r1.blocks s hX)).trans hsa
  have:=stepG_load3 (main:=false) (b:=baseD 63) (a:=⟨T,[dcall 64 #[.pointer (some ⟨H.Wg,0,none⟩)]]⟩) (kk:=[]) (cs:=[bot]) (w:=w1) (ops:=r7ops) (i:=0) (rest:=[1,2,3]) (o:=r7ops[0]) (x:=.tmp 1) (ad:=⟨s,0,none⟩) (v:=.int .i64 i) rfl rfl (by simp [baseD]) rfl e1 hc loud63
  rw [show List.range r7ops.size=[0,1,2,3] from rfl,this]
  rfl
 have gr:∀ (Y:Nat→Prop) (w1:World),grown Y w1 w1=Y:=fun Y w1=>by
  funext b
  simp only [grown,eq_iff_iff]
  exact ⟨fun h=>h.elim id fun h=>by omega,.inl⟩
 refine .step (fun w1=>⟨own,X,_,w1⟩) (fun w1 r1=>⟨⟨_,hl w1 r1,⟨Nat.le_refl _,fun _ _ _=>rfl,rfl,rfl,Nat.le_refl _,fun e he=>?_⟩⟩,rfl,rfl,rfl,(gr own w1).symm,(gr X w1).symm⟩) fun w1 r1=>.stop fun w2 r2=>?_
 ·simp only [Array.mem_singleton] at he
  subst he
  rw [gr,gr]
  exact ⟨⟨hX,fun h=>by cases h⟩,rfl⟩
 refine ⟨.map r,hQa w2 (r1.trans r2),fun w3 hp hg=>?_⟩
 exact tail63 (T:=T.setIfInBounds 37 (.int .i64 i)) hP hty hn hi hne (by simpa using hT) (by simp [hT]) (by simp [h6]) (by simp [h7]) hp hg
end Go.Sim.Z
section
namespace Go.Sim
open Go Go.Conc
def ShObj (C:Cx) (E:BRel):Obj→Prop
 | .cells c _ fz=>fz=(0,0)∧AR C E c c
 | .map es _=>EsR C E es es
 | _=>False
structure ShOk (C:Cx) (Sh:Nat→Prop) (w:World):Prop where
 hnd:Sh C.P.globals.size
 at_:∀ b,Sh b→C.P.globals.size≤b∧∃ o,w.heap[b]?=some o∧ShObj C (idE Sh) o
def frzO:Obj→Obj
 | .cells c el _=>.cells c el (0,c.size)
 | o=>o
open Classical in
noncomputable def frz (Sh:Nat→Prop) (w:World):World:={ w with heap:=w.heap.mapIdx fun b o=>if Sh b then frzO o else o }
section
variable {Sh:Nat→Prop} {w:World}
theorem frz_size:(frz Sh w).heap.size=w.heap.size:=by simp [frz]
theorem frz_out {b:Nat} (h:¬ Sh b):(frz Sh w).heap[b]?=w.heap[b]?:=by
 simp only [frz,Array.getElem?_mapIdx]
 cases w.heap[b]?<;>simp [h]
theorem frz_in {b:Nat} (h:Sh b):(frz Sh w).heap[b]?=(w.heap[b]?).map frzO:=by
 simp only [frz,Array.getElem?_mapIdx]
 cases w.heap[b]?<;>simp [h]
theorem frz_cell (a:Addr):(frz Sh w).cell? a=w.cell? a:=by
 by_cases h:Sh a.block
 ·simp only [World.cell?,frz_in h]
  cases w.heap[a.block]? with
  | none=>rfl
  | some o=>cases o<;>rfl
 ·simp only [World.cell?,frz_out h]
theorem frz_map {b:Nat} {es:Array MapEntry} {ck:Nat} (h:w.heap[b]?=some (.map es ck)):(frz Sh w).heap[b]?=some (.map es ck):=by
 by_cases hs:Sh b
 ·rw [frz_in hs,h];rfl
 ·rw [frz_out hs,h]
end
theorem link_start {C:Cx} {S:Kn} {X:Nat→Prop} {w:World} (hst:C.st=true) (hgs:S.gs=[]) (h:ShOk C C.Sh w) (hX:∀ b,C.Sh b→X b):Link C S (idE C.Sh) (fun _=>False) X (frz C.Sh w) w:=by
 have lt:∀ b,C.Sh b→b<w.heap.size:=fun b hb=>by
  obtain ⟨_,o,ho,_⟩:=h.at_ b hb
  exact (Array.getElem?_eq_some_iff.1 ho).1
 refine ⟨⟨rfl,fun b b' ⟨e,hb⟩=>?_,fun b c c' h1 h2=>h1.1.symm.trans h2.1,fun b c b2 h1 h2=>h1.1.trans h2.1.symm,fun b hb=>?_,fun b b' o o' ⟨e,hb⟩ h1 h2=>?_,fun e=>(by rw [hst] at e;cases e),fun e=>(by rw [hst] at e;cases e),fun _ b b' ⟨e,hb⟩=>?_⟩,⟨rfl,h.hnd⟩,fun g hg=>(by simp [hgs] at hg),fun b b' ⟨e,hb⟩=>?_⟩
 ·subst e;rw [frz_size];exact ⟨lt b hb,lt b hb⟩
 ·rw [frz_size];exact lt b hb
 ·subst e
  obtain ⟨_,o2,ho,hs⟩:=h.at_ b hb
  rw [ho] at h2
  cases h2
  rw [frz_in hb,ho] at h1
  cases h1
  cases o' with
  | cells c el fz=>
   obtain ⟨hz,hc⟩:=hs
   exact ⟨c,fz,rfl,hc,fun _=>⟨rfl,hz⟩,fun hn=>absurd hb hn⟩
  | map es ck=>exact ⟨es,rfl,hs⟩
  | _=>exact hs.elim
 ·subst e;exact ⟨(h.at_ b hb).1,(h.at_ b hb).1⟩
 ·subst e;exact ⟨hX _ hb,fun hn=>absurd hb hn⟩
end Go.Sim
namespace Go.Sim.Z
open Go Go.Proofs Go.Conc Go.ConcN Go.RowKit Go.Conc.Lib Go.ConcR.Gen Go.ConcN.Gen
open Go.ConcR (KK wgBlock WgAt stA smA rd wr mk Payload DC0)
def ptr (b:Nat):Value:=.pointer (some ⟨b,0,none⟩)
def caps63 (wg s keys passes mask c parts:Nat):Array Value:=#[ptr wg,ptr s,ptr keys,ptr passes,ptr mask,ptr c,ptr parts]
def T63 (wg s keys passes mask c parts:Nat):Array Value:=caps63 wg s keys passes mask c parts++Array.replicate 33 undef
def call63 (wg s keys passes mask c parts:Nat):Deferred:={ target:=.fn (.func 63) (caps63 wg s keys passes mask c parts),args:=#[] }
theorem born_step (wg s keys passes mask c parts:Nat) (w:World):stepG Tryz.prog false (born Tryz.prog (call63 wg s keys passes mask c parts)) w =
  .go (G ((baseD 63).at ⟨T63 wg s keys passes mask c parts,[]⟩ [.code b63]) [bot]) w #[]:=by
 have hn:¬ Tryz.f63.name= "runtime.NumGoroutine":=by
  have:(Tryz.f63.name == "runtime.NumGoroutine")=false:=by kernel_rfl
  simpa using this
 have ht:Tryz.f63.ntmps=40:=by kernel_rfl
 simp [born,call63,stepG,unwind,callDeferred,invoke,callFunc,Tryz.func63,seen,GStep.after,G,Frame.enter,Frame.at,baseD,bot,T63,caps63,hn,body63,ht]
theorem tmr_start {Sh:Nat→Prop} {wg s keys passes mask c parts:Nat} (h1:Sh s) (h2:Sh keys) (h3:Sh passes) (h4:Sh mask) (h5:Sh c) :
  TmR (C1 Sh) S1 63 (idE Sh) (T63 wg s keys passes mask c parts) (T63 wg s keys passes mask c parts):=by
 have hsz:(T63 wg s keys passes mask c parts).size=40:=by simp [T63,caps63]
 have big:∀ i x,(T63 wg s keys passes mask c parts)[i]?=some x→7≤i→x=undef:=by
  intro i x hx h7
  rw [T63,Array.getElem?_append_right (by simpa [caps63] using h7),Array.getElem?_replicate] at hx
  split at hx
  ·exact (Option.some.inj hx).symm
  ·cases hx
 have g1:(T63 wg s keys passes mask c parts)[1]?=some (ptr s):=by simp [T63,caps63]
 have g2:(T63 wg s keys passes mask c parts)[2]?=some (ptr keys):=by simp [T63,caps63]
 have g3:(T63 wg s keys passes mask c parts)[3]?=some (ptr passes):=by simp [T63,caps63]
 have g4:(T63 wg s keys passes mask c parts)[4]?=some (ptr mask):=by simp [T63,caps63]
 have g5:(T63 wg s keys passes mask c parts)[5]?=some (ptr c):=by simp [T63,caps63]
 generalize T63 wg s keys passes mask c parts=T at *
 refine ⟨rfl,fun i x x' hi hx hx'=>?_,fun i x hi hx=>?_⟩
 ·rw [hx] at hx';cases hx'
  by_cases h7:7≤i
  ·rw [big i x hx h7];exact VR.undef
  ·have hl:i=0∨i=1∨i=2∨i=3∨i=4∨i=5∨i=6:=by omega
   rcases hl with rfl|rfl|rfl|rfl|rfl|rfl|rfl
   ·rw [show ((C1 Sh).hl 63).contains 0=true from rfl] at hi;exact absurd hi (by simp)
   ·rw [g1] at hx;obtain rfl:=Option.some.inj hx;exact .ptr 0 none ⟨rfl,h1⟩
   ·rw [g2] at hx;obtain rfl:=Option.some.inj hx;exact .ptr 0 none ⟨rfl,h2⟩
   ·rw [g3] at hx;obtain rfl:=Option.some.inj hx;exact .ptr 0 none ⟨rfl,h3⟩
   ·rw [g4] at hx;obtain rfl:=Option.some.inj hx;exact .ptr 0 none ⟨rfl,h4⟩
   ·rw [g5] at hx;obtain rfl:=Option.some.inj hx;exact .ptr 0 none ⟨rfl,h5⟩
   ·rw [show ((C1 Sh).hl 63).contains 6=true from rfl] at hi;exact absurd hi (by simp)
 ·have hi':i=7∨i=9∨i=23:=by simpa [S1] using hi
  rw [big i x hx (by omega)]
  exact ⟨fun r h=>(by cases h),fun h=>(by cases h)⟩
theorem worker {H:Ph} (hP:H.P=Tryz.prog) (hty:H.ty=146) (hn:H.n=4) (hne:H.C≠H.Wg) {Sh X0:Nat→Prop} (hX:∀ b,Sh b→X0 b) {i s keys passes mask c:Nat} (hi:i<4) {w:World}
  (hSh:ShOk (C1 Sh) Sh w) (h1:Sh s) (h2:Sh keys) (h3:Sh passes) (h4:Sh mask) (h5:Sh c) {A:Array Value→World→Prop} {R:Option Nat→World→Prop}
  (K1:∀ τ,c1.wp Tryz.prog (fun e a w1=>e=.normal∧A a.tmps w1) ⟨T63 H.Wg s keys passes mask c H.C,[stuckD]⟩ ((frz Sh w).tp τ 0))
  (K2:∀ t1 w1,A t1 w1→∀ τ,cM.wp Tryz.prog (fun e a w2=>e=.normal∧a.tmps.size=40∧a.tmps[1]?=some (ptr s)∧w2.cell? ⟨s,0,none⟩=some (.int .i64 i)∧∃ r,a.tmps[7]?=some (.map r)∧R r w2) ⟨t1,[stuckD]⟩ (w1.tp τ 0))
  (hQ:∀ E2 own X w2 w' r r',Sub (idE Sh) E2→Link (C1 Sh) S1 E2 own X w2 w'→VR (C1 Sh) E2 (.map r) (.map r')→R r w2→H.Q i own X (.map r') w') :
  Runs true Tryz.prog false (WStop H i) ⟨fun _=>False,X0,born Tryz.prog (call63 H.Wg s keys passes mask c H.C),w⟩:=by
 have hsz:(T63 H.Wg s keys passes mask c H.C).size=40:=by simp [T63,caps63]
 refine Runs.idle (fun w1=>born_step _ _ _ _ _ _ _ w1) rfl rfl rfl fun wa ra=>?_
 have hL:=(link_start (S:=S1) (C:=C1 Sh) rfl rfl hSh hX).rely ra
 refine (worker1 (A2:=fun t w2=>t.size=40∧t[1]?=some (ptr s)∧w2.cell? ⟨s,0,none⟩=some (.int .i64 i)∧∃ r,t[7]?=some (.map r)∧R r w2) hL (tmr_start h1 h2 h3 h4 h5) K1 K2).bind ?_
 rintro ⟨own,X,g,wz⟩ ⟨E2,t2,w2,T2,hs2,hL2,ht2,hh2,⟨hz2,ht1,hsv,r,hr,hR⟩,hg⟩
 simp only at hL2 hg
 subst hg
 have hE:E2 s s:=hs2 _ _ ⟨rfl,h1⟩
 have sz2:T2.size=t2.size:=ht2.size.symm
 have some_of:∀ (i:Nat) (x:Value),((C1 Sh).hl 63).contains i=false→t2[i]?=some x→∃ x',T2[i]?=some x'∧VR (C1 Sh) E2 x x':=by
  intro i x hi hx
  have hlt:i<t2.size:=(Array.getElem?_eq_some_iff.1 hx).1
  have h':T2[i]?=some (T2[i]'(by omega)):=Array.getElem?_eq_getElem _
  exact ⟨_,h',ht2.at_ i x _ hi hx h'⟩
 obtain ⟨x1,hx1,hv1⟩:=some_of 1 _ rfl ht1
 obtain ⟨x7,hx7,hv7⟩:=some_of 7 _ rfl hr
 have e1:x1=ptr s:=by
  cases hv1 with
  | ptr o p h=>rw [hL2.wr.fn _ _ _ h hE];rfl
 subst e1
 have hm:∃ r',x7=.map r':=by
  cases hv7 with
  | nilMap=>exact ⟨_,rfl⟩
  | map h=>exact ⟨_,rfl⟩
 obtain ⟨r',rfl⟩:=hm
 have hc:∃ v,wz.cell? ⟨s,0,none⟩=some v∧VR (C1 Sh) E2 (.int .i64 i) v:=hL2.wr.cell hE hsv
 obtain ⟨v,hv,hvr⟩:=hc
 cases hvr
 have g0:(T63 H.Wg s keys passes mask c H.C).getD 0 undef=ptr H.Wg:=by simp [T63,caps63]
 have g6:(T63 H.Wg s keys passes mask c H.C)[6]?=some (ptr H.C):=by simp [T63,caps63]
 rw [g0]
 have hszT:T2.size=40:=sz2.trans hz2
 refine worker2 hP hty hn hi hne hszT hx1 ((hh2 6 (.inr rfl)).trans g6) hx7 hv (hL2.rng _ _ hE).1 fun w1 r1=>?_
 exact hQ E2 own X w2 w1 r r' hs2 (hL2.rely r1) hv7 hR
end Go.Sim.Z
end
