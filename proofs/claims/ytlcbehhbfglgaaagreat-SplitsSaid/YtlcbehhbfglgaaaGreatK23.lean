/- Proved here: laws for the claim. No conditions. -/
import Derived.Deep.Slices
import Derived.Conc.Holds
import Derived.Test.YtlcbehhbfglgaaaGreatRows
import Derived.ProofKit
import Derived.Test.YtlcbehhbfglgaaaGreatK02
import Derived.Test.YtlcbehhbfglgaaaGreatK13
import Derived.Test.YtlcbehhbfglgaaaGreatK22
set_option linter.all false
set_option maxHeartbeats 4000000
set_option maxRecDepth 100000
open Go.Proofs.Tryz
namespace Go.Sim.Z
open Go Go.Proofs Go.RowKit Go.Conc Go.Maps
def Jdv:Oper:={ dst:=some 2,op:=.assign (.const (.slice none 0 0)),type:=23,pos:= "keeps.go:24",after:=#[],guard:=none }
def x6_0:Array Oper:=#[Jdv]
def zZ:Oper:={ dst:=some 3,op:=.assign (.const (.slice none 0 0)),type:=23,pos:= "keeps.go:25",after:=#[],guard:=none }
def x6_1:Array Oper:=#[zZ]
def Jdx:Oper:={ dst:=some 4,op:=.assign (.const (.int .i64 0)),type:=3,pos:= "keeps.go:26",after:=#[],guard:=none }
def x6_2:Array Oper:=#[Jdx]
def U6:Oper:={ dst:=some 8,op:=.move (.tmp 4),type:=3,pos:= "keeps.go:26",after:=#[],guard:=none }
def U2:Oper:={ dst:=some 9,op:=.move (.tmp 0),type:=22,pos:= "keeps.go:26",after:=#[],guard:=none }
def Un:Oper:={ dst:=some 10,op:=.call { callee:=.builtin .len,args:=#[.tmp 9],argTypes:=#[22] },type:=3,pos:= "keeps.go:26",after:=#[{ on:=1,ground:=.data }],guard:=none }
def Uw:Oper:={ dst:=some 11,op:=.binOp .lss 3 (.tmp 8) (.tmp 10) 3,type:=4,pos:= "keeps.go:26",after:=#[{ on:=0,ground:=.data },{ on:=2,ground:=.data }],guard:=none }
def NT:Oper:={ dst:=some 12,op:=.move (.tmp 11),type:=4,pos:= "keeps.go:26",after:=#[{ on:=3,ground:=.data }],guard:=none }
def SK:Oper:={ dst:=some 13,op:=.move (.tmp 4),type:=3,pos:= "keeps.go:26",after:=#[{ on:=4,ground:=.guard }],guard:=some (4,true) }
def SQ:Oper:={ dst:=some 14,op:=.binOp .lss 3 (.tmp 13) (.const (.int .i64 200)) 3,type:=4,pos:= "keeps.go:26",after:=#[{ on:=5,ground:=.data },{ on:=4,ground:=.guard }],guard:=some (4,true) }
def U3:Oper:={ dst:=some 15,op:=.pick (.tmp 12) (.tmp 14) (.const (.bool false)),type:=4,pos:= "keeps.go:26",after:=#[{ on:=4,ground:=.data },{ on:=6,ground:=.data }],guard:=none }
def PY:Array Oper:=#[U6,U2,Un,Uw,NT,SK,SQ,U3]
def Jdy:Oper:={ dst:=some 16,op:=.move (.tmp 4),type:=3,pos:= "keeps.go:26",after:=#[],guard:=none }
def Jdz:Oper:={ dst:=some 17,op:=.binOp .add 3 (.tmp 16) (.const (.int .i64 1)) 3,type:=3,pos:= "keeps.go:26",after:=#[{ on:=0,ground:=.data }],guard:=none }
def zV:Oper:={ dst:=some 4,op:=.assign (.tmp 17),type:=3,pos:= "keeps.go:26",after:=#[{ on:=1,ground:=.data },{ on:=0,ground:=.phase },{ on:=1,ground:=.phase }],guard:=none }
def uJ:Array Oper:=#[Jdy,Jdz,zV]
def zQ:Oper:={ dst:=some 18,op:=.move (.tmp 0),type:=22,pos:= "keeps.go:27",after:=#[],guard:=none }
def zC:Oper:={ dst:=some 19,op:=.move (.tmp 4),type:=3,pos:= "keeps.go:27",after:=#[],guard:=none }
def Je3:Oper:={ dst:=some 20,op:=.indexAddr 22 (.tmp 18) (.tmp 19),type:=0,pos:= "keeps.go:27",after:=#[{ on:=0,ground:=.data },{ on:=1,ground:=.data }],guard:=none }
def Je4:Oper:={ dst:=some 21,op:=.fieldAddr 53 (.tmp 20) 0,type:=0,pos:= "keeps.go:27",after:=#[{ on:=2,ground:=.data }],guard:=none }
def Je5:Oper:={ dst:=some 22,op:=.load 3 (.tmp 21),type:=3,pos:= "keeps.go:27",after:=#[{ on:=3,ground:=.data }],guard:=none }
def Je6:Oper:={ dst:=some 23,op:=.call { callee:=.value (.func 8),args:=#[.tmp 22,.const (.int .i64 4)],argTypes:=#[3,3] },type:=3,pos:= "keeps.go:27",after:=#[{ on:=4,ground:=.data }],guard:=none }
def yU:Oper:={ dst:=some 5,op:=.assign (.tmp 23),type:=3,pos:= "keeps.go:27",after:=#[{ on:=5,ground:=.data },{ on:=5,ground:=.chain },{ on:=0,ground:=.phase },{ on:=1,ground:=.phase },{ on:=2,ground:=.phase },{ on:=3,ground:=.phase },{ on:=4,ground:=.phase },{ on:=5,ground:=.phase }],guard:=none }
def uH:Array Oper:=#[zQ,zC,Je3,Je4,Je5,Je6,yU]
def Je8:Oper:={ dst:=some 24,op:=.move (.tmp 0),type:=22,pos:= "keeps.go:28",after:=#[],guard:=none }
def Je9:Oper:={ dst:=some 25,op:=.move (.tmp 4),type:=3,pos:= "keeps.go:28",after:=#[],guard:=none }
def Jea:Oper:={ dst:=some 26,op:=.indexAddr 22 (.tmp 24) (.tmp 25),type:=0,pos:= "keeps.go:28",after:=#[{ on:=0,ground:=.data },{ on:=1,ground:=.data }],guard:=none }
def Jeb:Oper:={ dst:=some 27,op:=.fieldAddr 53 (.tmp 26) 1,type:=0,pos:= "keeps.go:28",after:=#[{ on:=2,ground:=.data }],guard:=none }
def Jec:Oper:={ dst:=some 28,op:=.load 3 (.tmp 27),type:=3,pos:= "keeps.go:28",after:=#[{ on:=3,ground:=.data }],guard:=none }
def Jed:Oper:={ dst:=some 29,op:=.call { callee:=.value (.func 8),args:=#[.tmp 28,.const (.int .i64 4)],argTypes:=#[3,3] },type:=3,pos:= "keeps.go:28",after:=#[{ on:=4,ground:=.data }],guard:=none }
def Jee:Oper:={ dst:=some 6,op:=.assign (.tmp 29),type:=3,pos:= "keeps.go:28",after:=#[{ on:=5,ground:=.data },{ on:=5,ground:=.chain },{ on:=0,ground:=.phase },{ on:=1,ground:=.phase },{ on:=2,ground:=.phase },{ on:=3,ground:=.phase },{ on:=4,ground:=.phase },{ on:=5,ground:=.phase }],guard:=none }
def tC:Array Oper:=#[Je8,Je9,Jea,Jeb,Jec,Jed,Jee]
def yV:Oper:={ dst:=some 30,op:=.move (.tmp 0),type:=22,pos:= "keeps.go:29",after:=#[],guard:=none }
def Jeg:Oper:={ dst:=some 31,op:=.move (.tmp 4),type:=3,pos:= "keeps.go:29",after:=#[],guard:=none }
def Jeh:Oper:={ dst:=some 32,op:=.indexAddr 22 (.tmp 30) (.tmp 31),type:=0,pos:= "keeps.go:29",after:=#[{ on:=0,ground:=.data },{ on:=1,ground:=.data }],guard:=none }
def Jei:Oper:={ dst:=some 33,op:=.fieldAddr 53 (.tmp 32) 2,type:=0,pos:= "keeps.go:29",after:=#[{ on:=2,ground:=.data }],guard:=none }
def zL:Oper:={ dst:=some 34,op:=.load 3 (.tmp 33),type:=3,pos:= "keeps.go:29",after:=#[{ on:=3,ground:=.data }],guard:=none }
def yP:Oper:={ dst:=some 35,op:=.call { callee:=.value (.func 8),args:=#[.tmp 34,.const (.int .i64 4)],argTypes:=#[3,3] },type:=3,pos:= "keeps.go:29",after:=#[{ on:=4,ground:=.data }],guard:=none }
def zW:Oper:={ dst:=some 7,op:=.assign (.tmp 35),type:=3,pos:= "keeps.go:29",after:=#[{ on:=5,ground:=.data },{ on:=5,ground:=.chain },{ on:=0,ground:=.phase },{ on:=1,ground:=.phase },{ on:=2,ground:=.phase },{ on:=3,ground:=.phase },{ on:=4,ground:=.phase },{ on:=5,ground:=.phase }],guard:=none }
def sZ:Array Oper:=#[yV,Jeg,Jeh,Jei,zL,yP,zW]
def Jem:Oper:={ dst:=some 36,op:=.move (.tmp 3),type:=23,pos:= "keeps.go:30",after:=#[],guard:=none }
def yY:Oper:={ dst:=some 37,op:=.move (.tmp 5),type:=3,pos:= "keeps.go:30",after:=#[],guard:=none }
def Jeo:Oper:={ dst:=some 38,op:=.move (.tmp 6),type:=3,pos:= "keeps.go:30",after:=#[],guard:=none }
def Jep:Oper:={ dst:=some 39,op:=.move (.tmp 7),type:=3,pos:= "keeps.go:30",after:=#[],guard:=none }
def Jeq:Oper:={ dst:=some 40,op:=.buildSlice 33 3 #[(0,.tmp 37),(1,.tmp 38),(2,.tmp 39)],type:=33,pos:= "keeps.go:30",after:=#[{ on:=1,ground:=.data },{ on:=2,ground:=.data },{ on:=3,ground:=.data }],guard:=none }
def Jer:Oper:={ dst:=some 41,op:=.move (.tmp 0),type:=22,pos:= "keeps.go:30",after:=#[],guard:=none }
def zN:Oper:={ dst:=some 42,op:=.move (.tmp 4),type:=3,pos:= "keeps.go:30",after:=#[],guard:=none }
def Jet:Oper:={ dst:=some 43,op:=.indexAddr 22 (.tmp 41) (.tmp 42),type:=0,pos:= "keeps.go:30",after:=#[{ on:=5,ground:=.data },{ on:=6,ground:=.data }],guard:=none }
def Jeu:Oper:={ dst:=some 44,op:=.fieldAddr 53 (.tmp 43) 3,type:=0,pos:= "keeps.go:30",after:=#[{ on:=7,ground:=.data }],guard:=none }
def uQ:Oper:={ dst:=some 45,op:=.load 3 (.tmp 44),type:=3,pos:= "keeps.go:30",after:=#[{ on:=8,ground:=.data }],guard:=none }
def Jbc:Oper:={ dst:=some 46,op:=.move (.tmp 0),type:=22,pos:= "keeps.go:30",after:=#[],guard:=none }
def Jbd:Oper:={ dst:=some 47,op:=.move (.tmp 4),type:=3,pos:= "keeps.go:30",after:=#[],guard:=none }
def Jbe:Oper:={ dst:=some 48,op:=.indexAddr 22 (.tmp 46) (.tmp 47),type:=0,pos:= "keeps.go:30",after:=#[{ on:=10,ground:=.data },{ on:=11,ground:=.data }],guard:=none }
def Jbf:Oper:={ dst:=some 49,op:=.fieldAddr 53 (.tmp 48) 4,type:=0,pos:= "keeps.go:30",after:=#[{ on:=12,ground:=.data }],guard:=none }
def uF:Oper:={ dst:=some 50,op:=.load 3 (.tmp 49),type:=3,pos:= "keeps.go:30",after:=#[{ on:=13,ground:=.data }],guard:=none }
def Jbg:Oper:={ dst:=some 51,op:=.build 47 #[(0,.tmp 40),(1,.tmp 45),(2,.tmp 50)],type:=47,pos:= "keeps.go:30",after:=#[{ on:=4,ground:=.data },{ on:=9,ground:=.data },{ on:=14,ground:=.data }],guard:=none }
def rD:Oper:={ dst:=some 52,op:=.buildSlice 23 1 #[(0,.tmp 51)],type:=23,pos:= "keeps.go:30",after:=#[{ on:=15,ground:=.data }],guard:=none }
def Jwf:Oper:={ dst:=some 53,op:=.call { callee:=.builtin .append,args:=#[.tmp 36,.tmp 52],argTypes:=#[23,23] },type:=23,pos:= "keeps.go:30",after:=#[{ on:=0,ground:=.data },{ on:=16,ground:=.data }],guard:=none }
def Jbh:Oper:={ dst:=some 3,op:=.assign (.tmp 53),type:=23,pos:= "keeps.go:30",after:=#[{ on:=17,ground:=.data },{ on:=17,ground:=.chain },{ on:=0,ground:=.phase },{ on:=1,ground:=.phase },{ on:=2,ground:=.phase },{ on:=3,ground:=.phase },{ on:=4,ground:=.phase },{ on:=5,ground:=.phase },{ on:=6,ground:=.phase },{ on:=7,ground:=.phase },{ on:=8,ground:=.phase },{ on:=9,ground:=.phase },{ on:=10,ground:=.phase },{ on:=11,ground:=.phase },{ on:=12,ground:=.phase },{ on:=13,ground:=.phase },{ on:=14,ground:=.phase },{ on:=15,ground:=.phase },{ on:=16,ground:=.phase },{ on:=17,ground:=.phase }],guard:=none }
def O0:Array Oper:=#[Jem,yY,Jeo,Jep,Jeq,Jer,zN,Jet,Jeu,uQ,Jbc,Jbd,Jbe,Jbf,uF,Jbg,rD,Jwf,Jbh]
def Jev:Oper:={ dst:=some 54,op:=.move (.tmp 3),type:=23,pos:= "keeps.go:32",after:=#[],guard:=none }
def zA:Oper:={ dst:=some 2,op:=.assign (.tmp 54),type:=23,pos:= "keeps.go:32",after:=#[{ on:=0,ground:=.data },{ on:=0,ground:=.phase }],guard:=none }
def Jz3:Array Oper:=#[Jev,zA]
def Jhi:Code:=.seq (.seq (.region 3 PY false) (.cond (.tmp 15) .skip (.exit 0))) (.seq (.block 1 (.seq (.region 5 uH false) (.seq (.region 6 tC false) (.seq (.region 7 sZ false) (.region 8 O0 true))))) (.region 4 uJ false))
def b6:Code:=.seq (.region 0 x6_0 false) (.seq (.region 1 x6_1 false) (.seq (.seq (.region 2 x6_2 false) (.block 0 (.loop Jhi))) (.seq (.region 9 Jz3 false) .ret)))
theorem body6:f6.body=some b6:=by kernel_rfl
theorem Jnl:GH C0 6:=⟨f6,by kernel_rfl,by kernel_rfl,by kernel_rfl⟩
theorem Jex:C0.hl 6≠[]:=by show[0,9,18,20,21,24,26,27,30,32,33,41,43,44,46,48,49,1000]≠[];simp
theorem hl6{i:Nat}(h:(C0.hl 6).contains i=true):i≠2/\i≠3/\i≠4/\i≠5/\i≠6/\i≠7/\i≠23/\i≠29/\i≠35/\i≠53:=by have h':i∈[0,9,18,20,21,24,26,27,30,32,33,41,43,44,46,48,49,1000]:=Nh.1 h;simp only[AO,C9,or_false]at h';omega
structure F6(la:JI)(n cap k:Nat)(v3:JJ)(T:JC):Prop where
 sz:T.size=55
 s0:T[0]?=some (.slice la n cap)
 s2:T[2]?=some (.slice none 0 0)
 s3:T[3]?=some v3
 s4:T[4]?=some (.int .i64 k)
theorem F6.set{la:JI}{n cap k:Nat}{v3:JJ}{T:JC}(h:F6 la n cap k v3 T){s:Nat}(hs:5<=s)(v:JJ):F6 la n cap k v3 (T.setIfInBounds s v):=by obtain⟨h1,h2,h3,h4,h5⟩:=h;refine⟨by simpa using h1,?_,?_,?_,?_⟩<;>rw[AQ (by omega)]<;>assumption
section
variable{W E0 E:JB}{w0 w:JE}{T:JC}{la:JI}{n cap k b o:Nat}{v3:JJ}{x:Int}{kk:List Item}{cs:List Frame}{Post:(JB)->JF->JE->Prop}
theorem fld5(H:HS 6 W E0 w0 E T w)(F:F6 la n cap k v3 T)(QF:la=some ⟨b,o,none⟩)(hk:k<n)(hW:W b)(hT:∀c z,w.heap[b]?≠some (.cells c wgT z))(hc:w.cell? ⟨b,o+k*5,none⟩=some (.int .i64 x))(hx:I64 x)
  (kn:∀E' T' w',HS 6 W E0 w0 E' T' w'->F6 la n cap k v3 T'->T'[5]?=some (.int .i64 (Ju x 4))->(∀s,2<=s->s<8->s≠5->T'[s]?=T[s]?)->(∀b,E b->E' b)->Reach prog Post W (G ((base 6).at ⟨T',[]⟩ kk) cs) w') :
  Reach prog Post W (G ((base 6).at ⟨T,[]⟩ (.code (.region 5 uH false)::kk)) cs) w:=by
 subst QF;have sz:=F.sz;have s0:=F.s0;have s4:=F.s4;have Ce:(k:Int)<n:=by omega
 have ct:∀{d:Nat}{h:Array Obj}(z:JE),z.heap=w.heap->z.cell? ⟨b,o+k*5,none⟩=some (.int .i64 x):=λz hz=>(DX (by rw[hz])).trans hc;refine J6 (λw1=>stepG_region) rfl λd1=>?_;rw[show List.range uH.size=[0,1,2,3,4]++([5]++[6])from rfl];have H:=H.at d1;refine Jc (o:=zQ) (v:=.slice (some ⟨b,o,none⟩) n cap) H rfl rfl rfl (λw1=>by simp[execOp,go_sem,zQ,s0];try rfl) (λw1=>by simp[execOp,go_sem,zQ,s0];try rfl) (.inl rfl) λw1 H h1=>?_;refine Jc (o:=zC) (v:=.int .i64 k) H rfl rfl rfl (λw1=>by simp[execOp,go_sem,zC,s4];try rfl) (λw1=>by simp[execOp,go_sem,zC,s4];try rfl) (.inr (.int _ _)) λw2 H h2=>?_;refine Jc (o:=Je3) (v:=pt b (o+k*5)) H rfl rfl rfl (λw1=>by simp[execOp,go_sem,Je3,sz,Ce];try rfl) (λw1=>by simp[execOp,go_sem,Je3,sz,Ce];try rfl) (.inl rfl) λw3 H h3=>?_;refine Jc (o:=Je4) (v:=pt b (o+k*5)) H rfl rfl rfl (λw1=>by simp[execOp,go_sem,Je4,sz];try rfl) (λw1=>by simp[execOp,go_sem,Je4,sz];try rfl) (.inl rfl) λw4 H h4=>?_;have e4:w4.heap=w.heap:=h4.trans (h3.trans (h2.trans h1));refine uP (o:=Je5) (v:=.int .i64 x) (a:=⟨b,o+k*5,none⟩) H hW (by rw[e4];exact hT) (ct (d:=0) (h:=#[]) w4 e4) rfl rfl rfl (λw1 DU=>by simp[execOp,go_sem,Je5,sz,DU];try rfl) (λw1 DU=>by simp[execOp,go_sem,Je5,sz,DU];try rfl) (.inr (.int _ _)) λw5 H h5 KA=>?_;have pa:=YZ (n:=4) hx (by omega) (by omega);refine Jdu (pre:=[5]) (rest:=[6]) (Q:=λT2 w2=>T2=(((((T.setIfInBounds 18 (.slice (some ⟨b,o,none⟩) n cap)).setIfInBounds 19 (.int .i64 k)).setIfInBounds 20 (pt b (o+k*5))).setIfInBounds 21 (pt b (o+k*5))).setIfInBounds 22 (.int .i64 x)).setIfInBounds 23 (.int .i64 (Ju x 4))/\w2.heap=w5.heap) H (by kernel_rfl) (by simp) Jnl rfl Jex (λτ=>?_) λE6 T6 w6' w6 LP O9 QG TY ⟨q1,q2⟩ Y5=>?_
 ·rw[wpOps_cons];refine NM (o:=Je6) (w':=w5.tp τ 0) (i:=5) (f:=8) (args:=#[.int .i64 x,.int .i64 4]) rfl rfl (by simp[execOp,go_sem,Je6,sz];try rfl) (pa _) ?_;rintro e w2 ⟨rfl,rfl⟩;refine⟨_,rfl,?_⟩;simp only[wpOps,Act.put,Je6];refine⟨trivial,trivial,λi hi Oa=>?_,trivial,rfl⟩;have:=hl6 hi;exact AQ (by omega)
 subst q1;have H:=(H.to O9 LP ((KE.of_eq (λb _=>by rw[q2])).trans ((Jy rfl QG).mono LP)) Y5 (by rw[QG.lsz rfl,q2];exact Ad _)).put TY;refine Jc (o:=yU) (v:=.int .i64 (Ju x 4)) H rfl rfl rfl (λw1=>by simp[execOp,go_sem,yU,sz];try rfl) (λw1=>by simp[execOp,go_sem,yU,sz];try rfl) (.inr (.int _ _)) λw7 H h7=>?_;refine J6 (λw1=>stepG_region_end) rfl λd2=>?_;refine kn _ _ _ (H.at d2) (((((((F.set (by omega) _).set (by omega) _).set (by omega) _).set (by omega) _).set (by omega) _).set (by omega) _).set (by omega) _) (by simp[sz]) (λs h2 h8 hq=>?_) LP;simp only[FC]
 repeat rw[if_neg (by omega)]
theorem fld6(H:HS 6 W E0 w0 E T w)(F:F6 la n cap k v3 T)(QF:la=some ⟨b,o,none⟩)(hk:k<n)(hW:W b)(hT:∀c z,w.heap[b]?≠some (.cells c wgT z))(hc:w.cell? ⟨b,o+k*5+1,none⟩=some (.int .i64 x))(hx:I64 x)
  (kn:∀E' T' w',HS 6 W E0 w0 E' T' w'->F6 la n cap k v3 T'->T'[6]?=some (.int .i64 (Ju x 4))->(∀s,2<=s->s<8->s≠6->T'[s]?=T[s]?)->(∀b,E b->E' b)->Reach prog Post W (G ((base 6).at ⟨T',[]⟩ kk) cs) w') :
  Reach prog Post W (G ((base 6).at ⟨T,[]⟩ (.code (.region 6 tC false)::kk)) cs) w:=by
 subst QF;have sz:=F.sz;have s0:=F.s0;have s4:=F.s4;have Ce:(k:Int)<n:=by omega
 have ct:∀{d:Nat}{h:Array Obj}(z:JE),z.heap=w.heap->z.cell? ⟨b,o+k*5+1,none⟩=some (.int .i64 x):=λz hz=>(DX (by rw[hz])).trans hc;refine J6 (λw1=>stepG_region) rfl λd1=>?_;rw[show List.range tC.size=[0,1,2,3,4]++([5]++[6])from rfl];have H:=H.at d1;refine Jc (o:=Je8) (v:=.slice (some ⟨b,o,none⟩) n cap) H rfl rfl rfl (λw1=>by simp[execOp,go_sem,Je8,s0];try rfl) (λw1=>by simp[execOp,go_sem,Je8,s0];try rfl) (.inl rfl) λw1 H h1=>?_;refine Jc (o:=Je9) (v:=.int .i64 k) H rfl rfl rfl (λw1=>by simp[execOp,go_sem,Je9,s4];try rfl) (λw1=>by simp[execOp,go_sem,Je9,s4];try rfl) (.inr (.int _ _)) λw2 H h2=>?_;refine Jc (o:=Jea) (v:=pt b (o+k*5)) H rfl rfl rfl (λw1=>by simp[execOp,go_sem,Jea,sz,Ce];try rfl) (λw1=>by simp[execOp,go_sem,Jea,sz,Ce];try rfl) (.inl rfl) λw3 H h3=>?_;refine Jc (o:=Jeb) (v:=pt b (o+k*5+1)) H rfl rfl rfl (λw1=>by simp[execOp,go_sem,Jeb,sz];try rfl) (λw1=>by simp[execOp,go_sem,Jeb,sz];try rfl) (.inl rfl) λw4 H h4=>?_;have e4:w4.heap=w.heap:=h4.trans (h3.trans (h2.trans h1));refine uP (o:=Jec) (v:=.int .i64 x) (a:=⟨b,o+k*5+1,none⟩) H hW (by rw[e4];exact hT) (ct (d:=0) (h:=#[]) w4 e4) rfl rfl rfl (λw1 DU=>by simp[execOp,go_sem,Jec,sz,DU];try rfl) (λw1 DU=>by simp[execOp,go_sem,Jec,sz,DU];try rfl) (.inr (.int _ _)) λw5 H h5 KA=>?_;have pa:=YZ (n:=4) hx (by omega) (by omega);refine Jdu (pre:=[5]) (rest:=[6]) (Q:=λT2 w2=>T2=(((((T.setIfInBounds 24 (.slice (some ⟨b,o,none⟩) n cap)).setIfInBounds 25 (.int .i64 k)).setIfInBounds 26 (pt b (o+k*5))).setIfInBounds 27 (pt b (o+k*5+1))).setIfInBounds 28 (.int .i64 x)).setIfInBounds 29 (.int .i64 (Ju x 4))/\w2.heap=w5.heap) H (by kernel_rfl) (by simp) Jnl rfl Jex (λτ=>?_) λE6 T6 w6' w6 LP O9 QG TY ⟨q1,q2⟩ Y5=>?_
 ·rw[wpOps_cons];refine NM (o:=Jed) (w':=w5.tp τ 0) (i:=5) (f:=8) (args:=#[.int .i64 x,.int .i64 4]) rfl rfl (by simp[execOp,go_sem,Jed,sz];try rfl) (pa _) ?_;rintro e w2 ⟨rfl,rfl⟩;refine⟨_,rfl,?_⟩;simp only[wpOps,Act.put,Jed];refine⟨trivial,trivial,λi hi Oa=>?_,trivial,rfl⟩;have:=hl6 hi;exact AQ (by omega)
 subst q1;have H:=(H.to O9 LP ((KE.of_eq (λb _=>by rw[q2])).trans ((Jy rfl QG).mono LP)) Y5 (by rw[QG.lsz rfl,q2];exact Ad _)).put TY;refine Jc (o:=Jee) (v:=.int .i64 (Ju x 4)) H rfl rfl rfl (λw1=>by simp[execOp,go_sem,Jee,sz];try rfl) (λw1=>by simp[execOp,go_sem,Jee,sz];try rfl) (.inr (.int _ _)) λw7 H h7=>?_;refine J6 (λw1=>stepG_region_end) rfl λd2=>?_;refine kn _ _ _ (H.at d2) (((((((F.set (by omega) _).set (by omega) _).set (by omega) _).set (by omega) _).set (by omega) _).set (by omega) _).set (by omega) _) (by simp[sz]) (λs h2 h8 hq=>?_) LP;simp only[FC]
 repeat rw[if_neg (by omega)]
theorem fld7(H:HS 6 W E0 w0 E T w)(F:F6 la n cap k v3 T)(QF:la=some ⟨b,o,none⟩)(hk:k<n)(hW:W b)(hT:∀c z,w.heap[b]?≠some (.cells c wgT z))(hc:w.cell? ⟨b,o+k*5+2,none⟩=some (.int .i64 x))(hx:I64 x)
  (kn:∀E' T' w',HS 6 W E0 w0 E' T' w'->F6 la n cap k v3 T'->T'[7]?=some (.int .i64 (Ju x 4))->(∀s,2<=s->s<8->s≠7->T'[s]?=T[s]?)->(∀b,E b->E' b)->Reach prog Post W (G ((base 6).at ⟨T',[]⟩ kk) cs) w') :
  Reach prog Post W (G ((base 6).at ⟨T,[]⟩ (.code (.region 7 sZ false)::kk)) cs) w:=by
 subst QF;have sz:=F.sz;have s0:=F.s0;have s4:=F.s4;have Ce:(k:Int)<n:=by omega
 have ct:∀{d:Nat}{h:Array Obj}(z:JE),z.heap=w.heap->z.cell? ⟨b,o+k*5+2,none⟩=some (.int .i64 x):=λz hz=>(DX (by rw[hz])).trans hc;refine J6 (λw1=>stepG_region) rfl λd1=>?_;rw[show List.range sZ.size=[0,1,2,3,4]++([5]++[6])from rfl];have H:=H.at d1;refine Jc (o:=yV) (v:=.slice (some ⟨b,o,none⟩) n cap) H rfl rfl rfl (λw1=>by simp[execOp,go_sem,yV,s0];try rfl) (λw1=>by simp[execOp,go_sem,yV,s0];try rfl) (.inl rfl) λw1 H h1=>?_;refine Jc (o:=Jeg) (v:=.int .i64 k) H rfl rfl rfl (λw1=>by simp[execOp,go_sem,Jeg,s4];try rfl) (λw1=>by simp[execOp,go_sem,Jeg,s4];try rfl) (.inr (.int _ _)) λw2 H h2=>?_;refine Jc (o:=Jeh) (v:=pt b (o+k*5)) H rfl rfl rfl (λw1=>by simp[execOp,go_sem,Jeh,sz,Ce];try rfl) (λw1=>by simp[execOp,go_sem,Jeh,sz,Ce];try rfl) (.inl rfl) λw3 H h3=>?_;refine Jc (o:=Jei) (v:=pt b (o+k*5+2)) H rfl rfl rfl (λw1=>by simp[execOp,go_sem,Jei,sz];try rfl) (λw1=>by simp[execOp,go_sem,Jei,sz];try rfl) (.inl rfl) λw4 H h4=>?_;have e4:w4.heap=w.heap:=h4.trans (h3.trans (h2.trans h1));refine uP (o:=zL) (v:=.int .i64 x) (a:=⟨b,o+k*5+2,none⟩) H hW (by rw[e4];exact hT) (ct (d:=0) (h:=#[]) w4 e4) rfl rfl rfl (λw1 DU=>by simp[execOp,go_sem,zL,sz,DU];try rfl) (λw1 DU=>by simp[execOp,go_sem,zL,sz,DU];try rfl) (.inr (.int _ _)) λw5 H h5 KA=>?_;have pa:=YZ (n:=4) hx (by omega) (by omega);refine Jdu (pre:=[5]) (rest:=[6]) (Q:=λT2 w2=>T2=(((((T.setIfInBounds 30 (.slice (some ⟨b,o,none⟩) n cap)).setIfInBounds 31 (.int .i64 k)).setIfInBounds 32 (pt b (o+k*5))).setIfInBounds 33 (pt b (o+k*5+2))).setIfInBounds 34 (.int .i64 x)).setIfInBounds 35 (.int .i64 (Ju x 4))/\w2.heap=w5.heap) H (by kernel_rfl) (by simp) Jnl rfl Jex (λτ=>?_) λE6 T6 w6' w6 LP O9 QG TY ⟨q1,q2⟩ Y5=>?_
 ·rw[wpOps_cons];refine NM (o:=yP) (w':=w5.tp τ 0) (i:=5) (f:=8) (args:=#[.int .i64 x,.int .i64 4]) rfl rfl (by simp[execOp,go_sem,yP,sz];try rfl) (pa _) ?_;rintro e w2 ⟨rfl,rfl⟩;refine⟨_,rfl,?_⟩;simp only[wpOps,Act.put,yP];refine⟨trivial,trivial,λi hi Oa=>?_,trivial,rfl⟩;have:=hl6 hi;exact AQ (by omega)
 subst q1;have H:=(H.to O9 LP ((KE.of_eq (λb _=>by rw[q2])).trans ((Jy rfl QG).mono LP)) Y5 (by rw[QG.lsz rfl,q2];exact Ad _)).put TY;refine Jc (o:=zW) (v:=.int .i64 (Ju x 4)) H rfl rfl rfl (λw1=>by simp[execOp,go_sem,zW,sz];try rfl) (λw1=>by simp[execOp,go_sem,zW,sz];try rfl) (.inr (.int _ _)) λw7 H h7=>?_;refine J6 (λw1=>stepG_region_end) rfl λd2=>?_;refine kn _ _ _ (H.at d2) (((((((F.set (by omega) _).set (by omega) _).set (by omega) _).set (by omega) _).set (by omega) _).set (by omega) _).set (by omega) _) (by simp[sz]) (λs h2 h8 hq=>?_) LP;simp only[FC]
 repeat rw[if_neg (by omega)]
end
inductive QO(b0:Nat)(E:JB)(w:JE):List (Nat × Obj)->Prop
 |nil:QO b0 E w []
 |cons{p:Nat × Obj}{H:List (Nat × Obj)}(h:b0<=p.1/\E p.1/\w.heap[p.1]?=some p.2)(t:QO b0 E w H):QO b0 E w (p::H)
theorem QO.hd{b0:Nat}{E:JB}{w:JE}{p:Nat × Obj}{H:List (Nat × Obj)}(h:QO b0 E w (p::H)):b0<=p.1/\E p.1/\w.heap[p.1]?=some p.2:=by cases h;assumption
theorem QO.tl{b0:Nat}{E:JB}{w:JE}{p:Nat × Obj}{H:List (Nat × Obj)}(h:QO b0 E w (p::H)):QO b0 E w H:=by cases h;assumption
theorem QO.up{b0:Nat}{E E':JB}{w w':JE}{H:List (Nat × Obj)}(h:QO b0 E w H)(hs:∀b,E b->E' b)(hh:∀b,E b->w'.heap[b]?=w.heap[b]?):QO b0 E' w' H:=by
 induction h with
 |nil=>exact .nil
 |cons h _ ih=>exact .cons ⟨h.1,hs _ h.2.1,(hh _ h.2.1).trans h.2.2⟩ ih
def FJ(b0:Nat)(vv:JJ)(b o n cap k:Nat)(f:Jg)(A B C:Int)(E:JB)(w:JE)(i:Nat)(v:JJ):Prop:=∃H,Jy0 vv b o n cap k f A B C i v H/\QO b0 E w H
theorem FJ.up{b0:Nat}{vv:JJ}{b o n cap k:Nat}{f:Jg}{A B C:Int}{E E':JB}{w w':JE}{i:Nat}{v:JJ}(h:FJ b0 vv b o n cap k f A B C E w i v)(hs:∀b,E b->E' b)(hh:∀b,E b->w'.heap[b]?=w.heap[b]?):FJ b0 vv b o n cap k f A B C E' w' i v:=by obtain⟨H,h1,h2⟩:=h;exact⟨H,h1,h2.up hs hh⟩
theorem Jz4:Tv .any O0 17 (λi=>i+36)=true:=by kernel_rfl
theorem Jwg{E:JB}{kb:Nat}{x y:Int}(h:E kb):VR C0 (idE E) (.agg #[.slice (some ⟨kb,0,none⟩) 3 3,.int .i64 x,.int .i64 y]) (.agg #[.slice (some ⟨kb,0,none⟩) 3 3,.int .i64 x,.int .i64 y]):=by
 refine .agg rfl λi x x' h1 h2=>?_;rw[h1]at h2;cases h2
 match i with
 |0=>cases h1;exact .slice _ _ _ _ ⟨rfl,h⟩
 |1=>cases h1;exact .int _ _
 |2=>cases h1;exact .int _ _
 |i+3=>simp at h1
section
variable{W E0 E:JB}{w0 w:JE}{T:JC}{n cap k b o:Nat}{v3:JJ}{f:Jg}{A B C:Int}{kk:List Item}{cs:List Frame}{Post:(JB)->JF->JE->Prop}
theorem J047(hk:(k:Int)<n)(hW:W b)(hT:∀c z,w0.heap[b]?≠some (.cells c wgT z))(MG:w0.cell? ⟨b,o+k*5+3,none⟩=some (.int .i64 f.it))(Vf:w0.cell? ⟨b,o+k*5+4,none⟩=some (.int .i64 f.v))
  (kn:∀E T w,HS 6 W E0 w0 E T w->F6 (some ⟨b,o,none⟩) n cap k v3 T->(∀i,i<17->∃v,T[i+36]?=some v/\FJ w0.heap.size v3 b o n cap k f A B C E w i v)->Reach prog Post W (G ((base 6).at ⟨T,[]⟩ (.inRegion O0 [17,18]::kk)) cs) w) :
  ∀(listed:Array Bool)(pre:List Nat),Wk O0 17 listed pre->∀E T w,listed.size=19->HS 6 W E0 w0 E T w->F6 (some ⟨b,o,none⟩) n cap k v3 T->T[5]?=some (.int .i64 A)->T[6]?=some (.int .i64 B)->T[7]?=some (.int .i64 C) ->
   (∀i,i<17->listed[i]?=some true->∃v,T[i+36]?=some v/\FJ w0.heap.size v3 b o n cap k f A B C E w i v)->Reach prog Post W (G ((base 6).at ⟨T,[]⟩ (.inRegion O0 (pre++[17,18])::kk)) cs) w:=by
 intro listed pre bK
 induction bK with
 |done h=>exactλE T w Pv H F s5 s6 s7 hJ=>kn E T w H F λi hi=>hJ i hi (h i hi)
 |@step listed i pre hi hr _ ih=>
  intro E T w Pv H F s5 s6 s7 hJ;obtain⟨hin,hf,o2x,ho,BO⟩:=VB hr;obtain⟨o2,bJ,hg,Ws,IK,_⟩:=(Jdp Jz4).2.1 i hi;obtain rfl:o2=o2x:=by rw[ho]at bJ;exact(Aa bJ).symm
  have sz:=F.sz;have s0:=F.s0;have s3:=F.s3;have s4:=F.s4;have UO:VR C0 (idE E) v3 v3:=H.tm.slot (i:=3) rfl s3;have hd:∀j,(o2.after.toList.any λe=>e.on == j && Region.binds .any e)=true->∃v,T[j+36]?=some v/\FJ w0.heap.size v3 b o n cap k f A B C E w j v:=λj hj=>by obtain⟨e,he,h⟩:=List.any_eq_true.1 hj;rw[Bv,beq_iff_eq]at h;obtain⟨rfl,hb⟩:=h;exact hJ _ (by have:=IK e (Array.mem_toList_iff.1 he);omega) (BO e (Array.mem_toList_iff.1 he) hb)
  have Hg:∀E' v w',HS 6 W E0 w0 E' (T.setIfInBounds (i+36) v) w'->(∀b,E b->E' b)->(∀b,E b->w'.heap[b]?=w.heap[b]?)->FJ w0.heap.size v3 b o n cap k f A B C E' w' i v->Reach prog Post W (G ((base 6).at ⟨T.setIfInBounds (i+36) v,[]⟩ (.inRegion O0 (pre++[17,18])::kk)) cs) w':=λE' v w' H' hs hh hv=>by
   refine ih E' _ w' (by simpa using Pv) H' (F.set (by omega) v) ?_ ?_ ?_ λj hj hl=>?_
   ·rw[AQ (by omega)];exact s5
   ·rw[AQ (by omega)];exact s6
   ·rw[AQ (by omega)];exact s7
   ·by_cases e:j=i
    ·subst e;exact⟨v,by rw[EX (by omega)],hv⟩
    ·rw[AQ (Ne.symm e)]at hl;obtain⟨x,h1,h2⟩:=hJ j hj hl;exact⟨x,by rw[AQ (by omega)];exact h1,h2.up hs hh⟩
  have Jr:∀v,(∀w1,(execOp (Act.eval ⟨T,[]⟩) o2).run prog w1=.ok (.value v) w1)->(∀w1,(execOp (Act.eval ⟨T,[]⟩) o2).events prog w1 #[]=#[])->((C0.hl 6).contains (i+36)=true\/VR C0 (idE E) v v)->FJ w0.heap.size v3 b o n cap k f A B C E w i v ->
    Reach prog Post W (G ((base 6).at ⟨T,[]⟩ (.inRegion O0 (i::(pre++[17,18]))::kk)) cs) w:=λv hr he hv hj=>by
   exact Jc H ho (by simp[Region.wanted,hg]) Ws hr he hv λw' H' hh=>Hg E v w' H' (λb hb=>hb) (λb _=>by rw[hh]) (hj.up (λb hb=>hb) λb _=>by rw[hh])
  show Reach prog Post W (G ((base 6).at ⟨T,[]⟩ (.inRegion O0 (i::(pre++[17,18]))::kk)) cs) w
  revert ho hd Jr Hg
  clear hf hr hin ih BO bJ IK hg Ws
  match i,hi with
  |0,_=>
   intro ho hd Hg Jr;obtain rfl:o2=Jem:=(Aa ho).symm;exact Jr v3 (λw1=>by simp[execOp,go_sem,Jem,s3];try rfl) (λw1=>by simp[execOp,go_sem,Jem,s3];try rfl) (.inr UO) ⟨[],⟨rfl,rfl⟩,.nil⟩
  |1,_=>
   intro ho hd Hg Jr;obtain rfl:o2=yY:=(Aa ho).symm;exact Jr (.int .i64 A) (λw1=>by simp[execOp,go_sem,yY,s5];try rfl) (λw1=>by simp[execOp,go_sem,yY,s5];try rfl) (.inr (.int _ _)) ⟨[],⟨rfl,rfl⟩,.nil⟩
  |2,_=>
   intro ho hd Hg Jr;obtain rfl:o2=Jeo:=(Aa ho).symm;exact Jr (.int .i64 B) (λw1=>by simp[execOp,go_sem,Jeo,s6];try rfl) (λw1=>by simp[execOp,go_sem,Jeo,s6];try rfl) (.inr (.int _ _)) ⟨[],⟨rfl,rfl⟩,.nil⟩
  |3,_=>
   intro ho hd Hg Jr;obtain rfl:o2=Jep:=(Aa ho).symm;exact Jr (.int .i64 C) (λw1=>by simp[execOp,go_sem,Jep,s7];try rfl) (λw1=>by simp[execOp,go_sem,Jep,s7];try rfl) (.inr (.int _ _)) ⟨[],⟨rfl,rfl⟩,.nil⟩
  |4,_=>
   intro ho hd Hg Jr;obtain rfl:=(Aa ho).symm;obtain⟨_,e1,H1,⟨rfl,rfl⟩,l1⟩:=hd 1 rfl;obtain⟨_,e2,H2,⟨rfl,rfl⟩,l2⟩:=hd 2 rfl;obtain⟨_,e3,H3,⟨rfl,rfl⟩,l3⟩:=hd 3 rfl;refine Jjm (o:=Jeq) (v:=.slice (some ⟨w.heap.size,0,none⟩) 3 3) (arr:=#[.int .i64 A,.int .i64 B,.int .i64 C]) (ty:=3) H rfl rfl rfl (λw1 hz=>by simp[execOp,go_sem,Jeq,e1,e2,e3,hz];try rfl) (λw1=>by simp[execOp,go_sem,Jeq,e1,e2,e3];try rfl) (λx hx=>?_) (.inr (.slice _ _ _ _ ⟨rfl,.inr rfl⟩)) λw' H' hk hb hz=>?_
   ·simp only[AO,C9,or_false]at hx;rcases hx with rfl|rfl|rfl<;>exact .int _ _
   ·exact Hg _ _ _ H' (λb hb=>.inl hb) (λb hb=>hk b (.inl hb)) ⟨_,⟨_,rfl,rfl⟩,.cons ⟨H.sz,.inr rfl,hb⟩ .nil⟩
  |5,_=>
   intro ho hd Hg Jr;obtain rfl:o2=Jer:=(Aa ho).symm;exact Jr (.slice (some ⟨b,o,none⟩) n cap) (λw1=>by simp[execOp,go_sem,Jer,s0];try rfl) (λw1=>by simp[execOp,go_sem,Jer,s0];try rfl) (.inl rfl) ⟨[],⟨rfl,rfl⟩,.nil⟩
  |10,_=>
   intro ho hd Hg Jr;obtain rfl:o2=Jbc:=(Aa ho).symm;exact Jr (.slice (some ⟨b,o,none⟩) n cap) (λw1=>by simp[execOp,go_sem,Jbc,s0];try rfl) (λw1=>by simp[execOp,go_sem,Jbc,s0];try rfl) (.inl rfl) ⟨[],⟨rfl,rfl⟩,.nil⟩
  |6,_=>
   intro ho hd Hg Jr;obtain rfl:o2=zN:=(Aa ho).symm;exact Jr (.int .i64 k) (λw1=>by simp[execOp,go_sem,zN,s4];try rfl) (λw1=>by simp[execOp,go_sem,zN,s4];try rfl) (.inr (.int _ _)) ⟨[],⟨rfl,rfl⟩,.nil⟩
  |11,_=>
   intro ho hd Hg Jr;obtain rfl:o2=Jbd:=(Aa ho).symm;exact Jr (.int .i64 k) (λw1=>by simp[execOp,go_sem,Jbd,s4];try rfl) (λw1=>by simp[execOp,go_sem,Jbd,s4];try rfl) (.inr (.int _ _)) ⟨[],⟨rfl,rfl⟩,.nil⟩
  |7,_=>
   intro ho hd Hg Jr;obtain rfl:o2=Jet:=(Aa ho).symm;obtain⟨_,e5,H5,⟨rfl,rfl⟩,l5⟩:=hd 5 rfl;obtain⟨_,e6,H6,⟨rfl,rfl⟩,l6⟩:=hd 6 rfl;exact Jr (pt b (o+k*5)) (λw1=>by simp[execOp,go_sem,Jet,e5,e6,hk];try rfl) (λw1=>by simp[execOp,go_sem,Jet,e5,e6,hk];try rfl) (.inl rfl) ⟨[],⟨rfl,rfl⟩,.nil⟩
  |8,_=>
   intro ho hd Hg Jr;obtain rfl:o2=Jeu:=(Aa ho).symm;obtain⟨_,e7,H7,⟨rfl,rfl⟩,l7⟩:=hd 7 rfl;exact Jr (pt b (o+k*5+3)) (λw1=>by simp[execOp,go_sem,Jeu,e7];try rfl) (λw1=>by simp[execOp,go_sem,Jeu,e7];try rfl) (.inl rfl) ⟨[],⟨rfl,rfl⟩,.nil⟩
  |12,_=>
   intro ho hd Hg Jr;obtain rfl:o2=Jbe:=(Aa ho).symm;obtain⟨_,e5,H5,⟨rfl,rfl⟩,l5⟩:=hd 10 rfl;obtain⟨_,e6,H6,⟨rfl,rfl⟩,l6⟩:=hd 11 rfl;exact Jr (pt b (o+k*5)) (λw1=>by simp[execOp,go_sem,Jbe,e5,e6,hk];try rfl) (λw1=>by simp[execOp,go_sem,Jbe,e5,e6,hk];try rfl) (.inl rfl) ⟨[],⟨rfl,rfl⟩,.nil⟩
  |13,_=>
   intro ho hd Hg Jr;obtain rfl:o2=Jbf:=(Aa ho).symm;obtain⟨_,e7,H7,⟨rfl,rfl⟩,l7⟩:=hd 12 rfl;exact Jr (pt b (o+k*5+4)) (λw1=>by simp[execOp,go_sem,Jbf,e7];try rfl) (λw1=>by simp[execOp,go_sem,Jbf,e7];try rfl) (.inl rfl) ⟨[],⟨rfl,rfl⟩,.nil⟩
  |9,_=>
   intro ho hd Hg Jr;obtain rfl:o2=uQ:=(Aa ho).symm;obtain⟨_,e8,H8,⟨rfl,rfl⟩,l8⟩:=hd 8 rfl;refine uP (o:=uQ) (v:=.int .i64 f.it) (a:=⟨b,o+k*5+3,none⟩) H hW (λc z=>by rw[H.kw b hW];exact hT c z) ((DX (H.kw b hW)).trans MG) rfl rfl rfl (λw1 DU=>by simp[execOp,go_sem,uQ,e8,DU];try rfl) (λw1 DU=>by simp[execOp,go_sem,uQ,e8,DU];try rfl) (.inr (.int _ _)) λw' H' hk hz=>?_;exact Hg _ _ _ H' (λb hb=>hb) (λb hb=>hk b (.inl hb)) ⟨[],⟨rfl,rfl⟩,.nil⟩
  |14,_=>
   intro ho hd Hg Jr;obtain rfl:o2=uF:=(Aa ho).symm;obtain⟨_,e8,H8,⟨rfl,rfl⟩,l8⟩:=hd 13 rfl;refine uP (o:=uF) (v:=.int .i64 f.v) (a:=⟨b,o+k*5+4,none⟩) H hW (λc z=>by rw[H.kw b hW];exact hT c z) ((DX (H.kw b hW)).trans Vf) rfl rfl rfl (λw1 DU=>by simp[execOp,go_sem,uF,e8,DU];try rfl) (λw1 DU=>by simp[execOp,go_sem,uF,e8,DU];try rfl) (.inr (.int _ _)) λw' H' hk hz=>?_;exact Hg _ _ _ H' (λb hb=>hb) (λb hb=>hk b (.inl hb)) ⟨[],⟨rfl,rfl⟩,.nil⟩
  |15,_=>
   intro ho hd Hg Jr;obtain rfl:o2=Jbg:=(Aa ho).symm;obtain⟨_,e4,H4,⟨kb,rfl,rfl⟩,l4⟩:=hd 4 rfl;obtain⟨_,e9,H9,⟨rfl,rfl⟩,l9⟩:=hd 9 rfl;obtain⟨_,OO,H14,⟨rfl,rfl⟩,l14⟩:=hd 14 rfl;exact Jr (.agg #[.slice (some ⟨kb,0,none⟩) 3 3,.int .i64 f.it,.int .i64 f.v]) (λw1=>by simp[execOp,go_sem,Jbg,e4,e9,OO];try rfl) (λw1=>by simp[execOp,go_sem,Jbg,e4,e9,OO];try rfl) (.inr (Jwg l4.hd.2.1)) ⟨_,⟨_,rfl,rfl⟩,l4⟩
  |16,_=>
   intro ho hd Hg Jr;obtain rfl:o2=rD:=(Aa ho).symm;obtain⟨_,Kw,H15,⟨kb,rfl,rfl⟩,lU⟩:=hd 15 rfl;refine Jjm (o:=rD) (v:=.slice (some ⟨w.heap.size,0,none⟩) 1 1) (arr:=#[.slice (some ⟨kb,0,none⟩) 3 3,.int .i64 f.it,.int .i64 f.v]) (ty:=47) H rfl rfl rfl (λw1 hz=>by simp[execOp,go_sem,rD,Kw,hz];try rfl) (λw1=>by simp[execOp,go_sem,rD,Kw];try rfl) (λx hx=>?_) (.inr (.slice _ _ _ _ ⟨rfl,.inr rfl⟩)) λw' H' hk hb hz=>?_
   ·simp only[AO,C9,or_false]at hx;rcases hx with rfl|rfl|rfl
    ·exact .slice _ _ _ _ ⟨rfl,lU.hd.2.1⟩
    ·exact .int _ _
    ·exact .int _ _
   ·exact Hg _ _ _ H' (λb hb=>.inl hb) (λb hb=>hk b (.inl hb)) ⟨_,⟨_,_,rfl,rfl⟩,.cons ⟨H.sz,.inr rfl,hb⟩ (lU.up (λb hb=>.inl hb) λb hb=>hk b (.inl hb))⟩
  |i+17,h=>exact absurd h (by omega)
end
section
variable{W E0 E:JB}{w0 w:JE}{T:JC}{la:JI}{n cap k:Nat}{v3:JJ}{kk:List Item}{cs:List Frame}{Post:(JB)->JF->JE->Prop}
theorem Jz5(H:HS 6 W E0 w0 E T w)(F:F6 la n cap k v3 T)(OG:(k:Int)<n)(Ci:(k:Int)<200)
  (kn:∀T' w',HS 6 W E0 w0 E T' w'->F6 la n cap k v3 T'->T'[15]?=some (.bool true)->w'.heap=w.heap->Reach prog Post W (G ((base 6).at ⟨T',[]⟩ kk) cs) w') :
  Reach prog Post W (G ((base 6).at ⟨T,[]⟩ (.code (.region 3 PY false)::kk)) cs) w:=by
 have sz:=F.sz;have s0:=F.s0;have s4:=F.s4;refine J6 (λw1=>stepG_region) rfl λd1=>?_;rw[show List.range PY.size=[0,1,2,3,4,5,6,7]from rfl];have H:=H.at d1;refine Jc (o:=U6) (v:=.int .i64 k) H rfl rfl rfl (λw1=>by simp[execOp,go_sem,U6,s4];try rfl) (λw1=>by simp[execOp,go_sem,U6,s4];try rfl) (.inr (.int _ _)) λw0 H h0=>?_;refine Jc (o:=U2) (v:=.slice la n cap) H rfl rfl rfl (λw1=>by simp[execOp,go_sem,U2,s0];try rfl) (λw1=>by simp[execOp,go_sem,U2,s0];try rfl) (.inl rfl) λw1 H h1=>?_;refine Jc (o:=Un) (v:=.int .i64 n) H rfl rfl rfl (λw1=>by simp[execOp,go_sem,Un,sz];try rfl) (λw1=>by simp[execOp,go_sem,Un,sz];try rfl) (.inr (.int _ _)) λw2 H h2=>?_;refine Jc (o:=Uw) (v:=.bool true) H rfl rfl rfl (λw1=>by simp[execOp,go_sem,Uw,sz,OG];try rfl) (λw1=>by simp[execOp,go_sem,Uw,sz,OG];try rfl) (.inr (.bool _)) λw3 H h3=>?_;refine Jc (o:=NT) (v:=.bool true) H rfl rfl rfl (λw1=>by simp[execOp,go_sem,NT,sz];try rfl) (λw1=>by simp[execOp,go_sem,NT,sz];try rfl) (.inr (.bool _)) λw4 H h4=>?_;refine Jc (o:=SK) (v:=.int .i64 k) H rfl (by simp[Region.wanted,yielded,SK,PY,NT,sz]) rfl (λw1=>by simp[execOp,go_sem,SK,s4];try rfl) (λw1=>by simp[execOp,go_sem,SK,s4];try rfl) (.inr (.int _ _)) λw5 H h5=>?_;refine Jc (o:=SQ) (v:=.bool true) H rfl (by simp[Region.wanted,yielded,SQ,PY,NT,sz]) rfl (λw1=>by simp[execOp,go_sem,SQ,sz,Ci];try rfl) (λw1=>by simp[execOp,go_sem,SQ,sz,Ci];try rfl) (.inr (.bool _)) λw6 H h6=>?_;refine Jc (o:=U3) (v:=.bool true) H rfl rfl rfl (λw1=>by simp[execOp,go_sem,U3,sz];try rfl) (λw1=>by simp[execOp,go_sem,U3,sz];try rfl) (.inr (.bool _)) λw7 H h7=>?_;refine J6 (λw1=>stepG_region_end) rfl λd2=>?_;exact kn _ _ (H.at d2) ((((((((F.set (by omega) _).set (by omega) _).set (by omega) _).set (by omega) _).set (by omega) _).set (by omega) _).set (by omega) _).set (by omega) _) (by simp[sz]) (h7.trans (h6.trans (h5.trans (h4.trans (h3.trans (h2.trans (h1.trans (h0.trans rfl))))))))
theorem Jz6(H:HS 6 W E0 w0 E T w)(F:F6 la n cap k v3 T)(OG:(k:Int)<n)(Ci:¬(k:Int)<200)
  (kn:∀T' w',HS 6 W E0 w0 E T' w'->F6 la n cap k v3 T'->T'[15]?=some (.bool false)->w'.heap=w.heap->Reach prog Post W (G ((base 6).at ⟨T',[]⟩ kk) cs) w') :
  Reach prog Post W (G ((base 6).at ⟨T,[]⟩ (.code (.region 3 PY false)::kk)) cs) w:=by
 have sz:=F.sz;have s0:=F.s0;have s4:=F.s4;refine J6 (λw1=>stepG_region) rfl λd1=>?_;rw[show List.range PY.size=[0,1,2,3,4,5,6,7]from rfl];have H:=H.at d1;refine Jc (o:=U6) (v:=.int .i64 k) H rfl rfl rfl (λw1=>by simp[execOp,go_sem,U6,s4];try rfl) (λw1=>by simp[execOp,go_sem,U6,s4];try rfl) (.inr (.int _ _)) λw0 H h0=>?_;refine Jc (o:=U2) (v:=.slice la n cap) H rfl rfl rfl (λw1=>by simp[execOp,go_sem,U2,s0];try rfl) (λw1=>by simp[execOp,go_sem,U2,s0];try rfl) (.inl rfl) λw1 H h1=>?_;refine Jc (o:=Un) (v:=.int .i64 n) H rfl rfl rfl (λw1=>by simp[execOp,go_sem,Un,sz];try rfl) (λw1=>by simp[execOp,go_sem,Un,sz];try rfl) (.inr (.int _ _)) λw2 H h2=>?_;refine Jc (o:=Uw) (v:=.bool true) H rfl rfl rfl (λw1=>by simp[execOp,go_sem,Uw,sz,OG];try rfl) (λw1=>by simp[execOp,go_sem,Uw,sz,OG];try rfl) (.inr (.bool _)) λw3 H h3=>?_;refine Jc (o:=NT) (v:=.bool true) H rfl rfl rfl (λw1=>by simp[execOp,go_sem,NT,sz];try rfl) (λw1=>by simp[execOp,go_sem,NT,sz];try rfl) (.inr (.bool _)) λw4 H h4=>?_;refine Jc (o:=SK) (v:=.int .i64 k) H rfl (by simp[Region.wanted,yielded,SK,PY,NT,sz]) rfl (λw1=>by simp[execOp,go_sem,SK,s4];try rfl) (λw1=>by simp[execOp,go_sem,SK,s4];try rfl) (.inr (.int _ _)) λw5 H h5=>?_;refine Jc (o:=SQ) (v:=.bool false) H rfl (by simp[Region.wanted,yielded,SQ,PY,NT,sz]) rfl (λw1=>by simp[execOp,go_sem,SQ,sz,Ci];try rfl) (λw1=>by simp[execOp,go_sem,SQ,sz,Ci];try rfl) (.inr (.bool _)) λw6 H h6=>?_;refine Jc (o:=U3) (v:=.bool false) H rfl rfl rfl (λw1=>by simp[execOp,go_sem,U3,sz];try rfl) (λw1=>by simp[execOp,go_sem,U3,sz];try rfl) (.inr (.bool _)) λw7 H h7=>?_;refine J6 (λw1=>stepG_region_end) rfl λd2=>?_;exact kn _ _ (H.at d2) ((((((((F.set (by omega) _).set (by omega) _).set (by omega) _).set (by omega) _).set (by omega) _).set (by omega) _).set (by omega) _).set (by omega) _) (by simp[sz]) (h7.trans (h6.trans (h5.trans (h4.trans (h3.trans (h2.trans (h1.trans (h0.trans rfl))))))))
theorem Jz7(H:HS 6 W E0 w0 E T w)(F:F6 la n cap k v3 T)(OG:¬(k:Int)<n)
  (kn:∀T' w',HS 6 W E0 w0 E T' w'->F6 la n cap k v3 T'->T'[15]?=some (.bool false)->w'.heap=w.heap->Reach prog Post W (G ((base 6).at ⟨T',[]⟩ kk) cs) w') :
  Reach prog Post W (G ((base 6).at ⟨T,[]⟩ (.code (.region 3 PY false)::kk)) cs) w:=by
 have sz:=F.sz;have s0:=F.s0;have s4:=F.s4;refine J6 (λw1=>stepG_region) rfl λd1=>?_;rw[show List.range PY.size=[0,1,2,3,4,5,6,7]from rfl];have H:=H.at d1;refine Jc (o:=U6) (v:=.int .i64 k) H rfl rfl rfl (λw1=>by simp[execOp,go_sem,U6,s4];try rfl) (λw1=>by simp[execOp,go_sem,U6,s4];try rfl) (.inr (.int _ _)) λw0 H h0=>?_;refine Jc (o:=U2) (v:=.slice la n cap) H rfl rfl rfl (λw1=>by simp[execOp,go_sem,U2,s0];try rfl) (λw1=>by simp[execOp,go_sem,U2,s0];try rfl) (.inl rfl) λw1 H h1=>?_;refine Jc (o:=Un) (v:=.int .i64 n) H rfl rfl rfl (λw1=>by simp[execOp,go_sem,Un,sz];try rfl) (λw1=>by simp[execOp,go_sem,Un,sz];try rfl) (.inr (.int _ _)) λw2 H h2=>?_;refine Jc (o:=Uw) (v:=.bool false) H rfl rfl rfl (λw1=>by simp[execOp,go_sem,Uw,sz,OG];try rfl) (λw1=>by simp[execOp,go_sem,Uw,sz,OG];try rfl) (.inr (.bool _)) λw3 H h3=>?_;refine Jc (o:=NT) (v:=.bool false) H rfl rfl rfl (λw1=>by simp[execOp,go_sem,NT,sz];try rfl) (λw1=>by simp[execOp,go_sem,NT,sz];try rfl) (.inr (.bool _)) λw4 H h4=>?_;refine Jlh (o:=SK) H rfl (by simp[Region.wanted,yielded,SK,PY,NT,sz]) rfl λw5 H h5=>?_;refine Jlh (o:=SQ) H rfl (by simp[Region.wanted,yielded,SQ,PY,NT,sz]) rfl λw6 H h6=>?_;refine Jc (o:=U3) (v:=.bool false) H rfl rfl rfl (λw1=>by simp[execOp,go_sem,U3,sz];try rfl) (λw1=>by simp[execOp,go_sem,U3,sz];try rfl) (.inr (.bool _)) λw7 H h7=>?_;refine J6 (λw1=>stepG_region_end) rfl λd2=>?_;exact kn _ _ (H.at d2) ((((((((F.set (by omega) _).set (by omega) _).set (by omega) _).set (by omega) _).set (by omega) _).set (by omega) _).set (by omega) _).set (by omega) _) (by simp[sz]) (h7.trans (h6.trans (h5.trans (h4.trans (h3.trans (h2.trans (h1.trans (h0.trans rfl))))))))
theorem inc6(H:HS 6 W E0 w0 E T w)(F:F6 la n cap k v3 T)(hk:k<1000)
  (kn:∀T' w',HS 6 W E0 w0 E T' w'->F6 la n cap (k+1) v3 T'->w'.heap=w.heap->Reach prog Post W (G ((base 6).at ⟨T',[]⟩ kk) cs) w') :
  Reach prog Post W (G ((base 6).at ⟨T,[]⟩ (.code (.region 4 uJ false)::kk)) cs) w:=by
 have sz:=F.sz;have s4:=F.s4;have hw:IntKind.i64.wrap ((k:Int)+1)=((k+1:Nat):Int):=by simp[IntKind.wrap,IntKind.signed,IntKind.bits];omega
 refine J6 (λw1=>stepG_region) rfl λd1=>?_;rw[show List.range uJ.size=[0,1,2]from rfl];have H:=H.at d1;refine Jc (o:=Jdy) (v:=.int .i64 k) H rfl rfl rfl (λw1=>by simp[execOp,go_sem,Jdy,s4];try rfl) (λw1=>by simp[execOp,go_sem,Jdy,s4];try rfl) (.inr (.int _ _)) λw2 H h0=>?_;refine Jc (o:=Jdz) (v:=.int .i64 (k+1:Nat)) H rfl rfl rfl (λw1=>by simp[execOp,go_sem,Jdz,sz,hw];try rfl) (λw1=>by simp[execOp,go_sem,Jdz,sz];try rfl) (.inr (.int _ _)) λw3 H h1=>?_;refine Jc (o:=zV) (v:=.int .i64 (k+1:Nat)) H rfl rfl rfl (λw1=>by simp[execOp,go_sem,zV,sz];try rfl) (λw1=>by simp[execOp,go_sem,zV,sz];try rfl) (.inr (.int _ _)) λw4 H h2=>?_;refine J6 (λw1=>stepG_region_end) rfl λd2=>?_;obtain⟨f1,f2,f3,f4,f5⟩:=F;refine kn _ _ (H.at d2) ⟨by simpa using f1,?_,?_,?_,by simp[sz]⟩ (h2.trans (h1.trans h0))<;>(repeat rw[AQ (by omega)])<;>assumption
theorem G6.keE{base:Nat}{v:JJ}{L:List (Jg × Nat)}{w':JE}(h:G6 w base v L)(k:KE E w w')(hv:VR C0 (idE E) v v)(hE:∀p∈L,E p.2):G6 w' base v L:=by
 refine⟨⟨h.own.1,?_⟩,λp hp=>⟨(h.rows p hp).1,(by obtain⟨cur,h1,h2⟩:=(h.rows p hp).2.1;exact⟨cur,k.blk (hE p hp) h1,h2⟩),(h.rows p hp).2.2⟩⟩;rcases h.own.2 with hn|⟨g,cap,cur,rfl,hb,hg,rest⟩
 ·exact .inl hn
 ·exact .inr ⟨g,cap,cur,rfl,hb,k _ _ hv.Ik hg trivial,rest⟩
theorem HS.to0{fn:JG}{E':JB}{w':JE}(h:HS fn W E0 w0 E T w)(hB:BOk C0 S0 W E' w')(hs:∀b,E b->E' b)(he:KE E0 w w')(hw:∀b,W b->w'.heap[b]?=w.heap[b]?)(hz:w.heap.size<=w'.heap.size){T':JC}(ht:TmR C0 S0 fn (idE E') T' T'):HS fn W E0 w0 E' T' w':=
 ⟨hB,λb hb=>hs b (h.le b hb),h.ke.trans he,λb hb=>(hw b hb).trans (h.kw b hb),ht,h.own,BL h.sz hz⟩
theorem Jqk{b o base:Nat}{f:Jg}{A B C:Int}{L:List (Jg × Nat)}(H:HS 6 W E0 w0 E T w)(F:F6 (some ⟨b,o,none⟩) n cap k v3 T)(s5:T[5]?=some (.int .i64 A))(s6:T[6]?=some (.int .i64 B))(s7:T[7]?=some (.int .i64 C))(hk:(k:Int)<n)(hW:W b)(hT:∀c z,w.heap[b]?≠some (.cells c wgT z))(MG:w.cell? ⟨b,o+k*5+3,none⟩=some (.int .i64 f.it))(Vf:w.cell? ⟨b,o+k*5+4,none⟩=some (.int .i64 f.v))
  (hL:G6 w base v3 L) (WX:∀p∈L,E p.2) (Dx:base<=w0.heap.size) (kT:∀b,E0 b->b<base) (hn:L.length<=1000) (hf:f.k=[A,B,C])
  (kn:∀E' T' w' v' kb,HS 6 W E0 w0 E' T' w'->F6 (some ⟨b,o,none⟩) n cap k v' T'->G6 w' base v' (L++[(f,kb)])->(∀p∈L++[(f,kb)],E' p.2)->Reach prog Post W (G ((Go.Conc.base 6).at ⟨T',[]⟩ kk) cs) w') :
  Reach prog Post W (G ((Go.Conc.base 6).at ⟨T,[]⟩ (.code (.region 8 O0 true)::kk)) cs) w:=by
 refine Reach.mid (Mid:=λg' w'=>∃n0,g'=G ((Go.Conc.base 6).at ⟨T,[]⟩ (.inRegion O0 (Region.schedule (C0.P.follows .mixedOrders) O0 n0)::kk)) cs/\BOk C0 S0 W E w'/\w'.heap.size=w.heap.size/\∀b,E b->w'.heap[b]?=w.heap[b]?) (Reach.draw (C:=C0) rfl H.bok λn0 w' h1 h2 h3=>Reach.here ⟨rfl,n0,rfl,h1,h2,h3⟩) λg' w1 ⟨n0,e,h1,h2,h3⟩ hK=>?_;subst e;rw[show C0.P.follows .mixedOrders=true from mixed];obtain⟨pre,RG,_,_,bK⟩:=Jjf prog Jz4 n0;rw[RG,show List.range' 17 (O0.size-17)=[17,18]from rfl];have Hs:HS 6 W E w E T w1:=H.start.to h1 (λ_ h=>h) (.of_eq h3) hK (by omega);refine J047 (f:=f) (A:=A) (B:=B) (C:=C) hk hW hT MG Vf (λE2 T2 w2 H2 F2 hJ=>?_) (Array.replicate O0.size false) pre bK E T w1 rfl Hs F s5 s6 s7 λi hi hl=>by rw[Array.getElem?_replicate]at hl;split at hl<;>cases hl
 have EJ:G6 w2 base v3 L:=hL.keE H2.ke (H.tm.slot (i:=3) rfl F.s3) WX;obtain⟨v0,f0,H0,⟨_,e0⟩,l0⟩:=hJ 0 (by omega);rw[e0]at f0;obtain⟨_,f16,H16,⟨sb,kb,rfl,rfl⟩,iY⟩:=hJ 16 (by omega);have b1:=iY.hd;have b2:=iY.tl.hd;simp only at b1 b2;have oO:=F2.sz;have D7:=H2.sz;have hz:=H.sz;have Aj:Row false w2 kb 3 .i64 f.k 3:=by
  rw[hf];refine⟨_,⟨(0,0),b2.2.2,λ_=>rfl⟩,rfl,by show 3<=3;omega,λi hi=>?_,?_⟩
  ·match i,hi with
   |0,_=>rfl
   |1,_=>rfl
   |2,_=>rfl
   |i+3,hi=>exact absurd (show i+3<3 from hi) (by omega)
  ·exactλv hv=>by
    simp only[AO,C9,or_false]at hv;rcases hv with rfl|rfl|rfl<;>exact⟨_,_,rfl⟩
 have Hc:=H.comp H2;refine Jdu (pre:=[17]) (rest:=[18]) (Q:=λT3 w3=>∃v',T3=T2.setIfInBounds 53 v'/\G6 w3 base v' (L++[(f,kb)])/\w2.heap.size<=w3.heap.size/\∀b,b<base->w3.heap[b]?=w2.heap[b]?) Hc (by kernel_rfl) (by simp) Jnl rfl Jex (λτ=>?_) λE3 T3 Gx w3 CU Ij Dt DR ⟨v',q1,q2,q3,q4⟩ Uj=>?_
 ·rw[wpOps_cons];obtain⟨v',w',r1,r2,r3,r4⟩:=(EJ.kept (w':=w2.tp τ 0) λ_ _=>rfl).push (f:=f) (kb:=kb) (sb:=sb) (by show base<=w2.heap.size;omega) hn (by rw[hf];rfl) (by omega) (Aj.kept rfl) b1.2.2 23;refine Jmz rfl rfl rfl f0 f16 r1 ?_;refine⟨rfl,rfl,λi hi Oa=>?_,v',rfl,r2,r3.size,λb hb=>r3.block b (by show b<w2.heap.size;omega) λe=>?_⟩
  ·have:=hl6 hi;exact AQ (by omega)
  ·have:=r4 b e.symm;omega
 subst q1;have vE3:VR C0 (idE E3) v' v':=DR.slot (i:=53) rfl (by rw[EX (by omega)]);have l3:=Jy rfl Dt;have Hd:=Hc.to0 Ij CU ((KE.of_eq (λb hb=>q4 b (kT b hb))).trans (l3.mono λb hb=>CU b (Hc.le b hb))) Uj (by rw[Dt.lsz rfl];exact q3) DR;have Lu:∀p∈L++[(f,kb)],E3 p.2:=λp hp=>by
  rcases FY.1 hp with hp|hp
  ·exact CU _ (H2.le _ (WX p hp))
  ·simp only[AO,C9,or_false]at hp;subst hp;exact CU _ b2.2.1
 have hLd:=q2.keE l3 vE3 Lu;refine Jc (o:=Jbh) (v:=v') Hd rfl rfl rfl (λw1=>by simp[execOp,go_sem,Jbh,oO];try rfl) (λw1=>by simp[execOp,go_sem,Jbh,oO];try rfl) (.inr vE3) λw4 H4 h4=>?_;refine J6 (λw1=>stepG_region_end) rfl λd2=>?_;refine kn _ _ _ v' kb (H4.at d2) ?_ (hLd.kept (w':=w4.at d2) λb _=>by show w4.heap[b]?=_;rw[h4]) Lu;obtain⟨f1,f2,f3,f4,f5⟩:=F2;refine⟨by simpa using f1,?_,?_,by simp[oO],?_⟩<;>(repeat rw[AQ (by omega)])<;>assumption
end
section
variable{W E0 E:JB}{w0 w:JE}{T:JC}{la:JI}{rs:List Gt}{fs:List Jg}{n cap k:Nat}{v3:JJ}{kk:List Item}{cs:List Frame}{Post:(JB)->JF->JE->Prop}
theorem Jz8{E:JB}{w:JE}{T:JC}(hR:gQ w0 la rs)(hn:rs.length=n)(hW:∀a,la=some a->W a.block)(hT:∀a,la=some a->∀c z,w0.heap[a.block]?≠some (.cells c wgT z))(kT:∀b,E0 b->b<w0.heap.size){L:List (Jg × Nat)}(hk:k<n)(Ci:k<200)(H:HS 6 W E0 w0 E T w)(F:F6 la n cap k v3 T)(hL:G6 w w0.heap.size v3 L)(O6:L.map (·.1)=(rs.take k).map Gt.fact)(WX:∀p∈L,E p.2)
  (kn:∀E' T' w' v' L',HS 6 W E0 w0 E' T' w'->F6 la n cap (k+1) v' T'->G6 w' w0.heap.size v' L'->L'.map (·.1)=(rs.take (k+1)).map Gt.fact->(∀p∈L',E' p.2)->Reach prog Post W (G ((Go.Conc.base 6).at ⟨T',[]⟩ kk) cs) w') :
  Reach prog Post W (G ((Go.Conc.base 6).at ⟨T,[]⟩ (.code (.seq (.block 1 (.seq (.region 5 uH false) (.seq (.region 6 tC false) (.seq (.region 7 sZ false) (.region 8 O0 true))))) (.region 4 uJ false))::kk)) cs) w:=by
 obtain⟨r,hr⟩:∃r,rs[k]?=some r:=⟨rs[k]'(by omega),Dh _⟩;have Fv:=hR.ok r (NK hr);obtain⟨b,o,QF,hb,q0,q1,q2,q3,q4⟩:=hR.at_ k r hr;have Yg:=hW _ QF;have hTb:=hT _ QF;simp only at Yg hTb;have up:∀{w:JE},(∀b,W b->w.heap[b]?=w0.heap[b]?)->∀{i v},w0.cell? ⟨b,i,none⟩=some v->w.cell? ⟨b,i,none⟩=some v:=λh _ _ hc=>(DX (h b Yg)).trans hc;have yJ:∀{w:JE},(∀b,W b->w.heap[b]?=w0.heap[b]?)->∀c z,w.heap[b]?≠some (.cells c wgT z):=λh c z=>by rw[h b Yg];exact hTb c z
 refine J6 (λw1=>stepG_seq) rfl λd1=>?_;refine J6 (λw1=>stepG_block) rfl λd2=>?_;refine J6 (λw1=>stepG_seq) rfl λd3=>?_;have H1:=((H.at d1).at d2).at d3;have MV:G6 (((w.at d1).at d2).at d3) w0.heap.size v3 L:=hL.kept λ_ _=>rfl;refine fld5 H1.start F QF hk Yg (yJ H1.kw) (up H1.kw q0) Fv.a λE2 T2 w2 H2 F2 s5 z5 _=>?_;have Yo:=H1.comp H2;have EJ:=MV.keE H2.ke (H1.tm.slot (i:=3) rfl F.s3) WX;have Gy:∀p∈L,E2 p.2:=λp hp=>H2.le _ (WX p hp);refine J6 (λw1=>stepG_seq) rfl λd4=>?_;have Yo:=Yo.at d4;have EJ:G6 (w2.at d4) w0.heap.size v3 L:=EJ.kept λ_ _=>rfl;refine fld6 Yo.start F2 QF hk Yg (yJ Yo.kw) (up Yo.kw q1) Fv.b λE3 T3 w3 H3 F3 s6 z6 _=>?_;have Yp:=Yo.comp H3;have MQ:=EJ.keE H3.ke (Yo.tm.slot (i:=3) rfl F2.s3) Gy;have Lu:∀p∈L,E3 p.2:=λp hp=>H3.le _ (Gy p hp);refine J6 (λw1=>stepG_seq) rfl λd5=>?_;have Yp:=Yp.at d5;have MQ:G6 (w3.at d5) w0.heap.size v3 L:=MQ.kept λ_ _=>rfl;refine fld7 Yp.start F3 QF hk Yg (yJ Yp.kw) (up Yp.kw q2) Fv.c λE4 T4 w4 H4 F4 s7 z7 _=>?_;have vM:=Yp.comp H4;have Uh:=MQ.keE H4.ke (Yp.tm.slot (i:=3) rfl F3.s3) Lu;have Yu:∀p∈L,E4 p.2:=λp hp=>H4.le _ (Lu p hp);have t5:T4[5]?=some (.int .i64 (Ju r.a 4)):=(z7 5 (by omega) (by omega) (by omega)).trans ((z6 5 (by omega) (by omega) (by omega)).trans s5);have t6:T4[6]?=some (.int .i64 (Ju r.b 4)):=(z7 6 (by omega) (by omega) (by omega)).trans s6;have hlen:L.length=k:=by have:=congrArg List.length O6;simp at this;omega
 subst QF;refine Jqk (f:=r.fact) vM F4 t5 t6 s7 (by omega) Yg (yJ vM.kw) (up vM.kw q3) (up vM.kw q4) Uh Yu (Ad _) kT (by omega) rfl λE5 T5 w5 v' kb H5 F5 Q8 wO=>?_;refine J6 (λw1=>stepG_inBlock) rfl λd6=>?_;refine inc6 (H5.at d6) F5 (by omega) λT6 w6 H6 F6 h6=>?_;refine kn _ _ _ _ _ H6 F6 (Q8.kept λb _=>by rw[h6];rfl) ?_ wO;rw[List.map_append,O6,List.take_add_one,hr];simp
theorem Jkj(hR:gQ w0 la rs)(hn:rs.length=n)(hW:∀a,la=some a->W a.block)(hT:∀a,la=some a->∀c z,w0.heap[a.block]?≠some (.cells c wgT z))(kT:∀b,E0 b->b<w0.heap.size)
  (kn:∀E T w v3 L k,HS 6 W E0 w0 E T w->F6 la n cap k v3 T->G6 w w0.heap.size v3 L->L.map (·.1)=(rs.take 200).map Gt.fact->Reach prog Post W (G ((Go.Conc.base 6).at ⟨T,[]⟩ kk) cs) w) :
  ∀(d k:Nat)(E:JB)(T:JC)(w:JE)(v3:JJ)(L:List (Jg × Nat)),min n 200-k=d->k<=min n 200->HS 6 W E0 w0 E T w->F6 la n cap k v3 T->G6 w w0.heap.size v3 L->L.map (·.1)=(rs.take k).map Gt.fact->(∀p∈L,E p.2) ->
   Reach prog Post W (G ((Go.Conc.base 6).at ⟨T,[]⟩ (.code Jhi::.inLoop Jhi::.inBlock 0::kk)) cs) w:=by
 intro d
 induction d with
 |zero=>
  intro k E T w v3 L hd hk H F hL O6 WX;have fin:∀T' w',HS 6 W E0 w0 E T' w'->F6 la n cap k v3 T'->T'[15]?=some (.bool false)->w'.heap=w.heap->Reach prog Post W (G ((Go.Conc.base 6).at ⟨T',[]⟩ (.code (.cond (.tmp 15) .skip (.exit 0))::.code (.seq (.block 1 (.seq (.region 5 uH false) (.seq (.region 6 tC false) (.seq (.region 7 sZ false) (.region 8 O0 true))))) (.region 4 uJ false))::.inLoop Jhi::.inBlock 0::kk)) cs) w':=λT' w' H' F' Oe hh=>by
   refine J6 (λw1=>stepG_cond (t:=false) (by simp[Act.eval,BH,Oe])) rfl λd1=>?_;refine J6 (λw1=>stepG_exit (k':=kk) rfl) rfl λd2=>?_;refine kn _ _ _ v3 L k ((H'.at d1).at d2) F' (hL.kept λb _=>by show w'.heap[b]?=_;rw[hh]) ?_;rw[O6];have:rs.take k=rs.take 200:=by
    rcases BG n 200 with h|h
    ·rw[List.take_of_length_le (by omega),List.take_of_length_le (by omega)]
    ·rw[show k=200 by omega]
   rw[this]
  refine J6 (λw1=>stepG_seq) rfl λd1=>?_;refine J6 (λw1=>stepG_seq) rfl λd2=>?_;rcases BG k n with h|h
  ·exact Jz6 ((H.at d1).at d2) F (by omega) (by omega) λT' w' a b c e=>fin T' w' a b c e
  ·exact Jz7 ((H.at d1).at d2) F (by omega) λT' w' a b c e=>fin T' w' a b c e
 |succ d ih=>
  intro k E T w v3 L hd hk H F hL O6 WX;refine J6 (λw1=>stepG_seq) rfl λd1=>?_;refine J6 (λw1=>stepG_seq) rfl λd2=>?_;refine Jz5 ((H.at d1).at d2) F (by omega) (by omega) λT' w' H' F' Oe hh=>?_;refine J6 (λw1=>stepG_cond (t:=true) (by simp[Act.eval,BH,Oe])) rfl λd3=>?_;refine J6 (λw1=>stepG_skip) rfl λd4=>?_;refine Jz8 hR hn hW hT kT (by omega) (by omega) ((H'.at d3).at d4) F' (hL.kept λb _=>by show w'.heap[b]?=_;rw[hh];rfl) O6 WX λE2 T2 w2 v' L' H2 F2 EJ BU Gy=>?_;refine J6 (λw1=>stepG_inLoop) rfl λd5=>?_;exact ih (k+1) E2 T2 (w2.at d5) v' L' (by omega) (by omega) (H2.at d5) F2 (EJ.kept λ_ _=>rfl) BU Gy
end
section
variable{W E:JB}{w:JE}{la:JI}{rs:List Gt}{fs:List Jg}{n cap:Nat}{b₀:Frame}{a₀:Act}{ops:Array Oper}{i:Nat}{rest:List Nat}{kk:List Item}{cs:List Frame}{Post:(JB)->JF->JE->Prop}
theorem Jkk(hB:BOk C0 S0 W E w)(hR:gQ w la rs)(hn:rs.length=n)(Z4:fs=(rs.take 200).map Gt.fact)(hW:∀a,la=some a->W a.block)(hT:∀a,la=some a->∀c z,w.heap[a.block]?≠some (.cells c wgT z))
  (kn:∀E' w' ga c2 pl,(∀b,E b->E' b)->BOk C0 S0 W E' w'->KE E w w'->Fa false w' ga fs c2 pl->(∀y∈pl,w.heap.size<=y)->VR C0 (idE E') (.slice ga fs.length c2) (.slice ga fs.length c2)->w.heap.size<=w'.heap.size->(∀b,W b->w'.heap[b]?=w.heap[b]?) ->
   Reach prog Post W (G (b₀.at (a₀.put ((ops[i]?).bind (·.dst)) (.slice ga fs.length c2)) (.inRegion ops rest::kk)) cs) w') :
  Reach prog Post W (G ((Go.Conc.base 6).at ⟨#[.slice la n cap]++Array.replicate 54 JA,[]⟩ [.code b6]) (b₀.at a₀ (.inRegion ops (i::rest)::kk)::cs)) w:=by
 obtain⟨T0,L8⟩:∃T0,T0=#[.slice la n cap]++Array.replicate 54 JA:=⟨_,rfl⟩;rw[<- L8];have sz:T0.size=55:=by rw[L8];simp
 have s0:T0[0]?=some (.slice la n cap):=by rw[L8];simp
 have sn:∀j x,1<=j->T0[j]?=some x->x=JA:=λj x h1 hx=>by
  rw[L8,Array.getElem?_append_right (by simpa using h1),Array.getElem?_replicate]at hx;split at hx
  ·exact(Aa hx).symm
  ·cases hx
 clear L8;have ht:TmR C0 S0 6 (idE E) T0 T0:=by
  refine⟨rfl,λj x x' hj h1 h2=>?_,λj x hj _=>by cases hj⟩;rw[h1]at h2;cases h2;rcases Nat.eq_zero_or_pos j with rfl|h
  ·cases hj
  ·rw[sn j x h h1];exact .undef
 have H:HS 6 W E w E T0 w:=⟨hB,λ_ h=>h,.refl,λ_ _=>rfl,ht,rfl,Ad _⟩;refine J6 (λw1=>stepG_seq) rfl λd1=>?_;refine J6 (λw1=>stepG_region) rfl λd2=>?_;refine Jc (o:=Jdv) (v:=.slice none 0 0) ((H.at d1).at d2) rfl rfl rfl (λw1=>by simp[execOp,go_sem,Jdv];try rfl) (λw1=>by simp[execOp,go_sem,Jdv];try rfl) (.inr (.Jo _ _)) λw1 H1 h1=>?_;refine J6 (λw1=>stepG_region_end) rfl λd3=>?_;refine J6 (λw1=>stepG_seq) rfl λd4=>?_;refine J6 (λw1=>stepG_region) rfl λd5=>?_;refine Jc (o:=zZ) (v:=.slice none 0 0) (((H1.at d3).at d4).at d5) rfl rfl rfl (λw1=>by simp[execOp,go_sem,zZ];try rfl) (λw1=>by simp[execOp,go_sem,zZ];try rfl) (.inr (.Jo _ _)) λw2 H2 h2=>?_;refine J6 (λw1=>stepG_region_end) rfl λd6=>?_;refine J6 (λw1=>stepG_seq) rfl λd7=>?_;refine J6 (λw1=>stepG_seq) rfl λd8=>?_;refine J6 (λw1=>stepG_region) rfl λd9=>?_;refine Jc (o:=Jdx) (v:=.int .i64 (0:Nat)) ((((H2.at d6).at d7).at d8).at d9) rfl rfl rfl (λw1=>by simp[execOp,go_sem,Jdx];try rfl) (λw1=>by simp[execOp,go_sem,Jdx];try rfl) (.inr (.int _ _)) λw3 H3 h3=>?_;refine J6 (λw1=>stepG_region_end) rfl λd10=>?_;refine J6 (λw1=>stepG_block) rfl λd11=>?_;refine J6 (λw1=>stepG_loop) rfl λd12=>?_;refine Jkj (cap:=cap) (Post:=Post) hR hn hW hT (λb hb=>hB.lt hb) (λE4 T4 w4 v3 L k H4 F4 Uh O6=>?_) _ 0 E _ _ (.slice none 0 0) [] rfl (by omega) (((H3.at d10).at d11).at d12) ⟨by simpa using sz,?_,?_,?_,?_⟩ (.nil _ _) rfl λp hp=>by cases hp
 ·have sz4:=F4.sz;have s3:=F4.s3;have xJ:VR C0 (idE E4) v3 v3:=H4.tm.slot (i:=3) rfl s3;refine J6 (λw1=>stepG_seq) rfl λe1=>?_;refine J6 (λw1=>stepG_region) rfl λe2=>?_;rw[show List.range Jz3.size=[0,1]from rfl];refine Jc (o:=Jev) (v:=v3) ((H4.at e1).at e2) rfl rfl rfl (λw1=>by simp[execOp,go_sem,Jev,s3];try rfl) (λw1=>by simp[execOp,go_sem,Jev,s3];try rfl) (.inr xJ) λw5 H5 h5=>?_;refine Jc (o:=zA) (v:=v3) H5 rfl rfl rfl (λw1=>by simp[execOp,go_sem,zA,sz4];try rfl) (λw1=>by simp[execOp,go_sem,zA,sz4];try rfl) (.inr xJ) λw6 H6 h6=>?_;refine J6 (λw1=>stepG_region_end) rfl λe3=>?_;refine J6 (λw1=>stepG_ret') rfl λe4=>?_;refine Reach.leave1 (B:=Go.Conc.base 6) rfl rfl (fn:=f6) (by kernel_rfl) (x:=2) (by kernel_rfl) λe5=>?_;have H7:=((H6.at e3).at e4).at e5;have hL7:G6 (((w6.at e3).at e4).at e5) w.heap.size v3 L:=Uh.kept λb _=>by show w6.heap[b]?=_;rw[h6,h5];rfl
  obtain⟨ga,c2,pl,rfl,hfa,CO⟩:=hL7.at;have hlf:L.length=fs.length:=by rw[Z4,<- O6,Et]
  rw[O6,<- Z4]at hfa;rw[hlf]at xJ;have e2:(Act.mk ((T4.setIfInBounds 54 (Value.slice ga fs.length c2)).setIfInBounds 2 (Value.slice ga fs.length c2)) []).tmps.getD 2 JA=.slice ga fs.length c2:=by simp[BH,sz4]
  rw[hlf,e2];exact kn E4 _ ga c2 pl H7.le H7.bok H7.ke hfa CO xJ H7.sz H7.kw
 ·rw[AQ (by omega),AQ (by omega),AQ (by omega)];exact s0
 ·simp[sz]
 ·simp[sz]
 ·simp[sz]
end
structure GK(c:J8)(hs:Int->Int)(fs:List Jg)(S:List TR):Prop where
 nd:(S.map (·.k)).Nodup
 all:∀k,tm S k=Gp c FB (sel hs 7 k fs)
 n3:∀f∈fs,f.k.length=3
 n:fs.length<=200
theorem GK.len{c:J8}{hs:Int->Int}{fs:List Jg}{S:List TR}(h:GK c hs fs S):S.length<=200:=by
 have h1:=fD h.nd (U:=fs.map λf=>Jb 7 (Js f.k) 5) λx hx=>by obtain⟨t,ht,rfl⟩:=AY.1 hx;obtain⟨_,f,hf,e⟩:=dS h.nd h.all ht;exact AY.2 ⟨f,hf,e⟩
 simp only[Et]at h1;have:=h.n;omega
theorem GK.hin{c:J8}{hs:Int->Int}{fs:List Jg}{S:List TR}(h:GK c hs fs S):∀t∈S,HIn 200 t.B:=by intro t ht x hx;obtain⟨e,_⟩:=dS h.nd h.all ht;rw[e]at hx;have h1:=Jnk hs 7 t.k fs;have h2:=h.n;have:=Jz1 (by omega) x hx;omega
theorem GK.sum{c:J8}{hs:Int->Int}{fs:List Jg}{S T:List TR}{m:Nat}(h:GK c hs fs S)(hc:Jw c)(BX:c.nb=4)(hh:∀y,0<=hs y/\hs y<=18446744073709551615)(hT:Sum c (tm T) (EG S m (λ_=>true))):∀k,tm T k=Gp c FB (sel hs m k fs):=
 Jwc hc (by rw[BX];rfl) gB hh h.n3 h.nd h.all hT
theorem GK.one{c:J8}{hs:Int->Int}{fs:List Jg}{T:List TR}(h3:∀f∈fs,f.k.length=3)(hn:(T.map (·.k)).Nodup)(hT:∀k,tm T k=Gp c FB (sel hs 0 k fs)):T.length<=1/\(fs≠[]->T.length=1)/\∀t∈T,t.k=[0,0,0,0,0]:=by
 have hk:∀t∈T,t.k=[0,0,0,0,0]:=λt ht=>by obtain⟨_,f,hf,e⟩:=dS hn hT ht;rw[<- e,Jjl (J45 (by have:=h3 f hf;omega))]
 have h1:=fD hn (U:=[[0,0,0,0,0]]) λx hx=>by obtain⟨t,ht,rfl⟩:=AY.1 hx;rw[hk t ht];exact .head _
 simp only[Et,Gu,List.length_nil]at h1;refine⟨h1,λAq=>?_,hk⟩;obtain⟨f,hf⟩:=List.exists_mem_of_ne_nil _ Aq;obtain⟨t,ht,_⟩:=Jlg hT hf;have:=List.length_pos_of_mem ht;omega
section
variable{W E:JB}{w:JE}{c:Int}{la:JI}{rs:List Gt}{n lc:Nat}
end
def rf(P:Program)(fits:JH->Bool):Nat->JH->Bool
 |0,_=>false
 |d+1,e=>fits e || (match P.underlying e with
  |some (.struct fs)=>fs.any λf=>rf P fits d f.type
  |some (.array _ e')=>rf P fits d e'
  |_=>false)
theorem Jcm(P:Program)(fits:JH->Bool):∀(d:Nat)(e:JH)(c o n:Nat),rowAt P fits d e c o n=true->rf P fits d e=true
 |0,_,_,_,_,h=>by cases h
 |d+1,e,c,o,n,h=>by
  simp only[rowAt]at h;unfold rf;by_cases hs:P.cellsOf e=0
  ·rw[if_pos hs]at h;cases h
  rw[if_neg hs]at h;rw[Bool.or_eq_true]at h ⊢;rcases h with h|h
  ·simp only[Bv]at h;exact .inl h.2
  ·right;rw[Bv]at h;obtain⟨_,h⟩:=h;cases hu:P.underlying e with
   |none=>rw[hu]at h;cases h
   |some u=>
    rw[hu]at h;cases u with
    |struct fs=>
     have h':=((Bv _ _).mp h).2;show(fs.any λf=>rf P fits d f.type)=true;rw[Array.any_eq_true]at h' ⊢;obtain⟨i,hi,h'⟩:=h';exact⟨i,hi,Jcm P fits d _ _ _ _ ((Bv _ _).mp h').2⟩
    |array m e'=>exact Jcm P fits d _ _ _ _ h
    |_=>cases h
theorem Jjr{α:Type}{l:List α}(h:l.length=5):∃x0 x1 x2 x3 x4,l=[x0,x1,x2,x3,x4]:=by
 rcases l with _|⟨x0,_|⟨x1,_|⟨x2,_|⟨x3,_|⟨x4,_|⟨x5,l⟩⟩⟩⟩⟩⟩<;>simp at h
 exact⟨_,_,_,_,_,rfl⟩
theorem Jux:∃f0 f1 f2 f3 f4:Field,prog.underlying 53=some (.struct #[f0,f1,f2,f3,f4])/\(f0.offset=0/\f1.offset=1/\f2.offset=2/\f3.offset=3/\f4.offset=4)/\(f0.type=3/\f1.type=3/\f2.type=3/\f3.type=3/\f4.type=3):=by
 have h:(prog.underlying 53).map (λu=>match u with| .struct fs=>fs.toList.map (λf=>(f.offset,f.type))|_=>[])=some [(0,3),(1,3),(2,3),(3,3),(4,3)]:=by kernel_rfl
 cases hu:prog.underlying 53 with
 |none=>rw[hu]at h;cases h
 |some u=>
  rw[hu]at h;cases u with
  |struct fs=>
   obtain⟨l⟩:=fs;simp only[Option.map_some,Cm]at h;have hl:l.length=5:=by have:=congrArg List.length h;simpa using this
   match l,hl with
   |[f0,f1,f2,f3,f4],_=>
    simp only[DW,List.map_nil,List.cons.injEq,Prod.mk.injEq,and_true]at h;obtain⟨⟨a0,b0⟩,⟨a1,b1⟩,⟨a2,b2⟩,⟨a3,b3⟩,⟨a4,b4⟩⟩:=h;exact⟨f0,f1,f2,f3,f4,rfl,⟨a0,a1,a2,a3,a4⟩,b0,b1,b2,b3,b4⟩
  |_=>simp at h
theorem Jnm:prog.underlying 22=some (.slice 53):=by kernel_rfl
theorem SG:prog.underlying 3=some (.int .i64):=by kernel_rfl
theorem ce53:prog.cellsOf 53=5:=by kernel_rfl
theorem ce3:prog.cellsOf 3=1:=by kernel_rfl
theorem J048:rf prog (sameLayout prog prog.depth · 53) prog.depth wgT=false:=by kernel_rfl
theorem rf0:rf prog (sameLayout prog prog.depth · 53) prog.depth 0=false:=by kernel_rfl
theorem J049{w:JE}{r:_root_.Go.Reach}{b0:Nat}{a:Addr}{n:Nat}(h:w.has prog r b0 a 53 n):a.spot=none/\a.block<w.heap.size/\(∀c z,w.heap[a.block]?≠some (.cells c wgT z))/\∀c z,w.heap[a.block]?≠some (.cells c 0 z):=by
 obtain⟨_,h1,row,cells,h2,h3⟩:=h;have h4:rf prog (sameLayout prog prog.depth · 53) prog.depth row=true:=by
  obtain⟨d,hd⟩:∃d,prog.depth=d+1:=by
   cases hd:prog.depth with
   |zero=>rw[hd]at h3;cases h3
   |succ d=>exact⟨d,rfl⟩
  have h5:liesAt prog (d+1) row (cells / prog.cellsOf row) a.off 53 n=true:=by rw[<- hd];exact h3
  unfold liesAt at h5;rw[Bool.or_eq_true]at h5;rcases h5 with h5|h5
  ·exact Jcm _ _ _ _ _ _ _ h5
  ·obtain⟨f0,f1,f2,f3,f4,hu,_⟩:=Jux;rw[hu]at h5;cases h5
 have sh:∀c t z,w.heap[a.block]?=some (.cells c t z)->row=t:=λc t z hc=>by simp only[World.shape?,hc]at h2;simp at h2;exact h2.1.symm
 refine⟨h1,?_,λc z hc=>?_,λc z hc=>?_⟩
 ·cases hb:w.heap[a.block]? with
  |none=>simp[World.shape?,hb]at h2
  |some o=>exact(BQ.1 hb).1
 ·rw[sh _ _ _ hc,J048]at h4;cases h4
 ·rw[sh _ _ _ hc,rf0]at h4;cases h4
theorem J04a{α:Type}(m:Array α)(a b c d e:α){n:Nat}(hn:m.size=n):(((((m.push a).push b).push c).push d).push e)[n]?=some a/\n<(((((m.push a).push b).push c).push d).push e).size:=by subst hn;refine⟨?_,by simp only[Array.size_push];omega⟩;rw[Mc,if_neg (by simp only[Array.size_push];omega),Mc,if_neg (by simp only[Array.size_push];omega),Mc,if_neg (by simp only[Array.size_push];omega),Mc,if_neg (by simp only[Array.size_push];omega),Mc,if_pos rfl]
theorem Jgs(P:Program)(tape:Nat->Question->Nat)(os:Os):(begin P tape os).world.heap[P.globals.size]?=some (.cells ((Array.range P.types.size).map λt=>.int .u64 (Int.ofNat t)) 0)/\P.globals.size<(begin P tape os).world.heap.size:=by unfold begin;exact J04a _ _ _ _ _ _ (by simp)
theorem Jnn{P:Program}{w:JE}(h:w.ShapedOpen P):w.heap[P.globals.size]?=some (.cells ((Array.range P.types.size).map λt=>.int .u64 (Int.ofNat t)) 0):=by obtain⟨h1,h2⟩:=Jgs P (λ_ _=>0) default;obtain⟨o,o0,h3,h4,h5⟩:=h.2 P.globals.size (Ad _) h2;rw[h1]at h4;rw[h3];simp only[Nat.sub_self]at h5;rw[if_neg (by decide)]at h5;rw[h5,h4]
section
variable{H:Type}{enc:JH × JJ->H}{w:JE}{a0:JI}{len cap:Nat}{d:DataW H}{ps:List MemPlace}
theorem Jt4(Iu:∃r b0,Value.okWide prog w r b0 22 (.slice a0 len cap))(h:DataW.Trod enc prog w 0 (λ_=>true) true 22 (.slice a0 len cap) d ps) :
  ∃rs:List Gt,rs.length=len/\gQ w a0 rs/\∀a,a0=some a->a.block<w.heap.size/\(∀c z,w.heap[a.block]?≠some (.cells c wgT z))/\∀c z,w.heap[a.block]?≠some (.cells c 0 z):=by
 obtain⟨r,b0,Iu⟩:=Iu;obtain⟨fuel,hf⟩:=h;rcases Deep.open_slice Jnm hf with⟨Gj,_⟩|⟨a,len',Dy,m,n,D,Pl,Gj,_,hl,hm,oK,_,hx⟩
 ·simp[Value.cells]at Gj;obtain⟨rfl,rfl,rfl⟩:=Gj;exact⟨[],rfl,⟨λi r hr=>by simp at hr,λr hr=>by cases hr⟩,λa ha=>by cases ha⟩
 ·simp[Value.cells]at Gj;obtain⟨rfl,rfl,rfl⟩:=Gj;have hh:w.has prog r b0 a 53 cap:=by simp only[Value.okWide,Jnm,Cell.okWide,Cell.ok]at Iu;exact Iu.2.2
  obtain⟨e1,e2,e3,e4⟩:=J049 hh;obtain⟨b,o,sp⟩:=a;simp only at e1 e2 e3 e4;subst e1;rw[if_pos rfl]at oK;have each:∀i,i<len->∃q:Gt,Jn0 q/\w.cell? ⟨b,o+i*5,none⟩=some (.int .i64 q.a)/\w.cell? ⟨b,o+i*5+1,none⟩=some (.int .i64 q.b)/\w.cell? ⟨b,o+i*5+2,none⟩=some (.int .i64 q.c)/\w.cell? ⟨b,o+i*5+3,none⟩=some (.int .i64 q.fact.it)/\w.cell? ⟨b,o+i*5+4,none⟩=some (.int .i64 q.fact.v):=by
   intro i hi;obtain⟨Y8,h1,h2⟩:=hx i (by omega);rw[ce53]at h1;obtain⟨_,hlen,Am⟩:=World.cells?_some h1;obtain⟨f0,f1,f2,f3,f4,hu,⟨o0,o1,o2,o3,o4⟩,t0,t1,t2,t3,t4⟩:=Jux;obtain⟨xs,k,hk,hxy,_,RN,Vm⟩:=DataW.trod_struct hu h2;have hxl5:xs.length=5:=RN;obtain⟨y0,y1,y2,y3,y4,rfl⟩:=Jjr hxl5;obtain⟨v0,v1,v2,v3,v4,rfl⟩:=Jjr hlen;have g0:=Vm 0 f0 rfl;have g1:=Vm 1 f1 rfl;have g2:=Vm 2 f2 rfl;have g3:=Vm 3 f3 rfl;have g4:=Vm 4 f4 rfl;simp[o0,o1,o2,o3,o4,t0,t1,t2,t3,t4,ce3]at g0 g1 g2 g3 g4;obtain⟨z0,w0,_,k0⟩:=DataW.trod_int SG g0;obtain⟨z1,w1,_,k1⟩:=DataW.trod_int SG g1;obtain⟨z2,w2,_,k2⟩:=DataW.trod_int SG g2;obtain⟨z3,w3,_,k3⟩:=DataW.trod_int SG g3;obtain⟨z4,w4,_,k4⟩:=DataW.trod_int SG g4;simp only[List.cons.injEq,and_true]at w0 w1 w2 w3 w4;subst w0 w1 w2 w3 w4;have i64:∀{z:Int},(Lit.int .i64 z).wf=true->I64 z:=λh=>by simp[Lit.wf,IntKind.min,IntKind.max,IntKind.signed,IntKind.bits]at h;exact⟨by omega,by omega⟩
   have c:∀j,j<5->w.cell? ⟨b,o+i*5+j,none⟩=[Value.int .i64 z0,.int .i64 z1,.int .i64 z2,.int .i64 z3,.int .i64 z4][j]?:=λj hj=>by
    have:=Am j hj;rw[Deep.add_add]at this;unfold Addr.add at this;by_cases e:i*5+j=0
    ·rw[if_pos e]at this;rw[show o+i*5+j=o by omega];exact this
    ·rw[if_neg e]at this;rw[show o+i*5+j=o+(i*5+j) by omega];simpa using this
   exact⟨⟨z0,z1,z2,z3,z4⟩,⟨i64 k0,i64 k1,i64 k2,i64 k3,i64 k4⟩,c 0 (by omega),c 1 (by omega),c 2 (by omega),c 3 (by omega),c 4 (by omega)⟩
  haveI:Inhabited Gt:=⟨⟨0,0,0,0,0⟩⟩
  obtain⟨F,hF⟩:=Deep.choose_lt each;refine⟨(List.range len).map F,by simp,⟨λi r hr=>?_,λr hr=>?_⟩,λa ha=>?_⟩
  ·rw[List.getElem?_map]at hr;have hi:i<len:=by
    rcases BG i len with h|h
    ·exact h
    ·rw[List.getElem?_eq_none (by simpa using h)]at hr;cases hr
   rw[List.getElem?_range hi]at hr;cases hr;obtain⟨_,q0,q1,q2,q3,q4⟩:=hF i hi;exact⟨b,o,rfl,e2,q0,q1,q2,q3,q4⟩
  ·obtain⟨i,hi,rfl⟩:=AY.1 hr;exact(hF i (List.mem_range.1 hi)).1
  ·cases ha;exact⟨e2,e3,e4⟩
end
end Go.Sim.Z
section
namespace Go.Sim.Z
open Go Go.Proofs Go.RowKit Go.Conc Go.Maps
theorem Jql{w:JE}(hh:w.heap[prog.globals.size]?=some (.cells ((Array.range prog.types.size).map λt=>.int .u64 (Int.ofNat t)) 0)):BOk C0 S0 (λb=>b<w.heap.size/\b≠prog.globals.size) (λb=>b=prog.globals.size) w:=by refine⟨WR.self rfl λb hb=>?_,rfl,λg hg=>(by cases hg),λb hb he=>hb.2 he⟩;subst hb;refine⟨_,hh,_,_,rfl,.gW λv hv=>?_,λh=>(C0.lax rfl _ h).elim,λ_=>⟨rfl,λ_=>rfl⟩⟩;simp only[Array.toList_map,AY]at hv;obtain⟨t,_,rfl⟩:=hv;exact .int _ _
theorem Jqm{w:JE}(hh:w.heap[prog.globals.size]?=some (.cells ((Array.range prog.types.size).map λt=>.int .u64 (Int.ofNat t)) 0)):HOk w:=by refine⟨_,_,⟨(0,0),hh,λ_=>rfl⟩,λv hv=>?_⟩;simp only[Array.toList_map,AY]at hv;obtain⟨t,_,rfl⟩:=hv;exact⟨_,_,rfl⟩
theorem Jwh{w w':JE}(h:∀b,b<w.heap.size->w'.heap[b]?=w.heap[b]?):w.heap.size<=w'.heap.size:=by
 rcases Nat.eq_zero_or_pos w.heap.size with e|e
 ·omega
 ·have h1:=h (w.heap.size-1) (by omega);rw[BJ (show w.heap.size-1<w.heap.size by omega)]at h1;have:=(BQ.1 h1).1;omega
theorem Tryz.own:ownKnob prog.godebug=none:=by kernel_rfl
theorem und4:prog.underlying 4=some .bool:=by kernel_rfl
end Go.Sim.Z
namespace Go.Proofs.YtlcbehhbfglgaaaGreat
open Go.Sim.Z Go.ChangeShapes Go.WideShapes Go.ChangeAt Go.RowKit Go.Conc
end Go.Proofs.YtlcbehhbfglgaaaGreat
end
namespace Go.Sim.Z
open Go Go.Proofs Go.RowKit
structure PX(w:JE)(base:Nat)(v:JJ)(xs:JD):Prop where
 own:w.ownsRow base 5 1 v xs.length (xs.map (Value.int .u8))
 pl:Kt w v
theorem PX.nil(w:JE)(base:Nat):PX w base (.slice none 0 0) []:=⟨⟨rfl,.inl ⟨rfl,rfl⟩⟩,.nil _ _ _⟩
structure KP(base wb:Nat)(w w':JE):Prop where
 size:w.heap.size<=w'.heap.size
 heap:∀b o,w.heap[b]?=some o->b≠wb->(base<=b->∀cur,o≠.cells cur 5)->w'.heap[b]?=some o
 tape:w'.tape=w.tape
 os:w'.os=w.os
 output:w'.output=w.output
section
variable{w w' w1 w2:JE}{base wb:Nat}{v v':JJ}{xs:JD}
theorem PX.sl(h:PX w base v xs):∃a c,v=.slice a xs.length c:=by
 rcases h.own.2 with⟨rfl,h1⟩|⟨g,cap,cur,rfl,_⟩
 ·exact⟨none,0,by rw[h1]⟩
 ·exact⟨_,_,rfl⟩
theorem PX.sl3(h:PX w base v xs):∃a n c,v=.slice a n c:=by obtain⟨a,c,e⟩:=h.sl;exact⟨a,_,c,e⟩
theorem PX.kept(h:PX w base v xs)(hh:∀b cur,base<=b->w.heap[b]?=some (.cells cur 5)->w'.heap[b]?=some (.cells cur 5)):PX w' base v xs:=by
 rcases h.own.2 with hn|⟨g,cap,cur,rfl,hb,hg,rest⟩
 ·obtain⟨rfl,h1⟩:=hn;exact⟨⟨h.own.1,.inl ⟨rfl,h1⟩⟩,.nil _ _ _⟩
 ·exact⟨⟨h.own.1,.inr ⟨g,cap,cur,rfl,hb,hh g cur hb hg,rest⟩⟩,h.pl.kept λg' n' Dy e=>by cases e;rw[hh g cur hb hg,hg]⟩
theorem KP.refl:KP base wb w w:=⟨Ad _,λ_ _ h _ _=>h,rfl,rfl,rfl⟩
theorem KP.trans(h:KP base wb w w1)(k:KP base wb w1 w2):KP base wb w w2:=⟨BL h.size k.size,λb o hb h1 h2=>k.heap b o (h.heap b o hb h1 h2) h1 h2,k.tape.trans h.tape,k.os.trans h.os,k.output.trans h.output⟩
theorem KP.tch(t:Tch w.heap.size M0 w w'):KP base wb w w':=⟨t.size,λb o hb _ _=>(t.heap b (Ji hb) λh=>h).trans hb,t.tape,t.os,t.output⟩
theorem KP.alloc(h:KP base wb w w1)(o:Obj):KP base wb w (w1.alloc o):=h.trans (.tch (Tch.refl.alloc (Ad _) _))
theorem KP.cell(h:KP base wb w w'){b i:Nat}{u:JJ}{arr:JC}{t:JH}(hb:w.heap[b]?=some (.cells arr t))(hc:w.cell? ⟨b,i,none⟩=some u)(hn:b≠wb)(ht:t≠5):w'.cell? ⟨b,i,none⟩=some u:=
 (DX (w:=w) ((h.heap b _ hb hn λ_ cur e=>ht (Obj.cells.inj e).2.1).trans hb.symm)).trans hc
theorem KP.row(h:KP base wb w w'){b cap:Nat}{t:JH}{k:IntKind}{ys:JD}(hr:Row false w b t k ys cap)(hn:b≠wb)(ht:t≠5):Row false w' b t k ys cap:=by obtain⟨cur,⟨z,h1,h2⟩,h3⟩:=hr;obtain rfl:=h2 rfl;exact⟨cur,⟨(0,0),h.heap b _ h1 hn λ_ cur e=>ht (Obj.cells.inj e).2.1,λ_=>rfl⟩,h3⟩
theorem KP.low(h:KP base wb w w'){b:Nat}(hb:b<base)(hw:b<w.heap.size)(hn:b≠wb):w'.heap[b]?=w.heap[b]?:=by rw[BJ hw];exact h.heap b _ (BJ hw) hn λh=>by omega
theorem PX.pushed{wr:JE}{o:Obj}{y:Int}(hv:PX wr base v xs)(Aw:w1.ownsRow base 5 1 v' (xs.length+1) (xs.map (Value.int .u8)++[.int .u8 y]))(hg:(wr.alloc o).grownBy w1 v.ownBlock)(CO:Kt w1 v')(hw:wb<base):PX w1 base v' (xs++[y])/\KP base wb wr w1/\∀o',wr.heap[wb]?=some o'->w1.heap[wb]?=some o':=by
 refine⟨⟨by simpa using Aw,CO⟩,⟨?_,λb o' hb _ h2=>?_,hg.tape,hg.os,hg.output⟩,λo' hb=>?_⟩
 ·have:=hg.size;rw[size_alloc]at this;omega
 ·have Ac:=Ji hb;refine(hg.block b (by rw[size_alloc];omega) λe=>?_).trans ((J7 _ Ac).trans hb);rcases hv.own.2 with⟨rfl,_⟩|⟨g',Dy,cur,rfl,UF,O8,_⟩
  ·cases e
  ·have:=Aa e;simp at this;subst this;rw[O8]at hb;exact h2 UF cur (Aa hb).symm
 ·have Ac:=Ji hb;refine(hg.block wb (by rw[size_alloc];omega) λe=>?_).trans ((J7 _ Ac).trans hb);rcases hv.own.2 with⟨rfl,_⟩|⟨g',Dy,cur,rfl,UF,O8,_⟩
  ·cases e
  ·have:=Aa e;simp at this;omega
theorem PX.lt(h:PX w base v xs){g n cap:Nat}(e:v=.slice (some ⟨g,0,none⟩) n cap):base<=g/\g<w.heap.size:=by
 rcases h.own.2 with⟨rfl,_⟩|⟨g',Dy,cur,rfl,hb,hg,_⟩
 ·cases e
 ·cases e;exact⟨hb,Ji hg⟩
theorem PX.set(h:PX w base v xs)(hw:wb<base)(u:JJ):PX (w.setCell ⟨wb,0,none⟩ u) base v xs:=h.kept λb cur hb hg=>(Jk _ _ (show b≠wb by omega)).trans hg
theorem KP.set(h:KP base wb w w1)(u:JJ):KP base wb w (w1.setCell ⟨wb,0,none⟩ u):=⟨by rw[size_set];exact h.size,λb o hb hn h2=>(Jk _ _ hn).trans (h.heap b o hb hn h2),h.tape,h.os,h.output⟩
end
def WrB(w:JE)(base wb:Nat)(bs:JD):Prop:=∃v,w.heap[wb]?=some (.cells #[v] 86)/\PX w base v bs
def Eo(n:Nat):JD:=if 128<=n then bits BinOp.or IntKind.u8 (IntKind.u8.wrap n) 128::Eo (n / 128)else[IntKind.u8.wrap n]
termination_by n
decreasing_by omega
theorem sH{n:Nat}(h:128<=n):Eo n=bits BinOp.or IntKind.u8 (IntKind.u8.wrap n) 128::Eo (n / 128):=by rw[Eo,if_pos h]
theorem Zy{n:Nat}(h:¬128<=n):Eo n=[IntKind.u8.wrap n]:=by rw[Eo,if_neg h]
theorem sG:∀(k n:Nat),n<128 ^ (k+1)->(Eo n).length<=k+1
 |0,n,h=>by rw[Zy (by omega)];simp
 |k+1,n,h=>by
  by_cases h1:128<=n
  ·rw[sH h1,Gu];have:=sG k (n / 128) (by rw[Nat.pow_succ]at h;omega);omega
  ·rw[Zy h1];simp
theorem Ld{n:Nat}(h:n<18446744073709551616):(Eo n).length<=10:=sG 9 n (Es h (by decide))
def CG(l:JD):JD:=l.flatMap λx=>Eo x.toNat
theorem J024{l:JD}{k:Nat}(h:k<l.length):CG (l.take (k+1))=CG (l.take k)++Eo (l.getD k 0).toNat:=by unfold CG;rw[List.take_add_one,Dh h,List.flatMap_append,CP,Dh h];simp
theorem Ou{l:JD}(h:∀x∈l,x<=18446744073709551615):(CG l).length<=10*l.length:=by
 induction l with
 |nil=>simp[CG]
 |cons x l ih=>
  have h1:=ih λy hy=>h y (by simp[hy]);have h2:=Ld (n:=x.toNat) (by have:=h x (by simp);omega);unfold CG at h1 ⊢;rw[List.flatMap_cons,List.length_append,Gu];omega
theorem SH{w:JE}{base wb g cap:Nat}{bs xs:JD}(hw:wb<base)(hb:base<=w.heap.size)(hW:WrB w base wb bs)(hR:0<xs.length->Row false w g 45 .u64 xs cap)(hg:0<xs.length->g≠wb)(hx:∀x∈xs,0<=x/\x<=18446744073709551615)(hl:bs.length+10*xs.length<=1000000000){sl:JJ}(CW:∃p c,sl=.slice p xs.length c/\(0<xs.length->p=some ⟨g,0,none⟩)) :
  Calls prog 30 #[.pointer (some ⟨wb,0,none⟩),sl] w λe w'=>(∃v,e=.returned v)/\WrB w' base wb (bs++CG xs)/\KP base wb w w':=by
 obtain⟨pa,pc,rfl,jD⟩:=CW;obtain⟨i0,hi,En,Dl,D7⟩:=info_parts info5;have hmx:maxLen=9223372036854775807:=by decide
 obtain⟨n,hn⟩:∃n,xs.length=n:=⟨_,rfl⟩;rw[hn]at hl hR hg jD ⊢;have hkl:∀k,(CG (xs.take k)).length<=10*n:=λk=>by have h1:=Ou (l:=xs.take k) λx Ag=>(hx x (List.mem_of_mem_take Ag)).2;rw[List.length_take]at h1;omega
 have Dc:CG (xs.take n)=CG xs:=by rw[<- hn,List.take_length]
 go_enter func30,ntmps30
 go_wp2
 go_loopw [8] (λi wr=>∃k:Nat,k<=n/\i=.int .i64 k/\WrB wr base wb (bs++CG (xs.take k))/\KP base wb w wr) (λi _=>n-(RowKit.intOf i).toNat)
 case atStart=>exact⟨0,by omega,rfl,by simpa[CG]using hW,.refl⟩
 case round=>
  obtain⟨k,hk,rfl,Iq,UR⟩:=hrel;rcases BG k n with Ac|Dp
  ·have yF:=UR.row (hR (by omega)) (hg (by omega)) (by decide);have g1:=yF.cell (i:=k) (by omega);obtain rfl:=jD (by omega);have LG:=hx (xs.getD k 0) (by rw[CP,Dh (by omega)];exact List.getElem_mem _);have hs:=J024 (l:=xs) (k:=k) (by omega);have hkl1:=hkl (k+1);obtain⟨m0,N7⟩:∃m:Nat,xs.getD k 0=m:=⟨(xs.getD k 0).toNat,by omega⟩;rw[N7]at g1 LG hs;rw[Int.toNat_natCast]at hs;have BI:(k:Int)<n:=by omega
   clear hR yF hkl N7 Dc hx;go_wp2
   go_loopw [5] (λx wx=>∃(m:Nat)(done:JD),x=.int .u64 m/\m<=18446744073709551615/\WrB wx base wb done/\done++Eo m=bs++CG (xs.take (k+1))/\KP base wb w wx) (λx _=>(RowKit.intOf x).toNat)
   case atStart=>exact⟨m0,_,rfl,by omega,Iq,by rw[hs,List.append_assoc],UR⟩
   case round=>
    clear Iq UR g1;obtain⟨m,done,rfl,hm,⟨v,hv,hp⟩,hd,TM⟩:=hrel;have c0:=(cell_of hv 0).trans rfl;have NG:done.length<=1000000000:=by have:=congrArg List.length hd;rw[List.length_append,List.length_append]at this;omega
    have Ae:=TM.size;by_cases Po:128<=m
    ·have BR:(m:Int)>=128:=by omega
     have aH:IntKind.u8.wrap (m:Int)=(m:Int) % 256:=by rw[IntKind.wrap_u8]
     rw[sH Po,aH]at hd
     go_wp2_with (at_builtin;refine dL _ rfl _ _ 84 rfl base 5 i0 _ 1 1 underlying84 hi En Dl D7 rfl (by decide) _ _ _ rfl (hp.own.alloc _) ⟨wr.heap.size,0,none⟩ 1 1 [.int .u8 (bits BinOp.or IntKind.u8 ((m:Int) % 256) 128)] rfl rfl (Jkx (Ja _)) (by simp[Value.oneCell']) (by omega) (by omega) (by rw[size_alloc];omega) (hp.pl.kept λg n cap e=>J7 _ (hp.lt e).2) (λu hu=>by rcases AO.1 hu with rfl|hu;exact⟨_,_,rfl⟩;cases hu) (Plain.ai (k:=.u8) (xs:=[0])) ?_;intro v' w1 Bd AP Dv Em;obtain⟨z1,z2,z3⟩:=hp.pushed Bd AP Em hw;have z4:=z3 _ hv;have z5:=Gs z4 0;have z6:=(cell_of z4 0).trans rfl;obtain⟨YD,vn',Yw,rfl⟩:=z1.sl3;clear Bd AP Em Dv hp c0 hv)
     refine⟨⟨m / 128,_,by go_num,by omega,⟨_,?_,z1.set hw _⟩,by rw[List.append_assoc];exact hd,(TM.trans z2).set _⟩,by simp[RowKit.intOf];omega⟩;exact heap_set z4 0 _
    ·have BR:¬(m:Int)>=128:=by omega
     have aH:IntKind.u8.wrap (m:Int)=m:=by rw[IntKind.wrap_u8];omega
     rw[Zy Po,aH]at hd
     go_wp2_with (at_builtin;refine dL _ rfl _ _ 84 rfl base 5 i0 _ 1 1 underlying84 hi En Dl D7 rfl (by decide) _ _ _ rfl (hp.own.alloc _) ⟨wr.heap.size,0,none⟩ 1 1 [.int .u8 (m:Int)] rfl rfl (Jkx (Ja _)) (by simp[Value.oneCell']) (by omega) (by omega) (by rw[size_alloc];omega) (hp.pl.kept λg n cap e=>J7 _ (hp.lt e).2) (λu hu=>by rcases AO.1 hu with rfl|hu;exact⟨_,_,rfl⟩;cases hu) (Plain.ai (k:=.u8) (xs:=[0])) ?_;intro v' w1 Bd AP Dv Em;obtain⟨z1,z2,z3⟩:=hp.pushed Bd AP Em hw;have z4:=z3 _ hv;have z5:=Gs z4 0;have z6:=(cell_of z4 0).trans rfl;obtain⟨YD,vn',Yw,rfl⟩:=z1.sl3;clear Bd AP Em Dv hp c0 hv)
     refine⟨⟨k+1,by omega,by go_num,⟨_,heap_set z4 0 _,by rw[<- hd];exact z1.set hw _⟩,(TM.trans z2).set _⟩,by simp[RowKit.intOf];omega⟩
  ·obtain rfl:k=n:=by omega
   have CB:¬((k:Int)<k):=by omega
   rw[Dc]at Iq;go_wp2;go_end0;exact⟨⟨_,rfl⟩,Iq,UR⟩
end Go.Sim.Z
