/- PROVED HERE: laws that the statement rests on (parts Rb, Rc). Conditions: none. -/
import Derived.Test.YtlcbehhbfglgaaaGreatE44
set_option linter.all false
namespace Go.Sim.Z
open Go Go.Proofs Go.RowKit Go.Conc Go.Maps
def o6_0_0:Oper:={ dst:=some 2,op:=.assign (.const (.slice none 0 0)),type:=23,pos:= "keeps.go:24",after:=#[],guard:=none }
def x6_0:Array Oper:=#[o6_0_0]
def o6_1_0:Oper:={ dst:=some 3,op:=.assign (.const (.slice none 0 0)),type:=23,pos:= "keeps.go:25",after:=#[],guard:=none }
def x6_1:Array Oper:=#[o6_1_0]
def o6_2_0:Oper:={ dst:=some 4,op:=.assign (.const (.int .i64 0)),type:=3,pos:= "keeps.go:26",after:=#[],guard:=none }
def x6_2:Array Oper:=#[o6_2_0]
def o6_3_0:Oper:={ dst:=some 8,op:=.move (.tmp 4),type:=3,pos:= "keeps.go:26",after:=#[],guard:=none }
def o6_3_1:Oper:={ dst:=some 9,op:=.move (.tmp 0),type:=22,pos:= "keeps.go:26",after:=#[],guard:=none }
def o6_3_2:Oper:={ dst:=some 10,op:=.call { callee:=.builtin .len,args:=#[.tmp 9],argTypes:=#[22] },type:=3,pos:= "keeps.go:26",after:=#[{ on:=1,ground:=.data }],guard:=none }
def o6_3_3:Oper:={ dst:=some 11,op:=.binOp .lss 3 (.tmp 8) (.tmp 10) 3,type:=4,pos:= "keeps.go:26",after:=#[{ on:=0,ground:=.data },{ on:=2,ground:=.data }],guard:=none }
def o6_3_4:Oper:={ dst:=some 12,op:=.move (.tmp 11),type:=4,pos:= "keeps.go:26",after:=#[{ on:=3,ground:=.data }],guard:=none }
def o6_3_5:Oper:={ dst:=some 13,op:=.move (.tmp 4),type:=3,pos:= "keeps.go:26",after:=#[{ on:=4,ground:=.guard }],guard:=some (4,true) }
def o6_3_6:Oper:={ dst:=some 14,op:=.binOp .lss 3 (.tmp 13) (.const (.int .i64 200)) 3,type:=4,pos:= "keeps.go:26",after:=#[{ on:=5,ground:=.data },{ on:=4,ground:=.guard }],guard:=some (4,true) }
def o6_3_7:Oper:={ dst:=some 15,op:=.pick (.tmp 12) (.tmp 14) (.const (.bool false)),type:=4,pos:= "keeps.go:26",after:=#[{ on:=4,ground:=.data },{ on:=6,ground:=.data }],guard:=none }
def x6_3:Array Oper:=#[o6_3_0,o6_3_1,o6_3_2,o6_3_3,o6_3_4,o6_3_5,o6_3_6,o6_3_7]
def o6_4_0:Oper:={ dst:=some 16,op:=.move (.tmp 4),type:=3,pos:= "keeps.go:26",after:=#[],guard:=none }
def o6_4_1:Oper:={ dst:=some 17,op:=.binOp .add 3 (.tmp 16) (.const (.int .i64 1)) 3,type:=3,pos:= "keeps.go:26",after:=#[{ on:=0,ground:=.data }],guard:=none }
def o6_4_2:Oper:={ dst:=some 4,op:=.assign (.tmp 17),type:=3,pos:= "keeps.go:26",after:=#[{ on:=1,ground:=.data },{ on:=0,ground:=.phase },{ on:=1,ground:=.phase }],guard:=none }
def x6_4:Array Oper:=#[o6_4_0,o6_4_1,o6_4_2]
def o6_5_0:Oper:={ dst:=some 18,op:=.move (.tmp 0),type:=22,pos:= "keeps.go:27",after:=#[],guard:=none }
def o6_5_1:Oper:={ dst:=some 19,op:=.move (.tmp 4),type:=3,pos:= "keeps.go:27",after:=#[],guard:=none }
def o6_5_2:Oper:={ dst:=some 20,op:=.indexAddr 22 (.tmp 18) (.tmp 19),type:=0,pos:= "keeps.go:27",after:=#[{ on:=0,ground:=.data },{ on:=1,ground:=.data }],guard:=none }
def o6_5_3:Oper:={ dst:=some 21,op:=.fieldAddr 53 (.tmp 20) 0,type:=0,pos:= "keeps.go:27",after:=#[{ on:=2,ground:=.data }],guard:=none }
def o6_5_4:Oper:={ dst:=some 22,op:=.load 3 (.tmp 21),type:=3,pos:= "keeps.go:27",after:=#[{ on:=3,ground:=.data }],guard:=none }
def o6_5_5:Oper:={ dst:=some 23,op:=.call { callee:=.value (.func 8),args:=#[.tmp 22,.const (.int .i64 4)],argTypes:=#[3,3] },type:=3,pos:= "keeps.go:27",after:=#[{ on:=4,ground:=.data }],guard:=none }
def o6_5_6:Oper:={ dst:=some 5,op:=.assign (.tmp 23),type:=3,pos:= "keeps.go:27",after:=#[{ on:=5,ground:=.data },{ on:=5,ground:=.chain },{ on:=0,ground:=.phase },{ on:=1,ground:=.phase },{ on:=2,ground:=.phase },{ on:=3,ground:=.phase },{ on:=4,ground:=.phase },{ on:=5,ground:=.phase }],guard:=none }
def x6_5:Array Oper:=#[o6_5_0,o6_5_1,o6_5_2,o6_5_3,o6_5_4,o6_5_5,o6_5_6]
def o6_6_0:Oper:={ dst:=some 24,op:=.move (.tmp 0),type:=22,pos:= "keeps.go:28",after:=#[],guard:=none }
def o6_6_1:Oper:={ dst:=some 25,op:=.move (.tmp 4),type:=3,pos:= "keeps.go:28",after:=#[],guard:=none }
def o6_6_2:Oper:={ dst:=some 26,op:=.indexAddr 22 (.tmp 24) (.tmp 25),type:=0,pos:= "keeps.go:28",after:=#[{ on:=0,ground:=.data },{ on:=1,ground:=.data }],guard:=none }
def o6_6_3:Oper:={ dst:=some 27,op:=.fieldAddr 53 (.tmp 26) 1,type:=0,pos:= "keeps.go:28",after:=#[{ on:=2,ground:=.data }],guard:=none }
def o6_6_4:Oper:={ dst:=some 28,op:=.load 3 (.tmp 27),type:=3,pos:= "keeps.go:28",after:=#[{ on:=3,ground:=.data }],guard:=none }
def o6_6_5:Oper:={ dst:=some 29,op:=.call { callee:=.value (.func 8),args:=#[.tmp 28,.const (.int .i64 4)],argTypes:=#[3,3] },type:=3,pos:= "keeps.go:28",after:=#[{ on:=4,ground:=.data }],guard:=none }
def o6_6_6:Oper:={ dst:=some 6,op:=.assign (.tmp 29),type:=3,pos:= "keeps.go:28",after:=#[{ on:=5,ground:=.data },{ on:=5,ground:=.chain },{ on:=0,ground:=.phase },{ on:=1,ground:=.phase },{ on:=2,ground:=.phase },{ on:=3,ground:=.phase },{ on:=4,ground:=.phase },{ on:=5,ground:=.phase }],guard:=none }
def x6_6:Array Oper:=#[o6_6_0,o6_6_1,o6_6_2,o6_6_3,o6_6_4,o6_6_5,o6_6_6]
def o6_7_0:Oper:={ dst:=some 30,op:=.move (.tmp 0),type:=22,pos:= "keeps.go:29",after:=#[],guard:=none }
def o6_7_1:Oper:={ dst:=some 31,op:=.move (.tmp 4),type:=3,pos:= "keeps.go:29",after:=#[],guard:=none }
def o6_7_2:Oper:={ dst:=some 32,op:=.indexAddr 22 (.tmp 30) (.tmp 31),type:=0,pos:= "keeps.go:29",after:=#[{ on:=0,ground:=.data },{ on:=1,ground:=.data }],guard:=none }
def o6_7_3:Oper:={ dst:=some 33,op:=.fieldAddr 53 (.tmp 32) 2,type:=0,pos:= "keeps.go:29",after:=#[{ on:=2,ground:=.data }],guard:=none }
def o6_7_4:Oper:={ dst:=some 34,op:=.load 3 (.tmp 33),type:=3,pos:= "keeps.go:29",after:=#[{ on:=3,ground:=.data }],guard:=none }
def o6_7_5:Oper:={ dst:=some 35,op:=.call { callee:=.value (.func 8),args:=#[.tmp 34,.const (.int .i64 4)],argTypes:=#[3,3] },type:=3,pos:= "keeps.go:29",after:=#[{ on:=4,ground:=.data }],guard:=none }
def o6_7_6:Oper:={ dst:=some 7,op:=.assign (.tmp 35),type:=3,pos:= "keeps.go:29",after:=#[{ on:=5,ground:=.data },{ on:=5,ground:=.chain },{ on:=0,ground:=.phase },{ on:=1,ground:=.phase },{ on:=2,ground:=.phase },{ on:=3,ground:=.phase },{ on:=4,ground:=.phase },{ on:=5,ground:=.phase }],guard:=none }
def x6_7:Array Oper:=#[o6_7_0,o6_7_1,o6_7_2,o6_7_3,o6_7_4,o6_7_5,o6_7_6]
def o6_8_0:Oper:={ dst:=some 36,op:=.move (.tmp 3),type:=23,pos:= "keeps.go:30",after:=#[],guard:=none }
def o6_8_1:Oper:={ dst:=some 37,op:=.move (.tmp 5),type:=3,pos:= "keeps.go:30",after:=#[],guard:=none }
def o6_8_2:Oper:={ dst:=some 38,op:=.move (.tmp 6),type:=3,pos:= "keeps.go:30",after:=#[],guard:=none }
def o6_8_3:Oper:={ dst:=some 39,op:=.move (.tmp 7),type:=3,pos:= "keeps.go:30",after:=#[],guard:=none }
def o6_8_4:Oper:={ dst:=some 40,op:=.buildSlice 33 3 #[(0,.tmp 37),(1,.tmp 38),(2,.tmp 39)],type:=33,pos:= "keeps.go:30",after:=#[{ on:=1,ground:=.data },{ on:=2,ground:=.data },{ on:=3,ground:=.data }],guard:=none }
def o6_8_5:Oper:={ dst:=some 41,op:=.move (.tmp 0),type:=22,pos:= "keeps.go:30",after:=#[],guard:=none }
def o6_8_6:Oper:={ dst:=some 42,op:=.move (.tmp 4),type:=3,pos:= "keeps.go:30",after:=#[],guard:=none }
def o6_8_7:Oper:={ dst:=some 43,op:=.indexAddr 22 (.tmp 41) (.tmp 42),type:=0,pos:= "keeps.go:30",after:=#[{ on:=5,ground:=.data },{ on:=6,ground:=.data }],guard:=none }
def o6_8_8:Oper:={ dst:=some 44,op:=.fieldAddr 53 (.tmp 43) 3,type:=0,pos:= "keeps.go:30",after:=#[{ on:=7,ground:=.data }],guard:=none }
def o6_8_9:Oper:={ dst:=some 45,op:=.load 3 (.tmp 44),type:=3,pos:= "keeps.go:30",after:=#[{ on:=8,ground:=.data }],guard:=none }
def o6_8_10:Oper:={ dst:=some 46,op:=.move (.tmp 0),type:=22,pos:= "keeps.go:30",after:=#[],guard:=none }
def o6_8_11:Oper:={ dst:=some 47,op:=.move (.tmp 4),type:=3,pos:= "keeps.go:30",after:=#[],guard:=none }
def o6_8_12:Oper:={ dst:=some 48,op:=.indexAddr 22 (.tmp 46) (.tmp 47),type:=0,pos:= "keeps.go:30",after:=#[{ on:=10,ground:=.data },{ on:=11,ground:=.data }],guard:=none }
def o6_8_13:Oper:={ dst:=some 49,op:=.fieldAddr 53 (.tmp 48) 4,type:=0,pos:= "keeps.go:30",after:=#[{ on:=12,ground:=.data }],guard:=none }
def o6_8_14:Oper:={ dst:=some 50,op:=.load 3 (.tmp 49),type:=3,pos:= "keeps.go:30",after:=#[{ on:=13,ground:=.data }],guard:=none }
def o6_8_15:Oper:={ dst:=some 51,op:=.build 47 #[(0,.tmp 40),(1,.tmp 45),(2,.tmp 50)],type:=47,pos:= "keeps.go:30",after:=#[{ on:=4,ground:=.data },{ on:=9,ground:=.data },{ on:=14,ground:=.data }],guard:=none }
def o6_8_16:Oper:={ dst:=some 52,op:=.buildSlice 23 1 #[(0,.tmp 51)],type:=23,pos:= "keeps.go:30",after:=#[{ on:=15,ground:=.data }],guard:=none }
def o6_8_17:Oper:={ dst:=some 53,op:=.call { callee:=.builtin .append,args:=#[.tmp 36,.tmp 52],argTypes:=#[23,23] },type:=23,pos:= "keeps.go:30",after:=#[{ on:=0,ground:=.data },{ on:=16,ground:=.data }],guard:=none }
def o6_8_18:Oper:={ dst:=some 3,op:=.assign (.tmp 53),type:=23,pos:= "keeps.go:30",after:=#[{ on:=17,ground:=.data },{ on:=17,ground:=.chain },{ on:=0,ground:=.phase },{ on:=1,ground:=.phase },{ on:=2,ground:=.phase },{ on:=3,ground:=.phase },{ on:=4,ground:=.phase },{ on:=5,ground:=.phase },{ on:=6,ground:=.phase },{ on:=7,ground:=.phase },{ on:=8,ground:=.phase },{ on:=9,ground:=.phase },{ on:=10,ground:=.phase },{ on:=11,ground:=.phase },{ on:=12,ground:=.phase },{ on:=13,ground:=.phase },{ on:=14,ground:=.phase },{ on:=15,ground:=.phase },{ on:=16,ground:=.phase },{ on:=17,ground:=.phase }],guard:=none }
def x6_8:Array Oper:=#[o6_8_0,o6_8_1,o6_8_2,o6_8_3,o6_8_4,o6_8_5,o6_8_6,o6_8_7,o6_8_8,o6_8_9,o6_8_10,o6_8_11,o6_8_12,o6_8_13,o6_8_14,o6_8_15,o6_8_16,o6_8_17,o6_8_18]
def o6_9_0:Oper:={ dst:=some 54,op:=.move (.tmp 3),type:=23,pos:= "keeps.go:32",after:=#[],guard:=none }
def o6_9_1:Oper:={ dst:=some 2,op:=.assign (.tmp 54),type:=23,pos:= "keeps.go:32",after:=#[{ on:=0,ground:=.data },{ on:=0,ground:=.phase }],guard:=none }
def x6_9:Array Oper:=#[o6_9_0,o6_9_1]
def loop6:Code:=.seq (.seq (.region 3 x6_3 false) (.cond (.tmp 15) .skip (.exit 0))) (.seq (.block 1 (.seq (.region 5 x6_5 false) (.seq (.region 6 x6_6 false) (.seq (.region 7 x6_7 false) (.region 8 x6_8 true))))) (.region 4 x6_4 false))
def b6:Code:=.seq (.region 0 x6_0 false) (.seq (.region 1 x6_1 false) (.seq (.seq (.region 2 x6_2 false) (.block 0 (.loop loop6))) (.seq (.region 9 x6_9 false) .ret)))
theorem body6:Tryz.f6.body=some b6:=by kernel_rfl
theorem has6:HasBody C0 6:=⟨Tryz.f6,by kernel_rfl,by kernel_rfl,by kernel_rfl⟩
theorem hl6_ne:C0.hl 6≠[]:=by
 show [0,9,18,20,21,24,26,27,30,32,33,41,43,44,46,48,49,1000]≠[]
 simp
theorem hl6 {i:Nat} (h:(C0.hl 6).contains i=true):i≠2∧i≠3∧i≠4∧i≠5∧i≠6∧i≠7∧i≠23∧i≠29∧i≠35∧i≠53:=by
 have h':i∈[0,9,18,20,21,24,26,27,30,32,33,41,43,44,46,48,49,1000]:=List.contains_iff_mem.1 h
 simp only [List.mem_cons,List.not_mem_nil,or_false] at h'
 omega
structure F6 (la:Option Addr) (n cap k:Nat) (v3:Value) (T:Array Value):Prop where
 sz:T.size=55
 s0:T[0]?=some (.slice la n cap)
 s2:T[2]?=some (.slice none 0 0)
 s3:T[3]?=some v3
 s4:T[4]?=some (.int .i64 k)
theorem F6.set {la:Option Addr} {n cap k:Nat} {v3:Value} {T:Array Value} (h:F6 la n cap k v3 T) {s:Nat} (hs:5≤s) (v:Value):F6 la n cap k v3 (T.setIfInBounds s v):=by
 obtain ⟨h1,h2,h3,h4,h5⟩:=h
 refine ⟨by simpa using h1,?_,?_,?_,?_⟩<;>rw [Array.getElem?_setIfInBounds_ne (by omega)]<;>assumption
section
variable {W E0 E:Nat→Prop} {w0 w:World} {T:Array Value} {la:Option Addr} {n cap k b o:Nat} {v3:Value} {x:Int} {kk:List Item} {cs:List Frame} {Post:(Nat→Prop)→Goroutine→World→Prop}
set_option maxHeartbeats 1000000 in
theorem fld5 (H:HS 6 W E0 w0 E T w) (F:F6 la n cap k v3 T) (hla:la=some ⟨b,o,none⟩) (hk:k<n) (hW:W b) (hT:∀ c z,w.heap[b]?≠some (.cells c wgT z)) (hc:w.cell? ⟨b,o+k*5,none⟩=some (.int .i64 x)) (hx:I64 x)
  (kn:∀ E' T' w',HS 6 W E0 w0 E' T' w'→F6 la n cap k v3 T'→T'[5]?=some (.int .i64 (pickZ x 4))→(∀ s,2≤s→s<8→s≠5→T'[s]?=T[s]?)→(∀ b,E b→E' b)→Reach Tryz.prog Post W (G ((base 6).at ⟨T',[]⟩ kk) cs) w') :
  Reach Tryz.prog Post W (G ((base 6).at ⟨T,[]⟩ (.code (.region 5 x6_5 false)::kk)) cs) w:=by
 subst hla
 have sz:=F.sz
 have s0:=F.s0
 have s4:=F.s4
 have hk':(k:Int)<n:=by omega
 have ct:∀ {d:Nat} {h:Array Obj} (z:World),z.heap=w.heap→z.cell? ⟨b,o+k*5,none⟩=some (.int .i64 x):=fun z hz=>(World.cell?_of_block (by rw [hz])).trans hc
 refine at_idle (fun w1=>stepG_region) rfl fun d1=>?_
 rw [show List.range x6_5.size=[0,1,2,3,4]++([5]++[6]) from rfl]
 have H:=H.at d1
 refine hs_pure (o:=o6_5_0) (v:=.slice (some ⟨b,o,none⟩) n cap) H rfl rfl rfl (fun w1=>by simp [execOp,go_sem,o6_5_0,s0];try rfl) (fun w1=>by simp [execOp,go_sem,o6_5_0,s0];try rfl) (.inl rfl) fun w1 H h1=>?_
 refine hs_pure (o:=o6_5_1) (v:=.int .i64 k) H rfl rfl rfl (fun w1=>by simp [execOp,go_sem,o6_5_1,s4];try rfl) (fun w1=>by simp [execOp,go_sem,o6_5_1,s4];try rfl) (.inr (.int _ _)) fun w2 H h2=>?_
 refine hs_pure (o:=o6_5_2) (v:=pt b (o+k*5)) H rfl rfl rfl (fun w1=>by simp [execOp,go_sem,o6_5_2,sz,hk'];try rfl) (fun w1=>by simp [execOp,go_sem,o6_5_2,sz,hk'];try rfl) (.inl rfl) fun w3 H h3=>?_
 refine hs_pure (o:=o6_5_3) (v:=pt b (o+k*5)) H rfl rfl rfl (fun w1=>by simp [execOp,go_sem,o6_5_3,sz];try rfl) (fun w1=>by simp [execOp,go_sem,o6_5_3,sz];try rfl) (.inl rfl) fun w4 H h4=>?_
 have e4:w4.heap=w.heap:=h4.trans (h3.trans (h2.trans h1))
 refine hs_peek (o:=o6_5_4) (v:=.int .i64 x) (a:=⟨b,o+k*5,none⟩) H hW (by rw [e4];exact hT) (ct (d:=0) (h:=#[]) w4 e4) rfl rfl rfl (fun w1 hc1=>by simp [execOp,go_sem,o6_5_4,sz,hc1];try rfl) (fun w1 hc1=>by simp [execOp,go_sem,o6_5_4,sz,hc1];try rfl) (.inr (.int _ _)) fun w5 H h5 h5'=>?_
 have pa:=pick_calls (n:=4) hx (by omega) (by omega)
 refine hs_ops (pre:=[5]) (rest:=[6]) (Q:=fun T2 w2=>T2=(((((T.setIfInBounds 18 (.slice (some ⟨b,o,none⟩) n cap)).setIfInBounds 19 (.int .i64 k)).setIfInBounds 20 (pt b (o+k*5))).setIfInBounds 21 (pt b (o+k*5))).setIfInBounds 22 (.int .i64 x)).setIfInBounds 23 (.int .i64 (pickZ x 4))∧w2.heap=w5.heap) H (by kernel_rfl) (by simp) has6 rfl hl6_ne (fun τ=>?_) fun E6 T6 w6' w6 hs6 hB6 hW6 ht6 ⟨q1,q2⟩ hw6=>?_
 ·rw [wpOps_cons]
  refine dag_call (o:=o6_5_5) (w':=w5.tp τ 0) (i:=5) (f:=8) (args:=#[.int .i64 x,.int .i64 4]) rfl rfl (by simp [execOp,go_sem,o6_5_5,sz];try rfl) (pa _) ?_
  rintro e w2 ⟨rfl,rfl⟩
  refine ⟨_,rfl,?_⟩
  simp only [wpOps,Act.put,o6_5_5]
  refine ⟨trivial,trivial,fun i hi hi2=>?_,trivial,rfl⟩
  have:=hl6 hi
  exact Array.getElem?_setIfInBounds_ne (by omega)
 subst q1
 have H:=(H.to hB6 hs6 ((KE.of_eq (fun b _=>by rw [q2])).trans ((lax_heap rfl hW6).mono hs6)) hw6 (by rw [hW6.lsz rfl,q2];exact Nat.le_refl _)).put ht6
 refine hs_pure (o:=o6_5_6) (v:=.int .i64 (pickZ x 4)) H rfl rfl rfl (fun w1=>by simp [execOp,go_sem,o6_5_6,sz];try rfl) (fun w1=>by simp [execOp,go_sem,o6_5_6,sz];try rfl) (.inr (.int _ _)) fun w7 H h7=>?_
 refine at_idle (fun w1=>stepG_region_end) rfl fun d2=>?_
 refine kn _ _ _ (H.at d2) (((((((F.set (by omega) _).set (by omega) _).set (by omega) _).set (by omega) _).set (by omega) _).set (by omega) _).set (by omega) _) (by simp [sz]) (fun s h2 h8 hq=>?_) hs6
 simp only [Array.getElem?_setIfInBounds]
 repeat rw [if_neg (by omega)]
set_option maxHeartbeats 1000000 in
theorem fld6 (H:HS 6 W E0 w0 E T w) (F:F6 la n cap k v3 T) (hla:la=some ⟨b,o,none⟩) (hk:k<n) (hW:W b) (hT:∀ c z,w.heap[b]?≠some (.cells c wgT z)) (hc:w.cell? ⟨b,o+k*5+1,none⟩=some (.int .i64 x)) (hx:I64 x)
  (kn:∀ E' T' w',HS 6 W E0 w0 E' T' w'→F6 la n cap k v3 T'→T'[6]?=some (.int .i64 (pickZ x 4))→(∀ s,2≤s→s<8→s≠6→T'[s]?=T[s]?)→(∀ b,E b→E' b)→Reach Tryz.prog Post W (G ((base 6).at ⟨T',[]⟩ kk) cs) w') :
  Reach Tryz.prog Post W (G ((base 6).at ⟨T,[]⟩ (.code (.region 6 x6_6 false)::kk)) cs) w:=by
 subst hla
 have sz:=F.sz
 have s0:=F.s0
 have s4:=F.s4
 have hk':(k:Int)<n:=by omega
 have ct:∀ {d:Nat} {h:Array Obj} (z:World),z.heap=w.heap→z.cell? ⟨b,o+k*5+1,none⟩=some (.int .i64 x):=fun z hz=>(World.cell?_of_block (by rw [hz])).trans hc
 refine at_idle (fun w1=>stepG_region) rfl fun d1=>?_
 rw [show List.range x6_6.size=[0,1,2,3,4]++([5]++[6]) from rfl]
 have H:=H.at d1
 refine hs_pure (o:=o6_6_0) (v:=.slice (some ⟨b,o,none⟩) n cap) H rfl rfl rfl (fun w1=>by simp [execOp,go_sem,o6_6_0,s0];try rfl) (fun w1=>by simp [execOp,go_sem,o6_6_0,s0];try rfl) (.inl rfl) fun w1 H h1=>?_
 refine hs_pure (o:=o6_6_1) (v:=.int .i64 k) H rfl rfl rfl (fun w1=>by simp [execOp,go_sem,o6_6_1,s4];try rfl) (fun w1=>by simp [execOp,go_sem,o6_6_1,s4];try rfl) (.inr (.int _ _)) fun w2 H h2=>?_
 refine hs_pure (o:=o6_6_2) (v:=pt b (o+k*5)) H rfl rfl rfl (fun w1=>by simp [execOp,go_sem,o6_6_2,sz,hk'];try rfl) (fun w1=>by simp [execOp,go_sem,o6_6_2,sz,hk'];try rfl) (.inl rfl) fun w3 H h3=>?_
 refine hs_pure (o:=o6_6_3) (v:=pt b (o+k*5+1)) H rfl rfl rfl (fun w1=>by simp [execOp,go_sem,o6_6_3,sz];try rfl) (fun w1=>by simp [execOp,go_sem,o6_6_3,sz];try rfl) (.inl rfl) fun w4 H h4=>?_
 have e4:w4.heap=w.heap:=h4.trans (h3.trans (h2.trans h1))
 refine hs_peek (o:=o6_6_4) (v:=.int .i64 x) (a:=⟨b,o+k*5+1,none⟩) H hW (by rw [e4];exact hT) (ct (d:=0) (h:=#[]) w4 e4) rfl rfl rfl (fun w1 hc1=>by simp [execOp,go_sem,o6_6_4,sz,hc1];try rfl) (fun w1 hc1=>by simp [execOp,go_sem,o6_6_4,sz,hc1];try rfl) (.inr (.int _ _)) fun w5 H h5 h5'=>?_
 have pa:=pick_calls (n:=4) hx (by omega) (by omega)
 refine hs_ops (pre:=[5]) (rest:=[6]) (Q:=fun T2 w2=>T2=(((((T.setIfInBounds 24 (.slice (some ⟨b,o,none⟩) n cap)).setIfInBounds 25 (.int .i64 k)).setIfInBounds 26 (pt b (o+k*5))).setIfInBounds 27 (pt b (o+k*5+1))).setIfInBounds 28 (.int .i64 x)).setIfInBounds 29 (.int .i64 (pickZ x 4))∧w2.heap=w5.heap) H (by kernel_rfl) (by simp) has6 rfl hl6_ne (fun τ=>?_) fun E6 T6 w6' w6 hs6 hB6 hW6 ht6 ⟨q1,q2⟩ hw6=>?_
 ·rw [wpOps_cons]
  refine dag_call (o:=o6_6_5) (w':=w5.tp τ 0) (i:=5) (f:=8) (args:=#[.int .i64 x,.int .i64 4]) rfl rfl (by simp [execOp,go_sem,o6_6_5,sz];try rfl) (pa _) ?_
  rintro e w2 ⟨rfl,rfl⟩
  refine ⟨_,rfl,?_⟩
  simp only [wpOps,Act.put,o6_6_5]
  refine ⟨trivial,trivial,fun i hi hi2=>?_,trivial,rfl⟩
  have:=hl6 hi
  exact Array.getElem?_setIfInBounds_ne (by omega)
 subst q1
 have H:=(H.to hB6 hs6 ((KE.of_eq (fun b _=>by rw [q2])).trans ((lax_heap rfl hW6).mono hs6)) hw6 (by rw [hW6.lsz rfl,q2];exact Nat.le_refl _)).put ht6
 refine hs_pure (o:=o6_6_6) (v:=.int .i64 (pickZ x 4)) H rfl rfl rfl (fun w1=>by simp [execOp,go_sem,o6_6_6,sz];try rfl) (fun w1=>by simp [execOp,go_sem,o6_6_6,sz];try rfl) (.inr (.int _ _)) fun w7 H h7=>?_
 refine at_idle (fun w1=>stepG_region_end) rfl fun d2=>?_
 refine kn _ _ _ (H.at d2) (((((((F.set (by omega) _).set (by omega) _).set (by omega) _).set (by omega) _).set (by omega) _).set (by omega) _).set (by omega) _) (by simp [sz]) (fun s h2 h8 hq=>?_) hs6
 simp only [Array.getElem?_setIfInBounds]
 repeat rw [if_neg (by omega)]
set_option maxHeartbeats 1000000 in
theorem fld7 (H:HS 6 W E0 w0 E T w) (F:F6 la n cap k v3 T) (hla:la=some ⟨b,o,none⟩) (hk:k<n) (hW:W b) (hT:∀ c z,w.heap[b]?≠some (.cells c wgT z)) (hc:w.cell? ⟨b,o+k*5+2,none⟩=some (.int .i64 x)) (hx:I64 x)
  (kn:∀ E' T' w',HS 6 W E0 w0 E' T' w'→F6 la n cap k v3 T'→T'[7]?=some (.int .i64 (pickZ x 4))→(∀ s,2≤s→s<8→s≠7→T'[s]?=T[s]?)→(∀ b,E b→E' b)→Reach Tryz.prog Post W (G ((base 6).at ⟨T',[]⟩ kk) cs) w') :
  Reach Tryz.prog Post W (G ((base 6).at ⟨T,[]⟩ (.code (.region 7 x6_7 false)::kk)) cs) w:=by
 subst hla
 have sz:=F.sz
 have s0:=F.s0
 have s4:=F.s4
 have hk':(k:Int)<n:=by omega
 have ct:∀ {d:Nat} {h:Array Obj} (z:World),z.heap=w.heap→z.cell? ⟨b,o+k*5+2,none⟩=some (.int .i64 x):=fun z hz=>(World.cell?_of_block (by rw [hz])).trans hc
 refine at_idle (fun w1=>stepG_region) rfl fun d1=>?_
 rw [show List.range x6_7.size=[0,1,2,3,4]++([5]++[6]) from rfl]
 have H:=H.at d1
 refine hs_pure (o:=o6_7_0) (v:=.slice (some ⟨b,o,none⟩) n cap) H rfl rfl rfl (fun w1=>by simp [execOp,go_sem,o6_7_0,s0];try rfl) (fun w1=>by simp [execOp,go_sem,o6_7_0,s0];try rfl) (.inl rfl) fun w1 H h1=>?_
 refine hs_pure (o:=o6_7_1) (v:=.int .i64 k) H rfl rfl rfl (fun w1=>by simp [execOp,go_sem,o6_7_1,s4];try rfl) (fun w1=>by simp [execOp,go_sem,o6_7_1,s4];try rfl) (.inr (.int _ _)) fun w2 H h2=>?_
 refine hs_pure (o:=o6_7_2) (v:=pt b (o+k*5)) H rfl rfl rfl (fun w1=>by simp [execOp,go_sem,o6_7_2,sz,hk'];try rfl) (fun w1=>by simp [execOp,go_sem,o6_7_2,sz,hk'];try rfl) (.inl rfl) fun w3 H h3=>?_
 refine hs_pure (o:=o6_7_3) (v:=pt b (o+k*5+2)) H rfl rfl rfl (fun w1=>by simp [execOp,go_sem,o6_7_3,sz];try rfl) (fun w1=>by simp [execOp,go_sem,o6_7_3,sz];try rfl) (.inl rfl) fun w4 H h4=>?_
 have e4:w4.heap=w.heap:=h4.trans (h3.trans (h2.trans h1))
 refine hs_peek (o:=o6_7_4) (v:=.int .i64 x) (a:=⟨b,o+k*5+2,none⟩) H hW (by rw [e4];exact hT) (ct (d:=0) (h:=#[]) w4 e4) rfl rfl rfl (fun w1 hc1=>by simp [execOp,go_sem,o6_7_4,sz,hc1];try rfl) (fun w1 hc1=>by simp [execOp,go_sem,o6_7_4,sz,hc1];try rfl) (.inr (.int _ _)) fun w5 H h5 h5'=>?_
 have pa:=pick_calls (n:=4) hx (by omega) (by omega)
 refine hs_ops (pre:=[5]) (rest:=[6]) (Q:=fun T2 w2=>T2=(((((T.setIfInBounds 30 (.slice (some ⟨b,o,none⟩) n cap)).setIfInBounds 31 (.int .i64 k)).setIfInBounds 32 (pt b (o+k*5))).setIfInBounds 33 (pt b (o+k*5+2))).setIfInBounds 34 (.int .i64 x)).setIfInBounds 35 (.int .i64 (pickZ x 4))∧w2.heap=w5.heap) H (by kernel_rfl) (by simp) has6 rfl hl6_ne (fun τ=>?_) fun E6 T6 w6' w6 hs6 hB6 hW6 ht6 ⟨q1,q2⟩ hw6=>?_
 ·rw [wpOps_cons]
  refine dag_call (o:=o6_7_5) (w':=w5.tp τ 0) (i:=5) (f:=8) (args:=#[.int .i64 x,.int .i64 4]) rfl rfl (by simp [execOp,go_sem,o6_7_5,sz];try rfl) (pa _) ?_
  rintro e w2 ⟨rfl,rfl⟩
  refine ⟨_,rfl,?_⟩
  simp only [wpOps,Act.put,o6_7_5]
  refine ⟨trivial,trivial,fun i hi hi2=>?_,trivial,rfl⟩
  have:=hl6 hi
  exact Array.getElem?_setIfInBounds_ne (by omega)
 subst q1
 have H:=(H.to hB6 hs6 ((KE.of_eq (fun b _=>by rw [q2])).trans ((lax_heap rfl hW6).mono hs6)) hw6 (by rw [hW6.lsz rfl,q2];exact Nat.le_refl _)).put ht6
 refine hs_pure (o:=o6_7_6) (v:=.int .i64 (pickZ x 4)) H rfl rfl rfl (fun w1=>by simp [execOp,go_sem,o6_7_6,sz];try rfl) (fun w1=>by simp [execOp,go_sem,o6_7_6,sz];try rfl) (.inr (.int _ _)) fun w7 H h7=>?_
 refine at_idle (fun w1=>stepG_region_end) rfl fun d2=>?_
 refine kn _ _ _ (H.at d2) (((((((F.set (by omega) _).set (by omega) _).set (by omega) _).set (by omega) _).set (by omega) _).set (by omega) _).set (by omega) _) (by simp [sz]) (fun s h2 h8 hq=>?_) hs6
 simp only [Array.getElem?_setIfInBounds]
 repeat rw [if_neg (by omega)]
end
inductive LieE (b0:Nat) (E:Nat→Prop) (w:World):List (Nat × Obj)→Prop
 | nil:LieE b0 E w []
 | cons {p:Nat × Obj} {H:List (Nat × Obj)} (h:b0≤p.1∧E p.1∧w.heap[p.1]?=some p.2) (t:LieE b0 E w H):LieE b0 E w (p::H)
theorem LieE.hd {b0:Nat} {E:Nat→Prop} {w:World} {p:Nat × Obj} {H:List (Nat × Obj)} (h:LieE b0 E w (p::H)):b0≤p.1∧E p.1∧w.heap[p.1]?=some p.2:=by
 cases h;assumption
theorem LieE.tl {b0:Nat} {E:Nat→Prop} {w:World} {p:Nat × Obj} {H:List (Nat × Obj)} (h:LieE b0 E w (p::H)):LieE b0 E w H:=by
 cases h;assumption
theorem LieE.up {b0:Nat} {E E':Nat→Prop} {w w':World} {H:List (Nat × Obj)} (h:LieE b0 E w H) (hs:∀ b,E b→E' b) (hh:∀ b,E b→w'.heap[b]?=w.heap[b]?):LieE b0 E' w' H:=by
 induction h with
 | nil=>exact .nil
 | cons h _ ih=>exact .cons ⟨h.1,hs _ h.2.1,(hh _ h.2.1).trans h.2.2⟩ ih
def FJ (b0:Nat) (vv:Value) (b o n cap k:Nat) (f:FactD) (A B C:Int) (E:Nat→Prop) (w:World) (i:Nat) (v:Value):Prop:=∃ H,facPhi vv b o n cap k f A B C i v H∧LieE b0 E w H
theorem FJ.up {b0:Nat} {vv:Value} {b o n cap k:Nat} {f:FactD} {A B C:Int} {E E':Nat→Prop} {w w':World} {i:Nat} {v:Value} (h:FJ b0 vv b o n cap k f A B C E w i v) (hs:∀ b,E b→E' b) (hh:∀ b,E b→w'.heap[b]?=w.heap[b]?):FJ b0 vv b o n cap k f A B C E' w' i v:=by
 obtain ⟨H,h1,h2⟩:=h
 exact ⟨H,h1,h2.up hs hh⟩
theorem dag8:dagOk .any x6_8 17 (fun i=>i+36)=true:=by kernel_rfl
theorem fact_vr {E:Nat→Prop} {kb:Nat} {x y:Int} (h:E kb):VR C0 (idE E) (.agg #[.slice (some ⟨kb,0,none⟩) 3 3,.int .i64 x,.int .i64 y]) (.agg #[.slice (some ⟨kb,0,none⟩) 3 3,.int .i64 x,.int .i64 y]):=by
 refine .agg rfl fun i x x' h1 h2=>?_
 rw [h1] at h2;cases h2
 match i with
 | 0=>cases h1;exact .slice _ _ _ _ ⟨rfl,h⟩
 | 1=>cases h1;exact .int _ _
 | 2=>cases h1;exact .int _ _
 | i+3=>simp at h1
section
variable {W E0 E:Nat→Prop} {w0 w:World} {T:Array Value} {n cap k b o:Nat} {v3:Value} {f:FactD} {A B C:Int} {kk:List Item} {cs:List Frame} {Post:(Nat→Prop)→Goroutine→World→Prop}
set_option maxRecDepth 100000 in
set_option maxHeartbeats 4000000 in
theorem draw8 (hk:(k:Int)<n) (hW:W b) (hT:∀ c z,w0.heap[b]?≠some (.cells c wgT z)) (hc3:w0.cell? ⟨b,o+k*5+3,none⟩=some (.int .i64 f.it)) (hc4:w0.cell? ⟨b,o+k*5+4,none⟩=some (.int .i64 f.v))
  (kn:∀ E T w,HS 6 W E0 w0 E T w→F6 (some ⟨b,o,none⟩) n cap k v3 T→(∀ i,i<17→∃ v,T[i+36]?=some v∧FJ w0.heap.size v3 b o n cap k f A B C E w i v)→Reach Tryz.prog Post W (G ((base 6).at ⟨T,[]⟩ (.inRegion x6_8 [17,18]::kk)) cs) w) :
  ∀ (listed:Array Bool) (pre:List Nat),Wk x6_8 17 listed pre→∀ E T w,listed.size=19→HS 6 W E0 w0 E T w→F6 (some ⟨b,o,none⟩) n cap k v3 T→T[5]?=some (.int .i64 A)→T[6]?=some (.int .i64 B)→T[7]?=some (.int .i64 C) →
   (∀ i,i<17→listed[i]?=some true→∃ v,T[i+36]?=some v∧FJ w0.heap.size v3 b o n cap k f A B C E w i v)→Reach Tryz.prog Post W (G ((base 6).at ⟨T,[]⟩ (.inRegion x6_8 (pre++[17,18])::kk)) cs) w:=by
 intro listed pre hwk
 induction hwk with
 | done h=>exact fun E T w hls H F s5 s6 s7 hJ=>kn E T w H F fun i hi=>hJ i hi (h i hi)
 | @step listed i pre hi hr _ ih=>
  intro E T w hls H F s5 s6 s7 hJ
  obtain ⟨hin,hf,o2x,ho,hafter⟩:=ready_at hr
  obtain ⟨o2,ho2,hg,hdd,hon,_⟩:=(dag_at dag8).2.1 i hi
  obtain rfl:o2=o2x:=by rw [ho] at ho2;exact (Option.some.inj ho2).symm
  have sz:=F.sz
  have s0:=F.s0
  have s3:=F.s3
  have s4:=F.s4
  have hv3:VR C0 (idE E) v3 v3:=H.tm.slot (i:=3) rfl s3
  have hd:∀ j,(o2.after.toList.any fun e=>e.on == j && Region.binds .any e)=true→∃ v,T[j+36]?=some v∧FJ w0.heap.size v3 b o n cap k f A B C E w j v:=fun j hj=>by
   obtain ⟨e,he,h⟩:=List.any_eq_true.1 hj
   rw [Bool.and_eq_true,beq_iff_eq] at h
   obtain ⟨rfl,hb⟩:=h
   exact hJ _ (by have:=hon e (Array.mem_toList_iff.1 he);omega) (hafter e (Array.mem_toList_iff.1 he) hb)
  have ih':∀ E' v w',HS 6 W E0 w0 E' (T.setIfInBounds (i+36) v) w'→(∀ b,E b→E' b)→(∀ b,E b→w'.heap[b]?=w.heap[b]?)→FJ w0.heap.size v3 b o n cap k f A B C E' w' i v→Reach Tryz.prog Post W (G ((base 6).at ⟨T.setIfInBounds (i+36) v,[]⟩ (.inRegion x6_8 (pre++[17,18])::kk)) cs) w':=fun E' v w' H' hs hh hv=>by
   refine ih E' _ w' (by simpa using hls) H' (F.set (by omega) v) ?_ ?_ ?_ fun j hj hl=>?_
   ·rw [Array.getElem?_setIfInBounds_ne (by omega)];exact s5
   ·rw [Array.getElem?_setIfInBounds_ne (by omega)];exact s6
   ·rw [Array.getElem?_setIfInBounds_ne (by omega)];exact s7
   ·by_cases e:j=i
    ·subst e
     exact ⟨v,by rw [Array.getElem?_setIfInBounds_self_of_lt (by omega)],hv⟩
    ·rw [Array.getElem?_setIfInBounds_ne (Ne.symm e)] at hl
     obtain ⟨x,h1,h2⟩:=hJ j hj hl
     exact ⟨x,by rw [Array.getElem?_setIfInBounds_ne (by omega)];exact h1,h2.up hs hh⟩
  have next_pure:∀ v,(∀ w1,(execOp (Act.eval ⟨T,[]⟩) o2).run Tryz.prog w1=.ok (.value v) w1)→(∀ w1,(execOp (Act.eval ⟨T,[]⟩) o2).events Tryz.prog w1 #[]=#[])→((C0.hl 6).contains (i+36)=true∨VR C0 (idE E) v v)→FJ w0.heap.size v3 b o n cap k f A B C E w i v →
    Reach Tryz.prog Post W (G ((base 6).at ⟨T,[]⟩ (.inRegion x6_8 (i::(pre++[17,18]))::kk)) cs) w:=fun v hr he hv hj=>by
   exact hs_pure H ho (by simp [Region.wanted,hg]) hdd hr he hv fun w' H' hh=>ih' E v w' H' (fun b hb=>hb) (fun b _=>by rw [hh]) (hj.up (fun b hb=>hb) fun b _=>by rw [hh])
  show Reach Tryz.prog Post W (G ((base 6).at ⟨T,[]⟩ (.inRegion x6_8 (i::(pre++[17,18]))::kk)) cs) w
  revert ho hd next_pure ih'
  clear hf hr hin ih hafter ho2 hon hg hdd
  match i,hi with
  | 0,_=>
   intro ho hd ih' next_pure
   obtain rfl:o2=o6_8_0:=(Option.some.inj ho).symm
   exact next_pure v3 (fun w1=>by simp [execOp,go_sem,o6_8_0,s3];try rfl) (fun w1=>by simp [execOp,go_sem,o6_8_0,s3];try rfl) (.inr hv3) ⟨[],⟨rfl,rfl⟩,.nil⟩
  | 1,_=>
   intro ho hd ih' next_pure
   obtain rfl:o2=o6_8_1:=(Option.some.inj ho).symm
   exact next_pure (.int .i64 A) (fun w1=>by simp [execOp,go_sem,o6_8_1,s5];try rfl) (fun w1=>by simp [execOp,go_sem,o6_8_1,s5];try rfl) (.inr (.int _ _)) ⟨[],⟨rfl,rfl⟩,.nil⟩
  | 2,_=>
   intro ho hd ih' next_pure
   obtain rfl:o2=o6_8_2:=(Option.some.inj ho).symm
   exact next_pure (.int .i64 B) (fun w1=>by simp [execOp,go_sem,o6_8_2,s6];try rfl) (fun w1=>by simp [execOp,go_sem,o6_8_2,s6];try rfl) (.inr (.int _ _)) ⟨[],⟨rfl,rfl⟩,.nil⟩
  | 3,_=>
   intro ho hd ih' next_pure
   obtain rfl:o2=o6_8_3:=(Option.some.inj ho).symm
   exact next_pure (.int .i64 C) (fun w1=>by simp [execOp,go_sem,o6_8_3,s7];try rfl) (fun w1=>by simp [execOp,go_sem,o6_8_3,s7];try rfl) (.inr (.int _ _)) ⟨[],⟨rfl,rfl⟩,.nil⟩
  | 4,_=>
   intro ho hd ih' next_pure
   obtain rfl:=(Option.some.inj ho).symm
   obtain ⟨_,e1,H1,⟨rfl,rfl⟩,l1⟩:=hd 1 rfl
   obtain ⟨_,e2,H2,⟨rfl,rfl⟩,l2⟩:=hd 2 rfl
   obtain ⟨_,e3,H3,⟨rfl,rfl⟩,l3⟩:=hd 3 rfl
   refine hs_alloc (o:=o6_8_4) (v:=.slice (some ⟨w.heap.size,0,none⟩) 3 3) (arr:=#[.int .i64 A,.int .i64 B,.int .i64 C]) (ty:=3) H rfl rfl rfl (fun w1 hz=>by simp [execOp,go_sem,o6_8_4,e1,e2,e3,hz];try rfl) (fun w1=>by simp [execOp,go_sem,o6_8_4,e1,e2,e3];try rfl) (fun x hx=>?_) (.inr (.slice _ _ _ _ ⟨rfl,.inr rfl⟩)) fun w' H' hk hb hz=>?_
   ·simp only [List.mem_cons,List.not_mem_nil,or_false] at hx
    rcases hx with rfl|rfl|rfl<;>exact .int _ _
   ·exact ih' _ _ _ H' (fun b hb=>.inl hb) (fun b hb=>hk b (.inl hb)) ⟨_,⟨_,rfl,rfl⟩,.cons ⟨H.sz,.inr rfl,hb⟩ .nil⟩
  | 5,_=>
   intro ho hd ih' next_pure
   obtain rfl:o2=o6_8_5:=(Option.some.inj ho).symm
   exact next_pure (.slice (some ⟨b,o,none⟩) n cap) (fun w1=>by simp [execOp,go_sem,o6_8_5,s0];try rfl) (fun w1=>by simp [execOp,go_sem,o6_8_5,s0];try rfl) (.inl rfl) ⟨[],⟨rfl,rfl⟩,.nil⟩
  | 10,_=>
   intro ho hd ih' next_pure
   obtain rfl:o2=o6_8_10:=(Option.some.inj ho).symm
   exact next_pure (.slice (some ⟨b,o,none⟩) n cap) (fun w1=>by simp [execOp,go_sem,o6_8_10,s0];try rfl) (fun w1=>by simp [execOp,go_sem,o6_8_10,s0];try rfl) (.inl rfl) ⟨[],⟨rfl,rfl⟩,.nil⟩
  | 6,_=>
   intro ho hd ih' next_pure
   obtain rfl:o2=o6_8_6:=(Option.some.inj ho).symm
   exact next_pure (.int .i64 k) (fun w1=>by simp [execOp,go_sem,o6_8_6,s4];try rfl) (fun w1=>by simp [execOp,go_sem,o6_8_6,s4];try rfl) (.inr (.int _ _)) ⟨[],⟨rfl,rfl⟩,.nil⟩
  | 11,_=>
   intro ho hd ih' next_pure
   obtain rfl:o2=o6_8_11:=(Option.some.inj ho).symm
   exact next_pure (.int .i64 k) (fun w1=>by simp [execOp,go_sem,o6_8_11,s4];try rfl) (fun w1=>by simp [execOp,go_sem,o6_8_11,s4];try rfl) (.inr (.int _ _)) ⟨[],⟨rfl,rfl⟩,.nil⟩
  | 7,_=>
   intro ho hd ih' next_pure
   obtain rfl:o2=o6_8_7:=(Option.some.inj ho).symm
   obtain ⟨_,e5,H5,⟨rfl,rfl⟩,l5⟩:=hd 5 rfl
   obtain ⟨_,e6,H6,⟨rfl,rfl⟩,l6⟩:=hd 6 rfl
   exact next_pure (pt b (o+k*5)) (fun w1=>by simp [execOp,go_sem,o6_8_7,e5,e6,hk];try rfl) (fun w1=>by simp [execOp,go_sem,o6_8_7,e5,e6,hk];try rfl) (.inl rfl) ⟨[],⟨rfl,rfl⟩,.nil⟩
  | 8,_=>
   intro ho hd ih' next_pure
   obtain rfl:o2=o6_8_8:=(Option.some.inj ho).symm
   obtain ⟨_,e7,H7,⟨rfl,rfl⟩,l7⟩:=hd 7 rfl
   exact next_pure (pt b (o+k*5+3)) (fun w1=>by simp [execOp,go_sem,o6_8_8,e7];try rfl) (fun w1=>by simp [execOp,go_sem,o6_8_8,e7];try rfl) (.inl rfl) ⟨[],⟨rfl,rfl⟩,.nil⟩
  | 12,_=>
   intro ho hd ih' next_pure
   obtain rfl:o2=o6_8_12:=(Option.some.inj ho).symm
   obtain ⟨_,e5,H5,⟨rfl,rfl⟩,l5⟩:=hd 10 rfl
   obtain ⟨_,e6,H6,⟨rfl,rfl⟩,l6⟩:=hd 11 rfl
   exact next_pure (pt b (o+k*5)) (fun w1=>by simp [execOp,go_sem,o6_8_12,e5,e6,hk];try rfl) (fun w1=>by simp [execOp,go_sem,o6_8_12,e5,e6,hk];try rfl) (.inl rfl) ⟨[],⟨rfl,rfl⟩,.nil⟩
  | 13,_=>
   intro ho hd ih' next_pure
   obtain rfl:o2=o6_8_13:=(Option.some.inj ho).symm
   obtain ⟨_,e7,H7,⟨rfl,rfl⟩,l7⟩:=hd 12 rfl
   exact next_pure (pt b (o+k*5+4)) (fun w1=>by simp [execOp,go_sem,o6_8_13,e7];try rfl) (fun w1=>by simp [execOp,go_sem,o6_8_13,e7];try rfl) (.inl rfl) ⟨[],⟨rfl,rfl⟩,.nil⟩
  | 9,_=>
   intro ho hd ih' next_pure
   obtain rfl:o2=o6_8_9:=(Option.some.inj ho).symm
   obtain ⟨_,e8,H8,⟨rfl,rfl⟩,l8⟩:=hd 8 rfl
   refine hs_peek (o:=o6_8_9) (v:=.int .i64 f.it) (a:=⟨b,o+k*5+3,none⟩) H hW (fun c z=>by rw [H.kw b hW];exact hT c z) ((World.cell?_of_block (H.kw b hW)).trans hc3) rfl rfl rfl (fun w1 hc1=>by simp [execOp,go_sem,o6_8_9,e8,hc1];try rfl) (fun w1 hc1=>by simp [execOp,go_sem,o6_8_9,e8,hc1];try rfl) (.inr (.int _ _)) fun w' H' hk hz=>?_
   exact ih' _ _ _ H' (fun b hb=>hb) (fun b hb=>hk b (.inl hb)) ⟨[],⟨rfl,rfl⟩,.nil⟩
  | 14,_=>
   intro ho hd ih' next_pure
   obtain rfl:o2=o6_8_14:=(Option.some.inj ho).symm
   obtain ⟨_,e8,H8,⟨rfl,rfl⟩,l8⟩:=hd 13 rfl
   refine hs_peek (o:=o6_8_14) (v:=.int .i64 f.v) (a:=⟨b,o+k*5+4,none⟩) H hW (fun c z=>by rw [H.kw b hW];exact hT c z) ((World.cell?_of_block (H.kw b hW)).trans hc4) rfl rfl rfl (fun w1 hc1=>by simp [execOp,go_sem,o6_8_14,e8,hc1];try rfl) (fun w1 hc1=>by simp [execOp,go_sem,o6_8_14,e8,hc1];try rfl) (.inr (.int _ _)) fun w' H' hk hz=>?_
   exact ih' _ _ _ H' (fun b hb=>hb) (fun b hb=>hk b (.inl hb)) ⟨[],⟨rfl,rfl⟩,.nil⟩
  | 15,_=>
   intro ho hd ih' next_pure
   obtain rfl:o2=o6_8_15:=(Option.some.inj ho).symm
   obtain ⟨_,e4,H4,⟨kb,rfl,rfl⟩,l4⟩:=hd 4 rfl
   obtain ⟨_,e9,H9,⟨rfl,rfl⟩,l9⟩:=hd 9 rfl
   obtain ⟨_,e14,H14,⟨rfl,rfl⟩,l14⟩:=hd 14 rfl
   exact next_pure (.agg #[.slice (some ⟨kb,0,none⟩) 3 3,.int .i64 f.it,.int .i64 f.v]) (fun w1=>by simp [execOp,go_sem,o6_8_15,e4,e9,e14];try rfl) (fun w1=>by simp [execOp,go_sem,o6_8_15,e4,e9,e14];try rfl) (.inr (fact_vr l4.hd.2.1)) ⟨_,⟨_,rfl,rfl⟩,l4⟩
  | 16,_=>
   intro ho hd ih' next_pure
   obtain rfl:o2=o6_8_16:=(Option.some.inj ho).symm
   obtain ⟨_,e15,H15,⟨kb,rfl,rfl⟩,l15⟩:=hd 15 rfl
   refine hs_alloc (o:=o6_8_16) (v:=.slice (some ⟨w.heap.size,0,none⟩) 1 1) (arr:=#[.slice (some ⟨kb,0,none⟩) 3 3,.int .i64 f.it,.int .i64 f.v]) (ty:=47) H rfl rfl rfl (fun w1 hz=>by simp [execOp,go_sem,o6_8_16,e15,hz];try rfl) (fun w1=>by simp [execOp,go_sem,o6_8_16,e15];try rfl) (fun x hx=>?_) (.inr (.slice _ _ _ _ ⟨rfl,.inr rfl⟩)) fun w' H' hk hb hz=>?_
   ·simp only [List.mem_cons,List.not_mem_nil,or_false] at hx
    rcases hx with rfl|rfl|rfl
    ·exact .slice _ _ _ _ ⟨rfl,l15.hd.2.1⟩
    ·exact .int _ _
    ·exact .int _ _
   ·exact ih' _ _ _ H' (fun b hb=>.inl hb) (fun b hb=>hk b (.inl hb)) ⟨_,⟨_,_,rfl,rfl⟩,.cons ⟨H.sz,.inr rfl,hb⟩ (l15.up (fun b hb=>.inl hb) fun b hb=>hk b (.inl hb))⟩
  | i+17,h=>exact absurd h (by omega)
end
end Go.Sim.Z
