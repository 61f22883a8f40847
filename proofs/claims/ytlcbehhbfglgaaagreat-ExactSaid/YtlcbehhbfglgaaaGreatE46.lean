/- PROVED HERE: laws that the statement rests on (parts Rd, Re). Conditions: none. -/
import Derived.Test.YtlcbehhbfglgaaaGreatE42
import Derived.Test.YtlcbehhbfglgaaaGreatE45
set_option linter.all false
namespace Go.Sim.Z
open Go Go.Proofs Go.RowKit Go.Conc Go.Maps
section
variable {W E0 E:Nat→Prop} {w0 w:World} {T:Array Value} {la:Option Addr} {n cap k:Nat} {v3:Value} {kk:List Item} {cs:List Frame} {Post:(Nat→Prop)→Goroutine→World→Prop}
set_option maxHeartbeats 1000000 in
theorem test6a (H:HS 6 W E0 w0 E T w) (F:F6 la n cap k v3 T) (hkn:(k:Int)<n) (hk2:(k:Int)<200)
  (kn:∀ T' w',HS 6 W E0 w0 E T' w'→F6 la n cap k v3 T'→T'[15]?=some (.bool true)→w'.heap=w.heap→Reach Tryz.prog Post W (G ((base 6).at ⟨T',[]⟩ kk) cs) w') :
  Reach Tryz.prog Post W (G ((base 6).at ⟨T,[]⟩ (.code (.region 3 x6_3 false)::kk)) cs) w:=by
 have sz:=F.sz
 have s0:=F.s0
 have s4:=F.s4
 refine at_idle (fun w1=>stepG_region) rfl fun d1=>?_
 rw [show List.range x6_3.size=[0,1,2,3,4,5,6,7] from rfl]
 have H:=H.at d1
 refine hs_pure (o:=o6_3_0) (v:=.int .i64 k) H rfl rfl rfl (fun w1=>by simp [execOp,go_sem,o6_3_0,s4];try rfl) (fun w1=>by simp [execOp,go_sem,o6_3_0,s4];try rfl) (.inr (.int _ _)) fun w0 H h0=>?_
 refine hs_pure (o:=o6_3_1) (v:=.slice la n cap) H rfl rfl rfl (fun w1=>by simp [execOp,go_sem,o6_3_1,s0];try rfl) (fun w1=>by simp [execOp,go_sem,o6_3_1,s0];try rfl) (.inl rfl) fun w1 H h1=>?_
 refine hs_pure (o:=o6_3_2) (v:=.int .i64 n) H rfl rfl rfl (fun w1=>by simp [execOp,go_sem,o6_3_2,sz];try rfl) (fun w1=>by simp [execOp,go_sem,o6_3_2,sz];try rfl) (.inr (.int _ _)) fun w2 H h2=>?_
 refine hs_pure (o:=o6_3_3) (v:=.bool true) H rfl rfl rfl (fun w1=>by simp [execOp,go_sem,o6_3_3,sz,hkn];try rfl) (fun w1=>by simp [execOp,go_sem,o6_3_3,sz,hkn];try rfl) (.inr (.bool _)) fun w3 H h3=>?_
 refine hs_pure (o:=o6_3_4) (v:=.bool true) H rfl rfl rfl (fun w1=>by simp [execOp,go_sem,o6_3_4,sz];try rfl) (fun w1=>by simp [execOp,go_sem,o6_3_4,sz];try rfl) (.inr (.bool _)) fun w4 H h4=>?_
 refine hs_pure (o:=o6_3_5) (v:=.int .i64 k) H rfl (by simp [Region.wanted,yielded,o6_3_5,x6_3,o6_3_4,sz]) rfl (fun w1=>by simp [execOp,go_sem,o6_3_5,s4];try rfl) (fun w1=>by simp [execOp,go_sem,o6_3_5,s4];try rfl) (.inr (.int _ _)) fun w5 H h5=>?_
 refine hs_pure (o:=o6_3_6) (v:=.bool true) H rfl (by simp [Region.wanted,yielded,o6_3_6,x6_3,o6_3_4,sz]) rfl (fun w1=>by simp [execOp,go_sem,o6_3_6,sz,hk2];try rfl) (fun w1=>by simp [execOp,go_sem,o6_3_6,sz,hk2];try rfl) (.inr (.bool _)) fun w6 H h6=>?_
 refine hs_pure (o:=o6_3_7) (v:=.bool true) H rfl rfl rfl (fun w1=>by simp [execOp,go_sem,o6_3_7,sz];try rfl) (fun w1=>by simp [execOp,go_sem,o6_3_7,sz];try rfl) (.inr (.bool _)) fun w7 H h7=>?_
 refine at_idle (fun w1=>stepG_region_end) rfl fun d2=>?_
 exact kn _ _ (H.at d2) ((((((((F.set (by omega) _).set (by omega) _).set (by omega) _).set (by omega) _).set (by omega) _).set (by omega) _).set (by omega) _).set (by omega) _) (by simp [sz]) (h7.trans (h6.trans (h5.trans (h4.trans (h3.trans (h2.trans (h1.trans (h0.trans rfl))))))))
set_option maxHeartbeats 1000000 in
theorem test6b (H:HS 6 W E0 w0 E T w) (F:F6 la n cap k v3 T) (hkn:(k:Int)<n) (hk2:¬ (k:Int)<200)
  (kn:∀ T' w',HS 6 W E0 w0 E T' w'→F6 la n cap k v3 T'→T'[15]?=some (.bool false)→w'.heap=w.heap→Reach Tryz.prog Post W (G ((base 6).at ⟨T',[]⟩ kk) cs) w') :
  Reach Tryz.prog Post W (G ((base 6).at ⟨T,[]⟩ (.code (.region 3 x6_3 false)::kk)) cs) w:=by
 have sz:=F.sz
 have s0:=F.s0
 have s4:=F.s4
 refine at_idle (fun w1=>stepG_region) rfl fun d1=>?_
 rw [show List.range x6_3.size=[0,1,2,3,4,5,6,7] from rfl]
 have H:=H.at d1
 refine hs_pure (o:=o6_3_0) (v:=.int .i64 k) H rfl rfl rfl (fun w1=>by simp [execOp,go_sem,o6_3_0,s4];try rfl) (fun w1=>by simp [execOp,go_sem,o6_3_0,s4];try rfl) (.inr (.int _ _)) fun w0 H h0=>?_
 refine hs_pure (o:=o6_3_1) (v:=.slice la n cap) H rfl rfl rfl (fun w1=>by simp [execOp,go_sem,o6_3_1,s0];try rfl) (fun w1=>by simp [execOp,go_sem,o6_3_1,s0];try rfl) (.inl rfl) fun w1 H h1=>?_
 refine hs_pure (o:=o6_3_2) (v:=.int .i64 n) H rfl rfl rfl (fun w1=>by simp [execOp,go_sem,o6_3_2,sz];try rfl) (fun w1=>by simp [execOp,go_sem,o6_3_2,sz];try rfl) (.inr (.int _ _)) fun w2 H h2=>?_
 refine hs_pure (o:=o6_3_3) (v:=.bool true) H rfl rfl rfl (fun w1=>by simp [execOp,go_sem,o6_3_3,sz,hkn];try rfl) (fun w1=>by simp [execOp,go_sem,o6_3_3,sz,hkn];try rfl) (.inr (.bool _)) fun w3 H h3=>?_
 refine hs_pure (o:=o6_3_4) (v:=.bool true) H rfl rfl rfl (fun w1=>by simp [execOp,go_sem,o6_3_4,sz];try rfl) (fun w1=>by simp [execOp,go_sem,o6_3_4,sz];try rfl) (.inr (.bool _)) fun w4 H h4=>?_
 refine hs_pure (o:=o6_3_5) (v:=.int .i64 k) H rfl (by simp [Region.wanted,yielded,o6_3_5,x6_3,o6_3_4,sz]) rfl (fun w1=>by simp [execOp,go_sem,o6_3_5,s4];try rfl) (fun w1=>by simp [execOp,go_sem,o6_3_5,s4];try rfl) (.inr (.int _ _)) fun w5 H h5=>?_
 refine hs_pure (o:=o6_3_6) (v:=.bool false) H rfl (by simp [Region.wanted,yielded,o6_3_6,x6_3,o6_3_4,sz]) rfl (fun w1=>by simp [execOp,go_sem,o6_3_6,sz,hk2];try rfl) (fun w1=>by simp [execOp,go_sem,o6_3_6,sz,hk2];try rfl) (.inr (.bool _)) fun w6 H h6=>?_
 refine hs_pure (o:=o6_3_7) (v:=.bool false) H rfl rfl rfl (fun w1=>by simp [execOp,go_sem,o6_3_7,sz];try rfl) (fun w1=>by simp [execOp,go_sem,o6_3_7,sz];try rfl) (.inr (.bool _)) fun w7 H h7=>?_
 refine at_idle (fun w1=>stepG_region_end) rfl fun d2=>?_
 exact kn _ _ (H.at d2) ((((((((F.set (by omega) _).set (by omega) _).set (by omega) _).set (by omega) _).set (by omega) _).set (by omega) _).set (by omega) _).set (by omega) _) (by simp [sz]) (h7.trans (h6.trans (h5.trans (h4.trans (h3.trans (h2.trans (h1.trans (h0.trans rfl))))))))
set_option maxHeartbeats 1000000 in
theorem test6c (H:HS 6 W E0 w0 E T w) (F:F6 la n cap k v3 T) (hkn:¬ (k:Int)<n)
  (kn:∀ T' w',HS 6 W E0 w0 E T' w'→F6 la n cap k v3 T'→T'[15]?=some (.bool false)→w'.heap=w.heap→Reach Tryz.prog Post W (G ((base 6).at ⟨T',[]⟩ kk) cs) w') :
  Reach Tryz.prog Post W (G ((base 6).at ⟨T,[]⟩ (.code (.region 3 x6_3 false)::kk)) cs) w:=by
 have sz:=F.sz
 have s0:=F.s0
 have s4:=F.s4
 refine at_idle (fun w1=>stepG_region) rfl fun d1=>?_
 rw [show List.range x6_3.size=[0,1,2,3,4,5,6,7] from rfl]
 have H:=H.at d1
 refine hs_pure (o:=o6_3_0) (v:=.int .i64 k) H rfl rfl rfl (fun w1=>by simp [execOp,go_sem,o6_3_0,s4];try rfl) (fun w1=>by simp [execOp,go_sem,o6_3_0,s4];try rfl) (.inr (.int _ _)) fun w0 H h0=>?_
 refine hs_pure (o:=o6_3_1) (v:=.slice la n cap) H rfl rfl rfl (fun w1=>by simp [execOp,go_sem,o6_3_1,s0];try rfl) (fun w1=>by simp [execOp,go_sem,o6_3_1,s0];try rfl) (.inl rfl) fun w1 H h1=>?_
 refine hs_pure (o:=o6_3_2) (v:=.int .i64 n) H rfl rfl rfl (fun w1=>by simp [execOp,go_sem,o6_3_2,sz];try rfl) (fun w1=>by simp [execOp,go_sem,o6_3_2,sz];try rfl) (.inr (.int _ _)) fun w2 H h2=>?_
 refine hs_pure (o:=o6_3_3) (v:=.bool false) H rfl rfl rfl (fun w1=>by simp [execOp,go_sem,o6_3_3,sz,hkn];try rfl) (fun w1=>by simp [execOp,go_sem,o6_3_3,sz,hkn];try rfl) (.inr (.bool _)) fun w3 H h3=>?_
 refine hs_pure (o:=o6_3_4) (v:=.bool false) H rfl rfl rfl (fun w1=>by simp [execOp,go_sem,o6_3_4,sz];try rfl) (fun w1=>by simp [execOp,go_sem,o6_3_4,sz];try rfl) (.inr (.bool _)) fun w4 H h4=>?_
 refine hs_skip (o:=o6_3_5) H rfl (by simp [Region.wanted,yielded,o6_3_5,x6_3,o6_3_4,sz]) rfl fun w5 H h5=>?_
 refine hs_skip (o:=o6_3_6) H rfl (by simp [Region.wanted,yielded,o6_3_6,x6_3,o6_3_4,sz]) rfl fun w6 H h6=>?_
 refine hs_pure (o:=o6_3_7) (v:=.bool false) H rfl rfl rfl (fun w1=>by simp [execOp,go_sem,o6_3_7,sz];try rfl) (fun w1=>by simp [execOp,go_sem,o6_3_7,sz];try rfl) (.inr (.bool _)) fun w7 H h7=>?_
 refine at_idle (fun w1=>stepG_region_end) rfl fun d2=>?_
 exact kn _ _ (H.at d2) ((((((((F.set (by omega) _).set (by omega) _).set (by omega) _).set (by omega) _).set (by omega) _).set (by omega) _).set (by omega) _).set (by omega) _) (by simp [sz]) (h7.trans (h6.trans (h5.trans (h4.trans (h3.trans (h2.trans (h1.trans (h0.trans rfl))))))))
theorem inc6 (H:HS 6 W E0 w0 E T w) (F:F6 la n cap k v3 T) (hk:k<1000)
  (kn:∀ T' w',HS 6 W E0 w0 E T' w'→F6 la n cap (k+1) v3 T'→w'.heap=w.heap→Reach Tryz.prog Post W (G ((base 6).at ⟨T',[]⟩ kk) cs) w') :
  Reach Tryz.prog Post W (G ((base 6).at ⟨T,[]⟩ (.code (.region 4 x6_4 false)::kk)) cs) w:=by
 have sz:=F.sz
 have s4:=F.s4
 have hw:IntKind.i64.wrap ((k:Int)+1)=((k+1:Nat):Int):=by
  simp [IntKind.wrap,IntKind.signed,IntKind.bits]
  omega
 refine at_idle (fun w1=>stepG_region) rfl fun d1=>?_
 rw [show List.range x6_4.size=[0,1,2] from rfl]
 have H:=H.at d1
 refine hs_pure (o:=o6_4_0) (v:=.int .i64 k) H rfl rfl rfl (fun w1=>by simp [execOp,go_sem,o6_4_0,s4];try rfl) (fun w1=>by simp [execOp,go_sem,o6_4_0,s4];try rfl) (.inr (.int _ _)) fun w2 H h0=>?_
 refine hs_pure (o:=o6_4_1) (v:=.int .i64 (k+1:Nat)) H rfl rfl rfl (fun w1=>by simp [execOp,go_sem,o6_4_1,sz,hw];try rfl) (fun w1=>by simp [execOp,go_sem,o6_4_1,sz];try rfl) (.inr (.int _ _)) fun w3 H h1=>?_
 refine hs_pure (o:=o6_4_2) (v:=.int .i64 (k+1:Nat)) H rfl rfl rfl (fun w1=>by simp [execOp,go_sem,o6_4_2,sz];try rfl) (fun w1=>by simp [execOp,go_sem,o6_4_2,sz];try rfl) (.inr (.int _ _)) fun w4 H h2=>?_
 refine at_idle (fun w1=>stepG_region_end) rfl fun d2=>?_
 obtain ⟨f1,f2,f3,f4,f5⟩:=F
 refine kn _ _ (H.at d2) ⟨by simpa using f1,?_,?_,?_,by simp [sz]⟩ (h2.trans (h1.trans h0))<;>(repeat rw [Array.getElem?_setIfInBounds_ne (by omega)])<;>assumption
theorem FsOwn.keE {base:Nat} {v:Value} {L:List (FactD × Nat)} {w':World} (h:FsOwn w base v L) (k:KE E w w') (hv:VR C0 (idE E) v v) (hE:∀ p∈L,E p.2):FsOwn w' base v L:=by
 refine ⟨⟨h.own.1,?_⟩,fun p hp=>⟨(h.rows p hp).1,(by obtain ⟨cur,h1,h2⟩:=(h.rows p hp).2.1;exact ⟨cur,k.blk (hE p hp) h1,h2⟩),(h.rows p hp).2.2⟩⟩
 rcases h.own.2 with hn|⟨g,cap,cur,rfl,hb,hg,rest⟩
 ·exact .inl hn
 ·exact .inr ⟨g,cap,cur,rfl,hb,k _ _ hv.sliceE hg trivial,rest⟩
theorem HS.to0 {fn:FuncId} {E':Nat→Prop} {w':World} (h:HS fn W E0 w0 E T w) (hB:BOk C0 S0 W E' w') (hs:∀ b,E b→E' b) (he:KE E0 w w') (hw:∀ b,W b→w'.heap[b]?=w.heap[b]?) (hz:w.heap.size≤w'.heap.size) {T':Array Value} (ht:TmR C0 S0 fn (idE E') T' T'):HS fn W E0 w0 E' T' w':=
 ⟨hB,fun b hb=>hs b (h.le b hb),h.ke.trans he,fun b hb=>(hw b hb).trans (h.kw b hb),ht,h.own,Nat.le_trans h.sz hz⟩
set_option maxRecDepth 100000 in
set_option maxHeartbeats 2000000 in
theorem reach_row {b o base:Nat} {f:FactD} {A B C:Int} {L:List (FactD × Nat)} (H:HS 6 W E0 w0 E T w) (F:F6 (some ⟨b,o,none⟩) n cap k v3 T) (s5:T[5]?=some (.int .i64 A)) (s6:T[6]?=some (.int .i64 B)) (s7:T[7]?=some (.int .i64 C)) (hk:(k:Int)<n) (hW:W b) (hT:∀ c z,w.heap[b]?≠some (.cells c wgT z)) (hc3:w.cell? ⟨b,o+k*5+3,none⟩=some (.int .i64 f.it)) (hc4:w.cell? ⟨b,o+k*5+4,none⟩=some (.int .i64 f.v))
  (hL:FsOwn w base v3 L) (hLE:∀ p∈L,E p.2) (hbs:base≤w0.heap.size) (hE0:∀ b,E0 b→b<base) (hn:L.length≤1000) (hf:f.k=[A,B,C])
  (kn:∀ E' T' w' v' kb,HS 6 W E0 w0 E' T' w'→F6 (some ⟨b,o,none⟩) n cap k v' T'→FsOwn w' base v' (L++[(f,kb)])→(∀ p∈L++[(f,kb)],E' p.2)→Reach Tryz.prog Post W (G ((Go.Conc.base 6).at ⟨T',[]⟩ kk) cs) w') :
  Reach Tryz.prog Post W (G ((Go.Conc.base 6).at ⟨T,[]⟩ (.code (.region 8 x6_8 true)::kk)) cs) w:=by
 refine Reach.mid (Mid:=fun g' w'=>∃ n0,g'=G ((Go.Conc.base 6).at ⟨T,[]⟩ (.inRegion x6_8 (Region.schedule (C0.P.follows .mixedOrders) x6_8 n0)::kk)) cs∧BOk C0 S0 W E w'∧w'.heap.size=w.heap.size∧∀ b,E b→w'.heap[b]?=w.heap[b]?) (Reach.draw (C:=C0) rfl H.bok fun n0 w' h1 h2 h3=>Reach.here ⟨rfl,n0,rfl,h1,h2,h3⟩) fun g' w1 ⟨n0,e,h1,h2,h3⟩ hK=>?_
 subst e
 rw [show C0.P.follows .mixedOrders=true from mixed]
 obtain ⟨pre,hpre,_,_,hwk⟩:=sched_wk Tryz.prog dag8 n0
 rw [hpre,show List.range' 17 (x6_8.size-17)=[17,18] from rfl]
 have Hs:HS 6 W E w E T w1:=H.start.to h1 (fun _ h=>h) (.of_eq h3) hK (by omega)
 refine draw8 (f:=f) (A:=A) (B:=B) (C:=C) hk hW hT hc3 hc4 (fun E2 T2 w2 H2 F2 hJ=>?_) (Array.replicate x6_8.size false) pre hwk E T w1 rfl Hs F s5 s6 s7 fun i hi hl=>by
  rw [Array.getElem?_replicate] at hl
  split at hl<;>cases hl
 have hL2:FsOwn w2 base v3 L:=hL.keE H2.ke (H.tm.slot (i:=3) rfl F.s3) hLE
 obtain ⟨v0,f0,H0,⟨_,e0⟩,l0⟩:=hJ 0 (by omega)
 rw [e0] at f0
 obtain ⟨_,f16,H16,⟨sb,kb,rfl,rfl⟩,l16⟩:=hJ 16 (by omega)
 have b1:=l16.hd
 have b2:=l16.tl.hd
 simp only at b1 b2
 have sz2:=F2.sz
 have hz2:=H2.sz
 have hz:=H.sz
 have hrow:Row false w2 kb 3 .i64 f.k 3:=by
  rw [hf]
  refine ⟨_,⟨(0,0),b2.2.2,fun _=>rfl⟩,rfl,by show 3≤3;omega,fun i hi=>?_,?_⟩
  ·match i,hi with
   | 0,_=>rfl
   | 1,_=>rfl
   | 2,_=>rfl
   | i+3,hi=>exact absurd (show i+3<3 from hi) (by omega)
  ·exact fun v hv=>by
    simp only [List.mem_cons,List.not_mem_nil,or_false] at hv
    rcases hv with rfl|rfl|rfl<;>exact ⟨_,_,rfl⟩
 have Hc:=H.comp H2
 refine hs_ops (pre:=[17]) (rest:=[18]) (Q:=fun T3 w3=>∃ v',T3=T2.setIfInBounds 53 v'∧FsOwn w3 base v' (L++[(f,kb)])∧w2.heap.size≤w3.heap.size∧∀ b,b<base→w3.heap[b]?=w2.heap[b]?) Hc (by kernel_rfl) (by simp) has6 rfl hl6_ne (fun τ=>?_) fun E3 T3 w3' w3 hs3 hB3 hW3 ht3 ⟨v',q1,q2,q3,q4⟩ hw3=>?_
 ·rw [wpOps_cons]
  obtain ⟨v',w',r1,r2,r3,r4⟩:=(hL2.kept (w':=w2.tp τ 0) fun _ _=>rfl).push (f:=f) (kb:=kb) (sb:=sb) (by show base≤w2.heap.size;omega) hn (by rw [hf];rfl) (by omega) (hrow.kept rfl) b1.2.2 23
  refine dag_append rfl rfl rfl f0 f16 r1 ?_
  refine ⟨rfl,rfl,fun i hi hi2=>?_,v',rfl,r2,r3.size,fun b hb=>r3.block b (by show b<w2.heap.size;omega) fun e=>?_⟩
  ·have:=hl6 hi
   exact Array.getElem?_setIfInBounds_ne (by omega)
  ·have:=r4 b e.symm;omega
 subst q1
 have vE3:VR C0 (idE E3) v' v':=ht3.slot (i:=53) rfl (by rw [Array.getElem?_setIfInBounds_self_of_lt (by omega)])
 have l3:=lax_heap rfl hW3
 have Hd:=Hc.to0 hB3 hs3 ((KE.of_eq (fun b hb=>q4 b (hE0 b hb))).trans (l3.mono fun b hb=>hs3 b (Hc.le b hb))) hw3 (by rw [hW3.lsz rfl];exact q3) ht3
 have hE3:∀ p∈L++[(f,kb)],E3 p.2:=fun p hp=>by
  rcases List.mem_append.1 hp with hp|hp
  ·exact hs3 _ (H2.le _ (hLE p hp))
  ·simp only [List.mem_cons,List.not_mem_nil,or_false] at hp
   subst hp
   exact hs3 _ b2.2.1
 have hLd:=q2.keE l3 vE3 hE3
 refine hs_pure (o:=o6_8_18) (v:=v') Hd rfl rfl rfl (fun w1=>by simp [execOp,go_sem,o6_8_18,sz2];try rfl) (fun w1=>by simp [execOp,go_sem,o6_8_18,sz2];try rfl) (.inr vE3) fun w4 H4 h4=>?_
 refine at_idle (fun w1=>stepG_region_end) rfl fun d2=>?_
 refine kn _ _ _ v' kb (H4.at d2) ?_ (hLd.kept (w':=w4.at d2) fun b _=>by show w4.heap[b]?=_;rw [h4]) hE3
 obtain ⟨f1,f2,f3,f4,f5⟩:=F2
 refine ⟨by simpa using f1,?_,?_,by simp [sz2],?_⟩<;>(repeat rw [Array.getElem?_setIfInBounds_ne (by omega)])<;>assumption
end
section
variable {W E0 E:Nat→Prop} {w0 w:World} {T:Array Value} {la:Option Addr} {rs:List RawD} {fs:List FactD} {n cap k:Nat} {v3:Value} {kk:List Item} {cs:List Frame} {Post:(Nat→Prop)→Goroutine→World→Prop}
theorem round6 {E:Nat→Prop} {w:World} {T:Array Value} (hR:RawAt w0 la rs) (hn:rs.length=n) (hW:∀ a,la=some a→W a.block) (hT:∀ a,la=some a→∀ c z,w0.heap[a.block]?≠some (.cells c wgT z)) (hE0:∀ b,E0 b→b<w0.heap.size) {L:List (FactD × Nat)} (hk:k<n) (hk2:k<200) (H:HS 6 W E0 w0 E T w) (F:F6 la n cap k v3 T) (hL:FsOwn w w0.heap.size v3 L) (hLr:L.map (·.1)=(rs.take k).map RawD.fact) (hLE:∀ p∈L,E p.2)
  (kn:∀ E' T' w' v' L',HS 6 W E0 w0 E' T' w'→F6 la n cap (k+1) v' T'→FsOwn w' w0.heap.size v' L'→L'.map (·.1)=(rs.take (k+1)).map RawD.fact→(∀ p∈L',E' p.2)→Reach Tryz.prog Post W (G ((Go.Conc.base 6).at ⟨T',[]⟩ kk) cs) w') :
  Reach Tryz.prog Post W (G ((Go.Conc.base 6).at ⟨T,[]⟩ (.code (.seq (.block 1 (.seq (.region 5 x6_5 false) (.seq (.region 6 x6_6 false) (.seq (.region 7 x6_7 false) (.region 8 x6_8 true))))) (.region 4 x6_4 false))::kk)) cs) w:=by
 obtain ⟨r,hr⟩:∃ r,rs[k]?=some r:=⟨rs[k]'(by omega),List.getElem?_eq_getElem _⟩
 have hro:=hR.ok r (List.mem_of_getElem? hr)
 obtain ⟨b,o,hla,hb,q0,q1,q2,q3,q4⟩:=hR.at_ k r hr
 have hWb:=hW _ hla
 have hTb:=hT _ hla
 simp only at hWb hTb
 have up:∀ {w:World},(∀ b,W b→w.heap[b]?=w0.heap[b]?)→∀ {i v},w0.cell? ⟨b,i,none⟩=some v→w.cell? ⟨b,i,none⟩=some v:=fun h _ _ hc=>(World.cell?_of_block (h b hWb)).trans hc
 have upT:∀ {w:World},(∀ b,W b→w.heap[b]?=w0.heap[b]?)→∀ c z,w.heap[b]?≠some (.cells c wgT z):=fun h c z=>by rw [h b hWb];exact hTb c z
 refine at_idle (fun w1=>stepG_seq) rfl fun d1=>?_
 refine at_idle (fun w1=>stepG_block) rfl fun d2=>?_
 refine at_idle (fun w1=>stepG_seq) rfl fun d3=>?_
 have H1:=((H.at d1).at d2).at d3
 have hL1:FsOwn (((w.at d1).at d2).at d3) w0.heap.size v3 L:=hL.kept fun _ _=>rfl
 refine fld5 H1.start F hla hk hWb (upT H1.kw) (up H1.kw q0) hro.a fun E2 T2 w2 H2 F2 s5 z5 _=>?_
 have H2':=H1.comp H2
 have hL2:=hL1.keE H2.ke (H1.tm.slot (i:=3) rfl F.s3) hLE
 have hE2:∀ p∈L,E2 p.2:=fun p hp=>H2.le _ (hLE p hp)
 refine at_idle (fun w1=>stepG_seq) rfl fun d4=>?_
 have H2':=H2'.at d4
 have hL2:FsOwn (w2.at d4) w0.heap.size v3 L:=hL2.kept fun _ _=>rfl
 refine fld6 H2'.start F2 hla hk hWb (upT H2'.kw) (up H2'.kw q1) hro.b fun E3 T3 w3 H3 F3 s6 z6 _=>?_
 have H3':=H2'.comp H3
 have hL3:=hL2.keE H3.ke (H2'.tm.slot (i:=3) rfl F2.s3) hE2
 have hE3:∀ p∈L,E3 p.2:=fun p hp=>H3.le _ (hE2 p hp)
 refine at_idle (fun w1=>stepG_seq) rfl fun d5=>?_
 have H3':=H3'.at d5
 have hL3:FsOwn (w3.at d5) w0.heap.size v3 L:=hL3.kept fun _ _=>rfl
 refine fld7 H3'.start F3 hla hk hWb (upT H3'.kw) (up H3'.kw q2) hro.c fun E4 T4 w4 H4 F4 s7 z7 _=>?_
 have H4':=H3'.comp H4
 have hL4:=hL3.keE H4.ke (H3'.tm.slot (i:=3) rfl F3.s3) hE3
 have hE4:∀ p∈L,E4 p.2:=fun p hp=>H4.le _ (hE3 p hp)
 have t5:T4[5]?=some (.int .i64 (pickZ r.a 4)):=(z7 5 (by omega) (by omega) (by omega)).trans ((z6 5 (by omega) (by omega) (by omega)).trans s5)
 have t6:T4[6]?=some (.int .i64 (pickZ r.b 4)):=(z7 6 (by omega) (by omega) (by omega)).trans s6
 have hlen:L.length=k:=by
  have:=congrArg List.length hLr
  simp at this
  omega
 subst hla
 refine reach_row (f:=r.fact) H4' F4 t5 t6 s7 (by omega) hWb (upT H4'.kw) (up H4'.kw q3) (up H4'.kw q4) hL4 hE4 (Nat.le_refl _) hE0 (by omega) rfl fun E5 T5 w5 v' kb H5 F5 hL5 hE5=>?_
 refine at_idle (fun w1=>stepG_inBlock) rfl fun d6=>?_
 refine inc6 (H5.at d6) F5 (by omega) fun T6 w6 H6 F6 h6=>?_
 refine kn _ _ _ _ _ H6 F6 (hL5.kept fun b _=>by rw [h6];rfl) ?_ hE5
 rw [List.map_append,hLr,List.take_add_one,hr]
 simp
set_option maxHeartbeats 1000000 in
theorem loop6_reach (hR:RawAt w0 la rs) (hn:rs.length=n) (hW:∀ a,la=some a→W a.block) (hT:∀ a,la=some a→∀ c z,w0.heap[a.block]?≠some (.cells c wgT z)) (hE0:∀ b,E0 b→b<w0.heap.size)
  (kn:∀ E T w v3 L k,HS 6 W E0 w0 E T w→F6 la n cap k v3 T→FsOwn w w0.heap.size v3 L→L.map (·.1)=(rs.take 200).map RawD.fact→Reach Tryz.prog Post W (G ((Go.Conc.base 6).at ⟨T,[]⟩ kk) cs) w) :
  ∀ (d k:Nat) (E:Nat→Prop) (T:Array Value) (w:World) (v3:Value) (L:List (FactD × Nat)),min n 200-k=d→k≤min n 200→HS 6 W E0 w0 E T w→F6 la n cap k v3 T→FsOwn w w0.heap.size v3 L→L.map (·.1)=(rs.take k).map RawD.fact→(∀ p∈L,E p.2) →
   Reach Tryz.prog Post W (G ((Go.Conc.base 6).at ⟨T,[]⟩ (.code loop6::.inLoop loop6::.inBlock 0::kk)) cs) w:=by
 intro d
 induction d with
 | zero=>
  intro k E T w v3 L hd hk H F hL hLr hLE
  have fin:∀ T' w',HS 6 W E0 w0 E T' w'→F6 la n cap k v3 T'→T'[15]?=some (.bool false)→w'.heap=w.heap→Reach Tryz.prog Post W (G ((Go.Conc.base 6).at ⟨T',[]⟩ (.code (.cond (.tmp 15) .skip (.exit 0))::.code (.seq (.block 1 (.seq (.region 5 x6_5 false) (.seq (.region 6 x6_6 false) (.seq (.region 7 x6_7 false) (.region 8 x6_8 true))))) (.region 4 x6_4 false))::.inLoop loop6::.inBlock 0::kk)) cs) w':=fun T' w' H' F' s15 hh=>by
   refine at_idle (fun w1=>stepG_cond (t:=false) (by simp [Act.eval,Array.getD_eq_getD_getElem?,s15])) rfl fun d1=>?_
   refine at_idle (fun w1=>stepG_exit (k':=kk) rfl) rfl fun d2=>?_
   refine kn _ _ _ v3 L k ((H'.at d1).at d2) F' (hL.kept fun b _=>by show w'.heap[b]?=_;rw [hh]) ?_
   rw [hLr]
   have:rs.take k=rs.take 200:=by
    rcases Nat.lt_or_ge n 200 with h|h
    ·rw [List.take_of_length_le (by omega),List.take_of_length_le (by omega)]
    ·rw [show k=200 by omega]
   rw [this]
  refine at_idle (fun w1=>stepG_seq) rfl fun d1=>?_
  refine at_idle (fun w1=>stepG_seq) rfl fun d2=>?_
  rcases Nat.lt_or_ge k n with h|h
  ·exact test6b ((H.at d1).at d2) F (by omega) (by omega) fun T' w' a b c e=>fin T' w' a b c e
  ·exact test6c ((H.at d1).at d2) F (by omega) fun T' w' a b c e=>fin T' w' a b c e
 | succ d ih=>
  intro k E T w v3 L hd hk H F hL hLr hLE
  refine at_idle (fun w1=>stepG_seq) rfl fun d1=>?_
  refine at_idle (fun w1=>stepG_seq) rfl fun d2=>?_
  refine test6a ((H.at d1).at d2) F (by omega) (by omega) fun T' w' H' F' s15 hh=>?_
  refine at_idle (fun w1=>stepG_cond (t:=true) (by simp [Act.eval,Array.getD_eq_getD_getElem?,s15])) rfl fun d3=>?_
  refine at_idle (fun w1=>stepG_skip) rfl fun d4=>?_
  refine round6 hR hn hW hT hE0 (by omega) (by omega) ((H'.at d3).at d4) F' (hL.kept fun b _=>by show w'.heap[b]?=_;rw [hh];rfl) hLr hLE fun E2 T2 w2 v' L' H2 F2 hL2 hr2 hE2=>?_
  refine at_idle (fun w1=>stepG_inLoop) rfl fun d5=>?_
  exact ih (k+1) E2 T2 (w2.at d5) v' L' (by omega) (by omega) (H2.at d5) F2 (hL2.kept fun _ _=>rfl) hr2 hE2
end
section
variable {W E:Nat→Prop} {w:World} {la:Option Addr} {rs:List RawD} {fs:List FactD} {n cap:Nat} {b₀:Frame} {a₀:Act} {ops:Array Oper} {i:Nat} {rest:List Nat} {kk:List Item} {cs:List Frame} {Post:(Nat→Prop)→Goroutine→World→Prop}
set_option maxHeartbeats 1000000 in
theorem reach_facts (hB:BOk C0 S0 W E w) (hR:RawAt w la rs) (hn:rs.length=n) (hfs:fs=(rs.take 200).map RawD.fact) (hW:∀ a,la=some a→W a.block) (hT:∀ a,la=some a→∀ c z,w.heap[a.block]?≠some (.cells c wgT z))
  (kn:∀ E' w' ga c2 pl,(∀ b,E b→E' b)→BOk C0 S0 W E' w'→KE E w w'→FsAt false w' ga fs c2 pl→(∀ y∈pl,w.heap.size≤y)→VR C0 (idE E') (.slice ga fs.length c2) (.slice ga fs.length c2)→w.heap.size≤w'.heap.size→(∀ b,W b→w'.heap[b]?=w.heap[b]?) →
   Reach Tryz.prog Post W (G (b₀.at (a₀.put ((ops[i]?).bind (·.dst)) (.slice ga fs.length c2)) (.inRegion ops rest::kk)) cs) w') :
  Reach Tryz.prog Post W (G ((Go.Conc.base 6).at ⟨#[.slice la n cap]++Array.replicate 54 undef,[]⟩ [.code b6]) (b₀.at a₀ (.inRegion ops (i::rest)::kk)::cs)) w:=by
 obtain ⟨T0,hT0⟩:∃ T0,T0=#[.slice la n cap]++Array.replicate 54 undef:=⟨_,rfl⟩
 rw [← hT0]
 have sz:T0.size=55:=by rw [hT0];simp
 have s0:T0[0]?=some (.slice la n cap):=by rw [hT0];simp
 have sn:∀ j x,1≤j→T0[j]?=some x→x=undef:=fun j x h1 hx=>by
  rw [hT0,Array.getElem?_append_right (by simpa using h1),Array.getElem?_replicate] at hx
  split at hx
  ·exact (Option.some.inj hx).symm
  ·cases hx
 clear hT0
 have ht:TmR C0 S0 6 (idE E) T0 T0:=by
  refine ⟨rfl,fun j x x' hj h1 h2=>?_,fun j x hj _=>by cases hj⟩
  rw [h1] at h2;cases h2
  rcases Nat.eq_zero_or_pos j with rfl|h
  ·cases hj
  ·rw [sn j x h h1];exact .undef
 have H:HS 6 W E w E T0 w:=⟨hB,fun _ h=>h,.refl,fun _ _=>rfl,ht,rfl,Nat.le_refl _⟩
 refine at_idle (fun w1=>stepG_seq) rfl fun d1=>?_
 refine at_idle (fun w1=>stepG_region) rfl fun d2=>?_
 refine hs_pure (o:=o6_0_0) (v:=.slice none 0 0) ((H.at d1).at d2) rfl rfl rfl (fun w1=>by simp [execOp,go_sem,o6_0_0];try rfl) (fun w1=>by simp [execOp,go_sem,o6_0_0];try rfl) (.inr (.nilSlice _ _)) fun w1 H1 h1=>?_
 refine at_idle (fun w1=>stepG_region_end) rfl fun d3=>?_
 refine at_idle (fun w1=>stepG_seq) rfl fun d4=>?_
 refine at_idle (fun w1=>stepG_region) rfl fun d5=>?_
 refine hs_pure (o:=o6_1_0) (v:=.slice none 0 0) (((H1.at d3).at d4).at d5) rfl rfl rfl (fun w1=>by simp [execOp,go_sem,o6_1_0];try rfl) (fun w1=>by simp [execOp,go_sem,o6_1_0];try rfl) (.inr (.nilSlice _ _)) fun w2 H2 h2=>?_
 refine at_idle (fun w1=>stepG_region_end) rfl fun d6=>?_
 refine at_idle (fun w1=>stepG_seq) rfl fun d7=>?_
 refine at_idle (fun w1=>stepG_seq) rfl fun d8=>?_
 refine at_idle (fun w1=>stepG_region) rfl fun d9=>?_
 refine hs_pure (o:=o6_2_0) (v:=.int .i64 (0:Nat)) ((((H2.at d6).at d7).at d8).at d9) rfl rfl rfl (fun w1=>by simp [execOp,go_sem,o6_2_0];try rfl) (fun w1=>by simp [execOp,go_sem,o6_2_0];try rfl) (.inr (.int _ _)) fun w3 H3 h3=>?_
 refine at_idle (fun w1=>stepG_region_end) rfl fun d10=>?_
 refine at_idle (fun w1=>stepG_block) rfl fun d11=>?_
 refine at_idle (fun w1=>stepG_loop) rfl fun d12=>?_
 refine loop6_reach (cap:=cap) (Post:=Post) hR hn hW hT (fun b hb=>hB.lt hb) (fun E4 T4 w4 v3 L k H4 F4 hL4 hLr=>?_) _ 0 E _ _ (.slice none 0 0) [] rfl (by omega) (((H3.at d10).at d11).at d12) ⟨by simpa using sz,?_,?_,?_,?_⟩ (.nil _ _) rfl fun p hp=>by cases hp
 ·have sz4:=F4.sz
  have s3:=F4.s3
  have v3E:VR C0 (idE E4) v3 v3:=H4.tm.slot (i:=3) rfl s3
  refine at_idle (fun w1=>stepG_seq) rfl fun e1=>?_
  refine at_idle (fun w1=>stepG_region) rfl fun e2=>?_
  rw [show List.range x6_9.size=[0,1] from rfl]
  refine hs_pure (o:=o6_9_0) (v:=v3) ((H4.at e1).at e2) rfl rfl rfl (fun w1=>by simp [execOp,go_sem,o6_9_0,s3];try rfl) (fun w1=>by simp [execOp,go_sem,o6_9_0,s3];try rfl) (.inr v3E) fun w5 H5 h5=>?_
  refine hs_pure (o:=o6_9_1) (v:=v3) H5 rfl rfl rfl (fun w1=>by simp [execOp,go_sem,o6_9_1,sz4];try rfl) (fun w1=>by simp [execOp,go_sem,o6_9_1,sz4];try rfl) (.inr v3E) fun w6 H6 h6=>?_
  refine at_idle (fun w1=>stepG_region_end) rfl fun e3=>?_
  refine at_idle (fun w1=>stepG_ret') rfl fun e4=>?_
  refine Reach.leave1 (B:=Go.Conc.base 6) rfl rfl (fn:=Tryz.f6) (by kernel_rfl) (x:=2) (by kernel_rfl) fun e5=>?_
  have H7:=((H6.at e3).at e4).at e5
  have hL7:FsOwn (((w6.at e3).at e4).at e5) w.heap.size v3 L:=hL4.kept fun b _=>by show w6.heap[b]?=_;rw [h6,h5];rfl
  obtain ⟨ga,c2,pl,rfl,hfa,hpl⟩:=hL7.at
  have hlf:L.length=fs.length:=by rw [hfs,← hLr,List.length_map]
  rw [hLr,← hfs] at hfa
  rw [hlf] at v3E
  have e2:(Act.mk ((T4.setIfInBounds 54 (Value.slice ga fs.length c2)).setIfInBounds 2 (Value.slice ga fs.length c2)) []).tmps.getD 2 undef=.slice ga fs.length c2:=by simp [Array.getD_eq_getD_getElem?,sz4]
  rw [hlf,e2]
  exact kn E4 _ ga c2 pl H7.le H7.bok H7.ke hfa hpl v3E H7.sz H7.kw
 ·rw [Array.getElem?_setIfInBounds_ne (by omega),Array.getElem?_setIfInBounds_ne (by omega),Array.getElem?_setIfInBounds_ne (by omega)];exact s0
 ·simp [sz]
 ·simp [sz]
 ·simp [sz]
end
end Go.Sim.Z
