/- PROVED HERE: laws that the statement rests on (parts Qj, Rf). Conditions: none. -/
import Derived.Deep.Slices
import Derived.Conc.Holds
import Derived.Test.YtlcbehhbfglgaaaGreatE27
import Derived.Test.YtlcbehhbfglgaaaGreatE44
import Derived.Test.YtlcbehhbfglgaaaGreatE46
set_option linter.all false
namespace Go.Sim.Z
open Go Go.Proofs Go.RowKit Go.Conc Go.Maps
structure TabF (c:CfgD) (hs:Int→Int) (fs:List FactD) (S:List TR):Prop where
 nd:(S.map (·.k)).Nodup
 all:∀ k,tm S k=bunO c bnds (sel hs 7 k fs)
 n3:∀ f∈fs,f.k.length=3
 n:fs.length≤200
theorem TabF.len {c:CfgD} {hs:Int→Int} {fs:List FactD} {S:List TR} (h:TabF c hs fs S):S.length≤200:=by
 have h1:=nodup_le h.nd (U:=fs.map fun f=>underN 7 (padK f.k) 5) fun x hx=>by
  obtain ⟨t,ht,rfl⟩:=List.mem_map.1 hx
  obtain ⟨_,f,hf,e⟩:=tab_row h.nd h.all ht
  exact List.mem_map.2 ⟨f,hf,e⟩
 simp only [List.length_map] at h1
 have:=h.n
 omega
theorem TabF.hin {c:CfgD} {hs:Int→Int} {fs:List FactD} {S:List TR} (h:TabF c hs fs S):∀ t∈S,HIn 200 t.B:=by
 intro t ht x hx
 obtain ⟨e,_⟩:=tab_row h.nd h.all ht
 rw [e] at hx
 have h1:=sel_length hs 7 t.k fs
 have h2:=h.n
 have:=bunF_h (by omega) x hx
 omega
theorem TabF.sum {c:CfgD} {hs:Int→Int} {fs:List FactD} {S T:List TR} {m:Nat} (h:TabF c hs fs S) (hc:CfgOk c) (hnb:c.nb=4) (hh:∀ y,0≤hs y∧hs y≤18446744073709551615) (hT:Sum c (tm T) (rents S m (fun _=>true))):∀ k,tm T k=bunO c bnds (sel hs m k fs):=
 sum_sel hc (by rw [hnb];rfl) bnds_so' hh h.n3 h.nd h.all hT
theorem TabF.one {c:CfgD} {hs:Int→Int} {fs:List FactD} {T:List TR} (h3:∀ f∈fs,f.k.length=3) (hn:(T.map (·.k)).Nodup) (hT:∀ k,tm T k=bunO c bnds (sel hs 0 k fs)):T.length≤1∧(fs≠[]→T.length=1)∧∀ t∈T,t.k=[0,0,0,0,0]:=by
 have hk:∀ t∈T,t.k=[0,0,0,0,0]:=fun t ht=>by
  obtain ⟨_,f,hf,e⟩:=tab_row hn hT ht
  rw [← e,under0 (padK_length (by have:=h3 f hf;omega))]
 have h1:=nodup_le hn (U:=[[0,0,0,0,0]]) fun x hx=>by
  obtain ⟨t,ht,rfl⟩:=List.mem_map.1 hx
  rw [hk t ht];exact .head _
 simp only [List.length_map,List.length_cons,List.length_nil] at h1
 refine ⟨h1,fun hne=>?_,hk⟩
 obtain ⟨f,hf⟩:=List.exists_mem_of_ne_nil _ hne
 obtain ⟨t,ht,_⟩:=tab_has hT hf
 have:=List.length_pos_of_mem ht
 omega
theorem take_rise {U:List Int} {n:Nat} {h:Int} (hU:Rise U) (hm:h∈U) (hn:h∉U.take n):(U.take n).length=n∧∀ x∈U.take n,x<h:=by
 have e:=List.take_append_drop n U
 have hd:h∈U.drop n:=by
  rw [← e] at hm
  exact (List.mem_append.1 hm).resolve_left hn
 have hl:n<U.length:=by
  rcases Nat.lt_or_ge n U.length with h1|h1
  ·exact h1
  ·rw [List.drop_eq_nil_of_le h1] at hd;cases hd
 refine ⟨by rw [List.length_take];omega,fun x hx=>?_⟩
 rw [← e] at hU
 exact (List.pairwise_append.1 hU).2.2 x hx h hd
section
variable {W E:Nat→Prop} {w:World} {c:Int} {la:Option Addr} {rs:List RawD} {n lc:Nat}
set_option maxRecDepth 100000 in
set_option maxHeartbeats 4000000 in
theorem reach_exact {T0:Array Value} (hB:BOk C0 S0 W E w) (hok:HOk w) (hc:I64 c) (hR:RawAt w la rs) (hn:rs.length=n) (hWa:∀ a,la=some a→W a.block) (hTa:∀ a,la=some a→∀ c z,w.heap[a.block]?≠some (.cells c wgT z)) (hsz:T0.size=170) (h0:T0[0]?=some (.int .i64 c)) (h1:T0[1]?=some (.slice la n lc)) (ht0:TmR C0 S0 4 (idE E) T0 T0) :
  Reach Tryz.prog (AtLast Tryz.prog (fun v w'=>v=.bool true∧KE E w w')) W (G ((Go.Conc.base 4).at ⟨T0,[]⟩ [.code b4]) []) w:=by
 obtain ⟨fs,hfs⟩:∃ fs,fs=(rs.take 200).map RawD.fact:=⟨_,rfl⟩
 have hfl:fs.length≤200:=by rw [hfs,List.length_map,List.length_take];omega
 have hfo:∀ f∈fs,FactOk f∧padK f.k∈U64:=fun f hf=>by
  rw [hfs] at hf
  obtain ⟨r,hr,rfl⟩:=List.mem_map.1 hf
  exact ⟨RawD.factOk (hR.ok r (List.mem_of_mem_take hr)),raw_key r⟩
 have hg0:Tryz.prog.globals.size<w.heap.size:=hB.lt hB.hnd
 rw [b4_eq]
 refine reach_pc (fun _=>hl4) hl4_ne ok4_0 has4 df4 hB ht0 (by omega) (Q:=fun t w1=>t.size=170∧t[0]?=some (.int .i64 c)∧t[1]?=some (.slice la n lc)∧w1.heap=w.heap) (fun τ=>wp_mono (e4_0_any (w:=w.tp τ 0) hsz h0 h1) fun e a w1 ⟨q1,q2,q3,qk,q4,q5,q6⟩=>⟨q1,by omega,qk,q3,q4,q5,q6⟩) fun E0 T1 w1 w0 le0 hB0 hW0 ht1 ⟨z1,z2,z3,z4⟩ kw0=>?_
 have k0:KE E w w0:=(KE.of_eq fun b _=>by rw [z4]).trans ((lax_heap rfl hW0).mono le0)
 have hok0:=hok.ke k0 hB.hnd
 have hg1:Tryz.prog.globals.size<w0.heap.size:=hB0.lt hB0.hnd
 clear z4
 refine reach_pc (fun _=>hl4) hl4_ne ok4_1 has4 df4 hB0 ht1 (by omega) (Q:=fun t w1=>t.size=170∧t[1]?=some (.slice la n lc)∧t[5]?=some (pt (w0.heap.size+2))∧Blk false w1 (w0.heap.size+2) (cfgV (cfgN c (w0.heap.size+1)) 3 c) 35∧Row false w1 (w0.heap.size+1) 3 .i64 bnds 4∧(w0.heap.size≤w1.heap.size∧∀ b,b<w0.heap.size→w1.heap[b]?=w0.heap[b]?)) (fun τ=>wp_mono (e4_1_any (w:=w0.tp τ 0) hc z1 z2 z3) fun e a w1 ⟨q1,q2,q3,qk,q4,q5,q6,q7,q8⟩=>⟨q1,by omega,qk,q3,q4,q5,q6,q7,q8.size,fun b hb=>q8.heap b hb fun h=>h⟩) fun E1 T2 wb w1 le1 hB1 hW1 ht2 ⟨y1,y2,y3,y4,y5,y6⟩ kw1=>?_
 generalize hn1:w0.heap.size=n1 at *
 have l1:=lax_heap rfl hW1
 have k1:KE E0 w0 w1:=(KE.of_eq fun b hb=>y6.2 b (hn1▸hB0.lt hb)).trans (l1.mono le1)
 have eb:E1 (n1+2):=(ht2.slot (i:=5) (hl4' (by omega)) y3).ptrE
 have er:E1 (n1+1):=(hW1.ptr_in eb ((y4.cell 3).trans rfl:wb.cell? ⟨n1+2,3,none⟩=some (.slice (some ⟨n1+1,0,none⟩) 4 4))).sliceE
 have b1:=l1.blk eb y4
 have r1:=y5.keE l1 er
 have hok1:=hok0.ke k1 hB0.hnd
 have hg2:Tryz.prog.globals.size<w1.heap.size:=hB1.lt hB1.hnd
 clear y4 y5 y6
 refine reach_pc (fun _=>hl4) hl4_ne ok4_2 has4 df4 hB1 ht2 (by omega) (Q:=fun t w2=>t.size=170∧t[1]?=some (.slice la n lc)∧t[5]?=some (pt (n1+2))∧∃ x vm base b2 c2,t[6]?=some (pt x)∧t[7]?=some .nilIface∧(w1.heap.size≤x∧w1.heap.size≤vm∧w1.heap.size≤base∧w1.heap.size≤b2)∧CubeAt w2 x { cfgN c (n1+1) with ba:=some ⟨b2,0,none⟩,cb:=c2 } c h49 0 vm base∧w2.heap[base]?=some (.map #[] 0)∧Row false w2 b2 3 .i64 bnds c2∧(x≠vm∧x≠base∧x≠b2∧vm≠base∧vm≠b2∧base≠b2)∧(w1.heap.size≤w2.heap.size∧∀ b,b<w1.heap.size→w2.heap[b]?=w1.heap[b]?)) (fun τ=>wp_mono (e4_2_any (w:=w1.tp τ 0) (cfgN_ok c _) (Row.kept (w:=w1) r1 rfl) rfl rfl bnds_so' (Blk.kept (w:=w1) b1 rfl) y1 y2 y3) fun e a w2 ⟨q1,q2,q3,qk,q4,q5,x,q6,q7,q8⟩=>by
  obtain ⟨x',vm,base,b2,c2,e1,p1,p2,p3,p4,p5⟩:=q8.ex
  obtain rfl:x=x':=by simpa using e1
  exact ⟨q1,by omega,qk,q3,q4,q5,x,vm,base,b2,c2,q6,q7,p1,p2,p3,p4,p5,q8.tch.size,fun b hb=>q8.tch.heap b hb fun h=>h⟩) fun E2 T3 wb2 w2 le2 hB2 hW2 ht3 ⟨x1,x2,x3,x,vm,base,b2,c2,x4,x5,⟨g1,g2,g3,g4⟩,cu,em,rw2,⟨d1,d2,d3,d4,d5,d6⟩,kz,kk⟩ kw2=>?_
 have l2:=lax_heap rfl hW2
 have k2:KE E1 w1 w2:=(KE.of_eq fun b hb=>kk b (hB1.lt hb)).trans (l2.mono le2)
 have ex:E2 x:=(ht3.slot (i:=6) (hl4' (by omega)) x4).ptrE
 obtain ⟨c',hc'⟩:∃ c',c'={ cfgN c (n1+1) with ba:=some ⟨b2,0,none⟩,cb:=c2 }:=⟨_,rfl⟩
 have ba':c'.ba=some ⟨b2,0,none⟩:=by rw [hc']
 have nb':c'.nb=4:=by rw [hc'];rfl
 have cok:CfgOk c':=by rw [hc'];exact ⟨(cfgN_ok c 0).b1,(cfgN_ok c 0).b2,(cfgN_ok c 0).k1,(cfgN_ok c 0).k2,(cfgN_ok c 0).nb⟩
 have cK:c'.K=(cfgN c 0).K:=by rw [hc'];rfl
 rw [← hc'] at cu
 have okb:HOk wb2:=hok1.ke (KE.of_eq fun b hb=>kk b (hB1.lt hb)) hB1.hnd
 have plain2:∃ arr t,Blk false wb2 b2 arr t∧Plain arr:=by
  obtain ⟨cur,p1,_,_,_,p2⟩:=rw2
  exact ⟨cur,_,p1,p2⟩
 have q2:CubeIn E2 w2 x c' c h49 0 vm base []:=by
  refine CubeIn.of_wr hW2 cu (TabAt.of_empty em) okb hB2.hnd ex (fun y hy=>?_) (fun a ha=>?_) cok (by simp)
  ·rcases hy with rfl|hy
   ·omega
   ·simp [tpl] at hy
  ·rw [ba'] at ha;cases ha
   exact ⟨by show _≤b2;omega,plain2⟩
 have eb2:E2 b2:=(q2.bE _ ba').1
 have r2:=rw2.keE l2 eb2
 have b2k:=k2.blk eb b1
 have hok2:=hok1.ke k2 hB1.hnd
 have em2:w2.heap[base]?=some (.map #[] 0):=l2 _ _ (q2.tE _ (.inl rfl)).1 em trivial
 clear kk kz cu okb plain2 rw2 em b1 r1 hok1
 refine reach_pc (fun _=>hl4) hl4_ne ok4_3 has4 df4 hB2 ht3 (by omega) (Q:=fun t w3=>t.size=170∧t[1]?=some (.slice la n lc)∧t[5]?=some (pt (n1+2))∧t[6]?=some (pt x)∧w3.heap=w2.heap) (fun τ=>wp_mono (e4_3_any (w:=w2.tp τ 0) x1 x2 x3 x4 x5) fun e a w1 ⟨q1,q2,q3,qk,q4,q5,q6,q7⟩=>⟨q1,by omega,qk,q3,q4,q5,q6,q7⟩) fun E3 T4 wb3 w3 le3 hB3 hW3 ht4 ⟨v1,v2,v3,v4,v5⟩ kw3=>?_
 have k3:KE E2 w2 w3:=(KE.of_eq fun b _=>by rw [v5]).trans ((lax_heap rfl hW3).mono le3)
 have q3:=q2.ke k3 hB2.hnd le3
 have r3:=r2.keE k3 eb2
 have b3:=k3.blk (le2 _ eb) b2k
 have hok3:=hok2.ke k3 hB2.hnd
 have kE3:KE E w w3:=k0.trans ((k1.mono le0).trans ((k2.mono fun b hb=>le1 b (le0 b hb)).trans (k3.mono fun b hb=>le2 b (le1 b (le0 b hb)))))
 have le03:∀ b,E b→E3 b:=fun b hb=>le3 b (le2 b (le1 b (le0 b hb)))
 have eb3:=le3 _ (le2 _ eb)
 have lt3:∀ b,E3 b→b<w3.heap.size:=fun b hb=>hB3.lt hb
 have hg3:Tryz.prog.globals.size<w3.heap.size:=hB3.lt hB3.hnd
 have ex3:=lt3 _ q3.xE.1
 have ev3:=lt3 _ q3.xE.2
 have es3:=lt3 _ (q3.tE _ (.inl rfl)).1
 have e23:=lt3 _ (q3.bE _ ba').1
 have en3:=lt3 _ eb3
 clear v5 r2 b2k hok2 em2 q2
 have kwa:∀ a,la=some a→w3.heap[a.block]?=w.heap[a.block]?:=fun a ha=>(kw3 _ (hWa a ha)).trans ((kw2 _ (hWa a ha)).trans ((kw1 _ (hWa a ha)).trans (kw0 _ (hWa a ha))))
 obtain ⟨g0,h50,p50,g50,q50⟩:=op45_0
 obtain ⟨g1',ty6,h51,p51,g51,q51⟩:=op45_1
 obtain ⟨g2',h52,p52,g52,q52⟩:=op45_2
 rw [e45_eq]
 refine at_idle (fun w1=>stepG_seq) rfl fun d1'=>?_
 refine at_idle (fun w1=>stepG_region) rfl fun d2'=>?_
 rw [show List.range ops45.size=[0,1,2] from by kernel_rfl]
 have Ha:HS 4 W E3 w3 E3 T4 w3:=⟨hB3,fun _ h=>h,.refl,fun _ _=>rfl,ht4,rfl,Nat.le_refl _⟩
 refine hs_pure (v:=.slice la n lc) ((Ha.at d1').at d2') h50 (by simp [Region.wanted,g50]) q50 (fun w1=>by simp [execOp,p50,Act.eval,Array.getD_eq_getD_getElem?,v2]) (fun w1=>by simp [execOp,p50,Act.eval]) (.inl rfl) fun wx Hx hx=>?_
 refine Reach.call (B:=Go.Conc.base 4) (a:=⟨T4.setIfInBounds 34 (.slice la n lc),[]⟩) h51 (by simp [Region.wanted,g51]) (by simp [Go.Conc.base]) p51 (fn:=Tryz.f6) (c:=b6) (by kernel_rfl) (by kernel_rfl) body6 fun e4'=>?_
 have ea:(#[Operand.tmp 34].map (Act.eval ⟨T4.setIfInBounds 34 (.slice la n lc),[]⟩))++Array.replicate (Tryz.f6.ntmps-(#[Operand.tmp 34].map (Act.eval ⟨T4.setIfInBounds 34 (.slice la n lc),[]⟩)).size) undef=#[.slice la n lc]++Array.replicate 54 undef:=by
  have hnt:Tryz.f6.ntmps=55:=by kernel_rfl
  have h1:(#[Operand.tmp 34].map (Act.eval ⟨T4.setIfInBounds 34 (.slice la n lc),[]⟩))=#[.slice la n lc]:=by simp [Act.eval,Array.getD_eq_getD_getElem?,Array.getElem?_setIfInBounds,v1]
  rw [hnt,h1]
  rfl
 rw [ea]
 have hxw:(wx.at e4').heap=w3.heap:=hx
 refine reach_facts (fs:=fs) (rs:=rs) (Hx.at e4').bok ?_ hn hfs hWa (fun a ha=>by rw [hxw,kwa a ha];exact hTa a ha) fun E4 w4' ga c2f pl le4 hB4 k4' fa pg vE kz kwf=>?_
 ·refine ⟨fun i r hr=>?_,hR.ok⟩
  obtain ⟨b,o,r1,r2,r3,r4,r5,r6,r7⟩:=hR.at_ i r hr
  have hbb:(wx.at e4').heap[b]?=w.heap[b]?:=by rw [hxw];exact kwa _ r1
  have hc:∀ {i v},w.cell? ⟨b,i,none⟩=some v→(wx.at e4').cell? ⟨b,i,none⟩=some v:=fun h=>(World.cell?_of_block hbb).trans h
  refine ⟨b,o,r1,?_,hc r3,hc r4,hc r5,hc r6,hc r7⟩
  rw [Array.getElem?_eq_getElem r2] at hbb
  exact (Array.getElem?_eq_some_iff.1 hbb).1
 rw [h51]
 simp only [Option.bind_some,q51]
 have Hy:HS 4 W E3 w3 E4 (T4.setIfInBounds 34 (.slice la n lc)) w4':=((Hx.at e4').to hB4 le4 k4' kwf kz)
 have Hz:=Hy.put (Hy.set (s:=35) (.inr vE))
 refine hs_pure (v:=.slice ga fs.length c2f) Hz h52 (by simp [Region.wanted,g52]) q52 (fun w1=>by simp [execOp,p52,Act.eval,Array.getD_eq_getD_getElem?,Array.getElem?_setIfInBounds,v1]) (fun w1=>by simp [execOp,p52,Act.eval]) (.inr vE) fun w5x H5 h5x=>?_
 refine at_idle (fun w1=>stepG_region_end) rfl fun d3'=>?_
 have H4:=H5.at d3'
 have fa:FsAt false (w5x.at d3') ga fs c2f pl:=fa.kept fun b _=>by show w5x.heap[b]?=_;rw [h5x]
 rw [hxw] at pg
 have lt34:w3.heap.size≤(w5x.at d3').heap.size:=H4.sz
 have k4:KE E3 w3 (w5x.at d3'):=H4.ke
 have hB4:=H4.bok
 have ht5:=H4.tm
 obtain ⟨T5,hT5⟩:∃ T5,T5=((T4.setIfInBounds 34 (.slice la n lc)).setIfInBounds 35 (.slice ga fs.length c2f)).setIfInBounds 8 (.slice ga fs.length c2f):=⟨_,rfl⟩
 rw [← hT5] at ht5 ⊢
 have u1:T5.size=170:=by rw [hT5];simpa using v1
 have u2:T5[5]?=some (pt (n1+2)):=by rw [hT5];repeat rw [Array.getElem?_setIfInBounds_ne (by omega)]
                                     exact v3
 have u3:T5[6]?=some (pt x):=by rw [hT5];repeat rw [Array.getElem?_setIfInBounds_ne (by omega)]
                                exact v4
 have u4:T5[8]?=some (.slice ga fs.length c2f):=by rw [hT5,Array.getElem?_setIfInBounds_self_of_lt (by simp [v1])]
 clear hT5
 generalize w5x.at d3'=w4 at *
 have eg:∀ a,ga=some a→E4 a.block:=fun a e=>by
  rw [e] at u4
  exact (ht5.slot (i:=8) (hl4' (by omega)) u4).sliceE
 obtain ⟨pl4,hp4,fa4⟩:=FsAt.ke hB4.wr eg .refl fa
 have q4:=q3.ke k4 hB3.hnd le4
 have eb23:E3 b2:=(q3.bE _ ba').1
 have r4:=r3.keE k4 eb23
 have b4':=k4.blk eb3 b3
 have hok4:=hok3.ke k4 hB3.hnd
 have kE4:KE E w w4:=kE3.trans (k4.mono le03)
 have le04:∀ b,E b→E4 b:=fun b hb=>le4 b (le03 b hb)
 have eb4:=le4 _ eb3
 clear fa r3 b3 hok3
 have ing:∀ τ,IngIn (w4.tp τ 0) x c' c h49 0 vm base [] ga fs c2f pl4 (fun y=>IntKind.u64.wrap y) bnds U64:=fun τ=>{
  q:=q4.cube.kept rfl rfl
  tab:=q4.tab.kept fun _ _=>rfl
  fsa:=fa4.kept fun _ _=>rfl
  okf:=fun g hg=>(hfo g hg).1
  bnd:=.inr ⟨b2,c2,ba',Row.kept r4 rfl⟩
  bsl:=by rw [nb'];rfl
  so:=bnds_so'
  cfg:=cok
  hsr:=hs1_bd
  one:=fun w1 t item at_=>one_calls ((q4.cube.kept (w':=w4.tp τ 0) rfl rfl).kept (t.heap x q4.cube.blk.lt fun h=>h) (t.heap vm q4.cube.vs.lt fun h=>h)) item at_
  dF:=fun y hy=>by
   have:=pg y (hp4 y hy).1
   exact ⟨by omega,by simp [tpl],by omega⟩
  dX:=⟨d2,by simp [tpl]⟩
  dV:=⟨d4,by simp [tpl],Ne.symm d1⟩
  dB:=fun a ha=>by
   rw [ba'] at ha;cases ha
   exact ⟨Ne.symm d6,by simp [tpl],hB4.lt (le4 _ eb23),Ne.symm d3⟩
  n1:=by omega
  nf0:=by omega
  nf1:=by omega
  hU:=fun g hg=>(hfo g hg).2
  hTU:=fun t ht=>by cases ht
  hUn:=by rw [U64_len];omega }
 refine reach_pc (fun _=>hl4) hl4_ne ok4_6 has4 df4 hB4 ht5 (by omega) (Q:=fun t w5=>t.size=170∧t[5]?=some (pt (n1+2))∧t[6]?=some (pt x)∧t[8]?=some (.slice ga fs.length c2f)∧t[9]?=some .nilIface∧CubeAt w5 x c' c h49 (0+fs.length) vm base∧(∃ T',TabAt false w5 c' base T'∧(∀ key,tm T' key=insFs c' bnds (fun y=>IntKind.u64.wrap y) 7 (tm []) fs key)∧∀ y,y=base∨y∈tpl T'→y=base∨w4.heap.size≤y)∧(∀ b,b<w4.heap.size→b≠x→b≠base→w5.heap[b]?=w4.heap[b]?)) (fun τ=>wp_mono (e4_6_any (w:=w4.tp τ 0) (ing_calls (ing τ)) u1 u2 u3 u4) fun e a w5 ⟨p1,p2,p3,qk,p4,p5,p6,p7,p8⟩=>⟨p1,by omega,qk,p3,p4,p5,p6,p7,p8.q,by
  obtain ⟨T',t1,t2,t3⟩:=p8.tab
  exact ⟨T',t1,t2,fun y hy=>(t3 y hy).imp (fun h=>h.resolve_right (by simp [tpl])) id⟩,fun b hb h1 h2=>p8.tch.heap b hb fun h=>by
  rcases h with h|h|h
  ·exact h1 h
  ·exact h2 h
  ·simp [tpl] at h⟩) fun E5 T6 wb5 w5 le5 hB5 hW5 ht6 ⟨s1,s2,s3,s4,s5,cu,⟨T',tab5,hT',hpl⟩,kk⟩ kw5=>?_
 have l5:=lax_heap rfl hW5
 have k5:KE (fun b=>E4 b∧b≠x∧b≠base) w4 w5:=(KE.of_eq fun b hb=>kk b (hB4.lt hb.1) hb.2.1 hb.2.2).trans (l5.mono fun b hb=>le5 b hb.1)
 have ex5:E5 x:=(ht6.slot (i:=6) (hl4' (by omega)) s3).ptrE
 have tabF:TabF c' (fun y=>IntKind.u64.wrap y) fs T':=by
  refine ⟨tab5.nodup,fun k=>?_,fun f hf=>(hfo f hf).1.n,hfl⟩
  have:=insFs_sel (c:=c') (bs:=bnds) (hs:=fun y=>IntKind.u64.wrap y) (fs:=fs) (g0:=[]) 7 (g:=tm []) (fun k=>rfl) k
  rw [List.nil_append] at this
  exact (hT' k).trans this
 have hgx:Tryz.prog.globals.size≠x∧Tryz.prog.globals.size≠base:=by omega
 have okb:HOk wb5:=hok4.ke (E:=fun b=>b=Tryz.prog.globals.size) (KE.of_eq fun b hb=>by
  subst hb
  exact kk _ (hB4.lt hB4.hnd) hgx.1 hgx.2) rfl
 have q5:CubeIn E5 w5 x c' c h49 (0+fs.length) vm base T':=by
  refine CubeIn.of_wr hW5 cu tab5 okb hB5.hnd ex5 (fun y hy=>?_) (fun a ha=>?_) cok (by have:=tabF.len;omega)
  ·rcases hpl y hy with rfl|h
   ·omega
   ·omega
  ·rw [ba'] at ha;cases ha
   obtain ⟨cur,p1,p2,p3,p4,p5⟩:=r4
   refine ⟨by show _≤b2;omega,cur,_,p1.kept (kk b2 (hB4.lt (le4 _ eb23)) (Ne.symm d3) (Ne.symm d6)),p5⟩
 have eg5:∀ a,ga=some a→E5 a.block:=fun a e=>by
  rw [e] at s4
  exact (ht6.slot (i:=8) (hl4' (by omega)) s4).sliceE
 obtain ⟨pl5,hp5,fa5⟩:=FsAt.ke hW5 eg5 l5 (fa4.kept (w':=wb5) fun y hy=>by
  have:=pg y (hp4 y hy).1
  exact kk y (fa4.lt y hy) (by omega) (by omega))
 have ebx:=hB1.lt eb
 have b5:=k5.blk ⟨eb4,by omega,by omega⟩ b4'
 have kE5:KE E w w5:=kE4.trans (k5.mono fun b hb=>⟨le04 b hb,by have:=hB1.lt (le1 b (le0 b hb));omega,by have:=hB1.lt (le1 b (le0 b hb));omega⟩)
 obtain ⟨o0,h40,p40,g40,q40⟩:=op4_0
 obtain ⟨o1,h41,p41,g41,q41⟩:=op4_1
 refine at_idle (fun w1=>stepG_seq) rfl fun e1=>?_
 refine at_idle (fun w1=>stepG_region) rfl fun e2=>?_
 rw [show List.range ops4.size=[0,1,2,3,4,5,6] from by kernel_rfl]
 refine at_idle (fun w1=>stepG_pure (v:=pt x) h40 (by simp [Region.wanted,g40]) (by simp [Go.Conc.base]) (by simp [execOp,p40,Act.eval,Array.getD_eq_getD_getElem?,s3]) (by simp [execOp,p40,Act.eval])) rfl fun e3=>?_
 rw [q40]
 have hB6:=((hB5.at e1).at e2).at e3
 generalize hw6:((w5.at e1).at e2).at e3=w6 at hB6 ⊢
 have hw6h:w6.heap=w5.heap:=by rw [← hw6];rfl
 clear hw6
 have k6:KE E5 w5 w6:=.of_eq fun b _=>by rw [hw6h]
 have vx:VR C0 (idE E5) (pt x) (pt x):=.ptr _ _ ⟨rfl,ex5⟩
 have ht7:TmR C0 S0 4 (idE E5) (T6.setIfInBounds 40 (pt x)) (T6.setIfInBounds 40 (pt x)):=ht6.set 40 vx fun h=>by cases h
 refine Reach.call (B:=Go.Conc.base 4) (a:=⟨T6.setIfInBounds 40 (pt x),[]⟩) h41 (by simp [Region.wanted,g41]) (by simp [Go.Conc.base]) p41 (fn:=Tryz.f9) (c:=b9) (by kernel_rfl) (by kernel_rfl) body9 fun e4=>?_
 have e9:(#[Operand.tmp 40,.const (.int .i64 0),.const (.slice none 0 0),.const (.int .i64 10)].map (Act.eval ⟨T6.setIfInBounds 40 (pt x),[]⟩))++Array.replicate (Tryz.f9.ntmps-(#[Operand.tmp 40,.const (.int .i64 0),.const (.slice none 0 0),.const (.int .i64 10)].map (Act.eval ⟨T6.setIfInBounds 40 (pt x),[]⟩)).size) undef=#[pt x,.int .i64 (0:Nat),.slice none 0 0,.int .i64 10,undef,undef,undef,undef,undef,undef,undef,undef,undef,undef,undef,undef,undef,undef,undef,undef,undef,undef,undef,undef,undef,undef,undef,undef,undef,undef,undef,undef,undef]:=by
  have hnt:Tryz.f9.ntmps=33:=by kernel_rfl
  have h1:(#[Operand.tmp 40,.const (.int .i64 0),.const (.slice none 0 0),.const (.int .i64 10)].map (Act.eval ⟨T6.setIfInBounds 40 (pt x),[]⟩))=#[pt x,.int .i64 (0:Nat),.slice none 0 0,.int .i64 10]:=by simp [Act.eval,Array.getD_eq_getD_getElem?,Array.getElem?_setIfInBounds,s1]
  rw [hnt,h1]
  show _++Array.replicate 29 undef=_
  rw [show Array.replicate 29 undef=#[undef,undef,undef,undef,undef,undef,undef,undef,undef,undef,undef,undef,undef,undef,undef,undef,undef,undef,undef,undef,undef,undef,undef,undef,undef,undef,undef,undef,undef] from by kernel_rfl]
  simp only [List.append_toArray,List.cons_append,List.nil_append]
 rw [e9]
 refine reach_query (x:=x) (m:=0) (most:=10) (M:=200) (S:=T') (hB6.at e4) ((q5.ke k6 hB5.hnd fun _ h=>h).ke (w':=w6.at e4) (KE.of_eq fun _ _=>rfl) hB5.hnd fun _ h=>h) (by omega) (by omega) tabF.hin (by have:=tabF.len;omega) (by omega) (fun T hn hT=>by
  have:=(TabF.one (hs:=fun y=>IntKind.u64.wrap y) tabF.n3 hn (tabF.sum cok nb' hs1_bd hT)).1
  omega) fun W7 E7 w7 v T ks L qo=>?_
 rw [h41]
 simp only [Option.bind_some,q41]
 have hTall:=tabF.sum cok nb' hs1_bd qo.sum
 obtain ⟨one1,one2,one3⟩:=TabF.one (hs:=fun y=>IntKind.u64.wrap y) tabF.n3 qo.nd hTall
 have vt:VR C0 (idE E7) (.tuple #[v,.nilIface]) (.tuple #[v,.nilIface]):=.tuple rfl fun i x x' h1 h2=>by
  rw [h1] at h2;cases h2
  match i with
  | 0=>cases h1;exact qo.vE
  | 1=>cases h1;exact .nilIface
  | i+2=>simp at h1
 have ht8:TmR C0 S0 4 (idE E7) ((T6.setIfInBounds 40 (pt x)).setIfInBounds 41 (.tuple #[v,.nilIface])) ((T6.setIfInBounds 40 (pt x)).setIfInBounds 41 (.tuple #[v,.nilIface])):=(ht7.mono (idE_mono qo.le)).set 41 vt fun h=>by cases h
 obtain ⟨va,vc,hv⟩:=row_slice qo.row
 have k7:KE E5 w5 w7:=k6.trans ((KE.of_eq (E:=E5) (w:=w6) (w1:=w6.at e4) fun _ _=>rfl).trans qo.ke)
 obtain ⟨pl7,hp7,fa7⟩:=FsAt.ke hB5.wr eg5 k7 fa5
 have b7:=k7.blk (le5 _ eb4) b5
 have tailK:∀ (τ) (T8:Array Value),T8.size=170→T8[5]?=some (pt (n1+2))→T8[8]?=some (.slice ga fs.length c2f)→T8[9]?=some .nilIface→T8[10]?=some v→T8[11]?=some .nilIface →
   tail4.wp Tryz.prog (fun e a w'=>e=.ret∧a.defers=[stuckD]∧a.tmps.size=170∧(a.tmps[1]?=T8[1]?∧a.tmps[34]?=T8[34]?)∧a.tmps[4]?=some (.bool true)∧w'.heap=w7.heap) ⟨T8,[stuckD]⟩ (w7.tp τ 0):=by
  intro τ T8 j1 j5 j8 j9 j10 j11
  obtain ⟨f,rfl⟩:=arr170 j1
  have i5:f 5=_:=Option.some.inj j5
  have i8:f 8=_:=Option.some.inj j8
  have i9:f 9=_:=Option.some.inj j9
  have i10:f 10=_:=Option.some.inj j10
  have i11:f 11=_:=Option.some.inj j11
  rw [i5,i8,i9,i10,i11]
  have hL:L.length=T.length:=by rw [qo.outs.1];have:=qo.keys.length;simpa using this
  by_cases hne:fs=[]
  ·refine tail4_nil (w:=w7.tp τ 0) hne ⟨va,vc,?_⟩
   have:T.length=0:=by
    rcases Nat.eq_zero_or_pos T.length with h|h
    ·exact h
    ·obtain ⟨t,ht⟩:=List.exists_mem_of_length_pos h
     obtain ⟨_,f,hf,_⟩:=tab_row qo.nd hTall ht
     rw [hne] at hf;cases hf
   rw [hv,hL,this]
  ·have h1:=one2 hne
   obtain ⟨q,hq⟩:∃ q,L[0]?=some q:=⟨L[0]'(by omega),List.getElem?_eq_getElem _⟩
   obtain ⟨k0,hk0⟩:∃ k0,ks[0]?=some k0:=⟨ks[0]'(by have:=qo.outs.1;omega),List.getElem?_eq_getElem _⟩
   obtain ⟨a1,a2,a3,a4⟩:=qo.outs.2 0 k0 q hk0 hq
   rw [hL,h1] at hv
   rcases qo.row.2 with ⟨_,e⟩|⟨g,cap,cur,e,_,hgg,hcl,hcap,_,hx⟩
   ·rw [hL,h1] at e;cases e
   have a5:=hTall k0.1
   rw [a2] at a5
   obtain ⟨t,T1,T2,rfl,tk,_⟩:=look_some a2
   have zk:k0.1=[0,0,0,0,0]:=by rw [← tk];exact one3 t (by simp)
   have tB:t.B=q.B:=by
    have:=tm_mem qo.nd (t:=t) (by simp)
    rw [tk,a2] at this
    exact (Option.some.inj this).symm
   have bok:=(qo.tok t (by simp)).2
   rw [tB] at bok
   rw [zk,sel0 tabF.n3] at a5
   have hB5':q.B=bunF c' bnds (fs.map fun f=>(IntKind.u64.wrap f.it,f.v)):=by
    unfold bunO at a5
    rw [if_neg (by simpa using hne)] at a5
    exact Option.some.inj a5
   have hl:q.B.l=(uni [] (fs.map fun f=>IntKind.u64.wrap f.it)).take c'.K.toNat:=by
    rw [hB5',bunF_l (by have:=cok.k1;omega),List.map_map];rfl
   obtain ⟨gl,lc',e1,_,hrow⟩:=a4.l
   have hL1:L.length=1:=by omega
   have hLq:L=[q]:=by
    obtain ⟨y,rfl⟩:=List.length_eq_one_iff.1 hL1
    simp at hq;rw [hq]
   have hx4:(w7.tp τ 0).cell? ⟨g,4,none⟩=some q.lv:=by
    refine (cell_of (w:=w7.tp τ 0) hgg 4).trans ?_
    rw [hL1,hLq] at hx
    have h5:(List.take (1*5) cur.toList)[4]?=some q.lv:=by rw [hx];rfl
    rw [List.getElem?_take,if_pos (by omega),Array.getElem?_toList] at h5
    exact h5
   rw [e1] at hx4
   refine tail4_wp (w:=w7.tp τ 0) (pl:=pl7) (K:=c'.K) (g:=g) (gl:=gl) (vc:=cap) (lc:=lc') (ls:=q.B.l) (List.length_pos_iff.2 hne) (by omega) (fa7.kept fun _ _=>rfl) (fun y hy=>(hfo y hy).1.it) ?_ hx4 (Row.kept hrow rfl) (List.length_pos_iff.2 bok.lne) bok.lK cok.k2 bok.l (fun z hz=>?_) (fun y hy=>?_) (by rw [e,hL1])
   ·rw [cK]
    exact (b7.cell 2:w7.cell? ⟨n1+2,2,none⟩=_).trans rfl
   ·rw [hl] at hz
    rcases mem_uni.1 (List.mem_of_mem_take hz) with h|h
    ·cases h
    ·obtain ⟨y,hy,rfl⟩:=List.mem_map.1 h
     exact ⟨y,hy,rfl⟩
   ·by_cases hm:IntKind.u64.wrap y.it∈q.B.l
    ·exact .inl hm
    ·rw [hl] at hm ⊢
     obtain ⟨h1,h2⟩:=take_rise (rise_uni List.Pairwise.nil) (mem_uni.2 (.inr (List.mem_map.2 ⟨y,hy,rfl⟩))) hm
     refine .inr ⟨?_,h2⟩
     rw [h1]
     have:=cok.k1
     omega
 refine Reach.ret (b:=Go.Conc.base 4) (X0:=[.inRegion ops4 [2,3,4,5,6],.code tail4]) (k:=[]) allOk0 rfl (.cons (.inRegion _ ok4_7) (.cons (.code ok4_t) .nil)) has4 df4 hl4_ne (by simp [Go.Conc.base]) qo.bok ht8 (Q:=fun t1 w1=>t1[4]?=some (.bool true)∧w1.heap=w7.heap) (fun τ=>?_) fun E8 T9 w8 w9 todo le8 hB8 hW8 ht9 ⟨z1,z2⟩=>?_
 ·have sl:∀ i,i≠40→i≠41→((T6.setIfInBounds 40 (pt x)).setIfInBounds 41 (.tuple #[v,.nilIface]))[i]?=T6[i]?:=fun i h1 h2=>by
   rw [Array.getElem?_setIfInBounds_ne (Ne.symm h2),Array.getElem?_setIfInBounds_ne (Ne.symm h1)]
  refine LGo.ops (pre:=[2,3,4,5,6]) (rest:=[]) (ops4_wp (by simp [s1]) ((sl 5 (by omega) (by omega)).trans s2) ((sl 8 (by omega) (by omega)).trans s4) ((sl 9 (by omega) (by omega)).trans s5) (by simp [s1]) ⟨_,_,_,hv⟩ fun a m1 m2 m3 m4 m5 m6 m7 m8 m9=>⟨rfl,m1,LGo.done (LGo.wp ?_)⟩)
  refine wp_mono (tailK τ a.tmps m2 m3 m4 m5 m6 m7) fun e b w' ⟨n1,n2,n3,nk,n4,n5⟩=>?_
  subst n1
  refine Cont.ret ⟨fun i hi hi2=>?_,n4,n5⟩ n2
  rcases hl4 hi with rfl|rfl|h
  ·exact nk.1.trans m8
  ·exact nk.2.trans m9
  ·simp [s1] at hi2;omega
 ·refine Reach.here ⟨rfl,fun w1 hw1=>⟨.bool true,?_,rfl,?_⟩⟩
  ·rw [stepG_last (f:=Tryz.f4) (x:=4) (by kernel_rfl) (by kernel_rfl) (by kernel_rfl)]
   simp [Array.getD_eq_getD_getElem?,z1]
  ·obtain ⟨dd,rfl⟩:=hw1
   have kf:KE E7 w7 w9:=(KE.of_eq fun b _=>by rw [z2]).trans ((lax_heap rfl hW8).mono le8)
   exact (kE5.trans ((k7.mono fun b hb=>le5 b (le04 b hb)).trans (kf.mono fun b hb=>qo.le b (le5 b (le04 b hb))))).trans (.of_eq fun _ _=>rfl)
end
def rf (P:Program) (fits:TypeId→Bool):Nat→TypeId→Bool
 | 0,_=>false
 | d+1,e=>fits e || (match P.underlying e with
  | some (.struct fs)=>fs.any fun f=>rf P fits d f.type
  | some (.array _ e')=>rf P fits d e'
  | _=>false)
theorem rowAt_rf (P:Program) (fits:TypeId→Bool):∀ (d:Nat) (e:TypeId) (c o n:Nat),rowAt P fits d e c o n=true→rf P fits d e=true
 | 0,_,_,_,_,h=>by cases h
 | d+1,e,c,o,n,h=>by
  simp only [rowAt] at h
  unfold rf
  by_cases hs:P.cellsOf e=0
  ·rw [if_pos hs] at h;cases h
  rw [if_neg hs] at h
  rw [Bool.or_eq_true] at h ⊢
  rcases h with h|h
  ·simp only [Bool.and_eq_true] at h
   exact .inl h.2
  ·right
   rw [Bool.and_eq_true] at h
   obtain ⟨_,h⟩:=h
   cases hu:P.underlying e with
   | none=>rw [hu] at h;cases h
   | some u=>
    rw [hu] at h
    cases u with
    | struct fs=>
     have h':=((Bool.and_eq_true _ _).mp h).2
     show (fs.any fun f=>rf P fits d f.type)=true
     rw [Array.any_eq_true] at h' ⊢
     obtain ⟨i,hi,h'⟩:=h'
     exact ⟨i,hi,rowAt_rf P fits d _ _ _ _ ((Bool.and_eq_true _ _).mp h').2⟩
    | array m e'=>exact rowAt_rf P fits d _ _ _ _ h
    | _=>cases h
theorem five_any {α:Type} {l:List α} (h:l.length=5):∃ x0 x1 x2 x3 x4,l=[x0,x1,x2,x3,x4]:=by
 rcases l with _|⟨x0,_|⟨x1,_|⟨x2,_|⟨x3,_|⟨x4,_|⟨x5,l⟩⟩⟩⟩⟩⟩<;>simp at h
 exact ⟨_,_,_,_,_,rfl⟩
theorem und53:∃ f0 f1 f2 f3 f4:Field,Tryz.prog.underlying 53=some (.struct #[f0,f1,f2,f3,f4])∧(f0.offset=0∧f1.offset=1∧f2.offset=2∧f3.offset=3∧f4.offset=4)∧(f0.type=3∧f1.type=3∧f2.type=3∧f3.type=3∧f4.type=3):=by
 have h:(Tryz.prog.underlying 53).map (fun u=>match u with | .struct fs=>fs.toList.map (fun f=>(f.offset,f.type))|_=>[])=some [(0,3),(1,3),(2,3),(3,3),(4,3)]:=by kernel_rfl
 cases hu:Tryz.prog.underlying 53 with
 | none=>rw [hu] at h;cases h
 | some u=>
  rw [hu] at h
  cases u with
  | struct fs=>
   obtain ⟨l⟩:=fs
   simp only [Option.map_some,Option.some.injEq] at h
   have hl:l.length=5:=by
    have:=congrArg List.length h
    simpa using this
   match l,hl with
   | [f0,f1,f2,f3,f4],_=>
    simp only [List.map_cons,List.map_nil,List.cons.injEq,Prod.mk.injEq,and_true] at h
    obtain ⟨⟨a0,b0⟩,⟨a1,b1⟩,⟨a2,b2⟩,⟨a3,b3⟩,⟨a4,b4⟩⟩:=h
    exact ⟨f0,f1,f2,f3,f4,rfl,⟨a0,a1,a2,a3,a4⟩,b0,b1,b2,b3,b4⟩
  | _=>simp at h
theorem und22:Tryz.prog.underlying 22=some (.slice 53):=by kernel_rfl
theorem und3:Tryz.prog.underlying 3=some (.int .i64):=by kernel_rfl
theorem ce53:Tryz.prog.cellsOf 53=5:=by kernel_rfl
theorem ce3:Tryz.prog.cellsOf 3=1:=by kernel_rfl
theorem rf146:rf Tryz.prog (sameLayout Tryz.prog Tryz.prog.depth · 53) Tryz.prog.depth wgT=false:=by kernel_rfl
theorem rf0:rf Tryz.prog (sameLayout Tryz.prog Tryz.prog.depth · 53) Tryz.prog.depth 0=false:=by kernel_rfl
theorem has53 {w:World} {r:_root_.Go.Reach} {b0:Nat} {a:Addr} {n:Nat} (h:w.has Tryz.prog r b0 a 53 n):a.spot=none∧a.block<w.heap.size∧(∀ c z,w.heap[a.block]?≠some (.cells c wgT z))∧∀ c z,w.heap[a.block]?≠some (.cells c 0 z):=by
 obtain ⟨_,h1,row,cells,h2,h3⟩:=h
 have h4:rf Tryz.prog (sameLayout Tryz.prog Tryz.prog.depth · 53) Tryz.prog.depth row=true:=by
  obtain ⟨d,hd⟩:∃ d,Tryz.prog.depth=d+1:=by
   cases hd:Tryz.prog.depth with
   | zero=>rw [hd] at h3;cases h3
   | succ d=>exact ⟨d,rfl⟩
  have h5:liesAt Tryz.prog (d+1) row (cells / Tryz.prog.cellsOf row) a.off 53 n=true:=by rw [← hd];exact h3
  unfold liesAt at h5
  rw [Bool.or_eq_true] at h5
  rcases h5 with h5|h5
  ·exact rowAt_rf _ _ _ _ _ _ _ h5
  ·obtain ⟨f0,f1,f2,f3,f4,hu,_⟩:=und53
   rw [hu] at h5;cases h5
 have sh:∀ c t z,w.heap[a.block]?=some (.cells c t z)→row=t:=fun c t z hc=>by
  simp only [World.shape?,hc] at h2
  simp at h2
  exact h2.1.symm
 refine ⟨h1,?_,fun c z hc=>?_,fun c z hc=>?_⟩
 ·cases hb:w.heap[a.block]? with
  | none=>simp [World.shape?,hb] at h2
  | some o=>exact (Array.getElem?_eq_some_iff.1 hb).1
 ·rw [sh _ _ _ hc,rf146] at h4;cases h4
 ·rw [sh _ _ _ hc,rf0] at h4;cases h4
theorem push5 {α:Type} (m:Array α) (a b c d e:α) {n:Nat} (hn:m.size=n):(((((m.push a).push b).push c).push d).push e)[n]?=some a∧n<(((((m.push a).push b).push c).push d).push e).size:=by
 subst hn
 refine ⟨?_,by simp only [Array.size_push];omega⟩
 rw [Array.getElem?_push,if_neg (by simp only [Array.size_push];omega),Array.getElem?_push,if_neg (by simp only [Array.size_push];omega),Array.getElem?_push,if_neg (by simp only [Array.size_push];omega),Array.getElem?_push,if_neg (by simp only [Array.size_push];omega),Array.getElem?_push,if_pos rfl]
theorem begin_handles (P:Program) (tape:Nat→Question→Nat) (os:Os):(begin P tape os).world.heap[P.globals.size]?=some (.cells ((Array.range P.types.size).map fun t=>.int .u64 (Int.ofNat t)) 0)∧P.globals.size<(begin P tape os).world.heap.size:=by
 unfold begin
 exact push5 _ _ _ _ _ _ (by simp)
theorem shaped_hok {P:Program} {w:World} (h:w.ShapedOpen P):w.heap[P.globals.size]?=some (.cells ((Array.range P.types.size).map fun t=>.int .u64 (Int.ofNat t)) 0):=by
 obtain ⟨h1,h2⟩:=begin_handles P (fun _ _=>0) default
 obtain ⟨o,o0,h3,h4,h5⟩:=h.2 P.globals.size (Nat.le_refl _) h2
 rw [h1] at h4
 rw [h3]
 simp only [Nat.sub_self] at h5
 rw [if_neg (by decide)] at h5
 rw [h5,h4]
section
variable {H:Type} {enc:TypeId × Value→H} {w:World} {a0:Option Addr} {len cap:Nat} {d:DataW H} {ps:List MemPlace}
set_option maxRecDepth 10000 in
theorem open_raw (hval:∃ r b0,Value.okWide Tryz.prog w r b0 22 (.slice a0 len cap)) (h:DataW.Trod enc Tryz.prog w 0 (fun _=>true) true 22 (.slice a0 len cap) d ps) :
  ∃ rs:List RawD,rs.length=len∧RawAt w a0 rs∧∀ a,a0=some a→a.block<w.heap.size∧(∀ c z,w.heap[a.block]?≠some (.cells c wgT z))∧∀ c z,w.heap[a.block]?≠some (.cells c 0 z):=by
 obtain ⟨r,b0,hval⟩:=hval
 obtain ⟨fuel,hf⟩:=h
 rcases Deep.open_slice und22 hf with ⟨hcs,_⟩|⟨a,len',cap',m,n,D,Pl,hcs,_,hl,hm,hmm,_,hx⟩
 ·simp [Value.cells] at hcs
  obtain ⟨rfl,rfl,rfl⟩:=hcs
  exact ⟨[],rfl,⟨fun i r hr=>by simp at hr,fun r hr=>by cases hr⟩,fun a ha=>by cases ha⟩
 ·simp [Value.cells] at hcs
  obtain ⟨rfl,rfl,rfl⟩:=hcs
  have hh:w.has Tryz.prog r b0 a 53 cap:=by
   simp only [Value.okWide,und22,Cell.okWide,Cell.ok] at hval
   exact hval.2.2
  obtain ⟨e1,e2,e3,e4⟩:=has53 hh
  obtain ⟨b,o,sp⟩:=a
  simp only at e1 e2 e3 e4
  subst e1
  rw [if_pos rfl] at hmm
  have each:∀ i,i<len→∃ q:RawD,RawOk q∧w.cell? ⟨b,o+i*5,none⟩=some (.int .i64 q.a)∧w.cell? ⟨b,o+i*5+1,none⟩=some (.int .i64 q.b)∧w.cell? ⟨b,o+i*5+2,none⟩=some (.int .i64 q.c)∧w.cell? ⟨b,o+i*5+3,none⟩=some (.int .i64 q.fact.it)∧w.cell? ⟨b,o+i*5+4,none⟩=some (.int .i64 q.fact.v):=by
   intro i hi
   obtain ⟨cs',h1,h2⟩:=hx i (by omega)
   rw [ce53] at h1
   obtain ⟨_,hlen,hcell⟩:=World.cells?_some h1
   obtain ⟨f0,f1,f2,f3,f4,hu,⟨o0,o1,o2,o3,o4⟩,t0,t1,t2,t3,t4⟩:=und53
   obtain ⟨xs,k,hk,hxy,_,hxl,hff⟩:=DataW.trod_struct hu h2
   have hxl5:xs.length=5:=hxl
   obtain ⟨y0,y1,y2,y3,y4,rfl⟩:=five_any hxl5
   obtain ⟨v0,v1,v2,v3,v4,rfl⟩:=five_any hlen
   have g0:=hff 0 f0 rfl
   have g1:=hff 1 f1 rfl
   have g2:=hff 2 f2 rfl
   have g3:=hff 3 f3 rfl
   have g4:=hff 4 f4 rfl
   simp [o0,o1,o2,o3,o4,t0,t1,t2,t3,t4,ce3] at g0 g1 g2 g3 g4
   obtain ⟨z0,w0,_,k0⟩:=DataW.trod_int und3 g0
   obtain ⟨z1,w1,_,k1⟩:=DataW.trod_int und3 g1
   obtain ⟨z2,w2,_,k2⟩:=DataW.trod_int und3 g2
   obtain ⟨z3,w3,_,k3⟩:=DataW.trod_int und3 g3
   obtain ⟨z4,w4,_,k4⟩:=DataW.trod_int und3 g4
   simp only [List.cons.injEq,and_true] at w0 w1 w2 w3 w4
   subst w0 w1 w2 w3 w4
   have i64:∀ {z:Int},(Lit.int .i64 z).wf=true→I64 z:=fun h=>by
    simp [Lit.wf,IntKind.min,IntKind.max,IntKind.signed,IntKind.bits] at h
    exact ⟨by omega,by omega⟩
   have c:∀ j,j<5→w.cell? ⟨b,o+i*5+j,none⟩=[Value.int .i64 z0,.int .i64 z1,.int .i64 z2,.int .i64 z3,.int .i64 z4][j]?:=fun j hj=>by
    have:=hcell j hj
    rw [Deep.add_add] at this
    unfold Addr.add at this
    by_cases e:i*5+j=0
    ·rw [if_pos e] at this
     rw [show o+i*5+j=o by omega]
     exact this
    ·rw [if_neg e] at this
     rw [show o+i*5+j=o+(i*5+j) by omega]
     simpa using this
   exact ⟨⟨z0,z1,z2,z3,z4⟩,⟨i64 k0,i64 k1,i64 k2,i64 k3,i64 k4⟩,c 0 (by omega),c 1 (by omega),c 2 (by omega),c 3 (by omega),c 4 (by omega)⟩
  haveI:Inhabited RawD:=⟨⟨0,0,0,0,0⟩⟩
  obtain ⟨F,hF⟩:=Deep.choose_lt each
  refine ⟨(List.range len).map F,by simp,⟨fun i r hr=>?_,fun r hr=>?_⟩,fun a ha=>?_⟩
  ·rw [List.getElem?_map] at hr
   have hi:i<len:=by
    rcases Nat.lt_or_ge i len with h|h
    ·exact h
    ·rw [List.getElem?_eq_none (by simpa using h)] at hr;cases hr
   rw [List.getElem?_range hi] at hr
   cases hr
   obtain ⟨_,q0,q1,q2,q3,q4⟩:=hF i hi
   exact ⟨b,o,rfl,e2,q0,q1,q2,q3,q4⟩
  ·obtain ⟨i,hi,rfl⟩:=List.mem_map.1 hr
   exact (hF i (List.mem_range.1 hi)).1
  ·cases ha
   exact ⟨e2,e3,e4⟩
end
end Go.Sim.Z
