/- PROVED HERE: laws that the statement rests on (parts Qh, Qi, Ra). Conditions: none. -/
import Derived.Test.YtlcbehhbfglgaaaGreatE42
import Derived.Test.YtlcbehhbfglgaaaGreatE43
set_option linter.all false
namespace Go.Sim.Z
open Go Go.Proofs Go.RowKit Go.Conc Go.Maps
section
variable {W E:Nat→Prop} {w w' w2:World} {ga la:Option Addr} {fs:List FactD} {rs:List RawD} {cap:Nat} {pl:List Nat}
theorem cell_dat {w:World} {a:Addr} {v:Value} (h:w.cell? a=some v):∃ o,w.heap[a.block]?=some o∧Dat o:=by
 unfold World.cell? at h
 cases ho:w.heap[a.block]? with
 | none=>rw [ho] at h;cases h
 | some o=>
  rw [ho] at h
  cases o with
  | cells c el fz=>exact ⟨_,rfl,trivial⟩
  | _=>cases h
theorem FsAt.ke (hW:WR C0 (okP C0 S0) (idE E) w w2) (hg:∀ a,ga=some a→E a.block) (k:KE E w w') (h:FsAt false w ga fs cap pl):∃ pl',(∀ y∈pl',y∈pl∧E y∧∃ o,w'.heap[y]?=some o∧Dat o)∧FsAt false w' ga fs cap pl':=by
 classical
 refine ⟨pl.filter fun b=>decide (E b∧∃ o,w.heap[b]?=some o∧Dat o),fun y hy=>?_,fun y hy=>?_,fun i f hf=>?_,h.cap⟩
 ·obtain ⟨h1,h2⟩:=List.mem_filter.1 hy
  obtain ⟨h3,o,h4,h5⟩:=of_decide_eq_true h2
  exact ⟨h1,h3,o,k _ _ h3 h4 h5,h5⟩
 ·obtain ⟨h1,h2⟩:=List.mem_filter.1 hy
  obtain ⟨h3,o,h4,h5⟩:=of_decide_eq_true h2
  exact lt_of (k _ _ h3 h4 h5)
 ·obtain ⟨g,kb,kc,h1,h2,h3,h4⟩:=h.at_ i f hf
  have eg:E g:=hg _ h1
  have ek:E kb:=(hW.ptr_in eg h4.ck).sliceE
  obtain ⟨cur,hb,hrest⟩:=h4.row
  obtain ⟨z,hz,hz2⟩:=id hb
  refine ⟨g,kb,kc,h1,List.mem_filter.2 ⟨h2,decide_eq_true ⟨eg,cell_dat h4.ck⟩⟩,List.mem_filter.2 ⟨h3,decide_eq_true ⟨ek,_,hz,trivial⟩⟩,k.cell eg h4.ck,k.cell eg h4.ci,k.cell eg h4.cv,cur,k.blk ek hb,hrest⟩
theorem Row.keE {b:Nat} {t:TypeId} {q:IntKind} {xs:List Int} (h:Row false w b t q xs cap) (k:KE E w w') (hb:E b):Row false w' b t q xs cap:=by
 obtain ⟨cur,h1,h2⟩:=h
 exact ⟨cur,k.blk hb h1,h2⟩
theorem CMap.of_empty {b:Nat} (h:w.heap[b]?=some (.map #[] 0)):CMap w b []:=by
 obtain ⟨es,clock,h2,h3,h4,h5⟩:=World.ownsMap_made w Tryz.prog 76 (H:=Value) Rv
 rw [show (w.alloc (.map #[] 0)).heap[w.heap.size]?=some (.map #[] 0) from heap_new _] at h2
 cases h2
 exact ⟨fun p hp=>by simp at hp,by simp,[],.refl _,0,#[],0,h,h3,h4,h5⟩
theorem TabAt.of_empty {c:CfgD} {b:Nat} (h:w.heap[b]?=some (.map #[] 0)):TabAt false w c b []:=
 ⟨CMap.of_empty h,fun t ht=>(by cases ht),fun t ht=>(by cases ht),(by simp [tpl]),.nil⟩
end
theorem bunF_h {c:CfgD} {bs:List Int} {A:List (Int × Int)} (hA:(A.length:Int)≤9223372036854775807):∀ x∈(bunF c bs A).h,0≤x∧x≤A.length:=by
 induction A using snocRec with
 | nil=>
  intro x hx
  obtain rfl:=List.eq_of_mem_replicate (show x∈List.replicate (c.nb+1) 0 from hx)
  exact ⟨by omega,by simp⟩
 | append_singleton A f ih=>
  rw [List.length_append,List.length_singleton] at hA ⊢
  have ih:=ih (by omega)
  rw [bunF_snoc]
  intro x hx
  rcases mem_set (show x∈(bunF c bs A).h.set _ _ from hx) with rfl|hx
  ·have hg:0≤(bunF c bs A).h.getD (histI bs f.2) 0∧(bunF c bs A).h.getD (histI bs f.2) 0≤A.length:=by
    rw [List.getD_eq_getElem?_getD]
    cases he:(bunF c bs A).h[histI bs f.2]? with
    | none=>simp
    | some z=>exact ih z (List.mem_of_getElem? he)
   unfold wrap64
   omega
  ·have:=ih x hx
   omega
theorem sel_length (hs:Int→Int) (m:Nat) (k:List Int) (fs:List FactD):(sel hs m k fs).length≤fs.length:=by
 unfold sel
 rw [List.length_map]
 exact List.length_filter_le _ _
section
variable {c:CfgD} {bs:List Int} {hs:Int→Int} {fs:List FactD} {T:List TR} {m:Nat}
theorem tab_row (hn:(T.map (·.k)).Nodup) (hT:∀ k,tm T k=bunO c bs (sel hs m k fs)) {t:TR} (ht:t∈T):t.B=bunF c bs (sel hs m t.k fs)∧∃ f∈fs,underN m (padK f.k) 5=t.k:=by
 have h1:=hT t.k
 rw [tm_mem hn ht] at h1
 unfold bunO at h1
 split at h1
 ·cases h1
 ·rename_i hne
  refine ⟨Option.some.inj h1,?_⟩
  cases hs':sel hs m t.k fs with
  | nil=>exact absurd hs' hne
  | cons x l=>
   have hx:x∈sel hs m t.k fs:=by rw [hs'];exact .head _
   obtain ⟨f,hf,_⟩:=List.mem_map.1 hx
   obtain ⟨h2,h3⟩:=List.mem_filter.1 hf
   exact ⟨f,h2,of_decide_eq_true h3⟩
theorem tab_has (hT:∀ k,tm T k=bunO c bs (sel hs m k fs)) {f:FactD} (hf:f∈fs):∃ t∈T,t.k=underN m (padK f.k) 5:=by
 have h1:=hT (underN m (padK f.k) 5)
 have hne:sel hs m (underN m (padK f.k) 5) fs≠[]:=by
  unfold sel
  intro e
  have:=List.map_eq_nil_iff.1 e
  have hf':f∈fs.filter fun g=>decide (underN m (padK g.k) 5=underN m (padK f.k) 5):=List.mem_filter.2 ⟨hf,by simp⟩
  rw [this] at hf'
  cases hf'
 unfold bunO at h1
 rw [if_neg hne] at h1
 obtain ⟨t,T1,T2,rfl,ht,_⟩:=look_some h1
 exact ⟨t,by simp,ht⟩
theorem under0 {k:List Int} (h:k.length=5):underN 0 k 5=[0,0,0,0,0]:=by
 obtain ⟨a,b,d,e,f,rfl⟩:=five_of h
 simp [underN,List.zipIdx_cons]
theorem sel0 (h3:∀ f∈fs,f.k.length=3):sel hs 0 [0,0,0,0,0] fs=fs.map fun f=>(hs f.it,f.v):=by
 unfold sel
 rw [List.filter_eq_self.2 fun f hf=>?_]
 rw [under0 (padK_len3 (h3 f hf))]
 simp
where padK_len3 {ks:List Int} (h:ks.length=3):(padK ks).length=5:=padK_length (by omega)
end
def U64:List (List Int):=(List.range 64).map fun i=>[((i / 16:Nat):Int),((i / 4 % 4:Nat):Int),((i % 4:Nat):Int),0,0]
theorem raw_key (r:RawD):padK r.fact.k∈U64:=by
 have p:∀ c,0≤pickZ c 4∧pickZ c 4<4:=fun c=>by have:=pickZ_bd (c:=c) (n:=4) (by omega);omega
 have ha:=p r.a
 have hb:=p r.b
 have hc:=p r.c
 refine List.mem_map.2 ⟨((pickZ r.a 4)*16+(pickZ r.b 4)*4+pickZ r.c 4).toNat,List.mem_range.2 (by omega),?_⟩
 simp only [RawD.fact,padK,List.length_cons,List.length_nil,List.cons_append,List.nil_append,List.cons.injEq]
 refine ⟨by omega,by omega,by omega,rfl⟩
theorem U64_len:U64.length=64:=by simp [U64]
theorem hs1_bd (y:Int):0≤IntKind.u64.wrap y∧IntKind.u64.wrap y≤18446744073709551615:=by
 have e:IntKind.u64.wrap y=y % 18446744073709551616:=by simp [IntKind.wrap,IntKind.signed,IntKind.bits]
 omega
section
variable {W E:Nat→Prop} {w:World} {fn:FuncId} {c rest:Code} {t:Array Value} {k:List Item} {cs:List Frame} {Q:Array Value→World→Prop} {Post:(Nat→Prop)→Goroutine→World→Prop}
theorem reach_pc (hl:∀ i,(C0.hl fn).contains i=true→i=1∨i=34∨500≤i) (hne:C0.hl fn≠[]) (hok:okCode C0 S0 fn c=true) (hb:HasBody C0 fn) (hdf:S0.df.contains fn=false) (hB:BOk C0 S0 W E w) (ht:TmR C0 S0 fn (idE E) t t) (hsz:t.size≤500)
  (K:∀ τ,c.wp Tryz.prog (fun e a w1=>e=.normal∧a.tmps.size≤500∧(a.tmps[1]?=t[1]?∧a.tmps[34]?=t[34]?)∧Q a.tmps w1) ⟨t,[stuckD]⟩ (w.tp τ 0))
  (kn:∀ E' t' w1 w',(∀ b,E b→E' b)→BOk C0 S0 W E' w'→WR C0 (okP C0 S0) (idE E') w1 w'→TmR C0 S0 fn (idE E') t' t'→Q t' w1→(∀ b,W b→w'.heap[b]?=w.heap[b]?)→Reach Tryz.prog Post W (G ((base fn).at ⟨t',[]⟩ (.code rest::k)) cs) w') :
  Reach Tryz.prog Post W (G ((base fn).at ⟨t,[]⟩ (.code (.seq c rest)::k)) cs) w:=by
 refine Reach.mid (Mid:=fun g' w'=>∃ E' t' w1,g'=G ((base fn).at ⟨t',[]⟩ (.code rest::k)) cs∧(∀ b,E b→E' b)∧BOk C0 S0 W E' w'∧WR C0 (okP C0 S0) (idE E') w1 w'∧TmR C0 S0 fn (idE E') t' t'∧Q t' w1) ?_ fun g' w' ⟨E',t',w1,e,h1,h2,h3,h4,h5⟩ hK=>?_
 ·refine at_idle (fun w1=>stepG_seq) rfl fun d=>?_
  refine Reach.piece (b:=base fn) (k:=.code rest::k) allOk0 rfl hok hb hdf hne (by simp [base]) (hB.at d) ht (Q:=fun e t w1=>e=.normal∧Q t w1) (fun τ=>?_) (fun E1 t1 w1 w1' hs1 hB1 hW1 ht1 hq1=>Reach.here ⟨rfl,E1,t1,w1,rfl,hs1,hB1,hW1,ht1,hq1.2⟩) (fun E1 t1 w1 w1' todo hs1 hB1 hW1 ht1 hq1=>by cases hq1.1)
  refine wp_mono (K τ) fun e a w1 ⟨h1,h2,h0,h3⟩=>⟨.inl h1,fun i hi=>?_,h1,h3⟩
  rcases hl i hi with rfl|rfl|h
  ·exact h0.1
  ·exact h0.2
  ·rw [Array.getElem?_eq_none (by omega),Array.getElem?_eq_none (by omega)]
 ·subst e
  exact kn E' t' w1 w' h1 h2 h3 h4 h5 hK
end
theorem ok4_0:okCode C0 S0 4 e4_0=true:=by kernel_rfl
theorem ok4_1:okCode C0 S0 4 e4_1=true:=by kernel_rfl
theorem ok4_2:okCode C0 S0 4 e4_2=true:=by kernel_rfl
theorem ok4_3:okCode C0 S0 4 e4_3=true:=by kernel_rfl
noncomputable def ops45:Array Oper:=opsOf e4_5
theorem e45_eq:e4_5=.region 5 ops45 false:=by kernel_rfl
theorem op45_0:∃ o,ops45[0]?=some o∧o.op=.move (.tmp 1)∧o.guard=none∧o.dst=some 34:=by
 simp only [ops45,e4_5,opsOf,b4,fC,sC,Tryz.f4,Option.getD_some]
 exact ⟨_,rfl,rfl,rfl,rfl⟩
theorem op45_1:∃ o t,ops45[1]?=some o∧o.op=.call { callee:=.value (.func 6),args:=#[.tmp 34],argTypes:=t }∧o.guard=none∧o.dst=some 35:=by
 simp only [ops45,e4_5,opsOf,b4,fC,sC,Tryz.f4,Option.getD_some]
 exact ⟨_,_,rfl,rfl,rfl,rfl⟩
theorem op45_2:∃ o,ops45[2]?=some o∧o.op=.assign (.tmp 35)∧o.guard=none∧o.dst=some 8:=by
 simp only [ops45,e4_5,opsOf,b4,fC,sC,Tryz.f4,Option.getD_some]
 exact ⟨_,rfl,rfl,rfl,rfl⟩
theorem ok4_6:okCode C0 S0 4 e4_6=true:=by kernel_rfl
theorem ok4_t:okCode C0 S0 4 tail4=true:=by kernel_rfl
theorem ok4_7:okIs C0 S0 4 ops4 [2,3,4,5,6]=true:=by kernel_rfl
theorem has4:HasBody C0 4:=⟨Tryz.f4,by kernel_rfl,by kernel_rfl,by kernel_rfl⟩
theorem df4:S0.df.contains 4=false:=rfl
theorem hl4_ne:C0.hl 4≠[]:=by
 show [1,34,1000]≠[]
 simp
theorem hl4 {i:Nat} (h:(C0.hl 4).contains i=true):i=1∨i=34∨500≤i:=by
 have h':i∈[1,34,1000]:=List.contains_iff_mem.1 h
 simp at h'
 omega
theorem hl4' {i:Nat} (h:i<500∧i≠1∧i≠34):(C0.hl 4).contains i=false:=by
 cases e:(C0.hl 4).contains i with
 | false=>rfl
 | true=>have:=hl4 e;omega
theorem op4_0:∃ o,ops4[0]?=some o∧o.op=.move (.tmp 6)∧o.guard=none∧o.dst=some 40:=by
 simp only [ops4,opsOf,b4,fC,sC,Tryz.f4,Option.getD_some]
 exact ⟨_,rfl,rfl,rfl,rfl⟩
theorem op4_1:∃ o,ops4[1]?=some o∧o.op=.call { callee:=.value (.func 9),args:=#[.tmp 40,.const (.int .i64 0),.const (.slice none 0 0),.const (.int .i64 10)],argTypes:=#[25,3,55,3] }∧o.guard=none∧o.dst=some 41:=by
 simp only [ops4,opsOf,b4,fC,sC,Tryz.f4,Option.getD_some]
 exact ⟨_,rfl,rfl,rfl,rfl⟩
section
variable {w:World} {T:Array Value} {d:Deferred} {v:Value} {sl:Value} {cb:Nat}
set_option maxRecDepth 100000 in
theorem ops4_wp {K:Exit→Act→World→Prop} (hsz:T.size=170) (h5:T[5]?=some (pt cb)) (h8:T[8]?=some sl) (h9:T[9]?=some .nilIface) (h41:T[41]?=some (.tuple #[v,.nilIface])) (hv:∃ a l c,v=.slice a l c)
  (hK:∀ a,a.defers=[d]→a.tmps.size=170→a.tmps[5]?=some (pt cb)→a.tmps[8]?=some sl→a.tmps[9]?=some .nilIface→a.tmps[10]?=some v→a.tmps[11]?=some .nilIface→a.tmps[1]?=T[1]?→a.tmps[34]?=T[34]?→K .normal a w) :
  wpOps Tryz.prog ops4 K [2,3,4,5,6] ⟨T,[d]⟩ w:=by
 obtain ⟨f,rfl⟩:=arr170 hsz
 have e5:f 5=_:=Option.some.inj h5
 have e8:f 8=_:=Option.some.inj h8
 have e9:f 9=_:=Option.some.inj h9
 have e41:f 41=_:=Option.some.inj h41
 rw [e5,e8,e9,e41]
 obtain ⟨va,vl,vc,rfl⟩:=hv
 have h2:ops4[2]?=((ops4.toList.drop 2).take 5)[0]?:=by kernel_rfl
 have h3:ops4[3]?=((ops4.toList.drop 2).take 5)[1]?:=by kernel_rfl
 have h4:ops4[4]?=((ops4.toList.drop 2).take 5)[2]?:=by kernel_rfl
 have h5:ops4[5]?=((ops4.toList.drop 2).take 5)[3]?:=by kernel_rfl
 have h6:ops4[6]?=((ops4.toList.drop 2).take 5)[4]?:=by kernel_rfl
 have hop:∀ j,j<((ops4.toList.drop 2).take 5).length→ops4[2+j]?=((ops4.toList.drop 2).take 5)[j]?:=fun j hj=>by
  have:j<5:=Nat.lt_of_lt_of_le hj (by rw [List.length_take];omega)
  obtain rfl|rfl|rfl|rfl|rfl:j=0∨j=1∨j=2∨j=3∨j=4:=by omega
  ·exact h2
  ·exact h3
  ·exact h4
  ·exact h5
  ·exact h6
 have e:=wpOps_of_list (P:=Tryz.prog) (ops:=ops4) (Q:=K) ((ops4.toList.drop 2).take 5) 2 hop
 clear hop h2 h3 h4 h5 h6
 rw [show List.range' 2 ((ops4.toList.drop 2).take 5).length=[2,3,4,5,6] from by kernel_rfl] at e
 rw [e]
 simp only [ops4,opsOf,b4,fC,sC,Tryz.f4,Option.getD_some,List.take,List.drop]
 go_wp2
 exact hK _ rfl rfl rfl rfl rfl rfl rfl rfl rfl
end
structure HS (fn:FuncId) (W E0:Nat→Prop) (w0:World) (E:Nat→Prop) (T:Array Value) (w:World):Prop where
 bok:BOk C0 S0 W E w
 le:∀ b,E0 b→E b
 ke:KE E0 w0 w
 kw:∀ b,W b→w.heap[b]?=w0.heap[b]?
 tm:TmR C0 S0 fn (idE E) T T
 own:S0.own fn=[]
 sz:w0.heap.size≤w.heap.size
section
variable {fn:FuncId} {W E0 E:Nat→Prop} {w0 w:World} {T:Array Value} {ops:Array Oper} {i:Nat} {rest:List Nat} {o:Oper} {s:Nat} {v:Value} {k:List Item} {cs:List Frame} {Post:(Nat→Prop)→Goroutine→World→Prop}
theorem HS.at (h:HS fn W E0 w0 E T w) (d:Nat):HS fn W E0 w0 E T (w.at d):=⟨h.bok.at d,h.le,h.ke.trans (.of_eq fun _ _=>rfl),h.kw,h.tm,h.own,h.sz⟩
theorem HS.own' (h:HS fn W E0 w0 E T w) (s:Nat):(S0.own fn).contains s=false:=by rw [h.own];rfl
theorem HS.set (h:HS fn W E0 w0 E T w) (hv:(C0.hl fn).contains s=true∨VR C0 (idE E) v v):TmR C0 S0 fn (idE E) (T.setIfInBounds s v) (T.setIfInBounds s v):=by
 rcases hv with hv|hv
 ·exact h.tm.hole hv (h.own' s) v
 ·exact h.tm.set s hv fun e=>by rw [h.own' s] at e;cases e
theorem HS.to {E':Nat→Prop} {w':World} (h:HS fn W E0 w0 E T w) (hB:BOk C0 S0 W E' w') (hs:∀ b,E b→E' b) (he:KE E w w') (hw:∀ b,W b→w'.heap[b]?=w.heap[b]?) (hz:w.heap.size≤w'.heap.size):HS fn W E0 w0 E' T w':=
 ⟨hB,fun b hb=>hs b (h.le b hb),h.ke.trans (he.mono h.le),fun b hb=>(hw b hb).trans (h.kw b hb),h.tm.mono (idE_mono hs),h.own,Nat.le_trans h.sz hz⟩
theorem HS.put (h:HS fn W E0 w0 E T w) {T':Array Value} (ht:TmR C0 S0 fn (idE E) T' T'):HS fn W E0 w0 E T' w:=⟨h.bok,h.le,h.ke,h.kw,ht,h.own,h.sz⟩
theorem HS.start (h:HS fn W E0 w0 E T w):HS fn W E w E T w:=⟨h.bok,fun _ h=>h,.refl,fun _ _=>rfl,h.tm,h.own,Nat.le_refl _⟩
theorem HS.comp {E':Nat→Prop} {T':Array Value} {w':World} (h:HS fn W E0 w0 E T w) (k:HS fn W E w E' T' w'):HS fn W E0 w0 E' T' w':=⟨k.bok,fun b hb=>k.le b (h.le b hb),h.ke.trans (k.ke.mono h.le),fun b hb=>(k.kw b hb).trans (h.kw b hb),k.tm,k.own,Nat.le_trans h.sz k.sz⟩
theorem hs_pure (h:HS fn W E0 w0 E T w) (ho:ops[i]?=some o) (hw:Region.wanted o (yielded ops T)=true) (hd:o.dst=some s) (hr:∀ w1,(execOp (Act.eval ⟨T,[]⟩) o).run Tryz.prog w1=.ok (.value v) w1) (he:∀ w1,(execOp (Act.eval ⟨T,[]⟩) o).events Tryz.prog w1 #[]=#[])
  (hv:(C0.hl fn).contains s=true∨VR C0 (idE E) v v) (kn:∀ w',HS fn W E0 w0 E (T.setIfInBounds s v) w'→w'.heap=w.heap→Reach Tryz.prog Post W (G ((base fn).at ⟨T.setIfInBounds s v,[]⟩ (.inRegion ops rest::k)) cs) w') :
  Reach Tryz.prog Post W (G ((base fn).at ⟨T,[]⟩ (.inRegion ops (i::rest)::k)) cs) w:=by
 refine at_idle (fun w1=>stepG_pure (v:=v) ho hw (by simp [base]) (hr w1) (he w1)) rfl fun d=>?_
 rw [hd]
 exact kn _ ((h.put (h.set hv)).at d) rfl
theorem hs_skip (h:HS fn W E0 w0 E T w) (ho:ops[i]?=some o) (hw:Region.wanted o (yielded ops T)=false) (hd:o.dst=some s)
  (kn:∀ w',HS fn W E0 w0 E (T.setIfInBounds s undef) w'→w'.heap=w.heap→Reach Tryz.prog Post W (G ((base fn).at ⟨T.setIfInBounds s undef,[]⟩ (.inRegion ops rest::k)) cs) w') :
  Reach Tryz.prog Post W (G ((base fn).at ⟨T,[]⟩ (.inRegion ops (i::rest)::k)) cs) w:=by
 refine at_idle (fun w1=>stepG_unwanted ho hw) rfl fun d=>?_
 rw [hd]
 exact kn _ ((h.put (h.set (.inr .undef))).at d) rfl
theorem hs_peek (h:HS fn W E0 w0 E T w) {a:Addr} (hW:W a.block) (hT:∀ c z,w.heap[a.block]?≠some (.cells c wgT z)) (hc:w.cell? a=some v) (ho:ops[i]?=some o) (hw:Region.wanted o (yielded ops T)=true) (hd:o.dst=some s)
  (hr:∀ w1,w1.cell? a=some v→(execOp (Act.eval ⟨T,[]⟩) o).run Tryz.prog w1=.ok (.value v) w1) (he:∀ w1,w1.cell? a=some v→(execOp (Act.eval ⟨T,[]⟩) o).events Tryz.prog w1 #[]=#[⟨.cell a,false,false⟩])
  (hv:(C0.hl fn).contains s=true∨VR C0 (idE E) v v) (kn:∀ w',HS fn W E0 w0 E (T.setIfInBounds s v) w'→(∀ b,E b∨W b→w'.heap[b]?=w.heap[b]?)→w'.heap.size=w.heap.size→Reach Tryz.prog Post W (G ((base fn).at ⟨T.setIfInBounds s v,[]⟩ (.inRegion ops rest::k)) cs) w') :
  Reach Tryz.prog Post W (G ((base fn).at ⟨T,[]⟩ (.inRegion ops (i::rest)::k)) cs) w:=by
 have hB:=h.bok
 have hlt:a.block<w.heap.size:=by
  unfold World.cell? at hc
  cases hb:w.heap[a.block]? with
  | none=>rw [hb] at hc;cases hc
  | some x=>exact (Array.getElem?_eq_some_iff.1 hb).1
 have hR:Runs false Tryz.prog true (fun y=>y.g=G ((base fn).at ⟨T.setIfInBounds s v,[]⟩ (.inRegion ops rest::k)) cs∧(∀ b,E b→y.w.heap[b]?=w.heap[b]?)∧y.w.heap.size=w.heap.size∧y.w.os=w.os) ⟨E,fun b=>E b∨b=a.block,G ((base fn).at ⟨T,[]⟩ (.inRegion ops (i::rest)::k)) cs,w⟩:=by
  refine .step (fun w1=>⟨grown E w1 w1,grown (fun b=>E b∨b=a.block) w1 w1,G ((base fn).at ⟨T.setIfInBounds s v,[]⟩ (.inRegion ops rest::k)) cs,w1⟩) (fun w1 r=>⟨?_,rfl,rfl,rfl,rfl,rfl⟩) fun w1 r=>.stop fun w2 r2=>⟨rfl,fun b hb=>?_,?_,?_⟩
  ·have hc1:w1.cell? a=some v:=(World.cell?_of_block (r.blocks a.block (.inr rfl))).trans hc
   refine ⟨listed Tryz.prog (base fn).fn ⟨T,[]⟩ o w1,?_,⟨Nat.le_refl _,fun _ _ _=>rfl,rfl,rfl,Nat.le_refl _,fun e hev=>?_⟩⟩
   ·rw [stepG_value ho hw (by simp [base]) (hr w1 hc1),hd]
    rfl
   ·have h1:=mem_seen hev
    rw [he w1 hc1] at h1
    simp only [List.mem_toArray,List.mem_cons,List.not_mem_nil,or_false] at h1
    subst h1
    exact ⟨⟨.inl (.inr rfl),fun h=>by cases h⟩,rfl⟩
  ·exact (r2.blocks b (.inl (.inl hb))).trans (r.blocks b (.inl hb))
  ·exact (r2.same rfl).trans (r.same rfl)
  ·exact r2.os.trans r.os
 refine Reach.of_runs_ (Z:=fun _=>False) hR rfl (fun b c z hb ht hx=>?_) hB.dis (fun b hb=>hb.elim) (fun b hb=>hb.elim (fun hb=>hB.lt hb) fun e=>e▸hlt) ?_
 ·rcases hx with hx|rfl
  ·exact hB.dis b hb hx
  ·exact hT c z ht
 rintro ⟨own,X,g,wy⟩ ⟨rfl,h1,h2,h3⟩ _ _ _ hK
 simp only at h1 h2 h3
 have hB':BOk C0 S0 W E wy:=hB.rely rfl ⟨h1,Nat.le_of_eq h2.symm,fun _=>h2,h3⟩
 exact kn wy ((h.put (h.set hv)).to hB' (fun _ h=>h) (.of_eq h1) hK.keep (Nat.le_of_eq h2.symm)) (fun b hb=>hb.elim (h1 b) (hK.keep b)) h2
theorem hs_alloc (h:HS fn W E0 w0 E T w) {arr:Array Value} {ty:TypeId} (ho:ops[i]?=some o) (hw:Region.wanted o (yielded ops T)=true) (hd:o.dst=some s)
  (hr:∀ w1,w1.heap.size=w.heap.size→(execOp (Act.eval ⟨T,[]⟩) o).run Tryz.prog w1=.ok (.value v) (w1.alloc (.cells arr ty))) (he:∀ w1,(execOp (Act.eval ⟨T,[]⟩) o).events Tryz.prog w1 #[]=#[])
  (ha:∀ x∈arr.toList,VR C0 (idE E) x x) (hv:(C0.hl fn).contains s=true∨VR C0 (idE fun b=>E b∨b=w.heap.size) v v)
  (kn:∀ w',HS fn W E0 w0 (fun b=>E b∨b=w.heap.size) (T.setIfInBounds s v) w'→(∀ b,E b∨W b→w'.heap[b]?=w.heap[b]?)→w'.heap[w.heap.size]?=some (.cells arr ty)→w'.heap.size=w.heap.size+1→Reach Tryz.prog Post W (G ((base fn).at ⟨T.setIfInBounds s v,[]⟩ (.inRegion ops rest::k)) cs) w') :
  Reach Tryz.prog Post W (G ((base fn).at ⟨T,[]⟩ (.inRegion ops (i::rest)::k)) cs) w:=by
 refine Reach.mid (Mid:=fun g' w'=>g'=G ((base fn).at ⟨T.setIfInBounds s v,[]⟩ (.inRegion ops rest::k)) cs∧BOk C0 S0 W (fun b=>E b∨b=w.heap.size) w'∧w'.heap.size=w.heap.size+1∧(∀ b,E b→w'.heap[b]?=w.heap[b]?)∧w'.heap[w.heap.size]?=some (.cells arr ty)) ?_ fun g' w' ⟨e,h1,h2,h3,h4⟩ hK=>?_
 ·refine Reach.alloc (C:=C0) (S:=S0) (g':=G ((base fn).at ⟨T.setIfInBounds s v,[]⟩ (.inRegion ops rest::k)) cs) (o:=.cells arr ty) rfl h.bok rfl rfl rfl rfl ⟨_,_,rfl,.refl_of (fun x hx=>(ha x hx).mono (idE_mono fun b hb=>.inl hb)),fun h=>(C0.lax rfl _ h).elim,fun _=>⟨rfl,fun _=>rfl⟩⟩ (fun w1 hw1=>?_) fun w' h1 h2 h3 h4=>Reach.here ⟨rfl,rfl,h1,h2,h3,h4⟩
  show stepG Tryz.prog true _ w1=_
  rw [stepG_value ho hw (by simp [base]) (hr w1 hw1),hd]
  unfold listed
  rw [he w1,seen_none]
  rfl
 ·subst e
  have h5:HS fn W E0 w0 (fun b=>E b∨b=w.heap.size) T w':=h.to h1 (fun b hb=>.inl hb) (.of_eq h3) hK (by omega)
  exact kn w' (h5.put (h5.set hv)) (fun b hb=>hb.elim (h3 b) (hK b)) h4 h2
theorem hs_ops (h:HS fn W E0 w0 E T w) {pre:List Nat} {Q:Array Value→World→Prop} (hX:okIs C0 S0 fn ops pre=true) (hrest:rest≠[]) (hb:HasBody C0 fn) (hdf:S0.df.contains fn=false) (hl:C0.hl fn≠[])
  (K:∀ τ,wpOps Tryz.prog ops (fun e a w1=>e=.normal∧a.defers=[stuckD]∧(∀ i,(C0.hl fn).contains i=true→i<T.size→a.tmps[i]?=T[i]?)∧Q a.tmps w1) pre ⟨T,[stuckD]⟩ (w.tp τ 0))
  (kn:∀ E' T' w1 w',(∀ b,E b→E' b)→BOk C0 S0 W E' w'→WR C0 (okP C0 S0) (idE E') w1 w'→TmR C0 S0 fn (idE E') T' T'→Q T' w1→(∀ b,W b→w'.heap[b]?=w.heap[b]?)→Reach Tryz.prog Post W (G ((base fn).at ⟨T',[]⟩ (.inRegion ops rest::k)) cs) w') :
  Reach Tryz.prog Post W (G ((base fn).at ⟨T,[]⟩ (.inRegion ops (pre++rest)::k)) cs) w:=by
 refine Reach.mid (Mid:=fun g' w'=>∃ E' T' w1,g'=G ((base fn).at ⟨T',[]⟩ (.inRegion ops rest::k)) cs∧(∀ b,E b→E' b)∧BOk C0 S0 W E' w'∧WR C0 (okP C0 S0) (idE E') w1 w'∧TmR C0 S0 fn (idE E') T' T'∧Q T' w1) ?_ fun g' w' ⟨E',T',w1,e,h1,h2,h3,h4,h5⟩ hK=>?_
 ·exact Reach.toOps (b:=base fn) allOk0 rfl hX hrest hb hdf hl (by simp [base]) h.bok h.tm K fun E' T' w1 w' h1 h2 h3 h4 h5=>Reach.here ⟨rfl,E',T',w1,rfl,h1,h2,h3,h4,h5⟩
 ·subst e
  exact kn E' T' w1 w' h1 h2 h3 h4 h5 hK
end
end Go.Sim.Z
