/- PROVED HERE: laws that the statement rests on (parts Vl, Xi, Zs, Zt, Zu, Zv, Zw). Conditions: none. -/
import Derived.Test.YtlcbehhbfglgaaaGreatE28
import Derived.Test.YtlcbehhbfglgaaaGreatE36
import Derived.Test.YtlcbehhbfglgaaaGreatE37
import Derived.Test.YtlcbehhbfglgaaaGreatE38
import Derived.Test.YtlcbehhbfglgaaaGreatE39
set_option linter.all false
namespace Go.Sim.Z
open Go Go.Proofs Go.Conc Go.ConcN Go.RowKit Go.Conc.Lib Go.ConcR.Gen Go.ConcN.Gen
open Go.ConcR (KK wgBlock WgAt stA smA rd wr mk Payload DC0)
theorem nt62:Tryz.f62.ntmps=117:=by kernel_rfl
theorem nt66:Tryz.f66.ntmps=84:=by kernel_rfl
theorem rep115:Array.replicate 115 undef=#[undef,undef,undef,undef,undef,undef,undef,undef,undef,undef,undef,undef,undef,undef,undef,undef,undef,undef,undef,undef,undef,undef,undef,undef,undef,undef,undef,undef,undef,undef,undef,undef,undef,undef,undef,undef,undef,undef,undef,undef,undef,undef,undef,undef,undef,undef,undef,undef,undef,undef,undef,undef,undef,undef,undef,undef,undef,undef,undef,undef,undef,undef,undef,undef,undef,undef,undef,undef,undef,undef,undef,undef,undef,undef,undef,undef,undef,undef,undef,undef,undef,undef,undef,undef,undef,undef,undef,undef,undef,undef,undef,undef,undef,undef,undef,undef,undef,undef,undef,undef,undef,undef,undef,undef,undef,undef,undef,undef,undef,undef,undef,undef,undef,undef,undef]:=by kernel_rfl
theorem rep83:Array.replicate 83 undef=#[undef,undef,undef,undef,undef,undef,undef,undef,undef,undef,undef,undef,undef,undef,undef,undef,undef,undef,undef,undef,undef,undef,undef,undef,undef,undef,undef,undef,undef,undef,undef,undef,undef,undef,undef,undef,undef,undef,undef,undef,undef,undef,undef,undef,undef,undef,undef,undef,undef,undef,undef,undef,undef,undef,undef,undef,undef,undef,undef,undef,undef,undef,undef,undef,undef,undef,undef,undef,undef,undef,undef,undef,undef,undef,undef,undef,undef,undef,undef,undef,undef,undef,undef]:=by kernel_rfl
theorem wgScripts (Wg:Nat) (cs:List Frame):WgScripts Wg cs (fun f=>AnchJ link Wg f cs):=by
 refine ⟨fun Next mT a₀ k₀ w hW hN=>?_,?_⟩
 ·have h:=addPosJ (Wg:=Wg) (Next:=Next) (b₀:=base 40) (a₀:=a₀) (ops₀:=q7) (i₀:=0) (rest₀:=[]) (k₀:=k₀) (cs:=cs) (mT:=mT) wgLib hN w hW
  rw [nt62,show 117-2=115 from rfl,rep115]
  simp only [List.append_toArray,List.cons_append,List.nil_append]
  exact h
 ·rintro f w hW ⟨a₀,k₀,rfl⟩
  have h:=waitStartJ (Wg:=Wg) (b₀:=base 40) (a₀:=a₀) (ops₀:=q10) (i₀:=0) (rest₀:=[]) (k₀:=k₀) (cs:=cs) wgLib w hW
  rw [nt66,show 84-1=83 from rfl,rep83]
  simp only [List.append_toArray,List.cons_append,List.nil_append]
  exact h
theorem wgRounds (Wg:Nat) (cs:List Frame):WgRounds Wg cs (fun f=>AnchJ link Wg f cs):=by
 refine ⟨?_,fun Fin a₀ k₀ hN g w hA=>?_⟩
 ·rintro f g w ⟨T,rfl,_⟩
  rfl
 ·exact waitRoundJ (Wg:=Wg) (b₀:=base 40) (a₀:=a₀) (ops₀:=q10) (i₀:=0) (rest₀:=[]) (k₀:=k₀) (cs:=cs) (mT:=0) wgLib hN g w hA
end Go.Sim.Z
namespace Go.Sim.Z
open Go Go.Proofs Go.RowKit Go.Conc
theorem hl40 {i:Nat} (h:(C0.hl 40).contains i=true):i=9∨i=10∨i=18∨i=19∨i=20∨i=21∨i=22∨i=23∨i=24:=by
 have h':i∈[9,10,18,19,20,21,22,23,24]:=List.contains_iff_mem.1 h
 simpa using h'
theorem hl40' {i:Nat} (h:(C0.hl 40).contains i=false):i≠9∧i≠10∧(i<18∨24<i):=by
 have h':i∉[9,10,18,19,20,21,22,23,24]:=fun hm=>by
  have:(C0.hl 40).contains i=true:=List.contains_iff_mem.2 hm
  rw [h] at this;cases this
 simp only [List.mem_cons,List.not_mem_nil,or_false,not_or] at h'
 omega
theorem hl40_ne:C0.hl 40≠[]:=by
 show [9,10,18,19,20,21,22,23,24]≠[]
 simp
theorem df40:S0.df.contains 40=false:=rfl
theorem own40 {i:Nat}:(S0.own 40).contains i=false:=rfl
theorem _root_.Go.Sim.TmR.of_all {C:Cx} {S:Kn} {fn:FuncId} {E:Nat→Prop} {T:Array Value} (h:∀ v∈T.toList,VR C (idE E) v v) (ho:∀ i,(S.own fn).contains i=false):TmR C S fn (idE E) T T:=
 ⟨rfl,fun i x x' _ h1 h2=>by rw [h1] at h2;cases h2;exact h x (Array.mem_toList_iff.2 (Array.mem_of_getElem? h1)),fun i x hi=>by rw [ho i] at hi;cases hi⟩
theorem push3 {H:Array Obj} {n:Nat} (h:H.size=n) (a b c:Obj):(((H.push a).push b).push c)[n]?=some a∧(((H.push a).push b).push c)[n+1]?=some b∧(((H.push a).push b).push c)[n+2]?=some c:=by
 subst h
 refine ⟨?_,?_,?_⟩
 ·rw [Array.getElem?_push,if_neg (by simp;omega),Array.getElem?_push,if_neg (by simp),Array.getElem?_push,if_pos rfl]
 ·rw [Array.getElem?_push,if_neg (by simp),Array.getElem?_push,if_pos (by simp)]
 ·rw [Array.getElem?_push,if_pos (by simp)]
section
variable {W E Fp:Nat→Prop} {w:World} {src mk fb:Nat} {S:List TR} {c:CfgD} {pass:List Int→Bool} {cs:List Frame} {kk:List Item} {Post:(Nat→Prop)→Goroutine→World→Prop}
structure RollIn (E Fp:Nat→Prop) (w:World) (src fb:Nat) (S:List TR) (c:CfgD) (pass:List Int→Bool):Prop where
 h:HOk w
 tab:TabAt false w c src S
 tE:∀ x,x=src∨x∈tpl S→E x∧Tryz.prog.globals.size≤x
 bE:∀ a,c.ba=some a→E a.block∧Tryz.prog.globals.size≤a.block∧Shd Fp w a.block
 fF:Fp fb
 fE:∀ b,Fp b→E b∧Tryz.prog.globals.size≤b∧Shd Fp w b
 pass:PassOk Fp w fb pass
 cfg:CfgOk c
 n:S.length≤1000
theorem Shd.mono {F F':Nat→Prop} {b:Nat} (h:Shd F w b) (hs:∀ b,F b→F' b):Shd F' w b:=by
 obtain ⟨o,h1,h2⟩:=h
 exact ⟨o,h1,fun X Sh hX=>h2 X Sh fun b hb=>hX b (hs b hb)⟩
theorem RollIn.ke {E':Nat→Prop} {w':World} (h:RollIn E Fp w src fb S c pass) (hH:E Tryz.prog.globals.size) (k:KE E w w') (hE:∀ b,E b→E' b):RollIn E' Fp w' src fb S c pass:=
 ⟨h.h.ke k hH,h.tab.ke k fun x hx=>(h.tE x hx).1,fun x hx=>⟨hE _ (h.tE x hx).1,(h.tE x hx).2⟩,fun a ha=>⟨hE _ (h.bE a ha).1,(h.bE a ha).2.1,k.shd (h.bE a ha).1 (h.bE a ha).2.2⟩,h.fF,
  fun b hb=>⟨hE _ (h.fE b hb).1,(h.fE b hb).2.1,k.shd (h.fE b hb).1 (h.fE b hb).2.2⟩,fun w2 hw=>h.pass w2 fun a v hf hv=>hw a v hf (k.cell (h.fE _ hf).1 hv),h.cfg,h.n⟩
structure RollOut (E:Nat→Prop) (w:World) (S:List TR) (c:CfgD) (mk:Nat) (pass:List Int→Bool) (W' E':Nat→Prop) (w':World) (m:Nat):Prop where
 bok:BOk C0 S0 W' E' w'
 le:∀ b,E b→E' b
 ke:KE E w w'
 kl:KL E w w'
 tab:∃ T,TabAt false w' c m T∧Sum c (tm T) (rents S mk pass)∧T.length≤4016∧∀ x,x=m∨x∈tpl T→E' x∧¬ E x
set_option maxHeartbeats 1000000 in
theorem reach_roll (hB:BOk C0 S0 W E w) (hI:RollIn E Fp w src fb S c pass)
  (k:∀ W' E' w' t' todo m,RollOut E w S c mk pass W' E' w' m→t'[6]?=some (.map (some m))→Reach Tryz.prog Post W' (G { (base 40).at ⟨t',[]⟩ todo with mode:=.returning } cs) w') :
  Reach Tryz.prog Post W (G ((base 40).at ⟨R0 src mk fb,[]⟩ (.code b40::kk)) cs) w:=by
 have hT0:TmR C0 S0 40 (idE E) (R0 src mk fb) (R0 src mk fb):=by
  refine .of_all (fun v hv=>?_) fun _=>own40
  have e:R0 src mk fb=#[.map (some src),.int .i64 mk,.func (.func 42) #[] #[.pointer (some ⟨fb,0,none⟩)]]++Array.replicate 46 undef:=by
   rw [rep46];simp only [R0,List.append_toArray,List.cons_append,List.nil_append]
  rw [e,Array.toList_append,List.mem_append] at hv
  rcases hv with hv|hv
  ·simp only [List.mem_cons,List.not_mem_nil,or_false] at hv
   rcases hv with rfl|rfl|rfl
   ·exact .map ⟨rfl,(hI.tE _ (.inl rfl)).1⟩
   ·exact .int _ _
   ·refine .func (.func (by show List.contains _ _=true;kernel_rfl)) rfl (fun i x x' h=>by simp at h) ⟨rfl,by simp⟩ fun i x x' h1 h2=>?_
    rw [h1] at h2;cases h2
    cases i with
    | zero=>simp at h1;subst h1;exact .ptr _ _ ⟨rfl,(hI.fE _ hI.fF).1⟩
    | succ i=>simp at h1
  ·simp only [Array.toList_replicate] at hv
   rw [List.eq_of_mem_replicate hv];exact .undef
 rw [b40_eq]
 refine Reach.idle (fun w1=>stepG_seq) rfl fun wa ra=>?_
 obtain ⟨d,rfl⟩:=ra
 have hBa:=hB.at d
 have hsz0:Tryz.prog.globals.size<w.heap.size:=hB.lt hB.hnd
 refine Reach.piece (b:=base 40) allOk0 rfl ok40_0 has40 df40 hl40_ne (by simp [base]) hBa hT0 (Q:=fun e t w1=>e=.normal∧t=R1 src mk fb w.heap.size (w.heap.size+1) (w.heap.size+2)∧w1.heap=((w.heap.push (.cells #[.map (some src)] 70)).push (.cells #[.int .i64 mk] 3)).push (.cells #[.func (.func 42) #[] #[.pointer (some ⟨fb,0,none⟩)]] 111)) (fun τ=>?_) (fun E1 t1 w1 w1' hs1 hB1 hW1 ht1 hq1=>?_) (fun E1 t1 w1 w1' todo hs1 hB1 hW1 ht1 hq1=>by cases hq1.1)
 ·refine wp_mono p40_0_wp fun e a w1 ⟨q1,q2,q3⟩=>⟨.inl q1,fun i hi=>?_,q1,q2,q3⟩
  rw [q2]
  rcases hl40 hi with rfl|rfl|rfl|rfl|rfl|rfl|rfl|rfl|rfl<;>rfl
 obtain ⟨-,rfl,hh1⟩:=hq1
 generalize hn3:w.heap.size=n3 at *
 have l1:=lax_heap rfl hW1
 have a3:E1 n3:=(ht1.slot (i:=3) rfl rfl).ptrE
 have a4:E1 (n3+1):=(ht1.slot (i:=4) rfl rfl).ptrE
 have a5:E1 (n3+2):=(ht1.slot (i:=5) rfl rfl).ptrE
 have o1:∀ b,b<n3→w1.heap[b]?=w.heap[b]?:=fun b hb=>by
  rw [hh1,Array.getElem?_push_lt (by simp;omega),Array.getElem_push_lt (by simp;omega),Array.getElem_push_lt (by omega),Array.getElem?_eq_getElem (by omega)]
 obtain ⟨p3,p4,p5⟩:=push3 hn3 (.cells #[.map (some src)] 70) (.cells #[.int .i64 mk] 3) (.cells #[.func (.func 42) #[] #[.pointer (some ⟨fb,0,none⟩)]] 111)
 rw [← hh1] at p3 p4 p5
 have c3:=l1 _ _ a3 p3 trivial
 have c4:=l1 _ _ a4 p4 trivial
 have c5:=l1 _ _ a5 p5 trivial
 have k1:KE E w w1':=fun b o hb ho hd=>l1 b o (hs1 b hb) ((o1 b (hn3▸lt_of ho)).trans ho) hd
 have hI1:=hI.ke hB.hnd k1 hs1
 refine Reach.idle (fun w1=>stepG_seq) rfl fun wa ra=>?_
 obtain ⟨d2,rfl⟩:=ra
 refine Reach.piece (b:=base 40) allOk0 rfl ok40_1 has40 df40 hl40_ne (by simp [base]) (hB1.at d2) ht1 (Q:=fun e t w2=>e=.normal∧∃ v ks n7,t=R2a src mk fb n3 (n3+1) (n3+2) v n7∧keysOf (S.map TR.kv) ks∧KRow w2 w1'.heap.size v ks∧w1'.heap.size≤n7∧w2.heap[n7]?=some (.cells #[v] 88)∧Keeps w1' w2) (fun τ=>?_) (fun E2 t2 w2 w2' hs2 hB2 hW2 ht2 hq2=>?_) (fun E1 t1 w1 w1' todo hs1 hB1 hW1 ht1 hq1=>by cases hq1.1)
 ·have hm:CMap ((w1'.at d2).tp τ 0) src (S.map TR.kv):=hI1.tab.map.kept rfl
  refine wp_mono (p40_1_wp (mk:=mk) (fb:=fb) (n4:=n3+1) (n5:=n3+2) (d:=stuckD) hm (by simp;have:=hI.n;omega) (n3:=n3) ((cell_of (w:=(w1'.at d2).tp τ 0) c3 0).trans rfl)) fun e a w2 ⟨q1,v,ks,n7,q2,q3,q4,q5,q6,q7⟩=>⟨.inl q1,fun i hi=>?_,q1,v,ks,n7,q2,q3,q4,q5,q6,⟨q7.size,q7.heap⟩⟩
  rw [q2]
  rcases hl40 hi with rfl|rfl|rfl|rfl|rfl|rfl|rfl|rfl|rfl<;>rfl
 obtain ⟨-,v,ks,n7,rfl,hks,hrow,hn7,hk7,hkeep⟩:=hq2
 obtain ⟨ka,kc,hka,rfl,hkb⟩:=hrow.at
 have l2:=lax_heap rfl hW2
 have a7:E2 n7:=(ht2.slot (i:=7) rfl rfl).ptrE
 have aka:∀ a,ka=some a→E2 a.block:=fun a e=>by
  have:=ht2.slot (i:=17) (v:=.slice ka ks.length kc) rfl rfl
  rw [e] at this
  exact this.sliceE
 have k2:KE E1 w1' w2':=.step hkeep l2 hs2
 have hI2:=hI1.ke hB1.hnd k2 hs2
 have d3:=k2 _ _ a3 c3 trivial
 have d4:=k2 _ _ a4 c4 trivial
 have d5:=k2 _ _ a5 c5 trivial
 have d7:=l2 _ _ a7 hk7 trivial
 have hka2:=hka.ke l2 aka
 refine Reach.idle (fun w1=>stepG_seq) rfl fun wa ra=>?_
 obtain ⟨d2',rfl⟩:=ra
 refine Reach.piece (b:=base 40) allOk0 rfl ok40_2 has40 df40 hl40_ne (by simp [base]) (hB2.at d2') ht2 (Q:=fun e t w3=>e=.normal∧t=R3a src mk fb n3 (n3+1) (n3+2) (.slice ka ks.length kc) n7 w2'.heap.size∧w3.heap=w2'.heap.push (.cells #[.map none,.map none,.map none,.map none] 138)) (fun τ=>?_) (fun E3 t3 w3 w3' hs3 hB3 hW3 ht3 hq3=>?_) (fun E1 t1 w1 w1' todo hs1 hB1 hW1 ht1 hq1=>by cases hq1.1)
 ·refine wp_mono p40_2_wp fun e a w3 ⟨q1,q2,q3⟩=>⟨.inl q1,fun i hi=>?_,q1,q2,q3⟩
  rw [q2]
  rcases hl40 hi with rfl|rfl|rfl|rfl|rfl|rfl|rfl|rfl|rfl<;>rfl
 obtain ⟨-,rfl,hh3⟩:=hq3
 generalize hC:w2'.heap.size=C at *
 have l3:=lax_heap rfl hW3
 have a8:E3 C:=(ht3.slot (i:=8) rfl rfl).ptrE
 have hkeep3:Keeps w2' w3:=⟨by rw [hh3];simp,fun b hb=>by rw [hh3,Array.getElem?_push_lt hb,Array.getElem?_eq_getElem hb]⟩
 have k3:KE E2 w2' w3':=.step hkeep3 l3 hs3
 have hI3:=hI2.ke hB2.hnd k3 hs3
 have e3:=k3 _ _ (hs2 _ a3) d3 trivial
 have e4:=k3 _ _ (hs2 _ a4) d4 trivial
 have e5:=k3 _ _ (hs2 _ a5) d5 trivial
 have e7:=k3 _ _ a7 d7 trivial
 have hka3:=hka2.ke k3 aka
 have e8:=l3 C (.cells #[.map none,.map none,.map none,.map none] 138) a8 (by rw [hh3,← hC];simp) trivial
 have lt2:∀ b,E2 b→b<C:=fun b hb=>hC▸hB2.lt hb
 refine Reach.idle (fun w1=>stepG_seq) rfl fun wa ra=>?_
 obtain ⟨d3',rfl⟩:=ra
 refine Reach.idle (fun w1=>stepG_region) rfl fun wa ra=>?_
 obtain ⟨d4',rfl⟩:=ra
 rw [show List.range q3.size=[0] from rfl]
 have hBp:=(hB3.at d3').at d4'
 have hwp:((w3'.at d3').at d4').heap=w3'.heap:=rfl
 generalize (w3'.at d3').at d4'=wp at hBp hwp ⊢
 have hIp:RollIn E3 Fp wp src fb S c pass:=hI3.ke hB3.hnd (.of_eq fun b _=>by rw [hwp]) fun _ h=>h
 have cell:∀ {b i:Nat} {arr:Array Value} {t:TypeId} {v:Value},w3'.heap[b]?=some (.cells arr t)→arr[i]?=some v→wp.cell? ⟨b,i,none⟩=some v:=fun h hv=>(cell_of (hwp▸h) _).trans hv
 have gC:∀ b,n3≤b→Tryz.prog.globals.size≤b:=fun b hb=>by omega
 have n31:n3≤w1'.heap.size:=Nat.le_of_lt (hB1.lt a3)
 have hkg:∀ a,ka=some a→n3≤a.block:=fun a e=>by have:=(hkb a e).1;omega
 let F:Nat→Prop:=fun b=>b=Tryz.prog.globals.size∨b=n7∨b=n3+2∨b=n3+1∨b=n3∨(∃ a,ka=some a∧b=a.block)∨(b=src∨b∈tpl S)∨(∃ a,c.ba=some a∧b=a.block)∨Fp b
 have hFE2:∀ b,F b→E2 b:=by
  rintro b (rfl|rfl|rfl|rfl|rfl|⟨a,e,rfl⟩|h|⟨a,e,rfl⟩|h)
  ·exact hB2.hnd
  ·exact a7
  ·exact hs2 _ a5
  ·exact hs2 _ a4
  ·exact hs2 _ a3
  ·exact aka a e
  ·exact (hI2.tE b h).1
  ·exact (hI2.bE a e).1
  ·exact (hI2.fE b h).1
 have FT:∀ x,x=src∨x∈tpl S→F x:=fun x h=>.inr (.inr (.inr (.inr (.inr (.inr (.inl h))))))
 have Fb:∀ a,c.ba=some a→F a.block:=fun a e=>.inr (.inr (.inr (.inr (.inr (.inr (.inr (.inl ⟨a,e,rfl⟩)))))))
 have FF:∀ b,Fp b→F b:=fun b h=>.inr (.inr (.inr (.inr (.inr (.inr (.inr (.inr h)))))))
 have blk:∀ {b:Nat} {arr:Array Value} {t:TypeId},w3'.heap[b]?=some (.cells arr t)→Blk false wp b arr t:=fun h=>⟨(0,0),hwp▸h,fun _=>rfl⟩
 have hRF:RF F wp c n7 (n3+2) (n3+1) n3 ka kc ks fb mk src S pass:=by
  refine ⟨cell e7 rfl,cell e5 rfl,cell e4 rfl,cell e3 rfl,hka3.ke (E:=fun _=>True) (.of_eq fun b _=>by rw [hwp]) fun _ _=>trivial,hIp.tab,fun w2 hw=>hIp.pass w2 fun a v hf hv=>hw a v (FF _ hf) hv,
   .inr (.inl rfl),.inr (.inr (.inl rfl)),.inr (.inr (.inr (.inl rfl))),.inr (.inr (.inr (.inr (.inl rfl)))),.inl rfl,fun a e=>.inr (.inr (.inr (.inr (.inr (.inl ⟨a,e,rfl⟩))))),FT,Fb,?_,hI.cfg,?_,fun x hx=>?_⟩
  ·rintro b (rfl|rfl|rfl|rfl|rfl|⟨a,e,rfl⟩|h|⟨a,e,rfl⟩|h)
   ·obtain ⟨arr,t,q1,q2⟩:=hIp.h
    exact ⟨Nat.le_refl _,.plain q1 q2⟩
   ·refine ⟨gC _ (by omega),.of_cells (blk e7) fun X Sh hX v hv=>?_⟩
    simp only [List.mem_cons,List.not_mem_nil,or_false] at hv
    subst hv
    cases hka':ka with
    | none=>exact .nilSlice _ _
    | some a=>exact .slice _ _ _ _ ⟨rfl,hX _ (.inr (.inr (.inr (.inr (.inr (.inl ⟨a,hka',rfl⟩))))))⟩
   ·refine ⟨gC _ (by omega),.of_cells (blk e5) fun X Sh hX v hv=>?_⟩
    simp only [List.mem_cons,List.not_mem_nil,or_false] at hv
    subst hv
    refine .func (.func (by show List.contains _ _=true;kernel_rfl)) rfl (fun i x x' h=>by simp at h) ⟨rfl,by simp⟩ fun i x x' h1 h2=>?_
    rw [h1] at h2;cases h2
    cases i with
    | zero=>simp at h1;subst h1;exact .ptr _ _ ⟨rfl,hX _ (FF _ hI.fF)⟩
    | succ i=>simp at h1
   ·refine ⟨gC _ (by omega),.of_cells (blk e4) fun X Sh hX v hv=>?_⟩
    simp only [List.mem_cons,List.not_mem_nil,or_false] at hv
    subst hv
    exact .int _ _
   ·refine ⟨gC _ (by omega),.of_cells (blk e3) fun X Sh hX v hv=>?_⟩
    simp only [List.mem_cons,List.not_mem_nil,or_false] at hv
    subst hv
    exact .map ⟨rfl,hX _ (FT _ (.inl rfl))⟩
   ·refine ⟨gC _ (hkg a e),?_⟩
    rcases hka3 with ⟨e',_⟩|⟨g,cur,q1,q2,q3,q4,q5,q6⟩
    ·rw [e'] at e;cases e
    ·rw [q1] at e;cases e
     exact .plain (q2.kept (by rw [hwp])) q6
   ·exact ⟨(hIp.tE b h).2,Shd.tab hIp.tab FT Fb b h⟩
   ·exact ⟨(hIp.bE a e).2.1,(hIp.bE a e).2.2.mono FF⟩
   ·exact ⟨(hIp.fE b h).2.1,(hIp.fE b h).2.2.mono FF⟩
  ·have:=hks.length
   simp only [List.length_map] at this
   have:=hI.n
   omega
  ·obtain ⟨t,_,_,h⟩:=hks.row hIp.tab.nodup hx
   exact ⟨_,h⟩
 refine (reach_phase (R2:=RC c S mk pass ks) (fun Wg=>wgScripts Wg cs) (fun Wg=>wgRounds Wg cs) hBp (T:=R3a src mk fb n3 (n3+1) (n3+2) (.slice ka ks.length kc) n7 C) rfl rfl rfl rfl rfl rfl a8 ⟨_,hwp▸e8,rfl⟩ (F:=F) (fun b hb=>⟨hs3 b (hFE2 b hb),fun e=>by have:=lt2 b (hFE2 b hb);omega⟩) hRF.work
  (fun w' i Sh E2 w2 r r' hi hF hs hW hv hr=>RC.of_RW hs hW hv hr)).bind ?_
 rintro W4 g4 w4 ⟨Wg,T4,E4,rfl,hT4,rfl,hP⟩
 refine Reach.idle (fun w1=>stepG_region_end) rfl fun wa ra=>?_
 obtain ⟨d5',rfl⟩:=ra
 obtain ⟨cc,O,hcc,hcs,hdis,hO,hres⟩:=hP.parts
 obtain ⟨r0,hr0,_,m0,T0,rfl,tab0,sum0,pl0,len0⟩:=hres 0 (by omega)
 obtain ⟨r1,hr1,_,m1,T1,rfl,tab1,sum1,pl1,len1⟩:=hres 1 (by omega)
 obtain ⟨r2,hr2,_,m2,T2,rfl,tab2,sum2,pl2,len2⟩:=hres 2 (by omega)
 obtain ⟨r3,hr3,_,m3,T3,rfl,tab3,sum3,pl3,len3⟩:=hres 3 (by omega)
 have ecc:cc=#[.map (some m0),.map (some m1),.map (some m2),.map (some m3)]:=by
  apply Array.ext_getElem?
  intro i
  match i with
  | 0=>exact hr0
  | 1=>exact hr1
  | 2=>exact hr2
  | 3=>exact hr3
  | i+4=>rw [Array.getElem?_eq_none (by omega),Array.getElem?_eq_none (by simp)]
 subst ecc
 have hT4m:TmR C0 S0 40 (idE E4) T4 T4:=by
  refine ⟨rfl,fun i x x' hi h1 h2=>?_,fun i x hi=>by rw [own40] at hi;cases hi⟩
  rw [h1] at h2;cases h2
  obtain ⟨h9,h10,h18⟩:=hl40' hi
  rw [hT4.low i h18 h9 h10] at h1
  exact (ht3.slot hi h1).mono (idE_mono hP.le)
 have hl4:ks.length≤1000:=hRF.kn
 have hC8:=hT4.C8
 have hsz4:=hT4.size
 clear hT4
 obtain ⟨x0,x1,x2,x3,x4,x5,x6,x7,x8,x9,x10,x11,x12,x13,x14,x15,x16,x17,x18,x19,x20,x21,x22,x23,x24,x25,x26,x27,x28,x29,x30,x31,x32,x33,x34,x35,x36,x37,x38,x39,x40,x41,x42,x43,x44,x45,x46,x47,x48,rfl⟩:=arr49 hsz4
 obtain rfl:x8=.pointer (some ⟨C,0,none⟩):=by simpa [ptr] using hC8
 refine Reach.piece (b:=base 40) allOk0 rfl ok40_t has40 df40 hl40_ne (by simp [base]) (hP.bok.at d5') hT4m (Q:=fun e t w5=>e=.ret∧t[6]?=some (.map (some m0))∧∃ EE,EE.Perm (tents T1++tents T2++tents T3)∧∃ T,TabAt false w5 c m0 T∧Sum c (tm T) (ents S mk pass (pick4 0 ks.length ks)++EE)∧T.length≤4016∧(∀ x,x=m0∨x∈tpl T→(x=m0∨x∈tpl T0)∨w4.heap.size≤x)∧∀ b,b<w4.heap.size→¬ (b=m0∨b∈tpl T0)→w5.heap[b]?=w4.heap[b]?) (fun τ=>?_) (fun E1 t1 w1 w1' hs1 hB1 hW1 ht1 hq1=>by cases hq1.1) (fun E5 t5 w5 w5' todo hs5 hB5 hW5 ht5 hq5=>?_)
 ·have kp:∀ {m:Nat} {T:List TR},TabAt false w4 c m T→TabAt false ((w4.at d5').tp τ 0) c m T:=fun h=>h.kept fun _ _=>rfl
  refine wp_mono (tail_wp (x8:=undef) (w:=(w4.at d5').tp τ 0) (C:=C) (mp:=fun i=>match i with|0=>m1|1=>m2|_=>m3) (P:=fun i=>match i with|0=>T1|1=>T2|_=>T3) hI.cfg hcc (kp tab0) sum0 (by omega) (fun i hi=>?_) (fun h=>?_) stuckD) fun e a w2 ⟨q1,q2,q3,q4,q5,q6,q7,q8,q9,q10,q11,EE,q12,T,z1,z2,z3,z4,z5⟩=>⟨.inr q1,fun i hi=>?_,q1,q11,EE,q12,T,z1,z2,z3,z4,z5.heap⟩
  ·match i,hi with
   | 0,_=>exact ⟨kp tab1,by show T1.length≤1004;omega,fun x hx hx'=>hdis 1 0 (by omega) (by omega) (by omega) x (pl1 x hx) (pl0 x hx')⟩
   | 1,_=>exact ⟨kp tab2,by show T2.length≤1004;omega,fun x hx hx'=>hdis 2 0 (by omega) (by omega) (by omega) x (pl2 x hx) (pl0 x hx')⟩
   | 2,_=>exact ⟨kp tab3,by show T3.length≤1004;omega,fun x hx hx'=>hdis 3 0 (by omega) (by omega) (by omega) x (pl3 x hx) (pl0 x hx')⟩
  ·exact (hO 0 (by omega) C (pl0 C h)).2 a8
  ·rcases hl40 hi with rfl|rfl|rfl|rfl|rfl|rfl|rfl|rfl|rfl
   ·exact q2
   ·exact q3
   ·exact q4
   ·exact q5
   ·exact q6
   ·exact q7
   ·exact q8
   ·exact q9
   ·exact q10
 obtain ⟨-,h6,EE,hEE,T5,z1,z2,z3,z4,z5⟩:=hq5
 have l5:=lax_heap rfl hW5
 have hba5:∀ a,c.ba=some a→E5 a.block:=fun a e=>hs5 _ (hP.le _ (hI3.bE a e).1)
 have hm5:E5 m0:=(ht5.slot (i:=6) rfl h6).mapE
 have hpl5:=z1.places rfl hW5 hba5 hm5
 have hE3:∀ b,E b→E3 b:=fun b hb=>hs3 b (hs2 b (hs1 b hb))
 have hE4:∀ b,E b→E4 b:=fun b hb=>hP.le b (hE3 b hb)
 have lt0:∀ b,E b→b<n3:=fun b hb=>hn3▸hB.lt hb
 have n3C:n3<C:=lt2 n3 (hs2 _ a3)
 refine k _ E5 w5' t5 todo m0 ⟨hB5,fun b hb=>hs5 b (hE4 b hb),fun b o hb ho hd=>?_,?_,T5,z1.ke l5 hpl5,?_,z3,fun x hx=>⟨hpl5 x hx,fun hEx=>?_⟩⟩ h6
 ·have s1:=k1 b o hb ho hd
  have s2:=k2 b o (hs1 b hb) s1 hd
  have s3:=k3 b o (hs2 b (hs1 b hb)) s2 hd
  have hbC:b≠C:=by have:=lt0 b hb;omega
  have s4:w4.heap[b]?=some o:=(hP.keep b (hE3 b hb) hbC).trans (by rw [hwp];exact s3)
  have s5:w5.heap[b]?=some o:=(z5 b (lt_of s4) fun hm=>(hO 0 (by omega) b (pl0 b hm)).2 (hE3 b hb)).trans s4
  exact l5 b o (hs5 b (hE4 b hb)) s5 hd
 ·have q1:KL E w w1':=(KL.of_eq fun b hb=>o1 b (lt0 b hb)).trans ((KL.of_wr hW1).mono hs1)
  have q2:KL E1 w1' w2':=(KL.keeps hkeep fun b hb=>hB1.lt hb).trans ((KL.of_wr hW2).mono hs2)
  have q3:KL E2 w2' w3':=(KL.keeps hkeep3 fun b hb=>hB2.lt hb).trans ((KL.of_wr hW3).mono hs3)
  have q4:KL E w3' w4:=KL.of_eq fun b hb=>(hP.keep b (hE3 b hb) (by have:=lt0 b hb;omega)).trans (by rw [hwp])
  have q5:KL E w4 w5':=(KL.of_eq fun b hb=>z5 b (hP.bok.lt (hE4 b hb)) fun hm=>(hO 0 (by omega) b (pl0 b hm)).2 (hE3 b hb)).trans ((KL.of_wr hW5).mono fun b hb=>hs5 b (hE4 b hb))
  exact q1.trans ((q2.mono hs1).trans ((q3.mono fun b hb=>hs2 b (hs1 b hb)).trans (q4.trans q5)))
 ·exact Sum.all hI.tab.ok hI.tab.nodup hks rfl tab1.nodup tab2.nodup tab3.nodup tab1.ok tab2.ok tab3.ok sum1 sum2 sum3 hEE z2
 ·rcases z4 x hx with h|h
  ·exact (hO 0 (by omega) x (pl0 x h)).2 (hE3 x hEx)
  ·have:=hP.bok.lt (hE4 x hEx)
   omega
end
section
variable {E E':Nat→Prop} {w w' w'':World} {base mo ob l D:Nat} {T9:Array Value} {most:Int} {L:List QC}
theorem hl9 {i:Nat} (h:i≠18):(C0.hl 9).contains i=false:=by
 show [18].contains i=false
 simp [h]
theorem QAt.kl {W:Nat→Prop} (h:QAt base T9 mo ob l D most L w) (hB:BOk C0 S0 W E w) (hW:KL E w w') (hl:E l) (hm:E mo) (ho:E ob) (hD:E D) :
  ∃ T9',QAt base T9' mo ob l D most L w'∧T9'.size=T9.size∧∀ i,i≠18→T9'[i]?=T9[i]?:=by
 have hk:=hW.ke
 obtain ⟨T',q1,q2,q3⟩:=hW.lp _ _ hl h.lp
 obtain ⟨v,hv,hown⟩:=h.box
 refine ⟨T',⟨⟨v,hk _ _ ho hv trivial,?_⟩,q1,hk _ _ hm h.mo trivial,hW.df _ hD h.D⟩,q2,fun i hi=>q3 i (hl9 hi)⟩
 have hE:∀ b b',idE E b b'→b=b':=fun _ _ h=>h.1
 refine ⟨hown.1,?_⟩
 rcases hown.2 with hn|⟨g,cap,cur,rfl,hb,hgg,rest⟩
 ·exact .inl hn
 ·have hEg:E g:=by
   obtain ⟨o1,o',h1,h2,h3⟩:=hB.1.get (b:=ob) (b':=ob) ⟨rfl,ho⟩
   rw [hv] at h1;cases h1
   obtain ⟨c',fz',rfl,ha,_⟩:=h3
   obtain ⟨v',h4,r⟩:=ha.some_of (i:=0) rfl
   have e:=r.eq hE
   subst e
   exact r.sliceE
  exact .inr ⟨g,cap,cur,rfl,hb,hk _ _ hEg hgg trivial,rest⟩
theorem ok38_d:okCode C0 S0 38 d38=true:=by kernel_rfl
theorem ok38_r:okCode C0 S0 38 rest38=true:=by kernel_rfl
theorem has38:HasBody C0 38:=⟨Tryz.f38,by kernel_rfl,by kernel_rfl,by kernel_rfl⟩
theorem df38:S0.df.contains 38=false:=rfl
theorem hl38_ne:C0.hl 38≠[]:=by
 show [1000]≠[]
 simp
theorem hl38 {i:Nat} (h:(C0.hl 38).contains i=true):i=1000:=by
 have h':i∈[1000]:=List.contains_iff_mem.1 h
 simpa using h'
theorem ok38_ops {pre:List Nat} (h:∀ i∈pre,i<10):okIs C0 S0 38 ops38 pre=true:=by
 have h10:okIs C0 S0 38 ops38 (List.range 10)=true:=by kernel_rfl
 unfold okIs at h10 ⊢
 rw [List.all_eq_true] at h10 ⊢
 exact fun i hi=>h10 i (List.mem_range.2 (h i hi))
end
section
variable {W E:Nat→Prop} {w:World} {x:Nat} {c:CfgD} {seed nf:Int} {h:Value} {vm base m b1 b2 b3 l:Nat} {f:Nat→Value} {cs:List Frame} {kk:List Item} {Post:(Nat→Prop)→Goroutine→World→Prop}
theorem KL.cube {w':World} (q:CubeAt w x c seed h nf vm base) (hx:E x) (hv:E vm) (k:KL E w w'):CubeAt w' x c seed h nf vm base:=by
 obtain ⟨⟨z,h1,h2⟩,n,es,ck,h3,h4⟩:=q
 refine ⟨⟨z,k.ke _ _ hx h1 trivial,h2⟩,n,es,ck,k.ke _ _ hv h3 trivial,h4⟩
set_option maxRecDepth 100000 in
theorem reach_38a (hB:BOk C0 S0 W E w) (q:CubeAt w x c seed h nf vm base) (hm8:m<8) (k1:w.heap[b1]?=some (.cells #[pt x] 25)) (k2:w.heap[b2]?=some (.cells #[.int .i64 m] 3)) (k3:w.heap[b3]?=some (.cells #[.slice none 0 0] 55))
  (hE:E b1∧E b2∧E b3∧E x∧E vm) (ht:TmR C0 S0 38 (idE E) #[.func (.yield l) #[] #[],pt b1,pt b2,pt b3,f 4,f 5,f 6,f 7,f 8,f 9,f 10,f 11,f 12,f 13,f 14,f 15,f 16,f 17,f 18,f 19,f 20,f 21,f 22,f 23,f 24,f 25,f 26,f 27,f 28,f 29,f 30,f 31,f 32,f 33,f 34,f 35,f 36,f 37,f 38,f 39,f 40,f 41,f 42,f 43,f 44,f 45,f 46,f 47,f 48,f 49,f 50,f 51,f 52,f 53,f 54,f 55,f 56,f 57,f 58,f 59,f 60,f 61,f 62,f 63,f 64,f 65,f 66,f 67,f 68,f 69,f 70,f 71,f 72,f 73,f 74] #[.func (.yield l) #[] #[],pt b1,pt b2,pt b3,f 4,f 5,f 6,f 7,f 8,f 9,f 10,f 11,f 12,f 13,f 14,f 15,f 16,f 17,f 18,f 19,f 20,f 21,f 22,f 23,f 24,f 25,f 26,f 27,f 28,f 29,f 30,f 31,f 32,f 33,f 34,f 35,f 36,f 37,f 38,f 39,f 40,f 41,f 42,f 43,f 44,f 45,f 46,f 47,f 48,f 49,f 50,f 51,f 52,f 53,f 54,f 55,f 56,f 57,f 58,f 59,f 60,f 61,f 62,f 63,f 64,f 65,f 66,f 67,f 68,f 69,f 70,f 71,f 72,f 73,f 74])
  (kn:∀ E' t' w',(∀ b,E b→E' b)→BOk C0 S0 W E' w'→KL E w w'→t'.size=75→(∀ s,s<4→t'[s]?=(#[.func (.yield l) #[] #[],pt b1,pt b2,pt b3,f 4,f 5,f 6,f 7,f 8,f 9,f 10,f 11,f 12,f 13,f 14,f 15,f 16,f 17,f 18,f 19,f 20,f 21,f 22,f 23,f 24,f 25,f 26,f 27,f 28,f 29,f 30,f 31,f 32,f 33,f 34,f 35,f 36,f 37,f 38,f 39,f 40,f 41,f 42,f 43,f 44,f 45,f 46,f 47,f 48,f 49,f 50,f 51,f 52,f 53,f 54,f 55,f 56,f 57,f 58,f 59,f 60,f 61,f 62,f 63,f 64,f 65,f 66,f 67,f 68,f 69,f 70,f 71,f 72,f 73,f 74]:Array Value)[s]?)→t'[28]?=some (.map (some base))→t'[29]?=some (.int .i64 m)→t'[30]?=some (.func (.func 42) #[] #[pt b3])→TmR C0 S0 38 (idE E') t' t' →
   Reach Tryz.prog Post W (G ((Go.Conc.base 38).at ⟨t',[]⟩ (.inRegion ops38 [10,11]::.code rest38::kk)) cs) w') :
  Reach Tryz.prog Post W (G ((Go.Conc.base 38).at ⟨#[.func (.yield l) #[] #[],pt b1,pt b2,pt b3,f 4,f 5,f 6,f 7,f 8,f 9,f 10,f 11,f 12,f 13,f 14,f 15,f 16,f 17,f 18,f 19,f 20,f 21,f 22,f 23,f 24,f 25,f 26,f 27,f 28,f 29,f 30,f 31,f 32,f 33,f 34,f 35,f 36,f 37,f 38,f 39,f 40,f 41,f 42,f 43,f 44,f 45,f 46,f 47,f 48,f 49,f 50,f 51,f 52,f 53,f 54,f 55,f 56,f 57,f 58,f 59,f 60,f 61,f 62,f 63,f 64,f 65,f 66,f 67,f 68,f 69,f 70,f 71,f 72,f 73,f 74],[]⟩ (.code b38::kk)) cs) w:=by
 obtain ⟨id,hb⟩:=b38_eq
 rw [hb]
 refine Reach.idle (fun w1=>stepG_seq) rfl fun wa ra=>?_
 obtain ⟨dd,rfl⟩:=ra
 refine Reach.piece (b:=Go.Conc.base 38) allOk0 rfl ok38_d has38 df38 hl38_ne (by simp [Go.Conc.base]) (hB.at dd) ht (Q:=fun e t w1=>e=.normal∧t=#[.func (.yield l) #[] #[],pt b1,pt b2,pt b3,f 4,.nilIface,f 6,f 7,f 8,f 9,f 10,pt x,.int .i64 m,.slice none 0 0,.nilIface,.nilIface,.bool false,f 17,f 18,f 19,f 20,f 21,f 22,f 23,f 24,f 25,f 26,f 27,f 28,f 29,f 30,f 31,f 32,f 33,f 34,f 35,f 36,f 37,f 38,f 39,f 40,f 41,f 42,f 43,f 44,f 45,f 46,f 47,f 48,f 49,f 50,f 51,f 52,f 53,f 54,f 55,f 56,f 57,f 58,f 59,f 60,f 61,f 62,f 63,f 64,f 65,f 66,f 67,f 68,f 69,f 70,f 71,f 72,f 73,f 74]∧w1.heap=w.heap) (fun τ=>?_) (fun E1 t1 w1 w1' hs1 hB1 hW1 ht1 hq1=>?_) (fun E1 t1 w1 w1' todo hs1 hB1 hW1 ht1 hq1=>by cases hq1.1)
 ·refine wp_mono (d38_wp (d:=stuckD) (w:=(w.at dd).tp τ 0) (q.kept rfl rfl) hm8 ((cell_of (w:=(w.at dd).tp τ 0) k1 0).trans rfl) ((cell_of (w:=(w.at dd).tp τ 0) k2 0).trans rfl) ((cell_of (w:=(w.at dd).tp τ 0) k3 0).trans rfl)) fun e a w1 ⟨q1,q2,q3,q4⟩=>⟨.inl q1,fun i hi=>?_,q1,q3,by rw [q4];rfl⟩
  rw [q3]
  rw [hl38 hi];rfl
 obtain ⟨-,rfl,hh1⟩:=hq1
 have kl1:KL E w w1':=(KL.of_eq fun b _=>by rw [hh1]).trans ((KL.of_wr hW1).mono hs1)
 refine Reach.idle (fun w1=>stepG_seq) rfl fun wa ra=>?_
 obtain ⟨d2,rfl⟩:=ra
 refine Reach.draw rfl (hB1.at d2) fun n w2 hB2 hsz2 hh2=>?_
 rw [show C0.P.follows .mixedOrders=true from mixed]
 obtain ⟨pre,hpre,hlt,hW⟩:=sched_pre (m:=10) (dst:=fun i=>i+21) Tryz.prog (ops:=ops38) (by kernel_rfl) n
 rw [hpre,show List.range' 10 (ops38.size-10)=[10,11] from by kernel_rfl]
 have kl2:KL E w w2:=kl1.trans (KL.of_eq fun b hb=>hh2 b (hs1 b hb))
 refine Reach.toOps (b:=Go.Conc.base 38) allOk0 rfl (ok38_ops hlt) (by simp) has38 df38 hl38_ne (by simp [Go.Conc.base]) hB2 ht1 (Q:=fun t w3=>t.size=75∧(∀ s,s<4→t[s]?=(#[.func (.yield l) #[] #[],pt b1,pt b2,pt b3,f 4,f 5,f 6,f 7,f 8,f 9,f 10,f 11,f 12,f 13,f 14,f 15,f 16,f 17,f 18,f 19,f 20,f 21,f 22,f 23,f 24,f 25,f 26,f 27,f 28,f 29,f 30,f 31,f 32,f 33,f 34,f 35,f 36,f 37,f 38,f 39,f 40,f 41,f 42,f 43,f 44,f 45,f 46,f 47,f 48,f 49,f 50,f 51,f 52,f 53,f 54,f 55,f 56,f 57,f 58,f 59,f 60,f 61,f 62,f 63,f 64,f 65,f 66,f 67,f 68,f 69,f 70,f 71,f 72,f 73,f 74]:Array Value)[s]?)∧t[28]?=some (.map (some base))∧t[29]?=some (.int .i64 m)∧t[30]?=some (.func (.func 42) #[] #[pt b3])∧Keeps w2 w3) (fun τ=>?_) fun E3 t3 w3 w3' hs3 hB3 hW3 ht3 hq3=>?_
 ·have qk:CubeAt (w2.tp τ 0) x c seed h nf vm base:=(KL.cube q hE.2.2.2.1 hE.2.2.2.2 kl2).kept rfl rfl
  refine r38_3_pre (d:=stuckD) (b3:=b3) (T0:=#[.func (.yield l) #[] #[],pt b1,pt b2,pt b3,f 4,.nilIface,f 6,f 7,f 8,f 9,f 10,pt x,.int .i64 m,.slice none 0 0,.nilIface,.nilIface,.bool false,f 17,f 18,f 19,f 20,f 21,f 22,f 23,f 24,f 25,f 26,f 27,f 28,f 29,f 30,f 31,f 32,f 33,f 34,f 35,f 36,f 37,f 38,f 39,f 40,f 41,f 42,f 43,f 44,f 45,f 46,f 47,f 48,f 49,f 50,f 51,f 52,f 53,f 54,f 55,f 56,f 57,f 58,f 59,f 60,f 61,f 62,f 63,f 64,f 65,f 66,f 67,f 68,f 69,f 70,f 71,f 72,f 73,f 74]) hW qk hm8 ((cell_of (w:=w2.tp τ 0) (kl2.ke _ _ hE.1 k1 trivial) 0).trans rfl) ((cell_of (w:=w2.tp τ 0) (kl2.ke _ _ hE.2.1 k2 trivial) 0).trans rfl) rfl rfl rfl rfl ?_
  exact fun a w3 a1 a2 a3 a4 a5 a6 a7 a8=>⟨rfl,a1,fun i hi hi2=>absurd hi2 (by rw [hl38 hi];show ¬ 1000<75;decide),a2,fun s hs=>(a3 s (by omega)).trans (by match s,hs with|0,_|1,_|2,_|3,_=>rfl|s+4,h=>exact absurd h (by omega)),a5,a6,a7,⟨a8.size,fun b hb=>a8.heap b hb fun h=>h⟩⟩
 obtain ⟨q1,q2,q3,q4,q5,q6⟩:=hq3
 have kl3:KL E w w3':=kl2.trans ((KL.of_eq fun b hb=>q6.heap b (hB2.lt (hs1 b hb))).trans ((KL.of_wr hW3).mono fun b hb=>hs3 b (hs1 b hb)))
 exact kn E3 t3 w3' (fun b hb=>hs3 b (hs1 b hb)) hB3 kl3 q1 q2 q3 q4 q5 ht3
end
theorem op38_10:∃ o,ops38[10]?=some o∧o.op=.call { callee:=.value (.func 40),args:=#[.tmp 28,.tmp 29,.tmp 30],argTypes:=#[70,3,111] }∧o.guard=none∧o.dst=some 31:=by
 simp only [ops38,b38,fC,sC,Tryz.f38,Option.getD_some]
 exact ⟨_,rfl,rfl,rfl,rfl⟩
theorem op38_11:∃ o,ops38[11]?=some o∧o.op=.assign (.tmp 31)∧o.guard=none∧o.dst=some 6:=by
 simp only [ops38,b38,fC,sC,Tryz.f38,Option.getD_some]
 exact ⟨_,rfl,rfl,rfl,rfl⟩
section
variable {W E Fp:Nat→Prop} {w:World} {src mk b3:Nat} {S:List TR} {c:CfgD} {pass:List Int→Bool} {t:Array Value} {cs:List Frame} {kk:List Item} {Post:(Nat→Prop)→Goroutine→World→Prop}
theorem RollOut.at {W' E':Nat→Prop} {w':World} {m:Nat} (h:RollOut E w S c mk pass W' E' w' m) (d:Nat):RollOut E w S c mk pass W' E' (w'.at d) m:=by
 obtain ⟨h1,h2,h3,h0,T,h4,h5⟩:=h
 exact ⟨h1.at d,h2,h3.trans (.of_eq fun _ _=>rfl),h0.trans (.of_eq fun _ _=>rfl),T,h4.kept fun _ _=>rfl,h5⟩
theorem reach_38b (hB:BOk C0 S0 W E w) (hI:RollIn E Fp w src b3 S c pass) (hsz:t.size=75) (t28:t[28]?=some (.map (some src))) (t29:t[29]?=some (.int .i64 mk)) (t30:t[30]?=some (.func (.func 42) #[] #[pt b3]))
  (kn:∀ W' E' w' m,RollOut E w S c mk pass W' E' w' m→Reach Tryz.prog Post W' (G ((base 38).at ⟨(t.set! 31 (.map (some m))).set! 6 (.map (some m)),[]⟩ (.inRegion ops38 []::.code rest38::kk)) cs) w') :
  Reach Tryz.prog Post W (G ((base 38).at ⟨t,[]⟩ (.inRegion ops38 [10,11]::.code rest38::kk)) cs) w:=by
 obtain ⟨o,ho,hop,hg,hd⟩:=op38_10
 obtain ⟨o2,ho2,hop2,hg2,hd2⟩:=op38_11
 refine Reach.call (B:=base 38) (a:=⟨t,[]⟩) ho (by simp [Region.wanted,hg]) (by simp [base]) hop (fn:=Tryz.f40) (c:=b40) (by kernel_rfl) (by kernel_rfl) body40 fun d=>?_
 have e:(#[Operand.tmp 28,.tmp 29,.tmp 30].map (Act.eval ⟨t,[]⟩))++Array.replicate (Tryz.f40.ntmps-(#[Operand.tmp 28,.tmp 29,.tmp 30].map (Act.eval ⟨t,[]⟩)).size) undef=R0 src mk b3:=by
  have h1:#[Operand.tmp 28,.tmp 29,.tmp 30].map (Act.eval ⟨t,[]⟩)=#[.map (some src),.int .i64 mk,.func (.func 42) #[] #[pt b3]]:=by
   simp only [List.map_toArray,List.map_cons,List.map_nil,eval_of (a:=⟨t,[]⟩) t28,eval_of (a:=⟨t,[]⟩) t29,eval_of (a:=⟨t,[]⟩) t30]
  have hn:Tryz.f40.ntmps=49:=by kernel_rfl
  rw [h1,hn]
  show _++Array.replicate 46 undef=_
  rw [rep46];simp only [R0,pt,List.append_toArray,List.cons_append,List.nil_append]
 rw [e]
 refine reach_roll (hB.at d) (hI.ke hB.hnd (.of_eq fun _ _=>rfl) fun _ h=>h) fun W' E' w' t' todo m hR h6=>?_
 refine Reach.leave1 (B:=base 40) (a:=⟨t',[]⟩) rfl rfl (fn:=Tryz.f40) (by kernel_rfl) (x:=6) (by kernel_rfl) fun d2=>?_
 have e6:t'.getD 6 undef=.map (some m):=by simp [Array.getD_eq_getD_getElem?,h6]
 rw [ho]
 simp only [Option.bind_some,hd,e6]
 have hv:((⟨t,[]⟩:Act).put (some 31) (.map (some m))).eval (.tmp 31)=.map (some m):=by
  simp [Act.put,Act.eval,Array.getD_eq_getD_getElem?,Array.getElem?_setIfInBounds,hsz]
 refine at_idle (fun w1=>stepG_pure (v:=.map (some m)) ho2 (by simp [Region.wanted,hg2]) (by simp [base]) (by simp [execOp,hop2,hv]) (by simp [execOp,hop2])) rfl fun d3=>?_
 rw [hd2]
 have hR':RollOut E w S c mk pass W' E' w' m:=⟨hR.bok,hR.le,(KE.of_eq (w:=w) (w1:=w.at d) fun _ _=>rfl).trans hR.ke,(KL.of_eq (w:=w) (w':=w.at d) fun _ _=>rfl).trans hR.kl,hR.tab⟩
 exact kn W' E' _ m ((hR'.at d2).at d3)
end
end Go.Sim.Z
namespace Go.Sim.Z
open Go Go.Proofs Go.RowKit Go.Conc Go.Maps
section
variable {E:Nat→Prop} {w w':World} {base base2 mo ob l D m0:Nat} {T9:Array Value} {most:Int} {L:List QC} {T:List TR} {ks:List KeyT}
theorem QAt.cellsE (h:QAt base T9 mo ob l D most L w) (hW:WR C0 (okP C0 S0) (idE E) w w') (ho:E ob) {q:QC} (hq:q∈L) {v:Value} (hv:v∈q.cells):VR C0 (idE E) v v:=by
 obtain ⟨u,hu,hown⟩:=h.box
 have hE:∀ b b',idE E b b'→b=b':=fun _ _ h=>h.1
 rcases hown.2 with ⟨_,hn⟩|⟨g,cap,cur,rfl,hb,hgg,_,_,_,hx⟩
 ·rw [List.length_eq_zero_iff.1 hn] at hq;cases hq
 ·have hEg:E g:=by
   obtain ⟨o1,o',h1,h2,h3⟩:=hW.get (b:=ob) (b':=ob) ⟨rfl,ho⟩
   rw [hu] at h1;cases h1
   obtain ⟨c',fz',rfl,ha,_⟩:=h3
   obtain ⟨v',h4,r⟩:=ha.some_of (i:=0) rfl
   have e:=r.eq hE
   subst e
   exact r.sliceE
  have hm:v∈cur.toList:=List.mem_of_mem_take (by rw [hx];exact List.mem_flatMap.2 ⟨q,hq,hv⟩)
  obtain ⟨o1,o',h1,h2,h3⟩:=hW.get (b:=g) (b':=g) ⟨rfl,hEg⟩
  rw [hgg] at h1;cases h1
  obtain ⟨c',fz',rfl,ha,_⟩:=h3
  obtain ⟨i,hi⟩:=List.mem_iff_getElem?.1 hm
  rw [Array.getElem?_toList] at hi
  obtain ⟨v',h4,r⟩:=ha.some_of hi
  have e:=r.eq hE
  subst e
  exact r
theorem SlN.ke {v:Value} {t:TypeId} {k:IntKind} {xs:List Int} (h:SlN base w v t k xs) (q:KE E w w') (hv:VR C0 (idE E) v v):SlN base w' v t k xs:=by
 obtain ⟨g,cap,rfl,h2,arr,⟨z,h3,h4⟩,h5⟩:=h
 exact ⟨g,cap,rfl,h2,arr,⟨z,q _ _ hv.sliceE h3 trivial,h4⟩,h5⟩
theorem SlI.ke {v:Value} {t:TypeId} {k:IntKind} {xs:List Int} (h:SlI false w base v t k xs) (q:KE E w w') (hv:VR C0 (idE E) v v):SlI false w' base v t k xs:=by
 rcases h with h|⟨g,cap,rfl,h2,arr,⟨z,h3,h4⟩,h5⟩
 ·exact .inl h
 ·exact .inr ⟨g,cap,rfl,h2,arr,⟨z,q _ _ hv.sliceE h3 trivial,h4⟩,h5⟩
theorem Outs.wr (h:Outs base2 w T m0 ks L) (hQ:QAt base T9 mo ob l D most L w) (hW:WR C0 (okP C0 S0) (idE E) w w') (ho:E ob):Outs base2 w' T m0 ks L:=by
 have hk:=lax_heap rfl hW
 refine ⟨h.1,fun i x q hx hq=>?_⟩
 obtain ⟨h1,h2,h3,h4⟩:=h.2 i x q hx hq
 have hv:∀ v∈q.cells,VR C0 (idE E) v v:=fun v hv=>hQ.cellsE hW ho (List.mem_of_getElem? hq) hv
 exact ⟨h1,h2,h3,h4.k.ke hk (hv _ (by simp [QC.cells])),h4.r.ke hk (hv _ (by simp [QC.cells])),h4.h.ke hk (hv _ (by simp [QC.cells])),h4.l.ke hk (hv _ (by simp [QC.cells]))⟩
end
theorem len_le:∀ (l l':List (List Int)),l.Nodup→(∀ x∈l,x∈l')→l.length≤l'.length
 | [],_,_,_=>Nat.zero_le _
 | a::l,l',hn,hs=>by
  obtain ⟨h1,h2⟩:=List.nodup_cons.1 hn
  have h3:=len_le l (l'.erase a) h2 fun x hx=>(List.mem_erase_of_ne (fun e=>h1 (by rw [← e];exact hx))).2 (hs x (.tail _ hx))
  have h4:=List.length_erase_of_mem (hs a (.head _))
  have h5:0<l'.length:=List.length_pos_of_mem (hs a (.head _))
  simp only [List.length_cons]
  omega
theorem Sum.len {c:CfgD} {T S:List TR} {mk:Nat} {pass:List Int→Bool} (hn:(T.map (·.k)).Nodup) (h:Sum c (tm T) (rents S mk pass)):T.length≤S.length:=by
 have h1:=len_le (T.map (·.k)) ((rents S mk pass).map (·.1)) hn fun x hx=>by
  obtain ⟨t,ht,rfl⟩:=List.mem_map.1 hx
  have h2:=h t.k
  rw [tm_mem hn ht] at h2
  cases hl:(rents S mk pass).filter fun e=>decide (e.1=t.k) with
  | nil=>rw [hl] at h2;cases h2
  | cons e l=>
   have hm:e∈(rents S mk pass).filter fun e=>decide (e.1=t.k):=by rw [hl];exact .head _
   obtain ⟨h3,h4⟩:=List.mem_filter.1 hm
   exact List.mem_map.2 ⟨e,h3,of_decide_eq_true h4⟩
 rw [List.length_map,List.length_map] at h1
 exact Nat.le_trans h1 (List.length_filterMap_le _ _)
def HIn (M:Int) (B:Bun):Prop:=∀ x∈B.h,0≤x∧x≤M
theorem HIn.mg {c:CfgD} {M N:Int} {a b:Bun} (ha:HIn M a) (hb:HIn N b) (h:M+N≤9223372036854775807):HIn (M+N) (mg c a b):=by
 intro z hz
 obtain ⟨x,hx,y,hy,rfl⟩:=mem_zipWith (show z∈addL a.h b.h from hz)
 have h1:=ha x hx
 have h2:=hb y hy
 have e:wrap64 (x+y)=x+y:=by
  unfold wrap64
  omega
 rw [e];omega
theorem HIn.fold {c:CfgD} {M:Int} (hM:0≤M):∀ (l:List Bun) (z:Option Bun) (k:Int),(∀ b∈l,HIn M b)→0≤k→(∀ B,z=some B→HIn k B)→k+l.length*M≤9223372036854775807→∀ B,l.foldl (om c) z=some B→HIn (k+l.length*M) B
 | [],z,k,_,_,hz,_,B,hB=>by simpa using hz B hB
 | b::l,z,k,hl,hk,hz,hb,B,hB=>by
  have e:k+((b::l).length:Int)*M=(k+M)+(l.length:Int)*M:=by
   rw [List.length_cons,Int.natCast_succ,Int.add_mul];omega
  have h0:0≤(l.length:Int)*M:=Int.mul_nonneg (by omega) hM
  rw [e] at hb ⊢
  refine HIn.fold hM l (om c z b) (k+M) (fun x hx=>hl x (.tail _ hx)) (by omega) (fun B' hB'=>?_) hb B hB
  cases z with
  | none=>
   cases hB'
   intro x hx
   have:=hl b (.head _) x hx
   omega
  | some a=>
   cases hB'
   exact (hz a rfl).mg (hl b (.head _)) (by omega)
theorem Sum.hin {c:CfgD} {T S:List TR} {mk:Nat} {pass:List Int→Bool} {M:Int} (hM:0≤M) (hn:(T.map (·.k)).Nodup) (h:Sum c (tm T) (rents S mk pass)) (hS:∀ t∈S,HIn M t.B) (hb:S.length*M≤9223372036854775807):∀ t∈T,HIn (S.length*M) t.B:=by
 intro t ht
 have h2:=h t.k
 rw [tm_mem hn ht] at h2
 have hl:(((rents S mk pass).filter fun e:List Int × Bun=>decide (e.1=t.k)).map (fun e:List Int × Bun=>e.2)).length≤S.length:=by
  rw [List.length_map]
  exact Nat.le_trans (List.length_filter_le _ _) (List.length_filterMap_le _ _)
 have hm:((((rents S mk pass).filter fun e:List Int × Bun=>decide (e.1=t.k)).map (fun e:List Int × Bun=>e.2)).length:Int)*M≤S.length*M:=Int.mul_le_mul_of_nonneg_right (by omega) hM
 have h3:=HIn.fold (c:=c) hM (((rents S mk pass).filter fun e:List Int × Bun=>decide (e.1=t.k)).map (fun e:List Int × Bun=>e.2)) none 0 (fun b hb=>by
  obtain ⟨e,he,rfl⟩:=List.mem_map.1 hb
  obtain ⟨u,hu,hu2⟩:=List.mem_filterMap.1 (List.mem_filter.1 he).1
  split at hu2
  ·cases hu2;exact hS u hu
  ·cases hu2) (by omega) (fun B e=>by cases e) (by omega) t.B h2.symm
 intro x hx
 have:=h3 x hx
 omega
end Go.Sim.Z
