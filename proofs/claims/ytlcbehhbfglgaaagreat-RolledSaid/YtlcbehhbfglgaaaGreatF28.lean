/- PROVED HERE: laws. Conditions: none. -/
import Derived.Test.YtlcbehhbfglgaaaGreatF25
import Derived.Test.YtlcbehhbfglgaaaGreatF26
import Derived.Test.YtlcbehhbfglgaaaGreatF27
set_option linter.all false
namespace Go.Sim.Z
open Go Go.Proofs Go.Conc Go.ConcN Go.RowKit Go.Conc.Lib Go.ConcR.Gen Go.ConcN.Gen
open Go.ConcR (KK wgBlock WgAt stA smA rd wr mk Payload DC0)
theorem nt62:Tryz.f62.ntmps=117:=by kernel_rfl
theorem nt66:Tryz.f66.ntmps=84:=by kernel_rfl
theorem Jyh:Array.replicate 115 undef=#[undef,undef,undef,undef,undef,undef,undef,undef,undef,undef,undef,undef,undef,undef,undef,undef,undef,undef,undef,undef,undef,undef,undef,undef,undef,undef,undef,undef,undef,undef,undef,undef,undef,undef,undef,undef,undef,undef,undef,undef,undef,undef,undef,undef,undef,undef,undef,undef,undef,undef,undef,undef,undef,undef,undef,undef,undef,undef,undef,undef,undef,undef,undef,undef,undef,undef,undef,undef,undef,undef,undef,undef,undef,undef,undef,undef,undef,undef,undef,undef,undef,undef,undef,undef,undef,undef,undef,undef,undef,undef,undef,undef,undef,undef,undef,undef,undef,undef,undef,undef,undef,undef,undef,undef,undef,undef,undef,undef,undef,undef,undef,undef,undef,undef,undef]:=by kernel_rfl
theorem J03t:Array.replicate 83 undef=#[undef,undef,undef,undef,undef,undef,undef,undef,undef,undef,undef,undef,undef,undef,undef,undef,undef,undef,undef,undef,undef,undef,undef,undef,undef,undef,undef,undef,undef,undef,undef,undef,undef,undef,undef,undef,undef,undef,undef,undef,undef,undef,undef,undef,undef,undef,undef,undef,undef,undef,undef,undef,undef,undef,undef,undef,undef,undef,undef,undef,undef,undef,undef,undef,undef,undef,undef,undef,undef,undef,undef,undef,undef,undef,undef,undef,undef,undef,undef,undef,undef,undef,undef]:=by kernel_rfl
theorem Jqa (Wg:Nat) (cs:List Frame):J7b Wg cs (fun f=>Jdq link Wg f cs):=by
 refine ⟨fun Next mT a₀ k₀ w hW hN=>?_,?_⟩
 ·have h:=Jw4 (Wg:=Wg) (Next:=Next) (b₀:=base 40) (a₀:=a₀) (ops₀:=q7) (i₀:=0) (rest₀:=[]) (k₀:=k₀) (cs:=cs) (mT:=mT) wgLib hN w hW;rw [nt62,show 117-2=115 from rfl,Jyh];simp only [List.append_toArray,Jc7,Jc8];exact h
 ·rintro f w hW ⟨a₀,k₀,rfl⟩;have h:=Jna (Wg:=Wg) (b₀:=base 40) (a₀:=a₀) (ops₀:=q10) (i₀:=0) (rest₀:=[]) (k₀:=k₀) (cs:=cs) wgLib w hW;rw [nt66,show 84-1=83 from rfl,J03t];simp only [List.append_toArray,Jc7,Jc8];exact h
theorem Jsp (Wg:Nat) (cs:List Frame):Jj2 Wg cs (fun f=>Jdq link Wg f cs):=by
 refine ⟨?_,fun Fin a₀ k₀ hN g w hA=>?_⟩
 ·rintro f g w ⟨T,rfl,_⟩;rfl
 ·exact Jn9 (Wg:=Wg) (b₀:=base 40) (a₀:=a₀) (ops₀:=q10) (i₀:=0) (rest₀:=[]) (k₀:=k₀) (cs:=cs) (mT:=0) wgLib hN g w hA
end Go.Sim.Z
namespace Go.Sim.Z
open Go Go.Proofs Go.RowKit Go.Conc
theorem Jnb {i:Nat} (h:(C0.hl 40).contains i=true):i=9\/i=10\/i=18\/i=19\/i=20\/i=21\/i=22\/i=23\/i=24:=by have h':i∈[9,10,18,19,20,21,22,23,24]:=Jd3.1 h;simpa using h'
theorem J03u {i:Nat} (h:(C0.hl 40).contains i=false):i≠9/\i≠10/\(i<18\/24<i):=by
 have h':i∉[9,10,18,19,20,21,22,23,24]:=fun hm=>by have:(C0.hl 40).contains i=true:=Jd3.2 hm;rw [h] at this;cases this
 simp only [Jb8,Jc2,or_false,not_or] at h';omega
theorem Jbb:C0.hl 40≠[]:=by show [9,10,18,19,20,21,22,23,24]≠[];simp
theorem Jnc:S0.df.contains 40=false:=rfl
theorem Jut {i:Nat}:(S0.own 40).contains i=false:=rfl
theorem _root_.Go.Sim.TmR.Jak {C:Cx} {S:Kn} {fn:FuncId} {E:Nat->Prop} {T:Array Value} (h:∀ v∈T.toList,VR C (idE E) v v) (ho:∀ i,(S.own fn).contains i=false):TmR C S fn (idE E) T T:=
 ⟨rfl,fun i x x' _ h1 h2=>by rw [h1] at h2;cases h2;exact h x (Array.mem_toList_iff.2 (Jc5 h1)),fun i x hi=>by rw [ho i] at hi;cases hi⟩
theorem Juu {H:Array Obj} {n:Nat} (h:H.size=n) (a b c:Obj):(((H.push a).push b).push c)[n]?=some a/\(((H.push a).push b).push c)[n+1]?=some b/\(((H.push a).push b).push c)[n+2]?=some c:=by
 subst h;refine ⟨?_,?_,?_⟩
 ·rw [Jd1,if_neg (by simp;omega),Jd1,if_neg (by simp),Jd1,if_pos rfl]
 ·rw [Jd1,if_neg (by simp),Jd1,if_pos (by simp)]
 ·rw [Jd1,if_pos (by simp)]
section
variable {W E Fp:Nat->Prop} {w:World} {src mk fb:Nat} {S:List TR} {c:J8} {pass:List Int->Bool} {cs:List Frame} {kk:List Item} {Post:(Nat->Prop)->Goroutine->World->Prop}
structure J63 (E Fp:Nat->Prop) (w:World) (src fb:Nat) (S:List TR) (c:J8) (pass:List Int->Bool):Prop where
 h:HOk w
 tab:TabAt false w c src S
 tE:∀ x,x=src\/x∈tpl S->E x/\Tryz.prog.globals.size<=x
 bE:∀ a,c.ba=some a->E a.block/\Tryz.prog.globals.size<=a.block/\Shd Fp w a.block
 fF:Fp fb
 fE:∀ b,Fp b->E b/\Tryz.prog.globals.size<=b/\Shd Fp w b
 pass:Jpm Fp w fb pass
 cfg:Jw c
 n:S.length<=1000
theorem Shd.mono {F F':Nat->Prop} {b:Nat} (h:Shd F w b) (hs:∀ b,F b->F' b):Shd F' w b:=by obtain ⟨o,h1,h2⟩:=h;exact ⟨o,h1,fun X Sh hX=>h2 X Sh fun b hb=>hX b (hs b hb)⟩
theorem J63.ke {E':Nat->Prop} {w':World} (h:J63 E Fp w src fb S c pass) (hH:E Tryz.prog.globals.size) (k:KE E w w') (hE:∀ b,E b->E' b):J63 E' Fp w' src fb S c pass:=
 ⟨h.h.ke k hH,h.tab.ke k fun x hx=>(h.tE x hx).1,fun x hx=>⟨hE _ (h.tE x hx).1,(h.tE x hx).2⟩,fun a ha=>⟨hE _ (h.bE a ha).1,(h.bE a ha).2.1,k.shd (h.bE a ha).1 (h.bE a ha).2.2⟩,h.fF,
  fun b hb=>⟨hE _ (h.fE b hb).1,(h.fE b hb).2.1,k.shd (h.fE b hb).1 (h.fE b hb).2.2⟩,fun w2 hw=>h.pass w2 fun a v hf hv=>hw a v hf (k.cell (h.fE _ hf).1 hv),h.cfg,h.n⟩
structure J6s (E:Nat->Prop) (w:World) (S:List TR) (c:J8) (mk:Nat) (pass:List Int->Bool) (W' E':Nat->Prop) (w':World) (m:Nat):Prop where
 bok:BOk C0 S0 W' E' w'
 le:∀ b,E b->E' b
 ke:KE E w w'
 kl:KL E w w'
 tab:∃ T,TabAt false w' c m T/\Sum c (tm T) (J14 S mk pass)/\T.length<=4016/\∀ x,x=m\/x∈tpl T->E' x/\¬ E x
set_option maxHeartbeats 1000000 in
theorem Jnd (hB:BOk C0 S0 W E w) (hI:J63 E Fp w src fb S c pass)
  (k:∀ W' E' w' t' todo m,J6s E w S c mk pass W' E' w' m->t'[6]?=some (.map (some m))->Reach Tryz.prog Post W' (G { (base 40).at ⟨t',[]⟩ todo with mode:=.returning } cs) w') :
  Reach Tryz.prog Post W (G ((base 40).at ⟨R0 src mk fb,[]⟩ (.code b40::kk)) cs) w:=by
 have hT0:TmR C0 S0 40 (idE E) (R0 src mk fb) (R0 src mk fb):=by
  refine .Jak (fun v hv=>?_) fun _=>Jut;have e:R0 src mk fb=#[.map (some src),.int .i64 mk,.func (.func 42) #[] #[.pointer (some ⟨fb,0,none⟩)]]++Array.replicate 46 undef:=by rw [Jue];simp only [R0,List.append_toArray,Jc7,Jc8]
  rw [e,Array.toList_append,Jc9] at hv;rcases hv with hv|hv
  ·simp only [Jb8,Jc2,or_false] at hv;rcases hv with rfl|rfl|rfl
   ·exact .map ⟨rfl,(hI.tE _ (.inl rfl)).1⟩
   ·exact .int _ _
   ·refine .func (.func (by show List.contains _ _=true;kernel_rfl)) rfl (fun i x x' h=>by simp at h) ⟨rfl,by simp⟩ fun i x x' h1 h2=>?_;rw [h1] at h2;cases h2;cases i with
    | zero=>simp at h1;subst h1;exact .ptr _ _ ⟨rfl,(hI.fE _ hI.fF).1⟩
    | succ i=>simp at h1
  ·simp only [Array.toList_replicate] at hv;rw [List.eq_of_mem_replicate hv];exact .undef
 rw [Jxe];refine Reach.idle (fun w1=>stepG_seq) rfl fun wa ra=>?_;obtain ⟨d,rfl⟩:=ra;have hBa:=hB.at d;have hsz0:Tryz.prog.globals.size<w.heap.size:=hB.lt hB.hnd;refine Reach.piece (b:=base 40) J1u rfl Jxg Jh7 Jnc Jbb (by simp [base]) hBa hT0 (Q:=fun e t w1=>e=.normal/\t=R1 src mk fb w.heap.size (w.heap.size+1) (w.heap.size+2)/\w1.heap=((w.heap.push (.cells #[.map (some src)] 70)).push (.cells #[.int .i64 mk] 3)).push (.cells #[.func (.func 42) #[] #[.pointer (some ⟨fb,0,none⟩)]] 111)) (fun τ=>?_) (fun E1 t1 w1 w1' hs1 hB1 hW1 ht1 hq1=>?_) (fun E1 t1 w1 w1' todo hs1 hB1 hW1 ht1 hq1=>by cases hq1.1)
 ·refine wp_mono Js1 fun e a w1 ⟨q1,q2,q3⟩=>⟨.inl q1,fun i hi=>?_,q1,q2,q3⟩;rw [q2];rcases Jnb hi with rfl|rfl|rfl|rfl|rfl|rfl|rfl|rfl|rfl<;>rfl
 obtain ⟨-,rfl,hh1⟩:=hq1;generalize hn3:w.heap.size=n3 at *;have l1:=Jy rfl hW1;have a3:E1 n3:=(ht1.slot (i:=3) rfl rfl).J57;have a4:E1 (n3+1):=(ht1.slot (i:=4) rfl rfl).J57;have a5:E1 (n3+2):=(ht1.slot (i:=5) rfl rfl).J57;have o1:∀ b,b<n3->w1.heap[b]?=w.heap[b]?:=fun b hb=>by rw [hh1,Array.getElem?_push_lt (by simp;omega),Array.getElem_push_lt (by simp;omega),Array.getElem_push_lt (by omega),Ja4 (by omega)]
 obtain ⟨p3,p4,p5⟩:=Juu hn3 (.cells #[.map (some src)] 70) (.cells #[.int .i64 mk] 3) (.cells #[.func (.func 42) #[] #[.pointer (some ⟨fb,0,none⟩)]] 111);rw [<- hh1] at p3 p4 p5;have c3:=l1 _ _ a3 p3 trivial;have c4:=l1 _ _ a4 p4 trivial;have c5:=l1 _ _ a5 p5 trivial;have k1:KE E w w1':=fun b o hb ho hd=>l1 b o (hs1 b hb) ((o1 b (hn3▸Ji ho)).trans ho) hd;have hI1:=hI.ke hB.hnd k1 hs1;refine Reach.idle (fun w1=>stepG_seq) rfl fun wa ra=>?_;obtain ⟨d2,rfl⟩:=ra;refine Reach.piece (b:=base 40) J1u rfl Jxh Jh7 Jnc Jbb (by simp [base]) (hB1.at d2) ht1 (Q:=fun e t w2=>e=.normal/\∃ v ks n7,t=R2a src mk fb n3 (n3+1) (n3+2) v n7/\keysOf (S.map TR.kv) ks/\Jfi w2 w1'.heap.size v ks/\w1'.heap.size<=n7/\w2.heap[n7]?=some (.cells #[v] 88)/\Keeps w1' w2) (fun τ=>?_) (fun E2 t2 w2 w2' hs2 hB2 hW2 ht2 hq2=>?_) (fun E1 t1 w1 w1' todo hs1 hB1 hW1 ht1 hq1=>by cases hq1.1)
 ·have hm:J09 ((w1'.at d2).tp τ 0) src (S.map TR.kv):=hI1.tab.map.kept rfl;refine wp_mono (Js2 (mk:=mk) (fb:=fb) (n4:=n3+1) (n5:=n3+2) (d:=Jp) hm (by simp;have:=hI.n;omega) (n3:=n3) ((cell_of (w:=(w1'.at d2).tp τ 0) c3 0).trans rfl)) fun e a w2 ⟨q1,v,ks,n7,q2,q3,q4,q5,q6,q7⟩=>⟨.inl q1,fun i hi=>?_,q1,v,ks,n7,q2,q3,q4,q5,q6,⟨q7.size,q7.heap⟩⟩;rw [q2];rcases Jnb hi with rfl|rfl|rfl|rfl|rfl|rfl|rfl|rfl|rfl<;>rfl
 obtain ⟨-,v,ks,n7,rfl,hks,hrow,hn7,hk7,hkeep⟩:=hq2;obtain ⟨ka,kc,hka,rfl,hkb⟩:=hrow.at;have l2:=Jy rfl hW2;have a7:E2 n7:=(ht2.slot (i:=7) rfl rfl).J57;have aka:∀ a,ka=some a->E2 a.block:=fun a e=>by have:=ht2.slot (i:=17) (v:=.slice ka ks.length kc) rfl rfl;rw [e] at this;exact this.J1i
 have k2:KE E1 w1' w2':=.step hkeep l2 hs2;have hI2:=hI1.ke hB1.hnd k2 hs2;have d3:=k2 _ _ a3 c3 trivial;have d4:=k2 _ _ a4 c4 trivial;have d5:=k2 _ _ a5 c5 trivial;have d7:=l2 _ _ a7 hk7 trivial;have hka2:=hka.ke l2 aka;refine Reach.idle (fun w1=>stepG_seq) rfl fun wa ra=>?_;obtain ⟨d2',rfl⟩:=ra;refine Reach.piece (b:=base 40) J1u rfl Jxi Jh7 Jnc Jbb (by simp [base]) (hB2.at d2') ht2 (Q:=fun e t w3=>e=.normal/\t=R3a src mk fb n3 (n3+1) (n3+2) (.slice ka ks.length kc) n7 w2'.heap.size/\w3.heap=w2'.heap.push (.cells #[.map none,.map none,.map none,.map none] 138)) (fun τ=>?_) (fun E3 t3 w3 w3' hs3 hB3 hW3 ht3 hq3=>?_) (fun E1 t1 w1 w1' todo hs1 hB1 hW1 ht1 hq1=>by cases hq1.1)
 ·refine wp_mono Js3 fun e a w3 ⟨q1,q2,q3⟩=>⟨.inl q1,fun i hi=>?_,q1,q2,q3⟩;rw [q2];rcases Jnb hi with rfl|rfl|rfl|rfl|rfl|rfl|rfl|rfl|rfl<;>rfl
 obtain ⟨-,rfl,hh3⟩:=hq3;generalize hC:w2'.heap.size=C at *;have l3:=Jy rfl hW3;have a8:E3 C:=(ht3.slot (i:=8) rfl rfl).J57;have Jqb:Keeps w2' w3:=⟨by rw [hh3];simp,fun b hb=>by rw [hh3,Array.getElem?_push_lt hb,Ja4 hb]⟩;have k3:KE E2 w2' w3':=.step Jqb l3 hs3;have hI3:=hI2.ke hB2.hnd k3 hs3;have e3:=k3 _ _ (hs2 _ a3) d3 trivial;have e4:=k3 _ _ (hs2 _ a4) d4 trivial;have e5:=k3 _ _ (hs2 _ a5) d5 trivial;have e7:=k3 _ _ a7 d7 trivial;have Jyi:=hka2.ke k3 aka;have e8:=l3 C (.cells #[.map none,.map none,.map none,.map none] 138) a8 (by rw [hh3,<- hC];simp) trivial;have lt2:∀ b,E2 b->b<C:=fun b hb=>hC▸hB2.lt hb;refine Reach.idle (fun w1=>stepG_seq) rfl fun wa ra=>?_;obtain ⟨d3',rfl⟩:=ra;refine Reach.idle (fun w1=>stepG_region) rfl fun wa ra=>?_;obtain ⟨d4',rfl⟩:=ra;rw [show List.range q3.size=[0] from rfl];have hBp:=(hB3.at d3').at d4';have hwp:((w3'.at d3').at d4').heap=w3'.heap:=rfl;generalize (w3'.at d3').at d4'=wp at hBp hwp ⊢;have hIp:J63 E3 Fp wp src fb S c pass:=hI3.ke hB3.hnd (.of_eq fun b _=>by rw [hwp]) fun _ h=>h;have cell:∀ {b i:Nat} {arr:Array Value} {t:TypeId} {v:Value},w3'.heap[b]?=some (.cells arr t)->arr[i]?=some v->wp.cell? ⟨b,i,none⟩=some v:=fun h hv=>(cell_of (hwp▸h) _).trans hv;have gC:∀ b,n3<=b->Tryz.prog.globals.size<=b:=fun b hb=>by omega
 have n31:n3<=w1'.heap.size:=Nat.le_of_lt (hB1.lt a3);have hkg:∀ a,ka=some a->n3<=a.block:=fun a e=>by have:=(hkb a e).1;omega
 let F:Nat->Prop:=fun b=>b=Tryz.prog.globals.size\/b=n7\/b=n3+2\/b=n3+1\/b=n3\/(∃ a,ka=some a/\b=a.block)\/(b=src\/b∈tpl S)\/(∃ a,c.ba=some a/\b=a.block)\/Fp b
 have Jyj:∀ b,F b->E2 b:=by
  rintro b (rfl|rfl|rfl|rfl|rfl|⟨a,e,rfl⟩|h|⟨a,e,rfl⟩|h)
  ·exact hB2.hnd
  ·exact a7
  ·exact hs2 _ a5
  ·exact hs2 _ a4
  ·exact hs2 _ a3
  ·exact aka a e
  ·exact (hI2.tE b h).1
  ·exact (hI2.bE a e).1
  ·exact (hI2.fE b h).1
 have FT:∀ x,x=src\/x∈tpl S->F x:=fun x h=>.inr (.inr (.inr (.inr (.inr (.inr (.inl h))))));have Fb:∀ a,c.ba=some a->F a.block:=fun a e=>.inr (.inr (.inr (.inr (.inr (.inr (.inr (.inl ⟨a,e,rfl⟩)))))));have FF:∀ b,Fp b->F b:=fun b h=>.inr (.inr (.inr (.inr (.inr (.inr (.inr (.inr h)))))));have blk:∀ {b:Nat} {arr:Array Value} {t:TypeId},w3'.heap[b]?=some (.cells arr t)->Blk false wp b arr t:=fun h=>⟨(0,0),hwp▸h,fun _=>rfl⟩;have hRF:RF F wp c n7 (n3+2) (n3+1) n3 ka kc ks fb mk src S pass:=by
  refine ⟨cell e7 rfl,cell e5 rfl,cell e4 rfl,cell e3 rfl,Jyi.ke (E:=fun _=>True) (.of_eq fun b _=>by rw [hwp]) fun _ _=>trivial,hIp.tab,fun w2 hw=>hIp.pass w2 fun a v hf hv=>hw a v (FF _ hf) hv,
   .inr (.inl rfl),.inr (.inr (.inl rfl)),.inr (.inr (.inr (.inl rfl))),.inr (.inr (.inr (.inr (.inl rfl)))),.inl rfl,fun a e=>.inr (.inr (.inr (.inr (.inr (.inl ⟨a,e,rfl⟩))))),FT,Fb,?_,hI.cfg,?_,fun x hx=>?_⟩
  ·rintro b (rfl|rfl|rfl|rfl|rfl|⟨a,e,rfl⟩|h|⟨a,e,rfl⟩|h)
   ·obtain ⟨arr,t,q1,q2⟩:=hIp.h;exact ⟨Ja2 _,.plain q1 q2⟩
   ·refine ⟨gC _ (by omega),.of_cells (blk e7) fun X Sh hX v hv=>?_⟩;simp only [Jb8,Jc2,or_false] at hv;subst hv;cases hka':ka with
    | none=>exact .Jo _ _
    | some a=>exact .slice _ _ _ _ ⟨rfl,hX _ (.inr (.inr (.inr (.inr (.inr (.inl ⟨a,hka',rfl⟩))))))⟩
   ·refine ⟨gC _ (by omega),.of_cells (blk e5) fun X Sh hX v hv=>?_⟩;simp only [Jb8,Jc2,or_false] at hv;subst hv;refine .func (.func (by show List.contains _ _=true;kernel_rfl)) rfl (fun i x x' h=>by simp at h) ⟨rfl,by simp⟩ fun i x x' h1 h2=>?_;rw [h1] at h2;cases h2;cases i with
    | zero=>simp at h1;subst h1;exact .ptr _ _ ⟨rfl,hX _ (FF _ hI.fF)⟩
    | succ i=>simp at h1
   ·refine ⟨gC _ (by omega),.of_cells (blk e4) fun X Sh hX v hv=>?_⟩;simp only [Jb8,Jc2,or_false] at hv;subst hv;exact .int _ _
   ·refine ⟨gC _ (by omega),.of_cells (blk e3) fun X Sh hX v hv=>?_⟩;simp only [Jb8,Jc2,or_false] at hv;subst hv;exact .map ⟨rfl,hX _ (FT _ (.inl rfl))⟩
   ·refine ⟨gC _ (hkg a e),?_⟩;rcases Jyi with ⟨e',_⟩|⟨g,cur,q1,q2,q3,q4,q5,q6⟩
    ·rw [e'] at e;cases e
    ·rw [q1] at e;cases e;exact .plain (q2.kept (by rw [hwp])) q6
   ·exact ⟨(hIp.tE b h).2,Shd.tab hIp.tab FT Fb b h⟩
   ·exact ⟨(hIp.bE a e).2.1,(hIp.bE a e).2.2.mono FF⟩
   ·exact ⟨(hIp.fE b h).2.1,(hIp.fE b h).2.2.mono FF⟩
  ·have:=hks.length;simp only [Jc3] at this;have:=hI.n;omega
  ·obtain ⟨t,_,_,h⟩:=hks.row hIp.tab.nodup hx;exact ⟨_,h⟩
 refine (Jke (R2:=RC c S mk pass ks) (fun Wg=>Jqa Wg cs) (fun Wg=>Jsp Wg cs) hBp (T:=R3a src mk fb n3 (n3+1) (n3+2) (.slice ka ks.length kc) n7 C) rfl rfl rfl rfl rfl rfl a8 ⟨_,hwp▸e8,rfl⟩ (F:=F) (fun b hb=>⟨hs3 b (Jyj b hb),fun e=>by have:=lt2 b (Jyj b hb);omega⟩) hRF.work
  (fun w' i Sh E2 w2 r r' hi hF hs hW hv hr=>RC.J03n hs hW hv hr)).bind ?_
 rintro W4 g4 w4 ⟨Wg,T4,E4,rfl,hT4,rfl,hP⟩;refine Reach.idle (fun w1=>stepG_region_end) rfl fun wa ra=>?_;obtain ⟨d5',rfl⟩:=ra;obtain ⟨cc,O,hcc,hcs,hdis,hO,hres⟩:=hP.parts;obtain ⟨r0,hr0,_,m0,T0,rfl,Jjc,sum0,pl0,len0⟩:=hres 0 (by omega);obtain ⟨r1,hr1,_,m1,T1,rfl,Jsq,sum1,pl1,len1⟩:=hres 1 (by omega);obtain ⟨r2,hr2,_,m2,T2,rfl,Jsr,sum2,pl2,len2⟩:=hres 2 (by omega);obtain ⟨r3,hr3,_,m3,T3,rfl,Jss,sum3,pl3,len3⟩:=hres 3 (by omega);have ecc:cc=#[.map (some m0),.map (some m1),.map (some m2),.map (some m3)]:=by
  apply Jd6;intro i
  match i with
  | 0=>exact hr0
  | 1=>exact hr1
  | 2=>exact hr2
  | 3=>exact hr3
  | i+4=>rw [Jb0 (by omega),Jb0 (by simp)]
 subst ecc;have hT4m:TmR C0 S0 40 (idE E4) T4 T4:=by refine ⟨rfl,fun i x x' hi h1 h2=>?_,fun i x hi=>by rw [Jut] at hi;cases hi⟩;rw [h1] at h2;cases h2;obtain ⟨h9,h10,h18⟩:=J03u hi;rw [hT4.low i h18 h9 h10] at h1;exact (ht3.slot hi h1).mono (J18 hP.le)
 have hl4:ks.length<=1000:=hRF.kn;have hC8:=hT4.C8;have hsz4:=hT4.size;clear hT4;obtain ⟨x0,x1,x2,x3,x4,x5,x6,x7,x8,x9,x10,x11,x12,x13,x14,x15,x16,x17,x18,x19,x20,x21,x22,x23,x24,x25,x26,x27,x28,x29,x30,x31,x32,x33,x34,x35,x36,x37,x38,x39,x40,x41,x42,x43,x44,x45,x46,x47,x48,rfl⟩:=J03p hsz4;obtain rfl:x8=.pointer (some ⟨C,0,none⟩):=by simpa [ptr] using hC8
 refine Reach.piece (b:=base 40) J1u rfl Jxj Jh7 Jnc Jbb (by simp [base]) (hP.bok.at d5') hT4m (Q:=fun e t w5=>e=.ret/\t[6]?=some (.map (some m0))/\∃ EE,EE.Perm (J19 T1++J19 T2++J19 T3)/\∃ T,TabAt false w5 c m0 T/\Sum c (tm T) (ents S mk pass (J03 0 ks.length ks)++EE)/\T.length<=4016/\(∀ x,x=m0\/x∈tpl T->(x=m0\/x∈tpl T0)\/w4.heap.size<=x)/\∀ b,b<w4.heap.size->¬ (b=m0\/b∈tpl T0)->w5.heap[b]?=w4.heap[b]?) (fun τ=>?_) (fun E1 t1 w1 w1' hs1 hB1 hW1 ht1 hq1=>by cases hq1.1) (fun E5 t5 w5 w5' todo hs5 hB5 hW5 ht5 hq5=>?_)
 ·have kp:∀ {m:Nat} {T:List TR},TabAt false w4 c m T->TabAt false ((w4.at d5').tp τ 0) c m T:=fun h=>h.kept fun _ _=>rfl;refine wp_mono (Jvx (x8:=undef) (w:=(w4.at d5').tp τ 0) (C:=C) (mp:=fun i=>match i with|0=>m1|1=>m2|_=>m3) (P:=fun i=>match i with|0=>T1|1=>T2|_=>T3) hI.cfg hcc (kp Jjc) sum0 (by omega) (fun i hi=>?_) (fun h=>?_) Jp) fun e a w2 ⟨q1,q2,q3,q4,q5,q6,q7,q8,q9,q10,q11,EE,q12,T,z1,z2,z3,z4,z5⟩=>⟨.inr q1,fun i hi=>?_,q1,q11,EE,q12,T,z1,z2,z3,z4,z5.heap⟩
  ·match i,hi with
   | 0,_=>exact ⟨kp Jsq,by show T1.length<=1004;omega,fun x hx hx'=>hdis 1 0 (by omega) (by omega) (by omega) x (pl1 x hx) (pl0 x hx')⟩
   | 1,_=>exact ⟨kp Jsr,by show T2.length<=1004;omega,fun x hx hx'=>hdis 2 0 (by omega) (by omega) (by omega) x (pl2 x hx) (pl0 x hx')⟩
   | 2,_=>exact ⟨kp Jss,by show T3.length<=1004;omega,fun x hx hx'=>hdis 3 0 (by omega) (by omega) (by omega) x (pl3 x hx) (pl0 x hx')⟩
  ·exact (hO 0 (by omega) C (pl0 C h)).2 a8
  ·rcases Jnb hi with rfl|rfl|rfl|rfl|rfl|rfl|rfl|rfl|rfl
   ·exact q2
   ·exact q3
   ·exact q4
   ·exact q5
   ·exact q6
   ·exact q7
   ·exact q8
   ·exact q9
   ·exact q10
 obtain ⟨-,h6,EE,hEE,T5,z1,z2,z3,z4,z5⟩:=hq5;have l5:=Jy rfl hW5;have hba5:∀ a,c.ba=some a->E5 a.block:=fun a e=>hs5 _ (hP.le _ (hI3.bE a e).1);have hm5:E5 m0:=(ht5.slot (i:=6) rfl h6).Jry;have Jyk:=z1.places rfl hW5 hba5 hm5;have hE3:∀ b,E b->E3 b:=fun b hb=>hs3 b (hs2 b (hs1 b hb));have hE4:∀ b,E b->E4 b:=fun b hb=>hP.le b (hE3 b hb);have lt0:∀ b,E b->b<n3:=fun b hb=>hn3▸hB.lt hb;have n3C:n3<C:=lt2 n3 (hs2 _ a3);refine k _ E5 w5' t5 todo m0 ⟨hB5,fun b hb=>hs5 b (hE4 b hb),fun b o hb ho hd=>?_,?_,T5,z1.ke l5 Jyk,?_,z3,fun x hx=>⟨Jyk x hx,fun hEx=>?_⟩⟩ h6
 ·have s1:=k1 b o hb ho hd;have s2:=k2 b o (hs1 b hb) s1 hd;have s3:=k3 b o (hs2 b (hs1 b hb)) s2 hd;have hbC:b≠C:=by have:=lt0 b hb;omega
  have s4:w4.heap[b]?=some o:=(hP.keep b (hE3 b hb) hbC).trans (by rw [hwp];exact s3);have s5:w5.heap[b]?=some o:=(z5 b (Ji s4) fun hm=>(hO 0 (by omega) b (pl0 b hm)).2 (hE3 b hb)).trans s4;exact l5 b o (hs5 b (hE4 b hb)) s5 hd
 ·have q1:KL E w w1':=(KL.of_eq fun b hb=>o1 b (lt0 b hb)).trans ((KL.J3z hW1).mono hs1);have q2:KL E1 w1' w2':=(KL.keeps hkeep fun b hb=>hB1.lt hb).trans ((KL.J3z hW2).mono hs2);have q3:KL E2 w2' w3':=(KL.keeps Jqb fun b hb=>hB2.lt hb).trans ((KL.J3z hW3).mono hs3);have q4:KL E w3' w4:=KL.of_eq fun b hb=>(hP.keep b (hE3 b hb) (by have:=lt0 b hb;omega)).trans (by rw [hwp]);have q5:KL E w4 w5':=(KL.of_eq fun b hb=>z5 b (hP.bok.lt (hE4 b hb)) fun hm=>(hO 0 (by omega) b (pl0 b hm)).2 (hE3 b hb)).trans ((KL.J3z hW5).mono fun b hb=>hs5 b (hE4 b hb));exact q1.trans ((q2.mono hs1).trans ((q3.mono fun b hb=>hs2 b (hs1 b hb)).trans (q4.trans q5)))
 ·exact Sum.all hI.tab.ok hI.tab.nodup hks rfl Jsq.nodup Jsr.nodup Jss.nodup Jsq.ok Jsr.ok Jss.ok sum1 sum2 sum3 hEE z2
 ·rcases z4 x hx with h|h
  ·exact (hO 0 (by omega) x (pl0 x h)).2 (hE3 x hEx)
  ·have:=hP.bok.lt (hE4 x hEx);omega
end
section
variable {E E':Nat->Prop} {w w' w'':World} {base mo ob l D:Nat} {T9:Array Value} {most:Int} {L:List QC}
theorem hl9 {i:Nat} (h:i≠18):(C0.hl 9).contains i=false:=by show [18].contains i=false;simp [h]
theorem QAt.kl {W:Nat->Prop} (h:QAt base T9 mo ob l D most L w) (hB:BOk C0 S0 W E w) (hW:KL E w w') (hl:E l) (hm:E mo) (ho:E ob) (hD:E D) :
  ∃ T9',QAt base T9' mo ob l D most L w'/\T9'.size=T9.size/\∀ i,i≠18->T9'[i]?=T9[i]?:=by
 have hk:=hW.ke;obtain ⟨T',q1,q2,q3⟩:=hW.lp _ _ hl h.lp;obtain ⟨v,hv,hown⟩:=h.box;refine ⟨T',⟨⟨v,hk _ _ ho hv trivial,?_⟩,q1,hk _ _ hm h.mo trivial,hW.df _ hD h.D⟩,q2,fun i hi=>q3 i (hl9 hi)⟩;have hE:∀ b b',idE E b b'->b=b':=fun _ _ h=>h.1;refine ⟨hown.1,?_⟩;rcases hown.2 with hn|⟨g,cap,cur,rfl,hb,hgg,rest⟩
 ·exact .inl hn
 ·have hEg:E g:=by obtain ⟨o1,o',h1,h2,h3⟩:=hB.1.get (b:=ob) (b':=ob) ⟨rfl,ho⟩;rw [hv] at h1;cases h1;obtain ⟨c',fz',rfl,ha,_⟩:=h3;obtain ⟨v',h4,r⟩:=ha.J04 (i:=0) rfl;have e:=r.eq hE;subst e;exact r.J1i
  exact .inr ⟨g,cap,cur,rfl,hb,hk _ _ hEg hgg trivial,rest⟩
theorem Jyl:Jj C0 S0 38 d38=true:=by kernel_rfl
theorem Jym:Jj C0 S0 38 J4a=true:=by kernel_rfl
theorem Jne:J0k C0 38:=⟨Tryz.f38,by kernel_rfl,by kernel_rfl,by kernel_rfl⟩
theorem Jst:S0.df.contains 38=false:=rfl
theorem Jfo:C0.hl 38≠[]:=by show [1000]≠[];simp
theorem Jsu {i:Nat} (h:(C0.hl 38).contains i=true):i=1000:=by have h':i∈[1000]:=Jd3.1 h;simpa using h'
theorem Jsv {pre:List Nat} (h:∀ i∈pre,i<10):J2u C0 S0 38 J2d pre=true:=by
 have h10:J2u C0 S0 38 J2d (List.range 10)=true:=by kernel_rfl
 unfold J2u at h10 ⊢;rw [List.all_eq_true] at h10 ⊢;exact fun i hi=>h10 i (List.mem_range.2 (h i hi))
end
section
variable {W E:Nat->Prop} {w:World} {x:Nat} {c:J8} {seed nf:Int} {h:Value} {vm base m b1 b2 b3 l:Nat} {f:Nat->Value} {cs:List Frame} {kk:List Item} {Post:(Nat->Prop)->Goroutine->World->Prop}
theorem KL.cube {w':World} (q:J08 w x c seed h nf vm base) (hx:E x) (hv:E vm) (k:KL E w w'):J08 w' x c seed h nf vm base:=by obtain ⟨⟨z,h1,h2⟩,n,es,ck,h3,h4⟩:=q;refine ⟨⟨z,k.ke _ _ hx h1 trivial,h2⟩,n,es,ck,k.ke _ _ hv h3 trivial,h4⟩
set_option maxRecDepth 100000 in
theorem Jqc (hB:BOk C0 S0 W E w) (q:J08 w x c seed h nf vm base) (hm8:m<8) (k1:w.heap[b1]?=some (.cells #[pt x] 25)) (k2:w.heap[b2]?=some (.cells #[.int .i64 m] 3)) (k3:w.heap[b3]?=some (.cells #[.slice none 0 0] 55))
  (hE:E b1/\E b2/\E b3/\E x/\E vm) (ht:TmR C0 S0 38 (idE E) #[.func (.yield l) #[] #[],pt b1,pt b2,pt b3,f 4,f 5,f 6,f 7,f 8,f 9,f 10,f 11,f 12,f 13,f 14,f 15,f 16,f 17,f 18,f 19,f 20,f 21,f 22,f 23,f 24,f 25,f 26,f 27,f 28,f 29,f 30,f 31,f 32,f 33,f 34,f 35,f 36,f 37,f 38,f 39,f 40,f 41,f 42,f 43,f 44,f 45,f 46,f 47,f 48,f 49,f 50,f 51,f 52,f 53,f 54,f 55,f 56,f 57,f 58,f 59,f 60,f 61,f 62,f 63,f 64,f 65,f 66,f 67,f 68,f 69,f 70,f 71,f 72,f 73,f 74] #[.func (.yield l) #[] #[],pt b1,pt b2,pt b3,f 4,f 5,f 6,f 7,f 8,f 9,f 10,f 11,f 12,f 13,f 14,f 15,f 16,f 17,f 18,f 19,f 20,f 21,f 22,f 23,f 24,f 25,f 26,f 27,f 28,f 29,f 30,f 31,f 32,f 33,f 34,f 35,f 36,f 37,f 38,f 39,f 40,f 41,f 42,f 43,f 44,f 45,f 46,f 47,f 48,f 49,f 50,f 51,f 52,f 53,f 54,f 55,f 56,f 57,f 58,f 59,f 60,f 61,f 62,f 63,f 64,f 65,f 66,f 67,f 68,f 69,f 70,f 71,f 72,f 73,f 74])
  (kn:∀ E' t' w',(∀ b,E b->E' b)->BOk C0 S0 W E' w'->KL E w w'->t'.size=75->(∀ s,s<4->t'[s]?=(#[.func (.yield l) #[] #[],pt b1,pt b2,pt b3,f 4,f 5,f 6,f 7,f 8,f 9,f 10,f 11,f 12,f 13,f 14,f 15,f 16,f 17,f 18,f 19,f 20,f 21,f 22,f 23,f 24,f 25,f 26,f 27,f 28,f 29,f 30,f 31,f 32,f 33,f 34,f 35,f 36,f 37,f 38,f 39,f 40,f 41,f 42,f 43,f 44,f 45,f 46,f 47,f 48,f 49,f 50,f 51,f 52,f 53,f 54,f 55,f 56,f 57,f 58,f 59,f 60,f 61,f 62,f 63,f 64,f 65,f 66,f 67,f 68,f 69,f 70,f 71,f 72,f 73,f 74]:Array Value)[s]?)->t'[28]?=some (.map (some base))->t'[29]?=some (.int .i64 m)->t'[30]?=some (.func (.func 42) #[] #[pt b3])->TmR C0 S0 38 (idE E') t' t' ->
   Reach Tryz.prog Post W (G ((Go.Conc.base 38).at ⟨t',[]⟩ (.inRegion J2d [10,11]::.code J4a::kk)) cs) w') :
  Reach Tryz.prog Post W (G ((Go.Conc.base 38).at ⟨#[.func (.yield l) #[] #[],pt b1,pt b2,pt b3,f 4,f 5,f 6,f 7,f 8,f 9,f 10,f 11,f 12,f 13,f 14,f 15,f 16,f 17,f 18,f 19,f 20,f 21,f 22,f 23,f 24,f 25,f 26,f 27,f 28,f 29,f 30,f 31,f 32,f 33,f 34,f 35,f 36,f 37,f 38,f 39,f 40,f 41,f 42,f 43,f 44,f 45,f 46,f 47,f 48,f 49,f 50,f 51,f 52,f 53,f 54,f 55,f 56,f 57,f 58,f 59,f 60,f 61,f 62,f 63,f 64,f 65,f 66,f 67,f 68,f 69,f 70,f 71,f 72,f 73,f 74],[]⟩ (.code b38::kk)) cs) w:=by
 obtain ⟨id,hb⟩:=Jyf;rw [hb];refine Reach.idle (fun w1=>stepG_seq) rfl fun wa ra=>?_;obtain ⟨dd,rfl⟩:=ra;refine Reach.piece (b:=Go.Conc.base 38) J1u rfl Jyl Jne Jst Jfo (by simp [Go.Conc.base]) (hB.at dd) ht (Q:=fun e t w1=>e=.normal/\t=#[.func (.yield l) #[] #[],pt b1,pt b2,pt b3,f 4,.nilIface,f 6,f 7,f 8,f 9,f 10,pt x,.int .i64 m,.slice none 0 0,.nilIface,.nilIface,.bool false,f 17,f 18,f 19,f 20,f 21,f 22,f 23,f 24,f 25,f 26,f 27,f 28,f 29,f 30,f 31,f 32,f 33,f 34,f 35,f 36,f 37,f 38,f 39,f 40,f 41,f 42,f 43,f 44,f 45,f 46,f 47,f 48,f 49,f 50,f 51,f 52,f 53,f 54,f 55,f 56,f 57,f 58,f 59,f 60,f 61,f 62,f 63,f 64,f 65,f 66,f 67,f 68,f 69,f 70,f 71,f 72,f 73,f 74]/\w1.heap=w.heap) (fun τ=>?_) (fun E1 t1 w1 w1' hs1 hB1 hW1 ht1 hq1=>?_) (fun E1 t1 w1 w1' todo hs1 hB1 hW1 ht1 hq1=>by cases hq1.1)
 ·refine wp_mono (Jyg (d:=Jp) (w:=(w.at dd).tp τ 0) (q.kept rfl rfl) hm8 ((cell_of (w:=(w.at dd).tp τ 0) k1 0).trans rfl) ((cell_of (w:=(w.at dd).tp τ 0) k2 0).trans rfl) ((cell_of (w:=(w.at dd).tp τ 0) k3 0).trans rfl)) fun e a w1 ⟨q1,q2,q3,q4⟩=>⟨.inl q1,fun i hi=>?_,q1,q3,by rw [q4];rfl⟩;rw [q3];rw [Jsu hi];rfl
 obtain ⟨-,rfl,hh1⟩:=hq1;have kl1:KL E w w1':=(KL.of_eq fun b _=>by rw [hh1]).trans ((KL.J3z hW1).mono hs1);refine Reach.idle (fun w1=>stepG_seq) rfl fun wa ra=>?_;obtain ⟨d2,rfl⟩:=ra;refine Reach.draw rfl (hB1.at d2) fun n w2 hB2 hsz2 hh2=>?_;rw [show C0.P.follows .mixedOrders=true from mixed];obtain ⟨pre,hpre,hlt,hW⟩:=Jq7 (m:=10) (dst:=fun i=>i+21) Tryz.prog (ops:=J2d) (by kernel_rfl) n;rw [hpre,show List.range' 10 (J2d.size-10)=[10,11] from by kernel_rfl];have kl2:KL E w w2:=kl1.trans (KL.of_eq fun b hb=>hh2 b (hs1 b hb));refine Reach.toOps (b:=Go.Conc.base 38) J1u rfl (Jsv hlt) (by simp) Jne Jst Jfo (by simp [Go.Conc.base]) hB2 ht1 (Q:=fun t w3=>t.size=75/\(∀ s,s<4->t[s]?=(#[.func (.yield l) #[] #[],pt b1,pt b2,pt b3,f 4,f 5,f 6,f 7,f 8,f 9,f 10,f 11,f 12,f 13,f 14,f 15,f 16,f 17,f 18,f 19,f 20,f 21,f 22,f 23,f 24,f 25,f 26,f 27,f 28,f 29,f 30,f 31,f 32,f 33,f 34,f 35,f 36,f 37,f 38,f 39,f 40,f 41,f 42,f 43,f 44,f 45,f 46,f 47,f 48,f 49,f 50,f 51,f 52,f 53,f 54,f 55,f 56,f 57,f 58,f 59,f 60,f 61,f 62,f 63,f 64,f 65,f 66,f 67,f 68,f 69,f 70,f 71,f 72,f 73,f 74]:Array Value)[s]?)/\t[28]?=some (.map (some base))/\t[29]?=some (.int .i64 m)/\t[30]?=some (.func (.func 42) #[] #[pt b3])/\Keeps w2 w3) (fun τ=>?_) fun E3 t3 w3 w3' hs3 hB3 hW3 ht3 hq3=>?_
 ·have qk:J08 (w2.tp τ 0) x c seed h nf vm base:=(KL.cube q hE.2.2.2.1 hE.2.2.2.2 kl2).kept rfl rfl;refine Jq8 (d:=Jp) (b3:=b3) (T0:=#[.func (.yield l) #[] #[],pt b1,pt b2,pt b3,f 4,.nilIface,f 6,f 7,f 8,f 9,f 10,pt x,.int .i64 m,.slice none 0 0,.nilIface,.nilIface,.bool false,f 17,f 18,f 19,f 20,f 21,f 22,f 23,f 24,f 25,f 26,f 27,f 28,f 29,f 30,f 31,f 32,f 33,f 34,f 35,f 36,f 37,f 38,f 39,f 40,f 41,f 42,f 43,f 44,f 45,f 46,f 47,f 48,f 49,f 50,f 51,f 52,f 53,f 54,f 55,f 56,f 57,f 58,f 59,f 60,f 61,f 62,f 63,f 64,f 65,f 66,f 67,f 68,f 69,f 70,f 71,f 72,f 73,f 74]) hW qk hm8 ((cell_of (w:=w2.tp τ 0) (kl2.ke _ _ hE.1 k1 trivial) 0).trans rfl) ((cell_of (w:=w2.tp τ 0) (kl2.ke _ _ hE.2.1 k2 trivial) 0).trans rfl) rfl rfl rfl rfl ?_;exact fun a w3 a1 a2 a3 a4 a5 a6 a7 a8=>⟨rfl,a1,fun i hi hi2=>absurd hi2 (by rw [Jsu hi];show ¬ 1000<75;decide),a2,fun s hs=>(a3 s (by omega)).trans (by match s,hs with|0,_|1,_|2,_|3,_=>rfl|s+4,h=>exact absurd h (by omega)),a5,a6,a7,⟨a8.size,fun b hb=>a8.heap b hb fun h=>h⟩⟩
 obtain ⟨q1,q2,q3,q4,q5,q6⟩:=hq3;have kl3:KL E w w3':=kl2.trans ((KL.of_eq fun b hb=>q6.heap b (hB2.lt (hs1 b hb))).trans ((KL.J3z hW3).mono fun b hb=>hs3 b (hs1 b hb)));exact kn E3 t3 w3' (fun b hb=>hs3 b (hs1 b hb)) hB3 kl3 q1 q2 q3 q4 q5 ht3
end
theorem Jw5:∃ o,J2d[10]?=some o/\o.op=.call { callee:=.value (.func 40),args:=#[.tmp 28,.tmp 29,.tmp 30],argTypes:=#[70,3,111] }/\o.guard=none/\o.dst=some 31:=by simp only [J2d,b38,fC,sC,Tryz.f38,Ja6];exact ⟨_,rfl,rfl,rfl,rfl⟩
theorem Jw6:∃ o,J2d[11]?=some o/\o.op=.assign (.tmp 31)/\o.guard=none/\o.dst=some 6:=by simp only [J2d,b38,fC,sC,Tryz.f38,Ja6];exact ⟨_,rfl,rfl,rfl,rfl⟩
section
variable {W E Fp:Nat->Prop} {w:World} {src mk b3:Nat} {S:List TR} {c:J8} {pass:List Int->Bool} {t:Array Value} {cs:List Frame} {kk:List Item} {Post:(Nat->Prop)->Goroutine->World->Prop}
theorem J6s.at {W' E':Nat->Prop} {w':World} {m:Nat} (h:J6s E w S c mk pass W' E' w' m) (d:Nat):J6s E w S c mk pass W' E' (w'.at d) m:=by obtain ⟨h1,h2,h3,h0,T,h4,h5⟩:=h;exact ⟨h1.at d,h2,h3.trans (.of_eq fun _ _=>rfl),h0.trans (.of_eq fun _ _=>rfl),T,h4.kept fun _ _=>rfl,h5⟩
theorem Jqd (hB:BOk C0 S0 W E w) (hI:J63 E Fp w src b3 S c pass) (hsz:t.size=75) (t28:t[28]?=some (.map (some src))) (t29:t[29]?=some (.int .i64 mk)) (t30:t[30]?=some (.func (.func 42) #[] #[pt b3]))
  (kn:∀ W' E' w' m,J6s E w S c mk pass W' E' w' m->Reach Tryz.prog Post W' (G ((base 38).at ⟨(t.set! 31 (.map (some m))).set! 6 (.map (some m)),[]⟩ (.inRegion J2d []::.code J4a::kk)) cs) w') :
  Reach Tryz.prog Post W (G ((base 38).at ⟨t,[]⟩ (.inRegion J2d [10,11]::.code J4a::kk)) cs) w:=by
 obtain ⟨o,ho,hop,hg,hd⟩:=Jw5;obtain ⟨o2,ho2,hop2,hg2,hd2⟩:=Jw6;refine Reach.call (B:=base 38) (a:=⟨t,[]⟩) ho (by simp [Region.wanted,hg]) (by simp [base]) hop (fn:=Tryz.f40) (c:=b40) (by kernel_rfl) (by kernel_rfl) Jxf fun d=>?_;have e:(#[Operand.tmp 28,.tmp 29,.tmp 30].map (Act.eval ⟨t,[]⟩))++Array.replicate (Tryz.f40.ntmps-(#[Operand.tmp 28,.tmp 29,.tmp 30].map (Act.eval ⟨t,[]⟩)).size) undef=R0 src mk b3:=by
  have h1:#[Operand.tmp 28,.tmp 29,.tmp 30].map (Act.eval ⟨t,[]⟩)=#[.map (some src),.int .i64 mk,.func (.func 42) #[] #[pt b3]]:=by simp only [List.map_toArray,Jc4,List.map_nil,J7y (a:=⟨t,[]⟩) t28,J7y (a:=⟨t,[]⟩) t29,J7y (a:=⟨t,[]⟩) t30]
  have hn:Tryz.f40.ntmps=49:=by kernel_rfl
  rw [h1,hn];show _++Array.replicate 46 undef=_;rw [Jue];simp only [R0,pt,List.append_toArray,Jc7,Jc8]
 rw [e];refine Jnd (hB.at d) (hI.ke hB.hnd (.of_eq fun _ _=>rfl) fun _ h=>h) fun W' E' w' t' todo m hR h6=>?_;refine Reach.leave1 (B:=base 40) (a:=⟨t',[]⟩) rfl rfl (fn:=Tryz.f40) (by kernel_rfl) (x:=6) (by kernel_rfl) fun d2=>?_;have e6:t'.getD 6 undef=.map (some m):=by simp [Ja5,h6]
 rw [ho];simp only [Option.bind_some,hd,e6];have hv:((⟨t,[]⟩:Act).put (some 31) (.map (some m))).eval (.tmp 31)=.map (some m):=by simp [Act.put,Act.eval,Ja5,Jb9,hsz]
 refine J6 (fun w1=>J0d (v:=.map (some m)) ho2 (by simp [Region.wanted,hg2]) (by simp [base]) (by simp [execOp,hop2,hv]) (by simp [execOp,hop2])) rfl fun d3=>?_;rw [hd2];have hR':J6s E w S c mk pass W' E' w' m:=⟨hR.bok,hR.le,(KE.of_eq (w:=w) (w1:=w.at d) fun _ _=>rfl).trans hR.ke,(KL.of_eq (w:=w) (w':=w.at d) fun _ _=>rfl).trans hR.kl,hR.tab⟩;exact kn W' E' _ m ((hR'.at d2).at d3)
end
end Go.Sim.Z
namespace Go.Sim.Z
open Go Go.Proofs Go.RowKit Go.Conc Go.Maps
section
variable {E:Nat->Prop} {w w':World} {base Juv mo ob l D m0:Nat} {T9:Array Value} {most:Int} {L:List QC} {T:List TR} {ks:List Je}
theorem QAt.cellsE (h:QAt base T9 mo ob l D most L w) (hW:WR C0 (okP C0 S0) (idE E) w w') (ho:E ob) {q:QC} (hq:q∈L) {v:Value} (hv:v∈q.cells):VR C0 (idE E) v v:=by
 obtain ⟨u,hu,hown⟩:=h.box;have hE:∀ b b',idE E b b'->b=b':=fun _ _ h=>h.1;rcases hown.2 with ⟨_,hn⟩|⟨g,cap,cur,rfl,hb,hgg,_,_,_,hx⟩
 ·rw [List.length_eq_zero_iff.1 hn] at hq;cases hq
 ·have hEg:E g:=by obtain ⟨o1,o',h1,h2,h3⟩:=hW.get (b:=ob) (b':=ob) ⟨rfl,ho⟩;rw [hu] at h1;cases h1;obtain ⟨c',fz',rfl,ha,_⟩:=h3;obtain ⟨v',h4,r⟩:=ha.J04 (i:=0) rfl;have e:=r.eq hE;subst e;exact r.J1i
  have hm:v∈cur.toList:=List.mem_of_mem_take (by rw [hx];exact List.mem_flatMap.2 ⟨q,hq,hv⟩);obtain ⟨o1,o',h1,h2,h3⟩:=hW.get (b:=g) (b':=g) ⟨rfl,hEg⟩;rw [hgg] at h1;cases h1;obtain ⟨c',fz',rfl,ha,_⟩:=h3;obtain ⟨i,hi⟩:=List.mem_iff_getElem?.1 hm;rw [Array.getElem?_toList] at hi;obtain ⟨v',h4,r⟩:=ha.J04 hi;have e:=r.eq hE;subst e;exact r
theorem SlN.ke {v:Value} {t:TypeId} {k:IntKind} {xs:List Int} (h:SlN base w v t k xs) (q:KE E w w') (hv:VR C0 (idE E) v v):SlN base w' v t k xs:=by obtain ⟨g,cap,rfl,h2,arr,⟨z,h3,h4⟩,h5⟩:=h;exact ⟨g,cap,rfl,h2,arr,⟨z,q _ _ hv.J1i h3 trivial,h4⟩,h5⟩
theorem SlI.ke {v:Value} {t:TypeId} {k:IntKind} {xs:List Int} (h:SlI false w base v t k xs) (q:KE E w w') (hv:VR C0 (idE E) v v):SlI false w' base v t k xs:=by
 rcases h with h|⟨g,cap,rfl,h2,arr,⟨z,h3,h4⟩,h5⟩
 ·exact .inl h
 ·exact .inr ⟨g,cap,rfl,h2,arr,⟨z,q _ _ hv.J1i h3 trivial,h4⟩,h5⟩
theorem J2z.wr (h:J2z Juv w T m0 ks L) (hQ:QAt base T9 mo ob l D most L w) (hW:WR C0 (okP C0 S0) (idE E) w w') (ho:E ob):J2z Juv w' T m0 ks L:=by have hk:=Jy rfl hW;refine ⟨h.1,fun i x q hx hq=>?_⟩;obtain ⟨h1,h2,h3,h4⟩:=h.2 i x q hx hq;have hv:∀ v∈q.cells,VR C0 (idE E) v v:=fun v hv=>hQ.cellsE hW ho (Jd0 hq) hv;exact ⟨h1,h2,h3,h4.k.ke hk (hv _ (by simp [QC.cells])),h4.r.ke hk (hv _ (by simp [QC.cells])),h4.h.ke hk (hv _ (by simp [QC.cells])),h4.l.ke hk (hv _ (by simp [QC.cells]))⟩
end
theorem Jqe:∀ (l l':List (List Int)),l.Nodup->(∀ x∈l,x∈l')->l.length<=l'.length
 | [],_,_,_=>Nat.zero_le _
 | a::l,l',hn,hs=>by obtain ⟨h1,h2⟩:=List.nodup_cons.1 hn;have h3:=Jqe l (l'.erase a) h2 fun x hx=>(List.mem_erase_of_ne (fun e=>h1 (by rw [<- e];exact hx))).2 (hs x (.tail _ hx));have h4:=List.length_erase_of_mem (hs a (.head _));have h5:0<l'.length:=List.length_pos_of_mem (hs a (.head _));simp only [Jd2];omega
theorem Sum.len {c:J8} {T S:List TR} {mk:Nat} {pass:List Int->Bool} (hn:(T.map (·.k)).Nodup) (h:Sum c (tm T) (J14 S mk pass)):T.length<=S.length:=by
 have h1:=Jqe (T.map (·.k)) ((J14 S mk pass).map (·.1)) hn fun x hx=>by
  obtain ⟨t,ht,rfl⟩:=Jb3.1 hx;have h2:=h t.k;rw [J58 hn ht] at h2;cases hl:(J14 S mk pass).filter fun e=>decide (e.1=t.k) with
  | nil=>rw [hl] at h2;cases h2
  | cons e l=>
   have hm:e∈(J14 S mk pass).filter fun e=>decide (e.1=t.k):=by rw [hl];exact .head _
   obtain ⟨h3,h4⟩:=Jd5.1 hm;exact Jb3.2 ⟨e,h3,of_decide_eq_true h4⟩
 rw [Jc3,Jc3] at h1;exact Jb6 h1 (List.length_filterMap_le _ _)
def HIn (M:Int) (B:Bun):Prop:=∀ x∈B.h,0<=x/\x<=M
theorem HIn.mg {c:J8} {M N:Int} {a b:Bun} (ha:HIn M a) (hb:HIn N b) (h:M+N<=9223372036854775807):HIn (M+N) (mg c a b):=by
 intro z hz;obtain ⟨x,hx,y,hy,rfl⟩:=J5q (show z∈J0n a.h b.h from hz);have h1:=ha x hx;have h2:=hb y hy;have e:wrap64 (x+y)=x+y:=by unfold wrap64;omega
 rw [e];omega
theorem HIn.fold {c:J8} {M:Int} (hM:0<=M):∀ (l:List Bun) (z:Option Bun) (k:Int),(∀ b∈l,HIn M b)->0<=k->(∀ B,z=some B->HIn k B)->k+l.length*M<=9223372036854775807->∀ B,l.foldl (om c) z=some B->HIn (k+l.length*M) B
 | [],z,k,_,_,hz,_,B,hB=>by simpa using hz B hB
 | b::l,z,k,hl,hk,hz,hb,B,hB=>by
  have e:k+((b::l).length:Int)*M=(k+M)+(l.length:Int)*M:=by rw [Jd2,Int.natCast_succ,Int.add_mul];omega
  have h0:0<=(l.length:Int)*M:=Int.mul_nonneg (by omega) hM;rw [e] at hb ⊢;refine HIn.fold hM l (om c z b) (k+M) (fun x hx=>hl x (.tail _ hx)) (by omega) (fun B' hB'=>?_) hb B hB;cases z with
  | none=>
   cases hB';intro x hx;have:=hl b (.head _) x hx;omega
  | some a=>
   cases hB';exact (hz a rfl).mg (hl b (.head _)) (by omega)
theorem Sum.hin {c:J8} {T S:List TR} {mk:Nat} {pass:List Int->Bool} {M:Int} (hM:0<=M) (hn:(T.map (·.k)).Nodup) (h:Sum c (tm T) (J14 S mk pass)) (hS:∀ t∈S,HIn M t.B) (hb:S.length*M<=9223372036854775807):∀ t∈T,HIn (S.length*M) t.B:=by
 intro t ht;have h2:=h t.k;rw [J58 hn ht] at h2;have hl:(((J14 S mk pass).filter fun e:List Int × Bun=>decide (e.1=t.k)).map (fun e:List Int × Bun=>e.2)).length<=S.length:=by rw [Jc3];exact Jb6 (List.length_filter_le _ _) (List.length_filterMap_le _ _)
 have hm:((((J14 S mk pass).filter fun e:List Int × Bun=>decide (e.1=t.k)).map (fun e:List Int × Bun=>e.2)).length:Int)*M<=S.length*M:=Int.mul_le_mul_of_nonneg_right (by omega) hM;have h3:=HIn.fold (c:=c) hM (((J14 S mk pass).filter fun e:List Int × Bun=>decide (e.1=t.k)).map (fun e:List Int × Bun=>e.2)) none 0 (fun b hb=>by
  obtain ⟨e,he,rfl⟩:=Jb3.1 hb;obtain ⟨u,hu,hu2⟩:=List.mem_filterMap.1 (Jd5.1 he).1;split at hu2
  ·cases hu2;exact hS u hu
  ·cases hu2) (by omega) (fun B e=>by cases e) (by omega) t.B h2.symm
 intro x hx;have:=h3 x hx;omega
section
variable {E:Nat->Prop} {w w':World} {base mo ob l D:Nat} {T9:Array Value} {most:Int} {L:List QC}
theorem QAt.wr (h:QAt base T9 mo ob l D most L w) (hW:WR C0 (okP C0 S0) (idE E) w w') (hl:E l) (hm:E mo) (ho:E ob) (hD:E D) :
  ∃ T9',QAt base T9' mo ob l D most L w'/\T9'.size=T9.size/\∀ i,i≠18->T9'[i]?=T9[i]?:=by
 have hk:=Jy rfl hW;obtain ⟨T',q1,q2,q3⟩:=Jjg hW hl h.lp;obtain ⟨v,hv,hown⟩:=h.box;refine ⟨T',⟨⟨v,hk _ _ ho hv trivial,?_⟩,q1,hk _ _ hm h.mo trivial,Jfn hW hD h.D⟩,q2,fun i hi=>q3 i (hl9 hi)⟩;have hE:∀ b b',idE E b b'->b=b':=fun _ _ h=>h.1;refine ⟨hown.1,?_⟩;rcases hown.2 with hn|⟨g,cap,cur,rfl,hb,hgg,rest⟩
 ·exact .inl hn
 ·have hEg:E g:=by obtain ⟨o1,o',h1,h2,h3⟩:=hW.get (b:=ob) (b':=ob) ⟨rfl,ho⟩;rw [hv] at h1;cases h1;obtain ⟨c',fz',rfl,ha,_⟩:=h3;obtain ⟨v',h4,r⟩:=ha.J04 (i:=0) rfl;have e:=r.eq hE;subst e;exact r.J1i
  exact .inr ⟨g,cap,cur,rfl,hb,hk _ _ hEg hgg trivial,rest⟩
theorem QAt.at (h:QAt base T9 mo ob l D most L w) (hh:w'.heap=w.heap):QAt base T9 mo ob l D most L w':=by
 obtain ⟨v,h1,h2⟩:=h.box;have k:∀ (b:Nat) (o:Obj),w.heap[b]?=some o->w'.heap[b]?=some o:=fun b o hb=>by rw [hh];exact hb
 exact ⟨⟨v,k _ _ h1,Jfm h2 fun g cur hg=>k _ _ hg⟩,k _ _ h.lp,k _ _ h.mo,k _ _ h.D⟩
def KC (E:Nat->Prop) (base l ob:Nat) (w w':World):Prop:=∀ b o,E b->w.heap[b]?=some o->b≠l->b≠ob->(base<=b->∀ cur,o≠.cells cur 39)->Dat o->w'.heap[b]?=some o
end
section
variable {W E:Nat->Prop} {w:World} {base mo ob l D mb mm m0:Nat} {T9 t:Array Value} {c:J8} {T:List TR} {most:Int} {cs:List Frame} {Post:(Nat->Prop)->Goroutine->World->Prop}
theorem Jqf (hc:Jw c) (hB:BOk C0 S0 W E w) (hT:TabAt false w c mm T) (hpos:∀ t∈T,∀ x∈t.B.h,0<=x) (hTn:T.length<=1000) (hm:w.heap[mb]?=some (.cells #[.int .i64 m0] 3))
  (hsep:∀ x,x=mm\/x∈tpl T->x≠l/\x≠ob/\∀ cur,w.heap[x]?≠some (.cells cur 39)) (hmb:mb≠l/\mb≠ob) (hQ:QAt base T9 mo ob l D most [] w) (hb:base<=ob)
  (s9:T9.size=33) (t97:T9[7]?=some (pt mo)) (Jnf:T9[10]?=some (pt ob)) (Jba:(T.length:Int)<=most) (hE:E l/\E mo/\E ob/\E D)
  (ht:TmR C0 S0 38 (idE E) t t) (hsz:t.size=75) (t0:t[0]?=some (.func (.yield l) #[] #[])) (t2:t[2]?=some (pt mb)) (t6:t[6]?=some (.map (some mm)))
  (kn:∀ E' t' w' T9' ks L,(∀ b,E b->E' b)->BOk C0 S0 W E' w'->keysOf (T.map TR.kv) ks->J2z w.heap.size w' T m0 ks L->QAt base T9' mo ob l D most L w'->KC E base l ob w w' ->
   Reach Tryz.prog Post W (G { (Go.Conc.base 38).at ⟨t',[]⟩ [] with mode:=.returning } cs) w') :
  Reach Tryz.prog Post W (G ((Go.Conc.base 38).at ⟨t,[]⟩ (.inRegion J2d []::[.code J4a])) cs) w:=by
 refine J6 (fun w1=>stepG_region_end) rfl fun d=>?_;refine Reach.piece (b:=Go.Conc.base 38) (k:=[]) J1u rfl Jym Jne Jst Jfo (by simp [Go.Conc.base]) (hB.at d) ht (Q:=fun e t1 w1=>e=.normal/\∃ ks L,keysOf (T.map TR.kv) ks/\J2z w.heap.size w1 T m0 ks L/\QAt base T9 mo ob l D most L w1/\KQ base l ob w w1) (fun τ=>?_) (fun E1 t1 w1 w1' hs1 hB1 hW1 ht1 hq1=>?_) (fun E1 t1 w1 w1' todo hs1 hB1 hW1 ht1 hq1=>by cases hq1.1)
 ·obtain ⟨f,rfl⟩:=Jn8 hsz;have e0:f 0=_:=Ja0 t0;have e2:f 2=_:=Ja0 t2;have e6:f 6=_:=Ja0 t6;rw [e0,e2,e6];obtain ⟨g9,hg9⟩:=Juk s9;have z7:g9 7=pt mo:=by rw [hg9] at t97;exact Ja0 t97
  have z10:g9 10=pt ob:=by rw [hg9] at Jnf;exact Ja0 Jnf
  rw [z7,z10] at hg9;refine wp_mono (Jq6 (d:=Jp) (w:=(w.at d).tp τ 0) (base:=base) (mo:=mo) (ob:=ob) (l:=l) (D:=D) (T9:=T9) (most:=most) hc (hT.kept fun _ _=>rfl) hpos hTn hm hsep hmb (hQ.at rfl) (by obtain ⟨v,hv,_⟩:=hQ.box;have:=Ji hv;show base<=w.heap.size;omega) ⟨g9,hg9⟩ Jba) fun e a w1 ⟨q1,q2,q3,ks,L,q4,q5,q6,q7⟩=>⟨.inl q1,fun i hi=>?_,q1,ks,L,q4,q5,q6,q7⟩;obtain rfl:=Jsu hi;rw [Jb0 (by omega)];rfl
 obtain ⟨-,ks,L,q4,q5,q6,q7⟩:=hq1;refine J6 (fun w1=>stepG_end) rfl fun d2=>?_;obtain ⟨T9',r1,-,-⟩:=q6.wr hW1 (hs1 _ hE.1) (hs1 _ hE.2.1) (hs1 _ hE.2.2.1) (hs1 _ hE.2.2.2);have hO:=q5.wr q6 hW1 (hs1 _ hE.2.2.1);refine kn E1 t1 _ T9' ks L hs1 (hB1.at d2) q4 ⟨hO.1,fun i x q hx hq=>?_⟩ (r1.at rfl) fun b o hb ho h1 h2 h3 hd=>?_
 ·obtain ⟨a1,a2,a3,a4⟩:=hO.2 i x q hx hq;exact ⟨a1,a2,a3,a4.tch ⟨Ja2 _,fun _ _ _=>rfl,rfl,rfl,rfl⟩⟩
 ·exact Jy rfl hW1 b o (hs1 b hb) (q7.2 b o ho h1 h2 h3) hd
end
theorem Blk.J73 {fr:Bool} {w:World} {b:Nat} {arr:Array Value} {t:TypeId} (h:Blk fr w b arr t) (ht:t≠39) (cur:Array Value):w.heap[b]?≠some (.cells cur 39):=fun e=>by obtain ⟨z,h1,_⟩:=h;rw [h1] at e;exact ht (Obj.cells.inj (Ja0 e)).2.1
theorem Row.J73 {fr:Bool} {w:World} {b:Nat} {t:TypeId} {k:IntKind} {xs:List Int} {cap:Nat} (h:Row fr w b t k xs cap) (ht:t≠39) (cur:Array Value):w.heap[b]?≠some (.cells cur 39):=by obtain ⟨_,h1,_⟩:=h;exact h1.J73 ht cur
theorem TabAt.J73 {fr:Bool} {w:World} {c:J8} {m:Nat} {T:List TR} (h:TabAt fr w c m T):∀ x,x=m\/x∈tpl T->∀ cur,w.heap[x]?≠some (.cells cur 39):=by
 intro x hx cur;rcases hx with rfl|hx
 ·obtain ⟨L',_,n,es,ck,h1,_⟩:=h.map.own;rw [h1];simp
 ·obtain ⟨t,ht,hx⟩:=Jm.1 hx;have hb:=h.bun t ht;rcases BP.mem.1 hx with rfl|rfl|rfl|rfl|rfl|rfl|hx
  ·exact hb.hd.J73 (by decide) cur
  ·exact hb.reg.hd.J73 (by decide) cur
  ·exact hb.reg.row.J73 (by decide) cur
  ·exact hb.hist.hd.J73 (by decide) cur
  ·exact hb.hist.row.J73 (by decide) cur
  ·exact hb.least.hd.J73 (by decide) cur
  ·obtain ⟨c',hc'⟩:=hx;have hr:=hb.least.row;rw [hc'] at hr;exact hr.1.J73 (by decide) cur
section
variable {W E Fp:Nat->Prop} {w:World} {x:Nat} {c:J8} {seed nf:Int} {h:Value} {vm src m b1 b2 b3 l mo ob D qb:Nat} {T9 T0:Array Value} {S:List TR} {pass:List Int->Bool} {M most:Int} {cs:List Frame} {Post:(Nat->Prop)->Goroutine->World->Prop}
theorem Jsw (hB:BOk C0 S0 W E w) (q:J08 w x c seed h nf vm src) (hm8:m<8) (k1:w.heap[b1]?=some (.cells #[pt x] 25)) (k2:w.heap[b2]?=some (.cells #[.int .i64 m] 3)) (k3:w.heap[b3]?=some (.cells #[.slice none 0 0] 55))
  (hE:E b1/\E b2/\E b3/\E x/\E vm) (hI:J63 E Fp w src b3 S c pass) (hM:0<=M) (hS:∀ t∈S,HIn M t.B) (hSM:S.length*M<=9223372036854775807)
  (Jba:∀ T:List TR,(T.map (·.k)).Nodup->Sum c (tm T) (J14 S m pass)->(T.length:Int)<=most)
  (hQ:QAt qb T9 mo ob l D most [] w) (hqb:qb<=ob) (s9:T9.size=33) (t97:T9[7]?=some (pt mo)) (Jnf:T9[10]?=some (pt ob)) (hE2:E l/\E mo/\E ob/\E D)
  (hsz:T0.size=75) (s0:T0[0]?=some (.func (.yield l) #[] #[])) (s1:T0[1]?=some (pt b1)) (s2:T0[2]?=some (pt b2)) (s3:T0[3]?=some (pt b3)) (ht:TmR C0 S0 38 (idE E) T0 T0)
  (kn:∀ W' E' t' w' w2 T9' T ks L mm,(∀ b,E b->E' b)->BOk C0 S0 W' E' w'->TabAt false w2 c mm T->Sum c (tm T) (J14 S m pass)->keysOf (T.map TR.kv) ks->J2z w2.heap.size w' T m ks L->qb<=w2.heap.size->QAt qb T9' mo ob l D most L w'->KC E qb l ob w w' ->
   Reach Tryz.prog Post W' (G { (Go.Conc.base 38).at ⟨t',[]⟩ [] with mode:=.returning } cs) w') :
  Reach Tryz.prog Post W (G ((Go.Conc.base 38).at ⟨T0,[]⟩ [.code b38]) cs) w:=by
 obtain ⟨g,rfl⟩:=Jn8 hsz;have e0:g 0=_:=Ja0 s0;have e1:g 1=_:=Ja0 s1;have e2:g 2=_:=Ja0 s2;have e3:g 3=_:=Ja0 s3;rw [e0,e1,e2,e3] at ht ⊢;obtain ⟨v0,hv0,_⟩:=hQ.box;have hml:b2≠l:=fun e=>by rw [e,hQ.lp] at k2;cases k2
 have hmo:b2≠ob:=fun e=>by rw [e,hv0] at k2;simp at k2
 refine Jqc hB q hm8 k1 k2 k3 hE ht fun Ea ta wa h1 h2 h3 h4 h5 h6 h7 h8 h9=>?_;have hIa:=hI.ke hB.hnd h3.ke h1;refine Jqd h2 hIa h4 h6 h7 h8 fun W2 E2 wb mm hR=>?_;obtain ⟨T,r1,r2,r3,r4⟩:=hR.tab;obtain ⟨T9a,qa,sa,za⟩:=hQ.kl hB h3 hE2.1 hE2.2.1 hE2.2.2.1 hE2.2.2.2;obtain ⟨T9b,qb',sb,zb⟩:=qa.kl h2 hR.kl (h1 _ hE2.1) (h1 _ hE2.2.1) (h1 _ hE2.2.2.1) (h1 _ hE2.2.2.2);have hle:∀ b,E b->E2 b:=fun b hb=>hR.le b (h1 b hb);have hmv:VR C0 (idE E2) (.map (some mm)) (.map (some mm)):=.map ⟨rfl,(r4 mm (.inl rfl)).1⟩;have hob:ob<wb.heap.size:=by obtain ⟨v,hv,_⟩:=qb'.box;exact Ji hv
 refine Jqf (mb:=b2) (mm:=mm) (m0:=m) (T:=T) (T9:=T9b) (most:=most) (base:=qb) (mo:=mo) (ob:=ob) (l:=l) (D:=D) hI.cfg hR.bok r1 (fun t ht x hx=>(Sum.hin hM r1.nodup r2 hS hSM t ht x hx).1) (Jb6 (Sum.len r1.nodup r2) hI.n)
  (hR.ke _ _ (h1 _ hE.2.1) (h3.ke _ _ hE.2.1 k2 trivial) trivial) (fun y hy=>⟨fun e=>(r4 y hy).2 (e▸h1 _ hE2.1),fun e=>(r4 y hy).2 (e▸h1 _ hE2.2.2.1),r1.J73 y hy⟩) ⟨hml,hmo⟩ qb' hqb ((sb.trans sa).trans s9)
  ((zb 7 (by decide)).trans ((za 7 (by decide)).trans t97)) ((zb 10 (by decide)).trans ((za 10 (by decide)).trans Jnf)) (Jba T r1.nodup r2) ⟨hle _ hE2.1,hle _ hE2.2.1,hle _ hE2.2.2.1,hle _ hE2.2.2.2⟩
  (((h9.mono (J18 hR.le)).set 31 hmv (fun h=>by cases h)).set 6 hmv (fun h=>by cases h)) (by simp [h4]) ?_ ?_ ?_ fun E3 t3 w3 T9c ks L j1 j2 j3 j4 j5 j6=>?_
 ·have:=h5 0 (by decide);simpa [Jb9] using this
 ·have:=h5 2 (by decide);simpa [Jb9] using this
 ·simp [Jb9,h4]
 ·exact kn W2 E3 t3 w3 wb T9c T ks L mm (fun b hb=>j1 b (hle b hb)) j2 r1 r2 j3 j4 (by omega) j5 fun b o hb ho n1 n2 n3 hd=>j6 b o (hle b hb) (hR.ke _ _ (h1 _ hb) (h3.ke _ _ hb ho hd) hd) n1 n2 n3 hd
end
end Go.Sim.Z
