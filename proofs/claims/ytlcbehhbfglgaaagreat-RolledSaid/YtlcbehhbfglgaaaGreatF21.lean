/- PROVED HERE: laws. Conditions: none. -/
import Derived.Test.YtlcbehhbfglgaaaGreatF20
set_option linter.all false
namespace Go.Sim.Z
open Go Go.Proofs Go.RowKit
theorem Jh {α:Type} {l:List α} {n:Nat} (h:l.length=n+1):∃ x l',l=x::l'/\l'.length=n:=by
 cases l with
 | nil=>simp at h
 | cons x l=>exact ⟨x,l,rfl,by simpa using h⟩
theorem J03p {T:Array Value} (h:T.size=49):∃ x0 x1 x2 x3 x4 x5 x6 x7 x8 x9 x10 x11 x12 x13 x14 x15 x16 x17 x18 x19 x20 x21 x22 x23 x24 x25 x26 x27 x28 x29 x30 x31 x32 x33 x34 x35 x36 x37 x38 x39 x40 x41 x42 x43 x44 x45 x46 x47 x48,T=#[x0,x1,x2,x3,x4,x5,x6,x7,x8,x9,x10,x11,x12,x13,x14,x15,x16,x17,x18,x19,x20,x21,x22,x23,x24,x25,x26,x27,x28,x29,x30,x31,x32,x33,x34,x35,x36,x37,x38,x39,x40,x41,x42,x43,x44,x45,x46,x47,x48]:=by
 obtain ⟨l⟩:=T;simp only [List.size_toArray] at h;obtain ⟨x0,l0,e0,h⟩:=Jh h;obtain ⟨x1,l1,e1,h⟩:=Jh h;obtain ⟨x2,l2,e2,h⟩:=Jh h;obtain ⟨x3,l3,e3,h⟩:=Jh h;obtain ⟨x4,l4,e4,h⟩:=Jh h;obtain ⟨x5,l5,e5,h⟩:=Jh h;obtain ⟨x6,l6,e6,h⟩:=Jh h;obtain ⟨x7,l7,e7,h⟩:=Jh h;obtain ⟨x8,l8,e8,h⟩:=Jh h;obtain ⟨x9,l9,e9,h⟩:=Jh h;obtain ⟨x10,l10,e10,h⟩:=Jh h;obtain ⟨x11,l11,e11,h⟩:=Jh h;obtain ⟨x12,l12,e12,h⟩:=Jh h;obtain ⟨x13,l13,e13,h⟩:=Jh h;obtain ⟨x14,l14,e14,h⟩:=Jh h;obtain ⟨x15,l15,e15,h⟩:=Jh h;obtain ⟨x16,l16,e16,h⟩:=Jh h;obtain ⟨x17,l17,e17,h⟩:=Jh h;obtain ⟨x18,l18,e18,h⟩:=Jh h;obtain ⟨x19,l19,e19,h⟩:=Jh h;obtain ⟨x20,l20,e20,h⟩:=Jh h;obtain ⟨x21,l21,e21,h⟩:=Jh h;obtain ⟨x22,l22,e22,h⟩:=Jh h;obtain ⟨x23,l23,e23,h⟩:=Jh h;obtain ⟨x24,l24,e24,h⟩:=Jh h;obtain ⟨x25,l25,e25,h⟩:=Jh h;obtain ⟨x26,l26,e26,h⟩:=Jh h;obtain ⟨x27,l27,e27,h⟩:=Jh h;obtain ⟨x28,l28,e28,h⟩:=Jh h;obtain ⟨x29,l29,e29,h⟩:=Jh h;obtain ⟨x30,l30,e30,h⟩:=Jh h;obtain ⟨x31,l31,e31,h⟩:=Jh h;obtain ⟨x32,l32,e32,h⟩:=Jh h;obtain ⟨x33,l33,e33,h⟩:=Jh h;obtain ⟨x34,l34,e34,h⟩:=Jh h;obtain ⟨x35,l35,e35,h⟩:=Jh h;obtain ⟨x36,l36,e36,h⟩:=Jh h;obtain ⟨x37,l37,e37,h⟩:=Jh h;obtain ⟨x38,l38,e38,h⟩:=Jh h;obtain ⟨x39,l39,e39,h⟩:=Jh h;obtain ⟨x40,l40,e40,h⟩:=Jh h;obtain ⟨x41,l41,e41,h⟩:=Jh h;obtain ⟨x42,l42,e42,h⟩:=Jh h;obtain ⟨x43,l43,e43,h⟩:=Jh h;obtain ⟨x44,l44,e44,h⟩:=Jh h;obtain ⟨x45,l45,e45,h⟩:=Jh h;obtain ⟨x46,l46,e46,h⟩:=Jh h;obtain ⟨x47,l47,e47,h⟩:=Jh h;obtain ⟨x48,l48,e48,h⟩:=Jh h;subst e0 e1 e2 e3 e4 e5 e6 e7 e8 e9 e10 e11 e12 e13 e14 e15 e16 e17 e18 e19 e20 e21 e22 e23 e24 e25 e26 e27 e28 e29 e30 e31 e32 e33 e34 e35 e36 e37 e38 e39 e40 e41 e42 e43 e44 e45 e46 e47 e48;cases l48 with
 | nil=>exact ⟨x0,x1,x2,x3,x4,x5,x6,x7,x8,x9,x10,x11,x12,x13,x14,x15,x16,x17,x18,x19,x20,x21,x22,x23,x24,x25,x26,x27,x28,x29,x30,x31,x32,x33,x34,x35,x36,x37,x38,x39,x40,x41,x42,x43,x44,x45,x46,x47,x48,rfl⟩
 | cons x l=>simp at h
def J19 (T:List TR):List (List Int × Bun):=T.map fun t=>(t.k,t.B)
def J3y (T:List TR) (l:List Je):List (List Int × Bun):=l.filterMap fun k=>(tm T k.1).map fun B=>(k.1,B)
theorem Jj4 (T:List TR) (l l':List Je):J3y T (l++l')=J3y T l++J3y T l':=List.filterMap_append
def TL (w:World) (c:J8) (m:Nat) (Pl:Nat->Prop) (n:Nat) (E:List (List Int × Bun)) (wr:World):Prop:=
 ∃ T,TabAt false wr c m T/\Sum c (tm T) E/\T.length<=n/\(∀ x,x=m\/x∈tpl T->Pl x\/w.heap.size<=x)/\Tch w.heap.size Pl w wr
section
variable {c:J8} {m:Nat} {Pl:Nat->Prop} {n:Nat} {E:List (List Int × Bun)} {w wr w' w2:World}
theorem TL.skip (h:TL w c m Pl n E wr) (ht:Tch wr.heap.size M0 wr w'):TL w c m Pl n E w':=by obtain ⟨T,h1,h2,h3,h4,h5⟩:=h;exact ⟨T,h1.kept fun x hx=>ht.heap x (h1.lt x hx) fun h=>h,h2,h3,h4,h5.trans (ht.mono h5.size fun _ _ h=>h.elim)⟩
theorem TL.take {P:List TR} {mp:Nat} {x:Je} {t:TR} (h:TL w c m Pl n E wr) (hq:Tch wr.heap.size M0 wr w2) (hc:Jw c) (hP:TabAt false w c mp P) (hd:∀ y,y=mp\/y∈tpl P->¬ Pl y) (hPw:∀ y,y=mp\/y∈tpl P->y<w.heap.size) (ht:t∈P) (hk:x.1=t.k) (hn:n<=100000) :
  Calls Tryz.prog 65 #[.map (some m),.agg (ai .i64 x.1),.pointer (some ⟨t.p.b,0,none⟩)] w2 fun e w'=>(∃ v,e=.returned v)/\TL w c m Pl (n+1) (E++[(x.1,t.B)]) w'/\∀ b,wr.heap.size<=b\/b=mp->b<w2.heap.size->w'.heap[b]?=w2.heap[b]?:=by
 have hs:=h.skip hq;obtain ⟨T,h1,_,_,h4,h5⟩:=h;obtain ⟨_,_,h2,h3,_,h5'⟩:=hs;have h1':TabAt false w2 c m T:=h1.kept fun x hx=>hq.heap x (h1.lt x hx) fun h=>h;rename_i h2o h3o _ _ _;have hb:=(hP.bun t ht).kept (w':=w2) fun y hy=>h5'.heap y (hPw y (.inr (Jm.2 ⟨t,ht,hy⟩))) (hd y (.inr (Jm.2 ⟨t,ht,hy⟩)));refine (Jky h1' x.2 hb (hP.ok t ht) hc (fun y hy=>?_) (by omega)).mono ?_
 ·have hy':=Jm.2 ⟨t,ht,hy⟩;have hlt:=hPw y (.inr hy');have hn:=hd y (.inr hy');exact ⟨fun e=>(h4 y (.inl e)).elim hn fun h=>by omega,fun e=>(h4 y (.inr e)).elim hn fun h=>by omega⟩
 ·rintro e w' ⟨hv,T',k1,k2,k3,k4,k5⟩;refine ⟨hv,⟨T',k1,h2o.put k2,by omega,fun y hy=>?_,h5'.trans (k5.mono h5'.size fun y hy hm=>?_)⟩,fun b hb hlt=>k5.heap b hlt fun hm=>?_⟩
  ·rcases hy with hy|hy
   ·exact h4 y (.inl hy)
   ·rcases k4 y hy with h|h
    ·exact h4 y (.inr h)
    ·exact .inr (Jb6 h5'.size h)
  ·exact (h4 y hm).elim id fun h=>by omega
  ·rcases hb with hb|rfl
   ·have:=h1.lt b hm;omega
   ·have:=hPw b (.inl rfl);exact (h4 b hm).elim (hd b (.inl rfl)) fun h=>by omega
end
theorem Jfi.at {w:World} {base:Nat} {v:Value} {ks:List Je} (h:Jfi w base v ks):∃ ka kc,KAt false w ka kc ks/\v=.slice ka ks.length kc/\∀ a,ka=some a->base<=a.block/\a.block<w.heap.size:=by
 rcases h with ⟨rfl,rfl⟩|⟨g,cap,cur,h1,h2,h3,h4,h5,h6,h7,h8⟩
 ·exact ⟨none,0,.inl ⟨rfl,rfl⟩,rfl,fun a e=>by cases e⟩
 ·exact ⟨_,cap,.inr ⟨g,cur,rfl,⟨(0,0),h3,fun _=>rfl⟩,h4,h6,h8,h7⟩,h1,fun a e=>by cases e;exact ⟨h2,Ji h3⟩⟩
theorem Jmt (ss:List Je):(sortK ss).Perm ss:=List.mergeSort_perm _ _
theorem keysOf.keys {L:List (List Int × Value)} {ks:List Je} (h:keysOf L ks):(ks.map (·.1)).Perm (L.map (·.1)):=by obtain ⟨ss,h1,rfl⟩:=h;exact ((Jmt ss).map _).trans h1
theorem keysOf.length {L:List (List Int × Value)} {ks:List Je} (h:keysOf L ks):ks.length=L.length:=by have:=h.keys.length_eq;simpa using this
theorem J58 {T:List TR} (hn:(T.map (·.k)).Nodup) {t:TR} (ht:t∈T):tm T t.k=some t.B:=by
 induction T with
 | nil=>simp at ht
 | cons s T ih=>
  simp only [Jc4,List.nodup_cons] at hn;unfold tm at ih ⊢;rw [List.find?_cons];by_cases e:s.k=t.k
  ·rcases Jb8.1 ht with rfl|ht
   ·simp
   ·exact absurd (Jb3.2 ⟨t,ht,e.symm⟩) hn.1
  ·simp only [e,decide_false];rcases Jb8.1 ht with rfl|ht
   ·exact absurd rfl e
   ·exact ih hn.2 ht
theorem Jfj (T:List TR):(T.map TR.kv).map (·.1)=T.map (·.k):=by rw [List.map_map];rfl
theorem keysOf.row {T:List TR} {ks:List Je} (h:keysOf (T.map TR.kv) ks) (hn:(T.map (·.k)).Nodup) {x:Je} (hx:x∈ks):∃ t∈T,t.k=x.1/\tm T x.1=some t.B:=by have hm:x.1∈(T.map TR.kv).map (·.1):=h.keys.mem_iff.1 (List.mem_map_of_mem hx);rw [Jfj] at hm;obtain ⟨t,ht,e⟩:=Jb3.1 hm;exact ⟨t,ht,e,e▸J58 hn ht⟩
theorem Jmu {T:List TR} {ks:List Je} (hn:(T.map (·.k)).Nodup) (h:keysOf (T.map TR.kv) ks):(J3y T ks).Perm (J19 T):=by
 have hp:=h.keys;rw [Jfj] at hp;have e1:J3y T ks=(ks.map (·.1)).filterMap fun k=>(tm T k).map fun B=>(k,B):=by unfold J3y;rw [List.filterMap_map];rfl
 have e2:J19 T=(T.map (·.k)).filterMap fun k=>(tm T k).map fun B=>(k,B):=by
  unfold J19;have gen:∀ l:List TR,(∀ t∈l,t∈T)->(l.map fun t=>(t.k,t.B))=(l.map (·.k)).filterMap fun k=>(tm T k).map fun B=>(k,B):=by
   intro l
   induction l with
   | nil=>exact fun _=>rfl
   | cons t l ih=>
    intro h;rw [Jc4,Jc4,List.filterMap_cons,J58 hn (h t (by simp)),ih fun s hs=>h s (by simp [hs])];rfl
  exact gen T fun _ h=>h
 rw [e1,e2];exact hp.filterMap _
section
variable {c:J8} {C m0:Nat} {T0:List TR} {E0:List (List Int × Bun)} {mp:Nat->Nat} {P:Nat->List TR} {w:World}
set_option maxRecDepth 100000 in
set_option maxHeartbeats 4000000 in
theorem Jvx {x0 x1 x2 x3 x4 x5 x6 x7 x8 x9 x10 x11 x12 x13 x14 x15 x16 x17 x18 x19 x20 x21 x22 x23 x24 x25 x26 x27 x28 x29 x30 x31 x32 x33 x34 x35 x36 x37 x38 x39 x40 x41 x42 x43 x44 x45 x46 x47 x48:Value} (hc:Jw c) (hC:w.heap[C]?=some (.cells #[.map (some m0),.map (some (mp 0)),.map (some (mp 1)),.map (some (mp 2))] 138)) (hT:TabAt false w c m0 T0) (hS:Sum c (tm T0) E0) (hl:T0.length<=1004)
  (hP:∀ i,i<3->TabAt false w c (mp i) (P i)/\(P i).length<=1004/\∀ x,x=mp i\/x∈tpl (P i)->¬ (x=m0\/x∈tpl T0)) (hCm:¬ (C=m0\/C∈tpl T0)) (d:Deferred) :
  J39.wp Tryz.prog (fun e a w1=>e=.ret/\a.tmps[9]?=some x9/\a.tmps[10]?=some x10/\a.tmps[18]?=some x18/\a.tmps[19]?=some x19/\a.tmps[20]?=some x20/\a.tmps[21]?=some x21/\a.tmps[22]?=some x22/\a.tmps[23]?=some x23/\a.tmps[24]?=some x24/\a.tmps[6]?=some (.map (some m0))/\∃ EE,EE.Perm (J19 (P 0)++J19 (P 1)++J19 (P 2))/\TL w c m0 (fun x=>x=m0\/x∈tpl T0) 4016 (E0++EE) w1) ⟨#[x0,x1,x2,x3,x4,x5,x6,x7,.pointer (some ⟨C,0,none⟩),x9,x10,x11,x12,x13,x14,x15,x16,x17,x18,x19,x20,x21,x22,x23,x24,x25,x26,x27,x28,x29,x30,x31,x32,x33,x34,x35,x36,x37,x38,x39,x40,x41,x42,x43,x44,x45,x46,x47,x48],[d]⟩ w:=by
 have hc0:w.cell? ⟨C,0,none⟩=some (.map (some m0)):=(cell_of hC 0).trans rfl;simp only [J39,b40,J3l,Tryz.f40,Ja6];go_wp2
 go_loopw [29] (fun x wr=>∃ i:Nat,x=.int .i64 (i:Int)/\i<=3/\∃ EE,EE.Perm (((List.range i).map fun i=>J19 (P i)).flatten)/\TL w c m0 (fun x=>x=m0\/x∈tpl T0) (1004+i*1004) (E0++EE) wr) (fun x _=>3-(RowKit.intOf x).toNat)
 case atStart=>exact ⟨0,rfl,by omega,[],.refl _,T0,hT,by simpa using hS,by omega,fun x hx=>.inl hx,.refl⟩
 case round=>
  obtain ⟨i,rfl,hi,EE,hEE,hTL⟩:=hrel;rcases Jb5 i 3 with hlt|hge
  ·have hlt':(i:Int)<3:=by omega
   have hcl:wr.cell? ⟨C,1+i,none⟩=some (.map (some (mp i))):=by
    have hCl:=Ji hC;obtain ⟨T,h1,h2,h3,h4,h5⟩:=hTL;have:=h5.heap C hCl hCm;rw [Jb4 this,cell_of hC]
    match i,hlt with
    | 0,_=>rfl
    | 1,_=>rfl
    | 2,_=>rfl
   have hCl:=Ji hC;have hPi:=hP i hlt;have hCM:J09 wr (mp i) ((P i).map TR.kv):=by obtain ⟨T,h1,h2,h3,h4,h5⟩:=hTL;exact hPi.1.map.kept (h5.heap _ hPi.1.map.lt (hPi.2.2 _ (.inl rfl)))
   have hsort:=J72 (mp i) _ wr hCM (by simp;omega)
   go_wp2_with (go_at_call 32;refine hsort.mono ?_;rintro e w1 ⟨v,ks,rfl,hk,hr,ht⟩;obtain ⟨ka,kc,hka,rfl,hkb⟩:=hr.at)
   obtain ⟨T,h1,h2,h3,h4,h5⟩:=hTL;have hL0:TL w1 c m0 (fun x=>x=m0\/x∈tpl T) (1004+i*1004) (E0++EE) w1:=⟨T,h1.kept fun x hx=>ht.heap x (h1.lt x hx) fun h=>h,h2,h3,fun x hx=>.inl hx,.refl⟩;have hP1:TabAt false w1 c (mp i) (P i):=hPi.1.kept fun x hx=>(ht.heap x (Jb7 (hPi.1.lt x hx) h5.size) fun h=>h).trans (h5.heap x (hPi.1.lt x hx) (hPi.2.2 x hx));have hPd:∀ y,y=mp i\/y∈tpl (P i)->¬ (y=m0\/y∈tpl T):=fun y hy hm=>(h4 y hm).elim (hPi.2.2 y hy) fun h=>by have:=hPi.1.lt y hy;omega
   have hgd:∀ a,ka=some a->¬ (a.block=m0\/a.block∈tpl T):=fun a ha hm=>by have:=h1.lt _ hm;have:=(hkb a ha).1;omega
   have hkp:=Jmu hP1.nodup hk;have hkl:ks.length<=1004:=by have:=hk.length;simp only [Jc3] at this;omega
   go_loopw [36] (fun x wr2=>∃ j:Nat,x=.int .i64 (j:Int)/\j<=ks.length/\TL w1 c m0 (fun x=>x=m0\/x∈tpl T) (1004+i*1004+j) (E0++EE++J3y (P i) (ks.take j)) wr2) (fun x _=>ks.length-(RowKit.intOf x).toNat)
   case atStart=>exact ⟨0,rfl,by omega,by simpa [J3y] using hL0⟩
   case round=>
    obtain ⟨j,rfl,hj,Jj5⟩:=hrel;rcases Jb5 j ks.length with hjlt|hjge
    ·have J07v:(j:Int)<ks.length:=by omega
     have hx:ks[j]?=some ks[j]:=Jb1 hjlt;generalize ks[j]=x at hx;have hks:KAt false wr ka kc ks:=by
      obtain ⟨T2,k1,k2,k3,k4,k5⟩:=Jj5;rcases hka with h|⟨g,cur,q1,q2,q3⟩
      ·exact .inl h
      ·exact .inr ⟨g,cur,q1,q2.kept (k5.heap g q2.lt (hgd _ q1)),q3⟩
     obtain ⟨g,rfl,hg,hpk,hcl⟩:=hks.cells hx;obtain ⟨x,hxk⟩:=x;obtain ⟨a0,a1,a2,a3,a4,rfl⟩:∃ a0 a1 a2 a3 a4,x=[a0,a1,a2,a3,a4]:=by
      have:=hxk.1
      match x,this with
      | [a0,a1,a2,a3,a4],_=>exact ⟨a0,a1,a2,a3,a4,rfl⟩
     have q0:=hcl 0 (by omega);have q1:=hcl 1 (by omega);have q2:=hcl 2 (by omega);have q3:=hcl 3 (by omega);have q4:=hcl 4 (by omega);simp only [List.getD_cons_zero,List.getD_cons_succ,Nat.add_zero] at q0 q1 q2 q3 q4;obtain ⟨t,ht1,ht2,ht3⟩:=hk.row hP1.nodup (x:=⟨[a0,a1,a2,a3,a4],hxk⟩) (Jd0 hx);have hb2:TabAt false wr c (mp i) (P i):=by obtain ⟨T2,k1,k2,k3,k4,k5⟩:=Jj5;exact hP1.kept fun y hy=>k5.heap y (hP1.lt y hy) (hPd y hy)
     have hlk0:Tch wr.heap.size M0 wr (wr.alloc (.cells #[.int .i64 a0,.int .i64 a1,.int .i64 a2,.int .i64 a3,.int .i64 a4] 76)).drew:=(Tch.refl.alloc (Ja2 _) _).drew;have hb3:=hb2.kept fun y hy=>hlk0.heap y (hb2.lt y hy) fun h=>h;have hlk:=hb3.map.lookup hxk;have hlook:look ((P i).map TR.kv) [a0,a1,a2,a3,a4]=some (.pointer (some ⟨t.p.b,0,none⟩)):=(Jbs hP1.map.nodup).2 (Jb3.2 ⟨t,ht1,by simp [TR.kv,ht2]⟩);rw [hlook] at hlk;have Jdg:=Jj5.take hlk0 (x:=⟨_,hxk⟩) hc hP1 hPd hP1.lt ht1 ht2.symm (by omega);have hke:J3y (P i) (ks.take (j+1))=J3y (P i) (ks.take j)++[([a0,a1,a2,a3,a4],t.B)]:=by rw [List.take_add_one,hx,Jj4];simp [J3y,ht3]
     rw [List.append_assoc,<- hke] at Jdg;rw [show ai .i64 [a0,a1,a2,a3,a4]=#[.int .i64 a0,.int .i64 a1,.int .i64 a2,.int .i64 a3,.int .i64 a4] from rfl] at hlk Jdg;have hnew:(wr.alloc (.cells #[.int .i64 a0,.int .i64 a1,.int .i64 a2,.int .i64 a3,.int .i64 a4] 76)).drew.heap[wr.heap.size]?=some (.cells #[.int .i64 a0,.int .i64 a1,.int .i64 a2,.int .i64 a3,.int .i64 a4] 76):=Ja _;have hcall:Hid (Calls Tryz.prog 65 #[.map (some m0),.agg #[.int .i64 a0,.int .i64 a1,.int .i64 a2,.int .i64 a3,.int .i64 a4],.pointer (some ⟨t.p.b,0,none⟩)] (wr.alloc (.cells #[.int .i64 a0,.int .i64 a1,.int .i64 a2,.int .i64 a3,.int .i64 a4] 76)).drew fun e w'=>(∃ v,e=.returned v)/\TL w1 c m0 (fun x=>x=m0\/x∈tpl T) (1004+i*1004+j+1) (E0++EE++J3y (P i) (ks.take (j+1))) w'/\(w'.cell? ⟨wr.heap.size,0,none⟩=some (.int .i64 a0)/\w'.cell? ⟨wr.heap.size,1,none⟩=some (.int .i64 a1)/\w'.cell? ⟨wr.heap.size,2,none⟩=some (.int .i64 a2)/\w'.cell? ⟨wr.heap.size,3,none⟩=some (.int .i64 a3)/\w'.cell? ⟨wr.heap.size,4,none⟩=some (.int .i64 a4)/\(Instr.lookup 70 (.map (some (mp i))) (.agg #[.int .i64 a0,.int .i64 a1,.int .i64 a2,.int .i64 a3,.int .i64 a4]) false).run Tryz.prog w'=.ok (.pointer (some ⟨t.p.b,0,none⟩)) w')):=by refine Jdg.mono ?_;rintro e w' ⟨k1,k2,k3⟩;rw [List.append_assoc] at k2 ⊢;have hz:(wr.alloc (.cells #[.int .i64 a0,.int .i64 a1,.int .i64 a2,.int .i64 a3,.int .i64 a4] 76)).drew.heap.size=wr.heap.size+1:=size_alloc _;have Jdh:w'.heap[wr.heap.size]?=some (.cells #[.int .i64 a0,.int .i64 a1,.int .i64 a2,.int .i64 a3,.int .i64 a4] 76):=(k3 _ (.inl (Ja2 _)) (by omega)).trans hnew;have hb4:=(hb3.map.kept (k3 _ (.inr rfl) hb3.map.lt)).lookup hxk;rw [hlook] at hb4;exact ⟨k1,k2,(cell_of Jdh 0).trans rfl,(cell_of Jdh 1).trans rfl,(cell_of Jdh 2).trans rfl,(cell_of Jdh 3).trans rfl,(cell_of Jdh 4).trans rfl,hb4⟩
     clear Jdg;have hf:Hid ((wr.alloc (.cells #[.int .i64 a0,.int .i64 a1,.int .i64 a2,.int .i64 a3,.int .i64 a4] 76)).drew.cell? ⟨wr.heap.size,0,none⟩=some (.int .i64 a0)/\(wr.alloc (.cells #[.int .i64 a0,.int .i64 a1,.int .i64 a2,.int .i64 a3,.int .i64 a4] 76)).drew.cell? ⟨wr.heap.size,1,none⟩=some (.int .i64 a1)/\(wr.alloc (.cells #[.int .i64 a0,.int .i64 a1,.int .i64 a2,.int .i64 a3,.int .i64 a4] 76)).drew.cell? ⟨wr.heap.size,2,none⟩=some (.int .i64 a2)/\(wr.alloc (.cells #[.int .i64 a0,.int .i64 a1,.int .i64 a2,.int .i64 a3,.int .i64 a4] 76)).drew.cell? ⟨wr.heap.size,3,none⟩=some (.int .i64 a3)/\(wr.alloc (.cells #[.int .i64 a0,.int .i64 a1,.int .i64 a2,.int .i64 a3,.int .i64 a4] 76)).drew.cell? ⟨wr.heap.size,4,none⟩=some (.int .i64 a4) /\
       (Instr.lookup 70 (.map (some (mp i))) (.agg #[.int .i64 a0,.int .i64 a1,.int .i64 a2,.int .i64 a3,.int .i64 a4]) false).run Tryz.prog (wr.alloc (.cells #[.int .i64 a0,.int .i64 a1,.int .i64 a2,.int .i64 a3,.int .i64 a4] 76)).drew=.ok (.pointer (some ⟨t.p.b,0,none⟩)) (wr.alloc (.cells #[.int .i64 a0,.int .i64 a1,.int .i64 a2,.int .i64 a3,.int .i64 a4] 76)).drew):=
      ⟨(cell_of hnew 0).trans rfl,(cell_of hnew 1).trans rfl,(cell_of hnew 2).trans rfl,(cell_of hnew 3).trans rfl,(cell_of hnew 4).trans rfl,hlk⟩
     go_wp2_with fail
     clear hlk hnew hb3 hlk0 hb2 q0 q1 q2 q3 q4 hcl hke;generalize hW:(wr.alloc (.cells #[.int .i64 a0,.int .i64 a1,.int .i64 a2,.int .i64 a3,.int .i64 a4] 76))=W at *
     go_region_held3 (fun w1=>w1.cell? ⟨wr.heap.size,0,none⟩=some (.int .i64 a0)/\w1.cell? ⟨wr.heap.size,1,none⟩=some (.int .i64 a1)/\w1.cell? ⟨wr.heap.size,2,none⟩=some (.int .i64 a2)/\w1.cell? ⟨wr.heap.size,3,none⟩=some (.int .i64 a3)/\w1.cell? ⟨wr.heap.size,4,none⟩=some (.int .i64 a4)/\(Instr.lookup 70 (.map (some (mp i))) (.agg #[.int .i64 a0,.int .i64 a1,.int .i64 a2,.int .i64 a3,.int .i64 a4]) false).run Tryz.prog w1=.ok (.pointer (some ⟨t.p.b,0,none⟩)) w1)
      (first|exact hf|exact hS3)
      ((go_at_call 65;refine (show Calls _ _ _ _ _ from hcall).mono ?_;rintro e w3 ⟨⟨v,rfl⟩,hL3,hS3⟩))
     all_goals go_wp2
     all_goals exact ⟨⟨j+1,by go_num,by omega,hL3⟩,by simp [RowKit.intOf];omega⟩
    ·have J07w:¬ ((j:Int)<ks.length):=by omega
     have hjj:j=ks.length:=by omega
     subst hjj;rw [List.take_length] at Jj5;go_wp2;refine ⟨⟨i+1,by go_num,by omega,EE++J3y (P i) ks,?_,?_⟩,by simp [RowKit.intOf];omega⟩
     ·rw [List.range_succ,List.map_append,List.flatten_append];exact hEE.append (by simpa using hkp)
     ·obtain ⟨T2,k1,k2,k3,k4,k5⟩:=Jj5;refine ⟨T2,k1,by rw [<- List.append_assoc];exact k2,by omega,fun x hx=>?_,(h5.trans (ht.mono h5.size fun _ _ h=>h.elim)).trans (k5.mono (Jb6 h5.size ht.size) fun b hb hm=>(h4 b hm).elim id fun h=>by omega)⟩;rcases k4 x hx with h|h
      ·exact h4 x h
      ·exact .inr (Jb6 (Jb6 h5.size ht.size) h)
  ·have hge':¬ ((i:Int)<3):=by omega
   have hi3:i=3:=by omega
   subst hi3;go_wp2;exact ⟨EE,by simpa [List.range_succ] using hEE,hTL⟩
end
end Go.Sim.Z
