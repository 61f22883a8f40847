/- PROVED HERE: laws. Conditions: none. -/
import Derived.Test.YtlcbehhbfglgaaaGreatF03
set_option linter.all false
set_option maxHeartbeats 4000000
set_option maxRecDepth 100000
namespace Go.Sim.Z
open Go Go.Proofs Go.RowKit
structure TR where
 k:List Int
 p:BP
 B:Bun
def TR.kv (t:TR):List Int × Value:=(t.k,.pointer (some ⟨t.p.b,0,none⟩))
def tpl (T:List TR):List Nat:=T.flatMap fun t=>t.p.pl
def tm (T:List TR) (k:List Int):Option Bun:=(T.find? fun t=>decide (t.k=k)).map (·.B)
structure TabAt (fr:Bool) (w:World) (c:J8) (m:Nat) (T:List TR):Prop where
 map:J09 w m (T.map TR.kv)
 bun:∀ t∈T,Jz fr w c t.p t.B
 ok:∀ t∈T,Jl c t.B
 out:m∉tpl T
 dis:T.Pairwise fun s t=>∀ x∈s.p.pl,x∉t.p.pl
theorem Jm {T:List TR} {x:Nat}:x∈tpl T↔∃ t∈T,x∈t.p.pl:=by simp [tpl]
section
variable {fr:Bool} {w w':World} {c:J8} {m:Nat} {T:List TR} {k:List Int}
theorem TabAt.keys (h:TabAt fr w c m T):∀ t∈T,J0t t.k:=fun t ht=>h.map.keys t.kv (List.mem_map_of_mem ht)
theorem TabAt.nodup (h:TabAt fr w c m T):(T.map (·.k)).Nodup:=by
 have:=h.map.nodup
 rwa [List.map_map,show (fun p:List Int × Value=>p.1) ∘ TR.kv=TR.k from rfl] at this
theorem TabAt.kept (h:TabAt fr w c m T) (hh:∀ x,x=m\/x∈tpl T->w'.heap[x]?=w.heap[x]?):TabAt fr w' c m T:=
 ⟨h.map.kept (hh m (.inl rfl)),fun t ht=>(h.bun t ht).kept fun x hx=>hh x (.inr (Jm.2 ⟨t,ht,hx⟩)),h.ok,h.out,h.dis⟩
theorem TabAt.lt (h:TabAt fr w c m T):∀ x,x=m\/x∈tpl T->x<w.heap.size:=fun x hx=>by
 rcases hx with rfl|hx
 ·exact h.map.lt
 ·obtain ⟨t,ht,hx⟩:=Jm.1 hx;exact (h.bun t ht).lt x hx
theorem TabAt.tch {N:Nat} {M:Nat->Prop} (h:TabAt fr w c m T) (q:Tch N M w w') (hb:∀ x,x=m\/x∈tpl T->x<N/\¬ M x):TabAt fr w' c m T:=h.kept fun x hx=>q.heap x (hb x hx).1 (hb x hx).2
theorem J4s {T:List TR} {k:List Int} (h:tm T k=none):look (T.map TR.kv) k=none/\∀ t∈T,t.k≠k:=by unfold tm at h;rw [Option.map_eq_none_iff,List.find?_eq_none] at h;refine ⟨?_,fun t ht e=>h t ht (by simp [e])⟩;unfold look;rw [Option.map_eq_none_iff,List.find?_eq_none];intro p hp;obtain ⟨t,ht,rfl⟩:=Jb3.1 hp;exact h t ht
theorem J21 {T:List TR} {k:List Int} {b:Bun} (h:tm T k=some b):∃ t T1 T2,T=T1++t::T2/\t.k=k/\t.B=b/\(∀ s∈T1,s.k≠k)/\look (T.map TR.kv) k=some (.pointer (some ⟨t.p.b,0,none⟩)):=by
 induction T with
 | nil=>simp [tm] at h
 | cons s T ih=>
  by_cases e:s.k=k
  ·refine ⟨s,[],T,rfl,e,?_,by simp,?_⟩
   ·simpa [tm,e] using h
   ·simp [look,TR.kv,e]
  ·have h':tm T k=some b:=by simpa [tm,e] using h
   obtain ⟨t,T1,T2,rfl,h1,h2,h3,h4⟩:=ih h';refine ⟨t,s::T1,T2,rfl,h1,h2,fun x hx=>?_,?_⟩
   ·rcases Jb8.1 hx with rfl|hx
    ·exact e
    ·exact h3 x hx
   ·have:(s.kv).1≠k:=e;simp only [look,Jc4,List.find?_cons,this,decide_false] at h4 ⊢;exact h4
theorem J6y {T1 T2:List TR} {t:TR} (h:∀ s∈T1,s.k≠t.k) (k:List Int):tm (T1++t::T2) k=if k=t.k then some t.B else ((tm T1 k).or (tm T2 k)):=by
 unfold tm;rw [List.find?_append,List.find?_cons];by_cases e:k=t.k
 ·subst e;have:(T1.find? fun s=>decide (s.k=t.k))=none:=List.find?_eq_none.2 fun s hs=>by simpa using h s hs
  simp [this]
 ·rw [if_neg e];have:decide (t.k=k)=false:=by simp [Ne.symm e]
  rw [this];cases T1.find? fun s=>decide (s.k=k)<;>rfl
def J6j (w:World) (c:J8) (m:Nat) (T:List TR) (k:List Int) (B:Bun) (w':World):Prop:=
 ∃ T',TabAt false w' c m T'/\(∀ k',tm T' k'=if k'=k then om c (tm T k) B else tm T k')/\T'.length<=T.length+1/\(∀ x∈tpl T',x∈tpl T\/w.heap.size<=x)/\Tch w.heap.size (fun x=>x=m\/x∈tpl T) w w'
theorem TabAt.there {T1 T2:List TR} {t:TR} {B:Bun} (h:TabAt false w c m (T1++t::T2)) (hk:∀ s∈T1,s.k≠t.k) (hB:Jl c B) (hp:J4w w c t.p (mg c t.B B) w'):J6j w c m (T1++t::T2) t.k B w':=by
 obtain ⟨p',e1,h1,h2,h3⟩:=hp;have mt:t∈T1++t::T2:=by simp
 have hd:=h.dis;rw [List.pairwise_append,Jd4] at hd;have hother:∀ s,s∈T1\/s∈T2->(∀ x∈s.p.pl,x∉t.p.pl):=fun s hs x hx hx'=>by
  rcases hs with hs|hs
  ·exact hd.2.2 s hs t (by simp) x hx hx'
  ·exact hd.2.1.1 s hs x hx' hx
 have hsame:∀ x,x=m\/(∃ s,(s∈T1\/s∈T2)/\x∈s.p.pl)->w'.heap[x]?=w.heap[x]?:=fun x hx=>by
  refine h3.heap x ?_ ?_
  ·rcases hx with rfl|⟨s,hs,hx⟩
   ·exact h.map.lt
   ·exact (h.bun s (by rcases hs with hs|hs<;>simp [hs])).lt x hx
  ·rcases hx with rfl|⟨s,hs,hx⟩
   ·exact fun hx=>h.out (Jm.2 ⟨t,mt,hx⟩)
   ·exact hother s hs x hx
 have hfresh:∀ s,s∈T1\/s∈T2->∀ x∈s.p.pl,x∉p'.pl:=fun s hs x hx hx'=>by
  rcases h2 x hx' with h4|h4
  ·exact hother s hs x hx h4
  ·have:=(h.bun s (by rcases hs with hs|hs<;>simp [hs])).lt x hx;omega
 have hpl:∀ x,x∈tpl (T1++⟨t.k,p',mg c t.B B⟩::T2)->x∈tpl (T1++t::T2)\/w.heap.size<=x:=fun x hx=>by
  obtain ⟨s,hs,hx⟩:=Jm.1 hx;rcases Jc9.1 hs with hs|hs
  ·exact .inl (Jm.2 ⟨s,by simp [hs],hx⟩)
  ·rcases Jb8.1 hs with rfl|hs
   ·exact (h2 x hx).imp (fun hx=>Jm.2 ⟨t,mt,hx⟩) id
   ·exact .inl (Jm.2 ⟨s,by simp [hs],hx⟩)
 have hkv:(T1++⟨t.k,p',mg c t.B B⟩::T2).map TR.kv=(T1++t::T2).map TR.kv:=by simp only [List.map_append,Jc4,TR.kv,e1]
 refine ⟨T1++⟨t.k,p',mg c t.B B⟩::T2,⟨?_,fun s hs=>?_,fun s hs=>?_,fun hx=>?_,?_⟩,fun k'=>?_,by simp,hpl,h3.mono (Ja2 _) fun x _ hx=>.inr (Jm.2 ⟨t,mt,hx⟩)⟩
 ·rw [hkv];exact h.map.kept (hsame m (.inl rfl))
 ·rcases Jc9.1 hs with hs|hs
  ·exact (h.bun s (by simp [hs])).kept fun x hx=>hsame x (.inr ⟨s,.inl hs,hx⟩)
  ·rcases Jb8.1 hs with rfl|hs
   ·exact h1
   ·exact (h.bun s (by simp [hs])).kept fun x hx=>hsame x (.inr ⟨s,.inr hs,hx⟩)
 ·rcases Jc9.1 hs with hs|hs
  ·exact h.ok s (by simp [hs])
  ·rcases Jb8.1 hs with rfl|hs
   ·exact (h.ok t mt).mg hB
   ·exact h.ok s (by simp [hs])
 ·rcases hpl m hx with hx|hx
  ·exact h.out hx
  ·have:=h.map.lt;omega
 ·rw [List.pairwise_append,Jd4];refine ⟨hd.1,⟨fun s hs x hx hx'=>hfresh s (.inr hs) x hx' hx,hd.2.1.2⟩,fun s hs y hy x hx=>?_⟩;rcases Jb8.1 hy with rfl|hy
  ·exact hfresh s (.inl hs) x hx
  ·exact hd.2.2 s hs y (by simp [hy]) x hx
 ·rw [J6y (t:=⟨t.k,p',mg c t.B B⟩) hk,J6y hk,J6y hk,if_pos rfl];by_cases e:k'=t.k
  ·simp [e,om]
  ·simp [e]
theorem TabAt.Jbv {p:BP} {B:Bun} {w1:World} (h:TabAt false w c m T) (hn:tm T k=none) (hB:Jl c B) (hp:Jz false w1 c p B) (hf:∀ x∈p.pl,w.heap.size<=x) (ht:Tch w.heap.size M0 w w1)
  (hm:J09 w' m (J5c k (.pointer (some ⟨p.b,0,none⟩)) (T.map TR.kv))) (hg:w1.grownBy w' (some m)):J6j w c m T k B w':=by
 have hno:=(J4s hn).2;have hT:J5c k (.pointer (some ⟨p.b,0,none⟩)) (T.map TR.kv)=(⟨k,p,B⟩::T:List TR).map TR.kv:=by
  unfold J5c;rw [List.filter_eq_self.2]
  ·rfl
  ·intro q hq;obtain ⟨t,ht,rfl⟩:=Jb3.1 hq;have h9:decide (t.k=k)=false:=by simpa using hno t ht
   show (!decide (t.k=k))=true;rw [h9];rfl
 rw [hT] at hm;have hml:=h.map.lt;have hfm:m∉p.pl:=fun hx=>by have:=hf m hx;omega
 have g2:∀ x,x<w1.heap.size->x≠m->w'.heap[x]?=w1.heap[x]?:=fun x hx hne=>hg.block x hx fun e=>hne (Ja0 e);refine ⟨⟨k,p,B⟩::T,⟨hm,fun t hmem=>?_,fun t hmem=>?_,fun hx=>?_,?_⟩,fun k'=>?_,by simp,fun x hx=>?_,⟨Jb6 ht.size hg.size,fun x hx hn=>?_,hg.tape.trans ht.tape,hg.os.trans ht.os,hg.output.trans ht.output⟩⟩
 ·rcases Jb8.1 hmem with rfl|hmem
  ·exact hp.kept fun x hx=>g2 x (hp.lt x hx) fun e=>hfm (e▸hx)
  ·refine (h.bun t hmem).kept fun x hx=>(g2 x ?_ fun e=>h.out (Jm.2 ⟨t,hmem,e▸hx⟩)).trans (ht.heap x ((h.bun t hmem).lt x hx) fun x=>x);have:=(h.bun t hmem).lt x hx;have:=ht.size;omega
 ·rcases Jb8.1 hmem with rfl|hmem
  ·exact hB
  ·exact h.ok t hmem
 ·obtain ⟨t,hmem,hx⟩:=Jm.1 hx;rcases Jb8.1 hmem with rfl|hmem
  ·exact hfm hx
  ·exact h.out (Jm.2 ⟨t,hmem,hx⟩)
 ·refine Jd4.2 ⟨fun t hmem x hx hx'=>?_,h.dis⟩;have:=hf x hx;have:=(h.bun t hmem).lt x hx';omega
 ·have:=J6y (T1:=[]) (t:=⟨k,p,B⟩) (T2:=T) (by simp) k';rw [Jc8] at this;rw [this,hn];show (if k'=k then some B else ((tm [] k').or (tm T k')))=_;simp [om,tm]
 ·obtain ⟨t,hmem,hx⟩:=Jm.1 hx;rcases Jb8.1 hmem with rfl|hmem
  ·exact .inr (hf x hx)
  ·exact .inl (Jm.2 ⟨t,hmem,hx⟩)
 ·have:=ht.size;exact (g2 x (by omega) fun e=>hn (.inl e)).trans (ht.heap x hx fun x=>x)
end
section
variable {fr:Bool} {w w':World} {c:J8} {m:Nat} {T:List TR} {k:List Int}
theorem J6j.skip {w1:World} {B:Bun} (ht:Tch w.heap.size M0 w w1) (hp:J6j w1 c m T k B w'):J6j w c m T k B w':=by obtain ⟨T',h1,h2,h3,h4,h5⟩:=hp;exact ⟨T',h1,h2,h3,fun x hx=>(h4 x hx).imp id fun h=>Jb6 ht.size h,(ht.mono (Ja2 _) fun _ _ h=>h.elim).trans (h5.mono ht.size fun _ _ h=>h)⟩
theorem Jky (h:TabAt false w c m T) (hk:J0t k) {q:BP} {B:Bun} (h2:Jz fr w c q B) (hB:Jl c B) (hc:Jw c) (hd:∀ x∈q.pl,x≠m/\x∉tpl T) (hn:T.length<=100000) :
  Calls Tryz.prog 65 #[.map (some m),.agg (ai .i64 k),.pointer (some ⟨q.b,0,none⟩)] w fun e w'=>(∃ v,e=.returned v)/\J6j w c m T k B w':=by
 obtain ⟨a0,a1,a2,a3,a4,rfl⟩:∃ a0 a1 a2 a3 a4,k=[a0,a1,a2,a3,a4]:=by
  have:=hk.1
  match k,this with
  | [a0,a1,a2,a3,a4],_=>exact ⟨a0,a1,a2,a3,a4,rfl⟩
 have hai:ai .i64 [a0,a1,a2,a3,a4]=#[.int .i64 a0,.int .i64 a1,.int .i64 a2,.int .i64 a3,.int .i64 a4]:=rfl;rw [hai];generalize hkk:[a0,a1,a2,a3,a4]=k at *;obtain ⟨w0,hw⟩:∃ w0,w0=w.alloc (.cells #[.int .i64 a0,.int .i64 a1,.int .i64 a2,.int .i64 a3,.int .i64 a4] 76):=⟨_,rfl⟩;have hw0:∀ x,x<w.heap.size->w0.heap[x]?=w.heap[x]?:=fun x hx=>by rw [hw];exact J7 _ hx
 have ht0:Tch w.heap.size M0 w w0:=by rw [hw];exact Tch.refl.alloc (Ja2 _) _
 have h0:TabAt false w0 c m T:=h.kept fun x hx=>hw0 x (h.lt x hx);have h20:Jz fr w0 c q B:=h2.kept fun x hx=>hw0 x (h2.lt x hx);have hlk:=h0.map.lookup hk;rw [hai] at hlk;have hcells:=J8e (w:=w) (a0:=.int .i64 a0) (a1:=.int .i64 a1) (a2:=.int .i64 a2) (a3:=.int .i64 a3) (a4:=.int .i64 a4) (t:=76);cases hb:tm T k with
 | some b=>
  obtain ⟨t,T1,T2,rfl,rfl,rfl,hno,hl⟩:=J21 hb;rw [hl] at hlk;have mt:t∈T1++t::T2:=by simp
  have hm:=Jrd (h0.bun t mt) h20 (fun x hx hq=>(hd x hq).2 (Jm.2 ⟨t,mt,hx⟩)) (h0.ok t mt) hB hc;have fin:∀ w',J4w w0 c t.p (mg c t.B B) w'->J6j w c m (T1++t::T2) t.k B w':=fun w' hp=>J6j.skip ht0 (h0.there hno hB hp);clear hb hl hno h h0 h2 h20 hw0;subst hw
  go_enter Tryz.func65,Tryz.ntmps65
  go_wp2_with (go_at_call 93;refine hm.mono ?_;rintro e w1 ⟨⟨v,rfl⟩,hp⟩)
  refine bodyPost_ret (results_none rfl _ _ _) rfl ?_;exact ⟨⟨_,rfl⟩,fin _ hp⟩
 | none=>
  rw [(J4s hb).1] at hlk;have hlt0:=h0.lt;have hln:(T.map TR.kv).length<maxLen:=by rw [Jc3];exact Nat.lt_of_le_of_lt hn (by decide)
  have h20':Jz fr w0.drew c q B:=h20.kept fun _ _=>rfl;clear h20;have hbox:∀ w1,Tch w0.drew.heap.size M0 w0.drew w1->∀ i,w1.cell? ⟨w.heap.size,i,none⟩=(#[.int .i64 a0,.int .i64 a1,.int .i64 a2,.int .i64 a3,.int .i64 a4]:Array Value)[i]?:=fun w1 ht i=>by
   refine (ht.cell (a:=⟨w.heap.size,i,none⟩) ?_ fun x=>x).trans ?_
   ·rw [hw];show w.heap.size<(w.alloc _).heap.size;rw [size_alloc];omega
   ·rw [hw];exact cell_of (w:=(w.alloc _).drew) (Ja _) i
  have hupd:∀ w1,Tch w0.drew.heap.size M0 w0.drew w1->∀ p:BP,∃ w2,(Instr.mapUpdate 70 (.map (some m)) (.agg #[.int .i64 a0,.int .i64 a1,.int .i64 a2,.int .i64 a3,.int .i64 a4]) (.pointer (some ⟨p.b,0,none⟩))).run Tryz.prog w1=.ok () w2/\J09 w2 m (J5c k (.pointer (some ⟨p.b,0,none⟩)) (T.map TR.kv))/\w1.grownBy w2 (some m):=fun w1 ht p=>by rw [<- hai];exact (h0.map.kept (ht.heap m (hlt0 m (.inl rfl)) fun x=>x)).update hln hk _
  subst hw
  go_enter Tryz.func65,Tryz.ntmps65
  go_wp2
  go_region_with (go_at_call 94;refine (Jvb (fr:=fr) h20' hB hc).mono ?_;rintro e w1 ⟨p,rfl,hp,hf,ht⟩;obtain ⟨w2,hup,hm2,hg⟩:=hupd w1 ht p;have g0:=hbox w1 ht 0;have g1:=hbox w1 ht 1;have g2:=hbox w1 ht 2;have g3:=hbox w1 ht 3;have g4:=hbox w1 ht 4)
  all_goals go_wp2
  all_goals go_end0
  all_goals exact ⟨⟨_,rfl⟩,J6j.skip ht0 (h0.Jbv hb hB hp hf ht.J16 hm2 hg)⟩
end
def Sum (c:J8) (f:List Int->Option Bun) (E:List (List Int × Bun)):Prop:=∀ k,f k=J1y c ((E.filter fun e=>decide (e.1=k)).map (·.2))
theorem Sum.nil (c:J8):Sum c (fun _=>none) []:=fun _=>rfl
theorem Jfz (c:J8) (l:List Bun) (b:Bun):J1y c (l++[b])=om c (J1y c l) b:=by simp [J1y]
theorem Sum.put {c:J8} {f g:List Int->Option Bun} {E:List (List Int × Bun)} {k:List Int} {B:Bun} (h:Sum c f E) (hg:∀ k',g k'=if k'=k then om c (f k) B else f k'):Sum c g (E++[(k,B)]):=by
 intro k';rw [hg,List.filter_append,List.map_append];by_cases e:k'=k
 ·subst e;simp [Jfz,h k']
 ·have:¬ k=k':=fun h=>e h.symm;simp [e,this,h k']
def J03 (i j:Nat) (ks:List Je):List Je:=(List.range j).filterMap fun q=>ks[i+4*q]?
theorem J2t (i j:Nat) (ks:List Je):J03 i (j+1) ks=J03 i j ks++(ks[i+4*j]?).toList:=by unfold J03;rw [List.range_succ,List.filterMap_append];cases h:ks[i+4*j]?<;>simp [h]
theorem J8l {i:Nat} {ks:List Je}:∀ {j:Nat},ks.length<=i+4*j->∀ n,J03 i (j+n) ks=J03 i j ks
 | _,_,0=>rfl
 | j,h,n+1=>by rw [show j+(n+1)=(j+n)+1 by omega,J2t,J8l h n,List.getElem?_eq_none (by omega)];simp
def ents (S:List TR) (mk:Nat) (pass:List Int->Bool) (l:List Je):List (List Int × Bun):=
 l.filterMap fun k=>if pass k.1 then (tm S k.1).map fun B=>(Jb mk k.1 5,B) else none
theorem J7m (S:List TR) (mk:Nat) (pass:List Int->Bool) (l l':List Je):ents S mk pass (l++l')=ents S mk pass l++ents S mk pass l':=List.filterMap_append
theorem Jg0 {mk:Nat} {k:List Int} (h:J0t k) (n:Nat):J0t (Jb mk k n):=by
 refine ⟨(J66 _ _ _).trans h.1,fun x hx=>?_⟩;unfold Jb at hx;obtain ⟨p,hp,rfl⟩:=Jb3.1 hx;split
 ·rfl
 ·exact h.2 _ (List.mem_zipIdx' hp |>.2▸List.getElem_mem _)
theorem Jcr:∀ {ks:List Je} {p:Nat} {x:Je},ks[p]?=some x->∀ t,t<5->(J0u ks)[p*5+t]?=some (.int .i64 (x.1.getD t 0))
 | [],p,x,h,_,_=>by simp at h
 | y::ks,0,x,h,t,ht=>by
  simp only [List.getElem?_cons_zero,Jb2] at h;subst h;have hl:=y.2.1;rw [J0u,List.flatMap_cons,List.getElem?_append_left (by simp;omega)];simp [Ja7,show t<y.1.length by omega]
 | y::ks,p+1,x,h,t,ht=>by have hl:=y.2.1;rw [List.getElem?_cons_succ] at h;rw [J0u,List.flatMap_cons,List.getElem?_append_right (by simp;omega)];have:=Jcr h t ht;rw [J0u] at this;rw [Jc3,hl,show (p+1)*5+t-5=p*5+t by omega,this]
def KAt (fr:Bool) (w:World) (ka:Option Addr) (kc:Nat) (ks:List Je):Prop:=
 (ka=none/\ks=[])\/∃ g cur,ka=some ⟨g,0,none⟩/\Blk fr w g cur 76/\ks.length<=kc/\cur.size=kc*5/\cur.toList.take (ks.length*5)=J0u ks/\Plain cur
theorem KAt.cells {fr:Bool} {w:World} {ka:Option Addr} {kc:Nat} {ks:List Je} (h:KAt fr w ka kc ks) {p:Nat} {x:Je} (hp:ks[p]?=some x) :
  ∃ g,ka=some ⟨g,0,none⟩/\g<w.heap.size/\p<kc/\∀ t,t<5->w.cell? ⟨g,p*5+t,none⟩=some (.int .i64 (x.1.getD t 0)):=by
 have hlt:p<ks.length:=(List.getElem?_eq_some_iff.1 hp).1;rcases h with ⟨_,rfl⟩|⟨g,cur,h1,h2,h3,h4,h5,_⟩
 ·simp at hp
 ·refine ⟨g,h1,h2.lt,by omega,fun t ht=>?_⟩;rw [h2.cell];have:=Jcr hp t ht;rw [<- h5,List.getElem?_take_of_lt (by omega)] at this;simpa using this
theorem KAt.kept {fr:Bool} {w w':World} {ka:Option Addr} {kc:Nat} {ks:List Je} (h:KAt fr w ka kc ks) (hh:∀ b,b<w.heap.size->w'.heap[b]?=w.heap[b]?):KAt fr w' ka kc ks:=by
 rcases h with h|⟨g,cur,h1,h2,h3⟩
 ·exact .inl h
 ·exact .inr ⟨g,cur,h1,h2.kept (hh g h2.lt),h3⟩
structure Keeps (w w':World):Prop where
 size:w.heap.size<=w'.heap.size
 heap:∀ b,b<w.heap.size->w'.heap[b]?=w.heap[b]?
theorem Keeps.refl {w:World}:Keeps w w:=⟨Ja2 _,fun _ _=>rfl⟩
theorem Keeps.trans {w w1 w2:World} (h:Keeps w w1) (k:Keeps w1 w2):Keeps w w2:=⟨Jb6 h.size k.size,fun b hb=>(k.heap b (Jb7 hb h.size)).trans (h.heap b hb)⟩
theorem Keeps.tch {N:Nat} {M:Nat->Prop} {w w1 w2:World} (h:Keeps w w1) (k:Tch N M w1 w2) (hN:w.heap.size<=N) (hM:∀ b,b<w.heap.size->¬ M b):Keeps w w2:=
 ⟨Jb6 h.size k.size,fun b hb=>(k.heap b (by omega) (hM b hb)).trans (h.heap b hb)⟩
theorem Keeps.Ji7 {w w1 w2:World} (h:Keeps w w1) (k:Tch w1.heap.size M0 w1 w2):Keeps w w2:=h.tch k h.size fun _ _ h=>h
theorem cell_lt {w:World} {a:Addr} {v:Value} (h:w.cell? a=some v):a.block<w.heap.size:=by
 unfold World.cell? at h;split at h
 ·rename_i e;exact Ji e
 ·cases h
theorem Keeps.cell {w w1:World} (h:Keeps w w1) {a:Addr} {v:Value} (hc:w.cell? a=some v):w1.cell? a=some v:=(Jb4 (h.heap _ (cell_lt hc))).trans hc
structure WF (w:World) (c:J8) (s k p m cb:Nat) (i:Nat) (ka:Option Addr) (kc:Nat) (ks:List Je) (fb mk src:Nat) (S:List TR) (pass:List Int->Bool):Prop where
 ck:w.cell? ⟨k,0,none⟩=some (.slice ka ks.length kc)
 cp:w.cell? ⟨p,0,none⟩=some (.func (.func 42) #[] #[.pointer (some ⟨fb,0,none⟩)])
 cm:w.cell? ⟨m,0,none⟩=some (.int .i64 mk)
 cc:w.cell? ⟨cb,0,none⟩=some (.map (some src))
 cs:w.cell? ⟨s,0,none⟩=some (.int .i64 i)
 keys:KAt true w ka kc ks
 tab:TabAt true w c src S
 pass:∀ x,J0t x->∀ w',Keeps w w'->Calls Tryz.prog 42 #[.agg (ai .i64 x),.pointer (some ⟨fb,0,none⟩)] w' fun e w2=>e=.returned (.bool (pass x))/\Tch w'.heap.size M0 w' w2
section
variable {w w':World} {c:J8} {s k p m cb i:Nat} {ka:Option Addr} {kc:Nat} {ks:List Je} {fb mk src:Nat} {S:List TR} {pass:List Int->Bool}
theorem WF.keeps (h:WF w c s k p m cb i ka kc ks fb mk src S pass) (q:Keeps w w'):WF w' c s k p m cb i ka kc ks fb mk src S pass:=
 ⟨q.cell h.ck,q.cell h.cp,q.cell h.cm,q.cell h.cc,q.cell h.cs,h.keys.kept q.heap,h.tab.kept fun x hx=>q.heap x (h.tab.lt x hx),fun x hx w2 q2=>h.pass x hx w2 (q.trans q2)⟩
def WL (w0:World) (c:J8) (r0 i:Nat) (ks:List Je) (mk:Nat) (S:List TR) (pass:List Int->Bool) (j:Nat) (wr:World):Prop:=
 ∃ T,TabAt false wr c r0 T/\Sum c (tm T) (ents S mk pass (J03 i j ks))/\T.length<=j/\(∀ x,x=r0\/x∈tpl T->w0.heap.size<=x)/\Keeps w0 wr
theorem WL.skip {w0 wr w1:World} {r0 j:Nat} (h:WL w0 c r0 i ks mk S pass j wr) (ht:Tch wr.heap.size M0 wr w1):WL w0 c r0 i ks mk S pass j w1:=by obtain ⟨T,h1,h2,h3,h4,h5⟩:=h;exact ⟨T,h1.kept fun x hx=>ht.heap x (h1.lt x hx) fun h=>h,h2,h3,h4,h5.Ji7 ht⟩
end
def Jrg (R:Array Value->World->Prop):Exit->Act->World->Prop
 | .normal,a,w=>R a.tmps w
 | _,_,_=>False
def Ju2:Code->Code | .seq a _=>a|c=>c
def Jlz:Code->Code | .seq _ b=>b|c=>c
section
variable {w w':World} {c:J8} {s k p m cb i:Nat} {ka:Option Addr} {kc:Nat} {ks:List Je} {fb mk src:Nat} {S:List TR} {pass:List Int->Bool}
theorem WL.keeps {wr:World} {r0 j:Nat} (h:WL w c r0 i ks mk S pass j wr):Keeps w wr:=by obtain ⟨_,_,_,_,_,h⟩:=h;exact h
theorem WL.miss {wr:World} {r0 j P:Nat} {x:Je} (h:WL w c r0 i ks mk S pass j wr) (hP:P=i+4*j) (hx:ks[P]?=some x) (hp:pass x.1=false):WL w c r0 i ks mk S pass (j+1) wr:=by obtain ⟨T,h1,h2,h3,h4,h5⟩:=h;refine ⟨T,h1,?_,by omega,h4,h5⟩;rw [J2t,<- hP,hx,Option.toList_some,J7m,show ents S mk pass [x]=[] by simp [ents,hp],List.append_nil];exact h2
theorem WL.take {wr:World} {r0 j P:Nat} {x:Je} {t:TR} (hW:WF w c s k p m cb i ka kc ks fb mk src S pass) (h:WL w c r0 i ks mk S pass j wr) (hc:Jw c) (hP:P=i+4*j) (hx:ks[P]?=some x) (hp:pass x.1=true) (ht:t∈S) (hB:tm S x.1=some t.B) (hn:j<=100000) :
  Calls Tryz.prog 65 #[.map (some r0),.agg (ai .i64 (Jb mk x.1 5)),.pointer (some ⟨t.p.b,0,none⟩)] wr fun e w'=>(∃ v,e=.returned v)/\WL w c r0 i ks mk S pass (j+1) w':=by
 obtain ⟨T,h1,h2,h3,h4,h5⟩:=h;have hWr:=hW.keeps h5;refine (Jky h1 (Jg0 x.2 5) (hWr.tab.bun t ht) (hWr.tab.ok t ht) hc (fun y hy=>?_) (by omega)).mono ?_
 ·have hlt:=(hW.tab.bun t ht).lt y hy;exact ⟨fun e=>by have:=h4 y (.inl e);omega,fun e=>by have:=h4 y (.inr e);omega⟩
 ·rintro e w' ⟨hv,T',k1,k2,k3,k4,k5⟩;refine ⟨hv,T',k1,?_,by omega,fun y hy=>?_,h5.tch k5 h5.size fun b hb hm=>?_⟩
  ·rw [J2t,<- hP,hx,Option.toList_some,J7m,show ents S mk pass [x]=[(Jb mk x.1 5,t.B)] by simp [ents,hp,hB]];exact h2.put k2
  ·rcases hy with hy|hy
   ·exact h4 y (.inl hy)
   ·rcases k4 y hy with h|h
    ·exact h4 y (.inr h)
    ·exact Jb6 h5.size h
  ·have:=h4 b hm;omega
theorem Jot (hW:WF w c s k p m cb i ka kc ks fb mk src S pass) (hks:∀ x∈ks,∃ B,tm S x.1=some B) (hn:ks.length<=1000) (hi:i<4) (hc:Jw c) {r0:Nat} {ws:World} (hL:WL w c r0 i ks mk S pass 0 ws) (wg C:Nat) (d:Deferred) :
  (Ju2 (Jlz (Jlz (Tryz.f63.body.getD .skip)))).wp Tryz.prog (Jrg fun t w2=>t.size=40/\t[1]?=some (.pointer (some ⟨s,0,none⟩))/\w2.cell? ⟨s,0,none⟩=some (.int .i64 i)/\∃ r,t[7]?=some (.map r)/\∃ j,ks.length<=i+4*j/\j<=ks.length+4/\∃ r0,r=some r0/\WL w c r0 i ks mk S pass j w2)
   ⟨#[(.pointer (some ⟨wg,0,none⟩)),(.pointer (some ⟨s,0,none⟩)),(.pointer (some ⟨k,0,none⟩)),(.pointer (some ⟨p,0,none⟩)),(.pointer (some ⟨m,0,none⟩)),(.pointer (some ⟨cb,0,none⟩)),(.pointer (some ⟨C,0,none⟩)),.map (some r0),undef,.map (some r0),undef,undef,undef,undef,undef,undef,undef,undef,undef,undef,undef,undef,undef,undef,undef,undef,undef,undef,undef,undef,undef,undef,undef,undef,undef,undef,undef,undef,undef,undef],[d]⟩ ws:=by
 have ck:=(hW.keeps hL.keeps).ck;have cs:=(hW.keeps hL.keeps).cs;simp only [Tryz.f63,Ja6,Jlz,Ju2];go_wp2
 go_loopw [8] (fun x wr=>∃ j P:Nat,x=.int .i64 (P:Int)/\P=i+4*j/\P<=ks.length+4/\WL w c r0 i ks mk S pass j wr) (fun x _=>ks.length+4-(RowKit.intOf x).toNat)
 case atStart=>exact ⟨0,i,rfl,by omega,by omega,hL⟩
 case round=>
  obtain ⟨j,P,rfl,hP,hj,hLj⟩:=hrel;have hPh:Hid (P=i+4*j):=hP;clear hP;have hkp:Keeps w wr:=by obtain ⟨_,_,_,_,_,h⟩:=hLj;exact h
  have hWr:=hW.keeps hkp;clear ck cs;have ck:=hWr.ck;rcases Jb5 P ks.length with hlt|hge
  ·have hlt':(P:Int)<ks.length:=by omega
   have hx:ks[P]?=some ks[P]:=Jb1 hlt;obtain ⟨B,hB⟩:=hks _ (List.getElem_mem hlt);generalize ks[P]=x at *;obtain ⟨g,hka,hg,hpk,hcl⟩:=hWr.keys.cells hx;subst hka;obtain ⟨x,hxk⟩:=x;obtain ⟨a0,a1,a2,a3,a4,rfl⟩:∃ a0 a1 a2 a3 a4,x=[a0,a1,a2,a3,a4]:=by
    have:=hxk.1
    match x,this with
    | [a0,a1,a2,a3,a4],_=>exact ⟨a0,a1,a2,a3,a4,rfl⟩
   clear hcl hpk hg;have J9g:Hid (∀ w1,Keeps w w1->w1.cell? ⟨k,0,none⟩=some (.slice (some ⟨g,0,none⟩) ks.length kc)/\w1.cell? ⟨p,0,none⟩=some (.func (.func 42) #[] #[.pointer (some ⟨fb,0,none⟩)])/\w1.cell? ⟨g,P*5,none⟩=some (.int .i64 a0)/\w1.cell? ⟨g,P*5+1,none⟩=some (.int .i64 a1)/\w1.cell? ⟨g,P*5+2,none⟩=some (.int .i64 a2)/\w1.cell? ⟨g,P*5+3,none⟩=some (.int .i64 a3)/\w1.cell? ⟨g,P*5+4,none⟩=some (.int .i64 a4)):=fun w1 h=>by have hW1:=hW.keeps h;obtain ⟨g',e,_,_,hcl⟩:=hW1.keys.cells hx;cases e;have q0:=hcl 0 (by omega);have q1:=hcl 1 (by omega);have q2:=hcl 2 (by omega);have q3:=hcl 3 (by omega);have q4:=hcl 4 (by omega);simp only [List.getD_cons_zero,List.getD_cons_succ,Nat.add_zero] at q0 q1 q2 q3 q4;exact ⟨hW1.ck,hW1.cp,q0,q1,q2,q3,q4⟩
   have Jm0:=hWr.pass _ hxk;rw [show ai .i64 [a0,a1,a2,a3,a4]=#[.int .i64 a0,.int .i64 a1,.int .i64 a2,.int .i64 a3,.int .i64 a4] from rfl] at Jm0;have hl5:Hid ([a0,a1,a2,a3,a4].length=5):=rfl;generalize Jww:[a0,a1,a2,a3,a4]=kk at *;have hkk:Hid ([a0,a1,a2,a3,a4]=kk):=Jww;clear Jww;have hp1:=Jm0 wr.drew ⟨Ja2 _,fun _ _=>rfl⟩;clear Jm0;have hk0:Keeps w wr.drew:=⟨hkp.size,hkp.heap⟩;have hB':Hid (tm S kk=some B):=hB;have hx':Hid (ks[P]?=some ⟨kk,hxk⟩):=hx;clear hB hx;have hP0:(0:Int)<=(P:Int):=Int.natCast_nonneg _;cases hpp:pass kk with
   | false=>
    rw [hpp] at hp1;have hnx:Hid (∀ w1,Tch wr.drew.heap.size M0 wr.drew w1->WL w c r0 i ks mk S pass (j+1) w1):=fun w1 ht=>WL.miss (x:=⟨kk,hxk⟩) (hLj.skip ht.J16) hPh hx' hpp;have hpp':Hid (pass kk=false):=hpp;clear hpp
    go_wp2_with fail
    go_region_held3 (fun w1=>w1.cell? ⟨k,0,none⟩=some (.slice (some ⟨g,0,none⟩) ks.length kc)/\w1.cell? ⟨p,0,none⟩=some (.func (.func 42) #[] #[.pointer (some ⟨fb,0,none⟩)])/\w1.cell? ⟨g,P*5,none⟩=some (.int .i64 a0)/\w1.cell? ⟨g,P*5+1,none⟩=some (.int .i64 a1)/\w1.cell? ⟨g,P*5+2,none⟩=some (.int .i64 a2)/\w1.cell? ⟨g,P*5+3,none⟩=some (.int .i64 a3)/\w1.cell? ⟨g,P*5+4,none⟩=some (.int .i64 a4))
     (first|exact J9g _ hk0|exact J9g _ hk1)
     ((go_at_call 42;refine hp1.mono ?_;rintro e w1 ⟨rfl,ht⟩;have hk1:Keeps w w1:=hk0.Ji7 ht))
    all_goals go_wp2
    all_goals exact ⟨⟨j+1,P+4,by go_num,by have:P=i+4*j:=hPh;omega,by omega,hnx _ ht⟩,by simp [RowKit.intOf];omega⟩
   | true=>
    rw [hpp] at hp1;obtain ⟨t,S1,S2,rfl,hk1,rfl,_,hl⟩:=J21 hB';have hgood:Hid (∀ w1,Keeps w w1->w1.cell? ⟨k,0,none⟩=some (.slice (some ⟨g,0,none⟩) ks.length kc)/\w1.cell? ⟨m,0,none⟩=some (.int .i64 mk)/\w1.cell? ⟨cb,0,none⟩=some (.map (some src))/\(Instr.lookup 70 (.map (some src)) (.agg #[.int .i64 a0,.int .i64 a1,.int .i64 a2,.int .i64 a3,.int .i64 a4]) false).run Tryz.prog w1=.ok (.pointer (some ⟨t.p.b,0,none⟩)) w1/\w1.cell? ⟨g,P*5,none⟩=some (.int .i64 a0)/\w1.cell? ⟨g,P*5+1,none⟩=some (.int .i64 a1)/\w1.cell? ⟨g,P*5+2,none⟩=some (.int .i64 a2)/\w1.cell? ⟨g,P*5+3,none⟩=some (.int .i64 a3)/\w1.cell? ⟨g,P*5+4,none⟩=some (.int .i64 a4)):=fun w1 h=>by
     obtain ⟨q0,_,q2⟩:=J9g w1 h;have hW1:=hW.keeps h;have:=hW1.tab.map.lookup hxk;rw [hl] at this;rw [<- (show [a0,a1,a2,a3,a4]=kk from hkk)] at this;exact ⟨q0,hW1.cm,hW1.cc,this,q2⟩
    have hcall:Hid (∀ w1,WL w c r0 i ks mk (S1++t::S2) pass j w1->Calls Tryz.prog 65 #[.map (some r0),.agg (ai .i64 (Jb mk kk 5)),.pointer (some ⟨t.p.b,0,none⟩)] w1 fun e w'=>(∃ v,e=.returned v)/\WL w c r0 i ks mk (S1++t::S2) pass (j+1) w'):=
     fun w1 h=>WL.take (x:=⟨kk,hxk⟩) (t:=t) hW h hc hPh hx' hpp (by simp) hB' (by have:P=i+4*j:=hPh;omega)
    have Jf6:Hid (∀ w1,Calls Tryz.prog 26 #[.agg #[.int .i64 a0,.int .i64 a1,.int .i64 a2,.int .i64 a3,.int .i64 a4],.int .i64 mk] w1 fun e w'=>e=.returned (.agg (ai .i64 (Jb mk kk 5)))/\Tch w1.heap.size M0 w1 w'):=fun w1=>by
     have:=Jbj kk hxk.1 mk w1;rw [<- (show [a0,a1,a2,a3,a4]=kk from hkk)] at this ⊢;exact this
    have hpp':Hid (pass kk=true):=hpp;clear hl hk1 hpp
    go_wp2_with fail
    go_region_held3 (fun w1=>w1.cell? ⟨k,0,none⟩=some (.slice (some ⟨g,0,none⟩) ks.length kc)/\w1.cell? ⟨p,0,none⟩=some (.func (.func 42) #[] #[.pointer (some ⟨fb,0,none⟩)])/\w1.cell? ⟨g,P*5,none⟩=some (.int .i64 a0)/\w1.cell? ⟨g,P*5+1,none⟩=some (.int .i64 a1)/\w1.cell? ⟨g,P*5+2,none⟩=some (.int .i64 a2)/\w1.cell? ⟨g,P*5+3,none⟩=some (.int .i64 a3)/\w1.cell? ⟨g,P*5+4,none⟩=some (.int .i64 a4))
     (first|exact J9g _ hk0|exact J9g _ hk1)
     ((go_at_call 42;refine hp1.mono ?_;rintro e w1 ⟨rfl,ht⟩;have hk1:Keeps w w1:=hk0.Ji7 ht))
    have hL1:=hLj.skip ht.J16;have hk2:Keeps w w1.drew:=⟨hk1.size,hk1.heap⟩;clear ht hk0
    go_wp2_with fail
    go_region_held3 (fun w1=>w1.cell? ⟨k,0,none⟩=some (.slice (some ⟨g,0,none⟩) ks.length kc)/\w1.cell? ⟨m,0,none⟩=some (.int .i64 mk)/\w1.cell? ⟨cb,0,none⟩=some (.map (some src))/\(Instr.lookup 70 (.map (some src)) (.agg #[.int .i64 a0,.int .i64 a1,.int .i64 a2,.int .i64 a3,.int .i64 a4]) false).run Tryz.prog w1=.ok (.pointer (some ⟨t.p.b,0,none⟩)) w1/\w1.cell? ⟨g,P*5,none⟩=some (.int .i64 a0)/\w1.cell? ⟨g,P*5+1,none⟩=some (.int .i64 a1)/\w1.cell? ⟨g,P*5+2,none⟩=some (.int .i64 a2)/\w1.cell? ⟨g,P*5+3,none⟩=some (.int .i64 a3)/\w1.cell? ⟨g,P*5+4,none⟩=some (.int .i64 a4))
     (first|exact hgood _ hk2|exact hgood _ hk3|exact hgood _ hk4)
     (first
     | (go_at_call 26;refine (Jf6 w1.drew).mono ?_;rintro e w2 ⟨rfl,ht2⟩;have hk3:Keeps w w2:=hk2.Ji7 ht2)
     | (go_at_call 65;refine (hcall _ (hL1.skip ht2.J16)).mono ?_;rintro e w3 ⟨⟨v,rfl⟩,hL3⟩;have hk4:Keeps w w3:=hL3.keeps))
    all_goals go_wp2
    all_goals exact ⟨⟨j+1,P+4,by go_num,by have:P=i+4*j:=hPh;omega,by omega,hL3⟩,by simp [RowKit.intOf];omega⟩
  ·have hge':¬ ((P:Int)<ks.length):=by omega
   have cs:=hWr.cs;go_wp2;exact ⟨rfl,rfl,cs,some r0,rfl,j,by have:P=i+4*j:=hPh;omega,by have:P=i+4*j:=hPh;omega,r0,rfl,hLj⟩
end
end Go.Sim.Z
