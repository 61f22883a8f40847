/- PROVED HERE: laws that the statement rests on (parts Xh, Zf, Zg). Conditions: none. -/
import Derived.StillTailTactics
import Derived.Test.YtlcbehhbfglgaaaGreatE30
import Derived.Test.YtlcbehhbfglgaaaGreatE31
set_option linter.all false
namespace Go.Sim.Z
open Go Go.Proofs Go.RowKit
def atK (k:List Int) (E:List (List Int × Bun)):List Bun:=(E.filter fun e=>decide (e.1=k)).map (·.2)
theorem atK_append (k:List Int) (E E':List (List Int × Bun)):atK k (E++E')=atK k E++atK k E':=by simp [atK]
theorem atK_ok {c:CfgD} {k:List Int} {E:List (List Int × Bun)} (h:∀ e∈E,BunOk c e.2):∀ b∈atK k E,BunOk c b:=fun b hb=>by
 obtain ⟨e,he,rfl⟩:=List.mem_map.1 hb
 exact h e (List.mem_filter.1 he).1
theorem Sum.perm {c:CfgD} {f:List Int→Option Bun} {E E':List (List Int × Bun)} (h:Sum c f E) (hp:E.Perm E') (hok:∀ e∈E,BunOk c e.2):Sum c f E':=fun k=>by
 rw [h k]
 exact osum_perm ((hp.filter _).map _) (atK_ok hok)
theorem take_four {α:Type} (l:List α) (j:Nat):l.take (4*(j+1))=l.take (4*j)++(l[4*j]?.toList++(l[4*j+1]?.toList++(l[4*j+2]?.toList++l[4*j+3]?.toList))):=by
 rw [show 4*(j+1)=4*j+1+1+1+1 by omega,List.take_add_one,List.take_add_one,List.take_add_one,List.take_add_one]
 simp only [List.append_assoc]
theorem mix4 {α:Type} (a b c d e f g h:List α):((a++e)++((b++f)++((c++g)++(d++h)))).Perm ((a++(b++(c++d)))++(e++(f++(g++h)))):=by
 have s:∀ (x y z t:List α),((x++y)++(z++t)).Perm ((x++z)++(y++t)):=fun x y z t=>by
  simp only [List.append_assoc]
  refine List.Perm.append_left x ?_
  rw [← List.append_assoc,← List.append_assoc]
  exact List.Perm.append_right t List.perm_append_comm
 refine ((((s c g d h).append_left _).trans (s b f _ _)).append_left _).trans ?_
 exact s a e _ _
theorem pick4_perm {ks:List KeyT}:∀ j,(pick4 0 j ks++(pick4 1 j ks++(pick4 2 j ks++pick4 3 j ks))).Perm (ks.take (4*j))
 | 0=>by simp [pick4]
 | j+1=>by
  rw [pick4_succ,pick4_succ,pick4_succ,pick4_succ,take_four]
  refine (mix4 _ _ _ _ _ _ _ _).trans ((pick4_perm j).append ?_)
  rw [show 0+4*j=4*j by omega,show 1+4*j=4*j+1 by omega,show 2+4*j=4*j+2 by omega,show 3+4*j=4*j+3 by omega]
theorem pick4_all (ks:List KeyT):(pick4 0 ks.length ks++(pick4 1 ks.length ks++(pick4 2 ks.length ks++pick4 3 ks.length ks))).Perm ks:=by
 have:=pick4_perm (ks:=ks) ks.length
 rwa [List.take_of_length_le (by omega)] at this
theorem atK_tents {T:List TR} (hn:(T.map (·.k)).Nodup) (k:List Int):atK k (tents T)=(tm T k).toList:=by
 induction T with
 | nil=>rfl
 | cons t T ih=>
  simp only [List.map_cons,List.nodup_cons] at hn
  have h2:=ih hn.2
  by_cases e:t.k=k
  ·subst e
   have h3:tm T t.k=none:=by
    unfold tm
    rw [Option.map_eq_none_iff,List.find?_eq_none]
    intro s hs
    have:s.k≠t.k:=fun e=>hn.1 (List.mem_map.2 ⟨s,hs,e⟩)
    simpa using this
   rw [h3] at h2
   unfold atK tents at h2 ⊢
   unfold tm
   simp only [List.map_cons,List.filter_cons,decide_true,if_true,List.find?_cons,h2,Option.toList_none,Option.map_some,Option.toList_some]
  ·unfold atK tents at h2 ⊢
   unfold tm at h2 ⊢
   simp only [List.map_cons,List.filter_cons,e,decide_false,List.find?_cons]
   exact h2
def rents (S:List TR) (mk:Nat) (pass:List Int→Bool):List (List Int × Bun):=S.filterMap fun t=>if pass t.k then some (underN mk t.k 5,t.B) else none
theorem ents_perm {S:List TR} {ks:List KeyT} (hn:(S.map (·.k)).Nodup) (h:keysOf (S.map TR.kv) ks) (mk:Nat) (pass:List Int→Bool):(ents S mk pass ks).Perm (rents S mk pass):=by
 have hp:=h.keys
 rw [kv_keys] at hp
 have e1:ents S mk pass ks=(ks.map (·.1)).filterMap fun k=>if pass k then (tm S k).map fun B=>(underN mk k 5,B) else none:=by
  unfold ents
  rw [List.filterMap_map]
  rfl
 have gen:∀ l:List TR,(∀ t∈l,t∈S)→rents l mk pass=(l.map (·.k)).filterMap fun k=>if pass k then (tm S k).map fun B=>(underN mk k 5,B) else none:=by
  intro l
  induction l with
  | nil=>exact fun _=>rfl
  | cons t l ih=>
   intro h
   have:=ih fun s hs=>h s (by simp [hs])
   unfold rents at this ⊢
   rw [List.map_cons,List.filterMap_cons,List.filterMap_cons,tm_mem hn (h t (by simp)),this]
   cases pass t.k<;>rfl
 rw [e1,gen S fun _ h=>h]
 exact hp.filterMap _
theorem rents_ok {c:CfgD} {S:List TR} (h:∀ t∈S,BunOk c t.B) {mk:Nat} {pass:List Int→Bool}:∀ e∈rents S mk pass,BunOk c e.2:=fun e he=>by
 unfold rents at he
 obtain ⟨t,ht,e1⟩:=List.mem_filterMap.1 he
 split at e1
 ·cases e1;exact h t ht
 ·cases e1
theorem Sum.all {c:CfgD} {S:List TR} {mk:Nat} {pass:List Int→Bool} {ks:List KeyT} (hS:∀ t∈S,BunOk c t.B) (hn:(S.map (·.k)).Nodup) (hks:keysOf (S.map TR.kv) ks) {f:List Int→Option Bun} {T1 T2 T3:List TR} {E0 EE:List (List Int × Bun)} (h0:E0=ents S mk pass (pick4 0 ks.length ks))
  (n1:(T1.map (·.k)).Nodup) (n2:(T2.map (·.k)).Nodup) (n3:(T3.map (·.k)).Nodup) (k1:∀ t∈T1,BunOk c t.B) (k2:∀ t∈T2,BunOk c t.B) (k3:∀ t∈T3,BunOk c t.B)
  (h1:Sum c (tm T1) (ents S mk pass (pick4 1 ks.length ks))) (h2:Sum c (tm T2) (ents S mk pass (pick4 2 ks.length ks))) (h3:Sum c (tm T3) (ents S mk pass (pick4 3 ks.length ks)))
  (hEE:EE.Perm (tents T1++tents T2++tents T3)) (hf:Sum c f (E0++EE)):Sum c f (rents S mk pass):=by
 subst h0
 have hp:(ents S mk pass (pick4 0 ks.length ks)++(ents S mk pass (pick4 1 ks.length ks)++(ents S mk pass (pick4 2 ks.length ks)++ents S mk pass (pick4 3 ks.length ks)))).Perm (rents S mk pass):=by
  simp only [← ents_append]
  exact ((pick4_all ks).filterMap _).trans (ents_perm hn hks mk pass)
 have hok:=rents_ok (mk:=mk) (pass:=pass) hS
 have ok:∀ e∈(ents S mk pass (pick4 0 ks.length ks)++(ents S mk pass (pick4 1 ks.length ks)++(ents S mk pass (pick4 2 ks.length ks)++ents S mk pass (pick4 3 ks.length ks)))),BunOk c e.2:=fun e he=>hok e (hp.mem_iff.1 he)
 have okt:∀ {T:List TR},(∀ t∈T,BunOk c t.B)→∀ e∈tents T,BunOk c e.2:=fun {T} h e he=>by
  obtain ⟨t,ht,rfl⟩:=List.mem_map.1 he
  exact h t ht
 have q1:=okt k1
 have q2:=okt k2
 have q3:=okt k3
 refine Sum.perm ?_ hp ok
 have ok0:∀ e∈ents S mk pass (pick4 0 ks.length ks),BunOk c e.2:=fun e he=>ok e (by simp [he])
 have ok1:∀ e∈ents S mk pass (pick4 1 ks.length ks),BunOk c e.2:=fun e he=>ok e (by simp [he])
 have ok2:∀ e∈ents S mk pass (pick4 2 ks.length ks),BunOk c e.2:=fun e he=>ok e (by simp [he])
 have ok3:∀ e∈ents S mk pass (pick4 3 ks.length ks),BunOk c e.2:=fun e he=>ok e (by simp [he])
 have okE:∀ e∈EE,BunOk c e.2:=fun e he=>by
  have:=hEE.mem_iff.1 he
  simp only [List.mem_append] at this
  rcases this with (h|h)|h
  ·exact q1 e h
  ·exact q2 e h
  ·exact q3 e h
 have hf2:Sum c f (ents S mk pass (pick4 0 ks.length ks)++(tents T1++(tents T2++tents T3))):=hf.perm (hEE.append_left _ |>.trans (by rw [List.append_assoc])) fun e he=>(List.mem_append.1 he).elim (ok0 e) (okE e)
 intro k
 have e:=hf2 k
 have s1:osum c (atK k (tents T1))=osum c (atK k (ents S mk pass (pick4 1 ks.length ks))):=by
  rw [atK_tents n1,← show _=osum c (atK k (ents S mk pass (pick4 1 ks.length ks))) from h1 k]
  cases tm T1 k<;>rfl
 have s2:osum c (atK k (tents T2))=osum c (atK k (ents S mk pass (pick4 2 ks.length ks))):=by
  rw [atK_tents n2,← show _=osum c (atK k (ents S mk pass (pick4 2 ks.length ks))) from h2 k]
  cases tm T2 k<;>rfl
 have s3:osum c (atK k (tents T3))=osum c (atK k (ents S mk pass (pick4 3 ks.length ks))):=by
  rw [atK_tents n3,← show _=osum c (atK k (ents S mk pass (pick4 3 ks.length ks))) from h3 k]
  cases tm T3 k<;>rfl
 rw [e]
 show osum c (atK k _)=osum c (atK k _)
 have app:∀ {l l':List Bun},(∀ b∈l,BunOk c b)→(∀ b∈l',BunOk c b)→∀ b∈l++l',BunOk c b:=fun h h' b hb=>(List.mem_append.1 hb).elim (h b) (h' b)
 simp only [atK_append]
 rw [osum_append (atK_ok ok0) (app (atK_ok q1) (app (atK_ok q2) (atK_ok q3))),osum_append (atK_ok q1) (app (atK_ok q2) (atK_ok q3)),osum_append (atK_ok q2) (atK_ok q3),s1,s2,s3,
  osum_append (atK_ok ok0) (app (atK_ok ok1) (app (atK_ok ok2) (atK_ok ok3))),osum_append (atK_ok ok1) (app (atK_ok ok2) (atK_ok ok3)),osum_append (atK_ok ok2) (atK_ok ok3)]
structure TabW (w:World) (c:CfgD) (m:Nat) (T:List TR):Prop where
 map:CMap w m (T.map TR.kv)
 bun:∀ t∈T,BunAt false w c t.p t.B
 out:m∉tpl T
 dis:T.Pairwise fun s t=>∀ x∈s.p.pl,x∉t.p.pl
section
variable {w w' w2:World} {c:CfgD} {m:Nat} {T:List TR} {k:List Int}
theorem TabAt.toW (h:TabAt false w c m T):TabW w c m T:=⟨h.map,h.bun,h.out,h.dis⟩
theorem TabW.nodup (h:TabW w c m T):(T.map (·.k)).Nodup:=by
 have:=h.map.nodup
 rwa [List.map_map,show (fun p:List Int × Value=>p.1) ∘ TR.kv=TR.k from rfl] at this
theorem TabW.tab (h:TabW w c m T) (ho:∀ k B,tm T k=some B→BunOk c B):TabAt false w c m T:=⟨h.map,h.bun,fun t ht=>ho t.k _ (tm_mem h.nodup ht),h.out,h.dis⟩
theorem TabW.kept (h:TabW w c m T) (hh:∀ x,x=m∨x∈tpl T→w'.heap[x]?=w.heap[x]?):TabW w' c m T:=
 ⟨h.map.kept (hh m (.inl rfl)),fun t ht=>(h.bun t ht).kept fun x hx=>hh x (.inr (mem_tpl.2 ⟨t,ht,hx⟩)),h.out,h.dis⟩
theorem TabW.lt (h:TabW w c m T):∀ x,x=m∨x∈tpl T→x<w.heap.size:=fun x hx=>by
 rcases hx with rfl|hx
 ·exact h.map.lt
 ·obtain ⟨t,ht,hx⟩:=mem_tpl.1 hx
  exact (h.bun t ht).lt x hx
def WPost (w:World) (c:CfgD) (m:Nat) (T:List TR) (k:List Int) (B:Bun) (w':World):Prop:=
 ∃ T',TabW w' c m T'∧(∀ k',tm T' k'=if k'=k then some B else tm T k')∧T'.length≤T.length+1∧(∀ x∈tpl T',x∈tpl T∨w.heap.size≤x)∧Tch w.heap.size (fun x=>x=m∨x∈tpl T) w w'
theorem TabW.there {T1 T2:List TR} {t:TR} {B:Bun} (h:TabW w c m (T1++t::T2)) (hk:∀ s∈T1,s.k≠t.k) (hp:MgPost w c t.p B w'):WPost w c m (T1++t::T2) t.k B w':=by
 obtain ⟨p',e1,h1,h2,h3⟩:=hp
 have mt:t∈T1++t::T2:=by simp
 have hd:=h.dis
 rw [List.pairwise_append,List.pairwise_cons] at hd
 have hother:∀ s,s∈T1∨s∈T2→(∀ x∈s.p.pl,x∉t.p.pl):=fun s hs x hx hx'=>by
  rcases hs with hs|hs
  ·exact hd.2.2 s hs t (by simp) x hx hx'
  ·exact hd.2.1.1 s hs x hx' hx
 have hsame:∀ x,x=m∨(∃ s,(s∈T1∨s∈T2)∧x∈s.p.pl)→w'.heap[x]?=w.heap[x]?:=fun x hx=>by
  refine h3.heap x ?_ ?_
  ·rcases hx with rfl|⟨s,hs,hx⟩
   ·exact h.map.lt
   ·exact (h.bun s (by rcases hs with hs|hs<;>simp [hs])).lt x hx
  ·rcases hx with rfl|⟨s,hs,hx⟩
   ·exact fun hx=>h.out (mem_tpl.2 ⟨t,mt,hx⟩)
   ·exact hother s hs x hx
 have hfresh:∀ s,s∈T1∨s∈T2→∀ x∈s.p.pl,x∉p'.pl:=fun s hs x hx hx'=>by
  rcases h2 x hx' with h4|h4
  ·exact hother s hs x hx h4
  ·have:=(h.bun s (by rcases hs with hs|hs<;>simp [hs])).lt x hx
   omega
 have hpl:∀ x,x∈tpl (T1++⟨t.k,p',B⟩::T2)→x∈tpl (T1++t::T2)∨w.heap.size≤x:=fun x hx=>by
  obtain ⟨s,hs,hx⟩:=mem_tpl.1 hx
  rcases List.mem_append.1 hs with hs|hs
  ·exact .inl (mem_tpl.2 ⟨s,by simp [hs],hx⟩)
  ·rcases List.mem_cons.1 hs with rfl|hs
   ·exact (h2 x hx).imp (fun hx=>mem_tpl.2 ⟨t,mt,hx⟩) id
   ·exact .inl (mem_tpl.2 ⟨s,by simp [hs],hx⟩)
 have hkv:(T1++⟨t.k,p',B⟩::T2).map TR.kv=(T1++t::T2).map TR.kv:=by
  simp only [List.map_append,List.map_cons,TR.kv,e1]
 refine ⟨T1++⟨t.k,p',B⟩::T2,⟨?_,fun s hs=>?_,fun hx=>?_,?_⟩,fun k'=>?_,by simp,hpl,h3.mono (Nat.le_refl _) fun x _ hx=>.inr (mem_tpl.2 ⟨t,mt,hx⟩)⟩
 ·rw [hkv];exact h.map.kept (hsame m (.inl rfl))
 ·rcases List.mem_append.1 hs with hs|hs
  ·exact (h.bun s (by simp [hs])).kept fun x hx=>hsame x (.inr ⟨s,.inl hs,hx⟩)
  ·rcases List.mem_cons.1 hs with rfl|hs
   ·exact h1
   ·exact (h.bun s (by simp [hs])).kept fun x hx=>hsame x (.inr ⟨s,.inr hs,hx⟩)
 ·rcases hpl m hx with hx|hx
  ·exact h.out hx
  ·have:=h.map.lt;omega
 ·rw [List.pairwise_append,List.pairwise_cons]
  refine ⟨hd.1,⟨fun s hs x hx hx'=>hfresh s (.inr hs) x hx' hx,hd.2.1.2⟩,fun s hs y hy x hx=>?_⟩
  rcases List.mem_cons.1 hy with rfl|hy
  ·exact hfresh s (.inl hs) x hx
  ·exact hd.2.2 s hs y (by simp [hy]) x hx
 ·rw [tm_app (t:=⟨t.k,p',B⟩) hk,tm_app hk]
  by_cases e:k'=t.k
  ·simp [e]
  ·simp [e]
theorem TabW.notThere {p:BP} {B:Bun} {w1:World} (h:TabW w c m T) (hn:tm T k=none) (hp:BunAt false w1 c p B) (hf:∀ x∈p.pl,w.heap.size≤x) (ht:Tch w.heap.size M0 w w1)
  (hm:CMap w' m (putL k (.pointer (some ⟨p.b,0,none⟩)) (T.map TR.kv))) (hg:w1.grownBy w' (some m)):WPost w c m T k B w':=by
 have hno:=(look_none hn).2
 have hT:putL k (.pointer (some ⟨p.b,0,none⟩)) (T.map TR.kv)=(⟨k,p,B⟩::T:List TR).map TR.kv:=by
  unfold putL
  rw [List.filter_eq_self.2]
  ·rfl
  ·intro q hq
   obtain ⟨t,ht,rfl⟩:=List.mem_map.1 hq
   have h9:decide (t.k=k)=false:=by simpa using hno t ht
   show (!decide (t.k=k))=true
   rw [h9];rfl
 rw [hT] at hm
 have hml:=h.map.lt
 have hfm:m∉p.pl:=fun hx=>by have:=hf m hx;omega
 have g2:∀ x,x<w1.heap.size→x≠m→w'.heap[x]?=w1.heap[x]?:=fun x hx hne=>hg.block x hx fun e=>hne (Option.some.inj e)
 refine ⟨⟨k,p,B⟩::T,⟨hm,fun t hmem=>?_,fun hx=>?_,?_⟩,fun k'=>?_,by simp,fun x hx=>?_,⟨Nat.le_trans ht.size hg.size,fun x hx hn=>?_,hg.tape.trans ht.tape,hg.os.trans ht.os,hg.output.trans ht.output⟩⟩
 ·rcases List.mem_cons.1 hmem with rfl|hmem
  ·exact hp.kept fun x hx=>g2 x (hp.lt x hx) fun e=>hfm (e▸hx)
  ·refine (h.bun t hmem).kept fun x hx=>(g2 x ?_ fun e=>h.out (mem_tpl.2 ⟨t,hmem,e▸hx⟩)).trans (ht.heap x ((h.bun t hmem).lt x hx) fun x=>x)
   have:=(h.bun t hmem).lt x hx
   have:=ht.size
   omega
 ·obtain ⟨t,hmem,hx⟩:=mem_tpl.1 hx
  rcases List.mem_cons.1 hmem with rfl|hmem
  ·exact hfm hx
  ·exact h.out (mem_tpl.2 ⟨t,hmem,hx⟩)
 ·refine List.pairwise_cons.2 ⟨fun t hmem x hx hx'=>?_,h.dis⟩
  have:=hf x hx
  have:=(h.bun t hmem).lt x hx'
  omega
 ·have:=tm_app (T1:=[]) (t:=⟨k,p,B⟩) (T2:=T) (by simp) k'
  rw [List.nil_append] at this
  rw [this]
  show (if k'=k then some B else ((tm [] k').or (tm T k')))=_
  simp [tm]
 ·obtain ⟨t,hmem,hx⟩:=mem_tpl.1 hx
  rcases List.mem_cons.1 hmem with rfl|hmem
  ·exact .inr (hf x hx)
  ·exact .inl (mem_tpl.2 ⟨t,hmem,hx⟩)
 ·have:=ht.size
  exact (g2 x (by omega) fun e=>hn (.inl e)).trans (ht.heap x hx fun x=>x)
def insF (c:CfgD) (bs:List Int) (hs:Int→Int) (mk:Nat) (g:List Int→Option Bun) (f:FactD):List Int→Option Bun:=fun k=>if k=underN mk (padK f.k) 5 then some (addB c bs ((g k).getD (empB c)) (hs f.it) f.v) else g k
def insFs (c:CfgD) (bs:List Int) (hs:Int→Int) (mk:Nat) (g:List Int→Option Bun) (fs:List FactD):List Int→Option Bun:=fs.foldl (insF c bs hs mk) g
theorem insFs_ok {c:CfgD} {bs:List Int} {hs:Int→Int} {mk:Nat} (hc:CfgOk c) (hbs:bs.length=c.nb) (hh:∀ x,0≤hs x∧hs x≤18446744073709551615):∀ {fs:List FactD} {g:List Int→Option Bun},(∀ k B,g k=some B→BunOk c B)→∀ k B,insFs c bs hs mk g fs k=some B→BunOk c B
 | [],_,hg=>hg
 | f::fs,g,hg=>by
  refine insFs_ok hc hbs hh (fs:=fs) (g:=insF c bs hs mk g f) fun k B h=>?_
  unfold insF at h
  split at h
  ·cases h
   refine Bun0.add ?_ hc hbs (hh _) _
   cases hgk:g k with
   | none=>exact empB_ok hc
   | some B=>exact (hg k B hgk).zero
  ·exact hg k B h
theorem insFs_snoc {c:CfgD} {bs:List Int} {hs:Int→Int} {mk:Nat} {g:List Int→Option Bun} {fs:List FactD} {f:FactD}:insFs c bs hs mk g (fs++[f])=insF c bs hs mk (insFs c bs hs mk g fs) f:=by simp [insFs]
end
end Go.Sim.Z
namespace Go.Sim.Z
open Go Go.Proofs Go.RowKit Go.Maps
section
variable {w w1 w':World} {c:CfgD} {m:Nat} {T:List TR} {k:List Int} {bs:List Int}
end
def LJ (w:World) (c:CfgD) (vb:Nat) (T:List TR) (g:List Int→Option Bun) (N:Nat) (wr:World):Prop:=
 ∃ T',TabW wr c vb T'∧(∀ key,tm T' key=g key)∧T'.length≤N∧(∀ y,y=vb∨y∈tpl T'→(y=vb∨y∈tpl T)∨w.heap.size≤y)∧Tch w.heap.size (fun b=>b=vb∨b∈tpl T) w wr
theorem LJ.tch {w wr:World} {c:CfgD} {vb N:Nat} {T:List TR} {g:List Int→Option Bun} (h:LJ w c vb T g N wr):Tch w.heap.size (fun b=>b=vb∨b∈tpl T) w wr:=by obtain ⟨_,_,_,_,_,h⟩:=h;exact h
theorem LJ.post {w wr w1:World} {c:CfgD} {vb N:Nat} {T T':List TR} {g:List Int→Option Bun} {k:List Int} {B:Bun} (h2:∀ key,tm T' key=g key) (h3:T'.length≤N) (h4:∀ y,y=vb∨y∈tpl T'→(y=vb∨y∈tpl T)∨w.heap.size≤y) (h5:Tch w.heap.size (fun b=>b=vb∨b∈tpl T) w wr) (hp:WPost wr c vb T' k B w1) :
  LJ w c vb T (fun key=>if key=k then some B else g key) (N+1) w1:=by
 obtain ⟨T2,q1,q2,q3,q4,q5⟩:=hp
 have:=h5.size
 refine ⟨T2,q1,fun key=>by rw [q2,h2],by omega,fun y hy=>?_,h5.then q5 h5.size fun b hb hm=>?_⟩
 ·rcases hy with rfl|hy
  ·exact .inl (.inl rfl)
  ·rcases q4 y hy with h|h
   ·exact h4 y (.inr h)
   ·exact .inr (by omega)
 ·rcases h4 b hm with h|h
  ·exact h
  ·omega
theorem LJ.miss {w wr w1:World} {c:CfgD} {vb N:Nat} {T:List TR} {g:List Int→Option Bun} {k:List Int} (h:LJ w c vb T g N wr) (hk:KeyOk k) (hg:g k=none) (ht:Tch wr.heap.size M0 wr w1) :
  (Instr.lookup 70 (.map (some vb)) (.agg (ai .i64 k)) false).run Tryz.prog w1=.ok (.pointer none) w1:=by
 obtain ⟨T',h1,h2,_⟩:=h
 have:=(h1.map.kept (ht.heap vb h1.map.lt fun h=>h)).lookup hk
 rwa [(look_none ((h2 k).trans hg)).1] at this
theorem LJ.make {w wr w1:World} {c:CfgD} {vb N:Nat} {T:List TR} {g:List Int→Option Bun} {k:List Int} (h:LJ w c vb T g N wr) (hN:N≤100000) (hk:KeyOk k) (hg:g k=none) (ht:Tch wr.heap.size M0 wr w1) {q:BP} {B:Bun} (hB:BunAt false w1 c q B) (hf:∀ x∈q.pl,wr.heap.size≤x) :
  ∃ w2,(Instr.mapUpdate 70 (.map (some vb)) (.agg (ai .i64 k)) (.pointer (some ⟨q.b,0,none⟩))).run Tryz.prog w1=.ok () w2∧LJ w c vb T (fun key=>if key=k then some B else g key) (N+1) w2∧w1.heap.size≤w2.heap.size∧∀ b,wr.heap.size≤b→b<w1.heap.size→w2.heap[b]?=w1.heap[b]?:=by
 obtain ⟨T',h1,h2,h3,h4,h5⟩:=h
 have e:maxLen=9223372036854775807:=by decide
 obtain ⟨w2,r1,r2,r3⟩:=(h1.map.kept (ht.heap vb h1.map.lt fun h=>h)).update (by simp;omega) hk (.pointer (some ⟨q.b,0,none⟩))
 have hvb:=h1.map.lt
 exact ⟨w2,r1,LJ.post h2 h3 h4 h5 (h1.notThere ((h2 k).trans hg) hB hf ht r2 r3),r3.size,fun b hb hl=>r3.block b hl fun e=>by have:=Option.some.inj e;omega⟩
theorem LJ.add {w wr:World} {c:CfgD} {vb N:Nat} {T:List TR} {g:List Int→Option Bun} {k bs:List Int} {B:Bun} (h:LJ w c vb T g N wr) (hk:KeyOk k) (hg:g k=some B) (h0:Bun0 c B) (hc:CfgOk c) (hB:BndAt false w c.ba bs) (hbs:bs.length=c.nb) (hso:bs.Pairwise (· < ·))
  (dB:∀ a,c.ba=some a→a.block≠vb∧a.block∉tpl T∧a.block<w.heap.size) :
  ∃ p,∀ w1,Tch wr.heap.size M0 wr w1→(Instr.lookup 70 (.map (some vb)) (.agg (ai .i64 k)) false).run Tryz.prog w1=.ok (.pointer (some ⟨p,0,none⟩)) w1 ∧
   ∀ x v,0≤x∧x≤18446744073709551615→Calls Tryz.prog 28 #[.pointer (some ⟨p,0,none⟩),.int .u64 x,.int .i64 v] w1 fun e w'=>(∃ v,e=.returned v)∧LJ w c vb T (fun key=>if key=k then some (addB c bs B x v) else g key) (N+1) w':=by
 obtain ⟨T',h1,h2,h3,h4,h5⟩:=h
 obtain ⟨t,T1,T2,rfl,rfl,rfl,k3,k4⟩:=look_some ((h2 k).trans hg)
 refine ⟨t.p.b,fun w1 ht=>?_⟩
 have h1':TabW w1 c vb (T1++t::T2):=h1.kept fun y hy=>ht.heap y (h1.lt y hy) fun h=>h
 have h5':=h5.then ht h5.size fun _ _ h=>h.elim
 refine ⟨?_,fun x v hx=>?_⟩
 ·have:=h1'.map.lookup hk
  rwa [k4] at this
 ·have hB1:BndAt false w1 c.ba bs:=hB.kept fun bb e _=>h5'.heap bb (dB _ e).2.2 fun hm=>hm.elim (dB _ e).1 (dB _ e).2.1
  have hd:∀ y∈tpl (T1++t::T2),c.ba≠some ⟨y,0,none⟩:=fun y hy e=>by
   have q:=dB _ e
   rcases h4 y (.inr hy) with (h|h)|h
   ·exact q.1 h
   ·exact q.2.1 h
   ·have:=q.2.2;simp only at this;omega
  refine (bunAdd (h1'.bun t (by simp)) hB1 (fun y hy=>hd y (mem_tpl.2 ⟨t,by simp,hy⟩)) h0 hc hbs hso hx v).mono fun e w' ⟨q1,q2⟩=>⟨q1,?_⟩
  exact LJ.post h2 h3 (fun y hy=>h4 y hy) h5' (h1'.there k3 q2)
theorem insF_new {c:CfgD} {bs:List Int} {hs:Int→Int} {mk:Nat} {g:List Int→Option Bun} {f:FactD} (hg:g (underN mk (padK f.k) 5)=none) (key:List Int) :
  (if key=underN mk (padK f.k) 5 then some (addB c bs (empB c) (hs f.it) f.v) else if key=underN mk (padK f.k) 5 then some (empB c) else g key)=insF c bs hs mk g f key:=by
 unfold insF
 by_cases e:key=underN mk (padK f.k) 5
 ·rw [if_pos e,if_pos e,e,hg];rfl
 ·rw [if_neg e,if_neg e,if_neg e]
theorem insF_old {c:CfgD} {bs:List Int} {hs:Int→Int} {mk:Nat} {g:List Int→Option Bun} {f:FactD} {B:Bun} (hg:g (underN mk (padK f.k) 5)=some B) (key:List Int) :
  (if key=underN mk (padK f.k) 5 then some (addB c bs B (hs f.it) f.v) else g key)=insF c bs hs mk g f key:=by
 unfold insF
 by_cases e:key=underN mk (padK f.k) 5
 ·rw [if_pos e,if_pos e,e,hg];rfl
 ·rw [if_neg e,if_neg e]
theorem five_of {l:List Int} (h:l.length=5):∃ x0 x1 x2 x3 x4,l=[x0,x1,x2,x3,x4]:=by
 rcases l with _|⟨x0,_|⟨x1,_|⟨x2,_|⟨x3,_|⟨x4,_|⟨x5,l⟩⟩⟩⟩⟩⟩<;>simp at h
 exact ⟨_,_,_,_,_,rfl⟩
noncomputable def bC:Code→Code | .block _ c=>c|c=>c
noncomputable def lC:Code→Code | .loop c=>c|c=>c
noncomputable def c13_in:Code:=sC (bC (sC (sC (lC (bC (sC p13_8))))))
section
variable {w:World} {x:Nat} {ga:Option Addr} {fs:List FactD} {cap n:Nat} {pl:List Nat} {f:Nat→Value} {c:CfgD} {T:List TR} {mk vb hb:Nat} {hs:Int→Int} {bs:List Int} {seed:Int}
structure InF (w:World) (x:Nat) (ga:Option Addr) (fs:List FactD) (cap:Nat) (pl:List Nat) (c:CfgD) (seed:Int) (T:List TR) (vb hb:Nat) (hs:Int→Int) (bs:List Int):Prop where
 tab:TabAt false w c vb T
 fsa:FsAt false w ga fs cap pl
 okf:∀ g∈fs,FactOk g
 hr:Row false w hb 45 .u64 (fs.map fun f=>hs f.it) fs.length
 x0:w.cell? ⟨x,0,none⟩=some (.int .i64 3)
 x1:w.cell? ⟨x,1,none⟩=some (.int .i64 c.bits)
 x2:w.cell? ⟨x,2,none⟩=some (.int .i64 c.K)
 x3:w.cell? ⟨x,3,none⟩=some (.slice c.ba c.nb c.cb)
 x4:w.cell? ⟨x,4,none⟩=some (.int .i64 seed)
 bnd:BndAt false w c.ba bs
 bsl:bs.length=c.nb
 so:bs.Pairwise (· < ·)
 cfg:CfgOk c
 hs:∀ y,0≤hs y∧hs y≤18446744073709551615
 dF:∀ y∈pl,y≠vb∧y∉tpl T
 dX:x≠vb∧x∉tpl T
 dH:hb≠vb∧hb∉tpl T
 dB:∀ a,c.ba=some a→a.block≠vb∧a.block∉tpl T∧a.block<w.heap.size
 nf:fs.length≤3000
 nT:T.length≤3000
set_option maxRecDepth 100000 in
set_option maxHeartbeats 8000000 in
theorem c13_in_wp (hI:InF w x ga fs cap pl c seed T vb hb hs bs) (hn:fs.length=n):c13_in.wp Tryz.prog (fun e a w'=>e=.normal∧a.defers=[]∧a.tmps.size=157∧a.tmps[0]?=some (.pointer (some ⟨x,0,none⟩))∧a.tmps[1]?=some (.slice ga n cap)∧a.tmps[4]?=some .nilIface∧a.tmps[7]?=some (.slice (some ⟨hb,0,none⟩) n n)∧a.tmps[117]?=some (f 117) ∧
   LJ w c vb T (insFs c bs hs mk (tm T) fs) (T.length+2*n) w') ⟨#[.pointer (some ⟨x,0,none⟩),.slice ga n cap,f 2,f 3,.nilIface,f 5,f 6,.slice (some ⟨hb,0,none⟩) n n,f 8,f 9,f 10,f 11,f 12,f 13,f 14,.int .i64 mk,.map (some vb),f 17,f 18,f 19,f 20,f 21,f 22,f 23,f 24,f 25,f 26,f 27,f 28,f 29,f 30,f 31,f 32,f 33,f 34,f 35,f 36,f 37,f 38,f 39,f 40,f 41,f 42,f 43,f 44,f 45,f 46,f 47,f 48,f 49,f 50,f 51,f 52,f 53,f 54,f 55,f 56,f 57,f 58,f 59,f 60,f 61,f 62,f 63,f 64,f 65,f 66,f 67,f 68,f 69,f 70,f 71,f 72,f 73,f 74,f 75,f 76,f 77,f 78,f 79,f 80,f 81,f 82,f 83,f 84,f 85,f 86,f 87,f 88,f 89,f 90,f 91,f 92,f 93,f 94,f 95,f 96,f 97,f 98,f 99,f 100,f 101,f 102,f 103,f 104,f 105,f 106,f 107,f 108,f 109,f 110,f 111,f 112,f 113,f 114,f 115,f 116,f 117,f 118,f 119,f 120,f 121,f 122,f 123,f 124,f 125,f 126,f 127,f 128,f 129,f 130,f 131,f 132,f 133,f 134,f 135,f 136,f 137,f 138,f 139,f 140,f 141,f 142,f 143,f 144,f 145,f 146,f 147,f 148,f 149,f 150,f 151,f 152,f 153,f 154,f 155,f 156],[]⟩ w:=by
 have hI':=hI
 obtain ⟨tab,fsa,okf,hr,x0,x1,x2,x3,x4,bnd,bsl,so,cfg,hhs,dF,dX,dH,dB,nf,nT⟩:=hI'
 have hxl:=cell_lt x0
 have hhl:=hr.lt
 have hok:=fun k=>insFs_ok (mk:=mk) (fs:=fs.take k) (g:=tm T) cfg bsl hhs fun key B h=>by
  obtain ⟨t,_,_,rfl,rfl,rfl,_,_⟩:=look_some h
  exact tab.ok t (by simp)
 simp only [c13_in,bC,lC,p13_8,b13,fC,sC,Tryz.f13,Option.getD_some]
 go_wp2
 go_loopw [125] (fun i wr=>∃ k:Nat,k≤n∧i=.int .i64 k∧LJ w c vb T (insFs c bs hs mk (tm T) (fs.take k)) (T.length+2*k) wr) (fun i _=>n-(RowKit.intOf i).toNat)
 case atStart=>exact ⟨0,by omega,rfl,T,tab.toW,fun _=>rfl,by omega,fun y hy=>.inl hy,.refl⟩
 case round=>
  obtain ⟨k,hk,rfl,hJ⟩:=hrel
  have ht:=hJ.tch
  rcases Nat.lt_or_ge k n with hlt|hge
  ·have hlt':(k:Int)<n:=by omega
   obtain ⟨fd,hfd⟩:∃ fd,fs[k]?=some fd:=⟨fs[k]'(by omega),List.getElem?_eq_getElem _⟩
   have hfo:=okf fd (List.mem_of_getElem? hfd)
   have hKey:=padK_ok hfo
   have hKK:=underN_ok (mk:=mk) hKey 5
   have fsr:=fsa.kept (w':=wr) fun y hy=>ht.heap y (fsa.lt y hy) fun h=>h.elim (dF y hy).1 (dF y hy).2
   obtain ⟨g,kb,kc,rfl,hgp,hkp,hF⟩:=fsr.at_ k fd hfd
   have c0:=hF.ck
   have c1:=hF.ci
   have c2:=hF.cv
   have hrow:=hF.row
   rw [hfo.n] at c0
   have hlk:k<(fs.map fun f=>hs f.it).length:=by simp;omega
   have hhc:∀ w1,Tch w.heap.size (fun b=>b=vb∨b∈tpl T) w w1→w1.cell? ⟨hb,k,none⟩=some (.int .u64 (hs fd.it)):=fun w1 t=>by
    have:=(hr.kept (t.heap hb hhl fun h=>h.elim dH.1 dH.2)).cell hlk
    rw [this]
    have e:fs[k]?=some fd:=hfd
    simp [List.getD_eq_getElem?_getD,e]
   have hxc:∀ w1,Tch w.heap.size (fun b=>b=vb∨b∈tpl T) w w1→w1.cell? ⟨x,0,none⟩=some (.int .i64 3)∧w1.cell? ⟨x,1,none⟩=some (.int .i64 c.bits)∧w1.cell? ⟨x,2,none⟩=some (.int .i64 c.K)∧w1.cell? ⟨x,3,none⟩=some (.slice c.ba c.nb c.cb)∧w1.cell? ⟨x,4,none⟩=some (.int .i64 seed):=fun w1 t=>by
    have e:∀ i,w1.cell? ⟨x,i,none⟩=w.cell? ⟨x,i,none⟩:=fun i=>t.cell hxl fun h=>h.elim dX.1 dX.2
    exact ⟨(e 0).trans x0,(e 1).trans x1,(e 2).trans x2,(e 3).trans x3,(e 4).trans x4⟩
   obtain ⟨z0,z1,z2,z3,z4,hzz⟩:=five_of hKey.1
   obtain ⟨y0,y1,y2,y3,y4,hyy⟩:=five_of hKK.1
   have hbox1:∃ W1,wr.alloc (.cells #[.slice (some ⟨kb,0,none⟩) 3 kc,.int .i64 fd.it,.int .i64 fd.v] 47)=W1:=⟨_,rfl⟩
   obtain ⟨W1,hW1⟩:=hbox1
   have t1:Tch wr.heap.size M0 wr W1:=by rw [← hW1];exact Tch.refl.alloc (Nat.le_refl _) _
   have e1:W1.heap[wr.heap.size]?=some (.cells #[.slice (some ⟨kb,0,none⟩) 3 kc,.int .i64 fd.it,.int .i64 fd.v] 47):=by rw [← hW1];exact heap_new _
   have d0:=(cell_of e1 0).trans rfl
   have of25:Calls Tryz.prog 25 #[.slice (some ⟨kb,0,none⟩) 3 kc] W1 fun e w'=>e=.returned (.agg #[.int .i64 z0,.int .i64 z1,.int .i64 z2,.int .i64 z3,.int .i64 z4])∧Tch W1.heap.size M0 W1 w':=by
    have:=of_calls (hrow.tch t1 hrow.lt fun h=>h) (by rw [hfo.n];omega)
    rw [hfo.n,hzz] at this
    exact this
   have hund:∀ w1,Calls Tryz.prog 26 #[.agg #[.int .i64 z0,.int .i64 z1,.int .i64 z2,.int .i64 z3,.int .i64 z4],.int .i64 mk] w1 fun e w'=>e=.returned (.agg #[.int .i64 y0,.int .i64 y1,.int .i64 y2,.int .i64 y3,.int .i64 y4])∧Tch w1.heap.size M0 w1 w':=fun w1=>by
    have:=under_calls (padK fd.k) hKey.1 mk w1
    rw [hyy,hzz] at this
    exact this
   have hend:∀ w9 (g9:List Int→Option Bun) (N9:Nat),(∀ key,g9 key=insF c bs hs mk (insFs c bs hs mk (tm T) (fs.take k)) fd key)→N9≤T.length+2*(k+1)→LJ w c vb T g9 N9 w9→(∃ k_1:Nat,k_1≤n∧Value.int IntKind.i64 ((k:Int)+1)=.int .i64 k_1∧LJ w c vb T (insFs c bs hs mk (tm T) (fs.take k_1)) (T.length+2*k_1) w9)∧n-(RowKit.intOf (.int .i64 ((k:Int)+1))).toNat<n-(RowKit.intOf (.int .i64 k)).toNat:=fun w9 g9 N9 hg9 hN9 h=>by
    refine ⟨⟨k+1,by omega,by go_num,?_⟩,by simp [RowKit.intOf];omega⟩
    obtain ⟨T',q1,q2,q3,q4⟩:=h
    refine ⟨T',q1,fun key=>?_,by omega,q4⟩
    rw [q2,hg9,List.take_add_one,hfd,Option.toList_some,insFs_snoc]
   cases hg:insFs c bs hs mk (tm T) (fs.take k) (underN mk (padK fd.k) 5) with
   | none=>
    have hmiss:=fun w1 t=>(hJ.miss (w1:=w1) hKK hg t)
    rw [hyy] at hmiss
    simp only [ai,List.map_cons,List.map_nil] at hmiss
    go_wp2_with (first
     | (go_at_call 25;refine of25.mono ?_;rintro e w2 ⟨rfl,t2⟩)
     | (go_at_call 26;refine (hund _).mono ?_;rintro e w3 ⟨rfl,t3⟩
        obtain ⟨W4,hW4⟩:∃ W4,w3.alloc (.cells #[.int .i64 y0,.int .i64 y1,.int .i64 y2,.int .i64 y3,.int .i64 y4] 76)=W4:=⟨_,rfl⟩
        have t4:Tch wr.heap.size M0 wr W4:=by
         rw [← hW4]
         have a:=t1.then (t2.then t3 t2.size fun _ _ h=>h) t1.size fun _ _ h=>h
         exact a.alloc a.size _
        have e4:W4.heap[w3.heap.size]?=some (.cells #[.int .i64 y0,.int .i64 y1,.int .i64 y2,.int .i64 y3,.int .i64 y4] 76):=by rw [← hW4];exact heap_new _
        have hm4:=hmiss W4 t4
        have k0:=(cell_of e4 0).trans rfl
        have k1:=(cell_of e4 1).trans rfl
        have k2:=(cell_of e4 2).trans rfl
        have k3:=(cell_of e4 3).trans rfl
        have k4:=(cell_of e4 4).trans rfl))
    have tW4:Tch w.heap.size (fun b=>b=vb∨b∈tpl T) w W4:=ht.then t4 ht.size fun _ _ h=>h.elim
    have hx4:=hxc W4 tW4
    have e1':W4.heap[wr.heap.size]?=some (.cells #[.slice (some ⟨kb,0,none⟩) 3 kc,.int .i64 fd.it,.int .i64 fd.v] 47):=by
     have:W4.heap[wr.heap.size]?=w3.heap[wr.heap.size]?:=by
      rw [← hW4];exact heap_old _ (by have:=lt_of e1;have:=t2.size;have:=t3.size;omega)
     rw [this,t3.heap _ (by have:=lt_of e1;have:=t2.size;omega) fun h=>h,t2.heap _ (lt_of e1) fun h=>h,e1]
    have hb43:wr.heap.size≤w3.heap.size:=by have:=t1.size;have:=t2.size;have:=t3.size;omega
    have hb4l:=lt_of e4
    generalize w3.heap.size=b4 at *
    have hS4:∀ w1,Tch W4.heap.size M0 W4 w1→w1.cell? ⟨b4,0,none⟩=some (.int .i64 y0)∧w1.cell? ⟨b4,1,none⟩=some (.int .i64 y1)∧w1.cell? ⟨b4,2,none⟩=some (.int .i64 y2)∧w1.cell? ⟨b4,3,none⟩=some (.int .i64 y3)∧w1.cell? ⟨b4,4,none⟩=some (.int .i64 y4)∧w1.cell? ⟨x,0,none⟩=some (.int .i64 3)∧w1.cell? ⟨x,1,none⟩=some (.int .i64 c.bits)∧w1.cell? ⟨x,2,none⟩=some (.int .i64 c.K)∧w1.cell? ⟨x,3,none⟩=some (.slice c.ba c.nb c.cb)∧w1.cell? ⟨x,4,none⟩=some (.int .i64 seed):=fun w1 t=>
     have e:=(t.heap b4 hb4l fun h=>h).trans e4
     ⟨(cell_of e 0).trans rfl,(cell_of e 1).trans rfl,(cell_of e 2).trans rfl,(cell_of e 3).trans rfl,(cell_of e 4).trans rfl,hxc w1 (tW4.then t tW4.size fun _ _ h=>h.elim)⟩
    have tdr:Tch W4.heap.size M0 W4 W4.drew:=.drew .refl
    clear hmiss hm4 k0 k1 k2 k3 k4 hund of25 d0
    go_region_held3 (fun w1=>w1.cell? ⟨b4,0,none⟩=some (.int .i64 y0)∧w1.cell? ⟨b4,1,none⟩=some (.int .i64 y1)∧w1.cell? ⟨b4,2,none⟩=some (.int .i64 y2)∧w1.cell? ⟨b4,3,none⟩=some (.int .i64 y3)∧w1.cell? ⟨b4,4,none⟩=some (.int .i64 y4)∧w1.cell? ⟨x,0,none⟩=some (.int .i64 3)∧w1.cell? ⟨x,1,none⟩=some (.int .i64 c.bits)∧w1.cell? ⟨x,2,none⟩=some (.int .i64 c.K)∧w1.cell? ⟨x,3,none⟩=some (.slice c.ba c.nb c.cb)∧w1.cell? ⟨x,4,none⟩=some (.int .i64 seed)) (first|exact hS4 _ tdr|exact hS4 _ t5|exact hS6) ((go_at_call 27;refine (bunMake cfg 3 seed).mono ?_;rintro e w5 ⟨q,rfl,hq,hqf,t5⟩;have t5:=t5.ofDrew;have t45:=t4.then t5 t4.size fun _ _ h=>h;obtain ⟨w6,hrun6,hJ6,hs6,hk6⟩:=hJ.make (by omega) hKK hg t45 hq (fun y hy=>Nat.le_trans t4.size (hqf y hy));rw [hyy] at hrun6;simp only [ai,List.map_cons,List.map_nil] at hrun6;have e6:=(hk6 b4 hb43 (Nat.lt_of_lt_of_le hb4l t5.size)).trans ((t5.heap b4 hb4l fun h=>h).trans e4);have hS6:w6.cell? ⟨b4,0,none⟩=some (.int .i64 y0)∧w6.cell? ⟨b4,1,none⟩=some (.int .i64 y1)∧w6.cell? ⟨b4,2,none⟩=some (.int .i64 y2)∧w6.cell? ⟨b4,3,none⟩=some (.int .i64 y3)∧w6.cell? ⟨b4,4,none⟩=some (.int .i64 y4)∧w6.cell? ⟨x,0,none⟩=some (.int .i64 3)∧w6.cell? ⟨x,1,none⟩=some (.int .i64 c.bits)∧w6.cell? ⟨x,2,none⟩=some (.int .i64 c.K)∧w6.cell? ⟨x,3,none⟩=some (.slice c.ba c.nb c.cb)∧w6.cell? ⟨x,4,none⟩=some (.int .i64 seed):=⟨(cell_of e6 0).trans rfl,(cell_of e6 1).trans rfl,(cell_of e6 2).trans rfl,(cell_of e6 3).trans rfl,(cell_of e6 4).trans rfl,hxc w6 hJ6.tch⟩))
    obtain ⟨p,hadd⟩:=hJ6.add hKK (if_pos rfl) (empB_ok cfg) cfg bnd bsl so dB
    obtain ⟨hlook,hcall⟩:=hadd w6.drew (.drew .refl)
    have hcall:=hcall (hs fd.it) fd.v (hhs _)
    rw [hyy] at hlook
    simp only [ai,List.map_cons,List.map_nil] at hlook
    have hS:w6.drew.cell? ⟨b4,0,none⟩=some (.int .i64 y0)∧w6.drew.cell? ⟨b4,1,none⟩=some (.int .i64 y1)∧w6.drew.cell? ⟨b4,2,none⟩=some (.int .i64 y2)∧w6.drew.cell? ⟨b4,3,none⟩=some (.int .i64 y3)∧w6.drew.cell? ⟨b4,4,none⟩=some (.int .i64 y4)∧(Instr.lookup 70 (.map (some vb)) (.agg #[.int .i64 y0,.int .i64 y1,.int .i64 y2,.int .i64 y3,.int .i64 y4]) false).run Tryz.prog w6.drew=.ok (.pointer (some ⟨p,0,none⟩)) w6.drew∧w6.drew.cell? ⟨hb,k,none⟩=some (.int .u64 (hs fd.it))∧w6.drew.cell? ⟨wr.heap.size,2,none⟩=some (.int .i64 fd.v):=⟨hS6.1,hS6.2.1,hS6.2.2.1,hS6.2.2.2.1,hS6.2.2.2.2.1,hlook,hhc w6.drew hJ6.tch.drew,(cell_of (w:=w6.drew) ((hk6 _ (Nat.le_refl _) (by have:=lt_of e1';have:=t5.size;omega)).trans ((t5.heap _ (lt_of e1') fun h=>h).trans e1')) 2).trans rfl⟩
    clear hadd
    go_wp2_with fail
    obtain ⟨s0,s1,s2,s3,s4,s5,s6,s7⟩:=hS
    go_still_tail 9,(by kernel_rfl)
    change wpList _ _ _ _ _ w6.drew
    generalize w6.drew=Wd at *
    go_wp2_with (go_at_call 28;refine hcall.mono ?_;rintro e w9 ⟨⟨v9,rfl⟩,hJ9⟩)
    exact hend _ _ _ (fun key=>insF_new hg key) (by omega) hJ9
   | some B=>
    obtain ⟨p,hadd⟩:=hJ.add hKK hg (hok k _ _ hg).zero cfg bnd bsl so dB
    go_wp2_with (first
     | (go_at_call 25;refine of25.mono ?_;rintro e w2 ⟨rfl,t2⟩)
     | (go_at_call 26;refine (hund _).mono ?_;rintro e w3 ⟨rfl,t3⟩
        obtain ⟨W4,hW4⟩:∃ W4,w3.alloc (.cells #[.int .i64 y0,.int .i64 y1,.int .i64 y2,.int .i64 y3,.int .i64 y4] 76)=W4:=⟨_,rfl⟩
        have t4:Tch wr.heap.size M0 wr W4:=by
         rw [← hW4]
         have a:=t1.then (t2.then t3 t2.size fun _ _ h=>h) t1.size fun _ _ h=>h
         exact a.alloc a.size _
        have e4:W4.heap[w3.heap.size]?=some (.cells #[.int .i64 y0,.int .i64 y1,.int .i64 y2,.int .i64 y3,.int .i64 y4] 76):=by rw [← hW4];exact heap_new _
        obtain ⟨hm4,hc4⟩:=hadd W4 t4
        rw [hyy] at hm4
        simp only [ai,List.map_cons,List.map_nil] at hm4
        have k0:=(cell_of e4 0).trans rfl
        have k1:=(cell_of e4 1).trans rfl
        have k2:=(cell_of e4 2).trans rfl
        have k3:=(cell_of e4 3).trans rfl
        have k4:=(cell_of e4 4).trans rfl))
    have tW4:Tch w.heap.size (fun b=>b=vb∨b∈tpl T) w W4:=ht.then t4 ht.size fun _ _ h=>h.elim
    have hx4:=hxc W4 tW4
    have e1':W4.heap[wr.heap.size]?=some (.cells #[.slice (some ⟨kb,0,none⟩) 3 kc,.int .i64 fd.it,.int .i64 fd.v] 47):=by
     have:W4.heap[wr.heap.size]?=w3.heap[wr.heap.size]?:=by
      rw [← hW4];exact heap_old _ (by have:=lt_of e1;have:=t2.size;have:=t3.size;omega)
     rw [this,t3.heap _ (by have:=lt_of e1;have:=t2.size;omega) fun h=>h,t2.heap _ (lt_of e1) fun h=>h,e1]
    have hb43:wr.heap.size≤w3.heap.size:=by have:=t1.size;have:=t2.size;have:=t3.size;omega
    have hb4l:=lt_of e4
    generalize w3.heap.size=b4 at *
    clear hm4 hc4 k0 k1 k2 k3 k4 hund of25 d0
    obtain ⟨hlook,hcall⟩:=hadd W4.drew (t4.drew)
    have hcall:=hcall (hs fd.it) fd.v (hhs _)
    rw [hyy] at hlook
    simp only [ai,List.map_cons,List.map_nil] at hlook
    have hS:W4.drew.cell? ⟨b4,0,none⟩=some (.int .i64 y0)∧W4.drew.cell? ⟨b4,1,none⟩=some (.int .i64 y1)∧W4.drew.cell? ⟨b4,2,none⟩=some (.int .i64 y2)∧W4.drew.cell? ⟨b4,3,none⟩=some (.int .i64 y3)∧W4.drew.cell? ⟨b4,4,none⟩=some (.int .i64 y4)∧(Instr.lookup 70 (.map (some vb)) (.agg #[.int .i64 y0,.int .i64 y1,.int .i64 y2,.int .i64 y3,.int .i64 y4]) false).run Tryz.prog W4.drew=.ok (.pointer (some ⟨p,0,none⟩)) W4.drew∧W4.drew.cell? ⟨hb,k,none⟩=some (.int .u64 (hs fd.it))∧W4.drew.cell? ⟨wr.heap.size,2,none⟩=some (.int .i64 fd.v):=⟨(cell_of (w:=W4.drew) e4 0).trans rfl,(cell_of (w:=W4.drew) e4 1).trans rfl,(cell_of (w:=W4.drew) e4 2).trans rfl,(cell_of (w:=W4.drew) e4 3).trans rfl,(cell_of (w:=W4.drew) e4 4).trans rfl,hlook,hhc W4.drew tW4.drew,(cell_of (w:=W4.drew) e1' 2).trans rfl⟩
    clear hadd
    obtain ⟨s0,s1,s2,s3,s4,s5,s6,s7⟩:=hS
    go_still_tail 9,(by kernel_rfl)
    change wpList _ _ _ _ _ W4.drew
    generalize W4.drew=Wd at *
    go_wp2_with (go_at_call 28;refine hcall.mono ?_;rintro e w9 ⟨⟨v9,rfl⟩,hJ9⟩)
    exact hend _ _ _ (fun key=>insF_old hg key) (by omega) hJ9
  ·have hge':¬ ((k:Int)<n):=by omega
   obtain rfl:k=n:=by omega
   rw [← hn,List.take_length,hn] at hJ
   clear hok
   go_wp2
end
end Go.Sim.Z
