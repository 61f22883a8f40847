/- PROVED HERE: laws that the statement rests on (parts Qe, Qf, Qg). Conditions: none. -/
import Derived.Test.YtlcbehhbfglgaaaGreatE32
import Derived.Test.YtlcbehhbfglgaaaGreatE42
set_option linter.all false
namespace Go.Sim.Z
open Go Go.Proofs Go.RowKit
theorem snocRec {α:Type} {motive:List α→Prop} (l:List α) (nil:motive []) (append_singleton:∀ l a,motive l→motive (l++[a])):motive l:=by
 have:∀ n,∀ l:List α,l.length=n→motive l:=by
  intro n
  induction n with
  | zero=>intro l h;rw [List.length_eq_zero_iff.1 h];exact nil
  | succ n ih=>
   intro l h
   have hne:l≠[]:=by intro e;rw [e] at h;cases h
   rw [← List.dropLast_concat_getLast hne]
   exact append_singleton _ _ (ih _ (by simp [h]))
 exact this _ l rfl
def bunF (c:CfgD) (bs:List Int) (A:List (Int × Int)):Bun:=A.foldl (fun B f=>addB c bs B f.1 f.2) (empB c)
def bunO (c:CfgD) (bs:List Int) (A:List (Int × Int)):Option Bun:=if A=[] then none else some (bunF c bs A)
def HashOk (A:List (Int × Int)):Prop:=∀ f∈A,0≤f.1∧f.1≤18446744073709551615
theorem wrap64_of {x:Int} (h:I64 x):wrap64 x=x:=by unfold I64 at h;unfold wrap64;omega
section
variable {c:CfgD} {bs:List Int} {a b:Bun} {A B:List (Int × Int)}
theorem bunF_snoc (f:Int × Int):bunF c bs (A++[f])=addB c bs (bunF c bs A) f.1 f.2:=by simp [bunF]
theorem Bun0.of_ok (h:BunOk c b):Bun0 c b:=⟨h.r,h.r8,h.h,h.h64,h.l,h.lK,h.l64,h.n64⟩
theorem bunF_ok (hc:CfgOk c) (hbs:bs.length=c.nb) (hA:HashOk A):Bun0 c (bunF c bs A)∧(A≠[]→BunOk c (bunF c bs A)):=by
 induction A using snocRec with
 | nil=>exact ⟨empB_ok hc,fun h=>absurd rfl h⟩
 | append_singleton A f ih=>
  have h1:=(ih fun g hg=>hA g (by simp [hg])).1
  have h2:=h1.add hc hbs (hA f (by simp)) f.2
  rw [bunF_snoc]
  exact ⟨.of_ok h2,fun _=>h2⟩
theorem maxL_zero:∀ {l:List Int} {n:Nat},l.length=n→(∀ x∈l,0≤x)→maxL l (List.replicate n 0)=l
 | [],_,h,_=>by cases h;rfl
 | x::l,n+1,h,hp=>by
  have:=maxL_zero (l:=l) (n:=n) (by simpa using h) fun y hy=>hp y (by simp [hy])
  have hx:=hp x (by simp)
  unfold maxL at this ⊢
  rw [List.replicate_succ,List.zipWith_cons_cons,this,Int.max_eq_left hx]
theorem addL_zero:∀ {l:List Int} {n:Nat},l.length=n→(∀ x∈l,I64 x)→addL l (List.replicate n 0)=l
 | [],_,h,_=>by cases h;rfl
 | x::l,n+1,h,hp=>by
  have:=addL_zero (l:=l) (n:=n) (by simpa using h) fun y hy=>hp y (by simp [hy])
  have hx:=hp x (by simp)
  unfold addL at this ⊢
  rw [List.replicate_succ,List.zipWith_cons_cons,this,Int.add_zero,wrap64_of hx]
theorem mg_emp (ha:Bun0 c a):mg c a (empB c)=a:=by
 obtain ⟨n,r,h,l⟩:=a
 have h1:=ha.n64
 have h2:=maxL_zero ha.r fun x hx=>(ha.r8 x hx).1
 have h3:=addL_zero ha.h ha.h64
 simp only at h1 h2 h3
 unfold mg empB
 simp only [Int.add_zero,wrap64_of h1,h2,h3]
 rfl
theorem maxL_set:∀ {a b:List Int} {i:Nat} {y:Int},a.length=b.length→i<b.length→maxL a (b.set i (max (b.getD i 0) y))=(maxL a b).set i (max ((maxL a b).getD i 0) y)
 | [],[],_,_,_,h=>by simp at h
 | p::a,q::b,0,y,_,_=>by simp [maxL,Int.max_assoc]
 | p::a,q::b,i+1,y,h,hi=>by
  have:=maxL_set (a:=a) (b:=b) (i:=i) (y:=y) (by simpa using h) (by simpa using hi)
  unfold maxL at this ⊢
  simpa using this
theorem addL_set:∀ {a b:List Int} {i:Nat},a.length=b.length→i<b.length→addL a (b.set i (wrap64 (b.getD i 0+1)))=(addL a b).set i (wrap64 ((addL a b).getD i 0+1))
 | [],[],_,_,h=>by simp at h
 | p::a,q::b,0,_,_=>by
  simp only [addL,List.set_cons_zero,List.zipWith_cons_cons,List.getD_cons_zero,List.cons.injEq,and_true]
  unfold wrap64;omega
 | p::a,q::b,i+1,h,hi=>by
  have:=addL_set (a:=a) (b:=b) (i:=i) (by simpa using h) (by simpa using hi)
  unfold addL at this ⊢
  simpa using this
theorem mergeL_add {K:Int} {x:Int} {a b:List Int} (ha:Rise a) (hb:Rise b) (ka:(a.length:Int)≤K) (kb:(b.length:Int)≤K):mergeL K a (addLeast K b x)=addLeast K (mergeL K a b) x:=by
 have h1:=rise_addLeast hb kb x
 have h2:=rise_mergeL (b:=b) ha ka
 rw [mergeL_comm ha h1.1 ka h1.2,mergeL_eq h1.1 h1.2,addLeast_eq hb kb,take_uni,addLeast_eq h2.1 h2.2,mergeL_eq ha ka,take_insU]
 congr 1
 refine rise_ext (rise_uni (rise_insU hb)) (rise_insU (rise_uni ha)) fun z=>?_
 rw [mem_uni,mem_insU,mem_insU,mem_uni]
 constructor
 ·rintro ((h|h)|h)
  ·exact .inl h
  ·exact .inr (.inr h)
  ·exact .inr (.inl h)
 ·rintro (h|h|h)
  ·exact .inl (.inl h)
  ·exact .inr h
  ·exact .inl (.inr h)
theorem mg_add (hc:CfgOk c) (hbs:bs.length=c.nb) (hso:bs.Pairwise (· < ·)) (ha:Bun0 c a) (hb:Bun0 c b) {x:Int} (hx:0≤x∧x≤18446744073709551615) (v:Int):mg c a (addB c bs b x v)=addB c bs (mg c a b) x v:=by
 unfold mg addB
 simp only
 have e1:wrap64 (a.n+wrap64 (b.n+1))=wrap64 (wrap64 (a.n+b.n)+1):=by unfold wrap64;omega
 have hi:regI c.bits x<b.r.length:=by rw [hb.r];exact regI_lt ⟨hc.b1,hc.b2⟩ hx
 have e2:maxL a.r (addReg c.bits b.r x)=addReg c.bits (maxL a.r b.r) x:=maxL_set (by rw [ha.r,hb.r]) hi
 have hj:histI bs v<b.h.length:=by rw [hb.h,← hbs];exact histI_lt hso v
 have e3:addL a.h (addHist bs b.h v)=addHist bs (addL a.h b.h) v:=addL_set (by rw [ha.h,hb.h]) hj
 rw [e1,e2,e3,mergeL_add ha.l hb.l ha.lK hb.lK]
theorem bunF_mg (hc:CfgOk c) (hbs:bs.length=c.nb) (hso:bs.Pairwise (· < ·)) (hA:HashOk A) (hB:HashOk B):mg c (bunF c bs A) (bunF c bs B)=bunF c bs (A++B):=by
 induction B using snocRec with
 | nil=>
  rw [List.append_nil]
  exact mg_emp (bunF_ok hc hbs hA).1
 | append_singleton B f ih=>
  have hB':HashOk B:=fun g hg=>hB g (by simp [hg])
  rw [bunF_snoc,mg_add hc hbs hso (bunF_ok hc hbs hA).1 (bunF_ok hc hbs hB').1 (hB f (by simp)),ih hB',← List.append_assoc,bunF_snoc]
theorem bunO_om (hc:CfgOk c) (hbs:bs.length=c.nb) (hso:bs.Pairwise (· < ·)) (hA:HashOk A) (hB:HashOk B) (h:B≠[]):om c (bunO c bs A) (bunF c bs B)=bunO c bs (A++B):=by
 unfold bunO om
 by_cases e:A=[]
 ·subst e;simp [h]
 ·have:A++B≠[]:=by simp [e]
  rw [if_neg e,if_neg this]
  simp only [bunF_mg hc hbs hso hA hB]
theorem osum_bunF (hc:CfgOk c) (hbs:bs.length=c.nb) (hso:bs.Pairwise (· < ·)):∀ {Ls:List (List (Int × Int))},(∀ A∈Ls,HashOk A∧A≠[])→osum c (Ls.map (bunF c bs))=bunO c bs Ls.flatten:=by
 intro Ls
 induction Ls using snocRec with
 | nil=>intro _;rfl
 | append_singleton Ls A ih=>
  intro h
  have h1:=ih fun B hB=>h B (by simp [hB])
  have h2:=h A (by simp)
  rw [List.map_append,List.map_singleton,osum_snoc,h1,List.flatten_append,List.flatten_singleton]
  refine bunO_om hc hbs hso (fun f hf=>?_) h2.1 h2.2
  obtain ⟨B,hB,hf⟩:=List.mem_flatten.1 hf
  exact (h B (by simp [hB])).1 f hf
theorem bunO_perm (hc:CfgOk c) (hbs:bs.length=c.nb) (hso:bs.Pairwise (· < ·)) (hA:HashOk A) (hp:A.Perm B):bunO c bs A=bunO c bs B:=by
 have key:∀ {A:List (Int × Int)},HashOk A→osum c (A.map fun f=>bunF c bs [f])=bunO c bs A:=fun {A} hA=>by
  have:=osum_bunF (c:=c) (bs:=bs) hc hbs hso (Ls:=A.map fun f=>[f]) fun B hB=>by
   obtain ⟨f,hf,rfl⟩:=List.mem_map.1 hB
   exact ⟨fun g hg=>by rw [List.mem_singleton.1 hg];exact hA f hf,by simp⟩
  rw [List.map_map] at this
  have e:(A.map fun f=>[f]).flatten=A:=by
   clear this hp hA
   induction A with
   | nil=>rfl
   | cons f A ih=>simp [ih]
  rw [e] at this
  exact this
 have hB:HashOk B:=fun f hf=>hA f (hp.mem_iff.2 hf)
 rw [← key hA,← key hB]
 refine osum_perm (hp.map _) fun b hb=>?_
 obtain ⟨f,hf,rfl⟩:=List.mem_map.1 hb
 exact (bunF_ok hc hbs (A:=[f]) fun g hg=>by rw [List.mem_singleton.1 hg];exact hA f hf).2 (by simp)
theorem bunF_l (hA:0≤c.K):(bunF c bs A).l=(uni [] (A.map (·.1))).take c.K.toNat:=by
 have key:(bunF c bs A).l=mergeL c.K [] (A.map (·.1)):=by
  induction A using snocRec with
  | nil=>rfl
  | append_singleton A f ih=>
   rw [bunF_snoc,List.map_append]
   show addLeast c.K (bunF c bs A).l f.1=_
   rw [ih]
   simp [mergeL]
 rw [key,mergeL_eq List.Pairwise.nil (by simpa using hA)]
end
def sel (hs:Int→Int) (m:Nat) (k:List Int) (fs:List FactD):List (Int × Int):=(fs.filter fun f=>decide (underN m (padK f.k) 5=k)).map fun f=>(hs f.it,f.v)
section
variable {c:CfgD} {bs:List Int} {hs:Int→Int} {fs:List FactD}
theorem sel_ok (hh:∀ y,0≤hs y∧hs y≤18446744073709551615) (m:Nat) (k:List Int):HashOk (sel hs m k fs):=fun f hf=>by
 obtain ⟨g,_,rfl⟩:=List.mem_map.1 hf
 exact hh _
theorem sel_snoc (m:Nat) (k:List Int) (f:FactD):sel hs m k (fs++[f])=sel hs m k fs++if underN m (padK f.k) 5=k then [(hs f.it,f.v)] else []:=by
 unfold sel
 rw [List.filter_append,List.map_append]
 by_cases e:underN m (padK f.k) 5=k<;>simp [e]
theorem insFs_sel {g0:List FactD} (m:Nat) {g:List Int→Option Bun} (hg:∀ k,g k=bunO c bs (sel hs m k g0)):∀ k,insFs c bs hs m g fs k=bunO c bs (sel hs m k (g0++fs)):=by
 induction fs using snocRec with
 | nil=>intro k;rw [List.append_nil];exact hg k
 | append_singleton fs f ih=>
  intro k
  rw [insFs_snoc,← List.append_assoc,sel_snoc]
  unfold insF
  by_cases e:underN m (padK f.k) 5=k
  ·rw [if_pos e.symm,if_pos e,ih k]
   unfold bunO
   rw [if_neg (c:=sel hs m k (g0++fs)++_=[]) (by simp),bunF_snoc]
   by_cases e2:sel hs m k (g0++fs)=[]
   ·rw [if_pos e2,e2];rfl
   ·rw [if_neg e2];rfl
  ·rw [if_neg (Ne.symm e),if_neg e,List.append_nil,ih k]
theorem under7 {ks:List Int} (h:ks.length=3):underN 7 (padK ks) 5=padK ks:=by
 match ks,h with
 | [a,b,d],_=>
  have t0:Nat.testBit 7 0=true:=by decide
  have t1:Nat.testBit 7 1=true:=by decide
  have t2:Nat.testBit 7 2=true:=by decide
  simp [underN,padK,List.zipIdx_cons,List.replicate,t0,t1,t2]
theorem filter_or_perm {α:Type} (p q:α→Bool):∀ l:List α,(∀ x∈l,¬ (p x=true∧q x=true))→(l.filter p++l.filter q).Perm (l.filter fun x=>p x || q x)
 | [],_=>.refl _
 | x::l,h=>by
  have ih:=filter_or_perm p q l fun y hy=>h y (by simp [hy])
  have hx:=h x (by simp)
  cases hp:p x<;>cases hq:q x
  ·simpa [hp,hq] using ih
  ·simp only [List.filter_cons,hp,hq,Bool.false_eq_true,if_false,if_true,Bool.or_true]
   exact List.perm_middle.trans (ih.cons x)
  ·simp only [List.filter_cons,hp,hq,Bool.false_eq_true,if_false,if_true,Bool.or_false,List.cons_append]
   exact ih.cons x
  ·exact absurd ⟨hp,hq⟩ hx
theorem flat_perm {fs:List FactD} {key:FactD→List Int} {P:List Int→Bool}:∀ {Ks:List (List Int)},Ks.Nodup→((Ks.filter P).flatMap fun κ=>fs.filter fun f=>decide (key f=κ)).Perm (fs.filter fun f=>decide (key f∈Ks) && P (key f))
 | [],_=>by simp
 | κ::Ks,hn=>by
  obtain ⟨h1,h2⟩:=List.nodup_cons.1 hn
  have ih:=flat_perm (fs:=fs) (key:=key) (P:=P) h2
  have e:fs.filter (fun f=>decide (key f∈κ::Ks) && P (key f))=fs.filter fun f=>(decide (key f=κ) && P κ) || (decide (key f∈Ks) && P (key f)):=by
   congr 1
   funext f
   by_cases hk:key f=κ
   ·simp [hk,h1]
   ·simp [hk]
  rw [e]
  refine List.Perm.trans ?_ (filter_or_perm _ _ fs fun f _ ⟨a,b⟩=>?_)
  ·cases hP:P κ
   ·simp only [List.filter_cons,hP,Bool.false_eq_true,if_false,Bool.and_false]
    rw [show fs.filter (fun _=>false)=[] from List.filter_eq_nil_iff.2 fun _ _=>by simp,List.nil_append]
    exact ih
   ·simp only [List.filter_cons,hP,if_true,Bool.and_true,List.flatMap_cons]
    exact ih.append_left _
  ·simp only [Bool.and_eq_true,decide_eq_true_eq] at a b
   exact h1 (a.1▸b.1)
theorem sum_sel (hc:CfgOk c) (hbs:bs.length=c.nb) (hso:bs.Pairwise (· < ·)) (hh:∀ y,0≤hs y∧hs y≤18446744073709551615) (h3:∀ f∈fs,f.k.length=3) {S T:List TR} {m:Nat} (hn:(S.map (·.k)).Nodup) (hS:∀ k,tm S k=bunO c bs (sel hs 7 k fs))
  (h:Sum c (tm T) (rents S m (fun _=>true))):∀ k,tm T k=bunO c bs (sel hs m k fs):=by
 intro k
 rw [h k]
 have e1:((rents S m fun _=>true).filter fun e=>decide (e.1=k)).map (·.2)=((S.filter fun t=>decide (underN m t.k 5=k)).map (fun t=>sel hs 7 t.k fs)).map (bunF c bs):=by
  unfold rents
  simp only [if_true]
  have hB:∀ t∈S,t.B=bunF c bs (sel hs 7 t.k fs):=fun t ht=>by
   have h1:=hS t.k
   rw [tm_mem hn ht] at h1
   unfold bunO at h1
   split at h1
   ·cases h1
   ·exact Option.some.inj h1
  clear h hS hn
  induction S with
  | nil=>rfl
  | cons t S ih=>
   have ih:=ih fun u hu=>hB u (by simp [hu])
   have ht:=hB t (by simp)
   simp only [List.filterMap_cons,List.filter_cons]
   by_cases e:underN m t.k 5=k
   ·simp only [e,decide_true,if_true,List.map_cons,ih,← ht]
   ·simp only [e,decide_false,Bool.false_eq_true,if_false,ih]
 rw [e1,osum_bunF hc hbs hso fun A hA=>?_]
 ·refine bunO_perm hc hbs hso (fun f hf=>?_) ?_
  ·obtain ⟨A,hA,hf⟩:=List.mem_flatten.1 hf
   obtain ⟨t,_,rfl⟩:=List.mem_map.1 hA
   exact sel_ok hh _ _ f hf
  ·have p:=flat_perm (fs:=fs) (key:=fun f=>underN 7 (padK f.k) 5) (P:=fun κ=>decide (underN m κ 5=k)) hn
   have p2:=p.map fun f=>(hs f.it,f.v)
   have e2:(fs.filter fun f=>decide (underN 7 (padK f.k) 5∈S.map (·.k)) && decide (underN m (underN 7 (padK f.k) 5) 5=k))=fs.filter fun f=>decide (underN m (padK f.k) 5=k):=by
    refine List.filter_congr fun f hf=>?_
    have h7:=under7 (h3 f hf)
    rw [h7]
    have hm:padK f.k∈S.map (·.k):=by
     have h1:=hS (padK f.k)
     have hne:sel hs 7 (padK f.k) fs≠[]:=by
      unfold sel
      intro e
      have:=List.map_eq_nil_iff.1 e
      have hf':f∈fs.filter fun g=>decide (underN 7 (padK g.k) 5=padK f.k):=List.mem_filter.2 ⟨hf,by simp [h7]⟩
      rw [this] at hf'
      cases hf'
     unfold bunO at h1
     rw [if_neg hne] at h1
     obtain ⟨t,T1,T2,rfl,ht,_⟩:=look_some h1
     exact List.mem_map.2 ⟨t,by simp,ht⟩
    simp [hm]
   have e3:(((S.filter fun t=>decide (underN m t.k 5=k)).map fun t=>sel hs 7 t.k fs).flatten)=((((S.map (·.k)).filter fun κ=>decide (underN m κ 5=k)).flatMap fun κ=>fs.filter fun f=>decide (underN 7 (padK f.k) 5=κ)).map fun f=>(hs f.it,f.v)):=by
    clear p p2 e1 e2 h hS hn
    induction S with
    | nil=>rfl
    | cons t S ih=>
     simp only [List.filter_cons,List.map_cons]
     by_cases e:underN m t.k 5=k
     ·simp only [e,decide_true,if_true,List.map_cons,List.flatten_cons,List.flatMap_cons,List.map_append,ih]
      rfl
     ·simp only [e,decide_false,Bool.false_eq_true,if_false,ih]
   rw [e3]
   rw [e2] at p2
   exact p2
 ·obtain ⟨t,ht,rfl⟩:=List.mem_map.1 hA
  have ht:=(List.mem_filter.1 ht).1
  refine ⟨sel_ok hh _ _,fun e=>?_⟩
  have h1:=hS t.k
  rw [tm_mem hn ht] at h1
  unfold bunO at h1
  rw [if_pos e] at h1
  cases h1
end
end Go.Sim.Z
namespace Go.Sim.Z
open Go Go.Proofs Go.RowKit Go.Conc Go.Maps
theorem lit170 (f:Nat→Value):((List.range 170).map f).toArray=#[f 0,f 1,f 2,f 3,f 4,f 5,f 6,f 7,f 8,f 9,f 10,f 11,f 12,f 13,f 14,f 15,f 16,f 17,f 18,f 19,f 20,f 21,f 22,f 23,f 24,f 25,f 26,f 27,f 28,f 29,f 30,f 31,f 32,f 33,f 34,f 35,f 36,f 37,f 38,f 39,f 40,f 41,f 42,f 43,f 44,f 45,f 46,f 47,f 48,f 49,f 50,f 51,f 52,f 53,f 54,f 55,f 56,f 57,f 58,f 59,f 60,f 61,f 62,f 63,f 64,f 65,f 66,f 67,f 68,f 69,f 70,f 71,f 72,f 73,f 74,f 75,f 76,f 77,f 78,f 79,f 80,f 81,f 82,f 83,f 84,f 85,f 86,f 87,f 88,f 89,f 90,f 91,f 92,f 93,f 94,f 95,f 96,f 97,f 98,f 99,f 100,f 101,f 102,f 103,f 104,f 105,f 106,f 107,f 108,f 109,f 110,f 111,f 112,f 113,f 114,f 115,f 116,f 117,f 118,f 119,f 120,f 121,f 122,f 123,f 124,f 125,f 126,f 127,f 128,f 129,f 130,f 131,f 132,f 133,f 134,f 135,f 136,f 137,f 138,f 139,f 140,f 141,f 142,f 143,f 144,f 145,f 146,f 147,f 148,f 149,f 150,f 151,f 152,f 153,f 154,f 155,f 156,f 157,f 158,f 159,f 160,f 161,f 162,f 163,f 164,f 165,f 166,f 167,f 168,f 169]:=by rfl
theorem arr170 {T:Array Value} (h:T.size=170):∃ f:Nat→Value,T=#[f 0,f 1,f 2,f 3,f 4,f 5,f 6,f 7,f 8,f 9,f 10,f 11,f 12,f 13,f 14,f 15,f 16,f 17,f 18,f 19,f 20,f 21,f 22,f 23,f 24,f 25,f 26,f 27,f 28,f 29,f 30,f 31,f 32,f 33,f 34,f 35,f 36,f 37,f 38,f 39,f 40,f 41,f 42,f 43,f 44,f 45,f 46,f 47,f 48,f 49,f 50,f 51,f 52,f 53,f 54,f 55,f 56,f 57,f 58,f 59,f 60,f 61,f 62,f 63,f 64,f 65,f 66,f 67,f 68,f 69,f 70,f 71,f 72,f 73,f 74,f 75,f 76,f 77,f 78,f 79,f 80,f 81,f 82,f 83,f 84,f 85,f 86,f 87,f 88,f 89,f 90,f 91,f 92,f 93,f 94,f 95,f 96,f 97,f 98,f 99,f 100,f 101,f 102,f 103,f 104,f 105,f 106,f 107,f 108,f 109,f 110,f 111,f 112,f 113,f 114,f 115,f 116,f 117,f 118,f 119,f 120,f 121,f 122,f 123,f 124,f 125,f 126,f 127,f 128,f 129,f 130,f 131,f 132,f 133,f 134,f 135,f 136,f 137,f 138,f 139,f 140,f 141,f 142,f 143,f 144,f 145,f 146,f 147,f 148,f 149,f 150,f 151,f 152,f 153,f 154,f 155,f 156,f 157,f 158,f 159,f 160,f 161,f 162,f 163,f 164,f 165,f 166,f 167,f 168,f 169]:=⟨fun i=>T.getD i undef,(arrN h).trans (lit170 _)⟩
noncomputable def b4:Code:=Tryz.f4.body.getD .skip
noncomputable def e4_0:Code:=fC b4
noncomputable def e4_1:Code:=fC (sC b4)
noncomputable def e4_2:Code:=fC (sC (sC b4))
noncomputable def e4_3:Code:=fC (sC (sC (sC b4)))
noncomputable def e4_5:Code:=fC (sC (sC (sC (sC b4))))
noncomputable def e4_6:Code:=fC (sC (sC (sC (sC (sC b4)))))
noncomputable def ops4:Array Oper:=opsOf (fC (sC (sC (sC (sC (sC (sC b4)))))))
noncomputable def tail4:Code:=sC (sC (sC (sC (sC (sC (sC b4))))))
theorem b4_eq:b4=.seq e4_0 (.seq e4_1 (.seq e4_2 (.seq e4_3 (.seq e4_5 (.seq e4_6 (.seq (.region 7 ops4 false) tail4)))))):=by kernel_rfl
theorem body4:Tryz.f4.body=some b4:=by kernel_rfl
section
variable {w:World} {f:Nat→Value} {ga:Option Addr} {fs:List FactD} {cap:Nat} {pl:List Nat} {cb:Nat} {v:Value} {K:Int} {d:Deferred}
set_option maxRecDepth 100000 in
set_option maxHeartbeats 4000000 in
theorem tail4_nil (hn:fs=[]) (hv:∃ va vc,v=.slice va 0 vc) :
  tail4.wp Tryz.prog (fun e a w'=>e=.ret∧a.defers=[d]∧a.tmps.size=170∧(a.tmps[1]?=some (f 1)∧a.tmps[34]?=some (f 34))∧a.tmps[4]?=some (.bool true)∧w'.heap=w.heap) ⟨#[f 0,f 1,f 2,f 3,f 4,pt cb,f 6,f 7,.slice ga fs.length cap,.nilIface,v,.nilIface,f 12,f 13,f 14,f 15,f 16,f 17,f 18,f 19,f 20,f 21,f 22,f 23,f 24,f 25,f 26,f 27,f 28,f 29,f 30,f 31,f 32,f 33,f 34,f 35,f 36,f 37,f 38,f 39,f 40,f 41,f 42,f 43,f 44,f 45,f 46,f 47,f 48,f 49,f 50,f 51,f 52,f 53,f 54,f 55,f 56,f 57,f 58,f 59,f 60,f 61,f 62,f 63,f 64,f 65,f 66,f 67,f 68,f 69,f 70,f 71,f 72,f 73,f 74,f 75,f 76,f 77,f 78,f 79,f 80,f 81,f 82,f 83,f 84,f 85,f 86,f 87,f 88,f 89,f 90,f 91,f 92,f 93,f 94,f 95,f 96,f 97,f 98,f 99,f 100,f 101,f 102,f 103,f 104,f 105,f 106,f 107,f 108,f 109,f 110,f 111,f 112,f 113,f 114,f 115,f 116,f 117,f 118,f 119,f 120,f 121,f 122,f 123,f 124,f 125,f 126,f 127,f 128,f 129,f 130,f 131,f 132,f 133,f 134,f 135,f 136,f 137,f 138,f 139,f 140,f 141,f 142,f 143,f 144,f 145,f 146,f 147,f 148,f 149,f 150,f 151,f 152,f 153,f 154,f 155,f 156,f 157,f 158,f 159,f 160,f 161,f 162,f 163,f 164,f 165,f 166,f 167,f 168,f 169],[d]⟩ w:=by
 obtain ⟨va,vc,rfl⟩:=hv
 subst hn
 simp only [tail4,b4,sC,Tryz.f4,Option.getD_some,List.length_nil]
 go_wp2
set_option maxRecDepth 100000 in
set_option maxHeartbeats 16000000 in
theorem tail4_wp {g gl vc lc:Nat} {ls:List Int} (hn:0<fs.length) (hn2:fs.length≤1000) (hF:FsAt false w ga fs cap pl) (h64:∀ x∈fs,I64 x.it)
  (hc:w.cell? ⟨cb,2,none⟩=some (.int .i64 K)) (hg:w.cell? ⟨g,4,none⟩=some (.slice (some ⟨gl,0,none⟩) ls.length lc)) (hr:Row false w gl 45 .u64 ls lc)
  (hl0:0<ls.length) (hlK:(ls.length:Int)≤K) (hK:K≤8) (hrise:Rise ls) (hls:∀ x∈ls,∃ y∈fs,IntKind.u64.wrap y.it=x)
  (hin:∀ y∈fs,IntKind.u64.wrap y.it∈ls∨(¬ (ls.length:Int)<K∧∀ x∈ls,x<IntKind.u64.wrap y.it)) (hv:v=.slice (some ⟨g,0,none⟩) 1 vc) :
  tail4.wp Tryz.prog (fun e a w'=>e=.ret∧a.defers=[d]∧a.tmps.size=170∧(a.tmps[1]?=some (f 1)∧a.tmps[34]?=some (f 34))∧a.tmps[4]?=some (.bool true)∧w'.heap=w.heap) ⟨#[f 0,f 1,f 2,f 3,f 4,pt cb,f 6,f 7,.slice ga fs.length cap,.nilIface,v,.nilIface,f 12,f 13,f 14,f 15,f 16,f 17,f 18,f 19,f 20,f 21,f 22,f 23,f 24,f 25,f 26,f 27,f 28,f 29,f 30,f 31,f 32,f 33,f 34,f 35,f 36,f 37,f 38,f 39,f 40,f 41,f 42,f 43,f 44,f 45,f 46,f 47,f 48,f 49,f 50,f 51,f 52,f 53,f 54,f 55,f 56,f 57,f 58,f 59,f 60,f 61,f 62,f 63,f 64,f 65,f 66,f 67,f 68,f 69,f 70,f 71,f 72,f 73,f 74,f 75,f 76,f 77,f 78,f 79,f 80,f 81,f 82,f 83,f 84,f 85,f 86,f 87,f 88,f 89,f 90,f 91,f 92,f 93,f 94,f 95,f 96,f 97,f 98,f 99,f 100,f 101,f 102,f 103,f 104,f 105,f 106,f 107,f 108,f 109,f 110,f 111,f 112,f 113,f 114,f 115,f 116,f 117,f 118,f 119,f 120,f 121,f 122,f 123,f 124,f 125,f 126,f 127,f 128,f 129,f 130,f 131,f 132,f 133,f 134,f 135,f 136,f 137,f 138,f 139,f 140,f 141,f 142,f 143,f 144,f 145,f 146,f 147,f 148,f 149,f 150,f 151,f 152,f 153,f 154,f 155,f 156,f 157,f 158,f 159,f 160,f 161,f 162,f 163,f 164,f 165,f 166,f 167,f 168,f 169],[d]⟩ w:=by
 subst hv
 obtain ⟨m,hm⟩:∃ m,fs.length=m:=⟨_,rfl⟩
 obtain ⟨n,hnn⟩:∃ n,ls.length=n:=⟨_,rfl⟩
 rw [hm] at hn hn2 ⊢
 rw [hnn] at hg hl0 hlK hin
 have hcell:∀ wr:World,wr.heap=w.heap→∀ i,i<n→wr.cell? ⟨gl,i,none⟩=some (.int .u64 (ls.getD i 0)):=fun wr hw i hi=>(World.cell?_of_block (w:=w) (by rw [hw])).trans (hr.cell (hnn▸hi))
 have hcc:∀ wr:World,wr.heap=w.heap→wr.cell? ⟨cb,2,none⟩=some (.int .i64 K):=fun wr hw=>(World.cell?_of_block (w:=w) (by rw [hw])).trans hc
 have hgc:∀ wr:World,wr.heap=w.heap→wr.cell? ⟨g,4,none⟩=some (.slice (some ⟨gl,0,none⟩) n lc):=fun wr hw=>(World.cell?_of_block (w:=w) (by rw [hw])).trans hg
 have hfc:∀ i,i<m→∃ y g',fs[i]?=some y∧ga=some ⟨g',0,none⟩∧∀ wr:World,wr.heap=w.heap→wr.cell? ⟨g',i*3+1,none⟩=some (.int .i64 y.it):=fun i hi=>by
  obtain ⟨g',kb,kc,h1,h2,h3,h4⟩:=hF.at_ i (fs[i]'(by omega)) (List.getElem?_eq_getElem _)
  exact ⟨_,g',List.getElem?_eq_getElem _,h1,fun wr hw=>(World.cell?_of_block (w:=w) (by rw [hw])).trans h4.ci⟩
 have hinc:∀ i,0<i→i<n→ls.getD (i-1) 0<ls.getD i 0:=fun i h0 hi=>by
  have:=List.pairwise_iff_getElem.1 hrise (i-1) i (by omega) (by omega) (by omega)
  simpa [List.getD_eq_getElem?_getD,show i<ls.length by omega,show i-1<ls.length by omega] using this
 have hgd:∀ i,i<n→ls.getD i 0∈ls:=fun i hi=>by
  rw [List.getD_eq_getElem?_getD,List.getElem?_eq_getElem (by omega)]
  exact List.getElem_mem _
 have hfl:=hF.cap
 rw [hm] at hfl
 have h0:=hgc w rfl
 obtain ⟨y0,g0,hy0,rfl,_⟩:=hfc 0 (by omega)
 have hfc:∀ i,i<m→∃ y,fs[i]?=some y∧∀ wr:World,wr.heap=w.heap→wr.cell? ⟨g0,i*3+1,none⟩=some (.int .i64 y.it):=fun i hi=>by
  obtain ⟨y,g',h1,h2,h3⟩:=hfc i hi
  cases h2
  exact ⟨y,h1,h3⟩
 clear hr hF hc hg hrise hgc hy0
 have hm0:(0:Int)<m:=by omega
 have hm1:¬ (m:Int)=0:=by omega
 have hl1:(0:Int)<n:=by omega
 simp only [tail4,b4,sC,Tryz.f4,Option.getD_some]
 go_wp2
 clear h0
 go_loopw [13] (fun i wr=>∃ k:Nat,1≤k∧k≤n∧i=.int .i64 k∧wr.heap=w.heap) (fun i _=>n-(RowKit.intOf i).toNat)
 case atStart=>exact ⟨1,by omega,by omega,rfl,rfl⟩
 case round=>
  obtain ⟨k,hk1,hk,rfl,hw⟩:=hrel
  rcases Nat.lt_or_ge k n with hlt|hge
  ·have g1:=hcell _ hw (k-1) (by omega)
   have g2:=hcell _ hw k hlt
   have hi:=hinc k hk1 hlt
   have hk2:(k:Int)-1=((k-1:Nat):Int):=by omega
   have hlt':(k:Int)<n:=by omega
   have hi':¬ (ls.getD (k-1) 0≥ls.getD k 0):=by omega
   generalize ls.getD (k-1) 0=x at *
   generalize ls.getD k 0=y at *
   clear hcell hcc hfc hinc hgd hin hls
   go_wp2
   go_region
   go_wp2
   refine ⟨⟨k+1,by omega,by omega,by go_num,hw⟩,by simp [RowKit.intOf];omega⟩
  ·obtain rfl:k=n:=by omega
   have hge':¬ ((k:Int)<k):=by omega
   clear hinc hk1 hge hk
   go_wp2
   go_loopw [14] (fun i wr=>∃ a:Nat,a≤m∧i=.int .i64 a∧wr.heap=w.heap) (fun i _=>m-(RowKit.intOf i).toNat)
   case atStart=>exact ⟨0,by omega,rfl,hw⟩
   case round=>
    obtain ⟨a,ha,rfl,hw2⟩:=hrel
    rcases Nat.lt_or_ge a m with hlt|hge
    ·obtain ⟨y,hy,hyc⟩:=hfc a hlt
     have q1:=hyc _ hw2
     have hym:=List.mem_of_getElem? hy
     have hyin:=hin y hym
     have hlt':(a:Int)<m:=by omega
     clear hfc hin hls
     go_wp2
     generalize hh:IntKind.u64.wrap y.it=h at *
     go_loopw [16,17] (fun b i wr2=>∃ j:Nat,j≤k∧i=.int .i64 j∧b=.bool (decide (∃ e,e<j∧ls.getD e 0=h))∧wr2.heap=w.heap) (fun _ i _=>k-(RowKit.intOf i).toNat)
     case atStart=>exact ⟨0,by omega,rfl,by simp,hw2⟩
     case round=>
      obtain ⟨j,hj,rfl,rfl,hw3⟩:=hrel
      rcases Nat.lt_or_ge j k with hlt|hge
      ·have q2:=hcell _ hw3 j hlt
       have hlt2:(j:Int)<k:=by omega
       have hstep:(∃ e,e<j+1∧ls.getD e 0=h)↔(∃ e,e<j∧ls.getD e 0=h)∨ls.getD j 0=h:=by
        constructor
        ·rintro ⟨e,he,h1⟩
         rcases Nat.lt_or_ge e j with h2|h2
         ·exact .inl ⟨e,h2,h1⟩
         ·obtain rfl:e=j:=by omega
          exact .inr h1
        ·rintro (⟨e,he,h1⟩|h1)
         ·exact ⟨e,by omega,h1⟩
         ·exact ⟨j,by omega,h1⟩
       generalize ls.getD j 0=z at *
       clear hcell hcc hgd q1 hyc hyin
       by_cases hb:∃ e,e<j∧ls.getD e 0=h
       ·simp only [hb,decide_true]
        go_wp2
        refine ⟨⟨j+1,by omega,by go_num,?_,hw3⟩,by simp [RowKit.intOf];omega⟩
        rw [decide_eq_true (hstep.2 (.inl hb))]
       ·simp only [hb,decide_false]
        go_wp2
        refine ⟨⟨j+1,by omega,by go_num,?_,hw3⟩,by simp [RowKit.intOf];omega⟩
        by_cases hz:z=h
        ·rw [decide_eq_true (hstep.2 (.inr hz)),hz]
         simp
        ·rw [decide_eq_false (fun x=>(hstep.1 x).elim hb hz)]
         simp [hz]
      ·obtain rfl:j=k:=by omega
       have q3:=hcc _ hw3
       have q4:=hcell _ hw3 (j-1) (by omega)
       have hk2:(j:Int)-1=((j-1:Nat):Int):=by omega
       have hmem:(∃ e,e<j∧ls.getD e 0=h)↔h∈ls:=by
        constructor
        ·rintro ⟨e,he,rfl⟩
         exact hgd e he
        ·intro hm
         obtain ⟨e,he,rfl⟩:=List.getElem_of_mem hm
         exact ⟨e,by omega,by rw [List.getD_eq_getElem?_getD,List.getElem?_eq_getElem he];rfl⟩
       have hlast:=hgd (j-1) (by omega)
       clear hcell hcc hgd q1 hyc
       by_cases hb:h∈ls
       ·rw [decide_eq_true (hmem.2 hb)]
        go_wp2
        refine ⟨⟨a+1,by omega,by go_num,hw3⟩,by simp [RowKit.intOf];omega⟩
       ·rw [decide_eq_false (fun x=>hb (hmem.1 x))]
        obtain ⟨h1,h2⟩:=hyin.resolve_left hb
        have h3:=h2 _ hlast
        have h4:¬ (h<ls.getD (j-1) 0):=by omega
        generalize ls.getD (j-1) 0=z at *
        clear hyin h2 hlast h3
        go_wp2
        refine ⟨⟨a+1,by omega,by go_num,hw3⟩,by simp [RowKit.intOf];omega⟩
    ·obtain rfl:a=m:=by omega
     have hge':¬ ((a:Int)<a):=by omega
     clear hin hge ha
     go_wp2
     go_loopw [18] (fun i wr=>∃ b:Nat,b≤k∧i=.int .i64 b∧wr.heap=w.heap) (fun i _=>k-(RowKit.intOf i).toNat)
     case atStart=>exact ⟨0,by omega,rfl,hw2⟩
     case round=>
      obtain ⟨b,hb,rfl,hw3⟩:=hrel
      rcases Nat.lt_or_ge b k with hlt|hge
      ·have hlt':(b:Int)<k:=by omega
       have hx:=hls _ (hgd b hlt)
       have q5:∀ wr:World,wr.heap=w.heap→wr.cell? ⟨gl,b,none⟩=some (.int .u64 (ls.getD b 0)):=fun wr h=>hcell _ h b hlt
       generalize ls.getD b 0=x at *
       clear hcell hcc hgd hls
       go_wp2
       go_loopw [19,20] (fun c i wr2=>∃ j:Nat,j≤a∧i=.int .i64 j∧c=.bool ((fs.take j).any fun y=>decide (IntKind.u64.wrap y.it=x))∧wr2.heap=w.heap) (fun _ i _=>a-(RowKit.intOf i).toNat)
       case atStart=>exact ⟨0,by omega,rfl,by simp,hw3⟩
       case round=>
        obtain ⟨j,hj,rfl,rfl,hw4⟩:=hrel
        rcases Nat.lt_or_ge j a with hlt|hge
        ·obtain ⟨y,hy,hyc⟩:=hfc j hlt
         have q1:=hyc _ hw4
         have q6:=q5 _ hw4
         have hlt2:(j:Int)<a:=by omega
         have hstep:((fs.take (j+1)).any fun y=>decide (IntKind.u64.wrap y.it=x))=(((fs.take j).any fun y=>decide (IntKind.u64.wrap y.it=x)) || decide (IntKind.u64.wrap y.it=x)):=by
          rw [List.take_add_one,hy,List.any_append];simp
         clear hfc hyc q5 hx
         generalize hB:((fs.take j).any fun y=>decide (IntKind.u64.wrap y.it=x))=B at *
         clear hB
         cases B
         ·generalize hz:IntKind.u64.wrap y.it=z at *
          go_wp2
          go_region
          go_wp2
          refine ⟨⟨j+1,by omega,by go_num,?_,hw4⟩,by simp [RowKit.intOf];omega⟩
          rw [hstep,Bool.false_or]
          by_cases e:z=x
          ·simp [e]
          ·simp [e]
         ·clear q1 q6
          go_wp2
          go_region
          go_wp2
          refine ⟨⟨j+1,by omega,by go_num,?_,hw4⟩,by simp [RowKit.intOf];omega⟩
          rw [hstep,Bool.true_or]
        ·obtain rfl:j=a:=by omega
         have hfin:((fs.take j).any fun y=>decide (IntKind.u64.wrap y.it=x))=true:=by
          obtain ⟨y,hy,h1⟩:=hx
          rw [List.take_of_length_le (by omega),List.any_eq_true]
          exact ⟨y,hy,by simp [h1]⟩
         clear hfc hx q5
         rw [hfin]
         go_wp2
         refine ⟨⟨b+1,by omega,by go_num,hw4⟩,by simp [RowKit.intOf];omega⟩
      ·obtain rfl:b=k:=by omega
       have hge':¬ ((b:Int)<b):=by omega
       have q3:=hcc _ hw3
       clear hcell hcc hgd hls hfc
       go_wp2
end
theorem stepG_last {P:Program} {fn:FuncId} {f:Func} {t:Array Value} {todo:List Item} {x:Tmp} {w:World} (hf:P.funcs[fn]?=some f) (hr:f.results=#[.tmp x]) (hi:P.inits.idxOf? fn=none) :
  stepG P true (G { (Go.Conc.base fn).at ⟨t,[]⟩ todo with mode:=.returning } []) w=.ended (.done (t.getD x undef)) w #[]:=by
 have h1:=results_tmp hr t P w
 have h2:=events_results_tmp (P:=P) (w:=w) hr t #[]
 simp only [G,stepG,unwind,Frame.at,Go.Conc.base,hf,Sem.runT_eq,h1,h2,doReturn,hi,GStep.after]
 simp [seen_none]
def cfgN (c:Int) (n:Nat):CfgD:=⟨4+pickZ c 1048576 % 3,1+pickZ c 1048576 / 3 % 8,some ⟨n,0,none⟩,4,4⟩
theorem cfgN_ok (c:Int) (n:Nat):CfgOk (cfgN c n):=by
 have:=pickZ_bd (c:=c) (n:=1048576) (by omega)
 refine ⟨?_,?_,?_,?_,?_⟩<;>simp only [cfgN]<;>omega
theorem bnds_so':bnds.Pairwise (· < ·):=by decide
section
variable {w:World} {T:Array Value} {d:Deferred} {c:Int} {sl:Value} {la ga:Option Addr} {n cb x cap lc:Nat}
set_option maxRecDepth 100000 in
theorem e4_0_any (hsz:T.size=170) (h0:T[0]?=some (.int .i64 c)) (h1:T[1]?=some sl) :
  e4_0.wp Tryz.prog (fun e a w'=>e=.normal∧a.defers=[d]∧a.tmps.size=170∧(a.tmps[1]?=T[1]?∧a.tmps[34]?=T[34]?)∧a.tmps[0]?=some (.int .i64 c)∧a.tmps[1]?=some sl∧w'.heap=w.heap) ⟨T,[d]⟩ w:=by
 obtain ⟨f,rfl⟩:=arr170 hsz
 have e0:f 0=_:=Option.some.inj h0
 have e1:f 1=_:=Option.some.inj h1
 rw [e0,e1]
 simp only [e4_0,b4,fC,Tryz.f4,Option.getD_some]
 go_wp2
set_option maxRecDepth 100000 in
theorem e4_1_any (hc:I64 c) (hsz:T.size=170) (h0:T[0]?=some (.int .i64 c)) (h1:T[1]?=some sl) :
  e4_1.wp Tryz.prog (fun e a w'=>e=.normal∧a.defers=[d]∧a.tmps.size=170∧(a.tmps[1]?=T[1]?∧a.tmps[34]?=T[34]?)∧a.tmps[1]?=some sl∧a.tmps[5]?=some (pt (w.heap.size+2))∧Blk false w' (w.heap.size+2) (cfgV (cfgN c (w.heap.size+1)) 3 c) 35∧Row false w' (w.heap.size+1) 3 .i64 bnds 4∧Tch w.heap.size M0 w w') ⟨T,[d]⟩ w:=by
 obtain ⟨f,rfl⟩:=arr170 hsz
 have e0:f 0=_:=Option.some.inj h0
 have e1:f 1=_:=Option.some.inj h1
 rw [e0,e1]
 have hcf:=config_calls hc w
 simp only [e4_1,b4,fC,sC,Tryz.f4,Option.getD_some]
 go_wp2_with (go_at_call 10;refine hcf.mono ?_;rintro e w1 ⟨rfl,rfl⟩)
 obtain ⟨W1,hW1⟩:∃ W1,w.alloc (.cells #[.int .i64 3,.int .i64 (4+pickZ c 1048576 % 3),.int .i64 (1+pickZ c 1048576 / 3 % 8),.slice (some ⟨w.heap.size+1,0,none⟩) 4 4,.int .i64 c] 35)=W1:=⟨_,rfl⟩
 have z1:W1.heap.size=w.heap.size+1:=by rw [← hW1,size_alloc]
 obtain ⟨W2,hW2⟩:∃ W2,W1.alloc (.cells #[.int .i64 (-5),.int .i64 0,.int .i64 10,.int .i64 1000] 3)=W2:=⟨_,rfl⟩
 have z2:W2.heap.size=w.heap.size+2:=by rw [← hW2,size_alloc,z1]
 have hr:=heap_new (w:=W1) (.cells #[.int .i64 (-5),.int .i64 0,.int .i64 10,.int .i64 1000] 3)
 rw [hW2,z1] at hr
 simp only [hW1,hW2]
 refine ⟨⟨(0,0),by have:=heap_new (w:=W2) (.cells (cfgV (cfgN c (w.heap.size+1)) 3 c) 35);rw [z2] at this;exact this,fun _=>rfl⟩,⟨#[.int .i64 (-5),.int .i64 0,.int .i64 10,.int .i64 1000],⟨(0,0),(heap_old _ (by omega)).trans hr,fun _=>rfl⟩,rfl,by decide,fun i hi=>?_,fun v hv=>?_⟩,?_⟩
 ·match i,(show i<4 from hi) with
  | 0,_|1,_|2,_|3,_=>rfl
 ·simp only [List.mem_cons,List.not_mem_nil,or_false] at hv
  rcases hv with rfl|rfl|rfl|rfl<;>exact ⟨_,_,rfl⟩
 ·rw [← hW2,← hW1]
  exact ((Tch.refl.alloc (Nat.le_refl _) _).alloc (by rw [size_alloc];omega) _).alloc (by rw [size_alloc,size_alloc];omega) _
set_option maxRecDepth 100000 in
set_option maxHeartbeats 4000000 in
theorem e4_2_any {fr:Bool} {cf:CfgD} {bb capb:Nat} {bs:List Int} {seed:Int} (hc:CfgOk cf) (hr:Row fr w bb 3 .i64 bs capb) (hba:cf.ba=some ⟨bb,0,none⟩) (hnb:cf.nb=bs.length) (hp:bs.Pairwise (· < ·)) (hb:Blk false w cb (cfgV cf 3 seed) 35) (hsz:T.size=170) (h1:T[1]?=some sl) (h5:T[5]?=some (pt cb)) :
  e4_2.wp Tryz.prog (fun e a w'=>e=.normal∧a.defers=[d]∧a.tmps.size=170∧(a.tmps[1]?=T[1]?∧a.tmps[34]?=T[34]?)∧a.tmps[1]?=some sl∧a.tmps[5]?=some (pt cb)∧∃ x,a.tmps[6]?=some (pt x)∧a.tmps[7]?=some .nilIface∧NewAt w cf seed h49 bs (.returned (.tuple #[pt x,.nilIface])) w') ⟨T,[d]⟩ w:=by
 obtain ⟨f,rfl⟩:=arr170 hsz
 have e1:f 1=_:=Option.some.inj h1
 have e5:f 5=_:=Option.some.inj h5
 rw [e1,e5]
 have hn:=pnew_one (seed:=seed) hc hr hba hnb hp 0
 obtain ⟨q0,q1,q2,q3,q4⟩:=Blk.five hb
 unfold cfgV at hn
 clear hba hnb hr hp hc hb
 simp only [e4_2,b4,fC,sC,Tryz.f4,Option.getD_some]
 go_wp2_with (go_at_call 12;refine hn.mono ?_;rintro e w1 hN;have hN':=hN;obtain ⟨⟨x,vm,base,b2,c2,rfl,_⟩,_⟩:=hN)
set_option maxRecDepth 100000 in
theorem e4_3_any (hsz:T.size=170) (h1:T[1]?=some sl) (h5:T[5]?=some (pt cb)) (h6:T[6]?=some (pt x)) (h7:T[7]?=some .nilIface) :
  e4_3.wp Tryz.prog (fun e a w'=>e=.normal∧a.defers=[d]∧a.tmps.size=170∧(a.tmps[1]?=T[1]?∧a.tmps[34]?=T[34]?)∧a.tmps[1]?=some sl∧a.tmps[5]?=some (pt cb)∧a.tmps[6]?=some (pt x)∧w'.heap=w.heap) ⟨T,[d]⟩ w:=by
 obtain ⟨f,rfl⟩:=arr170 hsz
 have e1:f 1=_:=Option.some.inj h1
 have e5:f 5=_:=Option.some.inj h5
 have e6:f 6=_:=Option.some.inj h6
 have e7:f 7=_:=Option.some.inj h7
 rw [e1,e5,e6,e7]
 simp only [e4_3,b4,fC,sC,Tryz.f4,Option.getD_some]
 go_wp2
set_option maxRecDepth 100000 in
theorem e4_6_any {fs:List FactD} {c2:Nat} {R:World→Prop} (hI:Calls Tryz.prog 13 #[pt x,.slice ga fs.length c2] w fun e w'=>e=.returned .nilIface∧R w') (hsz:T.size=170) (h5:T[5]?=some (pt cb)) (h6:T[6]?=some (pt x)) (h8:T[8]?=some (.slice ga fs.length c2)) :
  e4_6.wp Tryz.prog (fun e a w'=>e=.normal∧a.defers=[d]∧a.tmps.size=170∧(a.tmps[1]?=T[1]?∧a.tmps[34]?=T[34]?)∧a.tmps[5]?=some (pt cb)∧a.tmps[6]?=some (pt x)∧a.tmps[8]?=some (.slice ga fs.length c2)∧a.tmps[9]?=some .nilIface∧R w') ⟨T,[d]⟩ w:=by
 obtain ⟨f,rfl⟩:=arr170 hsz
 have e5:f 5=_:=Option.some.inj h5
 have e6:f 6=_:=Option.some.inj h6
 have e8:f 8=_:=Option.some.inj h8
 rw [e5,e6,e8]
 simp only [e4_6,b4,fC,sC,Tryz.f4,Option.getD_some]
 go_wp2_with (go_at_call 13;refine hI.mono ?_;rintro e w1 ⟨rfl,hR⟩)
 exact hR
end
end Go.Sim.Z
