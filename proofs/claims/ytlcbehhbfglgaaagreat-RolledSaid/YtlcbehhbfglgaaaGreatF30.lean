/- PROVED HERE: laws. Conditions: none. -/
import Derived.Test.YtlcbehhbfglgaaaGreatF29
set_option linter.all false
set_option maxHeartbeats 1000000
namespace Go.Sim.Z
open Go Go.Proofs Go.RowKit
theorem J5n {α:Type} {motive:List α->Prop} (l:List α) (nil:motive []) (append_singleton:∀ l a,motive l->motive (l++[a])):motive l:=by
 have:∀ n,∀ l:List α,l.length=n->motive l:=by
  intro n
  induction n with
  | zero=>intro l h;rw [List.length_eq_zero_iff.1 h];exact nil
  | succ n ih=>
   intro l h;have hne:l≠[]:=by intro e;rw [e] at h;cases h
   rw [<- List.dropLast_concat_getLast hne];exact append_singleton _ _ (ih _ (by simp [h]))
 exact this _ l rfl
def Jq (c:J8) (bs:List Int) (A:List (Int × Int)):Bun:=A.foldl (fun B f=>J5g c bs B f.1 f.2) (J67 c)
def J1c (c:J8) (bs:List Int) (A:List (Int × Int)):Option Bun:=if A=[] then none else some (Jq c bs A)
def J0w (A:List (Int × Int)):Prop:=∀ f∈A,0<=f.1/\f.1<=18446744073709551615
theorem Jgf {x:Int} (h:I64 x):wrap64 x=x:=by unfold I64 at h;unfold wrap64;omega
section
variable {c:J8} {bs:List Int} {a b:Bun} {A B:List (Int × Int)}
theorem J3o (f:Int × Int):Jq c bs (A++[f])=J5g c bs (Jq c bs A) f.1 f.2:=by simp [Jq]
theorem J5f.J046 (h:Jl c b):J5f c b:=⟨h.r,h.r8,h.h,h.h64,h.l,h.lK,h.l64,h.n64⟩
theorem J88 (hc:Jw c) (hbs:bs.length=c.nb) (hA:J0w A):J5f c (Jq c bs A)/\(A≠[]->Jl c (Jq c bs A)):=by
 induction A using J5n with
 | nil=>exact ⟨Jf4 hc,fun h=>absurd rfl h⟩
 | append_singleton A f ih=>
  have h1:=(ih fun g hg=>hA g (by simp [hg])).1;have h2:=h1.add hc hbs (hA f (by simp)) f.2;rw [J3o];exact ⟨.J046 h2,fun _=>h2⟩
theorem Jgg:∀ {l:List Int} {n:Nat},l.length=n->(∀ x∈l,0<=x)->maxL l (List.replicate n 0)=l
 | [],_,h,_=>by cases h;rfl
 | x::l,n+1,h,hp=>by have:=Jgg (l:=l) (n:=n) (by simpa using h) fun y hy=>hp y (by simp [hy]);have hx:=hp x (by simp);unfold maxL at this ⊢;rw [List.replicate_succ,List.zipWith_cons_cons,this,Int.max_eq_left hx]
theorem Jgh:∀ {l:List Int} {n:Nat},l.length=n->(∀ x∈l,I64 x)->J0n l (List.replicate n 0)=l
 | [],_,h,_=>by cases h;rfl
 | x::l,n+1,h,hp=>by have:=Jgh (l:=l) (n:=n) (by simpa using h) fun y hy=>hp y (by simp [hy]);have hx:=hp x (by simp);unfold J0n at this ⊢;rw [List.replicate_succ,List.zipWith_cons_cons,this,Int.add_zero,Jgf hx]
theorem Jyz (ha:J5f c a):mg c a (J67 c)=a:=by obtain ⟨n,r,h,l⟩:=a;have h1:=ha.n64;have h2:=Jgg ha.r fun x hx=>(ha.r8 x hx).1;have h3:=Jgh ha.h ha.h64;simp only at h1 h2 h3;unfold mg J67;simp only [Int.add_zero,Jgf h1,h2,h3];rfl
theorem Jji:∀ {a b:List Int} {i:Nat} {y:Int},a.length=b.length->i<b.length->maxL a (b.set i (max (b.getD i 0) y))=(maxL a b).set i (max ((maxL a b).getD i 0) y)
 | [],[],_,_,_,h=>by simp at h
 | p::a,q::b,0,y,_,_=>by simp [maxL,Int.max_assoc]
 | p::a,q::b,i+1,y,h,hi=>by have:=Jji (a:=a) (b:=b) (i:=i) (y:=y) (by simpa using h) (by simpa using hi);unfold maxL at this ⊢;simpa using this
theorem Jjj:∀ {a b:List Int} {i:Nat},a.length=b.length->i<b.length->J0n a (b.set i (wrap64 (b.getD i 0+1)))=(J0n a b).set i (wrap64 ((J0n a b).getD i 0+1))
 | [],[],_,_,h=>by simp at h
 | p::a,q::b,0,_,_=>by
  simp only [J0n,List.set_cons_zero,List.zipWith_cons_cons,List.getD_cons_zero,List.cons.injEq,and_true];unfold wrap64;omega
 | p::a,q::b,i+1,h,hi=>by have:=Jjj (a:=a) (b:=b) (i:=i) (by simpa using h) (by simpa using hi);unfold J0n at this ⊢;simpa using this
theorem Jni {K:Int} {x:Int} {a b:List Int} (ha:J15 a) (hb:J15 b) (ka:(a.length:Int)<=K) (kb:(b.length:Int)<=K):J0v K a (J0l K b x)=J0l K (J0v K a b) x:=by
 have h1:=J31 hb kb x;have h2:=J44 (b:=b) ha ka;rw [J7l ha h1.1 ka h1.2,J1b h1.1 h1.2,J43 hb kb,J5e,J43 h2.1 h2.2,J1b ha ka,J9b];congr 1;refine J8g (J2e (J5x hb)) (J5x (J2e ha)) fun z=>?_;rw [J4r,J4l,J4l,J4r];constructor
 ·rintro ((h|h)|h)
  ·exact .inl h
  ·exact .inr (.inr h)
  ·exact .inr (.inl h)
 ·rintro (h|h|h)
  ·exact .inl (.inl h)
  ·exact .inr h
  ·exact .inl (.inr h)
theorem Jz0 (hc:Jw c) (hbs:bs.length=c.nb) (hso:bs.Pairwise (· < ·)) (ha:J5f c a) (hb:J5f c b) {x:Int} (hx:0<=x/\x<=18446744073709551615) (v:Int):mg c a (J5g c bs b x v)=J5g c bs (mg c a b) x v:=by
 unfold mg J5g;simp only;have e1:wrap64 (a.n+wrap64 (b.n+1))=wrap64 (wrap64 (a.n+b.n)+1):=by unfold wrap64;omega
 have hi:J1k c.bits x<b.r.length:=by rw [hb.r];exact Jf1 ⟨hc.b1,hc.b2⟩ hx
 have e2:maxL a.r (J2i c.bits b.r x)=J2i c.bits (maxL a.r b.r) x:=Jji (by rw [ha.r,hb.r]) hi;have hj:J1x bs v<b.h.length:=by rw [hb.h,<- hbs];exact Jhs hso v
 have e3:J0n a.h (J3s bs b.h v)=J3s bs (J0n a.h b.h) v:=Jjj (by rw [ha.h,hb.h]) hj;rw [e1,e2,e3,Jni ha.l hb.l ha.lK hb.lK]
theorem Jlf (hc:Jw c) (hbs:bs.length=c.nb) (hso:bs.Pairwise (· < ·)) (hA:J0w A) (hB:J0w B):mg c (Jq c bs A) (Jq c bs B)=Jq c bs (A++B):=by
 induction B using J5n with
 | nil=>
  rw [List.append_nil];exact Jyz (J88 hc hbs hA).1
 | append_singleton B f ih=>
  have hB':J0w B:=fun g hg=>hB g (by simp [hg]);rw [J3o,Jz0 hc hbs hso (J88 hc hbs hA).1 (J88 hc hbs hB').1 (hB f (by simp)),ih hB',<- List.append_assoc,J3o]
theorem Jwb (hc:Jw c) (hbs:bs.length=c.nb) (hso:bs.Pairwise (· < ·)) (hA:J0w A) (hB:J0w B) (h:B≠[]):om c (J1c c bs A) (Jq c bs B)=J1c c bs (A++B):=by
 unfold J1c om;by_cases e:A=[]
 ·subst e;simp [h]
 ·have:A++B≠[]:=by simp [e]
  rw [if_neg e,if_neg this];simp only [Jlf hc hbs hso hA hB]
theorem Jgi (hc:Jw c) (hbs:bs.length=c.nb) (hso:bs.Pairwise (· < ·)):∀ {Ls:List (List (Int × Int))},(∀ A∈Ls,J0w A/\A≠[])->J1y c (Ls.map (Jq c bs))=J1c c bs Ls.flatten:=by
 intro Ls
 induction Ls using J5n with
 | nil=>intro _;rfl
 | append_singleton Ls A ih=>
  intro h;have h1:=ih fun B hB=>h B (by simp [hB]);have h2:=h A (by simp);rw [List.map_append,List.map_singleton,Jfz,h1,List.flatten_append,List.flatten_singleton];refine Jwb hc hbs hso (fun f hf=>?_) h2.1 h2.2;obtain ⟨B,hB,hf⟩:=List.mem_flatten.1 hf;exact (h B (by simp [hB])).1 f hf
theorem Jgj (hc:Jw c) (hbs:bs.length=c.nb) (hso:bs.Pairwise (· < ·)) (hA:J0w A) (hp:A.Perm B):J1c c bs A=J1c c bs B:=by
 have key:∀ {A:List (Int × Int)},J0w A->J1y c (A.map fun f=>Jq c bs [f])=J1c c bs A:=fun {A} hA=>by
  have:=Jgi (c:=c) (bs:=bs) hc hbs hso (Ls:=A.map fun f=>[f]) fun B hB=>by obtain ⟨f,hf,rfl⟩:=Jb3.1 hB;exact ⟨fun g hg=>by rw [List.mem_singleton.1 hg];exact hA f hf,by simp⟩
  rw [List.map_map] at this;have e:(A.map fun f=>[f]).flatten=A:=by
   clear this hp hA
   induction A with
   | nil=>rfl
   | cons f A ih=>simp [ih]
  rw [e] at this;exact this
 have hB:J0w B:=fun f hf=>hA f (hp.mem_iff.2 hf);rw [<- key hA,<- key hB];refine Jfu (hp.map _) fun b hb=>?_;obtain ⟨f,hf,rfl⟩:=Jb3.1 hb;exact (J88 hc hbs (A:=[f]) fun g hg=>by rw [List.mem_singleton.1 hg];exact hA f hf).2 (by simp)
theorem Jqh (hA:(A.length:Int)<=9223372036854775807):(Jq c bs A).n=A.length:=by
 induction A using J5n with
 | nil=>rfl
 | append_singleton A f ih=>
  rw [List.length_append,List.length_singleton] at hA ⊢;rw [J3o];show wrap64 ((Jq c bs A).n+1)=_;rw [ih (by omega)];unfold wrap64;omega
end
def sel (hs:Int->Int) (m:Nat) (k:List Int) (fs:List Jg):List (Int × Int):=(fs.filter fun f=>decide (Jb m (Js f.k) 5=k)).map fun f=>(hs f.it,f.v)
section
variable {c:J8} {bs:List Int} {hs:Int->Int} {fs:List Jg}
theorem Jjk (hh:∀ y,0<=hs y/\hs y<=18446744073709551615) (m:Nat) (k:List Int):J0w (sel hs m k fs):=fun f hf=>by obtain ⟨g,_,rfl⟩:=Jb3.1 hf;exact hh _
theorem Jt2 (m:Nat) (k:List Int) (f:Jg):sel hs m k (fs++[f])=sel hs m k fs++if Jb m (Js f.k) 5=k then [(hs f.it,f.v)] else []:=by unfold sel;rw [List.filter_append,List.map_append];by_cases e:Jb m (Js f.k) 5=k<;>simp [e]
theorem Jqi {g0:List Jg} (m:Nat) {g:List Int->Option Bun} (hg:∀ k,g k=J1c c bs (sel hs m k g0)):∀ k,J2y c bs hs m g fs k=J1c c bs (sel hs m k (g0++fs)):=by
 induction fs using J5n with
 | nil=>intro k;rw [List.append_nil];exact hg k
 | append_singleton fs f ih=>
  intro k;rw [Jdk,<- List.append_assoc,Jt2];unfold J7q;by_cases e:Jb m (Js f.k) 5=k
  ·rw [if_pos e.symm,if_pos e,ih k];unfold J1c;rw [if_neg (c:=sel hs m k (g0++fs)++_=[]) (by simp),J3o];by_cases e2:sel hs m k (g0++fs)=[]
   ·rw [if_pos e2,e2];rfl
   ·rw [if_neg e2];rfl
  ·rw [if_neg (Ne.symm e),if_neg e,List.append_nil,ih k]
theorem Jdt {ks:List Int} (h:ks.length=3):Jb 7 (Js ks) 5=Js ks:=by
 match ks,h with
 | [a,b,d],_=>
  have t0:Nat.testBit 7 0=true:=by decide
  have t1:Nat.testBit 7 1=true:=by decide
  have t2:Nat.testBit 7 2=true:=by decide
  simp [Jb,Js,List.zipIdx_cons,List.replicate,t0,t1,t2]
theorem J89 {α:Type} (p q:α->Bool):∀ l:List α,(∀ x∈l,¬ (p x=true/\q x=true))->(l.filter p++l.filter q).Perm (l.filter fun x=>p x || q x)
 | [],_=>.refl _
 | x::l,h=>by
  have ih:=J89 p q l fun y hy=>h y (by simp [hy]);have hx:=h x (by simp);cases hp:p x<;>cases hq:q x
  ·simpa [hp,hq] using ih
  ·simp only [List.filter_cons,hp,hq,Jc1,if_false,if_true,Bool.or_true];exact List.perm_middle.trans (ih.cons x)
  ·simp only [List.filter_cons,hp,hq,Jc1,if_false,if_true,Bool.or_false,Jc7];exact ih.cons x
  ·exact absurd ⟨hp,hq⟩ hx
theorem J7d {fs:List Jg} {key:Jg->List Int} {P:List Int->Bool}:∀ {Ks:List (List Int)},Ks.Nodup->((Ks.filter P).flatMap fun κ=>fs.filter fun f=>decide (key f=κ)).Perm (fs.filter fun f=>decide (key f∈Ks) && P (key f))
 | [],_=>by simp
 | κ::Ks,hn=>by
  obtain ⟨h1,h2⟩:=List.nodup_cons.1 hn;have ih:=J7d (fs:=fs) (key:=key) (P:=P) h2;have e:fs.filter (fun f=>decide (key f∈κ::Ks) && P (key f))=fs.filter fun f=>(decide (key f=κ) && P κ) || (decide (key f∈Ks) && P (key f)):=by
   congr 1;funext f;by_cases hk:key f=κ
   ·simp [hk,h1]
   ·simp [hk]
  rw [e];refine List.Perm.trans ?_ (J89 _ _ fs fun f _ ⟨a,b⟩=>?_)
  ·cases hP:P κ
   ·simp only [List.filter_cons,hP,Jc1,if_false,Bool.and_false];rw [show fs.filter (fun _=>false)=[] from List.filter_eq_nil_iff.2 fun _ _=>by simp,Jc8];exact ih
   ·simp only [List.filter_cons,hP,if_true,Bool.and_true,List.flatMap_cons];exact ih.append_left _
  ·simp only [Ja8,decide_eq_true_eq] at a b;exact h1 (a.1▸b.1)
theorem Jwc (hc:Jw c) (hbs:bs.length=c.nb) (hso:bs.Pairwise (· < ·)) (hh:∀ y,0<=hs y/\hs y<=18446744073709551615) (h3:∀ f∈fs,f.k.length=3) {S T:List TR} {m:Nat} (hn:(S.map (·.k)).Nodup) (hS:∀ k,tm S k=J1c c bs (sel hs 7 k fs))
  (h:Sum c (tm T) (J14 S m (fun _=>true))):∀ k,tm T k=J1c c bs (sel hs m k fs):=by
 intro k;rw [h k];have e1:((J14 S m fun _=>true).filter fun e=>decide (e.1=k)).map (·.2)=((S.filter fun t=>decide (Jb m t.k 5=k)).map (fun t=>sel hs 7 t.k fs)).map (Jq c bs):=by
  unfold J14;simp only [if_true];have hB:∀ t∈S,t.B=Jq c bs (sel hs 7 t.k fs):=fun t ht=>by
   have h1:=hS t.k;rw [J58 hn ht] at h1;unfold J1c at h1;split at h1
   ·cases h1
   ·exact Ja0 h1
  clear h hS hn
  induction S with
  | nil=>rfl
  | cons t S ih=>
   have ih:=ih fun u hu=>hB u (by simp [hu]);have ht:=hB t (by simp);simp only [List.filterMap_cons,List.filter_cons];by_cases e:Jb m t.k 5=k
   ·simp only [e,decide_true,if_true,Jc4,ih,<- ht]
   ·simp only [e,decide_false,Jc1,if_false,ih]
 rw [e1,Jgi hc hbs hso fun A hA=>?_]
 ·refine Jgj hc hbs hso (fun f hf=>?_) ?_
  ·obtain ⟨A,hA,hf⟩:=List.mem_flatten.1 hf;obtain ⟨t,_,rfl⟩:=Jb3.1 hA;exact Jjk hh _ _ f hf
  ·have p:=J7d (fs:=fs) (key:=fun f=>Jb 7 (Js f.k) 5) (P:=fun κ=>decide (Jb m κ 5=k)) hn;have p2:=p.map fun f=>(hs f.it,f.v);have e2:(fs.filter fun f=>decide (Jb 7 (Js f.k) 5∈S.map (·.k)) && decide (Jb m (Jb 7 (Js f.k) 5) 5=k))=fs.filter fun f=>decide (Jb m (Js f.k) 5=k):=by
    refine List.filter_congr fun f hf=>?_;have h7:=Jdt (h3 f hf);rw [h7];have hm:Js f.k∈S.map (·.k):=by
     have h1:=hS (Js f.k);have hne:sel hs 7 (Js f.k) fs≠[]:=by unfold sel;intro e;have:=List.map_eq_nil_iff.1 e;have hf':f∈fs.filter fun g=>decide (Jb 7 (Js g.k) 5=Js f.k):=Jd5.2 ⟨hf,by simp [h7]⟩;rw [this] at hf';cases hf'
     unfold J1c at h1;rw [if_neg hne] at h1;obtain ⟨t,T1,T2,rfl,ht,_⟩:=J21 h1;exact Jb3.2 ⟨t,by simp,ht⟩
    simp [hm]
   have e3:(((S.filter fun t=>decide (Jb m t.k 5=k)).map fun t=>sel hs 7 t.k fs).flatten)=((((S.map (·.k)).filter fun κ=>decide (Jb m κ 5=k)).flatMap fun κ=>fs.filter fun f=>decide (Jb 7 (Js f.k) 5=κ)).map fun f=>(hs f.it,f.v)):=by
    clear p p2 e1 e2 h hS hn
    induction S with
    | nil=>rfl
    | cons t S ih=>
     simp only [List.filter_cons,Jc4];by_cases e:Jb m t.k 5=k
     ·simp only [e,decide_true,if_true,Jc4,List.flatten_cons,List.flatMap_cons,List.map_append,ih];rfl
     ·simp only [e,decide_false,Jc1,if_false,ih]
   rw [e3];rw [e2] at p2;exact p2
 ·obtain ⟨t,ht,rfl⟩:=Jb3.1 hA;have ht:=(Jd5.1 ht).1;refine ⟨Jjk hh _ _,fun e=>?_⟩;have h1:=hS t.k;rw [J58 hn ht] at h1;unfold J1c at h1;rw [if_pos e] at h1;cases h1
end
end Go.Sim.Z
namespace Go.Sim.Z
open Go Go.Proofs Go.RowKit Go.Conc Go.Maps
noncomputable def b4:Code:=Tryz.f4.body.getD .skip
section
variable {w:World} {f:Nat->Value} {ga:Option Addr} {fs:List Jg} {cap:Nat} {pl:List Nat} {cb:Nat} {v:Value} {K:Int} {d:Deferred}
end
theorem Jnj {P:Program} {fn:FuncId} {f:Func} {t:Array Value} {todo:List Item} {x:Tmp} {w:World} (hf:P.funcs[fn]?=some f) (hr:f.results=#[.tmp x]) (hi:P.inits.idxOf? fn=none) :
  stepG P true (G { (Go.Conc.base fn).at ⟨t,[]⟩ todo with mode:=.returning } []) w=.ended (.done (t.getD x undef)) w #[]:=by
 have h1:=results_tmp hr t P w;have h2:=events_results_tmp (P:=P) (w:=w) hr t #[];simp only [G,stepG,unwind,Frame.at,Go.Conc.base,hf,Sem.runT_eq,h1,h2,doReturn,hi,GStep.after];simp [seen_none]
def Jcl (c:Int) (n:Nat):J8:=⟨4+Ju c 1048576 % 3,1+Ju c 1048576 / 3 % 8,some ⟨n,0,none⟩,4,4⟩
theorem J6t (c:Int) (n:Nat):Jw (Jcl c n):=by have:=J5h (c:=c) (n:=1048576) (by omega);refine ⟨?_,?_,?_,?_,?_⟩<;>simp only [Jcl]<;>omega
theorem J74:J06.Pairwise (· < ·):=by decide
section
variable {w:World} {T:Array Value} {d:Deferred} {c:Int} {sl:Value} {la ga:Option Addr} {n cb x cap lc:Nat}
end
section
variable {W E:Nat->Prop} {w w' w2:World} {ga la:Option Addr} {fs:List Jg} {rs:List J1t} {cap:Nat} {pl:List Nat}
theorem Jt3 {w:World} {a:Addr} {v:Value} (h:w.cell? a=some v):∃ o,w.heap[a.block]?=some o/\Dat o:=by
 unfold World.cell? at h;cases ho:w.heap[a.block]? with
 | none=>rw [ho] at h;cases h
 | some o=>
  rw [ho] at h;cases o with
  | cells c el fz=>exact ⟨_,rfl,trivial⟩
  | _=>cases h
theorem J3a.ke (hW:WR C0 (okP C0 S0) (idE E) w w2) (hg:∀ a,ga=some a->E a.block) (k:KE E w w') (h:J3a false w ga fs cap pl):∃ pl',(∀ y∈pl',y∈pl/\E y/\∃ o,w'.heap[y]?=some o/\Dat o)/\J3a false w' ga fs cap pl':=by
 classical
 refine ⟨pl.filter fun b=>decide (E b/\∃ o,w.heap[b]?=some o/\Dat o),fun y hy=>?_,fun y hy=>?_,fun i f hf=>?_,h.cap⟩
 ·obtain ⟨h1,h2⟩:=Jd5.1 hy;obtain ⟨h3,o,h4,h5⟩:=of_decide_eq_true h2;exact ⟨h1,h3,o,k _ _ h3 h4 h5,h5⟩
 ·obtain ⟨h1,h2⟩:=Jd5.1 hy;obtain ⟨h3,o,h4,h5⟩:=of_decide_eq_true h2;exact Ji (k _ _ h3 h4 h5)
 ·obtain ⟨g,kb,kc,h1,h2,h3,h4⟩:=h.at_ i f hf;have eg:E g:=hg _ h1;have ek:E kb:=(hW.J56 eg h4.ck).J1i;obtain ⟨cur,hb,hrest⟩:=h4.row;obtain ⟨z,hz,hz2⟩:=id hb;refine ⟨g,kb,kc,h1,Jd5.2 ⟨h2,decide_eq_true ⟨eg,Jt3 h4.ck⟩⟩,Jd5.2 ⟨h3,decide_eq_true ⟨ek,_,hz,trivial⟩⟩,k.cell eg h4.ck,k.cell eg h4.ci,k.cell eg h4.cv,cur,k.blk ek hb,hrest⟩
theorem Row.keE {b:Nat} {t:TypeId} {q:IntKind} {xs:List Int} (h:Row false w b t q xs cap) (k:KE E w w') (hb:E b):Row false w' b t q xs cap:=by obtain ⟨cur,h1,h2⟩:=h;exact ⟨cur,k.blk hb h1,h2⟩
theorem J09.of_empty {b:Nat} (h:w.heap[b]?=some (.map #[] 0)):J09 w b []:=by
 obtain ⟨es,clock,h2,h3,h4,h5⟩:=World.ownsMap_made w Tryz.prog 76 (H:=Value) Rv;rw [show (w.alloc (.map #[] 0)).heap[w.heap.size]?=some (.map #[] 0) from Ja _] at h2;cases h2;exact ⟨fun p hp=>by simp at hp,by simp,[],.refl _,0,#[],0,h,h3,h4,h5⟩
theorem TabAt.of_empty {c:J8} {b:Nat} (h:w.heap[b]?=some (.map #[] 0)):TabAt false w c b []:=
 ⟨J09.of_empty h,fun t ht=>(by cases ht),fun t ht=>(by cases ht),(by simp [tpl]),.nil⟩
end
theorem Jz1 {c:J8} {bs:List Int} {A:List (Int × Int)} (hA:(A.length:Int)<=9223372036854775807):∀ x∈(Jq c bs A).h,0<=x/\x<=A.length:=by
 induction A using J5n with
 | nil=>
  intro x hx;obtain rfl:=List.eq_of_mem_replicate (show x∈List.replicate (c.nb+1) 0 from hx);exact ⟨by omega,by simp⟩
 | append_singleton A f ih=>
  rw [List.length_append,List.length_singleton] at hA ⊢;have ih:=ih (by omega);rw [J3o];intro x hx;rcases mem_set (show x∈(Jq c bs A).h.set _ _ from hx) with rfl|hx
  ·have hg:0<=(Jq c bs A).h.getD (J1x bs f.2) 0/\(Jq c bs A).h.getD (J1x bs f.2) 0<=A.length:=by
    rw [Ja7];cases he:(Jq c bs A).h[J1x bs f.2]? with
    | none=>simp
    | some z=>exact ih z (Jd0 he)
   unfold wrap64;omega
  ·have:=ih x hx;omega
theorem Jnk (hs:Int->Int) (m:Nat) (k:List Int) (fs:List Jg):(sel hs m k fs).length<=fs.length:=by unfold sel;rw [Jc3];exact List.length_filter_le _ _
section
variable {c:J8} {bs:List Int} {hs:Int->Int} {fs:List Jg} {T:List TR} {m:Nat}
theorem J6u (hn:(T.map (·.k)).Nodup) (hT:∀ k,tm T k=J1c c bs (sel hs m k fs)) {t:TR} (ht:t∈T):t.B=Jq c bs (sel hs m t.k fs)/\∃ f∈fs,Jb m (Js f.k) 5=t.k:=by
 have h1:=hT t.k;rw [J58 hn ht] at h1;unfold J1c at h1;split at h1
 ·cases h1
 ·rename_i hne;refine ⟨Ja0 h1,?_⟩;cases hs':sel hs m t.k fs with
  | nil=>exact absurd hs' hne
  | cons x l=>
   have hx:x∈sel hs m t.k fs:=by rw [hs'];exact .head _
   obtain ⟨f,hf,_⟩:=Jb3.1 hx;obtain ⟨h2,h3⟩:=Jd5.1 hf;exact ⟨f,h2,of_decide_eq_true h3⟩
theorem Jlg (hT:∀ k,tm T k=J1c c bs (sel hs m k fs)) {f:Jg} (hf:f∈fs):∃ t∈T,t.k=Jb m (Js f.k) 5:=by
 have h1:=hT (Jb m (Js f.k) 5);have hne:sel hs m (Jb m (Js f.k) 5) fs≠[]:=by unfold sel;intro e;have:=List.map_eq_nil_iff.1 e;have hf':f∈fs.filter fun g=>decide (Jb m (Js g.k) 5=Jb m (Js f.k) 5):=Jd5.2 ⟨hf,by simp⟩;rw [this] at hf';cases hf'
 unfold J1c at h1;rw [if_neg hne] at h1;obtain ⟨t,T1,T2,rfl,ht,_⟩:=J21 h1;exact ⟨t,by simp,ht⟩
theorem Jjl {k:List Int} (h:k.length=5):Jb 0 k 5=[0,0,0,0,0]:=by obtain ⟨a,b,d,e,f,rfl⟩:=J2p h;simp [Jb,List.zipIdx_cons]
theorem sel0 (h3:∀ f∈fs,f.k.length=3):sel hs 0 [0,0,0,0,0] fs=fs.map fun f=>(hs f.it,f.v):=by unfold sel;rw [List.filter_eq_self.2 fun f hf=>?_];rw [Jjl (Jqj (h3 f hf))];simp
where Jqj {ks:List Int} (h:ks.length=3):(Js ks).length=5:=J45 (by omega)
end
def U64:List (List Int):=(List.range 64).map fun i=>[((i / 16:Nat):Int),((i / 4 % 4:Nat):Int),((i % 4:Nat):Int),0,0]
theorem Jwd (r:J1t):Js r.fact.k∈U64:=by
 have p:∀ c,0<=Ju c 4/\Ju c 4<4:=fun c=>by have:=J5h (c:=c) (n:=4) (by omega);omega
 have ha:=p r.a;have hb:=p r.b;have hc:=p r.c;refine Jb3.2 ⟨((Ju r.a 4)*16+(Ju r.b 4)*4+Ju r.c 4).toNat,List.mem_range.2 (by omega),?_⟩;simp only [J1t.fact,Js,Jd2,List.length_nil,Jc7,Jc8,List.cons.injEq];refine ⟨by omega,by omega,by omega,rfl⟩
theorem Jwe:U64.length=64:=by simp [U64]
theorem Jz2 (y:Int):0<=IntKind.u64.wrap y/\IntKind.u64.wrap y<=18446744073709551615:=by
 have e:IntKind.u64.wrap y=y % 18446744073709551616:=by simp [IntKind.wrap,IntKind.signed,IntKind.bits]
 omega
section
variable {W E:Nat->Prop} {w:World} {fn:FuncId} {c rest:Code} {t:Array Value} {k:List Item} {cs:List Frame} {Q:Array Value->World->Prop} {Post:(Nat->Prop)->Goroutine->World->Prop}
end
theorem hl4 {i:Nat} (h:(C0.hl 4).contains i=true):i=1\/i=34\/500<=i:=by have h':i∈[1,34,1000]:=Jd3.1 h;simp at h';omega
section
variable {w:World} {T:Array Value} {d:Deferred} {v:Value} {sl:Value} {cb:Nat}
end
structure HS (fn:FuncId) (W E0:Nat->Prop) (w0:World) (E:Nat->Prop) (T:Array Value) (w:World):Prop where
 bok:BOk C0 S0 W E w
 le:∀ b,E0 b->E b
 ke:KE E0 w0 w
 kw:∀ b,W b->w.heap[b]?=w0.heap[b]?
 tm:TmR C0 S0 fn (idE E) T T
 own:S0.own fn=[]
 sz:w0.heap.size<=w.heap.size
section
variable {fn:FuncId} {W E0 E:Nat->Prop} {w0 w:World} {T:Array Value} {ops:Array Oper} {i:Nat} {rest:List Nat} {o:Oper} {s:Nat} {v:Value} {k:List Item} {cs:List Frame} {Post:(Nat->Prop)->Goroutine->World->Prop}
theorem HS.at (h:HS fn W E0 w0 E T w) (d:Nat):HS fn W E0 w0 E T (w.at d):=⟨h.bok.at d,h.le,h.ke.trans (.of_eq fun _ _=>rfl),h.kw,h.tm,h.own,h.sz⟩
theorem HS.own' (h:HS fn W E0 w0 E T w) (s:Nat):(S0.own fn).contains s=false:=by rw [h.own];rfl
theorem HS.set (h:HS fn W E0 w0 E T w) (hv:(C0.hl fn).contains s=true\/VR C0 (idE E) v v):TmR C0 S0 fn (idE E) (T.setIfInBounds s v) (T.setIfInBounds s v):=by
 rcases hv with hv|hv
 ·exact h.tm.hole hv (h.own' s) v
 ·exact h.tm.set s hv fun e=>by rw [h.own' s] at e;cases e
theorem HS.to {E':Nat->Prop} {w':World} (h:HS fn W E0 w0 E T w) (hB:BOk C0 S0 W E' w') (hs:∀ b,E b->E' b) (he:KE E w w') (hw:∀ b,W b->w'.heap[b]?=w.heap[b]?) (hz:w.heap.size<=w'.heap.size):HS fn W E0 w0 E' T w':=
 ⟨hB,fun b hb=>hs b (h.le b hb),h.ke.trans (he.mono h.le),fun b hb=>(hw b hb).trans (h.kw b hb),h.tm.mono (J18 hs),h.own,Jb6 h.sz hz⟩
theorem HS.put (h:HS fn W E0 w0 E T w) {T':Array Value} (ht:TmR C0 S0 fn (idE E) T' T'):HS fn W E0 w0 E T' w:=⟨h.bok,h.le,h.ke,h.kw,ht,h.own,h.sz⟩
theorem HS.start (h:HS fn W E0 w0 E T w):HS fn W E w E T w:=⟨h.bok,fun _ h=>h,.refl,fun _ _=>rfl,h.tm,h.own,Ja2 _⟩
theorem HS.comp {E':Nat->Prop} {T':Array Value} {w':World} (h:HS fn W E0 w0 E T w) (k:HS fn W E w E' T' w'):HS fn W E0 w0 E' T' w':=⟨k.bok,fun b hb=>k.le b (h.le b hb),h.ke.trans (k.ke.mono h.le),fun b hb=>(k.kw b hb).trans (h.kw b hb),k.tm,k.own,Jb6 h.sz k.sz⟩
theorem Jc (h:HS fn W E0 w0 E T w) (ho:ops[i]?=some o) (hw:Region.wanted o (yielded ops T)=true) (hd:o.dst=some s) (hr:∀ w1,(execOp (Act.eval ⟨T,[]⟩) o).run Tryz.prog w1=.ok (.value v) w1) (he:∀ w1,(execOp (Act.eval ⟨T,[]⟩) o).events Tryz.prog w1 #[]=#[])
  (hv:(C0.hl fn).contains s=true\/VR C0 (idE E) v v) (kn:∀ w',HS fn W E0 w0 E (T.setIfInBounds s v) w'->w'.heap=w.heap->Reach Tryz.prog Post W (G ((base fn).at ⟨T.setIfInBounds s v,[]⟩ (.inRegion ops rest::k)) cs) w') :
  Reach Tryz.prog Post W (G ((base fn).at ⟨T,[]⟩ (.inRegion ops (i::rest)::k)) cs) w:=by
 refine J6 (fun w1=>J0d (v:=v) ho hw (by simp [base]) (hr w1) (he w1)) rfl fun d=>?_;rw [hd];exact kn _ ((h.put (h.set hv)).at d) rfl
theorem Jlh (h:HS fn W E0 w0 E T w) (ho:ops[i]?=some o) (hw:Region.wanted o (yielded ops T)=false) (hd:o.dst=some s)
  (kn:∀ w',HS fn W E0 w0 E (T.setIfInBounds s undef) w'->w'.heap=w.heap->Reach Tryz.prog Post W (G ((base fn).at ⟨T.setIfInBounds s undef,[]⟩ (.inRegion ops rest::k)) cs) w') :
  Reach Tryz.prog Post W (G ((base fn).at ⟨T,[]⟩ (.inRegion ops (i::rest)::k)) cs) w:=by
 refine J6 (fun w1=>stepG_unwanted ho hw) rfl fun d=>?_;rw [hd];exact kn _ ((h.put (h.set (.inr .undef))).at d) rfl
theorem J8a (h:HS fn W E0 w0 E T w) {a:Addr} (hW:W a.block) (hT:∀ c z,w.heap[a.block]?≠some (.cells c wgT z)) (hc:w.cell? a=some v) (ho:ops[i]?=some o) (hw:Region.wanted o (yielded ops T)=true) (hd:o.dst=some s)
  (hr:∀ w1,w1.cell? a=some v->(execOp (Act.eval ⟨T,[]⟩) o).run Tryz.prog w1=.ok (.value v) w1) (he:∀ w1,w1.cell? a=some v->(execOp (Act.eval ⟨T,[]⟩) o).events Tryz.prog w1 #[]=#[⟨.cell a,false,false⟩])
  (hv:(C0.hl fn).contains s=true\/VR C0 (idE E) v v) (kn:∀ w',HS fn W E0 w0 E (T.setIfInBounds s v) w'->(∀ b,E b\/W b->w'.heap[b]?=w.heap[b]?)->w'.heap.size=w.heap.size->Reach Tryz.prog Post W (G ((base fn).at ⟨T.setIfInBounds s v,[]⟩ (.inRegion ops rest::k)) cs) w') :
  Reach Tryz.prog Post W (G ((base fn).at ⟨T,[]⟩ (.inRegion ops (i::rest)::k)) cs) w:=by
 have hB:=h.bok;have hlt:a.block<w.heap.size:=by
  unfold World.cell? at hc;cases hb:w.heap[a.block]? with
  | none=>rw [hb] at hc;cases hc
  | some x=>exact (Ja3.1 hb).1
 have hR:Runs false Tryz.prog true (fun y=>y.g=G ((base fn).at ⟨T.setIfInBounds s v,[]⟩ (.inRegion ops rest::k)) cs/\(∀ b,E b->y.w.heap[b]?=w.heap[b]?)/\y.w.heap.size=w.heap.size/\y.w.os=w.os) ⟨E,fun b=>E b\/b=a.block,G ((base fn).at ⟨T,[]⟩ (.inRegion ops (i::rest)::k)) cs,w⟩:=by
  refine .step (fun w1=>⟨grown E w1 w1,grown (fun b=>E b\/b=a.block) w1 w1,G ((base fn).at ⟨T.setIfInBounds s v,[]⟩ (.inRegion ops rest::k)) cs,w1⟩) (fun w1 r=>⟨?_,rfl,rfl,rfl,rfl,rfl⟩) fun w1 r=>.stop fun w2 r2=>⟨rfl,fun b hb=>?_,?_,?_⟩
  ·have hc1:w1.cell? a=some v:=(Jb4 (r.blocks a.block (.inr rfl))).trans hc;refine ⟨listed Tryz.prog (base fn).fn ⟨T,[]⟩ o w1,?_,⟨Ja2 _,fun _ _ _=>rfl,rfl,rfl,Ja2 _,fun e hev=>?_⟩⟩
   ·rw [stepG_value ho hw (by simp [base]) (hr w1 hc1),hd];rfl
   ·have h1:=mem_seen hev;rw [he w1 hc1] at h1;simp only [List.mem_toArray,Jb8,Jc2,or_false] at h1;subst h1;exact ⟨⟨.inl (.inr rfl),fun h=>by cases h⟩,rfl⟩
  ·exact (r2.blocks b (.inl (.inl hb))).trans (r.blocks b (.inl hb))
  ·exact (r2.same rfl).trans (r.same rfl)
  ·exact r2.os.trans r.os
 refine Reach.Jiy (Z:=fun _=>False) hR rfl (fun b c z hb ht hx=>?_) hB.dis (fun b hb=>hb.elim) (fun b hb=>hb.elim (fun hb=>hB.lt hb) fun e=>e▸hlt) ?_
 ·rcases hx with hx|rfl
  ·exact hB.dis b hb hx
  ·exact hT c z ht
 rintro ⟨own,X,g,wy⟩ ⟨rfl,h1,h2,h3⟩ _ _ _ hK;simp only at h1 h2 h3;have hB':BOk C0 S0 W E wy:=hB.rely rfl ⟨h1,Nat.le_of_eq h2.symm,fun _=>h2,h3⟩;exact kn wy ((h.put (h.set hv)).to hB' (fun _ h=>h) (.of_eq h1) hK.keep (Nat.le_of_eq h2.symm)) (fun b hb=>hb.elim (h1 b) (hK.keep b)) h2
theorem Jjm (h:HS fn W E0 w0 E T w) {arr:Array Value} {ty:TypeId} (ho:ops[i]?=some o) (hw:Region.wanted o (yielded ops T)=true) (hd:o.dst=some s)
  (hr:∀ w1,w1.heap.size=w.heap.size->(execOp (Act.eval ⟨T,[]⟩) o).run Tryz.prog w1=.ok (.value v) (w1.alloc (.cells arr ty))) (he:∀ w1,(execOp (Act.eval ⟨T,[]⟩) o).events Tryz.prog w1 #[]=#[])
  (ha:∀ x∈arr.toList,VR C0 (idE E) x x) (hv:(C0.hl fn).contains s=true\/VR C0 (idE fun b=>E b\/b=w.heap.size) v v)
  (kn:∀ w',HS fn W E0 w0 (fun b=>E b\/b=w.heap.size) (T.setIfInBounds s v) w'->(∀ b,E b\/W b->w'.heap[b]?=w.heap[b]?)->w'.heap[w.heap.size]?=some (.cells arr ty)->w'.heap.size=w.heap.size+1->Reach Tryz.prog Post W (G ((base fn).at ⟨T.setIfInBounds s v,[]⟩ (.inRegion ops rest::k)) cs) w') :
  Reach Tryz.prog Post W (G ((base fn).at ⟨T,[]⟩ (.inRegion ops (i::rest)::k)) cs) w:=by
 refine Reach.mid (Mid:=fun g' w'=>g'=G ((base fn).at ⟨T.setIfInBounds s v,[]⟩ (.inRegion ops rest::k)) cs/\BOk C0 S0 W (fun b=>E b\/b=w.heap.size) w'/\w'.heap.size=w.heap.size+1/\(∀ b,E b->w'.heap[b]?=w.heap[b]?)/\w'.heap[w.heap.size]?=some (.cells arr ty)) ?_ fun g' w' ⟨e,h1,h2,h3,h4⟩ hK=>?_
 ·refine Reach.alloc (C:=C0) (S:=S0) (g':=G ((base fn).at ⟨T.setIfInBounds s v,[]⟩ (.inRegion ops rest::k)) cs) (o:=.cells arr ty) rfl h.bok rfl rfl rfl rfl ⟨_,_,rfl,.J6r (fun x hx=>(ha x hx).mono (J18 fun b hb=>.inl hb)),fun h=>(C0.lax rfl _ h).elim,fun _=>⟨rfl,fun _=>rfl⟩⟩ (fun w1 hw1=>?_) fun w' h1 h2 h3 h4=>Reach.here ⟨rfl,rfl,h1,h2,h3,h4⟩;show stepG Tryz.prog true _ w1=_;rw [stepG_value ho hw (by simp [base]) (hr w1 hw1),hd];unfold listed;rw [he w1,seen_none];rfl
 ·subst e;have h5:HS fn W E0 w0 (fun b=>E b\/b=w.heap.size) T w':=h.to h1 (fun b hb=>.inl hb) (.of_eq h3) hK (by omega);exact kn w' (h5.put (h5.set hv)) (fun b hb=>hb.elim (h3 b) (hK b)) h4 h2
theorem Jdu (h:HS fn W E0 w0 E T w) {pre:List Nat} {Q:Array Value->World->Prop} (hX:J2u C0 S0 fn ops pre=true) (hrest:rest≠[]) (hb:J0k C0 fn) (hdf:S0.df.contains fn=false) (hl:C0.hl fn≠[])
  (K:∀ τ,wpOps Tryz.prog ops (fun e a w1=>e=.normal/\a.defers=[Jp]/\(∀ i,(C0.hl fn).contains i=true->i<T.size->a.tmps[i]?=T[i]?)/\Q a.tmps w1) pre ⟨T,[Jp]⟩ (w.tp τ 0))
  (kn:∀ E' T' w1 w',(∀ b,E b->E' b)->BOk C0 S0 W E' w'->WR C0 (okP C0 S0) (idE E') w1 w'->TmR C0 S0 fn (idE E') T' T'->Q T' w1->(∀ b,W b->w'.heap[b]?=w.heap[b]?)->Reach Tryz.prog Post W (G ((base fn).at ⟨T',[]⟩ (.inRegion ops rest::k)) cs) w') :
  Reach Tryz.prog Post W (G ((base fn).at ⟨T,[]⟩ (.inRegion ops (pre++rest)::k)) cs) w:=by
 refine Reach.mid (Mid:=fun g' w'=>∃ E' T' w1,g'=G ((base fn).at ⟨T',[]⟩ (.inRegion ops rest::k)) cs/\(∀ b,E b->E' b)/\BOk C0 S0 W E' w'/\WR C0 (okP C0 S0) (idE E') w1 w'/\TmR C0 S0 fn (idE E') T' T'/\Q T' w1) ?_ fun g' w' ⟨E',T',w1,e,h1,h2,h3,h4,h5⟩ hK=>?_
 ·exact Reach.toOps (b:=base fn) J1u rfl hX hrest hb hdf hl (by simp [base]) h.bok h.tm K fun E' T' w1 w' h1 h2 h3 h4 h5=>Reach.here ⟨rfl,E',T',w1,rfl,h1,h2,h3,h4,h5⟩
 ·subst e;exact kn E' T' w1 w' h1 h2 h3 h4 h5 hK
end
def Jdv:Oper:={ dst:=some 2,op:=.assign (.const (.slice none 0 0)),type:=23,pos:= "keeps.go:24",after:=#[],guard:=none }
def x6_0:Array Oper:=#[Jdv]
def Jdw:Oper:={ dst:=some 3,op:=.assign (.const (.slice none 0 0)),type:=23,pos:= "keeps.go:25",after:=#[],guard:=none }
def x6_1:Array Oper:=#[Jdw]
def Jdx:Oper:={ dst:=some 4,op:=.assign (.const (.int .i64 0)),type:=3,pos:= "keeps.go:26",after:=#[],guard:=none }
def x6_2:Array Oper:=#[Jdx]
def J4b:Oper:={ dst:=some 8,op:=.move (.tmp 4),type:=3,pos:= "keeps.go:26",after:=#[],guard:=none }
def J4c:Oper:={ dst:=some 9,op:=.move (.tmp 0),type:=22,pos:= "keeps.go:26",after:=#[],guard:=none }
def J4d:Oper:={ dst:=some 10,op:=.call { callee:=.builtin .len,args:=#[.tmp 9],argTypes:=#[22] },type:=3,pos:= "keeps.go:26",after:=#[{ on:=1,ground:=.data }],guard:=none }
def J4e:Oper:={ dst:=some 11,op:=.binOp .lss 3 (.tmp 8) (.tmp 10) 3,type:=4,pos:= "keeps.go:26",after:=#[{ on:=0,ground:=.data },{ on:=2,ground:=.data }],guard:=none }
def J1w:Oper:={ dst:=some 12,op:=.move (.tmp 11),type:=4,pos:= "keeps.go:26",after:=#[{ on:=3,ground:=.data }],guard:=none }
def J3p:Oper:={ dst:=some 13,op:=.move (.tmp 4),type:=3,pos:= "keeps.go:26",after:=#[{ on:=4,ground:=.guard }],guard:=some (4,true) }
def J3q:Oper:={ dst:=some 14,op:=.binOp .lss 3 (.tmp 13) (.const (.int .i64 200)) 3,type:=4,pos:= "keeps.go:26",after:=#[{ on:=5,ground:=.data },{ on:=4,ground:=.guard }],guard:=some (4,true) }
def J4f:Oper:={ dst:=some 15,op:=.pick (.tmp 12) (.tmp 14) (.const (.bool false)),type:=4,pos:= "keeps.go:26",after:=#[{ on:=4,ground:=.data },{ on:=6,ground:=.data }],guard:=none }
def J5o:Array Oper:=#[J4b,J4c,J4d,J4e,J1w,J3p,J3q,J4f]
def Jdy:Oper:={ dst:=some 16,op:=.move (.tmp 4),type:=3,pos:= "keeps.go:26",after:=#[],guard:=none }
def Jdz:Oper:={ dst:=some 17,op:=.binOp .add 3 (.tmp 16) (.const (.int .i64 1)) 3,type:=3,pos:= "keeps.go:26",after:=#[{ on:=0,ground:=.data }],guard:=none }
def Je0:Oper:={ dst:=some 4,op:=.assign (.tmp 17),type:=3,pos:= "keeps.go:26",after:=#[{ on:=1,ground:=.data },{ on:=0,ground:=.phase },{ on:=1,ground:=.phase }],guard:=none }
def Jjn:Array Oper:=#[Jdy,Jdz,Je0]
def Je1:Oper:={ dst:=some 18,op:=.move (.tmp 0),type:=22,pos:= "keeps.go:27",after:=#[],guard:=none }
def Je2:Oper:={ dst:=some 19,op:=.move (.tmp 4),type:=3,pos:= "keeps.go:27",after:=#[],guard:=none }
def Je3:Oper:={ dst:=some 20,op:=.indexAddr 22 (.tmp 18) (.tmp 19),type:=0,pos:= "keeps.go:27",after:=#[{ on:=0,ground:=.data },{ on:=1,ground:=.data }],guard:=none }
def Je4:Oper:={ dst:=some 21,op:=.fieldAddr 53 (.tmp 20) 0,type:=0,pos:= "keeps.go:27",after:=#[{ on:=2,ground:=.data }],guard:=none }
def Je5:Oper:={ dst:=some 22,op:=.load 3 (.tmp 21),type:=3,pos:= "keeps.go:27",after:=#[{ on:=3,ground:=.data }],guard:=none }
def Je6:Oper:={ dst:=some 23,op:=.call { callee:=.value (.func 8),args:=#[.tmp 22,.const (.int .i64 4)],argTypes:=#[3,3] },type:=3,pos:= "keeps.go:27",after:=#[{ on:=4,ground:=.data }],guard:=none }
def Je7:Oper:={ dst:=some 5,op:=.assign (.tmp 23),type:=3,pos:= "keeps.go:27",after:=#[{ on:=5,ground:=.data },{ on:=5,ground:=.chain },{ on:=0,ground:=.phase },{ on:=1,ground:=.phase },{ on:=2,ground:=.phase },{ on:=3,ground:=.phase },{ on:=4,ground:=.phase },{ on:=5,ground:=.phase }],guard:=none }
def Jjo:Array Oper:=#[Je1,Je2,Je3,Je4,Je5,Je6,Je7]
def Je8:Oper:={ dst:=some 24,op:=.move (.tmp 0),type:=22,pos:= "keeps.go:28",after:=#[],guard:=none }
def Je9:Oper:={ dst:=some 25,op:=.move (.tmp 4),type:=3,pos:= "keeps.go:28",after:=#[],guard:=none }
def Jea:Oper:={ dst:=some 26,op:=.indexAddr 22 (.tmp 24) (.tmp 25),type:=0,pos:= "keeps.go:28",after:=#[{ on:=0,ground:=.data },{ on:=1,ground:=.data }],guard:=none }
def Jeb:Oper:={ dst:=some 27,op:=.fieldAddr 53 (.tmp 26) 1,type:=0,pos:= "keeps.go:28",after:=#[{ on:=2,ground:=.data }],guard:=none }
def Jec:Oper:={ dst:=some 28,op:=.load 3 (.tmp 27),type:=3,pos:= "keeps.go:28",after:=#[{ on:=3,ground:=.data }],guard:=none }
def Jed:Oper:={ dst:=some 29,op:=.call { callee:=.value (.func 8),args:=#[.tmp 28,.const (.int .i64 4)],argTypes:=#[3,3] },type:=3,pos:= "keeps.go:28",after:=#[{ on:=4,ground:=.data }],guard:=none }
def Jee:Oper:={ dst:=some 6,op:=.assign (.tmp 29),type:=3,pos:= "keeps.go:28",after:=#[{ on:=5,ground:=.data },{ on:=5,ground:=.chain },{ on:=0,ground:=.phase },{ on:=1,ground:=.phase },{ on:=2,ground:=.phase },{ on:=3,ground:=.phase },{ on:=4,ground:=.phase },{ on:=5,ground:=.phase }],guard:=none }
def Jjp:Array Oper:=#[Je8,Je9,Jea,Jeb,Jec,Jed,Jee]
def Jef:Oper:={ dst:=some 30,op:=.move (.tmp 0),type:=22,pos:= "keeps.go:29",after:=#[],guard:=none }
def Jeg:Oper:={ dst:=some 31,op:=.move (.tmp 4),type:=3,pos:= "keeps.go:29",after:=#[],guard:=none }
def Jeh:Oper:={ dst:=some 32,op:=.indexAddr 22 (.tmp 30) (.tmp 31),type:=0,pos:= "keeps.go:29",after:=#[{ on:=0,ground:=.data },{ on:=1,ground:=.data }],guard:=none }
def Jei:Oper:={ dst:=some 33,op:=.fieldAddr 53 (.tmp 32) 2,type:=0,pos:= "keeps.go:29",after:=#[{ on:=2,ground:=.data }],guard:=none }
def Jej:Oper:={ dst:=some 34,op:=.load 3 (.tmp 33),type:=3,pos:= "keeps.go:29",after:=#[{ on:=3,ground:=.data }],guard:=none }
def Jek:Oper:={ dst:=some 35,op:=.call { callee:=.value (.func 8),args:=#[.tmp 34,.const (.int .i64 4)],argTypes:=#[3,3] },type:=3,pos:= "keeps.go:29",after:=#[{ on:=4,ground:=.data }],guard:=none }
def Jel:Oper:={ dst:=some 7,op:=.assign (.tmp 35),type:=3,pos:= "keeps.go:29",after:=#[{ on:=5,ground:=.data },{ on:=5,ground:=.chain },{ on:=0,ground:=.phase },{ on:=1,ground:=.phase },{ on:=2,ground:=.phase },{ on:=3,ground:=.phase },{ on:=4,ground:=.phase },{ on:=5,ground:=.phase }],guard:=none }
def Jjq:Array Oper:=#[Jef,Jeg,Jeh,Jei,Jej,Jek,Jel]
def Jem:Oper:={ dst:=some 36,op:=.move (.tmp 3),type:=23,pos:= "keeps.go:30",after:=#[],guard:=none }
def Jen:Oper:={ dst:=some 37,op:=.move (.tmp 5),type:=3,pos:= "keeps.go:30",after:=#[],guard:=none }
def Jeo:Oper:={ dst:=some 38,op:=.move (.tmp 6),type:=3,pos:= "keeps.go:30",after:=#[],guard:=none }
def Jep:Oper:={ dst:=some 39,op:=.move (.tmp 7),type:=3,pos:= "keeps.go:30",after:=#[],guard:=none }
def Jeq:Oper:={ dst:=some 40,op:=.buildSlice 33 3 #[(0,.tmp 37),(1,.tmp 38),(2,.tmp 39)],type:=33,pos:= "keeps.go:30",after:=#[{ on:=1,ground:=.data },{ on:=2,ground:=.data },{ on:=3,ground:=.data }],guard:=none }
def Jer:Oper:={ dst:=some 41,op:=.move (.tmp 0),type:=22,pos:= "keeps.go:30",after:=#[],guard:=none }
def Jes:Oper:={ dst:=some 42,op:=.move (.tmp 4),type:=3,pos:= "keeps.go:30",after:=#[],guard:=none }
def Jet:Oper:={ dst:=some 43,op:=.indexAddr 22 (.tmp 41) (.tmp 42),type:=0,pos:= "keeps.go:30",after:=#[{ on:=5,ground:=.data },{ on:=6,ground:=.data }],guard:=none }
def Jeu:Oper:={ dst:=some 44,op:=.fieldAddr 53 (.tmp 43) 3,type:=0,pos:= "keeps.go:30",after:=#[{ on:=7,ground:=.data }],guard:=none }
def Jal:Oper:={ dst:=some 45,op:=.load 3 (.tmp 44),type:=3,pos:= "keeps.go:30",after:=#[{ on:=8,ground:=.data }],guard:=none }
def Jbc:Oper:={ dst:=some 46,op:=.move (.tmp 0),type:=22,pos:= "keeps.go:30",after:=#[],guard:=none }
def Jbd:Oper:={ dst:=some 47,op:=.move (.tmp 4),type:=3,pos:= "keeps.go:30",after:=#[],guard:=none }
def Jbe:Oper:={ dst:=some 48,op:=.indexAddr 22 (.tmp 46) (.tmp 47),type:=0,pos:= "keeps.go:30",after:=#[{ on:=10,ground:=.data },{ on:=11,ground:=.data }],guard:=none }
def Jbf:Oper:={ dst:=some 49,op:=.fieldAddr 53 (.tmp 48) 4,type:=0,pos:= "keeps.go:30",after:=#[{ on:=12,ground:=.data }],guard:=none }
def J8b:Oper:={ dst:=some 50,op:=.load 3 (.tmp 49),type:=3,pos:= "keeps.go:30",after:=#[{ on:=13,ground:=.data }],guard:=none }
def Jbg:Oper:={ dst:=some 51,op:=.build 47 #[(0,.tmp 40),(1,.tmp 45),(2,.tmp 50)],type:=47,pos:= "keeps.go:30",after:=#[{ on:=4,ground:=.data },{ on:=9,ground:=.data },{ on:=14,ground:=.data }],guard:=none }
def J8c:Oper:={ dst:=some 52,op:=.buildSlice 23 1 #[(0,.tmp 51)],type:=23,pos:= "keeps.go:30",after:=#[{ on:=15,ground:=.data }],guard:=none }
def Jwf:Oper:={ dst:=some 53,op:=.call { callee:=.builtin .append,args:=#[.tmp 36,.tmp 52],argTypes:=#[23,23] },type:=23,pos:= "keeps.go:30",after:=#[{ on:=0,ground:=.data },{ on:=16,ground:=.data }],guard:=none }
def Jbh:Oper:={ dst:=some 3,op:=.assign (.tmp 53),type:=23,pos:= "keeps.go:30",after:=#[{ on:=17,ground:=.data },{ on:=17,ground:=.chain },{ on:=0,ground:=.phase },{ on:=1,ground:=.phase },{ on:=2,ground:=.phase },{ on:=3,ground:=.phase },{ on:=4,ground:=.phase },{ on:=5,ground:=.phase },{ on:=6,ground:=.phase },{ on:=7,ground:=.phase },{ on:=8,ground:=.phase },{ on:=9,ground:=.phase },{ on:=10,ground:=.phase },{ on:=11,ground:=.phase },{ on:=12,ground:=.phase },{ on:=13,ground:=.phase },{ on:=14,ground:=.phase },{ on:=15,ground:=.phase },{ on:=16,ground:=.phase },{ on:=17,ground:=.phase }],guard:=none }
def J4p:Array Oper:=#[Jem,Jen,Jeo,Jep,Jeq,Jer,Jes,Jet,Jeu,Jal,Jbc,Jbd,Jbe,Jbf,J8b,Jbg,J8c,Jwf,Jbh]
def Jev:Oper:={ dst:=some 54,op:=.move (.tmp 3),type:=23,pos:= "keeps.go:32",after:=#[],guard:=none }
def Jew:Oper:={ dst:=some 2,op:=.assign (.tmp 54),type:=23,pos:= "keeps.go:32",after:=#[{ on:=0,ground:=.data },{ on:=0,ground:=.phase }],guard:=none }
def Jz3:Array Oper:=#[Jev,Jew]
def Jhi:Code:=.seq (.seq (.region 3 J5o false) (.cond (.tmp 15) .skip (.exit 0))) (.seq (.block 1 (.seq (.region 5 Jjo false) (.seq (.region 6 Jjp false) (.seq (.region 7 Jjq false) (.region 8 J4p true))))) (.region 4 Jjn false))
def b6:Code:=.seq (.region 0 x6_0 false) (.seq (.region 1 x6_1 false) (.seq (.seq (.region 2 x6_2 false) (.block 0 (.loop Jhi))) (.seq (.region 9 Jz3 false) .ret)))
theorem body6:Tryz.f6.body=some b6:=by kernel_rfl
theorem Jnl:J0k C0 6:=⟨Tryz.f6,by kernel_rfl,by kernel_rfl,by kernel_rfl⟩
theorem Jex:C0.hl 6≠[]:=by show [0,9,18,20,21,24,26,27,30,32,33,41,43,44,46,48,49,1000]≠[];simp
theorem hl6 {i:Nat} (h:(C0.hl 6).contains i=true):i≠2/\i≠3/\i≠4/\i≠5/\i≠6/\i≠7/\i≠23/\i≠29/\i≠35/\i≠53:=by have h':i∈[0,9,18,20,21,24,26,27,30,32,33,41,43,44,46,48,49,1000]:=Jd3.1 h;simp only [Jb8,Jc2,or_false] at h';omega
structure F6 (la:Option Addr) (n cap k:Nat) (v3:Value) (T:Array Value):Prop where
 sz:T.size=55
 s0:T[0]?=some (.slice la n cap)
 s2:T[2]?=some (.slice none 0 0)
 s3:T[3]?=some v3
 s4:T[4]?=some (.int .i64 k)
theorem F6.set {la:Option Addr} {n cap k:Nat} {v3:Value} {T:Array Value} (h:F6 la n cap k v3 T) {s:Nat} (hs:5<=s) (v:Value):F6 la n cap k v3 (T.setIfInBounds s v):=by obtain ⟨h1,h2,h3,h4,h5⟩:=h;refine ⟨by simpa using h1,?_,?_,?_,?_⟩<;>rw [Ja1 (by omega)]<;>assumption
section
variable {W E0 E:Nat->Prop} {w0 w:World} {T:Array Value} {la:Option Addr} {n cap k b o:Nat} {v3:Value} {x:Int} {kk:List Item} {cs:List Frame} {Post:(Nat->Prop)->Goroutine->World->Prop}
theorem fld5 (H:HS 6 W E0 w0 E T w) (F:F6 la n cap k v3 T) (hla:la=some ⟨b,o,none⟩) (hk:k<n) (hW:W b) (hT:∀ c z,w.heap[b]?≠some (.cells c wgT z)) (hc:w.cell? ⟨b,o+k*5,none⟩=some (.int .i64 x)) (hx:I64 x)
  (kn:∀ E' T' w',HS 6 W E0 w0 E' T' w'->F6 la n cap k v3 T'->T'[5]?=some (.int .i64 (Ju x 4))->(∀ s,2<=s->s<8->s≠5->T'[s]?=T[s]?)->(∀ b,E b->E' b)->Reach Tryz.prog Post W (G ((base 6).at ⟨T',[]⟩ kk) cs) w') :
  Reach Tryz.prog Post W (G ((base 6).at ⟨T,[]⟩ (.code (.region 5 Jjo false)::kk)) cs) w:=by
 subst hla;have sz:=F.sz;have s0:=F.s0;have s4:=F.s4;have hk':(k:Int)<n:=by omega
 have ct:∀ {d:Nat} {h:Array Obj} (z:World),z.heap=w.heap->z.cell? ⟨b,o+k*5,none⟩=some (.int .i64 x):=fun z hz=>(Jb4 (by rw [hz])).trans hc;refine J6 (fun w1=>stepG_region) rfl fun d1=>?_;rw [show List.range Jjo.size=[0,1,2,3,4]++([5]++[6]) from rfl];have H:=H.at d1;refine Jc (o:=Je1) (v:=.slice (some ⟨b,o,none⟩) n cap) H rfl rfl rfl (fun w1=>by simp [execOp,go_sem,Je1,s0];try rfl) (fun w1=>by simp [execOp,go_sem,Je1,s0];try rfl) (.inl rfl) fun w1 H h1=>?_;refine Jc (o:=Je2) (v:=.int .i64 k) H rfl rfl rfl (fun w1=>by simp [execOp,go_sem,Je2,s4];try rfl) (fun w1=>by simp [execOp,go_sem,Je2,s4];try rfl) (.inr (.int _ _)) fun w2 H h2=>?_;refine Jc (o:=Je3) (v:=pt b (o+k*5)) H rfl rfl rfl (fun w1=>by simp [execOp,go_sem,Je3,sz,hk'];try rfl) (fun w1=>by simp [execOp,go_sem,Je3,sz,hk'];try rfl) (.inl rfl) fun w3 H h3=>?_;refine Jc (o:=Je4) (v:=pt b (o+k*5)) H rfl rfl rfl (fun w1=>by simp [execOp,go_sem,Je4,sz];try rfl) (fun w1=>by simp [execOp,go_sem,Je4,sz];try rfl) (.inl rfl) fun w4 H h4=>?_;have e4:w4.heap=w.heap:=h4.trans (h3.trans (h2.trans h1));refine J8a (o:=Je5) (v:=.int .i64 x) (a:=⟨b,o+k*5,none⟩) H hW (by rw [e4];exact hT) (ct (d:=0) (h:=#[]) w4 e4) rfl rfl rfl (fun w1 hc1=>by simp [execOp,go_sem,Je5,sz,hc1];try rfl) (fun w1 hc1=>by simp [execOp,go_sem,Je5,sz,hc1];try rfl) (.inr (.int _ _)) fun w5 H h5 h5'=>?_;have pa:=J3u (n:=4) hx (by omega) (by omega);refine Jdu (pre:=[5]) (rest:=[6]) (Q:=fun T2 w2=>T2=(((((T.setIfInBounds 18 (.slice (some ⟨b,o,none⟩) n cap)).setIfInBounds 19 (.int .i64 k)).setIfInBounds 20 (pt b (o+k*5))).setIfInBounds 21 (pt b (o+k*5))).setIfInBounds 22 (.int .i64 x)).setIfInBounds 23 (.int .i64 (Ju x 4))/\w2.heap=w5.heap) H (by kernel_rfl) (by simp) Jnl rfl Jex (fun τ=>?_) fun E6 T6 w6' w6 hs6 hB6 hW6 ht6 ⟨q1,q2⟩ hw6=>?_
 ·rw [wpOps_cons];refine J2f (o:=Je6) (w':=w5.tp τ 0) (i:=5) (f:=8) (args:=#[.int .i64 x,.int .i64 4]) rfl rfl (by simp [execOp,go_sem,Je6,sz];try rfl) (pa _) ?_;rintro e w2 ⟨rfl,rfl⟩;refine ⟨_,rfl,?_⟩;simp only [wpOps,Act.put,Je6];refine ⟨trivial,trivial,fun i hi hi2=>?_,trivial,rfl⟩;have:=hl6 hi;exact Ja1 (by omega)
 subst q1;have H:=(H.to hB6 hs6 ((KE.of_eq (fun b _=>by rw [q2])).trans ((Jy rfl hW6).mono hs6)) hw6 (by rw [hW6.lsz rfl,q2];exact Ja2 _)).put ht6;refine Jc (o:=Je7) (v:=.int .i64 (Ju x 4)) H rfl rfl rfl (fun w1=>by simp [execOp,go_sem,Je7,sz];try rfl) (fun w1=>by simp [execOp,go_sem,Je7,sz];try rfl) (.inr (.int _ _)) fun w7 H h7=>?_;refine J6 (fun w1=>stepG_region_end) rfl fun d2=>?_;refine kn _ _ _ (H.at d2) (((((((F.set (by omega) _).set (by omega) _).set (by omega) _).set (by omega) _).set (by omega) _).set (by omega) _).set (by omega) _) (by simp [sz]) (fun s h2 h8 hq=>?_) hs6;simp only [Jb9]
 repeat rw [if_neg (by omega)]
theorem fld6 (H:HS 6 W E0 w0 E T w) (F:F6 la n cap k v3 T) (hla:la=some ⟨b,o,none⟩) (hk:k<n) (hW:W b) (hT:∀ c z,w.heap[b]?≠some (.cells c wgT z)) (hc:w.cell? ⟨b,o+k*5+1,none⟩=some (.int .i64 x)) (hx:I64 x)
  (kn:∀ E' T' w',HS 6 W E0 w0 E' T' w'->F6 la n cap k v3 T'->T'[6]?=some (.int .i64 (Ju x 4))->(∀ s,2<=s->s<8->s≠6->T'[s]?=T[s]?)->(∀ b,E b->E' b)->Reach Tryz.prog Post W (G ((base 6).at ⟨T',[]⟩ kk) cs) w') :
  Reach Tryz.prog Post W (G ((base 6).at ⟨T,[]⟩ (.code (.region 6 Jjp false)::kk)) cs) w:=by
 subst hla;have sz:=F.sz;have s0:=F.s0;have s4:=F.s4;have hk':(k:Int)<n:=by omega
 have ct:∀ {d:Nat} {h:Array Obj} (z:World),z.heap=w.heap->z.cell? ⟨b,o+k*5+1,none⟩=some (.int .i64 x):=fun z hz=>(Jb4 (by rw [hz])).trans hc;refine J6 (fun w1=>stepG_region) rfl fun d1=>?_;rw [show List.range Jjp.size=[0,1,2,3,4]++([5]++[6]) from rfl];have H:=H.at d1;refine Jc (o:=Je8) (v:=.slice (some ⟨b,o,none⟩) n cap) H rfl rfl rfl (fun w1=>by simp [execOp,go_sem,Je8,s0];try rfl) (fun w1=>by simp [execOp,go_sem,Je8,s0];try rfl) (.inl rfl) fun w1 H h1=>?_;refine Jc (o:=Je9) (v:=.int .i64 k) H rfl rfl rfl (fun w1=>by simp [execOp,go_sem,Je9,s4];try rfl) (fun w1=>by simp [execOp,go_sem,Je9,s4];try rfl) (.inr (.int _ _)) fun w2 H h2=>?_;refine Jc (o:=Jea) (v:=pt b (o+k*5)) H rfl rfl rfl (fun w1=>by simp [execOp,go_sem,Jea,sz,hk'];try rfl) (fun w1=>by simp [execOp,go_sem,Jea,sz,hk'];try rfl) (.inl rfl) fun w3 H h3=>?_;refine Jc (o:=Jeb) (v:=pt b (o+k*5+1)) H rfl rfl rfl (fun w1=>by simp [execOp,go_sem,Jeb,sz];try rfl) (fun w1=>by simp [execOp,go_sem,Jeb,sz];try rfl) (.inl rfl) fun w4 H h4=>?_;have e4:w4.heap=w.heap:=h4.trans (h3.trans (h2.trans h1));refine J8a (o:=Jec) (v:=.int .i64 x) (a:=⟨b,o+k*5+1,none⟩) H hW (by rw [e4];exact hT) (ct (d:=0) (h:=#[]) w4 e4) rfl rfl rfl (fun w1 hc1=>by simp [execOp,go_sem,Jec,sz,hc1];try rfl) (fun w1 hc1=>by simp [execOp,go_sem,Jec,sz,hc1];try rfl) (.inr (.int _ _)) fun w5 H h5 h5'=>?_;have pa:=J3u (n:=4) hx (by omega) (by omega);refine Jdu (pre:=[5]) (rest:=[6]) (Q:=fun T2 w2=>T2=(((((T.setIfInBounds 24 (.slice (some ⟨b,o,none⟩) n cap)).setIfInBounds 25 (.int .i64 k)).setIfInBounds 26 (pt b (o+k*5))).setIfInBounds 27 (pt b (o+k*5+1))).setIfInBounds 28 (.int .i64 x)).setIfInBounds 29 (.int .i64 (Ju x 4))/\w2.heap=w5.heap) H (by kernel_rfl) (by simp) Jnl rfl Jex (fun τ=>?_) fun E6 T6 w6' w6 hs6 hB6 hW6 ht6 ⟨q1,q2⟩ hw6=>?_
 ·rw [wpOps_cons];refine J2f (o:=Jed) (w':=w5.tp τ 0) (i:=5) (f:=8) (args:=#[.int .i64 x,.int .i64 4]) rfl rfl (by simp [execOp,go_sem,Jed,sz];try rfl) (pa _) ?_;rintro e w2 ⟨rfl,rfl⟩;refine ⟨_,rfl,?_⟩;simp only [wpOps,Act.put,Jed];refine ⟨trivial,trivial,fun i hi hi2=>?_,trivial,rfl⟩;have:=hl6 hi;exact Ja1 (by omega)
 subst q1;have H:=(H.to hB6 hs6 ((KE.of_eq (fun b _=>by rw [q2])).trans ((Jy rfl hW6).mono hs6)) hw6 (by rw [hW6.lsz rfl,q2];exact Ja2 _)).put ht6;refine Jc (o:=Jee) (v:=.int .i64 (Ju x 4)) H rfl rfl rfl (fun w1=>by simp [execOp,go_sem,Jee,sz];try rfl) (fun w1=>by simp [execOp,go_sem,Jee,sz];try rfl) (.inr (.int _ _)) fun w7 H h7=>?_;refine J6 (fun w1=>stepG_region_end) rfl fun d2=>?_;refine kn _ _ _ (H.at d2) (((((((F.set (by omega) _).set (by omega) _).set (by omega) _).set (by omega) _).set (by omega) _).set (by omega) _).set (by omega) _) (by simp [sz]) (fun s h2 h8 hq=>?_) hs6;simp only [Jb9]
 repeat rw [if_neg (by omega)]
theorem fld7 (H:HS 6 W E0 w0 E T w) (F:F6 la n cap k v3 T) (hla:la=some ⟨b,o,none⟩) (hk:k<n) (hW:W b) (hT:∀ c z,w.heap[b]?≠some (.cells c wgT z)) (hc:w.cell? ⟨b,o+k*5+2,none⟩=some (.int .i64 x)) (hx:I64 x)
  (kn:∀ E' T' w',HS 6 W E0 w0 E' T' w'->F6 la n cap k v3 T'->T'[7]?=some (.int .i64 (Ju x 4))->(∀ s,2<=s->s<8->s≠7->T'[s]?=T[s]?)->(∀ b,E b->E' b)->Reach Tryz.prog Post W (G ((base 6).at ⟨T',[]⟩ kk) cs) w') :
  Reach Tryz.prog Post W (G ((base 6).at ⟨T,[]⟩ (.code (.region 7 Jjq false)::kk)) cs) w:=by
 subst hla;have sz:=F.sz;have s0:=F.s0;have s4:=F.s4;have hk':(k:Int)<n:=by omega
 have ct:∀ {d:Nat} {h:Array Obj} (z:World),z.heap=w.heap->z.cell? ⟨b,o+k*5+2,none⟩=some (.int .i64 x):=fun z hz=>(Jb4 (by rw [hz])).trans hc;refine J6 (fun w1=>stepG_region) rfl fun d1=>?_;rw [show List.range Jjq.size=[0,1,2,3,4]++([5]++[6]) from rfl];have H:=H.at d1;refine Jc (o:=Jef) (v:=.slice (some ⟨b,o,none⟩) n cap) H rfl rfl rfl (fun w1=>by simp [execOp,go_sem,Jef,s0];try rfl) (fun w1=>by simp [execOp,go_sem,Jef,s0];try rfl) (.inl rfl) fun w1 H h1=>?_;refine Jc (o:=Jeg) (v:=.int .i64 k) H rfl rfl rfl (fun w1=>by simp [execOp,go_sem,Jeg,s4];try rfl) (fun w1=>by simp [execOp,go_sem,Jeg,s4];try rfl) (.inr (.int _ _)) fun w2 H h2=>?_;refine Jc (o:=Jeh) (v:=pt b (o+k*5)) H rfl rfl rfl (fun w1=>by simp [execOp,go_sem,Jeh,sz,hk'];try rfl) (fun w1=>by simp [execOp,go_sem,Jeh,sz,hk'];try rfl) (.inl rfl) fun w3 H h3=>?_;refine Jc (o:=Jei) (v:=pt b (o+k*5+2)) H rfl rfl rfl (fun w1=>by simp [execOp,go_sem,Jei,sz];try rfl) (fun w1=>by simp [execOp,go_sem,Jei,sz];try rfl) (.inl rfl) fun w4 H h4=>?_;have e4:w4.heap=w.heap:=h4.trans (h3.trans (h2.trans h1));refine J8a (o:=Jej) (v:=.int .i64 x) (a:=⟨b,o+k*5+2,none⟩) H hW (by rw [e4];exact hT) (ct (d:=0) (h:=#[]) w4 e4) rfl rfl rfl (fun w1 hc1=>by simp [execOp,go_sem,Jej,sz,hc1];try rfl) (fun w1 hc1=>by simp [execOp,go_sem,Jej,sz,hc1];try rfl) (.inr (.int _ _)) fun w5 H h5 h5'=>?_;have pa:=J3u (n:=4) hx (by omega) (by omega);refine Jdu (pre:=[5]) (rest:=[6]) (Q:=fun T2 w2=>T2=(((((T.setIfInBounds 30 (.slice (some ⟨b,o,none⟩) n cap)).setIfInBounds 31 (.int .i64 k)).setIfInBounds 32 (pt b (o+k*5))).setIfInBounds 33 (pt b (o+k*5+2))).setIfInBounds 34 (.int .i64 x)).setIfInBounds 35 (.int .i64 (Ju x 4))/\w2.heap=w5.heap) H (by kernel_rfl) (by simp) Jnl rfl Jex (fun τ=>?_) fun E6 T6 w6' w6 hs6 hB6 hW6 ht6 ⟨q1,q2⟩ hw6=>?_
 ·rw [wpOps_cons];refine J2f (o:=Jek) (w':=w5.tp τ 0) (i:=5) (f:=8) (args:=#[.int .i64 x,.int .i64 4]) rfl rfl (by simp [execOp,go_sem,Jek,sz];try rfl) (pa _) ?_;rintro e w2 ⟨rfl,rfl⟩;refine ⟨_,rfl,?_⟩;simp only [wpOps,Act.put,Jek];refine ⟨trivial,trivial,fun i hi hi2=>?_,trivial,rfl⟩;have:=hl6 hi;exact Ja1 (by omega)
 subst q1;have H:=(H.to hB6 hs6 ((KE.of_eq (fun b _=>by rw [q2])).trans ((Jy rfl hW6).mono hs6)) hw6 (by rw [hW6.lsz rfl,q2];exact Ja2 _)).put ht6;refine Jc (o:=Jel) (v:=.int .i64 (Ju x 4)) H rfl rfl rfl (fun w1=>by simp [execOp,go_sem,Jel,sz];try rfl) (fun w1=>by simp [execOp,go_sem,Jel,sz];try rfl) (.inr (.int _ _)) fun w7 H h7=>?_;refine J6 (fun w1=>stepG_region_end) rfl fun d2=>?_;refine kn _ _ _ (H.at d2) (((((((F.set (by omega) _).set (by omega) _).set (by omega) _).set (by omega) _).set (by omega) _).set (by omega) _).set (by omega) _) (by simp [sz]) (fun s h2 h8 hq=>?_) hs6;simp only [Jb9]
 repeat rw [if_neg (by omega)]
end
end Go.Sim.Z
