/- PROVED HERE: laws that the statement rests on (parts Wd, We, Wf). Conditions: none. -/
import Derived.DeepKeys4
import Derived.Maps.OwnOps
import Derived.Maps.OwnIn
import Derived.RangeFuncSeq
import Derived.RangeFuncGives
import Derived.Sort.MapsRangeIn
import Derived.Sort.KeysCollected
import Derived.Shelf.AbstractIn
import Derived.OwnWalkIn
import Derived.TacticsInMore
import Derived.RegionIn
import Derived.LoopNIn
import Derived.LoopIn
import Derived.Shelf.SlIter.Collect
import Derived.Maps.AppendAt
import Derived.Test.YtlcbehhbfglgaaaGreatE00
set_option linter.all false
namespace Go.Sim.Z
open Go Go.Proofs Go.RowKit Go.Maps
theorem laidOutZ:laidOutB Tryz.prog=true:=by kernel_rfl
theorem law76:WideMaps.KeyLaw Tryz.prog 76:=deep_law_laid laidOutZ (m:=2) (by omega) (of_decide_eq_true (by kernel_rfl)) (by kernel_rfl) (by rw [Tryz.underlying76])
theorem keyed76:Keyed Tryz.prog 76:=.of_law law76
def KeyOk (k:List Int):Prop:=k.length=5∧∀ x∈k,(Lit.int .i64 x).wf=true
def klit (k:List Int):Lit:=.string (keyBytes (k.map (Lit.int .i64)))
theorem keyOf76 {k:List Int} (h:KeyOk k):keyOf Tryz.prog 76 (.agg (ai .i64 k))=some (klit k):=by
 obtain ⟨h1,h2⟩:=h
 obtain ⟨x0,x1,x2,x3,x4,rfl⟩:∃ x0 x1 x2 x3 x4,k=[x0,x1,x2,x3,x4]:=by
  rcases k with _|⟨x0,_|⟨x1,_|⟨x2,_|⟨x3,_|⟨x4,_|⟨x5,l⟩⟩⟩⟩⟩⟩<;>simp at h1
  exact ⟨_,_,_,_,_,rfl⟩
 have ht:Tryz.prog.keyType 76=true:=by kernel_rfl
 have c76:Tryz.prog.cellsOf 76=5:=by kernel_rfl
 have c3:Tryz.prog.cellsOf 3=1:=by kernel_rfl
 have hf:Value.formed Tryz.prog 76 (.agg (ai .i64 [x0,x1,x2,x3,x4]))=true:=by
  simp [Value.formed,Tryz.underlying76,c76]
 have e:∀ d x,x∈[x0,x1,x2,x3,x4]→Tryz.prog.keyLits (d+1) 3 [.int .i64 x]=some [.int .i64 x]:=fun d x hx=>by
  simp only [Program.keyLits,Tryz.underlying3,h2 x hx,and_self,if_true]
 have hs:Tryz.prog.types.size+1=(Tryz.prog.types.size-1)+1+1:=by
  have:0<Tryz.prog.types.size:=by
   have:decide (0<Tryz.prog.types.size)=true:=by kernel_rfl
   simpa using this
  omega
 simp only [keyOf,Tryz.underlying76,ht,hf,Bool.and_self,if_true]
 rw [hs]
 simp only [Program.keyLits,Tryz.underlying76,c76,c3]
 have w0:=h2 x0 (by simp)
 have w1:=h2 x1 (by simp)
 have w2:=h2 x2 (by simp)
 have w3:=h2 x3 (by simp)
 have w4:=h2 x4 (by simp)
 simp [ai,Value.cells,List.range,List.range.loop,e,klit,keyBytes,w0,w1,w2,w3,w4]
theorem klit_inj {k k':List Int} (h:KeyOk k) (h':KeyOk k') (e:klit k=klit k'):k=k':=by
 have:=law76.inj (keyOf76 h) (e▸keyOf76 h')
 simp only [Value.agg.injEq,ai,List.toArray_inj] at this
 have inj:∀ (a b:List Int),a.map (Value.int .i64)=b.map (Value.int .i64)→a=b:=by
  intro a
  induction a with
  | nil=>intro b h;cases b with
   | nil=>rfl
   | cons y b=>simp at h
  | cons x a ih=>intro b h;cases b with
   | nil=>simp at h
   | cons y b=>simp at h;rw [h.1,ih b (by simpa using h.2)]
 exact inj _ _ (congrArg Array.toList this)
theorem klit_ne {k k':List Int} (h:KeyOk k) (h':KeyOk k'):(klit k).sameKey (klit k')=decide (k=k'):=by
 by_cases e:k=k'
 ·subst e;simp [klit,Lit.sameKey]
 ·have:klit k≠klit k':=fun x=>e (klit_inj h h' x)
  simp only [klit,Lit.string.injEq,ne_eq] at this
  simp [klit,Lit.sameKey,this,e]
def Rv (v:Value):Option (DataW Value × List MemPlace):=some (.held v,[])
def encE (p:List Int × Value):Lit × DataW Value:=(klit p.1,.held p.2)
theorem insert_perm {H:Type} (x:Lit × DataW H):∀ l:List (Lit × DataW H),(DataW.insert x l).Perm (x::l)
 | []=>.refl _
 | y::r=>by
  unfold DataW.insert
  split
  ·exact .refl _
  ·exact ((insert_perm x r).cons y).trans (.swap x y r)
theorem insert_enc (p:List Int × Value):∀ M:List (List Int × Value),∃ L:List (List Int × Value),L.map encE=DataW.insert (encE p) (M.map encE)∧L.Perm (p::M)
 | []=>⟨[p],rfl,.refl _⟩
 | y::r=>by
  simp only [List.map_cons,DataW.insert]
  split
  ·exact ⟨p::y::r,rfl,.refl _⟩
  ·obtain ⟨L,h1,h2⟩:=insert_enc p r
   exact ⟨y::L,by simp [h1],(h2.cons y).trans (.swap p y r)⟩
structure CMap (w:World) (b:Nat) (L:List (List Int × Value)):Prop where
 keys:∀ p∈L,KeyOk p.1
 nodup:(L.map (·.1)).Nodup
 own:∃ L':List (List Int × Value),L'.Perm L∧∃ n,w.ownsMap Tryz.prog 76 Rv b n (.map (L'.map encE))
theorem own_len {w:World} {b n:Nat} {E:List (Lit × DataW Value)} (h:w.ownsMap Tryz.prog 76 Rv b n (.map E)):w.ownsMap Tryz.prog 76 Rv b E.length (.map E):=by
 obtain ⟨es,clock,h1,h2,h3,h4⟩:=h
 refine ⟨es,clock,h1,h2,?_,h4⟩
 cases h4
 rw [length_sorted];simp
theorem CMap.kept {w w':World} {b:Nat} {L:List (List Int × Value)} (h:CMap w b L) (hb:w'.heap[b]?=w.heap[b]?):CMap w' b L:=by
 obtain ⟨L',h1,n,es,clock,h2,h3⟩:=h.own
 exact ⟨h.keys,h.nodup,L',h1,n,es,clock,hb.trans h2,h3⟩
theorem CMap.made (w:World):CMap (w.alloc (.map #[] 0)) w.heap.size []:=
 ⟨fun p hp=>by simp at hp,by simp,[],.refl _,0,World.ownsMap_made w Tryz.prog 76 Rv⟩
theorem CMap.lt {w:World} {b:Nat} {L:List (List Int × Value)} (h:CMap w b L):b<w.heap.size:=by
 obtain ⟨_,_,_,h2⟩:=h.own
 exact h2.lt
theorem find_enc {k:List Int} (hk:KeyOk k):∀ L:List (List Int × Value),(∀ p∈L,KeyOk p.1)→((L.map encE).find? fun p=>p.1.sameKey (klit k))=(L.find? fun p=>decide (p.1=k)).map encE
 | [],_=>rfl
 | p::L,h=>by
  simp only [List.map_cons,List.find?_cons]
  rw [show (encE p).1.sameKey (klit k)=decide (p.1=k) from klit_ne (h p (by simp)) hk]
  by_cases e:p.1=k
  ·simp [e]
  ·simp only [e,decide_false]
   exact find_enc hk L fun q hq=>h q (by simp [hq])
def look (L:List (List Int × Value)) (k:List Int):Option Value:=(L.find? fun p=>decide (p.1=k)).map (·.2)
theorem look_iff {L:List (List Int × Value)} (hn:(L.map (·.1)).Nodup) {k:List Int} {v:Value}:look L k=some v↔(k,v)∈L:=by
 induction L with
 | nil=>simp [look]
 | cons p L ih=>
  simp only [List.map_cons,List.nodup_cons] at hn
  unfold look at ih ⊢
  rw [List.find?_cons]
  by_cases e:p.1=k
  ·subst e
   simp only [decide_true,Option.map_some,Option.some.injEq,List.mem_cons]
   constructor
   ·rintro rfl;exact .inl rfl
   ·rintro (h|h)
    ·rw [← h]
    ·exact absurd (List.mem_map.2 ⟨_,h,rfl⟩) hn.1
  ·simp only [e,decide_false,List.mem_cons]
   rw [ih hn.2]
   constructor
   ·exact .inr
   ·rintro (h|h)
    ·exact absurd (by rw [← h]) e
    ·exact h
theorem look_perm {L L':List (List Int × Value)} (hp:L'.Perm L) (hn:(L.map (·.1)).Nodup) (k:List Int):look L' k=look L k:=by
 apply Option.ext
 intro v
 rw [look_iff hn,look_iff ((hp.map _).nodup_iff.2 hn),hp.mem_iff]
theorem CMap.lookup {w:World} {b:Nat} {L:List (List Int × Value)} (h:CMap w b L) {k:List Int} (hk:KeyOk k) :
  (Instr.lookup 70 (.map (some b)) (.agg (ai .i64 k)) false).run Tryz.prog w=.ok ((look L k).getD (.pointer none)) w:=by
 obtain ⟨L',h1,n,h2⟩:=h.own
 obtain ⟨v,ps,hrun,hv⟩:=h2.lookup keyed76 Tryz.underlying70 (Tryz.zeroValue78 w) (zd:=.held (.pointer none)) (zp:=[]) rfl (keyOf76 hk)
 rw [hrun]
 have e:(DataW.map (L'.map encE)).atKey (klit k) (.held (.pointer none))=.held ((look L k).getD (.pointer none)):=by
  simp only [DataW.atKey,find_enc hk L' fun p hp=>h.keys p (h1.mem_iff.1 hp)]
  rw [← look_perm h1 h.nodup]
  unfold look
  cases L'.find? fun p=>decide (p.1=k)<;>rfl
 rw [e] at hv
 simp only [Rv,Option.some.injEq,Prod.mk.injEq,DataW.held.injEq] at hv
 rw [hv.1]
def putL (k:List Int) (v:Value) (L:List (List Int × Value)):List (List Int × Value):=(k,v)::L.filter fun p=>!decide (p.1=k)
theorem CMap.update {w:World} {b:Nat} {L:List (List Int × Value)} (h:CMap w b L) (hn:L.length<maxLen) {k:List Int} (hk:KeyOk k) (v:Value) :
  ∃ w',(Instr.mapUpdate 70 (.map (some b)) (.agg (ai .i64 k)) v).run Tryz.prog w=.ok () w'∧CMap w' b (putL k v L)∧w.grownBy w' (some b):=by
 obtain ⟨L',h1,n,h2⟩:=h.own
 have hlen:(L'.map encE).length<maxLen:=by simpa [h1.length_eq] using hn
 obtain ⟨w',hrun,h3,h4⟩:=(own_len h2).update keyed76 Tryz.underlying70 hlen (keyOf76 hk) (val:=v) (d:=.held v) (ps:=[]) rfl
 refine ⟨w',hrun,⟨fun p hp=>?_,?_,?_⟩,h4⟩
 ·rcases List.mem_cons.1 hp with rfl|hp
  ·exact hk
  ·exact h.keys p (List.mem_filter.1 hp).1
 ·simp only [putL,List.map_cons,List.nodup_cons]
  constructor
  ·intro hm
   obtain ⟨p,hp,e⟩:=List.mem_map.1 hm
   have:=(List.mem_filter.1 hp).2
   simp [e] at this
  ·exact (List.Sublist.map _ (List.filter_sublist)).nodup h.nodup
 ·have e:(DataW.map (L'.map encE)).put (klit k) (.held v)=.map (DataW.insert (encE (k,v)) ((L'.filter fun p=>!decide (p.1=k)).map encE)):=by
   have ef:(L'.map encE).filter (fun p=>!p.1.sameKey (klit k))=(L'.filter fun p=>!decide (p.1=k)).map encE:=by
    rw [List.filter_map]
    refine congrArg (List.map encE) (List.filter_congr fun p hp=>?_)
    simp only [Function.comp]
    rw [show (encE p).1.sameKey (klit k)=decide (p.1=k) from klit_ne (h.keys p (h1.mem_iff.1 hp)) hk]
   show DataW.map (DataW.insert _ ((L'.map encE).filter (fun p=>!p.1.sameKey (klit k))))=_
   rw [ef]
   rfl
  rw [e] at h3
  obtain ⟨L2,e2,hp2⟩:=insert_enc (k,v) (L'.filter fun p=>!decide (p.1=k))
  rw [← e2] at h3
  exact ⟨L2,hp2.trans ((h1.filter _).cons _),_,h3⟩
end Go.Sim.Z
namespace Go.Sim.Z
open Go Go.Proofs Go.RowKit Go.Maps Go.Sort Go.Shelf
abbrev KeyT:={ k:List Int // KeyOk k }
def encK (x:KeyT):Value:=.agg (ai .i64 x.1)
theorem keyOf76_inv {v:Value} {l:Lit} (h:keyOf Tryz.prog 76 v=some l):∃ x:KeyT,v=encK x:=by
 have c76:Tryz.prog.cellsOf 76=5:=by kernel_rfl
 have c3:Tryz.prog.cellsOf 3=1:=by kernel_rfl
 simp only [keyOf,Tryz.underlying76] at h
 split at h
 ·rename_i hf
  simp only [Bool.and_eq_true] at hf
  obtain ⟨_,hf⟩:=hf
  cases v with
  | agg cs=>
   simp only [Value.formed,Tryz.underlying76,c76] at hf
   have hs:cs.size=5:=by simpa using hf
   obtain ⟨l5⟩:=cs
   simp only [List.size_toArray] at hs
   obtain ⟨x0,x1,x2,x3,x4,rfl⟩:∃ x0 x1 x2 x3 x4,l5=[x0,x1,x2,x3,x4]:=by
    rcases l5 with _|⟨x0,_|⟨x1,_|⟨x2,_|⟨x3,_|⟨x4,_|⟨x5,l⟩⟩⟩⟩⟩⟩<;>simp at hs
    exact ⟨_,_,_,_,_,rfl⟩
   have hsz:Tryz.prog.types.size+1=(Tryz.prog.types.size-1)+1+1:=by
    have:0<Tryz.prog.types.size:=by
     have:decide (0<Tryz.prog.types.size)=true:=by kernel_rfl
     simpa using this
    omega
   have one:∀ d x ls,Tryz.prog.keyLits (d+1) 3 [x]=some ls→∃ n,x=.int .i64 n∧(Lit.int .i64 n).wf=true:=by
    intro d x ls hx
    simp only [Program.keyLits,Tryz.underlying3] at hx
    cases x with
    | int q n=>
     by_cases hq:q=.i64∧(Lit.int .i64 n).wf=true
     ·obtain ⟨rfl,hw⟩:=hq;exact ⟨n,rfl,hw⟩
     ·simp [hq] at hx
    | _=>simp at hx
   rw [hsz] at h
   generalize Tryz.prog.types.size-1=d at h
   obtain ⟨a,ha,_⟩:=Option.map_eq_some_iff.1 h
   unfold Program.keyLits at ha
   simp only [Tryz.underlying76,c76,c3,Value.cells,List.length_cons,List.length_nil,if_true] at ha
   have o0:=one d x0
   have o1:=one d x1
   have o2:=one d x2
   have o3:=one d x3
   have o4:=one d x4
   generalize hk:Tryz.prog.keyLits (d+1) 3=K at ha o0 o1 o2 o3 o4
   clear hk
   simp [List.range,List.range.loop] at ha
   cases k0:K [x0] with
   | none=>simp [k0] at ha
   | some r0=>cases k1:K [x1] with
    | none=>simp [k0,k1] at ha
    | some r1=>cases k2:K [x2] with
     | none=>simp [k0,k1,k2] at ha
     | some r2=>cases k3:K [x3] with
      | none=>simp [k0,k1,k2,k3] at ha
      | some r3=>cases k4:K [x4] with
       | none=>simp [k0,k1,k2,k3,k4] at ha
       | some r4=>
        obtain ⟨n0,rfl,w0⟩:=o0 _ k0
        obtain ⟨n1,rfl,w1⟩:=o1 _ k1
        obtain ⟨n2,rfl,w2⟩:=o2 _ k2
        obtain ⟨n3,rfl,w3⟩:=o3 _ k3
        obtain ⟨n4,rfl,w4⟩:=o4 _ k4
        exact ⟨⟨[n0,n1,n2,n3,n4],rfl,by simp [w0,w1,w2,w3,w4]⟩,rfl⟩
  | _=>simp [Value.formed,Tryz.underlying76] at hf
 ·cases h
def CollK (D0:DataW Value) (left:Lit→Bool) (ss:List KeyT):Prop:=ss.Nodup∧∀ x:KeyT,x∈ss↔(has D0 (klit x.1)=true∧left (klit x.1)=false)
section
variable {D0:DataW Value} {left:Lit→Bool} {ss:List KeyT}
theorem CollK.start (D0:DataW Value):CollK D0 (has D0) []:=⟨List.nodup_nil,fun x=>by cases has D0 (klit x.1)<;>simp⟩
theorem CollK.step (h:CollK D0 left ss) {x:KeyT} {y:DataW Value} (hlk:left (klit x.1)=true) (hat:∀ zd,D0.atKey (klit x.1) zd=y):CollK D0 (fun z=>left z && !z.sameKey (klit x.1)) (ss++[x]):=by
 have hhas:has D0 (klit x.1)=true:=has_true_of_atKey hat
 have hnew:x∉ss:=fun hx=>by have:=((h.2 x).1 hx).2;rw [hlk] at this;cases this
 refine ⟨List.nodup_append.2 ⟨h.1,by simp,fun a ha b hb=>by simp at hb;subst hb;exact fun e=>hnew (e▸ha)⟩,fun y=>?_⟩
 by_cases hy:y=x
 ·subst hy;simp [hhas,klit_ne y.2 y.2]
 ·have:y.1≠x.1:=fun e=>hy (Subtype.ext e)
  simp [h.2 y,hy,klit_ne y.2 x.2,this]
end
theorem has_enc {L:List (List Int × Value)} (h:∀ p∈L,KeyOk p.1) {k:List Int} (hk:KeyOk k):has (DataW.map (L.map encE)) (klit k)=true↔k∈L.map (·.1):=by
 simp only [has,List.any_eq_true,List.mem_map]
 constructor
 ·rintro ⟨_,⟨p,hp,rfl⟩,hs⟩
  rw [show (encE p).1.sameKey (klit k)=decide (p.1=k) from klit_ne (h p hp) hk] at hs
  exact ⟨p,hp,by simpa using hs⟩
 ·rintro ⟨p,hp,rfl⟩
  exact ⟨_,⟨p,hp,rfl⟩,by rw [show (encE p).1.sameKey (klit p.1)=decide (p.1=p.1) from klit_ne (h p hp) hk];simp⟩
def KeysOf (L:List (List Int × Value)) (ss:List KeyT):Prop:=(ss.map (·.1)).Perm (L.map (·.1))
theorem CollK.perm {L:List (List Int × Value)} {L':List (List Int × Value)} (hp:L'.Perm L) (hk:∀ p∈L,KeyOk p.1) (hn:(L.map (·.1)).Nodup) {left:Lit→Bool} {ss:List KeyT} (h:CollK (.map (L'.map encE)) left ss) (hl:∀ kl,left kl=false):KeysOf L ss:=by
 have hk':∀ p∈L',KeyOk p.1:=fun p hp'=>hk p (hp.mem_iff.1 hp')
 refine (List.perm_ext_iff_of_nodup ?_ hn).2 fun k=>?_
 ·exact List.pairwise_map.2 (h.1.imp fun hne e=>hne (Subtype.ext e))
 ·rw [← (hp.map (·.1)).mem_iff]
  constructor
  ·intro hm
   obtain ⟨x,hx,rfl⟩:=List.mem_map.1 hm
   exact (has_enc hk' x.2).1 ((h.2 x).1 hx).1
  ·intro hm
   obtain ⟨p,hp',rfl⟩:=List.mem_map.1 hm
   exact List.mem_map.2 ⟨⟨p.1,hk' p hp'⟩,(h.2 _).2 ⟨(has_enc hk' (hk' p hp')).2 hm,hl _⟩,rfl⟩
set_option maxRecDepth 100000 in
set_option maxHeartbeats 1000000 in
theorem keys1N_in (F:Fence) (n:Nat) (h10:F.fn 74) (hro:F.round=none) (hn:1≤n) (l Bm b nn:Nat) (L0:List (List Int × Value)) (hkeys:∀ p∈L0,KeyOk p.1) (hnd:(L0.map (·.1)).Nodup) (J:List KeyT→World→Prop)
  (hY:∀ pre x W,J pre W→pre.length<L0.length→YieldAt F (n-1) Tryz.prog l #[encK x] W fun e W'=>e=.returned (.bool true)∧J (pre++[x]) W'∧KeepsWalks W W')
  (W:World) (hJ:AbidesFrom W.heap.size J) (hm:W.cell? ⟨Bm,0,none⟩=some (.map (some b))) (L':List (List Int × Value)) (hL':L'.Perm L0) (hown:W.ownsMap Tryz.prog 76 Rv b nn (.map (L'.map encE))) (h0:J [] W) :
  CallsIn F n Tryz.prog 74 #[.func (.yield l) #[] #[],.pointer (some ⟨Bm,0,none⟩)] W fun e W'=>(∃ v,e=.returned v)∧∃ ss:List KeyT,KeysOf L0 ss∧J ss W':=by
 have hsize:Maps.size (DataW.map (L'.map encE))=L0.length:=by simp [Maps.size,hL'.length_eq]
 refine callsIn_of_wp Tryz.func74 rfl h10 ?_ hro
 simp only [Tryz.ntmps74,List.size_toArray,List.length_cons,List.length_nil,Nat.reduceAdd,Nat.reduceSub,Array.replicate_succ,Array.replicate_zero,List.push_toArray,List.append_toArray,List.nil_append,List.cons_append]
 gi_wp2_with (first
  | (gi_at_range;refine wpListIn_range_own _ rfl _ 70 rfl 76 78 keyed76 Tryz.underlying70 _ b nn _ rfl hown ?_;intro w0 hrg0 hg0 hs0)
  | gi_in)
 go_frame
 gi_loopw [6] (fun _ wr=>∃ (left:Lit→Bool) (cnt:Nat) (ss:List KeyT),wr.ranges Tryz.prog 76 Rv b W.heap.size nn (.map (L'.map encE)) left cnt∧ss.length+cnt≤L0.length∧CollK (.map (L'.map encE)) left ss∧J ss wr)
  (fun _ wr=>wr.rangeLeft b W.heap.size)
 case atStart=>
  exact ⟨_,_,[],hrg0,by simp [hsize],CollK.start _,hJ [] W w0 none h0 hg0 (fun r e=>by cases e)⟩
 case round=>
  obtain ⟨left,cnt,ss,hrg,hcs,hC,hJs⟩:=hrel
  gi_wp2_with (first
   | (gi_at_next;refine wpListIn_next_ranges _ rfl _ rfl 76 keyed76 Rv encK id (fun key kl hk=>keyOf76_inv hk) (fun v _ _=>⟨v,rfl⟩) b W.heap.size nn _ _ _ rfl hrg ?_ ?_)
   | gi_in)
  ·
   intro hc0 hl0
   gi_wp2
   go_end0
   exact ⟨⟨_,rfl⟩,ss,hC.perm hL' hkeys hnd hl0,hJs⟩
  ·
   intro xs hxs c kl yd yp w2 cnt2 hkey hlk hv hat hrg2 hlt hg2 hs2 hen
   have hke:kl=klit xs:=by
    have:=hkey.symm.trans (keyOf76 hxs)
    exact Option.some.inj this
   subst hke
   have hJ2:J ss w2:=hJ ss wr w2 (some W.heap.size) hJs hg2 (fun r e=>by cases e;exact ⟨Nat.le_refl _,hrg.iter_walk⟩)
   obtain ⟨x0,x1,x2,x3,x4,rfl⟩:∃ x0 x1 x2 x3 x4,xs=[x0,x1,x2,x3,x4]:=by
    have h1:=hxs.1
    rcases xs with _|⟨x0,_|⟨x1,_|⟨x2,_|⟨x3,_|⟨x4,_|⟨x5,l⟩⟩⟩⟩⟩⟩<;>simp at h1
    exact ⟨_,_,_,_,_,rfl⟩
   have hJ3:J ss (w2.alloc (.cells #[.int .i64 x0,.int .i64 x1,.int .i64 x2,.int .i64 x3,.int .i64 x4] 76)):=hJ ss w2 _ none hJ2 (World.grownBy_alloc _ _ _) (fun r e=>by cases e)
   obtain ⟨fn,tmps,assign,body,hy,hR⟩:=hY ss ⟨[x0,x1,x2,x3,x4],hxs⟩ _ hJ3 (by omega)
   simp only [encK,ai,List.map_cons,List.map_nil] at hy hen
   clear hs2 hJ3
   gi_wp2
   refine hR.mono ?_
   rintro e W3 ⟨rfl,hJ3,hk3⟩
   gi_wp2
   have hrg3:=hrg2.of_walks ((KeepsWalks.alloc _ _).trans hk3)
   have hC2:=hC.step (x:=⟨[x0,x1,x2,x3,x4],hxs⟩) hlk hat
   go_roundw
   case rel=>exact ⟨_,cnt2,ss++[⟨[x0,x1,x2,x3,x4],hxs⟩],hrg3,by simp;omega,hC2,hJ3⟩
   case measure=>rw [hrg3.left_eq,hrg.left_eq];exact hlt
theorem keys_calls (mb:Option Nat) (w:World) :
  Calls Tryz.prog 56 #[.map mb] w fun e w'=>e=.returned (.func (.func 74) #[] #[.pointer (some ⟨w.heap.size,0,none⟩)])∧w'=w.alloc (.cells #[.map mb] 70):=by
 go_enter Tryz.func56,Tryz.ntmps56
 go_wp2
 go_ret
 exact ⟨rfl,rfl⟩
theorem keys_gives (F:Fence) (n:Nat) (h10:F.fn 74) (hro:F.round=none) (hn:1≤n) (Bm b:Nat) (L0:List (List Int × Value)) (w:World) (hBm:Bm<w.heap.size)
  (hm:w.cell? ⟨Bm,0,none⟩=some (.map (some b))) (hown:CMap w b L0) :
  SeqGives F n Tryz.prog 74 #[.pointer (some ⟨Bm,0,none⟩)] encK (KeysOf L0) L0.length w:=fun l J W hW hJ hY h0=>by
 have hown':CMap W b L0:=hown.kept (hW.block b hown.lt)
 obtain ⟨L',hL',nn,ho⟩:=hown'.own
 exact keys1N_in F n h10 hro hn l Bm b nn L0 hown.keys hown.nodup J hY W hJ ((hW.cell (p:=⟨Bm,0,none⟩) hBm).trans hm) L' hL' ho h0
def apAssign:Code:=(Code.region 2 #[{ dst:=some 5,op:=Op.alloc 76,type:=0,pos:= "iter.go:51",after:=#[],guard:=none },{ dst:=none,op:=Op.store 76 (Operand.tmp 5) (Operand.tmp 7),type:=0,pos:= "iter.go:51",after:=#[{ on:=0,ground:=Ground.data },{ on:=0,ground:=Ground.phase }],guard:=none }] false)
def apBody:Code:=(Code.block 1 (Code.region 3 #[{ dst:=some 8,op:=Op.load 88 (Operand.tmp 2),type:=88,pos:= "iter.go:52",after:=#[],guard:=none },{ dst:=some 9,op:=Op.load 76 (Operand.tmp 5),type:=76,pos:= "iter.go:52",after:=#[],guard:=none },{ dst:=some 10,op:=Op.buildSlice 88 1 #[(0,Operand.tmp 9)],type:=88,pos:= "iter.go:52",after:=#[{ on:=1,ground:=Ground.data }],guard:=none },{ dst:=some 11,op:=Op.call { callee:=Callee.builtin Builtin.append,args:=#[Operand.tmp 8,Operand.tmp 10],argTypes:=#[88,88] },type:=88,pos:= "iter.go:52",after:=#[{ on:=0,ground:=Ground.data },{ on:=2,ground:=Ground.data }],guard:=none },{ dst:=none,op:=Op.store 88 (Operand.tmp 2) (Operand.tmp 11),type:=0,pos:= "iter.go:52",after:=#[{ on:=3,ground:=Ground.data },{ on:=3,ground:=Ground.chain },{ on:=0,ground:=Ground.phase },{ on:=1,ground:=Ground.phase },{ on:=2,ground:=Ground.phase },{ on:=3,ground:=Ground.phase }],guard:=none }] false))
def kcells (ss:List KeyT):List Value:=ss.flatMap fun x=>x.1.map (Value.int .i64)
theorem kcells_append (ss:List KeyT) (x:KeyT):kcells (ss++[x])=kcells ss++x.1.map (Value.int .i64):=by simp [kcells]
theorem kcells_length (ss:List KeyT):(kcells ss).length=ss.length*5:=by
 induction ss with
 | nil=>rfl
 | cons x ss ih=>
  have:kcells (x::ss)=x.1.map (Value.int .i64)++kcells ss:=rfl
  rw [this,List.length_append,ih,List.length_map,x.2.1,List.length_cons];omega
def apRec (fn:FuncId) (sv:Value) (Bs D:Nat) (st:LoopState) (pend:Option Code):Loop:=
 { state:=st,pending:=pend,fn,tmps:=#[.slice none 0 0,sv,.pointer (some ⟨Bs,0,none⟩),undef,.slice none 0 0,undef,sv,undef,undef,undef,undef,undef,undef],params:=#[7],assign:=apAssign,body:=apBody,defers:=D }
structure PR (W:World) (base:Nat) (v:Value) (ss:List KeyT):Prop where
 own:W.ownsRow base 76 5 v ss.length (kcells ss)
 pl:PlainV W v
theorem PR.lt {W:World} {base:Nat} {v:Value} {ss:List KeyT} (h:PR W base v ss) {g n cap:Nat} (e:v=.slice (some ⟨g,0,none⟩) n cap):g<W.heap.size:=by
 rcases h.own.2 with ⟨rfl,_⟩|⟨g',cap',cur,rfl,_,hg,_⟩
 ·cases e
 ·cases e;exact lt_of hg
theorem PR.kept {W W':World} {row:Option Nat} {base:Nat} {v:Value} {ss:List KeyT} (h:PR W base v ss) (hg:W.grownBy W' row) (hne:v.ownBlock=none∨v.ownBlock≠row):PR W' base v ss:=by
 refine ⟨h.own.kept hg hne,h.pl.kept fun g n cap e=>hg.block g (h.lt e) fun e'=>?_⟩
 subst e
 rcases hne with h1|h1
 ·cases h1
 ·exact h1 e'
theorem PR.abides {W W':World} {row:Option Nat} {base:Nat} {v:Value} {ss:List KeyT} (h:PR W base v ss) (hg:W.grownBy W' row) (hrow:∀ r,row=some r→∃ o:Obj,W.heap[r]?=some o∧o.isWalk=true):PR W' base v ss:=by
 refine h.kept hg ?_
 rcases h.own.2 with ⟨rfl,_⟩|⟨g',cap',cur,rfl,_,hgb,_⟩
 ·exact .inl rfl
 ·refine .inr fun e=>?_
  obtain ⟨o,ho,hw⟩:=hrow g' e.symm
  rw [hgb] at ho
  cases ho
  cases hw
structure ApAt (w0:World) (fn:FuncId) (sv:Value) (Bs l D:Nat) (ss:List KeyT) (W:World):Prop where
 box:∃ v,W.heap[Bs]?=some (.cells #[v] 88 (0,0))∧PR W w0.heap.size v ss∧(v=.slice none 0 0↔ss=[])
 L:W.heap[l]?=some (.loop (apRec fn sv Bs D .ready none))
 K:W.heap[D]?=some (.deferred (some []))
 below:Below w0.heap.size w0 W
theorem ap_abides (w0:World) (fn:FuncId) (sv:Value) (Bs l D B:Nat) (hB:w0.heap.size≤B):AbidesFrom B (ApAt w0 fn sv Bs l D):=fun s W W' row h hg hrow=>by
 have hrow':∀ r,row=some r→∃ o:Obj,W.heap[r]?=some o∧o.isWalk=true:=fun r e=>(hrow r e).2
 obtain ⟨v,hv,hr,hn⟩:=h.box
 exact ⟨⟨v,(grownBy_keeps hg hrow' hv rfl).trans hv,hr.abides hg hrow',hn⟩,(grownBy_keeps hg hrow' h.L rfl).trans h.L,(grownBy_keeps hg hrow' h.K rfl).trans h.K,
  h.below.grown hg h.below.size (fun k e=>Nat.le_trans hB (hrow k e).1)⟩
theorem info76:(Tryz.prog.info? 76).map (fun i=>(i.zero,i.size,i.bytes))=some (some (.agg #[.int .i64 0,.int .i64 0,.int .i64 0,.int .i64 0,.int .i64 0]),5,40):=by kernel_rfl
theorem cells5_new {w:World} {a0 a1 a2 a3 a4:Value} {t:TypeId}:∀ j u,([a0,a1,a2,a3,a4]:List Value)[j]?=some u→(w.alloc (.cells #[a0,a1,a2,a3,a4] t)).cell? ((⟨w.heap.size,0,none⟩:Addr).add j)=some u:=by
 intro j u hj
 have hh:=heap_new (w:=w) (.cells #[a0,a1,a2,a3,a4] t)
 have:(⟨w.heap.size,0,none⟩:Addr).add j=⟨w.heap.size,j,none⟩:=by unfold Addr.add;split<;>simp_all
 rw [this,cell_of hh j]
 simpa using hj
set_option maxRecDepth 100000 in
set_option maxHeartbeats 2000000 in
theorem apYield (F:Fence) (m:Nat) (w0:World) (fn:FuncId) (hfn:F.fn fn) (sv:Value) (Bs l D:Nat) (hBl:Bs≠l) (hDl:D≠l) (hDB:D≠Bs) (h0B:w0.heap.size≤Bs) (h0l:w0.heap.size≤l)
  (N:Nat) (hN:N≤maxLen) (hNb:N*40≤140737488355328) (ss:List KeyT) (x:KeyT) (W:World) (h:ApAt w0 fn sv Bs l D ss W) (hlen:ss.length<N) :
  YieldAt F m Tryz.prog l #[encK x] W fun e W'=>e=.returned (.bool true)∧ApAt w0 fn sv Bs l D (ss++[x]) W'∧KeepsWalks W W':=by
 have hne:(88:TypeId)≠76:=by decide
 obtain ⟨i0,hi,hz0,hz1,hz2⟩:=info_parts info76
 obtain ⟨v,hv,hrow,_⟩:=h.box
 obtain ⟨xs,hxs⟩:=x
 obtain ⟨x0,x1,x2,x3,x4,rfl⟩:∃ x0 x1 x2 x3 x4,xs=[x0,x1,x2,x3,x4]:=by
  have h1:=hxs.1
  rcases xs with _|⟨x0,_|⟨x1,_|⟨x2,_|⟨x3,_|⟨x4,_|⟨x5,l⟩⟩⟩⟩⟩⟩<;>simp at h1
  exact ⟨_,_,_,_,_,rfl⟩
 have hkc:=kcells_append ss ⟨[x0,x1,x2,x3,x4],hxs⟩
 simp only [List.map_cons,List.map_nil] at hkc
 simp only [encK,ai,List.map_cons,List.map_nil]
 generalize hX:(⟨[x0,x1,x2,x3,x4],hxs⟩:KeyT)=X at hkc ⊢
 refine ⟨fn,#[.slice none 0 0,sv,.pointer (some ⟨Bs,0,none⟩),undef,.slice none 0 0,undef,sv,.agg #[.int .i64 x0,.int .i64 x1,.int .i64 x2,.int .i64 x3,.int .i64 x4],undef,undef,undef,undef,undef],apAssign,apBody,by simpa [apRec] using run_yield (P:=Tryz.prog) (args:=#[.agg #[.int .i64 x0,.int .i64 x1,.int .i64 x2,.int .i64 x3,.int .i64 x4]]) h.L rfl,roundIn_of_wpIn hfn ?_⟩
 unfold apAssign
 gi_wp2_with gi_round_op_a
 obtain ⟨Wn,hWn⟩:∃ Wn,W.alloc (.cells #[.int .i64 x0,.int .i64 x1,.int .i64 x2,.int .i64 x3,.int .i64 x4] 76)=Wn:=⟨_,rfl⟩
 have hgn:W.grownBy Wn none:=by rw [← hWn];exact World.grownBy_alloc _ _ _
 have hkn:KeepsWalks W Wn:=by rw [← hWn];exact KeepsWalks.alloc _ _
 have hA:ApAt w0 fn sv Bs l D ss Wn:=ap_abides w0 fn sv Bs l D w0.heap.size (Nat.le_refl _) ss W Wn none h hgn (fun r e=>by cases e)
 have hbx:Wn.heap[W.heap.size]?=some (.cells #[.int .i64 x0,.int .i64 x1,.int .i64 x2,.int .i64 x3,.int .i64 x4] 76):=by rw [← hWn];exact heap_new _
 have hlb:l≠W.heap.size:=by have:=(Array.getElem?_eq_some_iff.1 h.L).1;omega
 rw [hWn]
 generalize W.heap.size=Bx at hbx hlb ⊢
 clear hWn hgn hv hrow
 obtain ⟨v,hv,hrow,_⟩:=hA.box
 have hkn0:=hkn
 clear hkn
 have hl:l<Wn.heap.size:=(Array.getElem?_eq_some_iff.1 hA.L).1
 have hbr:=run_beginRound (P:=Tryz.prog) hA.L rfl
 obtain ⟨W2,hW2⟩:∃ W2,Wn.putObj l (.loop { apRec fn sv Bs D .ready none with state:=.busy })=W2:=⟨_,rfl⟩
 rw [hW2] at hbr
 have hg2:Wn.grownBy W2 (some l):=by rw [← hW2];exact grownBy_putObj_a _ _ _
 have hk2:KeepsWalks W W2:=hkn0.trans (by rw [← hW2];exact KeepsWalks.putObj _ hA.L rfl)
 have hv2:W2.heap[Bs]?=some (.cells #[v] 88 (0,0)):=by rw [← hW2];exact (World.putObj_heap_other hBl).trans hv
 have hbx2:W2.heap[Bx]?=some (.cells #[.int .i64 x0,.int .i64 x1,.int .i64 x2,.int .i64 x3,.int .i64 x4] 76):=by rw [← hW2];exact (World.putObj_heap_other (Ne.symm hlb)).trans hbx
 have hK2:W2.heap[D]?=some (.deferred (some [])):=by rw [← hW2];exact (World.putObj_heap_other hDl).trans hA.K
 have hL2:W2.heap[l]?=some (.loop { apRec fn sv Bs D .ready none with state:=.busy }):=by rw [← hW2];exact World.putObj_heap_same hl
 have hrow2:PR W2 w0.heap.size v ss:=hrow.kept hg2 (ownsRow_ne_a hrow.own hA.L (fun cur e=>by first|cases e|exact hne (Obj.cells.inj e).2.1))
 have hb2:Below w0.heap.size w0 W2:=hA.below.grown hg2 hA.below.size (fun k e=>by cases e;exact h0l)
 obtain ⟨hc2,hf2⟩:=cell_of_box_a hv2
 have hBlt:Bs<W2.heap.size:=(Array.getElem?_eq_some_iff.1 hv2).1
 have hl2:l<W2.heap.size:=(Array.getElem?_eq_some_iff.1 hL2).1
 have hDlt:D<W2.heap.size:=(Array.getElem?_eq_some_iff.1 hK2).1
 have ne_of:∀ {j:Nat} {o:Obj},W2.heap[j]?=some o→(∀ cur,o≠.cells cur 76 (0,0))→some j≠v.ownBlock:=fun hj hno=>by
  rcases ownsRow_ne_a hrow2.own hj hno with e|e
  ·rw [e];simp
  ·exact fun e'=>e e'.symm
 clear hW2 hbx hv hrow
 have c0:W2.cell? ⟨Bx,0,none⟩=some (.int .i64 x0):=(cell_of hbx2 0).trans rfl
 have c1:W2.cell? ⟨Bx,1,none⟩=some (.int .i64 x1):=(cell_of hbx2 1).trans rfl
 have c2:W2.cell? ⟨Bx,2,none⟩=some (.int .i64 x2):=(cell_of hbx2 2).trans rfl
 have c3:W2.cell? ⟨Bx,3,none⟩=some (.int .i64 x3):=(cell_of hbx2 3).trans rfl
 have c4:W2.cell? ⟨Bx,4,none⟩=some (.int .i64 x4):=(cell_of hbx2 4).trans rfl
 refine ⟨W2,hbr,?_⟩
 unfold apBody
 gi_wp2_with (first
  | (gi_at_builtin;refine wpListIn_append_plain _ rfl _ _ 88 rfl w0.heap.size 76 i0 _ 5 40 Tryz.underlying88 hi hz0 hz1 hz2 rfl (by decide) _ _ _ rfl (hrow2.own.alloc _) ⟨W2.heap.size,0,none⟩ 1 1 [.int .i64 x0,.int .i64 x1,.int .i64 x2,.int .i64 x3,.int .i64 x4] rfl rfl cells5_new (by simp [Value.oneCell']) (by omega) (by omega) (by have:=hb2.size;simp;omega) (hrow2.pl.kept fun g n cap e=>heap_old _ (hrow2.lt e)) (fun u hu=>by rcases List.mem_cons.1 hu with rfl|hu;exact ⟨_,_,rfl⟩;rcases List.mem_cons.1 hu with rfl|hu;exact ⟨_,_,rfl⟩;rcases List.mem_cons.1 hu with rfl|hu;exact ⟨_,_,rfl⟩;rcases List.mem_cons.1 hu with rfl|hu;exact ⟨_,_,rfl⟩;rcases List.mem_cons.1 hu with rfl|hu;exact ⟨_,_,rfl⟩;cases hu) (Plain.ai (xs:=[0,0,0,0,0])) ?_;intro v' w3 hown' hg3 hnil3 hpl3
     have hv3:w3.heap[Bs]?=some (.cells #[v] 88 (0,0)):=(hg3.block Bs (by simp;omega) (ne_of hv2 (fun cur e=>by first|cases e|exact hne (Obj.cells.inj e).2.1))).trans ((Below.heap_alloc _ _ Bs hBlt).trans hv2)
     obtain ⟨hc3,hf3⟩:=cell_of_box_a hv3
     obtain ⟨g',cap',cur',rfl,hbase',hgb',hr1,hr2,hr3,hr4⟩:∃ g' cap' cur',v'=.slice (some ⟨g',0,none⟩) (ss.length+1) cap'∧w0.heap.size≤g'∧w3.heap[g']?=some (.cells cur' 76 (0,0))∧ss.length+1≤cap'∧cap'≤maxLen∧cur'.size=cap'*5∧cur'.toList.take ((ss.length+1)*5)=kcells ss++[.int .i64 x0,.int .i64 x1,.int .i64 x2,.int .i64 x3,.int .i64 x4]:=by
      rcases hown'.2 with ⟨_,h0⟩|h'
      ·exact absurd h0 (by omega)
      ·exact h'
     go_frame)
  | gi_round_op_a)
 have hg3':(W2.alloc (.cells #[.int .i64 x0,.int .i64 x1,.int .i64 x2,.int .i64 x3,.int .i64 x4] 76)).grownBy w3 v.ownBlock:=hg3
 have hL3:w3.heap[l]?=some (.loop { apRec fn sv Bs D .ready none with state:=.busy }):=(hg3'.block l (by simp;omega) (ne_of hL2 (fun cur e=>by first|cases e|exact hne (Obj.cells.inj e).2.1))).trans ((Below.heap_alloc _ _ l hl2).trans hL2)
 have hK3:w3.heap[D]?=some (.deferred (some [])):=(hg3'.block D (by simp;omega) (ne_of hK2 (fun cur e=>by first|cases e|exact hne (Obj.cells.inj e).2.1))).trans ((Below.heap_alloc _ _ D hDlt).trans hK2)
 obtain ⟨w4,hw4⟩:∃ w4,w3.setCell ⟨Bs,0,none⟩ (.slice (some ⟨g',0,none⟩) (ss.length+1) cap')=w4:=⟨_,rfl⟩
 rw [hw4]
 have hg4:w3.grownBy w4 (some Bs):=by rw [← hw4];exact grownBy_setCell0_a _ _ _
 have hv4:w4.heap[Bs]?=some (.cells #[.slice (some ⟨g',0,none⟩) (ss.length+1) cap'] 88 (0,0)):=by rw [← hw4];exact heap_setCell_box_a _ hv3
 have hL4:w4.heap[l]?=some (.loop { apRec fn sv Bs D .ready none with state:=.busy }):=(hg4.block l (Array.getElem?_eq_some_iff.1 hL3).1 (fun e=>hBl (by cases e;rfl))).trans hL3
 have hK4:w4.heap[D]?=some (.deferred (some [])):=(hg4.block D (Array.getElem?_eq_some_iff.1 hK3).1 (fun e=>hDB (by cases e;rfl))).trans hK3
 have hPR:PR w3 w0.heap.size (.slice (some ⟨g',0,none⟩) (ss.length+1) cap') (ss++[X]):=⟨by rw [hkc,List.length_append,List.length_singleton];exact hown',hpl3⟩
 have hrow4:=hPR.kept hg4 (ownsRow_ne_a hown' hv3 (fun cur e=>by first|cases e|exact hne (Obj.cells.inj e).2.1))
 have hl4:l<w4.heap.size:=(Array.getElem?_eq_some_iff.1 hL4).1
 have hb3:Below w0.heap.size w0 w3:=(hb2.alloc hb2.size _).grown hg3' (by have:=hb2.size;simp;omega) (fun k e=>(hrow2.own.lt k e).1)
 have hb4:Below w0.heap.size w0 w4:=hb3.grown hg4 hb3.size (fun k e=>by cases e;exact h0B)
 have hk4:KeepsWalks W w4:=((hk2.trans (KeepsWalks.alloc _ _)).trans (KeepsWalks.of_grownBy hg3' (ownsRow_not_walk_a (hrow2.own.alloc _)))).trans (by rw [← hw4];exact KeepsWalks.setCell _ _ _)
 clear hw4
 refine ⟨_,_,run_endRound none hL4,rfl,⟨⟨_,(World.putObj_heap_other hBl).trans hv4,?_,by simp⟩,World.putObj_heap_same hl4,(World.putObj_heap_other hDl).trans hK4,hb4.grown (grownBy_putObj_a _ _ _) hb4.size (fun k e=>by cases e;exact h0l)⟩,hk4.trans (KeepsWalks.putObj _ hL4 rfl)⟩
 have:=hrow4.kept (grownBy_putObj_a w4 l (.loop { { apRec fn sv Bs D .ready none with state:=.busy } with state:=if (none:Option Code).isNone then .ready else .done,pending:=none })) (ownsRow_ne_a hrow4.own hL4 (fun cur e=>by first|cases e|exact hne (Obj.cells.inj e).2.1))
 exact this
set_option maxRecDepth 100000 in
set_option maxHeartbeats 2000000 in
theorem appendSeq_in (F:Fence) (n:Nat) (h11:F.fn 73) (hro:F.round=none) (hn:2≤n) (g:Nat) (lb:Array Value) (hFg:F.fn g) (eg:∀ args w,(callFunc g args).run Tryz.prog w=.ok (.enter g args) w)
  (S:List KeyT→Prop) (N:Nat) (hN:N≤maxLen) (hNb:N*40≤140737488355328) (w:World) (hseq:SeqGives F (n-1) Tryz.prog g lb encK S N w) :
  CallsIn F n Tryz.prog 73 #[.slice none 0 0,.func (.func g) #[] lb] w fun e w'=>∃ (v:Value) (ss:List KeyT),e=.returned v∧S ss∧PR w' w.heap.size v ss∧(v=.slice none 0 0↔ss=[])∧Below w.heap.size w w':=by
 have h1:1≤n:=by omega
 have hne:(88:TypeId)≠76:=by decide
 refine callsIn_of_wp_marks Tryz.func73 rfl h11 ?_ hro
 simp only [Tryz.ntmps73,List.size_toArray,List.length_cons,List.length_nil,Nat.reduceAdd,Nat.reduceSub,Array.replicate_succ,Array.replicate_zero,List.push_toArray,List.append_toArray,List.nil_append,List.cons_append]
 gi_wp2
 refine wpIn_rangeFunc ?_
 intro fn hfn
 rw [hro]
 obtain ⟨W0,hW0⟩:∃ W0,w.alloc (.cells #[.slice none 0 0] 88)=W0:=⟨_,rfl⟩
 have hs0:W0.heap.size=w.heap.size+1:=by rw [← hW0];simp
 have hv0:W0.heap[w.heap.size]?=some (.cells #[.slice none 0 0] 88 (0,0)):=by rw [← hW0];exact World.alloc_heap_new w _
 have hb0:Below w.heap.size w W0:=by rw [← hW0];exact (Below.refl _ w).alloc (Nat.le_refl _) _
 rw [hW0]
 obtain ⟨W1,hW1⟩:∃ W1,(W0.alloc (.deferred (some []))).alloc (.loop (apRec fn (.func (.func g) #[] lb) w.heap.size W0.heap.size .ready none))=W1:=⟨_,rfl⟩
 have hold:∀ k,k<W0.heap.size→W1.heap[k]?=W0.heap[k]?:=fun k hk=>by
  rw [← hW1];exact (Below.heap_alloc _ _ k (by simp;omega)).trans (Below.heap_alloc _ _ k hk)
 have hb1:Below w.heap.size w W1:=by rw [← hW1];exact (hb0.alloc hb0.size _).alloc (by have:=hb0.size;simp;omega) _
 have hs1:W1.heap.size=W0.heap.size+2:=by rw [← hW1];simp
 have hM:ApAt w fn (.func (.func g) #[] lb) w.heap.size (W0.heap.size+1) W0.heap.size [] W1:=
  ⟨⟨_,(hold w.heap.size (by omega)).trans hv0,⟨⟨rfl,.inl ⟨rfl,rfl⟩⟩,.nil _ _ _⟩,by simp⟩,
   by rw [← hW1];have:=World.alloc_heap_new (W0.alloc (.deferred (some []))) (.loop (apRec fn (.func (.func g) #[] lb) w.heap.size W0.heap.size .ready none));rwa [World.size_alloc] at this,
   by rw [← hW1];exact (Below.heap_alloc _ _ _ (by simp)).trans (World.alloc_heap_new W0 _),hb1⟩
 refine ⟨W0.heap.size+1,[{ target:=.collected W0.heap.size,args:=#[] }],W1,{ target:=.fn (.func g) lb,args:=#[.func (.yield (W0.heap.size+1)) #[] #[]] },W1,g,
  #[.func (.yield (W0.heap.size+1)) #[] #[]]++lb,W1,?_,?_,?_,?_,fun _=>h1,?_⟩
 ·rw [← hW1];exact run_enterLoop_outer _ _ _ _ _
 ·simp [resolve,go_sem]
 ·intro f' hf';simp [Target.leads] at hf';subst hf';exact hFg
 ·simp [invoke,go_sem,eg]
 ·refine (hseq (W0.heap.size+1) (ApAt w fn (.func (.func g) #[] lb) w.heap.size (W0.heap.size+1) W0.heap.size) W1 hb1 (ap_abides _ _ _ _ _ _ _ hb1.size)
   (fun pre x W hJ hl=>apYield F (n-1-1) w fn hfn _ w.heap.size (W0.heap.size+1) W0.heap.size (by omega) (by omega) (by omega) (Nat.le_refl _) (by omega) N hN hNb pre x W hJ hl) hM).mono ?_
  rintro e W2 ⟨⟨v0,rfl⟩,ss,hS,h2⟩
  obtain ⟨v,hv,hrow,hnil⟩:=h2.box
  have hend:=run_endLoop (P:=Tryz.prog) h2.L (by simp [apRec])
  obtain ⟨W3,hW3⟩:∃ W3,W2.putObj (W0.heap.size+1) (.loop { apRec fn (.func (.func g) #[] lb) w.heap.size W0.heap.size .ready none with state:=.exhausted })=W3:=⟨_,rfl⟩
  rw [hW3] at hend
  have hg3:W2.grownBy W3 (some (W0.heap.size+1)):=by rw [← hW3];exact grownBy_putObj_a _ _ _
  have hv3:W3.heap[w.heap.size]?=some (.cells #[v] 88 (0,0)):=by rw [← hW3];exact (World.putObj_heap_other (by omega)).trans hv
  have hK3:W3.heap[W0.heap.size]?=some (.deferred (some [])):=by rw [← hW3];exact (World.putObj_heap_other (by omega)).trans h2.K
  have hrow3:=hrow.kept hg3 (ownsRow_ne_a hrow.own h2.L (fun cur e=>by first|cases e|exact hne (Obj.cells.inj e).2.1))
  have hb3:Below w.heap.size w W3:=h2.below.grown hg3 h2.below.size (fun k e=>by cases e;omega)
  obtain ⟨hc3,hf3⟩:=cell_of_box_a hv3
  clear hW3
  refine ⟨none,W3,hend,?_⟩
  gi_wp2
  rw [← hs0]
  refine ⟨by simp,.inl ⟨_,_,rfl,run_takeDeferred hK3,?_⟩⟩
  exact ⟨_,results_tmp rfl _ _ _,v,ss,rfl,hS,hrow3.kept (grownBy_putObj_a _ _ _) (ownsRow_ne_a hrow3.own hK3 (fun cur e=>by first|cases e|exact hne (Obj.cells.inj e).2.1)),hnil,hb3.grown (grownBy_putObj_a _ _ _) hb3.size (fun k e=>by cases e;omega)⟩
set_option maxHeartbeats 1000000 in
theorem collect_in (F:Fence) (n:Nat) (h8:F.fn 55) (h11:F.fn 73) (hro:F.round=none) (hn:3≤n) (g:Nat) (lb:Array Value) (hFg:F.fn g) (eg:∀ args w,(callFunc g args).run Tryz.prog w=.ok (.enter g args) w)
  (S:List KeyT→Prop) (N:Nat) (hN:N≤maxLen) (hNb:N*40≤140737488355328) (w:World) (hseq:SeqGives F (n-1-1) Tryz.prog g lb encK S N w) :
  CallsIn F n Tryz.prog 55 #[.func (.func g) #[] lb] w fun e w'=>∃ (v:Value) (ss:List KeyT),e=.returned v∧S ss∧PR w' w.heap.size v ss∧(v=.slice none 0 0↔ss=[])∧Below w.heap.size w w':=by
 have h1:1≤n:=by omega
 have e11:∀ args w,(callFunc 73 args).run Tryz.prog w=.ok (.enter 73 args) w:=enters_of Tryz.func73 (by kernel_rfl) rfl
 refine callsIn_of_wp Tryz.func55 rfl h8 ?_ hro
 simp only [Tryz.ntmps55,List.size_toArray,List.length_cons,List.length_nil,Nat.reduceAdd,Nat.reduceSub,Array.replicate_succ,Array.replicate_zero,List.push_toArray,List.append_toArray,List.nil_append,List.cons_append]
 gi_wp2_with (gi_at_fn 73;refine (appendSeq_in F (n-1) h11 hro (by omega) g lb hFg eg S N hN hNb _ hseq).mono ?_;rintro e w' ⟨v,ss,rfl,hS,hrow,hnil,hb⟩)
 go_ret
 exact ⟨v,ss,rfl,hS,hrow,hnil,hb⟩
theorem collect_keys (b:Nat) (L:List (List Int × Value)) (w:World) (hm:CMap w b L) (hN:L.length≤1000000) :
  Calls Tryz.prog 55 #[.func (.func 74) #[] #[.pointer (some ⟨w.heap.size,0,none⟩)]] (w.alloc (.cells #[.map (some b)] 70)) fun e w'=>∃ (v:Value) (ss:List KeyT),e=.returned v∧KeysOf L ss∧PR w' (w.heap.size+1) v ss∧(v=.slice none 0 0↔ss=[])∧Below (w.heap.size+1) (w.alloc (.cells #[.map (some b)] 70)) w':=by
 have hmax:maxLen=9223372036854775807:=by decide
 have hseq:SeqGives Fence.wide 1 Tryz.prog 74 #[.pointer (some ⟨w.heap.size,0,none⟩)] encK (KeysOf L) L.length (w.alloc (.cells #[.map (some b)] 70)):=
  keys_gives Fence.wide 1 trivial rfl (by omega) w.heap.size b L _ (by simp) (by
   have:=heap_new (w:=w) (.cells #[.map (some b)] 70)
   exact (cell_of this 0).trans rfl) (hm.kept (heap_old _ hm.lt))
 have:=collect_in Fence.wide 3 trivial trivial rfl (by omega) 74 #[.pointer (some ⟨w.heap.size,0,none⟩)] trivial (enters_of Tryz.func74 (by kernel_rfl) rfl) (KeysOf L) L.length (by omega) (by omega) _ hseq
 rw [size_alloc] at this
 exact callsIn_wide.1 this
end Go.Sim.Z
