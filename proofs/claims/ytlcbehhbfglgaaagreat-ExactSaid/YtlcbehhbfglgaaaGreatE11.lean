/- PROVED HERE: laws that the statement rests on (parts Sf, Sg, Sh). Conditions: none. -/
import Derived.Test.YtlcbehhbfglgaaaGreatE10
set_option linter.all false
namespace Go.Sim
section
variable {C:Cx} {ok:FuncId→Code→Prop} {E:BRel}
theorem SimR.checkKey (em:Bool):∀ (d:Nat) (t:TypeId) (E:BRel),Hnd C E→∀ {x x':Value},VR C E x x'→SimR C ok E (Instr.checkKey em d t x) (Instr.checkKey em d t x') (fun _ _ _=>True)
 | 0,_,_,_,_,_,_=>.unsupported _
 | d+1,t,E,hh,x,x',hx=>by
  unfold Instr.checkKey
  refine SimR.bind' (SimR.underlying t) fun E1 s1 u u' hu=>?_
  obtain ⟨rfl,hu⟩:=hu
  have hh1:=hh.mono s1
  have hx:=hx.mono s1
  cases u with
  | interface ms=>
   cases hx<;>first
    | exact .stuck _
    | exact .pure trivial
    | skip
   rename_i t1 v v' h1
   refine SimR.bind' (SimR.typeInfo _) fun E2 s2 i i' hi=>?_
   obtain ⟨rfl,_⟩:=hi
   split
   ·split
    ·refine SimR.bind' (R:=fun _ _ _=>True) (SimR.runtimePanic (hh1.mono s2) _) fun E3 s3 _ _ _=>?_
     refine SimR.bind' (SimR.typeStr _) fun E5 s5 z z' hz=>?_
     obtain rfl:z=z':=hz
     refine SimR.bind' (R:=fun _ _ _=>True) (SimR.runtimePanic (((hh1.mono s2).mono s3).mono s5) _) fun E6 s6 _ _ _=>?_
     exact SimR.checkKey em d _ _ ((((hh1.mono s2).mono s3).mono s5).mono s6) ((((h1.mono s2).mono s3).mono s5).mono s6)
    ·refine SimR.bind' (SimR.typeStr _) fun E5 s5 z z' hz=>?_
     obtain rfl:z=z':=hz
     refine SimR.bind' (R:=fun _ _ _=>True) (SimR.runtimePanic ((hh1.mono s2).mono s5) _) fun E6 s6 _ _ _=>?_
     exact SimR.checkKey em d _ _ (((hh1.mono s2).mono s5).mono s6) (((h1.mono s2).mono s5).mono s6)
   ·exact SimR.checkKey em d _ _ (hh1.mono s2) (h1.mono s2)
  | array len e=>
   cases hx<;>first
    | exact .stuck _
    | skip
   rename_i a a' ha hxa
   have ra:AR C E1 a a':=⟨ha,hxa⟩
   simp only [Std.Legacy.Range.forIn_eq_forIn_range']
   refine SimR.bind' (R:=fun _ _ _=>True) (SimR.forInList (fun _ _ _ _ _ h=>h) _ _ _ _ (fun i _ E3 s3 q q' hq=>?_) trivial) fun _ _ _ _ _=>.pure trivial
   refine SimR.bind' (SimR.sizeOf e) fun E2 s2 z z' hz=>?_
   obtain rfl:z=z':=hz
   refine SimR.bind' (SimR.part e ((ra.mono s3).mono s2) _) fun E4 s4 v v' hv=>?_
   refine SimR.bind' (SimR.checkKey em d e _ (((hh1.mono s3).mono s2).mono s4) hv) fun E5 s5 _ _ _=>?_
   exact .pure (.yield trivial)
  | struct fs=>
   cases hx<;>first
    | exact .stuck _
    | skip
   rename_i a a' ha hxa
   have ra:AR C E1 a a':=⟨ha,hxa⟩
   dsimp only
   rw [← Array.forIn_toList,← Array.forIn_toList]
   refine SimR.bind' (R:=fun _ _ _=>True) (SimR.forInList (fun _ _ _ _ _ h=>h) _ _ _ _ (fun f _ E3 s3 q q' hq=>?_) trivial) fun _ _ _ _ _=>.pure trivial
   split
   ·refine SimR.bind' (SimR.part f.type (ra.mono s3) _) fun E4 s4 v v' hv=>?_
    refine SimR.bind' (SimR.checkKey em d f.type _ ((hh1.mono s3).mono s4) hv) fun E5 s5 _ _ _=>?_
    exact .pure (.yield trivial)
   ·exact .pure (.yield trivial)
  | _=>exact .pure trivial
inductive EsL (C:Cx) (E:BRel):List MapEntry→List MapEntry→Prop
 | nil:EsL C E [] []
 | cons {e e' l l'} (h:EntryR C E e e') (hl:EsL C E l l'):EsL C E (e::l) (e'::l')
theorem EsL.mono {E1:BRel} (s:Sub E E1) {l l':List MapEntry} (h:EsL C E l l'):EsL C E1 l l':=by
 induction h with
 | nil=>exact .nil
 | cons h _ ih=>exact .cons (h.mono s) ih
theorem EsL.of:∀ {l l':List MapEntry},EsR C E l.toArray l'.toArray→EsL C E l l'
 | [],[],_=>.nil
 | [],_::_,h=>by have:=h.size;simp at this
 | _::_,[],h=>by have:=h.size;simp at this
 | x::l,x'::l',h=>.cons (h.at_ 0 x x' (by simp) (by simp)) (EsL.of ⟨by have:=h.size;simp at this;simp [this],fun i y y' hy hy'=>h.at_ (i+1) y y' (by simpa using hy) (by simpa using hy')⟩)
theorem EsR.toList {a a':Array MapEntry} (h:EsR C E a a'):EsL C E a.toList a'.toList:=EsL.of (by simpa using h)
def FoundR (C:Cx) (E:BRel):Option (Nat × Value)→Option (Nat × Value)→Prop
 | none,none=>True
 | some a,some b=>a.1=b.1∧VR C E a.2 b.2
 | _,_=>False
theorem sameNow_eq (d:TypeDesc) {x x' y y':Value} (hx:VR C E x x') (hy:VR C E y y'):Instr.sameNow d x' y'=Instr.sameNow d x y:=by
 cases d with
 | int k=>cases hx<;>first|rfl|(cases hy<;>rfl)
 | string=>cases hx<;>first|rfl|(cases hy<;>rfl)
 | bool=>cases hx<;>first|rfl|(cases hy<;>rfl)
 | _=>rfl
theorem findNow_rel (d:TypeDesc) {x x':Value} (hx:VR C E x x'):∀ {l l':List MapEntry} (i:Nat),EsL C E l l' →
  OptR (FoundR C E) (Instr.findNow d x l i) (Instr.findNow d x' l' i)
 | _,_,_,.nil=>trivial
 | _,_,i,.cons (e:=e) (e':=e') h hl=>by
  simp only [Instr.findNow,sameNow_eq d hx h.key]
  cases Instr.sameNow d x e.key with
  | none=>trivial
  | some b=>
   cases b with
   | true=>exact ⟨rfl,h.val⟩
   | false=>exact findNow_rel d hx (i+1) hl
theorem SimR.findAsking (kt:TypeId) (n:Nat) (hs:C.st=false∨flatT C.P n kt=true):∀ {l l':List MapEntry} (i:Nat) (E:BRel),Hnd C E→∀ {x x':Value},VR C E x x'→EsL C E l l' →
  SimR C ok E (Instr.findAsking kt x l i) (Instr.findAsking kt x' l' i) (FoundR C)
 | _,_,_,_,_,_,_,_,.nil=>.pure trivial
 | _,_,i,E,hh,x,x',hx,.cons (e:=e) (e':=e') h hl=>by
  unfold Instr.findAsking
  refine SimR.bind' (SimR.equalIn _ kt n _ hh hs hx h.key) fun E1 s1 b b' hb=>?_
  obtain rfl:b=b':=hb
  split
  ·exact .pure ⟨rfl,h.val.mono s1⟩
  ·exact SimR.findAsking kt n hs (i+1) _ (hh.mono s1) (hx.mono s1) (hl.mono s1)
theorem SimR.findKey (kt:TypeId) (n:Nat) (hh:Hnd C E) (hs:C.st=false∨flatT C.P n kt=true) {x x':Value} (hx:VR C E x x') {l l':List MapEntry} (hl:EsL C E l l') :
  SimR C ok E (Instr.findKey kt x l) (Instr.findKey kt x' l') (FoundR C):=by
 unfold Instr.findKey
 refine SimR.bind' (SimR.underlying kt) fun E1 s1 u u' hu=>?_
 obtain ⟨rfl,hu⟩:=hu
 have hf:=findNow_rel u (hx.mono s1) 0 (hl.mono s1)
 cases h1:Instr.findNow u x l 0 with
 | none=>
  cases h2:Instr.findNow u x' l' 0 with
  | none=>exact SimR.findAsking kt n hs 0 _ (hh.mono s1) (hx.mono s1) (hl.mono s1)
  | some b=>rw [h1,h2] at hf;exact hf.elim
 | some a=>
  cases h2:Instr.findNow u x' l' 0 with
  | none=>rw [h1,h2] at hf;exact hf.elim
  | some b=>rw [h1,h2] at hf;exact .pure hf
theorem EsR.nil:EsR C E #[] #[]:=⟨rfl,fun i x x' h=>by simp at h⟩
theorem EsR.push {a a':Array MapEntry} (h:EsR C E a a') {e e':MapEntry} (he:EntryR C E e e'):EsR C E (a.push e) (a'.push e'):=by
 refine ⟨by simp [h.size],fun j x x' hx hx'=>?_⟩
 rw [Array.getElem?_push] at hx hx'
 rw [← h.size] at hx'
 split at hx
 ·rename_i e;rw [if_pos e] at hx';cases hx;cases hx';exact he
 ·rename_i e;rw [if_neg e] at hx';exact h.at_ j x x' hx hx'
theorem EsR.modify {a a':Array MapEntry} (h:EsR C E a a') (i:Nat) {f f':MapEntry→MapEntry} (hf:∀ e e',EntryR C E e e'→EntryR C E (f e) (f' e')):EsR C E (a.modify i f) (a'.modify i f'):=by
 refine ⟨by simp [h.size],fun j x x' hx hx'=>?_⟩
 rw [Array.getElem?_modify] at hx hx'
 by_cases e:i=j
 ·rw [if_pos e] at hx hx'
  obtain ⟨y,hy,rfl⟩:=Option.map_eq_some_iff.1 hx
  obtain ⟨y',hy',rfl⟩:=Option.map_eq_some_iff.1 hx'
  exact hf _ _ (h.at_ j y y' hy hy')
 ·rw [if_neg e] at hx hx';exact h.at_ j x x' hx hx'
theorem EsR.some_of {a a':Array MapEntry} (h:EsR C E a a') {i:Nat} {x:MapEntry} (hx:a[i]?=some x):∃ x',a'[i]?=some x'∧EntryR C E x x':=by
 have hi:i<a.size:=(Array.getElem?_eq_some_iff.1 hx).1
 have hi':i<a'.size:=h.size▸hi
 exact ⟨a'[i],by simp [hi'],h.at_ i x _ hx (by simp [hi'])⟩
theorem EsR.none_of {a a':Array MapEntry} (h:EsR C E a a') {i:Nat} (hx:a[i]?=none):a'[i]?=none:=by
 rw [Array.getElem?_eq_none_iff] at *;rw [← h.size];exact hx
theorem SimR.getMap {β β':Type} {R:BRel→β→β'→Prop} {r r':Nat} (h:E r r') (why:String) {f:Array MapEntry→Nat→Sem β} {f':Array MapEntry→Nat→Sem β'}
  (k:∀ E1,Sub E E1→∀ es es' ck,EsR C E1 es es'→SimR C ok E1 (f es ck) (f' es' ck) R) :
  SimR C ok E (Go.getObj r >>= fun o=>match o with | .map es ck=>f es ck|_=>Go.stuck why) (Go.getObj r' >>= fun o=>match o with | .map es ck=>f' es ck|_=>Go.stuck why) R:=by
 refine SimR.bind' (SimR.getObj h) fun E1 s o o' ho=>?_
 obtain ⟨h3,_⟩:=ho
 cases o with
 | map es ck=>obtain ⟨es',rfl,he⟩:=h3;exact k E1 s es es' ck he
 | _=>exact .stuck _
theorem SimR.lookup (K:PrOk C) (hh:Hnd C E) (t:TypeId) (n:Nat) {x x' k k':Value} (hx:VR C E x x') (hk:VR C E k k') (cok:Bool)
  (hs:C.st=false∨∀ kt e,C.P.underlying t=some (.map kt e)→flatT C.P n kt=true) :
  SimR C ok E (Instr.lookup t x k cok) (Instr.lookup t x' k' cok) (VR C):=by
 unfold Instr.lookup
 refine SimR.bind' (SimR.underlying t) fun E1 s1 u u' hu=>?_
 obtain ⟨rfl,hu⟩:=hu
 cases u with
 | map kt e=>
  dsimp only
  have hx1:=hx.mono s1
  have hk1:=hk.mono s1
  have hs':=hs.imp id fun h=>h kt e hu
  have tail:∀ E2,Sub E1 E2→∀ es es',EsR C E2 es es'→SimR C ok E2
    (do
     Instr.checkKey es.isEmpty 10000 kt k
     match ← Instr.findKey kt k es.toList with
     | some (_,v)=>do
      let x ← Pure.pure (v,true)
      Pure.pure (if cok then Value.tuple #[x.1,.bool x.2] else x.1)
     | none=>do
      let z ← Go.zeroValue e
      let x ← Pure.pure (z,false)
      Pure.pure (if cok then Value.tuple #[x.1,.bool x.2] else x.1):Sem Value)
    (do
     Instr.checkKey es'.isEmpty 10000 kt k'
     match ← Instr.findKey kt k' es'.toList with
     | some (_,v)=>do
      let x ← Pure.pure (v,true)
      Pure.pure (if cok then Value.tuple #[x.1,.bool x.2] else x.1)
     | none=>do
      let z ← Go.zeroValue e
      let x ← Pure.pure (z,false)
      Pure.pure (if cok then Value.tuple #[x.1,.bool x.2] else x.1):Sem Value) (VR C):=by
   intro E2 s2 es es' hes
   rw [show es'.isEmpty=es.isEmpty by simp only [Array.isEmpty,hes.size]]
   refine SimR.bind' (SimR.checkKey _ _ kt _ ((hh.mono s1).mono s2) (hk1.mono s2)) fun E3 s3 _ _ _=>?_
   refine SimR.bind' (SimR.findKey kt n (((hh.mono s1).mono s2).mono s3) hs' ((hk1.mono s2).mono s3) (hes.toList.mono s3)) fun E4 s4 z z' hz=>?_
   have fin:∀ E (v v':Value) (b:Bool),VR C E v v'→SimR C ok E (Pure.pure (if cok then Value.tuple #[v,.bool b] else v)) (Pure.pure (if cok then Value.tuple #[v',.bool b] else v')) (VR C):=fun E v v' b h=>by
    refine .pure ?_
    cases cok with
    | true=>exact .of_tuple (LR.toArray (l:=[_,_]) (l':=[_,_]) (.cons h (.cons (.bool b) .nil)))
    | false=>exact h
   cases z with
   | none=>
    cases z' with
    | none=>exact SimR.bind' (SimR.zeroValue K e) fun E5 s5 v v' hv=>fin _ _ _ _ hv
    | some b=>exact hz.elim
   | some a=>
    cases z' with
    | none=>exact hz.elim
    | some b=>exact fin _ _ _ _ hz.2
  cases hx1<;>first
   | exact .stuck _
   | exact tail _ (.refl _) _ _ .nil
   | exact SimR.getMap (by assumption) _ fun E2 s2 es es' ck h=>tail E2 s2 _ _ h
   | exact .of_halts fun w=>⟨_,w,rfl,by simp⟩
 | _=>exact .stuck _
theorem sb_zero (n:Nat) (x y:Value) (hx:∀ t v,x≠.iface t v) (hx2:∀ a,x≠.agg a):Instr.sameBits (n+1) x y=Instr.sameBits 0 x y:=by
 cases x with
 | iface t v=>exact absurd rfl (hx t v)
 | agg a=>exact absurd rfl (hx2 a)
 | _=>cases y<;>rfl
theorem addr_beq {w w':World} (hw:WR C ok E w w') {b b' o:Nat} {s:Option Nat} {c c' p:Nat} {t:Option Nat} (h:E b b') (k:E c c') :
  ((some (⟨b',o,s⟩:Addr)) == some ⟨c',p,t⟩)=((some (⟨b,o,s⟩:Addr)) == some ⟨c,p,t⟩):=by
 by_cases e:b=c
 ·subst e
  have:=hw.fn _ _ _ h k
  subst this
  rw [Bool.eq_iff_iff];simp
 ·have:b'≠c':=fun e'=>e (hw.inj _ _ _ h (e'▸k))
  rw [Bool.eq_iff_iff];simp [e,this]
theorem sameBits_zero {w w':World} (hw:WR C ok E w w') {x x' y y':Value} (hx:VR C E x x') (hy:VR C E y y'):Instr.sameBits 0 x' y'=Instr.sameBits 0 x y:=by
 cases hx with
 | ptr o s h=>
  cases hy with
  | ptr o2 s2 k=>exact addr_beq hw h k
  | _=>rfl
 | _=>cases hy<;>rfl
theorem sameBits_all (f:Value→Value→Bool) (ih:∀ {x x' y y':Value},VR C E x x'→VR C E y y'→f x' y'=f x y):∀ {l l' m m':List Value},LR C E l l'→LR C E m m' →
  ((l'.zip m').all fun (x,y)=>f x y)=((l.zip m).all fun (x,y)=>f x y)
 | _,_,_,_,.nil,_=>by simp
 | _,_,_,_,.cons h hl,.nil=>by simp
 | _,_,_,_,.cons h hl,.cons k hm=>by
  simp only [List.zip_cons_cons,List.all_cons,ih h k,sameBits_all f ih hl hm]
theorem sameBits_eq {w w':World} (hw:WR C ok E w w'):∀ (n:Nat) {x x' y y':Value},VR C E x x'→VR C E y y'→Instr.sameBits n x' y'=Instr.sameBits n x y
 | 0,_,_,_,_,hx,hy=>sameBits_zero hw hx hy
 | n+1,x,x',y,y',hx,hy=>by
  cases hx with
  | iface t ht h=>
   cases hy with
   | iface u hu k=>
    show (_ == _ && Instr.sameBits n _ _)=(_ == _ && Instr.sameBits n _ _)
    rw [sameBits_eq hw n h k]
   | _=>rfl
  | agg ha hxa=>
   cases hy with
   | agg hb hxb=>
    rename_i a a' b b'
    show (a'.size == b'.size && ((a'.toList.zip b'.toList).all fun (x,y)=>Instr.sameBits n x y))=(a.size == b.size && ((a.toList.zip b.toList).all fun (x,y)=>Instr.sameBits n x y))
    rw [sameBits_all (Instr.sameBits n) (fun h k=>sameBits_eq hw n h k) (AR.toList ⟨ha,hxa⟩) (AR.toList ⟨hb,hxb⟩),ha,hb]
   | _=>rfl
  | ptr o s h=>rw [sb_zero _ _ _ (by simp) (by simp),sb_zero _ _ _ (by simp) (by simp)];exact sameBits_zero hw (.ptr o s h) hy
  | func h ha hb hc hd=>rw [sb_zero _ _ _ (by simp) (by simp),sb_zero _ _ _ (by simp) (by simp)];exact sameBits_zero hw (.func h ha hb hc hd) hy
  | tuple ha hb=>rw [sb_zero _ _ _ (by simp) (by simp),sb_zero _ _ _ (by simp) (by simp)];exact sameBits_zero hw (.tuple ha hb) hy
  | _=>cases hy<;>rfl
theorem SimR.keyThatStays {x x' y y':Value} (hx:VR C E x x') (hy:VR C E y y'):SimR C ok E (Instr.keyThatStays x y) (Instr.keyThatStays x' y') (VR C):=by
 refine .of_world fun w w' hw=>?_
 unfold Instr.keyThatStays
 rw [sameBits_eq hw 10000 hx hy]
 split
 ·exact .pure hy
 ·refine SimR.bind' (SimR.choose _) fun E1 s n n' hn=>?_
  obtain rfl:n=n':=hn
  refine .pure ?_
  split
  ·exact hy.mono s
  ·exact hx.mono s
theorem SimR.mapUpdate (hh:Hnd C E) (t:TypeId) (n:Nat) {x x' k k' v v':Value} (hx:VR C E x x') (hk:VR C E k k') (hv:VR C E v v')
  (hsh:∀ r,x=.map (some r)→¬ C.Sh r)
  (hs:C.st=false∨∀ kt e,C.P.underlying t=some (.map kt e)→flatT C.P n kt=true) :
  SimR C ok E (Instr.mapUpdate t x k v) (Instr.mapUpdate t x' k' v') (fun _ _ _=>True):=by
 unfold Instr.mapUpdate
 refine SimR.bind' (SimR.underlying t) fun E1 s1 u u' hu=>?_
 obtain ⟨rfl,hu⟩:=hu
 cases u with
 | map kt e=>
  dsimp only
  have hs':=hs.imp id fun h=>h kt e hu
  have hx1:=hx.mono s1
  cases hx1<;>first
   | exact .stuck _
   | exact SimR.runtimePanic (hh.mono s1) _
   | skip
  rename_i r r' hr
  have hsr:=hsh r rfl
  refine SimR.getMap hr _ fun E2 s2 es es' ck hes=>?_
  refine SimR.bind' (SimR.checkKey _ _ kt _ ((hh.mono s1).mono s2) ((hk.mono s1).mono s2)) fun E3 s3 _ _ _=>?_
  refine SimR.bind' (SimR.findKey kt n (((hh.mono s1).mono s2).mono s3) hs' (((hk.mono s1).mono s2).mono s3) (hes.toList.mono s3)) fun E4 s4 z z' hz=>?_
  have hes4:=(hes.mono s3).mono s4
  have hk4:=(((hk.mono s1).mono s2).mono s3).mono s4
  have hv4:=(((hv.mono s1).mono s2).mono s3).mono s4
  have hr4:=s4 _ _ (s3 _ _ (s2 _ _ hr))
  cases z with
  | none=>
   cases z' with
   | some b=>exact hz.elim
   | none=>exact SimR.setObj hr4 hsr ⟨_,rfl,hes4.push ⟨hk4,hv4,rfl⟩⟩ (by simp)
  | some a=>
   cases z' with
   | none=>exact hz.elim
   | some b=>
    obtain ⟨i,a⟩:=a
    obtain ⟨i',b⟩:=b
    obtain rfl:i=i':=hz.1
    dsimp only
    refine SimR.bind' (SimR.keyThatStays (x:=((es[i]?).map (·.key)).getD k) (x':=((es'[i]?).map (·.key)).getD k') ?_ hk4) fun E5 s5 q q' hq=>?_
    ·cases h:es[i]? with
     | none=>rw [hes.none_of h];exact hk4
     | some e=>obtain ⟨e',he',hr⟩:=hes4.some_of h;rw [he'];exact hr.key
    ·exact SimR.setObj (s5 _ _ hr4) hsr ⟨_,rfl,(hes4.mono s5).modify i fun e e' h=>⟨hq,hv4.mono s5,h.born⟩⟩ (by simp)
 | _=>exact .stuck _
end
section
variable {C:Cx} {ok:FuncId→Code→Prop} {E:BRel}
theorem EsL.toArray {l l':List MapEntry} (h:EsL C E l l'):EsR C E l.toArray l'.toArray:=by
 induction h with
 | nil=>exact .nil
 | cons h _ ih=>
  refine ⟨by simpa using ih.size,fun i y y' hy hy'=>?_⟩
  cases i with
  | zero=>simp at hy hy';subst hy;subst hy';exact h
  | succ i=>exact ih.at_ i y y' (by simpa using hy) (by simpa using hy')
theorem EsL.filter {p:MapEntry→Bool} (hp:∀ e e',EntryR C E e e'→p e'=p e) {l l':List MapEntry} (h:EsL C E l l'):EsL C E (l.filter p) (l'.filter p):=by
 induction h with
 | nil=>exact .nil
 | cons h _ ih=>
  simp only [List.filter_cons,hp _ _ h]
  split
  ·exact .cons h ih
  ·exact ih
theorem EsR.filter {p:MapEntry→Bool} (hp:∀ e e',EntryR C E e e'→p e'=p e) {a a':Array MapEntry} (h:EsR C E a a'):EsR C E (a.filter p) (a'.filter p):=by
 have:=(h.toList.filter hp).toArray
 rwa [← Array.toList_filter,← Array.toList_filter,Array.toArray_toList,Array.toArray_toList] at this
theorem EsL.all {p:MapEntry→Bool} (hp:∀ e e',EntryR C E e e'→p e'=p e) {l l':List MapEntry} (h:EsL C E l l'):l'.all p=l.all p:=by
 induction h with
 | nil=>rfl
 | cons h _ ih=>simp only [List.all_cons,hp _ _ h,ih]
theorem EsR.all {p:MapEntry→Bool} (hp:∀ e e',EntryR C E e e'→p e'=p e) {a a':Array MapEntry} (h:EsR C E a a'):a'.all p=a.all p:=by
 have:=h.toList.all hp
 simpa using this
theorem EsR.append {a a' b b':Array MapEntry} (h:EsR C E a a') (k:EsR C E b b'):EsR C E (a++b) (a'++b'):=by
 refine ⟨by simp [h.size,k.size],fun j x x' hx hx'=>?_⟩
 rw [Array.getElem?_append] at hx hx'
 rw [← h.size] at hx'
 split at hx
 ·rename_i e;rw [if_pos e] at hx';exact h.at_ j x x' hx hx'
 ·rename_i e;rw [if_neg e] at hx';exact k.at_ _ x x' hx hx'
theorem EsR.isEmpty {a a':Array MapEntry} (h:EsR C E a a'):a'.isEmpty=a.isEmpty:=by simp only [Array.isEmpty,h.size]
def OptE (C:Cx) (E:BRel):Option (Option MapEntry)→Option (Option MapEntry)→Prop
 | none,none=>True
 | some none,some none=>True
 | some (some e),some (some e')=>EntryR C E e e'
 | _,_=>False
theorem candR {es es':Array MapEntry} (h:EsR C E es es') (hd:Array (Option MapEntry)) (hn:∀ x∈hd,x=none) (i:Nat):OptE C E ((hd++es.map some)[i]?) ((hd++es'.map some)[i]?):=by
 rw [Array.getElem?_append,Array.getElem?_append]
 split
 ·cases hx:hd[i]? with
  | none=>exact trivial
  | some x=>rw [hn x (Array.mem_of_getElem? hx)];exact trivial
 ·simp only [Array.getElem?_map]
  cases hx:es[i-hd.size]? with
  | none=>rw [h.none_of hx];exact trivial
  | some x=>obtain ⟨x',hx',hr⟩:=h.some_of hx;rw [hx'];exact hr
theorem OptE.mono {E1:BRel} (s:Sub E E1):∀ {a b:Option (Option MapEntry)},OptE C E a b→OptE C E1 a b
 | none,none,_=>trivial
 | some none,some none,_=>trivial
 | some (some _),some (some _),h=>EntryR.mono s h
 | none,some _,h=>h.elim
 | some none,some (some _),h=>h.elim
 | some none,none,h=>h.elim
 | some (some _),none,h=>h.elim
 | some (some _),some none,h=>h.elim
theorem SimR.pick {cs cs':Array (Option MapEntry)} (hz:cs'.size=cs.size) (hc:∀ i:Nat,OptE C E cs[i]? cs'[i]?) (why:String) {f f':MapEntry→Sem Value} {g g':Sem Value}
  (hf:∀ E1,Sub E E1→∀ e e',EntryR C E1 e e'→SimR C ok E1 (f e) (f' e') (VR C)) (hg:∀ E1,Sub E E1→SimR C ok E1 g g' (VR C)) :
  SimR C ok E (Go.choose (.mapNext cs.size) >>= fun i=>match cs[i]? with|some (some e)=>f e|some none=>g|none=>Go.stuck why)
   (Go.choose (.mapNext cs'.size) >>= fun i=>match cs'[i]? with|some (some e)=>f' e|some none=>g'|none=>Go.stuck why) (VR C):=by
 rw [hz]
 refine SimR.bind' (SimR.choose _) fun E1 s1 i i' hi=>?_
 obtain rfl:i=i':=hi
 have h:=(hc i).mono s1
 cases h1:cs[i]? with
 | none=>exact .stuck _
 | some e=>
  cases h2:cs'[i]? with
  | none=>rw [h1,h2] at h;cases e<;>exact h.elim
  | some e'=>
   rw [h1,h2] at h
   cases e with
   | none=>cases e' with
    | none=>exact hg E1 s1
    | some _=>exact h.elim
   | some e=>cases e' with
    | none=>exact h.elim
    | some e'=>exact hf E1 s1 e e' h
theorem SimR.next (hh:Hnd C E) {x x':Value} (hx:VR C E x x') (b:Bool) (t:TypeId):SimR C ok E (Instr.next x b t) (Instr.next x' b t) (VR C):=by
 have over:∀ E,SimR C ok E (Pure.pure (Value.tuple #[.bool false])) (Pure.pure (Value.tuple #[.bool false])) (VR C):=fun E=>.pure (.of_tuple (.one (.bool false)))
 unfold Instr.next
 cases hx<;>first|exact .stuck _|skip
 rename_i r r' o s h
 cases o with
 | succ o=>exact .stuck _
 | zero=>
  refine SimR.bind' (SimR.getObj h) fun E1 s1 ob ob' ho=>?_
  obtain ⟨h3,_⟩:=ho
  cases ob with
  | stringIter st pos=>
   obtain ⟨hs,rfl⟩:=h3
   cases b with
   | false=>exact .stuck _
   | true=>
    dsimp only
    split
    ·refine SimR.bind' (SimR.setObj (s1 _ _ h) hs ⟨hs,rfl⟩ (by simp)) fun E2 s2 _ _ _=>?_
     exact .pure (.of_tuple (LR.toArray (l:=[_,_,_]) (l':=[_,_,_]) (.cons (.bool true) (.cons (.int _ _) (.cons (.int _ _) .nil)))))
    ·exact over _
  | mapIter m since seen last=>
   obtain ⟨hs,m',rfl,hm⟩:=h3
   cases b with
   | true=>cases m<;>exact .stuck _
   | false=>
    cases m with
    | none=>cases m' with
     | none=>exact over _
     | some _=>exact hm.elim
    | some m=>
     cases m' with
     | none=>exact hm.elim
     | some m'=>
      refine SimR.getMap hm _ fun E2 s2 es es' ck hes=>?_
      dsimp only
      have e1:es'.isEmpty=es.isEmpty:=hes.isEmpty
      have e2:es'.all (fun e=>decide (e.born≥last))=es.all (fun e=>decide (e.born≥last)):=hes.all fun e e' k=>by rw [k.born]
      rw [e1,e2]
      have hl:EsR C E2 (es.filter fun e=>!seen.contains e.born) (es'.filter fun e=>!seen.contains e.born):=hes.filter fun e e' k=>by rw [k.born]
      have ho:=hl.filter (p:=fun e=>decide (e.born<since)) fun e e' k=>by rw [k.born]
      have hn:=hl.filter (p:=fun e=>decide (e.born≥since)) fun e e' k=>by rw [k.born]
      have hon:=ho.append hn
      split
      ·exact .of_halts fun w=>⟨_,w,rfl,by simp⟩
      ·refine SimR.pick ?_ (fun i=>?_) _ (fun E3 s3 e e' he=>?_) fun E3 _=>over E3
       ·rw [ho.isEmpty,Array.size_append,Array.size_append,Array.size_map,Array.size_map,hon.size]
       ·rw [ho.isEmpty]
        exact candR hon _ (fun x hx=>by split at hx<;>simp at hx;exact hx) i
       ·have hb:e'.born=e.born:=he.born.symm
        rw [hb]
        refine SimR.bind' (SimR.setObj (s3 _ _ (s2 _ _ (s1 _ _ h))) hs ⟨hs,some m',rfl,s3 _ _ (s2 _ _ hm)⟩ (by simp)) fun E4 s4 _ _ _=>?_
        exact .pure (.of_tuple (LR.toArray (l:=[_,_,_]) (l':=[_,_,_]) (.cons (.bool true) (.cons (he.key.mono s4) (.cons (he.val.mono s4) .nil)))))
  | _=>first|exact h3.elim|(cases b<;>exact .stuck _)
end
section
variable {C:Cx} {ok:FuncId→Code→Prop} {E:BRel}
def OwnV (C:Cx) (v:Value):Prop:=(∀ r,v=.map (some r)→¬ C.Sh r)∧v≠.nilIface
inductive L2 {β β':Type} (R:β→β'→Prop):List β→List β'→Prop
 | nil:L2 R [] []
 | cons {a b l l'} (h:R a b) (hl:L2 R l l'):L2 R (a::l) (b::l')
theorem SimR.mapMList {α β:Type} {R:BRel→β→β→Prop} (hm:∀ E E1 b b',Sub E E1→R E b b'→R E1 b b') {f:α→Sem β} (hf:∀ x E,SimR C ok E (f x) (f x) (fun _ a a'=>a=a')) :
  ∀ (l:List α) (E:BRel),SimR C ok E (l.mapM f) (l.mapM f) (fun _ a a'=>a=a')
 | [],E=>by simp only [List.mapM_nil];exact .pure rfl
 | x::l,E=>by
  simp only [List.mapM_cons]
  refine SimR.bind' (hf x E) fun E1 s1 a a' ha=>?_
  obtain rfl:a=a':=ha
  refine SimR.bind' (SimR.mapMList hm hf l E1) fun E2 s2 b b' hb=>?_
  obtain rfl:b=b':=hb
  exact .pure rfl
theorem find_rel {p:MapEntry→Bool} (hp:∀ e e',EntryR C E e e'→p e'=p e):∀ {l l':List MapEntry},EsL C E l l'→OptR (EntryR C E) (l.find? p) (l'.find? p)
 | _,_,.nil=>trivial
 | _,_,.cons h hl=>by
  simp only [List.find?_cons,hp _ _ h]
  split
  ·exact h
  ·exact find_rel hp hl
theorem SimR.entry {x x':Value} (hx:VR C E x x'):SimR C ok E (Instr.entry x) (Instr.entry x') (VR C):=by
 unfold Instr.entry
 cases hx<;>first|exact .stuck _|skip
 rename_i r r' o s h
 cases o with
 | succ o=>exact .stuck _
 | zero=>
  refine SimR.bind' (SimR.getObj h) fun E1 s1 ob ob' ho=>?_
  obtain ⟨h3,_⟩:=ho
  cases ob with
  | mapIter m since seen last=>
   obtain ⟨hs,m',rfl,hm⟩:=h3
   cases m with
   | none=>cases m' with
    | none=>exact .stuck _
    | some _=>exact hm.elim
   | some m=>
    cases m' with
    | none=>exact hm.elim
    | some m'=>
     dsimp only
     cases seen.back? with
     | none=>exact .stuck _
     | some st=>
      refine SimR.getMap hm _ fun E2 s2 es es' ck hes=>?_
      split
      ·exact .of_halts fun w=>⟨_,w,rfl,by simp⟩
      ·have h1:=find_rel (p:=fun e=>e.born == st) (fun e e' k=>by rw [k.born]) hes.toList
       simp only [Array.find?_toList] at h1
       cases e1:es.find? (fun e=>e.born == st) with
       | none=>cases e2:es'.find? (fun e=>e.born == st) with
        | none=>exact .unsupported _
        | some _=>rw [e1,e2] at h1;exact h1.elim
       | some e=>cases e2:es'.find? (fun e=>e.born == st) with
        | none=>rw [e1,e2] at h1;exact h1.elim
        | some e'=>
         rw [e1,e2] at h1
         exact .pure (.of_tuple (LR.toArray (l:=[_,_]) (l':=[_,_]) (.cons h1.key (.cons h1.val .nil))))
  | _=>first|exact h3.elim|exact .stuck _
theorem SimR.range (hh:Hnd C E) (t:TypeId) {x x':Value} (hx:VR C E x x'):SimR C ok E (Instr.range t x) (Instr.range t x') (VR C):=by
 unfold Instr.range
 refine SimR.bind' (SimR.underlying t) fun E1 s1 u u' hu=>?_
 obtain ⟨rfl,_⟩:=hu
 have hh1:=hh.mono s1
 have fin:∀ E2,Sub E1 E2→∀ o o',(∀ b,¬ C.Sh b→ObjR C ok E2 b o o')→SimR C ok E2 (do Pure.pure (Value.pointer (some ⟨← Go.newObj o,0,none⟩))) (do Pure.pure (Value.pointer (some ⟨← Go.newObj o',0,none⟩))) (VR C):=fun E2 s2 o o' h=>
  SimR.bind' (SimR.newObj (hh1.mono s2) h) fun E3 _ r r' hr=>.pure (.ptr 0 none hr.1)
 have hx1:=hx.mono s1
 cases u with
 | string=>
  cases hx1<;>first
   | exact .stuck _
   | exact fin _ (.refl _) _ _ fun b h1=>⟨h1,rfl⟩
   | exact .of_halts fun w=>⟨_,w,rfl,by simp⟩
 | map k e=>
  cases hx1<;>first
   | exact .stuck _
   | exact fin _ (.refl _) _ _ fun b h1=>⟨h1,none,rfl,trivial⟩
   | exact SimR.getMap (by assumption) _ fun E2 s2 es es' ck h=>fin _ s2 _ _ fun b h1=>⟨h1,_,rfl,s2 _ _ (by assumption)⟩
   | exact .of_halts fun w=>⟨_,w,rfl,by simp⟩
 | _=>cases hx1<;>exact .of_halts fun w=>⟨_,w,rfl,by simp⟩
theorem SimR.makeMap (hh:Hnd C E) (t:TypeId) {x x':Option Value} (hx:OptR (VR C E) x x'):SimR C ok E (Instr.makeMap t x) (Instr.makeMap t x') (fun E1 v v'=>VR C E1 v v'∧OwnV C v):=by
 unfold Instr.makeMap
 have fin:∀ E2,Sub E E2→SimR C ok E2 (do Pure.pure (Value.map (some (← Go.newObj (.map #[] 0))))) (do Pure.pure (Value.map (some (← Go.newObj (.map #[] 0))))) (fun E1 v v'=>VR C E1 v v'∧OwnV C v):=fun E2 s2=>
  SimR.bind' (SimR.newObj (hh.mono s2) fun b h1=>⟨#[],rfl,.nil⟩) fun E3 _ r r' hr=>.pure ⟨.map hr.1,⟨fun q hq=>by cases hq;exact hr.2,by simp⟩⟩
 cases x with
 | none=>cases x' with
  | none=>exact fin _ (.refl _)
  | some _=>exact hx.elim
 | some v=>cases x' with
  | none=>exact hx.elim
  | some v'=>
   refine SimR.bind' (SimR.underlying t) fun E1 s1 u u' hu=>?_
   obtain ⟨rfl,_⟩:=hu
   cases u with
   | map k e=>exact SimR.bind' (SimR.asInt (VR.mono s1 hx)) fun E2 s2 _ _ _=>fin _ (s1.trans s2)
   | _=>exact .of_halts fun w=>⟨_,w,rfl,by simp⟩
theorem SimR.alloc (K:PrOk C) (hh:Hnd C E) (t:TypeId):SimR C ok E (Instr.alloc t true (.tuple #[])) (Instr.alloc t true (.tuple #[])) (VR C):=by
 unfold Instr.alloc
 refine SimR.bind' (SimR.zeroValue K t) fun E1 s1 v v' hv=>?_
 exact SimR.bind' (SimR.newVar (hh.mono s1) t hv) fun E2 s2 a a' ha=>.pure (.of_addr ha.1)
theorem SimR.box (hh:Hnd C E) (t:TypeId) {v v':Value} (hv:VR C E v v'):SimR C ok E (Instr.box t v) (Instr.box t v') (VR C):=by
 unfold Instr.box
 exact SimR.bind' (SimR.newVar hh t hv) fun E2 s2 a a' ha=>.pure (.of_addr ha.1)
inductive PartsR (C:Cx) (E:BRel):List (Nat × Value)→List (Nat × Value)→Prop
 | nil:PartsR C E [] []
 | cons {i v v' l l'} (h:VR C E v v') (hl:PartsR C E l l'):PartsR C E ((i,v)::l) ((i,v')::l')
theorem PartsR.mono {E1:BRel} (s:Sub E E1) {l l'} (h:PartsR C E l l'):PartsR C E1 l l':=by
 induction h with
 | nil=>exact .nil
 | cons h _ ih=>exact .cons (h.mono s) ih
theorem foldSet (off:Nat):∀ {l l':List Value} (j:Nat) {a a':Array Value},LR C E l l'→AR C E a a' →
  AR C E ((l.zipIdx j).foldl (fun cs (c,j)=>cs.setIfInBounds (off+j) c) a) ((l'.zipIdx j).foldl (fun cs (c,j)=>cs.setIfInBounds (off+j) c) a')
 | _,_,_,_,_,.nil,h=>h
 | _,_,j,_,_,.cons k hl,h=>by
  simp only [List.zipIdx_cons,List.foldl_cons]
  exact foldSet off (j+1) hl (h.set _ k)
theorem fill_rel (place:Nat→Option (Nat × Nat)):∀ {l l':List (Nat × Value)} {a a':Array Value},PartsR C E l l'→AR C E a a'→OptR (AR C E) (Instr.fill place a l) (Instr.fill place a' l')
 | _,_,_,_,.nil,h=>h
 | _,_,a,a',.cons (i:=i) (v:=v) (v':=v') k hl,h=>by
  have hc:=AR.cells k
  simp only [Instr.fill]
  cases place i with
  | none=>trivial
  | some p=>
   obtain ⟨off,size⟩:=p
   dsimp only
   rw [← hc.size,← h.size]
   split
   ·trivial
   ·refine fill_rel place hl ?_
    have:=foldSet (C:=C) (E:=E) off 0 (AR.toList hc) h
    rw [← Array.foldl_toList,← Array.foldl_toList,Array.toList_zipIdx,Array.toList_zipIdx]
    exact this
theorem SimR.build (K:PrOk C) (t:TypeId) {p p':Array (Nat × Value)} (hp:PartsR C E p.toList p'.toList):SimR C ok E (Instr.build t p) (Instr.build t p') (VR C):=by
 unfold Instr.build
 refine SimR.bind' (SimR.zeroValue K t) fun E1 s1 z z' hz=>?_
 have hzc:=AR.cells hz
 refine SimR.bind' (SimR.underlying t) fun E2 s2 u u' hu=>?_
 obtain ⟨rfl,_⟩:=hu
 cases u with
 | struct fs=>
  dsimp only
  refine SimR.bind' (R:=fun _ a a'=>a=a') ?_ fun E3 s3 pl pl' hpl=>?_
  ·rw [Array.mapM_eq_mapM_toList]
   refine (SimR.map (SimR.mapMList (R:=fun _ a a'=>a=a') (fun _ _ _ _ _ h=>h) (fun f E=>SimR.bind' (SimR.sizeOf f.type) fun _ _ n n' hn=>?_) _ _)).mono ?_
   ·obtain rfl:n=n':=hn
    exact .pure rfl
   ·rintro E4 _ _ _ ⟨a,a',h,rfl,rfl⟩
    exact congrArg List.toArray h
  ·obtain rfl:pl=pl':=hpl
   have:=fill_rel (pl[·]?) ((((hp.mono s1).mono s2).mono s3)) ((hzc.mono s2).mono s3)
   cases e1:Instr.fill (pl[·]?) z.cells p.toList with
   | none=>exact .stuck _
   | some c=>cases e2:Instr.fill (pl[·]?) z'.cells p'.toList with
    | none=>rw [e1,e2] at this;exact this.elim
    | some c'=>rw [e1,e2] at this;exact .pure (.of_agg this)
 | array n e=>
  dsimp only
  refine SimR.bind' (SimR.sizeOf e) fun E3 s3 n n' hn=>?_
  obtain rfl:n=n':=hn
  have:=fill_rel (fun i=>some (i*n,n)) ((((hp.mono s1).mono s2).mono s3)) ((hzc.mono s2).mono s3)
  cases e1:Instr.fill (fun i=>some (i*n,n)) z.cells p.toList with
  | none=>exact .stuck _
  | some c=>cases e2:Instr.fill (fun i=>some (i*n,n)) z'.cells p'.toList with
   | none=>rw [e1,e2] at this;exact this.elim
   | some c'=>rw [e1,e2] at this;exact .pure (.of_agg this)
 | _=>exact .stuck _
theorem rangeMap {a a':Array Value} (h:AR C E a a') (n:Nat):AR C E ((Array.range n).map (a[· % a.size]!)) ((Array.range n).map (a'[· % a'.size]!)):=by
 refine AR.map _ fun i _=>?_
 rw [h.size]
 by_cases hz:a.size=0
 ·have hz':a'.size=0:=h.size▸hz
  rw [getElem!_neg a _ (by omega),getElem!_neg a' _ (by omega)]
  exact .bool false
 ·have hlt:i % a'.size<a.size:=by rw [← h.size];exact Nat.mod_lt _ (by omega)
  have hlt':i % a'.size<a'.size:=h.size▸hlt
  rw [getElem!_pos a _ hlt,getElem!_pos a' _ hlt']
  exact h.at_ _ _ _ (Array.getElem?_eq_getElem hlt) (Array.getElem?_eq_getElem hlt')
theorem SimR.buildSlice (K:PrOk C) (hh:Hnd C E) (t:TypeId) (len:Nat) {p p':Array (Nat × Value)} (hp:PartsR C E p.toList p'.toList):SimR C ok E (Instr.buildSlice t len p) (Instr.buildSlice t len p') (VR C):=by
 unfold Instr.buildSlice
 refine SimR.bind' (SimR.underlying t) fun E1 s1 u u' hu=>?_
 obtain ⟨rfl,_⟩:=hu
 cases u with
 | slice e=>
  dsimp only
  refine SimR.bind' (SimR.sizeOf e) fun E2 s2 n n' hn=>?_
  obtain rfl:n=n':=hn
  have fin:∀ E3,Sub E2 E3→∀ z z',AR C E3 z z'→SimR C ok E3
    (match Instr.fill (fun i=>some (i*n,n)) ((Array.range (len*n)).map (z[· % z.size]!)) p.toList with|some cells=>(do Pure.pure (Value.slice (some (← Go.newRow e cells)) len len))|_=>Go.stuck "buildSlice: a part of the wrong size")
    (match Instr.fill (fun i=>some (i*n,n)) ((Array.range (len*n)).map (z'[· % z'.size]!)) p'.toList with|some cells=>(do Pure.pure (Value.slice (some (← Go.newRow e cells)) len len))|_=>Go.stuck "buildSlice: a part of the wrong size") (VR C):=by
   intro E3 s3 z z' hz
   have:=fill_rel (fun i=>some (i*n,n)) ((((hp.mono s1).mono s2).mono s3)) (rangeMap hz (len*n))
   cases e1:Instr.fill (fun i=>some (i*n,n)) ((Array.range (len*n)).map (z[· % z.size]!)) p.toList with
   | none=>exact .stuck _
   | some c=>cases e2:Instr.fill (fun i=>some (i*n,n)) ((Array.range (len*n)).map (z'[· % z'.size]!)) p'.toList with
    | none=>rw [e1,e2] at this;exact this.elim
    | some c'=>rw [e1,e2] at this;exact SimR.bind' (SimR.newRow (((hh.mono s1).mono s2).mono s3) e this) fun E4 _ a a' ha=>.pure (.of_slice ha.1 _ _)
  split
  ·exact .of_halts fun w=>⟨_,w,rfl,by simp⟩
  ·split
   ·exact SimR.bind' (R:=AR C) (.pure .nil) fun E3 s3 z z' hz=>fin _ s3 _ _ hz
   ·exact SimR.bind' (SimR.zeroValue K e) fun E3 s3 z z' hz=>SimR.bind' (R:=AR C) (.pure (AR.cells hz)) fun E4 s4 z z' hz=>fin _ (s3.trans s4) _ _ hz
 | _=>exact .of_halts fun w=>⟨_,w,rfl,by simp⟩
end
end Go.Sim
