/- Proved: laws for the claim. No conditions. -/
import Derived.Test.YtlcbehhbfglgaaaGreatDoorC01
set_option linter.all false
namespace Go.Sim
section
variable{C:Cx}{ok:JG->Code->Prop}{E:J5}
def EsL.toArray{l l':List MapEntry}(h:EsL C E l l'):EsR C E l.toArray l'.toArray:=by
 induction h with
 |nil=>exact .nil
 |cons h _ ih=>
  refine⟨by simpa using ih.size,λi y y' hy DC=>?_⟩;cases i with
  |zero=>grind
  |succ i=>exact ih.at_ i y y' (by grind) (by grind)
def EsL.filter{p:MapEntry->Bool}(hp:∀e e',Hl C E e e'->p e'=p e){l l':List MapEntry}(h:EsL C E l l'):EsL C E (l.filter p) (l'.filter p):=by
 induction h with
 |nil=>exact .nil
 |cons h _ ih=>
  simp only[List.filter_cons,hp _ _ h];split
  .exact .cons h ih
  .exact ih
def EsR.filter{p:MapEntry->Bool}(hp:∀e e',Hl C E e e'->p e'=p e){a a':Array MapEntry}(h:EsR C E a a'):EsR C E (a.filter p) (a'.filter p):=by
 have:=(h.toList.filter hp).toArray
 rwa [<- Array.toList_filter,<- Array.toList_filter,Array.toArray_toList,Array.toArray_toList]at this
def EsL.all{p:MapEntry->Bool}(hp:∀e e',Hl C E e e'->p e'=p e){l l':List MapEntry}(h:EsL C E l l'):l'.all p=l.all p:=by
 induction h with
 |nil=>rfl
 |cons h _ ih=>grind
def EsR.all{p:MapEntry->Bool}(hp:∀e e',Hl C E e e'->p e'=p e){a a':Array MapEntry}(h:EsR C E a a'):a'.all p=a.all p:=by
 have:=h.toList.all hp
 grind
def EsR.append{a a' b b':Array MapEntry}(h:EsR C E a a')(k:EsR C E b b'):EsR C E (a++b) (a'++b'):=by
 refine⟨by simp[h.size,k.size],λj x x' hx Af=>?_⟩;rw[Array.getElem?_append]at hx Af;rw[<- h.size]at Af;split at hx
 .rename_i e;rw[if_pos e]at Af;exact h.at_ j x x' hx Af
 .rename_i e;rw[if_neg e]at Af;exact k.at_ _ x x' hx Af
def EsR.isEmpty{a a':Array MapEntry}(h:EsR C E a a'):a'.isEmpty=a.isEmpty:=by simp only[Array.isEmpty,h.size]
def cZ(C:Cx)(E:J5):Option (Option MapEntry)->Option (Option MapEntry)->Prop
 |none,none=>True
 |some none,some none=>True
 |some (some e),some (some e')=>Hl C E e e'
 |_,_=>False
def J047{es AU:Array MapEntry}(h:EsR C E es AU)(hd:Array (Option MapEntry))(hn:∀x∈hd,x=none)(i:Nat):cZ C E ((hd++es.map some)[i]?) ((hd++AU.map some)[i]?):=by
 rw[Array.getElem?_append,Array.getElem?_append];split
 .cases hx:hd[i]? with
  |none=>exact trivial
  |some x=>rw[hn x (Ho hx)];exact trivial
 .simp only[Array.getElem?_map];cases hx:es[i-hd.size]? with
  |none=>rw[h.VY hx];exact trivial
  |some x=>obtain⟨x',Af,hr⟩:=h.Ec hx;rw[Af];exact hr
def cZ.mono{E1:J5}(s:Sub E E1):∀{a b:Option (Option MapEntry)},cZ C E a b->cZ C E1 a b
 |none,none,_=>trivial
 |some none,some none,_=>trivial
 |some (some _),some (some _),h=>Hl.mono s h
 |none,some _,h=>h.elim
 |some none,some (some _),h=>h.elim
 |some none,none,h=>h.elim
 |some (some _),none,h=>h.elim
 |some (some _),some none,h=>h.elim
def J3.pick{cs WJ:Array (Option MapEntry)}(hz:WJ.size=cs.size)(hc:∀i:Nat,cZ C E cs[i]? WJ[i]?)(Ya:String){f f':MapEntry->Sem JJ}{g g':Sem JJ}
  (hf:∀E1,Sub E E1->∀e e',Hl C E1 e e'->J3 C ok E1 (f e) (f' e') (VR C)) (hg:∀E1,Sub E E1->J3 C ok E1 g g' (VR C)) :
  J3 C ok E (Go.choose (.mapNext cs.size) >>= λi=>match cs[i]? with|some (some e)=>f e|some none=>g|none=>Go.stuck Ya)
   (Go.choose (.mapNext WJ.size) >>= λi=>match WJ[i]? with|some (some e)=>f' e|some none=>g'|none=>Go.stuck Ya) (VR C):=by
 rw[hz];refine J3.bind' (J3.choose _) λE1 s1 i i' hi=>?_;obtain rfl:i=i':=hi;have h:=(hc i).mono s1;cases h1:cs[i]? with
 |none=>exact .stuck _
 |some e=>
  cases h2:WJ[i]? with
  |none=>grind
  |some e'=>
   rw[h1,h2]at h;cases e with
   |none=>cases e' with
    |none=>grind
    |some _=>exact h.elim
   |some e=>cases e' with
    |none=>exact h.elim
    |some e'=>exact hf E1 s1 e e' h
def J3.next(hh:Hnd C E){x x':JJ}(hx:VR C E x x')(b:Bool)(t:JH):J3 C ok E (Instr.next x b t) (Instr.next x' b t) (VR C):=by
 have over:∀E,J3 C ok E (Pure.pure (Value.tuple #[.bool false])) (Pure.pure (Value.tuple #[.bool false])) (VR C):=λE=>.pure (.U5 (.one (.bool false)));unfold Instr.next;cases hx<;>first|exact .stuck _|skip
 rename_i r r' o s h;cases o with
 |succ o=>exact .stuck _
 |zero=>
  refine J3.bind' (J3.getObj h) λE1 s1 ob ob' ho=>?_;obtain⟨h3,_⟩:=ho;cases ob with
  |stringIter st pos=>
   obtain⟨hs,rfl⟩:=h3;cases b with
   |false=>exact .stuck _
   |true=>
    dsimp only
    split
    .refine J3.bind' (J3.setObj (s1 _ _ h) hs ⟨hs,rfl⟩ (by simp)) λE2 s2 _ _ _=>?_;exact .pure (.U5 (LR.toArray (l:=[_,_,_]) (l':=[_,_,_]) (.cons (.bool true) (.cons (.int _ _) (.cons (.int _ _) .nil)))))
    grind
  |mapIter m since seen last=>
   obtain⟨hs,m',rfl,hm⟩:=h3;cases b with
   |true=>grind[stuck]
   |false=>
    cases m with
    |none=>cases m' with
     |none=>exact over _
     |some _=>exact hm.elim
    |some m=>
     cases m' with
     |none=>exact hm.elim
     |some m'=>
      refine J3.Wj hm _ λE2 s2 es AU ck Eh=>?_
      dsimp only
      have e1:AU.isEmpty=es.isEmpty:=Eh.isEmpty;have e2:AU.all (λe=>decide (e.born>=last))=es.all (λe=>decide (e.born>=last)):=Eh.all λe e' k=>by rw[k.born]
      rw[e1,e2];have hl:EsR C E2 (es.filter λe=>!seen.contains e.born) (AU.filter λe=>!seen.contains e.born):=Eh.filter λe e' k=>by rw[k.born]
      have ho:=hl.filter (p:=λe=>decide (e.born<since)) λe e' k=>by rw[k.born]
      have hn:=hl.filter (p:=λe=>decide (e.born>=since)) λe e' k=>by rw[k.born]
      have Il:=ho.append hn;split
      .exact .Jg λw=>⟨_,w,rfl,by simp⟩
      .refine J3.pick ?_ (λi=>?_) _ (λE3 s3 e e' he=>?_) λE3 _=>over E3
       .rw[ho.isEmpty,Array.size_append,Array.size_append,Array.size_map,Array.size_map,Il.size]
       .rw[ho.isEmpty];exact J047 Il _ (λx hx=>by simp_all) i
       .have hb:e'.born=e.born:=he.born.symm;rw[hb];refine J3.bind' (J3.setObj (s3 _ _ (s2 _ _ (s1 _ _ h))) hs ⟨hs,some m',rfl,s3 _ _ (s2 _ _ hm)⟩ (by simp)) λE4 s4 _ _ _=>?_;exact .pure (.U5 (LR.toArray (l:=[_,_,_]) (l':=[_,_,_]) (.cons (.bool true) (.cons (he.key.mono s4) (.cons (he.val.mono s4) .nil)))))
  |_=>grind[stuck]
end
section
variable{C:Cx}{ok:JG->Code->Prop}{E:J5}
def Kw(C:Cx)(v:JJ):Prop:=(∀r,v=.map (some r)->¬C.Sh r)/\v≠.nilIface
inductive L2{β β':Type}(R:β->β'->Prop):List β->List β'->Prop
 |nil:L2 R [] []
 |cons{a b l l'}(h:R a b)(hl:L2 R l l'):L2 R (a::l) (b::l')
def J3.Jix{α β:Type}{R:J5->β->β->Prop}(hm:∀E E1 b b',Sub E E1->R E b b'->R E1 b b'){f:α->Sem β}(hf:∀x E,J3 C ok E (f x) (f x) (λ_ a a'=>a=a')) :
  ∀(l:List α)(E:J5),J3 C ok E (l.mapM f) (l.mapM f) (λ_ a a'=>a=a')
 |[],E=>by simp only[List.mapM_nil];exact .pure rfl
 |x::l,E=>by simp only[List.mapM_cons];refine J3.bind' (hf x E) λE1 s1 a a' ha=>?_;obtain rfl:a=a':=ha;refine J3.bind' (J3.Jix hm hf l E1) λE2 s2 b b' hb=>?_;obtain rfl:b=b':=hb;exact .pure rfl
def Jiy{p:MapEntry->Bool}(hp:∀e e',Hl C E e e'->p e'=p e):∀{l l':List MapEntry},EsL C E l l'->Di (Hl C E) (l.find? p) (l'.find? p)
 |_,_,.nil=>trivial
 |_,_,.cons h hl=>by
  simp only[List.find?_cons,hp _ _ h];split
  .exact h
  .exact Jiy hp hl
def J3.entry{x x':JJ}(hx:VR C E x x'):J3 C ok E (Instr.entry x) (Instr.entry x') (VR C):=by
 unfold Instr.entry;cases hx<;>first|exact .stuck _|skip
 rename_i r r' o s h;cases o with
 |succ o=>exact .stuck _
 |zero=>
  refine J3.bind' (J3.getObj h) λE1 s1 ob ob' ho=>?_;obtain⟨h3,_⟩:=ho;cases ob with
  |mapIter m since seen last=>
   obtain⟨hs,m',rfl,hm⟩:=h3;cases m with
   |none=>grind[stuck]
   |some m=>
    cases m' with
    |none=>exact hm.elim
    |some m'=>
     dsimp only
     cases seen.back? with
     |none=>exact .stuck _
     |some st=>
      refine J3.Wj hm _ λE2 s2 es AU ck Eh=>?_;split
      .exact .Jg λw=>⟨_,w,rfl,by simp⟩
      .have h1:=Jiy (p:=λe=>e.born == st) (λe e' k=>by rw[k.born]) Eh.toList;simp only[Array.find?_toList]at h1;cases e1:es.find? (λe=>e.born == st)with
       |none=>grind[unsupported]
       |some e=>cases e2:AU.find? (λe=>e.born == st)with
        |none=>rw[e1,e2]at h1;exact h1.elim
        |some e'=>
         rw[e1,e2]at h1;exact .pure (.U5 (LR.toArray (l:=[_,_]) (l':=[_,_]) (.cons h1.key (.cons h1.val .nil))))
  |_=>grind[stuck]
def J3.range(hh:Hnd C E)(t:JH){x x':JJ}(hx:VR C E x x'):J3 C ok E (Instr.range t x) (Instr.range t x') (VR C):=by
 unfold Instr.range;refine J3.bind' (J3.underlying t) λE1 s1 u u' hu=>?_;obtain⟨rfl,_⟩:=hu;have Dn:=hh.mono s1;have fin:∀E2,Sub E1 E2->∀o o',(∀b,¬C.Sh b->Kv C ok E2 b o o')->J3 C ok E2 (do Pure.pure (Value.pointer (some ⟨<- Go.newObj o,0,none⟩))) (do Pure.pure (Value.pointer (some ⟨<- Go.newObj o',0,none⟩))) (VR C):=λE2 s2 o o' h=>
  J3.bind' (J3.newObj (Dn.mono s2) h) λE3 _ r r' hr=>.pure (.ptr 0 none hr.1)
 have EX:=hx.mono s1;cases u with
 |string=>
  cases EX<;>first
   |exact .stuck _
   |exact fin _ (.refl _) _ _ λb h1=>⟨h1,rfl⟩
   |exact .Jg λw=>⟨_,w,rfl,by simp⟩
 |map k e=>
  cases EX<;>first
   |exact .stuck _
   |exact fin _ (.refl _) _ _ λb h1=>⟨h1,none,rfl,trivial⟩
   |exact J3.Wj (by assumption) _ λE2 s2 es AU ck h=>fin _ s2 _ _ λb h1=>⟨h1,_,rfl,s2 _ _ (by assumption)⟩
   |exact .Jg λw=>⟨_,w,rfl,by simp⟩
 |_=>cases EX<;>exact .Jg λw=>⟨_,w,rfl,by simp⟩
def J3.makeMap(hh:Hnd C E)(t:JH){x x':Option JJ}(hx:Di (VR C E) x x'):J3 C ok E (Instr.makeMap t x) (Instr.makeMap t x') (λE1 v v'=>VR C E1 v v'/\Kw C v):=by
 unfold Instr.makeMap;have fin:∀E2,Sub E E2->J3 C ok E2 (do Pure.pure (Value.map (some (<- Go.newObj (.map #[] 0))))) (do Pure.pure (Value.map (some (<- Go.newObj (.map #[] 0))))) (λE1 v v'=>VR C E1 v v'/\Kw C v):=λE2 s2=>
  J3.bind' (J3.newObj (hh.mono s2) λb h1=>⟨#[],rfl,.nil⟩) λE3 _ r r' hr=>.pure ⟨.map hr.1,⟨λq hq=>by grind,by simp⟩⟩
 cases x with
 |none=>cases x' with
  |none=>exact fin _ (.refl _)
  |some _=>exact hx.elim
 |some v=>cases x' with
  |none=>exact hx.elim
  |some v'=>
   refine J3.bind' (J3.underlying t) λE1 s1 u u' hu=>?_;obtain⟨rfl,_⟩:=hu;cases u with
   |map k e=>exact J3.bind' (J3.asInt (VR.mono s1 hx)) λE2 s2 _ _ _=>fin _ (s1.trans s2)
   |_=>exact .Jg λw=>⟨_,w,rfl,by simp⟩
theorem J3.alloc(K:Ov C)(hh:Hnd C E)(t:JH):J3 C ok E (Instr.alloc t true (.tuple #[])) (Instr.alloc t true (.tuple #[])) (VR C):=by unfold Instr.alloc;refine J3.bind' (J3.zeroValue K t) λE1 s1 v v' hv=>?_;exact J3.bind' (J3.newVar (hh.mono s1) t hv) λE2 s2 a a' ha=>.pure (.Qm ha.1)
def J3.box(hh:Hnd C E)(t:JH){v v':JJ}(hv:VR C E v v'):J3 C ok E (Instr.box t v) (Instr.box t v') (VR C):=by unfold Instr.box;exact J3.bind' (J3.newVar hh t hv) λE2 s2 a a' ha=>.pure (.Qm ha.1)
inductive RG(C:Cx)(E:J5):List (Nat × JJ)->List (Nat × JJ)->Prop
 |nil:RG C E [] []
 |cons{i v v' l l'}(h:VR C E v v')(hl:RG C E l l'):RG C E ((i,v)::l) ((i,v')::l')
def RG.mono{E1:J5}(s:Sub E E1){l l'}(h:RG C E l l'):RG C E1 l l':=by
 induction h with
 |nil=>exact .nil
 |cons h _ ih=>exact .cons (h.mono s) ih
def Jlq(off:Nat):∀{l l':List JJ}(j:Nat){a a':JC},LR C E l l'->AR C E a a' ->
  AR C E ((l.zipIdx j).foldl (λcs (c,j)=>cs.setIfInBounds (off+j) c) a) ((l'.zipIdx j).foldl (λcs (c,j)=>cs.setIfInBounds (off+j) c) a')
 |_,_,_,_,_,.nil,h=>h
 |_,_,j,_,_,.cons k hl,h=>by simp only[List.zipIdx_cons,List.foldl_cons];exact Jlq off (j+1) hl (h.set _ k)
def nN(place:Nat->Option (Nat × Nat)):∀{l l':List (Nat × JJ)}{a a':JC},RG C E l l'->AR C E a a'->Di (AR C E) (Instr.fill place a l) (Instr.fill place a' l')
 |_,_,_,_,.nil,h=>h
 |_,_,a,a',.cons (i:=i) (v:=v) (v':=v') k hl,h=>by
  have hc:=AR.cells k;simp only[Instr.fill];cases place i with
  |none=>trivial
  |some p=>
   obtain⟨off,size⟩:=p
   dsimp only
   rw[<- hc.size,<- h.size];split
   .trivial
   .refine nN place hl ?_;have:=Jlq (C:=C) (E:=E) off 0 (AR.toList hc) h
    grind[Array.toList_zipIdx]
def J3.build(K:Ov C)(t:JH){p p':Array (Nat × JJ)}(hp:RG C E p.toList p'.toList):J3 C ok E (Instr.build t p) (Instr.build t p') (VR C):=by
 unfold Instr.build;refine J3.bind' (J3.zeroValue K t) λE1 s1 z z' hz=>?_;have hzc:=AR.cells hz;refine J3.bind' (J3.underlying t) λE2 s2 u u' hu=>?_;obtain⟨rfl,_⟩:=hu;cases u with
 |struct fs=>
  dsimp only
  refine J3.bind' (R:=λ_ a a'=>a=a') ?_ λE3 s3 pl yU D8=>?_
  .rw[Array.mapM_eq_mapM_toList];refine(J3.map (J3.Jix (R:=λ_ a a'=>a=a') (λ_ _ _ _ _ h=>h) (λf E=>J3.bind' (J3.sizeOf f.type) λ_ _ n n' hn=>?_) _ _)).mono ?_
   .obtain rfl:n=n':=hn;exact .pure rfl
   grind
  .obtain rfl:pl=yU:=D8;have:=nN (pl[·]?) ((((hp.mono s1).mono s2).mono s3)) ((hzc.mono s2).mono s3);cases e1:Instr.fill (pl[·]?) z.cells p.toList with
   |none=>exact .stuck _
   |some c=>cases e2:Instr.fill (pl[·]?) z'.cells p'.toList with
    |none=>rw[e1,e2]at this;exact this.elim
    |some c'=>rw[e1,e2]at this;exact .pure (.Po this)
 |array n e=>
  dsimp only
  refine J3.bind' (J3.sizeOf e) λE3 s3 n n' hn=>?_;obtain rfl:n=n':=hn;have:=nN (λi=>some (i*n,n)) ((((hp.mono s1).mono s2).mono s3)) ((hzc.mono s2).mono s3);cases e1:Instr.fill (λi=>some (i*n,n)) z.cells p.toList with
  |none=>exact .stuck _
  |some c=>cases e2:Instr.fill (λi=>some (i*n,n)) z'.cells p'.toList with
   |none=>rw[e1,e2]at this;exact this.elim
   |some c'=>rw[e1,e2]at this;exact .pure (.Po this)
 |_=>exact .stuck _
def rangeMap{a a':JC}(h:AR C E a a')(n:Nat):AR C E ((Array.range n).map (a[· % a.size]!)) ((Array.range n).map (a'[· % a'.size]!)):=by
 refine AR.map _ λi _=>?_;rw[h.size];by_cases hz:a.size=0
 .have OX:a'.size=0:=h.size▸hz;rw[getElem!_neg a _ (by omega),getElem!_neg a' _ (by omega)];exact .bool false
 .have Ac:i % a'.size<a.size:=by rw[<- h.size];exact Nat.mod_lt _ (by omega)
  have CS:i % a'.size<a'.size:=h.size▸Ac;rw[getElem!_pos a _ Ac,getElem!_pos a' _ CS];exact h.at_ _ _ _ (Bz Ac) (Bz CS)
def J3.buildSlice(K:Ov C)(hh:Hnd C E)(t:JH)(len:Nat){p p':Array (Nat × JJ)}(hp:RG C E p.toList p'.toList):J3 C ok E (Instr.buildSlice t len p) (Instr.buildSlice t len p') (VR C):=by
 unfold Instr.buildSlice;refine J3.bind' (J3.underlying t) λE1 s1 u u' hu=>?_;obtain⟨rfl,_⟩:=hu;cases u with
 |slice e=>
  dsimp only
  refine J3.bind' (J3.sizeOf e) λE2 s2 n n' hn=>?_;obtain rfl:n=n':=hn;have fin:∀E3,Sub E2 E3->∀z z',AR C E3 z z'->J3 C ok E3
    (match Instr.fill (λi=>some (i*n,n)) ((Array.range (len*n)).map (z[· % z.size]!)) p.toList with|some cells=>(do Pure.pure (Value.slice (some (<- Go.newRow e cells)) len len))|_=>Go.stuck "buildSlice: a part of the wrong size")
    (match Instr.fill (λi=>some (i*n,n)) ((Array.range (len*n)).map (z'[· % z'.size]!)) p'.toList with|some cells=>(do Pure.pure (Value.slice (some (<- Go.newRow e cells)) len len))|_=>Go.stuck "buildSlice: a part of the wrong size") (VR C):=by
   intro E3 s3 z z' hz;have:=nN (λi=>some (i*n,n)) ((((hp.mono s1).mono s2).mono s3)) (rangeMap hz (len*n));cases e1:Instr.fill (λi=>some (i*n,n)) ((Array.range (len*n)).map (z[· % z.size]!)) p.toList with
   |none=>exact .stuck _
   |some c=>cases e2:Instr.fill (λi=>some (i*n,n)) ((Array.range (len*n)).map (z'[· % z'.size]!)) p'.toList with
    |none=>rw[e1,e2]at this;exact this.elim
    |some c'=>rw[e1,e2]at this;exact J3.bind' (J3.newRow (((hh.mono s1).mono s2).mono s3) e this) λE4 _ a a' ha=>.pure (.of_slice ha.1 _ _)
  split
  .exact .Jg λw=>⟨_,w,rfl,by simp⟩
  .split
   .exact J3.bind' (R:=AR C) (.pure .nil) λE3 s3 z z' hz=>fin _ s3 _ _ hz
   .exact J3.bind' (J3.zeroValue K e) λE3 s3 z z' hz=>J3.bind' (R:=AR C) (.pure (AR.cells hz)) λE4 s4 z z' hz=>fin _ (s3.trans s4) _ _ hz
 |_=>exact .Jg λw=>⟨_,w,rfl,by simp⟩
end
section
variable{C:Cx}{ok:JG->Code->Prop}{E:J5}
def J3.loadAt(t:JH){x x':JJ}(hx:VR C E x x'):J3 C ok E (Instr.loadAt t x) (Instr.loadAt t x') (VR C):=by unfold Instr.loadAt;exact J3.bind' (J3.sureAddr hx) λE1 s1 a a' ha=>J3.loadVar t ha
def J3.storeAt(t:JH){x x' v v':JJ}(hx:VR C E x x')(hv:VR C E v v'):J3 C ok E (Instr.storeAt t x v) (Instr.storeAt t x' v') (λ_ _ _=>True):=by unfold Instr.storeAt;exact J3.bind' (J3.sureAddr hx) λE1 s1 a a' ha=>J3.storeVar t ha (hv.mono s1)
def J3.partAt{a a':Addr}(h:Jc E a a')(x y:Nat):J3 C ok E (Go.partAt a x y) (Go.partAt a' x y) (λE1 b b'=>Jc E1 b b'):=by
 unfold Go.partAt;refine J3.bind' (J3.byteOf h) λE1 s1 n n' hn=>?_;obtain rfl:n=n':=hn
 dsimp only
 have h1:Jc E1 { block:=a.block,off:=a.off+x } { block:=a'.block,off:=a'.off+x }:=⟨s1 _ _ h.block,by show a.off+x=a'.off+x;rw[h.off],rfl⟩;refine J3.bind' (J3.byteOf h1) λE2 s2 n n' hn=>?_;obtain rfl:n=n':=hn;refine .pure ?_;split
 .exact h1.mono s2
 .exact⟨(h1.mono s2).block,h1.off,rfl⟩
def J3.fieldPlace{a a':Addr}(h:Jc E a a')(f:Field):J3 C ok E (Go.fieldPlace a f) (Go.fieldPlace a' f) (λE1 b b'=>Jc E1 b b'):=by
 unfold Go.fieldPlace;refine J3.bind' (J3.sizeOf f.type) λE1 s1 n n' hn=>?_;obtain rfl:n=n':=hn;split
 .exact J3.partAt (h.mono s1) _ _
 .exact .pure ((h.mono s1).add _)
def J3.fieldAt(t:JH){x x':JJ}(hx:VR C E x x')(n:Nat):J3 C ok E (Instr.fieldAt t x n) (Instr.fieldAt t x' n) (VR C):=by
 unfold Instr.fieldAt;refine J3.bind' (J3.underlying t) λE1 s1 u u' hu=>?_;obtain⟨rfl,hu⟩:=hu;cases u with
 |struct fs=>
  dsimp only
  cases hf:fs[n]? with
  |none=>exact .stuck _
  |some f=>
   refine J3.bind' (J3.sureAddr (hx.mono s1)) λE2 s2 a a' ha=>?_;exact J3.bind' (J3.fieldPlace ha f) λE3 s3 b b' hb=>.pure (.Qm hb)
 |_=>exact .stuck _
def J3.indexAt(hh:Hnd C E)(t:JH){x x' i i':JJ}(hx:VR C E x x')(hi:VR C E i i'):J3 C ok E (Instr.indexAt t x i) (Instr.indexAt t x' i') (VR C):=by
 unfold Instr.indexAt;refine J3.bind' (J3.asIntOf hi) λE1 s1 k k' hk=>?_;obtain rfl:k=k':=hk;obtain⟨k,n⟩:=k
 dsimp only
 refine J3.bind' (J3.underlying t) λE2 s2 u u' hu=>?_;obtain⟨rfl,hu⟩:=hu;have OW:=(hx.mono s1).mono s2;have Fv:=(hh.mono s1).mono s2;have fin:∀E3,Sub E2 E3->∀(base AO:JI)(len:Nat)(elem:JH),Di (Jc E3) base AO->J3 C ok E3
   (do
    let __do_lift <- Go.underlying t
    match base with
    |some a=>
     if 0<=n/\n<(len:Int)then do
      let __do_lift <- Go.sizeOf elem
      Pure.pure (Value.pointer (some (a.add (n.toNat*__do_lift))))
     else if(decide (len<=1) && match __do_lift with| .array ..=>true|_=>false)=true then Go.unsupported (.noEntry "op/indexAddr.an index out of range at an array of length 0 or 1 (ledger 616)")
     else Go.boundsPanic k n len .index
    |none=>Go.boundsPanic k n 0 .index)
   (do
    let __do_lift <- Go.underlying t
    match AO with
    |some a=>
     if 0<=n/\n<(len:Int)then do
      let __do_lift <- Go.sizeOf elem
      Pure.pure (Value.pointer (some (a.add (n.toNat*__do_lift))))
     else if(decide (len<=1) && match __do_lift with| .array ..=>true|_=>false)=true then Go.unsupported (.noEntry "op/indexAddr.an index out of range at an array of length 0 or 1 (ledger 616)")
     else Go.boundsPanic k n len .index
    |none=>Go.boundsPanic k n 0 .index) (VR C):=by
  intro E3 s3 base AO len elem hb;refine J3.bind' (J3.underlying t) λE4 s4 v v' hv=>?_;obtain⟨rfl,_⟩:=hv;cases base with
  |none=>cases AO with
   |none=>exact J3.boundsPanic ((Fv.mono s3).mono s4) _ _ _ _
   |some _=>exact hb.elim
  |some a=>cases AO with
   |none=>exact hb.elim
   |some a'=>
    dsimp only
    split
    .refine J3.bind' (J3.sizeOf elem) λE5 s5 z z' hz=>?_;obtain rfl:z=z':=hz;exact .pure (.Qm (((Jc.mono s4 hb).mono s5).add _))
    .split<;>(try split)<;>first|exact .unsupported _|exact J3.boundsPanic ((Fv.mono s3).mono s4) _ _ _ _
 cases u with
 |array len elem=>
  refine J3.bind' (J3.sureAddr OW) λE3 s3 a a' ha=>?_;exact J3.bind' (R:=λE(p p':JI × Nat × JH)=>Di (Jc E) p.1 p'.1/\p.2=p'.2) (.pure ⟨ha,rfl⟩) λE4 s4 p p' hp=>by
   obtain⟨b,l,e⟩:=p;obtain⟨b',l',e'⟩:=p';obtain⟨h1,h2⟩:=hp;cases h2;exact fin _ (s3.trans s4) _ _ _ _ h1
 |slice elem=>
  cases OW with
  |Jk l c=>
   exact J3.bind' (R:=λE(p p':JI × Nat × JH)=>Di (Jc E) p.1 p'.1/\p.2=p'.2) (.pure ⟨trivial,rfl⟩) λE4 s4 p p' hp=>by
    obtain⟨b,l,e⟩:=p;obtain⟨b',l',e'⟩:=p';obtain⟨h1,h2⟩:=hp;cases h2;exact fin _ s4 _ _ _ _ h1
  |slice o s l c h=>
   exact J3.bind' (R:=λE(p p':JI × Nat × JH)=>Di (Jc E) p.1 p'.1/\p.2=p'.2) (.pure ⟨⟨h,rfl,rfl⟩,rfl⟩) λE4 s4 p p' hp=>by
    obtain⟨b,l,e⟩:=p;obtain⟨b',l',e'⟩:=p';obtain⟨h1,h2⟩:=hp;cases h2;exact fin _ s4 _ _ _ _ h1
  |_=>exact .Jg λw=>⟨_,w,rfl,by simp⟩
 |_=>exact .Jg λw=>⟨_,w,rfl,by simp⟩
def J3.sliceBound(hh:Hnd C E){x x':JJ}(hx:VR C E x x')(y:Nat)(c:BoundsCode):J3 C ok E (Instr.sliceBound x y c) (Instr.sliceBound x' y c) (λ_ n n'=>n=n'):=by
 unfold Instr.sliceBound;refine J3.bind' (J3.asIntOf hx) λE1 s1 k k' hk=>?_;obtain rfl:k=k':=hk;obtain⟨k,n⟩:=k
 dsimp only
 split
 .exact .pure rfl
 .exact J3.boundsPanic (hh.mono s1) _ _ _ _
def J3.sliceBounds(hh:Hnd C E)(b:Bool)(len cap:Nat){lo OY hi CW mx mx':Option JJ}(h1:Di (VR C E) lo OY)(h2:Di (VR C E) hi CW)(h3:Di (VR C E) mx mx') :
  J3 C ok E (Instr.sliceBounds b len cap lo hi mx) (Instr.sliceBounds b len cap OY CW mx') (λ_ n n'=>n=n'):=by
 have fin:∀E1,Sub E E1->∀(m h:Nat)(sm:Bool),J3 C ok E1
   (match lo with
    |some v=>(do let l <- Instr.sliceBound v h (if sm then .slice3C else .sliceB);Pure.pure (l,h,m):Sem (Nat × Nat × Nat))
    |none=>(do let l <- Pure.pure 0;Pure.pure (l,h,m)))
   (match OY with
    |some v=>(do let l <- Instr.sliceBound v h (if sm then .slice3C else .sliceB);Pure.pure (l,h,m):Sem (Nat × Nat × Nat))
    |none=>(do let l <- Pure.pure 0;Pure.pure (l,h,m))) (λ_ n n'=>n=n'):=by
  intro E1 s1 m h sm;cases lo with
  |none=>cases OY with
   |none=>exact J3.bind' (R:=λ_ n n'=>n=n') (.pure rfl) λ_ _ n n' hn=>by subst hn;exact .pure rfl
   |some _=>exact h1.elim
  |some v=>cases OY with
   |none=>exact h1.elim
   |some v'=>exact J3.bind' (J3.sliceBound (hh.mono s1) (VR.mono s1 h1) h _) λ_ _ n n' hn=>by subst hn;exact .pure rfl
 unfold Instr.sliceBounds;cases mx with
 |none=>cases mx' with
  |some _=>exact h3.elim
  |none=>
   refine J3.bind' (R:=λ_ n n'=>n=n') (.pure rfl) λE1 s1 m m' hm=>?_;obtain rfl:m=m':=hm;cases hi with
   |none=>cases CW with
    |some _=>exact h2.elim
    |none=>
     refine J3.bind' (R:=λ_ n n'=>n=n') (.pure rfl) λE2 s2 h h' iK=>?_;obtain rfl:h=h':=iK;exact fin _ (s1.trans s2) m h false
   |some v=>cases CW with
    |none=>exact h2.elim
    |some v'=>
     refine J3.bind' (J3.sliceBound (hh.mono s1) (VR.mono s1 h2) m _) λE2 s2 h h' iK=>?_;obtain rfl:h=h':=iK;exact fin _ (s1.trans s2) m h false
 |some mv=>cases mx' with
  |none=>exact h3.elim
  |some mv'=>
   refine J3.bind' (J3.sliceBound hh h3 cap _) λE1 s1 m m' hm=>?_;obtain rfl:m=m':=hm;cases hi with
   |none=>cases CW with
    |some _=>exact h2.elim
    |none=>exact .Jg λw=>⟨_,w,rfl,by simp⟩
   |some v=>cases CW with
    |none=>exact h2.elim
    |some v'=>
     refine J3.bind' (J3.sliceBound (hh.mono s1) (VR.mono s1 h2) m _) λE2 s2 h h' iK=>?_;obtain rfl:h=h':=iK;exact fin _ (s1.trans s2) m h true
def Di.Ku{E1:J5}(s:Sub E E1){a b:Option JJ}(h:Di (VR C E) a b):Di (VR C E1) a b:=h.mono' λ_ _=>VR.mono s
def J3.slice(hh:Hnd C E)(t:JH){x x':JJ}(hx:VR C E x x'){lo OY hi CW mx mx':Option JJ}(h1:Di (VR C E) lo OY)(h2:Di (VR C E) hi CW)(h3:Di (VR C E) mx mx') :
  J3 C ok E (Instr.slice t x lo hi mx) (Instr.slice t x' OY CW mx') (VR C):=by
 unfold Instr.slice;refine J3.bind' (J3.underlying t) λE1 s1 u u' hu=>?_;obtain⟨rfl,hu⟩:=hu;have EX:=hx.mono s1;have Dn:=hh.mono s1;have g1:=h1.Ku s1;have g2:=h2.Ku s1;have g3:=h3.Ku s1;cases u with
 |string=>
  cases EX with
  |string s=>
   cases mx with
   |some _=>exact .Jg λw=>⟨_,w,rfl,by simp⟩
   |none=>cases mx' with
    |some _=>exact h3.elim
    |none=>
     refine J3.bind' (J3.sliceBounds Dn false s.size s.size g1 g2 (mx:=none) (mx':=none) trivial) λE2 s2 p p' hp=>?_;obtain rfl:p=p':=hp;exact .pure (.string _)
  |_=>exact .Jg λw=>⟨_,w,rfl,by simp⟩
 |slice e=>
  cases EX with
  |Jk l c=>
   refine J3.bind' (J3.sliceBounds Dn true l c g1 g2 g3) λE2 s2 p p' hp=>?_;obtain rfl:p=p':=hp;obtain⟨l,h,m⟩:=p;refine J3.bind' (J3.sizeOf e) λE3 s3 z z' hz=>?_;obtain rfl:z=z':=hz;refine .pure ?_;split<;>exact .Jk _ _
  |slice o s l c h=>
   refine J3.bind' (J3.sliceBounds Dn true l c g1 g2 g3) λE2 s2 p p' hp=>?_;obtain rfl:p=p':=hp;obtain⟨l,h',m⟩:=p;refine J3.bind' (J3.sizeOf e) λE3 s3 z z' hz=>?_;obtain rfl:z=z':=hz;refine .pure ?_;have ha:Jc E3 ⟨_,o,s⟩ ⟨_,o,s⟩:=⟨s3 _ _ (s2 _ _ h),rfl,rfl⟩;split
   .exact .of_slice ha _ _
   .exact .of_slice (ha.add _) _ _
  |_=>exact .Jg λw=>⟨_,w,rfl,by simp⟩
 |pointer e=>
  have fin:∀(E1:J5),Hnd C E1->∀{x x':JJ},VR C E1 x x'->Di (VR C E1) lo OY->Di (VR C E1) hi CW->Di (VR C E1) mx mx'->J3 C ok E1
    (do
     let a <- Go.asAddr x
     match <- Go.underlying e with
     |.array n elem=>do
      let x <- Instr.sliceBounds false n n lo hi mx
      match x with
      |(l,h,m)=>do
       let size <- Go.sizeOf elem
       Pure.pure (Value.slice (some (if m=l then a else a.add (l*size))) (h-l) (m-l))
     |_=>Go.stuck "Slice: array type expected")
    (do
     let a <- Go.asAddr x'
     match <- Go.underlying e with
     |.array n elem=>do
      let x <- Instr.sliceBounds false n n OY CW mx'
      match x with
      |(l,h,m)=>do
       let size <- Go.sizeOf elem
       Pure.pure (Value.slice (some (if m=l then a else a.add (l*size))) (h-l) (m-l))
     |_=>Go.stuck "Slice: array type expected") (VR C):=by
   intro E1 Dn x x' EX g1 g2 g3;refine J3.bind' (J3.asAddr Dn EX) λE2 s2 a a' ha=>?_;refine J3.bind' (J3.underlying e) λE3 s3 u u' hu=>?_;obtain⟨rfl,_⟩:=hu;cases u with
   |array n elem=>
    refine J3.bind' (J3.sliceBounds ((Dn.mono s2).mono s3) false n n ((g1.Ku s2).Ku s3) ((g2.Ku s2).Ku s3) ((g3.Ku s2).Ku s3)) λE4 s4 p p' hp=>?_;obtain rfl:p=p':=hp;obtain⟨l,h',m⟩:=p;refine J3.bind' (J3.sizeOf elem) λE5 s5 z z' hz=>?_;obtain rfl:z=z':=hz;refine .pure ?_;have ha:=((ha.mono s3).mono s4).mono s5;split
    .exact .of_slice ha _ _
    .exact .of_slice (ha.add _) _ _
   |_=>exact .stuck _
  have:=fin E1 Dn EX g1 g2 g3;omega
 |_=>cases EX<;>exact .Jg λw=>⟨_,w,rfl,by simp⟩
def J3.sliceAt(hh:Hnd C E)(t:JH){x x':JJ}(hx:VR C E x x'){lo OY hi CW mx mx':Option JJ}(h1:Di (VR C E) lo OY)(h2:Di (VR C E) hi CW)(h3:Di (VR C E) mx mx') :
  J3 C ok E (Instr.sliceAt t x lo hi mx) (Instr.sliceAt t x' OY CW mx') (VR C):=by
 unfold Instr.sliceAt;refine J3.bind' (J3.underlying t) λE1 s1 u u' hu=>?_;obtain⟨rfl,hu⟩:=hu;cases u with
 |array n elem=>
  refine J3.bind' (J3.sureAddr (hx.mono s1)) λE2 s2 a a' ha=>?_;refine J3.bind' (J3.sliceBounds ((hh.mono s1).mono s2) false n n ((h1.Ku s1).Ku s2) ((h2.Ku s1).Ku s2) ((h3.Ku s1).Ku s2)) λE4 s4 p p' hp=>?_;obtain rfl:p=p':=hp;obtain⟨l,h',m⟩:=p;refine J3.bind' (J3.sizeOf elem) λE5 s5 z z' hz=>?_;obtain rfl:z=z':=hz;refine .pure ?_;have ha:=(ha.mono s4).mono s5;split
  .exact .of_slice ha _ _
  .exact .of_slice (ha.add _) _ _
 |_=>exact J3.slice (hh.mono s1) t (hx.mono s1) (h1.Ku s1) (h2.Ku s1) (h3.Ku s1)
end
section
variable{C:Cx}{ok:JG->Code->Prop}{E:J5}
def J3.field(t:JH){x x':JJ}(hx:VR C E x x')(n:Nat):J3 C ok E (Instr.field t x n) (Instr.field t x' n) (VR C):=by
 unfold Instr.field;refine J3.bind' (J3.underlying t) λE1 s1 u u' hu=>?_;obtain⟨rfl,hu⟩:=hu;cases u with
 |struct fs=>
  dsimp only
  cases hf:fs[n]? with
  |none=>exact .stuck _
  |some f=>exact J3.bind' (J3.asAgg (hx.mono s1)) λE2 s2 a a' ha=>J3.part f.type ha _
 |_=>exact .stuck _
def J3.index(hh:Hnd C E)(t:JH){x x' i i':JJ}(hx:VR C E x x')(hi:VR C E i i'):J3 C ok E (Instr.index t x i) (Instr.index t x' i') (VR C):=by
 unfold Instr.index;refine J3.bind' (J3.asIntOf hi) λE1 s1 k k' hk=>?_;obtain rfl:k=k':=hk;obtain⟨k,n⟩:=k
 dsimp only
 refine J3.bind' (J3.underlying t) λE2 s2 u u' hu=>?_;obtain⟨rfl,hu⟩:=hu;have OW:=(hx.mono s1).mono s2;have Fv:=(hh.mono s1).mono s2;cases u with
 |array len elem=>
  cases OW with
  |agg ha Fz=>
   dsimp only
   split
   .refine J3.bind' (J3.sizeOf elem) λE3 s3 z z' hz=>?_;obtain rfl:z=z':=hz;exact J3.part elem (AR.mono s3 ⟨ha,Fz⟩) _
   grind[J3.boundsPanic]
  |_=>exact .Jg λw=>⟨_,w,rfl,by simp⟩
 |string=>
  cases OW with
  |string s=>
   dsimp only
   split
   .exact .pure (.int _ _)
   grind[J3.boundsPanic]
  |_=>exact .Jg λw=>⟨_,w,rfl,by simp⟩
 |_=>exact .Jg λw=>⟨_,w,rfl,by simp⟩
def J3.extract{x x':JJ}(hx:VR C E x x')(n:Nat):J3 C ok E (Instr.extract x n) (Instr.extract x' n) (VR C):=by
 unfold Instr.extract;cases hx with
 |tuple ha Fz=>
  grind[stuck,pure]
 |_=>exact .stuck _
def J3.makeInterface(t:JH)(ht:C.Ed t=true){x x':JJ}(hx:VR C E x x'):J3 C ok E (Instr.makeInterface t x) (Instr.makeInterface t x') (VR C):=by
 unfold Instr.makeInterface;refine J3.bind' (J3.underlying t) λE1 s1 u u' hu=>?_;obtain⟨rfl,hu⟩:=hu;cases u<;>first|exact .stuck _|exact .pure (.iface t ht (hx.mono s1))
def J3.makeFunc{fn:Fn}(hf:FnR C E fn fn){a a' c c':JC}(ha:AR C E a a')(hc:AR C E c c')(hz:a.size+c.size<=3):J3 C ok E (Instr.makeFunc fn a c) (Instr.makeFunc fn a' c') (VR C):=
 .pure (.func hf ha.size ha.at_ ⟨hc.size,hz⟩ hc.at_)
def J3.typeAssert(K:Ov C)(hh:Hnd C E){x x':JJ}(hx:VR C E x x')(xt t:JH)(Gp:Bool):J3 C ok E (Instr.typeAssert x xt t Gp) (Instr.typeAssert x' xt t Gp) (VR C):=by
 have holds:∀(E:J5){v v':JJ},VR C E v v'->J3 C ok E (Pure.pure (if Gp then Value.tuple #[v,.bool true]else v)) (Pure.pure (if Gp then Value.tuple #[v',.bool true]else v')) (VR C):=λE v v' h=>by
  refine .pure ?_;cases Gp with
  |true=>exact .U5 (LR.toArray (l:=[_,_]) (l':=[_,_]) (.cons h (.cons (.bool true) .nil)))
  |false=>exact h
 have NY:∀(E:J5),Hnd C E->∀(st dy:Option JH)(m:String),J3 C ok E (if Gp then(do Pure.pure (Value.tuple #[<- Go.zeroValue t,.bool false]))else Go.runtimePanic (.typeAssertion st dy t m)) (if Gp then(do Pure.pure (Value.tuple #[<- Go.zeroValue t,.bool false]))else Go.runtimePanic (.typeAssertion st dy t m)) (VR C):=λE hh st dy m=>by
  cases Gp with
  |true=>exact J3.bind' (J3.zeroValue K t) λE1 s1 v v' hv=>.pure (.U5 (LR.toArray (l:=[_,_]) (l':=[_,_]) (.cons hv (.cons (.bool false) .nil))))
  |false=>simp_all[DY,if_false,J3.runtimePanic]
 unfold Instr.typeAssert;refine J3.bind' (J3.underlying t) λE1 s1 u u' hu=>?_;obtain⟨rfl,hu⟩:=hu;have EX:=hx.mono s1;have Dn:=hh.mono s1;cases u with
 |interface want=>
  cases EX with
  |nilIface=>simp_all
  |iface ty ht h=>
   refine J3.bind' (J3.typeInfo _) λE2 s2 i i' hi=>?_;obtain⟨rfl,_⟩:=hi
   dsimp only
   split
   .exact holds _ (.iface ty ht (h.mono s2))
   .exact NY _ (Dn.mono s2) _ _ _
  |_=>exact .stuck _
 |_=>
  cases EX<;>first
   |exact .stuck _
   |exact NY E1 Dn _ _ _
   |(dsimp only;split;all_goals simp_all)
def J3.makeSlice(K:Ov C)(hh:Hnd C E)(t:JH){x x' y y':JJ}(hx:VR C E x x')(hy:VR C E y y'):J3 C ok E (Instr.makeSlice t x y) (Instr.makeSlice t x' y') (VR C):=by
 unfold Instr.makeSlice;refine J3.bind' (J3.underlying t) λE1 s1 u u' hu=>?_;obtain⟨rfl,hu⟩:=hu;cases u with
 |slice e=>
  dsimp only
  refine J3.bind' (J3.asInt (hx.mono s1)) λE2 s2 n n' hn=>?_;obtain rfl:n=n':=hn;refine J3.bind' (J3.asInt ((hy.mono s1).mono s2)) λE3 s3 c c' hc=>?_;obtain rfl:c=c':=hc;refine J3.bind' (J3.typeInfo e) λE4 s4 i i' hi=>?_;obtain⟨rfl,_⟩:=hi;have QK:=(((hh.mono s1).mono s2).mono s3).mono s4;have rest:∀E5,Sub E4 E5->J3 C ok E5
    (do
     Go.askRoom ((IntKind.i64.wrap c).toNat*i.bytes)
     let __do_lift <- Go.sizeOf e
     if(IntKind.i64.wrap c).toNat*__do_lift=0 then do
      let zero <- Pure.pure #[]
      let a <- Go.newRow e ((Array.range ((IntKind.i64.wrap c).toNat*__do_lift)).map (zero[· % zero.size]!))
      Pure.pure (Value.slice (some a) (IntKind.i64.wrap n).toNat (IntKind.i64.wrap c).toNat)
     else do
      let z <- Go.zeroValue e
      let zero <- Pure.pure z.cells
      let a <- Go.newRow e ((Array.range ((IntKind.i64.wrap c).toNat*__do_lift)).map (zero[· % zero.size]!))
      Pure.pure (Value.slice (some a) (IntKind.i64.wrap n).toNat (IntKind.i64.wrap c).toNat))
    (do
     Go.askRoom ((IntKind.i64.wrap c).toNat*i.bytes)
     let __do_lift <- Go.sizeOf e
     if(IntKind.i64.wrap c).toNat*__do_lift=0 then do
      let zero <- Pure.pure #[]
      let a <- Go.newRow e ((Array.range ((IntKind.i64.wrap c).toNat*__do_lift)).map (zero[· % zero.size]!))
      Pure.pure (Value.slice (some a) (IntKind.i64.wrap n).toNat (IntKind.i64.wrap c).toNat)
     else do
      let z <- Go.zeroValue e
      let zero <- Pure.pure z.cells
      let a <- Go.newRow e ((Array.range ((IntKind.i64.wrap c).toNat*__do_lift)).map (zero[· % zero.size]!))
      Pure.pure (Value.slice (some a) (IntKind.i64.wrap n).toNat (IntKind.i64.wrap c).toNat)) (VR C):=by
   intro E5 s5;refine J3.bind' (R:=λ_ _ _=>True) ?_ λE6 s6 _ _ _=>?_
   .unfold Go.askRoom;split
    .exact J3.mark trivial trivial
    .exact .pure trivial
   refine J3.bind' (J3.sizeOf e) λE7 s7 z z' hz=>?_;obtain rfl:z=z':=hz;have hh7:=((QK.mono s5).mono s6).mono s7;split
   .refine J3.bind' (R:=AR C) (.pure .nil) λE8 s8 z z' hz=>?_;exact J3.bind' (J3.newRow (hh7.mono s8) e (rangeMap hz _)) λE9 s9 a a' ha=>.pure (.of_slice ha.1 _ _)
   .refine J3.bind' (J3.zeroValue K e) λE8 s8 z z' hz=>?_;refine J3.bind' (R:=AR C) (.pure (AR.cells hz)) λE9 s9 z z' hz=>?_;exact J3.bind' (J3.newRow ((hh7.mono s8).mono s9) e (rangeMap hz _)) λE9 s9 a a' ha=>.pure (.of_slice ha.1 _ _)
  split
  .split
   .exact J3.bind' (R:=λ_ _ _=>True) (J3.runtimePanic QK _) λE5 s5 _ _ _=>rest E5 s5
   .split
    .exact J3.bind' (R:=λ_ _ _=>True) (J3.runtimePanic QK _) λE5 s5 _ _ _=>rest E5 s5
    .refine J3.bind' (J3.choose _) λE5 s5 z z' hz=>?_;obtain rfl:z=z':=hz;exact J3.bind' (R:=λ_ _ _=>True) (J3.runtimePanic (QK.mono s5) _) λE6 s6 _ _ _=>rest E6 (s5.trans s6)
  .exact rest E4 (.refl _)
 |_=>exact .stuck _
theorem J3.intArith(op:BinOp)(k:IntKind)(x y:Int):J3 C ok E (Op.intArith op k x y) (Op.intArith op k x y) (VR C):=by
 unfold Op.intArith;split<;>first|exact .pure (.int _ _)|exact .stuck _
theorem J3.intDiv(hh:Hnd C E)(op:BinOp)(k:IntKind)(x y:Int):J3 C ok E (Op.intDiv op k x y) (Op.intDiv op k x y) (VR C):=by
 unfold Op.intDiv;split
 .exact J3.runtimePanic hh _
 .split<;>first|exact .pure (.int _ _)|exact .stuck _
theorem J3.intBits(op:BinOp)(k:IntKind)(x y:Int):J3 C ok E (Op.intBits op k x y) (Op.intBits op k x y) (VR C):=by
 unfold Op.intBits
 dsimp only
 split<;>first|exact .pure (.int _ _)|exact .stuck _
theorem J3.intCmp(op:BinOp)(x y:Int):J3 C ok E (Op.intCmp op x y) (Op.intCmp op x y) (VR C):=by
 unfold Op.intCmp;split<;>first|exact .pure (.bool _)|exact .stuck _
def J3.shift(hh:Hnd C E)(op:BinOp)(k:IntKind)(x:Int)(k':IntKind)(y:Int):J3 C ok E (Op.shift op k x k' y) (Op.shift op k x k' y) (VR C):=by
 unfold Op.shift;split
 .exact J3.runtimePanic hh _
 .dsimp only
  split<;>first|exact .pure (.int _ _)|exact .stuck _
theorem J3.stringOp(op:BinOp)(x y:ByteArray):J3 C ok E (Op.stringOp op x y) (Op.stringOp op x y) (VR C):=by
 unfold Op.stringOp
 dsimp only
 split<;>first|exact .pure (.bool _)|exact .stuck _|skip
 split<;>first|exact .unsupported _|exact .pure (.string _)
def J3.unary(op:UnOp){x x':JJ}(hx:VR C E x x'):J3 C ok E (Op.unary op x) (Op.unary op x') (VR C):=by
 unfold Op.unary;cases op<;>cases hx<;>first
  |exact .stuck _
  |exact .unsupported _
  |exact .pure (.bool _)
  |exact J3.intArith _ _ _ _
  |exact J3.intBits _ _ _ _
end
section
variable{C:Cx}{ok:JG->Code->Prop}{E:J5}
def J3.eqGuardIn:∀(d:Nat)(t:JH)(E:J5){x x' y y':JJ},VR C E x x'->VR C E y y' ->
  J3 C ok E (Op.eqGuardIn d t x y) (Op.eqGuardIn d t x' y') (λ_ r r'=>r=r')
 |0,_,_,_,_,_,_,_,_=>.unsupported _
 |d+1,t,E,x,x',y,y',hx,hy=>by
  unfold Op.eqGuardIn;refine J3.bind' (J3.underlying t) λE1 s1 u u' hu=>?_;obtain⟨rfl,hu⟩:=hu;have hx:=hx.mono s1;have hy:=hy.mono s1;cases u with
  |interface ms=>cases hx<;>first|exact .pure rfl|(cases hy<;>exact .pure rfl)
  |struct fs=>
   cases hx with
   |agg ha Fz=>
    cases hy with
    |agg hb Ri=>
     rename_i a a' b b';have ra:AR C E1 a a':=⟨ha,Fz⟩;have rb:AR C E1 b b':=⟨hb,Ri⟩
     dsimp only
     refine J3.bind' (R:=λ_ z z'=>z=z') ?_ λE3 s3 z z' hz=>?_
     .rw[<- Array.forIn_toList,<- Array.forIn_toList];refine J3.VT (λ_ _ _ _ _ h=>h) _ _ _ _ (λf _ E3 s3 q q' hq=>?_) rfl;obtain rfl:q=q':=hq;split
      .refine J3.bind' (J3.part f.type (ra.mono s3) _) λE4 s4 v v' hv=>?_;refine J3.bind' (J3.part f.type ((rb.mono s3).mono s4) _) λE5 s5 u u' hu=>?_;refine J3.bind' (J3.eqGuardIn d _ _ (hv.mono s5) hu) λE6 s6 z z' hz=>?_;obtain rfl:z=z':=hz;split
       .exact .pure (.done rfl)
       .exact .pure (.yield rfl)
      .exact .pure (.yield rfl)
     .obtain rfl:z=z':=hz;split<;>exact .pure rfl
    |_=>exact .pure rfl
   |_=>exact .pure rfl
  |array len e=>
   cases hx with
   |agg ha Fz=>
    cases hy with
    |agg hb Ri=>
     rename_i a a' b b';have ra:AR C E1 a a':=⟨ha,Fz⟩;have rb:AR C E1 b b':=⟨hb,Ri⟩
     dsimp only
     refine J3.bind' (J3.sizeOf e) λE2 s2 z z' hz=>?_;obtain rfl:z=z':=hz;refine J3.bind' (R:=λ_ z z'=>z=z') ?_ λE3 s3 z z' hz=>?_
     .simp only[Std.Legacy.Range.forIn_eq_forIn_range'];refine J3.VT (λ_ _ _ _ _ h=>h) _ _ _ _ (λi _ E3 s3 q q' hq=>?_) rfl;obtain rfl:q=q':=hq;refine J3.bind' (J3.part e ((ra.mono s2).mono s3) _) λE4 s4 v v' hv=>?_;refine J3.bind' (J3.part e (((rb.mono s2).mono s3).mono s4) _) λE5 s5 u u' hu=>?_;refine J3.bind' (J3.eqGuardIn d _ _ (hv.mono s5) hu) λE6 s6 z z' hz=>?_;obtain rfl:z=z':=hz;split
      .exact .pure (.done rfl)
      .exact .pure (.yield rfl)
     .obtain rfl:z=z':=hz;split<;>exact .pure rfl
    |_=>exact .pure rfl
   |_=>exact .pure rfl
  |_=>cases hx<;>first|exact .pure rfl|(cases hy<;>exact .pure rfl)
def J3.eqGuard(op:BinOp)(t:JH)(x y:Operand){a a' b b':JJ}(ha:VR C E a a')(hb:VR C E b b') :
  J3 C ok E (Go.eqGuard op t x y a b) (Go.eqGuard op t x y a' b') (λ_ _ _=>True):=by
 unfold Go.eqGuard;have pt:∀(E:J5),J3 C ok E (Pure.pure ():Sem Unit) (Pure.pure ():Sem Unit) (λ_ _ _=>True):=λE=>.pure trivial;cases op<;>first|exact pt E|skip
 all_goals
  simp only[Bool.not_true,DY,if_false];cases ha with
  |nilIface=>
   cases hb with
   |nilIface=>
    have fin:∀E:J5,J3 C ok E (do if <- Op.eqGuardIn Op.maxDepth t .nilIface .nilIface then Go.unsupported (.noEntry "binop/eql: two nil values of an interface type with methods, neither of them the literal nil"):Sem Unit) (do if <- Op.eqGuardIn Op.maxDepth t .nilIface .nilIface then Go.unsupported (.noEntry "binop/eql: two nil values of an interface type with methods, neither of them the literal nil"):Sem Unit) (λ_ _ _=>True):=λE=>by
     refine J3.bind' (J3.eqGuardIn _ t _ .nilIface .nilIface) λE1 s1 z z' hz=>?_;obtain rfl:z=z':=hz
     grind[unsupported]
    grind
   |_=>exact pt _
  |agg h1 h2=>
   cases hb with
   |agg h3 h4=>
    refine J3.bind' (R:=λ_ p p'=>p=C.P/\p'=C.P) (.program ⟨rfl,rfl⟩) λE1 s1 p p' hp=>?_;obtain⟨rfl,rfl⟩:=hp;refine J3.bind' (R:=λ_ p p'=>p=C.P/\p'=C.P) (.program ⟨rfl,rfl⟩) λE2 s2 p p' hp=>?_;obtain⟨rfl,rfl⟩:=hp;split
    .exact pt _
    .refine J3.bind' (J3.eqGuardIn _ t _ ((VR.agg h1 h2).mono (s1.trans s2)) ((VR.agg h3 h4).mono (s1.trans s2))) λE1 s1 z z' hz=>?_;obtain rfl:z=z':=hz
     grind[unsupported]
   |_=>exact pt _
  |_=>grind
def Jiz(C:Cx)(t:JH)(b:JJ):Prop:=
 C.st=false\/(∃n,Kt C.P n t=true)\/(b=.pointer none/\∃e,C.P.underlying t=some (.pointer e))\/(b=.slice none 0 0/\∃e,C.P.underlying t=some (.slice e))
def J3.equal(hh:Hnd C E)(t:JH){a a' b b':JJ}(ha:VR C E a a')(hb:VR C E b b')(hs:Jiz C t b):J3 C ok E (Op.equal t a b) (Op.equal t a' b') (λ_ r r'=>r=r'):=by
 unfold Op.equal;rcases hs with hs|⟨n,hs⟩|⟨rfl,e,he⟩|⟨rfl,e,he⟩
 .exact J3.equalIn _ t 0 _ hh (.inl hs) ha hb
 .grind[J3.equalIn]
 .show J3 C ok E (Op.equalIn (9999+1) t a (.pointer none)) (Op.equalIn (9999+1) t a' b') _;unfold Op.equalIn;refine J3.bind' (J3.underlying t) λE1 s1 u u' hu=>?_;obtain⟨rfl,hu⟩:=hu;rw[he]at hu;cases hu;cases hb;cases ha<;>first|exact .stuck _|exact .pure rfl
 .show J3 C ok E (Op.equalIn (9999+1) t a (.slice none 0 0)) (Op.equalIn (9999+1) t a' b') _;unfold Op.equalIn;refine J3.bind' (J3.underlying t) λE1 s1 u u' hu=>?_;obtain⟨rfl,hu⟩:=hu;rw[he]at hu;cases hu;cases hb;cases ha<;>first|exact .stuck _|exact .pure rfl
end
section
variable{C:Cx}{ok:JG->Code->Prop}{E:J5}
def J3.asNumber(hh:Hnd C E){a a':Addr}(h:Jc E a a')(l:Bool):J3 C ok E (Go.asNumber a l) (Go.asNumber a' l) (VR C):=
 J3.bind' (J3.newObj hh λb hs=>⟨hs,a',rfl,h⟩) λE1 s r r' hr=>.pure (.ptr 0 none hr.1)
def J3.unsafeAdd(t:JH){a a':Addr}(h:Jc E a a'){y y':JJ}(hy:VR C E y y') :
  J3 C ok E (Builtin.unsafeAdd_ #[] t #[.pointer (some a),y]) (Builtin.unsafeAdd_ #[] t #[.pointer (some a'),y']) (VR C):=by
 unfold Builtin.unsafeAdd_;refine J3.bind' (J3.asInt hy) λE1 s1 n n' hn=>?_;obtain rfl:n=n':=hn
 dsimp only
 split
 .refine J3.bind' (J3.viewAt (s1 _ _ h.block)) λE2 s2 x x' hx=>?_;obtain⟨rfl,rfl⟩:=hx;exact .pure (.Qm ((h.mono s1).mono s2))
 .split
  .exact .Jg λw=>⟨_,w,rfl,by simp⟩
  .refine J3.bind' (J3.shape (s1 _ _ h.block)) λE2 s2 x x' hx=>?_;obtain rfl:x=x':=hx;split
   .refine J3.bind' (R:=λ_ p p'=>p=C.P/\p'=C.P) (.program ⟨rfl,rfl⟩) λE3 s3 p p' Gu=>?_;obtain⟨rfl,rfl⟩:=Gu;rw[<- h.off];split
    .exact .pure (.Qm ⟨s3 _ _ (s2 _ _ (s1 _ _ h.block)),rfl,h.spot⟩)
    .exact .unsupported _
   .exact .unsupported _
def J3.movedNumber(hh:Hnd C E)(t:JH){a a':Addr}(h:Jc E a a'){y y':JJ}(hy:VR C E y y') :
  J3 C ok E (Go.movedNumber t (.pointer (some a)) y) (Go.movedNumber t (.pointer (some a')) y') (VR C):=by
 unfold Go.movedNumber;refine J3.bind' (J3.underlying t) λE1 s1 u u' hu=>?_;obtain⟨rfl,hu⟩:=hu;have fin:∀E2,Sub E1 E2->J3 C ok E2 (do
   let x <- Go.behindNumber a
   match x with
   |(a,lost)=>do
    match <- Builtin.unsafeAdd_ #[] t #[.pointer (some a),y]with
    |.pointer (some b)=>Go.asNumber b lost
    |v=>Pure.pure v:Sem JJ) (do
   let x <- Go.behindNumber a'
   match x with
   |(a,lost)=>do
    match <- Builtin.unsafeAdd_ #[] t #[.pointer (some a),y']with
    |.pointer (some b)=>Go.asNumber b lost
    |v=>Pure.pure v:Sem JJ) (VR C):=by
  intro E2 s2;refine J3.bind' (J3.behindNumber ((h.mono s1).mono s2)) λE3 s3 p p' hp=>?_;obtain⟨p,l⟩:=p;obtain⟨p',l'⟩:=p';obtain⟨h1,h2⟩:=hp;obtain rfl:l=l':=h2;refine J3.bind' (J3.unsafeAdd t h1 (((hy.mono s1).mono s2).mono s3)) λE4 s4 v v' hv=>?_;cases hv with
  |ptr o s k=>exact J3.asNumber ((((hh.mono s1).mono s2).mono s3).mono s4) (a:=⟨_,o,s⟩) (a':=⟨_,o,s⟩) ⟨k,rfl,rfl⟩ _
  |bool b=>exact .pure (.bool b)
  |int k n=>exact .pure (.int k n)
  |string x=>exact .pure (.string x)
  |nilPtr=>exact .pure .nilPtr
  |Jk l c=>exact .pure (.Jk l c)
  |slice o p l c h=>exact .pure (.slice o p l c h)
  |I5=>exact .pure .I5
  |map h=>exact .pure (.map h)
  |nilFunc=>exact .pure .nilFunc
  |MP=>exact .pure .MP
  |func h ha hx hc hy=>exact .pure (.func h ha hx hc hy)
  |iface t ht h=>exact .pure (.iface t ht h)
  |nilIface=>exact .pure .nilIface
  |agg ha hx=>exact .pure (.agg ha hx)
  |tuple ha hx=>exact .pure (.tuple ha hx)
 dsimp only
 split
 .exact .Jg λw=>⟨_,w,rfl,by simp⟩
 .exact fin _ (.refl _)
def J3.movedPointer(t:JH){a a':Addr}(h:Jc E a a'){y y':JJ}(hy:VR C E y y') :
  J3 C ok E (Go.movedPointer t (.pointer (some a)) y) (Go.movedPointer t (.pointer (some a')) y') (VR C):=by
 unfold Go.movedPointer;refine J3.bind' (J3.numberAt h.block) λE1 s1 x x' hx=>?_;cases x with
 |none=>cases x' with
  |none=>exact J3.unsafeAdd t (h.mono s1) (hy.mono s1)
  |some _=>exact hx.elim
 |some p=>cases x' with
  |none=>exact hx.elim
  |some p'=>exact .Jg λw=>⟨_,w,rfl,by simp⟩
def J3.J9k(t:JH){y y':JJ}(hy:VR C E y y') :
  J3 C ok E (Builtin.unsafeAdd_ #[] t #[.pointer none,y]) (Builtin.unsafeAdd_ #[] t #[.pointer none,y']) (VR C):=by
 unfold Builtin.unsafeAdd_;refine J3.bind' (J3.asInt hy) λE1 s1 n n' hn=>?_;obtain rfl:n=n':=hn
 dsimp only
 split
 .exact .Jg λw=>⟨_,w,rfl,by simp⟩
 .split
  .exact .Jg λw=>⟨_,w,rfl,by simp⟩
  .exact .Jg λw=>⟨_,w,rfl,by simp⟩
def J3.J5e(t:JH){y y':JJ}(hy:VR C E y y'):J3 C ok E (Go.movedNumber t (.pointer none) y) (Go.movedNumber t (.pointer none) y') (VR C):=by
 unfold Go.movedNumber;refine J3.bind' (J3.underlying t) λE1 s1 u u' hu=>?_;obtain⟨rfl,hu⟩:=hu
 dsimp only
 split
 .exact .Jg λw=>⟨_,w,rfl,by simp⟩
 .exact J3.J9k t (hy.mono s1)
def J3.Jdk(t:JH){y y':JJ}(hy:VR C E y y'):J3 C ok E (Go.movedPointer t (.pointer none) y) (Go.movedPointer t (.pointer none) y') (VR C):=by unfold Go.movedPointer;exact J3.J9k t hy
def J3.twoPlaces{a a' b b':Addr}(h:Jc E a a')(k:Jc E b b'):J3 C ok E (Op.twoPlaces a b) (Op.twoPlaces a' b') (λ_ x x'=>x=x'):=by
 refine .aI λw w' hw=>?_;unfold Op.twoPlaces;refine J3.bind' (R:=λ_ p p'=>p=C.P/\p'=C.P) (.program ⟨rfl,rfl⟩) λE3 s3 p p' Gu=>?_;obtain⟨rfl,rfl⟩:=Gu;have hb:(a'.block != b'.block)=(a.block != b.block):=by
  by_cases e:a.block=b.block
  .have:a'.block=b'.block:=hw.fn _ _ _ h.block (e▸k.block)
   grind
  .have:a'.block≠b'.block:=λe'=>e (hw.inj _ _ _ h.block (e'▸k.block))
   grind
 by_cases Ae:C.st=false
 .rw[h.Tq hw Ae,k.Tq hw Ae];have ha4:Jc E a a:=by have:=h;rwa [h.Tq hw Ae]at this
  have SK:Jc E b b:=by have:=k;rwa [k.Tq hw Ae]at this
  split
  .exact .Jg λw=>⟨_,w,rfl,by simp⟩
  .refine J3.bind' (J3.byteOf (ha4.mono s3)) λE4 s4 x x' hx=>?_;obtain rfl:x=x':=hx;refine J3.bind' (J3.byteOf ((SK.mono s3).mono s4)) λE5 s5 x x' hx=>?_;obtain rfl:x=x':=hx;exact .pure rfl
 .have g:=hw.glob (by grind) _ _ h.block;rw[if_pos (by grind)];exact .Jg λw=>⟨_,w,rfl,by simp⟩
def J3.addrSub(k:IntKind){a a' b b':Addr}(h:Jc E a a')(g:Jc E b b'):J3 C ok E (Op.addrSub k a b) (Op.addrSub k a' b') (VR C):=by unfold Op.addrSub;refine J3.bind' (J3.twoPlaces h g) λE1 s1 x x' hx=>?_;obtain rfl:x=x':=hx;exact .pure (.int _ _)
def J3.addrCmp(op:BinOp){a a' b b':Addr}(h:Jc E a a')(g:Jc E b b'):J3 C ok E (Op.addrCmp op a b) (Op.addrCmp op a' b') (VR C):=by
 unfold Op.addrCmp;refine J3.bind' (J3.twoPlaces h g) λE1 s1 x x' hx=>?_;obtain rfl:x=x':=hx
 dsimp only
 split<;>first|exact .pure (.bool _)|exact .unsupported _
theorem J3.addrMod(k:IntKind){a a':Addr}(h:Jc E a a')(n:Int):J3 C ok E (Op.addrMod k a n) (Op.addrMod k a' n) (VR C):=by
 unfold Op.addrMod;refine J3.bind' (J3.shape h.block) λE1 s1 x x' hx=>?_;obtain rfl:x=x':=hx;split
 .refine J3.bind' (J3.typeInfo _) λE2 s2 i i' hi=>?_;obtain⟨rfl,_⟩:=hi
  dsimp only
  split
  .exact .Jg λw=>⟨_,w,rfl,by simp⟩
  .refine J3.bind' (J3.byteOf ((h.mono s1).mono s2)) λE3 s3 x x' hx=>?_;obtain rfl:x=x':=hx;exact .pure (.int _ _)
 .exact .unsupported _
set_option maxHeartbeats 2000000 in
def J3.binOp(hh:Hnd C E)(op:BinOp)(t:JH){x x' y y':JJ}(hx:VR C E x x')(hy:VR C E y y')(hs:(op=.eql\/op=.neq)->Jiz C t y) :
  J3 C ok E (Go.binOp op t x y) (Go.binOp op t x' y') (VR C):=by
 by_cases he:op=.eql
 .subst he;have e:J3 C ok E (do Pure.pure (Value.bool (<- Op.equal t x y))) (do Pure.pure (Value.bool (<- Op.equal t x' y'))) (VR C):=
   J3.bind' (J3.equal hh t hx hy (hs (.inl rfl))) λ_ _ b b' hb=>by subst hb;exact .pure (.bool _)
  unfold Go.binOp;cases hx with
  |int k n=>
   cases hy with
   |int k' n'=>
    grind[stuck,J3.intCmp]
   |_=>exact e
  |string a=>
   cases hy with
   |string b=>exact J3.stringOp _ _ _
   |_=>exact e
  |_=>grind
 by_cases hn:op=.neq
 .subst hn;have e:J3 C ok E (do Pure.pure (Value.bool (!(<- Op.equal t x y)))) (do Pure.pure (Value.bool (!(<- Op.equal t x' y')))) (VR C):=
   J3.bind' (J3.equal hh t hx hy (hs (.inr rfl))) λ_ _ b b' hb=>by subst hb;exact .pure (.bool _)
  unfold Go.binOp;cases hx with
  |int k n=>
   cases hy with
   |int k' n'=>
    grind[stuck,J3.intCmp]
   |_=>exact e
  |string a=>
   cases hy with
   |string b=>exact J3.stringOp _ _ _
   |_=>exact e
  |_=>grind
 unfold Go.binOp;cases hx with
 |int k n=>
  cases hy with
  |int k' n'=>
   cases op<;>first
    |exact J3.shift hh _ _ _ _ _
    |grind[stuck,J3.intArith,J3.intDiv,J3.intBits,J3.intCmp]
  |ptr o s h=>
   have ha:Jc E ⟨_,o,s⟩ ⟨_,o,s⟩:=⟨h,rfl,rfl⟩;cases op<;>first
    |exact .unsupported _
    |exact J3.movedNumber hh t ha (.int k n)
    |(refine J3.bind' (J3.behindNumber ha) λE1 s1 p p' hp=>?_;grind[J3.addrMod])
    |exact absurd rfl he
    |grind
  |nilPtr=>
   have add:=J3.J5e (C:=C) (ok:=ok) (E:=E) t (.int k n);cases op<;>first
    |exact .unsupported _
    |exact add
    |exact .stuck _
    |exact absurd rfl he
    |grind
  |_=>cases op<;>first|exact .stuck _|exact absurd rfl he|grind
 |string a=>
  cases hy with
  |string b=>grind[J3.stringOp]
  |nilPtr=>cases op<;>first|exact .unsupported _|exact absurd rfl he|grind
  |ptr o s h=>cases op<;>first|exact .unsupported _|exact absurd rfl he|grind
  |_=>cases op<;>first|exact .stuck _|exact absurd rfl he|grind
 |ptr o s h=>
  rename_i c0 c0';have ha:Jc E ⟨c0,o,s⟩ ⟨c0',o,s⟩:=⟨h,rfl,rfl⟩;cases hy with
  |int k n=>
   have add:J3 C ok E (do if(<- Go.underlying t) matches .unsafePointer then Go.movedPointer t (.pointer (some ⟨c0,o,s⟩)) (.int k n)else Go.movedNumber t (.pointer (some ⟨c0,o,s⟩)) (.int k n)) (do if(<- Go.underlying t) matches .unsafePointer then Go.movedPointer t (.pointer (some ⟨c0',o,s⟩)) (.int k n)else Go.movedNumber t (.pointer (some ⟨c0',o,s⟩)) (.int k n)) (VR C):=by
    refine J3.bind' (J3.underlying t) λE1 s1 u u' hu=>?_;obtain⟨rfl,hu⟩:=hu;split
    .exact J3.movedPointer t (ha.mono s1) (.int k n)
    .exact J3.movedNumber (hh.mono s1) t (ha.mono s1) (.int k n)
   cases op<;>first
    |exact .unsupported _
    |exact add
    |exact J3.movedNumber hh t ha (.int k (-n))
    |(refine J3.bind' (J3.behindNumber ha) λE1 s1 p p' hp=>?_;grind[J3.addrMod])
    |exact absurd rfl he
    |grind
  |ptr o2 s2 h2=>
   have hb:Jc E ⟨_,o2,s2⟩ ⟨_,o2,s2⟩:=⟨h2,rfl,rfl⟩;cases op<;>first
    |exact .unsupported _
    |(refine J3.bind' (J3.behindNumber ha) λE1 s1 p p' hp=>?_;refine J3.bind' (J3.behindNumber (hb.mono s1)) λE2 s2 q q' hq=>?_;exact J3.addrSub _ (hp.1.mono s2) hq.1)
    |(refine J3.bind' (J3.behindNumber ha) λE1 s1 p p' hp=>?_;refine J3.bind' (J3.behindNumber (hb.mono s1)) λE2 s2 q q' hq=>?_;exact J3.addrCmp _ (hp.1.mono s2) hq.1)
    |exact absurd rfl he
    |grind
  |_=>cases op<;>first|exact .unsupported _|exact absurd rfl he|grind
 |nilPtr=>
  cases hy with
  |int k n=>
   have add:J3 C ok E (do if(<- Go.underlying t) matches .unsafePointer then Go.movedPointer t (.pointer none) (.int k n)else Go.movedNumber t (.pointer none) (.int k n)) (do if(<- Go.underlying t) matches .unsafePointer then Go.movedPointer t (.pointer none) (.int k n)else Go.movedNumber t (.pointer none) (.int k n)) (VR C):=by
    refine J3.bind' (J3.underlying t) λE1 s1 u u' hu=>?_;obtain⟨rfl,hu⟩:=hu;split
    .exact J3.Jdk t (.int k n)
    .exact J3.J5e t (.int k n)
   cases op<;>first
    |exact .unsupported _
    |exact add
    |exact J3.J5e t (.int k (-n))
    |exact absurd rfl he
    |grind
  |_=>cases op<;>first|exact .unsupported _|exact absurd rfl he|grind
 |_=>
  cases hy with
  |nilPtr=>cases op<;>first|exact .unsupported _|exact absurd rfl he|grind
  |ptr o s h=>cases op<;>first|exact .unsupported _|exact absurd rfl he|grind
  |_=>cases op<;>first|exact .stuck _|exact absurd rfl he|grind
def Jj0(P:Program)(src dst:JH):Bool:=
 match P.underlying src,P.underlying dst with
 |some (.int _),some (.int _)=>true
 |some .string,some .string=>true
 |some (.slice e),some .string=>(match P.underlying e with|some (.int .u8)=>true|_=>false)
 |some .string,some (.slice e)=>(match P.underlying e with|some (.int .u8)=>true|_=>false)
 |_,_=>false
def J3.bytesToString{x x':JJ}(hx:VR C E x x'):J3 C ok E (Conv.bytesToString x) (Conv.bytesToString x') (VR C):=by
 unfold Conv.bytesToString;cases hx with
 |Jk l c=>exact .pure (.string _)
 |slice o s l c h=>
  dsimp only
  refine J3.bind' (J3.loadCells l (a:=⟨_,o,s⟩) (a':=⟨_,o,s⟩) ⟨h,rfl,rfl⟩) λE1 s1 a a' ha=>?_;refine J3.bind' (R:=λ_ z z'=>z=z') ?_ λE2 s2 z z' hz=>?_
  .rw[<- Array.forIn_toList,<- Array.forIn_toList];refine J3.Jlp (λ_ _ _ _ _ h=>h) _ _ _ _ _ ha.toList (λv v' E3 s3 hv q q' hq=>?_) rfl;obtain rfl:q=q':=hq;cases hv with
   |int k n=>cases k<;>first|exact .Jg λw=>⟨_,w,rfl,by simp⟩|exact .pure (.yield rfl)
   |_=>exact .Jg λw=>⟨_,w,rfl,by simp⟩
  .obtain rfl:z=z':=hz;exact .pure (.string _)
 |_=>exact .stuck _
def WR.freeze{w w':JE}(hw:WR C ok E w w')(Ae:C.st=false){b b':Nat}(h:E b b')(hs:¬C.Sh b)(o n:Nat) :
  WR C ok E (w.freeze ⟨b,o,none⟩ n) (w'.freeze ⟨b',o,none⟩ n)/\Grow C E E w w' (w.freeze ⟨b,o,none⟩ n) (w'.freeze ⟨b',o,none⟩ n):=by
 unfold World.freeze;split
 .exact⟨hw,.refl ..⟩
 .refine⟨⟨hw.os,λc c' k=>?_,hw.fn,hw.inj,λc k=>?_,λc c' x x' k hx Af=>?_,hw.lid,λe=>by simpa using hw.lsz e,hw.glob⟩,⟨.refl _,λ_ _ k=>.inl k,by simp,by simp;omega,λc MG k=>?_,rfl,Nat.add_comm _ _,rfl,rfl,Ad _⟩⟩
  .simpa using hw.dom c c' k
  .simpa using hw.old c k
  .simp only[Array.getElem?_modify]at hx Af;by_cases e:b=c
   .subst e;have e':b'=c':=hw.fn b b' c' h k;subst e';simp only[if_true,Fh]at hx Af;obtain⟨y,hy,rfl⟩:=hx;obtain⟨y',DC,rfl⟩:=Af;have hr:=hw.obj b b' y y' h hy DC;cases y with
    |cells c el fz=>
     obtain⟨c',FU,rfl,h4,h5,h6⟩:=hr;obtain rfl:=(h6 hs).1;exact⟨c',_,rfl,h4,λx=>absurd x hs,λ_=>⟨rfl,λe=>by grind⟩⟩
    |map es ck=>obtain⟨AU,rfl,h⟩:=hr;exact⟨AU,rfl,h⟩
    |mapIter m a b c=>obtain⟨q,m',rfl,h⟩:=hr;exact⟨q,m',rfl,h⟩
    |stringIter a b=>obtain⟨q,rfl⟩:=hr;exact⟨q,rfl⟩
    |loop l=>obtain⟨q,m',rfl,h⟩:=hr;exact⟨q,m',rfl,h⟩
    |deferred l=>obtain⟨q,m',rfl,h⟩:=hr;exact⟨q,m',rfl,h⟩
    |number a l=>obtain⟨q,m',rfl,h⟩:=hr;exact⟨q,m',rfl,h⟩
    |_=>exact hr.elim
   .have e':b'≠c':=λe'=>e (hw.inj b b' c h (by grind));rw[if_neg e]at hx;rw[if_neg e']at Af;exact hw.obj c c' x x' k hx Af
  grind
def J3.freeze(Ae:C.st=false){b b':Nat}(h:E b b')(hs:¬C.Sh b)(o n:Nat):J3 C ok E (Go.freeze ⟨b,o,none⟩ n) (Go.freeze ⟨b',o,none⟩ n) (λ_ _ _=>True):=by
 intro L w w' hw;refine .inr ?_;rw[run_freeze];obtain⟨h1,h2⟩:=hw.toWR.freeze Ae h hs o n;have ht:∀(w:JE) b,(w.freeze ⟨b,o,none⟩ n).tape=w.tape/\(w.freeze ⟨b,o,none⟩ n).drawn=w.drawn:=λw b=>by unfold World.freeze;grind
 have Bc:Jms L (w.freeze ⟨b,o,none⟩ n) (w'.freeze ⟨b',o,none⟩ n):=by
  have:=hw.tape;unfold Jms at *
  simp_all
 exact⟨E,(),_,rfl,⟨h1,Bc⟩,h2,trivial,λe he=>by simp at he⟩
def J3.markStringish(Ae:C.st=false){a a':Addr}(h:Jc E a a')(hs:¬C.Sh a.block):J3 C ok E (Go.markStringish a) (Go.markStringish a') (λ_ _ _=>True):=by
 unfold Go.markStringish;refine J3.bind' (J3.shape h.block) λE1 s1 x x' hx=>?_;obtain rfl:x=x':=hx;split
 .exact J3.freeze Ae (s1 _ _ h.block) hs _ _
 .exact .pure trivial
def J3.stringToBytes(Ae:C.st=false)(hh:Hnd C E)(e:JH)(s:ByteArray):J3 C ok E (Conv.stringToBytes e s) (Conv.stringToBytes e s) (VR C):=by unfold Conv.stringToBytes;refine J3.bind' (J3.choose _) λE1 s1 n n' hn=>?_;obtain rfl:n=n':=hn;refine J3.bind' (J3.newRow (hh.mono s1) e (AR.append (AR.map _ λx _=>.int _ _) (AR.replicate (.int _ _)))) λE2 s2 a a' ha=>?_;refine J3.bind' (J3.markStringish Ae ha.1 ha.2) λE3 s3 _ _ _=>?_;exact .pure (.of_slice (ha.1.mono s3) _ _)
def J3.convert(hh:Hnd C E)(src dst:JH){x x':JJ}(hx:VR C E x x')(hc:Jj0 C.P src dst=true)(hz:C.st=false\/∀e,C.P.underlying dst≠some (.slice e)):J3 C ok E (Go.convert src dst x) (Go.convert src dst x') (VR C):=by
 unfold Go.convert;refine J3.bind' (J3.underlying src) λE1 s1 u u' hu=>?_;obtain⟨rfl,hu⟩:=hu;refine J3.bind' (J3.underlying dst) λE2 s2 v v' hv=>?_;obtain⟨rfl,hv⟩:=hv;have OW:=(hx.mono s1).mono s2;have Fv:=(hh.mono s1).mono s2;unfold Jj0 at hc;rw[hu,hv]at hc;cases u<;>cases v<;>first|cases hc|skip
 .cases OW<;>first|exact .stuck _|exact .unsupported _|exact .pure (.int _ _)
 .cases OW<;>first|exact .stuck _|exact .unsupported _|exact .pure (.string _)
 .rename_i e
  dsimp only at hc
  have fin:∀s:ByteArray,J3 C ok E2 (do match <- Go.underlying e with| .int .u8=>Conv.stringToBytes e s | .int .i32=>Conv.stringToRunes e s|_=>Go.stuck "Convert: string to a slice of what?") (do match <- Go.underlying e with| .int .u8=>Conv.stringToBytes e s | .int .i32=>Conv.stringToRunes e s|_=>Go.stuck "Convert: string to a slice of what?") (VR C):=λs=>by
   refine J3.bind' (J3.underlying e) λE3 s3 u u' hu=>?_;obtain⟨rfl,hu⟩:=hu;rw[hu]at hc;split at hc
   .rename_i h;cases h;exact J3.stringToBytes (hz.resolve_right λh=>h _ hv) (Fv.mono s3) e _
   .cases hc
  cases OW<;>first|exact .stuck _|exact .unsupported _|exact fin _
 .rename_i e
  dsimp only at hc
  have fin:∀{x x':JJ},VR C E2 x x'->J3 C ok E2 (do match <- Go.underlying e with| .int .u8=>Conv.bytesToString x | .int .i32=>Conv.runesToString x|_=>Go.stuck "Convert: a slice of what to string?") (do match <- Go.underlying e with| .int .u8=>Conv.bytesToString x' | .int .i32=>Conv.runesToString x'|_=>Go.stuck "Convert: a slice of what to string?") (VR C):=λ{x x'} hx=>by
   refine J3.bind' (J3.underlying e) λE3 s3 u u' hu=>?_;obtain⟨rfl,hu⟩:=hu;rw[hu]at hc;split at hc
   .rename_i h;cases h;exact J3.bytesToString (hx.mono s3)
   .cases hc
  have:=fin OW;cases OW<;>first|exact .stuck _|exact this|exact .pure (.string _)
end
section
variable{C:Cx}{ok:JG->Code->Prop}{E:J5}
def J3.lenOf{x x':JJ}(hx:VR C E x x'):J3 C ok E (Builtin.lenOf x) (Builtin.lenOf x') (λ_ n n'=>n=n'):=by
 unfold Builtin.lenOf;cases hx<;>first|exact .stuck _|exact .pure rfl
def J3.firstCells(size n:Nat){x x':JJ}(hx:VR C E x x'):J3 C ok E (Builtin.firstCells size n x) (Builtin.firstCells size n x') (AR C):=by
 unfold Builtin.firstCells;cases hx with
 |Jk l c=>exact .pure .nil
 |slice o s l c h=>exact J3.loadCells _ (a:=⟨_,o,s⟩) (a':=⟨_,o,s⟩) ⟨h,rfl,rfl⟩
 |string s=>exact .pure (AR.map _ λx _=>.int _ _)
 |_=>exact .stuck _
def J6d{z z':JC}(h:AR C E z z')(n:Nat):AR C E (Builtin.zeroCells z n) (Builtin.zeroCells z' n):=by unfold Builtin.zeroCells;rw[h.size];have:=rangeMap h (n*z'.size);simpa[h.size]using this
def J3.len(t:Array JH)(ty:JH){a a':JC}(ha:AR C E a a'):J3 C ok E (Builtin.len_ t ty a) (Builtin.len_ t ty a') (VR C):=by
 unfold Builtin.len_;cases ht:t[0]? with
 |none=>exact .stuck _
 |some tt=>
  cases hx:a[0]? with
  |none=>exact .stuck _
  |some x=>
   obtain⟨x',Af,hv⟩:=ha.Ec hx;rw[Af]
   dsimp only
   refine J3.bind' (J3.underlying tt) λE1 s1 u u' hu=>?_;obtain⟨rfl,_⟩:=hu;have hv:=hv.mono s1;cases u with
   |string=>cases hv<;>first|exact .stuck _|exact .pure (.int _ _)
   |array n e=>cases hv<;>exact .pure (.int _ _)
   |pointer e=>
    have fin:J3 C ok E1 (do
      match <- Go.underlying e with
      |.array n _=>Pure.pure (goInt n)
      |_=>Go.stuck "len: pointer to array expected":Sem JJ) (do
      match <- Go.underlying e with
      |.array n _=>Pure.pure (goInt n)
      |_=>Go.stuck "len: pointer to array expected":Sem JJ) (VR C):=by
     refine J3.bind' (J3.underlying e) λE2 s2 u u' hu=>?_;obtain⟨rfl,_⟩:=hu;cases u<;>first|exact .stuck _|exact .pure (.int _ _)
    grind
   |slice e=>cases hv<;>first|exact .stuck _|exact .pure (.int _ _)
   |map k e=>
    cases hv with
    |I5=>exact .pure (.int _ _)
    |map h=>exact J3.Wj h _ λE2 s2 es AU ck Eh=>by rw[<- Eh.size];exact .pure (.int _ _)
    |_=>exact .stuck _
   |chan d e=>cases hv<;>first|exact .stuck _|exact .pure (.int _ _)
   |_=>grind[stuck]
def J3.cap(t:Array JH)(ty:JH){a a':JC}(ha:AR C E a a'):J3 C ok E (Builtin.cap_ t ty a) (Builtin.cap_ t ty a') (VR C):=by
 unfold Builtin.cap_;cases ht:t[0]? with
 |none=>exact .stuck _
 |some tt=>
  cases hx:a[0]? with
  |none=>exact .stuck _
  |some x=>
   obtain⟨x',Af,hv⟩:=ha.Ec hx;rw[Af]
   dsimp only
   refine J3.bind' (J3.underlying tt) λE1 s1 u u' hu=>?_;obtain⟨rfl,_⟩:=hu;have hv:=hv.mono s1;cases u with
   |array n e=>cases hv<;>exact .pure (.int _ _)
   |pointer e=>
    have fin:J3 C ok E1 (do
      match <- Go.underlying e with
      |.array n _=>Pure.pure (goInt n)
      |_=>Go.stuck "cap: pointer to array expected":Sem JJ) (do
      match <- Go.underlying e with
      |.array n _=>Pure.pure (goInt n)
      |_=>Go.stuck "cap: pointer to array expected":Sem JJ) (VR C):=by
     refine J3.bind' (J3.underlying e) λE2 s2 u u' hu=>?_;obtain⟨rfl,_⟩:=hu;cases u<;>first|exact .stuck _|exact .pure (.int _ _)
    grind
   |slice e=>cases hv<;>first|exact .stuck _|exact .pure (.int _ _)
   |chan d e=>cases hv<;>first|exact .stuck _|exact .pure (.int _ _)
   |_=>grind[stuck]
def J3.copy(t:Array JH)(ty:JH){a a':JC}(ha:AR C E a a'):J3 C ok E (Builtin.copy_ t ty a) (Builtin.copy_ t ty a') (VR C):=by
 unfold Builtin.copy_;cases ht:t[0]? with
 |none=>exact .stuck _
 |some tt=>
  cases hx:a[0]? with
  |none=>exact .stuck _
  |some x=>
   obtain⟨x',Af,hv⟩:=ha.Ec hx;rw[Af];cases hy:a[1]? with
   |none=>exact .stuck _
   |some y=>
    obtain⟨y',DC,hw⟩:=ha.Ec hy;rw[DC]
    dsimp only
    refine J3.bind' (J3.underlying tt) λE1 s1 u u' hu=>?_;obtain⟨rfl,_⟩:=hu;have hv:=hv.mono s1;have hw:=hw.mono s1;cases u with
    |slice e=>
     dsimp only
     cases hv with
     |Jk l c=>
      refine J3.bind' (J3.lenOf hw) λE2 s2 n n' hn=>?_;obtain rfl:n=n':=hn;refine J3.bind' (J3.sizeOf e) λE3 s3 z z' hz=>?_;obtain rfl:z=z':=hz;exact J3.bind' (J3.firstCells _ _ ((hw.mono s2).mono s3)) λE4 s4 _ _ _=>.pure (.int _ _)
     |slice o s l c h=>
      refine J3.bind' (J3.lenOf hw) λE2 s2 n n' hn=>?_;obtain rfl:n=n':=hn;refine J3.bind' (J3.sizeOf e) λE3 s3 z z' hz=>?_;obtain rfl:z=z':=hz;refine J3.bind' (J3.firstCells _ _ ((hw.mono s2).mono s3)) λE4 s4 cs WJ FH=>?_;refine J3.bind' (J3.storeCells _ _ 0 _ (a:=⟨_,o,s⟩) (a':=⟨_,o,s⟩) ⟨s4 _ _ (s3 _ _ (s2 _ _ h)),rfl,rfl⟩ FH.toList) λE5 s5 _ _ _=>?_;exact .pure (.int _ _)
     |_=>exact .stuck _
    |_=>exact .stuck _
theorem J3.min2{x x' y y':JJ}(hx:VR C E x x')(hy:VR C E y y'):J3 C ok E (Builtin.min2 x y) (Builtin.min2 x' y') (VR C):=by
 unfold Builtin.min2;cases hx<;>cases hy<;>first
  |exact .stuck _
  |exact .unsupported _
  |exact .pure (.int _ _)
  |exact J3.bind' (J3.stringOp _ _ _) λE1 s1 v v' hv=>J3.bind' (J3.asBool hv) λE2 s2 b b' hb=>by subst hb;exact .pure (.string _)
theorem J3.max2{x x' y y':JJ}(hx:VR C E x x')(hy:VR C E y y'):J3 C ok E (Builtin.max2 x y) (Builtin.max2 x' y') (VR C):=by
 unfold Builtin.max2;cases hx<;>cases hy<;>first
  |exact .stuck _
  |exact .unsupported _
  |exact .pure (.int _ _)
  |exact J3.bind' (J3.stringOp _ _ _) λE1 s1 v v' hv=>J3.bind' (J3.asBool hv) λE2 s2 b b' hb=>by subst hb;exact .pure (.string _)
theorem J3.foldlM{f:JJ->JJ->Sem JJ}(hf:∀E x x' y y',VR C E x x'->VR C E y y'->J3 C ok E (f x y) (f x' y') (VR C)):∀(l l':List JJ)(E:J5)(x x':JJ),LR C E l l'->VR C E x x'->J3 C ok E (l.foldlM f x) (l'.foldlM f x') (VR C)
 |_,_,_,_,_,.nil,h=>.pure h
 |_,_,E,x,x',.cons hv hl,h=>by simp only[List.foldlM_cons];exact J3.bind' (hf _ _ _ _ _ h hv) λE1 s1 v v' hv=>J3.foldlM hf _ _ E1 _ _ (hl.mono s1) hv
def J3.min(t:Array JH)(ty:JH){a a':JC}(ha:AR C E a a'):J3 C ok E (Builtin.min_ t ty a) (Builtin.min_ t ty a') (VR C):=by
 unfold Builtin.min_;have h:=ha.toList;cases h1:a.toList with
 |nil=>exact .stuck _
 |cons x l=>
  rw[h1]at h;cases h2:a'.toList with
  |nil=>rw[h2]at h;cases h
  |cons x' l'=>
   rw[h2]at h;cases h with
   |cons h hl=>grind[J3.foldlM,J3.min2]
def J3.max(t:Array JH)(ty:JH){a a':JC}(ha:AR C E a a'):J3 C ok E (Builtin.max_ t ty a) (Builtin.max_ t ty a') (VR C):=by
 unfold Builtin.max_;have h:=ha.toList;cases h1:a.toList with
 |nil=>exact .stuck _
 |cons x l=>
  rw[h1]at h;cases h2:a'.toList with
  |nil=>rw[h2]at h;cases h
  |cons x' l'=>
   rw[h2]at h;cases h with
   |cons h hl=>grind[J3.foldlM,J3.max2]
end
end Go.Sim
