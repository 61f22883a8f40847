/- PROVED HERE: laws that the statement rests on (parts Ua, Ub, Uc, Va, Ta, Tb0, Tc). Conditions: none. -/
import Derived.Test.YtlcbehhbfglgaaaGreatChecked
import Derived.KernelRfl
import Derived.Conc.Beside
import Derived.Conc.CrowdTrace
import Derived.Conc.WgGenN3
import Derived.Test.YtlcbehhbfglgaaaGreatE19
set_option linter.all false
namespace Go.Sim
open Go.Conc
section
variable {C:Cx} {S:Kn} {cs:Bot}
def FinG (C:Cx) (S:Kn) (cs:Bot) (Post:Goroutine→World→Prop) (E0:BRel) (y:Sit):Prop:=
 ∃ E g w,Sub E0 E∧Link C S E y.own y.X w y.w∧(GR C S E cs g y.g∨EndR C S E cs g y.g)∧Post g w
theorem runs_to (A:AllOk C S) {main:Bool} {E0:BRel} {Post:Goroutine→World→Prop} (hP:∀ g w,Post g w→g.frame.todo≠[stopI]) (hB:∀ g w,Post g w→¬ BadG g) {g0:Goroutine} {w0:World} {y0:Sit}
  (hl:Link C S E0 y0.own y0.X w0 y0.w) (hg:GR C S E0 cs g0 y0.g)
  (K:∀ τ,∃ n g1 w1,runN C.P n (solo g0 (w0.tp τ 0))=.next (solo g1 w1)∧Post g1 w1) :
  Runs C.st C.P main (FinG C S cs Post E0) y0:=by
 refine Classical.byContradiction fun hn=>?_
 let yb:BadS C.st C.P main (FinG C S cs Post E0):=⟨y0,hn⟩
 obtain ⟨n,g1,w1,hrun,hfin⟩:=K (pieces yb)
 have inv:∀ i,i≤n→∃ E g w,runN C.P i (solo g0 (w0.tp (pieces yb) 0))=.next (solo g w)∧w.tape=pieces yb∧w.drawn=drew yb i∧Sub E0 E ∧
   Link C S E (path yb i).1.own (path yb i).1.X w (path yb i).1.w∧(GR C S E cs g (path yb i).1.g∨EndR C S E cs g (path yb i).1.g):=by
  intro i
  induction i with
  | zero=>exact fun _=>⟨E0,g0,_,rfl,rfl,rfl,.refl _,⟨hl.wr.tp _ _,hl.hnd,hl.gl,hl.rng⟩,.inl hg⟩
  | succ i ih=>
   intro hi
   obtain ⟨E,g,w,h1,h2,h3,h4,h5,h6⟩:=ih (by omega)
   have more:∀ _:Nat,runN C.P n (solo g0 (w0.tp (pieces yb) 0))=runN C.P (n-i) (solo g w):=fun _=>by
    have:=runN_add C.P i (n-i) (solo g0 (w0.tp (pieces yb) 0))
    rw [show i+(n-i)=n from by omega,h1] at this
    exact this
   have noend:∀ o w2,step C.P (solo g w)≠.ended o w2:=by
    intro o w2 he
    have:=more 0
    rw [hrun,show n-i=(n-i-1)+1 by omega] at this
    simp only [runN,he] at this
    cases this
   have after:∀ g2 w2,step C.P (solo g w)=.next (solo g2 w2)→runN C.P (i+1) (solo g0 (w0.tp (pieces yb) 0))=.next (solo g2 w2)∧runN C.P (n-(i+1)) (solo g2 w2)=.next (solo g1 w1):=by
    intro g2 w2 he
    have e1:runN C.P (i+1) (solo g0 (w0.tp (pieces yb) 0))=.next (solo g2 w2):=by rw [runN_add,h1];simp only [runN,he]
    refine ⟨e1,?_⟩
    have:=runN_add C.P (i+1) (n-(i+1)) (solo g0 (w0.tp (pieces yb) 0))
    rw [show i+1+(n-(i+1))=n by omega,e1,hrun] at this
    exact this.symm
   rcases h6 with h6|h6
   ·by_cases hd:DoneG g
    ·
     exfalso
     obtain ⟨d1,d2,d3⟩:=hd
     have hcode:g.frame.todo=[stopI]→False:=by
      intro e
      have:stepG C.P true g w=.ended (.unsupported (Unsupported.elab "") (g.frame.pos C.P)) w:=by
       have:=exec_refuse (P:=C.P) (main:=true) (fr:=g.frame) (callers:=g.callers) (dying:=none) (w:=w) (y:= "") (k:=[]) e
       unfold stepG;simp only [h6.dying,d2];exact this
      exact noend _ _ (step_solo_ended h6.run this)
     rcases d3 with d3|⟨ops,d3⟩
     ·exact hcode d3
     ·have hst:stepG C.P true g w=.go { frame:={ g.frame with todo:=[stopI] },callers:=g.callers,status:=.running,dying:=none } w:=by
       have:=exec_region_done (P:=C.P) (main:=true) (fr:=g.frame) (callers:=g.callers) (dying:=none) (w:=w) (ops:=ops) (k:=[stopI]) d3
       unfold stepG;simp only [h6.dying,d2];rw [this];unfold toG;rw [d2]
      obtain ⟨a1,a2⟩:=after _ _ (step_solo_go h6.run hst)
      cases hm:n-(i+1) with
      | zero=>
       rw [hm] at a2
       simp only [runN,Stepped.next.injEq] at a2
       have hgw:({ frame:={ g.frame with todo:=[stopI] },callers:=g.callers,status:=.running,dying:=none }:Goroutine)=g1∧w=w1:=by
        simp only [solo,Machine.mk.injEq] at a2
        exact ⟨by simpa using a2.2.1,a2.1⟩
       obtain ⟨rfl,rfl⟩:=hgw
       exact hP _ _ hfin rfl
      | succ m=>
       rw [hm] at a2
       have he:stepG C.P true { frame:={ g.frame with todo:=[stopI] },callers:=g.callers,status:=.running,dying:=none } w=.ended (.unsupported (Unsupported.elab "") (Frame.pos C.P { g.frame with todo:=[stopI] })) w:=by
        have:=exec_refuse (P:=C.P) (main:=true) (fr:={ g.frame with todo:=[stopI] }) (callers:=g.callers) (dying:=none) (w:=w) (y:= "") (k:=[]) rfl
        unfold stepG;simp only [d2];exact this
       simp only [runN,step_solo_ended rfl he] at a2
       cases a2
    ·have hrel:=h5.rely (pickW_rely (path yb i))
     have hw:WT C (okP C S) E (limS yb i) w (pickW (path yb i)):=⟨hrel.wr,fun k hk q=>by rw [h2,h3];exact pieces_at yb i k hk q⟩
     rcases step_rel A hrel.hnd hrel.gl hw h6 hd main with ⟨lim,hL,ho⟩|⟨o,w2,es,he⟩|⟨g2,w2,es,he,hr2,hd2,hx⟩
     ·exfalso
      unfold limS at hL
      split at hL
      ·rename_i ha
       obtain ⟨es,hst,_⟩:=(nextS_alive ha).step
       have:=ho _ _ _ hst (nextS_alive ha).dying
       cases hL
       exact Nat.lt_irrefl _ this
      ·cases hL
     ·exact absurd (step_solo_ended h6.run he) (noend _ _)
     ·obtain ⟨a1,a2⟩:=after _ _ (step_solo_go h6.run he)
      rcases hx with hb|⟨E1,g2',w2',es',k1,k2,k3,k4,k5⟩
      ·exfalso
       cases hm:n-(i+1) with
       | zero=>
        rw [hm] at a2
        simp only [runN,Stepped.next.injEq] at a2
        have hgw:g2=g1∧w2=w1:=by
         simp only [solo,Machine.mk.injEq] at a2
         exact ⟨by simpa using a2.2.1,a2.1⟩
        obtain ⟨rfl,rfl⟩:=hgw
        exact hB _ _ hfin hb
       | succ m=>
        rw [hm] at a2
        obtain ⟨o,w3,es3,he3⟩:=hb.ends (P:=C.P) (w:=w2)
        simp only [runN,step_solo_ended hr2 he3] at a2
        cases a2
      ·obtain ⟨l1,l2⟩:=hrel.step k2.toWR k3 k5
       have hk:g2'.status=.running∧g2'.dying=none∧g2'.offers=none:=by
        rcases k4 with k4|k4
        ·exact ⟨k4.run',k4.dying',k4.offers⟩
        ·exact ⟨k4.run',k4.dying',k4.offers⟩
       have hgood:Good1 C.P main (path yb i).1 (pickW (path yb i)) ⟨grown (path yb i).1.own (pickW (path yb i)) w2',grown (path yb i).1.X (pickW (path yb i)) w2',g2',w2'⟩:=
        ⟨⟨es',k1,l2⟩,hk.1,hk.2.1,hk.2.2,rfl,rfl⟩
       have ha:alive (path yb i):=⟨_,hgood⟩
       have hn2:=nextS_alive ha
       obtain ⟨es2,hst2,_⟩:=hn2.step
       rw [k1] at hst2
       have e1:(path yb (i+1)).1.g=g2'∧(path yb (i+1)).1.w=w2':=by
        show (nextS (path yb i)).1.g=g2'∧(nextS (path yb i)).1.w=w2'
        simp only [GStep.go.injEq] at hst2
        exact ⟨hst2.1.symm,hst2.2.1.symm⟩
       have e2:(path yb (i+1)).1.own=grown (path yb i).1.own (pickW (path yb i)) w2':=by
        have:=hn2.own
        rw [show (nextS (path yb i)).1.w=w2' from e1.2] at this
        exact this
       have e3:(path yb (i+1)).1.X=grown (path yb i).1.X (pickW (path yb i)) w2':=by
        have:=hn2.X
        rw [show (nextS (path yb i)).1.w=w2' from e1.2] at this
        exact this
       refine ⟨E1,g2,w2,a1,k3.tape.trans h2,?_,h4.trans k3.sub,?_,?_⟩
       ·have hd':drew yb (i+1)=drew yb i+((path yb (i+1)).1.w.drawn-(pickW (path yb i)).drawn):=by simp only [drew,if_pos ha]
        have q1:=k3.draw
        have q2:=k3.more
        rw [hd',e1.2,← h3]
        omega
       ·rw [e1.2,e2,e3];exact l1
       ·rw [e1.1];exact k4
   ·
    exfalso
    have he:∃ o w2 es,stepG C.P true g w=.ended o w2 es:=by
     obtain ⟨fr,callers,sts,dy,of⟩:=g
     have q1:=h6.alone
     have q2:=h6.mode
     have q3:=h6.defers
     have q4:=h6.dying
     simp only at q1 q2 q3 q4
     subst q1 q4
     exact ⟨_,_,_,by simp [stepG,q2,unwind,q3,stuckD,callDeferred,invoke];rfl⟩
    obtain ⟨o,w2,es,he⟩:=he
    exact noend _ _ (step_solo_ended h6.run he)
 obtain ⟨E,g,w,h1,h2,h3,h4,h5,h6⟩:=inv n (Nat.le_refl _)
 rw [hrun] at h1
 have hgw:g1=g∧w1=w:=by
  simp only [Stepped.next.injEq,solo,Machine.mk.injEq] at h1
  exact ⟨by simpa using h1.2.1,h1.1⟩
 obtain ⟨rfl,rfl⟩:=hgw
 exact (path yb n).2 (.stop fun w2 hr=>⟨E,g1,w1,h4,h5.rely hr,h6,hfin⟩)
end
end Go.Sim
namespace Go.Sim
section
variable {C:Cx} {E:BRel}
theorem AR.flatten_replicate {c:Array Value} (h:AR C E c c):∀ n,AR C E (Array.replicate n c).flatten (Array.replicate n c).flatten
 | 0=>by simpa using (AR.nil:AR C E #[] #[])
 | n+1=>by
  rw [Array.replicate_succ',Array.flatten_append]
  have:=AR.flatten_replicate h n
  have e:(#[c]:Array (Array Value)).flatten=c:=by simp
  rw [e]
  exact h.append this
def ZeroOk (C:Cx) (i:TypeInfo):Prop:=∀ z,i.zero=some z→∀ E,VR C E z z
theorem forIn_inv {α β:Type} (Q:β→Prop) (body:α→β→Option (ForInStep β)) (hb:∀ a b s,Q b→body a b=some s→Q s.value):∀ (l:List α) (b r:β),Q b→(forIn l b body:Option β)=some r→Q r
 | [],b,r,h,e=>by
  simp only [List.forIn_nil,Option.pure_def,Option.some.injEq] at e
  subst e;exact h
 | a::l,b,r,h,e=>by
  rw [List.forIn_cons] at e
  simp only [Option.bind_eq_bind,Option.bind_eq_some_iff] at e
  obtain ⟨s,hs,e⟩:=e
  have hq:=hb a b s h hs
  cases s with
  | done b'=>simp only [Option.pure_def,Option.some.injEq] at e;subst e;exact hq
  | yield b'=>exact forIn_inv Q body hb l b' r hq e
theorem reckonStruct_ok {info:TypeId→Option TypeInfo} (hi:∀ t i,info t=some i→ZeroOk C i) (fs:Array Field) {i:TypeInfo} (h:Made.reckonStruct info fs=some i):ZeroOk C i:=by
 unfold Made.reckonStruct at h
 dsimp only at h
 rw [← Array.forIn_toList] at h
 simp only [Option.bind_eq_bind,Option.bind_eq_some_iff] at h
 obtain ⟨r,hr,h⟩:=h
 have key:∀ a,r.2.2.2.2.2.2.2.1=some a→∀ E,AR C E a a:=by
  refine forIn_inv (fun s=>∀ a,s.2.2.2.2.2.2.2.1=some a→∀ E,AR C E a a) _ ?_ _ _ _ (fun a ha E=>by cases ha;exact .nil) hr
  intro f b s hb hs
  obtain ⟨j,hj,hs⟩:=Option.bind_eq_some_iff.1 hs
  have fin:∀ (c:Prop) [Decidable c] (z:Option (Array Value)),(z=if c then none else (do let x ← b.2.2.2.2.2.2.2.1;let y ← j.zero;pure (x++y.cells)))→∀ a,z=some a→∀ E,AR C E a a:=by
   intro c _ z hz a ha E
   rw [hz] at ha
   split at ha
   ·cases ha
   ·simp only [Option.bind_eq_bind,Option.bind_eq_some_iff,Option.pure_def,Option.some.injEq] at ha
    obtain ⟨x,hx,y,hy,rfl⟩:=ha
    exact (hb x hx E).append (AR.cells (hi _ j hj y hy E))
  split at hs
  ·simp at hs
  ·split at hs
   ·simp at hs
   ·split at hs
    ·simp only [Option.pure_def,Option.bind_eq_bind,Option.bind_some] at hs
     split at hs<;>(simp only [Option.some.injEq] at hs;subst hs;exact fin _ _ rfl)
    ·obtain ⟨tag,_,hs⟩:=Option.bind_eq_some_iff.1 hs
     split at hs<;>(simp only [Option.pure_def,Option.some.injEq] at hs;subst hs;exact fin _ _ rfl)
 split at h <;>
 ·simp only [Option.pure_def,Option.some.injEq] at h
  subst h
  intro z hz E
  simp only [Option.map_eq_some_iff] at hz
  obtain ⟨a,ha,rfl⟩:=hz
  exact .of_agg (key a ha E)
theorem reckon_ok {info:TypeId→Option TypeInfo} (hi:∀ t i,info t=some i→ZeroOk C i) (d:TypeDesc) {i:TypeInfo} (h:Made.reckon info d=some i):ZeroOk C i:=by
 intro z hz E
 unfold Made.reckon at h
 cases d with
 | pointer e=>
  simp only [Option.bind_eq_bind,Option.bind_eq_some_iff] at h
  obtain ⟨j,hj,h⟩:=h
  split at h
  ·cases h
  ·split at h
   ·cases h
   ·simp only [Option.bind_eq_some_iff,Option.pure_def,Option.some.injEq] at h
    obtain ⟨s,_,rfl⟩:=h
    cases hz;exact .nilPtr
  ·simp only [Option.bind_eq_some_iff,Option.pure_def,Option.some.injEq] at h
   obtain ⟨s,_,rfl⟩:=h
   cases hz;exact .nilPtr
 | slice e=>
  simp only [Option.bind_eq_bind,Option.bind_eq_some_iff,Option.pure_def,Option.some.injEq] at h
  obtain ⟨_,_,_,_,rfl⟩:=h
  cases hz;exact .nilSlice _ _
 | map k e=>
  simp only [Option.bind_eq_bind,Option.bind_eq_some_iff,Option.pure_def,Option.some.injEq] at h
  obtain ⟨_,_,_,_,_,_,_,_,rfl⟩:=h
  cases hz;exact .nilMap
 | chan d e=>
  simp only [Option.bind_eq_bind,Option.bind_eq_some_iff,Option.pure_def,Option.some.injEq] at h
  obtain ⟨_,_,_,_,rfl⟩:=h
  cases hz;exact .nilChan
 | func a b c=>
  simp only [Option.bind_eq_bind,Option.bind_eq_some_iff,Option.pure_def,Option.some.injEq] at h
  obtain ⟨_,_,rfl⟩:=h
  cases hz;exact .nilFunc
 | array n e=>
  simp only [Option.bind_eq_bind,Option.bind_eq_some_iff,Option.pure_def,Option.some.injEq] at h
  obtain ⟨j,hj,_,_,rfl⟩:=h
  simp only at hz
  split at hz
  ·cases hz
  ·split at hz
   ·cases hz;exact .of_agg .nil
   ·simp only [Option.map_eq_some_iff] at hz
    obtain ⟨z0,hz0,rfl⟩:=hz
    exact .of_agg ((AR.cells (hi e j hj z0 hz0 E)).flatten_replicate n)
 | struct fs=>exact reckonStruct_ok hi fs h z hz E
 | _=>cases h
theorem infoAt_ok {T:Tables} (h:∀ (t:Nat) (i:TypeInfo),T.types[t]?=some i→ZeroOk C i):∀ (f:Nat) (t:TypeId) (i:TypeInfo),Made.infoAt T f t=some i→ZeroOk C i
 | 0,_,_,h=>by cases h
 | f+1,t,i,hi=>by
  unfold Made.infoAt at hi
  split at hi
  ·exact h t i hi
  ·simp only [Option.bind_eq_some_iff] at hi
   obtain ⟨d,_,hd⟩:=hi
   exact reckon_ok (infoAt_ok h f) d hd
theorem info_ok {T:Tables} (h:∀ (t:Nat) (i:TypeInfo),T.types[t]?=some i→ZeroOk C i) (t:TypeId) (i:TypeInfo) (hi:T.info? t=some i):ZeroOk C i:=by
 unfold Tables.info? at hi
 split at hi
 ·exact h t i hi
 ·exact infoAt_ok h _ t i hi
end
def okZeros (P:Program):Bool:=P.types.toList.all fun i=>match i.zero with|some z=>plainV 20 z|none=>true
def okTypes (C:Cx):Bool:=
 (C.ts++[C.P.rt.boundsError,C.P.rt.errorString,C.P.rt.plainError,C.P.rt.typeAssertionError,C.P.rt.panicNilError,C.P.rt.unhashableTypeError]).all fun t=>
  decide (t<C.P.types.size) && match C.P.types[t]? with
   | some i=>i.methods.toList.all fun m=>!C.ms.contains m.name || (m.path.isEmpty && match m.func with|some (f,_)=>C.fs.contains f|none=>false)
   | none=>true
def okFuncs (C:Cx) (S:Kn):Bool:=
 S.cs.all fun f=>(C.hl f).isEmpty && match C.P.funcs[f]? with
  | some fn=>fn.body.isSome && !(fn.name == "runtime.NumGoroutine") && (match fn.body with|some b=>okCode C S f b|none=>true)
  | none=>false
def okValues (C:Cx) (S:Kn):Bool:=C.fs.all fun f=>S.cs.contains f && (S.own f).all fun i=>decide (6≤i)
theorem all_of {α:Type} {p:α→Bool} {l:List α} (h:l.all p=true) {a:α} (ha:a∈l):p a=true:=by
 rw [List.all_eq_true] at h;exact h a ha
theorem AllOk.of_check {C:Cx} {S:Kn} (h1:okZeros C.P=true) (h2:okTypes C=true) (h3:okFuncs C S=true) (h4:okValues C S=true)
  (h5:∀ f,S.xs.contains f=true→∃ fn ps rs,C.P.funcs[f]?=some fn∧(fn.name == "runtime.NumGoroutine")=false∧fn.body=none∧Go.Extern.findNext fn=none∧Go.Extern.find fn=some (Go.Extern.SlicesOverlaps.overlaps ps rs)):AllOk C S:=by
 have tys:∀ t i m,C.tyOk t=true→C.P.info? t=some i→m∈i.methods→C.ms.contains m.name=true→m.path=#[]∧∃ f p,m.func=some (f,p)∧C.F f:=by
  intro t i m ht hi hm hn
  have ht':t∈C.ts++[C.P.rt.boundsError,C.P.rt.errorString,C.P.rt.plainError,C.P.rt.typeAssertionError,C.P.rt.panicNilError,C.P.rt.unhashableTypeError]:=by
   unfold Cx.tyOk at ht
   simp only [Bool.or_eq_true,List.contains_iff_mem] at ht
   exact List.mem_append.2 ht
  have:=all_of h2 ht'
  simp only [Bool.and_eq_true,decide_eq_true_eq] at this
  obtain ⟨hlt,this⟩:=this
  have hi':C.P.types[t]?=some i:=by
   unfold Tables.info? at hi
   rwa [if_pos hlt] at hi
  rw [hi'] at this
  have:=all_of this (Array.mem_toList_iff.2 hm)
  simp only [hn,Bool.not_true,Bool.false_or,Bool.and_eq_true,Array.isEmpty_iff] at this
  obtain ⟨hp,hf⟩:=this
  cases hfu:m.func with
  | none=>rw [hfu] at hf;cases hf
  | some q=>
   obtain ⟨f,p⟩:=q
   rw [hfu] at hf
   exact ⟨hp,f,p,rfl,hf⟩
 have fns:∀ f,S.cs.contains f=true→C.hl f=[]∧∃ fn b,C.P.funcs[f]?=some fn∧fn.body=some b∧(fn.name == "runtime.NumGoroutine")=false∧okCode C S f b=true:=by
  intro f hf
  have:=all_of h3 (List.contains_iff_mem.1 hf)
  simp only [Bool.and_eq_true,List.isEmpty_iff] at this
  obtain ⟨hl,this⟩:=this
  refine ⟨hl,?_⟩
  cases hfn:C.P.funcs[f]? with
  | none=>rw [hfn] at this;cases this
  | some fn=>
   rw [hfn] at this
   cases hb:fn.body with
   | none=>simp [hb] at this
   | some b=>
    simp only [hb,Option.isSome_some,Bool.true_and,Bool.and_eq_true,Bool.not_eq_true'] at this
    exact ⟨fn,b,rfl,hb,this.1,this.2⟩
 refine ⟨⟨⟨fun t i z hi hz E=>?_,fun t i m f p ht hi hm hn hf=>?_,fun t i m ht hi hm hn=>?_⟩,fun f hf=>?_,fun f hf=>?_,h5⟩,fun f hf=>(fns f hf).1,fun f fn b hf hfn hb=>?_⟩
 ·refine info_ok (C:=C) (T:=C.P.toTables) (fun t i hi z hz E=>?_) t i hi z hz E
  have:=all_of h1 (Array.mem_toList_iff.2 (Array.mem_of_getElem? hi))
  rw [hz] at this
  exact plainV_rel 20 z this
 ·obtain ⟨_,f',p',hf',hF⟩:=tys t i m ht hi hm hn
  rw [hf] at hf';cases hf'
  exact hF
 ·obtain ⟨hp,f',p',hf',_⟩:=tys t i m ht hi hm hn
  exact ⟨hp,f',p',hf'⟩
 ·obtain ⟨_,fn,b,a1,a2,a3,_⟩:=fns f hf
  exact ⟨fn,a1,by rw [a2];rfl,a3⟩
 ·have:=all_of h4 (List.contains_iff_mem.1 hf)
  simp only [Bool.and_eq_true] at this
  exact ⟨this.1,fun i hi=>by simpa using all_of this.2 (List.contains_iff_mem.1 hi)⟩
 ·obtain ⟨_,fn',b',a1,a2,_,a4⟩:=fns f hf
  rw [hfn] at a1;cases a1
  rw [hb] at a2;cases a2
  exact a4
end Go.Sim
namespace Go.Sim.Z
open Go Go.Proofs
noncomputable def C0:Cx:={ P:=Tryz.prog,fs:=[11,21,27,42,44,49,50,51,52,54,58,61,68,70,72,74,101,156,157,158,159,163,164,165,166,170,171,172,173],ts:=[120,123,126,68,117,9],ms:=["Add","Numbers","Copy","Merge"],hl:=fun f=>if f == 40 then [9,10,18,19,20,21,22,23,24] else if f == 9 then [18] else if f == 17 then [6,10] else if f == 38 then [1000] else if f == 4 then [1,34,1000] else if f == 3 then [1,30,1000] else if f == 5 then [1,21,1000] else if f == 6 then [0,9,18,20,21,24,26,27,30,32,33,41,43,44,46,48,49,1000] else if f == 7 then [1000] else if f == 14 then [1000] else if f == 17 then [1000] else [],st:=false,Sh:=fun _=>False,lax:=fun _ _ h=>h }
def S0:Kn:={ own:=fun f=>if f == 52 then [7] else if f == 100 then [10] else [],cs:=[8,10,11,12,13,15,16,18,19,20,21,22,23,24,25,26,27,28,29,30,31,32,33,34,35,36,37,39,41,42,43,44,45,46,47,48,49,50,51,52,53,54,55,56,57,58,59,60,61,65,67,68,69,70,71,72,73,74,75,76,77,78,79,93,94,100,101,102,103,104,105,106,107,108,109,110,111,112,113,114,115,116,117,118,119,120,121,122,128,129,130,131,132,133,134,135,136,137,138,156,157,158,159,160,161,162,163,164,165,166,167,168,169,170,171,172,173,174,175,176,177,178,180,181,182,183],gs:=[],df:=[24,54],xs:=[179] }
noncomputable def C1 (Sh:Nat→Prop):Cx:={ P:=Tryz.prog,fs:=[42,44,157,158,164,165,171,172],ts:=[120,123,126],ms:=["Copy","Merge"],hl:=fun f=>if f == 63 then [0,6] else [],st:=true,Sh,lax:=fun h=>by cases h }
def S1:Kn:={ own:=fun f=>if f == 63 then [7,9,23] else if f == 65 then [0,15] else [],cs:=[26,42,43,44,47,65,71,93,94,157,158,161,164,165,170,171,172,174,175,176,177,178,180,181,182,183],gs:=[],df:=[],xs:=[179] }
theorem overlaps_row (f:FuncId) (h:[179].contains f=true):∃ fn ps rs,Tryz.prog.funcs[f]?=some fn∧(fn.name == "runtime.NumGoroutine")=false∧fn.body=none∧Go.Extern.findNext fn=none∧Go.Extern.find fn=some (Go.Extern.SlicesOverlaps.overlaps ps rs):=by
 have e:f=179:=by simpa using h
 subst e
 exact ⟨Tryz.f179,Tryz.f179.params,Tryz.f179.resultTypes,by kernel_rfl,by kernel_rfl,by kernel_rfl,by kernel_rfl,by kernel_rfl⟩
theorem allOk0:AllOk C0 S0:=AllOk.of_check (by kernel_rfl) (by kernel_rfl) (by kernel_rfl) (by kernel_rfl) overlaps_row
theorem allOk1 (Sh:Nat→Prop):AllOk (C1 Sh) S1:=AllOk.of_check (by kernel_rfl) (by kernel_rfl) (by kernel_rfl) (by kernel_rfl) overlaps_row
end Go.Sim.Z
namespace Go.Sim
open Go.Conc
open Go.ConcN (sumTo upd sumTo_upd upd_ne upd_same)
def ShW (W:Nat→Prop):Loc→Prop:=fun l=>∃ a,l=.cell a∧W a.block
structure Cmp (P:Program) (W:Nat→Prop) (gs:Array Goroutine) (w:World) (t:Trace) (q:Nat→Nat):Prop where
 lv:Leavers P t gs q
 past:Past (ShW W) w.heap.size t
 quiet:Quiet (ShW W) t
 low:∀ b,W b→b<w.heap.size
 tidy:∀ op∈t,op.g<gs.size∧∀ x,op.act.touch?=some x→x.loc.isMemory=true
theorem EvG.mem {own X:Nat→Prop} {e:Event} (h:EvG own X e) {x:Touch} (hx:(MemAct.ofEvent e).touch?=some x):x.loc.isMemory=true:=by
 obtain ⟨loc,wr,sy⟩:=e
 cases loc with
 | cell b=>
  obtain ⟨⟨h1,_⟩,h3⟩:=h
  simp only at h3
  subst h3
  simp only [MemAct.ofEvent,MemAct.touch?,Option.some.injEq] at hx
  subst hx
  rfl
 | obj r=>
  obtain ⟨⟨h1,_⟩,h3⟩:=h
  simp only at h3
  subst h3
  have e:MemAct.ofEvent ⟨.obj r,wr,false⟩=.access ⟨.obj r,wr,false⟩:=by cases wr<;>rfl
  simp only [e,MemAct.touch?,Option.some.injEq] at hx
  subst hx
  rfl
 | mark m=>cases m<;>first|exact h.elim|(simp [MemAct.ofEvent,MemAct.touch?] at hx)
 | output=>exact h.elim
 | goroutines=>exact h.elim
theorem EvG.noTouch {own X W:Nat→Prop} {e:Event} (h:EvG own X e) (hd:∀ b,W b→¬ X b) {x:Touch} (hx:(MemAct.ofEvent e).touch?=some x):¬ ShW W x.loc:=by
 rintro ⟨a,ha,hw⟩
 obtain ⟨loc,wr,sy⟩:=e
 cases loc with
 | cell b=>
  obtain ⟨⟨h1,_⟩,h3⟩:=h
  simp only at h3
  subst h3
  simp only [MemAct.ofEvent,MemAct.touch?,Option.some.injEq] at hx
  subst hx
  cases ha
  exact hd _ hw h1
 | obj r=>
  obtain ⟨⟨h1,_⟩,h3⟩:=h
  simp only at h3
  subst h3
  simp only [MemAct.ofEvent,MemAct.touch?,Option.some.injEq] at hx
  subst hx
  cases ha
 | mark m=>cases m<;>first|exact h.elim|(simp [MemAct.ofEvent,MemAct.touch?] at hx)
 | output=>exact h.elim
 | goroutines=>exact h.elim
theorem EvG.evL {own X W:Nat→Prop} {B:Nat} {e:Event} (h:EvG own X e) (hd:∀ b,W b→¬ X b) (hB:∀ b,X b→b<B):EvL (ShW W) B e:=by
 refine ⟨fun x hx hs=>absurd hs (h.noTouch hd hx),?_,?_,?_⟩
 ·intro he;unfold EvG at h;rw [he] at h;exact h
 ·intro he;unfold EvG at h;rw [he] at h;exact h
 ·obtain ⟨loc,wr,sy⟩:=e
  cases loc with
  | cell b=>
   obtain ⟨⟨h1,_⟩,h3⟩:=h
   simp only at h3
   subst h3
   exact hB _ h1
  | obj r=>
   obtain ⟨⟨h1,_⟩,h3⟩:=h
   simp only at h3
   subst h3
   have e:MemAct.ofEvent ⟨.obj r,wr,false⟩=.access ⟨.obj r,wr,false⟩:=by cases wr<;>rfl
   rw [e]
   exact hB _ h1
  | mark m=>cases m<;>first|exact h.elim|exact trivial
  | output=>exact h.elim
  | goroutines=>exact h.elim
theorem Rely.at {X:Nat→Prop} {w:World} (d:Nat):Rely false X w (w.at d):=⟨fun _ _=>rfl,Nat.le_refl _,fun _=>rfl,rfl⟩
theorem awake_all {P:Program} {gs:Array Goroutine} {t:Trace} {q:Nat→Nat} {a:Goroutine} (h0:gs[0]?=some a) (hr:a.status=.running) (hL:Leavers P t gs q):∀ g∈gs,awake g:=by
 intro g hg
 obtain ⟨i,hi,rfl⟩:=Array.mem_iff_getElem.1 hg
 rcases Nat.eq_zero_or_pos i with rfl|hpos
 ·have:gs[0]=a:=by simpa [Array.getElem?_eq_getElem hi] using h0
  rw [this];exact awake_of (.inl hr)
 ·exact awake_of ((hL.old i _ hpos (Array.getElem?_eq_getElem hi)).status.elim .inl fun x=>.inr (.inr x))
theorem Cmp.own {P:Program} {W:Nat→Prop} {gs:Array Goroutine} {w w':World} {t:Trace} {q:Nat→Nat} {a a':Goroutine} {es:Array Event} (h:Cmp P W gs w t q) (h0:gs[0]?=some a) (hz:w.heap.size≤w'.heap.size)
  {own X:Nat→Prop} (he:∀ e∈es,EvG own X e) (hd:∀ b,W b→¬ X b) (hX:∀ b,X b→b<w'.heap.size) :
  Cmp P W ((gs.map (woken P a a' w')).setIfInBounds 0 a') w' (t++MemOp.ofEvents 0 a.frame.fn a.frame.place es) q:=by
 refine ⟨⟨fun j x hj hx=>?_,fun j hj=>?_⟩,(h.past.mono hz).own fun e hx=>(he e hx).evL hd hX,h.quiet.app fun op hop x hx hs=>?_,fun b hb=>Nat.lt_of_lt_of_le (h.low b hb) hz,fun op hop=>?_⟩
 ·rw [Array.getElem?_setIfInBounds_ne (by omega),Array.getElem?_map] at hx
  obtain ⟨y,hy,rfl⟩:=Option.map_eq_some_iff.1 hx
  have hq:=h.lv.old j y hj hy
  rw [woken_quitsD hq,Deaf_other t (g':=0) (by omega) _ (fun op hop=>by obtain ⟨e,_,rfl⟩:=Conc.mem_ofEvents hop;rfl)]
  exact hq
 ·have hsz:0<gs.size:=(Array.getElem?_eq_some_iff.1 h0).1
  rw [Deaf_other t (g':=0) (by simp at hj;omega) _ (fun op hop=>by obtain ⟨e,_,rfl⟩:=Conc.mem_ofEvents hop;rfl)]
  exact h.lv.above j (by simpa using hj)
 ·obtain ⟨e,hx',rfl⟩:=Conc.mem_ofEvents hop
  exact absurd hs ((he e hx').noTouch hd hx)
 ·rcases Array.mem_append.1 hop with h1|h1
  ·have:=h.tidy op h1
   exact ⟨by simpa using this.1,this.2⟩
  ·obtain ⟨e,hx',rfl⟩:=Conc.mem_ofEvents h1
   have hsz:0<gs.size:=(Array.getElem?_eq_some_iff.1 h0).1
   exact ⟨by simpa using hsz,fun x hx=>(he e hx').mem hx⟩
theorem Cmp.slip {P:Program} {W:Nat→Prop} {gs:Array Goroutine} {w:World} {t:Trace} {q:Nat→Nat} (h:Cmp P W gs w t q) {i k:Nat} {g:Goroutine} (hi:gs[i]?=some g) (hp:0<i) (hr:g.status=.running) (d:Nat) (hk:q i=k+1) :
  ∃ g' es,stepG P false g (w.at d)=.go g' (w.at d) es∧Cmp P W ((gs.map (woken P g g' (w.at d))).setIfInBounds i g') (w.at d) (t++MemOp.ofEvents i g.frame.fn g.frame.place es) (upd q i k):=by
 have hq:=h.lv.old i g hp hi
 rw [hk] at hq
 have hlt:i<gs.size:=(Array.getElem?_eq_some_iff.1 hi).1
 rcases hq with ⟨hf,_⟩|⟨_,g',es,hm,hstp,hq'⟩
 ·rw [hf] at hr;cases hr
 refine ⟨g',es,hstp _,⟨fun j x hj hx=>?_,fun j hj=>?_⟩,h.past.mute (by omega) hm,h.quiet.app fun op hop x hx hs=>?_,h.low,fun op hop=>?_⟩
 ·by_cases hji:i=j
  ·subst hji
   rw [Array.getElem?_setIfInBounds_self_of_lt (by simpa using hlt)] at hx
   obtain rfl:=Option.some.inj hx
   rw [upd_same,Deaf_own]
   exact hq'
  ·rw [Array.getElem?_setIfInBounds_ne hji,Array.getElem?_map] at hx
   obtain ⟨y,hy,rfl⟩:=Option.map_eq_some_iff.1 hx
   have hqj:=h.lv.old j y hj hy
   rw [woken_quitsD hqj,upd_ne q k (Ne.symm hji),Deaf_other t hji _ (fun op hop=>by obtain ⟨e,_,rfl⟩:=Conc.mem_ofEvents hop;rfl)]
   exact hqj
 ·rw [Deaf_other t (g':=i) (by simp at hj;omega) _ (fun op hop=>by obtain ⟨e,_,rfl⟩:=Conc.mem_ofEvents hop;rfl)]
  exact h.lv.above j (by simpa using hj)
 ·obtain ⟨e,he,rfl⟩:=Conc.mem_ofEvents hop
  rw [touch_mute (hm e he)] at hx
  cases hx
 ·rcases Array.mem_append.1 hop with h1|h1
  ·have:=h.tidy op h1
   exact ⟨by simpa using this.1,this.2⟩
  ·obtain ⟨e,he,rfl⟩:=Conc.mem_ofEvents h1
   exact ⟨by simpa using hlt,fun x hx=>by rw [touch_mute (hm e he)] at hx;cases hx⟩
end Go.Sim
namespace Go.Sim
open Go.Conc Go.ConcN Go.RowKit Go.Conc.Lib Go.ConcR.Gen Go.ConcN.Gen
open Go.ConcR (KK wgBlock WgAt stA smA rd wr mk DC0)
def RM (ty:TypeId) (Wg:Nat) (w w1:World):Prop:=WgLive ty Wg w→WgLive ty Wg w1
theorem rm_rely {ty:TypeId} {Wg:Nat} {w w1:World} (h:WgLive ty Wg w) (r:RM ty Wg w w1):WgLive ty Wg w1:=r h
section
variable (P:Program) (ty:TypeId) (Wg:Nat)
section
variable (Fin:Goroutine→World→Prop)
def JAcq (g:Goroutine) (w:World):Prop:=g.status=.running∧∃ g',stepG P true g w=.go g' w #[mk (.acquire (stA Wg))]∧∃ m,(Goes P true (RM ty Wg) DC0) Fin m g' w
def JKe (g:Goroutine) (w:World):Prop:=g.status=.running∧∃ g',stepG P true g w=.go g' w #[mk .enable]∧∃ m,(Goes P true (RM ty Wg) DC0) (JAcq P ty Wg Fin) m g' w
def JW4 (g:Goroutine) (w:World):Prop:=g.status=.running∧(WgAt ty Wg w 0 0→∃ g',stepG P true g w=.go g' w #[rd (stA Wg)]∧∃ m,(Goes P true (RM ty Wg) DC0) (JKe P ty Wg Fin) m g' w)
def JW3 (g:Goroutine) (w:World):Prop:=
 g.status=.running∧g.offers=none∧((∃ st,WgAt ty Wg w st 0)→stepG P true g w=.go { g with status:=.blocked } w #[]) ∧
  (WgAt ty Wg w 0 1→∃ g',stepG P true g w=.go g' (w.setCell (smA Wg) (.int .u32 0)) (semEvents (smA Wg))∧∃ m,(Goes P true (RM ty Wg) DC0) (JW4 P ty Wg Fin) m g' (w.setCell (smA Wg) (.int .u32 0)))
def JWr (g:Goroutine) (w:World):Prop:=g.status=.running∧∃ g',stepG P true g w=.go g' w #[mk (.write (smA Wg))]∧∃ m,(Goes P true (RM ty Wg) DC0) (JW3 P ty Wg Fin) m g' w
variable (Anch:Goroutine→World→Prop)
def JW2 (vs:Nat) (g:Goroutine) (w:World):Prop:=
 g.status=.running∧∀ v:Nat,v<2147483648→WgAt ty Wg w (v*KK) 0 →
  (v=vs→∃ g',stepG P true g w=.go g' (w.setCell (stA Wg) (.int .u64 (v*KK+1))) #[rd (stA Wg),wr (stA Wg)]∧∃ m,(Goes P true (RM ty Wg) DC0) (JWr P ty Wg Fin) m g' (w.setCell (stA Wg) (.int .u64 (v*KK+1)))) ∧
  (v≠vs→∃ g',stepG P true g w=.go g' w #[rd (stA Wg)]∧∃ m,(Goes P true (RM ty Wg) DC0) Anch m g' w)
def JW1 (g:Goroutine) (w:World):Prop:=
 g.status=.running∧∀ v:Nat,v<2147483648→WgAt ty Wg w (v*KK) 0→∃ g',stepG P true g w=.go g' w #[rd (stA Wg)] ∧
  (v=0→∃ m,(Goes P true (RM ty Wg) DC0) (JKe P ty Wg Fin) m g' w)∧(v≠0→∃ m,(Goes P true (RM ty Wg) DC0) (JW2 P ty Wg Fin Anch v) m g' w)
def JKd (g:Goroutine) (w:World):Prop:=g.status=.running∧∃ g',stepG P true g w=.go g' w #[mk .disable]∧∃ m,(Goes P true (RM ty Wg) DC0) Anch m g' w
end
section
variable (Next:Goroutine→World→Prop)
def JKeS (g:Goroutine) (w:World):Prop:=g.status=.running∧∃ g',stepG P true g w=.go g' w #[mk .enable]∧∃ m,(Goes P true (RM ty Wg) DC0) Next m g' w
def JRd (g:Goroutine) (w:World):Prop:=g.status=.running∧∃ g',stepG P true g w=.go g' w #[mk (.read (smA Wg))]∧∃ m,(Goes P true (RM ty Wg) DC0) (JKeS P ty Wg Next) m g' w
def JA1 (g:Goroutine) (w:World):Prop:=
 g.status=.running∧∀ v:Nat,v<2147483647→WgAt ty Wg w (v*KK) 0 →
  ∃ g',stepG P true g w=.go g' (w.setCell (stA Wg) (.int .u64 ((v+1)*KK))) #[rd (stA Wg),wr (stA Wg)] ∧
   (v=0→∃ m,(Goes P true (RM ty Wg) DC0) (JRd P ty Wg Next) m g' (w.setCell (stA Wg) (.int .u64 ((v+1)*KK))))∧(v≠0→∃ m,(Goes P true (RM ty Wg) DC0) (JKeS P ty Wg Next) m g' (w.setCell (stA Wg) (.int .u64 ((v+1)*KK))))
def JKdS (g:Goroutine) (w:World):Prop:=g.status=.running∧∃ g',stepG P true g w=.go g' w #[mk .disable]∧∃ m,(Goes P true (RM ty Wg) DC0) (JA1 P ty Wg Next) m g' w
end
end
end Go.Sim
namespace Go.Sim
open Go.Conc Go.ConcN
inductive OneOf {α:Type} (r:α→α→Prop):List α→List α→Prop
 | head {a b:α} {l:List α} (h:r a b):OneOf r (a::l) (b::l)
 | tail {a:α} {l l':List α} (h:OneOf r l l'):OneOf r (a::l) (a::l')
theorem acc_cons {α:Type} {r:α→α→Prop} {a:α} (ha:Acc r a):∀ {l:List α},Acc (OneOf r) l→Acc (OneOf r) (a::l):=by
 induction ha with
 | intro a _ iha=>
  intro l hl
  induction hl with
  | intro l h2 ihl=>
   refine .intro _ fun x hx=>?_
   cases hx with
   | head h=>exact iha _ h (.intro _ h2)
   | tail h=>exact ihl _ h
theorem acc_list {α:Type} {r:α→α→Prop}:∀ (l:List α),(∀ a∈l,Acc r a)→Acc (OneOf r) l
 | [],_=>.intro _ fun _ h=>nomatch h
 | a::l,h=>acc_cons (h a (by simp)) (acc_list l fun b hb=>h b (by simp [hb]))
theorem oneOf_set {α:Type} {r:α→α→Prop} {x y:α}:∀ {l:List α} {i:Nat},l[i]?=some y→r x y→OneOf r (l.set i x) l
 | [],_,h,_=>by simp at h
 | a::l,0,h,hr=>by simp at h;subst h;exact .head hr
 | a::l,i+1,h,hr=>.tail (oneOf_set (by simpa using h) hr)
def subS (st:Bool) (P:Program) (main:Bool) (Stop:Sit→Prop) (y2 y:Sit):Prop:=
 (∃ w1,Rely st y.X y.w w1∧Good1 P main y w1 y2)∧¬ ∀ w1,Rely st y.X y.w w1→Stop { y with w:=w1 }
theorem Good1.unique {P:Program} {main:Bool} {y:Sit} {w1:World} {y2 y3:Sit} (h:Good1 P main y w1 y2) (k:Good1 P main y w1 y3):y2=y3:=by
 obtain ⟨es,h1,_⟩:=h.step
 obtain ⟨es',k1,_⟩:=k.step
 rw [h1] at k1
 simp only [GStep.go.injEq] at k1
 obtain ⟨a,b,_⟩:=k1
 obtain ⟨o2,x2,g2,w2⟩:=y2
 obtain ⟨o3,x3,g3,w3⟩:=y3
 have e1:=h.own
 have e2:=k.own
 have e3:=h.X
 have e4:=k.X
 simp only at a b e1 e2 e3 e4
 subst a b e1 e2 e3 e4
 rfl
theorem Runs.acc {st:Bool} {P:Program} {main:Bool} {Stop:Sit→Prop} {y:Sit} (h:Runs st P main Stop y):Acc (subS st P main Stop) y:=by
 induction h with
 | stop h=>exact .intro _ fun y2 h2=>absurd h h2.2
 | step f h k ih=>
  refine .intro _ fun y2 h2=>?_
  obtain ⟨⟨w1,hr,hg⟩,_⟩:=h2
  rw [hg.unique (h w1 hr)]
  exact ih w1 hr
inductive lessO (st:Bool) (P:Program) (main:Bool) (Stop:Sit→Prop):Option Sit→Option Sit→Prop
 | done {y:Sit}:lessO st P main Stop none (some y)
 | step {y2 y:Sit} (h:subS st P main Stop y2 y):lessO st P main Stop (some y2) (some y)
theorem lessO_none {st:Bool} {P:Program} {main:Bool} {Stop:Sit→Prop}:Acc (lessO st P main Stop) none:=.intro _ fun _ h=>nomatch h
theorem lessO_some {st:Bool} {P:Program} {main:Bool} {Stop:Sit→Prop} {y:Sit} (h:Acc (subS st P main Stop) y):Acc (lessO st P main Stop) (some y):=by
 induction h with
 | intro y _ ih=>
  refine .intro _ fun z hz=>?_
  cases hz with
  | done=>exact lessO_none
  | step h=>exact ih _ h
def pairR {α:Type} (r:Nat→α→α→Prop) (x y:Nat × α):Prop:=x.1=y.1∧r y.1 x.2 y.2
theorem acc_pair {α:Type} {r:Nat→α→α→Prop} {i:Nat} {a:α} (h:Acc (r i) a):Acc (pairR r) (i,a):=by
 induction h with
 | intro a _ ih=>
  refine .intro _ fun z hz=>?_
  obtain ⟨k,z⟩:=z
  obtain ⟨h1,h2⟩:=hz
  simp only at h1 h2
  subst h1
  exact ih z h2
theorem acc_ranks {α:Type} {r:Nat→α→α→Prop} (l:List (Nat × α)) (h:∀ a∈l,Acc (r a.1) a.2):Acc (OneOf (pairR r)) l:=acc_list l fun a ha=>acc_pair (h a ha)
def Fresh (t:Trace) (l:Loc):Prop:=∀ i a,touchAt t i=some a→a.loc≠l
section
variable {Sh:Loc→Prop} {Own Rd Own' Rd':Nat→Loc→Prop} {t:Trace} {j:Nat}
theorem CT.widen (h:CT Sh Own Rd t j) (h1:∀ k,1≤k→k≤j→∀ l,Own k l→Own' k l) (h2:∀ k,1≤k→k≤j→∀ l,Own' k l→Own k l∨Fresh t l) (h3:∀ k,1≤k→k≤j→∀ l,Rd' k l↔Rd k l):CT Sh Own' Rd' t j:=by
 refine ⟨h.quiet,fun k k1 kj l hl=>?_,fun k k1 kj l hl=>h.rd k k1 kj l ((h3 k k1 kj l).1 hl),fun l hs hl=>h.free l hs fun k k1 kj=>?_,fun l hs hl=>h.mine l hs fun k k1 kj ho=>hl k k1 kj (h1 k k1 kj l ho),h.nr,h.gs⟩
 ·rcases h2 k k1 kj l hl with h|hf
  ·exact CT.own ‹CT Sh Own Rd t j› k k1 kj l h
  ·intro i a ha e
   exact absurd e (hf i a ha)
 ·exact ⟨fun ho=>(hl k k1 kj).1 (h1 k k1 kj l ho),fun hr=>(hl k k1 kj).2 ((h3 k k1 kj l).2 hr)⟩
theorem fresh_of_low {B:Nat} (h:∀ op∈t,op.act.low B) {l:Loc} (hl:¬ l.low B):Fresh t l:=by
 intro i a ha e
 obtain ⟨x,hx,hxa⟩:=touch_of ha
 obtain ⟨hlt,rfl⟩:=Array.getElem?_eq_some_iff.1 hx
 have hlow:=h _ (Array.getElem_mem hlt)
 refine hl ?_
 rw [← e]
 revert hxa hlow
 generalize t[i].act=act
 intro hxa hlow
 cases act with
 | access ev=>
  simp only [MemAct.touch?] at hxa
  split at hxa<;>first|(cases hxa;exact hlow)|cases hxa
 | mark m=>cases m<;>simp [MemAct.touch?] at hxa<;>(subst hxa;exact hlow)
 | _=>simp [MemAct.touch?] at hxa
end
end Go.Sim
