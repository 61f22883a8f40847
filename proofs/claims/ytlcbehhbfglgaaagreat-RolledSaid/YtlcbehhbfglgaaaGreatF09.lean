/- PROVED HERE: laws. Conditions: none. -/
import Derived.Test.YtlcbehhbfglgaaaGreatF08
set_option linter.all false
namespace Go.Sim
section
variable {C:Cx} {ok:FuncId->Code->Prop} {E:J5}
def Looks (P:Program) {α:Type} (s:Sem α):Prop:=∀ w:World,∃ b,s.run P w=.ok b w
theorem Looks.bind {P:Program} {α β:Type} {s:Sem α} {f:α->Sem β} (h:Looks P s) (k:∀ a,Looks P (f a)):Looks P (s >>= f):=fun w=>by obtain ⟨a,ha⟩:=h w;obtain ⟨b,hb⟩:=k a w;exact ⟨b,by rw [Sem.run_bind,ha,Result.andThen_ok,hb]⟩
theorem Looks.pure {P:Program} {α:Type} (a:α):Looks P (Pure.pure a:Sem α):=fun w=>⟨a,rfl⟩
theorem Looks.shape {P:Program} (r:Nat):Looks P (Go.shape r):=fun w=>⟨_,run_shape _ _ _⟩
theorem Looks.frozen {P:Program} (r:Addr):Looks P (Go.frozen r):=fun w=>⟨_,run_frozen _ _ _⟩
theorem Looks.holdsCells {P:Program} (a:Addr) (n:Nat):Looks P (Builtin.holdsCells a n):=by unfold Builtin.holdsCells;refine .bind (.shape _) fun x=>?_;split<;>exact .pure _
theorem Looks.mayShare {P:Program} (size sLen n:Nat) (base:Option Addr) (x:Value):Looks P (Builtin.mayShare size sLen n base x):=by
 unfold Builtin.mayShare
 dsimp only
 have fin:∀ there:Bool,Looks P (if !there then Pure.pure true else match x with | .slice (some b) _ _=>do Pure.pure (!(<- Builtin.holdsCells b (n*size)) || base.any (·.block == b.block))|_=>Pure.pure false:Sem Bool):=fun there=>by
  split
  ·exact .pure _
  ·split
   ·exact .bind (.holdsCells _ _) fun _=>.pure _
   ·exact .pure _
 cases base with
 | none=>exact .bind (.pure _) fun t=>fin t
 | some a=>exact .bind (.holdsCells _ _) fun _=>.bind (.frozen _) fun _=>.bind (.pure _) fun t=>fin t
theorem J3.share {α:Type} {R:J5->Value->Value->Prop} {size sLen n:Nat} {base:Option Addr} {x:Value} {f:Bool->Sem α} {g:α->Sem Value} {s':Sem Value} (hf:∀ b w,∃ h w1,(f b).run C.P w=.halt h w1/\Dead h) :
  J3 C ok E ((Builtin.mayShare size sLen n base x >>= f) >>= g) s' R:=.Jf fun w=>by
 obtain ⟨b,hb⟩:=Looks.mayShare (P:=C.P) size sLen n base x w;obtain ⟨h,w1,h1,h2⟩:=hf b w;refine ⟨h,w1,?_,h2⟩;rw [Sem.run_bind,Sem.run_bind,hb,Result.andThen_ok,h1];rfl
set_option maxHeartbeats 1000000 in
theorem J3.append (K:J4y C) (hh:Hnd C E) (t:Array TypeId) (ty:TypeId) {a a':Array Value} (ha:AR C E a a'):J3 C ok E (Builtin.append_ t ty a) (Builtin.append_ t ty a') (VR C):=by
 unfold Builtin.append_;cases ht:t[0]? with
 | none=>exact .stuck _
 | some tt=>
  cases hx0:a[0]? with
  | none=>exact .stuck _
  | some s=>
   obtain ⟨s',hx',hv⟩:=ha.J04 hx0;rw [hx'];cases hy:a[1]? with
   | none=>exact .stuck _
   | some x=>
    obtain ⟨x',hy',hw⟩:=ha.J04 hy;rw [hy'];refine J3.bind' (J3.underlying tt) fun E1 s1 u u' hu=>?_;obtain ⟨rfl,_⟩:=hu;have hv:=hv.mono s1;have hx:=hw.mono s1;have hh:=hh.mono s1;cases u with
    | slice e=>
     have hcs:(∃ base base' sLen sCap,s=.slice base sLen sCap/\s'=.slice base' sLen sCap/\J0m (Jd E1) base base')\/∀ b l c,s≠.slice b l c:=by
      cases hv with
      | Jo l c=>exact .inl ⟨none,none,l,c,rfl,rfl,trivial⟩
      | slice o q l c h=>exact .inl ⟨some _,some _,l,c,rfl,rfl,⟨h,rfl,rfl⟩⟩
      | _=>exact .inr (by simp)
     rcases hcs with ⟨base,base',sLen,sCap,rfl,rfl,hb⟩|hno
     ·refine J3.bind' (J3.sizeOf e) fun E2 s2 size z' hz=>?_;obtain rfl:size=z':=hz;have fin:∀ E6 m,Sub E1 E6->J3 C ok E6 (Pure.pure (Value.slice base m sCap)) (Pure.pure (Value.slice base' m sCap)) (VR C):=fun E6 m s6=>by
       refine .pure ?_;cases base with
       | none=>cases base' with
        | none=>exact .Jo _ _
        | some _=>exact hb.elim
       | some b=>cases base' with
        | none=>exact hb.elim
        | some b'=>exact .of_slice (Jd.mono s6 hb) _ _
      dsimp only
      have hz0:∀ E6 n,J3 C ok E6 (if n*size=0 then Pure.pure #[] else do Pure.pure (Builtin.zeroCells (<- Go.zeroValue e).cells n)) (if n*size=0 then Pure.pure #[] else do Pure.pure (Builtin.zeroCells (<- Go.zeroValue e).cells n)) (AR C):=fun E6 n=>by
       split
       ·exact .pure .nil
       ·exact J3.bind' (J3.zeroValue K e) fun E6 s6 z z' hz=>.pure (J68 (AR.cells hz) _)
      have hst:∀ E6 m nw nw',Sub E1 E6->AR C E6 nw nw'->J3 C ok E6
        (match base with|some a=>(do let r <- Go.storeCells (a.add (sLen*size)) nw.toList;Pure.pure (Value.slice base m sCap))|_=>Pure.pure (Value.slice base m sCap))
        (match base' with|some a=>(do let r <- Go.storeCells (a.add (sLen*size)) nw'.toList;Pure.pure (Value.slice base' m sCap))|_=>Pure.pure (Value.slice base' m sCap)) (VR C):=fun E6 m nw nw' s6 hnw=>by
       cases base with
       | none=>cases base' with
        | none=>exact fin _ _ s6
        | some _=>exact hb.elim
       | some b=>cases base' with
        | none=>exact hb.elim
        | some b'=>exact J3.bind' (J3.storeCells _ _ 0 _ (Jd.add (Jd.mono s6 hb) _) hnw.toList) fun E7 s7 _ _ _=>fin E7 m (s6.trans s7)
      have hgrow:∀ E6 (need:Nat) (ap ap':Sem (Array Value)),Sub E1 E6->(∀ E7,Sub E6 E7->J3 C ok E7 ap ap' (AR C))->J3 C ok E6
        (do
         let newCap <- Go.choose (.appendCap need sCap e)
         let i <- Go.typeInfo e
         Go.askRoom (newCap*i.bytes)
         let old <- Builtin.firstCells size sLen (.slice base sLen sCap)
         let new <- ap
         let z <- Go.zeroValue e
         let r <- Go.newRow e (old++new++Builtin.zeroCells z.cells (newCap-need))
         Pure.pure (Value.slice (some r) need newCap))
        (do
         let newCap <- Go.choose (.appendCap need sCap e)
         let i <- Go.typeInfo e
         Go.askRoom (newCap*i.bytes)
         let old <- Builtin.firstCells size sLen (.slice base' sLen sCap)
         let new <- ap'
         let z <- Go.zeroValue e
         let r <- Go.newRow e (old++new++Builtin.zeroCells z.cells (newCap-need))
         Pure.pure (Value.slice (some r) need newCap)) (VR C):=by
       intro E6 need ap ap' s6 hap;refine J3.bind' (J3.choose _) fun E9 s9 nc nc' hnc=>?_;obtain rfl:nc=nc':=hnc;refine J3.bind' (J3.typeInfo e) fun E10 s10 i i' hi=>?_;obtain ⟨rfl,_⟩:=hi;refine J3.bind' (R:=fun _ _ _=>True) ?_ fun E11 s11 _ _ _=>?_
       ·unfold Go.askRoom;split
        ·exact J3.mark trivial trivial
        ·exact .pure trivial
       have s16:Sub E1 E11:=((s6.trans s9).trans s10).trans s11;refine J3.bind' (J3.firstCells _ _ (hv.mono s16)) fun E12 s12 old old' hold=>?_;refine J3.bind' (hap E12 (((s9.trans s10).trans s11).trans s12)) fun E13 s13 nw nw' hnw=>?_;refine J3.bind' (J3.zeroValue K e) fun E14 s14 z z' hz=>?_;have hz:=AR.cells hz;exact J3.bind' (J3.newRow (hh.mono (((s16.trans s12).trans s13).trans s14)) e (((((hold.mono s13).append hnw)).mono s14).append (J68 hz _))) fun E15 s15 b b' hb=>.pure (.of_slice hb.1 _ _)
      cases ht1:t[1]? with
      | none=>
       refine J3.bind' (R:=fun _ n n'=>n=false/\n'=false) (.pure ⟨rfl,rfl⟩) fun E3 s3 z z' hz=>?_;obtain ⟨rfl,rfl⟩:=hz;have s13:Sub E1 E3:=s2.trans s3;simp only [Jc1,if_false,Bool.not_false,if_true,false_or];refine J3.bind' (J3.lenOf (hx.mono s13)) fun E4 s4 n n' hn=>?_;obtain rfl:n=n':=hn;have s14:Sub E1 E4:=s13.trans s4;split
       ·exact J3.bind' (J3.firstCells _ _ (hx.mono s14)) fun E5 s5 nw nw' hnw=>hst E5 _ _ _ (s14.trans s5) hnw
       ·refine J3.bind' (J3.typeInfo e) fun E5 s5 i i' hi=>?_;obtain ⟨rfl,_⟩:=hi;have s15:Sub E1 E5:=s14.trans s5;have ap:∀ E7,Sub E1 E7->J3 C ok E7 (Builtin.firstCells size n x) (Builtin.firstCells size n x') (AR C):=fun E7 s7=>J3.firstCells _ _ (hx.mono s7);split
        ·exact J3.bind' (R:=fun _ _ _=>False) (J3.runtimePanic (hh.mono s15) _) fun _ _ _ _ h=>h.elim
        ·refine J3.bind' (J3.typeInfo e) fun E6 s6 i i' hi=>?_;obtain ⟨rfl,_⟩:=hi;split
         ·exact J3.share fun b w=>by split<;>exact ⟨_,_,rfl,by simp⟩
         ·exact hgrow E6 _ _ _ (s15.trans s6) fun E7 s7=>ap E7 ((s15.trans s6).trans s7)
      | some t1=>
       refine J3.bind' (J3.underlying t1) fun E3' s3' u u' hu=>?_;obtain ⟨rfl,_⟩:=hu;refine J3.bind' (R:=fun _ n n'=>n=n') (.pure rfl) fun E3 s3 z z' hz=>?_;obtain rfl:z=z':=hz;have s13:Sub E1 E3:=(s2.trans s3').trans s3;cases z with
       | false=>
        simp only [Jc1,if_false,Bool.not_false,if_true,false_or];refine J3.bind' (J3.lenOf (hx.mono s13)) fun E4 s4 n n' hn=>?_;obtain rfl:n=n':=hn;have s14:Sub E1 E4:=s13.trans s4;split
        ·exact J3.bind' (J3.firstCells _ _ (hx.mono s14)) fun E5 s5 nw nw' hnw=>hst E5 _ _ _ (s14.trans s5) hnw
        ·refine J3.bind' (J3.typeInfo e) fun E5 s5 i i' hi=>?_;obtain ⟨rfl,_⟩:=hi;have s15:Sub E1 E5:=s14.trans s5;have ap:∀ E7,Sub E1 E7->J3 C ok E7 (Builtin.firstCells size n x) (Builtin.firstCells size n x') (AR C):=fun E7 s7=>J3.firstCells _ _ (hx.mono s7);split
         ·exact J3.bind' (R:=fun _ _ _=>False) (J3.runtimePanic (hh.mono s15) _) fun _ _ _ _ h=>h.elim
         ·refine J3.bind' (J3.typeInfo e) fun E6 s6 i i' hi=>?_;obtain ⟨rfl,_⟩:=hi;split
          ·exact J3.share fun b w=>by split<;>exact ⟨_,_,rfl,by simp⟩
          ·exact hgrow E6 _ _ _ (s15.trans s6) fun E7 s7=>ap E7 ((s15.trans s6).trans s7)
       | true=>
        have hzt:∀ E6 n,J3 C ok E6 (if (!true)=true then Builtin.firstCells size n x else if n*size=0 then Pure.pure #[] else do Pure.pure (Builtin.zeroCells (<- Go.zeroValue e).cells n)) (if (!true)=true then Builtin.firstCells size n x' else if n*size=0 then Pure.pure #[] else do Pure.pure (Builtin.zeroCells (<- Go.zeroValue e).cells n)) (AR C):=fun E6 n=>hz0 E6 n;rw [if_pos rfl,if_pos rfl];refine J3.bind' (J3.asInt (hx.mono s13)) fun E4 s4 l l' hl=>?_;obtain rfl:l=l':=hl;have s14:Sub E1 E4:=s13.trans s4;by_cases hl:IntKind.i64.wrap l<0
        ·rw [if_pos hl,if_pos hl];exact J3.bind' (R:=fun _ _ _=>False) (J3.runtimePanic (hh.mono s14) _) fun _ _ _ _ h=>h.elim
        ·rw [if_neg hl,if_neg hl];refine J3.bind' (J3.typeInfo e) fun E5 s5 i i' hi=>?_;obtain ⟨rfl,_⟩:=hi;have s15:Sub E1 E5:=s14.trans s5;by_cases hl2:IntKind.i64.wrap l*(i.bytes:Int) > 2 ^ 48
         ·rw [if_pos hl2,if_pos hl2];refine J3.bind' (J3.choose _) fun E6 s6 m m' hm=>?_;obtain rfl:m=m':=hm;exact J3.bind' (R:=fun _ _ _=>False) (J3.runtimePanic (hh.mono (s15.trans s6)) _) fun _ _ _ _ h=>h.elim
         ·rw [if_neg hl2,if_neg hl2];refine J3.bind' (R:=fun _ n n'=>n=n') (.pure rfl) fun E6 s6 n n' hn=>?_;obtain rfl:n=n':=hn;have s16:Sub E1 E6:=s15.trans s6;split
          ·exact J3.bind' (hzt E6 n) fun E7 s7 nw nw' hnw=>hst E7 _ _ _ (s16.trans s7) hnw
          ·refine J3.bind' (J3.typeInfo e) fun E7 s7 i i' hi=>?_;obtain ⟨rfl,_⟩:=hi;have s17:Sub E1 E7:=s16.trans s7;split
           ·exact J3.bind' (R:=fun _ _ _=>False) (J3.runtimePanic (hh.mono s17) _) fun _ _ _ _ h=>h.elim
           ·refine J3.bind' (J3.typeInfo e) fun E8 s8 i i' hi=>?_;obtain ⟨rfl,_⟩:=hi;split
            ·rw [if_pos rfl,if_pos rfl];exact J3.bind' (R:=fun _ _ _=>False) (J3.runtimePanic (hh.mono (s17.trans s8)) _) fun _ _ _ _ h=>h.elim
            ·exact hgrow E8 _ _ _ (s17.trans s8) fun E9 s9=>hzt E9 n
     ·cases s<;>first|exact .stuck _|exact absurd rfl (hno _ _ _)
    | _=>exact .stuck _
theorem J3.clear (K:J4y C) (t:Array TypeId) (ty:TypeId) {a a':Array Value} (ha:AR C E a a') (hsh:∀ r,a[0]?=some (.map (some r))->¬ C.Sh r):J3 C ok E (Builtin.clear_ t ty a) (Builtin.clear_ t ty a') (VR C):=by
 have fin:∀ E,J3 C ok E (Pure.pure (Value.tuple #[])) (Pure.pure (Value.tuple #[])) (VR C):=fun E=>.pure VR.undef;unfold Builtin.clear_;cases ht:t[0]? with
 | none=>exact .stuck _
 | some tt=>
  cases hx0:a[0]? with
  | none=>exact .stuck _
  | some x=>
   obtain ⟨x',hx',hv⟩:=ha.J04 hx0;rw [hx']
   dsimp only
   refine J3.bind' (J3.underlying tt) fun E1 s1 u u' hu=>?_;obtain ⟨rfl,_⟩:=hu;have hv:=hv.mono s1;cases hv with
   | J1n=>cases u<;>exact fin E1
   | Jo l c=>cases u<;>exact fin E1
   | map h=>
    have hs:=hsh _ hx0;have hm:J3 C ok E1 _ _ (VR C):=J3.J70 h "clear: map expected" (f:=fun es ck=>(do Go.setObj _ (.map #[] ck);Pure.pure (Value.tuple #[]))) (f':=fun es ck=>(do Go.setObj _ (.map #[] ck);Pure.pure (Value.tuple #[]))) fun E2 s2 es es' ck _=>J3.bind' (J3.setObj (s2 _ _ h) hs ⟨#[],rfl,.nil⟩ (by simp)) fun E3 _ _ _ _=>fin E3;cases u<;>exact hm
   | slice o s l c h=>
    cases l with
    | zero=>cases u<;>exact fin E1
    | succ l=>
     cases u with
     | slice e=>
      refine J3.bind' (J3.zeroValue K e) fun E2 s2 z z' hz=>?_;exact J3.bind' (J3.storeCells _ _ 0 _ (a:=⟨_,o,s⟩) (a':=⟨_,o,s⟩) ⟨s2 _ _ h,rfl,rfl⟩ (J68 (AR.cells hz) _).toList) fun E3 _ _ _ _=>fin E3
     | _=>exact .Jf fun w=>⟨_,w,rfl,by simp⟩
   | _=>cases u<;>exact .Jf fun w=>⟨_,w,rfl,by simp⟩
end
section
variable {C:Cx} {ok:FuncId->Code->Prop} {E:J5}
inductive J4z (C:Cx) (E:J5):Place->Place->Prop
 | val {v v'} (h:VR C E v v'):J4z C E (.val v) (.val v')
 | var {a a'} (h:Jd E a a'):J4z C E (.var a) (.var a')
theorem J4z.mono {E1:J5} (s:Sub E E1) {p p':Place} (h:J4z C E p p'):J4z C E1 p p':=by
 cases h with
 | val h=>exact .val (h.mono s)
 | var h=>exact .var (h.mono s)
theorem J3.get (t:TypeId) {p p':Place} (h:J4z C E p p'):J3 C ok E (p.get t) (p'.get t) (VR C):=by
 cases h with
 | val h=>exact .pure h
 | var h=>exact J3.loadVar t h
theorem J3.follow:∀ (l:List FieldStep) (t:TypeId) (E:J5),Hnd C E->∀ {p p':Place},J4z C E p p'->J3 C ok E (Go.follow l t p) (Go.follow l t p') (fun E1 q q'=>q.1=q'.1/\J4z C E1 q.2 q'.2)
 | [],t,E,_,_,_,h=>.pure ⟨rfl,h⟩
 | s::l,t,E,hh,p,p',h=>by
  unfold Go.follow;refine J3.bind' (J3.underlying _) fun E1 s1 u u' hu=>?_;obtain ⟨rfl,_⟩:=hu;cases u with
  | struct fs=>
   dsimp only
   cases hf:fs[s.index]? with
   | none=>exact .stuck _
   | some f=>
    dsimp only
    split
    ·refine J3.bind' (J3.get t (h.mono s1)) fun E2 s2 v v' hv=>?_;refine J3.bind' (J3.asAddr ((hh.mono s1).mono s2) hv) fun E3 s3 a a' ha=>?_;exact J3.bind' (J3.fieldPlace ha f) fun E4 s4 b b' hb=>J3.follow l f.type _ ((((hh.mono s1).mono s2).mono s3).mono s4) (.var hb)
    ·cases h with
     | var h=>exact J3.bind' (J3.fieldPlace (h.mono s1) f) fun E4 s4 b b' hb=>J3.follow l f.type _ ((hh.mono s1).mono s4) (.var hb)
     | val h=>
      have h:=h.mono s1;cases h with
      | agg ha hx=>exact J3.bind' (J3.part f.type ⟨ha,hx⟩ _) fun E4 s4 b b' hb=>J3.follow l f.type _ ((hh.mono s1).mono s4) (.val hb)
      | _=>exact .stuck _
  | _=>exact .stuck _
theorem J3.wrapNil (hh:Hnd C E) (ts:Array TypeId) (t:TypeId) {v v':Value} (h:VR C E v v') (a b:String):J3 C ok E (Builtin.ssaWrapNilChk_ ts t #[v,strVal a,strVal b]) (Builtin.ssaWrapNilChk_ ts t #[v',strVal a,strVal b]) (VR C):=by
 unfold Builtin.ssaWrapNilChk_;cases h<;>first
  | exact .stuck _
  | exact .pure (.ptr _ _ (by assumption))
  | skip
 refine J3.bind' (J3.choose _) fun E0 s0 n n' hn=>?_;obtain rfl:n=n':=hn;have hh:=hh.mono s0
 dsimp only
 split
 ·exact J3.bind' (R:=fun _ _ _=>False) (J3.runtimePanic hh _) fun _ _ _ _ h=>h.elim
 ·cases h0:ts[0]? with
  | none=>exact .stuck _
  | some pt=>
   refine J3.bind' (J3.underlying _) fun E1 s1 u u' hu=>?_;obtain ⟨rfl,_⟩:=hu;cases u with
   | pointer e=>
    refine J3.bind' (J3.typeInfo _) fun E2 s2 i i' hi=>?_;obtain ⟨rfl,_⟩:=hi;split
    ·split
     ·split
      ·exact J3.runtimePanic ((hh.mono s1).mono s2) _
      ·exact .unsupported _
     ·exact .stuck _
    ·exact .stuck _
   | _=>exact .stuck _
theorem J3.receiverAt (hh:Hnd C E) (t:TypeId) {p p':Place} (h:J4z C E p p') (b:Bool) (o:Option String):J3 C ok E (Go.receiverAt t p b o) (Go.receiverAt t p' b o) (VR C):=by
 unfold Go.receiverAt;refine J3.bind' (J3.underlying _) fun E1 s1 u u' hu=>?_;obtain ⟨rfl,_⟩:=hu;have h:=h.mono s1;have hh:=hh.mono s1;have Jwx:∀ e,J3 C ok E1 (do
   let ptr <- p.get t
   match o with
   | some name=>do
    let ptr <- Builtin.ssaWrapNilChk_ #[t] t #[ptr,strVal "",strVal name]
    Go.loadVar e (<- Go.asAddr ptr)
   | none=>do
    let ptr <- Pure.pure ptr
    Go.loadVar e (<- Go.asAddr ptr)) (do
   let ptr <- p'.get t
   match o with
   | some name=>do
    let ptr <- Builtin.ssaWrapNilChk_ #[t] t #[ptr,strVal "",strVal name]
    Go.loadVar e (<- Go.asAddr ptr)
   | none=>do
    let ptr <- Pure.pure ptr
    Go.loadVar e (<- Go.asAddr ptr)) (VR C):=fun e=>by
  refine J3.bind' (J3.get t h) fun E2 s2 v v' hv=>?_;have fin:∀ E3,Sub E2 E3->∀ {v v':Value},VR C E3 v v'->J3 C ok E3 (do Go.loadVar e (<- Go.asAddr v)) (do Go.loadVar e (<- Go.asAddr v')) (VR C):=fun E3 s3 {v v'} hv=>
   J3.bind' (J3.asAddr ((hh.mono s2).mono s3) hv) fun E4 s4 a a' ha=>J3.loadVar e ha
  cases o with
  | none=>exact J3.bind' (R:=VR C) (.pure hv) fun E3 s3 v v' hv=>fin E3 s3 hv
  | some nm=>exact J3.bind' (J3.wrapNil (hh.mono s2) _ _ hv _ _) fun E3 s3 v v' hv=>fin E3 s3 hv
 cases u<;>cases b<;>first
  | exact J3.get t h
  | exact Jwx _
  | (cases h;exact .stuck _;exact .pure (.J3w (by assumption)))
theorem J3.method (K:J4y C):∀ (n:Nat) (t:TypeId) (E:J5),C.J2k t=true->Hnd C E->∀ {v v':Value} (name:String),C.ms.contains name=true->VR C E v v' ->
  J3 C ok E (Go.method n t v name) (Go.method n t v' name) (fun E1 q q'=>q.1=q'.1/\C.F q.1/\VR C E1 q.2 q'.2)
 | 0,_,_,_,_,_,_,_,_,_=>.unsupported _
 | n+1,t,E,ht,hh,v,v',name,hn,hv=>by
  unfold Go.method;refine J3.bind' (J3.typeInfo _) fun E1 s1 i i' hi=>?_;obtain ⟨rfl,hi⟩:=hi;cases hm:i.methods.find? (·.name == name) with
  | none=>exact .stuck _
  | some m=>
   dsimp only
   refine J3.bind' (J3.follow m.path.toList t _ (hh.mono s1) (.val (hv.mono s1))) fun E2 s2 q q' hq=>?_;obtain ⟨xt,x⟩:=q;obtain ⟨xt',x'⟩:=q';obtain ⟨h1,h2⟩:=hq;obtain rfl:xt=xt':=h1;have hh2:=(hh.mono s1).mono s2
   dsimp only
   cases hf:m.func with
   | none=>
    refine J3.bind' (J3.get xt h2) fun E3 s3 v v' hv=>?_;cases hv with
    | iface t' ht' h=>exact J3.method K n _ _ ht' (hh2.mono s3) name hn h
    | nilIface=>exact J3.runtimePanic (hh2.mono s3) _
    | _=>exact .stuck _
   | some fp=>
    obtain ⟨f,p⟩:=fp;refine J3.bind' (J3.receiverAt hh2 xt h2 p _) fun E3 s3 v v' hv=>?_;exact .pure ⟨rfl,K.meth t i m f p ht hi (Array.mem_of_find?_eq_some hm) (by have:=Array.find?_some hm;simp only [beq_iff_eq] at this;rw [this];exact hn) hf,hv⟩
inductive Jat (C:Cx) (ok:FuncId->Code->Prop) (Ent:FuncId->Array Value->Prop) (E:J5):Next->Next->Prop
 | value {v v'} (h:VR C E v v'):Jat C ok Ent E (.value v) (.value v')
 | skip:Jat C ok Ent E .skip .skip
 | enter {f a a'} (h:AR C E a a') (hf:Ent f a):Jat C ok Ent E (.enter f a) (.enter f a')
 | round {l l' f t t' aS bd} (h:E l l') (ht:HR C E f t t') (h1:ok f aS) (h2:ok f bd):Jat C ok Ent E (.round l f t aS bd) (.round l' f t' aS bd)
def J0k (C:Cx) (f:FuncId):Prop:=∃ fn,C.P.funcs[f]?=some fn/\fn.body.isSome=true/\(fn.name == "runtime.NumGoroutine")=false
theorem J3.callFunc {f:FuncId} (hf:J0k C f) {a a':Array Value} (ha:AR C E a a'):J3 C ok E (Go.callFunc f a) (Go.callFunc f a') (fun E1 x x'=>x=.enter f a/\x'=.enter f a'/\AR C E1 a a'):=by
 obtain ⟨fn,h1,h2,h3⟩:=hf;unfold Go.callFunc;refine J3.bind' (R:=fun _ p p'=>p=C.P/\p'=C.P) (.program ⟨rfl,rfl⟩) fun E1 s1 p p' hp=>?_;obtain ⟨rfl,rfl⟩:=hp;rw [h1]
 dsimp only
 have h4:fn.body.isNone=false:=by cases h:fn.body<;>simp_all
 simp only [h3,h4,Jc1,if_false];exact .pure ⟨rfl,rfl,ha.mono s1⟩
theorem J3.callMethod (K:J4y C) (hh:Hnd C E) (hb:∀ f,C.F f->J0k C f) {v v':Value} (hv:VR C E v v') (name:String) (hn:C.ms.contains name=true) {a a':Array Value} (ha:AR C E a a') :
  J3 C ok E (Go.callMethod v name a) (Go.callMethod v' name a') (fun E1 x x'=>∃ f b b',C.F f/\x=.enter f b/\x'=.enter f b'/\AR C E1 b b'/\b.size=a.size+1):=by
 unfold Go.callMethod;cases hv with
 | iface t ht h=>
  refine J3.bind' (R:=fun _ p p'=>p=C.P/\p'=C.P) (.program ⟨rfl,rfl⟩) fun E1 s1 p p' hp=>?_;obtain ⟨rfl,rfl⟩:=hp;refine J3.bind' (J3.method K _ _ _ ht (hh.mono s1) name hn (h.mono s1)) fun E2 s2 q q' hq=>?_;obtain ⟨f,r⟩:=q;obtain ⟨f',r'⟩:=q';obtain ⟨h1,h2,h3⟩:=hq;obtain rfl:f=f':=h1;exact (J3.callFunc (hb f h2) (AR.append (AR.one h3) ((ha.mono s1).mono s2))).mono fun E3 x x' s3 hx=>⟨f,_,_,h2,hx.1,hx.2.1,hx.2.2,by simp;omega⟩
 | nilIface=>exact J3.runtimePanic hh _
 | _=>exact .stuck _
theorem J3.yield {Ent:FuncId->Array Value->Prop} {l l':Nat} (h:E l l') {a a':Array Value} (ha:AR C E a a'):J3 C ok E (Instr.yield l a) (Instr.yield l' a') (Jat C ok Ent):=by
 unfold Instr.yield Instr.getLoop;refine J3.bind' (J3.bind' (J3.getObj h) (R2:=fun E1 r r'=>J8m C ok E1 r r') fun E1 s1 o o' ho=>?_) fun E1 s1 r r' hr=>?_
 ·obtain ⟨h3,_⟩:=ho;cases o with
  | loop r=>obtain ⟨_,r',rfl,hr⟩:=h3;exact .pure hr
  | _=>exact .stuck _
 ·rw [show a'.size=a.size from ha.size.symm,show r'.params=r.params from hr.params.symm]
  dsimp only
  split
  ·exact .Jf fun w=>⟨_,w,rfl,by simp⟩
  ·refine .pure ?_;have hfold:∀ (ps:List Tmp) (l l':List Value) (t t':Array Value),LR C E1 l l'->HR C E1 r.fn t t'->HR C E1 r.fn ((ps.zip l).foldl (fun tmps (p:Tmp × Value)=>tmps.setIfInBounds p.1 p.2) t) ((ps.zip l').foldl (fun tmps (p:Tmp × Value)=>tmps.setIfInBounds p.1 p.2) t'):=by
    intro ps
    induction ps with
    | nil=>intro l l' t t' _ ht;simpa using ht
    | cons p ps ih=>
     intro l l' t t' hl ht;cases hl with
     | nil=>simpa using ht
     | cons hv hl=>simp only [List.zip_cons_cons,List.foldl_cons];exact ih _ _ _ _ hl (ht.set p hv)
   have hf:=hfold r.params.toList a.toList a'.toList r.tmps r'.tmps (ha.mono s1).toList hr.tmps;rw [<- hr.fn,<- hr.assign,<- hr.body];refine .round (s1 _ _ h) ?_ hr.ok1 hr.ok2;simp only [<- Array.foldl_toList,Array.toList_zip];exact hf
end
section
variable {C:Cx} {ok:FuncId->Code->Prop} {E:J5} {α α':Type}
theorem J3.J4u {s:Sem α} {s':Sem α'} {R:J5->α->α'->Prop}
  (h:∀ w w',WR C ok E w w'->(∃ x w1,s.run C.P w=.halt x w1/\Dead x)\/∃ t t',J3 C ok E t t' R/\s.run C.P w=t.run C.P w/\s'.run C.P w'=t'.run C.P w'/\s'.events C.P w' #[]=t'.events C.P w' #[]):J3 C ok E s s' R:=by
 intro L w w' hw;rcases h w w' hw.toWR with ⟨x,w1,hx,hd⟩|⟨t,t',ht,h1,h2,h3⟩
 ·exact .inr (J3.J7z hx hd)
 ·have:=ht L w w' hw;rw [<- h1,<- h2,<- h3] at this;exact this
def J1o (w:World) (a:Addr):Bool:=w.frozen? a || (match w.shape? a.block with|some (_,n)=>w.frozen? ⟨a.block,n,none⟩|none=>false)
def Jcu (w:World) (a:Addr):Bool:=match w.shape? a.block with|some (_,0)=>true|_=>false
def mbF (w:World) (a b:Addr):Bool:=(J1o w a && J1o w b) || (J1o w a && Jcu w a) || (J1o w b && Jcu w b)
theorem J99 (P:Program) (w:World) (a:Addr):(Go.stringish a).run P w=.ok (J1o w a) w/\∀ es,(Go.stringish a).events P w es=es:=by
 unfold Go.stringish J1o;cases h1:w.frozen? a with
 | true=>exact ⟨by simp [run_frozen,h1],fun es=>by simp [run_frozen,h1]⟩
 | false=>
  cases h2:w.shape? a.block with
  | none=>exact ⟨by simp [run_frozen,run_shape,h1,h2],fun es=>by simp [run_frozen,run_shape,h1,h2]⟩
  | some p=>exact ⟨by simp [run_frozen,run_shape,h1,h2],fun es=>by simp [run_frozen,run_shape,h1,h2]⟩
theorem J71 (P:Program) (w:World) (a b:Addr):(Go.mayBeOne a b).run P w=.ok (mbF w a b) w/\∀ es,(Go.mayBeOne a b).events P w es=es:=by
 unfold Go.mayBeOne;obtain ⟨a1,a2⟩:=J99 P w a;obtain ⟨b1,b2⟩:=J99 P w b;refine ⟨?_,fun es=>?_⟩
 ·simp [Sem.run_bind,a1,b1,run_shape,mbF,Jcu,Result.andThen];cases h1:w.shape? a.block<;>cases h2:w.shape? b.block<;>rfl
 ·simp [a1,b1,a2,b2,run_shape]
theorem J2l (P:Program) (w:World) (a:Addr):(Go.noView a).run P w=.ok () w\/∃ x,(Go.noView a).run P w=.halt x w:=by
 unfold Go.noView Go.viewAt;cases h:w.shape? a.block with
 | some p=>exact .inl (by simp [run_shape,h])
 | none=>
  cases ho:w.heap[a.block]? with
  | none=>
   refine .inr ⟨?_,?_⟩
   rotate_left
   ·simp only [Sem.run_bind,run_shape,h,Go.getObj,Sem.run,ho,Result.andThen,Option.isSome_none,Jc1,if_false];rfl
  | some o=>
   cases o with
   | cells c el fz=>simp [World.shape?,ho] at h
   | view at_ u=>exact .inr ⟨.unsupported (.unsafePointer "memory seen as another type"),by simp [run_shape,h,Go.getObj,Sem.run,ho,Result.andThen,Go.unsupported]⟩
   | _=>exact .inl (by simp [run_shape,h,Go.getObj,Sem.run,ho,Result.andThen])
theorem J9j {β:Type} {P:Program} {w:World} {x y:Sem Unit} {m:Sem Bool} {v:Bool} {k:Bool->Sem β} (hx:x.run P w=.ok () w\/∃ h,x.run P w=.halt h w) (hy:y.run P w=.ok () w\/∃ h,y.run P w=.halt h w)
  (hm:m.run P w=.ok v w/\∀ es,m.events P w es=es):(do x;y;let b <- m;k b:Sem β).run P w=(do x;y;k v:Sem β).run P w/\(do x;y;let b <- m;k b:Sem β).events P w #[]=(do x;y;k v:Sem β).events P w #[]:=by
 rcases hx with hx|⟨h,hx⟩
 ·rcases hy with hy|⟨h,hy⟩
  ·exact ⟨by simp [Sem.run_bind,hx,hy,hm.1,Result.andThen],by simp [hx,hy,hm.1,hm.2]⟩
  ·exact ⟨by simp [Sem.run_bind,hx,hy,Result.andThen],by simp [hx,hy]⟩
 ·exact ⟨by simp [Sem.run_bind,hx,Result.andThen],by simp [hx]⟩
theorem WR.Jg1 {w w':World} (hw:WR C ok E w w') (hst:C.st=true) {a a':Addr} (h:Jd E a a'):w'.frozen? a'=false/\J1o w' a'=false/\(J1o w a=true->w.frozen? a=true/\Jcu w a=false):=by
 obtain ⟨b,o,s⟩:=a;obtain ⟨b',o',s'⟩:=a';obtain ⟨h1,h2,h3⟩:=h;simp only at h1 h2 h3;subst h2;subst h3;obtain ⟨x,x',e1,e2,e3⟩:=hw.get h1;cases x with
 | cells c el fz=>
  obtain ⟨c',fz',rfl,h4,h5,h6⟩:=e3;have hf:fz'=(0,0):=by
   by_cases hs:C.Sh b
   ·exact (h5 hs).2
   ·rw [(h6 hs).1];exact (h6 hs).2 hst
  subst hf;refine ⟨by simp [World.frozen?,e2],by simp [J1o,World.frozen?,World.shape?,e2],fun hstr=>?_⟩;by_cases hs:C.Sh b
  ·obtain ⟨rfl,_⟩:=h5 hs;simp [J1o,World.frozen?,World.shape?,e1] at hstr;refine ⟨by simp [World.frozen?,e1,hstr],?_⟩;simp only [Jcu,World.shape?,e1];split
   ·rename_i heq;simp only [Jb2,Prod.mk.injEq] at heq;omega
   ·rfl
  ·have:=(h6 hs).2 hst;subst this;simp [J1o,World.frozen?,World.shape?,e1] at hstr
 | map es ck=>obtain ⟨es',rfl,_⟩:=e3;exact ⟨by simp [World.frozen?,e2],by simp [J1o,World.frozen?,World.shape?,e2],fun h=>by simp [J1o,World.frozen?,World.shape?,e1] at h⟩
 | mapIter m a b c=>obtain ⟨_,m',rfl,_⟩:=e3;exact ⟨by simp [World.frozen?,e2],by simp [J1o,World.frozen?,World.shape?,e2],fun h=>by simp [J1o,World.frozen?,World.shape?,e1] at h⟩
 | stringIter a b=>obtain ⟨_,rfl⟩:=e3;exact ⟨by simp [World.frozen?,e2],by simp [J1o,World.frozen?,World.shape?,e2],fun h=>by simp [J1o,World.frozen?,World.shape?,e1] at h⟩
 | loop l=>obtain ⟨_,m',rfl,_⟩:=e3;exact ⟨by simp [World.frozen?,e2],by simp [J1o,World.frozen?,World.shape?,e2],fun h=>by simp [J1o,World.frozen?,World.shape?,e1] at h⟩
 | deferred l=>obtain ⟨_,m',rfl,_⟩:=e3;exact ⟨by simp [World.frozen?,e2],by simp [J1o,World.frozen?,World.shape?,e2],fun h=>by simp [J1o,World.frozen?,World.shape?,e1] at h⟩
 | number a l=>obtain ⟨_,m',rfl,_⟩:=e3;exact ⟨by simp [World.frozen?,e2],by simp [J1o,World.frozen?,World.shape?,e2],fun h=>by simp [J1o,World.frozen?,World.shape?,e1] at h⟩
 | _=>exact e3.elim
theorem WR.Jcv {w w':World} (hw:WR C ok E w w') {a a' b b':Addr} (h:Jd E a a') (k:Jd E b b'):(a'.block == b'.block)=(a.block == b.block):=by
 by_cases e:a.block=b.block
 ·have:a'.block=b'.block:=hw.fn _ _ _ h.block (e▸k.block);simp [e,this]
 ·have:a'.block≠b'.block:=fun e'=>e (hw.inj _ _ _ h.block (e'▸k.block));rw [beq_eq_false_iff_ne.2 this,beq_eq_false_iff_ne.2 e]
def J1h (a b:Addr) (la lb size:Nat) (fa fb:Bool):Sem Value:=
 if a.block != b.block && fa && fb then Go.unsupported .addressObserved
 else if a.block != b.block then do
  Go.noView a;Go.noView b
  let m <- Go.mayBeOne a b
  if m then do let n <- Go.choose (.extern "sameAddr.stringBytes" 2);Pure.pure (.bool (n == 1))
  else Pure.pure (.bool (a.block == b.block && a.off<b.off+lb*size && b.off<a.off+la*size))
 else Pure.pure (.bool (a.block == b.block && a.off<b.off+lb*size && b.off<a.off+la*size))
theorem J3.J1h {a a' b b':Addr} (h:Jd E a a') (k:Jd E b b') (la lb size:Nat):J3 C ok E (do let fa <- Go.frozen a;let fb <- Go.frozen b;J1h a b la lb size fa fb) (do let fa <- Go.frozen a';let fb <- Go.frozen b';Sim.J1h a' b' la lb size fa fb) (VR C):=by
 cases hst:C.st with
 | false=>
  have hl:=C.lax hst;refine J3.J6z fun w w' hw=>?_;have hb:=hw.Jcv h k;refine J3.bind' (J3.frozen h (hl _)) fun E1 s1 x x' hx=>?_;obtain rfl:x=x':=hx;refine J3.bind' (J3.frozen (k.mono s1) (hl _)) fun E2 s2 y y' hy=>?_;obtain rfl:y=y':=hy;have h2:=(h.mono s1).mono s2;have k2:=(k.mono s1).mono s2;unfold Sim.J1h;simp only [bne,hb,h.off,k.off];split
  ·exact .unsupported _
  ·split
   ·refine J3.bind' (J3.noView h2) fun E3 s3 _ _ _=>J3.bind' (J3.noView (k2.mono s3)) fun E4 s4 _ _ _=>J3.bind' (J3.mayBeOne ((h2.mono s3).mono s4) ((k2.mono s3).mono s4) hst) fun E5 s5 m m' hm=>?_;obtain rfl:m=m':=hm;split
    ·refine J3.bind' (J3.choose _) fun E6 s6 n n' hn=>?_;obtain rfl:n=n':=hn;exact .pure (.bool _)
    ·exact .pure (.bool _)
   ·exact .pure (.bool _)
 | true=>
  refine J3.J4u fun w w' hw=>?_;have hb:=hw.Jcv h k;obtain ⟨a1,a2,a3⟩:=hw.Jg1 hst h;obtain ⟨b1,b2,b3⟩:=hw.Jg1 hst k;have r1:(do let fa <- Go.frozen a;let fb <- Go.frozen b;Sim.J1h a b la lb size fa fb:Sem Value).run C.P w=(Sim.J1h a b la lb size (w.frozen? a) (w.frozen? b)).run C.P w:=by simp [Sem.run_bind,run_frozen,Result.andThen]
  have r2:(do let fa <- Go.frozen a';let fb <- Go.frozen b';Sim.J1h a' b' la lb size fa fb:Sem Value).run C.P w'=(Sim.J1h a' b' la lb size false false).run C.P w':=by simp [Sem.run_bind,run_frozen,Result.andThen,a1,b1]
  have r3:(do let fa <- Go.frozen a';let fb <- Go.frozen b';Sim.J1h a' b' la lb size fa fb:Sem Value).events C.P w' #[]=(Sim.J1h a' b' la lb size false false).events C.P w' #[]:=by simp [run_frozen,a1,b1]
  by_cases hne:(a.block != b.block)=true
  ·have hne':(a'.block != b'.block)=true:=by simp only [bne,hb];exact hne
   have hbf:(a.block == b.block)=false:=by simpa [bne] using hne
   by_cases hff:w.frozen? a=true/\w.frozen? b=true
   ·refine .inl ⟨.unsupported .addressObserved,w,?_,by simp⟩;rw [r1];unfold Sim.J1h;simp [hne,hff.1,hff.2,Go.unsupported]
   ·have hm:mbF w a b=false:=by
     unfold mbF;cases ea:J1o w a with
     | false=>
      cases eb:J1o w b with
      | false=>rfl
      | true=>simp [(b3 eb).2]
     | true=>
      cases eb:J1o w b with
      | false=>simp [(a3 ea).2]
      | true=>exact absurd ⟨(a3 ea).1,(b3 eb).1⟩ hff
    have hm':mbF w' a' b'=false:=by simp [mbF,a2,b2]
    have hc:(a.block != b.block && w.frozen? a && w.frozen? b)=false:=by cases e1:w.frozen? a<;>cases e2:w.frozen? b<;>simp_all
    refine .inr ⟨(do Go.noView a;Go.noView b;Pure.pure (.bool false)),(do Go.noView a';Go.noView b';Pure.pure (.bool false)),?_,?_,?_,?_⟩
    ·exact J3.bind' (J3.noView h) fun E3 s3 _ _ _=>J3.bind' (J3.noView (k.mono s3)) fun E4 s4 _ _ _=>.pure (.bool _)
    ·rw [r1];unfold Sim.J1h;rw [hc];simp only [Jc1,if_false,hne,if_true];have q:=J71 C.P w a b;rw [hm] at q;rw [(J9j (J2l C.P w a) (J2l C.P w b) q).1];simp [hbf]
    ·rw [r2];unfold Sim.J1h;simp only [Bool.and_false,Jc1,if_false,hne',if_true];have q:=J71 C.P w' a' b';rw [hm'] at q;rw [(J9j (J2l C.P w' a') (J2l C.P w' b') q).1];simp [hb,hbf]
    ·rw [r3];unfold Sim.J1h;simp only [Bool.and_false,Jc1,if_false,hne',if_true];have q:=J71 C.P w' a' b';rw [hm'] at q;rw [(J9j (J2l C.P w' a') (J2l C.P w' b') q).2];simp [hb,hbf]
  ·have hne2:(a.block != b.block)=false:=by simpa using hne
   have hne':(a'.block != b'.block)=false:=by simp only [bne,hb];exact hne2
   refine .inr ⟨Pure.pure (.bool (a.block == b.block && a.off<b.off+lb*size && b.off<a.off+la*size)),Pure.pure (.bool (a.block == b.block && a.off<b.off+lb*size && b.off<a.off+la*size)),.pure (.bool _),?_,?_,?_⟩
   ·rw [r1];unfold Sim.J1h;simp [hne2]
   ·rw [r2];unfold Sim.J1h;simp only [hne',hb,h.off,k.off];simp
   ·rw [r3];unfold Sim.J1h;simp [hne']
theorem J3.overlaps (ps rs:Array TypeId) {x x' y y':Value} (hx:VR C E x x') (hy:VR C E y y'):J3 C ok E (Go.Extern.SlicesOverlaps.overlaps ps rs #[x,y]) (Go.Extern.SlicesOverlaps.overlaps ps rs #[x',y']) (VR C):=by
 have key:∀ {a a' b b':Option Addr} (la ca lb cb:Nat),J0m (Jd E) a a'->J0m (Jd E) b b'->J3 C ok E (Go.Extern.SlicesOverlaps.overlaps ps rs #[.slice a la ca,.slice b lb cb]) (Go.Extern.SlicesOverlaps.overlaps ps rs #[.slice a' la ca,.slice b' lb cb]) (VR C):=by
  intro a a' b b' la ca lb cb h k;unfold Go.Extern.SlicesOverlaps.overlaps
  dsimp only
  cases hp:ps[0]? with
  | none=>exact J3.Jf fun w=>⟨_,w,rfl,by simp⟩
  | some t=>
   dsimp only
   refine J3.bind' (J3.underlying t) fun E1 s1 u u' hu=>?_;obtain ⟨rfl,hu⟩:=hu;cases u with
   | slice el=>
    dsimp only
    refine J3.bind' (J3.sizeOf el) fun E2 s2 n n' hn=>?_;obtain rfl:n=n':=hn;cases a with
    | none=>cases a' with
     | some _=>exact h.elim
     | none=>exact .pure (.bool false)
    | some a=>cases a' with
     | none=>exact h.elim
     | some a'=>
      cases b with
      | none=>cases b' with
       | some _=>exact k.elim
       | none=>exact .pure (.bool false)
      | some b=>cases b' with
       | none=>exact k.elim
       | some b'=>
        dsimp only
        split
        ·exact .pure (.bool false)
        ·exact J3.J1h ((h:Jd E a a').mono (s1.trans s2)) ((k:Jd E b b').mono (s1.trans s2)) la lb n
   | _=>exact J3.Jf fun w=>⟨_,w,rfl,by simp⟩
 cases hx with
 | Jo l c=>cases hy with
  | Jo l2 c2=>exact key l c l2 c2 (a:=none) (a':=none) (b:=none) (b':=none) trivial trivial
  | slice o s l2 c2 h=>exact key l c l2 c2 (a:=none) (a':=none) (b:=some ⟨_,o,s⟩) (b':=some ⟨_,o,s⟩) trivial ⟨h,rfl,rfl⟩
  | _=>exact J3.Jf fun w=>⟨_,w,rfl,by simp⟩
 | slice o s l c h=>cases hy with
  | Jo l2 c2=>exact key l c l2 c2 (a:=some ⟨_,o,s⟩) (a':=some ⟨_,o,s⟩) (b:=none) (b':=none) ⟨h,rfl,rfl⟩ trivial
  | slice o2 s2 l2 c2 h2=>exact key l c l2 c2 (a:=some ⟨_,o,s⟩) (a':=some ⟨_,o,s⟩) (b:=some ⟨_,o2,s2⟩) (b':=some ⟨_,o2,s2⟩) ⟨h,rfl,rfl⟩ ⟨h2,rfl,rfl⟩
  | _=>exact J3.Jf fun w=>⟨_,w,rfl,by simp⟩
 | _=>cases hy<;>exact J3.Jf fun w=>⟨_,w,rfl,by simp⟩
end
end Go.Sim
