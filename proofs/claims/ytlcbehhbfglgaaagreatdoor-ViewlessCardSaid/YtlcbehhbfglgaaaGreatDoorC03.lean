/- Proved: laws for the claim. No conditions. -/
import Derived.Test.YtlcbehhbfglgaaaGreatDoorC02
set_option linter.all false
namespace Go.Sim
section
variable{C:Cx}{ok:JG->Code->Prop}{E:J5}
def Looks(P:Program){α:Type}(s:Sem α):Prop:=∀w:JE,∃b,s.run P w=.ok b w
theorem Looks.bind{P:Program}{α β:Type}{s:Sem α}{f:α->Sem β}(h:Looks P s)(k:∀a,Looks P (f a)):Looks P (s >>= f):=λw=>by
 obtain⟨a,ha⟩:=h w;obtain⟨b,hb⟩:=k a w
 simp_all
theorem Looks.pure{P:Program}{α:Type}(a:α):Looks P (Pure.pure a:Sem α):=λw=>⟨a,rfl⟩
theorem Looks.shape{P:Program}(r:Nat):Looks P (Go.shape r):=λw=>⟨_,run_shape _ _ _⟩
theorem Looks.frozen{P:Program}(r:Addr):Looks P (Go.frozen r):=λw=>⟨_,run_frozen _ _ _⟩
theorem Looks.holdsCells{P:Program}(a:Addr)(n:Nat):Looks P (Builtin.holdsCells a n):=by
 unfold Builtin.holdsCells
 grind[bind,shape,pure]
def Looks.mayShare{P:Program}(size EL n:Nat)(base:JI)(x:JJ):Looks P (Builtin.mayShare size EL n base x):=by
 unfold Builtin.mayShare
 dsimp only
 have fin:∀there:Bool,Looks P (if !there then Pure.pure true else match x with| .slice (some b) _ _=>do Pure.pure (!(<- Builtin.holdsCells b (n*size)) || base.any (·.block == b.block))|_=>Pure.pure false:Sem Bool):=λthere=>by
  grind[pure,bind,holdsCells]
 grind[bind,pure,holdsCells,frozen]
def J3.share{α:Type}{R:J5->JJ->JJ->Prop}{size EL n:Nat}{base:JI}{x:JJ}{f:Bool->Sem α}{g:α->Sem JJ}{s':Sem JJ}(hf:∀b w,∃h w1,(f b).run C.P w=.halt h w1/\Dead h) :
  J3 C ok E ((Builtin.mayShare size EL n base x >>= f) >>= g) s' R:=.Jg λw=>by
 obtain⟨b,hb⟩:=Looks.mayShare (P:=C.P) size EL n base x w;obtain⟨h,w1,h1,h2⟩:=hf b w
 simp_all
set_option maxHeartbeats 1000000 in
def J3.append(K:Ov C)(hh:Hnd C E)(t:Array JH)(ty:JH){a a':JC}(ha:AR C E a a'):J3 C ok E (Builtin.append_ t ty a) (Builtin.append_ t ty a') (VR C):=by
 unfold Builtin.append_;cases ht:t[0]? with
 |none=>exact .stuck _
 |some tt=>
  cases MN:a[0]? with
  |none=>exact .stuck _
  |some s=>
   obtain⟨s',Af,hv⟩:=ha.Ec MN;rw[Af];cases hy:a[1]? with
   |none=>exact .stuck _
   |some x=>
    obtain⟨x',DC,hw⟩:=ha.Ec hy;rw[DC];refine J3.bind' (J3.underlying tt) λE1 s1 u u' hu=>?_;obtain⟨rfl,_⟩:=hu;have hv:=hv.mono s1;have hx:=hw.mono s1;have hh:=hh.mono s1;cases u with
    |slice e=>
     have FH:(∃base AO EL F7,s=.slice base EL F7/\s'=.slice AO EL F7/\Di (Jc E1) base AO)\/∀b l c,s≠.slice b l c:=by
      cases hv with
      |Jk l c=>exact .inl ⟨none,none,l,c,rfl,rfl,trivial⟩
      |slice o q l c h=>exact .inl ⟨some _,some _,l,c,rfl,rfl,⟨h,rfl,rfl⟩⟩
      |_=>grind
     rcases FH with⟨base,AO,EL,F7,rfl,rfl,hb⟩|D7
     .refine J3.bind' (J3.sizeOf e) λE2 s2 size z' hz=>?_;obtain rfl:size=z':=hz;have fin:∀E6 m,Sub E1 E6->J3 C ok E6 (Pure.pure (Value.slice base m F7)) (Pure.pure (Value.slice AO m F7)) (VR C):=λE6 m s6=>by
       refine .pure ?_;cases base with
       |none=>cases AO with
        |none=>exact .Jk _ _
        |some _=>exact hb.elim
       |some b=>cases AO with
        |none=>exact hb.elim
        |some b'=>exact .of_slice (Jc.mono s6 hb) _ _
      dsimp only
      have EY:∀E6 n,J3 C ok E6 (if n*size=0 then Pure.pure #[]else do Pure.pure (Builtin.zeroCells (<- Go.zeroValue e).cells n)) (if n*size=0 then Pure.pure #[]else do Pure.pure (Builtin.zeroCells (<- Go.zeroValue e).cells n)) (AR C):=λE6 n=>by
       split
       .exact .pure .nil
       .exact J3.bind' (J3.zeroValue K e) λE6 s6 z z' hz=>.pure (J6d (AR.cells hz) _)
      have Ae:∀E6 m nw XY,Sub E1 E6->AR C E6 nw XY->J3 C ok E6
        (match base with|some a=>(do let r <- Go.storeCells (a.add (EL*size)) nw.toList;Pure.pure (Value.slice base m F7))|_=>Pure.pure (Value.slice base m F7))
        (match AO with|some a=>(do let r <- Go.storeCells (a.add (EL*size)) XY.toList;Pure.pure (Value.slice AO m F7))|_=>Pure.pure (Value.slice AO m F7)) (VR C):=λE6 m nw XY s6 Ut=>by
       cases base with
       |none=>cases AO with
        |none=>grind
        |some _=>exact hb.elim
       |some b=>cases AO with
        |none=>exact hb.elim
        |some b'=>exact J3.bind' (J3.storeCells _ _ 0 _ (Jc.add (Jc.mono s6 hb) _) Ut.toList) λE7 s7 _ _ _=>fin E7 m (s6.trans s7)
      have AX:∀E6(ND:Nat)(ap ap':Sem (JC)),Sub E1 E6->(∀E7,Sub E6 E7->J3 C ok E7 ap ap' (AR C))->J3 C ok E6
        (do
         let En <- Go.choose (.appendCap ND F7 e)
         let i <- Go.typeInfo e
         Go.askRoom (En*i.bytes)
         let old <- Builtin.firstCells size EL (.slice base EL F7)
         let new <- ap
         let z <- Go.zeroValue e
         let r <- Go.newRow e (old++new++Builtin.zeroCells z.cells (En-ND))
         Pure.pure (Value.slice (some r) ND En))
        (do
         let En <- Go.choose (.appendCap ND F7 e)
         let i <- Go.typeInfo e
         Go.askRoom (En*i.bytes)
         let old <- Builtin.firstCells size EL (.slice AO EL F7)
         let new <- ap'
         let z <- Go.zeroValue e
         let r <- Go.newRow e (old++new++Builtin.zeroCells z.cells (En-ND))
         Pure.pure (Value.slice (some r) ND En)) (VR C):=by
       intro E6 ND ap ap' s6 SI;refine J3.bind' (J3.choose _) λE9 s9 nc nc' hnc=>?_;obtain rfl:nc=nc':=hnc;refine J3.bind' (J3.typeInfo e) λmJ yY i i' hi=>?_;obtain⟨rfl,_⟩:=hi;refine J3.bind' (R:=λ_ _ _=>True) ?_ λE11 s11 _ _ _=>?_
       .unfold Go.askRoom;split
        .exact J3.mark trivial trivial
        .exact .pure trivial
       have s16:Sub E1 E11:=((s6.trans s9).trans yY).trans s11;refine J3.bind' (J3.firstCells _ _ (hv.mono s16)) λE12 s12 old old' hold=>?_;refine J3.bind' (SI E12 (((s9.trans yY).trans s11).trans s12)) λE13 Tm nw XY Ut=>?_;refine J3.bind' (J3.zeroValue K e) λE14 s14 z z' hz=>?_;have hz:=AR.cells hz;exact J3.bind' (J3.newRow (hh.mono (((s16.trans s12).trans Tm).trans s14)) e (((((hold.mono Tm).append Ut)).mono s14).append (J6d hz _))) λE15 s15 b b' hb=>.pure (.of_slice hb.1 _ _)
      cases Az:t[1]? with
      |none=>
       refine J3.bind' (R:=λ_ n n'=>n=false/\n'=false) (.pure ⟨rfl,rfl⟩) λE3 s3 z z' hz=>?_;obtain⟨rfl,rfl⟩:=hz;have Tm:Sub E1 E3:=s2.trans s3;simp only[DY,if_false,Bool.not_false,if_true,false_or];refine J3.bind' (J3.lenOf (hx.mono Tm)) λE4 s4 n n' hn=>?_;obtain rfl:n=n':=hn;have s14:Sub E1 E4:=Tm.trans s4;split
       .exact J3.bind' (J3.firstCells _ _ (hx.mono s14)) λE5 s5 nw XY Ut=>Ae E5 _ _ _ (s14.trans s5) Ut
       .refine J3.bind' (J3.typeInfo e) λE5 s5 i i' hi=>?_;obtain⟨rfl,_⟩:=hi;have s15:Sub E1 E5:=s14.trans s5;have ap:∀E7,Sub E1 E7->J3 C ok E7 (Builtin.firstCells size n x) (Builtin.firstCells size n x') (AR C):=λE7 s7=>J3.firstCells _ _ (hx.mono s7);split
        .exact J3.bind' (R:=λ_ _ _=>False) (J3.runtimePanic (hh.mono s15) _) λ_ _ _ _ h=>h.elim
        .refine J3.bind' (J3.typeInfo e) λE6 s6 i i' hi=>?_;obtain⟨rfl,_⟩:=hi;split
         .exact J3.share λb w=>by simp_all
         .exact AX E6 _ _ _ (s15.trans s6) λE7 s7=>ap E7 ((s15.trans s6).trans s7)
      |some t1=>
       refine J3.bind' (J3.underlying t1) λE3' s3' u u' hu=>?_;obtain⟨rfl,_⟩:=hu;refine J3.bind' (R:=λ_ n n'=>n=n') (.pure rfl) λE3 s3 z z' hz=>?_;obtain rfl:z=z':=hz;have Tm:Sub E1 E3:=(s2.trans s3').trans s3;cases z with
       |false=>
        simp only[DY,if_false,Bool.not_false,if_true,false_or];refine J3.bind' (J3.lenOf (hx.mono Tm)) λE4 s4 n n' hn=>?_;obtain rfl:n=n':=hn;have s14:Sub E1 E4:=Tm.trans s4;split
        .exact J3.bind' (J3.firstCells _ _ (hx.mono s14)) λE5 s5 nw XY Ut=>Ae E5 _ _ _ (s14.trans s5) Ut
        .refine J3.bind' (J3.typeInfo e) λE5 s5 i i' hi=>?_;obtain⟨rfl,_⟩:=hi;have s15:Sub E1 E5:=s14.trans s5;have ap:∀E7,Sub E1 E7->J3 C ok E7 (Builtin.firstCells size n x) (Builtin.firstCells size n x') (AR C):=λE7 s7=>J3.firstCells _ _ (hx.mono s7);split
         .exact J3.bind' (R:=λ_ _ _=>False) (J3.runtimePanic (hh.mono s15) _) λ_ _ _ _ h=>h.elim
         .refine J3.bind' (J3.typeInfo e) λE6 s6 i i' hi=>?_;obtain⟨rfl,_⟩:=hi;split
          .exact J3.share λb w=>by simp_all
          .exact AX E6 _ _ _ (s15.trans s6) λE7 s7=>ap E7 ((s15.trans s6).trans s7)
       |true=>
        have hzt:∀E6 n,J3 C ok E6 (if(!true)=true then Builtin.firstCells size n x else if n*size=0 then Pure.pure #[]else do Pure.pure (Builtin.zeroCells (<- Go.zeroValue e).cells n)) (if(!true)=true then Builtin.firstCells size n x' else if n*size=0 then Pure.pure #[]else do Pure.pure (Builtin.zeroCells (<- Go.zeroValue e).cells n)) (AR C):=λE6 n=>EY E6 n;rw[if_pos rfl,if_pos rfl];refine J3.bind' (J3.asInt (hx.mono Tm)) λE4 s4 l l' hl=>?_;obtain rfl:l=l':=hl;have s14:Sub E1 E4:=Tm.trans s4;by_cases hl:IntKind.i64.wrap l<0
        .rw[if_pos hl,if_pos hl];exact J3.bind' (R:=λ_ _ _=>False) (J3.runtimePanic (hh.mono s14) _) λ_ _ _ _ h=>h.elim
        .rw[if_neg hl,if_neg hl];refine J3.bind' (J3.typeInfo e) λE5 s5 i i' hi=>?_;obtain⟨rfl,_⟩:=hi;have s15:Sub E1 E5:=s14.trans s5;by_cases Eu:IntKind.i64.wrap l*(i.bytes:Int) > 2 ^ 48
         .rw[if_pos Eu,if_pos Eu];refine J3.bind' (J3.choose _) λE6 s6 m m' hm=>?_;obtain rfl:m=m':=hm;exact J3.bind' (R:=λ_ _ _=>False) (J3.runtimePanic (hh.mono (s15.trans s6)) _) λ_ _ _ _ h=>h.elim
         .rw[if_neg Eu,if_neg Eu];refine J3.bind' (R:=λ_ n n'=>n=n') (.pure rfl) λE6 s6 n n' hn=>?_;obtain rfl:n=n':=hn;have s16:Sub E1 E6:=s15.trans s6;split
          .exact J3.bind' (hzt E6 n) λE7 s7 nw XY Ut=>Ae E7 _ _ _ (s16.trans s7) Ut
          .refine J3.bind' (J3.typeInfo e) λE7 s7 i i' hi=>?_;obtain⟨rfl,_⟩:=hi;have s17:Sub E1 E7:=s16.trans s7;split
           .exact J3.bind' (R:=λ_ _ _=>False) (J3.runtimePanic (hh.mono s17) _) λ_ _ _ _ h=>h.elim
           .refine J3.bind' (J3.typeInfo e) λE8 s8 i i' hi=>?_;obtain⟨rfl,_⟩:=hi;split
            .rw[if_pos rfl,if_pos rfl];exact J3.bind' (R:=λ_ _ _=>False) (J3.runtimePanic (hh.mono (s17.trans s8)) _) λ_ _ _ _ h=>h.elim
            .exact AX E8 _ _ _ (s17.trans s8) λE9 s9=>hzt E9 n
     grind[stuck]
    |_=>exact .stuck _
def EsR.erase{a a':Array MapEntry}(h:EsR C E a a')(i:Nat):EsR C E (a.eraseIdxIfInBounds i) (a'.eraseIdxIfInBounds i):=by
 unfold Array.eraseIdxIfInBounds;by_cases hi:i<a.size
 .have CW:i<a'.size:=by rw[<- h.size];exact hi
  rw[dif_pos hi,dif_pos CW];refine⟨by simp[h.size],λj x x' h1 h2=>?_⟩;rw[Array.getElem?_eraseIdx]at h1 h2;split at h1
  .rename_i hj;rw[if_pos hj]at h2;exact h.at_ _ _ _ h1 h2
  .rename_i hj;rw[if_neg hj]at h2;exact h.at_ _ _ _ h1 h2
 .have CW:¬i<a'.size:=by rw[<- h.size];exact hi
  grind
def J3.delete(hh:Hnd C E)(Ae:C.st=false)(t:Array JH)(ty:JH){a a':JC}(ha:AR C E a a'):J3 C ok E (Builtin.delete_ t ty a) (Builtin.delete_ t ty a') (VR C):=by
 have fin:∀E,J3 C ok E (Pure.pure (Value.tuple #[])) (Pure.pure (Value.tuple #[])) (VR C):=λE=>.pure VR.undef;unfold Builtin.delete_;cases ht:t[0]? with
 |none=>exact .stuck _
 |some tt=>
  cases MN:a[0]? with
  |none=>exact .stuck _
  |some x=>
   obtain⟨x',Af,hv⟩:=ha.Ec MN;rw[Af];cases hy0:a[1]? with
   |none=>exact .stuck _
   |some y=>
    obtain⟨y',DC,hk⟩:=ha.Ec hy0;rw[DC]
    dsimp only
    refine J3.bind' (J3.underlying tt) λE1 s1 u u' hu=>?_;obtain⟨rfl,_⟩:=hu;have hv:=hv.mono s1;have hk:=hk.mono s1;cases u with
    |map kt e=>
     dsimp only
     cases hv<;>first
      |exact .stuck _
      |skip
     .exact J3.bind' (J3.checkKey true 10000 kt _ (hh.mono s1) hk) λE2 _ _ _ _=>fin E2
     .rename_i r r' hr;have hm:J3 C ok E1 _ _ (VR C):=J3.Wj hr "delete: map expected" (f:=(λes ck=>do
       Instr.checkKey es.isEmpty 10000 kt y
       match <- Instr.findKey kt y es.toList with
       |some (i,_)=>do
        Go.setObj r (.map (es.eraseIdxIfInBounds i) ck)
        Pure.pure (Value.tuple #[])
       |none=>do
        Go.setObj r (.map es ck)
        Pure.pure (Value.tuple #[]))) (f':=(λes ck=>do
       Instr.checkKey es.isEmpty 10000 kt y'
       match <- Instr.findKey kt y' es.toList with
       |some (i,_)=>do
        Go.setObj r' (.map (es.eraseIdxIfInBounds i) ck)
        Pure.pure (Value.tuple #[])
       |none=>do
        Go.setObj r' (.map es ck)
        Pure.pure (Value.tuple #[]))) λE2 s2 es AU ck Eh=>by
       rw[show AU.isEmpty=es.isEmpty by simp only[Array.isEmpty,Eh.size]];refine J3.bind' (J3.checkKey _ _ kt _ ((hh.mono s1).mono s2) (hk.mono s2)) λE3 s3 _ _ _=>?_;refine J3.bind' (J3.findKey kt 20 (((hh.mono s1).mono s2).mono s3) (.inl Ae) ((hk.mono s2).mono s3) (Eh.toList.mono s3)) λE4 s4 z z' hz=>?_;have Jta:=(Eh.mono s3).mono s4;have jZ:=s4 _ _ (s3 _ _ (s2 _ _ hr));cases z with
       |none=>
        cases z' with
        |some b=>exact hz.elim
        |none=>exact J3.bind' (J3.setObj jZ (C.lax Ae _) ⟨_,rfl,Jta⟩ (by simp)) λE5 _ _ _ _=>fin E5
       |some a=>
        cases z' with
        |none=>exact hz.elim
        |some b=>
         obtain⟨i,a⟩:=a;obtain⟨i',b⟩:=b;obtain rfl:i=i':=hz.1;exact J3.bind' (J3.setObj jZ (C.lax Ae _) ⟨_,rfl,Jta.erase i⟩ (by simp)) λE5 _ _ _ _=>fin E5
      exact hm
    |_=>exact .stuck _
def J3.clear(K:Ov C)(t:Array JH)(ty:JH){a a':JC}(ha:AR C E a a')(Cj:∀r,a[0]?=some (.map (some r))->¬C.Sh r):J3 C ok E (Builtin.clear_ t ty a) (Builtin.clear_ t ty a') (VR C):=by
 have fin:∀E,J3 C ok E (Pure.pure (Value.tuple #[])) (Pure.pure (Value.tuple #[])) (VR C):=λE=>.pure VR.undef;unfold Builtin.clear_;cases ht:t[0]? with
 |none=>exact .stuck _
 |some tt=>
  cases MN:a[0]? with
  |none=>exact .stuck _
  |some x=>
   obtain⟨x',Af,hv⟩:=ha.Ec MN;rw[Af]
   dsimp only
   refine J3.bind' (J3.underlying tt) λE1 s1 u u' hu=>?_;obtain⟨rfl,_⟩:=hu;have hv:=hv.mono s1;cases hv with
   |I5=>grind
   |Jk l c=>grind
   |map h=>
    have hs:=Cj _ MN;have hm:J3 C ok E1 _ _ (VR C):=J3.Wj h "clear: map expected" (f:=λes ck=>(do Go.setObj _ (.map #[] ck);Pure.pure (Value.tuple #[]))) (f':=λes ck=>(do Go.setObj _ (.map #[] ck);Pure.pure (Value.tuple #[]))) λE2 s2 es AU ck _=>J3.bind' (J3.setObj (s2 _ _ h) hs ⟨#[],rfl,.nil⟩ (by simp)) λE3 _ _ _ _=>fin E3;cases u<;>exact hm
   |slice o s l c h=>
    cases l with
    |zero=>grind
    |succ l=>
     cases u with
     |slice e=>
      refine J3.bind' (J3.zeroValue K e) λE2 s2 z z' hz=>?_;exact J3.bind' (J3.storeCells _ _ 0 _ (a:=⟨_,o,s⟩) (a':=⟨_,o,s⟩) ⟨s2 _ _ h,rfl,rfl⟩ (J6d (AR.cells hz) _).toList) λE3 _ _ _ _=>fin E3
     |_=>exact .Jg λw=>⟨_,w,rfl,by simp⟩
   |_=>cases u<;>exact .Jg λw=>⟨_,w,rfl,by simp⟩
end
section
variable{C:Cx}{ok:JG->Code->Prop}{E:J5}
inductive TI(C:Cx)(E:J5):Place->Place->Prop
 |val{v v'}(h:VR C E v v'):TI C E (.val v) (.val v')
 |var{a a'}(h:Jc E a a'):TI C E (.var a) (.var a')
def TI.mono{E1:J5}(s:Sub E E1){p p':Place}(h:TI C E p p'):TI C E1 p p':=by
 cases h with
 |val h=>exact .val (h.mono s)
 |var h=>exact .var (h.mono s)
def J3.get(t:JH){p p':Place}(h:TI C E p p'):J3 C ok E (p.get t) (p'.get t) (VR C):=by
 cases h with
 |val h=>exact .pure h
 |var h=>exact J3.loadVar t h
def J3.follow:∀(l:List FieldStep)(t:JH)(E:J5),Hnd C E->∀{p p':Place},TI C E p p'->J3 C ok E (Go.follow l t p) (Go.follow l t p') (λE1 q q'=>q.1=q'.1/\TI C E1 q.2 q'.2)
 |[],t,E,_,_,_,h=>.pure ⟨rfl,h⟩
 |s::l,t,E,hh,p,p',h=>by
  unfold Go.follow;refine J3.bind' (J3.underlying _) λE1 s1 u u' hu=>?_;obtain⟨rfl,_⟩:=hu;cases u with
  |struct fs=>
   dsimp only
   cases hf:fs[s.index]? with
   |none=>exact .stuck _
   |some f=>
    dsimp only
    split
    .refine J3.bind' (J3.get t (h.mono s1)) λE2 s2 v v' hv=>?_;refine J3.bind' (J3.asAddr ((hh.mono s1).mono s2) hv) λE3 s3 a a' ha=>?_;exact J3.bind' (J3.fieldPlace ha f) λE4 s4 b b' hb=>J3.follow l f.type _ ((((hh.mono s1).mono s2).mono s3).mono s4) (.var hb)
    .cases h with
     |var h=>exact J3.bind' (J3.fieldPlace (h.mono s1) f) λE4 s4 b b' hb=>J3.follow l f.type _ ((hh.mono s1).mono s4) (.var hb)
     |val h=>
      have h:=h.mono s1;cases h with
      |agg ha hx=>exact J3.bind' (J3.part f.type ⟨ha,hx⟩ _) λE4 s4 b b' hb=>J3.follow l f.type _ ((hh.mono s1).mono s4) (.val hb)
      |_=>exact .stuck _
  |_=>exact .stuck _
def J3.wrapNil(hh:Hnd C E)(ts:Array JH)(t:JH){v v':JJ}(h:VR C E v v')(a b:String):J3 C ok E (Builtin.ssaWrapNilChk_ ts t #[v,strVal a,strVal b]) (Builtin.ssaWrapNilChk_ ts t #[v',strVal a,strVal b]) (VR C):=by
 unfold Builtin.ssaWrapNilChk_;cases h<;>first
  |exact .stuck _
  |exact .pure (.ptr _ _ (by assumption))
  |skip
 refine J3.bind' (J3.choose _) λE0 s0 n n' hn=>?_;obtain rfl:n=n':=hn;have hh:=hh.mono s0
 dsimp only
 split
 .exact J3.bind' (R:=λ_ _ _=>False) (J3.runtimePanic hh _) λ_ _ _ _ h=>h.elim
 .cases h0:ts[0]? with
  |none=>exact .stuck _
  |some pt=>
   refine J3.bind' (J3.underlying _) λE1 s1 u u' hu=>?_;obtain⟨rfl,_⟩:=hu;cases u with
   |pointer e=>
    refine J3.bind' (J3.typeInfo _) λE2 s2 i i' hi=>?_;obtain⟨rfl,_⟩:=hi;split
    .split
     .split
      .exact J3.runtimePanic ((hh.mono s1).mono s2) _
      .exact .unsupported _
     .exact .stuck _
    .exact .stuck _
   |_=>exact .stuck _
def J3.receiverAt(hh:Hnd C E)(t:JH){p p':Place}(h:TI C E p p')(b:Bool)(o:Option String):J3 C ok E (Go.receiverAt t p b o) (Go.receiverAt t p' b o) (VR C):=by
 unfold Go.receiverAt;refine J3.bind' (J3.underlying _) λE1 s1 u u' hu=>?_;obtain⟨rfl,_⟩:=hu;have h:=h.mono s1;have hh:=hh.mono s1;have zL:∀e,J3 C ok E1 (do
   let ptr <- p.get t
   match o with
   |some name=>do
    let ptr <- Builtin.ssaWrapNilChk_ #[t] t #[ptr,strVal "",strVal name]
    Go.loadVar e (<- Go.asAddr ptr)
   |none=>do
    let ptr <- Pure.pure ptr
    Go.loadVar e (<- Go.asAddr ptr)) (do
   let ptr <- p'.get t
   match o with
   |some name=>do
    let ptr <- Builtin.ssaWrapNilChk_ #[t] t #[ptr,strVal "",strVal name]
    Go.loadVar e (<- Go.asAddr ptr)
   |none=>do
    let ptr <- Pure.pure ptr
    Go.loadVar e (<- Go.asAddr ptr)) (VR C):=λe=>by
  refine J3.bind' (J3.get t h) λE2 s2 v v' hv=>?_;have fin:∀E3,Sub E2 E3->∀{v v':JJ},VR C E3 v v'->J3 C ok E3 (do Go.loadVar e (<- Go.asAddr v)) (do Go.loadVar e (<- Go.asAddr v')) (VR C):=λE3 s3{v v'} hv=>
   J3.bind' (J3.asAddr ((hh.mono s2).mono s3) hv) λE4 s4 a a' ha=>J3.loadVar e ha
  cases o with
  |none=>exact J3.bind' (R:=VR C) (.pure hv) λE3 s3 v v' hv=>fin E3 s3 hv
  |some nm=>exact J3.bind' (J3.wrapNil (hh.mono s2) _ _ hv _ _) λE3 s3 v v' hv=>fin E3 s3 hv
 cases u<;>cases b<;>first
  |exact J3.get t h
  |exact zL _
  |(cases h;exact .stuck _;exact .pure (.Qm (by assumption)))
def J3.method(K:Ov C):∀(n:Nat)(t:JH)(E:J5),C.Ed t=true->Hnd C E->∀{v v':JJ}(name:String),C.ms.contains name=true->VR C E v v' ->
  J3 C ok E (Go.method n t v name) (Go.method n t v' name) (λE1 q q'=>q.1=q'.1/\C.F q.1/\VR C E1 q.2 q'.2)
 |0,_,_,_,_,_,_,_,_,_=>.unsupported _
 |n+1,t,E,ht,hh,v,v',name,hn,hv=>by
  unfold Go.method;refine J3.bind' (J3.typeInfo _) λE1 s1 i i' hi=>?_;obtain⟨rfl,hi⟩:=hi;cases hm:i.methods.find? (·.name == name)with
  |none=>exact .stuck _
  |some m=>
   dsimp only
   refine J3.bind' (J3.follow m.path.toList t _ (hh.mono s1) (.val (hv.mono s1))) λE2 s2 q q' hq=>?_;obtain⟨xt,x⟩:=q;obtain⟨xt',x'⟩:=q';obtain⟨h1,h2⟩:=hq;obtain rfl:xt=xt':=h1;have Fv:=(hh.mono s1).mono s2
   dsimp only
   cases hf:m.func with
   |none=>
    refine J3.bind' (J3.get xt h2) λE3 s3 v v' hv=>?_;cases hv with
    |iface t' xZ h=>exact J3.method K n _ _ xZ (Fv.mono s3) name hn h
    |nilIface=>exact J3.runtimePanic (Fv.mono s3) _
    |_=>exact .stuck _
   |some fp=>
    obtain⟨f,p⟩:=fp;refine J3.bind' (J3.receiverAt Fv xt h2 p _) λE3 s3 v v' hv=>?_;exact .pure ⟨rfl,K.meth t i m f p ht hi (Array.mem_of_find?_eq_some hm) (by grind) hf,hv⟩
inductive Y7(C:Cx)(ok:JG->Code->Prop)(Ent:JG->JC->Prop)(E:J5):Next->Next->Prop
 |value{v v'}(h:VR C E v v'):Y7 C ok Ent E (.value v) (.value v')
 |skip:Y7 C ok Ent E .skip .skip
 |enter{f a a'}(h:AR C E a a')(hf:Ent f a):Y7 C ok Ent E (.enter f a) (.enter f a')
 |round{l l' f t t' aS bd}(h:E l l')(ht:HR C E f t t')(h1:ok f aS)(h2:ok f bd):Y7 C ok Ent E (.round l f t aS bd) (.round l' f t' aS bd)
def GY (C:Cx) (f:JG):Prop:=∃fn,C.P.funcs[f]?=some fn/\fn.body.isSome=true/\(fn.name == "runtime.NumGoroutine")=false
def J3.callFunc{f:JG}(hf:GY C f){a a':JC}(ha:AR C E a a'):J3 C ok E (Go.callFunc f a) (Go.callFunc f a') (λE1 x x'=>x=.enter f a/\x'=.enter f a'/\AR C E1 a a'):=by
 obtain⟨fn,h1,h2,h3⟩:=hf;unfold Go.callFunc;refine J3.bind' (R:=λ_ p p'=>p=C.P/\p'=C.P) (.program ⟨rfl,rfl⟩) λE1 s1 p p' hp=>?_;obtain⟨rfl,rfl⟩:=hp;rw[h1]
 dsimp only
 have h4:fn.body.isNone=false:=by simp_all
 simp only[h3,h4,DY,if_false];exact .pure ⟨rfl,rfl,ha.mono s1⟩
def J3.yield{Ent:JG->JC->Prop}{l l':Nat}(h:E l l'){a a':JC}(ha:AR C E a a'):J3 C ok E (Instr.yield l a) (Instr.yield l' a') (Y7 C ok Ent):=by
 unfold Instr.yield Instr.getLoop;refine J3.bind' (J3.bind' (J3.getObj h) (R2:=λE1 r r'=>Wl C ok E1 r r') λE1 s1 o o' ho=>?_) λE1 s1 r r' hr=>?_
 .obtain⟨h3,_⟩:=ho;cases o with
  |loop r=>obtain⟨_,r',rfl,hr⟩:=h3;exact .pure hr
  |_=>exact .stuck _
 .rw[show a'.size=a.size from ha.size.symm,show r'.params=r.params from hr.params.symm]
  dsimp only
  split
  .exact .Jg λw=>⟨_,w,rfl,by simp⟩
  .refine .pure ?_;have iH:∀(ps:List Tmp)(l l':List JJ)(t t':JC),LR C E1 l l'->HR C E1 r.fn t t'->HR C E1 r.fn ((ps.zip l).foldl (λtmps(p:Tmp × JJ)=>tmps.setIfInBounds p.1 p.2) t) ((ps.zip l').foldl (λtmps(p:Tmp × JJ)=>tmps.setIfInBounds p.1 p.2) t'):=by
    intro ps
    induction ps with
    |nil=>simp_all
    |cons p ps ih=>
     intro l l' t t' hl ht;cases hl with
     |nil=>simpa using ht
     |cons hv hl=>simp only[List.zip_cons_cons,List.foldl_cons];exact ih _ _ _ _ hl (ht.set p hv)
   have hf:=iH r.params.toList a.toList a'.toList r.tmps r'.tmps (ha.mono s1).toList hr.tmps;rw[<- hr.fn,<- hr.assign,<- hr.body];refine .round (s1 _ _ h) ?_ hr.ok1 hr.ok2
   grind[Array.toList_zip]
end
section
variable{C:Cx}{ok:JG->Code->Prop}{E:J5}{α α':Type}
def J3.U9{s:Sem α}{s':Sem α'}{R:J5->α->α'->Prop}
  (h:∀w w',WR C ok E w w'->(∃x w1,s.run C.P w=.halt x w1/\Dead x)\/∃t t',J3 C ok E t t' R/\s.run C.P w=t.run C.P w/\s'.run C.P w'=t'.run C.P w'/\s'.events C.P w' #[]=t'.events C.P w' #[]):J3 C ok E s s' R:=by
 intro L w w' hw;rcases h w w' hw.toWR with⟨x,w1,hx,hd⟩|⟨t,t',ht,h1,h2,h3⟩
 .simp_all
 .have:=ht L w w' hw
  grind
def Sj(w:JE)(a:Addr):Bool:=w.frozen? a || (match w.shape? a.block with|some (_,n)=>w.frozen? ⟨a.block,n,none⟩|none=>false)
def bT(w:JE)(a:Addr):Bool:=match w.shape? a.block with|some (_,0)=>true|_=>false
def mbF(w:JE)(a b:Addr):Bool:=(Sj w a && Sj w b) || (Sj w a && bT w a) || (Sj w b && bT w b)
def J99(P:Program)(w:JE)(a:Addr):(Go.stringish a).run P w=.ok (Sj w a) w/\∀es,(Go.stringish a).events P w es=es:=by
 unfold Go.stringish Sj;cases h1:w.frozen? a with
 |true=>simp_all
 |false=>
  cases h2:w.shape? a.block with
  |none=>simp_all
  |some p=>simp_all
def J72(P:Program)(w:JE)(a b:Addr):(Go.mayBeOne a b).run P w=.ok (mbF w a b) w/\∀es,(Go.mayBeOne a b).events P w es=es:=by
 unfold Go.mayBeOne;obtain⟨a1,a2⟩:=J99 P w a;obtain⟨b1,b2⟩:=J99 P w b;refine⟨?_,λes=>?_⟩
 .simp[Sem.run_bind,a1,b1,run_shape,mbF,bT,Result.andThen]
  grind
 simp_all
def Yj(P:Program)(w:JE)(a:Addr):(Go.noView a).run P w=.ok () w\/∃x,(Go.noView a).run P w=.halt x w:=by
 unfold Go.noView Go.viewAt;cases h:w.shape? a.block with
 |some p=>simp_all
 |none=>
  cases ho:w.heap[a.block]? with
  |none=>
   refine .inr ⟨?_,?_⟩
   rotate_left
   .simp only[Sem.run_bind,run_shape,h,Go.getObj,Sem.run,ho,Result.andThen,Option.isSome_none,DY,if_false];rfl
  |some o=>
   cases o with
   |cells c el fz=>simp[World.shape?,ho]at h
   |view at_ u=>exact .inr ⟨.unsupported (.unsafePointer "memory seen as another type"),by simp[run_shape,h,Go.getObj,Sem.run,ho,Result.andThen,Go.unsupported]⟩
   |_=>exact .inl (by simp[run_shape,h,Go.getObj,Sem.run,ho,Result.andThen])
def J9l{β:Type}{P:Program}{w:JE}{x y:Sem Unit}{m:Sem Bool}{v:Bool}{k:Bool->Sem β}(hx:x.run P w=.ok () w\/∃h,x.run P w=.halt h w)(hy:y.run P w=.ok () w\/∃h,y.run P w=.halt h w)
  (hm:m.run P w=.ok v w/\∀es,m.events P w es=es):(do x;y;let b <- m;k b:Sem β).run P w=(do x;y;k v:Sem β).run P w/\(do x;y;let b <- m;k b:Sem β).events P w #[]=(do x;y;k v:Sem β).events P w #[]:=by
 rcases hx with hx|⟨h,hx⟩
 .rcases hy with hy|⟨h,hy⟩
  all_goals simp_all
 simp_all
def WR.Jgs{w w':JE}(hw:WR C ok E w w')(Ae:C.st=true){a a':Addr}(h:Jc E a a'):w'.frozen? a'=false/\Sj w' a'=false/\(Sj w a=true->w.frozen? a=true/\bT w a=false):=by
 obtain⟨b,o,s⟩:=a;obtain⟨b',o',s'⟩:=a';obtain⟨h1,h2,h3⟩:=h;simp only at h1 h2 h3;subst h2;subst h3;obtain⟨x,x',e1,e2,e3⟩:=hw.get h1;cases x with
 |cells c el fz=>
  obtain⟨c',FU,rfl,h4,h5,h6⟩:=e3;have hf:FU=(0,0):=by
   grind
  subst hf;refine⟨by simp[World.frozen?,e2],by simp[Sj,World.frozen?,World.shape?,e2],λXQ=>?_⟩;by_cases hs:C.Sh b
  .obtain⟨rfl,_⟩:=h5 hs;simp[Sj,World.frozen?,World.shape?,e1]at XQ;refine⟨by simp[World.frozen?,e1,XQ],?_⟩;simp only[bT,World.shape?,e1]
   grind
  .have:=(h6 hs).2 Ae;subst this;simp[Sj,World.frozen?,World.shape?,e1]at XQ
 |map es ck=>obtain⟨AU,rfl,_⟩:=e3;exact⟨by simp[World.frozen?,e2],by simp[Sj,World.frozen?,World.shape?,e2],λh=>by simp[Sj,World.frozen?,World.shape?,e1]at h⟩
 |mapIter m a b c=>obtain⟨_,m',rfl,_⟩:=e3;exact⟨by simp[World.frozen?,e2],by simp[Sj,World.frozen?,World.shape?,e2],λh=>by simp[Sj,World.frozen?,World.shape?,e1]at h⟩
 |stringIter a b=>obtain⟨_,rfl⟩:=e3;exact⟨by simp[World.frozen?,e2],by simp[Sj,World.frozen?,World.shape?,e2],λh=>by simp[Sj,World.frozen?,World.shape?,e1]at h⟩
 |loop l=>obtain⟨_,m',rfl,_⟩:=e3;exact⟨by simp[World.frozen?,e2],by simp[Sj,World.frozen?,World.shape?,e2],λh=>by simp[Sj,World.frozen?,World.shape?,e1]at h⟩
 |deferred l=>obtain⟨_,m',rfl,_⟩:=e3;exact⟨by simp[World.frozen?,e2],by simp[Sj,World.frozen?,World.shape?,e2],λh=>by simp[Sj,World.frozen?,World.shape?,e1]at h⟩
 |number a l=>obtain⟨_,m',rfl,_⟩:=e3;exact⟨by simp[World.frozen?,e2],by simp[Sj,World.frozen?,World.shape?,e2],λh=>by simp[Sj,World.frozen?,World.shape?,e1]at h⟩
 |_=>exact e3.elim
def WR.Jdm{w w':JE}(hw:WR C ok E w w'){a a' b b':Addr}(h:Jc E a a')(k:Jc E b b'):(a'.block == b'.block)=(a.block == b.block):=by
 by_cases e:a.block=b.block
 .have:a'.block=b'.block:=hw.fn _ _ _ h.block (e▸k.block)
  grind
 .have:a'.block≠b'.block:=λe'=>e (hw.inj _ _ _ h.block (e'▸k.block))
  grind
def Kq(a b:Addr)(la lb size:Nat)(fa fb:Bool):Sem JJ:=
 if a.block != b.block && fa && fb then Go.unsupported .addressObserved
 else if a.block != b.block then do
  Go.noView a;Go.noView b
  let m <- Go.mayBeOne a b
  if m then do let n <- Go.choose (.extern "sameAddr.stringBytes" 2);Pure.pure (.bool (n == 1))
  else Pure.pure (.bool (a.block == b.block && a.off<b.off+lb*size && b.off<a.off+la*size))
 else Pure.pure (.bool (a.block == b.block && a.off<b.off+lb*size && b.off<a.off+la*size))
def J3.Kq{a a' b b':Addr}(h:Jc E a a')(k:Jc E b b')(la lb size:Nat):J3 C ok E (do let fa <- Go.frozen a;let fb <- Go.frozen b;Kq a b la lb size fa fb) (do let fa <- Go.frozen a';let fb <- Go.frozen b';Sim.Kq a' b' la lb size fa fb) (VR C):=by
 cases Ae:C.st with
 |false=>
  have hl:=C.lax Ae;refine J3.aI λw w' hw=>?_;have hb:=hw.Jdm h k;refine J3.bind' (J3.frozen h (hl _)) λE1 s1 x x' hx=>?_;obtain rfl:x=x':=hx;refine J3.bind' (J3.frozen (k.mono s1) (hl _)) λE2 s2 y y' hy=>?_;obtain rfl:y=y':=hy;have h2:=(h.mono s1).mono s2;have k2:=(k.mono s1).mono s2;unfold Sim.Kq;simp only[bne,hb,h.off,k.off];split
  .exact .unsupported _
  .split
   .refine J3.bind' (J3.noView h2) λE3 s3 _ _ _=>J3.bind' (J3.noView (k2.mono s3)) λE4 s4 _ _ _=>J3.bind' (J3.mayBeOne ((h2.mono s3).mono s4) ((k2.mono s3).mono s4) Ae) λE5 s5 m m' hm=>?_;obtain rfl:m=m':=hm;split
    .refine J3.bind' (J3.choose _) λE6 s6 n n' hn=>?_;obtain rfl:n=n':=hn;exact .pure (.bool _)
    .exact .pure (.bool _)
   .exact .pure (.bool _)
 |true=>
  refine J3.U9 λw w' hw=>?_;have hb:=hw.Jdm h k;obtain⟨a1,a2,a3⟩:=hw.Jgs Ae h;obtain⟨b1,b2,b3⟩:=hw.Jgs Ae k;have r1:(do let fa <- Go.frozen a;let fb <- Go.frozen b;Sim.Kq a b la lb size fa fb:Sem JJ).run C.P w=(Sim.Kq a b la lb size (w.frozen? a) (w.frozen? b)).run C.P w:=by simp_all
  have r2:(do let fa <- Go.frozen a';let fb <- Go.frozen b';Sim.Kq a' b' la lb size fa fb:Sem JJ).run C.P w'=(Sim.Kq a' b' la lb size false false).run C.P w':=by simp_all
  have r3:(do let fa <- Go.frozen a';let fb <- Go.frozen b';Sim.Kq a' b' la lb size fa fb:Sem JJ).events C.P w' #[]=(Sim.Kq a' b' la lb size false false).events C.P w' #[]:=by simp_all
  by_cases Ap:(a.block != b.block)=true
  .have QS:(a'.block != b'.block)=true:=by grind
   have hbf:(a.block == b.block)=false:=by grind
   by_cases Uj:w.frozen? a=true/\w.frozen? b=true
   .refine .inl ⟨.unsupported .addressObserved,w,?_,by simp⟩;rw[r1];unfold Sim.Kq;simp_all
   .have hm:mbF w a b=false:=by
     unfold mbF
     grind
    have OT:mbF w' a' b'=false:=by simp[mbF,a2,b2]
    have hc:(a.block != b.block && w.frozen? a && w.frozen? b)=false:=by
     grind
    refine .inr ⟨(do Go.noView a;Go.noView b;Pure.pure (.bool false)),(do Go.noView a';Go.noView b';Pure.pure (.bool false)),?_,?_,?_,?_⟩
    .exact J3.bind' (J3.noView h) λE3 s3 _ _ _=>J3.bind' (J3.noView (k.mono s3)) λE4 s4 _ _ _=>.pure (.bool _)
    .rw[r1];unfold Sim.Kq;rw[hc];simp only[DY,if_false,Ap,if_true];have q:=J72 C.P w a b;rw[hm]at q;rw[(J9l (Yj C.P w a) (Yj C.P w b) q).1];simp[hbf]
    .rw[r2];unfold Sim.Kq;simp only[Bool.and_false,DY,if_false,QS,if_true];have q:=J72 C.P w' a' b';rw[OT]at q;rw[(J9l (Yj C.P w' a') (Yj C.P w' b') q).1]
     grind
    .rw[r3];unfold Sim.Kq;simp only[Bool.and_false,DY,if_false,QS,if_true];have q:=J72 C.P w' a' b';rw[OT]at q;rw[(J9l (Yj C.P w' a') (Yj C.P w' b') q).2]
     grind
  .have jL:(a.block != b.block)=false:=by grind
   have QS:(a'.block != b'.block)=false:=by grind
   refine .inr ⟨Pure.pure (.bool (a.block == b.block && a.off<b.off+lb*size && b.off<a.off+la*size)),Pure.pure (.bool (a.block == b.block && a.off<b.off+lb*size && b.off<a.off+la*size)),.pure (.bool _),?_,?_,?_⟩
   .rw[r1];unfold Sim.Kq;simp[jL]
   .rw[r2];unfold Sim.Kq;simp only[QS,hb,h.off,k.off];simp
   .rw[r3];unfold Sim.Kq;simp[QS]
def J3.overlaps(ps rs:Array JH){x x' y y':JJ}(hx:VR C E x x')(hy:VR C E y y'):J3 C ok E (Go.Extern.SlicesOverlaps.overlaps ps rs #[x,y]) (Go.Extern.SlicesOverlaps.overlaps ps rs #[x',y']) (VR C):=by
 have key:∀{a a' b b':JI}(la ca lb cb:Nat),Di (Jc E) a a'->Di (Jc E) b b'->J3 C ok E (Go.Extern.SlicesOverlaps.overlaps ps rs #[.slice a la ca,.slice b lb cb]) (Go.Extern.SlicesOverlaps.overlaps ps rs #[.slice a' la ca,.slice b' lb cb]) (VR C):=by
  intro a a' b b' la ca lb cb h k;unfold Go.Extern.SlicesOverlaps.overlaps
  dsimp only
  cases hp:ps[0]? with
  |none=>exact J3.Jg λw=>⟨_,w,rfl,by simp⟩
  |some t=>
   dsimp only
   refine J3.bind' (J3.underlying t) λE1 s1 u u' hu=>?_;obtain⟨rfl,hu⟩:=hu;cases u with
   |slice el=>
    dsimp only
    refine J3.bind' (J3.sizeOf el) λE2 s2 n n' hn=>?_;obtain rfl:n=n':=hn;cases a with
    |none=>cases a' with
     |some _=>exact h.elim
     |none=>exact .pure (.bool false)
    |some a=>cases a' with
     |none=>exact h.elim
     |some a'=>
      cases b with
      |none=>cases b' with
       |some _=>exact k.elim
       |none=>exact .pure (.bool false)
      |some b=>cases b' with
       |none=>exact k.elim
       |some b'=>
        dsimp only
        split
        .exact .pure (.bool false)
        .exact J3.Kq ((h:Jc E a a').mono (s1.trans s2)) ((k:Jc E b b').mono (s1.trans s2)) la lb n
   |_=>exact J3.Jg λw=>⟨_,w,rfl,by simp⟩
 cases hx with
 |Jk l c=>cases hy with
  |Jk l2 c2=>exact key l c l2 c2 (a:=none) (a':=none) (b:=none) (b':=none) trivial trivial
  |slice o s l2 c2 h=>exact key l c l2 c2 (a:=none) (a':=none) (b:=some ⟨_,o,s⟩) (b':=some ⟨_,o,s⟩) trivial ⟨h,rfl,rfl⟩
  |_=>exact J3.Jg λw=>⟨_,w,rfl,by simp⟩
 |slice o s l c h=>cases hy with
  |Jk l2 c2=>exact key l c l2 c2 (a:=some ⟨_,o,s⟩) (a':=some ⟨_,o,s⟩) (b:=none) (b':=none) ⟨h,rfl,rfl⟩ trivial
  |slice o2 s2 l2 c2 h2=>exact key l c l2 c2 (a:=some ⟨_,o,s⟩) (a':=some ⟨_,o,s⟩) (b:=some ⟨_,o2,s2⟩) (b':=some ⟨_,o2,s2⟩) ⟨h,rfl,rfl⟩ ⟨h2,rfl,rfl⟩
  |_=>exact J3.Jg λw=>⟨_,w,rfl,by simp⟩
 |_=>cases hy<;>exact J3.Jg λw=>⟨_,w,rfl,by simp⟩
end
structure Kn where
 own:JG->List Nat
 cs:List JG
 gs:List Nat
 df:List JG
 xs:List JG
 xn:List JG:=[]
def KU:Nat->JJ->Bool
 |_,.bool _|_,.int _ _|_,.string _|_,.pointer none|_,.slice none _ _|_,.map none|_,.nilFunc|_,.nilIface|_,.chan none=>true
 |n+1,.agg a=>a.all (KU n)
 |n+1,.tuple a=>a.all (KU n)
 |_,_=>false
section
variable{C:Cx}{ok:JG->Code->Prop}{E:J5}
theorem nD:∀(n:Nat)(v:JJ),KU n v=true->VR C E v v
 |0,v,h=>by
  cases v with
  |bool b=>exact .bool b
  |int k n=>exact .int k n
  |string s=>exact .string s
  |pointer a=>cases a with|none=>exact .nilPtr|some a=>simp[KU]at h
  |slice a l c=>cases a with|none=>exact .Jk l c|some a=>simp[KU]at h
  |map a=>cases a with|none=>exact .I5|some a=>simp[KU]at h
  |nilFunc=>exact .nilFunc
  |nilIface=>exact .nilIface
  |chan a=>cases a with|none=>exact .MP|some a=>simp[KU]at h
  |_=>simp[KU]at h
 |n+1,v,h=>by
  cases v with
  |bool b=>exact .bool b
  |int k n=>exact .int k n
  |string s=>exact .string s
  |pointer a=>cases a with|none=>exact .nilPtr|some a=>simp[KU]at h
  |slice a l c=>cases a with|none=>exact .Jk l c|some a=>simp[KU]at h
  |map a=>cases a with|none=>exact .I5|some a=>simp[KU]at h
  |nilFunc=>exact .nilFunc
  |nilIface=>exact .nilIface
  |chan a=>cases a with|none=>exact .MP|some a=>simp[KU]at h
  |agg a=>
   refine .agg rfl λi x x' hx Af=>?_;rw[hx]at Af;cases Af;simp only[KU]at h;exact nD n x (by rw[Array.all_eq_true']at h;exact h x (Ho hx))
  |tuple a=>
   refine .tuple rfl λi x x' hx Af=>?_;rw[hx]at Af;cases Af;simp only[KU]at h;exact nD n x (by rw[Array.all_eq_true']at h;exact h x (Ho hx))
  |_=>simp[KU]at h
def Jy(C:Cx)(S:Kn)(fn:JG):Operand->Bool
 |.tmp t=>!(C.hl fn).contains t
 |.const v=>KU 20 v
 |.global g=>S.gs.contains g
 |.func f=>C.fs.contains f
def aU(S:Kn)(fn:JG):Operand->Bool
 |.tmp t=>(S.own fn).contains t
 |_=>false
def Jq1(C:Cx)(S:Kn)(fn f:JG)(args:Array Operand):Bool:=
 S.cs.contains f && (S.own f).all λi=>match args[i]? with|some x=>aU S fn x|none=>true
def Jj1(C:Cx)(S:Kn)(fn:JG)(c:Call):Bool:=
 c.args.all (Jy C S fn) &&
 match c.callee with
 |.value (.func f)=>if S.xs.contains f then true else Jq1 C S fn f c.args
 |.value x=>Jy C S fn x && decide (c.args.size<=3)
 |.invoke r name=>Jy C S fn r && C.ms.contains name && decide (c.args.size<=3)
 |.builtin b=>match b with| .append | .len | .cap | .copy | .min | .max=>true | .clear | .delete=>!C.st|_=>false
def Jmv(P:Program)(t:JH):Operand->Bool
 |.const (.pointer none)=>(match P.underlying t with|some (.pointer _)=>true|_=>false)
 |.const (.slice none 0 0)=>(match P.underlying t with|some (.slice _)=>true|_=>false)
 |_=>false
def Jsf(C:Cx)(op:BinOp)(t:JH)(y:Operand):Bool:=
 match op with
 |.eql | .neq=>!C.st || Kt C.P 20 t || Jmv C.P t y
 |_=>true
def sF(C:Cx)(t:JH):Bool:=
 !C.st || match C.P.underlying t with|some (.map kt _)=>Kt C.P 20 kt|_=>true
def Ia(C:Cx)(S:Kn)(fn:JG):Op->Bool
 |.move x | .assign x | .box _ x | .load _ x | .nilCheck x | .unOp _ _ x | .fieldAddr _ x _ | .field _ x _ | .range _ x
 |.next x _ | .entry x | .typeAssert x _ _ _ | .extract x _=>Jy C S fn x
 |.makeInterface t x=>Jy C S fn x && C.Ed t
 |.panic x=>Jy C S fn x && aU S fn x
 |.alloc _=>true
 |.convert s d x=>Jy C S fn x && Jj0 C.P s d && (!C.st || match C.P.underlying d with|some (.slice _)=>false|_=>true)
 |.pick c a b=>Jy C S fn c && Jy C S fn a && Jy C S fn b
 |.build _ ps | .buildSlice _ _ ps=>ps.toList.all λp=>Jy C S fn p.2
 |.store _ a v | .makeSlice _ a v | .indexAddr _ a v | .index _ a v=>Jy C S fn a && Jy C S fn v
 |.lookup t a v _=>Jy C S fn a && Jy C S fn v && sF C t
 |.binOp op t a v _=>Jy C S fn a && Jy C S fn v && Jsf C op t v
 |.makeFunc (.func f) first captured=>C.fs.contains f && first.all (Jy C S fn) && captured.all (Jy C S fn) && decide (first.size+captured.size<=3)
 |.makeFunc (.method n) first captured=>C.mok n && first.all (Jy C S fn) && captured.all (Jy C S fn) && decide (first.size+captured.size<=3)
 |.makeMap _ r=>r.all (Jy C S fn)
 |.slice _ x l h m=>Jy C S fn x && l.all (Jy C S fn) && h.all (Jy C S fn) && m.all (Jy C S fn)
 |.mapUpdate t m k v | .insert t m k v=>Jy C S fn m && Jy C S fn k && Jy C S fn v && (!C.st || aU S fn m) && sF C t
 |.call c=>Jj1 C S fn c
 |_=>false
def Jwo(C:Cx)(S:Kn)(fn:JG)(o:Oper):Bool:=
 match o.dst with
 |some d=>!(S.own fn).contains d || (match o.op with| .makeMap _ _=>true | .makeInterface t _=>(match C.P.underlying t with|some (.interface _)=>false|_=>true) | .move x | .assign x=>aU S fn x|_=>false)
 |none=>true
def Y0(C:Cx)(S:Kn)(fn:JG)(o:Oper):Bool:=Ia C S fn o.op && Jwo C S fn o
def Ent(C:Cx)(S:Kn)(f:JG)(a:JC):Prop:=
 S.cs.contains f=true/\∀(i:Nat)(x:JJ),(S.own f).contains i=true->a[i]?=some x->Kw C x
def Jmw{d:JH}(h:(!C.st || match C.P.underlying d with|some (.slice _)=>false|_=>true)=true):C.st=false\/∀e,C.P.underlying d≠some (.slice e):=by
 grind
def Gy(C:Cx)(row:JC->Sem JJ):Prop:=∀(ok:JG->Code->Prop)(E:J5),Hnd C E->∀a a',AR C E a a'->J3 C ok E (row a) (row a') (VR C)
def Gy.overlaps(C:Cx)(ps rs:Array JH):Gy C (Go.Extern.SlicesOverlaps.overlaps ps rs):=λok E _ a a' ha=>by
 by_cases h2:a.size=2
 .have YQ:a'.size=2:=ha.size▸h2;obtain⟨x,y,rfl⟩:∃x y,a=#[x,y]:=⟨a[0],a[1],by grind⟩;obtain⟨x',y',rfl⟩:∃x y,a'=#[x,y]:=⟨a'[0],a'[1],by grind⟩;exact J3.overlaps ps rs (ha.at_ 0 _ _ (by simp) (by simp)) (ha.at_ 1 _ _ (by simp) (by simp))
 .have e:∃s,Go.Extern.SlicesOverlaps.overlaps ps rs a=stuck s:=by
   unfold Go.Extern.SlicesOverlaps.overlaps;obtain⟨l⟩:=a
   match l,h2 with
   |[],_=>exact⟨_,rfl⟩
   |[x],_=>exact⟨_,rfl⟩
   |[x,y],h=>simp_all
   |x::y::z::l,_=>exact⟨_,rfl⟩
  obtain⟨s,e⟩:=e;rw[e];exact .stuck _
structure P8(C:Cx)(S:Kn):Prop where
 pr:Ov C
 cs:∀f,S.cs.contains f=true->GY C f
 fs:∀f,C.F f->(S.cs.contains f=true/\∀i,(S.own f).contains i=true->6<=i)\/S.xs.contains f=true\/S.xn.contains f=true
 xs:∀f,S.xs.contains f=true->∃fn row,C.P.funcs[f]?=some fn/\(fn.name == "runtime.NumGoroutine")=false/\fn.body=none/\Go.Extern.findNext fn=none/\Go.Extern.find fn=some row/\Gy C row
 xn:∀f,S.xn.contains f=true->∃fn,C.P.funcs[f]?=some fn/\(fn.name == "runtime.NumGoroutine")=false/\fn.body=none/\Go.Extern.findNext fn=none/\Go.Extern.find fn=none/\(fn.name.endsWith ".init" && !fn.name.startsWith "(" && !fn.name.startsWith "gosem.")=false
structure EvR(C:Cx)(S:Kn)(fn:JG)(E:J5)(ρ ρ':Operand->JJ):Prop where
 at_:∀x,Jy C S fn x=true->VR C E (ρ x) (ρ' x)
 own:∀x,aU S fn x=true->Kw C (ρ x)
 fn:∀f,ρ (.func f)=.func (.func f) #[] #[]/\ρ' (.func f)=.func (.func f) #[] #[]
 con:∀v,ρ (.const v)=v
def EvR.arr{S:Kn}{fn:JG}{ρ ρ':Operand->JJ}(h:EvR C S fn E ρ ρ'){xs:Array Operand}(hx:xs.all (Jy C S fn)=true):AR C E (xs.map ρ) (xs.map ρ'):=
 AR.map xs λx hm=>h.at_ x (by grind[Array.all_eq_true'])
def EvR.opt{S:Kn}{fn:JG}{ρ ρ':Operand->JJ}(h:EvR C S fn E ρ ρ'){x:Option Operand}(hx:x.all (Jy C S fn)=true):Di (VR C E) (x.map ρ) (x.map ρ'):=by
 cases x with
 |none=>trivial
 |some x=>exact h.at_ x (by grind)
def EvR.parts{S:Kn}{fn:JG}{ρ ρ':Operand->JJ}(h:EvR C S fn E ρ ρ'):∀{ps:List (Nat × Operand)},(ps.all λp=>Jy C S fn p.2)=true->RG C E (ps.map λ(i,x)=>(i,ρ x)) (ps.map λ(i,x)=>(i,ρ' x))
 |[],_=>.nil
 |p::ps,hp=>by simp only[List.all_cons,Bh]at hp;exact .cons (h.at_ _ hp.1) (EvR.parts h hp.2)
abbrev Ib(C:Cx)(ok:JG->Code->Prop)(S:Kn):J5->Next->Next->Prop:=Y7 C ok (Ent C S)
def J3.val{S:Kn}{s s':Sem JJ}(h:J3 C ok E s s' (VR C)):J3 C ok E (do Pure.pure (Next.value (<- s))) (do Pure.pure (Next.value (<- s'))) (Ib C ok S):=
 J3.bind' h λ_ _ _ _ hv=>.pure (.value hv)
def J3.unit{S:Kn}{s s':Sem Unit}(h:J3 C ok E s s' (λ_ _ _=>True)):J3 C ok E (do s;Pure.pure Next.skip) (do s';Pure.pure Next.skip) (Ib C ok S):=
 J3.bind' h λ_ _ _ _ _=>.pure .skip
def J3.callFunc'{S:Kn}(K:P8 C S){f:JG}{a a':JC}(ha:AR C E a a')(h:Ent C S f a):J3 C ok E (Go.callFunc f a) (Go.callFunc f a') (Ib C ok S):=
 (J3.callFunc (K.cs f h.1) ha).mono λE1 x x' _ hx=>by obtain⟨rfl,rfl,hx⟩:=hx;exact .enter hx h
theorem J3.Jq2{S:Kn}(K:P8 C S)(hh:Hnd C E){f:JG}(hf:S.xs.contains f=true){a a':JC}(ha:AR C E a a'):J3 C ok E (Go.callFunc f a) (Go.callFunc f a') (Ib C ok S):=by
 obtain⟨fn,row,k1,k2,k3,k4,k5,k6⟩:=K.xs f hf;unfold Go.callFunc;refine J3.bind' (R:=λ_ p p'=>p=C.P/\p'=C.P) (.program ⟨rfl,rfl⟩) λE1 s1 p p' hp=>?_;obtain⟨rfl,rfl⟩:=hp;rw[k1]
 dsimp only
 simp only[k2,k3,k4,k5,Option.isNone_none,DY,if_false,if_true];refine J3.bind' (R:=λ_ _ _=>True) (J3.mark trivial trivial) λE2 s2 _ _ _=>?_;exact J3.bind' (k6 ok _ ((hh.mono s1).mono s2) _ _ ((ha.mono s1).mono s2)) λE3 s3 v v' hv=>.pure (.value hv)
theorem J3.Jtb{S:Kn}(K:P8 C S){f:JG}(hf:S.xn.contains f=true){a a':JC}:J3 C ok E (Go.callFunc f a) (Go.callFunc f a') (Ib C ok S):=by
 obtain⟨fn,k1,k2,k3,k4,k5,k6⟩:=K.xn f hf;unfold Go.callFunc;refine J3.bind' (R:=λ_ p p'=>p=C.P/\p'=C.P) (.program ⟨rfl,rfl⟩) λE1 s1 p p' hp=>?_;obtain⟨rfl,rfl⟩:=hp;rw[k1]
 dsimp only
 simp only[k2,k3,k4,k5,k6,Option.isNone_none,DY,if_false,if_true];exact J3.bind' (R:=λ_ _ _=>True) (J3.mark trivial trivial) λE2 s2 _ _ _=>.unsupported _
def J3.Jfs{S:Kn}(K:P8 C S)(hh:Hnd C E){f:JG}(h:C.F f){a a':JC}(ha:AR C E a a')(hz:a.size<=6):J3 C ok E (Go.callFunc f a) (Go.callFunc f a') (Ib C ok S):=by
 rcases K.fs f h with⟨h1,h2⟩|h1|h1
 .exact J3.callFunc' K ha ⟨h1,λi x hi hx=>by grind⟩
 all_goals grind[J3.Jq2,J3.Jtb]
theorem J3.callMethod{S:Kn}(K:P8 C S)(hh:Hnd C E){v v':JJ}(hv:VR C E v v')(name:String)(hn:C.ms.contains name=true){a a':JC}(ha:AR C E a a')(hz:a.size<=5) :
  J3 C ok E (Go.callMethod v name a) (Go.callMethod v' name a') (Ib C ok S):=by
 unfold Go.callMethod;cases hv with
 |iface t ht h=>
  refine J3.bind' (R:=λ_ p p'=>p=C.P/\p'=C.P) (.program ⟨rfl,rfl⟩) λE1 s1 p p' hp=>?_;obtain⟨rfl,rfl⟩:=hp;refine J3.bind' (J3.method K.pr _ _ _ ht (hh.mono s1) name hn (h.mono s1)) λE2 s2 q q' hq=>?_;obtain⟨f,r⟩:=q;obtain⟨f',r'⟩:=q';obtain⟨h1,h2,h3⟩:=hq;obtain rfl:f=f':=h1;exact J3.Jfs K ((hh.mono s1).mono s2) h2 (AR.append (AR.one h3) ((ha.mono s1).mono s2)) (by simp;omega)
 |nilIface=>exact J3.runtimePanic hh _
 |_=>exact .stuck _
def J3.J9m{S:Kn}(K:P8 C S)(hh:Hnd C E){name:String}(hn:C.ms.contains name=true)(c c':JC){a a':JC}(ha:AR C E a a')(hz:a.size<=6) :
  J3 C ok E (Go.invoke (.fn (.method name) c) a) (Go.invoke (.fn (.method name) c') a') (Ib C ok S):=by
 unfold Go.invoke
 dsimp only
 cases e:a[0]? with
 |none=>exact J3.Jg λw=>⟨_,w,rfl,by simp⟩
 |some x=>
  obtain⟨x',Af,hr⟩:=ha.Ec e;rw[Af]
  dsimp only
  rw[show a'.size=a.size from ha.size.symm];have h1:1<=a.size:=by grind
  exact J3.callMethod K hh hr name hn (ha.extract 1 a.size) (by simp;omega)
def J3.nilAhead(K:Ov C):∀(n:Nat)(t:JH),C.Ed t=true->∀{v v':JJ}(name:String),C.mok name=true->VR C E v v'->J3 C ok E (Go.nilAhead n t v name) (Go.nilAhead n t v' name) (λ_ x x'=>x=x')
 |0,_,_,_,_,_,_,_=>.pure rfl
 |n+1,t,ht,v,v',name,hn,hv=>by
  unfold Go.nilAhead;refine J3.bind' (J3.typeInfo _) λE1 s1 i i' hi=>?_;obtain⟨rfl,hi⟩:=hi;cases hm:i.methods.find? (·.name == name)with
  |none=>exact J3.Jg λw=>⟨_,w,rfl,by simp⟩
  |some m=>
   have Eb:m.name=name:=by grind
   obtain⟨hp,f,p,hf⟩:=K.path t i m ht hi (Array.mem_of_find?_eq_some hm) (by grind)
   dsimp only
   rw[hp,hf];have e:∀x:JJ,Go.followBlind (#[]:Array FieldStep).toList t (some x)=Pure.pure (.ok (t,some x)):=λx=>rfl;rw[e,e];refine J3.bind' (R:=λ_ x x'=>x=.ok (t,some v)/\x'=.ok (t,some v')) (.pure ⟨rfl,rfl⟩) λE2 s2 x x' hx=>?_;obtain⟨rfl,rfl⟩:=hx
   dsimp only
   cases p with
   |true=>exact .pure rfl
   |false=>
    dsimp only
    refine J3.bind' (J3.underlying t) λE3 s3 u u' hu=>?_;obtain⟨rfl,hu⟩:=hu;cases u<;>first
     |exact .pure rfl
     |(cases hv<;>exact .pure rfl)
def J3.invoked{S:Kn}(K:P8 C S)(hh:Hnd C E){v v':JJ}(hv:VR C E v v'){a a':JC}(ha:AR C E a a')(hz:a.size<=3) :
  J3 C ok E (do let d <- Deferred.ofValue v a;Go.invoke d.target d.args) (do let d <- Deferred.ofValue v' a';Go.invoke d.target d.args) (Ib C ok S):=by
 cases hv with
 |func hf YX EX hc hy=>
  have h1:=AR.append ⟨YX,EX⟩ ha;cases hf with
  |func hf=>exact J3.Jfs K hh hf (AR.append h1 ⟨hc.1,hy⟩) (by simp;omega)
  |yield hl=>exact J3.yield hl h1
  |method hn=>
   rename_i a1 a1' c1 c1' nm;exact J3.J9m K hh (Cx.oN hn) c1 c1' h1 (by simp;omega)
 |nilFunc=>
  show J3 C ok E (Go.runtimePanic (α:=Next) .nilDeref) (Go.runtimePanic .nilDeref) (Ib C ok S);exact J3.runtimePanic hh _
 |_=>exact .stuck _
def J3.panic{v v':JJ}(hv:VR C E v v')(hn:v≠.nilIface):J3 C ok E (Instr.panic v) (Instr.panic v') (VR C):=by
 unfold Instr.panic;cases hv with
 |iface t ht h=>exact .goPanic (.iface t ht h)
 |nilIface=>grind
 |_=>exact .stuck _
def dA(C:Cx)(S:Kn)(fn:JG)(o:Oper)(n:Next):Prop:=
 ∀d,o.dst=some d->(S.own fn).contains d=true->∃v,n=.value v/\Kw C v
def J3.resolved{S:Kn}{fn:JG}(K:P8 C S)(hh:Hnd C E){ρ ρ':Operand->JJ}(hρ:EvR C S fn E ρ ρ'){c:Call}(hc:Jj1 C S fn c=true)(t:JH) :
  J3 C ok E (do let d <- resolve ρ c t;Go.invoke d.target d.args) (do let d <- resolve ρ' c t;Go.invoke d.target d.args) (Ib C ok S):=by
 obtain⟨callee,args,NU⟩:=c;simp only[Jj1,Bh]at hc;obtain⟨h1,h2⟩:=hc;have ha:=hρ.arr h1;cases callee with
 |invoke r name=>
  simp only[Bh]at h2;have hr:=hρ.at_ r h2.1.1;show J3 C ok E (Go.invoke (.fn (.method name) #[]) (#[ρ r]++args.map ρ)) (Go.invoke (.fn (.method name) #[]) (#[ρ' r]++args.map ρ')) _;have e:∀(x:JJ)(a:JC),Go.invoke (.fn (.method name) #[]) (#[x]++a)=Go.callMethod x name a:=λx a=>by
   have h0:(#[x]++a)[0]?=some x:=by grind
   unfold Go.invoke;simp[h0]
  grind[J3.callMethod]
 |builtin b=>
  cases b<;>first
   |(exfalso;exact Bool.false_ne_true h2)
   |skip
  .exact J3.val (J3.append K.pr hh NU t ha)
  .exact J3.val (J3.cap NU t ha)
  .exact J3.val (J3.clear K.pr NU t ha λr _=>C.lax (by grind) r)
  .exact J3.val (J3.copy NU t ha)
  .exact J3.val (J3.delete hh (by grind) NU t ha)
  .exact J3.val (J3.len NU t ha)
  .exact J3.val (J3.max NU t ha)
  .exact J3.val (J3.min NU t ha)
 |value f=>
  cases f with
  |func f=>
   have e:∀ρ:Operand->JJ,ρ (.func f)=.func (.func f) #[] #[]->(do let d <- resolve ρ ⟨.value (.func f),args,NU⟩ t;Go.invoke d.target d.args)=Go.callFunc f (args.map ρ):=λρ h=>by
    show(do let d <- Deferred.ofValue (ρ (.func f)) (args.map ρ);Go.invoke d.target d.args)=_;rw[h];show Go.callFunc f ((#[]++args.map ρ)++#[])=_;simp
   rw[e ρ (hρ.fn f).1,e ρ' (hρ.fn f).2]
   dsimp only at h2
   by_cases hx:S.xs.contains f=true
   .simp_all[if_pos,J3.Jq2]
   rw[if_neg hx]at h2;simp only[Jq1,Bh]at h2;obtain⟨h2,h3⟩:=h2;refine J3.callFunc' K ha ⟨h2,λi x hi hx=>?_⟩;rw[List.all_eq_true]at h3;have h4:=h3 i (by grind);simp only[Array.getElem?_map,Fh]at hx;obtain⟨y,hy,rfl⟩:=hx;rw[hy]at h4;exact hρ.own y h4
  |_=>
   simp only[Bh,decide_eq_true_eq]at h2;exact J3.invoked K hh (hρ.at_ _ h2.1) ha (by grind)
def J3.nilCheck{S:Kn}(K:Ov C)(hh:Hnd C E){ρ ρ':Operand->JJ}{x:Operand}(hx:VR C E (ρ x) (ρ' x))(o:Oper)(ho:o.op=.nilCheck x) :
  J3 C ok E (Go.execOp ρ o) (Go.execOp ρ' o) (Ib C ok S):=by
 unfold Go.execOp;rw[ho]
 dsimp only
 generalize ρ x=v at hx;generalize ρ' x=v' at hx;cases hx with
 |nilPtr=>exact J3.runtimePanic hh _
 |nilIface=>exact J3.runtimePanic hh _
 |nilFunc=>exact J3.runtimePanic hh _
 |func hf ha hx hc hy=>
  cases hf with
  |func hf=>exact .pure (.value (.func (.func hf) ha hx hc hy))
  |yield hf=>exact .pure (.value (.func (.yield hf) ha hx hc hy))
  |method hn=>
   rename_i a a' c c' nm;have fin:∀E1,Sub E E1->J3 C ok E1 (Pure.pure (Next.value (.func (.method nm) a c)):Sem Next) (Pure.pure (Next.value (.func (.method nm) a' c'))) (Ib C ok S):=λE1 s=>.pure (.value (VR.mono s (.func (.method hn) ha hx hc hy)))
   dsimp only
   have hA:AR C E a a':=⟨ha,hx⟩;cases e:a[0]? with
   |none=>rw[hA.VY e];exact fin E (.refl E)
   |some x=>
    obtain⟨x',Af,hr⟩:=hA.Ec e;rw[Af];cases hr with
    |nilIface=>exact J3.runtimePanic hh _
    |iface t ht h=>
     dsimp only
     refine J3.bind' (R:=λ_ p p'=>p=C.P/\p'=C.P) (.program ⟨rfl,rfl⟩) λE1 s1 p p' hp=>?_;obtain⟨rfl,rfl⟩:=hp;refine J3.bind' (J3.nilAhead K _ t ht nm hn (h.mono s1)) λE2 s2 b b' hb=>?_;obtain rfl:b=b':=hb;split
     .exact J3.bind' (R:=λ_ _ _=>False) (.unsupported _) λ_ _ _ _ h=>h.elim
     .exact fin _ (s1.trans s2)
    |_=>exact fin E (.refl E)
 |bool b=>exact .pure (.value (.bool b))
 |int k n=>exact .pure (.value (.int k n))
 |string x=>exact .pure (.value (.string x))
 |ptr o p h=>exact .pure (.value (.ptr o p h))
 |Jk l c=>exact .pure (.value (.Jk l c))
 |slice o p l c h=>exact .pure (.value (.slice o p l c h))
 |I5=>exact .pure (.value .I5)
 |MP=>exact .pure (.value .MP)
 |map h=>exact .pure (.value (.map h))
 |iface t ht h=>exact .pure (.value (.iface t ht h))
 |agg ha hx=>exact .pure (.value (.agg ha hx))
 |tuple ha hx=>exact .pure (.value (.tuple ha hx))
def Jcn{t:JH}(h:sF C t=true):C.st=false\/∀kt e,C.P.underlying t=some (.map kt e)->Kt C.P 20 kt=true:=by
 unfold sF at h
 grind
def Jxy{op:BinOp}{t:JH}{y:Operand}{v:JJ}(h:Jsf C op t y=true):(∀w,y=.const w->v=w)->(op=.eql\/op=.neq)->Jiz C t v:=by
 intro MK ho;have h':(!C.st || Kt C.P 20 t || Jmv C.P t y)=true:=by
  rcases ho with rfl|rfl<;>exact h
 simp only[Bool.or_eq_true,Bool.not_eq_true']at h';rcases h' with(h'|h')|h'
 .exact .inl h'
 .exact .inr (.inl ⟨20,h'⟩)
 .refine .inr (.inr ?_);unfold Jmv at h'
  grind
def J3.execOp{S:Kn}{fn:JG}(K:P8 C S)(hh:Hnd C E){ρ ρ':Operand->JJ}(hρ:EvR C S fn E ρ ρ')(o:Oper)(ho:Ia C S fn o.op=true) :
  J3 C ok E (Go.execOp ρ o) (Go.execOp ρ' o) (Ib C ok S):=by
 obtain⟨dst,op,ty,pos,after,guard⟩:=o;simp only at ho;have QH:∀(y:Operand)(w:JJ),y=.const w->ρ y=w:=λy w h=>by rw[h,hρ.con]
 cases op with
 |move x=>exact .pure (.value (hρ.at_ x ho))
 |assign x=>exact .pure (.value (hρ.at_ x ho))
 |pick c a b=>
  simp only[Ia,Bh]at ho;refine J3.bind' (J3.asBool (hρ.at_ c ho.1.1)) λE1 s1 b b' hb=>?_;obtain rfl:b=b':=hb;refine .pure (.value ?_);cases b
  .exact(hρ.at_ _ ho.2).mono s1
  .exact(hρ.at_ _ ho.1.2).mono s1
 |alloc t=>exact J3.val (J3.alloc K.pr hh t)
 |box t x=>exact J3.val (J3.box hh t (hρ.at_ x ho))
 |build t ps=>exact J3.val (J3.build K.pr t (by rw[Array.toList_map,Array.toList_map];exact hρ.parts ho))
 |buildSlice t n ps=>exact J3.val (J3.buildSlice K.pr hh t n (by rw[Array.toList_map,Array.toList_map];exact hρ.parts ho))
 |load t a=>exact J3.val (J3.loadAt t (hρ.at_ a ho))
 |store t a x=>simp only[Ia,Bh]at ho;exact J3.unit (J3.storeAt t (hρ.at_ a ho.1) (hρ.at_ x ho.2))
 |nilCheck x=>exact J3.nilCheck K.pr hh (hρ.at_ x ho) _ rfl
 |binOp op t x y yt=>
  simp only[Ia,Bh]at ho;refine J3.val (J3.bind' (J3.eqGuard op t x y (hρ.at_ x ho.1.1) (hρ.at_ y ho.1.2)) λE1 s1 _ _ _=>?_);exact J3.binOp (hh.mono s1) op t ((hρ.at_ x ho.1.1).mono s1) ((hρ.at_ y ho.1.2).mono s1) (Jxy ho.2 (QH y))
 |unOp op t x=>exact J3.val (J3.unary op (hρ.at_ x ho))
 |convert s d x=>simp only[Ia,Bh]at ho;exact J3.val (J3.convert hh s d (hρ.at_ x ho.1.1) ho.1.2 (Jmw ho.2))
 |makeInterface t x=>simp only[Ia,Bh]at ho;exact J3.val (J3.makeInterface t ho.2 (hρ.at_ x ho.1))
 |makeFunc f first captured=>
  cases f with
  |func f=>simp only[Ia,Bh]at ho;exact J3.val (J3.makeFunc (.func ho.1.1.1) (hρ.arr ho.1.1.2) (hρ.arr ho.1.2) (by grind))
  |method f=>simp only[Ia,Bh]at ho;exact J3.val (J3.makeFunc (.method ho.1.1.1) (hρ.arr ho.1.1.2) (hρ.arr ho.1.2) (by grind))
  |_=>cases ho
 |makeMap t r=>exact J3.val ((J3.makeMap hh t (hρ.opt ho)).mono λ_ _ _ _ h=>h.1)
 |makeSlice t l c=>simp only[Ia,Bh]at ho;exact J3.val (J3.makeSlice K.pr hh t (hρ.at_ l ho.1) (hρ.at_ c ho.2))
 |slice t x l h m=>simp only[Ia,Bh]at ho;exact J3.val (J3.sliceAt hh t (hρ.at_ x ho.1.1.1) (hρ.opt ho.1.1.2) (hρ.opt ho.1.2) (hρ.opt ho.2))
 |fieldAddr t x n=>exact J3.val (J3.fieldAt t (hρ.at_ x ho) n)
 |field t x n=>exact J3.val (J3.field t (hρ.at_ x ho) n)
 |indexAddr t x i=>simp only[Ia,Bh]at ho;exact J3.val (J3.indexAt hh t (hρ.at_ x ho.1) (hρ.at_ i ho.2))
 |index t x i=>simp only[Ia,Bh]at ho;exact J3.val (J3.index hh t (hρ.at_ x ho.1) (hρ.at_ i ho.2))
 |lookup t x i c=>simp only[Ia,Bh]at ho;exact J3.val (J3.lookup K.pr hh t 20 (hρ.at_ x ho.1.1) (hρ.at_ i ho.1.2) c (Jcn ho.2))
 |mapUpdate t m k x=>
  simp only[Ia,Bh,Bool.or_eq_true,Bool.not_eq_true']at ho;refine J3.unit (J3.mapUpdate hh t 20 (hρ.at_ m ho.1.1.1.1) (hρ.at_ k ho.1.1.1.2) (hρ.at_ x ho.1.1.2) (λr hr=>?_) (Jcn ho.2));rcases ho.1.2 with h|h
  .exact C.lax h r
  .exact(hρ.own m h).1 r hr
 |insert t m k x=>
  simp only[Ia,Bh,Bool.or_eq_true,Bool.not_eq_true']at ho;refine J3.unit (J3.mapUpdate hh t 20 (hρ.at_ m ho.1.1.1.1) (hρ.at_ k ho.1.1.1.2) (hρ.at_ x ho.1.1.2) (λr hr=>?_) (Jcn ho.2));rcases ho.1.2 with h|h
  .exact C.lax h r
  .exact(hρ.own m h).1 r hr
 |range t x=>exact J3.val (J3.range hh t (hρ.at_ x ho))
 |next x b=>exact J3.val (J3.next hh (hρ.at_ x ho) b ty)
 |entry x=>exact J3.val (J3.entry (hρ.at_ x ho))
 |typeAssert x xt t c=>exact J3.val (J3.typeAssert K.pr hh (hρ.at_ x ho) xt t c)
 |extract x n=>exact J3.val (J3.extract (hρ.at_ x ho) n)
 |call c=>exact J3.resolved K hh hρ ho ty
 |panic x=>simp only[Ia,Bh]at ho;exact J3.val (J3.panic (hρ.at_ x ho.1) (hρ.own x ho.2).2)
 |_=>cases ho
def J3.makeInterface'(t:JH)(ht:C.Ed t=true){x x':JJ}(hx:VR C E x x'):J3 C ok E (Instr.makeInterface t x) (Instr.makeInterface t x') (λE1 v v'=>VR C E1 v v'/\∃a b,v=.iface a b):=by
 unfold Instr.makeInterface;refine J3.bind' (J3.underlying t) λE1 s1 u u' hu=>?_;obtain⟨rfl,hu⟩:=hu;cases u<;>first|exact .stuck _|exact .pure ⟨.iface t ht (hx.mono s1),_,_,rfl⟩
def J3.execOp'{S:Kn}{fn:JG}(K:P8 C S)(hh:Hnd C E){ρ ρ':Operand->JJ}(hρ:EvR C S fn E ρ ρ')(o:Oper)(ho:Y0 C S fn o=true) :
  J3 C ok E (Go.execOp ρ o) (Go.execOp ρ' o) (λE1 n n'=>Ib C ok S E1 n n'/\dA C S fn o n):=by
 simp only[Y0,Bh]at ho;obtain⟨h1,h2⟩:=ho;have eG:(∀n,dA C S fn o n)->J3 C ok E (Go.execOp ρ o) (Go.execOp ρ' o) (λE1 n n'=>Ib C ok S E1 n n'/\dA C S fn o n):=λh=>
  (J3.execOp K hh hρ o h1).mono λ_ n _ _ hn=>⟨hn,h n⟩
 unfold Jwo at h2;cases hd:o.dst with
 |none=>exact eG λn d h=>by grind
 |some d=>
  rw[hd]at h2;simp only[Bool.or_eq_true,Bool.not_eq_true']at h2;rcases h2 with h2|h2
  .exact eG λn d' h h3=>by grind
  .have now:∀n,(∀v,n=.value v->Kw C v)->(∃v,n=.value v)->dA C S fn o n:=λn h ⟨v,hv⟩ _ _ _=>⟨v,hv,h v hv⟩;have ev:∀(ρ:Operand->JJ) op,o.op=op->Go.execOp ρ o=Go.execOp ρ { o with op:=op }:=λρ op h=>by subst h;rfl
   cases ho:o.op with
   |makeMap t r=>
    rw[ho]at h1;rw[ev ρ _ ho,ev ρ' _ ho];refine J3.bind' (J3.makeMap hh t (hρ.opt h1)) λE1 s1 v v' hv=>.pure ⟨.value hv.1,now _ (λu hu=>?_) ⟨_,rfl⟩⟩
    grind
   |makeInterface t x=>
    rw[ho]at h1;simp only[Ia,Bh]at h1;rw[ev ρ _ ho,ev ρ' _ ho];refine J3.bind' (J3.makeInterface' t h1.2 (hρ.at_ x h1.1)) λE1 s1 v v' hv=>.pure ⟨.value hv.1,now _ (λu hu=>?_) ⟨_,rfl⟩⟩;cases hu;obtain⟨_,a,b,rfl⟩:=hv;exact⟨λr hr=>by simp at hr,by simp⟩
   |move x=>
    rw[ho]at h1 h2;rw[ev ρ _ ho,ev ρ' _ ho];exact .pure ⟨.value (hρ.at_ x h1),now _ (λu hu=>by cases hu;exact hρ.own x h2) ⟨_,rfl⟩⟩
   |assign x=>
    rw[ho]at h1 h2;rw[ev ρ _ ho,ev ρ' _ ho];exact .pure ⟨.value (hρ.at_ x h1),now _ (λu hu=>by cases hu;exact hρ.own x h2) ⟨_,rfl⟩⟩
   |_=>grind
def Yu(C:Cx)(S:Kn)(fn:JG)(o:Oper):Bool:=
 S.df.contains fn && (S.own fn).isEmpty && match o.op with
  |.defer c=>c.args.all (Jy C S fn) && decide (c.args.size<=3) && (match c.callee with| .value x=>Jy C S fn x|_=>false)
  |.call c=>c.args.isEmpty && (match c.callee with| .builtin .recover=>true|_=>false)
  |_=>false
theorem J3.Jq3{S:Kn}{fn:JG}{ρ ρ':Operand->JJ}(hρ:EvR C S fn E ρ ρ')(o:Oper)(ho:Yu C S fn o=true) :
  J3 C ok E (Go.execOp ρ o) (Go.execOp ρ' o) (λE1 n n'=>(∃d d',n=.defer d/\n'=.defer d'/\Wy C E1 d d')\/(n=.recover/\n'=.recover)):=by
 obtain⟨dst,op,ty,pos,after,guard⟩:=o;simp only[Yu,Bh]at ho;obtain⟨_,ho⟩:=ho;cases op with
 |defer c=>
  obtain⟨callee,args,NU⟩:=c;simp only[Bh,decide_eq_true_eq]at ho;obtain⟨⟨h1,h3⟩,h2⟩:=ho;have ha:=hρ.arr h1;cases callee with
  |value x=>
   have hx:=hρ.at_ x h2;show J3 C ok E (do Pure.pure (Next.defer (<- Deferred.ofValue (ρ x) (args.map ρ)))) (do Pure.pure (Next.defer (<- Deferred.ofValue (ρ' x) (args.map ρ')))) _;generalize ρ x=v at hx;generalize ρ' x=v' at hx;cases hx with
   |func hf YX EX hc hy=>exact .pure (.inl ⟨_,_,rfl,rfl,.fn hf ⟨hc.1,hy⟩,AR.append ⟨YX,EX⟩ ha,λf c e=>by grind⟩)
   |nilFunc=>exact .pure (.inl ⟨_,_,rfl,rfl,.nil,ha,λf c e=>by cases e⟩)
   |_=>exact .stuck _
  |_=>cases h2
 |call c=>
  obtain⟨callee,args,NU⟩:=c;simp only[Bh]at ho;obtain⟨h1,h2⟩:=ho;cases callee with
  |builtin b=>
   cases b<;>first
    |(exfalso;exact Bool.false_ne_true h2)
    |exact .pure (.inr ⟨rfl,rfl⟩)
  |_=>cases h2
 |_=>cases ho
end
def Jco(C:Cx)(S:Kn)(fn:JG)(ops:Array Oper):Bool:=
 ops.all λo=>(Y0 C S fn o || Yu C S fn o) && (match o.dst with|some d=>!(C.hl fn).contains d|none=>true)
def dD(C:Cx)(fn:JG)(d:Option Nat):Bool:=match d with|some d=>!(C.hl fn).contains d|none=>true
def okD(C:Cx)(fn:JG)(ops:Array Oper)(i:Nat):Bool:=match ops[i]? with
 |some o=>dD C fn o.dst && (match o.guard with|none=>true|some (j,_)=>dD C fn ((ops[j]?).bind (·.dst)))
 |none=>true
def IC(C:Cx)(S:Kn)(fn:JG)(ops:Array Oper)(is:List Nat):Bool:=
 is.all λi=>okD C fn ops i && match ops[i]? with|some o=>Y0 C S fn o || Yu C S fn o|none=>true
section
variable{C:Cx}{S:Kn}{fn:JG}{ops:Array Oper}
def Jlr(h:Jco C S fn ops=true)(is:List Nat):IC C S fn ops is=true:=by
 unfold Jco at h;rw[Array.all_eq_true']at h;have hd:∀o∈ops,dD C fn o.dst=true:=λo ho=>by have:=h o ho;rw[Bh]at this;exact this.2
 unfold IC;rw[List.all_eq_true];intro i _;rw[Bh];refine⟨?_,?_⟩
 .unfold okD;cases ho:ops[i]? with
  |none=>rfl
  |some o=>
   simp only[Bh];refine⟨hd o (Ho ho),?_⟩;cases hg:o.guard with
   |none=>rfl
   |some p=>
    simp only;cases hj:ops[p.1]? with
    |none=>rfl
    |some o'=>grind
 grind
def Jcp{i:Nat}{is:List Nat}(h:IC C S fn ops (i::is)=true):okD C fn ops i=true:=by
 unfold IC at h
 grind
def J9n{i:Nat}{is:List Nat}(h:IC C S fn ops (i::is)=true):IC C S fn ops is=true:=by
 unfold IC at h ⊢
 grind
def Jxz{i:Nat}{is:List Nat}(h:IC C S fn ops (i::is)=true){o:Oper}(ho:ops[i]?=some o):Y0 C S fn o=true\/Yu C S fn o=true:=by
 unfold IC at h
 grind
end
def Ji(C:Cx)(S:Kn)(fn:JG):Code->Bool
 |.skip | .exit _ | .goto _ | .label _ | .ret | .refuse _=>true
 |.region _ ops _=>Jco C S fn ops
 |.seq a b=>Ji C S fn a && Ji C S fn b
 |.cond c a b=>Jy C S fn c && Ji C S fn a && Ji C S fn b
 |.block _ b | .loop b | .scope b=>Ji C S fn b
 |.rangeFunc f _ aS bd=>Jy C S fn f && Ji C S fn aS && Ji C S fn bd && (S.own fn).isEmpty && (C.hl fn).isEmpty && !(S.df.contains fn) && !C.st
def bG:ResultVar->Nat
 |.tmp t=>t
 |.cell a _=>a
def Yv(C:Cx)(f:JG):Prop:=∀fn,C.P.funcs[f]?=some fn->∀r∈fn.results,(C.hl f).contains (bG r)=false
abbrev okP(C:Cx)(S:Kn):JG->Code->Prop:=λf c=>Ji C S f c=true/\S.own f=[]/\Yv C f/\GY C f/\S.df.contains f=false
inductive Py(C:Cx)(S:Kn)(fn:JG)(E:J5):Item->Item->Prop
 |code{c}(h:Ji C S fn c=true):Py C S fn E (.code c) (.code c)
 |inBlock(id:Nat):Py C S fn E (.inBlock id) (.inBlock id)
 |inLoop{c}(h:Ji C S fn c=true):Py C S fn E (.inLoop c) (.inLoop c)
 |inScope{c}(h:Ji C S fn c=true):Py C S fn E (.inScope c) (.inScope c)
 |inRegion{ops}(is:List Nat)(h:IC C S fn ops is=true):Py C S fn E (.inRegion ops is) (.inRegion ops is)
 |inRangeFunc{l l'}(h:E l l'):Py C S fn E (.inRangeFunc l) (.inRangeFunc l')
 |endRangeFunc{l l'}(h:E l l'):Py C S fn E (.endRangeFunc l) (.endRangeFunc l')
 |beginRound:Py C S fn E .beginRound .beginRound
inductive GZ(C:Cx)(S:Kn)(fn:JG)(E:J5):List Item->List Item->Prop
 |nil:GZ C S fn E [] []
 |cons{x x' l l'}(h:Py C S fn E x x')(hl:GZ C S fn E l l'):GZ C S fn E (x::l) (x'::l')
structure TmR(C:Cx)(S:Kn)(fn:JG)(E:J5)(t t':JC):Prop where
 size:t.size=t'.size
 at_:∀(i:Nat)(x x':JJ),(C.hl fn).contains i=false->t[i]?=some x->t'[i]?=some x'->VR C E x x'
 own:∀(i:Nat)(x:JJ),(S.own fn).contains i=true->t[i]?=some x->Kw C x
section
variable{C:Cx}{S:Kn}{fn:JG}{E E1:J5}
def Py.mono(s:Sub E E1){x x':Item}(h:Py C S fn E x x'):Py C S fn E1 x x':=by
 cases h with
 |code h=>exact .code h
 |inBlock id=>exact .inBlock id
 |inLoop h=>exact .inLoop h
 |inScope h=>exact .inScope h
 |inRegion is h=>exact .inRegion is h
 |inRangeFunc h=>exact .inRangeFunc (s _ _ h)
 |endRangeFunc h=>exact .endRangeFunc (s _ _ h)
 |beginRound=>exact .beginRound
def GZ.mono(s:Sub E E1){l l':List Item}(h:GZ C S fn E l l'):GZ C S fn E1 l l':=by
 induction h with
 |nil=>exact .nil
 |cons h _ ih=>exact .cons (h.mono s) ih
def TmR.mono(s:Sub E E1){t t':JC}(h:TmR C S fn E t t'):TmR C S fn E1 t t':=
 ⟨h.size,λi x x' a b c=>(h.at_ i x x' a b c).mono s,h.own⟩
def Jmx(id:Nat){l l':List Item}(h:GZ C S fn E l l') :
  ((∀k,exitTo id (l++k)=exitTo id k)/\∀k,exitTo id (l'++k)=exitTo id k)\/∃y y',(∀k,exitTo id (l++k)=some (y++k))/\GZ C S fn E y y'/\∀k,exitTo id (l'++k)=some (y'++k):=by
 induction h with
 |nil=>grind
 |cons h hl ih=>
  cases h with
  |inBlock id'=>
   simp only[exitTo,G9]
   grind
  |_=>simpa only[exitTo,G9]using ih
def Jj4{c r:Code}{l:Nat}(h:Ji C S fn c=true)(hf:findLabel c l=some r):Ji C S fn r=true:=by
 induction c generalizing r with
 |seq a b iha ihb=>
  simp only[Ji,Bh]at h;simp only[findLabel]at hf;cases ha:findLabel a l with
  |some x=>rw[ha]at hf;cases hf;simp only[Ji,Bh];grind
  |none=>grind
 |label x=>
  simp only[findLabel]at hf;split at hf
  .cases hf;rfl
  .cases hf
 |_=>simp[findLabel]at hf
def Jmy(n:Nat){l l':List Item}(h:GZ C S fn E l l') :
  ((∀k,gotoIn n (l++k)=gotoIn n k)/\∀k,gotoIn n (l'++k)=gotoIn n k)\/∃y y',(∀k,gotoIn n (l++k)=some (y++k))/\GZ C S fn E y y'/\∀k,gotoIn n (l'++k)=some (y'++k):=by
 induction h with
 |nil=>grind
 |cons h hl ih=>
  cases h with
  |inScope h=>
   simp only[gotoIn,G9];split
   .rename_i r hr;exact .inr ⟨_,_,λk=>rfl,.cons (.code (Jj4 h hr)) (.cons (.inScope h) hl),λk=>rfl⟩
   .exact ih
  |_=>simpa only[gotoIn,G9]using ih
def TmR.set{t t':JC}(h:TmR C S fn E t t')(i:Nat){v v':JJ}(hv:VR C E v v')(ho:(S.own fn).contains i=true->Kw C v) :
  TmR C S fn E (t.setIfInBounds i v) (t'.setIfInBounds i v'):=by
 refine⟨by simp[h.size],λj x x' hj hx Af=>?_,λj x hj hx=>?_⟩
 .rw[Gj]at hx Af;by_cases KJ:i=j
  .grind
  .simp only[KJ,if_false]at hx Af;exact h.at_ j x x' hj hx Af
 .rw[Gj]at hx;by_cases KJ:i=j
  .grind
  .simp only[KJ,if_false]at hx;exact h.own j x hj hx
theorem Kw.undef:Kw C JA:=⟨λr h=>by simp[Go.undef]at h,by simp[Go.undef]⟩
def TmR.getD{t t':JC}(h:TmR C S fn E t t'){i:Nat}(hi:(C.hl fn).contains i=false):VR C E (t.getD i JA) (t'.getD i JA):=by
 rw[Bq,Bq];by_cases hs:i<t.size
 .have D9:i<t'.size:=h.size▸hs;rw[Bz hs,Bz D9];exact h.at_ i _ _ hi (Bz hs) (Bz D9)
 .rw[Cc (Nat.le_of_not_lt hs),Cc (h.size▸Nat.le_of_not_lt hs)];exact .undef
def EvR.Jmz{fr fr':Frame}(h:TmR C S fn E fr.tmps fr'.tmps)(hg:∀g,S.gs.contains g=true->E g g):EvR C S fn E fr.eval fr'.eval:=by
 refine⟨λx hx=>?_,λx hx=>?_,λf=>⟨rfl,rfl⟩,λv=>rfl⟩
 .cases x with
  |tmp t=>exact h.getD (by simpa[Jy]using hx)
  |const v=>exact nD 20 v hx
  |global g=>exact .ptr 0 none (hg g hx)
  |func f=>exact .func (.func hx) rfl (λi x x' h=>by simp at h) ⟨rfl,by simp⟩ (λi x x' h=>by simp at h)
 .cases x with
  |tmp t=>
   show Kw C (fr.tmps.getD t JA);rw[Bq];cases e:fr.tmps[t]? with
   |none=>exact Kw.undef
   |some v=>exact h.own t v hx e
  |_=>cases hx
def TmR.enter{f:JG}{a a':JC}(ha:AR C E a a')(hf:Ent C S f a)(n:Nat) :
  TmR C S f E (a++Array.replicate (n-a.size) JA) (a'++Array.replicate (n-a'.size) JA):=by
 have h:=ha.append (AR.replicate (n:=n-a.size) (VR.undef (C:=C) (E:=E)));rw[show a'.size=a.size from ha.size.symm];refine⟨h.size,λi x x' _=>h.at_ i x x',λi x hi hx=>?_⟩;rw[Array.getElem?_append]at hx;split at hx
 .exact hf.2 i x hi hx
 grind[Kw.undef]
end
inductive KX(C:Cx)(E:J5):List PanicEntry->List PanicEntry->Prop
 |nil:KX C E [] []
 |cons{v v' l l'}(r g:Bool)(h:VR C E v v')(hl:KX C E l l'):KX C E ({ v,recovered:=r,goexit:=g }::l) ({ v:=v',recovered:=r,goexit:=g }::l')
inductive UK(C:Cx)(E:J5):FrameMode->FrameMode->Prop
 |run:UK C E .run .run
 |returning:UK C E .returning .returning
 |panicking{c c'}(h:KX C E c c'):UK C E (.panicking c) (.panicking c')
structure FrR(C:Cx)(S:Kn)(E:J5)(fr fr':Frame):Prop where
 fn:fr'.fn=fr.fn
 body:GY C fr.fn
 kind:fr.kind=.normal\/fr.kind=.deferred
 kind':fr'.kind=fr.kind
 round:Di E fr.roundOf fr'.roundOf
 tmps:TmR C S fr.fn E fr.tmps fr'.tmps
 todo:GZ C S fr.fn E fr.todo fr'.todo
 defers:Fe C E fr.defers fr'.defers
 mode:UK C E fr.mode fr'.mode
 hol:Yv C fr.fn
 rd:fr.roundOf≠none->S.df.contains fr.fn=false
def Jq:Deferred:={ target:=.fn (.method "") #[],args:=#[] }
def Js:Item:=.code (.refuse "")
structure Bot where
 fn:JG
 tm:JC
 k:List Item
 rest:List Nat
 kind:CallKind
 defers:List Deferred
 cs:List Frame
inductive Pz(C:Cx)(S:Kn)(cs:Bot)(fn:JG)(E:J5):List Item->List Item->Prop
 |code{l l'}(hr:cs.rest=[])(h:GZ C S fn E l l'):Pz C S cs fn E (l++[Js]) (l'++cs.k)
 |ops{ops:Array Oper}(is:List Nat)(h:IC C S fn ops is=true):Pz C S cs fn E [.inRegion ops is,Js] (.inRegion ops (is++cs.rest)::cs.k)
structure Ox(C:Cx)(S:Kn)(cs:Bot)(E:J5)(fr fr':Frame):Prop where
 fn:fr'.fn=fr.fn
 body:GY C fr.fn
 kind:fr.kind=.normal
 early:fr'.kind≠.early
 round:fr.roundOf=none
 round':fr'.roundOf=none
 tmps:TmR C S fr.fn E fr.tmps fr'.tmps
 todo:Pz C S cs fr.fn E fr.todo fr'.todo
 defers:fr.defers=[Jq]
 mode:fr.mode=.run
 RV:fr'.mode=.run
 Jkf:S.df.contains fr.fn=false
 Jkg:C.hl fr.fn≠[]
 kind2:fr'.kind=cs.kind
 dfr:fr'.defers=cs.defers
 fn2:fr'.fn=cs.fn
 hold:∀i,(C.hl fr.fn).contains i=true->fr'.tmps[i]?=cs.tm[i]?
structure Waits(S:Kn)(f:Frame):Prop where
 own:∀ops i r k d,f.todo=.inRegion ops (i::r)::k->(ops[i]?).bind (·.dst)=some d->(S.own f.fn).contains d=false
 head:(∃ops i r k,f.todo=.inRegion ops (i::r)::k)\/∃l k,f.todo=.inRangeFunc l::k
inductive Ic(C:Cx)(S:Kn)(E:J5)(cs:Bot):CallKind->List Frame->List Frame->Prop
 |bot{k c c'}(h:Ox C S cs E c c')(ho:k=.normal->Waits S c):Ic C S E cs k [c] (c'::cs.cs)
 |cons{k f f' l l'}(h:FrR C S E f f')(ho:k=.normal->Waits S f)(hl:Ic C S E cs f.kind l l'):Ic C S E cs k (f::l) (f'::l')
inductive StR(C:Cx)(S:Kn)(E:J5)(cs:Bot):List Frame->List Frame->Prop
 |bot{c c'}(h:Ox C S cs E c c'):StR C S E cs [c] (c'::cs.cs)
 |cons{f f' l l'}(h:FrR C S E f f')(hl:Ic C S E cs f.kind l l'):StR C S E cs (f::l) (f'::l')
structure GR(C:Cx)(S:Kn)(E:J5)(cs:Bot)(g g':JF):Prop where
 stack:StR C S E cs (g.frame::g.callers) (g'.frame::g'.callers)
 run:g.status=.running
 run':g'.status=.running
 dying:g.dying=none
 dying':g'.dying=none
 offers:g'.offers=none
def UW(g:JF):Prop:=g.callers=[]/\(∃c,g.frame.mode=.panicking c)/\g.frame.defers=[Jq]/\g.dying=none
def sH(g:JF):Prop:=g.callers=[]/\g.frame.mode=.run/\(g.frame.todo=[Js]\/∃ops,g.frame.todo=[.inRegion ops [],Js])
structure dG(C:Cx)(S:Kn)(E:J5)(cs:Bot)(g g':JF):Prop where
 alone:g.callers=[]
 below:g'.callers=cs.cs
 fn:g'.frame.fn=g.frame.fn
 mode:g.frame.mode=.returning
 RV:g'.frame.mode=.returning
 tmps:TmR C S g.frame.fn E g.frame.tmps g'.frame.tmps
 defers:g.frame.defers=[Jq]
 run:g.status=.running
 run':g'.status=.running
 dying:g.dying=none
 dying':g'.dying=none
 offers:g'.offers=none
 kind2:g'.frame.kind=cs.kind
 dfr:g'.frame.defers=cs.defers
 round':g'.frame.roundOf=none
 fn2:g'.frame.fn=cs.fn
 hold:∀i,(C.hl g.frame.fn).contains i=true->g'.frame.tmps[i]?=cs.tm[i]?
section
variable{C:Cx}{S:Kn}{fn:JG}{E E1:J5}{cs:Bot}
def KX.mono(s:Sub E E1){l l':List PanicEntry}(h:KX C E l l'):KX C E1 l l':=by
 induction h with
 |nil=>exact .nil
 |cons r g h _ ih=>exact .cons r g (h.mono s) ih
def KX.append{a a' b b':List PanicEntry}(h:KX C E a a')(k:KX C E b b'):KX C E (a++b) (a'++b'):=by
 induction h with
 |nil=>exact k
 |cons r g h _ ih=>exact .cons r g h ih
def UK.mono(s:Sub E E1){l l':FrameMode}(h:UK C E l l'):UK C E1 l l':=by
 cases h with
 |run=>exact .run
 |returning=>exact .returning
 |panicking h=>exact .panicking (h.mono s)
def FrR.mono(s:Sub E E1){f f':Frame}(h:FrR C S E f f'):FrR C S E1 f f':=
 ⟨h.fn,h.body,h.kind,h.kind',h.round.mono' (s · ·),h.tmps.mono s,h.todo.mono s,h.defers.mono s,h.mode.mono s,h.hol,h.rd⟩
def Pz.mono(s:Sub E E1){l l':List Item}(h:Pz C S cs fn E l l'):Pz C S cs fn E1 l l':=by
 cases h with
 |code hr h=>exact .code hr (h.mono s)
 |ops is h=>exact .ops is h
def Ox.mono(s:Sub E E1){f f':Frame}(h:Ox C S cs E f f'):Ox C S cs E1 f f':=
 { h with tmps:=h.tmps.mono s,todo:=h.todo.mono s }
def Ic.mono(s:Sub E E1){k:CallKind}{l l':List Frame}(h:Ic C S E cs k l l'):Ic C S E1 cs k l l':=by
 induction h with
 |bot h ho=>exact .bot (h.mono s) ho
 |cons h ho _ ih=>exact .cons (h.mono s) ho ih
def StR.mono(s:Sub E E1){l l':List Frame}(h:StR C S E cs l l'):StR C S E1 cs l l':=by
 cases h with
 |bot h=>exact .bot (h.mono s)
 |cons h hl=>exact .cons (h.mono s) (hl.mono s)
def StR.low{l l':List Frame}{f f':Frame}(h:StR C S E cs (f::l) (f'::l'))(k:CallKind)(ho:k=.normal->Waits S f):Ic C S E cs k (f::l) (f'::l'):=by
 cases h with
 |bot h=>exact .bot h ho
 |cons h hl=>exact .cons h ho hl
def UW.ends{P:Program}{g:JF}{w:JE}(h:UW g):∃o w1 es,stepG P true g w=.ended o w1 es:=by obtain⟨fr,callers,st,dy,of⟩:=g;obtain⟨h1,h2,h3,h4⟩:=h;simp only at h1 h2 h3 h4;subst h1 h4;obtain⟨c,hm⟩:=h2;exact⟨_,_,_,by simp[stepG,hm,unwind,h3,Jq,callDeferred,invoke];rfl⟩
end
theorem Yl{es:Array Event}{r:GStep}{g:JF}{w:JE}{e1:Array Event}(h:GStep.after es r=.go g w e1):∃e2,r=.go g w e2:=by
 cases r<;>simp[GStep.after]at h
 simp_all
def Jl0{P:Program}{q:Question}{w w1:JE}{n:Nat}(h:(choose q).run P w=.ok n w1):w.drawn<=w1.drawn:=by have:=IZ P (choose q) w;rw[h]at this;exact this
def Jn0{P:Program}{fr:Frame}{callers:List Frame}{dying:Option Dying}{b:Nat}{w w1:JE}{g:JF}{es:Array Event}(h:early P fr callers dying b w=.go g w1 es):w.drawn<=w1.drawn:=by
 unfold early at h
 dsimp only at h
 rcases TF h with h|h
 .grind
 cases hs:P.stepOf b with
 |none=>grind
 |some f=>
  rw[hs]at h
  dsimp only at h
  rcases TF h with h|h
  .grind
  rcases TF h with h|h
  .grind
  generalize P.found w P.funcs.size f=x at h;generalize(fr.kind == .early)=y at h;cases x<;>cases y<;>dsimp only at h<;>try cases h
  .grind
  .rcases TF h with h|h
   .grind
   rcases TF h with h|h
   .grind
   cases hc:(choose (.early b)).run P w with
   |halt x w2=>grind
   |ok n w2=>
    have hm:=Jl0 hc
    grind
  grind
theorem Jcb{fr:Frame}{l:List ByteArray}{m:String}{b:Bool}{w w1:JE}{g:JF}{es:Array Event}(h:dieOf fr l m b w=.go g w1 es):g.dying≠none:=by
 unfold dieOf at h
 grind
theorem J5g{fr:Frame}{m:String}{w w1:JE}{g:JF}{es:Array Event}(h:endThrow fr m w=.go g w1 es):g.dying≠none:=Jcb h
theorem J7z{P:Program}{fr:Frame}{callers:List Frame}{m:String}{w w1:JE}{g:JF}{es:Array Event}(h:endFatal P fr callers none m w=.go g w1 es):g.dying≠none:=by
 unfold endFatal at h
 grind[Jcb]
def J8o{P:Program}{fr:Frame}{callers:List Frame}{s:Sem Next}{w w1:JE}{g:JF}{es:Array Event}(h:stepG.apply P true fr callers none s w=.go g w1 es)(hd:g.dying=none) :
  (s.run P w).left.drawn<=w1.drawn:=by
 unfold stepG.apply at h;simp only[Sem.runT_eq,if_true]at h;cases hr:s.run P w with
 |ok n w2=>
  rw[hr]at h;obtain⟨e2,h⟩:=Yl h;show w2.drawn<=w1.drawn;cases n with
  |recover=>grind
  |callThen _ _ _ _=>grind
  |row _ _=>grind
  |stack _ _=>grind
  |spawn d=>
   dsimp only at h
   rcases TF h with h|h
   all_goals grind[J5g]
  |_=>grind
 |halt x w2=>
  rw[hr]at h;obtain⟨e2,h⟩:=Yl h;show w2.drawn<=w1.drawn;cases x with
  |fatal m=>grind[J7z]
  |throw m=>grind[J5g]
  |unsupported u=>
   cases u with
   |initOrder b=>exact Jn0 h
   |_=>cases h
  |_=>grind
def Jbu{P:Program}{fr:Frame}{callers:List Frame}{d:Deferred}{w w1:JE}{g:JF}{es:Array Event}(h:callDeferred P fr callers none d w=.go g w1 es)(hd:g.dying=none) :
  ((invoke d.target d.args).run P w).left.drawn<=w1.drawn:=by
 unfold callDeferred at h;rcases TF h with h|h
 .cases h
 simp only[Sem.runT_eq]at h;cases hr:(invoke d.target d.args).run P w with
 |ok n w2=>
  rw[hr]at h;obtain⟨e2,h⟩:=Yl h;show w2.drawn<=w1.drawn;cases n with
  |recover=>grind
  |alone b v=>grind
  |coroswitch c b=>cases b<;>cases h
  |_=>grind
 |halt x w2=>
  rw[hr]at h;obtain⟨e2,h⟩:=Yl h;show w2.drawn<=w1.drawn;cases x with
  |fatal m=>grind[J7z]
  |throw m=>grind[J5g]
  |_=>grind
end Go.Sim
