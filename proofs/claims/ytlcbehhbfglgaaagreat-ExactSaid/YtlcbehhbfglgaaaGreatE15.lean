/- PROVED HERE: laws that the statement rests on (parts Sp, Sq). Conditions: none. -/
import Derived.Test.YtlcbehhbfglgaaaGreatE14
set_option linter.all false
namespace Go.Sim
structure Kn where
 own:FuncId→List Nat
 cs:List FuncId
 gs:List Nat
 df:List FuncId
 xs:List FuncId
def plainV:Nat→Value→Bool
 | _,.bool _|_,.int _ _|_,.string _|_,.pointer none|_,.slice none _ _|_,.map none|_,.nilFunc|_,.nilIface|_,.chan none=>true
 | n+1,.agg a=>a.all (plainV n)
 | n+1,.tuple a=>a.all (plainV n)
 | _,_=>false
section
variable {C:Cx} {ok:FuncId→Code→Prop} {E:BRel}
theorem plainV_rel:∀ (n:Nat) (v:Value),plainV n v=true→VR C E v v
 | 0,v,h=>by
  cases v with
  | bool b=>exact .bool b
  | int k n=>exact .int k n
  | string s=>exact .string s
  | pointer a=>cases a with|none=>exact .nilPtr|some a=>simp [plainV] at h
  | slice a l c=>cases a with|none=>exact .nilSlice l c|some a=>simp [plainV] at h
  | map a=>cases a with|none=>exact .nilMap|some a=>simp [plainV] at h
  | nilFunc=>exact .nilFunc
  | nilIface=>exact .nilIface
  | chan a=>cases a with|none=>exact .nilChan|some a=>simp [plainV] at h
  | _=>simp [plainV] at h
 | n+1,v,h=>by
  cases v with
  | bool b=>exact .bool b
  | int k n=>exact .int k n
  | string s=>exact .string s
  | pointer a=>cases a with|none=>exact .nilPtr|some a=>simp [plainV] at h
  | slice a l c=>cases a with|none=>exact .nilSlice l c|some a=>simp [plainV] at h
  | map a=>cases a with|none=>exact .nilMap|some a=>simp [plainV] at h
  | nilFunc=>exact .nilFunc
  | nilIface=>exact .nilIface
  | chan a=>cases a with|none=>exact .nilChan|some a=>simp [plainV] at h
  | agg a=>
   refine .agg rfl fun i x x' hx hx'=>?_
   rw [hx] at hx';cases hx'
   simp only [plainV] at h
   exact plainV_rel n x (by rw [Array.all_eq_true'] at h;exact h x (Array.mem_of_getElem? hx))
  | tuple a=>
   refine .tuple rfl fun i x x' hx hx'=>?_
   rw [hx] at hx';cases hx'
   simp only [plainV] at h
   exact plainV_rel n x (by rw [Array.all_eq_true'] at h;exact h x (Array.mem_of_getElem? hx))
  | _=>simp [plainV] at h
def okOpnd (C:Cx) (S:Kn) (fn:FuncId):Operand→Bool
 | .tmp t=>!(C.hl fn).contains t
 | .const v=>plainV 20 v
 | .global g=>S.gs.contains g
 | .func f=>C.fs.contains f
def ownOpnd (S:Kn) (fn:FuncId):Operand→Bool
 | .tmp t=>(S.own fn).contains t
 | _=>false
def okArgs (C:Cx) (S:Kn) (fn f:FuncId) (args:Array Operand):Bool:=
 S.cs.contains f && (S.own f).all fun i=>match args[i]? with|some x=>ownOpnd S fn x|none=>true
def okCall (C:Cx) (S:Kn) (fn:FuncId) (c:Call):Bool:=
 c.args.all (okOpnd C S fn) &&
 match c.callee with
 | .value (.func f)=>if S.xs.contains f then c.args.size == 2 else okArgs C S fn f c.args
 | .value x=>okOpnd C S fn x && decide (c.args.size≤3)
 | .invoke r name=>okOpnd C S fn r && C.ms.contains name && decide (c.args.size≤3)
 | .builtin b=>match b with | .append | .len | .cap | .copy | .min | .max=>true | .clear=>!C.st|_=>false
def nilAt (P:Program) (t:TypeId):Operand→Bool
 | .const (.pointer none)=>(match P.underlying t with|some (.pointer _)=>true|_=>false)
 | .const (.slice none 0 0)=>(match P.underlying t with|some (.slice _)=>true|_=>false)
 | _=>false
def eqOk (C:Cx) (op:BinOp) (t:TypeId) (y:Operand):Bool:=
 match op with
 | .eql | .neq=>!C.st || flatT C.P 20 t || nilAt C.P t y
 | _=>true
def keyOk (C:Cx) (t:TypeId):Bool:=
 !C.st || match C.P.underlying t with|some (.map kt _)=>flatT C.P 20 kt|_=>true
def okOp (C:Cx) (S:Kn) (fn:FuncId):Op→Bool
 | .move x | .assign x | .box _ x | .load _ x | .nilCheck x | .unOp _ _ x | .fieldAddr _ x _ | .field _ x _ | .range _ x
 | .next x _ | .entry x | .typeAssert x _ _ _ | .extract x _=>okOpnd C S fn x
 | .makeInterface t x=>okOpnd C S fn x && C.tyOk t
 | .panic x=>okOpnd C S fn x && ownOpnd S fn x
 | .alloc _=>true
 | .convert s d x=>okOpnd C S fn x && convOk C.P s d && (!C.st || match C.P.underlying d with|some (.slice _)=>false|_=>true)
 | .pick c a b=>okOpnd C S fn c && okOpnd C S fn a && okOpnd C S fn b
 | .build _ ps | .buildSlice _ _ ps=>ps.toList.all fun p=>okOpnd C S fn p.2
 | .store _ a v | .makeSlice _ a v | .indexAddr _ a v | .index _ a v=>okOpnd C S fn a && okOpnd C S fn v
 | .lookup t a v _=>okOpnd C S fn a && okOpnd C S fn v && keyOk C t
 | .binOp op t a v _=>okOpnd C S fn a && okOpnd C S fn v && eqOk C op t v
 | .makeFunc (.func f) first captured=>C.fs.contains f && first.all (okOpnd C S fn) && captured.all (okOpnd C S fn) && decide (first.size+captured.size≤3)
 | .makeFunc (.method n) first captured=>C.ms.contains n && first.all (okOpnd C S fn) && captured.all (okOpnd C S fn) && decide (first.size+captured.size≤3)
 | .makeMap _ r=>r.all (okOpnd C S fn)
 | .slice _ x l h m=>okOpnd C S fn x && l.all (okOpnd C S fn) && h.all (okOpnd C S fn) && m.all (okOpnd C S fn)
 | .mapUpdate t m k v | .insert t m k v=>okOpnd C S fn m && okOpnd C S fn k && okOpnd C S fn v && (!C.st || ownOpnd S fn m) && keyOk C t
 | .call c=>okCall C S fn c
 | _=>false
def okDst (C:Cx) (S:Kn) (fn:FuncId) (o:Oper):Bool:=
 match o.dst with
 | some d=>!(S.own fn).contains d || (match o.op with | .makeMap _ _=>true | .makeInterface t _=>(match C.P.underlying t with|some (.interface _)=>false|_=>true) | .move x | .assign x=>ownOpnd S fn x|_=>false)
 | none=>true
def okOper (C:Cx) (S:Kn) (fn:FuncId) (o:Oper):Bool:=okOp C S fn o.op && okDst C S fn o
def Ent (C:Cx) (S:Kn) (f:FuncId) (a:Array Value):Prop:=
 S.cs.contains f=true∧∀ (i:Nat) (x:Value),(S.own f).contains i=true→a[i]?=some x→OwnV C x
theorem noBytes_of {d:TypeId} (h:(!C.st || match C.P.underlying d with|some (.slice _)=>false|_=>true)=true):C.st=false∨∀ e,C.P.underlying d≠some (.slice e):=by
 cases hs:C.st with
 | false=>exact .inl rfl
 | true=>
  refine .inr fun e he=>?_
  rw [hs,he] at h
  simp at h
structure KnOk (C:Cx) (S:Kn):Prop where
 pr:PrOk C
 cs:∀ f,S.cs.contains f=true→HasBody C f
 fs:∀ f,C.F f→S.cs.contains f=true∧∀ i,(S.own f).contains i=true→6≤i
 xs:∀ f,S.xs.contains f=true→∃ fn ps rs,C.P.funcs[f]?=some fn∧(fn.name == "runtime.NumGoroutine")=false∧fn.body=none∧Go.Extern.findNext fn=none∧Go.Extern.find fn=some (Go.Extern.SlicesOverlaps.overlaps ps rs)
structure EvR (C:Cx) (S:Kn) (fn:FuncId) (E:BRel) (ρ ρ':Operand→Value):Prop where
 at_:∀ x,okOpnd C S fn x=true→VR C E (ρ x) (ρ' x)
 own:∀ x,ownOpnd S fn x=true→OwnV C (ρ x)
 fn:∀ f,ρ (.func f)=.func (.func f) #[] #[]∧ρ' (.func f)=.func (.func f) #[] #[]
 con:∀ v,ρ (.const v)=v
theorem EvR.arr {S:Kn} {fn:FuncId} {ρ ρ':Operand→Value} (h:EvR C S fn E ρ ρ') {xs:Array Operand} (hx:xs.all (okOpnd C S fn)=true):AR C E (xs.map ρ) (xs.map ρ'):=
 AR.map xs fun x hm=>h.at_ x (by rw [Array.all_eq_true'] at hx;exact hx x hm)
theorem EvR.opt {S:Kn} {fn:FuncId} {ρ ρ':Operand→Value} (h:EvR C S fn E ρ ρ') {x:Option Operand} (hx:x.all (okOpnd C S fn)=true):OptR (VR C E) (x.map ρ) (x.map ρ'):=by
 cases x with
 | none=>trivial
 | some x=>exact h.at_ x (by simpa using hx)
theorem EvR.parts {S:Kn} {fn:FuncId} {ρ ρ':Operand→Value} (h:EvR C S fn E ρ ρ'):∀ {ps:List (Nat × Operand)},(ps.all fun p=>okOpnd C S fn p.2)=true→PartsR C E (ps.map fun (i,x)=>(i,ρ x)) (ps.map fun (i,x)=>(i,ρ' x))
 | [],_=>.nil
 | p::ps,hp=>by
  simp only [List.all_cons,Bool.and_eq_true] at hp
  exact .cons (h.at_ _ hp.1) (EvR.parts h hp.2)
abbrev ValR (C:Cx) (ok:FuncId→Code→Prop) (S:Kn):BRel→Next→Next→Prop:=NextR C ok (Ent C S)
theorem SimR.val {S:Kn} {s s':Sem Value} (h:SimR C ok E s s' (VR C)):SimR C ok E (do Pure.pure (Next.value (← s))) (do Pure.pure (Next.value (← s'))) (ValR C ok S):=
 SimR.bind' h fun _ _ _ _ hv=>.pure (.value hv)
theorem SimR.unit {S:Kn} {s s':Sem Unit} (h:SimR C ok E s s' (fun _ _ _=>True)):SimR C ok E (do s;Pure.pure Next.skip) (do s';Pure.pure Next.skip) (ValR C ok S):=
 SimR.bind' h fun _ _ _ _ _=>.pure .skip
theorem SimR.callFunc' {S:Kn} (K:KnOk C S) {f:FuncId} {a a':Array Value} (ha:AR C E a a') (h:Ent C S f a):SimR C ok E (Go.callFunc f a) (Go.callFunc f a') (ValR C ok S):=
 (SimR.callFunc (K.cs f h.1) ha).mono fun E1 x x' _ hx=>by obtain ⟨rfl,rfl,hx⟩:=hx;exact .enter hx h
theorem SimR.callOv {S:Kn} (K:KnOk C S) {f:FuncId} (hf:S.xs.contains f=true) {a a':Array Value} (ha:AR C E a a') (h2:a.size=2):SimR C ok E (Go.callFunc f a) (Go.callFunc f a') (ValR C ok S):=by
 obtain ⟨fn,ps,rs,k1,k2,k3,k4,k5⟩:=K.xs f hf
 have h2':a'.size=2:=ha.size▸h2
 obtain ⟨x,y,rfl⟩:∃ x y,a=#[x,y]:=⟨a[0],a[1],by apply Array.ext<;>simp [h2];intro i hi;match i,hi with|0,_=>exact fun _=>rfl|1,_=>exact fun _=>rfl⟩
 obtain ⟨x',y',rfl⟩:∃ x y,a'=#[x,y]:=⟨a'[0],a'[1],by apply Array.ext<;>simp [h2'];intro i hi;match i,hi with|0,_=>exact fun _=>rfl|1,_=>exact fun _=>rfl⟩
 have hx:VR C E x x':=ha.at_ 0 _ _ (by simp) (by simp)
 have hy:VR C E y y':=ha.at_ 1 _ _ (by simp) (by simp)
 unfold Go.callFunc
 refine SimR.bind' (R:=fun _ p p'=>p=C.P∧p'=C.P) (.program ⟨rfl,rfl⟩) fun E1 s1 p p' hp=>?_
 obtain ⟨rfl,rfl⟩:=hp
 rw [k1]
 dsimp only
 simp only [k2,k3,k4,k5,Option.isNone_none,Bool.false_eq_true,if_false,if_true]
 refine SimR.bind' (R:=fun _ _ _=>True) (SimR.mark trivial trivial) fun E2 s2 _ _ _=>?_
 exact SimR.bind' (SimR.overlaps ps rs ((hx.mono s1).mono s2) ((hy.mono s1).mono s2)) fun E3 s3 v v' hv=>.pure (.value hv)
theorem Ent.of_fs {S:Kn} (K:KnOk C S) {f:FuncId} (h:C.F f) (a:Array Value) (hz:a.size≤6):Ent C S f a:=⟨(K.fs f h).1,fun i x hi hx=>by have h1:=(K.fs f h).2 i hi;have h2:=(Array.getElem?_eq_some_iff.1 hx).1;omega⟩
theorem SimR.invokeMethod {S:Kn} (K:KnOk C S) (hh:Hnd C E) {name:String} (hn:C.ms.contains name=true) (c c':Array Value) {a a':Array Value} (ha:AR C E a a') (hz:a.size≤6) :
  SimR C ok E (Go.invoke (.fn (.method name) c) a) (Go.invoke (.fn (.method name) c') a') (ValR C ok S):=by
 unfold Go.invoke
 dsimp only
 cases e:a[0]? with
 | none=>exact SimR.of_halts fun w=>⟨_,w,rfl,by simp⟩
 | some x=>
  obtain ⟨x',hx',hr⟩:=ha.some_of e
  rw [hx']
  dsimp only
  rw [show a'.size=a.size from ha.size.symm]
  have h1:1≤a.size:=by have:=(Array.getElem?_eq_some_iff.1 e).1;omega
  exact (SimR.callMethod K.pr hh (fun f hf=>K.cs f (K.fs f hf).1) hr name hn (ha.extract 1 a.size)).mono fun E1 x x' _ hx=>by
   obtain ⟨f,b,b',hf,rfl,rfl,hb,hs⟩:=hx
   exact .enter hb (Ent.of_fs K hf _ (by rw [hs];simp;omega))
theorem SimR.nilAhead (K:PrOk C):∀ (n:Nat) (t:TypeId),C.tyOk t=true→∀ {v v':Value} (name:String),C.ms.contains name=true→VR C E v v'→SimR C ok E (Go.nilAhead n t v name) (Go.nilAhead n t v' name) (fun _ x x'=>x=x')
 | 0,_,_,_,_,_,_,_=>.pure rfl
 | n+1,t,ht,v,v',name,hn,hv=>by
  unfold Go.nilAhead
  refine SimR.bind' (SimR.typeInfo _) fun E1 s1 i i' hi=>?_
  obtain ⟨rfl,hi⟩:=hi
  cases hm:i.methods.find? (·.name == name) with
  | none=>exact SimR.of_halts fun w=>⟨_,w,rfl,by simp⟩
  | some m=>
   have hname:m.name=name:=by have:=Array.find?_some hm;simpa using this
   obtain ⟨hp,f,p,hf⟩:=K.path t i m ht hi (Array.mem_of_find?_eq_some hm) (by rw [hname];exact hn)
   dsimp only
   rw [hp,hf]
   have e:∀ x:Value,Go.followBlind (#[]:Array FieldStep).toList t (some x)=Pure.pure (.ok (t,some x)):=fun x=>rfl
   rw [e,e]
   refine SimR.bind' (R:=fun _ x x'=>x=.ok (t,some v)∧x'=.ok (t,some v')) (.pure ⟨rfl,rfl⟩) fun E2 s2 x x' hx=>?_
   obtain ⟨rfl,rfl⟩:=hx
   dsimp only
   cases p with
   | true=>exact .pure rfl
   | false=>
    dsimp only
    refine SimR.bind' (SimR.underlying t) fun E3 s3 u u' hu=>?_
    obtain ⟨rfl,hu⟩:=hu
    cases u<;>first
     | exact .pure rfl
     | (cases hv<;>exact .pure rfl)
theorem SimR.invoked {S:Kn} (K:KnOk C S) (hh:Hnd C E) {v v':Value} (hv:VR C E v v') {a a':Array Value} (ha:AR C E a a') (hz:a.size≤3) :
  SimR C ok E (do let d ← Deferred.ofValue v a;Go.invoke d.target d.args) (do let d ← Deferred.ofValue v' a';Go.invoke d.target d.args) (ValR C ok S):=by
 cases hv with
 | func hf ha1 hx1 hc hy=>
  have h1:=AR.append ⟨ha1,hx1⟩ ha
  cases hf with
  | func hf=>exact SimR.callFunc' K (AR.append h1 ⟨hc.1,hy⟩) (Ent.of_fs K hf _ (by simp;omega))
  | yield hl=>exact SimR.yield hl h1
  | method hn=>
   rename_i a1 a1' c1 c1' nm
   exact SimR.invokeMethod K hh hn c1 c1' h1 (by simp;omega)
 | nilFunc=>
  show SimR C ok E (Go.runtimePanic (α:=Next) .nilDeref) (Go.runtimePanic .nilDeref) (ValR C ok S)
  exact SimR.runtimePanic hh _
 | _=>exact .stuck _
theorem SimR.panic {v v':Value} (hv:VR C E v v') (hn:v≠.nilIface):SimR C ok E (Instr.panic v) (Instr.panic v') (VR C):=by
 unfold Instr.panic
 cases hv with
 | iface t ht h=>exact .goPanic (.iface t ht h)
 | nilIface=>exact absurd rfl hn
 | _=>exact .stuck _
def OwnD (C:Cx) (S:Kn) (fn:FuncId) (o:Oper) (n:Next):Prop:=
 ∀ d,o.dst=some d→(S.own fn).contains d=true→∃ v,n=.value v∧OwnV C v
theorem SimR.resolved {S:Kn} {fn:FuncId} (K:KnOk C S) (hh:Hnd C E) {ρ ρ':Operand→Value} (hρ:EvR C S fn E ρ ρ') {c:Call} (hc:okCall C S fn c=true) (t:TypeId) :
  SimR C ok E (do let d ← resolve ρ c t;Go.invoke d.target d.args) (do let d ← resolve ρ' c t;Go.invoke d.target d.args) (ValR C ok S):=by
 obtain ⟨callee,args,ats⟩:=c
 simp only [okCall,Bool.and_eq_true] at hc
 obtain ⟨h1,h2⟩:=hc
 have ha:=hρ.arr h1
 cases callee with
 | invoke r name=>
  simp only [Bool.and_eq_true] at h2
  have hr:=hρ.at_ r h2.1.1
  show SimR C ok E (Go.invoke (.fn (.method name) #[]) (#[ρ r]++args.map ρ)) (Go.invoke (.fn (.method name) #[]) (#[ρ' r]++args.map ρ')) _
  have e:∀ (x:Value) (a:Array Value),Go.invoke (.fn (.method name) #[]) (#[x]++a)=Go.callMethod x name a:=fun x a=>by
   have h0:(#[x]++a)[0]?=some x:=by rw [Array.getElem?_append];simp
   unfold Go.invoke
   simp [h0]
  rw [e,e]
  exact (SimR.callMethod K.pr hh (fun f hf=>K.cs f (K.fs f hf).1) hr name h2.1.2 ha).mono fun E1 x x' _ hx=>by
   obtain ⟨f,b,b',hf,rfl,rfl,hb,hs⟩:=hx
   have h3:args.size≤3:=by simpa using h2.2
   exact .enter hb (Ent.of_fs K hf _ (by rw [hs];simp;omega))
 | builtin b=>
  cases b<;>first
   | (exfalso;exact Bool.false_ne_true h2)
   | skip
  ·exact SimR.val (SimR.append K.pr hh ats t ha)
  ·exact SimR.val (SimR.cap ats t ha)
  ·exact SimR.val (SimR.clear K.pr ats t ha fun r _=>C.lax (by simpa using h2) r)
  ·exact SimR.val (SimR.copy ats t ha)
  ·exact SimR.val (SimR.len ats t ha)
  ·exact SimR.val (SimR.max ats t ha)
  ·exact SimR.val (SimR.min ats t ha)
 | value f=>
  cases f with
  | func f=>
   have e:∀ ρ:Operand→Value,ρ (.func f)=.func (.func f) #[] #[]→(do let d ← resolve ρ ⟨.value (.func f),args,ats⟩ t;Go.invoke d.target d.args)=Go.callFunc f (args.map ρ):=fun ρ h=>by
    show (do let d ← Deferred.ofValue (ρ (.func f)) (args.map ρ);Go.invoke d.target d.args)=_
    rw [h]
    show Go.callFunc f ((#[]++args.map ρ)++#[])=_
    simp
   rw [e ρ (hρ.fn f).1,e ρ' (hρ.fn f).2]
   dsimp only at h2
   by_cases hx:S.xs.contains f=true
   ·rw [if_pos hx] at h2
    exact SimR.callOv K hx ha (by simpa using h2)
   rw [if_neg hx] at h2
   simp only [okArgs,Bool.and_eq_true] at h2
   obtain ⟨h2,h3⟩:=h2
   refine SimR.callFunc' K ha ⟨h2,fun i x hi hx=>?_⟩
   rw [List.all_eq_true] at h3
   have h4:=h3 i (by simpa using hi)
   simp only [Array.getElem?_map,Option.map_eq_some_iff] at hx
   obtain ⟨y,hy,rfl⟩:=hx
   rw [hy] at h4
   exact hρ.own y h4
  | _=>
   simp only [Bool.and_eq_true,decide_eq_true_eq] at h2
   exact SimR.invoked K hh (hρ.at_ _ h2.1) ha (by simpa using h2.2)
theorem SimR.nilCheck {S:Kn} (K:PrOk C) (hh:Hnd C E) {ρ ρ':Operand→Value} {x:Operand} (hx:VR C E (ρ x) (ρ' x)) (o:Oper) (ho:o.op=.nilCheck x) :
  SimR C ok E (Go.execOp ρ o) (Go.execOp ρ' o) (ValR C ok S):=by
 unfold Go.execOp
 rw [ho]
 dsimp only
 generalize ρ x=v at hx
 generalize ρ' x=v' at hx
 cases hx with
 | nilPtr=>exact SimR.runtimePanic hh _
 | nilIface=>exact SimR.runtimePanic hh _
 | nilFunc=>exact SimR.runtimePanic hh _
 | func hf ha hx hc hy=>
  cases hf with
  | func hf=>exact .pure (.value (.func (.func hf) ha hx hc hy))
  | yield hf=>exact .pure (.value (.func (.yield hf) ha hx hc hy))
  | method hn=>
   rename_i a a' c c' nm
   have fin:∀ E1,Sub E E1→SimR C ok E1 (Pure.pure (Next.value (.func (.method nm) a c)):Sem Next) (Pure.pure (Next.value (.func (.method nm) a' c'))) (ValR C ok S):=fun E1 s=>.pure (.value (VR.mono s (.func (.method hn) ha hx hc hy)))
   dsimp only
   have hA:AR C E a a':=⟨ha,hx⟩
   cases e:a[0]? with
   | none=>rw [hA.none_of e];exact fin E (.refl E)
   | some x=>
    obtain ⟨x',hx',hr⟩:=hA.some_of e
    rw [hx']
    cases hr with
    | nilIface=>exact SimR.runtimePanic hh _
    | iface t ht h=>
     dsimp only
     refine SimR.bind' (R:=fun _ p p'=>p=C.P∧p'=C.P) (.program ⟨rfl,rfl⟩) fun E1 s1 p p' hp=>?_
     obtain ⟨rfl,rfl⟩:=hp
     refine SimR.bind' (SimR.nilAhead K _ t ht nm hn (h.mono s1)) fun E2 s2 b b' hb=>?_
     obtain rfl:b=b':=hb
     split
     ·exact SimR.bind' (R:=fun _ _ _=>False) (.unsupported _) fun _ _ _ _ h=>h.elim
     ·exact fin _ (s1.trans s2)
    | _=>exact fin E (.refl E)
 | bool b=>exact .pure (.value (.bool b))
 | int k n=>exact .pure (.value (.int k n))
 | string x=>exact .pure (.value (.string x))
 | ptr o p h=>exact .pure (.value (.ptr o p h))
 | nilSlice l c=>exact .pure (.value (.nilSlice l c))
 | slice o p l c h=>exact .pure (.value (.slice o p l c h))
 | nilMap=>exact .pure (.value .nilMap)
 | nilChan=>exact .pure (.value .nilChan)
 | map h=>exact .pure (.value (.map h))
 | iface t ht h=>exact .pure (.value (.iface t ht h))
 | agg ha hx=>exact .pure (.value (.agg ha hx))
 | tuple ha hx=>exact .pure (.value (.tuple ha hx))
theorem keyOk_of {t:TypeId} (h:keyOk C t=true):C.st=false∨∀ kt e,C.P.underlying t=some (.map kt e)→flatT C.P 20 kt=true:=by
 unfold keyOk at h
 cases hs:C.st with
 | false=>exact .inl rfl
 | true=>
  rw [hs] at h
  refine .inr fun kt e hk=>?_
  rw [hk] at h
  simpa using h
theorem eqOk_of {op:BinOp} {t:TypeId} {y:Operand} {v:Value} (h:eqOk C op t y=true):(∀ w,y=.const w→v=w)→(op=.eql∨op=.neq)→EqSafe C t v:=by
 intro hv0 ho
 have h':(!C.st || flatT C.P 20 t || nilAt C.P t y)=true:=by
  rcases ho with rfl|rfl<;>exact h
 simp only [Bool.or_eq_true,Bool.not_eq_true'] at h'
 rcases h' with (h'|h')|h'
 ·exact .inl h'
 ·exact .inr (.inl ⟨20,h'⟩)
 ·refine .inr (.inr ?_)
  unfold nilAt at h'
  split at h'
  ·refine .inl ⟨hv0 _ rfl,?_⟩
   split at h'
   ·rename_i e he;exact ⟨e,he⟩
   ·cases h'
  ·refine .inr ⟨hv0 _ rfl,?_⟩
   split at h'
   ·rename_i e he;exact ⟨e,he⟩
   ·cases h'
  ·cases h'
theorem SimR.execOp {S:Kn} {fn:FuncId} (K:KnOk C S) (hh:Hnd C E) {ρ ρ':Operand→Value} (hρ:EvR C S fn E ρ ρ') (o:Oper) (ho:okOp C S fn o.op=true) :
  SimR C ok E (Go.execOp ρ o) (Go.execOp ρ' o) (ValR C ok S):=by
 obtain ⟨dst,op,ty,pos,after,guard⟩:=o
 simp only at ho
 have hcon:∀ (y:Operand) (w:Value),y=.const w→ρ y=w:=fun y w h=>by rw [h,hρ.con]
 cases op with
 | move x=>exact .pure (.value (hρ.at_ x ho))
 | assign x=>exact .pure (.value (hρ.at_ x ho))
 | pick c a b=>
  simp only [okOp,Bool.and_eq_true] at ho
  refine SimR.bind' (SimR.asBool (hρ.at_ c ho.1.1)) fun E1 s1 b b' hb=>?_
  obtain rfl:b=b':=hb
  refine .pure (.value ?_)
  cases b
  ·exact (hρ.at_ _ ho.2).mono s1
  ·exact (hρ.at_ _ ho.1.2).mono s1
 | alloc t=>exact SimR.val (SimR.alloc K.pr hh t)
 | box t x=>exact SimR.val (SimR.box hh t (hρ.at_ x ho))
 | build t ps=>exact SimR.val (SimR.build K.pr t (by rw [Array.toList_map,Array.toList_map];exact hρ.parts ho))
 | buildSlice t n ps=>exact SimR.val (SimR.buildSlice K.pr hh t n (by rw [Array.toList_map,Array.toList_map];exact hρ.parts ho))
 | load t a=>exact SimR.val (SimR.loadAt t (hρ.at_ a ho))
 | store t a x=>simp only [okOp,Bool.and_eq_true] at ho;exact SimR.unit (SimR.storeAt t (hρ.at_ a ho.1) (hρ.at_ x ho.2))
 | nilCheck x=>exact SimR.nilCheck K.pr hh (hρ.at_ x ho) _ rfl
 | binOp op t x y yt=>
  simp only [okOp,Bool.and_eq_true] at ho
  refine SimR.val (SimR.bind' (SimR.eqGuard op t x y (hρ.at_ x ho.1.1) (hρ.at_ y ho.1.2)) fun E1 s1 _ _ _=>?_)
  exact SimR.binOp (hh.mono s1) op t ((hρ.at_ x ho.1.1).mono s1) ((hρ.at_ y ho.1.2).mono s1) (eqOk_of ho.2 (hcon y))
 | unOp op t x=>exact SimR.val (SimR.unary op (hρ.at_ x ho))
 | convert s d x=>simp only [okOp,Bool.and_eq_true] at ho;exact SimR.val (SimR.convert hh s d (hρ.at_ x ho.1.1) ho.1.2 (noBytes_of ho.2))
 | makeInterface t x=>simp only [okOp,Bool.and_eq_true] at ho;exact SimR.val (SimR.makeInterface t ho.2 (hρ.at_ x ho.1))
 | makeFunc f first captured=>
  cases f with
  | func f=>simp only [okOp,Bool.and_eq_true] at ho;exact SimR.val (SimR.makeFunc (.func ho.1.1.1) (hρ.arr ho.1.1.2) (hρ.arr ho.1.2) (by simpa using ho.2))
  | method f=>simp only [okOp,Bool.and_eq_true] at ho;exact SimR.val (SimR.makeFunc (.method ho.1.1.1) (hρ.arr ho.1.1.2) (hρ.arr ho.1.2) (by simpa using ho.2))
  | _=>cases ho
 | makeMap t r=>exact SimR.val ((SimR.makeMap hh t (hρ.opt ho)).mono fun _ _ _ _ h=>h.1)
 | makeSlice t l c=>simp only [okOp,Bool.and_eq_true] at ho;exact SimR.val (SimR.makeSlice K.pr hh t (hρ.at_ l ho.1) (hρ.at_ c ho.2))
 | slice t x l h m=>simp only [okOp,Bool.and_eq_true] at ho;exact SimR.val (SimR.sliceAt hh t (hρ.at_ x ho.1.1.1) (hρ.opt ho.1.1.2) (hρ.opt ho.1.2) (hρ.opt ho.2))
 | fieldAddr t x n=>exact SimR.val (SimR.fieldAt t (hρ.at_ x ho) n)
 | field t x n=>exact SimR.val (SimR.field t (hρ.at_ x ho) n)
 | indexAddr t x i=>simp only [okOp,Bool.and_eq_true] at ho;exact SimR.val (SimR.indexAt hh t (hρ.at_ x ho.1) (hρ.at_ i ho.2))
 | index t x i=>simp only [okOp,Bool.and_eq_true] at ho;exact SimR.val (SimR.index hh t (hρ.at_ x ho.1) (hρ.at_ i ho.2))
 | lookup t x i c=>simp only [okOp,Bool.and_eq_true] at ho;exact SimR.val (SimR.lookup K.pr hh t 20 (hρ.at_ x ho.1.1) (hρ.at_ i ho.1.2) c (keyOk_of ho.2))
 | mapUpdate t m k x=>
  simp only [okOp,Bool.and_eq_true,Bool.or_eq_true,Bool.not_eq_true'] at ho
  refine SimR.unit (SimR.mapUpdate hh t 20 (hρ.at_ m ho.1.1.1.1) (hρ.at_ k ho.1.1.1.2) (hρ.at_ x ho.1.1.2) (fun r hr=>?_) (keyOk_of ho.2))
  rcases ho.1.2 with h|h
  ·exact C.lax h r
  ·exact (hρ.own m h).1 r hr
 | insert t m k x=>
  simp only [okOp,Bool.and_eq_true,Bool.or_eq_true,Bool.not_eq_true'] at ho
  refine SimR.unit (SimR.mapUpdate hh t 20 (hρ.at_ m ho.1.1.1.1) (hρ.at_ k ho.1.1.1.2) (hρ.at_ x ho.1.1.2) (fun r hr=>?_) (keyOk_of ho.2))
  rcases ho.1.2 with h|h
  ·exact C.lax h r
  ·exact (hρ.own m h).1 r hr
 | range t x=>exact SimR.val (SimR.range hh t (hρ.at_ x ho))
 | next x b=>exact SimR.val (SimR.next hh (hρ.at_ x ho) b ty)
 | entry x=>exact SimR.val (SimR.entry (hρ.at_ x ho))
 | typeAssert x xt t c=>exact SimR.val (SimR.typeAssert K.pr hh (hρ.at_ x ho) xt t c)
 | extract x n=>exact SimR.val (SimR.extract (hρ.at_ x ho) n)
 | call c=>exact SimR.resolved K hh hρ ho ty
 | panic x=>simp only [okOp,Bool.and_eq_true] at ho;exact SimR.val (SimR.panic (hρ.at_ x ho.1) (hρ.own x ho.2).2)
 | _=>cases ho
theorem SimR.makeInterface' (t:TypeId) (ht:C.tyOk t=true) {x x':Value} (hx:VR C E x x'):SimR C ok E (Instr.makeInterface t x) (Instr.makeInterface t x') (fun E1 v v'=>VR C E1 v v'∧∃ a b,v=.iface a b):=by
 unfold Instr.makeInterface
 refine SimR.bind' (SimR.underlying t) fun E1 s1 u u' hu=>?_
 obtain ⟨rfl,hu⟩:=hu
 cases u<;>first|exact .stuck _|exact .pure ⟨.iface t ht (hx.mono s1),_,_,rfl⟩
theorem SimR.execOp' {S:Kn} {fn:FuncId} (K:KnOk C S) (hh:Hnd C E) {ρ ρ':Operand→Value} (hρ:EvR C S fn E ρ ρ') (o:Oper) (ho:okOper C S fn o=true) :
  SimR C ok E (Go.execOp ρ o) (Go.execOp ρ' o) (fun E1 n n'=>ValR C ok S E1 n n'∧OwnD C S fn o n):=by
 simp only [okOper,Bool.and_eq_true] at ho
 obtain ⟨h1,h2⟩:=ho
 have easy:(∀ n,OwnD C S fn o n)→SimR C ok E (Go.execOp ρ o) (Go.execOp ρ' o) (fun E1 n n'=>ValR C ok S E1 n n'∧OwnD C S fn o n):=fun h=>
  (SimR.execOp K hh hρ o h1).mono fun _ n _ _ hn=>⟨hn,h n⟩
 unfold okDst at h2
 cases hd:o.dst with
 | none=>exact easy fun n d h=>by rw [hd] at h;cases h
 | some d=>
  rw [hd] at h2
  simp only [Bool.or_eq_true,Bool.not_eq_true'] at h2
  rcases h2 with h2|h2
  ·exact easy fun n d' h h3=>by rw [hd] at h;cases h;rw [h2] at h3;cases h3
  ·have now:∀ n,(∀ v,n=.value v→OwnV C v)→(∃ v,n=.value v)→OwnD C S fn o n:=fun n h ⟨v,hv⟩ _ _ _=>⟨v,hv,h v hv⟩
   have ev:∀ (ρ:Operand→Value) op,o.op=op→Go.execOp ρ o=Go.execOp ρ { o with op:=op }:=fun ρ op h=>by subst h;rfl
   cases ho:o.op with
   | makeMap t r=>
    rw [ho] at h1
    rw [ev ρ _ ho,ev ρ' _ ho]
    refine SimR.bind' (SimR.makeMap hh t (hρ.opt h1)) fun E1 s1 v v' hv=>.pure ⟨.value hv.1,now _ (fun u hu=>?_) ⟨_,rfl⟩⟩
    cases hu
    exact hv.2
   | makeInterface t x=>
    rw [ho] at h1
    simp only [okOp,Bool.and_eq_true] at h1
    rw [ev ρ _ ho,ev ρ' _ ho]
    refine SimR.bind' (SimR.makeInterface' t h1.2 (hρ.at_ x h1.1)) fun E1 s1 v v' hv=>.pure ⟨.value hv.1,now _ (fun u hu=>?_) ⟨_,rfl⟩⟩
    cases hu
    obtain ⟨_,a,b,rfl⟩:=hv
    exact ⟨fun r hr=>by simp at hr,by simp⟩
   | move x=>
    rw [ho] at h1 h2
    rw [ev ρ _ ho,ev ρ' _ ho]
    exact .pure ⟨.value (hρ.at_ x h1),now _ (fun u hu=>by cases hu;exact hρ.own x h2) ⟨_,rfl⟩⟩
   | assign x=>
    rw [ho] at h1 h2
    rw [ev ρ _ ho,ev ρ' _ ho]
    exact .pure ⟨.value (hρ.at_ x h1),now _ (fun u hu=>by cases hu;exact hρ.own x h2) ⟨_,rfl⟩⟩
   | _=>rw [ho] at h2;cases h2
def okDefer (C:Cx) (S:Kn) (fn:FuncId) (o:Oper):Bool:=
 S.df.contains fn && (S.own fn).isEmpty && match o.op with
  | .defer c=>c.args.all (okOpnd C S fn) && decide (c.args.size≤3) && (match c.callee with | .value x=>okOpnd C S fn x|_=>false)
  | .call c=>c.args.isEmpty && (match c.callee with | .builtin .recover=>true|_=>false)
  | _=>false
theorem SimR.execDefer {S:Kn} {fn:FuncId} {ρ ρ':Operand→Value} (hρ:EvR C S fn E ρ ρ') (o:Oper) (ho:okDefer C S fn o=true) :
  SimR C ok E (Go.execOp ρ o) (Go.execOp ρ' o) (fun E1 n n'=>(∃ d d',n=.defer d∧n'=.defer d'∧DefR C E1 d d')∨(n=.recover∧n'=.recover)):=by
 obtain ⟨dst,op,ty,pos,after,guard⟩:=o
 simp only [okDefer,Bool.and_eq_true] at ho
 obtain ⟨_,ho⟩:=ho
 cases op with
 | defer c=>
  obtain ⟨callee,args,ats⟩:=c
  simp only [Bool.and_eq_true,decide_eq_true_eq] at ho
  obtain ⟨⟨h1,h3⟩,h2⟩:=ho
  have ha:=hρ.arr h1
  cases callee with
  | value x=>
   have hx:=hρ.at_ x h2
   show SimR C ok E (do Pure.pure (Next.defer (← Deferred.ofValue (ρ x) (args.map ρ)))) (do Pure.pure (Next.defer (← Deferred.ofValue (ρ' x) (args.map ρ')))) _
   generalize ρ x=v at hx
   generalize ρ' x=v' at hx
   cases hx with
   | func hf ha1 hx1 hc hy=>exact .pure (.inl ⟨_,_,rfl,rfl,.fn hf ⟨hc.1,hy⟩,AR.append ⟨ha1,hx1⟩ ha,fun f c e=>by cases e;simp;omega⟩)
   | nilFunc=>exact .pure (.inl ⟨_,_,rfl,rfl,.nil,ha,fun f c e=>by cases e⟩)
   | _=>exact .stuck _
  | _=>cases h2
 | call c=>
  obtain ⟨callee,args,ats⟩:=c
  simp only [Bool.and_eq_true] at ho
  obtain ⟨h1,h2⟩:=ho
  cases callee with
  | builtin b=>
   cases b<;>first
    | (exfalso;exact Bool.false_ne_true h2)
    | exact .pure (.inr ⟨rfl,rfl⟩)
  | _=>cases h2
 | _=>cases ho
end
def okRegion (C:Cx) (S:Kn) (fn:FuncId) (ops:Array Oper):Bool:=
 ops.all fun o=>(okOper C S fn o || okDefer C S fn o) && (match o.dst with|some d=>!(C.hl fn).contains d|none=>true)
def okSl (C:Cx) (fn:FuncId) (d:Option Nat):Bool:=match d with|some d=>!(C.hl fn).contains d|none=>true
def okD (C:Cx) (fn:FuncId) (ops:Array Oper) (i:Nat):Bool:=match ops[i]? with
 | some o=>okSl C fn o.dst && (match o.guard with|none=>true|some (j,_)=>okSl C fn ((ops[j]?).bind (·.dst)))
 | none=>true
def okIs (C:Cx) (S:Kn) (fn:FuncId) (ops:Array Oper) (is:List Nat):Bool:=
 is.all fun i=>okD C fn ops i && match ops[i]? with|some o=>okOper C S fn o || okDefer C S fn o|none=>true
section
variable {C:Cx} {S:Kn} {fn:FuncId} {ops:Array Oper}
theorem okIs_of (h:okRegion C S fn ops=true) (is:List Nat):okIs C S fn ops is=true:=by
 unfold okRegion at h
 rw [Array.all_eq_true'] at h
 have hd:∀ o∈ops,okSl C fn o.dst=true:=fun o ho=>by
  have:=h o ho
  rw [Bool.and_eq_true] at this
  exact this.2
 unfold okIs
 rw [List.all_eq_true]
 intro i _
 rw [Bool.and_eq_true]
 refine ⟨?_,?_⟩
 ·unfold okD
  cases ho:ops[i]? with
  | none=>rfl
  | some o=>
   simp only [Bool.and_eq_true]
   refine ⟨hd o (Array.mem_of_getElem? ho),?_⟩
   cases hg:o.guard with
   | none=>rfl
   | some p=>
    simp only
    cases hj:ops[p.1]? with
    | none=>rfl
    | some o'=>exact hd o' (Array.mem_of_getElem? hj)
 ·cases ho:ops[i]? with
  | none=>rfl
  | some o=>
   have:=h o (Array.mem_of_getElem? ho)
   rw [Bool.and_eq_true] at this
   exact this.1
theorem okIs_dst {i:Nat} {is:List Nat} (h:okIs C S fn ops (i::is)=true):okD C fn ops i=true:=by
 unfold okIs at h
 rw [List.all_cons,Bool.and_eq_true,Bool.and_eq_true] at h
 exact h.1.1
theorem okIs_tail {i:Nat} {is:List Nat} (h:okIs C S fn ops (i::is)=true):okIs C S fn ops is=true:=by
 unfold okIs at h ⊢
 rw [List.all_cons,Bool.and_eq_true] at h
 exact h.2
theorem okIs_at {i:Nat} {is:List Nat} (h:okIs C S fn ops (i::is)=true) {o:Oper} (ho:ops[i]?=some o):okOper C S fn o=true∨okDefer C S fn o=true:=by
 unfold okIs at h
 rw [List.all_cons,Bool.and_eq_true,Bool.and_eq_true,ho] at h
 simpa [Bool.or_eq_true] using h.1.2
end
def okCode (C:Cx) (S:Kn) (fn:FuncId):Code→Bool
 | .skip | .exit _ | .goto _ | .label _ | .ret | .refuse _=>true
 | .region _ ops _=>okRegion C S fn ops
 | .seq a b=>okCode C S fn a && okCode C S fn b
 | .cond c a b=>okOpnd C S fn c && okCode C S fn a && okCode C S fn b
 | .block _ b | .loop b | .scope b=>okCode C S fn b
 | .rangeFunc f _ as bd=>okOpnd C S fn f && okCode C S fn as && okCode C S fn bd && (S.own fn).isEmpty && (C.hl fn).isEmpty && !(S.df.contains fn) && !C.st
def slotOf:ResultVar→Nat
 | .tmp t=>t
 | .cell a _=>a
def resFree (C:Cx) (f:FuncId):Prop:=∀ fn,C.P.funcs[f]?=some fn→∀ r∈fn.results,(C.hl f).contains (slotOf r)=false
abbrev okP (C:Cx) (S:Kn):FuncId→Code→Prop:=fun f c=>okCode C S f c=true∧S.own f=[]∧resFree C f∧HasBody C f∧S.df.contains f=false
inductive ItemR (C:Cx) (S:Kn) (fn:FuncId) (E:BRel):Item→Item→Prop
 | code {c} (h:okCode C S fn c=true):ItemR C S fn E (.code c) (.code c)
 | inBlock (id:Nat):ItemR C S fn E (.inBlock id) (.inBlock id)
 | inLoop {c} (h:okCode C S fn c=true):ItemR C S fn E (.inLoop c) (.inLoop c)
 | inScope {c} (h:okCode C S fn c=true):ItemR C S fn E (.inScope c) (.inScope c)
 | inRegion {ops} (is:List Nat) (h:okIs C S fn ops is=true):ItemR C S fn E (.inRegion ops is) (.inRegion ops is)
 | inRangeFunc {l l'} (h:E l l'):ItemR C S fn E (.inRangeFunc l) (.inRangeFunc l')
 | endRangeFunc {l l'} (h:E l l'):ItemR C S fn E (.endRangeFunc l) (.endRangeFunc l')
 | beginRound:ItemR C S fn E .beginRound .beginRound
inductive ItemsR (C:Cx) (S:Kn) (fn:FuncId) (E:BRel):List Item→List Item→Prop
 | nil:ItemsR C S fn E [] []
 | cons {x x' l l'} (h:ItemR C S fn E x x') (hl:ItemsR C S fn E l l'):ItemsR C S fn E (x::l) (x'::l')
structure TmR (C:Cx) (S:Kn) (fn:FuncId) (E:BRel) (t t':Array Value):Prop where
 size:t.size=t'.size
 at_:∀ (i:Nat) (x x':Value),(C.hl fn).contains i=false→t[i]?=some x→t'[i]?=some x'→VR C E x x'
 own:∀ (i:Nat) (x:Value),(S.own fn).contains i=true→t[i]?=some x→OwnV C x
section
variable {C:Cx} {S:Kn} {fn:FuncId} {E E1:BRel}
theorem ItemR.mono (s:Sub E E1) {x x':Item} (h:ItemR C S fn E x x'):ItemR C S fn E1 x x':=by
 cases h with
 | code h=>exact .code h
 | inBlock id=>exact .inBlock id
 | inLoop h=>exact .inLoop h
 | inScope h=>exact .inScope h
 | inRegion is h=>exact .inRegion is h
 | inRangeFunc h=>exact .inRangeFunc (s _ _ h)
 | endRangeFunc h=>exact .endRangeFunc (s _ _ h)
 | beginRound=>exact .beginRound
theorem ItemsR.mono (s:Sub E E1) {l l':List Item} (h:ItemsR C S fn E l l'):ItemsR C S fn E1 l l':=by
 induction h with
 | nil=>exact .nil
 | cons h _ ih=>exact .cons (h.mono s) ih
theorem TmR.mono (s:Sub E E1) {t t':Array Value} (h:TmR C S fn E t t'):TmR C S fn E1 t t':=
 ⟨h.size,fun i x x' a b c=>(h.at_ i x x' a b c).mono s,h.own⟩
theorem exitTo_rel (id:Nat) {l l':List Item} (h:ItemsR C S fn E l l') :
  ((∀ k,exitTo id (l++k)=exitTo id k)∧∀ k,exitTo id (l'++k)=exitTo id k)∨∃ y y',(∀ k,exitTo id (l++k)=some (y++k))∧ItemsR C S fn E y y'∧∀ k,exitTo id (l'++k)=some (y'++k):=by
 induction h with
 | nil=>exact .inl ⟨fun k=>rfl,fun k=>rfl⟩
 | cons h hl ih=>
  cases h with
  | inBlock id'=>
   simp only [exitTo,List.cons_append]
   by_cases e:(id' == id)=true
   ·simp only [e,if_true]
    exact .inr ⟨_,_,fun k=>rfl,hl,fun k=>rfl⟩
   ·simp only [e,if_false,Bool.false_eq_true]
    exact ih
  | _=>simpa only [exitTo,List.cons_append] using ih
theorem findLabel_ok {c r:Code} {l:Nat} (h:okCode C S fn c=true) (hf:findLabel c l=some r):okCode C S fn r=true:=by
 induction c generalizing r with
 | seq a b iha ihb=>
  simp only [okCode,Bool.and_eq_true] at h
  simp only [findLabel] at hf
  cases ha:findLabel a l with
  | some x=>rw [ha] at hf;cases hf;simp only [okCode,Bool.and_eq_true];exact ⟨iha h.1 ha,h.2⟩
  | none=>rw [ha] at hf;exact ihb h.2 hf
 | label x=>
  simp only [findLabel] at hf
  split at hf
  ·cases hf;rfl
  ·cases hf
 | _=>simp [findLabel] at hf
theorem gotoIn_rel (n:Nat) {l l':List Item} (h:ItemsR C S fn E l l') :
  ((∀ k,gotoIn n (l++k)=gotoIn n k)∧∀ k,gotoIn n (l'++k)=gotoIn n k)∨∃ y y',(∀ k,gotoIn n (l++k)=some (y++k))∧ItemsR C S fn E y y'∧∀ k,gotoIn n (l'++k)=some (y'++k):=by
 induction h with
 | nil=>exact .inl ⟨fun k=>rfl,fun k=>rfl⟩
 | cons h hl ih=>
  cases h with
  | inScope h=>
   simp only [gotoIn,List.cons_append]
   split
   ·rename_i r hr
    exact .inr ⟨_,_,fun k=>rfl,.cons (.code (findLabel_ok h hr)) (.cons (.inScope h) hl),fun k=>rfl⟩
   ·exact ih
  | _=>simpa only [gotoIn,List.cons_append] using ih
theorem TmR.set {t t':Array Value} (h:TmR C S fn E t t') (i:Nat) {v v':Value} (hv:VR C E v v') (ho:(S.own fn).contains i=true→OwnV C v) :
  TmR C S fn E (t.setIfInBounds i v) (t'.setIfInBounds i v'):=by
 refine ⟨by simp [h.size],fun j x x' hj hx hx'=>?_,fun j x hj hx=>?_⟩
 ·rw [Array.getElem?_setIfInBounds] at hx hx'
  by_cases hij:i=j
  ·subst hij
   simp only [if_true] at hx hx'
   split at hx<;>split at hx'<;>simp_all
  ·simp only [hij,if_false] at hx hx'
   exact h.at_ j x x' hj hx hx'
 ·rw [Array.getElem?_setIfInBounds] at hx
  by_cases hij:i=j
  ·subst hij
   simp only [if_true] at hx
   split at hx
   ·cases hx;exact ho hj
   ·cases hx
  ·simp only [hij,if_false] at hx
   exact h.own j x hj hx
theorem OwnV.undef:OwnV C undef:=⟨fun r h=>by simp [Go.undef] at h,by simp [Go.undef]⟩
theorem TmR.getD {t t':Array Value} (h:TmR C S fn E t t') {i:Nat} (hi:(C.hl fn).contains i=false):VR C E (t.getD i undef) (t'.getD i undef):=by
 rw [Array.getD_eq_getD_getElem?,Array.getD_eq_getD_getElem?]
 by_cases hs:i<t.size
 ·have hs':i<t'.size:=h.size▸hs
  rw [Array.getElem?_eq_getElem hs,Array.getElem?_eq_getElem hs']
  exact h.at_ i _ _ hi (Array.getElem?_eq_getElem hs) (Array.getElem?_eq_getElem hs')
 ·rw [Array.getElem?_eq_none (Nat.le_of_not_lt hs),Array.getElem?_eq_none (h.size▸Nat.le_of_not_lt hs)]
  exact .undef
theorem EvR.of_tm {fr fr':Frame} (h:TmR C S fn E fr.tmps fr'.tmps) (hg:∀ g,S.gs.contains g=true→E g g):EvR C S fn E fr.eval fr'.eval:=by
 refine ⟨fun x hx=>?_,fun x hx=>?_,fun f=>⟨rfl,rfl⟩,fun v=>rfl⟩
 ·cases x with
  | tmp t=>exact h.getD (by simpa [okOpnd] using hx)
  | const v=>exact plainV_rel 20 v hx
  | global g=>exact .ptr 0 none (hg g hx)
  | func f=>exact .func (.func hx) rfl (fun i x x' h=>by simp at h) ⟨rfl,by simp⟩ (fun i x x' h=>by simp at h)
 ·cases x with
  | tmp t=>
   show OwnV C (fr.tmps.getD t undef)
   rw [Array.getD_eq_getD_getElem?]
   cases e:fr.tmps[t]? with
   | none=>exact OwnV.undef
   | some v=>exact h.own t v hx e
  | _=>cases hx
theorem TmR.enter {f:FuncId} {a a':Array Value} (ha:AR C E a a') (hf:Ent C S f a) (n:Nat) :
  TmR C S f E (a++Array.replicate (n-a.size) undef) (a'++Array.replicate (n-a'.size) undef):=by
 have h:=ha.append (AR.replicate (n:=n-a.size) (VR.undef (C:=C) (E:=E)))
 rw [show a'.size=a.size from ha.size.symm]
 refine ⟨h.size,fun i x x' _=>h.at_ i x x',fun i x hi hx=>?_⟩
 rw [Array.getElem?_append] at hx
 split at hx
 ·exact hf.2 i x hi hx
 ·rw [Array.getElem?_replicate] at hx
  split at hx
  ·cases hx;exact OwnV.undef
  ·cases hx
end
end Go.Sim
