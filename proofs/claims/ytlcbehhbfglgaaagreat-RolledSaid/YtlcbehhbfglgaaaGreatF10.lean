/- PROVED HERE: laws. Conditions: none. -/
import Derived.Test.YtlcbehhbfglgaaaGreatF09
set_option linter.all false
namespace Go.Sim
structure Kn where
 own:FuncId->List Nat
 cs:List FuncId
 gs:List Nat
 df:List FuncId
 xs:List FuncId
def J1p:Nat->Value->Bool
 | _,.bool _|_,.int _ _|_,.string _|_,.pointer none|_,.slice none _ _|_,.map none|_,.nilFunc|_,.nilIface|_,.chan none=>true
 | n+1,.agg a=>a.all (J1p n)
 | n+1,.tuple a=>a.all (J1p n)
 | _,_=>false
section
variable {C:Cx} {ok:FuncId->Code->Prop} {E:J5}
theorem J6k:∀ (n:Nat) (v:Value),J1p n v=true->VR C E v v
 | 0,v,h=>by
  cases v with
  | bool b=>exact .bool b
  | int k n=>exact .int k n
  | string s=>exact .string s
  | pointer a=>cases a with|none=>exact .nilPtr|some a=>simp [J1p] at h
  | slice a l c=>cases a with|none=>exact .Jo l c|some a=>simp [J1p] at h
  | map a=>cases a with|none=>exact .J1n|some a=>simp [J1p] at h
  | nilFunc=>exact .nilFunc
  | nilIface=>exact .nilIface
  | chan a=>cases a with|none=>exact .J23|some a=>simp [J1p] at h
  | _=>simp [J1p] at h
 | n+1,v,h=>by
  cases v with
  | bool b=>exact .bool b
  | int k n=>exact .int k n
  | string s=>exact .string s
  | pointer a=>cases a with|none=>exact .nilPtr|some a=>simp [J1p] at h
  | slice a l c=>cases a with|none=>exact .Jo l c|some a=>simp [J1p] at h
  | map a=>cases a with|none=>exact .J1n|some a=>simp [J1p] at h
  | nilFunc=>exact .nilFunc
  | nilIface=>exact .nilIface
  | chan a=>cases a with|none=>exact .J23|some a=>simp [J1p] at h
  | agg a=>
   refine .agg rfl fun i x x' hx hx'=>?_;rw [hx] at hx';cases hx';simp only [J1p] at h;exact J6k n x (by rw [Array.all_eq_true'] at h;exact h x (Jc5 hx))
  | tuple a=>
   refine .tuple rfl fun i x x' hx hx'=>?_;rw [hx] at hx';cases hx';simp only [J1p] at h;exact J6k n x (by rw [Array.all_eq_true'] at h;exact h x (Jc5 hx))
  | _=>simp [J1p] at h
def J00 (C:Cx) (S:Kn) (fn:FuncId):Operand->Bool
 | .tmp t=>!(C.hl fn).contains t
 | .const v=>J1p 20 v
 | .global g=>S.gs.contains g
 | .func f=>C.fs.contains f
def J80 (S:Kn) (fn:FuncId):Operand->Bool
 | .tmp t=>(S.own fn).contains t
 | _=>false
def Jov (C:Cx) (S:Kn) (fn f:FuncId) (args:Array Operand):Bool:=
 S.cs.contains f && (S.own f).all fun i=>match args[i]? with|some x=>J80 S fn x|none=>true
def Jie (C:Cx) (S:Kn) (fn:FuncId) (c:Call):Bool:=
 c.args.all (J00 C S fn) &&
 match c.callee with
 | .value (.func f)=>if S.xs.contains f then c.args.size == 2 else Jov C S fn f c.args
 | .value x=>J00 C S fn x && decide (c.args.size<=3)
 | .invoke r name=>J00 C S fn r && C.ms.contains name && decide (c.args.size<=3)
 | .builtin b=>match b with | .append | .len | .cap | .copy | .min | .max=>true | .clear=>!C.st|_=>false
def Jm4 (P:Program) (t:TypeId):Operand->Bool
 | .const (.pointer none)=>(match P.underlying t with|some (.pointer _)=>true|_=>false)
 | .const (.slice none 0 0)=>(match P.underlying t with|some (.slice _)=>true|_=>false)
 | _=>false
def Jwy (C:Cx) (op:BinOp) (t:TypeId) (y:Operand):Bool:=
 match op with
 | .eql | .neq=>!C.st || J28 C.P 20 t || Jm4 C.P t y
 | _=>true
def Jh0 (C:Cx) (t:TypeId):Bool:=
 !C.st || match C.P.underlying t with|some (.map kt _)=>J28 C.P 20 kt|_=>true
def J2m (C:Cx) (S:Kn) (fn:FuncId):Op->Bool
 | .move x | .assign x | .box _ x | .load _ x | .nilCheck x | .unOp _ _ x | .fieldAddr _ x _ | .field _ x _ | .range _ x
 | .next x _ | .entry x | .typeAssert x _ _ _ | .extract x _=>J00 C S fn x
 | .makeInterface t x=>J00 C S fn x && C.J2k t
 | .panic x=>J00 C S fn x && J80 S fn x
 | .alloc _=>true
 | .convert s d x=>J00 C S fn x && Jid C.P s d && (!C.st || match C.P.underlying d with|some (.slice _)=>false|_=>true)
 | .pick c a b=>J00 C S fn c && J00 C S fn a && J00 C S fn b
 | .build _ ps | .buildSlice _ _ ps=>ps.toList.all fun p=>J00 C S fn p.2
 | .store _ a v | .makeSlice _ a v | .indexAddr _ a v | .index _ a v=>J00 C S fn a && J00 C S fn v
 | .lookup t a v _=>J00 C S fn a && J00 C S fn v && Jh0 C t
 | .binOp op t a v _=>J00 C S fn a && J00 C S fn v && Jwy C op t v
 | .makeFunc (.func f) first captured=>C.fs.contains f && first.all (J00 C S fn) && captured.all (J00 C S fn) && decide (first.size+captured.size<=3)
 | .makeFunc (.method n) first captured=>C.ms.contains n && first.all (J00 C S fn) && captured.all (J00 C S fn) && decide (first.size+captured.size<=3)
 | .makeMap _ r=>r.all (J00 C S fn)
 | .slice _ x l h m=>J00 C S fn x && l.all (J00 C S fn) && h.all (J00 C S fn) && m.all (J00 C S fn)
 | .mapUpdate t m k v | .insert t m k v=>J00 C S fn m && J00 C S fn k && J00 C S fn v && (!C.st || J80 S fn m) && Jh0 C t
 | .call c=>Jie C S fn c
 | _=>false
def Ju4 (C:Cx) (S:Kn) (fn:FuncId) (o:Oper):Bool:=
 match o.dst with
 | some d=>!(S.own fn).contains d || (match o.op with | .makeMap _ _=>true | .makeInterface t _=>(match C.P.underlying t with|some (.interface _)=>false|_=>true) | .move x | .assign x=>J80 S fn x|_=>false)
 | none=>true
def J81 (C:Cx) (S:Kn) (fn:FuncId) (o:Oper):Bool:=J2m C S fn o.op && Ju4 C S fn o
def Ent (C:Cx) (S:Kn) (f:FuncId) (a:Array Value):Prop:=
 S.cs.contains f=true/\∀ (i:Nat) (x:Value),(S.own f).contains i=true->a[i]?=some x->J37 C x
theorem Jm5 {d:TypeId} (h:(!C.st || match C.P.underlying d with|some (.slice _)=>false|_=>true)=true):C.st=false\/∀ e,C.P.underlying d≠some (.slice e):=by
 cases hs:C.st with
 | false=>exact .inl rfl
 | true=>
  refine .inr fun e he=>?_;rw [hs,he] at h;simp at h
structure J7o (C:Cx) (S:Kn):Prop where
 pr:J4y C
 cs:∀ f,S.cs.contains f=true->J0k C f
 fs:∀ f,C.F f->S.cs.contains f=true/\∀ i,(S.own f).contains i=true->6<=i
 xs:∀ f,S.xs.contains f=true->∃ fn ps rs,C.P.funcs[f]?=some fn/\(fn.name == "runtime.NumGoroutine")=false/\fn.body=none/\Go.Extern.findNext fn=none/\Go.Extern.find fn=some (Go.Extern.SlicesOverlaps.overlaps ps rs)
structure EvR (C:Cx) (S:Kn) (fn:FuncId) (E:J5) (ρ ρ':Operand->Value):Prop where
 at_:∀ x,J00 C S fn x=true->VR C E (ρ x) (ρ' x)
 own:∀ x,J80 S fn x=true->J37 C (ρ x)
 fn:∀ f,ρ (.func f)=.func (.func f) #[] #[]/\ρ' (.func f)=.func (.func f) #[] #[]
 con:∀ v,ρ (.const v)=v
theorem EvR.arr {S:Kn} {fn:FuncId} {ρ ρ':Operand->Value} (h:EvR C S fn E ρ ρ') {xs:Array Operand} (hx:xs.all (J00 C S fn)=true):AR C E (xs.map ρ) (xs.map ρ'):=
 AR.map xs fun x hm=>h.at_ x (by rw [Array.all_eq_true'] at hx;exact hx x hm)
theorem EvR.opt {S:Kn} {fn:FuncId} {ρ ρ':Operand->Value} (h:EvR C S fn E ρ ρ') {x:Option Operand} (hx:x.all (J00 C S fn)=true):J0m (VR C E) (x.map ρ) (x.map ρ'):=by
 cases x with
 | none=>trivial
 | some x=>exact h.at_ x (by simpa using hx)
theorem EvR.parts {S:Kn} {fn:FuncId} {ρ ρ':Operand->Value} (h:EvR C S fn E ρ ρ'):∀ {ps:List (Nat × Operand)},(ps.all fun p=>J00 C S fn p.2)=true->J46 C E (ps.map fun (i,x)=>(i,ρ x)) (ps.map fun (i,x)=>(i,ρ' x))
 | [],_=>.nil
 | p::ps,hp=>by simp only [List.all_cons,Ja8] at hp;exact .cons (h.at_ _ hp.1) (EvR.parts h hp.2)
abbrev J3j (C:Cx) (ok:FuncId->Code->Prop) (S:Kn):J5->Next->Next->Prop:=Jat C ok (Ent C S)
theorem J3.val {S:Kn} {s s':Sem Value} (h:J3 C ok E s s' (VR C)):J3 C ok E (do Pure.pure (Next.value (<- s))) (do Pure.pure (Next.value (<- s'))) (J3j C ok S):=
 J3.bind' h fun _ _ _ _ hv=>.pure (.value hv)
theorem J3.unit {S:Kn} {s s':Sem Unit} (h:J3 C ok E s s' (fun _ _ _=>True)):J3 C ok E (do s;Pure.pure Next.skip) (do s';Pure.pure Next.skip) (J3j C ok S):=
 J3.bind' h fun _ _ _ _ _=>.pure .skip
theorem J3.callFunc' {S:Kn} (K:J7o C S) {f:FuncId} {a a':Array Value} (ha:AR C E a a') (h:Ent C S f a):J3 C ok E (Go.callFunc f a) (Go.callFunc f a') (J3j C ok S):=
 (J3.callFunc (K.cs f h.1) ha).mono fun E1 x x' _ hx=>by obtain ⟨rfl,rfl,hx⟩:=hx;exact .enter hx h
theorem J3.Jwz {S:Kn} (K:J7o C S) {f:FuncId} (hf:S.xs.contains f=true) {a a':Array Value} (ha:AR C E a a') (h2:a.size=2):J3 C ok E (Go.callFunc f a) (Go.callFunc f a') (J3j C ok S):=by
 obtain ⟨fn,ps,rs,k1,k2,k3,k4,k5⟩:=K.xs f hf;have h2':a'.size=2:=ha.size▸h2;obtain ⟨x,y,rfl⟩:∃ x y,a=#[x,y]:=⟨a[0],a[1],by apply Array.ext<;>simp [h2];intro i hi;match i,hi with|0,_=>exact fun _=>rfl|1,_=>exact fun _=>rfl⟩;obtain ⟨x',y',rfl⟩:∃ x y,a'=#[x,y]:=⟨a'[0],a'[1],by apply Array.ext<;>simp [h2'];intro i hi;match i,hi with|0,_=>exact fun _=>rfl|1,_=>exact fun _=>rfl⟩;have hx:VR C E x x':=ha.at_ 0 _ _ (by simp) (by simp);have hy:VR C E y y':=ha.at_ 1 _ _ (by simp) (by simp);unfold Go.callFunc;refine J3.bind' (R:=fun _ p p'=>p=C.P/\p'=C.P) (.program ⟨rfl,rfl⟩) fun E1 s1 p p' hp=>?_;obtain ⟨rfl,rfl⟩:=hp;rw [k1]
 dsimp only
 simp only [k2,k3,k4,k5,Option.isNone_none,Jc1,if_false,if_true];refine J3.bind' (R:=fun _ _ _=>True) (J3.mark trivial trivial) fun E2 s2 _ _ _=>?_;exact J3.bind' (J3.overlaps ps rs ((hx.mono s1).mono s2) ((hy.mono s1).mono s2)) fun E3 s3 v v' hv=>.pure (.value hv)
theorem Ent.Jh1 {S:Kn} (K:J7o C S) {f:FuncId} (h:C.F f) (a:Array Value) (hz:a.size<=6):Ent C S f a:=⟨(K.fs f h).1,fun i x hi hx=>by have h1:=(K.fs f h).2 i hi;have h2:=(Ja3.1 hx).1;omega⟩
theorem J3.J9k {S:Kn} (K:J7o C S) (hh:Hnd C E) {name:String} (hn:C.ms.contains name=true) (c c':Array Value) {a a':Array Value} (ha:AR C E a a') (hz:a.size<=6) :
  J3 C ok E (Go.invoke (.fn (.method name) c) a) (Go.invoke (.fn (.method name) c') a') (J3j C ok S):=by
 unfold Go.invoke
 dsimp only
 cases e:a[0]? with
 | none=>exact J3.Jf fun w=>⟨_,w,rfl,by simp⟩
 | some x=>
  obtain ⟨x',hx',hr⟩:=ha.J04 e;rw [hx']
  dsimp only
  rw [show a'.size=a.size from ha.size.symm];have h1:1<=a.size:=by have:=(Ja3.1 e).1;omega
  exact (J3.callMethod K.pr hh (fun f hf=>K.cs f (K.fs f hf).1) hr name hn (ha.extract 1 a.size)).mono fun E1 x x' _ hx=>by obtain ⟨f,b,b',hf,rfl,rfl,hb,hs⟩:=hx;exact .enter hb (Ent.Jh1 K hf _ (by rw [hs];simp;omega))
theorem J3.nilAhead (K:J4y C):∀ (n:Nat) (t:TypeId),C.J2k t=true->∀ {v v':Value} (name:String),C.ms.contains name=true->VR C E v v'->J3 C ok E (Go.nilAhead n t v name) (Go.nilAhead n t v' name) (fun _ x x'=>x=x')
 | 0,_,_,_,_,_,_,_=>.pure rfl
 | n+1,t,ht,v,v',name,hn,hv=>by
  unfold Go.nilAhead;refine J3.bind' (J3.typeInfo _) fun E1 s1 i i' hi=>?_;obtain ⟨rfl,hi⟩:=hi;cases hm:i.methods.find? (·.name == name) with
  | none=>exact J3.Jf fun w=>⟨_,w,rfl,by simp⟩
  | some m=>
   have hname:m.name=name:=by have:=Array.find?_some hm;simpa using this
   obtain ⟨hp,f,p,hf⟩:=K.path t i m ht hi (Array.mem_of_find?_eq_some hm) (by rw [hname];exact hn)
   dsimp only
   rw [hp,hf];have e:∀ x:Value,Go.followBlind (#[]:Array FieldStep).toList t (some x)=Pure.pure (.ok (t,some x)):=fun x=>rfl;rw [e,e];refine J3.bind' (R:=fun _ x x'=>x=.ok (t,some v)/\x'=.ok (t,some v')) (.pure ⟨rfl,rfl⟩) fun E2 s2 x x' hx=>?_;obtain ⟨rfl,rfl⟩:=hx
   dsimp only
   cases p with
   | true=>exact .pure rfl
   | false=>
    dsimp only
    refine J3.bind' (J3.underlying t) fun E3 s3 u u' hu=>?_;obtain ⟨rfl,hu⟩:=hu;cases u<;>first
     | exact .pure rfl
     | (cases hv<;>exact .pure rfl)
theorem J3.invoked {S:Kn} (K:J7o C S) (hh:Hnd C E) {v v':Value} (hv:VR C E v v') {a a':Array Value} (ha:AR C E a a') (hz:a.size<=3) :
  J3 C ok E (do let d <- Deferred.ofValue v a;Go.invoke d.target d.args) (do let d <- Deferred.ofValue v' a';Go.invoke d.target d.args) (J3j C ok S):=by
 cases hv with
 | func hf ha1 hx1 hc hy=>
  have h1:=AR.append ⟨ha1,hx1⟩ ha;cases hf with
  | func hf=>exact J3.callFunc' K (AR.append h1 ⟨hc.1,hy⟩) (Ent.Jh1 K hf _ (by simp;omega))
  | yield hl=>exact J3.yield hl h1
  | method hn=>
   rename_i a1 a1' c1 c1' nm;exact J3.J9k K hh hn c1 c1' h1 (by simp;omega)
 | nilFunc=>
  show J3 C ok E (Go.runtimePanic (α:=Next) .nilDeref) (Go.runtimePanic .nilDeref) (J3j C ok S);exact J3.runtimePanic hh _
 | _=>exact .stuck _
theorem J3.panic {v v':Value} (hv:VR C E v v') (hn:v≠.nilIface):J3 C ok E (Instr.panic v) (Instr.panic v') (VR C):=by
 unfold Instr.panic;cases hv with
 | iface t ht h=>exact .goPanic (.iface t ht h)
 | nilIface=>exact absurd rfl hn
 | _=>exact .stuck _
def Jif (C:Cx) (S:Kn) (fn:FuncId) (o:Oper) (n:Next):Prop:=
 ∀ d,o.dst=some d->(S.own fn).contains d=true->∃ v,n=.value v/\J37 C v
theorem J3.resolved {S:Kn} {fn:FuncId} (K:J7o C S) (hh:Hnd C E) {ρ ρ':Operand->Value} (hρ:EvR C S fn E ρ ρ') {c:Call} (hc:Jie C S fn c=true) (t:TypeId) :
  J3 C ok E (do let d <- resolve ρ c t;Go.invoke d.target d.args) (do let d <- resolve ρ' c t;Go.invoke d.target d.args) (J3j C ok S):=by
 obtain ⟨callee,args,ats⟩:=c;simp only [Jie,Ja8] at hc;obtain ⟨h1,h2⟩:=hc;have ha:=hρ.arr h1;cases callee with
 | invoke r name=>
  simp only [Ja8] at h2;have hr:=hρ.at_ r h2.1.1;show J3 C ok E (Go.invoke (.fn (.method name) #[]) (#[ρ r]++args.map ρ)) (Go.invoke (.fn (.method name) #[]) (#[ρ' r]++args.map ρ')) _;have e:∀ (x:Value) (a:Array Value),Go.invoke (.fn (.method name) #[]) (#[x]++a)=Go.callMethod x name a:=fun x a=>by
   have h0:(#[x]++a)[0]?=some x:=by rw [Array.getElem?_append];simp
   unfold Go.invoke;simp [h0]
  rw [e,e];exact (J3.callMethod K.pr hh (fun f hf=>K.cs f (K.fs f hf).1) hr name h2.1.2 ha).mono fun E1 x x' _ hx=>by
   obtain ⟨f,b,b',hf,rfl,rfl,hb,hs⟩:=hx;have h3:args.size<=3:=by simpa using h2.2
   exact .enter hb (Ent.Jh1 K hf _ (by rw [hs];simp;omega))
 | builtin b=>
  cases b<;>first
   | (exfalso;exact Bool.false_ne_true h2)
   | skip
  ·exact J3.val (J3.append K.pr hh ats t ha)
  ·exact J3.val (J3.cap ats t ha)
  ·exact J3.val (J3.clear K.pr ats t ha fun r _=>C.lax (by simpa using h2) r)
  ·exact J3.val (J3.copy ats t ha)
  ·exact J3.val (J3.len ats t ha)
  ·exact J3.val (J3.max ats t ha)
  ·exact J3.val (J3.min ats t ha)
 | value f=>
  cases f with
  | func f=>
   have e:∀ ρ:Operand->Value,ρ (.func f)=.func (.func f) #[] #[]->(do let d <- resolve ρ ⟨.value (.func f),args,ats⟩ t;Go.invoke d.target d.args)=Go.callFunc f (args.map ρ):=fun ρ h=>by
    show (do let d <- Deferred.ofValue (ρ (.func f)) (args.map ρ);Go.invoke d.target d.args)=_;rw [h];show Go.callFunc f ((#[]++args.map ρ)++#[])=_;simp
   rw [e ρ (hρ.fn f).1,e ρ' (hρ.fn f).2]
   dsimp only at h2
   by_cases hx:S.xs.contains f=true
   ·rw [if_pos hx] at h2;exact J3.Jwz K hx ha (by simpa using h2)
   rw [if_neg hx] at h2;simp only [Jov,Ja8] at h2;obtain ⟨h2,h3⟩:=h2;refine J3.callFunc' K ha ⟨h2,fun i x hi hx=>?_⟩;rw [List.all_eq_true] at h3;have h4:=h3 i (by simpa using hi);simp only [Array.getElem?_map,Jc0] at hx;obtain ⟨y,hy,rfl⟩:=hx;rw [hy] at h4;exact hρ.own y h4
  | _=>
   simp only [Ja8,decide_eq_true_eq] at h2;exact J3.invoked K hh (hρ.at_ _ h2.1) ha (by simpa using h2.2)
theorem J3.nilCheck {S:Kn} (K:J4y C) (hh:Hnd C E) {ρ ρ':Operand->Value} {x:Operand} (hx:VR C E (ρ x) (ρ' x)) (o:Oper) (ho:o.op=.nilCheck x) :
  J3 C ok E (Go.execOp ρ o) (Go.execOp ρ' o) (J3j C ok S):=by
 unfold Go.execOp;rw [ho]
 dsimp only
 generalize ρ x=v at hx;generalize ρ' x=v' at hx;cases hx with
 | nilPtr=>exact J3.runtimePanic hh _
 | nilIface=>exact J3.runtimePanic hh _
 | nilFunc=>exact J3.runtimePanic hh _
 | func hf ha hx hc hy=>
  cases hf with
  | func hf=>exact .pure (.value (.func (.func hf) ha hx hc hy))
  | yield hf=>exact .pure (.value (.func (.yield hf) ha hx hc hy))
  | method hn=>
   rename_i a a' c c' nm;have fin:∀ E1,Sub E E1->J3 C ok E1 (Pure.pure (Next.value (.func (.method nm) a c)):Sem Next) (Pure.pure (Next.value (.func (.method nm) a' c'))) (J3j C ok S):=fun E1 s=>.pure (.value (VR.mono s (.func (.method hn) ha hx hc hy)))
   dsimp only
   have hA:AR C E a a':=⟨ha,hx⟩;cases e:a[0]? with
   | none=>rw [hA.J6m e];exact fin E (.refl E)
   | some x=>
    obtain ⟨x',hx',hr⟩:=hA.J04 e;rw [hx'];cases hr with
    | nilIface=>exact J3.runtimePanic hh _
    | iface t ht h=>
     dsimp only
     refine J3.bind' (R:=fun _ p p'=>p=C.P/\p'=C.P) (.program ⟨rfl,rfl⟩) fun E1 s1 p p' hp=>?_;obtain ⟨rfl,rfl⟩:=hp;refine J3.bind' (J3.nilAhead K _ t ht nm hn (h.mono s1)) fun E2 s2 b b' hb=>?_;obtain rfl:b=b':=hb;split
     ·exact J3.bind' (R:=fun _ _ _=>False) (.unsupported _) fun _ _ _ _ h=>h.elim
     ·exact fin _ (s1.trans s2)
    | _=>exact fin E (.refl E)
 | bool b=>exact .pure (.value (.bool b))
 | int k n=>exact .pure (.value (.int k n))
 | string x=>exact .pure (.value (.string x))
 | ptr o p h=>exact .pure (.value (.ptr o p h))
 | Jo l c=>exact .pure (.value (.Jo l c))
 | slice o p l c h=>exact .pure (.value (.slice o p l c h))
 | J1n=>exact .pure (.value .J1n)
 | J23=>exact .pure (.value .J23)
 | map h=>exact .pure (.value (.map h))
 | iface t ht h=>exact .pure (.value (.iface t ht h))
 | agg ha hx=>exact .pure (.value (.agg ha hx))
 | tuple ha hx=>exact .pure (.value (.tuple ha hx))
theorem Jby {t:TypeId} (h:Jh0 C t=true):C.st=false\/∀ kt e,C.P.underlying t=some (.map kt e)->J28 C.P 20 kt=true:=by
 unfold Jh0 at h;cases hs:C.st with
 | false=>exact .inl rfl
 | true=>
  rw [hs] at h;refine .inr fun kt e hk=>?_;rw [hk] at h;simpa using h
theorem Jve {op:BinOp} {t:TypeId} {y:Operand} {v:Value} (h:Jwy C op t y=true):(∀ w,y=.const w->v=w)->(op=.eql\/op=.neq)->Jic C t v:=by
 intro hv0 ho;have h':(!C.st || J28 C.P 20 t || Jm4 C.P t y)=true:=by
  rcases ho with rfl|rfl<;>exact h
 simp only [Bool.or_eq_true,Bool.not_eq_true'] at h';rcases h' with (h'|h')|h'
 ·exact .inl h'
 ·exact .inr (.inl ⟨20,h'⟩)
 ·refine .inr (.inr ?_);unfold Jm4 at h';split at h'
  ·refine .inl ⟨hv0 _ rfl,?_⟩;split at h'
   ·rename_i e he;exact ⟨e,he⟩
   ·cases h'
  ·refine .inr ⟨hv0 _ rfl,?_⟩;split at h'
   ·rename_i e he;exact ⟨e,he⟩
   ·cases h'
  ·cases h'
theorem J3.execOp {S:Kn} {fn:FuncId} (K:J7o C S) (hh:Hnd C E) {ρ ρ':Operand->Value} (hρ:EvR C S fn E ρ ρ') (o:Oper) (ho:J2m C S fn o.op=true) :
  J3 C ok E (Go.execOp ρ o) (Go.execOp ρ' o) (J3j C ok S):=by
 obtain ⟨dst,op,ty,pos,after,guard⟩:=o;simp only at ho;have hcon:∀ (y:Operand) (w:Value),y=.const w->ρ y=w:=fun y w h=>by rw [h,hρ.con]
 cases op with
 | move x=>exact .pure (.value (hρ.at_ x ho))
 | assign x=>exact .pure (.value (hρ.at_ x ho))
 | pick c a b=>
  simp only [J2m,Ja8] at ho;refine J3.bind' (J3.asBool (hρ.at_ c ho.1.1)) fun E1 s1 b b' hb=>?_;obtain rfl:b=b':=hb;refine .pure (.value ?_);cases b
  ·exact (hρ.at_ _ ho.2).mono s1
  ·exact (hρ.at_ _ ho.1.2).mono s1
 | alloc t=>exact J3.val (J3.alloc K.pr hh t)
 | box t x=>exact J3.val (J3.box hh t (hρ.at_ x ho))
 | build t ps=>exact J3.val (J3.build K.pr t (by rw [Array.toList_map,Array.toList_map];exact hρ.parts ho))
 | buildSlice t n ps=>exact J3.val (J3.buildSlice K.pr hh t n (by rw [Array.toList_map,Array.toList_map];exact hρ.parts ho))
 | load t a=>exact J3.val (J3.loadAt t (hρ.at_ a ho))
 | store t a x=>simp only [J2m,Ja8] at ho;exact J3.unit (J3.storeAt t (hρ.at_ a ho.1) (hρ.at_ x ho.2))
 | nilCheck x=>exact J3.nilCheck K.pr hh (hρ.at_ x ho) _ rfl
 | binOp op t x y yt=>
  simp only [J2m,Ja8] at ho;refine J3.val (J3.bind' (J3.eqGuard op t x y (hρ.at_ x ho.1.1) (hρ.at_ y ho.1.2)) fun E1 s1 _ _ _=>?_);exact J3.binOp (hh.mono s1) op t ((hρ.at_ x ho.1.1).mono s1) ((hρ.at_ y ho.1.2).mono s1) (Jve ho.2 (hcon y))
 | unOp op t x=>exact J3.val (J3.unary op (hρ.at_ x ho))
 | convert s d x=>simp only [J2m,Ja8] at ho;exact J3.val (J3.convert hh s d (hρ.at_ x ho.1.1) ho.1.2 (Jm5 ho.2))
 | makeInterface t x=>simp only [J2m,Ja8] at ho;exact J3.val (J3.makeInterface t ho.2 (hρ.at_ x ho.1))
 | makeFunc f first captured=>
  cases f with
  | func f=>simp only [J2m,Ja8] at ho;exact J3.val (J3.makeFunc (.func ho.1.1.1) (hρ.arr ho.1.1.2) (hρ.arr ho.1.2) (by simpa using ho.2))
  | method f=>simp only [J2m,Ja8] at ho;exact J3.val (J3.makeFunc (.method ho.1.1.1) (hρ.arr ho.1.1.2) (hρ.arr ho.1.2) (by simpa using ho.2))
  | _=>cases ho
 | makeMap t r=>exact J3.val ((J3.makeMap hh t (hρ.opt ho)).mono fun _ _ _ _ h=>h.1)
 | makeSlice t l c=>simp only [J2m,Ja8] at ho;exact J3.val (J3.makeSlice K.pr hh t (hρ.at_ l ho.1) (hρ.at_ c ho.2))
 | slice t x l h m=>simp only [J2m,Ja8] at ho;exact J3.val (J3.sliceAt hh t (hρ.at_ x ho.1.1.1) (hρ.opt ho.1.1.2) (hρ.opt ho.1.2) (hρ.opt ho.2))
 | fieldAddr t x n=>exact J3.val (J3.fieldAt t (hρ.at_ x ho) n)
 | field t x n=>exact J3.val (J3.field t (hρ.at_ x ho) n)
 | indexAddr t x i=>simp only [J2m,Ja8] at ho;exact J3.val (J3.indexAt hh t (hρ.at_ x ho.1) (hρ.at_ i ho.2))
 | index t x i=>simp only [J2m,Ja8] at ho;exact J3.val (J3.index hh t (hρ.at_ x ho.1) (hρ.at_ i ho.2))
 | lookup t x i c=>simp only [J2m,Ja8] at ho;exact J3.val (J3.lookup K.pr hh t 20 (hρ.at_ x ho.1.1) (hρ.at_ i ho.1.2) c (Jby ho.2))
 | mapUpdate t m k x=>
  simp only [J2m,Ja8,Bool.or_eq_true,Bool.not_eq_true'] at ho;refine J3.unit (J3.mapUpdate hh t 20 (hρ.at_ m ho.1.1.1.1) (hρ.at_ k ho.1.1.1.2) (hρ.at_ x ho.1.1.2) (fun r hr=>?_) (Jby ho.2));rcases ho.1.2 with h|h
  ·exact C.lax h r
  ·exact (hρ.own m h).1 r hr
 | insert t m k x=>
  simp only [J2m,Ja8,Bool.or_eq_true,Bool.not_eq_true'] at ho;refine J3.unit (J3.mapUpdate hh t 20 (hρ.at_ m ho.1.1.1.1) (hρ.at_ k ho.1.1.1.2) (hρ.at_ x ho.1.1.2) (fun r hr=>?_) (Jby ho.2));rcases ho.1.2 with h|h
  ·exact C.lax h r
  ·exact (hρ.own m h).1 r hr
 | range t x=>exact J3.val (J3.range hh t (hρ.at_ x ho))
 | next x b=>exact J3.val (J3.next hh (hρ.at_ x ho) b ty)
 | entry x=>exact J3.val (J3.entry (hρ.at_ x ho))
 | typeAssert x xt t c=>exact J3.val (J3.typeAssert K.pr hh (hρ.at_ x ho) xt t c)
 | extract x n=>exact J3.val (J3.extract (hρ.at_ x ho) n)
 | call c=>exact J3.resolved K hh hρ ho ty
 | panic x=>simp only [J2m,Ja8] at ho;exact J3.val (J3.panic (hρ.at_ x ho.1) (hρ.own x ho.2).2)
 | _=>cases ho
theorem J3.makeInterface' (t:TypeId) (ht:C.J2k t=true) {x x':Value} (hx:VR C E x x'):J3 C ok E (Instr.makeInterface t x) (Instr.makeInterface t x') (fun E1 v v'=>VR C E1 v v'/\∃ a b,v=.iface a b):=by
 unfold Instr.makeInterface;refine J3.bind' (J3.underlying t) fun E1 s1 u u' hu=>?_;obtain ⟨rfl,hu⟩:=hu;cases u<;>first|exact .stuck _|exact .pure ⟨.iface t ht (hx.mono s1),_,_,rfl⟩
theorem J3.execOp' {S:Kn} {fn:FuncId} (K:J7o C S) (hh:Hnd C E) {ρ ρ':Operand->Value} (hρ:EvR C S fn E ρ ρ') (o:Oper) (ho:J81 C S fn o=true) :
  J3 C ok E (Go.execOp ρ o) (Go.execOp ρ' o) (fun E1 n n'=>J3j C ok S E1 n n'/\Jif C S fn o n):=by
 simp only [J81,Ja8] at ho;obtain ⟨h1,h2⟩:=ho;have easy:(∀ n,Jif C S fn o n)->J3 C ok E (Go.execOp ρ o) (Go.execOp ρ' o) (fun E1 n n'=>J3j C ok S E1 n n'/\Jif C S fn o n):=fun h=>
  (J3.execOp K hh hρ o h1).mono fun _ n _ _ hn=>⟨hn,h n⟩
 unfold Ju4 at h2;cases hd:o.dst with
 | none=>exact easy fun n d h=>by rw [hd] at h;cases h
 | some d=>
  rw [hd] at h2;simp only [Bool.or_eq_true,Bool.not_eq_true'] at h2;rcases h2 with h2|h2
  ·exact easy fun n d' h h3=>by rw [hd] at h;cases h;rw [h2] at h3;cases h3
  ·have now:∀ n,(∀ v,n=.value v->J37 C v)->(∃ v,n=.value v)->Jif C S fn o n:=fun n h ⟨v,hv⟩ _ _ _=>⟨v,hv,h v hv⟩;have ev:∀ (ρ:Operand->Value) op,o.op=op->Go.execOp ρ o=Go.execOp ρ { o with op:=op }:=fun ρ op h=>by subst h;rfl
   cases ho:o.op with
   | makeMap t r=>
    rw [ho] at h1;rw [ev ρ _ ho,ev ρ' _ ho];refine J3.bind' (J3.makeMap hh t (hρ.opt h1)) fun E1 s1 v v' hv=>.pure ⟨.value hv.1,now _ (fun u hu=>?_) ⟨_,rfl⟩⟩;cases hu;exact hv.2
   | makeInterface t x=>
    rw [ho] at h1;simp only [J2m,Ja8] at h1;rw [ev ρ _ ho,ev ρ' _ ho];refine J3.bind' (J3.makeInterface' t h1.2 (hρ.at_ x h1.1)) fun E1 s1 v v' hv=>.pure ⟨.value hv.1,now _ (fun u hu=>?_) ⟨_,rfl⟩⟩;cases hu;obtain ⟨_,a,b,rfl⟩:=hv;exact ⟨fun r hr=>by simp at hr,by simp⟩
   | move x=>
    rw [ho] at h1 h2;rw [ev ρ _ ho,ev ρ' _ ho];exact .pure ⟨.value (hρ.at_ x h1),now _ (fun u hu=>by cases hu;exact hρ.own x h2) ⟨_,rfl⟩⟩
   | assign x=>
    rw [ho] at h1 h2;rw [ev ρ _ ho,ev ρ' _ ho];exact .pure ⟨.value (hρ.at_ x h1),now _ (fun u hu=>by cases hu;exact hρ.own x h2) ⟨_,rfl⟩⟩
   | _=>rw [ho] at h2;cases h2
def J6o (C:Cx) (S:Kn) (fn:FuncId) (o:Oper):Bool:=
 S.df.contains fn && (S.own fn).isEmpty && match o.op with
  | .defer c=>c.args.all (J00 C S fn) && decide (c.args.size<=3) && (match c.callee with | .value x=>J00 C S fn x|_=>false)
  | .call c=>c.args.isEmpty && (match c.callee with | .builtin .recover=>true|_=>false)
  | _=>false
theorem J3.Jow {S:Kn} {fn:FuncId} {ρ ρ':Operand->Value} (hρ:EvR C S fn E ρ ρ') (o:Oper) (ho:J6o C S fn o=true) :
  J3 C ok E (Go.execOp ρ o) (Go.execOp ρ' o) (fun E1 n n'=>(∃ d d',n=.defer d/\n'=.defer d'/\Jbw C E1 d d')\/(n=.recover/\n'=.recover)):=by
 obtain ⟨dst,op,ty,pos,after,guard⟩:=o;simp only [J6o,Ja8] at ho;obtain ⟨_,ho⟩:=ho;cases op with
 | defer c=>
  obtain ⟨callee,args,ats⟩:=c;simp only [Ja8,decide_eq_true_eq] at ho;obtain ⟨⟨h1,h3⟩,h2⟩:=ho;have ha:=hρ.arr h1;cases callee with
  | value x=>
   have hx:=hρ.at_ x h2;show J3 C ok E (do Pure.pure (Next.defer (<- Deferred.ofValue (ρ x) (args.map ρ)))) (do Pure.pure (Next.defer (<- Deferred.ofValue (ρ' x) (args.map ρ')))) _;generalize ρ x=v at hx;generalize ρ' x=v' at hx;cases hx with
   | func hf ha1 hx1 hc hy=>exact .pure (.inl ⟨_,_,rfl,rfl,.fn hf ⟨hc.1,hy⟩,AR.append ⟨ha1,hx1⟩ ha,fun f c e=>by cases e;simp;omega⟩)
   | nilFunc=>exact .pure (.inl ⟨_,_,rfl,rfl,.nil,ha,fun f c e=>by cases e⟩)
   | _=>exact .stuck _
  | _=>cases h2
 | call c=>
  obtain ⟨callee,args,ats⟩:=c;simp only [Ja8] at ho;obtain ⟨h1,h2⟩:=ho;cases callee with
  | builtin b=>
   cases b<;>first
    | (exfalso;exact Bool.false_ne_true h2)
    | exact .pure (.inr ⟨rfl,rfl⟩)
  | _=>cases h2
 | _=>cases ho
end
def Jbz (C:Cx) (S:Kn) (fn:FuncId) (ops:Array Oper):Bool:=
 ops.all fun o=>(J81 C S fn o || J6o C S fn o) && (match o.dst with|some d=>!(C.hl fn).contains d|none=>true)
def Jig (C:Cx) (fn:FuncId) (d:Option Nat):Bool:=match d with|some d=>!(C.hl fn).contains d|none=>true
def okD (C:Cx) (fn:FuncId) (ops:Array Oper) (i:Nat):Bool:=match ops[i]? with
 | some o=>Jig C fn o.dst && (match o.guard with|none=>true|some (j,_)=>Jig C fn ((ops[j]?).bind (·.dst)))
 | none=>true
def J2u (C:Cx) (S:Kn) (fn:FuncId) (ops:Array Oper) (is:List Nat):Bool:=
 is.all fun i=>okD C fn ops i && match ops[i]? with|some o=>J81 C S fn o || J6o C S fn o|none=>true
section
variable {C:Cx} {S:Kn} {fn:FuncId} {ops:Array Oper}
theorem Jl2 (h:Jbz C S fn ops=true) (is:List Nat):J2u C S fn ops is=true:=by
 unfold Jbz at h;rw [Array.all_eq_true'] at h;have hd:∀ o∈ops,Jig C fn o.dst=true:=fun o ho=>by have:=h o ho;rw [Ja8] at this;exact this.2
 unfold J2u;rw [List.all_eq_true];intro i _;rw [Ja8];refine ⟨?_,?_⟩
 ·unfold okD;cases ho:ops[i]? with
  | none=>rfl
  | some o=>
   simp only [Ja8];refine ⟨hd o (Jc5 ho),?_⟩;cases hg:o.guard with
   | none=>rfl
   | some p=>
    simp only;cases hj:ops[p.1]? with
    | none=>rfl
    | some o'=>exact hd o' (Jc5 hj)
 ·cases ho:ops[i]? with
  | none=>rfl
  | some o=>
   have:=h o (Jc5 ho);rw [Ja8] at this;exact this.1
theorem Jca {i:Nat} {is:List Nat} (h:J2u C S fn ops (i::is)=true):okD C fn ops i=true:=by unfold J2u at h;rw [List.all_cons,Ja8,Ja8] at h;exact h.1.1
theorem J9l {i:Nat} {is:List Nat} (h:J2u C S fn ops (i::is)=true):J2u C S fn ops is=true:=by unfold J2u at h ⊢;rw [List.all_cons,Ja8] at h;exact h.2
theorem Jvf {i:Nat} {is:List Nat} (h:J2u C S fn ops (i::is)=true) {o:Oper} (ho:ops[i]?=some o):J81 C S fn o=true\/J6o C S fn o=true:=by unfold J2u at h;rw [List.all_cons,Ja8,Ja8,ho] at h;simpa [Bool.or_eq_true] using h.1.2
end
def Jj (C:Cx) (S:Kn) (fn:FuncId):Code->Bool
 | .skip | .exit _ | .goto _ | .label _ | .ret | .refuse _=>true
 | .region _ ops _=>Jbz C S fn ops
 | .seq a b=>Jj C S fn a && Jj C S fn b
 | .cond c a b=>J00 C S fn c && Jj C S fn a && Jj C S fn b
 | .block _ b | .loop b | .scope b=>Jj C S fn b
 | .rangeFunc f _ aS bd=>J00 C S fn f && Jj C S fn aS && Jj C S fn bd && (S.own fn).isEmpty && (C.hl fn).isEmpty && !(S.df.contains fn) && !C.st
def J9m:ResultVar->Nat
 | .tmp t=>t
 | .cell a _=>a
def J6p (C:Cx) (f:FuncId):Prop:=∀ fn,C.P.funcs[f]?=some fn->∀ r∈fn.results,(C.hl f).contains (J9m r)=false
abbrev okP (C:Cx) (S:Kn):FuncId->Code->Prop:=fun f c=>Jj C S f c=true/\S.own f=[]/\J6p C f/\J0k C f/\S.df.contains f=false
inductive J4i (C:Cx) (S:Kn) (fn:FuncId) (E:J5):Item->Item->Prop
 | code {c} (h:Jj C S fn c=true):J4i C S fn E (.code c) (.code c)
 | inBlock (id:Nat):J4i C S fn E (.inBlock id) (.inBlock id)
 | inLoop {c} (h:Jj C S fn c=true):J4i C S fn E (.inLoop c) (.inLoop c)
 | inScope {c} (h:Jj C S fn c=true):J4i C S fn E (.inScope c) (.inScope c)
 | inRegion {ops} (is:List Nat) (h:J2u C S fn ops is=true):J4i C S fn E (.inRegion ops is) (.inRegion ops is)
 | inRangeFunc {l l'} (h:E l l'):J4i C S fn E (.inRangeFunc l) (.inRangeFunc l')
 | endRangeFunc {l l'} (h:E l l'):J4i C S fn E (.endRangeFunc l) (.endRangeFunc l')
 | beginRound:J4i C S fn E .beginRound .beginRound
inductive J10 (C:Cx) (S:Kn) (fn:FuncId) (E:J5):List Item->List Item->Prop
 | nil:J10 C S fn E [] []
 | cons {x x' l l'} (h:J4i C S fn E x x') (hl:J10 C S fn E l l'):J10 C S fn E (x::l) (x'::l')
structure TmR (C:Cx) (S:Kn) (fn:FuncId) (E:J5) (t t':Array Value):Prop where
 size:t.size=t'.size
 at_:∀ (i:Nat) (x x':Value),(C.hl fn).contains i=false->t[i]?=some x->t'[i]?=some x'->VR C E x x'
 own:∀ (i:Nat) (x:Value),(S.own fn).contains i=true->t[i]?=some x->J37 C x
section
variable {C:Cx} {S:Kn} {fn:FuncId} {E E1:J5}
theorem J4i.mono (s:Sub E E1) {x x':Item} (h:J4i C S fn E x x'):J4i C S fn E1 x x':=by
 cases h with
 | code h=>exact .code h
 | inBlock id=>exact .inBlock id
 | inLoop h=>exact .inLoop h
 | inScope h=>exact .inScope h
 | inRegion is h=>exact .inRegion is h
 | inRangeFunc h=>exact .inRangeFunc (s _ _ h)
 | endRangeFunc h=>exact .endRangeFunc (s _ _ h)
 | beginRound=>exact .beginRound
theorem J10.mono (s:Sub E E1) {l l':List Item} (h:J10 C S fn E l l'):J10 C S fn E1 l l':=by
 induction h with
 | nil=>exact .nil
 | cons h _ ih=>exact .cons (h.mono s) ih
theorem TmR.mono (s:Sub E E1) {t t':Array Value} (h:TmR C S fn E t t'):TmR C S fn E1 t t':=
 ⟨h.size,fun i x x' a b c=>(h.at_ i x x' a b c).mono s,h.own⟩
theorem Jm6 (id:Nat) {l l':List Item} (h:J10 C S fn E l l') :
  ((∀ k,exitTo id (l++k)=exitTo id k)/\∀ k,exitTo id (l'++k)=exitTo id k)\/∃ y y',(∀ k,exitTo id (l++k)=some (y++k))/\J10 C S fn E y y'/\∀ k,exitTo id (l'++k)=some (y'++k):=by
 induction h with
 | nil=>exact .inl ⟨fun k=>rfl,fun k=>rfl⟩
 | cons h hl ih=>
  cases h with
  | inBlock id'=>
   simp only [exitTo,Jc7];by_cases e:(id' == id)=true
   ·simp only [e,if_true];exact .inr ⟨_,_,fun k=>rfl,hl,fun k=>rfl⟩
   ·simp only [e,if_false,Jc1];exact ih
  | _=>simpa only [exitTo,Jc7] using ih
theorem Jih {c r:Code} {l:Nat} (h:Jj C S fn c=true) (hf:findLabel c l=some r):Jj C S fn r=true:=by
 induction c generalizing r with
 | seq a b iha ihb=>
  simp only [Jj,Ja8] at h;simp only [findLabel] at hf;cases ha:findLabel a l with
  | some x=>rw [ha] at hf;cases hf;simp only [Jj,Ja8];exact ⟨iha h.1 ha,h.2⟩
  | none=>rw [ha] at hf;exact ihb h.2 hf
 | label x=>
  simp only [findLabel] at hf;split at hf
  ·cases hf;rfl
  ·cases hf
 | _=>simp [findLabel] at hf
theorem Jm7 (n:Nat) {l l':List Item} (h:J10 C S fn E l l') :
  ((∀ k,gotoIn n (l++k)=gotoIn n k)/\∀ k,gotoIn n (l'++k)=gotoIn n k)\/∃ y y',(∀ k,gotoIn n (l++k)=some (y++k))/\J10 C S fn E y y'/\∀ k,gotoIn n (l'++k)=some (y'++k):=by
 induction h with
 | nil=>exact .inl ⟨fun k=>rfl,fun k=>rfl⟩
 | cons h hl ih=>
  cases h with
  | inScope h=>
   simp only [gotoIn,Jc7];split
   ·rename_i r hr;exact .inr ⟨_,_,fun k=>rfl,.cons (.code (Jih h hr)) (.cons (.inScope h) hl),fun k=>rfl⟩
   ·exact ih
  | _=>simpa only [gotoIn,Jc7] using ih
theorem TmR.set {t t':Array Value} (h:TmR C S fn E t t') (i:Nat) {v v':Value} (hv:VR C E v v') (ho:(S.own fn).contains i=true->J37 C v) :
  TmR C S fn E (t.setIfInBounds i v) (t'.setIfInBounds i v'):=by
 refine ⟨by simp [h.size],fun j x x' hj hx hx'=>?_,fun j x hj hx=>?_⟩
 ·rw [Jb9] at hx hx';by_cases hij:i=j
  ·subst hij;simp only [if_true] at hx hx';split at hx<;>split at hx'<;>simp_all
  ·simp only [hij,if_false] at hx hx';exact h.at_ j x x' hj hx hx'
 ·rw [Jb9] at hx;by_cases hij:i=j
  ·subst hij;simp only [if_true] at hx;split at hx
   ·cases hx;exact ho hj
   ·cases hx
  ·simp only [hij,if_false] at hx;exact h.own j x hj hx
theorem J37.undef:J37 C undef:=⟨fun r h=>by simp [Go.undef] at h,by simp [Go.undef]⟩
theorem TmR.getD {t t':Array Value} (h:TmR C S fn E t t') {i:Nat} (hi:(C.hl fn).contains i=false):VR C E (t.getD i undef) (t'.getD i undef):=by
 rw [Ja5,Ja5];by_cases hs:i<t.size
 ·have hs':i<t'.size:=h.size▸hs;rw [Ja4 hs,Ja4 hs'];exact h.at_ i _ _ hi (Ja4 hs) (Ja4 hs')
 ·rw [Jb0 (Nat.le_of_not_lt hs),Jb0 (h.size▸Nat.le_of_not_lt hs)];exact .undef
theorem EvR.Jm8 {fr fr':Frame} (h:TmR C S fn E fr.tmps fr'.tmps) (hg:∀ g,S.gs.contains g=true->E g g):EvR C S fn E fr.eval fr'.eval:=by
 refine ⟨fun x hx=>?_,fun x hx=>?_,fun f=>⟨rfl,rfl⟩,fun v=>rfl⟩
 ·cases x with
  | tmp t=>exact h.getD (by simpa [J00] using hx)
  | const v=>exact J6k 20 v hx
  | global g=>exact .ptr 0 none (hg g hx)
  | func f=>exact .func (.func hx) rfl (fun i x x' h=>by simp at h) ⟨rfl,by simp⟩ (fun i x x' h=>by simp at h)
 ·cases x with
  | tmp t=>
   show J37 C (fr.tmps.getD t undef);rw [Ja5];cases e:fr.tmps[t]? with
   | none=>exact J37.undef
   | some v=>exact h.own t v hx e
  | _=>cases hx
theorem TmR.enter {f:FuncId} {a a':Array Value} (ha:AR C E a a') (hf:Ent C S f a) (n:Nat) :
  TmR C S f E (a++Array.replicate (n-a.size) undef) (a'++Array.replicate (n-a'.size) undef):=by
 have h:=ha.append (AR.replicate (n:=n-a.size) (VR.undef (C:=C) (E:=E)));rw [show a'.size=a.size from ha.size.symm];refine ⟨h.size,fun i x x' _=>h.at_ i x x',fun i x hi hx=>?_⟩;rw [Array.getElem?_append] at hx;split at hx
 ·exact hf.2 i x hi hx
 ·rw [Array.getElem?_replicate] at hx;split at hx
  ·cases hx;exact J37.undef
  ·cases hx
end
inductive J1q (C:Cx) (E:J5):List PanicEntry->List PanicEntry->Prop
 | nil:J1q C E [] []
 | cons {v v' l l'} (r g:Bool) (h:VR C E v v') (hl:J1q C E l l'):J1q C E ({ v,recovered:=r,goexit:=g }::l) ({ v:=v',recovered:=r,goexit:=g }::l')
inductive J77 (C:Cx) (E:J5):FrameMode->FrameMode->Prop
 | run:J77 C E .run .run
 | returning:J77 C E .returning .returning
 | panicking {c c'} (h:J1q C E c c'):J77 C E (.panicking c) (.panicking c')
structure FrR (C:Cx) (S:Kn) (E:J5) (fr fr':Frame):Prop where
 fn:fr'.fn=fr.fn
 body:J0k C fr.fn
 kind:fr.kind=.normal\/fr.kind=.deferred
 kind':fr'.kind=fr.kind
 round:J0m E fr.roundOf fr'.roundOf
 tmps:TmR C S fr.fn E fr.tmps fr'.tmps
 todo:J10 C S fr.fn E fr.todo fr'.todo
 defers:J0x C E fr.defers fr'.defers
 mode:J77 C E fr.mode fr'.mode
 hol:J6p C fr.fn
 rd:fr.roundOf≠none->S.df.contains fr.fn=false
def Jp:Deferred:={ target:=.fn (.method "") #[],args:=#[] }
def Jt:Item:=.code (.refuse "")
structure Bot where
 fn:FuncId
 tm:Array Value
 k:List Item
 rest:List Nat
 kind:CallKind
 defers:List Deferred
 cs:List Frame
inductive J4j (C:Cx) (S:Kn) (cs:Bot) (fn:FuncId) (E:J5):List Item->List Item->Prop
 | code {l l'} (hr:cs.rest=[]) (h:J10 C S fn E l l'):J4j C S cs fn E (l++[Jt]) (l'++cs.k)
 | ops {ops:Array Oper} (is:List Nat) (h:J2u C S fn ops is=true):J4j C S cs fn E [.inRegion ops is,Jt] (.inRegion ops (is++cs.rest)::cs.k)
structure J5k (C:Cx) (S:Kn) (cs:Bot) (E:J5) (fr fr':Frame):Prop where
 fn:fr'.fn=fr.fn
 body:J0k C fr.fn
 kind:fr.kind=.normal
 early:fr'.kind≠.early
 round:fr.roundOf=none
 round':fr'.roundOf=none
 tmps:TmR C S fr.fn E fr.tmps fr'.tmps
 todo:J4j C S cs fr.fn E fr.todo fr'.todo
 defers:fr.defers=[Jp]
 mode:fr.mode=.run
 J5r:fr'.mode=.run
 nodf:S.df.contains fr.fn=false
 norf:C.hl fr.fn≠[]
 kind2:fr'.kind=cs.kind
 dfr:fr'.defers=cs.defers
 fn2:fr'.fn=cs.fn
 hold:∀ i,(C.hl fr.fn).contains i=true->fr'.tmps[i]?=cs.tm[i]?
structure Waits (S:Kn) (f:Frame):Prop where
 own:∀ ops i r k d,f.todo=.inRegion ops (i::r)::k->(ops[i]?).bind (·.dst)=some d->(S.own f.fn).contains d=false
 head:(∃ ops i r k,f.todo=.inRegion ops (i::r)::k)\/∃ l k,f.todo=.inRangeFunc l::k
inductive J2n (C:Cx) (S:Kn) (E:J5) (cs:Bot):CallKind->List Frame->List Frame->Prop
 | bot {k c c'} (h:J5k C S cs E c c') (ho:k=.normal->Waits S c):J2n C S E cs k [c] (c'::cs.cs)
 | cons {k f f' l l'} (h:FrR C S E f f') (ho:k=.normal->Waits S f) (hl:J2n C S E cs f.kind l l'):J2n C S E cs k (f::l) (f'::l')
inductive StR (C:Cx) (S:Kn) (E:J5) (cs:Bot):List Frame->List Frame->Prop
 | bot {c c'} (h:J5k C S cs E c c'):StR C S E cs [c] (c'::cs.cs)
 | cons {f f' l l'} (h:FrR C S E f f') (hl:J2n C S E cs f.kind l l'):StR C S E cs (f::l) (f'::l')
structure GR (C:Cx) (S:Kn) (E:J5) (cs:Bot) (g g':Goroutine):Prop where
 stack:StR C S E cs (g.frame::g.callers) (g'.frame::g'.callers)
 run:g.status=.running
 run':g'.status=.running
 dying:g.dying=none
 dying':g'.dying=none
 offers:g'.offers=none
def J9n (g:Goroutine):Prop:=g.callers=[]/\(∃ c,g.frame.mode=.panicking c)/\g.frame.defers=[Jp]/\g.dying=none
def Jh2 (g:Goroutine):Prop:=g.callers=[]/\g.frame.mode=.run/\(g.frame.todo=[Jt]\/∃ ops,g.frame.todo=[.inRegion ops [],Jt])
structure Jii (C:Cx) (S:Kn) (E:J5) (cs:Bot) (g g':Goroutine):Prop where
 alone:g.callers=[]
 below:g'.callers=cs.cs
 fn:g'.frame.fn=g.frame.fn
 mode:g.frame.mode=.returning
 J5r:g'.frame.mode=.returning
 tmps:TmR C S g.frame.fn E g.frame.tmps g'.frame.tmps
 defers:g.frame.defers=[Jp]
 run:g.status=.running
 run':g'.status=.running
 dying:g.dying=none
 dying':g'.dying=none
 offers:g'.offers=none
 kind2:g'.frame.kind=cs.kind
 dfr:g'.frame.defers=cs.defers
 round':g'.frame.roundOf=none
 fn2:g'.frame.fn=cs.fn
 hold:∀ i,(C.hl g.frame.fn).contains i=true->g'.frame.tmps[i]?=cs.tm[i]?
section
variable {C:Cx} {S:Kn} {fn:FuncId} {E E1:J5} {cs:Bot}
theorem J1q.mono (s:Sub E E1) {l l':List PanicEntry} (h:J1q C E l l'):J1q C E1 l l':=by
 induction h with
 | nil=>exact .nil
 | cons r g h _ ih=>exact .cons r g (h.mono s) ih
theorem J1q.append {a a' b b':List PanicEntry} (h:J1q C E a a') (k:J1q C E b b'):J1q C E (a++b) (a'++b'):=by
 induction h with
 | nil=>exact k
 | cons r g h _ ih=>exact .cons r g h ih
theorem J77.mono (s:Sub E E1) {l l':FrameMode} (h:J77 C E l l'):J77 C E1 l l':=by
 cases h with
 | run=>exact .run
 | returning=>exact .returning
 | panicking h=>exact .panicking (h.mono s)
theorem FrR.mono (s:Sub E E1) {f f':Frame} (h:FrR C S E f f'):FrR C S E1 f f':=
 ⟨h.fn,h.body,h.kind,h.kind',h.round.mono' (s · ·),h.tmps.mono s,h.todo.mono s,h.defers.mono s,h.mode.mono s,h.hol,h.rd⟩
theorem J4j.mono (s:Sub E E1) {l l':List Item} (h:J4j C S cs fn E l l'):J4j C S cs fn E1 l l':=by
 cases h with
 | code hr h=>exact .code hr (h.mono s)
 | ops is h=>exact .ops is h
theorem J5k.mono (s:Sub E E1) {f f':Frame} (h:J5k C S cs E f f'):J5k C S cs E1 f f':=
 { h with tmps:=h.tmps.mono s,todo:=h.todo.mono s }
theorem J2n.mono (s:Sub E E1) {k:CallKind} {l l':List Frame} (h:J2n C S E cs k l l'):J2n C S E1 cs k l l':=by
 induction h with
 | bot h ho=>exact .bot (h.mono s) ho
 | cons h ho _ ih=>exact .cons (h.mono s) ho ih
theorem StR.mono (s:Sub E E1) {l l':List Frame} (h:StR C S E cs l l'):StR C S E1 cs l l':=by
 cases h with
 | bot h=>exact .bot (h.mono s)
 | cons h hl=>exact .cons (h.mono s) (hl.mono s)
theorem StR.low {l l':List Frame} {f f':Frame} (h:StR C S E cs (f::l) (f'::l')) (k:CallKind) (ho:k=.normal->Waits S f):J2n C S E cs k (f::l) (f'::l'):=by
 cases h with
 | bot h=>exact .bot h ho
 | cons h hl=>exact .cons h ho hl
theorem J9n.ends {P:Program} {g:Goroutine} {w:World} (h:J9n g):∃ o w1 es,stepG P true g w=.ended o w1 es:=by obtain ⟨fr,callers,st,dy,of⟩:=g;obtain ⟨h1,h2,h3,h4⟩:=h;simp only at h1 h2 h3 h4;subst h1 h4;obtain ⟨c,hm⟩:=h2;exact ⟨_,_,_,by simp [stepG,hm,unwind,h3,Jp,callDeferred,invoke];rfl⟩
end
theorem J34 {es:Array Event} {r:GStep} {g:Goroutine} {w:World} {e1:Array Event} (h:GStep.after es r=.go g w e1):∃ e2,r=.go g w e2:=by
 cases r<;>simp [GStep.after] at h
 obtain ⟨rfl,rfl,_⟩:=h;exact ⟨_,rfl⟩
theorem Jkb {P:Program} {q:Question} {w w1:World} {n:Nat} (h:(choose q).run P w=.ok n w1):w.drawn<=w1.drawn:=by have:=J0p P (choose q) w;rw [h] at this;exact this
theorem J35 {P:Program} {fr:Frame} {callers:List Frame} {dying:Option Dying} {b:Nat} {w w1:World} {g:Goroutine} {es:Array Event}
  (h:(match w.heap[b]? with
   | some (.pending c elem)=>GStep.go { frame:=fr,callers,status:=.running,dying } { w with heap:=w.heap.setIfInBounds b (.cells c elem) }
   | _=>.ended (.stuck "early: the variable does not wait" (fr.pos P)) w)=.go g w1 es):w.drawn<=w1.drawn:=by
 split at h
 ·cases h;exact Ja2 _
 ·cases h
theorem Jm9 {P:Program} {fr:Frame} {callers:List Frame} {dying:Option Dying} {b:Nat} {w w1:World} {g:Goroutine} {es:Array Event} (h:early P fr callers dying b w=.go g w1 es):w.drawn<=w1.drawn:=by
 unfold early at h
 dsimp only at h
 rcases J4x h with h|h
 ·exact J35 h
 cases hs:P.stepOf b with
 | none=>rw [hs] at h;cases h
 | some f=>
  rw [hs] at h
  dsimp only at h
  rcases J4x h with h|h
  ·exact J35 h
  rcases J4x h with h|h
  ·exact J35 h
  generalize P.found w P.funcs.size f=x at h;generalize (fr.kind == .early)=y at h;cases x<;>cases y<;>dsimp only at h<;>try cases h
  ·exact J35 h
  ·rcases J4x h with h|h
   ·cases h;exact Ja2 _
   rcases J4x h with h|h
   ·exact J35 h
   cases hc:(choose (.early b)).run P w with
   | halt x w2=>rw [hc] at h;cases h
   | ok n w2=>
    have hm:=Jkb hc;rw [hc] at h;cases n with
    | zero=>exact Jb6 hm (J35 h)
    | succ n=>cases h;exact hm
  ·exact Ja2 _
theorem Jbn {fr:Frame} {l:List ByteArray} {m:String} {b:Bool} {w w1:World} {g:Goroutine} {es:Array Event} (h:dieOf fr l m b w=.go g w1 es):g.dying≠none:=by unfold dieOf at h;cases h;simp
theorem J5l {fr:Frame} {m:String} {w w1:World} {g:Goroutine} {es:Array Event} (h:endThrow fr m w=.go g w1 es):g.dying≠none:=Jbn h
theorem J82 {P:Program} {fr:Frame} {callers:List Frame} {m:String} {w w1:World} {g:Goroutine} {es:Array Event} (h:endFatal P fr callers none m w=.go g w1 es):g.dying≠none:=by
 unfold endFatal at h
 dsimp only at h
 split at h
 ·exact Jbn h
 ·cases h
 ·cases h
theorem J8o {P:Program} {fr:Frame} {callers:List Frame} {s:Sem Next} {w w1:World} {g:Goroutine} {es:Array Event} (h:stepG.apply P true fr callers none s w=.go g w1 es) (hd:g.dying=none) :
  (s.run P w).left.drawn<=w1.drawn:=by
 unfold stepG.apply at h;simp only [Sem.runT_eq,if_true] at h;cases hr:s.run P w with
 | ok n w2=>
  rw [hr] at h;obtain ⟨e2,h⟩:=J34 h;show w2.drawn<=w1.drawn;cases n with
  | recover=>dsimp only at h;split at h<;>(cases h;exact Ja2 _)
  | callThen _ _ _ _=>dsimp only at h;split at h<;>(cases h;exact Ja2 _)
  | row _ _=>dsimp only at h;split at h<;>(cases h;exact Ja2 _)
  | stack _ _=>dsimp only at h;split at h<;>(cases h;exact Ja2 _)
  | spawn d=>
   dsimp only at h
   rcases J4x h with h|h
   ·exact absurd hd (J5l h)
   ·cases h
  | _=>cases h<;>exact Ja2 _
 | halt x w2=>
  rw [hr] at h;obtain ⟨e2,h⟩:=J34 h;show w2.drawn<=w1.drawn;cases x with
  | fatal m=>exact absurd hd (J82 h)
  | throw m=>exact absurd hd (J5l h)
  | unsupported u=>
   cases u with
   | initOrder b=>exact Jm9 h
   | _=>cases h
  | _=>cases h<;>exact Ja2 _
theorem Jbi {P:Program} {fr:Frame} {callers:List Frame} {d:Deferred} {w w1:World} {g:Goroutine} {es:Array Event} (h:callDeferred P fr callers none d w=.go g w1 es) (hd:g.dying=none) :
  ((invoke d.target d.args).run P w).left.drawn<=w1.drawn:=by
 unfold callDeferred at h;rcases J4x h with h|h
 ·cases h
 simp only [Sem.runT_eq] at h;cases hr:(invoke d.target d.args).run P w with
 | ok n w2=>
  rw [hr] at h;obtain ⟨e2,h⟩:=J34 h;show w2.drawn<=w1.drawn;cases n with
  | recover=>dsimp only at h;split at h<;>(cases h;exact Ja2 _)
  | alone b v=>cases b<;>cases h
  | coroswitch c b=>cases b<;>cases h
  | _=>cases h<;>exact Ja2 _
 | halt x w2=>
  rw [hr] at h;obtain ⟨e2,h⟩:=J34 h;show w2.drawn<=w1.drawn;cases x with
  | fatal m=>exact absurd hd (J82 h)
  | throw m=>exact absurd hd (J5l h)
  | _=>cases h<;>exact Ja2 _
theorem J4m {P:Program} {fn:FuncId} {es:Array Event} {e:Event} (h:e∈seen P fn es):e∈es:=by
 dsimp only [seen] at h
 rw [<- Array.foldl_toList] at h;have key:∀ (l:List Event) (x:Bool × Array Event),e∈(l.foldl (fun (x:Bool × Array Event) (e:Event)=>match x,e with
   | (q,kept),e=>match e.loc with
    | .mark (.extern f)=>((P.funcs[f]?).any (·.norace),kept)
    | _=>(q,if q && !e.sync then kept else kept.push e)) x).2->e∈x.2\/e∈l:=by
  intro l
  induction l with
  | nil=>intro x h;exact .inl h
  | cons a l ih=>
   intro x h;simp only [List.foldl_cons] at h;obtain ⟨q,kept⟩:=x;rcases ih _ h with h|h
   ·dsimp only at h
    split at h
    ·exact .inl h
    ·dsimp only at h
     split at h
     ·exact .inl h
     ·rcases Array.mem_push.1 h with h|h
      ·exact .inl h
      ·exact .inr (by rw [h];exact List.mem_cons_self ..)
   ·exact .inr (List.mem_cons_of_mem _ h)
 rcases key _ _ h with h|h
 ·simp at h
 ·simpa using h
def J037 (L:Option Nat) (r':GStep):Prop:=∃ lim,L=some lim/\∀ g1 w1 es,r'=.go g1 w1 es->g1.dying=none->lim<w1.drawn
def J01 (C:Cx) (S:Kn) (E:J5) (cs:Bot) (L:Option Nat) (w w':World) (r r':GStep):Prop:=
 J037 L r'\/(∃ o w1 es,r=.ended o w1 es)\/∃ g1 w1 es,r=.go g1 w1 es/\g1.status=.running/\g1.dying=none /\
  (J9n g1\/∃ E1 g1' w1' es',r'=.go g1' w1' es'/\WT C (okP C S) E1 L w1 w1'/\Grow C E E1 w w' w1 w1'/\(GR C S E1 cs g1 g1'\/Jii C S E1 cs g1 g1')/\∀ e∈es',J3h C E1 e)
theorem J01.good {C:Cx} {S:Kn} {E E1:J5} {cs:Bot} {L:Option Nat} {w w' w1 w1':World} {g1 g1':Goroutine} {es es':Array Event} (hw:WT C (okP C S) E1 L w1 w1') (hg:Grow C E E1 w w' w1 w1') (h:GR C S E1 cs g1 g1')
  (he:∀ e∈es',J3h C E1 e):J01 C S E cs L w w' (.go g1 w1 es) (.go g1' w1' es'):=
 .inr (.inr ⟨_,_,_,rfl,h.run,h.dying,.inr ⟨E1,_,_,_,rfl,hw,hg,.inl h,he⟩⟩)
theorem J01.bad {C:Cx} {S:Kn} {E:J5} {cs:Bot} {L:Option Nat} {w w' w1:World} {g1:Goroutine} {es:Array Event} {r':GStep} (h:J9n g1) (hs:g1.status=.running):J01 C S E cs L w w' (.go g1 w1 es) r':=
 .inr (.inr ⟨_,_,_,rfl,hs,h.2.2.2,.inl h⟩)
theorem J01.J26 {C:Cx} {S:Kn} {E:J5} {cs:Bot} {L:Option Nat} {w w':World} {o:Outcome} {w1:World} {es:Array Event} {r':GStep}:J01 C S E cs L w w' (.ended o w1 es) r':=.inr (.inl ⟨_,_,_,rfl⟩)
theorem FrR.enter {C:Cx} {S:Kn} {E:J5} {f:FuncId} {a a':Array Value} {k:CallKind} (hk:k=.normal\/k=.deferred) (hb:J0k C f) (ho:J6p C f)
  (hc:∀ fn b,C.P.funcs[f]?=some fn->fn.body=some b->Jj C S f b=true) (ha:AR C E a a') (hf:Ent C S f a) :
  FrR C S E (Frame.enter C.P f a k) (Frame.enter C.P f a' k):=by
 obtain ⟨fn,h1,h2,h3⟩:=hb;refine ⟨rfl,⟨fn,h1,h2,h3⟩,hk,rfl,trivial,TmR.enter ha hf _,?_,.nil,.run,ho,fun h=>absurd rfl h⟩;cases hbd:fn.body with
 | none=>rw [hbd] at h2;cases h2
 | some b=>
  have:=hc fn b h1 hbd;simp only [Frame.enter,h1,Option.bind_some,hbd,Ja6];exact .cons (.code this) .nil
theorem FrR.Jij {C:Cx} {S:Kn} {E:J5} {l l':Nat} {f:FuncId} {t t':Array Value} {aS bd:Code} {k:CallKind} (hk:k=.normal\/k=.deferred) (hl:E l l') (ht:HR C E f t t')
  (h1:okP C S f aS) (h2:okP C S f bd):FrR C S E (Frame.round l f t aS bd k) (Frame.round l' f t' aS bd k):=by
 refine ⟨rfl,h1.2.2.2.1,hk,rfl,hl,⟨ht.size,fun i x x'=>ht.at_ i x x',fun i x hi=>?_⟩,.cons (.code h1.1) (.cons .beginRound (.cons (.code h2.1) .nil)),.nil,.run,h1.2.2.1,fun _=>h1.2.2.2.2⟩;have:=h1.2.1;simp [Frame.round,this] at hi
structure J1d (C:Cx) (S:Kn):Prop where
 kn:J7o C S
 hol:∀ f,S.cs.contains f=true->C.hl f=[]
 code:∀ f fn b,S.cs.contains f=true->C.P.funcs[f]?=some fn->fn.body=some b->Jj C S f b=true
theorem J1d.free {C:Cx} {S:Kn} (A:J1d C S) {f:FuncId} (h:S.cs.contains f=true):J6p C f:=fun _ _ _ _=>by rw [A.hol f h];rfl
section
variable {C:Cx} {S:Kn} {E:J5} {cs:Bot}
theorem J9o (A:J1d C S) {fr fr':Frame} {callers callers':List Frame} {s s':Sem Next} {L:Option Nat} {w w':World} {Q:Next->Prop}
  (hw:WT C (okP C S) E L w w') (hs:J3 C (okP C S) E s s' (fun E1 n n'=>J3j C (okP C S) S E1 n n'/\Q n))
  (hk:∀ d r v k,fr.todo≠.call d true r v::k) (hk':∀ d r v k,fr'.todo≠.call d true r v::k)
  (hst:StR C S E cs (fr::callers) (fr'::callers'))
  (hwt:∀ n,Q n->(∃ f a,n=.enter f a)\/(∃ l f t a b,n=.round l f t a b)->Waits S fr)
  (hfin:∀ E1 v v',Sub E E1->VR C E1 v v'->(Q (.value v)\/v=undef)->StR C S E1 cs (fr.finish v::callers) (fr'.finish v'::callers'))
  (Jx0:∀ E1 c c',Sub E E1->J1q C E1 c c'->StR C S E1 cs (fr.raise c::callers) (fr'.raise c'::callers')\/J9n { frame:=fr.raise c,callers,status:=.running,dying:=none }) :
  J01 C S E cs L w w' (stepG.apply C.P true fr callers none s w) (stepG.apply C.P true fr' callers' none s' w'):=by
 rcases hs L w w' hw with ⟨lim,hL,ho⟩|h
 ·exact .inl ⟨lim,hL,fun g1 w1 es hgo hd=>Jb7 ho (J8o hgo hd)⟩
 have hkd:(match fr.todo with | .call _ true _ _::_=>CallKind.wrapped|_=>CallKind.normal)=.normal:=by
  split
  ·rename_i d r v k e;exact absurd e (hk _ _ _ _)
  ·rfl
 have hkd':(match fr'.todo with | .call _ true _ _::_=>CallKind.wrapped|_=>CallKind.normal)=.normal:=by
  split
  ·rename_i d r v k e;exact absurd e (hk' _ _ _ _)
  ·rfl
 unfold stepG.apply;simp only [Sem.runT_eq,if_true,hkd,hkd'];cases hr:s.run C.P w with
 | ok n w2=>
  rw [hr] at h;obtain ⟨E1,n',w2',e1,e2,e3,⟨e4,e5⟩,e6⟩:=h;rw [e1];have hes:∀ e,e∈(seen C.P fr'.fn (if fr'.kind == .early then #[] else s'.events C.P w' #[])++#[])->J3h C E1 e:=fun e he=>by
   rw [Array.append_empty] at he;have:=J4m he;split at this
   ·simp at this
   ·exact e6 e this
  cases e4 with
  | value hv=>
   exact .good e2 e3 ⟨hfin E1 _ _ e3.sub hv (.inl e5),rfl,rfl,rfl,rfl,rfl⟩ hes
  | skip=>
   exact .good e2 e3 ⟨hfin E1 _ _ e3.sub .undef (.inr rfl),rfl,rfl,rfl,rfl,rfl⟩ hes
  | enter ha hf=>
   have hfr:=FrR.enter (.inl rfl) (A.kn.cs _ hf.1) (A.free hf.1) (A.code _ · · hf.1) ha hf;exact .good e2 e3 ⟨.cons hfr ((hst.mono e3.sub).low _ fun _=>hwt _ e5 (.inl ⟨_,_,rfl⟩)),rfl,rfl,rfl,rfl,rfl⟩ hes
  | round hl ht h1 h2=>
   exact .good e2 e3 ⟨.cons (FrR.Jij (.inl rfl) hl ht h1 h2) ((hst.mono e3.sub).low _ fun _=>hwt _ e5 (.inr ⟨_,_,_,_,_,rfl⟩)),rfl,rfl,rfl,rfl,rfl⟩ hes
 | halt x w2=>
  rw [hr] at h;cases x with
  | panic v=>
   obtain ⟨E1,v',w2',e1,e2,e3,e4,e6⟩:=h;rcases Jx0 E1 _ _ e3.sub (.cons false false e4 .nil) with hA|hB
   ·rw [e1];refine .good e2 e3 ⟨hA,rfl,rfl,rfl,rfl,rfl⟩ fun e he=>?_;rw [Array.append_empty] at he;have:=J4m he;split at this
    ·simp at this
    ·exact e6 e this
   ·exact .bad hB rfl
  | goexit=>exact absurd rfl h.2.1
  | blocked=>exact absurd rfl h.2.2.2.2.2.1
  | waiting=>exact absurd rfl h.2.2.2.2.2.2
  | exit c=>exact .J26
  | fatal m=>exact absurd rfl (h.2.2.2.2.1 m)
  | throw m=>exact absurd rfl (h.2.2.2.1 m)
  | stuck s=>exact .J26
  | unsupported u=>
   cases u with
   | initOrder g=>exact absurd rfl (h.2.2.1 g)
   | _=>exact .J26
end
end Go.Sim
