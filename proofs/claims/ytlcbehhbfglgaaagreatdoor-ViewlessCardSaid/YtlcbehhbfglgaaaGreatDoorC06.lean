/- Proved: laws for the claim. No conditions. -/
import GoSem.Extern.ReflectliteValue
import Derived.Test.YtlcbehhbfglgaaaGreatDoorChecked
import Derived.KernelRfl
import Derived.Test.YtlcbehhbfglgaaaGreatDoorC05
set_option linter.all false
open Go.Proofs.Tryz
namespace Go.Sim
open Go.Conc
section
variable{C:Cx}{S:Kn}{cs:Bot}
def Jsh(C:Cx)(S:Kn)(cs:Bot)(Post:JF->JE->Prop)(E0:J5)(y:Sit):Prop:=
 ∃E g w,Sub E0 E/\Link C S E y.own y.X w y.w/\(GR C S E cs g y.g\/dG C S E cs g y.g)/\Post g w
def Jlv(A:FM C S){main:Bool}{E0:J5}{Post:JF->JE->Prop}(hP:∀g w,Post g w->g.frame.todo≠[Js])(hB:∀g w,Post g w->¬UW g){g0:JF}{w0:JE}{y0:Sit}
  (hl:Link C S E0 y0.own y0.X w0 y0.w) (hg:GR C S E0 cs g0 y0.g)
  (K:∀τ,∃n g1 w1,runN C.P n (solo g0 (w0.tp τ 0))=.next (solo g1 w1)/\Post g1 w1) :
  Runs C.st C.P main (Jsh C S cs Post E0) y0:=by
 refine Jes A hB (λE y g w h4 h5 h6 BH=>⟨E,g,w,h4,h5,h6,BH⟩) (λE y g w _ _ _ _ BH=>absurd rfl (hP _ _ BH)) hl hg K
end
section
variable{C:Cx}{E:J5}
def AR.J6i{c:JC}(h:AR C E c c):∀n,AR C E (Array.replicate n c).flatten (Array.replicate n c).flatten
 |0=>by grind[AR.nil]
 |n+1=>by
  rw[Array.replicate_succ',Array.flatten_append];have:=AR.J6i h n;have e:(#[c]:Array (JC)).flatten=c:=by simp
  rw[e];exact h.append this
def UC(C:Cx)(i:TypeInfo):Prop:=∀z,i.zero=some z->∀E,VR C E z z
def Jh0{α β:Type}(Q:β->Prop)(body:α->β->Option (ForInStep β))(hb:∀a b s,Q b->body a b=some s->Q s.value):∀(l:List α)(b r:β),Q b->(forIn l b body:Option β)=some r->Q r
 |[],b,r,h,e=>by
  grind
 |a::l,b,r,h,e=>by
  rw[List.forIn_cons]at e;simp only[Option.bind_eq_bind,Gl]at e;obtain⟨s,hs,e⟩:=e;have hq:=hb a b s h hs;cases s with
  |done b'=>simp_all
  |yield b'=>exact Jh0 Q body hb l b' r hq e
def Jdr{info:JH->Option TypeInfo}(hi:∀t i,info t=some i->UC C i)(fs:Array Field){i:TypeInfo}(h:Made.reckonStruct info fs=some i):UC C i:=by
 unfold Made.reckonStruct at h
 dsimp only at h
 rw[<- Array.forIn_toList]at h;simp only[Option.bind_eq_bind,Gl]at h;obtain⟨r,hr,h⟩:=h;have key:∀a,r.2.2.2.2.2.2.2.1=some a->∀E,AR C E a a:=by
  refine Jh0 (λs=>∀a,s.2.2.2.2.2.2.2.1=some a->∀E,AR C E a a) _ ?_ _ _ _ (λa ha E=>by cases ha;exact .nil) hr;intro f b s hb hs;obtain⟨j,hj,hs⟩:=Gl.1 hs;have fin:∀(c:Prop)[Decidable c](z:Option (JC)),(z=if c then none else(do let x <- b.2.2.2.2.2.2.2.1;let y <- j.zero;pure (x++y.cells)))->∀a,z=some a->∀E,AR C E a a:=by
   intro c _ z hz a ha E;rw[hz]at ha;split at ha
   .cases ha
   .simp only[Option.bind_eq_bind,Gl,Option.pure_def,Cb]at ha;obtain⟨x,hx,y,hy,rfl⟩:=ha;exact(hb x hx E).append (AR.cells (hi _ j hj y hy E))
  split at hs
  .simp at hs
  .split at hs
   .simp at hs
   .split at hs
    .simp only[Option.pure_def,Option.bind_eq_bind,Option.bind_some]at hs;split at hs<;>(simp only[Cb]at hs;subst hs;exact fin _ _ rfl)
    .obtain⟨tag,_,hs⟩:=Gl.1 hs;split at hs<;>(simp only[Option.pure_def,Cb]at hs;subst hs;exact fin _ _ rfl)
 split at h <;>
 .simp only[Option.pure_def,Cb]at h;subst h;intro z hz E;simp only[Fh]at hz;obtain⟨a,ha,rfl⟩:=hz;exact .Po (key a ha E)
def Jqb{info:JH->Option TypeInfo}(hi:∀t i,info t=some i->UC C i)(d:TypeDesc){i:TypeInfo}(h:Made.reckon info d=some i):UC C i:=by
 intro z hz E;unfold Made.reckon at h;cases d with
 |pointer e=>
  simp only[Option.bind_eq_bind,Gl]at h;obtain⟨j,hj,h⟩:=h;split at h
  .cases h
  .split at h
   .cases h
   .simp only[Gl,Option.pure_def,Cb]at h;obtain⟨s,_,rfl⟩:=h;cases hz;exact .nilPtr
  .simp only[Gl,Option.pure_def,Cb]at h;obtain⟨s,_,rfl⟩:=h;cases hz;exact .nilPtr
 |slice e=>
  simp only[Option.bind_eq_bind,Gl,Option.pure_def,Cb]at h;obtain⟨_,_,_,_,rfl⟩:=h;cases hz;exact .Jk _ _
 |map k e=>
  simp only[Option.bind_eq_bind,Gl,Option.pure_def,Cb]at h;obtain⟨_,_,_,_,_,_,_,_,rfl⟩:=h;cases hz;exact .I5
 |chan d e=>
  simp only[Option.bind_eq_bind,Gl,Option.pure_def,Cb]at h;obtain⟨_,_,_,_,rfl⟩:=h;cases hz;exact .MP
 |func a b c=>
  simp only[Option.bind_eq_bind,Gl,Option.pure_def,Cb]at h;obtain⟨_,_,rfl⟩:=h;cases hz;exact .nilFunc
 |array n e=>
  simp only[Option.bind_eq_bind,Gl,Option.pure_def,Cb]at h;obtain⟨j,hj,_,_,rfl⟩:=h;simp only at hz;split at hz
  .cases hz
  .split at hz
   .cases hz;exact .Po .nil
   .simp only[Fh]at hz;obtain⟨z0,EY,rfl⟩:=hz;exact .Po ((AR.cells (hi e j hj z0 EY E)).J6i n)
 |struct fs=>exact Jdr hi fs h z hz E
 |_=>cases h
theorem Jh1{T:Tables}(h:∀(t:Nat)(i:TypeInfo),T.types[t]?=some i->UC C i):∀(f:Nat)(t:JH)(i:TypeInfo),Made.infoAt T f t=some i->UC C i
 |0,_,_,h=>by cases h
 |f+1,t,i,hi=>by
  unfold Made.infoAt at hi;split at hi
  .exact h t i hi
  .simp only[Gl]at hi;obtain⟨d,_,hd⟩:=hi;exact Jqb (Jh1 h f) d hd
def Jy2{T:Tables}(h:∀(t:Nat)(i:TypeInfo),T.types[t]?=some i->UC C i)(t:JH)(i:TypeInfo)(hi:T.info? t=some i):UC C i:=by
 unfold Tables.info? at hi
 grind[Jh1]
end
def J8r{info:JH->Option TypeInfo}{fs:Array Field}{i:TypeInfo}(h:Made.reckonStruct info fs=some i):i.methods=#[]:=by
 unfold Made.reckonStruct at h
 grind[Option.pure_def,Option.bind_eq_bind,Option.bind_eq_some_iff]
theorem Jfy{info:JH->Option TypeInfo}{d:TypeDesc}{i:TypeInfo}(h:Made.reckon info d=some i):i.methods=#[]:=by
 unfold Made.reckon at h;cases d with
 |struct fs=>exact J8r h
 |pointer e=>
  simp only[Option.pure_def,Option.bind_eq_bind,Gl]at h;obtain⟨j,_,h⟩:=h;split at h
  .cases h
  .split at h
   .cases h
   .simp only[Gl]at h;obtain⟨s,_,h⟩:=h;cases h;rfl
  .simp only[Gl]at h;obtain⟨s,_,h⟩:=h;cases h;rfl
 |_=>
  simp only[Option.pure_def,Option.bind_eq_bind,Gl]at h
  try(first|(cases h;done)|(obtain⟨_,_,h⟩:=h;cases h;rfl)|(obtain⟨_,_,h⟩:=h;obtain⟨_,_,h⟩:=h;cases h;rfl)|(obtain⟨_,_,h⟩:=h;obtain⟨_,_,h⟩:=h;obtain⟨_,_,h⟩:=h;cases h;rfl)|(obtain⟨_,_,h⟩:=h;obtain⟨_,_,h⟩:=h;obtain⟨_,_,h⟩:=h;obtain⟨_,_,h⟩:=h;cases h;rfl))
theorem Jqc{T:Tables}{t:JH}{i:TypeInfo}(ht:T.types.size<=t)(h:T.info? t=some i):i.methods=#[]:=by
 unfold Tables.info? at h;rw[if_neg (Nat.not_lt.2 ht)]at h;unfold Made.depth Made.infoAt at h;rw[if_neg (Nat.not_lt.2 ht),Gl]at h
 grind[Jfy]
def Jy3(P:Program):Bool:=P.types.toList.all λi=>match i.zero with|some z=>KU 20 z|none=>true
def Jy4(C:Cx):Bool:=
 (C.ts++[C.P.rt.boundsError,C.P.rt.errorString,C.P.rt.plainError,C.P.rt.typeAssertionError,C.P.rt.panicNilError,C.P.rt.unhashableTypeError]).all λt=>
  decide (t<C.P.types.size) && match C.P.types[t]? with
   |some i=>i.methods.toList.all λm=>!C.ms.contains m.name || ((!C.mok m.name || m.path.isEmpty) && match m.func with|some (f,_)=>C.fs.contains f|none=>false)
   |none=>true
def Jy5(C:Cx)(S:Kn):Bool:=
 S.cs.all λf=>(C.hl f).isEmpty && match C.P.funcs[f]? with
  |some fn=>fn.body.isSome && !(fn.name == "runtime.NumGoroutine") && (match fn.body with|some b=>Ji C S f b|none=>true)
  |none=>false
def Jte(C:Cx)(S:Kn):Bool:=C.fs.all λf=>S.xs.contains f || S.xn.contains f || (S.cs.contains f && (S.own f).all λi=>decide (6<=i))
def Y1{α:Type}{p:α->Bool}{l:List α}(h:l.all p=true){a:α}(ha:a∈l):p a=true:=by
 grind
def FM.Jct{C:Cx}{S:Kn}(h1:Jy3 C.P=true)(h2:Jy4 C=true)(h3:Jy5 C S=true)(h4:Jte C S=true)
  (h5:∀f,S.xs.contains f=true->∃fn row,C.P.funcs[f]?=some fn/\(fn.name == "runtime.NumGoroutine")=false/\fn.body=none/\Go.Extern.findNext fn=none/\Go.Extern.find fn=some row/\Gy C row)
  (h6:∀f,S.xn.contains f=true->∃fn,C.P.funcs[f]?=some fn/\(fn.name == "runtime.NumGoroutine")=false/\fn.body=none/\Go.Extern.findNext fn=none/\Go.Extern.find fn=none/\(fn.name.endsWith ".init" && !fn.name.startsWith "(" && !fn.name.startsWith "gosem.")=false:=by intro f h;cases h):FM C S:=by
 have tys:∀t i m,C.Ed t=true->C.P.info? t=some i->m∈i.methods->C.ms.contains m.name=true->(C.mok m.name=true->m.path=#[])/\∃f p,m.func=some (f,p)/\C.F f:=by
  intro t i m ht hi hm hn;have xZ:t∈C.ts++[C.P.rt.boundsError,C.P.rt.errorString,C.P.rt.plainError,C.P.rt.typeAssertionError,C.P.rt.panicNilError,C.P.rt.unhashableTypeError]:=by
   unfold Cx.Ed at ht;rw[Bool.or_eq_true]at ht;rcases ht with ht|ht
   .grind
   .simp only[Bh,decide_eq_true_eq]at ht
    grind[Jqc]
  have:=Y1 h2 xZ;simp only[Bh,decide_eq_true_eq]at this;obtain⟨Ac,this⟩:=this;have CW:C.P.types[t]?=some i:=by
   unfold Tables.info? at hi
   grind
  rw[CW]at this;have:=Y1 this (Array.mem_toList_iff.2 hm);simp only[hn,Bool.not_true,Bool.false_or,Bh]at this;obtain⟨hp,hf⟩:=this;have hp:C.mok m.name=true->m.path=#[]:=λh=>by grind
  cases hfu:m.func with
  |none=>grind
  |some q=>
   obtain⟨f,p⟩:=q;rw[hfu]at hf;exact⟨hp,f,p,rfl,hf⟩
 have fns:∀f,S.cs.contains f=true->C.hl f=[]/\∃fn b,C.P.funcs[f]?=some fn/\fn.body=some b/\(fn.name == "runtime.NumGoroutine")=false/\Ji C S f b=true:=by
  intro f hf;have:=Y1 h3 (Lj.1 hf)
  grind
 refine⟨⟨⟨λt i z hi hz E=>?_,λt i m f p ht hi hm hn hf=>?_,λt i m ht hi hm hn=>?_⟩,λf hf=>?_,λf hf=>?_,h5,h6⟩,λf hf=>(fns f hf).1,λf fn b hf Oc hb=>?_⟩
 .refine Jy2 (C:=C) (T:=C.P.toTables) (λt i hi z hz E=>?_) t i hi z hz E;have:=Y1 h1 (Array.mem_toList_iff.2 (Ho hi))
  grind[nD]
 .grind
 .grind[Cx.oN]
 .obtain⟨_,fn,b,a1,a2,a3,_⟩:=fns f hf;exact⟨fn,a1,by rw[a2];rfl,a3⟩
 .have:=Y1 h4 (Lj.1 hf)
  grind
 grind
open Go.Extern.Rtype Go.Extern.ReflectliteType Go.Extern.ReflectliteValue
structure Oy(C:Cx):Prop where
 rt:∀p,C.P.cutTypes.find? (·.1 == "internal/reflectlite.rtype")=some p->C.Ed p.2=true
 ve:∀p,C.P.cutTypes.find? (·.1 == "*internal/reflectlite.ValueError")=some p->C.Ed p.2=true
 str:C.Ed C.P.rt.string=true
section
variable{C:Cx}{ok:JG->Code->Prop}{E:J5}
abbrev EqB(α:Type):J5->α->α->Prop:=λ_ x x'=>x=x'
def sInfo(t:JH):J3 C ok E (typeInfo t) (typeInfo t) (EqB _):=(J3.typeInfo t).mono λ_ _ _ _ h=>h.1
def RX:J3 C ok E Go.program Go.program (λ_ p p'=>p=C.P/\p'=C.P):=.program ⟨rfl,rfl⟩
def sIf{c:Program->Bool}{u:Unsupported}(hu:∀g,u≠.initOrder g):J3 C ok E (do if c (<- Go.program)then unsupported u:Sem Unit) (do if c (<- Go.program)then unsupported u:Sem Unit) (EqB _):=by
 refine J3.bind' RX λE1 s1 p p' hp=>?_;obtain⟨rfl,rfl⟩:=hp;split
 .exact .unsupported _ hu
 .exact .pure rfl
def nV(s:String)(t:JH):J3 C ok E (noPack s t) (noPack s t) (EqB _):=sIf (c:=λp=>p.packed t) (by grind)
def Jje(s:String)(t:JH):J3 C ok E (noPackNamed s t) (noPackNamed s t) (EqB _):=by
 unfold noPackNamed;refine J3.bind' RX λE1 s1 p p' hp=>?_;obtain⟨rfl,rfl⟩:=hp;refine J3.bind' RX λE2 s2 p p' hp=>?_;obtain⟨rfl,rfl⟩:=hp;split
 .exact .unsupported _
 .exact .pure rfl
def ZQ(s:String)(t:JH):J3 C ok E (noPackMethods s t) (noPackMethods s t) (EqB _):=by
 unfold noPackMethods;refine J3.bind' RX λE1 s1 p p' hp=>?_;obtain⟨rfl,rfl⟩:=hp;refine J3.bind' RX λE2 s2 p p' hp=>?_;obtain⟨rfl,rfl⟩:=hp;split
 .exact .unsupported _
 .exact .pure rfl
def Y2(t:JH):J3 C ok E (under t) (under t) (EqB _):=by
 unfold under;refine J3.bind' (sInfo t) λE1 s1 i i' h=>?_;obtain rfl:i=i':=h
 try dsimp only
 split
 .refine J3.bind' (sInfo _) λE1 s1 i i' h=>?_;obtain rfl:i=i':=h;exact .pure rfl
 .exact .pure rfl
def Jn3(t:JH):J3 C ok E (kind t) (kind t) (EqB _):=by
 unfold kind;refine J3.bind' (Y2 t) λE1 s1 i i' h=>?_;obtain rfl:i=i':=h;obtain⟨u,i⟩:=i
 dsimp only
 split<;>first|exact .pure rfl|exact .stuck _
def Jwr(t:JH):J3 C ok E (elem? t) (elem? t) (EqB _):=by
 unfold elem?;refine J3.bind' (Y2 t) λE1 s1 i i' h=>?_;obtain rfl:i=i':=h
 try dsimp only
 split<;>exact .pure rfl
def Jjf(t:JH):J3 C ok E (hasName t) (hasName t) (EqB _):=by
 unfold hasName;refine J3.bind' (sInfo t) λE1 s1 i i' h=>?_;obtain rfl:i=i':=h
 try dsimp only
 split<;>exact .pure rfl
def Jjg(t:JH):J3 C ok E (spelt t) (spelt t) (EqB _):=by
 unfold spelt typeStr;refine J3.bind' (Jje _ t) λE1 s1 i i' h=>?_;refine J3.bind' (sInfo t) λE1 s1 i i' h=>?_;obtain rfl:i=i':=h
 try dsimp only
 split
 .exact .unsupported _
 .exact .pure rfl
def Jsi(s:String):J3 C ok E (cutType s) (cutType s) (λ_ t t'=>t=t'/\∃p,C.P.cutTypes.find? (·.1 == s)=some p/\p.2=t):=by
 unfold cutType;refine J3.bind' RX λE1 s1 p p' hp=>?_;obtain⟨rfl,rfl⟩:=hp;cases h:C.P.cutTypes.find? (·.1 == s)with
 |none=>exact .stuck _
 |some q=>exact .pure ⟨rfl,q,rfl,rfl⟩
def J7l(T V:JH):J3 C ok E (Go.Extern.Rtype.implements T V) (Go.Extern.Rtype.implements T V) (EqB _):=by
 unfold Go.Extern.Rtype.implements;refine J3.bind' (ZQ _ V) λE1 s1 i i' h=>?_;refine J3.bind' (ZQ _ T) λE1 s1 i i' h=>?_;refine J3.bind' (Y2 T) λE1 s1 i i' h=>?_;obtain rfl:i=i':=h;refine J3.bind' (Y2 V) λE1 s1 j j' h=>?_;obtain rfl:j=j':=h
 try dsimp only
 split
 .exact .pure rfl
 .refine J3.bind' (sInfo V) λE1 s1 i i' h=>?_;obtain rfl:i=i':=h;exact .pure rfl
 .exact .pure rfl
def Jlw(T V:JH):J3 C ok E (directlyAssignable T V) (directlyAssignable T V) (EqB _):=by
 unfold directlyAssignable
 dsimp only
 split
 .exact .pure rfl
 refine J3.bind' (Jjf T) λE1 s1 i i' h=>?_;obtain rfl:i=i':=h;refine J3.bind' (Jjf V) λE1 s1 j j' h=>?_;obtain rfl:j=j':=h
 try dsimp only
 split
 .exact .pure rfl
 refine J3.bind' (Y2 T) λE1 s1 i i' h=>?_;obtain rfl:i=i':=h;refine J3.bind' (Y2 V) λE1 s1 j j' h=>?_;obtain rfl:j=j':=h
 try dsimp only
 split<;>exact .pure rfl
def Jlx(hh:Hnd C E)(t:JH):J3 C ok E (handle t) (handle t) (VR C):=by unfold handle;refine J3.bind' RX λE1 s1 p p' hp=>?_;obtain⟨rfl,rfl⟩:=hp;exact .pure (.ptr _ _ (hh.mono s1))
def J9v(hh:Hnd C E){h h':JJ}(hv:VR C E h h'):J3 C ok E (ofHandle h) (ofHandle h') (EqB _):=by
 have Jm7:∀v v':JJ,(∀P,handleType P v=none)->J3 C ok E (ofHandle v) (ofHandle v') (EqB _):=λv v' e=>by unfold ofHandle;refine J3.bind' RX λE1 s1 p p' hp=>?_;obtain⟨rfl,rfl⟩:=hp;rw[e];exact .stuck _
 cases hv with
 |ptr o s hb=>
  rename_i b b';intro L w w' hw;have e:(b == C.P.globals.size)=(b' == C.P.globals.size):=by
   by_cases h1:b=C.P.globals.size
   .subst h1;have:=hw.fn _ _ _ hb hh;simp[this]
   .have h2:b'≠C.P.globals.size:=λh=>h1 (hw.inj _ _ _ (h▸hb) hh)
    grind
  refine(?_:J3 C ok E (ofHandle (.pointer (some ⟨b,o,s⟩))) (ofHandle (.pointer (some ⟨b',o,s⟩))) (EqB _)) L w w' hw;unfold ofHandle;refine J3.bind' RX λE1 s1 p p' hp=>?_;obtain⟨rfl,rfl⟩:=hp;simp only[handleType,e];split
  .exact .pure rfl
  .exact .stuck _
 |_=>exact Jm7 _ _ λP=>rfl
def Jfz(K:Oy C)(hh:Hnd C E)(t:JH):J3 C ok E (toType t) (toType t) (VR C):=by unfold toType;refine J3.bind' (Jsi _) λE1 s1 c c' h=>?_;obtain⟨rfl,p,h1,h2⟩:=h;refine J3.bind' (Jlx (hh.mono s1) t) λE2 s2 v v' hv=>?_;exact .pure (.iface _ (h2▸K.rt p h1) (.agg (AR.one hv).size (AR.one hv).at_))
def oO(K:Oy C){α α':Type}(s:String){R:J5->α->α'->Prop}:J3 C ok E (panicString s:Sem α) (panicString s:Sem α') R:=by unfold panicString;refine J3.bind' RX λE1 s1 p p' hp=>?_;obtain⟨rfl,rfl⟩:=hp;exact .goPanic (.iface _ K.str (.string _))
def Jcu(hh:Hnd C E){r r':JJ}(hv:VR C E r r'):J3 C ok E (ofRtype r) (ofRtype r') (EqB _):=by
 cases hv with
 |agg ha hx=>
  rename_i a a';obtain⟨l⟩:=a;obtain⟨l'⟩:=a'
  match l,l',ha,hx with
  |[],_,_,_=>exact .stuck _
  |_::_::_,_,_,_=>exact .stuck _
  |[x],[x'],_,hx=>
   show J3 C ok E (do let t <- ofHandle x;noPack _ t;Pure.pure t) (do let t <- ofHandle x';noPack _ t;Pure.pure t) _;refine J3.bind' (J9v hh (hx 0 x x' rfl rfl)) λE1 s1 t t' h=>?_;obtain rfl:t=t':=h;exact J3.bind' (nV _ t) λE2 s2 _ _ _=>.pure rfl
 |_=>exact .stuck _
def Gy.one{row:JC->Sem JJ}(h0:∃s,row #[]=stuck s)(h2:∀x y l,∃s,row ⟨x::y::l⟩=stuck s)(h:∀(ok:JG->Code->Prop)(E:J5),Hnd C E->∀x x',VR C E x x'->J3 C ok E (row #[x]) (row #[x']) (VR C)):Gy C row:=λok E hh a a' ha=>by
 obtain⟨l⟩:=a;obtain⟨l'⟩:=a'
 match l,l',ha with
 |[],_,_=>obtain⟨s,e⟩:=h0;rw[e];exact .stuck _
 |x::y::l,_,_=>obtain⟨s,e⟩:=h2 x y l;rw[e];exact .stuck _
 |[x],[x'],ha=>exact h ok E hh x x' (ha.at_ 0 x x' rfl rfl)
 |[x],[],ha=>exact absurd ha.size (by simp)
 |[x],_::_::_,ha=>exact absurd ha.size (by simp)
def Jn4(K:Oy C):Gy C typeOf:=.one ⟨_,rfl⟩ (λ_ _ _=>⟨_,rfl⟩) λok E hh x x' hv=>by
 cases hv with
 |nilIface=>exact .pure .nilIface
 |iface t ht h=>exact Jfz K hh t
 |_=>exact .stuck _
def Jn5{f:JH->Sem JJ}(hf:∀(ok:JG->Code->Prop)(E:J5),Hnd C E->∀t,J3 C ok E (f t) (f t) (VR C)):Gy C (Go.Extern.ReflectliteType.method f):=.one ⟨_,rfl⟩ (λ_ _ _=>⟨_,rfl⟩) λok E hh x x' hv=>by
 show J3 C ok E (do f (<- ofRtype x)) (do f (<- ofRtype x')) _;refine J3.bind' (Jcu hh hv) λE1 s1 t t' h=>?_;obtain rfl:t=t':=h;exact hf ok _ (hh.mono s1) t
def Jtf(K:Oy C):Gy C (Go.Extern.ReflectliteType.method Go.Extern.ReflectliteType.elem):=Jn5 λok E hh t=>by
 unfold Go.Extern.ReflectliteType.elem;refine J3.bind' (Jwr t) λE1 s1 o o' h=>?_;obtain rfl:o=o':=h;cases o with
 |some e=>exact Jfz K (hh.mono s1) e
 |none=>
  refine J3.bind' (Jjg t) λE2 s2 o o' h=>?_;obtain rfl:o=o':=h;exact oO K _
def Jtg:Gy C (abiMethod λt=>do Pure.pure (.int .u8 (<- kind t))):=.one ⟨_,rfl⟩ (λ_ _ _=>⟨_,rfl⟩) λok E hh x x' hv=>by
 show J3 C ok E (do let t <- ofHandle x;noPack _ t;let k <- kind t;Pure.pure (Value.int .u8 k)) (do let t <- ofHandle x';noPack _ t;let k <- kind t;Pure.pure (Value.int .u8 k)) _;refine J3.bind' (J9v hh hv) λE1 s1 t t' h=>?_;obtain rfl:t=t':=h;refine J3.bind' (nV _ t) λE2 s2 _ _ _=>?_;refine J3.bind' (Jn3 t) λE3 s3 k k' h=>?_;obtain rfl:k=k':=h;exact .pure (.int _ _)
def J9w(K:Oy C)(s:String){f:JH->JH->Sem Bool}(hf:∀(ok:JG->Code->Prop)(E:J5)(t u:JH),J3 C ok E (f t u) (f t u) (EqB _)):Gy C (relation s f):=λok E hh a a' ha=>by
 obtain⟨l⟩:=a;obtain⟨l'⟩:=a'
 match l,l',ha with
 |[],_,_=>exact .stuck _
 |[_],_,_=>exact .stuck _
 |x::y::z::l,_,_=>exact .stuck _
 |[x,y],[],ha=>exact absurd ha.size (by simp)
 |[x,y],[_],ha=>exact absurd ha.size (by simp)
 |[x,y],_::_::_::_,ha=>exact absurd ha.size (by simp)
 |[x,y],[x',y'],ha=>
  have hx:=ha.at_ 0 x x' rfl rfl;have hy:=ha.at_ 1 y y' rfl rfl;cases hy with
  |nilIface=>exact oO K _
  |iface t ht h=>
   rename_i u u';show J3 C ok E (do let a <- ofRtype u;let b <- ofRtype x;let c <- f a b;Pure.pure (Value.bool c)) (do let a <- ofRtype u';let b <- ofRtype x';let c <- f a b;Pure.pure (Value.bool c)) _;refine J3.bind' (Jcu hh h) λE1 s1 t t' h=>?_;obtain rfl:t=t':=h;refine J3.bind' (Jcu (hh.mono s1) (hx.mono s1)) λE2 s2 v v' h=>?_;obtain rfl:v=v':=h;refine J3.bind' (hf _ _ _ _) λE3 s3 c c' h=>?_;obtain rfl:c=c':=h;exact .pure (.bool _)
  |_=>exact .stuck _
def Jg0 (K:Oy C):Gy C (relation "Implements" implements_):=J9w K _ λok E u t=>by
 unfold implements_;refine J3.bind' (Jn3 u) λE1 s1 k k' h=>?_;obtain rfl:k=k':=h
 dsimp only
 split
 .exact J3.bind' (R:=λ_ _ _=>False) (oO K _) λ_ _ _ _ h=>h.elim
 .refine J3.bind' (ZQ _ t) λE2 s2 _ _ _=>?_;refine J3.bind' (nV _ u) λE3 s3 _ _ _=>?_;exact J7l u t
def Jg1 (K:Oy C):Gy C (relation "AssignableTo" assignableTo):=J9w K _ λok E u t=>by
 unfold assignableTo;have tail:∀E1,J3 C ok E1 (do let a <- directlyAssignable u t;let b <- Go.Extern.Rtype.implements u t;Pure.pure (a || b)) (do let a <- directlyAssignable u t;let b <- Go.Extern.Rtype.implements u t;Pure.pure (a || b)) (EqB _):=λE1=>by refine J3.bind' (Jlw u t) λE2 s2 a a' h=>?_;obtain rfl:a=a':=h;refine J3.bind' (J7l u t) λE3 s3 b b' h=>?_;obtain rfl:b=b':=h;exact .pure rfl
 dsimp only
 split
 .refine J3.bind' (ZQ _ t) λE2 s2 _ _ _=>?_;refine J3.bind' (ZQ _ u) λE3 s3 _ _ _=>?_;exact tail _
 grind
def sMk(hh:Hnd C E)(t:JH){a a':Addr}(h:Jc E a a')(n:Nat):J3 C ok E (mk t a n) (mk t a' n) (VR C):=by
 unfold mk;refine J3.bind' (Jlx hh t) λE1 s1 v v' hv=>?_;refine J3.bind' (Jn3 t) λE2 s2 k k' e=>?_;obtain rfl:k=k':=e;refine .pure (.agg rfl λi x x' h1 h2=>?_)
 match i,h1,h2 with
 |0,h1,h2=>cases h1;cases h2;exact hv.mono s2
 |1,h1,h2=>cases h1;cases h2;exact .Qm ⟨(s1.trans s2) _ _ h.block,h.off,h.spot⟩
 |2,h1,h2=>cases h1;cases h2;exact .int _ _
 |i+3,h1,_=>simp at h1
def Jcv:VR C E zeroV zeroV:=.agg rfl λi x x' h1 h2=>by
 rw[h1]at h2;cases h2
 match i,h1 with
 |0,h1=>cases h1;exact .nilPtr
 |1,h1=>cases h1;exact .nilPtr
 |2,h1=>cases h1;exact .int _ _
 |i+3,h1=>simp at h1
theorem VP(K:Oy C)(hh:Hnd C E){α α':Type}(m:String)(k:Nat){R:J5->α->α'->Prop}:J3 C ok E (valueError m k:Sem α) (valueError m k:Sem α') R:=by
 unfold valueError;refine J3.bind' (Jsi _) λE1 s1 c c' h=>?_;obtain⟨rfl,p,h1,h2⟩:=h;refine J3.bind' (J3.elemOf _) λE2 s2 e e' h=>?_;obtain rfl:e=e':=h;refine J3.bind' (J3.newVar ((hh.mono s1).mono s2) e (v:=.agg #[strVal m,.int .u8 (Int.ofNat k)]) (v':=.agg #[strVal m,.int .u8 (Int.ofNat k)]) (.agg rfl λi x x' h1 h2=>by
  rw[h1]at h2;cases h2
  match i,h1 with
  |0,h1=>cases h1;exact .string _
  |1,h1=>cases h1;exact .int _ _
  |i+2,h1=>simp at h1)) λE3 s3 a a' ha=>?_
 exact .goPanic (.iface _ (h2▸K.ve p h1) (.Qm ha.1))
def Jl2:Gy C λargs=>unpack (args.getD 0 (.tuple #[])):=λok E hh a a' ha=>by
 have key:∀x x',VR C E x x'->J3 C ok E (unpack x) (unpack x') (VR C):=λx x' hv=>by
  cases hv with
  |nilIface=>exact .pure Jcv
  |iface t ht h=>
   rename_i v v';show J3 C ok E (do mk t (<- newVar t v) 0) (do mk t (<- newVar t v') 0) _;exact J3.bind' (J3.newVar hh t h) λE1 s1 a a' ha=>sMk (hh.mono s1) t ha.1 0
  |_=>exact .stuck _
 cases e:a[0]? with
 |none=>
  have e':=ha.VY e;show J3 C ok E (unpack (a.getD 0 (.tuple #[]))) (unpack (a'.getD 0 (.tuple #[]))) _;rw[Bq,Bq,e,e'];exact .stuck _
 |some x=>
  obtain⟨x',e',hv⟩:=ha.Ec e
  simp_all
def Jjh(E:J5):Option (JH × Addr × Nat)->Option (JH × Addr × Nat)->Prop:=Di λp q=>p.1=q.1/\Jc E p.2.1 q.2.1/\p.2.2=q.2.2
def Jth{h a:JJ}{n:Int}(hn:n≠0)(hd:∀p,a≠.pointer (some p)):∃s,partsAny (.agg #[h,a,.int .u64 n])=stuck s:=by
 match n,hn with
 |.ofNat (k+1),_=>cases a with
  |pointer p=>cases p with
   |none=>exact⟨_,rfl⟩
   |some p=>grind
  |_=>exact⟨_,rfl⟩
 |.negSucc k,_=>cases a with
  |pointer p=>cases p with
   |none=>exact⟨_,rfl⟩
   |some p=>grind
  |_=>exact⟨_,rfl⟩
def Jji{h:JJ}{p:Addr}{n:Int}(hn:n≠0):partsAny (.agg #[h,.pointer (some p),.int .u64 n])=(do Pure.pure (some (<- ofHandle h,p,n.toNat))):=by
 match n,hn with
 |.ofNat (k+1),_=>rfl
 |.negSucc k,_=>rfl
def Jh2(hh:Hnd C E){x x':JJ}(hv:VR C E x x'):J3 C ok E (partsAny x) (partsAny x') Jjh:=by
 cases hv with
 |agg ha hx=>
  rename_i a a';obtain⟨l⟩:=a;obtain⟨l'⟩:=a'
  match l,l',ha,hx with
  |[],_,_,_=>exact .stuck _
  |[_],_,_,_=>exact .stuck _
  |[_,_],_,_,_=>exact .stuck _
  |_::_::_::_::_,_,_,_=>exact .stuck _
  |[h,a,f],[h',a',f'],_,hx=>
   have v0:=hx 0 h h' rfl rfl;have v1:=hx 1 a a' rfl rfl;have v2:=hx 2 f f' rfl rfl;cases v2 with
   |int k n=>
    cases k with
    |u64=>
     by_cases hn:n=0
     .subst hn;exact .pure trivial
     .cases v1 with
      |ptr o s hb=>
       show J3 C ok E (partsAny (.agg #[h,_,_])) (partsAny (.agg #[h',_,_])) _;rw[Jji hn,Jji hn];refine J3.bind' (J9v hh v0) λE1 s1 t t' h=>?_;obtain rfl:t=t':=h;exact .pure ⟨rfl,⟨s1 _ _ hb,rfl,rfl⟩,rfl⟩
      |_=>
       rw[(Jth (h:=h) hn (by grind)).choose_spec];exact .stuck _
    |_=>exact .stuck _
   |_=>exact .stuck _
 |_=>exact .stuck _
def Jjj(hh:Hnd C E){x x':JJ}(hv:VR C E x x'):J3 C ok E (parts x) (parts x') Jjh:=by
 unfold Go.Extern.ReflectliteValue.parts;refine J3.bind' (Jh2 hh hv) λE1 s1 o o' h=>?_;cases o with
 |none=>cases o' with
  |none=>exact .pure trivial
  |some _=>exact h.elim
 |some p=>cases o' with
  |none=>exact h.elim
  |some q=>
   obtain⟨t,a,f⟩:=p;obtain⟨t',a',f'⟩:=q;obtain⟨h1,h2,h3⟩:=h;obtain rfl:t=t':=h1;obtain rfl:f=f':=h3;exact J3.bind' (nV _ t) λE2 s2 _ _ _=>.pure ⟨rfl,⟨s2 _ _ h2.block,h2.off,h2.spot⟩,rfl⟩
def mX{zero:Sem JJ}{f:JH->Addr->Nat->Nat->Sem JJ}(any:Bool)(hz:∀(ok:JG->Code->Prop)(E:J5),Hnd C E->J3 C ok E zero zero (VR C))(hf:∀(ok:JG->Code->Prop)(E:J5),Hnd C E->∀t a a' fl k,Jc E a a'->J3 C ok E (f t a fl k) (f t a' fl k) (VR C)) :
  Gy C (if any then methodAny zero f else Go.Extern.ReflectliteValue.method zero f):=by
 have fin:∀(ok:JG->Code->Prop)(E:J5)(s s':Sem (Option (JH × Addr × Nat))),Hnd C E->J3 C ok E s s' Jjh->J3 C ok E (do match <- s with|none=>zero|some (t,a,fl)=>f t a fl (fl % 32)) (do match <- s' with|none=>zero|some (t,a,fl)=>f t a fl (fl % 32)) (VR C):=λok E s s' hh hs=>by
  refine J3.bind' hs λE1 s1 o o' h=>?_;cases o with
  |none=>cases o' with
   |none=>exact hz ok _ (hh.mono s1)
   |some _=>exact h.elim
  |some p=>cases o' with
   |none=>exact h.elim
   |some q=>
    obtain⟨t,a,fl⟩:=p;obtain⟨t',a',fl'⟩:=q;obtain⟨h1,h2,h3⟩:=h;obtain rfl:t=t':=h1;obtain rfl:fl=fl':=h3;exact hf ok _ (hh.mono s1) t a a' fl _ h2
 cases any with
 |true=>exact .one ⟨_,rfl⟩ (λ_ _ _=>⟨_,rfl⟩) λok E hh x x' hv=>fin ok E (partsAny x) (partsAny x') hh (Jh2 hh hv)
 |false=>exact .one ⟨_,rfl⟩ (λ_ _ _=>⟨_,rfl⟩) λok E hh x x' hv=>fin ok E (parts x) (parts x') hh (Jjj hh hv)
def Jti (K:Oy C):Gy C (methodAny (valueError "reflectlite.Value.Type" 0) λt _ _ _=>toType t):=
 mX true (λok E hh=>VP K hh _ _) λok E hh t a a' fl k h=>Jfz K hh t
def Jqd (K:Oy C):Gy C (Go.Extern.ReflectliteValue.method (valueError "reflectlite.Value.IsNil" 0) isNil):=
 mX false (λok E hh=>VP K hh _ _) λok E hh t a a' fl k h=>by
  unfold isNil;have tail:∀E1,Sub E E1->J3 C ok E1 (do match <- loadVar t a with| .chan none | .nilFunc | .nilIface | .map none | .pointer none | .slice none _ _=>Pure.pure (Value.bool true)|_=>Pure.pure (Value.bool false)) (do match <- loadVar t a' with| .chan none | .nilFunc | .nilIface | .map none | .pointer none | .slice none _ _=>Pure.pure (Value.bool true)|_=>Pure.pure (Value.bool false)) (VR C):=λE1 s1=>by refine J3.bind' (J3.loadVar t ⟨s1 _ _ h.block,h.off,h.spot⟩) λE2 s2 v v' hv=>?_;cases hv<;>exact .pure (.bool _)
  dsimp only
  split
  .exact J3.bind' (R:=λ_ _ _=>False) (VP K hh _ _) λ_ _ _ _ h=>h.elim
  .exact tail _ (.refl E)
def Jqe (K:Oy C):Gy C (Go.Extern.ReflectliteValue.method (valueError "reflectlite.Value.Elem" 0) Go.Extern.ReflectliteValue.elem):=
 mX false (λok E hh=>VP K hh _ _) λok E hh t a a' fl k h=>by
  unfold Go.Extern.ReflectliteValue.elem
  dsimp only
  split
  .exact J3.bind' (R:=λ_ _ _=>False) (VP K hh _ _) λ_ _ _ _ h=>h.elim
  rename_i hk;refine J3.bind' (J3.loadVar t h) λE2 s2 v v' hv=>?_;refine J3.bind' (Jwr t) λE3 s3 o o' e=>?_;obtain rfl:o=o':=e;have PW:=(hh.mono s2).mono s3;have wC:=hv.mono s3;have D6:k=20\/k=22:=by grind
  rcases D6 with rfl|rfl
  .cases wC with
   |nilIface=>exact .pure Jcv
   |iface t ht h=>
    exact J3.bind' (J3.newVar PW t h) λE1 s1 a a' ha=>sMk (PW.mono s1) t ha.1 0
   |_=>exact .stuck _
  .cases wC with
   |nilPtr=>exact .pure Jcv
   |ptr b s hb=>
    rename_i b1 b2;cases o with
    |none=>grind[VP]
    |some e=>exact sMk PW e (a:=⟨b1,b,s⟩) (a':=⟨b2,b,s⟩) ⟨hb,rfl,rfl⟩ _
   |_=>grind[VP]
end
end Go.Sim
namespace Go.Sim.Z
open Go Go.Proofs
noncomputable def C0:Cx:={ P:=prog,fs:=[35,37,42,69,71,80,82,84,85,89,91,94,95,96,97,139,143,167,248,249,250,251,255,256,257,258,262,263,264,265],ts:=[186,189,192,39,85,9,87,90,205,226,227],ms:=["Add","Numbers","Copy","Merge"],hl:=λf=>if f == 33 then[9,10,18,19,20,21,22,23,24]else if f == 17 then[18]else if f == 31 then[6,10]else if f == 68 then[1000]else if f == 5 then[1,24,1000]else if f == 7 then[1,2,26,28,1000]else if f == 6 then[1,2,3,30,32,47,56,58,1000]else if f == 20 then[1000]else if f == 13 then[0,9,18,20,21,24,26,27,30,32,33,41,43,44,46,48,49,1000]else if f == 14 then[1000]else if f == 23 then[1000]else if f == 16 then[1000]else if f == 30 then[1000]else if f == 66 then[1000]else[],st:=false,Sh:=λ_=>False,lax:=λ_ _ h=>h }
def S0:Kn:={ own:=λf=>if f == 97 then[7]else if f == 138 then[10]else[],cs:=[15,18,19,21,22,24,26,27,29,32,34,35,36,37,38,39,40,41,42,43,44,45,46,47,48,49,50,51,53,54,62,67,69,70,71,72,76,78,79,80,81,82,83,84,85,86,87,88,89,90,91,94,95,96,97,110,111,112,116,130,131,137,138,139,140,141,142,143,144,145,146,147,167,173,174,175,176,177,178,179,180,181,182,183,184,185,186,187,188,189,190,191,192,204,205,206,207,208,209,210,211,212,213,214,221,222,223,224,244,248,249,250,251,252,253,254,255,256,257,258,259,260,261,262,263,264,265,266,267,268,270,271,272],gs:=[0],df:=[39,84],xs:=[269] }
noncomputable def C1 (Sh:JB):Cx:={ P:=prog,fs:=[35,69,71,249,250,256,257,263,264],ts:=[186,189,192],ms:=["Copy","Merge"],hl:=λf=>if f == 74 then[0,6]else[],st:=true,Sh,lax:=λh=>by cases h }
def S1:Kn:={ own:=λf=>if f == 74 then[7,9,23]else if f == 76 then[0,15]else[],cs:=[35,41,69,70,71,111,76,116,130,131,249,250,253,256,257,262,263,264,266,267,214,223,268,270,224,271,272],gs:=[],df:=[],xs:=[269] }
def zN:prog.cutTypes.find? (·.1 == "internal/reflectlite.rtype")=some ("internal/reflectlite.rtype",226):=by kernel_rfl
def zO:prog.cutTypes.find? (·.1 == "*internal/reflectlite.ValueError")=some ("*internal/reflectlite.ValueError",227):=by kernel_rfl
def Jws (C:Cx) (f:JG) (h:[269].contains f=true):∃fn row,prog.funcs[f]?=some fn/\(fn.name == "runtime.NumGoroutine")=false/\fn.body=none/\Go.Extern.findNext fn=none/\Go.Extern.find fn=some row/\Gy C row:=by
 have e:f=269:=by simpa using h
 subst e;exact⟨f269,Go.Extern.SlicesOverlaps.overlaps f269.params f269.resultTypes,by kernel_rfl,by kernel_rfl,by kernel_rfl,by kernel_rfl,by kernel_rfl,Gy.overlaps _ _ _⟩
def KY:FM C0 S0:=FM.Jct (by kernel_rfl) (by kernel_rfl) (by kernel_rfl) (by kernel_rfl) (Jws C0)
def Jqf(Sh:JB):FM (C1 Sh) S1:=FM.Jct (by kernel_rfl) (by kernel_rfl) (by kernel_rfl) (by kernel_rfl) (Jws (C1 Sh))
end Go.Sim.Z
