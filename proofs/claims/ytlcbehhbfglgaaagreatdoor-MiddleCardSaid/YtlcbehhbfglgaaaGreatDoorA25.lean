/- Proved: laws for the claim. No conditions. -/
import Derived.Test.YtlcbehhbfglgaaaGreatDoorA09
set_option linter.all false
open Go.Proofs.Tryz
namespace Go.Sim
open Go.Extern.Rtype Go.Extern.ReflectliteType Go.Extern.ReflectliteValue
section
variable{C:Cx}{ok:JG->Code->Prop}{E:J5}
def oK(v x:JJ):Go.Extern.ReflectliteValue.set #[v,x]=(do
  let(some (dst,a,fl),some (src,b,_)):=(<- parts v,<- parts x)
   |unsupported (.noEntry "extern/(internal/reflectlite.Value).Set.zeroValue")
  if fl / flagAddr % 2 == 0 then unsupported (.noEntry "extern/(internal/reflectlite.Value).Set.unaddressable")
  let val <- loadVar src b
  if <- directlyAssignable dst src then storeVar dst a val
  else if <- Go.Extern.Rtype.implements dst src then
   if(<- kind src) == 20 then
    match val with
    |.nilIface=>unsupported (.noEntry "extern/reflectlite: a nil value of one interface type handed on as a value of another")
    |_=>storeVar dst a val
   else storeVar dst a (.iface src val)
  else panicString ("reflectlite.Set: value of type "++(<- spelt src)++ " is not assignable to type "++(<- spelt dst))
  Pure.pure (.tuple #[])):=rfl
def J035(t:JH):J3 C ok E (kind t) (kind t) (λ_ k k'=>k=k'/\(C.P.info? t).isSome=true):=by
 unfold kind under;refine J3.bind' (R:=λ_ x x'=>x=x'/\(C.P.info? t).isSome=true) ?_ λE1 s1 i i' h=>?_
 .refine J3.bind' (J3.typeInfo t) λE1 s1 i i' h=>?_;obtain⟨rfl,hi⟩:=h;have hs:(C.P.info? t).isSome=true:=by rw[hi];rfl
  try dsimp only
  split
  .refine J3.bind' (sInfo _) λE2 s2 j j' h=>?_;obtain rfl:j=j':=h;exact .pure ⟨rfl,hs⟩
  .exact .pure ⟨rfl,hs⟩
 .obtain⟨rfl,hs⟩:=h;obtain⟨u,i⟩:=i
  dsimp only
  split<;>first|exact .pure ⟨rfl,hs⟩|exact .stuck _
def Jzc(K:Oy C)(Au:∀t,(C.P.info? t).isSome=true->C.Ed t=true):Gy C Go.Extern.ReflectliteValue.set:=λok E hh a a' ha=>by
 obtain⟨l⟩:=a;obtain⟨l'⟩:=a'
 match l,l',ha with
 |[],_,_=>exact .stuck _
 |[_],_,_=>exact .stuck _
 |_::_::_::_,_,_=>exact .stuck _
 |[_,_],[],ha=>exact absurd ha.size (by simp)
 |[_,_],[_],ha=>exact absurd ha.size (by simp)
 |[_,_],_::_::_::_,ha=>exact absurd ha.size (by simp)
 |[v,x],[v',x'],ha=>
  have hv:=ha.at_ 0 v v' rfl rfl;have hx:=ha.at_ 1 x x' rfl rfl;show J3 C ok E (Go.Extern.ReflectliteValue.set #[v,x]) (Go.Extern.ReflectliteValue.set #[v',x']) (VR C);rw[oK,oK];refine J3.bind' (Jjj hh hv) λE1 s1 o o' h1=>?_;refine J3.bind' (Jjj (hh.mono s1) (hx.mono s1)) λE2 s2 q q' h2=>?_;cases o with
  |none=>cases o' with
   |none=>exact .unsupported _
   |some _=>exact h1.elim
  |some o=>cases o' with
   |none=>exact h1.elim
   |some o'=>cases q with
    |none=>cases q' with
     |none=>exact .unsupported _
     |some _=>exact h2.elim
    |some q=>cases q' with
     |none=>exact h2.elim
     |some q'=>
      obtain⟨dst,p,fl⟩:=o;obtain⟨dst',p',fl'⟩:=o';obtain⟨e1,e2,e3⟩:=h1;obtain rfl:dst=dst':=e1;obtain rfl:fl=fl':=e3;obtain⟨src,b,n⟩:=q;obtain⟨src',b',n'⟩:=q';obtain⟨e4,e5,e6⟩:=h2;obtain rfl:src=src':=e4;have hp:Jc E2 p p':=⟨s2 _ _ e2.block,e2.off,e2.spot⟩;have fin:∀E3,Sub E2 E3->∀u u',VR C E3 u u'->J3 C ok E3 (do storeVar dst p u;Pure.pure (Value.tuple #[])) (do storeVar dst p' u';Pure.pure (Value.tuple #[])) (VR C):=λE3 s3 u u' hu=>
       J3.bind' (J3.storeVar dst ⟨s3 _ _ hp.block,hp.off,hp.spot⟩ hu) λ_ _ _ _ _=>.pure .undef
      dsimp only
      split
      .exact J3.bind' (R:=λ_ _ _=>False) (.unsupported _) λ_ _ _ _ h=>h.elim
      refine J3.bind' (J3.loadVar src e5) λE3 s3 u u' hu=>?_;refine J3.bind' (Jlw dst src) λE4 s4 d d' h=>?_;obtain rfl:d=d':=h;have hu4:=hu.mono s4;cases d with
      |true=>exact fin _ (s3.trans s4) _ _ hu4
      |false=>
       refine J3.bind' (J7l dst src) λE5 s5 d d' h=>?_;obtain rfl:d=d':=h;have hu5:=hu4.mono s5;have s25:=(s3.trans s4).trans s5;cases d with
       |true=>
        refine J3.bind' (J035 src) λE6 s6 k k' h=>?_;obtain⟨rfl,hi⟩:=h;have hu6:=hu5.mono s6;have MO:=s25.trans s6
        try dsimp only
        split
        .cases hu6 with
         |nilIface=>exact J3.bind' (R:=λ_ _ _=>False) (.unsupported _) λ_ _ _ _ h=>h.elim
         |bool b=>exact fin _ MO _ _ (.bool b)
         |int k n=>exact fin _ MO _ _ (.int k n)
         |string x=>exact fin _ MO _ _ (.string x)
         |nilPtr=>exact fin _ MO _ _ .nilPtr
         |ptr o s h=>exact fin _ MO _ _ (.ptr o s h)
         |Jk l c=>exact fin _ MO _ _ (.Jk l c)
         |slice o s l c h=>exact fin _ MO _ _ (.slice o s l c h)
         |I5=>exact fin _ MO _ _ .I5
         |map h=>exact fin _ MO _ _ (.map h)
         |nilFunc=>exact fin _ MO _ _ .nilFunc
         |MP=>exact fin _ MO _ _ .MP
         |func h h1 h2 h3 h4=>exact fin _ MO _ _ (.func h h1 h2 h3 h4)
         |iface t ht h=>exact fin _ MO _ _ (.iface t ht h)
         |agg h1 h2=>exact fin _ MO _ _ (.agg h1 h2)
         |tuple h1 h2=>exact fin _ MO _ _ (.tuple h1 h2)
        .exact fin _ MO _ _ (.iface src (Au src hi) hu6)
       |false=>
        refine J3.bind' (Jjg src) λE6 s6 k k' h=>?_;obtain rfl:k=k':=h;refine J3.bind' (Jjg dst) λE7 s7 k k' h=>?_;obtain rfl:k=k':=h;exact J3.bind' (R:=λ_ _ _=>False) (oO K _) λ_ _ _ _ h=>h.elim
def Js5:Gy C (Go.Extern.ReflectliteValue.method (Pure.pure (.int .u8 0)) λ_ _ _ k=>Pure.pure (.int .u8 (Int.ofNat k))):=
 mX (zero:=Pure.pure (.int .u8 0)) (f:=λ_ _ _ k=>Pure.pure (.int .u8 (Int.ofNat k))) false (λok E hh=>.pure (.int _ _)) λok E hh t a a' fl k h=>.pure (.int _ _)
end
end Go.Sim
namespace Go.Sim.Z
open Go Go.Proofs
def tY:List JH:=List.range 371
def Js6{t:JH}(h:t<371):tY.contains t=true:=by unfold tY;exact Lj.2 ((List.mem_range (n:=371)).2 h)
noncomputable def C2:Cx:={ P:=prog,fs:=[239,246,238,276,114,277,274,244],ts:=tY,ms:=["Kind","Elem","Implements","AssignableTo","As","Unwrap"],mf:=[],hl:=λf=>if f == 16 then[1000]else[],any:=true,st:=false,Sh:=λ_=>False,lax:=λ_ _ h=>h }
def S2:Kn:={ own:=λf=>if f == 30 then[12,24,36]else[],cs:=[30,66,244],gs:=[0],df:=[],xs:=[63,64,65,113,114,115,239,246,274,276,277],xn:=[238] }
def UO:Oy C2 where
 rt p h:=by have e:some p=some ("internal/reflectlite.rtype",226):=h.symm.trans zN;obtain rfl:=Aa e;show C2.Ed 226=true;kernel_rfl
 ve p h:=by have e:some p=some ("*internal/reflectlite.ValueError",227):=h.symm.trans zO;obtain rfl:=Aa e;show C2.Ed 227=true;kernel_rfl
 str:=by kernel_rfl
def Jzd{C:Cx}{t:JH}(h:C.ts.contains t=true):C.Ed t=true:=by unfold Cx.Ed;rw[h,Bool.true_or,Bool.true_or]
def Jvy{C:Cx}{t:JH}(h:C.any=true)(h':C.P.types.size<=t):C.Ed t=true:=by unfold Cx.Ed;rw[h,decide_eq_true h',Bool.and_self,Bool.or_true]
def c2ts:C2.ts=tY:=by kernel_rfl
def Jze:C2.P.types.size=371:=by kernel_rfl
def all2(t:JH):C2.Ed t=true:=by
 rcases BF t 371 with h|h
 .exact Jzd (c2ts▸Js6 h)
 .exact Jvy rfl (by rw[Jze];exact h)
def J05w (f:JG) (h:[63,64,65,113,114,115,239,246,274,276,277].contains f=true):∃fn row,prog.funcs[f]?=some fn/\(fn.name == "runtime.NumGoroutine")=false/\fn.body=none/\Go.Extern.findNext fn=none/\Go.Extern.find fn=some row/\Gy C2 row:=by
 have h':=Lj.1 h;simp only[AL,BU,or_false]at h';rcases h' with rfl|rfl|rfl|rfl|rfl|rfl|rfl|rfl|rfl|rfl|rfl
 .exact⟨f63,_,by kernel_rfl,by kernel_rfl,by kernel_rfl,by kernel_rfl,by kernel_rfl,Jl2⟩
 .exact⟨f64,_,by kernel_rfl,by kernel_rfl,by kernel_rfl,by kernel_rfl,by kernel_rfl,Jti UO⟩
 .exact⟨f65,_,by kernel_rfl,by kernel_rfl,by kernel_rfl,by kernel_rfl,by kernel_rfl,Jqd UO⟩
 .exact⟨f113,_,by kernel_rfl,by kernel_rfl,by kernel_rfl,by kernel_rfl,by kernel_rfl,Jn4 UO⟩
 .exact⟨f114,_,by kernel_rfl,by kernel_rfl,by kernel_rfl,by kernel_rfl,by kernel_rfl,Jqe UO⟩
 .exact⟨f115,_,by kernel_rfl,by kernel_rfl,by kernel_rfl,by kernel_rfl,by kernel_rfl,Jzc UO λt _=>all2 t⟩
 .exact⟨f239,_,by kernel_rfl,by kernel_rfl,by kernel_rfl,by kernel_rfl,by kernel_rfl,Jtg⟩
 .exact⟨f246,_,by kernel_rfl,by kernel_rfl,by kernel_rfl,by kernel_rfl,by kernel_rfl,Js5⟩
 .exact⟨f274,_,by kernel_rfl,by kernel_rfl,by kernel_rfl,by kernel_rfl,by kernel_rfl,Jg1 UO⟩
 .exact⟨f276,_,by kernel_rfl,by kernel_rfl,by kernel_rfl,by kernel_rfl,by kernel_rfl,Jtf UO⟩
 .exact⟨f277,_,by kernel_rfl,by kernel_rfl,by kernel_rfl,by kernel_rfl,by kernel_rfl,Jg0 UO⟩
def J05x (f:JG) (h:S2.xn.contains f=true):∃fn,prog.funcs[f]?=some fn/\(fn.name == "runtime.NumGoroutine")=false/\fn.body=none/\Go.Extern.findNext fn=none/\Go.Extern.find fn=none/\(fn.name.endsWith ".init" && !fn.name.startsWith "(" && !fn.name.startsWith "gosem.")=false:=by
 have e:f=238:=by simpa[S2]using h
 subst e;exact⟨f238,by kernel_rfl,by kernel_rfl,by kernel_rfl,by kernel_rfl,by kernel_rfl,by kernel_rfl⟩
def J036:FM C2 S2:=FM.Jct (by kernel_rfl) (by kernel_rfl) (by kernel_rfl) (by kernel_rfl) J05w J05x
def ok16:Ji C2 S2 16 (f16.body.getD .skip)=true:=by kernel_rfl
end Go.Sim.Z
