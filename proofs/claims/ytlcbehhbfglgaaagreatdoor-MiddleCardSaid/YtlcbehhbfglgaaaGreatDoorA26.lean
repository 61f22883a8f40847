/- Proved: laws for the claim. No conditions. -/
import Derived.WalkKit
import Derived.LaidEql
import Derived.Stop.Asserts
import Derived.RowKitTokens
import Derived.Conc.Own4
import Derived.Deep.Slices
import Derived.Conc.Holds
import Derived.Test.YtlcbehhbfglgaaaGreatDoorA12
import Derived.Test.YtlcbehhbfglgaaaGreatDoorA13
import Derived.Test.YtlcbehhbfglgaaaGreatDoorA17
import Derived.Test.YtlcbehhbfglgaaaGreatDoorA23
import Derived.Test.YtlcbehhbfglgaaaGreatDoorA24
import Derived.Test.YtlcbehhbfglgaaaGreatDoorA25
set_option linter.all false
set_option maxHeartbeats 4000000
set_option maxRecDepth 100000
open Go.Proofs.Tryz
namespace Go.Sim.Z
open Go Go.Proofs Go.RowKit Go.Extern.Stop Go.Stop Go.Extern
def methodKind (h:JJ) (w:JE):(Go.method 471 226 (.agg #[h]) "Kind").run prog w=.ok (239,h) w:=by kernel_rfl
def methodElem (h:JJ) (w:JE):(Go.method 471 226 (.agg #[h]) "Elem").run prog w=.ok (276,.agg #[h]) w:=by kernel_rfl
def methodImplements (h:JJ) (w:JE):(Go.method 471 226 (.agg #[h]) "Implements").run prog w=.ok (277,.agg #[h]) w:=by kernel_rfl
def methodAssignableTo (h:JJ) (w:JE):(Go.method 471 226 (.agg #[h]) "AssignableTo").run prog w=.ok (274,.agg #[h]) w:=by kernel_rfl
def rlm(z:Sem JJ)(f:JH->Addr->Nat->Nat->Sem JJ)(v:JJ) :
  ReflectliteValue.method z f #[v]=(do match <- ReflectliteValue.parts v with|none=>z|some (t,a,fl)=>f t a fl (fl % 32)):=rfl
def Jhc(t:Addr)(w:JE):(ReflectliteValue.unpack (.iface 87 (.pointer (some t)))).run prog w
  = .ok (.agg #[.pointer (some ⟨1,87,none⟩),.pointer (some ⟨w.heap.size,0,none⟩),.int .u64 150]) (w.alloc (.cells #[.pointer (some t)] 87)):=by kernel_rfl
def Js7 (a:Addr) (w:JE):(ReflectliteValue.methodAny (ReflectliteValue.valueError "reflectlite.Value.Type" 0) (λt _ _ _=>ReflectliteType.toType t) #[.agg #[.pointer (some ⟨1,87,none⟩),.pointer (some a),.int .u64 150]]).run prog w
  = .ok (.iface 226 (.agg #[.pointer (some ⟨1,87,none⟩)])) w:=by kernel_rfl
def Js8(w:JE):((ReflectliteType.abiMethod λt=>(λa:Nat=>Value.int IntKind.u8 (a:Int)) <$> Rtype.kind t) #[.pointer (some ⟨1,87,none⟩)]).run prog w=.ok (.int .u8 22) w:=by kernel_rfl
def Js9(w:JE):((ReflectliteType.abiMethod λt=>(λa:Nat=>Value.int IntKind.u8 (a:Int)) <$> Rtype.kind t) #[.pointer (some ⟨1,85,none⟩)]).run prog w=.ok (.int .u8 22) w:=by kernel_rfl
def Jm8(a:Addr)(w:JE):(ReflectliteValue.parts (.agg #[.pointer (some ⟨1,87,none⟩),.pointer (some a),.int .u64 150])).run prog w=.ok (some (87,a,150)) w:=by kernel_rfl
def Jsa:prog.underlying 87=some (.pointer 85):=by kernel_rfl
def Jm9(a p:Addr)(W:JE)(ha:W.cell? a=some (.pointer (some p))) :
  (ReflectliteValue.method (ReflectliteValue.valueError "reflectlite.Value.IsNil" 0) ReflectliteValue.isNil #[.agg #[.pointer (some ⟨1,87,none⟩),.pointer (some a),.int .u64 150]]).run prog W=.ok (.bool false) W:=by
 rw[rlm];simp only[Sem.run_bind,Jm8,Result.andThen];simp[ReflectliteValue.isNil,loadVar,isAgg,underlying,Jsa,ha,Result.andThen]
def Jsb(w:JE):(ReflectliteType.method ReflectliteType.elem #[.agg #[.pointer (some ⟨1,87,none⟩)]]).run prog w=.ok (.iface 226 (.agg #[.pointer (some ⟨1,85,none⟩)])) w:=by kernel_rfl
def Jaw (w:JE):(ReflectliteType.relation "Implements" ReflectliteType.implements_ #[.agg #[.pointer (some ⟨1,85,none⟩)],.iface 226 (.agg #[.pointer (some ⟨1,33,none⟩)])]).run prog w=.ok (.bool true) w:=by kernel_rfl
def Jvz(v:JJ)(w:JE):(ReflectliteType.typeOf #[.iface 85 v]).run prog w=.ok (.iface 226 (.agg #[.pointer (some ⟨1,85,none⟩)])) w:=by kernel_rfl
def Jkk (w:JE):(ReflectliteType.relation "AssignableTo" ReflectliteType.assignableTo #[.agg #[.pointer (some ⟨1,85,none⟩)],.iface 226 (.agg #[.pointer (some ⟨1,85,none⟩)])]).run prog w=.ok (.bool true) w:=by kernel_rfl
def Jsc(e:Addr)(w:JE):(ReflectliteValue.unpack (.iface 85 (.pointer (some e)))).run prog w
  = .ok (.agg #[.pointer (some ⟨1,85,none⟩),.pointer (some ⟨w.heap.size,0,none⟩),.int .u64 150]) (w.alloc (.cells #[(.pointer (some e))] 85)):=by kernel_rfl
def Jw0(w:JE):(Rtype.elem? 87).run prog w=.ok (some 85) w:=by kernel_rfl
def mk85(p:Addr)(w:JE):(ReflectliteValue.mk 85 p ReflectliteValue.flagAddr).run prog w=.ok (.agg #[.pointer (some ⟨1,85,none⟩),.pointer (some p),.int .u64 406]) w:=by kernel_rfl
def Jzf(a p:Addr)(W:JE)(ha:W.cell? a=some (.pointer (some p))) :
  (ReflectliteValue.method (ReflectliteValue.valueError "reflectlite.Value.Elem" 0) ReflectliteValue.elem #[.agg #[.pointer (some ⟨1,87,none⟩),.pointer (some a),.int .u64 150]]).run prog W
   = .ok (.agg #[.pointer (some ⟨1,85,none⟩),.pointer (some p),.int .u64 406]) W:=by
 rw[rlm];simp only[Sem.run_bind,Jm8,Result.andThen];simp[ReflectliteValue.elem,loadVar,isAgg,underlying,Jsa,ha,Result.andThen,Jw0,mk85]
def Jw1(a:Addr)(w:JE):(ReflectliteValue.parts (.agg #[.pointer (some ⟨1,85,none⟩),.pointer (some a),.int .u64 406])).run prog w=.ok (some (85,a,406)) w:=by kernel_rfl
def Jzg(a:Addr)(w:JE):(ReflectliteValue.parts (.agg #[.pointer (some ⟨1,85,none⟩),.pointer (some a),.int .u64 150])).run prog w=.ok (some (85,a,150)) w:=by kernel_rfl
def Jw2(w:JE):(Rtype.directlyAssignable 85 85).run prog w=.ok true w:=by kernel_rfl
def J037(w:JE):(sizeOf 85).run prog w=.ok 1 w:=by kernel_rfl
def Jzh(w:JE):(isAgg 85).run prog w=.ok false w:=by kernel_rfl
def J05y(ta b:Addr)(e:Addr)(old:JJ)(W:JE)(hb:W.cell? b=some ((.pointer (some e))))(ht:W.cell? ta=some old)(hf:W.frozen? ta=false) :
  (ReflectliteValue.set #[.agg #[.pointer (some ⟨1,85,none⟩),.pointer (some ta),.int .u64 406],.agg #[.pointer (some ⟨1,85,none⟩),.pointer (some b),.int .u64 150]]).run prog W
   = .ok (.tuple #[]) (W.setCell ta ((.pointer (some e)))):=by
 rw[oK];simp only[Sem.run_bind,Jw1,Jzg,Result.andThen];simp[ReflectliteValue.flagAddr,loadVar,Jzh,hb,Result.andThen,Jw2,storeVar,J037,Value.cells,storeCells,Addr.add];rw[run_store prog W ta _ _ (by rfl)];simp[ht,hf]
def Jsd(t:Addr)(w:JE):(ReflectliteValue.unpack (.iface 90 (.pointer (some t)))).run prog w
  = .ok (.agg #[.pointer (some ⟨1,90,none⟩),.pointer (some ⟨w.heap.size,0,none⟩),.int .u64 150]) (w.alloc (.cells #[.pointer (some t)] 90)):=by kernel_rfl
def J038 (a:Addr) (w:JE):(ReflectliteValue.methodAny (ReflectliteValue.valueError "reflectlite.Value.Type" 0) (λt _ _ _=>ReflectliteType.toType t) #[.agg #[.pointer (some ⟨1,90,none⟩),.pointer (some a),.int .u64 150]]).run prog w
  = .ok (.iface 226 (.agg #[.pointer (some ⟨1,90,none⟩)])) w:=by kernel_rfl
def J039(w:JE):((ReflectliteType.abiMethod λt=>(λa:Nat=>Value.int IntKind.u8 (a:Int)) <$> Rtype.kind t) #[.pointer (some ⟨1,90,none⟩)]).run prog w=.ok (.int .u8 22) w:=by kernel_rfl
def J03a(w:JE):((ReflectliteType.abiMethod λt=>(λa:Nat=>Value.int IntKind.u8 (a:Int)) <$> Rtype.kind t) #[.pointer (some ⟨1,39,none⟩)]).run prog w=.ok (.int .u8 2) w:=by kernel_rfl
def Jma(a:Addr)(w:JE):(ReflectliteValue.parts (.agg #[.pointer (some ⟨1,90,none⟩),.pointer (some a),.int .u64 150])).run prog w=.ok (some (90,a,150)) w:=by kernel_rfl
def Jse:prog.underlying 90=some (.pointer 39):=by kernel_rfl
def Jzi(a p:Addr)(W:JE)(ha:W.cell? a=some (.pointer (some p))) :
  (ReflectliteValue.method (ReflectliteValue.valueError "reflectlite.Value.IsNil" 0) ReflectliteValue.isNil #[.agg #[.pointer (some ⟨1,90,none⟩),.pointer (some a),.int .u64 150]]).run prog W=.ok (.bool false) W:=by
 rw[rlm];simp only[Sem.run_bind,Jma,Result.andThen];simp[ReflectliteValue.isNil,loadVar,isAgg,underlying,Jse,ha,Result.andThen]
def J03b(w:JE):(ReflectliteType.method ReflectliteType.elem #[.agg #[.pointer (some ⟨1,90,none⟩)]]).run prog w=.ok (.iface 226 (.agg #[.pointer (some ⟨1,39,none⟩)])) w:=by kernel_rfl
def Jkl (w:JE):(ReflectliteType.relation "Implements" ReflectliteType.implements_ #[.agg #[.pointer (some ⟨1,39,none⟩)],.iface 226 (.agg #[.pointer (some ⟨1,33,none⟩)])]).run prog w=.ok (.bool true) w:=by kernel_rfl
def Jkm(v:JJ)(w:JE):(ReflectliteType.typeOf #[.iface 39 v]).run prog w=.ok (.iface 226 (.agg #[.pointer (some ⟨1,39,none⟩)])) w:=by kernel_rfl
def Jkn (w:JE):(ReflectliteType.relation "AssignableTo" ReflectliteType.assignableTo #[.agg #[.pointer (some ⟨1,39,none⟩)],.iface 226 (.agg #[.pointer (some ⟨1,39,none⟩)])]).run prog w=.ok (.bool true) w:=by kernel_rfl
def Jsf(n:Int)(w:JE):(ReflectliteValue.unpack (.iface 39 (.int .i64 n))).run prog w
  = .ok (.agg #[.pointer (some ⟨1,39,none⟩),.pointer (some ⟨w.heap.size,0,none⟩),.int .u64 130]) (w.alloc (.cells #[(.int .i64 n)] 39)):=by kernel_rfl
def Jw3(w:JE):(Rtype.elem? 90).run prog w=.ok (some 39) w:=by kernel_rfl
def mk39(p:Addr)(w:JE):(ReflectliteValue.mk 39 p ReflectliteValue.flagAddr).run prog w=.ok (.agg #[.pointer (some ⟨1,39,none⟩),.pointer (some p),.int .u64 386]) w:=by kernel_rfl
def Jzj(a p:Addr)(W:JE)(ha:W.cell? a=some (.pointer (some p))) :
  (ReflectliteValue.method (ReflectliteValue.valueError "reflectlite.Value.Elem" 0) ReflectliteValue.elem #[.agg #[.pointer (some ⟨1,90,none⟩),.pointer (some a),.int .u64 150]]).run prog W
   = .ok (.agg #[.pointer (some ⟨1,39,none⟩),.pointer (some p),.int .u64 386]) W:=by
 rw[rlm];simp only[Sem.run_bind,Jma,Result.andThen];simp[ReflectliteValue.elem,loadVar,isAgg,underlying,Jse,ha,Result.andThen,Jw3,mk39]
def Jw4(a:Addr)(w:JE):(ReflectliteValue.parts (.agg #[.pointer (some ⟨1,39,none⟩),.pointer (some a),.int .u64 386])).run prog w=.ok (some (39,a,386)) w:=by kernel_rfl
def Jzk(a:Addr)(w:JE):(ReflectliteValue.parts (.agg #[.pointer (some ⟨1,39,none⟩),.pointer (some a),.int .u64 130])).run prog w=.ok (some (39,a,130)) w:=by kernel_rfl
def Jw5(w:JE):(Rtype.directlyAssignable 39 39).run prog w=.ok true w:=by kernel_rfl
def J03c(w:JE):(sizeOf 39).run prog w=.ok 1 w:=by kernel_rfl
def isAgg39(w:JE):(isAgg 39).run prog w=.ok false w:=by kernel_rfl
def J05z(ta b:Addr)(n:Int)(old:JJ)(W:JE)(hb:W.cell? b=some ((.int .i64 n)))(ht:W.cell? ta=some old)(hf:W.frozen? ta=false) :
  (ReflectliteValue.set #[.agg #[.pointer (some ⟨1,39,none⟩),.pointer (some ta),.int .u64 386],.agg #[.pointer (some ⟨1,39,none⟩),.pointer (some b),.int .u64 130]]).run prog W
   = .ok (.tuple #[]) (W.setCell ta ((.int .i64 n))):=by
 rw[oK];simp only[Sem.run_bind,Jw4,Jzk,Result.andThen];simp[ReflectliteValue.flagAddr,loadVar,isAgg39,hb,Result.andThen,Jw5,storeVar,J03c,Value.cells,storeCells,Addr.add];rw[run_store prog W ta _ _ (by rfl)];simp[ht,hf]
def Jko (w:JE):(ReflectliteType.relation "AssignableTo" ReflectliteType.assignableTo #[.agg #[.pointer (some ⟨1,39,none⟩)],.iface 226 (.agg #[.pointer (some ⟨1,85,none⟩)])]).run prog w=.ok (.bool false) w:=by kernel_rfl
def Jzl:prog.underlying 231=some (.interface #[("As",233)]):=by kernel_rfl
def Jzm:prog.underlying 234=some (.interface #[("Unwrap",235)]):=by kernel_rfl
def Jzn:prog.underlying 236=some (.interface #[("Unwrap",238)]):=by kernel_rfl
def Jsg(v:JJ)(w:JE):(Instr.typeAssert (.iface 39 v) 33 231 true).run prog w=.ok (.tuple #[.nilIface,.bool false]) w:=run_typeAssert_lacksB Jzl (by kernel_rfl) (by kernel_rfl) v 33 w
def Jsh(v:JJ)(w:JE):(Instr.typeAssert (.iface 39 v) 33 234 true).run prog w=.ok (.tuple #[.nilIface,.bool false]) w:=run_typeAssert_lacksB Jzm (by kernel_rfl) (by kernel_rfl) v 33 w
def Jsi(v:JJ)(w:JE):(Instr.typeAssert (.iface 39 v) 33 236 true).run prog w=.ok (.tuple #[.nilIface,.bool false]) w:=run_typeAssert_lacksB Jzn (by kernel_rfl) (by kernel_rfl) v 33 w
def XF(f:JG)(row:JC->Sem JJ):Prop:=∀(args:JC)(w:JE),(callFunc f args).run prog w=((row args).run prog w).andThen λv w'=>.ok (.value v) w'
def XF.mk {f:JG} {fn:Func} {e:JC->Sem JJ} (hf:prog.funcs[f]?=some fn) (Eb:(fn.name == "runtime.NumGoroutine")=false) (hb:fn.body.isNone=true) (hn:Extern.findNext fn=none) (he:Extern.find fn=some e):XF f e:=run_callFunc_extern hf Eb hb hn he
def exts:XF 63 (λargs=>ReflectliteValue.unpack (args.getD 0 (.tuple #[])))/\XF 64 (ReflectliteValue.methodAny (ReflectliteValue.valueError "reflectlite.Value.Type" 0) (λt _ _ _=>ReflectliteType.toType t))/\XF 65 (ReflectliteValue.method (ReflectliteValue.valueError "reflectlite.Value.IsNil" 0) ReflectliteValue.isNil)/\XF 239 (ReflectliteType.abiMethod λt=>do pure (.int .u8 (<- Rtype.kind t)))/\XF 276 (ReflectliteType.method ReflectliteType.elem)/\XF 277 (ReflectliteType.relation "Implements" ReflectliteType.implements_)/\XF 113 (ReflectliteType.typeOf)/\XF 274 (ReflectliteType.relation "AssignableTo" ReflectliteType.assignableTo)/\XF 114 (ReflectliteValue.method (ReflectliteValue.valueError "reflectlite.Value.Elem" 0) ReflectliteValue.elem)/\XF 115 (ReflectliteValue.set):=
 ⟨.mk func63 (by kernel_rfl) (by kernel_rfl) (by kernel_rfl) (by kernel_rfl),.mk func64 (by kernel_rfl) (by kernel_rfl) (by kernel_rfl) (by kernel_rfl),.mk func65 (by kernel_rfl) (by kernel_rfl) (by kernel_rfl) (by kernel_rfl),.mk func239 (by kernel_rfl) (by kernel_rfl) (by kernel_rfl) (by kernel_rfl),.mk func276 (by kernel_rfl) (by kernel_rfl) (by kernel_rfl) (by kernel_rfl),.mk func277 (by kernel_rfl) (by kernel_rfl) (by kernel_rfl) (by kernel_rfl),.mk func113 (by kernel_rfl) (by kernel_rfl) (by kernel_rfl) (by kernel_rfl),.mk func274 (by kernel_rfl) (by kernel_rfl) (by kernel_rfl) (by kernel_rfl),.mk func114 (by kernel_rfl) (by kernel_rfl) (by kernel_rfl) (by kernel_rfl),.mk func115 (by kernel_rfl) (by kernel_rfl) (by kernel_rfl) (by kernel_rfl)⟩
def J084(e:Addr)(t:Addr)(old:JJ)(w:JE)(hg:w.cell? ⟨0,0,none⟩=some (.iface 226 (.agg #[.pointer (some ⟨1,33,none⟩)])))(Bf:w.cell? t=some old)(hf0:w.frozen? t=false) :
  Calls prog 30 #[.iface 85 (.pointer (some e)),.iface 87 (.pointer (some t))] w λev w'=>ev=.returned (.bool true)/\w'=((((w.alloc (.cells #[.pointer (some t)] 87)).alloc (.cells #[.pointer (some ⟨1,87,none⟩),.pointer (some ⟨w.heap.size,0,none⟩),.int .u64 150] 156)).alloc (.cells #[.pointer (some ⟨1,87,none⟩),.pointer (some ⟨w.heap.size,0,none⟩),.int .u64 150] 156)).alloc (.cells #[(.pointer (some e))] 85)).setCell t (.pointer (some e)):=by
 obtain⟨h6,h7,h8,fA,Vp,fB,Ce,Xa,DZ,SA⟩:=exts;unfold XF at h6 h7 h8 fA Vp fB Ce Xa DZ SA;have tO:=Jvz;have a25:=Jkk;have v25:=Jsc;have f6:=Jhc;have f7:=Js7;have mK:=methodKind;have mE:=methodElem;have mI:=methodImplements;have mA:=methodAssignableTo;have k27:=Js8;have k25:=Js9;have vS:=Jsb;have i25:=Jaw;have n8:=Jm9 ⟨w.heap.size,0,none⟩ t ((w.alloc (.cells #[.pointer (some t)] 87)).alloc (.cells #[.pointer (some ⟨1,87,none⟩),.pointer (some ⟨w.heap.size,0,none⟩),.int .u64 150] 156)) (by simp);have Ac:0<w.heap.size:=by
  rcases Nat.eq_zero_or_pos w.heap.size with h0|h
  .simp[World.cell?,h0]at hg
  .exact h
 have Bl:((w.alloc (.cells #[.pointer (some t)] 87)).alloc (.cells #[.pointer (some ⟨1,87,none⟩),.pointer (some ⟨w.heap.size,0,none⟩),.int .u64 150] 156)).cell? ⟨0,0,none⟩=some (.iface 226 (.agg #[.pointer (some ⟨1,33,none⟩)])):=by rw[World.cell?_alloc_lt _ _ ⟨0,0,none⟩ (by simp),World.cell?_alloc_lt _ _ ⟨0,0,none⟩ Ac];exact hg
 have kW:t.block<w.heap.size:=by
  rcases BF t.block w.heap.size with h|h
  .exact h
  .simp[World.cell?,Cc h]at Bf
 have el:=Jzf ⟨w.heap.size,0,none⟩ t (((w.alloc (.cells #[.pointer (some t)] 87)).alloc (.cells #[.pointer (some ⟨1,87,none⟩),.pointer (some ⟨w.heap.size,0,none⟩),.int .u64 150] 156)).alloc (.cells #[.pointer (some ⟨1,87,none⟩),.pointer (some ⟨w.heap.size,0,none⟩),.int .u64 150] 156)) (by rw[World.cell?_alloc_lt _ _ ⟨w.heap.size,0,none⟩ (by simp;omega)];simp);have st:=J05y t ⟨w.heap.size+1+1+1,0,none⟩ e old ((((w.alloc (.cells #[.pointer (some t)] 87)).alloc (.cells #[.pointer (some ⟨1,87,none⟩),.pointer (some ⟨w.heap.size,0,none⟩),.int .u64 150] 156)).alloc (.cells #[.pointer (some ⟨1,87,none⟩),.pointer (some ⟨w.heap.size,0,none⟩),.int .u64 150] 156)).alloc (.cells #[(.pointer (some e))] 85))
  (by rw[World.cell?_alloc_at _ _ _ _ (by simp)];rfl)
  (by rw[World.cell?_alloc_lt _ _ t (by simp;omega),World.cell?_alloc_lt _ _ t (by simp;omega),World.cell?_alloc_lt _ _ t (by simp;omega),World.cell?_alloc_lt _ _ t kW];exact Bf)
  (by rw[World.frozen?_alloc_old _ _ t (by simp;omega),World.frozen?_alloc_old _ _ t (by simp;omega),World.frozen?_alloc_old _ _ t (by simp;omega),World.frozen?_alloc_old _ _ t (Nat.ne_of_lt kW)];exact hf0)
 go_enter func30,ntmps30
 go_wp2;refine wp_loop_rounds 1 ?_;rw[rounds_succ];go_wp2;go_ret;exact⟨rfl,rfl⟩
def Jw6(n:Int)(t:Addr)(old:JJ)(w:JE)(hg:w.cell? ⟨0,0,none⟩=some (.iface 226 (.agg #[.pointer (some ⟨1,33,none⟩)])))(Bf:w.cell? t=some old)(hf0:w.frozen? t=false) :
  Calls prog 30 #[.iface 39 (.int .i64 n),.iface 90 (.pointer (some t))] w λev w'=>ev=.returned (.bool true)/\w'=((((w.alloc (.cells #[.pointer (some t)] 90)).alloc (.cells #[.pointer (some ⟨1,90,none⟩),.pointer (some ⟨w.heap.size,0,none⟩),.int .u64 150] 156)).alloc (.cells #[.pointer (some ⟨1,90,none⟩),.pointer (some ⟨w.heap.size,0,none⟩),.int .u64 150] 156)).alloc (.cells #[(.int .i64 n)] 39)).setCell t (.int .i64 n):=by
 obtain⟨h6,h7,h8,fA,Vp,fB,Ce,Xa,DZ,SA⟩:=exts;unfold XF at h6 h7 h8 fA Vp fB Ce Xa DZ SA;have tO:=Jkm;have a25:=Jkn;have v25:=Jsf;have f6:=Jsd;have f7:=J038;have mK:=methodKind;have mE:=methodElem;have mI:=methodImplements;have mA:=methodAssignableTo;have k27:=J039;have k25:=J03a;have vS:=J03b;have i25:=Jkl;have n8:=Jzi ⟨w.heap.size,0,none⟩ t ((w.alloc (.cells #[.pointer (some t)] 90)).alloc (.cells #[.pointer (some ⟨1,90,none⟩),.pointer (some ⟨w.heap.size,0,none⟩),.int .u64 150] 156)) (by simp);have Ac:0<w.heap.size:=by
  rcases Nat.eq_zero_or_pos w.heap.size with h0|h
  .simp[World.cell?,h0]at hg
  .exact h
 have Bl:((w.alloc (.cells #[.pointer (some t)] 90)).alloc (.cells #[.pointer (some ⟨1,90,none⟩),.pointer (some ⟨w.heap.size,0,none⟩),.int .u64 150] 156)).cell? ⟨0,0,none⟩=some (.iface 226 (.agg #[.pointer (some ⟨1,33,none⟩)])):=by rw[World.cell?_alloc_lt _ _ ⟨0,0,none⟩ (by simp),World.cell?_alloc_lt _ _ ⟨0,0,none⟩ Ac];exact hg
 have kW:t.block<w.heap.size:=by
  rcases BF t.block w.heap.size with h|h
  .exact h
  .simp[World.cell?,Cc h]at Bf
 have el:=Jzj ⟨w.heap.size,0,none⟩ t (((w.alloc (.cells #[.pointer (some t)] 90)).alloc (.cells #[.pointer (some ⟨1,90,none⟩),.pointer (some ⟨w.heap.size,0,none⟩),.int .u64 150] 156)).alloc (.cells #[.pointer (some ⟨1,90,none⟩),.pointer (some ⟨w.heap.size,0,none⟩),.int .u64 150] 156)) (by rw[World.cell?_alloc_lt _ _ ⟨w.heap.size,0,none⟩ (by simp;omega)];simp);have st:=J05z t ⟨w.heap.size+1+1+1,0,none⟩ n old ((((w.alloc (.cells #[.pointer (some t)] 90)).alloc (.cells #[.pointer (some ⟨1,90,none⟩),.pointer (some ⟨w.heap.size,0,none⟩),.int .u64 150] 156)).alloc (.cells #[.pointer (some ⟨1,90,none⟩),.pointer (some ⟨w.heap.size,0,none⟩),.int .u64 150] 156)).alloc (.cells #[(.int .i64 n)] 39))
  (by rw[World.cell?_alloc_at _ _ _ _ (by simp)];rfl)
  (by rw[World.cell?_alloc_lt _ _ t (by simp;omega),World.cell?_alloc_lt _ _ t (by simp;omega),World.cell?_alloc_lt _ _ t (by simp;omega),World.cell?_alloc_lt _ _ t kW];exact Bf)
  (by rw[World.frozen?_alloc_old _ _ t (by simp;omega),World.frozen?_alloc_old _ _ t (by simp;omega),World.frozen?_alloc_old _ _ t (by simp;omega),World.frozen?_alloc_old _ _ t (Nat.ne_of_lt kW)];exact hf0)
 go_enter func30,ntmps30
 go_wp2;refine wp_loop_rounds 1 ?_;rw[rounds_succ];go_wp2;go_ret;exact⟨rfl,rfl⟩
def J060(n:Int)(t:Addr)(w:JE)(hg:w.cell? ⟨0,0,none⟩=some (.iface 226 (.agg #[.pointer (some ⟨1,33,none⟩)]))) :
  Calls prog 30 #[.iface 39 (.int .i64 n),.iface 87 (.pointer (some t))] w λev w'=>ev=.returned (.bool false)/\w'=(((w.alloc (.cells #[.pointer (some t)] 87)).alloc (.cells #[.pointer (some ⟨1,87,none⟩),.pointer (some ⟨w.heap.size,0,none⟩),.int .u64 150] 156)).alloc (.cells #[.pointer (some ⟨1,87,none⟩),.pointer (some ⟨w.heap.size,0,none⟩),.int .u64 150] 156)):=by
 obtain⟨h6,h7,h8,fA,Vp,fB,Ce,Xa,DZ,SA⟩:=exts;unfold XF at h6 h7 h8 fA Vp fB Ce Xa DZ SA;have tO:=Jkm;have a25:=Jko;have y1:=Jsg;have y2:=Jsh;have y3:=Jsi;have f6:=Jhc;have f7:=Js7;have mK:=methodKind;have mE:=methodElem;have mI:=methodImplements;have mA:=methodAssignableTo;have k27:=Js8;have k25:=Js9;have vS:=Jsb;have i25:=Jaw;have n8:=Jm9 ⟨w.heap.size,0,none⟩ t ((w.alloc (.cells #[.pointer (some t)] 87)).alloc (.cells #[.pointer (some ⟨1,87,none⟩),.pointer (some ⟨w.heap.size,0,none⟩),.int .u64 150] 156)) (by simp);have Ac:0<w.heap.size:=by
  rcases Nat.eq_zero_or_pos w.heap.size with h0|h
  .simp[World.cell?,h0]at hg
  .exact h
 have Bl:((w.alloc (.cells #[.pointer (some t)] 87)).alloc (.cells #[.pointer (some ⟨1,87,none⟩),.pointer (some ⟨w.heap.size,0,none⟩),.int .u64 150] 156)).cell? ⟨0,0,none⟩=some (.iface 226 (.agg #[.pointer (some ⟨1,33,none⟩)])):=by rw[World.cell?_alloc_lt _ _ ⟨0,0,none⟩ (by simp),World.cell?_alloc_lt _ _ ⟨0,0,none⟩ Ac];exact hg
 go_enter func30,ntmps30
 go_wp2;refine wp_loop_rounds 1 ?_;rw[rounds_succ];go_wp2;go_ret;exact⟨rfl,rfl⟩
end Go.Sim.Z
namespace Go.Sim.Z
open Go Go.Proofs Go.RowKit
abbrev pz(b:Nat):JJ:=.pointer (some ⟨b,0,none⟩)
noncomputable def b16:Code:=f16.body.getD .skip
def J03d:f16.body=some b16:=by kernel_rfl
def T16(v:JJ):JC:=#[v]++Array.replicate 26 JA
def J03e(v:JJ):T16 v=#[v,JA,JA,JA,JA,JA,JA,JA,JA,JA,JA,JA,JA,JA,JA,JA,JA,JA,JA,JA,JA,JA,JA,JA,JA,JA,JA]:=by kernel_rfl
section
variable{w:JE}{g:Nat}{n at_:Int}{ds:List Deferred}{Q:Exit->Act->JE->Prop}{R1:JE->Prop}{R2:JE->JE->Prop}
def Jgi(h1:Calls prog 30 #[.iface 39 (.int .i64 n),.iface 87 (pz w.heap.size)] (w.alloc (.cells #[.pointer none] 85)) λev w'=>ev=.returned (.bool false)/\R1 w')
  (h2:∀w2,R1 w2->Calls prog 30 #[.iface 39 (.int .i64 n),.iface 90 (pz w2.heap.size)] (w2.alloc (.cells #[.int .i64 0] 39)) λev w'=>ev=.returned (.bool true)/\w'.cell? ⟨w2.heap.size,0,none⟩=some (.int .i64 n)/\R2 w2 w')
  (hQ:∀T':JC,T'.size=27->T'[2]?=some (.int .i64 n)->T'[3]?=some (.int .i64 (-1))->∀w2 w3,R1 w2->R2 w2 w3->Q .ret ⟨T',ds⟩ w3):b16.wp prog Q ⟨#[.iface 39 (.int .i64 n),JA,JA,JA,JA,JA,JA,JA,JA,JA,JA,JA,JA,JA,JA,JA,JA,JA,JA,JA,JA,JA,JA,JA,JA,JA,JA],ds⟩ w:=by
 simp only[b16,f16,A8]
 go_wp2_with fail
 refine h1.mono ?_;rintro e w2 ⟨rfl,r1⟩
 go_wp2_with fail
 refine(h2 w2 r1).mono ?_;rintro e w3 ⟨rfl,c3,r2⟩;go_wp2;exact hQ _ rfl rfl rfl _ _ r1 r2
end
end Go.Sim.Z
namespace Go.Sim.Z
open Go Go.Proofs Go.RowKit Go.Maps
def Sz(w:JE):Prop:=w.cell? ⟨0,0,none⟩=some (.iface 226 (.agg #[.pointer (some ⟨1,33,none⟩)]))
def Sz.lt{w:JE}(h:Sz w):0<w.heap.size:=by
 rcases Nat.eq_zero_or_pos w.heap.size with h0|h1
 .simp[Sz,World.cell?,h0]at h
 .exact h1
def Sz.tch{N:Nat}{M:JB}{w w':JE}(h:Sz w)(t:Tch N M w w')(h0:0<N)(hm:¬M 0):Sz w':=(t.cell (a:=⟨0,0,none⟩) h0 hm).trans h
section
variable{w:JE}{b g:Nat}{old:JJ}{n at_:Int}
def Jp7(w:JE)(arr:JC)(ty:JH):(w.alloc (.cells arr ty)).frozen? ⟨w.heap.size,0,none⟩=false:=by unfold World.frozen?;rw[Ja];rfl
def J03f(hg:Sz w):Calls prog 30 #[.iface 39 (.int .i64 n),.iface 87 (pt b 0)] w λev w'=>ev=.returned (.bool false)/\Tch w.heap.size M0 w w':=
 (J060 n ⟨b,0,none⟩ w hg).mono λe w' h=>by obtain⟨rfl,rfl⟩:=h;exact⟨rfl,((Tch.refl.alloc (Ad _) _).alloc (by rw[size_alloc];omega) _).alloc (by rw[size_alloc,size_alloc];omega) _⟩
def Jw7{w:JE}{a:Addr}{v:JJ}{old:JJ}(h:w.cell? a=some old):(w.setCell a v).cell? a=some v:=by exact World.cell?_setCell_same' _ _ _ (by rw[h];rfl)
def Jzo{v:JJ}{pt el:JH}{c:JJ}{z1:JH}(hb:b<w.heap.size)(Bf:w.cell? ⟨b,0,none⟩=some old)(h:Calls prog 30 #[.iface el v,.iface pt c] w λev w'=>ev=.returned (.bool true)/\∃o1 o2 o3 o4,w'=((((w.alloc o1).alloc o2).alloc o3).alloc o4).setCell ⟨b,0,none⟩ v) :
  Calls prog 30 #[.iface el v,.iface pt c] w λev w'=>ev=.returned (.bool true)/\w'.cell? ⟨b,0,none⟩=some v/\Tch w.heap.size (λx=>x=b) w w':=
 h.mono λe w' h=>by obtain⟨rfl,o1,o2,o3,o4,rfl⟩:=h;have t4:Tch w.heap.size (λx=>x=b) w ((((w.alloc o1).alloc o2).alloc o3).alloc o4):=(((Tch.refl.alloc (Ad _) _).alloc (by rw[size_alloc];omega) _).alloc (by rw[size_alloc,size_alloc];omega) _).alloc (by rw[size_alloc,size_alloc,size_alloc];omega) _;refine⟨rfl,Jw7 (old:=old) ?_,t4.set (.inr rfl) _⟩;rw[World.cell?_alloc_lt _ _ ⟨b,0,none⟩ (by simp only[size_alloc];show b<_;omega),World.cell?_alloc_lt _ _ ⟨b,0,none⟩ (by simp only[size_alloc];show b<_;omega),World.cell?_alloc_lt _ _ ⟨b,0,none⟩ (by simp only[size_alloc];show b<_;omega),World.cell?_alloc_lt _ _ ⟨b,0,none⟩ (by show b<_;omega)];exact Bf
def Jsj(hg:Sz w)(hb:b<w.heap.size)(Bf:w.cell? ⟨b,0,none⟩=some old)(hf:w.frozen? ⟨b,0,none⟩=false) :
  Calls prog 30 #[.iface 39 (.int .i64 n),.iface 90 (pt b 0)] w λev w'=>ev=.returned (.bool true)/\w'.cell? ⟨b,0,none⟩=some (.int .i64 n)/\Tch w.heap.size (λx=>x=b) w w':=
 Jzo (z1:=0) hb Bf ((Jw6 n ⟨b,0,none⟩ old w hg Bf hf).mono λe w' h=>⟨h.1,_,_,_,_,h.2⟩)
end
section
variable{w:JE}{g:Nat}{n at_:Int}{ds:List Deferred}{Q:Exit->Act->JE->Prop}
def Jp8(hg:Sz w)(hQ:∀T':JC,T'.size=27->T'[2]?=some (.int .i64 n)->T'[3]?=some (.int .i64 (-1))->∀w',Tch w.heap.size M0 w w'->Q .ret ⟨T',ds⟩ w'):b16.wp prog Q ⟨T16 (.iface 39 (.int .i64 n)),ds⟩ w:=by have h0:=hg.lt;have t1:Tch w.heap.size M0 w (w.alloc (.cells #[.pointer none] 85)):=Tch.refl.alloc (Ad _) _;rw[J03e];refine Jgi (R1:=λw2=>Tch w.heap.size M0 w w2) (R2:=λw2 w3=>Tch w.heap.size M0 w w3) ((J03f (hg.tch t1 h0 λh=>h)).mono λe w2 h=>⟨h.1,t1.then h.2 t1.size λ_ _ h=>h⟩) (λw2 t12=>?_) λT' s1 s2 s3 w2 w3 _ t3=>hQ T' s1 s2 s3 w3 t3;have t3:Tch w.heap.size M0 w (w2.alloc (.cells #[.int .i64 0] 39)):=t12.alloc t12.size _;refine(Jsj (hg.tch t3 h0 λh=>h) (by rw[size_alloc];omega) (old:=.int .i64 0) ((cell_of (Ja _) 0).trans rfl) (Jp7 _ _ _)).mono ?_;rintro e w3 ⟨rfl,c3,t4⟩;exact⟨rfl,c3,t3.then (t4.mono (M':=λx=>x=w2.heap.size) (Ad _) λ_ _ h=>h) t3.size λb hb h=>by have:=t12.size;omega⟩
end
end Go.Sim.Z
namespace Go.Sim
open Go Go.Conc
section
variable{P:Program}{Post:(JB)->JF->JE->Prop}{W:JB}{g:JF}{w:JE}
def Reach.Jw8{own X V:JB}{Stop:Sit->Prop}(hR:Runs false P true Stop ⟨own,X,g,w⟩)(hr:g.status=.running)(hd:∀b,W b->¬X b)(jP:∀b,W b->¬own b)(hV:∀b,V b->b<w.heap.size/\¬own b)(hX:∀b,X b->b<w.heap.size)
  (k:∀y,Stop y->(∀b,W b->¬y.X b)->(∀b,V b->y.w.heap[b]?=w.heap[b]?)->w.heap.size<=y.w.heap.size->Reach P Post W y.g y.w):Reach P Post W g w:=by
 intro gs sl t q W0 hs hl h0 hC;obtain⟨N,BG,y',sl',t',q',h1,_,h3,h4,h5,h6,h7,h8,h9,Ce⟩:=Jaf (W:=λb=>W b\/V b) (Z:=W) hR (sl:=sl) h0 hr hC (atRel_refl w) (λb hb=>by obtain⟨a1,a2,a3,a4⟩:=hs b hb;exact hd b a1) (λb hb=>hb.elim (λhb=>⟨hl b hb,jP b hb⟩) (hV b)) (λb hb=>⟨hl b hb,hd b hb⟩) hX;have h9':Kept W W w y'.w:=⟨λ_ h=>h,λb hb=>h9.keep b (.inl hb),h9.os,h9.out⟩;obtain⟨N2,Nb,w2,Pj,t2,q2,W2,W3,g2,BM,WY,QD,Xg,hK,Bo,Eu⟩:=k y' h4 h7 (λb hb=>h9.keep b (.inr hb)) Ce BG sl' t' q' W0 (hs.kept h9') (λb hb=>DX (hl b hb) Ce) h3 h5;exact⟨N+N2,Nb,w2,Pj,t2,q2,W2,W3,g2,ZT h1 BM,WY,QD,Xg,h9'.trans hK,Bo,Eu⟩
end
section
variable{C:Cx}{S:Kn}{W E:JB}{w:JE}
def Reach.J03g(A:FM C S)(Ae:C.st=false){Post:(JB)->JF->JE->Prop}{b:Frame}{c:Code}{t:JC}{ds:List Deferred}{k:List Item}{cs:List Frame}{Q:JC->JE->Prop}{V:JB}
  (hc:Ji C S b.fn c=true) (hb:GY C b.fn) (Nk:S.df.contains b.fn=false) (hl:C.hl b.fn≠[]) (hk:b.kind≠.early)
  (hB:BOk C S W E w) (hV:∀b,V b->b<w.heap.size/\¬E b) (ht:TmR C S b.fn (idE E) t t)
  (K:∀τ,c.wp C.P (λe a w1=>e=.ret/\(∀i,(C.hl b.fn).contains i=true->a.tmps[i]?=t[i]?)/\Q a.tmps w1) ⟨t,[Jq]⟩ (w.tp τ 0))
  (kr:∀(E':JB)(t':JC)(w1 w':JE)(todo:List Item),(∀b,E b->E' b)->BOk C S W E' w'->WR C (okP C S) (idE E') w1 w'->TmR C S b.fn (idE E') t' t'->(∀b,V b->w'.heap[b]?=w.heap[b]?)->w.heap.size<=w'.heap.size->Q t' w1->Reach C.P Post W (G { b.at ⟨t',ds⟩ todo with mode:=.returning } cs) w') :
  Reach C.P Post W (G (b.at ⟨t,ds⟩ (.code c::k)) cs) w:=by
 have Cj:∀b,¬C.Sh b:=C.lax Ae;have hR:=nG A (main:=true) (b:=b) (c:=c) (ds:=ds) (k:=k) (cs:=cs) (Q:=λe a w1=>e=.ret/\(∀i,(C.hl b.fn).contains i=true->a.tmps[i]?=t[i]?)/\Q a.tmps w1) hc hb Nk hl hk hB.link ht K (λe a w h=>.inr h.1);rw[Ae]at hR;refine Reach.Jw8 (V:=V) hR rfl hB.dis hB.dis hV (λb hb=>hB.lt hb) ?_;rintro⟨own,X,g,wy⟩ ⟨E1,a,w1,t',hs,hL,CB,LC,hq⟩ hd hVk Ag;simp only at hL hd hq hVk Ag
 let E':JB:=λb=>E1 b b
 have e1:∀b b',E1 b b'->b=b':=hL.wr.lid Ae;have hE:∀b,E b->E' b:=λb hb=>hs b b ⟨rfl,hb⟩;have s2:rng E1=E':=by funext b;simp only[rng,E',eq_iff_iff];exact⟨λ⟨a,h⟩=>by obtain rfl:=e1 a b h;exact h,λh=>⟨b,h⟩⟩
 have s3:E1=idE E':=by funext b b';simp only[idE,E',eq_iff_iff];exact⟨λh=>by obtain rfl:=e1 b b' h;exact⟨rfl,h⟩,λ⟨h,h'⟩=>by subst h;exact h'⟩
 have Qh:WR C (okP C S) (idE E') wy wy:=by
  have:=hL.wr.right (Md.refl C) (ok':=okP C S) Cj Ae (λ_=>⟨rfl,rfl⟩)
  rwa [s2]at this
 have Gq:BOk C S W E' wy:=⟨Qh,hE _ hB.hnd,λg hg=>hE _ (hB.gl g hg),λb hb he=>hd b hb (hL.rng b b he).1⟩;have BQ:WR C (okP C S) (idE E') w1 wy:=by rw[<- s3];exact hL.wr
 rcases hq with⟨⟨h1,_,_⟩,_⟩|⟨⟨_,hh,hq⟩,todo,rfl⟩
 .cases h1
 .have:=CB.eq_of e1 LC hh;subst this;exact kr E' _ w1 wy todo hE Gq BQ (by rw[<- s3];exact CB) hVk Ag hq
end
end Go.Sim
namespace Go.Sim.Z
open Go Go.Proofs Go.RowKit Go.Conc Go.Maps
def results_tmp2{fn:Func}{t u:Tmp}(h:fn.results=#[.tmp t,.tmp u])(tmps:JC)(P:Program)(w:JE) :
  (results fn tmps).run P w=.ok (.tuple #[tmps.getD t JA,tmps.getD u JA]) w:=by
 simp[results,h]
section
variable{W E:JB}{w:JE}{B b₀:Frame}{a a₀:Act}{k:List Item}{cs:List Frame}{Post:(JB)->JF->JE->Prop}
def Reach.J03h{P:Program}{fn:Func}{todo:List Item}{ops:Array Oper}{i:Nat}{rest:List Nat}{x y:Tmp}(hn:B.kind=.normal)(hd:a.defers=[])(hf:P.funcs[B.fn]?=some fn)(hr:fn.results=#[.tmp x,.tmp y])
  (kn:∀d,Reach P Post W (G (b₀.at (a₀.put ((ops[i]?).bind (·.dst)) (.tuple #[a.tmps.getD x JA,a.tmps.getD y JA])) (.inRegion ops rest::k)) cs) (w.at d)) :
  Reach P Post W (G { B.at a todo with mode:=.returning } (b₀.at a₀ (.inRegion ops (i::rest)::k)::cs)) w:=by
 refine J6 (λw1=>?_) rfl kn;rw[Jam hn hd hf (results_tmp2 hr _ P w1),Frame.finish_at,events_results_tmp2 hr,seen_none]
inductive Jmb(w:JE):JJ->Int->Int->Prop
 |errno(n:Int):Jmb w (.iface 39 (.int .i64 n)) n (-1)
def EB(_:JJ)(b:Nat):Prop:=b=1\/b=0
def Wv:prog.globals.size=1:=by kernel_rfl
def Jp9(b:Nat)(hb:b=1)(v:JJ)(t:Nat):VR C2 (idE (EB v)) (.pointer (some ⟨b,t,none⟩)) (.pointer (some ⟨b,t,none⟩)):=.ptr t none ⟨rfl,.inl hb⟩
def Jw9{C:Cx}{E:J5}{arr:JC}(h:∀x∈arr.toList,∃k n,x=.int k n):AR C E arr arr:=⟨rfl,λi x x' hx Af=>by rw[hx]at Af;cases Af;obtain⟨k,n,rfl⟩:=h x (Array.mem_toList_iff.2 (Ho hx));exact .int k n⟩
structure bQ(w:JE)(v:JJ)(n at_:Int):Prop where
 tells:Jmb w v n at_
 err:∃t,w.heap[0]?=some (.cells #[.iface 226 (.agg #[.pointer (some ⟨1,33,none⟩)])] t (0,0))
 hok:∃arr t,w.heap[1]?=some (.cells arr t (0,0))/\∀x∈arr.toList,∃k n,x=.int k n
def bQ.bok{v:JJ}{n at_:Int}(h:bQ w v n at_)(hW:∀b,EB v b->¬W b):BOk C2 S2 W (EB v) w:=by
 obtain⟨ht,⟨t0,h0⟩,arr,t1,h1,hp⟩:=h;have obj:∀b o,EB v b->w.heap[b]?=some o->Kv C2 (okP C2 S2) (idE (EB v)) b o o:=by
  intro b o hb ho;rcases hb with rfl|rfl
  .rw[h1]at ho;cases ho;exact⟨_,_,rfl,Jw9 hp,λh=>h.elim,λ_=>⟨rfl,λe=>rfl⟩⟩
  .rw[h0]at ho;cases ho;refine⟨_,_,rfl,AR.one (.iface 226 (all2 226) (.agg rfl λi x x' hx Af=>?_)),λh=>h.elim,λ_=>⟨rfl,λe=>rfl⟩⟩;rw[hx]at Af;cases Af
   match i,hx with
   |0,hx=>cases hx;exact Jp9 1 rfl v 33
   |i+1,hx=>simp at hx
 have lt:∀b,EB v b->b<w.heap.size:=by
  intro b hb;rcases hb with rfl|rfl
  .exact bJ h1
  .exact bJ h0
 refine⟨⟨rfl,λb b' ⟨e,hb⟩=>?_,λb c c' k k'=>k.1.symm.trans k'.1,λb c b2 k k'=>k.1.trans k'.1.symm,λb k=>k.elim,λb b' o o' ⟨e,hb⟩ x x'=>?_,λ_ b b' k=>k.1,λ_=>rfl,λe=>by cases e⟩,?_,λg hg=>?_,λb hb he=>hW b he hb⟩
 .subst e;exact⟨lt b hb,lt b hb⟩
 .subst e;rw[x]at x';cases x';exact obj b o hb x
 .show EB v prog.globals.size;rw[Wv];exact .inl rfl
 .have:g=0:=by simpa[S2]using hg
  subst this;exact .inr rfl
def J061(v:JJ):(T16 v)[0]?=some v:=by simp[T16]
def J062{v y:JJ}{j:Nat}(h:(T16 v)[j+1]?=some y):y=JA:=by
 unfold T16 at h;rw[Array.getElem?_append_right (by simp),Array.getElem?_replicate]at h;split at h
 .exact(Aa h).symm
 .cases h
def Jwa(v:JJ):(T16 v).size=27:=by simp[T16]
def WR.Jwb{C:Cx}{ok:JG->Code->Prop}{X:JB}{w1 w':JE}(h:WR C ok (idE X) w1 w')(Ae:C.st=false){b:Nat}(hb:X b){arr:JC}{t:JH}{fz:Nat × Nat}(ho:w1.heap[b]?=some (.cells arr t fz)):w'.heap[b]?=some (.cells arr t fz):=by
 have Ac:=(h.dom b b ⟨rfl,hb⟩).2;obtain⟨c',FU,e1,e2,e3,e4⟩:=h.obj b b _ _ ⟨rfl,hb⟩ ho (Bz Ac);rw[Bz Ac,e1,(e4 (C.lax Ae b)).1];have:arr=c':=by
  apply Ll;intro i;by_cases hi:i<arr.size
  .have h1:arr[i]?=some arr[i]:=Bz hi;have h2:c'[i]?=some (c'[i]'(e2.size▸hi)):=Bz _;rw[h1,h2,(e2.at_ i _ _ h1 h2).eq (λa b h=>h.1)]
  .rw[Cc (by omega),Cc (by have:=e2.size;omega)]
 rw[this]
def Jzp{v:JJ}{n at_:Int}{w:JE}{ds:List Deferred}{Q:Exit->Act->JE->Prop}(h:bQ w v n at_)(hQ:∀T':JC,T'.size=27->T'[2]?=some (.int .i64 n)->T'[3]?=some (.int .i64 at_)->∀w',Tch w.heap.size M0 w w'->Q .ret ⟨T',ds⟩ w'):b16.wp prog Q ⟨T16 v,ds⟩ w:=by
 obtain⟨ht,⟨t0,h0⟩,_⟩:=h;have hg:Sz w:=(cell_of h0 0).trans rfl;cases ht with
 |errno n=>exact Jp8 hg hQ
def J03i{v:JJ}(hB:BOk C0 S0 W E w):∀b,EB v b->E b:=by
 rintro b (rfl|rfl)
 .have:=hB.hnd
  rwa [show C0.P.globals.size=1 from Wv]at this
 .exact hB.gl 0 rfl
def Jwc{C:Cx}{S:Kn}{w':JE}(h:BOk C S W E w)(Ae:C.st=false)(hk:∀b,E b->w'.heap[b]?=w.heap[b]?):BOk C S W E w':=by
 have lt:∀b,E b->b<w'.heap.size:=λb hb=>by have h1:=hk b hb;rw[Bz (h.lt hb)]at h1;exact bJ h1
 refine⟨⟨rfl,λb b' ⟨e,k⟩=>(by subst e;exact⟨lt b k,lt b k⟩),h.wr.fn,h.wr.inj,λb k=>(C.lax Ae b k).elim,λb b' o o' k x x'=>?_,h.wr.lid,λ_=>rfl,λe=>by rw[Ae]at e;cases e⟩,h.hnd,h.gl,h.dis⟩;obtain⟨rfl,hb⟩:=k;rw[hk b hb]at x x';exact h.wr.obj b b o o' ⟨rfl,hb⟩ x x'
def Jpa{v:JJ}{n at_:Int}{ops:Array Oper}{i:Nat}{rest:List Nat}{o:Oper}{x:Tmp}{NU:Array JH}(hB:BOk C0 S0 W E w)(hT:bQ w v n at_)
  (ho:ops[i]?=some o) (hw:Region.wanted o (yielded ops a₀.tmps)=true) (hk:b₀.kind≠.early) (Ar:o.op=.call { callee:=.value (.func 16),args:=#[.tmp x],argTypes:=NU }) (hx:a₀.tmps.getD x JA=v)
  (kn:∀w',BOk C0 S0 W E w'->(∀b,E b\/W b->w'.heap[b]?=w.heap[b]?)->w.heap.size<=w'.heap.size->Reach prog Post W (G (b₀.at (a₀.put o.dst (.tuple #[.int .i64 n,.int .i64 at_])) (.inRegion ops rest::k)) cs) w') :
  Reach prog Post W (G (b₀.at a₀ (.inRegion ops (i::rest)::k)) cs) w:=by
 have hE:=J03i (v:=v) hB;refine Reach.mid (Mid:=λg' w'=>g'=G (b₀.at (a₀.put o.dst (.tuple #[.int .i64 n,.int .i64 at_])) (.inRegion ops rest::k)) cs/\BOk C0 S0 W E w'/\(∀b,E b->w'.heap[b]?=w.heap[b]?)/\w.heap.size<=w'.heap.size) ?_ λg' w' ⟨e,h1,h2,h3⟩ hK=>by subst e;exact kn w' h1 (λb hb=>hb.elim (h2 b) (hK b)) h3
 refine Reach.call ho hw hk Ar (show prog.funcs[16]?=some f16 by kernel_rfl) (by kernel_rfl) J03d λd=>?_;have LH:f16.ntmps=27:=by kernel_rfl
 have CB:(#[Operand.tmp x]:Array Operand).map a₀.eval++Array.replicate (f16.ntmps-((#[Operand.tmp x]:Array Operand).map a₀.eval).size) JA=T16 v:=by
  have hm:(#[Operand.tmp x]:Array Operand).map a₀.eval=#[v]:=by simp[Act.eval,<- hx]
  have hz:(27-(#[v]:JC).size)=26:=by simp
  rw[LH,hm,hz];unfold T16;rfl
 rw[CB];have hT':bQ (w.at d) v n at_:=by
  obtain⟨ht,h0,h1⟩:=hT;exact⟨by cases ht with
    |errno n=>exact .errno n,h0,h1⟩
 have Dt:BOk C2 S2 W (EB v) (w.at d):=hT'.bok λb hb hw=>hB.dis b hw (hE b hb);have ht16:TmR C2 S2 16 (idE (EB v)) (T16 v) (T16 v):=by
  have Iw:VR C2 (idE (EB v)) v v:=by
   obtain⟨ht,_⟩:=hT;cases ht with
   |errno n=>exact .iface 39 (all2 39) (.int _ _)
  have z0:=J061 v;have zs:=λj y=>J062 (v:=v) (y:=y) (j:=j);generalize T16 v=T0 at z0 zs ⊢;refine⟨rfl,λj y y' hj h1 h2=>?_,λj y hj _=>by cases hj⟩;rw[h1]at h2;cases h2
  match j with
  |0=>
   rw[z0]at h1;obtain rfl:=Aa h1;exact Iw
  |j+1=>
   obtain rfl:=zs _ _ h1;exact .undef
 refine Reach.J03g (b:=base 16) (V:=λb=>E b/\¬EB v b) (Q:=λT' w1=>T'.size=27/\T'[2]?=some (.int .i64 n)/\T'[3]?=some (.int .i64 at_)/\∀b,b<w.heap.size->w1.heap[b]?=w.heap[b]?) J036 rfl ok16 ⟨f16,by kernel_rfl,by kernel_rfl,by kernel_rfl⟩ rfl (by show[1000]≠[];simp) (by simp[base]) Dt (λb hb=>⟨hB.lt hb.1,hb.2⟩) ht16 (λτ=>?_) λE' T' w1 w' todo hE' Gq BQ yE hV Ag ⟨s1,s2,s3,t1⟩=>?_
 .refine Jzp (h:=?_) λT' s1 s2 s3 w' t1=>⟨rfl,λi hi=>?_,s1,s2,s3,λb hb=>t1.heap b hb λh=>h⟩
  .obtain⟨ht,h0,h1⟩:=hT;exact⟨by cases ht with
    |errno n=>exact .errno n,h0,h1⟩
  .have:i=1000:=by have:(C2.hl 16).contains i=true:=hi;simpa[C2]using this
   subst this;rw[Cc (by rw[s1];omega),Cc (by rw[Jwa];omega)]
 .have same:∀b,EB v b->w'.heap[b]?=w.heap[b]?:=by
   have go:∀b arr t,EB v b->w.heap[b]?=some (.cells arr t (0,0))->w'.heap[b]?=some (.cells arr t (0,0)):=λb arr t hb hc=>
    WR.Jwb BQ rfl (hE' b hb) ((t1 b (bJ hc)).trans hc)
   intro b hb;obtain⟨ht,⟨t0,h0⟩,arr,t2,h1,_⟩:=hT;rcases hb with rfl|rfl
   .rw[h1];exact go 1 _ _ (.inl rfl) h1
   .rw[h0];exact go 0 _ _ (.inr rfl) h0
  have keep:∀b,E b->w'.heap[b]?=w.heap[b]?:=λb hb=>by
   by_cases h:EB v b
   .exact same b h
   .exact hV b ⟨hb,h⟩
  refine Reach.J03h (B:=base 16) (a:=⟨T',[]⟩) rfl rfl (show prog.funcs[16]?=some f16 by kernel_rfl) (show f16.results=#[.tmp 2,.tmp 3] by kernel_rfl) λd2=>Reach.here ⟨rfl,?_,((Jwc hB rfl keep).at d2),keep,Ag⟩;have g2:T'.getD 2 JA=.int .i64 n:=by rw[Bq,s2];rfl
  have g3:T'.getD 3 JA=.int .i64 at_:=by rw[Bq,s3];rfl
  show G (b₀.at (a₀.put ((ops[i]?).bind (·.dst)) (.tuple #[T'.getD 2 JA,T'.getD 3 JA])) (.inRegion ops rest::k)) cs=_;rw[g2,g3,ho];rfl
end
section
variable{fn:JG}{W E0 E:JB}{w0 w:JE}{T:JC}{ops:Array Oper}{i sR sT sA sB sX sY:Nat}{v u:JJ}{k:List Item}{cs:List Frame}{Post:(JB)->JF->JE->Prop}
def Jzq(h:HS fn W E0 w0 E T w)(hT:T[sR]?=some (.tuple #[v,u]))(hv:VR C0 (idE E) v v)(hu:VR C0 (idE E) u u)(hd:sT<T.size/\sA<T.size/\sB<T.size/\sX<T.size/\sY<T.size)(hn:sA≠sT/\sB≠sA/\sX≠sB/\sY≠sX)
  (p0:∃o,ops[i]?=some o/\o.op=.move (.tmp sR)/\o.guard=none/\o.dst=some sT) (p1:∃o,ops[i+1]?=some o/\o.op=.extract (.tmp sT) 0/\o.guard=none/\o.dst=some sA) (p2:∃o,ops[i+2]?=some o/\o.op=.extract (.tmp sT) 1/\o.guard=none/\o.dst=some sB) (p3:∃o,ops[i+3]?=some o/\o.op=.assign (.tmp sA)/\o.guard=none/\o.dst=some sX) (p4:∃o,ops[i+4]?=some o/\o.op=.assign (.tmp sB)/\o.guard=none/\o.dst=some sY)
  (kn:∀T' w',HS fn W E0 w0 E T' w'->T'.size=T.size->T'[sX]?=some v->T'[sY]?=some u->(∀j,j≠sT->j≠sA->j≠sB->j≠sX->j≠sY->T'[j]?=T[j]?)->w'.heap=w.heap->Reach prog Post W (G ((base fn).at ⟨T',[]⟩ (.inRegion ops []::k)) cs) w') :
  Reach prog Post W (G ((base fn).at ⟨T,[]⟩ (.inRegion ops [i,i+1,i+2,i+3,i+4]::k)) cs) w:=by
 obtain⟨o0,h0,a0,g0,d0⟩:=p0;obtain⟨o1,h1,a1,g1,d1⟩:=p1;obtain⟨o2,h2,a2,g2,d2⟩:=p2;obtain⟨o3,h3,a3,g3,d3⟩:=p3;obtain⟨o4,h4,a4,g4,d4⟩:=p4;have vt:VR C0 (idE E) (.tuple #[v,u]) (.tuple #[v,u]):=.tuple rfl λi x x' h1 h2=>by
  rw[h1]at h2;cases h2
  match i with
  |0=>cases h1;exact hv
  |1=>cases h1;exact hu
  |i+2=>simp at h1
 obtain⟨n1,n2,n3,n4⟩:=hn;obtain⟨z1,z2,z3,z4,z5⟩:=hd;have t1:(T.setIfInBounds sT (.tuple #[v,u]))[sT]?=some (.tuple #[v,u]):=FC z1;have t2:((T.setIfInBounds sT (.tuple #[v,u])).setIfInBounds sA v)[sT]?=some (.tuple #[v,u]):=(AV n1).trans t1;have t3:(((T.setIfInBounds sT (.tuple #[v,u])).setIfInBounds sA v).setIfInBounds sB u)[sA]?=some v:=(AV n2).trans (FC (by simpa using z2));have t4:((((T.setIfInBounds sT (.tuple #[v,u])).setIfInBounds sA v).setIfInBounds sB u).setIfInBounds sX v)[sB]?=some u:=(AV n3).trans (FC (by simpa using z3));refine Jb (v:=.tuple #[v,u]) h h0 (by simp[Region.wanted,g0]) d0 (λw1=>by simp[execOp,a0,Act.eval,Bq,hT]) (λw1=>by simp[execOp,a0,Act.eval]) (.inr vt) λw1 H1 q1=>?_;refine Jb (v:=v) H1 h1 (by simp[Region.wanted,g1]) d1 (λw1=>by simp[execOp,a1,Act.eval,Bq,t1,go_sem]) (λw1=>by simp[execOp,a1,Act.eval,Bq,z1,go_sem]) (.inr hv) λw2 H2 q2=>?_;refine Jb (v:=u) H2 h2 (by simp[Region.wanted,g2]) d2 (λw1=>by simp[execOp,a2,Act.eval,Bq,t2,go_sem]) (λw1=>by simp[execOp,a2,Act.eval,Bq,t2,go_sem]) (.inr hu) λw3 H3 q3=>?_;refine Jb (v:=v) H3 h3 (by simp[Region.wanted,g3]) d3 (λw1=>by simp[execOp,a3,Act.eval,Bq,t3]) (λw1=>by simp[execOp,a3,Act.eval]) (.inr hv) λw4 H4 q4=>?_;refine Jb (v:=u) H4 h4 (by simp[Region.wanted,g4]) d4 (λw1=>by simp[execOp,a4,Act.eval,Bq,t4]) (λw1=>by simp[execOp,a4,Act.eval]) (.inr hu) λw5 H5 q5=>?_;refine kn _ w5 H5 (by simp) ((AV n4).trans (FC (by simpa using z4))) (FC (by simpa using z5)) (λj m1 m2 m3 m4 m5=>?_) (by rw[q5,q4,q3,q2,q1]);rw[AV (Ne.symm m5),AV (Ne.symm m4),AV (Ne.symm m3),AV (Ne.symm m2),AV (Ne.symm m1)]
end
noncomputable def y6:Code:=fC NQ
noncomputable def LZ:Array Oper:=opsOf (fC (sC NQ))
noncomputable def y8:Code:=sC (sC NQ)
def Jzr:NQ=.seq y6 (.seq (.region 7 LZ false) y8):=by kernel_rfl
def J03j:Ji C0 S0 5 y6=true:=by kernel_rfl
def J03k:Ji C0 S0 5 y8=true:=by kernel_rfl
def J03l:∃o,LZ[0]?=some o/\o.op=.move (.tmp 10)/\o.guard=none/\o.dst=some 41:=by simp only[LZ,opsOf,NQ,cY,bM,fC,sC,f5,A8];exact⟨_,rfl,rfl,rfl,rfl⟩
def J03m:∃o t,LZ[1]?=some o/\o.op=.call { callee:=.value (.func 16),args:=#[.tmp 41],argTypes:=t }/\o.guard=none/\o.dst=some 42:=by simp only[LZ,opsOf,NQ,cY,bM,fC,sC,f5,A8];exact⟨_,_,rfl,rfl,rfl,rfl⟩
def J03n:∃o,LZ[2]?=some o/\o.op=.move (.tmp 42)/\o.guard=none/\o.dst=some 40:=by simp only[LZ,opsOf,NQ,cY,bM,fC,sC,f5,A8];exact⟨_,rfl,rfl,rfl,rfl⟩
def J03o:∃o,LZ[3]?=some o/\o.op=.extract (.tmp 40) 0/\o.guard=none/\o.dst=some 43:=by simp only[LZ,opsOf,NQ,cY,bM,fC,sC,f5,A8];exact⟨_,rfl,rfl,rfl,rfl⟩
def J03p:∃o,LZ[4]?=some o/\o.op=.extract (.tmp 40) 1/\o.guard=none/\o.dst=some 44:=by simp only[LZ,opsOf,NQ,cY,bM,fC,sC,f5,A8];exact⟨_,rfl,rfl,rfl,rfl⟩
def J03q:∃o,LZ[5]?=some o/\o.op=.assign (.tmp 43)/\o.guard=none/\o.dst=some 11:=by simp only[LZ,opsOf,NQ,cY,bM,fC,sC,f5,A8];exact⟨_,rfl,rfl,rfl,rfl⟩
def J03r:∃o,LZ[6]?=some o/\o.op=.assign (.tmp 44)/\o.guard=none/\o.dst=some 12:=by simp only[LZ,opsOf,NQ,cY,bM,fC,sC,f5,A8];exact⟨_,rfl,rfl,rfl,rfl⟩
section
variable{w:JE}{T:JC}{ds:List Deferred}{Q:Exit->Act->JE->Prop}
def J063(Ag:T.size=126)
  (hQ:∀T':JC,T'.size=126->(∀i∈([1,24]:List Nat),T'[i]?=T[i]?)->T'[10]?=some (.iface 39 (.int .i64 9))->∀w',Tch w.heap.size M0 w w'->Q .normal ⟨T',ds⟩ w') :
  y6.wp prog Q ⟨T,ds⟩ w:=by
 have t1:Tch w.heap.size M0 w (w.alloc (.cells #[.int .i64 0,.int .i64 0] 3)):=Tch.refl.alloc (Ad _) _;have hq:=J034 (w:=w.alloc (.cells #[.int .i64 0,.int .i64 0] 3)) (g:=w.heap.size) ((cell_of (Ja _) 0).trans rfl) ((cell_of (Ja _) 1).trans rfl);obtain⟨f,rfl⟩:=Pv Ag;rw[FK]at *;have H:Hid (∀w',Tch (w.alloc (.cells #[.int .i64 0,.int .i64 0] 3)).heap.size M0 (w.alloc (.cells #[.int .i64 0,.int .i64 0] 3)) w'->Tch w.heap.size M0 w w'):=λw' t2=>t1.then t2 t1.size λ_ _ h=>h;clear t1;simp only[y6,NQ,cY,bM,fC,sC,f5,A8]
 go_wp2_with (go_at_call 15;refine hq.mono ?_;rintro e w1 ⟨rfl,t2⟩)
 exact hQ _ rfl (λi hi=>by simp only[AL,BU,or_false]at hi;rcases hi with rfl|rfl<;>rfl) rfl _ (H.out _ t2)
def J064(Ag:T.size=126)(DZ:T[11]?=some (.int .i64 9))
  (hQ:∀T':JC,T'.size=126->(∀i∈([1,24]:List Nat),T'[i]?=T[i]?)->T'[6]?=some (.bool true)->Q .ret ⟨T',ds⟩ w) :
  y8.wp prog Q ⟨T,ds⟩ w:=by
 obtain⟨f,rfl⟩:=Pv Ag;rw[FK]at *;have QA:f 11=_:=Aa DZ;rw[QA]at hQ ⊢;clear DZ QA;simp only[y8,NQ,cY,bM,fC,sC,f5,A8];go_wp2;exact hQ _ rfl (λi hi=>by simp only[AL,BU,or_false]at hi;rcases hi with rfl|rfl<;>rfl) rfl
end
def bW.at{w w':JE}{g:Nat}{B:Bun}(h:bW w g B)(hh:w'.heap=w.heap):bW w' g B:=by have hc:∀{a u},w.cell? a=some u->w'.cell? a=some u:=λh=>(Du (w:=w) (by rw[hh])).trans h;obtain⟨a1,l1,c1,m,a2,l2,c2,hb,hq,a4,l4,c4,q0,q1,q2,q3,q4,r⟩:=h.all;exact⟨a1,l1,c1,m,a2,l2,c2,hb,hq,a4,l4,c4,hc q0,hc q1,hc q2,hc q3,hc q4,r.kept (by rw[hh])⟩
section
variable{w:JE}{c:J7}{hs:Int->Int}{fs:List Jd}{base:Nat}{T:List TR}{ks:List Je}{L:List QC}{v:JJ}
def Jwd(h3:∀f∈fs,f.k.length=3)(Ap:fs≠[])(hn:(T.map (·.k)).Nodup)(hT:∀k,tm T k=FP c Dc (sel hs 0 k fs))(hk:keysOf (T.map TR.kv) ks)(ho:IG base w T 0 ks L)(hr:w.ownsRow base 38 5 v L.length (L.flatMap QC.cells)) :
  ∃g cap,v=.slice (some ⟨g,0,none⟩) 1 cap/\bW w g (MX c hs fs):=by
 obtain⟨one1,Jvj,Jvk⟩:=O3.one (hs:=hs) h3 hn hT;have h1:=Jvj Ap;have hL:L.length=T.length:=by rw[ho.1];have:=hk.length;simpa using this
 obtain⟨q,hq⟩:∃q,L[0]?=some q:=⟨L[0]'(by omega),DL _⟩;obtain⟨k0,PX⟩:∃k0,ks[0]?=some k0:=⟨ks[0]'(by have:=ho.1;omega),DL _⟩;obtain⟨a1,a2,a3,a4⟩:=ho.2 0 k0 q PX hq;rcases hr.2 with⟨_,e⟩|⟨g,cap,cur,e,_,OJ,BA,Nj,_,hx⟩
 .rw[hL,h1]at e;cases e
 have a5:=hT k0.1;rw[a2]at a5;obtain⟨t,T1,T2,rfl,tk,_⟩:=Qk a2;have zk:k0.1=[0,0,0,0,0]:=by rw[<- tk];exact Jvk t (by simp)
 rw[zk,sel0 h3]at a5;have Jvl:q.B=MX c hs fs:=by unfold FP at a5;rw[if_neg (by simpa using Ap)]at a5;exact Aa a5
 have Ig:L.length=1:=by omega
 have hLq:L=[q]:=by obtain⟨y,rfl⟩:=List.length_eq_one_iff.1 Ig;simp at hq;rw[hq]
 rw[Ig]at e hx BA;rw[hLq]at hx;have hc:∀o u,o<5->q.cells[o]?=some u->w.cell? ⟨g,o,none⟩=some u:=λo u Em hu=>by
  refine(cell_of OJ o).trans ?_;have h5:(List.take (1*5) cur.toList)[o]?=some u:=by rw[hx];simpa using hu
  rw[List.getElem?_take,if_pos (by omega),Array.getElem?_toList]at h5;exact h5
 obtain⟨b1,⟨g2,c2,e2,_,r2⟩,⟨g3,c3,e3,_,r3⟩,⟨g4,c4,e4,_,r4⟩⟩:=a4;have Xx:∃a l c,q.kv=.slice a l c:=by obtain⟨z1,z2,z3,z4,z5,z6,z7,z8,z9,VK,ZM,z12,y1,_⟩:=a3;exact⟨z1,z2,z3,y1⟩
 obtain⟨ka,kl,kc,ek⟩:=Xx;rw[Jvl]at e3 r3;refine⟨g,cap,e,⟨ka,kl,kc,q.B.n,some ⟨g2,0,none⟩,q.B.r.length,c2,g3,c3,some ⟨g4,0,none⟩,q.B.l.length,c4,?_,hc 1 _ (by omega) rfl,?_,?_,?_,r3⟩⟩
 .rw[hc 0 _ (by omega) rfl,ek]
 .rw[hc 2 _ (by omega) rfl,e2]
 .rw[hc 3 _ (by omega) rfl,e3]
 .rw[hc 4 _ (by omega) rfl,e4]
end
def two5{t t':JC}(h:∀i∈([1,24]:List Nat),t'[i]?=t[i]?)(hs:t'.size=126)(D9:t.size=126){i:Nat}(hi:(C0.hl 5).contains i=true):t'[i]?=t[i]?:=by
 rcases hlM hi with h1|h1
 .exact h i h1
 .rw[Cc (by omega),Cc (by omega)]
section
variable{W E:JB}{w:JE}{c mz:Int}{la:JI}{rs:List Gi}{n lc:Nat}
def Jkp{T0:JC}(hB:BOk C0 S0 W E w)(hok:HOk w)(hG0:∃t,w.heap[0]?=some (.cells #[.iface 226 (.agg #[.pointer (some ⟨1,33,none⟩)])] t (0,0)))(hG1:∃arr t,w.heap[1]?=some (.cells arr t (0,0))/\∀x∈arr.toList,∃k n,x=.int k n)(hc:I64 c)(hmz:I64 mz)(hR:YB w la rs)(hn:rs.length=n)(hWa:∀a,la=some a->W a.block)(hTa:∀a,la=some a->∀c z,w.heap[a.block]?≠some (.cells c wgT z))(Ag:T0.size=126)(h0:T0[0]?=some (.int .i64 c))(h1:T0[1]?=some (.slice la n lc))(h2:T0[2]?=some (.int .i64 mz))(Bf:TmR C0 S0 5 (idE E) T0 T0) :
  Reach prog (Jrq prog (λv w'=>v=.bool true/\KE E w w')) W (G ((Go.Conc.base 5).at ⟨T0,[]⟩ [.code bM]) []) w:=by
 obtain⟨fs,Zb⟩:∃fs,fs=(rs.take 200).map Gi.fact:=⟨_,rfl⟩;have Ih:fs.length<=200:=by rw[Zb,FQ,List.length_take];omega
 have IQ:∀f∈fs,RH f/\BI f.k∈U64:=λf hf=>by rw[Zb]at hf;obtain⟨r,hr,rfl⟩:=AZ.1 hf;exact⟨Gi.J017 (hR.ok r (List.mem_of_mem_take hr)),Jyz r⟩
 rw[J05q];refine Ql [1,24] (λ_=>hlM) Y5 J05s YO dfM hB Bf (by omega) (Q:=λt w1=>t.size=126/\t[0]?=some (.int .i64 c)/\t[1]?=some (.slice la n lc)/\t[2]?=some (.int .i64 mz)/\w1.heap=w.heap) (λτ=>Jz8 (w:=w.tp τ 0) Ag λT' s k=>⟨rfl,by show T'.size<=500;omega,λi hi=>k i (by simp at hi ⊢;omega),s,(k 0 (by simp)).trans h0,(k 1 (by simp)).trans h1,(k 2 (by simp)).trans h2,rfl⟩) λE3 T4 wb3 w3 Ti Hf CY QY ⟨v1,v0,v2,vm,v5⟩ kw3=>?_;have k3:KE E w w3:=(KE.of_eq λb _=>by rw[v5]).trans ((Jt rfl CY).mono Ti);have jR:=hok.ke k3 hB.hnd;clear v5;have kwa:∀a,la=some a->w3.heap[a.block]?=w.heap[a.block]?:=λa ha=>kw3 _ (hWa a ha);obtain⟨g0,h50,p50,g50,q50⟩:=J02q;obtain⟨O6,ty6,h51,p51,g51,q51⟩:=J02r;obtain⟨NZ,h52,p52,g52,q52⟩:=J02s;refine J6 (λw1=>stepG_seq) rfl λd1'=>?_;refine J6 (λw1=>stepG_region) rfl λd2'=>?_;rw[show List.range UN.size=[0,1,2]from by kernel_rfl];have Ha:HS 5 W E3 w3 E3 T4 w3:=⟨Hf,λ_ h=>h,.refl,λ_ _=>rfl,QY,rfl,Ad _⟩;refine Jb (v:=.slice la n lc) ((Ha.at d1').at d2') h50 (by simp[Region.wanted,g50]) q50 (λw1=>by simp[execOp,p50,Act.eval,Bq,v2]) (λw1=>by simp[execOp,p50,Act.eval]) (.inl rfl) λwx Hx hx=>?_;refine Reach.call (B:=Go.Conc.base 5) (a:=⟨T4.setIfInBounds 24 (.slice la n lc),[]⟩) h51 (by simp[Region.wanted,g51]) (by simp[Go.Conc.base]) p51 (fn:=f13) (c:=b6) (by kernel_rfl) (by kernel_rfl) body6 λeF=>?_;have ea:(#[Operand.tmp 24].map (Act.eval ⟨T4.setIfInBounds 24 (.slice la n lc),[]⟩))++Array.replicate (f13.ntmps-(#[Operand.tmp 24].map (Act.eval ⟨T4.setIfInBounds 24 (.slice la n lc),[]⟩)).size) JA=#[.slice la n lc]++Array.replicate 54 JA:=by
  have LH:f13.ntmps=55:=by kernel_rfl
  have h1:(#[Operand.tmp 24].map (Act.eval ⟨T4.setIfInBounds 24 (.slice la n lc),[]⟩))=#[.slice la n lc]:=by simp[Act.eval,Bq,Gj,v1]
  rw[LH,h1];rfl
 rw[ea];clear ea;have hxw:(wx.at eF).heap=w3.heap:=hx;refine Jle (fs:=fs) (rs:=rs) (Hx.at eF).bok ?_ hn Zb hWa (λa ha=>by rw[hxw,kwa a ha];exact hTa a ha) λE4 w4' ga c2f pl le4 KH k4' fa pg vE kz kwf=>?_
 .refine⟨λi r hr=>?_,hR.ok⟩;obtain⟨b,o,r1,r2,r3,r4,r5,r6,r7⟩:=hR.at_ i r hr;have hbb:(wx.at eF).heap[b]?=w.heap[b]?:=by rw[hxw];exact kwa _ r1
  have hc:∀{i v},w.cell? ⟨b,i,none⟩=some v->(wx.at eF).cell? ⟨b,i,none⟩=some v:=λh=>(Du hbb).trans h;refine⟨b,o,r1,?_,hc r3,hc r4,hc r5,hc r6,hc r7⟩;rw[Bz r2]at hbb;exact(BJ.1 hbb).1
 rw[h51];simp only[Option.bind_some,q51];have Hy:HS 5 W E3 w3 E4 (T4.setIfInBounds 24 (.slice la n lc)) w4':=((Hx.at eF).to KH le4 k4' kwf kz);have Hz:=Hy.put (Hy.set (s:=25) (.inr vE));refine Jb (v:=.slice ga fs.length c2f) Hz h52 (by simp[Region.wanted,g52]) q52 (λw1=>by simp[execOp,p52,Act.eval,Bq,Gj,v1]) (λw1=>by simp[execOp,p52,Act.eval]) (.inr vE) λzG H5 h5x=>?_;refine J6 (λw1=>stepG_region_end) rfl λVk=>?_;have H4:=H5.at Vk;have fa:G8 false (zG.at Vk) ga fs c2f pl:=fa.kept λb _=>by show zG.heap[b]?=_;rw[h5x]
 have k4:KE E3 w3 (zG.at Vk):=H4.ke;have KH:=H4.bok;have EW:=H4.tm;obtain⟨T5,IJ⟩:∃T5,T5=((T4.setIfInBounds 24 (.slice la n lc)).setIfInBounds 25 (.slice ga fs.length c2f)).setIfInBounds 7 (.slice ga fs.length c2f):=⟨_,rfl⟩;rw[<- IJ]at EW ⊢;have u1:T5.size=126:=by rw[IJ];simpa using v1
 have u0:T5[0]?=some (.int .i64 c):=by rw[IJ];repeat rw[AV (by omega)]
                                       exact v0
 have u2:T5[2]?=some (.int .i64 mz):=by rw[IJ];repeat rw[AV (by omega)]
                                        exact vm
 have u7:T5[7]?=some (.slice ga fs.length c2f):=by rw[IJ,FC (by simp[v1])]
 clear IJ H5 Hz Hy Hx Ha H4;generalize zG.at Vk=w4 at *;have vG:=jR.ke k4 Hf.hnd;have lH:KE E w w4:=k3.trans (k4.mono Ti);have YN:∀b,E b->E4 b:=λb hb=>le4 b (Ti b hb);clear h5x hx hxw k4' kwf kz jR k4 k3;obtain⟨s0,a0,b0,c0,d0⟩:=J02t;obtain⟨s1,a1,b1,c1,d1⟩:=J02u;obtain⟨s2,ty7,a2,b2,c2,d2⟩:=J02v;obtain⟨s3,a3,b3',c3,d3⟩:=J02w;refine J6 (λw1=>stepG_seq) rfl λd4=>?_;refine J6 (λw1=>stepG_region) rfl λd5=>?_;rw[show List.range Sj.size=[0,1,2,3]from by kernel_rfl];have Hb:HS 5 W E4 w4 E4 T5 w4:=⟨KH,λ_ h=>h,.refl,λ_ _=>rfl,EW,rfl,Ad _⟩;have vg:VR C0 (idE E4) (.slice ga fs.length c2f) (.slice ga fs.length c2f):=EW.slot (i:=7) (hlM' (by omega)) u7;refine Jb (v:=.int .i64 c) ((Hb.at d4).at d5) a0 (by simp[Region.wanted,c0]) d0 (λw1=>by simp[execOp,b0,Act.eval,Bq,u0]) (λw1=>by simp[execOp,b0,Act.eval]) (.inr (.int _ _)) λw6 H6 q6=>?_;refine Jb (v:=.slice ga fs.length c2f) H6 a1 (by simp[Region.wanted,c1]) d1 (λw1=>by simp[execOp,b1,Act.eval,Bq,Gj,u7]) (λw1=>by simp[execOp,b1,Act.eval]) (.inr vg) λw7 H7 q7=>?_;obtain⟨T6,SG⟩:∃T6,T6=(T5.setIfInBounds 26 (.int .i64 c)).setIfInBounds 27 (.slice ga fs.length c2f):=⟨_,rfl⟩;rw[<- SG]at H7 ⊢;have x1:T6.size=126:=by rw[SG];simpa using u1
 have xs:∀i,i≠26->i≠27->T6[i]?=T5[i]?:=λi m1 m2=>by rw[SG,AV (Ne.symm m2),AV (Ne.symm m1)]
 have VH:T6[26]?=some (.int .i64 c):=by rw[SG,AV (by omega),FC (by omega)]
 have VI:T6[27]?=some (.slice ga fs.length c2f):=by rw[SG,FC (by simp[u1])]
 clear SG;refine Reach.call (B:=Go.Conc.base 5) (a:=⟨T6,[]⟩) a2 (by simp[Region.wanted,c2]) (by simp[Go.Conc.base]) b2 (fn:=f14) (c:=b7) (by kernel_rfl) (by kernel_rfl) body7 λe5=>?_;have eb:(#[Operand.tmp 26,.tmp 27].map (Act.eval ⟨T6,[]⟩))++Array.replicate (f14.ntmps-(#[Operand.tmp 26,.tmp 27].map (Act.eval ⟨T6,[]⟩)).size) JA=#[.int .i64 c,.slice ga fs.length c2f]++Array.replicate 68 JA:=by
  have LH:f14.ntmps=70:=by kernel_rfl
  have h1:(#[Operand.tmp 26,.tmp 27].map (Act.eval ⟨T6,[]⟩))=#[.int .i64 c,.slice ga fs.length c2f]:=by simp[Act.eval,Bq,VH,VI]
  rw[LH,h1];rfl
 rw[eb];clear eb;have Td:(w7.at e5).heap=w4.heap:=by show w7.heap=_;rw[q7,q6];rfl
 have k7:KE E4 w4 (w7.at e5):=.of_eq λb _=>by rw[Td]
 have tm7:TmR C0 S0 14 (idE E4) (#[.int .i64 c,.slice ga fs.length c2f]++Array.replicate 68 JA) (#[.int .i64 c,.slice ga fs.length c2f]++Array.replicate 68 JA):=by
  refine .bK (λv hv=>?_) λ_=>rfl;rw[Array.toList_append,Gn]at hv;rcases hv with hv|hv
  .simp only[AL,BU,or_false]at hv;rcases hv with rfl|rfl
   .exact .int _ _
   .exact vg
  .simp only[Array.toList_replicate]at hv;rw[List.eq_of_mem_replicate hv];exact .undef
 refine Jlf (fs:=fs) (c2f:=c2f) (pl:=pl) (H7.at e5).bok (vG.ke k7 KH.hnd) hc (fa.kept λb _=>by rw[Td]) IQ Ih (by simp) (by simp) (by simp) tm7 λW8 E8 w8 x c' h hs nf vm base S Qi vX k8 q8 MB cb hh ok8 ex8 _=>?_;obtain⟨cb,cn⟩:=cb;rw[a2];simp only[Option.bind_some,d2];have kE8:KE E w w8:=lH.trans ((k7.trans k8).mono YN);have Jwe:∀b,E b->E8 b:=λb hb=>Qi b (YN b hb);have vx:VR C0 (idE E8) (pt x) (pt x):=.ptr _ _ ⟨rfl,ex8⟩;have H8:HS 5 W8 E8 w8 E8 T6 w8:=⟨vX,λ_ h=>h,.refl,λ_ _=>rfl,H7.tm.mono (Oj Qi),rfl,Ad _⟩;have H9:=H8.put (H8.set (s:=28) (.inr vx));have lI:KE E4 w4 w8:=k7.trans k8;clear H8 k8 k7 lH H7 H6 Hb tm7 vG;refine Jb (v:=pt x) H9 a3 (by simp[Region.wanted,c3]) d3 (λw1=>by simp[execOp,b3',Act.eval,Bq,Gj,x1]) (λw1=>by simp[execOp,b3',Act.eval]) (.inr vx) λw9 H9' q9=>?_;refine J6 (λw1=>stepG_region_end) rfl λd6=>?_;have HA:=H9'.at d6;obtain⟨T7,Xk⟩:∃T7,T7=(T6.setIfInBounds 28 (pt x)).setIfInBounds 8 (pt x):=⟨_,rfl⟩;rw[<- Xk]at HA ⊢;have z1:T7.size=126:=by rw[Xk];simpa using x1
 have zs:∀i,i≠28->i≠8->T7[i]?=T6[i]?:=λi m1 m2=>by rw[Xk,AV (Ne.symm m2),AV (Ne.symm m1)]
 have z0:T7[0]?=some (.int .i64 c):=by rw[zs 0 (by omega) (by omega),xs 0 (by omega) (by omega)];exact u0
 have z2:T7[2]?=some (.int .i64 mz):=by rw[zs 2 (by omega) (by omega),xs 2 (by omega) (by omega)];exact u2
 have z7:T7[7]?=some (.slice ga fs.length c2f):=by rw[zs 7 (by omega) (by omega),xs 7 (by omega) (by omega)];exact u7
 have z8:T7[8]?=some (pt x):=by rw[Xk,FC (by simp[x1])]
 clear Xk H9 H9';generalize w9.at d6=wA at *;have kA:=HA.ke;have qA:=q8.ke HA.ke vX.hnd λ_ h=>h;have kEA:KE E w wA:=kE8.trans (HA.ke.mono Jwe);have kFA:KE E4 w4 wA:=lI.trans (HA.ke.mono Qi);have hBA:=HA.bok;have htA:=HA.tm;clear q9 q8 kE8 HA kA lI;refine Ql [1,24] (λ_=>hlM) Y5 J05t YO dfM hBA htA (by omega) (Q:=λt w1=>t.size=126/\t[0]?=some (.int .i64 c)/\t[2]?=some (.int .i64 mz)/\t[7]?=some (.slice ga fs.length c2f)/\t[8]?=some (pt x)/\w1.heap=wA.heap) (λτ=>Jz9 (w:=wA.tp τ 0) z1 z8 λT' s k=>⟨rfl,by show T'.size<=500;omega,λi hi=>k i (by simp at hi ⊢;omega),s,(k 0 (by simp)).trans z0,(k 2 (by simp)).trans z2,(k 7 (by simp)).trans z7,(k 8 (by simp)).trans z8,rfl⟩) λE9 T8 wb9 wB lQ hB9 hW9 kV ⟨r1,r0,r2,r7,r8,rw9⟩ _=>?_;have kB:KE E8 wA wB:=(KE.of_eq λb _=>by rw[rw9]).trans ((Jt rfl hW9).mono lQ);have qB:=qA.ke kB hBA.hnd lQ;have kEB:KE E w wB:=kEA.trans (kB.mono Jwe);have kFB:KE E4 w4 wB:=kFA.trans (kB.mono Qi);have lN:∀b,E b->E9 b:=λb hb=>lQ b (Jwe b hb);clear rw9 kB qA kEA kFA;refine J6 (λw1=>stepG_seq) rfl λd7=>?_;refine Ql [1,24] (λ_=>hlM) Y5 J05u YO dfM (hB9.at d7) kV (by omega) (Q:=λt w1=>t.size=126/\t[0]?=some (.int .i64 c)/\t[2]?=some (.int .i64 mz)/\t[7]?=some (.slice ga fs.length c2f)/\t[8]?=some (pt x)/\t[33]?=some (.bool (decide (fs.length=0)))/\w1.heap=wB.heap) (λτ=>Jza (w:=(wB.at d7).tp τ 0) (by omega) r1 r7 λT' s k VJ=>⟨rfl,by show T'.size<=500;omega,λi hi=>k i (by simp at hi ⊢;omega),s,(k 0 (by simp)).trans r0,(k 2 (by simp)).trans r2,(k 7 (by simp)).trans r7,(k 8 (by simp)).trans r8,VJ,rfl⟩) λEC TC wbC wC yR vY hWC htC ⟨y1,y0,y2,y7,yx8,y33,rwC⟩ _=>?_;have kC:KE E9 wB wC:=(KE.of_eq λb _=>by rw[rwC]).trans ((Jt rfl hWC).mono yR);have qC:=qB.ke kC hB9.hnd yR;have kEC:KE E w wC:=kEB.trans (kC.mono lN);have kFC:KE E4 w4 wC:=kFB.trans (kC.mono λb hb=>lQ b (Qi b hb));have vM:∀b,E b->EC b:=λb hb=>yR b (lN b hb);clear rwC kC qB kEB kFB;by_cases Ap:fs=[]
 ·
  have Jwf:TC.getD 33 JA=.bool true:=by rw[Bq,y33,Ap];rfl
  refine J6 (λw1=>stepG_cond Jwf) rfl λd8=>?_;simp only[if_true];rw[Jzr];refine Ql [1,24] (λ_=>hlM) Y5 J03j YO dfM (vY.at d8) htC (by omega) (Q:=λt w1=>t.size=126/\t[10]?=some (.iface 39 (.int .i64 9))/\∀b,b<wC.heap.size->w1.heap[b]?=wC.heap[b]?) (λτ=>J063 (w:=(wC.at d8).tp τ 0) y1 λT' s k Rq w' t=>⟨rfl,by show T'.size<=500;omega,k,s,Rq,λb hb=>t.heap b hb λh=>h⟩) λED TD wbD wD leD hBD hWD htD ⟨x1,Rq,xw⟩ _=>?_;have kD:KE EC wC wD:=(KE.of_eq λb hb=>xw b (vY.lt hb)).trans ((Jt rfl hWD).mono leD);have kED:KE E w wD:=kEC.trans (kD.mono vM);have le0D:∀b,E b->ED b:=λb hb=>leD b (vM b hb);obtain⟨s0,a0,b0,c0,d0⟩:=J03l;obtain⟨s1,ty9,a1,b1,c1,d1⟩:=J03m;refine J6 (λw1=>stepG_seq) rfl λd9=>?_;refine J6 (λw1=>stepG_region) rfl λd10=>?_;rw[show List.range LZ.size=[0,1,2,3,4,5,6]from by kernel_rfl];have HD:HS 5 W8 ED wD ED TD wD:=⟨hBD,λ_ h=>h,.refl,λ_ _=>rfl,htD,rfl,Ad _⟩;have ve:VR C0 (idE ED) (.iface 39 (.int .i64 9)) (.iface 39 (.int .i64 9)):=.iface 39 (by kernel_rfl) (.int _ _);refine Jb (v:=.iface 39 (.int .i64 9)) ((HD.at d9).at d10) a0 (by simp[Region.wanted,c0]) d0 (λw1=>by simp[execOp,b0,Act.eval,Bq,Rq]) (λw1=>by simp[execOp,b0,Act.eval]) (.inr ve) λwF HF qF=>?_;have hwF:wF.heap=wD.heap:=qF;have g0:∃t,wF.heap[0]?=some (.cells #[.iface 226 (.agg #[.pointer (some ⟨1,33,none⟩)])] t (0,0)):=by obtain⟨t,ht⟩:=hG0;exact⟨t,by rw[hwF];exact kED 0 _ (hB.gl 0 rfl) ht trivial⟩
  have g1:∃arr t,wF.heap[1]?=some (.cells arr t (0,0))/\∀x∈arr.toList,∃k n,x=.int k n:=by
   obtain⟨arr,t,ht,hp⟩:=hG1;have h1:=hB.hnd;rw[show C0.P.globals.size=1 from Wv]at h1;exact⟨arr,t,by rw[hwF];exact kED 1 _ h1 ht trivial,hp⟩
  refine Jpa (v:=.iface 39 (.int .i64 9)) (n:=9) (at_:=-1) HF.bok ⟨.errno 9,g0,g1⟩ a1 (by simp[Region.wanted,c1]) (by simp[Go.Conc.base]) b1 (by rw[Bq,FC (by simp[x1])];rfl) λwG hBG kG sG=>?_;rw[d1];have HG:HS 5 W8 ED wF ED (TD.setIfInBounds 41 (.iface 39 (.int .i64 9))) wG:=⟨hBG,λ_ h=>h,.of_eq λb hb=>kG b (.inl hb),λb hb=>kG b (.inr hb),HF.tm,rfl,sG⟩;have vt:VR C0 (idE ED) (.tuple #[.int .i64 9,.int .i64 (-1)]) (.tuple #[.int .i64 9,.int .i64 (-1)]):=.tuple rfl λi x x' h1 h2=>by
   rw[h1]at h2;cases h2
   match i with
   |0=>cases h1;exact .int _ _
   |1=>cases h1;exact .int _ _
   |i+2=>simp at h1
  have HH:=HG.put (HG.set (s:=42) (.inr vt));refine Jzq (i:=2) (sR:=42) (sT:=40) (sA:=43) (sB:=44) (sX:=11) (sY:=12) HH (by rw[FC (by simp[x1])]) (.int _ _) (.int _ _) (by simp[x1]) (by omega) J03n J03o J03p J03q J03r λTG wI HI O6 g2 g3 g4 g5=>?_;refine J6 (λw1=>stepG_region_end) rfl λd11=>?_;have mG:TG.size=126:=by rw[O6];simpa using x1
  have HJ:=HI.at d11;refine Reach.ret (b:=Go.Conc.base 5) (X0:=[.code y8]) (k:=[.code Jp6]) KY rfl (.cons (.code J03k) .nil) YO dfM Y5 (by simp[Go.Conc.base]) HJ.bok HJ.tm (Q:=λt1 w1=>t1[6]?=some (.bool true)/\w1.heap=wI.heap) (λτ=>?_) λEP TP wP wQ todo leP hBP hWP htP ⟨t1,t2⟩=>?_
  .exact LGo.wp (J064 (w:=(wI.at d11).tp τ 0) mG g2 λT' s k x6=>Cont.ret ⟨λi hi Nq=>two5 k s mG hi,x6,rfl⟩ rfl)
  .refine Reach.here ⟨rfl,λw1 BQ=>⟨.bool true,?_,rfl,?_⟩⟩
   .rw[Jed (f:=f5) (x:=6) (by kernel_rfl) (by kernel_rfl) (by kernel_rfl)];simp[Bq,t1]
   .obtain⟨dd,rfl⟩:=BQ;have kI:KE ED wF wI:=HJ.ke;have kQ:KE ED wI wQ:=(KE.of_eq λb hb=>by rw[t2]).trans ((Jt rfl hWP).mono leP);have kDF:KE ED wD wF:=.of_eq λb _=>by rw[hwF]
    exact(kED.trans (((kDF.trans kI).trans kQ).mono le0D)).trans (.of_eq λ_ _=>rfl)
 ·
  have Vy:0<fs.length:=List.length_pos_iff.2 Ap;have Jwf:TC.getD 33 JA=.bool false:=by rw[Bq,y33,decide_eq_false (by omega)];rfl
  refine J6 (λw1=>stepG_cond Jwf) rfl λd8=>?_;simp only[if_false,DY];refine J6 (λw1=>stepG_skip) rfl λd8'=>?_;obtain⟨s0,a0,b0,c0,d0⟩:=J02x;obtain⟨s1,ty9,a1,b1,c1,d1⟩:=J02y;unfold Jp6;refine J6 (λw1=>stepG_seq) rfl λd4=>?_;refine J6 (λw1=>stepG_region) rfl λd5=>?_;rw[show List.range LY.size=[0,1,2,3,4,5,6]from by kernel_rfl];have HC:HS 5 W8 EC wC EC TC wC:=⟨vY,λ_ h=>h,.refl,λ_ _=>rfl,htC,rfl,Ad _⟩;have vxC:VR C0 (idE EC) (pt x) (pt x):=.ptr _ _ ⟨rfl,qC.xE.1⟩;refine Jb (v:=pt x) ((((HC.at d8).at d8').at d4).at d5) a0 (by simp[Region.wanted,c0]) d0 (λw1=>by simp[execOp,b0,Act.eval,Bq,yx8]) (λw1=>by simp[execOp,b0,Act.eval]) (.inr vxC) λwD HD qD=>?_;refine Reach.call (B:=Go.Conc.base 5) (a:=⟨TC.setIfInBounds 48 (pt x),[]⟩) a1 (by simp[Region.wanted,c1]) (by simp[Go.Conc.base]) b1 (fn:=f17) (c:=b9) (by kernel_rfl) (by kernel_rfl) body9 λe4=>?_;have e9:(#[Operand.tmp 48,.const (.int .i64 0),.const (.slice none 0 0),.const (.int .i64 1)].map (Act.eval ⟨TC.setIfInBounds 48 (pt x),[]⟩))++Array.replicate (f17.ntmps-(#[Operand.tmp 48,.const (.int .i64 0),.const (.slice none 0 0),.const (.int .i64 1)].map (Act.eval ⟨TC.setIfInBounds 48 (pt x),[]⟩)).size) JA=#[pt x,.int .i64 (0:Nat),.slice none 0 0,.int .i64 1,JA,JA,JA,JA,JA,JA,JA,JA,JA,JA,JA,JA,JA,JA,JA,JA,JA,JA,JA,JA,JA,JA,JA,JA,JA,JA,JA,JA,JA]:=by
   have LH:f17.ntmps=33:=by kernel_rfl
   have h1:(#[Operand.tmp 48,.const (.int .i64 0),.const (.slice none 0 0),.const (.int .i64 1)].map (Act.eval ⟨TC.setIfInBounds 48 (pt x),[]⟩))=#[pt x,.int .i64 (0:Nat),.slice none 0 0,.int .i64 1]:=by simp[Act.eval,Bq,Gj,y1]
   rw[LH,h1];show _++Array.replicate 29 JA=_;rw[show Array.replicate 29 JA=#[JA,JA,JA,JA,JA,JA,JA,JA,JA,JA,JA,JA,JA,JA,JA,JA,JA,JA,JA,JA,JA,JA,JA,JA,JA,JA,JA,JA,JA]from by kernel_rfl];simp only[List.append_toArray,G9,Gm]
  rw[e9];clear e9;have kD:=(HD.at e4).ke;refine Jcf (x:=x) (m:=0) (most:=1) (M:=200) (S:=S) (HD.at e4).bok (qC.ke kD vY.hnd λ_ h=>h) (by omega) (by omega) MB.hin (by have:=MB.len;omega) (by omega) (λT hn hT=>by have:=(O3.one (hs:=hs) MB.n3 hn (MB.sum qC.cfg cn hh hT)).1;omega) λWF EF wF v7 T7' ks7 L7 Rn=>?_;rw[a1];simp only[Option.bind_some,d1];have Xk:=MB.sum qC.cfg cn hh Rn.sum;obtain⟨gq,cq,yG,J065⟩:=Jwd MB.n3 Ap Rn.nd Xk Rn.keys Rn.outs Rn.row;have kF:=kD.trans Rn.ke;have kEF:KE E w wF:=kEC.trans (kF.mono vM);have kFF:KE E4 w4 wF:=kFC.trans (kF.mono λb hb=>yR b (lQ b (Qi b hb)));have le0F:∀b,E b->EF b:=λb hb=>Rn.le b (vM b hb);have HF:HS 5 WF EF wF EF (TC.setIfInBounds 48 (pt x)) wF:=⟨Rn.bok,λ_ h=>h,.refl,λ_ _=>rfl,HD.tm.mono (Oj Rn.le),rfl,Ad _⟩;have HG:=HF.put (HF.set (s:=49) (.inr (vtup Rn.vE)));clear HF HD kD kF HC kEC;refine Jz7 (i:=2) (sR:=49) (sT:=47) (sA:=50) (sB:=51) (sX:=13) (sY:=14) HG (by rw[FC (by simp[y1])]) Rn.vE (by simp[y1]) (by omega) J02z J030 J031 J032 J033 λTG wG HG' g1 g2 g3 g4 g5=>?_;refine J6 (λw1=>stepG_region_end) rfl λd6=>?_;have gs:∀i,i≠48->i≠49->i≠47->i≠50->i≠51->i≠13->i≠14->TG[i]?=TC[i]?:=λi m1 m2 m3 m4 m5 m6 m7=>by rw[g4 i m3 m4 m5 m6 m7,AV (Ne.symm m2),AV (Ne.symm m1)]
  have mG:TG.size=126:=by rw[g1];simpa using y1
  have o0:TG[0]?=some (.int .i64 c):=(gs 0 (by omega) (by omega) (by omega) (by omega) (by omega) (by omega) (by omega)).trans y0;have o2:TG[2]?=some (.int .i64 mz):=(gs 2 (by omega) (by omega) (by omega) (by omega) (by omega) (by omega) (by omega)).trans y2;have o7:TG[7]?=some (.slice ga fs.length c2f):=(gs 7 (by omega) (by omega) (by omega) (by omega) (by omega) (by omega) (by omega)).trans y7;have HO:=HG'.at d6;have hwO:(wG.at d6).heap=wF.heap:=g5;clear HG HG' g1 g4 g5 gs y1 y0 y2 y7 yx8;generalize wG.at d6=wO at *;obtain⟨plO,_,faF⟩:=G8.ke KH.wr (λa e=>by subst e;exact vg.MQ) kFF fa;have faO:G8 false wO ga fs c2f plO:=faF.kept λb _=>by rw[hwO]
  rw[yG]at g2;refine Reach.ret (b:=Go.Conc.base 5) (X0:=[.code tX]) (k:=[]) KY rfl (.cons (.code J05v) .nil) YO dfM Y5 (by simp[Go.Conc.base]) HO.bok HO.tm (Q:=λt1 w1=>t1[6]?=some (.bool true)/\∀b,b<wO.heap.size->w1.heap[b]?=wO.heap[b]?) (λτ=>?_) λEP TP wP wQ todo leP hBP hWP htP ⟨t1,t2⟩=>?_
  .exact LGo.wp (Jvx (w:=wO.tp τ 0) (cf:=c') (hs:=hs) Vy Ih (faO.kept λb _=>rfl) hc hmz cn (J065.at hwO) mG o0 o2 o7 g2 g3 λT' s k x6 w' Rf=>Cont.ret ⟨λi hi Nq=>two5 k s mG hi,x6,Rf⟩ rfl)
  .refine Reach.here ⟨rfl,λw1 BQ=>⟨.bool true,?_,rfl,?_⟩⟩
   .rw[Jed (f:=f5) (x:=6) (by kernel_rfl) (by kernel_rfl) (by kernel_rfl)];simp[Bq,t1]
   .obtain⟨dd,rfl⟩:=BQ;have kO:KE EF wF wO:=.of_eq λb _=>by rw[hwO]
    have kQ:KE EF wO wQ:=(KE.of_eq λb hb=>t2 b (HO.bok.lt hb)).trans ((Jt rfl hWP).mono leP);exact(kEF.trans ((kO.trans kQ).mono le0F)).trans (.of_eq λ_ _=>rfl)
end
def rf(P:Program)(fits:JH->Bool):Nat->JH->Bool
 |0,_=>false
 |d+1,e=>fits e || (match P.underlying e with
  |some (.struct fs)=>fs.any λf=>rf P fits d f.type
  |some (.array _ e')=>rf P fits d e'
  |_=>false)
def Jdd(P:Program)(fits:JH->Bool):∀(d:Nat)(e:JH)(c o n:Nat),rowAt P fits d e c o n=true->rf P fits d e=true
 |0,_,_,_,_,h=>by cases h
 |d+1,e,c,o,n,h=>by
  simp only[rowAt]at h;unfold rf;by_cases hs:P.cellsOf e=0
  .rw[if_pos hs]at h;cases h
  rw[if_neg hs]at h;rw[Bool.or_eq_true]at h ⊢;rcases h with h|h
  .simp only[Bh]at h;exact .inl h.2
  .right;rw[Bh]at h;obtain⟨_,h⟩:=h;cases hu:P.underlying e with
   |none=>rw[hu]at h;cases h
   |some u=>
    rw[hu]at h;cases u with
    |struct fs=>
     have h':=((Bh _ _).mp h).2;show(fs.any λf=>rf P fits d f.type)=true;rw[Array.any_eq_true]at h' ⊢;obtain⟨i,hi,h'⟩:=h';exact⟨i,hi,Jdd P fits d _ _ _ _ ((Bh _ _).mp h').2⟩
    |array m e'=>exact Jdd P fits d _ _ _ _ h
    |_=>cases h
def Jkq{α:Type}{l:List α}(h:l.length=5):∃x0 x1 x2 x3 x4,l=[x0,x1,x2,x3,x4]:=by
 rcases l with _|⟨x0,_|⟨x1,_|⟨x2,_|⟨x3,_|⟨x4,_|⟨x5,l⟩⟩⟩⟩⟩⟩<;>simp at h
 exact⟨_,_,_,_,_,rfl⟩
def Jxi:∃f0 f1 f2 f3 f4:Field,prog.underlying 83=some (.struct #[f0,f1,f2,f3,f4])/\(f0.offset=0/\f1.offset=1/\f2.offset=2/\f3.offset=3/\f4.offset=4)/\(f0.type=3/\f1.type=3/\f2.type=3/\f3.type=3/\f4.type=3):=by
 have h:(prog.underlying 83).map (λu=>match u with| .struct fs=>fs.toList.map (λf=>(f.offset,f.type))|_=>[])=some [(0,3),(1,3),(2,3),(3,3),(4,3)]:=by kernel_rfl
 cases hu:prog.underlying 83 with
 |none=>rw[hu]at h;cases h
 |some u=>
  rw[hu]at h;cases u with
  |struct fs=>
   obtain⟨l⟩:=fs;simp only[Option.map_some,Cb]at h;have hl:l.length=5:=by have:=congrArg List.length h;simpa using this
   match l,hl with
   |[f0,f1,f2,f3,f4],_=>
    simp only[D5,List.map_nil,List.cons.injEq,Prod.mk.injEq,and_true]at h;obtain⟨⟨a0,b0⟩,⟨a1,b1⟩,⟨a2,b2⟩,⟨a3,b3⟩,⟨a4,b4⟩⟩:=h;exact⟨f0,f1,f2,f3,f4,rfl,⟨a0,a1,a2,a3,a4⟩,b0,b1,b2,b3,b4⟩
  |_=>simp at h
def Jpc:prog.underlying 27=some (.slice 83):=by kernel_rfl
def TW:prog.underlying 3=some (.int .i64):=by kernel_rfl
def ce53:prog.cellsOf 83=5:=by kernel_rfl
def ce3:prog.cellsOf 3=1:=by kernel_rfl
def J066:rf prog (sameLayout prog prog.depth · 83) prog.depth wgT=false:=by kernel_rfl
def rf0:rf prog (sameLayout prog prog.depth · 83) prog.depth 0=false:=by kernel_rfl
def J067:rf prog (sameLayout prog prog.depth · 83) prog.depth 159=false:=by kernel_rfl
def J068{w:JE}{r:_root_.Go.Reach}{b0:Nat}{a:Addr}{n:Nat}(h:w.has prog r b0 a 83 n):a.spot=none/\a.block<w.heap.size/\(∀c z,w.heap[a.block]?≠some (.cells c wgT z))/\(∀c z,w.heap[a.block]?≠some (.cells c 0 z))/\∀c z,w.heap[a.block]?≠some (.cells c 159 z):=by
 obtain⟨_,h1,row,cells,h2,h3⟩:=h;have h4:rf prog (sameLayout prog prog.depth · 83) prog.depth row=true:=by
  obtain⟨d,hd⟩:∃d,prog.depth=d+1:=by
   cases hd:prog.depth with
   |zero=>rw[hd]at h3;cases h3
   |succ d=>exact⟨d,rfl⟩
  have h5:liesAt prog (d+1) row (cells / prog.cellsOf row) a.off 83 n=true:=by rw[<- hd];exact h3
  unfold liesAt at h5;rw[Bool.or_eq_true]at h5;rcases h5 with h5|h5
  .exact Jdd _ _ _ _ _ _ _ h5
  .obtain⟨f0,f1,f2,f3,f4,hu,_⟩:=Jxi;rw[hu]at h5;cases h5
 have sh:∀c t z,w.heap[a.block]?=some (.cells c t z)->row=t:=λc t z hc=>by simp only[World.shape?,hc]at h2;simp at h2;exact h2.1.symm
 refine⟨h1,?_,λc z hc=>?_,λc z hc=>?_,λc z hc=>?_⟩
 .cases hb:w.heap[a.block]? with
  |none=>simp[World.shape?,hb]at h2
  |some o=>exact(BJ.1 hb).1
 .rw[sh _ _ _ hc,J066]at h4;cases h4
 .rw[sh _ _ _ hc,rf0]at h4;cases h4
 .rw[sh _ _ _ hc,J067]at h4;cases h4
def J069{α:Type}(m:Array α)(a b c d e:α){n:Nat}(hn:m.size=n):(((((m.push a).push b).push c).push d).push e)[n]?=some a/\n<(((((m.push a).push b).push c).push d).push e).size:=by subst hn;refine⟨?_,by simp only[Array.size_push];omega⟩;rw[KA,if_neg (by simp only[Array.size_push];omega),KA,if_neg (by simp only[Array.size_push];omega),KA,if_neg (by simp only[Array.size_push];omega),KA,if_neg (by simp only[Array.size_push];omega),KA,if_pos rfl]
def Jhk(P:Program)(tape:Nat->Question->Nat)(os:Os):(begin P tape os).world.heap[P.globals.size]?=some (.cells ((Array.range P.types.size).map λt=>.int .u64 (Int.ofNat t)) 0)/\P.globals.size<(begin P tape os).world.heap.size:=by unfold begin;exact J069 _ _ _ _ _ _ (by simp)
def Jpd{P:Program}{w:JE}(h:w.ShapedOpen P):w.heap[P.globals.size]?=some (.cells ((Array.range P.types.size).map λt=>.int .u64 (Int.ofNat t)) 0):=by obtain⟨h1,h2⟩:=Jhk P (λ_ _=>0) default;obtain⟨o,o0,h3,h4,h5⟩:=h.2 P.globals.size (Ad _) h2;rw[h1]at h4;rw[h3];simp only[Nat.sub_self]at h5;rw[if_neg (by decide)]at h5;rw[h5,h4]
section
variable{H:Type}{enc:JH × JJ->H}{w:JE}{a0:JI}{len cap:Nat}{d:DataW H}{ps:List MemPlace}
def Jwg(IY:∃r b0,Value.okWide prog w r b0 27 (.slice a0 len cap))(h:DataW.Trod enc prog w 0 (λ_=>true) true 27 (.slice a0 len cap) d ps) :
  ∃rs:List Gi,rs.length=len/\YB w a0 rs/\∀a,a0=some a->a.block<w.heap.size/\(∀c z,w.heap[a.block]?≠some (.cells c wgT z))/\(∀c z,w.heap[a.block]?≠some (.cells c 0 z))/\∀c z,w.heap[a.block]?≠some (.cells c 159 z):=by
 obtain⟨r,b0,IY⟩:=IY;obtain⟨fuel,hf⟩:=h;rcases Deep.open_slice Jpc hf with⟨FH,_⟩|⟨a,len',Ee,m,n,D,Pl,FH,_,hl,hm,jH,_,hx⟩
 .simp[Value.cells]at FH;obtain⟨rfl,rfl,rfl⟩:=FH;exact⟨[],rfl,⟨λi r hr=>by simp at hr,λr hr=>by cases hr⟩,λa ha=>by cases ha⟩
 .simp[Value.cells]at FH;obtain⟨rfl,rfl,rfl⟩:=FH;have hh:w.has prog r b0 a 83 cap:=by simp only[Value.okWide,Jpc,Cell.okWide,Cell.ok]at IY;exact IY.2.2
  obtain⟨e1,e2,e3,e4,e5⟩:=J068 hh;obtain⟨b,o,sp⟩:=a;simp only at e1 e2 e3 e4 e5;subst e1;rw[if_pos rfl]at jH;have each:∀i,i<len->∃q:Gi,Jnu q/\w.cell? ⟨b,o+i*5,none⟩=some (.int .i64 q.a)/\w.cell? ⟨b,o+i*5+1,none⟩=some (.int .i64 q.b)/\w.cell? ⟨b,o+i*5+2,none⟩=some (.int .i64 q.c)/\w.cell? ⟨b,o+i*5+3,none⟩=some (.int .i64 q.fact.it)/\w.cell? ⟨b,o+i*5+4,none⟩=some (.int .i64 q.fact.v):=by
   intro i hi;obtain⟨WJ,h1,h2⟩:=hx i (by omega);rw[ce53]at h1;obtain⟨_,hlen,Aq⟩:=World.cells?_some h1;obtain⟨f0,f1,f2,f3,f4,hu,⟨o0,o1,o2,o3,o4⟩,t0,t1,t2,t3,t4⟩:=Jxi;obtain⟨xs,k,hk,hxy,_,Rj,Uj⟩:=DataW.trod_struct hu h2;have hxl5:xs.length=5:=Rj;obtain⟨y0,y1,y2,y3,y4,rfl⟩:=Jkq hxl5;obtain⟨v0,v1,v2,v3,v4,rfl⟩:=Jkq hlen;have g0:=Uj 0 f0 rfl;have g1:=Uj 1 f1 rfl;have g2:=Uj 2 f2 rfl;have g3:=Uj 3 f3 rfl;have g4:=Uj 4 f4 rfl;simp[o0,o1,o2,o3,o4,t0,t1,t2,t3,t4,ce3]at g0 g1 g2 g3 g4;obtain⟨z0,w0,_,k0⟩:=DataW.trod_int TW g0;obtain⟨z1,w1,_,k1⟩:=DataW.trod_int TW g1;obtain⟨z2,w2,_,k2⟩:=DataW.trod_int TW g2;obtain⟨z3,w3,_,k3⟩:=DataW.trod_int TW g3;obtain⟨z4,w4,_,k4⟩:=DataW.trod_int TW g4;simp only[List.cons.injEq,and_true]at w0 w1 w2 w3 w4;subst w0 w1 w2 w3 w4;have i64:∀{z:Int},(Lit.int .i64 z).wf=true->I64 z:=λh=>by simp[Lit.wf,IntKind.min,IntKind.max,IntKind.signed,IntKind.bits]at h;exact⟨by omega,by omega⟩
   have c:∀j,j<5->w.cell? ⟨b,o+i*5+j,none⟩=[Value.int .i64 z0,.int .i64 z1,.int .i64 z2,.int .i64 z3,.int .i64 z4][j]?:=λj hj=>by
    have:=Aq j hj;rw[Deep.add_add]at this;unfold Addr.add at this;by_cases e:i*5+j=0
    .rw[if_pos e]at this;rw[show o+i*5+j=o by omega];exact this
    .rw[if_neg e]at this;rw[show o+i*5+j=o+(i*5+j) by omega];simpa using this
   exact⟨⟨z0,z1,z2,z3,z4⟩,⟨i64 k0,i64 k1,i64 k2,i64 k3,i64 k4⟩,c 0 (by omega),c 1 (by omega),c 2 (by omega),c 3 (by omega),c 4 (by omega)⟩
  haveI:Inhabited Gi:=⟨⟨0,0,0,0,0⟩⟩
  obtain⟨F,hF⟩:=Deep.choose_lt each;refine⟨(List.range len).map F,by simp,⟨λi r hr=>?_,λr hr=>?_⟩,λa ha=>?_⟩
  .rw[List.getElem?_map]at hr;have hi:i<len:=by
    rcases BF i len with h|h
    .exact h
    .rw[List.getElem?_eq_none (by simpa using h)]at hr;cases hr
   rw[List.getElem?_range hi]at hr;cases hr;obtain⟨_,q0,q1,q2,q3,q4⟩:=hF i hi;exact⟨b,o,rfl,e2,q0,q1,q2,q3,q4⟩
  .obtain⟨i,hi,rfl⟩:=AZ.1 hr;exact(hF i (List.mem_range.1 hi)).1
  .cases ha;exact⟨e2,e3,e4,e5⟩
end
end Go.Sim.Z
