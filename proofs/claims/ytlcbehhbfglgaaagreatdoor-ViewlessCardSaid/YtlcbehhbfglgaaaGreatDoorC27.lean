/- Proved: laws for the claim. No conditions. -/
import Derived.WalkKit
import Derived.LaidEql
import Derived.Stop.Asserts
import Derived.RowKitTokens
import Derived.Conc.Own4
import Derived.Laws.Closers25b
import Derived.Laws.BytesString
import Derived.Test.YtlcbehhbfglgaaaGreatDoorC09
import Derived.Test.YtlcbehhbfglgaaaGreatDoorC10
import Derived.Test.YtlcbehhbfglgaaaGreatDoorC12
import Derived.Test.YtlcbehhbfglgaaaGreatDoorC18
import Derived.Test.YtlcbehhbfglgaaaGreatDoorC24
import Derived.Test.YtlcbehhbfglgaaaGreatDoorC25
import Derived.Test.YtlcbehhbfglgaaaGreatDoorC26
set_option linter.all false
set_option maxHeartbeats 4000000
set_option maxRecDepth 100000
open Go.Proofs.Tryz
namespace Go.Sim.Z
open Go Go.Proofs Go.RowKit Go.Extern.Stop Go.Stop Go.Extern
def methodKind (h:JJ) (w:JE):(Go.method 471 226 (.agg #[h]) "Kind").run prog w=.ok (239,h) w:=by kernel_rfl
def methodElem (h:JJ) (w:JE):(Go.method 471 226 (.agg #[h]) "Elem").run prog w=.ok (276,.agg #[h]) w:=by kernel_rfl
def methodImplements (h:JJ) (w:JE):(Go.method 471 226 (.agg #[h]) "Implements").run prog w=.ok (277,.agg #[h]) w:=by kernel_rfl
def methodAssignableTo (h:JJ) (w:JE):(Go.method 471 226 (.agg #[h]) "AssignableTo").run prog w=.ok (274,.agg #[h]) w:=by kernel_rfl
def rlm(z:Sem JJ)(f:JH->Addr->Nat->Nat->Sem JJ)(v:JJ) :
  ReflectliteValue.method z f #[v]=(do match <- ReflectliteValue.parts v with|none=>z|some (t,a,fl)=>f t a fl (fl % 32)):=rfl
def Jhc(t:Addr)(w:JE):(ReflectliteValue.unpack (.iface 87 (.pointer (some t)))).run prog w
  = .ok (.agg #[.pointer (some ⟨1,87,none⟩),JL w.heap.size,.int .u64 150]) (w.alloc (.cells #[.pointer (some t)] 87)):=by kernel_rfl
def Js7 (a:Addr) (w:JE):(ReflectliteValue.methodAny (ReflectliteValue.valueError "reflectlite.Value.Type" 0) (λt _ _ _=>ReflectliteType.toType t) #[.agg #[.pointer (some ⟨1,87,none⟩),.pointer (some a),.int .u64 150]]).run prog w
  = .ok (.iface 226 (.agg #[.pointer (some ⟨1,87,none⟩)])) w:=by kernel_rfl
def Js8(w:JE):((ReflectliteType.abiMethod λt=>(λa:Nat=>Value.int IntKind.u8 (a:Int)) <$> Rtype.kind t) #[.pointer (some ⟨1,87,none⟩)]).run prog w=.ok (.int .u8 22) w:=by kernel_rfl
def Js9(w:JE):((ReflectliteType.abiMethod λt=>(λa:Nat=>Value.int IntKind.u8 (a:Int)) <$> Rtype.kind t) #[.pointer (some ⟨1,85,none⟩)]).run prog w=.ok (.int .u8 22) w:=by kernel_rfl
def Jm8(a:Addr)(w:JE):(ReflectliteValue.parts (.agg #[.pointer (some ⟨1,87,none⟩),.pointer (some a),.int .u64 150])).run prog w=.ok (some (87,a,150)) w:=by kernel_rfl
def Jsa:prog.underlying 87=some (.pointer 85):=by kernel_rfl
def Jm9(a p:Addr)(W:JE)(ha:W.cell? a=some (.pointer (some p))) :
  (ReflectliteValue.method (ReflectliteValue.valueError "reflectlite.Value.IsNil" 0) ReflectliteValue.isNil #[.agg #[.pointer (some ⟨1,87,none⟩),.pointer (some a),.int .u64 150]]).run prog W=.ok (.bool false) W:=by
 rw[rlm];simp only[Sem.run_bind,Jm8,Result.andThen];simp[ReflectliteValue.isNil,loadVar,isAgg,underlying,Jsa,ha,Result.andThen]
def Jsb(w:JE):(ReflectliteType.method ReflectliteType.elem #[.agg #[.pointer (some ⟨1,87,none⟩)]]).run prog w=.ok (.iface 226 (.agg #[.pointer (some ⟨1,85,none⟩)])) w:=by kernel_rfl
def Jaw (w:JE):(ReflectliteType.relation "Implements" ReflectliteType.implements_ #[.agg #[.pointer (some ⟨1,85,none⟩)],.iface 226 (.agg #[.pointer (some ⟨1,33,none⟩)])]).run prog w=.ok (.bool true) w:=by kernel_rfl
def Jvz(v:JJ)(w:JE):(ReflectliteType.typeOf #[.iface 85 v]).run prog w=.ok (.iface 226 (.agg #[.pointer (some ⟨1,85,none⟩)])) w:=by kernel_rfl
def Jkk (w:JE):(ReflectliteType.relation "AssignableTo" ReflectliteType.assignableTo #[.agg #[.pointer (some ⟨1,85,none⟩)],.iface 226 (.agg #[.pointer (some ⟨1,85,none⟩)])]).run prog w=.ok (.bool true) w:=by kernel_rfl
def Jsc(e:Addr)(w:JE):(ReflectliteValue.unpack (.iface 85 (.pointer (some e)))).run prog w
  = .ok (.agg #[.pointer (some ⟨1,85,none⟩),JL w.heap.size,.int .u64 150]) (w.alloc (.cells #[(.pointer (some e))] 85)):=by kernel_rfl
def Jw0(w:JE):(Rtype.elem? 87).run prog w=.ok (some 85) w:=by kernel_rfl
def mk85(p:Addr)(w:JE):(ReflectliteValue.mk 85 p ReflectliteValue.flagAddr).run prog w=.ok (.agg #[.pointer (some ⟨1,85,none⟩),.pointer (some p),.int .u64 406]) w:=by kernel_rfl
def Jzf(a p:Addr)(W:JE)(ha:W.cell? a=some (.pointer (some p))) :
  (ReflectliteValue.method (ReflectliteValue.valueError "reflectlite.Value.Elem" 0) ReflectliteValue.elem #[.agg #[.pointer (some ⟨1,87,none⟩),.pointer (some a),.int .u64 150]]).run prog W
   = .ok (.agg #[.pointer (some ⟨1,85,none⟩),.pointer (some p),.int .u64 406]) W:=by
 rw[rlm];simp only[Sem.run_bind,Jm8,Result.andThen];simp[ReflectliteValue.elem,loadVar,isAgg,underlying,Jsa,ha,Result.andThen,Jw0,mk85]
def Jw1(a:Addr)(w:JE):(ReflectliteValue.parts (.agg #[.pointer (some ⟨1,85,none⟩),.pointer (some a),.int .u64 406])).run prog w=.ok (some (85,a,406)) w:=by kernel_rfl
def Jzg(a:Addr)(w:JE):(ReflectliteValue.parts (.agg #[.pointer (some ⟨1,85,none⟩),.pointer (some a),.int .u64 150])).run prog w=.ok (some (85,a,150)) w:=by kernel_rfl
def Jw2(w:JE):(Rtype.directlyAssignable 85 85).run prog w=.ok true w:=by kernel_rfl
def J037(w:JE):(sizeOf 85).run prog w=.ok 1 w:=by kernel_rfl
def Jzh(w:JE):(isAgg 85).run prog w=.ok false w:=by kernel_rfl
def J05y(ta b:Addr)(e:Addr)(old:JJ)(W:JE)(hb:W.cell? b=some ((.pointer (some e))))(ht:W.cell? ta=some old)(hf:W.frozen? ta=false) :
  (ReflectliteValue.set #[.agg #[.pointer (some ⟨1,85,none⟩),.pointer (some ta),.int .u64 406],.agg #[.pointer (some ⟨1,85,none⟩),.pointer (some b),.int .u64 150]]).run prog W
   = .ok (.tuple #[]) (W.setCell ta ((.pointer (some e)))):=by
 rw[oK];simp only[Sem.run_bind,Jw1,Jzg,Result.andThen];simp[ReflectliteValue.flagAddr,loadVar,Jzh,hb,Result.andThen,Jw2,storeVar,J037,Value.cells,storeCells,Addr.add];rw[run_store prog W ta _ _ (by rfl)];simp[ht,hf]
def J09s(t:Addr)(w:JE):(ReflectliteValue.unpack (.iface 90 (.pointer (some t)))).run prog w
  = .ok (.agg #[.pointer (some ⟨1,90,none⟩),JL w.heap.size,.int .u64 150]) (w.alloc (.cells #[.pointer (some t)] 90)):=by kernel_rfl
def J0by (a:Addr) (w:JE):(ReflectliteValue.methodAny (ReflectliteValue.valueError "reflectlite.Value.Type" 0) (λt _ _ _=>ReflectliteType.toType t) #[.agg #[.pointer (some ⟨1,90,none⟩),.pointer (some a),.int .u64 150]]).run prog w
  = .ok (.iface 226 (.agg #[.pointer (some ⟨1,90,none⟩)])) w:=by kernel_rfl
def J0c2(w:JE):((ReflectliteType.abiMethod λt=>(λa:Nat=>Value.int IntKind.u8 (a:Int)) <$> Rtype.kind t) #[.pointer (some ⟨1,90,none⟩)]).run prog w=.ok (.int .u8 22) w:=by kernel_rfl
def J0c3(w:JE):((ReflectliteType.abiMethod λt=>(λa:Nat=>Value.int IntKind.u8 (a:Int)) <$> Rtype.kind t) #[.pointer (some ⟨1,39,none⟩)]).run prog w=.ok (.int .u8 2) w:=by kernel_rfl
def J08a(a:Addr)(w:JE):(ReflectliteValue.parts (.agg #[.pointer (some ⟨1,90,none⟩),.pointer (some a),.int .u64 150])).run prog w=.ok (some (90,a,150)) w:=by kernel_rfl
def J09t:prog.underlying 90=some (.pointer 39):=by kernel_rfl
def J0ba(a p:Addr)(W:JE)(ha:W.cell? a=some (.pointer (some p))) :
  (ReflectliteValue.method (ReflectliteValue.valueError "reflectlite.Value.IsNil" 0) ReflectliteValue.isNil #[.agg #[.pointer (some ⟨1,90,none⟩),.pointer (some a),.int .u64 150]]).run prog W=.ok (.bool false) W:=by
 rw[rlm];simp only[Sem.run_bind,J08a,Result.andThen];simp[ReflectliteValue.isNil,loadVar,isAgg,underlying,J09t,ha,Result.andThen]
def J0c4(w:JE):(ReflectliteType.method ReflectliteType.elem #[.agg #[.pointer (some ⟨1,90,none⟩)]]).run prog w=.ok (.iface 226 (.agg #[.pointer (some ⟨1,39,none⟩)])) w:=by kernel_rfl
def J06b (w:JE):(ReflectliteType.relation "Implements" ReflectliteType.implements_ #[.agg #[.pointer (some ⟨1,39,none⟩)],.iface 226 (.agg #[.pointer (some ⟨1,33,none⟩)])]).run prog w=.ok (.bool true) w:=by kernel_rfl
def J06g(v:JJ)(w:JE):(ReflectliteType.typeOf #[.iface 39 v]).run prog w=.ok (.iface 226 (.agg #[.pointer (some ⟨1,39,none⟩)])) w:=by kernel_rfl
def J06h (w:JE):(ReflectliteType.relation "AssignableTo" ReflectliteType.assignableTo #[.agg #[.pointer (some ⟨1,39,none⟩)],.iface 226 (.agg #[.pointer (some ⟨1,39,none⟩)])]).run prog w=.ok (.bool true) w:=by kernel_rfl
def J09u(n:Int)(w:JE):(ReflectliteValue.unpack (.iface 39 (JK n))).run prog w
  = .ok (.agg #[.pointer (some ⟨1,39,none⟩),JL w.heap.size,.int .u64 130]) (w.alloc (.cells #[(JK n)] 39)):=by kernel_rfl
def J0av(w:JE):(Rtype.elem? 90).run prog w=.ok (some 39) w:=by kernel_rfl
def mk39(p:Addr)(w:JE):(ReflectliteValue.mk 39 p ReflectliteValue.flagAddr).run prog w=.ok (.agg #[.pointer (some ⟨1,39,none⟩),.pointer (some p),.int .u64 386]) w:=by kernel_rfl
def J0bb(a p:Addr)(W:JE)(ha:W.cell? a=some (.pointer (some p))) :
  (ReflectliteValue.method (ReflectliteValue.valueError "reflectlite.Value.Elem" 0) ReflectliteValue.elem #[.agg #[.pointer (some ⟨1,90,none⟩),.pointer (some a),.int .u64 150]]).run prog W
   = .ok (.agg #[.pointer (some ⟨1,39,none⟩),.pointer (some p),.int .u64 386]) W:=by
 rw[rlm];simp only[Sem.run_bind,J08a,Result.andThen];simp[ReflectliteValue.elem,loadVar,isAgg,underlying,J09t,ha,Result.andThen,J0av,mk39]
def J0aw(a:Addr)(w:JE):(ReflectliteValue.parts (.agg #[.pointer (some ⟨1,39,none⟩),.pointer (some a),.int .u64 386])).run prog w=.ok (some (39,a,386)) w:=by kernel_rfl
def J0bc(a:Addr)(w:JE):(ReflectliteValue.parts (.agg #[.pointer (some ⟨1,39,none⟩),.pointer (some a),.int .u64 130])).run prog w=.ok (some (39,a,130)) w:=by kernel_rfl
def J0ax(w:JE):(Rtype.directlyAssignable 39 39).run prog w=.ok true w:=by kernel_rfl
def J0c5(w:JE):(sizeOf 39).run prog w=.ok 1 w:=by kernel_rfl
def isAgg39(w:JE):(isAgg 39).run prog w=.ok false w:=by kernel_rfl
def J0cu(ta b:Addr)(n:Int)(old:JJ)(W:JE)(hb:W.cell? b=some ((JK n)))(ht:W.cell? ta=some old)(hf:W.frozen? ta=false) :
  (ReflectliteValue.set #[.agg #[.pointer (some ⟨1,39,none⟩),.pointer (some ta),.int .u64 386],.agg #[.pointer (some ⟨1,39,none⟩),.pointer (some b),.int .u64 130]]).run prog W
   = .ok (.tuple #[]) (W.setCell ta ((JK n))):=by
 rw[oK];simp only[Sem.run_bind,J0aw,J0bc,Result.andThen];simp[ReflectliteValue.flagAddr,loadVar,isAgg39,hb,Result.andThen,J0ax,storeVar,J0c5,Value.cells,storeCells,Addr.add];rw[run_store prog W ta _ _ (by rfl)];simp[ht,hf]
def J06k (w:JE):(ReflectliteType.relation "AssignableTo" ReflectliteType.assignableTo #[.agg #[.pointer (some ⟨1,39,none⟩)],.iface 226 (.agg #[.pointer (some ⟨1,85,none⟩)])]).run prog w=.ok (.bool false) w:=by kernel_rfl
def J0bd:prog.underlying 231=some (.interface #[("As",233)]):=by kernel_rfl
def J0be:prog.underlying 234=some (.interface #[("Unwrap",235)]):=by kernel_rfl
def J0bf:prog.underlying 236=some (.interface #[("Unwrap",238)]):=by kernel_rfl
def J0ai(v:JJ)(w:JE):(Instr.typeAssert (.iface 39 v) 33 231 true).run prog w=.ok (.tuple #[.nilIface,.bool false]) w:=run_typeAssert_lacksB J0bd (by kernel_rfl) (by kernel_rfl) v 33 w
def J0aj(v:JJ)(w:JE):(Instr.typeAssert (.iface 39 v) 33 234 true).run prog w=.ok (.tuple #[.nilIface,.bool false]) w:=run_typeAssert_lacksB J0be (by kernel_rfl) (by kernel_rfl) v 33 w
def J0ak(v:JJ)(w:JE):(Instr.typeAssert (.iface 39 v) 33 236 true).run prog w=.ok (.tuple #[.nilIface,.bool false]) w:=run_typeAssert_lacksB J0bf (by kernel_rfl) (by kernel_rfl) v 33 w
def XF(f:JG)(row:JC->Sem JJ):Prop:=∀(args:JC)(w:JE),(callFunc f args).run prog w=((row args).run prog w).andThen λv w'=>.ok (.value v) w'
def XF.mk {f:JG} {fn:Func} {e:JC->Sem JJ} (hf:prog.funcs[f]?=some fn) (Eb:(fn.name == "runtime.NumGoroutine")=false) (hb:fn.body.isNone=true) (hn:Extern.findNext fn=none) (he:Extern.find fn=some e):XF f e:=run_callFunc_extern hf Eb hb hn he
def exts:XF 63 (λargs=>ReflectliteValue.unpack (args.getD 0 (.tuple #[])))/\XF 64 (ReflectliteValue.methodAny (ReflectliteValue.valueError "reflectlite.Value.Type" 0) (λt _ _ _=>ReflectliteType.toType t))/\XF 65 (ReflectliteValue.method (ReflectliteValue.valueError "reflectlite.Value.IsNil" 0) ReflectliteValue.isNil)/\XF 239 (ReflectliteType.abiMethod λt=>do pure (.int .u8 (<- Rtype.kind t)))/\XF 276 (ReflectliteType.method ReflectliteType.elem)/\XF 277 (ReflectliteType.relation "Implements" ReflectliteType.implements_)/\XF 113 (ReflectliteType.typeOf)/\XF 274 (ReflectliteType.relation "AssignableTo" ReflectliteType.assignableTo)/\XF 114 (ReflectliteValue.method (ReflectliteValue.valueError "reflectlite.Value.Elem" 0) ReflectliteValue.elem)/\XF 115 (ReflectliteValue.set):=
 ⟨.mk func63 (by kernel_rfl) (by kernel_rfl) (by kernel_rfl) (by kernel_rfl),.mk func64 (by kernel_rfl) (by kernel_rfl) (by kernel_rfl) (by kernel_rfl),.mk func65 (by kernel_rfl) (by kernel_rfl) (by kernel_rfl) (by kernel_rfl),.mk func239 (by kernel_rfl) (by kernel_rfl) (by kernel_rfl) (by kernel_rfl),.mk func276 (by kernel_rfl) (by kernel_rfl) (by kernel_rfl) (by kernel_rfl),.mk func277 (by kernel_rfl) (by kernel_rfl) (by kernel_rfl) (by kernel_rfl),.mk func113 (by kernel_rfl) (by kernel_rfl) (by kernel_rfl) (by kernel_rfl),.mk func274 (by kernel_rfl) (by kernel_rfl) (by kernel_rfl) (by kernel_rfl),.mk func114 (by kernel_rfl) (by kernel_rfl) (by kernel_rfl) (by kernel_rfl),.mk func115 (by kernel_rfl) (by kernel_rfl) (by kernel_rfl) (by kernel_rfl)⟩
def J084(e:Addr)(t:Addr)(old:JJ)(w:JE)(hg:w.cell? ⟨0,0,none⟩=some (.iface 226 (.agg #[.pointer (some ⟨1,33,none⟩)])))(Bf:w.cell? t=some old)(hf0:w.frozen? t=false) :
  Calls prog 30 #[.iface 85 (.pointer (some e)),.iface 87 (.pointer (some t))] w λev w'=>ev=.returned (.bool true)/\w'=((((w.alloc (.cells #[.pointer (some t)] 87)).alloc (.cells #[.pointer (some ⟨1,87,none⟩),JL w.heap.size,.int .u64 150] 156)).alloc (.cells #[.pointer (some ⟨1,87,none⟩),JL w.heap.size,.int .u64 150] 156)).alloc (.cells #[(.pointer (some e))] 85)).setCell t (.pointer (some e)):=by
 obtain⟨h6,h7,h8,fA,Vp,fB,Ce,Xa,DZ,SA⟩:=exts;unfold XF at h6 h7 h8 fA Vp fB Ce Xa DZ SA;have tO:=Jvz;have a25:=Jkk;have v25:=Jsc;have f6:=Jhc;have f7:=Js7;have mK:=methodKind;have mE:=methodElem;have mI:=methodImplements;have mA:=methodAssignableTo;have k27:=Js8;have k25:=Js9;have vS:=Jsb;have i25:=Jaw;have n8:=Jm9 ⟨w.heap.size,0,none⟩ t ((w.alloc (.cells #[.pointer (some t)] 87)).alloc (.cells #[.pointer (some ⟨1,87,none⟩),JL w.heap.size,.int .u64 150] 156)) (by simp);have Ac:0<w.heap.size:=by
  rcases Nat.eq_zero_or_pos w.heap.size with h0|h
  .simp[World.cell?,h0]at hg
  .exact h
 have Bl:((w.alloc (.cells #[.pointer (some t)] 87)).alloc (.cells #[.pointer (some ⟨1,87,none⟩),JL w.heap.size,.int .u64 150] 156)).cell? ⟨0,0,none⟩=some (.iface 226 (.agg #[.pointer (some ⟨1,33,none⟩)])):=by
  simp_all[World.cell?_alloc_lt]
 have htl:t.block<w.heap.size:=by
  rcases BF t.block w.heap.size with h|h
  .exact h
  .simp[World.cell?,Cc h]at Bf
 have el:=Jzf ⟨w.heap.size,0,none⟩ t (((w.alloc (.cells #[.pointer (some t)] 87)).alloc (.cells #[.pointer (some ⟨1,87,none⟩),JL w.heap.size,.int .u64 150] 156)).alloc (.cells #[.pointer (some ⟨1,87,none⟩),JL w.heap.size,.int .u64 150] 156)) (by rw[World.cell?_alloc_lt _ _ ⟨w.heap.size,0,none⟩ (by simp;omega)];simp);have st:=J05y t ⟨w.heap.size+1+1+1,0,none⟩ e old ((((w.alloc (.cells #[.pointer (some t)] 87)).alloc (.cells #[.pointer (some ⟨1,87,none⟩),JL w.heap.size,.int .u64 150] 156)).alloc (.cells #[.pointer (some ⟨1,87,none⟩),JL w.heap.size,.int .u64 150] 156)).alloc (.cells #[(.pointer (some e))] 85))
  (by simp_all[World.cell?_alloc_at])
  (by rw[World.cell?_alloc_lt _ _ t (by simp;omega),World.cell?_alloc_lt _ _ t (by simp;omega),World.cell?_alloc_lt _ _ t (by simp;omega),World.cell?_alloc_lt _ _ t htl];exact Bf)
  (by rw[World.frozen?_alloc_old _ _ t (by simp;omega),World.frozen?_alloc_old _ _ t (by simp;omega),World.frozen?_alloc_old _ _ t (by simp;omega),World.frozen?_alloc_old _ _ t (Nat.ne_of_lt htl)];exact hf0)
 go_enter func30,ntmps30
 go_wp2;refine wp_loop_rounds 1 ?_;rw[rounds_succ];go_wp2;go_ret
 simp_all
def J0ay(n:Int)(t:Addr)(old:JJ)(w:JE)(hg:w.cell? ⟨0,0,none⟩=some (.iface 226 (.agg #[.pointer (some ⟨1,33,none⟩)])))(Bf:w.cell? t=some old)(hf0:w.frozen? t=false) :
  Calls prog 30 #[.iface 39 (JK n),.iface 90 (.pointer (some t))] w λev w'=>ev=.returned (.bool true)/\w'=((((w.alloc (.cells #[.pointer (some t)] 90)).alloc (.cells #[.pointer (some ⟨1,90,none⟩),JL w.heap.size,.int .u64 150] 156)).alloc (.cells #[.pointer (some ⟨1,90,none⟩),JL w.heap.size,.int .u64 150] 156)).alloc (.cells #[(JK n)] 39)).setCell t (JK n):=by
 obtain⟨h6,h7,h8,fA,Vp,fB,Ce,Xa,DZ,SA⟩:=exts;unfold XF at h6 h7 h8 fA Vp fB Ce Xa DZ SA;have tO:=J06g;have a25:=J06h;have v25:=J09u;have f6:=J09s;have f7:=J0by;have mK:=methodKind;have mE:=methodElem;have mI:=methodImplements;have mA:=methodAssignableTo;have k27:=J0c2;have k25:=J0c3;have vS:=J0c4;have i25:=J06b;have n8:=J0ba ⟨w.heap.size,0,none⟩ t ((w.alloc (.cells #[.pointer (some t)] 90)).alloc (.cells #[.pointer (some ⟨1,90,none⟩),JL w.heap.size,.int .u64 150] 156)) (by simp);have Ac:0<w.heap.size:=by
  rcases Nat.eq_zero_or_pos w.heap.size with h0|h
  .simp[World.cell?,h0]at hg
  .exact h
 have Bl:((w.alloc (.cells #[.pointer (some t)] 90)).alloc (.cells #[.pointer (some ⟨1,90,none⟩),JL w.heap.size,.int .u64 150] 156)).cell? ⟨0,0,none⟩=some (.iface 226 (.agg #[.pointer (some ⟨1,33,none⟩)])):=by
  simp_all[World.cell?_alloc_lt]
 have htl:t.block<w.heap.size:=by
  rcases BF t.block w.heap.size with h|h
  .exact h
  .simp[World.cell?,Cc h]at Bf
 have el:=J0bb ⟨w.heap.size,0,none⟩ t (((w.alloc (.cells #[.pointer (some t)] 90)).alloc (.cells #[.pointer (some ⟨1,90,none⟩),JL w.heap.size,.int .u64 150] 156)).alloc (.cells #[.pointer (some ⟨1,90,none⟩),JL w.heap.size,.int .u64 150] 156)) (by rw[World.cell?_alloc_lt _ _ ⟨w.heap.size,0,none⟩ (by simp;omega)];simp);have st:=J0cu t ⟨w.heap.size+1+1+1,0,none⟩ n old ((((w.alloc (.cells #[.pointer (some t)] 90)).alloc (.cells #[.pointer (some ⟨1,90,none⟩),JL w.heap.size,.int .u64 150] 156)).alloc (.cells #[.pointer (some ⟨1,90,none⟩),JL w.heap.size,.int .u64 150] 156)).alloc (.cells #[(JK n)] 39))
  (by simp_all[World.cell?_alloc_at])
  (by rw[World.cell?_alloc_lt _ _ t (by simp;omega),World.cell?_alloc_lt _ _ t (by simp;omega),World.cell?_alloc_lt _ _ t (by simp;omega),World.cell?_alloc_lt _ _ t htl];exact Bf)
  (by rw[World.frozen?_alloc_old _ _ t (by simp;omega),World.frozen?_alloc_old _ _ t (by simp;omega),World.frozen?_alloc_old _ _ t (by simp;omega),World.frozen?_alloc_old _ _ t (Nat.ne_of_lt htl)];exact hf0)
 go_enter func30,ntmps30
 go_wp2;refine wp_loop_rounds 1 ?_;rw[rounds_succ];go_wp2;go_ret
 simp_all
def J0cv(n:Int)(t:Addr)(w:JE)(hg:w.cell? ⟨0,0,none⟩=some (.iface 226 (.agg #[.pointer (some ⟨1,33,none⟩)]))) :
  Calls prog 30 #[.iface 39 (JK n),.iface 87 (.pointer (some t))] w λev w'=>ev=.returned (.bool false)/\w'=(((w.alloc (.cells #[.pointer (some t)] 87)).alloc (.cells #[.pointer (some ⟨1,87,none⟩),JL w.heap.size,.int .u64 150] 156)).alloc (.cells #[.pointer (some ⟨1,87,none⟩),JL w.heap.size,.int .u64 150] 156)):=by
 obtain⟨h6,h7,h8,fA,Vp,fB,Ce,Xa,DZ,SA⟩:=exts;unfold XF at h6 h7 h8 fA Vp fB Ce Xa DZ SA;have tO:=J06g;have a25:=J06k;have y1:=J0ai;have y2:=J0aj;have y3:=J0ak;have f6:=Jhc;have f7:=Js7;have mK:=methodKind;have mE:=methodElem;have mI:=methodImplements;have mA:=methodAssignableTo;have k27:=Js8;have k25:=Js9;have vS:=Jsb;have i25:=Jaw;have n8:=Jm9 ⟨w.heap.size,0,none⟩ t ((w.alloc (.cells #[.pointer (some t)] 87)).alloc (.cells #[.pointer (some ⟨1,87,none⟩),JL w.heap.size,.int .u64 150] 156)) (by simp);have Ac:0<w.heap.size:=by
  rcases Nat.eq_zero_or_pos w.heap.size with h0|h
  .simp[World.cell?,h0]at hg
  .exact h
 have Bl:((w.alloc (.cells #[.pointer (some t)] 87)).alloc (.cells #[.pointer (some ⟨1,87,none⟩),JL w.heap.size,.int .u64 150] 156)).cell? ⟨0,0,none⟩=some (.iface 226 (.agg #[.pointer (some ⟨1,33,none⟩)])):=by
  simp_all[World.cell?_alloc_lt]
 go_enter func30,ntmps30
 go_wp2;refine wp_loop_rounds 1 ?_;rw[rounds_succ];go_wp2;go_ret
 simp_all
abbrev pz(b:Nat):JJ:=.pointer (some ⟨b,0,none⟩)
noncomputable def b16:Code:=f16.body.getD .skip
def J03d:f16.body=some b16:=by kernel_rfl
def T16(v:JJ):JC:=#[v]++Array.replicate 26 JA
def J03e(v:JJ):T16 v=#[v,JA,JA,JA,JA,JA,JA,JA,JA,JA,JA,JA,JA,JA,JA,JA,JA,JA,JA,JA,JA,JA,JA,JA,JA,JA,JA]:=by kernel_rfl
section
variable{w:JE}{g:Nat}{n at_:Int}{ds:List Deferred}{Q:Exit->Act->JE->Prop}{R1:JE->Prop}{R2:JE->JE->Prop}
def J0az(hQ:∀T':JC,T'.size=27->T'[2]?=some (JK 0)->T'[3]?=some (JK 0)->Q .ret ⟨T',ds⟩ w):b16.wp prog Q ⟨#[.nilIface,JA,JA,JA,JA,JA,JA,JA,JA,JA,JA,JA,JA,JA,JA,JA,JA,JA,JA,JA,JA,JA,JA,JA,JA,JA,JA],ds⟩ w:=by
 simp only[b16,f16,A8];go_wp2
 simp_all
def J05t(h1:Calls prog 30 #[.iface 39 (JK n),.iface 87 (pz w.heap.size)] (w.alloc (.cells #[.pointer none] 85)) λev w'=>ev=.returned (.bool false)/\R1 w')
  (h2:∀w2,R1 w2->Calls prog 30 #[.iface 39 (JK n),.iface 90 (pz w2.heap.size)] (w2.alloc (.cells #[JK 0] 39)) λev w'=>ev=.returned (.bool true)/\w'.cell? ⟨w2.heap.size,0,none⟩=some (JK n)/\R2 w2 w')
  (hQ:∀T':JC,T'.size=27->T'[2]?=some (JK n)->T'[3]?=some (JK (-1))->∀w2 w3,R1 w2->R2 w2 w3->Q .ret ⟨T',ds⟩ w3):b16.wp prog Q ⟨#[.iface 39 (JK n),JA,JA,JA,JA,JA,JA,JA,JA,JA,JA,JA,JA,JA,JA,JA,JA,JA,JA,JA,JA,JA,JA,JA,JA,JA,JA],ds⟩ w:=by
 simp only[b16,f16,A8]
 go_wp2_with fail
 refine h1.mono ?_;rintro e w2 ⟨rfl,r1⟩
 go_wp2_with fail
 refine(h2 w2 r1).mono ?_;rintro e w3 ⟨rfl,c3,r2⟩;go_wp2;exact hQ _ rfl rfl rfl _ _ r1 r2
end
open Go.Maps
def Sz(w:JE):Prop:=w.cell? ⟨0,0,none⟩=some (.iface 226 (.agg #[.pointer (some ⟨1,33,none⟩)]))
def Sz.lt{w:JE}(h:Sz w):0<w.heap.size:=by
 rcases Nat.eq_zero_or_pos w.heap.size with h0|h1
 .simp[Sz,World.cell?,h0]at h
 .exact h1
def Sz.tch{N:Nat}{M:JB}{w w':JE}(h:Sz w)(t:Tch N M w w')(h0:0<N)(hm:¬M 0):Sz w':=(t.cell (a:=⟨0,0,none⟩) h0 hm).trans h
section
variable{w:JE}{b g:Nat}{old:JJ}{n at_:Int}
def Jp7(w:JE)(arr:JC)(ty:JH):(w.alloc (.cells arr ty)).frozen? ⟨w.heap.size,0,none⟩=false:=by
 simp_all
def J0c6(hg:Sz w):Calls prog 30 #[.iface 39 (JK n),.iface 87 (pt b 0)] w λev w'=>ev=.returned (.bool false)/\Tch w.heap.size M0 w w':=
 (J0cv n ⟨b,0,none⟩ w hg).mono λe w' h=>by obtain⟨rfl,rfl⟩:=h;exact⟨rfl,((Tch.refl.alloc (Ad _) _).alloc (by simp_all) _).alloc (by grind[size_alloc]) _⟩
def Jw7{w:JE}{a:Addr}{v:JJ}{old:JJ}(h:w.cell? a=some old):(w.setCell a v).cell? a=some v:=by
 grind[World.cell?_setCell_same']
def Jzo{v:JJ}{pt el:JH}{c:JJ}{z1:JH}(hb:b<w.heap.size)(Bf:w.cell? ⟨b,0,none⟩=some old)(h:Calls prog 30 #[.iface el v,.iface pt c] w λev w'=>ev=.returned (.bool true)/\∃o1 o2 o3 o4,w'=((((w.alloc o1).alloc o2).alloc o3).alloc o4).setCell ⟨b,0,none⟩ v) :
  Calls prog 30 #[.iface el v,.iface pt c] w λev w'=>ev=.returned (.bool true)/\w'.cell? ⟨b,0,none⟩=some v/\Tch w.heap.size (λx=>x=b) w w':=
 h.mono λe w' h=>by
  obtain⟨rfl,o1,o2,o3,o4,rfl⟩:=h;have t4:Tch w.heap.size (λx=>x=b) w ((((w.alloc o1).alloc o2).alloc o3).alloc o4):=(((Tch.refl.alloc (Ad _) _).alloc (by simp_all) _).alloc (by grind[size_alloc]) _).alloc (by grind[size_alloc]) _;refine⟨rfl,Jw7 (old:=old) ?_,t4.set (.inr rfl) _⟩
  grind[World.cell?_alloc_lt,size_alloc]
def J0al(hg:Sz w)(hb:b<w.heap.size)(Bf:w.cell? ⟨b,0,none⟩=some old)(hf:w.frozen? ⟨b,0,none⟩=false) :
  Calls prog 30 #[.iface 39 (JK n),.iface 90 (pt b 0)] w λev w'=>ev=.returned (.bool true)/\w'.cell? ⟨b,0,none⟩=some (JK n)/\Tch w.heap.size (λx=>x=b) w w':=
 Jzo (z1:=0) hb Bf ((J0ay n ⟨b,0,none⟩ old w hg Bf hf).mono λe w' h=>⟨h.1,_,_,_,_,h.2⟩)
end
section
variable{w:JE}{g:Nat}{n at_:Int}{ds:List Deferred}{Q:Exit->Act->JE->Prop}
def J09f(hg:Sz w)(hQ:∀T':JC,T'.size=27->T'[2]?=some (JK n)->T'[3]?=some (JK (-1))->∀w',Tch w.heap.size M0 w w'->Q .ret ⟨T',ds⟩ w'):b16.wp prog Q ⟨T16 (.iface 39 (JK n)),ds⟩ w:=by have h0:=hg.lt;have t1:Tch w.heap.size M0 w (w.alloc (.cells #[.pointer none] 85)):=Tch.refl.alloc (Ad _) _;rw[J03e];refine J05t (R1:=λw2=>Tch w.heap.size M0 w w2) (R2:=λw2 w3=>Tch w.heap.size M0 w w3) ((J0c6 (hg.tch t1 h0 λh=>h)).mono λe w2 h=>⟨h.1,t1.then h.2 t1.size λ_ _ h=>h⟩) (λw2 t12=>?_) λT' s1 s2 s3 w2 w3 _ t3=>hQ T' s1 s2 s3 w3 t3;have t3:Tch w.heap.size M0 w (w2.alloc (.cells #[JK 0] 39)):=t12.alloc t12.size _;refine(J0al (hg.tch t3 h0 λh=>h) (by simp_all) (old:=JK 0) ((cell_of (Ja _) 0).trans rfl) (Jp7 _ _ _)).mono ?_;rintro e w3 ⟨rfl,c3,t4⟩;exact⟨rfl,c3,t3.then (t4.mono (M':=λx=>x=w2.heap.size) (Ad _) λ_ _ h=>h) t3.size λb hb h=>by have:=t12.size;omega⟩
end
end Go.Sim.Z
namespace Go.Sim
open Go Go.Conc
section
variable{P:Program}{Post:(JB)->JF->JE->Prop}{W:JB}{g:JF}{w:JE}
def Reach.Jw8{own X V:JB}{Stop:Sit->Prop}(hR:Runs false P true Stop ⟨own,X,g,w⟩)(hr:g.status=.running)(hd:∀b,W b->¬X b)(jP:∀b,W b->¬own b)(hV:∀b,V b->b<w.heap.size/\¬own b)(hX:∀b,X b->b<w.heap.size)
  (k:∀y,Stop y->(∀b,W b->¬y.X b)->(∀b,V b->y.w.heap[b]?=w.heap[b]?)->w.heap.size<=y.w.heap.size->Reach P Post W y.g y.w):Reach P Post W g w:=by
 intro gs sl t q W0 hs hl h0 hC;obtain⟨N,BG,y',sl',t',q',h1,_,h3,h4,h5,h6,h7,h8,h9,Ce⟩:=Jaf (W:=λb=>W b\/V b) (Z:=W) hR (sl:=sl) h0 hr hC (atRel_refl w) (λb hb=>by obtain⟨a1,a2,a3,a4⟩:=hs b hb;exact hd b a1) (λb hb=>hb.elim (λhb=>⟨hl b hb,jP b hb⟩) (hV b)) (λb hb=>⟨hl b hb,hd b hb⟩) hX;have h9':Kept W W w y'.w:=⟨λ_ h=>h,λb hb=>h9.keep b (.inl hb),h9.os,h9.out⟩;obtain⟨N2,Nb,w2,Pj,t2,q2,W2,W3,g2,BM,WY,QD,Xg,hK,Bo,Eu⟩:=k y' h4 h7 (λb hb=>h9.keep b (.inr hb)) Ce BG sl' t' q' W0 (hs.kept h9') (λb hb=>DX (hl b hb) Ce) h3 h5;exact⟨N+N2,Nb,w2,Pj,t2,q2,W2,W3,g2,ZT h1 BM,WY,QD,Xg,h9'.trans hK,Bo,Eu⟩
end
section
variable{C:Cx}{S:Kn}{W E:JB}{w:JE}
def Reach.J03g(A:FM C S)(Ae:C.st=false){Post:(JB)->JF->JE->Prop}{b:Frame}{c:Code}{t:JC}{ds:List Deferred}{k:List Item}{cs:List Frame}{Q:JC->JE->Prop}{V:JB}
  (hc:Ji C S b.fn c=true) (hb:GY C b.fn) (Nk:S.df.contains b.fn=false) (hl:C.hl b.fn≠[]) (hk:b.kind≠.early)
  (hB:BOk C S W E w) (hV:∀b,V b->b<w.heap.size/\¬E b) (ht:TmR C S b.fn (idE E) t t)
  (K:∀τ,c.wp C.P (λe a w1=>e=.ret/\(∀i,(C.hl b.fn).contains i=true->a.tmps[i]?=t[i]?)/\Q a.tmps w1) ⟨t,[Jq]⟩ (w.tp τ 0))
  (kr:∀(E':JB)(t':JC)(w1 w':JE)(todo:List Item),(∀b,E b->E' b)->BOk C S W E' w'->WR C (okP C S) (idE E') w1 w'->TmR C S b.fn (idE E') t' t'->(∀b,V b->w'.heap[b]?=w.heap[b]?)->w.heap.size<=w'.heap.size->Q t' w1->Reach C.P Post W (G { b.at ⟨t',ds⟩ todo with mode:=.returning } cs) w') :
  Reach C.P Post W (G (b.at ⟨t,ds⟩ (.code c::k)) cs) w:=by
 have hR:=nG A (main:=true) (b:=b) (c:=c) (ds:=ds) (k:=k) (cs:=cs) (Q:=λe a w1=>e=.ret/\(∀i,(C.hl b.fn).contains i=true->a.tmps[i]?=t[i]?)/\Q a.tmps w1) hc hb Nk hl hk hB.link ht K (λe a w h=>.inr h.1);rw[Ae]at hR;refine Reach.Jw8 (V:=V) hR rfl hB.dis hB.dis hV (λb hb=>hB.lt hb) ?_;rintro⟨own,X,g,wy⟩ ⟨E1,a,w1,t',hs,hL,CB,LC,hq⟩ hd hVk Ag;simp only at hL hd hq hVk Ag;obtain⟨E',e1,s3,hE,Gq,BQ⟩:=J5x hB Ae hs hL hd;rcases hq with⟨⟨h1,_,_⟩,_⟩|⟨⟨_,hh,hq⟩,todo,rfl⟩
 .cases h1
 .have:=CB.eq_of e1 LC λi h _=>hh i h
  grind
end
end Go.Sim
namespace Go.Sim.Z
open Go Go.Proofs Go.RowKit Go.Conc Go.Maps
def results_tmp2{fn:Func}{t u:Tmp}(h:fn.results=#[.tmp t,.tmp u])(tmps:JC)(P:Program)(w:JE) :
  (results fn tmps).run P w=.ok (.tuple #[tmps.getD t JA,tmps.getD u JA]) w:=by
 simp[results,h]
section
variable{W E:JB}{w:JE}{B b₀:Frame}{a a₀:Act}{k:List Item}{cs:List Frame}{Post:(JB)->JF->JE->Prop}
def Reach.J03h{P:Program}{fn:Func}{todo:List Item}{ops:Array Oper}{i:Nat}{rest:List Nat}{x y:Tmp}(hn:B.kind=.normal)(hd:a.defers=[])(hf:P.funcs[B.fn]?=some fn)(hr:fn.results=#[.tmp x,.tmp y])
  (kn:∀d,Reach P Post W (G (b₀.at (a₀.put ((ops[i]?).bind (·.dst)) (.tuple #[a.tmps.getD x JA,a.tmps.getD y JA])) (.inRegion ops rest::k)) cs) (w.at d)) :
  Reach P Post W (G { B.at a todo with mode:=.returning } (b₀.at a₀ (.inRegion ops (i::rest)::k)::cs)) w:=by
 refine J6 (λw1=>?_) rfl kn;rw[Jam hn hd hf (results_tmp2 hr _ P w1),Frame.finish_at,events_results_tmp2 hr,seen_none]
inductive Jmb(w:JE):JJ->Int->Int->Prop
 |nil:Jmb w .nilIface 0 0
 |errno(n:Int):Jmb w (.iface 39 (.int .i64 n)) n (-1)
def EB(_:JJ)(b:Nat):Prop:=b=1\/b=0
def Wv:prog.globals.size=1:=by kernel_rfl
def Jp9(b:Nat)(hb:b=1)(v:JJ)(t:Nat):VR C2 (idE (EB v)) (.pointer (some ⟨b,t,none⟩)) (.pointer (some ⟨b,t,none⟩)):=.ptr t none ⟨rfl,.inl hb⟩
def Jw9{C:Cx}{E:J5}{arr:JC}(h:∀x∈arr.toList,∃k n,x=.int k n):AR C E arr arr:=⟨rfl,λi x x' hx Af=>by rw[hx]at Af;cases Af;obtain⟨k,n,rfl⟩:=h x (Array.mem_toList_iff.2 (Ho hx));exact .int k n⟩
structure bQ(w:JE)(v:JJ)(n at_:Int):Prop where
 tells:Jmb w v n at_
 err:∃t,w.heap[0]?=some (.cells #[.iface 226 (.agg #[.pointer (some ⟨1,33,none⟩)])] t (0,0))
 hok:∃arr t,w.heap[1]?=some (.cells arr t (0,0))/\∀x∈arr.toList,∃k n,x=.int k n
def bQ.bok{v:JJ}{n at_:Int}(h:bQ w v n at_)(hW:∀b,EB v b->¬W b):BOk C2 S2 W (EB v) w:=by
 obtain⟨ht,⟨t0,h0⟩,arr,t1,h1,hp⟩:=h;have obj:∀b o,EB v b->w.heap[b]?=some o->Kv C2 (okP C2 S2) (idE (EB v)) b o o:=by
  intro b o hb ho;rcases hb with rfl|rfl
  .rw[h1]at ho;cases ho;exact⟨_,_,rfl,Jw9 hp,λh=>h.elim,λ_=>⟨rfl,λe=>rfl⟩⟩
  .rw[h0]at ho;cases ho;refine⟨_,_,rfl,AR.one (.iface 226 (all2 226) (.agg rfl λi x x' hx Af=>?_)),λh=>h.elim,λ_=>⟨rfl,λe=>rfl⟩⟩;rw[hx]at Af;cases Af
   match i,hx with
   |0,hx=>cases hx;exact Jp9 1 rfl v 33
   |i+1,hx=>simp at hx
 have lt:∀b,EB v b->b<w.heap.size:=by
  intro b hb;rcases hb with rfl|rfl
  all_goals grind
 refine⟨⟨rfl,λb b' ⟨e,hb⟩=>?_,λb c c' k k'=>k.1.symm.trans k'.1,λb c b2 k k'=>k.1.trans k'.1.symm,λb k=>k.elim,λb b' o o' ⟨e,hb⟩ x x'=>?_,λ_ b b' k=>k.1,λ_=>rfl,λe=>by cases e⟩,?_,λg hg=>?_,λb hb he=>hW b he hb⟩
 .grind
 .grind
 .show EB v prog.globals.size;rw[Wv];exact .inl rfl
 .have:g=0:=by simpa[S2]using hg
  subst this;exact .inr rfl
def J061(v:JJ):(T16 v)[0]?=some v:=by simp[T16]
def J062{v y:JJ}{j:Nat}(h:(T16 v)[j+1]?=some y):y=JA:=by
 unfold T16 at h
 grind
theorem Jwa(v:JJ):(T16 v).size=27:=by simp[T16]
def WR.Jwb{C:Cx}{ok:JG->Code->Prop}{X:JB}{w1 w':JE}(h:WR C ok (idE X) w1 w')(Ae:C.st=false){b:Nat}(hb:X b){arr:JC}{t:JH}{fz:Nat × Nat}(ho:w1.heap[b]?=some (.cells arr t fz)):w'.heap[b]?=some (.cells arr t fz):=by
 have Ac:=(h.dom b b ⟨rfl,hb⟩).2;obtain⟨c',FU,e1,e2,e3,e4⟩:=h.obj b b _ _ ⟨rfl,hb⟩ ho (Bz Ac);rw[Bz Ac,e1,(e4 (C.lax Ae b)).1];have:arr=c':=by
  apply Ll;intro i;by_cases hi:i<arr.size
  .have h1:arr[i]?=some arr[i]:=Bz hi;have h2:c'[i]?=some (c'[i]'(e2.size▸hi)):=Bz _;rw[h1,h2,(e2.at_ i _ _ h1 h2).eq (λa b h=>h.1)]
  .rw[Cc (by omega),Cc (by have:=e2.size;omega)]
 rw[this]
def Jzp{v:JJ}{n at_:Int}{w:JE}{ds:List Deferred}{Q:Exit->Act->JE->Prop}(h:bQ w v n at_)(hQ:∀T':JC,T'.size=27->T'[2]?=some (JK n)->T'[3]?=some (JK at_)->∀w',Tch w.heap.size M0 w w'->Q .ret ⟨T',ds⟩ w'):b16.wp prog Q ⟨T16 v,ds⟩ w:=by
 obtain⟨ht,⟨t0,h0⟩,_⟩:=h;have hg:Sz w:=(cell_of h0 0).trans rfl;cases ht with
 |nil=>rw[J03e];exact J0az λT' s a b=>hQ T' s a b w .refl
 |errno n=>exact J09f hg hQ
def J03i{v:JJ}(hB:BOk C0 S0 W E w):∀b,EB v b->E b:=by
 rintro b (rfl|rfl)
 .have:=hB.hnd
  rwa [show C0.P.globals.size=1 from Wv]at this
 .exact hB.gl 0 rfl
def Jwc{C:Cx}{S:Kn}{w':JE}(h:BOk C S W E w)(Ae:C.st=false)(hk:∀b,E b->w'.heap[b]?=w.heap[b]?):BOk C S W E w':=by
 have lt:∀b,E b->b<w'.heap.size:=λb hb=>by
  have h1:=hk b hb;rw[Bz (h.lt hb)]at h1
  grind
 refine⟨⟨rfl,λb b' ⟨e,k⟩=>(by grind),h.wr.fn,h.wr.inj,λb k=>(C.lax Ae b k).elim,λb b' o o' k x x'=>?_,h.wr.lid,λ_=>rfl,λe=>by grind⟩,h.hnd,h.gl,h.dis⟩;obtain⟨rfl,hb⟩:=k;rw[hk b hb]at x x';exact h.wr.obj b b o o' ⟨rfl,hb⟩ x x'
def Jpa{v:JJ}{n at_:Int}{ops:Array Oper}{i:Nat}{rest:List Nat}{o:Oper}{x:Tmp}{NU:Array JH}(hB:BOk C0 S0 W E w)(hT:bQ w v n at_)
  (ho:ops[i]?=some o) (hw:Region.wanted o (yielded ops a₀.tmps)=true) (hk:b₀.kind≠.early) (Ar:o.op=.call { callee:=.value (.func 16),args:=#[.tmp x],argTypes:=NU }) (hx:a₀.tmps.getD x JA=v)
  (kn:∀w',BOk C0 S0 W E w'->(∀b,E b\/W b->w'.heap[b]?=w.heap[b]?)->w.heap.size<=w'.heap.size->Reach prog Post W (G (b₀.at (a₀.put o.dst (.tuple #[JK n,JK at_])) (.inRegion ops rest::k)) cs) w') :
  Reach prog Post W (G (b₀.at a₀ (.inRegion ops (i::rest)::k)) cs) w:=by
 have hE:=J03i (v:=v) hB;refine Reach.mid (Mid:=λg' w'=>g'=G (b₀.at (a₀.put o.dst (.tuple #[JK n,JK at_])) (.inRegion ops rest::k)) cs/\BOk C0 S0 W E w'/\(∀b,E b->w'.heap[b]?=w.heap[b]?)/\w.heap.size<=w'.heap.size) ?_ λg' w' ⟨e,h1,h2,h3⟩ hK=>by
  grind
 refine Reach.call ho hw hk Ar (show prog.funcs[16]?=some f16 by kernel_rfl) (by kernel_rfl) J03d λd=>?_;have LH:f16.ntmps=27:=by kernel_rfl
 have CB:(#[Operand.tmp x]:Array Operand).map a₀.eval++Array.replicate (f16.ntmps-((#[Operand.tmp x]:Array Operand).map a₀.eval).size) JA=T16 v:=by
  have hm:(#[Operand.tmp x]:Array Operand).map a₀.eval=#[v]:=by simp[Act.eval,<- hx]
  have hz:(27-(#[v]:JC).size)=26:=by simp
  rw[LH,hm,hz];unfold T16;rfl
 rw[CB];have hT':bQ (w.at d) v n at_:=by
  obtain⟨ht,h0,h1⟩:=hT;exact⟨by cases ht with
    |nil=>exact .nil
    |errno n=>exact .errno n,h0,h1⟩
 have Dt:BOk C2 S2 W (EB v) (w.at d):=hT'.bok λb hb hw=>hB.dis b hw (hE b hb);have ht16:TmR C2 S2 16 (idE (EB v)) (T16 v) (T16 v):=by
  have Iw:VR C2 (idE (EB v)) v v:=by
   obtain⟨ht,_⟩:=hT;cases ht with
   |nil=>exact .nilIface
   |errno n=>exact .iface 39 (all2 39) (.int _ _)
  have z0:=J061 v;have zs:=λj y=>J062 (v:=v) (y:=y) (j:=j);generalize T16 v=T0 at z0 zs ⊢;refine⟨rfl,λj y y' hj h1 h2=>?_,λj y hj _=>by cases hj⟩;rw[h1]at h2;cases h2
  match j with
  |0=>
   grind
  |j+1=>
   obtain rfl:=zs _ _ h1;exact .undef
 refine Reach.J03g (b:=base 16) (V:=λb=>E b/\¬EB v b) (Q:=λT' w1=>T'.size=27/\T'[2]?=some (JK n)/\T'[3]?=some (JK at_)/\∀b,b<w.heap.size->w1.heap[b]?=w.heap[b]?) J036 rfl ok16 ⟨f16,by kernel_rfl,by kernel_rfl,by kernel_rfl⟩ rfl (by show[1000]≠[];simp) (by simp[base]) Dt (λb hb=>⟨hB.lt hb.1,hb.2⟩) ht16 (λτ=>?_) λE' T' w1 w' todo hE' Gq BQ yE hV Ag ⟨s1,s2,s3,t1⟩=>?_
 .refine Jzp (h:=?_) λT' s1 s2 s3 w' t1=>⟨rfl,λi hi=>?_,s1,s2,s3,λb hb=>t1.heap b hb λh=>h⟩
  .obtain⟨ht,h0,h1⟩:=hT;exact⟨by cases ht with
    |nil=>exact .nil
    |errno n=>exact .errno n,h0,h1⟩
  .have:i=1000:=by have:(C2.hl 16).contains i=true:=hi;simpa[C2]using this
   grind[Array.getElem?_eq_none,Jwa]
 .have same:∀b,EB v b->w'.heap[b]?=w.heap[b]?:=by
   have go:∀b arr t,EB v b->w.heap[b]?=some (.cells arr t (0,0))->w'.heap[b]?=some (.cells arr t (0,0)):=λb arr t hb hc=>
    WR.Jwb BQ rfl (hE' b hb) ((t1 b (bJ hc)).trans hc)
   intro b hb;obtain⟨ht,⟨t0,h0⟩,arr,t2,h1,_⟩:=hT;rcases hb with rfl|rfl
   .rw[h1];exact go 1 _ _ (.inl rfl) h1
   .rw[h0];exact go 0 _ _ (.inr rfl) h0
  have keep:∀b,E b->w'.heap[b]?=w.heap[b]?:=λb hb=>by
   by_cases h:EB v b
   .grind
   .exact hV b ⟨hb,h⟩
  refine Reach.J03h (B:=base 16) (a:=⟨T',[]⟩) rfl rfl (show prog.funcs[16]?=some f16 by kernel_rfl) (show f16.results=#[.tmp 2,.tmp 3] by kernel_rfl) λd2=>Reach.here ⟨rfl,?_,((Jwc hB rfl keep).at d2),keep,Ag⟩
  simp_all
end
section
variable{P:Program}{W:JB}{w:JE}{g:JF}{Post Mid:(JB)->JF->JE->Prop}
def Reach.Jg9(h:Reach P Mid W g w)(k:∀W' g' w',Mid W' g' w'->(∀b,W b->W' b)->(∀b,W b->w'.heap[b]?=w.heap[b]?)->Reach P Post W' g' w'):Reach P Post W g w:=
 h.kept.bind λW' g' w' ⟨hm,hK⟩=>k W' g' w' hm hK.le hK.keep
end
section
variable{W E:JB}{w:JE}{fn:JG}{c rest:Code}{t:JC}{k:List Item}{cs:List Frame}{Post:(JB)->JF->JE->Prop}
def J0am{Q:JC->JE->Prop}(Sl:List Nat)(hl:∀i,(C0.hl fn).contains i=true->i∈Sl\/500<=i)(Ap:C0.hl fn≠[])(hok:Ji C0 S0 fn c=true)(hb:GY C0 fn)(Nk:S0.df.contains fn=false)(hB:BOk C0 S0 W E w)(ht:TmR C0 S0 fn (idE E) t t)(Ag:t.size<=500)
  (K:∀τ,c.wp prog (λe a w1=>e=.normal/\a.tmps.size<=500/\(∀i∈Sl,a.tmps[i]?=t[i]?)/\Q a.tmps w1) ⟨t,[Jq]⟩ (w.tp τ 0))
  (kn:∀E' t' w1 w',(∀b,E b->E' b)->BOk C0 S0 W E' w'->WR C0 (okP C0 S0) (idE E') w1 w'->TmR C0 S0 fn (idE E') t' t'->Q t' w1->(∀b,W b->w'.heap[b]?=w.heap[b]?)->Reach prog Post W (G ((Go.Conc.base fn).at ⟨t',[]⟩ k) cs) w') :
  Reach prog Post W (G ((Go.Conc.base fn).at ⟨t,[]⟩ (.code c::k)) cs) w:=by
 refine Reach.mid (Mid:=λg' w'=>∃E' t' w1,g'=G ((Go.Conc.base fn).at ⟨t',[]⟩ k) cs/\(∀b,E b->E' b)/\BOk C0 S0 W E' w'/\WR C0 (okP C0 S0) (idE E') w1 w'/\TmR C0 S0 fn (idE E') t' t'/\Q t' w1) ?_ λg' w' ⟨E',t',w1,e,h1,h2,h3,h4,h5⟩ hK=>?_
 .refine Reach.piece (b:=Go.Conc.base fn) (k:=k) KY rfl hok hb Nk Ap (by simp[Go.Conc.base]) hB ht (Q:=λe t w1=>e=.normal/\Q t w1) (λτ=>?_) (λE1 t1 w1 Am AQ CV AP Az DN=>Reach.here ⟨rfl,E1,t1,w1,rfl,AQ,CV,AP,Az,DN.2⟩) (λE1 t1 w1 Am todo AQ CV AP Az DN=>by cases DN.1);refine wp_mono (K τ) λe a w1 ⟨h1,h2,h0,h3⟩=>⟨.inl h1,λi hi=>?_,h1,h3⟩;rcases hl i hi with h|h
  all_goals grind
 grind
def iT(d:Nat)(hd:12<=d/\d<30){Q:JC->JE->Prop}(hok:Ji C0 S0 6 c=true)(hB:BOk C0 S0 W E w)(ht:TmR C0 S0 6 (idE E) t t)(Ag:t.size=143)
  (K:∀τ (R:Exit->Act->JE->Prop),(∀T' w1,T'.size=143->(∀i∈kX d,T'[i]?=t[i]?)->Q T' w1->R .normal ⟨T',[Jq]⟩ w1)->c.wp prog R ⟨t,[Jq]⟩ (w.tp τ 0))
  (kn:∀E' t' w1 w',(∀b,E b->E' b)->BOk C0 S0 W E' w'->WR C0 (okP C0 S0) (idE E') w1 w'->TmR C0 S0 6 (idE E') t' t'->t'.size=143->(∀i∈kX d,t'[i]?=t[i]?)->Q t' w1->(∀b,W b->w'.heap[b]?=w.heap[b]?)->Reach prog Post W (G ((Go.Conc.base 6).at ⟨t',[]⟩ (.code rest::k)) cs) w') :
  Reach prog Post W (G ((Go.Conc.base 6).at ⟨t,[]⟩ (.code (.seq c rest)::k)) cs) w:=
 Ql [1,2,3,30,32,47,56,58] (λ_=>hlX) qV hok Jew rfl hB ht (by omega) (Q:=λt' w1=>t'.size=143/\(∀i∈kX d,t'[i]?=t[i]?)/\Q t' w1)
  (λτ=>K τ _ λT' w1 h1 h2 h3=>⟨rfl,by grind,λi hi=>h2 i (iC hd hi),h1,h2,h3⟩)
  λE' t' w1 w' le Gq hW' xZ ⟨q1,q2,q3⟩ kw=>kn E' t' w1 w' le Gq hW' xZ q1 q2 q3 kw
def J06l(d:Nat)(hd:12<=d/\d<30){Q:JC->Prop}(hok:Ji C0 S0 6 c=true)(hB:BOk C0 S0 W E w)(ht:TmR C0 S0 6 (idE E) t t)(Ag:t.size=143)
  (K:∀τ (R:Exit->Act->JE->Prop),(∀T',T'.size=143->(∀i∈kX d,T'[i]?=t[i]?)->Q T'->R .normal ⟨T',[Jq]⟩ (w.tp τ 0))->c.wp prog R ⟨t,[Jq]⟩ (w.tp τ 0))
  (kn:∀E' t' w',(∀b,E b->E' b)->BOk C0 S0 W E' w'->KE E w w'->TmR C0 S0 6 (idE E') t' t'->t'.size=143->(∀i∈kX d,t'[i]?=t[i]?)->Q t'->(∀b,W b->w'.heap[b]?=w.heap[b]?)->Reach prog Post W (G ((Go.Conc.base 6).at ⟨t',[]⟩ k) cs) w') :
  Reach prog Post W (G ((Go.Conc.base 6).at ⟨t,[]⟩ (.code c::k)) cs) w:=
 J0am [1,2,3,30,32,47,56,58] (λ_=>hlX) qV hok Jew rfl hB ht (by omega) (Q:=λt' w1=>t'.size=143/\(∀i∈kX d,t'[i]?=t[i]?)/\Q t'/\w1.heap=w.heap)
  (λτ=>K τ _ λT' h1 h2 h3=>⟨rfl,by grind,λi hi=>h2 i (iC hd hi),h1,h2,h3,rfl⟩)
  λE' t' w1 w' le Gq hW' xZ ⟨q1,q2,q3,q4⟩ kw=>kn E' t' w' le Gq ((KE.of_eq λb _=>by rw[q4]).trans ((Jt rfl hW').mono le)) xZ q1 q2 q3 kw
end
def FV.far{la:JI}{n cap k:Nat}{T0 T T':JC}(h:FV la n cap k T0 T)(Ag:T'.size=143)(hk:∀i,i<18->T'[i]?=T[i]?):FV la n cap k T0 T':=by
 obtain⟨h1,h2,h3,h4⟩:=h;refine⟨Ag,(hk 3 (by omega)).trans h2,(hk 17 (by omega)).trans h3,λi hi=>?_⟩
 grind
def jK(w:JE)(la:JI)(xs:JD):Prop:=∀k x,xs[k]?=some x->I64 x/\∃b o,la=some ⟨b,o,none⟩/\w.cell? ⟨b,o+k,none⟩=some (JK x)
structure SX(WI:JB)(wI:JE)(X0 X Ei:JB)(wi:JE)(hs:Int->Int)(gs:List Jd)(ga:JI)(c2:Nat)(c:Int)(x:Nat)(cx:J7)(hx:JJ)(nx:Int)(vx:Nat)(px:Nat->Option Nat)(Sx:Nat->List TR)(y:Nat)(cy:J7)(hy:JJ)(ny:Int)(vy:Nat)(fs:List Jd)(T0:JC)(la:JI)(n cap k:Nat)(W E:JB)(T:JC)(w:JE):Prop where
 bok:BOk C0 S0 W E w
 tm:TmR C0 S0 6 (idE E) T T
 F:FV la n cap k T0 T
 s:∃py Sy,S6 X0 X Ei wi hs gs ga c2 c x cx hx nx vx px Sx y cy hy ny vy py Sy E w/\VwF cy hs py fs Sy
 wI:∀b,WI b->W b/\w.heap[b]?=wI.heap[b]?
section
variable{WI X0 X Ei:JB}{wI wi:JE}{hs:Int->Int}{fs gs:List Jd}{ga:JI}{c2:Nat}{c:Int}{x:Nat}{cx:J7}{hx:JJ}{nx:Int}{vx:Nat}{px:Nat->Option Nat}{Sx:Nat->List TR}{y:Nat}{cy:J7}{hy:JJ}{ny:Int}{vy:Nat}{T0 T:JC}{la:JI}{n cap k:Nat}{xs:JD}{W E:JB}{w:JE}{kk:List Item}{cs:List Frame}{Post:(JB)->JF->JE->Prop}
theorem J0c8{E:JB}{e:JJ}{n a:Int}{w:JE}(h:Jmb w e n a):VR C0 (idE E) e e:=by
 cases h with
 |nil=>exact .nilIface
 |errno n=>exact .iface 39 (by kernel_rfl) (.int _ _)
def J0c9(st:SX WI wI X0 X Ei wi hs gs ga c2 c x cx hx nx vx px Sx y cy hy ny vy fs T0 la n cap k W E T w)(hk:k<n)(BX:k<10)(hV:jK wI la xs)(hn:xs.length=n)(hVW:∀a,la=some a->WI a.block)(hVT:∀a,la=some a->∀c z,wI.heap[a.block]?≠some (.cells c wgT z))
  (fK:Ei 0) (hE1:Ei 1) (hG0:∃t,wi.heap[0]?=some (.cells #[.iface 226 (.agg #[.pointer (some ⟨1,33,none⟩)])] t (0,0))) (hG1:∃arr t,wi.heap[1]?=some (.cells arr t (0,0))/\∀x∈arr.toList,∃k n,x=.int k n)
  (t16:T0[16]?=some (pt y)) (hh:∀y,0<=hs y/\hs y<=18446744073709551615)
  (kn:∀W' E' T' w',SX WI wI X0 X Ei wi hs gs ga c2 c x cx hx nx vx px Sx y cy hy ny vy fs T0 la n cap (k+1) W' E' T' w'->Reach prog Post W' (G ((Go.Conc.base 6).at ⟨T',[]⟩ kk) cs) w') :
  Reach prog Post W (G ((Go.Conc.base 6).at ⟨T,[]⟩ (.code (.seq (.block 1 (.seq (.region 10 (qX 0) false) (.seq (.region 11 (qX 1) false) (.seq (gX 2) (.seq (.region 14 (qX 3) false) (bX 4)))))) iX)::kk)) cs) w:=by
 obtain⟨hB,ht,F,⟨py,Sy,st,tf⟩,hWI⟩:=st;obtain⟨v,hv⟩:∃v,xs[k]?=some v:=⟨xs[k]'(by omega),DL _⟩;obtain⟨hvI,b,o,Qa,hc⟩:=hV k v hv;have Xm:=hVW _ Qa;have hTb:=hVT _ Qa;obtain⟨hWb1,hWb2⟩:=hWI _ Xm;have hcw:w.cell? ⟨b,o+k,none⟩=some (JK v):=by grind[World.cell?_of_block]
 have H:HS 6 W E w E T w:=⟨hB,λ_ h=>h,.refl,λ_ _=>rfl,ht,rfl,Ad _⟩;refine J6 (λw1=>stepG_seq) rfl λd1=>?_;refine J6 (λw1=>stepG_block) rfl λd2=>?_;refine J6 (λw1=>stepG_seq) rfl λd3=>?_;refine J0ct (((H.at d1).at d2).at d3) F Qa hk hWb1 (by show∀c z,w.heap[b]?≠_;grind) hcw hvI λE2 T2 w2 H2 F2 n18 _ _=>?_;have v16:T2[16]?=some (pt y):=(F2.same 16 (by simp)).trans t16;have hpk:=Yr (c:=v) (n:=7) (by omega);obtain⟨m,hm⟩:∃m:Nat,Jr v 7=m:=⟨(Jr v 7).toNat,by omega⟩;rw[hm]at n18 hpk;have z2:=F2.sz;have BA:((qX 1)[2]?).bind aG=some (63,20,#[.tmp 61,.tmp 62]):=by kernel_rfl
 refine jS (m:=2) (l:=[(61,.tmp 16),(62,.tmp 18)]) (rest:=[3]) H2 rfl (by kernel_rfl) (by kernel_rfl) BA (by kernel_rfl) (show prog.funcs[20]?=some f20 by kernel_rfl) (by kernel_rfl) J0cj λw3 H3 e3 z3 k3=>?_;have x61:(mvT T2 [(61,.tmp 16),(62,.tmp 18)])[61]?=some (pt y):=by
  show((T2.setIfInBounds 61 (T2.getD 16 JA)).setIfInBounds 62 _)[61]?=_
  simp_all
 have x62:(mvT T2 [(61,.tmp 16),(62,.tmp 18)])[62]?=some (JK m):=by
  show((T2.setIfInBounds 61 (T2.getD 16 JA)).setIfInBounds 62 ((T2.setIfInBounds 61 (T2.getD 16 JA)).getD 18 JA))[62]?=_
  simp_all
 generalize mvT T2 [(61,.tmp 16),(62,.tmp 18)]=T3 at *;have ea:(#[Operand.tmp 61,.tmp 62].map (Act.eval ⟨T3,[]⟩))++Array.replicate (f20.ntmps-(#[Operand.tmp 61,.tmp 62].map (Act.eval ⟨T3,[]⟩)).size) JA=tmV y m:=by
  have LH:f20.ntmps=49:=by kernel_rfl
  have h1:(#[Operand.tmp 61,.tmp 62].map (Act.eval ⟨T3,[]⟩))=#[pt y,JK m]:=by simp[Act.eval,Bq,x61,x62]
  rw[LH,h1];rfl
 rw[ea];clear ea;have s3:=st.to H3.ke H3.le;obtain⟨o',Em,Gu⟩:=Gl.1 BA;obtain⟨_,NZ,_⟩:=vI Gu;refine Reach.Jg9 (Mid:=λW' g' w'=>∃E' e LY S',kY e/\(∀b,E2 b->E' b)/\BOk C0 S0 W' E' w'/\KE (λb=>E2 b/\b≠vy) w3 w'/\FK X E' w' y cy c hy hs ny vy LY S'/\VwF cy hs LY fs S'/\g'=G ((Go.Conc.base 6).at ⟨T3.setIfInBounds 63 e,[]⟩ (.inRegion (qX 1) [3]::.code (.seq (gX 2) (.seq (.region 14 (qX 3) false) (bX 4)))::.inBlock 1::.code iX::kk)) cs)
  (J098 H3.bok s3.qy tf s3.XE (s3.le _ s3.XH) (by omega) hh λW4 E4 w4 e LY S' q1 q2 q3 q4 q5 q6=>Reach.here ⟨E4,e,LY,S',q1,q2,q3,q4,q5,q6,by rw[Em];simp only[Option.bind_some,NZ];rfl⟩) λW4 g4 w4 ⟨E4,e,py4,Sy4,hve,Td,KH,k4,q4,tf4,eg⟩ leW kW=>?_
 subst eg;have s4:=s3.turn k4 Td q4;have kW4:∀b,W b->w4.heap[b]?=w.heap[b]?:=λb hb=>(kW b hb).trans (H3.kw b hb);have Jgh:∀b,WI b->W4 b/\w4.heap[b]?=wI.heap[b]?:=λb hb=>⟨leW b (hWI b hb).1,(kW4 b (hWI b hb).1).trans (hWI b hb).2⟩;have tl:∃n a,Jmb w4 e n a/\(n=0\/n=6\/n=4):=by
  rcases hve with rfl|rfl|rfl
  .exact⟨_,_,.nil,.inl rfl⟩
  .exact⟨_,_,.errno 6,.inr (.inl rfl)⟩
  .exact⟨_,_,.errno 4,.inr (.inr rfl)⟩
 have vE:VR C0 (idE E4) e e:=by grind[J0c8]
 have HD:HS 6 W4 E4 w4 E4 T3 w4:=⟨KH,λ_ h=>h,.refl,λ_ _=>rfl,H3.tm.mono (Oj Td),rfl,Ad _⟩;have z3':T3.size=143:=by omega
 refine J0ah (m:=3) (d:=63) (v:=e) (l2:=[(19,.tmp 63)]) HD (.inr vE) (by kernel_rfl) (by kernel_rfl) λw5 H5 e5=>?_;have z5:(mvT (T3.setIfInBounds 63 e) [(19,.tmp 63)]).size=143:=by grind[qQ]
 have k5:∀i,i<19->(mvT (T3.setIfInBounds 63 e) [(19,.tmp 63)])[i]?=T2[i]?:=λi hi=>by
  grind[uP,Array.getElem?_setIfInBounds_ne]
 have n19:(mvT (T3.setIfInBounds 63 e) [(19,.tmp 63)])[19]?=some e:=by
  show((T3.setIfInBounds 63 e).setIfInBounds 19 ((T3.setIfInBounds 63 e).getD 63 JA))[19]?=_
  simp_all
 generalize mvT (T3.setIfInBounds 63 e) [(19,.tmp 63)]=T5 at *;have s5:=s4.to H5.ke λ_ h=>h;have F5:=F2.far z5 λi hi=>k5 i (by omega);have Jex:∀b,WI b->W4 b/\w5.heap[b]?=wI.heap[b]?:=λb hb=>⟨(Jgh b hb).1,by grind⟩;refine iT 19 (by omega) (Q:=λT' w1=>∃u,T'[19]?=some u/\((u=e/\w1.heap=w5.heap)\/((u=.nilIface\/u=.iface 39 (JK 7))/\(∃LY,HY w1 vy LY/\(∀k b,LY k=some b->py4 k=some b)/\LY 7=py4 7)/\∀b,b<w5.heap.size->b≠vy->w1.heap[b]?=w5.heap[b]?))) qY.1 H5.bok H5.tm z5 (λτ R h=>by
  have hdr:=J08p (w:=w5.tp τ 0) (v:=m) (s5.qy.q.cube.kept rfl rfl) (by omega);exact J0bp (w:=w5.tp τ 0) (i:=k) (m:=m) (v:=e) (R:=λu w'=>(u=.nilIface\/u=.iface 39 (JK 7))/\(∃LY,HY w' vy LY/\(∀k b,LY k=some b->py4 k=some b)/\LY 7=py4 7)/\∀b,b<w5.heap.size->b≠vy->w'.heap[b]?=w5.heap[b]?) BX (hdr.mono λe w' ⟨⟨LY,q1,q2,q3,q4⟩,q5⟩=>by
   rcases q1 with rfl|rfl
   .exact⟨_,rfl,.inl rfl,⟨LY,q2,q3,q4⟩,λb hb hn=>q5.heap b hb hn⟩
   .exact⟨_,rfl,.inr rfl,⟨LY,q2,q3,q4⟩,λb hb hn=>q5.heap b hb hn⟩) z5 ((k5 16 (by omega)).trans v16) F5.s17 ((k5 18 (by omega)).trans n18) n19 λT' w' u g1 g2 g3 g4=>h T' w' g1 g2 ⟨u,g3,g4.imp (λg=>⟨g.1,by rw[g.2];rfl⟩) λg=>g⟩) λE6 T6 wb6 w6 XV SB SH V8 s6 m6 ⟨u,n19',hu⟩ kw6=>?_
 have l6:=Jt rfl SH;obtain⟨py6,Sy6,s6',tf6,n6,a6,htl,hn6⟩:∃py6 Sy6,S6 X0 X Ei wi hs gs ga c2 c x cx hx nx vx px Sx y cy hy ny vy py6 Sy6 E6 w6/\VwF cy hs py6 fs Sy6/\∃n a,(∀w,Jmb w u n a)/\(n=0\/n=4\/n=6\/n=7):=by
  rcases hu with⟨rfl,hw⟩|⟨hu,⟨LY,q2,q3,q4'⟩,q5⟩
  .obtain⟨n,a,h1,h2⟩:=tl;refine⟨py4,Sy4,s5.to ((KE.of_eq λb _=>by rw[hw]).trans (l6.mono XV)) XV,tf4,n,a,λw=>?_,by omega⟩;cases h1 with
   |nil=>exact .nil
   |errno n=>exact .errno n
  .have k56:KE (λb=>E4 b/\b≠vy) w5 w6:=(KE.of_eq λb hb=>q5 b (H5.bok.lt hb.1) hb.2).trans (l6.mono λb hb=>XV b hb.1);have xE:=s5.qy.q.xE;have hxv:y≠vy:=Ne.symm s5.qy.dV.2;have cu1:DU wb6 y cy c hy ny vy LY:=⟨s5.qy.q.cube.blk.kept (q5 y (H5.bok.lt xE.1) hxv),q2⟩;have cu6:=KE.cube cu1 (XV _ xE.1) (XV _ xE.2) l6;obtain⟨qn,tn⟩:=s5.qy.fewer tf4 s5.XE s5.H (s5.qy.far _ (s5.le _ s5.XH)).1 XV k56 cu6 q3 q4';rcases hu with rfl|rfl
   .exact⟨LY,Sy4,s5.turn k56 XV qn,tn,0,0,λw=>.nil,by omega⟩
   .exact⟨LY,Sy4,s5.turn k56 XV qn,tn,7,-1,λw=>.errno 7,by omega⟩
 have F6:=F5.kept (.inr (by omega)) s6 m6;have Jf1:∀b,WI b->W4 b/\w6.heap[b]?=wI.heap[b]?:=λb hb=>⟨(Jex b hb).1,(kw6 b (Jex b hb).1).trans (Jex b hb).2⟩;clear hu l6 SH m6 s5 s4 q4 tf4 F5 Jex Jgh kw6 k5 H5 HD vE tl kW4 k4 s3 H3 H2;have H6:HS 6 W4 E6 w6 E6 T6 w6:=⟨SB,λ_ h=>h,.refl,λ_ _=>rfl,V8,rfl,Ad _⟩;refine J6 (λw1=>stepG_seq) rfl λd4=>?_;refine J6 (λw1=>stepG_region) rfl λd5=>?_;rw[show List.range (qX 3).size=List.range' 0 1++[1,2,3,4,5,6]from by kernel_rfl];refine Y5 (l:=[(71,.tmp 19)]) ((H6.at d4).at d5) (by kernel_rfl) (by kernel_rfl) λw7 H7 e7=>?_;have x71:mvT T6 [(71,.tmp 19)]=T6.setIfInBounds 71 u:=by simp[mvT,Act.eval,Bq,n19']
 rw[x71]at H7 ⊢;have e7':w7.heap=w6.heap:=e7;obtain⟨o,ho,hp⟩:∃o,(qX 3)[1]?=some o/\aG o=some (72,16,#[.tmp 71]):=Gl.1 (by kernel_rfl);obtain⟨g1,g2,ty,g3⟩:=vI hp;refine Jpa (v:=u) (n:=n6) (at_:=a6) H7.bok ⟨htl _,by obtain⟨t,ht⟩:=hG0;exact⟨t,by rw[e7'];exact s6'.ke 0 _ fK ht trivial⟩,by obtain⟨arr,t,ht,hp⟩:=hG1;exact⟨arr,t,by rw[e7'];exact s6'.ke 1 _ hE1 ht trivial,hp⟩⟩ ho (by simp[Region.wanted,g1]) (by simp[Go.Conc.base]) g3 (by simp_all) λw8 vX kG sG=>?_;rw[g2];have vt:VR C0 (idE E6) (.tuple #[JK n6,JK a6]) (.tuple #[JK n6,JK a6]):=.tuple rfl λi x x' h1 h2=>by
  rw[h1]at h2;cases h2
  match i with
  |0=>cases h1;exact .int _ _
  |1=>cases h1;exact .int _ _
  |i+2=>simp at h1
 have HG:=H7.to vX (λ_ h=>h) (KE.of_eq λb hb=>kG b (.inl hb)) (λb hb=>kG b (.inr hb)) sG;have HH:=HG.put (HG.set (s:=72) (.inr vt));refine J0b0 (i:=2) (sR:=72) (sT:=70) (sA:=73) (sB:=74) (sX:=20) (sY:=21) HH (FC (by simp;omega)) (.int _ _) (.int _ _) (by simp;omega) (by omega) ⟨Ym (by omega),Ym (by omega),Ym (by omega)⟩ (by kernel_rfl) λT9 w9 H9 s9 n20 _ m9 e9=>?_;have z9:T9.size=143:=by grind
 have F9:=F6.far z9 λi hi=>by
  grind[Array.getElem?_setIfInBounds_ne]
 have s9':=s6'.to H9.ke λ_ h=>h;have Jey:∀b,WI b->W4 b/\w9.heap[b]?=wI.heap[b]?:=λb hb=>⟨(Jf1 b hb).1,(H9.kw b (Jf1 b hb).1).trans (Jf1 b hb).2⟩;refine J06l 12 (by omega) (Q:=λ_=>True) qY.2.1 H9.bok H9.tm z9 (λτ R h=>J0bq hn6 z9 n20 λT' s k=>h T' s k trivial) λmJ T10 qJ le10 Jp5 k10 Jz9 yY m10 _ kw10=>?_;have F10:=F9.kept (.inl rfl) yY m10;refine J6 (λw1=>stepG_inBlock) rfl λd6=>?_;have s11:=(s9'.to k10 le10).to (.of_eq (λb _=>rfl):KE mJ qJ (qJ.at d6)) λ_ h=>h;refine J06l 17 (by omega) (Q:=λT'=>T'[17]?=some (JK (k+1:Nat))) qY.2.2.2 (Jp5.at d6) Jz9 yY (λτ R h=>J0cs (by omega) yY F10.s17 λT' s k e=>h T' s k e) λE11 T11 yA Jkj hB11 k11 ht11 ZM m11 n17 kw11=>?_;refine kn W4 E11 T11 yA ⟨hB11,ht11,⟨ZM,(m11 3 (by decide)).trans F10.s3,n17,λi hi=>?_⟩,⟨py6,Sy6,s11.to k11 Jkj,tf6⟩,λb hb=>⟨(Jey b hb).1,?_⟩⟩
 .refine(m11 i ?_).trans (F10.same i hi);simp only[AL,BU,or_false]at hi;rcases hi with rfl|rfl|rfl|rfl|rfl|rfl|rfl<;>decide
 .exact(kw11 b (Jey b hb).1).trans ((kw10 b (Jey b hb).1).trans (Jey b hb).2)
def SX.put{T':JC}{w':JE}(st:SX WI wI X0 X Ei wi hs gs ga c2 c x cx hx nx vx px Sx y cy hy ny vy fs T0 la n cap k W E T w)(H:HS 6 W E w E T' w')(hw:w'.heap=w.heap)(F:FV la n cap k T0 T'):SX WI wI X0 X Ei wi hs gs ga c2 c x cx hx nx vx px Sx y cy hy ny vy fs T0 la n cap k W E T' w':=by obtain⟨_,_,_,⟨py,Sy,s,tf⟩,hWI⟩:=st;exact⟨H.bok,H.tm,F,⟨py,Sy,s.to H.ke λ_ h=>h,tf⟩,λb hb=>⟨(hWI b hb).1,by grind⟩⟩
def SX.go(st:SX WI wI X0 X Ei wi hs gs ga c2 c x cx hx nx vx px Sx y cy hy ny vy fs T0 la n cap k W E T w):HS 6 W E w E T w:=⟨st.bok,λ_ h=>h,.refl,λ_ _=>rfl,st.tm,rfl,Ad _⟩
theorem SX.at(st:SX WI wI X0 X Ei wi hs gs ga c2 c x cx hx nx vx px Sx y cy hy ny vy fs T0 la n cap k W E T w)(d:Nat):SX WI wI X0 X Ei wi hs gs ga c2 c x cx hx nx vx px Sx y cy hy ny vy fs T0 la n cap k W E T (w.at d):=st.put (st.go.at d) rfl st.F
def J07g(hV:jK wI la xs)(hn:xs.length=n)(hVW:∀a,la=some a->WI a.block)(hVT:∀a,la=some a->∀c z,wI.heap[a.block]?≠some (.cells c wgT z))
  (fK:Ei 0) (hE1:Ei 1) (hG0:∃t,wi.heap[0]?=some (.cells #[.iface 226 (.agg #[.pointer (some ⟨1,33,none⟩)])] t (0,0))) (hG1:∃arr t,wi.heap[1]?=some (.cells arr t (0,0))/\∀x∈arr.toList,∃k n,x=.int k n)
  (t16:T0[16]?=some (pt y)) (hh:∀y,0<=hs y/\hs y<=18446744073709551615)
  (kn:∀W' E' T' w' k,SX WI wI X0 X Ei wi hs gs ga c2 c x cx hx nx vx px Sx y cy hy ny vy fs T0 la n cap k W' E' T' w'->Reach prog Post W' (G ((Go.Conc.base 6).at ⟨T',[]⟩ kk) cs) w') :
  ∀(d k:Nat)(W E:JB)(T:JC)(w:JE),min n 10-k=d->k<=min n 10->SX WI wI X0 X Ei wi hs gs ga c2 c x cx hx nx vx px Sx y cy hy ny vy fs T0 la n cap k W E T w ->
   Reach prog Post W (G ((Go.Conc.base 6).at ⟨T,[]⟩ (.code lX::.inLoop lX::.inBlock 0::kk)) cs) w:=by
 intro d;have tst:∀{k:Nat}{W E:JB}{T:JC}{w:JE}{l:List Item},SX WI wI X0 X Ei wi hs gs ga c2 c x cx hx nx vx px Sx y cy hy ny vy fs T0 la n cap k W E T w->(∀T' w',SX WI wI X0 X Ei wi hs gs ga c2 c x cx hx nx vx px Sx y cy hy ny vy fs T0 la n cap k W E T' w'->T'[53]?=some (.bool (decide (k<n) && decide ((k:Int)<10)))->Reach prog Post W (G ((Go.Conc.base 6).at ⟨T',[]⟩ l) cs) w')->Reach prog Post W (G ((Go.Conc.base 6).at ⟨T,[]⟩ (.code (.region 8 tX false)::l)) cs) w:=λ{k W E T w l} st kn=>
  Jev (d:=46) (i:=17) (s:=3) (N:=10) (ty:=24) st.go (by kernel_rfl) st.F.s17 st.F.s3 (by omega) (by omega) (by have:=st.F.sz;omega) (by kernel_rfl) (λ_ _=>⟨rfl,rfl⟩) λT' w' H' hz hs PN hh=>kn T' w' (st.put H' hh (st.F.far (hz.trans st.F.sz) λj hj=>hs j (by omega))) PN
 induction d with
 |zero=>
  intro k W E T w hd hk st;rw[show Item.code lX=Item.code _ from congrArg _ J0b4];refine J6 (λw1=>stepG_seq) rfl λd1=>?_;refine J6 (λw1=>stepG_seq) rfl λd2=>?_;refine tst ((st.at d1).at d2) λT' w' st' s15=>?_;have hf:(decide (k<n) && decide ((k:Int)<10))=false:=by simp;omega
  refine J6 (λw1=>stepG_cond (t:=false) (by simp[Act.eval,Bq,s15,hf])) rfl λd1=>?_;refine J6 (λw1=>stepG_exit (k':=kk) rfl) rfl λd2=>?_;exact kn W E T' _ k ((st'.at d1).at d2)
 |succ d ih=>
  intro k W E T w hd hk st;rw[show Item.code lX=Item.code _ from congrArg _ J0b4];refine J6 (λw1=>stepG_seq) rfl λd1=>?_;refine J6 (λw1=>stepG_seq) rfl λd2=>?_;refine tst ((st.at d1).at d2) λT' w' st' s15=>?_;have hf:(decide (k<n) && decide ((k:Int)<10))=true:=by simp;omega
  refine J6 (λw1=>stepG_cond (t:=true) (by simp[Act.eval,Bq,s15,hf])) rfl λd3=>?_;refine J6 (λw1=>stepG_skip) rfl λd4=>?_;refine J0c9 ((st'.at d3).at d4) (by omega) (by omega) hV hn hVW hVT fK hE1 hG0 hG1 t16 hh λW2 E2 T2 w2 st2=>?_;refine J6 (λw1=>stepG_inLoop) rfl λd5=>?_;exact ih (k+1) W2 E2 T2 (w2.at d5) (by omega) (by omega) (st2.at d5)
end
section
variable{fn:JG}{W E0 E:JB}{w0 w:JE}{T:JC}{ops:Array Oper}{k:List Item}{cs:List Frame}{Post:(JB)->JF->JE->Prop}{la:JI}{n lc s d1 d2 d3 id:Nat}{rs:List Gi}{fs:List Jd}{c:Code}
def qC.of_heap{w':JE}(h:qC w la rs)(hh:∀a,la=some a->w'.heap[a.block]?=w.heap[a.block]?):qC w' la rs:=by
 refine⟨λi r hr=>?_,h.ok⟩;obtain⟨b,o,r1,r2,r3,r4,r5,r6,r7⟩:=h.at_ i r hr
 grind[World.cell?_of_block,Array.getElem?_eq_getElem,Array.getElem?_eq_some_iff]
def J06d(H:HS fn W E0 w0 E T w)(hp:(ops.size,(ops[0]?).bind mvP,(ops[1]?).bind aG,(ops[2]?).bind mvP)=(3,some (d1,.tmp s),some (d2,13,#[.tmp d1]),some (d3,.tmp d2)))
  (hh:Xk fn (d1,.tmp s)=true/\Xk fn (d3,.tmp d2)=true) (hd:d1<T.size/\d2<T.size/\d3<T.size) (hs:T[s]?=some (.slice la n lc))
  (hR:qC w la rs) (hn:rs.length=n) (Zb:fs=(rs.take 200).map Gi.fact) (hW:∀a,la=some a->W a.block) (hT:∀a,la=some a->∀c z,w.heap[a.block]?≠some (.cells c wgT z))
  (kn:∀E' w' ga c2 pl T',HS fn W E0 w0 E' T' w'->(∀b,E b->E' b)->KE E w w'->G8 false w' ga fs c2 pl->(∀y∈pl,w.heap.size<=y)->VR C0 (idE E') (.slice ga fs.length c2) (.slice ga fs.length c2)->(∀b,W b->w'.heap[b]?=w.heap[b]?) ->
   T'.size=T.size->(∀i,i≠d1->i≠d2->i≠d3->T'[i]?=T[i]?)->T'[d3]?=some (.slice ga fs.length c2)->Reach prog Post W (G ((base fn).at ⟨T',[]⟩ (.code c::k)) cs) w') :
  Reach prog Post W (G ((base fn).at ⟨T,[]⟩ (.code (.seq (.region id ops false) c)::k)) cs) w:=by
 simp only[Prod.mk.injEq]at hp;obtain⟨p0,p1,p2,p3⟩:=hp;have hr:List.range ops.size=List.range' 0 1++1::[2]:=by rw[p0];rfl
 refine jS (m:=1) (l:=[(d1,.tmp s)]) H rfl (by simp[p1]) (by simp[hh.1]) p2 hr (show prog.funcs[13]?=some f13 by kernel_rfl) (by kernel_rfl) body6 λw1 H1 e1 z1 k1=>?_;have x1:(mvT T [(d1,.tmp s)])[d1]?=some (.slice la n lc):=by simp[mvT,Act.eval,Bq,hs,hd.1]
 generalize mvT T [(d1,.tmp s)]=T1 at *;have ea:(#[Operand.tmp d1].map (Act.eval ⟨T1,[]⟩))++Array.replicate (f13.ntmps-(#[Operand.tmp d1].map (Act.eval ⟨T1,[]⟩)).size) JA=#[.slice la n lc]++Array.replicate 54 JA:=by
  have LH:f13.ntmps=55:=by kernel_rfl
  have h1:(#[Operand.tmp d1].map (Act.eval ⟨T1,[]⟩))=#[.slice la n lc]:=by simp[Act.eval,Bq,x1]
  simp[*]
 rw[ea];obtain⟨o,ho,hc⟩:=Gl.1 p2;obtain⟨_,jI,_⟩:=vI hc;refine Jle (fs:=fs) (rs:=rs) H1.bok (hR.of_heap λa _=>by rw[e1]) hn Zb hW (λa ha=>by grind) λE2 w2 ga c2 pl Tc Dt k2 fa pg vE kz kwf=>?_;rw[ho];simp only[Option.bind_some,jI];have ke1:KE E w w1:=.of_eq λb _=>by rw[e1]
 have H2:=H1.to Dt Tc k2 kwf kz;obtain⟨T2,OA⟩:∃T2,T2=T1.setIfInBounds d2 (.slice ga fs.length c2):=⟨_,rfl⟩;have VL:HS fn W E0 w0 E2 T2 w2:=by rw[OA];exact H2.put (H2.set (.inr vE))
 have z2:T2.size=T.size:=by grind
 have x2:T2.getD d2 JA=.slice ga fs.length c2:=by simp[*]
 have y2:∀i,i≠d1->i≠d2->T2[i]?=T[i]?:=λi m1 m2=>by grind
 show Reach _ _ _ (G ((base fn).at ⟨T1.setIfInBounds d2 (.slice ga fs.length c2),[]⟩ (.inRegion ops (List.range' 2 1++[])::.code c::k)) cs) w2;rw[<- OA];refine Y5 (l:=[(d3,.tmp d2)]) VL (by simp[p3]) (by simp[hh.2]) λw3 H3 e3=>J6 (λw1=>stepG_region_end) rfl λd=>?_;have ex:mvT T2 [(d3,.tmp d2)]=T2.setIfInBounds d3 (.slice ga fs.length c2):=by show T2.setIfInBounds d3 (T2.getD d2 JA)=_;rw[x2]
 rw[ex]at H3 ⊢;have pY:(w3.at d).heap=w2.heap:=e3;refine kn E2 _ ga c2 pl _ (H3.at d) Tc ((ke1.trans k2).trans (.of_eq λb _=>by rw[pY])) (fa.kept λb _=>by rw[pY]) (λy hy=>by grind) vE (λb hb=>by grind) (by grind) (λi m1 m2 m3=>?_) ?_
 all_goals grind
end
section
variable{fn:JG}{W E0 E:JB}{w0 w:JE}{T:JC}{ops:Array Oper}{k:List Item}{cs:List Frame}{Post:(JB)->JF->JE->Prop}{ga:JI}{c2f sc sg d1 d2 d3 d4 id:Nat}{fs:List Jd}{pl:List Nat}{cd:Code}{c:Int}
def J06e(H:HS fn W E0 w0 E T w)(hp:(ops.size,(ops[0]?).bind mvP,(ops[1]?).bind mvP,(ops[2]?).bind aG,(ops[3]?).bind mvP)=(4,some (d1,.tmp sc),some (d2,.tmp sg),some (d3,14,#[.tmp d1,.tmp d2]),some (d4,.tmp d3)))
  (hh:Xk fn (d1,.tmp sc)=true/\Xk fn (d2,.tmp sg)=true/\Xk fn (d4,.tmp d3)=true) (hd:d1<T.size/\d2<T.size/\d3<T.size/\d4<T.size/\d1≠d2/\d1≠sg) (hsc:T[sc]?=some (JK c)) (hsg:T[sg]?=some (.slice ga fs.length c2f)) (hgh:(C0.hl fn).contains sg=false)
  (hok:HOk w) (hc:I64 c) (fa:G8 false w ga fs c2f pl) (IQ:∀f∈fs,RH f/\BI f.k∈U64) (Ih:fs.length<=200)
  (kn:∀W' E' w' x c' h hs nf vm vs S T',HS fn W' E' w' E' T' w'->(∀b,E b->E' b)->KE E w w'->NJ E' w' x c' c h nf vm vs S->VwF c' hs vs fs S->(c'.bits=4+Jr c 1048576 % 3/\c'.nb=4)->(∀y,0<=hs y/\hs y<=18446744073709551615)->HOk w'->E' x->J05o E E' w' c x c' h hs nf vm vs S ->
   T'.size=T.size->(∀i,i≠d1->i≠d2->i≠d3->i≠d4->T'[i]?=T[i]?)->T'[d4]?=some (pt x)->Reach prog Post W' (G ((Go.Conc.base fn).at ⟨T',[]⟩ (.code cd::k)) cs) w') :
  Reach prog Post W (G ((Go.Conc.base fn).at ⟨T,[]⟩ (.code (.seq (.region id ops false) cd)::k)) cs) w:=by
 simp only[Prod.mk.injEq]at hp;obtain⟨p0,p1,p2,p3,p4⟩:=hp;have vg:VR C0 (idE E) (.slice ga fs.length c2f) (.slice ga fs.length c2f):=H.tm.slot (i:=sg) hgh hsg;have hr:List.range ops.size=List.range' 0 2++2::[3]:=by rw[p0];rfl
 refine jS (m:=2) (l:=[(d1,.tmp sc),(d2,.tmp sg)]) H rfl (by grind[List.range'_succ]) (by grind) p3 hr (show prog.funcs[14]?=some f14 by kernel_rfl) (by kernel_rfl) body7 λw1 H1 e1 z1 k1=>?_;have x1:(mvT T [(d1,.tmp sc),(d2,.tmp sg)])[d1]?=some (JK c):=by show((T.setIfInBounds d1 (T.getD sc JA)).setIfInBounds d2 _)[d1]?=_;rw[AV (Ne.symm hd.2.2.2.2.1),FC hd.1,Bq,hsc];rfl
 have x2:(mvT T [(d1,.tmp sc),(d2,.tmp sg)])[d2]?=some (.slice ga fs.length c2f):=by show((T.setIfInBounds d1 (T.getD sc JA)).setIfInBounds d2 ((T.setIfInBounds d1 (T.getD sc JA)).getD sg JA))[d2]?=_;simp[*]
 generalize mvT T [(d1,.tmp sc),(d2,.tmp sg)]=T1 at *;have ea:(#[Operand.tmp d1,.tmp d2].map (Act.eval ⟨T1,[]⟩))++Array.replicate (f14.ntmps-(#[Operand.tmp d1,.tmp d2].map (Act.eval ⟨T1,[]⟩)).size) JA=#[JK c,.slice ga fs.length c2f]++Array.replicate 68 JA:=by
  have LH:f14.ntmps=70:=by kernel_rfl
  have h1:(#[Operand.tmp d1,.tmp d2].map (Act.eval ⟨T1,[]⟩))=#[JK c,.slice ga fs.length c2f]:=by simp[Act.eval,Bq,x1,x2]
  simp[*]
 rw[ea];obtain⟨o,ho,Xt⟩:=Gl.1 p3;obtain⟨_,jI,_⟩:=vI Xt;have ke1:KE E w w1:=.of_eq λb _=>by rw[e1]
 have tm7:TmR C0 S0 14 (idE E) (#[JK c,.slice ga fs.length c2f]++Array.replicate 68 JA) (#[JK c,.slice ga fs.length c2f]++Array.replicate 68 JA):=by
  refine .bK (λu hu=>?_) λ_=>rfl;rw[Array.toList_append,Gn]at hu;rcases hu with hu|hu
  .simp only[AL,BU,or_false]at hu;rcases hu with rfl|rfl
   .exact .int _ _
   .exact vg
  .simp only[Array.toList_replicate]at hu;rw[List.eq_of_mem_replicate hu];exact .undef
 refine Jlf (fs:=fs) (c2f:=c2f) (pl:=pl) H1.bok (hok.ke ke1 H.bok.hnd) hc (fa.kept λb _=>by rw[e1]) IQ Ih (by simp) (by simp) (by simp) tm7 λW8 E8 w8 x cx h hs nf vm vs S Qi vX k8 q8 MB cb hb ok8 ex8 bx=>?_;rw[ho];simp only[Option.bind_some,jI];have vx:VR C0 (idE E8) (pt x) (pt x):=.ptr _ _ ⟨rfl,ex8⟩;have H8:HS fn W8 E8 w8 E8 T1 w8:=⟨vX,λ_ h=>h,.refl,λ_ _=>rfl,H1.tm.mono (Oj Qi),H1.own,Ad _⟩;obtain⟨T2,OA⟩:∃T2,T2=T1.setIfInBounds d3 (pt x):=⟨_,rfl⟩;have H2:HS fn W8 E8 w8 E8 T2 w8:=by rw[OA];exact H8.put (H8.set (.inr vx))
 have z2:T2.size=T.size:=by grind
 have x3:T2.getD d3 JA=pt x:=by simp[*]
 have y2:∀i,i≠d1->i≠d2->i≠d3->T2[i]?=T[i]?:=λi m1 m2 m3=>by grind
 show Reach _ _ _ (G ((Go.Conc.base fn).at ⟨T1.setIfInBounds d3 (pt x),[]⟩ (.inRegion ops (List.range' 3 1++[])::.code cd::k)) cs) w8;rw[<- OA];refine Y5 (l:=[(d4,.tmp d3)]) H2 (by simp[p4]) (by simp[hh.2.2]) λw3 H3 e3=>J6 (λw1=>stepG_region_end) rfl λd=>?_;have ex:mvT T2 [(d4,.tmp d3)]=T2.setIfInBounds d4 (pt x):=by show T2.setIfInBounds d4 (T2.getD d3 JA)=_;rw[x3]
 rw[ex]at H3 ⊢;have pY:(w3.at d).heap=w8.heap:=e3;have k9:KE E8 w8 (w3.at d):=.of_eq λb _=>by rw[pY]
 refine kn W8 E8 _ x cx h hs nf vm vs S _ (H3.at d).start Qi ((ke1.trans k8).trans (k9.mono Qi)) ?_ MB cb hb (ok8.ke k9 vX.hnd) ex8 ?_ (by grind) (λi m1 m2 m3 m4=>?_) ?_
 .exact q8.ke k9 vX.hnd λ_ h=>h
 .exact⟨bx.1.ke k9 vX.hnd λ_ h=>h,bx.2⟩
 .grind
 grind
end
section
variable{c:J7}{bs:JD}
end
section
variable{c:J7}{bs:JD}{hs:Int->Int}{fs:List Jd}
end
def selm(m:Nat)(g:JD):JD:=(g.zipIdx.filter λp=>m.testBit p.2).map (·.1)
abbrev Jki:=JD × List (Int × Int)
structure J08g(m:Nat)(fs:List Jd)(ks:List (JD)):Prop where
 nd:ks.Nodup
 of:∀k∈ks,∃f∈fs,Jf m (BI f.k) 5=k
 has:∀f∈fs,Jf m (BI f.k) 5∈ks
section
variable{c:J7}{hs:Int->Int}{fs:List Jd}{m:Nat}{ks k7 km:List (JD)}
def Jvm(m:Nat)(g:JD)(P:List Jki)(j:Nat):List (Int × Int):=((P.take j).filter λp=>decide (selm m p.1=g)).flatMap (·.2)
structure J08h(c:J7)(m n:Nat)(P Pm:List Jki):Prop where
 ok7:∀p∈P,Pq p.2/\p.1.length=3
 sum7:(P.map λp=>p.2.length).sum=n
 fine:∀p∈Pm,Df c Dc (Jvm m p.1 P P.length)=Df c Dc p.2/\Jvm m p.1 P P.length≠[]/\(Jvm m p.1 P P.length).length=p.2.length/\p.1.length<=3
 sum:(Pm.map λp=>p.2.length).sum=n
 one:m=0->Pm.length<=1
end
section
variable{w:JE}{a b:JJ}{xs ys:JD}
def J08t{ga gb ca cb:Nat}(hl:xs.length=ys.length)(hn:xs.length<=1000)(ha:0<xs.length->Row false w ga 3 .i64 xs ca)(hb:0<xs.length->Row false w gb 3 .i64 ys cb){va vb:JJ}(ea:∃p c,va=.slice p xs.length c/\(0<xs.length->p=some ⟨ga,0,none⟩))(eb:∃p c,vb=.slice p ys.length c/\(0<xs.length->p=some ⟨gb,0,none⟩)) :
  Calls prog 85 #[va,vb] w λe w'=>e=.returned (.bool (decide (xs=ys)))/\Tch w.heap.size M0 w w':=by
 obtain⟨pa,c1,rfl,qa⟩:=ea;obtain⟨pb,c2,rfl,qb⟩:=eb;rw[<- hl];obtain⟨n,Y6⟩:∃n,xs.length=n:=⟨_,rfl⟩;have hca:∀wr,Tch w.heap.size M0 w wr->∀i,i<n->wr.cell? ⟨ga,i,none⟩=some (JK (xs.getD i 0)):=λwr t i hi=>((ha (by omega)).tch t (ha (by omega)).lt λx=>x).cell (by omega);have SL:∀wr,Tch w.heap.size M0 w wr->∀i,i<n->wr.cell? ⟨gb,i,none⟩=some (JK (ys.getD i 0)):=λwr t i hi=>((hb (by omega)).tch t (hb (by omega)).lt λx=>x).cell (by omega);rw[Y6]at qa qb ⊢;have xX:¬((n:Int)≠n):=λh=>h rfl;have hx:∀i,i<n->xs.getD i 0=ys.getD i 0\/¬xs=ys:=λi hi=>by
  grind
 have BH:(∀i,i<n->xs.getD i 0=ys.getD i 0)->xs=ys:=λh=>by
  grind[List.ext_getElem]
 clear ha hb
 go_enter func85,ntmps85
 go_wp2
 go_loopw [5] (λi wr=>∃k:Nat,k<=n/\i=JK k/\(∀i,i<k->xs.getD i 0=ys.getD i 0)/\Tch w.heap.size M0 w wr) (λi _=>n-(RowKit.intOf i).toNat)
 case atStart=>exact⟨0,by omega,rfl,λi h=>by omega,.refl⟩
 case round=>
  obtain⟨k,hk,rfl,heq,ht⟩:=hrel;rcases BF k n with Ac|Et
  .have g1:=hca _ ht k Ac;have g2:=SL _ ht k Ac;obtain rfl:=qa (by omega);obtain rfl:=qb (by omega);have CS:(k:Int)<n:=by omega
   have LU:=hx k Ac;have Ae:xs.getD k 0=ys.getD k 0->∀i,i<k+1->xs.getD i 0=ys.getD i 0:=λe i hi=>by
    grind
   generalize xs.getD k 0=x at *;generalize ys.getD k 0=y at *;clear hca SL hx BH heq;by_cases e:x=y
   .have D9:=Ae e;clear Ae LU;subst e;go_wp2
    go_region
    all_goals go_wp2
    exact⟨⟨k+1,by omega,by go_num,D9,ht.drew⟩,by simp[RowKit.intOf];omega⟩
   .have Ap:=LU.resolve_left e;go_wp2
    go_region
    all_goals go_wp2
    go_ret;exact⟨by simp_all,ht.drew⟩
  .obtain rfl:k=n:=by omega
   have EC:¬((k:Int)<k):=by omega
   have:=BH heq;clear hca SL hx BH heq;go_wp2;go_ret
   simp_all
def qN(ha:SlI false w 0 a 3 .i64 xs)(hb:SlI false w 0 b 3 .i64 ys)(hn:xs.length<=1000) :
  Calls prog 85 #[a,b] w λe w'=>e=.returned (.bool (decide (xs=ys)))/\Tch w.heap.size M0 w w':=by
 have ea:∃ga ca p c,a=.slice p xs.length c/\(0<xs.length->p=some ⟨ga,0,none⟩)/\(0<xs.length->Row false w ga 3 .i64 xs ca):=by
  rcases ha with⟨rfl,rfl⟩|⟨g,cap,rfl,_,h⟩
  .simp_all
  grind
 have eb:∃gb cb p c,b=.slice p ys.length c/\(0<ys.length->p=some ⟨gb,0,none⟩)/\(0<ys.length->Row false w gb 3 .i64 ys cb):=by
  rcases hb with⟨rfl,rfl⟩|⟨g,cap,rfl,_,h⟩
  .simp_all
  grind
 obtain⟨ga,ca,p,c,e1,h1,r1⟩:=ea;obtain⟨gb,cb,q,d,e2,h2,r2⟩:=eb;by_cases hl:xs.length=ys.length
 .exact J08t hl hn r1 (λh=>r2 (by omega)) ⟨p,c,e1,h1⟩ ⟨q,d,e2,λh=>h2 (by omega)⟩
 .have Ap:xs≠ys:=λe=>hl (by rw[e]);rw[decide_eq_false Ap];subst e1 e2;have iW:(xs.length:Int)≠ys.length:=by omega
  clear h1 h2 r1 r2;generalize xs.length=n at *;generalize ys.length=m at *
  go_enter func85,ntmps85
  go_wp2;go_ret;exact⟨rfl,.refl⟩
end
structure J08i(w:JE)(g j:Nat)(c:J7)(p:Jki):Prop where
 k:∃v,w.cell? ⟨g,j*5,none⟩=some v/\SlI false w 0 v 3 .i64 p.1
 n:w.cell? ⟨g,j*5+1,none⟩=some (JK (Df c Dc p.2).n)
 r:∃b q,w.cell? ⟨g,j*5+2,none⟩=some (JM b (Df c Dc p.2).r.length q)/\Row false w b 3 .i64 (Df c Dc p.2).r q
 h:∃b q,w.cell? ⟨g,j*5+3,none⟩=some (JM b (Df c Dc p.2).h.length q)/\Row false w b 3 .i64 (Df c Dc p.2).h q
section
variable{w w':JE}{g j:Nat}{c:J7}{p:Jki}{v:JJ}{xs:JD}
end
def setFrom:JC->Nat->List JJ->JC
 |T,_,[]=>T
 |T,b,v::vs=>setFrom (T.setIfInBounds b v) (b+1) vs
theorem qO:∀(vs:List JJ)(T:JC)(b s:Nat),s<b\/b+vs.length<=s->(setFrom T b vs)[s]?=T[s]?
 |[],_,_,_,_=>rfl
 |v::vs,T,b,s,h=>by rw[Lh]at h;rw[setFrom,qO vs _ _ _ (by omega),AV (by omega)]
theorem J06n:∀(vs:List JJ)(T:JC)(b i:Nat),b+vs.length<=T.size->i<vs.length->(setFrom T b vs)[b+i]?=vs[i]?
 |[],_,_,_,_,h=>by simp at h
 |v::vs,T,b,0,h,_=>by
  rw[Lh]at h;show(setFrom (T.setIfInBounds b v) (b+1) vs)[b]?=_;rw[qO vs _ _ _ (by omega),FC (by omega)];rfl
 |v::vs,T,b,i+1,h,hi=>by rw[Lh]at h hi;rw[setFrom,show b+(i+1)=b+1+i by omega,J06n vs _ _ _ (by simp;omega) (by omega)];rfl
def kp3:List Nat:=[0,1,2,3,4,5,6,7,8,9,10,11,12,13,14,15,16,18,19,20,30,31,32,33,34,35,36,37,38,39,40,41,42,43,44,45,46,47,48,49,50,51,52,53,54,55,56,57,58,230,231,232,233]
noncomputable def b3:Code:=f3.body.getD .skip
def SlN.sli{base:Nat}{w:JE}{v:JJ}{t:JH}{k:IntKind}{xs:JD}(h:SlN base w v t k xs):SlI false w 0 v t k xs:=by obtain⟨g,cap,h1,_,h3⟩:=h;exact .inr ⟨g,cap,h1,Nat.zero_le _,h3⟩
section
variable{w:JE}{ba bb:Nat}{ka ra ha la kb rb hb lb:JJ}{g:JD}{B:Bun}
def J0e8(A:KZ ba w ka ra ha la g B)(A':KZ bb w kb rb hb lb g B)(l1:g.length<=1000)(l2:B.r.length<=1000)(l3:B.h.length<=1000)(l4:B.l.length<=1000) :
  Calls prog 44 #[.agg #[ka,JK B.n,ra,ha,la],.agg #[kb,JK B.n,rb,hb,lb]] w λe w'=>e=.returned (.bool true)/\Tch w.heap.size M0 w w':=by
 have hk:=A.k.mono (Nat.zero_le _);have D6:=A'.k.mono (Nat.zero_le _);have sk:∀{w1:JE},Tch w.heap.size M0 w w1->Calls prog 85 #[ka,kb] w1 λe w'=>e=.returned (.bool true)/\Tch w1.heap.size M0 w1 w':=λt=>by
  have:=qN (hk.tch t) (D6.tch t) l1
  grind
 have sr:∀{w1:JE},Tch w.heap.size M0 w w1->Calls prog 85 #[ra,rb] w1 λe w'=>e=.returned (.bool true)/\Tch w1.heap.size M0 w1 w':=λt=>by
  have:=qN (A.r.sli.tch t) (A'.r.sli.tch t) l2
  grind
 have sh:∀{w1:JE},Tch w.heap.size M0 w w1->Calls prog 85 #[ha,hb] w1 λe w'=>e=.returned (.bool true)/\Tch w1.heap.size M0 w1 w':=λt=>by
  have:=qN (A.h.sli.tch t) (A'.h.sli.tch t) l3
  grind
 obtain⟨ga,ca,rfl,_,rowA⟩:=A.l;obtain⟨gb,cb,rfl,_,jC⟩:=A'.l;obtain⟨n,hn⟩:∃n,B.l.length=n:=⟨_,rfl⟩;have hcA:∀wr,Tch w.heap.size M0 w wr->∀i,i<n->wr.cell? ⟨ga,i,none⟩=some (.int .u64 (B.l.getD i 0)):=λwr t i hi=>(rowA.tch t rowA.lt λx=>x).cell (by omega);have hcB:∀wr,Tch w.heap.size M0 w wr->∀i,i<n->wr.cell? ⟨gb,i,none⟩=some (.int .u64 (B.l.getD i 0)):=λwr t i hi=>(jC.tch t jC.lt λx=>x).cell (by omega);have ska:∃p l c,ka=.slice p l c:=by
  rcases A.k with⟨rfl,_⟩|⟨_,_,rfl,_⟩<;>exact⟨_,_,_,rfl⟩
 have skb:∃p l c,kb=.slice p l c:=by
  rcases A'.k with⟨rfl,_⟩|⟨_,_,rfl,_⟩<;>exact⟨_,_,_,rfl⟩
 obtain⟨r1,r2,rfl,_⟩:=A.r;obtain⟨r3,r4,rfl,_⟩:=A'.r;obtain⟨h1,h2,rfl,_⟩:=A.h;obtain⟨h3,h4,rfl,_⟩:=A'.h;obtain⟨k1,k2,k3,rfl⟩:=ska;obtain⟨k4,k5,k6,rfl⟩:=skb;rw[hn]at l4 ⊢;clear A A' hk D6 rowA jC hn;obtain⟨W,hW⟩:∃W,(w.alloc (.cells #[.slice k1 k2 k3,JK B.n,JM r1 B.r.length r2,JM h1 B.h.length h2,JM ga n ca] 38)).alloc (.cells #[.slice k4 k5 k6,JK B.n,JM r3 B.r.length r4,JM h3 B.h.length h4,JM gb n cb] 38)=W:=⟨_,rfl⟩;have t0:Tch w.heap.size M0 w W:=by rw[<- hW];exact(Tch.refl.alloc (Ad _) _).alloc (by simp_all) _
 have hA:W.heap[w.heap.size]?=some (.cells #[.slice k1 k2 k3,JK B.n,JM r1 B.r.length r2,JM h1 B.h.length h2,JM ga n ca] 38):=by grind[J8,size_alloc,Ja]
 have hB:W.heap[w.heap.size+1]?=some (.cells #[.slice k4 k5 k6,JK B.n,JM r3 B.r.length r4,JM h3 B.h.length h4,JM gb n cb] 38):=by
  grind[Ja,size_alloc]
 have cA:∀{wx:JE},Tch W.heap.size M0 W wx->wx.heap[w.heap.size]?=some (.cells #[.slice k1 k2 k3,JK B.n,JM r1 B.r.length r2,JM h1 B.h.length h2,JM ga n ca] 38):=λt=>(t.heap _ (Jj hA) λh=>h).trans hA;have cB:∀{wx:JE},Tch W.heap.size M0 W wx->wx.heap[w.heap.size+1]?=some (.cells #[.slice k4 k5 k6,JK B.n,JM r3 B.r.length r4,JM h3 B.h.length h4,JM gb n cb] 38):=λt=>(t.heap _ (Jj hB) λh=>h).trans hB;have th:∀{wx:JE},Tch W.heap.size M0 W wx->Tch w.heap.size M0 w wx:=λt=>t0.then t t0.size λ_ _ h=>h;have y0:=(cell_of hA 0).trans rfl;have z0:=(cell_of hB 0).trans rfl;have s1:=sk t0;have sr':=λ(wx:JE)(t:Tch W.heap.size M0 W wx)=>sr (th t);have sh':=λ(wx:JE)(t:Tch W.heap.size M0 W wx)=>sh (th t);clear sk sr sh
 go_enter func44,ntmps44
 go_wp2_with (go_at_call 85;first
  |(refine s3.mono ?_;rintro e w3 ⟨rfl,u3⟩;have v3:Tch W.heap.size M0 W w3:=v2.then u3 v2.size (λ_ _ h=>h);have y3:=(cell_of (cA v3) 1).trans rfl;have z3:=(cell_of (cB v3) 1).trans rfl;have y4:=(cell_of (cA v3) 4).trans rfl;have z4:=(cell_of (cB v3) 4).trans rfl)
  |(refine s2.mono ?_;rintro e w2 ⟨rfl,u2⟩;have v2:Tch W.heap.size M0 W w2:=v1.then u2 v1.size (λ_ _ h=>h);have y2:=(cell_of (cA v2) 3).trans rfl;have z2:=(cell_of (cB v2) 3).trans rfl;have s3:=sh' _ v2)
  |(refine s1.mono ?_;rintro e w1 ⟨rfl,v1⟩;have y1:=(cell_of (cA v1) 2).trans rfl;have z1:=(cell_of (cB v1) 2).trans rfl;have s2:=sr' _ v1))
 have v3':=th v3
 go_loopw [8] (λi wr=>∃k:Nat,k<=n/\i=JK k/\Tch W.heap.size M0 W wr) (λi _=>n-(RowKit.intOf i).toNat)
 case atStart=>grind
 case round=>
  obtain⟨k,hk,rfl,ht⟩:=hrel;have a4:=(cell_of (cA ht) 4).trans rfl;have b4:=(cell_of (cB ht) 4).trans rfl;rcases BF k n with Ac|Et
  .have g1:=hcA _ (th ht) k Ac;have g2:=hcB _ (th ht) k Ac;have CS:(k:Int)<n:=by omega
   generalize B.l.getD k 0=x at *;clear hcA hcB cA cB;go_wp2
   go_region
   all_goals go_wp2
   exact⟨⟨k+1,by omega,by go_num,ht.drew⟩,by simp[RowKit.intOf];omega⟩
  .obtain rfl:k=n:=by omega
   have EC:¬((k:Int)<k):=by omega
   clear hcA hcB;go_wp2;go_ret
   simp_all
end
structure PX(w:JE)(base:Nat)(v:JJ)(xs:JD):Prop where
 own:w.ownsRow base 5 1 v xs.length (xs.map (Value.int .u8))
 pl:Ko w v
structure KP(base wb:Nat)(w w':JE):Prop where
 size:w.heap.size<=w'.heap.size
 heap:∀b o,w.heap[b]?=some o->b≠wb->(base<=b->∀cur,o≠.cells cur 5)->w'.heap[b]?=some o
 tape:w'.tape=w.tape
 os:w'.os=w.os
 output:w'.output=w.output
section
variable{w w' w1 w2:JE}{base wb:Nat}{v v':JJ}{xs:JD}
end

section
variable{w:JE}{base wb:Nat}{v:JJ}{bs:JD}
end
end Go.Sim.Z
