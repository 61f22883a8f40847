/- Proved: laws for the claim. No conditions. -/
import Derived.WalkKit
import Derived.LaidEql
import Derived.Stop.Asserts
import Derived.RowKitTokens
import Derived.Conc.Own4
import Derived.Test.YtlcbehhbfglgaaaGreatDoorB12
import Derived.Test.YtlcbehhbfglgaaaGreatDoorB17
import Derived.Test.YtlcbehhbfglgaaaGreatDoorB23
import Derived.Test.YtlcbehhbfglgaaaGreatDoorB24
import Derived.Test.YtlcbehhbfglgaaaGreatDoorB25
set_option linter.all false
set_option maxHeartbeats 4000000
set_option maxRecDepth 100000
open Go.Proofs.Tryz
noncomputable section
namespace Go.Sim.Z
open Go Go.Proofs Go.RowKit Go.Extern.Stop Go.Stop Go.Extern
theorem methodKind (h:JJ) (w:JE):(Go.method 471 226 (.agg #[h]) "Kind").run prog w=.ok (239,h) w:=by kernel_rfl
theorem methodElem (h:JJ) (w:JE):(Go.method 471 226 (.agg #[h]) "Elem").run prog w=.ok (276,.agg #[h]) w:=by kernel_rfl
theorem methodImplements (h:JJ) (w:JE):(Go.method 471 226 (.agg #[h]) "Implements").run prog w=.ok (277,.agg #[h]) w:=by kernel_rfl
theorem methodAssignableTo (h:JJ) (w:JE):(Go.method 471 226 (.agg #[h]) "AssignableTo").run prog w=.ok (274,.agg #[h]) w:=by kernel_rfl
theorem rlm(z:Sem JJ)(f:JH->Addr->Nat->Nat->Sem JJ)(v:JJ) :
  ReflectliteValue.method z f #[v]=(do match <- ReflectliteValue.parts v with|none=>z|some (t,a,fl)=>f t a fl (fl % 32)):=rfl
theorem Jhc(t:Addr)(w:JE):(ReflectliteValue.unpack (.iface 87 (.pointer (some t)))).run prog w
  = .ok (.agg #[.pointer (some ⟨1,87,none⟩),JL w.heap.size,.int .u64 150]) (w.alloc (.cells #[.pointer (some t)] 87)):=by kernel_rfl
theorem Js7 (a:Addr) (w:JE):(ReflectliteValue.methodAny (ReflectliteValue.valueError "reflectlite.Value.Type" 0) (λt _ _ _=>ReflectliteType.toType t) #[.agg #[.pointer (some ⟨1,87,none⟩),.pointer (some a),.int .u64 150]]).run prog w
  = .ok (.iface 226 (.agg #[.pointer (some ⟨1,87,none⟩)])) w:=by kernel_rfl
theorem Js8(w:JE):((ReflectliteType.abiMethod λt=>(λa:Nat=>Value.int IntKind.u8 (a:Int)) <$> Rtype.kind t) #[.pointer (some ⟨1,87,none⟩)]).run prog w=.ok (.int .u8 22) w:=by kernel_rfl
theorem Js9(w:JE):((ReflectliteType.abiMethod λt=>(λa:Nat=>Value.int IntKind.u8 (a:Int)) <$> Rtype.kind t) #[.pointer (some ⟨1,85,none⟩)]).run prog w=.ok (.int .u8 22) w:=by kernel_rfl
theorem Jm8(a:Addr)(w:JE):(ReflectliteValue.parts (.agg #[.pointer (some ⟨1,87,none⟩),.pointer (some a),.int .u64 150])).run prog w=.ok (some (87,a,150)) w:=by kernel_rfl
theorem Jsa:prog.underlying 87=some (.pointer 85):=by kernel_rfl
theorem Jm9(a p:Addr)(W:JE)(ha:W.cell? a=some (.pointer (some p))) :
  (ReflectliteValue.method (ReflectliteValue.valueError "reflectlite.Value.IsNil" 0) ReflectliteValue.isNil #[.agg #[.pointer (some ⟨1,87,none⟩),.pointer (some a),.int .u64 150]]).run prog W=.ok (.bool false) W:=by
 rw[rlm];simp only[Sem.run_bind,Jm8,Result.andThen];simp[ReflectliteValue.isNil,loadVar,isAgg,underlying,Jsa,ha,Result.andThen]
theorem Jsb(w:JE):(ReflectliteType.method ReflectliteType.elem #[.agg #[.pointer (some ⟨1,87,none⟩)]]).run prog w=.ok (.iface 226 (.agg #[.pointer (some ⟨1,85,none⟩)])) w:=by kernel_rfl
theorem Jaw (w:JE):(ReflectliteType.relation "Implements" ReflectliteType.implements_ #[.agg #[.pointer (some ⟨1,85,none⟩)],.iface 226 (.agg #[.pointer (some ⟨1,33,none⟩)])]).run prog w=.ok (.bool true) w:=by kernel_rfl
theorem Jvz(v:JJ)(w:JE):(ReflectliteType.typeOf #[.iface 85 v]).run prog w=.ok (.iface 226 (.agg #[.pointer (some ⟨1,85,none⟩)])) w:=by kernel_rfl
theorem Jkk (w:JE):(ReflectliteType.relation "AssignableTo" ReflectliteType.assignableTo #[.agg #[.pointer (some ⟨1,85,none⟩)],.iface 226 (.agg #[.pointer (some ⟨1,85,none⟩)])]).run prog w=.ok (.bool true) w:=by kernel_rfl
theorem Jsc(e:Addr)(w:JE):(ReflectliteValue.unpack (.iface 85 (.pointer (some e)))).run prog w
  = .ok (.agg #[.pointer (some ⟨1,85,none⟩),JL w.heap.size,.int .u64 150]) (w.alloc (.cells #[(.pointer (some e))] 85)):=by kernel_rfl
theorem Jw0(w:JE):(Rtype.elem? 87).run prog w=.ok (some 85) w:=by kernel_rfl
theorem mk85(p:Addr)(w:JE):(ReflectliteValue.mk 85 p ReflectliteValue.flagAddr).run prog w=.ok (.agg #[.pointer (some ⟨1,85,none⟩),.pointer (some p),.int .u64 406]) w:=by kernel_rfl
theorem Jzf(a p:Addr)(W:JE)(ha:W.cell? a=some (.pointer (some p))) :
  (ReflectliteValue.method (ReflectliteValue.valueError "reflectlite.Value.Elem" 0) ReflectliteValue.elem #[.agg #[.pointer (some ⟨1,87,none⟩),.pointer (some a),.int .u64 150]]).run prog W
   = .ok (.agg #[.pointer (some ⟨1,85,none⟩),.pointer (some p),.int .u64 406]) W:=by
 rw[rlm];simp only[Sem.run_bind,Jm8,Result.andThen];simp[ReflectliteValue.elem,loadVar,isAgg,underlying,Jsa,ha,Result.andThen,Jw0,mk85]
theorem Jw1(a:Addr)(w:JE):(ReflectliteValue.parts (.agg #[.pointer (some ⟨1,85,none⟩),.pointer (some a),.int .u64 406])).run prog w=.ok (some (85,a,406)) w:=by kernel_rfl
theorem Jzg(a:Addr)(w:JE):(ReflectliteValue.parts (.agg #[.pointer (some ⟨1,85,none⟩),.pointer (some a),.int .u64 150])).run prog w=.ok (some (85,a,150)) w:=by kernel_rfl
theorem Jw2(w:JE):(Rtype.directlyAssignable 85 85).run prog w=.ok true w:=by kernel_rfl
theorem J037(w:JE):(sizeOf 85).run prog w=.ok 1 w:=by kernel_rfl
theorem Jzh(w:JE):(isAgg 85).run prog w=.ok false w:=by kernel_rfl
theorem J05y(ta b:Addr)(e:Addr)(old:JJ)(W:JE)(hb:W.cell? b=some ((.pointer (some e))))(ht:W.cell? ta=some old)(hf:W.frozen? ta=false) :
  (ReflectliteValue.set #[.agg #[.pointer (some ⟨1,85,none⟩),.pointer (some ta),.int .u64 406],.agg #[.pointer (some ⟨1,85,none⟩),.pointer (some b),.int .u64 150]]).run prog W
   = .ok (.tuple #[]) (W.setCell ta ((.pointer (some e)))):=by
 rw[oK];simp only[Sem.run_bind,Jw1,Jzg,Result.andThen];simp[ReflectliteValue.flagAddr,loadVar,Jzh,hb,Result.andThen,Jw2,storeVar,J037,Value.cells,storeCells,Addr.add];rw[run_store prog W ta _ _ (by rfl)];simp[ht,hf]
def XF(f:JG)(row:JC->Sem JJ):Prop:=∀(args:JC)(w:JE),(callFunc f args).run prog w=((row args).run prog w).andThen λv w'=>.ok (.value v) w'
theorem XF.mk {f:JG} {fn:Func} {e:JC->Sem JJ} (hf:prog.funcs[f]?=some fn) (Eb:(fn.name == "runtime.NumGoroutine")=false) (hb:fn.body.isNone=true) (hn:Extern.findNext fn=none) (he:Extern.find fn=some e):XF f e:=run_callFunc_extern hf Eb hb hn he
theorem exts:XF 63 (λargs=>ReflectliteValue.unpack (args.getD 0 (.tuple #[])))/\XF 64 (ReflectliteValue.methodAny (ReflectliteValue.valueError "reflectlite.Value.Type" 0) (λt _ _ _=>ReflectliteType.toType t))/\XF 65 (ReflectliteValue.method (ReflectliteValue.valueError "reflectlite.Value.IsNil" 0) ReflectliteValue.isNil)/\XF 239 (ReflectliteType.abiMethod λt=>do pure (.int .u8 (<- Rtype.kind t)))/\XF 276 (ReflectliteType.method ReflectliteType.elem)/\XF 277 (ReflectliteType.relation "Implements" ReflectliteType.implements_)/\XF 113 (ReflectliteType.typeOf)/\XF 274 (ReflectliteType.relation "AssignableTo" ReflectliteType.assignableTo)/\XF 114 (ReflectliteValue.method (ReflectliteValue.valueError "reflectlite.Value.Elem" 0) ReflectliteValue.elem)/\XF 115 (ReflectliteValue.set):=
 ⟨.mk func63 (by kernel_rfl) (by kernel_rfl) (by kernel_rfl) (by kernel_rfl),.mk func64 (by kernel_rfl) (by kernel_rfl) (by kernel_rfl) (by kernel_rfl),.mk func65 (by kernel_rfl) (by kernel_rfl) (by kernel_rfl) (by kernel_rfl),.mk func239 (by kernel_rfl) (by kernel_rfl) (by kernel_rfl) (by kernel_rfl),.mk func276 (by kernel_rfl) (by kernel_rfl) (by kernel_rfl) (by kernel_rfl),.mk func277 (by kernel_rfl) (by kernel_rfl) (by kernel_rfl) (by kernel_rfl),.mk func113 (by kernel_rfl) (by kernel_rfl) (by kernel_rfl) (by kernel_rfl),.mk func274 (by kernel_rfl) (by kernel_rfl) (by kernel_rfl) (by kernel_rfl),.mk func114 (by kernel_rfl) (by kernel_rfl) (by kernel_rfl) (by kernel_rfl),.mk func115 (by kernel_rfl) (by kernel_rfl) (by kernel_rfl) (by kernel_rfl)⟩
theorem J084(e:Addr)(t:Addr)(old:JJ)(w:JE)(hg:w.cell? ⟨0,0,none⟩=some (.iface 226 (.agg #[.pointer (some ⟨1,33,none⟩)])))(Bf:w.cell? t=some old)(hf0:w.frozen? t=false) :
  Calls prog 30 #[.iface 85 (.pointer (some e)),.iface 87 (.pointer (some t))] w λev w'=>ev=.returned (.bool true)/\w'=((((w.alloc (.cells #[.pointer (some t)] 87)).alloc (.cells #[.pointer (some ⟨1,87,none⟩),JL w.heap.size,.int .u64 150] 156)).alloc (.cells #[.pointer (some ⟨1,87,none⟩),JL w.heap.size,.int .u64 150] 156)).alloc (.cells #[(.pointer (some e))] 85)).setCell t (.pointer (some e)):=by
 obtain⟨h6,h7,h8,fA,Vp,fB,Ce,Xa,DZ,SA⟩:=exts;unfold XF at h6 h7 h8 fA Vp fB Ce Xa DZ SA;have tO:=Jvz;have a25:=Jkk;have v25:=Jsc;have f6:=Jhc;have f7:=Js7;have mK:=methodKind;have mE:=methodElem;have mI:=methodImplements;have mA:=methodAssignableTo;have k27:=Js8;have k25:=Js9;have vS:=Jsb;have i25:=Jaw;have n8:=Jm9 ⟨w.heap.size,0,none⟩ t ((w.alloc (.cells #[.pointer (some t)] 87)).alloc (.cells #[.pointer (some ⟨1,87,none⟩),JL w.heap.size,.int .u64 150] 156)) (by simp);have Ac:0<w.heap.size:=by
  rcases Nat.eq_zero_or_pos w.heap.size with h0|h
  .simp[World.cell?,h0]at hg
  .exact h
 have Bl:((w.alloc (.cells #[.pointer (some t)] 87)).alloc (.cells #[.pointer (some ⟨1,87,none⟩),JL w.heap.size,.int .u64 150] 156)).cell? ⟨0,0,none⟩=some (.iface 226 (.agg #[.pointer (some ⟨1,33,none⟩)])):=by
  simp_all[World.cell?_alloc_lt]
 have htl:t.block<w.heap.size:=by
  rcases BF t.block w.heap.size with h|h
  .exact h
  .simp[World.cell?,Cc h]at Bf
 have el:=Jzf ⟨w.heap.size,0,none⟩ t (((w.alloc (.cells #[.pointer (some t)] 87)).alloc (.cells #[.pointer (some ⟨1,87,none⟩),JL w.heap.size,.int .u64 150] 156)).alloc (.cells #[.pointer (some ⟨1,87,none⟩),JL w.heap.size,.int .u64 150] 156)) (by rw[World.cell?_alloc_lt _ _ ⟨w.heap.size,0,none⟩ (by simp;omega)];simp);have st:=J05y t ⟨w.heap.size+1+1+1,0,none⟩ e old ((((w.alloc (.cells #[.pointer (some t)] 87)).alloc (.cells #[.pointer (some ⟨1,87,none⟩),JL w.heap.size,.int .u64 150] 156)).alloc (.cells #[.pointer (some ⟨1,87,none⟩),JL w.heap.size,.int .u64 150] 156)).alloc (.cells #[(.pointer (some e))] 85))
  (by simp_all[World.cell?_alloc_at])
  (by rw[World.cell?_alloc_lt _ _ t (by simp;omega),World.cell?_alloc_lt _ _ t (by simp;omega),World.cell?_alloc_lt _ _ t (by simp;omega),World.cell?_alloc_lt _ _ t htl];exact Bf)
  (by rw[World.frozen?_alloc_old _ _ t (by simp;omega),World.frozen?_alloc_old _ _ t (by simp;omega),World.frozen?_alloc_old _ _ t (by simp;omega),World.frozen?_alloc_old _ _ t (Nat.ne_of_lt htl)];exact hf0)
 go_enter func30,ntmps30
 go_wp2;refine wp_loop_rounds 1 ?_;rw[rounds_succ];go_wp2;go_ret
 simp_all
abbrev pz(b:Nat):JJ:=.pointer (some ⟨b,0,none⟩)
def b16:Code:=f16.body.getD .skip
theorem J03d:f16.body=some b16:=by kernel_rfl
def T16(v:JJ):JC:=#[v]++Array.replicate 26 JA
theorem J03e(v:JJ):T16 v=#[v,JA,JA,JA,JA,JA,JA,JA,JA,JA,JA,JA,JA,JA,JA,JA,JA,JA,JA,JA,JA,JA,JA,JA,JA,JA,JA]:=by kernel_rfl
section
variable{w:JE}{g:Nat}{n at_:Int}{ds:List Deferred}{Q:Exit->Act->JE->Prop}{R1:JE->Prop}{R2:JE->JE->Prop}
theorem J06t(h1:Calls prog 30 #[.iface 85 (pz g),.iface 87 (pz w.heap.size)] (w.alloc (.cells #[.pointer none] 85)) λev w'=>ev=.returned (.bool true)/\w'.cell? ⟨w.heap.size,0,none⟩=some (pz g)/\w'.cell? ⟨g,0,none⟩=some (JK n)/\w'.cell? ⟨g,1,none⟩=some (JK at_)/\R1 w')
  (hQ:∀T':JC,T'.size=27->T'[2]?=some (JK n)->T'[3]?=some (JK at_)->∀w2 w3,R1 w2->w3.heap=w2.heap->w3.os=w2.os->w3.output=w2.output->w3.tape=w2.tape->Q .ret ⟨T',ds⟩ w3):b16.wp prog Q ⟨#[.iface 85 (pz g),JA,JA,JA,JA,JA,JA,JA,JA,JA,JA,JA,JA,JA,JA,JA,JA,JA,JA,JA,JA,JA,JA,JA,JA,JA,JA],ds⟩ w:=by
 simp only[b16,f16,A8]
 go_wp2_with fail
 refine h1.mono ?_;rintro e w2 ⟨rfl,c2,c0,c1,r1⟩;go_wp2
 go_region
 all_goals go_wp2
 all_goals exact hQ _ rfl rfl rfl _ _ r1 rfl rfl rfl rfl
end
open Go.Maps
def Sz(w:JE):Prop:=w.cell? ⟨0,0,none⟩=some (.iface 226 (.agg #[.pointer (some ⟨1,33,none⟩)]))
theorem Sz.lt{w:JE}(h:Sz w):0<w.heap.size:=by
 rcases Nat.eq_zero_or_pos w.heap.size with h0|h1
 .simp[Sz,World.cell?,h0]at h
 .exact h1
theorem Sz.tch{N:Nat}{M:JB}{w w':JE}(h:Sz w)(t:Tch N M w w')(h0:0<N)(hm:¬M 0):Sz w':=(t.cell (a:=⟨0,0,none⟩) h0 hm).trans h
section
variable{w:JE}{b g:Nat}{old:JJ}{n at_:Int}
theorem Jp7(w:JE)(arr:JC)(ty:JH):(w.alloc (.cells arr ty)).frozen? ⟨w.heap.size,0,none⟩=false:=by
 simp_all
theorem Jw7{w:JE}{a:Addr}{v:JJ}{old:JJ}(h:w.cell? a=some old):(w.setCell a v).cell? a=some v:=by
 grind[World.cell?_setCell_same']
theorem Jzo{v:JJ}{pt el:JH}{c:JJ}{z1:JH}(hb:b<w.heap.size)(Bf:w.cell? ⟨b,0,none⟩=some old)(h:Calls prog 30 #[.iface el v,.iface pt c] w λev w'=>ev=.returned (.bool true)/\∃o1 o2 o3 o4,w'=((((w.alloc o1).alloc o2).alloc o3).alloc o4).setCell ⟨b,0,none⟩ v) :
  Calls prog 30 #[.iface el v,.iface pt c] w λev w'=>ev=.returned (.bool true)/\w'.cell? ⟨b,0,none⟩=some v/\Tch w.heap.size (λx=>x=b) w w':=
 h.mono λe w' h=>by
  obtain⟨rfl,o1,o2,o3,o4,rfl⟩:=h;have t4:Tch w.heap.size (λx=>x=b) w ((((w.alloc o1).alloc o2).alloc o3).alloc o4):=(((Tch.refl.alloc (Ad _) _).alloc (by simp_all) _).alloc (by grind[size_alloc]) _).alloc (by grind[size_alloc]) _;refine⟨rfl,Jw7 (old:=old) ?_,t4.set (.inr rfl) _⟩
  grind[World.cell?_alloc_lt,size_alloc]
theorem J093(hg:Sz w)(hb:b<w.heap.size)(Bf:w.cell? ⟨b,0,none⟩=some old)(hf:w.frozen? ⟨b,0,none⟩=false) :
  Calls prog 30 #[.iface 85 (pt g 0),.iface 87 (pt b 0)] w λev w'=>ev=.returned (.bool true)/\w'.cell? ⟨b,0,none⟩=some (pt g 0)/\Tch w.heap.size (λx=>x=b) w w':=
 Jzo (z1:=0) hb Bf ((J084 ⟨g,0,none⟩ ⟨b,0,none⟩ old w hg Bf hf).mono λe w' h=>⟨h.1,_,_,_,_,h.2⟩)
end
section
variable{w:JE}{g:Nat}{n at_:Int}{ds:List Deferred}{Q:Exit->Act->JE->Prop}
theorem J088(hg:Sz w)(xK:g<w.heap.size)(c0:w.cell? ⟨g,0,none⟩=some (JK n))(c1:w.cell? ⟨g,1,none⟩=some (JK at_))
  (hQ:∀T':JC,T'.size=27->T'[2]?=some (JK n)->T'[3]?=some (JK at_)->∀w',Tch w.heap.size M0 w w'->Q .ret ⟨T',ds⟩ w'):b16.wp prog Q ⟨T16 (.iface 85 (pt g 0)),ds⟩ w:=by
 have h0:=hg.lt;have t1:Tch w.heap.size M0 w (w.alloc (.cells #[.pointer none] 85)):=Tch.refl.alloc (Ad _) _;rw[J03e];refine J06t (R1:=λw2=>Tch w.heap.size M0 w w2) ((J093 (hg.tch t1 h0 λh=>h) (by simp_all) (old:=.pointer none) ((cell_of (Ja _) 0).trans rfl) (Jp7 _ _ _)).mono ?_) λT' s1 s2 s3 w2 w3 t12 e1 e2 e3 e4=>hQ T' s1 s2 s3 w3 ⟨by rw[e1];exact t12.size,λb hb hm=>by rw[e1];exact t12.heap b hb hm,e4.trans t12.tape,e2.trans t12.os,e3.trans t12.output⟩;rintro e w2 ⟨rfl,c2,t2⟩;have t12:Tch w.heap.size M0 w w2:=t1.then (t2.mono (M':=λx=>x=w.heap.size) (Ad _) λ_ _ h=>h) t1.size λb hb h=>by omega
 exact⟨rfl,c2,(t12.cell (a:=⟨g,0,none⟩) xK λh=>h).trans c0,(t12.cell (a:=⟨g,1,none⟩) xK λh=>h).trans c1,t12⟩
end
end Go.Sim.Z
namespace Go.Sim
open Go Go.Conc
section
variable{P:Program}{Post:(JB)->JF->JE->Prop}{W:JB}{g:JF}{w:JE}
theorem Reach.Jw8{own X V:JB}{Stop:Sit->Prop}(hR:Runs false P true Stop ⟨own,X,g,w⟩)(hr:g.status=.running)(hd:∀b,W b->¬X b)(jP:∀b,W b->¬own b)(hV:∀b,V b->b<w.heap.size/\¬own b)(hX:∀b,X b->b<w.heap.size)
  (k:∀y,Stop y->(∀b,W b->¬y.X b)->(∀b,V b->y.w.heap[b]?=w.heap[b]?)->w.heap.size<=y.w.heap.size->Reach P Post W y.g y.w):Reach P Post W g w:=by
 intro gs sl t q W0 hs hl h0 hC;obtain⟨N,BG,y',sl',t',q',h1,_,h3,h4,h5,h6,h7,h8,h9,Ce⟩:=Jaf (W:=λb=>W b\/V b) (Z:=W) hR (sl:=sl) h0 hr hC (atRel_refl w) (λb hb=>by obtain⟨a1,a2,a3,a4⟩:=hs b hb;exact hd b a1) (λb hb=>hb.elim (λhb=>⟨hl b hb,jP b hb⟩) (hV b)) (λb hb=>⟨hl b hb,hd b hb⟩) hX;have h9':Kept W W w y'.w:=⟨λ_ h=>h,λb hb=>h9.keep b (.inl hb),h9.os,h9.out⟩;obtain⟨N2,Nb,w2,Pj,t2,q2,W2,W3,g2,BM,WY,QD,Xg,hK,Bo,Eu⟩:=k y' h4 h7 (λb hb=>h9.keep b (.inr hb)) Ce BG sl' t' q' W0 (hs.kept h9') (λb hb=>DX (hl b hb) Ce) h3 h5;exact⟨N+N2,Nb,w2,Pj,t2,q2,W2,W3,g2,ZT h1 BM,WY,QD,Xg,h9'.trans hK,Bo,Eu⟩
end
section
variable{C:Cx}{S:Kn}{W E:JB}{w:JE}
theorem Reach.J03g(A:FM C S)(Ae:C.st=false){Post:(JB)->JF->JE->Prop}{b:Frame}{c:Code}{t:JC}{ds:List Deferred}{k:List Item}{cs:List Frame}{Q:JC->JE->Prop}{V:JB}
  (hc:Ji C S b.fn c=true) (hb:GY C b.fn) (Nk:S.df.contains b.fn=false) (hl:C.hl b.fn≠[]) (hk:b.kind≠.early)
  (hB:BOk C S W E w) (hV:∀b,V b->b<w.heap.size/\¬E b) (ht:TmR C S b.fn (idE E) t t)
  (K:∀τ,c.wp C.P (λe a w1=>e=.ret/\(∀i,(C.hl b.fn).contains i=true->a.tmps[i]?=t[i]?)/\Q a.tmps w1) ⟨t,[Jq]⟩ (w.tp τ 0))
  (kr:∀(E':JB)(t':JC)(w1 w':JE)(todo:List Item),(∀b,E b->E' b)->BOk C S W E' w'->WR C (okP C S) (idE E') w1 w'->TmR C S b.fn (idE E') t' t'->(∀b,V b->w'.heap[b]?=w.heap[b]?)->w.heap.size<=w'.heap.size->Q t' w1->Reach C.P Post W (G { b.at ⟨t',ds⟩ todo with mode:=.returning } cs) w') :
  Reach C.P Post W (G (b.at ⟨t,ds⟩ (.code c::k)) cs) w:=by
 have Cj:∀b,¬C.Sh b:=C.lax Ae;have hR:=nG A (main:=true) (b:=b) (c:=c) (ds:=ds) (k:=k) (cs:=cs) (Q:=λe a w1=>e=.ret/\(∀i,(C.hl b.fn).contains i=true->a.tmps[i]?=t[i]?)/\Q a.tmps w1) hc hb Nk hl hk hB.link ht K (λe a w h=>.inr h.1);rw[Ae]at hR;refine Reach.Jw8 (V:=V) hR rfl hB.dis hB.dis hV (λb hb=>hB.lt hb) ?_;rintro⟨own,X,g,wy⟩ ⟨E1,a,w1,t',hs,hL,CB,LC,hq⟩ hd hVk Ag;simp only at hL hd hq hVk Ag
 let E':JB:=λb=>E1 b b
 have e1:∀b b',E1 b b'->b=b':=hL.wr.lid Ae;have hE:∀b,E b->E' b:=λb hb=>hs b b ⟨rfl,hb⟩;have s2:rng E1=E':=by
  funext b;simp only[rng,E',eq_iff_iff]
  grind
 have s3:E1=idE E':=by
  funext b b';simp only[idE,E',eq_iff_iff]
  grind
 have Qh:WR C (okP C S) (idE E') wy wy:=by
  have:=hL.wr.right (Md.refl C) (ok':=okP C S) Cj Ae (λ_=>⟨rfl,rfl⟩)
  grind
 have Gq:BOk C S W E' wy:=⟨Qh,hE _ hB.hnd,λg hg=>hE _ (hB.gl g hg),λb hb he=>hd b hb (hL.rng b b he).1⟩;have BQ:WR C (okP C S) (idE E') w1 wy:=by rw[<- s3];exact hL.wr
 rcases hq with⟨⟨h1,_,_⟩,_⟩|⟨⟨_,hh,hq⟩,todo,rfl⟩
 .cases h1
 .have:=CB.eq_of e1 LC hh
  grind
end
end Go.Sim
namespace Go.Sim.Z
open Go Go.Proofs Go.RowKit Go.Conc Go.Maps
theorem results_tmp2{fn:Func}{t u:Tmp}(h:fn.results=#[.tmp t,.tmp u])(tmps:JC)(P:Program)(w:JE) :
  (results fn tmps).run P w=.ok (.tuple #[tmps.getD t JA,tmps.getD u JA]) w:=by
 simp[results,h]
section
variable{W E:JB}{w:JE}{B b₀:Frame}{a a₀:Act}{k:List Item}{cs:List Frame}{Post:(JB)->JF->JE->Prop}
theorem Reach.J03h{P:Program}{fn:Func}{todo:List Item}{ops:Array Oper}{i:Nat}{rest:List Nat}{x y:Tmp}(hn:B.kind=.normal)(hd:a.defers=[])(hf:P.funcs[B.fn]?=some fn)(hr:fn.results=#[.tmp x,.tmp y])
  (kn:∀d,Reach P Post W (G (b₀.at (a₀.put ((ops[i]?).bind (·.dst)) (.tuple #[a.tmps.getD x JA,a.tmps.getD y JA])) (.inRegion ops rest::k)) cs) (w.at d)) :
  Reach P Post W (G { B.at a todo with mode:=.returning } (b₀.at a₀ (.inRegion ops (i::rest)::k)::cs)) w:=by
 refine J6 (λw1=>?_) rfl kn;rw[Jam hn hd hf (results_tmp2 hr _ P w1),Frame.finish_at,events_results_tmp2 hr,seen_none]
inductive Jmb(w:JE):JJ->Int->Int->Prop
 |fault{g:Nat}{n at_:Int}(t:JH)(h:w.heap[g]?=some (.cells #[.int .i64 n,.int .i64 at_] t (0,0)))(h1:1<g):Jmb w (.iface 85 (pt g 0)) n at_
def FB(v:JJ)(b:Nat):Prop:=v=.iface 85 (pt b 0)
def EB(v:JJ)(b:Nat):Prop:=b=1\/b=0\/FB v b
theorem FB.one{v:JJ}{b b':Nat}(h:FB v b)(h':FB v b'):b=b':=by
 unfold FB at h h'
 grind
theorem Wv:prog.globals.size=1:=by kernel_rfl
theorem Jp9(b:Nat)(hb:b=1)(v:JJ)(t:Nat):VR C2 (idE (EB v)) (.pointer (some ⟨b,t,none⟩)) (.pointer (some ⟨b,t,none⟩)):=.ptr t none ⟨rfl,.inl hb⟩
theorem Jw9{C:Cx}{E:J5}{arr:JC}(h:∀x∈arr.toList,∃k n,x=.int k n):AR C E arr arr:=⟨rfl,λi x x' hx Af=>by rw[hx]at Af;cases Af;obtain⟨k,n,rfl⟩:=h x (Array.mem_toList_iff.2 (Ho hx));exact .int k n⟩
structure bQ(w:JE)(v:JJ)(n at_:Int):Prop where
 tells:Jmb w v n at_
 err:∃t,w.heap[0]?=some (.cells #[.iface 226 (.agg #[.pointer (some ⟨1,33,none⟩)])] t (0,0))
 hok:∃arr t,w.heap[1]?=some (.cells arr t (0,0))/\∀x∈arr.toList,∃k n,x=.int k n
theorem bQ.bok{v:JJ}{n at_:Int}(h:bQ w v n at_)(hW:∀b,EB v b->¬W b):BOk C2 S2 W (EB v) w:=by
 obtain⟨ht,⟨t0,h0⟩,arr,t1,h1,hp⟩:=h;have obj:∀b o,EB v b->w.heap[b]?=some o->Kv C2 (okP C2 S2) (idE (EB v)) b o o:=by
  intro b o hb ho;rcases hb with rfl|rfl|hb
  .rw[h1]at ho;cases ho;exact⟨_,_,rfl,Jw9 hp,λh=>h.elim,λ_=>⟨rfl,λe=>rfl⟩⟩
  .rw[h0]at ho;cases ho;refine⟨_,_,rfl,AR.one (.iface 226 (all2 226) (.agg rfl λi x x' hx Af=>?_)),λh=>h.elim,λ_=>⟨rfl,λe=>rfl⟩⟩;rw[hx]at Af;cases Af
   match i,hx with
   |0,hx=>cases hx;exact Jp9 1 rfl v 33
   |i+1,hx=>simp at hx
  .cases ht with
   |fault t hg Vo=>
    cases hb;rw[hg]at ho;cases ho;exact⟨_,_,rfl,Jw9 (λx hx=>by
     grind),λh=>h.elim,λ_=>⟨rfl,λe=>rfl⟩⟩
 have lt:∀b,EB v b->b<w.heap.size:=by
  intro b hb;rcases hb with rfl|rfl|hb
  .grind
  .grind
  .cases ht with
   |fault t hg Vo=>cases hb;grind
 refine⟨⟨rfl,λb b' ⟨e,hb⟩=>?_,λb c c' k k'=>k.1.symm.trans k'.1,λb c b2 k k'=>k.1.trans k'.1.symm,λb k=>k.elim,λb b' o o' ⟨e,hb⟩ x x'=>?_,λ_ b b' k=>k.1,λ_=>rfl,λe=>by cases e⟩,?_,λg hg=>?_,λb hb he=>hW b he hb⟩
 .grind
 .grind
 .show EB v prog.globals.size;rw[Wv];exact .inl rfl
 .have:g=0:=by simpa[S2]using hg
  subst this;exact .inr (.inl rfl)
theorem J061(v:JJ):(T16 v)[0]?=some v:=by simp[T16]
theorem J062{v y:JJ}{j:Nat}(h:(T16 v)[j+1]?=some y):y=JA:=by
 unfold T16 at h
 grind
theorem Jwa(v:JJ):(T16 v).size=27:=by simp[T16]
theorem WR.Jwb{C:Cx}{ok:JG->Code->Prop}{X:JB}{w1 w':JE}(h:WR C ok (idE X) w1 w')(Ae:C.st=false){b:Nat}(hb:X b){arr:JC}{t:JH}{fz:Nat × Nat}(ho:w1.heap[b]?=some (.cells arr t fz)):w'.heap[b]?=some (.cells arr t fz):=by
 have Ac:=(h.dom b b ⟨rfl,hb⟩).2;obtain⟨c',FU,e1,e2,e3,e4⟩:=h.obj b b _ _ ⟨rfl,hb⟩ ho (Bz Ac);rw[Bz Ac,e1,(e4 (C.lax Ae b)).1];have:arr=c':=by
  apply Ll;intro i;by_cases hi:i<arr.size
  .have h1:arr[i]?=some arr[i]:=Bz hi;have h2:c'[i]?=some (c'[i]'(e2.size▸hi)):=Bz _;rw[h1,h2,(e2.at_ i _ _ h1 h2).eq (λa b h=>h.1)]
  .rw[Cc (by omega),Cc (by have:=e2.size;omega)]
 rw[this]
theorem Jzp{v:JJ}{n at_:Int}{w:JE}{ds:List Deferred}{Q:Exit->Act->JE->Prop}(h:bQ w v n at_)(hQ:∀T':JC,T'.size=27->T'[2]?=some (JK n)->T'[3]?=some (JK at_)->∀w',Tch w.heap.size M0 w w'->Q .ret ⟨T',ds⟩ w'):b16.wp prog Q ⟨T16 v,ds⟩ w:=by
 obtain⟨ht,⟨t0,h0⟩,_⟩:=h;have hg:Sz w:=(cell_of h0 0).trans rfl;cases ht with
 |fault t hb h1=>exact J088 hg (bJ hb) ((cell_of hb 0).trans rfl) ((cell_of hb 1).trans rfl) hQ
theorem J03i{v:JJ}(hB:BOk C0 S0 W E w)(hv:∀b,FB v b->E b):∀b,EB v b->E b:=by
 rintro b (rfl|rfl|hb)
 .have:=hB.hnd
  rwa [show C0.P.globals.size=1 from Wv]at this
 .exact hB.gl 0 rfl
 grind
theorem Jwc{C:Cx}{S:Kn}{w':JE}(h:BOk C S W E w)(Ae:C.st=false)(hk:∀b,E b->w'.heap[b]?=w.heap[b]?):BOk C S W E w':=by
 have lt:∀b,E b->b<w'.heap.size:=λb hb=>by
  have h1:=hk b hb;rw[Bz (h.lt hb)]at h1
  grind
 refine⟨⟨rfl,λb b' ⟨e,k⟩=>(by grind),h.wr.fn,h.wr.inj,λb k=>(C.lax Ae b k).elim,λb b' o o' k x x'=>?_,h.wr.lid,λ_=>rfl,λe=>by grind⟩,h.hnd,h.gl,h.dis⟩;obtain⟨rfl,hb⟩:=k;rw[hk b hb]at x x';exact h.wr.obj b b o o' ⟨rfl,hb⟩ x x'
theorem Jpa{v:JJ}{n at_:Int}{ops:Array Oper}{i:Nat}{rest:List Nat}{o:Oper}{x:Tmp}{NU:Array JH}(hB:BOk C0 S0 W E w)(hv:∀b,FB v b->E b)(hT:bQ w v n at_)
  (ho:ops[i]?=some o) (hw:Region.wanted o (yielded ops a₀.tmps)=true) (hk:b₀.kind≠.early) (Ar:o.op=.call { callee:=.value (.func 16),args:=#[.tmp x],argTypes:=NU }) (hx:a₀.tmps.getD x JA=v)
  (kn:∀w',BOk C0 S0 W E w'->(∀b,E b\/W b->w'.heap[b]?=w.heap[b]?)->w.heap.size<=w'.heap.size->Reach prog Post W (G (b₀.at (a₀.put o.dst (.tuple #[JK n,JK at_])) (.inRegion ops rest::k)) cs) w') :
  Reach prog Post W (G (b₀.at a₀ (.inRegion ops (i::rest)::k)) cs) w:=by
 have hE:=J03i hB hv;refine Reach.mid (Mid:=λg' w'=>g'=G (b₀.at (a₀.put o.dst (.tuple #[JK n,JK at_])) (.inRegion ops rest::k)) cs/\BOk C0 S0 W E w'/\(∀b,E b->w'.heap[b]?=w.heap[b]?)/\w.heap.size<=w'.heap.size) ?_ λg' w' ⟨e,h1,h2,h3⟩ hK=>by
  grind
 refine Reach.call ho hw hk Ar (show prog.funcs[16]?=some f16 by kernel_rfl) (by kernel_rfl) J03d λd=>?_;have LH:f16.ntmps=27:=by kernel_rfl
 have CB:(#[Operand.tmp x]:Array Operand).map a₀.eval++Array.replicate (f16.ntmps-((#[Operand.tmp x]:Array Operand).map a₀.eval).size) JA=T16 v:=by
  have hm:(#[Operand.tmp x]:Array Operand).map a₀.eval=#[v]:=by simp[Act.eval,<- hx]
  have hz:(27-(#[v]:JC).size)=26:=by simp
  rw[LH,hm,hz];unfold T16;rfl
 rw[CB];have hT':bQ (w.at d) v n at_:=by
  obtain⟨ht,h0,h1⟩:=hT;exact⟨by cases ht with
   |fault t h h1=>exact .fault t h h1,h0,h1⟩
 have Dt:BOk C2 S2 W (EB v) (w.at d):=hT'.bok λb hb hw=>hB.dis b hw (hE b hb);have ht16:TmR C2 S2 16 (idE (EB v)) (T16 v) (T16 v):=by
  have Iw:VR C2 (idE (EB v)) v v:=by
   obtain⟨ht,_⟩:=hT;cases ht with
   |fault t h h1=>exact .iface 85 (all2 85) (.ptr 0 none ⟨rfl,.inr (.inr rfl)⟩)
  have z0:=J061 v;have zs:=λj y=>J062 (v:=v) (y:=y) (j:=j);generalize T16 v=T0 at z0 zs ⊢;refine⟨rfl,λj y y' hj h1 h2=>?_,λj y hj _=>by cases hj⟩;rw[h1]at h2;cases h2
  match j with
  |0=>
   grind
  |j+1=>
   obtain rfl:=zs _ _ h1;exact .undef
 refine Reach.J03g (b:=base 16) (V:=λb=>E b/\¬EB v b) (Q:=λT' w1=>T'.size=27/\T'[2]?=some (JK n)/\T'[3]?=some (JK at_)/\∀b,b<w.heap.size->w1.heap[b]?=w.heap[b]?) J036 rfl ok16 ⟨f16,by kernel_rfl,by kernel_rfl,by kernel_rfl⟩ rfl (by show[1000]≠[];simp) (by simp[base]) Dt (λb hb=>⟨hB.lt hb.1,hb.2⟩) ht16 (λτ=>?_) λE' T' w1 w' todo hE' Gq BQ yE hV Ag ⟨s1,s2,s3,t1⟩=>?_
 .refine Jzp (h:=?_) λT' s1 s2 s3 w' t1=>⟨rfl,λi hi=>?_,s1,s2,s3,λb hb=>t1.heap b hb λh=>h⟩
  .obtain⟨ht,h0,h1⟩:=hT;exact⟨by cases ht with
    |fault t h h1=>exact .fault t h h1,h0,h1⟩
  .have:i=1000:=by have:(C2.hl 16).contains i=true:=hi;simpa[C2]using this
   grind[Array.getElem?_eq_none,Jwa]
 .have same:∀b,EB v b->w'.heap[b]?=w.heap[b]?:=by
   have go:∀b arr t,EB v b->w.heap[b]?=some (.cells arr t (0,0))->w'.heap[b]?=some (.cells arr t (0,0)):=λb arr t hb hc=>
    WR.Jwb BQ rfl (hE' b hb) ((t1 b (bJ hc)).trans hc)
   intro b hb;obtain⟨ht,⟨t0,h0⟩,arr,t2,h1,_⟩:=hT;rcases hb with rfl|rfl|hb
   .rw[h1];exact go 1 _ _ (.inl rfl) h1
   .rw[h0];exact go 0 _ _ (.inr (.inl rfl)) h0
   .cases ht with
    |fault t hg Vo=>cases hb;rw[hg];exact go _ _ _ (.inr (.inr rfl)) hg
  have keep:∀b,E b->w'.heap[b]?=w.heap[b]?:=λb hb=>by
   by_cases h:EB v b
   .grind
   .exact hV b ⟨hb,h⟩
  refine Reach.J03h (B:=base 16) (a:=⟨T',[]⟩) rfl rfl (show prog.funcs[16]?=some f16 by kernel_rfl) (show f16.results=#[.tmp 2,.tmp 3] by kernel_rfl) λd2=>Reach.here ⟨rfl,?_,((Jwc hB rfl keep).at d2),keep,Ag⟩
  simp_all
end
section
variable{fn:JG}{W E0 E:JB}{w0 w:JE}{T:JC}{ops:Array Oper}{k:List Item}{cs:List Frame}{Post:(JB)->JF->JE->Prop}{la:JI}{n lc s d1 d2 d3 id:Nat}{rs:List Gi}{fs:List Jd}{c:Code}
theorem qC.of_heap{w':JE}(h:qC w la rs)(hh:∀a,la=some a->w'.heap[a.block]?=w.heap[a.block]?):qC w' la rs:=by
 refine⟨λi r hr=>?_,h.ok⟩;obtain⟨b,o,r1,r2,r3,r4,r5,r6,r7⟩:=h.at_ i r hr
 grind[World.cell?_of_block,Array.getElem?_eq_getElem,Array.getElem?_eq_some_iff]
theorem J06d(H:HS fn W E0 w0 E T w)(hp:(ops.size,(ops[0]?).bind mvP,(ops[1]?).bind aG,(ops[2]?).bind mvP)=(3,some (d1,.tmp s),some (d2,13,#[.tmp d1]),some (d3,.tmp d2)))
  (hh:gX fn (d1,.tmp s)=true/\gX fn (d3,.tmp d2)=true) (hd:d1<T.size/\d2<T.size/\d3<T.size) (hs:T[s]?=some (.slice la n lc))
  (hR:qC w la rs) (hn:rs.length=n) (Zb:fs=(rs.take 200).map Gi.fact) (hW:∀a,la=some a->W a.block) (hT:∀a,la=some a->∀c z,w.heap[a.block]?≠some (.cells c wgT z))
  (kn:∀E' w' ga c2 pl T',HS fn W E0 w0 E' T' w'->(∀b,E b->E' b)->KE E w w'->G8 false w' ga fs c2 pl->(∀y∈pl,w.heap.size<=y)->VR C0 (idE E') (.slice ga fs.length c2) (.slice ga fs.length c2)->(∀b,W b->w'.heap[b]?=w.heap[b]?) ->
   T'.size=T.size->(∀i,i≠d1->i≠d2->i≠d3->T'[i]?=T[i]?)->T'[d3]?=some (.slice ga fs.length c2)->Reach prog Post W (G ((base fn).at ⟨T',[]⟩ (.code c::k)) cs) w') :
  Reach prog Post W (G ((base fn).at ⟨T,[]⟩ (.code (.seq (.region id ops false) c)::k)) cs) w:=by
 simp only[Prod.mk.injEq]at hp;obtain⟨p0,p1,p2,p3⟩:=hp;have hr:List.range ops.size=List.range' 0 1++1::[2]:=by rw[p0];rfl
 refine jS (m:=1) (l:=[(d1,.tmp s)]) H rfl (by simp[p1]) (by simp[hh.1]) p2 hr (show prog.funcs[13]?=some f13 by kernel_rfl) (by kernel_rfl) body6 λw1 H1 e1 z1 k1=>?_;have x1:(mvT T [(d1,.tmp s)])[d1]?=some (.slice la n lc):=by simp[mvT,Act.eval,Bq,hs,hd.1]
 generalize mvT T [(d1,.tmp s)]=T1 at *;have ea:(#[Operand.tmp d1].map (Act.eval ⟨T1,[]⟩))++Array.replicate (f13.ntmps-(#[Operand.tmp d1].map (Act.eval ⟨T1,[]⟩)).size) JA=#[.slice la n lc]++Array.replicate 54 JA:=by
  have LH:f13.ntmps=55:=by kernel_rfl
  have h1:(#[Operand.tmp d1].map (Act.eval ⟨T1,[]⟩))=#[.slice la n lc]:=by simp[Act.eval,Bq,x1]
  simp[*]
 rw[ea];obtain⟨o,ho,hc⟩:=Gl.1 p2;obtain⟨_,jI,_⟩:=vI hc;refine Jle (fs:=fs) (rs:=rs) H1.bok (hR.of_heap λa _=>by rw[e1]) hn Zb hW (λa ha=>by grind) λE2 w2 ga c2 pl qG Dt k2 fa pg vE kz kwf=>?_;rw[ho];simp only[Option.bind_some,jI];have ke1:KE E w w1:=.of_eq λb _=>by rw[e1]
 have H2:=H1.to Dt qG k2 kwf kz;obtain⟨T2,OA⟩:∃T2,T2=T1.setIfInBounds d2 (.slice ga fs.length c2):=⟨_,rfl⟩;have VL:HS fn W E0 w0 E2 T2 w2:=by rw[OA];exact H2.put (H2.set (.inr vE))
 have z2:T2.size=T.size:=by grind
 have x2:T2.getD d2 JA=.slice ga fs.length c2:=by simp[*]
 have y2:∀i,i≠d1->i≠d2->T2[i]?=T[i]?:=λi m1 m2=>by grind
 show Reach _ _ _ (G ((base fn).at ⟨T1.setIfInBounds d2 (.slice ga fs.length c2),[]⟩ (.inRegion ops (List.range' 2 1++[])::.code c::k)) cs) w2;rw[<- OA];refine Y5 (l:=[(d3,.tmp d2)]) VL (by simp[p3]) (by simp[hh.2]) λw3 H3 e3=>J6 (λw1=>stepG_region_end) rfl λd=>?_;have ex:mvT T2 [(d3,.tmp d2)]=T2.setIfInBounds d3 (.slice ga fs.length c2):=by show T2.setIfInBounds d3 (T2.getD d2 JA)=_;rw[x2]
 rw[ex]at H3 ⊢;have pY:(w3.at d).heap=w2.heap:=e3;refine kn E2 _ ga c2 pl _ (H3.at d) qG ((ke1.trans k2).trans (.of_eq λb _=>by rw[pY])) (fa.kept λb _=>by rw[pY]) (λy hy=>by grind) vE (λb hb=>by grind) (by grind) (λi m1 m2 m3=>?_) ?_
 all_goals grind
end
section
variable{fn:JG}{W E0 E:JB}{w0 w:JE}{T:JC}{ops:Array Oper}{k:List Item}{cs:List Frame}{Post:(JB)->JF->JE->Prop}{ga:JI}{c2f sc sg d1 d2 d3 d4 id:Nat}{fs:List Jd}{pl:List Nat}{cd:Code}{c:Int}
theorem J06e(H:HS fn W E0 w0 E T w)(hp:(ops.size,(ops[0]?).bind mvP,(ops[1]?).bind mvP,(ops[2]?).bind aG,(ops[3]?).bind mvP)=(4,some (d1,.tmp sc),some (d2,.tmp sg),some (d3,14,#[.tmp d1,.tmp d2]),some (d4,.tmp d3)))
  (hh:gX fn (d1,.tmp sc)=true/\gX fn (d2,.tmp sg)=true/\gX fn (d4,.tmp d3)=true) (hd:d1<T.size/\d2<T.size/\d3<T.size/\d4<T.size/\d1≠d2/\d1≠sg) (hsc:T[sc]?=some (JK c)) (hsg:T[sg]?=some (.slice ga fs.length c2f)) (hgh:(C0.hl fn).contains sg=false)
  (hok:HOk w) (hc:I64 c) (fa:G8 false w ga fs c2f pl) (IQ:∀f∈fs,RH f/\BI f.k∈U64) (Ih:fs.length<=200)
  (kn:∀W' E' w' x c' h hs nf vm base S T',HS fn W' E' w' E' T' w'->(∀b,E b->E' b)->KE E w w'->NJ E' w' x c' c h nf vm base S->O3 c' hs fs S->(c'.bits=4+Jr c 1048576 % 3/\c'.nb=4)->(∀y,0<=hs y/\hs y<=18446744073709551615)->HOk w'->E' x->J05o E E' w' c x c' h hs nf vm base S ->
   T'.size=T.size->(∀i,i≠d1->i≠d2->i≠d3->i≠d4->T'[i]?=T[i]?)->T'[d4]?=some (pt x)->Reach prog Post W' (G ((Go.Conc.base fn).at ⟨T',[]⟩ (.code cd::k)) cs) w') :
  Reach prog Post W (G ((Go.Conc.base fn).at ⟨T,[]⟩ (.code (.seq (.region id ops false) cd)::k)) cs) w:=by
 simp only[Prod.mk.injEq]at hp;obtain⟨p0,p1,p2,p3,p4⟩:=hp;have vg:VR C0 (idE E) (.slice ga fs.length c2f) (.slice ga fs.length c2f):=H.tm.slot (i:=sg) hgh hsg;have hr:List.range ops.size=List.range' 0 2++2::[3]:=by rw[p0];rfl
 refine jS (m:=2) (l:=[(d1,.tmp sc),(d2,.tmp sg)]) H rfl (by grind[List.range'_succ]) (by grind) p3 hr (show prog.funcs[14]?=some f14 by kernel_rfl) (by kernel_rfl) body7 λw1 H1 e1 z1 k1=>?_;have x1:(mvT T [(d1,.tmp sc),(d2,.tmp sg)])[d1]?=some (JK c):=by show((T.setIfInBounds d1 (T.getD sc JA)).setIfInBounds d2 _)[d1]?=_;rw[AV (Ne.symm hd.2.2.2.2.1),FC hd.1,Bq,hsc];rfl
 have x2:(mvT T [(d1,.tmp sc),(d2,.tmp sg)])[d2]?=some (.slice ga fs.length c2f):=by show((T.setIfInBounds d1 (T.getD sc JA)).setIfInBounds d2 ((T.setIfInBounds d1 (T.getD sc JA)).getD sg JA))[d2]?=_;simp[*]
 generalize mvT T [(d1,.tmp sc),(d2,.tmp sg)]=T1 at *;have ea:(#[Operand.tmp d1,.tmp d2].map (Act.eval ⟨T1,[]⟩))++Array.replicate (f14.ntmps-(#[Operand.tmp d1,.tmp d2].map (Act.eval ⟨T1,[]⟩)).size) JA=#[JK c,.slice ga fs.length c2f]++Array.replicate 68 JA:=by
  have LH:f14.ntmps=70:=by kernel_rfl
  have h1:(#[Operand.tmp d1,.tmp d2].map (Act.eval ⟨T1,[]⟩))=#[JK c,.slice ga fs.length c2f]:=by simp[Act.eval,Bq,x1,x2]
  simp[*]
 rw[ea];obtain⟨o,ho,Xt⟩:=Gl.1 p3;obtain⟨_,jI,_⟩:=vI Xt;have ke1:KE E w w1:=.of_eq λb _=>by rw[e1]
 have tm7:TmR C0 S0 14 (idE E) (#[JK c,.slice ga fs.length c2f]++Array.replicate 68 JA) (#[JK c,.slice ga fs.length c2f]++Array.replicate 68 JA):=by
  refine .bK (λu hu=>?_) λ_=>rfl;rw[Array.toList_append,Gn]at hu;rcases hu with hu|hu
  .simp only[AL,BU,or_false]at hu;rcases hu with rfl|rfl
   .exact .int _ _
   .exact vg
  .simp only[Array.toList_replicate]at hu;rw[List.eq_of_mem_replicate hu];exact .undef
 refine Jlf (fs:=fs) (c2f:=c2f) (pl:=pl) H1.bok (hok.ke ke1 H.bok.hnd) hc (fa.kept λb _=>by rw[e1]) IQ Ih (by simp) (by simp) (by simp) tm7 λW8 E8 w8 x cx h hs nf vm base S Qi vX k8 q8 MB cb hb ok8 ex8 bx=>?_;rw[ho];simp only[Option.bind_some,jI];have vx:VR C0 (idE E8) (pt x) (pt x):=.ptr _ _ ⟨rfl,ex8⟩;have H8:HS fn W8 E8 w8 E8 T1 w8:=⟨vX,λ_ h=>h,.refl,λ_ _=>rfl,H1.tm.mono (Oj Qi),H1.own,Ad _⟩;obtain⟨T2,OA⟩:∃T2,T2=T1.setIfInBounds d3 (pt x):=⟨_,rfl⟩;have H2:HS fn W8 E8 w8 E8 T2 w8:=by rw[OA];exact H8.put (H8.set (.inr vx))
 have z2:T2.size=T.size:=by grind
 have x3:T2.getD d3 JA=pt x:=by simp[*]
 have y2:∀i,i≠d1->i≠d2->i≠d3->T2[i]?=T[i]?:=λi m1 m2 m3=>by rw[OA,AV (Ne.symm m3)];simp[*]
 show Reach _ _ _ (G ((Go.Conc.base fn).at ⟨T1.setIfInBounds d3 (pt x),[]⟩ (.inRegion ops (List.range' 3 1++[])::.code cd::k)) cs) w8;rw[<- OA];refine Y5 (l:=[(d4,.tmp d3)]) H2 (by simp[p4]) (by simp[hh.2.2]) λw3 H3 e3=>J6 (λw1=>stepG_region_end) rfl λd=>?_;have ex:mvT T2 [(d4,.tmp d3)]=T2.setIfInBounds d4 (pt x):=by show T2.setIfInBounds d4 (T2.getD d3 JA)=_;rw[x3]
 rw[ex]at H3 ⊢;have pY:(w3.at d).heap=w8.heap:=e3;have k9:KE E8 w8 (w3.at d):=.of_eq λb _=>by rw[pY]
 refine kn W8 E8 _ x cx h hs nf vm base S _ (H3.at d).start Qi ((ke1.trans k8).trans (k9.mono Qi)) ?_ MB cb hb (ok8.ke k9 vX.hnd) ex8 ?_ (by grind) (λi m1 m2 m3 m4=>?_) ?_
 .exact q8.ke k9 vX.hnd λ_ h=>h
 .exact⟨bx.1.ke k9 vX.hnd λ_ h=>h,bx.2⟩
 .grind
 grind
end
theorem SlN.sli{base:Nat}{w:JE}{v:JJ}{t:JH}{k:IntKind}{xs:JD}(h:SlN base w v t k xs):SlI false w 0 v t k xs:=by obtain⟨g,cap,h1,_,h3⟩:=h;exact .inr ⟨g,cap,h1,Nat.zero_le _,h3⟩
section
variable{w:JE}{ba bb:Nat}{ka ra ha la kb rb hb lb:JJ}{g:JD}{B:Bun}
theorem J0e8(A:KZ ba w ka ra ha la g B)(A':KZ bb w kb rb hb lb g B)(l1:g.length<=1000)(l2:B.r.length<=1000)(l3:B.h.length<=1000)(l4:B.l.length<=1000) :
  Calls prog 44 #[.agg #[ka,JK B.n,ra,ha,la],.agg #[kb,JK B.n,rb,hb,lb]] w λe w'=>e=.returned (.bool true)/\Tch w.heap.size M0 w w':=by
 have hk:=A.k.mono (Nat.zero_le _);have D6:=A'.k.mono (Nat.zero_le _);have sk:∀{w1:JE},Tch w.heap.size M0 w w1->Calls prog 85 #[ka,kb] w1 λe w'=>e=.returned (.bool true)/\Tch w1.heap.size M0 w1 w':=λt=>by
  have:=qN (hk.tch t) (D6.tch t) l1
  grind
 have sr:∀{w1:JE},Tch w.heap.size M0 w w1->Calls prog 85 #[ra,rb] w1 λe w'=>e=.returned (.bool true)/\Tch w1.heap.size M0 w1 w':=λt=>by
  have:=qN (A.r.sli.tch t) (A'.r.sli.tch t) l2
  grind
 have sh:∀{w1:JE},Tch w.heap.size M0 w w1->Calls prog 85 #[ha,hb] w1 λe w'=>e=.returned (.bool true)/\Tch w1.heap.size M0 w1 w':=λt=>by
  have:=qN (A.h.sli.tch t) (A'.h.sli.tch t) l3
  grind
 obtain⟨ga,ca,rfl,_,rowA⟩:=A.l;obtain⟨gb,cb,rfl,_,J089⟩:=A'.l;obtain⟨n,hn⟩:∃n,B.l.length=n:=⟨_,rfl⟩;have hcA:∀wr,Tch w.heap.size M0 w wr->∀i,i<n->wr.cell? ⟨ga,i,none⟩=some (.int .u64 (B.l.getD i 0)):=λwr t i hi=>(rowA.tch t rowA.lt λx=>x).cell (by omega);have hcB:∀wr,Tch w.heap.size M0 w wr->∀i,i<n->wr.cell? ⟨gb,i,none⟩=some (.int .u64 (B.l.getD i 0)):=λwr t i hi=>(J089.tch t J089.lt λx=>x).cell (by omega);have ska:∃p l c,ka=.slice p l c:=by
  rcases A.k with⟨rfl,_⟩|⟨_,_,rfl,_⟩<;>exact⟨_,_,_,rfl⟩
 have skb:∃p l c,kb=.slice p l c:=by
  rcases A'.k with⟨rfl,_⟩|⟨_,_,rfl,_⟩<;>exact⟨_,_,_,rfl⟩
 obtain⟨r1,r2,rfl,_⟩:=A.r;obtain⟨r3,r4,rfl,_⟩:=A'.r;obtain⟨h1,h2,rfl,_⟩:=A.h;obtain⟨h3,h4,rfl,_⟩:=A'.h;obtain⟨k1,k2,k3,rfl⟩:=ska;obtain⟨k4,k5,k6,rfl⟩:=skb;rw[hn]at l4 ⊢;clear A A' hk D6 rowA J089 hn;obtain⟨W,hW⟩:∃W,(w.alloc (.cells #[.slice k1 k2 k3,JK B.n,JM r1 B.r.length r2,JM h1 B.h.length h2,JM ga n ca] 38)).alloc (.cells #[.slice k4 k5 k6,JK B.n,JM r3 B.r.length r4,JM h3 B.h.length h4,JM gb n cb] 38)=W:=⟨_,rfl⟩;have t0:Tch w.heap.size M0 w W:=by rw[<- hW];exact(Tch.refl.alloc (Ad _) _).alloc (by simp_all) _
 have hA:W.heap[w.heap.size]?=some (.cells #[.slice k1 k2 k3,JK B.n,JM r1 B.r.length r2,JM h1 B.h.length h2,JM ga n ca] 38):=by grind[J8,size_alloc,Ja]
 have hB:W.heap[w.heap.size+1]?=some (.cells #[.slice k4 k5 k6,JK B.n,JM r3 B.r.length r4,JM h3 B.h.length h4,JM gb n cb] 38):=by
  grind[Ja,size_alloc]
 have cA:∀{wx:JE},Tch W.heap.size M0 W wx->wx.heap[w.heap.size]?=some (.cells #[.slice k1 k2 k3,JK B.n,JM r1 B.r.length r2,JM h1 B.h.length h2,JM ga n ca] 38):=λt=>(t.heap _ (Jj hA) λh=>h).trans hA;have cB:∀{wx:JE},Tch W.heap.size M0 W wx->wx.heap[w.heap.size+1]?=some (.cells #[.slice k4 k5 k6,JK B.n,JM r3 B.r.length r4,JM h3 B.h.length h4,JM gb n cb] 38):=λt=>(t.heap _ (Jj hB) λh=>h).trans hB;have th:∀{wx:JE},Tch W.heap.size M0 W wx->Tch w.heap.size M0 w wx:=λt=>t0.then t t0.size λ_ _ h=>h;have y0:=(cell_of hA 0).trans rfl;have z0:=(cell_of hB 0).trans rfl;have s1:=sk t0;have sr':=λ(wx:JE)(t:Tch W.heap.size M0 W wx)=>sr (th t);have sh':=λ(wx:JE)(t:Tch W.heap.size M0 W wx)=>sh (th t);clear sk sr sh
 go_enter func44,ntmps44
 go_wp2_with (go_at_call 85;first
  |(refine s3.mono ?_;rintro e w3 ⟨rfl,u3⟩;have v3:Tch W.heap.size M0 W w3:=v2.then u3 v2.size (λ_ _ h=>h);have y3:=(cell_of (cA v3) 1).trans rfl;have z3:=(cell_of (cB v3) 1).trans rfl;have y4:=(cell_of (cA v3) 4).trans rfl;have z4:=(cell_of (cB v3) 4).trans rfl)
  |(refine s2.mono ?_;rintro e w2 ⟨rfl,u2⟩;have v2:Tch W.heap.size M0 W w2:=v1.then u2 v1.size (λ_ _ h=>h);have y2:=(cell_of (cA v2) 3).trans rfl;have z2:=(cell_of (cB v2) 3).trans rfl;have s3:=sh' _ v2)
  |(refine s1.mono ?_;rintro e w1 ⟨rfl,v1⟩;have y1:=(cell_of (cA v1) 2).trans rfl;have z1:=(cell_of (cB v1) 2).trans rfl;have s2:=sr' _ v1))
 have v3':=th v3
 go_loopw [8] (λi wr=>∃k:Nat,k<=n/\i=JK k/\Tch W.heap.size M0 W wr) (λi _=>n-(RowKit.intOf i).toNat)
 case atStart=>grind
 case round=>
  obtain⟨k,hk,rfl,ht⟩:=hrel;have a4:=(cell_of (cA ht) 4).trans rfl;have b4:=(cell_of (cB ht) 4).trans rfl;rcases BF k n with Ac|Et
  .have g1:=hcA _ (th ht) k Ac;have g2:=hcB _ (th ht) k Ac;have CS:(k:Int)<n:=by omega
   generalize B.l.getD k 0=x at *;clear hcA hcB cA cB;go_wp2
   go_region
   all_goals go_wp2
   exact⟨⟨k+1,by omega,by go_num,ht.drew⟩,by simp[RowKit.intOf];omega⟩
  .obtain rfl:k=n:=by omega
   have EC:¬((k:Int)<k):=by omega
   clear hcA hcB;go_wp2;go_ret
   simp_all
end
theorem J0f6(f:Nat->JJ):((List.range 59).map f).toArray=#[f 0,f 1,f 2,f 3,f 4,f 5,f 6,f 7,f 8,f 9,f 10,f 11,f 12,f 13,f 14,f 15,f 16,f 17,f 18,f 19,f 20,f 21,f 22,f 23,f 24,f 25,f 26,f 27,f 28,f 29,f 30,f 31,f 32,f 33,f 34,f 35,f 36,f 37,f 38,f 39,f 40,f 41,f 42,f 43,f 44,f 45,f 46,f 47,f 48,f 49,f 50,f 51,f 52,f 53,f 54,f 55,f 56,f 57,f 58]:=by rfl
theorem J09y{T:JC}(h:T.size=59):∃f:Nat->JJ,T=((List.range 59).map f).toArray:=⟨_,dM h⟩
def b14:Code:=f23.body.getD .skip
def lI:Code:=sC (sC (sC b14))
structure Pair(w:JE)(ga gb j:Nat)(q1 q2:QC):Prop where
 g:q1.g=q2.g
 B:q1.B=q2.B
 c1:∀o u,o<5->q1.cells[o]?=some u->w.cell? ⟨ga,j*5+o,none⟩=some u
 c2:∀o u,o<5->q2.cells[o]?=some u->w.cell? ⟨gb,j*5+o,none⟩=some u
 d1:KZ 0 w q1.kv q1.rv q1.hv q1.lv q1.g q1.B
 d2:KZ 0 w q2.kv q2.rv q2.hv q2.lv q2.g q2.B
 l:q1.g.length<=1000/\q1.B.r.length<=1000/\q1.B.h.length<=1000/\q1.B.l.length<=1000
def r8F(ga gb n ca cb k:Nat)(q1 q2:QC):Nat->JJ->JE->Prop
 |0,v,_=>v=.slice (some ⟨ga,0,none⟩) n ca
 |1,v,_=>v=.int .i64 k
 |2,v,_=>v=.pointer (some ⟨ga,k*5,none⟩)
 |3,v,_=>v=q1.val
 |4,v,_=>v=.slice (some ⟨gb,0,none⟩) n cb
 |5,v,_=>v=.int .i64 k
 |6,v,_=>v=.pointer (some ⟨gb,k*5,none⟩)
 |7,v,_=>v=q2.val
 |_,v,_=>v=.bool true
section
variable{w:JE}{ga gb n ca cb:Nat}{T0:JC}{d:Deferred}
theorem J06y(Ag:T0.size=59){pa pb:JI}(t9:T0[9]?=some (.slice pa n ca))(t10:T0[10]?=some .nilIface)(t11:T0[11]?=some (.slice pb n cb))(t12:T0[12]?=some .nilIface)(hn:n<=1000)(xY:0<n->pa=some ⟨ga,0,none⟩/\pb=some ⟨gb,0,none⟩)(hp:∀j,j<n->∃q1 q2,Pair w ga gb j q1 q2) :
  lI.wp prog (λe a w'=>e=.ret/\a.defers=[d]/\a.tmps.size=59/\a.tmps[8]?=some (.bool true)/\Tch w.heap.size M0 w w') ⟨T0,[d]⟩ w:=by
 obtain⟨f,rfl⟩:=J09y Ag;rw[J0f6]at *;have e9:f 9=_:=Aa t9;have MZ:f 10=_:=Aa t10;have QA:f 11=_:=Aa t11;have WQ:f 12=_:=Aa t12;rw[e9,MZ,QA,WQ];clear t9 t10 t11 t12 e9 MZ QA WQ;simp only[lI,b14,fC,sC,f23,A8];go_wp2
 go_loopw [13] (λi wr=>∃k:Nat,k<=n/\i=JK k/\Tch w.heap.size M0 w wr) (λi _=>n-(RowKit.intOf i).toNat)
 case atStart=>exact⟨0,by omega,rfl,.refl⟩
 case round=>
  obtain⟨k,hk,rfl,ht⟩:=hrel;rcases BF k n with Ac|Et
  .obtain⟨q1,q2,pr⟩:=hp k Ac;obtain⟨rfl,rfl⟩:=xY (by omega);clear xY;have CS:(k:Int)<n:=by omega
   have BA:∀{wx:JE}{a:Addr}{u:JJ},Tch wr.heap.size M0 wr wx->w.cell? a=some u->wx.cell? a=some u:=λt h=>((ht.then t ht.size λ_ _ h=>h).cell (cell_lt h) λx=>x).trans h;have tw:∀{wx:JE},Tch wr.heap.size M0 wr wx->Tch w.heap.size M0 w wx:=λt=>ht.then t ht.size λ_ _ h=>h;have x0:w.cell? ⟨ga,k*5,none⟩=some q1.kv:=pr.c1 0 _ (by omega) rfl;have x1:w.cell? ⟨ga,k*5+1,none⟩=some (JK q1.B.n):=pr.c1 1 _ (by omega) rfl;have x2:w.cell? ⟨ga,k*5+2,none⟩=some q1.rv:=pr.c1 2 _ (by omega) rfl;have x3:w.cell? ⟨ga,k*5+3,none⟩=some q1.hv:=pr.c1 3 _ (by omega) rfl;have x4:w.cell? ⟨ga,k*5+4,none⟩=some q1.lv:=pr.c1 4 _ (by omega) rfl;have y0:w.cell? ⟨gb,k*5,none⟩=some q2.kv:=pr.c2 0 _ (by omega) rfl;have y1:w.cell? ⟨gb,k*5+1,none⟩=some (JK q2.B.n):=pr.c2 1 _ (by omega) rfl;have y2:w.cell? ⟨gb,k*5+2,none⟩=some q2.rv:=pr.c2 2 _ (by omega) rfl;have y3:w.cell? ⟨gb,k*5+3,none⟩=some q2.hv:=pr.c2 3 _ (by omega) rfl;have y4:w.cell? ⟨gb,k*5+4,none⟩=some q2.lv:=pr.c2 4 _ (by omega) rfl;have hs:=λ(wx:JE)(t:Tch wr.heap.size M0 wr wx)=>J0e8 (w:=wx) (pr.d1.tch (tw t)) (show KZ 0 wx q2.kv q2.rv q2.hv q2.lv q1.g q1.B from by rw[pr.g,pr.B];exact pr.d2.tch (tw t)) pr.l.1 pr.l.2.1 pr.l.2.2.1 pr.l.2.2.2;have v2:q2.val=.agg #[q2.kv,JK q1.B.n,q2.rv,q2.hv,q2.lv]:=by unfold QC.val;rw[pr.B]
   go_wp2;refine J06f 48 9 (r8F ga gb n ca cb k q1 q2) mixed (by kernel_rfl) (by simp_all) (λi v w w' h _=>by match i,h with|0,h|1,h|2,h|3,h|4,h|5,h|6,h|7,h=>exact h|i+8,h=>exact h) (λi o a wv hi ho Hr hold hd=>?_) λvs wv hl Hr hF=>?_
   .have s9:a.tmps[9]?=some (JM ga n ca):=(hold 9 (.inl (by omega))).trans rfl;have s11:a.tmps[11]?=some (JM gb n cb):=(hold 11 (.inl (by omega))).trans rfl;have Tm:a.tmps[13]?=some (JK k):=(hold 13 (.inl (by omega))).trans rfl
    match i,hi with
    |0,_=>
     cases ho;exact J9 rfl rfl (by simp[execOp,go_sem,s9];try rfl) ⟨_,rfl,rfl,.refl⟩
    |1,_=>
     cases ho;exact J9 rfl rfl (by simp[execOp,go_sem,Tm];try rfl) ⟨_,rfl,rfl,.refl⟩
    |2,_=>
     cases ho;obtain⟨_,e0,rfl⟩:=hd 0 rfl;have e0:a.tmps[48]?=some _:=e0;obtain⟨_,e1,rfl⟩:=hd 1 rfl;have e1:a.tmps[49]?=some _:=e1;exact J9 rfl rfl (by simp[execOp,go_sem,e0,e1,CS];try rfl) ⟨_,rfl,rfl,.refl⟩
    |3,_=>
     cases ho;obtain⟨_,e0,rfl⟩:=hd 2 rfl;have e0:a.tmps[50]?=some _:=e0;exact J9 (v:=q1.val) rfl rfl (by unfold QC.val;simp[execOp,go_sem,e0,BA Hr x0,BA Hr x1,BA Hr x2,BA Hr x3,BA Hr x4];try rfl) ⟨_,rfl,rfl,.refl⟩
    |4,_=>
     cases ho;exact J9 rfl rfl (by simp[execOp,go_sem,s11];try rfl) ⟨_,rfl,rfl,.refl⟩
    |5,_=>
     cases ho;exact J9 rfl rfl (by simp[execOp,go_sem,Tm];try rfl) ⟨_,rfl,rfl,.refl⟩
    |6,_=>
     cases ho;obtain⟨_,e0,rfl⟩:=hd 4 rfl;have e0:a.tmps[52]?=some _:=e0;obtain⟨_,e1,rfl⟩:=hd 5 rfl;have e1:a.tmps[53]?=some _:=e1;exact J9 rfl rfl (by simp[execOp,go_sem,e0,e1,CS];try rfl) ⟨_,rfl,rfl,.refl⟩
    |7,_=>
     cases ho;obtain⟨_,e0,rfl⟩:=hd 6 rfl;have e0:a.tmps[54]?=some _:=e0;exact J9 (v:=q2.val) rfl rfl (by unfold QC.val;simp[execOp,go_sem,e0,BA Hr y0,BA Hr y1,BA Hr y2,BA Hr y3,BA Hr y4];try rfl) ⟨_,rfl,rfl,.refl⟩
    |8,_=>
     cases ho;obtain⟨_,e3,rfl⟩:=hd 3 rfl;have e3:a.tmps[51]?=some _:=e3;obtain⟨_,e7,rfl⟩:=hd 7 rfl;have e7:a.tmps[55]?=some _:=e7;rw[v2]at e7;unfold QC.val at e3;exact Rz rfl rfl (by simp[execOp,go_sem,e3,e7];try rfl) (hs wv Hr) λe w2 SA=>⟨_,SA.1,_,rfl,rfl,SA.2⟩
    |i+9,h=>omega
   .match vs,hl with
    |[v0,v1,v2,v3,v4,v5,v6,v7,v8],_=>
     obtain rfl:v8=_:=hF 8 (by omega);simp only[List.drop_succ_cons,List.drop_zero,setFrom,List.setIfInBounds_toArray,List.set_cons_succ,List.set_cons_zero];go_wp2;exact⟨⟨k+1,by omega,by go_num,tw Hr⟩,by simp[RowKit.intOf];omega⟩
  .obtain rfl:k=n:=by omega
   have EC:¬((k:Int)<k):=by omega
   go_wp2
   all_goals exact ht
end
section
variable{fn:JG}{W E0 E:JB}{w0 w:JE}{T:JC}{ops:Array Oper}{i sR sT sA sB sX sY:Nat}{v:JJ}{k:List Item}{cs:List Frame}{Post:(JB)->JF->JE->Prop}
end
theorem flat5:∀(L:List QC)(j o:Nat),o<5->(L.flatMap QC.cells)[j*5+o]?=L[j]?.bind λq=>q.cells[o]?
 |[],j,o,_=>by simp
 |q::L,0,o,h=>by
  have h5:q.cells.length=5:=rfl
  grind
 |q::L,j+1,o,h=>by
  have h5:q.cells.length=5:=rfl;rw[List.flatMap_cons,List.getElem?_append_right (by omega),h5,show(j+1)*5+o-5=j*5+o from by omega,flat5 L j o h];rfl
section
variable{E:JB}{w w':JE}{c:J7}{hs:Int->Int}{fs:List Jd}{m g j base:Nat}{T S:List TR}{ks:List Je}{L:List QC}{v:JJ}{p:Jki}
theorem O3.lenT(h:O3 c hs fs S)(hn:(T.map (·.k)).Nodup)(hT:∀k,tm T k=FP c Dc (sel hs m k fs)):T.length<=400:=by
 have h1:=aJ hn (U:=fs.map λf=>Jf m (BI f.k) 5) λx hx=>by
  obtain⟨t,ht,rfl⟩:=AZ.1 hx;obtain⟨_,f,hf,e⟩:=nZ hn hT ht
  grind
 simp only[FQ]at h1;have:=h.n;omega
end

def jD(w:JE)(g:Nat)(L:List QC):Prop:=∀j q,L[j]?=some q->(∀o u,o<5->q.cells[o]?=some u->w.cell? ⟨g,j*5+o,none⟩=some u)/\KZ 0 w q.kv q.rv q.hv q.lv q.g q.B
section
variable{E:JB}{w w':JE}{g m base:Nat}{T:List TR}{ks:List Je}{L:List QC}{v:JJ}
theorem J07s(ho:IG base w T m ks L)(hr:w.ownsRow base 38 5 v L.length (L.flatMap QC.cells))(h0:0<L.length):∃g cap,v=JM g L.length cap/\jD w g L:=by
 rcases hr.2 with⟨_,e⟩|⟨g,cap,cur,e,_,hg,BA,Nj,_,hx⟩
 .omega
 refine⟨g,cap,e,λj q hq=>⟨λo u Em hu=>?_,?_⟩⟩
 .have hj:j<L.length:=(List.getElem?_eq_some_iff.1 hq).1;refine(cell_of hg _).trans ?_;have h5:(List.take (L.length*5) cur.toList)[j*5+o]?=some u:=by grind[flat5]
  grind
 .have hj:j<ks.length:=by rw[<- ho.1];grind
  exact(ho.2 j _ q (DL hj) hq).2.2.2.mono (Nat.zero_le _)
theorem jD.ke(h:jD w g L)(hW:WR C0 (okP C0 S0) (idE E) w w)(hE:E g)(k:KE E w w'):jD w' g L:=λj q hq=>by
 obtain⟨h1,d⟩:=h j q hq;have hc:∀{i u},w.cell? ⟨g,i,none⟩=some u->w'.cell? ⟨g,i,none⟩=some u:=λhu=>k.cell hE hu;refine⟨λo u ho hu=>hc (h1 o u ho hu),?_⟩;have p0:=hW.Y4 hE (h1 0 _ (by omega) rfl);have p2:=hW.Y4 hE (h1 2 _ (by omega) rfl);have p3:=hW.Y4 hE (h1 3 _ (by omega) rfl);have p4:=hW.Y4 hE (h1 4 _ (by omega) rfl);obtain⟨dk,⟨g2,c2,e2,z2,r2⟩,⟨g3,c3,e3,z3,r3⟩,⟨g4,c4,e4,z4,r4⟩⟩:=d;rw[e2]at p2;rw[e3]at p3;rw[e4]at p4;refine⟨?_,⟨g2,c2,e2,z2,r2.keE k p2.MQ⟩,⟨g3,c3,e3,z3,r3.keE k p3.MQ⟩,⟨g4,c4,e4,z4,r4.keE k p4.MQ⟩⟩;rcases dk with dk|⟨g1,c1,e1,z1,r1⟩
 .exact .inl dk
 .rw[e1]at p0;exact .inr ⟨g1,c1,e1,z1,r1.keE k p0.MQ⟩
theorem jD.at(h:jD w g L)(hh:w'.heap=w.heap):jD w' g L:=λj q hq=>by
 obtain⟨h1,d⟩:=h j q hq;have hc:∀{a u},w.cell? a=some u->w'.cell? a=some u:=λh=>(Du (w:=w) (by rw[hh])).trans h;have hb:∀b:Nat,w'.heap[b]?=w.heap[b]?:=λb=>by rw[hh]
 obtain⟨dk,⟨g2,c2,e2,z2,r2⟩,⟨g3,c3,e3,z3,r3⟩,⟨g4,c4,e4,z4,r4⟩⟩:=d;refine⟨λo u ho hu=>hc (h1 o u ho hu),?_,⟨g2,c2,e2,z2,r2.kept (hb _)⟩,⟨g3,c3,e3,z3,r3.kept (hb _)⟩,⟨g4,c4,e4,z4,r4.kept (hb _)⟩⟩;rcases dk with dk|⟨g1,c1,e1,z1,r1⟩
 .exact .inl dk
 .exact .inr ⟨g1,c1,e1,z1,r1.kept (hb _)⟩
end
section
variable{w:JE}{ga gb m b1 b2:Nat}{w1 w2:JE}{T T':List TR}{ks mD:List Je}{L L':List QC}{c c':J7}
theorem qR(hn:(T.map (·.k)).Nodup)(KO:(T'.map (·.k)).Nodup)(ht:∀k,tm T k=tm T' k)(hk:keysOf (T.map TR.kv) ks)(D6:keysOf (T'.map TR.kv) mD)(ho:IG b1 w1 T m ks L)(Em:IG b2 w2 T' m mD L')(tok:∀t∈T,EM t.k/\Jl c t.B)(hc:CZ c) :
  L.length=L'.length/\(jD w ga L->jD w gb L'->∀j,j<L.length->∃q1 q2,Pair w ga gb j q1 q2):=by
 obtain rfl:=keysOf_eq hn KO ht hk D6;refine⟨ho.1.trans Em.1.symm,λh1 h2 j hj=>?_⟩;have hjk:j<ks.length:=by rw[<- ho.1];exact hj
 have hj':j<L'.length:=by rw[Em.1];exact hjk
 obtain⟨a1,a2,_,_⟩:=ho.2 j _ L[j] (DL hjk) (DL hj);obtain⟨a1',a2',_,_⟩:=Em.2 j _ L'[j] (DL hjk) (DL hj');obtain⟨c1,d1⟩:=h1 j L[j] (DL hj);obtain⟨c2,d2⟩:=h2 j L'[j] (DL hj');have eB:L[j].B=L'[j].B:=by
  grind
 obtain⟨t,T1,T2,hTe,DI,hB,_,_⟩:=Qk a2;have hok:=(tok t (by grind)).2;rw[hB]at hok;have XI:L[j].B.r.length<=64:=by
  have h1:=hc.b1;have h2:=hc.b2;rw[hok.r];have:c.bits=4\/c.bits=5\/c.bits=6:=by omega
  grind
 have Um:L[j].B.h.length<=9:=by rw[hok.h];have:=hc.nb;omega
 have jA:L[j].B.l.length<=8:=by have:=hok.lK;have:=hc.k2;omega
 have xK:L[j].g.length<=5:=by rw[a1];unfold MV;rw[FQ];refine BN (List.length_filter_le _ _) ?_;simp;omega
 exact⟨L[j],L'[j],by rw[a1,a1'],eB,c1,c2,d1,d2,by omega,by omega,by omega,by omega⟩
end
def kU:Code:=fC b14
def Hy:Array Oper:=opsOf (fC (sC b14))
def Hz:Array Oper:=opsOf (fC (sC (sC b14)))
theorem J0ea:b14=.seq kU (.seq (.region 1 Hy false) (.seq (.region 2 Hz false) lI)):=by kernel_rfl
theorem J0eb:f23.body=some b14:=by kernel_rfl
theorem J0ec:Ji C0 S0 23 kU=true:=by kernel_rfl
theorem J0ed:Ji C0 S0 23 lI=true:=by kernel_rfl
theorem J09z:GY C0 23:=⟨f23,by kernel_rfl,by kernel_rfl,by kernel_rfl⟩
theorem df14:S0.df.contains 23=false:=rfl
theorem J07t:C0.hl 23≠[]:=by show[1000]≠[];simp
theorem Jp4{i:Nat}(h:(C0.hl 23).contains i=true):i∈([]:List Nat)\/500<=i:=by
 have h':i∈[1000]:=Lj.1 h
 grind
theorem Jfj{i:Nat}(h:i<500):(C0.hl 23).contains i=false:=by
 cases e:(C0.hl 23).contains i with
 |false=>rfl
 |true=>
  rcases Jp4 e with h1|h1
  all_goals grind
section
variable{w:JE}{T:JC}{d:Deferred}{v0 v1 v2 v3:JJ}
theorem J094(Ag:T.size=59)(h0:T[0]?=some v0)(h1:T[1]?=some v1)(h2:T[2]?=some v2)(h3:T[3]?=some v3) :
  kU.wp prog (λe a w'=>e=.normal/\a.tmps.size=59/\a.tmps[0]?=some v0/\a.tmps[1]?=some v1/\a.tmps[2]?=some v2/\a.tmps[3]?=some v3/\w'.heap=w.heap) ⟨T,[d]⟩ w:=by
 obtain⟨f,rfl⟩:=J09y Ag;rw[J0f6]at *;have e0:f 0=_:=Aa h0;have e1:f 1=_:=Aa h1;have e2:f 2=_:=Aa h2;have e3:f 3=_:=Aa h3;rw[e0,e1,e2,e3];simp only[kU,b14,fC,f23,A8];go_wp2
end
section
variable{W E:JB}{w:JE}{x y m:Nat}{c c':J7}{seed nf J0f8 nf':Int}{h h':JJ}{vm src vm' src':Nat}{S S':List TR}{b₀:Frame}{a₀:Act}{ops:Array Oper}{i:Nat}{rest:List Nat}{kk:List Item}{cs:List Frame}{Post:(JB)->JF->JE->Prop}
theorem J07n{T0:JC}(hB:BOk C0 S0 W E w)(qx:NJ E w x c seed h nf vm src S)(qy:NJ E w y c' J0f8 h' nf' vm' src' S')(Ns:m<8)(hix:∀t∈S,HIn 400 t.B)(hSx:S.length<=400)(hTx:∀T:List TR,(T.map (·.k)).Nodup->Sum c (tm T) (Gg S m (λ_=>true))->(T.length:Int)<=1000)(hiy:∀t∈S',HIn 400 t.B)(hSy:S'.length<=400)(hTy:∀T:List TR,(T.map (·.k)).Nodup->Sum c' (tm T) (Gg S' m (λ_=>true))->(T.length:Int)<=1000)
  (wB:∀A B:List TR,(A.map (·.k)).Nodup->(B.map (·.k)).Nodup->Sum c (tm A) (Gg S m (λ_=>true))->Sum c' (tm B) (Gg S' m (λ_=>true))->∀k,tm A k=tm B k)
  (Ag:T0.size=59) (t0:T0[0]?=some (pt x)) (t1:T0[1]?=some (pt y)) (t2:T0[2]?=some (JK m)) (t3:T0[3]?=some (.slice none 0 0)) (Bf:TmR C0 S0 23 (idE E) T0 T0)
  (kn:∀W' E' w',(∀b,E b->E' b)->BOk C0 S0 W' E' w'->KE E w w'->Reach prog Post W' (G (b₀.at (a₀.put ((ops[i]?).bind (·.dst)) (.bool true)) (.inRegion ops rest::kk)) cs) w') :
  Reach prog Post W (G ((Go.Conc.base 23).at ⟨T0,[]⟩ [.code b14]) (b₀.at a₀ (.inRegion ops (i::rest)::kk)::cs)) w:=by
 rw[J0ea];refine Ql [] (λ_=>Jp4) J07t J0ec J09z df14 hB Bf (by omega) (Q:=λt w1=>t.size=59/\t[0]?=some (pt x)/\t[1]?=some (pt y)/\t[2]?=some (JK m)/\t[3]?=some (.slice none 0 0)/\w1.heap=w.heap) (λτ=>wp_mono (J094 (w:=w.tp τ 0) Ag t0 t1 t2 t3) λe a w1 ⟨q1,q2,q3,q4,q5,q6,q7⟩=>⟨q1,by omega,(λi hi=>by cases hi),q2,q3,q4,q5,q6,q7⟩) λE1 T1 wb1 w1 U0 CV AP Az ⟨z,z0,z1,z2,z3,zh⟩ _=>?_;have k1:KE E w w1:=(KE.of_eq λb _=>by rw[zh]).trans ((Jt rfl AP).mono U0);have qx1:=qx.ke k1 hB.hnd U0;have qy1:=qy.ke k1 hB.hnd U0;have H1:HS 23 W E1 w1 E1 T1 w1:=⟨CV,λ_ h=>h,.refl,λ_ _=>rfl,Az,rfl,Ad _⟩;clear zh;refine J7e (x:=x) (m:=m) (most:=1000) (M:=400) (S:=S) (l:=[(16,.tmp 0),(17,.tmp 2),(18,.tmp 3)]) (ags:=#[.tmp 16,.tmp 17,.tmp 18,.const (JK 1000)]) (d:=19) (sT:=15) (sA:=20) (sB:=21) (sX:=9) (sY:=10) H1 rfl (by kernel_rfl) (by kernel_rfl) (by kernel_rfl) (by kernel_rfl) (by kernel_rfl) ⟨Jfj (by omega),Jfj (by omega),Jfj (by omega)⟩ (by omega) (by omega) (by simp[mvT,Act.eval,Bq,Gj,z,(BJ.1 z0).2,(BJ.1 z2).2,(BJ.1 z3).2]) qx1 Ns (by omega) hix (by omega) (by omega) hTx λW2 E2 u0 u1 w2 v Ta ks L T2 ke0 qo H2 s s9 yY ss sh=>?_;replace s:T2.size=59:=s.trans z;replace ss:∀j,j∈([1,2,3]:List Nat)->T2[j]?=T1[j]?:=λj hj=>by simp only[AL,BU,or_false]at hj;exact ss j (by simp;omega) (by omega) (by omega) (by omega) (by omega) (by omega) (by omega)
 have k2:KE E1 w1 w2:=ke0.trans (qo.ke.trans (.of_eq λb _=>by rw[sh]));have qy2:=qy1.ke k2 CV.hnd qo.le;have s1:=(ss 1 (by simp)).trans z1;have s2:=(ss 2 (by simp)).trans z2;have s3:=(ss 3 (by simp)).trans z3;refine J7e (x:=y) (m:=m) (most:=1000) (M:=400) (S:=S') (l:=[(23,.tmp 1),(24,.tmp 2),(25,.tmp 3)]) (ags:=#[.tmp 23,.tmp 24,.tmp 25,.const (JK 1000)]) (d:=26) (sT:=22) (sA:=27) (sB:=28) (sX:=11) (sY:=12) (show HS 23 W2 E2 w2 E2 T2 w2 from H2.start) rfl (by kernel_rfl) (by kernel_rfl) (by kernel_rfl) (by kernel_rfl) (by kernel_rfl) ⟨Jfj (by omega),Jfj (by omega),Jfj (by omega)⟩ (by omega) (by omega) (by simp[mvT,Act.eval,Bq,Gj,s,(BJ.1 s1).2,(BJ.1 s2).2,(BJ.1 s3).2]) qy2 Ns (by omega) hiy (by omega) (by omega) hTy λW3 E3 v0 v1 w3 v' Tb mD L' T3 ke0' TD H3 r r11 r12 rr rh=>?_;replace r:T3.size=59:=r.trans s;have k3:KE E2 w2 w3:=ke0'.trans (TD.ke.trans (.of_eq λb _=>by rw[rh]));have r9:=(rr 9 (by simp) (by omega) (by omega) (by omega) (by omega) (by omega) (by omega)).trans s9;have r10:=(rr 10 (by simp) (by omega) (by omega) (by omega) (by omega) (by omega) (by omega)).trans yY;obtain⟨va,vc,hv⟩:=Jh7 qo.row;obtain⟨zC,zF,OV⟩:=Jh7 TD.row;have qP:∀τ,lI.wp prog (λe a w'=>e=.ret/\a.defers=[Jq]/\a.tmps.size=59/\a.tmps[8]?=some (.bool true)/\Tch (w3.tp τ 0).heap.size M0 (w3.tp τ 0) w') ⟨T3,[Jq]⟩ (w3.tp τ 0):=by
  intro τ;have Ac:=hTx _ qo.nd qo.sum;have jA:L.length=Ta.length:=by rw[qo.outs.1];have:=qo.keys.length;grind
  by_cases h0:L.length=0
  .obtain⟨pl,_⟩:=qR (w:=w3.tp τ 0) (ga:=0) (gb:=0) qo.nd TD.nd (wB _ _ qo.nd TD.nd qo.sum TD.sum) qo.keys TD.keys qo.outs TD.outs qo.tok qx.cfg;rw[hv,h0]at r9
   grind[J06y]
  .obtain⟨g1,c1,e1,R1⟩:=J07s qo.outs qo.row (by omega);obtain⟨pl,pp⟩:=qR (w:=w3.tp τ 0) (ga:=g1) (gb:=0) qo.nd TD.nd (wB _ _ qo.nd TD.nd qo.sum TD.sum) qo.keys TD.keys qo.outs TD.outs qo.tok qx.cfg;obtain⟨g2,c2,e2,R2⟩:=J07s TD.outs TD.row (by omega);obtain⟨_,pp⟩:=qR (w:=w3.tp τ 0) (ga:=g1) (gb:=g2) qo.nd TD.nd (wB _ _ qo.nd TD.nd qo.sum TD.sum) qo.keys TD.keys qo.outs TD.outs qo.tok qx.cfg;have eg:E2 g1:=by have:=qo.vE;rw[e1]at this;exact this.MQ
   have Ra:jD (w3.tp τ 0) g1 L:=((R1.at sh).ke H2.bok.wr eg k3).at rfl;have Rb:jD (w3.tp τ 0) g2 L':=R2.at rh;rw[e1]at r9;rw[e2,<- pl]at r11;exact J06y (ga:=g1) (gb:=g2) r r9 r10 r11 r12 (by omega) (λ_=>⟨rfl,rfl⟩) (pp Ra Rb)
 refine Reach.ret (b:=Go.Conc.base 23) (X0:=[.code lI]) (k:=[]) KY rfl (.cons (.code J0ed) .nil) J09z df14 J07t (by simp[Go.Conc.base]) H3.bok H3.tm (Q:=λt1 w1=>t1[8]?=some (.bool true)/\∀b,b<w3.heap.size->w1.heap[b]?=w3.heap[b]?) (λτ=>?_) λE4 T4 w4 wA todo le4 KH PS QY ⟨y1,y2⟩=>?_
 .refine LGo.wp (wp_mono (qP τ) λe b w' ⟨n1,n2,n3,n4,n5⟩=>?_);subst n1;refine Cont.ret ⟨λi hi Nq=>?_,n4,λb hb=>n5.heap b hb λx=>x⟩ n2;rcases Jp4 hi with h|h
  all_goals grind
 .refine Reach.leave1 (B:=Go.Conc.base 23) rfl rfl (fn:=f23) (by kernel_rfl) (x:=8) (by kernel_rfl) λd12=>?_;have k4:KE E3 w3 wA:=(KE.of_eq λb hb=>y2 b (H3.bok.lt hb)).trans ((Jt rfl PS).mono le4);rw[show(Act.mk T4 []).tmps.getD 8 JA=.bool true from by simp_all];exact kn W3 E4 (wA.at d12) (λb hb=>le4 b (TD.le b (qo.le b (U0 b hb)))) (KH.at d12) ((k1.trans ((k2.mono U0).trans ((k3.mono λb hb=>qo.le b (U0 b hb)).trans (k4.mono λb hb=>TD.le b (qo.le b (U0 b hb)))))).trans (.of_eq λ_ _=>rfl))
end
theorem J095:C0.hl 7≠[]:=by show[1,2,26,28,1000]≠[];simp
theorem jG{i:Nat}(h:i<500/\i≠1/\i≠2/\i≠26/\i≠28):(C0.hl 7).contains i=false:=by
 cases e:(C0.hl 7).contains i with
 |false=>rfl
 |true=>
  have h1:=hlW e
  grind
theorem J07u{d:Nat}(hd:10<=d/\d≠26/\d≠28){i:Nat}(h:i∈([1,2,26,28]:List Nat)):i∈kW d:=by
 refine Hq.2 ⟨?_,?_⟩
 all_goals grind
section
variable{W E:JB}{w:JE}{c rest:Code}{t:JC}{k:List Item}{cs:List Frame}{Post:(JB)->JF->JE->Prop}
theorem Xk(d:Nat)(hd:10<=d/\d≠26/\d≠28){Q:JC->JE->Prop}(hok:Ji C0 S0 7 c=true)(hB:BOk C0 S0 W E w)(ht:TmR C0 S0 7 (idE E) t t)(Ag:t.size=117)
  (K:∀τ (R:Exit->Act->JE->Prop),(∀T' w1,T'.size=117->(∀i∈kW d,T'[i]?=t[i]?)->Q T' w1->R .normal ⟨T',[Jq]⟩ w1)->c.wp prog R ⟨t,[Jq]⟩ (w.tp τ 0))
  (kn:∀E' t' w1 w',(∀b,E b->E' b)->BOk C0 S0 W E' w'->WR C0 (okP C0 S0) (idE E') w1 w'->TmR C0 S0 7 (idE E') t' t'->t'.size=117->(∀i∈kW d,t'[i]?=t[i]?)->Q t' w1->(∀b,W b->w'.heap[b]?=w.heap[b]?)->Reach prog Post W (G ((Go.Conc.base 7).at ⟨t',[]⟩ (.code rest::k)) cs) w') :
  Reach prog Post W (G ((Go.Conc.base 7).at ⟨t,[]⟩ (.code (.seq c rest)::k)) cs) w:=
 Ql [1,2,26,28] (λ_=>hlW) J095 hok hasW rfl hB ht (by omega) (Q:=λt' w1=>t'.size=117/\(∀i∈kW d,t'[i]?=t[i]?)/\Q t' w1)
  (λτ=>K τ _ λT' w1 h1 h2 h3=>⟨rfl,by grind,λi hi=>h2 i (J07u hd hi),h1,h2,h3⟩)
  λE' t' w1 w' le Gq hW' ht' ⟨q1,q2,q3⟩ kw=>kn E' t' w1 w' le Gq hW' ht' q1 q2 q3 kw
theorem iL(d:Nat)(hd:10<=d/\d≠26/\d≠28){Q:JC->Prop}(hok:Ji C0 S0 7 c=true)(hB:BOk C0 S0 W E w)(ht:TmR C0 S0 7 (idE E) t t)(Ag:t.size=117)
  (K:∀τ (R:Exit->Act->JE->Prop),(∀T' w1,T'.size=117->(∀i∈kW d,T'[i]?=t[i]?)->Q T'->(∀b,b<w.heap.size->w1.heap[b]?=w.heap[b]?)->R .normal ⟨T',[Jq]⟩ w1)->c.wp prog R ⟨t,[Jq]⟩ (w.tp τ 0))
  (kn:∀E' t' w',(∀b,E b->E' b)->BOk C0 S0 W E' w'->KE E w w'->TmR C0 S0 7 (idE E') t' t'->t'.size=117->(∀i∈kW d,t'[i]?=t[i]?)->Q t'->(∀b,W b->w'.heap[b]?=w.heap[b]?)->Reach prog Post W (G ((Go.Conc.base 7).at ⟨t',[]⟩ (.code rest::k)) cs) w') :
  Reach prog Post W (G ((Go.Conc.base 7).at ⟨t,[]⟩ (.code (.seq c rest)::k)) cs) w:=
 Xk d hd hok hB ht Ag (Q:=λt' w1=>Q t'/\∀b,b<w.heap.size->w1.heap[b]?=w.heap[b]?) (λτ R h=>K τ R λT' w1 h1 h2 h3 h4=>h T' w1 h1 h2 ⟨h3,h4⟩)
  λE' t' w1 w' le Gq hW' ht' q1 q2 ⟨q3,q4⟩ kw=>kn E' t' w' le Gq ((KE.of_eq λb hb=>q4 b (hB.lt hb)).trans ((Jt rfl hW').mono le)) ht' q1 q2 q3 kw
end
def Jkp(E:JB)(base:Nat)(w:JE)(bb kb:Nat)(b:Jd):Prop:=pW b/\E bb/\E kb/\base<=bb/\base<=kb/\∃kc,w.heap[bb]?=some (.cells #[JM kb b.k.length kc,JK b.it,JK b.v] 50)/\Row false w kb 3 .i64 b.k kc
theorem Jkp.ke{E E':JB}{base bb kb:Nat}{w w':JE}{b:Jd}(h:Jkp E base w bb kb b)(k:KE E w w')(le:∀b,E b->E' b):Jkp E' base w' bb kb b:=by obtain⟨h1,h2,h3,h4,h5,kc,h6,h7⟩:=h;exact⟨h1,le _ h2,le _ h3,h4,h5,kc,k _ _ h2 h6 trivial,h7.keE k h3⟩
theorem Rn.inE{E:JB}{base bb:Nat}{w w':JE}{b:Jd}(h:Rn base w bb b)(hW:WR C0 (okP C0 S0) (idE E) w w')(hb:E bb):∃kb,Jkp E base w' bb kb b:=by obtain⟨h1,h2,kb,kc,h3,h4,h5⟩:=h;have l:=Jt rfl hW;have hk:E kb:=(hW.Y4 hb ((cell_of h4 0).trans rfl)).MQ;exact⟨kb,h1,hb,hk,h2,h3,kc,l _ _ hb h4 trivial,h5.keE l hk⟩
structure S7(X0 X Ei:JB)(wi:JE)(hs:Int->Int)(gs:List Jd)(ga:JI)(c2:Nat)(c:Int)(x:Nat)(cx:J7)(hx:JJ)(nx:Int)(vx bx:Nat)(Sx:List TR)(y:Nat)(cy:J7)(hy:JJ)(ny:Int)(vy TG:Nat)(Sy:List TR)(E:JB)(w:JE):Prop where
 ke:KE Ei wi w
 le0:∀b,Ei b->X0 b
 le:∀b,X0 b->X b
 XE:∀b,X b->E b
 XH:X0 prog.globals.size
 qx:FK X0 X w x cx c hx hs nx vx bx Sx
 qy:FK X E w y cy c hy hs ny vy TG Sy
 fa:FsE X0 w ga gs c2
def YB(y:Nat)(cy:J7)(hy:JJ)(vy TG:Nat)(Sy:List TR)(b:Nat):Prop:=b=y\/b=TG\/b∈tpl Sy\/b=vy\/(∃a,cy.ba=some a/\b=a.block)\/Sv hy=some b
section
variable{X0 X Ei:JB}{wi:JE}{hs:Int->Int}{fs gs:List Jd}{ga:JI}{c2:Nat}{c:Int}{x:Nat}{cx:J7}{hx:JJ}{nx:Int}{vx bx:Nat}{Sx:List TR}{y:Nat}{cy:J7}{hy:JJ}{ny:Int}{vy TG:Nat}{Sy:List TR}{E E' W:JB}{w w' wb:JE}{τ:Nat->Question->Nat}
theorem YB.no(q:FK X E w y cy c hy hs ny vy TG Sy){b:Nat}(h:X b):¬YB y cy hy vy TG Sy b:=by
 rintro(e|e|e|e|⟨a,e,e'⟩|e)
 .exact(q.new b h).1 e
 .exact(q.new b h).2.1 e
 .exact(q.new b h).2.2 e
 .exact(q.far b h).1 e
 .exact(q.far b h).2.1 a e e'
 .exact(q.far b h).2.2 e
theorem YB.inE(q:FK X E w y cy c hy hs ny vy TG Sy){b:Nat}(h:YB y cy hy vy TG Sy b):E b:=by
 rcases h with rfl|rfl|e|rfl|⟨a,e,rfl⟩|e
 .exact q.q.xE.1
 .exact(q.q.tE _ (.inl rfl)).1
 .exact(q.q.tE _ (.inr e)).1
 .exact q.q.xE.2
 .exact(q.q.bE a e).1
 .exact(q.hb b e).1
variable(s:S7 X0 X Ei wi hs gs ga c2 c x cx hx nx vx bx Sx y cy hy ny vy TG Sy E w)
include s
theorem S7.H:E prog.globals.size:=s.XE _ (s.le _ s.XH)
theorem S7.to(k:KE E w w')(le:∀b,E b->E' b):S7 X0 X Ei wi hs gs ga c2 c x cx hx nx vx bx Sx y cy hy ny vy TG Sy E' w':=
 ⟨s.ke.trans (k.mono λb hb=>s.XE b (s.le b (s.le0 b hb))),s.le0,s.le,λb hb=>le b (s.XE b hb),s.XH,s.qx.ke (k.mono s.XE) (s.le _ s.XH) λ_ h=>h,s.qy.ke k s.H le,s.fa.ke (k.mono λb hb=>s.XE b (s.le b hb))⟩
theorem S7.qxE:FK X0 E w x cx c hx hs nx vx bx Sx:=s.qx.ke .refl (s.le _ s.XH) s.XE
theorem S7.inX(hB:BOk C0 S0 W E w)(hgo:∀f∈gs,RH f/\BI f.k∈U64)(xK:gs.length<=200)(h0:0<=nx/\nx<=2000)(tf:O3 cx hs fs Sx)(IQ:∀f∈fs,BI f.k∈U64):∃pl,∀τ,Jx1 (w.tp τ 0) x cx c hx nx vx bx Sx ga gs c2 pl hs Dc U64:=by obtain⟨pl,hp,fa⟩:=s.fa;exact⟨pl,λτ=>s.qxE.ing hB fa (λb hb=>s.qx.new b (hp b hb).1) hgo xK h0 (J09x tf IQ) τ⟩
theorem S7.inY(hB:BOk C0 S0 W E w)(hgo:∀f∈gs,RH f/\BI f.k∈U64)(xK:gs.length<=200)(h0:0<=ny/\ny<=2000)(tf:O3 cy hs fs Sy)(IQ:∀f∈fs,BI f.k∈U64):∃pl,∀τ,Jx1 (w.tp τ 0) y cy c hy ny vy TG Sy ga gs c2 pl hs Dc U64:=by obtain⟨pl,hp,fa⟩:=s.fa;exact⟨pl,λτ=>s.qy.ing hB fa (λb hb=>s.qy.new b (s.le b (hp b hb).1)) hgo xK h0 (J09x tf IQ) τ⟩
theorem S7.ingX(hB:BOk C0 S0 W E w)(le:∀b,E b->E' b)(hH:E' prog.globals.size)(hW:WR C0 (okP C0 S0) (idE E') wb w')(o:eF (w.tp τ 0) x cx c hx nx vx bx Sx hs Dc gs wb)(tf:O3 cx hs fs Sx)(hn:(fs++gs).length<=400)(h3:∀f∈gs,f.k.length=3) :
  ∃X' Sx',S7 X0 X' Ei wi hs gs ga c2 c x cx hx (nx+gs.length) vx bx Sx' y cy hy ny vy TG Sy E' w'/\O3 cx hs (fs++gs) Sx':=by
 obtain⟨Sx',q',tf',k,D8⟩:=s.qxE.J090 s.XH (λb hb=>s.XE b (s.le b hb)) hB le hH hW o tf hn h3;have kf:KE (λb=>E b/\¬(b=x\/b=bx\/b∈tpl Sx)) w w':=k.mono λb hb=>⟨hb.1,λh=>hb.2 (.inl h),λh=>hb.2 (.inr (.inl h)),λh=>hb.2 (.inr (.inr h))⟩;have no:∀b,X b->¬YB y cy hy vy TG Sy b:=λb hb=>YB.no s.qy hb;have qx:=s.qx.q;have qy':=s.qy.J0dy kf (λb hb=>⟨by
  rcases hb with rfl|rfl|hb
  .exact qx.xE.1
  .exact(qx.tE _ (.inl rfl)).1
  .exact(qx.tE _ (.inr hb)).1,λe=>by
  subst e;have:=s.qx.new _ s.XH
  grind⟩) s.H le
 refine⟨λb=>E' b/\¬YB y cy hy vy TG Sy b,Sx',⟨s.ke.trans (k.mono λb hb=>?_),s.le0,λb hb=>⟨le b (s.XE b (s.le b hb)),no b (s.le b hb)⟩,λb hb=>hb.1,s.XH,q'.narrow (Y:=λb=>¬YB y cy hy vy TG Sy b) ⟨no _ qx.xE.1,no _ qx.xE.2⟩ (λz hz=>?_) (λa ha=>no _ (qx.bE a ha).1) (λb hb=>no _ (s.qx.hb b hb).1),{ qy' with new:=λb hb=>?_,far:=λb hb=>?_ },s.fa.ke (k.mono λb hb=>?_)⟩,tf'⟩
 .have h0:=s.le0 b hb;exact⟨s.XE b (s.le b h0),s.qx.new b h0⟩
 .rcases hz with rfl|hz
  .exact no _ (qx.tE _ (.inl rfl)).1
  .rcases D8 z hz with(rfl|h)|h
   .exact no _ (qx.tE _ (.inl rfl)).1
   .exact no _ (qx.tE _ (.inr h)).1
   .exactλe=>by have:=hB.lt (YB.inE s.qy e);omega
 .exact⟨λe=>hb.2 (.inl e),λe=>hb.2 (.inr (.inl e)),λe=>hb.2 (.inr (.inr (.inl e)))⟩
 .exact⟨λe=>hb.2 (.inr (.inr (.inr (.inl e)))),λa ha e=>hb.2 (.inr (.inr (.inr (.inr (.inl ⟨a,ha,e⟩))))),λe=>hb.2 (.inr (.inr (.inr (.inr (.inr e)))))⟩
 .exact⟨s.XE b (s.le b hb),s.qx.new b hb⟩
theorem S7.ingY(hB:BOk C0 S0 W E w)(le:∀b,E b->E' b)(hH:E' prog.globals.size)(hW:WR C0 (okP C0 S0) (idE E') wb w')(o:eF (w.tp τ 0) y cy c hy ny vy TG Sy hs Dc gs wb)(tf:O3 cy hs fs Sy)(hn:(fs++gs).length<=400)(h3:∀f∈gs,f.k.length=3) :
  ∃Sy',S7 X0 X Ei wi hs gs ga c2 c x cx hx nx vx bx Sx y cy hy (ny+gs.length) vy TG Sy' E' w'/\O3 cy hs (fs++gs) Sy':=by
 obtain⟨Sy',q',tf',k,_⟩:=s.qy.J090 (s.le _ s.XH) s.XE hB le hH hW o tf hn h3;have kX:KE X w w':=k.mono λb hb=>⟨s.XE b hb,s.qy.new b hb⟩;exact⟨Sy',⟨s.ke.trans (kX.mono λb hb=>s.le b (s.le0 b hb)),s.le0,s.le,λb hb=>le b (s.XE b hb),s.XH,s.qx.ke kX (s.le _ s.XH) λ_ h=>h,q',s.fa.ke (kX.mono s.le)⟩,tf'⟩
end
end Go.Sim.Z
end
