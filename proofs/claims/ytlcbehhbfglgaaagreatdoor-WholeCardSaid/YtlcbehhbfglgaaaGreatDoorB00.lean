/- Proved: laws for the claim. No conditions. -/
import Derived.Shelf.SlSortCmp.NoneTotal
import Derived.Ground.SlsfProg
import Derived.Shelf.SlIterI.Collect
import Derived.Ground.GgzProg
import Derived.Shelf.Small.Bits
import Derived.Shelf.Small.Wraps
import Derived.Shelf.Strconv.Itoa0
import Derived.Ground.Names2Prog
import Derived.Shelf.Slices.Clone
import Derived.Shelf.Slices.SearchI
import Derived.Shelf.Slices.Empties
import Derived.Ground.SlgnProg
import Derived.Shelf.SlicesE.Clone
import Derived.Ground.SlgfProg
import Derived.Shelf.SlicesE.IndexFunc
import Derived.Shelf.SlicesE.DeleteFunc
import Derived.Test.YtlcbehhbfglgaaaGreatDoorProg
import Derived.WalkKit
import Derived.LoopTactic
import Derived.Below
import Derived.Sort.Grow
import Derived.Deep.Draws
import Derived.Maps.AppendAt
import Derived.OwnWalkIn
import Derived.Deep.RegionWith
import Derived.DeepKeys4
import Derived.Maps.OwnOps
import Derived.Maps.OwnIn
import Derived.RangeFuncSeq
import Derived.RangeFuncGives
import Derived.Sort.MapsRangeIn
import Derived.Sort.KeysCollected
import Derived.Shelf.AbstractIn
import Derived.TacticsInMore
import Derived.RegionIn
import Derived.LoopNIn
import Derived.LoopIn
import Derived.Shelf.SlIter.Collect
import Derived.Lib.SliceRun
import Derived.Test.YtlcbehhbfglgaaaGreatDoorBA
set_option linter.all false
set_option maxHeartbeats 2000000
set_option maxRecDepth 100000
namespace Go.Proofs
open Go.Shelf
def Tryz.lays134_ren:Go.Shelf.Ren:=⟨λ|134=>252|129=>183|n=>n,λ|53=>110|3=>3|4=>4|46=>196|5=>5|9=>9|n=>n,λ|n=>n⟩
def Tryz.lays134:Go.Proofs.Lays.n134 Tryz.prog Tryz.lays134_ren:={
 mixed:=by kernel_rfl
 f129:=Tryz.func183.trans (congrArg some (by kernel_rfl))
 f134:=Tryz.func252.trans (congrArg some (by kernel_rfl))
 t3:=Tryz.underlying3
 a3:=Tryz.isAgg3
 z3:=Tryz.sizeOf3
 v3:=Tryz.zeroValue3
 t4:=Tryz.underlying4
 a4:=Tryz.isAgg4
 z4:=Tryz.sizeOf4
 v4:=Tryz.zeroValue4
 t5:=Tryz.underlying5
 a5:=Tryz.isAgg5
 z5:=Tryz.sizeOf5
 v5:=Tryz.zeroValue5
 t9:=Tryz.underlying9
 a9:=Tryz.isAgg9
 z9:=Tryz.sizeOf9
 v9:=Tryz.zeroValue9
 t46:=Tryz.underlying196
 a46:=Tryz.isAgg196
 z46:=Tryz.sizeOf196
 v46:=Tryz.zeroValue196
 t53:=Tryz.underlying110
 a53:=Tryz.isAgg110
 z53:=Tryz.sizeOf110
 v53:=Tryz.zeroValue110 }
theorem Tryz.bits_LeadingZeros64(x:Int)(w:World)(h0:0<=x)(h1:x<=18446744073709551615) :
  Calls Tryz.prog 252 #[.int .u64 x] w λe w'=>e=.returned (JK (64-(Lib.bitLen x.toNat:Int)))/\w'=w:=Any.bits_LeadingZeros64 Tryz.lays134 x w h0 h1
def Tryz.lays122_ren:Go.Shelf.Ren:=⟨λ|122=>141|215=>173|n=>n,λ|3=>3|4=>4|n=>n,λ|n=>n⟩
def Tryz.lays122:Go.Proofs.Lays.n122 Tryz.prog Tryz.lays122_ren:={
 mixed:=by kernel_rfl
 f122:=Tryz.func141.trans (congrArg some (by kernel_rfl))
 f215:=Tryz.func173.trans (congrArg some (by kernel_rfl))
 t3:=Tryz.underlying3
 a3:=Tryz.isAgg3
 z3:=Tryz.sizeOf3
 v3:=Tryz.zeroValue3
 t4:=Tryz.underlying4
 a4:=Tryz.isAgg4
 z4:=Tryz.sizeOf4
 v4:=Tryz.zeroValue4 }
open Go.RowKit in
def Tryz.cmp_Compare_int(x y:Int)(w:World) :
  Calls Tryz.prog 141 #[JK x,JK y] w λe w'=>e=.returned (JK (Lib.compareInt x y))/\w'=w:=Any.cmp_Compare_int Tryz.lays122 x y w
def Tryz.laysNm225_ren:Go.Shelf.Ren:=⟨λ|25=>259|31=>190|32=>261|37=>173|n=>n,λ|22=>24|3=>3|4=>4|40=>196|0=>0|n=>n,λ|n=>n⟩
def Tryz.laysNm225:Go.Proofs.Lays2.n25 Tryz.prog Tryz.laysNm225_ren:={
 mixed:=by kernel_rfl
 f25:=Tryz.func259.trans (congrArg some (by kernel_rfl))
 f31:=Tryz.func190.trans (congrArg some (by kernel_rfl))
 f32:=Tryz.func261.trans (congrArg some (by kernel_rfl))
 f37:=Tryz.func173.trans (congrArg some (by kernel_rfl))
 t0:=Tryz.underlying0
 a0:=Tryz.isAgg0
 z0:=Tryz.sizeOf0
 v0:=Tryz.zeroValue0
 t3:=Tryz.underlying3
 a3:=Tryz.isAgg3
 z3:=Tryz.sizeOf3
 v3:=Tryz.zeroValue3
 t4:=Tryz.underlying4
 a4:=Tryz.isAgg4
 z4:=Tryz.sizeOf4
 v4:=Tryz.zeroValue4
 t22:=Tryz.underlying24
 a22:=Tryz.isAgg24
 z22:=Tryz.sizeOf24
 v22:=Tryz.zeroValue24
 t40:=Tryz.underlying196
 a40:=Tryz.isAgg196
 z40:=Tryz.sizeOf196
 v40:=Tryz.zeroValue196 }
open Go.RowKit Go.Lib in
def Tryz.slices_BinarySearch_int(b off n c:Nat)(zs:List Int)(x:Int)(w:World)(hz:n<=zs.length)(Xp:n<4611686018427387904)(hc:∀j,j<zs.length->w.cell? ⟨b,off+j,none⟩=some (JK (zs.getD j 0)))(hs:(zs.take n).Pairwise (·<=·)) :
  Calls Tryz.prog 259 #[.slice (some ⟨b,off,none⟩) n c,JK x] w λe w'=>e=.returned (.tuple #[JK ((zs.take n).countP (· < x):Nat),.bool ((zs.take n).contains x)])/\∃q,w'=w.drewN q:=Any.slices_BinarySearch_int Tryz.laysNm225 b off n c zs x w hz Xp hc hs
open Go.RowKit Go.Lib in
def Tryz.slices_BinarySearch_int_empty(a:Option Addr)(c:Nat)(x:Int)(w:World) :
  Calls Tryz.prog 259 #[.slice a 0 c,JK x] w λe w'=>e=.returned (.tuple #[JK 0,.bool false])/\w'=w:=Any.slices_BinarySearch_int_empty Tryz.laysNm225 a c x w
def Tryz.laysSlH8_f36_ren:Go.Shelf.Ren:=⟨λ|8=>36|6=>83|n=>n,λ|22=>24|23=>3|25=>107|4=>4|3=>3|0=>0|n=>n,λ|n=>n⟩
def Tryz.laysSlH8_f36:Go.Proofs.SlLaysH.n8 Tryz.prog Tryz.laysSlH8_f36_ren:={
 mixed:=by kernel_rfl
 f6:=⟨Tryz.f83.name,by decide,Tryz.func83.trans (congrArg some (by kernel_rfl))⟩
 f8:=⟨Tryz.f36.name,by decide,Tryz.func36.trans (congrArg some (by kernel_rfl))⟩
 t0:=Tryz.underlying0
 a0:=Tryz.isAgg0
 z0:=Tryz.sizeOf0
 v0:=Tryz.zeroValue0
 t3:=Tryz.underlying3
 a3:=Tryz.isAgg3
 z3:=Tryz.sizeOf3
 v3:=Tryz.zeroValue3
 t4:=Tryz.underlying4
 a4:=Tryz.isAgg4
 z4:=Tryz.sizeOf4
 v4:=Tryz.zeroValue4
 t22:=Tryz.underlying24
 a22:=Tryz.isAgg24
 z22:=Tryz.sizeOf24
 v22:=Tryz.zeroValue24
 a23:=Tryz.isAgg3
 z23:=Tryz.sizeOf3
 t25:=Tryz.underlying107
 a25:=Tryz.isAgg107
 z25:=Tryz.sizeOf107
 v25:=Tryz.zeroValue107 }
open Go.RowKit Go.Lib in
def Tryz.slices_ContainsFunc{α:Type}[Inhabited α](enc:α->Value)(p:α->Bool)(g:Nat)(lb:Array Value)(eg:∀args w,(callFunc g args).run Tryz.prog w=.ok (.enter g args) w)(b off n c:Nat)(zs:List α)(w:World)(hp:PredAt Tryz.prog g lb enc p w)(hz:n<=zs.length)(Xp:n<=9223372036854775807)(hc:∀j,j<zs.length->w.cell? ⟨b,off+j,none⟩=some (enc zs[j]!)) :
  Calls Tryz.prog 36 #[.slice (some ⟨b,off,none⟩) n c,.func (.func g) #[] lb] w λe w'=>e=.returned (.bool ((zs.take n).any p))/\∃q,w'=w.drewN q:=AnyE.slices_ContainsFunc Tryz.laysSlH8_f36 enc p g lb eg b off n c zs w hp hz Xp hc
def Tryz.laysSlH10_f78_ren:Go.Shelf.Ren:=⟨λ|10=>78|6=>83|n=>n,λ|22=>24|23=>3|25=>107|3=>3|4=>4|0=>0|n=>n,λ|n=>n⟩
def Tryz.laysSlH10_f78:Go.Proofs.SlLaysH.n10 Tryz.prog Tryz.laysSlH10_f78_ren:={
 mixed:=by kernel_rfl
 f6:=⟨Tryz.f83.name,by decide,Tryz.func83.trans (congrArg some (by kernel_rfl))⟩
 f10:=⟨Tryz.f78.name,by decide,Tryz.func78.trans (congrArg some (by kernel_rfl))⟩
 t0:=Tryz.underlying0
 a0:=Tryz.isAgg0
 z0:=Tryz.sizeOf0
 v0:=Tryz.zeroValue0
 t3:=Tryz.underlying3
 a3:=Tryz.isAgg3
 z3:=Tryz.sizeOf3
 v3:=Tryz.zeroValue3
 t4:=Tryz.underlying4
 a4:=Tryz.isAgg4
 z4:=Tryz.sizeOf4
 v4:=Tryz.zeroValue4
 t22:=Tryz.underlying24
 a22:=Tryz.isAgg24
 z22:=Tryz.sizeOf24
 v22:=Tryz.zeroValue24
 a23:=Tryz.isAgg3
 z23:=Tryz.sizeOf3
 t25:=Tryz.underlying107
 a25:=Tryz.isAgg107
 z25:=Tryz.sizeOf107
 v25:=Tryz.zeroValue107 }
open Go.RowKit Go.Lib Go.Sort in
def Tryz.slices_DeleteFunc{α:Type}[Inhabited α](enc:α->Value)(hO:OneCell enc)(p:α->Bool)(g:Nat)(lb:Array Value)(eg:∀args w,(callFunc g args).run Tryz.prog w=.ok (.enter g args) w)(zr:α)(v23:∀w,(zeroValue 3).run Tryz.prog w=.ok (enc zr) w)(blk off cap:Nat)(d:Array α)(w:World)(hp:PredAt Tryz.prog g lb enc p w)(hpo:PredOver Tryz.prog g lb enc p blk off d.size w)(hH:Holds enc w blk off d)(Ag:d.size<=9223372036854775807)(Nj:d.size<=cap) :
  Calls Tryz.prog 78 #[.slice (some ⟨blk,off,none⟩) d.size cap,.func (.func g) #[] lb] w λe w'=>e=.returned (.slice (some ⟨blk,off,none⟩) (d.toList.filter λx=>!p x).length cap)/\∃q,w'=putRow enc (Sort.ahead w q) blk off ((d.toList.filter λx=>!p x)++List.replicate (d.size-(d.toList.filter λx=>!p x).length) zr).toArray:=AnyE.slices_DeleteFunc Tryz.laysSlH10_f78 enc hO p g lb eg zr v23 blk off cap d w hp hpo hH Ag Nj
def Tryz.sortK_ren:Go.Shelf.Ren:=⟨λ|6=>88|15=>145|14=>144|28=>182|29=>183|20=>174|21=>175|22=>176|23=>177|24=>178|25=>179|26=>180|27=>181|46=>204|47=>205|48=>206|49=>207|50=>208|57=>221|n=>n,λ|22=>124|24=>104|25=>202|3=>3|39=>196|0=>0|53=>137|55=>110|4=>4|46=>295|45=>294|50=>299|5=>5|9=>9|66=>319|70=>322|76=>332|77=>215|n=>n,λ|n=>n⟩
def Tryz.sortK:Go.Proofs.SlLaysF0.n6 Tryz.prog Tryz.sortK_ren:={
 mixed:=by kernel_rfl
 f6:=⟨Tryz.f88.name,by decide,Tryz.func88.trans (congrArg some (by kernel_rfl))⟩
 f14:=⟨Tryz.f144.name,by decide,Tryz.func144.trans (congrArg some (by kernel_rfl))⟩
 f15:=Tryz.func145.trans (congrArg some (by kernel_rfl))
 f20:=⟨Tryz.f174.name,by decide,Tryz.func174.trans (congrArg some (by kernel_rfl))⟩
 f21:=⟨Tryz.f175.name,by decide,Tryz.func175.trans (congrArg some (by kernel_rfl))⟩
 f22:=⟨Tryz.f176.name,by decide,Tryz.func176.trans (congrArg some (by kernel_rfl))⟩
 f23:=⟨Tryz.f177.name,by decide,Tryz.func177.trans (congrArg some (by kernel_rfl))⟩
 f24:=⟨Tryz.f178.name,by decide,Tryz.func178.trans (congrArg some (by kernel_rfl))⟩
 f25:=⟨Tryz.f179.name,by decide,Tryz.func179.trans (congrArg some (by kernel_rfl))⟩
 f26:=⟨Tryz.f180.name,by decide,Tryz.func180.trans (congrArg some (by kernel_rfl))⟩
 f27:=⟨Tryz.f181.name,by decide,Tryz.func181.trans (congrArg some (by kernel_rfl))⟩
 f28:=Tryz.func182.trans (congrArg some (by kernel_rfl))
 f29:=Tryz.func183.trans (congrArg some (by kernel_rfl))
 f46:=⟨Tryz.f204.name,by decide,Tryz.func204.trans (congrArg some (by kernel_rfl))⟩
 f47:=Tryz.func205.trans (congrArg some (by kernel_rfl))
 f48:=Tryz.func206.trans (congrArg some (by kernel_rfl))
 f49:=⟨Tryz.f207.name,by decide,Tryz.func207.trans (congrArg some (by kernel_rfl))⟩
 f50:=⟨Tryz.f208.name,by decide,Tryz.func208.trans (congrArg some (by kernel_rfl))⟩
 f57:=⟨Tryz.f221.name,by decide,Tryz.func221.trans (congrArg some (by kernel_rfl))⟩
 t0:=Tryz.underlying0
 a0:=Tryz.isAgg0
 z0:=Tryz.sizeOf0
 v0:=Tryz.zeroValue0
 t3:=Tryz.underlying3
 a3:=Tryz.isAgg3
 z3:=Tryz.sizeOf3
 v3:=Tryz.zeroValue3
 t4:=Tryz.underlying4
 a4:=Tryz.isAgg4
 z4:=Tryz.sizeOf4
 v4:=Tryz.zeroValue4
 t5:=Tryz.underlying5
 a5:=Tryz.isAgg5
 z5:=Tryz.sizeOf5
 v5:=Tryz.zeroValue5
 t9:=Tryz.underlying9
 a9:=Tryz.isAgg9
 z9:=Tryz.sizeOf9
 v9:=Tryz.zeroValue9
 t22:=Tryz.underlying124
 a22:=Tryz.isAgg124
 z22:=Tryz.sizeOf124
 v22:=Tryz.zeroValue124
 t25:=Tryz.underlying202
 a25:=Tryz.isAgg202
 z25:=Tryz.sizeOf202
 v25:=Tryz.zeroValue202
 t39:=Tryz.underlying196
 a39:=Tryz.isAgg196
 z39:=Tryz.sizeOf196
 v39:=Tryz.zeroValue196
 t45:=Tryz.underlying294
 a45:=Tryz.isAgg294
 z45:=Tryz.sizeOf294
 v45:=Tryz.zeroValue294
 t46:=Tryz.underlying295
 a46:=Tryz.isAgg295
 z46:=Tryz.sizeOf295
 v46:=Tryz.zeroValue295
 t50:=Tryz.underlying299
 a50:=Tryz.isAgg299
 z50:=Tryz.sizeOf299
 v50:=Tryz.zeroValue299
 t53:=Tryz.underlying137
 a53:=Tryz.isAgg137
 z53:=Tryz.sizeOf137
 v53:=Tryz.zeroValue137
 t55:=Tryz.underlying110
 a55:=Tryz.isAgg110
 z55:=Tryz.sizeOf110
 v55:=Tryz.zeroValue110
 t66:=Tryz.underlying319
 a66:=Tryz.isAgg319
 z66:=Tryz.sizeOf319
 v66:=Tryz.zeroValue319
 t70:=Tryz.underlying322
 a70:=Tryz.isAgg322
 z70:=Tryz.sizeOf322
 v70:=Tryz.zeroValue322
 t76:=Tryz.underlying332
 a76:=Tryz.isAgg332
 z76:=Tryz.sizeOf332
 v76:=Tryz.zeroValue332
 t77:=Tryz.underlying215
 a77:=Tryz.isAgg215
 z77:=Tryz.sizeOf215
 v77:=Tryz.zeroValue215 }
def Tryz.collectI_ren:Go.Shelf.Ren:=⟨λ|8=>79|11=>137|n=>n,λ|26=>3|28=>135|24=>24|0=>0|33=>107|4=>4|n=>n,λ|n=>n⟩
def Tryz.collectI:Go.Proofs.SlLaysZI.n8 Tryz.prog Tryz.collectI_ren:={
 mixed:=by kernel_rfl
 f8:=⟨Tryz.f79.name,by decide,Tryz.func79.trans (congrArg some (by kernel_rfl))⟩
 f11:=⟨Tryz.f137.name,by decide,Tryz.func137.trans (congrArg some (by kernel_rfl))⟩
 t0:=Tryz.underlying0
 a0:=Tryz.isAgg0
 z0:=Tryz.sizeOf0
 v0:=Tryz.zeroValue0
 t24:=Tryz.underlying24
 a24:=Tryz.isAgg24
 z24:=Tryz.sizeOf24
 v24:=Tryz.zeroValue24
 t26:=Tryz.underlying3
 a26:=Tryz.isAgg3
 z26:=Tryz.sizeOf3
 v26:=Tryz.zeroValue3
 t28:=Tryz.underlying135
 a28:=Tryz.isAgg135
 z28:=Tryz.sizeOf135
 v28:=Tryz.zeroValue135
 i26:=by kernel_rfl }
def Tryz.keysI_ren:Go.Shelf.Ren:=⟨λ|10=>91|n=>n,λ|33=>107|23=>99|0=>0|4=>4|26=>3|3=>95|n=>n,λ|n=>n⟩
def Tryz.keysI:Go.Proofs.SlLaysZI.n10 Tryz.prog Tryz.keysI_ren:={
 mixed:=by kernel_rfl
 f10:=⟨Tryz.f91.name,by decide,Tryz.func91.trans (congrArg some (by kernel_rfl))⟩
 t0:=Tryz.underlying0
 a0:=Tryz.isAgg0
 z0:=Tryz.sizeOf0
 v0:=Tryz.zeroValue0
 t4:=Tryz.underlying4
 a4:=Tryz.isAgg4
 z4:=Tryz.sizeOf4
 v4:=Tryz.zeroValue4
 t23:=Tryz.underlying99
 a23:=Tryz.isAgg99
 z23:=Tryz.sizeOf99
 v23:=Tryz.zeroValue99
 t26:=Tryz.underlying3
 a26:=Tryz.isAgg3
 z26:=Tryz.sizeOf3
 v26:=Tryz.zeroValue3
 t33:=Tryz.underlying107
 a33:=Tryz.isAgg107
 z33:=Tryz.sizeOf107
 v33:=Tryz.zeroValue107 }
end Go.Proofs
namespace Go.Sim.Z
open Go Go.Proofs Go.RowKit
structure Tch(N:Nat)(M:Nat->Prop)(w w':World):Prop where
 size:w.heap.size<=w'.heap.size
 heap:∀b,b<N->¬M b->w'.heap[b]?=w.heap[b]?
 tape:w'.tape=w.tape
 os:w'.os=w.os
 output:w'.output=w.output
def M0:Nat->Prop:=λ_=>False
section
variable{N N':Nat}{M M':Nat->Prop}{w w1 w2:World}{b:Nat}
def Tch.refl:Tch N M w w:=⟨Ad _,λ_ _ _=>rfl,rfl,rfl,rfl⟩
def Tch.trans(h:Tch N M w w1)(k:Tch N M w1 w2):Tch N M w w2:=⟨BN h.size k.size,λb hb hm=>(k.heap b hb hm).trans (h.heap b hb hm),k.tape.trans h.tape,k.os.trans h.os,k.output.trans h.output⟩
def Tch.mono(h:Tch N M w w1)(hN:N'<=N)(hM:∀b,b<N'->M b->M' b):Tch N' M' w w1:=⟨h.size,λb hb hm=>h.heap b (by omega) λhx=>hm (hM b hb hx),h.tape,h.os,h.output⟩
def Tch.drew(h:Tch N M w w1):Tch N M w w1.drew:=⟨h.size,h.heap,h.tape,h.os,h.output⟩
theorem Tch.alloc(h:Tch N M w w1)(hN:N<=w1.heap.size)(o:Obj):Tch N M w (w1.alloc o):=
 ⟨BN h.size (by simp),λb hb hm=>(Below.heap_alloc _ _ _ (by omega)).trans (h.heap b hb hm),h.tape,h.os,h.output⟩
def Tch.set(h:Tch N M w w1){a:Addr}(ha:N<=a.block\/M a.block)(v:Value):Tch N M w (w1.setCell a v):=
 ⟨BN h.size (by simp_all),λb hb hm=>(Below.heap_setCell _ _ _ _ (by grind)).trans (h.heap b hb hm),h.tape,h.os,h.output⟩
def Tch.cell(h:Tch N M w w1){a:Addr}(ha:a.block<N)(hm:¬M a.block):w1.cell? a=w.cell? a:=Du (w:=w) (h.heap _ ha hm)
def Tch.of_below(h:Below N w w1):Tch N M w w1:=⟨h.size,λb hb _=>h.block b hb,h.tape,h.os,h.output⟩
def Tch.then(h:Tch N M w w1)(k:Tch w1.heap.size M' w1 w2)(hN:N<=w1.heap.size)(hM:∀b,b<N->M' b->M b):Tch N M w w2:=
 h.trans (k.mono hN hM)
def Tch.grown(h:Tch w.heap.size M0 w w1)(h6:w.drawn<=w1.drawn):∃q os,w1=Sort.grow (w.drewN q) os:=by
 refine⟨w1.drawn-w.drawn,w1.heap.extract w.heap.size w1.heap.size,?_⟩;obtain⟨h1,h2,h3,h4,h5⟩:=h;have e:w1.heap=w.heap++w1.heap.extract w.heap.size w1.heap.size:=by
  apply Ll;intro i;rw[Array.getElem?_append];split
  .rename_i hi;exact h2 i hi (λh=>h)
  grind
 have ed:w.drawn+(w1.drawn-w.drawn)=w1.drawn:=by omega
 obtain⟨a1,a2,a3,a4,a5⟩:=w1;simp only at h3 h4 h5 ed e;subst h3 h4 h5;simp only[Sort.grow,World.drewN,ed];congr 1
theorem cell_of{arr:Array Value}{t:TypeId}{z:Nat × Nat}(h:w.heap[b]?=some (.cells arr t z))(i:Nat):w.cell? ⟨b,i,none⟩=arr[i]?:=by simp[World.cell?,h]
def FZ{arr:Array Value}{t:TypeId}(h:w.heap[b]?=some (.cells arr t))(i:Nat):w.frozen? ⟨b,i,none⟩=false:=by simp[World.frozen?,h]
def heap_set{arr:Array Value}{t:TypeId}(h:w.heap[b]?=some (.cells arr t))(i:Nat)(v:Value):(w.setCell ⟨b,i,none⟩ v).heap[b]?=some (.cells (arr.setIfInBounds i v) t):=by simp only[World.setCell,Array.getElem?_modify,if_true,h,Option.map_some];simp
theorem Jm(a:Addr)(v:Value)(h:b≠a.block):(w.setCell a v).heap[b]?=w.heap[b]?:=Below.heap_setCell _ _ _ _ h
theorem Ja(o:Obj):(w.alloc o).heap[w.heap.size]?=some o:=by show(w.heap.push o)[w.heap.size]?=_;simp
theorem J8(o:Obj){b:Nat}(h:b<w.heap.size):(w.alloc o).heap[b]?=w.heap[b]?:=Below.heap_alloc _ _ _ h
theorem size_alloc(o:Obj):(w.alloc o).heap.size=w.heap.size+1:=by simp_all
theorem size_set(a:Addr)(v:Value):(w.setCell a v).heap.size=w.heap.size:=by simp_all
theorem Jj{o:Obj}(h:w.heap[b]?=some o):b<w.heap.size:=(BJ.1 h).1
end
def ai(k:IntKind)(xs:List Int):Array Value:=(xs.map (Value.int k)).toArray
section
variable{k:IntKind}{xs:List Int}
@[simp] theorem Jxj:(ai k xs).size=xs.length:=by simp[ai]
theorem Jib(i:Nat):(ai k xs)[i]?=(xs[i]?).map (Value.int k):=by simp[ai]
def nO{i:Nat}(h:i<xs.length):(ai k xs)[i]?=some (.int k (xs.getD i 0)):=by
 grind[Jib,List.getElem?_eq_getElem]
def Jzt{i:Nat}(v:Int):(ai k xs).setIfInBounds i (.int k v)=ai k (xs.set i v):=by
 apply Ll;intro j;rw[Gj,Jib,Jib,List.getElem?_set];by_cases h:i=j
 all_goals simp_all
end
def IsInt(v:Value):Prop:=∃k n,v=.int k n
def Plain(cur:Array Value):Prop:=∀v∈cur.toList,IsInt v
theorem Plain.at{cur:Array Value}(h:Plain cur){i:Nat}{v:Value}(hv:cur[i]?=some v):IsInt v:=h v (Array.mem_toList_iff.2 (Ho hv))
def Plain.TA{cur:Array Value}(h:∀(i:Nat) v,cur[i]?=some v->IsInt v):Plain cur:=λv hv=>by obtain⟨i,hi,rfl⟩:=List.getElem_of_mem hv;exact h i _ (by grind)
def Plain.set{cur:Array Value}(h:Plain cur)(i:Nat){v:Value}(hv:IsInt v):Plain (cur.setIfInBounds i v):=.TA λj u hu=>by
 rw[Gj]at hu;split at hu
 .grind
 .exact h.at hu
def Plain.append{a b:Array Value}(h:Plain a)(k:Plain b):Plain (a++b):=λv hv=>by rw[Array.toList_append,Gn]at hv;exact hv.elim (h v) (k v)
def Plain.replicate{n:Nat}{v:Value}(h:IsInt v):Plain (Array.replicate n v):=λu hu=>by
 grind
def Plain.list{l:List Value}(h:∀v∈l,IsInt v):Plain l.toArray:=λv hv=>h v (by grind)
def Plain.ai{k:IntKind}{xs:List Int}:Plain (ai k xs):=.list λv hv=>by obtain⟨x,_,rfl⟩:=AZ.1 hv;exact⟨_,_,rfl⟩
def Plain.madeCells{zs:Array Value}(h:Plain zs)(n:Nat):Plain (Builtin.zeroCells zs n):=λv hv=>by
 unfold Builtin.zeroCells at hv;rw[Array.toList_map]at hv;obtain⟨i,hi,rfl⟩:=AZ.1 hv;have Ac:i<n*zs.size:=by grind
 have BZ:0<zs.size:=by
  grind
 have hm:i % zs.size<zs.size:=Nat.mod_lt _ BZ;rw[getElem!_pos zs (i % zs.size) hm];exact h _ (by simp)
def Ko(w:World)(v:Value):Prop:=∀g n cap,v=JM g n cap->∀arr e z,w.heap[g]?=some (.cells arr e z)->Plain arr
theorem Ko.nil(w:World)(l c:Nat):Ko w (.slice none l c):=λ_ _ _ h=>by cases h
def Ko.kept{w w':World}{v:Value}(h:Ko w v)(hh:∀g n cap,v=JM g n cap->w'.heap[g]?=w.heap[g]?):Ko w' v:=λg n cap e arr t z ha=>h g n cap e arr t z ((hh g n cap e)▸ha)
def J9b{P:Program}(w:World)(base:Nat)(t ty e:TypeId)(i:TypeInfo)(z:Value)(size bytes:Nat)(ht:P.underlying t=some (.slice e))(hi:P.info? e=some i)(hz:i.zero=some z)
  (Ir:i.size=size) (xG:i.bytes=bytes) (XU:z.cells.size=size) (Ag:0<size)
  (v:Value) (n:Nat) (xs:List Value) (Aw:w.ownsRow base e size v n xs)
  (a:Addr) (m c:Nat) (news:List Value) (hl:news.length=m*size) (Ik:∀j u,news[j]?=some u->w.cell? (a.add j)=some u) (h1:∀u∈news,u.oneCell'=true)
  (vW:n+m<=maxLen) (GI:(n+m)*bytes<=140737488355328) (hp:Ko w v) (XB:∀u∈news,IsInt u) (Zn:Plain z.cells) {v':Value} {w':World}
  (ET:(Builtin.append_ #[t,t] ty #[v,.slice (some a) m c]).run P w=.ok v' w'):Ko w' v':=by
 subst Ir;subst xG;have hsmall:n+m<=9223372036854775807:=by simp only[maxLen]at vW;omega
 rcases Aw.2 with⟨rfl,rfl⟩|⟨g,cap,cur,rfl,xC,hg,hnc,hcm,FH,QZ⟩
 .have hx:xs=[]:=List.eq_nil_of_length_eq_zero (by simpa using Aw.1);subst hx;by_cases hm:m=0
  .subst hm;have hn:news=[]:=List.eq_nil_of_length_eq_zero (by grind);subst hn;have hr:(Builtin.append_ #[t,t] ty #[.slice none 0 0,.slice (some a) 0 c]).run P w=.ok (.slice none 0 0) w:=by simp[Builtin.append_,run_underlying ht,sizeOf,typeInfo,hi,Builtin.lenOf,Builtin.firstCells,loadCells,loadCellsFrom]
   grind
  .have hr:=run_append_nil (P:=P) w t ty e i z ht hi hz a m c news hl Ik (by omega) (by omega) (by grind);rw[hr]at ET;cases ET;intro g n cap e1 arr t z ha;cases e1;have hq:=ha.symm.trans (heap_alloc_new w.drew _);cases hq;exact(Plain.list XB).append (Zn.madeCells _)
 .have Uu:Plain cur:=hp g n cap rfl cur e _ hg;have hxi:∀u∈xs,IsInt u:=λu hu=>Uu u (List.mem_of_mem_take (QZ▸hu));by_cases Ip:n+m<=cap
  .have hfit:n*i.size+news.length<=cur.size:=by rw[hl,FH,<- Nat.add_mul];exact Nat.mul_le_mul_right _ Ip
   have hr:=run_append_room (P:=P) w t ty e i ht hi g n cap cur hg a m c news hl Ik h1 Ip hfit;rw[hr]at ET;cases ET;intro g' n' Ee e1 arr t z ha;cases e1;rw[setRow_heap w g cur _ e _ hg]at ha;cases ha;refine Plain.list λu hu=>?_;rcases Gn.1 hu with hu|hu
   .grind
   .exact Uu u (List.mem_of_mem_drop hu)
  .have holds:∀j u,xs[j]?=some u->w.cell? ((⟨g,0,none⟩:Addr).add j)=some u:=Aw.cells (g:=g) rfl;have hr:=run_append_grow (P:=P) w t ty e i z ht hi hz ⟨g,0,none⟩ n cap xs Aw.1 holds a m c news hl Ik (by omega) (by omega) (growslice_fits (by omega) GI);rw[hr]at ET;cases ET;intro g' n' Ee e1 arr t z ha;cases e1;have hq:=ha.symm.trans (heap_alloc_new w.drew _);cases hq;exact((Plain.list hxi).append (Plain.list XB)).append (Zn.madeCells _)
def J7q{F:Fence}{n:Nat}{P:Program}(w:World){ops:Array Oper}{rest:List Oper}{o:Oper}{a:Act}{Q:Exit->Act->World->Prop}
  (hg:o.guard=none) (s x:Operand) (t:TypeId) (Ar:o.op=Op.call { callee:=Callee.builtin Builtin.append,args:=#[s,x],argTypes:=#[t,t] })
  (base:Nat) (e:TypeId) (i:TypeInfo) (z:Value) (size bytes:Nat) (h1:P.underlying t=some (.slice e)) (h2:P.info? e=some i) (h3:i.zero=some z) (h4:i.size=size) (h5:i.bytes=bytes) (h6:z.cells.size=size) (h7:0<size)
  (v:Value) (k:Nat) (xs:List Value) (hs:a.eval s=v) (Aw:w.ownsRow base e size v k xs) (ad:Addr) (m c:Nat) (news:List Value) (hx:a.eval x=.slice (some ad) m c) (hn:news.length=m*size)
  (hc:∀j u,news[j]?=some u->w.cell? (ad.add j)=some u) (vU:∀u∈news,u.oneCell'=true) (b1:k+m<=maxLen) (b2:(k+m)*bytes<=140737488355328) (b3:base<=w.heap.size) (hp:Ko w v) (XB:∀u∈news,IsInt u) (Zn:Plain z.cells)
  (hK:∀v' w',w'.ownsRow base e size v' (k+m) (xs++news)->w.grownBy w' v.ownBlock->(v'=.slice none 0 0↔v=.slice none 0 0/\m=0)->Ko w' v'->wpListIn F n P ops Q rest (a.put o.dst v') w') :
  wpListIn F n P ops Q (o::rest) a w:=by
 refine wpListIn_plain hg λK hK'=>?_;obtain⟨v',w',AB,r1,r2,r3⟩:=run_append_own (P:=P) w base t o.type e i z size bytes h1 h2 h3 h4 h5 h6 h7 v k xs Aw ad m c news hn hc vU b1 b2 b3;unfold Oper.wpIn;refine⟨?_,?_⟩
 .simp[Oper.about,Ar,resolve,Target.leads,Sem.run_pure]
 .rw[Oper.semAt_plain F _ _ (by grind)];simp[execOp,Ar,resolve,invoke,builtin,hs,hx,AB,Result.andThen];exact hK' _ _ (hK v' w' r1 r2 r3 (J9b w base t o.type e i z size bytes h1 h2 h3 h4 h5 h6 h7 v k xs Aw ad m c news hn hc vU b1 b2 hp XB Zn AB))
def mO{P:Program}(w:World){ops:Array Oper}{rest:List Oper}{o:Oper}{a:Act}{Q:Exit->Act->World->Prop}(hgd:o.guard=none)(s x:Operand)(t:TypeId)
  (ho:o.op=.call { callee:=.builtin .append,args:=#[s,x],argTypes:=#[t,t] })
  (base:Nat) (e:TypeId) (i:TypeInfo) (z:Value) (size bytes:Nat) (ht:P.underlying t=some (.slice e)) (hi:P.info? e=some i) (hz:i.zero=some z)
  (Ir:i.size=size) (xG:i.bytes=bytes) (XU:z.cells.size=size) (Ag:0<size)
  (v:Value) (n:Nat) (xs:List Value) (hs:a.eval s=v) (Aw:w.ownsRow base e size v n xs)
  (ad:Addr) (m c:Nat) (news:List Value) (hx:a.eval x=.slice (some ad) m c) (hl:news.length=m*size) (Ik:∀j u,news[j]?=some u->w.cell? (ad.add j)=some u) (h1:∀u∈news,u.oneCell'=true)
  (vW:n+m<=maxLen) (GI:(n+m)*bytes<=140737488355328) (gY:base<=w.heap.size) (hp:Ko w v) (XB:∀u∈news,IsInt u) (Zn:Plain z.cells)
  (h:∀v' w',w'.ownsRow base e size v' (n+m) (xs++news)->w.grownBy w' v.ownBlock->(v'=.slice none 0 0↔v=.slice none 0 0/\m=0)->Ko w' v'->wpList P ops Q rest (a.put o.dst v') w') :
  wpList P ops Q (o::rest) a w:=by
 refine wpList_plain hgd λK hK=>?_;obtain⟨v',w',hr,h2,h3,h4,h5⟩:=run_append_own_at (P:=P) w base t o.type e i z size bytes ht hi hz Ir xG XU Ag v n xs Aw ad m c news hl Ik h1 vW GI gY;unfold Oper.wp execOp;simp only[ho,resolve,invoke,builtin,Sem.run_bind,Sem.run_pure,Result.andThen_ok,List.map_toArray,D5,List.map_nil,hs,hx,hr];exact hK _ _ (h v' w' h2 h3 h4 (J9b w base t o.type e i z size bytes ht hi hz Ir xG XU Ag v n xs Aw ad m c news hl Ik h1 vW GI hp XB Zn hr))
def Jf(m:Nat)(k:List Int)(n:Nat):List Int:=k.zipIdx.map λp=>if p.2<n/\m.testBit p.2=false then 0 else p.1
theorem J6a(m:Nat)(k:List Int)(n:Nat):(Jf m k n).length=k.length:=by simp[Jf]
theorem Jkr(m:Nat)(k:List Int):Jf m k 0=k:=by apply List.ext_getElem?;intro i;simp[Jf]
def Jmc{m n:Nat}{k:List Int}(h:m.testBit n=false):(Jf m k n).set n 0=Jf m k (n+1):=by
 apply List.ext_getElem?;intro i;rw[List.getElem?_set];simp only[Jf,List.getElem?_map,List.getElem?_zipIdx,FQ,List.length_zipIdx,Nat.zero_add]
 grind
def Jks{m n:Nat}{k:List Int}(h:m.testBit n=true):Jf m k n=Jf m k (n+1):=by
 apply List.ext_getElem?;intro i;simp only[Jf,List.getElem?_map,List.getElem?_zipIdx,Nat.zero_add]
 grind
def Jic(n:Int):bits .and .i64 n 1=n % 2:=by
 have h1:(BitVec.ofInt 64 1).toNat=2 ^ 1-1:=by decide
 have key:(BitVec.ofInt 64 n &&& BitVec.ofInt 64 1).toNat=(n % ((2 ^ 64:Nat):Int)).toNat % 2 ^ 1:=by
  simp_all
 show IntKind.i64.wrap ((BitVec.ofInt 64 n &&& BitVec.ofInt 64 1).toNat:Nat)=n % 2
 grind[IntKind.wrap_i64]
def Jxk(m k:Nat):(bits BinOp.and IntKind.i64 (((m:Int)) / 2 ^ k) 1 == 0)=!m.testBit k:=by
 rw[Jic,Nat.testBit,Nat.shiftRight_eq_div_pow]
 grind
def five{w:World}{b t:Nat}{z:Nat × Nat}{xs:List Int}(h:w.heap[b]?=some (.cells (ai .i64 xs) t z))(hl:xs.length=5) :
  ∃x0 x1 x2 x3 x4,xs=[x0,x1,x2,x3,x4]/\w.cell? ⟨b,0,none⟩=some (JK x0)/\w.cell? ⟨b,1,none⟩=some (JK x1)/\w.cell? ⟨b,2,none⟩=some (JK x2)/\w.cell? ⟨b,3,none⟩=some (JK x3)/\w.cell? ⟨b,4,none⟩=some (JK x4):=by
 obtain⟨x0,x1,x2,x3,x4,rfl⟩:∃x0 x1 x2 x3 x4,xs=[x0,x1,x2,x3,x4]:=by
  rcases xs with _|⟨x0,_|⟨x1,_|⟨x2,_|⟨x3,_|⟨x4,_|⟨x5,l⟩⟩⟩⟩⟩⟩<;>simp at hl
  grind
 exact⟨_,_,_,_,_,rfl,cell_of h 0,cell_of h 1,cell_of h 2,cell_of h 3,cell_of h 4⟩
def Jbv(ks:List Int)(hk:ks.length=5)(m:Nat)(w:World):Calls Tryz.prog 41 #[.agg (ai .i64 ks),JK m] w λe w'=>e=.returned (.agg (ai .i64 (Jf m ks 5)))/\Tch w.heap.size M0 w w':=by
 go_enter Tryz.func41,Tryz.ntmps41
 go_wp2
 go_loopw [6] (λi wr=>∃k:Nat,k<=5/\i=JK k/\wr.heap[w.heap.size]?=some (.cells (ai .i64 (Jf m ks k)) 104)/\wr.heap[w.heap.size+1]?=some (.cells (ai .i64 [0,0,0,0,0]) 104)/\Tch w.heap.size M0 w wr) (λi _=>5-(RowKit.intOf i).toNat)
 case atStart=>
  refine⟨0,by omega,rfl,?_,?_,(Tch.refl.alloc (Ad _) _).alloc (by simp_all) _⟩
  .grind[Jkr,J8,size_alloc,Ja]
  .have:=Ja (w:=w.alloc (.cells (ai .i64 ks) 104)) (.cells #[JK 0,JK 0,JK 0,JK 0,JK 0] 104);rw[size_alloc]at this;exact this
 case round=>
  obtain⟨k,hk5,rfl,hc,hd,hB⟩:=hrel;have L8:=Jxk m k;rcases BF k 5 with Ac|Et
  .have Aq:=cell_of hc k;rw[nO (by rw[J6a];omega)]at Aq;have xI:=FZ hc k;have CS:(k:Int)<5:=by omega
   cases hb:m.testBit k
   .rw[hb]at L8;go_wp2;refine⟨⟨k+1,by omega,by go_num,?_,?_,hB.set (.inl (Ad _)) _⟩,?_⟩
    .rw[heap_set hc,Jzt,Jmc hb]
    .grind[Jm]
    .simp[RowKit.intOf];omega
   .rw[hb]at L8;go_wp2;refine⟨⟨k+1,by omega,by go_num,?_,hd,hB⟩,?_⟩
    .rw[hc,Jks hb]
    .simp[RowKit.intOf];omega
  .obtain rfl:k=5:=by omega
   obtain⟨x0,x1,x2,x3,x4,hx,g0,g1,g2,g3,g4⟩:=five hc (by grind[J6a]);have f0:=FZ hd 0;have f1:=FZ hd 1;have f2:=FZ hd 2;have f3:=FZ hd 3;have f4:=FZ hd 4;obtain⟨y0,y1,y2,y3,y4,hy,k0,k1,k2,k3,k4⟩:=five hd rfl;clear hc hd L8;go_wp2;refine bodyPost_ret (v:=.agg #[JK x0,JK x1,JK x2,JK x3,JK x4]) (by
    have hr:Tryz.f41.results=#[.cell 4 104]:=rfl;simp[results,hr,go_sem,k0,k1,k2,k3,k4]
    ) rfl ⟨?_,?_⟩
   .rw[hx];rfl
   .refine((((hB.set ?_ _).set ?_ _).set ?_ _).set ?_ _).set ?_ _<;>exact .inl (by simp)
def cmpK:List Int->List Int->Int
 |x::xs,y::ys=>if Lib.compareInt x y=0 then cmpK xs ys else Lib.compareInt x y
 |_,_=>0
def Jpf{xs ys:List Int}{k:Nat}(hx:k<xs.length)(hy:k<ys.length):cmpK (xs.drop k) (ys.drop k)=if Lib.compareInt (xs.getD k 0) (ys.getD k 0)=0 then cmpK (xs.drop (k+1)) (ys.drop (k+1))else Lib.compareInt (xs.getD k 0) (ys.getD k 0):=by
 rw[List.drop_eq_getElem_cons hx,List.drop_eq_getElem_cons hy,cmpK]
 grind
def Jhd(bx bY cx cy n:Nat)(xs ys:List Int)(hx:xs.length=n)(hy:ys.length=n)(hn:n<1000)(w:World)(gx:∀j,j<n->w.cell? ⟨bx,j,none⟩=some (JK (xs.getD j 0)))(gy:∀j,j<n->w.cell? ⟨bY,j,none⟩=some (JK (ys.getD j 0))) :
  Calls Tryz.prog 146 #[JM bx n cx,JM bY n cy] w λe w'=>e=.returned (JK (cmpK xs ys))/\w'=w:=by
 go_enter Tryz.func146,Tryz.ntmps146
 go_wp2
 go_loop [11] (λi=>∃k:Nat,k<=n/\i=JK k/\cmpK (xs.drop k) (ys.drop k)=cmpK xs ys) (λi=>n-(RowKit.intOf i).toNat)
 case atStart=>grind
 case round=>
  obtain⟨k,hk,rfl,hc⟩:=hrel;rcases BF k n with Ac|Et
  .have g1:=gx k Ac;have g2:=gy k Ac;have CS:(k:Int)<n:=by omega
   rw[Jpf (by omega) (by omega)]at hc;clear gx gy;generalize xs.getD k 0=x at *;generalize ys.getD k 0=y at *
   go_wp2_with (go_at_call 141;refine(Tryz.cmp_Compare_int _ _ _).mono ?_;rintro e w' ⟨rfl,rfl⟩)
   .rename_i Ap;go_ret
    simp_all
   .rename_i Ap;refine⟨⟨k+1,by omega,by go_num,?_⟩,by simp[RowKit.intOf];omega⟩
    grind
  .have EC:¬((k:Int)<n):=by omega
   have Y6:¬((n:Int)<n):=by omega
   clear gx gy;go_wp2;go_ret;refine⟨?_,rfl⟩;rw[<- hc,List.drop_eq_nil_of_le (by omega),List.drop_eq_nil_of_le (by omega)];rfl
def Jid(xs ys:List Int)(hx:xs.length=5)(hy:ys.length=5)(w:World) :
  Calls Tryz.prog 89 #[.agg (ai .i64 xs),.agg (ai .i64 ys)] w λe w'=>e=.returned (JK (cmpK xs ys))/\w'=((w.alloc (.cells (ai .i64 xs) 104)).alloc (.cells (ai .i64 ys) 104)).drew:=by
 have s1:=size_alloc (w:=w) (.cells (ai .i64 xs) 104);have b1:((w.alloc (.cells (ai .i64 xs) 104)).alloc (.cells (ai .i64 ys) 104)).heap[w.heap.size]?=some (.cells (ai .i64 xs) 104):=by grind[J8,Ja]
 have b2:((w.alloc (.cells (ai .i64 xs) 104)).alloc (.cells (ai .i64 ys) 104)).heap[w.heap.size+1]?=some (.cells (ai .i64 ys) 104):=by
  grind[Ja]
 have wB:=Jhd w.heap.size (w.heap.size+1) 5 5 5 xs ys hx hy (by omega) ((w.alloc (.cells (ai .i64 xs) 104)).alloc (.cells (ai .i64 ys) 104)).drew (λj hj=>(cell_of b1 j).trans (nO (by omega))) (λj hj=>(cell_of b2 j).trans (nO (by omega)));clear b1 b2 s1
 go_enter Tryz.func89,Tryz.ntmps89
 go_wp2
 go_region_with (go_at_call 146;refine wB.mono ?_;rintro e w' ⟨rfl,rfl⟩)
 all_goals go_wp2
 all_goals go_ret
 all_goals exact⟨rfl,rfl⟩
open Go.Maps
def Jie:laidOutB Tryz.prog=true:=by kernel_rfl
def rW:WideMaps.KeyLaw Tryz.prog 104:=deep_law_laid Jie (m:=2) (by omega) (of_decide_eq_true (by kernel_rfl)) (by kernel_rfl) (by simp_all)
def aN:Keyed Tryz.prog 104:=.of_law rW
def EM(k:List Int):Prop:=k.length=5/\∀x∈k,(Lit.int .i64 x).wf=true
def klit(k:List Int):Lit:=.string (keyBytes (k.map (Lit.int .i64)))
def U6{k:List Int}(h:EM k):keyOf Tryz.prog 104 (.agg (ai .i64 k))=some (klit k):=by
 obtain⟨h1,h2⟩:=h;obtain⟨x0,x1,x2,x3,x4,rfl⟩:∃x0 x1 x2 x3 x4,k=[x0,x1,x2,x3,x4]:=by
  rcases k with _|⟨x0,_|⟨x1,_|⟨x2,_|⟨x3,_|⟨x4,_|⟨x5,l⟩⟩⟩⟩⟩⟩<;>simp at h1
  grind
 have ht:Tryz.prog.keyType 104=true:=by kernel_rfl
 have dZ:Tryz.prog.cellsOf 104=5:=by kernel_rfl
 have c3:Tryz.prog.cellsOf 3=1:=by kernel_rfl
 have hf:Value.formed Tryz.prog 104 (.agg (ai .i64 [x0,x1,x2,x3,x4]))=true:=by simp[Value.formed,Tryz.underlying104,dZ]
 have e:∀d x,x∈[x0,x1,x2,x3,x4]->Tryz.prog.keyLits (d+1) 3 [.int .i64 x]=some [.int .i64 x]:=λd x hx=>by simp only[Program.keyLits,Tryz.underlying3,h2 x hx,and_self,if_true]
 have hs:Tryz.prog.types.size+1=(Tryz.prog.types.size-1)+1+1:=by
  simp_all
 simp only[keyOf,Tryz.underlying104,ht,hf,Bool.and_self,if_true];rw[hs];simp only[Program.keyLits,Tryz.underlying104,dZ,c3];have w0:=h2 x0 (by simp);have w1:=h2 x1 (by simp);have w2:=h2 x2 (by simp);have w3:=h2 x3 (by simp);have w4:=h2 x4 (by simp);simp[ai,Value.cells,List.range,List.range.loop,e,klit,keyBytes,w0,w1,w2,w3,w4]
def Jsn{k k':List Int}(h:EM k)(h':EM k')(e:klit k=klit k'):k=k':=by
 have:=rW.inj (U6 h) (e▸U6 h');simp only[Value.agg.injEq,ai,List.toArray_inj]at this;have inj:∀(a b:List Int),a.map (Value.int .i64)=b.map (Value.int .i64)->a=b:=by
  intro a
  induction a with
  |nil=>simp_all
  |cons x a ih=>intro b h;cases b with
   |nil=>simp at h
   |cons y b=>grind
 grind
theorem VX{k k':List Int}(h:EM k)(h':EM k'):(klit k).sameKey (klit k')=decide (k=k'):=by
 by_cases e:k=k'
 .subst e;simp[klit,Lit.sameKey]
 .have:klit k≠klit k':=λx=>e (Jsn h h' x);simp only[klit,Lit.string.injEq,ne_eq]at this;simp[klit,Lit.sameKey,this,e]
def Rv(v:Value):Option (DataW Value × List MemPlace):=some (.held v,[])
def Dy(p:List Int × Value):Lit × DataW Value:=(klit p.1,.held p.2)
def insert_perm{H:Type}(x:Lit × DataW H):∀l:List (Lit × DataW H),(DataW.insert x l).Perm (x::l)
 |[]=>.refl _
 |y::r=>by
  unfold DataW.insert;split
  .exact .refl _
  .exact((insert_perm x r).cons y).trans (.swap x y r)
def J8e(p:List Int × Value):∀M:List (List Int × Value),∃L:List (List Int × Value),L.map Dy=DataW.insert (Dy p) (M.map Dy)/\L.Perm (p::M)
 |[]=>⟨[p],rfl,.refl _⟩
 |y::r=>by
  simp only[D5,DataW.insert];split
  .exact⟨p::y::r,rfl,.refl _⟩
  .obtain⟨L,h1,h2⟩:=J8e p r;exact⟨y::L,by simp[h1],(h2.cons y).trans (.swap p y r)⟩
structure Cm(w:World)(b:Nat)(L:List (List Int × Value)):Prop where
 keys:∀p∈L,EM p.1
 nodup:(L.map (·.1)).Nodup
 own:∃L':List (List Int × Value),L'.Perm L/\∃n,w.ownsMap Tryz.prog 104 Rv b n (.map (L'.map Dy))
def Jlh{w:World}{b n:Nat}{E:List (Lit × DataW Value)}(h:w.ownsMap Tryz.prog 104 Rv b n (.map E)):w.ownsMap Tryz.prog 104 Rv b E.length (.map E):=by
 obtain⟨es,clock,h1,h2,h3,h4⟩:=h;refine⟨es,clock,h1,h2,?_,h4⟩
 grind[length_sorted]
def Cm.kept{w w':World}{b:Nat}{L:List (List Int × Value)}(h:Cm w b L)(hb:w'.heap[b]?=w.heap[b]?):Cm w' b L:=by obtain⟨L',h1,n,es,clock,h2,h3⟩:=h.own;exact⟨h.keys,h.nodup,L',h1,n,es,clock,hb.trans h2,h3⟩
theorem Cm.made(w:World):Cm (w.alloc (.map #[] 0)) w.heap.size []:=
 ⟨λp hp=>by simp at hp,by simp,[],.refl _,0,World.ownsMap_made w Tryz.prog 104 Rv⟩
def Cm.lt{w:World}{b:Nat}{L:List (List Int × Value)}(h:Cm w b L):b<w.heap.size:=by obtain⟨_,_,_,h2⟩:=h.own;exact h2.lt
def Jif{k:List Int}(hk:EM k):∀L:List (List Int × Value),(∀p∈L,EM p.1)->((L.map Dy).find? λp=>p.1.sameKey (klit k))=(L.find? λp=>decide (p.1=k)).map Dy
 |[],_=>rfl
 |p::L,h=>by
  simp only[D5,List.find?_cons];rw[show(Dy p).1.sameKey (klit k)=decide (p.1=k)from VX (h p (by simp)) hk];by_cases e:p.1=k
  .simp[e]
  .simp only[e,decide_false];exact Jif hk L λq hq=>h q (by simp[hq])
def look(L:List (List Int × Value))(k:List Int):Option Value:=(L.find? λp=>decide (p.1=k)).map (·.2)
theorem Jcg{L:List (List Int × Value)}(hn:(L.map (·.1)).Nodup){k:List Int}{v:Value}:look L k=some v↔(k,v)∈L:=by
 induction L with
 |nil=>simp[look]
 |cons p L ih=>
  simp only[D5,List.nodup_cons]at hn;unfold look at ih ⊢
  grind
def Jpg{L L':List (List Int × Value)}(hp:L'.Perm L)(hn:(L.map (·.1)).Nodup)(k:List Int):look L' k=look L k:=by
 apply Option.ext
 grind[Jcg]
def Cm.lookup{w:World}{b:Nat}{L:List (List Int × Value)}(h:Cm w b L){k:List Int}(hk:EM k) :
  (Instr.lookup 95 (.map (some b)) (.agg (ai .i64 k)) false).run Tryz.prog w=.ok ((look L k).getD (.pointer none)) w:=by
 obtain⟨L',h1,n,h2⟩:=h.own;obtain⟨v,ps,AB,hv⟩:=h2.lookup aN Tryz.underlying95 (Tryz.zeroValue114 w) (zd:=.held (.pointer none)) (zp:=[]) rfl (U6 hk);rw[AB];have e:(DataW.map (L'.map Dy)).atKey (klit k) (.held (.pointer none))=.held ((look L k).getD (.pointer none)):=by simp only[DataW.atKey,Jif hk L' λp hp=>h.keys p (h1.mem_iff.1 hp)];rw[<- Jpg h1 h.nodup];unfold look;cases L'.find? λp=>decide (p.1=k)<;>rfl
 rw[e]at hv;simp only[Rv,Cb,Prod.mk.injEq,DataW.held.injEq]at hv;rw[hv.1]
def Ot(k:List Int)(v:Value)(L:List (List Int × Value)):List (List Int × Value):=(k,v)::L.filter λp=>!decide (p.1=k)
def Cm.update{w:World}{b:Nat}{L:List (List Int × Value)}(h:Cm w b L)(hn:L.length<maxLen){k:List Int}(hk:EM k)(v:Value) :
  ∃w',(Instr.mapUpdate 95 (.map (some b)) (.agg (ai .i64 k)) v).run Tryz.prog w=.ok () w'/\Cm w' b (Ot k v L)/\w.grownBy w' (some b):=by
 obtain⟨L',h1,n,h2⟩:=h.own;have hlen:(L'.map Dy).length<maxLen:=by simpa[h1.length_eq]using hn
 obtain⟨w',AB,h3,h4⟩:=(Jlh h2).update aN Tryz.underlying95 hlen (U6 hk) (val:=v) (d:=.held v) (ps:=[]) rfl;refine⟨w',AB,⟨λp hp=>?_,?_,?_⟩,h4⟩
 .rcases AL.1 hp with rfl|hp
  .exact hk
  .exact h.keys p (Hq.1 hp).1
 .simp only[Ot,D5,List.nodup_cons]
  grind[List.filter_sublist,nodup]
 .have e:(DataW.map (L'.map Dy)).put (klit k) (.held v)=.map (DataW.insert (Dy (k,v)) ((L'.filter λp=>!decide (p.1=k)).map Dy)):=by
   have ef:(L'.map Dy).filter (λp=>!p.1.sameKey (klit k))=(L'.filter λp=>!decide (p.1=k)).map Dy:=by
    rw[List.filter_map];refine congrArg (List.map Dy) (List.filter_congr λp hp=>?_);simp only[Function.comp];rw[show(Dy p).1.sameKey (klit k)=decide (p.1=k)from VX (h.keys p (h1.mem_iff.1 hp)) hk]
   show DataW.map (DataW.insert _ ((L'.map Dy).filter (λp=>!p.1.sameKey (klit k))))=_;rw[ef];rfl
  rw[e]at h3;obtain⟨L2,e2,lZ⟩:=J8e (k,v) (L'.filter λp=>!decide (p.1=k));rw[<- e2]at h3;exact⟨L2,lZ.trans ((h1.filter _).cons _),_,h3⟩
open Go.Sort Go.Shelf
abbrev Je:={ k:List Int // EM k }
def Sm(x:Je):Value:=.agg (ai .i64 x.1)
def Jkt{v:Value}{l:Lit}(h:keyOf Tryz.prog 104 v=some l):∃x:Je,v=Sm x:=by
 have dZ:Tryz.prog.cellsOf 104=5:=by kernel_rfl
 have c3:Tryz.prog.cellsOf 3=1:=by kernel_rfl
 simp only[keyOf,Tryz.underlying104]at h;split at h
 .rename_i hf;simp only[Bh]at hf;obtain⟨_,hf⟩:=hf;cases v with
  |agg cs=>
   simp only[Value.formed,Tryz.underlying104,dZ]at hf;have hs:cs.size=5:=by grind
   obtain⟨l5⟩:=cs;simp only[List.size_toArray]at hs;obtain⟨x0,x1,x2,x3,x4,rfl⟩:∃x0 x1 x2 x3 x4,l5=[x0,x1,x2,x3,x4]:=by
    rcases l5 with _|⟨x0,_|⟨x1,_|⟨x2,_|⟨x3,_|⟨x4,_|⟨x5,l⟩⟩⟩⟩⟩⟩<;>simp at hs
    grind
   have Ag:Tryz.prog.types.size+1=(Tryz.prog.types.size-1)+1+1:=by
    simp_all
   have one:∀d x ls,Tryz.prog.keyLits (d+1) 3 [x]=some ls->∃n,x=.int .i64 n/\(Lit.int .i64 n).wf=true:=by
    intro d x ls hx;simp only[Program.keyLits,Tryz.underlying3]at hx
    grind
   rw[Ag]at h;generalize Tryz.prog.types.size-1=d at h;obtain⟨a,ha,_⟩:=Fh.1 h;unfold Program.keyLits at ha;simp only[Tryz.underlying104,dZ,c3,Value.cells,Lh,List.length_nil,if_true]at ha;have o0:=one d x0;have o1:=one d x1;have o2:=one d x2;have o3:=one d x3;have o4:=one d x4;generalize hk:Tryz.prog.keyLits (d+1) 3=K at ha o0 o1 o2 o3 o4;clear hk;simp[List.range,List.range.loop]at ha;cases k0:K [x0]with
   |none=>grind
   |some r0=>cases k1:K [x1]with
    |none=>grind
    |some r1=>cases k2:K [x2]with
     |none=>grind
     |some r2=>cases k3:K [x3]with
      |none=>grind
      |some r3=>cases k4:K [x4]with
       |none=>grind
       |some r4=>
        obtain⟨n0,rfl,w0⟩:=o0 _ k0;obtain⟨n1,rfl,w1⟩:=o1 _ k1;obtain⟨n2,rfl,w2⟩:=o2 _ k2;obtain⟨n3,rfl,w3⟩:=o3 _ k3;obtain⟨n4,rfl,w4⟩:=o4 _ k4;exact⟨⟨[n0,n1,n2,n3,n4],rfl,by simp_all⟩,rfl⟩
  |_=>simp[Value.formed,Tryz.underlying104]at hf
 .cases h
def TK(D0:DataW Value)(left:Lit->Bool)(ss:List Je):Prop:=ss.Nodup/\∀x:Je,x∈ss↔(has D0 (klit x.1)=true/\left (klit x.1)=false)
section
variable{D0:DataW Value}{left:Lit->Bool}{ss:List Je}
def TK.start(D0:DataW Value):TK D0 (has D0) []:=⟨List.nodup_nil,λx=>by grind⟩
def TK.step(h:TK D0 left ss){x:Je}{y:DataW Value}(Ew:left (klit x.1)=true)(OC:∀zd,D0.atKey (klit x.1) zd=y):TK D0 (λz=>left z && !z.sameKey (klit x.1)) (ss++[x]):=by
 have QL:has D0 (klit x.1)=true:=has_true_of_atKey OC;have Dw:x∉ss:=λhx=>by have:=((h.2 x).1 hx).2;grind
 refine⟨List.nodup_append.2 ⟨h.1,by simp,λa ha b hb=>by grind⟩,λy=>?_⟩;by_cases hy:y=x
 .grind[VX]
 .have:y.1≠x.1:=λe=>hy (Subtype.ext e);simp[h.2 y,hy,VX y.2 x.2,this]
end
def Jli{L:List (List Int × Value)}(h:∀p∈L,EM p.1){k:List Int}(hk:EM k):has (DataW.map (L.map Dy)) (klit k)=true↔k∈L.map (·.1):=by
 simp only[has,List.any_eq_true,AZ];constructor
 .rintro⟨_,⟨p,hp,rfl⟩,hs⟩;rw[show(Dy p).1.sameKey (klit k)=decide (p.1=k)from VX (h p hp) hk]at hs
  grind
 .rintro⟨p,hp,rfl⟩;exact⟨_,⟨p,hp,rfl⟩,by rw[show(Dy p).1.sameKey (klit p.1)=decide (p.1=p.1)from VX (h p hp) hk];simp⟩
def KeysOf(L:List (List Int × Value))(ss:List Je):Prop:=(ss.map (·.1)).Perm (L.map (·.1))
def TK.perm{L:List (List Int × Value)}{L':List (List Int × Value)}(hp:L'.Perm L)(hk:∀p∈L,EM p.1)(hn:(L.map (·.1)).Nodup){left:Lit->Bool}{ss:List Je}(h:TK (.map (L'.map Dy)) left ss)(hl:∀kl,left kl=false):KeysOf L ss:=by
 have D6:∀p∈L',EM p.1:=λp Gu=>hk p (hp.mem_iff.1 Gu);refine(List.perm_ext_iff_of_nodup ?_ hn).2 λk=>?_
 .exact List.pairwise_map.2 (h.1.imp λAp e=>Ap (Subtype.ext e))
 .rw[<- (hp.map (·.1)).mem_iff];constructor
  .intro hm;obtain⟨x,hx,rfl⟩:=AZ.1 hm;exact(Jli D6 x.2).1 ((h.2 x).1 hx).1
  .intro hm;obtain⟨p,Gu,rfl⟩:=AZ.1 hm;exact AZ.2 ⟨⟨p.1,D6 p Gu⟩,(h.2 _).2 ⟨(Jli D6 (D6 p Gu)).2 hm,hl _⟩,rfl⟩
def keys1N_in(F:Fence)(n:Nat)(Ce:F.fn 143)(EU:F.round=none)(hn:1<=n)(l Bm b nn:Nat)(L0:List (List Int × Value))(iR:∀p∈L0,EM p.1)(hnd:(L0.map (·.1)).Nodup)(J:List Je->World->Prop)
  (hY:∀pre x W,J pre W->pre.length<L0.length->YieldAt F (n-1) Tryz.prog l #[Sm x] W λe W'=>e=.returned (.bool true)/\J (pre++[x]) W'/\KeepsWalks W W')
  (W:World) (hJ:AbidesFrom W.heap.size J) (hm:W.cell? ⟨Bm,0,none⟩=some (.map (some b))) (L':List (List Int × Value)) (wR:L'.Perm L0) (Aw:W.ownsMap Tryz.prog 104 Rv b nn (.map (L'.map Dy))) (h0:J [] W) :
  CallsIn F n Tryz.prog 143 #[.func (.yield l) #[] #[],JL Bm] W λe W'=>(∃v,e=.returned v)/\∃ss:List Je,KeysOf L0 ss/\J ss W':=by
 have Ir:Maps.size (DataW.map (L'.map Dy))=L0.length:=by simp[Maps.size,wR.length_eq]
 refine callsIn_of_wp Tryz.func143 rfl Ce ?_ EU;simp only[Tryz.ntmps143,List.size_toArray,Lh,List.length_nil,Nat.reduceAdd,Nat.reduceSub,Array.replicate_succ,Array.replicate_zero,List.push_toArray,List.append_toArray,Gm,G9]
 gi_wp2_with (first
  |(gi_at_range;refine wpListIn_range_own _ rfl _ 95 rfl 104 114 aN Tryz.underlying95 _ b nn _ rfl Aw ?_;intro w0 hrg0 Uk V7)
  |gi_in)
 go_frame
 gi_loopw [6] (λ_ wr=>∃(left:Lit->Bool)(cnt:Nat)(ss:List Je),wr.ranges Tryz.prog 104 Rv b W.heap.size nn (.map (L'.map Dy)) left cnt/\ss.length+cnt<=L0.length/\TK (.map (L'.map Dy)) left ss/\J ss wr)
  (λ_ wr=>wr.rangeLeft b W.heap.size)
 case atStart=>
  exact⟨_,_,[],hrg0,by simp[Ir],TK.start _,hJ [] W w0 none h0 Uk (λr e=>by cases e)⟩
 case round=>
  obtain⟨left,cnt,ss,hrg,FH,hC,hJs⟩:=hrel
  gi_wp2_with (first
   |(gi_at_next;refine wpListIn_next_ranges _ rfl _ rfl 104 aN Rv Sm id (λkey kl hk=>Jkt hk) (λv _ _=>⟨v,rfl⟩) b W.heap.size nn _ _ _ rfl hrg ?_ ?_)
   |gi_in)
  ·
   intro hc0 xQ;gi_wp2;go_end0;exact⟨⟨_,rfl⟩,ss,hC.perm wR iR hnd xQ,hJs⟩
  ·
   intro xs NC c kl yd yp w2 WI LD Ew hv OC Uw Ac Bl Bo hen;have xP:kl=klit xs:=by
    have:=LD.symm.trans (U6 NC)
    grind
   subst xP;have hJ2:J ss w2:=hJ ss wr w2 (some W.heap.size) hJs Bl (λr e=>by cases e;exact⟨Ad _,hrg.iter_walk⟩);obtain⟨x0,x1,x2,x3,x4,rfl⟩:∃x0 x1 x2 x3 x4,xs=[x0,x1,x2,x3,x4]:=by
    have h1:=NC.1;rcases xs with _|⟨x0,_|⟨x1,_|⟨x2,_|⟨x3,_|⟨x4,_|⟨x5,l⟩⟩⟩⟩⟩⟩<;>simp at h1
    grind
   have wM:J ss (w2.alloc (.cells #[JK x0,JK x1,JK x2,JK x3,JK x4] 104)):=hJ ss w2 _ none hJ2 (World.grownBy_alloc _ _ _) (λr e=>by cases e);obtain⟨fn,tmps,assign,body,hy,hR⟩:=hY ss ⟨[x0,x1,x2,x3,x4],NC⟩ _ wM (by omega);simp only[Sm,ai,D5,List.map_nil]at hy hen;clear Bo wM;gi_wp2;refine hR.mono ?_;rintro e W3 ⟨rfl,wM,OM⟩;gi_wp2;have kH:=Uw.of_walks ((KeepsWalks.alloc _ _).trans OM);have QD:=hC.step (x:=⟨[x0,x1,x2,x3,x4],NC⟩) Ew OC
   go_roundw
   case rel=>exact⟨_,WI,ss++[⟨[x0,x1,x2,x3,x4],NC⟩],kH,by simp;omega,QD,wM⟩
   case measure=>rw[kH.left_eq,hrg.left_eq];exact Ac
def Jmd(mb:Option Nat)(w:World) :
  Calls Tryz.prog 87 #[.map mb] w λe w'=>e=.returned (.func (.func 143) #[] #[JL w.heap.size])/\w'=w.alloc (.cells #[.map mb] 95):=by
 go_enter Tryz.func87,Tryz.ntmps87
 go_wp2;go_ret
 simp_all
def keys_gives(F:Fence)(n:Nat)(Ce:F.fn 143)(EU:F.round=none)(hn:1<=n)(Bm b:Nat)(L0:List (List Int × Value))(w:World)(hBm:Bm<w.heap.size)
  (hm:w.cell? ⟨Bm,0,none⟩=some (.map (some b))) (Aw:Cm w b L0) :
  SeqGives F n Tryz.prog 143 #[JL Bm] Sm (KeysOf L0) L0.length w:=λl J W hW hJ hY h0=>by
 have BD:Cm W b L0:=Aw.kept (hW.block b Aw.lt);obtain⟨L',wR,nn,ho⟩:=BD.own;exact keys1N_in F n Ce EU hn l Bm b nn L0 Aw.keys Aw.nodup J hY W hJ ((hW.cell (p:=⟨Bm,0,none⟩) hBm).trans hm) L' wR ho h0
def apAssign:Code:=(Code.region 2 #[{ dst:=some 5,op:=Op.alloc 104,type:=0,pos:= "iter.go:51",after:=#[],guard:=none },{ dst:=none,op:=Op.store 104 (Operand.tmp 5) (Operand.tmp 7),type:=0,pos:= "iter.go:51",after:=#[{ on:=0,ground:=Ground.data },{ on:=0,ground:=Ground.phase }],guard:=none }] false)
def apBody:Code:=(Code.block 1 (Code.region 3 #[{ dst:=some 8,op:=Op.load 124 (Operand.tmp 2),type:=124,pos:= "iter.go:52",after:=#[],guard:=none },{ dst:=some 9,op:=Op.load 104 (Operand.tmp 5),type:=104,pos:= "iter.go:52",after:=#[],guard:=none },{ dst:=some 10,op:=Op.buildSlice 124 1 #[(0,Operand.tmp 9)],type:=124,pos:= "iter.go:52",after:=#[{ on:=1,ground:=Ground.data }],guard:=none },{ dst:=some 11,op:=Op.call { callee:=Callee.builtin Builtin.append,args:=#[Operand.tmp 8,Operand.tmp 10],argTypes:=#[124,124] },type:=124,pos:= "iter.go:52",after:=#[{ on:=0,ground:=Ground.data },{ on:=2,ground:=Ground.data }],guard:=none },{ dst:=none,op:=Op.store 124 (Operand.tmp 2) (Operand.tmp 11),type:=0,pos:= "iter.go:52",after:=#[{ on:=3,ground:=Ground.data },{ on:=3,ground:=Ground.chain },{ on:=0,ground:=Ground.phase },{ on:=1,ground:=Ground.phase },{ on:=2,ground:=Ground.phase },{ on:=3,ground:=Ground.phase }],guard:=none }] false))
def Gw(ss:List Je):List Value:=ss.flatMap λx=>x.1.map (Value.int .i64)
def Jhe(ss:List Je)(x:Je):Gw (ss++[x])=Gw ss++x.1.map (Value.int .i64):=by simp[Gw]
def Jhf(ss:List Je):(Gw ss).length=ss.length*5:=by
 induction ss with
 |nil=>rfl
 |cons x ss ih=>
  have:Gw (x::ss)=x.1.map (Value.int .i64)++Gw ss:=rfl;rw[this,List.length_append,ih,FQ,x.2.1,Lh];omega
def apRec(fn:FuncId)(sv:Value)(Bs D:Nat)(st:LoopState)(pend:Option Code):Loop:=
 { state:=st,pending:=pend,fn,tmps:=#[.slice none 0 0,sv,JL Bs,undef,.slice none 0 0,undef,sv,undef,undef,undef,undef,undef,undef],params:=#[7],assign:=apAssign,body:=apBody,defers:=D }
structure PR(W:World)(base:Nat)(v:Value)(ss:List Je):Prop where
 own:W.ownsRow base 104 5 v ss.length (Gw ss)
 pl:Ko W v
def PR.lt{W:World}{base:Nat}{v:Value}{ss:List Je}(h:PR W base v ss){g n cap:Nat}(e:v=JM g n cap):g<W.heap.size:=by
 rcases h.own.2 with⟨rfl,_⟩|⟨g',Ee,cur,rfl,_,hg,_⟩
 all_goals grind
def PR.kept{W W':World}{row:Option Nat}{base:Nat}{v:Value}{ss:List Je}(h:PR W base v ss)(hg:W.grownBy W' row)(Ap:v.ownBlock=none\/v.ownBlock≠row):PR W' base v ss:=by
 refine⟨h.own.kept hg Ap,h.pl.kept λg n cap e=>hg.block g (h.lt e) λe'=>?_⟩;subst e;rcases Ap with h1|h1
 .cases h1
 .exact h1 e'
def PR.abides{W W':World}{row:Option Nat}{base:Nat}{v:Value}{ss:List Je}(h:PR W base v ss)(hg:W.grownBy W' row)(Aj:∀r,row=some r->∃o:Obj,W.heap[r]?=some o/\o.isWalk=true):PR W' base v ss:=by
 refine h.kept hg ?_;rcases h.own.2 with⟨rfl,_⟩|⟨g',Ee,cur,rfl,_,xJ,_⟩
 .exact .inl rfl
 .refine .inr λe=>?_;obtain⟨o,ho,hw⟩:=Aj g' e.symm;rw[xJ]at ho;cases ho;cases hw
structure ApAt(w0:World)(fn:FuncId)(sv:Value)(Bs l D:Nat)(ss:List Je)(W:World):Prop where
 box:∃v,W.heap[Bs]?=some (.cells #[v] 124 (0,0))/\PR W w0.heap.size v ss/\(v=.slice none 0 0↔ss=[])
 L:W.heap[l]?=some (.loop (apRec fn sv Bs D .ready none))
 K:W.heap[D]?=some (.deferred (some []))
 below:Below w0.heap.size w0 W
def ap_abides(w0:World)(fn:FuncId)(sv:Value)(Bs l D B:Nat)(hB:w0.heap.size<=B):AbidesFrom B (ApAt w0 fn sv Bs l D):=λs W W' row h hg Aj=>by
 have Oi:∀r,row=some r->∃o:Obj,W.heap[r]?=some o/\o.isWalk=true:=λr e=>(Aj r e).2;obtain⟨v,hv,hr,hn⟩:=h.box;exact⟨⟨v,(grownBy_keeps hg Oi hv rfl).trans hv,hr.abides hg Oi,hn⟩,(grownBy_keeps hg Oi h.L rfl).trans h.L,(grownBy_keeps hg Oi h.K rfl).trans h.K,
  h.below.grown hg h.below.size (λk e=>BN hB (Aj k e).1)⟩
def Jzu:(Tryz.prog.info? 104).map (λi=>(i.zero,i.size,i.bytes))=some (some (.agg #[JK 0,JK 0,JK 0,JK 0,JK 0]),5,40):=by kernel_rfl
def J8f{w:World}{a0 a1 a2 a3 a4:Value}{t:TypeId}:∀j u,([a0,a1,a2,a3,a4]:List Value)[j]?=some u->(w.alloc (.cells #[a0,a1,a2,a3,a4] t)).cell? ((⟨w.heap.size,0,none⟩:Addr).add j)=some u:=by
 intro j u hj;have hh:=Ja (w:=w) (.cells #[a0,a1,a2,a3,a4] t);have:(⟨w.heap.size,0,none⟩:Addr).add j=⟨w.heap.size,j,none⟩:=by unfold Addr.add;grind
 simp_all
def apYield(F:Fence)(m:Nat)(w0:World)(fn:FuncId)(Oc:F.fn fn)(sv:Value)(Bs l D:Nat)(hBl:Bs≠l)(wH:D≠l)(hDB:D≠Bs)(h0B:w0.heap.size<=Bs)(h0l:w0.heap.size<=l)
  (N:Nat) (hN:N<=maxLen) (wS:N*40<=140737488355328) (ss:List Je) (x:Je) (W:World) (h:ApAt w0 fn sv Bs l D ss W) (hlen:ss.length<N) :
  YieldAt F m Tryz.prog l #[Sm x] W λe W'=>e=.returned (.bool true)/\ApAt w0 fn sv Bs l D (ss++[x]) W'/\KeepsWalks W W':=by
 have Ap:(124:TypeId)≠104:=by decide
 obtain⟨i0,hi,EY,DJ,DR⟩:=info_parts Jzu;obtain⟨v,hv,Aj,_⟩:=h.box;obtain⟨xs,NC⟩:=x;obtain⟨x0,x1,x2,x3,x4,rfl⟩:∃x0 x1 x2 x3 x4,xs=[x0,x1,x2,x3,x4]:=by
  have h1:=NC.1;rcases xs with _|⟨x0,_|⟨x1,_|⟨x2,_|⟨x3,_|⟨x4,_|⟨x5,l⟩⟩⟩⟩⟩⟩<;>simp at h1
  grind
 have QN:=Jhe ss ⟨[x0,x1,x2,x3,x4],NC⟩;simp only[D5,List.map_nil]at QN;simp only[Sm,ai,D5,List.map_nil];generalize hX:(⟨[x0,x1,x2,x3,x4],NC⟩:Je)=X at QN ⊢;refine⟨fn,#[.slice none 0 0,sv,JL Bs,undef,.slice none 0 0,undef,sv,.agg #[JK x0,JK x1,JK x2,JK x3,JK x4],undef,undef,undef,undef,undef],apAssign,apBody,by simpa[apRec]using run_yield (P:=Tryz.prog) (args:=#[.agg #[JK x0,JK x1,JK x2,JK x3,JK x4]]) h.L rfl,roundIn_of_wpIn Oc ?_⟩;unfold apAssign
 gi_wp2_with gi_round_op_a
 obtain⟨Wn,gQ⟩:∃Wn,W.alloc (.cells #[JK x0,JK x1,JK x2,JK x3,JK x4] 104)=Wn:=⟨_,rfl⟩;have hgn:W.grownBy Wn none:=by grind[World.grownBy_alloc]
 have Oe:KeepsWalks W Wn:=by grind[KeepsWalks.alloc]
 have hA:ApAt w0 fn sv Bs l D ss Wn:=ap_abides w0 fn sv Bs l D w0.heap.size (Ad _) ss W Wn none h hgn (λr e=>by cases e);have Vt:Wn.heap[W.heap.size]?=some (.cells #[JK x0,JK x1,JK x2,JK x3,JK x4] 104):=by grind[Ja]
 have hlb:l≠W.heap.size:=by have:=(BJ.1 h.L).1;omega
 rw[gQ];generalize W.heap.size=Bx at Vt hlb ⊢;clear gQ hgn hv Aj;obtain⟨v,hv,Aj,_⟩:=hA.box;have hkn0:=Oe;clear Oe;have hl:l<Wn.heap.size:=(BJ.1 hA.L).1;have OH:=run_beginRound (P:=Tryz.prog) hA.L rfl;obtain⟨W2,Dv⟩:∃W2,Wn.putObj l (.loop { apRec fn sv Bs D .ready none with state:=.busy })=W2:=⟨_,rfl⟩;rw[Dv]at OH;have Bl:Wn.grownBy W2 (some l):=by grind[grownBy_putObj_a]
 have BX:KeepsWalks W W2:=hkn0.trans (by rw[<- Dv];exact KeepsWalks.putObj _ hA.L rfl);have Iw:W2.heap[Bs]?=some (.cells #[v] 124 (0,0)):=by grind[World.putObj_heap_other]
 have GH:W2.heap[Bx]?=some (.cells #[JK x0,JK x1,JK x2,JK x3,JK x4] 104):=by rw[<- Dv];exact(World.putObj_heap_other (Ne.symm hlb)).trans Vt
 have fQ:W2.heap[D]?=some (.deferred (some [])):=by rw[<- Dv];exact(World.putObj_heap_other wH).trans hA.K
 have Es:W2.heap[l]?=some (.loop { apRec fn sv Bs D .ready none with state:=.busy }):=by grind[World.putObj_heap_same]
 have Iq:PR W2 w0.heap.size v ss:=Aj.kept Bl (ownsRow_ne_a Aj.own hA.L (λcur e=>by grind));have Dk:Below w0.heap.size w0 W2:=hA.below.grown Bl hA.below.size (λk e=>by grind);obtain⟨Nh,hf2⟩:=cell_of_box_a Iw;have hBlt:Bs<W2.heap.size:=(BJ.1 Iw).1;have Eu:l<W2.heap.size:=(BJ.1 Es).1;have hDlt:D<W2.heap.size:=(BJ.1 fQ).1;have Rk:∀{j:Nat}{o:Obj},W2.heap[j]?=some o->(∀cur,o≠.cells cur 104 (0,0))->some j≠v.ownBlock:=λhj D7=>by
  rcases ownsRow_ne_a Iq.own hj D7 with e|e
  all_goals grind
 clear Dv Vt hv Aj;have c0:W2.cell? ⟨Bx,0,none⟩=some (JK x0):=(cell_of GH 0).trans rfl;have c1:W2.cell? ⟨Bx,1,none⟩=some (JK x1):=(cell_of GH 1).trans rfl;have c2:W2.cell? ⟨Bx,2,none⟩=some (JK x2):=(cell_of GH 2).trans rfl;have c3:W2.cell? ⟨Bx,3,none⟩=some (JK x3):=(cell_of GH 3).trans rfl;have c4:W2.cell? ⟨Bx,4,none⟩=some (JK x4):=(cell_of GH 4).trans rfl;refine⟨W2,OH,?_⟩;unfold apBody
 gi_wp2_with (first
  |(gi_at_builtin;refine J7q _ rfl _ _ 124 rfl w0.heap.size 104 i0 _ 5 40 Tryz.underlying124 hi EY DJ DR rfl (by decide) _ _ _ rfl (Iq.own.alloc _) ⟨W2.heap.size,0,none⟩ 1 1 [.int .i64 x0,.int .i64 x1,.int .i64 x2,.int .i64 x3,.int .i64 x4] rfl rfl J8f (by simp[Value.oneCell']) (by omega) (by omega) (by have:=Dk.size;simp;omega) (Iq.pl.kept λg n cap e=>J8 _ (Iq.lt e)) (λu hu=>by rcases AL.1 hu with rfl|hu;exact⟨_,_,rfl⟩;rcases AL.1 hu with rfl|hu;exact⟨_,_,rfl⟩;rcases AL.1 hu with rfl|hu;exact⟨_,_,rfl⟩;rcases AL.1 hu with rfl|hu;exact⟨_,_,rfl⟩;rcases AL.1 hu with rfl|hu;exact⟨_,_,rfl⟩;cases hu) (Plain.ai (xs:=[0,0,0,0,0])) ?_;intro v' w3 BD Gt jO hpl3
    have wC:w3.heap[Bs]?=some (.cells #[v] 124 (0,0)):=(Gt.block Bs (by simp;omega) (Rk Iw (λcur e=>by grind))).trans ((Below.heap_alloc _ _ Bs hBlt).trans Iw);obtain⟨PV,hf3⟩:=cell_of_box_a wC;obtain⟨g',Ee,Q9,rfl,hbase',hgb',KR,BM,Io,jZ⟩:∃g' Ee Q9,v'=JM g' (ss.length+1) Ee/\w0.heap.size<=g'/\w3.heap[g']?=some (.cells Q9 104 (0,0))/\ss.length+1<=Ee/\Ee<=maxLen/\Q9.size=Ee*5/\Q9.toList.take ((ss.length+1)*5)=Gw ss++[JK x0,JK x1,JK x2,JK x3,JK x4]:=by
     rcases BD.2 with⟨_,h0⟩|h'
     all_goals simp_all
    go_frame)
  |gi_round_op_a)
 have Ul:(W2.alloc (.cells #[JK x0,JK x1,JK x2,JK x3,JK x4] 104)).grownBy w3 v.ownBlock:=Gt;have Lp:w3.heap[l]?=some (.loop { apRec fn sv Bs D .ready none with state:=.busy }):=(Ul.block l (by simp;omega) (Rk Es (λcur e=>by grind))).trans ((Below.heap_alloc _ _ l Eu).trans Es);have fU:w3.heap[D]?=some (.deferred (some [])):=(Ul.block D (by simp;omega) (Rk fQ (λcur e=>by grind))).trans ((Below.heap_alloc _ _ D hDlt).trans fQ);obtain⟨w4,Qg⟩:∃w4,w3.setCell ⟨Bs,0,none⟩ (JM g' (ss.length+1) Ee)=w4:=⟨_,rfl⟩;rw[Qg];have iJ:w3.grownBy w4 (some Bs):=by grind[grownBy_setCell0_a]
 have yF:w4.heap[Bs]?=some (.cells #[JM g' (ss.length+1) Ee] 124 (0,0)):=by grind[heap_setCell_box_a]
 have SE:w4.heap[l]?=some (.loop { apRec fn sv Bs D .ready none with state:=.busy }):=(iJ.block l (BJ.1 Lp).1 (λe=>hBl (by cases e;rfl))).trans Lp;have hK4:w4.heap[D]?=some (.deferred (some [])):=(iJ.block D (BJ.1 fU).1 (λe=>hDB (by cases e;rfl))).trans fU;have hPR:PR w3 w0.heap.size (JM g' (ss.length+1) Ee) (ss++[X]):=⟨by grind,hpl3⟩;have V6:=hPR.kept iJ (ownsRow_ne_a BD wC (λcur e=>by grind));have hl4:l<w4.heap.size:=(BJ.1 SE).1;have Gs:Below w0.heap.size w0 w3:=(Dk.alloc Dk.size _).grown Ul (by have:=Dk.size;simp;omega) (λk e=>(Iq.own.lt k e).1);have SK:Below w0.heap.size w0 w4:=Gs.grown iJ Gs.size (λk e=>by grind);have PY:KeepsWalks W w4:=((BX.trans (KeepsWalks.alloc _ _)).trans (KeepsWalks.of_grownBy Ul (ownsRow_not_walk_a (Iq.own.alloc _)))).trans (by grind[KeepsWalks.setCell]);clear Qg;refine⟨_,_,run_endRound none SE,rfl,⟨⟨_,(World.putObj_heap_other hBl).trans yF,?_,by simp⟩,World.putObj_heap_same hl4,(World.putObj_heap_other wH).trans hK4,SK.grown (grownBy_putObj_a _ _ _) SK.size (λk e=>by grind)⟩,PY.trans (KeepsWalks.putObj _ SE rfl)⟩;have:=V6.kept (grownBy_putObj_a w4 l (.loop { { apRec fn sv Bs D .ready none with state:=.busy } with state:=if(none:Option Code).isNone then .ready else .done,pending:=none })) (ownsRow_ne_a V6.own SE (λcur e=>by grind));exact this
def appendSeq_in(F:Fence)(n:Nat)(DZ:F.fn 142)(EU:F.round=none)(hn:2<=n)(g:Nat)(lb:Array Value)(hFg:F.fn g)(eg:∀args w,(callFunc g args).run Tryz.prog w=.ok (.enter g args) w)
  (S:List Je->Prop) (N:Nat) (hN:N<=maxLen) (wS:N*40<=140737488355328) (w:World) (Nz:SeqGives F (n-1) Tryz.prog g lb Sm S N w) :
  CallsIn F n Tryz.prog 142 #[.slice none 0 0,.func (.func g) #[] lb] w λe w'=>∃(v:Value)(ss:List Je),e=.returned v/\S ss/\PR w' w.heap.size v ss/\(v=.slice none 0 0↔ss=[])/\Below w.heap.size w w':=by
 have h1:1<=n:=by omega
 have Ap:(124:TypeId)≠104:=by decide
 refine callsIn_of_wp_marks Tryz.func142 rfl DZ ?_ EU;simp only[Tryz.ntmps142,List.size_toArray,Lh,List.length_nil,Nat.reduceAdd,Nat.reduceSub,Array.replicate_succ,Array.replicate_zero,List.push_toArray,List.append_toArray,Gm,G9];gi_wp2;refine wpIn_rangeFunc ?_;intro fn Oc;rw[EU];obtain⟨W0,Ci⟩:∃W0,w.alloc (.cells #[.slice none 0 0] 124)=W0:=⟨_,rfl⟩;have V7:W0.heap.size=w.heap.size+1:=by rw[<- Ci];simp
 have MK:W0.heap[w.heap.size]?=some (.cells #[.slice none 0 0] 124 (0,0)):=by grind[World.alloc_heap_new]
 have Fj:Below w.heap.size w W0:=by rw[<- Ci];exact(Below.refl _ w).alloc (Ad _) _
 rw[Ci];obtain⟨W1,AP⟩:∃W1,(W0.alloc (.deferred (some []))).alloc (.loop (apRec fn (.func (.func g) #[] lb) w.heap.size W0.heap.size .ready none))=W1:=⟨_,rfl⟩;have hold:∀k,k<W0.heap.size->W1.heap[k]?=W0.heap[k]?:=λk hk=>by
  grind[Below.heap_alloc]
 have FD:Below w.heap.size w W1:=by rw[<- AP];exact(Fj.alloc Fj.size _).alloc (by have:=Fj.size;simp;omega) _
 have AQ:W1.heap.size=W0.heap.size+2:=by rw[<- AP];simp
 have hM:ApAt w fn (.func (.func g) #[] lb) w.heap.size (W0.heap.size+1) W0.heap.size [] W1:=
  ⟨⟨_,(hold w.heap.size (by omega)).trans MK,⟨⟨rfl,.inl ⟨rfl,rfl⟩⟩,.nil _ _ _⟩,by simp⟩,
   by grind[World.alloc_heap_new,World.size_alloc],
   by grind[Below.heap_alloc,World.alloc_heap_new],FD⟩
 refine⟨W0.heap.size+1,[{ target:=.collected W0.heap.size,args:=#[] }],W1,{ target:=.fn (.func g) lb,args:=#[.func (.yield (W0.heap.size+1)) #[] #[]] },W1,g,
  #[.func (.yield (W0.heap.size+1)) #[] #[]]++lb,W1,?_,?_,?_,?_,λ_=>h1,?_⟩
 .rw[<- AP];exact run_enterLoop_outer _ _ _ _ _
 .simp[resolve,go_sem]
 .intro f' IL;simp[Target.leads]at IL;grind
 .simp[invoke,go_sem,eg]
 .refine(Nz (W0.heap.size+1) (ApAt w fn (.func (.func g) #[] lb) w.heap.size (W0.heap.size+1) W0.heap.size) W1 FD (ap_abides _ _ _ _ _ _ _ FD.size)
   (λpre x W hJ hl=>apYield F (n-1-1) w fn Oc _ w.heap.size (W0.heap.size+1) W0.heap.size (by omega) (by omega) (by omega) (Ad _) (by omega) N hN wS pre x W hJ hl) hM).mono ?_
  rintro e W2 ⟨⟨v0,rfl⟩,ss,hS,h2⟩;obtain⟨v,hv,Aj,Ej⟩:=h2.box;have Ef:=run_endLoop (P:=Tryz.prog) h2.L (by simp[apRec]);obtain⟨W3,CY⟩:∃W3,W2.putObj (W0.heap.size+1) (.loop { apRec fn (.func (.func g) #[] lb) w.heap.size W0.heap.size .ready none with state:=.exhausted })=W3:=⟨_,rfl⟩;rw[CY]at Ef;have Gt:W2.grownBy W3 (some (W0.heap.size+1)):=by grind[grownBy_putObj_a]
  have wC:W3.heap[w.heap.size]?=some (.cells #[v] 124 (0,0)):=by grind[World.putObj_heap_other]
  have fU:W3.heap[W0.heap.size]?=some (.deferred (some [])):=by rw[<- CY];exact(World.putObj_heap_other (by omega)).trans h2.K
  have V5:=Aj.kept Gt (ownsRow_ne_a Aj.own h2.L (λcur e=>by grind));have Gs:Below w.heap.size w W3:=h2.below.grown Gt h2.below.size (λk e=>by grind);obtain⟨PV,hf3⟩:=cell_of_box_a wC;clear CY;refine⟨none,W3,Ef,?_⟩;gi_wp2;rw[<- V7];refine⟨by simp,.inl ⟨_,_,rfl,run_takeDeferred fU,?_⟩⟩;exact⟨_,results_tmp rfl _ _ _,v,ss,rfl,hS,V5.kept (grownBy_putObj_a _ _ _) (ownsRow_ne_a V5.own fU (λcur e=>by grind)),Ej,Gs.grown (grownBy_putObj_a _ _ _) Gs.size (λk e=>by grind)⟩
def collect_in(F:Fence)(n:Nat)(h8:F.fn 86)(DZ:F.fn 142)(EU:F.round=none)(hn:3<=n)(g:Nat)(lb:Array Value)(hFg:F.fn g)(eg:∀args w,(callFunc g args).run Tryz.prog w=.ok (.enter g args) w)
  (S:List Je->Prop) (N:Nat) (hN:N<=maxLen) (wS:N*40<=140737488355328) (w:World) (Nz:SeqGives F (n-1-1) Tryz.prog g lb Sm S N w) :
  CallsIn F n Tryz.prog 86 #[.func (.func g) #[] lb] w λe w'=>∃(v:Value)(ss:List Je),e=.returned v/\S ss/\PR w' w.heap.size v ss/\(v=.slice none 0 0↔ss=[])/\Below w.heap.size w w':=by
 have h1:1<=n:=by omega
 have QA:∀args w,(callFunc 142 args).run Tryz.prog w=.ok (.enter 142 args) w:=enters_of Tryz.func142 (by kernel_rfl) rfl;refine callsIn_of_wp Tryz.func86 rfl h8 ?_ EU;simp only[Tryz.ntmps86,List.size_toArray,Lh,List.length_nil,Nat.reduceAdd,Nat.reduceSub,Array.replicate_succ,Array.replicate_zero,List.push_toArray,List.append_toArray,Gm,G9]
 gi_wp2_with (gi_at_fn 142;refine(appendSeq_in F (n-1) DZ EU (by omega) g lb hFg eg S N hN wS _ Nz).mono ?_;rintro e w' ⟨v,ss,rfl,hS,Aj,Ej,hb⟩)
 go_ret;exact⟨v,ss,rfl,hS,Aj,Ej,hb⟩
def Jig(b:Nat)(L:List (List Int × Value))(w:World)(hm:Cm w b L)(hN:L.length<=1000000) :
  Calls Tryz.prog 86 #[.func (.func 143) #[] #[JL w.heap.size]] (w.alloc (.cells #[.map (some b)] 95)) λe w'=>∃(v:Value)(ss:List Je),e=.returned v/\KeysOf L ss/\PR w' (w.heap.size+1) v ss/\(v=.slice none 0 0↔ss=[])/\Below (w.heap.size+1) (w.alloc (.cells #[.map (some b)] 95)) w':=by
 have jF:maxLen=9223372036854775807:=by decide
 have Nz:SeqGives Fence.wide 1 Tryz.prog 143 #[JL w.heap.size] Sm (KeysOf L) L.length (w.alloc (.cells #[.map (some b)] 95)):=
  keys_gives Fence.wide 1 trivial rfl (by omega) w.heap.size b L _ (by simp) (by
   simp_all) (hm.kept (J8 _ hm.lt))
 have:=collect_in Fence.wide 3 trivial trivial rfl (by omega) 143 #[JL w.heap.size] trivial (enters_of Tryz.func143 (by kernel_rfl) rfl) (KeysOf L) L.length (by omega) (by omega) _ Nz
 simp_all[size_alloc,callsIn_wide]
def Blk(fr:Bool)(w:World)(b:Nat)(arr:Array Value)(t:TypeId):Prop:=∃z,w.heap[b]?=some (.cells arr t z)/\(fr=false->z=(0,0))
def Row(fr:Bool)(w:World)(b:Nat)(t:TypeId)(k:IntKind)(xs:List Int)(cap:Nat):Prop:=
 ∃cur,Blk fr w b cur t/\cur.size=cap/\xs.length<=cap/\(∀i,i<xs.length->cur[i]?=some (.int k (xs.getD i 0)))/\Plain cur
section
variable{fr:Bool}{w w':World}{b:Nat}{arr:Array Value}{t:TypeId}{k:IntKind}{xs:List Int}{cap:Nat}
def Blk.lt(h:Blk fr w b arr t):b<w.heap.size:=by obtain⟨z,h,_⟩:=h;exact Jj h
def Blk.cell(h:Blk fr w b arr t)(i:Nat):w.cell? ⟨b,i,none⟩=arr[i]?:=by obtain⟨z,h,_⟩:=h;exact cell_of h i
theorem Blk.frozen(h:Blk false w b arr t)(i:Nat):w.frozen? ⟨b,i,none⟩=false:=by obtain⟨z,h,hz⟩:=h;cases hz rfl;exact FZ h i
def Blk.kept(h:Blk fr w b arr t)(hb:w'.heap[b]?=w.heap[b]?):Blk fr w' b arr t:=by obtain⟨z,h,hz⟩:=h;exact⟨z,hb.trans h,hz⟩
def Blk.set(h:Blk false w b arr t)(i:Nat)(v:Value):Blk false (w.setCell ⟨b,i,none⟩ v) b (arr.setIfInBounds i v) t:=by obtain⟨z,h,hz⟩:=h;cases hz rfl;exact⟨(0,0),heap_set h i v,λ_=>rfl⟩
def Blk.tch{N:Nat}{M:Nat->Prop}(h:Blk fr w b arr t)(k:Tch N M w w')(hb:b<N)(hm:¬M b):Blk fr w' b arr t:=h.kept (k.heap b hb hm)
def Row.lt(h:Row fr w b t k xs cap):b<w.heap.size:=by obtain⟨_,h,_⟩:=h;exact h.lt
def Row.cell(h:Row fr w b t k xs cap){i:Nat}(hi:i<xs.length):w.cell? ⟨b,i,none⟩=some (.int k (xs.getD i 0)):=by obtain⟨cur,h1,_,_,h4,_⟩:=h;rw[h1.cell,h4 i hi]
theorem Row.frozen(h:Row false w b t k xs cap)(i:Nat):w.frozen? ⟨b,i,none⟩=false:=by obtain⟨_,h,_⟩:=h;exact h.frozen i
def Row.kept(h:Row fr w b t k xs cap)(hb:w'.heap[b]?=w.heap[b]?):Row fr w' b t k xs cap:=by obtain⟨cur,h1,h2⟩:=h;exact⟨cur,h1.kept hb,h2⟩
def Row.tch{N:Nat}{M:Nat->Prop}(h:Row fr w b t k xs cap)(q:Tch N M w w')(hb:b<N)(hm:¬M b):Row fr w' b t k xs cap:=h.kept (q.heap b hb hm)
def Row.set(h:Row false w b t k xs cap)(i:Nat)(v:Int):Row false (w.setCell ⟨b,i,none⟩ (.int k v)) b t k (xs.set i v) cap:=by
 obtain⟨cur,h1,h2,h3,h4,h5⟩:=h;refine⟨_,h1.set i _,by grind,by grind,λj hj=>?_,h5.set i ⟨_,_,rfl⟩⟩
 grind
def Row.cells(h:Row fr w b t k xs cap):∀j u,(xs.map (Value.int k))[j]?=some u->w.cell? ⟨b,0+j,none⟩=some u:=by intro j u hj;rw[List.getElem?_map,Fh]at hj;obtain⟨x,hx,rfl⟩:=hj;have Ac:j<xs.length:=(List.getElem?_eq_some_iff.1 hx).1;rw[Nat.zero_add,h.cell Ac,C9,hx];rfl
def Row.nP{base n:Nat}{v:Value}(h:w.ownsRow base t 1 v n (xs.map (Value.int k)))(hv:v≠.slice none 0 0)(hp:Ko w v):∃g cap,v=JM g xs.length cap/\base<=g/\Row false w g t k xs cap/\cap<=maxLen:=by
 obtain⟨h0,⟨rfl,_⟩|⟨g,cap,cur,rfl,h1,h2,h3,h4,h5,h6⟩⟩:=h
 .grind
 .simp only[FQ,Nat.mul_one]at h0 h5 h6;subst h0;refine⟨g,cap,rfl,h1,⟨cur,⟨(0,0),h2,λ_=>rfl⟩,h5,h3,λi hi=>?_,hp g _ cap rfl cur t _ h2⟩,h4⟩;have:=congrArg (·[i]?) h6
  grind
end
def F8(xs ys:List Int)(k:Nat):List Int:=xs.take k++ys.drop k
theorem Rw{xs ys:List Int}(h:xs.length=ys.length)(k:Nat):(F8 xs ys k).length=ys.length:=by simp[F8];omega
theorem ZY(xs ys:List Int):F8 xs ys 0=ys:=by simp[F8]
def aA{xs ys:List Int}{n:Nat}(h:xs.length=n)(h':ys.length=n):F8 xs ys n=xs:=by
 unfold F8
 grind
def Jgj{xs ys:List Int}(h:xs.length=ys.length){k:Nat}(hk:k<ys.length):(F8 xs ys k).getD k 0=ys.getD k 0:=by
 unfold F8
 grind
def aB{xs ys:List Int}(h:xs.length=ys.length){k:Nat}(hk:k<ys.length){v:Int}(hv:v=xs.getD k 0):(F8 xs ys k).set k v=F8 xs ys (k+1):=by
 subst hv;apply List.ext_getElem?;intro i;rw[List.getElem?_set,Rw h];unfold F8
 grind
def Jhg(z:Value)(n:Nat):madeCells #[z] n=Array.replicate n z:=by
 apply Ll;intro i;by_cases h:i<n
 .simp[madeCells,h,Nat.mod_one]
 .rw[Cc (by simp[madeCells];omega),Cc (by simp;omega)]
def info5:(Tryz.prog.info? 5).map (λi=>(i.zero,i.size,i.bytes))=some (some (.int .u8 0),1,1):=by kernel_rfl
def info3:(Tryz.prog.info? 3).map (λi=>(i.zero,i.size,i.bytes))=some (some (JK 0),1,8):=by kernel_rfl
def Wh:(Tryz.prog.info? 110).map (λi=>(i.zero,i.size,i.bytes))=some (some (.int .u64 0),1,8):=by kernel_rfl
def mkRow(t e:TypeId)(k:IntKind)(vP:Nat)(ht:Tryz.prog.underlying t=some (.slice e))(hi:(Tryz.prog.info? e).map (λi=>(i.zero,i.size,i.bytes))=some (some (.int k 0),1,vP))(hb:vP<=8)(n:Nat)(hn:n<=100000)(w:World) :
  (Instr.makeSlice t (JK n) (JK n)).run Tryz.prog w=.ok (JM w.heap.size n n) (w.alloc (.cells (Array.replicate n (.int k 0)) e)):=by
 obtain⟨i0,h1,h2,h3,h4⟩:=info_parts hi;have FD:(i0.bytes:Int)*n<=281474976710656:=by
  rw[h4];have:vP*n<=8*100000:=Nat.mul_le_mul hb hn
  grind
 have:=run_makeSlice w t e i0 _ ht h1 h2 .i64 .i64 n n (by omega) (by omega) (by grind) FD (by omega);rw[h3]at this;simp only[Int.toNat_natCast,Nat.mul_one]at this;rw[this,show(Value.int k 0).cells=#[.int k 0]from rfl,Jhg]
theorem nR(w:World)(t:TypeId)(k:IntKind)(n:Nat):Row false (w.alloc (.cells (Array.replicate n (.int k 0)) t)) w.heap.size t k (List.replicate n 0) n:=by
 refine⟨_,⟨(0,0),Ja _,λ_=>rfl⟩,by simp,by simp,λi hi=>?_,.replicate ⟨_,_,rfl⟩⟩
 grind
section
variable{fr:Bool}{w:World}{b:Nat}{xs:List Int}{cap:Nat}
def Row.Gw{t:TypeId}{k:IntKind}(h:Row fr w b t k xs cap):∀j u,(xs.map (Value.int k))[j]?=some u->w.cell? ((⟨b,0,none⟩:Addr).add j)=some u:=λj u hj=>by
 have:=h.cells j u hj;rw[Nat.zero_add]at this;cases j with
 |zero=>exact this
 |succ j=>simpa[Addr.add]using this
def Jzv(h:Row fr w b 5 .u8 xs cap)(hn:xs.length<=100000)(c:Nat):Calls Tryz.prog 253 #[JM b xs.length c] w λe w'=>∃g c',e=.returned (JM g xs.length c')/\w.heap.size<=g/\Row false w' g 5 .u8 xs c'/\Tch w.heap.size M0 w w'/\c'<=maxLen:=by
 obtain⟨i0,hi,EY,DJ,DR⟩:=info_parts info5;have hm:maxLen=9223372036854775807:=by decide
 have QN:=h.Gw;have Aw:(w.alloc (.cells #[] 5)).ownsRow w.heap.size 5 1 (JM w.heap.size 0 0) 0 []:=⟨rfl,.inr ⟨w.heap.size,0,#[],rfl,Ad _,Ja _,Ad _,by omega,rfl,rfl⟩⟩;have D8:Ko (w.alloc (.cells #[] 5)) (JM w.heap.size 0 0):=λg n cap e arr t z ha=>by cases e;have hq:=ha.symm.trans (Ja (w:=w) _);cases hq;exactλv hv=>by simp at hv
 have iV:∀j u,(xs.map (Value.int .u8))[j]?=some u->(w.alloc (.cells #[] 5)).cell? ((⟨b,0,none⟩:Addr).add j)=some u:=λj u hj=>by
  refine(Du (J8 _ ?_)).trans (QN j u hj);cases j with
  |zero=>exact h.lt
  |succ j=>simpa[Addr.add]using h.lt
 have hlen:(xs.map (Value.int .u8)).length=xs.length*1:=by simp
 have EJ:∀u∈xs.map (Value.int .u8),u.oneCell'=true:=λu hu=>by obtain⟨x,_,rfl⟩:=AZ.1 hu;rfl
 have hint:∀u∈xs.map (Value.int .u8),IsInt u:=λu hu=>by obtain⟨x,_,rfl⟩:=AZ.1 hu;exact⟨_,_,rfl⟩
 have qT:∀(w:World)(a:Option Addr)(n c n' c':Nat),(binOp .eql 120 (.slice a n c) (.slice none n' c')).run Tryz.prog w=.ok (.bool a.isNone) w:=λw a n c n' c'=>Lib.run_eql_slice_nil w _ _ a n c n' c' Tryz.underlying120;generalize NC:xs.map (Value.int .u8)=news at *;generalize Y6:xs.length=n at *
 go_enter Tryz.func253,Tryz.ntmps253
 go_wp2_with (at_builtin;refine mO _ rfl _ _ 120 rfl w.heap.size 5 i0 _ 1 1 Tryz.underlying120 hi EY DJ DR rfl (by decide) _ 0 [] rfl Aw ⟨b,0,none⟩ n c news rfl hlen iV EJ (by omega) (by omega) (by simp) D8 hint (Plain.ai (k:=.u8) (xs:=[0])) ?_;intro v' w1 BD AX Ej Ny)
 go_ret;rw[Nat.zero_add,Gm,<- NC,<- Y6]at BD;have hv:v'≠.slice none 0 0:=λe=>by have:=(Ej.1 e).1;cases this
 obtain⟨g,c',rfl,h1,h2,h3⟩:=Row.nP BD hv Ny;refine⟨g,c',by simp_all,h1,h2,⟨?_,λx hx _=>?_,?_,?_,?_⟩,h3⟩
 .have:=AX.size;grind[size_alloc]
 .exact(AX.block x (by rw[size_alloc];omega) λe=>by have:=Aa e;grind).trans (J8 _ hx)
 .exact AX.tape
 .exact AX.os
 .exact AX.output
def Jih(h:Row fr w b 3 .i64 xs cap)(hn:xs.length<=100000)(c:Nat):Calls Tryz.prog 111 #[JM b xs.length c] w λe w'=>∃g c',e=.returned (JM g xs.length c')/\w.heap.size<=g/\Row false w' g 3 .i64 xs c'/\Tch w.heap.size M0 w w'/\c'<=maxLen:=by
 obtain⟨i0,hi,EY,DJ,DR⟩:=info_parts info3;have hm:maxLen=9223372036854775807:=by decide
 have QN:=h.Gw;have Aw:(w.alloc (.cells #[] 3)).ownsRow w.heap.size 3 1 (JM w.heap.size 0 0) 0 []:=⟨rfl,.inr ⟨w.heap.size,0,#[],rfl,Ad _,Ja _,Ad _,by omega,rfl,rfl⟩⟩;have D8:Ko (w.alloc (.cells #[] 3)) (JM w.heap.size 0 0):=λg n cap e arr t z ha=>by cases e;have hq:=ha.symm.trans (Ja (w:=w) _);cases hq;exactλv hv=>by simp at hv
 have iV:∀j u,(xs.map (Value.int .i64))[j]?=some u->(w.alloc (.cells #[] 3)).cell? ((⟨b,0,none⟩:Addr).add j)=some u:=λj u hj=>by
  refine(Du (J8 _ ?_)).trans (QN j u hj);cases j with
  |zero=>exact h.lt
  |succ j=>simpa[Addr.add]using h.lt
 have hlen:(xs.map (Value.int .i64)).length=xs.length*1:=by simp
 have EJ:∀u∈xs.map (Value.int .i64),u.oneCell'=true:=λu hu=>by obtain⟨x,_,rfl⟩:=AZ.1 hu;rfl
 have hint:∀u∈xs.map (Value.int .i64),IsInt u:=λu hu=>by obtain⟨x,_,rfl⟩:=AZ.1 hu;exact⟨_,_,rfl⟩
 have qT:∀(w:World)(a:Option Addr)(n c n' c':Nat),(binOp .eql 24 (.slice a n c) (.slice none n' c')).run Tryz.prog w=.ok (.bool a.isNone) w:=λw a n c n' c'=>Lib.run_eql_slice_nil w _ _ a n c n' c' Tryz.underlying24;generalize NC:xs.map (Value.int .i64)=news at *;generalize Y6:xs.length=n at *
 go_enter Tryz.func111,Tryz.ntmps111
 go_wp2_with (at_builtin;refine mO _ rfl _ _ 24 rfl w.heap.size 3 i0 _ 1 8 Tryz.underlying24 hi EY DJ DR rfl (by decide) _ 0 [] rfl Aw ⟨b,0,none⟩ n c news rfl hlen iV EJ (by omega) (by omega) (by simp) D8 hint (Plain.ai (k:=.i64) (xs:=[0])) ?_;intro v' w1 BD AX Ej Ny)
 go_ret;rw[Nat.zero_add,Gm,<- NC,<- Y6]at BD;have hv:v'≠.slice none 0 0:=λe=>by have:=(Ej.1 e).1;cases this
 obtain⟨g,c',rfl,h1,h2,h3⟩:=Row.nP BD hv Ny;refine⟨g,c',by simp_all,h1,h2,⟨?_,λx hx _=>?_,?_,?_,?_⟩,h3⟩
 .have:=AX.size;grind[size_alloc]
 .exact(AX.block x (by rw[size_alloc];omega) λe=>by have:=Aa e;grind).trans (J8 _ hx)
 .exact AX.tape
 .exact AX.os
 .exact AX.output
theorem Jlj(h:Row fr w b 110 .u64 xs cap)(hn:xs.length<=100000)(c:Nat):Calls Tryz.prog 214 #[JM b xs.length c] w λe w'=>∃g c',e=.returned (JM g xs.length c')/\w.heap.size<=g/\Row false w' g 110 .u64 xs c'/\Tch w.heap.size M0 w w'/\c'<=maxLen:=by
 obtain⟨i0,hi,EY,DJ,DR⟩:=info_parts Wh;have hm:maxLen=9223372036854775807:=by decide
 have QN:=h.Gw;have Aw:(w.alloc (.cells #[] 110)).ownsRow w.heap.size 110 1 (JM w.heap.size 0 0) 0 []:=⟨rfl,.inr ⟨w.heap.size,0,#[],rfl,Ad _,Ja _,Ad _,by omega,rfl,rfl⟩⟩;have D8:Ko (w.alloc (.cells #[] 110)) (JM w.heap.size 0 0):=λg n cap e arr t z ha=>by cases e;have hq:=ha.symm.trans (Ja (w:=w) _);cases hq;exactλv hv=>by simp at hv
 have iV:∀j u,(xs.map (Value.int .u64))[j]?=some u->(w.alloc (.cells #[] 110)).cell? ((⟨b,0,none⟩:Addr).add j)=some u:=λj u hj=>by
  refine(Du (J8 _ ?_)).trans (QN j u hj);cases j with
  |zero=>exact h.lt
  |succ j=>simpa[Addr.add]using h.lt
 have hlen:(xs.map (Value.int .u64)).length=xs.length*1:=by simp
 have EJ:∀u∈xs.map (Value.int .u64),u.oneCell'=true:=λu hu=>by obtain⟨x,_,rfl⟩:=AZ.1 hu;rfl
 have hint:∀u∈xs.map (Value.int .u64),IsInt u:=λu hu=>by obtain⟨x,_,rfl⟩:=AZ.1 hu;exact⟨_,_,rfl⟩
 have qT:∀(w:World)(a:Option Addr)(n c n' c':Nat),(binOp .eql 36 (.slice a n c) (.slice none n' c')).run Tryz.prog w=.ok (.bool a.isNone) w:=λw a n c n' c'=>Lib.run_eql_slice_nil w _ _ a n c n' c' Tryz.underlying36;generalize NC:xs.map (Value.int .u64)=news at *;generalize Y6:xs.length=n at *
 go_enter Tryz.func214,Tryz.ntmps214
 go_wp2_with (at_builtin;refine mO _ rfl _ _ 36 rfl w.heap.size 110 i0 _ 1 8 Tryz.underlying36 hi EY DJ DR rfl (by decide) _ 0 [] rfl Aw ⟨b,0,none⟩ n c news rfl hlen iV EJ (by omega) (by omega) (by simp) D8 hint (Plain.ai (k:=.u64) (xs:=[0])) ?_;intro v' w1 BD AX Ej Ny)
 go_ret;rw[Nat.zero_add,Gm,<- NC,<- Y6]at BD;have hv:v'≠.slice none 0 0:=λe=>by have:=(Ej.1 e).1;cases this
 obtain⟨g,c',rfl,h1,h2,h3⟩:=Row.nP BD hv Ny;refine⟨g,c',by simp_all,h1,h2,⟨?_,λx hx _=>?_,?_,?_,?_⟩,h3⟩
 .have:=AX.size;grind[size_alloc]
 .exact(AX.block x (by rw[size_alloc];omega) λe=>by have:=Aa e;grind).trans (J8 _ hx)
 .exact AX.tape
 .exact AX.os
 .exact AX.output
end
def J03x(v:Value)(w:World):(Instr.typeAssert (.iface 186 v) 128 186 false).run Tryz.prog w=.ok v w:=by unfold Instr.typeAssert;simp[go_sem]
def J03y(v:Value)(w:World):(Instr.typeAssert (.iface 189 v) 128 189 false).run Tryz.prog w=.ok v w:=by unfold Instr.typeAssert;simp[go_sem]
def J03z(v:Value)(w:World):(Instr.typeAssert (.iface 192 v) 128 192 false).run Tryz.prog w=.ok v w:=by unfold Instr.typeAssert;simp[go_sem]
structure DV(fr:Bool)(w:World)(b r cap:Nat)(bits:Int)(rs:List Int):Prop where
 hd:Blk fr w b #[JK bits,JM r rs.length cap] 188
 row:Row fr w r 5 .u8 rs cap
def Tch.bW{N:Nat}{M:Nat->Prop}{w w':World}(h:Tch N M w.drew w'):Tch N M w w':=⟨h.size,h.heap,h.tape,h.os,h.output⟩
def Jso{w w':World}{g c':Nat}{bits:Int}{rs:List Int}(hg:w.heap.size<=g)(Aj:Row false w' g 5 .u8 rs c')(ht:Tch w.heap.size M0 w w') :
  ∃b' r' c2,Ending.returned (Value.iface 186 (JL w'.heap.size))=.returned (.iface 186 (JL b'))/\w.heap.size<=b'/\w.heap.size<=r'/\b'≠r'/\DV false (w'.alloc (.cells #[JK bits,JM g rs.length c'] 188)) b' r' c2 bits rs/\Tch w.heap.size M0 w (w'.alloc (.cells #[JK bits,JM g rs.length c'] 188)):=
 ⟨_,g,c',rfl,ht.size,hg,by have:=Aj.lt;omega,⟨⟨(0,0),Ja _,λ_=>rfl⟩,Aj.kept (J8 _ Aj.lt)⟩,ht.alloc ht.size _⟩
section
variable{fr:Bool}{w w':World}{b r cap:Nat}{bits:Int}{rs:List Int}
def DV.kept(h:DV fr w b r cap bits rs)(h1:w'.heap[b]?=w.heap[b]?)(h2:w'.heap[r]?=w.heap[r]?):DV fr w' b r cap bits rs:=⟨h.hd.kept h1,h.row.kept h2⟩
def DV.c0(h:DV fr w b r cap bits rs):w.cell? ⟨b,0,none⟩=some (JK bits):=(h.hd.cell 0).trans rfl
def DV.c1(h:DV fr w b r cap bits rs):w.cell? ⟨b,1,none⟩=some (JM r rs.length cap):=(h.hd.cell 1).trans rfl
def Jxl(h:DV fr w b r cap bits rs)(hn:rs.length<=1000) :
  Calls Tryz.prog 249 #[JL b] w λe w'=>∃b' r' c',e=.returned (.iface 186 (JL b'))/\w.heap.size<=b'/\w.heap.size<=r'/\b'≠r'/\DV false w' b' r' c' bits rs/\Tch w.heap.size M0 w w':=by
 have c0:=h.c0;have c1:=h.c1;have BA:=Jzv (w:=w.drew) (h.row.kept rfl) (by omega) cap;have hb:=h.hd.lt;have hr:=h.row.lt
 go_enter Tryz.func249,Tryz.ntmps249
 go_wp2
 go_region_with (go_at_call 253;refine BA.mono ?_;rintro e w' ⟨g,c',rfl,hg,Aj,ht,_⟩;have d0:=(ht.cell (a:=⟨b,0,none⟩) hb (λx=>x)).trans c0;have d1:=(ht.cell (a:=⟨b,1,none⟩) hb (λx=>x)).trans c1)
 all_goals go_wp2
 all_goals go_ret
 all_goals exact Jso hg Aj ht.bW
end
end Go.Sim.Z
