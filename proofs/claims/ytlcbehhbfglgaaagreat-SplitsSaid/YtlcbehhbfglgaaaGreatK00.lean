/- Proved here: laws for the claim. No conditions. -/
import Derived.Shelf.SlSortCmp.NoneTotal
import Derived.Ground.SlsfProg
import Derived.Shelf.SlIterI.Collect
import Derived.Ground.GgzProg
import Derived.Shelf.Small.Bits
import Derived.Shelf.Small.Wraps
import Derived.Shelf.Strconv.Itoa0
import Derived.Ground.Names2Prog
import Derived.Shelf.Slices.Clone
import Derived.Shelf.Slices.SearchI
import Derived.Shelf.Slices.Empties
import Derived.Ground.SlgnProg
import Derived.Shelf.SlicesE.Clone
import Derived.Ground.SlgfProg
import Derived.Shelf.SlicesE.IndexFunc
import Derived.Shelf.SlicesE.DeleteFunc
import Derived.Test.YtlcbehhbfglgaaaGreatProg
import Derived.WalkKit
import Derived.LoopTactic
import Derived.Below
import Derived.Sort.Grow
import Derived.Deep.Draws
import Derived.Maps.AppendAt
import Derived.OwnWalkIn
import Derived.Deep.RegionWith
import Derived.DeepKeys4
import Derived.Maps.OwnOps
import Derived.Maps.OwnIn
import Derived.RangeFuncSeq
import Derived.RangeFuncGives
import Derived.Sort.MapsRangeIn
import Derived.Sort.KeysCollected
import Derived.Shelf.AbstractIn
import Derived.TacticsInMore
import Derived.RegionIn
import Derived.LoopNIn
import Derived.LoopIn
import Derived.Shelf.SlIter.Collect
import Derived.Test.YtlcbehhbfglgaaaGreatKA
set_option linter.all false
set_option maxHeartbeats 2000000
set_option maxRecDepth 100000
namespace Go.Proofs
open Go.Shelf
def Tryz.lays134_ren:Go.Shelf.Ren:=⟨λ|134=>160|129=>113|n=>n,λ|53=>45|3=>3|4=>4|46=>129|5=>5|9=>9|n=>n,λ|n=>n⟩
theorem Tryz.lays134:Go.Proofs.Lays.n134 Tryz.prog Tryz.lays134_ren:={
 mixed:=by kernel_rfl
 f129:=Tryz.func113.trans (congrArg some (by kernel_rfl))
 f134:=Tryz.func160.trans (congrArg some (by kernel_rfl))
 t3:=Tryz.underlying3
 a3:=Tryz.isAgg3
 z3:=Tryz.sizeOf3
 v3:=Tryz.zeroValue3
 t4:=Tryz.underlying4
 a4:=Tryz.isAgg4
 z4:=Tryz.sizeOf4
 v4:=Tryz.zeroValue4
 t5:=Tryz.underlying5
 a5:=Tryz.isAgg5
 z5:=Tryz.sizeOf5
 v5:=Tryz.zeroValue5
 t9:=Tryz.underlying9
 a9:=Tryz.isAgg9
 z9:=Tryz.sizeOf9
 v9:=Tryz.zeroValue9
 t46:=Tryz.underlying129
 a46:=Tryz.isAgg129
 z46:=Tryz.sizeOf129
 v46:=Tryz.zeroValue129
 t53:=Tryz.underlying45
 a53:=Tryz.isAgg45
 z53:=Tryz.sizeOf45
 v53:=Tryz.zeroValue45 }
theorem Tryz.bits_LeadingZeros64(x:Int)(w:World)(h0:0<=x)(h1:x<=18446744073709551615) :
  Calls Tryz.prog 160 #[.int .u64 x] w λe w'=>e=.returned (.int .i64 (64-(Lib.bitLen x.toNat:Int)))/\w'=w:=Any.bits_LeadingZeros64 Tryz.lays134 x w h0 h1
def Tryz.lays122_ren:Go.Shelf.Ren:=⟨λ|122=>103|215=>128|n=>n,λ|3=>3|4=>4|n=>n,λ|n=>n⟩
theorem Tryz.lays122:Go.Proofs.Lays.n122 Tryz.prog Tryz.lays122_ren:={
 mixed:=by kernel_rfl
 f122:=Tryz.func103.trans (congrArg some (by kernel_rfl))
 f215:=Tryz.func128.trans (congrArg some (by kernel_rfl))
 t3:=Tryz.underlying3
 a3:=Tryz.isAgg3
 z3:=Tryz.sizeOf3
 v3:=Tryz.zeroValue3
 t4:=Tryz.underlying4
 a4:=Tryz.isAgg4
 z4:=Tryz.sizeOf4
 v4:=Tryz.zeroValue4 }
open Go.RowKit in
theorem Tryz.cmp_Compare_int(x y:Int)(w:World) :
  Calls Tryz.prog 103 #[.int .i64 x,.int .i64 y] w λe w'=>e=.returned (.int .i64 (Lib.compareInt x y))/\w'=w:=Any.cmp_Compare_int Tryz.lays122 x y w
def Tryz.laysNm225_ren:Go.Shelf.Ren:=⟨λ|25=>167|31=>120|32=>169|37=>128|n=>n,λ|22=>33|3=>3|4=>4|40=>129|0=>0|n=>n,λ|n=>n⟩
theorem Tryz.laysNm225:Go.Proofs.Lays2.n25 Tryz.prog Tryz.laysNm225_ren:={
 mixed:=by kernel_rfl
 f25:=Tryz.func167.trans (congrArg some (by kernel_rfl))
 f31:=Tryz.func120.trans (congrArg some (by kernel_rfl))
 f32:=Tryz.func169.trans (congrArg some (by kernel_rfl))
 f37:=Tryz.func128.trans (congrArg some (by kernel_rfl))
 t0:=Tryz.underlying0
 a0:=Tryz.isAgg0
 z0:=Tryz.sizeOf0
 v0:=Tryz.zeroValue0
 t3:=Tryz.underlying3
 a3:=Tryz.isAgg3
 z3:=Tryz.sizeOf3
 v3:=Tryz.zeroValue3
 t4:=Tryz.underlying4
 a4:=Tryz.isAgg4
 z4:=Tryz.sizeOf4
 v4:=Tryz.zeroValue4
 t22:=Tryz.underlying33
 a22:=Tryz.isAgg33
 z22:=Tryz.sizeOf33
 v22:=Tryz.zeroValue33
 t40:=Tryz.underlying129
 a40:=Tryz.isAgg129
 z40:=Tryz.sizeOf129
 v40:=Tryz.zeroValue129 }
open Go.RowKit Go.Lib in
theorem Tryz.slices_BinarySearch_int(b off n c:Nat)(zs:List Int)(x:Int)(w:World)(hz:n<=zs.length)(Po:n<4611686018427387904)(hc:∀j,j<zs.length->w.cell? ⟨b,off+j,none⟩=some (.int .i64 (zs.getD j 0)))(hs:(zs.take n).Pairwise (·<=·)) :
  Calls Tryz.prog 167 #[.slice (some ⟨b,off,none⟩) n c,.int .i64 x] w λe w'=>e=.returned (.tuple #[.int .i64 ((zs.take n).countP (· < x):Nat),.bool ((zs.take n).contains x)])/\∃q,w'=w.drewN q:=Any.slices_BinarySearch_int Tryz.laysNm225 b off n c zs x w hz Po hc hs
open Go.RowKit Go.Lib in
theorem Tryz.slices_BinarySearch_int_empty(a:Option Addr)(c:Nat)(x:Int)(w:World) :
  Calls Tryz.prog 167 #[.slice a 0 c,.int .i64 x] w λe w'=>e=.returned (.tuple #[.int .i64 0,.bool false])/\w'=w:=Any.slices_BinarySearch_int_empty Tryz.laysNm225 a c x w
def Tryz.laysSlH8_f20_ren:Go.Shelf.Ren:=⟨λ|8=>20|6=>53|n=>n,λ|22=>33|23=>3|25=>66|4=>4|3=>3|0=>0|n=>n,λ|n=>n⟩
theorem Tryz.laysSlH8_f20:Go.Proofs.SlLaysH.n8 Tryz.prog Tryz.laysSlH8_f20_ren:={
 mixed:=by kernel_rfl
 f6:=⟨Tryz.f53.name,by decide,Tryz.func53.trans (congrArg some (by kernel_rfl))⟩
 f8:=⟨Tryz.f20.name,by decide,Tryz.func20.trans (congrArg some (by kernel_rfl))⟩
 t0:=Tryz.underlying0
 a0:=Tryz.isAgg0
 z0:=Tryz.sizeOf0
 v0:=Tryz.zeroValue0
 t3:=Tryz.underlying3
 a3:=Tryz.isAgg3
 z3:=Tryz.sizeOf3
 v3:=Tryz.zeroValue3
 t4:=Tryz.underlying4
 a4:=Tryz.isAgg4
 z4:=Tryz.sizeOf4
 v4:=Tryz.zeroValue4
 t22:=Tryz.underlying33
 a22:=Tryz.isAgg33
 z22:=Tryz.sizeOf33
 v22:=Tryz.zeroValue33
 a23:=Tryz.isAgg3
 z23:=Tryz.sizeOf3
 t25:=Tryz.underlying66
 a25:=Tryz.isAgg66
 z25:=Tryz.sizeOf66
 v25:=Tryz.zeroValue66 }
open Go.RowKit Go.Lib in
theorem Tryz.slices_ContainsFunc{α:Type}[Inhabited α](enc:α->Value)(p:α->Bool)(g:Nat)(lb:Array Value)(eg:∀args w,(callFunc g args).run Tryz.prog w=.ok (.enter g args) w)(b off n c:Nat)(zs:List α)(w:World)(hp:PredAt Tryz.prog g lb enc p w)(hz:n<=zs.length)(Po:n<=9223372036854775807)(hc:∀j,j<zs.length->w.cell? ⟨b,off+j,none⟩=some (enc zs[j]!)) :
  Calls Tryz.prog 20 #[.slice (some ⟨b,off,none⟩) n c,.func (.func g) #[] lb] w λe w'=>e=.returned (.bool ((zs.take n).any p))/\∃q,w'=w.drewN q:=AnyE.slices_ContainsFunc Tryz.laysSlH8_f20 enc p g lb eg b off n c zs w hp hz Po hc
def Tryz.laysSlH10_f67_ren:Go.Shelf.Ren:=⟨λ|10=>67|6=>53|n=>n,λ|22=>33|23=>3|25=>66|3=>3|4=>4|0=>0|n=>n,λ|n=>n⟩
theorem Tryz.laysSlH10_f67:Go.Proofs.SlLaysH.n10 Tryz.prog Tryz.laysSlH10_f67_ren:={
 mixed:=by kernel_rfl
 f6:=⟨Tryz.f53.name,by decide,Tryz.func53.trans (congrArg some (by kernel_rfl))⟩
 f10:=⟨Tryz.f67.name,by decide,Tryz.func67.trans (congrArg some (by kernel_rfl))⟩
 t0:=Tryz.underlying0
 a0:=Tryz.isAgg0
 z0:=Tryz.sizeOf0
 v0:=Tryz.zeroValue0
 t3:=Tryz.underlying3
 a3:=Tryz.isAgg3
 z3:=Tryz.sizeOf3
 v3:=Tryz.zeroValue3
 t4:=Tryz.underlying4
 a4:=Tryz.isAgg4
 z4:=Tryz.sizeOf4
 v4:=Tryz.zeroValue4
 t22:=Tryz.underlying33
 a22:=Tryz.isAgg33
 z22:=Tryz.sizeOf33
 v22:=Tryz.zeroValue33
 a23:=Tryz.isAgg3
 z23:=Tryz.sizeOf3
 t25:=Tryz.underlying66
 a25:=Tryz.isAgg66
 z25:=Tryz.sizeOf66
 v25:=Tryz.zeroValue66 }
open Go.RowKit Go.Lib Go.Sort in
theorem Tryz.slices_DeleteFunc{α:Type}[Inhabited α](enc:α->Value)(hO:OneCell enc)(p:α->Bool)(g:Nat)(lb:Array Value)(eg:∀args w,(callFunc g args).run Tryz.prog w=.ok (.enter g args) w)(zr:α)(v23:∀w,(zeroValue 3).run Tryz.prog w=.ok (enc zr) w)(blk off cap:Nat)(d:Array α)(w:World)(hp:PredAt Tryz.prog g lb enc p w)(hpo:PredOver Tryz.prog g lb enc p blk off d.size w)(hH:Holds enc w blk off d)(Ae:d.size<=9223372036854775807)(PK:d.size<=cap) :
  Calls Tryz.prog 67 #[.slice (some ⟨blk,off,none⟩) d.size cap,.func (.func g) #[] lb] w λe w'=>e=.returned (.slice (some ⟨blk,off,none⟩) (d.toList.filter λx=>!p x).length cap)/\∃q,w'=putRow enc (Sort.ahead w q) blk off ((d.toList.filter λx=>!p x)++List.replicate (d.size-(d.toList.filter λx=>!p x).length) zr).toArray:=AnyE.slices_DeleteFunc Tryz.laysSlH10_f67 enc hO p g lb eg zr v23 blk off cap d w hp hpo hH Ae PK
def Tryz.sortK_ren:Go.Shelf.Ren:=⟨λ|6=>57|15=>76|14=>75|28=>112|29=>113|20=>104|21=>105|22=>106|23=>107|24=>108|25=>109|26=>110|27=>111|46=>129|47=>130|48=>131|49=>132|50=>133|57=>137|n=>n,λ|22=>88|24=>76|25=>135|3=>3|39=>129|0=>0|53=>101|55=>45|4=>4|46=>181|45=>180|50=>185|5=>5|9=>9|66=>203|70=>206|76=>210|77=>211|n=>n,λ|n=>n⟩
theorem Tryz.sortK:Go.Proofs.SlLaysF0.n6 Tryz.prog Tryz.sortK_ren:={
 mixed:=by kernel_rfl
 f6:=⟨Tryz.f57.name,by decide,Tryz.func57.trans (congrArg some (by kernel_rfl))⟩
 f14:=⟨Tryz.f75.name,by decide,Tryz.func75.trans (congrArg some (by kernel_rfl))⟩
 f15:=Tryz.func76.trans (congrArg some (by kernel_rfl))
 f20:=⟨Tryz.f104.name,by decide,Tryz.func104.trans (congrArg some (by kernel_rfl))⟩
 f21:=⟨Tryz.f105.name,by decide,Tryz.func105.trans (congrArg some (by kernel_rfl))⟩
 f22:=⟨Tryz.f106.name,by decide,Tryz.func106.trans (congrArg some (by kernel_rfl))⟩
 f23:=⟨Tryz.f107.name,by decide,Tryz.func107.trans (congrArg some (by kernel_rfl))⟩
 f24:=⟨Tryz.f108.name,by decide,Tryz.func108.trans (congrArg some (by kernel_rfl))⟩
 f25:=⟨Tryz.f109.name,by decide,Tryz.func109.trans (congrArg some (by kernel_rfl))⟩
 f26:=⟨Tryz.f110.name,by decide,Tryz.func110.trans (congrArg some (by kernel_rfl))⟩
 f27:=⟨Tryz.f111.name,by decide,Tryz.func111.trans (congrArg some (by kernel_rfl))⟩
 f28:=Tryz.func112.trans (congrArg some (by kernel_rfl))
 f29:=Tryz.func113.trans (congrArg some (by kernel_rfl))
 f46:=⟨Tryz.f129.name,by decide,Tryz.func129.trans (congrArg some (by kernel_rfl))⟩
 f47:=Tryz.func130.trans (congrArg some (by kernel_rfl))
 f48:=Tryz.func131.trans (congrArg some (by kernel_rfl))
 f49:=⟨Tryz.f132.name,by decide,Tryz.func132.trans (congrArg some (by kernel_rfl))⟩
 f50:=⟨Tryz.f133.name,by decide,Tryz.func133.trans (congrArg some (by kernel_rfl))⟩
 f57:=⟨Tryz.f137.name,by decide,Tryz.func137.trans (congrArg some (by kernel_rfl))⟩
 t0:=Tryz.underlying0
 a0:=Tryz.isAgg0
 z0:=Tryz.sizeOf0
 v0:=Tryz.zeroValue0
 t3:=Tryz.underlying3
 a3:=Tryz.isAgg3
 z3:=Tryz.sizeOf3
 v3:=Tryz.zeroValue3
 t4:=Tryz.underlying4
 a4:=Tryz.isAgg4
 z4:=Tryz.sizeOf4
 v4:=Tryz.zeroValue4
 t5:=Tryz.underlying5
 a5:=Tryz.isAgg5
 z5:=Tryz.sizeOf5
 v5:=Tryz.zeroValue5
 t9:=Tryz.underlying9
 a9:=Tryz.isAgg9
 z9:=Tryz.sizeOf9
 v9:=Tryz.zeroValue9
 t22:=Tryz.underlying88
 a22:=Tryz.isAgg88
 z22:=Tryz.sizeOf88
 v22:=Tryz.zeroValue88
 t25:=Tryz.underlying135
 a25:=Tryz.isAgg135
 z25:=Tryz.sizeOf135
 v25:=Tryz.zeroValue135
 t39:=Tryz.underlying129
 a39:=Tryz.isAgg129
 z39:=Tryz.sizeOf129
 v39:=Tryz.zeroValue129
 t45:=Tryz.underlying180
 a45:=Tryz.isAgg180
 z45:=Tryz.sizeOf180
 v45:=Tryz.zeroValue180
 t46:=Tryz.underlying181
 a46:=Tryz.isAgg181
 z46:=Tryz.sizeOf181
 v46:=Tryz.zeroValue181
 t50:=Tryz.underlying185
 a50:=Tryz.isAgg185
 z50:=Tryz.sizeOf185
 v50:=Tryz.zeroValue185
 t53:=Tryz.underlying101
 a53:=Tryz.isAgg101
 z53:=Tryz.sizeOf101
 v53:=Tryz.zeroValue101
 t55:=Tryz.underlying45
 a55:=Tryz.isAgg45
 z55:=Tryz.sizeOf45
 v55:=Tryz.zeroValue45
 t66:=Tryz.underlying203
 a66:=Tryz.isAgg203
 z66:=Tryz.sizeOf203
 v66:=Tryz.zeroValue203
 t70:=Tryz.underlying206
 a70:=Tryz.isAgg206
 z70:=Tryz.sizeOf206
 v70:=Tryz.zeroValue206
 t76:=Tryz.underlying210
 a76:=Tryz.isAgg210
 z76:=Tryz.sizeOf210
 v76:=Tryz.zeroValue210
 t77:=Tryz.underlying211
 a77:=Tryz.isAgg211
 z77:=Tryz.sizeOf211
 v77:=Tryz.zeroValue211 }
def Tryz.collectI_ren:Go.Shelf.Ren:=⟨λ|8=>59|11=>78|n=>n,λ|26=>3|28=>99|24=>33|0=>0|33=>66|4=>4|n=>n,λ|n=>n⟩
theorem Tryz.collectI:Go.Proofs.SlLaysZI.n8 Tryz.prog Tryz.collectI_ren:={
 mixed:=by kernel_rfl
 f8:=⟨Tryz.f59.name,by decide,Tryz.func59.trans (congrArg some (by kernel_rfl))⟩
 f11:=⟨Tryz.f78.name,by decide,Tryz.func78.trans (congrArg some (by kernel_rfl))⟩
 t0:=Tryz.underlying0
 a0:=Tryz.isAgg0
 z0:=Tryz.sizeOf0
 v0:=Tryz.zeroValue0
 t24:=Tryz.underlying33
 a24:=Tryz.isAgg33
 z24:=Tryz.sizeOf33
 v24:=Tryz.zeroValue33
 t26:=Tryz.underlying3
 a26:=Tryz.isAgg3
 z26:=Tryz.sizeOf3
 v26:=Tryz.zeroValue3
 t28:=Tryz.underlying99
 a28:=Tryz.isAgg99
 z28:=Tryz.sizeOf99
 v28:=Tryz.zeroValue99
 i26:=by kernel_rfl }
def Tryz.keysI_ren:Go.Shelf.Ren:=⟨λ|10=>61|n=>n,λ|33=>66|23=>62|0=>0|4=>4|26=>3|3=>70|n=>n,λ|n=>n⟩
theorem Tryz.keysI:Go.Proofs.SlLaysZI.n10 Tryz.prog Tryz.keysI_ren:={
 mixed:=by kernel_rfl
 f10:=⟨Tryz.f61.name,by decide,Tryz.func61.trans (congrArg some (by kernel_rfl))⟩
 t0:=Tryz.underlying0
 a0:=Tryz.isAgg0
 z0:=Tryz.sizeOf0
 v0:=Tryz.zeroValue0
 t4:=Tryz.underlying4
 a4:=Tryz.isAgg4
 z4:=Tryz.sizeOf4
 v4:=Tryz.zeroValue4
 t23:=Tryz.underlying62
 a23:=Tryz.isAgg62
 z23:=Tryz.sizeOf62
 v23:=Tryz.zeroValue62
 t26:=Tryz.underlying3
 a26:=Tryz.isAgg3
 z26:=Tryz.sizeOf3
 v26:=Tryz.zeroValue3
 t33:=Tryz.underlying66
 a33:=Tryz.isAgg66
 z33:=Tryz.sizeOf66
 v33:=Tryz.zeroValue66 }
end Go.Proofs
namespace Go.Sim.Z
open Go Go.Proofs Go.RowKit
structure Tch(N:Nat)(M:Nat->Prop)(w w':World):Prop where
 size:w.heap.size<=w'.heap.size
 heap:∀b,b<N->¬M b->w'.heap[b]?=w.heap[b]?
 tape:w'.tape=w.tape
 os:w'.os=w.os
 output:w'.output=w.output
def M0:Nat->Prop:=λ_=>False
section
variable{N N':Nat}{M M':Nat->Prop}{w w1 w2:World}{b:Nat}
theorem Tch.refl:Tch N M w w:=⟨Ad _,λ_ _ _=>rfl,rfl,rfl,rfl⟩
theorem Tch.trans(h:Tch N M w w1)(k:Tch N M w1 w2):Tch N M w w2:=⟨BL h.size k.size,λb hb hm=>(k.heap b hb hm).trans (h.heap b hb hm),k.tape.trans h.tape,k.os.trans h.os,k.output.trans h.output⟩
theorem Tch.mono(h:Tch N M w w1)(hN:N'<=N)(hM:∀b,b<N'->M b->M' b):Tch N' M' w w1:=⟨h.size,λb hb hm=>h.heap b (by omega) λhx=>hm (hM b hb hx),h.tape,h.os,h.output⟩
theorem Tch.drew(h:Tch N M w w1):Tch N M w w1.drew:=⟨h.size,h.heap,h.tape,h.os,h.output⟩
theorem Tch.alloc(h:Tch N M w w1)(hN:N<=w1.heap.size)(o:Obj):Tch N M w (w1.alloc o):=
 ⟨BL h.size (by simp),λb hb hm=>(Below.heap_alloc _ _ _ (by omega)).trans (h.heap b hb hm),h.tape,h.os,h.output⟩
theorem Tch.set(h:Tch N M w w1){a:Addr}(ha:N<=a.block\/M a.block)(v:Value):Tch N M w (w1.setCell a v):=
 ⟨BL h.size (by simp[World.setCell]),λb hb hm=>(Below.heap_setCell _ _ _ _ (by rintro rfl;rcases ha with ha|ha;omega;exact hm ha)).trans (h.heap b hb hm),h.tape,h.os,h.output⟩
theorem Tch.cell(h:Tch N M w w1){a:Addr}(ha:a.block<N)(hm:¬M a.block):w1.cell? a=w.cell? a:=DX (w:=w) (h.heap _ ha hm)
theorem Tch.of_below(h:Below N w w1):Tch N M w w1:=⟨h.size,λb hb _=>h.block b hb,h.tape,h.os,h.output⟩
theorem Tch.then(h:Tch N M w w1)(k:Tch w1.heap.size M' w1 w2)(hN:N<=w1.heap.size)(hM:∀b,b<N->M' b->M b):Tch N M w w2:=
 h.trans (k.mono hN hM)
theorem Tch.grown(h:Tch w.heap.size M0 w w1)(h6:w.drawn<=w1.drawn):∃q os,w1=Sort.grow (w.drewN q) os:=by
 refine⟨w1.drawn-w.drawn,w1.heap.extract w.heap.size w1.heap.size,?_⟩;obtain⟨h1,h2,h3,h4,h5⟩:=h;have e:w1.heap=w.heap++w1.heap.extract w.heap.size w1.heap.size:=by
  apply Nv;intro i;rw[Array.getElem?_append];split
  ·rename_i hi;exact h2 i hi (λh=>h)
  ·rename_i hi;rw[Array.getElem?_extract];split
   ·congr 1;omega
   ·rw[DK (by omega)]
 have ed:w.drawn+(w1.drawn-w.drawn)=w1.drawn:=by omega
 obtain⟨a1,a2,a3,a4,a5⟩:=w1;simp only at h3 h4 h5 ed e;subst h3 h4 h5;simp only[Sort.grow,World.drewN,ed];congr 1
theorem cell_of{arr:Array Value}{t:TypeId}{z:Nat × Nat}(h:w.heap[b]?=some (.cells arr t z))(i:Nat):w.cell? ⟨b,i,none⟩=arr[i]?:=by simp[World.cell?,h]
theorem Gs{arr:Array Value}{t:TypeId}(h:w.heap[b]?=some (.cells arr t))(i:Nat):w.frozen? ⟨b,i,none⟩=false:=by simp[World.frozen?,h]
theorem heap_set{arr:Array Value}{t:TypeId}(h:w.heap[b]?=some (.cells arr t))(i:Nat)(v:Value):(w.setCell ⟨b,i,none⟩ v).heap[b]?=some (.cells (arr.setIfInBounds i v) t):=by simp only[World.setCell,Array.getElem?_modify,if_true,h,Option.map_some];simp
theorem Jk(a:Addr)(v:Value)(h:b≠a.block):(w.setCell a v).heap[b]?=w.heap[b]?:=Below.heap_setCell _ _ _ _ h
theorem Ja(o:Obj):(w.alloc o).heap[w.heap.size]?=some o:=by show(w.heap.push o)[w.heap.size]?=_;simp
theorem J7(o:Obj){b:Nat}(h:b<w.heap.size):(w.alloc o).heap[b]?=w.heap[b]?:=Below.heap_alloc _ _ _ h
theorem size_alloc(o:Obj):(w.alloc o).heap.size=w.heap.size+1:=by show(w.heap.push o).size=_;simp
theorem size_set(a:Addr)(v:Value):(w.setCell a v).heap.size=w.heap.size:=by simp[World.setCell]
theorem Ji{o:Obj}(h:w.heap[b]?=some o):b<w.heap.size:=(BQ.1 h).1
end
def ai(k:IntKind)(xs:List Int):Array Value:=(xs.map (Value.int k)).toArray
section
variable{k:IntKind}{xs:List Int}
@[simp] theorem Jv0:(ai k xs).size=xs.length:=by simp[ai]
theorem Jhj(i:Nat):(ai k xs)[i]?=(xs[i]?).map (Value.int k):=by simp[ai]
theorem Jar{i:Nat}(h:i<xs.length):(ai k xs)[i]?=some (.int k (xs.getD i 0)):=by rw[Jhj,Dh h,CP,Dh h];rfl
theorem Jwl{i:Nat}(v:Int):(ai k xs).setIfInBounds i (.int k v)=ai k (xs.set i v):=by
 apply Nv;intro j;rw[FC,Jhj,Jhj,List.getElem?_set];by_cases h:i=j
 ·subst h;simp only[if_true,Jv0];split<;>simp_all
 ·simp[h]
end
def IsInt(v:Value):Prop:=∃k n,v=.int k n
def Plain(cur:Array Value):Prop:=∀v∈cur.toList,IsInt v
theorem Plain.at{cur:Array Value}(h:Plain cur){i:Nat}{v:Value}(hv:cur[i]?=some v):IsInt v:=h v (Array.mem_toList_iff.2 (IX hv))
theorem Plain.VU{cur:Array Value}(h:∀(i:Nat) v,cur[i]?=some v->IsInt v):Plain cur:=λv hv=>by obtain⟨i,hi,rfl⟩:=List.getElem_of_mem hv;exact h i _ (by simp at hi;simp[hi])
theorem Plain.set{cur:Array Value}(h:Plain cur)(i:Nat){v:Value}(hv:IsInt v):Plain (cur.setIfInBounds i v):=.VU λj u hu=>by
 rw[FC]at hu;split at hu
 ·split at hu
  ·cases hu;exact hv
  ·cases hu
 ·exact h.at hu
theorem Plain.append{a b:Array Value}(h:Plain a)(k:Plain b):Plain (a++b):=λv hv=>by rw[Array.toList_append,FY]at hv;exact hv.elim (h v) (k v)
theorem Plain.replicate{n:Nat}{v:Value}(h:IsInt v):Plain (Array.replicate n v):=λu hu=>by simp only[Array.toList_replicate]at hu;rw[List.eq_of_mem_replicate hu];exact h
theorem Plain.list{l:List Value}(h:∀v∈l,IsInt v):Plain l.toArray:=λv hv=>h v (by simpa using hv)
theorem Plain.ai{k:IntKind}{xs:List Int}:Plain (ai k xs):=.list λv hv=>by obtain⟨x,_,rfl⟩:=AY.1 hv;exact⟨_,_,rfl⟩
theorem Plain.madeCells{zs:Array Value}(h:Plain zs)(n:Nat):Plain (Builtin.zeroCells zs n):=λv hv=>by
 unfold Builtin.zeroCells at hv;rw[Array.toList_map]at hv;obtain⟨i,hi,rfl⟩:=AY.1 hv;have Ac:i<n*zs.size:=by simpa using hi
 have Bj:0<zs.size:=by
  rcases Nat.eq_zero_or_pos zs.size with h0|h0
  ·rw[h0]at Ac;omega
  ·exact h0
 have hm:i % zs.size<zs.size:=Nat.mod_lt _ Bj;rw[getElem!_pos zs (i % zs.size) hm];exact h _ (by simp)
def Kt(w:World)(v:Value):Prop:=∀g n cap,v=.slice (some ⟨g,0,none⟩) n cap->∀arr e z,w.heap[g]?=some (.cells arr e z)->Plain arr
theorem Kt.nil(w:World)(l c:Nat):Kt w (.slice none l c):=λ_ _ _ h=>by cases h
theorem Kt.kept{w w':World}{v:Value}(h:Kt w v)(hh:∀g n cap,v=.slice (some ⟨g,0,none⟩) n cap->w'.heap[g]?=w.heap[g]?):Kt w' v:=λg n cap e arr t z ha=>h g n cap e arr t z ((hh g n cap e)▸ha)
theorem J9a{P:Program}(w:World)(base:Nat)(t ty e:TypeId)(i:TypeInfo)(z:Value)(size bytes:Nat)(ht:P.underlying t=some (.slice e))(hi:P.info? e=some i)(hz:i.zero=some z)
  (IB:i.size=size) (wU:i.bytes=bytes) (X7:z.cells.size=size) (Ae:0<size)
  (v:Value) (n:Nat) (xs:List Value) (Aw:w.ownsRow base e size v n xs)
  (a:Addr) (m c:Nat) (news:List Value) (hl:news.length=m*size) (IL:∀j u,news[j]?=some u->w.cell? (a.add j)=some u) (h1:∀u∈news,u.oneCell'=true)
  (wJ:n+m<=maxLen) (Hf:(n+m)*bytes<=140737488355328) (hp:Kt w v) (YC:∀u∈news,IsInt u) (aB:Plain z.cells) {v':Value} {w':World}
  (Fh:(Builtin.append_ #[t,t] ty #[v,.slice (some a) m c]).run P w=.ok v' w'):Kt w' v':=by
 subst IB;subst wU;have hsmall:n+m<=9223372036854775807:=by simp only[maxLen]at wJ;omega
 rcases Aw.2 with⟨rfl,rfl⟩|⟨g,cap,cur,rfl,UF,hg,hnc,hcm,Gj,Rt⟩
 ·have hx:xs=[]:=List.eq_nil_of_length_eq_zero (by simpa using Aw.1);subst hx;by_cases hm:m=0
  ·subst hm;have hn:news=[]:=List.eq_nil_of_length_eq_zero (by simpa using hl);subst hn;have hr:(Builtin.append_ #[t,t] ty #[.slice none 0 0,.slice (some a) 0 c]).run P w=.ok (.slice none 0 0) w:=by simp[Builtin.append_,run_underlying ht,sizeOf,typeInfo,hi,Builtin.lenOf,Builtin.firstCells,loadCells,loadCellsFrom]
   rw[hr]at Fh;cases Fh;exact .nil _ _ _
  ·have hr:=run_append_nil (P:=P) w t ty e i z ht hi hz a m c news hl IL (by omega) (by omega) (by have hb:=Hf;simp only[Nat.zero_add]at hb;omega);rw[hr]at Fh;cases Fh;intro g n cap e1 arr t z ha;cases e1;have hq:=ha.symm.trans (heap_alloc_new w.drew _);cases hq;exact(Plain.list YC).append (aB.madeCells _)
 ·have UQ:Plain cur:=hp g n cap rfl cur e _ hg;have hxi:∀u∈xs,IsInt u:=λu hu=>UQ u (List.mem_of_mem_take (Rt▸hu));by_cases IQ:n+m<=cap
  ·have hfit:n*i.size+news.length<=cur.size:=by rw[hl,Gj,<- Nat.add_mul];exact Nat.mul_le_mul_right _ IQ
   have hr:=run_append_room (P:=P) w t ty e i ht hi g n cap cur hg a m c news hl IL h1 IQ hfit;rw[hr]at Fh;cases Fh;intro g' n' Dy e1 arr t z ha;cases e1;rw[setRow_heap w g cur _ e _ hg]at ha;cases ha;refine Plain.list λu hu=>?_;rcases FY.1 hu with hu|hu
   ·rcases FY.1 hu with hu|hu
    ·exact UQ u (List.mem_of_mem_take hu)
    ·exact YC u hu
   ·exact UQ u (List.mem_of_mem_drop hu)
  ·have holds:∀j u,xs[j]?=some u->w.cell? ((⟨g,0,none⟩:Addr).add j)=some u:=Aw.cells (g:=g) rfl;have hr:=run_append_grow (P:=P) w t ty e i z ht hi hz ⟨g,0,none⟩ n cap xs Aw.1 holds a m c news hl IL (by omega) (by omega) (growslice_fits (by omega) Hf);rw[hr]at Fh;cases Fh;intro g' n' Dy e1 arr t z ha;cases e1;have hq:=ha.symm.trans (heap_alloc_new w.drew _);cases hq;exact((Plain.list hxi).append (Plain.list YC)).append (aB.madeCells _)
theorem J7s{F:Fence}{n:Nat}{P:Program}(w:World){ops:Array Oper}{rest:List Oper}{o:Oper}{a:Act}{Q:Exit->Act->World->Prop}
  (hg:o.guard=none) (s x:Operand) (t:TypeId) (Au:o.op=Op.call { callee:=Callee.builtin Builtin.append,args:=#[s,x],argTypes:=#[t,t] })
  (base:Nat) (e:TypeId) (i:TypeInfo) (z:Value) (size bytes:Nat) (h1:P.underlying t=some (.slice e)) (h2:P.info? e=some i) (h3:i.zero=some z) (h4:i.size=size) (h5:i.bytes=bytes) (h6:z.cells.size=size) (h7:0<size)
  (v:Value) (k:Nat) (xs:List Value) (hs:a.eval s=v) (Aw:w.ownsRow base e size v k xs) (ad:Addr) (m c:Nat) (news:List Value) (hx:a.eval x=.slice (some ad) m c) (hn:news.length=m*size)
  (hc:∀j u,news[j]?=some u->w.cell? (ad.add j)=some u) (vS:∀u∈news,u.oneCell'=true) (b1:k+m<=maxLen) (b2:(k+m)*bytes<=140737488355328) (b3:base<=w.heap.size) (hp:Kt w v) (YC:∀u∈news,IsInt u) (aB:Plain z.cells)
  (hK:∀v' w',w'.ownsRow base e size v' (k+m) (xs++news)->w.grownBy w' v.ownBlock->(v'=.slice none 0 0↔v=.slice none 0 0/\m=0)->Kt w' v'->wpListIn F n P ops Q rest (a.put o.dst v') w') :
  wpListIn F n P ops Q (o::rest) a w:=by
 refine wpListIn_plain hg λK hK'=>?_;obtain⟨v',w',AB,r1,r2,r3⟩:=run_append_own (P:=P) w base t o.type e i z size bytes h1 h2 h3 h4 h5 h6 h7 v k xs Aw ad m c news hn hc vS b1 b2 b3;unfold Oper.wpIn;refine⟨?_,?_⟩
 ·simp[Oper.about,Au,resolve,Target.leads,Sem.run_pure]
 ·rw[Oper.semAt_plain F _ _ (by rw[Au];intro c L6;cases L6)];simp[execOp,Au,resolve,invoke,builtin,hs,hx,AB,Result.andThen];exact hK' _ _ (hK v' w' r1 r2 r3 (J9a w base t o.type e i z size bytes h1 h2 h3 h4 h5 h6 h7 v k xs Aw ad m c news hn hc vS b1 b2 hp YC aB AB))
theorem dL{P:Program}(w:World){ops:Array Oper}{rest:List Oper}{o:Oper}{a:Act}{Q:Exit->Act->World->Prop}(hgd:o.guard=none)(s x:Operand)(t:TypeId)
  (ho:o.op=.call { callee:=.builtin .append,args:=#[s,x],argTypes:=#[t,t] })
  (base:Nat) (e:TypeId) (i:TypeInfo) (z:Value) (size bytes:Nat) (ht:P.underlying t=some (.slice e)) (hi:P.info? e=some i) (hz:i.zero=some z)
  (IB:i.size=size) (wU:i.bytes=bytes) (X7:z.cells.size=size) (Ae:0<size)
  (v:Value) (n:Nat) (xs:List Value) (hs:a.eval s=v) (Aw:w.ownsRow base e size v n xs)
  (ad:Addr) (m c:Nat) (news:List Value) (hx:a.eval x=.slice (some ad) m c) (hl:news.length=m*size) (IL:∀j u,news[j]?=some u->w.cell? (ad.add j)=some u) (h1:∀u∈news,u.oneCell'=true)
  (wJ:n+m<=maxLen) (Hf:(n+m)*bytes<=140737488355328) (jI:base<=w.heap.size) (hp:Kt w v) (YC:∀u∈news,IsInt u) (aB:Plain z.cells)
  (h:∀v' w',w'.ownsRow base e size v' (n+m) (xs++news)->w.grownBy w' v.ownBlock->(v'=.slice none 0 0↔v=.slice none 0 0/\m=0)->Kt w' v'->wpList P ops Q rest (a.put o.dst v') w') :
  wpList P ops Q (o::rest) a w:=by
 refine wpList_plain hgd λK hK=>?_;obtain⟨v',w',hr,h2,h3,h4,h5⟩:=run_append_own_at (P:=P) w base t o.type e i z size bytes ht hi hz IB wU X7 Ae v n xs Aw ad m c news hl IL h1 wJ Hf jI;unfold Oper.wp execOp;simp only[ho,resolve,invoke,builtin,Sem.run_bind,Sem.run_pure,Result.andThen_ok,List.map_toArray,DW,List.map_nil,hs,hx,hr];exact hK _ _ (h v' w' h2 h3 h4 (J9a w base t o.type e i z size bytes ht hi hz IB wU X7 Ae v n xs Aw ad m c news hl IL h1 wJ Hf hp YC aB hr))
def Jb(m:Nat)(k:List Int)(n:Nat):List Int:=k.zipIdx.map λp=>if p.2<n/\m.testBit p.2=false then 0 else p.1
theorem J66(m:Nat)(k:List Int)(n:Nat):(Jb m k n).length=k.length:=by simp[Jb]
theorem Jk2(m:Nat)(k:List Int):Jb m k 0=k:=by apply List.ext_getElem?;intro i;simp[Jb]
theorem Jll{m n:Nat}{k:List Int}(h:m.testBit n=false):(Jb m k n).set n 0=Jb m k (n+1):=by
 apply List.ext_getElem?;intro i;rw[List.getElem?_set];simp only[Jb,List.getElem?_map,List.getElem?_zipIdx,Et,List.length_zipIdx,Nat.zero_add];by_cases e:n=i
 ·subst e;simp[h];by_cases hl:n<k.length<;>simp[hl,h]
 ·simp only[e,if_false];cases k[i]? with
  |none=>rfl
  |some x=>simp only[Option.map_some];congr 2;simp;omega
theorem Jk3{m n:Nat}{k:List Int}(h:m.testBit n=true):Jb m k n=Jb m k (n+1):=by
 apply List.ext_getElem?;intro i;simp only[Jb,List.getElem?_map,List.getElem?_zipIdx,Nat.zero_add];cases k[i]? with
 |none=>rfl
 |some x=>
  simp only[Option.map_some];congr 1;by_cases e:i=n
  ·subst e;simp[h]
  ·have:i<n↔i<n+1:=by omega
   simp[this]
theorem Jhk(n:Int):bits .and .i64 n 1=n % 2:=by
 have h1:(BitVec.ofInt 64 1).toNat=2 ^ 1-1:=by decide
 have key:(BitVec.ofInt 64 n &&& BitVec.ofInt 64 1).toNat=(n % ((2 ^ 64:Nat):Int)).toNat % 2 ^ 1:=by rw[BitVec.toNat_and,BitVec.toNat_ofInt,h1,Nat.and_two_pow_sub_one_eq_mod]
 show IntKind.i64.wrap ((BitVec.ofInt 64 n &&& BitVec.ofInt 64 1).toNat:Nat)=n % 2;rw[key,IntKind.wrap_i64];omega
theorem Jv1(m k:Nat):(bits BinOp.and IntKind.i64 (((m:Int)) / 2 ^ k) 1 == 0)=!m.testBit k:=by
 rw[Jhk,Nat.testBit,Nat.shiftRight_eq_div_pow];have:((m:Int) / 2 ^ k) % 2=((m / 2 ^ k % 2:Nat):Int):=by push_cast;rfl
 rw[this];have h2:m / 2 ^ k % 2<2:=Nat.mod_lt _ (by omega);generalize hx:m / 2 ^ k=x at *;rcases Nat.mod_two_eq_zero_or_one x with h|h<;>simp[h,Nat.and_comm,Nat.and_one_is_mod]
theorem five{w:World}{b t:Nat}{z:Nat × Nat}{xs:List Int}(h:w.heap[b]?=some (.cells (ai .i64 xs) t z))(hl:xs.length=5) :
  ∃x0 x1 x2 x3 x4,xs=[x0,x1,x2,x3,x4]/\w.cell? ⟨b,0,none⟩=some (.int .i64 x0)/\w.cell? ⟨b,1,none⟩=some (.int .i64 x1)/\w.cell? ⟨b,2,none⟩=some (.int .i64 x2)/\w.cell? ⟨b,3,none⟩=some (.int .i64 x3)/\w.cell? ⟨b,4,none⟩=some (.int .i64 x4):=by
 obtain⟨x0,x1,x2,x3,x4,rfl⟩:∃x0 x1 x2 x3 x4,xs=[x0,x1,x2,x3,x4]:=by
  rcases xs with _|⟨x0,_|⟨x1,_|⟨x2,_|⟨x3,_|⟨x4,_|⟨x5,l⟩⟩⟩⟩⟩⟩<;>simp at hl
  exact⟨_,_,_,_,_,rfl⟩
 exact⟨_,_,_,_,_,rfl,cell_of h 0,cell_of h 1,cell_of h 2,cell_of h 3,cell_of h 4⟩
theorem Jbj(ks:List Int)(hk:ks.length=5)(m:Nat)(w:World):Calls Tryz.prog 26 #[.agg (ai .i64 ks),.int .i64 m] w λe w'=>e=.returned (.agg (ai .i64 (Jb m ks 5)))/\Tch w.heap.size M0 w w':=by
 go_enter Tryz.func26,Tryz.ntmps26
 go_wp2
 go_loopw [6] (λi wr=>∃k:Nat,k<=5/\i=.int .i64 k/\wr.heap[w.heap.size]?=some (.cells (ai .i64 (Jb m ks k)) 76)/\wr.heap[w.heap.size+1]?=some (.cells (ai .i64 [0,0,0,0,0]) 76)/\Tch w.heap.size M0 w wr) (λi _=>5-(RowKit.intOf i).toNat)
 case atStart=>
  refine⟨0,by omega,rfl,?_,?_,(Tch.refl.alloc (Ad _) _).alloc (by rw[size_alloc];omega) _⟩
  ·rw[Jk2,J7 _ (by rw[size_alloc];omega),Ja]
  ·have:=Ja (w:=w.alloc (.cells (ai .i64 ks) 76)) (.cells #[.int .i64 0,.int .i64 0,.int .i64 0,.int .i64 0,.int .i64 0] 76);rw[size_alloc]at this;exact this
 case round=>
  obtain⟨k,hk5,rfl,hc,hd,hB⟩:=hrel;have MW:=Jv1 m k;rcases BG k 5 with Ac|Dp
  ·have Am:=cell_of hc k;rw[Jar (by rw[J66];omega)]at Am;have vW:=Gs hc k;have BI:(k:Int)<5:=by omega
   cases hb:m.testBit k
   ·rw[hb]at MW;go_wp2;refine⟨⟨k+1,by omega,by go_num,?_,?_,hB.set (.inl (Ad _)) _⟩,?_⟩
    ·rw[heap_set hc,Jwl,Jll hb]
    ·rw[Jk _ _ (by simp)];exact hd
    ·simp[RowKit.intOf];omega
   ·rw[hb]at MW;go_wp2;refine⟨⟨k+1,by omega,by go_num,?_,hd,hB⟩,?_⟩
    ·rw[hc,Jk3 hb]
    ·simp[RowKit.intOf];omega
  ·obtain rfl:k=5:=by omega
   obtain⟨x0,x1,x2,x3,x4,hx,g0,g1,g2,g3,g4⟩:=five hc (by rw[J66];exact hk);have f0:=Gs hd 0;have f1:=Gs hd 1;have f2:=Gs hd 2;have f3:=Gs hd 3;have f4:=Gs hd 4;obtain⟨y0,y1,y2,y3,y4,hy,k0,k1,k2,k3,k4⟩:=five hd rfl;clear hc hd MW;go_wp2;refine bodyPost_ret (v:=.agg #[.int .i64 x0,.int .i64 x1,.int .i64 x2,.int .i64 x3,.int .i64 x4]) (by
    have hr:Tryz.f26.results=#[.cell 4 76]:=rfl;simp[results,hr,go_sem,k0,k1,k2,k3,k4]
    ) rfl ⟨?_,?_⟩
   ·rw[hx];rfl
   ·refine((((hB.set ?_ _).set ?_ _).set ?_ _).set ?_ _).set ?_ _<;>exact .inl (by simp)
def cmpK:List Int->List Int->Int
 |x::xs,y::ys=>if Lib.compareInt x y=0 then cmpK xs ys else Lib.compareInt x y
 |_,_=>0
theorem Jo8{xs ys:List Int}{k:Nat}(hx:k<xs.length)(hy:k<ys.length):cmpK (xs.drop k) (ys.drop k)=if Lib.compareInt (xs.getD k 0) (ys.getD k 0)=0 then cmpK (xs.drop (k+1)) (ys.drop (k+1))else Lib.compareInt (xs.getD k 0) (ys.getD k 0):=by rw[List.drop_eq_getElem_cons hx,List.drop_eq_getElem_cons hy,cmpK];simp[CP,hx,hy]
theorem Jgl(bx bY cx cy n:Nat)(xs ys:List Int)(hx:xs.length=n)(hy:ys.length=n)(hn:n<1000)(w:World)(gx:∀j,j<n->w.cell? ⟨bx,j,none⟩=some (.int .i64 (xs.getD j 0)))(gy:∀j,j<n->w.cell? ⟨bY,j,none⟩=some (.int .i64 (ys.getD j 0))) :
  Calls Tryz.prog 77 #[.slice (some ⟨bx,0,none⟩) n cx,.slice (some ⟨bY,0,none⟩) n cy] w λe w'=>e=.returned (.int .i64 (cmpK xs ys))/\w'=w:=by
 go_enter Tryz.func77,Tryz.ntmps77
 go_wp2
 go_loop [11] (λi=>∃k:Nat,k<=n/\i=.int .i64 k/\cmpK (xs.drop k) (ys.drop k)=cmpK xs ys) (λi=>n-(RowKit.intOf i).toNat)
 case atStart=>exact⟨0,by omega,rfl,rfl⟩
 case round=>
  obtain⟨k,hk,rfl,hc⟩:=hrel;rcases BG k n with Ac|Dp
  ·have g1:=gx k Ac;have g2:=gy k Ac;have BI:(k:Int)<n:=by omega
   rw[Jo8 (by omega) (by omega)]at hc;clear gx gy;generalize xs.getD k 0=x at *;generalize ys.getD k 0=y at *
   go_wp2_with (go_at_call 103;refine(Tryz.cmp_Compare_int _ _ _).mono ?_;rintro e w' ⟨rfl,rfl⟩)
   ·rename_i Aq;go_ret;refine⟨?_,rfl⟩;rw[<- hc,if_neg (by simpa using Aq)];rfl
   ·rename_i Aq;refine⟨⟨k+1,by omega,by go_num,?_⟩,by simp[RowKit.intOf];omega⟩;rw[<- hc,if_pos (by simpa using Aq)]
  ·have CB:¬((k:Int)<n):=by omega
   have KI:¬((n:Int)<n):=by omega
   clear gx gy;go_wp2;go_ret;refine⟨?_,rfl⟩;rw[<- hc,List.drop_eq_nil_of_le (by omega),List.drop_eq_nil_of_le (by omega)];rfl
theorem Jhl(xs ys:List Int)(hx:xs.length=5)(hy:ys.length=5)(w:World) :
  Calls Tryz.prog 58 #[.agg (ai .i64 xs),.agg (ai .i64 ys)] w λe w'=>e=.returned (.int .i64 (cmpK xs ys))/\w'=((w.alloc (.cells (ai .i64 xs) 76)).alloc (.cells (ai .i64 ys) 76)).drew:=by
 have s1:=size_alloc (w:=w) (.cells (ai .i64 xs) 76);have b1:((w.alloc (.cells (ai .i64 xs) 76)).alloc (.cells (ai .i64 ys) 76)).heap[w.heap.size]?=some (.cells (ai .i64 xs) 76):=by rw[J7 _ (by omega),Ja]
 have b2:((w.alloc (.cells (ai .i64 xs) 76)).alloc (.cells (ai .i64 ys) 76)).heap[w.heap.size+1]?=some (.cells (ai .i64 ys) 76):=by
  have:=Ja (w:=w.alloc (.cells (ai .i64 xs) 76)) (.cells (ai .i64 ys) 76)
  rwa [s1]at this
 have Rj:=Jgl w.heap.size (w.heap.size+1) 5 5 5 xs ys hx hy (by omega) ((w.alloc (.cells (ai .i64 xs) 76)).alloc (.cells (ai .i64 ys) 76)).drew (λj hj=>(cell_of b1 j).trans (Jar (by omega))) (λj hj=>(cell_of b2 j).trans (Jar (by omega)));clear b1 b2 s1
 go_enter Tryz.func58,Tryz.ntmps58
 go_wp2
 go_region_with (go_at_call 77;refine Rj.mono ?_;rintro e w' ⟨rfl,rfl⟩)
 all_goals go_wp2
 all_goals go_ret
 all_goals exact⟨rfl,rfl⟩
end Go.Sim.Z
namespace Go.Sim.Z
open Go Go.Proofs Go.RowKit Go.Maps
theorem Jhm:laidOutB Tryz.prog=true:=by kernel_rfl
theorem Jgv:WideMaps.KeyLaw Tryz.prog 76:=deep_law_laid Jhm (m:=2) (by omega) (of_decide_eq_true (by kernel_rfl)) (by kernel_rfl) (by rw[Tryz.underlying76])
theorem tK:Keyed Tryz.prog 76:=.of_law Jgv
def EI(k:List Int):Prop:=k.length=5/\∀x∈k,(Lit.int .i64 x).wf=true
def klit(k:List Int):Lit:=.string (keyBytes (k.map (Lit.int .i64)))
theorem Xo{k:List Int}(h:EI k):keyOf Tryz.prog 76 (.agg (ai .i64 k))=some (klit k):=by
 obtain⟨h1,h2⟩:=h;obtain⟨x0,x1,x2,x3,x4,rfl⟩:∃x0 x1 x2 x3 x4,k=[x0,x1,x2,x3,x4]:=by
  rcases k with _|⟨x0,_|⟨x1,_|⟨x2,_|⟨x3,_|⟨x4,_|⟨x5,l⟩⟩⟩⟩⟩⟩<;>simp at h1
  exact⟨_,_,_,_,_,rfl⟩
 have ht:Tryz.prog.keyType 76=true:=by kernel_rfl
 have lF:Tryz.prog.cellsOf 76=5:=by kernel_rfl
 have c3:Tryz.prog.cellsOf 3=1:=by kernel_rfl
 have hf:Value.formed Tryz.prog 76 (.agg (ai .i64 [x0,x1,x2,x3,x4]))=true:=by simp[Value.formed,Tryz.underlying76,lF]
 have e:∀d x,x∈[x0,x1,x2,x3,x4]->Tryz.prog.keyLits (d+1) 3 [.int .i64 x]=some [.int .i64 x]:=λd x hx=>by simp only[Program.keyLits,Tryz.underlying3,h2 x hx,and_self,if_true]
 have hs:Tryz.prog.types.size+1=(Tryz.prog.types.size-1)+1+1:=by
  have:0<Tryz.prog.types.size:=by
   have:decide (0<Tryz.prog.types.size)=true:=by kernel_rfl
   simpa using this
  omega
 simp only[keyOf,Tryz.underlying76,ht,hf,Bool.and_self,if_true];rw[hs];simp only[Program.keyLits,Tryz.underlying76,lF,c3];have w0:=h2 x0 (by simp);have w1:=h2 x1 (by simp);have w2:=h2 x2 (by simp);have w3:=h2 x3 (by simp);have w4:=h2 x4 (by simp);simp[ai,Value.cells,List.range,List.range.loop,e,klit,keyBytes,w0,w1,w2,w3,w4]
theorem Jqz{k k':List Int}(h:EI k)(h':EI k')(e:klit k=klit k'):k=k':=by
 have:=Jgv.inj (Xo h) (e▸Xo h');simp only[Value.agg.injEq,ai,List.toArray_inj]at this;have inj:∀(a b:List Int),a.map (Value.int .i64)=b.map (Value.int .i64)->a=b:=by
  intro a
  induction a with
  |nil=>intro b h;cases b with
   |nil=>rfl
   |cons y b=>simp at h
  |cons x a ih=>intro b h;cases b with
   |nil=>simp at h
   |cons y b=>simp at h;rw[h.1,ih b (by simpa using h.2)]
 exact inj _ _ (congrArg Array.toList this)
theorem YT{k k':List Int}(h:EI k)(h':EI k'):(klit k).sameKey (klit k')=decide (k=k'):=by
 by_cases e:k=k'
 ·subst e;simp[klit,Lit.sameKey]
 ·have:klit k≠klit k':=λx=>e (Jqz h h' x);simp only[klit,Lit.string.injEq,ne_eq]at this;simp[klit,Lit.sameKey,this,e]
def Rv(v:Value):Option (DataW Value × List MemPlace):=some (.held v,[])
def Ed(p:List Int × Value):Lit × DataW Value:=(klit p.1,.held p.2)
theorem insert_perm{H:Type}(x:Lit × DataW H):∀l:List (Lit × DataW H),(DataW.insert x l).Perm (x::l)
 |[]=>.refl _
 |y::r=>by
  unfold DataW.insert;split
  ·exact .refl _
  ·exact((insert_perm x r).cons y).trans (.swap x y r)
theorem J8d(p:List Int × Value):∀M:List (List Int × Value),∃L:List (List Int × Value),L.map Ed=DataW.insert (Ed p) (M.map Ed)/\L.Perm (p::M)
 |[]=>⟨[p],rfl,.refl _⟩
 |y::r=>by
  simp only[DW,DataW.insert];split
  ·exact⟨p::y::r,rfl,.refl _⟩
  ·obtain⟨L,h1,h2⟩:=J8d p r;exact⟨y::L,by simp[h1],(h2.cons y).trans (.swap p y r)⟩
structure CJ(w:World)(b:Nat)(L:List (List Int × Value)):Prop where
 keys:∀p∈L,EI p.1
 nodup:(L.map (·.1)).Nodup
 own:∃L':List (List Int × Value),L'.Perm L/\∃n,w.ownsMap Tryz.prog 76 Rv b n (.map (L'.map Ed))
theorem Jks{w:World}{b n:Nat}{E:List (Lit × DataW Value)}(h:w.ownsMap Tryz.prog 76 Rv b n (.map E)):w.ownsMap Tryz.prog 76 Rv b E.length (.map E):=by obtain⟨es,clock,h1,h2,h3,h4⟩:=h;refine⟨es,clock,h1,h2,?_,h4⟩;cases h4;rw[length_sorted];simp
theorem CJ.kept{w w':World}{b:Nat}{L:List (List Int × Value)}(h:CJ w b L)(hb:w'.heap[b]?=w.heap[b]?):CJ w' b L:=by obtain⟨L',h1,n,es,clock,h2,h3⟩:=h.own;exact⟨h.keys,h.nodup,L',h1,n,es,clock,hb.trans h2,h3⟩
theorem CJ.made(w:World):CJ (w.alloc (.map #[] 0)) w.heap.size []:=
 ⟨λp hp=>by simp at hp,by simp,[],.refl _,0,World.ownsMap_made w Tryz.prog 76 Rv⟩
theorem CJ.lt{w:World}{b:Nat}{L:List (List Int × Value)}(h:CJ w b L):b<w.heap.size:=by obtain⟨_,_,_,h2⟩:=h.own;exact h2.lt
theorem Jhn{k:List Int}(hk:EI k):∀L:List (List Int × Value),(∀p∈L,EI p.1)->((L.map Ed).find? λp=>p.1.sameKey (klit k))=(L.find? λp=>decide (p.1=k)).map Ed
 |[],_=>rfl
 |p::L,h=>by
  simp only[DW,List.find?_cons];rw[show(Ed p).1.sameKey (klit k)=decide (p.1=k)from YT (h p (by simp)) hk];by_cases e:p.1=k
  ·simp[e]
  ·simp only[e,decide_false];exact Jhn hk L λq hq=>h q (by simp[hq])
def look(L:List (List Int × Value))(k:List Int):Option Value:=(L.find? λp=>decide (p.1=k)).map (·.2)
theorem Jbs{L:List (List Int × Value)}(hn:(L.map (·.1)).Nodup){k:List Int}{v:Value}:look L k=some v↔(k,v)∈L:=by
 induction L with
 |nil=>simp[look]
 |cons p L ih=>
  simp only[DW,List.nodup_cons]at hn;unfold look at ih ⊢;rw[List.find?_cons];by_cases e:p.1=k
  ·subst e;simp only[decide_true,Option.map_some,Cm,AO];constructor
   ·rintro rfl;exact .inl rfl
   ·rintro(h|h)
    ·rw[<- h]
    ·exact absurd (AY.2 ⟨_,h,rfl⟩) hn.1
  ·simp only[e,decide_false,AO];rw[ih hn.2];constructor
   ·exact .inr
   ·rintro(h|h)
    ·exact absurd (by rw[<- h]) e
    ·exact h
theorem Jo9{L L':List (List Int × Value)}(hp:L'.Perm L)(hn:(L.map (·.1)).Nodup)(k:List Int):look L' k=look L k:=by apply Option.ext;intro v;rw[Jbs hn,Jbs ((hp.map _).nodup_iff.2 hn),hp.mem_iff]
theorem CJ.lookup{w:World}{b:Nat}{L:List (List Int × Value)}(h:CJ w b L){k:List Int}(hk:EI k) :
  (Instr.lookup 70 (.map (some b)) (.agg (ai .i64 k)) false).run Tryz.prog w=.ok ((look L k).getD (.pointer none)) w:=by
 obtain⟨L',h1,n,h2⟩:=h.own;obtain⟨v,ps,AB,hv⟩:=h2.lookup tK Tryz.underlying70 (Tryz.zeroValue78 w) (zd:=.held (.pointer none)) (zp:=[]) rfl (Xo hk);rw[AB];have e:(DataW.map (L'.map Ed)).atKey (klit k) (.held (.pointer none))=.held ((look L k).getD (.pointer none)):=by simp only[DataW.atKey,Jhn hk L' λp hp=>h.keys p (h1.mem_iff.1 hp)];rw[<- Jo9 h1 h.nodup];unfold look;cases L'.find? λp=>decide (p.1=k)<;>rfl
 rw[e]at hv;simp only[Rv,Cm,Prod.mk.injEq,DataW.held.injEq]at hv;rw[hv.1]
def PZ(k:List Int)(v:Value)(L:List (List Int × Value)):List (List Int × Value):=(k,v)::L.filter λp=>!decide (p.1=k)
theorem CJ.update{w:World}{b:Nat}{L:List (List Int × Value)}(h:CJ w b L)(hn:L.length<maxLen){k:List Int}(hk:EI k)(v:Value) :
  ∃w',(Instr.mapUpdate 70 (.map (some b)) (.agg (ai .i64 k)) v).run Tryz.prog w=.ok () w'/\CJ w' b (PZ k v L)/\w.grownBy w' (some b):=by
 obtain⟨L',h1,n,h2⟩:=h.own;have hlen:(L'.map Ed).length<maxLen:=by simpa[h1.length_eq]using hn
 obtain⟨w',AB,h3,h4⟩:=(Jks h2).update tK Tryz.underlying70 hlen (Xo hk) (val:=v) (d:=.held v) (ps:=[]) rfl;refine⟨w',AB,⟨λp hp=>?_,?_,?_⟩,h4⟩
 ·rcases AO.1 hp with rfl|hp
  ·exact hk
  ·exact h.keys p (IZ.1 hp).1
 ·simp only[PZ,DW,List.nodup_cons];constructor
  ·intro hm;obtain⟨p,hp,e⟩:=AY.1 hm;have:=(IZ.1 hp).2;simp[e]at this
  ·exact(List.Sublist.map _ (List.filter_sublist)).nodup h.nodup
 ·have e:(DataW.map (L'.map Ed)).put (klit k) (.held v)=.map (DataW.insert (Ed (k,v)) ((L'.filter λp=>!decide (p.1=k)).map Ed)):=by
   have ef:(L'.map Ed).filter (λp=>!p.1.sameKey (klit k))=(L'.filter λp=>!decide (p.1=k)).map Ed:=by
    rw[List.filter_map];refine congrArg (List.map Ed) (List.filter_congr λp hp=>?_);simp only[Function.comp];rw[show(Ed p).1.sameKey (klit k)=decide (p.1=k)from YT (h.keys p (h1.mem_iff.1 hp)) hk]
   show DataW.map (DataW.insert _ ((L'.map Ed).filter (λp=>!p.1.sameKey (klit k))))=_;rw[ef];rfl
  rw[e]at h3;obtain⟨L2,e2,Yj⟩:=J8d (k,v) (L'.filter λp=>!decide (p.1=k));rw[<- e2]at h3;exact⟨L2,Yj.trans ((h1.filter _).cons _),_,h3⟩
end Go.Sim.Z
namespace Go.Sim.Z
open Go Go.Proofs Go.RowKit Go.Maps Go.Sort Go.Shelf
abbrev Je:={ k:List Int // EI k }
def U9(x:Je):Value:=.agg (ai .i64 x.1)
theorem Jk4{v:Value}{l:Lit}(h:keyOf Tryz.prog 76 v=some l):∃x:Je,v=U9 x:=by
 have lF:Tryz.prog.cellsOf 76=5:=by kernel_rfl
 have c3:Tryz.prog.cellsOf 3=1:=by kernel_rfl
 simp only[keyOf,Tryz.underlying76]at h;split at h
 ·rename_i hf;simp only[Bv]at hf;obtain⟨_,hf⟩:=hf;cases v with
  |agg cs=>
   simp only[Value.formed,Tryz.underlying76,lF]at hf;have hs:cs.size=5:=by simpa using hf
   obtain⟨l5⟩:=cs;simp only[List.size_toArray]at hs;obtain⟨x0,x1,x2,x3,x4,rfl⟩:∃x0 x1 x2 x3 x4,l5=[x0,x1,x2,x3,x4]:=by
    rcases l5 with _|⟨x0,_|⟨x1,_|⟨x2,_|⟨x3,_|⟨x4,_|⟨x5,l⟩⟩⟩⟩⟩⟩<;>simp at hs
    exact⟨_,_,_,_,_,rfl⟩
   have Ae:Tryz.prog.types.size+1=(Tryz.prog.types.size-1)+1+1:=by
    have:0<Tryz.prog.types.size:=by
     have:decide (0<Tryz.prog.types.size)=true:=by kernel_rfl
     simpa using this
    omega
   have one:∀d x ls,Tryz.prog.keyLits (d+1) 3 [x]=some ls->∃n,x=.int .i64 n/\(Lit.int .i64 n).wf=true:=by
    intro d x ls hx;simp only[Program.keyLits,Tryz.underlying3]at hx;cases x with
    |int q n=>
     by_cases hq:q=.i64/\(Lit.int .i64 n).wf=true
     ·obtain⟨rfl,hw⟩:=hq;exact⟨n,rfl,hw⟩
     ·simp[hq]at hx
    |_=>simp at hx
   rw[Ae]at h;generalize Tryz.prog.types.size-1=d at h;obtain⟨a,ha,_⟩:=FX.1 h;unfold Program.keyLits at ha;simp only[Tryz.underlying76,lF,c3,Value.cells,Gu,List.length_nil,if_true]at ha;have o0:=one d x0;have o1:=one d x1;have o2:=one d x2;have o3:=one d x3;have o4:=one d x4;generalize hk:Tryz.prog.keyLits (d+1) 3=K at ha o0 o1 o2 o3 o4;clear hk;simp[List.range,List.range.loop]at ha;cases k0:K [x0]with
   |none=>simp[k0]at ha
   |some r0=>cases k1:K [x1]with
    |none=>simp[k0,k1]at ha
    |some r1=>cases k2:K [x2]with
     |none=>simp[k0,k1,k2]at ha
     |some r2=>cases k3:K [x3]with
      |none=>simp[k0,k1,k2,k3]at ha
      |some r3=>cases k4:K [x4]with
       |none=>simp[k0,k1,k2,k3,k4]at ha
       |some r4=>
        obtain⟨n0,rfl,w0⟩:=o0 _ k0;obtain⟨n1,rfl,w1⟩:=o1 _ k1;obtain⟨n2,rfl,w2⟩:=o2 _ k2;obtain⟨n3,rfl,w3⟩:=o3 _ k3;obtain⟨n4,rfl,w4⟩:=o4 _ k4;exact⟨⟨[n0,n1,n2,n3,n4],rfl,by simp[w0,w1,w2,w3,w4]⟩,rfl⟩
  |_=>simp[Value.formed,Tryz.underlying76]at hf
 ·cases h
def Vy(D0:DataW Value)(left:Lit->Bool)(ss:List Je):Prop:=ss.Nodup/\∀x:Je,x∈ss↔(has D0 (klit x.1)=true/\left (klit x.1)=false)
section
variable{D0:DataW Value}{left:Lit->Bool}{ss:List Je}
theorem Vy.start(D0:DataW Value):Vy D0 (has D0) []:=⟨List.nodup_nil,λx=>by cases has D0 (klit x.1)<;>simp⟩
theorem Vy.step(h:Vy D0 left ss){x:Je}{y:DataW Value}(DV:left (klit x.1)=true)(Px:∀zd,D0.atKey (klit x.1) zd=y):Vy D0 (λz=>left z && !z.sameKey (klit x.1)) (ss++[x]):=by
 have Ro:has D0 (klit x.1)=true:=has_true_of_atKey Px;have DL:x∉ss:=λhx=>by have:=((h.2 x).1 hx).2;rw[DV]at this;cases this
 refine⟨List.nodup_append.2 ⟨h.1,by simp,λa ha b hb=>by simp at hb;subst hb;exactλe=>DL (e▸ha)⟩,λy=>?_⟩;by_cases hy:y=x
 ·subst hy;simp[Ro,YT y.2 y.2]
 ·have:y.1≠x.1:=λe=>hy (Subtype.ext e);simp[h.2 y,hy,YT y.2 x.2,this]
end
theorem Jkt{L:List (List Int × Value)}(h:∀p∈L,EI p.1){k:List Int}(hk:EI k):has (DataW.map (L.map Ed)) (klit k)=true↔k∈L.map (·.1):=by
 simp only[has,List.any_eq_true,AY];constructor
 ·rintro⟨_,⟨p,hp,rfl⟩,hs⟩;rw[show(Ed p).1.sameKey (klit k)=decide (p.1=k)from YT (h p hp) hk]at hs;exact⟨p,hp,by simpa using hs⟩
 ·rintro⟨p,hp,rfl⟩;exact⟨_,⟨p,hp,rfl⟩,by rw[show(Ed p).1.sameKey (klit p.1)=decide (p.1=p.1)from YT (h p hp) hk];simp⟩
def KeysOf(L:List (List Int × Value))(ss:List Je):Prop:=(ss.map (·.1)).Perm (L.map (·.1))
theorem Vy.perm{L:List (List Int × Value)}{L':List (List Int × Value)}(hp:L'.Perm L)(hk:∀p∈L,EI p.1)(hn:(L.map (·.1)).Nodup){left:Lit->Bool}{ss:List Je}(h:Vy (.map (L'.map Ed)) left ss)(hl:∀kl,left kl=false):KeysOf L ss:=by
 have Ce:∀p∈L',EI p.1:=λp Gi=>hk p (hp.mem_iff.1 Gi);refine(List.perm_ext_iff_of_nodup ?_ hn).2 λk=>?_
 ·exact List.pairwise_map.2 (h.1.imp λAq e=>Aq (Subtype.ext e))
 ·rw[<- (hp.map (·.1)).mem_iff];constructor
  ·intro hm;obtain⟨x,hx,rfl⟩:=AY.1 hm;exact(Jkt Ce x.2).1 ((h.2 x).1 hx).1
  ·intro hm;obtain⟨p,Gi,rfl⟩:=AY.1 hm;exact AY.2 ⟨⟨p.1,Ce p Gi⟩,(h.2 _).2 ⟨(Jkt Ce (Ce p Gi)).2 hm,hl _⟩,rfl⟩
theorem keys1N_in(F:Fence)(n:Nat)(CQ:F.fn 74)(Fv:F.round=none)(hn:1<=n)(l Bm b nn:Nat)(L0:List (List Int × Value))(nD:∀p∈L0,EI p.1)(hnd:(L0.map (·.1)).Nodup)(J:List Je->World->Prop)
  (hY:∀pre x W,J pre W->pre.length<L0.length->YieldAt F (n-1) Tryz.prog l #[U9 x] W λe W'=>e=.returned (.bool true)/\J (pre++[x]) W'/\KeepsWalks W W')
  (W:World) (hJ:AbidesFrom W.heap.size J) (hm:W.cell? ⟨Bm,0,none⟩=some (.map (some b))) (L':List (List Int × Value)) (wX:L'.Perm L0) (Aw:W.ownsMap Tryz.prog 76 Rv b nn (.map (L'.map Ed))) (h0:J [] W) :
  CallsIn F n Tryz.prog 74 #[.func (.yield l) #[] #[],.pointer (some ⟨Bm,0,none⟩)] W λe W'=>(∃v,e=.returned v)/\∃ss:List Je,KeysOf L0 ss/\J ss W':=by
 have IB:Maps.size (DataW.map (L'.map Ed))=L0.length:=by simp[Maps.size,wX.length_eq]
 refine callsIn_of_wp Tryz.func74 rfl CQ ?_ Fv;simp only[Tryz.ntmps74,List.size_toArray,Gu,List.length_nil,Nat.reduceAdd,Nat.reduceSub,Array.replicate_succ,Array.replicate_zero,List.push_toArray,List.append_toArray,Gm,Hr]
 gi_wp2_with (first
  |(gi_at_range;refine wpListIn_range_own _ rfl _ 70 rfl 76 78 tK Tryz.underlying70 _ b nn _ rfl Aw ?_;intro w0 Yk Vr WJ)
  |gi_in)
 go_frame
 gi_loopw [6] (λ_ wr=>∃(left:Lit->Bool)(cnt:Nat)(ss:List Je),wr.ranges Tryz.prog 76 Rv b W.heap.size nn (.map (L'.map Ed)) left cnt/\ss.length+cnt<=L0.length/\Vy (.map (L'.map Ed)) left ss/\J ss wr)
  (λ_ wr=>wr.rangeLeft b W.heap.size)
 case atStart=>
  exact⟨_,_,[],Yk,by simp[IB],Vy.start _,hJ [] W w0 none h0 Vr (λr e=>by cases e)⟩
 case round=>
  obtain⟨left,cnt,ss,hrg,Gj,hC,hJs⟩:=hrel
  gi_wp2_with (first
   |(gi_at_next;refine wpListIn_next_ranges _ rfl _ rfl 76 tK Rv U9 id (λkey kl hk=>Jk4 hk) (λv _ _=>⟨v,rfl⟩) b W.heap.size nn _ _ _ rfl hrg ?_ ?_)
   |gi_in)
  ·
   intro iR xY;gi_wp2;go_end0;exact⟨⟨_,rfl⟩,ss,hC.perm wX nD hnd xY,hJs⟩
  ·
   intro xs Oj c kl yd yp w2 Yn Ew DV hv Px UY Ac Bq Bl hen;have yO:kl=klit xs:=by have:=Ew.symm.trans (Xo Oj);exact Aa this
   subst yO;have hJ2:J ss w2:=hJ ss wr w2 (some W.heap.size) hJs Bq (λr e=>by cases e;exact⟨Ad _,hrg.iter_walk⟩);obtain⟨x0,x1,x2,x3,x4,rfl⟩:∃x0 x1 x2 x3 x4,xs=[x0,x1,x2,x3,x4]:=by
    have h1:=Oj.1;rcases xs with _|⟨x0,_|⟨x1,_|⟨x2,_|⟨x3,_|⟨x4,_|⟨x5,l⟩⟩⟩⟩⟩⟩<;>simp at h1
    exact⟨_,_,_,_,_,rfl⟩
   have wZ:J ss (w2.alloc (.cells #[.int .i64 x0,.int .i64 x1,.int .i64 x2,.int .i64 x3,.int .i64 x4] 76)):=hJ ss w2 _ none hJ2 (World.grownBy_alloc _ _ _) (λr e=>by cases e);obtain⟨fn,tmps,assign,body,hy,hR⟩:=hY ss ⟨[x0,x1,x2,x3,x4],Oj⟩ _ wZ (by omega);simp only[U9,ai,DW,List.map_nil]at hy hen;clear Bl wZ;gi_wp2;refine hR.mono ?_;rintro e W3 ⟨rfl,wZ,PG⟩;gi_wp2;have oN:=UY.of_walks ((KeepsWalks.alloc _ _).trans PG);have Vd:=hC.step (x:=⟨[x0,x1,x2,x3,x4],Oj⟩) DV Px
   go_roundw
   case rel=>exact⟨_,Yn,ss++[⟨[x0,x1,x2,x3,x4],Oj⟩],oN,by simp;omega,Vd,wZ⟩
   case measure=>rw[oN.left_eq,hrg.left_eq];exact Ac
theorem Jlm(mb:Option Nat)(w:World) :
  Calls Tryz.prog 56 #[.map mb] w λe w'=>e=.returned (.func (.func 74) #[] #[.pointer (some ⟨w.heap.size,0,none⟩)])/\w'=w.alloc (.cells #[.map mb] 70):=by
 go_enter Tryz.func56,Tryz.ntmps56
 go_wp2;go_ret;exact⟨rfl,rfl⟩
theorem keys_gives(F:Fence)(n:Nat)(CQ:F.fn 74)(Fv:F.round=none)(hn:1<=n)(Bm b:Nat)(L0:List (List Int × Value))(w:World)(qH:Bm<w.heap.size)
  (hm:w.cell? ⟨Bm,0,none⟩=some (.map (some b))) (Aw:CJ w b L0) :
  SeqGives F n Tryz.prog 74 #[.pointer (some ⟨Bm,0,none⟩)] U9 (KeysOf L0) L0.length w:=λl J W hW hJ hY h0=>by
 have Bd:CJ W b L0:=Aw.kept (hW.block b Aw.lt);obtain⟨L',wX,nn,ho⟩:=Bd.own;exact keys1N_in F n CQ Fv hn l Bm b nn L0 Aw.keys Aw.nodup J hY W hJ ((hW.cell (p:=⟨Bm,0,none⟩) qH).trans hm) L' wX ho h0
def apAssign:Code:=(Code.region 2 #[{ dst:=some 5,op:=Op.alloc 76,type:=0,pos:= "iter.go:51",after:=#[],guard:=none },{ dst:=none,op:=Op.store 76 (Operand.tmp 5) (Operand.tmp 7),type:=0,pos:= "iter.go:51",after:=#[{ on:=0,ground:=Ground.data },{ on:=0,ground:=Ground.phase }],guard:=none }] false)
def apBody:Code:=(Code.block 1 (Code.region 3 #[{ dst:=some 8,op:=Op.load 88 (Operand.tmp 2),type:=88,pos:= "iter.go:52",after:=#[],guard:=none },{ dst:=some 9,op:=Op.load 76 (Operand.tmp 5),type:=76,pos:= "iter.go:52",after:=#[],guard:=none },{ dst:=some 10,op:=Op.buildSlice 88 1 #[(0,Operand.tmp 9)],type:=88,pos:= "iter.go:52",after:=#[{ on:=1,ground:=Ground.data }],guard:=none },{ dst:=some 11,op:=Op.call { callee:=Callee.builtin Builtin.append,args:=#[Operand.tmp 8,Operand.tmp 10],argTypes:=#[88,88] },type:=88,pos:= "iter.go:52",after:=#[{ on:=0,ground:=Ground.data },{ on:=2,ground:=Ground.data }],guard:=none },{ dst:=none,op:=Op.store 88 (Operand.tmp 2) (Operand.tmp 11),type:=0,pos:= "iter.go:52",after:=#[{ on:=3,ground:=Ground.data },{ on:=3,ground:=Ground.chain },{ on:=0,ground:=Ground.phase },{ on:=1,ground:=Ground.phase },{ on:=2,ground:=Ground.phase },{ on:=3,ground:=Ground.phase }],guard:=none }] false))
def Ib(ss:List Je):List Value:=ss.flatMap λx=>x.1.map (Value.int .i64)
theorem Jgm(ss:List Je)(x:Je):Ib (ss++[x])=Ib ss++x.1.map (Value.int .i64):=by simp[Ib]
theorem Jgn(ss:List Je):(Ib ss).length=ss.length*5:=by
 induction ss with
 |nil=>rfl
 |cons x ss ih=>
  have:Ib (x::ss)=x.1.map (Value.int .i64)++Ib ss:=rfl;rw[this,List.length_append,ih,Et,x.2.1,Gu];omega
def apRec(fn:FuncId)(sv:Value)(Bs D:Nat)(st:LoopState)(pend:Option Code):Loop:=
 { state:=st,pending:=pend,fn,tmps:=#[.slice none 0 0,sv,.pointer (some ⟨Bs,0,none⟩),undef,.slice none 0 0,undef,sv,undef,undef,undef,undef,undef,undef],params:=#[7],assign:=apAssign,body:=apBody,defers:=D }
structure PR(W:World)(base:Nat)(v:Value)(ss:List Je):Prop where
 own:W.ownsRow base 76 5 v ss.length (Ib ss)
 pl:Kt W v
theorem PR.lt{W:World}{base:Nat}{v:Value}{ss:List Je}(h:PR W base v ss){g n cap:Nat}(e:v=.slice (some ⟨g,0,none⟩) n cap):g<W.heap.size:=by
 rcases h.own.2 with⟨rfl,_⟩|⟨g',Dy,cur,rfl,_,hg,_⟩
 ·cases e
 ·cases e;exact Ji hg
theorem PR.kept{W W':World}{row:Option Nat}{base:Nat}{v:Value}{ss:List Je}(h:PR W base v ss)(hg:W.grownBy W' row)(Aq:v.ownBlock=none\/v.ownBlock≠row):PR W' base v ss:=by
 refine⟨h.own.kept hg Aq,h.pl.kept λg n cap e=>hg.block g (h.lt e) λe'=>?_⟩;subst e;rcases Aq with h1|h1
 ·cases h1
 ·exact h1 e'
theorem PR.abides{W W':World}{row:Option Nat}{base:Nat}{v:Value}{ss:List Je}(h:PR W base v ss)(hg:W.grownBy W' row)(Aj:∀r,row=some r->∃o:Obj,W.heap[r]?=some o/\o.isWalk=true):PR W' base v ss:=by
 refine h.kept hg ?_;rcases h.own.2 with⟨rfl,_⟩|⟨g',Dy,cur,rfl,_,vY,_⟩
 ·exact .inl rfl
 ·refine .inr λe=>?_;obtain⟨o,ho,hw⟩:=Aj g' e.symm;rw[vY]at ho;cases ho;cases hw
structure ApAt(w0:World)(fn:FuncId)(sv:Value)(Bs l D:Nat)(ss:List Je)(W:World):Prop where
 box:∃v,W.heap[Bs]?=some (.cells #[v] 88 (0,0))/\PR W w0.heap.size v ss/\(v=.slice none 0 0↔ss=[])
 L:W.heap[l]?=some (.loop (apRec fn sv Bs D .ready none))
 K:W.heap[D]?=some (.deferred (some []))
 below:Below w0.heap.size w0 W
theorem ap_abides(w0:World)(fn:FuncId)(sv:Value)(Bs l D B:Nat)(hB:w0.heap.size<=B):AbidesFrom B (ApAt w0 fn sv Bs l D):=λs W W' row h hg Aj=>by
 have OM:∀r,row=some r->∃o:Obj,W.heap[r]?=some o/\o.isWalk=true:=λr e=>(Aj r e).2;obtain⟨v,hv,hr,hn⟩:=h.box;exact⟨⟨v,(grownBy_keeps hg OM hv rfl).trans hv,hr.abides hg OM,hn⟩,(grownBy_keeps hg OM h.L rfl).trans h.L,(grownBy_keeps hg OM h.K rfl).trans h.K,
  h.below.grown hg h.below.size (λk e=>BL hB (Aj k e).1)⟩
theorem Jwm:(Tryz.prog.info? 76).map (λi=>(i.zero,i.size,i.bytes))=some (some (.agg #[.int .i64 0,.int .i64 0,.int .i64 0,.int .i64 0,.int .i64 0]),5,40):=by kernel_rfl
theorem J8e{w:World}{a0 a1 a2 a3 a4:Value}{t:TypeId}:∀j u,([a0,a1,a2,a3,a4]:List Value)[j]?=some u->(w.alloc (.cells #[a0,a1,a2,a3,a4] t)).cell? ((⟨w.heap.size,0,none⟩:Addr).add j)=some u:=by
 intro j u hj;have hh:=Ja (w:=w) (.cells #[a0,a1,a2,a3,a4] t);have:(⟨w.heap.size,0,none⟩:Addr).add j=⟨w.heap.size,j,none⟩:=by unfold Addr.add;split<;>simp_all
 rw[this,cell_of hh j];simpa using hj
theorem apYield(F:Fence)(m:Nat)(w0:World)(fn:FuncId)(Qr:F.fn fn)(sv:Value)(Bs l D:Nat)(iK:Bs≠l)(xH:D≠l)(hDB:D≠Bs)(h0B:w0.heap.size<=Bs)(h0l:w0.heap.size<=l)
  (N:Nat) (hN:N<=maxLen) (yE:N*40<=140737488355328) (ss:List Je) (x:Je) (W:World) (h:ApAt w0 fn sv Bs l D ss W) (hlen:ss.length<N) :
  YieldAt F m Tryz.prog l #[U9 x] W λe W'=>e=.returned (.bool true)/\ApAt w0 fn sv Bs l D (ss++[x]) W'/\KeepsWalks W W':=by
 have Aq:(88:TypeId)≠76:=by decide
 obtain⟨i0,hi,En,Dl,D7⟩:=info_parts Jwm;obtain⟨v,hv,Aj,_⟩:=h.box;obtain⟨xs,Oj⟩:=x;obtain⟨x0,x1,x2,x3,x4,rfl⟩:∃x0 x1 x2 x3 x4,xs=[x0,x1,x2,x3,x4]:=by
  have h1:=Oj.1;rcases xs with _|⟨x0,_|⟨x1,_|⟨x2,_|⟨x3,_|⟨x4,_|⟨x5,l⟩⟩⟩⟩⟩⟩<;>simp at h1
  exact⟨_,_,_,_,_,rfl⟩
 have P8:=Jgm ss ⟨[x0,x1,x2,x3,x4],Oj⟩;simp only[DW,List.map_nil]at P8;simp only[U9,ai,DW,List.map_nil];generalize hX:(⟨[x0,x1,x2,x3,x4],Oj⟩:Je)=X at P8 ⊢;refine⟨fn,#[.slice none 0 0,sv,.pointer (some ⟨Bs,0,none⟩),undef,.slice none 0 0,undef,sv,.agg #[.int .i64 x0,.int .i64 x1,.int .i64 x2,.int .i64 x3,.int .i64 x4],undef,undef,undef,undef,undef],apAssign,apBody,by simpa[apRec]using run_yield (P:=Tryz.prog) (args:=#[.agg #[.int .i64 x0,.int .i64 x1,.int .i64 x2,.int .i64 x3,.int .i64 x4]]) h.L rfl,roundIn_of_wpIn Qr ?_⟩;unfold apAssign
 gi_wp2_with gi_round_op_a
 obtain⟨Wn,nX⟩:∃Wn,W.alloc (.cells #[.int .i64 x0,.int .i64 x1,.int .i64 x2,.int .i64 x3,.int .i64 x4] 76)=Wn:=⟨_,rfl⟩;have hgn:W.grownBy Wn none:=by rw[<- nX];exact World.grownBy_alloc _ _ _
 have OG:KeepsWalks W Wn:=by rw[<- nX];exact KeepsWalks.alloc _ _
 have hA:ApAt w0 fn sv Bs l D ss Wn:=ap_abides w0 fn sv Bs l D w0.heap.size (Ad _) ss W Wn none h hgn (λr e=>by cases e);have WQ:Wn.heap[W.heap.size]?=some (.cells #[.int .i64 x0,.int .i64 x1,.int .i64 x2,.int .i64 x3,.int .i64 x4] 76):=by rw[<- nX];exact Ja _
 have iZ:l≠W.heap.size:=by have:=(BQ.1 h.L).1;omega
 rw[nX];generalize W.heap.size=Bx at WQ iZ ⊢;clear nX hgn hv Aj;obtain⟨v,hv,Aj,_⟩:=hA.box;have hkn0:=OG;clear OG;have hl:l<Wn.heap.size:=(BQ.1 hA.L).1;have P5:=run_beginRound (P:=Tryz.prog) hA.L rfl;obtain⟨W2,DN⟩:∃W2,Wn.putObj l (.loop { apRec fn sv Bs D .ready none with state:=.busy })=W2:=⟨_,rfl⟩;rw[DN]at P5;have Bq:Wn.grownBy W2 (some l):=by rw[<- DN];exact grownBy_putObj_a _ _ _
 have Ci:KeepsWalks W W2:=hkn0.trans (by rw[<- DN];exact KeepsWalks.putObj _ hA.L rfl);have LD:W2.heap[Bs]?=some (.cells #[v] 88 (0,0)):=by rw[<- DN];exact(World.putObj_heap_other iK).trans hv
 have Hl:W2.heap[Bx]?=some (.cells #[.int .i64 x0,.int .i64 x1,.int .i64 x2,.int .i64 x3,.int .i64 x4] 76):=by rw[<- DN];exact(World.putObj_heap_other (Ne.symm iZ)).trans WQ
 have jH:W2.heap[D]?=some (.deferred (some [])):=by rw[<- DN];exact(World.putObj_heap_other xH).trans hA.K
 have EJ:W2.heap[l]?=some (.loop { apRec fn sv Bs D .ready none with state:=.busy }):=by rw[<- DN];exact World.putObj_heap_same hl
 have IG:PR W2 w0.heap.size v ss:=Aj.kept Bq (ownsRow_ne_a Aj.own hA.L (λcur e=>by first|cases e|exact Aq (Obj.cells.inj e).2.1));have D8:Below w0.heap.size w0 W2:=hA.below.grown Bq hA.below.size (λk e=>by cases e;exact h0l);obtain⟨MJ,hf2⟩:=cell_of_box_a LD;have hBlt:Bs<W2.heap.size:=(BQ.1 LD).1;have Fz:l<W2.heap.size:=(BQ.1 EJ).1;have hDlt:D<W2.heap.size:=(BQ.1 jH).1;have Ri:∀{j:Nat}{o:Obj},W2.heap[j]?=some o->(∀cur,o≠.cells cur 76 (0,0))->some j≠v.ownBlock:=λhj Eb=>by
  rcases ownsRow_ne_a IG.own hj Eb with e|e
  ·rw[e];simp
  ·exactλe'=>e e'.symm
 clear DN WQ hv Aj;have c0:W2.cell? ⟨Bx,0,none⟩=some (.int .i64 x0):=(cell_of Hl 0).trans rfl;have c1:W2.cell? ⟨Bx,1,none⟩=some (.int .i64 x1):=(cell_of Hl 1).trans rfl;have c2:W2.cell? ⟨Bx,2,none⟩=some (.int .i64 x2):=(cell_of Hl 2).trans rfl;have c3:W2.cell? ⟨Bx,3,none⟩=some (.int .i64 x3):=(cell_of Hl 3).trans rfl;have c4:W2.cell? ⟨Bx,4,none⟩=some (.int .i64 x4):=(cell_of Hl 4).trans rfl;refine⟨W2,P5,?_⟩;unfold apBody
 gi_wp2_with (first
  |(gi_at_builtin;refine J7s _ rfl _ _ 88 rfl w0.heap.size 76 i0 _ 5 40 Tryz.underlying88 hi En Dl D7 rfl (by decide) _ _ _ rfl (IG.own.alloc _) ⟨W2.heap.size,0,none⟩ 1 1 [.int .i64 x0,.int .i64 x1,.int .i64 x2,.int .i64 x3,.int .i64 x4] rfl rfl J8e (by simp[Value.oneCell']) (by omega) (by omega) (by have:=D8.size;simp;omega) (IG.pl.kept λg n cap e=>J7 _ (IG.lt e)) (λu hu=>by rcases AO.1 hu with rfl|hu;exact⟨_,_,rfl⟩;rcases AO.1 hu with rfl|hu;exact⟨_,_,rfl⟩;rcases AO.1 hu with rfl|hu;exact⟨_,_,rfl⟩;rcases AO.1 hu with rfl|hu;exact⟨_,_,rfl⟩;rcases AO.1 hu with rfl|hu;exact⟨_,_,rfl⟩;cases hu) (Plain.ai (xs:=[0,0,0,0,0])) ?_;intro v' w3 Bd Ee VY hpl3
    have UO:w3.heap[Bs]?=some (.cells #[v] 88 (0,0)):=(Ee.block Bs (by simp;omega) (Ri LD (λcur e=>by first|cases e|exact Aq (Obj.cells.inj e).2.1))).trans ((Below.heap_alloc _ _ Bs hBlt).trans LD);obtain⟨MG,hf3⟩:=cell_of_box_a UO;obtain⟨g',Dy,Sr,rfl,hbase',hgb',O3,BU,IJ,jJ⟩:∃g' Dy Sr,v'=.slice (some ⟨g',0,none⟩) (ss.length+1) Dy/\w0.heap.size<=g'/\w3.heap[g']?=some (.cells Sr 76 (0,0))/\ss.length+1<=Dy/\Dy<=maxLen/\Sr.size=Dy*5/\Sr.toList.take ((ss.length+1)*5)=Ib ss++[.int .i64 x0,.int .i64 x1,.int .i64 x2,.int .i64 x3,.int .i64 x4]:=by
     rcases Bd.2 with⟨_,h0⟩|h'
     ·exact absurd h0 (by omega)
     ·exact h'
    go_frame)
  |gi_round_op_a)
 have UW:(W2.alloc (.cells #[.int .i64 x0,.int .i64 x1,.int .i64 x2,.int .i64 x3,.int .i64 x4] 76)).grownBy w3 v.ownBlock:=Ee;have MQ:w3.heap[l]?=some (.loop { apRec fn sv Bs D .ready none with state:=.busy }):=(UW.block l (by simp;omega) (Ri EJ (λcur e=>by first|cases e|exact Aq (Obj.cells.inj e).2.1))).trans ((Below.heap_alloc _ _ l Fz).trans EJ);have nJ:w3.heap[D]?=some (.deferred (some [])):=(UW.block D (by simp;omega) (Ri jH (λcur e=>by first|cases e|exact Aq (Obj.cells.inj e).2.1))).trans ((Below.heap_alloc _ _ D hDlt).trans jH);obtain⟨w4,Q9⟩:∃w4,w3.setCell ⟨Bs,0,none⟩ (.slice (some ⟨g',0,none⟩) (ss.length+1) Dy)=w4:=⟨_,rfl⟩;rw[Q9];have aT:w3.grownBy w4 (some Bs):=by rw[<- Q9];exact grownBy_setCell0_a _ _ _
 have xW:w4.heap[Bs]?=some (.cells #[.slice (some ⟨g',0,none⟩) (ss.length+1) Dy] 88 (0,0)):=by rw[<- Q9];exact heap_setCell_box_a _ UO
 have Uh:w4.heap[l]?=some (.loop { apRec fn sv Bs D .ready none with state:=.busy }):=(aT.block l (BQ.1 MQ).1 (λe=>iK (by cases e;rfl))).trans MQ;have hK4:w4.heap[D]?=some (.deferred (some [])):=(aT.block D (BQ.1 nJ).1 (λe=>hDB (by cases e;rfl))).trans nJ;have hPR:PR w3 w0.heap.size (.slice (some ⟨g',0,none⟩) (ss.length+1) Dy) (ss++[X]):=⟨by rw[P8,List.length_append,List.length_singleton];exact Bd,hpl3⟩;have WU:=hPR.kept aT (ownsRow_ne_a Bd UO (λcur e=>by first|cases e|exact Aq (Obj.cells.inj e).2.1));have hl4:l<w4.heap.size:=(BQ.1 Uh).1;have Hq:Below w0.heap.size w0 w3:=(D8.alloc D8.size _).grown UW (by have:=D8.size;simp;omega) (λk e=>(IG.own.lt k e).1);have Ug:Below w0.heap.size w0 w4:=Hq.grown aT Hq.size (λk e=>by cases e;exact h0B);have NV:KeepsWalks W w4:=((Ci.trans (KeepsWalks.alloc _ _)).trans (KeepsWalks.of_grownBy UW (ownsRow_not_walk_a (IG.own.alloc _)))).trans (by rw[<- Q9];exact KeepsWalks.setCell _ _ _);clear Q9;refine⟨_,_,run_endRound none Uh,rfl,⟨⟨_,(World.putObj_heap_other iK).trans xW,?_,by simp⟩,World.putObj_heap_same hl4,(World.putObj_heap_other xH).trans hK4,Ug.grown (grownBy_putObj_a _ _ _) Ug.size (λk e=>by cases e;exact h0l)⟩,NV.trans (KeepsWalks.putObj _ Uh rfl)⟩;have:=WU.kept (grownBy_putObj_a w4 l (.loop { { apRec fn sv Bs D .ready none with state:=.busy } with state:=if(none:Option Code).isNone then .ready else .done,pending:=none })) (ownsRow_ne_a WU.own Uh (λcur e=>by first|cases e|exact Aq (Obj.cells.inj e).2.1));exact this
theorem appendSeq_in(F:Fence)(n:Nat)(Ef:F.fn 73)(Fv:F.round=none)(hn:2<=n)(g:Nat)(lb:Array Value)(hFg:F.fn g)(eg:∀args w,(callFunc g args).run Tryz.prog w=.ok (.enter g args) w)
  (S:List Je->Prop) (N:Nat) (hN:N<=maxLen) (yE:N*40<=140737488355328) (w:World) (Ob:SeqGives F (n-1) Tryz.prog g lb U9 S N w) :
  CallsIn F n Tryz.prog 73 #[.slice none 0 0,.func (.func g) #[] lb] w λe w'=>∃(v:Value)(ss:List Je),e=.returned v/\S ss/\PR w' w.heap.size v ss/\(v=.slice none 0 0↔ss=[])/\Below w.heap.size w w':=by
 have h1:1<=n:=by omega
 have Aq:(88:TypeId)≠76:=by decide
 refine callsIn_of_wp_marks Tryz.func73 rfl Ef ?_ Fv;simp only[Tryz.ntmps73,List.size_toArray,Gu,List.length_nil,Nat.reduceAdd,Nat.reduceSub,Array.replicate_succ,Array.replicate_zero,List.push_toArray,List.append_toArray,Gm,Hr];gi_wp2;refine wpIn_rangeFunc ?_;intro fn Qr;rw[Fv];obtain⟨W0,BZ⟩:∃W0,w.alloc (.cells #[.slice none 0 0] 88)=W0:=⟨_,rfl⟩;have WJ:W0.heap.size=w.heap.size+1:=by rw[<- BZ];simp
 have Nw:W0.heap[w.heap.size]?=some (.cells #[.slice none 0 0] 88 (0,0)):=by rw[<- BZ];exact World.alloc_heap_new w _
 have FK:Below w.heap.size w W0:=by rw[<- BZ];exact(Below.refl _ w).alloc (Ad _) _
 rw[BZ];obtain⟨W1,AV⟩:∃W1,(W0.alloc (.deferred (some []))).alloc (.loop (apRec fn (.func (.func g) #[] lb) w.heap.size W0.heap.size .ready none))=W1:=⟨_,rfl⟩;have hold:∀k,k<W0.heap.size->W1.heap[k]?=W0.heap[k]?:=λk hk=>by rw[<- AV];exact(Below.heap_alloc _ _ k (by simp;omega)).trans (Below.heap_alloc _ _ k hk)
 have FQ:Below w.heap.size w W1:=by rw[<- AV];exact(FK.alloc FK.size _).alloc (by have:=FK.size;simp;omega) _
 have AU:W1.heap.size=W0.heap.size+2:=by rw[<- AV];simp
 have hM:ApAt w fn (.func (.func g) #[] lb) w.heap.size (W0.heap.size+1) W0.heap.size [] W1:=
  ⟨⟨_,(hold w.heap.size (by omega)).trans Nw,⟨⟨rfl,.inl ⟨rfl,rfl⟩⟩,.nil _ _ _⟩,by simp⟩,
   by rw[<- AV];have:=World.alloc_heap_new (W0.alloc (.deferred (some []))) (.loop (apRec fn (.func (.func g) #[] lb) w.heap.size W0.heap.size .ready none));rwa [World.size_alloc]at this,
   by rw[<- AV];exact(Below.heap_alloc _ _ _ (by simp)).trans (World.alloc_heap_new W0 _),FQ⟩
 refine⟨W0.heap.size+1,[{ target:=.collected W0.heap.size,args:=#[] }],W1,{ target:=.fn (.func g) lb,args:=#[.func (.yield (W0.heap.size+1)) #[] #[]] },W1,g,
  #[.func (.yield (W0.heap.size+1)) #[] #[]]++lb,W1,?_,?_,?_,?_,λ_=>h1,?_⟩
 ·rw[<- AV];exact run_enterLoop_outer _ _ _ _ _
 ·simp[resolve,go_sem]
 ·intro f' KT;simp[Target.leads]at KT;subst KT;exact hFg
 ·simp[invoke,go_sem,eg]
 ·refine(Ob (W0.heap.size+1) (ApAt w fn (.func (.func g) #[] lb) w.heap.size (W0.heap.size+1) W0.heap.size) W1 FQ (ap_abides _ _ _ _ _ _ _ FQ.size)
   (λpre x W hJ hl=>apYield F (n-1-1) w fn Qr _ w.heap.size (W0.heap.size+1) W0.heap.size (by omega) (by omega) (by omega) (Ad _) (by omega) N hN yE pre x W hJ hl) hM).mono ?_
  rintro e W2 ⟨⟨v0,rfl⟩,ss,hS,h2⟩;obtain⟨v,hv,Aj,Dv⟩:=h2.box;have Dc:=run_endLoop (P:=Tryz.prog) h2.L (by simp[apRec]);obtain⟨W3,Dt⟩:∃W3,W2.putObj (W0.heap.size+1) (.loop { apRec fn (.func (.func g) #[] lb) w.heap.size W0.heap.size .ready none with state:=.exhausted })=W3:=⟨_,rfl⟩;rw[Dt]at Dc;have Ee:W2.grownBy W3 (some (W0.heap.size+1)):=by rw[<- Dt];exact grownBy_putObj_a _ _ _
  have UO:W3.heap[w.heap.size]?=some (.cells #[v] 88 (0,0)):=by rw[<- Dt];exact(World.putObj_heap_other (by omega)).trans hv
  have nJ:W3.heap[W0.heap.size]?=some (.deferred (some [])):=by rw[<- Dt];exact(World.putObj_heap_other (by omega)).trans h2.K
  have Wx:=Aj.kept Ee (ownsRow_ne_a Aj.own h2.L (λcur e=>by first|cases e|exact Aq (Obj.cells.inj e).2.1));have Hq:Below w.heap.size w W3:=h2.below.grown Ee h2.below.size (λk e=>by cases e;omega);obtain⟨MG,hf3⟩:=cell_of_box_a UO;clear Dt;refine⟨none,W3,Dc,?_⟩;gi_wp2;rw[<- WJ];refine⟨by simp,.inl ⟨_,_,rfl,run_takeDeferred nJ,?_⟩⟩;exact⟨_,results_tmp rfl _ _ _,v,ss,rfl,hS,Wx.kept (grownBy_putObj_a _ _ _) (ownsRow_ne_a Wx.own nJ (λcur e=>by first|cases e|exact Aq (Obj.cells.inj e).2.1)),Dv,Hq.grown (grownBy_putObj_a _ _ _) Hq.size (λk e=>by cases e;omega)⟩
theorem collect_in(F:Fence)(n:Nat)(h8:F.fn 55)(Ef:F.fn 73)(Fv:F.round=none)(hn:3<=n)(g:Nat)(lb:Array Value)(hFg:F.fn g)(eg:∀args w,(callFunc g args).run Tryz.prog w=.ok (.enter g args) w)
  (S:List Je->Prop) (N:Nat) (hN:N<=maxLen) (yE:N*40<=140737488355328) (w:World) (Ob:SeqGives F (n-1-1) Tryz.prog g lb U9 S N w) :
  CallsIn F n Tryz.prog 55 #[.func (.func g) #[] lb] w λe w'=>∃(v:Value)(ss:List Je),e=.returned v/\S ss/\PR w' w.heap.size v ss/\(v=.slice none 0 0↔ss=[])/\Below w.heap.size w w':=by
 have h1:1<=n:=by omega
 have FH:∀args w,(callFunc 73 args).run Tryz.prog w=.ok (.enter 73 args) w:=enters_of Tryz.func73 (by kernel_rfl) rfl;refine callsIn_of_wp Tryz.func55 rfl h8 ?_ Fv;simp only[Tryz.ntmps55,List.size_toArray,Gu,List.length_nil,Nat.reduceAdd,Nat.reduceSub,Array.replicate_succ,Array.replicate_zero,List.push_toArray,List.append_toArray,Gm,Hr]
 gi_wp2_with (gi_at_fn 73;refine(appendSeq_in F (n-1) Ef Fv (by omega) g lb hFg eg S N hN yE _ Ob).mono ?_;rintro e w' ⟨v,ss,rfl,hS,Aj,Dv,hb⟩)
 go_ret;exact⟨v,ss,rfl,hS,Aj,Dv,hb⟩
theorem Jho(b:Nat)(L:List (List Int × Value))(w:World)(hm:CJ w b L)(hN:L.length<=1000000) :
  Calls Tryz.prog 55 #[.func (.func 74) #[] #[.pointer (some ⟨w.heap.size,0,none⟩)]] (w.alloc (.cells #[.map (some b)] 70)) λe w'=>∃(v:Value)(ss:List Je),e=.returned v/\KeysOf L ss/\PR w' (w.heap.size+1) v ss/\(v=.slice none 0 0↔ss=[])/\Below (w.heap.size+1) (w.alloc (.cells #[.map (some b)] 70)) w':=by
 have X5:maxLen=9223372036854775807:=by decide
 have Ob:SeqGives Fence.wide 1 Tryz.prog 74 #[.pointer (some ⟨w.heap.size,0,none⟩)] U9 (KeysOf L) L.length (w.alloc (.cells #[.map (some b)] 70)):=
  keys_gives Fence.wide 1 trivial rfl (by omega) w.heap.size b L _ (by simp) (by have:=Ja (w:=w) (.cells #[.map (some b)] 70);exact(cell_of this 0).trans rfl) (hm.kept (J7 _ hm.lt))
 have:=collect_in Fence.wide 3 trivial trivial rfl (by omega) 74 #[.pointer (some ⟨w.heap.size,0,none⟩)] trivial (enters_of Tryz.func74 (by kernel_rfl) rfl) (KeysOf L) L.length (by omega) (by omega) _ Ob;rw[size_alloc]at this;exact callsIn_wide.1 this
end Go.Sim.Z
