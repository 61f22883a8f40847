/- PROVED HERE: laws that the statement rests on (parts TryzPlain, Wa, Wa0, Wb, Wc). Conditions: none. -/
import Derived.Shelf.SlSortCmp.NoneTotal
import Derived.Ground.SlsfProg
import Derived.Shelf.SlIterI.Collect
import Derived.Ground.GgzProg
import Derived.Shelf.Small.Bits
import Derived.Shelf.Small.Wraps
import Derived.Shelf.Strconv.Itoa0
import Derived.Ground.Names2Prog
import Derived.Shelf.Slices.Clone
import Derived.Shelf.Slices.SearchI
import Derived.Shelf.Slices.Empties
import Derived.Ground.SlgnProg
import Derived.Shelf.SlicesE.Clone
import Derived.Ground.SlgfProg
import Derived.Shelf.SlicesE.IndexFunc
import Derived.Shelf.SlicesE.DeleteFunc
import Derived.Test.YtlcbehhbfglgaaaGreatProg
import Derived.WalkKit
import Derived.LoopTactic
import Derived.Below
import Derived.Sort.Grow
import Derived.Deep.Draws
import Derived.Maps.AppendAt
import Derived.OwnWalkIn
import Derived.Deep.RegionWith
set_option linter.all false
namespace Go.Proofs
open Go.Shelf
def Tryz.lays134_ren:Go.Shelf.Ren:=⟨fun|134=>160|129=>113|n=>n,fun|53=>45|3=>3|4=>4|46=>129|5=>5|9=>9|n=>n,fun|n=>n⟩
theorem Tryz.lays134:Go.Proofs.Lays.n134 Tryz.prog Tryz.lays134_ren:={
 mixed:=by kernel_rfl
 f129:=Tryz.func113.trans (congrArg some (by kernel_rfl))
 f134:=Tryz.func160.trans (congrArg some (by kernel_rfl))
 t3:=Tryz.underlying3
 a3:=Tryz.isAgg3
 z3:=Tryz.sizeOf3
 v3:=Tryz.zeroValue3
 t4:=Tryz.underlying4
 a4:=Tryz.isAgg4
 z4:=Tryz.sizeOf4
 v4:=Tryz.zeroValue4
 t5:=Tryz.underlying5
 a5:=Tryz.isAgg5
 z5:=Tryz.sizeOf5
 v5:=Tryz.zeroValue5
 t9:=Tryz.underlying9
 a9:=Tryz.isAgg9
 z9:=Tryz.sizeOf9
 v9:=Tryz.zeroValue9
 t46:=Tryz.underlying129
 a46:=Tryz.isAgg129
 z46:=Tryz.sizeOf129
 v46:=Tryz.zeroValue129
 t53:=Tryz.underlying45
 a53:=Tryz.isAgg45
 z53:=Tryz.sizeOf45
 v53:=Tryz.zeroValue45 }
theorem Tryz.bits_LeadingZeros64 (x:Int) (w:World) (h0:0≤x) (h1:x≤18446744073709551615) :
  Calls Tryz.prog 160 #[.int .u64 x] w fun e w'=>e=.returned (.int .i64 (64-(Lib.bitLen x.toNat:Int)))∧w'=w:=Any.bits_LeadingZeros64 Tryz.lays134 x w h0 h1
def Tryz.lays122_ren:Go.Shelf.Ren:=⟨fun|122=>103|215=>128|n=>n,fun|3=>3|4=>4|n=>n,fun|n=>n⟩
theorem Tryz.lays122:Go.Proofs.Lays.n122 Tryz.prog Tryz.lays122_ren:={
 mixed:=by kernel_rfl
 f122:=Tryz.func103.trans (congrArg some (by kernel_rfl))
 f215:=Tryz.func128.trans (congrArg some (by kernel_rfl))
 t3:=Tryz.underlying3
 a3:=Tryz.isAgg3
 z3:=Tryz.sizeOf3
 v3:=Tryz.zeroValue3
 t4:=Tryz.underlying4
 a4:=Tryz.isAgg4
 z4:=Tryz.sizeOf4
 v4:=Tryz.zeroValue4 }
open Go.RowKit in
theorem Tryz.cmp_Compare_int (x y:Int) (w:World) :
  Calls Tryz.prog 103 #[.int .i64 x,.int .i64 y] w fun e w'=>e=.returned (.int .i64 (Lib.compareInt x y))∧w'=w:=Any.cmp_Compare_int Tryz.lays122 x y w
def Tryz.laysNm225_ren:Go.Shelf.Ren:=⟨fun|25=>167|31=>120|32=>169|37=>128|n=>n,fun|22=>33|3=>3|4=>4|40=>129|0=>0|n=>n,fun|n=>n⟩
theorem Tryz.laysNm225:Go.Proofs.Lays2.n25 Tryz.prog Tryz.laysNm225_ren:={
 mixed:=by kernel_rfl
 f25:=Tryz.func167.trans (congrArg some (by kernel_rfl))
 f31:=Tryz.func120.trans (congrArg some (by kernel_rfl))
 f32:=Tryz.func169.trans (congrArg some (by kernel_rfl))
 f37:=Tryz.func128.trans (congrArg some (by kernel_rfl))
 t0:=Tryz.underlying0
 a0:=Tryz.isAgg0
 z0:=Tryz.sizeOf0
 v0:=Tryz.zeroValue0
 t3:=Tryz.underlying3
 a3:=Tryz.isAgg3
 z3:=Tryz.sizeOf3
 v3:=Tryz.zeroValue3
 t4:=Tryz.underlying4
 a4:=Tryz.isAgg4
 z4:=Tryz.sizeOf4
 v4:=Tryz.zeroValue4
 t22:=Tryz.underlying33
 a22:=Tryz.isAgg33
 z22:=Tryz.sizeOf33
 v22:=Tryz.zeroValue33
 t40:=Tryz.underlying129
 a40:=Tryz.isAgg129
 z40:=Tryz.sizeOf129
 v40:=Tryz.zeroValue129 }
open Go.RowKit Go.Lib in
theorem Tryz.slices_BinarySearch_int (b off n c:Nat) (zs:List Int) (x:Int) (w:World) (hz:n≤zs.length) (hbig:n<4611686018427387904) (hc:∀ j,j<zs.length→w.cell? ⟨b,off+j,none⟩=some (.int .i64 (zs.getD j 0))) (hs:(zs.take n).Pairwise (·≤·)) :
  Calls Tryz.prog 167 #[.slice (some ⟨b,off,none⟩) n c,.int .i64 x] w fun e w'=>e=.returned (.tuple #[.int .i64 ((zs.take n).countP (· < x):Nat),.bool ((zs.take n).contains x)])∧∃ q,w'=w.drewN q:=Any.slices_BinarySearch_int Tryz.laysNm225 b off n c zs x w hz hbig hc hs
open Go.RowKit Go.Lib in
theorem Tryz.slices_BinarySearch_int_empty (a:Option Addr) (c:Nat) (x:Int) (w:World) :
  Calls Tryz.prog 167 #[.slice a 0 c,.int .i64 x] w fun e w'=>e=.returned (.tuple #[.int .i64 0,.bool false])∧w'=w:=Any.slices_BinarySearch_int_empty Tryz.laysNm225 a c x w
def Tryz.laysSlH8_f20_ren:Go.Shelf.Ren:=⟨fun|8=>20|6=>53|n=>n,fun|22=>33|23=>3|25=>66|4=>4|3=>3|0=>0|n=>n,fun|n=>n⟩
theorem Tryz.laysSlH8_f20:Go.Proofs.SlLaysH.n8 Tryz.prog Tryz.laysSlH8_f20_ren:={
 mixed:=by kernel_rfl
 f6:=⟨Tryz.f53.name,by decide,Tryz.func53.trans (congrArg some (by kernel_rfl))⟩
 f8:=⟨Tryz.f20.name,by decide,Tryz.func20.trans (congrArg some (by kernel_rfl))⟩
 t0:=Tryz.underlying0
 a0:=Tryz.isAgg0
 z0:=Tryz.sizeOf0
 v0:=Tryz.zeroValue0
 t3:=Tryz.underlying3
 a3:=Tryz.isAgg3
 z3:=Tryz.sizeOf3
 v3:=Tryz.zeroValue3
 t4:=Tryz.underlying4
 a4:=Tryz.isAgg4
 z4:=Tryz.sizeOf4
 v4:=Tryz.zeroValue4
 t22:=Tryz.underlying33
 a22:=Tryz.isAgg33
 z22:=Tryz.sizeOf33
 v22:=Tryz.zeroValue33
 a23:=Tryz.isAgg3
 z23:=Tryz.sizeOf3
 t25:=Tryz.underlying66
 a25:=Tryz.isAgg66
 z25:=Tryz.sizeOf66
 v25:=Tryz.zeroValue66 }
open Go.RowKit Go.Lib in
theorem Tryz.slices_ContainsFunc {α:Type} [Inhabited α] (enc:α→Value) (p:α→Bool) (g:Nat) (lb:Array Value) (eg:∀ args w,(callFunc g args).run Tryz.prog w=.ok (.enter g args) w) (b off n c:Nat) (zs:List α) (w:World) (hp:PredAt Tryz.prog g lb enc p w) (hz:n≤zs.length) (hbig:n≤9223372036854775807) (hc:∀ j,j<zs.length→w.cell? ⟨b,off+j,none⟩=some (enc zs[j]!)) :
  Calls Tryz.prog 20 #[.slice (some ⟨b,off,none⟩) n c,.func (.func g) #[] lb] w fun e w'=>e=.returned (.bool ((zs.take n).any p))∧∃ q,w'=w.drewN q:=AnyE.slices_ContainsFunc Tryz.laysSlH8_f20 enc p g lb eg b off n c zs w hp hz hbig hc
def Tryz.laysSlH10_f67_ren:Go.Shelf.Ren:=⟨fun|10=>67|6=>53|n=>n,fun|22=>33|23=>3|25=>66|3=>3|4=>4|0=>0|n=>n,fun|n=>n⟩
theorem Tryz.laysSlH10_f67:Go.Proofs.SlLaysH.n10 Tryz.prog Tryz.laysSlH10_f67_ren:={
 mixed:=by kernel_rfl
 f6:=⟨Tryz.f53.name,by decide,Tryz.func53.trans (congrArg some (by kernel_rfl))⟩
 f10:=⟨Tryz.f67.name,by decide,Tryz.func67.trans (congrArg some (by kernel_rfl))⟩
 t0:=Tryz.underlying0
 a0:=Tryz.isAgg0
 z0:=Tryz.sizeOf0
 v0:=Tryz.zeroValue0
 t3:=Tryz.underlying3
 a3:=Tryz.isAgg3
 z3:=Tryz.sizeOf3
 v3:=Tryz.zeroValue3
 t4:=Tryz.underlying4
 a4:=Tryz.isAgg4
 z4:=Tryz.sizeOf4
 v4:=Tryz.zeroValue4
 t22:=Tryz.underlying33
 a22:=Tryz.isAgg33
 z22:=Tryz.sizeOf33
 v22:=Tryz.zeroValue33
 a23:=Tryz.isAgg3
 z23:=Tryz.sizeOf3
 t25:=Tryz.underlying66
 a25:=Tryz.isAgg66
 z25:=Tryz.sizeOf66
 v25:=Tryz.zeroValue66 }
open Go.RowKit Go.Lib Go.Sort in
theorem Tryz.slices_DeleteFunc {α:Type} [Inhabited α] (enc:α→Value) (hO:OneCell enc) (p:α→Bool) (g:Nat) (lb:Array Value) (eg:∀ args w,(callFunc g args).run Tryz.prog w=.ok (.enter g args) w) (zr:α) (v23:∀ w,(zeroValue 3).run Tryz.prog w=.ok (enc zr) w) (blk off cap:Nat) (d:Array α) (w:World) (hp:PredAt Tryz.prog g lb enc p w) (hpo:PredOver Tryz.prog g lb enc p blk off d.size w) (hH:Holds enc w blk off d) (hsz:d.size≤9223372036854775807) (hcap:d.size≤cap) :
  Calls Tryz.prog 67 #[.slice (some ⟨blk,off,none⟩) d.size cap,.func (.func g) #[] lb] w fun e w'=>e=.returned (.slice (some ⟨blk,off,none⟩) (d.toList.filter fun x=>!p x).length cap)∧∃ q,w'=putRow enc (Sort.ahead w q) blk off ((d.toList.filter fun x=>!p x)++List.replicate (d.size-(d.toList.filter fun x=>!p x).length) zr).toArray:=AnyE.slices_DeleteFunc Tryz.laysSlH10_f67 enc hO p g lb eg zr v23 blk off cap d w hp hpo hH hsz hcap
def Tryz.sortK_ren:Go.Shelf.Ren:=⟨fun|6=>57|15=>76|14=>75|28=>112|29=>113|20=>104|21=>105|22=>106|23=>107|24=>108|25=>109|26=>110|27=>111|46=>129|47=>130|48=>131|49=>132|50=>133|57=>137|n=>n,fun|22=>88|24=>76|25=>135|3=>3|39=>129|0=>0|53=>101|55=>45|4=>4|46=>181|45=>180|50=>185|5=>5|9=>9|66=>203|70=>206|76=>210|77=>211|n=>n,fun|n=>n⟩
theorem Tryz.sortK:Go.Proofs.SlLaysF0.n6 Tryz.prog Tryz.sortK_ren:={
 mixed:=by kernel_rfl
 f6:=⟨Tryz.f57.name,by decide,Tryz.func57.trans (congrArg some (by kernel_rfl))⟩
 f14:=⟨Tryz.f75.name,by decide,Tryz.func75.trans (congrArg some (by kernel_rfl))⟩
 f15:=Tryz.func76.trans (congrArg some (by kernel_rfl))
 f20:=⟨Tryz.f104.name,by decide,Tryz.func104.trans (congrArg some (by kernel_rfl))⟩
 f21:=⟨Tryz.f105.name,by decide,Tryz.func105.trans (congrArg some (by kernel_rfl))⟩
 f22:=⟨Tryz.f106.name,by decide,Tryz.func106.trans (congrArg some (by kernel_rfl))⟩
 f23:=⟨Tryz.f107.name,by decide,Tryz.func107.trans (congrArg some (by kernel_rfl))⟩
 f24:=⟨Tryz.f108.name,by decide,Tryz.func108.trans (congrArg some (by kernel_rfl))⟩
 f25:=⟨Tryz.f109.name,by decide,Tryz.func109.trans (congrArg some (by kernel_rfl))⟩
 f26:=⟨Tryz.f110.name,by decide,Tryz.func110.trans (congrArg some (by kernel_rfl))⟩
 f27:=⟨Tryz.f111.name,by decide,Tryz.func111.trans (congrArg some (by kernel_rfl))⟩
 f28:=Tryz.func112.trans (congrArg some (by kernel_rfl))
 f29:=Tryz.func113.trans (congrArg some (by kernel_rfl))
 f46:=⟨Tryz.f129.name,by decide,Tryz.func129.trans (congrArg some (by kernel_rfl))⟩
 f47:=Tryz.func130.trans (congrArg some (by kernel_rfl))
 f48:=Tryz.func131.trans (congrArg some (by kernel_rfl))
 f49:=⟨Tryz.f132.name,by decide,Tryz.func132.trans (congrArg some (by kernel_rfl))⟩
 f50:=⟨Tryz.f133.name,by decide,Tryz.func133.trans (congrArg some (by kernel_rfl))⟩
 f57:=⟨Tryz.f137.name,by decide,Tryz.func137.trans (congrArg some (by kernel_rfl))⟩
 t0:=Tryz.underlying0
 a0:=Tryz.isAgg0
 z0:=Tryz.sizeOf0
 v0:=Tryz.zeroValue0
 t3:=Tryz.underlying3
 a3:=Tryz.isAgg3
 z3:=Tryz.sizeOf3
 v3:=Tryz.zeroValue3
 t4:=Tryz.underlying4
 a4:=Tryz.isAgg4
 z4:=Tryz.sizeOf4
 v4:=Tryz.zeroValue4
 t5:=Tryz.underlying5
 a5:=Tryz.isAgg5
 z5:=Tryz.sizeOf5
 v5:=Tryz.zeroValue5
 t9:=Tryz.underlying9
 a9:=Tryz.isAgg9
 z9:=Tryz.sizeOf9
 v9:=Tryz.zeroValue9
 t22:=Tryz.underlying88
 a22:=Tryz.isAgg88
 z22:=Tryz.sizeOf88
 v22:=Tryz.zeroValue88
 t25:=Tryz.underlying135
 a25:=Tryz.isAgg135
 z25:=Tryz.sizeOf135
 v25:=Tryz.zeroValue135
 t39:=Tryz.underlying129
 a39:=Tryz.isAgg129
 z39:=Tryz.sizeOf129
 v39:=Tryz.zeroValue129
 t45:=Tryz.underlying180
 a45:=Tryz.isAgg180
 z45:=Tryz.sizeOf180
 v45:=Tryz.zeroValue180
 t46:=Tryz.underlying181
 a46:=Tryz.isAgg181
 z46:=Tryz.sizeOf181
 v46:=Tryz.zeroValue181
 t50:=Tryz.underlying185
 a50:=Tryz.isAgg185
 z50:=Tryz.sizeOf185
 v50:=Tryz.zeroValue185
 t53:=Tryz.underlying101
 a53:=Tryz.isAgg101
 z53:=Tryz.sizeOf101
 v53:=Tryz.zeroValue101
 t55:=Tryz.underlying45
 a55:=Tryz.isAgg45
 z55:=Tryz.sizeOf45
 v55:=Tryz.zeroValue45
 t66:=Tryz.underlying203
 a66:=Tryz.isAgg203
 z66:=Tryz.sizeOf203
 v66:=Tryz.zeroValue203
 t70:=Tryz.underlying206
 a70:=Tryz.isAgg206
 z70:=Tryz.sizeOf206
 v70:=Tryz.zeroValue206
 t76:=Tryz.underlying210
 a76:=Tryz.isAgg210
 z76:=Tryz.sizeOf210
 v76:=Tryz.zeroValue210
 t77:=Tryz.underlying211
 a77:=Tryz.isAgg211
 z77:=Tryz.sizeOf211
 v77:=Tryz.zeroValue211 }
def Tryz.collectI_ren:Go.Shelf.Ren:=⟨fun|8=>59|11=>78|n=>n,fun|26=>3|28=>99|24=>33|0=>0|33=>66|4=>4|n=>n,fun|n=>n⟩
theorem Tryz.collectI:Go.Proofs.SlLaysZI.n8 Tryz.prog Tryz.collectI_ren:={
 mixed:=by kernel_rfl
 f8:=⟨Tryz.f59.name,by decide,Tryz.func59.trans (congrArg some (by kernel_rfl))⟩
 f11:=⟨Tryz.f78.name,by decide,Tryz.func78.trans (congrArg some (by kernel_rfl))⟩
 t0:=Tryz.underlying0
 a0:=Tryz.isAgg0
 z0:=Tryz.sizeOf0
 v0:=Tryz.zeroValue0
 t24:=Tryz.underlying33
 a24:=Tryz.isAgg33
 z24:=Tryz.sizeOf33
 v24:=Tryz.zeroValue33
 t26:=Tryz.underlying3
 a26:=Tryz.isAgg3
 z26:=Tryz.sizeOf3
 v26:=Tryz.zeroValue3
 t28:=Tryz.underlying99
 a28:=Tryz.isAgg99
 z28:=Tryz.sizeOf99
 v28:=Tryz.zeroValue99
 i26:=by kernel_rfl }
def Tryz.keysI_ren:Go.Shelf.Ren:=⟨fun|10=>61|n=>n,fun|33=>66|23=>62|0=>0|4=>4|26=>3|3=>70|n=>n,fun|n=>n⟩
theorem Tryz.keysI:Go.Proofs.SlLaysZI.n10 Tryz.prog Tryz.keysI_ren:={
 mixed:=by kernel_rfl
 f10:=⟨Tryz.f61.name,by decide,Tryz.func61.trans (congrArg some (by kernel_rfl))⟩
 t0:=Tryz.underlying0
 a0:=Tryz.isAgg0
 z0:=Tryz.sizeOf0
 v0:=Tryz.zeroValue0
 t4:=Tryz.underlying4
 a4:=Tryz.isAgg4
 z4:=Tryz.sizeOf4
 v4:=Tryz.zeroValue4
 t23:=Tryz.underlying62
 a23:=Tryz.isAgg62
 z23:=Tryz.sizeOf62
 v23:=Tryz.zeroValue62
 t26:=Tryz.underlying3
 a26:=Tryz.isAgg3
 z26:=Tryz.sizeOf3
 v26:=Tryz.zeroValue3
 t33:=Tryz.underlying66
 a33:=Tryz.isAgg66
 z33:=Tryz.sizeOf66
 v33:=Tryz.zeroValue66 }
end Go.Proofs
namespace Go.Sim.Z
open Go Go.Proofs Go.RowKit
structure Tch (N:Nat) (M:Nat→Prop) (w w':World):Prop where
 size:w.heap.size≤w'.heap.size
 heap:∀ b,b<N→¬ M b→w'.heap[b]?=w.heap[b]?
 tape:w'.tape=w.tape
 os:w'.os=w.os
 output:w'.output=w.output
def M0:Nat→Prop:=fun _=>False
section
variable {N N':Nat} {M M':Nat→Prop} {w w1 w2:World} {b:Nat}
theorem Tch.refl:Tch N M w w:=⟨Nat.le_refl _,fun _ _ _=>rfl,rfl,rfl,rfl⟩
theorem Tch.trans (h:Tch N M w w1) (k:Tch N M w1 w2):Tch N M w w2:=⟨Nat.le_trans h.size k.size,fun b hb hm=>(k.heap b hb hm).trans (h.heap b hb hm),k.tape.trans h.tape,k.os.trans h.os,k.output.trans h.output⟩
theorem Tch.mono (h:Tch N M w w1) (hN:N'≤N) (hM:∀ b,b<N'→M b→M' b):Tch N' M' w w1:=⟨h.size,fun b hb hm=>h.heap b (by omega) fun hx=>hm (hM b hb hx),h.tape,h.os,h.output⟩
theorem Tch.drew (h:Tch N M w w1):Tch N M w w1.drew:=⟨h.size,h.heap,h.tape,h.os,h.output⟩
theorem Tch.alloc (h:Tch N M w w1) (hN:N≤w1.heap.size) (o:Obj):Tch N M w (w1.alloc o):=
 ⟨Nat.le_trans h.size (by simp),fun b hb hm=>(Below.heap_alloc _ _ _ (by omega)).trans (h.heap b hb hm),h.tape,h.os,h.output⟩
theorem Tch.set (h:Tch N M w w1) {a:Addr} (ha:N≤a.block∨M a.block) (v:Value):Tch N M w (w1.setCell a v):=
 ⟨Nat.le_trans h.size (by simp [World.setCell]),fun b hb hm=>(Below.heap_setCell _ _ _ _ (by rintro rfl;rcases ha with ha|ha;omega;exact hm ha)).trans (h.heap b hb hm),h.tape,h.os,h.output⟩
theorem Tch.cell (h:Tch N M w w1) {a:Addr} (ha:a.block<N) (hm:¬ M a.block):w1.cell? a=w.cell? a:=World.cell?_of_block (w:=w) (h.heap _ ha hm)
theorem Tch.of_below (h:Below N w w1):Tch N M w w1:=⟨h.size,fun b hb _=>h.block b hb,h.tape,h.os,h.output⟩
theorem Tch.then (h:Tch N M w w1) (k:Tch w1.heap.size M' w1 w2) (hN:N≤w1.heap.size) (hM:∀ b,b<N→M' b→M b):Tch N M w w2:=
 h.trans (k.mono hN hM)
theorem Tch.grown (h:Tch w.heap.size M0 w w1) (h6:w.drawn≤w1.drawn):∃ q os,w1=Sort.grow (w.drewN q) os:=by
 refine ⟨w1.drawn-w.drawn,w1.heap.extract w.heap.size w1.heap.size,?_⟩
 obtain ⟨h1,h2,h3,h4,h5⟩:=h
 have e:w1.heap=w.heap++w1.heap.extract w.heap.size w1.heap.size:=by
  apply Array.ext_getElem?
  intro i
  rw [Array.getElem?_append]
  split
  ·rename_i hi;exact h2 i hi (fun h=>h)
  ·rename_i hi
   rw [Array.getElem?_extract]
   split
   ·congr 1;omega
   ·rw [Array.getElem?_eq_none (by omega)]
 have ed:w.drawn+(w1.drawn-w.drawn)=w1.drawn:=by omega
 obtain ⟨a1,a2,a3,a4,a5⟩:=w1
 simp only at h3 h4 h5 ed e
 subst h3 h4 h5
 simp only [Sort.grow,World.drewN,ed]
 congr 1
theorem cell_of {arr:Array Value} {t:TypeId} {z:Nat × Nat} (h:w.heap[b]?=some (.cells arr t z)) (i:Nat):w.cell? ⟨b,i,none⟩=arr[i]?:=by simp [World.cell?,h]
theorem frozen_of {arr:Array Value} {t:TypeId} (h:w.heap[b]?=some (.cells arr t)) (i:Nat):w.frozen? ⟨b,i,none⟩=false:=by simp [World.frozen?,h]
theorem heap_set {arr:Array Value} {t:TypeId} (h:w.heap[b]?=some (.cells arr t)) (i:Nat) (v:Value):(w.setCell ⟨b,i,none⟩ v).heap[b]?=some (.cells (arr.setIfInBounds i v) t):=by
 simp only [World.setCell,Array.getElem?_modify,if_true,h,Option.map_some]
 simp
theorem heap_ne (a:Addr) (v:Value) (h:b≠a.block):(w.setCell a v).heap[b]?=w.heap[b]?:=Below.heap_setCell _ _ _ _ h
theorem heap_new (o:Obj):(w.alloc o).heap[w.heap.size]?=some o:=by show (w.heap.push o)[w.heap.size]?=_;simp
theorem heap_old (o:Obj) {b:Nat} (h:b<w.heap.size):(w.alloc o).heap[b]?=w.heap[b]?:=Below.heap_alloc _ _ _ h
theorem size_alloc (o:Obj):(w.alloc o).heap.size=w.heap.size+1:=by show (w.heap.push o).size=_;simp
theorem size_set (a:Addr) (v:Value):(w.setCell a v).heap.size=w.heap.size:=by simp [World.setCell]
theorem lt_of {o:Obj} (h:w.heap[b]?=some o):b<w.heap.size:=(Array.getElem?_eq_some_iff.1 h).1
end
def ai (k:IntKind) (xs:List Int):Array Value:=(xs.map (Value.int k)).toArray
section
variable {k:IntKind} {xs:List Int}
@[simp] theorem ai_size:(ai k xs).size=xs.length:=by simp [ai]
theorem ai_get (i:Nat):(ai k xs)[i]?=(xs[i]?).map (Value.int k):=by simp [ai]
theorem ai_some {i:Nat} (h:i<xs.length):(ai k xs)[i]?=some (.int k (xs.getD i 0)):=by
 rw [ai_get,List.getElem?_eq_getElem h,List.getD_eq_getElem?_getD,List.getElem?_eq_getElem h];rfl
theorem ai_set {i:Nat} (v:Int):(ai k xs).setIfInBounds i (.int k v)=ai k (xs.set i v):=by
 apply Array.ext_getElem?
 intro j
 rw [Array.getElem?_setIfInBounds,ai_get,ai_get,List.getElem?_set]
 by_cases h:i=j
 ·subst h
  simp only [if_true,ai_size]
  split<;>simp_all
 ·simp [h]
end
def IsInt (v:Value):Prop:=∃ k n,v=.int k n
def Plain (cur:Array Value):Prop:=∀ v∈cur.toList,IsInt v
theorem Plain.at {cur:Array Value} (h:Plain cur) {i:Nat} {v:Value} (hv:cur[i]?=some v):IsInt v:=h v (Array.mem_toList_iff.2 (Array.mem_of_getElem? hv))
theorem Plain.of_get {cur:Array Value} (h:∀ (i:Nat) v,cur[i]?=some v→IsInt v):Plain cur:=fun v hv=>by
 obtain ⟨i,hi,rfl⟩:=List.getElem_of_mem hv
 exact h i _ (by simp at hi;simp [hi])
theorem Plain.set {cur:Array Value} (h:Plain cur) (i:Nat) {v:Value} (hv:IsInt v):Plain (cur.setIfInBounds i v):=.of_get fun j u hu=>by
 rw [Array.getElem?_setIfInBounds] at hu
 split at hu
 ·split at hu
  ·cases hu;exact hv
  ·cases hu
 ·exact h.at hu
theorem Plain.append {a b:Array Value} (h:Plain a) (k:Plain b):Plain (a++b):=fun v hv=>by
 rw [Array.toList_append,List.mem_append] at hv
 exact hv.elim (h v) (k v)
theorem Plain.replicate {n:Nat} {v:Value} (h:IsInt v):Plain (Array.replicate n v):=fun u hu=>by
 simp only [Array.toList_replicate] at hu
 rw [List.eq_of_mem_replicate hu];exact h
theorem Plain.list {l:List Value} (h:∀ v∈l,IsInt v):Plain l.toArray:=fun v hv=>h v (by simpa using hv)
theorem Plain.ai {k:IntKind} {xs:List Int}:Plain (ai k xs):=.list fun v hv=>by obtain ⟨x,_,rfl⟩:=List.mem_map.1 hv;exact ⟨_,_,rfl⟩
theorem Plain.madeCells {zs:Array Value} (h:Plain zs) (n:Nat):Plain (Builtin.zeroCells zs n):=fun v hv=>by
 unfold Builtin.zeroCells at hv
 rw [Array.toList_map] at hv
 obtain ⟨i,hi,rfl⟩:=List.mem_map.1 hv
 have hlt:i<n*zs.size:=by simpa using hi
 have hpos:0<zs.size:=by
  rcases Nat.eq_zero_or_pos zs.size with h0|h0
  ·rw [h0] at hlt;omega
  ·exact h0
 have hm:i % zs.size<zs.size:=Nat.mod_lt _ hpos
 rw [getElem!_pos zs (i % zs.size) hm]
 exact h _ (by simp)
def PlainV (w:World) (v:Value):Prop:=∀ g n cap,v=.slice (some ⟨g,0,none⟩) n cap→∀ arr e z,w.heap[g]?=some (.cells arr e z)→Plain arr
theorem PlainV.nil (w:World) (l c:Nat):PlainV w (.slice none l c):=fun _ _ _ h=>by cases h
theorem PlainV.kept {w w':World} {v:Value} (h:PlainV w v) (hh:∀ g n cap,v=.slice (some ⟨g,0,none⟩) n cap→w'.heap[g]?=w.heap[g]?):PlainV w' v:=fun g n cap e arr t z ha=>h g n cap e arr t z ((hh g n cap e)▸ha)
theorem append_plain {P:Program} (w:World) (base:Nat) (t ty e:TypeId) (i:TypeInfo) (z:Value) (size bytes:Nat) (ht:P.underlying t=some (.slice e)) (hi:P.info? e=some i) (hz:i.zero=some z)
  (hsize:i.size=size) (hby:i.bytes=bytes) (hzs:z.cells.size=size) (hsz:0<size)
  (v:Value) (n:Nat) (xs:List Value) (hown:w.ownsRow base e size v n xs)
  (a:Addr) (m c:Nat) (news:List Value) (hl:news.length=m*size) (hnews:∀ j u,news[j]?=some u→w.cell? (a.add j)=some u) (h1:∀ u∈news,u.oneCell'=true)
  (h63:n+m≤maxLen) (hbytes:(n+m)*bytes≤140737488355328) (hp:PlainV w v) (hni:∀ u∈news,IsInt u) (hzi:Plain z.cells) {v':Value} {w':World}
  (hr':(Builtin.append_ #[t,t] ty #[v,.slice (some a) m c]).run P w=.ok v' w'):PlainV w' v':=by
 subst hsize
 subst hby
 have hsmall:n+m≤9223372036854775807:=by simp only [maxLen] at h63;omega
 rcases hown.2 with ⟨rfl,rfl⟩|⟨g,cap,cur,rfl,hbg,hg,hnc,hcm,hcs,htake⟩
 ·have hx:xs=[]:=List.eq_nil_of_length_eq_zero (by simpa using hown.1)
  subst hx
  by_cases hm:m=0
  ·subst hm
   have hn:news=[]:=List.eq_nil_of_length_eq_zero (by simpa using hl)
   subst hn
   have hr:(Builtin.append_ #[t,t] ty #[.slice none 0 0,.slice (some a) 0 c]).run P w=.ok (.slice none 0 0) w:=by
    simp [Builtin.append_,run_underlying ht,sizeOf,typeInfo,hi,Builtin.lenOf,Builtin.firstCells,loadCells,loadCellsFrom]
   rw [hr] at hr'
   cases hr'
   exact .nil _ _ _
  ·have hr:=run_append_nil (P:=P) w t ty e i z ht hi hz a m c news hl hnews (by omega) (by omega) (by have hb:=hbytes;simp only [Nat.zero_add] at hb;omega)
   rw [hr] at hr'
   cases hr'
   intro g n cap e1 arr t z ha
   cases e1
   have hq:=ha.symm.trans (heap_alloc_new w.drew _)
   cases hq
   exact (Plain.list hni).append (hzi.madeCells _)
 ·have hpc:Plain cur:=hp g n cap rfl cur e _ hg
  have hxi:∀ u∈xs,IsInt u:=fun u hu=>hpc u (List.mem_of_mem_take (htake▸hu))
  by_cases hroom:n+m≤cap
  ·have hfit:n*i.size+news.length≤cur.size:=by rw [hl,hcs,← Nat.add_mul];exact Nat.mul_le_mul_right _ hroom
   have hr:=run_append_room (P:=P) w t ty e i ht hi g n cap cur hg a m c news hl hnews h1 hroom hfit
   rw [hr] at hr'
   cases hr'
   intro g' n' cap' e1 arr t z ha
   cases e1
   rw [setRow_heap w g cur _ e _ hg] at ha
   cases ha
   refine Plain.list fun u hu=>?_
   rcases List.mem_append.1 hu with hu|hu
   ·rcases List.mem_append.1 hu with hu|hu
    ·exact hpc u (List.mem_of_mem_take hu)
    ·exact hni u hu
   ·exact hpc u (List.mem_of_mem_drop hu)
  ·have holds:∀ j u,xs[j]?=some u→w.cell? ((⟨g,0,none⟩:Addr).add j)=some u:=hown.cells (g:=g) rfl
   have hr:=run_append_grow (P:=P) w t ty e i z ht hi hz ⟨g,0,none⟩ n cap xs hown.1 holds a m c news hl hnews (by omega) (by omega) (growslice_fits (by omega) hbytes)
   rw [hr] at hr'
   cases hr'
   intro g' n' cap' e1 arr t z ha
   cases e1
   have hq:=ha.symm.trans (heap_alloc_new w.drew _)
   cases hq
   exact ((Plain.list hxi).append (Plain.list hni)).append (hzi.madeCells _)
theorem wpListIn_append_plain {F:Fence} {n:Nat} {P:Program} (w:World) {ops:Array Oper} {rest:List Oper} {o:Oper} {a:Act} {Q:Exit→Act→World→Prop}
  (hg:o.guard=none) (s x:Operand) (t:TypeId) (hop:o.op=Op.call { callee:=Callee.builtin Builtin.append,args:=#[s,x],argTypes:=#[t,t] })
  (base:Nat) (e:TypeId) (i:TypeInfo) (z:Value) (size bytes:Nat) (h1:P.underlying t=some (.slice e)) (h2:P.info? e=some i) (h3:i.zero=some z) (h4:i.size=size) (h5:i.bytes=bytes) (h6:z.cells.size=size) (h7:0<size)
  (v:Value) (k:Nat) (xs:List Value) (hs:a.eval s=v) (hown:w.ownsRow base e size v k xs) (ad:Addr) (m c:Nat) (news:List Value) (hx:a.eval x=.slice (some ad) m c) (hn:news.length=m*size)
  (hc:∀ j u,news[j]?=some u→w.cell? (ad.add j)=some u) (h1c:∀ u∈news,u.oneCell'=true) (b1:k+m≤maxLen) (b2:(k+m)*bytes≤140737488355328) (b3:base≤w.heap.size) (hp:PlainV w v) (hni:∀ u∈news,IsInt u) (hzi:Plain z.cells)
  (hK:∀ v' w',w'.ownsRow base e size v' (k+m) (xs++news)→w.grownBy w' v.ownBlock→(v'=.slice none 0 0↔v=.slice none 0 0∧m=0)→PlainV w' v'→wpListIn F n P ops Q rest (a.put o.dst v') w') :
  wpListIn F n P ops Q (o::rest) a w:=by
 refine wpListIn_plain hg fun K hK'=>?_
 obtain ⟨v',w',hrun,r1,r2,r3⟩:=run_append_own (P:=P) w base t o.type e i z size bytes h1 h2 h3 h4 h5 h6 h7 v k xs hown ad m c news hn hc h1c b1 b2 b3
 unfold Oper.wpIn
 refine ⟨?_,?_⟩
 ·simp [Oper.about,hop,resolve,Target.leads,Sem.run_pure]
 ·rw [Oper.semAt_plain F _ _ (by rw [hop];intro c hc';cases hc')]
  simp [execOp,hop,resolve,invoke,builtin,hs,hx,hrun,Result.andThen]
  exact hK' _ _ (hK v' w' r1 r2 r3 (append_plain w base t o.type e i z size bytes h1 h2 h3 h4 h5 h6 h7 v k xs hown ad m c news hn hc h1c b1 b2 hp hni hzi hrun))
theorem wpList_append_plain {P:Program} (w:World) {ops:Array Oper} {rest:List Oper} {o:Oper} {a:Act} {Q:Exit→Act→World→Prop} (hgd:o.guard=none) (s x:Operand) (t:TypeId)
  (ho:o.op=.call { callee:=.builtin .append,args:=#[s,x],argTypes:=#[t,t] })
  (base:Nat) (e:TypeId) (i:TypeInfo) (z:Value) (size bytes:Nat) (ht:P.underlying t=some (.slice e)) (hi:P.info? e=some i) (hz:i.zero=some z)
  (hsize:i.size=size) (hby:i.bytes=bytes) (hzs:z.cells.size=size) (hsz:0<size)
  (v:Value) (n:Nat) (xs:List Value) (hs:a.eval s=v) (hown:w.ownsRow base e size v n xs)
  (ad:Addr) (m c:Nat) (news:List Value) (hx:a.eval x=.slice (some ad) m c) (hl:news.length=m*size) (hnews:∀ j u,news[j]?=some u→w.cell? (ad.add j)=some u) (h1:∀ u∈news,u.oneCell'=true)
  (h63:n+m≤maxLen) (hbytes:(n+m)*bytes≤140737488355328) (hbase:base≤w.heap.size) (hp:PlainV w v) (hni:∀ u∈news,IsInt u) (hzi:Plain z.cells)
  (h:∀ v' w',w'.ownsRow base e size v' (n+m) (xs++news)→w.grownBy w' v.ownBlock→(v'=.slice none 0 0↔v=.slice none 0 0∧m=0)→PlainV w' v'→wpList P ops Q rest (a.put o.dst v') w') :
  wpList P ops Q (o::rest) a w:=by
 refine wpList_plain hgd fun K hK=>?_
 obtain ⟨v',w',hr,h2,h3,h4,h5⟩:=run_append_own_at (P:=P) w base t o.type e i z size bytes ht hi hz hsize hby hzs hsz v n xs hown ad m c news hl hnews h1 h63 hbytes hbase
 unfold Oper.wp execOp
 simp only [ho,resolve,invoke,builtin,Sem.run_bind,Sem.run_pure,Result.andThen_ok,List.map_toArray,List.map_cons,List.map_nil,hs,hx,hr]
 exact hK _ _ (h v' w' h2 h3 h4 (append_plain w base t o.type e i z size bytes ht hi hz hsize hby hzs hsz v n xs hown ad m c news hl hnews h1 h63 hbytes hp hni hzi hr))
def underN (m:Nat) (k:List Int) (n:Nat):List Int:=k.zipIdx.map fun p=>if p.2<n∧m.testBit p.2=false then 0 else p.1
theorem underN_length (m:Nat) (k:List Int) (n:Nat):(underN m k n).length=k.length:=by simp [underN]
theorem underN_zero (m:Nat) (k:List Int):underN m k 0=k:=by
 apply List.ext_getElem?
 intro i
 simp [underN]
theorem underN_hit {m n:Nat} {k:List Int} (h:m.testBit n=false):(underN m k n).set n 0=underN m k (n+1):=by
 apply List.ext_getElem?
 intro i
 rw [List.getElem?_set]
 simp only [underN,List.getElem?_map,List.getElem?_zipIdx,List.length_map,List.length_zipIdx,Nat.zero_add]
 by_cases e:n=i
 ·subst e
  simp [h]
  by_cases hl:n<k.length<;>simp [hl,h]
 ·simp only [e,if_false]
  cases k[i]? with
  | none=>rfl
  | some x=>simp only [Option.map_some];congr 2;simp;omega
theorem underN_miss {m n:Nat} {k:List Int} (h:m.testBit n=true):underN m k n=underN m k (n+1):=by
 apply List.ext_getElem?
 intro i
 simp only [underN,List.getElem?_map,List.getElem?_zipIdx,Nat.zero_add]
 cases k[i]? with
 | none=>rfl
 | some x=>
  simp only [Option.map_some]
  congr 1
  by_cases e:i=n
  ·subst e;simp [h]
  ·have:i<n↔i<n+1:=by omega
   simp [this]
theorem i64_and1 (n:Int):bits .and .i64 n 1=n % 2:=by
 have h1:(BitVec.ofInt 64 1).toNat=2 ^ 1-1:=by decide
 have key:(BitVec.ofInt 64 n &&& BitVec.ofInt 64 1).toNat=(n % ((2 ^ 64:Nat):Int)).toNat % 2 ^ 1:=by
  rw [BitVec.toNat_and,BitVec.toNat_ofInt,h1,Nat.and_two_pow_sub_one_eq_mod]
 show IntKind.i64.wrap ((BitVec.ofInt 64 n &&& BitVec.ofInt 64 1).toNat:Nat)=n % 2
 rw [key,IntKind.wrap_i64]
 omega
theorem bit_and (m k:Nat):(bits BinOp.and IntKind.i64 (((m:Int)) / 2 ^ k) 1 == 0)=!m.testBit k:=by
 rw [i64_and1,Nat.testBit,Nat.shiftRight_eq_div_pow]
 have:((m:Int) / 2 ^ k) % 2=((m / 2 ^ k % 2:Nat):Int):=by push_cast;rfl
 rw [this]
 have h2:m / 2 ^ k % 2<2:=Nat.mod_lt _ (by omega)
 generalize hx:m / 2 ^ k=x at *
 rcases Nat.mod_two_eq_zero_or_one x with h|h<;>simp [h,Nat.and_comm,Nat.and_one_is_mod]
theorem five {w:World} {b t:Nat} {z:Nat × Nat} {xs:List Int} (h:w.heap[b]?=some (.cells (ai .i64 xs) t z)) (hl:xs.length=5) :
  ∃ x0 x1 x2 x3 x4,xs=[x0,x1,x2,x3,x4]∧w.cell? ⟨b,0,none⟩=some (.int .i64 x0)∧w.cell? ⟨b,1,none⟩=some (.int .i64 x1)∧w.cell? ⟨b,2,none⟩=some (.int .i64 x2)∧w.cell? ⟨b,3,none⟩=some (.int .i64 x3)∧w.cell? ⟨b,4,none⟩=some (.int .i64 x4):=by
 obtain ⟨x0,x1,x2,x3,x4,rfl⟩:∃ x0 x1 x2 x3 x4,xs=[x0,x1,x2,x3,x4]:=by
  rcases xs with _|⟨x0,_|⟨x1,_|⟨x2,_|⟨x3,_|⟨x4,_|⟨x5,l⟩⟩⟩⟩⟩⟩<;>simp at hl
  exact ⟨_,_,_,_,_,rfl⟩
 exact ⟨_,_,_,_,_,rfl,cell_of h 0,cell_of h 1,cell_of h 2,cell_of h 3,cell_of h 4⟩
set_option maxRecDepth 100000 in
theorem under_calls (ks:List Int) (hk:ks.length=5) (m:Nat) (w:World):Calls Tryz.prog 26 #[.agg (ai .i64 ks),.int .i64 m] w fun e w'=>e=.returned (.agg (ai .i64 (underN m ks 5)))∧Tch w.heap.size M0 w w':=by
 go_enter Tryz.func26,Tryz.ntmps26
 go_wp2
 go_loopw [6] (fun i wr=>∃ k:Nat,k≤5∧i=.int .i64 k∧wr.heap[w.heap.size]?=some (.cells (ai .i64 (underN m ks k)) 76)∧wr.heap[w.heap.size+1]?=some (.cells (ai .i64 [0,0,0,0,0]) 76)∧Tch w.heap.size M0 w wr) (fun i _=>5-(RowKit.intOf i).toNat)
 case atStart=>
  refine ⟨0,by omega,rfl,?_,?_,(Tch.refl.alloc (Nat.le_refl _) _).alloc (by rw [size_alloc];omega) _⟩
  ·rw [underN_zero,heap_old _ (by rw [size_alloc];omega),heap_new]
  ·have:=heap_new (w:=w.alloc (.cells (ai .i64 ks) 76)) (.cells #[.int .i64 0,.int .i64 0,.int .i64 0,.int .i64 0,.int .i64 0] 76)
   rw [size_alloc] at this
   exact this
 case round=>
  obtain ⟨k,hk5,rfl,hc,hd,hB⟩:=hrel
  have hbit:=bit_and m k
  rcases Nat.lt_or_ge k 5 with hlt|hge
  ·have hcell:=cell_of hc k
   rw [ai_some (by rw [underN_length];omega)] at hcell
   have hfr:=frozen_of hc k
   have hlt':(k:Int)<5:=by omega
   cases hb:m.testBit k
   ·rw [hb] at hbit
    go_wp2
    refine ⟨⟨k+1,by omega,by go_num,?_,?_,hB.set (.inl (Nat.le_refl _)) _⟩,?_⟩
    ·rw [heap_set hc,ai_set,underN_hit hb]
    ·rw [heap_ne _ _ (by simp)];exact hd
    ·simp [RowKit.intOf];omega
   ·rw [hb] at hbit
    go_wp2
    refine ⟨⟨k+1,by omega,by go_num,?_,hd,hB⟩,?_⟩
    ·rw [hc,underN_miss hb]
    ·simp [RowKit.intOf];omega
  ·obtain rfl:k=5:=by omega
   obtain ⟨x0,x1,x2,x3,x4,hx,g0,g1,g2,g3,g4⟩:=five hc (by rw [underN_length];exact hk)
   have f0:=frozen_of hd 0
   have f1:=frozen_of hd 1
   have f2:=frozen_of hd 2
   have f3:=frozen_of hd 3
   have f4:=frozen_of hd 4
   obtain ⟨y0,y1,y2,y3,y4,hy,k0,k1,k2,k3,k4⟩:=five hd rfl
   clear hc hd hbit
   go_wp2
   refine bodyPost_ret (v:=.agg #[.int .i64 x0,.int .i64 x1,.int .i64 x2,.int .i64 x3,.int .i64 x4]) (by
    have hr:Tryz.f26.results=#[.cell 4 76]:=rfl
    simp [results,hr,go_sem,k0,k1,k2,k3,k4]
    ) rfl ⟨?_,?_⟩
   ·rw [hx];rfl
   ·refine ((((hB.set ?_ _).set ?_ _).set ?_ _).set ?_ _).set ?_ _<;>exact .inl (by simp)
def cmpK:List Int→List Int→Int
 | x::xs,y::ys=>if Lib.compareInt x y=0 then cmpK xs ys else Lib.compareInt x y
 | _,_=>0
theorem cmpK_step {xs ys:List Int} {k:Nat} (hx:k<xs.length) (hy:k<ys.length):cmpK (xs.drop k) (ys.drop k)=if Lib.compareInt (xs.getD k 0) (ys.getD k 0)=0 then cmpK (xs.drop (k+1)) (ys.drop (k+1)) else Lib.compareInt (xs.getD k 0) (ys.getD k 0):=by
 rw [List.drop_eq_getElem_cons hx,List.drop_eq_getElem_cons hy,cmpK]
 simp [List.getD_eq_getElem?_getD,hx,hy]
set_option maxRecDepth 100000 in
theorem compare_calls (bx bY cx cy n:Nat) (xs ys:List Int) (hx:xs.length=n) (hy:ys.length=n) (hn:n<1000) (w:World) (gx:∀ j,j<n→w.cell? ⟨bx,j,none⟩=some (.int .i64 (xs.getD j 0))) (gy:∀ j,j<n→w.cell? ⟨bY,j,none⟩=some (.int .i64 (ys.getD j 0))) :
  Calls Tryz.prog 77 #[.slice (some ⟨bx,0,none⟩) n cx,.slice (some ⟨bY,0,none⟩) n cy] w fun e w'=>e=.returned (.int .i64 (cmpK xs ys))∧w'=w:=by
 go_enter Tryz.func77,Tryz.ntmps77
 go_wp2
 go_loop [11] (fun i=>∃ k:Nat,k≤n∧i=.int .i64 k∧cmpK (xs.drop k) (ys.drop k)=cmpK xs ys) (fun i=>n-(RowKit.intOf i).toNat)
 case atStart=>exact ⟨0,by omega,rfl,rfl⟩
 case round=>
  obtain ⟨k,hk,rfl,hc⟩:=hrel
  rcases Nat.lt_or_ge k n with hlt|hge
  ·have g1:=gx k hlt
   have g2:=gy k hlt
   have hlt':(k:Int)<n:=by omega
   rw [cmpK_step (by omega) (by omega)] at hc
   clear gx gy
   generalize xs.getD k 0=x at *
   generalize ys.getD k 0=y at *
   go_wp2_with (go_at_call 103;refine (Tryz.cmp_Compare_int _ _ _).mono ?_;rintro e w' ⟨rfl,rfl⟩)
   ·rename_i hne
    go_ret
    refine ⟨?_,rfl⟩
    rw [← hc,if_neg (by simpa using hne)]
    rfl
   ·rename_i hne
    refine ⟨⟨k+1,by omega,by go_num,?_⟩,by simp [RowKit.intOf];omega⟩
    rw [← hc,if_pos (by simpa using hne)]
  ·have hge':¬ ((k:Int)<n):=by omega
   have hnn:¬ ((n:Int)<n):=by omega
   clear gx gy
   go_wp2
   go_ret
   refine ⟨?_,rfl⟩
   rw [← hc,List.drop_eq_nil_of_le (by omega),List.drop_eq_nil_of_le (by omega)]
   rfl
theorem before_calls (xs ys:List Int) (hx:xs.length=5) (hy:ys.length=5) (w:World) :
  Calls Tryz.prog 58 #[.agg (ai .i64 xs),.agg (ai .i64 ys)] w fun e w'=>e=.returned (.int .i64 (cmpK xs ys))∧w'=((w.alloc (.cells (ai .i64 xs) 76)).alloc (.cells (ai .i64 ys) 76)).drew:=by
 have s1:=size_alloc (w:=w) (.cells (ai .i64 xs) 76)
 have b1:((w.alloc (.cells (ai .i64 xs) 76)).alloc (.cells (ai .i64 ys) 76)).heap[w.heap.size]?=some (.cells (ai .i64 xs) 76):=by rw [heap_old _ (by omega),heap_new]
 have b2:((w.alloc (.cells (ai .i64 xs) 76)).alloc (.cells (ai .i64 ys) 76)).heap[w.heap.size+1]?=some (.cells (ai .i64 ys) 76):=by
  have:=heap_new (w:=w.alloc (.cells (ai .i64 xs) 76)) (.cells (ai .i64 ys) 76)
  rwa [s1] at this
 have hcmp:=compare_calls w.heap.size (w.heap.size+1) 5 5 5 xs ys hx hy (by omega) ((w.alloc (.cells (ai .i64 xs) 76)).alloc (.cells (ai .i64 ys) 76)).drew (fun j hj=>(cell_of b1 j).trans (ai_some (by omega))) (fun j hj=>(cell_of b2 j).trans (ai_some (by omega)))
 clear b1 b2 s1
 go_enter Tryz.func58,Tryz.ntmps58
 go_wp2
 go_region_with (go_at_call 77;refine hcmp.mono ?_;rintro e w' ⟨rfl,rfl⟩)
 all_goals go_wp2
 all_goals go_ret
 all_goals exact ⟨rfl,rfl⟩
end Go.Sim.Z
