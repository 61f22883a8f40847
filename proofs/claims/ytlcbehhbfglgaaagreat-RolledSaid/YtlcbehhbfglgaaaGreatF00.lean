/- PROVED HERE: laws. Conditions: none. -/
import Derived.Shelf.SlSortCmp.NoneTotal
import Derived.Shelf.SlIterI.Collect
import Derived.Shelf.Small.Wraps
import Derived.Shelf.Slices.Clone
import Derived.Shelf.Slices.Empties
import Derived.Shelf.SlicesE.Clone
import Derived.Shelf.SlicesE.DeleteFunc
import Derived.Test.YtlcbehhbfglgaaaGreatProg
import Derived.DeepKeys4
import Derived.Maps.OwnIn
import Derived.Test.YtlcbehhbfglgaaaGreatFA
set_option linter.all false
set_option maxRecDepth 100000
namespace Go.Proofs
open Go.Shelf
def Tryz.lays134_ren:Go.Shelf.Ren:=⟨fun|134=>160|129=>113|n=>n,fun|53=>45|3=>3|4=>4|46=>129|5=>5|9=>9|n=>n,fun|n=>n⟩
theorem Tryz.lays134:Go.Proofs.Lays.n134 Tryz.prog Tryz.lays134_ren:={
 mixed:=by kernel_rfl
 f129:=Tryz.func113.trans (congrArg some (by kernel_rfl))
 f134:=Tryz.func160.trans (congrArg some (by kernel_rfl))
 t3:=Tryz.underlying3
 a3:=Tryz.isAgg3
 z3:=Tryz.sizeOf3
 v3:=Tryz.zeroValue3
 t4:=Tryz.underlying4
 a4:=Tryz.isAgg4
 z4:=Tryz.sizeOf4
 v4:=Tryz.zeroValue4
 t5:=Tryz.underlying5
 a5:=Tryz.isAgg5
 z5:=Tryz.sizeOf5
 v5:=Tryz.zeroValue5
 t9:=Tryz.underlying9
 a9:=Tryz.isAgg9
 z9:=Tryz.sizeOf9
 v9:=Tryz.zeroValue9
 t46:=Tryz.underlying129
 a46:=Tryz.isAgg129
 z46:=Tryz.sizeOf129
 v46:=Tryz.zeroValue129
 t53:=Tryz.underlying45
 a53:=Tryz.isAgg45
 z53:=Tryz.sizeOf45
 v53:=Tryz.zeroValue45 }
theorem Tryz.bits_LeadingZeros64 (x:Int) (w:World) (h0:0<=x) (h1:x<=18446744073709551615) :
  Calls Tryz.prog 160 #[.int .u64 x] w fun e w'=>e=.returned (.int .i64 (64-(Lib.bitLen x.toNat:Int)))/\w'=w:=Any.bits_LeadingZeros64 Tryz.lays134 x w h0 h1
def Tryz.lays122_ren:Go.Shelf.Ren:=⟨fun|122=>103|215=>128|n=>n,fun|3=>3|4=>4|n=>n,fun|n=>n⟩
theorem Tryz.lays122:Go.Proofs.Lays.n122 Tryz.prog Tryz.lays122_ren:={
 mixed:=by kernel_rfl
 f122:=Tryz.func103.trans (congrArg some (by kernel_rfl))
 f215:=Tryz.func128.trans (congrArg some (by kernel_rfl))
 t3:=Tryz.underlying3
 a3:=Tryz.isAgg3
 z3:=Tryz.sizeOf3
 v3:=Tryz.zeroValue3
 t4:=Tryz.underlying4
 a4:=Tryz.isAgg4
 z4:=Tryz.sizeOf4
 v4:=Tryz.zeroValue4 }
open Go.RowKit in
theorem Tryz.cmp_Compare_int (x y:Int) (w:World) :
  Calls Tryz.prog 103 #[.int .i64 x,.int .i64 y] w fun e w'=>e=.returned (.int .i64 (Lib.compareInt x y))/\w'=w:=Any.cmp_Compare_int Tryz.lays122 x y w
def Tryz.laysNm225_ren:Go.Shelf.Ren:=⟨fun|25=>167|31=>120|32=>169|37=>128|n=>n,fun|22=>33|3=>3|4=>4|40=>129|0=>0|n=>n,fun|n=>n⟩
theorem Tryz.laysNm225:Go.Proofs.Lays2.n25 Tryz.prog Tryz.laysNm225_ren:={
 mixed:=by kernel_rfl
 f25:=Tryz.func167.trans (congrArg some (by kernel_rfl))
 f31:=Tryz.func120.trans (congrArg some (by kernel_rfl))
 f32:=Tryz.func169.trans (congrArg some (by kernel_rfl))
 f37:=Tryz.func128.trans (congrArg some (by kernel_rfl))
 t0:=Tryz.underlying0
 a0:=Tryz.isAgg0
 z0:=Tryz.sizeOf0
 v0:=Tryz.zeroValue0
 t3:=Tryz.underlying3
 a3:=Tryz.isAgg3
 z3:=Tryz.sizeOf3
 v3:=Tryz.zeroValue3
 t4:=Tryz.underlying4
 a4:=Tryz.isAgg4
 z4:=Tryz.sizeOf4
 v4:=Tryz.zeroValue4
 t22:=Tryz.underlying33
 a22:=Tryz.isAgg33
 z22:=Tryz.sizeOf33
 v22:=Tryz.zeroValue33
 t40:=Tryz.underlying129
 a40:=Tryz.isAgg129
 z40:=Tryz.sizeOf129
 v40:=Tryz.zeroValue129 }
open Go.RowKit Go.Lib in
theorem Tryz.slices_BinarySearch_int (b off n c:Nat) (zs:List Int) (x:Int) (w:World) (hz:n<=zs.length) (hbig:n<4611686018427387904) (hc:∀ j,j<zs.length->w.cell? ⟨b,off+j,none⟩=some (.int .i64 (zs.getD j 0))) (hs:(zs.take n).Pairwise (·<=·)) :
  Calls Tryz.prog 167 #[.slice (some ⟨b,off,none⟩) n c,.int .i64 x] w fun e w'=>e=.returned (.tuple #[.int .i64 ((zs.take n).countP (· < x):Nat),.bool ((zs.take n).contains x)])/\∃ q,w'=w.drewN q:=Any.slices_BinarySearch_int Tryz.laysNm225 b off n c zs x w hz hbig hc hs
open Go.RowKit Go.Lib in
theorem Tryz.slices_BinarySearch_int_empty (a:Option Addr) (c:Nat) (x:Int) (w:World) :
  Calls Tryz.prog 167 #[.slice a 0 c,.int .i64 x] w fun e w'=>e=.returned (.tuple #[.int .i64 0,.bool false])/\w'=w:=Any.slices_BinarySearch_int_empty Tryz.laysNm225 a c x w
def Tryz.laysSlH8_f20_ren:Go.Shelf.Ren:=⟨fun|8=>20|6=>53|n=>n,fun|22=>33|23=>3|25=>66|4=>4|3=>3|0=>0|n=>n,fun|n=>n⟩
theorem Tryz.laysSlH8_f20:Go.Proofs.SlLaysH.n8 Tryz.prog Tryz.laysSlH8_f20_ren:={
 mixed:=by kernel_rfl
 f6:=⟨Tryz.f53.name,by decide,Tryz.func53.trans (congrArg some (by kernel_rfl))⟩
 f8:=⟨Tryz.f20.name,by decide,Tryz.func20.trans (congrArg some (by kernel_rfl))⟩
 t0:=Tryz.underlying0
 a0:=Tryz.isAgg0
 z0:=Tryz.sizeOf0
 v0:=Tryz.zeroValue0
 t3:=Tryz.underlying3
 a3:=Tryz.isAgg3
 z3:=Tryz.sizeOf3
 v3:=Tryz.zeroValue3
 t4:=Tryz.underlying4
 a4:=Tryz.isAgg4
 z4:=Tryz.sizeOf4
 v4:=Tryz.zeroValue4
 t22:=Tryz.underlying33
 a22:=Tryz.isAgg33
 z22:=Tryz.sizeOf33
 v22:=Tryz.zeroValue33
 a23:=Tryz.isAgg3
 z23:=Tryz.sizeOf3
 t25:=Tryz.underlying66
 a25:=Tryz.isAgg66
 z25:=Tryz.sizeOf66
 v25:=Tryz.zeroValue66 }
open Go.RowKit Go.Lib in
theorem Tryz.slices_ContainsFunc {α:Type} [Inhabited α] (enc:α->Value) (p:α->Bool) (g:Nat) (lb:Array Value) (eg:∀ args w,(callFunc g args).run Tryz.prog w=.ok (.enter g args) w) (b off n c:Nat) (zs:List α) (w:World) (hp:PredAt Tryz.prog g lb enc p w) (hz:n<=zs.length) (hbig:n<=9223372036854775807) (hc:∀ j,j<zs.length->w.cell? ⟨b,off+j,none⟩=some (enc zs[j]!)) :
  Calls Tryz.prog 20 #[.slice (some ⟨b,off,none⟩) n c,.func (.func g) #[] lb] w fun e w'=>e=.returned (.bool ((zs.take n).any p))/\∃ q,w'=w.drewN q:=AnyE.slices_ContainsFunc Tryz.laysSlH8_f20 enc p g lb eg b off n c zs w hp hz hbig hc
def Tryz.laysSlH10_f67_ren:Go.Shelf.Ren:=⟨fun|10=>67|6=>53|n=>n,fun|22=>33|23=>3|25=>66|3=>3|4=>4|0=>0|n=>n,fun|n=>n⟩
theorem Tryz.laysSlH10_f67:Go.Proofs.SlLaysH.n10 Tryz.prog Tryz.laysSlH10_f67_ren:={
 mixed:=by kernel_rfl
 f6:=⟨Tryz.f53.name,by decide,Tryz.func53.trans (congrArg some (by kernel_rfl))⟩
 f10:=⟨Tryz.f67.name,by decide,Tryz.func67.trans (congrArg some (by kernel_rfl))⟩
 t0:=Tryz.underlying0
 a0:=Tryz.isAgg0
 z0:=Tryz.sizeOf0
 v0:=Tryz.zeroValue0
 t3:=Tryz.underlying3
 a3:=Tryz.isAgg3
 z3:=Tryz.sizeOf3
 v3:=Tryz.zeroValue3
 t4:=Tryz.underlying4
 a4:=Tryz.isAgg4
 z4:=Tryz.sizeOf4
 v4:=Tryz.zeroValue4
 t22:=Tryz.underlying33
 a22:=Tryz.isAgg33
 z22:=Tryz.sizeOf33
 v22:=Tryz.zeroValue33
 a23:=Tryz.isAgg3
 z23:=Tryz.sizeOf3
 t25:=Tryz.underlying66
 a25:=Tryz.isAgg66
 z25:=Tryz.sizeOf66
 v25:=Tryz.zeroValue66 }
open Go.RowKit Go.Lib Go.Sort in
theorem Tryz.slices_DeleteFunc {α:Type} [Inhabited α] (enc:α->Value) (hO:OneCell enc) (p:α->Bool) (g:Nat) (lb:Array Value) (eg:∀ args w,(callFunc g args).run Tryz.prog w=.ok (.enter g args) w) (zr:α) (v23:∀ w,(zeroValue 3).run Tryz.prog w=.ok (enc zr) w) (blk off cap:Nat) (d:Array α) (w:World) (hp:PredAt Tryz.prog g lb enc p w) (hpo:PredOver Tryz.prog g lb enc p blk off d.size w) (hH:Holds enc w blk off d) (hsz:d.size<=9223372036854775807) (hcap:d.size<=cap) :
  Calls Tryz.prog 67 #[.slice (some ⟨blk,off,none⟩) d.size cap,.func (.func g) #[] lb] w fun e w'=>e=.returned (.slice (some ⟨blk,off,none⟩) (d.toList.filter fun x=>!p x).length cap)/\∃ q,w'=putRow enc (Sort.ahead w q) blk off ((d.toList.filter fun x=>!p x)++List.replicate (d.size-(d.toList.filter fun x=>!p x).length) zr).toArray:=AnyE.slices_DeleteFunc Tryz.laysSlH10_f67 enc hO p g lb eg zr v23 blk off cap d w hp hpo hH hsz hcap
def Tryz.sortK_ren:Go.Shelf.Ren:=⟨fun|6=>57|15=>76|14=>75|28=>112|29=>113|20=>104|21=>105|22=>106|23=>107|24=>108|25=>109|26=>110|27=>111|46=>129|47=>130|48=>131|49=>132|50=>133|57=>137|n=>n,fun|22=>88|24=>76|25=>135|3=>3|39=>129|0=>0|53=>101|55=>45|4=>4|46=>181|45=>180|50=>185|5=>5|9=>9|66=>203|70=>206|76=>210|77=>211|n=>n,fun|n=>n⟩
theorem Tryz.sortK:Go.Proofs.SlLaysF0.n6 Tryz.prog Tryz.sortK_ren:={
 mixed:=by kernel_rfl
 f6:=⟨Tryz.f57.name,by decide,Tryz.func57.trans (congrArg some (by kernel_rfl))⟩
 f14:=⟨Tryz.f75.name,by decide,Tryz.func75.trans (congrArg some (by kernel_rfl))⟩
 f15:=Tryz.func76.trans (congrArg some (by kernel_rfl))
 f20:=⟨Tryz.f104.name,by decide,Tryz.func104.trans (congrArg some (by kernel_rfl))⟩
 f21:=⟨Tryz.f105.name,by decide,Tryz.func105.trans (congrArg some (by kernel_rfl))⟩
 f22:=⟨Tryz.f106.name,by decide,Tryz.func106.trans (congrArg some (by kernel_rfl))⟩
 f23:=⟨Tryz.f107.name,by decide,Tryz.func107.trans (congrArg some (by kernel_rfl))⟩
 f24:=⟨Tryz.f108.name,by decide,Tryz.func108.trans (congrArg some (by kernel_rfl))⟩
 f25:=⟨Tryz.f109.name,by decide,Tryz.func109.trans (congrArg some (by kernel_rfl))⟩
 f26:=⟨Tryz.f110.name,by decide,Tryz.func110.trans (congrArg some (by kernel_rfl))⟩
 f27:=⟨Tryz.f111.name,by decide,Tryz.func111.trans (congrArg some (by kernel_rfl))⟩
 f28:=Tryz.func112.trans (congrArg some (by kernel_rfl))
 f29:=Tryz.func113.trans (congrArg some (by kernel_rfl))
 f46:=⟨Tryz.f129.name,by decide,Tryz.func129.trans (congrArg some (by kernel_rfl))⟩
 f47:=Tryz.func130.trans (congrArg some (by kernel_rfl))
 f48:=Tryz.func131.trans (congrArg some (by kernel_rfl))
 f49:=⟨Tryz.f132.name,by decide,Tryz.func132.trans (congrArg some (by kernel_rfl))⟩
 f50:=⟨Tryz.f133.name,by decide,Tryz.func133.trans (congrArg some (by kernel_rfl))⟩
 f57:=⟨Tryz.f137.name,by decide,Tryz.func137.trans (congrArg some (by kernel_rfl))⟩
 t0:=Tryz.underlying0
 a0:=Tryz.isAgg0
 z0:=Tryz.sizeOf0
 v0:=Tryz.zeroValue0
 t3:=Tryz.underlying3
 a3:=Tryz.isAgg3
 z3:=Tryz.sizeOf3
 v3:=Tryz.zeroValue3
 t4:=Tryz.underlying4
 a4:=Tryz.isAgg4
 z4:=Tryz.sizeOf4
 v4:=Tryz.zeroValue4
 t5:=Tryz.underlying5
 a5:=Tryz.isAgg5
 z5:=Tryz.sizeOf5
 v5:=Tryz.zeroValue5
 t9:=Tryz.underlying9
 a9:=Tryz.isAgg9
 z9:=Tryz.sizeOf9
 v9:=Tryz.zeroValue9
 t22:=Tryz.underlying88
 a22:=Tryz.isAgg88
 z22:=Tryz.sizeOf88
 v22:=Tryz.zeroValue88
 t25:=Tryz.underlying135
 a25:=Tryz.isAgg135
 z25:=Tryz.sizeOf135
 v25:=Tryz.zeroValue135
 t39:=Tryz.underlying129
 a39:=Tryz.isAgg129
 z39:=Tryz.sizeOf129
 v39:=Tryz.zeroValue129
 t45:=Tryz.underlying180
 a45:=Tryz.isAgg180
 z45:=Tryz.sizeOf180
 v45:=Tryz.zeroValue180
 t46:=Tryz.underlying181
 a46:=Tryz.isAgg181
 z46:=Tryz.sizeOf181
 v46:=Tryz.zeroValue181
 t50:=Tryz.underlying185
 a50:=Tryz.isAgg185
 z50:=Tryz.sizeOf185
 v50:=Tryz.zeroValue185
 t53:=Tryz.underlying101
 a53:=Tryz.isAgg101
 z53:=Tryz.sizeOf101
 v53:=Tryz.zeroValue101
 t55:=Tryz.underlying45
 a55:=Tryz.isAgg45
 z55:=Tryz.sizeOf45
 v55:=Tryz.zeroValue45
 t66:=Tryz.underlying203
 a66:=Tryz.isAgg203
 z66:=Tryz.sizeOf203
 v66:=Tryz.zeroValue203
 t70:=Tryz.underlying206
 a70:=Tryz.isAgg206
 z70:=Tryz.sizeOf206
 v70:=Tryz.zeroValue206
 t76:=Tryz.underlying210
 a76:=Tryz.isAgg210
 z76:=Tryz.sizeOf210
 v76:=Tryz.zeroValue210
 t77:=Tryz.underlying211
 a77:=Tryz.isAgg211
 z77:=Tryz.sizeOf211
 v77:=Tryz.zeroValue211 }
def Tryz.collectI_ren:Go.Shelf.Ren:=⟨fun|8=>59|11=>78|n=>n,fun|26=>3|28=>99|24=>33|0=>0|33=>66|4=>4|n=>n,fun|n=>n⟩
theorem Tryz.collectI:Go.Proofs.SlLaysZI.n8 Tryz.prog Tryz.collectI_ren:={
 mixed:=by kernel_rfl
 f8:=⟨Tryz.f59.name,by decide,Tryz.func59.trans (congrArg some (by kernel_rfl))⟩
 f11:=⟨Tryz.f78.name,by decide,Tryz.func78.trans (congrArg some (by kernel_rfl))⟩
 t0:=Tryz.underlying0
 a0:=Tryz.isAgg0
 z0:=Tryz.sizeOf0
 v0:=Tryz.zeroValue0
 t24:=Tryz.underlying33
 a24:=Tryz.isAgg33
 z24:=Tryz.sizeOf33
 v24:=Tryz.zeroValue33
 t26:=Tryz.underlying3
 a26:=Tryz.isAgg3
 z26:=Tryz.sizeOf3
 v26:=Tryz.zeroValue3
 t28:=Tryz.underlying99
 a28:=Tryz.isAgg99
 z28:=Tryz.sizeOf99
 v28:=Tryz.zeroValue99
 i26:=by kernel_rfl }
def Tryz.keysI_ren:Go.Shelf.Ren:=⟨fun|10=>61|n=>n,fun|33=>66|23=>62|0=>0|4=>4|26=>3|3=>70|n=>n,fun|n=>n⟩
theorem Tryz.keysI:Go.Proofs.SlLaysZI.n10 Tryz.prog Tryz.keysI_ren:={
 mixed:=by kernel_rfl
 f10:=⟨Tryz.f61.name,by decide,Tryz.func61.trans (congrArg some (by kernel_rfl))⟩
 t0:=Tryz.underlying0
 a0:=Tryz.isAgg0
 z0:=Tryz.sizeOf0
 v0:=Tryz.zeroValue0
 t4:=Tryz.underlying4
 a4:=Tryz.isAgg4
 z4:=Tryz.sizeOf4
 v4:=Tryz.zeroValue4
 t23:=Tryz.underlying62
 a23:=Tryz.isAgg62
 z23:=Tryz.sizeOf62
 v23:=Tryz.zeroValue62
 t26:=Tryz.underlying3
 a26:=Tryz.isAgg3
 z26:=Tryz.sizeOf3
 v26:=Tryz.zeroValue3
 t33:=Tryz.underlying66
 a33:=Tryz.isAgg66
 z33:=Tryz.sizeOf66
 v33:=Tryz.zeroValue66 }
end Go.Proofs
namespace Go.Sim.Z
open Go Go.Proofs Go.RowKit
structure Tch (N:Nat) (M:Nat->Prop) (w w':World):Prop where
 size:w.heap.size<=w'.heap.size
 heap:∀ b,b<N->¬ M b->w'.heap[b]?=w.heap[b]?
 tape:w'.tape=w.tape
 os:w'.os=w.os
 output:w'.output=w.output
def M0:Nat->Prop:=fun _=>False
section
variable {N N':Nat} {M M':Nat->Prop} {w w1 w2:World} {b:Nat}
theorem Tch.refl:Tch N M w w:=⟨Ja2 _,fun _ _ _=>rfl,rfl,rfl,rfl⟩
theorem Tch.trans (h:Tch N M w w1) (k:Tch N M w1 w2):Tch N M w w2:=⟨Jb6 h.size k.size,fun b hb hm=>(k.heap b hb hm).trans (h.heap b hb hm),k.tape.trans h.tape,k.os.trans h.os,k.output.trans h.output⟩
theorem Tch.mono (h:Tch N M w w1) (hN:N'<=N) (hM:∀ b,b<N'->M b->M' b):Tch N' M' w w1:=⟨h.size,fun b hb hm=>h.heap b (by omega) fun hx=>hm (hM b hb hx),h.tape,h.os,h.output⟩
theorem Tch.drew (h:Tch N M w w1):Tch N M w w1.drew:=⟨h.size,h.heap,h.tape,h.os,h.output⟩
theorem Tch.alloc (h:Tch N M w w1) (hN:N<=w1.heap.size) (o:Obj):Tch N M w (w1.alloc o):=
 ⟨Jb6 h.size (by simp),fun b hb hm=>(Below.heap_alloc _ _ _ (by omega)).trans (h.heap b hb hm),h.tape,h.os,h.output⟩
theorem Tch.set (h:Tch N M w w1) {a:Addr} (ha:N<=a.block\/M a.block) (v:Value):Tch N M w (w1.setCell a v):=
 ⟨Jb6 h.size (by simp [World.setCell]),fun b hb hm=>(Below.heap_setCell _ _ _ _ (by rintro rfl;rcases ha with ha|ha;omega;exact hm ha)).trans (h.heap b hb hm),h.tape,h.os,h.output⟩
theorem Tch.cell (h:Tch N M w w1) {a:Addr} (ha:a.block<N) (hm:¬ M a.block):w1.cell? a=w.cell? a:=Jb4 (w:=w) (h.heap _ ha hm)
theorem Tch.of_below (h:Below N w w1):Tch N M w w1:=⟨h.size,fun b hb _=>h.block b hb,h.tape,h.os,h.output⟩
theorem Tch.then (h:Tch N M w w1) (k:Tch w1.heap.size M' w1 w2) (hN:N<=w1.heap.size) (hM:∀ b,b<N->M' b->M b):Tch N M w w2:=
 h.trans (k.mono hN hM)
theorem Tch.grown (h:Tch w.heap.size M0 w w1) (h6:w.drawn<=w1.drawn):∃ q os,w1=Sort.grow (w.drewN q) os:=by
 refine ⟨w1.drawn-w.drawn,w1.heap.extract w.heap.size w1.heap.size,?_⟩;obtain ⟨h1,h2,h3,h4,h5⟩:=h;have e:w1.heap=w.heap++w1.heap.extract w.heap.size w1.heap.size:=by
  apply Jd6;intro i;rw [Array.getElem?_append];split
  ·rename_i hi;exact h2 i hi (fun h=>h)
  ·rename_i hi;rw [Array.getElem?_extract];split
   ·congr 1;omega
   ·rw [Jb0 (by omega)]
 have ed:w.drawn+(w1.drawn-w.drawn)=w1.drawn:=by omega
 obtain ⟨a1,a2,a3,a4,a5⟩:=w1;simp only at h3 h4 h5 ed e;subst h3 h4 h5;simp only [Sort.grow,World.drewN,ed];congr 1
theorem cell_of {arr:Array Value} {t:TypeId} {z:Nat × Nat} (h:w.heap[b]?=some (.cells arr t z)) (i:Nat):w.cell? ⟨b,i,none⟩=arr[i]?:=by simp [World.cell?,h]
theorem J02 {arr:Array Value} {t:TypeId} (h:w.heap[b]?=some (.cells arr t)) (i:Nat):w.frozen? ⟨b,i,none⟩=false:=by simp [World.frozen?,h]
theorem heap_set {arr:Array Value} {t:TypeId} (h:w.heap[b]?=some (.cells arr t)) (i:Nat) (v:Value):(w.setCell ⟨b,i,none⟩ v).heap[b]?=some (.cells (arr.setIfInBounds i v) t):=by simp only [World.setCell,Array.getElem?_modify,if_true,h,Option.map_some];simp
theorem Jk (a:Addr) (v:Value) (h:b≠a.block):(w.setCell a v).heap[b]?=w.heap[b]?:=Below.heap_setCell _ _ _ _ h
theorem Ja (o:Obj):(w.alloc o).heap[w.heap.size]?=some o:=by show (w.heap.push o)[w.heap.size]?=_;simp
theorem J7 (o:Obj) {b:Nat} (h:b<w.heap.size):(w.alloc o).heap[b]?=w.heap[b]?:=Below.heap_alloc _ _ _ h
theorem size_alloc (o:Obj):(w.alloc o).heap.size=w.heap.size+1:=by show (w.heap.push o).size=_;simp
theorem size_set (a:Addr) (v:Value):(w.setCell a v).heap.size=w.heap.size:=by simp [World.setCell]
theorem Ji {o:Obj} (h:w.heap[b]?=some o):b<w.heap.size:=(Ja3.1 h).1
end
def ai (k:IntKind) (xs:List Int):Array Value:=(xs.map (Value.int k)).toArray
section
variable {k:IntKind} {xs:List Int}
@[simp] theorem Jv0:(ai k xs).size=xs.length:=by simp [ai]
theorem Jhj (i:Nat):(ai k xs)[i]?=(xs[i]?).map (Value.int k):=by simp [ai]
theorem Jar {i:Nat} (h:i<xs.length):(ai k xs)[i]?=some (.int k (xs.getD i 0)):=by rw [Jhj,Jb1 h,Ja7,Jb1 h];rfl
theorem Jwl {i:Nat} (v:Int):(ai k xs).setIfInBounds i (.int k v)=ai k (xs.set i v):=by
 apply Jd6;intro j;rw [Jb9,Jhj,Jhj,List.getElem?_set];by_cases h:i=j
 ·subst h;simp only [if_true,Jv0];split<;>simp_all
 ·simp [h]
end
def IsInt (v:Value):Prop:=∃ k n,v=.int k n
def Plain (cur:Array Value):Prop:=∀ v∈cur.toList,IsInt v
theorem Plain.at {cur:Array Value} (h:Plain cur) {i:Nat} {v:Value} (hv:cur[i]?=some v):IsInt v:=h v (Array.mem_toList_iff.2 (Jc5 hv))
theorem Plain.J4v {cur:Array Value} (h:∀ (i:Nat) v,cur[i]?=some v->IsInt v):Plain cur:=fun v hv=>by obtain ⟨i,hi,rfl⟩:=List.getElem_of_mem hv;exact h i _ (by simp at hi;simp [hi])
theorem Plain.set {cur:Array Value} (h:Plain cur) (i:Nat) {v:Value} (hv:IsInt v):Plain (cur.setIfInBounds i v):=.J4v fun j u hu=>by
 rw [Jb9] at hu;split at hu
 ·split at hu
  ·cases hu;exact hv
  ·cases hu
 ·exact h.at hu
theorem Plain.append {a b:Array Value} (h:Plain a) (k:Plain b):Plain (a++b):=fun v hv=>by rw [Array.toList_append,Jc9] at hv;exact hv.elim (h v) (k v)
theorem Plain.replicate {n:Nat} {v:Value} (h:IsInt v):Plain (Array.replicate n v):=fun u hu=>by simp only [Array.toList_replicate] at hu;rw [List.eq_of_mem_replicate hu];exact h
theorem Plain.list {l:List Value} (h:∀ v∈l,IsInt v):Plain l.toArray:=fun v hv=>h v (by simpa using hv)
theorem Plain.ai {k:IntKind} {xs:List Int}:Plain (ai k xs):=.list fun v hv=>by obtain ⟨x,_,rfl⟩:=Jb3.1 hv;exact ⟨_,_,rfl⟩
theorem Plain.madeCells {zs:Array Value} (h:Plain zs) (n:Nat):Plain (Builtin.zeroCells zs n):=fun v hv=>by
 unfold Builtin.zeroCells at hv;rw [Array.toList_map] at hv;obtain ⟨i,hi,rfl⟩:=Jb3.1 hv;have hlt:i<n*zs.size:=by simpa using hi
 have hpos:0<zs.size:=by
  rcases Nat.eq_zero_or_pos zs.size with h0|h0
  ·rw [h0] at hlt;omega
  ·exact h0
 have hm:i % zs.size<zs.size:=Nat.mod_lt _ hpos;rw [getElem!_pos zs (i % zs.size) hm];exact h _ (by simp)
def J1f (w:World) (v:Value):Prop:=∀ g n cap,v=.slice (some ⟨g,0,none⟩) n cap->∀ arr e z,w.heap[g]?=some (.cells arr e z)->Plain arr
theorem J1f.nil (w:World) (l c:Nat):J1f w (.slice none l c):=fun _ _ _ h=>by cases h
theorem J1f.kept {w w':World} {v:Value} (h:J1f w v) (hh:∀ g n cap,v=.slice (some ⟨g,0,none⟩) n cap->w'.heap[g]?=w.heap[g]?):J1f w' v:=fun g n cap e arr t z ha=>h g n cap e arr t z ((hh g n cap e)▸ha)
theorem J9a {P:Program} (w:World) (base:Nat) (t ty e:TypeId) (i:TypeInfo) (z:Value) (size bytes:Nat) (ht:P.underlying t=some (.slice e)) (hi:P.info? e=some i) (hz:i.zero=some z)
  (hsize:i.size=size) (hby:i.bytes=bytes) (hzs:z.cells.size=size) (hsz:0<size)
  (v:Value) (n:Nat) (xs:List Value) (hown:w.ownsRow base e size v n xs)
  (a:Addr) (m c:Nat) (news:List Value) (hl:news.length=m*size) (hnews:∀ j u,news[j]?=some u->w.cell? (a.add j)=some u) (h1:∀ u∈news,u.oneCell'=true)
  (h63:n+m<=maxLen) (hbytes:(n+m)*bytes<=140737488355328) (hp:J1f w v) (hni:∀ u∈news,IsInt u) (hzi:Plain z.cells) {v':Value} {w':World}
  (hr':(Builtin.append_ #[t,t] ty #[v,.slice (some a) m c]).run P w=.ok v' w'):J1f w' v':=by
 subst hsize;subst hby;have hsmall:n+m<=9223372036854775807:=by simp only [maxLen] at h63;omega
 rcases hown.2 with ⟨rfl,rfl⟩|⟨g,cap,cur,rfl,hbg,hg,hnc,hcm,hcs,htake⟩
 ·have hx:xs=[]:=List.eq_nil_of_length_eq_zero (by simpa using hown.1);subst hx;by_cases hm:m=0
  ·subst hm;have hn:news=[]:=List.eq_nil_of_length_eq_zero (by simpa using hl);subst hn;have hr:(Builtin.append_ #[t,t] ty #[.slice none 0 0,.slice (some a) 0 c]).run P w=.ok (.slice none 0 0) w:=by simp [Builtin.append_,run_underlying ht,sizeOf,typeInfo,hi,Builtin.lenOf,Builtin.firstCells,loadCells,loadCellsFrom]
   rw [hr] at hr';cases hr';exact .nil _ _ _
  ·have hr:=run_append_nil (P:=P) w t ty e i z ht hi hz a m c news hl hnews (by omega) (by omega) (by have hb:=hbytes;simp only [Nat.zero_add] at hb;omega);rw [hr] at hr';cases hr';intro g n cap e1 arr t z ha;cases e1;have hq:=ha.symm.trans (heap_alloc_new w.drew _);cases hq;exact (Plain.list hni).append (hzi.madeCells _)
 ·have hpc:Plain cur:=hp g n cap rfl cur e _ hg;have hxi:∀ u∈xs,IsInt u:=fun u hu=>hpc u (List.mem_of_mem_take (htake▸hu));by_cases hroom:n+m<=cap
  ·have hfit:n*i.size+news.length<=cur.size:=by rw [hl,hcs,<- Nat.add_mul];exact Nat.mul_le_mul_right _ hroom
   have hr:=run_append_room (P:=P) w t ty e i ht hi g n cap cur hg a m c news hl hnews h1 hroom hfit;rw [hr] at hr';cases hr';intro g' n' cap' e1 arr t z ha;cases e1;rw [setRow_heap w g cur _ e _ hg] at ha;cases ha;refine Plain.list fun u hu=>?_;rcases Jc9.1 hu with hu|hu
   ·rcases Jc9.1 hu with hu|hu
    ·exact hpc u (List.mem_of_mem_take hu)
    ·exact hni u hu
   ·exact hpc u (List.mem_of_mem_drop hu)
  ·have holds:∀ j u,xs[j]?=some u->w.cell? ((⟨g,0,none⟩:Addr).add j)=some u:=hown.cells (g:=g) rfl;have hr:=run_append_grow (P:=P) w t ty e i z ht hi hz ⟨g,0,none⟩ n cap xs hown.1 holds a m c news hl hnews (by omega) (by omega) (growslice_fits (by omega) hbytes);rw [hr] at hr';cases hr';intro g' n' cap' e1 arr t z ha;cases e1;have hq:=ha.symm.trans (heap_alloc_new w.drew _);cases hq;exact ((Plain.list hxi).append (Plain.list hni)).append (hzi.madeCells _)
theorem J7s {F:Fence} {n:Nat} {P:Program} (w:World) {ops:Array Oper} {rest:List Oper} {o:Oper} {a:Act} {Q:Exit->Act->World->Prop}
  (hg:o.guard=none) (s x:Operand) (t:TypeId) (hop:o.op=Op.call { callee:=Callee.builtin Builtin.append,args:=#[s,x],argTypes:=#[t,t] })
  (base:Nat) (e:TypeId) (i:TypeInfo) (z:Value) (size bytes:Nat) (h1:P.underlying t=some (.slice e)) (h2:P.info? e=some i) (h3:i.zero=some z) (h4:i.size=size) (h5:i.bytes=bytes) (h6:z.cells.size=size) (h7:0<size)
  (v:Value) (k:Nat) (xs:List Value) (hs:a.eval s=v) (hown:w.ownsRow base e size v k xs) (ad:Addr) (m c:Nat) (news:List Value) (hx:a.eval x=.slice (some ad) m c) (hn:news.length=m*size)
  (hc:∀ j u,news[j]?=some u->w.cell? (ad.add j)=some u) (h1c:∀ u∈news,u.oneCell'=true) (b1:k+m<=maxLen) (b2:(k+m)*bytes<=140737488355328) (b3:base<=w.heap.size) (hp:J1f w v) (hni:∀ u∈news,IsInt u) (hzi:Plain z.cells)
  (hK:∀ v' w',w'.ownsRow base e size v' (k+m) (xs++news)->w.grownBy w' v.ownBlock->(v'=.slice none 0 0↔v=.slice none 0 0/\m=0)->J1f w' v'->wpListIn F n P ops Q rest (a.put o.dst v') w') :
  wpListIn F n P ops Q (o::rest) a w:=by
 refine wpListIn_plain hg fun K hK'=>?_;obtain ⟨v',w',hrun,r1,r2,r3⟩:=run_append_own (P:=P) w base t o.type e i z size bytes h1 h2 h3 h4 h5 h6 h7 v k xs hown ad m c news hn hc h1c b1 b2 b3;unfold Oper.wpIn;refine ⟨?_,?_⟩
 ·simp [Oper.about,hop,resolve,Target.leads,Sem.run_pure]
 ·rw [Oper.semAt_plain F _ _ (by rw [hop];intro c hc';cases hc')];simp [execOp,hop,resolve,invoke,builtin,hs,hx,hrun,Result.andThen];exact hK' _ _ (hK v' w' r1 r2 r3 (J9a w base t o.type e i z size bytes h1 h2 h3 h4 h5 h6 h7 v k xs hown ad m c news hn hc h1c b1 b2 hp hni hzi hrun))
theorem J1g {P:Program} (w:World) {ops:Array Oper} {rest:List Oper} {o:Oper} {a:Act} {Q:Exit->Act->World->Prop} (hgd:o.guard=none) (s x:Operand) (t:TypeId)
  (ho:o.op=.call { callee:=.builtin .append,args:=#[s,x],argTypes:=#[t,t] })
  (base:Nat) (e:TypeId) (i:TypeInfo) (z:Value) (size bytes:Nat) (ht:P.underlying t=some (.slice e)) (hi:P.info? e=some i) (hz:i.zero=some z)
  (hsize:i.size=size) (hby:i.bytes=bytes) (hzs:z.cells.size=size) (hsz:0<size)
  (v:Value) (n:Nat) (xs:List Value) (hs:a.eval s=v) (hown:w.ownsRow base e size v n xs)
  (ad:Addr) (m c:Nat) (news:List Value) (hx:a.eval x=.slice (some ad) m c) (hl:news.length=m*size) (hnews:∀ j u,news[j]?=some u->w.cell? (ad.add j)=some u) (h1:∀ u∈news,u.oneCell'=true)
  (h63:n+m<=maxLen) (hbytes:(n+m)*bytes<=140737488355328) (hbase:base<=w.heap.size) (hp:J1f w v) (hni:∀ u∈news,IsInt u) (hzi:Plain z.cells)
  (h:∀ v' w',w'.ownsRow base e size v' (n+m) (xs++news)->w.grownBy w' v.ownBlock->(v'=.slice none 0 0↔v=.slice none 0 0/\m=0)->J1f w' v'->wpList P ops Q rest (a.put o.dst v') w') :
  wpList P ops Q (o::rest) a w:=by
 refine wpList_plain hgd fun K hK=>?_;obtain ⟨v',w',hr,h2,h3,h4,h5⟩:=run_append_own_at (P:=P) w base t o.type e i z size bytes ht hi hz hsize hby hzs hsz v n xs hown ad m c news hl hnews h1 h63 hbytes hbase;unfold Oper.wp execOp;simp only [ho,resolve,invoke,builtin,Sem.run_bind,Sem.run_pure,Result.andThen_ok,List.map_toArray,Jc4,List.map_nil,hs,hx,hr];exact hK _ _ (h v' w' h2 h3 h4 (J9a w base t o.type e i z size bytes ht hi hz hsize hby hzs hsz v n xs hown ad m c news hl hnews h1 h63 hbytes hp hni hzi hr))
def Jb (m:Nat) (k:List Int) (n:Nat):List Int:=k.zipIdx.map fun p=>if p.2<n/\m.testBit p.2=false then 0 else p.1
theorem J66 (m:Nat) (k:List Int) (n:Nat):(Jb m k n).length=k.length:=by simp [Jb]
theorem Jk2 (m:Nat) (k:List Int):Jb m k 0=k:=by apply List.ext_getElem?;intro i;simp [Jb]
theorem Jll {m n:Nat} {k:List Int} (h:m.testBit n=false):(Jb m k n).set n 0=Jb m k (n+1):=by
 apply List.ext_getElem?;intro i;rw [List.getElem?_set];simp only [Jb,List.getElem?_map,List.getElem?_zipIdx,Jc3,List.length_zipIdx,Nat.zero_add];by_cases e:n=i
 ·subst e;simp [h];by_cases hl:n<k.length<;>simp [hl,h]
 ·simp only [e,if_false];cases k[i]? with
  | none=>rfl
  | some x=>simp only [Option.map_some];congr 2;simp;omega
theorem Jk3 {m n:Nat} {k:List Int} (h:m.testBit n=true):Jb m k n=Jb m k (n+1):=by
 apply List.ext_getElem?;intro i;simp only [Jb,List.getElem?_map,List.getElem?_zipIdx,Nat.zero_add];cases k[i]? with
 | none=>rfl
 | some x=>
  simp only [Option.map_some];congr 1;by_cases e:i=n
  ·subst e;simp [h]
  ·have:i<n↔i<n+1:=by omega
   simp [this]
theorem Jhk (n:Int):bits .and .i64 n 1=n % 2:=by
 have h1:(BitVec.ofInt 64 1).toNat=2 ^ 1-1:=by decide
 have key:(BitVec.ofInt 64 n &&& BitVec.ofInt 64 1).toNat=(n % ((2 ^ 64:Nat):Int)).toNat % 2 ^ 1:=by rw [BitVec.toNat_and,BitVec.toNat_ofInt,h1,Nat.and_two_pow_sub_one_eq_mod]
 show IntKind.i64.wrap ((BitVec.ofInt 64 n &&& BitVec.ofInt 64 1).toNat:Nat)=n % 2;rw [key,IntKind.wrap_i64];omega
theorem Jv1 (m k:Nat):(bits BinOp.and IntKind.i64 (((m:Int)) / 2 ^ k) 1 == 0)=!m.testBit k:=by
 rw [Jhk,Nat.testBit,Nat.shiftRight_eq_div_pow];have:((m:Int) / 2 ^ k) % 2=((m / 2 ^ k % 2:Nat):Int):=by push_cast;rfl
 rw [this];have h2:m / 2 ^ k % 2<2:=Nat.mod_lt _ (by omega);generalize hx:m / 2 ^ k=x at *;rcases Nat.mod_two_eq_zero_or_one x with h|h<;>simp [h,Nat.and_comm,Nat.and_one_is_mod]
theorem five {w:World} {b t:Nat} {z:Nat × Nat} {xs:List Int} (h:w.heap[b]?=some (.cells (ai .i64 xs) t z)) (hl:xs.length=5) :
  ∃ x0 x1 x2 x3 x4,xs=[x0,x1,x2,x3,x4]/\w.cell? ⟨b,0,none⟩=some (.int .i64 x0)/\w.cell? ⟨b,1,none⟩=some (.int .i64 x1)/\w.cell? ⟨b,2,none⟩=some (.int .i64 x2)/\w.cell? ⟨b,3,none⟩=some (.int .i64 x3)/\w.cell? ⟨b,4,none⟩=some (.int .i64 x4):=by
 obtain ⟨x0,x1,x2,x3,x4,rfl⟩:∃ x0 x1 x2 x3 x4,xs=[x0,x1,x2,x3,x4]:=by
  rcases xs with _|⟨x0,_|⟨x1,_|⟨x2,_|⟨x3,_|⟨x4,_|⟨x5,l⟩⟩⟩⟩⟩⟩<;>simp at hl
  exact ⟨_,_,_,_,_,rfl⟩
 exact ⟨_,_,_,_,_,rfl,cell_of h 0,cell_of h 1,cell_of h 2,cell_of h 3,cell_of h 4⟩
theorem Jbj (ks:List Int) (hk:ks.length=5) (m:Nat) (w:World):Calls Tryz.prog 26 #[.agg (ai .i64 ks),.int .i64 m] w fun e w'=>e=.returned (.agg (ai .i64 (Jb m ks 5)))/\Tch w.heap.size M0 w w':=by
 go_enter Tryz.func26,Tryz.ntmps26
 go_wp2
 go_loopw [6] (fun i wr=>∃ k:Nat,k<=5/\i=.int .i64 k/\wr.heap[w.heap.size]?=some (.cells (ai .i64 (Jb m ks k)) 76)/\wr.heap[w.heap.size+1]?=some (.cells (ai .i64 [0,0,0,0,0]) 76)/\Tch w.heap.size M0 w wr) (fun i _=>5-(RowKit.intOf i).toNat)
 case atStart=>
  refine ⟨0,by omega,rfl,?_,?_,(Tch.refl.alloc (Ja2 _) _).alloc (by rw [size_alloc];omega) _⟩
  ·rw [Jk2,J7 _ (by rw [size_alloc];omega),Ja]
  ·have:=Ja (w:=w.alloc (.cells (ai .i64 ks) 76)) (.cells #[.int .i64 0,.int .i64 0,.int .i64 0,.int .i64 0,.int .i64 0] 76);rw [size_alloc] at this;exact this
 case round=>
  obtain ⟨k,hk5,rfl,hc,hd,hB⟩:=hrel;have hbit:=Jv1 m k;rcases Jb5 k 5 with hlt|hge
  ·have hcell:=cell_of hc k;rw [Jar (by rw [J66];omega)] at hcell;have hfr:=J02 hc k;have hlt':(k:Int)<5:=by omega
   cases hb:m.testBit k
   ·rw [hb] at hbit;go_wp2;refine ⟨⟨k+1,by omega,by go_num,?_,?_,hB.set (.inl (Ja2 _)) _⟩,?_⟩
    ·rw [heap_set hc,Jwl,Jll hb]
    ·rw [Jk _ _ (by simp)];exact hd
    ·simp [RowKit.intOf];omega
   ·rw [hb] at hbit;go_wp2;refine ⟨⟨k+1,by omega,by go_num,?_,hd,hB⟩,?_⟩
    ·rw [hc,Jk3 hb]
    ·simp [RowKit.intOf];omega
  ·obtain rfl:k=5:=by omega
   obtain ⟨x0,x1,x2,x3,x4,hx,g0,g1,g2,g3,g4⟩:=five hc (by rw [J66];exact hk);have f0:=J02 hd 0;have f1:=J02 hd 1;have f2:=J02 hd 2;have f3:=J02 hd 3;have f4:=J02 hd 4;obtain ⟨y0,y1,y2,y3,y4,hy,k0,k1,k2,k3,k4⟩:=five hd rfl;clear hc hd hbit;go_wp2;refine bodyPost_ret (v:=.agg #[.int .i64 x0,.int .i64 x1,.int .i64 x2,.int .i64 x3,.int .i64 x4]) (by
    have hr:Tryz.f26.results=#[.cell 4 76]:=rfl;simp [results,hr,go_sem,k0,k1,k2,k3,k4]
    ) rfl ⟨?_,?_⟩
   ·rw [hx];rfl
   ·refine ((((hB.set ?_ _).set ?_ _).set ?_ _).set ?_ _).set ?_ _<;>exact .inl (by simp)
def cmpK:List Int->List Int->Int
 | x::xs,y::ys=>if Lib.compareInt x y=0 then cmpK xs ys else Lib.compareInt x y
 | _,_=>0
theorem Jo8 {xs ys:List Int} {k:Nat} (hx:k<xs.length) (hy:k<ys.length):cmpK (xs.drop k) (ys.drop k)=if Lib.compareInt (xs.getD k 0) (ys.getD k 0)=0 then cmpK (xs.drop (k+1)) (ys.drop (k+1)) else Lib.compareInt (xs.getD k 0) (ys.getD k 0):=by rw [List.drop_eq_getElem_cons hx,List.drop_eq_getElem_cons hy,cmpK];simp [Ja7,hx,hy]
theorem Jgl (bx bY cx cy n:Nat) (xs ys:List Int) (hx:xs.length=n) (hy:ys.length=n) (hn:n<1000) (w:World) (gx:∀ j,j<n->w.cell? ⟨bx,j,none⟩=some (.int .i64 (xs.getD j 0))) (gy:∀ j,j<n->w.cell? ⟨bY,j,none⟩=some (.int .i64 (ys.getD j 0))) :
  Calls Tryz.prog 77 #[.slice (some ⟨bx,0,none⟩) n cx,.slice (some ⟨bY,0,none⟩) n cy] w fun e w'=>e=.returned (.int .i64 (cmpK xs ys))/\w'=w:=by
 go_enter Tryz.func77,Tryz.ntmps77
 go_wp2
 go_loop [11] (fun i=>∃ k:Nat,k<=n/\i=.int .i64 k/\cmpK (xs.drop k) (ys.drop k)=cmpK xs ys) (fun i=>n-(RowKit.intOf i).toNat)
 case atStart=>exact ⟨0,by omega,rfl,rfl⟩
 case round=>
  obtain ⟨k,hk,rfl,hc⟩:=hrel;rcases Jb5 k n with hlt|hge
  ·have g1:=gx k hlt;have g2:=gy k hlt;have hlt':(k:Int)<n:=by omega
   rw [Jo8 (by omega) (by omega)] at hc;clear gx gy;generalize xs.getD k 0=x at *;generalize ys.getD k 0=y at *
   go_wp2_with (go_at_call 103;refine (Tryz.cmp_Compare_int _ _ _).mono ?_;rintro e w' ⟨rfl,rfl⟩)
   ·rename_i hne;go_ret;refine ⟨?_,rfl⟩;rw [<- hc,if_neg (by simpa using hne)];rfl
   ·rename_i hne;refine ⟨⟨k+1,by omega,by go_num,?_⟩,by simp [RowKit.intOf];omega⟩;rw [<- hc,if_pos (by simpa using hne)]
  ·have hge':¬ ((k:Int)<n):=by omega
   have hnn:¬ ((n:Int)<n):=by omega
   clear gx gy;go_wp2;go_ret;refine ⟨?_,rfl⟩;rw [<- hc,List.drop_eq_nil_of_le (by omega),List.drop_eq_nil_of_le (by omega)];rfl
theorem Jhl (xs ys:List Int) (hx:xs.length=5) (hy:ys.length=5) (w:World) :
  Calls Tryz.prog 58 #[.agg (ai .i64 xs),.agg (ai .i64 ys)] w fun e w'=>e=.returned (.int .i64 (cmpK xs ys))/\w'=((w.alloc (.cells (ai .i64 xs) 76)).alloc (.cells (ai .i64 ys) 76)).drew:=by
 have s1:=size_alloc (w:=w) (.cells (ai .i64 xs) 76);have b1:((w.alloc (.cells (ai .i64 xs) 76)).alloc (.cells (ai .i64 ys) 76)).heap[w.heap.size]?=some (.cells (ai .i64 xs) 76):=by rw [J7 _ (by omega),Ja]
 have b2:((w.alloc (.cells (ai .i64 xs) 76)).alloc (.cells (ai .i64 ys) 76)).heap[w.heap.size+1]?=some (.cells (ai .i64 ys) 76):=by
  have:=Ja (w:=w.alloc (.cells (ai .i64 xs) 76)) (.cells (ai .i64 ys) 76)
  rwa [s1] at this
 have hcmp:=Jgl w.heap.size (w.heap.size+1) 5 5 5 xs ys hx hy (by omega) ((w.alloc (.cells (ai .i64 xs) 76)).alloc (.cells (ai .i64 ys) 76)).drew (fun j hj=>(cell_of b1 j).trans (Jar (by omega))) (fun j hj=>(cell_of b2 j).trans (Jar (by omega)));clear b1 b2 s1
 go_enter Tryz.func58,Tryz.ntmps58
 go_wp2
 go_region_with (go_at_call 77;refine hcmp.mono ?_;rintro e w' ⟨rfl,rfl⟩)
 all_goals go_wp2
 all_goals go_ret
 all_goals exact ⟨rfl,rfl⟩
end Go.Sim.Z
namespace Go.Sim.Z
open Go Go.Proofs Go.RowKit Go.Maps
theorem Jhm:laidOutB Tryz.prog=true:=by kernel_rfl
theorem Jgv:WideMaps.KeyLaw Tryz.prog 76:=deep_law_laid Jhm (m:=2) (by omega) (of_decide_eq_true (by kernel_rfl)) (by kernel_rfl) (by rw [Tryz.underlying76])
theorem J7t:Keyed Tryz.prog 76:=.of_law Jgv
def J0t (k:List Int):Prop:=k.length=5/\∀ x∈k,(Lit.int .i64 x).wf=true
def klit (k:List Int):Lit:=.string (keyBytes (k.map (Lit.int .i64)))
theorem J4q {k:List Int} (h:J0t k):keyOf Tryz.prog 76 (.agg (ai .i64 k))=some (klit k):=by
 obtain ⟨h1,h2⟩:=h;obtain ⟨x0,x1,x2,x3,x4,rfl⟩:∃ x0 x1 x2 x3 x4,k=[x0,x1,x2,x3,x4]:=by
  rcases k with _|⟨x0,_|⟨x1,_|⟨x2,_|⟨x3,_|⟨x4,_|⟨x5,l⟩⟩⟩⟩⟩⟩<;>simp at h1
  exact ⟨_,_,_,_,_,rfl⟩
 have ht:Tryz.prog.keyType 76=true:=by kernel_rfl
 have c76:Tryz.prog.cellsOf 76=5:=by kernel_rfl
 have c3:Tryz.prog.cellsOf 3=1:=by kernel_rfl
 have hf:Value.formed Tryz.prog 76 (.agg (ai .i64 [x0,x1,x2,x3,x4]))=true:=by simp [Value.formed,Tryz.underlying76,c76]
 have e:∀ d x,x∈[x0,x1,x2,x3,x4]->Tryz.prog.keyLits (d+1) 3 [.int .i64 x]=some [.int .i64 x]:=fun d x hx=>by simp only [Program.keyLits,Tryz.underlying3,h2 x hx,and_self,if_true]
 have hs:Tryz.prog.types.size+1=(Tryz.prog.types.size-1)+1+1:=by
  have:0<Tryz.prog.types.size:=by
   have:decide (0<Tryz.prog.types.size)=true:=by kernel_rfl
   simpa using this
  omega
 simp only [keyOf,Tryz.underlying76,ht,hf,Bool.and_self,if_true];rw [hs];simp only [Program.keyLits,Tryz.underlying76,c76,c3];have w0:=h2 x0 (by simp);have w1:=h2 x1 (by simp);have w2:=h2 x2 (by simp);have w3:=h2 x3 (by simp);have w4:=h2 x4 (by simp);simp [ai,Value.cells,List.range,List.range.loop,e,klit,keyBytes,w0,w1,w2,w3,w4]
theorem Jqz {k k':List Int} (h:J0t k) (h':J0t k') (e:klit k=klit k'):k=k':=by
 have:=Jgv.inj (J4q h) (e▸J4q h');simp only [Value.agg.injEq,ai,List.toArray_inj] at this;have inj:∀ (a b:List Int),a.map (Value.int .i64)=b.map (Value.int .i64)->a=b:=by
  intro a
  induction a with
  | nil=>intro b h;cases b with
   | nil=>rfl
   | cons y b=>simp at h
  | cons x a ih=>intro b h;cases b with
   | nil=>simp at h
   | cons y b=>simp at h;rw [h.1,ih b (by simpa using h.2)]
 exact inj _ _ (congrArg Array.toList this)
theorem J5b {k k':List Int} (h:J0t k) (h':J0t k'):(klit k).sameKey (klit k')=decide (k=k'):=by
 by_cases e:k=k'
 ·subst e;simp [klit,Lit.sameKey]
 ·have:klit k≠klit k':=fun x=>e (Jqz h h' x);simp only [klit,Lit.string.injEq,ne_eq] at this;simp [klit,Lit.sameKey,this,e]
def Rv (v:Value):Option (DataW Value × List MemPlace):=some (.held v,[])
def J0r (p:List Int × Value):Lit × DataW Value:=(klit p.1,.held p.2)
theorem insert_perm {H:Type} (x:Lit × DataW H):∀ l:List (Lit × DataW H),(DataW.insert x l).Perm (x::l)
 | []=>.refl _
 | y::r=>by
  unfold DataW.insert;split
  ·exact .refl _
  ·exact ((insert_perm x r).cons y).trans (.swap x y r)
theorem J8d (p:List Int × Value):∀ M:List (List Int × Value),∃ L:List (List Int × Value),L.map J0r=DataW.insert (J0r p) (M.map J0r)/\L.Perm (p::M)
 | []=>⟨[p],rfl,.refl _⟩
 | y::r=>by
  simp only [Jc4,DataW.insert];split
  ·exact ⟨p::y::r,rfl,.refl _⟩
  ·obtain ⟨L,h1,h2⟩:=J8d p r;exact ⟨y::L,by simp [h1],(h2.cons y).trans (.swap p y r)⟩
structure J09 (w:World) (b:Nat) (L:List (List Int × Value)):Prop where
 keys:∀ p∈L,J0t p.1
 nodup:(L.map (·.1)).Nodup
 own:∃ L':List (List Int × Value),L'.Perm L/\∃ n,w.ownsMap Tryz.prog 76 Rv b n (.map (L'.map J0r))
theorem Jks {w:World} {b n:Nat} {E:List (Lit × DataW Value)} (h:w.ownsMap Tryz.prog 76 Rv b n (.map E)):w.ownsMap Tryz.prog 76 Rv b E.length (.map E):=by obtain ⟨es,clock,h1,h2,h3,h4⟩:=h;refine ⟨es,clock,h1,h2,?_,h4⟩;cases h4;rw [length_sorted];simp
theorem J09.kept {w w':World} {b:Nat} {L:List (List Int × Value)} (h:J09 w b L) (hb:w'.heap[b]?=w.heap[b]?):J09 w' b L:=by obtain ⟨L',h1,n,es,clock,h2,h3⟩:=h.own;exact ⟨h.keys,h.nodup,L',h1,n,es,clock,hb.trans h2,h3⟩
theorem J09.made (w:World):J09 (w.alloc (.map #[] 0)) w.heap.size []:=
 ⟨fun p hp=>by simp at hp,by simp,[],.refl _,0,World.ownsMap_made w Tryz.prog 76 Rv⟩
theorem J09.lt {w:World} {b:Nat} {L:List (List Int × Value)} (h:J09 w b L):b<w.heap.size:=by obtain ⟨_,_,_,h2⟩:=h.own;exact h2.lt
theorem Jhn {k:List Int} (hk:J0t k):∀ L:List (List Int × Value),(∀ p∈L,J0t p.1)->((L.map J0r).find? fun p=>p.1.sameKey (klit k))=(L.find? fun p=>decide (p.1=k)).map J0r
 | [],_=>rfl
 | p::L,h=>by
  simp only [Jc4,List.find?_cons];rw [show (J0r p).1.sameKey (klit k)=decide (p.1=k) from J5b (h p (by simp)) hk];by_cases e:p.1=k
  ·simp [e]
  ·simp only [e,decide_false];exact Jhn hk L fun q hq=>h q (by simp [hq])
def look (L:List (List Int × Value)) (k:List Int):Option Value:=(L.find? fun p=>decide (p.1=k)).map (·.2)
theorem Jbs {L:List (List Int × Value)} (hn:(L.map (·.1)).Nodup) {k:List Int} {v:Value}:look L k=some v↔(k,v)∈L:=by
 induction L with
 | nil=>simp [look]
 | cons p L ih=>
  simp only [Jc4,List.nodup_cons] at hn;unfold look at ih ⊢;rw [List.find?_cons];by_cases e:p.1=k
  ·subst e;simp only [decide_true,Option.map_some,Jb2,Jb8];constructor
   ·rintro rfl;exact .inl rfl
   ·rintro (h|h)
    ·rw [<- h]
    ·exact absurd (Jb3.2 ⟨_,h,rfl⟩) hn.1
  ·simp only [e,decide_false,Jb8];rw [ih hn.2];constructor
   ·exact .inr
   ·rintro (h|h)
    ·exact absurd (by rw [<- h]) e
    ·exact h
theorem Jo9 {L L':List (List Int × Value)} (hp:L'.Perm L) (hn:(L.map (·.1)).Nodup) (k:List Int):look L' k=look L k:=by apply Option.ext;intro v;rw [Jbs hn,Jbs ((hp.map _).nodup_iff.2 hn),hp.mem_iff]
theorem J09.lookup {w:World} {b:Nat} {L:List (List Int × Value)} (h:J09 w b L) {k:List Int} (hk:J0t k) :
  (Instr.lookup 70 (.map (some b)) (.agg (ai .i64 k)) false).run Tryz.prog w=.ok ((look L k).getD (.pointer none)) w:=by
 obtain ⟨L',h1,n,h2⟩:=h.own;obtain ⟨v,ps,hrun,hv⟩:=h2.lookup J7t Tryz.underlying70 (Tryz.zeroValue78 w) (zd:=.held (.pointer none)) (zp:=[]) rfl (J4q hk);rw [hrun];have e:(DataW.map (L'.map J0r)).atKey (klit k) (.held (.pointer none))=.held ((look L k).getD (.pointer none)):=by simp only [DataW.atKey,Jhn hk L' fun p hp=>h.keys p (h1.mem_iff.1 hp)];rw [<- Jo9 h1 h.nodup];unfold look;cases L'.find? fun p=>decide (p.1=k)<;>rfl
 rw [e] at hv;simp only [Rv,Jb2,Prod.mk.injEq,DataW.held.injEq] at hv;rw [hv.1]
def J5c (k:List Int) (v:Value) (L:List (List Int × Value)):List (List Int × Value):=(k,v)::L.filter fun p=>!decide (p.1=k)
theorem J09.update {w:World} {b:Nat} {L:List (List Int × Value)} (h:J09 w b L) (hn:L.length<maxLen) {k:List Int} (hk:J0t k) (v:Value) :
  ∃ w',(Instr.mapUpdate 70 (.map (some b)) (.agg (ai .i64 k)) v).run Tryz.prog w=.ok () w'/\J09 w' b (J5c k v L)/\w.grownBy w' (some b):=by
 obtain ⟨L',h1,n,h2⟩:=h.own;have hlen:(L'.map J0r).length<maxLen:=by simpa [h1.length_eq] using hn
 obtain ⟨w',hrun,h3,h4⟩:=(Jks h2).update J7t Tryz.underlying70 hlen (J4q hk) (val:=v) (d:=.held v) (ps:=[]) rfl;refine ⟨w',hrun,⟨fun p hp=>?_,?_,?_⟩,h4⟩
 ·rcases Jb8.1 hp with rfl|hp
  ·exact hk
  ·exact h.keys p (Jd5.1 hp).1
 ·simp only [J5c,Jc4,List.nodup_cons];constructor
  ·intro hm;obtain ⟨p,hp,e⟩:=Jb3.1 hm;have:=(Jd5.1 hp).2;simp [e] at this
  ·exact (List.Sublist.map _ (List.filter_sublist)).nodup h.nodup
 ·have e:(DataW.map (L'.map J0r)).put (klit k) (.held v)=.map (DataW.insert (J0r (k,v)) ((L'.filter fun p=>!decide (p.1=k)).map J0r)):=by
   have ef:(L'.map J0r).filter (fun p=>!p.1.sameKey (klit k))=(L'.filter fun p=>!decide (p.1=k)).map J0r:=by
    rw [List.filter_map];refine congrArg (List.map J0r) (List.filter_congr fun p hp=>?_);simp only [Function.comp];rw [show (J0r p).1.sameKey (klit k)=decide (p.1=k) from J5b (h.keys p (h1.mem_iff.1 hp)) hk]
   show DataW.map (DataW.insert _ ((L'.map J0r).filter (fun p=>!p.1.sameKey (klit k))))=_;rw [ef];rfl
  rw [e] at h3;obtain ⟨L2,e2,hp2⟩:=J8d (k,v) (L'.filter fun p=>!decide (p.1=k));rw [<- e2] at h3;exact ⟨L2,hp2.trans ((h1.filter _).cons _),_,h3⟩
end Go.Sim.Z
namespace Go.Sim.Z
open Go Go.Proofs Go.RowKit Go.Maps Go.Sort Go.Shelf
abbrev Je:={ k:List Int // J0t k }
def J7h (x:Je):Value:=.agg (ai .i64 x.1)
theorem Jk4 {v:Value} {l:Lit} (h:keyOf Tryz.prog 76 v=some l):∃ x:Je,v=J7h x:=by
 have c76:Tryz.prog.cellsOf 76=5:=by kernel_rfl
 have c3:Tryz.prog.cellsOf 3=1:=by kernel_rfl
 simp only [keyOf,Tryz.underlying76] at h;split at h
 ·rename_i hf;simp only [Ja8] at hf;obtain ⟨_,hf⟩:=hf;cases v with
  | agg cs=>
   simp only [Value.formed,Tryz.underlying76,c76] at hf;have hs:cs.size=5:=by simpa using hf
   obtain ⟨l5⟩:=cs;simp only [List.size_toArray] at hs;obtain ⟨x0,x1,x2,x3,x4,rfl⟩:∃ x0 x1 x2 x3 x4,l5=[x0,x1,x2,x3,x4]:=by
    rcases l5 with _|⟨x0,_|⟨x1,_|⟨x2,_|⟨x3,_|⟨x4,_|⟨x5,l⟩⟩⟩⟩⟩⟩<;>simp at hs
    exact ⟨_,_,_,_,_,rfl⟩
   have hsz:Tryz.prog.types.size+1=(Tryz.prog.types.size-1)+1+1:=by
    have:0<Tryz.prog.types.size:=by
     have:decide (0<Tryz.prog.types.size)=true:=by kernel_rfl
     simpa using this
    omega
   have one:∀ d x ls,Tryz.prog.keyLits (d+1) 3 [x]=some ls->∃ n,x=.int .i64 n/\(Lit.int .i64 n).wf=true:=by
    intro d x ls hx;simp only [Program.keyLits,Tryz.underlying3] at hx;cases x with
    | int q n=>
     by_cases hq:q=.i64/\(Lit.int .i64 n).wf=true
     ·obtain ⟨rfl,hw⟩:=hq;exact ⟨n,rfl,hw⟩
     ·simp [hq] at hx
    | _=>simp at hx
   rw [hsz] at h;generalize Tryz.prog.types.size-1=d at h;obtain ⟨a,ha,_⟩:=Jc0.1 h;unfold Program.keyLits at ha;simp only [Tryz.underlying76,c76,c3,Value.cells,Jd2,List.length_nil,if_true] at ha;have o0:=one d x0;have o1:=one d x1;have o2:=one d x2;have o3:=one d x3;have o4:=one d x4;generalize hk:Tryz.prog.keyLits (d+1) 3=K at ha o0 o1 o2 o3 o4;clear hk;simp [List.range,List.range.loop] at ha;cases k0:K [x0] with
   | none=>simp [k0] at ha
   | some r0=>cases k1:K [x1] with
    | none=>simp [k0,k1] at ha
    | some r1=>cases k2:K [x2] with
     | none=>simp [k0,k1,k2] at ha
     | some r2=>cases k3:K [x3] with
      | none=>simp [k0,k1,k2,k3] at ha
      | some r3=>cases k4:K [x4] with
       | none=>simp [k0,k1,k2,k3,k4] at ha
       | some r4=>
        obtain ⟨n0,rfl,w0⟩:=o0 _ k0;obtain ⟨n1,rfl,w1⟩:=o1 _ k1;obtain ⟨n2,rfl,w2⟩:=o2 _ k2;obtain ⟨n3,rfl,w3⟩:=o3 _ k3;obtain ⟨n4,rfl,w4⟩:=o4 _ k4;exact ⟨⟨[n0,n1,n2,n3,n4],rfl,by simp [w0,w1,w2,w3,w4]⟩,rfl⟩
  | _=>simp [Value.formed,Tryz.underlying76] at hf
 ·cases h
def J6g (D0:DataW Value) (left:Lit->Bool) (ss:List Je):Prop:=ss.Nodup/\∀ x:Je,x∈ss↔(has D0 (klit x.1)=true/\left (klit x.1)=false)
section
variable {D0:DataW Value} {left:Lit->Bool} {ss:List Je}
theorem J6g.start (D0:DataW Value):J6g D0 (has D0) []:=⟨List.nodup_nil,fun x=>by cases has D0 (klit x.1)<;>simp⟩
theorem J6g.step (h:J6g D0 left ss) {x:Je} {y:DataW Value} (hlk:left (klit x.1)=true) (hat:∀ zd,D0.atKey (klit x.1) zd=y):J6g D0 (fun z=>left z && !z.sameKey (klit x.1)) (ss++[x]):=by
 have hhas:has D0 (klit x.1)=true:=has_true_of_atKey hat;have hnew:x∉ss:=fun hx=>by have:=((h.2 x).1 hx).2;rw [hlk] at this;cases this
 refine ⟨List.nodup_append.2 ⟨h.1,by simp,fun a ha b hb=>by simp at hb;subst hb;exact fun e=>hnew (e▸ha)⟩,fun y=>?_⟩;by_cases hy:y=x
 ·subst hy;simp [hhas,J5b y.2 y.2]
 ·have:y.1≠x.1:=fun e=>hy (Subtype.ext e);simp [h.2 y,hy,J5b y.2 x.2,this]
end
theorem Jkt {L:List (List Int × Value)} (h:∀ p∈L,J0t p.1) {k:List Int} (hk:J0t k):has (DataW.map (L.map J0r)) (klit k)=true↔k∈L.map (·.1):=by
 simp only [has,List.any_eq_true,Jb3];constructor
 ·rintro ⟨_,⟨p,hp,rfl⟩,hs⟩;rw [show (J0r p).1.sameKey (klit k)=decide (p.1=k) from J5b (h p hp) hk] at hs;exact ⟨p,hp,by simpa using hs⟩
 ·rintro ⟨p,hp,rfl⟩;exact ⟨_,⟨p,hp,rfl⟩,by rw [show (J0r p).1.sameKey (klit p.1)=decide (p.1=p.1) from J5b (h p hp) hk];simp⟩
def KeysOf (L:List (List Int × Value)) (ss:List Je):Prop:=(ss.map (·.1)).Perm (L.map (·.1))
theorem J6g.perm {L:List (List Int × Value)} {L':List (List Int × Value)} (hp:L'.Perm L) (hk:∀ p∈L,J0t p.1) (hn:(L.map (·.1)).Nodup) {left:Lit->Bool} {ss:List Je} (h:J6g (.map (L'.map J0r)) left ss) (hl:∀ kl,left kl=false):KeysOf L ss:=by
 have hk':∀ p∈L',J0t p.1:=fun p hp'=>hk p (hp.mem_iff.1 hp');refine (List.perm_ext_iff_of_nodup ?_ hn).2 fun k=>?_
 ·exact List.pairwise_map.2 (h.1.imp fun hne e=>hne (Subtype.ext e))
 ·rw [<- (hp.map (·.1)).mem_iff];constructor
  ·intro hm;obtain ⟨x,hx,rfl⟩:=Jb3.1 hm;exact (Jkt hk' x.2).1 ((h.2 x).1 hx).1
  ·intro hm;obtain ⟨p,hp',rfl⟩:=Jb3.1 hm;exact Jb3.2 ⟨⟨p.1,hk' p hp'⟩,(h.2 _).2 ⟨(Jkt hk' (hk' p hp')).2 hm,hl _⟩,rfl⟩
set_option maxHeartbeats 1000000 in
theorem keys1N_in (F:Fence) (n:Nat) (h10:F.fn 74) (hro:F.round=none) (hn:1<=n) (l Bm b nn:Nat) (L0:List (List Int × Value)) (hkeys:∀ p∈L0,J0t p.1) (hnd:(L0.map (·.1)).Nodup) (J:List Je->World->Prop)
  (hY:∀ pre x W,J pre W->pre.length<L0.length->YieldAt F (n-1) Tryz.prog l #[J7h x] W fun e W'=>e=.returned (.bool true)/\J (pre++[x]) W'/\KeepsWalks W W')
  (W:World) (hJ:AbidesFrom W.heap.size J) (hm:W.cell? ⟨Bm,0,none⟩=some (.map (some b))) (L':List (List Int × Value)) (hL':L'.Perm L0) (hown:W.ownsMap Tryz.prog 76 Rv b nn (.map (L'.map J0r))) (h0:J [] W) :
  CallsIn F n Tryz.prog 74 #[.func (.yield l) #[] #[],.pointer (some ⟨Bm,0,none⟩)] W fun e W'=>(∃ v,e=.returned v)/\∃ ss:List Je,KeysOf L0 ss/\J ss W':=by
 have hsize:Maps.size (DataW.map (L'.map J0r))=L0.length:=by simp [Maps.size,hL'.length_eq]
 refine callsIn_of_wp Tryz.func74 rfl h10 ?_ hro;simp only [Tryz.ntmps74,List.size_toArray,Jd2,List.length_nil,Nat.reduceAdd,Nat.reduceSub,Array.replicate_succ,Array.replicate_zero,List.push_toArray,List.append_toArray,Jc8,Jc7]
 gi_wp2_with (first
  | (gi_at_range;refine wpListIn_range_own _ rfl _ 70 rfl 76 78 J7t Tryz.underlying70 _ b nn _ rfl hown ?_;intro w0 hrg0 hg0 hs0)
  | gi_in)
 go_frame
 gi_loopw [6] (fun _ wr=>∃ (left:Lit->Bool) (cnt:Nat) (ss:List Je),wr.ranges Tryz.prog 76 Rv b W.heap.size nn (.map (L'.map J0r)) left cnt/\ss.length+cnt<=L0.length/\J6g (.map (L'.map J0r)) left ss/\J ss wr)
  (fun _ wr=>wr.rangeLeft b W.heap.size)
 case atStart=>
  exact ⟨_,_,[],hrg0,by simp [hsize],J6g.start _,hJ [] W w0 none h0 hg0 (fun r e=>by cases e)⟩
 case round=>
  obtain ⟨left,cnt,ss,hrg,hcs,hC,hJs⟩:=hrel
  gi_wp2_with (first
   | (gi_at_next;refine wpListIn_next_ranges _ rfl _ rfl 76 J7t Rv J7h id (fun key kl hk=>Jk4 hk) (fun v _ _=>⟨v,rfl⟩) b W.heap.size nn _ _ _ rfl hrg ?_ ?_)
   | gi_in)
  ·
   intro hc0 hl0;gi_wp2;go_end0;exact ⟨⟨_,rfl⟩,ss,hC.perm hL' hkeys hnd hl0,hJs⟩
  ·
   intro xs hxs c kl yd yp w2 cnt2 hkey hlk hv hat hrg2 hlt hg2 hs2 hen;have hke:kl=klit xs:=by have:=hkey.symm.trans (J4q hxs);exact Ja0 this
   subst hke;have hJ2:J ss w2:=hJ ss wr w2 (some W.heap.size) hJs hg2 (fun r e=>by cases e;exact ⟨Ja2 _,hrg.iter_walk⟩);obtain ⟨x0,x1,x2,x3,x4,rfl⟩:∃ x0 x1 x2 x3 x4,xs=[x0,x1,x2,x3,x4]:=by
    have h1:=hxs.1;rcases xs with _|⟨x0,_|⟨x1,_|⟨x2,_|⟨x3,_|⟨x4,_|⟨x5,l⟩⟩⟩⟩⟩⟩<;>simp at h1
    exact ⟨_,_,_,_,_,rfl⟩
   have hJ3:J ss (w2.alloc (.cells #[.int .i64 x0,.int .i64 x1,.int .i64 x2,.int .i64 x3,.int .i64 x4] 76)):=hJ ss w2 _ none hJ2 (World.grownBy_alloc _ _ _) (fun r e=>by cases e);obtain ⟨fn,tmps,assign,body,hy,hR⟩:=hY ss ⟨[x0,x1,x2,x3,x4],hxs⟩ _ hJ3 (by omega);simp only [J7h,ai,Jc4,List.map_nil] at hy hen;clear hs2 hJ3;gi_wp2;refine hR.mono ?_;rintro e W3 ⟨rfl,hJ3,hk3⟩;gi_wp2;have hrg3:=hrg2.of_walks ((KeepsWalks.alloc _ _).trans hk3);have hC2:=hC.step (x:=⟨[x0,x1,x2,x3,x4],hxs⟩) hlk hat
   go_roundw
   case rel=>exact ⟨_,cnt2,ss++[⟨[x0,x1,x2,x3,x4],hxs⟩],hrg3,by simp;omega,hC2,hJ3⟩
   case measure=>rw [hrg3.left_eq,hrg.left_eq];exact hlt
theorem Jlm (mb:Option Nat) (w:World) :
  Calls Tryz.prog 56 #[.map mb] w fun e w'=>e=.returned (.func (.func 74) #[] #[.pointer (some ⟨w.heap.size,0,none⟩)])/\w'=w.alloc (.cells #[.map mb] 70):=by
 go_enter Tryz.func56,Tryz.ntmps56
 go_wp2;go_ret;exact ⟨rfl,rfl⟩
theorem keys_gives (F:Fence) (n:Nat) (h10:F.fn 74) (hro:F.round=none) (hn:1<=n) (Bm b:Nat) (L0:List (List Int × Value)) (w:World) (hBm:Bm<w.heap.size)
  (hm:w.cell? ⟨Bm,0,none⟩=some (.map (some b))) (hown:J09 w b L0) :
  SeqGives F n Tryz.prog 74 #[.pointer (some ⟨Bm,0,none⟩)] J7h (KeysOf L0) L0.length w:=fun l J W hW hJ hY h0=>by
 have hown':J09 W b L0:=hown.kept (hW.block b hown.lt);obtain ⟨L',hL',nn,ho⟩:=hown'.own;exact keys1N_in F n h10 hro hn l Bm b nn L0 hown.keys hown.nodup J hY W hJ ((hW.cell (p:=⟨Bm,0,none⟩) hBm).trans hm) L' hL' ho h0
end Go.Sim.Z
