/- Proved: laws for the claim. No conditions. -/
import Derived.Lib.SliceRun
import Derived.Deep.RegionHeld3
import Derived.Lib.SlicesSearch
import Derived.Shelf.Spec.SlicesInsertGrow
import Derived.Test.YtlcbehhbfglgaaaGreatDoorA00
set_option linter.all false
set_option maxHeartbeats 12000000
set_option maxRecDepth 100000
open Go.Proofs.Tryz
namespace Go.Sim.Z
open Go Go.Proofs Go.RowKit
def Blk(fr:Bool)(w:JE)(b:Nat)(arr:JC)(t:JH):Prop:=∃z,w.heap[b]?=some (.cells arr t z)/\(fr=false->z=(0,0))
def Row(fr:Bool)(w:JE)(b:Nat)(t:JH)(k:IntKind)(xs:JD)(cap:Nat):Prop:=
 ∃cur,Blk fr w b cur t/\cur.size=cap/\xs.length<=cap/\(∀i,i<xs.length->cur[i]?=some (.int k (xs.getD i 0)))/\Plain cur
section
variable{fr:Bool}{w w':JE}{b:Nat}{arr:JC}{t:JH}{k:IntKind}{xs:JD}{cap:Nat}
def Blk.lt(h:Blk fr w b arr t):b<w.heap.size:=by obtain⟨z,h,_⟩:=h;exact Jj h
def Blk.cell(h:Blk fr w b arr t)(i:Nat):w.cell? ⟨b,i,none⟩=arr[i]?:=by obtain⟨z,h,_⟩:=h;exact cell_of h i
def Blk.frozen(h:Blk false w b arr t)(i:Nat):w.frozen? ⟨b,i,none⟩=false:=by obtain⟨z,h,hz⟩:=h;cases hz rfl;exact FZ h i
def Blk.kept(h:Blk fr w b arr t)(hb:w'.heap[b]?=w.heap[b]?):Blk fr w' b arr t:=by obtain⟨z,h,hz⟩:=h;exact⟨z,hb.trans h,hz⟩
def Blk.set(h:Blk false w b arr t)(i:Nat)(v:JJ):Blk false (w.setCell ⟨b,i,none⟩ v) b (arr.setIfInBounds i v) t:=by obtain⟨z,h,hz⟩:=h;cases hz rfl;exact⟨(0,0),heap_set h i v,λ_=>rfl⟩
def Blk.tch{N:Nat}{M:JB}(h:Blk fr w b arr t)(k:Tch N M w w')(hb:b<N)(hm:¬M b):Blk fr w' b arr t:=h.kept (k.heap b hb hm)
def Row.lt(h:Row fr w b t k xs cap):b<w.heap.size:=by obtain⟨_,h,_⟩:=h;exact h.lt
def Row.cell(h:Row fr w b t k xs cap){i:Nat}(hi:i<xs.length):w.cell? ⟨b,i,none⟩=some (.int k (xs.getD i 0)):=by obtain⟨cur,h1,_,_,h4,_⟩:=h;rw[h1.cell,h4 i hi]
def Row.frozen(h:Row false w b t k xs cap)(i:Nat):w.frozen? ⟨b,i,none⟩=false:=by obtain⟨_,h,_⟩:=h;exact h.frozen i
def Row.kept(h:Row fr w b t k xs cap)(hb:w'.heap[b]?=w.heap[b]?):Row fr w' b t k xs cap:=by obtain⟨cur,h1,h2⟩:=h;exact⟨cur,h1.kept hb,h2⟩
def Row.tch{N:Nat}{M:JB}(h:Row fr w b t k xs cap)(q:Tch N M w w')(hb:b<N)(hm:¬M b):Row fr w' b t k xs cap:=h.kept (q.heap b hb hm)
def Row.set(h:Row false w b t k xs cap)(i:Nat)(v:Int):Row false (w.setCell ⟨b,i,none⟩ (.int k v)) b t k (xs.set i v) cap:=by
 obtain⟨cur,h1,h2,h3,h4,h5⟩:=h;refine⟨_,h1.set i _,by simpa using h2,by simpa using h3,λj hj=>?_,h5.set i ⟨_,_,rfl⟩⟩;simp only[List.length_set]at hj;rw[Gj,C9,List.getElem?_set];by_cases e:i=j
 .subst e;simp[hj,show i<cur.size by omega]
 .simp only[e,if_false];rw[h4 j hj,C9]
def Row.cells(h:Row fr w b t k xs cap):∀j u,(xs.map (Value.int k))[j]?=some u->w.cell? ⟨b,0+j,none⟩=some u:=by intro j u hj;rw[List.getElem?_map,Fh]at hj;obtain⟨x,hx,rfl⟩:=hj;have Ac:j<xs.length:=(List.getElem?_eq_some_iff.1 hx).1;rw[Nat.zero_add,h.cell Ac,C9,hx];rfl
def Row.nP{base n:Nat}{v:JJ}(h:w.ownsRow base t 1 v n (xs.map (Value.int k)))(hv:v≠.slice none 0 0)(hp:Ko w v):∃g cap,v=.slice (some ⟨g,0,none⟩) xs.length cap/\base<=g/\Row false w g t k xs cap/\cap<=maxLen:=by
 obtain⟨h0,⟨rfl,_⟩|⟨g,cap,cur,rfl,h1,h2,h3,h4,h5,h6⟩⟩:=h
 .exact absurd rfl hv
 .simp only[FQ,Nat.mul_one]at h0 h5 h6;subst h0;refine⟨g,cap,rfl,h1,⟨cur,⟨(0,0),h2,λ_=>rfl⟩,h5,h3,λi hi=>?_,hp g _ cap rfl cur t _ h2⟩,h4⟩;have:=congrArg (·[i]?) h6;simp only[List.getElem?_take,hi,if_true,List.getElem?_map]at this;rw[<- Array.getElem?_toList,this,C9,DL hi];rfl
end
def F8(xs ys:JD)(k:Nat):JD:=xs.take k++ys.drop k
def Rw{xs ys:JD}(h:xs.length=ys.length)(k:Nat):(F8 xs ys k).length=ys.length:=by simp[F8];omega
def ZY(xs ys:JD):F8 xs ys 0=ys:=by simp[F8]
def aA{xs ys:JD}{n:Nat}(h:xs.length=n)(h':ys.length=n):F8 xs ys n=xs:=by unfold F8;rw[List.drop_eq_nil_of_le (by omega),List.append_nil,List.take_of_length_le (by omega)]
def Jgj{xs ys:JD}(h:xs.length=ys.length){k:Nat}(hk:k<ys.length):(F8 xs ys k).getD k 0=ys.getD k 0:=by unfold F8;rw[C9,C9,List.getElem?_append_right (by simp;omega)];simp[Nat.min_eq_left (show k<=xs.length by omega)]
def aB{xs ys:JD}(h:xs.length=ys.length){k:Nat}(hk:k<ys.length){v:Int}(hv:v=xs.getD k 0):(F8 xs ys k).set k v=F8 xs ys (k+1):=by
 subst hv;apply List.ext_getElem?;intro i;rw[List.getElem?_set,Rw h];unfold F8;by_cases e:k=i
 .subst e;rw[if_pos rfl,if_pos hk,List.getElem?_append_left (by simp;omega),List.getElem?_take,if_pos (by omega),C9,DL (by omega)];rfl
 .rw[if_neg e];rcases BF i k with h1|h1
  .rw[List.getElem?_append_left (by simp;omega),List.getElem?_append_left (by simp;omega),List.getElem?_take,List.getElem?_take,if_pos h1,if_pos (by omega)]
  .rw[List.getElem?_append_right (by simp;omega),List.getElem?_append_right (by simp;omega)];simp only[List.length_take,List.getElem?_drop];congr 1;omega
def Jhg(z:JJ)(n:Nat):madeCells #[z] n=Array.replicate n z:=by
 apply Ll;intro i;by_cases h:i<n
 .simp[madeCells,h,Nat.mod_one]
 .rw[Cc (by simp[madeCells];omega),Cc (by simp;omega)]
def info5:(prog.info? 5).map (λi=>(i.zero,i.size,i.bytes))=some (some (.int .u8 0),1,1):=by kernel_rfl
def info3:(prog.info? 3).map (λi=>(i.zero,i.size,i.bytes))=some (some (.int .i64 0),1,8):=by kernel_rfl
def Wh:(prog.info? 110).map (λi=>(i.zero,i.size,i.bytes))=some (some (.int .u64 0),1,8):=by kernel_rfl
def mkRow(t e:JH)(k:IntKind)(vP:Nat)(ht:prog.underlying t=some (.slice e))(hi:(prog.info? e).map (λi=>(i.zero,i.size,i.bytes))=some (some (.int k 0),1,vP))(hb:vP<=8)(n:Nat)(hn:n<=100000)(w:JE) :
  (Instr.makeSlice t (.int .i64 n) (.int .i64 n)).run prog w=.ok (.slice (some ⟨w.heap.size,0,none⟩) n n) (w.alloc (.cells (Array.replicate n (.int k 0)) e)):=by
 obtain⟨i0,h1,h2,h3,h4⟩:=info_parts hi;have FD:(i0.bytes:Int)*n<=281474976710656:=by
  rw[h4];have:vP*n<=8*100000:=Nat.mul_le_mul hb hn;have h:((vP*n:Nat):Int)<=281474976710656:=by omega
  rwa [Int.natCast_mul]at h
 have:=run_makeSlice w t e i0 _ ht h1 h2 .i64 .i64 n n (by omega) (by omega) (by rw[h3];simp;omega) FD (by omega);rw[h3]at this;simp only[Int.toNat_natCast,Nat.mul_one]at this;rw[this,show(Value.int k 0).cells=#[.int k 0]from rfl,Jhg]
def nR(w:JE)(t:JH)(k:IntKind)(n:Nat):Row false (w.alloc (.cells (Array.replicate n (.int k 0)) t)) w.heap.size t k (List.replicate n 0) n:=by refine⟨_,⟨(0,0),Ja _,λ_=>rfl⟩,by simp,by simp,λi hi=>?_,.replicate ⟨_,_,rfl⟩⟩;simp only[List.length_replicate]at hi;simp[hi,C9]
section
variable{fr:Bool}{w:JE}{b:Nat}{xs:JD}{cap:Nat}
def Row.Gw{t:JH}{k:IntKind}(h:Row fr w b t k xs cap):∀j u,(xs.map (Value.int k))[j]?=some u->w.cell? ((⟨b,0,none⟩:Addr).add j)=some u:=λj u hj=>by
 have:=h.cells j u hj;rw[Nat.zero_add]at this;cases j with
 |zero=>exact this
 |succ j=>simpa[Addr.add]using this
def Jzv(h:Row fr w b 5 .u8 xs cap)(hn:xs.length<=100000)(c:Nat):Calls prog 253 #[.slice (some ⟨b,0,none⟩) xs.length c] w λe w'=>∃g c',e=.returned (.slice (some ⟨g,0,none⟩) xs.length c')/\w.heap.size<=g/\Row false w' g 5 .u8 xs c'/\Tch w.heap.size M0 w w'/\c'<=maxLen:=by
 obtain⟨i0,hi,EY,DJ,DR⟩:=info_parts info5;have hm:maxLen=9223372036854775807:=by decide
 have QN:=h.Gw;have Aw:(w.alloc (.cells #[] 5)).ownsRow w.heap.size 5 1 (.slice (some ⟨w.heap.size,0,none⟩) 0 0) 0 []:=⟨rfl,.inr ⟨w.heap.size,0,#[],rfl,Ad _,Ja _,Ad _,by omega,rfl,rfl⟩⟩;have D8:Ko (w.alloc (.cells #[] 5)) (.slice (some ⟨w.heap.size,0,none⟩) 0 0):=λg n cap e arr t z ha=>by cases e;have hq:=ha.symm.trans (Ja (w:=w) _);cases hq;exactλv hv=>by simp at hv
 have iV:∀j u,(xs.map (Value.int .u8))[j]?=some u->(w.alloc (.cells #[] 5)).cell? ((⟨b,0,none⟩:Addr).add j)=some u:=λj u hj=>by
  refine(Du (J8 _ ?_)).trans (QN j u hj);cases j with
  |zero=>exact h.lt
  |succ j=>simpa[Addr.add]using h.lt
 have hlen:(xs.map (Value.int .u8)).length=xs.length*1:=by simp
 have EJ:∀u∈xs.map (Value.int .u8),u.oneCell'=true:=λu hu=>by obtain⟨x,_,rfl⟩:=AZ.1 hu;rfl
 have hint:∀u∈xs.map (Value.int .u8),IsInt u:=λu hu=>by obtain⟨x,_,rfl⟩:=AZ.1 hu;exact⟨_,_,rfl⟩
 have qT:∀(w:JE)(a:JI)(n c n' c':Nat),(binOp .eql 120 (.slice a n c) (.slice none n' c')).run prog w=.ok (.bool a.isNone) w:=λw a n c n' c'=>Lib.run_eql_slice_nil w _ _ a n c n' c' underlying120;generalize NC:xs.map (Value.int .u8)=news at *;generalize KP:xs.length=n at *
 go_enter func253,ntmps253
 go_wp2_with (at_builtin;refine mO _ rfl _ _ 120 rfl w.heap.size 5 i0 _ 1 1 underlying120 hi EY DJ DR rfl (by decide) _ 0 [] rfl Aw ⟨b,0,none⟩ n c news rfl hlen iV EJ (by omega) (by omega) (by simp) D8 hint (Plain.ai (k:=.u8) (xs:=[0])) ?_;intro v' w1 BD AX Ej Ny)
 go_ret;rw[Nat.zero_add,Gm,<- NC,<- KP]at BD;have hv:v'≠.slice none 0 0:=λe=>by have:=(Ej.1 e).1;cases this
 obtain⟨g,c',rfl,h1,h2,h3⟩:=Row.nP BD hv Ny;refine⟨g,c',by first|rfl|(rw[KP];rfl),h1,h2,⟨?_,λx hx _=>?_,?_,?_,?_⟩,h3⟩
 .have:=AX.size;rw[size_alloc]at this;omega
 .exact(AX.block x (by rw[size_alloc];omega) λe=>by have:=Aa e;simp at this;omega).trans (J8 _ hx)
 .exact AX.tape
 .exact AX.os
 .exact AX.output
def Jih(h:Row fr w b 3 .i64 xs cap)(hn:xs.length<=100000)(c:Nat):Calls prog 111 #[.slice (some ⟨b,0,none⟩) xs.length c] w λe w'=>∃g c',e=.returned (.slice (some ⟨g,0,none⟩) xs.length c')/\w.heap.size<=g/\Row false w' g 3 .i64 xs c'/\Tch w.heap.size M0 w w'/\c'<=maxLen:=by
 obtain⟨i0,hi,EY,DJ,DR⟩:=info_parts info3;have hm:maxLen=9223372036854775807:=by decide
 have QN:=h.Gw;have Aw:(w.alloc (.cells #[] 3)).ownsRow w.heap.size 3 1 (.slice (some ⟨w.heap.size,0,none⟩) 0 0) 0 []:=⟨rfl,.inr ⟨w.heap.size,0,#[],rfl,Ad _,Ja _,Ad _,by omega,rfl,rfl⟩⟩;have D8:Ko (w.alloc (.cells #[] 3)) (.slice (some ⟨w.heap.size,0,none⟩) 0 0):=λg n cap e arr t z ha=>by cases e;have hq:=ha.symm.trans (Ja (w:=w) _);cases hq;exactλv hv=>by simp at hv
 have iV:∀j u,(xs.map (Value.int .i64))[j]?=some u->(w.alloc (.cells #[] 3)).cell? ((⟨b,0,none⟩:Addr).add j)=some u:=λj u hj=>by
  refine(Du (J8 _ ?_)).trans (QN j u hj);cases j with
  |zero=>exact h.lt
  |succ j=>simpa[Addr.add]using h.lt
 have hlen:(xs.map (Value.int .i64)).length=xs.length*1:=by simp
 have EJ:∀u∈xs.map (Value.int .i64),u.oneCell'=true:=λu hu=>by obtain⟨x,_,rfl⟩:=AZ.1 hu;rfl
 have hint:∀u∈xs.map (Value.int .i64),IsInt u:=λu hu=>by obtain⟨x,_,rfl⟩:=AZ.1 hu;exact⟨_,_,rfl⟩
 have qT:∀(w:JE)(a:JI)(n c n' c':Nat),(binOp .eql 24 (.slice a n c) (.slice none n' c')).run prog w=.ok (.bool a.isNone) w:=λw a n c n' c'=>Lib.run_eql_slice_nil w _ _ a n c n' c' underlying24;generalize NC:xs.map (Value.int .i64)=news at *;generalize KP:xs.length=n at *
 go_enter func111,ntmps111
 go_wp2_with (at_builtin;refine mO _ rfl _ _ 24 rfl w.heap.size 3 i0 _ 1 8 underlying24 hi EY DJ DR rfl (by decide) _ 0 [] rfl Aw ⟨b,0,none⟩ n c news rfl hlen iV EJ (by omega) (by omega) (by simp) D8 hint (Plain.ai (k:=.i64) (xs:=[0])) ?_;intro v' w1 BD AX Ej Ny)
 go_ret;rw[Nat.zero_add,Gm,<- NC,<- KP]at BD;have hv:v'≠.slice none 0 0:=λe=>by have:=(Ej.1 e).1;cases this
 obtain⟨g,c',rfl,h1,h2,h3⟩:=Row.nP BD hv Ny;refine⟨g,c',by first|rfl|(rw[KP];rfl),h1,h2,⟨?_,λx hx _=>?_,?_,?_,?_⟩,h3⟩
 .have:=AX.size;rw[size_alloc]at this;omega
 .exact(AX.block x (by rw[size_alloc];omega) λe=>by have:=Aa e;simp at this;omega).trans (J8 _ hx)
 .exact AX.tape
 .exact AX.os
 .exact AX.output
def Jlj(h:Row fr w b 110 .u64 xs cap)(hn:xs.length<=100000)(c:Nat):Calls prog 214 #[.slice (some ⟨b,0,none⟩) xs.length c] w λe w'=>∃g c',e=.returned (.slice (some ⟨g,0,none⟩) xs.length c')/\w.heap.size<=g/\Row false w' g 110 .u64 xs c'/\Tch w.heap.size M0 w w'/\c'<=maxLen:=by
 obtain⟨i0,hi,EY,DJ,DR⟩:=info_parts Wh;have hm:maxLen=9223372036854775807:=by decide
 have QN:=h.Gw;have Aw:(w.alloc (.cells #[] 110)).ownsRow w.heap.size 110 1 (.slice (some ⟨w.heap.size,0,none⟩) 0 0) 0 []:=⟨rfl,.inr ⟨w.heap.size,0,#[],rfl,Ad _,Ja _,Ad _,by omega,rfl,rfl⟩⟩;have D8:Ko (w.alloc (.cells #[] 110)) (.slice (some ⟨w.heap.size,0,none⟩) 0 0):=λg n cap e arr t z ha=>by cases e;have hq:=ha.symm.trans (Ja (w:=w) _);cases hq;exactλv hv=>by simp at hv
 have iV:∀j u,(xs.map (Value.int .u64))[j]?=some u->(w.alloc (.cells #[] 110)).cell? ((⟨b,0,none⟩:Addr).add j)=some u:=λj u hj=>by
  refine(Du (J8 _ ?_)).trans (QN j u hj);cases j with
  |zero=>exact h.lt
  |succ j=>simpa[Addr.add]using h.lt
 have hlen:(xs.map (Value.int .u64)).length=xs.length*1:=by simp
 have EJ:∀u∈xs.map (Value.int .u64),u.oneCell'=true:=λu hu=>by obtain⟨x,_,rfl⟩:=AZ.1 hu;rfl
 have hint:∀u∈xs.map (Value.int .u64),IsInt u:=λu hu=>by obtain⟨x,_,rfl⟩:=AZ.1 hu;exact⟨_,_,rfl⟩
 have qT:∀(w:JE)(a:JI)(n c n' c':Nat),(binOp .eql 36 (.slice a n c) (.slice none n' c')).run prog w=.ok (.bool a.isNone) w:=λw a n c n' c'=>Lib.run_eql_slice_nil w _ _ a n c n' c' underlying36;generalize NC:xs.map (Value.int .u64)=news at *;generalize KP:xs.length=n at *
 go_enter func214,ntmps214
 go_wp2_with (at_builtin;refine mO _ rfl _ _ 36 rfl w.heap.size 110 i0 _ 1 8 underlying36 hi EY DJ DR rfl (by decide) _ 0 [] rfl Aw ⟨b,0,none⟩ n c news rfl hlen iV EJ (by omega) (by omega) (by simp) D8 hint (Plain.ai (k:=.u64) (xs:=[0])) ?_;intro v' w1 BD AX Ej Ny)
 go_ret;rw[Nat.zero_add,Gm,<- NC,<- KP]at BD;have hv:v'≠.slice none 0 0:=λe=>by have:=(Ej.1 e).1;cases this
 obtain⟨g,c',rfl,h1,h2,h3⟩:=Row.nP BD hv Ny;refine⟨g,c',by first|rfl|(rw[KP];rfl),h1,h2,⟨?_,λx hx _=>?_,?_,?_,?_⟩,h3⟩
 .have:=AX.size;rw[size_alloc]at this;omega
 .exact(AX.block x (by rw[size_alloc];omega) λe=>by have:=Aa e;simp at this;omega).trans (J8 _ hx)
 .exact AX.tape
 .exact AX.os
 .exact AX.output
end
def J03x(v:JJ)(w:JE):(Instr.typeAssert (.iface 186 v) 128 186 false).run prog w=.ok v w:=by unfold Instr.typeAssert;simp[go_sem]
def J03y(v:JJ)(w:JE):(Instr.typeAssert (.iface 189 v) 128 189 false).run prog w=.ok v w:=by unfold Instr.typeAssert;simp[go_sem]
def J03z(v:JJ)(w:JE):(Instr.typeAssert (.iface 192 v) 128 192 false).run prog w=.ok v w:=by unfold Instr.typeAssert;simp[go_sem]
structure DV(fr:Bool)(w:JE)(b r cap:Nat)(bits:Int)(rs:JD):Prop where
 hd:Blk fr w b #[.int .i64 bits,.slice (some ⟨r,0,none⟩) rs.length cap] 188
 row:Row fr w r 5 .u8 rs cap
def Tch.I4{N:Nat}{M:JB}{w w':JE}(h:Tch N M w.drew w'):Tch N M w w':=⟨h.size,h.heap,h.tape,h.os,h.output⟩
def Jso{w w':JE}{g c':Nat}{bits:Int}{rs:JD}(hg:w.heap.size<=g)(Aj:Row false w' g 5 .u8 rs c')(ht:Tch w.heap.size M0 w w') :
  ∃b' r' c2,Ending.returned (Value.iface 186 (.pointer (some ⟨w'.heap.size,0,none⟩)))=.returned (.iface 186 (.pointer (some ⟨b',0,none⟩)))/\w.heap.size<=b'/\w.heap.size<=r'/\b'≠r'/\DV false (w'.alloc (.cells #[.int .i64 bits,.slice (some ⟨g,0,none⟩) rs.length c'] 188)) b' r' c2 bits rs/\Tch w.heap.size M0 w (w'.alloc (.cells #[.int .i64 bits,.slice (some ⟨g,0,none⟩) rs.length c'] 188)):=
 ⟨_,g,c',rfl,ht.size,hg,by have:=Aj.lt;omega,⟨⟨(0,0),Ja _,λ_=>rfl⟩,Aj.kept (J8 _ Aj.lt)⟩,ht.alloc ht.size _⟩
section
variable{fr:Bool}{w w':JE}{b r cap:Nat}{bits:Int}{rs:JD}
def DV.kept(h:DV fr w b r cap bits rs)(h1:w'.heap[b]?=w.heap[b]?)(h2:w'.heap[r]?=w.heap[r]?):DV fr w' b r cap bits rs:=⟨h.hd.kept h1,h.row.kept h2⟩
def DV.c0(h:DV fr w b r cap bits rs):w.cell? ⟨b,0,none⟩=some (.int .i64 bits):=(h.hd.cell 0).trans rfl
def DV.c1(h:DV fr w b r cap bits rs):w.cell? ⟨b,1,none⟩=some (.slice (some ⟨r,0,none⟩) rs.length cap):=(h.hd.cell 1).trans rfl
def Jxl(h:DV fr w b r cap bits rs)(hn:rs.length<=1000) :
  Calls prog 249 #[.pointer (some ⟨b,0,none⟩)] w λe w'=>∃b' r' c',e=.returned (.iface 186 (.pointer (some ⟨b',0,none⟩)))/\w.heap.size<=b'/\w.heap.size<=r'/\b'≠r'/\DV false w' b' r' c' bits rs/\Tch w.heap.size M0 w w':=by
 have c0:=h.c0;have c1:=h.c1;have BA:=Jzv (w:=w.drew) (h.row.kept rfl) (by omega) cap;have hb:=h.hd.lt;have hr:=h.row.lt
 go_enter func249,ntmps249
 go_wp2
 go_region_with (go_at_call 253;refine BA.mono ?_;rintro e w' ⟨g,c',rfl,hg,Aj,ht,_⟩;have d0:=(ht.cell (a:=⟨b,0,none⟩) hb (λx=>x)).trans c0;have d1:=(ht.cell (a:=⟨b,1,none⟩) hb (λx=>x)).trans c1)
 all_goals go_wp2
 all_goals go_ret
 all_goals exact Jso hg Aj ht.I4
end
section
variable{fr:Bool}{w w':JE}{b r cap:Nat}{bits:Int}{rs:JD}
def Jsp(h:Row fr w r 5 .u8 rs cap)(hn:rs.length<=1000)(h0:0<rs.length)(hr:∀x∈rs,0<=x/\x<=255) :
  Calls prog 254 #[.slice (some ⟨r,0,none⟩) rs.length cap] w λe w'=>∃g c',e=.returned (.slice (some ⟨g,0,none⟩) rs.length c')/\w.heap.size<=g/\Row false w' g 110 .u64 rs c'/\Tch w.heap.size M0 w w':=by
 have X7:=mkRow 36 110 .u64 8 underlying36 Wh (by omega) rs.length (by omega) w;have FI:=nR w 110 .u64 rs.length;have MI:=h.kept (w':=w.alloc (.cells (Array.replicate rs.length (.int .u64 0)) 110)) (J8 _ h.lt);have Bf:Tch w.heap.size M0 w (w.alloc (.cells (Array.replicate rs.length (.int .u64 0)) 110)):=Tch.refl.alloc (Ad _) _;have XI:=h.lt;generalize KO:rs.length=n at *;generalize w.alloc (.cells (Array.replicate n (.int .u64 0)) 110)=w0 at *;clear h
 go_enter func254,ntmps254
 go_wp2
 go_loopw [11] (λi wr=>∃k:Nat,k<=n/\i=.int .i64 k/\Row false wr w.heap.size 110 .u64 (F8 rs (List.replicate n 0) k) n/\Row fr wr r 5 .u8 rs cap/\Tch w.heap.size M0 w wr) (λi _=>n-(RowKit.intOf i).toNat)
 case atStart=>exact⟨0,by omega,rfl,by rw[ZY];exact FI,MI,Bf⟩
 case round=>
  obtain⟨k,hk,rfl,hd,hs,ht⟩:=hrel;clear FI MI Bf X7;have Eu:rs.length=(List.replicate n (0:Int)).length:=by simpa using KO
  rcases BF k n with Ac|Et
  .have g1:=hs.cell (i:=k) (KO.symm▸Ac);have g2:=hd.cell (i:=k) (by rw[Rw Eu,List.length_replicate];exact Ac);have g3:=hd.frozen k;have CS:(k:Int)<n:=by omega
   have hx:=hr (rs.getD k 0) (by rw[C9,DL (by omega)];exact List.getElem_mem _);generalize MN:rs.getD k 0=x at *;have V9:IntKind.u64.wrap x=x:=by rw[IntKind.wrap_u64];omega
   have kL:r≠w.heap.size:=by omega
   have hp:(F8 rs (List.replicate n 0) k).set k x=F8 rs (List.replicate n 0) (k+1):=aB Eu (by simpa using Ac) MN.symm;go_wp2;refine⟨⟨k+1,by omega,by go_num,?_,hs.kept (Jm _ _ kL),ht.set (.inl (Ad _)) _⟩,by simp[RowKit.intOf];omega⟩;have:=hd.set k x
   rwa [hp]at this
  .have Ei:¬((k:Int)<n):=by omega
   obtain rfl:k=n:=by omega
   have KP:¬((k:Int)<k):=by omega
   go_wp2;go_ret;rw[aA KO (by simp)]at hd;exact⟨_,_,rfl,Ad _,hd,ht⟩
def maxL(xs ys:JD):JD:=xs.zipWith max ys
def Jbx{xs ys:JD}(h:xs.length=ys.length):(maxL xs ys).length=xs.length:=by simp[maxL,h]
def Jsq{xs ys:JD}(h:xs.length=ys.length){k:Nat}(hk:k<xs.length):(maxL xs ys).getD k 0=max (xs.getD k 0) (ys.getD k 0):=by simp[maxL,C9,List.getElem?_zipWith,hk,show k<ys.length by omega]
def Jsr{b2 r2 Q8:Nat}{ys:JD}{Jwh:Int}(h:DV false w b r cap bits rs)(h2:DV fr w b2 r2 Q8 Jwh ys)(hl:rs.length=ys.length)(hn:rs.length<=1000)(OH:b≠r)(Dk:b2≠r)(BM:r2≠r) :
  Calls prog 250 #[.pointer (some ⟨b,0,none⟩),.iface 186 (.pointer (some ⟨b2,0,none⟩))] w λe w'=>(∃v,e=.returned v)/\DV false w' b r cap bits (maxL rs ys)/\Tch w.heap.size (λx=>x=r) w w':=by
 have d0:=h2.c0;have d1:=h2.c1;have hta:=J03x (.pointer (some ⟨b2,0,none⟩)) w;generalize KO:ys.length=n at *
 go_enter func250,ntmps250
 go_wp2
 go_loopw [12] (λi wr=>∃k:Nat,k<=n/\i=.int .i64 k/\DV false wr b r cap bits (F8 (maxL rs ys) rs k)/\DV fr wr b2 r2 Q8 Jwh ys/\Tch w.heap.size (λx=>x=r) w wr) (λi _=>n-(RowKit.intOf i).toNat)
 case atStart=>exact⟨0,by omega,rfl,by rw[ZY];exact h,h2,.refl⟩
 case round=>
  obtain⟨k,hk,rfl,hd,hs,ht⟩:=hrel;clear d0 d1;have LG:(maxL rs ys).length=rs.length:=Jbx (by omega);rcases BF k n with Ac|Et
  .have e1:=hd.c1;rw[Rw LG]at e1;rw[hl]at e1;have g1:=hs.row.cell (i:=k) (KO.symm▸Ac);have g2:=hd.row.cell (i:=k) (by rw[Rw LG,hl];exact Ac);rw[Jgj LG (by omega)]at g2;have g3:=hd.row.frozen k;have CS:(k:Int)<n:=by omega
   have hm:=Jsq (xs:=rs) (ys:=ys) (by omega) (k:=k) (by omega);have hp:∀v,v=(maxL rs ys).getD k 0->(F8 (maxL rs ys) rs k).set k v=F8 (maxL rs ys) rs (k+1):=λv hv=>aB LG (by omega) hv;generalize rs.getD k 0=x at *;generalize ys.getD k 0=y at *;go_wp2
   go_region
   all_goals go_wp2
   refine⟨⟨k+1,by omega,by go_num,⟨?_,?_⟩,hs.kept (Jm _ _ Dk) (Jm _ _ BM),(ht.set (.inr rfl) _).drew⟩,by simp[RowKit.intOf];omega⟩
   .have:=hd.hd.kept (w':=(wr.setCell ⟨r,k,none⟩ (.int .u8 (max x y))).drew) (Jm _ _ OH);rw[Rw LG]at this ⊢;exact this
   .have:=hd.row.set k (max x y);rw[hp _ hm.symm]at this;exact this.kept rfl
  .have Ei:¬((k:Int)<n):=by omega
   obtain rfl:k=n:=by omega
   have KP:¬((k:Int)<k):=by omega
   go_wp2;go_end0;rw[aA (by omega) hl]at hd;exact⟨⟨_,rfl⟩,hd,ht⟩
end
structure EZ(fr:Bool)(w:JE)(b r cap:Nat)(ba:JI)(nb cb:Nat)(rs:JD):Prop where
 hd:Blk fr w b #[.slice ba nb cb,.slice (some ⟨r,0,none⟩) rs.length cap] 191
 row:Row fr w r 3 .i64 rs cap
def Jph{w w':JE}{g c':Nat}{ba:JI}{nb cb:Nat}{rs:JD}(hg:w.heap.size<=g)(Aj:Row false w' g 3 .i64 rs c')(ht:Tch w.heap.size M0 w w') :
  ∃b' r' c2,Ending.returned (Value.iface 189 (.pointer (some ⟨w'.heap.size,0,none⟩)))=.returned (.iface 189 (.pointer (some ⟨b',0,none⟩)))/\w.heap.size<=b'/\w.heap.size<=r'/\b'≠r'/\EZ false (w'.alloc (.cells #[.slice ba nb cb,.slice (some ⟨g,0,none⟩) rs.length c'] 191)) b' r' c2 ba nb cb rs/\Tch w.heap.size M0 w (w'.alloc (.cells #[.slice ba nb cb,.slice (some ⟨g,0,none⟩) rs.length c'] 191)):=
 ⟨_,g,c',rfl,ht.size,hg,by have:=Aj.lt;omega,⟨⟨(0,0),Ja _,λ_=>rfl⟩,Aj.kept (J8 _ Aj.lt)⟩,ht.alloc ht.size _⟩
section
variable{fr:Bool}{w w':JE}{b r cap:Nat}{ba:JI}{nb cb:Nat}{rs:JD}
def EZ.kept(h:EZ fr w b r cap ba nb cb rs)(h1:w'.heap[b]?=w.heap[b]?)(h2:w'.heap[r]?=w.heap[r]?):EZ fr w' b r cap ba nb cb rs:=⟨h.hd.kept h1,h.row.kept h2⟩
def EZ.c0(h:EZ fr w b r cap ba nb cb rs):w.cell? ⟨b,0,none⟩=some (.slice ba nb cb):=(h.hd.cell 0).trans rfl
def EZ.c1(h:EZ fr w b r cap ba nb cb rs):w.cell? ⟨b,1,none⟩=some (.slice (some ⟨r,0,none⟩) rs.length cap):=(h.hd.cell 1).trans rfl
def Jss(h:EZ fr w b r cap ba nb cb rs)(hn:rs.length<=1000) :
  Calls prog 256 #[.pointer (some ⟨b,0,none⟩)] w λe w'=>∃b' r' c',e=.returned (.iface 189 (.pointer (some ⟨b',0,none⟩)))/\w.heap.size<=b'/\w.heap.size<=r'/\b'≠r'/\EZ false w' b' r' c' ba nb cb rs/\Tch w.heap.size M0 w w':=by
 have c0:=h.c0;have c1:=h.c1;have BA:=Jih (w:=w.drew) (h.row.kept rfl) (by omega) cap;have hb:=h.hd.lt;have hr:=h.row.lt
 go_enter func256,ntmps256
 go_wp2
 go_region_with (go_at_call 111;refine BA.mono ?_;rintro e w' ⟨g,c',rfl,hg,Aj,ht,_⟩;have d0:=(ht.cell (a:=⟨b,0,none⟩) hb (λx=>x)).trans c0;have d1:=(ht.cell (a:=⟨b,1,none⟩) hb (λx=>x)).trans c1)
 all_goals go_wp2
 all_goals go_ret
 all_goals exact Jph hg Aj ht.I4
end
section
variable{fr:Bool}{w w':JE}{b r cap:Nat}{ba:JI}{nb cb:Nat}{rs:JD}
def Jst(h:Row fr w r 3 .i64 rs cap)(hn:rs.length<=1000)(h0:0<rs.length)(hr:∀x∈rs,0<=x/\x<=9223372036854775807) :
  Calls prog 260 #[.slice (some ⟨r,0,none⟩) rs.length cap] w λe w'=>∃g c',e=.returned (.slice (some ⟨g,0,none⟩) rs.length c')/\w.heap.size<=g/\Row false w' g 110 .u64 rs c'/\Tch w.heap.size M0 w w':=by
 have X7:=mkRow 36 110 .u64 8 underlying36 Wh (by omega) rs.length (by omega) w;have FI:=nR w 110 .u64 rs.length;have MI:=h.kept (w':=w.alloc (.cells (Array.replicate rs.length (.int .u64 0)) 110)) (J8 _ h.lt);have Bf:Tch w.heap.size M0 w (w.alloc (.cells (Array.replicate rs.length (.int .u64 0)) 110)):=Tch.refl.alloc (Ad _) _;have XI:=h.lt;generalize KO:rs.length=n at *;generalize w.alloc (.cells (Array.replicate n (.int .u64 0)) 110)=w0 at *;clear h
 go_enter func260,ntmps260
 go_wp2
 go_loopw [11] (λi wr=>∃k:Nat,k<=n/\i=.int .i64 k/\Row false wr w.heap.size 110 .u64 (F8 rs (List.replicate n 0) k) n/\Row fr wr r 3 .i64 rs cap/\Tch w.heap.size M0 w wr) (λi _=>n-(RowKit.intOf i).toNat)
 case atStart=>exact⟨0,by omega,rfl,by rw[ZY];exact FI,MI,Bf⟩
 case round=>
  obtain⟨k,hk,rfl,hd,hs,ht⟩:=hrel;clear FI MI Bf X7;have Eu:rs.length=(List.replicate n (0:Int)).length:=by simpa using KO
  rcases BF k n with Ac|Et
  .have g1:=hs.cell (i:=k) (KO.symm▸Ac);have g2:=hd.cell (i:=k) (by rw[Rw Eu,List.length_replicate];exact Ac);have g3:=hd.frozen k;have CS:(k:Int)<n:=by omega
   have hx:=hr (rs.getD k 0) (by rw[C9,DL (by omega)];exact List.getElem_mem _);generalize MN:rs.getD k 0=x at *;have V9:IntKind.u64.wrap x=x:=by rw[IntKind.wrap_u64];omega
   have kL:r≠w.heap.size:=by omega
   have hp:(F8 rs (List.replicate n 0) k).set k x=F8 rs (List.replicate n 0) (k+1):=aB Eu (by simpa using Ac) MN.symm;go_wp2;refine⟨⟨k+1,by omega,by go_num,?_,hs.kept (Jm _ _ kL),ht.set (.inl (Ad _)) _⟩,by simp[RowKit.intOf];omega⟩;have:=hd.set k x
   rwa [hp]at this
  .have Ei:¬((k:Int)<n):=by omega
   obtain rfl:k=n:=by omega
   have KP:¬((k:Int)<k):=by omega
   go_wp2;go_ret;rw[aA KO (by simp)]at hd;exact⟨_,_,rfl,Ad _,hd,ht⟩
def Eo(xs ys:JD):JD:=xs.zipWith (λx y=>wrap64 (x+y)) ys
def Jby{xs ys:JD}(h:xs.length=ys.length):(Eo xs ys).length=xs.length:=by simp[Eo,h]
def Jsu{xs ys:JD}(h:xs.length=ys.length){k:Nat}(hk:k<xs.length):(Eo xs ys).getD k 0=wrap64 (xs.getD k 0+ys.getD k 0):=by simp[Eo,C9,List.getElem?_zipWith,hk,show k<ys.length by omega]
def Jpi{b2 r2 Q8:Nat}{ys:JD}{ba2:JI}{nb2 cb2:Nat}(h:EZ false w b r cap ba nb cb rs)(h2:EZ fr w b2 r2 Q8 ba2 nb2 cb2 ys)(hl:rs.length=ys.length)(hn:rs.length<=1000)(OH:b≠r)(Dk:b2≠r)(BM:r2≠r) :
  Calls prog 257 #[.pointer (some ⟨b,0,none⟩),.iface 189 (.pointer (some ⟨b2,0,none⟩))] w λe w'=>(∃v,e=.returned v)/\EZ false w' b r cap ba nb cb (Eo rs ys)/\Tch w.heap.size (λx=>x=r) w w':=by
 have d0:=h2.c0;have d1:=h2.c1;have hta:=J03y (.pointer (some ⟨b2,0,none⟩)) w;generalize KO:ys.length=n at *
 go_enter func257,ntmps257
 go_wp2
 go_loopw [12] (λi wr=>∃k:Nat,k<=n/\i=.int .i64 k/\EZ false wr b r cap ba nb cb (F8 (Eo rs ys) rs k)/\EZ fr wr b2 r2 Q8 ba2 nb2 cb2 ys/\Tch w.heap.size (λx=>x=r) w wr) (λi _=>n-(RowKit.intOf i).toNat)
 case atStart=>exact⟨0,by omega,rfl,by rw[ZY];exact h,h2,.refl⟩
 case round=>
  obtain⟨k,hk,rfl,hd,hs,ht⟩:=hrel;clear d0 d1;have LG:(Eo rs ys).length=rs.length:=Jby (by omega);rcases BF k n with Ac|Et
  .have e1:=hd.c1;rw[Rw LG]at e1;rw[hl]at e1;have g1:=hs.row.cell (i:=k) (KO.symm▸Ac);have g2:=hd.row.cell (i:=k) (by rw[Rw LG,hl];exact Ac);rw[Jgj LG (by omega)]at g2;have g3:=hd.row.frozen k;have CS:(k:Int)<n:=by omega
   have hm:=Jsu (xs:=rs) (ys:=ys) (by omega) (k:=k) (by omega);have hp:∀v,v=(Eo rs ys).getD k 0->(F8 (Eo rs ys) rs k).set k v=F8 (Eo rs ys) rs (k+1):=λv hv=>aB LG (by omega) hv;generalize rs.getD k 0=x at *;generalize ys.getD k 0=y at *;go_wp2;refine⟨⟨k+1,by omega,by go_num,⟨?_,?_⟩,hs.kept (Jm _ _ Dk) (Jm _ _ BM),ht.set (.inr rfl) _⟩,by simp[RowKit.intOf];omega⟩
   .have:=hd.hd.kept (w':=wr.setCell ⟨r,k,none⟩ (.int .i64 (wrap64 (x+y)))) (Jm _ _ OH);rw[Rw LG]at this ⊢;exact this
   .have:=hd.row.set k (wrap64 (x+y));rw[hp _ hm.symm]at this;exact this
  .have Ei:¬((k:Int)<n):=by omega
   obtain rfl:k=n:=by omega
   have KP:¬((k:Int)<k):=by omega
   go_wp2;go_end0;rw[aA (by omega) hl]at hd;exact⟨⟨_,rfl⟩,hd,ht⟩
end
section
variable{fr:Bool}{w w':JE}{b r cap:Nat}{rs:JD}
def Jpj(h:Row fr w r 110 .u64 rs cap)(hn:rs.length<=1000)(h0:0<rs.length)(hr:∀x∈rs,0<=x/\x<=9223372036854775807) :
  Calls prog 72 #[.slice (some ⟨r,0,none⟩) rs.length cap] w λe w'=>∃g c',e=.returned (.slice (some ⟨g,0,none⟩) rs.length c')/\w.heap.size<=g/\Row false w' g 3 .i64 rs c'/\Tch w.heap.size M0 w w':=by
 have X7:=mkRow 24 3 .i64 8 underlying24 info3 (by omega) rs.length (by omega) w;have FI:=nR w 3 .i64 rs.length;have MI:=h.kept (w':=w.alloc (.cells (Array.replicate rs.length (.int .i64 0)) 3)) (J8 _ h.lt);have Bf:Tch w.heap.size M0 w (w.alloc (.cells (Array.replicate rs.length (.int .i64 0)) 3)):=Tch.refl.alloc (Ad _) _;have XI:=h.lt;generalize KO:rs.length=n at *;generalize w.alloc (.cells (Array.replicate n (.int .i64 0)) 3)=w0 at *;clear h
 go_enter func72,ntmps72
 go_wp2
 go_loopw [11] (λi wr=>∃k:Nat,k<=n/\i=.int .i64 k/\Row false wr w.heap.size 3 .i64 (F8 rs (List.replicate n 0) k) n/\Row fr wr r 110 .u64 rs cap/\Tch w.heap.size M0 w wr) (λi _=>n-(RowKit.intOf i).toNat)
 case atStart=>exact⟨0,by omega,rfl,by rw[ZY];exact FI,MI,Bf⟩
 case round=>
  obtain⟨k,hk,rfl,hd,hs,ht⟩:=hrel;clear FI MI Bf X7;have Eu:rs.length=(List.replicate n (0:Int)).length:=by simpa using KO
  rcases BF k n with Ac|Et
  .have g1:=hs.cell (i:=k) (KO.symm▸Ac);have g2:=hd.cell (i:=k) (by rw[Rw Eu,List.length_replicate];exact Ac);have g3:=hd.frozen k;have CS:(k:Int)<n:=by omega
   have hx:=hr (rs.getD k 0) (by rw[C9,DL (by omega)];exact List.getElem_mem _);generalize MN:rs.getD k 0=x at *;have V9:IntKind.i64.wrap x=x:=by rw[IntKind.wrap_i64];omega
   have J08c:wrap64 x=x:=by unfold wrap64;omega
   have kL:r≠w.heap.size:=by omega
   have hp:(F8 rs (List.replicate n 0) k).set k x=F8 rs (List.replicate n 0) (k+1):=aB Eu (by simpa using Ac) MN.symm;go_wp2;refine⟨⟨k+1,by omega,by go_num,?_,hs.kept (Jm _ _ kL),ht.set (.inl (Ad _)) _⟩,by simp[RowKit.intOf];omega⟩;have:=hd.set k x
   rwa [hp]at this
  .have Ei:¬((k:Int)<n):=by omega
   obtain rfl:k=n:=by omega
   have KP:¬((k:Int)<k):=by omega
   go_wp2;go_ret;rw[aA KO (by simp)]at hd;exact⟨_,_,rfl,Ad _,hd,ht⟩
end
def IB(bits x:Int):Nat:=(x / 2 ^ (64-bits).toNat).toNat
def UQ(bits x:Int):Int:=min (64-(Lib.bitLen (x*2 ^ bits.toNat % 18446744073709551616).toNat:Int)) (64-bits)+1
def Om(bits:Int)(rs:JD)(x:Int):JD:=rs.set (IB bits x) (max (rs.getD (IB bits x) 0) (UQ bits x))
def bitLenAux_le:∀f x,Lib.bitLenAux f x<=f
 |0,x=>by simp[Lib.bitLenAux]
 |f+1,x=>by have:=bitLenAux_le f (x / 2);unfold Lib.bitLenAux;split<;>omega
def bitLen_le(x:Nat):Lib.bitLen x<=64:=bitLenAux_le 64 x
def Jlk{bits x:Int}(hb:4<=bits/\bits<=6):1<=UQ bits x/\UQ bits x<=61:=by have:=bitLen_le (x*2 ^ bits.toNat % 18446744073709551616).toNat;unfold UQ;omega
def Jll{bits x:Int}(hb:4<=bits/\bits<=6)(hx:0<=x/\x<=18446744073709551615):IB bits x<2 ^ bits.toNat:=by
 have:bits=4\/bits=5\/bits=6:=by omega
 rcases this with rfl|rfl|rfl<;>simp[IB]<;>omega
def J95{bits x:Int}{rs:JD}:(Om bits rs x).length=rs.length:=by simp[Om]
section
variable{fr:Bool}{w w':JE}{b r cap:Nat}{bits:Int}{rs:JD}
def Jzw(h:DV false w b r cap bits rs)(hb:4<=bits/\bits<=6)(hl:rs.length=2 ^ bits.toNat)(hr:∀x∈rs,0<=x/\x<=255)(OH:b≠r){x:Int}(hx:0<=x/\x<=18446744073709551615)(v:Int) :
  Calls prog 248 #[.pointer (some ⟨b,0,none⟩),.int .u64 x,.int .i64 v] w λe w'=>(∃v,e=.returned v)/\DV false w' b r cap bits (Om bits rs x)/\Tch w.heap.size (λy=>y=r) w w':=by
 have hi:=Jll hb hx;have hn:=Jlk (x:=x) hb;have c0:=h.c0;have c1:=h.c1;have Aj:=h.row.cell (i:=IB bits x) (by omega);have iI:=h.row.frozen (IB bits x);have hy:=hr (rs.getD (IB bits x) 0) (by rw[C9,DL (by omega)];exact List.getElem_mem _);have fin:∀m:Int,m=max (rs.getD (IB bits x) 0) (UQ bits x)->∀wx:JE,wx.heap=w.heap->wx.tape=w.tape->wx.os=w.os->wx.output=w.output ->
   DV false (wx.setCell ⟨r,IB bits x,none⟩ (.int .u8 m)) b r cap bits (Om bits rs x)/\Tch w.heap.size (λy=>y=r) w (wx.setCell ⟨r,IB bits x,none⟩ (.int .u8 m)):=by
  rintro m rfl wx e1 e2 e3 e4;have Lm:∀b:Nat,wx.heap[b]?=w.heap[b]?:=λb=>by rw[e1]
  refine⟨⟨?_,?_⟩,Tch.set ⟨by rw[e1];omega,λb _ _=>Lm b,e2,e3,e4⟩ (.inr (show(λy=>y=r) r from rfl)) _⟩
  .rw[J95];exact h.hd.kept ((Jm _ _ OH).trans (Lm b))
  .have:=(h.row.kept (w':=wx) (Lm r)).set (IB bits x) (max (rs.getD (IB bits x) 0) (UQ bits x));exact this
 have L8:bits=4\/bits=5\/bits=6:=by omega
 obtain⟨L,Ig,Es,BA⟩:∃L:Int,(0<=L/\L<=64)/\UQ bits x=min L (64-bits)+1/\∀w,Calls prog 252 #[.int .u64 (IntKind.u64.wrap (x*2 ^ bits.toNat))] w λe w'=>e=.returned (.int .i64 L)/\w'=w:=by
  refine⟨64-(Lib.bitLen (x*2 ^ bits.toNat % 18446744073709551616).toNat:Int),?_,rfl,λw=>?_⟩
  .have:=bitLen_le (x*2 ^ bits.toNat % 18446744073709551616).toNat;omega
  .have e:IntKind.u64.wrap (x*2 ^ bits.toNat)=x*2 ^ bits.toNat % 18446744073709551616:=by rw[IntKind.wrap_u64]
   rw[e];exact Tryz.bits_LeadingZeros64 _ _ (by omega) (by omega)
 generalize hN:UQ bits x=N at *;generalize hI:IB bits x=I at *;generalize hY:rs.getD I 0=Y at *;rcases L8 with rfl|rfl|rfl
 .have Uc:I=(x / 1152921504606846976).toNat:=by rw[<- hI];simp[IB]
  have gG:N=min L 60+1:=Es;have L9:Hid (∀w,Calls prog 252 #[.int .u64 (IntKind.u64.wrap (x*16))] w λe w'=>e=.returned (.int .i64 L)/\w'=w):=BA;have BX:IntKind.u8.wrap (min L 60+1)=N:=by rw[IntKind.wrap_u8];omega
  have DI:IntKind.u8.wrap (IntKind.i64.wrap (min L (IntKind.i64.wrap 60)+1))=N:=by rw[IntKind.wrap_u8,IntKind.wrap_i64,IntKind.wrap_i64];omega
  have hlen:rs.length=16:=hl;have hii:0<=x / 1152921504606846976/\x / 1152921504606846976<16:=by omega
  have KJ:¬x / 1152921504606846976<0:=by omega
  clear BA Es hI hN;subst Uc
  go_enter func248,ntmps248
  go_wp2_with fail
  go_region_held3 (λw1=>w1.cell? ⟨b,0,none⟩=some (.int .i64 4)) (go_keep) ((go_at_call 252;refine(L9 _).mono ?_;rintro e w' ⟨rfl,rfl⟩))
  all_goals go_wp2_with fail
  all_goals go_region
  all_goals go_wp2
  all_goals go_end0
  all_goals(try simp only[DI,BX])
  all_goals exact(λq=>⟨⟨_,rfl⟩,DV.kept q.1 rfl rfl,⟨q.2.size,q.2.heap,q.2.tape,q.2.os,q.2.output⟩⟩) (fin (max Y (min L 60+1)) (by rw[<- gG]) w rfl rfl rfl rfl)
 .have Uc:I=(x / 576460752303423488).toNat:=by rw[<- hI];simp[IB]
  have gG:N=min L 59+1:=Es;have L9:Hid (∀w,Calls prog 252 #[.int .u64 (IntKind.u64.wrap (x*32))] w λe w'=>e=.returned (.int .i64 L)/\w'=w):=BA;have BX:IntKind.u8.wrap (min L 59+1)=N:=by rw[IntKind.wrap_u8];omega
  have DI:IntKind.u8.wrap (IntKind.i64.wrap (min L (IntKind.i64.wrap 59)+1))=N:=by rw[IntKind.wrap_u8,IntKind.wrap_i64,IntKind.wrap_i64];omega
  have hlen:rs.length=32:=hl;have hii:0<=x / 576460752303423488/\x / 576460752303423488<32:=by omega
  have KJ:¬x / 576460752303423488<0:=by omega
  clear BA Es hI hN;subst Uc
  go_enter func248,ntmps248
  go_wp2_with fail
  go_region_held3 (λw1=>w1.cell? ⟨b,0,none⟩=some (.int .i64 5)) (go_keep) ((go_at_call 252;refine(L9 _).mono ?_;rintro e w' ⟨rfl,rfl⟩))
  all_goals go_wp2_with fail
  all_goals go_region
  all_goals go_wp2
  all_goals go_end0
  all_goals(try simp only[DI,BX])
  all_goals exact(λq=>⟨⟨_,rfl⟩,DV.kept q.1 rfl rfl,⟨q.2.size,q.2.heap,q.2.tape,q.2.os,q.2.output⟩⟩) (fin (max Y (min L 59+1)) (by rw[<- gG]) w rfl rfl rfl rfl)
 .have Uc:I=(x / 288230376151711744).toNat:=by rw[<- hI];simp[IB]
  have gG:N=min L 58+1:=Es;have L9:Hid (∀w,Calls prog 252 #[.int .u64 (IntKind.u64.wrap (x*64))] w λe w'=>e=.returned (.int .i64 L)/\w'=w):=BA;have BX:IntKind.u8.wrap (min L 58+1)=N:=by rw[IntKind.wrap_u8];omega
  have DI:IntKind.u8.wrap (IntKind.i64.wrap (min L (IntKind.i64.wrap 58)+1))=N:=by rw[IntKind.wrap_u8,IntKind.wrap_i64,IntKind.wrap_i64];omega
  have hlen:rs.length=64:=hl;have hii:0<=x / 288230376151711744/\x / 288230376151711744<64:=by omega
  have KJ:¬x / 288230376151711744<0:=by omega
  clear BA Es hI hN;subst Uc
  go_enter func248,ntmps248
  go_wp2_with fail
  go_region_held3 (λw1=>w1.cell? ⟨b,0,none⟩=some (.int .i64 6)) (go_keep) ((go_at_call 252;refine(L9 _).mono ?_;rintro e w' ⟨rfl,rfl⟩))
  all_goals go_wp2_with fail
  all_goals go_region
  all_goals go_wp2
  all_goals go_end0
  all_goals(try simp only[DI,BX])
  all_goals exact(λq=>⟨⟨_,rfl⟩,DV.kept q.1 rfl rfl,⟨q.2.size,q.2.heap,q.2.tape,q.2.os,q.2.output⟩⟩) (fin (max Y (min L 58+1)) (by rw[<- gG]) w rfl rfl rfl rfl)
end
def Px(fr:Bool)(w:JE)(ba:JI)(bs:JD):Prop:=bs=[]\/∃bb cap,ba=some ⟨bb,0,none⟩/\Row fr w bb 3 .i64 bs cap
def Jv(bs:JD)(v:Int):Nat:=bs.countP (· < v)+if bs.contains v then 1 else 0
def NH(bs:JD)(hs:JD)(v:Int):JD:=hs.set (Jv bs v) (wrap64 (hs.getD (Jv bs v) 0+1))
def ZP{bs hs:JD}{v:Int}:(NH bs hs v).length=hs.length:=by simp[NH]
def Jch{bs:JD}(h:bs.Pairwise (· < ·))(v:Int):Jv bs v<bs.length+1:=by
 unfold Jv;split
 .rename_i hm;have hm:v∈bs:=by simpa using hm
  have:bs.countP (· < v)<bs.length:=by rw[<- Nat.not_le];intro hle;have:=List.countP_eq_length.1 (Nat.le_antisymm List.countP_le_length hle) v hm;simp at this
  omega
 .have:=List.countP_le_length (p:=λx=>decide (x<v)) (l:=bs);omega
section
variable{fr:Bool}{w w':JE}{b r cap:Nat}{ba:JI}{nb cb:Nat}{hs bs:JD}
def Jpk(h:Px fr w ba bs)(hn:bs.length<=1000)(hs:bs.Pairwise (· < ·))(c:Nat)(x:Int) :
  Calls prog 259 #[.slice ba bs.length c,.int .i64 x] w λe w'=>e=.returned (.tuple #[.int .i64 (bs.countP (· < x):Nat),.bool (bs.contains x)])/\∃q,w'=w.drewN q:=by
 rcases h with rfl|⟨bb,cap,rfl,hr⟩
 .refine(Tryz.slices_BinarySearch_int_empty ba c x w).mono ?_;rintro e w' ⟨rfl,rfl⟩;exact⟨rfl,0,rfl⟩
 .have:=Tryz.slices_BinarySearch_int bb 0 bs.length c bs x w (Ad _) (by omega) (λj hj=>by rw[Nat.zero_add];exact hr.cell hj) (by rw[List.take_length];exact hs.imp λh=>by omega)
  rwa [List.take_length]at this
def Jxm(h:EZ false w b r cap ba bs.length cb hs)(hB:Px fr w ba bs)(hn:bs.length<=1000)(IV:bs.Pairwise (· < ·))(hl:hs.length=bs.length+1)(OH:b≠r)(x v:Int) :
  Calls prog 255 #[.pointer (some ⟨b,0,none⟩),.int .u64 x,.int .i64 v] w λe w'=>(∃v,e=.returned v)/\EZ false w' b r cap ba bs.length cb (NH bs hs v)/\Tch w.heap.size (λy=>y=r) w w':=by
 have c0:=h.c0;have c1:=h.c1;have hi:=Jch IV v;have Aj:=h.row.cell (i:=Jv bs v) (by omega);have iI:=h.row.frozen (Jv bs v);have hsr:=Jpk hB hn IV cb v;have fin:Hid (∀wx:JE,wx.heap=w.heap->wx.tape=w.tape->wx.os=w.os->wx.output=w.output ->
   EZ false (wx.setCell ⟨r,Jv bs v,none⟩ (.int .i64 (wrap64 (hs.getD (Jv bs v) 0+1)))) b r cap ba bs.length cb (NH bs hs v)/\Tch w.heap.size (λy=>y=r) w (wx.setCell ⟨r,Jv bs v,none⟩ (.int .i64 (wrap64 (hs.getD (Jv bs v) 0+1))))):=by
  rintro wx e1 e2 e3 e4;have Lm:∀b:Nat,wx.heap[b]?=w.heap[b]?:=λb=>by rw[e1]
  refine⟨⟨?_,?_⟩,Tch.set ⟨by rw[e1];omega,λb _ _=>Lm b,e2,e3,e4⟩ (.inr (show(λy=>y=r) r from rfl)) _⟩
  .rw[ZP];exact h.hd.kept ((Jm _ _ OH).trans (Lm b))
  .exact(h.row.kept (w':=wx) (Lm r)).set (Jv bs v) (wrap64 (hs.getD (Jv bs v) 0+1))
 generalize hY:hs.getD (Jv bs v) 0=Y at *;have hlen:hs.length=bs.length+1:=hl;have hu:Jv bs v=bs.countP (· < v)+if bs.contains v then 1 else 0:=rfl
 generalize Jv bs v=I at *;generalize bs.countP (· < v)=N at *;generalize bs.length=n at *;cases hcn:bs.contains v with
 |true=>
  rw[hcn]at hu hsr;have hI:I=N+1:=hu;clear hu;subst hI
  go_enter func255,ntmps255
  go_wp2_with (go_at_call 259;refine hsr.mono ?_;rintro e w1 ⟨rfl,q,rfl⟩)
  go_end0;exact⟨⟨_,rfl⟩,fin _ rfl rfl rfl rfl⟩
 |false=>
  rw[hcn]at hu hsr;have hI:I=N:=hu;clear hu;subst hI
  go_enter func255,ntmps255
  go_wp2_with (go_at_call 259;refine hsr.mono ?_;rintro e w1 ⟨rfl,q,rfl⟩)
  go_end0;exact⟨⟨_,rfl⟩,fin _ rfl rfl rfl rfl⟩
end
def aH(x:Int)(w:JE):Calls prog 268 #[.int .u64 x] w λe w'=>e=.returned (.bool false)/\w'=w:=by
 go_enter func268,ntmps268
 go_wp2;go_ret;exact⟨by simp,rfl⟩
def Jsv(x:Int)(w:JE):Calls prog 224 #[.int .u64 x] w λe w'=>e=.returned (.bool false)/\w'=w:=by
 go_enter func224,ntmps224
 go_wp2;go_ret;exact⟨by simp,rfl⟩
def aO(x y:Int)(w:JE):Calls prog 223 #[.int .u64 x,.int .u64 y] w λe w'=>e=.returned (.bool (decide (x<y)))/\w'=w:=by
 go_enter func223,ntmps223
 go_wp2_with (go_at_call 224;refine(Jsv _ _).mono ?_;rintro e w' ⟨rfl,rfl⟩)
 go_ret;exact⟨rfl,rfl⟩
section
variable{fr:Bool}{w:JE}{r cap:Nat}{ls:JD}
def Jii(h:Row fr w r 110 .u64 ls cap)(hn:ls.length<=1000)(hs:ls.Pairwise (·<=·))(x:Int)(c:Nat) :
  Calls prog 266 #[.slice (some ⟨r,0,none⟩) ls.length c,.int .u64 x] w λe w'=>e=.returned (.tuple #[.int .i64 (ls.countP (· < x):Nat),.bool (decide (x∈ls))])/\w'=w:=by
 have S:Hid (∀a b,a<=b->b<ls.length->ls.getD a 0<=ls.getD b 0):=Lib.sorted_at ls ls.length (Ad _) (by rw[List.take_length];exact hs);have hce:Hid (∀hi,hi<=ls.length->(∀t,t<hi->ls.getD t 0<x)->(∀t,hi<=t->t<ls.length->x<=ls.getD t 0)->ls.countP (· < x)=hi/\decide (x∈ls)=decide (hi<ls.length/\ls.getD hi 0=x)):=λhi h1 h2 h3=>by have:=Lib.search_end ls ls.length hi x (Ad _) h1 h2 h3 S.out;rw[List.take_length]at this;simpa using this
 have hc:Hid (∀j,j<ls.length->w.cell? ⟨r,j,none⟩=some (.int .u64 (ls.getD j 0))):=λj hj=>h.cell hj;clear h hs;generalize KO:ls.length=n at *
 go_enter func266,ntmps266
 go_wp2
 go_loop [7,8] (λs7 s8=>∃lo hi:Nat,s7=.int .i64 lo/\s8=.int .i64 hi/\lo<=hi/\hi<=n/\Hid ((∀t,t<lo->ls.getD t 0<x)/\(∀t,hi<=t->t<n->x<=ls.getD t 0))) (λa b=>(RowKit.intOf b-RowKit.intOf a).toNat)
 case atStart=>exact⟨0,n,rfl,rfl,Nat.zero_le _,Ad _,λt ht=>absurd ht (Nat.not_lt_zero _),λt h1 h2=>by omega⟩
 case round=>
  obtain⟨lo,hi,rfl,rfl,hlh,hin,I⟩:=hrel;by_cases Ac:lo<hi
  .have cm:=hc.out ((lo+hi) / 2) (by omega);generalize hy:ls.getD ((lo+hi) / 2) 0=y at cm;have Y:Hid (ls.getD ((lo+hi) / 2) 0=y):=hy;clear hy hc;have CS:(lo:Int)<hi:=by omega
   by_cases hyx:y<x
   .go_wp2_with (first|(go_at_call 223;refine(aO _ _ _).mono ?_;rintro e w' ⟨rfl,rfl⟩)|(go_at_call 268;refine(aH _ _).mono ?_;rintro e w' ⟨rfl,rfl⟩))
    refine⟨⟨(lo+hi) / 2+1,hi,?_,rfl,by omega,hin,λt ht=>?_,I.out.2⟩,?_⟩
    .rw[show((lo:Int)+(hi:Int)) / 2+1=(((lo+hi) / 2+1:Nat):Int) by omega]
    .have:=S.out t ((lo+hi) / 2) (by omega) (by omega);rw[Y.out]at this;omega
    .simp[RowKit.intOf];omega
   .go_wp2_with (first|(go_at_call 223;refine(aO _ _ _).mono ?_;rintro e w' ⟨rfl,rfl⟩)|(go_at_call 268;refine(aH _ _).mono ?_;rintro e w' ⟨rfl,rfl⟩))
    refine⟨⟨lo,(lo+hi) / 2,rfl,?_,by omega,by omega,I.out.1,λt ht htn=>?_⟩,?_⟩
    .rw[show((lo:Int)+(hi:Int)) / 2=(((lo+hi) / 2:Nat):Int) by omega]
    .have:=S.out ((lo+hi) / 2) t ht htn;rw[Y.out]at this;omega
    .simp[RowKit.intOf];omega
  .obtain rfl:hi=lo:=by omega
   have E:Hid (ls.countP (· < x)=hi/\decide (x∈ls)=decide (hi<n/\ls.getD hi 0=x)):=hce.out hi hin I.out.1 I.out.2;clear hce;have jA:¬((hi:Int)<hi):=by omega
   by_cases hn:hi<n
   .have cl:=hc.out hi hn;have CS:(hi:Int)<n:=by omega
    clear hc;generalize hy:ls.getD hi 0=y at cl;have Y:Hid (ls.getD hi 0=y):=hy;clear hy;by_cases hyx:y=x
    .go_wp2_with (first|(go_at_call 223;refine(aO _ _ _).mono ?_;rintro e w' ⟨rfl,rfl⟩)|(go_at_call 268;refine(aH _ _).mono ?_;rintro e w' ⟨rfl,rfl⟩))
     go_ret2
     refine⟨?_,rfl⟩;rw[E.out.1,E.out.2,Y.out,decide_eq_true (show hi<n/\y=x from⟨hn,hyx⟩)]
     first|rfl|simp[*]
    .go_wp2_with (first|(go_at_call 223;refine(aO _ _ _).mono ?_;rintro e w' ⟨rfl,rfl⟩)|(go_at_call 268;refine(aH _ _).mono ?_;rintro e w' ⟨rfl,rfl⟩))
     go_ret2
     refine⟨?_,rfl⟩;rw[E.out.1,E.out.2,Y.out,decide_eq_false (show¬(hi<n/\y=x) fromλh=>hyx h.2)]
     first|rfl|simp[*]
   .have Ei:¬((hi:Int)<n):=by omega
    clear hc
    go_wp2_with (first|(go_at_call 223;refine(aO _ _ _).mono ?_;rintro e w' ⟨rfl,rfl⟩)|(go_at_call 268;refine(aH _ _).mono ?_;rintro e w' ⟨rfl,rfl⟩))
    go_ret2
    refine⟨?_,rfl⟩;rw[E.out.1,E.out.2,decide_eq_false (show¬(hi<n/\ls.getD hi 0=x) fromλh=>hn h.1)]
    first|rfl|simp[*]
end
end Go.Sim.Z
namespace Go.Sim.Z
open Go Go.Proofs Go.RowKit Go.Shelf
def Blk.setCells{b:Nat}{t:JH}:∀{vs:List JJ}{o:Nat}{w:JE}{arr:JC},Blk false w b arr t->o+vs.length<=arr.size ->
  ∃Dj,Blk false (w.setCells b o vs) b Dj t/\Dj.size=arr.size/\∀i,Dj[i]?=if o<=i/\i<o+vs.length then vs[i-o]? else arr[i]?
 |[],o,w,arr,h,_=>⟨arr,h,rfl,λi=>by rw[if_neg (by simp)]⟩
 |v::r,o,w,arr,h,hs=>by
  simp only[Lh]at hs;obtain⟨Dj,h1,h2,h3⟩:=Blk.setCells (vs:=r) (o:=o+1) (h.set o v) (by simp;omega);refine⟨Dj,h1,by simpa using h2,λi=>?_⟩;rw[h3];simp only[Lh];by_cases e:i=o
  .subst e;rw[if_neg (by omega),if_pos (by omega),FC (by omega)];simp
  .by_cases hi:o+1<=i/\i<o+1+r.length
   .rw[if_pos hi,if_pos (by omega),show i-o=(i-(o+1))+1 by omega,List.getElem?_cons_succ]
   .rw[if_neg hi,if_neg (by omega),AV (Ne.symm e)]
def Tch.setCells{N:Nat}{M:JB}{b:Nat}(hb:N<=b\/M b):∀{vs:List JJ}{o:Nat}{w w1:JE},Tch N M w w1->Tch N M w (w1.setCells b o vs)
 |[],_,_,_,h=>h
 |v::r,o,w,w1,h=>Tch.setCells (vs:=r) hb (h.set hb v)
def Plain.tZ{arr Dj:JC}{vs:List JJ}{o:Nat}(h:Plain arr)(hv:∀v∈vs,IsInt v)(hg:∀i,Dj[i]?=if o<=i/\i<o+vs.length then vs[i-o]? else arr[i]?):Plain Dj:=.TA λi v hi=>by
 rw[hg]at hi;split at hi
 .exact hv v (NR hi)
 .exact h.at hi
def nJ{k:IntKind}{xs:JD}:∀v∈xs.map (Value.int k),IsInt v:=λv hv=>by obtain⟨x,_,rfl⟩:=AZ.1 hv;exact⟨_,_,rfl⟩
def aP{k:IntKind}{x:Int}:∀v∈[Value.int k x],IsInt v:=λv hv=>by obtain rfl:=List.mem_singleton.1 hv;exact⟨_,_,rfl⟩
def insL(i:Nat)(x:Int)(ls:JD):JD:=ls.take i++x::ls.drop i
def J7h{i:Nat}{x:Int}{ls:JD}(h:i<=ls.length):(insL i x ls).length=ls.length+1:=by simp[insL];omega
def Jij{i:Nat}{x:Int}{ls:JD}(h:i<=ls.length)(j:Nat):(insL i x ls)[j]?=if j<i then ls[j]? else if j=i then some x else ls[j-1]?:=by
 unfold insL;by_cases h1:j<i
 .rw[if_pos h1,List.getElem?_append_left (by simp;omega),List.getElem?_take,if_pos h1]
 .rw[if_neg h1,List.getElem?_append_right (by simp;omega)];simp only[List.length_take,Nat.min_eq_left h];by_cases h2:j=i
  .subst h2;simp
  .rw[if_neg h2,show j-i=(j-1-i)+1 by omega,List.getElem?_cons_succ,List.getElem?_drop,show i+(j-1-i)=j-1 by omega]
def Row.TA{w:JE}{b cap:Nat}{t:JH}{k:IntKind}{xs:JD}{arr:JC}(h:Blk false w b arr t)(hs:arr.size=cap)(hl:xs.length<=cap)(hg:∀j,j<xs.length->arr[j]?=(xs[j]?).map (Value.int k))(hp:Plain arr):Row false w b t k xs cap:=
 ⟨arr,h,hs,hl,λj hj=>by rw[hg j hj,C9,DL hj];rfl,hp⟩
def Tv(w:JE)(r:Nat)(ls:JD)(e:Ending)(w':JE):Prop:=
 ∃g c',e=.returned (.slice (some ⟨g,0,none⟩) ls.length c')/\Row false w' g 110 .u64 ls c'/\c'<=maxLen/\(g=r\/w.heap.size<=g)/\Tch w.heap.size (λb=>b=r) w w'
section
variable{w:JE}{r cap vb i:Nat}{ls:JD}{x:Int}
def Jik(h:Row false w r 110 .u64 ls cap)(hc:cap<=maxLen)(hv:w.heap[vb]?=some (.cells #[.int .u64 x] 110))(Zk:vb≠r)(hi:i<ls.length)(Ip:ls.length+1<=cap)(hn:ls.length<=1000) :
  Calls prog 267 #[.slice (some ⟨r,0,none⟩) ls.length cap,.int .i64 i,.slice (some ⟨vb,0,none⟩) 1 1] w (Tv w r (insL i x ls)):=by
 obtain⟨cur,hb,FH,_,Ht,Uu⟩:=h;have hc63:cap<=9223372036854775807:=by unfold maxLen at hc;omega
 generalize xX:ls.length=n at *;have mixed:prog.follows .mixedOrders=true:=by kernel_rfl
 have DR:¬((i:Int)=(n:Int)):=by omega
 have Ag:(prog.info? 110).map (·.size)=some 1:=by kernel_rfl
 have kX:w.cell? ⟨vb,0,none⟩=some (.int .u64 x):=(cell_of hv 0).trans rfl;have Aq:∀j,j<n->w.cell? ⟨r,j,none⟩=some (.int .u64 (ls.getD j 0)):=λj hj=>(hb.cell j).trans (Ht j hj);have Qc:∀j,j<n+1->(w.cell? ⟨r,j,none⟩).isSome=true:=λj hj=>by rw[hb.cell,Bz (by omega)];rfl
 have iI:∀j,w.frozen? ⟨r,j,none⟩=false:=λj=>hb.frozen _;have hov:∀lb cb,(callFunc 269 #[.slice (some ⟨vb,0,none⟩) 1 1,.slice (some ⟨r,i+1,none⟩) lb cb]).run prog w=.ok (.value (.bool false)) w:=λlb cb=>by
  have XL:w.shape? r=some (110,cur.size):=by obtain⟨z,hz,_⟩:=hb;simp[World.shape?,hz]
  rw[run_callFunc_extern func269 (by kernel_rfl) (by kernel_rfl) (by kernel_rfl) (e:=Extern.SlicesOverlaps.overlaps #[36,36] #[4]) (by kernel_rfl),
   Lib.run_overlaps_apart w 36 4 110 underlying36 1 sizeOf110 ⟨vb,0,none⟩ ⟨r,i+1,none⟩ 1 1 lb cb Zk 110 110 1 cur.size (by simp[World.shape?,hv]) XL (by omega) (FZ hv 0) (FZ hv 1)]
  rfl
 have SQ:((ls.map (Value.int .u64)).drop i).length=n-i:=by simp[xX]
 have FX:∀ty dc sc,(Builtin.copy_ #[36,36] ty #[.slice (some ⟨r,i+1,none⟩) (n-i) dc,.slice (some ⟨r,i,none⟩) (n+1-i) sc]).run prog w.drew=.ok (goInt ((ls.map (Value.int .u64)).drop i).length) (w.drew.setCells r (i+1) ((ls.map (Value.int .u64)).drop i)):=λty dc sc=>
  run_copy_cells w.drew _ _ ty 110 r (i+1) (n-i) dc ⟨r,i,none⟩ (n+1-i) sc ((ls.map (Value.int .u64)).drop i) underlying36 Ag (by rw[SQ];simp only[Nat.min_def];split<;>omega)
   (λj v hj=>by rw[List.getElem?_drop,List.getElem?_map,Fh]at hj;obtain⟨y,hy,rfl⟩:=hj;have Ac:=(List.getElem?_eq_some_iff.1 hy).1;rw[Addr.add_lit];show w.cell? ⟨r,i+j,none⟩=_;rw[Aq _ (by omega),C9,hy];rfl)
   (λj hj=>Qc _ (by have:=SQ;omega)) (λj hj=>iI _) (λv hv=>by obtain⟨y,_,rfl⟩:=AZ.1 (List.mem_of_mem_drop hv);rfl)
 obtain⟨W1,AP⟩:∃W1,W1=w.drew.setCells r (i+1) ((ls.map (Value.int .u64)).drop i):=⟨_,rfl⟩;have kN:∀k,k<n+1->(W1.cell? ⟨r,k,none⟩).isSome=true:=λk hk=>by rw[AP];exact isSome_setCells r ((ls.map (Value.int .u64)).drop i) (i+1) w.drew (λj(hj:j<((ls.map (Value.int .u64)).drop i).length)=>Qc _ (by rw[SQ]at hj;omega)) _ (Qc k hk)
 have FY:∀(W:JE),(∀x,W.cell? x=W1.cell? x)->(∀x,W.frozen? x=W1.frozen? x)->∀ty dc,(Builtin.copy_ #[36,36] ty #[.slice (some ⟨r,i,none⟩) (n+1-i) dc,.slice (some ⟨vb,0,none⟩) 1 1]).run prog W=.ok (goInt [Value.int .u64 x].length) (W.setCells r i [.int .u64 x]):=λW Vs gK ty dc=>
  run_copy_cells W _ _ ty 110 r i (n+1-i) dc ⟨vb,0,none⟩ 1 1 [.int .u64 x] underlying36 Ag (by simp only[Nat.min_def,List.length_singleton];split<;>omega)
   (λj v hj=>by
    have:j=0/\v=.int .u64 x:=by
     cases j with
     |zero=>simp at hj;exact⟨rfl,hj.symm⟩
     |succ j=>simp at hj
    obtain⟨rfl,rfl⟩:=this;rw[Addr.add_lit,Vs,AP,World.cell?_setCells_out r _ _ _ _ (λh _=>absurd h Zk)];exact kX)
   (λj hj=>by rw[Vs];exact kN _ (by simp at hj;omega)) (λj hj=>by rw[gK,AP,World.frozen?_setCells];exact iI _) (by simp[Value.oneCell'])
 rw[<- AP]at FX;have BQ:IntKind.i64.wrap ((i:Int)+1)=(i:Int)+1:=by rw[IntKind.wrap_i64];omega
 have FD:(0:Int)<=(i:Int)+1:=by omega
 have hin:i<=n:=by omega
 have htn:((i:Int)+1).toNat=i+1:=by omega
 have Dk:¬(cap=i+1):=by omega
 have Gs:(i:Int)<=(n:Int)+1:=by omega
 have SK:¬(cap=i):=by omega
 have BH:Tv w r (insL i x ls) (.returned (.slice (some ⟨r,0,none⟩) (n+1) cap)) (W1.setCells r i [.int .u64 x]):=by
  have OG:Blk false w.drew r cur 110:=hb.kept rfl;obtain⟨a1,b1,s1,g1⟩:=OG.setCells (vs:=(ls.map (Value.int .u64)).drop i) (o:=i+1) (by rw[SQ];omega);rw[<- AP]at b1;obtain⟨a2,b2,s2,g2⟩:=b1.setCells (vs:=[.int .u64 x]) (o:=i) (by simp;omega);have OL:(insL i x ls).length=n+1:=by rw[J7h (by omega),xX]
  refine⟨r,cap,by rw[OL],Row.TA b2 (by omega) (by omega) (λj hj=>?_) (Plain.tZ (Plain.tZ Uu (λv hv=>nJ v (List.mem_of_mem_drop hv)) g1) aP g2),hc,.inl rfl,?_⟩
  .rw[Jij (by omega),g2,g1,SQ];rw[OL]at hj;simp only[List.length_singleton];by_cases h1:j<i
   .rw[if_neg (by omega),if_neg (by omega),if_pos h1,Ht j (by omega),C9,DL (by omega)];rfl
   .by_cases h2:j=i
    .subst h2;simp
    .rw[if_neg (by omega),if_pos (by omega),if_neg h1,if_neg h2,List.getElem?_drop,List.getElem?_map,show i+(j-(i+1))=j-1 by omega]
  .rw[AP];exact Tch.setCells (M:=λb=>b=r) (.inr rfl) (Tch.setCells (M:=λb=>b=r) (.inr rfl) (Tch.refl.drew))
 clear Aq Qc iI Ht hb kN kX hv AP
 go_enter func267,ntmps267
 go_wp2_with (simp only[hov])
 go_region_law_o (refine step_copy_runI rfl _ _ 36 36 rfl _ _ (by simp[Act.eval,Act.put]) (by simp[Act.eval,Act.put]) (FX _ _ _) ?_)
 go_wp2_with (at_builtin;refine wpList_copy_runI _ rfl _ _ 37 37 rfl _ _ rfl rfl (FY _ (λ_=>rfl) (λ_=>rfl) _ _) ?_)
 go_ret;exact BH
def Jil{w:JE}{vb:Nat}{x:Int}{t:JH}(hv:w.heap[vb]?=some (.cells #[.int .u64 x] t)):∀j u,([.int .u64 x]:List JJ)[j]?=some u->w.cell? ((⟨vb,0,none⟩:Addr).add j)=some u:=by
 intro j u hj;cases j with
 |zero=>
  simp at hj;subst hj;rw[Addr.add_lit];exact(cell_of hv 0).trans rfl
 |succ j=>simp at hj
def Jsw(x:Int)(ls:JD):insL ls.length x ls=ls++[x]:=by simp[insL]
def Jzx{α:Type}(a b:List α)(j:Nat):(a++b)[j]?=if j<a.length then a[j]? else b[j-a.length]?:=List.getElem?_append
def insert_nil(hv:w.heap[vb]?=some (.cells #[.int .u64 x] 110)) :
  Calls prog 267 #[.slice none 0 0,.int .i64 0,.slice (some ⟨vb,0,none⟩) 1 1] w (Tv w r [x]):=by
 obtain⟨i0,hi,EY,DJ,DR⟩:=info_parts Wh;have SI:(Builtin.append_ #[36,36] 36 #[.slice none 0 0,.slice (some ⟨vb,0,none⟩) 1 1]).run prog w=_:=
  run_append_nil (w:=w) 36 36 110 i0 _ underlying36 hi EY ⟨vb,0,none⟩ 1 1 [.int .u64 x] (by rw[DJ];rfl) (Jil hv) (by omega) (by omega) (by rw[DR];omega)
 have Et:=grownCap_ge w 1 0 110;have hle:=grownCap_le_maxLen w 1 0 110 (by decide);generalize grownCap w 1 0 110=G at *;have BH:Tv w r [x] (.returned (.slice (some ⟨w.heap.size,0,none⟩) 1 G)) (w.drew.alloc (.cells ([Value.int .u64 x].toArray++Builtin.zeroCells (Value.int .u64 0).cells (G-1)) 110)):=by refine⟨w.heap.size,G,rfl,Row.TA (xs:=[x]) ⟨(0,0),Ja _,λ_=>rfl⟩ (by simp[Builtin.zeroCells,Value.cells];omega) (by simpa using Et) (λj hj=>?_) ((Plain.list aP).append (Plain.madeCells (Plain.ai (k:=.u64) (xs:=[0])) _)),hle,.inr (Ad _),Tch.refl.drew.alloc (Ad _) _⟩;simp at hj;subst hj;rw[Array.getElem?_append_left (by simp)];rfl
 clear hv;generalize Rf:w.drew.alloc (.cells ([Value.int .u64 x].toArray++Builtin.zeroCells (Value.int .u64 0).cells (G-1)) 110)=w' at *
 go_enter func267,ntmps267
 go_wp2_with (at_builtin;refine Lib.wpList_append_run _ rfl _ _ _ _ rfl _ _ rfl rfl _ _ SI ?_)
 go_ret;exact BH
end
def J96(b:Nat):∀(vs:List JJ)(o:Nat)(w:JE),(w.setCells b o vs).tape=w.tape/\(w.setCells b o vs).os=w.os/\(w.setCells b o vs).output=w.output
 |[],_,_=>⟨rfl,rfl,rfl⟩
 |v::r,o,w=>J96 b r (o+1) (w.setCell ⟨b,o,none⟩ v)
def J97(b:Nat):∀(vs:List JJ)(o:Nat)(w w1:JE),w.heap=w1.heap->(w.setCells b o vs).heap=(w1.setCells b o vs).heap
 |[],_,_,_,h=>h
 |v::r,o,w,w1,h=>J97 b r (o+1) _ _ (by simp only[World.setCell,h])
def Blk.setRow{w:JE}{b:Nat}{arr:JC}{t:JH}(h:Blk false w b arr t)(Dj:JC):Blk false (w.setRow b Dj) b Dj t:=by obtain⟨z,h,hz⟩:=h;cases hz rfl;refine⟨(0,0),?_,λ_=>rfl⟩;simp only[World.setRow,Array.getElem?_modify,if_true,h,Option.map_some]
def Tch.setRow{N:Nat}{M:JB}{w w1:JE}{b:Nat}(h:Tch N M w w1)(hb:N<=b\/M b)(Dj:JC):Tch N M w (w1.setRow b Dj):=
 ⟨BN h.size (by simp[World.setRow]),λk hk hm=>by
  have:k≠b:=by rintro rfl;rcases hb with hb|hb;omega;exact hm hb
  simp only[World.setRow,Array.getElem?_modify,if_neg (Ne.symm this)];exact h.heap k hk hm,h.tape,h.os,h.output⟩
section
variable{w:JE}{r cap vb i:Nat}{ls:JD}{x:Int}
def Jmf(h:Row false w r 110 .u64 ls cap)(hc:cap<=maxLen)(hv:w.heap[vb]?=some (.cells #[.int .u64 x] 110))(hn:ls.length<=1000) :
  Calls prog 267 #[.slice (some ⟨r,0,none⟩) ls.length cap,.int .i64 ls.length,.slice (some ⟨vb,0,none⟩) 1 1] w (Tv w r (insL ls.length x ls)):=by
 obtain⟨cur,hb,FH,hlc,Ht,Uu⟩:=h;obtain⟨i0,hi,EY,DJ,DR⟩:=info_parts Wh;have hc63:cap<=9223372036854775807:=by unfold maxLen at hc;omega
 have QM:insL ls.length x ls=ls++[x]:=Jsw x ls;have OL:(ls++[x]).length=ls.length+1:=by simp
 rw[QM];have fin:∃v' w',(Builtin.append_ #[36,36] 36 #[.slice (some ⟨r,0,none⟩) ls.length cap,.slice (some ⟨vb,0,none⟩) 1 1]).run prog w=.ok v' w'/\Tv w r (ls++[x]) (.returned v') w':=by
  rcases BF cap (ls.length+1)with hgr|Ip
  .have SI:=run_append_grow (P:=prog) (w:=w) 36 36 110 i0 _ underlying36 hi EY ⟨r,0,none⟩ ls.length cap (ls.map (Value.int .u64)) (by rw[DJ];simp) (λj v hj=>by
     rw[List.getElem?_map,Fh]at hj;obtain⟨y,hy,rfl⟩:=hj;have Ac:=(List.getElem?_eq_some_iff.1 hy).1;rw[Addr.add_lit,Nat.zero_add,hb.cell,Ht j Ac,C9,hy];rfl)
    ⟨vb,0,none⟩ 1 1 [.int .u64 x] (by rw[DJ];rfl) (Jil hv) (by omega) (by omega) (growslice_fits hgr (by rw[DR];omega))
   have Et:=grownCap_ge w (ls.length+1) cap 110;have hle:=grownCap_le_maxLen w (ls.length+1) cap 110 (by unfold maxLen;omega);generalize grownCap w (ls.length+1) cap 110=G at *;refine⟨_,_,SI,w.heap.size,G,by rw[OL],Row.TA ⟨(0,0),Ja _,λ_=>rfl⟩ (by simp[Builtin.zeroCells,Value.cells];omega) (by omega) (λj hj=>?_) (((Plain.list nJ).append (Plain.list aP)).append (Plain.madeCells (Plain.ai (k:=.u64) (xs:=[0])) _)),hle,.inr (Ad _),Tch.refl.drew.alloc (Ad _) _⟩;rw[Array.getElem?_append_left (by simp;omega)];simp[List.getElem?_append];split
   .simp_all
   .generalize j-ls.length=q;cases q<;>rfl
  .have hg:w.heap[r]?=some (.cells cur 110 (0,0)):=by obtain⟨z,hz,yK⟩:=hb;cases yK rfl;exact hz
   have SI:=run_append_room (P:=prog) (w:=w) 36 36 110 i0 underlying36 hi r ls.length cap cur hg ⟨vb,0,none⟩ 1 1 [.int .u64 x] (by rw[DJ];rfl) (Jil hv) (by simp[Value.oneCell']) Ip (by rw[DJ];simp;omega);rw[DJ]at SI;refine⟨_,_,SI,r,cap,by rw[OL],Row.TA (hb.setRow _) (by simp;omega) (by omega) (λj hj=>?_) (Plain.list λv hv=>(Gn.1 hv).elim (λhv=>(Gn.1 hv).elim (λhv=>Uu v (List.mem_of_mem_take hv)) (aP v)) λhv=>Uu v (List.mem_of_mem_drop hv)),hc,.inl rfl,Tch.setRow (M:=λb=>b=r) Tch.refl (.inr rfl) _⟩;rw[OL]at hj;simp only[List.getElem?_toArray,Nat.mul_one,List.length_singleton];rw[Jzx,Jzx];by_cases h1:j<ls.length
   .simp[h1,List.getElem?_take,show j<cur.size by omega,show ls.length<=cur.size by omega];have:=Ht j h1;rw[Bz (by omega)]at this;rw[Aa this];simp[C9,h1,show j<ls.length+1 by omega,List.getElem?_append_left h1]
   .have:j=ls.length:=by omega
    subst this;simp[show ls.length<cur.size by omega,show min ls.length cur.size=ls.length by omega]
 obtain⟨v',w',SI,BH⟩:=fin;clear Ht hb hv QM OL;generalize ls.length=n at *
 go_enter func267,ntmps267
 go_wp2_with (at_builtin;refine Lib.wpList_append_run _ rfl _ _ _ _ rfl _ _ rfl rfl _ _ SI ?_)
 all_goals go_ret
 all_goals exact BH
def Jku(h:Row false w r 110 .u64 ls cap)(hc:cap<=maxLen)(hv:w.heap[vb]?=some (.cells #[.int .u64 x] 110))(hi:i<ls.length)(Ip:cap<ls.length+1)(hn:ls.length<=1000) :
  Calls prog 267 #[.slice (some ⟨r,0,none⟩) ls.length cap,.int .i64 i,.slice (some ⟨vb,0,none⟩) 1 1] w (Tv w r (insL i x ls)):=by
 obtain⟨cur,hb,FH,hlc,Ht,Uu⟩:=h;obtain⟨i0,iM,EY,XU,hzb⟩:=info_parts Wh;have mixed:prog.follows .mixedOrders=true:=by kernel_rfl
 have Nj:cap=ls.length:=by omega
 have OL:(insL i x ls).length=ls.length+1:=J7h (by omega);have hig:=Jij (i:=i) (x:=x) (ls:=ls) (by omega);generalize xX:ls.length=n at *;have Aq:∀j,j<n->w.cell? ⟨r,j,none⟩=some (.int .u64 (ls.getD j 0)):=λj hj=>(hb.cell j).trans (Ht j hj);have kX:w.cell? ⟨vb,0,none⟩=some (.int .u64 x):=(cell_of hv 0).trans rfl;have DR:¬((i:Int)=(n:Int)):=by omega
 have hz3:(cap:Int)<(n:Int)+1:=by omega
 have Ag:(prog.info? 110).map (·.size)=some 1:=by kernel_rfl
 have hbw:r<w.heap.size:=hb.lt;have hvw:vb<w.heap.size:=Jj hv;have Zd:(n:Int)+1-(i:Int)=((n+1-i:Nat):Int):=by omega
 have hik:i+(n+1-i)=n+1:=by omega
 have hold:(Builtin.firstCells i0.size i (.slice (some ⟨r,0,none⟩) i cap)).run prog w.drew=.ok ((ls.map (Value.int .u64)).take i).toArray w.drew:=by
  rw[XU];exact run_firstCells_some w.drew 1 i ⟨r,0,none⟩ i cap ((ls.map (Value.int .u64)).take i) (by rw[List.length_take];simp;omega) (λj v hj=>by
   rw[Addr.add_lit,Nat.zero_add];rw[List.getElem?_take]at hj;split at hj
   .rw[List.getElem?_map,Fh]at hj;obtain⟨y,hy,rfl⟩:=hj;show w.cell? ⟨r,j,none⟩=_;rw[Aq _ (by omega),C9,hy];rfl
   .cases hj)
 have hrz:∀ty,(Builtin.append_ #[36,3] ty #[.slice (some ⟨r,0,none⟩) i cap,.int .i64 ((n:Int)+1-(i:Int))]).run prog w=.ok (.slice (some ⟨w.heap.size,0,none⟩) (n+1) (grownCap w (n+1) cap 110)) (w.drew.alloc (.cells (((ls.map (Value.int .u64)).take i).toArray++Builtin.zeroCells (Value.int .u64 0).cells (n+1-i)++Builtin.zeroCells (Value.int .u64 0).cells (grownCap w (n+1) cap 110-(n+1))) 110)):=λty=>by have h:=Lib.run_append_grow_zeros w 36 3 ty 110 i0 _ .i64 .i64 underlying36 underlying3 iM EY (some ⟨r,0,none⟩) i cap ((ls.map (Value.int .u64)).take i) hold (n+1-i) (by omega) (by omega) (by omega) (by omega) (by rw[hzb];omega) (by rw[hzb,hik];exact growslice_fits (by omega) (by omega));rw[hik]at h;rw[Zd];exact h
 have hGn:n+1<=grownCap w (n+1) cap 110:=grownCap_ge w _ _ _;have hGm:=grownCap_le_maxLen w (n+1) cap 110 (by unfold maxLen;omega);generalize grownCap w (n+1) cap 110=G at *;obtain⟨MC,QE⟩:∃MC:JC,MC=((ls.map (Value.int .u64)).take i).toArray++Builtin.zeroCells (Value.int .u64 0).cells (n+1-i)++Builtin.zeroCells (Value.int .u64 0).cells (G-(n+1)):=⟨_,rfl⟩;rw[<- QE]at hrz;have hRl:MC.size=G:=by rw[QE];simp[Builtin.zeroCells,Value.cells];omega
 have hRg:∀j,j<i->MC[j]?=some (.int .u64 (ls.getD j 0)):=λj hj=>by rw[QE,Array.getElem?_append_left (by simp[Builtin.zeroCells,Value.cells];omega),Array.getElem?_append_left (by simp;omega)];simp[List.getElem?_take,hj,C9,show j<ls.length by omega]
 obtain⟨W1,AP⟩:∃W1,W1=w.drew.alloc (.cells MC 110):=⟨_,rfl⟩;rw[<- AP]at hrz;have hpN:Plain MC:=by rw[QE];exact((Plain.list λv hv=>nJ v (List.mem_of_mem_take hv)).append (Plain.madeCells (Plain.ai (k:=.u64) (xs:=[0])) _)).append (Plain.madeCells (Plain.ai (k:=.u64) (xs:=[0])) _)
 have xB:Blk false W1 w.heap.size MC 110:=⟨(0,0),by rw[AP];exact Ja _,λ_=>rfl⟩;have hN:∀j,j<n+1->(W1.cell? ⟨w.heap.size,j,none⟩).isSome=true:=λj hj=>by rw[xB.cell,Bz (by omega)];rfl
 have hNf:∀j,W1.frozen? ⟨w.heap.size,j,none⟩=false:=λj=>xB.frozen j;have hOb:∀j,j<n->W1.cell? ⟨r,j,none⟩=some (.int .u64 (ls.getD j 0)):=λj hj=>by rw[<- Aq j hj,AP];exact Du (w:=w) (J8 (w:=w.drew) _ hbw)
 have hOv:W1.cell? ⟨vb,0,none⟩=some (.int .u64 x):=by rw[<- kX,AP];exact Du (w:=w) (J8 (w:=w.drew) _ hvw)
 have hrN:r≠w.heap.size:=by omega
 have SQ:((ls.map (Value.int .u64)).drop i).length=n-i:=by simp[xX]
 have hcpA:∀(W:JE),(∀x,W.cell? x=W1.cell? x)->(∀x,W.frozen? x=W1.frozen? x)->∀ty dc,(Builtin.copy_ #[36,36] ty #[.slice (some ⟨w.heap.size,i,none⟩) (n+1-i) dc,.slice (some ⟨vb,0,none⟩) 1 1]).run prog W=.ok (goInt [Value.int .u64 x].length) (W.setCells w.heap.size i [.int .u64 x]):=λW Vs gK ty dc=>
  run_copy_cells W _ _ ty 110 w.heap.size i (n+1-i) dc ⟨vb,0,none⟩ 1 1 [.int .u64 x] underlying36 Ag (by simp only[Nat.min_def,List.length_singleton];split<;>omega)
   (λj v hj=>by
    have:j=0/\v=.int .u64 x:=by
     cases j with
     |zero=>simp at hj;exact⟨rfl,hj.symm⟩
     |succ j=>simp at hj
    obtain⟨rfl,rfl⟩:=this;rw[Addr.add_lit,Vs];exact hOv)
   (λj hj=>by rw[Vs];exact hN _ (by simp at hj;omega)) (λj hj=>by rw[gK];exact hNf _) (by simp[Value.oneCell'])
 have iE:∀(W:JE),(∀y,W.cell? y=(W1.setCells w.heap.size i [.int .u64 x]).cell? y)->(∀y,W.frozen? y=(W1.setCells w.heap.size i [.int .u64 x]).frozen? y)->∀ty dc sc,(Builtin.copy_ #[36,36] ty #[.slice (some ⟨w.heap.size,i+1,none⟩) (n-i) dc,.slice (some ⟨r,i,none⟩) (n-i) sc]).run prog W=.ok (goInt ((ls.map (Value.int .u64)).drop i).length) (W.setCells w.heap.size (i+1) ((ls.map (Value.int .u64)).drop i)):=λW Vs gK ty dc sc=>
  run_copy_cells W _ _ ty 110 w.heap.size (i+1) (n-i) dc ⟨r,i,none⟩ (n-i) sc ((ls.map (Value.int .u64)).drop i) underlying36 Ag (by rw[SQ];simp only[Nat.min_def];split<;>omega)
   (λj v hj=>by rw[List.getElem?_drop,List.getElem?_map,Fh]at hj;obtain⟨y,hy,rfl⟩:=hj;have Ac:=(List.getElem?_eq_some_iff.1 hy).1;rw[Addr.add_lit,Vs,World.cell?_setCells_out _ _ _ _ _ (λh _=>absurd h hrN),hOb _ (by omega),C9,hy];rfl)
   (λj hj=>by rw[Vs];exact isSome_setCells w.heap.size [.int .u64 x] i W1 (λt(ht:t<([Value.int .u64 x]).length)=>hN _ (by simp at ht;omega)) _ (hN _ (by rw[SQ]at hj;omega)))
   (λj hj=>by rw[gK,World.frozen?_setCells];exact hNf _) (λv hv=>by obtain⟨y,_,rfl⟩:=AZ.1 (List.mem_of_mem_drop hv);rfl)
 have BH:∀W,W.heap=((W1.setCells w.heap.size i [.int .u64 x]).setCells w.heap.size (i+1) ((ls.map (Value.int .u64)).drop i)).heap->W.tape=w.tape->W.os=w.os->W.output=w.output->Tv w r (insL i x ls) (.returned (.slice (some ⟨w.heap.size,0,none⟩) (n+1) G)) W:=by
  intro W hW e1 e2 e3;obtain⟨a1,b1,s1,g1⟩:=xB.setCells (vs:=[.int .u64 x]) (o:=i) (by simp;omega);obtain⟨a2,b2,s2,g2⟩:=b1.setCells (vs:=(ls.map (Value.int .u64)).drop i) (o:=i+1) (by rw[SQ];omega);have ht:Tch w.heap.size (λb=>b=r) w ((W1.setCells w.heap.size i [.int .u64 x]).setCells w.heap.size (i+1) ((ls.map (Value.int .u64)).drop i)):=by rw[AP];exact Tch.setCells (.inl (Ad _)) (Tch.setCells (.inl (Ad _)) (Tch.refl.drew.alloc (Ad _) _))
  refine⟨w.heap.size,G,by rw[OL],Row.TA (b2.kept (by rw[hW])) (by omega) (by omega) (λj hj=>?_) (Plain.tZ (Plain.tZ hpN aP g1) (λv hv=>nJ v (List.mem_of_mem_drop hv)) g2),hGm,.inr (Ad _),⟨by rw[hW];exact ht.size,λb hb hm=>by rw[hW];exact ht.heap b hb hm,e1,e2,e3⟩⟩;rw[hig,g2,g1,SQ];rw[OL]at hj;simp only[List.length_singleton];by_cases h1:j<i
  .rw[if_neg (by omega),if_neg (by omega),if_pos h1,hRg j h1,C9,DL (by omega)];rfl
  .by_cases h2:j=i
   .rw[if_neg (by omega),if_pos (by omega),if_neg h1,if_pos h2,h2,Nat.sub_self];rfl
   .rw[if_pos (by omega),if_neg h1,if_neg h2,List.getElem?_drop,List.getElem?_map,show i+(j-(i+1))=j-1 by omega]
 have hG63:G<=9223372036854775807:=by unfold maxLen at hGm;omega
 have hGi:¬(G=i):=by omega
 have hGim:¬(G=i+1):=by omega
 have hci:¬(cap=i):=by omega
 subst AP;have hE1:∀x,((w.alloc (.cells MC 110)).drew).cell? x=(w.drew.alloc (.cells MC 110)).cell? x:=λx=>rfl;have FW:∀x,((w.alloc (.cells MC 110)).drew).frozen? x=(w.drew.alloc (.cells MC 110)).frozen? x:=λx=>rfl;have hF1:∀y,(((w.alloc (.cells MC 110)).drew.setCells w.heap.size i [.int .u64 x]).drew).cell? y=((w.drew.alloc (.cells MC 110)).setCells w.heap.size i [.int .u64 x]).cell? y:=λx=>rfl;have hF2:∀y,(((w.alloc (.cells MC 110)).drew.setCells w.heap.size i [.int .u64 x]).drew).frozen? y=((w.drew.alloc (.cells MC 110)).setCells w.heap.size i [.int .u64 x]).frozen? y:=λx=>rfl;have BQ:IntKind.i64.wrap ((i:Int)+1)=(i:Int)+1:=by rw[IntKind.wrap_i64];omega
 have FD:(0:Int)<=(i:Int)+1:=by omega
 have hin:i<=n:=by omega
 have htn:((i:Int)+1).toNat=i+1:=by omega
 have Gs:(i:Int)<=(n:Int):=by omega
 have hic:(i:Int)<=(cap:Int):=by omega
 clear hpN;clear Zd hik hold QE hRl Aq Ht hb hN hNf hOb hOv xB hRg hig OL kX hv FH hlc Nj
 go_enter func267,ntmps267
 go_wp2_with (first
  |(at_builtin;refine Lib.wpList_append_run _ rfl _ _ _ _ rfl _ _ rfl rfl _ _ (hrz _) ?_)
  |(at_builtin;refine wpList_copy_runI _ rfl _ _ 37 37 rfl _ _ rfl rfl (hcpA _ hE1 FW _ _) ?_)
  |(at_builtin;refine wpList_copy_runI _ rfl _ _ 37 37 rfl _ _ rfl rfl (iE _ (λ_=>rfl) (λ_=>rfl) _ _ _) ?_))
 go_region_law_o (refine step_copy_runI rfl _ _ 36 36 rfl (.slice (some ⟨w.heap.size,i+1,none⟩) (n-i) (G-(i+1))) (.slice (some ⟨r,i,none⟩) (n-i) (cap-i)) (by simp[Act.eval,Act.put]) (by simp[Act.eval,Act.put]) (iE _ hF1 hF2 3 (G-(i+1)) (cap-i)) ?_)
 go_wp2;go_ret;obtain⟨q1,q2,q3⟩:=J96 w.heap.size ((ls.map (Value.int .u64)).drop i) (i+1) ((w.alloc (.cells MC 110)).drew.setCells w.heap.size i [.int .u64 x]).drew;exact BH _ (J97 _ _ _ _ _ rfl) q1 q2 q3
end
def lval(pr:Option (Nat × Nat))(ls:JD):JJ:=match pr with|none=>.slice none 0 0|some (r,c)=>.slice (some ⟨r,0,none⟩) ls.length c
def Qy(fr:Bool)(w:JE)(pr:Option (Nat × Nat))(ls:JD):Prop:=match pr with|none=>ls=[]|some (r,c)=>Row fr w r 110 .u64 ls c/\c<=maxLen
def lpl(pr:Option (Nat × Nat))(x:Nat):Prop:=∃c,pr=some (x,c)
structure Gf(fr:Bool)(w:JE)(b:Nat)(pr:Option (Nat × Nat))(K:Int)(ls:JD):Prop where
 hd:Blk fr w b #[.int .i64 K,lval pr ls] 194
 row:Qy fr w pr ls
section
variable{fr:Bool}{w w':JE}{b:Nat}{pr:Option (Nat × Nat)}{K:Int}{ls:JD}
def Qy.kept(h:Qy fr w pr ls)(hh:∀x,lpl pr x->w'.heap[x]?=w.heap[x]?):Qy fr w' pr ls:=by
 cases pr with
 |none=>exact h
 |some p=>exact⟨h.1.kept (hh p.1 ⟨p.2,rfl⟩),h.2⟩
def Qy.lt(h:Qy fr w pr ls){x:Nat}(hx:lpl pr x):x<w.heap.size:=by obtain⟨c,rfl⟩:=hx;exact h.1.lt
def Gf.kept(h:Gf fr w b pr K ls)(h1:w'.heap[b]?=w.heap[b]?)(hh:∀x,lpl pr x->w'.heap[x]?=w.heap[x]?):Gf fr w' b pr K ls:=⟨h.hd.kept h1,h.row.kept hh⟩
def Gf.c0(h:Gf fr w b pr K ls):w.cell? ⟨b,0,none⟩=some (.int .i64 K):=(h.hd.cell 0).trans rfl
def Gf.c1(h:Gf fr w b pr K ls):w.cell? ⟨b,1,none⟩=some (lval pr ls):=(h.hd.cell 1).trans rfl
def Jmg(x:Int)(w:JE):Calls prog 266 #[.slice none 0 0,.int .u64 x] w λe w'=>e=.returned (.tuple #[.int .i64 0,.bool false])/\w'=w:=by
 go_enter func266,ntmps266
 go_wp2
 go_loop [7,8] (λs7 s8=>s7=.int .i64 0/\s8=.int .i64 0) (λ_ _=>0)
 case atStart=>exact⟨rfl,rfl⟩
 case round=>
  obtain⟨rfl,rfl⟩:=hrel;go_wp2
  go_ret2
  exact⟨rfl,rfl⟩
def Jmh(h:Qy fr w pr ls)(hn:ls.length<=1000)(hs:ls.Pairwise (·<=·))(x:Int) :
  Calls prog 266 #[lval pr ls,.int .u64 x] w λe w'=>e=.returned (.tuple #[.int .i64 (ls.countP (· < x):Nat),.bool (decide (x∈ls))])/\w'=w:=by
 cases pr with
 |none=>
  have:ls=[]:=h;subst this;refine(Jmg x w).mono ?_;rintro e w' ⟨rfl,rfl⟩;exact⟨by simp,rfl⟩
 |some p=>exact Jii h.1 hn hs x p.2
def Jpl(w:JE)(pr:Option (Nat × Nat))(ls:JD)(e:Ending)(w':JE):Prop:=
 ∃g c',e=.returned (.slice (some ⟨g,0,none⟩) ls.length c')/\Row false w' g 110 .u64 ls c'/\c'<=maxLen/\(lpl pr g\/w.heap.size<=g)/\Tch w.heap.size (lpl pr) w w'
def Jmi{vb i:Nat}{x:Int}(h:Qy false w pr ls)(hv:w.heap[vb]?=some (.cells #[.int .u64 x] 110))(Zk:¬lpl pr vb)(hi:i<=ls.length)(hn:ls.length<=1000) :
  Calls prog 267 #[lval pr ls,.int .i64 i,.slice (some ⟨vb,0,none⟩) 1 1] w (Jpl w pr (insL i x ls)):=by
 cases pr with
 |none=>
  have:ls=[]:=h;subst this;have:i=0:=by simpa using hi
  subst this;refine(insert_nil (r:=w.heap.size) hv).mono ?_;rintro e w' ⟨g,c',rfl,h1,h2,h3,h4⟩;exact⟨g,c',rfl,h1,h2,.inr (by omega),h4.mono (Ad _) λb hb e=>by omega⟩
 |some p=>
  obtain⟨r,c⟩:=p;have hvr':vb≠r:=by rintro rfl;exact Zk ⟨c,rfl⟩
  have conv:∀e w',Tv w r (insL i x ls) e w'->Jpl w (some (r,c)) (insL i x ls) e w':=by rintro e w' ⟨g,c',rfl,h1,h2,h3,h4⟩;exact⟨g,c',rfl,h1,h2,h3.imp (λe=>by subst e;exact⟨c,rfl⟩) id,h4.mono (Ad _) λb _ e=>by subst e;exact⟨c,rfl⟩⟩
  rcases BF i ls.length with Ac|Et
  .rcases BF c (ls.length+1)with h1|h1
   .exact(Jku h.1 h.2 hv Ac h1 hn).mono conv
   .exact(Jik h.1 h.2 hv hvr' Ac h1 hn).mono conv
  .obtain rfl:i=ls.length:=by omega
   exact(Jmf h.1 h.2 hv hn).mono conv
def Iz(K:Int)(ls:JD)(h:Int):JD:=if h∈ls then ls else(insL (ls.countP (· < h)) h ls).take K.toNat
def Row.take{r cap:Nat}{t:JH}{k:IntKind}{xs:JD}(h:Row fr w r t k xs cap)(m:Nat):Row fr w r t k (xs.take m) cap:=by obtain⟨cur,h1,h2,h3,h4,h5⟩:=h;refine⟨cur,h1,h2,by simp;omega,λi hi=>?_,h5⟩;simp only[List.length_take]at hi;rw[h4 i (by omega),C9,C9,List.getElem?_take,if_pos (by omega)]
def rX(w:JE)(b:Nat)(pr:Option (Nat × Nat))(K:Int)(ls:JD)(e:Ending)(w':JE):Prop:=
 (∃v,e=.returned v)/\∃OZ,Gf false w' b OZ K ls/\(∀x,lpl OZ x->lpl pr x\/w.heap.size<=x)/\Tch w.heap.size (λx=>x=b\/lpl pr x) w w'
def Jsx{w2:JE}{L:JD}{g c' m:Nat}{x:Int}{s1 lv:JJ}(v:JJ)(YZ:b<w.heap.size)(hb:¬lpl pr b)(Dt:Blk false w2 b #[.int .i64 K,lv] 194)(BM:Row false w2 g 110 .u64 L c')(Nh:c'<=maxLen)(Bl:lpl pr g\/w.heap.size+1<=g)(hL:(L.take K.toNat).length=m)
  (Bc:Tch (w.heap.size+1) (lpl pr) (w.alloc (.cells #[.int .u64 x] 110)) w2):rX w b pr K (L.take K.toNat) (.returned v) ((w2.setCell ⟨b,1,none⟩ s1).setCell ⟨b,1,none⟩ (.slice (some ⟨g,0,none⟩) m c')).drew:=by
 have xJ:g≠b:=by
  rintro rfl;rcases Bl with h|h
  .exact hb h
  .omega
 refine⟨⟨_,rfl⟩,some (g,c'),⟨?_,?_,Nh⟩,λy ⟨c,hc⟩=>?_,?_⟩
 .have:=((Dt.set 1 s1).set 1 (.slice (some ⟨g,0,none⟩) m c')).kept (w':=((w2.setCell ⟨b,1,none⟩ s1).setCell ⟨b,1,none⟩ (.slice (some ⟨g,0,none⟩) m c')).drew) rfl;rw[show lval (some (g,c')) (L.take K.toNat)=.slice (some ⟨g,0,none⟩) m c' by rw[<- hL];rfl];exact this
 .exact(BM.take K.toNat).kept ((Jm _ _ xJ).trans (Jm _ _ xJ))
 .cases hc;exact Bl.imp id λh=>by omega
 .have h1:Tch w.heap.size (λx=>x=b\/lpl pr x) w (w.alloc (.cells #[.int .u64 x] 110)):=Tch.refl.alloc (Ad _) _;have h2:Tch w.heap.size (λx=>x=b\/lpl pr x) (w.alloc (.cells #[.int .u64 x] 110)) w2:=Bc.mono (by omega) λ_ _ h=>.inr h;exact(((h1.trans h2).set (.inr (.inl rfl)) _).set (.inr (.inl rfl)) _).drew
def Jim(h:Gf false w b pr K ls)(hb:¬lpl pr b)(hn:ls.length<=1000)(hs:ls.Pairwise (·<=·))(hK:0<=K/\K<=1000)(x:Int)(v:Int) :
  Calls prog 262 #[.pointer (some ⟨b,0,none⟩),.int .u64 x,.int .i64 v] w (rX w b pr K (Iz K ls x)):=by
 have d0:=h.c0;have d1:=h.c1;have f1:=h.hd.frozen 1;have kM:=Jmh h.row hn hs x;have gZ:=h.hd.lt;by_cases hx:x∈ls
 .have e1:Iz K ls x=ls:=by simp[Iz,hx]
  rw[e1];have BH:rX w b pr K ls (.returned (.tuple #[])) w:=⟨⟨_,rfl⟩,pr,h,λx hx=>.inl hx,.refl⟩;rw[decide_eq_true hx]at kM;generalize lval pr ls=lv at *
  go_enter func262,ntmps262
  go_wp2_with (go_at_call 266;refine kM.mono ?_;rintro e w' ⟨rfl,rfl⟩)
  go_end0;exact BH
 .have e1:Iz K ls x=(insL (ls.countP (· < x)) x ls).take K.toNat:=by simp[Iz,hx]
  rw[e1];rw[decide_eq_false hx]at kM;have Jzy:ls.countP (· < x)<=ls.length:=List.countP_le_length;have hvN:(w.alloc (.cells #[.int .u64 x] 110)).heap[w.heap.size]?=some (.cells #[.int .u64 x] 110):=Ja _;have kJ:Qy false (w.alloc (.cells #[.int .u64 x] 110)) pr ls:=h.row.kept λy hy=>J8 _ (h.row.lt hy);have QM:=Jmi kJ hvN (λhy=>by have:=h.row.lt hy;omega) Jzy hn;have OL:(insL (ls.countP (· < x)) x ls).length=ls.length+1:=J7h Jzy;generalize ls.countP (· < x)=i at *;generalize hL:insL i x ls=L at *;clear hx hL;obtain⟨k,hk⟩:∃k:Nat,K=k:=⟨K.toNat,by omega⟩;obtain⟨m,hm⟩:∃m:Nat,m=min (ls.length+1) k:=⟨_,rfl⟩;have hmin:min ((ls.length:Int)+1) K=(m:Int):=by omega
  have OU:(0:Int)<=(m:Int):=by omega
  have hB:Blk false (w.alloc (.cells #[.int .u64 x] 110)) b #[.int .i64 K,lval pr ls] 194:=h.hd.kept (J8 _ gZ);have J040:=hB.lt;generalize lval pr ls=lv at d1 kM QM hB
  go_enter func262,ntmps262
  go_wp2_with (first
   |(go_at_call 266;refine kM.mono ?_;rintro e w' ⟨rfl,rfl⟩)
   |(go_at_call 267;refine QM.mono ?_;rintro e w2 ⟨g,c',rfl,BM,Nh,Bl,Bc⟩
     have Dt:Blk false w2 b #[.int .i64 K,lv] 194:=hB.kept (Bc.heap b J040 hb);have k0:w2.cell? ⟨b,0,none⟩=some (.int .i64 K):=(Dt.cell 0).trans rfl;have k1:w2.cell? ⟨b,1,none⟩=some lv:=(Dt.cell 1).trans rfl;have k2:=Dt.frozen 1;have hmc:(m:Int)<=(c':Int):=by obtain⟨_,_,_,h3,_⟩:=BM;omega))
  go_region
  all_goals go_wp2
  all_goals go_end0
  all_goals exact Jsx _ gZ hb Dt BM Nh (by rw[size_alloc]at Bl;exact Bl) (by rw[List.length_take,OL];omega) (by rw[size_alloc]at Bc;exact Bc)
end
end Go.Sim.Z
