/- Proved: laws for the claim. No conditions. -/
import Derived.Lib.SliceRun
import Derived.Lib.SlicesSearch
import Derived.Shelf.Spec.SlicesInsertGrow
import Derived.Deep.RegionHeld3
import Derived.Test.YtlcbehhbfglgaaaGreatDoorC10
set_option linter.all false
set_option maxHeartbeats 4000000
set_option maxRecDepth 100000
open Go.Proofs.Tryz
namespace Go.Sim.Z
open Go Go.Proofs Go.RowKit
def Blk(fr:Bool)(w:JE)(b:Nat)(arr:JC)(t:JH):Prop:=∃z,w.heap[b]?=some (.cells arr t z)/\(fr=false->z=(0,0))
def Row(fr:Bool)(w:JE)(b:Nat)(t:JH)(k:IntKind)(xs:JD)(cap:Nat):Prop:=
 ∃cur,Blk fr w b cur t/\cur.size=cap/\xs.length<=cap/\(∀i,i<xs.length->cur[i]?=some (.int k (xs.getD i 0)))/\Plain cur
section
variable{fr:Bool}{w w':JE}{b:Nat}{arr:JC}{t:JH}{k:IntKind}{xs:JD}{cap:Nat}
def Blk.lt(h:Blk fr w b arr t):b<w.heap.size:=by obtain⟨z,h,_⟩:=h;exact Jj h
def Blk.cell(h:Blk fr w b arr t)(i:Nat):w.cell? ⟨b,i,none⟩=arr[i]?:=by obtain⟨z,h,_⟩:=h;exact cell_of h i
theorem Blk.frozen(h:Blk false w b arr t)(i:Nat):w.frozen? ⟨b,i,none⟩=false:=by obtain⟨z,h,hz⟩:=h;cases hz rfl;exact FZ h i
def Blk.kept(h:Blk fr w b arr t)(hb:w'.heap[b]?=w.heap[b]?):Blk fr w' b arr t:=by obtain⟨z,h,hz⟩:=h;exact⟨z,hb.trans h,hz⟩
def Blk.set(h:Blk false w b arr t)(i:Nat)(v:JJ):Blk false (w.setCell ⟨b,i,none⟩ v) b (arr.setIfInBounds i v) t:=by obtain⟨z,h,hz⟩:=h;cases hz rfl;exact⟨(0,0),heap_set h i v,λ_=>rfl⟩
def Blk.tch{N:Nat}{M:JB}(h:Blk fr w b arr t)(k:Tch N M w w')(hb:b<N)(hm:¬M b):Blk fr w' b arr t:=h.kept (k.heap b hb hm)
def Row.lt(h:Row fr w b t k xs cap):b<w.heap.size:=by obtain⟨_,h,_⟩:=h;exact h.lt
def Row.cell(h:Row fr w b t k xs cap){i:Nat}(hi:i<xs.length):w.cell? ⟨b,i,none⟩=some (.int k (xs.getD i 0)):=by obtain⟨cur,h1,_,_,h4,_⟩:=h;rw[h1.cell,h4 i hi]
theorem Row.frozen(h:Row false w b t k xs cap)(i:Nat):w.frozen? ⟨b,i,none⟩=false:=by obtain⟨_,h,_⟩:=h;exact h.frozen i
def Row.kept(h:Row fr w b t k xs cap)(hb:w'.heap[b]?=w.heap[b]?):Row fr w' b t k xs cap:=by obtain⟨cur,h1,h2⟩:=h;exact⟨cur,h1.kept hb,h2⟩
def Row.tch{N:Nat}{M:JB}(h:Row fr w b t k xs cap)(q:Tch N M w w')(hb:b<N)(hm:¬M b):Row fr w' b t k xs cap:=h.kept (q.heap b hb hm)
def Row.set(h:Row false w b t k xs cap)(i:Nat)(v:Int):Row false (w.setCell ⟨b,i,none⟩ (.int k v)) b t k (xs.set i v) cap:=by
 obtain⟨cur,h1,h2,h3,h4,h5⟩:=h;refine⟨_,h1.set i _,by grind,by grind,λj hj=>?_,h5.set i ⟨_,_,rfl⟩⟩
 grind
def Row.cells(h:Row fr w b t k xs cap):∀j u,(xs.map (Value.int k))[j]?=some u->w.cell? ⟨b,0+j,none⟩=some u:=by intro j u hj;rw[List.getElem?_map,Fh]at hj;obtain⟨x,hx,rfl⟩:=hj;have Ac:j<xs.length:=(List.getElem?_eq_some_iff.1 hx).1;rw[Nat.zero_add,h.cell Ac,C9,hx];rfl
def Row.nP{base n:Nat}{v:JJ}(h:w.ownsRow base t 1 v n (xs.map (Value.int k)))(hv:v≠.slice none 0 0)(hp:Ko w v):∃g cap,v=JM g xs.length cap/\base<=g/\Row false w g t k xs cap/\cap<=maxLen:=by
 obtain⟨h0,⟨rfl,_⟩|⟨g,cap,cur,rfl,h1,h2,h3,h4,h5,h6⟩⟩:=h
 .grind
 .simp only[FQ,Nat.mul_one]at h0 h5 h6;subst h0;refine⟨g,cap,rfl,h1,⟨cur,⟨(0,0),h2,λ_=>rfl⟩,h5,h3,λi hi=>?_,hp g _ cap rfl cur t _ h2⟩,h4⟩;have:=congrArg (·[i]?) h6
  grind
end
def F8(xs ys:JD)(k:Nat):JD:=xs.take k++ys.drop k
theorem Rw{xs ys:JD}(h:xs.length=ys.length)(k:Nat):(F8 xs ys k).length=ys.length:=by simp[F8];omega
def ZY(xs ys:JD):F8 xs ys 0=ys:=by simp[F8]
def aA{xs ys:JD}{n:Nat}(h:xs.length=n)(h':ys.length=n):F8 xs ys n=xs:=by
 unfold F8
 grind
def Jgj{xs ys:JD}(h:xs.length=ys.length){k:Nat}(hk:k<ys.length):(F8 xs ys k).getD k 0=ys.getD k 0:=by
 unfold F8
 grind
def aB{xs ys:JD}(h:xs.length=ys.length){k:Nat}(hk:k<ys.length){v:Int}(hv:v=xs.getD k 0):(F8 xs ys k).set k v=F8 xs ys (k+1):=by
 subst hv;apply List.ext_getElem?;intro i;rw[List.getElem?_set,Rw h];unfold F8
 grind
def Jhg(z:JJ)(n:Nat):madeCells #[z] n=Array.replicate n z:=by
 apply Ll;intro i;by_cases h:i<n
 .simp[madeCells,h,Nat.mod_one]
 .rw[Cc (by simp[madeCells];omega),Cc (by simp;omega)]
def info5:(prog.info? 5).map (λi=>(i.zero,i.size,i.bytes))=some (some (.int .u8 0),1,1):=by kernel_rfl
def info3:(prog.info? 3).map (λi=>(i.zero,i.size,i.bytes))=some (some (JK 0),1,8):=by kernel_rfl
def Wh:(prog.info? 110).map (λi=>(i.zero,i.size,i.bytes))=some (some (.int .u64 0),1,8):=by kernel_rfl
def mkRow(t e:JH)(k:IntKind)(vP:Nat)(ht:prog.underlying t=some (.slice e))(hi:(prog.info? e).map (λi=>(i.zero,i.size,i.bytes))=some (some (.int k 0),1,vP))(hb:vP<=8)(n:Nat)(hn:n<=100000)(w:JE) :
  (Instr.makeSlice t (JK n) (JK n)).run prog w=.ok (JM w.heap.size n n) (w.alloc (.cells (Array.replicate n (.int k 0)) e)):=by
 obtain⟨i0,h1,h2,h3,h4⟩:=info_parts hi;have FD:(i0.bytes:Int)*n<=281474976710656:=by
  rw[h4];have:vP*n<=8*100000:=Nat.mul_le_mul hb hn
  grind
 have:=run_makeSlice w t e i0 _ ht h1 h2 .i64 .i64 n n (by omega) (by omega) (by grind) FD (by omega);rw[h3]at this;simp only[Int.toNat_natCast,Nat.mul_one]at this;rw[this,show(Value.int k 0).cells=#[.int k 0]from rfl,Jhg]
theorem nR(w:JE)(t:JH)(k:IntKind)(n:Nat):Row false (w.alloc (.cells (Array.replicate n (.int k 0)) t)) w.heap.size t k (List.replicate n 0) n:=by
 refine⟨_,⟨(0,0),Ja _,λ_=>rfl⟩,by simp,by simp,λi hi=>?_,.replicate ⟨_,_,rfl⟩⟩
 grind
section
variable{fr:Bool}{w:JE}{b:Nat}{xs:JD}{cap:Nat}
def Row.Gw{t:JH}{k:IntKind}(h:Row fr w b t k xs cap):∀j u,(xs.map (Value.int k))[j]?=some u->w.cell? ((⟨b,0,none⟩:Addr).add j)=some u:=λj u hj=>by
 have:=h.cells j u hj;rw[Nat.zero_add]at this;cases j with
 |zero=>exact this
 |succ j=>simpa[Addr.add]using this
def Jzv(h:Row fr w b 5 .u8 xs cap)(hn:xs.length<=100000)(c:Nat):Calls prog 253 #[JM b xs.length c] w λe w'=>∃g c',e=.returned (JM g xs.length c')/\w.heap.size<=g/\Row false w' g 5 .u8 xs c'/\Tch w.heap.size M0 w w'/\c'<=maxLen:=by
 obtain⟨i0,hi,EY,DJ,DR⟩:=info_parts info5;have hm:maxLen=9223372036854775807:=by decide
 have QN:=h.Gw;have Aw:(w.alloc (.cells #[] 5)).ownsRow w.heap.size 5 1 (JM w.heap.size 0 0) 0 []:=⟨rfl,.inr ⟨w.heap.size,0,#[],rfl,Ad _,Ja _,Ad _,by omega,rfl,rfl⟩⟩;have D8:Ko (w.alloc (.cells #[] 5)) (JM w.heap.size 0 0):=λg n cap e arr t z ha=>by cases e;have hq:=ha.symm.trans (Ja (w:=w) _);cases hq;exactλv hv=>by simp at hv
 have iV:∀j u,(xs.map (Value.int .u8))[j]?=some u->(w.alloc (.cells #[] 5)).cell? ((⟨b,0,none⟩:Addr).add j)=some u:=λj u hj=>by
  refine(Du (J8 _ ?_)).trans (QN j u hj);cases j with
  |zero=>exact h.lt
  |succ j=>simpa[Addr.add]using h.lt
 have hlen:(xs.map (Value.int .u8)).length=xs.length*1:=by simp
 have EJ:∀u∈xs.map (Value.int .u8),u.oneCell'=true:=λu hu=>by obtain⟨x,_,rfl⟩:=AZ.1 hu;rfl
 have hint:∀u∈xs.map (Value.int .u8),IsInt u:=λu hu=>by obtain⟨x,_,rfl⟩:=AZ.1 hu;exact⟨_,_,rfl⟩
 have qT:∀(w:JE)(a:JI)(n c n' c':Nat),(binOp .eql 120 (.slice a n c) (.slice none n' c')).run prog w=.ok (.bool a.isNone) w:=λw a n c n' c'=>Lib.run_eql_slice_nil w _ _ a n c n' c' underlying120;generalize NC:xs.map (Value.int .u8)=news at *;generalize Y6:xs.length=n at *
 go_enter func253,ntmps253
 go_wp2_with (at_builtin;refine mO _ rfl _ _ 120 rfl w.heap.size 5 i0 _ 1 1 underlying120 hi EY DJ DR rfl (by decide) _ 0 [] rfl Aw ⟨b,0,none⟩ n c news rfl hlen iV EJ (by omega) (by omega) (by simp) D8 hint (Plain.ai (k:=.u8) (xs:=[0])) ?_;intro v' w1 BD AX Ej Ny)
 go_ret;rw[Nat.zero_add,Gm,<- NC,<- Y6]at BD;have hv:v'≠.slice none 0 0:=λe=>by have:=(Ej.1 e).1;cases this
 obtain⟨g,c',rfl,h1,h2,h3⟩:=Row.nP BD hv Ny;refine⟨g,c',by simp_all,h1,h2,⟨?_,λx hx _=>?_,?_,?_,?_⟩,h3⟩
 .have:=AX.size;grind[size_alloc]
 .exact(AX.block x (by rw[size_alloc];omega) λe=>by have:=Aa e;grind).trans (J8 _ hx)
 .exact AX.tape
 .exact AX.os
 .exact AX.output
def Jih(h:Row fr w b 3 .i64 xs cap)(hn:xs.length<=100000)(c:Nat):Calls prog 111 #[JM b xs.length c] w λe w'=>∃g c',e=.returned (JM g xs.length c')/\w.heap.size<=g/\Row false w' g 3 .i64 xs c'/\Tch w.heap.size M0 w w'/\c'<=maxLen:=by
 obtain⟨i0,hi,EY,DJ,DR⟩:=info_parts info3;have hm:maxLen=9223372036854775807:=by decide
 have QN:=h.Gw;have Aw:(w.alloc (.cells #[] 3)).ownsRow w.heap.size 3 1 (JM w.heap.size 0 0) 0 []:=⟨rfl,.inr ⟨w.heap.size,0,#[],rfl,Ad _,Ja _,Ad _,by omega,rfl,rfl⟩⟩;have D8:Ko (w.alloc (.cells #[] 3)) (JM w.heap.size 0 0):=λg n cap e arr t z ha=>by cases e;have hq:=ha.symm.trans (Ja (w:=w) _);cases hq;exactλv hv=>by simp at hv
 have iV:∀j u,(xs.map (Value.int .i64))[j]?=some u->(w.alloc (.cells #[] 3)).cell? ((⟨b,0,none⟩:Addr).add j)=some u:=λj u hj=>by
  refine(Du (J8 _ ?_)).trans (QN j u hj);cases j with
  |zero=>exact h.lt
  |succ j=>simpa[Addr.add]using h.lt
 have hlen:(xs.map (Value.int .i64)).length=xs.length*1:=by simp
 have EJ:∀u∈xs.map (Value.int .i64),u.oneCell'=true:=λu hu=>by obtain⟨x,_,rfl⟩:=AZ.1 hu;rfl
 have hint:∀u∈xs.map (Value.int .i64),IsInt u:=λu hu=>by obtain⟨x,_,rfl⟩:=AZ.1 hu;exact⟨_,_,rfl⟩
 have qT:∀(w:JE)(a:JI)(n c n' c':Nat),(binOp .eql 24 (.slice a n c) (.slice none n' c')).run prog w=.ok (.bool a.isNone) w:=λw a n c n' c'=>Lib.run_eql_slice_nil w _ _ a n c n' c' underlying24;generalize NC:xs.map (Value.int .i64)=news at *;generalize Y6:xs.length=n at *
 go_enter func111,ntmps111
 go_wp2_with (at_builtin;refine mO _ rfl _ _ 24 rfl w.heap.size 3 i0 _ 1 8 underlying24 hi EY DJ DR rfl (by decide) _ 0 [] rfl Aw ⟨b,0,none⟩ n c news rfl hlen iV EJ (by omega) (by omega) (by simp) D8 hint (Plain.ai (k:=.i64) (xs:=[0])) ?_;intro v' w1 BD AX Ej Ny)
 go_ret;rw[Nat.zero_add,Gm,<- NC,<- Y6]at BD;have hv:v'≠.slice none 0 0:=λe=>by have:=(Ej.1 e).1;cases this
 obtain⟨g,c',rfl,h1,h2,h3⟩:=Row.nP BD hv Ny;refine⟨g,c',by simp_all,h1,h2,⟨?_,λx hx _=>?_,?_,?_,?_⟩,h3⟩
 .have:=AX.size;grind[size_alloc]
 .exact(AX.block x (by rw[size_alloc];omega) λe=>by have:=Aa e;grind).trans (J8 _ hx)
 .exact AX.tape
 .exact AX.os
 .exact AX.output
theorem Jlj(h:Row fr w b 110 .u64 xs cap)(hn:xs.length<=100000)(c:Nat):Calls prog 214 #[JM b xs.length c] w λe w'=>∃g c',e=.returned (JM g xs.length c')/\w.heap.size<=g/\Row false w' g 110 .u64 xs c'/\Tch w.heap.size M0 w w'/\c'<=maxLen:=by
 obtain⟨i0,hi,EY,DJ,DR⟩:=info_parts Wh;have hm:maxLen=9223372036854775807:=by decide
 have QN:=h.Gw;have Aw:(w.alloc (.cells #[] 110)).ownsRow w.heap.size 110 1 (JM w.heap.size 0 0) 0 []:=⟨rfl,.inr ⟨w.heap.size,0,#[],rfl,Ad _,Ja _,Ad _,by omega,rfl,rfl⟩⟩;have D8:Ko (w.alloc (.cells #[] 110)) (JM w.heap.size 0 0):=λg n cap e arr t z ha=>by cases e;have hq:=ha.symm.trans (Ja (w:=w) _);cases hq;exactλv hv=>by simp at hv
 have iV:∀j u,(xs.map (Value.int .u64))[j]?=some u->(w.alloc (.cells #[] 110)).cell? ((⟨b,0,none⟩:Addr).add j)=some u:=λj u hj=>by
  refine(Du (J8 _ ?_)).trans (QN j u hj);cases j with
  |zero=>exact h.lt
  |succ j=>simpa[Addr.add]using h.lt
 have hlen:(xs.map (Value.int .u64)).length=xs.length*1:=by simp
 have EJ:∀u∈xs.map (Value.int .u64),u.oneCell'=true:=λu hu=>by obtain⟨x,_,rfl⟩:=AZ.1 hu;rfl
 have hint:∀u∈xs.map (Value.int .u64),IsInt u:=λu hu=>by obtain⟨x,_,rfl⟩:=AZ.1 hu;exact⟨_,_,rfl⟩
 have qT:∀(w:JE)(a:JI)(n c n' c':Nat),(binOp .eql 36 (.slice a n c) (.slice none n' c')).run prog w=.ok (.bool a.isNone) w:=λw a n c n' c'=>Lib.run_eql_slice_nil w _ _ a n c n' c' underlying36;generalize NC:xs.map (Value.int .u64)=news at *;generalize Y6:xs.length=n at *
 go_enter func214,ntmps214
 go_wp2_with (at_builtin;refine mO _ rfl _ _ 36 rfl w.heap.size 110 i0 _ 1 8 underlying36 hi EY DJ DR rfl (by decide) _ 0 [] rfl Aw ⟨b,0,none⟩ n c news rfl hlen iV EJ (by omega) (by omega) (by simp) D8 hint (Plain.ai (k:=.u64) (xs:=[0])) ?_;intro v' w1 BD AX Ej Ny)
 go_ret;rw[Nat.zero_add,Gm,<- NC,<- Y6]at BD;have hv:v'≠.slice none 0 0:=λe=>by have:=(Ej.1 e).1;cases this
 obtain⟨g,c',rfl,h1,h2,h3⟩:=Row.nP BD hv Ny;refine⟨g,c',by simp_all,h1,h2,⟨?_,λx hx _=>?_,?_,?_,?_⟩,h3⟩
 .have:=AX.size;grind[size_alloc]
 .exact(AX.block x (by rw[size_alloc];omega) λe=>by have:=Aa e;grind).trans (J8 _ hx)
 .exact AX.tape
 .exact AX.os
 .exact AX.output
end
def J03x(v:JJ)(w:JE):(Instr.typeAssert (.iface 186 v) 128 186 false).run prog w=.ok v w:=by unfold Instr.typeAssert;simp[go_sem]
def J03y(v:JJ)(w:JE):(Instr.typeAssert (.iface 189 v) 128 189 false).run prog w=.ok v w:=by unfold Instr.typeAssert;simp[go_sem]
def J03z(v:JJ)(w:JE):(Instr.typeAssert (.iface 192 v) 128 192 false).run prog w=.ok v w:=by unfold Instr.typeAssert;simp[go_sem]
structure DV(fr:Bool)(w:JE)(b r cap:Nat)(bits:Int)(rs:JD):Prop where
 hd:Blk fr w b #[JK bits,JM r rs.length cap] 188
 row:Row fr w r 5 .u8 rs cap
def Tch.bW{N:Nat}{M:JB}{w w':JE}(h:Tch N M w.drew w'):Tch N M w w':=⟨h.size,h.heap,h.tape,h.os,h.output⟩
def Jso{w w':JE}{g c':Nat}{bits:Int}{rs:JD}(hg:w.heap.size<=g)(Aj:Row false w' g 5 .u8 rs c')(ht:Tch w.heap.size M0 w w') :
  ∃b' r' c2,Ending.returned (Value.iface 186 (JL w'.heap.size))=.returned (.iface 186 (JL b'))/\w.heap.size<=b'/\w.heap.size<=r'/\b'≠r'/\DV false (w'.alloc (.cells #[JK bits,JM g rs.length c'] 188)) b' r' c2 bits rs/\Tch w.heap.size M0 w (w'.alloc (.cells #[JK bits,JM g rs.length c'] 188)):=
 ⟨_,g,c',rfl,ht.size,hg,by have:=Aj.lt;omega,⟨⟨(0,0),Ja _,λ_=>rfl⟩,Aj.kept (J8 _ Aj.lt)⟩,ht.alloc ht.size _⟩
section
variable{fr:Bool}{w w':JE}{b r cap:Nat}{bits:Int}{rs:JD}
def DV.kept(h:DV fr w b r cap bits rs)(h1:w'.heap[b]?=w.heap[b]?)(h2:w'.heap[r]?=w.heap[r]?):DV fr w' b r cap bits rs:=⟨h.hd.kept h1,h.row.kept h2⟩
def DV.c0(h:DV fr w b r cap bits rs):w.cell? ⟨b,0,none⟩=some (JK bits):=(h.hd.cell 0).trans rfl
def DV.c1(h:DV fr w b r cap bits rs):w.cell? ⟨b,1,none⟩=some (JM r rs.length cap):=(h.hd.cell 1).trans rfl
def Jxl(h:DV fr w b r cap bits rs)(hn:rs.length<=1000) :
  Calls prog 249 #[JL b] w λe w'=>∃b' r' c',e=.returned (.iface 186 (JL b'))/\w.heap.size<=b'/\w.heap.size<=r'/\b'≠r'/\DV false w' b' r' c' bits rs/\Tch w.heap.size M0 w w':=by
 have c0:=h.c0;have c1:=h.c1;have BA:=Jzv (w:=w.drew) (h.row.kept rfl) (by omega) cap;have hb:=h.hd.lt;have hr:=h.row.lt
 go_enter func249,ntmps249
 go_wp2
 go_region_with (go_at_call 253;refine BA.mono ?_;rintro e w' ⟨g,c',rfl,hg,Aj,ht,_⟩;have d0:=(ht.cell (a:=⟨b,0,none⟩) hb (λx=>x)).trans c0;have d1:=(ht.cell (a:=⟨b,1,none⟩) hb (λx=>x)).trans c1)
 all_goals go_wp2
 all_goals go_ret
 all_goals exact Jso hg Aj ht.bW
end
section
variable{fr:Bool}{w w':JE}{b r cap:Nat}{bits:Int}{rs:JD}
def J69{f t1 t2 tl:Nat}{k1 k2:IntKind}(hc:(f=254/\t1=5/\k1=.u8/\tl=36/\t2=110/\k2=.u64)\/(f=260/\t1=3/\k1=.i64/\tl=36/\t2=110/\k2=.u64)\/(f=72/\t1=110/\k1=.u64/\tl=24/\t2=3/\k2=.i64))(h:Row fr w r t1 k1 rs cap)(hn:rs.length<=1000)(h0:0<rs.length)(hr:∀x∈rs,0<=x/\x<=9223372036854775807) :
  Calls prog f #[JM r rs.length cap] w λe w'=>∃g c',e=.returned (JM g rs.length c')/\w.heap.size<=g/\Row false w' g t2 k2 rs c'/\Tch w.heap.size M0 w w':=by
 have X7:=mkRow tl t2 k2 8 (by rcases hc with⟨_,_,_,rfl,rfl,_⟩|⟨_,_,_,rfl,rfl,_⟩|⟨_,_,_,rfl,rfl,_⟩<;>first|exact underlying36|exact underlying24) (by rcases hc with⟨_,_,_,_,rfl,rfl⟩|⟨_,_,_,_,rfl,rfl⟩|⟨_,_,_,_,rfl,rfl⟩<;>first|exact Wh|exact info3) (by omega) rs.length (by omega) w;have FI:=nR w t2 k2 rs.length;have MI:=h.kept (w':=w.alloc (.cells (Array.replicate rs.length (.int k2 0)) t2)) (J8 _ h.lt);have Bf:Tch w.heap.size M0 w (w.alloc (.cells (Array.replicate rs.length (.int k2 0)) t2)):=Tch.refl.alloc (Ad _) _;have XI:=h.lt;generalize KO:rs.length=n at *;generalize w.alloc (.cells (Array.replicate n (.int k2 0)) t2)=w0 at *;clear h;obtain⟨A,hA⟩:∃A:JE->JD->Prop,A=λwr l=>Row false wr w.heap.size t2 k2 l n:=⟨_,rfl⟩;obtain⟨B,hB⟩:∃B:JE->Prop,B=λwr=>Row fr wr r t1 k1 rs cap:=⟨_,rfl⟩;rcases hc with⟨rfl,rfl,rfl,rfl,rfl,rfl⟩|⟨rfl,rfl,rfl,rfl,rfl,rfl⟩|⟨rfl,rfl,rfl,rfl,rfl,rfl⟩
 all_goals
  first|go_enter func254,ntmps254|go_enter func260,ntmps260|go_enter func72,ntmps72
  go_wp2
  go_loopw [11] (λi wr=>∃k:Nat,k<=n/\i=JK k/\A wr (F8 rs (List.replicate n 0) k)/\B wr/\Tch w.heap.size M0 w wr) (λi _=>n-(RowKit.intOf i).toNat)
  case atStart=>exact⟨0,by omega,rfl,by rw[hA,ZY];exact FI,by rw[hB];exact MI,Bf⟩
  case round=>
   obtain⟨k,hk,rfl,hd,hs,ht⟩:=hrel;rw[hA]at hd;rw[hB]at hs;clear FI MI Bf X7;have Eu:rs.length=(List.replicate n (0:Int)).length:=by grind
   rcases BF k n with Ac|Et
   .have g1:=hs.cell (i:=k) (KO.symm▸Ac);have g2:=hd.cell (i:=k) (by grind[Rw,List.length_replicate]);have g3:=hd.frozen k;have CS:(k:Int)<n:=by omega
    have hx:=hr (rs.getD k 0) (by grind);generalize MN:rs.getD k 0=x at *;have V9:IntKind.u64.wrap x=x:=by rw[IntKind.wrap_u64];omega
    have J05r:IntKind.i64.wrap x=x:=by rw[IntKind.wrap_i64];omega
    have J06a:wrap64 x=x:=by unfold wrap64;omega
    have kL:r≠w.heap.size:=by omega
    have hp:(F8 rs (List.replicate n 0) k).set k x=F8 rs (List.replicate n 0) (k+1):=aB Eu (by grind) MN.symm;go_wp2;exact⟨⟨k+1,by omega,by go_num,by rw[hA];exact hp▸hd.set k x,by rw[hB];exact hs.kept (Jm _ _ kL),ht.set (.inl (Ad _)) _⟩,by simp[RowKit.intOf];omega⟩
   .have EC:¬((k:Int)<n):=by omega
    obtain rfl:k=n:=by omega
    have Y6:¬((k:Int)<k):=by omega
    go_wp2;go_ret;rw[aA KO (by simp)]at hd;exact⟨_,_,rfl,Ad _,hd,ht⟩
def maxL(xs ys:JD):JD:=xs.zipWith max ys
def Jbx{xs ys:JD}(h:xs.length=ys.length):(maxL xs ys).length=xs.length:=by simp[maxL,h]
def Jsq{xs ys:JD}(h:xs.length=ys.length){k:Nat}(hk:k<xs.length):(maxL xs ys).getD k 0=max (xs.getD k 0) (ys.getD k 0):=by simp[maxL,C9,List.getElem?_zipWith,hk,show k<ys.length by omega]
def Jsr{b2 r2 Q8:Nat}{ys:JD}{Jwh:Int}(h:DV false w b r cap bits rs)(h2:DV fr w b2 r2 Q8 Jwh ys)(hl:rs.length=ys.length)(hn:rs.length<=1000)(OH:b≠r)(Dk:b2≠r)(BM:r2≠r) :
  Calls prog 250 #[JL b,.iface 186 (JL b2)] w λe w'=>(∃v,e=.returned v)/\DV false w' b r cap bits (maxL rs ys)/\Tch w.heap.size (λx=>x=r) w w':=by
 have d0:=h2.c0;have d1:=h2.c1;have hta:=J03x (JL b2) w;generalize KO:ys.length=n at *
 go_enter func250,ntmps250
 go_wp2
 go_loopw [12] (λi wr=>∃k:Nat,k<=n/\i=JK k/\DV false wr b r cap bits (F8 (maxL rs ys) rs k)/\DV fr wr b2 r2 Q8 Jwh ys/\Tch w.heap.size (λx=>x=r) w wr) (λi _=>n-(RowKit.intOf i).toNat)
 case atStart=>exact⟨0,by omega,rfl,by rw[ZY];exact h,h2,.refl⟩
 case round=>
  obtain⟨k,hk,rfl,hd,hs,ht⟩:=hrel;clear d0 d1;have LG:(maxL rs ys).length=rs.length:=Jbx (by omega);rcases BF k n with Ac|Et
  .have e1:=hd.c1;rw[Rw LG]at e1;rw[hl]at e1;have g1:=hs.row.cell (i:=k) (KO.symm▸Ac);have g2:=hd.row.cell (i:=k) (by grind[Rw]);rw[Jgj LG (by omega)]at g2;have g3:=hd.row.frozen k;have CS:(k:Int)<n:=by omega
   have hm:=Jsq (xs:=rs) (ys:=ys) (by omega) (k:=k) (by omega);have hp:∀v,v=(maxL rs ys).getD k 0->(F8 (maxL rs ys) rs k).set k v=F8 (maxL rs ys) rs (k+1):=λv hv=>aB LG (by omega) hv;generalize rs.getD k 0=x at *;generalize ys.getD k 0=y at *;go_wp2
   go_region
   all_goals go_wp2
   refine⟨⟨k+1,by omega,by go_num,⟨?_,?_⟩,hs.kept (Jm _ _ Dk) (Jm _ _ BM),(ht.set (.inr rfl) _).drew⟩,by simp[RowKit.intOf];omega⟩
   .have:=hd.hd.kept (w':=(wr.setCell ⟨r,k,none⟩ (.int .u8 (max x y))).drew) (Jm _ _ OH)
    grind
   .have:=hd.row.set k (max x y);rw[hp _ hm.symm]at this;exact this.kept rfl
  .have EC:¬((k:Int)<n):=by omega
   obtain rfl:k=n:=by omega
   have Y6:¬((k:Int)<k):=by omega
   go_wp2;go_end0;rw[aA (by omega) hl]at hd
   grind
end
structure EZ(fr:Bool)(w:JE)(b r cap:Nat)(ba:JI)(nb cb:Nat)(rs:JD):Prop where
 hd:Blk fr w b #[.slice ba nb cb,JM r rs.length cap] 191
 row:Row fr w r 3 .i64 rs cap
def Jph{w w':JE}{g c':Nat}{ba:JI}{nb cb:Nat}{rs:JD}(hg:w.heap.size<=g)(Aj:Row false w' g 3 .i64 rs c')(ht:Tch w.heap.size M0 w w') :
  ∃b' r' c2,Ending.returned (Value.iface 189 (JL w'.heap.size))=.returned (.iface 189 (JL b'))/\w.heap.size<=b'/\w.heap.size<=r'/\b'≠r'/\EZ false (w'.alloc (.cells #[.slice ba nb cb,JM g rs.length c'] 191)) b' r' c2 ba nb cb rs/\Tch w.heap.size M0 w (w'.alloc (.cells #[.slice ba nb cb,JM g rs.length c'] 191)):=
 ⟨_,g,c',rfl,ht.size,hg,by have:=Aj.lt;omega,⟨⟨(0,0),Ja _,λ_=>rfl⟩,Aj.kept (J8 _ Aj.lt)⟩,ht.alloc ht.size _⟩
section
variable{fr:Bool}{w w':JE}{b r cap:Nat}{ba:JI}{nb cb:Nat}{rs:JD}
def EZ.kept(h:EZ fr w b r cap ba nb cb rs)(h1:w'.heap[b]?=w.heap[b]?)(h2:w'.heap[r]?=w.heap[r]?):EZ fr w' b r cap ba nb cb rs:=⟨h.hd.kept h1,h.row.kept h2⟩
def EZ.c0(h:EZ fr w b r cap ba nb cb rs):w.cell? ⟨b,0,none⟩=some (.slice ba nb cb):=(h.hd.cell 0).trans rfl
def EZ.c1(h:EZ fr w b r cap ba nb cb rs):w.cell? ⟨b,1,none⟩=some (JM r rs.length cap):=(h.hd.cell 1).trans rfl
def Jss(h:EZ fr w b r cap ba nb cb rs)(hn:rs.length<=1000) :
  Calls prog 256 #[JL b] w λe w'=>∃b' r' c',e=.returned (.iface 189 (JL b'))/\w.heap.size<=b'/\w.heap.size<=r'/\b'≠r'/\EZ false w' b' r' c' ba nb cb rs/\Tch w.heap.size M0 w w':=by
 have c0:=h.c0;have c1:=h.c1;have BA:=Jih (w:=w.drew) (h.row.kept rfl) (by omega) cap;have hb:=h.hd.lt;have hr:=h.row.lt
 go_enter func256,ntmps256
 go_wp2
 go_region_with (go_at_call 111;refine BA.mono ?_;rintro e w' ⟨g,c',rfl,hg,Aj,ht,_⟩;have d0:=(ht.cell (a:=⟨b,0,none⟩) hb (λx=>x)).trans c0;have d1:=(ht.cell (a:=⟨b,1,none⟩) hb (λx=>x)).trans c1)
 all_goals go_wp2
 all_goals go_ret
 all_goals exact Jph hg Aj ht.bW
end
section
variable{fr:Bool}{w w':JE}{b r cap:Nat}{ba:JI}{nb cb:Nat}{rs:JD}
def Eo(xs ys:JD):JD:=xs.zipWith (λx y=>wrap64 (x+y)) ys
def Jby{xs ys:JD}(h:xs.length=ys.length):(Eo xs ys).length=xs.length:=by simp[Eo,h]
def Jsu{xs ys:JD}(h:xs.length=ys.length){k:Nat}(hk:k<xs.length):(Eo xs ys).getD k 0=wrap64 (xs.getD k 0+ys.getD k 0):=by simp[Eo,C9,List.getElem?_zipWith,hk,show k<ys.length by omega]
def Jpi{b2 r2 Q8:Nat}{ys:JD}{ba2:JI}{nb2 cb2:Nat}(h:EZ false w b r cap ba nb cb rs)(h2:EZ fr w b2 r2 Q8 ba2 nb2 cb2 ys)(hl:rs.length=ys.length)(hn:rs.length<=1000)(OH:b≠r)(Dk:b2≠r)(BM:r2≠r) :
  Calls prog 257 #[JL b,.iface 189 (JL b2)] w λe w'=>(∃v,e=.returned v)/\EZ false w' b r cap ba nb cb (Eo rs ys)/\Tch w.heap.size (λx=>x=r) w w':=by
 have d0:=h2.c0;have d1:=h2.c1;have hta:=J03y (JL b2) w;generalize KO:ys.length=n at *
 go_enter func257,ntmps257
 go_wp2
 go_loopw [12] (λi wr=>∃k:Nat,k<=n/\i=JK k/\EZ false wr b r cap ba nb cb (F8 (Eo rs ys) rs k)/\EZ fr wr b2 r2 Q8 ba2 nb2 cb2 ys/\Tch w.heap.size (λx=>x=r) w wr) (λi _=>n-(RowKit.intOf i).toNat)
 case atStart=>exact⟨0,by omega,rfl,by rw[ZY];exact h,h2,.refl⟩
 case round=>
  obtain⟨k,hk,rfl,hd,hs,ht⟩:=hrel;clear d0 d1;have LG:(Eo rs ys).length=rs.length:=Jby (by omega);rcases BF k n with Ac|Et
  .have e1:=hd.c1;rw[Rw LG]at e1;rw[hl]at e1;have g1:=hs.row.cell (i:=k) (KO.symm▸Ac);have g2:=hd.row.cell (i:=k) (by grind[Rw]);rw[Jgj LG (by omega)]at g2;have g3:=hd.row.frozen k;have CS:(k:Int)<n:=by omega
   have hm:=Jsu (xs:=rs) (ys:=ys) (by omega) (k:=k) (by omega);have hp:∀v,v=(Eo rs ys).getD k 0->(F8 (Eo rs ys) rs k).set k v=F8 (Eo rs ys) rs (k+1):=λv hv=>aB LG (by omega) hv;generalize rs.getD k 0=x at *;generalize ys.getD k 0=y at *;go_wp2;refine⟨⟨k+1,by omega,by go_num,⟨?_,?_⟩,hs.kept (Jm _ _ Dk) (Jm _ _ BM),ht.set (.inr rfl) _⟩,by simp[RowKit.intOf];omega⟩
   .have:=hd.hd.kept (w':=wr.setCell ⟨r,k,none⟩ (JK (wrap64 (x+y)))) (Jm _ _ OH)
    grind
   .have:=hd.row.set k (wrap64 (x+y))
    grind
  .have EC:¬((k:Int)<n):=by omega
   obtain rfl:k=n:=by omega
   have Y6:¬((k:Int)<k):=by omega
   go_wp2;go_end0;rw[aA (by omega) hl]at hd
   grind
end
def aH(x:Int)(w:JE):Calls prog 268 #[.int .u64 x] w λe w'=>e=.returned (.bool false)/\w'=w:=by
 go_enter func268,ntmps268
 go_wp2;go_ret
 simp_all
def Jsv(x:Int)(w:JE):Calls prog 224 #[.int .u64 x] w λe w'=>e=.returned (.bool false)/\w'=w:=by
 go_enter func224,ntmps224
 go_wp2;go_ret
 simp_all
def aO(x y:Int)(w:JE):Calls prog 223 #[.int .u64 x,.int .u64 y] w λe w'=>e=.returned (.bool (decide (x<y)))/\w'=w:=by
 go_enter func223,ntmps223
 go_wp2_with (go_at_call 224;refine(Jsv _ _).mono ?_;rintro e w' ⟨rfl,rfl⟩)
 go_ret
 simp_all
section
variable{fr:Bool}{w:JE}{r cap:Nat}{ls:JD}
def Jii(h:Row fr w r 110 .u64 ls cap)(hn:ls.length<=1000)(hs:ls.Pairwise (·<=·))(x:Int)(c:Nat) :
  Calls prog 266 #[JM r ls.length c,.int .u64 x] w λe w'=>e=.returned (.tuple #[JK (ls.countP (· < x):Nat),.bool (decide (x∈ls))])/\w'=w:=by
 have S:Hid (∀a b,a<=b->b<ls.length->ls.getD a 0<=ls.getD b 0):=Lib.sorted_at ls ls.length (Ad _) (by grind);have hce:Hid (∀hi,hi<=ls.length->(∀t,t<hi->ls.getD t 0<x)->(∀t,hi<=t->t<ls.length->x<=ls.getD t 0)->ls.countP (· < x)=hi/\decide (x∈ls)=decide (hi<ls.length/\ls.getD hi 0=x)):=λhi h1 h2 h3=>by
  have:=Lib.search_end ls ls.length hi x (Ad _) h1 h2 h3 S.out
  grind
 have hc:Hid (∀j,j<ls.length->w.cell? ⟨r,j,none⟩=some (.int .u64 (ls.getD j 0))):=λj hj=>h.cell hj;clear h hs;generalize KO:ls.length=n at *
 go_enter func266,ntmps266
 go_wp2
 go_loop [7,8] (λs7 s8=>∃lo hi:Nat,s7=JK lo/\s8=JK hi/\lo<=hi/\hi<=n/\Hid ((∀t,t<lo->ls.getD t 0<x)/\(∀t,hi<=t->t<n->x<=ls.getD t 0))) (λa b=>(RowKit.intOf b-RowKit.intOf a).toNat)
 case atStart=>exact⟨0,n,rfl,rfl,Nat.zero_le _,Ad _,λt ht=>absurd ht (Nat.not_lt_zero _),λt h1 h2=>by omega⟩
 case round=>
  obtain⟨lo,hi,rfl,rfl,hlh,hin,I⟩:=hrel;by_cases Ac:lo<hi
  .have cm:=hc.out ((lo+hi) / 2) (by omega);generalize hy:ls.getD ((lo+hi) / 2) 0=y at cm;have Y:Hid (ls.getD ((lo+hi) / 2) 0=y):=hy;clear hy hc;have CS:(lo:Int)<hi:=by omega
   by_cases hyx:y<x
   .go_wp2_with (first|(go_at_call 223;refine(aO _ _ _).mono ?_;rintro e w' ⟨rfl,rfl⟩)|(go_at_call 268;refine(aH _ _).mono ?_;rintro e w' ⟨rfl,rfl⟩))
    refine⟨⟨(lo+hi) / 2+1,hi,?_,rfl,by omega,hin,λt ht=>?_,I.out.2⟩,?_⟩
    .grind
    .have:=S.out t ((lo+hi) / 2) (by omega) (by omega);rw[Y.out]at this;omega
    .simp[RowKit.intOf];omega
   .go_wp2_with (first|(go_at_call 223;refine(aO _ _ _).mono ?_;rintro e w' ⟨rfl,rfl⟩)|(go_at_call 268;refine(aH _ _).mono ?_;rintro e w' ⟨rfl,rfl⟩))
    refine⟨⟨lo,(lo+hi) / 2,rfl,?_,by omega,by omega,I.out.1,λt ht htn=>?_⟩,?_⟩
    .grind
    .have:=S.out ((lo+hi) / 2) t ht htn;rw[Y.out]at this;omega
    .simp[RowKit.intOf];omega
  .obtain rfl:hi=lo:=by omega
   have E:Hid (ls.countP (· < x)=hi/\decide (x∈ls)=decide (hi<n/\ls.getD hi 0=x)):=hce.out hi hin I.out.1 I.out.2;clear hce;have jA:¬((hi:Int)<hi):=by omega
   by_cases hn:hi<n
   .have cl:=hc.out hi hn;have CS:(hi:Int)<n:=by omega
    clear hc;generalize hy:ls.getD hi 0=y at cl;have Y:Hid (ls.getD hi 0=y):=hy;clear hy;by_cases hyx:y=x
    .go_wp2_with (first|(go_at_call 223;refine(aO _ _ _).mono ?_;rintro e w' ⟨rfl,rfl⟩)|(go_at_call 268;refine(aH _ _).mono ?_;rintro e w' ⟨rfl,rfl⟩))
     go_ret2
     refine⟨?_,rfl⟩;rw[E.out.1,E.out.2,Y.out,decide_eq_true (show hi<n/\y=x from⟨hn,hyx⟩)]
     simp_all
    .go_wp2_with (first|(go_at_call 223;refine(aO _ _ _).mono ?_;rintro e w' ⟨rfl,rfl⟩)|(go_at_call 268;refine(aH _ _).mono ?_;rintro e w' ⟨rfl,rfl⟩))
     go_ret2
     refine⟨?_,rfl⟩;rw[E.out.1,E.out.2,Y.out,decide_eq_false (show¬(hi<n/\y=x) fromλh=>hyx h.2)]
     simp_all
   .have EC:¬((hi:Int)<n):=by omega
    clear hc
    go_wp2_with (first|(go_at_call 223;refine(aO _ _ _).mono ?_;rintro e w' ⟨rfl,rfl⟩)|(go_at_call 268;refine(aH _ _).mono ?_;rintro e w' ⟨rfl,rfl⟩))
    go_ret2
    refine⟨?_,rfl⟩;rw[E.out.1,E.out.2,decide_eq_false (show¬(hi<n/\ls.getD hi 0=x) fromλh=>hn h.1)]
    simp_all
end
open Go.Shelf
def Blk.setCells{b:Nat}{t:JH}:∀{vs:List JJ}{o:Nat}{w:JE}{arr:JC},Blk false w b arr t->o+vs.length<=arr.size ->
  ∃Dj,Blk false (w.setCells b o vs) b Dj t/\Dj.size=arr.size/\∀i,Dj[i]?=if o<=i/\i<o+vs.length then vs[i-o]? else arr[i]?
 |[],o,w,arr,h,_=>⟨arr,h,rfl,λi=>by grind⟩
 |v::r,o,w,arr,h,hs=>by
  simp only[Lh]at hs;obtain⟨Dj,h1,h2,h3⟩:=Blk.setCells (vs:=r) (o:=o+1) (h.set o v) (by simp;omega);refine⟨Dj,h1,by grind,λi=>?_⟩
  grind
def Tch.setCells{N:Nat}{M:JB}{b:Nat}(hb:N<=b\/M b):∀{vs:List JJ}{o:Nat}{w w1:JE},Tch N M w w1->Tch N M w (w1.setCells b o vs)
 |[],_,_,_,h=>h
 |v::r,o,w,w1,h=>Tch.setCells (vs:=r) hb (h.set hb v)
def Plain.tZ{arr Dj:JC}{vs:List JJ}{o:Nat}(h:Plain arr)(hv:∀v∈vs,IsInt v)(hg:∀i,Dj[i]?=if o<=i/\i<o+vs.length then vs[i-o]? else arr[i]?):Plain Dj:=.TA λi v hi=>by
 rw[hg]at hi;split at hi
 .grind
 .exact h.at hi
def nJ{k:IntKind}{xs:JD}:∀v∈xs.map (Value.int k),IsInt v:=λv hv=>by obtain⟨x,_,rfl⟩:=AZ.1 hv;exact⟨_,_,rfl⟩
def aP{k:IntKind}{x:Int}:∀v∈[Value.int k x],IsInt v:=λv hv=>by obtain rfl:=List.mem_singleton.1 hv;exact⟨_,_,rfl⟩
def insL(i:Nat)(x:Int)(ls:JD):JD:=ls.take i++x::ls.drop i
theorem J7h{i:Nat}{x:Int}{ls:JD}(h:i<=ls.length):(insL i x ls).length=ls.length+1:=by simp[insL];omega
def Jij{i:Nat}{x:Int}{ls:JD}(h:i<=ls.length)(j:Nat):(insL i x ls)[j]?=if j<i then ls[j]? else if j=i then some x else ls[j-1]?:=by
 unfold insL
 grind
def Row.TA{w:JE}{b cap:Nat}{t:JH}{k:IntKind}{xs:JD}{arr:JC}(h:Blk false w b arr t)(hs:arr.size=cap)(hl:xs.length<=cap)(hg:∀j,j<xs.length->arr[j]?=(xs[j]?).map (Value.int k))(hp:Plain arr):Row false w b t k xs cap:=
 ⟨arr,h,hs,hl,λj hj=>by grind,hp⟩
def Tv(w:JE)(r:Nat)(ls:JD)(e:Ending)(w':JE):Prop:=
 ∃g c',e=.returned (JM g ls.length c')/\Row false w' g 110 .u64 ls c'/\c'<=maxLen/\(g=r\/w.heap.size<=g)/\Tch w.heap.size (λb=>b=r) w w'
section
variable{w:JE}{r cap vb i:Nat}{ls:JD}{x:Int}
def Jik(h:Row false w r 110 .u64 ls cap)(hc:cap<=maxLen)(hv:w.heap[vb]?=some (.cells #[.int .u64 x] 110))(Zk:vb≠r)(hi:i<ls.length)(Ip:ls.length+1<=cap)(hn:ls.length<=1000) :
  Calls prog 267 #[JM r ls.length cap,JK i,JM vb 1 1] w (Tv w r (insL i x ls)):=by
 obtain⟨cur,hb,FH,_,Ht,Uu⟩:=h;have hc63:cap<=9223372036854775807:=by unfold maxLen at hc;omega
 generalize xX:ls.length=n at *;have mixed:prog.follows .mixedOrders=true:=by kernel_rfl
 have DR:¬((i:Int)=(n:Int)):=by omega
 have Ag:(prog.info? 110).map (·.size)=some 1:=by kernel_rfl
 have hvc:w.cell? ⟨vb,0,none⟩=some (.int .u64 x):=(cell_of hv 0).trans rfl;have Aq:∀j,j<n->w.cell? ⟨r,j,none⟩=some (.int .u64 (ls.getD j 0)):=λj hj=>(hb.cell j).trans (Ht j hj);have Qc:∀j,j<n+1->(w.cell? ⟨r,j,none⟩).isSome=true:=λj hj=>by rw[hb.cell,Bz (by omega)];rfl
 have iI:∀j,w.frozen? ⟨r,j,none⟩=false:=λj=>hb.frozen _;have hov:∀lb cb,(callFunc 269 #[JM vb 1 1,.slice (some ⟨r,i+1,none⟩) lb cb]).run prog w=.ok (.value (.bool false)) w:=λlb cb=>by
  have XL:w.shape? r=some (110,cur.size):=by obtain⟨z,hz,_⟩:=hb;simp[World.shape?,hz]
  rw[run_callFunc_extern func269 (by kernel_rfl) (by kernel_rfl) (by kernel_rfl) (e:=Extern.SlicesOverlaps.overlaps #[36,36] #[4]) (by kernel_rfl),
   Lib.run_overlaps_apart w 36 4 110 underlying36 1 sizeOf110 ⟨vb,0,none⟩ ⟨r,i+1,none⟩ 1 1 lb cb Zk 110 110 1 cur.size (by simp[World.shape?,hv]) XL (by omega) (FZ hv 0) (FZ hv 1)]
  rfl
 have SQ:((ls.map (Value.int .u64)).drop i).length=n-i:=by simp[xX]
 have FX:∀ty dc sc,(Builtin.copy_ #[36,36] ty #[.slice (some ⟨r,i+1,none⟩) (n-i) dc,.slice (some ⟨r,i,none⟩) (n+1-i) sc]).run prog w.drew=.ok (goInt ((ls.map (Value.int .u64)).drop i).length) (w.drew.setCells r (i+1) ((ls.map (Value.int .u64)).drop i)):=λty dc sc=>
  run_copy_cells w.drew _ _ ty 110 r (i+1) (n-i) dc ⟨r,i,none⟩ (n+1-i) sc ((ls.map (Value.int .u64)).drop i) underlying36 Ag (by grind)
   (λj v hj=>by
    rw[List.getElem?_drop,List.getElem?_map,Fh]at hj;obtain⟨y,hy,rfl⟩:=hj;have Ac:=(List.getElem?_eq_some_iff.1 hy).1
    simp_all[Addr.add_lit,C9])
   (λj hj=>Qc _ (by grind)) (λj hj=>iI _) (λv hv=>by obtain⟨y,_,rfl⟩:=AZ.1 (List.mem_of_mem_drop hv);rfl)
 obtain⟨W1,AP⟩:∃W1,W1=w.drew.setCells r (i+1) ((ls.map (Value.int .u64)).drop i):=⟨_,rfl⟩;have kN:∀k,k<n+1->(W1.cell? ⟨r,k,none⟩).isSome=true:=λk hk=>by rw[AP];exact isSome_setCells r ((ls.map (Value.int .u64)).drop i) (i+1) w.drew (λj(hj:j<((ls.map (Value.int .u64)).drop i).length)=>Qc _ (by grind)) _ (Qc k hk)
 have FY:∀(W:JE),(∀x,W.cell? x=W1.cell? x)->(∀x,W.frozen? x=W1.frozen? x)->∀ty dc,(Builtin.copy_ #[36,36] ty #[.slice (some ⟨r,i,none⟩) (n+1-i) dc,JM vb 1 1]).run prog W=.ok (goInt [Value.int .u64 x].length) (W.setCells r i [.int .u64 x]):=λW Vs gK ty dc=>
  run_copy_cells W _ _ ty 110 r i (n+1-i) dc ⟨vb,0,none⟩ 1 1 [.int .u64 x] underlying36 Ag (by grind)
   (λj v hj=>by
    have:j=0/\v=.int .u64 x:=by
     grind
    obtain⟨rfl,rfl⟩:=this
    simp_all[Addr.add_lit,World.cell?_setCells_out])
   (λj hj=>by grind) (λj hj=>by simp_all[World.frozen?_setCells]) (by simp[Value.oneCell'])
 rw[<- AP]at FX;have BQ:IntKind.i64.wrap ((i:Int)+1)=(i:Int)+1:=by rw[IntKind.wrap_i64];omega
 have FD:(0:Int)<=(i:Int)+1:=by omega
 have hin:i<=n:=by omega
 have htn:((i:Int)+1).toNat=i+1:=by omega
 have Dk:¬(cap=i+1):=by omega
 have Gs:(i:Int)<=(n:Int)+1:=by omega
 have SK:¬(cap=i):=by omega
 have BH:Tv w r (insL i x ls) (.returned (JM r (n+1) cap)) (W1.setCells r i [.int .u64 x]):=by
  have OG:Blk false w.drew r cur 110:=hb.kept rfl;obtain⟨a1,b1,s1,g1⟩:=OG.setCells (vs:=(ls.map (Value.int .u64)).drop i) (o:=i+1) (by grind);rw[<- AP]at b1;obtain⟨a2,b2,s2,g2⟩:=b1.setCells (vs:=[.int .u64 x]) (o:=i) (by simp;omega);have OL:(insL i x ls).length=n+1:=by grind[J7h]
  refine⟨r,cap,by rw[OL],Row.TA b2 (by omega) (by omega) (λj hj=>?_) (Plain.tZ (Plain.tZ Uu (λv hv=>nJ v (List.mem_of_mem_drop hv)) g1) aP g2),hc,.inl rfl,?_⟩
  .rw[Jij (by omega),g2,g1,SQ];rw[OL]at hj;simp only[List.length_singleton];by_cases h1:j<i
   .grind
   .by_cases h2:j=i
    .grind
    .rw[if_neg (by omega),if_pos (by omega),if_neg h1,if_neg h2,List.getElem?_drop,List.getElem?_map,show i+(j-(i+1))=j-1 by omega]
  .rw[AP];exact Tch.setCells (M:=λb=>b=r) (.inr rfl) (Tch.setCells (M:=λb=>b=r) (.inr rfl) (Tch.refl.drew))
 clear Aq Qc iI Ht hb kN hvc hv AP
 go_enter func267,ntmps267
 go_wp2_with (simp only[hov])
 go_region_law_o (refine step_copy_runI rfl _ _ 36 36 rfl _ _ (by simp[Act.eval,Act.put]) (by simp[Act.eval,Act.put]) (FX _ _ _) ?_)
 go_wp2_with (at_builtin;refine wpList_copy_runI _ rfl _ _ 37 37 rfl _ _ rfl rfl (FY _ (λ_=>rfl) (λ_=>rfl) _ _) ?_)
 go_ret;exact BH
def Jil{w:JE}{vb:Nat}{x:Int}{t:JH}(hv:w.heap[vb]?=some (.cells #[.int .u64 x] t)):∀j u,([.int .u64 x]:List JJ)[j]?=some u->w.cell? ((⟨vb,0,none⟩:Addr).add j)=some u:=by
 intro j u hj;cases j with
 |zero=>
  simp at hj;subst hj;rw[Addr.add_lit];exact(cell_of hv 0).trans rfl
 |succ j=>simp at hj
def Jsw(x:Int)(ls:JD):insL ls.length x ls=ls++[x]:=by simp[insL]
def insert_nil(hv:w.heap[vb]?=some (.cells #[.int .u64 x] 110)) :
  Calls prog 267 #[.slice none 0 0,JK 0,JM vb 1 1] w (Tv w r [x]):=by
 obtain⟨i0,hi,EY,DJ,DR⟩:=info_parts Wh;have SI:(Builtin.append_ #[36,36] 36 #[.slice none 0 0,JM vb 1 1]).run prog w=_:=
  run_append_nil (w:=w) 36 36 110 i0 _ underlying36 hi EY ⟨vb,0,none⟩ 1 1 [.int .u64 x] (by rw[DJ];rfl) (Jil hv) (by omega) (by omega) (by grind)
 have Et:=grownCap_ge w 1 0 110;have hle:=grownCap_le_maxLen w 1 0 110 (by decide);generalize grownCap w 1 0 110=G at *;have BH:Tv w r [x] (.returned (JM w.heap.size 1 G)) (w.drew.alloc (.cells ([Value.int .u64 x].toArray++Builtin.zeroCells (Value.int .u64 0).cells (G-1)) 110)):=by
  refine⟨w.heap.size,G,rfl,Row.TA (xs:=[x]) ⟨(0,0),Ja _,λ_=>rfl⟩ (by simp[Builtin.zeroCells,Value.cells];omega) (by grind) (λj hj=>?_) ((Plain.list aP).append (Plain.madeCells (Plain.ai (k:=.u64) (xs:=[0])) _)),hle,.inr (Ad _),Tch.refl.drew.alloc (Ad _) _⟩
  grind
 clear hv;generalize Rf:w.drew.alloc (.cells ([Value.int .u64 x].toArray++Builtin.zeroCells (Value.int .u64 0).cells (G-1)) 110)=w' at *
 go_enter func267,ntmps267
 go_wp2_with (at_builtin;refine Lib.wpList_append_run _ rfl _ _ _ _ rfl _ _ rfl rfl _ _ SI ?_)
 go_ret;exact BH
end
def J96(b:Nat):∀(vs:List JJ)(o:Nat)(w:JE),(w.setCells b o vs).tape=w.tape/\(w.setCells b o vs).os=w.os/\(w.setCells b o vs).output=w.output
 |[],_,_=>⟨rfl,rfl,rfl⟩
 |v::r,o,w=>J96 b r (o+1) (w.setCell ⟨b,o,none⟩ v)
def J97(b:Nat):∀(vs:List JJ)(o:Nat)(w w1:JE),w.heap=w1.heap->(w.setCells b o vs).heap=(w1.setCells b o vs).heap
 |[],_,_,_,h=>h
 |v::r,o,w,w1,h=>J97 b r (o+1) _ _ (by simp only[World.setCell,h])
def Blk.setRow{w:JE}{b:Nat}{arr:JC}{t:JH}(h:Blk false w b arr t)(Dj:JC):Blk false (w.setRow b Dj) b Dj t:=by obtain⟨z,h,hz⟩:=h;cases hz rfl;refine⟨(0,0),?_,λ_=>rfl⟩;simp only[World.setRow,Array.getElem?_modify,if_true,h,Option.map_some]
def Tch.setRow{N:Nat}{M:JB}{w w1:JE}{b:Nat}(h:Tch N M w w1)(hb:N<=b\/M b)(Dj:JC):Tch N M w (w1.setRow b Dj):=
 ⟨BN h.size (by simp_all),λk hk hm=>by
  have:k≠b:=by grind
  simp only[World.setRow,Array.getElem?_modify,if_neg (Ne.symm this)];exact h.heap k hk hm,h.tape,h.os,h.output⟩
section
variable{w:JE}{r cap vb i:Nat}{ls:JD}{x:Int}
def Jmf(h:Row false w r 110 .u64 ls cap)(hc:cap<=maxLen)(hv:w.heap[vb]?=some (.cells #[.int .u64 x] 110))(hn:ls.length<=1000) :
  Calls prog 267 #[JM r ls.length cap,JK ls.length,JM vb 1 1] w (Tv w r (insL ls.length x ls)):=by
 obtain⟨cur,hb,FH,hlc,Ht,Uu⟩:=h;obtain⟨i0,hi,EY,DJ,DR⟩:=info_parts Wh;have hc63:cap<=9223372036854775807:=by unfold maxLen at hc;omega
 have QM:insL ls.length x ls=ls++[x]:=Jsw x ls;have OL:(ls++[x]).length=ls.length+1:=by simp
 rw[QM];have fin:∃v' w',(Builtin.append_ #[36,36] 36 #[JM r ls.length cap,JM vb 1 1]).run prog w=.ok v' w'/\Tv w r (ls++[x]) (.returned v') w':=by
  rcases BF cap (ls.length+1)with hgr|Ip
  .have SI:=run_append_grow (P:=prog) (w:=w) 36 36 110 i0 _ underlying36 hi EY ⟨r,0,none⟩ ls.length cap (ls.map (Value.int .u64)) (by grind) (λj v hj=>by
     rw[List.getElem?_map,Fh]at hj;obtain⟨y,hy,rfl⟩:=hj;have Ac:=(List.getElem?_eq_some_iff.1 hy).1;rw[Addr.add_lit,Nat.zero_add,hb.cell,Ht j Ac,C9,hy];rfl)
    ⟨vb,0,none⟩ 1 1 [.int .u64 x] (by rw[DJ];rfl) (Jil hv) (by omega) (by omega) (growslice_fits hgr (by grind))
   have Et:=grownCap_ge w (ls.length+1) cap 110;have hle:=grownCap_le_maxLen w (ls.length+1) cap 110 (by unfold maxLen;omega);generalize grownCap w (ls.length+1) cap 110=G at *;refine⟨_,_,SI,w.heap.size,G,by rw[OL],Row.TA ⟨(0,0),Ja _,λ_=>rfl⟩ (by simp[Builtin.zeroCells,Value.cells];omega) (by omega) (λj hj=>?_) (((Plain.list nJ).append (Plain.list aP)).append (Plain.madeCells (Plain.ai (k:=.u64) (xs:=[0])) _)),hle,.inr (Ad _),Tch.refl.drew.alloc (Ad _) _⟩
   grind
  .have hg:w.heap[r]?=some (.cells cur 110 (0,0)):=by
    obtain⟨z,hz,yK⟩:=hb
    grind
   have SI:=run_append_room (P:=prog) (w:=w) 36 36 110 i0 underlying36 hi r ls.length cap cur hg ⟨vb,0,none⟩ 1 1 [.int .u64 x] (by rw[DJ];rfl) (Jil hv) (by simp[Value.oneCell']) Ip (by grind);rw[DJ]at SI;refine⟨_,_,SI,r,cap,by rw[OL],Row.TA (hb.setRow _) (by simp;omega) (by omega) (λj hj=>?_) (Plain.list λv hv=>(Gn.1 hv).elim (λhv=>(Gn.1 hv).elim (λhv=>Uu v (List.mem_of_mem_take hv)) (aP v)) λhv=>Uu v (List.mem_of_mem_drop hv)),hc,.inl rfl,Tch.setRow (M:=λb=>b=r) Tch.refl (.inr rfl) _⟩
   grind
 obtain⟨v',w',SI,BH⟩:=fin;clear Ht hb hv QM OL;generalize ls.length=n at *
 go_enter func267,ntmps267
 go_wp2_with (at_builtin;refine Lib.wpList_append_run _ rfl _ _ _ _ rfl _ _ rfl rfl _ _ SI ?_)
 all_goals go_ret
 all_goals exact BH
def Jku(h:Row false w r 110 .u64 ls cap)(hc:cap<=maxLen)(hv:w.heap[vb]?=some (.cells #[.int .u64 x] 110))(hi:i<ls.length)(Ip:cap<ls.length+1)(hn:ls.length<=1000) :
  Calls prog 267 #[JM r ls.length cap,JK i,JM vb 1 1] w (Tv w r (insL i x ls)):=by
 obtain⟨cur,hb,FH,hlc,Ht,Uu⟩:=h;obtain⟨i0,iM,EY,XU,hzb⟩:=info_parts Wh;have mixed:prog.follows .mixedOrders=true:=by kernel_rfl
 have Nj:cap=ls.length:=by omega
 have OL:(insL i x ls).length=ls.length+1:=J7h (by omega);have hig:=Jij (i:=i) (x:=x) (ls:=ls) (by omega);generalize xX:ls.length=n at *;have Aq:∀j,j<n->w.cell? ⟨r,j,none⟩=some (.int .u64 (ls.getD j 0)):=λj hj=>(hb.cell j).trans (Ht j hj);have hvc:w.cell? ⟨vb,0,none⟩=some (.int .u64 x):=(cell_of hv 0).trans rfl;have DR:¬((i:Int)=(n:Int)):=by omega
 have hz3:(cap:Int)<(n:Int)+1:=by omega
 have Ag:(prog.info? 110).map (·.size)=some 1:=by kernel_rfl
 have hbw:r<w.heap.size:=hb.lt;have hvw:vb<w.heap.size:=Jj hv;have Zd:(n:Int)+1-(i:Int)=((n+1-i:Nat):Int):=by omega
 have hik:i+(n+1-i)=n+1:=by omega
 have hold:(Builtin.firstCells i0.size i (JM r i cap)).run prog w.drew=.ok ((ls.map (Value.int .u64)).take i).toArray w.drew:=by
  rw[XU];exact run_firstCells_some w.drew 1 i ⟨r,0,none⟩ i cap ((ls.map (Value.int .u64)).take i) (by grind) (λj v hj=>by
   rw[Addr.add_lit,Nat.zero_add];rw[List.getElem?_take]at hj;split at hj
   .rw[List.getElem?_map,Fh]at hj;obtain⟨y,hy,rfl⟩:=hj;show w.cell? ⟨r,j,none⟩=_
    grind
   .cases hj)
 have hrz:∀ty,(Builtin.append_ #[36,3] ty #[JM r i cap,JK ((n:Int)+1-(i:Int))]).run prog w=.ok (JM w.heap.size (n+1) (grownCap w (n+1) cap 110)) (w.drew.alloc (.cells (((ls.map (Value.int .u64)).take i).toArray++Builtin.zeroCells (Value.int .u64 0).cells (n+1-i)++Builtin.zeroCells (Value.int .u64 0).cells (grownCap w (n+1) cap 110-(n+1))) 110)):=λty=>by
  grind[Lib.run_append_grow_zeros,underlying36,underlying3,growslice_fits]
 have hGn:n+1<=grownCap w (n+1) cap 110:=grownCap_ge w _ _ _;have hGm:=grownCap_le_maxLen w (n+1) cap 110 (by unfold maxLen;omega);generalize grownCap w (n+1) cap 110=G at *;obtain⟨MC,QE⟩:∃MC:JC,MC=((ls.map (Value.int .u64)).take i).toArray++Builtin.zeroCells (Value.int .u64 0).cells (n+1-i)++Builtin.zeroCells (Value.int .u64 0).cells (G-(n+1)):=⟨_,rfl⟩;rw[<- QE]at hrz;have hRl:MC.size=G:=by rw[QE];simp[Builtin.zeroCells,Value.cells];omega
 have hRg:∀j,j<i->MC[j]?=some (.int .u64 (ls.getD j 0)):=λj hj=>by
  grind
 obtain⟨W1,AP⟩:∃W1,W1=w.drew.alloc (.cells MC 110):=⟨_,rfl⟩;rw[<- AP]at hrz;have hpN:Plain MC:=by rw[QE];exact((Plain.list λv hv=>nJ v (List.mem_of_mem_take hv)).append (Plain.madeCells (Plain.ai (k:=.u64) (xs:=[0])) _)).append (Plain.madeCells (Plain.ai (k:=.u64) (xs:=[0])) _)
 have xB:Blk false W1 w.heap.size MC 110:=⟨(0,0),by rw[AP];exact Ja _,λ_=>rfl⟩;have hN:∀j,j<n+1->(W1.cell? ⟨w.heap.size,j,none⟩).isSome=true:=λj hj=>by rw[xB.cell,Bz (by omega)];rfl
 have hNf:∀j,W1.frozen? ⟨w.heap.size,j,none⟩=false:=λj=>xB.frozen j;have hOb:∀j,j<n->W1.cell? ⟨r,j,none⟩=some (.int .u64 (ls.getD j 0)):=λj hj=>by rw[<- Aq j hj,AP];exact Du (w:=w) (J8 (w:=w.drew) _ hbw)
 have hOv:W1.cell? ⟨vb,0,none⟩=some (.int .u64 x):=by rw[<- hvc,AP];exact Du (w:=w) (J8 (w:=w.drew) _ hvw)
 have hrN:r≠w.heap.size:=by omega
 have SQ:((ls.map (Value.int .u64)).drop i).length=n-i:=by simp[xX]
 have hcpA:∀(W:JE),(∀x,W.cell? x=W1.cell? x)->(∀x,W.frozen? x=W1.frozen? x)->∀ty dc,(Builtin.copy_ #[36,36] ty #[.slice (some ⟨w.heap.size,i,none⟩) (n+1-i) dc,JM vb 1 1]).run prog W=.ok (goInt [Value.int .u64 x].length) (W.setCells w.heap.size i [.int .u64 x]):=λW Vs gK ty dc=>
  run_copy_cells W _ _ ty 110 w.heap.size i (n+1-i) dc ⟨vb,0,none⟩ 1 1 [.int .u64 x] underlying36 Ag (by grind)
   (λj v hj=>by
    have:j=0/\v=.int .u64 x:=by
     grind
    obtain⟨rfl,rfl⟩:=this
    grind[Addr.add_lit])
   (λj hj=>by grind) (λj hj=>by grind) (by simp[Value.oneCell'])
 have iE:∀(W:JE),(∀y,W.cell? y=(W1.setCells w.heap.size i [.int .u64 x]).cell? y)->(∀y,W.frozen? y=(W1.setCells w.heap.size i [.int .u64 x]).frozen? y)->∀ty dc sc,(Builtin.copy_ #[36,36] ty #[.slice (some ⟨w.heap.size,i+1,none⟩) (n-i) dc,.slice (some ⟨r,i,none⟩) (n-i) sc]).run prog W=.ok (goInt ((ls.map (Value.int .u64)).drop i).length) (W.setCells w.heap.size (i+1) ((ls.map (Value.int .u64)).drop i)):=λW Vs gK ty dc sc=>
  run_copy_cells W _ _ ty 110 w.heap.size (i+1) (n-i) dc ⟨r,i,none⟩ (n-i) sc ((ls.map (Value.int .u64)).drop i) underlying36 Ag (by grind)
   (λj v hj=>by
    rw[List.getElem?_drop,List.getElem?_map,Fh]at hj;obtain⟨y,hy,rfl⟩:=hj
    grind[List.getElem?_eq_some_iff,Addr.add_lit,World.cell?_setCells_out])
   (λj hj=>by grind[isSome_setCells])
   (λj hj=>by grind[World.frozen?_setCells]) (λv hv=>by obtain⟨y,_,rfl⟩:=AZ.1 (List.mem_of_mem_drop hv);rfl)
 have BH:∀W,W.heap=((W1.setCells w.heap.size i [.int .u64 x]).setCells w.heap.size (i+1) ((ls.map (Value.int .u64)).drop i)).heap->W.tape=w.tape->W.os=w.os->W.output=w.output->Tv w r (insL i x ls) (.returned (JM w.heap.size (n+1) G)) W:=by
  intro W hW e1 e2 e3;obtain⟨a1,b1,s1,g1⟩:=xB.setCells (vs:=[.int .u64 x]) (o:=i) (by simp;omega);obtain⟨a2,b2,s2,g2⟩:=b1.setCells (vs:=(ls.map (Value.int .u64)).drop i) (o:=i+1) (by grind);have ht:Tch w.heap.size (λb=>b=r) w ((W1.setCells w.heap.size i [.int .u64 x]).setCells w.heap.size (i+1) ((ls.map (Value.int .u64)).drop i)):=by rw[AP];exact Tch.setCells (.inl (Ad _)) (Tch.setCells (.inl (Ad _)) (Tch.refl.drew.alloc (Ad _) _))
  refine⟨w.heap.size,G,by rw[OL],Row.TA (b2.kept (by rw[hW])) (by omega) (by omega) (λj hj=>?_) (Plain.tZ (Plain.tZ hpN aP g1) (λv hv=>nJ v (List.mem_of_mem_drop hv)) g2),hGm,.inr (Ad _),⟨by rw[hW];exact ht.size,λb hb hm=>by rw[hW];exact ht.heap b hb hm,e1,e2,e3⟩⟩;rw[hig,g2,g1,SQ];rw[OL]at hj;simp only[List.length_singleton];by_cases h1:j<i
  .grind
  .by_cases h2:j=i
   .grind
   .rw[if_pos (by omega),if_neg h1,if_neg h2,List.getElem?_drop,List.getElem?_map,show i+(j-(i+1))=j-1 by omega]
 have hG63:G<=9223372036854775807:=by unfold maxLen at hGm;omega
 have hGi:¬(G=i):=by omega
 have hGim:¬(G=i+1):=by omega
 have hci:¬(cap=i):=by omega
 subst AP;have hE1:∀x,((w.alloc (.cells MC 110)).drew).cell? x=(w.drew.alloc (.cells MC 110)).cell? x:=λx=>rfl;have FW:∀x,((w.alloc (.cells MC 110)).drew).frozen? x=(w.drew.alloc (.cells MC 110)).frozen? x:=λx=>rfl;have iL:∀y,(((w.alloc (.cells MC 110)).drew.setCells w.heap.size i [.int .u64 x]).drew).cell? y=((w.drew.alloc (.cells MC 110)).setCells w.heap.size i [.int .u64 x]).cell? y:=λx=>rfl;have hF2:∀y,(((w.alloc (.cells MC 110)).drew.setCells w.heap.size i [.int .u64 x]).drew).frozen? y=((w.drew.alloc (.cells MC 110)).setCells w.heap.size i [.int .u64 x]).frozen? y:=λx=>rfl;have BQ:IntKind.i64.wrap ((i:Int)+1)=(i:Int)+1:=by rw[IntKind.wrap_i64];omega
 have FD:(0:Int)<=(i:Int)+1:=by omega
 have hin:i<=n:=by omega
 have htn:((i:Int)+1).toNat=i+1:=by omega
 have Gs:(i:Int)<=(n:Int):=by omega
 have hic:(i:Int)<=(cap:Int):=by omega
 clear hpN;clear Zd hik hold QE hRl Aq Ht hb hN hNf hOb hOv xB hRg hig OL hvc hv FH hlc Nj
 go_enter func267,ntmps267
 go_wp2_with (first
  |(at_builtin;refine Lib.wpList_append_run _ rfl _ _ _ _ rfl _ _ rfl rfl _ _ (hrz _) ?_)
  |(at_builtin;refine wpList_copy_runI _ rfl _ _ 37 37 rfl _ _ rfl rfl (hcpA _ hE1 FW _ _) ?_)
  |(at_builtin;refine wpList_copy_runI _ rfl _ _ 37 37 rfl _ _ rfl rfl (iE _ (λ_=>rfl) (λ_=>rfl) _ _ _) ?_))
 go_region_law_o (refine step_copy_runI rfl _ _ 36 36 rfl (.slice (some ⟨w.heap.size,i+1,none⟩) (n-i) (G-(i+1))) (.slice (some ⟨r,i,none⟩) (n-i) (cap-i)) (by simp[Act.eval,Act.put]) (by simp[Act.eval,Act.put]) (iE _ iL hF2 3 (G-(i+1)) (cap-i)) ?_)
 go_wp2;go_ret;obtain⟨q1,q2,q3⟩:=J96 w.heap.size ((ls.map (Value.int .u64)).drop i) (i+1) ((w.alloc (.cells MC 110)).drew.setCells w.heap.size i [.int .u64 x]).drew;exact BH _ (J97 _ _ _ _ _ rfl) q1 q2 q3
end
def lval(pr:Option (Nat × Nat))(ls:JD):JJ:=match pr with|none=>.slice none 0 0|some (r,c)=>.slice (some ⟨r,0,none⟩) ls.length c
def Qy(fr:Bool)(w:JE)(pr:Option (Nat × Nat))(ls:JD):Prop:=match pr with|none=>ls=[]|some (r,c)=>Row fr w r 110 .u64 ls c/\c<=maxLen
def lpl(pr:Option (Nat × Nat))(x:Nat):Prop:=∃c,pr=some (x,c)
structure Gf(fr:Bool)(w:JE)(b:Nat)(pr:Option (Nat × Nat))(K:Int)(ls:JD):Prop where
 hd:Blk fr w b #[JK K,lval pr ls] 194
 row:Qy fr w pr ls
section
variable{fr:Bool}{w w':JE}{b:Nat}{pr:Option (Nat × Nat)}{K:Int}{ls:JD}
def Qy.kept(h:Qy fr w pr ls)(hh:∀x,lpl pr x->w'.heap[x]?=w.heap[x]?):Qy fr w' pr ls:=by
 cases pr with
 |none=>exact h
 |some p=>exact⟨h.1.kept (hh p.1 ⟨p.2,rfl⟩),h.2⟩
def Qy.lt(h:Qy fr w pr ls){x:Nat}(hx:lpl pr x):x<w.heap.size:=by obtain⟨c,rfl⟩:=hx;exact h.1.lt
def Gf.kept(h:Gf fr w b pr K ls)(h1:w'.heap[b]?=w.heap[b]?)(hh:∀x,lpl pr x->w'.heap[x]?=w.heap[x]?):Gf fr w' b pr K ls:=⟨h.hd.kept h1,h.row.kept hh⟩
def Gf.c0(h:Gf fr w b pr K ls):w.cell? ⟨b,0,none⟩=some (JK K):=(h.hd.cell 0).trans rfl
def Gf.c1(h:Gf fr w b pr K ls):w.cell? ⟨b,1,none⟩=some (lval pr ls):=(h.hd.cell 1).trans rfl
def Jmg(x:Int)(w:JE):Calls prog 266 #[.slice none 0 0,.int .u64 x] w λe w'=>e=.returned (.tuple #[JK 0,.bool false])/\w'=w:=by
 go_enter func266,ntmps266
 go_wp2
 go_loop [7,8] (λs7 s8=>s7=JK 0/\s8=JK 0) (λ_ _=>0)
 case atStart=>grind
 case round=>
  obtain⟨rfl,rfl⟩:=hrel;go_wp2
  go_ret2
  simp_all
def Jmh(h:Qy fr w pr ls)(hn:ls.length<=1000)(hs:ls.Pairwise (·<=·))(x:Int) :
  Calls prog 266 #[lval pr ls,.int .u64 x] w λe w'=>e=.returned (.tuple #[JK (ls.countP (· < x):Nat),.bool (decide (x∈ls))])/\w'=w:=by
 cases pr with
 |none=>
  have:ls=[]:=h;subst this;refine(Jmg x w).mono ?_
  grind
 |some p=>exact Jii h.1 hn hs x p.2
def Jpl(w:JE)(pr:Option (Nat × Nat))(ls:JD)(e:Ending)(w':JE):Prop:=
 ∃g c',e=.returned (JM g ls.length c')/\Row false w' g 110 .u64 ls c'/\c'<=maxLen/\(lpl pr g\/w.heap.size<=g)/\Tch w.heap.size (lpl pr) w w'
def Jmi{vb i:Nat}{x:Int}(h:Qy false w pr ls)(hv:w.heap[vb]?=some (.cells #[.int .u64 x] 110))(Zk:¬lpl pr vb)(hi:i<=ls.length)(hn:ls.length<=1000) :
  Calls prog 267 #[lval pr ls,JK i,JM vb 1 1] w (Jpl w pr (insL i x ls)):=by
 cases pr with
 |none=>
  have:ls=[]:=h;subst this;have:i=0:=by grind
  subst this;refine(insert_nil (r:=w.heap.size) hv).mono ?_;rintro e w' ⟨g,c',rfl,h1,h2,h3,h4⟩;exact⟨g,c',rfl,h1,h2,.inr (by omega),h4.mono (Ad _) λb hb e=>by omega⟩
 |some p=>
  obtain⟨r,c⟩:=p;have Jow:vb≠r:=by rintro rfl;exact Zk ⟨c,rfl⟩
  have conv:∀e w',Tv w r (insL i x ls) e w'->Jpl w (some (r,c)) (insL i x ls) e w':=by rintro e w' ⟨g,c',rfl,h1,h2,h3,h4⟩;exact⟨g,c',rfl,h1,h2,h3.imp (λe=>by subst e;exact⟨c,rfl⟩) id,h4.mono (Ad _) λb _ e=>by subst e;exact⟨c,rfl⟩⟩
  rcases BF i ls.length with Ac|Et
  .rcases BF c (ls.length+1)with h1|h1
   .exact(Jku h.1 h.2 hv Ac h1 hn).mono conv
   .exact(Jik h.1 h.2 hv Jow Ac h1 hn).mono conv
  .obtain rfl:i=ls.length:=by omega
   exact(Jmf h.1 h.2 hv hn).mono conv
def Iz(K:Int)(ls:JD)(h:Int):JD:=if h∈ls then ls else(insL (ls.countP (· < h)) h ls).take K.toNat
def Row.take{r cap:Nat}{t:JH}{k:IntKind}{xs:JD}(h:Row fr w r t k xs cap)(m:Nat):Row fr w r t k (xs.take m) cap:=by
 obtain⟨cur,h1,h2,h3,h4,h5⟩:=h;refine⟨cur,h1,h2,by simp;omega,λi hi=>?_,h5⟩
 grind
def Jhn(w:JE)(b:Nat)(pr:Option (Nat × Nat))(K:Int)(ls:JD)(e:Ending)(w':JE):Prop:=
 (∃v,e=.returned v)/\∃OZ,Gf false w' b OZ K ls/\(∀x,lpl OZ x->lpl pr x\/w.heap.size<=x)/\Tch w.heap.size (λx=>x=b\/lpl pr x) w w'
theorem Jsx{w2:JE}{L:JD}{g c' m:Nat}{x:Int}{s1 lv:JJ}(v:JJ)(YZ:b<w.heap.size)(hb:¬lpl pr b)(Dt:Blk false w2 b #[JK K,lv] 194)(BM:Row false w2 g 110 .u64 L c')(Nh:c'<=maxLen)(Bl:lpl pr g\/w.heap.size+1<=g)(hL:(L.take K.toNat).length=m)
  (Bc:Tch (w.heap.size+1) (lpl pr) (w.alloc (.cells #[.int .u64 x] 110)) w2):Jhn w b pr K (L.take K.toNat) (.returned v) ((w2.setCell ⟨b,1,none⟩ s1).setCell ⟨b,1,none⟩ (JM g m c')).drew:=by
 have xJ:g≠b:=by
  grind
 refine⟨⟨_,rfl⟩,some (g,c'),⟨?_,?_,Nh⟩,λy ⟨c,hc⟩=>?_,?_⟩
 .have:=((Dt.set 1 s1).set 1 (JM g m c')).kept (w':=((w2.setCell ⟨b,1,none⟩ s1).setCell ⟨b,1,none⟩ (JM g m c')).drew) rfl;rw[show lval (some (g,c')) (L.take K.toNat)=JM g m c' by rw[<- hL];rfl];exact this
 .exact(BM.take K.toNat).kept ((Jm _ _ xJ).trans (Jm _ _ xJ))
 .grind
 .have h1:Tch w.heap.size (λx=>x=b\/lpl pr x) w (w.alloc (.cells #[.int .u64 x] 110)):=Tch.refl.alloc (Ad _) _;have h2:Tch w.heap.size (λx=>x=b\/lpl pr x) (w.alloc (.cells #[.int .u64 x] 110)) w2:=Bc.mono (by omega) λ_ _ h=>.inr h;exact(((h1.trans h2).set (.inr (.inl rfl)) _).set (.inr (.inl rfl)) _).drew
def Jim(h:Gf false w b pr K ls)(hb:¬lpl pr b)(hn:ls.length<=1000)(hs:ls.Pairwise (·<=·))(hK:0<=K/\K<=1000)(x:Int)(v:Int) :
  Calls prog 262 #[JL b,.int .u64 x,JK v] w (Jhn w b pr K (Iz K ls x)):=by
 have d0:=h.c0;have d1:=h.c1;have f1:=h.hd.frozen 1;have kM:=Jmh h.row hn hs x;have gZ:=h.hd.lt;by_cases hx:x∈ls
 .have e1:Iz K ls x=ls:=by simp[Iz,hx]
  rw[e1];have BH:Jhn w b pr K ls (.returned (.tuple #[])) w:=⟨⟨_,rfl⟩,pr,h,λx hx=>.inl hx,.refl⟩;rw[decide_eq_true hx]at kM;generalize lval pr ls=lv at *
  go_enter func262,ntmps262
  go_wp2_with (go_at_call 266;refine kM.mono ?_;rintro e w' ⟨rfl,rfl⟩)
  go_end0;exact BH
 .have e1:Iz K ls x=(insL (ls.countP (· < x)) x ls).take K.toNat:=by simp[Iz,hx]
  rw[e1];rw[decide_eq_false hx]at kM;have Jzy:ls.countP (· < x)<=ls.length:=List.countP_le_length;have hvN:(w.alloc (.cells #[.int .u64 x] 110)).heap[w.heap.size]?=some (.cells #[.int .u64 x] 110):=Ja _;have kJ:Qy false (w.alloc (.cells #[.int .u64 x] 110)) pr ls:=h.row.kept λy hy=>J8 _ (h.row.lt hy);have QM:=Jmi kJ hvN (λhy=>by have:=h.row.lt hy;omega) Jzy hn;have OL:(insL (ls.countP (· < x)) x ls).length=ls.length+1:=J7h Jzy;generalize ls.countP (· < x)=i at *;generalize hL:insL i x ls=L at *;clear hx hL;obtain⟨k,hk⟩:∃k:Nat,K=k:=⟨K.toNat,by omega⟩;obtain⟨m,hm⟩:∃m:Nat,m=min (ls.length+1) k:=⟨_,rfl⟩;have hmin:min ((ls.length:Int)+1) K=(m:Int):=by omega
  have OU:(0:Int)<=(m:Int):=by omega
  have hB:Blk false (w.alloc (.cells #[.int .u64 x] 110)) b #[JK K,lval pr ls] 194:=h.hd.kept (J8 _ gZ);have J040:=hB.lt;generalize lval pr ls=lv at d1 kM QM hB
  go_enter func262,ntmps262
  go_wp2_with (first
   |(go_at_call 266;refine kM.mono ?_;rintro e w' ⟨rfl,rfl⟩)
   |(go_at_call 267;refine QM.mono ?_;rintro e w2 ⟨g,c',rfl,BM,Nh,Bl,Bc⟩
     have Dt:Blk false w2 b #[JK K,lv] 194:=hB.kept (Bc.heap b J040 hb);have k0:w2.cell? ⟨b,0,none⟩=some (JK K):=(Dt.cell 0).trans rfl;have k1:w2.cell? ⟨b,1,none⟩=some lv:=(Dt.cell 1).trans rfl;have k2:=Dt.frozen 1;have hmc:(m:Int)<=(c':Int):=by obtain⟨_,_,_,h3,_⟩:=BM;omega))
  go_region
  all_goals go_wp2
  all_goals go_end0
  grind[Jsx,size_alloc,List.length_take]
end
abbrev Ep(l:JD):Prop:=l.Pairwise (· < ·)
def NG(x:Int):JD->JD
 |[]=>[x]
 |y::l=>if x<y then x::y::l else if x=y then y::l else y::NG x l
theorem VU{x z:Int}:∀{l:JD},z∈NG x l↔z=x\/z∈l
 |[]=>by simp[NG]
 |y::l=>by
  unfold NG;split
  .simp
  .split
   .rename_i e;subst e;simp
   .rw[AL,VU,AL];constructor
    .rintro(h|h|h)
     .exact .inr (.inl h)
     .exact .inl h
     .exact .inr (.inr h)
    .rintro(h|h|h)
     .exact .inr (.inl h)
     .exact .inl h
     .exact .inr (.inr h)
theorem aC{x:Int}:∀{l:JD},Ep l->Ep (NG x l)
 |[],_=>by simp[NG]
 |y::l,h=>by
  have h1:=(KF.1 h).1;have h2:=(KF.1 h).2;unfold NG;split
  .rename_i hx;refine KF.2 ⟨λz hz=>?_,h⟩
   grind
  .split
   .exact h
   .refine KF.2 ⟨λz hz=>?_,aC h2⟩;rcases VU.1 hz with rfl|hz
    all_goals grind
theorem Jin{x:Int}:∀{l:JD},Ep l->x∈l->NG x l=l
 |[],_,h=>by simp at h
 |y::l,h,hx=>by
  have h1:=(KF.1 h).1;have h2:=(KF.1 h).2;unfold NG;rcases AL.1 hx with rfl|hx
  .grind
  .have:=h1 x hx;rw[if_neg (by omega),if_neg (by omega),Jin h2 hx]
theorem Jgk{x:Int}:∀{l:JD},Ep l->x∉l->insL (l.countP (· < x)) x l=NG x l
 |[],_,_=>by simp[insL,NG]
 |y::l,h,hx=>by
  have h1:=(KF.1 h).1;have h2:=(KF.1 h).2;rw[AL,not_or]at hx;unfold NG;by_cases hxy:x<y
  .have:(y::l).countP (· < x)=0:=by
    grind
   rw[this,if_pos hxy];simp[insL]
  .rw[if_neg hxy,if_neg hx.1,List.countP_cons_of_pos (by simp;omega),<- Jgk h2 hx.2];simp[insL]
theorem nK:∀{a b:JD},Ep a->Ep b->(∀x,x∈a↔x∈b)->a=b
 |[],[],_,_,_=>rfl
 |[],y::b,_,_,h=>by have:=(h y).2 (by simp);simp at this
 |x::a,[],_,_,h=>by have:=(h x).1 (by simp);simp at this
 |x::a,y::b,ha,hb,h=>by
  have a1:=(KF.1 ha).1;have b1:=(KF.1 hb).1;have e:x=y:=by
   rcases AL.1 ((h x).1 (by simp))with e|e
   .exact e
   .rcases AL.1 ((h y).2 (by simp))with e'|e'
    .exact e'.symm
    .have:=b1 x e;have:=a1 y e';omega
  subst e;congr 1;refine nK (KF.1 ha).2 (KF.1 hb).2 λz=>?_;constructor
  .intro hz;rcases AL.1 ((h z).1 (by simp[hz]))with e|e
   .subst e;have:=a1 z hz;omega
   .exact e
  .intro hz;rcases AL.1 ((h z).2 (by simp[hz]))with e|e
   .subst e;have:=b1 z hz;omega
   .exact e
def J9d{x:Int}:∀{l:JD}{K:Nat},(NG x (l.take K)).take K=(NG x l).take K
 |_,0=>by simp
 |[],K+1=>by simp
 |y::l,K+1=>by
  simp only[List.take_succ_cons];unfold NG;have key:∀m:JD,(y::m.take K).take K=(y::m).take K:=by
   intro m;cases K with
   |zero=>simp
   |succ k=>grind
  split
  .rw[List.take_succ_cons,List.take_succ_cons,key]
  .split
   .simp[List.take_take]
   .rw[List.take_succ_cons,List.take_succ_cons,J9d]
def uni(a b:JD):JD:=b.foldl (λl x=>NG x l) a
theorem U7{z:Int}:∀{b a:JD},z∈uni a b↔z∈a\/z∈b
 |[],a=>by simp[uni]
 |x::b,a=>by
  show z∈uni (NG x a) b↔_;rw[U7,VU,AL];constructor
  .rintro((h|h)|h)
   .exact .inr (.inl h)
   .exact .inl h
   .exact .inr (.inr h)
  .rintro(h|h|h)
   .exact .inl (.inr h)
   .exact .inl (.inl h)
   .exact .inr h
theorem Ry:∀{b a:JD},Ep a->Ep (uni a b)
 |[],_,h=>h
 |x::b,a,h=>by show Ep (uni (NG x a) b);exact Ry (aC h)
def Yq{K:Nat}:∀{b l:JD},(uni (l.take K) b).take K=(uni l b).take K
 |[],l=>by simp[uni,List.take_take]
 |x::b,l=>by show(uni (NG x (l.take K)) b).take K=(uni (NG x l) b).take K;rw[<- Yq (l:=NG x (l.take K)),<- Yq (l:=NG x l),J9d]
theorem ZU{K:Int}{ls:JD}(h:Ep ls)(hK:(ls.length:Int)<=K)(x:Int):Iz K ls x=(NG x ls).take K.toNat:=by
 unfold Iz
 grind[Jin,List.take_of_length_le,Jgk]
theorem Jgl{l:JD}(h:Ep l)(k:Nat):Ep (l.take k):=h.sublist (List.take_sublist _ _)
def ZR{K:Int}{ls:JD}(h:Ep ls)(hK:(ls.length:Int)<=K)(x:Int):Ep (Iz K ls x)/\((Iz K ls x).length:Int)<=K:=by
 grind[ZU,Jgl,aC,List.length_take]
def Gx(K:Int)(a b:JD):JD:=b.foldl (Iz K) a
theorem Pn{K:Int}:∀{b a:JD},Ep a->(a.length:Int)<=K->Gx K a b=(uni a b).take K.toNat
 |[],a,_,hK=>by
  show a=a.take _
  grind[List.take_of_length_le]
 |x::b,a,h,hK=>by show Gx K (Iz K a x) b=(uni (NG x a) b).take _;have:=ZR h hK x;rw[Pn this.1 this.2,ZU h hK,Yq]
def ZV{K:Int}{a b:JD}(h:Ep a)(hK:(a.length:Int)<=K):Ep (Gx K a b)/\((Gx K a b).length:Int)<=K:=by
 grind[Pn,Jgl,Ry,List.length_take]
def J7i{K:Int}{a b:JD}(ha:Ep a)(hb:Ep b)(ka:(a.length:Int)<=K)(kb:(b.length:Int)<=K):Gx K a b=Gx K b a:=by rw[Pn ha ka,Pn hb kb];congr 1;exact nK (Ry ha) (Ry hb) λx=>by rw[U7,U7,or_comm]
def Jio{K:Int}{a b c:JD}(ha:Ep a)(hb:Ep b)(hc:Ep c)(ka:(a.length:Int)<=K)(kb:(b.length:Int)<=K)(_kc:(c.length:Int)<=K):Gx K (Gx K a b) c=Gx K a (Gx K b c):=by
 have h1:=ZV (b:=b) ha ka;have h2:=ZV (b:=c) hb kb;rw[J7i ha h2.1 ka h2.2,Pn h1.1 h1.2,Pn h2.1 h2.2,Pn ha ka,Pn hb kb,Yq,Yq];congr 1;refine nK (Ry (Ry ha)) (Ry (Ry hb)) λx=>?_
 grind[U7]
def Jmj{K:Int}{a b:JD}(ha:Ep a)(ka:(a.length:Int)<=K){x:Int}(h:x∈Gx K a b):x∈a\/x∈b:=by
 grind[Pn,U7,List.mem_of_mem_take]
def Jpm(a b:JD):maxL a b=maxL b a:=by
 unfold maxL
 induction a generalizing b with
 |nil=>simp[*]
 |cons x a ih=>cases b with
  |nil=>rfl
  |cons y b=>grind[List.zipWith_cons_cons,Int.max_comm]
def Jmk(a b c:JD):maxL (maxL a b) c=maxL a (maxL b c):=by
 unfold maxL
 induction a generalizing b c with
 |nil=>simp[*]
 |cons x a ih=>cases b with
  |nil=>simp[*]
  |cons y b=>cases c with
   |nil=>rfl
   |cons z c=>simp_all
theorem J98(x y:Int):wrap64 (x+y)=wrap64 (y+x):=by grind
theorem J7u(x y z:Int):wrap64 (wrap64 (x+y)+z)=wrap64 (x+wrap64 (y+z)):=by unfold wrap64;omega
def Jpn(a b:JD):Eo a b=Eo b a:=by
 unfold Eo
 induction a generalizing b with
 |nil=>simp[*]
 |cons x a ih=>cases b with
  |nil=>rfl
  |cons y b=>grind[List.zipWith_cons_cons,J98]
def Jml(a b c:JD):Eo (Eo a b) c=Eo a (Eo b c):=by
 unfold Eo
 induction a generalizing b c with
 |nil=>simp[*]
 |cons x a ih=>cases b with
  |nil=>simp[*]
  |cons y b=>cases c with
   |nil=>rfl
   |cons z c=>grind[List.zipWith_cons_cons,J7u]
structure Bun where
 n:Int
 r:JD
 h:JD
 l:JD
structure J7 where
 bits:Int
 K:Int
 ba:JI
 nb:Nat
 cb:Nat
structure CZ(c:J7):Prop where
 b1:4<=c.bits
 b2:c.bits<=6
 k1:1<=c.K
 k2:c.K<=8
 nb:c.nb<=8
def I64(x:Int):Prop:=-9223372036854775808<=x/\x<=9223372036854775807
structure Jl(c:J7)(B:Bun):Prop where
 r:B.r.length=2 ^ c.bits.toNat
 r8:∀x∈B.r,0<=x/\x<=255
 h:B.h.length=c.nb+1
 h64:∀x∈B.h,I64 x
 l:Ep B.l
 lK:(B.l.length:Int)<=c.K
 l64:∀x∈B.l,0<=x/\x<=18446744073709551615
 n64:I64 B.n
 lne:B.l≠[]
def mg(c:J7)(a b:Bun):Bun:=⟨wrap64 (a.n+b.n),maxL a.r b.r,Eo a.h b.h,Gx c.K a.l b.l⟩
def mV{f:Int->Int->Int}{z:Int}:∀{a b:JD},z∈a.zipWith f b->∃x∈a,∃y∈b,z=f x y
 |[],_,h=>by simp at h
 |_::_,[],h=>by simp at h
 |x::a,y::b,h=>by
  rw[List.zipWith_cons_cons,AL]at h;rcases h with rfl|h
  .grind
  .obtain⟨p,hp,q,hq,e⟩:=mV h;exact⟨p,by simp[hp],q,by simp[hq],e⟩
def mZ(x:Int):I64 (wrap64 x):=by unfold I64 wrap64;omega
section
variable{c:J7}{a b d:Bun}
def Jl.mg(ha:Jl c a)(hb:Jl c b):Jl c (mg c a b):=by
 refine⟨?_,λx hx=>?_,?_,λx hx=>?_,(ZV ha.l ha.lK).1,(ZV ha.l ha.lK).2,λx hx=>?_,mZ _,?_⟩
 .show(maxL a.r b.r).length=_;rw[Jbx (by rw[ha.r,hb.r]),ha.r]
 .obtain⟨p,hp,q,hq,rfl⟩:=mV hx;have:=ha.r8 p hp;have:=hb.r8 q hq;omega
 .show(Eo a.h b.h).length=_;rw[Jby (by rw[ha.h,hb.h]),ha.h]
 .obtain⟨p,hp,q,hq,rfl⟩:=mV hx;exact mZ _
 .rcases Jmj ha.l ha.lK hx with h|h
  .exact ha.l64 x h
  .exact hb.l64 x h
 .show Gx c.K a.l b.l≠[];rw[Pn ha.l ha.lK];have h1:=ha.lne;have h2:=ha.lK;obtain⟨x,hx⟩:=List.exists_mem_of_ne_nil _ h1;have h3:x∈uni a.l b.l:=U7.2 (.inl hx);have h4:0<a.l.length:=List.length_pos_iff.2 h1;have h5:0<(uni a.l b.l).length:=List.length_pos_iff.2 (List.ne_nil_of_mem h3);intro e;have:=congrArg List.length e
  grind
theorem Jlm(ha:Jl c a)(hb:Jl c b):mg c a b=mg c b a:=by unfold mg;rw[J98,Jpm,Jpn,J7i ha.l hb.l ha.lK hb.lK]
theorem Jci(ha:Jl c a)(hb:Jl c b)(hd:Jl c d):mg c (mg c a b) d=mg c a (mg c b d):=by unfold mg;simp only;rw[J7u,Jmk,Jml,Jio ha.l hb.l hd.l ha.lK hb.lK hd.lK]
def om(c:J7)(z:Option Bun)(b:Bun):Option Bun:=match z with|none=>some b|some a=>some (mg c a b)
def bZ(c:J7)(x y:Option Bun):Option Bun:=match y with|none=>x|some b=>om c x b
def Gh(c:J7)(l:List Bun):Option Bun:=l.foldl (om c) none
def OOk(c:J7)(z:Option Bun):Prop:=∀b,z=some b->Jl c b
def OOk.om{z:Option Bun}(hz:OOk c z)(hb:Jl c b):OOk c (om c z b):=by
 intro x hx;cases z with
 |none=>cases hx;exact hb
 |some a=>cases hx;exact(hz a rfl).mg hb
theorem Jxn{z:Option Bun}(hz:OOk c z)(ha:Jl c a)(hb:Jl c b):om c (om c z a) b=om c (om c z b) a:=by
 cases z with
 |none=>exact congrArg some (Jlm ha hb)
 |some x=>
  have hx:=hz x rfl;show some _=some _
  grind[Jci,Jlm]
def Jmm{l1 l2:List Bun}(hp:l1.Perm l2):(∀b∈l1,Jl c b)->∀z,OOk c z->l1.foldl (om c) z=l2.foldl (om c) z:=by
 induction hp with
 |nil=>grind
 |cons x _ ih=>exactλh z hz=>ih (λb hb=>h b (by simp[hb])) _ (hz.om (h x (by simp)))
 |swap x y l=>
  grind[Jxn]
 |trans h1 _ ih1 ih2=>grind
theorem Jgm{l1 l2:List Bun}(hp:l1.Perm l2)(h:∀b∈l1,Jl c b):Gh c l1=Gh c l2:=Jmm hp h none (λ_ h=>by cases h)
def Jsy{l:List Bun}(h:∀b∈l,Jl c b):∀z,OOk c z->OOk c (l.foldl (om c) z):=by
 induction l with
 |nil=>grind
 |cons x l ih=>exactλz hz=>ih (λb hb=>h b (by simp[hb])) _ (hz.om (h x (by simp)))
def Jxo{l:List Bun}(h:∀b∈l,Jl c b):OOk c (Gh c l):=Jsy h none (λ_ h=>by cases h)
def Jxp{x y:Option Bun}(hx:OOk c x)(hy:OOk c y)(hb:Jl c b):om c (bZ c x y) b=bZ c x (om c y b):=by
 cases y with
 |none=>rfl
 |some p=>
  have hp:=hy p rfl;cases x with
  |none=>rfl
  |some q=>
   show some _=some _;rw[Jci (hx q rfl) hp hb]
def Jpo{l:List Bun}(h:∀b∈l,Jl c b):∀x y,OOk c x->OOk c y->l.foldl (om c) (bZ c x y)=bZ c x (l.foldl (om c) y):=by
 induction l with
 |nil=>grind
 |cons b l ih=>
  intro x y hx hy;simp only[List.foldl_cons];have hb:=h b (by simp);rw[Jxp hx hy hb,ih (λd hd=>h d (by simp[hd])) x _ hx (hy.om hb)]
def Yk{l1 l2:List Bun}(h1:∀b∈l1,Jl c b)(h2:∀b∈l2,Jl c b):Gh c (l1++l2)=bZ c (Gh c l1) (Gh c l2):=by unfold Gh;rw[List.foldl_append];exact Jpo h2 _ none (Jxo h1) (λ_ h=>by cases h)
end
def Jr(c n:Int):Int:=(if c<0 then -(c+1)else c) % n
def Yr{c n:Int}(hn:0<n):0<=Jr c n/\Jr c n<n:=⟨Int.emod_nonneg _ (by omega),Int.emod_lt_of_pos _ hn⟩
def Yo{c n:Int}(hc:-9223372036854775808<=c/\c<=9223372036854775807)(hn:0<n)(Ij:n<=9223372036854775807)(w:JE) :
  Calls prog 18 #[JK c,JK n] w λe w'=>e=.returned (JK (Jr c n))/\w'=w:=by
 obtain⟨h1,h2⟩:=hc;have e:c<0->Jr c n=-(c+1).tmod n:=λh=>by unfold Jr;rw[if_pos h,<- Int.tmod_eq_emod_of_nonneg (by omega),Int.neg_tmod]
 have e2:0<=c->Jr c n=c % n:=λh=>by
  unfold Jr
  grind
 generalize Jr c n=p at *
 go_enter func18,ntmps18
 go_wp2
 .go_ret
  simp_all
 .go_ret
  simp_all
def Dc:JD:=[-5,0,10,1000]
def J9e{c:Int}(hc:-9223372036854775808<=c/\c<=9223372036854775807)(w:JE) :
  Calls prog 19 #[JK c] w λe w'=>e=.returned (.agg #[JK 3,JK (4+Jr c 1048576 % 3),JK (1+Jr c 1048576 / 3 % 8),.slice (some ⟨w.heap.size+1,0,none⟩) 4 4,JK c])/\w'=(w.alloc (.cells #[JK 3,JK (4+Jr c 1048576 % 3),JK (1+Jr c 1048576 / 3 % 8),.slice (some ⟨w.heap.size+1,0,none⟩) 4 4,JK c] 47)).alloc (.cells #[JK (-5),JK 0,JK 10,JK 1000] 3):=by
 have hp:=Yo hc (n:=1048576) (by omega) (by omega);have hb:=Yr (c:=c) (n:=1048576) (by omega);generalize Jr c 1048576=p at *;obtain⟨b1,b2⟩:=hb
 go_enter func19,ntmps19
 go_wp2_with (go_at_call 18;refine(hp _).mono ?_;rintro e w1 ⟨rfl,rfl⟩)
 refine bodyPost_ret (v:=.agg #[JK 3,JK (4+p % 3),JK (1+p / 3 % 8),.slice (some ⟨w.heap.size+1,0,none⟩) 4 4,JK c]) ?_ rfl ?_
 .simp[results,results19,go_sem]
 grind
def EI(c:J7)(YD seed:Int):JC:=#[JK YD,JK c.bits,JK c.K,.slice c.ba c.nb c.cb,JK seed]
def Jbz{fr:Bool}{w:JE}{c:J7}{bb cap:Nat}{bs:JD}(hc:CZ c)(h:Row fr w bb 3 .i64 bs cap)(Dh:c.ba=some ⟨bb,0,none⟩)(BL:c.nb=bs.length)(hp:bs.Pairwise (· < ·))(seed:Int) :
  Calls prog 110 #[.agg (EI c 3 seed)] w λe w'=>e=.returned (.bool true)/\Tch w.heap.size M0 w w':=by
 obtain⟨b1,b2,k1,k2,nb⟩:=hc;have Aq:∀wr,Tch w.heap.size M0 w wr->∀i,i<bs.length->wr.cell? ⟨bb,i,none⟩=some (JK (bs.getD i 0)):=λwr ht i hi=>(h.tch ht h.lt λx=>x).cell hi;have Uo:∀i,0<i->i<bs.length->bs.getD (i-1) 0<bs.getD i 0:=λi h0 hi=>by
  grind[List.pairwise_iff_getElem]
 clear h hp;rw[BL]at nb;unfold EI;rw[Dh,BL];generalize bs.length=n at *;generalize c.bits=bits at *;generalize c.K=K at *;generalize c.cb=cb at *
 go_enter func110,ntmps110
 go_wp2
 go_loopw [39] (λi wr=>∃k:Nat,k<=n/\i=JK k/\Tch w.heap.size M0 w wr/\wr.cell? ⟨w.heap.size,3,none⟩=some (JM bb n cb)) (λi _=>n-(RowKit.intOf i).toNat)
 case atStart=>exact⟨0,by omega,rfl,Tch.refl.alloc (Ad _) _,(cell_of (Ja _) 3).trans rfl⟩
 case round=>
  obtain⟨k,hk,rfl,ht,hb⟩:=hrel;rcases BF k n with Ac|Et
  .have g2:=Aq _ ht k Ac;have CS:(k:Int)<n:=by omega
   rcases Nat.eq_zero_or_pos k with qA|BZ
   .have DI:¬(0:Int)<k:=by omega
    clear Aq Uo g2;go_wp2
    go_region
    go_wp2;refine⟨⟨k+1,by omega,by go_num,ht.drew,hb⟩,by simp[RowKit.intOf];omega⟩
   .have g1:=Aq _ ht (k-1) (by omega);have hi:=Uo k BZ Ac;have DI:(k:Int)-1=((k-1:Nat):Int):=by omega
    have XG:(0:Int)<k:=by omega
    generalize bs.getD (k-1) 0=x at *;generalize bs.getD k 0=y at *;clear Aq Uo;go_wp2
    go_region
    go_wp2;refine⟨⟨k+1,by omega,by go_num,ht.drew,hb⟩,by simp[RowKit.intOf];omega⟩
  .have EC:¬((k:Int)<n):=by omega
   clear Aq Uo;go_wp2;go_ret
   simp_all
end Go.Sim.Z
