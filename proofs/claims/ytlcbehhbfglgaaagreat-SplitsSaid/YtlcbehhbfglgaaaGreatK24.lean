/- Proved here: laws for the claim. No conditions. -/
import Derived.Laws.Closers25b
import Derived.Laws.BytesString
import Derived.Test.YtlcbehhbfglgaaaGreatK17
import Derived.Test.YtlcbehhbfglgaaaGreatK22
import Derived.Test.YtlcbehhbfglgaaaGreatK23
set_option linter.all false
set_option maxHeartbeats 4000000
set_option maxRecDepth 100000
open Go.Proofs.Tryz
namespace Go.Sim.Z
open Go Go.Proofs Go.RowKit
def KU(n:Int):Int:=bits BinOp.xor IntKind.u64 (IntKind.u64.wrap (IntKind.u64.wrap n*2)) (IntKind.u64.wrap (n / 9223372036854775808))
theorem Vz(n:Int):0<=KU n/\KU n<=18446744073709551615:=bits_within _ _ _ _
theorem sJ{n:Int}(h1:-9223372036854775808<=n)(h2:n<=9223372036854775807)(w:JE):Calls prog 31 #[.int .i64 n] w λe w'=>e=.returned (.int .u64 (KU n))/\w'=w:=by
 go_enter func31,ntmps31
 go_wp2;go_ret;exact⟨rfl,rfl⟩
def Jgu(c:Int):Int:=bits BinOp.xor IntKind.u32 (c / 2) (bits BinOp.and IntKind.u32 (-(bits BinOp.and IntKind.u32 c 1) % 4294967296) 3988292384)
def U1:Nat->Int->Int
 |0,c=>c
 |n+1,c=>Jgu (U1 n c)
def Zn(s:ByteArray)(k:Nat):Int:=if h:k<s.size then(s[k].toNat:Int) % 4294967296 else 0
def Uz(s:ByteArray):Nat->Int
 |0=>4294967295
 |k+1=>U1 8 (bits BinOp.xor IntKind.u32 (Uz s k) (Zn s k))
theorem YM{x:Int}(h:IntKind.u32.min<=x/\x<=IntKind.u32.max):0<=x/\x<=4294967295:=by simpa[IntKind.min,IntKind.max,IntKind.signed,IntKind.bits]using h
theorem J069{c:Int}(h:0<=c/\c<=4294967295):∀n,0<=U1 n c/\U1 n c<=4294967295
 |0=>h
 |n+1=>by unfold U1 Jgu;exact YM (bits_within _ .u32 _ _)
theorem J06a(s:ByteArray):∀n,0<=Uz s n/\Uz s n<=4294967295
 |0=>by unfold Uz;omega
 |n+1=>by unfold Uz;exact J069 (YM (bits_within _ .u32 _ _)) 8
def sumF(s:ByteArray):Int:=bits BinOp.xor IntKind.u32 IntKind.u32.max (Uz s s.size)
theorem J06b(s:ByteArray):0<=sumF s/\sumF s<=4294967295:=YM (bits_within _ .u32 _ _)
theorem J057(s:ByteArray)(hs:s.size<=1000000000)(w:JE):Calls prog 36 #[.string s] w λe w'=>e=.returned (.int .u32 (sumF s))/\w'=w:=by
 have hb:=J06a s
 go_enter func36,ntmps36
 go_wp2
 go_loopw [3,4] (λc i wr=>∃k:Nat,k<=s.size/\i=.int .i64 k/\c=.int .u32 (Uz s k)/\wr=w) (λ_ i _=>s.size-(RowKit.intOf i).toNat)
 case atStart=>exact⟨0,by omega,rfl,rfl,rfl⟩
 case round=>
  obtain⟨k,hk,rfl,rfl,rfl⟩:=hrel;rcases BG k s.size with Ac|Dp
  ·have BI:(k:Int)<s.size:=by omega
   have L9:=hb k;have AU:Uz s (k+1)=U1 8 (bits BinOp.xor IntKind.u32 (Uz s k) (Zn s k)):=rfl;generalize Uz s k=c at *;unfold Zn at AU;rw[dif_pos Ac]at AU;go_wp2;generalize bits BinOp.xor IntKind.u32 c ((s[k].toNat:Int) % 4294967296)=d at *;clear L9 hb
   go_loopw [3,17] (λc i wx=>∃j:Nat,j<=8/\i=.int .i64 j/\c=.int .u32 (U1 j d)/\wx=wr) (λ_ i _=>8-(RowKit.intOf i).toNat)
   case atStart=>exact⟨0,by omega,rfl,rfl,rfl⟩
   case round=>
    obtain⟨j,hj,rfl,rfl,rfl⟩:=hrel;rcases BG j 8 with hj8|hj8
    ·have aU:(j:Int)<8:=by omega
     have Bl:U1 (j+1) d=Jgu (U1 j d):=rfl;unfold Jgu at Bl;generalize U1 j d=e at *;go_wp2;exact⟨⟨j+1,by omega,by go_num,by rw[Bl],trivial⟩,by simp[RowKit.intOf];omega⟩
    ·have aU:¬(j:Int)<8:=by omega
     obtain rfl:j=8:=by omega
     go_wp2;exact⟨⟨k+1,by omega,by go_num,by rw[AU],trivial⟩,by simp[RowKit.intOf];omega⟩
  ·obtain rfl:k=s.size:=by omega
   have CB:¬((s.size:Int)<s.size):=by omega
   go_wp2;go_ret;exact⟨rfl,rfl⟩
def Qo(bs:JD):ByteArray:=bs.foldl (λr n=>r.push (UInt8.ofNat n.toNat)) ByteArray.empty
theorem qU:∀(bs:JD)(r:ByteArray),(bs.foldl (λr n=>r.push (UInt8.ofNat n.toNat)) r).size=r.size+bs.length
 |[],r=>rfl
 |b::bs,r=>by rw[List.foldl_cons,qU bs,Gu,ByteArray.size_push];omega
theorem J058(bs:JD):(Qo bs).size=bs.length:=by unfold Qo;rw[qU];simp
theorem und9:prog.underlying 9=some .string:=by kernel_rfl
theorem und5:prog.underlying 5=some (.int .u8):=by kernel_rfl
section
variable{w:JE}{base wb:Nat}{v:JJ}{bs:JD}
theorem PX.str(h:PX w base v bs)(Aq:bs≠[]):(convert 84 9 v).run prog w=.ok (.string (Qo bs)) w:=by
 rcases h.own.2 with⟨rfl,h1⟩|⟨g,cap,cur,rfl,hb,hg,AX,PK,Ae,hx⟩
 ·exact absurd (List.length_eq_zero_iff.1 h1) Aq
 ·rw[run_convert_bytes_string w 84 9 5 _ _ _ underlying84 und5 und9];refine run_bytesToString w _ _ _ bs ?_;have:=run_loadCells_list (P:=prog) (w:=w) ⟨g,0,none⟩ (bs.map (Value.int .u8)) λj u hj=>?_
  ·rw[Et]at this;exact this
  ·have h2:(List.take (bs.length*1) cur.toList)[j]?=some u:=by rw[hx];exact hj
   have Ac:j<bs.length:=by simpa using(List.getElem?_eq_some_iff.1 hj).1
   rw[List.getElem?_take,if_pos (by omega),Array.getElem?_toList]at h2;have e:(⟨g,0,none⟩:Addr).add j=⟨g,j,none⟩:=by
    cases j with
    |zero=>rfl
    |succ j=>simp[Addr.add]
   rw[e];exact(cell_of hg j).trans h2
end
end Go.Sim.Z
namespace Go.Sim.Z
open Go Go.Proofs Go.RowKit Go.Maps
theorem Jt5(n:Int)(w:JE):Calls prog 19 #[.int .i64 0,.int .i64 n] w λe w'=>e=.returned .nilFunc/\w'=w.alloc (.cells #[.int .i64 n] 3):=by
 go_enter func19,ntmps19
 go_wp2
 all_goals go_ret
 exact⟨rfl,rfl⟩
theorem Jt6(n:Int)(w:JE):Calls prog 19 #[.int .i64 2,.int .i64 n] w λe w'=>e=.returned (.func (.func 50) #[] #[pt w.heap.size])/\w'=w.alloc (.cells #[.int .i64 n] 3):=by
 go_enter func19,ntmps19
 go_wp2
 all_goals go_ret
 exact⟨rfl,rfl⟩
theorem Jkl(n:Int)(w:JE):Calls prog 48 #[.int .i64 n] w λe w'=>e=.returned (.func (.func 72) #[] #[pt w.heap.size])/\w'=w.alloc (.cells #[.int .i64 n] 3):=by
 go_enter func48,ntmps48
 go_wp2
 all_goals go_ret
 exact⟨rfl,rfl⟩
def fU(s n:Int):Int:=IntKind.u64.wrap (IntKind.u64.wrap n*IntKind.u64.wrap (IntKind.u64.wrap (2*IntKind.u64.wrap s)+1))
theorem Jqn{s n:Int}{b:Nat}{w:JE}(h:w.cell? ⟨b,0,none⟩=some (.int .i64 s)):Calls prog 50 #[.int .i64 n,.pointer (some ⟨b,0,none⟩)] w λe w'=>e=.returned (.int .u64 (fU s n))/\w'=w:=by
 go_enter func50,ntmps50
 go_wp2;go_ret;exact⟨rfl,rfl⟩
theorem Jqo{w2:JE}{n:Nat}{v0 v1 v2 v3 v4:JJ}{t:JH}(hb:Blk false w2 n #[v0,v1,v2,v3,v4] t)(o:Obj)(v:JJ):((w2.setCell ⟨n,3,none⟩ v).alloc o).cell? ⟨n,0,none⟩=some v0/\((w2.setCell ⟨n,3,none⟩ v).alloc o).cell? ⟨n,1,none⟩=some v1/\((w2.setCell ⟨n,3,none⟩ v).alloc o).cell? ⟨n,2,none⟩=some v2/\((w2.setCell ⟨n,3,none⟩ v).alloc o).cell? ⟨n,3,none⟩=some v/\((w2.setCell ⟨n,3,none⟩ v).alloc o).cell? ⟨n,4,none⟩=some v4:=by
 obtain⟨z,h1,h2⟩:=hb;cases h2 rfl;have hq:((w2.setCell ⟨n,3,none⟩ v).alloc o).heap[n]?=some (.cells #[v0,v1,v2,v,v4] t):=by rw[J7 _ (by rw[size_set];exact Ji h1),heap_set h1];rfl
 exact⟨(cell_of hq 0).trans rfl,(cell_of hq 1).trans rfl,(cell_of hq 2).trans rfl,(cell_of hq 3).trans rfl,(cell_of hq 4).trans rfl⟩
section
variable{w:JE}{x:Nat}{c:J8}{seed:Int}{nf:Int}{vm base:Nat}
theorem Jwi{fr:Bool}{bb cap:Nat}{bs:JD}(hc:Jw c)(hr:Row fr w bb 3 .i64 bs cap)(CY:c.ba=some ⟨bb,0,none⟩)(BX:c.nb=bs.length)(hp:bs.Pairwise (· < ·)) :
  Calls prog 18 #[.agg (EY c 3 seed),.nilFunc] w λe w'=>∃hb,NewAt w c seed (.func (.func 72) #[] #[pt hb]) bs e w'/\w.heap.size<=hb/\w'.heap[hb]?=some (.cells #[.int .i64 seed] 3):=by
 have hv:=λw1(ht:Tch w.heap.size M0 w w1)=>Jbl (seed:=seed) hc (hr.tch ht hr.lt λx=>x) CY BX hp;have AX:=λw1(ht:Tch w.heap.size M0 w w1)=>Jhp (hr.tch ht hr.lt λx=>x) (by have:=hc.nb;omega);have hlen:=hc.nb;obtain⟨W0,BZ⟩:∃W0,W0=w.alloc (.cells #[.int .i64 3,.int .i64 c.bits,.int .i64 c.K,.slice (some ⟨bb,0,none⟩) bs.length c.cb,.int .i64 seed] 35):=⟨_,rfl⟩;have BA:Tch w.heap.size M0 w W0:=by rw[BZ];exact Tch.refl.alloc (Ad _) _
 have FK:Blk false W0 w.heap.size #[.int .i64 3,.int .i64 c.bits,.int .i64 c.K,.slice (some ⟨bb,0,none⟩) bs.length c.cb,.int .i64 seed] 35:=⟨(0,0),by rw[BZ];exact Ja _,λ_=>rfl⟩;have e1:∀{w1:JE}{arr:JC},Blk false w1 w.heap.size arr 35->∀i,w1.cell? ⟨w.heap.size,i,none⟩=arr[i]?:=λh i=>h.cell i;unfold EY at hv ⊢;rw[CY,BX]at hv ⊢;have Nw:=hv W0 BA;have YK:Hid (∀w1,Tch W0.heap.size M0 W0 w1->Calls prog 47 #[.slice (some ⟨bb,0,none⟩) bs.length c.cb] w1 λe w'=>∃g c',e=.returned (.slice (some ⟨g,0,none⟩) bs.length c')/\w1.heap.size<=g/\Row false w' g 3 .i64 bs c'/\Tch w1.heap.size M0 w1 w'/\c'<=maxLen):=λw1 ht=>AX w1 (BA.trans (ht.mono BA.size λ_ _ h=>h)) _;have Du:=FK.lt;clear hv AX;have mQ:∀w,(binOp .eql 60 .nilFunc .nilFunc).run prog w=.ok (.bool true) w:=λw=>rfl;have oK:∀(t:JH) w,(Instr.makeMap t none).run prog w=.ok (.map (some w.heap.size)) (w.alloc (.map #[] 0)):=λ_ _=>rfl;have hgm':=BX;generalize hgm:bs.length=m at *
 go_enter func18,ntmps18
 go_wp2_with (first
  |(go_at_call 46;rw[<- BZ];refine Nw.mono ?_;rintro e w1 ⟨rfl,A8⟩;have FQ:=FK.tch A8 Du (λx=>x);obtain⟨y0,y1,y2,y3,y4⟩:=FQ.five;have Yf:=FQ.lt)
  |(go_at_call 47;refine(YK _ A8).mono ?_;rintro e w2 ⟨b2,c2,rfl,Jwu,BU,Bc,MJ⟩;have D8:=FQ.tch Bc Yf (λx=>x);obtain⟨z0,z1,z2,z3,z4⟩:=D8.five;have zf:=D8.frozen 3;obtain⟨p0,p1,p2,p3,p4⟩:=Jqo D8 (.cells #[.int .i64 seed] 3) (.slice (some ⟨b2,0,none⟩) m c2))
  |(go_at_call 48;refine(Jkl seed _).mono ?_;rintro e BD ⟨rfl,rfl⟩))
 have CU:(w2.setCell ⟨w.heap.size,3,none⟩ (.slice (some ⟨b2,0,none⟩) m c2)).heap.size=w2.heap.size:=size_set _ _;have DR:Tch w.heap.size M0 w (w2.setCell ⟨w.heap.size,3,none⟩ (.slice (some ⟨b2,0,none⟩) m c2)):=((BA.trans (A8.mono BA.size λ_ _ h=>h)).trans (Bc.mono (BL BA.size A8.size) λ_ _ h=>h)).set (.inl (Ad _)) _;have IJ:Row false (w2.setCell ⟨w.heap.size,3,none⟩ (.slice (some ⟨b2,0,none⟩) m c2)) b2 3 .i64 bs c2:=BU.kept (Jk _ _ (show b2≠w.heap.size by have:=BA.size;have:=A8.size;omega));have Fz:=BU.lt;generalize w2.setCell ⟨w.heap.size,3,none⟩ (.slice (some ⟨b2,0,none⟩) m c2)=xM at *;obtain⟨W3,Dt⟩:∃W3,W3=xM.alloc (.cells #[.int .i64 seed] 3):=⟨_,rfl⟩;have uN:=CU;have hl30:b2<xM.heap.size:=by rw[CU];exact Fz
 have WQ:W3.heap[w2.heap.size]?=some (.cells #[.int .i64 seed] 3):=by rw[Dt,<- CU];exact Ja _
 have Jz9:w.heap.size<=xM.heap.size:=DR.size;have DR:Tch w.heap.size M0 w W3:=by rw[Dt];exact DR.alloc DR.size _
 have IJ:Row false W3 b2 3 .i64 bs c2:=by rw[Dt];exact IJ.kept (J7 _ hl30)
 have CU:W3.heap.size=w2.heap.size+1:=by rw[Dt,size_alloc,uN]
 have uN:xM.heap.size=w2.heap.size:=uN;rw[<- Dt];have Uj:w.heap.size<=W3.heap.size:=DR.size;have hV:((W3.alloc (.map #[] 0)).alloc (.cells #[.int .i64 3,.int .i64 c.bits,.int .i64 c.K,.slice (some ⟨b2,0,none⟩) m c2,.int .i64 seed,.func (.func 72) #[] #[pt w2.heap.size],.int .i64 0,.map (some (w2.heap.size+1))] 64)).heap[(w2.heap.size+1)]?=some (.map #[] 0):=by rw[<- CU,J7 _ (by rw[size_alloc];omega)];exact Ja _
 have hX:((W3.alloc (.map #[] 0)).alloc (.cells #[.int .i64 3,.int .i64 c.bits,.int .i64 c.K,.slice (some ⟨b2,0,none⟩) m c2,.int .i64 seed,.func (.func 72) #[] #[pt w2.heap.size],.int .i64 0,.map (some (w2.heap.size+1))] 64)).heap[w2.heap.size+1+1]?=some (.cells #[.int .i64 3,.int .i64 c.bits,.int .i64 c.K,.slice (some ⟨b2,0,none⟩) m c2,.int .i64 seed,.func (.func 72) #[] #[pt w2.heap.size],.int .i64 0,.map (some (w2.heap.size+1))] 64):=by
  have:=Ja (w:=W3.alloc (.map #[] 0)) (.cells #[.int .i64 3,.int .i64 c.bits,.int .i64 c.K,.slice (some ⟨b2,0,none⟩) m c2,.int .i64 seed,.func (.func 72) #[] #[pt w2.heap.size],.int .i64 0,.map (some (w2.heap.size+1))] 64)
  rwa [size_alloc,CU]at this
 have Ub:=(IJ.kept (w':=(W3.alloc (.map #[] 0)).alloc (.cells #[.int .i64 3,.int .i64 c.bits,.int .i64 c.K,.slice (some ⟨b2,0,none⟩) m c2,.int .i64 seed,.func (.func 72) #[] #[pt w2.heap.size],.int .i64 0,.map (some (w2.heap.size+1))] 64)) (by rw[J7 _ (by rw[size_alloc];omega),J7 _ (by omega)]));have F8:=(DR.alloc Uj (.map #[] 0)).alloc (by rw[size_alloc];omega) (.cells #[.int .i64 3,.int .i64 c.bits,.int .i64 c.K,.slice (some ⟨b2,0,none⟩) m c2,.int .i64 seed,.func (.func 72) #[] #[pt w2.heap.size],.int .i64 0,.map (some (w2.heap.size+1))] 64);have MN:((W3.alloc (.map #[] 0)).alloc (.cells #[.int .i64 3,.int .i64 c.bits,.int .i64 c.K,.slice (some ⟨b2,0,none⟩) m c2,.int .i64 seed,.func (.func 72) #[] #[pt w2.heap.size],.int .i64 0,.map (some (w2.heap.size+1))] 64)).heap.size=w2.heap.size+1+2:=by rw[size_alloc,size_alloc,CU]
 have Yy:((W3.alloc (.map #[] 0)).alloc (.cells #[.int .i64 3,.int .i64 c.bits,.int .i64 c.K,.slice (some ⟨b2,0,none⟩) m c2,.int .i64 seed,.func (.func 72) #[] #[pt w2.heap.size],.int .i64 0,.map (some (w2.heap.size+1))] 64)).heap[w2.heap.size]?=some (.cells #[.int .i64 seed] 3):=by rw[J7 _ (by rw[size_alloc];omega),J7 _ (by omega)];exact WQ
 generalize(W3.alloc (.map #[] 0)).alloc (.cells #[.int .i64 3,.int .i64 c.bits,.int .i64 c.K,.slice (some ⟨b2,0,none⟩) m c2,.int .i64 seed,.func (.func 72) #[] #[pt w2.heap.size],.int .i64 0,.map (some (w2.heap.size+1))] 64)=W5 at *;have mV:((W5.alloc (.map #[] 0)).drew).heap[(w2.heap.size+1)]?=some (.map #[] 0):=(J7 (w:=W5) _ (show _<W5.heap.size by omega)).trans hV;obtain⟨w7,RQ,Jre,Pq⟩:=I5.made (base:=W5.heap.size) mV;have Jwv:(Instr.mapUpdate 62 (.map (some (w2.heap.size+1))) (.int .i64 7) (.map (some (w2.heap.size+1+2)))).run prog ((W5.alloc (.map #[] 0)).drew)=.ok () w7:=by rw[<- MN];exact RQ
 have LG:W5.cell? ⟨w2.heap.size+1+1,0,none⟩=some (.int .i64 3):=(cell_of hX 0).trans rfl;have iV:W5.cell? ⟨w2.heap.size+1+1,7,none⟩=some (.map (some (w2.heap.size+1))):=(cell_of hX 7).trans rfl;have cb:Hid (∀w',(w'=W5.drew\/w'=(W5.alloc (.map #[] 0)).drew)->Calls prog 23 #[.pointer (some ⟨w2.heap.size+1+1,0,none⟩)] w' λe Qw=>e=.returned (.int .i64 7)/\Qw=w'):=λw' h=>gY (by
  rcases h with rfl|rfl
  ·exact LG
  ·refine(DX (J7 (w:=W5) _ ?_)).trans LG;show _<W5.heap.size;rw[MN];show w2.heap.size+1+1<_;omega)
 have Xw:∀k,k<W5.heap.size->k≠(w2.heap.size+1)->w7.heap[k]?=W5.heap[k]?:=λk hk Aq=>(Pq.block k (by show k<(W5.alloc _).heap.size;rw[size_alloc];omega) λe=>Aq (Aa e)).trans (J7 (w:=W5) _ hk);have fin:NewAt w c seed (.func (.func 72) #[] #[pt w2.heap.size]) bs (.returned (.tuple #[.pointer (some ⟨w2.heap.size+1+1,0,none⟩),.nilIface])) w7:=by
  have nS:w.heap.size<=(w2.heap.size+1):=by rw[<- CU];exact Uj
  have jR:w.heap.size<=w2.heap.size:=by rw[<- uN];exact Jz9
  refine⟨⟨w2.heap.size+1+1,(w2.heap.size+1),W5.heap.size,b2,c2,rfl,⟨by omega,by omega,by omega,by have:=BA.size;have:=A8.size;omega⟩,⟨⟨(0,0),?_,λ_=>rfl⟩,Jre⟩,?_,?_,?_⟩,?_⟩
  ·rw[Xw _ (by omega) (by omega),hX,<- BX]
  ·exact(Pq.block _ (by show W5.heap.size<(W5.alloc _).heap.size;rw[size_alloc];omega) λe=>by have:=Aa e;omega).trans (Ja (w:=W5) _)
  ·exact Ub.kept (Xw _ (by omega) (by omega))
  ·omega
  ·exact⟨by have:=Pq.size;have e:((W5.alloc (.map #[] 0)).drew).heap.size=W5.heap.size+1:=size_alloc _;have:=F8.size;omega,λk hk _=>(Xw k (by omega) (by omega)).trans (F8.heap k hk λx=>x),Pq.tape.trans F8.tape,Pq.os.trans F8.os,Pq.output.trans F8.output⟩
 clear mV hV
 go_region_with (go_at_call 23;refine(cb _ (by first|exact .inl rfl|exact .inr rfl)).mono ?_;rintro e w' ⟨rfl,rfl⟩)
 all_goals go_wp2
 all_goals go_ret2
 all_goals exact⟨w2.heap.size,fin,by rw[<- uN];exact Jz9,(Xw _ (by omega) (by omega)).trans Yy⟩
end
section
variable{w:JE}{x:Nat}{c:J8}{seed:Int}{nf:Int}{vm base:Nat}
theorem Jt7{fr:Bool}{bb cap:Nat}{bs:JD}(hc:Jw c)(hr:Row fr w bb 3 .i64 bs cap)(CY:c.ba=some ⟨bb,0,none⟩)(BX:c.nb=bs.length)(hp:bs.Pairwise (· < ·))(n:Int) :
  Calls prog 12 #[.agg (EY c 3 seed),.int .i64 2,.int .i64 n] w λe w'=>∃hb,NewAt w c seed (.func (.func 50) #[] #[pt hb]) bs e w'/\w.heap.size<=hb/\w'.heap[hb]?=some (.cells #[.int .i64 n] 3):=by
 obtain⟨W0,BZ⟩:∃W0,W0=w.alloc (.cells (EY c 3 seed) 35):=⟨_,rfl⟩;have BA:Tch w.heap.size M0 w W0:=by rw[BZ];exact Tch.refl.alloc (Ad _) _
 have FK:Blk false W0 w.heap.size (EY c 3 seed) 35:=⟨(0,0),by rw[BZ];exact Ja _,λ_=>rfl⟩;have Du:=FK.lt;have hf:Hid (∀w1,Tch W0.heap.size M0 W0 w1->w1.cell? ⟨w.heap.size,0,none⟩=some (.int .i64 3)/\w1.cell? ⟨w.heap.size,1,none⟩=some (.int .i64 c.bits)/\w1.cell? ⟨w.heap.size,2,none⟩=some (.int .i64 c.K)/\w1.cell? ⟨w.heap.size,3,none⟩=some (.slice c.ba c.nb c.cb)/\w1.cell? ⟨w.heap.size,4,none⟩=some (.int .i64 seed)):=λw1 ht=>(FK.tch ht Du λx=>x).five;have NC:Hid (∀w1,Tch W0.heap.size M0 W0 w1->Calls prog 18 #[.agg (EY c 3 seed),.func (.func 50) #[] #[pt (w.heap.size+1)]] w1 λe w'=>NewAt w c seed (.func (.func 50) #[] #[pt (w.heap.size+1)]) bs e w'/\Tch W0.heap.size M0 W0 w'/\Tch w1.heap.size M0 w1 w'):=λw1 ht=>by have Bc:=BA.trans (ht.mono BA.size λ_ _ h=>h);refine(Jfw (seed:=seed) hc (hr.tch Bc hr.lt λx=>x) CY BX hp (.func 50) #[] #[pt (w.heap.size+1)]).mono λe w'(h:NewAt w1 c seed (.func (.func 50) #[] #[pt (w.heap.size+1)]) bs e w')=>?_;obtain⟨⟨x,vm,base,b2,c2,h1,h2,h3⟩,h4⟩:=h;have:=Bc.size;exact⟨⟨⟨x,vm,base,b2,c2,h1,⟨by omega,by omega,by omega,by omega⟩,h3⟩,(Bc.trans (h4.mono Bc.size λ_ _ h=>h))⟩,ht.trans (h4.mono ht.size λ_ _ h=>h),h4⟩
 clear hr hp FK BA Du CY BX;unfold EY at NC BZ ⊢;have t0:Tch W0.heap.size M0 W0 W0.drew:=Tch.refl.drew;have t1:Tch W0.heap.size M0 W0 (W0.alloc (.cells #[.int .i64 n] 3)).drew:=(Tch.refl.alloc (Ad _) _).drew;have KF:(W0.alloc (.cells #[.int .i64 n] 3)).drew.heap[w.heap.size+1]?=some (.cells #[.int .i64 n] 3):=by have:=Ja (w:=W0) (.cells #[.int .i64 n] 3);rw[BZ,size_alloc]at this;rw[BZ];exact this
 have Juy:w.heap.size+1<(W0.alloc (.cells #[.int .i64 n] 3)).drew.heap.size:=Ji KF
 go_enter func12,ntmps12
 go_wp2_with fail
 subst BZ;generalize bP:w.heap.size=n0 at hf NC KF Juy ⊢;obtain⟨q0,q1,q2,q3,q4⟩:=hf _ t0;obtain⟨r0,r1,r2,r3,r4⟩:=hf _ t1
 go_region_with (first|(go_at_call 19;refine(Jt6 n _).mono ?_;rintro e w1 ⟨rfl,rfl⟩)|(go_at_call 18;refine(NC _ t1).mono ?_;rintro e w1 ⟨hN,t2,t3⟩;have ZC:=hN;have Bz:=(t3.heap _ Juy λh=>h).trans KF;obtain⟨⟨x,vm,base,b2,c2,rfl,_⟩,_⟩:=hN))
 all_goals go_wp2
 all_goals go_ret2
 all_goals exact⟨_,ZC,by omega,Bz⟩
theorem Jt8{fr:Bool}{bb cap:Nat}{bs:JD}(hc:Jw c)(hr:Row fr w bb 3 .i64 bs cap)(CY:c.ba=some ⟨bb,0,none⟩)(BX:c.nb=bs.length)(hp:bs.Pairwise (· < ·))(n:Int) :
  Calls prog 12 #[.agg (EY c 3 seed),.int .i64 0,.int .i64 n] w λe w'=>∃hb,NewAt w c seed (.func (.func 72) #[] #[pt hb]) bs e w'/\w.heap.size<=hb/\w'.heap[hb]?=some (.cells #[.int .i64 seed] 3):=by
 obtain⟨W0,BZ⟩:∃W0,W0=w.alloc (.cells (EY c 3 seed) 35):=⟨_,rfl⟩;have BA:Tch w.heap.size M0 w W0:=by rw[BZ];exact Tch.refl.alloc (Ad _) _
 have FK:Blk false W0 w.heap.size (EY c 3 seed) 35:=⟨(0,0),by rw[BZ];exact Ja _,λ_=>rfl⟩;have Du:=FK.lt;have hf:Hid (∀w1,Tch W0.heap.size M0 W0 w1->w1.cell? ⟨w.heap.size,0,none⟩=some (.int .i64 3)/\w1.cell? ⟨w.heap.size,1,none⟩=some (.int .i64 c.bits)/\w1.cell? ⟨w.heap.size,2,none⟩=some (.int .i64 c.K)/\w1.cell? ⟨w.heap.size,3,none⟩=some (.slice c.ba c.nb c.cb)/\w1.cell? ⟨w.heap.size,4,none⟩=some (.int .i64 seed)):=λw1 ht=>(FK.tch ht Du λx=>x).five;have NC:Hid (∀w1,Tch W0.heap.size M0 W0 w1->Calls prog 18 #[.agg (EY c 3 seed),.nilFunc] w1 λe w'=>∃hb,NewAt w c seed (.func (.func 72) #[] #[pt hb]) bs e w'/\w.heap.size<=hb/\w'.heap[hb]?=some (.cells #[.int .i64 seed] 3)/\Tch W0.heap.size M0 W0 w'):=λw1 ht=>by have Bc:=BA.trans (ht.mono BA.size λ_ _ h=>h);refine(Jwi (seed:=seed) hc (hr.tch Bc hr.lt λx=>x) CY BX hp).mono λe w' hx=>?_;obtain⟨hb,⟨⟨x,vm,base,b2,c2,h1,h2,h3⟩,h4⟩,h5,h6⟩:=hx;have:=Bc.size;exact⟨hb,⟨⟨x,vm,base,b2,c2,h1,⟨by omega,by omega,by omega,by omega⟩,h3⟩,(Bc.trans (h4.mono Bc.size λ_ _ h=>h))⟩,by omega,h6,ht.trans (h4.mono ht.size λ_ _ h=>h)⟩
 clear hr hp FK BA Du CY BX;unfold EY at NC BZ ⊢;have t0:Tch W0.heap.size M0 W0 W0.drew:=Tch.refl.drew;have t1:Tch W0.heap.size M0 W0 (W0.alloc (.cells #[.int .i64 n] 3)).drew:=(Tch.refl.alloc (Ad _) _).drew
 go_enter func12,ntmps12
 go_wp2_with fail
 subst BZ;generalize bP:w.heap.size=n0 at hf ⊢;obtain⟨q0,q1,q2,q3,q4⟩:=hf _ t0;obtain⟨r0,r1,r2,r3,r4⟩:=hf _ t1
 go_region_with (first|(go_at_call 19;refine(Jt5 n _).mono ?_;rintro e w1 ⟨rfl,rfl⟩)|(go_at_call 18;refine(NC _ t1).mono ?_;rintro e w1 ⟨hb,hN,q8,q9,t2⟩;have ZC:=hN;obtain⟨⟨x,vm,base,b2,c2,rfl,_⟩,_⟩:=hN))
 all_goals go_wp2
 all_goals go_ret2
 all_goals exact⟨_,ZC,by omega,q9⟩
theorem Jkm{hb:Nat}{s:Int}(q:Dq w x c seed (.func (.func 50) #[] #[pt hb]) nf vm base)(hc:w.heap[hb]?=some (.cells #[.int .i64 s] 3))(item at_:Int) :
  Calls prog 24 #[.pointer (some ⟨x,0,none⟩),.int .i64 item,.int .i64 at_] w λe w'=>e=.returned (.tuple #[.int .u64 (fU s item),.nilIface])/\Tch w.heap.size M0 w w':=by
 have hmf:∀(fn:Fn)(first cap:JC)(w:JE),(Instr.makeFunc fn first cap).run prog w=.ok (.func fn first cap) w:=λ_ _ _ _=>rfl;have hx:x<w.heap.size:=q.blk.lt;have c5:w.cell? ⟨x,5,none⟩=some (.func (.func 50) #[] #[pt hb]):=q.cells.2.2.2.2.2.1;have TQ:=Ji hc;have h1:Calls prog 50 #[.int .i64 item,.pointer (some ⟨hb,0,none⟩)] (((w.alloc (.cells #[.int .i64 at_] 3)).alloc (.cells #[.int .u64 0] 45)).alloc (.cells #[.nilIface] 30)) λe w'=>e=.returned (.int .u64 (fU s item))/\w'=((w.alloc (.cells #[.int .i64 at_] 3)).alloc (.cells #[.int .u64 0] 45)).alloc (.cells #[.nilIface] 30):=Jqn ((DX (by rw[J7 _ (by rw[size_alloc,size_alloc];show hb<_;omega),J7 _ (by rw[size_alloc];show hb<_;omega),J7 _ TQ])).trans ((cell_of hc 0).trans rfl));have c5':(((w.alloc (.cells #[.int .i64 at_] 3)).alloc (.cells #[.int .u64 0] 45)).alloc (.cells #[.nilIface] 30)).cell? ⟨x,5,none⟩=some (.func (.func 50) #[] #[pt hb]):=
  (DX (by rw[J7 _ (by rw[size_alloc,size_alloc];show x<_;omega),J7 _ (by rw[size_alloc];show x<_;omega),J7 _ hx])).trans c5
 generalize fU s item=hh at *;clear hc
 go_enter_defers func24,ntmps24
 go_wp2_with (go_at_call 50;refine h1.mono ?_;rintro e w1 ⟨rfl,rfl⟩)
 refine leaves_cons (f:=54) (args:=#[.pointer (some ⟨w.heap.size,0,none⟩),.pointer (some ⟨w.heap.size+1,0,none⟩),.pointer (some ⟨w.heap.size+1+1,0,none⟩)]) (by simp) (by simp[go_sem]) ?_;refine(Ji3 _ _ _ _).mono ?_;rintro e u' Qw ⟨rfl,rfl,rfl⟩;simp[Leaves,settle,results,results24,go_sem];exact((Tch.refl.alloc (Ad _) _).alloc (by rw[size_alloc];omega) _).alloc (by rw[size_alloc,size_alloc];omega) _
end
end Go.Sim.Z
namespace Go.Sim.Z
open Go Go.Proofs Go.RowKit Go.Conc Go.Maps
theorem Jju(y:Int):0<=IntKind.u64.wrap y/\IntKind.u64.wrap y<=18446744073709551615:=Jz2 y
def Jza(s n:Int):Int:=IntKind.u64.wrap (IntKind.u64.wrap n+IntKind.u64.wrap (IntKind.u64.wrap s*11400714819323198485))
def Jno(z k m:Int):Int:=IntKind.u64.wrap (bits .xor .u64 z (z / k)*m)
def VT(s n:Int):Int:=bits .xor .u64 (Jno (Jno (Jza s n) 1073741824 13787848793156543929) 134217728 10723151780598845931) (Jno (Jno (Jza s n) 1073741824 13787848793156543929) 134217728 10723151780598845931 / 2147483648)
theorem Jwj(s n:Int):0<=VT s n/\VT s n<=18446744073709551615:=by unfold VT bits;exact Jju _
theorem Jqp{s n:Int}{b:Nat}{w:JE}(h:w.cell? ⟨b,0,none⟩=some (.int .i64 s)):Calls prog 72 #[.int .i64 n,.pointer (some ⟨b,0,none⟩)] w λe w'=>e=.returned (.int .u64 (VT s n))/\w'=w:=by
 go_enter func72,ntmps72
 go_wp2;go_ret;exact⟨rfl,rfl⟩
section
variable{w:JE}{x:Nat}{c:J8}{seed:Int}{nf:Int}{vm base:Nat}
theorem Jkn{hb:Nat}{s:Int}(q:Dq w x c seed (.func (.func 72) #[] #[pt hb]) nf vm base)(hc:w.heap[hb]?=some (.cells #[.int .i64 s] 3))(item at_:Int) :
  Calls prog 24 #[.pointer (some ⟨x,0,none⟩),.int .i64 item,.int .i64 at_] w λe w'=>e=.returned (.tuple #[.int .u64 (VT s item),.nilIface])/\Tch w.heap.size M0 w w':=by
 have hmf:∀(fn:Fn)(first cap:JC)(w:JE),(Instr.makeFunc fn first cap).run prog w=.ok (.func fn first cap) w:=λ_ _ _ _=>rfl;have hx:x<w.heap.size:=q.blk.lt;have c5:w.cell? ⟨x,5,none⟩=some (.func (.func 72) #[] #[pt hb]):=q.cells.2.2.2.2.2.1;have TQ:=Ji hc;have h1:Calls prog 72 #[.int .i64 item,.pointer (some ⟨hb,0,none⟩)] (((w.alloc (.cells #[.int .i64 at_] 3)).alloc (.cells #[.int .u64 0] 45)).alloc (.cells #[.nilIface] 30)) λe w'=>e=.returned (.int .u64 (VT s item))/\w'=((w.alloc (.cells #[.int .i64 at_] 3)).alloc (.cells #[.int .u64 0] 45)).alloc (.cells #[.nilIface] 30):=Jqp ((DX (by rw[J7 _ (by rw[size_alloc,size_alloc];show hb<_;omega),J7 _ (by rw[size_alloc];show hb<_;omega),J7 _ TQ])).trans ((cell_of hc 0).trans rfl));have c5':(((w.alloc (.cells #[.int .i64 at_] 3)).alloc (.cells #[.int .u64 0] 45)).alloc (.cells #[.nilIface] 30)).cell? ⟨x,5,none⟩=some (.func (.func 72) #[] #[pt hb]):=
  (DX (by rw[J7 _ (by rw[size_alloc,size_alloc];show x<_;omega),J7 _ (by rw[size_alloc];show x<_;omega),J7 _ hx])).trans c5
 generalize VT s item=hh at *;clear hc
 go_enter_defers func24,ntmps24
 go_wp2_with (go_at_call 72;refine h1.mono ?_;rintro e w1 ⟨rfl,rfl⟩)
 refine leaves_cons (f:=54) (args:=#[.pointer (some ⟨w.heap.size,0,none⟩),.pointer (some ⟨w.heap.size+1,0,none⟩),.pointer (some ⟨w.heap.size+1+1,0,none⟩)]) (by simp) (by simp[go_sem]) ?_;refine(Ji3 _ _ _ _).mono ?_;rintro e u' Qw ⟨rfl,rfl,rfl⟩;simp[Leaves,settle,results,results24,go_sem];exact((Tch.refl.alloc (Ad _) _).alloc (by rw[size_alloc];omega) _).alloc (by rw[size_alloc,size_alloc];omega) _
end
inductive IY(w:JE):JJ->(Int->Int)->Prop
 |one:IY w h49 (λy=>IntKind.u64.wrap y)
 |two{b:Nat}{s:Int}(h:w.heap[b]?=some (.cells #[.int .i64 s] 3)):IY w (.func (.func 50) #[] #[pt b]) (fU s)
 |mix{b:Nat}{s:Int}(h:w.heap[b]?=some (.cells #[.int .i64 s] 3)):IY w (.func (.func 72) #[] #[pt b]) (VT s)
section
variable{w:JE}{h:JJ}{hs:Int->Int}
theorem IY.bd(q:IY w h hs)(y:Int):0<=hs y/\hs y<=18446744073709551615:=by
 cases q with
 |one=>exact Jju y
 |two _=>exact Jju _
 |mix _=>exact Jwj _ y
def Uo:JJ->Option Nat
 |.func _ _ a=>(match(a[0]?:Option JJ)with
  |some (.pointer (some p))=>some p.block
  |_=>none)
 |_=>none
theorem IY.kept(q:IY w h hs){w':JE}(hk:∀b s,Uo h=some b->w.heap[b]?=some (.cells #[.int .i64 s] 3)->w'.heap[b]?=some (.cells #[.int .i64 s] 3)):IY w' h hs:=by
 cases q with
 |one=>exact .one
 |two h=>exact .two (hk _ _ rfl h)
 |mix h=>exact .mix (hk _ _ rfl h)
theorem IY.calls(q:IY w h hs){x:Nat}{c:J8}{seed nf:Int}{vm base:Nat}(qc:Dq w x c seed h nf vm base)(item at_:Int) :
  Calls prog 24 #[.pointer (some ⟨x,0,none⟩),.int .i64 item,.int .i64 at_] w λe w'=>e=.returned (.tuple #[.int .u64 (hs item),.nilIface])/\Tch w.heap.size M0 w w':=by
 cases q with
 |one=>exact Jos qc item at_
 |two h=>exact Jkm qc h item at_
 |mix h=>exact Jkn qc h item at_
end
def Jzb(w:JE)(c:J8)(seed:Int)(bs:JD)(hs:Int->Int)(e:Ending)(w':JE):Prop:=∃h,NewAt w c seed h bs e w'/\IY w' h hs/\∀b,Uo h=some b->w.heap.size<=b
def hsK(k n seed:Int):Int->Int:=if k=0 then VT seed else if k=1 thenλy=>IntKind.u64.wrap y else fU n
section
variable{w:JE}{c:J8}{seed:Int}
theorem Jt9{fr:Bool}{bb cap:Nat}{bs:JD}(hc:Jw c)(hr:Row fr w bb 3 .i64 bs cap)(CY:c.ba=some ⟨bb,0,none⟩)(BX:c.nb=bs.length)(hp:bs.Pairwise (· < ·))(k n:Int)(hk:0<=k/\k<3) :
  Calls prog 12 #[.agg (EY c 3 seed),.int .i64 k,.int .i64 n] w (Jzb w c seed bs (hsK k n seed)):=by
 obtain rfl|rfl|rfl:k=0\/k=1\/k=2:=by omega
 ·refine(Jt8 hc hr CY BX hp n).mono λe w' ⟨hb,h1,h2,h3⟩=>⟨_,h1,.mix h3,λb e=>?_⟩;cases e;exact h2
 ·exact(Jrf hc hr CY BX hp n).mono λe w' h1=>⟨_,h1,.one,λb e=>by cases e⟩
 ·refine(Jt7 hc hr CY BX hp n).mono λe w' ⟨hb,h1,h2,h3⟩=>⟨_,h1,.two h3,λb e=>?_⟩;cases e;exact h2
end
theorem Jnp{c:Int}(hc:I64 c)(w:JE):Calls prog 16 #[.int .i64 c] w λe w'=>e=.returned (.int .i64 (Ju c 3))/\w'=w:=by
 have hp:=YZ (n:=3) hc (by omega) (by omega) w
 go_enter func16,ntmps16
 go_wp2_with (go_at_call 8;refine hp.mono ?_;rintro e w1 ⟨rfl,rfl⟩)
 go_ret;exact⟨rfl,rfl⟩
theorem I8(f:Nat->JJ):((List.range 70).map f).toArray=#[f 0,f 1,f 2,f 3,f 4,f 5,f 6,f 7,f 8,f 9,f 10,f 11,f 12,f 13,f 14,f 15,f 16,f 17,f 18,f 19,f 20,f 21,f 22,f 23,f 24,f 25,f 26,f 27,f 28,f 29,f 30,f 31,f 32,f 33,f 34,f 35,f 36,f 37,f 38,f 39,f 40,f 41,f 42,f 43,f 44,f 45,f 46,f 47,f 48,f 49,f 50,f 51,f 52,f 53,f 54,f 55,f 56,f 57,f 58,f 59,f 60,f 61,f 62,f 63,f 64,f 65,f 66,f 67,f 68,f 69]:=by rfl
theorem Ut{T:JC}(h:T.size=70):∃f:Nat->JJ,T=((List.range 70).map f).toArray:=⟨_,Zd h⟩
noncomputable def b7:Code:=f7.body.getD .skip
noncomputable def Jnq:Code:=fC b7
noncomputable def Jnr:Code:=fC (sC b7)
noncomputable def Jns:Code:=fC (sC (sC b7))
noncomputable def zU:Code:=fC (sC (sC (sC b7)))
noncomputable def Jnu:Code:=fC (sC (sC (sC (sC b7))))
noncomputable def Jnv:Code:=fC (sC (sC (sC (sC (sC b7)))))
noncomputable def Jnw:Code:=fC (sC (sC (sC (sC (sC (sC b7))))))
noncomputable def ops7:Array Oper:=opsOf (fC (sC (sC (sC (sC (sC (sC (sC b7))))))))
noncomputable def Xm:Code:=sC (sC (sC (sC (sC (sC (sC (sC b7)))))))
theorem J04c:b7=.seq Jnq (.seq Jnr (.seq Jns (.seq zU (.seq Jnu (.seq Jnv (.seq Jnw (.seq (.region 9 ops7 false) Xm))))))):=by kernel_rfl
theorem body7:f7.body=some b7:=by kernel_rfl
section
variable{w:JE}{T:JC}{d:Deferred}{c:Int}{sl:JJ}{ga:JI}{cb x c2:Nat}
theorem Jta(Ae:T.size=70)(h0:T[0]?=some (.int .i64 c))(h1:T[1]?=some sl) :
  Jnq.wp prog (λe a w'=>e=.normal/\a.defers=[d]/\a.tmps.size=70/\a.tmps[0]?=some (.int .i64 c)/\a.tmps[1]?=some sl/\w'.heap=w.heap) ⟨T,[d]⟩ w:=by
 obtain⟨f,rfl⟩:=Ut Ae;rw[I8]at *;have e0:f 0=_:=Aa h0;have e1:f 1=_:=Aa h1;rw[e0,e1];simp only[Jnq,b7,fC,f7,Ar];go_wp2
theorem Jtb(hc:I64 c)(Ae:T.size=70)(h0:T[0]?=some (.int .i64 c))(h1:T[1]?=some sl) :
  Jnr.wp prog (λe a w'=>e=.normal/\a.defers=[d]/\a.tmps.size=70/\a.tmps[0]?=some (.int .i64 c)/\a.tmps[1]?=some sl/\a.tmps[5]?=some (pt (w.heap.size+2))/\Blk false w' (w.heap.size+2) (EY (V3 c (w.heap.size+1)) 3 c) 35/\Row false w' (w.heap.size+1) 3 .i64 FB 4/\Tch w.heap.size M0 w w') ⟨T,[d]⟩ w:=by
 obtain⟨f,rfl⟩:=Ut Ae;rw[I8]at *;have e0:f 0=_:=Aa h0;have e1:f 1=_:=Aa h1;rw[e0,e1];have hcf:=J9c hc w;simp only[Jnr,b7,fC,sC,f7,Ar]
 go_wp2_with (go_at_call 10;refine hcf.mono ?_;rintro e w1 ⟨rfl,rfl⟩)
 obtain⟨W1,AV⟩:∃W1,w.alloc (.cells #[.int .i64 3,.int .i64 (4+Ju c 1048576 % 3),.int .i64 (1+Ju c 1048576 / 3 % 8),.slice (some ⟨w.heap.size+1,0,none⟩) 4 4,.int .i64 c] 35)=W1:=⟨_,rfl⟩;have z1:W1.heap.size=w.heap.size+1:=by rw[<- AV,size_alloc]
 obtain⟨W2,DN⟩:∃W2,W1.alloc (.cells #[.int .i64 (-5),.int .i64 0,.int .i64 10,.int .i64 1000] 3)=W2:=⟨_,rfl⟩;have z2:W2.heap.size=w.heap.size+2:=by rw[<- DN,size_alloc,z1]
 have hr:=Ja (w:=W1) (.cells #[.int .i64 (-5),.int .i64 0,.int .i64 10,.int .i64 1000] 3);rw[DN,z1]at hr;simp only[AV,DN];refine⟨⟨(0,0),by have:=Ja (w:=W2) (.cells (EY (V3 c (w.heap.size+1)) 3 c) 35);rw[z2]at this;exact this,λ_=>rfl⟩,⟨#[.int .i64 (-5),.int .i64 0,.int .i64 10,.int .i64 1000],⟨(0,0),(J7 _ (by omega)).trans hr,λ_=>rfl⟩,rfl,by decide,λi hi=>?_,λv hv=>?_⟩,?_⟩
 ·match i,(show i<4 from hi)with
  |0,_|1,_|2,_|3,_=>rfl
 ·simp only[AO,C9,or_false]at hv;rcases hv with rfl|rfl|rfl|rfl<;>exact⟨_,_,rfl⟩
 ·rw[<- DN,<- AV];exact((Tch.refl.alloc (Ad _) _).alloc (by rw[size_alloc];omega) _).alloc (by rw[size_alloc,size_alloc];omega) _
theorem Jtc(hc:I64 c)(Ae:T.size=70)(h0:T[0]?=some (.int .i64 c))(h1:T[1]?=some sl)(h5:T[5]?=some (pt cb)) :
  Jns.wp prog (λe a w'=>e=.normal/\a.defers=[d]/\a.tmps.size=70/\a.tmps[0]?=some (.int .i64 c)/\a.tmps[1]?=some sl/\a.tmps[5]?=some (pt cb)/\a.tmps[6]?=some (.int .i64 (Ju c 3))/\w'.heap=w.heap) ⟨T,[d]⟩ w:=by
 obtain⟨f,rfl⟩:=Ut Ae;rw[I8]at *;have e0:f 0=_:=Aa h0;have e1:f 1=_:=Aa h1;have e5:f 5=_:=Aa h5;rw[e0,e1,e5];have hk:=Jnp hc w;simp only[Jns,b7,fC,sC,f7,Ar]
 go_wp2_with (go_at_call 16;refine hk.mono ?_;rintro e w1 ⟨rfl,rfl⟩)
theorem Jtd{fr:Bool}{cf:J8}{bb capb:Nat}{bs:JD}{seed k:Int}(hk:0<=k/\k<3)(hc:Jw cf)(hr:Row fr w bb 3 .i64 bs capb)(CY:cf.ba=some ⟨bb,0,none⟩)(BX:cf.nb=bs.length)(hp:bs.Pairwise (· < ·))(hb:Blk false w cb (EY cf 3 seed) 35)(Ae:T.size=70)(h0:T[0]?=some (.int .i64 c))(h1:T[1]?=some sl)(h5:T[5]?=some (pt cb))(h6:T[6]?=some (.int .i64 k)) :
  zU.wp prog (λe a w'=>e=.normal/\a.defers=[d]/\a.tmps.size=70/\a.tmps[1]?=some sl/\∃x,a.tmps[7]?=some (pt x)/\a.tmps[8]?=some .nilIface/\Jzb w cf seed bs (hsK k c seed) (.returned (.tuple #[pt x,.nilIface])) w') ⟨T,[d]⟩ w:=by
 obtain⟨f,rfl⟩:=Ut Ae;rw[I8]at *;have e0:f 0=_:=Aa h0;have e1:f 1=_:=Aa h1;have e5:f 5=_:=Aa h5;have e6:f 6=_:=Aa h6;rw[e0,e1,e5,e6];have hn:=Jt9 (seed:=seed) hc hr CY BX hp k c hk;obtain⟨q0,q1,q2,q3,q4⟩:=Blk.five hb;unfold EY at hn;clear CY BX hr hp hc hb;simp only[zU,b7,fC,sC,f7,Ar]
 go_wp2_with (go_at_call 12;refine hn.mono ?_;rintro e w1 hN;have ZC:=hN;obtain⟨h,⟨⟨x,vm,base,b2,c2,rfl,_⟩,_⟩,_⟩:=hN)
theorem Jte(Ae:T.size=70)(h1:T[1]?=some sl)(h7:T[7]?=some (pt x))(h8:T[8]?=some .nilIface) :
  Jnu.wp prog (λe a w'=>e=.normal/\a.defers=[d]/\a.tmps.size=70/\a.tmps[1]?=some sl/\a.tmps[7]?=some (pt x)/\w'.heap=w.heap) ⟨T,[d]⟩ w:=by
 obtain⟨f,rfl⟩:=Ut Ae;rw[I8]at *;have e1:f 1=_:=Aa h1;have e7:f 7=_:=Aa h7;have e8:f 8=_:=Aa h8;rw[e1,e7,e8];simp only[Jnu,b7,fC,sC,f7,Ar];go_wp2
theorem Jtf{fs:List Jg}{R:JE->Prop}(hI:Calls prog 13 #[pt x,.slice ga fs.length c2] w λe w'=>e=.returned .nilIface/\R w')(Ae:T.size=70)(h1:T[1]?=some (.slice ga fs.length c2))(h7:T[7]?=some (pt x)) :
  Jnv.wp prog (λe a w'=>e=.normal/\a.defers=[d]/\a.tmps.size=70/\a.tmps[1]?=some (.slice ga fs.length c2)/\a.tmps[7]?=some (pt x)/\a.tmps[8]?=some .nilIface/\R w') ⟨T,[d]⟩ w:=by
 obtain⟨f,rfl⟩:=Ut Ae;rw[I8]at *;have e1:f 1=_:=Aa h1;have e7:f 7=_:=Aa h7;rw[e1,e7];simp only[Jnv,b7,fC,sC,f7,Ar]
 go_wp2_with (go_at_call 13;refine hI.mono ?_;rintro e w1 ⟨rfl,hR⟩)
 exact hR
theorem Jtg(Ae:T.size=70)(h1:T[1]?=some sl)(h7:T[7]?=some (pt x))(h8:T[8]?=some .nilIface) :
  Jnw.wp prog (λe a w'=>e=.normal/\a.defers=[d]/\a.tmps.size=70/\a.tmps[1]?=some sl/\a.tmps[7]?=some (pt x)/\w'.heap=w.heap) ⟨T,[d]⟩ w:=by
 obtain⟨f,rfl⟩:=Ut Ae;rw[I8]at *;have e1:f 1=_:=Aa h1;have e7:f 7=_:=Aa h7;have e8:f 8=_:=Aa h8;rw[e1,e7,e8];simp only[Jnw,b7,fC,sC,f7,Ar];go_wp2
end
section
variable{w:JE}{T:JC}{d:Deferred}{ga:JI}{n c2 x g vc:Nat}{va:JI}{sl v:JJ}
theorem Jqq(Ae:T.size=70)(h1:T[1]?=some (.slice ga 0 c2))(h7:T[7]?=some (pt x))(h9:T[9]?=some (.slice va 0 vc))(CQ:T[10]?=some .nilIface) :
  Xm.wp prog (λe a w'=>e=.ret/\a.defers=[d]/\a.tmps.size=70/\a.tmps[4]?=some (pt x)/\w'.heap=w.heap) ⟨T,[d]⟩ w:=by
 obtain⟨f,rfl⟩:=Ut Ae;rw[I8]at *;have e1:f 1=_:=Aa h1;have e7:f 7=_:=Aa h7;have e9:f 9=_:=Aa h9;have F9:f 10=_:=Aa CQ;rw[e1,e7,e9,F9];simp only[Xm,b7,sC,f7,Ar];go_wp2
theorem Jth(hn:0<n)(hc:w.cell? ⟨g,1,none⟩=some (.int .i64 n))(Ae:T.size=70)(h1:T[1]?=some (.slice ga n c2))(h7:T[7]?=some (pt x))(h9:T[9]?=some (.slice (some ⟨g,0,none⟩) 1 vc))(CQ:T[10]?=some .nilIface) :
  Xm.wp prog (λe a w'=>e=.ret/\a.defers=[d]/\a.tmps.size=70/\a.tmps[4]?=some (pt x)/\w'.heap=w.heap) ⟨T,[d]⟩ w:=by
 obtain⟨f,rfl⟩:=Ut Ae;rw[I8]at *;have e1:f 1=_:=Aa h1;have e7:f 7=_:=Aa h7;have e9:f 9=_:=Aa h9;have F9:f 10=_:=Aa CQ;rw[e1,e7,e9,F9];have YA:(0:Int)<n:=by omega
 have Ir:¬(n:Int)=0:=by omega
 simp only[Xm,b7,sC,f7,Ar];go_wp2
theorem Jwk{K:Exit->Act->JE->Prop}(Ae:T.size=70)(h1:T[1]?=some sl)(h7:T[7]?=some (pt x))(h35:T[35]?=some (.tuple #[v,.nilIface]))(hv:∃a l c,v=.slice a l c)
  (hK:∀a,a.defers=[d]->a.tmps.size=70->a.tmps[1]?=some sl->a.tmps[7]?=some (pt x)->a.tmps[9]?=some v->a.tmps[10]?=some .nilIface->K .normal a w) :
  wpOps prog ops7 K [2,3,4,5,6] ⟨T,[d]⟩ w:=by
 obtain⟨f,rfl⟩:=Ut Ae;rw[I8]at *;have e1:f 1=_:=Aa h1;have e7:f 7=_:=Aa h7;have e35:f 35=_:=Aa h35;rw[e1,e7,e35];obtain⟨va,vl,vc,rfl⟩:=hv;have h2:ops7[2]?=((ops7.toList.drop 2).take 5)[0]?:=by kernel_rfl
 have h3:ops7[3]?=((ops7.toList.drop 2).take 5)[1]?:=by kernel_rfl
 have h4:ops7[4]?=((ops7.toList.drop 2).take 5)[2]?:=by kernel_rfl
 have h5:ops7[5]?=((ops7.toList.drop 2).take 5)[3]?:=by kernel_rfl
 have h6:ops7[6]?=((ops7.toList.drop 2).take 5)[4]?:=by kernel_rfl
 have Au:∀j,j<((ops7.toList.drop 2).take 5).length->ops7[2+j]?=((ops7.toList.drop 2).take 5)[j]?:=λj hj=>by
  have:j<5:=Es hj (by rw[List.length_take];omega);obtain rfl|rfl|rfl|rfl|rfl:j=0\/j=1\/j=2\/j=3\/j=4:=by omega
  ·exact h2
  ·exact h3
  ·exact h4
  ·exact h5
  ·exact h6
 have e:=J6a (P:=prog) (ops:=ops7) (Q:=K) ((ops7.toList.drop 2).take 5) 2 Au;clear Au h2 h3 h4 h5 h6;rw[show List.range' 2 ((ops7.toList.drop 2).take 5).length=[2,3,4,5,6]from by kernel_rfl]at e;rw[e];simp only[ops7,opsOf,b7,fC,sC,f7,Ar,List.take,List.drop];go_wp2;exact hK _ rfl rfl rfl rfl rfl rfl
end
theorem J04d:Jj C0 S0 7 Jnq=true:=by kernel_rfl
theorem J04e:Jj C0 S0 7 Jnr=true:=by kernel_rfl
theorem J04f:Jj C0 S0 7 Jns=true:=by kernel_rfl
theorem J04g:Jj C0 S0 7 zU=true:=by kernel_rfl
theorem J04h:Jj C0 S0 7 Jnu=true:=by kernel_rfl
theorem J04i:Jj C0 S0 7 Jnv=true:=by kernel_rfl
theorem J04j:Jj C0 S0 7 Jnw=true:=by kernel_rfl
theorem J04k:Jj C0 S0 7 Xm=true:=by kernel_rfl
theorem J04l:La C0 S0 7 ops7 [2,3,4,5,6]=true:=by kernel_rfl
theorem Xn:GH C0 7:=⟨f7,by kernel_rfl,by kernel_rfl,by kernel_rfl⟩
theorem df7:S0.df.contains 7=false:=rfl
theorem Xu:C0.hl 7≠[]:=by show[1000]≠[];simp
theorem hl7{i:Nat}(h:(C0.hl 7).contains i=true):i∈([]:List Nat)\/500<=i:=by have h':i∈[1000]:=Nh.1 h;simp at h';omega
theorem Jnx{i:Nat}(h:i<500):(C0.hl 7).contains i=false:=by
 cases e:(C0.hl 7).contains i with
 |false=>rfl
 |true=>
  rcases hl7 e with h1|h1
  ·cases h1
  ·omega
theorem J04m:∃o,ops7[0]?=some o/\o.op=.move (.tmp 7)/\o.guard=none/\o.dst=some 34:=by simp only[ops7,opsOf,b7,fC,sC,f7,Ar];exact⟨_,rfl,rfl,rfl,rfl⟩
theorem J04n:∃o,ops7[1]?=some o/\o.op=.call { callee:=.value (.func 9),args:=#[.tmp 34,.const (.int .i64 0),.const (.slice none 0 0),.const (.int .i64 10)],argTypes:=#[25,3,55,3] }/\o.guard=none/\o.dst=some 35:=by simp only[ops7,opsOf,b7,fC,sC,f7,Ar];exact⟨_,rfl,rfl,rfl,rfl⟩
section
variable{W E:JB}{w:JE}{fn:JG}{c rest:Code}{t:JC}{k:List Item}{cs:List Frame}{Q:JC->JE->Prop}{Post:(JB)->JF->JE->Prop}
theorem QU(Sl:List Nat)(hl:∀i,(C0.hl fn).contains i=true->i∈Sl\/500<=i)(Aq:C0.hl fn≠[])(hok:Jj C0 S0 fn c=true)(hb:GH C0 fn)(Oq:S0.df.contains fn=false)(hB:BOk C0 S0 W E w)(ht:TmR C0 S0 fn (idE E) t t)(Ae:t.size<=500)
  (K:∀τ,c.wp prog (λe a w1=>e=.normal/\a.tmps.size<=500/\(∀i∈Sl,a.tmps[i]?=t[i]?)/\Q a.tmps w1) ⟨t,[Jp]⟩ (w.tp τ 0))
  (kn:∀E' t' w1 w',(∀b,E b->E' b)->BOk C0 S0 W E' w'->WR C0 (okP C0 S0) (idE E') w1 w'->TmR C0 S0 fn (idE E') t' t'->Q t' w1->(∀b,W b->w'.heap[b]?=w.heap[b]?)->Reach prog Post W (G ((Go.Conc.base fn).at ⟨t',[]⟩ (.code rest::k)) cs) w') :
  Reach prog Post W (G ((Go.Conc.base fn).at ⟨t,[]⟩ (.code (.seq c rest)::k)) cs) w:=by
 refine Reach.mid (Mid:=λg' w'=>∃E' t' w1,g'=G ((Go.Conc.base fn).at ⟨t',[]⟩ (.code rest::k)) cs/\(∀b,E b->E' b)/\BOk C0 S0 W E' w'/\WR C0 (okP C0 S0) (idE E') w1 w'/\TmR C0 S0 fn (idE E') t' t'/\Q t' w1) ?_ λg' w' ⟨E',t',w1,e,h1,h2,h3,h4,h5⟩ hK=>?_
 ·refine J6 (λw1=>stepG_seq) rfl λd=>?_;refine Reach.piece (b:=Go.Conc.base fn) (k:=.code rest::k) MZ rfl hok hb Oq Aq (by simp[Go.Conc.base]) (hB.at d) ht (Q:=λe t w1=>e=.normal/\Q t w1) (λτ=>?_) (λE1 t1 w1 Ap AU Cj AV A8 Eh=>Reach.here ⟨rfl,E1,t1,w1,rfl,AU,Cj,AV,A8,Eh.2⟩) (λE1 t1 w1 Ap todo AU Cj AV A8 Eh=>by cases Eh.1);refine wp_mono (K τ) λe a w1 ⟨h1,h2,h0,h3⟩=>⟨.inl h1,λi hi=>?_,h1,h3⟩;rcases hl i hi with h|h
  ·exact h0 i h
  ·rw[DK (by omega),DK (by omega)]
 ·subst e;exact kn E' t' w1 w' h1 h2 h3 h4 h5 hK
end
theorem Jzc{E:JB}{h:JJ}{b:Nat}(hv:VR C0 (idE E) h h)(hb:Uo h=some b):E b:=by
 cases h with
 |func fn a cap=>
  cases hv with
  |func hf ha hx hc hy=>
   simp only[Uo]at hb;split at hb
   ·rename_i p hp;cases hb;exact(hy 0 _ _ hp hp).OX
   ·cases hb
 |_=>cases hb
theorem IY.ke{E:JB}{w w':JE}{h:JJ}{hs:Int->Int}(q:IY w h hs)(k:KE E w w')(hE:∀b,Uo h=some b->E b):IY w' h hs:=q.kept λb s hb hc=>k b _ (hE b hb) hc trivial
structure EW(X E:JB)(w:JE)(x:Nat)(c:J8)(seed:Int)(h:JJ)(hs:Int->Int)(nf:Int)(vm base:Nat)(S:List TR):Prop where
 q:KY E w x c seed h nf vm base S
 hash:IY w h hs
 hb:∀b,Uo h=some b->E b/\b≠x/\b≠base/\b∉tpl S
 bnd:∃b2 c2,c.ba=some ⟨b2,0,none⟩/\Row false w b2 3 .i64 FB c2/\b2≠x/\b2≠base/\b2∉tpl S
 nb:c.nb=4
 dX:x≠base/\x∉tpl S
 dV:vm≠base/\vm∉tpl S/\vm≠x
 new:∀b,X b->b≠x/\b≠base/\b∉tpl S
def J09h(X E:JB)(w:JE)(k:Int)(x:Nat)(c:J8)(h:JJ)(hs:Int->Int)(nf:Int)(vm base:Nat)(S:List TR):Prop:=
 EW X E w x c k h hs nf vm base S/\hs=hsK (Ju k 3) k k/\c.bits=(V3 k 0).bits/\c.K=(V3 k 0).K/\0<=nf/\nf<=200
section
variable{W E:JB}{w:JE}{c:Int}{ga:JI}{fs:List Jg}{c2f:Nat}{pl:List Nat}{b₀:Frame}{a₀:Act}{ops:Array Oper}{i:Nat}{rest:List Nat}{kk:List Item}{cs:List Frame}{Post:(JB)->JF->JE->Prop}
theorem Jko{T0:JC}(hB:BOk C0 S0 W E w)(hok:HOk w)(hc:I64 c)(fa:Fa false w ga fs c2f pl)(FP:∀f∈fs,SA f/\Js f.k∈U64)(TB:fs.length<=200)(Ae:T0.size=70)(h0:T0[0]?=some (.int .i64 c))(h1:T0[1]?=some (.slice ga fs.length c2f))(BA:TmR C0 S0 7 (idE E) T0 T0)
  (kn:∀W' E' w' x c' h hs nf vm base S,(∀b,E b->E' b)->BOk C0 S0 W' E' w'->KE E w w'->KY E' w' x c' c h nf vm base S->GK c' hs fs S->(c'.bits=4+Ju c 1048576 % 3/\c'.nb=4)->(∀y,0<=hs y/\hs y<=18446744073709551615)->HOk w'->E' x->J09h E E' w' c x c' h hs nf vm base S ->
   Reach prog Post W' (G (b₀.at (a₀.put ((ops[i]?).bind (·.dst)) (pt x)) (.inRegion ops rest::kk)) cs) w') :
  Reach prog Post W (G ((Go.Conc.base 7).at ⟨T0,[]⟩ [.code b7]) (b₀.at a₀ (.inRegion ops (i::rest)::kk)::cs)) w:=by
 have Vr:prog.globals.size<w.heap.size:=hB.lt hB.hnd;have eg:∀a,ga=some a->E a.block:=λa e=>by rw[e]at h1;exact(BA.slot (i:=1) (Jnx (by omega)) h1).Ik
 rw[J04c];have WV:∀{a:Act}{t:JC},∀i∈([]:List Nat),a.tmps[i]?=t[i]?:=λi h=>by cases h
 refine QU [] (λ_=>hl7) Xu J04d Xn df7 hB BA (by omega) (Q:=λt w1=>t.size=70/\t[0]?=some (.int .i64 c)/\t[1]?=some (.slice ga fs.length c2f)/\w1.heap=w.heap) (λτ=>wp_mono (Jta (w:=w.tp τ 0) Ae h0 h1) λe a w1 ⟨q1,q2,q3,q4,q5,q6⟩=>⟨q1,by omega,WV,q3,q4,q5,q6⟩) λE0 T1 w1 w0 TT nO BZ A8 ⟨z1,z2,z3,z4⟩ _=>?_;have k0:KE E w w0:=(KE.of_eq λb _=>by rw[z4]).trans ((Jy rfl BZ).mono TT);have hok0:=hok.ke k0 hB.hnd;have Bf:prog.globals.size<w0.heap.size:=nO.lt nO.hnd;clear z4;refine QU [] (λ_=>hl7) Xu J04e Xn df7 nO A8 (by omega) (Q:=λt w1=>t.size=70/\t[0]?=some (.int .i64 c)/\t[1]?=some (.slice ga fs.length c2f)/\t[5]?=some (pt (w0.heap.size+2))/\Blk false w1 (w0.heap.size+2) (EY (V3 c (w0.heap.size+1)) 3 c) 35/\Row false w1 (w0.heap.size+1) 3 .i64 FB 4/\(w0.heap.size<=w1.heap.size/\∀b,b<w0.heap.size->w1.heap[b]?=w0.heap[b]?)) (λτ=>wp_mono (Jtb (w:=w0.tp τ 0) hc z1 z2 z3) λe a w1 ⟨q1,q2,q3,q4,q5,q6,q7,q8,q9⟩=>⟨q1,by omega,WV,q3,q4,q5,q6,q7,q8,q9.size,λb hb=>q9.heap b hb λh=>h⟩) λE1 T2 wb w1 KH Cj AV Bc ⟨y1,y0,y2,y3,y4,y5,y6⟩ _=>?_;generalize YA:w0.heap.size=n1 at *;have l1:=Jy rfl AV;have k1:KE E0 w0 w1:=(KE.of_eq λb hb=>y6.2 b (YA▸nO.lt hb)).trans (l1.mono KH);have eb:E1 (n1+2):=(Bc.slot (i:=5) (Jnx (by omega)) y3).OX;have er:E1 (n1+1):=(AV.Uu eb ((y4.cell 3).trans rfl:wb.cell? ⟨n1+2,3,none⟩=some (.slice (some ⟨n1+1,0,none⟩) 4 4))).Ik;have b1:=l1.blk eb y4;have r1:=y5.keE l1 er;have lW:=hok0.ke k1 nO.hnd;clear y4 y5 y6;refine QU [] (λ_=>hl7) Xu J04f Xn df7 Cj Bc (by omega) (Q:=λt w2=>t.size=70/\t[0]?=some (.int .i64 c)/\t[1]?=some (.slice ga fs.length c2f)/\t[5]?=some (pt (n1+2))/\t[6]?=some (.int .i64 (Ju c 3))/\w2.heap=w1.heap) (λτ=>wp_mono (Jtc (w:=w1.tp τ 0) hc y1 y0 y2 y3) λe a w2 ⟨q1,q2,q3,q4,q5,q6,q7,q8⟩=>⟨q1,by omega,WV,q3,q4,q5,q6,q7,q8⟩) λE1' T2' wb' Ap Xf Qh hW1' ht2' ⟨v1,v0,v2,v3,v4,v5⟩ _=>?_;have xO:KE E1 w1 Ap:=(KE.of_eq λb _=>by rw[v5]).trans ((Jy rfl hW1').mono Xf);have b1':=xO.blk eb b1;have r1':=r1.keE xO er;have Jny:=lW.ke xO Cj.hnd;have Bq:prog.globals.size<Ap.heap.size:=Qh.lt Qh.hnd;clear v5 b1 r1 lW;have PG:=YP (c:=c) (n:=3) (by omega);refine QU [] (λ_=>hl7) Xu J04g Xn df7 Qh ht2' (by omega) (Q:=λt w2=>t.size=70/\t[1]?=some (.slice ga fs.length c2f)/\∃x h vm base b2 c2,t[7]?=some (pt x)/\t[8]?=some .nilIface/\(Ap.heap.size<=x/\Ap.heap.size<=vm/\Ap.heap.size<=base/\Ap.heap.size<=b2)/\Dq w2 x { V3 c (n1+1)with ba:=some ⟨b2,0,none⟩,cb:=c2 } c h 0 vm base/\w2.heap[base]?=some (.map #[] 0)/\Row false w2 b2 3 .i64 FB c2/\(x≠vm/\x≠base/\x≠b2/\vm≠base/\vm≠b2/\base≠b2)/\(Ap.heap.size<=w2.heap.size/\∀b,b<Ap.heap.size->w2.heap[b]?=Ap.heap[b]?)/\IY w2 h (hsK (Ju c 3) c c)/\(∀b,Uo h=some b->b≠x/\b≠base)) (λτ=>wp_mono (Jtd (w:=Ap.tp τ 0) PG (dQ c _) (Row.kept (w:=Ap) r1' rfl) rfl rfl gB (Blk.kept (w:=Ap) b1' rfl) v1 v0 v2 v3 v4) λe a w2 ⟨q1,q2,q3,q4,x,q6,q7,h,q8,q9,q10⟩=>by
  obtain⟨x',vm,base,b2,c2,e1,p1,p2,p3,p4,p5⟩:=q8.ex;obtain rfl:x=x':=by simpa using e1
  refine⟨q1,by omega,WV,q3,q4,x,h,vm,base,b2,c2,q6,q7,p1,p2,p3,p4,p5,⟨q8.tch.size,λb hb=>q8.tch.heap b hb λh=>h⟩,q9,λb hb=>?_⟩;obtain⟨s,Dx⟩:∃s,w2.heap[b]?=some (.cells #[.int .i64 s] 3):=by
   generalize hsK (Ju c 3) c c=hsx at q9;cases q9 with
   |one=>cases hb
   |two h=>cases hb;exact⟨_,h⟩
   |mix h=>cases hb;exact⟨_,h⟩
  refine⟨λe=>?_,λe=>?_⟩
  ·obtain⟨z,hz,_⟩:=p2.blk;rw[e,hz]at Dx;cases Dx
  ·rw[e,p3]at Dx;cases Dx) λE2 T3 wb2 w2 lT D5 DN DR ⟨x1,x2,x,h,vm,base,b2,c2,x4,x5,⟨g1,g2,g3,g4⟩,cu,em,rw2,⟨d1,d2,d3,d4,d5,d6⟩,⟨kz,kk'⟩,hh,xI⟩ _=>?_
 obtain⟨hs,Vj⟩:∃hs,hs=hsK (Ju c 3) c c:=⟨_,rfl⟩;rw[<- Vj]at hh;have l2:=Jy rfl DN;have k2:KE E1' Ap w2:=(KE.of_eq λb hb=>kk' b (Qh.lt hb)).trans (l2.mono lT);have ex:E2 x:=(DR.slot (i:=7) (Jnx (by omega)) x4).OX;obtain⟨c',L6⟩:∃c',c'={ V3 c (n1+1)with ba:=some ⟨b2,0,none⟩,cb:=c2 }:=⟨_,rfl⟩;have WM:c'.ba=some ⟨b2,0,none⟩:=by rw[L6]
 have ZJ:c'.nb=4:=by rw[L6];rfl
 have cb':c'.bits=4+Ju c 1048576 % 3:=by rw[L6];rfl
 have G8:Jw c':=by rw[L6];exact⟨(dQ c 0).b1,(dQ c 0).b2,(dQ c 0).k1,(dQ c 0).k2,(dQ c 0).nb⟩
 rw[<- L6]at cu;have bV:HOk wb2:=Jny.ke (KE.of_eq λb hb=>kk' b (Qh.lt hb)) Qh.hnd;have Jqr:∃arr t,Blk false wb2 b2 arr t/\Plain arr:=by obtain⟨cur,p1,_,_,_,p2⟩:=rw2;exact⟨cur,_,p1,p2⟩
 have q2:KY E2 w2 x c' c h 0 vm base []:=by
  refine KY.OW DN cu (TabAt.of_empty em) bV D5.hnd ex (λy hy=>?_) (λa ha=>?_) G8 (by simp)
  ·rcases hy with rfl|hy
   ·omega
   ·simp[tpl]at hy
  ·rw[WM]at ha;cases ha;exact⟨by show _<=b2;omega,Jqr⟩
 have Jti:∀b,Uo h=some b->E2 b:=λb hb=>Jzc (DN.Uu ex cu.cells.2.2.2.2.2.1) hb;have FI:IY w2 h hs:=hh.ke l2 Jti;have xQ:E2 b2:=(q2.bE _ WM).1;have r2:=rw2.keE l2 xQ;have Oc:=Jny.ke k2 Qh.hnd;clear kz kk' cu bV Jqr rw2 em b1' r1' Jny hh;refine QU [] (λ_=>hl7) Xu J04h Xn df7 D5 DR (by omega) (Q:=λt w3=>t.size=70/\t[1]?=some (.slice ga fs.length c2f)/\t[7]?=some (pt x)/\w3.heap=w2.heap) (λτ=>wp_mono (Jte (w:=w2.tp τ 0) x1 x2 x4 x5) λe a w1 ⟨q1,q2,q3,q4,q5,q6⟩=>⟨q1,by omega,WV,q3,q4,q5,q6⟩) λE4 T5 wb3 w4 Vq II Dt F8 ⟨u1,u2,u3,v5⟩ _=>?_;have k3:KE E2 w2 w4:=(KE.of_eq λb _=>by rw[v5]).trans ((Jy rfl Dt).mono Vq);have q4:=q2.ke k3 D5.hnd Vq;have r4:=r2.keE k3 xQ;have Jnz:=Oc.ke k3 D5.hnd;have Sj:=FI.ke k3 Jti;have Jjw:∀b,Uo h=some b->E4 b:=λb hb=>Vq _ (Jti b hb);have Zr:∀b,E b->E4 b:=λb hb=>Vq b (lT b (Xf b (KH b (TT b hb))));have kW:KE E w w4:=k0.trans ((k1.mono TT).trans ((xO.mono λb hb=>KH b (TT b hb)).trans ((k2.mono λb hb=>Xf b (KH b (TT b hb))).trans (k3.mono λb hb=>lT b (Xf b (KH b (TT b hb)))))));have Y0:∀b,E4 b->b<w4.heap.size:=λb hb=>II.lt hb;have aT:prog.globals.size<w4.heap.size:=II.lt II.hnd;have ex4:=Y0 _ q4.xE.1;have ev4:=Y0 _ q4.xE.2;have es4:=Y0 _ (q4.tE _ (.inl rfl)).1;have Om:=Y0 _ (q4.bE _ WM).1;obtain⟨pl4,ZF,fa4⟩:=Fa.ke hB.wr eg kW fa;have plt:∀y∈pl4,y<Ap.heap.size:=λy hy=>Qh.lt (Xf _ (KH _ (TT _ (ZF y hy).2.1)));clear v5 r2 Oc q2 FI;have ing:∀τ,Juf (w4.tp τ 0) x c' c h 0 vm base [] ga fs c2f pl4 hs FB U64:=λτ=>{
  q:=q4.cube.kept rfl rfl
  tab:=q4.tab.kept λ_ _=>rfl
  fsa:=fa4.kept λ_ _=>rfl
  okf:=λg hg=>(FP g hg).1
  bnd:=.inr ⟨b2,c2,WM,Row.kept r4 rfl⟩
  bsl:=by rw[ZJ];rfl
  so:=gB
  cfg:=G8
  hsr:=Sj.bd
  one:=λw1 t item at_=>IY.calls (Sj.kept λb s hb hc=>(t.heap b (Y0 b (Jjw b hb)) λh=>h).trans hc) ((q4.cube.kept (w':=w4.tp τ 0) rfl rfl).kept (t.heap x q4.cube.blk.lt λh=>h) (t.heap vm q4.cube.vs.lt λh=>h)) item at_
  dF:=λy hy=>by have:=plt y hy;exact⟨by omega,by simp[tpl],by omega⟩
  dX:=⟨d2,by simp[tpl]⟩
  dV:=⟨d4,by simp[tpl],Ne.symm d1⟩
  dB:=λa ha=>by rw[WM]at ha;cases ha;exact⟨Ne.symm d6,by simp[tpl],Om,Ne.symm d3⟩
  n1:=by omega
  nf0:=by omega
  nf1:=by omega
  hU:=λg hg=>(FP g hg).2
  hTU:=λt ht=>by cases ht
  hUn:=by rw[Jwe];omega }
 refine QU [] (λ_=>hl7) Xu J04i Xn df7 II F8 (by omega) (Q:=λt w5=>t.size=70/\t[1]?=some (.slice ga fs.length c2f)/\t[7]?=some (pt x)/\t[8]?=some .nilIface/\Dq w5 x c' c h (0+fs.length) vm base/\(∃T',TabAt false w5 c' base T'/\(∀key,tm T' key=Oy c' FB hs 7 (tm []) fs key)/\∀y,y=base\/y∈tpl T'->y=base\/w4.heap.size<=y)/\(∀b,b<w4.heap.size->b≠x->b≠base->w5.heap[b]?=w4.heap[b]?)) (λτ=>wp_mono (Jtf (w:=w4.tp τ 0) (Jq3 (ing τ)) u1 u2 u3) λe a w5 ⟨p1,p2,p3,p4,p5,p6,p8⟩=>⟨p1,by omega,WV,p3,p4,p5,p6,p8.q,by
  obtain⟨T',t1,t2,t3⟩:=p8.tab;exact⟨T',t1,t2,λy hy=>(t3 y hy).imp (λh=>h.resolve_right (by simp[tpl])) id⟩,λb hb h1 h2=>p8.tch.heap b hb λh=>by
  rcases h with h|h|h
  ·exact h1 h
  ·exact h2 h
  ·simp[tpl]at h⟩) λE5 T6 wb5 w5 XT TU OD TY ⟨s1,s2,s3,s4,cu,⟨T',Jzd,hT',CO⟩,kk5⟩ _=>?_
 have l5:=Jy rfl OD;have k5:KE (λb=>E4 b/\b≠x/\b≠base) w4 w5:=(KE.of_eq λb hb=>kk5 b (II.lt hb.1) hb.2.1 hb.2.2).trans (l5.mono λb hb=>XT b hb.1);have ex5:E5 x:=(TY.slot (i:=7) (Jnx (by omega)) s3).OX;have MC:GK c' hs fs T':=by refine⟨Jzd.nodup,λk=>?_,λf hf=>(FP f hf).1.n,TB⟩;have:=Jqi (c:=c') (bs:=FB) (hs:=hs) (fs:=fs) (g0:=[]) 7 (g:=tm []) (λk=>rfl) k;rw[Gm]at this;exact(hT' k).trans this
 have hgx:prog.globals.size≠x/\prog.globals.size≠base:=by omega
 have bV:HOk wb5:=Jnz.ke (E:=λb=>b=prog.globals.size) (KE.of_eq λb hb=>by subst hb;exact kk5 _ (II.lt II.hnd) hgx.1 hgx.2) rfl;have q5:KY E5 w5 x c' c h (0+fs.length) vm base T':=by
  refine KY.OW OD cu Jzd bV TU.hnd ex5 (λy hy=>?_) (λa ha=>?_) G8 (by have:=MC.len;omega)
  ·rcases CO y hy with rfl|h
   ·omega
   ·omega
  ·rw[WM]at ha;cases ha;obtain⟨cur,p1,p2,p3,p4,p5⟩:=r4;refine⟨by show _<=b2;omega,cur,_,p1.kept (kk5 b2 Om (Ne.symm d3) (Ne.symm d6)),p5⟩
 have kE5:KE E w w5:=kW.trans (k5.mono λb hb=>⟨Zr b hb,by have:=Qh.lt (Xf b (KH b (TT b hb)));omega,by have:=Qh.lt (Xf b (KH b (TT b hb)));omega⟩);have Jtj:∀b,E b->E5 b:=λb hb=>XT b (Zr b hb);refine QU [] (λ_=>hl7) Xu J04j Xn df7 TU TY (by omega) (Q:=λt w6=>t.size=70/\t[1]?=some (.slice ga fs.length c2f)/\t[7]?=some (pt x)/\w6.heap=w5.heap) (λτ=>wp_mono (Jtg (w:=w5.tp τ 0) s1 s2 s3 s4) λe a w1 ⟨q1,q2,q3,q4,q5,q6⟩=>⟨q1,by omega,WV,q3,q4,q5,q6⟩) λE6 T7 wb6 w6 Uf O9 QG Vo ⟨j1,j2,j3,v6⟩ _=>?_;have k6:KE E5 w5 w6:=(KE.of_eq λb _=>by rw[v6]).trans ((Jy rfl QG).mono Uf);have q6:=q5.ke k6 TU.hnd Uf;have ok6:HOk w6:=q6.hok;have yL:KE E w w6:=kE5.trans (k6.mono Jtj);have ex6:E6 x:=Uf _ ex5;clear v6;obtain⟨o0,h40,p40,g40,q40⟩:=J04m;obtain⟨o1,h41,p41,g41,q41⟩:=J04n;refine J6 (λw1=>stepG_seq) rfl λe1=>?_;refine J6 (λw1=>stepG_region) rfl λe2=>?_;rw[show List.range ops7.size=[0,1,2,3,4,5,6]from by kernel_rfl];refine J6 (λw1=>NP (v:=pt x) h40 (by simp[Region.wanted,g40]) (by simp[Go.Conc.base]) (by simp[execOp,p40,Act.eval,BH,j3]) (by simp[execOp,p40,Act.eval])) rfl λe3=>?_;rw[q40];have jL:=((O9.at e1).at e2).at e3;generalize Ua:((w6.at e1).at e2).at e3=w7 at jL ⊢;have hw7h:w7.heap=w6.heap:=by rw[<- Ua];rfl
 clear Ua;have k7:KE E6 w6 w7:=.of_eq λb _=>by rw[hw7h]
 have vx:VR C0 (idE E6) (pt x) (pt x):=.ptr _ _ ⟨rfl,ex6⟩;have ht8:TmR C0 S0 7 (idE E6) (T7.setIfInBounds 34 (pt x)) (T7.setIfInBounds 34 (pt x)):=Vo.set 34 vx λh=>by cases h
 refine Reach.call (B:=Go.Conc.base 7) (a:=⟨T7.setIfInBounds 34 (pt x),[]⟩) h41 (by simp[Region.wanted,g41]) (by simp[Go.Conc.base]) p41 (fn:=f9) (c:=b9) (by kernel_rfl) (by kernel_rfl) body9 λe4=>?_;have e9:(#[Operand.tmp 34,.const (.int .i64 0),.const (.slice none 0 0),.const (.int .i64 10)].map (Act.eval ⟨T7.setIfInBounds 34 (pt x),[]⟩))++Array.replicate (f9.ntmps-(#[Operand.tmp 34,.const (.int .i64 0),.const (.slice none 0 0),.const (.int .i64 10)].map (Act.eval ⟨T7.setIfInBounds 34 (pt x),[]⟩)).size) JA=#[pt x,.int .i64 (0:Nat),.slice none 0 0,.int .i64 10,JA,JA,JA,JA,JA,JA,JA,JA,JA,JA,JA,JA,JA,JA,JA,JA,JA,JA,JA,JA,JA,JA,JA,JA,JA,JA,JA,JA,JA]:=by
  have KO:f9.ntmps=33:=by kernel_rfl
  have h1:(#[Operand.tmp 34,.const (.int .i64 0),.const (.slice none 0 0),.const (.int .i64 10)].map (Act.eval ⟨T7.setIfInBounds 34 (pt x),[]⟩))=#[pt x,.int .i64 (0:Nat),.slice none 0 0,.int .i64 10]:=by simp[Act.eval,BH,FC,j1]
  rw[KO,h1];show _++Array.replicate 29 JA=_;rw[show Array.replicate 29 JA=#[JA,JA,JA,JA,JA,JA,JA,JA,JA,JA,JA,JA,JA,JA,JA,JA,JA,JA,JA,JA,JA,JA,JA,JA,JA,JA,JA,JA,JA]from by kernel_rfl];simp only[List.append_toArray,Hr,Gm]
 rw[e9];refine J7r (x:=x) (m:=0) (most:=10) (M:=200) (S:=T') (jL.at e4) ((q6.ke k7 O9.hnd λ_ h=>h).ke (w':=w7.at e4) (KE.of_eq λ_ _=>rfl) O9.hnd λ_ h=>h) (by omega) (by omega) MC.hin (by have:=MC.len;omega) (by omega) (λT hn hT=>by have:=(GK.one (hs:=hs) MC.n3 hn (MC.sum G8 ZJ Sj.bd hT)).1;omega) λW7 E7 w8 v T ks L qo=>?_;rw[h41];simp only[Option.bind_some,q41];have Jo0:=MC.sum G8 ZJ Sj.bd qo.sum;obtain⟨one1,one2,one3⟩:=GK.one (hs:=hs) MC.n3 qo.nd Jo0;have vt:VR C0 (idE E7) (.tuple #[v,.nilIface]) (.tuple #[v,.nilIface]):=.tuple rfl λi x x' h1 h2=>by
  rw[h1]at h2;cases h2
  match i with
  |0=>cases h1;exact qo.vE
  |1=>cases h1;exact .nilIface
  |i+2=>simp at h1
 have ht9:TmR C0 S0 7 (idE E7) ((T7.setIfInBounds 34 (pt x)).setIfInBounds 35 (.tuple #[v,.nilIface])) ((T7.setIfInBounds 34 (pt x)).setIfInBounds 35 (.tuple #[v,.nilIface])):=(ht8.mono (Ox qo.le)).set 35 vt λh=>by cases h
 obtain⟨va,vc,hv⟩:=J7c qo.row;have k8:KE E6 w6 w8:=k7.trans ((KE.of_eq (E:=E6) (w:=w7) (w1:=w7.at e4) λ_ _=>rfl).trans qo.ke);have Jo1:∀(τ)(T8:JC),T8.size=70->T8[1]?=some (.slice ga fs.length c2f)->T8[7]?=some (pt x)->T8[9]?=some v->T8[10]?=some .nilIface ->
   Xm.wp prog (λe a w'=>e=.ret/\a.defers=[Jp]/\a.tmps.size=70/\a.tmps[4]?=some (pt x)/\w'.heap=w8.heap) ⟨T8,[Jp]⟩ (w8.tp τ 0):=by
  intro τ T8 j1 j2 j7 j9 yG;have hL:L.length=T.length:=by rw[qo.outs.1];have:=qo.keys.length;simpa using this
  by_cases Aq:fs=[]
  ·have L8:T.length=0:=by
    rcases Nat.eq_zero_or_pos T.length with h|h
    ·exact h
    ·obtain⟨t,ht⟩:=List.exists_mem_of_length_pos h;obtain⟨_,f,hf,_⟩:=dS qo.nd Jo0 ht;rw[Aq]at hf;cases hf
   rw[hv,hL,L8]at j9;rw[Aq]at j2;exact Jqq (w:=w8.tp τ 0) j1 j2 j7 j9 yG
  ·have h1:=one2 Aq;obtain⟨q,hq⟩:∃q,L[0]?=some q:=⟨L[0]'(by omega),Dh _⟩;obtain⟨k0,Tz⟩:∃k0,ks[0]?=some k0:=⟨ks[0]'(by have:=qo.outs.1;omega),Dh _⟩;obtain⟨a1,a2,a3,a4⟩:=qo.outs.2 0 k0 q Tz hq;rw[hL,h1]at hv;rcases qo.row.2 with⟨_,e⟩|⟨g,cap,cur,e,_,O8,AX,PK,_,hx⟩
   ·rw[hL,h1]at e;cases e
   have a5:=Jo0 k0.1;rw[a2]at a5;obtain⟨t,T1,T2,rfl,tk,_⟩:=OY a2;have zk:k0.1=[0,0,0,0,0]:=by rw[<- tk];exact one3 t (by simp)
   rw[zk,sel0 MC.n3]at a5;have hB5':q.B=Jq c' FB (fs.map λf=>(hs f.it,f.v)):=by unfold Gp at a5;rw[if_neg (by simpa using Aq)]at a5;exact Aa a5
   have hn:q.B.n=fs.length:=by rw[hB5',Jqh (by rw[Et];omega),Et]
   have MV:L.length=1:=by omega
   have hLq:L=[q]:=by obtain⟨y,rfl⟩:=List.length_eq_one_iff.1 MV;simp at hq;rw[hq]
   have Fe:(w8.tp τ 0).cell? ⟨g,1,none⟩=some (.int .i64 fs.length):=by
    refine(cell_of (w:=w8.tp τ 0) O8 1).trans ?_;rw[MV,hLq]at hx;have h5:(List.take (1*5) cur.toList)[1]?=some (.int .i64 q.B.n):=by rw[hx];rfl
    rw[List.getElem?_take,if_pos (by omega),Array.getElem?_toList,hn]at h5;exact h5
   rw[e,MV]at j9;exact Jth (w:=w8.tp τ 0) (List.length_pos_iff.2 Aq) Fe j1 j2 j7 j9 yG
 refine Reach.ret (b:=Go.Conc.base 7) (X0:=[.inRegion ops7 [2,3,4,5,6],.code Xm]) (k:=[]) MZ rfl (.cons (.inRegion _ J04l) (.cons (.code J04k) .nil)) Xn df7 Xu (by simp[Go.Conc.base]) qo.bok ht9 (Q:=λt1 w1=>t1[4]?=some (pt x)/\w1.heap=w8.heap) (λτ=>?_) λE8 T9 w9 wA todo OL kM hW8 ht10 ⟨z1,z2⟩=>?_
 ·have sl:∀i,i≠34->i≠35->((T7.setIfInBounds 34 (pt x)).setIfInBounds 35 (.tuple #[v,.nilIface]))[i]?=T7[i]?:=λi h1 h2=>by rw[AQ (Ne.symm h2),AQ (Ne.symm h1)]
  refine LGo.ops (pre:=[2,3,4,5,6]) (rest:=[]) (Jwk (by simp[j1]) ((sl 1 (by omega) (by omega)).trans j2) ((sl 7 (by omega) (by omega)).trans j3) (by simp[j1]) ⟨_,_,_,hv⟩ λa m1 m2 m3 m4 m5 m6=>⟨rfl,m1,LGo.done (LGo.wp ?_)⟩);refine wp_mono (Jo1 τ a.tmps m2 m3 m4 m5 m6) λe b w' ⟨n1,n2,n3,n4,n5⟩=>?_;subst n1;refine Cont.ret ⟨λi hi Oa=>?_,n4,n5⟩ n2;rcases hl7 hi with h|h
  ·cases h
  ·simp[j1]at Oa;omega
 ·refine Reach.leave1 (B:=Go.Conc.base 7) rfl rfl (fn:=f7) (by kernel_rfl) (x:=4) (by kernel_rfl) λd12=>?_;have kf:KE E7 w8 wA:=(KE.of_eq λb _=>by rw[z2]).trans ((Jy rfl hW8).mono OL);have kA:KE E6 w6 wA:=k8.trans (kf.mono qo.le);have kA':KE E6 w6 (wA.at d12):=kA.trans (.of_eq λ_ _=>rfl);have q9:=q6.ke kA' O9.hnd λb hb=>OL b (qo.le b hb);rw[show(Act.mk T9 []).tmps.getD 4 JA=pt x from by simp[BH,z1]];have lt1:∀b,E b->b<Ap.heap.size:=λb hb=>Qh.lt (Xf b (KH b (TT b hb)));have DL:∀y,y=base\/y∈tpl T'->y=base\/w4.heap.size<=y:=CO;have Si:∀y,y<w4.heap.size->y≠base->y∉tpl T':=λy h1 h2 h3=>by
   rcases DL y (.inr h3)with h|h
   ·exact h2 h
   ·omega
  have k59:KE E5 w5 (wA.at d12):=k6.trans (kA'.mono Uf);have r5:=r4.keE k5 ⟨Vq _ xQ,Ne.symm d3,Ne.symm d6⟩;have hh5:IY w5 h hs:=Sj.ke k5 λb hb=>⟨Jjw b hb,xI b hb⟩;have hbY:∀b,Uo h=some b->E5 b:=λb hb=>XT b (Jjw b hb);exact kn W7 E8 (wA.at d12) x c' h hs _ vm base T' (λb hb=>OL b (qo.le b (Uf b (Jtj b hb)))) (kM.at d12) (yL.trans (kA'.mono λb hb=>Uf b (Jtj b hb))) q9 MC ⟨cb',ZJ⟩ Sj.bd q9.hok (OL _ (qo.le _ ex6)) ⟨{
   q:=q9
   hash:=hh5.ke k59 hbY
   hb:=λb hb=>⟨OL b (qo.le b (Uf b (hbY b hb))),(xI b hb).1,(xI b hb).2,Si b (Y0 b (Jjw b hb)) (xI b hb).2⟩
   bnd:=⟨b2,c2,WM,r5.keE k59 (XT _ (Vq _ xQ)),Ne.symm d3,Ne.symm d6,Si b2 Om (Ne.symm d6)⟩
   nb:=ZJ
   dX:=⟨d2,Si x ex4 d2⟩
   dV:=⟨d4,Si vm ev4 d4,Ne.symm d1⟩
   new:=λb hb=>⟨by have:=lt1 b hb;omega,by have:=lt1 b hb;omega,Si b (Y0 b (Zr b hb)) (by have:=lt1 b hb;omega)⟩ },Vj,by rw[L6];rfl,by rw[L6];rfl,by omega,by omega⟩
end
section
variable{c:J8}{bs:JD}
end
section
variable{c:J8}{bs:JD}{hs:Int->Int}{fs:List Jg}
end
def J6d(m:Nat)(g:JD):JD:=(g.zipIdx.filter λp=>m.testBit p.2).map (·.1)
abbrev Zj:=JD × List (Int × Int)
structure J92(m:Nat)(fs:List Jg)(ks:List (JD)):Prop where
 nd:ks.Nodup
 of:∀k∈ks,∃f∈fs,Jb m (Js f.k) 5=k
 has:∀f∈fs,Jb m (Js f.k) 5∈ks
section
variable{c:J8}{hs:Int->Int}{fs:List Jg}{m:Nat}{ks k7 km:List (JD)}
def J30(m:Nat)(g:JD)(P:List Zj)(j:Nat):List (Int × Int):=((P.take j).filter λp=>decide (J6d m p.1=g)).flatMap (·.2)
structure Juz(c:J8)(m n:Nat)(P Pm:List Zj):Prop where
 ok7:∀p∈P,QM p.2/\p.1.length=3
 sum7:(P.map λp=>p.2.length).sum=n
 fine:∀p∈Pm,Jq c FB (J30 m p.1 P P.length)=Jq c FB p.2/\J30 m p.1 P P.length≠[]/\(J30 m p.1 P P.length).length=p.2.length/\p.1.length<=3
 sum:(Pm.map λp=>p.2.length).sum=n
 one:m=0->Pm.length<=1
end
section
variable{w:JE}{a b:JJ}{xs ys:JD}
theorem Jqw{ga gb ca cb:Nat}(hl:xs.length=ys.length)(hn:xs.length<=1000)(ha:0<xs.length->Row false w ga 3 .i64 xs ca)(hb:0<xs.length->Row false w gb 3 .i64 ys cb){va vb:JJ}(ea:∃p c,va=.slice p xs.length c/\(0<xs.length->p=some ⟨ga,0,none⟩))(eb:∃p c,vb=.slice p ys.length c/\(0<xs.length->p=some ⟨gb,0,none⟩)) :
  Calls prog 11 #[va,vb] w λe w'=>e=.returned (.bool (decide (xs=ys)))/\Tch w.heap.size M0 w w':=by
 obtain⟨pa,c1,rfl,qa⟩:=ea;obtain⟨pb,c2,rfl,qb⟩:=eb;rw[<- hl];obtain⟨n,KI⟩:∃n,xs.length=n:=⟨_,rfl⟩;have hca:∀wr,Tch w.heap.size M0 w wr->∀i,i<n->wr.cell? ⟨ga,i,none⟩=some (.int .i64 (xs.getD i 0)):=λwr t i hi=>((ha (by omega)).tch t (ha (by omega)).lt λx=>x).cell (by omega);have OB:∀wr,Tch w.heap.size M0 w wr->∀i,i<n->wr.cell? ⟨gb,i,none⟩=some (.int .i64 (ys.getD i 0)):=λwr t i hi=>((hb (by omega)).tch t (hb (by omega)).lt λx=>x).cell (by omega);rw[KI]at qa qb ⊢;have iH:¬((n:Int)≠n):=λh=>h rfl;have hx:∀i,i<n->xs.getD i 0=ys.getD i 0\/¬xs=ys:=λi hi=>by
  by_cases e:xs=ys
  ·exact .inl (by rw[e])
  ·exact .inr e
 have Bz:(∀i,i<n->xs.getD i 0=ys.getD i 0)->xs=ys:=λh=>by refine List.ext_getElem hl λi h1 h2=>?_;have:=h i (by omega);simpa[CP,h1,h2]using this
 clear ha hb
 go_enter func11,ntmps11
 go_wp2
 go_loopw [5] (λi wr=>∃k:Nat,k<=n/\i=.int .i64 k/\(∀i,i<k->xs.getD i 0=ys.getD i 0)/\Tch w.heap.size M0 w wr) (λi _=>n-(RowKit.intOf i).toNat)
 case atStart=>exact⟨0,by omega,rfl,λi h=>by omega,.refl⟩
 case round=>
  obtain⟨k,hk,rfl,heq,ht⟩:=hrel;rcases BG k n with Ac|Dp
  ·have g1:=hca _ ht k Ac;have g2:=OB _ ht k Ac;obtain rfl:=qa (by omega);obtain rfl:=qb (by omega);have BI:(k:Int)<n:=by omega
   have IC:=hx k Ac;have Af:xs.getD k 0=ys.getD k 0->∀i,i<k+1->xs.getD i 0=ys.getD i 0:=λe i hi=>by
    rcases BG i k with h|h
    ·exact heq i h
    ·obtain rfl:i=k:=by omega
     exact e
   generalize xs.getD k 0=x at *;generalize ys.getD k 0=y at *;clear hca OB hx Bz heq;by_cases e:x=y
   ·have D6:=Af e;clear Af IC;subst e;go_wp2
    go_region
    all_goals go_wp2
    exact⟨⟨k+1,by omega,by go_num,D6,ht.drew⟩,by simp[RowKit.intOf];omega⟩
   ·have Aq:=IC.resolve_left e;go_wp2
    go_region
    all_goals go_wp2
    go_ret;exact⟨by rw[decide_eq_false Aq];rfl,ht.drew⟩
  ·obtain rfl:k=n:=by omega
   have CB:¬((k:Int)<k):=by omega
   have:=Bz heq;clear hca OB hx Bz heq;go_wp2;go_ret;exact⟨by first|rfl|(rw[decide_eq_true this];rfl),ht⟩
theorem J93(ha:SlI false w 0 a 3 .i64 xs)(hb:SlI false w 0 b 3 .i64 ys)(hn:xs.length<=1000) :
  Calls prog 11 #[a,b] w λe w'=>e=.returned (.bool (decide (xs=ys)))/\Tch w.heap.size M0 w w':=by
 have ea:∃ga ca p c,a=.slice p xs.length c/\(0<xs.length->p=some ⟨ga,0,none⟩)/\(0<xs.length->Row false w ga 3 .i64 xs ca):=by
  rcases ha with⟨rfl,rfl⟩|⟨g,cap,rfl,_,h⟩
  ·exact⟨0,0,none,0,rfl,λh=>by simp at h,λh=>by simp at h⟩
  ·exact⟨g,cap,_,_,rfl,λ_=>rfl,λ_=>h⟩
 have eb:∃gb cb p c,b=.slice p ys.length c/\(0<ys.length->p=some ⟨gb,0,none⟩)/\(0<ys.length->Row false w gb 3 .i64 ys cb):=by
  rcases hb with⟨rfl,rfl⟩|⟨g,cap,rfl,_,h⟩
  ·exact⟨0,0,none,0,rfl,λh=>by simp at h,λh=>by simp at h⟩
  ·exact⟨g,cap,_,_,rfl,λ_=>rfl,λ_=>h⟩
 obtain⟨ga,ca,p,c,e1,h1,r1⟩:=ea;obtain⟨gb,cb,q,d,e2,h2,r2⟩:=eb;by_cases hl:xs.length=ys.length
 ·exact Jqw hl hn r1 (λh=>r2 (by omega)) ⟨p,c,e1,h1⟩ ⟨q,d,e2,λh=>h2 (by omega)⟩
 ·have Aq:xs≠ys:=λe=>hl (by rw[e]);rw[decide_eq_false Aq];subst e1 e2;have Zz:(xs.length:Int)≠ys.length:=by omega
  clear h1 h2 r1 r2;generalize xs.length=n at *;generalize ys.length=m at *
  go_enter func11,ntmps11
  go_wp2;go_ret;exact⟨rfl,.refl⟩
end
structure J3c(w:JE)(g j:Nat)(c:J8)(p:Zj):Prop where
 k:∃v,w.cell? ⟨g,j*5,none⟩=some v/\SlI false w 0 v 3 .i64 p.1
 n:w.cell? ⟨g,j*5+1,none⟩=some (.int .i64 (Jq c FB p.2).n)
 r:∃b q,w.cell? ⟨g,j*5+2,none⟩=some (.slice (some ⟨b,0,none⟩) (Jq c FB p.2).r.length q)/\Row false w b 3 .i64 (Jq c FB p.2).r q
 h:∃b q,w.cell? ⟨g,j*5+3,none⟩=some (.slice (some ⟨b,0,none⟩) (Jq c FB p.2).h.length q)/\Row false w b 3 .i64 (Jq c FB p.2).h q
section
variable{w w':JE}{g j:Nat}{c:J8}{p:Zj}{v:JJ}{xs:JD}
end
def setFrom:JC->Nat->List JJ->JC
 |T,_,[]=>T
 |T,b,v::vs=>setFrom (T.setIfInBounds b v) (b+1) vs
theorem J94:∀(vs:List JJ)(T:JC)(b s:Nat),s<b\/b+vs.length<=s->(setFrom T b vs)[s]?=T[s]?
 |[],_,_,_,_=>rfl
 |v::vs,T,b,s,h=>by rw[Gu]at h;rw[setFrom,J94 vs _ _ _ (by omega),AQ (by omega)]
theorem Jez:∀(vs:List JJ)(T:JC)(b i:Nat),b+vs.length<=T.size->i<vs.length->(setFrom T b vs)[b+i]?=vs[i]?
 |[],_,_,_,_,h=>by simp at h
 |v::vs,T,b,0,h,_=>by
  rw[Gu]at h;show(setFrom (T.setIfInBounds b v) (b+1) vs)[b]?=_;rw[J94 vs _ _ _ (by omega),EX (by omega)];rfl
 |v::vs,T,b,i+1,h,hi=>by rw[Gu]at h hi;rw[setFrom,show b+(i+1)=b+1+i by omega,Jez vs _ _ _ (by simp;omega) (by omega)];rfl
noncomputable def b3:Code:=f3.body.getD .skip
end Go.Sim.Z
namespace Go.Sim.Z
open Go Go.Proofs Go.RowKit
theorem rZ{P:Program}{ops:Array Oper}{Q:Exit->Act->JE->Prop}{id:Nat}{T0:JC}{ds:List Deferred}{w0:JE}(base m:Nat)(F:Nat->JJ->JE->Prop)(hm:P.follows .mixedOrders=true)(hok:Tv .any ops m (λi=>base+i)=true)(Ae:base+m<=T0.size)
  (stable:∀(i:Nat)(v:JJ)(w w':JE),F i v w->Tch w.heap.size M0 w w'->F i v w')
  (step:∀(i:Nat)(o:Oper)(a:Act)(w:JE),i<m->ops[i]?=some o->Tch w0.heap.size M0 w0 w->(∀s,s<base\/base+m<=s->a.tmps[s]?=T0[s]?)->(∀j,(o.after.toList.any λe=>e.on == j && Region.binds .any e)=true->∃v,a.tmps[base+j]?=some v/\F j v w) ->
   wpOp P ops Q i (λa' w'=>∃v,a'=a.put (some (base+i)) v/\F i v w'/\Tch w.heap.size M0 w w') a w)
  (fin:∀(vs:List JJ)(w:JE),vs.length=m->Tch w0.heap.size M0 w0 w->(∀i,i<m->F i (vs.getD i JA) w)->wpList P ops Q (ops.toList.drop m) ⟨setFrom T0 base vs,ds⟩ w) :
  (Code.region id ops true).wp P Q ⟨T0,ds⟩ w0:=by
 refine uT (M:=M0) m (λi=>base+i) F hm hok (λi hi=>by omega) stable (λi o a w hi ho ht hs hold hd=>?_) λa w ht GX hs hold hf=>?_
 ·exact step i o a w hi ho ht (λs h=>hold s λi hi=>by omega) hd
 ·obtain⟨tm,NI⟩:=a;simp only at GX hs hold hf;subst GX;obtain⟨vs,wS⟩:∃vs:List JJ,vs=(List.range m).map λi=>tm.getD (base+i) JA:=⟨_,rfl⟩;have hl:vs.length=m:=by rw[wS];simp
  have hv:∀i,i<m->tm[base+i]?=vs[i]?/\F i (vs.getD i JA) w:=λi hi=>by
   obtain⟨v,h1,h2⟩:=hf i hi;have e:vs[i]?=some v:=by rw[wS];simp[hi,BH,h1]
   rw[h1,e,CP,e];exact⟨rfl,h2⟩
  have e:tm=setFrom T0 base vs:=by
   refine Nv λs=>?_;by_cases h:base<=s/\s<base+m
   ·obtain⟨i,rfl⟩:∃i,s=base+i:=⟨s-base,by omega⟩;rw[(hv i (by omega)).1,Jez _ _ _ _ (by omega) (by omega)]
   ·rw[hold s λi hi=>by omega,J94 _ _ _ _ (by omega)]
  rw[e];have hw:=J6a (P:=P) (ops:=ops) (Q:=Q) (ops.toList.drop m) m λj hj=>by rw[List.getElem?_drop,Array.getElem?_toList]
  rw[List.length_drop,show ops.toList.length=ops.size from rfl]at hw;have h2:=fin vs w hl ht λi hi=>(hv i hi).2;rw[<- hw]at h2;exact h2
section
variable{w:JE}{base wb:Nat}{bs:JD}{n:Int}
theorem J059(n:Int):CG [n]=Eo n.toNat:=by simp[CG]
theorem YQ(hw:wb<base)(hb:base<=w.heap.size)(hW:WrB w base wb bs)(hn:0<=n/\n<=18446744073709551615)(hl:bs.length<=900000000) :
  Calls prog 30 #[.pointer (some ⟨wb,0,none⟩),.slice (some ⟨w.heap.size,0,none⟩) 1 1] (w.alloc (.cells #[.int .u64 n] 45)) λe w'=>(∃v,e=.returned v)/\WrB w' base wb (bs++Eo n.toNat)/\KP base wb w w':=by
 have Aj:Row false (w.alloc (.cells #[.int .u64 n] 45)) w.heap.size 45 .u64 [n] 1:=by
  refine⟨#[.int .u64 n],⟨(0,0),Ja _,λ_=>rfl⟩,rfl,Ad _,λi hi=>?_,λv hv=>?_⟩
  ·obtain rfl:i=0:=by simpa using hi
   rfl
  ·simp at hv;exact⟨_,_,hv⟩
 obtain⟨v,hv,hp⟩:=hW;have Ac:=Ji hv;have AV:WrB (w.alloc (.cells #[.int .u64 n] 45)) base wb bs:=⟨v,(J7 _ Ac).trans hv,hp.kept λb cur hb h=>(J7 _ (Ji h)).trans h⟩;refine(SH (g:=w.heap.size) (cap:=1) (xs:=[n]) hw (by rw[size_alloc];omega) AV (λ_=>Aj) (λ_=>by omega) (λx hx=>by simp at hx;subst hx;exact hn) (by simp;omega) ⟨_,1,rfl,λ_=>rfl⟩).mono ?_;rintro e w' ⟨h1,h2,h3⟩;rw[J059]at h2;exact⟨h1,h2,(KP.refl.alloc _).trans h3⟩
end
end Go.Sim.Z
