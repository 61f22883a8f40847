/- Proved: laws for the claim. No conditions. -/
import Derived.Maps.OwnSet
import Derived.Defers
import Derived.Recover
import Derived.Laws.Pointers
import Derived.Orders
import Derived.Deep.RegionHeld3
import Derived.Test.YtlcbehhbfglgaaaGreatDoorC10
import Derived.Test.YtlcbehhbfglgaaaGreatDoorC11
set_option linter.all false
set_option maxHeartbeats 12000000
set_option maxRecDepth 100000
open Go.Proofs.Tryz
namespace Go.Sim.Z
open Go Go.Proofs Go.RowKit Go.Maps Go.Sort
def J05v{α:Type}[DecidableEq α]:∀(a b:List α),a.Nodup->(∀x∈a,x∈b)->a.length<=b.length
 |[],_,_,_=>Nat.zero_le _
 |x::a,b,h,hs=>by
  have h1:=J05v a (b.erase x) (List.nodup_cons.1 h).2 λy hy=>by
   grind
  grind
structure VwD(D:DataW JJ)(f:Nat->Option Nat):Prop where
 td:Tidy D
 hs:∀k,has D k=true->∃m:Nat,m<8/\k=Lit.int .i64 m
 rd:∀m:Nat,D.atKey (Lit.int .i64 m) (.held (.map none))=.held (.map (f m))
 hf:∀m:Nat,has D (Lit.int .i64 m)=(f m).isSome
 fs:∀p∈(match D with| .map es=>es|_=>[]),WideAt.IsKeyLit p.1
def HY(w:JE)(vm:Nat)(f:Nat->Option Nat):Prop:=∃D,w.ownsMap prog 3 Rv vm (size D) D/\VwD D f
def aZ:Keyed prog 3:=int_keyed underlying3
def qU{m:Nat}(h:m<8):keyOf prog 3 (.int .i64 m)=some (.int .i64 m):=by
 simp[keyOf,underlying3,mapKey]
 match m,h with
 |0,_=>decide
 |1,_=>decide
 |2,_=>decide
 |3,_=>decide
 |4,_=>decide
 |5,_=>decide
 |6,_=>decide
 |7,_=>decide
 |m+8,h=>omega
theorem J07y(m:Nat):WideAt.IsKeyLit (Lit.int .i64 m):=trivial
def bM{m k:Nat}(h:(Lit.int .i64 m)=.int .i64 k):m=k:=by
 grind
def VwD.small{D:DataW JJ}{f:Nat->Option Nat}(h:VwD D f):size D<=8:=by
 obtain⟨es,rfl,hp⟩:=h.td;have h1:(es.map (·.1)).Nodup:=by
  grind
 have h2:∀k∈es.map (·.1),k∈(List.range 8).map λm:Nat=>(Lit.int .i64 m):=by
  intro k hk;obtain⟨p,XG,rfl⟩:=AZ.1 hk;have:has (.map es) p.1=true:=List.any_eq_true.2 ⟨p,XG,WideAt.sameKey_self (h.fs p XG)⟩;obtain⟨m,hm,e⟩:=h.hs _ this
  grind
 classical
 have:=J05v _ _ h1 h2;simpa[size]using this
def HY.of{w:JE}{vm n:Nat}{D:DataW JJ}{f:Nat->Option Nat}(h:w.ownsMap prog 3 Rv vm n D)(hs:∀k,has D k=true->∃m:Nat,m<8/\k=Lit.int .i64 m)
  (hr:∀m:Nat,D.atKey (Lit.int .i64 m) (.held (.map none))=.held (.map (f m))) (hf:∀m:Nat,has D (Lit.int .i64 m)=(f m).isSome):HY w vm f:=by
 obtain⟨es,rfl,h1,h2⟩:=h.entries aZ;refine⟨_,?_,⟨es,rfl,h1⟩,hs,hr,hf,h2⟩;obtain⟨AU,clock,hb,F,hn,e⟩:=h;refine⟨AU,clock,hb,F,?_,e⟩;rw[e];simp[size,length_sorted]
section
variable{w w':JE}{vm:Nat}{f:Nat->Option Nat}
def HY.kept(h:HY w vm f)(hb:w'.heap[vm]?=w.heap[vm]?):HY w' vm f:=by obtain⟨D,⟨es,clock,h2,h3⟩,h4⟩:=h;exact⟨D,⟨es,clock,hb.trans h2,h3⟩,h4⟩
def HY.lt(h:HY w vm f):vm<w.heap.size:=by obtain⟨D,h,_⟩:=h;exact h.lt
def HY.lookup(h:HY w vm f){m:Nat}(hm:m<8):(Instr.lookup 99 (.map (some vm)) (.int .i64 m) false).run prog w=.ok (.map (f m)) w:=by obtain⟨D,h2,q⟩:=h;obtain⟨v,ps,AB,hv⟩:=h2.lookup aZ underlying99 (zeroValue95 w) (zd:=.held (.map none)) (zp:=[]) rfl (qU hm);rw[AB];rw[q.rd]at hv;simp only[Rv,Cb,Prod.mk.injEq,DataW.held.injEq]at hv;rw[hv.1]
def HY.there(h:HY w vm f){m:Nat}(hm:m<8):(Instr.lookup 99 (.map (some vm)) (.int .i64 m) true).run prog w=.ok (.tuple #[.map (f m),.bool (f m).isSome]) w:=by obtain⟨D,h2,q⟩:=h;obtain⟨v,ps,AB,hv⟩:=h2.look_ok aZ underlying99 (zeroValue95 w) (zd:=.held (.map none)) (zp:=[]) rfl (qU hm);rw[AB];rw[q.rd]at hv;simp only[Rv,Cb,Prod.mk.injEq,DataW.held.injEq]at hv;rw[hv.1,q.hf]
theorem HY.store(h:HY w vm f){m:Nat}(hm:m<8)(b:Nat):∃w',(Instr.mapUpdate 99 (.map (some vm)) (JK m) (.map (some b))).run prog w=.ok () w'/\HY w' vm (λk=>if k=m then some b else f k)/\w.mapTurned w' vm:=by
 obtain⟨D,h2,q⟩:=h;obtain⟨w',AB,h3,h4⟩:=h2.store aZ underlying99 (by have:=q.small;have:maxLen=9223372036854775807:=(by decide);omega) (qU hm) (val:=.map (some b)) (d:=.held (.map (some b))) (ps:=[]) rfl;have hD:=q.td.isMap;refine⟨w',AB,.of h3 (λk hk=>?_) (λk=>?_) (λk=>?_),h4⟩
 .by_cases e:k=Lit.int .i64 m
  .grind
  .rw[has_put_other e]at hk;exact q.hs k hk
 all_goals by_cases e:k=m
 .grind[atKey_put_same,J07y]
 .rw[atKey_put_other (λh=>e (bM h)),q.rd];simp[e]
 .grind[has_put_same,J07y]
 .rw[has_put_other (λh=>e (bM h)),q.hf];simp[e]
def HY.drop(h:HY w vm f){m:Nat}(hm:m<8)(ty:JH):∃w',(Builtin.delete_ #[99,3] ty #[.map (some vm),JK m]).run prog w=.ok (.tuple #[]) w'/\HY w' vm (λk=>if k=m then none else f k)/\w.mapTurned w' vm:=by
 obtain⟨D,h2,q⟩:=h;obtain⟨w',AB,h3,h4⟩:=h2.drop aZ underlying99 (qU hm) ty;refine⟨w',AB,.of h3 (λk hk=>?_) (λk=>?_) (λk=>?_),h4⟩
 .by_cases e:k=Lit.int .i64 m
  .grind
  .rw[has_del_other e]at hk;exact q.hs k hk
 all_goals by_cases e:k=m
 .grind[atKey_del_same]
 .rw[atKey_del_other (λh=>e (bM h)),q.rd];simp[e]
 .grind[has_del_same]
 .rw[has_del_other (λh=>e (bM h)),q.hf];simp[e]
def HY.len(h:HY w vm f)(ty:JH):∃n:Nat,n<=8/\∀W:JE,W.heap=w.heap->(Builtin.len_ #[99] ty #[.map (some vm)]).run prog W=.ok (JK n) W:=by obtain⟨D,⟨es,clock,h2,h3⟩,q⟩:=h;exact⟨_,q.small,λW hW=>World.ownsMap.len (w:=W) ⟨es,clock,by grind,h3⟩ underlying99 ty⟩
end
def HY.J0cd{w:JE}{vm b:Nat}{f:Nat->Option Nat}(h:HY w vm f)(h7:f 7=some b):(Instr.lookup 99 (.map (some vm)) (JK 7) false).run prog w=.ok (.map (some b)) w:=by rw[<- h7];exact h.lookup (m:=7) (by omega)
def one(b:Nat):Nat->Option Nat:=λk=>if k=7 then some b else none
theorem jG{b v u:Nat}(h:one b v=some u):v=7/\u=b:=by
 unfold one at h
 grind
theorem HY.made{w:JE}{vm base:Nat}(h:w.heap[vm]?=some (.map #[] 0)):∃w',(Instr.mapUpdate 99 (.map (some vm)) (JK 7) (.map (some base))).run prog w=.ok () w'/\HY w' vm (one base)/\w.grownBy w' (some vm):=by
 have h0:=World.ownsMap_made w prog 3 Rv;have h1:w.ownsMap prog 3 Rv vm 0 (.map []):=by obtain⟨es,clock,h2,h3,h4,h5⟩:=h0;rw[Ja]at h2;cases h2;exact⟨#[],0,h,h3,h4,h5⟩
 have h2:HY w vm λ_=>none:=.of h1 (λk hk=>by simp[has]at hk) (λm=>by simp[DataW.atKey]) λm=>by simp[has]
 obtain⟨w',AB,h3,h4⟩:=h2.store (m:=7) (by omega) base;exact⟨w',AB,h3,h4.grown⟩
structure DU(w:JE)(x:Nat)(c:J7)(seed:Int)(h:JJ)(nf:Int)(vm:Nat)(f:Nat->Option Nat):Prop where
 blk:Blk false w x #[JK 3,JK c.bits,JK c.K,.slice c.ba c.nb c.cb,JK seed,h,JK nf,.map (some vm)] 101
 vs:HY w vm f
def DU.kept{w w':JE}{x:Nat}{c:J7}{seed:Int}{h:JJ}{nf:Int}{vm:Nat}{f:Nat->Option Nat}(q:DU w x c seed h nf vm f)(h1:w'.heap[x]?=w.heap[x]?)(h2:w'.heap[vm]?=w.heap[vm]?):DU w' x c seed h nf vm f:=
 ⟨q.blk.kept h1,q.vs.kept h2⟩
section
variable{w:JE}{x:Nat}{c:J7}{seed:Int}{h:JJ}{nf:Int}{vm:Nat}{f:Nat->Option Nat}
def DU.cells(q:DU w x c seed h nf vm f):w.cell? ⟨x,0,none⟩=some (JK 3)/\w.cell? ⟨x,1,none⟩=some (JK c.bits)/\w.cell? ⟨x,2,none⟩=some (JK c.K)/\w.cell? ⟨x,3,none⟩=some (.slice c.ba c.nb c.cb)/\w.cell? ⟨x,4,none⟩=some (JK seed)/\w.cell? ⟨x,5,none⟩=some h/\w.cell? ⟨x,6,none⟩=some (JK nf)/\w.cell? ⟨x,7,none⟩=some (.map (some vm)):=
 ⟨(q.blk.cell 0).trans rfl,(q.blk.cell 1).trans rfl,(q.blk.cell 2).trans rfl,(q.blk.cell 3).trans rfl,(q.blk.cell 4).trans rfl,(q.blk.cell 5).trans rfl,(q.blk.cell 6).trans rfl,(q.blk.cell 7).trans rfl⟩
def nC(h0:w.cell? ⟨x,0,none⟩=some (JK 3)):Calls prog 32 #[JL x] w λe w'=>e=.returned (JK 7)/\w'=w:=by
 have hs:(binOp .shl 3 (JK 1) (JK 3)).run prog w=.ok (JK 8) w:=rfl
 go_enter func32,ntmps32
 go_wp2;go_ret
 simp_all
def h49:JJ:=.func (.func 94) #[] #[]
theorem Jir(n:Int)(w:JE):Calls prog 53 #[JK 1,JK n] w λe w'=>e=.returned h49/\w'=w.alloc (.cells #[JK n] 3):=by
 go_enter func53,ntmps53
 go_wp2
 all_goals go_ret
 exact⟨rfl,rfl⟩
def Jpw(n:Int)(w:JE):Calls prog 94 #[JK n] w λe w'=>e=.returned (.int .u64 (IntKind.u64.wrap n))/\w'=w:=by
 go_enter func94,ntmps94
 go_wp2;go_ret
 simp_all
def Blk.five{fr:Bool}{w:JE}{b:Nat}{v0 v1 v2 v3 v4:JJ}{t:JH}(h:Blk fr w b #[v0,v1,v2,v3,v4] t):w.cell? ⟨b,0,none⟩=some v0/\w.cell? ⟨b,1,none⟩=some v1/\w.cell? ⟨b,2,none⟩=some v2/\w.cell? ⟨b,3,none⟩=some v3/\w.cell? ⟨b,4,none⟩=some v4:=
 ⟨(h.cell 0).trans rfl,(h.cell 1).trans rfl,(h.cell 2).trans rfl,(h.cell 3).trans rfl,(h.cell 4).trans rfl⟩
structure NewAt(w:JE)(c:J7)(seed:Int)(h:JJ)(bs:JD)(e:Ending)(w':JE):Prop where
 ex:∃x vm base b2 c2,e=.returned (.tuple #[JL x,.nilIface])/\(w.heap.size<=x/\w.heap.size<=vm/\w.heap.size<=base/\w.heap.size<=b2) /\
   DU w' x { c with ba:=some ⟨b2,0,none⟩,cb:=c2 } seed h 0 vm (one base)/\w'.heap[base]?=some (.map #[] 0)/\Row false w' b2 3 .i64 bs c2/\(x≠vm/\x≠base/\x≠b2/\vm≠base/\vm≠b2/\base≠b2)
 tch:Tch w.heap.size M0 w w'
def Jla(n:Int)(w:JE):Calls prog 112 #[JK n] w λe w'=>e=.returned (.func (.func 167) #[] #[JL w.heap.size])/\w'=w.alloc (.cells #[JK n] 3):=by
 go_enter func112,ntmps112
 go_wp2
 all_goals go_ret
 simp_all
def Jrx{w2:JE}{n:Nat}{v0 v1 v2 v3 v4:JJ}{t:JH}(hb:Blk false w2 n #[v0,v1,v2,v3,v4] t)(o:Obj)(v:JJ):((w2.setCell ⟨n,3,none⟩ v).alloc o).cell? ⟨n,0,none⟩=some v0/\((w2.setCell ⟨n,3,none⟩ v).alloc o).cell? ⟨n,1,none⟩=some v1/\((w2.setCell ⟨n,3,none⟩ v).alloc o).cell? ⟨n,2,none⟩=some v2/\((w2.setCell ⟨n,3,none⟩ v).alloc o).cell? ⟨n,3,none⟩=some v/\((w2.setCell ⟨n,3,none⟩ v).alloc o).cell? ⟨n,4,none⟩=some v4:=by
 obtain⟨z,h1,h2⟩:=hb;cases h2 rfl;have hq:((w2.setCell ⟨n,3,none⟩ v).alloc o).heap[n]?=some (.cells #[v0,v1,v2,v,v4] t):=by rw[J8 _ (by grind[size_set,Jj]),heap_set h1];rfl
 exact⟨(cell_of hq 0).trans rfl,(cell_of hq 1).trans rfl,(cell_of hq 2).trans rfl,(cell_of hq 3).trans rfl,(cell_of hq 4).trans rfl⟩
def Jez{W3:JE}{b2 c2 N m:Nat}{bs:JD}(hv:JJ)(Dx:Tch w.heap.size M0 w W3)(Io:Row false W3 b2 3 .i64 bs c2)(Et:w.heap.size<=b2)(hN:W3.heap.size=N)(hm:bs.length=m)(BL:c.nb=m) :
  let W5:=(W3.alloc (.map #[] 0)).alloc (.cells #[JK 3,JK c.bits,JK c.K,JM b2 m c2,JK seed,hv,JK 0,.map (some N)] 101)
  W5.heap.size=N+2/\W5.cell? ⟨N+1,0,none⟩=some (JK 3)/\W5.cell? ⟨N+1,7,none⟩=some (.map (some N))/\∃w7,(Instr.mapUpdate 99 (.map (some N)) (JK 7) (.map (some (N+2)))).run prog ((W5.alloc (.map #[] 0)).drew)=.ok () w7 /\
   NewAt w c seed hv bs (.returned (.tuple #[.pointer (some ⟨N+1,0,none⟩),.nilIface])) w7/\∀k,k<N->w7.heap[k]?=W3.heap[k]?:=by
 intro W5;have Qe:=Dx.size;have Eu:=Io.lt;have hV:W5.heap[N]?=some (.map #[] 0):=by grind[J8,size_alloc,Ja]
 have hX:W5.heap[N+1]?=some (.cells #[JK 3,JK c.bits,JK c.K,JM b2 m c2,JK seed,hv,JK 0,.map (some N)] 101):=by grind[Ja,size_alloc]
 have hk5:∀k,k<N->W5.heap[k]?=W3.heap[k]?:=λk hk=>by grind[J8,size_alloc]
 have EW:Tch w.heap.size M0 w W5:=(Dx.alloc Qe (.map #[] 0)).alloc (by rw[size_alloc];omega) _;have LP:W5.heap.size=N+2:=by simp[W5,size_alloc,hN]
 generalize W5=W5 at *;have gJ:((W5.alloc (.map #[] 0)).drew).heap[N]?=some (.map #[] 0):=(J8 (w:=W5) _ (show _<W5.heap.size by omega)).trans hV;obtain⟨w7,QV,Jt4,OI⟩:=HY.made (base:=W5.heap.size) gJ;have UJ:∀k,k<W5.heap.size->k≠N->w7.heap[k]?=W5.heap[k]?:=λk hk Ap=>(OI.block k (by show k<(W5.alloc _).heap.size;rw[size_alloc];omega) λe=>Ap (Aa e)).trans (J8 (w:=W5) _ hk);refine⟨LP,(cell_of hX 0).trans rfl,(cell_of hX 7).trans rfl,w7,LP▸QV,⟨⟨N+1,N,W5.heap.size,b2,c2,rfl,⟨by omega,by omega,by omega,Et⟩,⟨⟨(0,0),?_,λ_=>rfl⟩,Jt4⟩,?_,?_,?_⟩,?_⟩,λk hk=>(UJ k (by omega) (by omega)).trans (hk5 k hk)⟩
 .rw[UJ _ (by omega) (by omega),hX,<- BL]
 .exact(OI.block _ (by simp_all) λe=>by grind).trans (Ja (w:=W5) _)
 .exact Io.kept ((UJ _ (by omega) (by omega)).trans (hk5 _ (by omega)))
 .omega
 .exact⟨by grind,λk hk _=>(UJ k (by omega) (by omega)).trans (EW.heap k hk λx=>x),OI.tape.trans EW.tape,OI.os.trans EW.os,OI.output.trans EW.output⟩
def new_any{fr:Bool}{bb cap:Nat}{bs:JD}{v:JJ}(hc:CZ c)(hr:Row fr w bb 3 .i64 bs cap)(Dh:c.ba=some ⟨bb,0,none⟩)(BL:c.nb=bs.length)(hp:bs.Pairwise (· < ·))(hvv:(∃f a b,v=.func f a b)\/v=.nilFunc) :
  Calls prog 62 #[.agg (EI c 3 seed),v] w λe w'=>∃h,NewAt w c seed h bs e w'/\((∃f a b,v=.func f a b/\h=v)\/v=.nilFunc/\∃hb,h=.func (.func 167) #[] #[JL hb]/\w.heap.size<=hb/\w'.heap[hb]?=some (.cells #[JK seed] 3)):=by
 have hv:=λw1(ht:Tch w.heap.size M0 w w1)=>Jbz (seed:=seed) hc (hr.tch ht hr.lt λx=>x) Dh BL hp;have BA:=λw1(ht:Tch w.heap.size M0 w w1)=>Jih (hr.tch ht hr.lt λx=>x) (by have:=hc.nb;omega);have hlen:=hc.nb;obtain⟨W0,Ci⟩:∃W0,W0=w.alloc (.cells #[JK 3,JK c.bits,JK c.K,JM bb bs.length c.cb,JK seed] 47):=⟨_,rfl⟩;have Bf:Tch w.heap.size M0 w W0:=by rw[Ci];exact Tch.refl.alloc (Ad _) _
 have Fj:Blk false W0 w.heap.size #[.int .i64 3,.int .i64 c.bits,.int .i64 c.K,.slice (some ⟨bb,0,none⟩) bs.length c.cb,.int .i64 seed] 47:=⟨(0,0),by grind[Ja],λ_=>rfl⟩;have e1:∀{w1:JE}{arr:JC},Blk false w1 w.heap.size arr 47->∀i,w1.cell? ⟨w.heap.size,i,none⟩=arr[i]?:=λh i=>h.cell i;unfold EI at hv ⊢;rw[Dh,BL]at hv ⊢;have MK:=hv W0 Bf;have Xr:Hid (∀w1,Tch W0.heap.size M0 W0 w1->Calls prog 111 #[.slice (some ⟨bb,0,none⟩) bs.length c.cb] w1 λe w'=>∃g c',e=.returned (.slice (some ⟨g,0,none⟩) bs.length c')/\w1.heap.size<=g/\Row false w' g 3 .i64 bs c'/\Tch w1.heap.size M0 w1 w'/\c'<=maxLen):=λw1 ht=>BA w1 (Bf.trans (ht.mono Bf.size λ_ _ h=>h)) _;have Dq:=Fj.lt;clear hv BA;have jH:∀(t:JH) w,(Instr.makeMap t none).run prog w=.ok (.map (some w.heap.size)) (w.alloc (.map #[] 0)):=λ_ _=>rfl;have Jf2:=BL;generalize hgm:bs.length=m at *;rcases hvv with⟨f,a,b,rfl⟩|rfl
 .have jM:∀w,(binOp .eql 98 (.func f a b) .nilFunc).run prog w=.ok (.bool false) w:=λw=>rfl
  go_enter func62,ntmps62
  go_wp2_with (first
   |(go_at_call 110;rw[<- Ci];refine MK.mono ?_;rintro e w1 ⟨rfl,Az⟩;have FD:=Fj.tch Az Dq (λx=>x);obtain⟨y0,y1,y2,y3,y4⟩:=FD.five;have X5:=FD.lt)
   |(go_at_call 111;refine(Xr _ Az).mono ?_;rintro e w2 ⟨b2,c2,rfl,Joz,BM,Bc,Nh⟩;have Dk:=FD.tch Bc X5 (λx=>x);obtain⟨z0,z1,z2,z3,z4⟩:=Dk.five;have zf:=Dk.frozen 3))
  have CO:(w2.setCell ⟨w.heap.size,3,none⟩ (JM b2 m c2)).heap.size=w2.heap.size:=size_set _ _;have Dx:Tch w.heap.size M0 w (w2.setCell ⟨w.heap.size,3,none⟩ (JM b2 m c2)):=((Bf.trans (Az.mono Bf.size λ_ _ h=>h)).trans (Bc.mono (BN Bf.size Az.size) λ_ _ h=>h)).set (.inl (Ad _)) _;have Io:Row false (w2.setCell ⟨w.heap.size,3,none⟩ (JM b2 m c2)) b2 3 .i64 bs c2:=BM.kept (Jm _ _ (show b2≠w.heap.size by grind));generalize w2.setCell ⟨w.heap.size,3,none⟩ (JM b2 m c2)=W3 at *;obtain⟨LP,MN,lG,w7,zK,fin,_⟩:=Jez (seed:=seed) (.func f a b) Dx Io (by grind) CO hgm Jf2;generalize hN:w2.heap.size=N at *;generalize(W3.alloc (.map #[] 0)).alloc (.cells #[JK 3,JK c.bits,JK c.K,JM b2 m c2,JK seed,.func f a b,JK 0,.map (some N)] 101)=W5 at *;have cb:Hid (∀w',(w'=W5.drew\/w'=(W5.alloc (.map #[] 0)).drew)->Calls prog 32 #[.pointer (some ⟨N+1,0,none⟩)] w' λe Qj=>e=.returned (JK 7)/\Qj=w'):=λw' h=>nC (by
   rcases h with rfl|rfl
   .exact MN
   .refine(Du (J8 (w:=W5) _ ?_)).trans MN
    grind)
  go_region_with (go_at_call 32;refine(cb _ (by grind)).mono ?_;rintro e w' ⟨rfl,rfl⟩)
  all_goals go_wp2
  all_goals go_ret2
  all_goals exact⟨_,fin,.inl ⟨_,_,_,rfl,rfl⟩⟩
 .have jM:∀w,(binOp .eql 98 .nilFunc .nilFunc).run prog w=.ok (.bool true) w:=λw=>rfl
  go_enter func62,ntmps62
  go_wp2_with (first
   |(go_at_call 110;rw[<- Ci];refine MK.mono ?_;rintro e w1 ⟨rfl,Az⟩;have FD:=Fj.tch Az Dq (λx=>x);obtain⟨y0,y1,y2,y3,y4⟩:=FD.five;have X5:=FD.lt)
   |(go_at_call 111;refine(Xr _ Az).mono ?_;rintro e w2 ⟨b2,c2,rfl,Joz,BM,Bc,Nh⟩;have Dk:=FD.tch Bc X5 (λx=>x);obtain⟨z0,z1,z2,z3,z4⟩:=Dk.five;have zf:=Dk.frozen 3;obtain⟨p0,p1,p2,p3,p4⟩:=Jrx Dk (.cells #[.int .i64 seed] 3) (.slice (some ⟨b2,0,none⟩) m c2))
   |(go_at_call 112;refine(Jla seed _).mono ?_;rintro e Bv ⟨rfl,rfl⟩))
  have CO:(w2.setCell ⟨w.heap.size,3,none⟩ (JM b2 m c2)).heap.size=w2.heap.size:=size_set _ _;have Dx:Tch w.heap.size M0 w (w2.setCell ⟨w.heap.size,3,none⟩ (JM b2 m c2)):=((Bf.trans (Az.mono Bf.size λ_ _ h=>h)).trans (Bc.mono (BN Bf.size Az.size) λ_ _ h=>h)).set (.inl (Ad _)) _;have Io:Row false (w2.setCell ⟨w.heap.size,3,none⟩ (JM b2 m c2)) b2 3 .i64 bs c2:=BM.kept (Jm _ _ (show b2≠w.heap.size by grind));generalize w2.setCell ⟨w.heap.size,3,none⟩ (JM b2 m c2)=vO at *;have Jp0:=Io.lt;obtain⟨W3,CY⟩:∃W3,W3=vO.alloc (.cells #[JK seed] 3):=⟨_,rfl⟩;have Vt:W3.heap[w2.heap.size]?=some (.cells #[JK seed] 3):=by grind[Ja]
  have ML:w.heap.size<=w2.heap.size:=by have:=Dx.size;omega
  have Dx:Tch w.heap.size M0 w W3:=by rw[CY];exact Dx.alloc Dx.size _
  have Io:Row false W3 b2 3 .i64 bs c2:=by rw[CY];exact Io.kept (J8 _ Jp0)
  have CO:W3.heap.size=w2.heap.size+1:=by simp_all
  rw[<- CY];obtain⟨LP,MN,lG,w7,zK,fin,keep⟩:=Jez (seed:=seed) (.func (.func 167) #[] #[JL w2.heap.size]) Dx Io (by grind) CO hgm Jf2;have hb7:=(keep w2.heap.size (by omega)).trans Vt;generalize(W3.alloc (.map #[] 0)).alloc (.cells #[JK 3,JK c.bits,JK c.K,JM b2 m c2,JK seed,.func (.func 167) #[] #[JL w2.heap.size],JK 0,.map (some (w2.heap.size+1))] 101)=W5 at *;have cb:Hid (∀w',(w'=W5.drew\/w'=(W5.alloc (.map #[] 0)).drew)->Calls prog 32 #[.pointer (some ⟨w2.heap.size+1+1,0,none⟩)] w' λe Qj=>e=.returned (JK 7)/\Qj=w'):=λw' h=>nC (by
   rcases h with rfl|rfl
   .exact MN
   .refine(Du (J8 (w:=W5) _ ?_)).trans MN
    grind)
  go_region_with (go_at_call 32;refine(cb _ (by grind)).mono ?_;rintro e w' ⟨rfl,rfl⟩)
  all_goals go_wp2
  all_goals go_ret2
  all_goals exact⟨_,fin,.inr ⟨by trivial,_,rfl,ML,hb7⟩⟩
def Jgo{fr:Bool}{bb cap:Nat}{bs:JD}(hc:CZ c)(hr:Row fr w bb 3 .i64 bs cap)(Dh:c.ba=some ⟨bb,0,none⟩)(BL:c.nb=bs.length)(hp:bs.Pairwise (· < ·))(f:Fn)(a b:JC) :
  Calls prog 62 #[.agg (EI c 3 seed),.func f a b] w (NewAt w c seed (.func f a b) bs):=
 (new_any hc hr Dh BL hp (.inl ⟨f,a,b,rfl⟩)).mono λe w' ⟨h,q,r⟩=>by
  rcases r with⟨_,_,_,_,rfl⟩|⟨r,_⟩
  .exact q
  .cases r
def Jt5{fr:Bool}{bb cap:Nat}{bs:JD}(hc:CZ c)(hr:Row fr w bb 3 .i64 bs cap)(Dh:c.ba=some ⟨bb,0,none⟩)(BL:c.nb=bs.length)(hp:bs.Pairwise (· < ·))(n:Int) :
  Calls prog 29 #[.agg (EI c 3 seed),JK 1,JK n] w (NewAt w c seed h49 bs):=by
 obtain⟨W0,Ci⟩:∃W0,W0=w.alloc (.cells (EI c 3 seed) 47):=⟨_,rfl⟩;have Bf:Tch w.heap.size M0 w W0:=by rw[Ci];exact Tch.refl.alloc (Ad _) _
 have Fj:Blk false W0 w.heap.size (EI c 3 seed) 47:=⟨(0,0),by grind[Ja],λ_=>rfl⟩;have Dq:=Fj.lt;have hf:Hid (∀w1,Tch W0.heap.size M0 W0 w1->w1.cell? ⟨w.heap.size,0,none⟩=some (JK 3)/\w1.cell? ⟨w.heap.size,1,none⟩=some (JK c.bits)/\w1.cell? ⟨w.heap.size,2,none⟩=some (JK c.K)/\w1.cell? ⟨w.heap.size,3,none⟩=some (.slice c.ba c.nb c.cb)/\w1.cell? ⟨w.heap.size,4,none⟩=some (JK seed)):=λw1 ht=>(Fj.tch ht Dq λx=>x).five;have MH:Hid (∀w1,Tch W0.heap.size M0 W0 w1->Calls prog 62 #[.agg (EI c 3 seed),.func (.func 94) #[] #[]] w1 λe w'=>NewAt w c seed h49 bs e w'/\Tch W0.heap.size M0 W0 w'):=λw1 ht=>by have Bc:=Bf.trans (ht.mono Bf.size λ_ _ h=>h);refine(Jgo (seed:=seed) hc (hr.tch Bc hr.lt λx=>x) Dh BL hp (.func 94) #[] #[]).mono λe w'(h:NewAt w1 c seed h49 bs e w')=>?_;obtain⟨⟨x,vm,base,b2,c2,h1,h2,h3⟩,h4⟩:=h;have:=Bc.size;exact⟨⟨⟨x,vm,base,b2,c2,h1,⟨by omega,by omega,by omega,by omega⟩,h3⟩,(Bc.trans (h4.mono Bc.size λ_ _ h=>h))⟩,ht.trans (h4.mono ht.size λ_ _ h=>h)⟩
 clear hr hp Fj Bf Dq Dh BL;unfold EI at MH Ci ⊢;have t0:Tch W0.heap.size M0 W0 W0.drew:=Tch.refl.drew;have t1:Tch W0.heap.size M0 W0 (W0.alloc (.cells #[JK n] 3)).drew:=(Tch.refl.alloc (Ad _) _).drew;have hd3:Hid (∀w1 R,w1=W0.drew->(R=λe w'=>e=.returned h49/\w'=w1.alloc (.cells #[JK n] 3))->Calls prog 53 #[JK 1,JK n] w1 R):=λw1 R _ e=>by grind[Jir]
 go_enter func29,ntmps29
 go_wp2_with fail
 subst Ci;generalize w.heap.size=n0 at hf ⊢;obtain⟨q0,q1,q2,q3,q4⟩:=hf _ t0;obtain⟨r0,r1,r2,r3,r4⟩:=hf _ t1
 go_region_with (first|(go_at_call 53;refine(Jir n _).mono ?_;rintro e w1 ⟨rfl,rfl⟩)|(go_at_call 62;refine(MH _ t1).mono ?_;rintro e w1 ⟨hN,t2⟩;have YT:=hN;obtain⟨⟨x,vm,base,b2,c2,rfl,_⟩,_⟩:=hN))
 all_goals go_wp2
 all_goals go_ret2
 all_goals exact YT
end
section
variable{w:JE}{x:Nat}{c:J7}{seed:Int}{nf:Int}{vm:Nat}{vs:Nat->Option Nat}
def Jis(p q r:Addr)(w:JE) :
  CallsD prog 84 #[.pointer (some p),.pointer (some q),.pointer (some r)] .returning w λe u' w'=>e=.returned (.tuple #[])/\u'=.returning/\w'=w:=by
 have Y6:∀w,(binOp .neq 20 .nilIface .nilIface).run prog w=.ok (.bool false) w:=λ_=>rfl;refine callsD_of_wpS func84 rfl λc₀ cs hu=>?_;apply wpS_seq;apply wpS_region;simp[wpOpsS,go_sem,recoverD,hu,ntmps84,Exit.thenS];refine wpS_cond (t:=false) (by simp[Act.eval,Array.replicate]) ?_;simp only[DY,if_false];refine wpS_of_wp (wp_skip ?_);cases c₀
 simp_all [bodyPostS,results,results84]
theorem Jpx(q:DU w x c seed h49 nf vm vs)(item at_:Int) :
  Calls prog 39 #[JL x,JK item,JK at_] w λe w'=>e=.returned (.tuple #[.int .u64 (IntKind.u64.wrap item),.nilIface])/\Tch w.heap.size M0 w w':=by
 have hmf:∀(fn:Fn)(first cap:JC)(w:JE),(Instr.makeFunc fn first cap).run prog w=.ok (.func fn first cap) w:=λ_ _ _ _=>rfl;have hx:x<w.heap.size:=q.blk.lt;have c5:w.cell? ⟨x,5,none⟩=some (.func (.func 94) #[] #[]):=q.cells.2.2.2.2.2.1;have h1:∀w,Calls prog 94 #[JK item] w λe w'=>e=.returned (.int .u64 (IntKind.u64.wrap item))/\w'=w:=Jpw item;have c5':(((w.alloc (.cells #[JK at_] 3)).alloc (.cells #[.int .u64 0] 110)).alloc (.cells #[.nilIface] 33)).cell? ⟨x,5,none⟩=some (.func (.func 94) #[] #[]):=
  (Du (by grind[J8,size_alloc])).trans c5
 generalize IntKind.u64.wrap item=hh at *
 go_enter_defers func39,ntmps39
 go_wp2_with (go_at_call 94;refine(h1 _).mono ?_;rintro e w1 ⟨rfl,rfl⟩)
 refine leaves_cons (f:=84) (args:=#[JL w.heap.size,.pointer (some ⟨w.heap.size+1,0,none⟩),.pointer (some ⟨w.heap.size+1+1,0,none⟩)]) (by simp) (by simp[go_sem]) ?_;refine(Jis _ _ _ _).mono ?_;rintro e u' Qj ⟨rfl,rfl,rfl⟩;simp[Leaves,settle,results,results39,go_sem];exact((Tch.refl.alloc (Ad _) _).alloc (by simp_all) _).alloc (by grind[size_alloc]) _
end
structure PI(w:JE)(base:Nat)(v:JJ)(xs:JD):Prop where
 own:w.ownsRow base 3 1 v xs.length (xs.map (Value.int .i64))
 pl:Ko w v
 nl:v=.slice none 0 0↔xs=[]
theorem PI.nil(w:JE)(base:Nat):PI w base (.slice none 0 0) []:=⟨⟨rfl,.inl ⟨rfl,rfl⟩⟩,.nil _ _ _,by simp⟩
def PI.lt{w:JE}{base:Nat}{v:JJ}{xs:JD}(h:PI w base v xs){g n cap:Nat}(e:v=JM g n cap):base<=g/\g<w.heap.size:=by
 rcases h.own.2 with⟨rfl,_⟩|⟨g',Ee,cur,rfl,hb,hg,_⟩
 all_goals grind
def SlI(fr:Bool)(w:JE)(base:Nat)(v:JJ)(t:JH)(k:IntKind)(xs:JD):Prop:=
 (v=.slice none 0 0/\xs=[])\/∃g cap,v=JM g xs.length cap/\base<=g/\Row fr w g t k xs cap
def PI.sl{w:JE}{base:Nat}{v:JJ}{xs:JD}(h:PI w base v xs):SlI false w base v 3 .i64 xs:=by
 by_cases e:v=.slice none 0 0
 .exact .inl ⟨e,h.nl.1 e⟩
 .obtain⟨g,cap,h1,h2,h3,_⟩:=Row.nP h.own e h.pl;exact .inr ⟨g,cap,h1,h2,h3⟩
def PI.pushed{wr w1:JE}{base:Nat}{v v':JJ}{xs:JD}{y:Int}{o:Obj}(hv:PI wr base v xs)(Aw:w1.ownsRow base 3 1 v' (xs.length+1) (xs.map (Value.int .i64)++[JK y]))(hg:(wr.alloc o).grownBy w1 v.ownBlock)
  (Ej:v'=.slice none 0 0↔v=.slice none 0 0/\1=0) (D8:Ko w1 v') (hb:base<=wr.heap.size):PI w1 base v' (xs++[y])/\Tch base M0 wr w1:=by
 refine⟨⟨by grind,D8,by simp[Ej]⟩,⟨?_,λb BO _=>?_,hg.tape,hg.os,hg.output⟩⟩
 .have:=hg.size;grind[size_alloc]
 .refine(hg.block b (by rw[size_alloc];omega) λe=>?_).trans (J8 _ (by omega));rcases hv.own.2 with⟨rfl,_⟩|⟨g',Ee,cur,rfl,xC,_⟩
  .cases e
  .have:=Aa e
   grind
def MV(m:Nat)(k:JD)(n:Nat):JD:=((k.take n).zipIdx.filter λp=>m.testBit p.2).map (·.1)
def Jpy{m n:Nat}{k:JD}(hn:n<k.length):MV m k (n+1)=if m.testBit n then MV m k n++[k.getD n 0]else MV m k n:=by
 unfold MV
 grind[List.take_add_one]
def Jxw{w:JE}{vb:Nat}{v:JJ}{t:JH}(hv:w.heap[vb]?=some (.cells #[v] t)):∀j u,([v]:List JJ)[j]?=some u->w.cell? ((⟨vb,0,none⟩:Addr).add j)=some u:=by
 intro j u hj;cases j with
 |zero=>
  simp at hj;subst hj;exact(cell_of hv 0).trans rfl
 |succ j=>simp at hj
def Jt6(m k:Nat):(bits BinOp.and IntKind.i64 (((m:Int)) / 2 ^ k) 1 == 1)=m.testBit k:=by
 grind[Jic,Nat.shiftRight_eq_div_pow]
def Jky(ks:JD)(hk:ks.length=5)(m:Nat)(w:JE):Calls prog 48 #[.agg (ai .i64 ks),JK m] w λe w'=>∃v,e=.returned v/\SlI false w' w.heap.size v 3 .i64 (MV m ks 5)/\Tch w.heap.size M0 w w':=by
 obtain⟨i0,hi,EY,DJ,DR⟩:=info_parts info3;have hm:maxLen=9223372036854775807:=by decide
 go_enter func48,ntmps48
 go_wp2
 go_loopw [5,7] (λv i wr=>∃k:Nat,k<=5/\i=JK k/\PI wr (w.heap.size+1) v (MV m ks k)/\wr.heap[w.heap.size]?=some (.cells (ai .i64 ks) 104)/\Tch w.heap.size M0 w wr) (λ_ i _=>5-(RowKit.intOf i).toNat)
 case atStart=>exact⟨0,by omega,rfl,PI.nil _ _,Ja _,Tch.refl.alloc (Ad _) _⟩
 case round=>
  obtain⟨k,hk5,rfl,hv,hc,ht⟩:=hrel;have L8:=Jt6 m k;have hlen:(MV m ks k).length<=5:=by unfold MV;rw[FQ];refine BN (List.length_filter_le _ _) ?_;simp;omega
  rcases BF k 5 with Ac|Et
  .have Aq:=cell_of hc k;rw[nO (by omega)]at Aq;have CS:(k:Int)<5:=by omega
   have Iu:=Jpy (m:=m) (n:=k) (k:=ks) (by omega);cases hb:m.testBit k
   .rw[hb]at L8 Iu;simp only[DY,if_false]at Iu;go_wp2;refine⟨⟨k+1,by omega,by go_num,?_,hc,ht⟩,?_⟩
    .grind
    .simp[RowKit.intOf];omega
   .rw[hb]at L8 Iu;simp only[if_true]at Iu;generalize ks.getD k 0=y at *;have Ag:=Jj hc
    go_wp2_with (at_builtin;refine mO _ rfl _ _ 24 rfl (w.heap.size+1) 3 i0 _ 1 8 underlying24 hi EY DJ DR rfl (by decide) _ _ _ rfl (hv.own.alloc _) ⟨wr.heap.size,0,none⟩ 1 1 [.int .i64 y] rfl rfl (Jxw (Ja _)) (by simp[Value.oneCell']) (by omega) (by omega) (by rw[size_alloc];omega) (hv.pl.kept λg n cap e=>J8 _ (hv.lt e).2) (λu hu=>by rcases AL.1 hu with rfl|hu;exact⟨_,_,rfl⟩;cases hu) (Plain.ai (k:=.i64) (xs:=[0])) ?_;intro v' w1 BD AX Ej Ny)
    obtain⟨h1,h2⟩:=hv.pushed BD AX Ej Ny (by omega);refine⟨⟨k+1,by omega,by go_num,?_,(h2.heap _ (by omega) λx=>x).trans hc,ht.trans (h2.mono (by omega) λ_ _ h=>h)⟩,?_⟩
    .grind
    .simp[RowKit.intOf];omega
  .have EC:¬(k:Int)<5:=by omega
   obtain rfl:k=5:=by omega
   clear hc;go_wp2;go_ret;refine⟨_,rfl,?_,ht⟩;rcases hv.sl with h|⟨g,cap,h1,h2,h3⟩
   .exact .inl h
   .exact .inr ⟨g,cap,h1,by omega,h3⟩
section
variable{P:Program}{ops:Array Oper}{Q:Exit->Act->JE->Prop}{md:Region.Mode}
def lack(l:Array Bool):Nat:=l.toList.countP λb=>!b
theorem nM{l:Array Bool}{i:Nat}(h:l[i]?=some false):lack (l.setIfInBounds i true)+1=lack l:=by
 unfold lack
 grind
theorem lW{listed:Array Bool}{i:Nat}(h:i∈Region.ready md ops listed):i<ops.size/\listed[i]?=some false/\∃o,ops[i]?=some o/\∀e∈o.after,Region.binds md e=true->listed[e.on]?=some true:=by
 unfold Region.ready at h;obtain⟨h1,h2⟩:=Hq.1 h;have hi:=List.mem_range.1 h1;rw[Bh]at h2;obtain⟨h3,h4⟩:=h2;refine⟨hi,?_,ops[i],Bz hi,λe he hb=>?_⟩
 .cases hx:listed[i]? with
  |none=>grind
  |some b=>simp_all
 .rw[Bz hi]at h4;simp only[Option.map_some,A8,Array.all_eq_true_iff_forall_mem]at h4;have:=h4 e he;rw[hb]at this;cases hx:listed[e.on]? with
  |none=>grind
  |some b=>simp_all
def Jgp(I:Array Bool->Act->JE->Prop)(Ah:∀listed a w i,I listed a w->i∈Region.ready md ops listed->wpOp P ops Q i (λa' w'=>I (listed.setIfInBounds i true) a' w') a w)
  (Ef:∀listed a w,I listed a w->Region.ready md ops listed=[]->Q .normal a w) :
  ∀(fuel:Nat)(listed:Array Bool)(a:Act)(w:JE),lack listed<=fuel->I listed a w->wpAny P md ops Q fuel listed a w
 |0,listed,a,w,hf,h=>by
  have hr:Region.ready md ops listed=[]:=by
   cases hr:Region.ready md ops listed with
   |nil=>rfl
   |cons i l=>
    have:=nM (lW (i:=i) (by rw[hr];simp)).2.1;omega
  exact⟨hr,Ef _ _ _ h hr⟩
 |fuel+1,listed,a,w,hf,h=>by refine⟨Ef _ _ _ h,λi hi=>wpOp_mono (λa' w' h'=>?_) (Ah _ _ _ _ h hi)⟩;have:=nM (lW hi).2.1;exact Jgp I Ah Ef fuel _ a' w' (by omega) h'
def anc(md:Region.Mode)(ops:Array Oper):Nat->Nat->Nat->Bool
 |0,_,_=>false
 |f+1,k,j=>match ops[k]? with
  |none=>false
  |some o=>o.after.toList.any λe=>Region.binds md e && (e.on == j || anc md ops f e.on j)
def Closed(md:Region.Mode)(ops:Array Oper)(listed:Array Bool):Prop:=∀(i:Nat)(o:Oper),listed[i]?=some true->ops[i]?=some o->∀e∈o.after,Region.binds md e=true->listed[e.on]?=some true
def Closed.anc{listed:Array Bool}(h:Closed md ops listed):∀(f k j:Nat),(∀o,ops[k]?=some o->∀e∈o.after,Region.binds md e=true->listed[e.on]?=some true)->anc md ops f k j=true->listed[j]?=some true
 |0,_,_,_,ha=>by cases ha
 |f+1,k,j,hk,ha=>by
  unfold Z.anc at ha;cases ho:ops[k]? with
  |none=>grind
  |some o=>
   simp only[ho,List.any_eq_true,Bh,Bool.or_eq_true,beq_iff_eq]at ha;obtain⟨e,he,hb,h1|h1⟩:=ha
   .grind
   .have hl:=hk o ho e (Array.mem_toList_iff.1 he) hb;exact h.anc f e.on j (λo' Em=>h e.on o' hl Em) h1
def Closed.set{listed:Array Bool}(h:Closed md ops listed){i:Nat}(hi:i∈Region.ready md ops listed):Closed md ops (listed.setIfInBounds i true):=by
 obtain⟨_,hf,o,ho,BK⟩:=lW hi;intro i' o' hl Em e he hb;have key:listed[e.on]?=some true->(listed.setIfInBounds i true)[e.on]?=some true:=λhx=>by
  grind
 by_cases e1:i'=i
 .grind
 .rw[AV (Ne.symm e1)]at hl;exact key (h i' o' hl Em e he hb)
def RU(md:Region.Mode)(ops:Array Oper)(m:Nat)(dst:Nat->Nat):Bool:=
 decide (m<=ops.size) && (List.range m).all (λi=>match ops[i]? with
  |none=>false
  |some o=>o.guard.isNone && o.dst == some (dst i) && o.after.all (λe=>decide (e.on<i)) && (List.range i).all λj=>dst j != dst i)
 && (List.range ops.size).all λk=>decide (k<m) || match ops[k]? with
  |none=>false
  |some o=>o.after.all (λe=>decide (e.on<k)) && (List.range k).all λj=>anc md ops ops.size k j
structure YE(M:JB)(m:Nat)(dst:Nat->Nat)(F:Nat->JJ->JE->Prop)(T0:JC)(ds:List Deferred)(w0:JE)(listed:Array Bool)(a:Act)(w:JE):Prop where
 tch:Tch w0.heap.size M w0 w
 ds:a.defers=ds
 size:a.tmps.size=T0.size
 old:∀s,(∀i,i<m->dst i≠s)->a.tmps[s]?=T0[s]?
 facts:∀i,i<m->listed[i]?=some true->∃v,a.tmps[dst i]?=some v/\F i v w
def YE.put{M:JB}{m:Nat}{dst:Nat->Nat}{F:Nat->JJ->JE->Prop}{T0:JC}{ds:List Deferred}{w0 w w':JE}{listed:Array Bool}{a:Act}{i:Nat}{v:JJ}
  (h:YE M m dst F T0 ds w0 listed a w) (hi:i<m) (Ap:∀j,j<m->j≠i->dst j≠dst i) (Ag:dst i<T0.size) (stable:∀i v w w',F i v w->Tch w.heap.size M w w'->F i v w') (hv:F i v w') (ht:Tch w.heap.size M w w') :
  YE M m dst F T0 ds w0 (listed.setIfInBounds i true) (a.put (some (dst i)) v) w':=by
 refine⟨h.tch.then ht h.tch.size λ_ _ h=>h,h.ds,by simp[Act.put,h.size],λs hs=>?_,λj hj hl=>?_⟩
 .show(a.tmps.setIfInBounds (dst i) v)[s]?=_;rw[AV (hs i hi)];exact h.old s hs
 .by_cases e:j=i
  .subst e;exact⟨v,by show(a.tmps.setIfInBounds (dst j) v)[dst j]?=_;rw[FC (by rw[h.size];exact Ag)],hv⟩
  .rw[AV (Ne.symm e)]at hl;obtain⟨u,h1,h2⟩:=h.facts j hj hl;exact⟨u,by show(a.tmps.setIfInBounds (dst i) v)[dst j]?=_;grind,stable _ _ _ _ h2 ht⟩
def Jdg{id:Nat}{T0:JC}{ds:List Deferred}{w0:JE}{M:JB}(m:Nat)(dst:Nat->Nat)(F:Nat->JJ->JE->Prop)(hm:P.follows .mixedOrders=true)(hok:RU .any ops m dst=true)(Ag:∀i,i<m->dst i<T0.size)
  (stable:∀i v w w',F i v w->Tch w.heap.size M w w'->F i v w')
  (step:∀i o a w,i<m->ops[i]?=some o->Tch w0.heap.size M w0 w->a.tmps.size=T0.size->(∀s,(∀i,i<m->dst i≠s)->a.tmps[s]?=T0[s]?)->(∀j,(o.after.toList.any λe=>e.on == j && Region.binds .any e)=true->∃v,a.tmps[dst j]?=some v/\F j v w) ->
   wpOp P ops Q i (λa' w'=>∃v,a'=a.put (some (dst i)) v/\F i v w'/\Tch w.heap.size M w w') a w)
  (fin:∀a w,Tch w0.heap.size M w0 w->a.defers=ds->a.tmps.size=T0.size->(∀s,(∀i,i<m->dst i≠s)->a.tmps[s]?=T0[s]?)->(∀i,i<m->∃v,a.tmps[dst i]?=some v/\F i v w)->wpOps P ops Q (List.range' m (ops.size-m)) a w) :
  (Code.region id ops true).wp P Q ⟨T0,ds⟩ w0:=by
 unfold RU at hok;simp only[Bh,decide_eq_true_eq,List.all_eq_true,List.mem_range,Bool.or_eq_true]at hok;obtain⟨⟨GN,hA⟩,hB⟩:=hok;have at_:∀i,i<m->∃o,ops[i]?=some o/\o.guard=none/\o.dst=some (dst i)/\(∀e∈o.after,e.on<i)/\∀j,j<i->dst j≠dst i:=λi hi=>by
  have:=hA i hi;cases ho:ops[i]? with
  |none=>grind
  |some o=>
   simp only[ho,Bh,Option.isNone_iff_eq_none,beq_iff_eq,Array.all_eq_true_iff_forall_mem,decide_eq_true_eq,List.all_eq_true,List.mem_range,bne_iff_ne]at this
   grind
 have tl_:∀k,m<=k->k<ops.size->∃o,ops[k]?=some o/\(∀e∈o.after,e.on<k)/\∀j,j<k->anc .any ops ops.size k j=true:=λk hk BX=>by
  have ho:=Bz BX;have h0:=hB k BX;rw[ho]at h0;simp only[Bh,Array.all_eq_true_iff_forall_mem,decide_eq_true_eq,List.all_eq_true,List.mem_range]at h0
  grind
 have Ap:∀i,i<m->∀j,j<m->j≠i->dst j≠dst i:=λi hi j hj Vw=>by
  grind
 refine wp_region_any hm ?_;have Ew:lack (Array.replicate ops.size false)<=ops.size:=by
  unfold lack
  grind[Nat.le_trans,List.countP_le_length]
 have rdy:∀(listed:Array Bool)(k:Nat),m<=k->k<ops.size->listed[k]?=some false->(∀j,j<k->listed[j]?=some true)->k∈Region.ready .any ops listed:=λlisted k hk BX hf Au=>by
  obtain⟨o,ho,Il,_⟩:=tl_ k hk BX;unfold Region.ready;refine Hq.2 ⟨List.mem_range.2 BX,?_⟩;simp only[Bq,hf,ho,A8,Bool.not_false,Option.map_some,Bool.true_and,Array.all_eq_true_iff_forall_mem,Bool.or_eq_true]
  grind
 refine Jgp (md:=.any) (P:=P) (Q:=Q) (λlisted a w=>listed.size=ops.size/\Closed .any ops listed/\((YE M m dst F T0 ds w0 listed a w/\∀k,m<=k->k<ops.size->listed[k]?=some false)\/(∃k,m<=k/\k<=ops.size/\(∀i,i<k->listed[i]?=some true)/\(∀i,k<=i->i<ops.size->listed[i]?=some false)/\wpOps P ops Q (List.range' k (ops.size-k)) a w))) ?_ ?_ _ _ _ _ Ew
  ⟨by simp,λi o hl=>?_,.inl ⟨⟨⟨Ad _,λ_ _ _=>rfl,rfl,rfl,rfl⟩,rfl,rfl,λ_ _=>rfl,λi hi h=>?_⟩,λk _ hk=>by simp[hk]⟩⟩
 .rintro listed a w i ⟨OQ,BA,h⟩ hi;have Tf:=BA.set hi;obtain⟨hin,hf,o,ho,BK⟩:=lW hi;have Jwl:∀o',ops[i]?=some o'->∀e∈o'.after,Region.binds .any e=true->listed[e.on]?=some true:=λo' Em=>by
   grind
  have tail:∀k,m<=k->k<=ops.size->(∀j,j<k->listed[j]?=some true)->(∀j,k<=j->j<ops.size->listed[j]?=some false)->wpOps P ops Q (List.range' k (ops.size-k)) a w ->
    wpOp P ops Q i (λa' w'=>(listed.setIfInBounds i true).size=ops.size/\Closed .any ops (listed.setIfInBounds i true)/\((YE M m dst F T0 ds w0 (listed.setIfInBounds i true) a' w'/\∀k,m<=k->k<ops.size->(listed.setIfInBounds i true)[k]?=some false)\/(∃k,m<=k/\k<=ops.size/\(∀j,j<k->(listed.setIfInBounds i true)[j]?=some true)/\(∀j,k<=j->j<ops.size->(listed.setIfInBounds i true)[j]?=some false)/\wpOps P ops Q (List.range' k (ops.size-k)) a' w'))) a w:=λk hk BX Au D7 hw=>by
   have Ur:k<=i:=by
    grind
   obtain⟨o2,Zf,hon2,Wx⟩:=tl_ i (by omega) hin;obtain rfl:i=k:=by
    rcases Nat.eq_or_lt_of_le Ur with h|h
    .exact h.symm
    .have:=BA.anc ops.size i k Jwl (Wx k h)
     grind
   rw[show ops.size-i=(ops.size-(i+1))+1 by omega,List.range'_succ,wpOps_cons]at hw;refine wpOp_mono (λa' w' h=>⟨by grind,Tf,.inr ⟨i+1,by omega,by omega,λj hj=>?_,λj hj iO=>?_,h⟩⟩) hw
   .grind
   grind[Array.getElem?_setIfInBounds_ne]
  rcases h with⟨hI,hT⟩|⟨k,hk,BX,Au,D7,hw⟩
  .rcases BF i m with KN|KN
   .obtain⟨o',Em,hg,hd,Il,_⟩:=at_ i KN;obtain rfl:o'=o:=by grind
    refine wpOp_mono ?_ (step i o' a w KN ho hI.tch hI.size hI.old λj iP=>?_)
    .rintro a' w' ⟨v,rfl,hv,ht⟩;refine⟨by grind,Tf,.inl ⟨hI.put KN (Ap i KN) (Ag i KN) stable hv ht,λk hk BX=>?_⟩⟩
     grind[Array.getElem?_setIfInBounds_ne]
    .obtain⟨e,he,h⟩:=List.any_eq_true.1 iP;rw[Bh,beq_iff_eq]at h;obtain⟨rfl,hb⟩:=h;exact hI.facts _ (by grind) (BK e (Array.mem_toList_iff.1 he) hb)
   .obtain⟨_,_,_,Wx⟩:=tl_ i KN hin;have Au:∀j,j<i->listed[j]?=some true:=λj hj=>BA.anc ops.size i j Jwl (Wx j hj);obtain rfl:i=m:=by
     rcases Nat.eq_or_lt_of_le KN with h|h
     all_goals grind
    exact tail i (Ad _) (by omega) Au hT (fin a w hI.tch hI.ds hI.size hI.old λj hj=>hI.facts j hj (Au j hj))
  .exact tail k hk BX Au D7 hw
 .rintro listed a w ⟨OQ,BA,h⟩ hr;have dn:∀k,m<=k->k<=ops.size->(∀j,j<k->listed[j]?=some true)->(∀j,k<=j->j<ops.size->listed[j]?=some false)->wpOps P ops Q (List.range' k (ops.size-k)) a w->Q .normal a w:=λk hk BX Au D7 hw=>by
   rcases BF k ops.size with Ac|Et
   .grind
   .rw[show ops.size-k=0 by omega]at hw;exact hw
  rcases h with⟨hI,hT⟩|⟨k,hk,BX,Au,D7,hw⟩
  .have Au:∀j,j<m->listed[j]?=some true:=λj=>by
    induction j using Nat.strongRecOn with
    |_ j ih=>
     intro hj;obtain⟨o,ho,_,_,Il,_⟩:=at_ j hj;cases hx:listed[j]? with
     |none=>grind
     |some b=>
      cases b with
      |true=>rfl
      |false=>
       exfalso;have:j∈Region.ready .any ops listed:=by
        unfold Region.ready;refine Hq.2 ⟨List.mem_range.2 (by omega),?_⟩;simp only[Bq,hx,ho,A8,Bool.not_false,Option.map_some,Bool.true_and,Array.all_eq_true_iff_forall_mem,Bool.or_eq_true]
        grind
       grind
   exact dn m (Ad _) GN Au hT (fin a w hI.tch hI.ds hI.size hI.old λj hj=>hI.facts j hj (Au j hj))
  .exact dn k hk BX Au D7 hw
 all_goals grind
def J9{i:Nat}{o:Oper}{a:Act}{w w':JE}{v:JJ}{K:Act->JE->Prop}(ho:ops[i]?=some o)(hg:o.guard=none)(hr:(execOp a.eval o).run P w=.ok (.value v) w')(h:K (a.put o.dst v) w'):wpOp P ops Q i K a w:=by unfold wpOp;simp only[ho,Region.wanted,hg,if_true];left;unfold Oper.wp;rw[hr];exact h
def Rz{i:Nat}{o:Oper}{a:Act}{w w':JE}{f:JG}{args:JC}{R:Ending->JE->Prop}{K:Act->JE->Prop}(ho:ops[i]?=some o)(hg:o.guard=none)(hr:(execOp a.eval o).run P w=.ok (.enter f args) w')(hc:Calls P f args w' R)(h:∀e w2,R e w2->∃v,e=.returned v/\K (a.put o.dst v) w2):wpOp P ops Q i K a w:=by
 unfold wpOp;simp only[ho,Region.wanted,hg,if_true];left;unfold Oper.wp;rw[hr];refine hc.mono λe w2 he=>?_
 grind
theorem aQ{a:Act}{t:Tmp}{v:JJ}(h:a.tmps[t]?=some v):a.eval (.tmp t)=v:=by simp[Act.eval,Bq,h]
end
section
variable{P:Program}{ops:Array Oper}{Q:Exit->Act->JE->Prop}{m:Nat}{dst:Nat->Nat}
def Je9(hok:RU .any ops m dst=true):m<=ops.size/\(∀i,i<m->∃o,ops[i]?=some o/\o.guard=none/\o.dst=some (dst i)/\(∀e∈o.after,e.on<i)/\∀j,j<i->dst j≠dst i) /\
  ∀k,m<=k->k<ops.size->∃o,ops[k]?=some o/\(∀e∈o.after,e.on<k)/\∀j,j<k->anc .any ops ops.size k j=true:=by
 unfold RU at hok;simp only[Bh,decide_eq_true_eq,List.all_eq_true,List.mem_range,Bool.or_eq_true]at hok;obtain⟨⟨GN,hA⟩,hB⟩:=hok;refine⟨GN,λi hi=>?_,λk hk BX=>?_⟩
 .have:=hA i hi;cases ho:ops[i]? with
  |none=>grind
  |some o=>
   simp only[ho,Bh,Option.isNone_iff_eq_none,beq_iff_eq,Array.all_eq_true_iff_forall_mem,decide_eq_true_eq,List.all_eq_true,List.mem_range,bne_iff_ne]at this
   grind
 .have ho:=Bz BX;have h0:=hB k BX;rw[ho]at h0;simp only[Bh,Array.all_eq_true_iff_forall_mem,decide_eq_true_eq,List.all_eq_true,List.mem_range]at h0
  grind
def Jk3{listed:Array Bool}{k:Nat}{o:Oper}(ho:ops[k]?=some o)(Il:∀e∈o.after,listed[e.on]?=some true)(hf:listed[k]?=some false):k∈Region.ready .any ops listed:=by
 unfold Region.ready;refine Hq.2 ⟨List.mem_range.2 (BJ.1 ho).1,?_⟩
 simp_all
def Jm5{fuel t:Nat}{listed:Array Bool}(Ap:Region.ready .any ops listed≠[]):∃i∈Region.ready .any ops listed,∃t',Region.linearise.go .any ops (fuel+1) t listed []=i::Region.linearise.go .any ops fuel t' (listed.setIfInBounds i true) []:=by
 have BZ:0<(Region.ready .any ops listed).length:=List.length_pos_iff.2 Ap;have Ac:=Nat.mod_lt t BZ;refine⟨(Region.ready .any ops listed)[t % (Region.ready .any ops listed).length],List.getElem_mem _,t / (Region.ready .any ops listed).length,?_⟩;simp only[Region.linearise.go];change (match(Region.ready .any ops listed)[t % (Region.ready .any ops listed).length]? with
   |some i=>Region.linearise.go .any ops fuel (t / (Region.ready .any ops listed).length) (listed.setIfInBounds i true) [i]
   |none=>[].reverse)=_
 grind[List.getElem?_eq_getElem,linearise_go_acc]
theorem Jym{fuel t:Nat}{listed:Array Bool}(hr:Region.ready .any ops listed=[]):Region.linearise.go .any ops fuel t listed []=[]:=by
 cases fuel with
 |zero=>rfl
 |succ fuel=>
  simp only[Region.linearise.go];change (match(Region.ready .any ops listed)[t % (Region.ready .any ops listed).length]? with
   |some i=>Region.linearise.go .any ops fuel (t / (Region.ready .any ops listed).length) (listed.setIfInBounds i true) [i]
   |none=>[].reverse)=_
  grind
def Jk4(hok:RU .any ops m dst=true):∀(fuel t k:Nat)(listed:Array Bool),listed.size=ops.size->Closed .any ops listed->m<=k->k<=ops.size->(∀j,j<k->listed[j]?=some true)->(∀j,k<=j->j<ops.size->listed[j]?=some false)->ops.size-k<=fuel ->
  Region.linearise.go .any ops fuel t listed []=List.range' k (ops.size-k):=by
 obtain⟨GN,hA,hB⟩:=Je9 hok;intro fuel
 induction fuel with
 |zero=>
  intro t k listed _ _ _ _ _ _ hf;rw[show ops.size-k=0 by omega];rfl
 |succ fuel ih=>
  intro t k listed OQ BA hk BX Au D7 hf;have only:∀i,i∈Region.ready .any ops listed->i=k:=λi hi=>by
   obtain⟨hin,hfi,o,ho,BK⟩:=lW hi;have Ur:k<=i:=by
    grind
   obtain⟨_,_,_,Wx⟩:=hB i (by omega) hin;rcases Nat.eq_or_lt_of_le Ur with h|h
   .exact h.symm
   .have:=BA.anc ops.size i k (λo' Em=>by grind) (Wx k h)
    grind
  rcases BF k ops.size with Ac|Et
  .obtain⟨o,ho,Il,_⟩:=hB k hk Ac;have hr:k∈Region.ready .any ops listed:=Jk3 ho (λe he=>Au _ (Il e he)) (D7 k (Ad _) Ac);obtain⟨i,hi,t',e⟩:=Jm5 (fuel:=fuel) (t:=t) (List.ne_nil_of_mem hr);obtain rfl:=only i hi;rw[e,show ops.size-i=(ops.size-(i+1))+1 by omega,List.range'_succ];congr 1;refine ih t' (i+1) _ (by grind) (BA.set hr) (by omega) (by omega) (λj hj=>?_) (λj hj iO=>?_) (by omega)
   all_goals grind
  .have hr:Region.ready .any ops listed=[]:=by
    cases hr:Region.ready .any ops listed with
    |nil=>rfl
    |cons i l=>
     have hi:i∈Region.ready .any ops listed:=by rw[hr];simp
     grind[lW]
   grind[Jym]
def Walks(P:Program)(ops:Array Oper)(m:Nat)(pre:List Nat)(listed:Array Bool):Prop:=
 ∀(Q:Exit->Act->JE->Prop)(K:Array Bool->Act->JE->Prop),(∀listed a w i,K listed a w->i<m->i∈Region.ready .any ops listed->wpOp P ops Q i (λa' w'=>K (listed.setIfInBounds i true) a' w') a w) ->
  (∀listed a w,K listed a w->(∀j,j<m->listed[j]?=some true)->Q .normal a w)->∀a w,K listed a w->wpOps P ops Q pre a w
inductive Wk(ops:Array Oper)(m:Nat):Array Bool->List Nat->Prop
 |done{listed:Array Bool}(h:∀j,j<m->listed[j]?=some true):Wk ops m listed []
 |step{listed:Array Bool}{i:Nat}{pre:List Nat}(hi:i<m)(hr:i∈Region.ready .any ops listed)(h:Wk ops m (listed.setIfInBounds i true) pre):Wk ops m listed (i::pre)
def Jyn(P:Program)(hok:RU .any ops m dst=true):∀(fuel t:Nat)(listed:Array Bool),listed.size=ops.size->Closed .any ops listed->(∀j,m<=j->j<ops.size->listed[j]?=some false)->lack listed<=fuel ->
  ∃pre,Region.linearise.go .any ops fuel t listed []=pre++List.range' m (ops.size-m)/\(∀i∈pre,i<m)/\Walks P ops m pre listed/\Wk ops m listed pre:=by
 obtain⟨GN,hA,hB⟩:=Je9 hok;intro fuel
 induction fuel with
 |zero=>
  intro t listed OQ BA D7 hf;have Au:∀j,j<ops.size->listed[j]?=some true:=λj hj=>by
   cases hx:listed[j]? with
   |none=>grind
   |some b=>
    cases b with
    |true=>rfl
    |false=>grind[nM]
  refine⟨[],?_,λi hi=>(by cases hi),λQ K _ Ef a w hK=>Ef listed a w hK λj hj=>Au j (by omega),.done λj hj=>Au j (by omega)⟩;rw[Jk4 hok 0 t m listed OQ BA (Ad _) GN (λj hj=>Au j (by omega)) D7 ?_]
  all_goals simp_all
 |succ fuel ih=>
  intro t listed OQ BA D7 hf;by_cases Au:∀j,j<m->listed[j]?=some true
  .refine⟨[],?_,λi hi=>(by cases hi),λQ K _ Ef a w hK=>Ef listed a w hK Au,.done Au⟩;rw[Jk4 hok (fuel+1) t m listed OQ BA (Ad _) GN Au D7 ?_]
   .rfl
   .have:ops.size-m<=lack listed:=by
     unfold lack;rw[<- List.take_append_drop m listed.toList,List.countP_append];have:(listed.toList.drop m).countP (λb=>!b)=(listed.toList.drop m).length:=by
      rw[List.countP_eq_length]
      grind[List.getElem_of_mem,List.length_drop,Array.length_toList,Array.getElem?_eq_getElem]
     grind
    omega
  .have hex:∃j,j<m/\listed[j]?=some false/\∀i,i<j->listed[i]?=some true:=by
    refine Classical.byContradiction λhn=>Au λj=>?_
    induction j using Nat.strongRecOn with
    |_ j ihj=>
     intro hj;cases hx:listed[j]? with
     |none=>grind
     |some b=>
      cases b with
      |true=>rfl
      |false=>grind
   obtain⟨j,hj,hjf,hjl⟩:=hex;obtain⟨o,ho,_,_,Il,_⟩:=hA j hj;have hr:j∈Region.ready .any ops listed:=Jk3 ho (λe he=>hjl _ (Il e he)) hjf;obtain⟨i,hi,t',e⟩:=Jm5 (fuel:=fuel) (t:=t) (List.ne_nil_of_mem hr);obtain⟨hin,hif,oi,hoi,BK⟩:=lW hi;have KN:i<m:=by
    rcases BF i m with h|h
    .exact h
    .obtain⟨_,_,_,Wx⟩:=hB i h hin;have:=BA.anc ops.size i j (λo' Em=>by grind) (Wx j (by omega))
     grind
   have Ew:=nM hif;obtain⟨pre,h1,h2,h3,h4⟩:=ih t' (listed.setIfInBounds i true) (by grind) (BA.set hi) (λj hj iO=>by grind) (by omega);refine⟨i::pre,by grind,λx hx=>?_,λQ K hs Ef a w hK=>?_,.step KN hi h4⟩
   .grind
   .rw[wpOps_cons];exact wpOp_mono (λa' w' h=>h3 Q K hs Ef a' w' h) (hs listed a w i hK KN hi)
def Jk5(P:Program)(hok:RU .any ops m dst=true)(n:Nat):∃pre,Region.schedule true ops n=pre++List.range' m (ops.size-m)/\(∀i∈pre,i<m)/\Walks P ops m pre (Array.replicate ops.size false)/\Wk ops m (Array.replicate ops.size false) pre:=by
 have Ew:lack (Array.replicate ops.size false)<=ops.size:=by
  unfold lack
  grind[Nat.le_trans,List.countP_le_length]
 have:=Jyn P hok ops.size n (Array.replicate ops.size false) (by simp) (λi o hl=>by
  grind) (λj _ hj=>by simp[hj]) Ew
 exact this
def Jrh(P:Program)(hok:RU .any ops m dst=true)(n:Nat):∃pre,Region.schedule true ops n=pre++List.range' m (ops.size-m)/\(∀i∈pre,i<m)/\Walks P ops m pre (Array.replicate ops.size false):=by
 obtain⟨pre,h1,h2,h3,_⟩:=Jk5 P hok n
 grind
def Walks.dag{pre:List Nat}(hW:Walks P ops m pre (Array.replicate ops.size false)){T0:JC}{ds:List Deferred}{w0:JE}{M:JB}(F:Nat->JJ->JE->Prop)(hok:RU .any ops m dst=true)(Ag:∀i,i<m->dst i<T0.size)
  (stable:∀i v w w',F i v w->Tch w.heap.size M w w'->F i v w')
  (step:∀i o a w,i<m->ops[i]?=some o->Tch w0.heap.size M w0 w->a.tmps.size=T0.size->(∀s,(∀i,i<m->dst i≠s)->a.tmps[s]?=T0[s]?)->(∀j,(o.after.toList.any λe=>e.on == j && Region.binds .any e)=true->∃v,a.tmps[dst j]?=some v/\F j v w) ->
   wpOp P ops Q i (λa' w'=>∃v,a'=a.put (some (dst i)) v/\F i v w'/\Tch w.heap.size M w w') a w)
  (fin:∀a w,Tch w0.heap.size M w0 w->a.defers=ds->a.tmps.size=T0.size->(∀s,(∀i,i<m->dst i≠s)->a.tmps[s]?=T0[s]?)->(∀i,i<m->∃v,a.tmps[dst i]?=some v/\F i v w)->Q .normal a w):wpOps P ops Q pre ⟨T0,ds⟩ w0:=by
 obtain⟨GN,hA,hB⟩:=Je9 hok;have Ap:∀i,i<m->∀j,j<m->j≠i->dst j≠dst i:=λi hi j hj Vw=>by
  grind
 refine hW Q (λlisted a w=>YE M m dst F T0 ds w0 listed a w) (λlisted a w i hI KN hi=>?_) (λlisted a w hI Au=>fin a w hI.tch hI.ds hI.size hI.old λi hi=>hI.facts i hi (Au i hi)) ⟨T0,ds⟩ w0 ⟨.refl,rfl,rfl,λ_ _=>rfl,λi hi h=>?_⟩
 .obtain⟨hin,hf,o,ho,BK⟩:=lW hi;obtain⟨o',Em,hg,hd,Il,_⟩:=hA i KN;obtain rfl:o'=o:=by grind
  refine wpOp_mono ?_ (step i o' a w KN ho hI.tch hI.size hI.old λj iP=>?_)
  .rintro a' w' ⟨v,rfl,hv,ht⟩;exact hI.put KN (Ap i KN) (Ag i KN) stable hv ht
  .obtain⟨e,he,h⟩:=List.any_eq_true.1 iP;rw[Bh,beq_iff_eq]at h;obtain⟨rfl,hb⟩:=h;exact hI.facts _ (by grind) (BK e (Array.mem_toList_iff.1 he) hb)
 grind
end
section
variable{P:Program}{ops:Array Oper}{Q:Exit->Act->JE->Prop}{m p:Nat}{dst:Nat->Nat}{l l':Array Bool}{pre:List Nat}
inductive RQ(ops:Array Oper)(m:Nat):Array Bool->List Nat->Array Bool->Prop
 |nil{l:Array Bool}:RQ ops m l [] l
 |step{l l':Array Bool}{i:Nat}{pre:List Nat}(hi:i<m)(hr:i∈Region.ready .any ops l)(h:RQ ops m (l.setIfInBounds i true) pre l'):RQ ops m l (i::pre) l'
theorem J06v{i:Nat}(h:i∈Region.ready .any ops l):l[i]?=some false:=(lW h).2.1
def Wk.all(h:Wk ops m l pre):∃l',RQ ops m l pre l'/\∀j,j<m->l'[j]?=some true:=by
 induction h with
 |done h=>exact⟨_,.nil,h⟩
 |step hi hr _ ih=>
  obtain⟨l',h1,h2⟩:=ih;exact⟨l',.step hi hr h1,h2⟩
def Wk.J0ce(h:Wk ops m l pre)(hp:l[p]?=some true):p∉pre:=by
 induction h with
 |done h=>simp
 |@step l i pre hi hr _ ih=>
  grind[J06v,Array.getElem?_setIfInBounds_ne]
def Wk.split(h:Wk ops m l pre)(hp:l[p]?=some false)(hm:p<m) :
  ∃Jeo l1 post,pre=Jeo++p::post/\RQ ops m l Jeo l1/\p∉Jeo/\p∈Region.ready .any ops l1/\Wk ops m (l1.setIfInBounds p true) post/\p∉post:=by
 induction h with
 |done h=>grind
 |@step l i pre hi hr hw ih=>
  by_cases e:i=p
  .subst e;refine⟨[],l,pre,rfl,.nil,by simp,hr,hw,hw.J0ce ?_⟩
   grind
  .obtain⟨Jeo,l1,post,rfl,h1,h2,h3,h4,h5⟩:=ih (by grind);exact⟨i::Jeo,l1,post,rfl,.step hi hr h1,by grind,h3,h4,h5⟩
def RQ.lt(h:RQ ops m l pre l'):∀i∈pre,i<m:=by
 induction h with
 |nil=>simp
 |step hi _ _ ih=>grind
def RQ.dag(hW:RQ ops m l pre l'){T0:JC}{ds:List Deferred}{w0:JE}{M:JB}(F:Nat->JJ->JE->Prop)(hok:RU .any ops m dst=true)(Ag:∀i,i<m->dst i<T0.size)
  (stable:∀i v w w',F i v w->Tch w.heap.size M w w'->F i v w') (fin:∀a w,YE M m dst F T0 ds w0 l' a w->Q .normal a w) :
  (∀i o a w,i∈pre->i<m->ops[i]?=some o->Tch w0.heap.size M w0 w->a.tmps.size=T0.size->(∀s,(∀i,i<m->dst i≠s)->a.tmps[s]?=T0[s]?)->(∀j,(o.after.toList.any λe=>e.on == j && Region.binds .any e)=true->∃v,a.tmps[dst j]?=some v/\F j v w) ->
   wpOp P ops Q i (λa' w'=>∃v,a'=a.put (some (dst i)) v/\F i v w'/\Tch w.heap.size M w w') a w) ->
  ∀a w,YE M m dst F T0 ds w0 l a w->wpOps P ops Q pre a w:=by
 obtain⟨GN,hA,hB⟩:=Je9 hok;have Ap:∀i,i<m->∀j,j<m->j≠i->dst j≠dst i:=λi hi j hj Vw=>by
  grind
 induction hW with
 |nil=>intro _ a w hI;exact fin a w hI
 |@step l l' i pre hi hr _ ih=>
  intro step a w hI;rw[wpOps_cons];obtain⟨hin,hf,o,ho,BK⟩:=lW hr;obtain⟨o',Em,hg,hd,Il,_⟩:=hA i hi;obtain rfl:o'=o:=by grind
  refine wpOp_mono ?_ (step i o' a w (by simp) hi ho hI.tch hI.size hI.old λj iP=>?_)
  .rintro a' w' ⟨v,rfl,hv,ht⟩;exact ih fin (λi o a w hip=>step i o a w (List.mem_cons_of_mem _ hip)) _ _ (hI.put hi (Ap i hi) (Ag i hi) stable hv ht)
  .obtain⟨e,he,h⟩:=List.any_eq_true.1 iP;rw[Bh,beq_iff_eq]at h;obtain⟨rfl,hb⟩:=h;exact hI.facts _ (by grind) (BK e (Array.mem_toList_iff.1 he) hb)
end
def IB(bits x:Int):Nat:=(x / 2 ^ (64-bits).toNat).toNat
def UQ(bits x:Int):Int:=min (64-(Lib.bitLen (x*2 ^ bits.toNat % 18446744073709551616).toNat:Int)) (64-bits)+1
def Om(bits:Int)(rs:JD)(x:Int):JD:=rs.set (IB bits x) (max (rs.getD (IB bits x) 0) (UQ bits x))
def bitLenAux_le:∀f x,Lib.bitLenAux f x<=f
 |0,x=>by simp[Lib.bitLenAux]
 |f+1,x=>by have:=bitLenAux_le f (x / 2);unfold Lib.bitLenAux;split<;>omega
theorem bitLen_le(x:Nat):Lib.bitLen x<=64:=bitLenAux_le 64 x
def Jlk{bits x:Int}(hb:4<=bits/\bits<=6):1<=UQ bits x/\UQ bits x<=61:=by have:=bitLen_le (x*2 ^ bits.toNat % 18446744073709551616).toNat;unfold UQ;omega
def Jll{bits x:Int}(hb:4<=bits/\bits<=6)(hx:0<=x/\x<=18446744073709551615):IB bits x<2 ^ bits.toNat:=by
 have:bits=4\/bits=5\/bits=6:=by omega
 rcases this with rfl|rfl|rfl<;>simp[IB]<;>omega
def J95{bits x:Int}{rs:JD}:(Om bits rs x).length=rs.length:=by simp[Om]
section
variable{fr:Bool}{w w':JE}{b r cap:Nat}{bits:Int}{rs:JD}
def Jzw(h:DV false w b r cap bits rs)(hb:4<=bits/\bits<=6)(hl:rs.length=2 ^ bits.toNat)(hr:∀x∈rs,0<=x/\x<=255)(OH:b≠r){x:Int}(hx:0<=x/\x<=18446744073709551615)(v:Int) :
  Calls prog 248 #[JL b,.int .u64 x,JK v] w λe w'=>(∃v,e=.returned v)/\DV false w' b r cap bits (Om bits rs x)/\Tch w.heap.size (λy=>y=r) w w':=by
 have hi:=Jll hb hx;have hn:=Jlk (x:=x) hb;have c0:=h.c0;have c1:=h.c1;have Aj:=h.row.cell (i:=IB bits x) (by omega);have iI:=h.row.frozen (IB bits x);have hy:=hr (rs.getD (IB bits x) 0) (by grind);have fin:∀m:Int,m=max (rs.getD (IB bits x) 0) (UQ bits x)->∀wx:JE,wx.heap=w.heap->wx.tape=w.tape->wx.os=w.os->wx.output=w.output ->
   DV false (wx.setCell ⟨r,IB bits x,none⟩ (.int .u8 m)) b r cap bits (Om bits rs x)/\Tch w.heap.size (λy=>y=r) w (wx.setCell ⟨r,IB bits x,none⟩ (.int .u8 m)):=by
  rintro m rfl wx e1 e2 e3 e4;have Lm:∀b:Nat,wx.heap[b]?=w.heap[b]?:=λb=>by rw[e1]
  refine⟨⟨?_,?_⟩,Tch.set ⟨by grind,λb _ _=>Lm b,e2,e3,e4⟩ (.inr (show(λy=>y=r) r from rfl)) _⟩
  .rw[J95];exact h.hd.kept ((Jm _ _ OH).trans (Lm b))
  .have:=(h.row.kept (w':=wx) (Lm r)).set (IB bits x) (max (rs.getD (IB bits x) 0) (UQ bits x));exact this
 have L8:bits=4\/bits=5\/bits=6:=by omega
 obtain⟨L,Ig,Es,BA⟩:∃L:Int,(0<=L/\L<=64)/\UQ bits x=min L (64-bits)+1/\∀w,Calls prog 252 #[.int .u64 (IntKind.u64.wrap (x*2 ^ bits.toNat))] w λe w'=>e=.returned (JK L)/\w'=w:=by
  refine⟨64-(Lib.bitLen (x*2 ^ bits.toNat % 18446744073709551616).toNat:Int),?_,rfl,λw=>?_⟩
  all_goals grind[bitLen_le,IntKind.wrap_u64,Tryz.bits_LeadingZeros64]
 generalize hN:UQ bits x=N at *;generalize hI:IB bits x=I at *;generalize hY:rs.getD I 0=Y at *;rcases L8 with rfl|rfl|rfl
 .have Uc:I=(x / 1152921504606846976).toNat:=by rw[<- hI];simp[IB]
  have gG:N=min L 60+1:=Es;have Tf:Hid (∀w,Calls prog 252 #[.int .u64 (IntKind.u64.wrap (x*16))] w λe w'=>e=.returned (JK L)/\w'=w):=BA;have BX:IntKind.u8.wrap (min L 60+1)=N:=by rw[IntKind.wrap_u8];omega
  have DI:IntKind.u8.wrap (IntKind.i64.wrap (min L (IntKind.i64.wrap 60)+1))=N:=by grind[IntKind.wrap_u8,IntKind.wrap_i64]
  have hlen:rs.length=16:=hl;have hii:0<=x / 1152921504606846976/\x / 1152921504606846976<16:=by omega
  have KJ:¬x / 1152921504606846976<0:=by omega
  clear BA Es hI hN;subst Uc
  go_enter func248,ntmps248
  go_wp2_with fail
  go_region_held3 (λw1=>w1.cell? ⟨b,0,none⟩=some (JK 4)) (go_keep) ((go_at_call 252;refine(Tf _).mono ?_;rintro e w' ⟨rfl,rfl⟩))
  all_goals go_wp2_with fail
  all_goals go_region
  all_goals go_wp2
  all_goals go_end0
  all_goals(try simp only[DI,BX])
  all_goals exact(λq=>⟨⟨_,rfl⟩,DV.kept q.1 rfl rfl,⟨q.2.size,q.2.heap,q.2.tape,q.2.os,q.2.output⟩⟩) (fin (max Y (min L 60+1)) (by rw[<- gG]) w rfl rfl rfl rfl)
 .have Uc:I=(x / 576460752303423488).toNat:=by rw[<- hI];simp[IB]
  have gG:N=min L 59+1:=Es;have Tf:Hid (∀w,Calls prog 252 #[.int .u64 (IntKind.u64.wrap (x*32))] w λe w'=>e=.returned (JK L)/\w'=w):=BA;have BX:IntKind.u8.wrap (min L 59+1)=N:=by rw[IntKind.wrap_u8];omega
  have DI:IntKind.u8.wrap (IntKind.i64.wrap (min L (IntKind.i64.wrap 59)+1))=N:=by grind[IntKind.wrap_u8,IntKind.wrap_i64]
  have hlen:rs.length=32:=hl;have hii:0<=x / 576460752303423488/\x / 576460752303423488<32:=by omega
  have KJ:¬x / 576460752303423488<0:=by omega
  clear BA Es hI hN;subst Uc
  go_enter func248,ntmps248
  go_wp2_with fail
  go_region_held3 (λw1=>w1.cell? ⟨b,0,none⟩=some (JK 5)) (go_keep) ((go_at_call 252;refine(Tf _).mono ?_;rintro e w' ⟨rfl,rfl⟩))
  all_goals go_wp2_with fail
  all_goals go_region
  all_goals go_wp2
  all_goals go_end0
  all_goals(try simp only[DI,BX])
  all_goals exact(λq=>⟨⟨_,rfl⟩,DV.kept q.1 rfl rfl,⟨q.2.size,q.2.heap,q.2.tape,q.2.os,q.2.output⟩⟩) (fin (max Y (min L 59+1)) (by rw[<- gG]) w rfl rfl rfl rfl)
 .have Uc:I=(x / 288230376151711744).toNat:=by rw[<- hI];simp[IB]
  have gG:N=min L 58+1:=Es;have Tf:Hid (∀w,Calls prog 252 #[.int .u64 (IntKind.u64.wrap (x*64))] w λe w'=>e=.returned (JK L)/\w'=w):=BA;have BX:IntKind.u8.wrap (min L 58+1)=N:=by rw[IntKind.wrap_u8];omega
  have DI:IntKind.u8.wrap (IntKind.i64.wrap (min L (IntKind.i64.wrap 58)+1))=N:=by grind[IntKind.wrap_u8,IntKind.wrap_i64]
  have hlen:rs.length=64:=hl;have hii:0<=x / 288230376151711744/\x / 288230376151711744<64:=by omega
  have KJ:¬x / 288230376151711744<0:=by omega
  clear BA Es hI hN;subst Uc
  go_enter func248,ntmps248
  go_wp2_with fail
  go_region_held3 (λw1=>w1.cell? ⟨b,0,none⟩=some (JK 6)) (go_keep) ((go_at_call 252;refine(Tf _).mono ?_;rintro e w' ⟨rfl,rfl⟩))
  all_goals go_wp2_with fail
  all_goals go_region
  all_goals go_wp2
  all_goals go_end0
  all_goals(try simp only[DI,BX])
  all_goals exact(λq=>⟨⟨_,rfl⟩,DV.kept q.1 rfl rfl,⟨q.2.size,q.2.heap,q.2.tape,q.2.os,q.2.output⟩⟩) (fin (max Y (min L 58+1)) (by rw[<- gG]) w rfl rfl rfl rfl)
end
def Px(fr:Bool)(w:JE)(ba:JI)(bs:JD):Prop:=bs=[]\/∃bb cap,ba=some ⟨bb,0,none⟩/\Row fr w bb 3 .i64 bs cap
def Jv(bs:JD)(v:Int):Nat:=bs.countP (· < v)+if bs.contains v then 1 else 0
def NH(bs:JD)(hs:JD)(v:Int):JD:=hs.set (Jv bs v) (wrap64 (hs.getD (Jv bs v) 0+1))
def ZP{bs hs:JD}{v:Int}:(NH bs hs v).length=hs.length:=by simp[NH]
def Jch{bs:JD}(h:bs.Pairwise (· < ·))(v:Int):Jv bs v<bs.length+1:=by
 unfold Jv
 grind[Nat.not_le,List.countP_eq_length,Nat.le_antisymm,List.countP_le_length]
section
variable{fr:Bool}{w w':JE}{b r cap:Nat}{ba:JI}{nb cb:Nat}{hs bs:JD}
def Jpk(h:Px fr w ba bs)(hn:bs.length<=1000)(hs:bs.Pairwise (· < ·))(c:Nat)(x:Int) :
  Calls prog 259 #[.slice ba bs.length c,JK x] w λe w'=>e=.returned (.tuple #[JK (bs.countP (· < x):Nat),.bool (bs.contains x)])/\∃q,w'=w.drewN q:=by
 rcases h with rfl|⟨bb,cap,rfl,hr⟩
 .refine(Tryz.slices_BinarySearch_int_empty ba c x w).mono ?_;rintro e w' ⟨rfl,rfl⟩;exact⟨rfl,0,rfl⟩
 .have:=Tryz.slices_BinarySearch_int bb 0 bs.length c bs x w (Ad _) (by omega) (λj hj=>by rw[Nat.zero_add];exact hr.cell hj) (by rw[List.take_length];exact hs.imp λh=>by omega)
  grind
def Jxm(h:EZ false w b r cap ba bs.length cb hs)(hB:Px fr w ba bs)(hn:bs.length<=1000)(IV:bs.Pairwise (· < ·))(hl:hs.length=bs.length+1)(OH:b≠r)(x v:Int) :
  Calls prog 255 #[JL b,.int .u64 x,JK v] w λe w'=>(∃v,e=.returned v)/\EZ false w' b r cap ba bs.length cb (NH bs hs v)/\Tch w.heap.size (λy=>y=r) w w':=by
 have c0:=h.c0;have c1:=h.c1;have hi:=Jch IV v;have Aj:=h.row.cell (i:=Jv bs v) (by omega);have iI:=h.row.frozen (Jv bs v);have hsr:=Jpk hB hn IV cb v;have fin:Hid (∀wx:JE,wx.heap=w.heap->wx.tape=w.tape->wx.os=w.os->wx.output=w.output ->
   EZ false (wx.setCell ⟨r,Jv bs v,none⟩ (JK (wrap64 (hs.getD (Jv bs v) 0+1)))) b r cap ba bs.length cb (NH bs hs v)/\Tch w.heap.size (λy=>y=r) w (wx.setCell ⟨r,Jv bs v,none⟩ (JK (wrap64 (hs.getD (Jv bs v) 0+1))))):=by
  rintro wx e1 e2 e3 e4;have Lm:∀b:Nat,wx.heap[b]?=w.heap[b]?:=λb=>by rw[e1]
  refine⟨⟨?_,?_⟩,Tch.set ⟨by grind,λb _ _=>Lm b,e2,e3,e4⟩ (.inr (show(λy=>y=r) r from rfl)) _⟩
  .rw[ZP];exact h.hd.kept ((Jm _ _ OH).trans (Lm b))
  .exact(h.row.kept (w':=wx) (Lm r)).set (Jv bs v) (wrap64 (hs.getD (Jv bs v) 0+1))
 generalize hY:hs.getD (Jv bs v) 0=Y at *;have hlen:hs.length=bs.length+1:=hl;have hu:Jv bs v=bs.countP (· < v)+if bs.contains v then 1 else 0:=rfl
 generalize Jv bs v=I at *;generalize bs.countP (· < v)=N at *;generalize bs.length=n at *;cases hcn:bs.contains v with
 |true=>
  rw[hcn]at hu hsr;have hI:I=N+1:=hu;clear hu;subst hI
  go_enter func255,ntmps255
  go_wp2_with (go_at_call 259;refine hsr.mono ?_;rintro e w1 ⟨rfl,q,rfl⟩)
  go_end0;exact⟨⟨_,rfl⟩,fin _ rfl rfl rfl rfl⟩
 |false=>
  rw[hcn]at hu hsr;have hI:I=N:=hu;clear hu;subst hI
  go_enter func255,ntmps255
  go_wp2_with (go_at_call 259;refine hsr.mono ?_;rintro e w1 ⟨rfl,q,rfl⟩)
  go_end0;exact⟨⟨_,rfl⟩,fin _ rfl rfl rfl rfl⟩
end
open Go.Shelf
section
variable{fr:Bool}{w w':JE}{b:Nat}{pr:Option (Nat × Nat)}{K:Int}{ls:JD}
def Jmn{g c':Nat}(hc:c'<=maxLen)(hg:w.heap.size<=g)(Aj:Row false w' g 110 .u64 ls c')(ht:Tch w.heap.size M0 w w') :
  ∃b' r' c2,Ending.returned (Value.iface 192 (JL w'.heap.size))=.returned (.iface 192 (JL b'))/\w.heap.size<=b'/\w.heap.size<=r'/\b'≠r'/\Gf false (w'.alloc (.cells #[JK K,JM g ls.length c'] 194)) b' (some (r',c2)) K ls/\Tch w.heap.size M0 w (w'.alloc (.cells #[JK K,JM g ls.length c'] 194)):=
 ⟨_,g,c',rfl,ht.size,hg,by have:=Aj.lt;omega,⟨⟨(0,0),Ja _,λ_=>rfl⟩,Aj.kept (J8 _ Aj.lt),hc⟩,ht.alloc ht.size _⟩
def Jsz{r cap:Nat}{xs:JD}(h:Row fr w r 110 .u64 xs cap)(hn:xs.length<=100000)(c:Nat):Calls prog 214 #[JM r xs.length c] w λe w'=>∃g c',e=.returned (JM g xs.length c')/\c'<=maxLen/\w.heap.size<=g/\Row false w' g 110 .u64 xs c'/\Tch w.heap.size M0 w w':=by
 grind[Jlj]
def Jpp{r c:Nat}(h:Gf fr w b (some (r,c)) K ls)(hn:ls.length<=1000) :
  Calls prog 263 #[JL b] w λe w'=>∃b' r' c',e=.returned (.iface 192 (JL b'))/\w.heap.size<=b'/\w.heap.size<=r'/\b'≠r'/\Gf false w' b' (some (r',c')) K ls/\Tch w.heap.size M0 w w':=by
 have c0:=h.c0;have c1:=h.c1;have BA:=Jsz (w:=w.drew) (h.row.1.kept rfl) (by omega) c;have hb:=h.hd.lt;simp only[lval]at c1
 go_enter func263,ntmps263
 go_wp2
 go_region_with (go_at_call 214;refine BA.mono ?_;rintro e w' ⟨g,c',rfl,hc,hg,Aj,ht⟩;have d0:=(ht.cell (a:=⟨b,0,none⟩) hb (λx=>x)).trans c0;have d1:=(ht.cell (a:=⟨b,1,none⟩) hb (λx=>x)).trans c1)
 all_goals go_wp2
 all_goals go_ret
 all_goals exact Jmn hc hg Aj ht.bW
theorem Jiq{r c:Nat}(h:Gf fr w b (some (r,c)) K ls)(hn:ls.length<=1000) :
  Calls prog 265 #[JL b] w λe w'=>∃g c',e=.returned (JM g ls.length c')/\w.heap.size<=g/\Row false w' g 110 .u64 ls c'/\Tch w.heap.size M0 w w':=by
 have c1:=h.c1;have BA:=Jlj h.row.1 (by omega) c;simp only[lval]at c1
 go_enter func265,ntmps265
 go_wp2_with (go_at_call 214;refine BA.mono ?_;rintro e w' ⟨g,c',rfl,hg,Aj,ht,_⟩)
 go_ret;exact⟨g,c',rfl,hg,Aj,ht⟩
def Jgn{K:Int}:∀(ys ls:JD),Ep ls->(ls.length:Int)<=K->Ep (ys.foldl (Iz K) ls)/\((ys.foldl (Iz K) ls).length:Int)<=K
 |[],_,h,hK=>⟨h,hK⟩
 |y::ys,ls,h,hK=>Jgn ys _ (ZR h hK y).1 (ZR h hK y).2
def TN(w:JE)(b:Nat)(pr:Option (Nat × Nat))(K:Int)(ls:JD)(w':JE):Prop:=
 ∃OZ,Gf false w' b OZ K ls/\(∀x,lpl OZ x->lpl pr x\/w.heap.size<=x)/\Tch w.heap.size (λx=>x=b\/lpl pr x) w w'
def TN.step{w1 w2:JE}{ls2:JD}{OZ:Option (Nat × Nat)}{e:Ending}(h2:∀x,lpl OZ x->lpl pr x\/w.heap.size<=x)(h3:Tch w.heap.size (λx=>x=b\/lpl pr x) w w1)(k:Jhn w1 b OZ K ls2 e w2):TN w b pr K ls2 w2:=by
 obtain⟨_,pr2,k1,k2,k3⟩:=k;refine⟨pr2,k1,λx hx=>?_,h3.trans (k3.mono h3.size λx hx hm=>?_)⟩
 .rcases k2 x hx with h|h
  .exact h2 x h
  .exact .inr (BN h3.size h)
 grind
def Jmo{b2 r2 c2:Nat}{K2:Int}{ys:JD}(h:Gf false w b pr K ls)(h2:Gf fr w b2 (some (r2,c2)) K2 ys)(hb:¬lpl pr b)(Dk:b2≠b/\¬lpl pr b2)(BM:r2≠b/\¬lpl pr r2)(hs:Ep ls)(hlK:(ls.length:Int)<=K)(hK:K<=1000)(hn:ys.length<=1000) :
  Calls prog 264 #[JL b,.iface 192 (JL b2)] w λe w'=>(∃v,e=.returned v)/\TN w b pr K (Gx K ls ys) w':=by
 have d0:=h2.c0;have d1:=h2.c1;have hta:=J03z (JL b2) w;have YZ:=h.hd.lt;have Jp1:=h2.hd.lt;have hr2l:=h2.row.1.lt;simp only[lval]at d1;have hys:ys.length=ys.length:=rfl;generalize KO:ys.length=n at *
 go_enter func264,ntmps264
 go_wp2
 go_loopw [12] (λi wr=>∃k:Nat,k<=n/\i=JK k/\TN w b pr K (Gx K ls (ys.take k)) wr/\Gf fr wr b2 (some (r2,c2)) K2 ys) (λi _=>n-(RowKit.intOf i).toNat)
 case atStart=>exact⟨0,by omega,rfl,⟨pr,h,λx hx=>.inl hx,.refl⟩,h2⟩
 case round=>
  obtain⟨k,hk,rfl,hd,Bo⟩:=hrel;clear d0 d1;rcases BF k n with Ac|Et
  .have g1:=Bo.row.1.cell (i:=k) (KO.symm▸Ac);have CS:(k:Int)<n:=by omega
   have et:Gx K ls (ys.take (k+1))=Iz K (Gx K ls (ys.take k)) (ys.getD k 0):=by
    unfold Gx
    grind[List.take_succ_eq_append_getElem,List.getElem?_eq_getElem]
   generalize ys.getD k 0=y at *;have yD:=Jgn (ys.take k) ls hs hlK;have Bj:Calls prog 262 #[JL b,.int .u64 y,JK 0] wr λe w2=>(∃v,e=.returned v)/\TN w b pr K (Gx K ls (ys.take (k+1))) w2/\Gf fr w2 b2 (some (r2,c2)) K2 ys:=by
    obtain⟨OZ,q1,q2,q3⟩:=hd;have hbp:¬lpl OZ b:=λhx=>by grind
    have hle:(Gx K ls (ys.take k)).length<=1000:=by have:=yD.2;unfold Gx;omega
    refine(Jim q1 hbp hle (yD.1.imp λh=>by omega) ⟨by grind,hK⟩ y 0).mono ?_;rintro e w2 hp;have hv:=hp.1;have ht:=hp.2;obtain⟨pr2,_,_,p3⟩:=ht;have out:∀x,x<w.heap.size->x≠b->¬lpl pr x->w2.heap[x]?=wr.heap[x]?:=λx hx Ri hxp=>by
     refine p3.heap x (by have:=q3.size;omega) ?_
     grind
    refine⟨hv,TN.step q2 q3 (by rw[et];exact hp),Bo.kept (out b2 Jp1 Dk.1 Dk.2) λx hx=>?_⟩;obtain⟨c,hc⟩:=hx
    grind
   clear et yD hd Bo
   go_wp2_with (go_at_call 262;refine Bj.mono ?_;rintro e w2 ⟨⟨v,rfl⟩,Nr,CO⟩)
   exact⟨⟨k+1,by omega,by go_num,Nr,CO⟩,by simp[RowKit.intOf];omega⟩
  .have EC:¬((k:Int)<n):=by omega
   obtain rfl:k=n:=by omega
   have Y6:¬((k:Int)<k):=by omega
   go_wp2;go_end0
   grind
end
structure BP where
 b:Nat
 rb:Nat
 rr:Nat
 rc:Nat
 hb:Nat
 hr:Nat
 hc:Nat
 lb:Nat
 lr:Option (Nat × Nat)
def BP.pl(p:BP):List Nat:=[p.b,p.rb,p.rr,p.hb,p.hr,p.lb]++(match p.lr with|none=>[]|some (r,_)=>[r])
def Jxq{o:Option (Nat × Nat)}{x:Nat}:x∈(match o with|none=>([]:List Nat)|some (r,_)=>[r])↔lpl o x:=by
 unfold lpl
 grind
theorem BP.mem{p:BP}{x:Nat}:x∈p.pl↔x=p.b\/x=p.rb\/x=p.rr\/x=p.hb\/x=p.hr\/x=p.lb\/lpl p.lr x:=by
 unfold BP.pl
 simp_all[Gn,Jxq,AL,BU,or_false]
structure BP.Nd(p:BP):Prop where
 n1:p.b≠p.rb/\p.b≠p.rr/\p.b≠p.hb/\p.b≠p.hr/\p.b≠p.lb/\¬lpl p.lr p.b
 n2:p.rb≠p.rr/\p.rb≠p.hb/\p.rb≠p.hr/\p.rb≠p.lb/\¬lpl p.lr p.rb
 n3:p.rr≠p.hb/\p.rr≠p.hr/\p.rr≠p.lb/\¬lpl p.lr p.rr
 n4:p.hb≠p.hr/\p.hb≠p.lb/\¬lpl p.lr p.hb
 n5:p.hr≠p.lb/\¬lpl p.lr p.hr
 n6:¬lpl p.lr p.lb
structure Jw(fr:Bool)(w:JE)(c:J7)(p:BP)(B:Bun):Prop where
 hd:Blk fr w p.b #[JK B.n,.iface 186 (JL p.rb),.iface 189 (JL p.hb),.iface 192 (JL p.lb)] 131
 reg:DV fr w p.rb p.rr p.rc c.bits B.r
 hist:EZ fr w p.hb p.hr p.hc c.ba c.nb c.cb B.h
 least:Gf fr w p.lb p.lr c.K B.l
 nd:p.Nd
section
variable{fr:Bool}{w w':JE}{c:J7}{p:BP}{B:Bun}
def Jw.kept(h:Jw fr w c p B)(hh:∀x∈p.pl,w'.heap[x]?=w.heap[x]?):Jw fr w' c p B:=
 have m {x:Nat} (h:x=p.b\/x=p.rb\/x=p.rr\/x=p.hb\/x=p.hr\/x=p.lb\/lpl p.lr x):=hh x (BP.mem.2 h)
 ⟨h.hd.kept (m (.inl rfl)),h.reg.kept (m (.inr (.inl rfl))) (m (.inr (.inr (.inl rfl)))),h.hist.kept (m (.inr (.inr (.inr (.inl rfl))))) (m (.inr (.inr (.inr (.inr (.inl rfl)))))),
  h.least.kept (m (.inr (.inr (.inr (.inr (.inr (.inl rfl))))))) λx hx=>m (.inr (.inr (.inr (.inr (.inr (.inr hx)))))),h.nd⟩
def Jw.lt(h:Jw fr w c p B):∀x∈p.pl,x<w.heap.size:=λx hx=>by
 rcases BP.mem.1 hx with rfl|rfl|rfl|rfl|rfl|rfl|hx
 .exact h.hd.lt
 .exact h.reg.hd.lt
 .exact h.reg.row.lt
 .exact h.hist.hd.lt
 .exact h.hist.row.lt
 .exact h.least.hd.lt
 .exact h.least.row.lt hx
def Jw.c0(h:Jw fr w c p B):w.cell? ⟨p.b,0,none⟩=some (JK B.n):=(h.hd.cell 0).trans rfl
def Jw.c1(h:Jw fr w c p B):w.cell? ⟨p.b,1,none⟩=some (.iface 186 (JL p.rb)):=(h.hd.cell 1).trans rfl
def Jw.c2(h:Jw fr w c p B):w.cell? ⟨p.b,2,none⟩=some (.iface 189 (JL p.hb)):=(h.hd.cell 2).trans rfl
def Jw.c3(h:Jw fr w c p B):w.cell? ⟨p.b,3,none⟩=some (.iface 192 (JL p.lb)):=(h.hd.cell 3).trans rfl
end
end Go.Sim.Z
