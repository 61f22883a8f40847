/- Proved: laws for the claim. No conditions. -/
import Derived.LoopN
import Derived.Deep.RegionHeld3
import Derived.Defers
import Derived.Recover
import Derived.Laws.Pointers
import Derived.Test.YtlcbehhbfglgaaaGreatDoorA01
set_option linter.all false
set_option maxHeartbeats 4000000
set_option maxRecDepth 100000
open Go.Proofs.Tryz
namespace Go.Sim.Z
open Go Go.Proofs Go.RowKit
abbrev Ep(l:JD):Prop:=l.Pairwise (· < ·)
def F9(x:Int):JD->JD
 |[]=>[x]
 |y::l=>if x<y then x::y::l else if x=y then y::l else y::F9 x l
def VU{x z:Int}:∀{l:JD},z∈F9 x l↔z=x\/z∈l
 |[]=>by simp[F9]
 |y::l=>by
  unfold F9;split
  .simp
  .split
   .rename_i e;subst e;simp
   .rw[AL,VU,AL];constructor
    .rintro(h|h|h)
     .exact .inr (.inl h)
     .exact .inl h
     .exact .inr (.inr h)
    .rintro(h|h|h)
     .exact .inr (.inl h)
     .exact .inl h
     .exact .inr (.inr h)
def aC{x:Int}:∀{l:JD},Ep l->Ep (F9 x l)
 |[],_=>by simp[F9]
 |y::l,h=>by
  have h1:=(KF.1 h).1;have h2:=(KF.1 h).2;unfold F9;split
  .rename_i hx;refine KF.2 ⟨λz hz=>?_,h⟩;rcases AL.1 hz with rfl|hz
   .exact hx
   .have:=h1 z hz;omega
  .split
   .exact h
   .refine KF.2 ⟨λz hz=>?_,aC h2⟩;rcases VU.1 hz with rfl|hz
    .omega
    .exact h1 z hz
def Jin{x:Int}:∀{l:JD},Ep l->x∈l->F9 x l=l
 |[],_,h=>by simp at h
 |y::l,h,hx=>by
  have h1:=(KF.1 h).1;have h2:=(KF.1 h).2;unfold F9;rcases AL.1 hx with rfl|hx
  .rw[if_neg (by omega),if_pos rfl]
  .have:=h1 x hx;rw[if_neg (by omega),if_neg (by omega),Jin h2 hx]
def Jgk{x:Int}:∀{l:JD},Ep l->x∉l->insL (l.countP (· < x)) x l=F9 x l
 |[],_,_=>by simp[insL,F9]
 |y::l,h,hx=>by
  have h1:=(KF.1 h).1;have h2:=(KF.1 h).2;rw[AL,not_or]at hx;unfold F9;by_cases hxy:x<y
  .have:(y::l).countP (· < x)=0:=by
    rw[List.countP_eq_zero];intro z hz;rcases AL.1 hz with rfl|hz
    .simp;omega
    .have:=h1 z hz;simp;omega
   rw[this,if_pos hxy];simp[insL]
  .rw[if_neg hxy,if_neg hx.1,List.countP_cons_of_pos (by simp;omega),<- Jgk h2 hx.2];simp[insL]
def nK:∀{a b:JD},Ep a->Ep b->(∀x,x∈a↔x∈b)->a=b
 |[],[],_,_,_=>rfl
 |[],y::b,_,_,h=>by have:=(h y).2 (by simp);simp at this
 |x::a,[],_,_,h=>by have:=(h x).1 (by simp);simp at this
 |x::a,y::b,ha,hb,h=>by
  have a1:=(KF.1 ha).1;have b1:=(KF.1 hb).1;have e:x=y:=by
   rcases AL.1 ((h x).1 (by simp))with e|e
   .exact e
   .rcases AL.1 ((h y).2 (by simp))with e'|e'
    .exact e'.symm
    .have:=b1 x e;have:=a1 y e';omega
  subst e;congr 1;refine nK (KF.1 ha).2 (KF.1 hb).2 λz=>?_;constructor
  .intro hz;rcases AL.1 ((h z).1 (by simp[hz]))with e|e
   .subst e;have:=a1 z hz;omega
   .exact e
  .intro hz;rcases AL.1 ((h z).2 (by simp[hz]))with e|e
   .subst e;have:=b1 z hz;omega
   .exact e
def J9d{x:Int}:∀{l:JD}{K:Nat},(F9 x (l.take K)).take K=(F9 x l).take K
 |_,0=>by simp
 |[],K+1=>by simp
 |y::l,K+1=>by
  simp only[List.take_succ_cons];unfold F9;have key:∀m:JD,(y::m.take K).take K=(y::m).take K:=by
   intro m;cases K with
   |zero=>simp
   |succ k=>simp[List.take_take,Nat.min_eq_left (Nat.le_succ k)]
  split
  .rw[List.take_succ_cons,List.take_succ_cons,key]
  .split
   .simp[List.take_take]
   .rw[List.take_succ_cons,List.take_succ_cons,J9d]
def uni(a b:JD):JD:=b.foldl (λl x=>F9 x l) a
def U7{z:Int}:∀{b a:JD},z∈uni a b↔z∈a\/z∈b
 |[],a=>by simp[uni]
 |x::b,a=>by
  show z∈uni (F9 x a) b↔_;rw[U7,VU,AL];constructor
  .rintro((h|h)|h)
   .exact .inr (.inl h)
   .exact .inl h
   .exact .inr (.inr h)
  .rintro(h|h|h)
   .exact .inl (.inr h)
   .exact .inl (.inl h)
   .exact .inr h
def Ry:∀{b a:JD},Ep a->Ep (uni a b)
 |[],_,h=>h
 |x::b,a,h=>by show Ep (uni (F9 x a) b);exact Ry (aC h)
def Yq{K:Nat}:∀{b l:JD},(uni (l.take K) b).take K=(uni l b).take K
 |[],l=>by simp[uni,List.take_take]
 |x::b,l=>by show(uni (F9 x (l.take K)) b).take K=(uni (F9 x l) b).take K;rw[<- Yq (l:=F9 x (l.take K)),<- Yq (l:=F9 x l),J9d]
def ZU{K:Int}{ls:JD}(h:Ep ls)(hK:(ls.length:Int)<=K)(x:Int):Iz K ls x=(F9 x ls).take K.toNat:=by
 unfold Iz;split
 .rename_i hx;rw[Jin h hx,List.take_of_length_le (by omega)]
 .rename_i hx;rw[Jgk h hx]
def Jgl{l:JD}(h:Ep l)(k:Nat):Ep (l.take k):=h.sublist (List.take_sublist _ _)
def ZR{K:Int}{ls:JD}(h:Ep ls)(hK:(ls.length:Int)<=K)(x:Int):Ep (Iz K ls x)/\((Iz K ls x).length:Int)<=K:=by rw[ZU h hK];exact⟨Jgl (aC h) _,by rw[List.length_take];omega⟩
def Gx(K:Int)(a b:JD):JD:=b.foldl (Iz K) a
def Pn{K:Int}:∀{b a:JD},Ep a->(a.length:Int)<=K->Gx K a b=(uni a b).take K.toNat
 |[],a,_,hK=>by
  show a=a.take _;rw[List.take_of_length_le (by omega)]
 |x::b,a,h,hK=>by show Gx K (Iz K a x) b=(uni (F9 x a) b).take _;have:=ZR h hK x;rw[Pn this.1 this.2,ZU h hK,Yq]
def ZV{K:Int}{a b:JD}(h:Ep a)(hK:(a.length:Int)<=K):Ep (Gx K a b)/\((Gx K a b).length:Int)<=K:=by rw[Pn h hK];exact⟨Jgl (Ry h) _,by rw[List.length_take];omega⟩
def J7i{K:Int}{a b:JD}(ha:Ep a)(hb:Ep b)(ka:(a.length:Int)<=K)(kb:(b.length:Int)<=K):Gx K a b=Gx K b a:=by rw[Pn ha ka,Pn hb kb];congr 1;exact nK (Ry ha) (Ry hb) λx=>by rw[U7,U7,or_comm]
def Jio{K:Int}{a b c:JD}(ha:Ep a)(hb:Ep b)(hc:Ep c)(ka:(a.length:Int)<=K)(kb:(b.length:Int)<=K)(_kc:(c.length:Int)<=K):Gx K (Gx K a b) c=Gx K a (Gx K b c):=by
 have h1:=ZV (b:=b) ha ka;have h2:=ZV (b:=c) hb kb;rw[J7i ha h2.1 ka h2.2,Pn h1.1 h1.2,Pn h2.1 h2.2,Pn ha ka,Pn hb kb,Yq,Yq];congr 1;refine nK (Ry (Ry ha)) (Ry (Ry hb)) λx=>?_;simp only[U7];constructor
 .rintro((h|h)|h)
  .exact .inr h
  .exact .inl (.inl h)
  .exact .inl (.inr h)
 .rintro((h|h)|h)
  .exact .inl (.inr h)
  .exact .inr h
  .exact .inl (.inl h)
def Jmj{K:Int}{a b:JD}(ha:Ep a)(ka:(a.length:Int)<=K){x:Int}(h:x∈Gx K a b):x∈a\/x∈b:=by rw[Pn ha ka]at h;exact U7.1 (List.mem_of_mem_take h)
def Jpm(a b:JD):maxL a b=maxL b a:=by
 unfold maxL
 induction a generalizing b with
 |nil=>cases b<;>rfl
 |cons x a ih=>cases b with
  |nil=>rfl
  |cons y b=>simp only[List.zipWith_cons_cons,ih,Int.max_comm]
def Jmk(a b c:JD):maxL (maxL a b) c=maxL a (maxL b c):=by
 unfold maxL
 induction a generalizing b c with
 |nil=>cases b<;>rfl
 |cons x a ih=>cases b with
  |nil=>cases c<;>rfl
  |cons y b=>cases c with
   |nil=>rfl
   |cons z c=>simp only[List.zipWith_cons_cons,ih,Int.max_assoc]
def J98(x y:Int):wrap64 (x+y)=wrap64 (y+x):=by rw[Int.add_comm]
def J7u(x y z:Int):wrap64 (wrap64 (x+y)+z)=wrap64 (x+wrap64 (y+z)):=by unfold wrap64;omega
def Jpn(a b:JD):Eo a b=Eo b a:=by
 unfold Eo
 induction a generalizing b with
 |nil=>cases b<;>rfl
 |cons x a ih=>cases b with
  |nil=>rfl
  |cons y b=>simp only[List.zipWith_cons_cons,ih,J98 x y]
def Jml(a b c:JD):Eo (Eo a b) c=Eo a (Eo b c):=by
 unfold Eo
 induction a generalizing b c with
 |nil=>cases b<;>rfl
 |cons x a ih=>cases b with
  |nil=>cases c<;>rfl
  |cons y b=>cases c with
   |nil=>rfl
   |cons z c=>simp only[List.zipWith_cons_cons,ih,J7u x y z]
structure Bun where
 n:Int
 r:JD
 h:JD
 l:JD
structure J7 where
 bits:Int
 K:Int
 ba:JI
 nb:Nat
 cb:Nat
structure CZ(c:J7):Prop where
 b1:4<=c.bits
 b2:c.bits<=6
 k1:1<=c.K
 k2:c.K<=8
 nb:c.nb<=8
def I64(x:Int):Prop:=-9223372036854775808<=x/\x<=9223372036854775807
structure Jl(c:J7)(B:Bun):Prop where
 r:B.r.length=2 ^ c.bits.toNat
 r8:∀x∈B.r,0<=x/\x<=255
 h:B.h.length=c.nb+1
 h64:∀x∈B.h,I64 x
 l:Ep B.l
 lK:(B.l.length:Int)<=c.K
 l64:∀x∈B.l,0<=x/\x<=18446744073709551615
 n64:I64 B.n
 lne:B.l≠[]
def mg(c:J7)(a b:Bun):Bun:=⟨wrap64 (a.n+b.n),maxL a.r b.r,Eo a.h b.h,Gx c.K a.l b.l⟩
def mV{f:Int->Int->Int}{z:Int}:∀{a b:JD},z∈a.zipWith f b->∃x∈a,∃y∈b,z=f x y
 |[],_,h=>by simp at h
 |_::_,[],h=>by simp at h
 |x::a,y::b,h=>by
  rw[List.zipWith_cons_cons,AL]at h;rcases h with rfl|h
  .exact⟨x,by simp,y,by simp,rfl⟩
  .obtain⟨p,hp,q,hq,e⟩:=mV h;exact⟨p,by simp[hp],q,by simp[hq],e⟩
def mZ(x:Int):I64 (wrap64 x):=by unfold I64 wrap64;omega
section
variable{c:J7}{a b d:Bun}
def Jl.mg(ha:Jl c a)(hb:Jl c b):Jl c (mg c a b):=by
 refine⟨?_,λx hx=>?_,?_,λx hx=>?_,(ZV ha.l ha.lK).1,(ZV ha.l ha.lK).2,λx hx=>?_,mZ _,?_⟩
 .show(maxL a.r b.r).length=_;rw[Jbx (by rw[ha.r,hb.r]),ha.r]
 .obtain⟨p,hp,q,hq,rfl⟩:=mV hx;have:=ha.r8 p hp;have:=hb.r8 q hq;omega
 .show(Eo a.h b.h).length=_;rw[Jby (by rw[ha.h,hb.h]),ha.h]
 .obtain⟨p,hp,q,hq,rfl⟩:=mV hx;exact mZ _
 .rcases Jmj ha.l ha.lK hx with h|h
  .exact ha.l64 x h
  .exact hb.l64 x h
 .show Gx c.K a.l b.l≠[];rw[Pn ha.l ha.lK];have h1:=ha.lne;have h2:=ha.lK;obtain⟨x,hx⟩:=List.exists_mem_of_ne_nil _ h1;have h3:x∈uni a.l b.l:=U7.2 (.inl hx);have h4:0<a.l.length:=List.length_pos_iff.2 h1;have h5:0<(uni a.l b.l).length:=List.length_pos_iff.2 (List.ne_nil_of_mem h3);intro e;have:=congrArg List.length e;simp only[List.length_take,List.length_nil]at this;omega
def Jlm(ha:Jl c a)(hb:Jl c b):mg c a b=mg c b a:=by unfold mg;rw[J98,Jpm,Jpn,J7i ha.l hb.l ha.lK hb.lK]
def Jci(ha:Jl c a)(hb:Jl c b)(hd:Jl c d):mg c (mg c a b) d=mg c a (mg c b d):=by unfold mg;simp only;rw[J7u,Jmk,Jml,Jio ha.l hb.l hd.l ha.lK hb.lK hd.lK]
def om(c:J7)(z:Option Bun)(b:Bun):Option Bun:=match z with|none=>some b|some a=>some (mg c a b)
def bZ(c:J7)(x y:Option Bun):Option Bun:=match y with|none=>x|some b=>om c x b
def Gh(c:J7)(l:List Bun):Option Bun:=l.foldl (om c) none
def OOk(c:J7)(z:Option Bun):Prop:=∀b,z=some b->Jl c b
def OOk.om{z:Option Bun}(hz:OOk c z)(hb:Jl c b):OOk c (om c z b):=by
 intro x hx;cases z with
 |none=>cases hx;exact hb
 |some a=>cases hx;exact(hz a rfl).mg hb
def Jxn{z:Option Bun}(hz:OOk c z)(ha:Jl c a)(hb:Jl c b):om c (om c z a) b=om c (om c z b) a:=by
 cases z with
 |none=>exact congrArg some (Jlm ha hb)
 |some x=>
  have hx:=hz x rfl;show some _=some _;rw[Jci hx ha hb,Jci hx hb ha,Jlm ha hb]
def Jmm{l1 l2:List Bun}(hp:l1.Perm l2):(∀b∈l1,Jl c b)->∀z,OOk c z->l1.foldl (om c) z=l2.foldl (om c) z:=by
 induction hp with
 |nil=>exactλ_ _ _=>rfl
 |cons x _ ih=>exactλh z hz=>ih (λb hb=>h b (by simp[hb])) _ (hz.om (h x (by simp)))
 |swap x y l=>
  intro h z hz;simp only[List.foldl_cons];rw[Jxn hz (h y (by simp)) (h x (by simp))]
 |trans h1 _ ih1 ih2=>exactλh z hz=>(ih1 h z hz).trans (ih2 (λb hb=>h b (h1.mem_iff.2 hb)) z hz)
def Jgm{l1 l2:List Bun}(hp:l1.Perm l2)(h:∀b∈l1,Jl c b):Gh c l1=Gh c l2:=Jmm hp h none (λ_ h=>by cases h)
def Jsy{l:List Bun}(h:∀b∈l,Jl c b):∀z,OOk c z->OOk c (l.foldl (om c) z):=by
 induction l with
 |nil=>exactλz hz=>hz
 |cons x l ih=>exactλz hz=>ih (λb hb=>h b (by simp[hb])) _ (hz.om (h x (by simp)))
def Jxo{l:List Bun}(h:∀b∈l,Jl c b):OOk c (Gh c l):=Jsy h none (λ_ h=>by cases h)
def Jxp{x y:Option Bun}(hx:OOk c x)(hy:OOk c y)(hb:Jl c b):om c (bZ c x y) b=bZ c x (om c y b):=by
 cases y with
 |none=>rfl
 |some p=>
  have hp:=hy p rfl;cases x with
  |none=>rfl
  |some q=>
   show some _=some _;rw[Jci (hx q rfl) hp hb]
def Jpo{l:List Bun}(h:∀b∈l,Jl c b):∀x y,OOk c x->OOk c y->l.foldl (om c) (bZ c x y)=bZ c x (l.foldl (om c) y):=by
 induction l with
 |nil=>exactλ_ _ _ _=>rfl
 |cons b l ih=>
  intro x y hx hy;simp only[List.foldl_cons];have hb:=h b (by simp);rw[Jxp hx hy hb,ih (λd hd=>h d (by simp[hd])) x _ hx (hy.om hb)]
def Yk{l1 l2:List Bun}(h1:∀b∈l1,Jl c b)(h2:∀b∈l2,Jl c b):Gh c (l1++l2)=bZ c (Gh c l1) (Gh c l2):=by unfold Gh;rw[List.foldl_append];exact Jpo h2 _ none (Jxo h1) (λ_ h=>by cases h)
end
end Go.Sim.Z
namespace Go.Sim.Z
open Go Go.Proofs Go.RowKit Go.Shelf
section
variable{fr:Bool}{w w':JE}{b:Nat}{pr:Option (Nat × Nat)}{K:Int}{ls:JD}
def Jmn{g c':Nat}(hc:c'<=maxLen)(hg:w.heap.size<=g)(Aj:Row false w' g 110 .u64 ls c')(ht:Tch w.heap.size M0 w w') :
  ∃b' r' c2,Ending.returned (Value.iface 192 (.pointer (some ⟨w'.heap.size,0,none⟩)))=.returned (.iface 192 (.pointer (some ⟨b',0,none⟩)))/\w.heap.size<=b'/\w.heap.size<=r'/\b'≠r'/\Gf false (w'.alloc (.cells #[.int .i64 K,.slice (some ⟨g,0,none⟩) ls.length c'] 194)) b' (some (r',c2)) K ls/\Tch w.heap.size M0 w (w'.alloc (.cells #[.int .i64 K,.slice (some ⟨g,0,none⟩) ls.length c'] 194)):=
 ⟨_,g,c',rfl,ht.size,hg,by have:=Aj.lt;omega,⟨⟨(0,0),Ja _,λ_=>rfl⟩,Aj.kept (J8 _ Aj.lt),hc⟩,ht.alloc ht.size _⟩
def Jsz{r cap:Nat}{xs:JD}(h:Row fr w r 110 .u64 xs cap)(hn:xs.length<=100000)(c:Nat):Calls prog 214 #[.slice (some ⟨r,0,none⟩) xs.length c] w λe w'=>∃g c',e=.returned (.slice (some ⟨g,0,none⟩) xs.length c')/\c'<=maxLen/\w.heap.size<=g/\Row false w' g 110 .u64 xs c'/\Tch w.heap.size M0 w w':=by refine(Jlj h hn c).mono ?_;rintro e w' ⟨g,c',h1,h2,h3,h4,h5⟩;exact⟨g,c',h1,h5,h2,h3,h4⟩
def Jpp{r c:Nat}(h:Gf fr w b (some (r,c)) K ls)(hn:ls.length<=1000) :
  Calls prog 263 #[.pointer (some ⟨b,0,none⟩)] w λe w'=>∃b' r' c',e=.returned (.iface 192 (.pointer (some ⟨b',0,none⟩)))/\w.heap.size<=b'/\w.heap.size<=r'/\b'≠r'/\Gf false w' b' (some (r',c')) K ls/\Tch w.heap.size M0 w w':=by
 have c0:=h.c0;have c1:=h.c1;have BA:=Jsz (w:=w.drew) (h.row.1.kept rfl) (by omega) c;have hb:=h.hd.lt;simp only[lval]at c1
 go_enter func263,ntmps263
 go_wp2
 go_region_with (go_at_call 214;refine BA.mono ?_;rintro e w' ⟨g,c',rfl,hc,hg,Aj,ht⟩;have d0:=(ht.cell (a:=⟨b,0,none⟩) hb (λx=>x)).trans c0;have d1:=(ht.cell (a:=⟨b,1,none⟩) hb (λx=>x)).trans c1)
 all_goals go_wp2
 all_goals go_ret
 all_goals exact Jmn hc hg Aj ht.I4
def Jiq{r c:Nat}(h:Gf fr w b (some (r,c)) K ls)(hn:ls.length<=1000) :
  Calls prog 265 #[.pointer (some ⟨b,0,none⟩)] w λe w'=>∃g c',e=.returned (.slice (some ⟨g,0,none⟩) ls.length c')/\w.heap.size<=g/\Row false w' g 110 .u64 ls c'/\Tch w.heap.size M0 w w':=by
 have c1:=h.c1;have BA:=Jlj h.row.1 (by omega) c;simp only[lval]at c1
 go_enter func265,ntmps265
 go_wp2_with (go_at_call 214;refine BA.mono ?_;rintro e w' ⟨g,c',rfl,hg,Aj,ht,_⟩)
 go_ret;exact⟨g,c',rfl,hg,Aj,ht⟩
def Jgn{K:Int}:∀(ys ls:JD),Ep ls->(ls.length:Int)<=K->Ep (ys.foldl (Iz K) ls)/\((ys.foldl (Iz K) ls).length:Int)<=K
 |[],_,h,hK=>⟨h,hK⟩
 |y::ys,ls,h,hK=>Jgn ys _ (ZR h hK y).1 (ZR h hK y).2
def TN(w:JE)(b:Nat)(pr:Option (Nat × Nat))(K:Int)(ls:JD)(w':JE):Prop:=
 ∃OZ,Gf false w' b OZ K ls/\(∀x,lpl OZ x->lpl pr x\/w.heap.size<=x)/\Tch w.heap.size (λx=>x=b\/lpl pr x) w w'
def TN.step{w1 w2:JE}{ls2:JD}{OZ:Option (Nat × Nat)}{e:Ending}(h2:∀x,lpl OZ x->lpl pr x\/w.heap.size<=x)(h3:Tch w.heap.size (λx=>x=b\/lpl pr x) w w1)(k:rX w1 b OZ K ls2 e w2):TN w b pr K ls2 w2:=by
 obtain⟨_,pr2,k1,k2,k3⟩:=k;refine⟨pr2,k1,λx hx=>?_,h3.trans (k3.mono h3.size λx hx hm=>?_)⟩
 .rcases k2 x hx with h|h
  .exact h2 x h
  .exact .inr (BN h3.size h)
 .rcases hm with rfl|hm
  .exact .inl rfl
  .rcases h2 x hm with h|h
   .exact .inr h
   .omega
def Jmo{b2 r2 c2:Nat}{K2:Int}{ys:JD}(h:Gf false w b pr K ls)(h2:Gf fr w b2 (some (r2,c2)) K2 ys)(hb:¬lpl pr b)(Dk:b2≠b/\¬lpl pr b2)(BM:r2≠b/\¬lpl pr r2)(hs:Ep ls)(hlK:(ls.length:Int)<=K)(hK:K<=1000)(hn:ys.length<=1000) :
  Calls prog 264 #[.pointer (some ⟨b,0,none⟩),.iface 192 (.pointer (some ⟨b2,0,none⟩))] w λe w'=>(∃v,e=.returned v)/\TN w b pr K (Gx K ls ys) w':=by
 have d0:=h2.c0;have d1:=h2.c1;have hta:=J03z (.pointer (some ⟨b2,0,none⟩)) w;have YZ:=h.hd.lt;have hb2l:=h2.hd.lt;have hr2l:=h2.row.1.lt;simp only[lval]at d1;have hys:ys.length=ys.length:=rfl;generalize KO:ys.length=n at *
 go_enter func264,ntmps264
 go_wp2
 go_loopw [12] (λi wr=>∃k:Nat,k<=n/\i=.int .i64 k/\TN w b pr K (Gx K ls (ys.take k)) wr/\Gf fr wr b2 (some (r2,c2)) K2 ys) (λi _=>n-(RowKit.intOf i).toNat)
 case atStart=>exact⟨0,by omega,rfl,⟨pr,h,λx hx=>.inl hx,.refl⟩,h2⟩
 case round=>
  obtain⟨k,hk,rfl,hd,Bo⟩:=hrel;clear d0 d1;rcases BF k n with Ac|Et
  .have g1:=Bo.row.1.cell (i:=k) (KO.symm▸Ac);have CS:(k:Int)<n:=by omega
   have et:Gx K ls (ys.take (k+1))=Iz K (Gx K ls (ys.take k)) (ys.getD k 0):=by unfold Gx;rw[List.take_succ_eq_append_getElem (by omega),List.foldl_append,C9,DL (by omega)];rfl
   generalize ys.getD k 0=y at *;have yD:=Jgn (ys.take k) ls hs hlK;have Bj:Calls prog 262 #[.pointer (some ⟨b,0,none⟩),.int .u64 y,.int .i64 0] wr λe w2=>(∃v,e=.returned v)/\TN w b pr K (Gx K ls (ys.take (k+1))) w2/\Gf fr w2 b2 (some (r2,c2)) K2 ys:=by
    obtain⟨OZ,q1,q2,q3⟩:=hd;have hbp:¬lpl OZ b:=λhx=>by rcases q2 b hx with h|h;exact hb h;omega
    have hle:(Gx K ls (ys.take k)).length<=1000:=by have:=yD.2;unfold Gx;omega
    refine(Jim q1 hbp hle (yD.1.imp λh=>by omega) ⟨by have:=yD.2;omega,hK⟩ y 0).mono ?_;rintro e w2 hp;have hv:=hp.1;have ht:=hp.2;obtain⟨pr2,_,_,p3⟩:=ht;have out:∀x,x<w.heap.size->x≠b->¬lpl pr x->w2.heap[x]?=wr.heap[x]?:=λx hx Ri hxp=>by
     refine p3.heap x (by have:=q3.size;omega) ?_;rintro(h|h)
     .exact Ri h
     .rcases q2 x h with h|h
      .exact hxp h
      .omega
    refine⟨hv,TN.step q2 q3 (by rw[et];exact hp),Bo.kept (out b2 hb2l Dk.1 Dk.2) λx hx=>?_⟩;obtain⟨c,hc⟩:=hx;cases hc;exact out _ hr2l BM.1 BM.2
   clear et yD hd Bo
   go_wp2_with (go_at_call 262;refine Bj.mono ?_;rintro e w2 ⟨⟨v,rfl⟩,Nr,CO⟩)
   exact⟨⟨k+1,by omega,by go_num,Nr,CO⟩,by simp[RowKit.intOf];omega⟩
  .have Ei:¬((k:Int)<n):=by omega
   obtain rfl:k=n:=by omega
   have KP:¬((k:Int)<k):=by omega
   go_wp2;go_end0;rw[List.take_of_length_le (by omega)]at hd;exact⟨⟨_,rfl⟩,hd⟩
end
end Go.Sim.Z
namespace Go.Sim.Z
open Go Go.Proofs Go.RowKit
structure BP where
 b:Nat
 rb:Nat
 rr:Nat
 rc:Nat
 hb:Nat
 hr:Nat
 hc:Nat
 lb:Nat
 lr:Option (Nat × Nat)
def BP.pl(p:BP):List Nat:=[p.b,p.rb,p.rr,p.hb,p.hr,p.lb]++(match p.lr with|none=>[]|some (r,_)=>[r])
def Jxq{o:Option (Nat × Nat)}{x:Nat}:x∈(match o with|none=>([]:List Nat)|some (r,_)=>[r])↔lpl o x:=by
 unfold lpl;cases o with
 |none=>simp
 |some q=>obtain⟨r,c⟩:=q;simp[eq_comm]
def BP.mem{p:BP}{x:Nat}:x∈p.pl↔x=p.b\/x=p.rb\/x=p.rr\/x=p.hb\/x=p.hr\/x=p.lb\/lpl p.lr x:=by
 unfold BP.pl;rw[Gn,Jxq];simp only[AL,BU,or_false];constructor
 .rintro((h|h|h|h|h|h)|h)<;>simp[h]
 .rintro(h|h|h|h|h|h|h)<;>simp[h]
structure BP.Nd(p:BP):Prop where
 n1:p.b≠p.rb/\p.b≠p.rr/\p.b≠p.hb/\p.b≠p.hr/\p.b≠p.lb/\¬lpl p.lr p.b
 n2:p.rb≠p.rr/\p.rb≠p.hb/\p.rb≠p.hr/\p.rb≠p.lb/\¬lpl p.lr p.rb
 n3:p.rr≠p.hb/\p.rr≠p.hr/\p.rr≠p.lb/\¬lpl p.lr p.rr
 n4:p.hb≠p.hr/\p.hb≠p.lb/\¬lpl p.lr p.hb
 n5:p.hr≠p.lb/\¬lpl p.lr p.hr
 n6:¬lpl p.lr p.lb
structure Jw(fr:Bool)(w:JE)(c:J7)(p:BP)(B:Bun):Prop where
 hd:Blk fr w p.b #[.int .i64 B.n,.iface 186 (.pointer (some ⟨p.rb,0,none⟩)),.iface 189 (.pointer (some ⟨p.hb,0,none⟩)),.iface 192 (.pointer (some ⟨p.lb,0,none⟩))] 131
 reg:DV fr w p.rb p.rr p.rc c.bits B.r
 hist:EZ fr w p.hb p.hr p.hc c.ba c.nb c.cb B.h
 least:Gf fr w p.lb p.lr c.K B.l
 nd:p.Nd
section
variable{fr:Bool}{w w':JE}{c:J7}{p:BP}{B:Bun}
def Jw.kept(h:Jw fr w c p B)(hh:∀x∈p.pl,w'.heap[x]?=w.heap[x]?):Jw fr w' c p B:=
 have m {x:Nat} (h:x=p.b\/x=p.rb\/x=p.rr\/x=p.hb\/x=p.hr\/x=p.lb\/lpl p.lr x):=hh x (BP.mem.2 h)
 ⟨h.hd.kept (m (.inl rfl)),h.reg.kept (m (.inr (.inl rfl))) (m (.inr (.inr (.inl rfl)))),h.hist.kept (m (.inr (.inr (.inr (.inl rfl))))) (m (.inr (.inr (.inr (.inr (.inl rfl)))))),
  h.least.kept (m (.inr (.inr (.inr (.inr (.inr (.inl rfl))))))) λx hx=>m (.inr (.inr (.inr (.inr (.inr (.inr hx)))))),h.nd⟩
def Jw.lt(h:Jw fr w c p B):∀x∈p.pl,x<w.heap.size:=λx hx=>by
 rcases BP.mem.1 hx with rfl|rfl|rfl|rfl|rfl|rfl|hx
 .exact h.hd.lt
 .exact h.reg.hd.lt
 .exact h.reg.row.lt
 .exact h.hist.hd.lt
 .exact h.hist.row.lt
 .exact h.least.hd.lt
 .exact h.least.row.lt hx
def Jw.c0(h:Jw fr w c p B):w.cell? ⟨p.b,0,none⟩=some (.int .i64 B.n):=(h.hd.cell 0).trans rfl
def Jw.c1(h:Jw fr w c p B):w.cell? ⟨p.b,1,none⟩=some (.iface 186 (.pointer (some ⟨p.rb,0,none⟩))):=(h.hd.cell 1).trans rfl
def Jw.c2(h:Jw fr w c p B):w.cell? ⟨p.b,2,none⟩=some (.iface 189 (.pointer (some ⟨p.hb,0,none⟩))):=(h.hd.cell 2).trans rfl
def Jw.c3(h:Jw fr w c p B):w.cell? ⟨p.b,3,none⟩=some (.iface 192 (.pointer (some ⟨p.lb,0,none⟩))):=(h.hd.cell 3).trans rfl
end
structure TQ(w:JE)(g:Nat)(arr:JC)(wr:JE):Prop where
 blk:Blk false wr g arr 131
 tch:Tch w.heap.size M0 w wr
 le:w.heap.size<=g
def TQ.set{w wr w2:JE}{g:Nat}{arr:JC}(h:TQ w g arr wr)(k:Tch wr.heap.size M0 wr w2)(i:Nat)(x:JJ):TQ w g (arr.setIfInBounds i x) (w2.setCell ⟨g,i,none⟩ x):=
 ⟨(h.blk.kept (k.heap g h.blk.lt λx=>x)).set i x,(h.tch.then k h.tch.size λ_ _ h=>h).set (.inl h.le) x,h.le⟩
def TQ.same{w wr w2:JE}{g:Nat}{arr:JC}(_h:TQ w g arr wr)(k:Tch wr.heap.size M0 wr w2)(i:Nat)(x:JJ){y:Nat}(hy:y<wr.heap.size)(Ap:y≠g):(w2.setCell ⟨g,i,none⟩ x).heap[y]?=wr.heap[y]?:=
 (Jm _ _ Ap).trans (k.heap y hy λx=>x)
def Jxr (b:Nat) (w:JE):(method 471 186 (.pointer (some ⟨b,0,none⟩)) "Add").run prog w=.ok (248,.pointer (some ⟨b,0,none⟩)) w:=by kernel_rfl
def Jt0 (b:Nat) (w:JE):(method 471 186 (.pointer (some ⟨b,0,none⟩)) "Copy").run prog w=.ok (249,.pointer (some ⟨b,0,none⟩)) w:=by kernel_rfl
def Jpq (b:Nat) (w:JE):(method 471 186 (.pointer (some ⟨b,0,none⟩)) "Merge").run prog w=.ok (250,.pointer (some ⟨b,0,none⟩)) w:=by kernel_rfl
def Jkv (b:Nat) (w:JE):(method 471 186 (.pointer (some ⟨b,0,none⟩)) "Numbers").run prog w=.ok (251,.pointer (some ⟨b,0,none⟩)) w:=by kernel_rfl
def Jxs (b:Nat) (w:JE):(method 471 189 (.pointer (some ⟨b,0,none⟩)) "Add").run prog w=.ok (255,.pointer (some ⟨b,0,none⟩)) w:=by kernel_rfl
def Jt1 (b:Nat) (w:JE):(method 471 189 (.pointer (some ⟨b,0,none⟩)) "Copy").run prog w=.ok (256,.pointer (some ⟨b,0,none⟩)) w:=by kernel_rfl
def Jpr (b:Nat) (w:JE):(method 471 189 (.pointer (some ⟨b,0,none⟩)) "Merge").run prog w=.ok (257,.pointer (some ⟨b,0,none⟩)) w:=by kernel_rfl
def Jkw (b:Nat) (w:JE):(method 471 189 (.pointer (some ⟨b,0,none⟩)) "Numbers").run prog w=.ok (258,.pointer (some ⟨b,0,none⟩)) w:=by kernel_rfl
def Jxt (b:Nat) (w:JE):(method 471 192 (.pointer (some ⟨b,0,none⟩)) "Add").run prog w=.ok (262,.pointer (some ⟨b,0,none⟩)) w:=by kernel_rfl
def Jt2 (b:Nat) (w:JE):(method 471 192 (.pointer (some ⟨b,0,none⟩)) "Copy").run prog w=.ok (263,.pointer (some ⟨b,0,none⟩)) w:=by kernel_rfl
def Jps (b:Nat) (w:JE):(method 471 192 (.pointer (some ⟨b,0,none⟩)) "Merge").run prog w=.ok (264,.pointer (some ⟨b,0,none⟩)) w:=by kernel_rfl
def Jkx (b:Nat) (w:JE):(method 471 192 (.pointer (some ⟨b,0,none⟩)) "Numbers").run prog w=.ok (265,.pointer (some ⟨b,0,none⟩)) w:=by kernel_rfl
def ix0(a b c:JJ)(w:JE):(Instr.index 129 (.agg #[a,b,c]) (.int .i64 0)).run prog w=.ok a w:=by simp[Instr.index,go_sem,underlying129]
def ix1(a b c:JJ)(w:JE):(Instr.index 129 (.agg #[a,b,c]) (.int .i64 1)).run prog w=.ok b w:=by simp[Instr.index,go_sem,underlying129]
def ix2(a b c:JJ)(w:JE):(Instr.index 129 (.agg #[a,b,c]) (.int .i64 2)).run prog w=.ok c w:=by simp[Instr.index,go_sem,underlying129]
section
variable{fr:Bool}{w w':JE}{c:J7}{p:BP}{B:Bun}
def Jxu(h:Jw fr w c p B)(hok:Jl c B)(hc:CZ c) :
  Calls prog 131 #[.pointer (some ⟨p.b,0,none⟩)] w λe w'=>∃q:BP,e=.returned (.pointer (some ⟨q.b,0,none⟩))/\Jw false w' c q B/\(∀x∈q.pl,w.heap.size<=x)/\Tch w.heap.size M0 w w':=by
 have hlen:(2:Nat) ^ c.bits.toNat<=1000:=by
  have h1:=hc.b1;have h2:=hc.b2;have:c.bits=4\/c.bits=5\/c.bits=6:=by omega
  rcases this with e|e|e<;>rw[e]<;>decide
 have c0:=h.c0;have c1:=h.c1;have c2:=h.c2;have c3:=h.c3;have hb:=h.hd.lt;have x0:=ix0 (.iface 186 (.pointer (some ⟨p.rb,0,none⟩))) (.iface 189 (.pointer (some ⟨p.hb,0,none⟩))) (.iface 192 (.pointer (some ⟨p.lb,0,none⟩)));have x1:=ix1 (.iface 186 (.pointer (some ⟨p.rb,0,none⟩))) (.iface 189 (.pointer (some ⟨p.hb,0,none⟩))) (.iface 192 (.pointer (some ⟨p.lb,0,none⟩)));have x2:=ix2 (.iface 186 (.pointer (some ⟨p.rb,0,none⟩))) (.iface 189 (.pointer (some ⟨p.hb,0,none⟩))) (.iface 192 (.pointer (some ⟨p.lb,0,none⟩)));have y0:=Jt0 p.rb;have y1:=Jt1 p.hb;have y2:=Jt2 p.lb;have Xt:TQ w w.heap.size #[.int .i64 B.n,.nilIface,.nilIface,.nilIface] (w.alloc (.cells #[.int .i64 B.n,.nilIface,.nilIface,.nilIface] 131)):=⟨⟨_,Ja _,λ_=>rfl⟩,Tch.refl.alloc (Ad _) _,Ad _⟩;have uD:Jw fr (w.alloc (.cells #[.int .i64 B.n,.nilIface,.nilIface,.nilIface] 131)) c p B:=h.kept λx hx=>J8 _ (h.lt x hx);have Ac:∀x∈p.pl,x<w.heap.size:=h.lt;obtain⟨rr,cc,xU⟩:∃rr cc,p.lr=some (rr,cc):=by
  have:=h.least.row;cases hp:p.lr with
  |none=>rw[hp]at this;exact absurd this hok.lne
  |some q=>exact⟨q.1,q.2,rfl⟩
 go_enter func131,ntmps131
 go_wp2;refine wp_loop_rounds 4 ?_;rw[rounds_succ];go_wp2
 go_region_with (go_at_call 249;refine(Jxl (w:=(w.alloc (.cells #[.int .i64 B.n,.nilIface,.nilIface,.nilIface] 131)).drew) (uD.reg.kept rfl rfl) (by rw[hok.r];have:=hc.b2;have:=hc.b1;exact hlen)).mono ?_;rintro e w1 ⟨b1,r1,k1,rfl,FD,KR,X9,Jwi,Az⟩;have f1:=(Xt.blk.kept (Az.heap w.heap.size Xt.blk.lt λx=>x)).cell 1;have f2:=(Xt.blk.kept (Az.heap w.heap.size Xt.blk.lt λx=>x)).frozen 1)
 have FX:TQ w w.heap.size #[.int .i64 B.n,.iface 186 (.pointer (some ⟨b1,0,none⟩)),.nilIface,.nilIface] (w1.setCell ⟨w.heap.size,1,none⟩ (.iface 186 (.pointer (some ⟨b1,0,none⟩)))):=Xt.set Az.I4 1 _;have rY:Jw fr (w1.setCell ⟨w.heap.size,1,none⟩ (.iface 186 (.pointer (some ⟨b1,0,none⟩)))) c p B:=uD.kept λx hx=>Xt.same Az.I4 1 _ (uD.lt x hx) (by have:=Ac x hx;omega);have z0:(w.alloc (.cells #[.int .i64 B.n,.nilIface,.nilIface,.nilIface] 131)).drew.heap.size=w.heap.size+1:=size_alloc _;have oL:DV false (w1.setCell ⟨w.heap.size,1,none⟩ (.iface 186 (.pointer (some ⟨b1,0,none⟩)))) b1 r1 k1 c.bits B.r:=Jwi.kept (Jm _ _ (by show b1≠w.heap.size;omega)) (Jm _ _ (by show r1≠w.heap.size;omega));clear f1 f2 Xt Jwi Az uD;generalize w1.setCell ⟨w.heap.size,1,none⟩ (.iface 186 (.pointer (some ⟨b1,0,none⟩)))=W1 at *;have l1:=oL.hd.lt;have l1':=oL.row.lt;go_wp2;rw[rounds_succ];go_wp2
 go_region_with (go_at_call 256;refine(Jss (w:=W1.drew) (rY.hist.kept rfl rfl) (by rw[hok.h];have:=hc.nb;omega)).mono ?_;rintro e w2 ⟨b2,r2,k2,rfl,Dk,BM,Ij,Jwj,Bc⟩;have f1:=(FX.blk.kept (Bc.heap w.heap.size FX.blk.lt λx=>x)).cell 2;have f2:=(FX.blk.kept (Bc.heap w.heap.size FX.blk.lt λx=>x)).frozen 2)
 have FY:TQ w w.heap.size #[.int .i64 B.n,.iface 186 (.pointer (some ⟨b1,0,none⟩)),.iface 189 (.pointer (some ⟨b2,0,none⟩)),.nilIface] (w2.setCell ⟨w.heap.size,2,none⟩ (.iface 189 (.pointer (some ⟨b2,0,none⟩)))):=FX.set Bc.I4 2 _;have Jwk:Jw fr (w2.setCell ⟨w.heap.size,2,none⟩ (.iface 189 (.pointer (some ⟨b2,0,none⟩)))) c p B:=rY.kept λx hx=>FX.same Bc.I4 2 _ (rY.lt x hx) (by have:=Ac x hx;omega);have z1:W1.drew.heap.size=W1.heap.size:=rfl;have rZ:DV false (w2.setCell ⟨w.heap.size,2,none⟩ (.iface 189 (.pointer (some ⟨b2,0,none⟩)))) b1 r1 k1 c.bits B.r:=oL.kept (FX.same Bc.I4 2 _ l1 (by omega)) (FX.same Bc.I4 2 _ l1' (by omega));have oM:EZ false (w2.setCell ⟨w.heap.size,2,none⟩ (.iface 189 (.pointer (some ⟨b2,0,none⟩)))) b2 r2 k2 c.ba c.nb c.cb B.h:=Jwj.kept (Jm _ _ (by show b2≠w.heap.size;omega)) (Jm _ _ (by show r2≠w.heap.size;omega));clear f1 f2 FX oL Bc rY Jwj;generalize w2.setCell ⟨w.heap.size,2,none⟩ (.iface 189 (.pointer (some ⟨b2,0,none⟩)))=W2 at *;have l2:=oM.hd.lt;have l2':=oM.row.lt;have l3:=rZ.hd.lt;have l3':=rZ.row.lt;have hlw:Gf fr W2.drew p.lb (some (rr,cc)) c.K B.l:=by have:=Jwk.least;rw[xU]at this;exact this.kept rfl λ_ _=>rfl
 go_wp2;rw[rounds_succ];go_wp2
 go_region_with (go_at_call 263;refine(Jpp (r:=rr) (c:=cc) (w:=W2.drew) hlw (by have:=hok.lK;have:=hc.k2;omega)).mono ?_;rintro e w3 ⟨b3,r3,k3,rfl,Gs,Io,Ze,Jpt,Dx⟩;have f1:=(FY.blk.kept (Dx.heap w.heap.size FY.blk.lt λx=>x)).cell 3;have f2:=(FY.blk.kept (Dx.heap w.heap.size FY.blk.lt λx=>x)).frozen 3)
 have Jzz:TQ w w.heap.size #[.int .i64 B.n,.iface 186 (.pointer (some ⟨b1,0,none⟩)),.iface 189 (.pointer (some ⟨b2,0,none⟩)),.iface 192 (.pointer (some ⟨b3,0,none⟩))] (w3.setCell ⟨w.heap.size,3,none⟩ (.iface 192 (.pointer (some ⟨b3,0,none⟩)))):=FY.set Dx.I4 3 _;have z2:W2.drew.heap.size=W2.heap.size:=rfl;have J041:DV false (w3.setCell ⟨w.heap.size,3,none⟩ (.iface 192 (.pointer (some ⟨b3,0,none⟩)))) b1 r1 k1 c.bits B.r:=rZ.kept (FY.same Dx.I4 3 _ l3 (by omega)) (FY.same Dx.I4 3 _ l3' (by omega));have zI:EZ false (w3.setCell ⟨w.heap.size,3,none⟩ (.iface 192 (.pointer (some ⟨b3,0,none⟩)))) b2 r2 k2 c.ba c.nb c.cb B.h:=oM.kept (FY.same Dx.I4 3 _ l2 (by omega)) (FY.same Dx.I4 3 _ l2' (by omega));have Jxv:Gf false (w3.setCell ⟨w.heap.size,3,none⟩ (.iface 192 (.pointer (some ⟨b3,0,none⟩)))) b3 (some (r3,k3)) c.K B.l:=Jpt.kept (Jm _ _ (by show b3≠w.heap.size;omega)) λx hx=>by obtain⟨_,hx⟩:=hx;cases hx;exact Jm _ _ (by show r3≠w.heap.size;omega)
 clear f1 f2 FY rZ Dx Jwk oM Jpt;generalize w3.setCell ⟨w.heap.size,3,none⟩ (.iface 192 (.pointer (some ⟨b3,0,none⟩)))=W3 at *;go_wp2;rw[rounds_succ];go_wp2;go_ret;refine⟨⟨w.heap.size,b1,r1,k1,b2,r2,k2,b3,some (r3,k3)⟩,rfl,⟨Jzz.blk,J041,zI,Jxv,?_⟩,λx hx=>?_,Jzz.tch⟩
 .have q:∀x:Nat,lpl (some (r3,k3)) x↔x=r3:=λx=>⟨λ⟨_,h⟩=>by cases h;rfl,λh=>⟨k3,by rw[h]⟩⟩;refine⟨?_,?_,?_,?_,?_,?_⟩<;>simp only[q]<;>(try refine⟨?_,?_⟩)<;>omega
 .have q:∀x:Nat,lpl (some (r3,k3)) x↔x=r3:=λx=>⟨λ⟨_,h⟩=>by cases h;rfl,λh=>⟨k3,by rw[h]⟩⟩;rw[BP.mem]at hx;simp only[q]at hx;omega
end
def J042 (b:Nat) (w:JE):(nilAhead 471 186 (.pointer (some ⟨b,0,none⟩)) "Merge").run prog w=.ok (some false) w:=by kernel_rfl
def J043 (b:Nat) (w:JE):(nilAhead 471 189 (.pointer (some ⟨b,0,none⟩)) "Merge").run prog w=.ok (some false) w:=by kernel_rfl
def J044 (b:Nat) (w:JE):(nilAhead 471 192 (.pointer (some ⟨b,0,none⟩)) "Merge").run prog w=.ok (some false) w:=by kernel_rfl
section
variable{fr:Bool}{w wr w2:JE}{c:J7}{p q:BP}{B B2:Bun}
structure G5(fr:Bool)(w:JE)(c:J7)(p q:BP)(B B2:Bun)(wr:JE):Prop where
 l:Jw false wr c p B
 r:Jw fr wr c q B2
 dis:∀x∈p.pl,x∉q.pl
 tch:Tch w.heap.size (λx=>x∈p.pl) w wr
 lt:∀x∈p.pl,x<w.heap.size
def G5.right(h:G5 fr w c p q B B2 wr){y:Nat}(hy:y∈p.pl)(k:Tch wr.heap.size (λx=>x=y) wr w2):Jw fr w2 c q B2:=
 h.r.kept λx hx=>k.heap x (h.r.lt x hx) λe=>h.dis y hy (e▸hx)
def G5.touch(h:G5 fr w c p q B B2 wr){y:Nat}(hy:y∈p.pl)(k:Tch wr.heap.size (λx=>x=y) wr w2):Tch w.heap.size (λx=>x∈p.pl) w w2:=
 h.tch.then k h.tch.size λ_ _ e=>e▸hy
def G5.reg(h:G5 fr w c p q B B2 wr){rs:JD}(hr:DV false w2 p.rb p.rr p.rc c.bits rs)(k:Tch wr.heap.size (λx=>x=p.rr) wr w2):G5 fr w c p q { B with r:=rs } B2 w2:=by have hy:p.rr∈p.pl:=BP.mem.2 (.inr (.inr (.inl rfl)));have nd:=h.l.nd;have same:∀x,x∈p.pl->x≠p.rr->w2.heap[x]?=wr.heap[x]?:=λx hx Ap=>k.heap x (h.l.lt x hx) Ap;have m {x:Nat} (h:x=p.b\/x=p.rb\/x=p.rr\/x=p.hb\/x=p.hr\/x=p.lb\/lpl p.lr x):x∈p.pl:=BP.mem.2 h;refine⟨⟨h.l.hd.kept (same _ (m (by simp)) nd.n1.2.1),hr,h.l.hist.kept (same _ (m (by simp)) (Ne.symm nd.n3.1)) (same _ (m (by simp)) (Ne.symm nd.n3.2.1)),h.l.least.kept (same _ (m (by simp)) (Ne.symm nd.n3.2.2.1)) λx hx=>same _ (m (by simp[hx])) λe=>nd.n3.2.2.2 (e▸hx),nd⟩,h.right hy k,h.dis,h.touch hy k,h.lt⟩
def G5.hist(h:G5 fr w c p q B B2 wr){rs:JD}(hr:EZ false w2 p.hb p.hr p.hc c.ba c.nb c.cb rs)(k:Tch wr.heap.size (λx=>x=p.hr) wr w2):G5 fr w c p q { B with h:=rs } B2 w2:=by have hy:p.hr∈p.pl:=BP.mem.2 (by simp);have nd:=h.l.nd;have same:∀x,x∈p.pl->x≠p.hr->w2.heap[x]?=wr.heap[x]?:=λx hx Ap=>k.heap x (h.l.lt x hx) Ap;have m {x:Nat} (h:x=p.b\/x=p.rb\/x=p.rr\/x=p.hb\/x=p.hr\/x=p.lb\/lpl p.lr x):x∈p.pl:=BP.mem.2 h;refine⟨⟨h.l.hd.kept (same _ (m (by simp)) nd.n1.2.2.2.1),h.l.reg.kept (same _ (m (by simp)) nd.n2.2.2.1) (same _ (m (by simp)) nd.n3.2.1),hr,h.l.least.kept (same _ (m (by simp)) (Ne.symm nd.n5.1)) λx hx=>same _ (m (by simp[hx])) λe=>nd.n5.2 (e▸hx),nd⟩,h.right hy k,h.dis,h.touch hy k,h.lt⟩
def G5.num(h:G5 fr w c p q B B2 wr)(n:Int):G5 fr w c p q { B with n:=n } B2 (wr.setCell ⟨p.b,0,none⟩ (.int .i64 n)):=by
 have hy:p.b∈p.pl:=BP.mem.2 (by simp);have nd:=h.l.nd;have same:∀x,x≠p.b->(wr.setCell ⟨p.b,0,none⟩ (.int .i64 n)).heap[x]?=wr.heap[x]?:=λx Ap=>Jm _ _ Ap;have k:Tch wr.heap.size (λx=>x=p.b) wr (wr.setCell ⟨p.b,0,none⟩ (.int .i64 n)):=Tch.refl.set (.inr (show(λx=>x=p.b) p.b from rfl)) _;exact⟨⟨h.l.hd.set 0 _,h.l.reg.kept (same _ (Ne.symm nd.n1.1)) (same _ (Ne.symm nd.n1.2.1)),h.l.hist.kept (same _ (Ne.symm nd.n1.2.2.1)) (same _ (Ne.symm nd.n1.2.2.2.1)),h.l.least.kept (same _ (Ne.symm nd.n1.2.2.2.2.1)) λx hx=>same _ λe=>nd.n1.2.2.2.2.2 (e▸hx),nd⟩,h.right hy k,h.dis,h.touch hy k,h.lt⟩
def G5.drew(h:G5 fr w c p q B B2 wr):G5 fr w c p q B B2 wr.drew:=⟨h.l.kept λ_ _=>rfl,h.r.kept λ_ _=>rfl,h.dis,h.tch.drew,h.lt⟩
def TB(w:JE)(c:J7)(p:BP)(B:Bun)(w':JE):Prop:=
 ∃p':BP,p'.b=p.b/\Jw false w' c p' B/\(∀x∈p'.pl,x∈p.pl\/w.heap.size<=x)/\Tch w.heap.size (λx=>x∈p.pl) w w'
def G5.Jpu(hl:Jw false wr c p B)(htc:Tch w.heap.size (λx=>x∈p.pl) w wr){ls:JD}(hr:TN wr p.lb p.lr c.K ls w2):TB w c p { B with l:=ls } w2:=by
 obtain⟨OZ,h1,h2,k⟩:=hr;have nd:=hl.nd;have m {x:Nat} (h:x=p.b\/x=p.rb\/x=p.rr\/x=p.hb\/x=p.hr\/x=p.lb\/lpl p.lr x):x∈p.pl:=BP.mem.2 h;have same:∀x,x∈p.pl->x≠p.lb->¬lpl p.lr x->w2.heap[x]?=wr.heap[x]?:=λx hx Ap hn=>k.heap x (hl.lt x hx) λe=>e.elim Ap hn;have fresh:∀x,x∈p.pl->¬lpl p.lr x->¬lpl OZ x:=λx hx hn he=>by
  rcases h2 x he with h3|h3
  .exact hn h3
  .have:=hl.lt x hx;omega
 refine⟨{ p with lr:=OZ },rfl,⟨hl.hd.kept (same _ (m (by simp)) nd.n1.2.2.2.2.1 nd.n1.2.2.2.2.2),hl.reg.kept (same _ (m (by simp)) nd.n2.2.2.2.1 nd.n2.2.2.2.2) (same _ (m (by simp)) nd.n3.2.2.1 nd.n3.2.2.2),hl.hist.kept (same _ (m (by simp)) nd.n4.2.1 nd.n4.2.2) (same _ (m (by simp)) nd.n5.1 nd.n5.2),h1,?_⟩,λx hx=>?_,htc.then k htc.size λx _ e=>?_⟩
 .exact⟨⟨nd.n1.1,nd.n1.2.1,nd.n1.2.2.1,nd.n1.2.2.2.1,nd.n1.2.2.2.2.1,fresh _ (m (by simp)) nd.n1.2.2.2.2.2⟩,⟨nd.n2.1,nd.n2.2.1,nd.n2.2.2.1,nd.n2.2.2.2.1,fresh _ (m (by simp)) nd.n2.2.2.2.2⟩,⟨nd.n3.1,nd.n3.2.1,nd.n3.2.2.1,fresh _ (m (by simp)) nd.n3.2.2.2⟩,⟨nd.n4.1,nd.n4.2.1,fresh _ (m (by simp)) nd.n4.2.2⟩,⟨nd.n5.1,fresh _ (m (by simp)) nd.n5.2⟩,fresh _ (m (by simp)) nd.n6⟩
 .rcases BP.mem.1 hx with e|e|e|e|e|e|e
  .exact .inl (m (.inl e))
  .exact .inl (m (.inr (.inl e)))
  .exact .inl (m (.inr (.inr (.inl e))))
  .exact .inl (m (.inr (.inr (.inr (.inl e)))))
  .exact .inl (m (.inr (.inr (.inr (.inr (.inl e))))))
  .exact .inl (m (.inr (.inr (.inr (.inr (.inr (.inl e)))))))
  .rcases h2 x e with h3|h3
   .exact .inl (m (.inr (.inr (.inr (.inr (.inr (.inr h3)))))))
   .exact .inr (BN htc.size h3)
 .rcases e with rfl|e
  .exact m (by simp)
  .exact m (by simp[e])
def G5.least(h:G5 fr w c p q B B2 wr){ls:JD}(hr:TN wr p.lb p.lr c.K ls w2):TB w c p { B with l:=ls } w2:=G5.Jpu h.l h.tch hr
def Jt3(h:Jw false w c p B)(h2:Jw fr w c q B2)(hd:∀x∈p.pl,x∉q.pl)(hok:Jl c B)(Nv:Jl c B2)(hc:CZ c) :
  Calls prog 130 #[.pointer (some ⟨p.b,0,none⟩),.pointer (some ⟨q.b,0,none⟩)] w λe w'=>(∃v,e=.returned v)/\TB w c p (mg c B B2) w':=by
 have hlen:(2:Nat) ^ c.bits.toNat<=1000:=by
  have h1:=hc.b1;have h2:=hc.b2;have:c.bits=4\/c.bits=5\/c.bits=6:=by omega
  rcases this with e|e|e<;>rw[e]<;>decide
 have c0:=h.c0;have c1:=h.c1;have c2:=h.c2;have c3:=h.c3;have cf:=h.hd.frozen 0;have d0:=h2.c0;have d1:=h2.c1;have d2:=h2.c2;have d3:=h2.c3;have hb:=h.hd.lt;have Dk:=h2.hd.lt;have Ap:q.b≠p.b:=λe=>hd p.b (BP.mem.2 (by simp)) (e▸BP.mem.2 (by simp));have x0:=ix0 (.iface 186 (.pointer (some ⟨p.rb,0,none⟩))) (.iface 189 (.pointer (some ⟨p.hb,0,none⟩))) (.iface 192 (.pointer (some ⟨p.lb,0,none⟩)));have x1:=ix1 (.iface 186 (.pointer (some ⟨p.rb,0,none⟩))) (.iface 189 (.pointer (some ⟨p.hb,0,none⟩))) (.iface 192 (.pointer (some ⟨p.lb,0,none⟩)));have x2:=ix2 (.iface 186 (.pointer (some ⟨p.rb,0,none⟩))) (.iface 189 (.pointer (some ⟨p.hb,0,none⟩))) (.iface 192 (.pointer (some ⟨p.lb,0,none⟩)));have y0:=Jpq p.rb;have y1:=Jpr p.hb;have y2:=Jps p.lb;have n0:=J042 p.rb;have n1:=J043 p.hb;have n2:=J044 p.lb;obtain⟨rr,cc,xU⟩:∃rr cc,q.lr=some (rr,cc):=by
  have:=h2.least.row;cases hp:q.lr with
  |none=>rw[hp]at this;exact absurd this Nv.lne
  |some q=>exact⟨q.1,q.2,rfl⟩
 have dlb:∀x∈p.pl,q.lb≠x:=λx hx e=>hd x hx (e▸BP.mem.2 (by simp));have dlr:∀x∈p.pl,rr≠x:=λx hx e=>hd x hx (e▸BP.mem.2 (.inr (.inr (.inr (.inr (.inr (.inr ⟨cc,xU⟩)))))));have hm:G5 fr w c p q B B2 w:=⟨h,h2,hd,.refl,h.lt⟩
 go_enter func130,ntmps130
 go_wp2
 go_region
 have OU:G5 fr w c p q { B with n:=wrap64 (B.n+B2.n) } B2 (w.setCell ⟨p.b,0,none⟩ (.int .i64 (wrap64 (B.n+B2.n)))).drew:=(hm.num _).drew;clear c0 c1 c2 c3 cf d0 d1 d2 d3 hm;generalize(w.setCell ⟨p.b,0,none⟩ (.int .i64 (wrap64 (B.n+B2.n)))).drew=W0 at *;have c1:=OU.l.c1;have c2:=OU.l.c2;have c3:=OU.l.c3;have d1:=OU.r.c1;go_wp2;refine wp_loop_rounds 4 ?_;rw[rounds_succ];go_wp2
 go_region_with (go_at_call 250;refine(Jsr (w:=W0.drew) OU.drew.l.reg OU.drew.r.reg (by rw[show({ B with n:=wrap64 (B.n+B2.n) }:Bun).r=B.r from rfl,hok.r,Nv.r]) (by rw[show({ B with n:=wrap64 (B.n+B2.n) }:Bun).r=B.r from rfl,hok.r];exact hlen) h.nd.n2.1 (λe=>hd p.rr (BP.mem.2 (by simp)) (e▸BP.mem.2 (by simp))) (λe=>hd p.rr (BP.mem.2 (by simp)) (e▸BP.mem.2 (by simp)))).mono ?_;rintro e w1 ⟨⟨v1,rfl⟩,KR,Az⟩)
 all_goals have GN:=OU.drew.reg KR Az
 all_goals clear c1 c2 c3 d1 KR Az OU
 all_goals have d2:=GN.r.c2
 all_goals go_wp2
 all_goals rw[rounds_succ]
 all_goals go_wp2
 all_goals go_region_with (go_at_call 257;refine(Jpi (w:=w1.drew) GN.drew.l.hist GN.drew.r.hist (by show B.h.length=B2.h.length;rw[hok.h,Nv.h]) (by show B.h.length<=1000;rw[hok.h];have:=hc.nb;omega) h.nd.n4.1 (λe=>hd p.hr (BP.mem.2 (by simp)) (e▸BP.mem.2 (by simp))) (λe=>hd p.hr (BP.mem.2 (by simp)) (e▸BP.mem.2 (by simp)))).mono ?_;rintro e w2 ⟨⟨v2,rfl⟩,BM,Bc⟩)
 all_goals have Nr:=GN.drew.hist BM Bc
 all_goals clear d2 BM Bc GN
 all_goals have d3:=Nr.r.c3
 all_goals go_wp2
 all_goals rw[rounds_succ]
 all_goals go_wp2
 all_goals have hq:=Nr.drew.r.least
 all_goals rw[xU]at hq
 all_goals go_region_with (go_at_call 264;refine(Jmo (w:=w2.drew) Nr.drew.l.least hq h.nd.n6 ⟨dlb p.lb (by simp[BP.mem]),λe=>dlb q.lb (BP.mem.2 (.inr (.inr (.inr (.inr (.inr (.inr e))))))) rfl⟩ ⟨dlr p.lb (by simp[BP.mem]),λe=>dlr rr (BP.mem.2 (.inr (.inr (.inr (.inr (.inr (.inr e))))))) rfl⟩ hok.l hok.lK (by have:=hc.k2;omega) (by have:=Nv.lK;have:=hc.k2;omega)).mono ?_;rintro e w3 ⟨⟨v3,rfl⟩,Io⟩)
 all_goals have hm3:=Nr.drew.least Io
 all_goals clear d3 Io Nr hq
 all_goals go_wp2
 all_goals rw[rounds_succ]
 all_goals go_wp2
 all_goals go_end0
 all_goals exact⟨⟨_,rfl⟩,hm3⟩
end
structure Ou(c:J7)(B:Bun):Prop where
 r:B.r.length=2 ^ c.bits.toNat
 r8:∀x∈B.r,0<=x/\x<=255
 h:B.h.length=c.nb+1
 h64:∀x∈B.h,I64 x
 l:Ep B.l
 lK:(B.l.length:Int)<=c.K
 l64:∀x∈B.l,0<=x/\x<=18446744073709551615
 n64:I64 B.n
def Jl.zero{c:J7}{B:Bun}(h:Jl c B):Ou c B:=⟨h.r,h.r8,h.h,h.h64,h.l,h.lK,h.l64,h.n64⟩
def P6(c:J7)(bs:JD)(B:Bun)(x v:Int):Bun:=⟨wrap64 (B.n+1),Om c.bits B.r x,NH bs B.h v,Iz c.K B.l x⟩
def mem_set{l:JD}{i:Nat}{a z:Int}(h:z∈l.set i a):z=a\/z∈l:=by
 rcases List.mem_or_eq_of_mem_set h with h|h
 .exact .inr h
 .exact .inl h
def Ou.add{c:J7}{bs:JD}{B:Bun}(h:Ou c B)(hc:CZ c)(CQ:bs.length=c.nb){x:Int}(hx:0<=x/\x<=18446744073709551615)(v:Int):Jl c (P6 c bs B x v):=by
 have ha:=ZR h.l h.lK x;have hr:=Jlk (bits:=c.bits) (x:=x) ⟨hc.b1,hc.b2⟩;have he:=ZU h.l h.lK x;refine⟨J95.trans h.r,λz hz=>?_,ZP.trans h.h,λz hz=>?_,ha.1,ha.2,λz hz=>?_,mZ _,?_⟩
 .rcases mem_set hz with rfl|hz
  .have:∀z:Int,z=B.r.getD (IB c.bits x) 0->0<=z/\z<=255:=λz hz=>by
    rw[C9]at hz;cases hq:B.r[IB c.bits x]? with
    |none=>rw[hq]at hz;simp at hz;omega
    |some y=>rw[hq]at hz;simp at hz;subst hz;exact h.r8 _ (NR hq)
   have:=this _ rfl;omega
  .exact h.r8 z hz
 .rcases mem_set hz with rfl|hz
  .exact mZ _
  .exact h.h64 z hz
 .have OX:z∈Iz c.K B.l x:=hz;rw[he]at OX;rcases VU.1 (List.mem_of_mem_take OX)with rfl|h2
  .exact hx
  .exact h.l64 z h2
 .show Iz c.K B.l x≠[];rw[he];have h1:x∈F9 x B.l:=VU.2 (.inl rfl);have h2:0<(F9 x B.l).length:=List.length_pos_iff.2 (List.ne_nil_of_mem h1);have:=hc.k1;intro e;have:=congrArg List.length e;simp only[List.length_take,List.length_nil]at this;omega
section
variable{fr:Bool}{w wr w2:JE}{c:J7}{p q:BP}{B:Bun}{bs:JD}{ba:JI}
def Px.kept{w w':JE}(h:Px fr w ba bs)(hh:∀bb,ba=some ⟨bb,0,none⟩->bb<w.heap.size->w'.heap[bb]?=w.heap[bb]?):Px fr w' ba bs:=by
 rcases h with h|⟨bb,cap,rfl,h⟩
 .exact .inl h
 .exact .inr ⟨bb,cap,rfl,h.kept (hh bb rfl h.lt)⟩
structure G6(w:JE)(c:J7)(p:BP)(ba:JI)(bs:JD)(B:Bun)(wr:JE):Prop where
 l:Jw false wr c p B
 r:Px false wr ba bs
 dis:∀x∈p.pl,ba≠some ⟨x,0,none⟩
 tch:Tch w.heap.size (λx=>x∈p.pl) w wr
 lt:∀x∈p.pl,x<w.heap.size
def G6.right(h:G6 w c p ba bs B wr){y:Nat}(hy:y∈p.pl)(k:Tch wr.heap.size (λx=>x=y) wr w2):Px false w2 ba bs:=
 h.r.kept λx hx hl=>k.heap x hl λe=>h.dis y hy (e▸hx)
def G6.touch(h:G6 w c p ba bs B wr){y:Nat}(hy:y∈p.pl)(k:Tch wr.heap.size (λx=>x=y) wr w2):Tch w.heap.size (λx=>x∈p.pl) w w2:=
 h.tch.then k h.tch.size λ_ _ e=>e▸hy
def G6.reg(h:G6 w c p ba bs B wr){rs:JD}(hr:DV false w2 p.rb p.rr p.rc c.bits rs)(k:Tch wr.heap.size (λx=>x=p.rr) wr w2):G6 w c p ba bs { B with r:=rs } w2:=by have hy:p.rr∈p.pl:=BP.mem.2 (.inr (.inr (.inl rfl)));have nd:=h.l.nd;have same:∀x,x∈p.pl->x≠p.rr->w2.heap[x]?=wr.heap[x]?:=λx hx Ap=>k.heap x (h.l.lt x hx) Ap;have m {x:Nat} (h:x=p.b\/x=p.rb\/x=p.rr\/x=p.hb\/x=p.hr\/x=p.lb\/lpl p.lr x):x∈p.pl:=BP.mem.2 h;refine⟨⟨h.l.hd.kept (same _ (m (by simp)) nd.n1.2.1),hr,h.l.hist.kept (same _ (m (by simp)) (Ne.symm nd.n3.1)) (same _ (m (by simp)) (Ne.symm nd.n3.2.1)),h.l.least.kept (same _ (m (by simp)) (Ne.symm nd.n3.2.2.1)) λx hx=>same _ (m (by simp[hx])) λe=>nd.n3.2.2.2 (e▸hx),nd⟩,h.right hy k,h.dis,h.touch hy k,h.lt⟩
def G6.hist(h:G6 w c p ba bs B wr){rs:JD}(hr:EZ false w2 p.hb p.hr p.hc c.ba c.nb c.cb rs)(k:Tch wr.heap.size (λx=>x=p.hr) wr w2):G6 w c p ba bs { B with h:=rs } w2:=by have hy:p.hr∈p.pl:=BP.mem.2 (by simp);have nd:=h.l.nd;have same:∀x,x∈p.pl->x≠p.hr->w2.heap[x]?=wr.heap[x]?:=λx hx Ap=>k.heap x (h.l.lt x hx) Ap;have m {x:Nat} (h:x=p.b\/x=p.rb\/x=p.rr\/x=p.hb\/x=p.hr\/x=p.lb\/lpl p.lr x):x∈p.pl:=BP.mem.2 h;refine⟨⟨h.l.hd.kept (same _ (m (by simp)) nd.n1.2.2.2.1),h.l.reg.kept (same _ (m (by simp)) nd.n2.2.2.1) (same _ (m (by simp)) nd.n3.2.1),hr,h.l.least.kept (same _ (m (by simp)) (Ne.symm nd.n5.1)) λx hx=>same _ (m (by simp[hx])) λe=>nd.n5.2 (e▸hx),nd⟩,h.right hy k,h.dis,h.touch hy k,h.lt⟩
def G6.num(h:G6 w c p ba bs B wr)(n:Int):G6 w c p ba bs { B with n:=n } (wr.setCell ⟨p.b,0,none⟩ (.int .i64 n)):=by
 have hy:p.b∈p.pl:=BP.mem.2 (by simp);have nd:=h.l.nd;have same:∀x,x≠p.b->(wr.setCell ⟨p.b,0,none⟩ (.int .i64 n)).heap[x]?=wr.heap[x]?:=λx Ap=>Jm _ _ Ap;have k:Tch wr.heap.size (λx=>x=p.b) wr (wr.setCell ⟨p.b,0,none⟩ (.int .i64 n)):=Tch.refl.set (.inr (show(λx=>x=p.b) p.b from rfl)) _;exact⟨⟨h.l.hd.set 0 _,h.l.reg.kept (same _ (Ne.symm nd.n1.1)) (same _ (Ne.symm nd.n1.2.1)),h.l.hist.kept (same _ (Ne.symm nd.n1.2.2.1)) (same _ (Ne.symm nd.n1.2.2.2.1)),h.l.least.kept (same _ (Ne.symm nd.n1.2.2.2.2.1)) λx hx=>same _ λe=>nd.n1.2.2.2.2.2 (e▸hx),nd⟩,h.right hy k,h.dis,h.touch hy k,h.lt⟩
def G6.least(h:G6 w c p ba bs B wr){ls:JD}(hr:TN wr p.lb p.lr c.K ls w2):TB w c p { B with l:=ls } w2:=G5.Jpu h.l h.tch hr
def zJ(h:Jw false w c p B)(hB:Px false w c.ba bs)(hd:∀x∈p.pl,c.ba≠some ⟨x,0,none⟩)(hok:Ou c B)(hc:CZ c)(CQ:bs.length=c.nb)(IV:bs.Pairwise (· < ·)){x:Int}(hx:0<=x/\x<=18446744073709551615)(v:Int) :
  Calls prog 43 #[.pointer (some ⟨p.b,0,none⟩),.int .u64 x,.int .i64 v] w λe w'=>(∃v,e=.returned v)/\TB w c p (P6 c bs B x v) w':=by
 have c0:=h.c0;have c1:=h.c1;have c2:=h.c2;have c3:=h.c3;have cf:=h.hd.frozen 0;have x0:=ix0 (.iface 186 (.pointer (some ⟨p.rb,0,none⟩))) (.iface 189 (.pointer (some ⟨p.hb,0,none⟩))) (.iface 192 (.pointer (some ⟨p.lb,0,none⟩)));have x1:=ix1 (.iface 186 (.pointer (some ⟨p.rb,0,none⟩))) (.iface 189 (.pointer (some ⟨p.hb,0,none⟩))) (.iface 192 (.pointer (some ⟨p.lb,0,none⟩)));have x2:=ix2 (.iface 186 (.pointer (some ⟨p.rb,0,none⟩))) (.iface 189 (.pointer (some ⟨p.hb,0,none⟩))) (.iface 192 (.pointer (some ⟨p.lb,0,none⟩)));have y0:=Jxr p.rb;have y1:=Jxs p.hb;have y2:=Jxt p.lb;have hm:G6 w c p c.ba bs B w:=⟨h,hB,hd,.refl,h.lt⟩;have OU:=hm.num (wrap64 (B.n+1));have BL:=hc.nb;have s1:∀wr w1,G6 w c p c.ba bs { B with n:=wrap64 (B.n+1) } wr->DV false w1 p.rb p.rr p.rc c.bits (Om c.bits B.r x)->Tch wr.heap.size (λy=>y=p.rr) wr w1->G6 w c p c.ba bs { B with n:=wrap64 (B.n+1),r:=Om c.bits B.r x } w1:=λwr w1 h h1 h2=>h.reg h1 h2;have t1:Hid (∀wr,G6 w c p c.ba bs { B with n:=wrap64 (B.n+1) } wr->Calls prog 248 #[.pointer (some ⟨p.rb,0,none⟩),.int .u64 x,.int .i64 v] wr λe w'=>(∃v,e=.returned v)/\G6 w c p c.ba bs { B with n:=wrap64 (B.n+1),r:=Om c.bits B.r x } w'):=λwr hr=>
  (Jzw hr.l.reg ⟨hc.b1,hc.b2⟩ hok.r hok.r8 h.nd.n2.1 hx v).mono λe w' ⟨h1,h2,h3⟩=>⟨h1,hr.reg h2 h3⟩
 have t2:Hid (∀wr,G6 w c p c.ba bs { B with n:=wrap64 (B.n+1),r:=Om c.bits B.r x } wr->Calls prog 255 #[.pointer (some ⟨p.hb,0,none⟩),.int .u64 x,.int .i64 v] wr λe w'=>(∃v,e=.returned v)/\G6 w c p c.ba bs { B with n:=wrap64 (B.n+1),r:=Om c.bits B.r x,h:=NH bs B.h v } w'):=λwr hr=>by have hh:=hr.l.hist;rw[<- CQ]at hh;refine(Jxm hh hr.r (by rw[CQ];omega) IV (hok.h.trans (by rw[CQ])) h.nd.n4.1 x v).mono λe w' ⟨h1,h2,h3⟩=>⟨h1,?_⟩;rw[CQ]at h2;exact hr.hist h2 h3
 have t3:Hid (∀wr,G6 w c p c.ba bs { B with n:=wrap64 (B.n+1),r:=Om c.bits B.r x,h:=NH bs B.h v } wr->Calls prog 262 #[.pointer (some ⟨p.lb,0,none⟩),.int .u64 x,.int .i64 v] wr λe w'=>(∃v,e=.returned v)/\TB w c p (P6 c bs B x v) w'):=λwr hr=>
  (Jim hr.l.least h.nd.n6 (by show B.l.length<=1000;have:=hok.lK;have:=hc.k2;omega) (hok.l.imp λh=>by omega) ⟨by have:=hc.k1;omega,by have:=hc.k2;omega⟩ x v).mono λe w' ⟨h1,h2⟩=>⟨h1,hr.least h2⟩
 clear s1 hm BL
 go_enter func43,ntmps43
 go_wp2;clear c0 c1 c2 c3 cf;generalize w.setCell ⟨p.b,0,none⟩ (.int .i64 (wrap64 (B.n+1)))=W0 at *;refine wp_loop_rounds 4 ?_;rw[rounds_succ]
 go_wp2_with (go_at_call 248;refine(t1 _ OU).mono ?_;rintro e w1 ⟨⟨v1,rfl⟩,GN⟩)
 rw[rounds_succ]
 go_wp2_with (go_at_call 255;refine(t2 _ GN).mono ?_;rintro e w2 ⟨⟨v2,rfl⟩,Nr⟩)
 rw[rounds_succ]
 go_wp2_with (go_at_call 262;refine(t3 _ Nr).mono ?_;rintro e w3 ⟨⟨v3,rfl⟩,hm3⟩)
 rw[rounds_succ];go_wp2;go_end0;exact⟨⟨_,rfl⟩,hm3⟩
end
def Jr(c n:Int):Int:=(if c<0 then -(c+1)else c) % n
def Yr{c n:Int}(hn:0<n):0<=Jr c n/\Jr c n<n:=⟨Int.emod_nonneg _ (by omega),Int.emod_lt_of_pos _ hn⟩
def Yo{c n:Int}(hc:-9223372036854775808<=c/\c<=9223372036854775807)(hn:0<n)(Ij:n<=9223372036854775807)(w:JE) :
  Calls prog 18 #[.int .i64 c,.int .i64 n] w λe w'=>e=.returned (.int .i64 (Jr c n))/\w'=w:=by
 obtain⟨h1,h2⟩:=hc;have e:c<0->Jr c n=-(c+1).tmod n:=λh=>by unfold Jr;rw[if_pos h,<- Int.tmod_eq_emod_of_nonneg (by omega),Int.neg_tmod]
 have e2:0<=c->Jr c n=c % n:=λh=>by unfold Jr;rw[if_neg (by omega)]
 generalize Jr c n=p at *
 go_enter func18,ntmps18
 go_wp2
 .go_ret;exact⟨by rw[e (by assumption)];rfl,rfl⟩
 .go_ret;exact⟨by rw[e2 (by assumption)];rfl,rfl⟩
def Dc:JD:=[-5,0,10,1000]
def J9e{c:Int}(hc:-9223372036854775808<=c/\c<=9223372036854775807)(w:JE) :
  Calls prog 19 #[.int .i64 c] w λe w'=>e=.returned (.agg #[.int .i64 3,.int .i64 (4+Jr c 1048576 % 3),.int .i64 (1+Jr c 1048576 / 3 % 8),.slice (some ⟨w.heap.size+1,0,none⟩) 4 4,.int .i64 c])/\w'=(w.alloc (.cells #[.int .i64 3,.int .i64 (4+Jr c 1048576 % 3),.int .i64 (1+Jr c 1048576 / 3 % 8),.slice (some ⟨w.heap.size+1,0,none⟩) 4 4,.int .i64 c] 47)).alloc (.cells #[.int .i64 (-5),.int .i64 0,.int .i64 10,.int .i64 1000] 3):=by
 have hp:=Yo hc (n:=1048576) (by omega) (by omega);have hb:=Yr (c:=c) (n:=1048576) (by omega);generalize Jr c 1048576=p at *;obtain⟨b1,b2⟩:=hb
 go_enter func19,ntmps19
 go_wp2_with (go_at_call 18;refine(hp _).mono ?_;rintro e w1 ⟨rfl,rfl⟩)
 refine bodyPost_ret (v:=.agg #[.int .i64 3,.int .i64 (4+p % 3),.int .i64 (1+p / 3 % 8),.slice (some ⟨w.heap.size+1,0,none⟩) 4 4,.int .i64 c]) ?_ rfl ?_
 .simp[results,results19,go_sem]
 .exact⟨rfl,rfl⟩
def EI(c:J7)(YD seed:Int):JC:=#[.int .i64 YD,.int .i64 c.bits,.int .i64 c.K,.slice c.ba c.nb c.cb,.int .i64 seed]
def Jbz{fr:Bool}{w:JE}{c:J7}{bb cap:Nat}{bs:JD}(hc:CZ c)(h:Row fr w bb 3 .i64 bs cap)(Dh:c.ba=some ⟨bb,0,none⟩)(BL:c.nb=bs.length)(hp:bs.Pairwise (· < ·))(seed:Int) :
  Calls prog 110 #[.agg (EI c 3 seed)] w λe w'=>e=.returned (.bool true)/\Tch w.heap.size M0 w w':=by
 obtain⟨b1,b2,k1,k2,nb⟩:=hc;have Aq:∀wr,Tch w.heap.size M0 w wr->∀i,i<bs.length->wr.cell? ⟨bb,i,none⟩=some (.int .i64 (bs.getD i 0)):=λwr ht i hi=>(h.tch ht h.lt λx=>x).cell hi;have Uo:∀i,0<i->i<bs.length->bs.getD (i-1) 0<bs.getD i 0:=λi h0 hi=>by have:=List.pairwise_iff_getElem.1 hp (i-1) i (by omega) hi (by omega);simpa[C9,hi,show i-1<bs.length by omega]using this
 clear h hp;rw[BL]at nb;unfold EI;rw[Dh,BL];generalize bs.length=n at *;generalize c.bits=bits at *;generalize c.K=K at *;generalize c.cb=cb at *
 go_enter func110,ntmps110
 go_wp2
 go_loopw [39] (λi wr=>∃k:Nat,k<=n/\i=.int .i64 k/\Tch w.heap.size M0 w wr/\wr.cell? ⟨w.heap.size,3,none⟩=some (.slice (some ⟨bb,0,none⟩) n cb)) (λi _=>n-(RowKit.intOf i).toNat)
 case atStart=>exact⟨0,by omega,rfl,Tch.refl.alloc (Ad _) _,(cell_of (Ja _) 3).trans rfl⟩
 case round=>
  obtain⟨k,hk,rfl,ht,hb⟩:=hrel;rcases BF k n with Ac|Et
  .have g2:=Aq _ ht k Ac;have CS:(k:Int)<n:=by omega
   rcases Nat.eq_zero_or_pos k with PX|BZ
   .have DI:¬(0:Int)<k:=by omega
    clear Aq Uo g2;go_wp2
    go_region
    go_wp2;refine⟨⟨k+1,by omega,by go_num,ht.drew,hb⟩,by simp[RowKit.intOf];omega⟩
   .have g1:=Aq _ ht (k-1) (by omega);have hi:=Uo k BZ Ac;have DI:(k:Int)-1=((k-1:Nat):Int):=by omega
    have XG:(0:Int)<k:=by omega
    generalize bs.getD (k-1) 0=x at *;generalize bs.getD k 0=y at *;clear Aq Uo;go_wp2
    go_region
    go_wp2;refine⟨⟨k+1,by omega,by go_num,ht.drew,hb⟩,by simp[RowKit.intOf];omega⟩
  .have Ei:¬((k:Int)<n):=by omega
   clear Aq Uo;go_wp2;go_ret;exact⟨rfl,ht⟩
end Go.Sim.Z
namespace Go.Sim.Z
open Go Go.Proofs Go.RowKit Go.Maps
def HY(w:JE)(vm base:Nat):Prop:=∃n,w.ownsMap prog 3 Rv vm n (.map [(.int .i64 7,.held (.map (some base)))])
def aZ:Keyed prog 3:=int_keyed underlying3
def Jpv:keyOf prog 3 (.int .i64 7)=some (.int .i64 7):=by simp[keyOf,underlying3,mapKey];decide
def HY.kept{w w':JE}{vm base:Nat}(h:HY w vm base)(hb:w'.heap[vm]?=w.heap[vm]?):HY w' vm base:=by obtain⟨n,es,clock,h2,h3⟩:=h;exact⟨n,es,clock,hb.trans h2,h3⟩
def HY.lt{w:JE}{vm base:Nat}(h:HY w vm base):vm<w.heap.size:=by obtain⟨n,h⟩:=h;exact h.lt
def HY.lookup{w:JE}{vm base:Nat}(h:HY w vm base):(Instr.lookup 99 (.map (some vm)) (.int .i64 7) false).run prog w=.ok (.map (some base)) w:=by
 obtain⟨n,h2⟩:=h;obtain⟨v,ps,AB,hv⟩:=h2.lookup aZ underlying99 (zeroValue95 w) (zd:=.held (.map none)) (zp:=[]) rfl Jpv;rw[AB];have e:(DataW.map (H:=JJ) [(Lit.int .i64 7,DataW.held (Value.map (some base)))]).atKey (Lit.int .i64 7) (DataW.held (Value.map none))=DataW.held (Value.map (some base)):=by simp[DataW.atKey,Lit.sameKey]
 rw[e]at hv;simp only[Rv,Cb,Prod.mk.injEq,DataW.held.injEq]at hv;rw[hv.1]
def HY.made{w:JE}{vm base:Nat}(h:w.heap[vm]?=some (.map #[] 0)):∃w',(Instr.mapUpdate 99 (.map (some vm)) (.int .i64 7) (.map (some base))).run prog w=.ok () w'/\HY w' vm base/\w.grownBy w' (some vm):=by
 have h0:=World.ownsMap_made w prog 3 Rv;have h1:w.ownsMap prog 3 Rv vm 0 (.map []):=by obtain⟨es,clock,h2,h3,h4,h5⟩:=h0;rw[Ja]at h2;cases h2;exact⟨#[],0,h,h3,h4,h5⟩
 obtain⟨w',AB,h3,h4⟩:=h1.update aZ underlying99 (by decide) Jpv (val:=.map (some base)) (d:=.held (.map (some base))) (ps:=[]) rfl;exact⟨w',AB,⟨_,h3⟩,h4⟩
structure DU(w:JE)(x:Nat)(c:J7)(seed:Int)(h:JJ)(nf:Int)(vm base:Nat):Prop where
 blk:Blk false w x #[.int .i64 3,.int .i64 c.bits,.int .i64 c.K,.slice c.ba c.nb c.cb,.int .i64 seed,h,.int .i64 nf,.map (some vm)] 101
 vs:HY w vm base
def DU.kept{w w':JE}{x:Nat}{c:J7}{seed:Int}{h:JJ}{nf:Int}{vm base:Nat}(q:DU w x c seed h nf vm base)(h1:w'.heap[x]?=w.heap[x]?)(h2:w'.heap[vm]?=w.heap[vm]?):DU w' x c seed h nf vm base:=
 ⟨q.blk.kept h1,q.vs.kept h2⟩
section
variable{w:JE}{x:Nat}{c:J7}{seed:Int}{h:JJ}{nf:Int}{vm base:Nat}
def DU.cells(q:DU w x c seed h nf vm base):w.cell? ⟨x,0,none⟩=some (.int .i64 3)/\w.cell? ⟨x,1,none⟩=some (.int .i64 c.bits)/\w.cell? ⟨x,2,none⟩=some (.int .i64 c.K)/\w.cell? ⟨x,3,none⟩=some (.slice c.ba c.nb c.cb)/\w.cell? ⟨x,4,none⟩=some (.int .i64 seed)/\w.cell? ⟨x,5,none⟩=some h/\w.cell? ⟨x,6,none⟩=some (.int .i64 nf)/\w.cell? ⟨x,7,none⟩=some (.map (some vm)):=
 ⟨(q.blk.cell 0).trans rfl,(q.blk.cell 1).trans rfl,(q.blk.cell 2).trans rfl,(q.blk.cell 3).trans rfl,(q.blk.cell 4).trans rfl,(q.blk.cell 5).trans rfl,(q.blk.cell 6).trans rfl,(q.blk.cell 7).trans rfl⟩
def nC(h0:w.cell? ⟨x,0,none⟩=some (.int .i64 3)):Calls prog 32 #[.pointer (some ⟨x,0,none⟩)] w λe w'=>e=.returned (.int .i64 7)/\w'=w:=by
 have hs:(binOp .shl 3 (.int .i64 1) (.int .i64 3)).run prog w=.ok (.int .i64 8) w:=rfl
 go_enter func32,ntmps32
 go_wp2;go_ret;exact⟨rfl,rfl⟩
def h49:JJ:=.func (.func 94) #[] #[]
def Jir(n:Int)(w:JE):Calls prog 53 #[.int .i64 1,.int .i64 n] w λe w'=>e=.returned h49/\w'=w.alloc (.cells #[.int .i64 n] 3):=by
 go_enter func53,ntmps53
 go_wp2
 all_goals go_ret
 exact⟨rfl,rfl⟩
def Jpw(n:Int)(w:JE):Calls prog 94 #[.int .i64 n] w λe w'=>e=.returned (.int .u64 (IntKind.u64.wrap n))/\w'=w:=by
 go_enter func94,ntmps94
 go_wp2;go_ret;exact⟨rfl,rfl⟩
def Blk.five{fr:Bool}{w:JE}{b:Nat}{v0 v1 v2 v3 v4:JJ}{t:JH}(h:Blk fr w b #[v0,v1,v2,v3,v4] t):w.cell? ⟨b,0,none⟩=some v0/\w.cell? ⟨b,1,none⟩=some v1/\w.cell? ⟨b,2,none⟩=some v2/\w.cell? ⟨b,3,none⟩=some v3/\w.cell? ⟨b,4,none⟩=some v4:=
 ⟨(h.cell 0).trans rfl,(h.cell 1).trans rfl,(h.cell 2).trans rfl,(h.cell 3).trans rfl,(h.cell 4).trans rfl⟩
structure NewAt(w:JE)(c:J7)(seed:Int)(h:JJ)(bs:JD)(e:Ending)(w':JE):Prop where
 ex:∃x vm base b2 c2,e=.returned (.tuple #[.pointer (some ⟨x,0,none⟩),.nilIface])/\(w.heap.size<=x/\w.heap.size<=vm/\w.heap.size<=base/\w.heap.size<=b2) /\
   DU w' x { c with ba:=some ⟨b2,0,none⟩,cb:=c2 } seed h 0 vm base/\w'.heap[base]?=some (.map #[] 0)/\Row false w' b2 3 .i64 bs c2/\(x≠vm/\x≠base/\x≠b2/\vm≠base/\vm≠b2/\base≠b2)
 tch:Tch w.heap.size M0 w w'
def Jgo{fr:Bool}{bb cap:Nat}{bs:JD}(hc:CZ c)(hr:Row fr w bb 3 .i64 bs cap)(Dh:c.ba=some ⟨bb,0,none⟩)(BL:c.nb=bs.length)(hp:bs.Pairwise (· < ·))(f:Fn)(a b:JC) :
  Calls prog 62 #[.agg (EI c 3 seed),.func f a b] w (NewAt w c seed (.func f a b) bs):=by
 have hv:=λw1(ht:Tch w.heap.size M0 w w1)=>Jbz (seed:=seed) hc (hr.tch ht hr.lt λx=>x) Dh BL hp;have BA:=λw1(ht:Tch w.heap.size M0 w w1)=>Jih (hr.tch ht hr.lt λx=>x) (by have:=hc.nb;omega);have hlen:=hc.nb;obtain⟨W0,Ci⟩:∃W0,W0=w.alloc (.cells #[.int .i64 3,.int .i64 c.bits,.int .i64 c.K,.slice (some ⟨bb,0,none⟩) bs.length c.cb,.int .i64 seed] 47):=⟨_,rfl⟩;have Bf:Tch w.heap.size M0 w W0:=by rw[Ci];exact Tch.refl.alloc (Ad _) _
 have Fj:Blk false W0 w.heap.size #[.int .i64 3,.int .i64 c.bits,.int .i64 c.K,.slice (some ⟨bb,0,none⟩) bs.length c.cb,.int .i64 seed] 47:=⟨(0,0),by rw[Ci];exact Ja _,λ_=>rfl⟩;have e1:∀{w1:JE}{arr:JC},Blk false w1 w.heap.size arr 47->∀i,w1.cell? ⟨w.heap.size,i,none⟩=arr[i]?:=λh i=>h.cell i;unfold EI at hv ⊢;rw[Dh,BL]at hv ⊢;have MK:=hv W0 Bf;have Xr:Hid (∀w1,Tch W0.heap.size M0 W0 w1->Calls prog 111 #[.slice (some ⟨bb,0,none⟩) bs.length c.cb] w1 λe w'=>∃g c',e=.returned (.slice (some ⟨g,0,none⟩) bs.length c')/\w1.heap.size<=g/\Row false w' g 3 .i64 bs c'/\Tch w1.heap.size M0 w1 w'/\c'<=maxLen):=λw1 ht=>BA w1 (Bf.trans (ht.mono Bf.size λ_ _ h=>h)) _;have Dq:=Fj.lt;clear hv BA;have jM:∀w,(binOp .eql 98 (.func f a b) .nilFunc).run prog w=.ok (.bool false) w:=λw=>rfl;have jH:∀(t:JH) w,(Instr.makeMap t none).run prog w=.ok (.map (some w.heap.size)) (w.alloc (.map #[] 0)):=λ_ _=>rfl;have hgm':=BL;generalize hgm:bs.length=m at *
 go_enter func62,ntmps62
 go_wp2_with (first
  |(go_at_call 110;rw[<- Ci];refine MK.mono ?_;rintro e w1 ⟨rfl,Az⟩;have FD:=Fj.tch Az Dq (λx=>x);obtain⟨y0,y1,y2,y3,y4⟩:=FD.five;have X5:=FD.lt)
  |(go_at_call 111;refine(Xr _ Az).mono ?_;rintro e w2 ⟨b2,c2,rfl,hge2,BM,Bc,Nh⟩;have Dk:=FD.tch Bc X5 (λx=>x);obtain⟨z0,z1,z2,z3,z4⟩:=Dk.five;have zf:=Dk.frozen 3))
 have CO:(w2.setCell ⟨w.heap.size,3,none⟩ (.slice (some ⟨b2,0,none⟩) m c2)).heap.size=w2.heap.size:=size_set _ _;have Dx:Tch w.heap.size M0 w (w2.setCell ⟨w.heap.size,3,none⟩ (.slice (some ⟨b2,0,none⟩) m c2)):=((Bf.trans (Az.mono Bf.size λ_ _ h=>h)).trans (Bc.mono (BN Bf.size Az.size) λ_ _ h=>h)).set (.inl (Ad _)) _;have Io:Row false (w2.setCell ⟨w.heap.size,3,none⟩ (.slice (some ⟨b2,0,none⟩) m c2)) b2 3 .i64 bs c2:=BM.kept (Jm _ _ (show b2≠w.heap.size by have:=Bf.size;have:=Az.size;omega));have Eu:=BM.lt;generalize w2.setCell ⟨w.heap.size,3,none⟩ (.slice (some ⟨b2,0,none⟩) m c2)=W3 at *;have Qe:w.heap.size<=W3.heap.size:=Dx.size;have hV:((W3.alloc (.map #[] 0)).alloc (.cells #[.int .i64 3,.int .i64 c.bits,.int .i64 c.K,.slice (some ⟨b2,0,none⟩) m c2,.int .i64 seed,.func f a b,.int .i64 0,.map (some w2.heap.size)] 101)).heap[w2.heap.size]?=some (.map #[] 0):=by rw[<- CO,J8 _ (by rw[size_alloc];omega)];exact Ja _
 have hX:((W3.alloc (.map #[] 0)).alloc (.cells #[.int .i64 3,.int .i64 c.bits,.int .i64 c.K,.slice (some ⟨b2,0,none⟩) m c2,.int .i64 seed,.func f a b,.int .i64 0,.map (some w2.heap.size)] 101)).heap[w2.heap.size+1]?=some (.cells #[.int .i64 3,.int .i64 c.bits,.int .i64 c.K,.slice (some ⟨b2,0,none⟩) m c2,.int .i64 seed,.func f a b,.int .i64 0,.map (some w2.heap.size)] 101):=by
  have:=Ja (w:=W3.alloc (.map #[] 0)) (.cells #[.int .i64 3,.int .i64 c.bits,.int .i64 c.K,.slice (some ⟨b2,0,none⟩) m c2,.int .i64 seed,.func f a b,.int .i64 0,.map (some w2.heap.size)] 101)
  rwa [size_alloc,CO]at this
 have SY:=(Io.kept (w':=(W3.alloc (.map #[] 0)).alloc (.cells #[.int .i64 3,.int .i64 c.bits,.int .i64 c.K,.slice (some ⟨b2,0,none⟩) m c2,.int .i64 seed,.func f a b,.int .i64 0,.map (some w2.heap.size)] 101)) (by rw[J8 _ (by rw[size_alloc];omega),J8 _ (by omega)]));have EW:=(Dx.alloc Qe (.map #[] 0)).alloc (by rw[size_alloc];omega) (.cells #[.int .i64 3,.int .i64 c.bits,.int .i64 c.K,.slice (some ⟨b2,0,none⟩) m c2,.int .i64 seed,.func f a b,.int .i64 0,.map (some w2.heap.size)] 101);have LP:((W3.alloc (.map #[] 0)).alloc (.cells #[.int .i64 3,.int .i64 c.bits,.int .i64 c.K,.slice (some ⟨b2,0,none⟩) m c2,.int .i64 seed,.func f a b,.int .i64 0,.map (some w2.heap.size)] 101)).heap.size=w2.heap.size+2:=by rw[size_alloc,size_alloc,CO]
 generalize(W3.alloc (.map #[] 0)).alloc (.cells #[.int .i64 3,.int .i64 c.bits,.int .i64 c.K,.slice (some ⟨b2,0,none⟩) m c2,.int .i64 seed,.func f a b,.int .i64 0,.map (some w2.heap.size)] 101)=W5 at *;have gJ:((W5.alloc (.map #[] 0)).drew).heap[w2.heap.size]?=some (.map #[] 0):=(J8 (w:=W5) _ (show _<W5.heap.size by omega)).trans hV;obtain⟨w7,QV,Jt4,OI⟩:=HY.made (base:=W5.heap.size) gJ;have zK:(Instr.mapUpdate 99 (.map (some w2.heap.size)) (.int .i64 7) (.map (some (w2.heap.size+2)))).run prog ((W5.alloc (.map #[] 0)).drew)=.ok () w7:=by rw[<- LP];exact QV
 have MN:W5.cell? ⟨w2.heap.size+1,0,none⟩=some (.int .i64 3):=(cell_of hX 0).trans rfl;have lG:W5.cell? ⟨w2.heap.size+1,7,none⟩=some (.map (some w2.heap.size)):=(cell_of hX 7).trans rfl;have cb:Hid (∀w',(w'=W5.drew\/w'=(W5.alloc (.map #[] 0)).drew)->Calls prog 32 #[.pointer (some ⟨w2.heap.size+1,0,none⟩)] w' λe Qj=>e=.returned (.int .i64 7)/\Qj=w'):=λw' h=>nC (by
  rcases h with rfl|rfl
  .exact MN
  .refine(Du (J8 (w:=W5) _ ?_)).trans MN;show _<W5.heap.size;rw[LP];show w2.heap.size+1<_;omega)
 have UJ:∀k,k<W5.heap.size->k≠w2.heap.size->w7.heap[k]?=W5.heap[k]?:=λk hk Ap=>(OI.block k (by show k<(W5.alloc _).heap.size;rw[size_alloc];omega) λe=>Ap (Aa e)).trans (J8 (w:=W5) _ hk);have fin:NewAt w c seed (.func f a b) bs (.returned (.tuple #[.pointer (some ⟨w2.heap.size+1,0,none⟩),.nilIface])) w7:=by
  have kS:w.heap.size<=w2.heap.size:=by rw[<- CO];exact Qe
  refine⟨⟨w2.heap.size+1,w2.heap.size,W5.heap.size,b2,c2,rfl,⟨by omega,by omega,by omega,by have:=Bf.size;have:=Az.size;omega⟩,⟨⟨(0,0),?_,λ_=>rfl⟩,Jt4⟩,?_,?_,?_⟩,?_⟩
  .rw[UJ _ (by omega) (by omega),hX,<- BL]
  .exact(OI.block _ (by show W5.heap.size<(W5.alloc _).heap.size;rw[size_alloc];omega) λe=>by have:=Aa e;omega).trans (Ja (w:=W5) _)
  .exact SY.kept (UJ _ (by omega) (by omega))
  .omega
  .exact⟨by have:=OI.size;have e:((W5.alloc (.map #[] 0)).drew).heap.size=W5.heap.size+1:=size_alloc _;have:=EW.size;omega,λk hk _=>(UJ k (by omega) (by omega)).trans (EW.heap k hk λx=>x),OI.tape.trans EW.tape,OI.os.trans EW.os,OI.output.trans EW.output⟩
 clear gJ hV
 go_region_with (go_at_call 32;refine(cb _ (by first|exact .inl rfl|exact .inr rfl)).mono ?_;rintro e w' ⟨rfl,rfl⟩)
 all_goals go_wp2
 all_goals go_ret2
 all_goals exact fin
def Jt5{fr:Bool}{bb cap:Nat}{bs:JD}(hc:CZ c)(hr:Row fr w bb 3 .i64 bs cap)(Dh:c.ba=some ⟨bb,0,none⟩)(BL:c.nb=bs.length)(hp:bs.Pairwise (· < ·))(n:Int) :
  Calls prog 29 #[.agg (EI c 3 seed),.int .i64 1,.int .i64 n] w (NewAt w c seed h49 bs):=by
 obtain⟨W0,Ci⟩:∃W0,W0=w.alloc (.cells (EI c 3 seed) 47):=⟨_,rfl⟩;have Bf:Tch w.heap.size M0 w W0:=by rw[Ci];exact Tch.refl.alloc (Ad _) _
 have Fj:Blk false W0 w.heap.size (EI c 3 seed) 47:=⟨(0,0),by rw[Ci];exact Ja _,λ_=>rfl⟩;have Dq:=Fj.lt;have hf:Hid (∀w1,Tch W0.heap.size M0 W0 w1->w1.cell? ⟨w.heap.size,0,none⟩=some (.int .i64 3)/\w1.cell? ⟨w.heap.size,1,none⟩=some (.int .i64 c.bits)/\w1.cell? ⟨w.heap.size,2,none⟩=some (.int .i64 c.K)/\w1.cell? ⟨w.heap.size,3,none⟩=some (.slice c.ba c.nb c.cb)/\w1.cell? ⟨w.heap.size,4,none⟩=some (.int .i64 seed)):=λw1 ht=>(Fj.tch ht Dq λx=>x).five;have MH:Hid (∀w1,Tch W0.heap.size M0 W0 w1->Calls prog 62 #[.agg (EI c 3 seed),.func (.func 94) #[] #[]] w1 λe w'=>NewAt w c seed h49 bs e w'/\Tch W0.heap.size M0 W0 w'):=λw1 ht=>by have Bc:=Bf.trans (ht.mono Bf.size λ_ _ h=>h);refine(Jgo (seed:=seed) hc (hr.tch Bc hr.lt λx=>x) Dh BL hp (.func 94) #[] #[]).mono λe w'(h:NewAt w1 c seed h49 bs e w')=>?_;obtain⟨⟨x,vm,base,b2,c2,h1,h2,h3⟩,h4⟩:=h;have:=Bc.size;exact⟨⟨⟨x,vm,base,b2,c2,h1,⟨by omega,by omega,by omega,by omega⟩,h3⟩,(Bc.trans (h4.mono Bc.size λ_ _ h=>h))⟩,ht.trans (h4.mono ht.size λ_ _ h=>h)⟩
 clear hr hp Fj Bf Dq Dh BL;unfold EI at MH Ci ⊢;have t0:Tch W0.heap.size M0 W0 W0.drew:=Tch.refl.drew;have t1:Tch W0.heap.size M0 W0 (W0.alloc (.cells #[.int .i64 n] 3)).drew:=(Tch.refl.alloc (Ad _) _).drew;have hd3:Hid (∀w1 R,w1=W0.drew->(R=λe w'=>e=.returned h49/\w'=w1.alloc (.cells #[.int .i64 n] 3))->Calls prog 53 #[.int .i64 1,.int .i64 n] w1 R):=λw1 R _ e=>by rw[e];exact Jir n w1
 go_enter func29,ntmps29
 go_wp2_with fail
 subst Ci;generalize w.heap.size=n0 at hf ⊢;obtain⟨q0,q1,q2,q3,q4⟩:=hf _ t0;obtain⟨r0,r1,r2,r3,r4⟩:=hf _ t1
 go_region_with (first|(go_at_call 53;refine(Jir n _).mono ?_;rintro e w1 ⟨rfl,rfl⟩)|(go_at_call 62;refine(MH _ t1).mono ?_;rintro e w1 ⟨hN,t2⟩;have YT:=hN;obtain⟨⟨x,vm,base,b2,c2,rfl,_⟩,_⟩:=hN))
 all_goals go_wp2
 all_goals go_ret2
 all_goals exact YT
end
section
variable{w:JE}{x:Nat}{c:J7}{seed:Int}{nf:Int}{vm base:Nat}
def Jis(p q r:Addr)(w:JE) :
  CallsD prog 84 #[.pointer (some p),.pointer (some q),.pointer (some r)] .returning w λe u' w'=>e=.returned (.tuple #[])/\u'=.returning/\w'=w:=by
 have KP:∀w,(binOp .neq 20 .nilIface .nilIface).run prog w=.ok (.bool false) w:=λ_=>rfl;refine callsD_of_wpS func84 rfl λc₀ cs hu=>?_;apply wpS_seq;apply wpS_region;simp[wpOpsS,go_sem,recoverD,hu,ntmps84,Exit.thenS];refine wpS_cond (t:=false) (by simp[Act.eval,Array.replicate]) ?_;simp only[DY,if_false];refine wpS_of_wp (wp_skip ?_);cases c₀
 simp_all [bodyPostS,results,results84]
def Jpx(q:DU w x c seed h49 nf vm base)(item at_:Int) :
  Calls prog 39 #[.pointer (some ⟨x,0,none⟩),.int .i64 item,.int .i64 at_] w λe w'=>e=.returned (.tuple #[.int .u64 (IntKind.u64.wrap item),.nilIface])/\Tch w.heap.size M0 w w':=by
 have hmf:∀(fn:Fn)(first cap:JC)(w:JE),(Instr.makeFunc fn first cap).run prog w=.ok (.func fn first cap) w:=λ_ _ _ _=>rfl;have hx:x<w.heap.size:=q.blk.lt;have c5:w.cell? ⟨x,5,none⟩=some (.func (.func 94) #[] #[]):=q.cells.2.2.2.2.2.1;have h1:∀w,Calls prog 94 #[.int .i64 item] w λe w'=>e=.returned (.int .u64 (IntKind.u64.wrap item))/\w'=w:=Jpw item;have c5':(((w.alloc (.cells #[.int .i64 at_] 3)).alloc (.cells #[.int .u64 0] 110)).alloc (.cells #[.nilIface] 33)).cell? ⟨x,5,none⟩=some (.func (.func 94) #[] #[]):=
  (Du (by rw[J8 _ (by rw[size_alloc,size_alloc];show x<_;omega),J8 _ (by rw[size_alloc];show x<_;omega),J8 _ hx])).trans c5
 generalize IntKind.u64.wrap item=hh at *
 go_enter_defers func39,ntmps39
 go_wp2_with (go_at_call 94;refine(h1 _).mono ?_;rintro e w1 ⟨rfl,rfl⟩)
 refine leaves_cons (f:=84) (args:=#[.pointer (some ⟨w.heap.size,0,none⟩),.pointer (some ⟨w.heap.size+1,0,none⟩),.pointer (some ⟨w.heap.size+1+1,0,none⟩)]) (by simp) (by simp[go_sem]) ?_;refine(Jis _ _ _ _).mono ?_;rintro e u' Qj ⟨rfl,rfl,rfl⟩;simp[Leaves,settle,results,results39,go_sem];exact((Tch.refl.alloc (Ad _) _).alloc (by rw[size_alloc];omega) _).alloc (by rw[size_alloc,size_alloc];omega) _
end
structure PI(w:JE)(base:Nat)(v:JJ)(xs:JD):Prop where
 own:w.ownsRow base 3 1 v xs.length (xs.map (Value.int .i64))
 pl:Ko w v
 nl:v=.slice none 0 0↔xs=[]
def PI.nil(w:JE)(base:Nat):PI w base (.slice none 0 0) []:=⟨⟨rfl,.inl ⟨rfl,rfl⟩⟩,.nil _ _ _,by simp⟩
def PI.lt{w:JE}{base:Nat}{v:JJ}{xs:JD}(h:PI w base v xs){g n cap:Nat}(e:v=.slice (some ⟨g,0,none⟩) n cap):base<=g/\g<w.heap.size:=by
 rcases h.own.2 with⟨rfl,_⟩|⟨g',Ee,cur,rfl,hb,hg,_⟩
 .cases e
 .cases e;exact⟨hb,Jj hg⟩
def SlI(fr:Bool)(w:JE)(base:Nat)(v:JJ)(t:JH)(k:IntKind)(xs:JD):Prop:=
 (v=.slice none 0 0/\xs=[])\/∃g cap,v=.slice (some ⟨g,0,none⟩) xs.length cap/\base<=g/\Row fr w g t k xs cap
def PI.sl{w:JE}{base:Nat}{v:JJ}{xs:JD}(h:PI w base v xs):SlI false w base v 3 .i64 xs:=by
 by_cases e:v=.slice none 0 0
 .exact .inl ⟨e,h.nl.1 e⟩
 .obtain⟨g,cap,h1,h2,h3,_⟩:=Row.nP h.own e h.pl;exact .inr ⟨g,cap,h1,h2,h3⟩
def PI.pushed{wr w1:JE}{base:Nat}{v v':JJ}{xs:JD}{y:Int}{o:Obj}(hv:PI wr base v xs)(Aw:w1.ownsRow base 3 1 v' (xs.length+1) (xs.map (Value.int .i64)++[.int .i64 y]))(hg:(wr.alloc o).grownBy w1 v.ownBlock)
  (Ej:v'=.slice none 0 0↔v=.slice none 0 0/\1=0) (D8:Ko w1 v') (hb:base<=wr.heap.size):PI w1 base v' (xs++[y])/\Tch base M0 wr w1:=by
 refine⟨⟨by simpa using Aw,D8,by simp[Ej]⟩,⟨?_,λb BO _=>?_,hg.tape,hg.os,hg.output⟩⟩
 .have:=hg.size;rw[size_alloc]at this;omega
 .refine(hg.block b (by rw[size_alloc];omega) λe=>?_).trans (J8 _ (by omega));rcases hv.own.2 with⟨rfl,_⟩|⟨g',Ee,cur,rfl,xC,_⟩
  .cases e
  .have:=Aa e;simp at this;omega
def MV(m:Nat)(k:JD)(n:Nat):JD:=((k.take n).zipIdx.filter λp=>m.testBit p.2).map (·.1)
def Jpy{m n:Nat}{k:JD}(hn:n<k.length):MV m k (n+1)=if m.testBit n then MV m k n++[k.getD n 0]else MV m k n:=by
 unfold MV;rw[List.take_add_one,List.zipIdx_append,List.filter_append,List.map_append];have h1:k[n]?=some (k.getD n 0):=by rw[C9,DL hn];rfl
 have h2:(k.take n).length=n:=by simp;omega
 rw[h1];simp only[Option.toList_some,List.zipIdx_cons,List.zipIdx_nil,h2,Nat.zero_add];cases hb:m.testBit n<;>simp[hb]
def Jxw{w:JE}{vb:Nat}{v:JJ}{t:JH}(hv:w.heap[vb]?=some (.cells #[v] t)):∀j u,([v]:List JJ)[j]?=some u->w.cell? ((⟨vb,0,none⟩:Addr).add j)=some u:=by
 intro j u hj;cases j with
 |zero=>
  simp at hj;subst hj;exact(cell_of hv 0).trans rfl
 |succ j=>simp at hj
def Jt6(m k:Nat):(bits BinOp.and IntKind.i64 (((m:Int)) / 2 ^ k) 1 == 1)=m.testBit k:=by
 rw[Jic,Nat.testBit,Nat.shiftRight_eq_div_pow];have:((m:Int) / 2 ^ k) % 2=((m / 2 ^ k % 2:Nat):Int):=by push_cast;rfl
 rw[this];have h2:m / 2 ^ k % 2<2:=Nat.mod_lt _ (by omega);generalize hx:m / 2 ^ k=x at *;rcases Nat.mod_two_eq_zero_or_one x with h|h<;>simp[h,Nat.and_comm,Nat.and_one_is_mod]
def Jky(ks:JD)(hk:ks.length=5)(m:Nat)(w:JE):Calls prog 48 #[.agg (ai .i64 ks),.int .i64 m] w λe w'=>∃v,e=.returned v/\SlI false w' w.heap.size v 3 .i64 (MV m ks 5)/\Tch w.heap.size M0 w w':=by
 obtain⟨i0,hi,EY,DJ,DR⟩:=info_parts info3;have hm:maxLen=9223372036854775807:=by decide
 go_enter func48,ntmps48
 go_wp2
 go_loopw [5,7] (λv i wr=>∃k:Nat,k<=5/\i=.int .i64 k/\PI wr (w.heap.size+1) v (MV m ks k)/\wr.heap[w.heap.size]?=some (.cells (ai .i64 ks) 104)/\Tch w.heap.size M0 w wr) (λ_ i _=>5-(RowKit.intOf i).toNat)
 case atStart=>exact⟨0,by omega,rfl,PI.nil _ _,Ja _,Tch.refl.alloc (Ad _) _⟩
 case round=>
  obtain⟨k,hk5,rfl,hv,hc,ht⟩:=hrel;have L8:=Jt6 m k;have hlen:(MV m ks k).length<=5:=by unfold MV;rw[FQ];refine BN (List.length_filter_le _ _) ?_;simp;omega
  rcases BF k 5 with Ac|Et
  .have Aq:=cell_of hc k;rw[nO (by omega)]at Aq;have CS:(k:Int)<5:=by omega
   have Iu:=Jpy (m:=m) (n:=k) (k:=ks) (by omega);cases hb:m.testBit k
   .rw[hb]at L8 Iu;simp only[DY,if_false]at Iu;go_wp2;refine⟨⟨k+1,by omega,by go_num,?_,hc,ht⟩,?_⟩
    .rw[Iu];exact hv
    .simp[RowKit.intOf];omega
   .rw[hb]at L8 Iu;simp only[if_true]at Iu;generalize ks.getD k 0=y at *;have Ag:=Jj hc
    go_wp2_with (at_builtin;refine mO _ rfl _ _ 24 rfl (w.heap.size+1) 3 i0 _ 1 8 underlying24 hi EY DJ DR rfl (by decide) _ _ _ rfl (hv.own.alloc _) ⟨wr.heap.size,0,none⟩ 1 1 [.int .i64 y] rfl rfl (Jxw (Ja _)) (by simp[Value.oneCell']) (by omega) (by omega) (by rw[size_alloc];omega) (hv.pl.kept λg n cap e=>J8 _ (hv.lt e).2) (λu hu=>by rcases AL.1 hu with rfl|hu;exact⟨_,_,rfl⟩;cases hu) (Plain.ai (k:=.i64) (xs:=[0])) ?_;intro v' w1 BD AX Ej Ny)
    obtain⟨h1,h2⟩:=hv.pushed BD AX Ej Ny (by omega);refine⟨⟨k+1,by omega,by go_num,?_,(h2.heap _ (by omega) λx=>x).trans hc,ht.trans (h2.mono (by omega) λ_ _ h=>h)⟩,?_⟩
    .rw[Iu];exact h1
    .simp[RowKit.intOf];omega
  .have Ei:¬(k:Int)<5:=by omega
   obtain rfl:k=5:=by omega
   clear hc;go_wp2;go_ret;refine⟨_,rfl,?_,ht⟩;rcases hv.sl with h|⟨g,cap,h1,h2,h3⟩
   .exact .inl h
   .exact .inr ⟨g,cap,h1,by omega,h3⟩
end Go.Sim.Z
