/- Proved here: laws for the claim. No conditions. -/
import Derived.LoopN
import Derived.Deep.RegionHeld3
import Derived.Defers
import Derived.Recover
import Derived.Laws.Pointers
import Derived.Test.YtlcbehhbfglgaaaGreatK01
set_option linter.all false
set_option maxHeartbeats 4000000
set_option maxRecDepth 100000
open Go.Proofs.Tryz
namespace Go.Sim.Z
open Go Go.Proofs Go.RowKit
abbrev EM(l:JD):Prop:=l.Pairwise (· < ·)
def Gn(x:Int):JD->JD
 |[]=>[x]
 |y::l=>if x<y then x::y::l else if x=y then y::l else y::Gn x l
theorem YO{x z:Int}:∀{l:JD},z∈Gn x l↔z=x\/z∈l
 |[]=>by simp[Gn]
 |y::l=>by
  unfold Gn;split
  ·simp
  ·split
   ·rename_i e;subst e;simp
   ·rw[AO,YO,AO];constructor
    ·rintro(h|h|h)
     ·exact .inr (.inl h)
     ·exact .inl h
     ·exact .inr (.inr h)
    ·rintro(h|h|h)
     ·exact .inr (.inl h)
     ·exact .inl h
     ·exact .inr (.inr h)
theorem sV{x:Int}:∀{l:JD},EM l->EM (Gn x l)
 |[],_=>by simp[Gn]
 |y::l,h=>by
  have h1:=(Me.1 h).1;have h2:=(Me.1 h).2;unfold Gn;split
  ·rename_i hx;refine Me.2 ⟨λz hz=>?_,h⟩;rcases AO.1 hz with rfl|hz
   ·exact hx
   ·have:=h1 z hz;omega
  ·split
   ·exact h
   ·refine Me.2 ⟨λz hz=>?_,sV h2⟩;rcases YO.1 hz with rfl|hz
    ·omega
    ·exact h1 z hz
theorem Jhy{x:Int}:∀{l:JD},EM l->x∈l->Gn x l=l
 |[],_,h=>by simp at h
 |y::l,h,hx=>by
  have h1:=(Me.1 h).1;have h2:=(Me.1 h).2;unfold Gn;rcases AO.1 hx with rfl|hx
  ·rw[if_neg (by omega),if_pos rfl]
  ·have:=h1 x hx;rw[if_neg (by omega),if_neg (by omega),Jhy h2 hx]
theorem Jfs{x:Int}:∀{l:JD},EM l->x∉l->insL (l.countP (· < x)) x l=Gn x l
 |[],_,_=>by simp[insL,Gn]
 |y::l,h,hx=>by
  have h1:=(Me.1 h).1;have h2:=(Me.1 h).2;rw[AO,not_or]at hx;unfold Gn;by_cases hxy:x<y
  ·have:(y::l).countP (· < x)=0:=by
    rw[List.countP_eq_zero];intro z hz;rcases AO.1 hz with rfl|hz
    ·simp;omega
    ·have:=h1 z hz;simp;omega
   rw[this,if_pos hxy];simp[insL]
  ·rw[if_neg hxy,if_neg hx.1,List.countP_cons_of_pos (by simp;omega),<- Jfs h2 hx.2];simp[insL]
theorem zG:∀{a b:JD},EM a->EM b->(∀x,x∈a↔x∈b)->a=b
 |[],[],_,_,_=>rfl
 |[],y::b,_,_,h=>by have:=(h y).2 (by simp);simp at this
 |x::a,[],_,_,h=>by have:=(h x).1 (by simp);simp at this
 |x::a,y::b,ha,hb,h=>by
  have a1:=(Me.1 ha).1;have b1:=(Me.1 hb).1;have e:x=y:=by
   rcases AO.1 ((h x).1 (by simp))with e|e
   ·exact e
   ·rcases AO.1 ((h y).2 (by simp))with e'|e'
    ·exact e'.symm
    ·have:=b1 x e;have:=a1 y e';omega
  subst e;congr 1;refine zG (Me.1 ha).2 (Me.1 hb).2 λz=>?_;constructor
  ·intro hz;rcases AO.1 ((h z).1 (by simp[hz]))with e|e
   ·subst e;have:=a1 z hz;omega
   ·exact e
  ·intro hz;rcases AO.1 ((h z).2 (by simp[hz]))with e|e
   ·subst e;have:=b1 z hz;omega
   ·exact e
theorem J9b{x:Int}:∀{l:JD}{K:Nat},(Gn x (l.take K)).take K=(Gn x l).take K
 |_,0=>by simp
 |[],K+1=>by simp
 |y::l,K+1=>by
  simp only[List.take_succ_cons];unfold Gn;have key:∀m:JD,(y::m.take K).take K=(y::m).take K:=by
   intro m;cases K with
   |zero=>simp
   |succ k=>simp[List.take_take,Nat.min_eq_left (Nat.le_succ k)]
  split
  ·rw[List.take_succ_cons,List.take_succ_cons,key]
  ·split
   ·simp[List.take_take]
   ·rw[List.take_succ_cons,List.take_succ_cons,J9b]
def uni(a b:JD):JD:=b.foldl (λl x=>Gn x l) a
theorem Xc{z:Int}:∀{b a:JD},z∈uni a b↔z∈a\/z∈b
 |[],a=>by simp[uni]
 |x::b,a=>by
  show z∈uni (Gn x a) b↔_;rw[Xc,YO,AO];constructor
  ·rintro((h|h)|h)
   ·exact .inr (.inl h)
   ·exact .inl h
   ·exact .inr (.inr h)
  ·rintro(h|h|h)
   ·exact .inl (.inr h)
   ·exact .inl (.inl h)
   ·exact .inr h
theorem U5:∀{b a:JD},EM a->EM (uni a b)
 |[],_,h=>h
 |x::b,a,h=>by show EM (uni (Gn x a) b);exact U5 (sV h)
theorem gJ{K:Nat}:∀{b l:JD},(uni (l.take K) b).take K=(uni l b).take K
 |[],l=>by simp[uni,List.take_take]
 |x::b,l=>by show(uni (Gn x (l.take K)) b).take K=(uni (Gn x l) b).take K;rw[<- gJ (l:=Gn x (l.take K)),<- gJ (l:=Gn x l),J9b]
theorem rQ{K:Int}{ls:JD}(h:EM ls)(hK:(ls.length:Int)<=K)(x:Int):Lj K ls x=(Gn x ls).take K.toNat:=by
 unfold Lj;split
 ·rename_i hx;rw[Jhy h hx,List.take_of_length_le (by omega)]
 ·rename_i hx;rw[Jfs h hx]
theorem Jft{l:JD}(h:EM l)(k:Nat):EM (l.take k):=h.sublist (List.take_sublist _ _)
theorem sW{K:Int}{ls:JD}(h:EM ls)(hK:(ls.length:Int)<=K)(x:Int):EM (Lj K ls x)/\((Lj K ls x).length:Int)<=K:=by rw[rQ h hK];exact⟨Jft (sV h) _,by rw[List.length_take];omega⟩
def Ia(K:Int)(a b:JD):JD:=b.foldl (Lj K) a
theorem QN{K:Int}:∀{b a:JD},EM a->(a.length:Int)<=K->Ia K a b=(uni a b).take K.toNat
 |[],a,_,hK=>by
  show a=a.take _;rw[List.take_of_length_le (by omega)]
 |x::b,a,h,hK=>by show Ia K (Lj K a x) b=(uni (Gn x a) b).take _;have:=sW h hK x;rw[QN this.1 this.2,rQ h hK,gJ]
theorem vC{K:Int}{a b:JD}(h:EM a)(hK:(a.length:Int)<=K):EM (Ia K a b)/\((Ia K a b).length:Int)<=K:=by rw[QN h hK];exact⟨Jft (U5 h) _,by rw[List.length_take];omega⟩
theorem J7l{K:Int}{a b:JD}(ha:EM a)(hb:EM b)(ka:(a.length:Int)<=K)(kb:(b.length:Int)<=K):Ia K a b=Ia K b a:=by rw[QN ha ka,QN hb kb];congr 1;exact zG (U5 ha) (U5 hb) λx=>by rw[Xc,Xc,or_comm]
theorem Jhz{K:Int}{a b c:JD}(ha:EM a)(hb:EM b)(hc:EM c)(ka:(a.length:Int)<=K)(kb:(b.length:Int)<=K)(_kc:(c.length:Int)<=K):Ia K (Ia K a b) c=Ia K a (Ia K b c):=by
 have h1:=vC (b:=b) ha ka;have h2:=vC (b:=c) hb kb;rw[J7l ha h2.1 ka h2.2,QN h1.1 h1.2,QN h2.1 h2.2,QN ha ka,QN hb kb,gJ,gJ];congr 1;refine zG (U5 (U5 ha)) (U5 (U5 hb)) λx=>?_;simp only[Xc];constructor
 ·rintro((h|h)|h)
  ·exact .inr h
  ·exact .inl (.inl h)
  ·exact .inl (.inr h)
 ·rintro((h|h)|h)
  ·exact .inl (.inr h)
  ·exact .inr h
  ·exact .inl (.inl h)
theorem Jls{K:Int}{a b:JD}(ha:EM a)(ka:(a.length:Int)<=K){x:Int}(h:x∈Ia K a b):x∈a\/x∈b:=by rw[QN ha ka]at h;exact Xc.1 (List.mem_of_mem_take h)
theorem Joh(a b:JD):maxL a b=maxL b a:=by
 unfold maxL
 induction a generalizing b with
 |nil=>cases b<;>rfl
 |cons x a ih=>cases b with
  |nil=>rfl
  |cons y b=>simp only[List.zipWith_cons_cons,ih,Int.max_comm]
theorem Jlt(a b c:JD):maxL (maxL a b) c=maxL a (maxL b c):=by
 unfold maxL
 induction a generalizing b c with
 |nil=>cases b<;>rfl
 |cons x a ih=>cases b with
  |nil=>cases c<;>rfl
  |cons y b=>cases c with
   |nil=>rfl
   |cons z c=>simp only[List.zipWith_cons_cons,ih,Int.max_assoc]
theorem J98(x y:Int):wrap64 (x+y)=wrap64 (y+x):=by rw[Int.add_comm]
theorem J7x(x y z:Int):wrap64 (wrap64 (x+y)+z)=wrap64 (x+wrap64 (y+z)):=by unfold wrap64;omega
theorem Joi(a b:JD):EO a b=EO b a:=by
 unfold EO
 induction a generalizing b with
 |nil=>cases b<;>rfl
 |cons x a ih=>cases b with
  |nil=>rfl
  |cons y b=>simp only[List.zipWith_cons_cons,ih,J98 x y]
theorem Jlu(a b c:JD):EO (EO a b) c=EO a (EO b c):=by
 unfold EO
 induction a generalizing b c with
 |nil=>cases b<;>rfl
 |cons x a ih=>cases b with
  |nil=>cases c<;>rfl
  |cons y b=>cases c with
   |nil=>rfl
   |cons z c=>simp only[List.zipWith_cons_cons,ih,J7x x y z]
structure Bun where
 n:Int
 r:JD
 h:JD
 l:JD
structure J8 where
 bits:Int
 K:Int
 ba:JI
 nb:Nat
 cb:Nat
structure Jw(c:J8):Prop where
 b1:4<=c.bits
 b2:c.bits<=6
 k1:1<=c.K
 k2:c.K<=8
 nb:c.nb<=8
def I64(x:Int):Prop:=-9223372036854775808<=x/\x<=9223372036854775807
structure Jl(c:J8)(B:Bun):Prop where
 r:B.r.length=2 ^ c.bits.toNat
 r8:∀x∈B.r,0<=x/\x<=255
 h:B.h.length=c.nb+1
 h64:∀x∈B.h,I64 x
 l:EM B.l
 lK:(B.l.length:Int)<=c.K
 l64:∀x∈B.l,0<=x/\x<=18446744073709551615
 n64:I64 B.n
 lne:B.l≠[]
def mg(c:J8)(a b:Bun):Bun:=⟨wrap64 (a.n+b.n),maxL a.r b.r,EO a.h b.h,Ia c.K a.l b.l⟩
theorem J5q{f:Int->Int->Int}{z:Int}:∀{a b:JD},z∈a.zipWith f b->∃x∈a,∃y∈b,z=f x y
 |[],_,h=>by simp at h
 |_::_,[],h=>by simp at h
 |x::a,y::b,h=>by
  rw[List.zipWith_cons_cons,AO]at h;rcases h with rfl|h
  ·exact⟨x,by simp,y,by simp,rfl⟩
  ·obtain⟨p,hp,q,hq,e⟩:=J5q h;exact⟨p,by simp[hp],q,by simp[hq],e⟩
theorem J6h(x:Int):I64 (wrap64 x):=by unfold I64 wrap64;omega
section
variable{c:J8}{a b d:Bun}
theorem Jl.mg(ha:Jl c a)(hb:Jl c b):Jl c (mg c a b):=by
 refine⟨?_,λx hx=>?_,?_,λx hx=>?_,(vC ha.l ha.lK).1,(vC ha.l ha.lK).2,λx hx=>?_,J6h _,?_⟩
 ·show(maxL a.r b.r).length=_;rw[J7i (by rw[ha.r,hb.r]),ha.r]
 ·obtain⟨p,hp,q,hq,rfl⟩:=J5q hx;have:=ha.r8 p hp;have:=hb.r8 q hq;omega
 ·show(EO a.h b.h).length=_;rw[J7j (by rw[ha.h,hb.h]),ha.h]
 ·obtain⟨p,hp,q,hq,rfl⟩:=J5q hx;exact J6h _
 ·rcases Jls ha.l ha.lK hx with h|h
  ·exact ha.l64 x h
  ·exact hb.l64 x h
 ·show Ia c.K a.l b.l≠[];rw[QN ha.l ha.lK];have h1:=ha.lne;have h2:=ha.lK;obtain⟨x,hx⟩:=List.exists_mem_of_ne_nil _ h1;have h3:x∈uni a.l b.l:=Xc.2 (.inl hx);have h4:0<a.l.length:=List.length_pos_iff.2 h1;have h5:0<(uni a.l b.l).length:=List.length_pos_iff.2 (List.ne_nil_of_mem h3);intro e;have:=congrArg List.length e;simp only[List.length_take,List.length_nil]at this;omega
theorem Jkw(ha:Jl c a)(hb:Jl c b):mg c a b=mg c b a:=by unfold mg;rw[J98,Joh,Joi,J7l ha.l hb.l ha.lK hb.lK]
theorem Jbt(ha:Jl c a)(hb:Jl c b)(hd:Jl c d):mg c (mg c a b) d=mg c a (mg c b d):=by unfold mg;simp only;rw[J7x,Jlt,Jlu,Jhz ha.l hb.l hd.l ha.lK hb.lK hd.lK]
def om(c:J8)(z:Option Bun)(b:Bun):Option Bun:=match z with|none=>some b|some a=>some (mg c a b)
def uV(c:J8)(x y:Option Bun):Option Bun:=match y with|none=>x|some b=>om c x b
def GI(c:J8)(l:List Bun):Option Bun:=l.foldl (om c) none
def OOk(c:J8)(z:Option Bun):Prop:=∀b,z=some b->Jl c b
theorem OOk.om{z:Option Bun}(hz:OOk c z)(hb:Jl c b):OOk c (om c z b):=by
 intro x hx;cases z with
 |none=>cases hx;exact hb
 |some a=>cases hx;exact(hz a rfl).mg hb
theorem Jv4{z:Option Bun}(hz:OOk c z)(ha:Jl c a)(hb:Jl c b):om c (om c z a) b=om c (om c z b) a:=by
 cases z with
 |none=>exact congrArg some (Jkw ha hb)
 |some x=>
  have hx:=hz x rfl;show some _=some _;rw[Jbt hx ha hb,Jbt hx hb ha,Jkw ha hb]
theorem Jlv{l1 l2:List Bun}(hp:l1.Perm l2):(∀b∈l1,Jl c b)->∀z,OOk c z->l1.foldl (om c) z=l2.foldl (om c) z:=by
 induction hp with
 |nil=>exactλ_ _ _=>rfl
 |cons x _ ih=>exactλh z hz=>ih (λb hb=>h b (by simp[hb])) _ (hz.om (h x (by simp)))
 |swap x y l=>
  intro h z hz;simp only[List.foldl_cons];rw[Jv4 hz (h y (by simp)) (h x (by simp))]
 |trans h1 _ ih1 ih2=>exactλh z hz=>(ih1 h z hz).trans (ih2 (λb hb=>h b (h1.mem_iff.2 hb)) z hz)
theorem Jfu{l1 l2:List Bun}(hp:l1.Perm l2)(h:∀b∈l1,Jl c b):GI c l1=GI c l2:=Jlv hp h none (λ_ h=>by cases h)
theorem Jr8{l:List Bun}(h:∀b∈l,Jl c b):∀z,OOk c z->OOk c (l.foldl (om c) z):=by
 induction l with
 |nil=>exactλz hz=>hz
 |cons x l ih=>exactλz hz=>ih (λb hb=>h b (by simp[hb])) _ (hz.om (h x (by simp)))
theorem Jv5{l:List Bun}(h:∀b∈l,Jl c b):OOk c (GI c l):=Jr8 h none (λ_ h=>by cases h)
theorem Jv6{x y:Option Bun}(hx:OOk c x)(hy:OOk c y)(hb:Jl c b):om c (uV c x y) b=uV c x (om c y b):=by
 cases y with
 |none=>rfl
 |some p=>
  have hp:=hy p rfl;cases x with
  |none=>rfl
  |some q=>
   show some _=some _;rw[Jbt (hx q rfl) hp hb]
theorem Joj{l:List Bun}(h:∀b∈l,Jl c b):∀x y,OOk c x->OOk c y->l.foldl (om c) (uV c x y)=uV c x (l.foldl (om c) y):=by
 induction l with
 |nil=>exactλ_ _ _ _=>rfl
 |cons b l ih=>
  intro x y hx hy;simp only[List.foldl_cons];have hb:=h b (by simp);rw[Jv6 hx hy hb,ih (λd hd=>h d (by simp[hd])) x _ hx (hy.om hb)]
theorem dN{l1 l2:List Bun}(h1:∀b∈l1,Jl c b)(h2:∀b∈l2,Jl c b):GI c (l1++l2)=uV c (GI c l1) (GI c l2):=by unfold GI;rw[List.foldl_append];exact Joj h2 _ none (Jv5 h1) (λ_ h=>by cases h)
end
end Go.Sim.Z
namespace Go.Sim.Z
open Go Go.Proofs Go.RowKit Go.Shelf
section
variable{fr:Bool}{w w':JE}{b:Nat}{pr:Option (Nat × Nat)}{K:Int}{ls:JD}
theorem Jlw{g c':Nat}(hc:c'<=maxLen)(hg:w.heap.size<=g)(Aj:Row false w' g 45 .u64 ls c')(ht:Tch w.heap.size M0 w w') :
  ∃b' r' c2,Ending.returned (Value.iface 126 (.pointer (some ⟨w'.heap.size,0,none⟩)))=.returned (.iface 126 (.pointer (some ⟨b',0,none⟩)))/\w.heap.size<=b'/\w.heap.size<=r'/\b'≠r'/\GL false (w'.alloc (.cells #[.int .i64 K,.slice (some ⟨g,0,none⟩) ls.length c'] 128)) b' (some (r',c2)) K ls/\Tch w.heap.size M0 w (w'.alloc (.cells #[.int .i64 K,.slice (some ⟨g,0,none⟩) ls.length c'] 128)):=
 ⟨_,g,c',rfl,ht.size,hg,by have:=Aj.lt;omega,⟨⟨(0,0),Ja _,λ_=>rfl⟩,Aj.kept (J7 _ Aj.lt),hc⟩,ht.alloc ht.size _⟩
theorem Jr9{r cap:Nat}{xs:JD}(h:Row fr w r 45 .u64 xs cap)(hn:xs.length<=100000)(c:Nat):Calls prog 176 #[.slice (some ⟨r,0,none⟩) xs.length c] w λe w'=>∃g c',e=.returned (.slice (some ⟨g,0,none⟩) xs.length c')/\c'<=maxLen/\w.heap.size<=g/\Row false w' g 45 .u64 xs c'/\Tch w.heap.size M0 w w':=by refine(Jku h hn c).mono ?_;rintro e w' ⟨g,c',h1,h2,h3,h4,h5⟩;exact⟨g,c',h1,h5,h2,h3,h4⟩
theorem Jok{r c:Nat}(h:GL fr w b (some (r,c)) K ls)(hn:ls.length<=1000) :
  Calls prog 171 #[.pointer (some ⟨b,0,none⟩)] w λe w'=>∃b' r' c',e=.returned (.iface 126 (.pointer (some ⟨b',0,none⟩)))/\w.heap.size<=b'/\w.heap.size<=r'/\b'≠r'/\GL false w' b' (some (r',c')) K ls/\Tch w.heap.size M0 w w':=by
 have c0:=h.c0;have c1:=h.c1;have AX:=Jr9 (w:=w.drew) (h.row.1.kept rfl) (by omega) c;have hb:=h.hd.lt;simp only[lval]at c1
 go_enter func171,ntmps171
 go_wp2
 go_region_with (go_at_call 176;refine AX.mono ?_;rintro e w' ⟨g,c',rfl,hc,hg,Aj,ht⟩;have d0:=(ht.cell (a:=⟨b,0,none⟩) hb (λx=>x)).trans c0;have d1:=(ht.cell (a:=⟨b,1,none⟩) hb (λx=>x)).trans c1)
 all_goals go_wp2
 all_goals go_ret
 all_goals exact Jlw hc hg Aj ht.Ll
theorem Ji1{r c:Nat}(h:GL fr w b (some (r,c)) K ls)(hn:ls.length<=1000) :
  Calls prog 173 #[.pointer (some ⟨b,0,none⟩)] w λe w'=>∃g c',e=.returned (.slice (some ⟨g,0,none⟩) ls.length c')/\w.heap.size<=g/\Row false w' g 45 .u64 ls c'/\Tch w.heap.size M0 w w':=by
 have c1:=h.c1;have AX:=Jku h.row.1 (by omega) c;simp only[lval]at c1
 go_enter func173,ntmps173
 go_wp2_with (go_at_call 176;refine AX.mono ?_;rintro e w' ⟨g,c',rfl,hg,Aj,ht,_⟩)
 go_ret;exact⟨g,c',rfl,hg,Aj,ht⟩
theorem Jfv{K:Int}:∀(ys ls:JD),EM ls->(ls.length:Int)<=K->EM (ys.foldl (Lj K) ls)/\((ys.foldl (Lj K) ls).length:Int)<=K
 |[],_,h,hK=>⟨h,hK⟩
 |y::ys,ls,h,hK=>Jfv ys _ (sW h hK y).1 (sW h hK y).2
def VE(w:JE)(b:Nat)(pr:Option (Nat × Nat))(K:Int)(ls:JD)(w':JE):Prop:=
 ∃PE,GL false w' b PE K ls/\(∀x,lpl PE x->lpl pr x\/w.heap.size<=x)/\Tch w.heap.size (λx=>x=b\/lpl pr x) w w'
theorem VE.step{w1 w2:JE}{ls2:JD}{PE:Option (Nat × Nat)}{e:Ending}(h2:∀x,lpl PE x->lpl pr x\/w.heap.size<=x)(h3:Tch w.heap.size (λx=>x=b\/lpl pr x) w w1)(k:Jgw w1 b PE K ls2 e w2):VE w b pr K ls2 w2:=by
 obtain⟨_,pr2,k1,k2,k3⟩:=k;refine⟨pr2,k1,λx hx=>?_,h3.trans (k3.mono h3.size λx hx hm=>?_)⟩
 ·rcases k2 x hx with h|h
  ·exact h2 x h
  ·exact .inr (BL h3.size h)
 ·rcases hm with rfl|hm
  ·exact .inl rfl
  ·rcases h2 x hm with h|h
   ·exact .inr h
   ·omega
theorem Jlx{b2 r2 c2:Nat}{K2:Int}{ys:JD}(h:GL false w b pr K ls)(h2:GL fr w b2 (some (r2,c2)) K2 ys)(hb:¬lpl pr b)(D8:b2≠b/\¬lpl pr b2)(BU:r2≠b/\¬lpl pr r2)(hs:EM ls)(hlK:(ls.length:Int)<=K)(hK:K<=1000)(hn:ys.length<=1000) :
  Calls prog 172 #[.pointer (some ⟨b,0,none⟩),.iface 126 (.pointer (some ⟨b2,0,none⟩))] w λe w'=>(∃v,e=.returned v)/\VE w b pr K (Ia K ls ys) w':=by
 have d0:=h2.c0;have d1:=h2.c1;have hta:=J02y (.pointer (some ⟨b2,0,none⟩)) w;have TQ:=h.hd.lt;have hb2l:=h2.hd.lt;have hr2l:=h2.row.1.lt;simp only[lval]at d1;have hys:ys.length=ys.length:=rfl;generalize F7:ys.length=n at *
 go_enter func172,ntmps172
 go_wp2
 go_loopw [12] (λi wr=>∃k:Nat,k<=n/\i=.int .i64 k/\VE w b pr K (Ia K ls (ys.take k)) wr/\GL fr wr b2 (some (r2,c2)) K2 ys) (λi _=>n-(RowKit.intOf i).toNat)
 case atStart=>exact⟨0,by omega,rfl,⟨pr,h,λx hx=>.inl hx,.refl⟩,h2⟩
 case round=>
  obtain⟨k,hk,rfl,hd,Bl⟩:=hrel;clear d0 d1;rcases BG k n with Ac|Dp
  ·have g1:=Bl.row.1.cell (i:=k) (F7.symm▸Ac);have BI:(k:Int)<n:=by omega
   have et:Ia K ls (ys.take (k+1))=Lj K (Ia K ls (ys.take k)) (ys.getD k 0):=by unfold Ia;rw[List.take_succ_eq_append_getElem (by omega),List.foldl_append,CP,Dh (by omega)];rfl
   generalize ys.getD k 0=y at *;have vK:=Jfv (ys.take k) ls hs hlK;have BF:Calls prog 170 #[.pointer (some ⟨b,0,none⟩),.int .u64 y,.int .i64 0] wr λe w2=>(∃v,e=.returned v)/\VE w b pr K (Ia K ls (ys.take (k+1))) w2/\GL fr w2 b2 (some (r2,c2)) K2 ys:=by
    obtain⟨PE,q1,q2,q3⟩:=hd;have hbp:¬lpl PE b:=λhx=>by rcases q2 b hx with h|h;exact hb h;omega
    have hle:(Ia K ls (ys.take k)).length<=1000:=by have:=vK.2;unfold Ia;omega
    refine(Jhx q1 hbp hle (vK.1.imp λh=>by omega) ⟨by have:=vK.2;omega,hK⟩ y 0).mono ?_;rintro e w2 hp;have hv:=hp.1;have ht:=hp.2;obtain⟨pr2,_,_,p3⟩:=ht;have out:∀x,x<w.heap.size->x≠b->¬lpl pr x->w2.heap[x]?=wr.heap[x]?:=λx hx RS hxp=>by
     refine p3.heap x (by have:=q3.size;omega) ?_;rintro(h|h)
     ·exact RS h
     ·rcases q2 x h with h|h
      ·exact hxp h
      ·omega
    refine⟨hv,VE.step q2 q3 (by rw[et];exact hp),Bl.kept (out b2 hb2l D8.1 D8.2) λx hx=>?_⟩;obtain⟨c,hc⟩:=hx;cases hc;exact out _ hr2l BU.1 BU.2
   clear et vK hd Bl
   go_wp2_with (go_at_call 170;refine BF.mono ?_;rintro e w2 ⟨⟨v,rfl⟩,NY,CU⟩)
   exact⟨⟨k+1,by omega,by go_num,NY,CU⟩,by simp[RowKit.intOf];omega⟩
  ·have CB:¬((k:Int)<n):=by omega
   obtain rfl:k=n:=by omega
   have KI:¬((k:Int)<k):=by omega
   go_wp2;go_end0;rw[List.take_of_length_le (by omega)]at hd;exact⟨⟨_,rfl⟩,hd⟩
end
end Go.Sim.Z
namespace Go.Sim.Z
open Go Go.Proofs Go.RowKit
structure BP where
 b:Nat
 rb:Nat
 rr:Nat
 rc:Nat
 hb:Nat
 hr:Nat
 hc:Nat
 lb:Nat
 lr:Option (Nat × Nat)
def BP.pl(p:BP):List Nat:=[p.b,p.rb,p.rr,p.hb,p.hr,p.lb]++(match p.lr with|none=>[]|some (r,_)=>[r])
theorem Jv7{o:Option (Nat × Nat)}{x:Nat}:x∈(match o with|none=>([]:List Nat)|some (r,_)=>[r])↔lpl o x:=by
 unfold lpl;cases o with
 |none=>simp
 |some q=>obtain⟨r,c⟩:=q;simp[eq_comm]
theorem BP.mem{p:BP}{x:Nat}:x∈p.pl↔x=p.b\/x=p.rb\/x=p.rr\/x=p.hb\/x=p.hr\/x=p.lb\/lpl p.lr x:=by
 unfold BP.pl;rw[FY,Jv7];simp only[AO,C9,or_false];constructor
 ·rintro((h|h|h|h|h|h)|h)<;>simp[h]
 ·rintro(h|h|h|h|h|h|h)<;>simp[h]
structure BP.Nd(p:BP):Prop where
 n1:p.b≠p.rb/\p.b≠p.rr/\p.b≠p.hb/\p.b≠p.hr/\p.b≠p.lb/\¬lpl p.lr p.b
 n2:p.rb≠p.rr/\p.rb≠p.hb/\p.rb≠p.hr/\p.rb≠p.lb/\¬lpl p.lr p.rb
 n3:p.rr≠p.hb/\p.rr≠p.hr/\p.rr≠p.lb/\¬lpl p.lr p.rr
 n4:p.hb≠p.hr/\p.hb≠p.lb/\¬lpl p.lr p.hb
 n5:p.hr≠p.lb/\¬lpl p.lr p.hr
 n6:¬lpl p.lr p.lb
structure Jz(fr:Bool)(w:JE)(c:J8)(p:BP)(B:Bun):Prop where
 hd:Blk fr w p.b #[.int .i64 B.n,.iface 120 (.pointer (some ⟨p.rb,0,none⟩)),.iface 123 (.pointer (some ⟨p.hb,0,none⟩)),.iface 126 (.pointer (some ⟨p.lb,0,none⟩))] 95
 reg:Ep fr w p.rb p.rr p.rc c.bits B.r
 hist:FW fr w p.hb p.hr p.hc c.ba c.nb c.cb B.h
 least:GL fr w p.lb p.lr c.K B.l
 nd:p.Nd
section
variable{fr:Bool}{w w':JE}{c:J8}{p:BP}{B:Bun}
theorem Jz.kept(h:Jz fr w c p B)(hh:∀x∈p.pl,w'.heap[x]?=w.heap[x]?):Jz fr w' c p B:=
 have m {x:Nat} (h:x=p.b\/x=p.rb\/x=p.rr\/x=p.hb\/x=p.hr\/x=p.lb\/lpl p.lr x):=hh x (BP.mem.2 h)
 ⟨h.hd.kept (m (.inl rfl)),h.reg.kept (m (.inr (.inl rfl))) (m (.inr (.inr (.inl rfl)))),h.hist.kept (m (.inr (.inr (.inr (.inl rfl))))) (m (.inr (.inr (.inr (.inr (.inl rfl)))))),
  h.least.kept (m (.inr (.inr (.inr (.inr (.inr (.inl rfl))))))) λx hx=>m (.inr (.inr (.inr (.inr (.inr (.inr hx)))))),h.nd⟩
theorem Jz.lt(h:Jz fr w c p B):∀x∈p.pl,x<w.heap.size:=λx hx=>by
 rcases BP.mem.1 hx with rfl|rfl|rfl|rfl|rfl|rfl|hx
 ·exact h.hd.lt
 ·exact h.reg.hd.lt
 ·exact h.reg.row.lt
 ·exact h.hist.hd.lt
 ·exact h.hist.row.lt
 ·exact h.least.hd.lt
 ·exact h.least.row.lt hx
theorem Jz.c0(h:Jz fr w c p B):w.cell? ⟨p.b,0,none⟩=some (.int .i64 B.n):=(h.hd.cell 0).trans rfl
theorem Jz.c1(h:Jz fr w c p B):w.cell? ⟨p.b,1,none⟩=some (.iface 120 (.pointer (some ⟨p.rb,0,none⟩))):=(h.hd.cell 1).trans rfl
theorem Jz.c2(h:Jz fr w c p B):w.cell? ⟨p.b,2,none⟩=some (.iface 123 (.pointer (some ⟨p.hb,0,none⟩))):=(h.hd.cell 2).trans rfl
theorem Jz.c3(h:Jz fr w c p B):w.cell? ⟨p.b,3,none⟩=some (.iface 126 (.pointer (some ⟨p.lb,0,none⟩))):=(h.hd.cell 3).trans rfl
end
structure VO(w:JE)(g:Nat)(arr:JC)(wr:JE):Prop where
 blk:Blk false wr g arr 95
 tch:Tch w.heap.size M0 w wr
 le:w.heap.size<=g
theorem VO.set{w wr w2:JE}{g:Nat}{arr:JC}(h:VO w g arr wr)(k:Tch wr.heap.size M0 wr w2)(i:Nat)(x:JJ):VO w g (arr.setIfInBounds i x) (w2.setCell ⟨g,i,none⟩ x):=
 ⟨(h.blk.kept (k.heap g h.blk.lt λx=>x)).set i x,(h.tch.then k h.tch.size λ_ _ h=>h).set (.inl h.le) x,h.le⟩
theorem VO.same{w wr w2:JE}{g:Nat}{arr:JC}(_h:VO w g arr wr)(k:Tch wr.heap.size M0 wr w2)(i:Nat)(x:JJ){y:Nat}(hy:y<wr.heap.size)(Aq:y≠g):(w2.setCell ⟨g,i,none⟩ x).heap[y]?=wr.heap[y]?:=
 (Jk _ _ Aq).trans (k.heap y hy λx=>x)
theorem Jv8 (b:Nat) (w:JE):(method 338 120 (.pointer (some ⟨b,0,none⟩)) "Add").run prog w=.ok (156,.pointer (some ⟨b,0,none⟩)) w:=by kernel_rfl
theorem Jra (b:Nat) (w:JE):(method 338 120 (.pointer (some ⟨b,0,none⟩)) "Copy").run prog w=.ok (157,.pointer (some ⟨b,0,none⟩)) w:=by kernel_rfl
theorem Jol (b:Nat) (w:JE):(method 338 120 (.pointer (some ⟨b,0,none⟩)) "Merge").run prog w=.ok (158,.pointer (some ⟨b,0,none⟩)) w:=by kernel_rfl
theorem Jk6 (b:Nat) (w:JE):(method 338 120 (.pointer (some ⟨b,0,none⟩)) "Numbers").run prog w=.ok (159,.pointer (some ⟨b,0,none⟩)) w:=by kernel_rfl
theorem Jv9 (b:Nat) (w:JE):(method 338 123 (.pointer (some ⟨b,0,none⟩)) "Add").run prog w=.ok (163,.pointer (some ⟨b,0,none⟩)) w:=by kernel_rfl
theorem Jrb (b:Nat) (w:JE):(method 338 123 (.pointer (some ⟨b,0,none⟩)) "Copy").run prog w=.ok (164,.pointer (some ⟨b,0,none⟩)) w:=by kernel_rfl
theorem Jom (b:Nat) (w:JE):(method 338 123 (.pointer (some ⟨b,0,none⟩)) "Merge").run prog w=.ok (165,.pointer (some ⟨b,0,none⟩)) w:=by kernel_rfl
theorem Jk7 (b:Nat) (w:JE):(method 338 123 (.pointer (some ⟨b,0,none⟩)) "Numbers").run prog w=.ok (166,.pointer (some ⟨b,0,none⟩)) w:=by kernel_rfl
theorem Jva (b:Nat) (w:JE):(method 338 126 (.pointer (some ⟨b,0,none⟩)) "Add").run prog w=.ok (170,.pointer (some ⟨b,0,none⟩)) w:=by kernel_rfl
theorem Jrc (b:Nat) (w:JE):(method 338 126 (.pointer (some ⟨b,0,none⟩)) "Copy").run prog w=.ok (171,.pointer (some ⟨b,0,none⟩)) w:=by kernel_rfl
theorem Jon (b:Nat) (w:JE):(method 338 126 (.pointer (some ⟨b,0,none⟩)) "Merge").run prog w=.ok (172,.pointer (some ⟨b,0,none⟩)) w:=by kernel_rfl
theorem Jk8 (b:Nat) (w:JE):(method 338 126 (.pointer (some ⟨b,0,none⟩)) "Numbers").run prog w=.ok (173,.pointer (some ⟨b,0,none⟩)) w:=by kernel_rfl
theorem ix0(a b c:JJ)(w:JE):(Instr.index 93 (.agg #[a,b,c]) (.int .i64 0)).run prog w=.ok a w:=by simp[Instr.index,go_sem,underlying93]
theorem ix1(a b c:JJ)(w:JE):(Instr.index 93 (.agg #[a,b,c]) (.int .i64 1)).run prog w=.ok b w:=by simp[Instr.index,go_sem,underlying93]
theorem ix2(a b c:JJ)(w:JE):(Instr.index 93 (.agg #[a,b,c]) (.int .i64 2)).run prog w=.ok c w:=by simp[Instr.index,go_sem,underlying93]
section
variable{fr:Bool}{w w':JE}{c:J8}{p:BP}{B:Bun}
theorem Jvb(h:Jz fr w c p B)(hok:Jl c B)(hc:Jw c) :
  Calls prog 94 #[.pointer (some ⟨p.b,0,none⟩)] w λe w'=>∃q:BP,e=.returned (.pointer (some ⟨q.b,0,none⟩))/\Jz false w' c q B/\(∀x∈q.pl,w.heap.size<=x)/\Tch w.heap.size M0 w w':=by
 have hlen:(2:Nat) ^ c.bits.toNat<=1000:=by
  have h1:=hc.b1;have h2:=hc.b2;have:c.bits=4\/c.bits=5\/c.bits=6:=by omega
  rcases this with e|e|e<;>rw[e]<;>decide
 have c0:=h.c0;have c1:=h.c1;have c2:=h.c2;have c3:=h.c3;have hb:=h.hd.lt;have x0:=ix0 (.iface 120 (.pointer (some ⟨p.rb,0,none⟩))) (.iface 123 (.pointer (some ⟨p.hb,0,none⟩))) (.iface 126 (.pointer (some ⟨p.lb,0,none⟩)));have x1:=ix1 (.iface 120 (.pointer (some ⟨p.rb,0,none⟩))) (.iface 123 (.pointer (some ⟨p.hb,0,none⟩))) (.iface 126 (.pointer (some ⟨p.lb,0,none⟩)));have x2:=ix2 (.iface 120 (.pointer (some ⟨p.rb,0,none⟩))) (.iface 123 (.pointer (some ⟨p.hb,0,none⟩))) (.iface 126 (.pointer (some ⟨p.lb,0,none⟩)));have y0:=Jra p.rb;have y1:=Jrb p.hb;have y2:=Jrc p.lb;have Yb:VO w w.heap.size #[.int .i64 B.n,.nilIface,.nilIface,.nilIface] (w.alloc (.cells #[.int .i64 B.n,.nilIface,.nilIface,.nilIface] 95)):=⟨⟨_,Ja _,λ_=>rfl⟩,Tch.refl.alloc (Ad _) _,Ad _⟩;have V7:Jz fr (w.alloc (.cells #[.int .i64 B.n,.nilIface,.nilIface,.nilIface] 95)) c p B:=h.kept λx hx=>J7 _ (h.lt x hx);have Ac:∀x∈p.pl,x<w.heap.size:=h.lt;obtain⟨rr,cc,WC⟩:∃rr cc,p.lr=some (rr,cc):=by
  have:=h.least.row;cases hp:p.lr with
  |none=>rw[hp]at this;exact absurd this hok.lne
  |some q=>exact⟨q.1,q.2,rfl⟩
 go_enter func94,ntmps94
 go_wp2;refine wp_loop_rounds 4 ?_;rw[rounds_succ];go_wp2
 go_region_with (go_at_call 157;refine(Jv2 (w:=(w.alloc (.cells #[.int .i64 B.n,.nilIface,.nilIface,.nilIface] 95)).drew) (V7.reg.kept rfl rfl) (by rw[hok.r];have:=hc.b2;have:=hc.b1;exact hlen)).mono ?_;rintro e w1 ⟨b1,r1,k1,rfl,FQ,O3,YA,Jty,A8⟩;have f1:=(Yb.blk.kept (A8.heap w.heap.size Yb.blk.lt λx=>x)).cell 1;have f2:=(Yb.blk.kept (A8.heap w.heap.size Yb.blk.lt λx=>x)).frozen 1)
 have Gw:VO w w.heap.size #[.int .i64 B.n,.iface 120 (.pointer (some ⟨b1,0,none⟩)),.nilIface,.nilIface] (w1.setCell ⟨w.heap.size,1,none⟩ (.iface 120 (.pointer (some ⟨b1,0,none⟩)))):=Yb.set A8.Ll 1 _;have Jgx:Jz fr (w1.setCell ⟨w.heap.size,1,none⟩ (.iface 120 (.pointer (some ⟨b1,0,none⟩)))) c p B:=V7.kept λx hx=>Yb.same A8.Ll 1 _ (V7.lt x hx) (by have:=Ac x hx;omega);have z0:(w.alloc (.cells #[.int .i64 B.n,.nilIface,.nilIface,.nilIface] 95)).drew.heap.size=w.heap.size+1:=size_alloc _;have Jcp:Ep false (w1.setCell ⟨w.heap.size,1,none⟩ (.iface 120 (.pointer (some ⟨b1,0,none⟩)))) b1 r1 k1 c.bits B.r:=Jty.kept (Jk _ _ (by show b1≠w.heap.size;omega)) (Jk _ _ (by show r1≠w.heap.size;omega));clear f1 f2 Yb Jty A8 V7;generalize w1.setCell ⟨w.heap.size,1,none⟩ (.iface 120 (.pointer (some ⟨b1,0,none⟩)))=W1 at *;have l1:=Jcp.hd.lt;have l1':=Jcp.row.lt;go_wp2;rw[rounds_succ];go_wp2
 go_region_with (go_at_call 164;refine(Jr3 (w:=W1.drew) (Jgx.hist.kept rfl rfl) (by rw[hok.h];have:=hc.nb;omega)).mono ?_;rintro e w2 ⟨b2,r2,k2,rfl,D8,BU,Ir,Jtz,Bc⟩;have f1:=(Gw.blk.kept (Bc.heap w.heap.size Gw.blk.lt λx=>x)).cell 2;have f2:=(Gw.blk.kept (Bc.heap w.heap.size Gw.blk.lt λx=>x)).frozen 2)
 have G5:VO w w.heap.size #[.int .i64 B.n,.iface 120 (.pointer (some ⟨b1,0,none⟩)),.iface 123 (.pointer (some ⟨b2,0,none⟩)),.nilIface] (w2.setCell ⟨w.heap.size,2,none⟩ (.iface 123 (.pointer (some ⟨b2,0,none⟩)))):=Gw.set Bc.Ll 2 _;have Ju0:Jz fr (w2.setCell ⟨w.heap.size,2,none⟩ (.iface 123 (.pointer (some ⟨b2,0,none⟩)))) c p B:=Jgx.kept λx hx=>Gw.same Bc.Ll 2 _ (Jgx.lt x hx) (by have:=Ac x hx;omega);have z1:W1.drew.heap.size=W1.heap.size:=rfl;have yX:Ep false (w2.setCell ⟨w.heap.size,2,none⟩ (.iface 123 (.pointer (some ⟨b2,0,none⟩)))) b1 r1 k1 c.bits B.r:=Jcp.kept (Gw.same Bc.Ll 2 _ l1 (by omega)) (Gw.same Bc.Ll 2 _ l1' (by omega));have Jcq:FW false (w2.setCell ⟨w.heap.size,2,none⟩ (.iface 123 (.pointer (some ⟨b2,0,none⟩)))) b2 r2 k2 c.ba c.nb c.cb B.h:=Jtz.kept (Jk _ _ (by show b2≠w.heap.size;omega)) (Jk _ _ (by show r2≠w.heap.size;omega));clear f1 f2 Gw Jcp Bc Jgx Jtz;generalize w2.setCell ⟨w.heap.size,2,none⟩ (.iface 123 (.pointer (some ⟨b2,0,none⟩)))=W2 at *;have l2:=Jcq.hd.lt;have l2':=Jcq.row.lt;have l3:=yX.hd.lt;have l3':=yX.row.lt;have hlw:GL fr W2.drew p.lb (some (rr,cc)) c.K B.l:=by have:=Ju0.least;rw[WC]at this;exact this.kept rfl λ_ _=>rfl
 go_wp2;rw[rounds_succ];go_wp2
 go_region_with (go_at_call 171;refine(Jok (r:=rr) (c:=cc) (w:=W2.drew) hlw (by have:=hok.lK;have:=hc.k2;omega)).mono ?_;rintro e w3 ⟨b3,r3,k3,rfl,Hq,IJ,WW,Joo,DR⟩;have f1:=(G5.blk.kept (DR.heap w.heap.size G5.blk.lt λx=>x)).cell 3;have f2:=(G5.blk.kept (DR.heap w.heap.size G5.blk.lt λx=>x)).frozen 3)
 have Jwr:VO w w.heap.size #[.int .i64 B.n,.iface 120 (.pointer (some ⟨b1,0,none⟩)),.iface 123 (.pointer (some ⟨b2,0,none⟩)),.iface 126 (.pointer (some ⟨b3,0,none⟩))] (w3.setCell ⟨w.heap.size,3,none⟩ (.iface 126 (.pointer (some ⟨b3,0,none⟩)))):=G5.set DR.Ll 3 _;have z2:W2.drew.heap.size=W2.heap.size:=rfl;have J030:Ep false (w3.setCell ⟨w.heap.size,3,none⟩ (.iface 126 (.pointer (some ⟨b3,0,none⟩)))) b1 r1 k1 c.bits B.r:=yX.kept (G5.same DR.Ll 3 _ l3 (by omega)) (G5.same DR.Ll 3 _ l3' (by omega));have Jws:FW false (w3.setCell ⟨w.heap.size,3,none⟩ (.iface 126 (.pointer (some ⟨b3,0,none⟩)))) b2 r2 k2 c.ba c.nb c.cb B.h:=Jcq.kept (G5.same DR.Ll 3 _ l2 (by omega)) (G5.same DR.Ll 3 _ l2' (by omega));have Jvc:GL false (w3.setCell ⟨w.heap.size,3,none⟩ (.iface 126 (.pointer (some ⟨b3,0,none⟩)))) b3 (some (r3,k3)) c.K B.l:=Joo.kept (Jk _ _ (by show b3≠w.heap.size;omega)) λx hx=>by obtain⟨_,hx⟩:=hx;cases hx;exact Jk _ _ (by show r3≠w.heap.size;omega)
 clear f1 f2 G5 yX DR Ju0 Jcq Joo;generalize w3.setCell ⟨w.heap.size,3,none⟩ (.iface 126 (.pointer (some ⟨b3,0,none⟩)))=W3 at *;go_wp2;rw[rounds_succ];go_wp2;go_ret;refine⟨⟨w.heap.size,b1,r1,k1,b2,r2,k2,b3,some (r3,k3)⟩,rfl,⟨Jwr.blk,J030,Jws,Jvc,?_⟩,λx hx=>?_,Jwr.tch⟩
 ·have q:∀x:Nat,lpl (some (r3,k3)) x↔x=r3:=λx=>⟨λ⟨_,h⟩=>by cases h;rfl,λh=>⟨k3,by rw[h]⟩⟩;refine⟨?_,?_,?_,?_,?_,?_⟩<;>simp only[q]<;>(try refine⟨?_,?_⟩)<;>omega
 ·have q:∀x:Nat,lpl (some (r3,k3)) x↔x=r3:=λx=>⟨λ⟨_,h⟩=>by cases h;rfl,λh=>⟨k3,by rw[h]⟩⟩;rw[BP.mem]at hx;simp only[q]at hx;omega
end
theorem J031 (b:Nat) (w:JE):(nilAhead 338 120 (.pointer (some ⟨b,0,none⟩)) "Merge").run prog w=.ok (some false) w:=by kernel_rfl
theorem J032 (b:Nat) (w:JE):(nilAhead 338 123 (.pointer (some ⟨b,0,none⟩)) "Merge").run prog w=.ok (some false) w:=by kernel_rfl
theorem J033 (b:Nat) (w:JE):(nilAhead 338 126 (.pointer (some ⟨b,0,none⟩)) "Merge").run prog w=.ok (some false) w:=by kernel_rfl
section
variable{fr:Bool}{w wr w2:JE}{c:J8}{p q:BP}{B B2:Bun}
structure HY(fr:Bool)(w:JE)(c:J8)(p q:BP)(B B2:Bun)(wr:JE):Prop where
 l:Jz false wr c p B
 r:Jz fr wr c q B2
 dis:∀x∈p.pl,x∉q.pl
 tch:Tch w.heap.size (λx=>x∈p.pl) w wr
 lt:∀x∈p.pl,x<w.heap.size
theorem HY.right(h:HY fr w c p q B B2 wr){y:Nat}(hy:y∈p.pl)(k:Tch wr.heap.size (λx=>x=y) wr w2):Jz fr w2 c q B2:=
 h.r.kept λx hx=>k.heap x (h.r.lt x hx) λe=>h.dis y hy (e▸hx)
theorem HY.touch(h:HY fr w c p q B B2 wr){y:Nat}(hy:y∈p.pl)(k:Tch wr.heap.size (λx=>x=y) wr w2):Tch w.heap.size (λx=>x∈p.pl) w w2:=
 h.tch.then k h.tch.size λ_ _ e=>e▸hy
theorem HY.reg(h:HY fr w c p q B B2 wr){rs:JD}(hr:Ep false w2 p.rb p.rr p.rc c.bits rs)(k:Tch wr.heap.size (λx=>x=p.rr) wr w2):HY fr w c p q { B with r:=rs } B2 w2:=by have hy:p.rr∈p.pl:=BP.mem.2 (.inr (.inr (.inl rfl)));have nd:=h.l.nd;have same:∀x,x∈p.pl->x≠p.rr->w2.heap[x]?=wr.heap[x]?:=λx hx Aq=>k.heap x (h.l.lt x hx) Aq;have m {x:Nat} (h:x=p.b\/x=p.rb\/x=p.rr\/x=p.hb\/x=p.hr\/x=p.lb\/lpl p.lr x):x∈p.pl:=BP.mem.2 h;refine⟨⟨h.l.hd.kept (same _ (m (by simp)) nd.n1.2.1),hr,h.l.hist.kept (same _ (m (by simp)) (Ne.symm nd.n3.1)) (same _ (m (by simp)) (Ne.symm nd.n3.2.1)),h.l.least.kept (same _ (m (by simp)) (Ne.symm nd.n3.2.2.1)) λx hx=>same _ (m (by simp[hx])) λe=>nd.n3.2.2.2 (e▸hx),nd⟩,h.right hy k,h.dis,h.touch hy k,h.lt⟩
theorem HY.hist(h:HY fr w c p q B B2 wr){rs:JD}(hr:FW false w2 p.hb p.hr p.hc c.ba c.nb c.cb rs)(k:Tch wr.heap.size (λx=>x=p.hr) wr w2):HY fr w c p q { B with h:=rs } B2 w2:=by have hy:p.hr∈p.pl:=BP.mem.2 (by simp);have nd:=h.l.nd;have same:∀x,x∈p.pl->x≠p.hr->w2.heap[x]?=wr.heap[x]?:=λx hx Aq=>k.heap x (h.l.lt x hx) Aq;have m {x:Nat} (h:x=p.b\/x=p.rb\/x=p.rr\/x=p.hb\/x=p.hr\/x=p.lb\/lpl p.lr x):x∈p.pl:=BP.mem.2 h;refine⟨⟨h.l.hd.kept (same _ (m (by simp)) nd.n1.2.2.2.1),h.l.reg.kept (same _ (m (by simp)) nd.n2.2.2.1) (same _ (m (by simp)) nd.n3.2.1),hr,h.l.least.kept (same _ (m (by simp)) (Ne.symm nd.n5.1)) λx hx=>same _ (m (by simp[hx])) λe=>nd.n5.2 (e▸hx),nd⟩,h.right hy k,h.dis,h.touch hy k,h.lt⟩
theorem HY.num(h:HY fr w c p q B B2 wr)(n:Int):HY fr w c p q { B with n:=n } B2 (wr.setCell ⟨p.b,0,none⟩ (.int .i64 n)):=by
 have hy:p.b∈p.pl:=BP.mem.2 (by simp);have nd:=h.l.nd;have same:∀x,x≠p.b->(wr.setCell ⟨p.b,0,none⟩ (.int .i64 n)).heap[x]?=wr.heap[x]?:=λx Aq=>Jk _ _ Aq;have k:Tch wr.heap.size (λx=>x=p.b) wr (wr.setCell ⟨p.b,0,none⟩ (.int .i64 n)):=Tch.refl.set (.inr (show(λx=>x=p.b) p.b from rfl)) _;exact⟨⟨h.l.hd.set 0 _,h.l.reg.kept (same _ (Ne.symm nd.n1.1)) (same _ (Ne.symm nd.n1.2.1)),h.l.hist.kept (same _ (Ne.symm nd.n1.2.2.1)) (same _ (Ne.symm nd.n1.2.2.2.1)),h.l.least.kept (same _ (Ne.symm nd.n1.2.2.2.2.1)) λx hx=>same _ λe=>nd.n1.2.2.2.2.2 (e▸hx),nd⟩,h.right hy k,h.dis,h.touch hy k,h.lt⟩
theorem HY.drew(h:HY fr w c p q B B2 wr):HY fr w c p q B B2 wr.drew:=⟨h.l.kept λ_ _=>rfl,h.r.kept λ_ _=>rfl,h.dis,h.tch.drew,h.lt⟩
def VH(w:JE)(c:J8)(p:BP)(B:Bun)(w':JE):Prop:=
 ∃p':BP,p'.b=p.b/\Jz false w' c p' B/\(∀x∈p'.pl,x∈p.pl\/w.heap.size<=x)/\Tch w.heap.size (λx=>x∈p.pl) w w'
theorem HY.Jop(hl:Jz false wr c p B)(htc:Tch w.heap.size (λx=>x∈p.pl) w wr){ls:JD}(hr:VE wr p.lb p.lr c.K ls w2):VH w c p { B with l:=ls } w2:=by
 obtain⟨PE,h1,h2,k⟩:=hr;have nd:=hl.nd;have m {x:Nat} (h:x=p.b\/x=p.rb\/x=p.rr\/x=p.hb\/x=p.hr\/x=p.lb\/lpl p.lr x):x∈p.pl:=BP.mem.2 h;have same:∀x,x∈p.pl->x≠p.lb->¬lpl p.lr x->w2.heap[x]?=wr.heap[x]?:=λx hx Aq hn=>k.heap x (hl.lt x hx) λe=>e.elim Aq hn;have fresh:∀x,x∈p.pl->¬lpl p.lr x->¬lpl PE x:=λx hx hn he=>by
  rcases h2 x he with h3|h3
  ·exact hn h3
  ·have:=hl.lt x hx;omega
 refine⟨{ p with lr:=PE },rfl,⟨hl.hd.kept (same _ (m (by simp)) nd.n1.2.2.2.2.1 nd.n1.2.2.2.2.2),hl.reg.kept (same _ (m (by simp)) nd.n2.2.2.2.1 nd.n2.2.2.2.2) (same _ (m (by simp)) nd.n3.2.2.1 nd.n3.2.2.2),hl.hist.kept (same _ (m (by simp)) nd.n4.2.1 nd.n4.2.2) (same _ (m (by simp)) nd.n5.1 nd.n5.2),h1,?_⟩,λx hx=>?_,htc.then k htc.size λx _ e=>?_⟩
 ·exact⟨⟨nd.n1.1,nd.n1.2.1,nd.n1.2.2.1,nd.n1.2.2.2.1,nd.n1.2.2.2.2.1,fresh _ (m (by simp)) nd.n1.2.2.2.2.2⟩,⟨nd.n2.1,nd.n2.2.1,nd.n2.2.2.1,nd.n2.2.2.2.1,fresh _ (m (by simp)) nd.n2.2.2.2.2⟩,⟨nd.n3.1,nd.n3.2.1,nd.n3.2.2.1,fresh _ (m (by simp)) nd.n3.2.2.2⟩,⟨nd.n4.1,nd.n4.2.1,fresh _ (m (by simp)) nd.n4.2.2⟩,⟨nd.n5.1,fresh _ (m (by simp)) nd.n5.2⟩,fresh _ (m (by simp)) nd.n6⟩
 ·rcases BP.mem.1 hx with e|e|e|e|e|e|e
  ·exact .inl (m (.inl e))
  ·exact .inl (m (.inr (.inl e)))
  ·exact .inl (m (.inr (.inr (.inl e))))
  ·exact .inl (m (.inr (.inr (.inr (.inl e)))))
  ·exact .inl (m (.inr (.inr (.inr (.inr (.inl e))))))
  ·exact .inl (m (.inr (.inr (.inr (.inr (.inr (.inl e)))))))
  ·rcases h2 x e with h3|h3
   ·exact .inl (m (.inr (.inr (.inr (.inr (.inr (.inr h3)))))))
   ·exact .inr (BL htc.size h3)
 ·rcases e with rfl|e
  ·exact m (by simp)
  ·exact m (by simp[e])
theorem HY.least(h:HY fr w c p q B B2 wr){ls:JD}(hr:VE wr p.lb p.lr c.K ls w2):VH w c p { B with l:=ls } w2:=HY.Jop h.l h.tch hr
theorem Jrd(h:Jz false w c p B)(h2:Jz fr w c q B2)(hd:∀x∈p.pl,x∉q.pl)(hok:Jl c B)(Oc:Jl c B2)(hc:Jw c) :
  Calls prog 93 #[.pointer (some ⟨p.b,0,none⟩),.pointer (some ⟨q.b,0,none⟩)] w λe w'=>(∃v,e=.returned v)/\VH w c p (mg c B B2) w':=by
 have hlen:(2:Nat) ^ c.bits.toNat<=1000:=by
  have h1:=hc.b1;have h2:=hc.b2;have:c.bits=4\/c.bits=5\/c.bits=6:=by omega
  rcases this with e|e|e<;>rw[e]<;>decide
 have c0:=h.c0;have c1:=h.c1;have c2:=h.c2;have c3:=h.c3;have cf:=h.hd.frozen 0;have d0:=h2.c0;have d1:=h2.c1;have d2:=h2.c2;have d3:=h2.c3;have hb:=h.hd.lt;have D8:=h2.hd.lt;have Aq:q.b≠p.b:=λe=>hd p.b (BP.mem.2 (by simp)) (e▸BP.mem.2 (by simp));have x0:=ix0 (.iface 120 (.pointer (some ⟨p.rb,0,none⟩))) (.iface 123 (.pointer (some ⟨p.hb,0,none⟩))) (.iface 126 (.pointer (some ⟨p.lb,0,none⟩)));have x1:=ix1 (.iface 120 (.pointer (some ⟨p.rb,0,none⟩))) (.iface 123 (.pointer (some ⟨p.hb,0,none⟩))) (.iface 126 (.pointer (some ⟨p.lb,0,none⟩)));have x2:=ix2 (.iface 120 (.pointer (some ⟨p.rb,0,none⟩))) (.iface 123 (.pointer (some ⟨p.hb,0,none⟩))) (.iface 126 (.pointer (some ⟨p.lb,0,none⟩)));have y0:=Jol p.rb;have y1:=Jom p.hb;have y2:=Jon p.lb;have n0:=J031 p.rb;have n1:=J032 p.hb;have n2:=J033 p.lb;obtain⟨rr,cc,WC⟩:∃rr cc,q.lr=some (rr,cc):=by
  have:=h2.least.row;cases hp:q.lr with
  |none=>rw[hp]at this;exact absurd this Oc.lne
  |some q=>exact⟨q.1,q.2,rfl⟩
 have dlb:∀x∈p.pl,q.lb≠x:=λx hx e=>hd x hx (e▸BP.mem.2 (by simp));have dlr:∀x∈p.pl,rr≠x:=λx hx e=>hd x hx (e▸BP.mem.2 (.inr (.inr (.inr (.inr (.inr (.inr ⟨cc,WC⟩)))))));have hm:HY fr w c p q B B2 w:=⟨h,h2,hd,.refl,h.lt⟩
 go_enter func93,ntmps93
 go_wp2
 go_region
 have N7:HY fr w c p q { B with n:=wrap64 (B.n+B2.n) } B2 (w.setCell ⟨p.b,0,none⟩ (.int .i64 (wrap64 (B.n+B2.n)))).drew:=(hm.num _).drew;clear c0 c1 c2 c3 cf d0 d1 d2 d3 hm;generalize(w.setCell ⟨p.b,0,none⟩ (.int .i64 (wrap64 (B.n+B2.n)))).drew=W0 at *;have c1:=N7.l.c1;have c2:=N7.l.c2;have c3:=N7.l.c3;have d1:=N7.r.c1;go_wp2;refine wp_loop_rounds 4 ?_;rw[rounds_succ];go_wp2
 go_region_with (go_at_call 158;refine(Jr2 (w:=W0.drew) N7.drew.l.reg N7.drew.r.reg (by rw[show({ B with n:=wrap64 (B.n+B2.n) }:Bun).r=B.r from rfl,hok.r,Oc.r]) (by rw[show({ B with n:=wrap64 (B.n+B2.n) }:Bun).r=B.r from rfl,hok.r];exact hlen) h.nd.n2.1 (λe=>hd p.rr (BP.mem.2 (by simp)) (e▸BP.mem.2 (by simp))) (λe=>hd p.rr (BP.mem.2 (by simp)) (e▸BP.mem.2 (by simp)))).mono ?_;rintro e w1 ⟨⟨v1,rfl⟩,O3,A8⟩)
 all_goals have He:=N7.drew.reg O3 A8
 all_goals clear c1 c2 c3 d1 O3 A8 N7
 all_goals have d2:=He.r.c2
 all_goals go_wp2
 all_goals rw[rounds_succ]
 all_goals go_wp2
 all_goals go_region_with (go_at_call 165;refine(Joc (w:=w1.drew) He.drew.l.hist He.drew.r.hist (by show B.h.length=B2.h.length;rw[hok.h,Oc.h]) (by show B.h.length<=1000;rw[hok.h];have:=hc.nb;omega) h.nd.n4.1 (λe=>hd p.hr (BP.mem.2 (by simp)) (e▸BP.mem.2 (by simp))) (λe=>hd p.hr (BP.mem.2 (by simp)) (e▸BP.mem.2 (by simp)))).mono ?_;rintro e w2 ⟨⟨v2,rfl⟩,BU,Bc⟩)
 all_goals have NY:=He.drew.hist BU Bc
 all_goals clear d2 BU Bc He
 all_goals have d3:=NY.r.c3
 all_goals go_wp2
 all_goals rw[rounds_succ]
 all_goals go_wp2
 all_goals have hq:=NY.drew.r.least
 all_goals rw[WC]at hq
 all_goals go_region_with (go_at_call 172;refine(Jlx (w:=w2.drew) NY.drew.l.least hq h.nd.n6 ⟨dlb p.lb (by simp[BP.mem]),λe=>dlb q.lb (BP.mem.2 (.inr (.inr (.inr (.inr (.inr (.inr e))))))) rfl⟩ ⟨dlr p.lb (by simp[BP.mem]),λe=>dlr rr (BP.mem.2 (.inr (.inr (.inr (.inr (.inr (.inr e))))))) rfl⟩ hok.l hok.lK (by have:=hc.k2;omega) (by have:=Oc.lK;have:=hc.k2;omega)).mono ?_;rintro e w3 ⟨⟨v3,rfl⟩,IJ⟩)
 all_goals have aZ:=NY.drew.least IJ
 all_goals clear d3 IJ NY hq
 all_goals go_wp2
 all_goals rw[rounds_succ]
 all_goals go_wp2
 all_goals go_end0
 all_goals exact⟨⟨_,rfl⟩,aZ⟩
end
structure Qp(c:J8)(B:Bun):Prop where
 r:B.r.length=2 ^ c.bits.toNat
 r8:∀x∈B.r,0<=x/\x<=255
 h:B.h.length=c.nb+1
 h64:∀x∈B.h,I64 x
 l:EM B.l
 lK:(B.l.length:Int)<=c.K
 l64:∀x∈B.l,0<=x/\x<=18446744073709551615
 n64:I64 B.n
theorem Jl.zero{c:J8}{B:Bun}(h:Jl c B):Qp c B:=⟨h.r,h.r8,h.h,h.h64,h.l,h.lK,h.l64,h.n64⟩
def QJ(c:J8)(bs:JD)(B:Bun)(x v:Int):Bun:=⟨wrap64 (B.n+1),Qb c.bits B.r x,V4 bs B.h v,Lj c.K B.l x⟩
theorem mem_set{l:JD}{i:Nat}{a z:Int}(h:z∈l.set i a):z=a\/z∈l:=by
 rcases List.mem_or_eq_of_mem_set h with h|h
 ·exact .inr h
 ·exact .inl h
theorem Qp.add{c:J8}{bs:JD}{B:Bun}(h:Qp c B)(hc:Jw c)(Dx:bs.length=c.nb){x:Int}(hx:0<=x/\x<=18446744073709551615)(v:Int):Jl c (QJ c bs B x v):=by
 have ha:=sW h.l h.lK x;have hr:=Jkv (bits:=c.bits) (x:=x) ⟨hc.b1,hc.b2⟩;have he:=rQ h.l h.lK x;refine⟨J95.trans h.r,λz hz=>?_,J7u.trans h.h,λz hz=>?_,ha.1,ha.2,λz hz=>?_,J6h _,?_⟩
 ·rcases mem_set hz with rfl|hz
  ·have:∀z:Int,z=B.r.getD (KX c.bits x) 0->0<=z/\z<=255:=λz hz=>by
    rw[CP]at hz;cases hq:B.r[KX c.bits x]? with
    |none=>rw[hq]at hz;simp at hz;omega
    |some y=>rw[hq]at hz;simp at hz;subst hz;exact h.r8 _ (NK hq)
   have:=this _ rfl;omega
  ·exact h.r8 z hz
 ·rcases mem_set hz with rfl|hz
  ·exact J6h _
  ·exact h.h64 z hz
 ·have Ol:z∈Lj c.K B.l x:=hz;rw[he]at Ol;rcases YO.1 (List.mem_of_mem_take Ol)with rfl|h2
  ·exact hx
  ·exact h.l64 z h2
 ·show Lj c.K B.l x≠[];rw[he];have h1:x∈Gn x B.l:=YO.2 (.inl rfl);have h2:0<(Gn x B.l).length:=List.length_pos_iff.2 (List.ne_nil_of_mem h1);have:=hc.k1;intro e;have:=congrArg List.length e;simp only[List.length_take,List.length_nil]at this;omega
section
variable{fr:Bool}{w wr w2:JE}{c:J8}{p q:BP}{B:Bun}{bs:JD}{ba:JI}
theorem QT.kept{w w':JE}(h:QT fr w ba bs)(hh:∀bb,ba=some ⟨bb,0,none⟩->bb<w.heap.size->w'.heap[bb]?=w.heap[bb]?):QT fr w' ba bs:=by
 rcases h with h|⟨bb,cap,rfl,h⟩
 ·exact .inl h
 ·exact .inr ⟨bb,cap,rfl,h.kept (hh bb rfl h.lt)⟩
structure Hw(w:JE)(c:J8)(p:BP)(ba:JI)(bs:JD)(B:Bun)(wr:JE):Prop where
 l:Jz false wr c p B
 r:QT false wr ba bs
 dis:∀x∈p.pl,ba≠some ⟨x,0,none⟩
 tch:Tch w.heap.size (λx=>x∈p.pl) w wr
 lt:∀x∈p.pl,x<w.heap.size
theorem Hw.right(h:Hw w c p ba bs B wr){y:Nat}(hy:y∈p.pl)(k:Tch wr.heap.size (λx=>x=y) wr w2):QT false w2 ba bs:=
 h.r.kept λx hx hl=>k.heap x hl λe=>h.dis y hy (e▸hx)
theorem Hw.touch(h:Hw w c p ba bs B wr){y:Nat}(hy:y∈p.pl)(k:Tch wr.heap.size (λx=>x=y) wr w2):Tch w.heap.size (λx=>x∈p.pl) w w2:=
 h.tch.then k h.tch.size λ_ _ e=>e▸hy
theorem Hw.reg(h:Hw w c p ba bs B wr){rs:JD}(hr:Ep false w2 p.rb p.rr p.rc c.bits rs)(k:Tch wr.heap.size (λx=>x=p.rr) wr w2):Hw w c p ba bs { B with r:=rs } w2:=by have hy:p.rr∈p.pl:=BP.mem.2 (.inr (.inr (.inl rfl)));have nd:=h.l.nd;have same:∀x,x∈p.pl->x≠p.rr->w2.heap[x]?=wr.heap[x]?:=λx hx Aq=>k.heap x (h.l.lt x hx) Aq;have m {x:Nat} (h:x=p.b\/x=p.rb\/x=p.rr\/x=p.hb\/x=p.hr\/x=p.lb\/lpl p.lr x):x∈p.pl:=BP.mem.2 h;refine⟨⟨h.l.hd.kept (same _ (m (by simp)) nd.n1.2.1),hr,h.l.hist.kept (same _ (m (by simp)) (Ne.symm nd.n3.1)) (same _ (m (by simp)) (Ne.symm nd.n3.2.1)),h.l.least.kept (same _ (m (by simp)) (Ne.symm nd.n3.2.2.1)) λx hx=>same _ (m (by simp[hx])) λe=>nd.n3.2.2.2 (e▸hx),nd⟩,h.right hy k,h.dis,h.touch hy k,h.lt⟩
theorem Hw.hist(h:Hw w c p ba bs B wr){rs:JD}(hr:FW false w2 p.hb p.hr p.hc c.ba c.nb c.cb rs)(k:Tch wr.heap.size (λx=>x=p.hr) wr w2):Hw w c p ba bs { B with h:=rs } w2:=by have hy:p.hr∈p.pl:=BP.mem.2 (by simp);have nd:=h.l.nd;have same:∀x,x∈p.pl->x≠p.hr->w2.heap[x]?=wr.heap[x]?:=λx hx Aq=>k.heap x (h.l.lt x hx) Aq;have m {x:Nat} (h:x=p.b\/x=p.rb\/x=p.rr\/x=p.hb\/x=p.hr\/x=p.lb\/lpl p.lr x):x∈p.pl:=BP.mem.2 h;refine⟨⟨h.l.hd.kept (same _ (m (by simp)) nd.n1.2.2.2.1),h.l.reg.kept (same _ (m (by simp)) nd.n2.2.2.1) (same _ (m (by simp)) nd.n3.2.1),hr,h.l.least.kept (same _ (m (by simp)) (Ne.symm nd.n5.1)) λx hx=>same _ (m (by simp[hx])) λe=>nd.n5.2 (e▸hx),nd⟩,h.right hy k,h.dis,h.touch hy k,h.lt⟩
theorem Hw.num(h:Hw w c p ba bs B wr)(n:Int):Hw w c p ba bs { B with n:=n } (wr.setCell ⟨p.b,0,none⟩ (.int .i64 n)):=by
 have hy:p.b∈p.pl:=BP.mem.2 (by simp);have nd:=h.l.nd;have same:∀x,x≠p.b->(wr.setCell ⟨p.b,0,none⟩ (.int .i64 n)).heap[x]?=wr.heap[x]?:=λx Aq=>Jk _ _ Aq;have k:Tch wr.heap.size (λx=>x=p.b) wr (wr.setCell ⟨p.b,0,none⟩ (.int .i64 n)):=Tch.refl.set (.inr (show(λx=>x=p.b) p.b from rfl)) _;exact⟨⟨h.l.hd.set 0 _,h.l.reg.kept (same _ (Ne.symm nd.n1.1)) (same _ (Ne.symm nd.n1.2.1)),h.l.hist.kept (same _ (Ne.symm nd.n1.2.2.1)) (same _ (Ne.symm nd.n1.2.2.2.1)),h.l.least.kept (same _ (Ne.symm nd.n1.2.2.2.2.1)) λx hx=>same _ λe=>nd.n1.2.2.2.2.2 (e▸hx),nd⟩,h.right hy k,h.dis,h.touch hy k,h.lt⟩
theorem Hw.least(h:Hw w c p ba bs B wr){ls:JD}(hr:VE wr p.lb p.lr c.K ls w2):VH w c p { B with l:=ls } w2:=HY.Jop h.l h.tch hr
theorem Jwt(h:Jz false w c p B)(hB:QT false w c.ba bs)(hd:∀x∈p.pl,c.ba≠some ⟨x,0,none⟩)(hok:Qp c B)(hc:Jw c)(Dx:bs.length=c.nb)(KJ:bs.Pairwise (· < ·)){x:Int}(hx:0<=x/\x<=18446744073709551615)(v:Int) :
  Calls prog 28 #[.pointer (some ⟨p.b,0,none⟩),.int .u64 x,.int .i64 v] w λe w'=>(∃v,e=.returned v)/\VH w c p (QJ c bs B x v) w':=by
 have c0:=h.c0;have c1:=h.c1;have c2:=h.c2;have c3:=h.c3;have cf:=h.hd.frozen 0;have x0:=ix0 (.iface 120 (.pointer (some ⟨p.rb,0,none⟩))) (.iface 123 (.pointer (some ⟨p.hb,0,none⟩))) (.iface 126 (.pointer (some ⟨p.lb,0,none⟩)));have x1:=ix1 (.iface 120 (.pointer (some ⟨p.rb,0,none⟩))) (.iface 123 (.pointer (some ⟨p.hb,0,none⟩))) (.iface 126 (.pointer (some ⟨p.lb,0,none⟩)));have x2:=ix2 (.iface 120 (.pointer (some ⟨p.rb,0,none⟩))) (.iface 123 (.pointer (some ⟨p.hb,0,none⟩))) (.iface 126 (.pointer (some ⟨p.lb,0,none⟩)));have y0:=Jv8 p.rb;have y1:=Jv9 p.hb;have y2:=Jva p.lb;have hm:Hw w c p c.ba bs B w:=⟨h,hB,hd,.refl,h.lt⟩;have N7:=hm.num (wrap64 (B.n+1));have BX:=hc.nb;have s1:∀wr w1,Hw w c p c.ba bs { B with n:=wrap64 (B.n+1) } wr->Ep false w1 p.rb p.rr p.rc c.bits (Qb c.bits B.r x)->Tch wr.heap.size (λy=>y=p.rr) wr w1->Hw w c p c.ba bs { B with n:=wrap64 (B.n+1),r:=Qb c.bits B.r x } w1:=λwr w1 h h1 h2=>h.reg h1 h2;have t1:Hid (∀wr,Hw w c p c.ba bs { B with n:=wrap64 (B.n+1) } wr->Calls prog 156 #[.pointer (some ⟨p.rb,0,none⟩),.int .u64 x,.int .i64 v] wr λe w'=>(∃v,e=.returned v)/\Hw w c p c.ba bs { B with n:=wrap64 (B.n+1),r:=Qb c.bits B.r x } w'):=λwr hr=>
  (Jwo hr.l.reg ⟨hc.b1,hc.b2⟩ hok.r hok.r8 h.nd.n2.1 hx v).mono λe w' ⟨h1,h2,h3⟩=>⟨h1,hr.reg h2 h3⟩
 have t2:Hid (∀wr,Hw w c p c.ba bs { B with n:=wrap64 (B.n+1),r:=Qb c.bits B.r x } wr->Calls prog 163 #[.pointer (some ⟨p.hb,0,none⟩),.int .u64 x,.int .i64 v] wr λe w'=>(∃v,e=.returned v)/\Hw w c p c.ba bs { B with n:=wrap64 (B.n+1),r:=Qb c.bits B.r x,h:=V4 bs B.h v } w'):=λwr hr=>by have hh:=hr.l.hist;rw[<- Dx]at hh;refine(Jv3 hh hr.r (by rw[Dx];omega) KJ (hok.h.trans (by rw[Dx])) h.nd.n4.1 x v).mono λe w' ⟨h1,h2,h3⟩=>⟨h1,?_⟩;rw[Dx]at h2;exact hr.hist h2 h3
 have t3:Hid (∀wr,Hw w c p c.ba bs { B with n:=wrap64 (B.n+1),r:=Qb c.bits B.r x,h:=V4 bs B.h v } wr->Calls prog 170 #[.pointer (some ⟨p.lb,0,none⟩),.int .u64 x,.int .i64 v] wr λe w'=>(∃v,e=.returned v)/\VH w c p (QJ c bs B x v) w'):=λwr hr=>
  (Jhx hr.l.least h.nd.n6 (by show B.l.length<=1000;have:=hok.lK;have:=hc.k2;omega) (hok.l.imp λh=>by omega) ⟨by have:=hc.k1;omega,by have:=hc.k2;omega⟩ x v).mono λe w' ⟨h1,h2⟩=>⟨h1,hr.least h2⟩
 clear s1 hm BX
 go_enter func28,ntmps28
 go_wp2;clear c0 c1 c2 c3 cf;generalize w.setCell ⟨p.b,0,none⟩ (.int .i64 (wrap64 (B.n+1)))=W0 at *;refine wp_loop_rounds 4 ?_;rw[rounds_succ]
 go_wp2_with (go_at_call 156;refine(t1 _ N7).mono ?_;rintro e w1 ⟨⟨v1,rfl⟩,He⟩)
 rw[rounds_succ]
 go_wp2_with (go_at_call 163;refine(t2 _ He).mono ?_;rintro e w2 ⟨⟨v2,rfl⟩,NY⟩)
 rw[rounds_succ]
 go_wp2_with (go_at_call 170;refine(t3 _ NY).mono ?_;rintro e w3 ⟨⟨v3,rfl⟩,aZ⟩)
 rw[rounds_succ];go_wp2;go_end0;exact⟨⟨_,rfl⟩,aZ⟩
end
def Ju(c n:Int):Int:=(if c<0 then -(c+1)else c) % n
theorem YP{c n:Int}(hn:0<n):0<=Ju c n/\Ju c n<n:=⟨Int.emod_nonneg _ (by omega),Int.emod_lt_of_pos _ hn⟩
theorem YZ{c n:Int}(hc:-9223372036854775808<=c/\c<=9223372036854775807)(hn:0<n)(Ir:n<=9223372036854775807)(w:JE) :
  Calls prog 8 #[.int .i64 c,.int .i64 n] w λe w'=>e=.returned (.int .i64 (Ju c n))/\w'=w:=by
 obtain⟨h1,h2⟩:=hc;have e:c<0->Ju c n=-(c+1).tmod n:=λh=>by unfold Ju;rw[if_pos h,<- Int.tmod_eq_emod_of_nonneg (by omega),Int.neg_tmod]
 have e2:0<=c->Ju c n=c % n:=λh=>by unfold Ju;rw[if_neg (by omega)]
 generalize Ju c n=p at *
 go_enter func8,ntmps8
 go_wp2
 ·go_ret;exact⟨by rw[e (by assumption)];rfl,rfl⟩
 ·go_ret;exact⟨by rw[e2 (by assumption)];rfl,rfl⟩
def FB:JD:=[-5,0,10,1000]
theorem J9c{c:Int}(hc:-9223372036854775808<=c/\c<=9223372036854775807)(w:JE) :
  Calls prog 10 #[.int .i64 c] w λe w'=>e=.returned (.agg #[.int .i64 3,.int .i64 (4+Ju c 1048576 % 3),.int .i64 (1+Ju c 1048576 / 3 % 8),.slice (some ⟨w.heap.size+1,0,none⟩) 4 4,.int .i64 c])/\w'=(w.alloc (.cells #[.int .i64 3,.int .i64 (4+Ju c 1048576 % 3),.int .i64 (1+Ju c 1048576 / 3 % 8),.slice (some ⟨w.heap.size+1,0,none⟩) 4 4,.int .i64 c] 35)).alloc (.cells #[.int .i64 (-5),.int .i64 0,.int .i64 10,.int .i64 1000] 3):=by
 have hp:=YZ hc (n:=1048576) (by omega) (by omega);have hb:=YP (c:=c) (n:=1048576) (by omega);generalize Ju c 1048576=p at *;obtain⟨b1,b2⟩:=hb
 go_enter func10,ntmps10
 go_wp2_with (go_at_call 8;refine(hp _).mono ?_;rintro e w1 ⟨rfl,rfl⟩)
 refine bodyPost_ret (v:=.agg #[.int .i64 3,.int .i64 (4+p % 3),.int .i64 (1+p / 3 % 8),.slice (some ⟨w.heap.size+1,0,none⟩) 4 4,.int .i64 c]) ?_ rfl ?_
 ·simp[results,results10,go_sem]
 ·exact⟨rfl,rfl⟩
def EY(c:J8)(fK seed:Int):JC:=#[.int .i64 fK,.int .i64 c.bits,.int .i64 c.K,.slice c.ba c.nb c.cb,.int .i64 seed]
theorem Jbl{fr:Bool}{w:JE}{c:J8}{bb cap:Nat}{bs:JD}(hc:Jw c)(h:Row fr w bb 3 .i64 bs cap)(CY:c.ba=some ⟨bb,0,none⟩)(BX:c.nb=bs.length)(hp:bs.Pairwise (· < ·))(seed:Int) :
  Calls prog 46 #[.agg (EY c 3 seed)] w λe w'=>e=.returned (.bool true)/\Tch w.heap.size M0 w w':=by
 obtain⟨b1,b2,k1,k2,nb⟩:=hc;have Am:∀wr,Tch w.heap.size M0 w wr->∀i,i<bs.length->wr.cell? ⟨bb,i,none⟩=some (.int .i64 (bs.getD i 0)):=λwr ht i hi=>(h.tch ht h.lt λx=>x).cell hi;have UN:∀i,0<i->i<bs.length->bs.getD (i-1) 0<bs.getD i 0:=λi h0 hi=>by have:=List.pairwise_iff_getElem.1 hp (i-1) i (by omega) hi (by omega);simpa[CP,hi,show i-1<bs.length by omega]using this
 clear h hp;rw[BX]at nb;unfold EY;rw[CY,BX];generalize bs.length=n at *;generalize c.bits=bits at *;generalize c.K=K at *;generalize c.cb=cb at *
 go_enter func46,ntmps46
 go_wp2
 go_loopw [39] (λi wr=>∃k:Nat,k<=n/\i=.int .i64 k/\Tch w.heap.size M0 w wr/\wr.cell? ⟨w.heap.size,3,none⟩=some (.slice (some ⟨bb,0,none⟩) n cb)) (λi _=>n-(RowKit.intOf i).toNat)
 case atStart=>exact⟨0,by omega,rfl,Tch.refl.alloc (Ad _) _,(cell_of (Ja _) 3).trans rfl⟩
 case round=>
  obtain⟨k,hk,rfl,ht,hb⟩:=hrel;rcases BG k n with Ac|Dp
  ·have g2:=Am _ ht k Ac;have BI:(k:Int)<n:=by omega
   rcases Nat.eq_zero_or_pos k with Tz|Bj
   ·have DF:¬(0:Int)<k:=by omega
    clear Am UN g2;go_wp2
    go_region
    go_wp2;refine⟨⟨k+1,by omega,by go_num,ht.drew,hb⟩,by simp[RowKit.intOf];omega⟩
   ·have g1:=Am _ ht (k-1) (by omega);have hi:=UN k Bj Ac;have DF:(k:Int)-1=((k-1:Nat):Int):=by omega
    have Lp:(0:Int)<k:=by omega
    generalize bs.getD (k-1) 0=x at *;generalize bs.getD k 0=y at *;clear Am UN;go_wp2
    go_region
    go_wp2;refine⟨⟨k+1,by omega,by go_num,ht.drew,hb⟩,by simp[RowKit.intOf];omega⟩
  ·have CB:¬((k:Int)<n):=by omega
   clear Am UN;go_wp2;go_ret;exact⟨rfl,ht⟩
end Go.Sim.Z
namespace Go.Sim.Z
open Go Go.Proofs Go.RowKit Go.Maps
def I5(w:JE)(vm base:Nat):Prop:=∃n,w.ownsMap prog 3 Rv vm n (.map [(.int .i64 7,.held (.map (some base)))])
theorem qJ:Keyed prog 3:=int_keyed underlying3
theorem Joq:keyOf prog 3 (.int .i64 7)=some (.int .i64 7):=by simp[keyOf,underlying3,mapKey];decide
theorem I5.kept{w w':JE}{vm base:Nat}(h:I5 w vm base)(hb:w'.heap[vm]?=w.heap[vm]?):I5 w' vm base:=by obtain⟨n,es,clock,h2,h3⟩:=h;exact⟨n,es,clock,hb.trans h2,h3⟩
theorem I5.lt{w:JE}{vm base:Nat}(h:I5 w vm base):vm<w.heap.size:=by obtain⟨n,h⟩:=h;exact h.lt
theorem I5.lookup{w:JE}{vm base:Nat}(h:I5 w vm base):(Instr.lookup 62 (.map (some vm)) (.int .i64 7) false).run prog w=.ok (.map (some base)) w:=by
 obtain⟨n,h2⟩:=h;obtain⟨v,ps,AB,hv⟩:=h2.lookup qJ underlying62 (zeroValue70 w) (zd:=.held (.map none)) (zp:=[]) rfl Joq;rw[AB];have e:(DataW.map (H:=JJ) [(Lit.int .i64 7,DataW.held (Value.map (some base)))]).atKey (Lit.int .i64 7) (DataW.held (Value.map none))=DataW.held (Value.map (some base)):=by simp[DataW.atKey,Lit.sameKey]
 rw[e]at hv;simp only[Rv,Cm,Prod.mk.injEq,DataW.held.injEq]at hv;rw[hv.1]
theorem I5.made{w:JE}{vm base:Nat}(h:w.heap[vm]?=some (.map #[] 0)):∃w',(Instr.mapUpdate 62 (.map (some vm)) (.int .i64 7) (.map (some base))).run prog w=.ok () w'/\I5 w' vm base/\w.grownBy w' (some vm):=by
 have h0:=World.ownsMap_made w prog 3 Rv;have h1:w.ownsMap prog 3 Rv vm 0 (.map []):=by obtain⟨es,clock,h2,h3,h4,h5⟩:=h0;rw[Ja]at h2;cases h2;exact⟨#[],0,h,h3,h4,h5⟩
 obtain⟨w',AB,h3,h4⟩:=h1.update qJ underlying62 (by decide) Joq (val:=.map (some base)) (d:=.held (.map (some base))) (ps:=[]) rfl;exact⟨w',AB,⟨_,h3⟩,h4⟩
structure Dq(w:JE)(x:Nat)(c:J8)(seed:Int)(h:JJ)(nf:Int)(vm base:Nat):Prop where
 blk:Blk false w x #[.int .i64 3,.int .i64 c.bits,.int .i64 c.K,.slice c.ba c.nb c.cb,.int .i64 seed,h,.int .i64 nf,.map (some vm)] 64
 vs:I5 w vm base
theorem Dq.kept{w w':JE}{x:Nat}{c:J8}{seed:Int}{h:JJ}{nf:Int}{vm base:Nat}(q:Dq w x c seed h nf vm base)(h1:w'.heap[x]?=w.heap[x]?)(h2:w'.heap[vm]?=w.heap[vm]?):Dq w' x c seed h nf vm base:=
 ⟨q.blk.kept h1,q.vs.kept h2⟩
section
variable{w:JE}{x:Nat}{c:J8}{seed:Int}{h:JJ}{nf:Int}{vm base:Nat}
theorem Dq.cells(q:Dq w x c seed h nf vm base):w.cell? ⟨x,0,none⟩=some (.int .i64 3)/\w.cell? ⟨x,1,none⟩=some (.int .i64 c.bits)/\w.cell? ⟨x,2,none⟩=some (.int .i64 c.K)/\w.cell? ⟨x,3,none⟩=some (.slice c.ba c.nb c.cb)/\w.cell? ⟨x,4,none⟩=some (.int .i64 seed)/\w.cell? ⟨x,5,none⟩=some h/\w.cell? ⟨x,6,none⟩=some (.int .i64 nf)/\w.cell? ⟨x,7,none⟩=some (.map (some vm)):=
 ⟨(q.blk.cell 0).trans rfl,(q.blk.cell 1).trans rfl,(q.blk.cell 2).trans rfl,(q.blk.cell 3).trans rfl,(q.blk.cell 4).trans rfl,(q.blk.cell 5).trans rfl,(q.blk.cell 6).trans rfl,(q.blk.cell 7).trans rfl⟩
theorem gY(h0:w.cell? ⟨x,0,none⟩=some (.int .i64 3)):Calls prog 23 #[.pointer (some ⟨x,0,none⟩)] w λe w'=>e=.returned (.int .i64 7)/\w'=w:=by
 have hs:(binOp .shl 3 (.int .i64 1) (.int .i64 3)).run prog w=.ok (.int .i64 8) w:=rfl
 go_enter func23,ntmps23
 go_wp2;go_ret;exact⟨rfl,rfl⟩
def h49:JJ:=.func (.func 49) #[] #[]
theorem Ji2(n:Int)(w:JE):Calls prog 19 #[.int .i64 1,.int .i64 n] w λe w'=>e=.returned h49/\w'=w.alloc (.cells #[.int .i64 n] 3):=by
 go_enter func19,ntmps19
 go_wp2
 all_goals go_ret
 exact⟨rfl,rfl⟩
theorem Jor(n:Int)(w:JE):Calls prog 49 #[.int .i64 n] w λe w'=>e=.returned (.int .u64 (IntKind.u64.wrap n))/\w'=w:=by
 go_enter func49,ntmps49
 go_wp2;go_ret;exact⟨rfl,rfl⟩
theorem Blk.five{fr:Bool}{w:JE}{b:Nat}{v0 v1 v2 v3 v4:JJ}{t:JH}(h:Blk fr w b #[v0,v1,v2,v3,v4] t):w.cell? ⟨b,0,none⟩=some v0/\w.cell? ⟨b,1,none⟩=some v1/\w.cell? ⟨b,2,none⟩=some v2/\w.cell? ⟨b,3,none⟩=some v3/\w.cell? ⟨b,4,none⟩=some v4:=
 ⟨(h.cell 0).trans rfl,(h.cell 1).trans rfl,(h.cell 2).trans rfl,(h.cell 3).trans rfl,(h.cell 4).trans rfl⟩
structure NewAt(w:JE)(c:J8)(seed:Int)(h:JJ)(bs:JD)(e:Ending)(w':JE):Prop where
 ex:∃x vm base b2 c2,e=.returned (.tuple #[.pointer (some ⟨x,0,none⟩),.nilIface])/\(w.heap.size<=x/\w.heap.size<=vm/\w.heap.size<=base/\w.heap.size<=b2) /\
   Dq w' x { c with ba:=some ⟨b2,0,none⟩,cb:=c2 } seed h 0 vm base/\w'.heap[base]?=some (.map #[] 0)/\Row false w' b2 3 .i64 bs c2/\(x≠vm/\x≠base/\x≠b2/\vm≠base/\vm≠b2/\base≠b2)
 tch:Tch w.heap.size M0 w w'
theorem Jfw{fr:Bool}{bb cap:Nat}{bs:JD}(hc:Jw c)(hr:Row fr w bb 3 .i64 bs cap)(CY:c.ba=some ⟨bb,0,none⟩)(BX:c.nb=bs.length)(hp:bs.Pairwise (· < ·))(f:Fn)(a b:JC) :
  Calls prog 18 #[.agg (EY c 3 seed),.func f a b] w (NewAt w c seed (.func f a b) bs):=by
 have hv:=λw1(ht:Tch w.heap.size M0 w w1)=>Jbl (seed:=seed) hc (hr.tch ht hr.lt λx=>x) CY BX hp;have AX:=λw1(ht:Tch w.heap.size M0 w w1)=>Jhp (hr.tch ht hr.lt λx=>x) (by have:=hc.nb;omega);have hlen:=hc.nb;obtain⟨W0,BZ⟩:∃W0,W0=w.alloc (.cells #[.int .i64 3,.int .i64 c.bits,.int .i64 c.K,.slice (some ⟨bb,0,none⟩) bs.length c.cb,.int .i64 seed] 35):=⟨_,rfl⟩;have BA:Tch w.heap.size M0 w W0:=by rw[BZ];exact Tch.refl.alloc (Ad _) _
 have FK:Blk false W0 w.heap.size #[.int .i64 3,.int .i64 c.bits,.int .i64 c.K,.slice (some ⟨bb,0,none⟩) bs.length c.cb,.int .i64 seed] 35:=⟨(0,0),by rw[BZ];exact Ja _,λ_=>rfl⟩;have e1:∀{w1:JE}{arr:JC},Blk false w1 w.heap.size arr 35->∀i,w1.cell? ⟨w.heap.size,i,none⟩=arr[i]?:=λh i=>h.cell i;unfold EY at hv ⊢;rw[CY,BX]at hv ⊢;have Nw:=hv W0 BA;have YK:Hid (∀w1,Tch W0.heap.size M0 W0 w1->Calls prog 47 #[.slice (some ⟨bb,0,none⟩) bs.length c.cb] w1 λe w'=>∃g c',e=.returned (.slice (some ⟨g,0,none⟩) bs.length c')/\w1.heap.size<=g/\Row false w' g 3 .i64 bs c'/\Tch w1.heap.size M0 w1 w'/\c'<=maxLen):=λw1 ht=>AX w1 (BA.trans (ht.mono BA.size λ_ _ h=>h)) _;have Du:=FK.lt;clear hv AX;have mQ:∀w,(binOp .eql 60 (.func f a b) .nilFunc).run prog w=.ok (.bool false) w:=λw=>rfl;have oK:∀(t:JH) w,(Instr.makeMap t none).run prog w=.ok (.map (some w.heap.size)) (w.alloc (.map #[] 0)):=λ_ _=>rfl;have hgm':=BX;generalize hgm:bs.length=m at *
 go_enter func18,ntmps18
 go_wp2_with (first
  |(go_at_call 46;rw[<- BZ];refine Nw.mono ?_;rintro e w1 ⟨rfl,A8⟩;have FQ:=FK.tch A8 Du (λx=>x);obtain⟨y0,y1,y2,y3,y4⟩:=FQ.five;have Yf:=FQ.lt)
  |(go_at_call 47;refine(YK _ A8).mono ?_;rintro e w2 ⟨b2,c2,rfl,Jwu,BU,Bc,MJ⟩;have D8:=FQ.tch Bc Yf (λx=>x);obtain⟨z0,z1,z2,z3,z4⟩:=D8.five;have zf:=D8.frozen 3))
 have CU:(w2.setCell ⟨w.heap.size,3,none⟩ (.slice (some ⟨b2,0,none⟩) m c2)).heap.size=w2.heap.size:=size_set _ _;have DR:Tch w.heap.size M0 w (w2.setCell ⟨w.heap.size,3,none⟩ (.slice (some ⟨b2,0,none⟩) m c2)):=((BA.trans (A8.mono BA.size λ_ _ h=>h)).trans (Bc.mono (BL BA.size A8.size) λ_ _ h=>h)).set (.inl (Ad _)) _;have IJ:Row false (w2.setCell ⟨w.heap.size,3,none⟩ (.slice (some ⟨b2,0,none⟩) m c2)) b2 3 .i64 bs c2:=BU.kept (Jk _ _ (show b2≠w.heap.size by have:=BA.size;have:=A8.size;omega));have Fz:=BU.lt;generalize w2.setCell ⟨w.heap.size,3,none⟩ (.slice (some ⟨b2,0,none⟩) m c2)=W3 at *;have Uj:w.heap.size<=W3.heap.size:=DR.size;have hV:((W3.alloc (.map #[] 0)).alloc (.cells #[.int .i64 3,.int .i64 c.bits,.int .i64 c.K,.slice (some ⟨b2,0,none⟩) m c2,.int .i64 seed,.func f a b,.int .i64 0,.map (some w2.heap.size)] 64)).heap[w2.heap.size]?=some (.map #[] 0):=by rw[<- CU,J7 _ (by rw[size_alloc];omega)];exact Ja _
 have hX:((W3.alloc (.map #[] 0)).alloc (.cells #[.int .i64 3,.int .i64 c.bits,.int .i64 c.K,.slice (some ⟨b2,0,none⟩) m c2,.int .i64 seed,.func f a b,.int .i64 0,.map (some w2.heap.size)] 64)).heap[w2.heap.size+1]?=some (.cells #[.int .i64 3,.int .i64 c.bits,.int .i64 c.K,.slice (some ⟨b2,0,none⟩) m c2,.int .i64 seed,.func f a b,.int .i64 0,.map (some w2.heap.size)] 64):=by
  have:=Ja (w:=W3.alloc (.map #[] 0)) (.cells #[.int .i64 3,.int .i64 c.bits,.int .i64 c.K,.slice (some ⟨b2,0,none⟩) m c2,.int .i64 seed,.func f a b,.int .i64 0,.map (some w2.heap.size)] 64)
  rwa [size_alloc,CU]at this
 have Ub:=(IJ.kept (w':=(W3.alloc (.map #[] 0)).alloc (.cells #[.int .i64 3,.int .i64 c.bits,.int .i64 c.K,.slice (some ⟨b2,0,none⟩) m c2,.int .i64 seed,.func f a b,.int .i64 0,.map (some w2.heap.size)] 64)) (by rw[J7 _ (by rw[size_alloc];omega),J7 _ (by omega)]));have F8:=(DR.alloc Uj (.map #[] 0)).alloc (by rw[size_alloc];omega) (.cells #[.int .i64 3,.int .i64 c.bits,.int .i64 c.K,.slice (some ⟨b2,0,none⟩) m c2,.int .i64 seed,.func f a b,.int .i64 0,.map (some w2.heap.size)] 64);have MN:((W3.alloc (.map #[] 0)).alloc (.cells #[.int .i64 3,.int .i64 c.bits,.int .i64 c.K,.slice (some ⟨b2,0,none⟩) m c2,.int .i64 seed,.func f a b,.int .i64 0,.map (some w2.heap.size)] 64)).heap.size=w2.heap.size+2:=by rw[size_alloc,size_alloc,CU]
 generalize(W3.alloc (.map #[] 0)).alloc (.cells #[.int .i64 3,.int .i64 c.bits,.int .i64 c.K,.slice (some ⟨b2,0,none⟩) m c2,.int .i64 seed,.func f a b,.int .i64 0,.map (some w2.heap.size)] 64)=W5 at *;have mV:((W5.alloc (.map #[] 0)).drew).heap[w2.heap.size]?=some (.map #[] 0):=(J7 (w:=W5) _ (show _<W5.heap.size by omega)).trans hV;obtain⟨w7,RQ,Jre,Pq⟩:=I5.made (base:=W5.heap.size) mV;have Jwv:(Instr.mapUpdate 62 (.map (some w2.heap.size)) (.int .i64 7) (.map (some (w2.heap.size+2)))).run prog ((W5.alloc (.map #[] 0)).drew)=.ok () w7:=by rw[<- MN];exact RQ
 have LG:W5.cell? ⟨w2.heap.size+1,0,none⟩=some (.int .i64 3):=(cell_of hX 0).trans rfl;have iV:W5.cell? ⟨w2.heap.size+1,7,none⟩=some (.map (some w2.heap.size)):=(cell_of hX 7).trans rfl;have cb:Hid (∀w',(w'=W5.drew\/w'=(W5.alloc (.map #[] 0)).drew)->Calls prog 23 #[.pointer (some ⟨w2.heap.size+1,0,none⟩)] w' λe Qw=>e=.returned (.int .i64 7)/\Qw=w'):=λw' h=>gY (by
  rcases h with rfl|rfl
  ·exact LG
  ·refine(DX (J7 (w:=W5) _ ?_)).trans LG;show _<W5.heap.size;rw[MN];show w2.heap.size+1<_;omega)
 have Xw:∀k,k<W5.heap.size->k≠w2.heap.size->w7.heap[k]?=W5.heap[k]?:=λk hk Aq=>(Pq.block k (by show k<(W5.alloc _).heap.size;rw[size_alloc];omega) λe=>Aq (Aa e)).trans (J7 (w:=W5) _ hk);have fin:NewAt w c seed (.func f a b) bs (.returned (.tuple #[.pointer (some ⟨w2.heap.size+1,0,none⟩),.nilIface])) w7:=by
  have nS:w.heap.size<=w2.heap.size:=by rw[<- CU];exact Uj
  refine⟨⟨w2.heap.size+1,w2.heap.size,W5.heap.size,b2,c2,rfl,⟨by omega,by omega,by omega,by have:=BA.size;have:=A8.size;omega⟩,⟨⟨(0,0),?_,λ_=>rfl⟩,Jre⟩,?_,?_,?_⟩,?_⟩
  ·rw[Xw _ (by omega) (by omega),hX,<- BX]
  ·exact(Pq.block _ (by show W5.heap.size<(W5.alloc _).heap.size;rw[size_alloc];omega) λe=>by have:=Aa e;omega).trans (Ja (w:=W5) _)
  ·exact Ub.kept (Xw _ (by omega) (by omega))
  ·omega
  ·exact⟨by have:=Pq.size;have e:((W5.alloc (.map #[] 0)).drew).heap.size=W5.heap.size+1:=size_alloc _;have:=F8.size;omega,λk hk _=>(Xw k (by omega) (by omega)).trans (F8.heap k hk λx=>x),Pq.tape.trans F8.tape,Pq.os.trans F8.os,Pq.output.trans F8.output⟩
 clear mV hV
 go_region_with (go_at_call 23;refine(cb _ (by first|exact .inl rfl|exact .inr rfl)).mono ?_;rintro e w' ⟨rfl,rfl⟩)
 all_goals go_wp2
 all_goals go_ret2
 all_goals exact fin
theorem Jrf{fr:Bool}{bb cap:Nat}{bs:JD}(hc:Jw c)(hr:Row fr w bb 3 .i64 bs cap)(CY:c.ba=some ⟨bb,0,none⟩)(BX:c.nb=bs.length)(hp:bs.Pairwise (· < ·))(n:Int) :
  Calls prog 12 #[.agg (EY c 3 seed),.int .i64 1,.int .i64 n] w (NewAt w c seed h49 bs):=by
 obtain⟨W0,BZ⟩:∃W0,W0=w.alloc (.cells (EY c 3 seed) 35):=⟨_,rfl⟩;have BA:Tch w.heap.size M0 w W0:=by rw[BZ];exact Tch.refl.alloc (Ad _) _
 have FK:Blk false W0 w.heap.size (EY c 3 seed) 35:=⟨(0,0),by rw[BZ];exact Ja _,λ_=>rfl⟩;have Du:=FK.lt;have hf:Hid (∀w1,Tch W0.heap.size M0 W0 w1->w1.cell? ⟨w.heap.size,0,none⟩=some (.int .i64 3)/\w1.cell? ⟨w.heap.size,1,none⟩=some (.int .i64 c.bits)/\w1.cell? ⟨w.heap.size,2,none⟩=some (.int .i64 c.K)/\w1.cell? ⟨w.heap.size,3,none⟩=some (.slice c.ba c.nb c.cb)/\w1.cell? ⟨w.heap.size,4,none⟩=some (.int .i64 seed)):=λw1 ht=>(FK.tch ht Du λx=>x).five;have NC:Hid (∀w1,Tch W0.heap.size M0 W0 w1->Calls prog 18 #[.agg (EY c 3 seed),.func (.func 49) #[] #[]] w1 λe w'=>NewAt w c seed h49 bs e w'/\Tch W0.heap.size M0 W0 w'):=λw1 ht=>by have Bc:=BA.trans (ht.mono BA.size λ_ _ h=>h);refine(Jfw (seed:=seed) hc (hr.tch Bc hr.lt λx=>x) CY BX hp (.func 49) #[] #[]).mono λe w'(h:NewAt w1 c seed h49 bs e w')=>?_;obtain⟨⟨x,vm,base,b2,c2,h1,h2,h3⟩,h4⟩:=h;have:=Bc.size;exact⟨⟨⟨x,vm,base,b2,c2,h1,⟨by omega,by omega,by omega,by omega⟩,h3⟩,(Bc.trans (h4.mono Bc.size λ_ _ h=>h))⟩,ht.trans (h4.mono ht.size λ_ _ h=>h)⟩
 clear hr hp FK BA Du CY BX;unfold EY at NC BZ ⊢;have t0:Tch W0.heap.size M0 W0 W0.drew:=Tch.refl.drew;have t1:Tch W0.heap.size M0 W0 (W0.alloc (.cells #[.int .i64 n] 3)).drew:=(Tch.refl.alloc (Ad _) _).drew;have hd3:Hid (∀w1 R,w1=W0.drew->(R=λe w'=>e=.returned h49/\w'=w1.alloc (.cells #[.int .i64 n] 3))->Calls prog 19 #[.int .i64 1,.int .i64 n] w1 R):=λw1 R _ e=>by rw[e];exact Ji2 n w1
 go_enter func12,ntmps12
 go_wp2_with fail
 subst BZ;generalize w.heap.size=n0 at hf ⊢;obtain⟨q0,q1,q2,q3,q4⟩:=hf _ t0;obtain⟨r0,r1,r2,r3,r4⟩:=hf _ t1
 go_region_with (first|(go_at_call 19;refine(Ji2 n _).mono ?_;rintro e w1 ⟨rfl,rfl⟩)|(go_at_call 18;refine(NC _ t1).mono ?_;rintro e w1 ⟨hN,t2⟩;have ZC:=hN;obtain⟨⟨x,vm,base,b2,c2,rfl,_⟩,_⟩:=hN))
 all_goals go_wp2
 all_goals go_ret2
 all_goals exact ZC
end
section
variable{w:JE}{x:Nat}{c:J8}{seed:Int}{nf:Int}{vm base:Nat}
theorem Ji3(p q r:Addr)(w:JE) :
  CallsD prog 54 #[.pointer (some p),.pointer (some q),.pointer (some r)] .returning w λe u' w'=>e=.returned (.tuple #[])/\u'=.returning/\w'=w:=by
 have KI:∀w,(binOp .neq 20 .nilIface .nilIface).run prog w=.ok (.bool false) w:=λ_=>rfl;refine callsD_of_wpS func54 rfl λc₀ cs hu=>?_;apply wpS_seq;apply wpS_region;simp[wpOpsS,go_sem,recoverD,hu,ntmps54,Exit.thenS];refine wpS_cond (t:=false) (by simp[Act.eval,Array.replicate]) ?_;simp only[EK,if_false];refine wpS_of_wp (wp_skip ?_);cases c₀
 simp_all [bodyPostS,results,results54]
theorem Jos(q:Dq w x c seed h49 nf vm base)(item at_:Int) :
  Calls prog 24 #[.pointer (some ⟨x,0,none⟩),.int .i64 item,.int .i64 at_] w λe w'=>e=.returned (.tuple #[.int .u64 (IntKind.u64.wrap item),.nilIface])/\Tch w.heap.size M0 w w':=by
 have hmf:∀(fn:Fn)(first cap:JC)(w:JE),(Instr.makeFunc fn first cap).run prog w=.ok (.func fn first cap) w:=λ_ _ _ _=>rfl;have hx:x<w.heap.size:=q.blk.lt;have c5:w.cell? ⟨x,5,none⟩=some (.func (.func 49) #[] #[]):=q.cells.2.2.2.2.2.1;have h1:∀w,Calls prog 49 #[.int .i64 item] w λe w'=>e=.returned (.int .u64 (IntKind.u64.wrap item))/\w'=w:=Jor item;have c5':(((w.alloc (.cells #[.int .i64 at_] 3)).alloc (.cells #[.int .u64 0] 45)).alloc (.cells #[.nilIface] 30)).cell? ⟨x,5,none⟩=some (.func (.func 49) #[] #[]):=
  (DX (by rw[J7 _ (by rw[size_alloc,size_alloc];show x<_;omega),J7 _ (by rw[size_alloc];show x<_;omega),J7 _ hx])).trans c5
 generalize IntKind.u64.wrap item=hh at *
 go_enter_defers func24,ntmps24
 go_wp2_with (go_at_call 49;refine(h1 _).mono ?_;rintro e w1 ⟨rfl,rfl⟩)
 refine leaves_cons (f:=54) (args:=#[.pointer (some ⟨w.heap.size,0,none⟩),.pointer (some ⟨w.heap.size+1,0,none⟩),.pointer (some ⟨w.heap.size+1+1,0,none⟩)]) (by simp) (by simp[go_sem]) ?_;refine(Ji3 _ _ _ _).mono ?_;rintro e u' Qw ⟨rfl,rfl,rfl⟩;simp[Leaves,settle,results,results24,go_sem];exact((Tch.refl.alloc (Ad _) _).alloc (by rw[size_alloc];omega) _).alloc (by rw[size_alloc,size_alloc];omega) _
end
structure PI(w:JE)(base:Nat)(v:JJ)(xs:JD):Prop where
 own:w.ownsRow base 3 1 v xs.length (xs.map (Value.int .i64))
 pl:Kt w v
 nl:v=.slice none 0 0↔xs=[]
theorem PI.nil(w:JE)(base:Nat):PI w base (.slice none 0 0) []:=⟨⟨rfl,.inl ⟨rfl,rfl⟩⟩,.nil _ _ _,by simp⟩
theorem PI.lt{w:JE}{base:Nat}{v:JJ}{xs:JD}(h:PI w base v xs){g n cap:Nat}(e:v=.slice (some ⟨g,0,none⟩) n cap):base<=g/\g<w.heap.size:=by
 rcases h.own.2 with⟨rfl,_⟩|⟨g',Dy,cur,rfl,hb,hg,_⟩
 ·cases e
 ·cases e;exact⟨hb,Ji hg⟩
def SlI(fr:Bool)(w:JE)(base:Nat)(v:JJ)(t:JH)(k:IntKind)(xs:JD):Prop:=
 (v=.slice none 0 0/\xs=[])\/∃g cap,v=.slice (some ⟨g,0,none⟩) xs.length cap/\base<=g/\Row fr w g t k xs cap
theorem PI.sl{w:JE}{base:Nat}{v:JJ}{xs:JD}(h:PI w base v xs):SlI false w base v 3 .i64 xs:=by
 by_cases e:v=.slice none 0 0
 ·exact .inl ⟨e,h.nl.1 e⟩
 ·obtain⟨g,cap,h1,h2,h3,_⟩:=Row.zH h.own e h.pl;exact .inr ⟨g,cap,h1,h2,h3⟩
theorem PI.pushed{wr w1:JE}{base:Nat}{v v':JJ}{xs:JD}{y:Int}{o:Obj}(hv:PI wr base v xs)(Aw:w1.ownsRow base 3 1 v' (xs.length+1) (xs.map (Value.int .i64)++[.int .i64 y]))(hg:(wr.alloc o).grownBy w1 v.ownBlock)
  (Dv:v'=.slice none 0 0↔v=.slice none 0 0/\1=0) (CO:Kt w1 v') (hb:base<=wr.heap.size):PI w1 base v' (xs++[y])/\Tch base M0 wr w1:=by
 refine⟨⟨by simpa using Aw,CO,by simp[Dv]⟩,⟨?_,λb BR _=>?_,hg.tape,hg.os,hg.output⟩⟩
 ·have:=hg.size;rw[size_alloc]at this;omega
 ·refine(hg.block b (by rw[size_alloc];omega) λe=>?_).trans (J7 _ (by omega));rcases hv.own.2 with⟨rfl,_⟩|⟨g',Dy,cur,rfl,UF,_⟩
  ·cases e
  ·have:=Aa e;simp at this;omega
def Dk(m:Nat)(k:JD)(n:Nat):JD:=((k.take n).zipIdx.filter λp=>m.testBit p.2).map (·.1)
theorem Jfx{m n:Nat}{k:JD}(hn:n<k.length):Dk m k (n+1)=if m.testBit n then Dk m k n++[k.getD n 0]else Dk m k n:=by
 unfold Dk;rw[List.take_add_one,List.zipIdx_append,List.filter_append,List.map_append];have h1:k[n]?=some (k.getD n 0):=by rw[CP,Dh hn];rfl
 have h2:(k.take n).length=n:=by simp;omega
 rw[h1];simp only[Option.toList_some,List.zipIdx_cons,List.zipIdx_nil,h2,Nat.zero_add];cases hb:m.testBit n<;>simp[hb]
theorem Jkx{w:JE}{vb:Nat}{v:JJ}{t:JH}(hv:w.heap[vb]?=some (.cells #[v] t)):∀j u,([v]:List JJ)[j]?=some u->w.cell? ((⟨vb,0,none⟩:Addr).add j)=some u:=by
 intro j u hj;cases j with
 |zero=>
  simp at hj;subst hj;exact(cell_of hv 0).trans rfl
 |succ j=>simp at hj
theorem Ji4(m k:Nat):(bits BinOp.and IntKind.i64 (((m:Int)) / 2 ^ k) 1 == 1)=m.testBit k:=by
 rw[Jhk,Nat.testBit,Nat.shiftRight_eq_div_pow];have:((m:Int) / 2 ^ k) % 2=((m / 2 ^ k % 2:Nat):Int):=by push_cast;rfl
 rw[this];have h2:m / 2 ^ k % 2<2:=Nat.mod_lt _ (by omega);generalize hx:m / 2 ^ k=x at *;rcases Nat.mod_two_eq_zero_or_one x with h|h<;>simp[h,Nat.and_comm,Nat.and_one_is_mod]
theorem Jk9(ks:JD)(hk:ks.length=5)(m:Nat)(w:JE):Calls prog 33 #[.agg (ai .i64 ks),.int .i64 m] w λe w'=>∃v,e=.returned v/\SlI false w' w.heap.size v 3 .i64 (Dk m ks 5)/\Tch w.heap.size M0 w w':=by
 obtain⟨i0,hi,En,Dl,D7⟩:=info_parts info3;have hm:maxLen=9223372036854775807:=by decide
 go_enter func33,ntmps33
 go_wp2
 go_loopw [5,7] (λv i wr=>∃k:Nat,k<=5/\i=.int .i64 k/\PI wr (w.heap.size+1) v (Dk m ks k)/\wr.heap[w.heap.size]?=some (.cells (ai .i64 ks) 76)/\Tch w.heap.size M0 w wr) (λ_ i _=>5-(RowKit.intOf i).toNat)
 case atStart=>exact⟨0,by omega,rfl,PI.nil _ _,Ja _,Tch.refl.alloc (Ad _) _⟩
 case round=>
  obtain⟨k,hk5,rfl,hv,hc,ht⟩:=hrel;have MW:=Ji4 m k;have hlen:(Dk m ks k).length<=5:=by unfold Dk;rw[Et];refine BL (List.length_filter_le _ _) ?_;simp;omega
  rcases BG k 5 with Ac|Dp
  ·have Am:=cell_of hc k;rw[Jar (by omega)]at Am;have BI:(k:Int)<5:=by omega
   have IU:=Jfx (m:=m) (n:=k) (k:=ks) (by omega);cases hb:m.testBit k
   ·rw[hb]at MW IU;simp only[EK,if_false]at IU;go_wp2;refine⟨⟨k+1,by omega,by go_num,?_,hc,ht⟩,?_⟩
    ·rw[IU];exact hv
    ·simp[RowKit.intOf];omega
   ·rw[hb]at MW IU;simp only[if_true]at IU;generalize ks.getD k 0=y at *;have Ae:=Ji hc
    go_wp2_with (at_builtin;refine dL _ rfl _ _ 33 rfl (w.heap.size+1) 3 i0 _ 1 8 underlying33 hi En Dl D7 rfl (by decide) _ _ _ rfl (hv.own.alloc _) ⟨wr.heap.size,0,none⟩ 1 1 [.int .i64 y] rfl rfl (Jkx (Ja _)) (by simp[Value.oneCell']) (by omega) (by omega) (by rw[size_alloc];omega) (hv.pl.kept λg n cap e=>J7 _ (hv.lt e).2) (λu hu=>by rcases AO.1 hu with rfl|hu;exact⟨_,_,rfl⟩;cases hu) (Plain.ai (k:=.i64) (xs:=[0])) ?_;intro v' w1 Bd AP Dv Em)
    obtain⟨h1,h2⟩:=hv.pushed Bd AP Dv Em (by omega);refine⟨⟨k+1,by omega,by go_num,?_,(h2.heap _ (by omega) λx=>x).trans hc,ht.trans (h2.mono (by omega) λ_ _ h=>h)⟩,?_⟩
    ·rw[IU];exact h1
    ·simp[RowKit.intOf];omega
  ·have CB:¬(k:Int)<5:=by omega
   obtain rfl:k=5:=by omega
   clear hc;go_wp2;go_ret;refine⟨_,rfl,?_,ht⟩;rcases hv.sl with h|⟨g,cap,h1,h2,h3⟩
   ·exact .inl h
   ·exact .inr ⟨g,cap,h1,by omega,h3⟩
end Go.Sim.Z
