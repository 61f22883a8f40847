/- PROVED HERE: laws. Conditions: none. -/
import Derived.Test.YtlcbehhbfglgaaaGreatF02
set_option linter.all false
set_option maxHeartbeats 4000000
set_option maxRecDepth 100000
namespace Go.Sim.Z
open Go Go.Proofs Go.RowKit
abbrev J15 (l:List Int):Prop:=l.Pairwise (· < ·)
def J1m (x:Int):List Int->List Int
 | []=>[x]
 | y::l=>if x<y then x::y::l else if x=y then y::l else y::J1m x l
theorem J4l {x z:Int}:∀ {l:List Int},z∈J1m x l↔z=x\/z∈l
 | []=>by simp [J1m]
 | y::l=>by
  unfold J1m;split
  ·simp
  ·split
   ·rename_i e;subst e;simp
   ·rw [Jb8,J4l,Jb8];constructor
    ·rintro (h|h|h)
     ·exact .inr (.inl h)
     ·exact .inl h
     ·exact .inr (.inr h)
    ·rintro (h|h|h)
     ·exact .inr (.inl h)
     ·exact .inl h
     ·exact .inr (.inr h)
theorem J5x {x:Int}:∀ {l:List Int},J15 l->J15 (J1m x l)
 | [],_=>by simp [J1m]
 | y::l,h=>by
  have h1:=(Jd4.1 h).1;have h2:=(Jd4.1 h).2;unfold J1m;split
  ·rename_i hx;refine Jd4.2 ⟨fun z hz=>?_,h⟩;rcases Jb8.1 hz with rfl|hz
   ·exact hx
   ·have:=h1 z hz;omega
  ·split
   ·exact h
   ·refine Jd4.2 ⟨fun z hz=>?_,J5x h2⟩;rcases J4l.1 hz with rfl|hz
    ·omega
    ·exact h1 z hz
theorem Jhy {x:Int}:∀ {l:List Int},J15 l->x∈l->J1m x l=l
 | [],_,h=>by simp at h
 | y::l,h,hx=>by
  have h1:=(Jd4.1 h).1;have h2:=(Jd4.1 h).2;unfold J1m;rcases Jb8.1 hx with rfl|hx
  ·rw [if_neg (by omega),if_pos rfl]
  ·have:=h1 x hx;rw [if_neg (by omega),if_neg (by omega),Jhy h2 hx]
theorem Jfs {x:Int}:∀ {l:List Int},J15 l->x∉l->insL (l.countP (· < x)) x l=J1m x l
 | [],_,_=>by simp [insL,J1m]
 | y::l,h,hx=>by
  have h1:=(Jd4.1 h).1;have h2:=(Jd4.1 h).2;rw [Jb8,not_or] at hx;unfold J1m;by_cases hxy:x<y
  ·have:(y::l).countP (· < x)=0:=by
    rw [List.countP_eq_zero];intro z hz;rcases Jb8.1 hz with rfl|hz
    ·simp;omega
    ·have:=h1 z hz;simp;omega
   rw [this,if_pos hxy];simp [insL]
  ·rw [if_neg hxy,if_neg hx.1,List.countP_cons_of_pos (by simp;omega),<- Jfs h2 hx.2];simp [insL]
theorem J8g:∀ {a b:List Int},J15 a->J15 b->(∀ x,x∈a↔x∈b)->a=b
 | [],[],_,_,_=>rfl
 | [],y::b,_,_,h=>by have:=(h y).2 (by simp);simp at this
 | x::a,[],_,_,h=>by have:=(h x).1 (by simp);simp at this
 | x::a,y::b,ha,hb,h=>by
  have a1:=(Jd4.1 ha).1;have b1:=(Jd4.1 hb).1;have e:x=y:=by
   rcases Jb8.1 ((h x).1 (by simp)) with e|e
   ·exact e
   ·rcases Jb8.1 ((h y).2 (by simp)) with e'|e'
    ·exact e'.symm
    ·have:=b1 x e;have:=a1 y e';omega
  subst e;congr 1;refine J8g (Jd4.1 ha).2 (Jd4.1 hb).2 fun z=>?_;constructor
  ·intro hz;rcases Jb8.1 ((h z).1 (by simp [hz])) with e|e
   ·subst e;have:=a1 z hz;omega
   ·exact e
  ·intro hz;rcases Jb8.1 ((h z).2 (by simp [hz])) with e|e
   ·subst e;have:=b1 z hz;omega
   ·exact e
theorem J9b {x:Int}:∀ {l:List Int} {K:Nat},(J1m x (l.take K)).take K=(J1m x l).take K
 | _,0=>by simp
 | [],K+1=>by simp
 | y::l,K+1=>by
  simp only [List.take_succ_cons];unfold J1m;have key:∀ m:List Int,(y::m.take K).take K=(y::m).take K:=by
   intro m;cases K with
   | zero=>simp
   | succ k=>simp [List.take_take,Nat.min_eq_left (Nat.le_succ k)]
  split
  ·rw [List.take_succ_cons,List.take_succ_cons,key]
  ·split
   ·simp [List.take_take]
   ·rw [List.take_succ_cons,List.take_succ_cons,J9b]
def uni (a b:List Int):List Int:=b.foldl (fun l x=>J1m x l) a
theorem J4r {z:Int}:∀ {b a:List Int},z∈uni a b↔z∈a\/z∈b
 | [],a=>by simp [uni]
 | x::b,a=>by
  show z∈uni (J1m x a) b↔_;rw [J4r,J4l,Jb8];constructor
  ·rintro ((h|h)|h)
   ·exact .inr (.inl h)
   ·exact .inl h
   ·exact .inr (.inr h)
  ·rintro (h|h|h)
   ·exact .inl (.inr h)
   ·exact .inl (.inl h)
   ·exact .inr h
theorem J2e:∀ {b a:List Int},J15 a->J15 (uni a b)
 | [],_,h=>h
 | x::b,a,h=>by show J15 (uni (J1m x a) b);exact J2e (J5x h)
theorem J5e {K:Nat}:∀ {b l:List Int},(uni (l.take K) b).take K=(uni l b).take K
 | [],l=>by simp [uni,List.take_take]
 | x::b,l=>by show (uni (J1m x (l.take K)) b).take K=(uni (J1m x l) b).take K;rw [<- J5e (l:=J1m x (l.take K)),<- J5e (l:=J1m x l),J9b]
theorem J43 {K:Int} {ls:List Int} (h:J15 ls) (hK:(ls.length:Int)<=K) (x:Int):J0l K ls x=(J1m x ls).take K.toNat:=by
 unfold J0l;split
 ·rename_i hx;rw [Jhy h hx,List.take_of_length_le (by omega)]
 ·rename_i hx;rw [Jfs h hx]
theorem Jft {l:List Int} (h:J15 l) (k:Nat):J15 (l.take k):=h.sublist (List.take_sublist _ _)
theorem J31 {K:Int} {ls:List Int} (h:J15 ls) (hK:(ls.length:Int)<=K) (x:Int):J15 (J0l K ls x)/\((J0l K ls x).length:Int)<=K:=by rw [J43 h hK];exact ⟨Jft (J5x h) _,by rw [List.length_take];omega⟩
def J0v (K:Int) (a b:List Int):List Int:=b.foldl (J0l K) a
theorem J1b {K:Int}:∀ {b a:List Int},J15 a->(a.length:Int)<=K->J0v K a b=(uni a b).take K.toNat
 | [],a,_,hK=>by
  show a=a.take _;rw [List.take_of_length_le (by omega)]
 | x::b,a,h,hK=>by show J0v K (J0l K a x) b=(uni (J1m x a) b).take _;have:=J31 h hK x;rw [J1b this.1 this.2,J43 h hK,J5e]
theorem J44 {K:Int} {a b:List Int} (h:J15 a) (hK:(a.length:Int)<=K):J15 (J0v K a b)/\((J0v K a b).length:Int)<=K:=by rw [J1b h hK];exact ⟨Jft (J2e h) _,by rw [List.length_take];omega⟩
theorem J7l {K:Int} {a b:List Int} (ha:J15 a) (hb:J15 b) (ka:(a.length:Int)<=K) (kb:(b.length:Int)<=K):J0v K a b=J0v K b a:=by rw [J1b ha ka,J1b hb kb];congr 1;exact J8g (J2e ha) (J2e hb) fun x=>by rw [J4r,J4r,or_comm]
theorem Jhz {K:Int} {a b c:List Int} (ha:J15 a) (hb:J15 b) (hc:J15 c) (ka:(a.length:Int)<=K) (kb:(b.length:Int)<=K) (_kc:(c.length:Int)<=K):J0v K (J0v K a b) c=J0v K a (J0v K b c):=by
 have h1:=J44 (b:=b) ha ka;have h2:=J44 (b:=c) hb kb;rw [J7l ha h2.1 ka h2.2,J1b h1.1 h1.2,J1b h2.1 h2.2,J1b ha ka,J1b hb kb,J5e,J5e];congr 1;refine J8g (J2e (J2e ha)) (J2e (J2e hb)) fun x=>?_;simp only [J4r];constructor
 ·rintro ((h|h)|h)
  ·exact .inr h
  ·exact .inl (.inl h)
  ·exact .inl (.inr h)
 ·rintro ((h|h)|h)
  ·exact .inl (.inr h)
  ·exact .inr h
  ·exact .inl (.inl h)
theorem Jls {K:Int} {a b:List Int} (ha:J15 a) (ka:(a.length:Int)<=K) {x:Int} (h:x∈J0v K a b):x∈a\/x∈b:=by rw [J1b ha ka] at h;exact J4r.1 (List.mem_of_mem_take h)
theorem Joh (a b:List Int):maxL a b=maxL b a:=by
 unfold maxL
 induction a generalizing b with
 | nil=>cases b<;>rfl
 | cons x a ih=>cases b with
  | nil=>rfl
  | cons y b=>simp only [List.zipWith_cons_cons,ih,Int.max_comm]
theorem Jlt (a b c:List Int):maxL (maxL a b) c=maxL a (maxL b c):=by
 unfold maxL
 induction a generalizing b c with
 | nil=>cases b<;>rfl
 | cons x a ih=>cases b with
  | nil=>cases c<;>rfl
  | cons y b=>cases c with
   | nil=>rfl
   | cons z c=>simp only [List.zipWith_cons_cons,ih,Int.max_assoc]
theorem J98 (x y:Int):wrap64 (x+y)=wrap64 (y+x):=by rw [Int.add_comm]
theorem J7x (x y z:Int):wrap64 (wrap64 (x+y)+z)=wrap64 (x+wrap64 (y+z)):=by unfold wrap64;omega
theorem Joi (a b:List Int):J0n a b=J0n b a:=by
 unfold J0n
 induction a generalizing b with
 | nil=>cases b<;>rfl
 | cons x a ih=>cases b with
  | nil=>rfl
  | cons y b=>simp only [List.zipWith_cons_cons,ih,J98 x y]
theorem Jlu (a b c:List Int):J0n (J0n a b) c=J0n a (J0n b c):=by
 unfold J0n
 induction a generalizing b c with
 | nil=>cases b<;>rfl
 | cons x a ih=>cases b with
  | nil=>cases c<;>rfl
  | cons y b=>cases c with
   | nil=>rfl
   | cons z c=>simp only [List.zipWith_cons_cons,ih,J7x x y z]
structure Bun where
 n:Int
 r:List Int
 h:List Int
 l:List Int
structure J8 where
 bits:Int
 K:Int
 ba:Option Addr
 nb:Nat
 cb:Nat
structure Jw (c:J8):Prop where
 b1:4<=c.bits
 b2:c.bits<=6
 k1:1<=c.K
 k2:c.K<=8
 nb:c.nb<=8
def I64 (x:Int):Prop:=-9223372036854775808<=x/\x<=9223372036854775807
structure Jl (c:J8) (B:Bun):Prop where
 r:B.r.length=2 ^ c.bits.toNat
 r8:∀ x∈B.r,0<=x/\x<=255
 h:B.h.length=c.nb+1
 h64:∀ x∈B.h,I64 x
 l:J15 B.l
 lK:(B.l.length:Int)<=c.K
 l64:∀ x∈B.l,0<=x/\x<=18446744073709551615
 n64:I64 B.n
 lne:B.l≠[]
def mg (c:J8) (a b:Bun):Bun:=⟨wrap64 (a.n+b.n),maxL a.r b.r,J0n a.h b.h,J0v c.K a.l b.l⟩
theorem J5q {f:Int->Int->Int} {z:Int}:∀ {a b:List Int},z∈a.zipWith f b->∃ x∈a,∃ y∈b,z=f x y
 | [],_,h=>by simp at h
 | _::_,[],h=>by simp at h
 | x::a,y::b,h=>by
  rw [List.zipWith_cons_cons,Jb8] at h;rcases h with rfl|h
  ·exact ⟨x,by simp,y,by simp,rfl⟩
  ·obtain ⟨p,hp,q,hq,e⟩:=J5q h;exact ⟨p,by simp [hp],q,by simp [hq],e⟩
theorem J6h (x:Int):I64 (wrap64 x):=by unfold I64 wrap64;omega
section
variable {c:J8} {a b d:Bun}
theorem Jl.mg (ha:Jl c a) (hb:Jl c b):Jl c (mg c a b):=by
 refine ⟨?_,fun x hx=>?_,?_,fun x hx=>?_,(J44 ha.l ha.lK).1,(J44 ha.l ha.lK).2,fun x hx=>?_,J6h _,?_⟩
 ·show (maxL a.r b.r).length=_;rw [J7i (by rw [ha.r,hb.r]),ha.r]
 ·obtain ⟨p,hp,q,hq,rfl⟩:=J5q hx;have:=ha.r8 p hp;have:=hb.r8 q hq;omega
 ·show (J0n a.h b.h).length=_;rw [J7j (by rw [ha.h,hb.h]),ha.h]
 ·obtain ⟨p,hp,q,hq,rfl⟩:=J5q hx;exact J6h _
 ·rcases Jls ha.l ha.lK hx with h|h
  ·exact ha.l64 x h
  ·exact hb.l64 x h
 ·show J0v c.K a.l b.l≠[];rw [J1b ha.l ha.lK];have h1:=ha.lne;have h2:=ha.lK;obtain ⟨x,hx⟩:=List.exists_mem_of_ne_nil _ h1;have h3:x∈uni a.l b.l:=J4r.2 (.inl hx);have h4:0<a.l.length:=List.length_pos_iff.2 h1;have h5:0<(uni a.l b.l).length:=List.length_pos_iff.2 (List.ne_nil_of_mem h3);intro e;have:=congrArg List.length e;simp only [List.length_take,List.length_nil] at this;omega
theorem Jkw (ha:Jl c a) (hb:Jl c b):mg c a b=mg c b a:=by unfold mg;rw [J98,Joh,Joi,J7l ha.l hb.l ha.lK hb.lK]
theorem Jbt (ha:Jl c a) (hb:Jl c b) (hd:Jl c d):mg c (mg c a b) d=mg c a (mg c b d):=by unfold mg;simp only;rw [J7x,Jlt,Jlu,Jhz ha.l hb.l hd.l ha.lK hb.lK hd.lK]
def om (c:J8) (z:Option Bun) (b:Bun):Option Bun:=match z with|none=>some b|some a=>some (mg c a b)
def Ji0 (c:J8) (x y:Option Bun):Option Bun:=match y with|none=>x|some b=>om c x b
def J1y (c:J8) (l:List Bun):Option Bun:=l.foldl (om c) none
def OOk (c:J8) (z:Option Bun):Prop:=∀ b,z=some b->Jl c b
theorem OOk.om {z:Option Bun} (hz:OOk c z) (hb:Jl c b):OOk c (om c z b):=by
 intro x hx;cases z with
 | none=>cases hx;exact hb
 | some a=>cases hx;exact (hz a rfl).mg hb
theorem Jv4 {z:Option Bun} (hz:OOk c z) (ha:Jl c a) (hb:Jl c b):om c (om c z a) b=om c (om c z b) a:=by
 cases z with
 | none=>exact congrArg some (Jkw ha hb)
 | some x=>
  have hx:=hz x rfl;show some _=some _;rw [Jbt hx ha hb,Jbt hx hb ha,Jkw ha hb]
theorem Jlv {l1 l2:List Bun} (hp:l1.Perm l2):(∀ b∈l1,Jl c b)->∀ z,OOk c z->l1.foldl (om c) z=l2.foldl (om c) z:=by
 induction hp with
 | nil=>exact fun _ _ _=>rfl
 | cons x _ ih=>exact fun h z hz=>ih (fun b hb=>h b (by simp [hb])) _ (hz.om (h x (by simp)))
 | swap x y l=>
  intro h z hz;simp only [List.foldl_cons];rw [Jv4 hz (h y (by simp)) (h x (by simp))]
 | trans h1 _ ih1 ih2=>exact fun h z hz=>(ih1 h z hz).trans (ih2 (fun b hb=>h b (h1.mem_iff.2 hb)) z hz)
theorem Jfu {l1 l2:List Bun} (hp:l1.Perm l2) (h:∀ b∈l1,Jl c b):J1y c l1=J1y c l2:=Jlv hp h none (fun _ h=>by cases h)
theorem Jr8 {l:List Bun} (h:∀ b∈l,Jl c b):∀ z,OOk c z->OOk c (l.foldl (om c) z):=by
 induction l with
 | nil=>exact fun z hz=>hz
 | cons x l ih=>exact fun z hz=>ih (fun b hb=>h b (by simp [hb])) _ (hz.om (h x (by simp)))
theorem Jv5 {l:List Bun} (h:∀ b∈l,Jl c b):OOk c (J1y c l):=Jr8 h none (fun _ h=>by cases h)
theorem Jv6 {x y:Option Bun} (hx:OOk c x) (hy:OOk c y) (hb:Jl c b):om c (Ji0 c x y) b=Ji0 c x (om c y b):=by
 cases y with
 | none=>rfl
 | some p=>
  have hp:=hy p rfl;cases x with
  | none=>rfl
  | some q=>
   show some _=some _;rw [Jbt (hx q rfl) hp hb]
theorem Joj {l:List Bun} (h:∀ b∈l,Jl c b):∀ x y,OOk c x->OOk c y->l.foldl (om c) (Ji0 c x y)=Ji0 c x (l.foldl (om c) y):=by
 induction l with
 | nil=>exact fun _ _ _ _=>rfl
 | cons b l ih=>
   intro x y hx hy;simp only [List.foldl_cons];have hb:=h b (by simp);rw [Jv6 hx hy hb,ih (fun d hd=>h d (by simp [hd])) x _ hx (hy.om hb)]
theorem J33 {l1 l2:List Bun} (h1:∀ b∈l1,Jl c b) (h2:∀ b∈l2,Jl c b):J1y c (l1++l2)=Ji0 c (J1y c l1) (J1y c l2):=by unfold J1y;rw [List.foldl_append];exact Joj h2 _ none (Jv5 h1) (fun _ h=>by cases h)
end
end Go.Sim.Z
namespace Go.Sim.Z
open Go Go.Proofs Go.RowKit Go.Shelf
section
variable {fr:Bool} {w w':World} {b:Nat} {pr:Option (Nat × Nat)} {K:Int} {ls:List Int}
theorem Jlw {g c':Nat} (hc:c'<=maxLen) (hg:w.heap.size<=g) (hrow:Row false w' g 45 .u64 ls c') (ht:Tch w.heap.size M0 w w') :
  ∃ b' r' c2,Ending.returned (Value.iface 126 (.pointer (some ⟨w'.heap.size,0,none⟩)))=.returned (.iface 126 (.pointer (some ⟨b',0,none⟩)))/\w.heap.size<=b'/\w.heap.size<=r'/\b'≠r'/\J0b false (w'.alloc (.cells #[.int .i64 K,.slice (some ⟨g,0,none⟩) ls.length c'] 128)) b' (some (r',c2)) K ls/\Tch w.heap.size M0 w (w'.alloc (.cells #[.int .i64 K,.slice (some ⟨g,0,none⟩) ls.length c'] 128)):=
 ⟨_,g,c',rfl,ht.size,hg,by have:=hrow.lt;omega,⟨⟨(0,0),Ja _,fun _=>rfl⟩,hrow.kept (J7 _ hrow.lt),hc⟩,ht.alloc ht.size _⟩
theorem Jr9 {r cap:Nat} {xs:List Int} (h:Row fr w r 45 .u64 xs cap) (hn:xs.length<=100000) (c:Nat):Calls Tryz.prog 176 #[.slice (some ⟨r,0,none⟩) xs.length c] w fun e w'=>∃ g c',e=.returned (.slice (some ⟨g,0,none⟩) xs.length c')/\c'<=maxLen/\w.heap.size<=g/\Row false w' g 45 .u64 xs c'/\Tch w.heap.size M0 w w':=by refine (Jku h hn c).mono ?_;rintro e w' ⟨g,c',h1,h2,h3,h4,h5⟩;exact ⟨g,c',h1,h5,h2,h3,h4⟩
theorem Jok {r c:Nat} (h:J0b fr w b (some (r,c)) K ls) (hn:ls.length<=1000) :
  Calls Tryz.prog 171 #[.pointer (some ⟨b,0,none⟩)] w fun e w'=>∃ b' r' c',e=.returned (.iface 126 (.pointer (some ⟨b',0,none⟩)))/\w.heap.size<=b'/\w.heap.size<=r'/\b'≠r'/\J0b false w' b' (some (r',c')) K ls/\Tch w.heap.size M0 w w':=by
 have c0:=h.c0;have c1:=h.c1;have hcl:=Jr9 (w:=w.drew) (h.row.1.kept rfl) (by omega) c;have hb:=h.hd.lt;simp only [lval] at c1
 go_enter Tryz.func171,Tryz.ntmps171
 go_wp2
 go_region_with (go_at_call 176;refine hcl.mono ?_;rintro e w' ⟨g,c',rfl,hc,hg,hrow,ht⟩;have d0:=(ht.cell (a:=⟨b,0,none⟩) hb (fun x=>x)).trans c0;have d1:=(ht.cell (a:=⟨b,1,none⟩) hb (fun x=>x)).trans c1)
 all_goals go_wp2
 all_goals go_ret
 all_goals exact Jlw hc hg hrow ht.J16
theorem Ji1 {r c:Nat} (h:J0b fr w b (some (r,c)) K ls) (hn:ls.length<=1000) :
  Calls Tryz.prog 173 #[.pointer (some ⟨b,0,none⟩)] w fun e w'=>∃ g c',e=.returned (.slice (some ⟨g,0,none⟩) ls.length c')/\w.heap.size<=g/\Row false w' g 45 .u64 ls c'/\Tch w.heap.size M0 w w':=by
 have c1:=h.c1;have hcl:=Jku h.row.1 (by omega) c;simp only [lval] at c1
 go_enter Tryz.func173,Tryz.ntmps173
 go_wp2_with (go_at_call 176;refine hcl.mono ?_;rintro e w' ⟨g,c',rfl,hg,hrow,ht,_⟩)
 go_ret;exact ⟨g,c',rfl,hg,hrow,ht⟩
theorem Jfv {K:Int}:∀ (ys ls:List Int),J15 ls->(ls.length:Int)<=K->J15 (ys.foldl (J0l K) ls)/\((ys.foldl (J0l K) ls).length:Int)<=K
 | [],_,h,hK=>⟨h,hK⟩
 | y::ys,ls,h,hK=>Jfv ys _ (J31 h hK y).1 (J31 h hK y).2
def J8h (w:World) (b:Nat) (pr:Option (Nat × Nat)) (K:Int) (ls:List Int) (w':World):Prop:=
 ∃ pr',J0b false w' b pr' K ls/\(∀ x,lpl pr' x->lpl pr x\/w.heap.size<=x)/\Tch w.heap.size (fun x=>x=b\/lpl pr x) w w'
theorem J8h.step {w1 w2:World} {ls2:List Int} {pr':Option (Nat × Nat)} {e:Ending} (h2:∀ x,lpl pr' x->lpl pr x\/w.heap.size<=x) (h3:Tch w.heap.size (fun x=>x=b\/lpl pr x) w w1) (k:Jgw w1 b pr' K ls2 e w2):J8h w b pr K ls2 w2:=by
 obtain ⟨_,pr2,k1,k2,k3⟩:=k;refine ⟨pr2,k1,fun x hx=>?_,h3.trans (k3.mono h3.size fun x hx hm=>?_)⟩
 ·rcases k2 x hx with h|h
  ·exact h2 x h
  ·exact .inr (Jb6 h3.size h)
 ·rcases hm with rfl|hm
  ·exact .inl rfl
  ·rcases h2 x hm with h|h
   ·exact .inr h
   ·omega
theorem Jlx {b2 r2 c2:Nat} {K2:Int} {ys:List Int} (h:J0b false w b pr K ls) (h2:J0b fr w b2 (some (r2,c2)) K2 ys) (hb:¬ lpl pr b) (hb2:b2≠b/\¬ lpl pr b2) (hr2:r2≠b/\¬ lpl pr r2) (hs:J15 ls) (hlK:(ls.length:Int)<=K) (hK:K<=1000) (hn:ys.length<=1000) :
  Calls Tryz.prog 172 #[.pointer (some ⟨b,0,none⟩),.iface 126 (.pointer (some ⟨b2,0,none⟩))] w fun e w'=>(∃ v,e=.returned v)/\J8h w b pr K (J0v K ls ys) w':=by
 have d0:=h2.c0;have d1:=h2.c1;have hta:=J02y (.pointer (some ⟨b2,0,none⟩)) w;have hbl:=h.hd.lt;have hb2l:=h2.hd.lt;have hr2l:=h2.row.1.lt;simp only [lval] at d1;have hys:ys.length=ys.length:=rfl;generalize hn':ys.length=n at *
 go_enter Tryz.func172,Tryz.ntmps172
 go_wp2
 go_loopw [12] (fun i wr=>∃ k:Nat,k<=n/\i=.int .i64 k/\J8h w b pr K (J0v K ls (ys.take k)) wr/\J0b fr wr b2 (some (r2,c2)) K2 ys) (fun i _=>n-(RowKit.intOf i).toNat)
 case atStart=>exact ⟨0,by omega,rfl,⟨pr,h,fun x hx=>.inl hx,.refl⟩,h2⟩
 case round=>
  obtain ⟨k,hk,rfl,hd,hs2⟩:=hrel;clear d0 d1;rcases Jb5 k n with hlt|hge
  ·have g1:=hs2.row.1.cell (i:=k) (hn'.symm▸hlt);have hlt':(k:Int)<n:=by omega
   have et:J0v K ls (ys.take (k+1))=J0l K (J0v K ls (ys.take k)) (ys.getD k 0):=by unfold J0v;rw [List.take_succ_eq_append_getElem (by omega),List.foldl_append,Ja7,Jb1 (by omega)];rfl
   generalize ys.getD k 0=y at *;have hri:=Jfv (ys.take k) ls hs hlK;have hcall:Calls Tryz.prog 170 #[.pointer (some ⟨b,0,none⟩),.int .u64 y,.int .i64 0] wr fun e w2=>(∃ v,e=.returned v)/\J8h w b pr K (J0v K ls (ys.take (k+1))) w2/\J0b fr w2 b2 (some (r2,c2)) K2 ys:=by
    obtain ⟨pr',q1,q2,q3⟩:=hd;have hbp:¬ lpl pr' b:=fun hx=>by rcases q2 b hx with h|h;exact hb h;omega
    have hle:(J0v K ls (ys.take k)).length<=1000:=by have:=hri.2;unfold J0v;omega
    refine (Jhx q1 hbp hle (hri.1.imp fun h=>by omega) ⟨by have:=hri.2;omega,hK⟩ y 0).mono ?_;rintro e w2 hp;have hv:=hp.1;have ht:=hp.2;obtain ⟨pr2,_,_,p3⟩:=ht;have out:∀ x,x<w.heap.size->x≠b->¬ lpl pr x->w2.heap[x]?=wr.heap[x]?:=fun x hx hxb hxp=>by
     refine p3.heap x (by have:=q3.size;omega) ?_;rintro (h|h)
     ·exact hxb h
     ·rcases q2 x h with h|h
      ·exact hxp h
      ·omega
    refine ⟨hv,J8h.step q2 q3 (by rw [et];exact hp),hs2.kept (out b2 hb2l hb2.1 hb2.2) fun x hx=>?_⟩;obtain ⟨c,hc⟩:=hx;cases hc;exact out _ hr2l hr2.1 hr2.2
   clear et hri hd hs2
   go_wp2_with (go_at_call 170;refine hcall.mono ?_;rintro e w2 ⟨⟨v,rfl⟩,hm2,hs3⟩)
   exact ⟨⟨k+1,by omega,by go_num,hm2,hs3⟩,by simp [RowKit.intOf];omega⟩
  ·have hge':¬ ((k:Int)<n):=by omega
   obtain rfl:k=n:=by omega
   have hnn:¬ ((k:Int)<k):=by omega
   go_wp2;go_end0;rw [List.take_of_length_le (by omega)] at hd;exact ⟨⟨_,rfl⟩,hd⟩
end
end Go.Sim.Z
namespace Go.Sim.Z
open Go Go.Proofs Go.RowKit
structure BP where
 b:Nat
 rb:Nat
 rr:Nat
 rc:Nat
 hb:Nat
 hr:Nat
 hc:Nat
 lb:Nat
 lr:Option (Nat × Nat)
def BP.pl (p:BP):List Nat:=[p.b,p.rb,p.rr,p.hb,p.hr,p.lb]++(match p.lr with|none=>[]|some (r,_)=>[r])
theorem Jv7 {o:Option (Nat × Nat)} {x:Nat}:x∈(match o with|none=>([]:List Nat)|some (r,_)=>[r])↔lpl o x:=by
 unfold lpl;cases o with
 | none=>simp
 | some q=>obtain ⟨r,c⟩:=q;simp [eq_comm]
theorem BP.mem {p:BP} {x:Nat}:x∈p.pl↔x=p.b\/x=p.rb\/x=p.rr\/x=p.hb\/x=p.hr\/x=p.lb\/lpl p.lr x:=by
 unfold BP.pl;rw [Jc9,Jv7];simp only [Jb8,Jc2,or_false];constructor
 ·rintro ((h|h|h|h|h|h)|h)<;>simp [h]
 ·rintro (h|h|h|h|h|h|h)<;>simp [h]
structure BP.Nd (p:BP):Prop where
 n1:p.b≠p.rb/\p.b≠p.rr/\p.b≠p.hb/\p.b≠p.hr/\p.b≠p.lb/\¬ lpl p.lr p.b
 n2:p.rb≠p.rr/\p.rb≠p.hb/\p.rb≠p.hr/\p.rb≠p.lb/\¬ lpl p.lr p.rb
 n3:p.rr≠p.hb/\p.rr≠p.hr/\p.rr≠p.lb/\¬ lpl p.lr p.rr
 n4:p.hb≠p.hr/\p.hb≠p.lb/\¬ lpl p.lr p.hb
 n5:p.hr≠p.lb/\¬ lpl p.lr p.hr
 n6:¬ lpl p.lr p.lb
structure Jz (fr:Bool) (w:World) (c:J8) (p:BP) (B:Bun):Prop where
 hd:Blk fr w p.b #[.int .i64 B.n,.iface 120 (.pointer (some ⟨p.rb,0,none⟩)),.iface 123 (.pointer (some ⟨p.hb,0,none⟩)),.iface 126 (.pointer (some ⟨p.lb,0,none⟩))] 95
 reg:J0i fr w p.rb p.rr p.rc c.bits B.r
 hist:J0f fr w p.hb p.hr p.hc c.ba c.nb c.cb B.h
 least:J0b fr w p.lb p.lr c.K B.l
 nd:p.Nd
section
variable {fr:Bool} {w w':World} {c:J8} {p:BP} {B:Bun}
theorem Jz.kept (h:Jz fr w c p B) (hh:∀ x∈p.pl,w'.heap[x]?=w.heap[x]?):Jz fr w' c p B:=
 have m {x:Nat} (h:x=p.b\/x=p.rb\/x=p.rr\/x=p.hb\/x=p.hr\/x=p.lb\/lpl p.lr x):=hh x (BP.mem.2 h)
 ⟨h.hd.kept (m (.inl rfl)),h.reg.kept (m (.inr (.inl rfl))) (m (.inr (.inr (.inl rfl)))),h.hist.kept (m (.inr (.inr (.inr (.inl rfl))))) (m (.inr (.inr (.inr (.inr (.inl rfl)))))),
  h.least.kept (m (.inr (.inr (.inr (.inr (.inr (.inl rfl))))))) fun x hx=>m (.inr (.inr (.inr (.inr (.inr (.inr hx)))))),h.nd⟩
theorem Jz.lt (h:Jz fr w c p B):∀ x∈p.pl,x<w.heap.size:=fun x hx=>by
 rcases BP.mem.1 hx with rfl|rfl|rfl|rfl|rfl|rfl|hx
 ·exact h.hd.lt
 ·exact h.reg.hd.lt
 ·exact h.reg.row.lt
 ·exact h.hist.hd.lt
 ·exact h.hist.row.lt
 ·exact h.least.hd.lt
 ·exact h.least.row.lt hx
theorem Jz.c0 (h:Jz fr w c p B):w.cell? ⟨p.b,0,none⟩=some (.int .i64 B.n):=(h.hd.cell 0).trans rfl
theorem Jz.c1 (h:Jz fr w c p B):w.cell? ⟨p.b,1,none⟩=some (.iface 120 (.pointer (some ⟨p.rb,0,none⟩))):=(h.hd.cell 1).trans rfl
theorem Jz.c2 (h:Jz fr w c p B):w.cell? ⟨p.b,2,none⟩=some (.iface 123 (.pointer (some ⟨p.hb,0,none⟩))):=(h.hd.cell 2).trans rfl
theorem Jz.c3 (h:Jz fr w c p B):w.cell? ⟨p.b,3,none⟩=some (.iface 126 (.pointer (some ⟨p.lb,0,none⟩))):=(h.hd.cell 3).trans rfl
end
structure J8i (w:World) (g:Nat) (arr:Array Value) (wr:World):Prop where
 blk:Blk false wr g arr 95
 tch:Tch w.heap.size M0 w wr
 le:w.heap.size<=g
theorem J8i.set {w wr w2:World} {g:Nat} {arr:Array Value} (h:J8i w g arr wr) (k:Tch wr.heap.size M0 wr w2) (i:Nat) (x:Value):J8i w g (arr.setIfInBounds i x) (w2.setCell ⟨g,i,none⟩ x):=
 ⟨(h.blk.kept (k.heap g h.blk.lt fun x=>x)).set i x,(h.tch.then k h.tch.size fun _ _ h=>h).set (.inl h.le) x,h.le⟩
theorem J8i.same {w wr w2:World} {g:Nat} {arr:Array Value} (_h:J8i w g arr wr) (k:Tch wr.heap.size M0 wr w2) (i:Nat) (x:Value) {y:Nat} (hy:y<wr.heap.size) (hne:y≠g):(w2.setCell ⟨g,i,none⟩ x).heap[y]?=wr.heap[y]?:=
 (Jk _ _ hne).trans (k.heap y hy fun x=>x)
theorem Jv8 (b:Nat) (w:World):(method 338 120 (.pointer (some ⟨b,0,none⟩)) "Add").run Tryz.prog w=.ok (156,.pointer (some ⟨b,0,none⟩)) w:=by kernel_rfl
theorem Jra (b:Nat) (w:World):(method 338 120 (.pointer (some ⟨b,0,none⟩)) "Copy").run Tryz.prog w=.ok (157,.pointer (some ⟨b,0,none⟩)) w:=by kernel_rfl
theorem Jol (b:Nat) (w:World):(method 338 120 (.pointer (some ⟨b,0,none⟩)) "Merge").run Tryz.prog w=.ok (158,.pointer (some ⟨b,0,none⟩)) w:=by kernel_rfl
theorem Jk6 (b:Nat) (w:World):(method 338 120 (.pointer (some ⟨b,0,none⟩)) "Numbers").run Tryz.prog w=.ok (159,.pointer (some ⟨b,0,none⟩)) w:=by kernel_rfl
theorem Jv9 (b:Nat) (w:World):(method 338 123 (.pointer (some ⟨b,0,none⟩)) "Add").run Tryz.prog w=.ok (163,.pointer (some ⟨b,0,none⟩)) w:=by kernel_rfl
theorem Jrb (b:Nat) (w:World):(method 338 123 (.pointer (some ⟨b,0,none⟩)) "Copy").run Tryz.prog w=.ok (164,.pointer (some ⟨b,0,none⟩)) w:=by kernel_rfl
theorem Jom (b:Nat) (w:World):(method 338 123 (.pointer (some ⟨b,0,none⟩)) "Merge").run Tryz.prog w=.ok (165,.pointer (some ⟨b,0,none⟩)) w:=by kernel_rfl
theorem Jk7 (b:Nat) (w:World):(method 338 123 (.pointer (some ⟨b,0,none⟩)) "Numbers").run Tryz.prog w=.ok (166,.pointer (some ⟨b,0,none⟩)) w:=by kernel_rfl
theorem Jva (b:Nat) (w:World):(method 338 126 (.pointer (some ⟨b,0,none⟩)) "Add").run Tryz.prog w=.ok (170,.pointer (some ⟨b,0,none⟩)) w:=by kernel_rfl
theorem Jrc (b:Nat) (w:World):(method 338 126 (.pointer (some ⟨b,0,none⟩)) "Copy").run Tryz.prog w=.ok (171,.pointer (some ⟨b,0,none⟩)) w:=by kernel_rfl
theorem Jon (b:Nat) (w:World):(method 338 126 (.pointer (some ⟨b,0,none⟩)) "Merge").run Tryz.prog w=.ok (172,.pointer (some ⟨b,0,none⟩)) w:=by kernel_rfl
theorem Jk8 (b:Nat) (w:World):(method 338 126 (.pointer (some ⟨b,0,none⟩)) "Numbers").run Tryz.prog w=.ok (173,.pointer (some ⟨b,0,none⟩)) w:=by kernel_rfl
theorem ix0 (a b c:Value) (w:World):(Instr.index 93 (.agg #[a,b,c]) (.int .i64 0)).run Tryz.prog w=.ok a w:=by simp [Instr.index,go_sem,Tryz.underlying93]
theorem ix1 (a b c:Value) (w:World):(Instr.index 93 (.agg #[a,b,c]) (.int .i64 1)).run Tryz.prog w=.ok b w:=by simp [Instr.index,go_sem,Tryz.underlying93]
theorem ix2 (a b c:Value) (w:World):(Instr.index 93 (.agg #[a,b,c]) (.int .i64 2)).run Tryz.prog w=.ok c w:=by simp [Instr.index,go_sem,Tryz.underlying93]
section
variable {fr:Bool} {w w':World} {c:J8} {p:BP} {B:Bun}
theorem Jvb (h:Jz fr w c p B) (hok:Jl c B) (hc:Jw c) :
  Calls Tryz.prog 94 #[.pointer (some ⟨p.b,0,none⟩)] w fun e w'=>∃ q:BP,e=.returned (.pointer (some ⟨q.b,0,none⟩))/\Jz false w' c q B/\(∀ x∈q.pl,w.heap.size<=x)/\Tch w.heap.size M0 w w':=by
 have hlen:(2:Nat) ^ c.bits.toNat<=1000:=by
  have h1:=hc.b1;have h2:=hc.b2;have:c.bits=4\/c.bits=5\/c.bits=6:=by omega
  rcases this with e|e|e<;>rw [e]<;>decide
 have c0:=h.c0;have c1:=h.c1;have c2:=h.c2;have c3:=h.c3;have hb:=h.hd.lt;have x0:=ix0 (.iface 120 (.pointer (some ⟨p.rb,0,none⟩))) (.iface 123 (.pointer (some ⟨p.hb,0,none⟩))) (.iface 126 (.pointer (some ⟨p.lb,0,none⟩)));have x1:=ix1 (.iface 120 (.pointer (some ⟨p.rb,0,none⟩))) (.iface 123 (.pointer (some ⟨p.hb,0,none⟩))) (.iface 126 (.pointer (some ⟨p.lb,0,none⟩)));have x2:=ix2 (.iface 120 (.pointer (some ⟨p.rb,0,none⟩))) (.iface 123 (.pointer (some ⟨p.hb,0,none⟩))) (.iface 126 (.pointer (some ⟨p.lb,0,none⟩)));have y0:=Jra p.rb;have y1:=Jrb p.hb;have y2:=Jrc p.lb;have hcp:J8i w w.heap.size #[.int .i64 B.n,.nilIface,.nilIface,.nilIface] (w.alloc (.cells #[.int .i64 B.n,.nilIface,.nilIface,.nilIface] 95)):=⟨⟨_,Ja _,fun _=>rfl⟩,Tch.refl.alloc (Ja2 _) _,Ja2 _⟩;have Jly:Jz fr (w.alloc (.cells #[.int .i64 B.n,.nilIface,.nilIface,.nilIface] 95)) c p B:=h.kept fun x hx=>J7 _ (h.lt x hx);have hlt:∀ x∈p.pl,x<w.heap.size:=h.lt;obtain ⟨rr,cc,hlr⟩:∃ rr cc,p.lr=some (rr,cc):=by
  have:=h.least.row;cases hp:p.lr with
  | none=>rw [hp] at this;exact absurd this hok.lne
  | some q=>exact ⟨q.1,q.2,rfl⟩
 go_enter Tryz.func94,Tryz.ntmps94
 go_wp2;refine wp_loop_rounds 4 ?_;rw [rounds_succ];go_wp2
 go_region_with (go_at_call 157;refine (Jv2 (w:=(w.alloc (.cells #[.int .i64 B.n,.nilIface,.nilIface,.nilIface] 95)).drew) (Jly.reg.kept rfl rfl) (by rw [hok.r];have:=hc.b2;have:=hc.b1;exact hlen)).mono ?_;rintro e w1 ⟨b1,r1,k1,rfl,hb1,hr1,hn1,Jty,ht1⟩;have f1:=(hcp.blk.kept (ht1.heap w.heap.size hcp.blk.lt fun x=>x)).cell 1;have f2:=(hcp.blk.kept (ht1.heap w.heap.size hcp.blk.lt fun x=>x)).frozen 1)
 have hcp1:J8i w w.heap.size #[.int .i64 B.n,.iface 120 (.pointer (some ⟨b1,0,none⟩)),.nilIface,.nilIface] (w1.setCell ⟨w.heap.size,1,none⟩ (.iface 120 (.pointer (some ⟨b1,0,none⟩)))):=hcp.set ht1.J16 1 _;have Jgx:Jz fr (w1.setCell ⟨w.heap.size,1,none⟩ (.iface 120 (.pointer (some ⟨b1,0,none⟩)))) c p B:=Jly.kept fun x hx=>hcp.same ht1.J16 1 _ (Jly.lt x hx) (by have:=hlt x hx;omega);have z0:(w.alloc (.cells #[.int .i64 B.n,.nilIface,.nilIface,.nilIface] 95)).drew.heap.size=w.heap.size+1:=size_alloc _;have Jcp:J0i false (w1.setCell ⟨w.heap.size,1,none⟩ (.iface 120 (.pointer (some ⟨b1,0,none⟩)))) b1 r1 k1 c.bits B.r:=Jty.kept (Jk _ _ (by show b1≠w.heap.size;omega)) (Jk _ _ (by show r1≠w.heap.size;omega));clear f1 f2 hcp Jty ht1 Jly;generalize w1.setCell ⟨w.heap.size,1,none⟩ (.iface 120 (.pointer (some ⟨b1,0,none⟩)))=W1 at *;have l1:=Jcp.hd.lt;have l1':=Jcp.row.lt;go_wp2;rw [rounds_succ];go_wp2
 go_region_with (go_at_call 164;refine (Jr3 (w:=W1.drew) (Jgx.hist.kept rfl rfl) (by rw [hok.h];have:=hc.nb;omega)).mono ?_;rintro e w2 ⟨b2,r2,k2,rfl,hb2,hr2,hn2,Jtz,ht2⟩;have f1:=(hcp1.blk.kept (ht2.heap w.heap.size hcp1.blk.lt fun x=>x)).cell 2;have f2:=(hcp1.blk.kept (ht2.heap w.heap.size hcp1.blk.lt fun x=>x)).frozen 2)
 have hcp2:J8i w w.heap.size #[.int .i64 B.n,.iface 120 (.pointer (some ⟨b1,0,none⟩)),.iface 123 (.pointer (some ⟨b2,0,none⟩)),.nilIface] (w2.setCell ⟨w.heap.size,2,none⟩ (.iface 123 (.pointer (some ⟨b2,0,none⟩)))):=hcp1.set ht2.J16 2 _;have Ju0:Jz fr (w2.setCell ⟨w.heap.size,2,none⟩ (.iface 123 (.pointer (some ⟨b2,0,none⟩)))) c p B:=Jgx.kept fun x hx=>hcp1.same ht2.J16 2 _ (Jgx.lt x hx) (by have:=hlt x hx;omega);have z1:W1.drew.heap.size=W1.heap.size:=rfl;have Jgy:J0i false (w2.setCell ⟨w.heap.size,2,none⟩ (.iface 123 (.pointer (some ⟨b2,0,none⟩)))) b1 r1 k1 c.bits B.r:=Jcp.kept (hcp1.same ht2.J16 2 _ l1 (by omega)) (hcp1.same ht2.J16 2 _ l1' (by omega));have Jcq:J0f false (w2.setCell ⟨w.heap.size,2,none⟩ (.iface 123 (.pointer (some ⟨b2,0,none⟩)))) b2 r2 k2 c.ba c.nb c.cb B.h:=Jtz.kept (Jk _ _ (by show b2≠w.heap.size;omega)) (Jk _ _ (by show r2≠w.heap.size;omega));clear f1 f2 hcp1 Jcp ht2 Jgx Jtz;generalize w2.setCell ⟨w.heap.size,2,none⟩ (.iface 123 (.pointer (some ⟨b2,0,none⟩)))=W2 at *;have l2:=Jcq.hd.lt;have l2':=Jcq.row.lt;have l3:=Jgy.hd.lt;have l3':=Jgy.row.lt;have hlw:J0b fr W2.drew p.lb (some (rr,cc)) c.K B.l:=by have:=Ju0.least;rw [hlr] at this;exact this.kept rfl fun _ _=>rfl
 go_wp2;rw [rounds_succ];go_wp2
 go_region_with (go_at_call 171;refine (Jok (r:=rr) (c:=cc) (w:=W2.drew) hlw (by have:=hok.lK;have:=hc.k2;omega)).mono ?_;rintro e w3 ⟨b3,r3,k3,rfl,hb3,hr3,hn3,Joo,ht3⟩;have f1:=(hcp2.blk.kept (ht3.heap w.heap.size hcp2.blk.lt fun x=>x)).cell 3;have f2:=(hcp2.blk.kept (ht3.heap w.heap.size hcp2.blk.lt fun x=>x)).frozen 3)
 have Jwr:J8i w w.heap.size #[.int .i64 B.n,.iface 120 (.pointer (some ⟨b1,0,none⟩)),.iface 123 (.pointer (some ⟨b2,0,none⟩)),.iface 126 (.pointer (some ⟨b3,0,none⟩))] (w3.setCell ⟨w.heap.size,3,none⟩ (.iface 126 (.pointer (some ⟨b3,0,none⟩)))):=hcp2.set ht3.J16 3 _;have z2:W2.drew.heap.size=W2.heap.size:=rfl;have J030:J0i false (w3.setCell ⟨w.heap.size,3,none⟩ (.iface 126 (.pointer (some ⟨b3,0,none⟩)))) b1 r1 k1 c.bits B.r:=Jgy.kept (hcp2.same ht3.J16 3 _ l3 (by omega)) (hcp2.same ht3.J16 3 _ l3' (by omega));have Jws:J0f false (w3.setCell ⟨w.heap.size,3,none⟩ (.iface 126 (.pointer (some ⟨b3,0,none⟩)))) b2 r2 k2 c.ba c.nb c.cb B.h:=Jcq.kept (hcp2.same ht3.J16 3 _ l2 (by omega)) (hcp2.same ht3.J16 3 _ l2' (by omega));have Jvc:J0b false (w3.setCell ⟨w.heap.size,3,none⟩ (.iface 126 (.pointer (some ⟨b3,0,none⟩)))) b3 (some (r3,k3)) c.K B.l:=Joo.kept (Jk _ _ (by show b3≠w.heap.size;omega)) fun x hx=>by obtain ⟨_,hx⟩:=hx;cases hx;exact Jk _ _ (by show r3≠w.heap.size;omega)
 clear f1 f2 hcp2 Jgy ht3 Ju0 Jcq Joo;generalize w3.setCell ⟨w.heap.size,3,none⟩ (.iface 126 (.pointer (some ⟨b3,0,none⟩)))=W3 at *;go_wp2;rw [rounds_succ];go_wp2;go_ret;refine ⟨⟨w.heap.size,b1,r1,k1,b2,r2,k2,b3,some (r3,k3)⟩,rfl,⟨Jwr.blk,J030,Jws,Jvc,?_⟩,fun x hx=>?_,Jwr.tch⟩
 ·have q:∀ x:Nat,lpl (some (r3,k3)) x↔x=r3:=fun x=>⟨fun ⟨_,h⟩=>by cases h;rfl,fun h=>⟨k3,by rw [h]⟩⟩;refine ⟨?_,?_,?_,?_,?_,?_⟩<;>simp only [q]<;>(try refine ⟨?_,?_⟩)<;>omega
 ·have q:∀ x:Nat,lpl (some (r3,k3)) x↔x=r3:=fun x=>⟨fun ⟨_,h⟩=>by cases h;rfl,fun h=>⟨k3,by rw [h]⟩⟩;rw [BP.mem] at hx;simp only [q] at hx;omega
end
theorem J031 (b:Nat) (w:World):(nilAhead 338 120 (.pointer (some ⟨b,0,none⟩)) "Merge").run Tryz.prog w=.ok (some false) w:=by kernel_rfl
theorem J032 (b:Nat) (w:World):(nilAhead 338 123 (.pointer (some ⟨b,0,none⟩)) "Merge").run Tryz.prog w=.ok (some false) w:=by kernel_rfl
theorem J033 (b:Nat) (w:World):(nilAhead 338 126 (.pointer (some ⟨b,0,none⟩)) "Merge").run Tryz.prog w=.ok (some false) w:=by kernel_rfl
section
variable {fr:Bool} {w wr w2:World} {c:J8} {p q:BP} {B B2:Bun}
structure J24 (fr:Bool) (w:World) (c:J8) (p q:BP) (B B2:Bun) (wr:World):Prop where
 l:Jz false wr c p B
 r:Jz fr wr c q B2
 dis:∀ x∈p.pl,x∉q.pl
 tch:Tch w.heap.size (fun x=>x∈p.pl) w wr
 lt:∀ x∈p.pl,x<w.heap.size
theorem J24.right (h:J24 fr w c p q B B2 wr) {y:Nat} (hy:y∈p.pl) (k:Tch wr.heap.size (fun x=>x=y) wr w2):Jz fr w2 c q B2:=
 h.r.kept fun x hx=>k.heap x (h.r.lt x hx) fun e=>h.dis y hy (e▸hx)
theorem J24.touch (h:J24 fr w c p q B B2 wr) {y:Nat} (hy:y∈p.pl) (k:Tch wr.heap.size (fun x=>x=y) wr w2):Tch w.heap.size (fun x=>x∈p.pl) w w2:=
 h.tch.then k h.tch.size fun _ _ e=>e▸hy
theorem J24.reg (h:J24 fr w c p q B B2 wr) {rs:List Int} (hr:J0i false w2 p.rb p.rr p.rc c.bits rs) (k:Tch wr.heap.size (fun x=>x=p.rr) wr w2):J24 fr w c p q { B with r:=rs } B2 w2:=by have hy:p.rr∈p.pl:=BP.mem.2 (.inr (.inr (.inl rfl)));have nd:=h.l.nd;have same:∀ x,x∈p.pl->x≠p.rr->w2.heap[x]?=wr.heap[x]?:=fun x hx hne=>k.heap x (h.l.lt x hx) hne;have m {x:Nat} (h:x=p.b\/x=p.rb\/x=p.rr\/x=p.hb\/x=p.hr\/x=p.lb\/lpl p.lr x):x∈p.pl:=BP.mem.2 h;refine ⟨⟨h.l.hd.kept (same _ (m (by simp)) nd.n1.2.1),hr,h.l.hist.kept (same _ (m (by simp)) (Ne.symm nd.n3.1)) (same _ (m (by simp)) (Ne.symm nd.n3.2.1)),h.l.least.kept (same _ (m (by simp)) (Ne.symm nd.n3.2.2.1)) fun x hx=>same _ (m (by simp [hx])) fun e=>nd.n3.2.2.2 (e▸hx),nd⟩,h.right hy k,h.dis,h.touch hy k,h.lt⟩
theorem J24.hist (h:J24 fr w c p q B B2 wr) {rs:List Int} (hr:J0f false w2 p.hb p.hr p.hc c.ba c.nb c.cb rs) (k:Tch wr.heap.size (fun x=>x=p.hr) wr w2):J24 fr w c p q { B with h:=rs } B2 w2:=by have hy:p.hr∈p.pl:=BP.mem.2 (by simp);have nd:=h.l.nd;have same:∀ x,x∈p.pl->x≠p.hr->w2.heap[x]?=wr.heap[x]?:=fun x hx hne=>k.heap x (h.l.lt x hx) hne;have m {x:Nat} (h:x=p.b\/x=p.rb\/x=p.rr\/x=p.hb\/x=p.hr\/x=p.lb\/lpl p.lr x):x∈p.pl:=BP.mem.2 h;refine ⟨⟨h.l.hd.kept (same _ (m (by simp)) nd.n1.2.2.2.1),h.l.reg.kept (same _ (m (by simp)) nd.n2.2.2.1) (same _ (m (by simp)) nd.n3.2.1),hr,h.l.least.kept (same _ (m (by simp)) (Ne.symm nd.n5.1)) fun x hx=>same _ (m (by simp [hx])) fun e=>nd.n5.2 (e▸hx),nd⟩,h.right hy k,h.dis,h.touch hy k,h.lt⟩
theorem J24.num (h:J24 fr w c p q B B2 wr) (n:Int):J24 fr w c p q { B with n:=n } B2 (wr.setCell ⟨p.b,0,none⟩ (.int .i64 n)):=by
 have hy:p.b∈p.pl:=BP.mem.2 (by simp);have nd:=h.l.nd;have same:∀ x,x≠p.b->(wr.setCell ⟨p.b,0,none⟩ (.int .i64 n)).heap[x]?=wr.heap[x]?:=fun x hne=>Jk _ _ hne;have k:Tch wr.heap.size (fun x=>x=p.b) wr (wr.setCell ⟨p.b,0,none⟩ (.int .i64 n)):=Tch.refl.set (.inr (show (fun x=>x=p.b) p.b from rfl)) _;exact ⟨⟨h.l.hd.set 0 _,h.l.reg.kept (same _ (Ne.symm nd.n1.1)) (same _ (Ne.symm nd.n1.2.1)),h.l.hist.kept (same _ (Ne.symm nd.n1.2.2.1)) (same _ (Ne.symm nd.n1.2.2.2.1)),h.l.least.kept (same _ (Ne.symm nd.n1.2.2.2.2.1)) fun x hx=>same _ fun e=>nd.n1.2.2.2.2.2 (e▸hx),nd⟩,h.right hy k,h.dis,h.touch hy k,h.lt⟩
theorem J24.drew (h:J24 fr w c p q B B2 wr):J24 fr w c p q B B2 wr.drew:=⟨h.l.kept fun _ _=>rfl,h.r.kept fun _ _=>rfl,h.dis,h.tch.drew,h.lt⟩
def J4w (w:World) (c:J8) (p:BP) (B:Bun) (w':World):Prop:=
 ∃ p':BP,p'.b=p.b/\Jz false w' c p' B/\(∀ x∈p'.pl,x∈p.pl\/w.heap.size<=x)/\Tch w.heap.size (fun x=>x∈p.pl) w w'
theorem J24.Jop (hl:Jz false wr c p B) (htc:Tch w.heap.size (fun x=>x∈p.pl) w wr) {ls:List Int} (hr:J8h wr p.lb p.lr c.K ls w2):J4w w c p { B with l:=ls } w2:=by
 obtain ⟨pr',h1,h2,k⟩:=hr;have nd:=hl.nd;have m {x:Nat} (h:x=p.b\/x=p.rb\/x=p.rr\/x=p.hb\/x=p.hr\/x=p.lb\/lpl p.lr x):x∈p.pl:=BP.mem.2 h;have same:∀ x,x∈p.pl->x≠p.lb->¬ lpl p.lr x->w2.heap[x]?=wr.heap[x]?:=fun x hx hne hn=>k.heap x (hl.lt x hx) fun e=>e.elim hne hn;have fresh:∀ x,x∈p.pl->¬ lpl p.lr x->¬ lpl pr' x:=fun x hx hn he=>by
  rcases h2 x he with h3|h3
  ·exact hn h3
  ·have:=hl.lt x hx;omega
 refine ⟨{ p with lr:=pr' },rfl,⟨hl.hd.kept (same _ (m (by simp)) nd.n1.2.2.2.2.1 nd.n1.2.2.2.2.2),hl.reg.kept (same _ (m (by simp)) nd.n2.2.2.2.1 nd.n2.2.2.2.2) (same _ (m (by simp)) nd.n3.2.2.1 nd.n3.2.2.2),hl.hist.kept (same _ (m (by simp)) nd.n4.2.1 nd.n4.2.2) (same _ (m (by simp)) nd.n5.1 nd.n5.2),h1,?_⟩,fun x hx=>?_,htc.then k htc.size fun x _ e=>?_⟩
 ·exact ⟨⟨nd.n1.1,nd.n1.2.1,nd.n1.2.2.1,nd.n1.2.2.2.1,nd.n1.2.2.2.2.1,fresh _ (m (by simp)) nd.n1.2.2.2.2.2⟩,⟨nd.n2.1,nd.n2.2.1,nd.n2.2.2.1,nd.n2.2.2.2.1,fresh _ (m (by simp)) nd.n2.2.2.2.2⟩,⟨nd.n3.1,nd.n3.2.1,nd.n3.2.2.1,fresh _ (m (by simp)) nd.n3.2.2.2⟩,⟨nd.n4.1,nd.n4.2.1,fresh _ (m (by simp)) nd.n4.2.2⟩,⟨nd.n5.1,fresh _ (m (by simp)) nd.n5.2⟩,fresh _ (m (by simp)) nd.n6⟩
 ·rcases BP.mem.1 hx with e|e|e|e|e|e|e
  ·exact .inl (m (.inl e))
  ·exact .inl (m (.inr (.inl e)))
  ·exact .inl (m (.inr (.inr (.inl e))))
  ·exact .inl (m (.inr (.inr (.inr (.inl e)))))
  ·exact .inl (m (.inr (.inr (.inr (.inr (.inl e))))))
  ·exact .inl (m (.inr (.inr (.inr (.inr (.inr (.inl e)))))))
  ·rcases h2 x e with h3|h3
   ·exact .inl (m (.inr (.inr (.inr (.inr (.inr (.inr h3)))))))
   ·exact .inr (Jb6 htc.size h3)
 ·rcases e with rfl|e
  ·exact m (by simp)
  ·exact m (by simp [e])
theorem J24.least (h:J24 fr w c p q B B2 wr) {ls:List Int} (hr:J8h wr p.lb p.lr c.K ls w2):J4w w c p { B with l:=ls } w2:=J24.Jop h.l h.tch hr
theorem Jrd (h:Jz false w c p B) (h2:Jz fr w c q B2) (hd:∀ x∈p.pl,x∉q.pl) (hok:Jl c B) (hok2:Jl c B2) (hc:Jw c) :
  Calls Tryz.prog 93 #[.pointer (some ⟨p.b,0,none⟩),.pointer (some ⟨q.b,0,none⟩)] w fun e w'=>(∃ v,e=.returned v)/\J4w w c p (mg c B B2) w':=by
 have hlen:(2:Nat) ^ c.bits.toNat<=1000:=by
  have h1:=hc.b1;have h2:=hc.b2;have:c.bits=4\/c.bits=5\/c.bits=6:=by omega
  rcases this with e|e|e<;>rw [e]<;>decide
 have c0:=h.c0;have c1:=h.c1;have c2:=h.c2;have c3:=h.c3;have cf:=h.hd.frozen 0;have d0:=h2.c0;have d1:=h2.c1;have d2:=h2.c2;have d3:=h2.c3;have hb:=h.hd.lt;have hb2:=h2.hd.lt;have hne:q.b≠p.b:=fun e=>hd p.b (BP.mem.2 (by simp)) (e▸BP.mem.2 (by simp));have x0:=ix0 (.iface 120 (.pointer (some ⟨p.rb,0,none⟩))) (.iface 123 (.pointer (some ⟨p.hb,0,none⟩))) (.iface 126 (.pointer (some ⟨p.lb,0,none⟩)));have x1:=ix1 (.iface 120 (.pointer (some ⟨p.rb,0,none⟩))) (.iface 123 (.pointer (some ⟨p.hb,0,none⟩))) (.iface 126 (.pointer (some ⟨p.lb,0,none⟩)));have x2:=ix2 (.iface 120 (.pointer (some ⟨p.rb,0,none⟩))) (.iface 123 (.pointer (some ⟨p.hb,0,none⟩))) (.iface 126 (.pointer (some ⟨p.lb,0,none⟩)));have y0:=Jol p.rb;have y1:=Jom p.hb;have y2:=Jon p.lb;have n0:=J031 p.rb;have n1:=J032 p.hb;have n2:=J033 p.lb;obtain ⟨rr,cc,hlr⟩:∃ rr cc,q.lr=some (rr,cc):=by
  have:=h2.least.row;cases hp:q.lr with
  | none=>rw [hp] at this;exact absurd this hok2.lne
  | some q=>exact ⟨q.1,q.2,rfl⟩
 have dlb:∀ x∈p.pl,q.lb≠x:=fun x hx e=>hd x hx (e▸BP.mem.2 (by simp));have dlr:∀ x∈p.pl,rr≠x:=fun x hx e=>hd x hx (e▸BP.mem.2 (.inr (.inr (.inr (.inr (.inr (.inr ⟨cc,hlr⟩)))))));have hm:J24 fr w c p q B B2 w:=⟨h,h2,hd,.refl,h.lt⟩
 go_enter Tryz.func93,Tryz.ntmps93
 go_wp2
 go_region
 have hm0:J24 fr w c p q { B with n:=wrap64 (B.n+B2.n) } B2 (w.setCell ⟨p.b,0,none⟩ (.int .i64 (wrap64 (B.n+B2.n)))).drew:=(hm.num _).drew;clear c0 c1 c2 c3 cf d0 d1 d2 d3 hm;generalize (w.setCell ⟨p.b,0,none⟩ (.int .i64 (wrap64 (B.n+B2.n)))).drew=W0 at *;have c1:=hm0.l.c1;have c2:=hm0.l.c2;have c3:=hm0.l.c3;have d1:=hm0.r.c1;go_wp2;refine wp_loop_rounds 4 ?_;rw [rounds_succ];go_wp2
 go_region_with (go_at_call 158;refine (Jr2 (w:=W0.drew) hm0.drew.l.reg hm0.drew.r.reg (by rw [show ({ B with n:=wrap64 (B.n+B2.n) }:Bun).r=B.r from rfl,hok.r,hok2.r]) (by rw [show ({ B with n:=wrap64 (B.n+B2.n) }:Bun).r=B.r from rfl,hok.r];exact hlen) h.nd.n2.1 (fun e=>hd p.rr (BP.mem.2 (by simp)) (e▸BP.mem.2 (by simp))) (fun e=>hd p.rr (BP.mem.2 (by simp)) (e▸BP.mem.2 (by simp)))).mono ?_;rintro e w1 ⟨⟨v1,rfl⟩,hr1,ht1⟩)
 all_goals have hm1:=hm0.drew.reg hr1 ht1
 all_goals clear c1 c2 c3 d1 hr1 ht1 hm0
 all_goals have d2:=hm1.r.c2
 all_goals go_wp2
 all_goals rw [rounds_succ]
 all_goals go_wp2
 all_goals go_region_with (go_at_call 165;refine (Joc (w:=w1.drew) hm1.drew.l.hist hm1.drew.r.hist (by show B.h.length=B2.h.length;rw [hok.h,hok2.h]) (by show B.h.length<=1000;rw [hok.h];have:=hc.nb;omega) h.nd.n4.1 (fun e=>hd p.hr (BP.mem.2 (by simp)) (e▸BP.mem.2 (by simp))) (fun e=>hd p.hr (BP.mem.2 (by simp)) (e▸BP.mem.2 (by simp)))).mono ?_;rintro e w2 ⟨⟨v2,rfl⟩,hr2,ht2⟩)
 all_goals have hm2:=hm1.drew.hist hr2 ht2
 all_goals clear d2 hr2 ht2 hm1
 all_goals have d3:=hm2.r.c3
 all_goals go_wp2
 all_goals rw [rounds_succ]
 all_goals go_wp2
 all_goals have hq:=hm2.drew.r.least
 all_goals rw [hlr] at hq
 all_goals go_region_with (go_at_call 172;refine (Jlx (w:=w2.drew) hm2.drew.l.least hq h.nd.n6 ⟨dlb p.lb (by simp [BP.mem]),fun e=>dlb q.lb (BP.mem.2 (.inr (.inr (.inr (.inr (.inr (.inr e))))))) rfl⟩ ⟨dlr p.lb (by simp [BP.mem]),fun e=>dlr rr (BP.mem.2 (.inr (.inr (.inr (.inr (.inr (.inr e))))))) rfl⟩ hok.l hok.lK (by have:=hc.k2;omega) (by have:=hok2.lK;have:=hc.k2;omega)).mono ?_;rintro e w3 ⟨⟨v3,rfl⟩,hr3⟩)
 all_goals have hm3:=hm2.drew.least hr3
 all_goals clear d3 hr3 hm2 hq
 all_goals go_wp2
 all_goals rw [rounds_succ]
 all_goals go_wp2
 all_goals go_end0
 all_goals exact ⟨⟨_,rfl⟩,hm3⟩
end
structure J5f (c:J8) (B:Bun):Prop where
 r:B.r.length=2 ^ c.bits.toNat
 r8:∀ x∈B.r,0<=x/\x<=255
 h:B.h.length=c.nb+1
 h64:∀ x∈B.h,I64 x
 l:J15 B.l
 lK:(B.l.length:Int)<=c.K
 l64:∀ x∈B.l,0<=x/\x<=18446744073709551615
 n64:I64 B.n
theorem Jl.zero {c:J8} {B:Bun} (h:Jl c B):J5f c B:=⟨h.r,h.r8,h.h,h.h64,h.l,h.lK,h.l64,h.n64⟩
def J5g (c:J8) (bs:List Int) (B:Bun) (x v:Int):Bun:=⟨wrap64 (B.n+1),J2i c.bits B.r x,J3s bs B.h v,J0l c.K B.l x⟩
theorem mem_set {l:List Int} {i:Nat} {a z:Int} (h:z∈l.set i a):z=a\/z∈l:=by
 rcases List.mem_or_eq_of_mem_set h with h|h
 ·exact .inr h
 ·exact .inl h
theorem J5f.add {c:J8} {bs:List Int} {B:Bun} (h:J5f c B) (hc:Jw c) (hbs:bs.length=c.nb) {x:Int} (hx:0<=x/\x<=18446744073709551615) (v:Int):Jl c (J5g c bs B x v):=by
 have ha:=J31 h.l h.lK x;have hr:=Jkv (bits:=c.bits) (x:=x) ⟨hc.b1,hc.b2⟩;have he:=J43 h.l h.lK x;refine ⟨J95.trans h.r,fun z hz=>?_,J7u.trans h.h,fun z hz=>?_,ha.1,ha.2,fun z hz=>?_,J6h _,?_⟩
 ·rcases mem_set hz with rfl|hz
  ·have:∀ z:Int,z=B.r.getD (J1k c.bits x) 0->0<=z/\z<=255:=fun z hz=>by
    rw [Ja7] at hz;cases hq:B.r[J1k c.bits x]? with
    | none=>rw [hq] at hz;simp at hz;omega
    | some y=>rw [hq] at hz;simp at hz;subst hz;exact h.r8 _ (Jd0 hq)
   have:=this _ rfl;omega
  ·exact h.r8 z hz
 ·rcases mem_set hz with rfl|hz
  ·exact J6h _
  ·exact h.h64 z hz
 ·have hz':z∈J0l c.K B.l x:=hz;rw [he] at hz';rcases J4l.1 (List.mem_of_mem_take hz') with rfl|h2
  ·exact hx
  ·exact h.l64 z h2
 ·show J0l c.K B.l x≠[];rw [he];have h1:x∈J1m x B.l:=J4l.2 (.inl rfl);have h2:0<(J1m x B.l).length:=List.length_pos_iff.2 (List.ne_nil_of_mem h1);have:=hc.k1;intro e;have:=congrArg List.length e;simp only [List.length_take,List.length_nil] at this;omega
section
variable {fr:Bool} {w wr w2:World} {c:J8} {p q:BP} {B:Bun} {bs:List Int} {ba:Option Addr}
theorem J4g.kept {w w':World} (h:J4g fr w ba bs) (hh:∀ bb,ba=some ⟨bb,0,none⟩->bb<w.heap.size->w'.heap[bb]?=w.heap[bb]?):J4g fr w' ba bs:=by
 rcases h with h|⟨bb,cap,rfl,h⟩
 ·exact .inl h
 ·exact .inr ⟨bb,cap,rfl,h.kept (hh bb rfl h.lt)⟩
structure J25 (w:World) (c:J8) (p:BP) (ba:Option Addr) (bs:List Int) (B:Bun) (wr:World):Prop where
 l:Jz false wr c p B
 r:J4g false wr ba bs
 dis:∀ x∈p.pl,ba≠some ⟨x,0,none⟩
 tch:Tch w.heap.size (fun x=>x∈p.pl) w wr
 lt:∀ x∈p.pl,x<w.heap.size
theorem J25.right (h:J25 w c p ba bs B wr) {y:Nat} (hy:y∈p.pl) (k:Tch wr.heap.size (fun x=>x=y) wr w2):J4g false w2 ba bs:=
 h.r.kept fun x hx hl=>k.heap x hl fun e=>h.dis y hy (e▸hx)
theorem J25.touch (h:J25 w c p ba bs B wr) {y:Nat} (hy:y∈p.pl) (k:Tch wr.heap.size (fun x=>x=y) wr w2):Tch w.heap.size (fun x=>x∈p.pl) w w2:=
 h.tch.then k h.tch.size fun _ _ e=>e▸hy
theorem J25.reg (h:J25 w c p ba bs B wr) {rs:List Int} (hr:J0i false w2 p.rb p.rr p.rc c.bits rs) (k:Tch wr.heap.size (fun x=>x=p.rr) wr w2):J25 w c p ba bs { B with r:=rs } w2:=by have hy:p.rr∈p.pl:=BP.mem.2 (.inr (.inr (.inl rfl)));have nd:=h.l.nd;have same:∀ x,x∈p.pl->x≠p.rr->w2.heap[x]?=wr.heap[x]?:=fun x hx hne=>k.heap x (h.l.lt x hx) hne;have m {x:Nat} (h:x=p.b\/x=p.rb\/x=p.rr\/x=p.hb\/x=p.hr\/x=p.lb\/lpl p.lr x):x∈p.pl:=BP.mem.2 h;refine ⟨⟨h.l.hd.kept (same _ (m (by simp)) nd.n1.2.1),hr,h.l.hist.kept (same _ (m (by simp)) (Ne.symm nd.n3.1)) (same _ (m (by simp)) (Ne.symm nd.n3.2.1)),h.l.least.kept (same _ (m (by simp)) (Ne.symm nd.n3.2.2.1)) fun x hx=>same _ (m (by simp [hx])) fun e=>nd.n3.2.2.2 (e▸hx),nd⟩,h.right hy k,h.dis,h.touch hy k,h.lt⟩
theorem J25.hist (h:J25 w c p ba bs B wr) {rs:List Int} (hr:J0f false w2 p.hb p.hr p.hc c.ba c.nb c.cb rs) (k:Tch wr.heap.size (fun x=>x=p.hr) wr w2):J25 w c p ba bs { B with h:=rs } w2:=by have hy:p.hr∈p.pl:=BP.mem.2 (by simp);have nd:=h.l.nd;have same:∀ x,x∈p.pl->x≠p.hr->w2.heap[x]?=wr.heap[x]?:=fun x hx hne=>k.heap x (h.l.lt x hx) hne;have m {x:Nat} (h:x=p.b\/x=p.rb\/x=p.rr\/x=p.hb\/x=p.hr\/x=p.lb\/lpl p.lr x):x∈p.pl:=BP.mem.2 h;refine ⟨⟨h.l.hd.kept (same _ (m (by simp)) nd.n1.2.2.2.1),h.l.reg.kept (same _ (m (by simp)) nd.n2.2.2.1) (same _ (m (by simp)) nd.n3.2.1),hr,h.l.least.kept (same _ (m (by simp)) (Ne.symm nd.n5.1)) fun x hx=>same _ (m (by simp [hx])) fun e=>nd.n5.2 (e▸hx),nd⟩,h.right hy k,h.dis,h.touch hy k,h.lt⟩
theorem J25.num (h:J25 w c p ba bs B wr) (n:Int):J25 w c p ba bs { B with n:=n } (wr.setCell ⟨p.b,0,none⟩ (.int .i64 n)):=by
 have hy:p.b∈p.pl:=BP.mem.2 (by simp);have nd:=h.l.nd;have same:∀ x,x≠p.b->(wr.setCell ⟨p.b,0,none⟩ (.int .i64 n)).heap[x]?=wr.heap[x]?:=fun x hne=>Jk _ _ hne;have k:Tch wr.heap.size (fun x=>x=p.b) wr (wr.setCell ⟨p.b,0,none⟩ (.int .i64 n)):=Tch.refl.set (.inr (show (fun x=>x=p.b) p.b from rfl)) _;exact ⟨⟨h.l.hd.set 0 _,h.l.reg.kept (same _ (Ne.symm nd.n1.1)) (same _ (Ne.symm nd.n1.2.1)),h.l.hist.kept (same _ (Ne.symm nd.n1.2.2.1)) (same _ (Ne.symm nd.n1.2.2.2.1)),h.l.least.kept (same _ (Ne.symm nd.n1.2.2.2.2.1)) fun x hx=>same _ fun e=>nd.n1.2.2.2.2.2 (e▸hx),nd⟩,h.right hy k,h.dis,h.touch hy k,h.lt⟩
theorem J25.least (h:J25 w c p ba bs B wr) {ls:List Int} (hr:J8h wr p.lb p.lr c.K ls w2):J4w w c p { B with l:=ls } w2:=J24.Jop h.l h.tch hr
theorem Jwt (h:Jz false w c p B) (hB:J4g false w c.ba bs) (hd:∀ x∈p.pl,c.ba≠some ⟨x,0,none⟩) (hok:J5f c B) (hc:Jw c) (hbs:bs.length=c.nb) (hso:bs.Pairwise (· < ·)) {x:Int} (hx:0<=x/\x<=18446744073709551615) (v:Int) :
  Calls Tryz.prog 28 #[.pointer (some ⟨p.b,0,none⟩),.int .u64 x,.int .i64 v] w fun e w'=>(∃ v,e=.returned v)/\J4w w c p (J5g c bs B x v) w':=by
 have c0:=h.c0;have c1:=h.c1;have c2:=h.c2;have c3:=h.c3;have cf:=h.hd.frozen 0;have x0:=ix0 (.iface 120 (.pointer (some ⟨p.rb,0,none⟩))) (.iface 123 (.pointer (some ⟨p.hb,0,none⟩))) (.iface 126 (.pointer (some ⟨p.lb,0,none⟩)));have x1:=ix1 (.iface 120 (.pointer (some ⟨p.rb,0,none⟩))) (.iface 123 (.pointer (some ⟨p.hb,0,none⟩))) (.iface 126 (.pointer (some ⟨p.lb,0,none⟩)));have x2:=ix2 (.iface 120 (.pointer (some ⟨p.rb,0,none⟩))) (.iface 123 (.pointer (some ⟨p.hb,0,none⟩))) (.iface 126 (.pointer (some ⟨p.lb,0,none⟩)));have y0:=Jv8 p.rb;have y1:=Jv9 p.hb;have y2:=Jva p.lb;have hm:J25 w c p c.ba bs B w:=⟨h,hB,hd,.refl,h.lt⟩;have hm0:=hm.num (wrap64 (B.n+1));have hnb:=hc.nb;have s1:∀ wr w1,J25 w c p c.ba bs { B with n:=wrap64 (B.n+1) } wr->J0i false w1 p.rb p.rr p.rc c.bits (J2i c.bits B.r x)->Tch wr.heap.size (fun y=>y=p.rr) wr w1->J25 w c p c.ba bs { B with n:=wrap64 (B.n+1),r:=J2i c.bits B.r x } w1:=fun wr w1 h h1 h2=>h.reg h1 h2;have t1:Hid (∀ wr,J25 w c p c.ba bs { B with n:=wrap64 (B.n+1) } wr->Calls Tryz.prog 156 #[.pointer (some ⟨p.rb,0,none⟩),.int .u64 x,.int .i64 v] wr fun e w'=>(∃ v,e=.returned v)/\J25 w c p c.ba bs { B with n:=wrap64 (B.n+1),r:=J2i c.bits B.r x } w'):=fun wr hr=>
  (Jwo hr.l.reg ⟨hc.b1,hc.b2⟩ hok.r hok.r8 h.nd.n2.1 hx v).mono fun e w' ⟨h1,h2,h3⟩=>⟨h1,hr.reg h2 h3⟩
 have t2:Hid (∀ wr,J25 w c p c.ba bs { B with n:=wrap64 (B.n+1),r:=J2i c.bits B.r x } wr->Calls Tryz.prog 163 #[.pointer (some ⟨p.hb,0,none⟩),.int .u64 x,.int .i64 v] wr fun e w'=>(∃ v,e=.returned v)/\J25 w c p c.ba bs { B with n:=wrap64 (B.n+1),r:=J2i c.bits B.r x,h:=J3s bs B.h v } w'):=fun wr hr=>by have hh:=hr.l.hist;rw [<- hbs] at hh;refine (Jv3 hh hr.r (by rw [hbs];omega) hso (hok.h.trans (by rw [hbs])) h.nd.n4.1 x v).mono fun e w' ⟨h1,h2,h3⟩=>⟨h1,?_⟩;rw [hbs] at h2;exact hr.hist h2 h3
 have t3:Hid (∀ wr,J25 w c p c.ba bs { B with n:=wrap64 (B.n+1),r:=J2i c.bits B.r x,h:=J3s bs B.h v } wr->Calls Tryz.prog 170 #[.pointer (some ⟨p.lb,0,none⟩),.int .u64 x,.int .i64 v] wr fun e w'=>(∃ v,e=.returned v)/\J4w w c p (J5g c bs B x v) w'):=fun wr hr=>
  (Jhx hr.l.least h.nd.n6 (by show B.l.length<=1000;have:=hok.lK;have:=hc.k2;omega) (hok.l.imp fun h=>by omega) ⟨by have:=hc.k1;omega,by have:=hc.k2;omega⟩ x v).mono fun e w' ⟨h1,h2⟩=>⟨h1,hr.least h2⟩
 clear s1 hm hnb
 go_enter Tryz.func28,Tryz.ntmps28
 go_wp2;clear c0 c1 c2 c3 cf;generalize w.setCell ⟨p.b,0,none⟩ (.int .i64 (wrap64 (B.n+1)))=W0 at *;refine wp_loop_rounds 4 ?_;rw [rounds_succ]
 go_wp2_with (go_at_call 156;refine (t1 _ hm0).mono ?_;rintro e w1 ⟨⟨v1,rfl⟩,hm1⟩)
 rw [rounds_succ]
 go_wp2_with (go_at_call 163;refine (t2 _ hm1).mono ?_;rintro e w2 ⟨⟨v2,rfl⟩,hm2⟩)
 rw [rounds_succ]
 go_wp2_with (go_at_call 170;refine (t3 _ hm2).mono ?_;rintro e w3 ⟨⟨v3,rfl⟩,hm3⟩)
 rw [rounds_succ];go_wp2;go_end0;exact ⟨⟨_,rfl⟩,hm3⟩
end
def Ju (c n:Int):Int:=(if c<0 then -(c+1) else c) % n
theorem J5h {c n:Int} (hn:0<n):0<=Ju c n/\Ju c n<n:=⟨Int.emod_nonneg _ (by omega),Int.emod_lt_of_pos _ hn⟩
theorem J3u {c n:Int} (hc:-9223372036854775808<=c/\c<=9223372036854775807) (hn:0<n) (hn2:n<=9223372036854775807) (w:World) :
  Calls Tryz.prog 8 #[.int .i64 c,.int .i64 n] w fun e w'=>e=.returned (.int .i64 (Ju c n))/\w'=w:=by
 obtain ⟨h1,h2⟩:=hc;have e:c<0->Ju c n=-(c+1).tmod n:=fun h=>by unfold Ju;rw [if_pos h,<- Int.tmod_eq_emod_of_nonneg (by omega),Int.neg_tmod]
 have e2:0<=c->Ju c n=c % n:=fun h=>by unfold Ju;rw [if_neg (by omega)]
 generalize Ju c n=p at *
 go_enter Tryz.func8,Tryz.ntmps8
 go_wp2
 ·go_ret;exact ⟨by rw [e (by assumption)];rfl,rfl⟩
 ·go_ret;exact ⟨by rw [e2 (by assumption)];rfl,rfl⟩
def J06:List Int:=[-5,0,10,1000]
theorem J9c {c:Int} (hc:-9223372036854775808<=c/\c<=9223372036854775807) (w:World) :
  Calls Tryz.prog 10 #[.int .i64 c] w fun e w'=>e=.returned (.agg #[.int .i64 3,.int .i64 (4+Ju c 1048576 % 3),.int .i64 (1+Ju c 1048576 / 3 % 8),.slice (some ⟨w.heap.size+1,0,none⟩) 4 4,.int .i64 c])/\w'=(w.alloc (.cells #[.int .i64 3,.int .i64 (4+Ju c 1048576 % 3),.int .i64 (1+Ju c 1048576 / 3 % 8),.slice (some ⟨w.heap.size+1,0,none⟩) 4 4,.int .i64 c] 35)).alloc (.cells #[.int .i64 (-5),.int .i64 0,.int .i64 10,.int .i64 1000] 3):=by
 have hp:=J3u hc (n:=1048576) (by omega) (by omega);have hb:=J5h (c:=c) (n:=1048576) (by omega);generalize Ju c 1048576=p at *;obtain ⟨b1,b2⟩:=hb
 go_enter Tryz.func10,Tryz.ntmps10
 go_wp2_with (go_at_call 8;refine (hp _).mono ?_;rintro e w1 ⟨rfl,rfl⟩)
 refine bodyPost_ret (v:=.agg #[.int .i64 3,.int .i64 (4+p % 3),.int .i64 (1+p / 3 % 8),.slice (some ⟨w.heap.size+1,0,none⟩) 4 4,.int .i64 c]) ?_ rfl ?_
 ·simp [results,Tryz.results10,go_sem]
 ·exact ⟨rfl,rfl⟩
def J17 (c:J8) (Jf2 seed:Int):Array Value:=#[.int .i64 Jf2,.int .i64 c.bits,.int .i64 c.K,.slice c.ba c.nb c.cb,.int .i64 seed]
theorem Jbl {fr:Bool} {w:World} {c:J8} {bb cap:Nat} {bs:List Int} (hc:Jw c) (h:Row fr w bb 3 .i64 bs cap) (hba:c.ba=some ⟨bb,0,none⟩) (hnb:c.nb=bs.length) (hp:bs.Pairwise (· < ·)) (seed:Int) :
  Calls Tryz.prog 46 #[.agg (J17 c 3 seed)] w fun e w'=>e=.returned (.bool true)/\Tch w.heap.size M0 w w':=by
 obtain ⟨b1,b2,k1,k2,nb⟩:=hc;have hcell:∀ wr,Tch w.heap.size M0 w wr->∀ i,i<bs.length->wr.cell? ⟨bb,i,none⟩=some (.int .i64 (bs.getD i 0)):=fun wr ht i hi=>(h.tch ht h.lt fun x=>x).cell hi;have hinc:∀ i,0<i->i<bs.length->bs.getD (i-1) 0<bs.getD i 0:=fun i h0 hi=>by have:=List.pairwise_iff_getElem.1 hp (i-1) i (by omega) hi (by omega);simpa [Ja7,hi,show i-1<bs.length by omega] using this
 clear h hp;rw [hnb] at nb;unfold J17;rw [hba,hnb];generalize bs.length=n at *;generalize c.bits=bits at *;generalize c.K=K at *;generalize c.cb=cb at *
 go_enter Tryz.func46,Tryz.ntmps46
 go_wp2
 go_loopw [39] (fun i wr=>∃ k:Nat,k<=n/\i=.int .i64 k/\Tch w.heap.size M0 w wr/\wr.cell? ⟨w.heap.size,3,none⟩=some (.slice (some ⟨bb,0,none⟩) n cb)) (fun i _=>n-(RowKit.intOf i).toNat)
 case atStart=>exact ⟨0,by omega,rfl,Tch.refl.alloc (Ja2 _) _,(cell_of (Ja _) 3).trans rfl⟩
 case round=>
  obtain ⟨k,hk,rfl,ht,hb⟩:=hrel;rcases Jb5 k n with hlt|hge
  ·have g2:=hcell _ ht k hlt;have hlt':(k:Int)<n:=by omega
   rcases Nat.eq_zero_or_pos k with hk0|hpos
   ·have hk1:¬ (0:Int)<k:=by omega
    clear hcell hinc g2;go_wp2
    go_region
    go_wp2;refine ⟨⟨k+1,by omega,by go_num,ht.drew,hb⟩,by simp [RowKit.intOf];omega⟩
   ·have g1:=hcell _ ht (k-1) (by omega);have hi:=hinc k hpos hlt;have hk1:(k:Int)-1=((k-1:Nat):Int):=by omega
    have hp1:(0:Int)<k:=by omega
    generalize bs.getD (k-1) 0=x at *;generalize bs.getD k 0=y at *;clear hcell hinc;go_wp2
    go_region
    go_wp2;refine ⟨⟨k+1,by omega,by go_num,ht.drew,hb⟩,by simp [RowKit.intOf];omega⟩
  ·have hge':¬ ((k:Int)<n):=by omega
   clear hcell hinc;go_wp2;go_ret;exact ⟨rfl,ht⟩
end Go.Sim.Z
