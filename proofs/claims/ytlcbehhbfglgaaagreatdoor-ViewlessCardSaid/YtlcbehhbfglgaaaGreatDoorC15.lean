/- Proved: laws for the claim. No conditions. -/
import Derived.Test.YtlcbehhbfglgaaaGreatDoorC00
import Derived.Test.YtlcbehhbfglgaaaGreatDoorC10
import Derived.Test.YtlcbehhbfglgaaaGreatDoorC14
set_option linter.all false
set_option maxHeartbeats 1000000
open Go.Proofs.Tryz
noncomputable section
namespace Go.Sim.Z
open Go Go.Proofs Go.RowKit Go.Maps Go.Sort Go.Shelf
instance:Inhabited Je:=⟨⟨[0,0,0,0,0],rfl,by decide⟩⟩
def Me(x:Je):List JJ:=x.1.map (Value.int .i64)
def Vb(x y:Je):Int:=cmpK x.1 y.1
def vJ(x y:Int):(Lib.compareInt x y=-1/\x<y)\/(Lib.compareInt x y=0/\x=y)\/(Lib.compareInt x y=1/\y<x):=by
 unfold Lib.compareInt;split
 .exact .inl ⟨rfl,by assumption⟩
 .split
  .exact .inr (.inr ⟨rfl,by assumption⟩)
  .exact .inr (.inl ⟨rfl,by omega⟩)
def Jh6:∀x:JD,cmpK x x=0
 |[]=>rfl
 |x::xs=>by
  unfold cmpK;rcases vJ x x with⟨h,h'⟩|⟨h,_⟩|⟨h,h'⟩
  .omega
  .rw[if_pos h];exact Jh6 xs
  .omega
def Jdy:∀{x y z:JD},x.length=y.length->y.length=z.length->cmpK x y<0->cmpK y z<0->cmpK x z<0
 |[],_,_,_,_,h,_=>by unfold cmpK at h;simp at h
 |_::_,[],_,h,_,_,_=>by simp at h
 |_::_,_::_,[],_,h,_,_=>by simp at h
 |x::xs,y::ys,z::zs,h1,h2,h3,h4=>by
  simp only[Lh,Nat.add_right_cancel_iff]at h1 h2;unfold cmpK at h3 h4 ⊢;rcases vJ x y with⟨e1,_⟩|⟨e1,_⟩|⟨e1,_⟩<;>rcases vJ y z with⟨e2,_⟩|⟨e2,_⟩|⟨e2,_⟩<;>rcases vJ x z with⟨e3,_⟩|⟨e3,_⟩|⟨e3,_⟩ <;>
   simp[e1,e2,e3]at h3 h4 ⊢<;>first|omega|exact Jdy h1 h2 h3 h4
def Jce:∀{x y z:JD},x.length=y.length->y.length=z.length->¬cmpK x y<0->¬cmpK y z<0->¬cmpK x z<0
 |[],_,_,_,_,_,_=>by unfold cmpK;simp
 |_::_,[],_,h,_,_,_=>by simp at h
 |_::_,_::_,[],_,h,_,_=>by simp at h
 |x::xs,y::ys,z::zs,h1,h2,h3,h4=>by
  simp only[Lh,Nat.add_right_cancel_iff]at h1 h2;unfold cmpK at h3 h4 ⊢;rcases vJ x y with⟨e1,_⟩|⟨e1,_⟩|⟨e1,_⟩<;>rcases vJ y z with⟨e2,_⟩|⟨e2,_⟩|⟨e2,_⟩<;>rcases vJ x z with⟨e3,_⟩|⟨e3,_⟩|⟨e3,_⟩ <;>
   simp[e1,e2,e3]at h3 h4 ⊢<;>first|omega|exact Int.not_lt.1 (Jce h1 h2 (Int.not_lt.2 h3) (Int.not_lt.2 h4))
def Jdz:∀{x y:JD},x.length=y.length->¬cmpK x y<0->¬cmpK y x<0->x=y
 |[],[],_,_,_=>rfl
 |[],_::_,h,_,_=>by simp at h
 |_::_,[],h,_,_=>by simp at h
 |x::xs,y::ys,h1,h3,h4=>by
  simp only[Lh,Nat.add_right_cancel_iff]at h1;unfold cmpK at h3 h4;rcases vJ x y with⟨e1,_⟩|⟨e1,_⟩|⟨e1,_⟩<;>rcases vJ y x with⟨e2,_⟩|⟨e2,_⟩|⟨e2,_⟩ <;>
   simp[e1,e2]at h3 h4<;>try omega
  subst x;rw[Jdz h1 (Int.not_lt.2 h3) (Int.not_lt.2 h4)]
def ltK(x y:Je):ltOf Vb x y=decide (cmpK x.1 y.1<0):=rfl
def len_eq(x y:Je):x.1.length=y.1.length:=x.2.1.trans y.2.1.symm
def swoK:SWO (ltOf Vb) where
 irrefl x:=by rw[ltK,Jh6];rfl
 trans x y z h1 h2:=by rw[ltK]at *;simp only[decide_eq_true_eq]at *;exact Jdy (len_eq x y) (len_eq y z) h1 h2
 ntrans x y z h1 h2:=by rw[ltK]at *;simp only[decide_eq_false_iff_not]at *;exact Jce (len_eq x y) (len_eq y z) h1 h2
theorem Jvn(x y:Je)(h1:ltOf Vb x y=false)(h2:ltOf Vb y x=false):x=y:=by rw[ltK]at *;simp only[decide_eq_false_iff_not]at *;exact Subtype.ext (Jdz (len_eq x y) h1 h2)
def Jtv(blk off size:Nat)(w:JE):CmpLays prog 89 #[] Me 5 Vb blk off size w:=by intro m os dk _ x y;refine(Jid x.1 y.1 x.2.1 y.2.1 _).mono ?_;rintro e w' ⟨rfl,rfl⟩;exact⟨rfl,(((Tch.refl.alloc (Ad _) _).alloc (by rw[size_alloc];omega) _).drew).grown (Nat.le_succ _)⟩
def YJ(w:JE)(base:Nat)(v:JJ)(ks:List Je):Prop:=
 (v=.slice none 0 0/\ks=[]) \/
 ∃(g cap:Nat)(cur:JC),v=JM g ks.length cap/\base<=g/\w.heap[g]?=some (.cells cur 104)/\ks.length<=cap/\cap<=maxLen/\cur.size=cap*5/\Plain cur/\cur.toList.take (ks.length*5)=Gw ks
def sortK(ss:List Je):List Je:=ss.mergeSort λx y=>!ltOf Vb y x
def flat_get(d:Array Je)(t:Nat)(h:t<d.size*5):(Gw d.toList)[t]?=some ((flatK Me 5 d)[t]!):=by
 rw[get_flatK _ _ _ _ h];have hd:t / 5<d.size:=by omega
 rw[getElem!_pos d (t / 5) hd];have gen:∀(l:List Je)(t:Nat)(ht:t / 5<l.length),(Gw l)[t]?=some ((Me l[t / 5])[t % 5]!):=by
  intro l
  induction l with
  |nil=>intro t ht;simp at ht
  |cons x l ih=>
   intro t ht;have e:Gw (x::l)=Me x++Gw l:=rfl;have hl:(Me x).length=5:=by simp[Me,x.2.1]
   rw[e,List.getElem?_append];by_cases h5:t<5
   .have e0:t / 5=0:=by omega
    have e1:t % 5=t:=by omega
    simp only[hl,h5,if_true,e0,List.getElem_cons_zero,e1];rw[DL (by omega),getElem!_pos _ _ (by omega)]
   .rw[if_neg (by omega),hl,ih (t-5) (by simp at ht;omega)];have e0:t / 5=(t-5) / 5+1:=by omega
    have e1:(t-5) % 5=t % 5:=by omega
    simp only[e0,List.getElem_cons_succ,e1]
 have:=gen d.toList t (by simpa using hd);simpa using this
def Jtw{w:JE}{g n b:Nat}{arr:Array Je}{os:Array Obj}(hb:b<w.heap.size)(Ap:b≠g):(sortWorldK Me 5 w g 0 n arr os).heap[b]?=w.heap[b]?:=by show((w.heap.modify g (onCells _))++os)[b]?=_;rw[Array.getElem?_append_left (by simpa using hb),Array.getElem?_modify,if_neg (Ne.symm Ap)]
def J04p{w:JE}{g n:Nat}{arr:Array Je}{os:Array Obj}{cur:JC}{t:JH}{z:Nat × Nat}(h:w.heap[g]?=some (.cells cur t z)) :
  (sortWorldK Me 5 w g 0 n arr os).heap[g]?=some (.cells (putCells id 0 (flatK Me 5 arr) cur) t z):=by
 show((w.heap.modify g (onCells _))++os)[g]?=_;rw[Array.getElem?_append_left (by simpa using Jj h),Array.getElem?_modify,if_pos rfl,h];rfl
def Jyg{w:JE}{g n:Nat}{arr:Array Je}{os:Array Obj}:w.heap.size<=(sortWorldK Me 5 w g 0 n arr os).heap.size:=by show _<=((w.heap.modify g (onCells _))++os).size;simp
def Jnk{ss:List Je}:∀v∈Gw ss,IsInt v:=λv hv=>by obtain⟨x,_,hx⟩:=List.mem_flatMap.1 hv;obtain⟨n,_,rfl⟩:=AZ.1 hx;exact⟨_,_,rfl⟩
def Plain.put{cur:JC}{arr:Array Je}(h:Plain cur):Plain (putCells id 0 (flatK Me 5 arr) cur):=.TA λi v hv=>by
 unfold putCells at hv;rw[Array.getElem?_mapIdx]at hv;obtain⟨x,hx,rfl⟩:=Fh.1 hv;split
 .rename_i hc;rw[size_flatK]at hc;have:=flat_get arr i (by omega);exact Jnk _ (NR this)
 .exact h.at hx
def Jnl(base:Nat)(v:JJ)(ss:List Je)(w:JE)(h:PR w base v ss)(hl:ss.length<=1000000) :
  Calls prog 88 #[v,.func (.func 89) #[] #[]] w λe w'=>e=.returned (.tuple #[])/\YJ w' base v (sortK ss)/\Tch base M0 w w':=by
 obtain⟨⟨hlen,⟨rfl,h0⟩|⟨g,cap,cur,rfl,hb,hg,DF,Nh,vY,Xq⟩⟩,D8⟩:=h
 .have:ss=[]:=List.length_eq_zero_iff.1 h0;subst this;refine(AnyF.slices_SortFunc_none Tryz.sortK none 0 _ w).mono ?_;rintro e w' ⟨rfl,rfl⟩;exact⟨rfl,.inl ⟨rfl,by simp[sortK]⟩,.refl⟩
 .have xK:g<w.heap.size:=Jj hg;have Aq:∀t,t<ss.length*5->cur[t]?=some ((flatK Me 5 ss.toArray)[t]!):=by intro t ht;rw[<- flat_get ss.toArray t (by simpa using ht)];simp only[<- Xq];rw[List.getElem?_take,if_pos ht];simp
  have hH:HoldsK Me 5 w g 0 ss.toArray:=by intro j hj;rw[size_flatK]at hj;rw[Nat.zero_add];exact⟨by rw[cell_of hg];exact Aq j (by simpa using hj),FZ hg j⟩
  have eg:∀args w,(callFunc 89 args).run prog w=.ok (.enter 89 args) w:=enters_of func89 (by kernel_rfl) rfl;have QH:=AnyQ.slices_SortFunc_total Tryz.sortK 5 isAgg104 sizeOf104 Me (λx=>by simp[Me,x.2.1]) (λx u hu=>by simp only[Me,AZ]at hu;obtain⟨n,_,rfl⟩:=hu;rfl) Vb swoK 89 #[] g 0 cap ss.toArray w eg (Jtv g 0 _ w) hH xK (by simp;omega) Jvn;change Calls prog 88 _ _ _ at QH;simp only[List.size_toArray]at QH;refine QH.mono ?_;rintro e w' ⟨rfl,n,os,rfl⟩;have CX:(sortK ss).length=ss.length:=List.length_mergeSort _;refine⟨rfl,.inr ⟨g,cap,_,by rw[CX],hb,J04p hg,by omega,Nh,by simpa[putCells]using vY,Plain.put (D8 g _ cap rfl cur 104 _ hg),?_⟩,⟨Jyg,λb BO _=>Jtw (by omega) (by omega),rfl,rfl,rfl⟩⟩;apply List.ext_getElem?;intro t;rw[List.getElem?_take,CX];split
  .rename_i ht;have hf:=flat_get (sortK ss).toArray t (by simp[CX];omega);rw[show(sortK ss).toArray.toList=sortK ss from rfl]at hf;rw[hf];have FH:t<cur.size:=by omega
   have e0:(List.mergeSort ss λx y=>!ltOf Vb y x)=sortK ss:=rfl;simp[putCells,FH,e0,CX,ht]
  .rename_i ht;rw[List.getElem?_eq_none (by rw[Jhf,CX];omega)]
def keysOf(L:List (JD × JJ))(ks:List Je):Prop:=∃ss,KeysOf L ss/\ks=sortK ss
def J73(b:Nat)(L:List (JD × JJ))(w:JE)(hm:Cm w b L)(hN:L.length<=1000000) :
  Calls prog 47 #[.map (some b)] w λe w'=>∃v ks,e=.returned v/\keysOf L ks/\YJ w' (w.heap.size+1) v ks/\Tch w.heap.size M0 w w':=by
 have uG:=Jig b L w hm hN
 go_enter func47,ntmps47
 go_wp2_with (first
  |(go_at_call 87;refine(Jmd _ _).mono ?_;rintro e w' ⟨rfl,rfl⟩)
  |(go_at_call 86;refine uG.mono ?_;rintro e w1 ⟨v,ss,rfl,hS,Aj,Ej,hb⟩;have QX:=Jnl (w.heap.size+1) v ss w1 Aj (by have:=hS.length_eq;simp at this;omega);clear Aj Ej)
  |(go_at_call 88;refine QX.mono ?_;rintro e w2 ⟨rfl,hk,ht⟩))
 go_ret;refine⟨_,_,rfl,⟨ss,hS,rfl⟩,hk,?_⟩;have h1:Tch w.heap.size M0 w (w.alloc (.cells #[.map (some b)] 95)):=Tch.refl.alloc (Ad _) _;have h2:Tch (w.heap.size+1) M0 (w.alloc (.cells #[.map (some b)] 95)) w1:=.of_below hb;exact(h1.trans (h2.mono (by omega) λb _ h=>h)).trans (ht.mono (by omega) λb _ h=>h)
def Jx0:Array.replicate 46 JA=#[JA,JA,JA,JA,JA,JA,JA,JA,JA,JA,JA,JA,JA,JA,JA,JA,JA,JA,JA,JA,JA,JA,JA,JA,JA,JA,JA,JA,JA,JA,JA,JA,JA,JA,JA,JA,JA,JA,JA,JA,JA,JA,JA,JA,JA,JA]:=by kernel_rfl
def R0(src mk:Nat)(fb:PV):JC:=#[.map (some src),JK (mk:Int),fb.val,JA,JA,JA,JA,JA,JA,JA,JA,JA,JA,JA,JA,JA,JA,JA,JA,JA,JA,JA,JA,JA,JA,JA,JA,JA,JA,JA,JA,JA,JA,JA,JA,JA,JA,JA,JA,JA,JA,JA,JA,JA,JA,JA,JA,JA,JA]
def R1(src mk:Nat)(fb:PV)(n3 n4 n5:Nat):JC:=#[.map (some src),JK (mk:Int),fb.val,JL n3,JL n4,JL n5,.map none,JA,JA,JA,JA,JA,JA,JA,JA,JA,JA,JA,JA,JA,JA,JA,JA,JA,JA,JA,JA,JA,JA,JA,JA,JA,JA,JA,JA,JA,JA,JA,JA,JA,JA,JA,JA,JA,JA,JA,JA,JA,JA]
def R2a(src mk:Nat)(fb:PV)(n3 n4 n5:Nat)(v:JJ)(n7:Nat):JC:=#[.map (some src),JK (mk:Int),fb.val,JL n3,JL n4,JL n5,.map none,JL n7,JA,JA,JA,JA,JA,JA,JA,JA,.map (some src),v,JA,JA,JA,JA,JA,JA,JA,JA,JA,JA,JA,JA,JA,JA,JA,JA,JA,JA,JA,JA,JA,JA,JA,JA,JA,JA,JA,JA,JA,JA,JA]
def R3a(src mk:Nat)(fb:PV)(n3 n4 n5:Nat)(v:JJ)(n7 n8:Nat):JC:=#[.map (some src),JK (mk:Int),fb.val,JL n3,JL n4,JL n5,.map none,JL n7,JL n8,JA,JA,JA,JA,JA,JA,JA,.map (some src),v,JA,JA,JA,JA,JA,JA,JA,JA,JA,JA,JA,JA,JA,JA,JA,JA,JA,JA,JA,JA,JA,JA,JA,JA,JA,JA,JA,JA,JA,JA,JA]
section
variable{src mk:Nat}{fb:PV}{v:JJ}{n3 n4 n5 n7:Nat}{w:JE}{d:Deferred}
def Jtx:Jhu.wp prog (λe a w1=>e=.normal/\a.tmps=R1 src mk fb w.heap.size (w.heap.size+1) (w.heap.size+2)/\w1.heap=((w.heap.push (.cells #[.map (some src)] 95)).push (.cells #[JK mk] 3)).push (.cells #[fb.val] 105)) ⟨R0 src mk fb,[d]⟩ w:=by unfold R0 R1;simp only[Jhu,b40,TT,Ld,f33,A8];go_wp2;exact rfl
def Jty{L:List (JD × JJ)}(hm:Cm w src L)(hN:L.length<=1000000)(h3:w.cell? ⟨n3,0,none⟩=some (.map (some src))):sN.wp prog (λe a w1=>e=.normal/\∃v ks n7,a.tmps=R2a src mk fb n3 n4 n5 v n7/\keysOf L ks/\YJ w1 w.heap.size v ks/\w.heap.size<=n7/\w1.heap[n7]?=some (.cells #[v] 124)/\Keeps w w1) ⟨R1 src mk fb n3 n4 n5,[d]⟩ w:=by
 have hs:=J73 src L w hm hN;unfold R1;simp only[sN,b40,TT,Ld,f33,A8]
 go_wp2_with (go_at_call 47;refine hs.mono ?_;rintro e w1 ⟨v,ks,rfl,hk,hr,ht⟩;obtain⟨ka,l,kc,rfl⟩:∃ka l kc,v=.slice ka l kc:=by(rcases hr with⟨h,_⟩|⟨g,cap,cur,h,_⟩<;>exact⟨_,_,_,h⟩))
 refine⟨_,ks,_,rfl,hk,?_,ht.size,Ja _,Keeps.refl.cO (ht.alloc ht.size _)⟩;rcases hr with h|⟨g,cap,cur,h1,h2,h3,h4⟩
 .exact .inl h
 .exact .inr ⟨g,cap,cur,h1,by omega,(J8 _ (Jj h3)).trans h3,h4⟩
def Jtz:sO.wp prog (λe a w1=>e=.normal/\a.tmps=R3a src mk fb n3 n4 n5 v n7 w.heap.size/\w1.heap=w.heap.push (.cells #[.map none,.map none,.map none,.map none] 171)) ⟨R2a src mk fb n3 n4 n5 v n7,[d]⟩ w:=by unfold R2a R3a;simp only[sO,b40,TT,Ld,f33,A8];go_wp2;exact rfl
end
end Go.Sim.Z
end
