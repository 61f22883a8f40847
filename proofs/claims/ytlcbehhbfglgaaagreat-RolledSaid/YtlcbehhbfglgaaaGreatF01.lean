/- PROVED HERE: laws. Conditions: none. -/
import Derived.Test.YtlcbehhbfglgaaaGreatF00
set_option linter.all false
set_option maxHeartbeats 2000000
set_option maxRecDepth 100000
namespace Go.Sim.Z
open Go Go.Proofs Go.RowKit Go.Maps Go.Sort Go.Shelf
def apAssign:Code:=(Code.region 2 #[{ dst:=some 5,op:=Op.alloc 76,type:=0,pos:= "iter.go:51",after:=#[],guard:=none },{ dst:=none,op:=Op.store 76 (Operand.tmp 5) (Operand.tmp 7),type:=0,pos:= "iter.go:51",after:=#[{ on:=0,ground:=Ground.data },{ on:=0,ground:=Ground.phase }],guard:=none }] false)
def apBody:Code:=(Code.block 1 (Code.region 3 #[{ dst:=some 8,op:=Op.load 88 (Operand.tmp 2),type:=88,pos:= "iter.go:52",after:=#[],guard:=none },{ dst:=some 9,op:=Op.load 76 (Operand.tmp 5),type:=76,pos:= "iter.go:52",after:=#[],guard:=none },{ dst:=some 10,op:=Op.buildSlice 88 1 #[(0,Operand.tmp 9)],type:=88,pos:= "iter.go:52",after:=#[{ on:=1,ground:=Ground.data }],guard:=none },{ dst:=some 11,op:=Op.call { callee:=Callee.builtin Builtin.append,args:=#[Operand.tmp 8,Operand.tmp 10],argTypes:=#[88,88] },type:=88,pos:= "iter.go:52",after:=#[{ on:=0,ground:=Ground.data },{ on:=2,ground:=Ground.data }],guard:=none },{ dst:=none,op:=Op.store 88 (Operand.tmp 2) (Operand.tmp 11),type:=0,pos:= "iter.go:52",after:=#[{ on:=3,ground:=Ground.data },{ on:=3,ground:=Ground.chain },{ on:=0,ground:=Ground.phase },{ on:=1,ground:=Ground.phase },{ on:=2,ground:=Ground.phase },{ on:=3,ground:=Ground.phase }],guard:=none }] false))
def J0u (ss:List Je):List Value:=ss.flatMap fun x=>x.1.map (Value.int .i64)
theorem Jgm (ss:List Je) (x:Je):J0u (ss++[x])=J0u ss++x.1.map (Value.int .i64):=by simp [J0u]
theorem Jgn (ss:List Je):(J0u ss).length=ss.length*5:=by
 induction ss with
 | nil=>rfl
 | cons x ss ih=>
  have:J0u (x::ss)=x.1.map (Value.int .i64)++J0u ss:=rfl;rw [this,List.length_append,ih,Jc3,x.2.1,Jd2];omega
def apRec (fn:FuncId) (sv:Value) (Bs D:Nat) (st:LoopState) (pend:Option Code):Loop:=
 { state:=st,pending:=pend,fn,tmps:=#[.slice none 0 0,sv,.pointer (some ⟨Bs,0,none⟩),undef,.slice none 0 0,undef,sv,undef,undef,undef,undef,undef,undef],params:=#[7],assign:=apAssign,body:=apBody,defers:=D }
structure PR (W:World) (base:Nat) (v:Value) (ss:List Je):Prop where
 own:W.ownsRow base 76 5 v ss.length (J0u ss)
 pl:J1f W v
theorem PR.lt {W:World} {base:Nat} {v:Value} {ss:List Je} (h:PR W base v ss) {g n cap:Nat} (e:v=.slice (some ⟨g,0,none⟩) n cap):g<W.heap.size:=by
 rcases h.own.2 with ⟨rfl,_⟩|⟨g',cap',cur,rfl,_,hg,_⟩
 ·cases e
 ·cases e;exact Ji hg
theorem PR.kept {W W':World} {row:Option Nat} {base:Nat} {v:Value} {ss:List Je} (h:PR W base v ss) (hg:W.grownBy W' row) (hne:v.ownBlock=none\/v.ownBlock≠row):PR W' base v ss:=by
 refine ⟨h.own.kept hg hne,h.pl.kept fun g n cap e=>hg.block g (h.lt e) fun e'=>?_⟩;subst e;rcases hne with h1|h1
 ·cases h1
 ·exact h1 e'
theorem PR.abides {W W':World} {row:Option Nat} {base:Nat} {v:Value} {ss:List Je} (h:PR W base v ss) (hg:W.grownBy W' row) (hrow:∀ r,row=some r->∃ o:Obj,W.heap[r]?=some o/\o.isWalk=true):PR W' base v ss:=by
 refine h.kept hg ?_;rcases h.own.2 with ⟨rfl,_⟩|⟨g',cap',cur,rfl,_,hgb,_⟩
 ·exact .inl rfl
 ·refine .inr fun e=>?_;obtain ⟨o,ho,hw⟩:=hrow g' e.symm;rw [hgb] at ho;cases ho;cases hw
structure ApAt (w0:World) (fn:FuncId) (sv:Value) (Bs l D:Nat) (ss:List Je) (W:World):Prop where
 box:∃ v,W.heap[Bs]?=some (.cells #[v] 88 (0,0))/\PR W w0.heap.size v ss/\(v=.slice none 0 0↔ss=[])
 L:W.heap[l]?=some (.loop (apRec fn sv Bs D .ready none))
 K:W.heap[D]?=some (.deferred (some []))
 below:Below w0.heap.size w0 W
theorem ap_abides (w0:World) (fn:FuncId) (sv:Value) (Bs l D B:Nat) (hB:w0.heap.size<=B):AbidesFrom B (ApAt w0 fn sv Bs l D):=fun s W W' row h hg hrow=>by
 have hrow':∀ r,row=some r->∃ o:Obj,W.heap[r]?=some o/\o.isWalk=true:=fun r e=>(hrow r e).2;obtain ⟨v,hv,hr,hn⟩:=h.box;exact ⟨⟨v,(grownBy_keeps hg hrow' hv rfl).trans hv,hr.abides hg hrow',hn⟩,(grownBy_keeps hg hrow' h.L rfl).trans h.L,(grownBy_keeps hg hrow' h.K rfl).trans h.K,
  h.below.grown hg h.below.size (fun k e=>Jb6 hB (hrow k e).1)⟩
theorem Jwm:(Tryz.prog.info? 76).map (fun i=>(i.zero,i.size,i.bytes))=some (some (.agg #[.int .i64 0,.int .i64 0,.int .i64 0,.int .i64 0,.int .i64 0]),5,40):=by kernel_rfl
theorem J8e {w:World} {a0 a1 a2 a3 a4:Value} {t:TypeId}:∀ j u,([a0,a1,a2,a3,a4]:List Value)[j]?=some u->(w.alloc (.cells #[a0,a1,a2,a3,a4] t)).cell? ((⟨w.heap.size,0,none⟩:Addr).add j)=some u:=by
 intro j u hj;have hh:=Ja (w:=w) (.cells #[a0,a1,a2,a3,a4] t);have:(⟨w.heap.size,0,none⟩:Addr).add j=⟨w.heap.size,j,none⟩:=by unfold Addr.add;split<;>simp_all
 rw [this,cell_of hh j];simpa using hj
theorem apYield (F:Fence) (m:Nat) (w0:World) (fn:FuncId) (hfn:F.fn fn) (sv:Value) (Bs l D:Nat) (hBl:Bs≠l) (hDl:D≠l) (hDB:D≠Bs) (h0B:w0.heap.size<=Bs) (h0l:w0.heap.size<=l)
  (N:Nat) (hN:N<=maxLen) (hNb:N*40<=140737488355328) (ss:List Je) (x:Je) (W:World) (h:ApAt w0 fn sv Bs l D ss W) (hlen:ss.length<N) :
  YieldAt F m Tryz.prog l #[J7h x] W fun e W'=>e=.returned (.bool true)/\ApAt w0 fn sv Bs l D (ss++[x]) W'/\KeepsWalks W W':=by
 have hne:(88:TypeId)≠76:=by decide
 obtain ⟨i0,hi,hz0,hz1,hz2⟩:=info_parts Jwm;obtain ⟨v,hv,hrow,_⟩:=h.box;obtain ⟨xs,hxs⟩:=x;obtain ⟨x0,x1,x2,x3,x4,rfl⟩:∃ x0 x1 x2 x3 x4,xs=[x0,x1,x2,x3,x4]:=by
  have h1:=hxs.1;rcases xs with _|⟨x0,_|⟨x1,_|⟨x2,_|⟨x3,_|⟨x4,_|⟨x5,l⟩⟩⟩⟩⟩⟩<;>simp at h1
  exact ⟨_,_,_,_,_,rfl⟩
 have hkc:=Jgm ss ⟨[x0,x1,x2,x3,x4],hxs⟩;simp only [Jc4,List.map_nil] at hkc;simp only [J7h,ai,Jc4,List.map_nil];generalize hX:(⟨[x0,x1,x2,x3,x4],hxs⟩:Je)=X at hkc ⊢;refine ⟨fn,#[.slice none 0 0,sv,.pointer (some ⟨Bs,0,none⟩),undef,.slice none 0 0,undef,sv,.agg #[.int .i64 x0,.int .i64 x1,.int .i64 x2,.int .i64 x3,.int .i64 x4],undef,undef,undef,undef,undef],apAssign,apBody,by simpa [apRec] using run_yield (P:=Tryz.prog) (args:=#[.agg #[.int .i64 x0,.int .i64 x1,.int .i64 x2,.int .i64 x3,.int .i64 x4]]) h.L rfl,roundIn_of_wpIn hfn ?_⟩;unfold apAssign
 gi_wp2_with gi_round_op_a
 obtain ⟨Wn,hWn⟩:∃ Wn,W.alloc (.cells #[.int .i64 x0,.int .i64 x1,.int .i64 x2,.int .i64 x3,.int .i64 x4] 76)=Wn:=⟨_,rfl⟩;have hgn:W.grownBy Wn none:=by rw [<- hWn];exact World.grownBy_alloc _ _ _
 have hkn:KeepsWalks W Wn:=by rw [<- hWn];exact KeepsWalks.alloc _ _
 have hA:ApAt w0 fn sv Bs l D ss Wn:=ap_abides w0 fn sv Bs l D w0.heap.size (Ja2 _) ss W Wn none h hgn (fun r e=>by cases e);have hbx:Wn.heap[W.heap.size]?=some (.cells #[.int .i64 x0,.int .i64 x1,.int .i64 x2,.int .i64 x3,.int .i64 x4] 76):=by rw [<- hWn];exact Ja _
 have hlb:l≠W.heap.size:=by have:=(Ja3.1 h.L).1;omega
 rw [hWn];generalize W.heap.size=Bx at hbx hlb ⊢;clear hWn hgn hv hrow;obtain ⟨v,hv,hrow,_⟩:=hA.box;have hkn0:=hkn;clear hkn;have hl:l<Wn.heap.size:=(Ja3.1 hA.L).1;have hbr:=run_beginRound (P:=Tryz.prog) hA.L rfl;obtain ⟨W2,hW2⟩:∃ W2,Wn.putObj l (.loop { apRec fn sv Bs D .ready none with state:=.busy })=W2:=⟨_,rfl⟩;rw [hW2] at hbr;have hg2:Wn.grownBy W2 (some l):=by rw [<- hW2];exact grownBy_putObj_a _ _ _
 have hk2:KeepsWalks W W2:=hkn0.trans (by rw [<- hW2];exact KeepsWalks.putObj _ hA.L rfl);have hv2:W2.heap[Bs]?=some (.cells #[v] 88 (0,0)):=by rw [<- hW2];exact (World.putObj_heap_other hBl).trans hv
 have hbx2:W2.heap[Bx]?=some (.cells #[.int .i64 x0,.int .i64 x1,.int .i64 x2,.int .i64 x3,.int .i64 x4] 76):=by rw [<- hW2];exact (World.putObj_heap_other (Ne.symm hlb)).trans hbx
 have hK2:W2.heap[D]?=some (.deferred (some [])):=by rw [<- hW2];exact (World.putObj_heap_other hDl).trans hA.K
 have hL2:W2.heap[l]?=some (.loop { apRec fn sv Bs D .ready none with state:=.busy }):=by rw [<- hW2];exact World.putObj_heap_same hl
 have hrow2:PR W2 w0.heap.size v ss:=hrow.kept hg2 (ownsRow_ne_a hrow.own hA.L (fun cur e=>by first|cases e|exact hne (Obj.cells.inj e).2.1));have hb2:Below w0.heap.size w0 W2:=hA.below.grown hg2 hA.below.size (fun k e=>by cases e;exact h0l);obtain ⟨hc2,hf2⟩:=cell_of_box_a hv2;have hBlt:Bs<W2.heap.size:=(Ja3.1 hv2).1;have hl2:l<W2.heap.size:=(Ja3.1 hL2).1;have hDlt:D<W2.heap.size:=(Ja3.1 hK2).1;have ne_of:∀ {j:Nat} {o:Obj},W2.heap[j]?=some o->(∀ cur,o≠.cells cur 76 (0,0))->some j≠v.ownBlock:=fun hj hno=>by
  rcases ownsRow_ne_a hrow2.own hj hno with e|e
  ·rw [e];simp
  ·exact fun e'=>e e'.symm
 clear hW2 hbx hv hrow;have c0:W2.cell? ⟨Bx,0,none⟩=some (.int .i64 x0):=(cell_of hbx2 0).trans rfl;have c1:W2.cell? ⟨Bx,1,none⟩=some (.int .i64 x1):=(cell_of hbx2 1).trans rfl;have c2:W2.cell? ⟨Bx,2,none⟩=some (.int .i64 x2):=(cell_of hbx2 2).trans rfl;have c3:W2.cell? ⟨Bx,3,none⟩=some (.int .i64 x3):=(cell_of hbx2 3).trans rfl;have c4:W2.cell? ⟨Bx,4,none⟩=some (.int .i64 x4):=(cell_of hbx2 4).trans rfl;refine ⟨W2,hbr,?_⟩;unfold apBody
 gi_wp2_with (first
  | (gi_at_builtin;refine J7s _ rfl _ _ 88 rfl w0.heap.size 76 i0 _ 5 40 Tryz.underlying88 hi hz0 hz1 hz2 rfl (by decide) _ _ _ rfl (hrow2.own.alloc _) ⟨W2.heap.size,0,none⟩ 1 1 [.int .i64 x0,.int .i64 x1,.int .i64 x2,.int .i64 x3,.int .i64 x4] rfl rfl J8e (by simp [Value.oneCell']) (by omega) (by omega) (by have:=hb2.size;simp;omega) (hrow2.pl.kept fun g n cap e=>J7 _ (hrow2.lt e)) (fun u hu=>by rcases Jb8.1 hu with rfl|hu;exact ⟨_,_,rfl⟩;rcases Jb8.1 hu with rfl|hu;exact ⟨_,_,rfl⟩;rcases Jb8.1 hu with rfl|hu;exact ⟨_,_,rfl⟩;rcases Jb8.1 hu with rfl|hu;exact ⟨_,_,rfl⟩;rcases Jb8.1 hu with rfl|hu;exact ⟨_,_,rfl⟩;cases hu) (Plain.ai (xs:=[0,0,0,0,0])) ?_;intro v' w3 hown' hg3 hnil3 hpl3
     have hv3:w3.heap[Bs]?=some (.cells #[v] 88 (0,0)):=(hg3.block Bs (by simp;omega) (ne_of hv2 (fun cur e=>by first|cases e|exact hne (Obj.cells.inj e).2.1))).trans ((Below.heap_alloc _ _ Bs hBlt).trans hv2);obtain ⟨hc3,hf3⟩:=cell_of_box_a hv3;obtain ⟨g',cap',cur',rfl,hbase',hgb',hr1,hr2,hr3,hr4⟩:∃ g' cap' cur',v'=.slice (some ⟨g',0,none⟩) (ss.length+1) cap'/\w0.heap.size<=g'/\w3.heap[g']?=some (.cells cur' 76 (0,0))/\ss.length+1<=cap'/\cap'<=maxLen/\cur'.size=cap'*5/\cur'.toList.take ((ss.length+1)*5)=J0u ss++[.int .i64 x0,.int .i64 x1,.int .i64 x2,.int .i64 x3,.int .i64 x4]:=by
      rcases hown'.2 with ⟨_,h0⟩|h'
      ·exact absurd h0 (by omega)
      ·exact h'
     go_frame)
  | gi_round_op_a)
 have hg3':(W2.alloc (.cells #[.int .i64 x0,.int .i64 x1,.int .i64 x2,.int .i64 x3,.int .i64 x4] 76)).grownBy w3 v.ownBlock:=hg3;have hL3:w3.heap[l]?=some (.loop { apRec fn sv Bs D .ready none with state:=.busy }):=(hg3'.block l (by simp;omega) (ne_of hL2 (fun cur e=>by first|cases e|exact hne (Obj.cells.inj e).2.1))).trans ((Below.heap_alloc _ _ l hl2).trans hL2);have hK3:w3.heap[D]?=some (.deferred (some [])):=(hg3'.block D (by simp;omega) (ne_of hK2 (fun cur e=>by first|cases e|exact hne (Obj.cells.inj e).2.1))).trans ((Below.heap_alloc _ _ D hDlt).trans hK2);obtain ⟨w4,hw4⟩:∃ w4,w3.setCell ⟨Bs,0,none⟩ (.slice (some ⟨g',0,none⟩) (ss.length+1) cap')=w4:=⟨_,rfl⟩;rw [hw4];have hg4:w3.grownBy w4 (some Bs):=by rw [<- hw4];exact grownBy_setCell0_a _ _ _
 have hv4:w4.heap[Bs]?=some (.cells #[.slice (some ⟨g',0,none⟩) (ss.length+1) cap'] 88 (0,0)):=by rw [<- hw4];exact heap_setCell_box_a _ hv3
 have hL4:w4.heap[l]?=some (.loop { apRec fn sv Bs D .ready none with state:=.busy }):=(hg4.block l (Ja3.1 hL3).1 (fun e=>hBl (by cases e;rfl))).trans hL3;have hK4:w4.heap[D]?=some (.deferred (some [])):=(hg4.block D (Ja3.1 hK3).1 (fun e=>hDB (by cases e;rfl))).trans hK3;have hPR:PR w3 w0.heap.size (.slice (some ⟨g',0,none⟩) (ss.length+1) cap') (ss++[X]):=⟨by rw [hkc,List.length_append,List.length_singleton];exact hown',hpl3⟩;have hrow4:=hPR.kept hg4 (ownsRow_ne_a hown' hv3 (fun cur e=>by first|cases e|exact hne (Obj.cells.inj e).2.1));have hl4:l<w4.heap.size:=(Ja3.1 hL4).1;have hb3:Below w0.heap.size w0 w3:=(hb2.alloc hb2.size _).grown hg3' (by have:=hb2.size;simp;omega) (fun k e=>(hrow2.own.lt k e).1);have hb4:Below w0.heap.size w0 w4:=hb3.grown hg4 hb3.size (fun k e=>by cases e;exact h0B);have hk4:KeepsWalks W w4:=((hk2.trans (KeepsWalks.alloc _ _)).trans (KeepsWalks.of_grownBy hg3' (ownsRow_not_walk_a (hrow2.own.alloc _)))).trans (by rw [<- hw4];exact KeepsWalks.setCell _ _ _);clear hw4;refine ⟨_,_,run_endRound none hL4,rfl,⟨⟨_,(World.putObj_heap_other hBl).trans hv4,?_,by simp⟩,World.putObj_heap_same hl4,(World.putObj_heap_other hDl).trans hK4,hb4.grown (grownBy_putObj_a _ _ _) hb4.size (fun k e=>by cases e;exact h0l)⟩,hk4.trans (KeepsWalks.putObj _ hL4 rfl)⟩;have:=hrow4.kept (grownBy_putObj_a w4 l (.loop { { apRec fn sv Bs D .ready none with state:=.busy } with state:=if (none:Option Code).isNone then .ready else .done,pending:=none })) (ownsRow_ne_a hrow4.own hL4 (fun cur e=>by first|cases e|exact hne (Obj.cells.inj e).2.1));exact this
theorem appendSeq_in (F:Fence) (n:Nat) (h11:F.fn 73) (hro:F.round=none) (hn:2<=n) (g:Nat) (lb:Array Value) (hFg:F.fn g) (eg:∀ args w,(callFunc g args).run Tryz.prog w=.ok (.enter g args) w)
  (S:List Je->Prop) (N:Nat) (hN:N<=maxLen) (hNb:N*40<=140737488355328) (w:World) (hseq:SeqGives F (n-1) Tryz.prog g lb J7h S N w) :
  CallsIn F n Tryz.prog 73 #[.slice none 0 0,.func (.func g) #[] lb] w fun e w'=>∃ (v:Value) (ss:List Je),e=.returned v/\S ss/\PR w' w.heap.size v ss/\(v=.slice none 0 0↔ss=[])/\Below w.heap.size w w':=by
 have h1:1<=n:=by omega
 have hne:(88:TypeId)≠76:=by decide
 refine callsIn_of_wp_marks Tryz.func73 rfl h11 ?_ hro;simp only [Tryz.ntmps73,List.size_toArray,Jd2,List.length_nil,Nat.reduceAdd,Nat.reduceSub,Array.replicate_succ,Array.replicate_zero,List.push_toArray,List.append_toArray,Jc8,Jc7];gi_wp2;refine wpIn_rangeFunc ?_;intro fn hfn;rw [hro];obtain ⟨W0,hW0⟩:∃ W0,w.alloc (.cells #[.slice none 0 0] 88)=W0:=⟨_,rfl⟩;have hs0:W0.heap.size=w.heap.size+1:=by rw [<- hW0];simp
 have hv0:W0.heap[w.heap.size]?=some (.cells #[.slice none 0 0] 88 (0,0)):=by rw [<- hW0];exact World.alloc_heap_new w _
 have hb0:Below w.heap.size w W0:=by rw [<- hW0];exact (Below.refl _ w).alloc (Ja2 _) _
 rw [hW0];obtain ⟨W1,hW1⟩:∃ W1,(W0.alloc (.deferred (some []))).alloc (.loop (apRec fn (.func (.func g) #[] lb) w.heap.size W0.heap.size .ready none))=W1:=⟨_,rfl⟩;have hold:∀ k,k<W0.heap.size->W1.heap[k]?=W0.heap[k]?:=fun k hk=>by rw [<- hW1];exact (Below.heap_alloc _ _ k (by simp;omega)).trans (Below.heap_alloc _ _ k hk)
 have hb1:Below w.heap.size w W1:=by rw [<- hW1];exact (hb0.alloc hb0.size _).alloc (by have:=hb0.size;simp;omega) _
 have hs1:W1.heap.size=W0.heap.size+2:=by rw [<- hW1];simp
 have hM:ApAt w fn (.func (.func g) #[] lb) w.heap.size (W0.heap.size+1) W0.heap.size [] W1:=
  ⟨⟨_,(hold w.heap.size (by omega)).trans hv0,⟨⟨rfl,.inl ⟨rfl,rfl⟩⟩,.nil _ _ _⟩,by simp⟩,
   by rw [<- hW1];have:=World.alloc_heap_new (W0.alloc (.deferred (some []))) (.loop (apRec fn (.func (.func g) #[] lb) w.heap.size W0.heap.size .ready none));rwa [World.size_alloc] at this,
   by rw [<- hW1];exact (Below.heap_alloc _ _ _ (by simp)).trans (World.alloc_heap_new W0 _),hb1⟩
 refine ⟨W0.heap.size+1,[{ target:=.collected W0.heap.size,args:=#[] }],W1,{ target:=.fn (.func g) lb,args:=#[.func (.yield (W0.heap.size+1)) #[] #[]] },W1,g,
  #[.func (.yield (W0.heap.size+1)) #[] #[]]++lb,W1,?_,?_,?_,?_,fun _=>h1,?_⟩
 ·rw [<- hW1];exact run_enterLoop_outer _ _ _ _ _
 ·simp [resolve,go_sem]
 ·intro f' hf';simp [Target.leads] at hf';subst hf';exact hFg
 ·simp [invoke,go_sem,eg]
 ·refine (hseq (W0.heap.size+1) (ApAt w fn (.func (.func g) #[] lb) w.heap.size (W0.heap.size+1) W0.heap.size) W1 hb1 (ap_abides _ _ _ _ _ _ _ hb1.size)
   (fun pre x W hJ hl=>apYield F (n-1-1) w fn hfn _ w.heap.size (W0.heap.size+1) W0.heap.size (by omega) (by omega) (by omega) (Ja2 _) (by omega) N hN hNb pre x W hJ hl) hM).mono ?_
  rintro e W2 ⟨⟨v0,rfl⟩,ss,hS,h2⟩;obtain ⟨v,hv,hrow,hnil⟩:=h2.box;have hend:=run_endLoop (P:=Tryz.prog) h2.L (by simp [apRec]);obtain ⟨W3,hW3⟩:∃ W3,W2.putObj (W0.heap.size+1) (.loop { apRec fn (.func (.func g) #[] lb) w.heap.size W0.heap.size .ready none with state:=.exhausted })=W3:=⟨_,rfl⟩;rw [hW3] at hend;have hg3:W2.grownBy W3 (some (W0.heap.size+1)):=by rw [<- hW3];exact grownBy_putObj_a _ _ _
  have hv3:W3.heap[w.heap.size]?=some (.cells #[v] 88 (0,0)):=by rw [<- hW3];exact (World.putObj_heap_other (by omega)).trans hv
  have hK3:W3.heap[W0.heap.size]?=some (.deferred (some [])):=by rw [<- hW3];exact (World.putObj_heap_other (by omega)).trans h2.K
  have hrow3:=hrow.kept hg3 (ownsRow_ne_a hrow.own h2.L (fun cur e=>by first|cases e|exact hne (Obj.cells.inj e).2.1));have hb3:Below w.heap.size w W3:=h2.below.grown hg3 h2.below.size (fun k e=>by cases e;omega);obtain ⟨hc3,hf3⟩:=cell_of_box_a hv3;clear hW3;refine ⟨none,W3,hend,?_⟩;gi_wp2;rw [<- hs0];refine ⟨by simp,.inl ⟨_,_,rfl,run_takeDeferred hK3,?_⟩⟩;exact ⟨_,results_tmp rfl _ _ _,v,ss,rfl,hS,hrow3.kept (grownBy_putObj_a _ _ _) (ownsRow_ne_a hrow3.own hK3 (fun cur e=>by first|cases e|exact hne (Obj.cells.inj e).2.1)),hnil,hb3.grown (grownBy_putObj_a _ _ _) hb3.size (fun k e=>by cases e;omega)⟩
theorem collect_in (F:Fence) (n:Nat) (h8:F.fn 55) (h11:F.fn 73) (hro:F.round=none) (hn:3<=n) (g:Nat) (lb:Array Value) (hFg:F.fn g) (eg:∀ args w,(callFunc g args).run Tryz.prog w=.ok (.enter g args) w)
  (S:List Je->Prop) (N:Nat) (hN:N<=maxLen) (hNb:N*40<=140737488355328) (w:World) (hseq:SeqGives F (n-1-1) Tryz.prog g lb J7h S N w) :
  CallsIn F n Tryz.prog 55 #[.func (.func g) #[] lb] w fun e w'=>∃ (v:Value) (ss:List Je),e=.returned v/\S ss/\PR w' w.heap.size v ss/\(v=.slice none 0 0↔ss=[])/\Below w.heap.size w w':=by
 have h1:1<=n:=by omega
 have e11:∀ args w,(callFunc 73 args).run Tryz.prog w=.ok (.enter 73 args) w:=enters_of Tryz.func73 (by kernel_rfl) rfl;refine callsIn_of_wp Tryz.func55 rfl h8 ?_ hro;simp only [Tryz.ntmps55,List.size_toArray,Jd2,List.length_nil,Nat.reduceAdd,Nat.reduceSub,Array.replicate_succ,Array.replicate_zero,List.push_toArray,List.append_toArray,Jc8,Jc7]
 gi_wp2_with (gi_at_fn 73;refine (appendSeq_in F (n-1) h11 hro (by omega) g lb hFg eg S N hN hNb _ hseq).mono ?_;rintro e w' ⟨v,ss,rfl,hS,hrow,hnil,hb⟩)
 go_ret;exact ⟨v,ss,rfl,hS,hrow,hnil,hb⟩
theorem Jho (b:Nat) (L:List (List Int × Value)) (w:World) (hm:J09 w b L) (hN:L.length<=1000000) :
  Calls Tryz.prog 55 #[.func (.func 74) #[] #[.pointer (some ⟨w.heap.size,0,none⟩)]] (w.alloc (.cells #[.map (some b)] 70)) fun e w'=>∃ (v:Value) (ss:List Je),e=.returned v/\KeysOf L ss/\PR w' (w.heap.size+1) v ss/\(v=.slice none 0 0↔ss=[])/\Below (w.heap.size+1) (w.alloc (.cells #[.map (some b)] 70)) w':=by
 have hmax:maxLen=9223372036854775807:=by decide
 have hseq:SeqGives Fence.wide 1 Tryz.prog 74 #[.pointer (some ⟨w.heap.size,0,none⟩)] J7h (KeysOf L) L.length (w.alloc (.cells #[.map (some b)] 70)):=
  keys_gives Fence.wide 1 trivial rfl (by omega) w.heap.size b L _ (by simp) (by have:=Ja (w:=w) (.cells #[.map (some b)] 70);exact (cell_of this 0).trans rfl) (hm.kept (J7 _ hm.lt))
 have:=collect_in Fence.wide 3 trivial trivial rfl (by omega) 74 #[.pointer (some ⟨w.heap.size,0,none⟩)] trivial (enters_of Tryz.func74 (by kernel_rfl) rfl) (KeysOf L) L.length (by omega) (by omega) _ hseq;rw [size_alloc] at this;exact callsIn_wide.1 this
end Go.Sim.Z
namespace Go.Sim.Z
open Go Go.Proofs Go.RowKit
def Blk (fr:Bool) (w:World) (b:Nat) (arr:Array Value) (t:TypeId):Prop:=∃ z,w.heap[b]?=some (.cells arr t z)/\(fr=false->z=(0,0))
def Row (fr:Bool) (w:World) (b:Nat) (t:TypeId) (k:IntKind) (xs:List Int) (cap:Nat):Prop:=
 ∃ cur,Blk fr w b cur t/\cur.size=cap/\xs.length<=cap/\(∀ i,i<xs.length->cur[i]?=some (.int k (xs.getD i 0)))/\Plain cur
section
variable {fr:Bool} {w w':World} {b:Nat} {arr:Array Value} {t:TypeId} {k:IntKind} {xs:List Int} {cap:Nat}
theorem Blk.lt (h:Blk fr w b arr t):b<w.heap.size:=by obtain ⟨z,h,_⟩:=h;exact Ji h
theorem Blk.cell (h:Blk fr w b arr t) (i:Nat):w.cell? ⟨b,i,none⟩=arr[i]?:=by obtain ⟨z,h,_⟩:=h;exact cell_of h i
theorem Blk.frozen (h:Blk false w b arr t) (i:Nat):w.frozen? ⟨b,i,none⟩=false:=by obtain ⟨z,h,hz⟩:=h;cases hz rfl;exact J02 h i
theorem Blk.kept (h:Blk fr w b arr t) (hb:w'.heap[b]?=w.heap[b]?):Blk fr w' b arr t:=by obtain ⟨z,h,hz⟩:=h;exact ⟨z,hb.trans h,hz⟩
theorem Blk.set (h:Blk false w b arr t) (i:Nat) (v:Value):Blk false (w.setCell ⟨b,i,none⟩ v) b (arr.setIfInBounds i v) t:=by obtain ⟨z,h,hz⟩:=h;cases hz rfl;exact ⟨(0,0),heap_set h i v,fun _=>rfl⟩
theorem Blk.tch {N:Nat} {M:Nat->Prop} (h:Blk fr w b arr t) (k:Tch N M w w') (hb:b<N) (hm:¬ M b):Blk fr w' b arr t:=h.kept (k.heap b hb hm)
theorem Row.lt (h:Row fr w b t k xs cap):b<w.heap.size:=by obtain ⟨_,h,_⟩:=h;exact h.lt
theorem Row.cell (h:Row fr w b t k xs cap) {i:Nat} (hi:i<xs.length):w.cell? ⟨b,i,none⟩=some (.int k (xs.getD i 0)):=by obtain ⟨cur,h1,_,_,h4,_⟩:=h;rw [h1.cell,h4 i hi]
theorem Row.frozen (h:Row false w b t k xs cap) (i:Nat):w.frozen? ⟨b,i,none⟩=false:=by obtain ⟨_,h,_⟩:=h;exact h.frozen i
theorem Row.kept (h:Row fr w b t k xs cap) (hb:w'.heap[b]?=w.heap[b]?):Row fr w' b t k xs cap:=by obtain ⟨cur,h1,h2⟩:=h;exact ⟨cur,h1.kept hb,h2⟩
theorem Row.tch {N:Nat} {M:Nat->Prop} (h:Row fr w b t k xs cap) (q:Tch N M w w') (hb:b<N) (hm:¬ M b):Row fr w' b t k xs cap:=h.kept (q.heap b hb hm)
theorem Row.set (h:Row false w b t k xs cap) (i:Nat) (v:Int):Row false (w.setCell ⟨b,i,none⟩ (.int k v)) b t k (xs.set i v) cap:=by
 obtain ⟨cur,h1,h2,h3,h4,h5⟩:=h;refine ⟨_,h1.set i _,by simpa using h2,by simpa using h3,fun j hj=>?_,h5.set i ⟨_,_,rfl⟩⟩;simp only [List.length_set] at hj;rw [Jb9,Ja7,List.getElem?_set];by_cases e:i=j
 ·subst e;simp [hj,show i<cur.size by omega]
 ·simp only [e,if_false];rw [h4 j hj,Ja7]
theorem Row.cells (h:Row fr w b t k xs cap):∀ j u,(xs.map (Value.int k))[j]?=some u->w.cell? ⟨b,0+j,none⟩=some u:=by intro j u hj;rw [List.getElem?_map,Jc0] at hj;obtain ⟨x,hx,rfl⟩:=hj;have hlt:j<xs.length:=(List.getElem?_eq_some_iff.1 hx).1;rw [Nat.zero_add,h.cell hlt,Ja7,hx];rfl
theorem Row.Jas {base n:Nat} {v:Value} (h:w.ownsRow base t 1 v n (xs.map (Value.int k))) (hv:v≠.slice none 0 0) (hp:J1f w v):∃ g cap,v=.slice (some ⟨g,0,none⟩) xs.length cap/\base<=g/\Row false w g t k xs cap/\cap<=maxLen:=by
 obtain ⟨h0,⟨rfl,_⟩|⟨g,cap,cur,rfl,h1,h2,h3,h4,h5,h6⟩⟩:=h
 ·exact absurd rfl hv
 ·simp only [Jc3,Nat.mul_one] at h0 h5 h6;subst h0;refine ⟨g,cap,rfl,h1,⟨cur,⟨(0,0),h2,fun _=>rfl⟩,h5,h3,fun i hi=>?_,hp g _ cap rfl cur t _ h2⟩,h4⟩;have:=congrArg (·[i]?) h6;simp only [List.getElem?_take,hi,if_true,List.getElem?_map] at this;rw [<- Array.getElem?_toList,this,Ja7,Jb1 hi];rfl
end
def J0c (xs ys:List Int) (k:Nat):List Int:=xs.take k++ys.drop k
theorem J0e {xs ys:List Int} (h:xs.length=ys.length) (k:Nat):(J0c xs ys k).length=ys.length:=by simp [J0c];omega
theorem J2r (xs ys:List Int):J0c xs ys 0=ys:=by simp [J0c]
theorem J3d {xs ys:List Int} {n:Nat} (h:xs.length=n) (h':ys.length=n):J0c xs ys n=xs:=by unfold J0c;rw [List.drop_eq_nil_of_le (by omega),List.append_nil,List.take_of_length_le (by omega)]
theorem J75 {xs ys:List Int} (h:xs.length=ys.length) {k:Nat} (hk:k<ys.length):(J0c xs ys k).getD k 0=ys.getD k 0:=by unfold J0c;rw [Ja7,Ja7,List.getElem?_append_right (by simp;omega)];simp [Nat.min_eq_left (show k<=xs.length by omega)]
theorem J3e {xs ys:List Int} (h:xs.length=ys.length) {k:Nat} (hk:k<ys.length) {v:Int} (hv:v=xs.getD k 0):(J0c xs ys k).set k v=J0c xs ys (k+1):=by
 subst hv;apply List.ext_getElem?;intro i;rw [List.getElem?_set,J0e h];unfold J0c;by_cases e:k=i
 ·subst e;rw [if_pos rfl,if_pos hk,List.getElem?_append_left (by simp;omega),List.getElem?_take,if_pos (by omega),Ja7,Jb1 (by omega)];rfl
 ·rw [if_neg e];rcases Jb5 i k with h1|h1
  ·rw [List.getElem?_append_left (by simp;omega),List.getElem?_append_left (by simp;omega),List.getElem?_take,List.getElem?_take,if_pos h1,if_pos (by omega)]
  ·rw [List.getElem?_append_right (by simp;omega),List.getElem?_append_right (by simp;omega)];simp only [List.length_take,List.getElem?_drop];congr 1;omega
theorem Jgo (z:Value) (n:Nat):madeCells #[z] n=Array.replicate n z:=by
 apply Jd6;intro i;by_cases h:i<n
 ·simp [madeCells,h,Nat.mod_one]
 ·rw [Jb0 (by simp [madeCells];omega),Jb0 (by simp;omega)]
theorem info5:(Tryz.prog.info? 5).map (fun i=>(i.zero,i.size,i.bytes))=some (some (.int .u8 0),1,1):=by kernel_rfl
theorem info3:(Tryz.prog.info? 3).map (fun i=>(i.zero,i.size,i.bytes))=some (some (.int .i64 0),1,8):=by kernel_rfl
theorem J6v:(Tryz.prog.info? 45).map (fun i=>(i.zero,i.size,i.bytes))=some (some (.int .u64 0),1,8):=by kernel_rfl
theorem mkRow (t e:TypeId) (k:IntKind) (by8:Nat) (ht:Tryz.prog.underlying t=some (.slice e)) (hi:(Tryz.prog.info? e).map (fun i=>(i.zero,i.size,i.bytes))=some (some (.int k 0),1,by8)) (hb:by8<=8) (n:Nat) (hn:n<=100000) (w:World) :
  (Instr.makeSlice t (.int .i64 n) (.int .i64 n)).run Tryz.prog w=.ok (.slice (some ⟨w.heap.size,0,none⟩) n n) (w.alloc (.cells (Array.replicate n (.int k 0)) e)):=by
 obtain ⟨i0,h1,h2,h3,h4⟩:=info_parts hi;have hb1:(i0.bytes:Int)*n<=281474976710656:=by
  rw [h4];have:by8*n<=8*100000:=Nat.mul_le_mul hb hn;have h:((by8*n:Nat):Int)<=281474976710656:=by omega
  rwa [Int.natCast_mul] at h
 have:=run_makeSlice w t e i0 _ ht h1 h2 .i64 .i64 n n (by omega) (by omega) (by rw [h3];simp;omega) hb1 (by omega);rw [h3] at this;simp only [Int.toNat_natCast,Nat.mul_one] at this;rw [this,show (Value.int k 0).cells=#[.int k 0] from rfl,Jgo]
theorem J6l (w:World) (t:TypeId) (k:IntKind) (n:Nat):Row false (w.alloc (.cells (Array.replicate n (.int k 0)) t)) w.heap.size t k (List.replicate n 0) n:=by refine ⟨_,⟨(0,0),Ja _,fun _=>rfl⟩,by simp,by simp,fun i hi=>?_,.replicate ⟨_,_,rfl⟩⟩;simp only [List.length_replicate] at hi;simp [hi,Ja7]
section
variable {fr:Bool} {w:World} {b:Nat} {xs:List Int} {cap:Nat}
theorem Row.J0u {t:TypeId} {k:IntKind} (h:Row fr w b t k xs cap):∀ j u,(xs.map (Value.int k))[j]?=some u->w.cell? ((⟨b,0,none⟩:Addr).add j)=some u:=fun j u hj=>by
 have:=h.cells j u hj;rw [Nat.zero_add] at this;cases j with
 | zero=>exact this
 | succ j=>simpa [Addr.add] using this
theorem Jwn (h:Row fr w b 5 .u8 xs cap) (hn:xs.length<=100000) (c:Nat):Calls Tryz.prog 161 #[.slice (some ⟨b,0,none⟩) xs.length c] w fun e w'=>∃ g c',e=.returned (.slice (some ⟨g,0,none⟩) xs.length c')/\w.heap.size<=g/\Row false w' g 5 .u8 xs c'/\Tch w.heap.size M0 w w'/\c'<=maxLen:=by
 obtain ⟨i0,hi,hz0,hz1,hz2⟩:=info_parts info5;have hm:maxLen=9223372036854775807:=by decide
 have hkc:=h.J0u;have hown:(w.alloc (.cells #[] 5)).ownsRow w.heap.size 5 1 (.slice (some ⟨w.heap.size,0,none⟩) 0 0) 0 []:=⟨rfl,.inr ⟨w.heap.size,0,#[],rfl,Ja2 _,Ja _,Ja2 _,by omega,rfl,rfl⟩⟩;have hpl:J1f (w.alloc (.cells #[] 5)) (.slice (some ⟨w.heap.size,0,none⟩) 0 0):=fun g n cap e arr t z ha=>by cases e;have hq:=ha.symm.trans (Ja (w:=w) _);cases hq;exact fun v hv=>by simp at hv
 have hkw:∀ j u,(xs.map (Value.int .u8))[j]?=some u->(w.alloc (.cells #[] 5)).cell? ((⟨b,0,none⟩:Addr).add j)=some u:=fun j u hj=>by
  refine (Jb4 (J7 _ ?_)).trans (hkc j u hj);cases j with
  | zero=>exact h.lt
  | succ j=>simpa [Addr.add] using h.lt
 have hlen:(xs.map (Value.int .u8)).length=xs.length*1:=by simp
 have hone:∀ u∈xs.map (Value.int .u8),u.oneCell'=true:=fun u hu=>by obtain ⟨x,_,rfl⟩:=Jb3.1 hu;rfl
 have hint:∀ u∈xs.map (Value.int .u8),IsInt u:=fun u hu=>by obtain ⟨x,_,rfl⟩:=Jb3.1 hu;exact ⟨_,_,rfl⟩
 have qT:∀ (w:World) (a:Option Addr) (n c n' c':Nat),(binOp .eql 84 (.slice a n c) (.slice none n' c')).run Tryz.prog w=.ok (.bool a.isNone) w:=fun w a n c n' c'=>Lib.run_eql_slice_nil w _ _ a n c n' c' Tryz.underlying84;generalize hxs:xs.map (Value.int .u8)=news at *;generalize hnn:xs.length=n at *
 go_enter Tryz.func161,Tryz.ntmps161
 go_wp2_with (at_builtin;refine J1g _ rfl _ _ 84 rfl w.heap.size 5 i0 _ 1 1 Tryz.underlying84 hi hz0 hz1 hz2 rfl (by decide) _ 0 [] rfl hown ⟨b,0,none⟩ n c news rfl hlen hkw hone (by omega) (by omega) (by simp) hpl hint (Plain.ai (k:=.u8) (xs:=[0])) ?_;intro v' w1 hown' hgrow hnil hpl')
 go_ret;rw [Nat.zero_add,Jc8,<- hxs,<- hnn] at hown';have hv:v'≠.slice none 0 0:=fun e=>by have:=(hnil.1 e).1;cases this
 obtain ⟨g,c',rfl,h1,h2,h3⟩:=Row.Jas hown' hv hpl';refine ⟨g,c',by first|rfl|(rw [hnn];rfl),h1,h2,⟨?_,fun x hx _=>?_,?_,?_,?_⟩,h3⟩
 ·have:=hgrow.size;rw [size_alloc] at this;omega
 ·exact (hgrow.block x (by rw [size_alloc];omega) fun e=>by have:=Ja0 e;simp at this;omega).trans (J7 _ hx)
 ·exact hgrow.tape
 ·exact hgrow.os
 ·exact hgrow.output
theorem Jhp (h:Row fr w b 3 .i64 xs cap) (hn:xs.length<=100000) (c:Nat):Calls Tryz.prog 47 #[.slice (some ⟨b,0,none⟩) xs.length c] w fun e w'=>∃ g c',e=.returned (.slice (some ⟨g,0,none⟩) xs.length c')/\w.heap.size<=g/\Row false w' g 3 .i64 xs c'/\Tch w.heap.size M0 w w'/\c'<=maxLen:=by
 obtain ⟨i0,hi,hz0,hz1,hz2⟩:=info_parts info3;have hm:maxLen=9223372036854775807:=by decide
 have hkc:=h.J0u;have hown:(w.alloc (.cells #[] 3)).ownsRow w.heap.size 3 1 (.slice (some ⟨w.heap.size,0,none⟩) 0 0) 0 []:=⟨rfl,.inr ⟨w.heap.size,0,#[],rfl,Ja2 _,Ja _,Ja2 _,by omega,rfl,rfl⟩⟩;have hpl:J1f (w.alloc (.cells #[] 3)) (.slice (some ⟨w.heap.size,0,none⟩) 0 0):=fun g n cap e arr t z ha=>by cases e;have hq:=ha.symm.trans (Ja (w:=w) _);cases hq;exact fun v hv=>by simp at hv
 have hkw:∀ j u,(xs.map (Value.int .i64))[j]?=some u->(w.alloc (.cells #[] 3)).cell? ((⟨b,0,none⟩:Addr).add j)=some u:=fun j u hj=>by
  refine (Jb4 (J7 _ ?_)).trans (hkc j u hj);cases j with
  | zero=>exact h.lt
  | succ j=>simpa [Addr.add] using h.lt
 have hlen:(xs.map (Value.int .i64)).length=xs.length*1:=by simp
 have hone:∀ u∈xs.map (Value.int .i64),u.oneCell'=true:=fun u hu=>by obtain ⟨x,_,rfl⟩:=Jb3.1 hu;rfl
 have hint:∀ u∈xs.map (Value.int .i64),IsInt u:=fun u hu=>by obtain ⟨x,_,rfl⟩:=Jb3.1 hu;exact ⟨_,_,rfl⟩
 have qT:∀ (w:World) (a:Option Addr) (n c n' c':Nat),(binOp .eql 33 (.slice a n c) (.slice none n' c')).run Tryz.prog w=.ok (.bool a.isNone) w:=fun w a n c n' c'=>Lib.run_eql_slice_nil w _ _ a n c n' c' Tryz.underlying33;generalize hxs:xs.map (Value.int .i64)=news at *;generalize hnn:xs.length=n at *
 go_enter Tryz.func47,Tryz.ntmps47
 go_wp2_with (at_builtin;refine J1g _ rfl _ _ 33 rfl w.heap.size 3 i0 _ 1 8 Tryz.underlying33 hi hz0 hz1 hz2 rfl (by decide) _ 0 [] rfl hown ⟨b,0,none⟩ n c news rfl hlen hkw hone (by omega) (by omega) (by simp) hpl hint (Plain.ai (k:=.i64) (xs:=[0])) ?_;intro v' w1 hown' hgrow hnil hpl')
 go_ret;rw [Nat.zero_add,Jc8,<- hxs,<- hnn] at hown';have hv:v'≠.slice none 0 0:=fun e=>by have:=(hnil.1 e).1;cases this
 obtain ⟨g,c',rfl,h1,h2,h3⟩:=Row.Jas hown' hv hpl';refine ⟨g,c',by first|rfl|(rw [hnn];rfl),h1,h2,⟨?_,fun x hx _=>?_,?_,?_,?_⟩,h3⟩
 ·have:=hgrow.size;rw [size_alloc] at this;omega
 ·exact (hgrow.block x (by rw [size_alloc];omega) fun e=>by have:=Ja0 e;simp at this;omega).trans (J7 _ hx)
 ·exact hgrow.tape
 ·exact hgrow.os
 ·exact hgrow.output
theorem Jku (h:Row fr w b 45 .u64 xs cap) (hn:xs.length<=100000) (c:Nat):Calls Tryz.prog 176 #[.slice (some ⟨b,0,none⟩) xs.length c] w fun e w'=>∃ g c',e=.returned (.slice (some ⟨g,0,none⟩) xs.length c')/\w.heap.size<=g/\Row false w' g 45 .u64 xs c'/\Tch w.heap.size M0 w w'/\c'<=maxLen:=by
 obtain ⟨i0,hi,hz0,hz1,hz2⟩:=info_parts J6v;have hm:maxLen=9223372036854775807:=by decide
 have hkc:=h.J0u;have hown:(w.alloc (.cells #[] 45)).ownsRow w.heap.size 45 1 (.slice (some ⟨w.heap.size,0,none⟩) 0 0) 0 []:=⟨rfl,.inr ⟨w.heap.size,0,#[],rfl,Ja2 _,Ja _,Ja2 _,by omega,rfl,rfl⟩⟩;have hpl:J1f (w.alloc (.cells #[] 45)) (.slice (some ⟨w.heap.size,0,none⟩) 0 0):=fun g n cap e arr t z ha=>by cases e;have hq:=ha.symm.trans (Ja (w:=w) _);cases hq;exact fun v hv=>by simp at hv
 have hkw:∀ j u,(xs.map (Value.int .u64))[j]?=some u->(w.alloc (.cells #[] 45)).cell? ((⟨b,0,none⟩:Addr).add j)=some u:=fun j u hj=>by
  refine (Jb4 (J7 _ ?_)).trans (hkc j u hj);cases j with
  | zero=>exact h.lt
  | succ j=>simpa [Addr.add] using h.lt
 have hlen:(xs.map (Value.int .u64)).length=xs.length*1:=by simp
 have hone:∀ u∈xs.map (Value.int .u64),u.oneCell'=true:=fun u hu=>by obtain ⟨x,_,rfl⟩:=Jb3.1 hu;rfl
 have hint:∀ u∈xs.map (Value.int .u64),IsInt u:=fun u hu=>by obtain ⟨x,_,rfl⟩:=Jb3.1 hu;exact ⟨_,_,rfl⟩
 have qT:∀ (w:World) (a:Option Addr) (n c n' c':Nat),(binOp .eql 37 (.slice a n c) (.slice none n' c')).run Tryz.prog w=.ok (.bool a.isNone) w:=fun w a n c n' c'=>Lib.run_eql_slice_nil w _ _ a n c n' c' Tryz.underlying37;generalize hxs:xs.map (Value.int .u64)=news at *;generalize hnn:xs.length=n at *
 go_enter Tryz.func176,Tryz.ntmps176
 go_wp2_with (at_builtin;refine J1g _ rfl _ _ 37 rfl w.heap.size 45 i0 _ 1 8 Tryz.underlying37 hi hz0 hz1 hz2 rfl (by decide) _ 0 [] rfl hown ⟨b,0,none⟩ n c news rfl hlen hkw hone (by omega) (by omega) (by simp) hpl hint (Plain.ai (k:=.u64) (xs:=[0])) ?_;intro v' w1 hown' hgrow hnil hpl')
 go_ret;rw [Nat.zero_add,Jc8,<- hxs,<- hnn] at hown';have hv:v'≠.slice none 0 0:=fun e=>by have:=(hnil.1 e).1;cases this
 obtain ⟨g,c',rfl,h1,h2,h3⟩:=Row.Jas hown' hv hpl';refine ⟨g,c',by first|rfl|(rw [hnn];rfl),h1,h2,⟨?_,fun x hx _=>?_,?_,?_,?_⟩,h3⟩
 ·have:=hgrow.size;rw [size_alloc] at this;omega
 ·exact (hgrow.block x (by rw [size_alloc];omega) fun e=>by have:=Ja0 e;simp at this;omega).trans (J7 _ hx)
 ·exact hgrow.tape
 ·exact hgrow.os
 ·exact hgrow.output
end
theorem J02w (v:Value) (w:World):(Instr.typeAssert (.iface 120 v) 92 120 false).run Tryz.prog w=.ok v w:=by unfold Instr.typeAssert;simp [go_sem]
theorem J02x (v:Value) (w:World):(Instr.typeAssert (.iface 123 v) 92 123 false).run Tryz.prog w=.ok v w:=by unfold Instr.typeAssert;simp [go_sem]
theorem J02y (v:Value) (w:World):(Instr.typeAssert (.iface 126 v) 92 126 false).run Tryz.prog w=.ok v w:=by unfold Instr.typeAssert;simp [go_sem]
structure J0i (fr:Bool) (w:World) (b r cap:Nat) (bits:Int) (rs:List Int):Prop where
 hd:Blk fr w b #[.int .i64 bits,.slice (some ⟨r,0,none⟩) rs.length cap] 122
 row:Row fr w r 5 .u8 rs cap
theorem Tch.J16 {N:Nat} {M:Nat->Prop} {w w':World} (h:Tch N M w.drew w'):Tch N M w w':=⟨h.size,h.heap,h.tape,h.os,h.output⟩
theorem Jr0 {w w':World} {g c':Nat} {bits:Int} {rs:List Int} (hg:w.heap.size<=g) (hrow:Row false w' g 5 .u8 rs c') (ht:Tch w.heap.size M0 w w') :
  ∃ b' r' c2,Ending.returned (Value.iface 120 (.pointer (some ⟨w'.heap.size,0,none⟩)))=.returned (.iface 120 (.pointer (some ⟨b',0,none⟩)))/\w.heap.size<=b'/\w.heap.size<=r'/\b'≠r'/\J0i false (w'.alloc (.cells #[.int .i64 bits,.slice (some ⟨g,0,none⟩) rs.length c'] 122)) b' r' c2 bits rs/\Tch w.heap.size M0 w (w'.alloc (.cells #[.int .i64 bits,.slice (some ⟨g,0,none⟩) rs.length c'] 122)):=
 ⟨_,g,c',rfl,ht.size,hg,by have:=hrow.lt;omega,⟨⟨(0,0),Ja _,fun _=>rfl⟩,hrow.kept (J7 _ hrow.lt)⟩,ht.alloc ht.size _⟩
section
variable {fr:Bool} {w w':World} {b r cap:Nat} {bits:Int} {rs:List Int}
theorem J0i.kept (h:J0i fr w b r cap bits rs) (h1:w'.heap[b]?=w.heap[b]?) (h2:w'.heap[r]?=w.heap[r]?):J0i fr w' b r cap bits rs:=⟨h.hd.kept h1,h.row.kept h2⟩
theorem J0i.c0 (h:J0i fr w b r cap bits rs):w.cell? ⟨b,0,none⟩=some (.int .i64 bits):=(h.hd.cell 0).trans rfl
theorem J0i.c1 (h:J0i fr w b r cap bits rs):w.cell? ⟨b,1,none⟩=some (.slice (some ⟨r,0,none⟩) rs.length cap):=(h.hd.cell 1).trans rfl
theorem Jv2 (h:J0i fr w b r cap bits rs) (hn:rs.length<=1000) :
  Calls Tryz.prog 157 #[.pointer (some ⟨b,0,none⟩)] w fun e w'=>∃ b' r' c',e=.returned (.iface 120 (.pointer (some ⟨b',0,none⟩)))/\w.heap.size<=b'/\w.heap.size<=r'/\b'≠r'/\J0i false w' b' r' c' bits rs/\Tch w.heap.size M0 w w':=by
 have c0:=h.c0;have c1:=h.c1;have hcl:=Jwn (w:=w.drew) (h.row.kept rfl) (by omega) cap;have hb:=h.hd.lt;have hr:=h.row.lt
 go_enter Tryz.func157,Tryz.ntmps157
 go_wp2
 go_region_with (go_at_call 161;refine hcl.mono ?_;rintro e w' ⟨g,c',rfl,hg,hrow,ht,_⟩;have d0:=(ht.cell (a:=⟨b,0,none⟩) hb (fun x=>x)).trans c0;have d1:=(ht.cell (a:=⟨b,1,none⟩) hb (fun x=>x)).trans c1)
 all_goals go_wp2
 all_goals go_ret
 all_goals exact Jr0 hg hrow ht.J16
end
section
variable {fr:Bool} {w w':World} {b r cap:Nat} {bits:Int} {rs:List Int}
theorem Jr1 (h:Row fr w r 5 .u8 rs cap) (hn:rs.length<=1000) (h0:0<rs.length) (hr:∀ x∈rs,0<=x/\x<=255) :
  Calls Tryz.prog 162 #[.slice (some ⟨r,0,none⟩) rs.length cap] w fun e w'=>∃ g c',e=.returned (.slice (some ⟨g,0,none⟩) rs.length c')/\w.heap.size<=g/\Row false w' g 45 .u64 rs c'/\Tch w.heap.size M0 w w':=by
 have hmk:=mkRow 37 45 .u64 8 Tryz.underlying37 J6v (by omega) rs.length (by omega) w;have hrow0:=J6l w 45 .u64 rs.length;have hr0:=h.kept (w':=w.alloc (.cells (Array.replicate rs.length (.int .u64 0)) 45)) (J7 _ h.lt);have ht0:Tch w.heap.size M0 w (w.alloc (.cells (Array.replicate rs.length (.int .u64 0)) 45)):=Tch.refl.alloc (Ja2 _) _;have hrl:=h.lt;generalize hn':rs.length=n at *;generalize w.alloc (.cells (Array.replicate n (.int .u64 0)) 45)=w0 at *;clear h
 go_enter Tryz.func162,Tryz.ntmps162
 go_wp2
 go_loopw [11] (fun i wr=>∃ k:Nat,k<=n/\i=.int .i64 k/\Row false wr w.heap.size 45 .u64 (J0c rs (List.replicate n 0) k) n/\Row fr wr r 5 .u8 rs cap/\Tch w.heap.size M0 w wr) (fun i _=>n-(RowKit.intOf i).toNat)
 case atStart=>exact ⟨0,by omega,rfl,by rw [J2r];exact hrow0,hr0,ht0⟩
 case round=>
  obtain ⟨k,hk,rfl,hd,hs,ht⟩:=hrel;clear hrow0 hr0 ht0 hmk;have hl2:rs.length=(List.replicate n (0:Int)).length:=by simpa using hn'
  rcases Jb5 k n with hlt|hge
  ·have g1:=hs.cell (i:=k) (hn'.symm▸hlt);have g2:=hd.cell (i:=k) (by rw [J0e hl2,List.length_replicate];exact hlt);have g3:=hd.frozen k;have hlt':(k:Int)<n:=by omega
   have hx:=hr (rs.getD k 0) (by rw [Ja7,Jb1 (by omega)];exact List.getElem_mem _);generalize hx0:rs.getD k 0=x at *;have hwrap:IntKind.u64.wrap x=x:=by rw [IntKind.wrap_u64];omega
   have hrw:r≠w.heap.size:=by omega
   have hp:(J0c rs (List.replicate n 0) k).set k x=J0c rs (List.replicate n 0) (k+1):=J3e hl2 (by simpa using hlt) hx0.symm;go_wp2;refine ⟨⟨k+1,by omega,by go_num,?_,hs.kept (Jk _ _ hrw),ht.set (.inl (Ja2 _)) _⟩,by simp [RowKit.intOf];omega⟩;have:=hd.set k x
   rwa [hp] at this
  ·have hge':¬ ((k:Int)<n):=by omega
   obtain rfl:k=n:=by omega
   have hnn:¬ ((k:Int)<k):=by omega
   go_wp2;go_ret;rw [J3d hn' (by simp)] at hd;exact ⟨_,_,rfl,Ja2 _,hd,ht⟩
def maxL (xs ys:List Int):List Int:=xs.zipWith max ys
theorem J7i {xs ys:List Int} (h:xs.length=ys.length):(maxL xs ys).length=xs.length:=by simp [maxL,h]
theorem Jhq {xs ys:List Int} (h:xs.length=ys.length) {k:Nat} (hk:k<xs.length):(maxL xs ys).getD k 0=max (xs.getD k 0) (ys.getD k 0):=by simp [maxL,Ja7,List.getElem?_zipWith,hk,show k<ys.length by omega]
theorem Jr2 {b2 r2 cap2:Nat} {ys:List Int} {Jtx:Int} (h:J0i false w b r cap bits rs) (h2:J0i fr w b2 r2 cap2 Jtx ys) (hl:rs.length=ys.length) (hn:rs.length<=1000) (hbr:b≠r) (hb2:b2≠r) (hr2:r2≠r) :
  Calls Tryz.prog 158 #[.pointer (some ⟨b,0,none⟩),.iface 120 (.pointer (some ⟨b2,0,none⟩))] w fun e w'=>(∃ v,e=.returned v)/\J0i false w' b r cap bits (maxL rs ys)/\Tch w.heap.size (fun x=>x=r) w w':=by
 have d0:=h2.c0;have d1:=h2.c1;have hta:=J02w (.pointer (some ⟨b2,0,none⟩)) w;generalize hn':ys.length=n at *
 go_enter Tryz.func158,Tryz.ntmps158
 go_wp2
 go_loopw [12] (fun i wr=>∃ k:Nat,k<=n/\i=.int .i64 k/\J0i false wr b r cap bits (J0c (maxL rs ys) rs k)/\J0i fr wr b2 r2 cap2 Jtx ys/\Tch w.heap.size (fun x=>x=r) w wr) (fun i _=>n-(RowKit.intOf i).toNat)
 case atStart=>exact ⟨0,by omega,rfl,by rw [J2r];exact h,h2,.refl⟩
 case round=>
  obtain ⟨k,hk,rfl,hd,hs,ht⟩:=hrel;clear d0 d1;have hml:(maxL rs ys).length=rs.length:=J7i (by omega);rcases Jb5 k n with hlt|hge
  ·have e1:=hd.c1;rw [J0e hml] at e1;rw [hl] at e1;have g1:=hs.row.cell (i:=k) (hn'.symm▸hlt);have g2:=hd.row.cell (i:=k) (by rw [J0e hml,hl];exact hlt);rw [J75 hml (by omega)] at g2;have g3:=hd.row.frozen k;have hlt':(k:Int)<n:=by omega
   have hm:=Jhq (xs:=rs) (ys:=ys) (by omega) (k:=k) (by omega);have hp:∀ v,v=(maxL rs ys).getD k 0->(J0c (maxL rs ys) rs k).set k v=J0c (maxL rs ys) rs (k+1):=fun v hv=>J3e hml (by omega) hv;generalize rs.getD k 0=x at *;generalize ys.getD k 0=y at *;go_wp2
   go_region
   all_goals go_wp2
   refine ⟨⟨k+1,by omega,by go_num,⟨?_,?_⟩,hs.kept (Jk _ _ hb2) (Jk _ _ hr2),(ht.set (.inr rfl) _).drew⟩,by simp [RowKit.intOf];omega⟩
   ·have:=hd.hd.kept (w':=(wr.setCell ⟨r,k,none⟩ (.int .u8 (max x y))).drew) (Jk _ _ hbr);rw [J0e hml] at this ⊢;exact this
   ·have:=hd.row.set k (max x y);rw [hp _ hm.symm] at this;exact this.kept rfl
  ·have hge':¬ ((k:Int)<n):=by omega
   obtain rfl:k=n:=by omega
   have hnn:¬ ((k:Int)<k):=by omega
   go_wp2;go_end0;rw [J3d (by omega) hl] at hd;exact ⟨⟨_,rfl⟩,hd,ht⟩
end
structure J0f (fr:Bool) (w:World) (b r cap:Nat) (ba:Option Addr) (nb cb:Nat) (rs:List Int):Prop where
 hd:Blk fr w b #[.slice ba nb cb,.slice (some ⟨r,0,none⟩) rs.length cap] 125
 row:Row fr w r 3 .i64 rs cap
theorem Joa {w w':World} {g c':Nat} {ba:Option Addr} {nb cb:Nat} {rs:List Int} (hg:w.heap.size<=g) (hrow:Row false w' g 3 .i64 rs c') (ht:Tch w.heap.size M0 w w') :
  ∃ b' r' c2,Ending.returned (Value.iface 123 (.pointer (some ⟨w'.heap.size,0,none⟩)))=.returned (.iface 123 (.pointer (some ⟨b',0,none⟩)))/\w.heap.size<=b'/\w.heap.size<=r'/\b'≠r'/\J0f false (w'.alloc (.cells #[.slice ba nb cb,.slice (some ⟨g,0,none⟩) rs.length c'] 125)) b' r' c2 ba nb cb rs/\Tch w.heap.size M0 w (w'.alloc (.cells #[.slice ba nb cb,.slice (some ⟨g,0,none⟩) rs.length c'] 125)):=
 ⟨_,g,c',rfl,ht.size,hg,by have:=hrow.lt;omega,⟨⟨(0,0),Ja _,fun _=>rfl⟩,hrow.kept (J7 _ hrow.lt)⟩,ht.alloc ht.size _⟩
section
variable {fr:Bool} {w w':World} {b r cap:Nat} {ba:Option Addr} {nb cb:Nat} {rs:List Int}
theorem J0f.kept (h:J0f fr w b r cap ba nb cb rs) (h1:w'.heap[b]?=w.heap[b]?) (h2:w'.heap[r]?=w.heap[r]?):J0f fr w' b r cap ba nb cb rs:=⟨h.hd.kept h1,h.row.kept h2⟩
theorem J0f.c0 (h:J0f fr w b r cap ba nb cb rs):w.cell? ⟨b,0,none⟩=some (.slice ba nb cb):=(h.hd.cell 0).trans rfl
theorem J0f.c1 (h:J0f fr w b r cap ba nb cb rs):w.cell? ⟨b,1,none⟩=some (.slice (some ⟨r,0,none⟩) rs.length cap):=(h.hd.cell 1).trans rfl
theorem Jr3 (h:J0f fr w b r cap ba nb cb rs) (hn:rs.length<=1000) :
  Calls Tryz.prog 164 #[.pointer (some ⟨b,0,none⟩)] w fun e w'=>∃ b' r' c',e=.returned (.iface 123 (.pointer (some ⟨b',0,none⟩)))/\w.heap.size<=b'/\w.heap.size<=r'/\b'≠r'/\J0f false w' b' r' c' ba nb cb rs/\Tch w.heap.size M0 w w':=by
 have c0:=h.c0;have c1:=h.c1;have hcl:=Jhp (w:=w.drew) (h.row.kept rfl) (by omega) cap;have hb:=h.hd.lt;have hr:=h.row.lt
 go_enter Tryz.func164,Tryz.ntmps164
 go_wp2
 go_region_with (go_at_call 47;refine hcl.mono ?_;rintro e w' ⟨g,c',rfl,hg,hrow,ht,_⟩;have d0:=(ht.cell (a:=⟨b,0,none⟩) hb (fun x=>x)).trans c0;have d1:=(ht.cell (a:=⟨b,1,none⟩) hb (fun x=>x)).trans c1)
 all_goals go_wp2
 all_goals go_ret
 all_goals exact Joa hg hrow ht.J16
end
section
variable {fr:Bool} {w w':World} {b r cap:Nat} {ba:Option Addr} {nb cb:Nat} {rs:List Int}
theorem Jr4 (h:Row fr w r 3 .i64 rs cap) (hn:rs.length<=1000) (h0:0<rs.length) (hr:∀ x∈rs,0<=x/\x<=9223372036854775807) :
  Calls Tryz.prog 168 #[.slice (some ⟨r,0,none⟩) rs.length cap] w fun e w'=>∃ g c',e=.returned (.slice (some ⟨g,0,none⟩) rs.length c')/\w.heap.size<=g/\Row false w' g 45 .u64 rs c'/\Tch w.heap.size M0 w w':=by
 have hmk:=mkRow 37 45 .u64 8 Tryz.underlying37 J6v (by omega) rs.length (by omega) w;have hrow0:=J6l w 45 .u64 rs.length;have hr0:=h.kept (w':=w.alloc (.cells (Array.replicate rs.length (.int .u64 0)) 45)) (J7 _ h.lt);have ht0:Tch w.heap.size M0 w (w.alloc (.cells (Array.replicate rs.length (.int .u64 0)) 45)):=Tch.refl.alloc (Ja2 _) _;have hrl:=h.lt;generalize hn':rs.length=n at *;generalize w.alloc (.cells (Array.replicate n (.int .u64 0)) 45)=w0 at *;clear h
 go_enter Tryz.func168,Tryz.ntmps168
 go_wp2
 go_loopw [11] (fun i wr=>∃ k:Nat,k<=n/\i=.int .i64 k/\Row false wr w.heap.size 45 .u64 (J0c rs (List.replicate n 0) k) n/\Row fr wr r 3 .i64 rs cap/\Tch w.heap.size M0 w wr) (fun i _=>n-(RowKit.intOf i).toNat)
 case atStart=>exact ⟨0,by omega,rfl,by rw [J2r];exact hrow0,hr0,ht0⟩
 case round=>
  obtain ⟨k,hk,rfl,hd,hs,ht⟩:=hrel;clear hrow0 hr0 ht0 hmk;have hl2:rs.length=(List.replicate n (0:Int)).length:=by simpa using hn'
  rcases Jb5 k n with hlt|hge
  ·have g1:=hs.cell (i:=k) (hn'.symm▸hlt);have g2:=hd.cell (i:=k) (by rw [J0e hl2,List.length_replicate];exact hlt);have g3:=hd.frozen k;have hlt':(k:Int)<n:=by omega
   have hx:=hr (rs.getD k 0) (by rw [Ja7,Jb1 (by omega)];exact List.getElem_mem _);generalize hx0:rs.getD k 0=x at *;have hwrap:IntKind.u64.wrap x=x:=by rw [IntKind.wrap_u64];omega
   have hrw:r≠w.heap.size:=by omega
   have hp:(J0c rs (List.replicate n 0) k).set k x=J0c rs (List.replicate n 0) (k+1):=J3e hl2 (by simpa using hlt) hx0.symm;go_wp2;refine ⟨⟨k+1,by omega,by go_num,?_,hs.kept (Jk _ _ hrw),ht.set (.inl (Ja2 _)) _⟩,by simp [RowKit.intOf];omega⟩;have:=hd.set k x
   rwa [hp] at this
  ·have hge':¬ ((k:Int)<n):=by omega
   obtain rfl:k=n:=by omega
   have hnn:¬ ((k:Int)<k):=by omega
   go_wp2;go_ret;rw [J3d hn' (by simp)] at hd;exact ⟨_,_,rfl,Ja2 _,hd,ht⟩
def J0n (xs ys:List Int):List Int:=xs.zipWith (fun x y=>wrap64 (x+y)) ys
theorem J7j {xs ys:List Int} (h:xs.length=ys.length):(J0n xs ys).length=xs.length:=by simp [J0n,h]
theorem Jhr {xs ys:List Int} (h:xs.length=ys.length) {k:Nat} (hk:k<xs.length):(J0n xs ys).getD k 0=wrap64 (xs.getD k 0+ys.getD k 0):=by simp [J0n,Ja7,List.getElem?_zipWith,hk,show k<ys.length by omega]
theorem Joc {b2 r2 cap2:Nat} {ys:List Int} {ba2:Option Addr} {nb2 cb2:Nat} (h:J0f false w b r cap ba nb cb rs) (h2:J0f fr w b2 r2 cap2 ba2 nb2 cb2 ys) (hl:rs.length=ys.length) (hn:rs.length<=1000) (hbr:b≠r) (hb2:b2≠r) (hr2:r2≠r) :
  Calls Tryz.prog 165 #[.pointer (some ⟨b,0,none⟩),.iface 123 (.pointer (some ⟨b2,0,none⟩))] w fun e w'=>(∃ v,e=.returned v)/\J0f false w' b r cap ba nb cb (J0n rs ys)/\Tch w.heap.size (fun x=>x=r) w w':=by
 have d0:=h2.c0;have d1:=h2.c1;have hta:=J02x (.pointer (some ⟨b2,0,none⟩)) w;generalize hn':ys.length=n at *
 go_enter Tryz.func165,Tryz.ntmps165
 go_wp2
 go_loopw [12] (fun i wr=>∃ k:Nat,k<=n/\i=.int .i64 k/\J0f false wr b r cap ba nb cb (J0c (J0n rs ys) rs k)/\J0f fr wr b2 r2 cap2 ba2 nb2 cb2 ys/\Tch w.heap.size (fun x=>x=r) w wr) (fun i _=>n-(RowKit.intOf i).toNat)
 case atStart=>exact ⟨0,by omega,rfl,by rw [J2r];exact h,h2,.refl⟩
 case round=>
  obtain ⟨k,hk,rfl,hd,hs,ht⟩:=hrel;clear d0 d1;have hml:(J0n rs ys).length=rs.length:=J7j (by omega);rcases Jb5 k n with hlt|hge
  ·have e1:=hd.c1;rw [J0e hml] at e1;rw [hl] at e1;have g1:=hs.row.cell (i:=k) (hn'.symm▸hlt);have g2:=hd.row.cell (i:=k) (by rw [J0e hml,hl];exact hlt);rw [J75 hml (by omega)] at g2;have g3:=hd.row.frozen k;have hlt':(k:Int)<n:=by omega
   have hm:=Jhr (xs:=rs) (ys:=ys) (by omega) (k:=k) (by omega);have hp:∀ v,v=(J0n rs ys).getD k 0->(J0c (J0n rs ys) rs k).set k v=J0c (J0n rs ys) rs (k+1):=fun v hv=>J3e hml (by omega) hv;generalize rs.getD k 0=x at *;generalize ys.getD k 0=y at *;go_wp2;refine ⟨⟨k+1,by omega,by go_num,⟨?_,?_⟩,hs.kept (Jk _ _ hb2) (Jk _ _ hr2),ht.set (.inr rfl) _⟩,by simp [RowKit.intOf];omega⟩
   ·have:=hd.hd.kept (w':=wr.setCell ⟨r,k,none⟩ (.int .i64 (wrap64 (x+y)))) (Jk _ _ hbr);rw [J0e hml] at this ⊢;exact this
   ·have:=hd.row.set k (wrap64 (x+y));rw [hp _ hm.symm] at this;exact this
  ·have hge':¬ ((k:Int)<n):=by omega
   obtain rfl:k=n:=by omega
   have hnn:¬ ((k:Int)<k):=by omega
   go_wp2;go_end0;rw [J3d (by omega) hl] at hd;exact ⟨⟨_,rfl⟩,hd,ht⟩
end
section
variable {fr:Bool} {w w':World} {b r cap:Nat} {rs:List Int}
theorem Jod (h:Row fr w r 45 .u64 rs cap) (hn:rs.length<=1000) (h0:0<rs.length) (hr:∀ x∈rs,0<=x/\x<=9223372036854775807) :
  Calls Tryz.prog 45 #[.slice (some ⟨r,0,none⟩) rs.length cap] w fun e w'=>∃ g c',e=.returned (.slice (some ⟨g,0,none⟩) rs.length c')/\w.heap.size<=g/\Row false w' g 3 .i64 rs c'/\Tch w.heap.size M0 w w':=by
 have hmk:=mkRow 33 3 .i64 8 Tryz.underlying33 info3 (by omega) rs.length (by omega) w;have hrow0:=J6l w 3 .i64 rs.length;have hr0:=h.kept (w':=w.alloc (.cells (Array.replicate rs.length (.int .i64 0)) 3)) (J7 _ h.lt);have ht0:Tch w.heap.size M0 w (w.alloc (.cells (Array.replicate rs.length (.int .i64 0)) 3)):=Tch.refl.alloc (Ja2 _) _;have hrl:=h.lt;generalize hn':rs.length=n at *;generalize w.alloc (.cells (Array.replicate n (.int .i64 0)) 3)=w0 at *;clear h
 go_enter Tryz.func45,Tryz.ntmps45
 go_wp2
 go_loopw [11] (fun i wr=>∃ k:Nat,k<=n/\i=.int .i64 k/\Row false wr w.heap.size 3 .i64 (J0c rs (List.replicate n 0) k) n/\Row fr wr r 45 .u64 rs cap/\Tch w.heap.size M0 w wr) (fun i _=>n-(RowKit.intOf i).toNat)
 case atStart=>exact ⟨0,by omega,rfl,by rw [J2r];exact hrow0,hr0,ht0⟩
 case round=>
  obtain ⟨k,hk,rfl,hd,hs,ht⟩:=hrel;clear hrow0 hr0 ht0 hmk;have hl2:rs.length=(List.replicate n (0:Int)).length:=by simpa using hn'
  rcases Jb5 k n with hlt|hge
  ·have g1:=hs.cell (i:=k) (hn'.symm▸hlt);have g2:=hd.cell (i:=k) (by rw [J0e hl2,List.length_replicate];exact hlt);have g3:=hd.frozen k;have hlt':(k:Int)<n:=by omega
   have hx:=hr (rs.getD k 0) (by rw [Ja7,Jb1 (by omega)];exact List.getElem_mem _);generalize hx0:rs.getD k 0=x at *;have hwrap:IntKind.i64.wrap x=x:=by rw [IntKind.wrap_i64];omega
   have J07u:wrap64 x=x:=by unfold wrap64;omega
   have hrw:r≠w.heap.size:=by omega
   have hp:(J0c rs (List.replicate n 0) k).set k x=J0c rs (List.replicate n 0) (k+1):=J3e hl2 (by simpa using hlt) hx0.symm;go_wp2;refine ⟨⟨k+1,by omega,by go_num,?_,hs.kept (Jk _ _ hrw),ht.set (.inl (Ja2 _)) _⟩,by simp [RowKit.intOf];omega⟩;have:=hd.set k x
   rwa [hp] at this
  ·have hge':¬ ((k:Int)<n):=by omega
   obtain rfl:k=n:=by omega
   have hnn:¬ ((k:Int)<k):=by omega
   go_wp2;go_ret;rw [J3d hn' (by simp)] at hd;exact ⟨_,_,rfl,Ja2 _,hd,ht⟩
end
end Go.Sim.Z
