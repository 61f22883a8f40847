/- Proved: laws for the claim. No conditions. -/
import Derived.Test.YtlcbehhbfglgaaaGreatDoorC12
import Derived.Test.YtlcbehhbfglgaaaGreatDoorC18
import Derived.Test.YtlcbehhbfglgaaaGreatDoorC23
set_option linter.all false
set_option maxHeartbeats 4000000
set_option maxRecDepth 100000
open Go.Proofs.Tryz
noncomputable section
namespace Go.Sim.Z
open Go Go.Proofs Go.RowKit Go.Conc Go.Maps
inductive PD(b0:Nat)(E:JB)(w:JE):List (Nat × Obj)->Prop
 |nil:PD b0 E w []
 |cons{p:Nat × Obj}{H:List (Nat × Obj)}(h:b0<=p.1/\E p.1/\w.heap[p.1]?=some p.2)(t:PD b0 E w H):PD b0 E w (p::H)
def PD.hd{b0:Nat}{E:JB}{w:JE}{p:Nat × Obj}{H:List (Nat × Obj)}(h:PD b0 E w (p::H)):b0<=p.1/\E p.1/\w.heap[p.1]?=some p.2:=by cases h;assumption
def PD.tl{b0:Nat}{E:JB}{w:JE}{p:Nat × Obj}{H:List (Nat × Obj)}(h:PD b0 E w (p::H)):PD b0 E w H:=by cases h;assumption
def PD.up{b0:Nat}{E E':JB}{w w':JE}{H:List (Nat × Obj)}(h:PD b0 E w H)(hs:∀b,E b->E' b)(hh:∀b,E b->w'.heap[b]?=w.heap[b]?):PD b0 E' w' H:=by
 induction h with
 |nil=>exact .nil
 |cons h _ ih=>exact .cons ⟨h.1,hs _ h.2.1,(hh _ h.2.1).trans h.2.2⟩ ih
def FJ(b0:Nat)(vv:JJ)(b o n cap k:Nat)(f:Jd)(A B C:Int)(E:JB)(w:JE)(i:Nat)(v:JJ):Prop:=∃H,J019 vv b o n cap k f A B C i v H/\PD b0 E w H
def FJ.up{b0:Nat}{vv:JJ}{b o n cap k:Nat}{f:Jd}{A B C:Int}{E E':JB}{w w':JE}{i:Nat}{v:JJ}(h:FJ b0 vv b o n cap k f A B C E w i v)(hs:∀b,E b->E' b)(hh:∀b,E b->w'.heap[b]?=w.heap[b]?):FJ b0 vv b o n cap k f A B C E' w' i v:=by obtain⟨H,h1,h2⟩:=h;exact⟨H,h1,h2.up hs hh⟩
def Jwf:RU .any MW 17 (λi=>i+36)=true:=by kernel_rfl
def Jz5{E:JB}{kb:Nat}{x y:Int}(h:E kb):VR C0 (idE E) (.agg #[JM kb 3 3,JK x,JK y]) (.agg #[JM kb 3 3,JK x,JK y]):=by
 refine .agg rfl λi x x' h1 h2=>?_;rw[h1]at h2;cases h2
 match i with
 |0=>cases h1;exact .slice _ _ _ _ ⟨rfl,h⟩
 |1=>cases h1;exact .int _ _
 |2=>cases h1;exact .int _ _
 |i+3=>simp at h1
section
variable{W E0 E:JB}{w0 w:JE}{T:JC}{n cap k b o:Nat}{v3:JJ}{f:Jd}{A B C:Int}{kk:List Item}{cs:List Frame}{Post:(JB)->JF->JE->Prop}
def J059(hk:(k:Int)<n)(hW:W b)(hT:∀c z,w0.heap[b]?≠some (.cells c wgT z))(vY:w0.cell? ⟨b,o+k*5+3,none⟩=some (JK f.it))(Xq:w0.cell? ⟨b,o+k*5+4,none⟩=some (JK f.v))
  (kn:∀E T w,HS 13 W E0 w0 E T w->F6 (some ⟨b,o,none⟩) n cap k v3 T->(∀i,i<17->∃v,T[i+36]?=some v/\FJ w0.heap.size v3 b o n cap k f A B C E w i v)->Reach prog Post W (G ((base 13).at ⟨T,[]⟩ (.inRegion MW [17,18]::kk)) cs) w) :
  ∀(listed:Array Bool)(pre:List Nat),Wk MW 17 listed pre->∀E T w,listed.size=19->HS 13 W E0 w0 E T w->F6 (some ⟨b,o,none⟩) n cap k v3 T->T[5]?=some (JK A)->T[6]?=some (JK B)->T[7]?=some (JK C) ->
   (∀i,i<17->listed[i]?=some true->∃v,T[i+36]?=some v/\FJ w0.heap.size v3 b o n cap k f A B C E w i v)->Reach prog Post W (G ((base 13).at ⟨T,[]⟩ (.inRegion MW (pre++[17,18])::kk)) cs) w:=by
 intro listed pre Zl
 induction Zl with
 |done h=>grind
 |@step listed i pre hi hr _ ih=>
  intro E T w OQ H F s5 s6 s7 hJ;obtain⟨hin,hf,o2x,ho,BK⟩:=lW hr;obtain⟨o2,Zf,hg,Vu,Il,_⟩:=(Je9 Jwf).2.1 i hi;obtain rfl:o2=o2x:=by grind
  have sz:=F.sz;have s0:=F.s0;have s3:=F.s3;have s4:=F.s4;have wC:VR C0 (idE E) v3 v3:=H.tm.slot (i:=3) rfl s3;have hd:∀j,(o2.after.toList.any λe=>e.on == j && Region.binds .any e)=true->∃v,T[j+36]?=some v/\FJ w0.heap.size v3 b o n cap k f A B C E w j v:=λj hj=>by
   grind
  have GX:∀E' v w',HS 13 W E0 w0 E' (T.setIfInBounds (i+36) v) w'->(∀b,E b->E' b)->(∀b,E b->w'.heap[b]?=w.heap[b]?)->FJ w0.heap.size v3 b o n cap k f A B C E' w' i v->Reach prog Post W (G ((base 13).at ⟨T.setIfInBounds (i+36) v,[]⟩ (.inRegion MW (pre++[17,18])::kk)) cs) w':=λE' v w' H' hs hh hv=>by
   refine ih E' _ w' (by grind) H' (F.set (by omega) v) ?_ ?_ ?_ λj hj hl=>?_
   .grind
   .grind
   .grind
   .by_cases e:j=i
    .grind
    .rw[AV (Ne.symm e)]at hl;obtain⟨x,h1,h2⟩:=hJ j hj hl;exact⟨x,by grind,h2.up hs hh⟩
  have Jp:∀v,(∀w1,(execOp (Act.eval ⟨T,[]⟩) o2).run prog w1=.ok (.value v) w1)->(∀w1,(execOp (Act.eval ⟨T,[]⟩) o2).events prog w1 #[]=#[])->((C0.hl 13).contains (i+36)=true\/VR C0 (idE E) v v)->FJ w0.heap.size v3 b o n cap k f A B C E w i v ->
    Reach prog Post W (G ((base 13).at ⟨T,[]⟩ (.inRegion MW (i::(pre++[17,18]))::kk)) cs) w:=λv hr he hv hj=>by
   exact Jb H ho (by simp[Region.wanted,hg]) Vu hr he hv λw' H' hh=>GX E v w' H' (λb hb=>hb) (λb _=>by rw[hh]) (hj.up (λb hb=>hb) λb _=>by rw[hh])
  show Reach prog Post W (G ((base 13).at ⟨T,[]⟩ (.inRegion MW (i::(pre++[17,18]))::kk)) cs) w
  revert ho hd Jp GX
  clear hf hr hin ih BK Zf Il hg Vu
  match i,hi with
  |0,_=>
   intro ho hd GX Jp;obtain rfl:o2=qZ:=(Aa ho).symm;exact Jp v3 (λw1=>by simp[execOp,go_sem,qZ,s3];try rfl) (λw1=>by simp[execOp,go_sem,qZ,s3];try rfl) (.inr wC) ⟨[],⟨rfl,rfl⟩,.nil⟩
  |1,_=>
   intro ho hd GX Jp;obtain rfl:o2=rC:=(Aa ho).symm;exact Jp (JK A) (λw1=>by simp[execOp,go_sem,rC,s5];try rfl) (λw1=>by simp[execOp,go_sem,rC,s5];try rfl) (.inr (.int _ _)) ⟨[],⟨rfl,rfl⟩,.nil⟩
  |2,_=>
   intro ho hd GX Jp;obtain rfl:o2=rD:=(Aa ho).symm;exact Jp (JK B) (λw1=>by simp[execOp,go_sem,rD,s6];try rfl) (λw1=>by simp[execOp,go_sem,rD,s6];try rfl) (.inr (.int _ _)) ⟨[],⟨rfl,rfl⟩,.nil⟩
  |3,_=>
   intro ho hd GX Jp;obtain rfl:o2=rE:=(Aa ho).symm;exact Jp (JK C) (λw1=>by simp[execOp,go_sem,rE,s7];try rfl) (λw1=>by simp[execOp,go_sem,rE,s7];try rfl) (.inr (.int _ _)) ⟨[],⟨rfl,rfl⟩,.nil⟩
  |4,_=>
   intro ho hd GX Jp;obtain rfl:=(Aa ho).symm;obtain⟨_,e1,H1,⟨rfl,rfl⟩,l1⟩:=hd 1 rfl;obtain⟨_,e2,H2,⟨rfl,rfl⟩,l2⟩:=hd 2 rfl;obtain⟨_,e3,H3,⟨rfl,rfl⟩,l3⟩:=hd 3 rfl;refine Jkd (o:=rG) (v:=JM w.heap.size 3 3) (arr:=#[JK A,JK B,JK C]) (ty:=3) H rfl rfl rfl (λw1 hz=>by simp[execOp,go_sem,rG,e1,e2,e3,hz];try rfl) (λw1=>by simp[execOp,go_sem,rG,e1,e2,e3];try rfl) (λx hx=>?_) (.inr (.slice _ _ _ _ ⟨rfl,.inr rfl⟩)) λw' H' hk hb hz=>?_
   .simp only[AL,BU,or_false]at hx;rcases hx with rfl|rfl|rfl<;>exact .int _ _
   .exact GX _ _ _ H' (λb hb=>.inl hb) (λb hb=>hk b (.inl hb)) ⟨_,⟨_,rfl,rfl⟩,.cons ⟨H.sz,.inr rfl,hb⟩ .nil⟩
  |5,_=>
   intro ho hd GX Jp;obtain rfl:o2=rH:=(Aa ho).symm;exact Jp (.slice (some ⟨b,o,none⟩) n cap) (λw1=>by simp[execOp,go_sem,rH,s0];try rfl) (λw1=>by simp[execOp,go_sem,rH,s0];try rfl) (.inl rfl) ⟨[],⟨rfl,rfl⟩,.nil⟩
  |10,_=>
   intro ho hd GX Jp;obtain rfl:o2=oC:=(Aa ho).symm;exact Jp (.slice (some ⟨b,o,none⟩) n cap) (λw1=>by simp[execOp,go_sem,oC,s0];try rfl) (λw1=>by simp[execOp,go_sem,oC,s0];try rfl) (.inl rfl) ⟨[],⟨rfl,rfl⟩,.nil⟩
  |6,_=>
   intro ho hd GX Jp;obtain rfl:o2=rJ:=(Aa ho).symm;exact Jp (JK k) (λw1=>by simp[execOp,go_sem,rJ,s4];try rfl) (λw1=>by simp[execOp,go_sem,rJ,s4];try rfl) (.inr (.int _ _)) ⟨[],⟨rfl,rfl⟩,.nil⟩
  |11,_=>
   intro ho hd GX Jp;obtain rfl:o2=oD:=(Aa ho).symm;exact Jp (JK k) (λw1=>by simp[execOp,go_sem,oD,s4];try rfl) (λw1=>by simp[execOp,go_sem,oD,s4];try rfl) (.inr (.int _ _)) ⟨[],⟨rfl,rfl⟩,.nil⟩
  |7,_=>
   intro ho hd GX Jp;obtain rfl:o2=rM:=(Aa ho).symm;obtain⟨_,e5,H5,⟨rfl,rfl⟩,l5⟩:=hd 5 rfl;obtain⟨_,e6,H6,⟨rfl,rfl⟩,l6⟩:=hd 6 rfl;exact Jp (pt b (o+k*5)) (λw1=>by simp[execOp,go_sem,rM,e5,e6,hk];try rfl) (λw1=>by simp[execOp,go_sem,rM,e5,e6,hk];try rfl) (.inl rfl) ⟨[],⟨rfl,rfl⟩,.nil⟩
  |8,_=>
   intro ho hd GX Jp;obtain rfl:o2=rO:=(Aa ho).symm;obtain⟨_,e7,H7,⟨rfl,rfl⟩,l7⟩:=hd 7 rfl;exact Jp (pt b (o+k*5+3)) (λw1=>by simp[execOp,go_sem,rO,e7];try rfl) (λw1=>by simp[execOp,go_sem,rO,e7];try rfl) (.inl rfl) ⟨[],⟨rfl,rfl⟩,.nil⟩
  |12,_=>
   intro ho hd GX Jp;obtain rfl:o2=oG:=(Aa ho).symm;obtain⟨_,e5,H5,⟨rfl,rfl⟩,l5⟩:=hd 10 rfl;obtain⟨_,e6,H6,⟨rfl,rfl⟩,l6⟩:=hd 11 rfl;exact Jp (pt b (o+k*5)) (λw1=>by simp[execOp,go_sem,oG,e5,e6,hk];try rfl) (λw1=>by simp[execOp,go_sem,oG,e5,e6,hk];try rfl) (.inl rfl) ⟨[],⟨rfl,rfl⟩,.nil⟩
  |13,_=>
   intro ho hd GX Jp;obtain rfl:o2=oH:=(Aa ho).symm;obtain⟨_,e7,H7,⟨rfl,rfl⟩,l7⟩:=hd 12 rfl;exact Jp (pt b (o+k*5+4)) (λw1=>by simp[execOp,go_sem,oH,e7];try rfl) (λw1=>by simp[execOp,go_sem,oH,e7];try rfl) (.inl rfl) ⟨[],⟨rfl,rfl⟩,.nil⟩
  |9,_=>
   intro ho hd GX Jp;obtain rfl:o2=bP:=(Aa ho).symm;obtain⟨_,e8,H8,⟨rfl,rfl⟩,l8⟩:=hd 8 rfl;refine aW (o:=bP) (v:=JK f.it) (a:=⟨b,o+k*5+3,none⟩) H hW (λc z=>by rw[H.kw b hW];exact hT c z) ((Du (H.kw b hW)).trans vY) rfl rfl rfl (λw1 DF=>by simp[execOp,go_sem,bP,e8,DF];try rfl) (λw1 DF=>by simp[execOp,go_sem,bP,e8,DF];try rfl) (.inr (.int _ _)) λw' H' hk hz=>?_;exact GX _ _ _ H' (λb hb=>hb) (λb hb=>hk b (.inl hb)) ⟨[],⟨rfl,rfl⟩,.nil⟩
  |14,_=>
   intro ho hd GX Jp;obtain rfl:o2=aX:=(Aa ho).symm;obtain⟨_,e8,H8,⟨rfl,rfl⟩,l8⟩:=hd 13 rfl;refine aW (o:=aX) (v:=JK f.v) (a:=⟨b,o+k*5+4,none⟩) H hW (λc z=>by rw[H.kw b hW];exact hT c z) ((Du (H.kw b hW)).trans Xq) rfl rfl rfl (λw1 DF=>by simp[execOp,go_sem,aX,e8,DF];try rfl) (λw1 DF=>by simp[execOp,go_sem,aX,e8,DF];try rfl) (.inr (.int _ _)) λw' H' hk hz=>?_;exact GX _ _ _ H' (λb hb=>hb) (λb hb=>hk b (.inl hb)) ⟨[],⟨rfl,rfl⟩,.nil⟩
  |15,_=>
   intro ho hd GX Jp;obtain rfl:o2=oI:=(Aa ho).symm;obtain⟨_,e4,H4,⟨kb,rfl,rfl⟩,l4⟩:=hd 4 rfl;obtain⟨_,e9,H9,⟨rfl,rfl⟩,l9⟩:=hd 9 rfl;obtain⟨_,O5,H14,⟨rfl,rfl⟩,l14⟩:=hd 14 rfl;exact Jp (.agg #[JM kb 3 3,JK f.it,JK f.v]) (λw1=>by simp[execOp,go_sem,oI,e4,e9,O5];try rfl) (λw1=>by simp[execOp,go_sem,oI,e4,e9,O5];try rfl) (.inr (Jz5 l4.hd.2.1)) ⟨_,⟨_,rfl,rfl⟩,l4⟩
  |16,_=>
   intro ho hd GX Jp;obtain rfl:o2=aY:=(Aa ho).symm;obtain⟨_,KG,H15,⟨kb,rfl,rfl⟩,lJ⟩:=hd 15 rfl;refine Jkd (o:=aY) (v:=JM w.heap.size 1 1) (arr:=#[JM kb 3 3,JK f.it,JK f.v]) (ty:=50) H rfl rfl rfl (λw1 hz=>by simp[execOp,go_sem,aY,KG,hz];try rfl) (λw1=>by simp[execOp,go_sem,aY,KG];try rfl) (λx hx=>?_) (.inr (.slice _ _ _ _ ⟨rfl,.inr rfl⟩)) λw' H' hk hb hz=>?_
   .simp only[AL,BU,or_false]at hx;rcases hx with rfl|rfl|rfl
    .exact .slice _ _ _ _ ⟨rfl,lJ.hd.2.1⟩
    .exact .int _ _
    .exact .int _ _
   .exact GX _ _ _ H' (λb hb=>.inl hb) (λb hb=>hk b (.inl hb)) ⟨_,⟨_,_,rfl,rfl⟩,.cons ⟨H.sz,.inr rfl,hb⟩ (lJ.up (λb hb=>.inl hb) λb hb=>hk b (.inl hb))⟩
  |i+17,h=>grind
end
section
variable{W E0 E:JB}{w0 w:JE}{T:JC}{la:JI}{n cap k:Nat}{v3:JJ}{kk:List Item}{cs:List Frame}{Post:(JB)->JF->JE->Prop}
def J3r(H:HS 13 W E0 w0 E T w)(F:F6 la n cap k v3 T)(hk:k<1000)
  (kn:∀T' w',HS 13 W E0 w0 E T' w'->F6 la n cap (k+1) v3 T'->w'.heap=w.heap->Reach prog Post W (G ((base 13).at ⟨T',[]⟩ kk) cs) w') :
  Reach prog Post W (G ((base 13).at ⟨T,[]⟩ (.code (.region 4 dQ false)::kk)) cs) w:=by
 have sz:=F.sz;have s4:=F.s4;have hw:IntKind.i64.wrap ((k:Int)+1)=((k+1:Nat):Int):=by simp[IntKind.wrap,IntKind.signed,IntKind.bits];omega
 refine J6 (λw1=>stepG_region) rfl λd1=>?_;rw[show List.range dQ.size=[0,1,2]from rfl];have H:=H.at d1;refine Jb (o:=pR) (v:=JK k) H rfl rfl rfl (λw1=>by simp[execOp,go_sem,pR,s4];try rfl) (λw1=>by simp[execOp,go_sem,pR,s4];try rfl) (.inr (.int _ _)) λw2 H h0=>?_;refine Jb (o:=pU) (v:=JK (k+1:Nat)) H rfl rfl rfl (λw1=>by simp[execOp,go_sem,pU,sz,hw];try rfl) (λw1=>by simp[execOp,go_sem,pU,sz];try rfl) (.inr (.int _ _)) λw3 H h1=>?_;refine Jb (o:=pV) (v:=JK (k+1:Nat)) H rfl rfl rfl (λw1=>by simp[execOp,go_sem,pV,sz];try rfl) (λw1=>by simp[execOp,go_sem,pV,sz];try rfl) (.inr (.int _ _)) λw4 H h2=>?_;refine J6 (λw1=>stepG_region_end) rfl λd2=>?_;obtain⟨f1,f2,f3,f4,f5⟩:=F;refine kn _ _ (H.at d2) ⟨by grind,?_,?_,?_,by simp[sz]⟩ (h2.trans (h1.trans h0))<;>(repeat rw[AV (by omega)])<;>assumption
def FN.keE{base:Nat}{v:JJ}{L:List (Jd × Nat)}{w':JE}(h:FN w base v L)(k:KE E w w')(hv:VR C0 (idE E) v v)(hE:∀p∈L,E p.2):FN w' base v L:=by
 refine⟨⟨h.own.1,?_⟩,λp hp=>⟨(h.rows p hp).1,(by obtain⟨cur,h1,h2⟩:=(h.rows p hp).2.1;exact⟨cur,k.blk (hE p hp) h1,h2⟩),(h.rows p hp).2.2⟩⟩;rcases h.own.2 with hn|⟨g,cap,cur,rfl,hb,hg,rest⟩
 .exact .inl hn
 .exact .inr ⟨g,cap,cur,rfl,hb,k _ _ hv.MQ hg trivial,rest⟩
def HS.to0{fn:JG}{E':JB}{w':JE}(h:HS fn W E0 w0 E T w)(hB:BOk C0 S0 W E' w')(hs:∀b,E b->E' b)(he:KE E0 w w')(hw:∀b,W b->w'.heap[b]?=w.heap[b]?)(hz:w.heap.size<=w'.heap.size){T':JC}(ht:TmR C0 S0 fn (idE E') T' T'):HS fn W E0 w0 E' T' w':=
 ⟨hB,λb hb=>hs b (h.le b hb),h.ke.trans he,λb hb=>(hw b hb).trans (h.kw b hb),ht,h.own,BN h.sz hz⟩
def Jrz{b o base:Nat}{f:Jd}{A B C:Int}{L:List (Jd × Nat)}(H:HS 13 W E0 w0 E T w)(F:F6 (some ⟨b,o,none⟩) n cap k v3 T)(s5:T[5]?=some (JK A))(s6:T[6]?=some (JK B))(s7:T[7]?=some (JK C))(hk:(k:Int)<n)(hW:W b)(hT:∀c z,w.heap[b]?≠some (.cells c wgT z))(vY:w.cell? ⟨b,o+k*5+3,none⟩=some (JK f.it))(Xq:w.cell? ⟨b,o+k*5+4,none⟩=some (JK f.v))
  (hL:FN w base v3 L) (Vq:∀p∈L,E p.2) (CQ:base<=w0.heap.size) (fK:∀b,E0 b->b<base) (hn:L.length<=1000) (hf:f.k=[A,B,C])
  (kn:∀E' T' w' v' kb,HS 13 W E0 w0 E' T' w'->F6 (some ⟨b,o,none⟩) n cap k v' T'->FN w' base v' (L++[(f,kb)])->(∀p∈L++[(f,kb)],E' p.2)->Reach prog Post W (G ((Go.Conc.base 13).at ⟨T',[]⟩ kk) cs) w') :
  Reach prog Post W (G ((Go.Conc.base 13).at ⟨T,[]⟩ (.code (.region 8 MW true)::kk)) cs) w:=by
 refine Reach.mid (Mid:=λg' w'=>∃n0,g'=G ((Go.Conc.base 13).at ⟨T,[]⟩ (.inRegion MW (Region.schedule (C0.P.follows .mixedOrders) MW n0)::kk)) cs/\BOk C0 S0 W E w'/\w'.heap.size=w.heap.size/\∀b,E b->w'.heap[b]?=w.heap[b]?) (Reach.draw (C:=C0) rfl H.bok λn0 w' h1 h2 h3=>Reach.here ⟨rfl,n0,rfl,h1,h2,h3⟩) λg' w1 ⟨n0,e,h1,h2,h3⟩ hK=>?_;subst e;rw[show C0.P.follows .mixedOrders=true from mixed];obtain⟨pre,QU,_,_,Zl⟩:=Jk5 prog Jwf n0;rw[QU,show List.range' 17 (MW.size-17)=[17,18]from rfl];have Hs:HS 13 W E w E T w1:=H.start.to h1 (λ_ h=>h) (.of_eq h3) hK (by omega);refine J059 (f:=f) (A:=A) (B:=B) (C:=C) hk hW hT vY Xq (λE2 T2 w2 H2 F2 hJ=>?_) (Array.replicate MW.size false) pre Zl E T w1 rfl Hs F s5 s6 s7 λi hi hl=>by
  grind
 have Es:FN w2 base v3 L:=hL.keE H2.ke (H.tm.slot (i:=3) rfl F.s3) Vq;obtain⟨v0,f0,H0,⟨_,e0⟩,l0⟩:=hJ 0 (by omega);rw[e0]at f0;obtain⟨_,f16,H16,⟨sb,kb,rfl,rfl⟩,lM⟩:=hJ 16 (by omega);have b1:=lM.hd;have b2:=lM.tl.hd;simp only at b1 b2;have lY:=F2.sz;have DR:=H2.sz;have hz:=H.sz;have Aj:Row false w2 kb 3 .i64 f.k 3:=by
  rw[hf];refine⟨_,⟨(0,0),b2.2.2,λ_=>rfl⟩,rfl,by grind,λi hi=>?_,?_⟩
  .grind
  .exactλv hv=>by
    simp only[AL,BU,or_false]at hv;rcases hv with rfl|rfl|rfl<;>exact⟨_,_,rfl⟩
 have Hc:=H.comp H2;refine pG (pre:=[17]) (rest:=[18]) (Q:=λT3 w3=>∃v',T3=T2.setIfInBounds 53 v'/\FN w3 base v' (L++[(f,kb)])/\w2.heap.size<=w3.heap.size/\∀b,b<base->w3.heap[b]?=w2.heap[b]?) Hc (by kernel_rfl) (by simp) uS rfl rU (λτ=>?_) λE3 T3 Iy w3 CO Hf CY Dx ⟨v',q1,q2,q3,q4⟩ Qe=>?_
 .rw[wpOps_cons];obtain⟨v',w',r1,r2,r3,r4⟩:=(Es.kept (w':=w2.tp τ 0) λ_ _=>rfl).push (f:=f) (kb:=kb) (sb:=sb) (by show base<=w2.heap.size;omega) hn (by rw[hf];rfl) (by omega) (Aj.kept rfl) b1.2.2 28;refine Jnt rfl rfl rfl f0 f16 r1 ?_;refine⟨rfl,rfl,λi hi Nq=>?_,v',rfl,r2,r3.size,λb hb=>r3.block b (by show b<w2.heap.size;omega) λe=>?_⟩
  .have:=hl6 hi;exact AV (by omega)
  grind
 subst q1;have vE3:VR C0 (idE E3) v' v':=Dx.slot (i:=53) rfl (by grind);have l3:=Jt rfl CY;have Hd:=Hc.to0 Hf CO ((KE.of_eq (λb hb=>q4 b (fK b hb))).trans (l3.mono λb hb=>CO b (Hc.le b hb))) Qe (by rw[CY.lsz rfl];exact q3) Dx;have KI:∀p∈L++[(f,kb)],E3 p.2:=λp hp=>by
  rcases Gn.1 hp with hp|hp
  .exact CO _ (H2.le _ (Vq p hp))
  grind
 have hLd:=q2.keE l3 vE3 KI;refine Jb (o:=oJ) (v:=v') Hd rfl rfl rfl (λw1=>by simp[execOp,go_sem,oJ,lY];try rfl) (λw1=>by simp[execOp,go_sem,oJ,lY];try rfl) (.inr vE3) λw4 H4 h4=>?_;refine J6 (λw1=>stepG_region_end) rfl λd2=>?_;refine kn _ _ _ v' kb (H4.at d2) ?_ (hLd.kept (w':=w4.at d2) λb _=>by show w4.heap[b]?=_;rw[h4]) KI;obtain⟨f1,f2,f3,f4,f5⟩:=F2;refine⟨by grind,?_,?_,by simp[lY],?_⟩<;>(repeat rw[AV (by omega)])<;>assumption
end
section
variable{fn:JG}{W E0 E:JB}{w0 w:JE}{T:JC}{ops:Array Oper}{la:JI}{n cap k d i s id:Nat}{N:Int}{ty:JH}{kk:List Item}{cs:List Frame}{Post:(JB)->JF->JE->Prop}
def Jev(H:HS fn W E0 w0 E T w)(hp:ops.map (λo=>(o.guard,o.dst,o.op))=#[(none,some d,.move (.tmp i)),(none,some (d+1),.move (.tmp s)),(none,some (d+2),.call { callee:=.builtin .len,args:=#[.tmp (d+1)],argTypes:=#[ty] }),(none,some (d+3),.binOp .lss 3 (.tmp d) (.tmp (d+2)) 3),(none,some (d+4),.move (.tmp (d+3))),(some (4,true),some (d+5),.move (.tmp i)),(some (4,true),some (d+6),.binOp .lss 3 (.tmp (d+5)) (.const (JK N)) 3),(none,some (d+7),.pick (.tmp (d+4)) (.tmp (d+6)) (.const (.bool false)))])
  (hI:T[i]?=some (JK k)) (hS:T[s]?=some (.slice la n cap)) (hi:i<d) (hs:s<d) (hd:d+7<T.size) (hh:(C0.hl fn).contains (d+1)=true) (hl:∀t w,(Builtin.len_ #[ty] t #[.slice la n cap]).run prog w=.ok (JK n) w/\(Builtin.len_ #[ty] t #[.slice la n cap]).events prog w #[]=#[])
  (kn:∀T' w',HS fn W E0 w0 E T' w'->T'.size=T.size->(∀j,j<d->T'[j]?=T[j]?)->T'[d+7]?=some (.bool (decide (k<n) && decide ((k:Int)<N)))->w'.heap=w.heap->Reach prog Post W (G ((base fn).at ⟨T',[]⟩ kk) cs) w') :
  Reach prog Post W (G ((base fn).at ⟨T,[]⟩ (.code (.region id ops false)::kk)) cs) w:=by
 have op:∀{j:Nat}{g dd x},((ops.map λo=>(o.guard,o.dst,o.op))[j]?=some (g,dd,x))->∃o,ops[j]?=some o/\o.guard=g/\o.dst=dd/\o.op=x:=λ{j g dd x} h=>by
  grind
 rw[hp]at op;have hz:ops.size=8:=by have:=congrArg Array.size hp;simpa using this
 obtain⟨o0,h0,g0,d0,x0⟩:=op (j:=0) rfl;obtain⟨o1,h1,g1,d1,x1⟩:=op (j:=1) rfl;obtain⟨o2,h2,g2,d2,x2⟩:=op (j:=2) rfl;obtain⟨o3,h3,g3,d3,x3⟩:=op (j:=3) rfl;obtain⟨o4,h4,g4,d4,x4⟩:=op (j:=4) rfl;obtain⟨o5,h5,g5,d5,x5⟩:=op (j:=5) rfl;obtain⟨o6,h6,g6,d6,x6⟩:=op (j:=6) rfl;obtain⟨o7,h7,g7,d7,x7⟩:=op (j:=7) rfl;have z:∀j,j<8->d+j<T.size:=λj hj=>by omega
 have z0:d<T.size:=z 0 (by omega);have z1:=z 1 (by omega);have z2:=z 2 (by omega);have z3:=z 3 (by omega);have z4:=z 4 (by omega);have z5:=z 5 (by omega);have z6:=z 6 (by omega);have ni:∀j,d+j≠i:=λj=>by omega
 have ni0:d≠i:=by omega
 have ns0:d≠s:=by omega
 refine J6 (λw1=>stepG_region) rfl λe1=>?_;rw[hz,show List.range 8=[0,1,2,3,4,5,6,7]from rfl];refine Jb (o:=o0) (v:=JK k) (H.at e1) h0 (by simp[Region.wanted,g0]) d0 (λw1=>by simp[execOp,x0,go_sem,hI];try rfl) (λw1=>by simp[execOp,x0,go_sem,hI];try rfl) (.inr (.int _ _)) λw0 H f0=>?_;refine Jb (o:=o1) (v:=.slice la n cap) H h1 (by simp[Region.wanted,g1]) d1 (λw1=>by simp[execOp,x1,go_sem,hS,ns0];try rfl) (λw1=>by simp[execOp,x1,go_sem,hS,ns0];try rfl) (.inl hh) λw1 H f1=>?_;refine Jb (o:=o2) (v:=JK n) H h2 (by simp[Region.wanted,g2]) d2 (λw1=>by simp[execOp,x2,go_sem,z1,hl]) (λw1=>by simp[execOp,x2,go_sem,z1,hl]) (.inr (.int _ _)) λw2 H f2=>?_;refine Jb (o:=o3) (v:=.bool (decide (k<n))) H h3 (by simp[Region.wanted,g3]) d3 (λw1=>by simp[execOp,x3,go_sem,z0,z2];try rfl) (λw1=>by simp[execOp,x3,go_sem,z0,z2];try rfl) (.inr (.bool _)) λw3 H f3=>?_;refine Jb (o:=o4) (v:=.bool (decide (k<n))) H h4 (by simp[Region.wanted,g4]) d4 (λw1=>by simp[execOp,x4,go_sem,z3];try rfl) (λw1=>by simp[execOp,x4,go_sem,z3];try rfl) (.inr (.bool _)) λw4 H f4=>?_;by_cases hk:k<n
 .refine Jb (o:=o5) (v:=JK k) H h5 (by simp[Region.wanted,g5,yielded,h4,d4,z4,hk]) d5 (λw1=>by simp[execOp,x5,go_sem,hI,ni,ni0];try rfl) (λw1=>by simp[execOp,x5,go_sem,hI,ni,ni0];try rfl) (.inr (.int _ _)) λw5 H f5=>?_;refine Jb (o:=o6) (v:=.bool (decide ((k:Int)<N))) H h6 (by simp[Region.wanted,g6,yielded,h4,d4,z4,hk]) d6 (λw1=>by simp[execOp,x6,go_sem,z5];try rfl) (λw1=>by simp[execOp,x6,go_sem,z5];try rfl) (.inr (.bool _)) λw6 H f6=>?_;refine Jb (o:=o7) (v:=.bool (decide ((k:Int)<N))) H h7 (by simp[Region.wanted,g7]) d7 (λw1=>by simp[execOp,x7,go_sem,z4,z6,hk];try rfl) (λw1=>by simp[execOp,x7,go_sem,z4,z6,hk];try rfl) (.inr (.bool _)) λw7 H f7=>?_;refine J6 (λw1=>stepG_region_end) rfl λe2=>kn _ _ (H.at e2) (by simp) (λj hj=>?_) (by simp[hd,hk]) (f7.trans (f6.trans (f5.trans (f4.trans (f3.trans (f2.trans (f1.trans (f0.trans rfl))))))));simp only[Gj]
  repeat rw[if_neg (by omega)]
 .refine Jm6 (o:=o5) H h5 (by simp[Region.wanted,g5,yielded,h4,d4,z4,hk]) d5 λw5 H f5=>?_;refine Jm6 (o:=o6) H h6 (by simp[Region.wanted,g6,yielded,h4,d4,z4,hk]) d6 λw6 H f6=>?_;refine Jb (o:=o7) (v:=.bool false) H h7 (by simp[Region.wanted,g7]) d7 (λw1=>by simp[execOp,x7,go_sem,z4,z6,hk];try rfl) (λw1=>by simp[execOp,x7,go_sem,z4,z6,hk];try rfl) (.inr (.bool _)) λw7 H f7=>?_;refine J6 (λw1=>stepG_region_end) rfl λe2=>kn _ _ (H.at e2) (by simp) (λj hj=>?_) (by simp[hd,hk]) (f7.trans (f6.trans (f5.trans (f4.trans (f3.trans (f2.trans (f1.trans (f0.trans rfl))))))));simp only[Gj]
  repeat rw[if_neg (by omega)]
end
section
variable{W E0 E:JB}{w0 w:JE}{T:JC}{la:JI}{rs:List Gi}{fs:List Jd}{n cap k:Nat}{v3:JJ}{kk:List Item}{cs:List Frame}{Post:(JB)->JF->JE->Prop}
def J02l{E:JB}{w:JE}{T:JC}(hR:qC w0 la rs)(hn:rs.length=n)(hW:∀a,la=some a->W a.block)(hT:∀a,la=some a->∀c z,w0.heap[a.block]?≠some (.cells c wgT z))(fK:∀b,E0 b->b<w0.heap.size){L:List (Jd × Nat)}(hk:k<n)(BX:k<200)(H:HS 13 W E0 w0 E T w)(F:F6 la n cap k v3 T)(hL:FN w w0.heap.size v3 L)(Ue:L.map (·.1)=(rs.take k).map Gi.fact)(Vq:∀p∈L,E p.2)
  (kn:∀E' T' w' v' L',HS 13 W E0 w0 E' T' w'->F6 la n cap (k+1) v' T'->FN w' w0.heap.size v' L'->L'.map (·.1)=(rs.take (k+1)).map Gi.fact->(∀p∈L',E' p.2)->Reach prog Post W (G ((Go.Conc.base 13).at ⟨T',[]⟩ kk) cs) w') :
  Reach prog Post W (G ((Go.Conc.base 13).at ⟨T,[]⟩ (.code (.seq (.block 1 (.seq (.region 5 (xF 0) false) (.seq (.region 6 (xF 1) false) (.seq (.region 7 (xF 2) false) (.region 8 MW true))))) (.region 4 dQ false))::kk)) cs) w:=by
 obtain⟨r,hr⟩:∃r,rs[k]?=some r:=⟨rs[k]'(by omega),DL _⟩;have EU:=hR.ok r (NR hr);obtain⟨b,o,Qa,hb,q0,q1,q2,q3,q4⟩:=hR.at_ k r hr;have Xm:=hW _ Qa;have hTb:=hT _ Qa;simp only at Xm hTb;have up:∀{w:JE},(∀b,W b->w.heap[b]?=w0.heap[b]?)->∀{i v},w0.cell? ⟨b,i,none⟩=some v->w.cell? ⟨b,i,none⟩=some v:=λh _ _ hc=>(Du (h b Xm)).trans hc;have zA:∀{w:JE},(∀b,W b->w.heap[b]?=w0.heap[b]?)->∀c z,w.heap[b]?≠some (.cells c wgT z):=λh c z=>by grind
 refine J6 (λw1=>stepG_seq) rfl λd1=>?_;refine J6 (λw1=>stepG_block) rfl λd2=>?_;refine J6 (λw1=>stepG_seq) rfl λd3=>?_;have H1:=((H.at d1).at d2).at d3;have Ig:FN (((w.at d1).at d2).at d3) w0.heap.size v3 L:=hL.kept λ_ _=>rfl;refine Joy (j:=0) (by omega) H1.start F Qa hk Xm (zA H1.kw) (up H1.kw q0) EU.a λE2 T2 w2 H2 F2 s5 z5 _=>?_;have VL:=H1.comp H2;have Es:=Ig.keE H2.ke (H1.tm.slot (i:=3) rfl F.s3) Vq;have FW:∀p∈L,E2 p.2:=λp hp=>H2.le _ (Vq p hp);refine J6 (λw1=>stepG_seq) rfl λd4=>?_;have VL:=VL.at d4;have Es:FN (w2.at d4) w0.heap.size v3 L:=Es.kept λ_ _=>rfl;refine Joy (j:=1) (by omega) VL.start F2 Qa hk Xm (zA VL.kw) (up VL.kw q1) EU.b λE3 T3 w3 H3 F3 s6 z6 _=>?_;have VN:=VL.comp H3;have Lp:=Es.keE H3.ke (VL.tm.slot (i:=3) rfl F2.s3) FW;have KI:∀p∈L,E3 p.2:=λp hp=>H3.le _ (FW p hp);refine J6 (λw1=>stepG_seq) rfl λd5=>?_;have VN:=VN.at d5;have Lp:FN (w3.at d5) w0.heap.size v3 L:=Lp.kept λ_ _=>rfl;refine Joy (j:=2) (by omega) VN.start F3 Qa hk Xm (zA VN.kw) (up VN.kw q2) EU.c λE4 T4 w4 H4 F4 s7 z7 _=>?_;have mM:=VN.comp H4;have SE:=Lp.keE H4.ke (VN.tm.slot (i:=3) rfl F3.s3) KI;have Xd:∀p∈L,E4 p.2:=λp hp=>H4.le _ (KI p hp);have t5:T4[5]?=some (JK (Jr r.a 4)):=(z7 5 (by omega) (by omega) (by omega)).trans ((z6 5 (by omega) (by omega) (by omega)).trans s5);have t6:T4[6]?=some (JK (Jr r.b 4)):=(z7 6 (by omega) (by omega) (by omega)).trans s6;have hlen:L.length=k:=by
  have:=congrArg List.length Ue
  grind
 subst Qa;refine Jrz (f:=r.fact) mM F4 t5 t6 s7 (by omega) Xm (zA mM.kw) (up mM.kw q3) (up mM.kw q4) SE Xd (Ad _) fK (by omega) rfl λE5 T5 w5 v' kb H5 F5 Ud wJ=>?_;refine J6 (λw1=>stepG_inBlock) rfl λd6=>?_;refine J3r (H5.at d6) F5 (by omega) λT6 w6 H6 F6 h6=>?_;refine kn _ _ _ _ _ H6 F6 (Ud.kept λb _=>by rw[h6];rfl) ?_ wJ
 grind[List.take_add_one]
def Jld(hR:qC w0 la rs)(hn:rs.length=n)(hW:∀a,la=some a->W a.block)(hT:∀a,la=some a->∀c z,w0.heap[a.block]?≠some (.cells c wgT z))(fK:∀b,E0 b->b<w0.heap.size)
  (kn:∀E T w v3 L k,HS 13 W E0 w0 E T w->F6 la n cap k v3 T->FN w w0.heap.size v3 L->L.map (·.1)=(rs.take 200).map Gi.fact->Reach prog Post W (G ((Go.Conc.base 13).at ⟨T,[]⟩ kk) cs) w) :
  ∀(d k:Nat)(E:JB)(T:JC)(w:JE)(v3:JJ)(L:List (Jd × Nat)),min n 200-k=d->k<=min n 200->HS 13 W E0 w0 E T w->F6 la n cap k v3 T->FN w w0.heap.size v3 L->L.map (·.1)=(rs.take k).map Gi.fact->(∀p∈L,E p.2) ->
   Reach prog Post W (G ((Go.Conc.base 13).at ⟨T,[]⟩ (.code Ji8::.inLoop Ji8::.inBlock 0::kk)) cs) w:=by
 intro d;have tst:∀{k:Nat}{E:JB}{T:JC}{w:JE}{v3:JJ}{l:List Item},HS 13 W E0 w0 E T w->F6 la n cap k v3 T->(∀T' w',HS 13 W E0 w0 E T' w'->F6 la n cap k v3 T'->T'[15]?=some (.bool (decide (k<n) && decide ((k:Int)<200)))->w'.heap=w.heap->Reach prog Post W (G ((Go.Conc.base 13).at ⟨T',[]⟩ l) cs) w')->Reach prog Post W (G ((Go.Conc.base 13).at ⟨T,[]⟩ (.code (.region 3 O1 false)::l)) cs) w:=λ{k E T w v3 l} H F kn=>
  Jev (d:=8) (i:=4) (s:=0) (N:=200) (ty:=27) H (by kernel_rfl) F.s4 F.s0 (by omega) (by omega) (by have:=F.sz;omega) (by kernel_rfl) (λ_ _=>⟨rfl,rfl⟩) λT' w' H' hz hs PN hh=>kn T' w' H' ⟨hz.trans F.sz,(hs 0 (by omega)).trans F.s0,(hs 2 (by omega)).trans F.s2,(hs 3 (by omega)).trans F.s3,(hs 4 (by omega)).trans F.s4⟩ PN hh
 induction d with
 |zero=>
  intro k E T w v3 L hd hk H F hL Ue Vq;refine J6 (λw1=>stepG_seq) rfl λd1=>?_;refine J6 (λw1=>stepG_seq) rfl λd2=>?_;refine tst ((H.at d1).at d2) F λT' w' H' F' s15 hh=>?_;have hf:(decide (k<n) && decide ((k:Int)<200))=false:=by simp;omega
  refine J6 (λw1=>stepG_cond (t:=false) (by simp[Act.eval,Bq,s15,hf])) rfl λd1=>?_;refine J6 (λw1=>stepG_exit (k':=kk) rfl) rfl λd2=>?_;refine kn _ _ _ v3 L k ((H'.at d1).at d2) F' (hL.kept λb _=>by show w'.heap[b]?=_;rw[hh];rfl) ?_
  grind
 |succ d ih=>
  intro k E T w v3 L hd hk H F hL Ue Vq;refine J6 (λw1=>stepG_seq) rfl λd1=>?_;refine J6 (λw1=>stepG_seq) rfl λd2=>?_;refine tst ((H.at d1).at d2) F λT' w' H' F' s15 hh=>?_;have hf:(decide (k<n) && decide ((k:Int)<200))=true:=by simp;omega
  refine J6 (λw1=>stepG_cond (t:=true) (by simp[Act.eval,Bq,s15,hf])) rfl λd3=>?_;refine J6 (λw1=>stepG_skip) rfl λd4=>?_;refine J02l hR hn hW hT fK (by omega) (by omega) ((H'.at d3).at d4) F' (hL.kept λb _=>by show w'.heap[b]?=_;rw[hh];rfl) Ue Vq λE2 T2 w2 v' L' H2 F2 Es BM FW=>?_;refine J6 (λw1=>stepG_inLoop) rfl λd5=>?_;exact ih (k+1) E2 T2 (w2.at d5) v' L' (by omega) (by omega) (H2.at d5) F2 (Es.kept λ_ _=>rfl) BM FW
end
section
variable{W E:JB}{w:JE}{la:JI}{rs:List Gi}{fs:List Jd}{n cap:Nat}{b₀:Frame}{a₀:Act}{ops:Array Oper}{i:Nat}{rest:List Nat}{kk:List Item}{cs:List Frame}{Post:(JB)->JF->JE->Prop}
def Jle(hB:BOk C0 S0 W E w)(hR:qC w la rs)(hn:rs.length=n)(Zb:fs=(rs.take 200).map Gi.fact)(hW:∀a,la=some a->W a.block)(hT:∀a,la=some a->∀c z,w.heap[a.block]?≠some (.cells c wgT z))
  (kn:∀E' w' ga c2 pl,(∀b,E b->E' b)->BOk C0 S0 W E' w'->KE E w w'->G8 false w' ga fs c2 pl->(∀y∈pl,w.heap.size<=y)->VR C0 (idE E') (.slice ga fs.length c2) (.slice ga fs.length c2)->w.heap.size<=w'.heap.size->(∀b,W b->w'.heap[b]?=w.heap[b]?) ->
   Reach prog Post W (G (b₀.at (a₀.put ((ops[i]?).bind (·.dst)) (.slice ga fs.length c2)) (.inRegion ops rest::kk)) cs) w') :
  Reach prog Post W (G ((Go.Conc.base 13).at ⟨#[.slice la n cap]++Array.replicate 54 JA,[]⟩ [.code b6]) (b₀.at a₀ (.inRegion ops (i::rest)::kk)::cs)) w:=by
 obtain⟨T0,Lr⟩:∃T0,T0=#[.slice la n cap]++Array.replicate 54 JA:=⟨_,rfl⟩;rw[<- Lr];have sz:T0.size=55:=by grind
 have s0:T0[0]?=some (.slice la n cap):=by rw[Lr];simp
 have sn:∀j x,1<=j->T0[j]?=some x->x=JA:=λj x h1 hx=>by
  rw[Lr,Array.getElem?_append_right (by omega),Array.getElem?_replicate]at hx
  simp_all
 clear Lr;have ht:TmR C0 S0 13 (idE E) T0 T0:=by
  refine⟨rfl,λj x x' hj h1 h2=>?_,λj x hj _=>by cases hj⟩;rw[h1]at h2;cases h2;rcases Nat.eq_zero_or_pos j with rfl|h
  .cases hj
  .rw[sn j x h h1];exact .undef
 have H:HS 13 W E w E T0 w:=⟨hB,λ_ h=>h,.refl,λ_ _=>rfl,ht,rfl,Ad _⟩;refine J6 (λw1=>stepG_seq) rfl λd1=>?_;refine J6 (λw1=>stepG_region) rfl λd2=>?_;refine Jb (o:=pI) (v:=.slice none 0 0) ((H.at d1).at d2) rfl rfl rfl (λw1=>by simp[execOp,go_sem,pI];try rfl) (λw1=>by simp[execOp,go_sem,pI];try rfl) (.inr (.Jk _ _)) λw1 H1 h1=>?_;refine J6 (λw1=>stepG_region_end) rfl λd3=>?_;refine J6 (λw1=>stepG_seq) rfl λd4=>?_;refine J6 (λw1=>stepG_region) rfl λd5=>?_;refine Jb (o:=pK) (v:=.slice none 0 0) (((H1.at d3).at d4).at d5) rfl rfl rfl (λw1=>by simp[execOp,go_sem,pK];try rfl) (λw1=>by simp[execOp,go_sem,pK];try rfl) (.inr (.Jk _ _)) λw2 H2 h2=>?_;refine J6 (λw1=>stepG_region_end) rfl λd6=>?_;refine J6 (λw1=>stepG_seq) rfl λd7=>?_;refine J6 (λw1=>stepG_seq) rfl λd8=>?_;refine J6 (λw1=>stepG_region) rfl λd9=>?_;refine Jb (o:=pO) (v:=JK (0:Nat)) ((((H2.at d6).at d7).at d8).at d9) rfl rfl rfl (λw1=>by simp[execOp,go_sem,pO];try rfl) (λw1=>by simp[execOp,go_sem,pO];try rfl) (.inr (.int _ _)) λw3 H3 h3=>?_;refine J6 (λw1=>stepG_region_end) rfl λd10=>?_;refine J6 (λw1=>stepG_block) rfl λd11=>?_;refine J6 (λw1=>stepG_loop) rfl λd12=>?_;refine Jld (cap:=cap) (Post:=Post) hR hn hW hT (λb hb=>hB.lt hb) (λE4 T4 w4 v3 L k H4 F4 SE Ue=>?_) _ 0 E _ _ (.slice none 0 0) [] rfl (by omega) (((H3.at d10).at d11).at d12) ⟨by grind,?_,?_,?_,?_⟩ (.nil _ _) rfl λp hp=>by cases hp
 .have sz4:=F4.sz;have s3:=F4.s3;have zB:VR C0 (idE E4) v3 v3:=H4.tm.slot (i:=3) rfl s3;refine J6 (λw1=>stepG_seq) rfl λe1=>?_;refine J6 (λw1=>stepG_region) rfl λe2=>?_;rw[show List.range Jwe.size=[0,1]from rfl];refine Jb (o:=rP) (v:=v3) ((H4.at e1).at e2) rfl rfl rfl (λw1=>by simp[execOp,go_sem,rP,s3];try rfl) (λw1=>by simp[execOp,go_sem,rP,s3];try rfl) (.inr zB) λw5 H5 h5=>?_;refine Jb (o:=rQ) (v:=v3) H5 rfl rfl rfl (λw1=>by simp[execOp,go_sem,rQ,sz4];try rfl) (λw1=>by simp[execOp,go_sem,rQ,sz4];try rfl) (.inr zB) λw6 H6 h6=>?_;refine J6 (λw1=>stepG_region_end) rfl λe3=>?_;refine J6 (λw1=>stepG_ret') rfl λe4=>?_;refine Reach.leave1 (B:=Go.Conc.base 13) rfl rfl (fn:=f13) (by kernel_rfl) (x:=2) (by kernel_rfl) λe5=>?_;have H7:=((H6.at e3).at e4).at e5;have hL7:FN (((w6.at e3).at e4).at e5) w.heap.size v3 L:=SE.kept λb _=>by show w6.heap[b]?=_;rw[h6,h5];rfl
  obtain⟨ga,c2,pl,rfl,hfa,D8⟩:=hL7.at;have hlf:L.length=fs.length:=by grind
  rw[Ue,<- Zb]at hfa;rw[hlf]at zB;have e2:(Act.mk ((T4.setIfInBounds 54 (Value.slice ga fs.length c2)).setIfInBounds 2 (Value.slice ga fs.length c2)) []).tmps.getD 2 JA=.slice ga fs.length c2:=by simp[*]
  rw[hlf,e2];exact kn E4 _ ga c2 pl H7.le H7.bok H7.ke hfa D8 zB H7.sz H7.kw
 .grind
 all_goals grind
end
structure vM(c:J7)(hs:Int->Int)(v:Nat)(fs:List Jd)(S:List TR):Prop where
 nd:(S.map (·.k)).Nodup
 all:∀k,tm S k=FP c Dc (sel hs v k fs)
 n3:∀f∈fs,f.k.length=3
 n:fs.length<=400
abbrev O3(c:J7)(hs:Int->Int)(fs:List Jd)(S:List TR):Prop:=vM c hs 7 fs S
def vM.len{c:J7}{hs:Int->Int}{v:Nat}{fs:List Jd}{S:List TR}(h:vM c hs v fs S):S.length<=400:=by
 have h1:=aJ h.nd (U:=fs.map λf=>Jf v (BI f.k) 5) λx hx=>by
  obtain⟨t,ht,rfl⟩:=AZ.1 hx;obtain⟨_,f,hf,e⟩:=nZ h.nd h.all ht
  grind
 simp only[FQ]at h1;have:=h.n;omega
def vM.hin{c:J7}{hs:Int->Int}{v:Nat}{fs:List Jd}{S:List TR}(h:vM c hs v fs S):∀t∈S,HIn 400 t.B:=by intro t ht x hx;obtain⟨e,_⟩:=nZ h.nd h.all ht;rw[e]at hx;have h1:=Jof hs v t.k fs;have h2:=h.n;have:=J02b (by omega) x hx;omega
def O3.one{c:J7}{hs:Int->Int}{fs:List Jd}{T:List TR}(h3:∀f∈fs,f.k.length=3)(hn:(T.map (·.k)).Nodup)(hT:∀k,tm T k=FP c Dc (sel hs 0 k fs)):T.length<=1/\(fs≠[]->T.length=1)/\∀t∈T,t.k=[0,0,0,0,0]:=by
 have hk:∀t∈T,t.k=[0,0,0,0,0]:=λt ht=>by
  obtain⟨_,f,hf,e⟩:=nZ hn hT ht
  grind[Jru,mW]
 have h1:=aJ hn (U:=[[0,0,0,0,0]]) λx hx=>by
  grind
 simp only[FQ,Lh,List.length_nil]at h1;refine⟨h1,λAp=>?_,hk⟩;obtain⟨f,hf⟩:=List.exists_mem_of_ne_nil _ Ap;obtain⟨t,ht,_⟩:=Jyy hT hf
 grind
theorem J09q:∀m<8,∀v<8,Rn m (v:Nat)=false->∀i<3,m.testBit i=true->v.testBit i=true:=by decide
theorem J48{m i:Nat}(hm:m<8)(hi:3<=i):m.testBit i=false:=by
 have h:2 ^ 3<=2 ^ i:=Nat.pow_le_pow_right (by omega) hi
 grind[Nat.testBit_lt_two_pow]
theorem cover{m v i:Nat}(hm:m<8)(hv:v<8)(h:Rn m v=false)(hi:m.testBit i=true):v.testBit i=true:=by
 grind[Nat.lt_or_ge,J09q,J48]
def J06z{m v:Nat}(hm:m<8)(hv:v<8)(h:Rn m v=false)(k:JD):Jf m (Jf v k 5) 5=Jf m k 5:=by
 apply List.ext_getElem?;intro i;simp only[Jf,List.getElem?_map,List.getElem?_zipIdx,Nat.zero_add]
 grind[cover]
def J08n{m v:Nat}(hm:m<8)(hv:v<8)(h:Rn m v=false){F:List LW}(hok:FB m F)(k:JD):LZ F (Jf v k 5)=LZ F k:=by
 unfold LZ;refine Bool.eq_iff_iff.2 ?_;simp only[List.all_eq_true];refine forall_congr' λp=>forall_congr' λhp=>?_;obtain⟨d,hd,h3,hb⟩:=hok.2 p hp;have hb:=cover hm hv h hb;rw[hd];have e:(Jf v k 5).getD d 0=k.getD d 0:=by
  simp only[Jf,C9,List.getElem?_map,List.getElem?_zipIdx,Nat.zero_add]
  grind
 grind
def VwD.lt8{D:DataW JJ}{f:Nat->Option Nat}(h:VwD D f){v b:Nat}(hv:f v=some b):v<8:=by
 obtain⟨m,hm,e⟩:=h.hs (Lit.int .i64 v) (by rw[h.hf,hv];rfl)
 grind
def HY.lt8{w:JE}{vm:Nat}{f:Nat->Option Nat}(h:HY w vm f){v b:Nat}(hv:f v=some b):v<8:=by obtain⟨D,_,q⟩:=h;exact q.lt8 hv
def VwF(c:J7)(hs:Int->Int)(vs:Nat->Option Nat)(fs:List Jd)(S:Nat->List TR):Prop:=∀v b,vs v=some b->vM c hs v fs (S v)
def kT(F:List LW)(fs:List Jd):List Jd:=fs.filter λf=>LZ F (BI f.k)
theorem dP(fs:List Jd):kT [] fs=fs:=List.filter_eq_self.2 λ_ _=>rfl
def QR(c:J7)(hs:Int->Int)(m:Nat)(F:List LW)(fs:List Jd)(T:List TR):Prop:=∀k,tm T k=FP c Dc (sel hs m k (kT F fs))
section
variable{c:J7}{hs:Int->Int}{vs:Nat->Option Nat}{fs:List Jd}{S:Nat->List TR}{m:Nat}{F:List LW}
def VwF.sum(h:VwF c hs vs fs S)(hc:CZ c)(BL:c.nb=4)(hh:∀y,0<=hs y/\hs y<=18446744073709551615)(hm:m<8)(h8:∀v b,vs v=some b->v<8)(hok:FB m F) :
  ∀u b T,vs u=some b->Rn m u=false->(T.map (·.k)).Nodup->Sum c (tm T) (Gg (S u) m (LZ F))->QR c hs m F fs T:=λu b T hu fJ _ hT=>
 J0aq hc (by rw[BL];rfl) aK hh (h u b hu).nd (h u b hu).all (λf _=>⟨J06z hm (h8 u b hu) fJ _,J08n hm (h8 u b hu) fJ hok _⟩) hT
def VwF.hin(h:VwF c hs vs fs S):∀u b,vs u=some b->(∀t∈S u,HIn 400 t.B)/\((S u).length:Int)*400<=9223372036854775807:=λu b hu=>⟨(h u b hu).hin,by have:=(h u b hu).len;omega⟩
def QR.tab{T:List TR}(h:QR c hs m F fs T)(hn:(T.map (·.k)).Nodup)(h3:∀f∈fs,f.k.length=3)(hl:fs.length<=400):vM c hs m (kT F fs) T:=
 ⟨hn,h,λf hf=>h3 f ((Hq.1 hf).1),BN (List.length_filter_le _ _) hl⟩
end
theorem FB.nil(m:Nat):FB m []:=⟨by simp,λp hp=>by cases hp⟩
theorem Qq.nil(E:JB)(w:JE)(base:Nat):Qq E w base (.slice none 0 0) []:=⟨EF.nil w base,λg n cap e=>by cases e⟩
section
variable{w:JE}{x:Nat}{c:J7}{seed nf:Int}{h:JJ}{vm v:Nat}{vs:Nat->Option Nat}
def J05z{w':JE}(h:w.grownBy w' (some vm)):Tch w.heap.size (λb=>b=vm) w w':=⟨h.size,λb hb hn=>h.block b hb λe=>hn (Aa e),h.tape,h.os,h.output⟩
def J08p(q:DU w x c seed h nf vm vs)(hv:v<7):Calls prog 21 #[JL x,JK v] w λe w'=>(∃LY,(e=.returned .nilIface\/e=.returned (.iface 39 (JK 7)))/\HY w' vm LY/\(∀k b,LY k=some b->vs k=some b)/\LY 7=vs 7)/\Tch w.heap.size (λb=>b=vm) w w':=by
 have hb:=nC q.cells.1;have c7:=q.cells.2.2.2.2.2.2.2;have h1:¬(v:Int)<0:=by omega
 have h2:¬(7:Int)<v:=by omega
 have h3:¬(v:Int)=7:=by omega
 have hl:=q.vs.there (m:=v) (by omega);cases hs:vs v with
 |none=>
  rw[hs]at hl;simp only[Option.isSome_none]at hl
  go_enter func21,ntmps21
  go_wp2_with (go_at_call 32;refine hb.mono ?_;rintro e w1 ⟨rfl,rfl⟩)
  go_ret;exact⟨⟨vs,.inr rfl,q.vs,λ_ _ h=>h,rfl⟩,.refl⟩
 |some b=>
  rw[hs]at hl;simp only[Option.isSome_some]at hl;obtain⟨w',AB,OV,ht⟩:=q.vs.drop (m:=v) (by omega) 0
  go_enter func21,ntmps21
  go_wp2_with (go_at_call 32;refine hb.mono ?_;rintro e w1 ⟨rfl,rfl⟩)
  go_ret;refine⟨⟨_,.inl rfl,OV,λk b h=>?_,?_⟩,J05z ht.grown⟩
  all_goals grind
end
def bV:Code:=f20.body.getD .skip
def aV0:Code:=fC bV
def aV1:Code:=fC (sC bV)
def aV2:Code:=fC (sC (sC bV))
def aV3:Code:=fC (sC (sC (sC bV)))
def opsV:Array Oper:=opsOf (fC (sC (sC (sC (sC bV)))))
def tV:Code:=sC (sC (sC (sC (sC bV))))
def J0ci:bV=.seq aV0 (.seq aV1 (.seq aV2 (.seq aV3 (.seq (.region 8 opsV true) tV)))):=by kernel_rfl
def J0cj:f20.body=some bV:=by kernel_rfl
def qE(f:Nat->JJ):((List.range 49).map f).toArray=#[f 0,f 1,f 2,f 3,f 4,f 5,f 6,f 7,f 8,f 9,f 10,f 11,f 12,f 13,f 14,f 15,f 16,f 17,f 18,f 19,f 20,f 21,f 22,f 23,f 24,f 25,f 26,f 27,f 28,f 29,f 30,f 31,f 32,f 33,f 34,f 35,f 36,f 37,f 38,f 39,f 40,f 41,f 42,f 43,f 44,f 45,f 46,f 47,f 48]:=rfl
def jJ{T:JC}(h:T.size=49):∃f:Nat->JJ,T=((List.range 49).map f).toArray:=⟨_,dM h⟩
def tmV(x v:Nat):JC:=#[JL x,JK v]++Array.replicate 47 JA
section
variable{w:JE}{x:Nat}{c:J7}{seed nf:Int}{h:JJ}{vm v n:Nat}{vs:Nat->Option Nat}{d:Deferred}{T:JC}{K:Exit->Act->JE->Prop}
def V2(x v:Nat)(T:JC):Prop:=T.size=49/\T[0]?=some (JL x)/\T[1]?=some (JK v)
def view0(h2:V2 x v T)(kn:∀T',V2 x v T'->K .normal ⟨T',[d]⟩ w):aV0.wp prog K ⟨T,[d]⟩ w:=by obtain⟨Ag,t0,t1⟩:=h2;obtain⟨f,rfl⟩:=jJ Ag;rw[qE]at *;have e0:f 0=_:=Aa t0;have e1:f 1=_:=Aa t1;rw[e0,e1];simp only[aV0,bV,fC,f20,A8];go_wp2;exact⟨rfl,rfl,rfl⟩
def J0ck(q:DU w x c seed h nf vm vs)(hv:v<7)(h2:V2 x v T)(kn:∀T',V2 x v T'->K .normal ⟨T',[d]⟩ w):aV1.wp prog K ⟨T,[d]⟩ w:=by
 obtain⟨Ag,t0,t1⟩:=h2;obtain⟨f,rfl⟩:=jJ Ag;rw[qE]at *;have e0:f 0=_:=Aa t0;have e1:f 1=_:=Aa t1;rw[e0,e1];have hb:=nC q.cells.1;have h1:¬(v:Int)<0:=by omega
 have h2:¬(7:Int)<v:=by omega
 simp only[aV1,bV,fC,sC,f20,A8]
 go_wp2_with (go_at_call 32;refine hb.mono ?_;rintro e w1 ⟨rfl,rfl⟩)
 exact⟨rfl,rfl,rfl⟩
def J0cl(q:DU w x c seed h nf vm vs)(hv:v<7)(h2:V2 x v T)(kn:vs v=none->∀T',V2 x v T'->K .normal ⟨T',[d]⟩ w)(hR:∀T':JC,T'.size=49->T'[4]?=some (.iface 39 (JK 6))->K .ret ⟨T',[d]⟩ w):aV2.wp prog K ⟨T,[d]⟩ w:=by
 obtain⟨Ag,t0,t1⟩:=h2;obtain⟨f,rfl⟩:=jJ Ag;rw[qE]at *;have e0:f 0=_:=Aa t0;have e1:f 1=_:=Aa t1;rw[e0,e1];have c7:=q.cells.2.2.2.2.2.2.2;have hl:=q.vs.there (m:=v) (by omega);simp only[aV2,bV,fC,sC,f20,A8];cases hs:vs v with
 |none=>
  rw[hs]at hl;simp only[Option.isSome_none]at hl;go_wp2;exact kn hs _ ⟨rfl,rfl,rfl⟩
 |some b=>
  rw[hs]at hl;simp only[Option.isSome_some]at hl;go_wp2
  simp_all
def J0cm(q:DU w x c seed h nf vm vs)(h2:V2 x v T)(kn:∀T',V2 x v T'->K .normal ⟨T',[d]⟩ w)(hR:∀T':JC,T'.size=49->T'[4]?=some (.iface 39 (JK 4))->K .ret ⟨T',[d]⟩ w):aV3.wp prog K ⟨T,[d]⟩ w:=by
 obtain⟨Ag,t0,t1⟩:=h2;obtain⟨f,rfl⟩:=jJ Ag;rw[qE]at *;have e0:f 0=_:=Aa t0;have e1:f 1=_:=Aa t1;rw[e0,e1];have c7:=q.cells.2.2.2.2.2.2.2;obtain⟨n,_,hn⟩:=q.vs.len 3;have hn:=hn w rfl;simp only[aV3,bV,fC,sC,f20,A8];by_cases h6:6<n
 .have h3:(6:Int)<n:=by omega
  go_wp2
  simp_all
 .have h3:¬(6:Int)<n:=by omega
  go_wp2;exact kn _ ⟨rfl,rfl,rfl⟩
end
def Jf0:RU .any opsV 15 (λi=>i+34)=true:=by kernel_rfl
def rV(x v vm:Nat)(vs:Nat->Option Nat)(M:JJ->Prop):Nat->JJ->Prop
 |2,u=>u=.pointer (some ⟨x,7,none⟩)
 |3,u=>u=.map (some vm)
 |4,u=>u=.int .i64 v
 |7,u=>u=.pointer (some ⟨x,7,none⟩)
 |8,u=>u=.map (some vm)
 |10,u=>u=.int .i64 v
 |11,u=>∃k b:Nat,k<8/\vs k=some b/\Rn v k=false/\u=.int .i64 k
 |12,u=>∃k b:Nat,k<8/\vs k=some b/\Rn v k=false/\u=.map (some b)
 |13,u=>u=.int .i64 v
 |14,u=>M u
 |_,u=>u=.pointer (some ⟨x,0,none⟩)
section
variable{w0:JE}{x:Nat}{c:J7}{seed nf:Int}{h:JJ}{vm v:Nat}{vs:Nat->Option Nat}{S:Nat->List TR}{M:JJ->Prop}
def J0b3{T0:JC}{Q:Exit->Act->JE->Prop}(q:DU w0 x c seed h nf vm vs)(f7:(vs 7).isSome=true)(tab:∀v b,vs v=some b->TabAt false w0 c b (S v))(hv:v<8)(t0:T0[0]?=some (JL x))(t1:T0[1]?=some (JK v)) :
  ∀i o a w,i≠14->i<15->opsV[i]?=some o->Tch w0.heap.size M0 w0 w->a.tmps.size=49->(∀s,(∀i,i<15->i+34≠s)->a.tmps[s]?=T0[s]?)->(∀j,(o.after.toList.any λe=>e.on == j && Region.binds .any e)=true->∃u,a.tmps[j+34]?=some u/\rV x v vm vs M j u) ->
   wpOp prog opsV Q i (λa' w'=>∃u,a'=a.put (some (i+34)) u/\rV x v vm vs M i u/\Tch w.heap.size M0 w w') a w:=by
 intro i o a w1 hi Ac ho Az Ag hold hd;have qk:DU w1 x c seed h nf vm vs:=q.kept (Az.heap x q.blk.lt λh=>h) (Az.heap vm q.vs.lt λh=>h);have k7:w1.cell? ⟨x,7,none⟩=some (.map (some vm)):=qk.cells.2.2.2.2.2.2.2;have s0:=(hold 0 (by omega)).trans t0;have s1:=(hold 1 (by omega)).trans t1;simp only[opsV,opsOf,bV,fC,sC,f20,A8]at ho ⊢
 match i,Ac with
 |0,_=>
  cases ho;exact J9 rfl rfl (by simp[execOp,go_sem,s0];try rfl) ⟨_,rfl,rfl,.refl⟩
 |1,_=>
  cases ho;obtain⟨_,e0,rfl⟩:=hd 0 rfl;have e0:=(show a.tmps[34]?=some _ from e0);exact J9 rfl rfl (by simp[execOp,go_sem,e0];try rfl) ⟨_,rfl,rfl,.refl⟩
 |2,_=>
  cases ho;obtain⟨_,e0,rfl⟩:=hd 1 rfl;have e0:=(show a.tmps[35]?=some _ from e0);exact J9 rfl rfl (by simp[execOp,go_sem,e0];try rfl) ⟨_,rfl,rfl,.refl⟩
 |3,_=>
  cases ho;obtain⟨_,e0,rfl⟩:=hd 2 rfl;have e0:=(show a.tmps[36]?=some _ from e0);exact J9 rfl rfl (by simp[execOp,go_sem,e0,k7];try rfl) ⟨_,rfl,rfl,.refl⟩
 |4,_=>
  cases ho;exact J9 rfl rfl (by simp[execOp,go_sem,s1];try rfl) ⟨_,rfl,rfl,.refl⟩
 |5,_=>
  cases ho;exact J9 rfl rfl (by simp[execOp,go_sem,s0];try rfl) ⟨_,rfl,rfl,.refl⟩
 |6,_=>
  cases ho;obtain⟨_,e0,rfl⟩:=hd 5 rfl;have e0:=(show a.tmps[39]?=some _ from e0);exact J9 rfl rfl (by simp[execOp,go_sem,e0];try rfl) ⟨_,rfl,rfl,.refl⟩
 |7,_=>
  cases ho;obtain⟨_,e0,rfl⟩:=hd 6 rfl;have e0:=(show a.tmps[40]?=some _ from e0);exact J9 rfl rfl (by simp[execOp,go_sem,e0];try rfl) ⟨_,rfl,rfl,.refl⟩
 |8,_=>
  cases ho;obtain⟨_,e0,rfl⟩:=hd 7 rfl;have e0:=(show a.tmps[41]?=some _ from e0);exact J9 rfl rfl (by simp[execOp,go_sem,e0,k7];try rfl) ⟨_,rfl,rfl,.refl⟩
 |9,_=>
  cases ho;exact J9 rfl rfl (by simp[execOp,go_sem,s0];try rfl) ⟨_,rfl,rfl,.refl⟩
 |10,_=>
  cases ho;exact J9 rfl rfl (by simp[execOp,go_sem,s1];try rfl) ⟨_,rfl,rfl,.refl⟩
 |11,_=>
  cases ho;obtain⟨_,e0,rfl⟩:=hd 9 rfl;have e0:=(show a.tmps[43]?=some _ from e0);obtain⟨_,e1,rfl⟩:=hd 10 rfl;have e1:=(show a.tmps[44]?=some _ from e1);exact Rz rfl rfl (by simp[execOp,go_sem,e0,e1];try rfl) (Jnw qk f7 (λv b hv=>(tab v b hv).kept λy hy=>Az.heap y ((tab v b hv).lt y hy) λh=>h) hv) λe w2 ⟨⟨u,b,h0,h1,h2,h3⟩,h4⟩=>⟨_,h3,_,rfl,⟨u,b,h0,h1,h2,rfl⟩,h4⟩
 |12,_=>
  cases ho;obtain⟨_,e3,rfl⟩:=hd 8 rfl;have e3:=(show a.tmps[42]?=some _ from e3);obtain⟨_,e6,u,b,h0,h1,h2,rfl⟩:=hd 11 rfl;have e6:=(show a.tmps[45]?=some _ from e6);have Ew:=qk.vs.lookup h0;rw[h1]at Ew;exact J9 rfl rfl (by simp[execOp,go_sem,e3,e6,Ew];try rfl) ⟨_,rfl,⟨u,b,h0,h1,h2,rfl⟩,.refl⟩
 |13,_=>
  cases ho;exact J9 rfl rfl (by simp[execOp,go_sem,s1];try rfl) ⟨_,rfl,rfl,.refl⟩
 |14,_=>grind
 |i+15,h=>omega
end
def Jv4(n:Int)(w:JE):Calls prog 53 #[JK 0,JK n] w λe w'=>e=.returned .nilFunc/\w'=w.alloc (.cells #[JK n] 3):=by
 go_enter func53,ntmps53
 go_wp2
 all_goals go_ret
 simp_all
def Jv5(n:Int)(w:JE):Calls prog 53 #[JK 2,JK n] w λe w'=>e=.returned (.func (.func 95) #[] #[pt w.heap.size])/\w'=w.alloc (.cells #[JK n] 3):=by
 go_enter func53,ntmps53
 go_wp2
 all_goals go_ret
 simp_all
def YM(s n:Int):Int:=IntKind.u64.wrap (IntKind.u64.wrap n*IntKind.u64.wrap (IntKind.u64.wrap (2*IntKind.u64.wrap s)+1))
def Jrw{s n:Int}{b:Nat}{w:JE}(h:w.cell? ⟨b,0,none⟩=some (JK s)):Calls prog 95 #[JK n,JL b] w λe w'=>e=.returned (.int .u64 (YM s n))/\w'=w:=by
 go_enter func95,ntmps95
 go_wp2;go_ret;exact⟨rfl,rfl⟩
section
variable{w:JE}{x:Nat}{c:J7}{seed:Int}{nf:Int}{vm base:Nat}
def Jz2{fr:Bool}{bb cap:Nat}{bs:JD}(hc:CZ c)(hr:Row fr w bb 3 .i64 bs cap)(Dh:c.ba=some ⟨bb,0,none⟩)(BL:c.nb=bs.length)(hp:bs.Pairwise (· < ·)) :
  Calls prog 62 #[.agg (EI c 3 seed),.nilFunc] w λe w'=>∃hb,NewAt w c seed (.func (.func 167) #[] #[pt hb]) bs e w'/\w.heap.size<=hb/\w'.heap[hb]?=some (.cells #[JK seed] 3):=
 (new_any hc hr Dh BL hp (.inr rfl)).mono λe w' ⟨h,q,r⟩=>by
  rcases r with⟨f,a,b,r,_⟩|⟨_,hb,rfl,h1,h2⟩
  .cases r
  .exact⟨hb,q,h1,h2⟩
end
section
variable{w:JE}{x:Nat}{c:J7}{seed:Int}{nf:Int}{vm:Nat}{vs:Nat->Option Nat}
def Jv6{fr:Bool}{bb cap:Nat}{bs:JD}(hc:CZ c)(hr:Row fr w bb 3 .i64 bs cap)(Dh:c.ba=some ⟨bb,0,none⟩)(BL:c.nb=bs.length)(hp:bs.Pairwise (· < ·))(n:Int) :
  Calls prog 29 #[.agg (EI c 3 seed),JK 2,JK n] w λe w'=>∃hb,NewAt w c seed (.func (.func 95) #[] #[pt hb]) bs e w'/\w.heap.size<=hb/\w'.heap[hb]?=some (.cells #[JK n] 3):=by
 obtain⟨W0,Ci⟩:∃W0,W0=w.alloc (.cells (EI c 3 seed) 47):=⟨_,rfl⟩;have Bf:Tch w.heap.size M0 w W0:=by rw[Ci];exact Tch.refl.alloc (Ad _) _
 have Fj:Blk false W0 w.heap.size (EI c 3 seed) 47:=⟨(0,0),by grind[Ja],λ_=>rfl⟩;have Dq:=Fj.lt;have hf:Hid (∀w1,Tch W0.heap.size M0 W0 w1->w1.cell? ⟨w.heap.size,0,none⟩=some (JK 3)/\w1.cell? ⟨w.heap.size,1,none⟩=some (JK c.bits)/\w1.cell? ⟨w.heap.size,2,none⟩=some (JK c.K)/\w1.cell? ⟨w.heap.size,3,none⟩=some (.slice c.ba c.nb c.cb)/\w1.cell? ⟨w.heap.size,4,none⟩=some (JK seed)):=λw1 ht=>(Fj.tch ht Dq λx=>x).five;have MH:Hid (∀w1,Tch W0.heap.size M0 W0 w1->Calls prog 62 #[.agg (EI c 3 seed),.func (.func 95) #[] #[pt (w.heap.size+1)]] w1 λe w'=>NewAt w c seed (.func (.func 95) #[] #[pt (w.heap.size+1)]) bs e w'/\Tch W0.heap.size M0 W0 w'/\Tch w1.heap.size M0 w1 w'):=λw1 ht=>by have Bc:=Bf.trans (ht.mono Bf.size λ_ _ h=>h);refine(Jgo (seed:=seed) hc (hr.tch Bc hr.lt λx=>x) Dh BL hp (.func 95) #[] #[pt (w.heap.size+1)]).mono λe w'(h:NewAt w1 c seed (.func (.func 95) #[] #[pt (w.heap.size+1)]) bs e w')=>?_;obtain⟨⟨x,vm,base,b2,c2,h1,h2,h3⟩,h4⟩:=h;have:=Bc.size;exact⟨⟨⟨x,vm,base,b2,c2,h1,⟨by omega,by omega,by omega,by omega⟩,h3⟩,(Bc.trans (h4.mono Bc.size λ_ _ h=>h))⟩,ht.trans (h4.mono ht.size λ_ _ h=>h),h4⟩
 clear hr hp Fj Bf Dq Dh BL;unfold EI at MH Ci ⊢;have t0:Tch W0.heap.size M0 W0 W0.drew:=Tch.refl.drew;have t1:Tch W0.heap.size M0 W0 (W0.alloc (.cells #[JK n] 3)).drew:=(Tch.refl.alloc (Ad _) _).drew;have IK:(W0.alloc (.cells #[JK n] 3)).drew.heap[w.heap.size+1]?=some (.cells #[JK n] 3):=by have:=Ja (w:=W0) (.cells #[JK n] 3);rw[Ci,size_alloc]at this;rw[Ci];exact this
 have Jxh:w.heap.size+1<(W0.alloc (.cells #[JK n] 3)).drew.heap.size:=Jj IK
 go_enter func29,ntmps29
 go_wp2_with fail
 subst Ci;generalize Vy:w.heap.size=n0 at hf MH IK Jxh ⊢;obtain⟨q0,q1,q2,q3,q4⟩:=hf _ t0;obtain⟨r0,r1,r2,r3,r4⟩:=hf _ t1
 go_region_with (first|(go_at_call 53;refine(Jv5 n _).mono ?_;rintro e w1 ⟨rfl,rfl⟩)|(go_at_call 62;refine(MH _ t1).mono ?_;rintro e w1 ⟨hN,t2,t3⟩;have YT:=hN;have BH:=(t3.heap _ Jxh λh=>h).trans IK;obtain⟨⟨x,vm,base,b2,c2,rfl,_⟩,_⟩:=hN))
 all_goals go_wp2
 all_goals go_ret2
 all_goals exact⟨_,YT,by omega,BH⟩
def Jv7{fr:Bool}{bb cap:Nat}{bs:JD}(hc:CZ c)(hr:Row fr w bb 3 .i64 bs cap)(Dh:c.ba=some ⟨bb,0,none⟩)(BL:c.nb=bs.length)(hp:bs.Pairwise (· < ·))(n:Int) :
  Calls prog 29 #[.agg (EI c 3 seed),JK 0,JK n] w λe w'=>∃hb,NewAt w c seed (.func (.func 167) #[] #[pt hb]) bs e w'/\w.heap.size<=hb/\w'.heap[hb]?=some (.cells #[JK seed] 3):=by
 obtain⟨W0,Ci⟩:∃W0,W0=w.alloc (.cells (EI c 3 seed) 47):=⟨_,rfl⟩;have Bf:Tch w.heap.size M0 w W0:=by rw[Ci];exact Tch.refl.alloc (Ad _) _
 have Fj:Blk false W0 w.heap.size (EI c 3 seed) 47:=⟨(0,0),by grind[Ja],λ_=>rfl⟩;have Dq:=Fj.lt;have hf:Hid (∀w1,Tch W0.heap.size M0 W0 w1->w1.cell? ⟨w.heap.size,0,none⟩=some (JK 3)/\w1.cell? ⟨w.heap.size,1,none⟩=some (JK c.bits)/\w1.cell? ⟨w.heap.size,2,none⟩=some (JK c.K)/\w1.cell? ⟨w.heap.size,3,none⟩=some (.slice c.ba c.nb c.cb)/\w1.cell? ⟨w.heap.size,4,none⟩=some (JK seed)):=λw1 ht=>(Fj.tch ht Dq λx=>x).five;have MH:Hid (∀w1,Tch W0.heap.size M0 W0 w1->Calls prog 62 #[.agg (EI c 3 seed),.nilFunc] w1 λe w'=>∃hb,NewAt w c seed (.func (.func 167) #[] #[pt hb]) bs e w'/\w.heap.size<=hb/\w'.heap[hb]?=some (.cells #[JK seed] 3)/\Tch W0.heap.size M0 W0 w'):=λw1 ht=>by have Bc:=Bf.trans (ht.mono Bf.size λ_ _ h=>h);refine(Jz2 (seed:=seed) hc (hr.tch Bc hr.lt λx=>x) Dh BL hp).mono λe w' hx=>?_;obtain⟨hb,⟨⟨x,vm,base,b2,c2,h1,h2,h3⟩,h4⟩,h5,h6⟩:=hx;have:=Bc.size;exact⟨hb,⟨⟨x,vm,base,b2,c2,h1,⟨by omega,by omega,by omega,by omega⟩,h3⟩,(Bc.trans (h4.mono Bc.size λ_ _ h=>h))⟩,by omega,h6,ht.trans (h4.mono ht.size λ_ _ h=>h)⟩
 clear hr hp Fj Bf Dq Dh BL;unfold EI at MH Ci ⊢;have t0:Tch W0.heap.size M0 W0 W0.drew:=Tch.refl.drew;have t1:Tch W0.heap.size M0 W0 (W0.alloc (.cells #[JK n] 3)).drew:=(Tch.refl.alloc (Ad _) _).drew
 go_enter func29,ntmps29
 go_wp2_with fail
 subst Ci;generalize Vy:w.heap.size=n0 at hf ⊢;obtain⟨q0,q1,q2,q3,q4⟩:=hf _ t0;obtain⟨r0,r1,r2,r3,r4⟩:=hf _ t1
 go_region_with (first|(go_at_call 53;refine(Jv4 n _).mono ?_;rintro e w1 ⟨rfl,rfl⟩)|(go_at_call 62;refine(MH _ t1).mono ?_;rintro e w1 ⟨hb,hN,q8,q9,t2⟩;have YT:=hN;obtain⟨⟨x,vm,base,b2,c2,rfl,_⟩,_⟩:=hN))
 all_goals go_wp2
 all_goals go_ret2
 all_goals exact⟨_,YT,by omega,q9⟩
theorem Jlb{hb:Nat}{s:Int}(q:DU w x c seed (.func (.func 95) #[] #[pt hb]) nf vm vs)(hc:w.heap[hb]?=some (.cells #[JK s] 3))(item at_:Int) :
  Calls prog 39 #[JL x,JK item,JK at_] w λe w'=>e=.returned (.tuple #[.int .u64 (YM s item),.nilIface])/\Tch w.heap.size M0 w w':=by
 have hmf:∀(fn:Fn)(first cap:JC)(w:JE),(Instr.makeFunc fn first cap).run prog w=.ok (.func fn first cap) w:=λ_ _ _ _=>rfl;have hx:x<w.heap.size:=q.blk.lt;have c5:w.cell? ⟨x,5,none⟩=some (.func (.func 95) #[] #[pt hb]):=q.cells.2.2.2.2.2.1;have YZ:=Jj hc;have h1:Calls prog 95 #[JK item,JL hb] (((w.alloc (.cells #[JK at_] 3)).alloc (.cells #[.int .u64 0] 110)).alloc (.cells #[.nilIface] 33)) λe w'=>e=.returned (.int .u64 (YM s item))/\w'=((w.alloc (.cells #[JK at_] 3)).alloc (.cells #[.int .u64 0] 110)).alloc (.cells #[.nilIface] 33):=Jrw ((Du (by grind[J8,size_alloc])).trans ((cell_of hc 0).trans rfl));have c5':(((w.alloc (.cells #[JK at_] 3)).alloc (.cells #[.int .u64 0] 110)).alloc (.cells #[.nilIface] 33)).cell? ⟨x,5,none⟩=some (.func (.func 95) #[] #[pt hb]):=
  (Du (by grind[J8,size_alloc])).trans c5
 generalize YM s item=hh at *;clear hc
 go_enter_defers func39,ntmps39
 go_wp2_with (go_at_call 95;refine h1.mono ?_;rintro e w1 ⟨rfl,rfl⟩)
 refine leaves_cons (f:=84) (args:=#[JL w.heap.size,.pointer (some ⟨w.heap.size+1,0,none⟩),.pointer (some ⟨w.heap.size+1+1,0,none⟩)]) (by simp) (by simp[go_sem]) ?_;refine(Jis _ _ _ _).mono ?_;rintro e u' Qj ⟨rfl,rfl,rfl⟩;simp[Leaves,settle,results,results39,go_sem];exact((Tch.refl.alloc (Ad _) _).alloc (by simp_all) _).alloc (by grind[size_alloc]) _
end
def Jkc(y:Int):0<=IntKind.u64.wrap y/\IntKind.u64.wrap y<=18446744073709551615:=J02d y
def Jwd(s n:Int):Int:=IntKind.u64.wrap (IntKind.u64.wrap n+IntKind.u64.wrap (IntKind.u64.wrap s*11400714819323198485))
def uQ(z k m:Int):Int:=IntKind.u64.wrap (bits .xor .u64 z (z / k)*m)
def TV(s n:Int):Int:=bits .xor .u64 (uQ (uQ (Jwd s n) 1073741824 13787848793156543929) 134217728 10723151780598845931) (uQ (uQ (Jwd s n) 1073741824 13787848793156543929) 134217728 10723151780598845931 / 2147483648)
def Jz3(s n:Int):0<=TV s n/\TV s n<=18446744073709551615:=by unfold TV bits;exact Jkc _
def Jry{s n:Int}{b:Nat}{w:JE}(h:w.cell? ⟨b,0,none⟩=some (JK s)):Calls prog 167 #[JK n,JL b] w λe w'=>e=.returned (.int .u64 (TV s n))/\w'=w:=by
 go_enter func167,ntmps167
 go_wp2;go_ret;exact⟨rfl,rfl⟩
section
variable{w:JE}{x:Nat}{c:J7}{seed:Int}{nf:Int}{vm:Nat}{vs:Nat->Option Nat}
theorem Jlc{hb:Nat}{s:Int}(q:DU w x c seed (.func (.func 167) #[] #[pt hb]) nf vm vs)(hc:w.heap[hb]?=some (.cells #[JK s] 3))(item at_:Int) :
  Calls prog 39 #[JL x,JK item,JK at_] w λe w'=>e=.returned (.tuple #[.int .u64 (TV s item),.nilIface])/\Tch w.heap.size M0 w w':=by
 have hmf:∀(fn:Fn)(first cap:JC)(w:JE),(Instr.makeFunc fn first cap).run prog w=.ok (.func fn first cap) w:=λ_ _ _ _=>rfl;have hx:x<w.heap.size:=q.blk.lt;have c5:w.cell? ⟨x,5,none⟩=some (.func (.func 167) #[] #[pt hb]):=q.cells.2.2.2.2.2.1;have YZ:=Jj hc;have h1:Calls prog 167 #[JK item,JL hb] (((w.alloc (.cells #[JK at_] 3)).alloc (.cells #[.int .u64 0] 110)).alloc (.cells #[.nilIface] 33)) λe w'=>e=.returned (.int .u64 (TV s item))/\w'=((w.alloc (.cells #[JK at_] 3)).alloc (.cells #[.int .u64 0] 110)).alloc (.cells #[.nilIface] 33):=Jry ((Du (by grind[J8,size_alloc])).trans ((cell_of hc 0).trans rfl));have c5':(((w.alloc (.cells #[JK at_] 3)).alloc (.cells #[.int .u64 0] 110)).alloc (.cells #[.nilIface] 33)).cell? ⟨x,5,none⟩=some (.func (.func 167) #[] #[pt hb]):=
  (Du (by grind[J8,size_alloc])).trans c5
 generalize TV s item=hh at *;clear hc
 go_enter_defers func39,ntmps39
 go_wp2_with (go_at_call 167;refine h1.mono ?_;rintro e w1 ⟨rfl,rfl⟩)
 refine leaves_cons (f:=84) (args:=#[JL w.heap.size,.pointer (some ⟨w.heap.size+1,0,none⟩),.pointer (some ⟨w.heap.size+1+1,0,none⟩)]) (by simp) (by simp[go_sem]) ?_;refine(Jis _ _ _ _).mono ?_;rintro e u' Qj ⟨rfl,rfl,rfl⟩;simp[Leaves,settle,results,results39,go_sem];exact((Tch.refl.alloc (Ad _) _).alloc (by simp_all) _).alloc (by grind[size_alloc]) _
end
inductive I8(w:JE):JJ->(Int->Int)->Prop
 |one:I8 w h49 (λy=>IntKind.u64.wrap y)
 |two{b:Nat}{s:Int}(h:w.heap[b]?=some (.cells #[.int .i64 s] 3)):I8 w (.func (.func 95) #[] #[pt b]) (YM s)
 |mix{b:Nat}{s:Int}(h:w.heap[b]?=some (.cells #[.int .i64 s] 3)):I8 w (.func (.func 167) #[] #[pt b]) (TV s)
section
variable{w:JE}{h:JJ}{hs:Int->Int}
def I8.bd(q:I8 w h hs)(y:Int):0<=hs y/\hs y<=18446744073709551615:=by
 cases q with
 |one=>exact Jkc y
 |two _=>exact Jkc _
 |mix _=>exact Jz3 _ y
def Sv:JJ->Option Nat
 |.func _ _ a=>(match(a[0]?:Option JJ)with
  |some (.pointer (some p))=>some p.block
  |_=>none)
 |_=>none
def I8.kept(q:I8 w h hs){w':JE}(hk:∀b s,Sv h=some b->w.heap[b]?=some (.cells #[JK s] 3)->w'.heap[b]?=some (.cells #[JK s] 3)):I8 w' h hs:=by
 cases q with
 |one=>exact .one
 |two h=>exact .two (hk _ _ rfl h)
 |mix h=>exact .mix (hk _ _ rfl h)
def I8.calls(q:I8 w h hs){x:Nat}{c:J7}{seed nf:Int}{vm:Nat}{vs:Nat->Option Nat}(qc:DU w x c seed h nf vm vs)(item at_:Int) :
  Calls prog 39 #[JL x,JK item,JK at_] w λe w'=>e=.returned (.tuple #[.int .u64 (hs item),.nilIface])/\Tch w.heap.size M0 w w':=by
 cases q with
 |one=>grind[Jpx]
 |two h=>grind[Jlb]
 |mix h=>grind[Jlc]
end
def Jz1(w:JE)(c:J7)(seed:Int)(bs:JD)(hs:Int->Int)(e:Ending)(w':JE):Prop:=∃h,NewAt w c seed h bs e w'/\I8 w' h hs/\∀b,Sv h=some b->w.heap.size<=b
def hsK(k n seed:Int):Int->Int:=if k=0 then TV seed else if k=1 thenλy=>IntKind.u64.wrap y else YM n
section
variable{w:JE}{c:J7}{seed:Int}
def Jv8{fr:Bool}{bb cap:Nat}{bs:JD}(hc:CZ c)(hr:Row fr w bb 3 .i64 bs cap)(Dh:c.ba=some ⟨bb,0,none⟩)(BL:c.nb=bs.length)(hp:bs.Pairwise (· < ·))(k n:Int)(hk:0<=k/\k<3) :
  Calls prog 29 #[.agg (EI c 3 seed),JK k,JK n] w (Jz1 w c seed bs (hsK k n seed)):=by
 obtain rfl|rfl|rfl:k=0\/k=1\/k=2:=by omega
 .refine(Jv7 hc hr Dh BL hp n).mono λe w' ⟨hb,h1,h2,h3⟩=>⟨_,h1,.mix h3,λb e=>?_⟩;cases e;exact h2
 .exact(Jt5 hc hr Dh BL hp n).mono λe w' h1=>⟨_,h1,.one,λb e=>by cases e⟩
 .refine(Jv6 hc hr Dh BL hp n).mono λe w' ⟨hb,h1,h2,h3⟩=>⟨_,h1,.two h3,λb e=>?_⟩;cases e;exact h2
end
def Joj{c:Int}(hc:I64 c)(w:JE):Calls prog 26 #[JK c] w λe w'=>e=.returned (JK (Jr c 3))/\w'=w:=by
 have hp:=Yo (n:=3) hc (by omega) (by omega) w
 go_enter func26,ntmps26
 go_wp2_with (go_at_call 18;refine hp.mono ?_;rintro e w1 ⟨rfl,rfl⟩)
 go_ret
 simp_all
def Hg(f:Nat->JJ):((List.range 70).map f).toArray=#[f 0,f 1,f 2,f 3,f 4,f 5,f 6,f 7,f 8,f 9,f 10,f 11,f 12,f 13,f 14,f 15,f 16,f 17,f 18,f 19,f 20,f 21,f 22,f 23,f 24,f 25,f 26,f 27,f 28,f 29,f 30,f 31,f 32,f 33,f 34,f 35,f 36,f 37,f 38,f 39,f 40,f 41,f 42,f 43,f 44,f 45,f 46,f 47,f 48,f 49,f 50,f 51,f 52,f 53,f 54,f 55,f 56,f 57,f 58,f 59,f 60,f 61,f 62,f 63,f 64,f 65,f 66,f 67,f 68,f 69]:=by rfl
def Si{T:JC}(h:T.size=70):∃f:Nat->JJ,T=((List.range 70).map f).toArray:=⟨_,dM h⟩
def b7:Code:=f14.body.getD .skip
def uT:Code:=fC b7
def uU:Code:=fC (sC b7)
def uV:Code:=fC (sC (sC b7))
def uX:Code:=fC (sC (sC (sC b7)))
def uY:Code:=fC (sC (sC (sC (sC b7))))
def uZ:Code:=fC (sC (sC (sC (sC (sC b7)))))
def vC:Code:=fC (sC (sC (sC (sC (sC (sC b7))))))
def ops7:Array Oper:=opsOf (fC (sC (sC (sC (sC (sC (sC (sC b7))))))))
def UM:Code:=sC (sC (sC (sC (sC (sC (sC (sC b7)))))))
def J05b:b7=.seq uT (.seq uU (.seq uV (.seq uX (.seq uY (.seq uZ (.seq vC (.seq (.region 9 ops7 false) UM))))))):=by kernel_rfl
def body7:f14.body=some b7:=by kernel_rfl
section
variable{w:JE}{T:JC}{d:Deferred}{c:Int}{sl:JJ}{ga:JI}{cb x c2:Nat}
def Jv9(Ag:T.size=70)(h0:T[0]?=some (JK c))(h1:T[1]?=some sl) :
  uT.wp prog (λe a w'=>e=.normal/\a.defers=[d]/\a.tmps.size=70/\a.tmps[0]?=some (JK c)/\a.tmps[1]?=some sl/\w'.heap=w.heap) ⟨T,[d]⟩ w:=by
 obtain⟨f,rfl⟩:=Si Ag;rw[Hg]at *;have e0:f 0=_:=Aa h0;have e1:f 1=_:=Aa h1;rw[e0,e1];simp only[uT,b7,fC,f14,A8];go_wp2
def Jva(hc:I64 c)(Ag:T.size=70)(h0:T[0]?=some (JK c))(h1:T[1]?=some sl) :
  uU.wp prog (λe a w'=>e=.normal/\a.defers=[d]/\a.tmps.size=70/\a.tmps[0]?=some (JK c)/\a.tmps[1]?=some sl/\a.tmps[5]?=some (pt (w.heap.size+2))/\Blk false w' (w.heap.size+2) (EI (TU c (w.heap.size+1)) 3 c) 47/\Row false w' (w.heap.size+1) 3 .i64 Dc 4/\Tch w.heap.size M0 w w') ⟨T,[d]⟩ w:=by
 obtain⟨f,rfl⟩:=Si Ag;rw[Hg]at *;have e0:f 0=_:=Aa h0;have e1:f 1=_:=Aa h1;rw[e0,e1];have hcf:=J9e hc w;simp only[uU,b7,fC,sC,f14,A8]
 go_wp2_with (go_at_call 19;refine hcf.mono ?_;rintro e w1 ⟨rfl,rfl⟩)
 obtain⟨W1,AP⟩:∃W1,w.alloc (.cells #[JK 3,JK (4+Jr c 1048576 % 3),JK (1+Jr c 1048576 / 3 % 8),.slice (some ⟨w.heap.size+1,0,none⟩) 4 4,JK c] 47)=W1:=⟨_,rfl⟩;have z1:W1.heap.size=w.heap.size+1:=by rw[<- AP,size_alloc]
 obtain⟨W2,Dv⟩:∃W2,W1.alloc (.cells #[JK (-5),JK 0,JK 10,JK 1000] 3)=W2:=⟨_,rfl⟩;have z2:W2.heap.size=w.heap.size+2:=by grind[size_alloc]
 have hr:=Ja (w:=W1) (.cells #[JK (-5),JK 0,JK 10,JK 1000] 3);rw[Dv,z1]at hr;simp only[AP,Dv];refine⟨⟨(0,0),by have:=Ja (w:=W2) (.cells (EI (TU c (w.heap.size+1)) 3 c) 47);rw[z2]at this;exact this,λ_=>rfl⟩,⟨#[JK (-5),JK 0,JK 10,JK 1000],⟨(0,0),(J8 _ (by omega)).trans hr,λ_=>rfl⟩,rfl,by decide,λi hi=>?_,λv hv=>?_⟩,?_⟩
 .match i,(show i<4 from hi)with
  |0,_|1,_|2,_|3,_=>rfl
 .simp only[AL,BU,or_false]at hv;rcases hv with rfl|rfl|rfl|rfl<;>exact⟨_,_,rfl⟩
 .rw[<- Dv,<- AP];exact((Tch.refl.alloc (Ad _) _).alloc (by grind) _).alloc (by grind) _
def Jvb(hc:I64 c)(Ag:T.size=70)(h0:T[0]?=some (JK c))(h1:T[1]?=some sl)(h5:T[5]?=some (pt cb)) :
  uV.wp prog (λe a w'=>e=.normal/\a.defers=[d]/\a.tmps.size=70/\a.tmps[0]?=some (JK c)/\a.tmps[1]?=some sl/\a.tmps[5]?=some (pt cb)/\a.tmps[6]?=some (JK (Jr c 3))/\w'.heap=w.heap) ⟨T,[d]⟩ w:=by
 obtain⟨f,rfl⟩:=Si Ag;rw[Hg]at *;have e0:f 0=_:=Aa h0;have e1:f 1=_:=Aa h1;have e5:f 5=_:=Aa h5;rw[e0,e1,e5];have hk:=Joj hc w;simp only[uV,b7,fC,sC,f14,A8]
 go_wp2_with (go_at_call 26;refine hk.mono ?_;rintro e w1 ⟨rfl,rfl⟩)
def Jvc{fr:Bool}{cf:J7}{bb J49:Nat}{bs:JD}{seed k:Int}(hk:0<=k/\k<3)(hc:CZ cf)(hr:Row fr w bb 3 .i64 bs J49)(Dh:cf.ba=some ⟨bb,0,none⟩)(BL:cf.nb=bs.length)(hp:bs.Pairwise (· < ·))(hb:Blk false w cb (EI cf 3 seed) 47)(Ag:T.size=70)(h0:T[0]?=some (JK c))(h1:T[1]?=some sl)(h5:T[5]?=some (pt cb))(h6:T[6]?=some (JK k)) :
  uX.wp prog (λe a w'=>e=.normal/\a.defers=[d]/\a.tmps.size=70/\a.tmps[1]?=some sl/\∃x,a.tmps[7]?=some (pt x)/\a.tmps[8]?=some .nilIface/\Jz1 w cf seed bs (hsK k c seed) (.returned (.tuple #[pt x,.nilIface])) w') ⟨T,[d]⟩ w:=by
 obtain⟨f,rfl⟩:=Si Ag;rw[Hg]at *;have e0:f 0=_:=Aa h0;have e1:f 1=_:=Aa h1;have e5:f 5=_:=Aa h5;have e6:f 6=_:=Aa h6;rw[e0,e1,e5,e6];have hn:=Jv8 (seed:=seed) hc hr Dh BL hp k c hk;obtain⟨q0,q1,q2,q3,q4⟩:=Blk.five hb;unfold EI at hn;clear Dh BL hr hp hc hb;simp only[uX,b7,fC,sC,f14,A8]
 go_wp2_with (go_at_call 29;refine hn.mono ?_;rintro e w1 hN;have YT:=hN;obtain⟨h,⟨⟨x,vm,base,b2,c2,rfl,_⟩,_⟩,_⟩:=hN)
def Jvd(Ag:T.size=70)(h1:T[1]?=some sl)(h7:T[7]?=some (pt x))(h8:T[8]?=some .nilIface) :
  uY.wp prog (λe a w'=>e=.normal/\a.defers=[d]/\a.tmps.size=70/\a.tmps[1]?=some sl/\a.tmps[7]?=some (pt x)/\w'.heap=w.heap) ⟨T,[d]⟩ w:=by
 obtain⟨f,rfl⟩:=Si Ag;rw[Hg]at *;have e1:f 1=_:=Aa h1;have e7:f 7=_:=Aa h7;have e8:f 8=_:=Aa h8;rw[e1,e7,e8];simp only[uY,b7,fC,sC,f14,A8];go_wp2
def Jve{fs:List Jd}{R:JE->Prop}(hI:Calls prog 22 #[pt x,.slice ga fs.length c2] w λe w'=>e=.returned .nilIface/\R w')(Ag:T.size=70)(h1:T[1]?=some (.slice ga fs.length c2))(h7:T[7]?=some (pt x)) :
  uZ.wp prog (λe a w'=>e=.normal/\a.defers=[d]/\a.tmps.size=70/\a.tmps[1]?=some (.slice ga fs.length c2)/\a.tmps[7]?=some (pt x)/\a.tmps[8]?=some .nilIface/\R w') ⟨T,[d]⟩ w:=by
 obtain⟨f,rfl⟩:=Si Ag;rw[Hg]at *;have e1:f 1=_:=Aa h1;have e7:f 7=_:=Aa h7;rw[e1,e7];simp only[uZ,b7,fC,sC,f14,A8]
 go_wp2_with (go_at_call 22;refine hI.mono ?_;rintro e w1 ⟨rfl,hR⟩)
 exact hR
def Jvf(Ag:T.size=70)(h1:T[1]?=some sl)(h7:T[7]?=some (pt x))(h8:T[8]?=some .nilIface) :
  vC.wp prog (λe a w'=>e=.normal/\a.defers=[d]/\a.tmps.size=70/\a.tmps[1]?=some sl/\a.tmps[7]?=some (pt x)/\w'.heap=w.heap) ⟨T,[d]⟩ w:=by
 obtain⟨f,rfl⟩:=Si Ag;rw[Hg]at *;have e1:f 1=_:=Aa h1;have e7:f 7=_:=Aa h7;have e8:f 8=_:=Aa h8;rw[e1,e7,e8];simp only[vC,b7,fC,sC,f14,A8];go_wp2
end
section
variable{w:JE}{T:JC}{d:Deferred}{ga:JI}{n c2 x g vc:Nat}{va:JI}{sl v:JJ}
def Js0(Ag:T.size=70)(h1:T[1]?=some (.slice ga 0 c2))(h7:T[7]?=some (pt x))(h9:T[9]?=some (.slice va 0 vc))(Ce:T[10]?=some .nilIface) :
  UM.wp prog (λe a w'=>e=.ret/\a.defers=[d]/\a.tmps.size=70/\a.tmps[4]?=some (pt x)/\w'.heap=w.heap) ⟨T,[d]⟩ w:=by
 obtain⟨f,rfl⟩:=Si Ag;rw[Hg]at *;have e1:f 1=_:=Aa h1;have e7:f 7=_:=Aa h7;have e9:f 9=_:=Aa h9;have MZ:f 10=_:=Aa Ce;rw[e1,e7,e9,MZ];simp only[UM,b7,sC,f14,A8];go_wp2
def Jvg(hn:0<n)(hc:w.cell? ⟨g,1,none⟩=some (JK n))(Ag:T.size=70)(h1:T[1]?=some (.slice ga n c2))(h7:T[7]?=some (pt x))(h9:T[9]?=some (JM g 1 vc))(Ce:T[10]?=some .nilIface) :
  UM.wp prog (λe a w'=>e=.ret/\a.defers=[d]/\a.tmps.size=70/\a.tmps[4]?=some (pt x)/\w'.heap=w.heap) ⟨T,[d]⟩ w:=by
 obtain⟨f,rfl⟩:=Si Ag;rw[Hg]at *;have e1:f 1=_:=Aa h1;have e7:f 7=_:=Aa h7;have e9:f 9=_:=Aa h9;have MZ:f 10=_:=Aa Ce;rw[e1,e7,e9,MZ];have X9:(0:Int)<n:=by omega
 have Ij:¬(n:Int)=0:=by omega
 simp only[UM,b7,sC,f14,A8];go_wp2
end
def J05c:Ji C0 S0 14 uT=true:=by kernel_rfl
def J05d:Ji C0 S0 14 uU=true:=by kernel_rfl
def J05e:Ji C0 S0 14 uV=true:=by kernel_rfl
def J05f:Ji C0 S0 14 uX=true:=by kernel_rfl
def J05g:Ji C0 S0 14 uY=true:=by kernel_rfl
def J05h:Ji C0 S0 14 uZ=true:=by kernel_rfl
def J05i:Ji C0 S0 14 vC=true:=by kernel_rfl
def J05j:Ji C0 S0 14 UM=true:=by kernel_rfl
def Vg:GY C0 14:=⟨f14,by kernel_rfl,by kernel_rfl,by kernel_rfl⟩
def df7:S0.df.contains 14=false:=rfl
def UH:C0.hl 14≠[]:=by show[1000]≠[];simp
def hl7{i:Nat}(h:(C0.hl 14).contains i=true):i∈([]:List Nat)\/500<=i:=by
 have h':i∈[1000]:=Lj.1 h
 grind
def vF{i:Nat}(h:i<500):(C0.hl 14).contains i=false:=by
 cases e:(C0.hl 14).contains i with
 |false=>rfl
 |true=>
  rcases hl7 e with h1|h1
  all_goals grind
section
variable{W E:JB}{w:JE}{fn:JG}{c rest:Code}{t:JC}{k:List Item}{cs:List Frame}{Q:JC->JE->Prop}{Post:(JB)->JF->JE->Prop}
def Ql(Sl:List Nat)(hl:∀i,(C0.hl fn).contains i=true->i∈Sl\/500<=i)(Ap:C0.hl fn≠[])(hok:Ji C0 S0 fn c=true)(hb:GY C0 fn)(Nk:S0.df.contains fn=false)(hB:BOk C0 S0 W E w)(ht:TmR C0 S0 fn (idE E) t t)(Ag:t.size<=500)
  (K:∀τ,c.wp prog (λe a w1=>e=.normal/\a.tmps.size<=500/\(∀i∈Sl,a.tmps[i]?=t[i]?)/\Q a.tmps w1) ⟨t,[Jq]⟩ (w.tp τ 0))
  (kn:∀E' t' w1 w',(∀b,E b->E' b)->BOk C0 S0 W E' w'->WR C0 (okP C0 S0) (idE E') w1 w'->TmR C0 S0 fn (idE E') t' t'->Q t' w1->(∀b,W b->w'.heap[b]?=w.heap[b]?)->Reach prog Post W (G ((Go.Conc.base fn).at ⟨t',[]⟩ (.code rest::k)) cs) w') :
  Reach prog Post W (G ((Go.Conc.base fn).at ⟨t,[]⟩ (.code (.seq c rest)::k)) cs) w:=by
 refine Reach.mid (Mid:=λg' w'=>∃E' t' w1,g'=G ((Go.Conc.base fn).at ⟨t',[]⟩ (.code rest::k)) cs/\(∀b,E b->E' b)/\BOk C0 S0 W E' w'/\WR C0 (okP C0 S0) (idE E') w1 w'/\TmR C0 S0 fn (idE E') t' t'/\Q t' w1) ?_ λg' w' ⟨E',t',w1,e,h1,h2,h3,h4,h5⟩ hK=>?_
 .refine J6 (λw1=>stepG_seq) rfl λd=>?_;refine Reach.piece (b:=Go.Conc.base fn) (k:=.code rest::k) KY rfl hok hb Nk Ap (by simp[Go.Conc.base]) (hB.at d) ht (Q:=λe t w1=>e=.normal/\Q t w1) (λτ=>?_) (λE1 t1 w1 Am AQ CV AP Az DN=>Reach.here ⟨rfl,E1,t1,w1,rfl,AQ,CV,AP,Az,DN.2⟩) (λE1 t1 w1 Am todo AQ CV AP Az DN=>by cases DN.1);refine wp_mono (K τ) λe a w1 ⟨h1,h2,h0,h3⟩=>⟨.inl h1,λi hi=>?_,h1,h3⟩;rcases hl i hi with h|h
  all_goals grind
 grind
end
end Go.Sim.Z
end
