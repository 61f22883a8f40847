/- Proved: laws for the claim. No conditions. -/
import Derived.Test.YtlcbehhbfglgaaaGreatDoorB22
set_option linter.all false
set_option maxHeartbeats 4000000
set_option maxRecDepth 100000
open Go.Proofs.Tryz
noncomputable section
namespace Go.Sim.Z
open Go Go.Proofs Go.RowKit Go.Conc Go.Maps
inductive PD(b0:Nat)(E:JB)(w:JE):List (Nat × Obj)->Prop
 |nil:PD b0 E w []
 |cons{p:Nat × Obj}{H:List (Nat × Obj)}(h:b0<=p.1/\E p.1/\w.heap[p.1]?=some p.2)(t:PD b0 E w H):PD b0 E w (p::H)
def PD.hd{b0:Nat}{E:JB}{w:JE}{p:Nat × Obj}{H:List (Nat × Obj)}(h:PD b0 E w (p::H)):b0<=p.1/\E p.1/\w.heap[p.1]?=some p.2:=by cases h;assumption
def PD.tl{b0:Nat}{E:JB}{w:JE}{p:Nat × Obj}{H:List (Nat × Obj)}(h:PD b0 E w (p::H)):PD b0 E w H:=by cases h;assumption
def PD.up{b0:Nat}{E E':JB}{w w':JE}{H:List (Nat × Obj)}(h:PD b0 E w H)(hs:∀b,E b->E' b)(hh:∀b,E b->w'.heap[b]?=w.heap[b]?):PD b0 E' w' H:=by
 induction h with
 |nil=>exact .nil
 |cons h _ ih=>exact .cons ⟨h.1,hs _ h.2.1,(hh _ h.2.1).trans h.2.2⟩ ih
def FJ(b0:Nat)(vv:JJ)(b o n cap k:Nat)(f:Jd)(A B C:Int)(E:JB)(w:JE)(i:Nat)(v:JJ):Prop:=∃H,J019 vv b o n cap k f A B C i v H/\PD b0 E w H
def FJ.up{b0:Nat}{vv:JJ}{b o n cap k:Nat}{f:Jd}{A B C:Int}{E E':JB}{w w':JE}{i:Nat}{v:JJ}(h:FJ b0 vv b o n cap k f A B C E w i v)(hs:∀b,E b->E' b)(hh:∀b,E b->w'.heap[b]?=w.heap[b]?):FJ b0 vv b o n cap k f A B C E' w' i v:=by obtain⟨H,h1,h2⟩:=h;exact⟨H,h1,h2.up hs hh⟩
def Jwf:RU .any MW 17 (λi=>i+36)=true:=by kernel_rfl
def Jz5{E:JB}{kb:Nat}{x y:Int}(h:E kb):VR C0 (idE E) (.agg #[JM kb 3 3,JK x,JK y]) (.agg #[JM kb 3 3,JK x,JK y]):=by
 refine .agg rfl λi x x' h1 h2=>?_;rw[h1]at h2;cases h2
 match i with
 |0=>cases h1;exact .slice _ _ _ _ ⟨rfl,h⟩
 |1=>cases h1;exact .int _ _
 |2=>cases h1;exact .int _ _
 |i+3=>simp at h1
section
variable{W E0 E:JB}{w0 w:JE}{T:JC}{n cap k b o:Nat}{v3:JJ}{f:Jd}{A B C:Int}{kk:List Item}{cs:List Frame}{Post:(JB)->JF->JE->Prop}
def J059(hk:(k:Int)<n)(hW:W b)(hT:∀c z,w0.heap[b]?≠some (.cells c wgT z))(PV:w0.cell? ⟨b,o+k*5+3,none⟩=some (JK f.it))(Xq:w0.cell? ⟨b,o+k*5+4,none⟩=some (JK f.v))
  (kn:∀E T w,HS 13 W E0 w0 E T w->F6 (some ⟨b,o,none⟩) n cap k v3 T->(∀i,i<17->∃v,T[i+36]?=some v/\FJ w0.heap.size v3 b o n cap k f A B C E w i v)->Reach prog Post W (G ((base 13).at ⟨T,[]⟩ (.inRegion MW [17,18]::kk)) cs) w) :
  ∀(listed:Array Bool)(pre:List Nat),Wk MW 17 listed pre->∀E T w,listed.size=19->HS 13 W E0 w0 E T w->F6 (some ⟨b,o,none⟩) n cap k v3 T->T[5]?=some (JK A)->T[6]?=some (JK B)->T[7]?=some (JK C) ->
   (∀i,i<17->listed[i]?=some true->∃v,T[i+36]?=some v/\FJ w0.heap.size v3 b o n cap k f A B C E w i v)->Reach prog Post W (G ((base 13).at ⟨T,[]⟩ (.inRegion MW (pre++[17,18])::kk)) cs) w:=by
 intro listed pre Zl
 induction Zl with
 |done h=>grind
 |@step listed i pre hi hr _ ih=>
  intro E T w OQ H F s5 s6 s7 hJ;obtain⟨hin,hf,o2x,ho,BK⟩:=lW hr;obtain⟨o2,Zf,hg,Vu,Il,_⟩:=(Je9 Jwf).2.1 i hi;obtain rfl:o2=o2x:=by grind
  have sz:=F.sz;have s0:=F.s0;have s3:=F.s3;have s4:=F.s4;have wC:VR C0 (idE E) v3 v3:=H.tm.slot (i:=3) rfl s3;have hd:∀j,(o2.after.toList.any λe=>e.on == j && Region.binds .any e)=true->∃v,T[j+36]?=some v/\FJ w0.heap.size v3 b o n cap k f A B C E w j v:=λj hj=>by
   grind
  have GX:∀E' v w',HS 13 W E0 w0 E' (T.setIfInBounds (i+36) v) w'->(∀b,E b->E' b)->(∀b,E b->w'.heap[b]?=w.heap[b]?)->FJ w0.heap.size v3 b o n cap k f A B C E' w' i v->Reach prog Post W (G ((base 13).at ⟨T.setIfInBounds (i+36) v,[]⟩ (.inRegion MW (pre++[17,18])::kk)) cs) w':=λE' v w' H' hs hh hv=>by
   refine ih E' _ w' (by grind) H' (F.set (by omega) v) ?_ ?_ ?_ λj hj hl=>?_
   .grind
   .grind
   .grind
   .by_cases e:j=i
    .grind
    .rw[AV (Ne.symm e)]at hl;obtain⟨x,h1,h2⟩:=hJ j hj hl;exact⟨x,by grind,h2.up hs hh⟩
  have Jp:∀v,(∀w1,(execOp (Act.eval ⟨T,[]⟩) o2).run prog w1=.ok (.value v) w1)->(∀w1,(execOp (Act.eval ⟨T,[]⟩) o2).events prog w1 #[]=#[])->((C0.hl 13).contains (i+36)=true\/VR C0 (idE E) v v)->FJ w0.heap.size v3 b o n cap k f A B C E w i v ->
    Reach prog Post W (G ((base 13).at ⟨T,[]⟩ (.inRegion MW (i::(pre++[17,18]))::kk)) cs) w:=λv hr he hv hj=>by
   exact Jb H ho (by simp[Region.wanted,hg]) Vu hr he hv λw' H' hh=>GX E v w' H' (λb hb=>hb) (λb _=>by rw[hh]) (hj.up (λb hb=>hb) λb _=>by rw[hh])
  show Reach prog Post W (G ((base 13).at ⟨T,[]⟩ (.inRegion MW (i::(pre++[17,18]))::kk)) cs) w
  revert ho hd Jp GX
  clear hf hr hin ih BK Zf Il hg Vu
  match i,hi with
  |0,_=>
   intro ho hd GX Jp;obtain rfl:o2=qZ:=(Aa ho).symm;exact Jp v3 (λw1=>by simp[execOp,go_sem,qZ,s3];try rfl) (λw1=>by simp[execOp,go_sem,qZ,s3];try rfl) (.inr wC) ⟨[],⟨rfl,rfl⟩,.nil⟩
  |1,_=>
   intro ho hd GX Jp;obtain rfl:o2=rC:=(Aa ho).symm;exact Jp (JK A) (λw1=>by simp[execOp,go_sem,rC,s5];try rfl) (λw1=>by simp[execOp,go_sem,rC,s5];try rfl) (.inr (.int _ _)) ⟨[],⟨rfl,rfl⟩,.nil⟩
  |2,_=>
   intro ho hd GX Jp;obtain rfl:o2=rD:=(Aa ho).symm;exact Jp (JK B) (λw1=>by simp[execOp,go_sem,rD,s6];try rfl) (λw1=>by simp[execOp,go_sem,rD,s6];try rfl) (.inr (.int _ _)) ⟨[],⟨rfl,rfl⟩,.nil⟩
  |3,_=>
   intro ho hd GX Jp;obtain rfl:o2=rE:=(Aa ho).symm;exact Jp (JK C) (λw1=>by simp[execOp,go_sem,rE,s7];try rfl) (λw1=>by simp[execOp,go_sem,rE,s7];try rfl) (.inr (.int _ _)) ⟨[],⟨rfl,rfl⟩,.nil⟩
  |4,_=>
   intro ho hd GX Jp;obtain rfl:=(Aa ho).symm;obtain⟨_,e1,H1,⟨rfl,rfl⟩,l1⟩:=hd 1 rfl;obtain⟨_,e2,H2,⟨rfl,rfl⟩,l2⟩:=hd 2 rfl;obtain⟨_,e3,H3,⟨rfl,rfl⟩,l3⟩:=hd 3 rfl;refine Jkd (o:=rG) (v:=JM w.heap.size 3 3) (arr:=#[JK A,JK B,JK C]) (ty:=3) H rfl rfl rfl (λw1 hz=>by simp[execOp,go_sem,rG,e1,e2,e3,hz];try rfl) (λw1=>by simp[execOp,go_sem,rG,e1,e2,e3];try rfl) (λx hx=>?_) (.inr (.slice _ _ _ _ ⟨rfl,.inr rfl⟩)) λw' H' hk hb hz=>?_
   .simp only[AL,BU,or_false]at hx;rcases hx with rfl|rfl|rfl<;>exact .int _ _
   .exact GX _ _ _ H' (λb hb=>.inl hb) (λb hb=>hk b (.inl hb)) ⟨_,⟨_,rfl,rfl⟩,.cons ⟨H.sz,.inr rfl,hb⟩ .nil⟩
  |5,_=>
   intro ho hd GX Jp;obtain rfl:o2=rH:=(Aa ho).symm;exact Jp (.slice (some ⟨b,o,none⟩) n cap) (λw1=>by simp[execOp,go_sem,rH,s0];try rfl) (λw1=>by simp[execOp,go_sem,rH,s0];try rfl) (.inl rfl) ⟨[],⟨rfl,rfl⟩,.nil⟩
  |10,_=>
   intro ho hd GX Jp;obtain rfl:o2=oC:=(Aa ho).symm;exact Jp (.slice (some ⟨b,o,none⟩) n cap) (λw1=>by simp[execOp,go_sem,oC,s0];try rfl) (λw1=>by simp[execOp,go_sem,oC,s0];try rfl) (.inl rfl) ⟨[],⟨rfl,rfl⟩,.nil⟩
  |6,_=>
   intro ho hd GX Jp;obtain rfl:o2=rJ:=(Aa ho).symm;exact Jp (JK k) (λw1=>by simp[execOp,go_sem,rJ,s4];try rfl) (λw1=>by simp[execOp,go_sem,rJ,s4];try rfl) (.inr (.int _ _)) ⟨[],⟨rfl,rfl⟩,.nil⟩
  |11,_=>
   intro ho hd GX Jp;obtain rfl:o2=oD:=(Aa ho).symm;exact Jp (JK k) (λw1=>by simp[execOp,go_sem,oD,s4];try rfl) (λw1=>by simp[execOp,go_sem,oD,s4];try rfl) (.inr (.int _ _)) ⟨[],⟨rfl,rfl⟩,.nil⟩
  |7,_=>
   intro ho hd GX Jp;obtain rfl:o2=rM:=(Aa ho).symm;obtain⟨_,e5,H5,⟨rfl,rfl⟩,l5⟩:=hd 5 rfl;obtain⟨_,e6,H6,⟨rfl,rfl⟩,l6⟩:=hd 6 rfl;exact Jp (pt b (o+k*5)) (λw1=>by simp[execOp,go_sem,rM,e5,e6,hk];try rfl) (λw1=>by simp[execOp,go_sem,rM,e5,e6,hk];try rfl) (.inl rfl) ⟨[],⟨rfl,rfl⟩,.nil⟩
  |8,_=>
   intro ho hd GX Jp;obtain rfl:o2=rO:=(Aa ho).symm;obtain⟨_,e7,H7,⟨rfl,rfl⟩,l7⟩:=hd 7 rfl;exact Jp (pt b (o+k*5+3)) (λw1=>by simp[execOp,go_sem,rO,e7];try rfl) (λw1=>by simp[execOp,go_sem,rO,e7];try rfl) (.inl rfl) ⟨[],⟨rfl,rfl⟩,.nil⟩
  |12,_=>
   intro ho hd GX Jp;obtain rfl:o2=oG:=(Aa ho).symm;obtain⟨_,e5,H5,⟨rfl,rfl⟩,l5⟩:=hd 10 rfl;obtain⟨_,e6,H6,⟨rfl,rfl⟩,l6⟩:=hd 11 rfl;exact Jp (pt b (o+k*5)) (λw1=>by simp[execOp,go_sem,oG,e5,e6,hk];try rfl) (λw1=>by simp[execOp,go_sem,oG,e5,e6,hk];try rfl) (.inl rfl) ⟨[],⟨rfl,rfl⟩,.nil⟩
  |13,_=>
   intro ho hd GX Jp;obtain rfl:o2=oH:=(Aa ho).symm;obtain⟨_,e7,H7,⟨rfl,rfl⟩,l7⟩:=hd 12 rfl;exact Jp (pt b (o+k*5+4)) (λw1=>by simp[execOp,go_sem,oH,e7];try rfl) (λw1=>by simp[execOp,go_sem,oH,e7];try rfl) (.inl rfl) ⟨[],⟨rfl,rfl⟩,.nil⟩
  |9,_=>
   intro ho hd GX Jp;obtain rfl:o2=bP:=(Aa ho).symm;obtain⟨_,e8,H8,⟨rfl,rfl⟩,l8⟩:=hd 8 rfl;refine aW (o:=bP) (v:=JK f.it) (a:=⟨b,o+k*5+3,none⟩) H hW (λc z=>by rw[H.kw b hW];exact hT c z) ((Du (H.kw b hW)).trans PV) rfl rfl rfl (λw1 DF=>by simp[execOp,go_sem,bP,e8,DF];try rfl) (λw1 DF=>by simp[execOp,go_sem,bP,e8,DF];try rfl) (.inr (.int _ _)) λw' H' hk hz=>?_;exact GX _ _ _ H' (λb hb=>hb) (λb hb=>hk b (.inl hb)) ⟨[],⟨rfl,rfl⟩,.nil⟩
  |14,_=>
   intro ho hd GX Jp;obtain rfl:o2=aX:=(Aa ho).symm;obtain⟨_,e8,H8,⟨rfl,rfl⟩,l8⟩:=hd 13 rfl;refine aW (o:=aX) (v:=JK f.v) (a:=⟨b,o+k*5+4,none⟩) H hW (λc z=>by rw[H.kw b hW];exact hT c z) ((Du (H.kw b hW)).trans Xq) rfl rfl rfl (λw1 DF=>by simp[execOp,go_sem,aX,e8,DF];try rfl) (λw1 DF=>by simp[execOp,go_sem,aX,e8,DF];try rfl) (.inr (.int _ _)) λw' H' hk hz=>?_;exact GX _ _ _ H' (λb hb=>hb) (λb hb=>hk b (.inl hb)) ⟨[],⟨rfl,rfl⟩,.nil⟩
  |15,_=>
   intro ho hd GX Jp;obtain rfl:o2=oI:=(Aa ho).symm;obtain⟨_,e4,H4,⟨kb,rfl,rfl⟩,l4⟩:=hd 4 rfl;obtain⟨_,e9,H9,⟨rfl,rfl⟩,l9⟩:=hd 9 rfl;obtain⟨_,O5,H14,⟨rfl,rfl⟩,l14⟩:=hd 14 rfl;exact Jp (.agg #[JM kb 3 3,JK f.it,JK f.v]) (λw1=>by simp[execOp,go_sem,oI,e4,e9,O5];try rfl) (λw1=>by simp[execOp,go_sem,oI,e4,e9,O5];try rfl) (.inr (Jz5 l4.hd.2.1)) ⟨_,⟨_,rfl,rfl⟩,l4⟩
  |16,_=>
   intro ho hd GX Jp;obtain rfl:o2=aY:=(Aa ho).symm;obtain⟨_,KG,H15,⟨kb,rfl,rfl⟩,lJ⟩:=hd 15 rfl;refine Jkd (o:=aY) (v:=JM w.heap.size 1 1) (arr:=#[JM kb 3 3,JK f.it,JK f.v]) (ty:=50) H rfl rfl rfl (λw1 hz=>by simp[execOp,go_sem,aY,KG,hz];try rfl) (λw1=>by simp[execOp,go_sem,aY,KG];try rfl) (λx hx=>?_) (.inr (.slice _ _ _ _ ⟨rfl,.inr rfl⟩)) λw' H' hk hb hz=>?_
   .simp only[AL,BU,or_false]at hx;rcases hx with rfl|rfl|rfl
    .exact .slice _ _ _ _ ⟨rfl,lJ.hd.2.1⟩
    .exact .int _ _
    .exact .int _ _
   .exact GX _ _ _ H' (λb hb=>.inl hb) (λb hb=>hk b (.inl hb)) ⟨_,⟨_,_,rfl,rfl⟩,.cons ⟨H.sz,.inr rfl,hb⟩ (lJ.up (λb hb=>.inl hb) λb hb=>hk b (.inl hb))⟩
  |i+17,h=>grind
end
section
variable{W E0 E:JB}{w0 w:JE}{T:JC}{la:JI}{n cap k:Nat}{v3:JJ}{kk:List Item}{cs:List Frame}{Post:(JB)->JF->JE->Prop}
def J02i(H:HS 13 W E0 w0 E T w)(F:F6 la n cap k v3 T)(Oe:(k:Int)<n)(BX:(k:Int)<200)
  (kn:∀T' w',HS 13 W E0 w0 E T' w'->F6 la n cap k v3 T'->T'[15]?=some (.bool true)->w'.heap=w.heap->Reach prog Post W (G ((base 13).at ⟨T',[]⟩ kk) cs) w') :
  Reach prog Post W (G ((base 13).at ⟨T,[]⟩ (.code (.region 3 O1 false)::kk)) cs) w:=by
 have sz:=F.sz;have s0:=F.s0;have s4:=F.s4;refine J6 (λw1=>stepG_region) rfl λd1=>?_;rw[show List.range O1.size=[0,1,2,3,4,5,6,7]from rfl];have H:=H.at d1;refine Jb (o:=RJ) (v:=JK k) H rfl rfl rfl (λw1=>by simp[execOp,go_sem,RJ,s4];try rfl) (λw1=>by simp[execOp,go_sem,RJ,s4];try rfl) (.inr (.int _ _)) λw0 H h0=>?_;refine Jb (o:=RN) (v:=.slice la n cap) H rfl rfl rfl (λw1=>by simp[execOp,go_sem,RN,s0];try rfl) (λw1=>by simp[execOp,go_sem,RN,s0];try rfl) (.inl rfl) λw1 H h1=>?_;refine Jb (o:=RP) (v:=JK n) H rfl rfl rfl (λw1=>by simp[execOp,go_sem,RP,sz];try rfl) (λw1=>by simp[execOp,go_sem,RP,sz];try rfl) (.inr (.int _ _)) λw2 H h2=>?_;refine Jb (o:=RQ) (v:=.bool true) H rfl rfl rfl (λw1=>by simp[execOp,go_sem,RQ,sz,Oe];try rfl) (λw1=>by simp[execOp,go_sem,RQ,sz,Oe];try rfl) (.inr (.bool _)) λw3 H h3=>?_;refine Jb (o:=LW) (v:=.bool true) H rfl rfl rfl (λw1=>by simp[execOp,go_sem,LW,sz];try rfl) (λw1=>by simp[execOp,go_sem,LW,sz];try rfl) (.inr (.bool _)) λw4 H h4=>?_;refine Jb (o:=Qp) (v:=JK k) H rfl (by simp[Region.wanted,yielded,Qp,O1,LW,sz]) rfl (λw1=>by simp[execOp,go_sem,Qp,s4];try rfl) (λw1=>by simp[execOp,go_sem,Qp,s4];try rfl) (.inr (.int _ _)) λw5 H h5=>?_;refine Jb (o:=Qq) (v:=.bool true) H rfl (by simp[Region.wanted,yielded,Qq,O1,LW,sz]) rfl (λw1=>by simp[execOp,go_sem,Qq,sz,BX];try rfl) (λw1=>by simp[execOp,go_sem,Qq,sz,BX];try rfl) (.inr (.bool _)) λw6 H h6=>?_;refine Jb (o:=RS) (v:=.bool true) H rfl rfl rfl (λw1=>by simp[execOp,go_sem,RS,sz];try rfl) (λw1=>by simp[execOp,go_sem,RS,sz];try rfl) (.inr (.bool _)) λw7 H h7=>?_;refine J6 (λw1=>stepG_region_end) rfl λd2=>?_;exact kn _ _ (H.at d2) ((((((((F.set (by omega) _).set (by omega) _).set (by omega) _).set (by omega) _).set (by omega) _).set (by omega) _).set (by omega) _).set (by omega) _) (by simp[sz]) (h7.trans (h6.trans (h5.trans (h4.trans (h3.trans (h2.trans (h1.trans (h0.trans rfl))))))))
def J02j(H:HS 13 W E0 w0 E T w)(F:F6 la n cap k v3 T)(Oe:(k:Int)<n)(BX:¬(k:Int)<200)
  (kn:∀T' w',HS 13 W E0 w0 E T' w'->F6 la n cap k v3 T'->T'[15]?=some (.bool false)->w'.heap=w.heap->Reach prog Post W (G ((base 13).at ⟨T',[]⟩ kk) cs) w') :
  Reach prog Post W (G ((base 13).at ⟨T,[]⟩ (.code (.region 3 O1 false)::kk)) cs) w:=by
 have sz:=F.sz;have s0:=F.s0;have s4:=F.s4;refine J6 (λw1=>stepG_region) rfl λd1=>?_;rw[show List.range O1.size=[0,1,2,3,4,5,6,7]from rfl];have H:=H.at d1;refine Jb (o:=RJ) (v:=JK k) H rfl rfl rfl (λw1=>by simp[execOp,go_sem,RJ,s4];try rfl) (λw1=>by simp[execOp,go_sem,RJ,s4];try rfl) (.inr (.int _ _)) λw0 H h0=>?_;refine Jb (o:=RN) (v:=.slice la n cap) H rfl rfl rfl (λw1=>by simp[execOp,go_sem,RN,s0];try rfl) (λw1=>by simp[execOp,go_sem,RN,s0];try rfl) (.inl rfl) λw1 H h1=>?_;refine Jb (o:=RP) (v:=JK n) H rfl rfl rfl (λw1=>by simp[execOp,go_sem,RP,sz];try rfl) (λw1=>by simp[execOp,go_sem,RP,sz];try rfl) (.inr (.int _ _)) λw2 H h2=>?_;refine Jb (o:=RQ) (v:=.bool true) H rfl rfl rfl (λw1=>by simp[execOp,go_sem,RQ,sz,Oe];try rfl) (λw1=>by simp[execOp,go_sem,RQ,sz,Oe];try rfl) (.inr (.bool _)) λw3 H h3=>?_;refine Jb (o:=LW) (v:=.bool true) H rfl rfl rfl (λw1=>by simp[execOp,go_sem,LW,sz];try rfl) (λw1=>by simp[execOp,go_sem,LW,sz];try rfl) (.inr (.bool _)) λw4 H h4=>?_;refine Jb (o:=Qp) (v:=JK k) H rfl (by simp[Region.wanted,yielded,Qp,O1,LW,sz]) rfl (λw1=>by simp[execOp,go_sem,Qp,s4];try rfl) (λw1=>by simp[execOp,go_sem,Qp,s4];try rfl) (.inr (.int _ _)) λw5 H h5=>?_;refine Jb (o:=Qq) (v:=.bool false) H rfl (by simp[Region.wanted,yielded,Qq,O1,LW,sz]) rfl (λw1=>by simp[execOp,go_sem,Qq,sz,BX];try rfl) (λw1=>by simp[execOp,go_sem,Qq,sz,BX];try rfl) (.inr (.bool _)) λw6 H h6=>?_;refine Jb (o:=RS) (v:=.bool false) H rfl rfl rfl (λw1=>by simp[execOp,go_sem,RS,sz];try rfl) (λw1=>by simp[execOp,go_sem,RS,sz];try rfl) (.inr (.bool _)) λw7 H h7=>?_;refine J6 (λw1=>stepG_region_end) rfl λd2=>?_;exact kn _ _ (H.at d2) ((((((((F.set (by omega) _).set (by omega) _).set (by omega) _).set (by omega) _).set (by omega) _).set (by omega) _).set (by omega) _).set (by omega) _) (by simp[sz]) (h7.trans (h6.trans (h5.trans (h4.trans (h3.trans (h2.trans (h1.trans (h0.trans rfl))))))))
def J02k(H:HS 13 W E0 w0 E T w)(F:F6 la n cap k v3 T)(Oe:¬(k:Int)<n)
  (kn:∀T' w',HS 13 W E0 w0 E T' w'->F6 la n cap k v3 T'->T'[15]?=some (.bool false)->w'.heap=w.heap->Reach prog Post W (G ((base 13).at ⟨T',[]⟩ kk) cs) w') :
  Reach prog Post W (G ((base 13).at ⟨T,[]⟩ (.code (.region 3 O1 false)::kk)) cs) w:=by
 have sz:=F.sz;have s0:=F.s0;have s4:=F.s4;refine J6 (λw1=>stepG_region) rfl λd1=>?_;rw[show List.range O1.size=[0,1,2,3,4,5,6,7]from rfl];have H:=H.at d1;refine Jb (o:=RJ) (v:=JK k) H rfl rfl rfl (λw1=>by simp[execOp,go_sem,RJ,s4];try rfl) (λw1=>by simp[execOp,go_sem,RJ,s4];try rfl) (.inr (.int _ _)) λw0 H h0=>?_;refine Jb (o:=RN) (v:=.slice la n cap) H rfl rfl rfl (λw1=>by simp[execOp,go_sem,RN,s0];try rfl) (λw1=>by simp[execOp,go_sem,RN,s0];try rfl) (.inl rfl) λw1 H h1=>?_;refine Jb (o:=RP) (v:=JK n) H rfl rfl rfl (λw1=>by simp[execOp,go_sem,RP,sz];try rfl) (λw1=>by simp[execOp,go_sem,RP,sz];try rfl) (.inr (.int _ _)) λw2 H h2=>?_;refine Jb (o:=RQ) (v:=.bool false) H rfl rfl rfl (λw1=>by simp[execOp,go_sem,RQ,sz,Oe];try rfl) (λw1=>by simp[execOp,go_sem,RQ,sz,Oe];try rfl) (.inr (.bool _)) λw3 H h3=>?_;refine Jb (o:=LW) (v:=.bool false) H rfl rfl rfl (λw1=>by simp[execOp,go_sem,LW,sz];try rfl) (λw1=>by simp[execOp,go_sem,LW,sz];try rfl) (.inr (.bool _)) λw4 H h4=>?_;refine Jm6 (o:=Qp) H rfl (by simp[Region.wanted,yielded,Qp,O1,LW,sz]) rfl λw5 H h5=>?_;refine Jm6 (o:=Qq) H rfl (by simp[Region.wanted,yielded,Qq,O1,LW,sz]) rfl λw6 H h6=>?_;refine Jb (o:=RS) (v:=.bool false) H rfl rfl rfl (λw1=>by simp[execOp,go_sem,RS,sz];try rfl) (λw1=>by simp[execOp,go_sem,RS,sz];try rfl) (.inr (.bool _)) λw7 H h7=>?_;refine J6 (λw1=>stepG_region_end) rfl λd2=>?_;exact kn _ _ (H.at d2) ((((((((F.set (by omega) _).set (by omega) _).set (by omega) _).set (by omega) _).set (by omega) _).set (by omega) _).set (by omega) _).set (by omega) _) (by simp[sz]) (h7.trans (h6.trans (h5.trans (h4.trans (h3.trans (h2.trans (h1.trans (h0.trans rfl))))))))
def inc6(H:HS 13 W E0 w0 E T w)(F:F6 la n cap k v3 T)(hk:k<1000)
  (kn:∀T' w',HS 13 W E0 w0 E T' w'->F6 la n cap (k+1) v3 T'->w'.heap=w.heap->Reach prog Post W (G ((base 13).at ⟨T',[]⟩ kk) cs) w') :
  Reach prog Post W (G ((base 13).at ⟨T,[]⟩ (.code (.region 4 dQ false)::kk)) cs) w:=by
 have sz:=F.sz;have s4:=F.s4;have hw:IntKind.i64.wrap ((k:Int)+1)=((k+1:Nat):Int):=by simp[IntKind.wrap,IntKind.signed,IntKind.bits];omega
 refine J6 (λw1=>stepG_region) rfl λd1=>?_;rw[show List.range dQ.size=[0,1,2]from rfl];have H:=H.at d1;refine Jb (o:=pR) (v:=JK k) H rfl rfl rfl (λw1=>by simp[execOp,go_sem,pR,s4];try rfl) (λw1=>by simp[execOp,go_sem,pR,s4];try rfl) (.inr (.int _ _)) λw2 H h0=>?_;refine Jb (o:=pU) (v:=JK (k+1:Nat)) H rfl rfl rfl (λw1=>by simp[execOp,go_sem,pU,sz,hw];try rfl) (λw1=>by simp[execOp,go_sem,pU,sz];try rfl) (.inr (.int _ _)) λw3 H h1=>?_;refine Jb (o:=pV) (v:=JK (k+1:Nat)) H rfl rfl rfl (λw1=>by simp[execOp,go_sem,pV,sz];try rfl) (λw1=>by simp[execOp,go_sem,pV,sz];try rfl) (.inr (.int _ _)) λw4 H h2=>?_;refine J6 (λw1=>stepG_region_end) rfl λd2=>?_;obtain⟨f1,f2,f3,f4,f5⟩:=F;refine kn _ _ (H.at d2) ⟨by grind,?_,?_,?_,by simp[sz]⟩ (h2.trans (h1.trans h0))<;>(repeat rw[AV (by omega)])<;>assumption
def FN.keE{base:Nat}{v:JJ}{L:List (Jd × Nat)}{w':JE}(h:FN w base v L)(k:KE E w w')(hv:VR C0 (idE E) v v)(hE:∀p∈L,E p.2):FN w' base v L:=by
 refine⟨⟨h.own.1,?_⟩,λp hp=>⟨(h.rows p hp).1,(by obtain⟨cur,h1,h2⟩:=(h.rows p hp).2.1;exact⟨cur,k.blk (hE p hp) h1,h2⟩),(h.rows p hp).2.2⟩⟩;rcases h.own.2 with hn|⟨g,cap,cur,rfl,hb,hg,rest⟩
 .exact .inl hn
 .exact .inr ⟨g,cap,cur,rfl,hb,k _ _ hv.MQ hg trivial,rest⟩
def HS.to0{fn:JG}{E':JB}{w':JE}(h:HS fn W E0 w0 E T w)(hB:BOk C0 S0 W E' w')(hs:∀b,E b->E' b)(he:KE E0 w w')(hw:∀b,W b->w'.heap[b]?=w.heap[b]?)(hz:w.heap.size<=w'.heap.size){T':JC}(ht:TmR C0 S0 fn (idE E') T' T'):HS fn W E0 w0 E' T' w':=
 ⟨hB,λb hb=>hs b (h.le b hb),h.ke.trans he,λb hb=>(hw b hb).trans (h.kw b hb),ht,h.own,BN h.sz hz⟩
def Jrz{b o base:Nat}{f:Jd}{A B C:Int}{L:List (Jd × Nat)}(H:HS 13 W E0 w0 E T w)(F:F6 (some ⟨b,o,none⟩) n cap k v3 T)(s5:T[5]?=some (JK A))(s6:T[6]?=some (JK B))(s7:T[7]?=some (JK C))(hk:(k:Int)<n)(hW:W b)(hT:∀c z,w.heap[b]?≠some (.cells c wgT z))(PV:w.cell? ⟨b,o+k*5+3,none⟩=some (JK f.it))(Xq:w.cell? ⟨b,o+k*5+4,none⟩=some (JK f.v))
  (hL:FN w base v3 L) (Vq:∀p∈L,E p.2) (CQ:base<=w0.heap.size) (fK:∀b,E0 b->b<base) (hn:L.length<=1000) (hf:f.k=[A,B,C])
  (kn:∀E' T' w' v' kb,HS 13 W E0 w0 E' T' w'->F6 (some ⟨b,o,none⟩) n cap k v' T'->FN w' base v' (L++[(f,kb)])->(∀p∈L++[(f,kb)],E' p.2)->Reach prog Post W (G ((Go.Conc.base 13).at ⟨T',[]⟩ kk) cs) w') :
  Reach prog Post W (G ((Go.Conc.base 13).at ⟨T,[]⟩ (.code (.region 8 MW true)::kk)) cs) w:=by
 refine Reach.mid (Mid:=λg' w'=>∃n0,g'=G ((Go.Conc.base 13).at ⟨T,[]⟩ (.inRegion MW (Region.schedule (C0.P.follows .mixedOrders) MW n0)::kk)) cs/\BOk C0 S0 W E w'/\w'.heap.size=w.heap.size/\∀b,E b->w'.heap[b]?=w.heap[b]?) (Reach.draw (C:=C0) rfl H.bok λn0 w' h1 h2 h3=>Reach.here ⟨rfl,n0,rfl,h1,h2,h3⟩) λg' w1 ⟨n0,e,h1,h2,h3⟩ hK=>?_;subst e;rw[show C0.P.follows .mixedOrders=true from mixed];obtain⟨pre,QU,_,_,Zl⟩:=Jk5 prog Jwf n0;rw[QU,show List.range' 17 (MW.size-17)=[17,18]from rfl];have Hs:HS 13 W E w E T w1:=H.start.to h1 (λ_ h=>h) (.of_eq h3) hK (by omega);refine J059 (f:=f) (A:=A) (B:=B) (C:=C) hk hW hT PV Xq (λE2 T2 w2 H2 F2 hJ=>?_) (Array.replicate MW.size false) pre Zl E T w1 rfl Hs F s5 s6 s7 λi hi hl=>by
  grind
 have Es:FN w2 base v3 L:=hL.keE H2.ke (H.tm.slot (i:=3) rfl F.s3) Vq;obtain⟨v0,f0,H0,⟨_,e0⟩,l0⟩:=hJ 0 (by omega);rw[e0]at f0;obtain⟨_,f16,H16,⟨sb,kb,rfl,rfl⟩,lM⟩:=hJ 16 (by omega);have b1:=lM.hd;have b2:=lM.tl.hd;simp only at b1 b2;have lY:=F2.sz;have DR:=H2.sz;have hz:=H.sz;have Aj:Row false w2 kb 3 .i64 f.k 3:=by
  rw[hf];refine⟨_,⟨(0,0),b2.2.2,λ_=>rfl⟩,rfl,by grind,λi hi=>?_,?_⟩
  .grind
  .exactλv hv=>by
    simp only[AL,BU,or_false]at hv;rcases hv with rfl|rfl|rfl<;>exact⟨_,_,rfl⟩
 have Hc:=H.comp H2;refine pG (pre:=[17]) (rest:=[18]) (Q:=λT3 w3=>∃v',T3=T2.setIfInBounds 53 v'/\FN w3 base v' (L++[(f,kb)])/\w2.heap.size<=w3.heap.size/\∀b,b<base->w3.heap[b]?=w2.heap[b]?) Hc (by kernel_rfl) (by simp) uS rfl rU (λτ=>?_) λE3 T3 Iy w3 CO Hf CY Dx ⟨v',q1,q2,q3,q4⟩ Qe=>?_
 .rw[wpOps_cons];obtain⟨v',w',r1,r2,r3,r4⟩:=(Es.kept (w':=w2.tp τ 0) λ_ _=>rfl).push (f:=f) (kb:=kb) (sb:=sb) (by show base<=w2.heap.size;omega) hn (by rw[hf];rfl) (by omega) (Aj.kept rfl) b1.2.2 28;refine Jnt rfl rfl rfl f0 f16 r1 ?_;refine⟨rfl,rfl,λi hi Nq=>?_,v',rfl,r2,r3.size,λb hb=>r3.block b (by show b<w2.heap.size;omega) λe=>?_⟩
  .have:=hl6 hi;exact AV (by omega)
  grind
 subst q1;have vE3:VR C0 (idE E3) v' v':=Dx.slot (i:=53) rfl (by grind);have l3:=Jt rfl CY;have Hd:=Hc.to0 Hf CO ((KE.of_eq (λb hb=>q4 b (fK b hb))).trans (l3.mono λb hb=>CO b (Hc.le b hb))) Qe (by rw[CY.lsz rfl];exact q3) Dx;have KI:∀p∈L++[(f,kb)],E3 p.2:=λp hp=>by
  rcases Gn.1 hp with hp|hp
  .exact CO _ (H2.le _ (Vq p hp))
  grind
 have hLd:=q2.keE l3 vE3 KI;refine Jb (o:=oJ) (v:=v') Hd rfl rfl rfl (λw1=>by simp[execOp,go_sem,oJ,lY];try rfl) (λw1=>by simp[execOp,go_sem,oJ,lY];try rfl) (.inr vE3) λw4 H4 h4=>?_;refine J6 (λw1=>stepG_region_end) rfl λd2=>?_;refine kn _ _ _ v' kb (H4.at d2) ?_ (hLd.kept (w':=w4.at d2) λb _=>by show w4.heap[b]?=_;rw[h4]) KI;obtain⟨f1,f2,f3,f4,f5⟩:=F2;refine⟨by grind,?_,?_,by simp[lY],?_⟩<;>(repeat rw[AV (by omega)])<;>assumption
end
section
variable{W E0 E:JB}{w0 w:JE}{T:JC}{la:JI}{rs:List Gi}{fs:List Jd}{n cap k:Nat}{v3:JJ}{kk:List Item}{cs:List Frame}{Post:(JB)->JF->JE->Prop}
def J02l{E:JB}{w:JE}{T:JC}(hR:qC w0 la rs)(hn:rs.length=n)(hW:∀a,la=some a->W a.block)(hT:∀a,la=some a->∀c z,w0.heap[a.block]?≠some (.cells c wgT z))(fK:∀b,E0 b->b<w0.heap.size){L:List (Jd × Nat)}(hk:k<n)(BX:k<200)(H:HS 13 W E0 w0 E T w)(F:F6 la n cap k v3 T)(hL:FN w w0.heap.size v3 L)(Ue:L.map (·.1)=(rs.take k).map Gi.fact)(Vq:∀p∈L,E p.2)
  (kn:∀E' T' w' v' L',HS 13 W E0 w0 E' T' w'->F6 la n cap (k+1) v' T'->FN w' w0.heap.size v' L'->L'.map (·.1)=(rs.take (k+1)).map Gi.fact->(∀p∈L',E' p.2)->Reach prog Post W (G ((Go.Conc.base 13).at ⟨T',[]⟩ kk) cs) w') :
  Reach prog Post W (G ((Go.Conc.base 13).at ⟨T,[]⟩ (.code (.seq (.block 1 (.seq (.region 5 (xF 0) false) (.seq (.region 6 (xF 1) false) (.seq (.region 7 (xF 2) false) (.region 8 MW true))))) (.region 4 dQ false))::kk)) cs) w:=by
 obtain⟨r,hr⟩:∃r,rs[k]?=some r:=⟨rs[k]'(by omega),DL _⟩;have EU:=hR.ok r (NR hr);obtain⟨b,o,Qa,hb,q0,q1,q2,q3,q4⟩:=hR.at_ k r hr;have Xm:=hW _ Qa;have hTb:=hT _ Qa;simp only at Xm hTb;have up:∀{w:JE},(∀b,W b->w.heap[b]?=w0.heap[b]?)->∀{i v},w0.cell? ⟨b,i,none⟩=some v->w.cell? ⟨b,i,none⟩=some v:=λh _ _ hc=>(Du (h b Xm)).trans hc;have zA:∀{w:JE},(∀b,W b->w.heap[b]?=w0.heap[b]?)->∀c z,w.heap[b]?≠some (.cells c wgT z):=λh c z=>by grind
 refine J6 (λw1=>stepG_seq) rfl λd1=>?_;refine J6 (λw1=>stepG_block) rfl λd2=>?_;refine J6 (λw1=>stepG_seq) rfl λd3=>?_;have H1:=((H.at d1).at d2).at d3;have Ig:FN (((w.at d1).at d2).at d3) w0.heap.size v3 L:=hL.kept λ_ _=>rfl;refine Joy (j:=0) (by omega) H1.start F Qa hk Xm (zA H1.kw) (up H1.kw q0) EU.a λE2 T2 w2 H2 F2 s5 z5 _=>?_;have VL:=H1.comp H2;have Es:=Ig.keE H2.ke (H1.tm.slot (i:=3) rfl F.s3) Vq;have FW:∀p∈L,E2 p.2:=λp hp=>H2.le _ (Vq p hp);refine J6 (λw1=>stepG_seq) rfl λd4=>?_;have VL:=VL.at d4;have Es:FN (w2.at d4) w0.heap.size v3 L:=Es.kept λ_ _=>rfl;refine Joy (j:=1) (by omega) VL.start F2 Qa hk Xm (zA VL.kw) (up VL.kw q1) EU.b λE3 T3 w3 H3 F3 s6 z6 _=>?_;have VN:=VL.comp H3;have Lp:=Es.keE H3.ke (VL.tm.slot (i:=3) rfl F2.s3) FW;have KI:∀p∈L,E3 p.2:=λp hp=>H3.le _ (FW p hp);refine J6 (λw1=>stepG_seq) rfl λd5=>?_;have VN:=VN.at d5;have Lp:FN (w3.at d5) w0.heap.size v3 L:=Lp.kept λ_ _=>rfl;refine Joy (j:=2) (by omega) VN.start F3 Qa hk Xm (zA VN.kw) (up VN.kw q2) EU.c λE4 T4 w4 H4 F4 s7 z7 _=>?_;have mM:=VN.comp H4;have SE:=Lp.keE H4.ke (VN.tm.slot (i:=3) rfl F3.s3) KI;have Xd:∀p∈L,E4 p.2:=λp hp=>H4.le _ (KI p hp);have t5:T4[5]?=some (JK (Jr r.a 4)):=(z7 5 (by omega) (by omega) (by omega)).trans ((z6 5 (by omega) (by omega) (by omega)).trans s5);have t6:T4[6]?=some (JK (Jr r.b 4)):=(z7 6 (by omega) (by omega) (by omega)).trans s6;have hlen:L.length=k:=by
  have:=congrArg List.length Ue
  grind
 subst Qa;refine Jrz (f:=r.fact) mM F4 t5 t6 s7 (by omega) Xm (zA mM.kw) (up mM.kw q3) (up mM.kw q4) SE Xd (Ad _) fK (by omega) rfl λE5 T5 w5 v' kb H5 F5 Ud wJ=>?_;refine J6 (λw1=>stepG_inBlock) rfl λd6=>?_;refine inc6 (H5.at d6) F5 (by omega) λT6 w6 H6 F6 h6=>?_;refine kn _ _ _ _ _ H6 F6 (Ud.kept λb _=>by rw[h6];rfl) ?_ wJ
 grind[List.take_add_one]
def Jld(hR:qC w0 la rs)(hn:rs.length=n)(hW:∀a,la=some a->W a.block)(hT:∀a,la=some a->∀c z,w0.heap[a.block]?≠some (.cells c wgT z))(fK:∀b,E0 b->b<w0.heap.size)
  (kn:∀E T w v3 L k,HS 13 W E0 w0 E T w->F6 la n cap k v3 T->FN w w0.heap.size v3 L->L.map (·.1)=(rs.take 200).map Gi.fact->Reach prog Post W (G ((Go.Conc.base 13).at ⟨T,[]⟩ kk) cs) w) :
  ∀(d k:Nat)(E:JB)(T:JC)(w:JE)(v3:JJ)(L:List (Jd × Nat)),min n 200-k=d->k<=min n 200->HS 13 W E0 w0 E T w->F6 la n cap k v3 T->FN w w0.heap.size v3 L->L.map (·.1)=(rs.take k).map Gi.fact->(∀p∈L,E p.2) ->
   Reach prog Post W (G ((Go.Conc.base 13).at ⟨T,[]⟩ (.code tV::.inLoop tV::.inBlock 0::kk)) cs) w:=by
 intro d
 induction d with
 |zero=>
  intro k E T w v3 L hd hk H F hL Ue Vq;have fin:∀T' w',HS 13 W E0 w0 E T' w'->F6 la n cap k v3 T'->T'[15]?=some (.bool false)->w'.heap=w.heap->Reach prog Post W (G ((Go.Conc.base 13).at ⟨T',[]⟩ (.code (.cond (.tmp 15) .skip (.exit 0))::.code (.seq (.block 1 (.seq (.region 5 (xF 0) false) (.seq (.region 6 (xF 1) false) (.seq (.region 7 (xF 2) false) (.region 8 MW true))))) (.region 4 dQ false))::.inLoop tV::.inBlock 0::kk)) cs) w':=λT' w' H' F' NG hh=>by
   refine J6 (λw1=>stepG_cond (t:=false) (by simp[Act.eval,Bq,NG])) rfl λd1=>?_;refine J6 (λw1=>stepG_exit (k':=kk) rfl) rfl λd2=>?_;refine kn _ _ _ v3 L k ((H'.at d1).at d2) F' (hL.kept λb _=>by show w'.heap[b]?=_;rw[hh]) ?_
   grind
  refine J6 (λw1=>stepG_seq) rfl λd1=>?_;refine J6 (λw1=>stepG_seq) rfl λd2=>?_;rcases BF k n with h|h
  .exact J02j ((H.at d1).at d2) F (by omega) (by omega) λT' w' a b c e=>fin T' w' a b c e
  .exact J02k ((H.at d1).at d2) F (by omega) λT' w' a b c e=>fin T' w' a b c e
 |succ d ih=>
  intro k E T w v3 L hd hk H F hL Ue Vq;refine J6 (λw1=>stepG_seq) rfl λd1=>?_;refine J6 (λw1=>stepG_seq) rfl λd2=>?_;refine J02i ((H.at d1).at d2) F (by omega) (by omega) λT' w' H' F' NG hh=>?_;refine J6 (λw1=>stepG_cond (t:=true) (by simp[Act.eval,Bq,NG])) rfl λd3=>?_;refine J6 (λw1=>stepG_skip) rfl λd4=>?_;refine J02l hR hn hW hT fK (by omega) (by omega) ((H'.at d3).at d4) F' (hL.kept λb _=>by show w'.heap[b]?=_;rw[hh];rfl) Ue Vq λE2 T2 w2 v' L' H2 F2 Es BM FW=>?_;refine J6 (λw1=>stepG_inLoop) rfl λd5=>?_;exact ih (k+1) E2 T2 (w2.at d5) v' L' (by omega) (by omega) (H2.at d5) F2 (Es.kept λ_ _=>rfl) BM FW
end
section
variable{W E:JB}{w:JE}{la:JI}{rs:List Gi}{fs:List Jd}{n cap:Nat}{b₀:Frame}{a₀:Act}{ops:Array Oper}{i:Nat}{rest:List Nat}{kk:List Item}{cs:List Frame}{Post:(JB)->JF->JE->Prop}
def Jle(hB:BOk C0 S0 W E w)(hR:qC w la rs)(hn:rs.length=n)(Zb:fs=(rs.take 200).map Gi.fact)(hW:∀a,la=some a->W a.block)(hT:∀a,la=some a->∀c z,w.heap[a.block]?≠some (.cells c wgT z))
  (kn:∀E' w' ga c2 pl,(∀b,E b->E' b)->BOk C0 S0 W E' w'->KE E w w'->G8 false w' ga fs c2 pl->(∀y∈pl,w.heap.size<=y)->VR C0 (idE E') (.slice ga fs.length c2) (.slice ga fs.length c2)->w.heap.size<=w'.heap.size->(∀b,W b->w'.heap[b]?=w.heap[b]?) ->
   Reach prog Post W (G (b₀.at (a₀.put ((ops[i]?).bind (·.dst)) (.slice ga fs.length c2)) (.inRegion ops rest::kk)) cs) w') :
  Reach prog Post W (G ((Go.Conc.base 13).at ⟨#[.slice la n cap]++Array.replicate 54 JA,[]⟩ [.code b6]) (b₀.at a₀ (.inRegion ops (i::rest)::kk)::cs)) w:=by
 obtain⟨T0,Lr⟩:∃T0,T0=#[.slice la n cap]++Array.replicate 54 JA:=⟨_,rfl⟩;rw[<- Lr];have sz:T0.size=55:=by grind
 have s0:T0[0]?=some (.slice la n cap):=by rw[Lr];simp
 have sn:∀j x,1<=j->T0[j]?=some x->x=JA:=λj x h1 hx=>by
  rw[Lr,Array.getElem?_append_right (by omega),Array.getElem?_replicate]at hx
  simp_all
 clear Lr;have ht:TmR C0 S0 13 (idE E) T0 T0:=by
  refine⟨rfl,λj x x' hj h1 h2=>?_,λj x hj _=>by cases hj⟩;rw[h1]at h2;cases h2;rcases Nat.eq_zero_or_pos j with rfl|h
  .cases hj
  .rw[sn j x h h1];exact .undef
 have H:HS 13 W E w E T0 w:=⟨hB,λ_ h=>h,.refl,λ_ _=>rfl,ht,rfl,Ad _⟩;refine J6 (λw1=>stepG_seq) rfl λd1=>?_;refine J6 (λw1=>stepG_region) rfl λd2=>?_;refine Jb (o:=pI) (v:=.slice none 0 0) ((H.at d1).at d2) rfl rfl rfl (λw1=>by simp[execOp,go_sem,pI];try rfl) (λw1=>by simp[execOp,go_sem,pI];try rfl) (.inr (.Jk _ _)) λw1 H1 h1=>?_;refine J6 (λw1=>stepG_region_end) rfl λd3=>?_;refine J6 (λw1=>stepG_seq) rfl λd4=>?_;refine J6 (λw1=>stepG_region) rfl λd5=>?_;refine Jb (o:=pK) (v:=.slice none 0 0) (((H1.at d3).at d4).at d5) rfl rfl rfl (λw1=>by simp[execOp,go_sem,pK];try rfl) (λw1=>by simp[execOp,go_sem,pK];try rfl) (.inr (.Jk _ _)) λw2 H2 h2=>?_;refine J6 (λw1=>stepG_region_end) rfl λd6=>?_;refine J6 (λw1=>stepG_seq) rfl λd7=>?_;refine J6 (λw1=>stepG_seq) rfl λd8=>?_;refine J6 (λw1=>stepG_region) rfl λd9=>?_;refine Jb (o:=pO) (v:=JK (0:Nat)) ((((H2.at d6).at d7).at d8).at d9) rfl rfl rfl (λw1=>by simp[execOp,go_sem,pO];try rfl) (λw1=>by simp[execOp,go_sem,pO];try rfl) (.inr (.int _ _)) λw3 H3 h3=>?_;refine J6 (λw1=>stepG_region_end) rfl λd10=>?_;refine J6 (λw1=>stepG_block) rfl λd11=>?_;refine J6 (λw1=>stepG_loop) rfl λd12=>?_;refine Jld (cap:=cap) (Post:=Post) hR hn hW hT (λb hb=>hB.lt hb) (λE4 T4 w4 v3 L k H4 F4 SE Ue=>?_) _ 0 E _ _ (.slice none 0 0) [] rfl (by omega) (((H3.at d10).at d11).at d12) ⟨by grind,?_,?_,?_,?_⟩ (.nil _ _) rfl λp hp=>by cases hp
 .have sz4:=F4.sz;have s3:=F4.s3;have zB:VR C0 (idE E4) v3 v3:=H4.tm.slot (i:=3) rfl s3;refine J6 (λw1=>stepG_seq) rfl λe1=>?_;refine J6 (λw1=>stepG_region) rfl λe2=>?_;rw[show List.range Jwe.size=[0,1]from rfl];refine Jb (o:=rP) (v:=v3) ((H4.at e1).at e2) rfl rfl rfl (λw1=>by simp[execOp,go_sem,rP,s3];try rfl) (λw1=>by simp[execOp,go_sem,rP,s3];try rfl) (.inr zB) λw5 H5 h5=>?_;refine Jb (o:=rQ) (v:=v3) H5 rfl rfl rfl (λw1=>by simp[execOp,go_sem,rQ,sz4];try rfl) (λw1=>by simp[execOp,go_sem,rQ,sz4];try rfl) (.inr zB) λw6 H6 h6=>?_;refine J6 (λw1=>stepG_region_end) rfl λe3=>?_;refine J6 (λw1=>stepG_ret') rfl λe4=>?_;refine Reach.leave1 (B:=Go.Conc.base 13) rfl rfl (fn:=f13) (by kernel_rfl) (x:=2) (by kernel_rfl) λe5=>?_;have H7:=((H6.at e3).at e4).at e5;have hL7:FN (((w6.at e3).at e4).at e5) w.heap.size v3 L:=SE.kept λb _=>by show w6.heap[b]?=_;rw[h6,h5];rfl
  obtain⟨ga,c2,pl,rfl,hfa,D8⟩:=hL7.at;have hlf:L.length=fs.length:=by grind
  rw[Ue,<- Zb]at hfa;rw[hlf]at zB;have e2:(Act.mk ((T4.setIfInBounds 54 (Value.slice ga fs.length c2)).setIfInBounds 2 (Value.slice ga fs.length c2)) []).tmps.getD 2 JA=.slice ga fs.length c2:=by simp[*]
  rw[hlf,e2];exact kn E4 _ ga c2 pl H7.le H7.bok H7.ke hfa D8 zB H7.sz H7.kw
 .grind
 all_goals grind
end
structure O3(c:J7)(hs:Int->Int)(fs:List Jd)(S:List TR):Prop where
 nd:(S.map (·.k)).Nodup
 all:∀k,tm S k=FP c Dc (sel hs 7 k fs)
 n3:∀f∈fs,f.k.length=3
 n:fs.length<=400
def O3.len{c:J7}{hs:Int->Int}{fs:List Jd}{S:List TR}(h:O3 c hs fs S):S.length<=400:=by
 have h1:=aJ h.nd (U:=fs.map λf=>Jf 7 (BI f.k) 5) λx hx=>by
  obtain⟨t,ht,rfl⟩:=AZ.1 hx;obtain⟨_,f,hf,e⟩:=nZ h.nd h.all ht
  grind
 simp only[FQ]at h1;have:=h.n;omega
def O3.hin{c:J7}{hs:Int->Int}{fs:List Jd}{S:List TR}(h:O3 c hs fs S):∀t∈S,HIn 400 t.B:=by intro t ht x hx;obtain⟨e,_⟩:=nZ h.nd h.all ht;rw[e]at hx;have h1:=Jof hs 7 t.k fs;have h2:=h.n;have:=J02b (by omega) x hx;omega
def O3.sum{c:J7}{hs:Int->Int}{fs:List Jd}{S T:List TR}{m:Nat}(h:O3 c hs fs S)(hc:CZ c)(BL:c.nb=4)(hh:∀y,0<=hs y/\hs y<=18446744073709551615)(hT:Sum c (tm T) (Gg S m (λ_=>true))):∀k,tm T k=FP c Dc (sel hs m k fs):=
 Jyx hc (by rw[BL];rfl) aK hh h.n3 h.nd h.all hT
def O3.one{c:J7}{hs:Int->Int}{fs:List Jd}{T:List TR}(h3:∀f∈fs,f.k.length=3)(hn:(T.map (·.k)).Nodup)(hT:∀k,tm T k=FP c Dc (sel hs 0 k fs)):T.length<=1/\(fs≠[]->T.length=1)/\∀t∈T,t.k=[0,0,0,0,0]:=by
 have hk:∀t∈T,t.k=[0,0,0,0,0]:=λt ht=>by
  obtain⟨_,f,hf,e⟩:=nZ hn hT ht
  grind[Jru,mW]
 have h1:=aJ hn (U:=[[0,0,0,0,0]]) λx hx=>by
  grind
 simp only[FQ,Lh,List.length_nil]at h1;refine⟨h1,λAp=>?_,hk⟩;obtain⟨f,hf⟩:=List.exists_mem_of_ne_nil _ Ap;obtain⟨t,ht,_⟩:=Jyy hT hf
 grind
inductive I8(w:JE):JJ->(Int->Int)->Prop
 |one:I8 w h49 (λy=>IntKind.u64.wrap y)
 |two{b:Nat}{s:Int}(h:w.heap[b]?=some (.cells #[.int .i64 s] 3)):I8 w (.func (.func 95) #[] #[pt b]) (YM s)
 |mix{b:Nat}{s:Int}(h:w.heap[b]?=some (.cells #[.int .i64 s] 3)):I8 w (.func (.func 167) #[] #[pt b]) (TV s)
section
variable{w:JE}{h:JJ}{hs:Int->Int}
def I8.bd(q:I8 w h hs)(y:Int):0<=hs y/\hs y<=18446744073709551615:=by
 cases q with
 |one=>exact Jkc y
 |two _=>exact Jkc _
 |mix _=>exact Jz3 _ y
def Sv:JJ->Option Nat
 |.func _ _ a=>(match(a[0]?:Option JJ)with
  |some (.pointer (some p))=>some p.block
  |_=>none)
 |_=>none
def I8.kept(q:I8 w h hs){w':JE}(hk:∀b s,Sv h=some b->w.heap[b]?=some (.cells #[JK s] 3)->w'.heap[b]?=some (.cells #[JK s] 3)):I8 w' h hs:=by
 cases q with
 |one=>exact .one
 |two h=>exact .two (hk _ _ rfl h)
 |mix h=>exact .mix (hk _ _ rfl h)
def I8.calls(q:I8 w h hs){x:Nat}{c:J7}{seed nf:Int}{vm base:Nat}(qc:DU w x c seed h nf vm base)(item at_:Int) :
  Calls prog 39 #[JL x,JK item,JK at_] w λe w'=>e=.returned (.tuple #[.int .u64 (hs item),.nilIface])/\Tch w.heap.size M0 w w':=by
 cases q with
 |one=>grind[Jpx]
 |two h=>grind[Jlb]
 |mix h=>grind[Jlc]
end
def Jz1(w:JE)(c:J7)(seed:Int)(bs:JD)(hs:Int->Int)(e:Ending)(w':JE):Prop:=∃h,NewAt w c seed h bs e w'/\I8 w' h hs/\∀b,Sv h=some b->w.heap.size<=b
def hsK(k n seed:Int):Int->Int:=if k=0 then TV seed else if k=1 thenλy=>IntKind.u64.wrap y else YM n
section
variable{w:JE}{c:J7}{seed:Int}
def Jv8{fr:Bool}{bb cap:Nat}{bs:JD}(hc:CZ c)(hr:Row fr w bb 3 .i64 bs cap)(Dh:c.ba=some ⟨bb,0,none⟩)(BL:c.nb=bs.length)(hp:bs.Pairwise (· < ·))(k n:Int)(hk:0<=k/\k<3) :
  Calls prog 29 #[.agg (EI c 3 seed),JK k,JK n] w (Jz1 w c seed bs (hsK k n seed)):=by
 obtain rfl|rfl|rfl:k=0\/k=1\/k=2:=by omega
 .refine(Jv7 hc hr Dh BL hp n).mono λe w' ⟨hb,h1,h2,h3⟩=>⟨_,h1,.mix h3,λb e=>?_⟩;cases e;exact h2
 .exact(Jt5 hc hr Dh BL hp n).mono λe w' h1=>⟨_,h1,.one,λb e=>by cases e⟩
 .refine(Jv6 hc hr Dh BL hp n).mono λe w' ⟨hb,h1,h2,h3⟩=>⟨_,h1,.two h3,λb e=>?_⟩;cases e;exact h2
end
def Joj{c:Int}(hc:I64 c)(w:JE):Calls prog 26 #[JK c] w λe w'=>e=.returned (JK (Jr c 3))/\w'=w:=by
 have hp:=Yo (n:=3) hc (by omega) (by omega) w
 go_enter func26,ntmps26
 go_wp2_with (go_at_call 18;refine hp.mono ?_;rintro e w1 ⟨rfl,rfl⟩)
 go_ret
 simp_all
def Hg(f:Nat->JJ):((List.range 70).map f).toArray=#[f 0,f 1,f 2,f 3,f 4,f 5,f 6,f 7,f 8,f 9,f 10,f 11,f 12,f 13,f 14,f 15,f 16,f 17,f 18,f 19,f 20,f 21,f 22,f 23,f 24,f 25,f 26,f 27,f 28,f 29,f 30,f 31,f 32,f 33,f 34,f 35,f 36,f 37,f 38,f 39,f 40,f 41,f 42,f 43,f 44,f 45,f 46,f 47,f 48,f 49,f 50,f 51,f 52,f 53,f 54,f 55,f 56,f 57,f 58,f 59,f 60,f 61,f 62,f 63,f 64,f 65,f 66,f 67,f 68,f 69]:=by rfl
def Si{T:JC}(h:T.size=70):∃f:Nat->JJ,T=((List.range 70).map f).toArray:=⟨_,dM h⟩
def b7:Code:=f14.body.getD .skip
def uT:Code:=fC b7
def uU:Code:=fC (sC b7)
def uV:Code:=fC (sC (sC b7))
def uX:Code:=fC (sC (sC (sC b7)))
def uY:Code:=fC (sC (sC (sC (sC b7))))
def uZ:Code:=fC (sC (sC (sC (sC (sC b7)))))
def vC:Code:=fC (sC (sC (sC (sC (sC (sC b7))))))
def ops7:Array Oper:=opsOf (fC (sC (sC (sC (sC (sC (sC (sC b7))))))))
def UM:Code:=sC (sC (sC (sC (sC (sC (sC (sC b7)))))))
def J05b:b7=.seq uT (.seq uU (.seq uV (.seq uX (.seq uY (.seq uZ (.seq vC (.seq (.region 9 ops7 false) UM))))))):=by kernel_rfl
def body7:f14.body=some b7:=by kernel_rfl
section
variable{w:JE}{T:JC}{d:Deferred}{c:Int}{sl:JJ}{ga:JI}{cb x c2:Nat}
def Jv9(Ag:T.size=70)(h0:T[0]?=some (JK c))(h1:T[1]?=some sl) :
  uT.wp prog (λe a w'=>e=.normal/\a.defers=[d]/\a.tmps.size=70/\a.tmps[0]?=some (JK c)/\a.tmps[1]?=some sl/\w'.heap=w.heap) ⟨T,[d]⟩ w:=by
 obtain⟨f,rfl⟩:=Si Ag;rw[Hg]at *;have e0:f 0=_:=Aa h0;have e1:f 1=_:=Aa h1;rw[e0,e1];simp only[uT,b7,fC,f14,A8];go_wp2
def Jva(hc:I64 c)(Ag:T.size=70)(h0:T[0]?=some (JK c))(h1:T[1]?=some sl) :
  uU.wp prog (λe a w'=>e=.normal/\a.defers=[d]/\a.tmps.size=70/\a.tmps[0]?=some (JK c)/\a.tmps[1]?=some sl/\a.tmps[5]?=some (pt (w.heap.size+2))/\Blk false w' (w.heap.size+2) (EI (TU c (w.heap.size+1)) 3 c) 47/\Row false w' (w.heap.size+1) 3 .i64 Dc 4/\Tch w.heap.size M0 w w') ⟨T,[d]⟩ w:=by
 obtain⟨f,rfl⟩:=Si Ag;rw[Hg]at *;have e0:f 0=_:=Aa h0;have e1:f 1=_:=Aa h1;rw[e0,e1];have hcf:=J9e hc w;simp only[uU,b7,fC,sC,f14,A8]
 go_wp2_with (go_at_call 19;refine hcf.mono ?_;rintro e w1 ⟨rfl,rfl⟩)
 obtain⟨W1,AP⟩:∃W1,w.alloc (.cells #[JK 3,JK (4+Jr c 1048576 % 3),JK (1+Jr c 1048576 / 3 % 8),.slice (some ⟨w.heap.size+1,0,none⟩) 4 4,JK c] 47)=W1:=⟨_,rfl⟩;have z1:W1.heap.size=w.heap.size+1:=by rw[<- AP,size_alloc]
 obtain⟨W2,Dv⟩:∃W2,W1.alloc (.cells #[JK (-5),JK 0,JK 10,JK 1000] 3)=W2:=⟨_,rfl⟩;have z2:W2.heap.size=w.heap.size+2:=by grind[size_alloc]
 have hr:=Ja (w:=W1) (.cells #[JK (-5),JK 0,JK 10,JK 1000] 3);rw[Dv,z1]at hr;simp only[AP,Dv];refine⟨⟨(0,0),by have:=Ja (w:=W2) (.cells (EI (TU c (w.heap.size+1)) 3 c) 47);rw[z2]at this;exact this,λ_=>rfl⟩,⟨#[JK (-5),JK 0,JK 10,JK 1000],⟨(0,0),(J8 _ (by omega)).trans hr,λ_=>rfl⟩,rfl,by decide,λi hi=>?_,λv hv=>?_⟩,?_⟩
 .match i,(show i<4 from hi)with
  |0,_|1,_|2,_|3,_=>rfl
 .simp only[AL,BU,or_false]at hv;rcases hv with rfl|rfl|rfl|rfl<;>exact⟨_,_,rfl⟩
 .rw[<- Dv,<- AP];exact((Tch.refl.alloc (Ad _) _).alloc (by grind) _).alloc (by grind) _
def Jvb(hc:I64 c)(Ag:T.size=70)(h0:T[0]?=some (JK c))(h1:T[1]?=some sl)(h5:T[5]?=some (pt cb)) :
  uV.wp prog (λe a w'=>e=.normal/\a.defers=[d]/\a.tmps.size=70/\a.tmps[0]?=some (JK c)/\a.tmps[1]?=some sl/\a.tmps[5]?=some (pt cb)/\a.tmps[6]?=some (JK (Jr c 3))/\w'.heap=w.heap) ⟨T,[d]⟩ w:=by
 obtain⟨f,rfl⟩:=Si Ag;rw[Hg]at *;have e0:f 0=_:=Aa h0;have e1:f 1=_:=Aa h1;have e5:f 5=_:=Aa h5;rw[e0,e1,e5];have hk:=Joj hc w;simp only[uV,b7,fC,sC,f14,A8]
 go_wp2_with (go_at_call 26;refine hk.mono ?_;rintro e w1 ⟨rfl,rfl⟩)
def Jvc{fr:Bool}{cf:J7}{bb capb:Nat}{bs:JD}{seed k:Int}(hk:0<=k/\k<3)(hc:CZ cf)(hr:Row fr w bb 3 .i64 bs capb)(Dh:cf.ba=some ⟨bb,0,none⟩)(BL:cf.nb=bs.length)(hp:bs.Pairwise (· < ·))(hb:Blk false w cb (EI cf 3 seed) 47)(Ag:T.size=70)(h0:T[0]?=some (JK c))(h1:T[1]?=some sl)(h5:T[5]?=some (pt cb))(h6:T[6]?=some (JK k)) :
  uX.wp prog (λe a w'=>e=.normal/\a.defers=[d]/\a.tmps.size=70/\a.tmps[1]?=some sl/\∃x,a.tmps[7]?=some (pt x)/\a.tmps[8]?=some .nilIface/\Jz1 w cf seed bs (hsK k c seed) (.returned (.tuple #[pt x,.nilIface])) w') ⟨T,[d]⟩ w:=by
 obtain⟨f,rfl⟩:=Si Ag;rw[Hg]at *;have e0:f 0=_:=Aa h0;have e1:f 1=_:=Aa h1;have e5:f 5=_:=Aa h5;have e6:f 6=_:=Aa h6;rw[e0,e1,e5,e6];have hn:=Jv8 (seed:=seed) hc hr Dh BL hp k c hk;obtain⟨q0,q1,q2,q3,q4⟩:=Blk.five hb;unfold EI at hn;clear Dh BL hr hp hc hb;simp only[uX,b7,fC,sC,f14,A8]
 go_wp2_with (go_at_call 29;refine hn.mono ?_;rintro e w1 hN;have YT:=hN;obtain⟨h,⟨⟨x,vm,base,b2,c2,rfl,_⟩,_⟩,_⟩:=hN)
def Jvd(Ag:T.size=70)(h1:T[1]?=some sl)(h7:T[7]?=some (pt x))(h8:T[8]?=some .nilIface) :
  uY.wp prog (λe a w'=>e=.normal/\a.defers=[d]/\a.tmps.size=70/\a.tmps[1]?=some sl/\a.tmps[7]?=some (pt x)/\w'.heap=w.heap) ⟨T,[d]⟩ w:=by
 obtain⟨f,rfl⟩:=Si Ag;rw[Hg]at *;have e1:f 1=_:=Aa h1;have e7:f 7=_:=Aa h7;have e8:f 8=_:=Aa h8;rw[e1,e7,e8];simp only[uY,b7,fC,sC,f14,A8];go_wp2
def Jve{fs:List Jd}{R:JE->Prop}(hI:Calls prog 22 #[pt x,.slice ga fs.length c2] w λe w'=>e=.returned .nilIface/\R w')(Ag:T.size=70)(h1:T[1]?=some (.slice ga fs.length c2))(h7:T[7]?=some (pt x)) :
  uZ.wp prog (λe a w'=>e=.normal/\a.defers=[d]/\a.tmps.size=70/\a.tmps[1]?=some (.slice ga fs.length c2)/\a.tmps[7]?=some (pt x)/\a.tmps[8]?=some .nilIface/\R w') ⟨T,[d]⟩ w:=by
 obtain⟨f,rfl⟩:=Si Ag;rw[Hg]at *;have e1:f 1=_:=Aa h1;have e7:f 7=_:=Aa h7;rw[e1,e7];simp only[uZ,b7,fC,sC,f14,A8]
 go_wp2_with (go_at_call 22;refine hI.mono ?_;rintro e w1 ⟨rfl,hR⟩)
 exact hR
def Jvf(Ag:T.size=70)(h1:T[1]?=some sl)(h7:T[7]?=some (pt x))(h8:T[8]?=some .nilIface) :
  vC.wp prog (λe a w'=>e=.normal/\a.defers=[d]/\a.tmps.size=70/\a.tmps[1]?=some sl/\a.tmps[7]?=some (pt x)/\w'.heap=w.heap) ⟨T,[d]⟩ w:=by
 obtain⟨f,rfl⟩:=Si Ag;rw[Hg]at *;have e1:f 1=_:=Aa h1;have e7:f 7=_:=Aa h7;have e8:f 8=_:=Aa h8;rw[e1,e7,e8];simp only[vC,b7,fC,sC,f14,A8];go_wp2
end
section
variable{w:JE}{T:JC}{d:Deferred}{ga:JI}{n c2 x g vc:Nat}{va:JI}{sl v:JJ}
def Js0(Ag:T.size=70)(h1:T[1]?=some (.slice ga 0 c2))(h7:T[7]?=some (pt x))(h9:T[9]?=some (.slice va 0 vc))(Ce:T[10]?=some .nilIface) :
  UM.wp prog (λe a w'=>e=.ret/\a.defers=[d]/\a.tmps.size=70/\a.tmps[4]?=some (pt x)/\w'.heap=w.heap) ⟨T,[d]⟩ w:=by
 obtain⟨f,rfl⟩:=Si Ag;rw[Hg]at *;have e1:f 1=_:=Aa h1;have e7:f 7=_:=Aa h7;have e9:f 9=_:=Aa h9;have MZ:f 10=_:=Aa Ce;rw[e1,e7,e9,MZ];simp only[UM,b7,sC,f14,A8];go_wp2
def Jvg(hn:0<n)(hc:w.cell? ⟨g,1,none⟩=some (JK n))(Ag:T.size=70)(h1:T[1]?=some (.slice ga n c2))(h7:T[7]?=some (pt x))(h9:T[9]?=some (JM g 1 vc))(Ce:T[10]?=some .nilIface) :
  UM.wp prog (λe a w'=>e=.ret/\a.defers=[d]/\a.tmps.size=70/\a.tmps[4]?=some (pt x)/\w'.heap=w.heap) ⟨T,[d]⟩ w:=by
 obtain⟨f,rfl⟩:=Si Ag;rw[Hg]at *;have e1:f 1=_:=Aa h1;have e7:f 7=_:=Aa h7;have e9:f 9=_:=Aa h9;have MZ:f 10=_:=Aa Ce;rw[e1,e7,e9,MZ];have X9:(0:Int)<n:=by omega
 have Ij:¬(n:Int)=0:=by omega
 simp only[UM,b7,sC,f14,A8];go_wp2
end
def J05c:Ji C0 S0 14 uT=true:=by kernel_rfl
def J05d:Ji C0 S0 14 uU=true:=by kernel_rfl
def J05e:Ji C0 S0 14 uV=true:=by kernel_rfl
def J05f:Ji C0 S0 14 uX=true:=by kernel_rfl
def J05g:Ji C0 S0 14 uY=true:=by kernel_rfl
def J05h:Ji C0 S0 14 uZ=true:=by kernel_rfl
def J05i:Ji C0 S0 14 vC=true:=by kernel_rfl
def J05j:Ji C0 S0 14 UM=true:=by kernel_rfl
def Vg:GY C0 14:=⟨f14,by kernel_rfl,by kernel_rfl,by kernel_rfl⟩
def df7:S0.df.contains 14=false:=rfl
def UH:C0.hl 14≠[]:=by show[1000]≠[];simp
def hl7{i:Nat}(h:(C0.hl 14).contains i=true):i∈([]:List Nat)\/500<=i:=by
 have h':i∈[1000]:=Lj.1 h
 grind
def vF{i:Nat}(h:i<500):(C0.hl 14).contains i=false:=by
 cases e:(C0.hl 14).contains i with
 |false=>rfl
 |true=>
  rcases hl7 e with h1|h1
  all_goals grind
section
variable{W E:JB}{w:JE}{fn:JG}{c rest:Code}{t:JC}{k:List Item}{cs:List Frame}{Q:JC->JE->Prop}{Post:(JB)->JF->JE->Prop}
def Ql(Sl:List Nat)(hl:∀i,(C0.hl fn).contains i=true->i∈Sl\/500<=i)(Ap:C0.hl fn≠[])(hok:Ji C0 S0 fn c=true)(hb:GY C0 fn)(Nk:S0.df.contains fn=false)(hB:BOk C0 S0 W E w)(ht:TmR C0 S0 fn (idE E) t t)(Ag:t.size<=500)
  (K:∀τ,c.wp prog (λe a w1=>e=.normal/\a.tmps.size<=500/\(∀i∈Sl,a.tmps[i]?=t[i]?)/\Q a.tmps w1) ⟨t,[Jq]⟩ (w.tp τ 0))
  (kn:∀E' t' w1 w',(∀b,E b->E' b)->BOk C0 S0 W E' w'->WR C0 (okP C0 S0) (idE E') w1 w'->TmR C0 S0 fn (idE E') t' t'->Q t' w1->(∀b,W b->w'.heap[b]?=w.heap[b]?)->Reach prog Post W (G ((Go.Conc.base fn).at ⟨t',[]⟩ (.code rest::k)) cs) w') :
  Reach prog Post W (G ((Go.Conc.base fn).at ⟨t,[]⟩ (.code (.seq c rest)::k)) cs) w:=by
 refine Reach.mid (Mid:=λg' w'=>∃E' t' w1,g'=G ((Go.Conc.base fn).at ⟨t',[]⟩ (.code rest::k)) cs/\(∀b,E b->E' b)/\BOk C0 S0 W E' w'/\WR C0 (okP C0 S0) (idE E') w1 w'/\TmR C0 S0 fn (idE E') t' t'/\Q t' w1) ?_ λg' w' ⟨E',t',w1,e,h1,h2,h3,h4,h5⟩ hK=>?_
 .refine J6 (λw1=>stepG_seq) rfl λd=>?_;refine Reach.piece (b:=Go.Conc.base fn) (k:=.code rest::k) KY rfl hok hb Nk Ap (by simp[Go.Conc.base]) (hB.at d) ht (Q:=λe t w1=>e=.normal/\Q t w1) (λτ=>?_) (λE1 t1 w1 Am AQ CV AP Az DN=>Reach.here ⟨rfl,E1,t1,w1,rfl,AQ,CV,AP,Az,DN.2⟩) (λE1 t1 w1 Am todo AQ CV AP Az DN=>by cases DN.1);refine wp_mono (K τ) λe a w1 ⟨h1,h2,h0,h3⟩=>⟨.inl h1,λi hi=>?_,h1,h3⟩;rcases hl i hi with h|h
  all_goals grind
 grind
end
def mvP(o:Oper):Option (Nat × Operand):=match o.guard,o.dst,o.op with
 |none,some d,.move x=>some (d,x)
 |none,some d,.assign x=>some (d,x)
 |_,_,_=>none
def aG(o:Oper):Option (Nat × JG × Array Operand):=match o.guard,o.dst,o.op with
 |none,some d,.call { callee:=.value (.func f),args:=a,.. }=>some (d,f,a)
 |_,_,_=>none
def mvT(T:JC)(l:List (Nat × Operand)):JC:=l.foldl (λT p=>T.setIfInBounds p.1 (Act.eval ⟨T,[]⟩ p.2)) T
def gX(fn:JG)(p:Nat × Operand):Bool:=(C0.hl fn).contains p.1 || match p.2 with
 |.tmp s=>!(C0.hl fn).contains s
 |.const (.int _ _) | .const .nilIface | .const (.slice none _ _) | .const (.bool _)=>true
 |_=>false
section
variable{fn:JG}{W E0 E:JB}{w0 w:JE}{T:JC}{ops:Array Oper}{i:Nat}{rest:List Nat}{o:Oper}{d:Nat}{x:Operand}{v:JJ}{k:List Item}{cs:List Frame}{Post:(JB)->JF->JE->Prop}
def J0e7(h:mvP o=some (d,x)):o.guard=none/\o.dst=some d/\(o.op=.move x\/o.op=.assign x):=by
 unfold mvP at h
 grind
def vI{f:JG}{a:Array Operand}(h:aG o=some (d,f,a)):o.guard=none/\o.dst=some d/\∃t,o.op=.call { callee:=.value (.func f),args:=a,argTypes:=t }:=by
 unfold aG at h
 grind
def J0f5(h:HS fn W E0 w0 E T w)(hk:gX fn (d,x)=true):(C0.hl fn).contains d=true\/VR C0 (idE E) (Act.eval ⟨T,[]⟩ x) (Act.eval ⟨T,[]⟩ x):=by
 unfold gX at hk;rw[Bool.or_eq_true]at hk;rcases hk with hk|hk
 .exact .inl hk
 right;split at hk
 .next s e=>
  obtain rfl:x=_:=e;simp only[Act.eval,Bq];cases hs:T[s]? with
  |none=>exact .undef
  |some v=>exact h.tm.slot (by simpa using hk) hs
 .next e=>obtain rfl:x=_:=e;exact .int _ _
 .next e=>obtain rfl:x=_:=e;exact .nilIface
 .next e=>obtain rfl:x=_:=e;exact .Jk _ _
 .next e=>obtain rfl:x=_:=e;exact .bool _
 .cases hk
def Y5:∀{l:List (Nat × Operand)}{T:JC}{w:JE}{i:Nat},HS fn W E0 w0 E T w->((List.range' i l.length).map λj=>(ops[j]?).bind mvP)=l.map some->l.all (gX fn)=true ->
  (∀w',HS fn W E0 w0 E (mvT T l) w'->w'.heap=w.heap->Reach prog Post W (G ((base fn).at ⟨mvT T l,[]⟩ (.inRegion ops rest::k)) cs) w') ->
  Reach prog Post W (G ((base fn).at ⟨T,[]⟩ (.inRegion ops (List.range' i l.length++rest)::k)) cs) w
 |[],T,w,i,h,_,_,kn=>kn w h rfl
 |(d,x)::l,T,w,i,h,hm,hk,kn=>by
  simp only[Lh,List.range'_succ,D5,List.cons.injEq]at hm;rw[List.all_cons,Bh]at hk;obtain⟨o,ho,hp⟩:=Gl.1 hm.1;obtain⟨h1,h2,h3⟩:=J0e7 hp;simp only[Lh,List.range'_succ,G9];refine Jb (v:=Act.eval ⟨T,[]⟩ x) h ho (by simp[Region.wanted,h1]) h2 (λw1=>?_) (λw1=>?_) (J0f5 h hk.1) λw' H e=>Y5 H hm.2 hk.2 λw2 H2 e2=>kn w2 H2 (e2.trans e)
  .rcases h3 with e|e<;>simp[execOp,e]
  .rcases h3 with e|e<;>simp[execOp,e]
def qQ:∀{l:List (Nat × Operand)}{T:JC},(mvT T l).size=T.size
 |[],_=>rfl
 |(d,x)::l,T=>by show(mvT (T.setIfInBounds d _) l).size=_;rw[qQ,Array.size_setIfInBounds]
def qX:∀{l:List (Nat × Operand)}{T:JC}{i:Nat},i∉l.map (·.1)->(mvT T l)[i]?=T[i]?
 |[],_,_,_=>rfl
 |(d,x)::l,T,i,h=>by simp only[D5,AL,not_or]at h;show(mvT (T.setIfInBounds d _) l)[i]?=_;rw[qX h.2,AV (Ne.symm h.1)]
def jS{id m:Nat}{l:List (Nat × Operand)}{f:JG}{ags:Array Operand}{g:Func}{cb c:Code}(h:HS fn W E0 w0 E T w)(hl:l.length=m)
  (hm:((List.range' 0 m).map λj=>(ops[j]?).bind mvP)=l.map some) (hk:l.all (gX fn)=true) (hc:(ops[m]?).bind aG=some (d,f,ags)) (hr:(List.range ops.size)=List.range' 0 m++m::rest)
  (hf:prog.funcs[f]?=some g) (hn:(g.name == "runtime.NumGoroutine")=false) (hb:g.body=some cb)
  (kn:∀w',HS fn W E0 w0 E (mvT T l) w'->w'.heap=w.heap->(mvT T l).size=T.size->(∀i,i∉l.map (·.1)->(mvT T l)[i]?=T[i]?) ->
   Reach prog Post W (G ((base f).at { tmps:=ags.map (Act.eval ⟨mvT T l,[]⟩)++Array.replicate (g.ntmps-(ags.map (Act.eval ⟨mvT T l,[]⟩)).size) JA,defers:=[] } [.code cb]) ((base fn).at ⟨mvT T l,[]⟩ (.inRegion ops (m::rest)::.code c::k)::cs)) w') :
  Reach prog Post W (G ((base fn).at ⟨T,[]⟩ (.code (.seq (.region id ops false) c)::k)) cs) w:=by
 refine J6 (λw1=>stepG_seq) rfl λd1=>?_;refine J6 (λw1=>stepG_region) rfl λd2=>?_;rw[hr];subst hl;obtain⟨o,ho,hp⟩:=Gl.1 hc;obtain⟨h1,h2,t,h3⟩:=vI hp;refine Y5 ((h.at d1).at d2) hm hk λw' H e=>?_;exact Reach.call ho (by simp[Region.wanted,h1]) (by simp[base]) h3 hf hn hb λd3=>kn _ (H.at d3) e qQ λi hi=>qX hi
def J0ah{m:Nat}{l2:List (Nat × Operand)}{c:Code}(h:HS fn W E0 w0 E T w)(hv:(C0.hl fn).contains d=true\/VR C0 (idE E) v v)
  (hm:((List.range' m l2.length).map λj=>(ops[j]?).bind mvP)=l2.map some) (hk:l2.all (gX fn)=true)
  (kn:∀w',HS fn W E0 w0 E (mvT (T.setIfInBounds d v) l2) w'->w'.heap=w.heap->Reach prog Post W (G ((base fn).at ⟨mvT (T.setIfInBounds d v) l2,[]⟩ (.code c::k)) cs) w') :
  Reach prog Post W (G ((base fn).at ⟨T.setIfInBounds d v,[]⟩ (.inRegion ops (List.range' m l2.length)::.code c::k)) cs) w:=by
 rw[<- List.append_nil (List.range' m l2.length)];exact Y5 (h.put (h.set hv)) hm hk λw' H e=>J6 (λw1=>stepG_region_end) rfl λd=>kn _ (H.at d) e
end
def exP(o:Oper):Option (Nat × Nat × Nat):=match o.guard,o.dst,o.op with
 |none,some d,.extract (.tmp s) i=>some (d,s,i)
 |_,_,_=>none
def J096{o:Oper}{d s i:Nat}(h:exP o=some (d,s,i)):o.guard=none/\o.dst=some d/\o.op=.extract (.tmp s) i:=by unfold exP at h;split at h<;>simp_all
section
variable{fn:JG}{W E0 E:JB}{w0 w:JE}{T:JC}{ops:Array Oper}{i sR sT sA sB sX sY:Nat}{v u:JJ}{c:Code}{k:List Item}{cs:List Frame}{Post:(JB)->JF->JE->Prop}
def J0b0(h:HS fn W E0 w0 E T w)(hT:T[sR]?=some (.tuple #[v,u]))(hv:VR C0 (idE E) v v)(hu:VR C0 (idE E) u u)(hd:sT<T.size/\sA<T.size/\sB<T.size/\sX<T.size/\sY<T.size)(hn:sA≠sT/\sB≠sA/\sX≠sB/\sY≠sX)(hh:(C0.hl fn).contains sR=false/\(C0.hl fn).contains sA=false/\(C0.hl fn).contains sB=false)
  (hp:((ops[i]?).bind mvP,(ops[i+1]?).bind exP,(ops[i+2]?).bind exP,(ops[i+3]?).bind mvP,(ops[i+4]?).bind mvP)=(some (sT,.tmp sR),some (sA,sT,0),some (sB,sT,1),some (sX,.tmp sA),some (sY,.tmp sB)))
  (kn:∀T' w',HS fn W E0 w0 E T' w'->T'.size=T.size->T'[sX]?=some v->T'[sY]?=some u->(∀j,j≠sT->j≠sA->j≠sB->j≠sX->j≠sY->T'[j]?=T[j]?)->w'.heap=w.heap->Reach prog Post W (G ((base fn).at ⟨T',[]⟩ (.code c::k)) cs) w') :
  Reach prog Post W (G ((base fn).at ⟨T,[]⟩ (.inRegion ops [i,i+1,i+2,i+3,i+4]::.code c::k)) cs) w:=by
 simp only[Prod.mk.injEq]at hp;obtain⟨p0,p1,p2,p3,p4⟩:=hp;obtain⟨o1,h1,q1⟩:=Gl.1 p1;obtain⟨g1,d1,a1⟩:=J096 q1;obtain⟨o2,h2,q2⟩:=Gl.1 p2;obtain⟨g2,d2,a2⟩:=J096 q2;obtain⟨n1,n2,n3,n4⟩:=hn;obtain⟨z1,z2,z3,z4,z5⟩:=hd;have t1:(T.setIfInBounds sT (.tuple #[v,u]))[sT]?=some (.tuple #[v,u]):=FC z1;have t2:((T.setIfInBounds sT (.tuple #[v,u])).setIfInBounds sA v)[sT]?=some (.tuple #[v,u]):=(AV n1).trans t1;have t3:(((T.setIfInBounds sT (.tuple #[v,u])).setIfInBounds sA v).setIfInBounds sB u)[sA]?=some v:=(AV n2).trans (FC (by simpa using z2));have t4:((((T.setIfInBounds sT (.tuple #[v,u])).setIfInBounds sA v).setIfInBounds sB u).setIfInBounds sX v)[sB]?=some u:=(AV n3).trans (FC (by simpa using z3));refine Y5 (l:=[(sT,.tmp sR)]) (rest:=[i+1,i+2,i+3,i+4]) h (by simp[p0]) (by simp only[List.all_cons,List.all_nil,gX,hh.1,Bool.not_false,Bool.or_true,Bool.and_true]) λw1 H1 e1=>?_;have x1:mvT T [(sT,.tmp sR)]=T.setIfInBounds sT (.tuple #[v,u]):=by simp[mvT,Act.eval,Bq,hT]
 rw[x1]at H1 ⊢;refine Jb (v:=v) H1 h1 (by simp[Region.wanted,g1]) d1 (λw1=>by simp[execOp,a1,Act.eval,Bq,t1,go_sem]) (λw1=>by simp[execOp,a1,Act.eval,Bq,z1,go_sem]) (.inr hv) λw2 H2 e2=>?_;refine Jb (v:=u) H2 h2 (by simp[Region.wanted,g2]) d2 (λw1=>by simp[execOp,a2,Act.eval,Bq,t2,go_sem]) (λw1=>by simp[execOp,a2,Act.eval,Bq,t2,go_sem]) (.inr hu) λw3 H3 e3=>?_;refine Y5 (l:=[(sX,.tmp sA),(sY,.tmp sB)]) (rest:=[]) H3 (by simp[List.range'_succ,p3,p4]) (by simp only[List.all_cons,List.all_nil,gX,hh.2.1,hh.2.2,Bool.not_false,Bool.or_true,Bool.and_true]) λw4 H4 e4=>J6 (λw1=>stepG_region_end) rfl λd=>?_;have x2:mvT (((T.setIfInBounds sT (.tuple #[v,u])).setIfInBounds sA v).setIfInBounds sB u) [(sX,.tmp sA),(sY,.tmp sB)]=((((T.setIfInBounds sT (.tuple #[v,u])).setIfInBounds sA v).setIfInBounds sB u).setIfInBounds sX v).setIfInBounds sY u:=by simp only[mvT,List.foldl_cons,List.foldl_nil,Act.eval,Bq,t3,A8,t4]
 rw[x2]at H4 ⊢;refine kn _ _ (H4.at d) (by simp) ((AV n4).trans (FC (by simpa using z4))) (FC (by simpa using z5)) (λj m1 m2 m3 m4 m5=>?_) (by show w4.heap=_;rw[e4,e3,e2,e1]);rw[AV (Ne.symm m5),AV (Ne.symm m4),AV (Ne.symm m3),AV (Ne.symm m2),AV (Ne.symm m1)]
end
def J0f7{A:JC}{a b c d:JJ}(h:A=#[a,b,c,d]):A++Array.replicate (f17.ntmps-A.size) JA=#[a,b,c,d,JA,JA,JA,JA,JA,JA,JA,JA,JA,JA,JA,JA,JA,JA,JA,JA,JA,JA,JA,JA,JA,JA,JA,JA,JA,JA,JA,JA,JA]:=by
 simp_all
section
variable{fn:JG}{W E:JB}{w:JE}{T:JC}{ops:Array Oper}{id m0 d sT sA sB sX sY x m:Nat}{most M:Int}{c:J7}{seed nf:Int}{h:JJ}{vm src:Nat}{S:List TR}{cd:Code}{k:List Item}{cs:List Frame}{Post:(JB)->JF->JE->Prop}{l:List (Nat × Operand)}{ags:Array Operand}
def J7e(H:HS fn W E w E T w)(hl:l.length=m0)(hm:((List.range' 0 m0).map λj=>(ops[j]?).bind mvP)=l.map some)(hk:l.all (gX fn)=true)(hc:(ops[m0]?).bind aG=some (d,17,ags))(hr:List.range ops.size=List.range' 0 m0++m0::[m0+1,m0+1+1,m0+1+2,m0+1+3,m0+1+4])
  (hp:((ops[m0+1]?).bind mvP,(ops[m0+1+1]?).bind exP,(ops[m0+1+2]?).bind exP,(ops[m0+1+3]?).bind mvP,(ops[m0+1+4]?).bind mvP)=(some (sT,.tmp d),some (sA,sT,0),some (sB,sT,1),some (sX,.tmp sA),some (sY,.tmp sB)))
  (hh:(C0.hl fn).contains d=false/\(C0.hl fn).contains sA=false/\(C0.hl fn).contains sB=false) (hz:d<T.size/\sT<T.size/\sA<T.size/\sB<T.size/\sX<T.size/\sY<T.size) (hn:sA≠sT/\sB≠sA/\sX≠sB/\sY≠sX)
  (hag:ags.map (Act.eval ⟨mvT T l,[]⟩)=#[pt x,JK m,.slice none 0 0,JK most])
  (q:NJ E w x c seed h nf vm src S) (Ns:m<8) (hM:0<=M) (hS:∀t∈S,HIn M t.B) (hSM:S.length*M<=9223372036854775807) (GN:1<=most) (YC:∀T:List TR,(T.map (·.k)).Nodup->Sum c (tm T) (Gg S m (λ_=>true))->(T.length:Int)<=most)
  (kn:∀W' E' w0 w1 w2 v Tt ks L T',KE E w w0->Jux E w0 c S m W' E' w1 v Tt ks L->HS fn W' E' w1 E' T' w2->T'.size=T.size->T'[sX]?=some v->T'[sY]?=some .nilIface->(∀j,j∉l.map (·.1)->j≠d->j≠sT->j≠sA->j≠sB->j≠sX->j≠sY->T'[j]?=T[j]?)->w2.heap=w1.heap->Reach prog Post W' (G ((Go.Conc.base fn).at ⟨T',[]⟩ (.code cd::k)) cs) w2) :
  Reach prog Post W (G ((Go.Conc.base fn).at ⟨T,[]⟩ (.code (.seq (.region id ops false) cd)::k)) cs) w:=by
 refine jS H hl hm hk hc hr (show prog.funcs[17]?=some f17 by kernel_rfl) (by kernel_rfl) body9 λw1 H1 e1 z1 k1=>?_;rw[J0f7 hag];obtain⟨o,ho,Xt⟩:=Gl.1 hc;obtain⟨_,jI,_⟩:=vI Xt;refine Jcf (x:=x) (m:=m) (M:=M) (S:=S) H1.bok (q.ke H1.ke H.bok.hnd λ_ h=>h) Ns hM hS hSM GN YC λW' E' wF v Tt ks L qo=>?_;rw[ho];simp only[Option.bind_some,jI];have HF:HS fn W' E' wF E' (mvT T l) wF:=⟨qo.bok,λ_ h=>h,.refl,λ_ _=>rfl,H1.tm.mono (Oj qo.le),H1.own,Ad _⟩;have vt:VR C0 (idE E') (.tuple #[v,.nilIface]) (.tuple #[v,.nilIface]):=.tuple rfl λi x x' h1 h2=>by
  rw[h1]at h2;cases h2
  match i with
  |0=>cases h1;exact qo.vE
  |1=>cases h1;exact .nilIface
  |i+2=>simp at h1
 have HG:=HF.put (HF.set (s:=d) (.inr vt));have zs:((mvT T l).setIfInBounds d (.tuple #[v,.nilIface])).size=T.size:=by rw[Array.size_setIfInBounds,z1]
 refine J0b0 (i:=m0+1) HG (FC (show d<(mvT T l).size by rw[z1];exact hz.1)) qo.vE .nilIface (by rw[zs];exact hz.2) hn hh hp λT' w' HG' n1 n2 n3 n4 n5=>?_;exact kn W' E' _ wF w' v Tt ks L T' H1.ke qo HG' (n1.trans zs) n2 n3 (λj m0 m1 m2 m3 m4 m5 m6=>by rw[n4 j m2 m3 m4 m5 m6,AV (Ne.symm m1),k1 j m0]) n5
end
end Go.Sim.Z
end
