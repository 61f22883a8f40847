/- Proved: laws for the claim. No conditions. -/
import Derived.Test.YtlcbehhbfglgaaaGreatDoorC06
import Derived.Test.YtlcbehhbfglgaaaGreatDoorC23
import Derived.Test.YtlcbehhbfglgaaaGreatDoorC25
set_option linter.all false
set_option maxHeartbeats 4000000
open Go.Proofs.Tryz
noncomputable section
namespace Go.Sim.Z
open Go Go.Proofs Go.RowKit Go.Conc Go.Maps
def J0b8(m k:Nat):(bits BinOp.and IntKind.i64 (((m:Int)) / 2 ^ k) 1 == 1)=m.testBit k:=by
 grind[Jic,Nat.shiftRight_eq_div_pow]
section
variable{w:JE}{T:JC}{ds:List Deferred}{m:Nat}{key:Int}{Q:Exit->Act->JE->Prop}
set_option maxRecDepth 100000 in
def J0b9(Ns:m<8)(hk:I64 key)(Ag:T.size=143)(h5:T[5]?=some (JK key))(h24:T[24]?=some (JK m))(h25:T[25]?=some (.slice none 0 0))
  (hQ:∀(T':JC) w' v F,T'.size=143->(∀i∈kX 25,T'[i]?=T[i]?)->T'[25]?=some v->EF w' w.heap.size v F->FB m F->Tch w.heap.size M0 w w'->Q .normal ⟨T',ds⟩ w') :
  (cX 11).wp prog Q ⟨T,ds⟩ w:=by
 obtain⟨f,rfl⟩:=NQ Ag;rw[Pg]at *;have e5:f 5=_:=Aa h5;have QB:f 24=_:=Aa h24;have WX:f 25=_:=Aa h25;rw[e5,QB,WX]at hQ ⊢;clear h5 e5 h24 QB h25 WX;simp only[cX,dX,fC,sC,bC,lC,f6,A8];go_wp2
 go_loopw [25,26] (λv i wr=>∃(d:Nat)(F:List LW),d<=3/\i=JK d/\EF wr w.heap.size v F/\F.length<=d/\(∀p∈F,∃e:Nat,p.1=e/\e<d/\m.testBit e=true)/\Tch w.heap.size M0 w wr) (λ_ i _=>3-(RowKit.intOf i).toNat)
 case atStart=>exact⟨0,[],by omega,rfl,EF.nil _ _,by simp,λp hp=>(by cases hp),.refl⟩
 case round=>
  obtain⟨d,F,hd3,rfl,hF,hl,Au,ht⟩:=hrel;rcases BF d 3 with Ac|Et
  .have CS:(d:Int)<3:=by omega
   have FD:=J0b8 m d;rcases Bool.eq_false_or_eq_true (m.testBit d)with hb|hb
   .rw[hb]at FD;rcases Bool.eq_false_or_eq_true (bits BinOp.and IntKind.i64 (key / 2 ^ d) 1 == 1)with SV|SV
    .have hp:=Yo (c:=wrap64 (key.tdiv 8)) (n:=4) (by unfold wrap64;omega) (by omega) (by omega);obtain⟨i0,hi,EY,DJ,DR⟩:=info_parts J09n;have hm:maxLen=9223372036854775807:=by decide
     generalize hpk:Jr (wrap64 (key.tdiv 8)) 4=pk at *;have hs:=ht.size;have hownA:∀o,(wr.alloc o).ownsRow w.heap.size 56 2 u25 F.length (Qp F):=λo=>World.ownsRow.alloc hF.1 _;have hplA:∀o,Ko (wr.alloc o) u25:=λo=>hF.2.kept λg n cap e=>by
      rcases hF.shape with⟨e',_⟩|⟨g',_,_,e',_,hb,_⟩
      .grind
      .rw[e]at e';cases e';exact J8 _ hb.lt
     have hown0:∀b,u25.ownBlock=some b->w.heap.size<=b:=λb e=>by
      rcases hF.shape with⟨rfl,_⟩|⟨g',_,_,rfl,hb,_⟩
      .cases e
      .simp only[Value.ownBlock,Cb]at e;omega
     have Ik:∀j u,([JK d,JK pk]:List JJ)[j]?=some u->(wr.alloc (.cells #[JK d,JK pk] 56)).cell? ((⟨wr.heap.size,0,none⟩:Addr).add j)=some u:=λj u h=>by
      have e:(⟨wr.heap.size,0,none⟩:Addr).add j=⟨wr.heap.size,j,none⟩:=by cases j<;>simp[Addr.add]
      simp[*]
     have EJ:∀u∈([JK d,JK pk]:List JJ),u.oneCell'=true:=λu hu=>by
      simp only[AL,BU,or_false]at hu;rcases hu with rfl|rfl<;>rfl
     have hint:∀u∈([JK d,JK pk]:List JJ),IsInt u:=λu hu=>by
      simp only[AL,BU,or_false]at hu;rcases hu with rfl|rfl<;>exact⟨_,_,rfl⟩
     go_wp2_with (first
      |(go_at_call 18;refine(hp _).mono ?_;rintro e w1 ⟨rfl,rfl⟩)
      |(at_builtin;refine mO _ rfl _ _ 54 rfl w.heap.size 56 i0 _ 2 16 underlying54 hi EY DJ DR rfl (by decide) _ F.length (Qp F) rfl (hownA _) ⟨w1.heap.size,0,none⟩ 1 1 [.int .i64 d,.int .i64 pk] rfl rfl Ik EJ (by omega) (by omega) (by simp;omega) (hplA _) hint (Plain.ai (k:=.i64) (xs:=[0,0])) ?_;intro v' w2 BD AX Ej Ny))
     refine⟨⟨d+1,F++[((d:Int),pk)],by omega,by go_num,⟨?_,Ny⟩,by simp;omega,λp hp=>?_,?_⟩,by simp[RowKit.intOf];omega⟩
     .have e:Qp (F++[((d:Int),pk)])=Qp F++[JK d,JK pk]:=by simp[Qp]
      simp[*]
     .rcases Gn.1 hp with h|h
      .exact(Au p h).imp λe h=>⟨h.1,by omega,h.2.2⟩
      .obtain rfl:=List.mem_singleton.1 h
       grind
     .have hz:=AX.size;rw[size_alloc]at hz;refine⟨by omega,λb BO _=>?_,AX.tape.trans ht.tape,AX.os.trans ht.os,AX.output.trans ht.output⟩;exact(AX.block b (by rw[size_alloc];omega) λe=>by have:=hown0 b e.symm;omega).trans ((J8 _ (by omega)).trans (ht.heap b BO λh=>h))
    .go_wp2;exact⟨⟨d+1,F,by omega,by go_num,hF,by omega,λp hp=>(Au p hp).imp λe h=>⟨h.1,by omega,h.2.2⟩,ht⟩,by simp[RowKit.intOf];omega⟩
   .rw[hb]at FD;go_wp2;exact⟨⟨d+1,F,by omega,by go_num,hF,by omega,λp hp=>(Au p hp).imp λe h=>⟨h.1,by omega,h.2.2⟩,ht⟩,by simp[RowKit.intOf];omega⟩
  .obtain rfl:d=3:=by omega
   go_wp2;exact hQ _ wr u25 F rfl (by(repeat refine List.forall_mem_cons.2 ⟨rfl,?_⟩);grind) rfl hF ⟨hl,λp hp=>(Au p hp).imp λe h=>⟨h.1,by omega,h.2.2⟩⟩ ht
end
def qG (n k:Nat):Oper:=((rgO n (f6.body.getD .skip))[k]?).getD ⟨none,.move (.tmp 0),0,"",#[],none⟩
def jR:Oper:={ qG 10 0 with dst:=some 56,op:=.move (.tmp 3),guard:=none }
def kC:Oper:={ qG 10 1 with dst:=some 57,op:=.move (.tmp 17),guard:=none }
def lD:Oper:={ qG 10 2 with dst:=some 58,op:=.indexAddr 24 (.tmp 56) (.tmp 57),guard:=none }
def lN:Oper:={ qG 10 3 with dst:=some 59,op:=.load 3 (.tmp 58),guard:=none }
def oW:Oper:={ qG 10 4 with dst:=some 60,op:=.call { callee:=.value (.func 18),args:=#[.tmp 59,.const (JK 7)],argTypes:=#[3,3] },guard:=none }
def pX:Oper:={ qG 10 5 with dst:=some 18,op:=.assign (.tmp 60),guard:=none }
def J0bu:qX 0=#[jR,kC,lD,lN,oW,pX]:=by kernel_rfl
def qV:C0.hl 6≠[]:=by show[1,2,3,30,32,47,56,58,1000]≠[];simp
def Ym{i:Nat}(h:i<500/\i≠1/\i≠2/\i≠3/\i≠30/\i≠32/\i≠47/\i≠56/\i≠58):(C0.hl 6).contains i=false:=by
 cases e:(C0.hl 6).contains i with
 |false=>rfl
 |true=>
  rcases hlX e with h1|h1
  .simp_all
  .omega
theorem iC{d:Nat}(hd:12<=d/\d<30){i:Nat}(h:i∈([1,2,3,30,32,47,56,58]:List Nat)):i∈kX d:=by
 simp only[AL,BU,or_false]at h;refine Hq.2 ⟨?_,?_⟩
 all_goals grind
structure FV(la:JI)(n cap k:Nat)(T0 T:JC):Prop where
 sz:T.size=143
 s3:T[3]?=some (.slice la n cap)
 s17:T[17]?=some (JK k)
 same:∀i,i∈([0,4,5,13,14,15,16]:List Nat)->T[i]?=T0[i]?
def FV.set{la:JI}{n cap k:Nat}{T0 T:JC}(h:FV la n cap k T0 T){s:Nat}(hs:46<=s)(v:JJ):FV la n cap k T0 (T.setIfInBounds s v):=by
 obtain⟨h1,h2,h3,h4⟩:=h;refine⟨by grind,?_,?_,λi hi=>?_⟩
 all_goals grind
def FV.kept{la:JI}{n cap k d:Nat}{T0 T T':JC}(h:FV la n cap k T0 T)(hd:d=12\/18<=d)(Ag:T'.size=143)(hk:∀i∈kX d,T'[i]?=T[i]?):FV la n cap k T0 T':=by
 obtain⟨h1,h2,h3,h4⟩:=h;have hm:∀i,i∈([0,3,4,5,13,14,15,16,17]:List Nat)->i∈kX d:=λi hi=>by
  simp only[AL,BU,or_false]at hi;refine Hq.2 ⟨?_,?_⟩
  .simp only[AL,BU,or_false];omega
  grind
 refine⟨Ag,(hk 3 (hm 3 (by simp))).trans h2,(hk 17 (hm 17 (by simp))).trans h3,λi hi=>?_⟩;have CW:=hi;simp only[AL,BU,or_false]at CW;exact(hk i (hm i (by grind))).trans (h4 i hi)
section
variable{W E0 E:JB}{w0 w:JE}{T T0:JC}{la:JI}{n cap k b o:Nat}{x:Int}{kk:List Item}{cs:List Frame}{Post:(JB)->JF->JE->Prop}
def J0ct(H:HS 6 W E0 w0 E T w)(F:FV la n cap k T0 T)(Qa:la=some ⟨b,o,none⟩)(hk:k<n)(hW:W b)(hT:∀c z,w.heap[b]?≠some (.cells c wgT z))(hc:w.cell? ⟨b,o+k,none⟩=some (JK x))(hx:I64 x)
  (kn:∀E' T' w',HS 6 W E0 w0 E' T' w'->FV la n cap k T0 T'->T'[18]?=some (JK (Jr x 7))->(∀b,E b->E' b)->KE E w w'->Reach prog Post W (G ((base 6).at ⟨T',[]⟩ kk) cs) w') :
  Reach prog Post W (G ((base 6).at ⟨T,[]⟩ (.code (.region 10 (qX 0) false)::kk)) cs) w:=by
 subst Qa;have sz:=F.sz;have s3:=F.s3;have s17:=F.s17;have D6:(k:Int)<n:=by omega
 have ct:∀(z:JE),z.heap=w.heap->z.cell? ⟨b,o+k,none⟩=some (JK x):=λz hz=>(Du (by rw[hz])).trans hc;refine J6 (λw1=>stepG_region) rfl λd1=>?_;rw[J0bu];rw[show List.range (#[jR,kC,lD,lN,oW,pX]:Array Oper).size=[0,1,2,3]++([4]++[5])from rfl];have H:=H.at d1;refine Jb (o:=jR) (v:=.slice (some ⟨b,o,none⟩) n cap) H rfl rfl rfl (λw1=>by simp[execOp,go_sem,jR,s3];try rfl) (λw1=>by simp[execOp,go_sem,jR,s3];try rfl) (.inl rfl) λw1 H h1=>?_;refine Jb (o:=kC) (v:=JK k) H rfl rfl rfl (λw1=>by simp[execOp,go_sem,kC,s17];try rfl) (λw1=>by simp[execOp,go_sem,kC,s17];try rfl) (.inr (.int _ _)) λw2 H h2=>?_;refine Jb (o:=lD) (v:=pt b (o+k)) H rfl rfl rfl (λw1=>by simp[execOp,go_sem,lD,sz,D6];try rfl) (λw1=>by simp[execOp,go_sem,lD,sz,D6];try rfl) (.inl rfl) λw3 H h3=>?_;have e3:w3.heap=w.heap:=h3.trans (h2.trans h1);refine aW (o:=lN) (v:=JK x) (a:=⟨b,o+k,none⟩) H hW (by grind) (ct w3 e3) rfl rfl rfl (λw1 DF=>by simp[execOp,go_sem,lN,sz,DF];try rfl) (λw1 DF=>by simp[execOp,go_sem,lN,sz,DF];try rfl) (.inr (.int _ _)) λw5 H h5 II=>?_;have pa:=Yo (n:=7) hx (by omega) (by omega);refine pG (pre:=[4]) (rest:=[5]) (Q:=λT2 w2=>T2=((((T.setIfInBounds 56 (.slice (some ⟨b,o,none⟩) n cap)).setIfInBounds 57 (JK k)).setIfInBounds 58 (pt b (o+k))).setIfInBounds 59 (JK x)).setIfInBounds 60 (JK (Jr x 7))/\w2.heap=w5.heap) H (by kernel_rfl) (by simp) Jew rfl qV (λτ=>?_) λE6 T6 w6' w6 KT SB SH V8 ⟨q1,q2⟩ kZ=>?_
 .rw[wpOps_cons];refine Rz (o:=oW) (w':=w5.tp τ 0) (i:=4) (f:=18) (args:=#[.int .i64 x,.int .i64 7]) rfl rfl (by simp[execOp,go_sem,oW,sz];try rfl) (pa _) ?_;rintro e w2 ⟨rfl,rfl⟩;refine⟨_,rfl,?_⟩;simp only[wpOps,Act.put,oW];refine⟨trivial,trivial,λi hi Nq=>?_,trivial,rfl⟩;have:=hlX hi;rw[AV];rcases this with h|h
  .simp only[AL,BU,or_false]at h;omega
  .omega
 subst q1;have k5:KE E w w5:=.of_eq λb hb=>by grind
 have k6:KE E w5 w6:=(KE.of_eq (λb _=>by rw[q2])).trans ((Jt rfl SH).mono KT);have H:=(H.to SB KT k6 kZ (by rw[SH.lsz rfl,q2];grind)).put V8;refine Jb (o:=pX) (v:=JK (Jr x 7)) H rfl rfl rfl (λw1=>by simp[execOp,go_sem,pX,sz];try rfl) (λw1=>by simp[execOp,go_sem,pX,sz];try rfl) (.inr (.int _ _)) λw7 H h7=>?_;refine J6 (λw1=>stepG_region_end) rfl λd2=>?_;have F6:=((((F.set (s:=56) (by omega) (.slice (some ⟨b,o,none⟩) n cap)).set (s:=57) (by omega) (JK k)).set (s:=58) (by omega) (pt b (o+k))).set (s:=59) (by omega) (JK x)).set (s:=60) (by omega) (JK (Jr x 7));refine kn _ _ _ (H.at d2) ?_ (FC (by grind)) KT ((k5.trans k6).trans (.of_eq λb _=>by show w7.heap[b]?=_;rw[h7]));obtain⟨f1,f2,f3,f4⟩:=F6;refine⟨by simp_all,?_,?_,λi hi=>?_⟩
 .simp_all
 .simp_all
 .have CW:=hi;simp only[AL,BU,or_false]at CW;rw[AV (by omega)];exact f4 i hi
end
end Go.Sim.Z
namespace Go.Sim
open Go.Extern.Rtype Go.Extern.ReflectliteType Go.Extern.ReflectliteValue
section
variable{C:Cx}{ok:JG->Code->Prop}{E:J5}
def oK(v x:JJ):Go.Extern.ReflectliteValue.set #[v,x]=(do
  let(some (dst,a,fl),some (src,b,_)):=(<- parts v,<- parts x)
   |unsupported (.noEntry "extern/(internal/reflectlite.Value).Set.zeroValue")
  if fl / flagAddr % 2 == 0 then unsupported (.noEntry "extern/(internal/reflectlite.Value).Set.unaddressable")
  let val <- loadVar src b
  if <- directlyAssignable dst src then storeVar dst a val
  else if <- Go.Extern.Rtype.implements dst src then
   if(<- kind src) == 20 then
    match val with
    |.nilIface=>unsupported (.noEntry "extern/reflectlite: a nil value of one interface type handed on as a value of another")
    |_=>storeVar dst a val
   else storeVar dst a (.iface src val)
  else panicString ("reflectlite.Set: value of type "++(<- spelt src)++ " is not assignable to type "++(<- spelt dst))
  Pure.pure (.tuple #[])):=rfl
def J035(t:JH):J3 C ok E (kind t) (kind t) (λ_ k k'=>k=k'/\(C.P.info? t).isSome=true):=by
 unfold kind under;refine J3.bind' (R:=λ_ x x'=>x=x'/\(C.P.info? t).isSome=true) ?_ λE1 s1 i i' h=>?_
 .refine J3.bind' (J3.typeInfo t) λE1 s1 i i' h=>?_;obtain⟨rfl,hi⟩:=h;have hs:(C.P.info? t).isSome=true:=by rw[hi];rfl
  try dsimp only
  split
  .refine J3.bind' (sInfo _) λE2 s2 j j' h=>?_;obtain rfl:j=j':=h;exact .pure ⟨rfl,hs⟩
  .exact .pure ⟨rfl,hs⟩
 .obtain⟨rfl,hs⟩:=h;obtain⟨u,i⟩:=i
  dsimp only
  split<;>first|exact .pure ⟨rfl,hs⟩|exact .stuck _
def Jzc(K:Oy C)(Au:∀t,(C.P.info? t).isSome=true->C.Ed t=true):Gy C Go.Extern.ReflectliteValue.set:=λok E hh a a' ha=>by
 obtain⟨l⟩:=a;obtain⟨l'⟩:=a'
 match l,l',ha with
 |[],_,_=>exact .stuck _
 |[_],_,_=>exact .stuck _
 |_::_::_::_,_,_=>exact .stuck _
 |[_,_],[],ha=>exact absurd ha.size (by simp)
 |[_,_],[_],ha=>exact absurd ha.size (by simp)
 |[_,_],_::_::_::_,ha=>exact absurd ha.size (by simp)
 |[v,x],[v',x'],ha=>
  have hv:=ha.at_ 0 v v' rfl rfl;have hx:=ha.at_ 1 x x' rfl rfl;show J3 C ok E (Go.Extern.ReflectliteValue.set #[v,x]) (Go.Extern.ReflectliteValue.set #[v',x']) (VR C);rw[oK,oK];refine J3.bind' (Jjj hh hv) λE1 s1 o o' h1=>?_;refine J3.bind' (Jjj (hh.mono s1) (hx.mono s1)) λE2 s2 q q' h2=>?_;cases o with
  |none=>cases o' with
   |none=>exact .unsupported _
   |some _=>exact h1.elim
  |some o=>cases o' with
   |none=>exact h1.elim
   |some o'=>cases q with
    |none=>cases q' with
     |none=>exact .unsupported _
     |some _=>exact h2.elim
    |some q=>cases q' with
     |none=>exact h2.elim
     |some q'=>
      obtain⟨dst,p,fl⟩:=o;obtain⟨dst',p',fl'⟩:=o';obtain⟨e1,e2,e3⟩:=h1;obtain rfl:dst=dst':=e1;obtain rfl:fl=fl':=e3;obtain⟨src,b,n⟩:=q;obtain⟨src',b',n'⟩:=q';obtain⟨e4,e5,e6⟩:=h2;obtain rfl:src=src':=e4;have hp:Jc E2 p p':=⟨s2 _ _ e2.block,e2.off,e2.spot⟩;have fin:∀E3,Sub E2 E3->∀u u',VR C E3 u u'->J3 C ok E3 (do storeVar dst p u;Pure.pure (Value.tuple #[])) (do storeVar dst p' u';Pure.pure (Value.tuple #[])) (VR C):=λE3 s3 u u' hu=>
       J3.bind' (J3.storeVar dst ⟨s3 _ _ hp.block,hp.off,hp.spot⟩ hu) λ_ _ _ _ _=>.pure .undef
      dsimp only
      split
      .exact J3.bind' (R:=λ_ _ _=>False) (.unsupported _) λ_ _ _ _ h=>h.elim
      refine J3.bind' (J3.loadVar src e5) λE3 s3 u u' hu=>?_;refine J3.bind' (Jlw dst src) λE4 s4 d d' h=>?_;obtain rfl:d=d':=h;have hu4:=hu.mono s4;cases d with
      |true=>exact fin _ (s3.trans s4) _ _ hu4
      |false=>
       refine J3.bind' (J7l dst src) λE5 s5 d d' h=>?_;obtain rfl:d=d':=h;have hu5:=hu4.mono s5;have s25:=(s3.trans s4).trans s5;cases d with
       |true=>
        refine J3.bind' (J035 src) λE6 s6 k k' h=>?_;obtain⟨rfl,hi⟩:=h;have hu6:=hu5.mono s6;have MO:=s25.trans s6
        try dsimp only
        split
        .cases hu6 with
         |nilIface=>exact J3.bind' (R:=λ_ _ _=>False) (.unsupported _) λ_ _ _ _ h=>h.elim
         |bool b=>exact fin _ MO _ _ (.bool b)
         |int k n=>exact fin _ MO _ _ (.int k n)
         |string x=>exact fin _ MO _ _ (.string x)
         |nilPtr=>exact fin _ MO _ _ .nilPtr
         |ptr o s h=>exact fin _ MO _ _ (.ptr o s h)
         |Jk l c=>exact fin _ MO _ _ (.Jk l c)
         |slice o s l c h=>exact fin _ MO _ _ (.slice o s l c h)
         |I5=>exact fin _ MO _ _ .I5
         |map h=>exact fin _ MO _ _ (.map h)
         |nilFunc=>exact fin _ MO _ _ .nilFunc
         |MP=>exact fin _ MO _ _ .MP
         |func h h1 h2 h3 h4=>exact fin _ MO _ _ (.func h h1 h2 h3 h4)
         |iface t ht h=>exact fin _ MO _ _ (.iface t ht h)
         |agg h1 h2=>exact fin _ MO _ _ (.agg h1 h2)
         |tuple h1 h2=>exact fin _ MO _ _ (.tuple h1 h2)
        .exact fin _ MO _ _ (.iface src (Au src hi) hu6)
       |false=>
        refine J3.bind' (Jjg src) λE6 s6 k k' h=>?_;obtain rfl:k=k':=h;refine J3.bind' (Jjg dst) λE7 s7 k k' h=>?_;obtain rfl:k=k':=h;exact J3.bind' (R:=λ_ _ _=>False) (oO K _) λ_ _ _ _ h=>h.elim
def Js5:Gy C (Go.Extern.ReflectliteValue.method (Pure.pure (.int .u8 0)) λ_ _ _ k=>Pure.pure (.int .u8 (Int.ofNat k))):=
 mX (zero:=Pure.pure (.int .u8 0)) (f:=λ_ _ _ k=>Pure.pure (.int .u8 (Int.ofNat k))) false (λok E hh=>.pure (.int _ _)) λok E hh t a a' fl k h=>.pure (.int _ _)
end
end Go.Sim
namespace Go.Sim.Z
open Go Go.Proofs
def tY:List JH:=List.range 371
def Js6{t:JH}(h:t<371):tY.contains t=true:=by
 unfold tY
 grind
def C2:Cx:={ P:=prog,fs:=[239,246,238,276,114,277,274,244],ts:=tY,ms:=["Kind","Elem","Implements","AssignableTo","As","Unwrap"],mf:=[],hl:=λf=>if f == 16 then[1000]else[],any:=true,st:=false,Sh:=λ_=>False,lax:=λ_ _ h=>h }
def S2:Kn:={ own:=λf=>if f == 30 then[12,24,36]else[],cs:=[30,66,244],gs:=[0],df:=[],xs:=[63,64,65,113,114,115,239,246,274,276,277],xn:=[238] }
def UO:Oy C2 where
 rt p h:=by have e:some p=some ("internal/reflectlite.rtype",226):=h.symm.trans zN;obtain rfl:=Aa e;show C2.Ed 226=true;kernel_rfl
 ve p h:=by have e:some p=some ("*internal/reflectlite.ValueError",227):=h.symm.trans zO;obtain rfl:=Aa e;show C2.Ed 227=true;kernel_rfl
 str:=by kernel_rfl
def Jzd{C:Cx}{t:JH}(h:C.ts.contains t=true):C.Ed t=true:=by
 unfold Cx.Ed
 grind
def Jvy{C:Cx}{t:JH}(h:C.any=true)(h':C.P.types.size<=t):C.Ed t=true:=by
 unfold Cx.Ed
 grind
def c2ts:C2.ts=tY:=by kernel_rfl
def Jze:C2.P.types.size=371:=by kernel_rfl
def all2(t:JH):C2.Ed t=true:=by
 rcases BF t 371 with h|h
 .exact Jzd (c2ts▸Js6 h)
 .exact Jvy rfl (by rw[Jze];exact h)
def J05w (f:JG) (h:[63,64,65,113,114,115,239,246,274,276,277].contains f=true):∃fn row,prog.funcs[f]?=some fn/\(fn.name == "runtime.NumGoroutine")=false/\fn.body=none/\Go.Extern.findNext fn=none/\Go.Extern.find fn=some row/\Gy C2 row:=by
 have h':=Lj.1 h;simp only[AL,BU,or_false]at h';rcases h' with rfl|rfl|rfl|rfl|rfl|rfl|rfl|rfl|rfl|rfl|rfl
 .exact⟨f63,_,by kernel_rfl,by kernel_rfl,by kernel_rfl,by kernel_rfl,by kernel_rfl,Jl2⟩
 .exact⟨f64,_,by kernel_rfl,by kernel_rfl,by kernel_rfl,by kernel_rfl,by kernel_rfl,Jti UO⟩
 .exact⟨f65,_,by kernel_rfl,by kernel_rfl,by kernel_rfl,by kernel_rfl,by kernel_rfl,Jqd UO⟩
 .exact⟨f113,_,by kernel_rfl,by kernel_rfl,by kernel_rfl,by kernel_rfl,by kernel_rfl,Jn4 UO⟩
 .exact⟨f114,_,by kernel_rfl,by kernel_rfl,by kernel_rfl,by kernel_rfl,by kernel_rfl,Jqe UO⟩
 .exact⟨f115,_,by kernel_rfl,by kernel_rfl,by kernel_rfl,by kernel_rfl,by kernel_rfl,Jzc UO λt _=>all2 t⟩
 .exact⟨f239,_,by kernel_rfl,by kernel_rfl,by kernel_rfl,by kernel_rfl,by kernel_rfl,Jtg⟩
 .exact⟨f246,_,by kernel_rfl,by kernel_rfl,by kernel_rfl,by kernel_rfl,by kernel_rfl,Js5⟩
 .exact⟨f274,_,by kernel_rfl,by kernel_rfl,by kernel_rfl,by kernel_rfl,by kernel_rfl,Jg1 UO⟩
 .exact⟨f276,_,by kernel_rfl,by kernel_rfl,by kernel_rfl,by kernel_rfl,by kernel_rfl,Jtf UO⟩
 .exact⟨f277,_,by kernel_rfl,by kernel_rfl,by kernel_rfl,by kernel_rfl,by kernel_rfl,Jg0 UO⟩
def J05x (f:JG) (h:S2.xn.contains f=true):∃fn,prog.funcs[f]?=some fn/\(fn.name == "runtime.NumGoroutine")=false/\fn.body=none/\Go.Extern.findNext fn=none/\Go.Extern.find fn=none/\(fn.name.endsWith ".init" && !fn.name.startsWith "(" && !fn.name.startsWith "gosem.")=false:=by
 have e:f=238:=by simpa[S2]using h
 subst e;exact⟨f238,by kernel_rfl,by kernel_rfl,by kernel_rfl,by kernel_rfl,by kernel_rfl,by kernel_rfl⟩
def J036:FM C2 S2:=FM.Jct (by kernel_rfl) (by kernel_rfl) (by kernel_rfl) (by kernel_rfl) J05w J05x
def ok16:Ji C2 S2 16 (f16.body.getD .skip)=true:=by kernel_rfl
end Go.Sim.Z
end
