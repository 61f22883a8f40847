/- Proved: laws for the claim. No conditions. -/
import Derived.Test.YtlcbehhbfglgaaaGreatDoorC09
import Derived.Test.YtlcbehhbfglgaaaGreatDoorC13
set_option linter.all false
set_option maxHeartbeats 2000000
set_option maxRecDepth 100000
open Go.Proofs.Tryz
noncomputable section
namespace Go.Sim.Z
open Go Go.Proofs Go.RowKit
open Go.WideElems (Fit rd rg)
def mvV(E:J5):JJ->JJ
 |.pointer (some a)=>.pointer (some ⟨mv E a.block,a.off,a.spot⟩)
 |v=>v
def Jtt(E:J5)(p:JD × JJ):JD × JJ:=(p.1,mvV E p.2)
def TR.mv(E:J5)(t:TR):TR:=⟨t.k,t.p.mv E,t.B⟩
theorem J04k{E:J5}{T:List TR}:tm (T.map (TR.mv E))=tm T:=by funext k;unfold tm;rw[List.find?_map,Option.map_map];rfl
def gD(f:JJ->JJ):Lit × DataW JJ->Lit × DataW JJ
 |(l,.held v)=>(l,.held (f v))
 |p=>p
def zX(f:JJ->JJ)(p:Lit × DataW JJ):(gD f p).1=p.1:=by obtain⟨l,d⟩:=p;cases d<;>rfl
def Jh5(f:JJ->JJ)(x:Lit × DataW JJ):∀l:List (Lit × DataW JJ),DataW.insert (gD f x) (l.map (gD f))=(DataW.insert x l).map (gD f)
 |[]=>rfl
 |y::l=>by
  simp only[D5,DataW.insert,zX];split
  .rfl
  .rw[Jh5 f x l];rfl
def Jjq(f:JJ->JJ):∀l:List (Lit × DataW JJ),(l.map (gD f)).foldr DataW.insert []=(l.foldr DataW.insert []).map (gD f)
 |[]=>rfl
 |x::l=>by simp only[D5,List.foldr_cons,Jjq f l,Jh5]
def mE(f:JJ->JJ)(x:MapEntry):MapEntry:=⟨x.key,f x.val,x.born⟩
theorem Jwz{P:Program}{k:JH}(f:JJ->JJ)(x:MapEntry):rd P k Rv (mE f x)=(rd P k Rv x).map (gD f):=by unfold rd mE;cases keyOf P k x.key<;>rfl
def Jyf{P:Program}{k:JH}{es:Array MapEntry}{clock:Nat}(f:JJ->JJ)(hF:Fit P k Rv es clock) :
  Fit P k Rv (es.map (mE f)) clock/\((es.map (mE f)).toList.map (rg P k Rv)).foldr DataW.insert []=((es.toList.map (rg P k Rv)).foldr DataW.insert []).map (gD f):=by
 refine⟨⟨by simpa using hF.size,?_,λx hx=>?_⟩,?_⟩
 .obtain⟨h1,h2,h3⟩:=hF.stamped;unfold MapKept.Stamped;rw[Array.toList_map];refine⟨λx hx=>?_,?_,?_⟩
  .obtain⟨z,hz,rfl⟩:=AZ.1 hx;exact h1 z hz
  .rw[List.map_map];exact h2
  .rw[List.map_map];exact h3
 .rw[Array.toList_map]at hx;obtain⟨z,hz,rfl⟩:=AZ.1 hx;obtain⟨y,hy⟩:=hF.reads z hz
  grind[Jwz]
 .rw[<- Jjq,Array.toList_map,List.map_map,List.map_map];congr 1;refine List.map_congr_left λx hx=>?_;obtain⟨y,hy⟩:=hF.reads x hx;simp only[Function.comp,rg,Jwz,hy];rfl
theorem ZO:∀l:List (Lit × DataW JJ),(l.foldr DataW.insert []).Perm l
 |[]=>.refl _
 |x::l=>(insert_perm x _).trans ((ZO l).cons x)
section
variable{C:Cx}{ok:JG->Code->Prop}{E:J5}{w w':JE}{fr:Bool}{x y:Nat}
def VR.mvV{a:Addr}{v:JJ}(hW:WR C ok E w w')(h:VR C E (.pointer (some a)) v):v=Z.mvV E (.pointer (some a))/\E a.block (mv E a.block):=by
 cases h with
 |ptr o s h=>simp[Z.mvV,UL hW.fn h,h]
def Cm.ren{L:List (JD × JJ)}(hW:WR C ok E w w')(h:Cm w x L)(hp:∀p∈L,∃a,p.2=.pointer (some a))(he:E x y):Cm w' y (L.map (Jtt E))/\∀p∈L,∀a,p.2=.pointer (some a)->E a.block (mv E a.block):=by
 obtain⟨L',h1,n,es,clock,h2,h3,h4,h5⟩:=h.own;have hy:=(hW.dom x y he).2;obtain⟨AU,e1,hr⟩:=hW.obj x y _ _ he h2 (Bz hy);have key:∀(i:Nat) z,es[i]?=some z->∃k v,(k,v)∈L/\z.key=.agg (ai .i64 k)/\z.val=v:=λi z hz=>by
  have hm:z∈es.toList:=Array.mem_toList_iff.2 (Ho hz);obtain⟨q,hq⟩:=h3.reads z hm;have AA:q∈(es.toList.map (rg prog 104 Rv)).foldr DataW.insert []:=(ZO _).mem_iff.2 (AZ.2 ⟨z,hm,by simp[rg,hq]⟩);have II:=DataW.map.inj h5;rw[<- II]at AA;obtain⟨p,Gu,rfl⟩:=AZ.1 AA;have jV:=h1.mem_iff.1 Gu;unfold rd at hq;simp only[Gl,Fh]at hq;obtain⟨l,hl,d,hd,e⟩:=hq;have e1:l=klit p.1:=congrArg Prod.fst e;have e2:d.1=.held p.2:=congrArg Prod.snd e;refine⟨p.1,p.2,jV,?_,?_⟩
  .rw[e1]at hl;exact rW.inj hl (U6 (h.keys p jV))
  .simp only[Rv,Cb]at hd
   grind
 have Eh:AU=es.map (mE (mvV E)):=by
  apply Ll;intro i;rw[Array.getElem?_map];cases hz:es[i]? with
  |none=>rw[PE]at hz;rw[Cc (by rw[<- hr.size];exact hz)];rfl
  |some z=>
   have Ac:i<AU.size:=by rw[<- hr.size];grind
   have OX:AU[i]?=some AU[i]:=Bz Ac;have hq:=hr.at_ i z _ hz OX;rw[OX];obtain⟨k,v,Xx,ek,ev⟩:=key i z hz;obtain⟨a,ea⟩:=hp _ Xx;have hv:=hq.val;rw[ev,show v=.pointer (some a)from ea]at hv;have hk:=hq.key;rw[ek]at hk;have ek':AU[i].key=.agg (ai .i64 k):=by
    generalize AU[i].key=kk at hk;cases hk with
    |agg ha hx=>rw[AR.plain (C:=C) (E:=E) ⟨ha,hx⟩ Plain.ai]
   have ev':=(VR.mvV hW hv).1;have eb:=hq.born;generalize AU[i]=z' at ek' ev' eb;obtain⟨zk,zv,zb⟩:=z;obtain⟨zk',zv',zb'⟩:=z';simp only at ek ev ek' ev' eb;show some _=some (MapEntry.mk zk (mvV E zv) zb)
   grind
 subst Eh;obtain⟨q1,q2⟩:=Jyf (mvV E) h3;have II:=DataW.map.inj h5;refine⟨⟨λp hp=>?_,?_,L'.map (Jtt E),h1.map _,n,_,clock,by grind,q1,by grind,?_⟩,λp Gu a ea=>?_⟩
 .obtain⟨p0,QT,rfl⟩:=AZ.1 hp;exact h.keys p0 QT
 .rw[List.map_map];exact h.nodup
 .rw[q2,<- II,List.map_map,List.map_map];rfl
 .have hq:Dy p∈(es.toList.map (rg prog 104 Rv)).foldr DataW.insert []:=by
   grind
  obtain⟨z,hz,ez⟩:=AZ.1 ((ZO _).mem_iff.1 hq);obtain⟨i,hi,rfl⟩:=List.getElem_of_mem hz;simp only[Array.length_toList,Array.getElem_toList]at hi ez;have DJ:es[i]?=some es[i]:=Bz hi;have DR:=hr.at_ i _ _ DJ (by rw[Array.getElem?_map,DJ];rfl);obtain⟨q,Qb⟩:=h3.reads _ (Array.getElem_mem_toList hi);have ez':q=Dy p:=by simpa[rg,Qb]using ez
  have hv:es[i].val=p.2:=by unfold rd at Qb;simp only[Gl,Fh]at Qb;obtain⟨l,hl,d,hd,e⟩:=Qb;simp only[Rv,Cb]at hd;rw[ez',<- hd]at e;exact DataW.held.inj (congrArg Prod.snd e)
  have Iw:=DR.val;rw[hv,ea]at Iw;exact(VR.mvV hW Iw).2
def TabAt.ren{c:J7}{T:List TR}(hW:WR C ok E w w')(hf:WA C fr)(Dh:Jts E c.ba)(h:TabAt fr w c x T)(he:E x y):(∀z∈tpl T,E z (mv E z))/\TabAt false w' c y (T.map (TR.mv E)):=by
 obtain⟨k1,k2⟩:=h.map.ren hW (λp hp=>by obtain⟨t,_,rfl⟩:=AZ.1 hp;exact⟨_,rfl⟩) he;have hb:∀t∈T,(∀z∈t.p.pl,E z (mv E z))/\Jw false w' c (t.p.mv E) t.B:=λt ht=>by have hE:=k2 t.kv (List.mem_map_of_mem ht) _ rfl;exact(h.bun t ht).ren hW hf Dh hE
 have Au:∀z∈tpl T,E z (mv E z):=λz hz=>by
  grind[Jo]
 refine⟨Au,?_,λt ht=>?_,λt ht=>?_,λhm=>?_,?_⟩
 .rw[List.map_map,show TR.kv ∘ TR.mv E=Jtt E ∘ TR.kv from rfl,<- List.map_map];exact k1
 .obtain⟨t0,Bf,rfl⟩:=AZ.1 ht;exact(hb t0 Bf).2
 .obtain⟨t0,Bf,rfl⟩:=AZ.1 ht;exact h.ok t0 Bf
 .obtain⟨t,ht,hz⟩:=Jo.1 hm;obtain⟨t0,Bf,rfl⟩:=AZ.1 ht;obtain⟨z,EY,e⟩:=BP.bH.1 hz;have:=hW.inj _ _ _ he (e▸(hb t0 Bf).1 z EY);exact h.out (this▸Jo.2 ⟨t0,Bf,EY⟩)
 .rw[List.pairwise_map];refine h.dis.imp_of_mem λ{s t} hs ht hd z hz OX=>?_;obtain⟨z1,DJ,rfl⟩:=BP.bH.1 hz;obtain⟨z2,DR,e⟩:=BP.bH.1 OX;have:=hW.inj _ _ _ ((hb s hs).1 z1 DJ) (e▸(hb t ht).1 z2 DR)
  grind
def zY{T:List TR}{z:Nat}:z∈tpl (T.map (TR.mv E))↔∃x∈tpl T,z=mv E x:=by
 rw[Jo];constructor
 .rintro⟨t,ht,hz⟩;obtain⟨t0,Bf,rfl⟩:=AZ.1 ht;obtain⟨x,hx,rfl⟩:=BP.bH.1 hz;exact⟨x,Jo.2 ⟨t0,Bf,hx⟩,rfl⟩
 .rintro⟨x,hx,rfl⟩;obtain⟨t0,Bf,hx⟩:=Jo.1 hx;exact⟨_,List.mem_map_of_mem Bf,BP.bH.2 ⟨x,hx,rfl⟩⟩
end
open Go.Conc Go.ConcN Go.Conc.Lib Go.ConcR.Gen Go.ConcN.Gen
open Go.ConcR (KK wgBlock WgAt stA smA rd wr mk Payload DC0)
def q3:Array Oper:=#[{ dst:=some 9,op:=Op.alloc 179,type:=0,pos:= "table.go:72",after:=#[],guard:=none }]
def q4:Array Oper:=#[{ dst:=some 18,op:=Op.move (Operand.const (Value.int IntKind.i64 0)),type:=3,pos:= "table.go:73",after:=#[],guard:=none }]
def q5:Array Oper:=#[{ dst:=some 19,op:=Op.binOp BinOp.lss 3 (Operand.tmp 18) (Operand.const (Value.int IntKind.i64 4)) 3,type:=4,pos:= "table.go:73",after:=#[],guard:=none }]
def q6:Array Oper:=#[{ dst:=some 20,op:=Op.move (Operand.tmp 18),type:=3,pos:= "table.go:73",after:=#[],guard:=none },
 { dst:=some 10,op:=Op.alloc 3,type:=0,pos:= "table.go:73",after:=#[],guard:=none },
 { dst:=none,op:=Op.store 3 (Operand.tmp 10) (Operand.tmp 20),type:=0,pos:= "table.go:73",after:=#[{ on:=1,ground:=Ground.data },
 { on:=0,ground:=Ground.data },
 { on:=0,ground:=Ground.phase },
 { on:=1,ground:=Ground.phase }],guard:=none }]
def q7:Array Oper:=#[{ dst:=some 21,op:=Op.call { callee:=Callee.value (Operand.func 73),args:=#[Operand.tmp 9,Operand.const (Value.int IntKind.i64 1)],argTypes:=#[179,3] },type:=0,pos:= "table.go:74",after:=#[],guard:=none }]
def q8:Array Oper:=#[{ dst:=some 22,op:=Op.makeFunc (Fn.func 74) #[] #[Operand.tmp 9,Operand.tmp 10,Operand.tmp 7,Operand.tmp 5,Operand.tmp 4,Operand.tmp 3,Operand.tmp 8],type:=1,pos:= "table.go:75",after:=#[],guard:=none },
 { dst:=none,op:=Op.go { callee:=Callee.value (Operand.tmp 22),args:=#[],argTypes:=#[] },type:=0,pos:= "table.go:75",after:=#[{ on:=0,ground:=Ground.data }],guard:=none }]
def q9:Array Oper:=#[{ dst:=some 23,op:=Op.binOp BinOp.add 3 (Operand.tmp 18) (Operand.const (Value.int IntKind.i64 1)) 3,type:=3,pos:= "table.go:73",after:=#[],guard:=none },
 { dst:=some 18,op:=Op.move (Operand.tmp 23),type:=3,pos:= "table.go:73",after:=#[{ on:=0,ground:=Ground.data }],guard:=none }]
def q10:Array Oper:=#[{ dst:=some 24,op:=Op.call { callee:=Callee.value (Operand.func 77),args:=#[Operand.tmp 9],argTypes:=#[179] },type:=0,pos:= "table.go:86",after:=#[],guard:=none }]
def LL:Code:=.seq (.region 5 q5 false) (.seq (.cond (.tmp 19) .skip (.exit 0)) (.seq (.block 1 (.seq (.region 6 q6 false) (.seq (.region 7 q7 false) (.region 8 q8 false)))) (.region 9 q9 false)))
def b40:Code:=f33.body.getD .skip
def Jhu:Code:=TT b40
def sN:Code:=TT (Ld b40)
def sO:Code:=TT (Ld (Ld b40))
def Kz:Code:=Ld (Ld (Ld (Ld (Ld (Ld b40)))))
def zZ:b40=.seq Jhu (.seq sN (.seq sO (.seq (.region 3 q3 false) (.seq (.seq (.region 4 q4 false) (.block 0 (.loop LL))) (.seq (.region 10 q10 false) Kz))))):=by kernel_rfl
def J00o:f33.body=some b40:=by kernel_rfl
def sQ:GY C0 33:=⟨f33,by kernel_rfl,by kernel_rfl,by kernel_rfl⟩
def J00p:Ji C0 S0 33 Jhu=true:=by kernel_rfl
def J00q:Ji C0 S0 33 sN=true:=by kernel_rfl
def J00r:Ji C0 S0 33 sO=true:=by kernel_rfl
def J00s:Ji C0 S0 33 Kz=true:=by kernel_rfl
structure RT(Wg C k p m c:Nat)(T0 T:JC):Prop where
 size:T.size=49
 c3:T[3]?=some (ptr c)
 m4:T[4]?=some (ptr m)
 p5:T[5]?=some (ptr p)
 k7:T[7]?=some (ptr k)
 C8:T[8]?=some (ptr C)
 w9:T[9]?=some (ptr Wg)
 low:∀i,i<18\/24<i->i≠9->i≠10->T[i]?=T0[i]?
section
variable{Wg C k p m c:Nat}{T0 T:JC}
def RT.set(h:RT Wg C k p m c T0 T){j:Nat}(hj:j=10\/18<=j/\j<=24)(v:JJ):RT Wg C k p m c T0 (T.setIfInBounds j v):=by have ne:∀i,i<10->(T.setIfInBounds j v)[i]?=T[i]?:=λi hi=>AV (by omega);exact⟨by simpa using h.size,(ne 3 (by omega)).trans h.c3,(ne 4 (by omega)).trans h.m4,(ne 5 (by omega)).trans h.p5,(ne 7 (by omega)).trans h.k7,(ne 8 (by omega)).trans h.C8,(ne 9 (by omega)).trans h.w9,λi h1 h2 h3=>(AV (by omega)).trans (h.low i h1 h2 h3)⟩
end
def UN{P:Program}{main:Bool}{b:Frame}{a:Act}{kk:List Item}{cs:List Frame}{w:JE}{ops:Array Oper}{i:Nat}{rest:List Nat}{o:Oper}{v:JJ}(ho:ops[i]?=some o)(hw:Region.wanted o (yielded ops a.tmps)=true)(hk:b.kind≠.early)
  (hr:(execOp a.eval o).run P w=.ok (.value v) w) (he:(execOp a.eval o).events P w #[]=#[]) :
  stepG P main (G (b.at a (.inRegion ops (i::rest)::kk)) cs) w=.go (G (b.at (a.put o.dst v) (.inRegion ops rest::kk)) cs) w #[]:=by
 rw[stepG_value ho hw hk hr];unfold listed;rw[he,seen_none]
def CU{P:Program}{R:JE->JE->Prop}{Stop:JF->JE->Prop}{n:Nat}{g g':JF}{w:JE}(hr:g.status=.running)(hs:∀w1,stepG P true g w1=.go g' w1 #[])
  (hk:∀w1,R w w1->Goes P true R DC0 Stop n g' w1):Goes P true R DC0 Stop (n+1) g w:=
 Goes.step hr λw1 r1=>by rw[hs w1];exact⟨⟨rfl,rfl⟩,hk w1 r1⟩
def QW(F:JB)(R:Nat->(JB)->Option Nat->JE->Prop)(B:Nat)(i:Nat)(own X:JB)(v:JJ)(w:JE):Prop:=
 ∃(Sh:JB)(E2:J5)(w2:JE)(r r':Option Nat),v=.map r'/\(∀b,F b->Sh b)/\(∀b,Sh b->F b\/B<b)/\Sub (idE Sh) E2/\Link (C1 Sh) S1 E2 own X w2 w/\VR (C1 Sh) E2 (.map r) (.map r')/\R i Sh r w2
def QW.rely{F:JB}{R:Nat->(JB)->Option Nat->JE->Prop}{B i:Nat}{own X:JB}{v:JJ}{w w':JE}(h:QW F R B i own X v w)(r:BR true X w w'):QW F R B i own X v w':=by obtain⟨Sh,E2,w2,r1,r2,h1,h2,YQ,h3,h4,h5,h6⟩:=h;exact⟨Sh,E2,w2,r1,r2,h1,h2,YQ,h3,h4.rely r,h5,h6⟩
def WaitAt(Wg C k p m c:Nat)(T0:JC)(kk:List Item)(T:JC)(f:Frame):Prop:=RT Wg C k p m c T0 T/\f=(base 33).at ⟨T,[]⟩ (.inRegion q10 [0]::.code Kz::kk)
def HR(AJ:Frame->JF->JE->Prop)(W E F:JB)(R:Nat->(JB)->Option Nat->JE->Prop)(Wg C k p m c:Nat)(T0:JC)(mm:Nat)(w0:JE)(t0:Trace)(q0:Nat->Nat)(kk:List Item)(cs:List Frame):Ph where
 P:=prog
 ty:=179
 Wg:=Wg
 C:=C
 n:=4
 m:=mm
 W:=W
 Sh0:=λb=>E b/\b≠C
 w0:=w0
 t0:=t0
 q0:=q0
 tI:=3
 Q:=QW F R Wg
 Fin:=λg _=>∃T,RT Wg C k p m c T0 T/\g=G ((base 33).at ⟨T,[]⟩ (.inRegion q10 []::.code Kz::kk)) cs
 Anch:=λg w=>∃T f,WaitAt Wg C k p m c T0 kk T f/\AJ f g w
structure nI(Wg:Nat)(cs:List Frame)(AJ:Frame->JF->JE->Prop):Prop where
 add:∀(Next:JF->JE->Prop)(mT:Nat)(a₀:Act)(k₀:List Item)(w:JE),WgLive 179 Wg w ->
  (∀w,WgLive 179 Wg w->Goes prog true (RM 179 Wg) DC0 Next mT (G ((base 33).at (a₀.put (some 21) (.tuple #[])) (.inRegion q7 []::k₀)) cs) w) ->
  Goes prog true (RM 179 Wg) DC0 (dI prog 179 Wg Next) 12 (G ((base 73).at ⟨#[ptr Wg,JK 1]++Array.replicate (f73.ntmps-2) JA,[]⟩ [.code (body_add link)]) ((base 33).at a₀ (.inRegion q7 [0]::k₀)::cs)) w
 start:∀(f:Frame)(w:JE),WgLive 179 Wg w->(∃a₀ k₀,f=(base 33).at a₀ (.inRegion q10 [0]::k₀)) ->
  Goes prog true (RM 179 Wg) DC0 (JKd prog 179 Wg (AJ f)) 3 (G ((base 77).at ⟨#[ptr Wg]++Array.replicate (f77.ntmps-1) JA,[]⟩ [.code (body_wait link)]) (f::cs)) w
def Ol{P:Program}{main:Bool}{R:JE->JE->Prop}{D:JE->JE->Array Event->Prop}{Stop Vj:JF->JE->Prop}(h:∀g w,Stop g w->Vj g w) :
  ∀{n:Nat}{g:JF}{w:JE},Goes P main R D Stop n g w->Goes P main R D Vj n g w
 |0,_,_,hg=>λw1 r=>h _ _ (hg w1 r)
 |n+1,g,w,hg=>by
  rcases hg with hs|⟨hr,hs⟩
  .exact .inl λw1 r=>h _ _ (hs w1 r)
  refine .inr ⟨hr,λw1 r=>?_⟩;have:=hs w1 r;generalize stepG P main g w1=s at this ⊢;cases s<;>first|exact⟨this.1,Ol h this.2⟩|exact this.elim
def JKd.mono{P:Program}{ty:JH}{Wg:Nat}{A B:JF->JE->Prop}(h:∀g w,A g w->B g w){g:JF}{w:JE}(x:JKd P ty Wg A g w):JKd P ty Wg B g w:=by obtain⟨h1,g',h2,n,h3⟩:=x;exact⟨h1,g',h2,n,Ol h h3⟩
def J00t:f77.body=some (body_wait link):=by kernel_rfl
def Jqz:(f77.name == "runtime.NumGoroutine")=false:=by kernel_rfl
def Jr3:(f73.name == "runtime.NumGoroutine")=false:=by kernel_rfl
def J00u:f73.body=some (body_add link):=by kernel_rfl
section
variable{AJ:Frame->JF->JE->Prop}{W E F:JB}{R:Nat->(JB)->Option Nat->JE->Prop}{Wg C k p m c mm:Nat}{T0:JC}{w0:JE}{t0:Trace}{q0:Nat->Nat}{kk:List Item}{cs:List Frame}
def Jm1{T:JC}{i:Nat}{v:JJ}(h:T[i]?=some v):T.getD i JA=v:=by simp_all
def J04l(S:nI Wg cs AJ):∃n,∀T w,RT Wg C k p m c T0 T->T[18]?=some (JK 4)->WgLive 179 Wg w ->
  Goes prog true (RM 179 Wg) DC0 (JKd prog 179 Wg (HR AJ W E F R Wg C k p m c T0 mm w0 t0 q0 kk cs).Anch) n
   (G ((base 33).at ⟨T,[]⟩ (.code LL::.inLoop LL::.inBlock 0::.code (.seq (.region 10 q10 false) Kz)::kk)) cs) w:=by
 refine⟨3+10,λT w hT Nc hW=>?_⟩;refine CU rfl (λw1=>stepG_seq) λw1 r1=>?_;replace hW:=r1 hW;refine CU rfl (λw1=>stepG_region) λw1 r1=>?_;replace hW:=r1 hW;refine CU (g':=G ((base 33).at ⟨T.setIfInBounds 19 (.bool false),[]⟩ (.inRegion q5 []::.code (.seq (.cond (.tmp 19) .skip (.exit 0)) (.seq (.block 1 (.seq (.region 6 q6 false) (.seq (.region 7 q7 false) (.region 8 q8 false)))) (.region 9 q9 false)))::.inLoop LL::.inBlock 0::.code (.seq (.region 10 q10 false) Kz)::kk)) cs) rfl (λw1=>?_) λw1 r1=>?_
 .rw[show List.range q5.size=[0]from rfl];exact UN (o:=q5[0]) (v:=.bool false) rfl rfl (by simp[base]) (by simp[execOp,q5,Act.eval,go_sem,Nc]) (by simp[execOp,q5,Act.eval,go_sem,Nc])
 replace hW:=r1 hW;refine CU rfl (λw1=>stepG_region_end) λw1 r1=>?_;replace hW:=r1 hW;refine CU rfl (λw1=>stepG_seq) λw1 r1=>?_;replace hW:=r1 hW;have Ag:=hT.size;refine CU rfl (λw1=>stepG_cond (t:=false) (by simp[Act.eval,Ag])) λw1 r1=>?_;replace hW:=r1 hW;simp only[DY,if_false];refine CU rfl (λw1=>stepG_exit rfl) λw1 r1=>?_;replace hW:=r1 hW;refine CU rfl (λw1=>stepG_seq) λw1 r1=>?_;replace hW:=r1 hW;refine CU rfl (λw1=>stepG_region) λw1 r1=>?_;replace hW:=r1 hW;have OA:RT Wg C k p m c T0 (T.setIfInBounds 19 (.bool false)):=hT.set (.inr (by omega)) _;generalize T.setIfInBounds 19 (.bool false)=T2 at OA ⊢;have e9:=Jm1 OA.w9;refine Goes.step rfl λw1 r1=>?_;replace hW:=r1 hW;rw[show List.range q10.size=[0]from rfl];have h1:q10[0]?=some q10[0]:=rfl;have h2:Region.wanted q10[0] (yielded q10 T2)=true:=rfl;have h3:q10[0].op=.call { callee:=.value (.func 77),args:=#[.tmp 9],argTypes:=#[179] }:=rfl;have h4:(base 33).kind≠.early:=by simp[base]
 have BA:=λK=>@goes_call prog true (base 33) ⟨T2,[]⟩ (.code Kz::kk) cs w1 q10 0 [] q10[0] K 77 f77 (body_wait link) #[.tmp 9] #[179] h1 h2 h4 h3 func77 Jqz J00t;refine BA _ ?_;refine⟨⟨rfl,rfl⟩,?_⟩;have hf:=S.start ((base 33).at ⟨T2,[]⟩ (.inRegion q10 [0]::.code Kz::kk)) w1 hW ⟨_,_,rfl⟩;refine Ol (λg w h=>JKd.mono (λg w h=>⟨T2,_,⟨OA,rfl⟩,h⟩) h) ?_;have ea:(#[.tmp 9]:Array Operand).map (Act.eval ⟨T2,[]⟩)=#[ptr Wg]:=by simp[Act.eval,e9]
 grind
end
def StopJ(H:Ph):Nat->JF->JE->Prop
 |0=>JKd H.P H.ty H.Wg H.Anch
 |r+1=>JAl H (H.n-(r+1)) (JSp H r)
def Jqu{H:Ph}{r n:Nat}{g:JF}{w:JE}(h:Goes H.P true (RM H.ty H.Wg) DC0 (StopJ H r) n g w):JSp H r g w:=by cases r<;>exact⟨n,h⟩
def J00v:(prog.funcs[(base 33).fn]?).any (·.norace)=false:=by kernel_rfl
section
variable{main:Bool}{b:Frame}{a:Act}{kk:List Item}{cs:List Frame}{w:JE}{ops:Array Oper}{i:Nat}{rest:List Nat}{o:Oper}
def Jjr(ho:ops[i]?=some o)(hw:Region.wanted o (yielded ops a.tmps)=true)(hk:b.kind≠.early)(Ar:o.op=.alloc 3) :
  stepG prog main (G (b.at a (.inRegion ops (i::rest)::kk)) cs) w=.go (G (b.at (a.put o.dst (ptr w.heap.size)) (.inRegion ops rest::kk)) cs) { w with heap:=w.heap.push (.cells #[JK 0] 3) } #[]:=by
 have hr:(execOp a.eval o).run prog w=.ok (.value (ptr w.heap.size)) { w with heap:=w.heap.push (.cells #[JK 0] 3) }:=by unfold execOp;simp only[Ar];simp[go_sem,ptr]
 have he:(execOp a.eval o).events prog w #[]=#[]:=by unfold execOp;simp only[Ar];simp[go_sem]
 rw[stepG_value ho hw hk hr];unfold listed;rw[he,seen_none]
def Jjs{x y:Operand}(ho:ops[i]?=some o)(hw:Region.wanted o (yielded ops a.tmps)=true)(hk:b.kind≠.early)(Ar:o.op=.store 3 x y)
  {ad:Addr} {v:Int} {u:JJ} (hx:a.eval x=.pointer (some ad)) (hy:a.eval y=JK v) (hc:w.cell? ad=some u) (hz:w.frozen? ad=false) (hq:(prog.funcs[b.fn]?).any (·.norace)=false) :
  stepG prog main (G (b.at a (.inRegion ops (i::rest)::kk)) cs) w=.go (G (b.at (a.put o.dst JA) (.inRegion ops rest::kk)) cs) (w.setCell ad (JK v)) #[⟨.cell ad,true,false⟩]:=by
 have hr:(execOp a.eval o).run prog w=.ok .skip (w.setCell ad (JK v)):=by unfold execOp;simp only[Ar,hx,hy];simp[go_sem,stored,hc,hz]
 have he:(execOp a.eval o).events prog w #[]=#[⟨.cell ad,true,false⟩]:=by unfold execOp;simp only[Ar,hx,hy];simp[go_sem,storedEv,hc,hz]
 rw[stepG_none ho hw hk hr];unfold listed
 grind[seen_eq]
end
structure UE(F:JB)(w0:JE)(k p m c:Nat)(R:Nat->(JB)->Option Nat->JE->Prop):Prop where
 sh:∀b,F b->prog.globals.size<=b/\∃o,w0.heap[b]?=some o/\∀X Sh:JB,(∀b,F b->X b)->Jnf (C1 Sh) (idE X) o
 hnd:F prog.globals.size
 kF:F k
 pF:F p
 mF:F m
 cF:F c
 run:∀(i s Wg C:Nat)(w:JE),i<4->¬F s->(∀b,F b->w.heap[b]?=w0.heap[b]?)->w.heap[s]?=some (.cells #[JK i] 3)->∃A:JC->JE->Prop,
  (∀τ,c1.wp prog (λe a w1=>e=.normal/\A a.tmps w1) ⟨T63 Wg s k p m c C,[Jq]⟩ ((frz (λb=>F b\/b=s) w).tp τ 0)) /\
  ∀t1 w1,A t1 w1->∀τ,cM.wp prog (λe a w2=>e=.normal/\a.tmps.size=40/\a.tmps[1]?=some (ptr s)/\w2.cell? ⟨s,0,none⟩=some (JK i)/\∃r,a.tmps[7]?=some (.map r)/\R i (λb=>F b\/b=s) r w2) ⟨t1,[Jq]⟩ (w1.tp τ 0)
section
variable{AJ:Frame->JF->JE->Prop}{W E F:JB}{R:Nat->(JB)->Option Nat->JE->Prop}{Wg C k p m c mm:Nat}{T0:JC}{w0:JE}{t0:Trace}{q0:Nat->Nat}{kk:List Item}{cs:List Frame}
def K0(kk:List Item):List Item:=.inLoop LL::.inBlock 0::.code (.seq (.region 10 q10 false) Kz)::kk
def K1'(kk:List Item):List Item:=.inBlock 1::.code (.region 9 q9 false)::K0 kk
def goJ(Ap:C≠Wg)(PO:∀b,F b->E b/\b≠C)(YR:∀b,F b->b<Wg)(KW:UE F w0 k p m c R){i s:Nat}(hi:i<4)(hs:Wg<s){T:JC}(hT:RT Wg C k p m c T0 T)(Ce:T[10]?=some (ptr s))
  {Next:JF->JE->Prop} (w:JE) (hN:Next (G ((base 33).at ⟨T.setIfInBounds 22 (.func (.func 74) #[] (Fa Wg s k p m c C)),[]⟩ (.inRegion q8 []::K1' kk)) cs) w) :
  JGo (HR AJ W E F R Wg C k p m c T0 mm w0 t0 q0 kk cs) i s Next (G ((base 33).at ⟨T.setIfInBounds 22 (.func (.func 74) #[] (Fa Wg s k p m c C)),[]⟩ (.inRegion q8 [1]::K1' kk)) cs) w:=by
 refine⟨rfl,λhk Aq _=>?_⟩;have hFs:¬F s:=λh=>by grind
 have Qd:∀b,F b->w.heap[b]?=w0.heap[b]?:=λb hb=>hk b (PO b hb);have hgs:prog.globals.size<=s:=by have:=YR _ KW.hnd;omega
 have Cj:Jtr (C1 λb=>F b\/b=s) (λb=>F b\/b=s) w:=by
  refine⟨.inl KW.hnd,λb hb=>?_⟩;by_cases CQ:b=s
  .subst CQ;refine⟨hgs,_,Aq,rfl,AR.one (.int _ _)⟩
  .obtain⟨h1,o,h2,h3⟩:=KW.sh b (hb.resolve_right CQ);exact⟨h1,o,(Qd b (hb.resolve_right CQ)).trans h2,h3 _ _ λb hb=>.inl hb⟩
 obtain⟨A,fD,qB⟩:=KW.run i s Wg C w hi hFs Qd Aq;have hc:w.cell? ⟨s,0,none⟩=some (JK i):=by simp[World.cell?,Aq]
 have hw:=worker (H:=(HR AJ W E F R Wg C k p m c T0 mm w0 t0 q0 kk cs)) (Sh:=λb=>F b\/b=s) (X0:=λb=>(E b/\b≠C)\/b=s) (i:=i) (s:=s) (keys:=k) (passes:=p) (mask:=m) (c:=c) (w:=w) (A:=A) (R:=R i λb=>F b\/b=s) rfl rfl rfl Ap (λb hb=>hb.imp (PO b) id) hi Cj (.inr rfl) (.inl KW.kF) (.inl KW.pF) (.inl KW.mF) (.inl KW.cF) fD qB
  (λE2 own X w2 w' r r' h1 h2 h3 h4=>⟨_,E2,w2,r,r',rfl,λb hb=>.inl hb,λb hb=>hb.elim (λh=>.inl h) (λe=>.inr (by grind)),h1,h2,h3,h4⟩)
 have Ag:=hT.size;have Ae:stepG prog true (G ((base 33).at ⟨T.setIfInBounds 22 (.func (.func 74) #[] (Fa Wg s k p m c C)),[]⟩ (.inRegion q8 [1]::K1' kk)) cs) w =
   .spawn (G ((base 33).at ⟨T.setIfInBounds 22 (.func (.func 74) #[] (Fa Wg s k p m c C)),[]⟩ (.inRegion q8 []::K1' kk)) cs) (born prog (Y3 Wg s k p m c C)) w #[]:=by
  have hr:(execOp (Act.eval ⟨T.setIfInBounds 22 (.func (.func 74) #[] (Fa Wg s k p m c C)),[]⟩) q8[1]).run prog w=.ok (.spawn (Y3 Wg s k p m c C)) w:=by simp[execOp,q8,Act.eval,Ag,go_sem,Y3]
  have he:listed prog (base 33).fn ⟨T.setIfInBounds 22 (.func (.func 74) #[] (Fa Wg s k p m c C)),[]⟩ q8[1] w=#[]:=by
   unfold listed;rw[show(execOp (Act.eval ⟨T.setIfInBounds 22 (.func (.func 74) #[] (Fa Wg s k p m c C)),[]⟩) q8[1]).events prog w #[]=#[]from by simp[execOp,q8,Act.eval,Ag,go_sem],seen_none]
  rw[stepG_spawn (o:=q8[1]) rfl rfl (by simp[base]) hr rfl,he];rfl
 exact⟨_,_,Ae,rfl,rfl,hw,rfl,hN⟩
def J04m(S:nI Wg cs AJ)(Ap:C≠Wg)(PO:∀b,F b->E b/\b≠C)(YR:∀b,F b->b<Wg)(KW:UE F w0 k p m c R) :
  ∀r,r<=4->∃n,∀T w,RT Wg C k p m c T0 T->T[18]?=some (JK ((4-r:Nat):Int))->WgLive 179 Wg w->(Goes prog true (RM 179 Wg) DC0) (StopJ (HR AJ W E F R Wg C k p m c T0 mm w0 t0 q0 kk cs) r) n (G ((base 33).at ⟨T,[]⟩ (.code LL::K0 kk)) cs) w:=by
 intro r
 induction r with
 |zero=>exactλ_=>J04l S
 |succ r ih=>
  intro hr;obtain⟨n,hn⟩:=ih (by omega);refine⟨0+12,λT w hT Nc hW=>?_⟩;have hi:4-(r+1)<4:=by omega
  have Og:4-(r+1)+1=4-r:=by omega
  generalize hie:4-(r+1)=i at *;refine CU rfl (λw1=>stepG_seq) λw1 r1=>?_;replace hW:=r1 hW;refine CU rfl (λw1=>stepG_region) λw1 r1=>?_;replace hW:=r1 hW;have Ac:(i:Int)<4:=by omega
  refine CU (g':=G ((base 33).at ⟨T.setIfInBounds 19 (.bool true),[]⟩ (.inRegion q5 []::.code (.seq (.cond (.tmp 19) .skip (.exit 0)) (.seq (.block 1 (.seq (.region 6 q6 false) (.seq (.region 7 q7 false) (.region 8 q8 false)))) (.region 9 q9 false)))::K0 kk)) cs) rfl (λw1=>?_) λw1 r1=>?_
  .rw[show List.range q5.size=[0]from rfl];exact UN (o:=q5[0]) (v:=.bool true) rfl rfl (by simp[base]) (by simp[execOp,q5,Act.eval,go_sem,Nc,Ac]) (by simp[execOp,q5,Act.eval,go_sem,Nc])
  replace hW:=r1 hW;refine CU rfl (λw1=>stepG_region_end) λw1 r1=>?_;replace hW:=r1 hW;refine CU rfl (λw1=>stepG_seq) λw1 r1=>?_;replace hW:=r1 hW;have Ag:=hT.size;refine CU rfl (λw1=>stepG_cond (t:=true) (by simp[Act.eval,Ag])) λw1 r1=>?_;replace hW:=r1 hW;simp only[if_true];refine CU rfl (λw1=>stepG_skip) λw1 r1=>?_;replace hW:=r1 hW;refine CU rfl (λw1=>stepG_seq) λw1 r1=>?_;replace hW:=r1 hW;refine CU rfl (λw1=>stepG_block) λw1 r1=>?_;replace hW:=r1 hW;refine CU rfl (λw1=>stepG_seq) λw1 r1=>?_;replace hW:=r1 hW;refine CU rfl (λw1=>stepG_region) λw1 r1=>?_;replace hW:=r1 hW;rw[show List.range q6.size=[0,1,2]from rfl];have OA:RT Wg C k p m c T0 (T.setIfInBounds 19 (.bool true)):=hT.set (.inr (by omega)) _;have uF:(T.setIfInBounds 19 (.bool true))[18]?=some (JK i):=by grind
  generalize T.setIfInBounds 19 (.bool true)=T2 at OA uF ⊢;clear hT Nc Ag;have Ag:=OA.size;refine CU (g':=G ((base 33).at ⟨T2.setIfInBounds 20 (JK i),[]⟩ (.inRegion q6 [1,2]::.code (.seq (.region 7 q7 false) (.region 8 q8 false))::K1' kk)) cs) rfl (λw1=>?_) λw1 r1=>?_
  .exact UN (o:=q6[0]) (v:=JK i) rfl rfl (by simp[base]) (by simp[execOp,q6,Act.eval,go_sem,uF]) (by simp[execOp,q6,Act.eval,go_sem])
  replace hW:=r1 hW;have wU:RT Wg C k p m c T0 (T2.setIfInBounds 20 (JK i)):=OA.set (.inr (by omega)) _;have g18:(T2.setIfInBounds 20 (JK i))[18]?=some (JK i):=by grind
  have g20:(T2.setIfInBounds 20 (JK i))[20]?=some (JK i):=by simp[Ag]
  generalize T2.setIfInBounds 20 (JK i)=T3 at wU g18 g20 ⊢;clear OA uF Ag T2;refine Goes.stop λw2 r2=>?_;replace hW:=r2 hW;have hWs:Wg<w2.heap.size:=by obtain⟨st,sm,h⟩:=hW;exact(BJ.1 h).1
  have Ag:=wU.size;show JAl (HR AJ W E F R Wg C k p m c T0 mm w0 t0 q0 kk cs) (4-(r+1)) (JSp (HR AJ W E F R Wg C k p m c T0 mm w0 t0 q0 kk cs) r) _ w2;rw[hie];refine⟨rfl,_,Jjr (o:=q6[1]) rfl rfl (by simp[base]) rfl,0,Goes.stop λw3 r3=>?_⟩;have wY:RT Wg C k p m c T0 (T3.setIfInBounds 10 (ptr w2.heap.size)):=wU.set (.inl rfl) _;have f10:(T3.setIfInBounds 10 (ptr w2.heap.size))[10]?=some (ptr w2.heap.size):=by simp[Ag]
  have f18:(T3.setIfInBounds 10 (ptr w2.heap.size))[18]?=some (JK i):=by grind
  have f20:(T3.setIfInBounds 10 (ptr w2.heap.size))[20]?=some (JK i):=by grind
  replace hW:WgLive 179 Wg w3:=r3 (by obtain⟨st,sm,h⟩:=hW;refine⟨st,sm,?_⟩;show(w2.heap.push _)[Wg]?=_;unfold WgAt at h;rw[Bz hWs]at h;rw[Array.getElem?_push_lt hWs];exact h);clear r3;show JSt (HR AJ W E F R Wg C k p m c T0 mm w0 t0 q0 kk cs) i w2.heap.size (JSp (HR AJ W E F R Wg C k p m c T0 mm w0 t0 q0 kk cs) r) (G ((base 33).at ⟨T3.setIfInBounds 10 (ptr w2.heap.size),[]⟩ (.inRegion q6 [2]::.code (.seq (.region 7 q7 false) (.region 8 q8 false))::K1' kk)) cs) w3;generalize w2.heap.size=s at *;generalize T3.setIfInBounds 10 (ptr s)=T4 at wY f10 f18 f20 ⊢;clear wU g18 g20 Ag T3;refine⟨rfl,λAq=>?_⟩;have hc:w3.cell? ⟨s,0,none⟩=some (JK 0):=by simp[World.cell?,Aq,HR]
  have hz:w3.frozen? ⟨s,0,none⟩=false:=by simp[World.frozen?,Aq,HR]
  refine⟨_,Jjs (ad:=⟨s,0,none⟩) (v:=i) (o:=q6[2]) (x:=.tmp 10) (y:=.tmp 20) rfl rfl (by simp[base]) rfl (by simp[Act.eval,f10,ptr]) (by simp[Act.eval,f20]) hc hz J00v,?_⟩;refine⟨12+4,?_⟩;show Goes prog true (RM 179 Wg) DC0 (dI prog 179 Wg (JGo (HR AJ W E F R Wg C k p m c T0 mm w0 t0 q0 kk cs) i s (JSp (HR AJ W E F R Wg C k p m c T0 mm w0 t0 q0 kk cs) r))) (12+4) (G ((base 33).at ⟨T4,[]⟩ (.inRegion q6 []::.code (.seq (.region 7 q7 false) (.region 8 q8 false))::K1' kk)) cs) _;replace hW:WgLive 179 Wg (w3.setCell ⟨s,0,none⟩ (JK i)):=by obtain⟨st,sm,h⟩:=hW;exact⟨st,sm,h.of_block ((aside_setCell _ ⟨s,0,none⟩ (JK i)).block Wg (by grind))⟩
  generalize w3.setCell ⟨s,0,none⟩ (JK i)=w4 at hW ⊢;clear Aq hc hz w3;refine CU rfl (λw1=>stepG_region_end) λw1 r1=>?_;replace hW:=r1 hW;refine CU rfl (λw1=>stepG_seq) λw1 r1=>?_;replace hW:=r1 hW;refine CU rfl (λw1=>stepG_region) λw1 r1=>?_;replace hW:=r1 hW;refine Goes.step rfl λw1 r1=>?_;replace hW:=r1 hW;rw[show List.range q7.size=[0]from rfl];have h1:q7[0]?=some q7[0]:=rfl;have h2:Region.wanted q7[0] (yielded q7 T4)=true:=rfl;have h3:q7[0].op=.call { callee:=.value (.func 73),args:=#[.tmp 9,.const (JK 1)],argTypes:=#[179,3] }:=rfl;have h4:(base 33).kind≠.early:=by simp[base]
  refine goes_call h1 h2 h4 h3 func73 Jr3 J00u ?_;refine⟨⟨rfl,rfl⟩,?_⟩;have e9:=Jm1 wY.w9;have ea:(#[.tmp 9,.const (JK 1)]:Array Operand).map (Act.eval ⟨T4,[]⟩)=#[ptr Wg,JK 1]:=by simp[Act.eval,e9]
  rw[ea,show(#[ptr Wg,JK 1]:JC).size=2 from rfl];refine S.add (JGo (HR AJ W E F R Wg C k p m c T0 mm w0 t0 q0 kk cs) i s (JSp (HR AJ W E F R Wg C k p m c T0 mm w0 t0 q0 kk cs) r)) 3 ⟨T4,[]⟩ (.code (.region 8 q8 false)::K1' kk) w1 hW λw5 hW=>?_;have Ag:=wY.size;show Goes prog true (RM 179 Wg) DC0 (JGo (HR AJ W E F R Wg C k p m c T0 mm w0 t0 q0 kk cs) i s (JSp (HR AJ W E F R Wg C k p m c T0 mm w0 t0 q0 kk cs) r)) 3 (G ((base 33).at ⟨T4.setIfInBounds 21 (.tuple #[]),[]⟩ (.inRegion q7 []::.code (.region 8 q8 false)::K1' kk)) cs) w5;have IJ:RT Wg C k p m c T0 (T4.setIfInBounds 21 (.tuple #[])):=wY.set (.inr (by omega)) _;have VK:(T4.setIfInBounds 21 (.tuple #[]))[10]?=some (ptr s):=by grind
  have zH:(T4.setIfInBounds 21 (.tuple #[]))[18]?=some (JK i):=by grind
  generalize T4.setIfInBounds 21 (.tuple #[])=T5 at IJ VK zH ⊢;refine CU rfl (λw1=>stepG_region_end) λw1 r1=>?_;replace hW:=r1 hW;refine CU rfl (λw1=>stepG_region) λw1 r1=>?_;replace hW:=r1 hW;rw[show List.range q8.size=[0,1]from rfl];have hsz5:=IJ.size;refine CU (g':=G ((base 33).at ⟨T5.setIfInBounds 22 (.func (.func 74) #[] (Fa Wg s k p m c C)),[]⟩ (.inRegion q8 [1]::K1' kk)) cs) rfl (λw1=>?_) λw1 r1=>?_
  .exact UN (o:=q8[0]) (v:=.func (.func 74) #[] (Fa Wg s k p m c C)) rfl rfl (by simp[base]) (by simp[execOp,q8,Act.eval,go_sem,Fa,IJ.w9,IJ.k7,IJ.p5,IJ.m4,IJ.c3,IJ.C8,VK];try rfl) (by simp[execOp,q8,Act.eval,go_sem];try rfl)
  replace hW:=r1 hW;refine Goes.stop λw6 r6=>?_;replace hW:=r6 hW;refine goJ Ap PO YR KW hi (by omega) IJ VK w6 ?_;have SG:RT Wg C k p m c T0 (T5.setIfInBounds 22 (.func (.func 74) #[] (Fa Wg s k p m c C))):=IJ.set (.inr (by omega)) _;have y18:(T5.setIfInBounds 22 (.func (.func 74) #[] (Fa Wg s k p m c C)))[18]?=some (JK i):=by grind
  generalize T5.setIfInBounds 22 (.func (.func 74) #[] (Fa Wg s k p m c C))=T6 at SG y18 ⊢;have Js2:=SG.size;refine Jqu (n:=n+7) ?_;refine CU rfl (λw1=>stepG_region_end) λw1 r1=>?_;replace hW:=r1 hW;refine CU rfl (λw1=>stepG_inBlock) λw1 r1=>?_;replace hW:=r1 hW;refine CU rfl (λw1=>stepG_region) λw1 r1=>?_;replace hW:=r1 hW;rw[show List.range q9.size=[0,1]from rfl];have Un:IntKind.i64.wrap ((i:Int)+1)=((i+1:Nat):Int):=by rw[IntKind.wrap_i64];omega
  refine CU (g':=G ((base 33).at ⟨T6.setIfInBounds 23 (JK ((i+1:Nat):Int)),[]⟩ (.inRegion q9 [1]::K0 kk)) cs) rfl (λw1=>?_) λw1 r1=>?_
  .exact UN (o:=q9[0]) (v:=JK ((i+1:Nat):Int)) rfl rfl (by simp[base]) (by simp[execOp,q9,Act.eval,go_sem,y18,Un]) (by simp[execOp,q9,Act.eval,go_sem,y18])
  replace hW:=r1 hW;refine CU (g':=G ((base 33).at ⟨(T6.setIfInBounds 23 (JK ((i+1:Nat):Int))).setIfInBounds 18 (JK ((i+1:Nat):Int)),[]⟩ (.inRegion q9 []::K0 kk)) cs) rfl (λw1=>?_) λw1 r1=>?_
  .exact UN (o:=q9[1]) (v:=JK ((i+1:Nat):Int)) rfl rfl (by simp[base]) (by simp[execOp,q9,Act.eval,go_sem,Js2]) (by simp[execOp,q9,Act.eval,go_sem])
  replace hW:=r1 hW;refine CU rfl (λw1=>stepG_region_end) λw1 r1=>?_;replace hW:=r1 hW;refine CU rfl (λw1=>stepG_inLoop) λw1 r1=>?_;replace hW:=r1 hW;refine hn _ _ ((SG.set (.inr (by omega)) _).set (.inr (by omega)) _) ?_ hW
  grind
end
section
variable{P:Program}{ty:JH}{Wg:Nat}{Fin EG Anch sS:JF->JE->Prop}{g:JF}{w:JE}
def YI.mono(h:∀g w,Fin g w->EG g w)(x:YI P ty Wg Fin g w):YI P ty Wg EG g w:=by obtain⟨h1,g',h2,n,h3⟩:=x;exact⟨h1,g',h2,n,Ol h h3⟩
def JKe.mono(h:∀g w,Fin g w->EG g w)(x:JKe P ty Wg Fin g w):JKe P ty Wg EG g w:=by obtain⟨h1,g',h2,n,h3⟩:=x;exact⟨h1,g',h2,n,Ol (λ_ _=>YI.mono h) h3⟩
def JW4.mono(h:∀g w,Fin g w->EG g w)(x:JW4 P ty Wg Fin g w):JW4 P ty Wg EG g w:=
 ⟨x.1,λhw=>by obtain⟨g',h2,n,h3⟩:=x.2 hw;exact⟨g',h2,n,Ol (λ_ _=>JKe.mono h) h3⟩⟩
def JW3.mono(h:∀g w,Fin g w->EG g w)(x:JW3 P ty Wg Fin g w):JW3 P ty Wg EG g w:=
 ⟨x.1,x.2.1,x.2.2.1,λhw=>by obtain⟨g',h2,n,h3⟩:=x.2.2.2 hw;exact⟨g',h2,n,Ol (λ_ _=>JW4.mono h) h3⟩⟩
def JWr.mono(h:∀g w,Fin g w->EG g w)(x:JWr P ty Wg Fin g w):JWr P ty Wg EG g w:=by obtain⟨h1,g',h2,n,h3⟩:=x;exact⟨h1,g',h2,n,Ol (λ_ _=>JW3.mono h) h3⟩
def JW2.mono{vs:Nat}(h:∀g w,Fin g w->EG g w)(ha:∀g w,Anch g w->sS g w)(x:JW2 P ty Wg Fin Anch vs g w):JW2 P ty Wg EG sS vs g w:=by
 refine⟨x.1,λv hv hw=>⟨λe=>?_,λe=>?_⟩⟩
 .obtain⟨g',h2,n,h3⟩:=(x.2 v hv hw).1 e;exact⟨g',h2,n,Ol (λ_ _=>JWr.mono h) h3⟩
 .obtain⟨g',h2,n,h3⟩:=(x.2 v hv hw).2 e;exact⟨g',h2,n,Ol ha h3⟩
def JW1.mono(h:∀g w,Fin g w->EG g w)(ha:∀g w,Anch g w->sS g w)(x:JW1 P ty Wg Fin Anch g w):JW1 P ty Wg EG sS g w:=by refine⟨x.1,λv hv hw=>?_⟩;obtain⟨g',h2,h3,h4⟩:=x.2 v hv hw;exact⟨g',h2,λe=>by obtain⟨n,h5⟩:=h3 e;exact⟨n,Ol (λ_ _=>JKe.mono h) h5⟩,λe=>by obtain⟨n,h5⟩:=h4 e;exact⟨n,Ol (λ_ _=>JW2.mono h ha) h5⟩⟩
end
structure Jjt(Wg:Nat)(cs:List Frame)(AJ:Frame->JF->JE->Prop):Prop where
 run:∀f g w,AJ f g w->g.status=.running
 round:∀(Fin:JF->JE->Prop)(a₀:Act)(k₀:List Item),(∀w,WgLive 179 Wg w->Goes prog true (RM 179 Wg) DC0 Fin 0 (G ((base 33).at (a₀.put (some 24) (.tuple #[])) (.inRegion q10 []::k₀)) cs) w) ->
  ∀g w,AJ ((base 33).at a₀ (.inRegion q10 [0]::k₀)) g w->∃m,Goes prog true (RM 179 Wg) DC0 (JW1 prog 179 Wg Fin (AJ ((base 33).at a₀ (.inRegion q10 [0]::k₀)))) m g w
def Jg6{main:Bool}{b:Frame}{a:Act}{kk:List Item}{cs:List Frame}{w:JE}{ops:Array Oper}{i:Nat}{rest:List Nat}{o:Oper}(ho:ops[i]?=some o)(hw:Region.wanted o (yielded ops a.tmps)=true)(hk:b.kind≠.early)(Ar:o.op=.alloc 179) :
  stepG prog main (G (b.at a (.inRegion ops (i::rest)::kk)) cs) w=.go (G (b.at (a.put o.dst (ptr w.heap.size)) (.inRegion ops rest::kk)) cs) { w with heap:=w.heap.push (wgBlock 179 0 0) } #[]:=by
 have hr:(execOp a.eval o).run prog w=.ok (.value (ptr w.heap.size)) { w with heap:=w.heap.push (wgBlock 179 0 0) }:=by unfold execOp;simp only[Ar];simp[go_sem,ptr,wgBlock]
 have he:(execOp a.eval o).events prog w #[]=#[]:=by unfold execOp;simp only[Ar];simp[go_sem]
 rw[stepG_value ho hw hk hr];unfold listed;rw[he,seen_none]
structure Jqv(W E:JB)(C:Nat)(w0:JE)(R2:Nat->(JB)->Option Nat->JE->Prop)(E2:JB)(w:JE):Prop where
 bok:BOk C0 S0 W E2 w
 le:∀b,E b->E2 b
 keep:∀b,E b->b≠C->w.heap[b]?=w0.heap[b]?
 parts:∃(cs:JC)(O:Nat->Nat->Prop),w.heap[C]?=some (.cells cs 171)/\cs.size=4/\(∀i j,i<4->j<4->i≠j->∀b,O i b->¬O j b)/\(∀i,i<4->∀b,O i b->E2 b/\¬E b/\w0.heap.size<=b)/\∀i,i<4->∃r,cs[i]?=some (.map r)/\(∀b,r=some b->E2 b)/\R2 i (O i) r w
def WR.self{C:Cx}{ok:JG->Code->Prop}{X:JB}{w:JE}(Ae:C.st=false)(h:∀b,X b->∃o,w.heap[b]?=some o/\Kv C ok (idE X) b o o):WR C ok (idE X) w w:=by
 refine⟨rfl,λb b' ⟨e,hb⟩=>?_,λb c c' h1 h2=>h1.1.symm.trans h2.1,λb c b2 h1 h2=>h1.1.trans h2.1.symm,λb hb=>absurd hb (C.lax Ae b),λb b' o o' ⟨e,hb⟩ h1 h2=>?_,λ_ b b' h=>h.1,λ_=>rfl,λe=>by grind⟩
 all_goals grind
def J00x(Sh:JB):Md (C1 Sh) C0:=by
 refine⟨λf h=>?_,λt h=>?_,λn h=>?_⟩
 .have h':f∈[35,69,71,249,250,256,257,263,264]:=Lj.1 h;simp only[AL,BU,or_false]at h';rcases h' with rfl|rfl|rfl|rfl|rfl|rfl|rfl|rfl|rfl<;>(show List.contains _ _=true;kernel_rfl)
 .simp only[Cx.Ed,Bool.or_eq_true]at h ⊢;refine h.imp (λh=>h.imp (λh=>?_) id) (λh=>(by cases h));have h':t∈[186,189,192]:=Lj.1 h;simp only[AL,BU,or_false]at h';rcases h' with rfl|rfl|rfl<;>(show List.contains _ _=true;kernel_rfl)
 .have h':n∈["Copy","Merge"]:=Lj.1 (Cx.oN h);simp only[AL,BU,or_false]at h';rcases h' with rfl|rfl<;>(show C0.mok _=true;kernel_rfl)
section
variable{AJ:Frame->JF->JE->Prop}{W E F:JB}{R R2:Nat->(JB)->Option Nat->JE->Prop}{Wg C k p m c mm:Nat}{T0:JC}{w0:JE}{t0:Trace}{q0:Nat->Nat}{kk:List Item}{cs:List Frame}
def Jni{W0:JB}{wb:JE}(Ci:∀b,W0 b->W b)(YV:∀b,W b->b<wb.heap.size)(PO:∀b,F b->E b)(hB:BOk C0 S0 W E wb)(N8:w0.heap=wb.heap.push (wgBlock 179 0 0))(hos:w0.os=wb.os)(Ug:Wg=wb.heap.size)(hC:E C)(Ap:C≠Wg){w':JE}{D:Nat->CG}(h:Jww (HR AJ W0 (λb=>E b\/(W b/\¬W0 b)) F R Wg C k p m c T0 mm w0 t0 q0 kk cs) w' D)
  (hR:∀i Sh E2 w2 r r',i<4->(∀b,F b->Sh b)->Sub (idE Sh) E2->WR (C1 Sh) (okP (C1 Sh) S1) E2 w2 w'->VR (C1 Sh) E2 (.map r) (.map r')->R i Sh r w2->R2 i (λb'=>∃b,E2 b b'/\¬Sh b) r' w') :
  ∃E2,Jqv (λb=>W b\/b=Wg) E C wb R2 E2 w':=by
 have Ac:∀b,E b->b<wb.heap.size:=λb hb=>hB.lt hb;have keep:∀b,E b->b≠C->w'.heap[b]?=wb.heap[b]?:=λb hb Uh=>by
  rw[h.jw.keep b (.inl ⟨.inl hb,Uh⟩)];show w0.heap[b]?=_
  grind
 have hq:∀i,i<4->∃(Sh:JB)(E2:J5)(w2:JE)(r r':Option Nat),(D i).v=.map r'/\(∀b,F b->Sh b)/\(∀b,Sh b->F b\/Wg<b)/\Sub (idE Sh) E2/\Link (C1 Sh) S1 E2 (D i).own (D i).X w2 w'/\VR (C1 Sh) E2 (.map r) (.map r')/\R i Sh r w2:=λi hi=>(h.res i hi).2
 let E2:JB:=λb=>E b\/∃i,∃_:i<4,∃(Sh:JB)(E2:J5)(w2:JE),(∀b,Sh b->F b\/Wg<b)/\Sub (idE Sh) E2/\Link (C1 Sh) S1 E2 (D i).own (D i).X w2 w'/\rng E2 b
 have J04n:∀i,∃O:JB,i<4->(∀b,O b->(D i).own b/\E2 b)/\∃r',(D i).v=.map r'/\(∀b,r'=some b->E2 b)/\R2 i O r' w':=by
  intro i;by_cases hi:i<4
  case neg=>simp[*]
  obtain⟨Sh,E3,w2,r,r',h1,h2,YQ,h3,h4,h5,h6⟩:=hq i hi;refine⟨_,λ_=>⟨λb' ⟨b,hb,hs⟩=>⟨(h4.rng b b' hb).2 hs,.inr ⟨i,hi,Sh,E3,w2,YQ,h3,h4,_,hb⟩⟩,r',h1,λb hb=>?_,hR i Sh E3 w2 r r' hi h2 h3 h4.wr h5 h6⟩⟩;subst hb;cases h5 with
  |map hm=>exact .inr ⟨i,hi,Sh,E3,w2,YQ,h3,h4,_,hm⟩
 obtain⟨O,hO⟩:=Classical.axiomOfChoice J04n;have Js3:∀i,i<4->∃r',(D i).v=.map r'/\(∀b,r'=some b->E2 b)/\R2 i (O i) r' w':=λi hi=>(hO i hi).2;obtain⟨cells,DF,Nh⟩:=h.jw.pay;have Aq:∀i,i<4->cells[i]?=some (D i).v:=by
  intro i hi;have:=(h.res i hi).1;unfold Has World.cell? at this
  grind
 refine⟨E2,⟨⟨?_,.inl hB.hnd,λg hg=>.inl (hB.gl g hg),λb hb he=>?_⟩,λb hb=>.inl hb,keep,cells,O,?_,Nh,λi j hi hj KJ b h1 h2=>h.jw.NM i j hi hj KJ b ((hO i hi).1 b h1).1 (h.jw.Ie j hj b ((hO j hj).1 b h2).1),λi hi b hb=>⟨((hO i hi).1 b hb).2,λhE=>?_,by have:=(h.jw.Oz i hi b ((hO i hi).1 b hb).1).2;exact Ug▸Nat.le_of_lt this⟩,λi hi=>?_⟩⟩
 .refine WR.self rfl λb hb=>?_;by_cases Uh:b=C
  .subst Uh;refine⟨_,DF,cells,_,rfl,⟨rfl,λi x x' h1 h2=>?_⟩,λhs=>absurd hs (C0.lax rfl b),λ_=>⟨rfl,λe=>by cases e⟩⟩;have hi:i<4:=by have:=(BJ.1 h1).1;rw[Nh]at this;exact this
   rw[Aq i hi]at h1 h2;cases h1;cases h2;obtain⟨r',e1,e2,_⟩:=Js3 i hi;rw[e1];cases r' with
   |none=>exact .I5
   |some b=>exact .map ⟨rfl,e2 b rfl⟩
  .rcases hb with hb|⟨i,hi,Sh,E3,w2,DJ,DR,hL,hr⟩
   .obtain⟨o,o',h1,h2,h3⟩:=hB.wr.get (b:=b) ⟨rfl,hb⟩;rw[h1]at h2;cases h2;exact⟨o,(keep b hb Uh).trans h1,h3.mono (Oj λb hb=>.inl hb)⟩
   .have hw:=hL.wr.right (ok':=okP C0 S0) (J00x Sh) (C0.lax rfl) rfl (λe=>by cases e);obtain⟨o,o',h1,h2,h3⟩:=hw.get (b:=b) ⟨rfl,hr⟩;rw[h1]at h2;cases h2;exact⟨o,h1,h3.mono (Oj λb hb=>.inr ⟨i,hi,Sh,E3,w2,DJ,DR,hL,hb⟩)⟩
 .rcases he with he|⟨i,hi,Sh,E3,w2,DJ,DR,hL,a,hr⟩
  .rcases hb with hb|hb
   .exact hB.dis b hb he
   grind
  .have:=h.jw.avoid i hi b (hL.rng _ _ hr).1;rcases hb with hb|hb
   .by_cases hs:Sh a
    .have e:a=b:=hL.wr.fn a a b (DR a a ⟨rfl,hs⟩) hr;subst e;rcases DJ a hs with hf|hf
     .exact hB.dis a hb (PO a hf)
     grind
    .have ho:=(hL.rng _ _ hr).2 hs;exact(h.jw.Oz i hi b ho).1 ⟨.inr ⟨hb,this.2.2⟩,this.2.1⟩
   .exact this.1 hb
 .exact DF
 .have ho:=((hO i hi).1 b hb).1;exact(h.jw.Oz i hi b ho).1 ⟨.inl hE,λe=>(h.jw.avoid i hi b (h.jw.Ie i hi b ho)).2.1 e⟩
 grind
end
def UE.of_heap{F:JB}{w0 w1:JE}{k p m c:Nat}{R:Nat->(JB)->Option Nat->JE->Prop}(h:UE F w0 k p m c R)(hh:∀b,F b->w1.heap[b]?=w0.heap[b]?):UE F w1 k p m c R:=by
 refine⟨λb hb=>?_,h.hnd,h.kF,h.pF,h.mF,h.cF,λi s Wg C w hi hs hw hc=>h.run i s Wg C w hi hs (λb hb=>(hw b hb).trans (hh b hb)) hc⟩;obtain⟨h1,o,h2,h3⟩:=h.sh b hb
 grind
section
variable{AJ:Nat->Frame->JF->JE->Prop}{W E F:JB}{R R2:Nat->(JB)->Option Nat->JE->Prop}{C k p m c:Nat}{wb:JE}{T:JC}{kk:List Item}{cs:List Frame}
def J00z(W E:JB)(C k p m c:Nat)(T0:JC)(wb:JE)(R2:Nat->(JB)->Option Nat->JE->Prop)(kk:List Item)(cs:List Frame)(W':JB)(g':JF)(w':JE):Prop:=
 ∃Wg T' E2,W'=(λb=>W b\/b=Wg)/\RT Wg C k p m c T0 T'/\g'=G ((base 33).at ⟨T',[]⟩ (.inRegion q10 []::.code Kz::kk)) cs/\Jqv W' E C wb R2 E2 w'
def Jl4(hS:∀Wg,nI Wg cs (AJ Wg))(Xi:∀Wg,Jjt Wg cs (AJ Wg))(hB:BOk C0 S0 W E wb)(Ag:T.size=49)(h3:T[3]?=some (ptr c))(h4:T[4]?=some (ptr m))(h5:T[5]?=some (ptr p))(h7:T[7]?=some (ptr k))(h8:T[8]?=some (ptr C))
  (hC:E C) (pay:PayAt C 4 wb) (PO:∀b,F b->E b/\b≠C) (KW:UE F wb k p m c R)
  (hR:∀w' i Sh E2 w2 r r',i<4->(∀b,F b->Sh b)->Sub (idE Sh) E2->WR (C1 Sh) (okP (C1 Sh) S1) E2 w2 w'->VR (C1 Sh) E2 (.map r) (.map r')->R i Sh r w2->R2 i (λb'=>∃b,E2 b b'/\¬Sh b) r' w') :
  Reach prog (J00z W E C k p m c T wb R2 kk cs) W
   (G ((base 33).at ⟨T,[]⟩ (.inRegion q3 [0]::.code (.seq (.seq (.region 4 q4 false) (.block 0 (.loop LL))) (.seq (.region 10 q10 false) Kz))::kk)) cs) wb:=by
 intro gs sl t q W0 hSy YV h0 hCm;have Ci:∀b,W0 b->W b:=λb hb=>(hSy b hb).1;have Ae:∀d,stepG prog true (G ((base 33).at ⟨T,[]⟩ (.inRegion q3 [0]::.code (.seq (.seq (.region 4 q4 false) (.block 0 (.loop LL))) (.seq (.region 10 q10 false) Kz))::kk)) cs) (wb.at d) =
   .go (G ((base 33).at ⟨T.setIfInBounds 9 (ptr wb.heap.size),[]⟩ (.inRegion q3 []::.code (.seq (.seq (.region 4 q4 false) (.block 0 (.loop LL))) (.seq (.region 10 q10 false) Kz))::kk)) cs) ((λw=>{ w with heap:=w.heap.push (wgBlock 179 0 0) }) (wb.at d)) #[]:=λd=>
  Jg6 (o:=q3[0]) rfl rfl (by simp[base]) rfl
 obtain⟨N1,YP,d,sl1,t1,q1,KR,AQ,YX,Xc,Dp⟩:=Jae (P:=prog) (W:=W0) (f:=λw=>{ w with heap:=w.heap.push (wgBlock 179 0 0) }) rfl Ae (λd=>by show wb.heap.size<=(wb.heap.push _).size;simp) (sl:=sl) h0 hCm (atRel_refl wb);generalize Ug:wb.heap.size=Wg at *;have Ac:∀b,E b->b<Wg:=λb hb=>Ug▸hB.lt hb;have Ap:C≠Wg:=by grind
 let w0:JE:={ (wb.at d)with heap:=(wb.at d).heap.push (wgBlock 179 0 0) }
 have Qd:w0.heap=wb.heap.push (wgBlock 179 0 0):=rfl;have Xl:∀b,b<Wg->w0.heap[b]?=wb.heap[b]?:=λb hb=>by
  grind
 have KW':UE F w0 k p m c R:=KW.of_heap λb hb=>Xl b (Ac b (PO b hb).1);have hgs0:0<YP.size:=(BJ.1 YX).1
 let H:=HR (AJ Wg) W0 (λb=>E b\/(W b/\¬W0 b)) F R Wg C k p m c T (YP.size-1) w0 t1 q1 kk cs
 have hT:RT Wg C k p m c T (T.setIfInBounds 9 (ptr Wg)):=by have ne:∀i,i≠9->(T.setIfInBounds 9 (ptr Wg))[i]?=T[i]?:=λi hi=>AV (by omega);exact⟨by grind,(ne 3 (by omega)).trans h3,(ne 4 (by omega)).trans h4,(ne 5 (by omega)).trans h5,(ne 7 (by omega)).trans h7,(ne 8 (by omega)).trans h8,by simp[Ag],λi _ h2 _=>ne i h2⟩
 have hwl:WgLive 179 Wg w0:=⟨0,0,by show w0.heap[Wg]?=_;grind⟩;have hjs:JSp H 4 (G ((base 33).at ⟨T.setIfInBounds 9 (ptr Wg),[]⟩ (.inRegion q3 []::.code (.seq (.seq (.region 4 q4 false) (.block 0 (.loop LL))) (.seq (.region 10 q10 false) Kz))::kk)) cs) w0:=by
  obtain⟨n,hn⟩:=J04m (T0:=T) (W:=W0) (E:=λb=>E b\/(W b/\¬W0 b)) (w0:=w0) (mm:=YP.size-1) (t0:=t1) (q0:=q1) (kk:=kk) (hS Wg) Ap (λb hb=>⟨.inl (PO b hb).1,(PO b hb).2⟩) (λb hb=>Ac b (PO b hb).1) KW' 4 (by omega);generalize T.setIfInBounds 9 (ptr Wg)=T1 at hT ⊢;have Uy:=hT.size;refine Jqu (n:=n+8) ?_;have hW:=hwl;show Goes prog true (RM 179 Wg) DC0 (StopJ H 4) (n+8) _ w0;generalize w0=w at hW ⊢;refine CU rfl (λw1=>stepG_region_end) λw1 r1=>?_;replace hW:=r1 hW;refine CU rfl (λw1=>stepG_seq) λw1 r1=>?_;replace hW:=r1 hW;refine CU rfl (λw1=>stepG_seq) λw1 r1=>?_;replace hW:=r1 hW;refine CU rfl (λw1=>stepG_region) λw1 r1=>?_;replace hW:=r1 hW;rw[show List.range q4.size=[0]from rfl];refine CU (g':=G ((base 33).at ⟨T1.setIfInBounds 18 (JK 0),[]⟩ (.inRegion q4 []::.code (.block 0 (.loop LL))::.code (.seq (.region 10 q10 false) Kz)::kk)) cs) rfl (λw1=>?_) λw1 r1=>?_
  .exact UN (o:=q4[0]) (v:=JK 0) rfl rfl (by simp[base]) (by simp[execOp,q4,Act.eval,go_sem]) (by simp[execOp,q4,Act.eval,go_sem])
  replace hW:=r1 hW;refine CU rfl (λw1=>stepG_region_end) λw1 r1=>?_;replace hW:=r1 hW;refine CU rfl (λw1=>stepG_block) λw1 r1=>?_;replace hW:=r1 hW;refine CU rfl (λw1=>stepG_loop) λw1 r1=>?_;replace hW:=r1 hW;exact hn _ _ (hT.set (.inr (by omega)) _) (by simp[Uy]) hW
 have O8:∀g w,H.Anch g w->∃m,Goes H.P true (RM H.ty H.Wg) DC0 (JW1 H.P H.ty H.Wg H.Fin H.Anch) m g w:=by rintro g w ⟨T2,f,⟨OA,rfl⟩,hA⟩;obtain⟨n,hn⟩:=(Xi Wg).round H.Fin ⟨T2,[]⟩ (.code Kz::kk) (λw _=>Goes.stop λw1 _=>⟨_,OA.set (j:=24) (.inr (by omega)) (.tuple #[]),rfl⟩) g w hA;exact⟨n,Ol (λ_ _=>JW1.mono (λ_ _ h=>h) λg w h=>⟨T2,_,⟨OA,rfl⟩,h⟩) hn⟩
 have QT:PayAt C 4 w0:=by obtain⟨cells,h1,h2⟩:=pay;exact⟨cells,(Xl C (Ac C hC)).trans h1,h2⟩
 have kP:w0.heap.size=Wg+1:=by grind
 obtain⟨N2,Nb,w2,Pj,t2,q2,D,a2,BM,wZ,hF,QD,hE⟩:=Jqp (H:=H) (q:=q1) (gs:=YP) (sl:=sl1) (λi own X v w w' h r=>QW.rely h r) (λg w ⟨T,f,_,hA⟩=>(Xi Wg).run f g w hA) (λg w ⟨T,_,hg⟩=>by rw[hg];rfl) (by show(4:Nat)<_;omega) O8 Xc Dp
  (by show YP.size=YP.size-1+1;omega) YX hjs (by show 0<(4:Nat);omega) (by show w0.heap[Wg]?=_;rw[Qd,<- Ug];simp;rfl) QT (by show Wg<w0.heap.size;omega) (by show C<w0.heap.size;grind) Ap (λh=>hB.dis C (Ci C h) hC) (λh=>by have:=hCm.low Wg h;omega)
  (λb ⟨hb,Uh⟩=>hb.elim (λhb=>⟨by show b<w0.heap.size;grind,by have:=Ac b hb;show b≠Wg;omega,Uh,λh=>hB.dis b (Ci b h) hb⟩) λhb=>⟨by show b<w0.heap.size;grind,by have:=YV b hb.1;show b≠Wg;omega,Uh,hb.2⟩)
 obtain⟨T2,OA,rfl⟩:=hF;obtain⟨E2,jX⟩:=Jni (R2:=R2) Ci (λb hb=>by grind) (λb hb=>(PO b hb).1) hB Qd rfl Ug.symm hC Ap hE (hR w2);have keep:∀b,W b->w2.heap[b]?=wb.heap[b]?:=λb hb=>by
  have e:w2.heap[b]?=w0.heap[b]?:=by
   by_cases Fj:W0 b
   .exact hE.jw.keep b (.inr Fj)
   .exact hE.jw.keep b (.inl ⟨.inr ⟨hb,Fj⟩,λe=>hB.dis C (e▸hb) hC⟩)
  grind
 obtain⟨st,sm,AY⟩:=hE.wg;refine⟨N1+N2,Nb,w2,Pj,t2,q2,_,_,_,ZT KR BM,wZ,QD,⟨Wg,T2,E2,rfl,OA,rfl,jX⟩,⟨λ_ h=>.inl h,keep,hE.jw.os,hE.jw.out⟩,λb hb=>?_,λb hb=>?_⟩
 .rcases hb with hb|rfl
  .obtain⟨h1,a,z,h2⟩:=hSy b hb
   grind
  .exact⟨.inr rfl,_,_,AY⟩
 .rcases hb with hb|rfl
  .grind
  .exact hE.jw.wg
end
def Shd(F:JB)(w:JE)(b:Nat):Prop:=∃o,w.heap[b]?=some o/\∀X Sh:JB,(∀b,F b->X b)->Jnf (C1 Sh) (idE X) o
section
variable{C:Cx}{E:J5}{w w':JE}{F:JB}{b x:Nat}{arr:JC}{t:JH}{k:IntKind}{xs:JD}{cap:Nat}
def _root_.Go.Sim.AR.VZ(h:∀v∈arr.toList,VR C E v v):AR C E arr arr:=⟨rfl,λi x x' h1 h2=>by
 grind⟩
def _root_.Go.Sim.AR.Jnj(h:Plain arr):AR C E arr arr:=.VZ λv hv=>by obtain⟨k,n,rfl⟩:=h v hv;exact .int k n
def Shd.of_cells(h:Blk false w b arr t)(hv:∀X Sh:JB,(∀b,F b->X b)->∀v∈arr.toList,VR (C1 Sh) (idE X) v v):Shd F w b:=by obtain⟨z,h1,h2⟩:=h;cases h2 rfl;exact⟨_,h1,λX Sh hX=>⟨rfl,.VZ (hv X Sh hX)⟩⟩
def Shd.plain(h:Blk false w b arr t)(hp:Plain arr):Shd F w b:=.of_cells h λX Sh _ v hv=>by obtain⟨k,n,rfl⟩:=hp v hv;exact .int k n
theorem Shd.row(h:Row false w b t k xs cap):Shd F w b:=by obtain⟨cur,h1,_,_,_,h5⟩:=h;exact .plain h1 h5
def Shd.bun{c:J7}{p:BP}{B:Bun}(h:Jw false w c p B)(hF:∀x∈p.pl,F x)(Dh:∀a,c.ba=some a->F a.block):∀x∈p.pl,Shd F w x:=λx hx=>by
 have m {x:Nat} (h:x=p.b\/x=p.rb\/x=p.rr\/x=p.hb\/x=p.hr\/x=p.lb\/lpl p.lr x):=hF x (BP.mem.2 h);rcases BP.mem.1 hx with rfl|rfl|rfl|rfl|rfl|rfl|hx
 .refine .of_cells h.hd λX Sh hX v hv=>?_;simp only[AL,BU,or_false]at hv;rcases hv with rfl|rfl|rfl|rfl
  .exact .int _ _
  .exact .iface _ (by kernel_rfl) (.ptr _ _ ⟨rfl,hX _ (m (.inr (.inl rfl)))⟩)
  .exact .iface _ (by kernel_rfl) (.ptr _ _ ⟨rfl,hX _ (m (.inr (.inr (.inr (.inl rfl)))))⟩)
  .exact .iface _ (by kernel_rfl) (.ptr _ _ ⟨rfl,hX _ (m (.inr (.inr (.inr (.inr (.inr (.inl rfl)))))))⟩)
 .refine .of_cells h.reg.hd λX Sh hX v hv=>?_;simp only[AL,BU,or_false]at hv;rcases hv with rfl|rfl
  .exact .int _ _
  .exact .slice _ _ _ _ ⟨rfl,hX _ (m (.inr (.inr (.inl rfl))))⟩
 .exact .row h.reg.row
 .refine .of_cells h.hist.hd λX Sh hX v hv=>?_;simp only[AL,BU,or_false]at hv;rcases hv with rfl|rfl
  .cases hc:c.ba with
   |none=>exact .Jk _ _
   |some a=>exact .slice _ _ _ _ ⟨rfl,hX _ (Dh a hc)⟩
  .exact .slice _ _ _ _ ⟨rfl,hX _ (m (.inr (.inr (.inr (.inr (.inl rfl))))))⟩
 .exact .row h.hist.row
 .refine .of_cells h.least.hd λX Sh hX v hv=>?_;simp only[AL,BU,or_false]at hv;rcases hv with rfl|rfl
  .exact .int _ _
  .unfold lval;cases hc:p.lr with
   |none=>exact .Jk _ _
   |some q=>obtain⟨r,cc⟩:=q;exact .slice _ _ _ _ ⟨rfl,hX _ (m (.inr (.inr (.inr (.inr (.inr (.inr ⟨cc,hc⟩)))))))⟩
 .obtain⟨cc,hc⟩:=hx;have:=h.least.row;unfold Qy at this
  grind[row]
def Cm.obj{L:List (JD × JJ)}(h:Cm w x L):∃es clock,w.heap[x]?=some (.map es clock)/\∀z∈es.toList,∃p∈L,z.key=.agg (ai .i64 p.1)/\z.val=p.2:=by
 obtain⟨L',h1,n,es,clock,h2,h3,h4,h5⟩:=h.own;refine⟨es,clock,h2,λz hm=>?_⟩;obtain⟨q,hq⟩:=h3.reads z hm;have AA:q∈(es.toList.map (rg prog 104 Rv)).foldr DataW.insert []:=(ZO _).mem_iff.2 (AZ.2 ⟨z,hm,by simp[rg,hq]⟩);have II:=DataW.map.inj h5;rw[<- II]at AA;obtain⟨p,Gu,rfl⟩:=AZ.1 AA;have jV:=h1.mem_iff.1 Gu;unfold WideElems.rd at hq;simp only[Gl,Fh]at hq;obtain⟨l,hl,d,hd,e⟩:=hq;have e1:l=klit p.1:=congrArg Prod.fst e;have e2:d.1=.held p.2:=congrArg Prod.snd e;refine⟨p,jV,?_,?_⟩
 .rw[e1]at hl;exact rW.inj hl (U6 (h.keys p jV))
 .simp only[Rv,Cb]at hd
  grind
def Shd.tab{c:J7}{T:List TR}(h:TabAt false w c x T)(hF:∀z,z=x\/z∈tpl T->F z)(Dh:∀a,c.ba=some a->F a.block):∀z,z=x\/z∈tpl T->Shd F w z:=λz hz=>by
 rcases hz with rfl|hz
 .obtain⟨es,clock,h1,h2⟩:=h.map.obj;refine⟨_,h1,λX Sh hX=>⟨rfl,λi y y' hy DC=>?_⟩⟩;rw[hy]at DC;cases DC;obtain⟨p,hp,e1,e2⟩:=h2 y (Array.mem_toList_iff.2 (Ho hy));obtain⟨t,ht,rfl⟩:=AZ.1 hp;refine⟨?_,?_,rfl⟩
  .rw[e1];exact .Po (AR.Jnj .ai)
  .rw[e2];exact .ptr _ _ ⟨rfl,hX _ (hF _ (.inr (Jo.2 ⟨t,ht,BP.mem.2 (.inl rfl)⟩)))⟩
 .obtain⟨t,ht,hz⟩:=Jo.1 hz;exact Shd.bun (h.bun t ht) (λy hy=>hF y (.inr (Jo.2 ⟨t,ht,hy⟩))) Dh z hz
def Blk.frz{Sh:JB}(h:Blk false w b arr t):Blk true (frz Sh w) b arr t:=by
 obtain⟨z,h1,h2⟩:=h;by_cases hs:Sh b
 .exact⟨(0,arr.size),by rw[oQ hs,h1];rfl,λe=>by cases e⟩
 .exact⟨z,by rw[Jg4 hs,h1],λe=>by cases e⟩
def Row.frz{Sh:JB}(h:Row false w b t k xs cap):Row true (frz Sh w) b t k xs cap:=by obtain⟨cur,h1,h2⟩:=h;exact⟨cur,h1.frz,h2⟩
def Jw.frz{Sh:JB}{c:J7}{p:BP}{B:Bun}(h:Jw false w c p B):Jw true (frz Sh w) c p B:=by
 refine⟨h.hd.frz,⟨h.reg.hd.frz,h.reg.row.frz⟩,⟨h.hist.hd.frz,h.hist.row.frz⟩,⟨h.least.hd.frz,?_⟩,h.nd⟩;have:=h.least.row;unfold Qy at this ⊢;cases hc:p.lr with
 |none=>rw[hc]at this;exact this
 |some q=>rw[hc]at this;exact⟨this.1.frz,this.2⟩
def Cm.frz{Sh:JB}{L:List (JD × JJ)}(h:Cm w x L):Cm (frz Sh w) x L:=by obtain⟨L',h1,n,es,clock,h2,h3⟩:=h.own;exact⟨h.keys,h.nodup,L',h1,n,es,clock,Jye h2,h3⟩
def TabAt.frz{Sh:JB}{c:J7}{T:List TR}(h:TabAt false w c x T):TabAt true (frz Sh w) c x T:=
 ⟨h.map.frz,λt ht=>(h.bun t ht).frz,h.ok,h.out,h.dis⟩
end
def Jqw(F:JB)(w:JE)(fb:PV)(pass:JD->Bool):Prop:=
 ∀w',(∀a v,F a.block->w.cell? a=some v->w'.cell? a=some v)->∀x,EM x->Calls prog fb.fn (#[.agg (ai .i64 x)]++fb.cap) w' λe w2=>e=.returned (.bool (pass x))/\Tch w'.heap.size M0 w' w2
structure RF(F:JB)(w:JE)(c:J7)(k p m cb:Nat)(ka:JI)(kc:Nat)(ks:List Je)(fb:PV)(mk src:Nat)(S:List TR)(pass:JD->Bool):Prop where
 ck:w.cell? ⟨k,0,none⟩=some (.slice ka ks.length kc)
 cp:w.cell? ⟨p,0,none⟩=some fb.val
 cm:w.cell? ⟨m,0,none⟩=some (JK mk)
 cc:w.cell? ⟨cb,0,none⟩=some (.map (some src))
 keys:KAt false w ka kc ks
 tab:TabAt false w c src S
 pass:Jqw F w fb pass
 kF:F k
 pF:F p
 mF:F m
 cF:F cb
 hF:F prog.globals.size
 rF:∀a,ka=some a->F a.block
 tF:∀x,x=src\/x∈tpl S->F x
 bF:∀a,c.ba=some a->F a.block
 sh:∀b,F b->prog.globals.size<=b/\Shd F w b
 cfg:CZ c
 kn:ks.length<=1000
 ex:∀x∈ks,∃B,tm S x.1=some B
def RW(c:J7)(S:List TR)(mk:Nat)(pass:JD->Bool)(ks:List Je)(i:Nat)(Sh:JB)(r:Option Nat)(w:JE):Prop:=
 ∃m T,r=some m/\TabAt false w c m T/\Sum c (tm T) (ents S mk pass (CP i ks.length ks))/\(∀x,x=m\/x∈tpl T->¬Sh x)/\T.length<=ks.length+4/\∀a,c.ba=some a->Sh a.block
def RC(c:J7)(S:List TR)(mk:Nat)(pass:JD->Bool)(ks:List Je)(i:Nat)(O:JB)(r:Option Nat)(w:JE):Prop:=
 ∃m T,r=some m/\TabAt false w c m T/\Sum c (tm T) (ents S mk pass (CP i ks.length ks))/\(∀x,x=m\/x∈tpl T->O x)/\T.length<=ks.length+4
def RC.J04o{c:J7}{S:List TR}{mk:Nat}{pass:JD->Bool}{ks:List Je}{i:Nat}{Sh:JB}{E2:J5}{w2 w':JE}{r r':Option Nat}(hs:Sub (idE Sh) E2)(hW:WR (C1 Sh) (okP (C1 Sh) S1) E2 w2 w')(hv:VR (C1 Sh) E2 (.map r) (.map r'))(h:RW c S mk pass ks i Sh r w2) :
  RC c S mk pass ks i (λb'=>∃b,E2 b b'/\¬Sh b) r' w':=by
 obtain⟨m,T,rfl,h1,h2,h3,h4,h5⟩:=h;cases hv with
 |@map _ m' he=>
  obtain⟨k1,k2⟩:=h1.ren hW (.inl rfl) (λa ha=>hs _ _ ⟨rfl,h5 a ha⟩) he;refine⟨m',_,rfl,k2,by grind[J04k],λx hx=>?_,by grind⟩;rcases hx with rfl|hx
  .grind
  .obtain⟨y,hy,rfl⟩:=zY.1 hx
   grind
section
variable{F:JB}{w0 w:JE}{c:J7}{k p m cb:Nat}{ka:JI}{kc:Nat}{ks:List Je}{fb:PV}{mk src:Nat}{S:List TR}{pass:JD->Bool}
def RF.wf(h:RF F w0 c k p m cb ka kc ks fb mk src S pass){i s:Nat}{Sh:JB}(hw:∀b,F b->w.heap[b]?=w0.heap[b]?)(hs:w.heap[s]?=some (.cells #[JK i] 3)) :
  WF (frz Sh w) c s k p m cb i ka kc ks fb mk src S pass:=by
 have cell:∀{a:Addr}{v:JJ},F a.block->w0.cell? a=some v->(frz Sh w).cell? a=some v:=λ{a v} hf hv=>by
  grind[Jjo,World.cell?_of_block]
 refine⟨cell h.kF h.ck,cell h.pF h.cp,cell h.mF h.cm,cell h.cF h.cc,by rw[Jjo];simp[World.cell?,hs],?_,(h.tab.kept λx hx=>hw x (h.tF x hx)).frz,λx hx w' q=>h.pass w' (λa v hf hv=>q.cell (cell hf hv)) x hx⟩;rcases h.keys with⟨e1,e2⟩|⟨g,cur,e,h2,h3⟩
 .exact .inl ⟨e1,e2⟩
 .exact .inr ⟨g,cur,e,(h2.kept (hw g (h.rF _ e))).frz,h3⟩
theorem Jqx{i j:Nat}(h:ks.length<=i+4*j):CP i j ks=CP i ks.length ks:=by
 have e1:=J8l h ks.length;have e2:=J8l (i:=i) (ks:=ks) (j:=ks.length) (by omega) j
 grind
def J010(wg s k p m c parts:Nat):T63 wg s k p m c parts=#[ptr wg,ptr s,ptr k,ptr p,ptr m,ptr c,ptr parts,JA,JA,JA,JA,JA,JA,JA,JA,JA,JA,JA,JA,JA,JA,JA,JA,JA,JA,JA,JA,JA,JA,JA,JA,JA,JA,JA,JA,JA,JA,JA,JA,JA]:=by
 unfold T63 Fa
 simp_all
def RF.work(h:RF F w0 c k p m cb ka kc ks fb mk src S pass):UE F w0 k p m cb (RW c S mk pass ks):=by
 refine⟨λb hb=>h.sh b hb,h.hF,h.kF,h.pF,h.mF,h.cF,λi s Wg C w hi hs hw hc=>?_⟩;have YR:∀b,F b->b<w.heap.size:=λb hb=>by
  obtain⟨_,o,ho,_⟩:=h.sh b hb
  grind
 have CX:s<w.heap.size:=Jj hc;have hWF:=h.wf (i:=i) (s:=s) (Sh:=λb=>F b\/b=s) hw hc;generalize BQ:frz (λb=>F b\/b=s) w=wz at hWF;have XU:wz.heap.size=w.heap.size:=by rw[<- BQ,Jcx]
 refine⟨λt1 w1=>w1.heap=wz.heap.push (.map #[] 0)/\t1=#[ptr Wg,ptr s,ptr k,ptr p,ptr m,ptr cb,ptr C,.map (some wz.heap.size),JA,.map (some wz.heap.size),JA,JA,JA,JA,JA,JA,JA,JA,JA,JA,JA,JA,JA,JA,JA,JA,JA,JA,JA,JA,JA,JA,JA,JA,JA,JA,JA,JA,JA,JA],λτ=>?_,?_⟩
 .rw[J010];simp only[c1,b63,TT,Ld,f74,A8];have jH:∀w,(Instr.makeMap 95 none).run prog w=.ok (.map (some w.heap.size)) (w.alloc (.map #[] 0)):=λ_=>rfl;go_wp2;exact⟨rfl,XU⟩
 .rintro t1 w1 ⟨e1,rfl⟩ τ;have hk:Keeps wz (w1.tp τ 0):=⟨by show _<=w1.heap.size;rw[e1];simp,λb hb=>by
   show w1.heap[b]?=_
   grind⟩
  have hm:Cm (w1.tp τ 0) wz.heap.size []:=(Cm.made wz).kept (by show w1.heap[_]?=_;rw[e1];rfl);have hL:WL wz c wz.heap.size i ks mk S pass 0 (w1.tp τ 0):=by
   refine⟨[],⟨hm,λt ht=>by simp at ht,λt ht=>by simp at ht,by simp[tpl],.nil⟩,?_,by simp,λx hx=>?_,hk⟩
   .exact .nil c
   .rcases hx with rfl|hx
    .grind
    .simp[tpl]at hx
  refine wp_mono (Jpz hWF h.ex h.kn hi h.cfg hL Wg C Jq) λe a w2 hq=>?_;cases e with
  |normal=>
   obtain⟨q1,q2,q3,r,q4,j,q5,q6,r0,rfl,T,t1,t2,t3,t4,t5⟩:=hq;refine⟨rfl,q1,q2,q3,_,q4,r0,T,rfl,t1,?_,λx hx D9=>?_,by omega,λa ha=>.inl (h.bF a ha)⟩
   .grind[Jqx]
   grind
  |_=>exact hq.elim
end
def Dat:Obj->Prop
 |.cells _ _ _=>True
 |.map _ _=>True
 |_=>False
def KE(E:JB)(w w':JE):Prop:=∀b o,E b->w.heap[b]?=some o->Dat o->w'.heap[b]?=some o
section
variable{C:Cx}{ok:JG->Code->Prop}{E E':JB}{w w1 w2 w':JE}{b x:Nat}{arr:JC}{t:JH}
def KE.refl:KE E w w:=λ_ _ _ h _=>h
def KE.trans(h:KE E w w1)(k:KE E w1 w2):KE E w w2:=λb o hb ho hd=>k b o hb (h b o hb ho hd) hd
def KE.mono(h:KE E' w w1)(hs:∀b,E b->E' b):KE E w w1:=λb o hb=>h b o (hs b hb)
def KE.of_eq(h:∀b,E b->w1.heap[b]?=w.heap[b]?):KE E w w1:=λb o hb ho _=>(h b hb).trans ho
def Jt(Ae:C.st=false)(hW:WR C ok (idE E) w w'):KE E w w':=by
 intro b o he ho hd;obtain⟨o1,o',h1,h2,h3⟩:=hW.get (b:=b) (b':=b) ⟨rfl,he⟩;rw[ho]at h1;cases h1;have hE:∀b b',idE E b b'->b=b':=λ_ _ h=>h.1;cases o with
 |cells c el fz=>
  obtain⟨c',FU,rfl,ha,_,hn⟩:=h3;have e:c'=c:=by
   apply Ll;intro i;cases hx:c[i]? with
   |none=>exact ha.VY hx
   |some v=>obtain⟨v',h4,r⟩:=ha.Ec hx;rw[h4,r.eq hE]
  rw[h2,e,(hn (C.lax Ae b)).1]
 |map es ck=>
  obtain⟨AU,rfl,hr⟩:=h3;have e:AU=es:=by
   apply Ll;intro i;cases hx:es[i]? with
   |none=>rw[PE]at hx ⊢;rw[<- hr.size];exact hx
   |some z=>
    have Ac:i<AU.size:=by rw[<- hr.size];grind
    have h4:AU[i]?=some AU[i]:=Bz Ac;have q:=hr.at_ i z _ hx h4;rw[h4];generalize AU[i]=z' at q;obtain⟨k,v,n⟩:=z;obtain⟨k',v',n'⟩:=z';have e1:=q.key.eq hE;have e2:=q.val.eq hE;have e3:=q.born
    grind
  rw[h2,e]
 |_=>exact hd.elim
def KE.cell(h:KE E w w'){a:Addr}{v:JJ}(he:E a.block)(hc:w.cell? a=some v):w'.cell? a=some v:=by
 unfold World.cell? at hc ⊢;cases ho:w.heap[a.block]? with
 |none=>grind
 |some o=>
  rw[ho]at hc;cases o with
  |cells c el fz=>rw[h _ _ he ho trivial];exact hc
  |_=>cases hc
def KE.blk(h:KE E w w'){fr:Bool}(he:E b)(hb:Blk fr w b arr t):Blk fr w' b arr t:=by obtain⟨z,h1,h2⟩:=hb;exact⟨z,h _ _ he h1 trivial,h2⟩
def KE.shd(h:KE E w w'){F:JB}(he:E b)(hs:Shd F w b):Shd F w' b:=by
 obtain⟨o,h1,h2⟩:=hs;refine⟨o,h _ _ he h1 ?_,h2⟩;have:=h2 (λ_=>True) (λ_=>False) λ_ _=>trivial;cases o<;>first|trivial|exact this.elim
theorem KE.at(h:KE E w w')(he:E b)(hs:∃F,Shd F w b):w'.heap[b]?=w.heap[b]?:=by
 obtain⟨F,o,h1,h2⟩:=hs;have hd:Dat o:=by
  have:=h2 (λ_=>True) (λ_=>False) λ_ _=>trivial;cases o<;>first|trivial|exact this.elim
 rw[h1,h _ _ he h1 hd]
def TabAt.ke{c:J7}{m:Nat}{T:List TR}(h:TabAt false w c m T)(k:KE E w w')(hE:∀x,x=m\/x∈tpl T->E x):TabAt false w' c m T:=
 h.kept λx hx=>k.at (hE x hx) ⟨λ_=>True,Shd.tab h (λ_ _=>trivial) (λ_ _=>trivial) x hx⟩
def KAt.ke{ka:JI}{kc:Nat}{ks:List Je}(h:KAt false w ka kc ks)(k:KE E w w')(hE:∀a,ka=some a->E a.block):KAt false w' ka kc ks:=by
 rcases h with h|⟨g,cur,h1,h2,h3⟩
 .exact .inl h
 .exact .inr ⟨g,cur,h1,k.blk (hE _ h1) h2,h3⟩
def TabAt.places{c:J7}{m:Nat}{T:List TR}(Ae:C.st=false)(hW:WR C ok (idE E) w w')(Dh:∀a,c.ba=some a->E a.block)(h:TabAt false w c m T)(hm:E m):∀x,x=m\/x∈tpl T->E x:=λx hx=>by
 rcases hx with rfl|hx
 .exact hm
 .exact((h.ren (fr:=false) hW (.inr rfl) (λa ha=>⟨rfl,Dh a ha⟩) ⟨rfl,hm⟩).1 x hx).2 |> λq=>by
   grind
def _root_.Go.Sim.WR.Y4(hW:WR C ok (idE E) w w')(he:E b){i:Nat}{v:JJ}(hc:w.cell? ⟨b,i,none⟩=some v):VR C (idE E) v v:=by
 obtain⟨v',h1,h2⟩:=hW.cell (b:=b) (b':=b) ⟨rfl,he⟩ hc;have:=h2.eq λ_ _ h=>h.1
 grind
def _root_.Go.Sim.VR.NP{o:Nat}{s:Option Nat}(h:VR C (idE E) (.pointer (some ⟨b,o,s⟩)) (.pointer (some ⟨b,o,s⟩))):E b:=by
 cases h with
 |ptr _ _ h=>exact h.2
def _root_.Go.Sim.VR.Jtu(h:VR C (idE E) (.map (some b)) (.map (some b))):E b:=by
 cases h with
 |map h=>exact h.2
def _root_.Go.Sim.VR.MQ{a:Addr}{l c:Nat}(h:VR C (idE E) (.slice (some a) l c) (.slice (some a) l c)):E a.block:=by
 cases h with
 |slice _ _ _ _ h=>exact h.2
def KE.step(hk:Keeps w w1)(l:KE E' w1 w')(hs:∀b,E b->E' b):KE E w w':=λb o hb ho hd=>l b o (hs b hb) ((hk.heap b (Jj ho)).trans ho) hd
def _root_.Go.Sim.TmR.slot{S:Kn}{fn:JG}{T:JC}(h:TmR C S fn (idE E) T T){i:Nat}{v:JJ}(hi:(C.hl fn).contains i=false)(hv:T[i]?=some v):VR C (idE E) v v:=h.at_ i v v hi hv hv
end
def HOk(w:JE):Prop:=∃arr t,Blk false w prog.globals.size arr t/\Plain arr
def HOk.ke{E:JB}{w w':JE}(h:HOk w)(k:KE E w w')(hE:E prog.globals.size):HOk w':=by obtain⟨arr,t,h1,h2⟩:=h;exact⟨arr,t,k.blk hE h1,h2⟩
end Go.Sim.Z
end
