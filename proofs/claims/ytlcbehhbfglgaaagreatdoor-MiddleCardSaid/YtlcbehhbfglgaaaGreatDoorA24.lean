/- Proved: laws for the claim. No conditions. -/
import Derived.Test.YtlcbehhbfglgaaaGreatDoorA22
import Derived.Test.YtlcbehhbfglgaaaGreatDoorA23
set_option linter.all false
set_option maxHeartbeats 16000000
set_option maxRecDepth 100000
open Go.Proofs.Tryz
namespace Go.Sim.Z
open Go Go.Proofs Go.RowKit Go.Conc Go.Maps
inductive I8(w:JE):JJ->(Int->Int)->Prop
 |one:I8 w h49 (λy=>IntKind.u64.wrap y)
 |two{b:Nat}{s:Int}(h:w.heap[b]?=some (.cells #[.int .i64 s] 3)):I8 w (.func (.func 95) #[] #[pt b]) (YM s)
 |mix{b:Nat}{s:Int}(h:w.heap[b]?=some (.cells #[.int .i64 s] 3)):I8 w (.func (.func 167) #[] #[pt b]) (TV s)
section
variable{w:JE}{h:JJ}{hs:Int->Int}
def I8.bd(q:I8 w h hs)(y:Int):0<=hs y/\hs y<=18446744073709551615:=by
 cases q with
 |one=>exact Jkc y
 |two _=>exact Jkc _
 |mix _=>exact Jz3 _ y
def Sv:JJ->Option Nat
 |.func _ _ a=>(match(a[0]?:Option JJ)with
  |some (.pointer (some p))=>some p.block
  |_=>none)
 |_=>none
def I8.kept(q:I8 w h hs){w':JE}(hk:∀b s,Sv h=some b->w.heap[b]?=some (.cells #[.int .i64 s] 3)->w'.heap[b]?=some (.cells #[.int .i64 s] 3)):I8 w' h hs:=by
 cases q with
 |one=>exact .one
 |two h=>exact .two (hk _ _ rfl h)
 |mix h=>exact .mix (hk _ _ rfl h)
def I8.calls(q:I8 w h hs){x:Nat}{c:J7}{seed nf:Int}{vm base:Nat}(qc:DU w x c seed h nf vm base)(item at_:Int) :
  Calls prog 39 #[.pointer (some ⟨x,0,none⟩),.int .i64 item,.int .i64 at_] w λe w'=>e=.returned (.tuple #[.int .u64 (hs item),.nilIface])/\Tch w.heap.size M0 w w':=by
 cases q with
 |one=>exact Jpx qc item at_
 |two h=>exact Jlb qc h item at_
 |mix h=>exact Jlc qc h item at_
end
def NewH(w:JE)(c:J7)(seed:Int)(bs:JD)(hs:Int->Int)(e:Ending)(w':JE):Prop:=∃h,NewAt w c seed h bs e w'/\I8 w' h hs/\∀b,Sv h=some b->w.heap.size<=b
def hsK(k n seed:Int):Int->Int:=if k=0 then TV seed else if k=1 thenλy=>IntKind.u64.wrap y else YM n
section
variable{w:JE}{c:J7}{seed:Int}
def Jv8{fr:Bool}{bb cap:Nat}{bs:JD}(hc:CZ c)(hr:Row fr w bb 3 .i64 bs cap)(Dh:c.ba=some ⟨bb,0,none⟩)(BL:c.nb=bs.length)(hp:bs.Pairwise (· < ·))(k n:Int)(hk:0<=k/\k<3) :
  Calls prog 29 #[.agg (EI c 3 seed),.int .i64 k,.int .i64 n] w (NewH w c seed bs (hsK k n seed)):=by
 obtain rfl|rfl|rfl:k=0\/k=1\/k=2:=by omega
 .refine(Jv7 hc hr Dh BL hp n).mono λe w' ⟨hb,h1,h2,h3⟩=>⟨_,h1,.mix h3,λb e=>?_⟩;cases e;exact h2
 .exact(Jt5 hc hr Dh BL hp n).mono λe w' h1=>⟨_,h1,.one,λb e=>by cases e⟩
 .refine(Jv6 hc hr Dh BL hp n).mono λe w' ⟨hb,h1,h2,h3⟩=>⟨_,h1,.two h3,λb e=>?_⟩;cases e;exact h2
end
def Joj{c:Int}(hc:I64 c)(w:JE):Calls prog 26 #[.int .i64 c] w λe w'=>e=.returned (.int .i64 (Jr c 3))/\w'=w:=by
 have hp:=Yo (n:=3) hc (by omega) (by omega) w
 go_enter func26,ntmps26
 go_wp2_with (go_at_call 18;refine hp.mono ?_;rintro e w1 ⟨rfl,rfl⟩)
 go_ret;exact⟨rfl,rfl⟩
def Hg(f:Nat->JJ):((List.range 70).map f).toArray=#[f 0,f 1,f 2,f 3,f 4,f 5,f 6,f 7,f 8,f 9,f 10,f 11,f 12,f 13,f 14,f 15,f 16,f 17,f 18,f 19,f 20,f 21,f 22,f 23,f 24,f 25,f 26,f 27,f 28,f 29,f 30,f 31,f 32,f 33,f 34,f 35,f 36,f 37,f 38,f 39,f 40,f 41,f 42,f 43,f 44,f 45,f 46,f 47,f 48,f 49,f 50,f 51,f 52,f 53,f 54,f 55,f 56,f 57,f 58,f 59,f 60,f 61,f 62,f 63,f 64,f 65,f 66,f 67,f 68,f 69]:=by rfl
def Si{T:JC}(h:T.size=70):∃f:Nat->JJ,T=((List.range 70).map f).toArray:=⟨_,dM h⟩
noncomputable def b7:Code:=f14.body.getD .skip
noncomputable def uT:Code:=fC b7
noncomputable def uU:Code:=fC (sC b7)
noncomputable def uV:Code:=fC (sC (sC b7))
noncomputable def uX:Code:=fC (sC (sC (sC b7)))
noncomputable def uY:Code:=fC (sC (sC (sC (sC b7))))
noncomputable def uZ:Code:=fC (sC (sC (sC (sC (sC b7)))))
noncomputable def vC:Code:=fC (sC (sC (sC (sC (sC (sC b7))))))
noncomputable def ops7:Array Oper:=opsOf (fC (sC (sC (sC (sC (sC (sC (sC b7))))))))
noncomputable def UM:Code:=sC (sC (sC (sC (sC (sC (sC (sC b7)))))))
def J05b:b7=.seq uT (.seq uU (.seq uV (.seq uX (.seq uY (.seq uZ (.seq vC (.seq (.region 9 ops7 false) UM))))))):=by kernel_rfl
def body7:f14.body=some b7:=by kernel_rfl
section
variable{w:JE}{T:JC}{d:Deferred}{c:Int}{sl:JJ}{ga:JI}{cb x c2:Nat}
def Jv9(Ag:T.size=70)(h0:T[0]?=some (.int .i64 c))(h1:T[1]?=some sl) :
  uT.wp prog (λe a w'=>e=.normal/\a.defers=[d]/\a.tmps.size=70/\a.tmps[0]?=some (.int .i64 c)/\a.tmps[1]?=some sl/\w'.heap=w.heap) ⟨T,[d]⟩ w:=by
 obtain⟨f,rfl⟩:=Si Ag;rw[Hg]at *;have e0:f 0=_:=Aa h0;have e1:f 1=_:=Aa h1;rw[e0,e1];simp only[uT,b7,fC,f14,A8];go_wp2
def Jva(hc:I64 c)(Ag:T.size=70)(h0:T[0]?=some (.int .i64 c))(h1:T[1]?=some sl) :
  uU.wp prog (λe a w'=>e=.normal/\a.defers=[d]/\a.tmps.size=70/\a.tmps[0]?=some (.int .i64 c)/\a.tmps[1]?=some sl/\a.tmps[5]?=some (pt (w.heap.size+2))/\Blk false w' (w.heap.size+2) (EI (TU c (w.heap.size+1)) 3 c) 47/\Row false w' (w.heap.size+1) 3 .i64 Dc 4/\Tch w.heap.size M0 w w') ⟨T,[d]⟩ w:=by
 obtain⟨f,rfl⟩:=Si Ag;rw[Hg]at *;have e0:f 0=_:=Aa h0;have e1:f 1=_:=Aa h1;rw[e0,e1];have hcf:=J9e hc w;simp only[uU,b7,fC,sC,f14,A8]
 go_wp2_with (go_at_call 19;refine hcf.mono ?_;rintro e w1 ⟨rfl,rfl⟩)
 obtain⟨W1,AP⟩:∃W1,w.alloc (.cells #[.int .i64 3,.int .i64 (4+Jr c 1048576 % 3),.int .i64 (1+Jr c 1048576 / 3 % 8),.slice (some ⟨w.heap.size+1,0,none⟩) 4 4,.int .i64 c] 47)=W1:=⟨_,rfl⟩;have z1:W1.heap.size=w.heap.size+1:=by rw[<- AP,size_alloc]
 obtain⟨W2,Dv⟩:∃W2,W1.alloc (.cells #[.int .i64 (-5),.int .i64 0,.int .i64 10,.int .i64 1000] 3)=W2:=⟨_,rfl⟩;have z2:W2.heap.size=w.heap.size+2:=by rw[<- Dv,size_alloc,z1]
 have hr:=Ja (w:=W1) (.cells #[.int .i64 (-5),.int .i64 0,.int .i64 10,.int .i64 1000] 3);rw[Dv,z1]at hr;simp only[AP,Dv];refine⟨⟨(0,0),by have:=Ja (w:=W2) (.cells (EI (TU c (w.heap.size+1)) 3 c) 47);rw[z2]at this;exact this,λ_=>rfl⟩,⟨#[.int .i64 (-5),.int .i64 0,.int .i64 10,.int .i64 1000],⟨(0,0),(J8 _ (by omega)).trans hr,λ_=>rfl⟩,rfl,by decide,λi hi=>?_,λv hv=>?_⟩,?_⟩
 .match i,(show i<4 from hi)with
  |0,_|1,_|2,_|3,_=>rfl
 .simp only[AL,BU,or_false]at hv;rcases hv with rfl|rfl|rfl|rfl<;>exact⟨_,_,rfl⟩
 .rw[<- Dv,<- AP];exact((Tch.refl.alloc (Ad _) _).alloc (by rw[size_alloc];omega) _).alloc (by rw[size_alloc,size_alloc];omega) _
def Jvb(hc:I64 c)(Ag:T.size=70)(h0:T[0]?=some (.int .i64 c))(h1:T[1]?=some sl)(h5:T[5]?=some (pt cb)) :
  uV.wp prog (λe a w'=>e=.normal/\a.defers=[d]/\a.tmps.size=70/\a.tmps[0]?=some (.int .i64 c)/\a.tmps[1]?=some sl/\a.tmps[5]?=some (pt cb)/\a.tmps[6]?=some (.int .i64 (Jr c 3))/\w'.heap=w.heap) ⟨T,[d]⟩ w:=by
 obtain⟨f,rfl⟩:=Si Ag;rw[Hg]at *;have e0:f 0=_:=Aa h0;have e1:f 1=_:=Aa h1;have e5:f 5=_:=Aa h5;rw[e0,e1,e5];have hk:=Joj hc w;simp only[uV,b7,fC,sC,f14,A8]
 go_wp2_with (go_at_call 26;refine hk.mono ?_;rintro e w1 ⟨rfl,rfl⟩)
def Jvc{fr:Bool}{cf:J7}{bb capb:Nat}{bs:JD}{seed k:Int}(hk:0<=k/\k<3)(hc:CZ cf)(hr:Row fr w bb 3 .i64 bs capb)(Dh:cf.ba=some ⟨bb,0,none⟩)(BL:cf.nb=bs.length)(hp:bs.Pairwise (· < ·))(hb:Blk false w cb (EI cf 3 seed) 47)(Ag:T.size=70)(h0:T[0]?=some (.int .i64 c))(h1:T[1]?=some sl)(h5:T[5]?=some (pt cb))(h6:T[6]?=some (.int .i64 k)) :
  uX.wp prog (λe a w'=>e=.normal/\a.defers=[d]/\a.tmps.size=70/\a.tmps[1]?=some sl/\∃x,a.tmps[7]?=some (pt x)/\a.tmps[8]?=some .nilIface/\NewH w cf seed bs (hsK k c seed) (.returned (.tuple #[pt x,.nilIface])) w') ⟨T,[d]⟩ w:=by
 obtain⟨f,rfl⟩:=Si Ag;rw[Hg]at *;have e0:f 0=_:=Aa h0;have e1:f 1=_:=Aa h1;have e5:f 5=_:=Aa h5;have e6:f 6=_:=Aa h6;rw[e0,e1,e5,e6];have hn:=Jv8 (seed:=seed) hc hr Dh BL hp k c hk;obtain⟨q0,q1,q2,q3,q4⟩:=Blk.five hb;unfold EI at hn;clear Dh BL hr hp hc hb;simp only[uX,b7,fC,sC,f14,A8]
 go_wp2_with (go_at_call 29;refine hn.mono ?_;rintro e w1 hN;have YT:=hN;obtain⟨h,⟨⟨x,vm,base,b2,c2,rfl,_⟩,_⟩,_⟩:=hN)
def Jvd(Ag:T.size=70)(h1:T[1]?=some sl)(h7:T[7]?=some (pt x))(h8:T[8]?=some .nilIface) :
  uY.wp prog (λe a w'=>e=.normal/\a.defers=[d]/\a.tmps.size=70/\a.tmps[1]?=some sl/\a.tmps[7]?=some (pt x)/\w'.heap=w.heap) ⟨T,[d]⟩ w:=by
 obtain⟨f,rfl⟩:=Si Ag;rw[Hg]at *;have e1:f 1=_:=Aa h1;have e7:f 7=_:=Aa h7;have e8:f 8=_:=Aa h8;rw[e1,e7,e8];simp only[uY,b7,fC,sC,f14,A8];go_wp2
def Jve{fs:List Jd}{R:JE->Prop}(hI:Calls prog 22 #[pt x,.slice ga fs.length c2] w λe w'=>e=.returned .nilIface/\R w')(Ag:T.size=70)(h1:T[1]?=some (.slice ga fs.length c2))(h7:T[7]?=some (pt x)) :
  uZ.wp prog (λe a w'=>e=.normal/\a.defers=[d]/\a.tmps.size=70/\a.tmps[1]?=some (.slice ga fs.length c2)/\a.tmps[7]?=some (pt x)/\a.tmps[8]?=some .nilIface/\R w') ⟨T,[d]⟩ w:=by
 obtain⟨f,rfl⟩:=Si Ag;rw[Hg]at *;have e1:f 1=_:=Aa h1;have e7:f 7=_:=Aa h7;rw[e1,e7];simp only[uZ,b7,fC,sC,f14,A8]
 go_wp2_with (go_at_call 22;refine hI.mono ?_;rintro e w1 ⟨rfl,hR⟩)
 exact hR
def Jvf(Ag:T.size=70)(h1:T[1]?=some sl)(h7:T[7]?=some (pt x))(h8:T[8]?=some .nilIface) :
  vC.wp prog (λe a w'=>e=.normal/\a.defers=[d]/\a.tmps.size=70/\a.tmps[1]?=some sl/\a.tmps[7]?=some (pt x)/\w'.heap=w.heap) ⟨T,[d]⟩ w:=by
 obtain⟨f,rfl⟩:=Si Ag;rw[Hg]at *;have e1:f 1=_:=Aa h1;have e7:f 7=_:=Aa h7;have e8:f 8=_:=Aa h8;rw[e1,e7,e8];simp only[vC,b7,fC,sC,f14,A8];go_wp2
end
section
variable{w:JE}{T:JC}{d:Deferred}{ga:JI}{n c2 x g vc:Nat}{va:JI}{sl v:JJ}
def Js0(Ag:T.size=70)(h1:T[1]?=some (.slice ga 0 c2))(h7:T[7]?=some (pt x))(h9:T[9]?=some (.slice va 0 vc))(Ce:T[10]?=some .nilIface) :
  UM.wp prog (λe a w'=>e=.ret/\a.defers=[d]/\a.tmps.size=70/\a.tmps[4]?=some (pt x)/\w'.heap=w.heap) ⟨T,[d]⟩ w:=by
 obtain⟨f,rfl⟩:=Si Ag;rw[Hg]at *;have e1:f 1=_:=Aa h1;have e7:f 7=_:=Aa h7;have e9:f 9=_:=Aa h9;have MZ:f 10=_:=Aa Ce;rw[e1,e7,e9,MZ];simp only[UM,b7,sC,f14,A8];go_wp2
def Jvg(hn:0<n)(hc:w.cell? ⟨g,1,none⟩=some (.int .i64 n))(Ag:T.size=70)(h1:T[1]?=some (.slice ga n c2))(h7:T[7]?=some (pt x))(h9:T[9]?=some (.slice (some ⟨g,0,none⟩) 1 vc))(Ce:T[10]?=some .nilIface) :
  UM.wp prog (λe a w'=>e=.ret/\a.defers=[d]/\a.tmps.size=70/\a.tmps[4]?=some (pt x)/\w'.heap=w.heap) ⟨T,[d]⟩ w:=by
 obtain⟨f,rfl⟩:=Si Ag;rw[Hg]at *;have e1:f 1=_:=Aa h1;have e7:f 7=_:=Aa h7;have e9:f 9=_:=Aa h9;have MZ:f 10=_:=Aa Ce;rw[e1,e7,e9,MZ];have X9:(0:Int)<n:=by omega
 have Ij:¬(n:Int)=0:=by omega
 simp only[UM,b7,sC,f14,A8];go_wp2
def Jz6{K:Exit->Act->JE->Prop}(Ag:T.size=70)(h1:T[1]?=some sl)(h7:T[7]?=some (pt x))(Xa:T[35]?=some (.tuple #[v,.nilIface]))(hv:∃a l c,v=.slice a l c)
  (hK:∀a,a.defers=[d]->a.tmps.size=70->a.tmps[1]?=some sl->a.tmps[7]?=some (pt x)->a.tmps[9]?=some v->a.tmps[10]?=some .nilIface->K .normal a w) :
  wpOps prog ops7 K [2,3,4,5,6] ⟨T,[d]⟩ w:=by
 obtain⟨f,rfl⟩:=Si Ag;rw[Hg]at *;have e1:f 1=_:=Aa h1;have e7:f 7=_:=Aa h7;have e35:f 35=_:=Aa Xa;rw[e1,e7,e35];obtain⟨va,vl,vc,rfl⟩:=hv;have h2:ops7[2]?=((ops7.toList.drop 2).take 5)[0]?:=by kernel_rfl
 have h3:ops7[3]?=((ops7.toList.drop 2).take 5)[1]?:=by kernel_rfl
 have h4:ops7[4]?=((ops7.toList.drop 2).take 5)[2]?:=by kernel_rfl
 have h5:ops7[5]?=((ops7.toList.drop 2).take 5)[3]?:=by kernel_rfl
 have h6:ops7[6]?=((ops7.toList.drop 2).take 5)[4]?:=by kernel_rfl
 have Ar:∀j,j<((ops7.toList.drop 2).take 5).length->ops7[2+j]?=((ops7.toList.drop 2).take 5)[j]?:=λj hj=>by
  have:j<5:=DX hj (by rw[List.length_take];omega);obtain rfl|rfl|rfl|rfl|rfl:j=0\/j=1\/j=2\/j=3\/j=4:=by omega
  .exact h2
  .exact h3
  .exact h4
  .exact h5
  .exact h6
 have e:=J9a (P:=prog) (ops:=ops7) (Q:=K) ((ops7.toList.drop 2).take 5) 2 Ar;clear Ar h2 h3 h4 h5 h6;rw[show List.range' 2 ((ops7.toList.drop 2).take 5).length=[2,3,4,5,6]from by kernel_rfl]at e;rw[e];simp only[ops7,opsOf,b7,fC,sC,f14,A8,List.take,List.drop];go_wp2;exact hK _ rfl rfl rfl rfl rfl rfl
end
def J05c:Ji C0 S0 14 uT=true:=by kernel_rfl
def J05d:Ji C0 S0 14 uU=true:=by kernel_rfl
def J05e:Ji C0 S0 14 uV=true:=by kernel_rfl
def J05f:Ji C0 S0 14 uX=true:=by kernel_rfl
def J05g:Ji C0 S0 14 uY=true:=by kernel_rfl
def J05h:Ji C0 S0 14 uZ=true:=by kernel_rfl
def J05i:Ji C0 S0 14 vC=true:=by kernel_rfl
def J05j:Ji C0 S0 14 UM=true:=by kernel_rfl
def J05k:IC C0 S0 14 ops7 [2,3,4,5,6]=true:=by kernel_rfl
def Vg:GY C0 14:=⟨f14,by kernel_rfl,by kernel_rfl,by kernel_rfl⟩
def df7:S0.df.contains 14=false:=rfl
def UH:C0.hl 14≠[]:=by show[1000]≠[];simp
def hl7{i:Nat}(h:(C0.hl 14).contains i=true):i∈([]:List Nat)\/500<=i:=by have h':i∈[1000]:=Lj.1 h;simp at h';omega
def vF{i:Nat}(h:i<500):(C0.hl 14).contains i=false:=by
 cases e:(C0.hl 14).contains i with
 |false=>rfl
 |true=>
  rcases hl7 e with h1|h1
  .cases h1
  .omega
def J05l:∃o,ops7[0]?=some o/\o.op=.move (.tmp 7)/\o.guard=none/\o.dst=some 34:=by simp only[ops7,opsOf,b7,fC,sC,f14,A8];exact⟨_,rfl,rfl,rfl,rfl⟩
def J05m:∃o,ops7[1]?=some o/\o.op=.call { callee:=.value (.func 17),args:=#[.tmp 34,.const (.int .i64 0),.const (.slice none 0 0),.const (.int .i64 10)],argTypes:=#[30,3,54,3] }/\o.guard=none/\o.dst=some 35:=by simp only[ops7,opsOf,b7,fC,sC,f14,A8];exact⟨_,rfl,rfl,rfl,rfl⟩
section
variable{W E:JB}{w:JE}{fn:JG}{c rest:Code}{t:JC}{k:List Item}{cs:List Frame}{Q:JC->JE->Prop}{Post:(JB)->JF->JE->Prop}
def Ql(Sl:List Nat)(hl:∀i,(C0.hl fn).contains i=true->i∈Sl\/500<=i)(Ap:C0.hl fn≠[])(hok:Ji C0 S0 fn c=true)(hb:GY C0 fn)(Nk:S0.df.contains fn=false)(hB:BOk C0 S0 W E w)(ht:TmR C0 S0 fn (idE E) t t)(Ag:t.size<=500)
  (K:∀τ,c.wp prog (λe a w1=>e=.normal/\a.tmps.size<=500/\(∀i∈Sl,a.tmps[i]?=t[i]?)/\Q a.tmps w1) ⟨t,[Jq]⟩ (w.tp τ 0))
  (kn:∀E' t' w1 w',(∀b,E b->E' b)->BOk C0 S0 W E' w'->WR C0 (okP C0 S0) (idE E') w1 w'->TmR C0 S0 fn (idE E') t' t'->Q t' w1->(∀b,W b->w'.heap[b]?=w.heap[b]?)->Reach prog Post W (G ((Go.Conc.base fn).at ⟨t',[]⟩ (.code rest::k)) cs) w') :
  Reach prog Post W (G ((Go.Conc.base fn).at ⟨t,[]⟩ (.code (.seq c rest)::k)) cs) w:=by
 refine Reach.mid (Mid:=λg' w'=>∃E' t' w1,g'=G ((Go.Conc.base fn).at ⟨t',[]⟩ (.code rest::k)) cs/\(∀b,E b->E' b)/\BOk C0 S0 W E' w'/\WR C0 (okP C0 S0) (idE E') w1 w'/\TmR C0 S0 fn (idE E') t' t'/\Q t' w1) ?_ λg' w' ⟨E',t',w1,e,h1,h2,h3,h4,h5⟩ hK=>?_
 .refine J6 (λw1=>stepG_seq) rfl λd=>?_;refine Reach.piece (b:=Go.Conc.base fn) (k:=.code rest::k) KY rfl hok hb Nk Ap (by simp[Go.Conc.base]) (hB.at d) ht (Q:=λe t w1=>e=.normal/\Q t w1) (λτ=>?_) (λE1 t1 w1 Am AQ CV AP Az DN=>Reach.here ⟨rfl,E1,t1,w1,rfl,AQ,CV,AP,Az,DN.2⟩) (λE1 t1 w1 Am todo AQ CV AP Az DN=>by cases DN.1);refine wp_mono (K τ) λe a w1 ⟨h1,h2,h0,h3⟩=>⟨.inl h1,λi hi=>?_,h1,h3⟩;rcases hl i hi with h|h
  .exact h0 i h
  .rw[Cc (by omega),Cc (by omega)]
 .subst e;exact kn E' t' w1 w' h1 h2 h3 h4 h5 hK
end
def J02n{E:JB}{h:JJ}{b:Nat}(hv:VR C0 (idE E) h h)(hb:Sv h=some b):E b:=by
 cases h with
 |func fn a cap=>
  cases hv with
  |func hf ha hx hc hy=>
   simp only[Sv]at hb;split at hb
   .rename_i p hp;cases hb;exact(hy 0 _ _ hp hp).NP
   .cases hb
 |_=>cases hb
def I8.ke{E:JB}{w w':JE}{h:JJ}{hs:Int->Int}(q:I8 w h hs)(k:KE E w w')(hE:∀b,Sv h=some b->E b):I8 w' h hs:=q.kept λb s hb hc=>k b _ (hE b hb) hc trivial
structure J05n(X E:JB)(w:JE)(x:Nat)(c:J7)(seed:Int)(h:JJ)(hs:Int->Int)(nf:Int)(vm base:Nat)(S:List TR):Prop where
 q:NJ E w x c seed h nf vm base S
 hash:I8 w h hs
 hb:∀b,Sv h=some b->E b/\b≠x/\b≠base/\b∉tpl S
 bnd:∃b2 c2,c.ba=some ⟨b2,0,none⟩/\Row false w b2 3 .i64 Dc c2/\b2≠x/\b2≠base/\b2∉tpl S
 nb:c.nb=4
 dX:x≠base/\x∉tpl S
 dV:vm≠base/\vm∉tpl S/\vm≠x
 new:∀b,X b->b≠x/\b≠base/\b∉tpl S
def J05o(X E:JB)(w:JE)(k:Int)(x:Nat)(c:J7)(h:JJ)(hs:Int->Int)(nf:Int)(vm base:Nat)(S:List TR):Prop:=
 J05n X E w x c k h hs nf vm base S/\hs=hsK (Jr k 3) k k/\c.bits=(TU k 0).bits/\c.K=(TU k 0).K/\0<=nf/\nf<=200
section
variable{W E:JB}{w:JE}{c:Int}{ga:JI}{fs:List Jd}{c2f:Nat}{pl:List Nat}{b₀:Frame}{a₀:Act}{ops:Array Oper}{i:Nat}{rest:List Nat}{kk:List Item}{cs:List Frame}{Post:(JB)->JF->JE->Prop}
def Jlf{T0:JC}(hB:BOk C0 S0 W E w)(hok:HOk w)(hc:I64 c)(fa:G8 false w ga fs c2f pl)(IQ:∀f∈fs,RH f/\BI f.k∈U64)(Ih:fs.length<=200)(Ag:T0.size=70)(h0:T0[0]?=some (.int .i64 c))(h1:T0[1]?=some (.slice ga fs.length c2f))(Bf:TmR C0 S0 14 (idE E) T0 T0)
  (kn:∀W' E' w' x c' h hs nf vm base S,(∀b,E b->E' b)->BOk C0 S0 W' E' w'->KE E w w'->NJ E' w' x c' c h nf vm base S->O3 c' hs fs S->(c'.bits=4+Jr c 1048576 % 3/\c'.nb=4)->(∀y,0<=hs y/\hs y<=18446744073709551615)->HOk w'->E' x->J05o E E' w' c x c' h hs nf vm base S ->
   Reach prog Post W' (G (b₀.at (a₀.put ((ops[i]?).bind (·.dst)) (pt x)) (.inRegion ops rest::kk)) cs) w') :
  Reach prog Post W (G ((Go.Conc.base 14).at ⟨T0,[]⟩ [.code b7]) (b₀.at a₀ (.inRegion ops (i::rest)::kk)::cs)) w:=by
 have Uk:prog.globals.size<w.heap.size:=hB.lt hB.hnd;have eg:∀a,ga=some a->E a.block:=λa e=>by rw[e]at h1;exact(Bf.slot (i:=1) (vF (by omega)) h1).MQ
 rw[J05b];have Xj:∀{a:Act}{t:JC},∀i∈([]:List Nat),a.tmps[i]?=t[i]?:=λi h=>by cases h
 refine Ql [] (λ_=>hl7) UH J05c Vg df7 hB Bf (by omega) (Q:=λt w1=>t.size=70/\t[0]?=some (.int .i64 c)/\t[1]?=some (.slice ga fs.length c2f)/\w1.heap=w.heap) (λτ=>wp_mono (Jv9 (w:=w.tp τ 0) Ag h0 h1) λe a w1 ⟨q1,q2,q3,q4,q5,q6⟩=>⟨q1,by omega,Xj,q3,q4,q5,q6⟩) λE0 T1 w1 w0 Tf fG Ci Az ⟨z1,z2,z3,z4⟩ _=>?_;have k0:KE E w w0:=(KE.of_eq λb _=>by rw[z4]).trans ((Jt rfl Ci).mono Tf);have hok0:=hok.ke k0 hB.hnd;have Ba:prog.globals.size<w0.heap.size:=fG.lt fG.hnd;clear z4;refine Ql [] (λ_=>hl7) UH J05d Vg df7 fG Az (by omega) (Q:=λt w1=>t.size=70/\t[0]?=some (.int .i64 c)/\t[1]?=some (.slice ga fs.length c2f)/\t[5]?=some (pt (w0.heap.size+2))/\Blk false w1 (w0.heap.size+2) (EI (TU c (w0.heap.size+1)) 3 c) 47/\Row false w1 (w0.heap.size+1) 3 .i64 Dc 4/\(w0.heap.size<=w1.heap.size/\∀b,b<w0.heap.size->w1.heap[b]?=w0.heap[b]?)) (λτ=>wp_mono (Jva (w:=w0.tp τ 0) hc z1 z2 z3) λe a w1 ⟨q1,q2,q3,q4,q5,q6,q7,q8,q9⟩=>⟨q1,by omega,Xj,q3,q4,q5,q6,q7,q8,q9.size,λb hb=>q9.heap b hb λh=>h⟩) λE1 T2 wb w1 U0 CV AP Bc ⟨y1,y0,y2,y3,y4,y5,y6⟩ _=>?_;generalize X9:w0.heap.size=n1 at *;have l1:=Jt rfl AP;have k1:KE E0 w0 w1:=(KE.of_eq λb hb=>y6.2 b (X9▸fG.lt hb)).trans (l1.mono U0);have eb:E1 (n1+2):=(Bc.slot (i:=5) (vF (by omega)) y3).NP;have er:E1 (n1+1):=(AP.Y4 eb ((y4.cell 3).trans rfl:wb.cell? ⟨n1+2,3,none⟩=some (.slice (some ⟨n1+1,0,none⟩) 4 4))).MQ;have b1:=l1.blk eb y4;have r1:=y5.keE l1 er;have jQ:=hok0.ke k1 fG.hnd;clear y4 y5 y6;refine Ql [] (λ_=>hl7) UH J05e Vg df7 CV Bc (by omega) (Q:=λt w2=>t.size=70/\t[0]?=some (.int .i64 c)/\t[1]?=some (.slice ga fs.length c2f)/\t[5]?=some (pt (n1+2))/\t[6]?=some (.int .i64 (Jr c 3))/\w2.heap=w1.heap) (λτ=>wp_mono (Jvb (w:=w1.tp τ 0) hc y1 y0 y2 y3) λe a w2 ⟨q1,q2,q3,q4,q5,q6,q7,q8⟩=>⟨q1,by omega,Xj,q3,q4,q5,q6,q7,q8⟩) λE1' T2' wb' Am Vh O0 hW1' ht2' ⟨v1,v0,v2,v3,v4,v5⟩ _=>?_;have yN:KE E1 w1 Am:=(KE.of_eq λb _=>by rw[v5]).trans ((Jt rfl hW1').mono Vh);have b1':=yN.blk eb b1;have r1':=r1.keE yN er;have Jos:=jQ.ke yN CV.hnd;have Bl:prog.globals.size<Am.heap.size:=O0.lt O0.hnd;clear v5 b1 r1 jQ;have OM:=Yr (c:=c) (n:=3) (by omega);refine Ql [] (λ_=>hl7) UH J05f Vg df7 O0 ht2' (by omega) (Q:=λt w2=>t.size=70/\t[1]?=some (.slice ga fs.length c2f)/\∃x h vm base b2 c2,t[7]?=some (pt x)/\t[8]?=some .nilIface/\(Am.heap.size<=x/\Am.heap.size<=vm/\Am.heap.size<=base/\Am.heap.size<=b2)/\DU w2 x { TU c (n1+1)with ba:=some ⟨b2,0,none⟩,cb:=c2 } c h 0 vm base/\w2.heap[base]?=some (.map #[] 0)/\Row false w2 b2 3 .i64 Dc c2/\(x≠vm/\x≠base/\x≠b2/\vm≠base/\vm≠b2/\base≠b2)/\(Am.heap.size<=w2.heap.size/\∀b,b<Am.heap.size->w2.heap[b]?=Am.heap[b]?)/\I8 w2 h (hsK (Jr c 3) c c)/\(∀b,Sv h=some b->b≠x/\b≠base)) (λτ=>wp_mono (Jvc (w:=Am.tp τ 0) OM (Yz c _) (Row.kept (w:=Am) r1' rfl) rfl rfl aK (Blk.kept (w:=Am) b1' rfl) v1 v0 v2 v3 v4) λe a w2 ⟨q1,q2,q3,q4,x,q6,q7,h,q8,q9,q10⟩=>by
  obtain⟨x',vm,base,b2,c2,e1,p1,p2,p3,p4,p5⟩:=q8.ex;obtain rfl:x=x':=by simpa using e1
  refine⟨q1,by omega,Xj,q3,q4,x,h,vm,base,b2,c2,q6,q7,p1,p2,p3,p4,p5,⟨q8.tch.size,λb hb=>q8.tch.heap b hb λh=>h⟩,q9,λb hb=>?_⟩;obtain⟨s,CQ⟩:∃s,w2.heap[b]?=some (.cells #[.int .i64 s] 3):=by
   generalize hsK (Jr c 3) c c=hsx at q9;cases q9 with
   |one=>cases hb
   |two h=>cases hb;exact⟨_,h⟩
   |mix h=>cases hb;exact⟨_,h⟩
  refine⟨λe=>?_,λe=>?_⟩
  .obtain⟨z,hz,_⟩:=p2.blk;rw[e,hz]at CQ;cases CQ
  .rw[e,p3]at CQ;cases CQ) λE2 T3 wb2 w2 le2 Dt Dv Dx ⟨x1,x2,x,h,vm,base,b2,c2,x4,x5,⟨g1,g2,g3,g4⟩,cu,em,rw2,⟨d1,d2,d3,d4,d5,d6⟩,⟨kz,kk'⟩,hh,xO⟩ _=>?_
 obtain⟨hs,Ux⟩:∃hs,hs=hsK (Jr c 3) c c:=⟨_,rfl⟩;rw[<- Ux]at hh;have l2:=Jt rfl Dv;have k2:KE E1' Am w2:=(KE.of_eq λb hb=>kk' b (O0.lt hb)).trans (l2.mono le2);have ex:E2 x:=(Dx.slot (i:=7) (vF (by omega)) x4).NP;obtain⟨c',MG⟩:∃c',c'={ TU c (n1+1)with ba:=some ⟨b2,0,none⟩,cb:=c2 }:=⟨_,rfl⟩;have WH:c'.ba=some ⟨b2,0,none⟩:=by rw[MG]
 have lT:c'.nb=4:=by rw[MG];rfl
 have cb':c'.bits=4+Jr c 1048576 % 3:=by rw[MG];rfl
 have Gp:CZ c':=by rw[MG];exact⟨(Yz c 0).b1,(Yz c 0).b2,(Yz c 0).k1,(Yz c 0).k2,(Yz c 0).nb⟩
 rw[<- MG]at cu;have yT:HOk wb2:=Jos.ke (KE.of_eq λb hb=>kk' b (O0.lt hb)) O0.hnd;have Js1:∃arr t,Blk false wb2 b2 arr t/\Plain arr:=by obtain⟨cur,p1,_,_,_,p2⟩:=rw2;exact⟨cur,_,p1,p2⟩
 have q2:NJ E2 w2 x c' c h 0 vm base []:=by
  refine NJ.Oq Dv cu (TabAt.of_empty em) yT Dt.hnd ex (λy hy=>?_) (λa ha=>?_) Gp (by simp)
  .rcases hy with rfl|hy
   .omega
   .simp[tpl]at hy
  .rw[WH]at ha;cases ha;exact⟨by show _<=b2;omega,Js1⟩
 have Jvh:∀b,Sv h=some b->E2 b:=λb hb=>J02n (Dv.Y4 ex cu.cells.2.2.2.2.2.1) hb;have Fv:I8 w2 h hs:=hh.ke l2 Jvh;have vT:E2 b2:=(q2.bE _ WH).1;have r2:=rw2.keE l2 vT;have Nv:=Jos.ke k2 O0.hnd;clear kz kk' cu yT Js1 rw2 em b1' r1' Jos hh;refine Ql [] (λ_=>hl7) UH J05g Vg df7 Dt Dx (by omega) (Q:=λt w3=>t.size=70/\t[1]?=some (.slice ga fs.length c2f)/\t[7]?=some (pt x)/\w3.heap=w2.heap) (λτ=>wp_mono (Jvd (w:=w2.tp τ 0) x1 x2 x4 x5) λe a w1 ⟨q1,q2,q3,q4,q5,q6⟩=>⟨q1,by omega,Xj,q3,q4,q5,q6⟩) λE4 T5 wb3 w4 Ti KH CY EW ⟨u1,u2,u3,v5⟩ _=>?_;have k3:KE E2 w2 w4:=(KE.of_eq λb _=>by rw[v5]).trans ((Jt rfl CY).mono Ti);have q4:=q2.ke k3 Dt.hnd Ti;have r4:=r2.keE k3 vT;have vG:=Nv.ke k3 Dt.hnd;have QK:=Fv.ke k3 Jvh;have vH:∀b,Sv h=some b->E4 b:=λb hb=>Ti _ (Jvh b hb);have YN:∀b,E b->E4 b:=λb hb=>Ti b (le2 b (Vh b (U0 b (Tf b hb))));have lH:KE E w w4:=k0.trans ((k1.mono Tf).trans ((yN.mono λb hb=>U0 b (Tf b hb)).trans ((k2.mono λb hb=>Vh b (U0 b (Tf b hb))).trans (k3.mono λb hb=>le2 b (Vh b (U0 b (Tf b hb)))))));have XW:∀b,E4 b->b<w4.heap.size:=λb hb=>KH.lt hb;have iJ:prog.globals.size<w4.heap.size:=KH.lt KH.hnd;have ex4:=XW _ q4.xE.1;have ev4:=XW _ q4.xE.2;have es4:=XW _ (q4.tE _ (.inl rfl)).1;have QB:=XW _ (q4.bE _ WH).1;obtain⟨pl4,Zg,fa4⟩:=G8.ke hB.wr eg lH fa;have plt:∀y∈pl4,y<Am.heap.size:=λy hy=>O0.lt (Vh _ (U0 _ (Tf _ (Zg y hy).2.1)));clear v5 r2 Nv q2 Fv;have ing:∀τ,Jx1 (w4.tp τ 0) x c' c h 0 vm base [] ga fs c2f pl4 hs Dc U64:=λτ=>{
  q:=q4.cube.kept rfl rfl
  tab:=q4.tab.kept λ_ _=>rfl
  fsa:=fa4.kept λ_ _=>rfl
  okf:=λg hg=>(IQ g hg).1
  bnd:=.inr ⟨b2,c2,WH,Row.kept r4 rfl⟩
  bsl:=by rw[lT];rfl
  so:=aK
  cfg:=Gp
  hsr:=QK.bd
  one:=λw1 t item at_=>I8.calls (QK.kept λb s hb hc=>(t.heap b (XW b (vH b hb)) λh=>h).trans hc) ((q4.cube.kept (w':=w4.tp τ 0) rfl rfl).kept (t.heap x q4.cube.blk.lt λh=>h) (t.heap vm q4.cube.vs.lt λh=>h)) item at_
  dF:=λy hy=>by have:=plt y hy;exact⟨by omega,by simp[tpl],by omega⟩
  dX:=⟨d2,by simp[tpl]⟩
  dV:=⟨d4,by simp[tpl],Ne.symm d1⟩
  dB:=λa ha=>by rw[WH]at ha;cases ha;exact⟨Ne.symm d6,by simp[tpl],QB,Ne.symm d3⟩
  n1:=by omega
  nf0:=by omega
  nf1:=by omega
  hU:=λg hg=>(IQ g hg).2
  hTU:=λt ht=>by cases ht
  hUn:=by rw[Jz0];omega }
 refine Ql [] (λ_=>hl7) UH J05h Vg df7 KH EW (by omega) (Q:=λt w5=>t.size=70/\t[1]?=some (.slice ga fs.length c2f)/\t[7]?=some (pt x)/\t[8]?=some .nilIface/\DU w5 x c' c h (0+fs.length) vm base/\(∃T',TabAt false w5 c' base T'/\(∀key,tm T' key=MS c' Dc hs 7 (tm []) fs key)/\∀y,y=base\/y∈tpl T'->y=base\/w4.heap.size<=y)/\(∀b,b<w4.heap.size->b≠x->b≠base->w5.heap[b]?=w4.heap[b]?)) (λτ=>wp_mono (Jve (w:=w4.tp τ 0) (Jrd (ing τ)) u1 u2 u3) λe a w5 ⟨p1,p2,p3,p4,p5,p6,p8⟩=>⟨p1,by omega,Xj,p3,p4,p5,p6,p8.q,by
  obtain⟨T',t1,t2,t3⟩:=p8.tab;exact⟨T',t1,t2,λy hy=>(t3 y hy).imp (λh=>h.resolve_right (by simp[tpl])) id⟩,λb hb h1 h2=>p8.tch.heap b hb λh=>by
  rcases h with h|h|h
  .exact h1 h
  .exact h2 h
  .simp[tpl]at h⟩) λE5 T6 wb5 w5 yQ fH PU V8 ⟨s1,s2,s3,s4,cu,⟨T',lZ,hT',D8⟩,kk5⟩ _=>?_
 have l5:=Jt rfl PU;have k5:KE (λb=>E4 b/\b≠x/\b≠base) w4 w5:=(KE.of_eq λb hb=>kk5 b (KH.lt hb.1) hb.2.1 hb.2.2).trans (l5.mono λb hb=>yQ b hb.1);have ex5:E5 x:=(V8.slot (i:=7) (vF (by omega)) s3).NP;have MB:O3 c' hs fs T':=by refine⟨lZ.nodup,λk=>?_,λf hf=>(IQ f hf).1.n,Ih⟩;have:=Jrt (c:=c') (bs:=Dc) (hs:=hs) (fs:=fs) (g0:=[]) 7 (g:=tm []) (λk=>rfl) k;rw[Gm]at this;exact(hT' k).trans this
 have hgx:prog.globals.size≠x/\prog.globals.size≠base:=by omega
 have yT:HOk wb5:=vG.ke (E:=λb=>b=prog.globals.size) (KE.of_eq λb hb=>by subst hb;exact kk5 _ (KH.lt KH.hnd) hgx.1 hgx.2) rfl;have q5:NJ E5 w5 x c' c h (0+fs.length) vm base T':=by
  refine NJ.Oq PU cu lZ yT fH.hnd ex5 (λy hy=>?_) (λa ha=>?_) Gp (by have:=MB.len;omega)
  .rcases D8 y hy with rfl|h
   .omega
   .omega
  .rw[WH]at ha;cases ha;obtain⟨cur,p1,p2,p3,p4,p5⟩:=r4;refine⟨by show _<=b2;omega,cur,_,p1.kept (kk5 b2 QB (Ne.symm d3) (Ne.symm d6)),p5⟩
 have kE5:KE E w w5:=lH.trans (k5.mono λb hb=>⟨YN b hb,by have:=O0.lt (Vh b (U0 b (Tf b hb)));omega,by have:=O0.lt (Vh b (U0 b (Tf b hb)));omega⟩);have Jvi:∀b,E b->E5 b:=λb hb=>yQ b (YN b hb);refine Ql [] (λ_=>hl7) UH J05i Vg df7 fH V8 (by omega) (Q:=λt w6=>t.size=70/\t[1]?=some (.slice ga fs.length c2f)/\t[7]?=some (pt x)/\w6.heap=w5.heap) (λτ=>wp_mono (Jvf (w:=w5.tp τ 0) s1 s2 s3 s4) λe a w1 ⟨q1,q2,q3,q4,q5,q6⟩=>⟨q1,by omega,Xj,q3,q4,q5,q6⟩) λE6 T7 wb6 w6 XV SB SH XR ⟨j1,j2,j3,v6⟩ _=>?_;have k6:KE E5 w5 w6:=(KE.of_eq λb _=>by rw[v6]).trans ((Jt rfl SH).mono XV);have q6:=q5.ke k6 fH.hnd XV;have ok6:HOk w6:=q6.hok;have yO:KE E w w6:=kE5.trans (k6.mono Jvi);have ex6:E6 x:=XV _ ex5;clear v6;obtain⟨o0,h40,p40,g40,q40⟩:=J05l;obtain⟨o1,h41,p41,g41,q41⟩:=J05m;refine J6 (λw1=>stepG_seq) rfl λe1=>?_;refine J6 (λw1=>stepG_region) rfl λe2=>?_;rw[show List.range ops7.size=[0,1,2,3,4,5,6]from by kernel_rfl];refine J6 (λw1=>LV (v:=pt x) h40 (by simp[Region.wanted,g40]) (by simp[Go.Conc.base]) (by simp[execOp,p40,Act.eval,Bq,j3]) (by simp[execOp,p40,Act.eval])) rfl λe3=>?_;rw[q40];have hB7:=((SB.at e1).at e2).at e3;generalize Td:((w6.at e1).at e2).at e3=w7 at hB7 ⊢;have hw7h:w7.heap=w6.heap:=by rw[<- Td];rfl
 clear Td;have k7:KE E6 w6 w7:=.of_eq λb _=>by rw[hw7h]
 have vx:VR C0 (idE E6) (pt x) (pt x):=.ptr _ _ ⟨rfl,ex6⟩;have kV:TmR C0 S0 14 (idE E6) (T7.setIfInBounds 34 (pt x)) (T7.setIfInBounds 34 (pt x)):=XR.set 34 vx λh=>by cases h
 refine Reach.call (B:=Go.Conc.base 14) (a:=⟨T7.setIfInBounds 34 (pt x),[]⟩) h41 (by simp[Region.wanted,g41]) (by simp[Go.Conc.base]) p41 (fn:=f17) (c:=b9) (by kernel_rfl) (by kernel_rfl) body9 λe4=>?_;have e9:(#[Operand.tmp 34,.const (.int .i64 0),.const (.slice none 0 0),.const (.int .i64 10)].map (Act.eval ⟨T7.setIfInBounds 34 (pt x),[]⟩))++Array.replicate (f17.ntmps-(#[Operand.tmp 34,.const (.int .i64 0),.const (.slice none 0 0),.const (.int .i64 10)].map (Act.eval ⟨T7.setIfInBounds 34 (pt x),[]⟩)).size) JA=#[pt x,.int .i64 (0:Nat),.slice none 0 0,.int .i64 10,JA,JA,JA,JA,JA,JA,JA,JA,JA,JA,JA,JA,JA,JA,JA,JA,JA,JA,JA,JA,JA,JA,JA,JA,JA,JA,JA,JA,JA]:=by
  have LH:f17.ntmps=33:=by kernel_rfl
  have h1:(#[Operand.tmp 34,.const (.int .i64 0),.const (.slice none 0 0),.const (.int .i64 10)].map (Act.eval ⟨T7.setIfInBounds 34 (pt x),[]⟩))=#[pt x,.int .i64 (0:Nat),.slice none 0 0,.int .i64 10]:=by simp[Act.eval,Bq,Gj,j1]
  rw[LH,h1];show _++Array.replicate 29 JA=_;rw[show Array.replicate 29 JA=#[JA,JA,JA,JA,JA,JA,JA,JA,JA,JA,JA,JA,JA,JA,JA,JA,JA,JA,JA,JA,JA,JA,JA,JA,JA,JA,JA,JA,JA]from by kernel_rfl];simp only[List.append_toArray,G9,Gm]
 rw[e9];refine Jcf (x:=x) (m:=0) (most:=10) (M:=200) (S:=T') (hB7.at e4) ((q6.ke k7 SB.hnd λ_ h=>h).ke (w':=w7.at e4) (KE.of_eq λ_ _=>rfl) SB.hnd λ_ h=>h) (by omega) (by omega) MB.hin (by have:=MB.len;omega) (by omega) (λT hn hT=>by have:=(O3.one (hs:=hs) MB.n3 hn (MB.sum Gp lT QK.bd hT)).1;omega) λW7 E7 w8 v T ks L qo=>?_;rw[h41];simp only[Option.bind_some,q41];have Jov:=MB.sum Gp lT QK.bd qo.sum;obtain⟨one1,Jvj,Jvk⟩:=O3.one (hs:=hs) MB.n3 qo.nd Jov;have vt:VR C0 (idE E7) (.tuple #[v,.nilIface]) (.tuple #[v,.nilIface]):=.tuple rfl λi x x' h1 h2=>by
  rw[h1]at h2;cases h2
  match i with
  |0=>cases h1;exact qo.vE
  |1=>cases h1;exact .nilIface
  |i+2=>simp at h1
 have ht9:TmR C0 S0 14 (idE E7) ((T7.setIfInBounds 34 (pt x)).setIfInBounds 35 (.tuple #[v,.nilIface])) ((T7.setIfInBounds 34 (pt x)).setIfInBounds 35 (.tuple #[v,.nilIface])):=(kV.mono (Oj qo.le)).set 35 vt λh=>by cases h
 obtain⟨va,vc,hv⟩:=Jh7 qo.row;have k8:KE E6 w6 w8:=k7.trans ((KE.of_eq (E:=E6) (w:=w7) (w1:=w7.at e4) λ_ _=>rfl).trans qo.ke);have J05p:∀(τ)(T8:JC),T8.size=70->T8[1]?=some (.slice ga fs.length c2f)->T8[7]?=some (pt x)->T8[9]?=some v->T8[10]?=some .nilIface ->
   UM.wp prog (λe a w'=>e=.ret/\a.defers=[Jq]/\a.tmps.size=70/\a.tmps[4]?=some (pt x)/\w'.heap=w8.heap) ⟨T8,[Jq]⟩ (w8.tp τ 0):=by
  intro τ T8 j1 j2 j7 j9 yM;have hL:L.length=T.length:=by rw[qo.outs.1];have:=qo.keys.length;simpa using this
  by_cases Ap:fs=[]
  .have Lr:T.length=0:=by
    rcases Nat.eq_zero_or_pos T.length with h|h
    .exact h
    .obtain⟨t,ht⟩:=List.exists_mem_of_length_pos h;obtain⟨_,f,hf,_⟩:=nZ qo.nd Jov ht;rw[Ap]at hf;cases hf
   rw[hv,hL,Lr]at j9;rw[Ap]at j2;exact Js0 (w:=w8.tp τ 0) j1 j2 j7 j9 yM
  .have h1:=Jvj Ap;obtain⟨q,hq⟩:∃q,L[0]?=some q:=⟨L[0]'(by omega),DL _⟩;obtain⟨k0,PX⟩:∃k0,ks[0]?=some k0:=⟨ks[0]'(by have:=qo.outs.1;omega),DL _⟩;obtain⟨a1,a2,a3,a4⟩:=qo.outs.2 0 k0 q PX hq;rw[hL,h1]at hv;rcases qo.row.2 with⟨_,e⟩|⟨g,cap,cur,e,_,OJ,BA,Nj,_,hx⟩
   .rw[hL,h1]at e;cases e
   have a5:=Jov k0.1;rw[a2]at a5;obtain⟨t,T1,T2,rfl,tk,_⟩:=Qk a2;have zk:k0.1=[0,0,0,0,0]:=by rw[<- tk];exact Jvk t (by simp)
   rw[zk,sel0 MB.n3]at a5;have Jvl:q.B=Df c' Dc (fs.map λf=>(hs f.it,f.v)):=by unfold FP at a5;rw[if_neg (by simpa using Ap)]at a5;exact Aa a5
   have hn:q.B.n=fs.length:=by rw[Jvl,J029 (by rw[FQ];omega),FQ]
   have Ig:L.length=1:=by omega
   have hLq:L=[q]:=by obtain⟨y,rfl⟩:=List.length_eq_one_iff.1 Ig;simp at hq;rw[hq]
   have EX:(w8.tp τ 0).cell? ⟨g,1,none⟩=some (.int .i64 fs.length):=by
    refine(cell_of (w:=w8.tp τ 0) OJ 1).trans ?_;rw[Ig,hLq]at hx;have h5:(List.take (1*5) cur.toList)[1]?=some (.int .i64 q.B.n):=by rw[hx];rfl
    rw[List.getElem?_take,if_pos (by omega),Array.getElem?_toList,hn]at h5;exact h5
   rw[e,Ig]at j9;exact Jvg (w:=w8.tp τ 0) (List.length_pos_iff.2 Ap) EX j1 j2 j7 j9 yM
 refine Reach.ret (b:=Go.Conc.base 14) (X0:=[.inRegion ops7 [2,3,4,5,6],.code UM]) (k:=[]) KY rfl (.cons (.inRegion _ J05k) (.cons (.code J05j) .nil)) Vg df7 UH (by simp[Go.Conc.base]) qo.bok ht9 (Q:=λt1 w1=>t1[4]?=some (pt x)/\w1.heap=w8.heap) (λτ=>?_) λE8 T9 w9 wA todo Qi vX hW8 ht10 ⟨z1,z2⟩=>?_
 .have sl:∀i,i≠34->i≠35->((T7.setIfInBounds 34 (pt x)).setIfInBounds 35 (.tuple #[v,.nilIface]))[i]?=T7[i]?:=λi h1 h2=>by rw[AV (Ne.symm h2),AV (Ne.symm h1)]
  refine LGo.ops (pre:=[2,3,4,5,6]) (rest:=[]) (Jz6 (by simp[j1]) ((sl 1 (by omega) (by omega)).trans j2) ((sl 7 (by omega) (by omega)).trans j3) (by simp[j1]) ⟨_,_,_,hv⟩ λa m1 m2 m3 m4 m5 m6=>⟨rfl,m1,LGo.done (LGo.wp ?_)⟩);refine wp_mono (J05p τ a.tmps m2 m3 m4 m5 m6) λe b w' ⟨n1,n2,n3,n4,n5⟩=>?_;subst n1;refine Cont.ret ⟨λi hi Nq=>?_,n4,n5⟩ n2;rcases hl7 hi with h|h
  .cases h
  .simp[j1]at Nq;omega
 .refine Reach.leave1 (B:=Go.Conc.base 14) rfl rfl (fn:=f14) (by kernel_rfl) (x:=4) (by kernel_rfl) λd12=>?_;have kf:KE E7 w8 wA:=(KE.of_eq λb _=>by rw[z2]).trans ((Jt rfl hW8).mono Qi);have kA:KE E6 w6 wA:=k8.trans (kf.mono qo.le);have kA':KE E6 w6 (wA.at d12):=kA.trans (.of_eq λ_ _=>rfl);have q9:=q6.ke kA' SB.hnd λb hb=>Qi b (qo.le b hb);rw[show(Act.mk T9 []).tmps.getD 4 JA=pt x from by simp[Bq,z1]];have lt1:∀b,E b->b<Am.heap.size:=λb hb=>O0.lt (Vh b (U0 b (Tf b hb)));have Dw:∀y,y=base\/y∈tpl T'->y=base\/w4.heap.size<=y:=D8;have lU:∀y,y<w4.heap.size->y≠base->y∉tpl T':=λy h1 h2 h3=>by
   rcases Dw y (.inr h3)with h|h
   .exact h2 h
   .omega
  have k59:KE E5 w5 (wA.at d12):=k6.trans (kA'.mono XV);have r5:=r4.keE k5 ⟨Ti _ vT,Ne.symm d3,Ne.symm d6⟩;have hh5:I8 w5 h hs:=QK.ke k5 λb hb=>⟨vH b hb,xO b hb⟩;have hbY:∀b,Sv h=some b->E5 b:=λb hb=>yQ b (vH b hb);exact kn W7 E8 (wA.at d12) x c' h hs _ vm base T' (λb hb=>Qi b (qo.le b (XV b (Jvi b hb)))) (vX.at d12) (yO.trans (kA'.mono λb hb=>XV b (Jvi b hb))) q9 MB ⟨cb',lT⟩ QK.bd q9.hok (Qi _ (qo.le _ ex6)) ⟨{
   q:=q9
   hash:=hh5.ke k59 hbY
   hb:=λb hb=>⟨Qi b (qo.le b (XV b (hbY b hb))),(xO b hb).1,(xO b hb).2,lU b (XW b (vH b hb)) (xO b hb).2⟩
   bnd:=⟨b2,c2,WH,r5.keE k59 (yQ _ (Ti _ vT)),Ne.symm d3,Ne.symm d6,lU b2 QB (Ne.symm d6)⟩
   nb:=lT
   dX:=⟨d2,lU x ex4 d2⟩
   dV:=⟨d4,lU vm ev4 d4,Ne.symm d1⟩
   new:=λb hb=>⟨by have:=lt1 b hb;omega,by have:=lt1 b hb;omega,lU b (XW b (YN b hb)) (by have:=lt1 b hb;omega)⟩ },Ux,by rw[MG];rfl,by rw[MG];rfl,by omega,by omega⟩
end
section
variable{c:J7}{bs:JD}
end
section
variable{c:J7}{bs:JD}{hs:Int->Int}{fs:List Jd}
end
def selm(m:Nat)(g:JD):JD:=(g.zipIdx.filter λp=>m.testBit p.2).map (·.1)
abbrev dW:=JD × List (Int × Int)
structure J08g(m:Nat)(fs:List Jd)(ks:List (JD)):Prop where
 nd:ks.Nodup
 of:∀k∈ks,∃f∈fs,Jf m (BI f.k) 5=k
 has:∀f∈fs,Jf m (BI f.k) 5∈ks
section
variable{c:J7}{hs:Int->Int}{fs:List Jd}{m:Nat}{ks k7 km:List (JD)}
def Jvm(m:Nat)(g:JD)(P:List dW)(j:Nat):List (Int × Int):=((P.take j).filter λp=>decide (selm m p.1=g)).flatMap (·.2)
structure J08h(c:J7)(m n:Nat)(P Pm:List dW):Prop where
 ok7:∀p∈P,Pq p.2/\p.1.length=3
 sum7:(P.map λp=>p.2.length).sum=n
 fine:∀p∈Pm,Df c Dc (Jvm m p.1 P P.length)=Df c Dc p.2/\Jvm m p.1 P P.length≠[]/\(Jvm m p.1 P P.length).length=p.2.length/\p.1.length<=3
 sum:(Pm.map λp=>p.2.length).sum=n
 one:m=0->Pm.length<=1
end
section
variable{w:JE}{a b:JJ}{xs ys:JD}
end
structure J08i(w:JE)(g j:Nat)(c:J7)(p:dW):Prop where
 k:∃v,w.cell? ⟨g,j*5,none⟩=some v/\SlI false w 0 v 3 .i64 p.1
 n:w.cell? ⟨g,j*5+1,none⟩=some (.int .i64 (Df c Dc p.2).n)
 r:∃b q,w.cell? ⟨g,j*5+2,none⟩=some (.slice (some ⟨b,0,none⟩) (Df c Dc p.2).r.length q)/\Row false w b 3 .i64 (Df c Dc p.2).r q
 h:∃b q,w.cell? ⟨g,j*5+3,none⟩=some (.slice (some ⟨b,0,none⟩) (Df c Dc p.2).h.length q)/\Row false w b 3 .i64 (Df c Dc p.2).h q
section
variable{w w':JE}{g j:Nat}{c:J7}{p:dW}{v:JJ}{xs:JD}
end
noncomputable def b3:Code:=f3.body.getD .skip
section
variable{fn:JG}{W E0 E:JB}{w0 w:JE}{T:JC}{ops:Array Oper}{i sR sT sA sB sX sY:Nat}{v:JJ}{k:List Item}{cs:List Frame}{Post:(JB)->JF->JE->Prop}
def Jz7(h:HS fn W E0 w0 E T w)(hT:T[sR]?=some (.tuple #[v,.nilIface]))(hv:VR C0 (idE E) v v)(hd:sT<T.size/\sA<T.size/\sB<T.size/\sX<T.size/\sY<T.size)(hn:sA≠sT/\sB≠sA/\sX≠sB/\sY≠sX)
  (p0:∃o,ops[i]?=some o/\o.op=.move (.tmp sR)/\o.guard=none/\o.dst=some sT) (p1:∃o,ops[i+1]?=some o/\o.op=.extract (.tmp sT) 0/\o.guard=none/\o.dst=some sA) (p2:∃o,ops[i+2]?=some o/\o.op=.extract (.tmp sT) 1/\o.guard=none/\o.dst=some sB) (p3:∃o,ops[i+3]?=some o/\o.op=.assign (.tmp sA)/\o.guard=none/\o.dst=some sX) (p4:∃o,ops[i+4]?=some o/\o.op=.assign (.tmp sB)/\o.guard=none/\o.dst=some sY)
  (kn:∀T' w',HS fn W E0 w0 E T' w'->T'.size=T.size->T'[sX]?=some v->T'[sY]?=some .nilIface->(∀j,j≠sT->j≠sA->j≠sB->j≠sX->j≠sY->T'[j]?=T[j]?)->w'.heap=w.heap->Reach prog Post W (G ((base fn).at ⟨T',[]⟩ (.inRegion ops []::k)) cs) w') :
  Reach prog Post W (G ((base fn).at ⟨T,[]⟩ (.inRegion ops [i,i+1,i+2,i+3,i+4]::k)) cs) w:=by
 obtain⟨o0,h0,a0,g0,d0⟩:=p0;obtain⟨o1,h1,a1,g1,d1⟩:=p1;obtain⟨o2,h2,a2,g2,d2⟩:=p2;obtain⟨o3,h3,a3,g3,d3⟩:=p3;obtain⟨o4,h4,a4,g4,d4⟩:=p4;have vt:VR C0 (idE E) (.tuple #[v,.nilIface]) (.tuple #[v,.nilIface]):=.tuple rfl λi x x' h1 h2=>by
  rw[h1]at h2;cases h2
  match i with
  |0=>cases h1;exact hv
  |1=>cases h1;exact .nilIface
  |i+2=>simp at h1
 obtain⟨n1,n2,n3,n4⟩:=hn;obtain⟨z1,z2,z3,z4,z5⟩:=hd;have t1:(T.setIfInBounds sT (.tuple #[v,.nilIface]))[sT]?=some (.tuple #[v,.nilIface]):=FC z1;have t2:((T.setIfInBounds sT (.tuple #[v,.nilIface])).setIfInBounds sA v)[sT]?=some (.tuple #[v,.nilIface]):=(AV n1).trans t1;have t3:(((T.setIfInBounds sT (.tuple #[v,.nilIface])).setIfInBounds sA v).setIfInBounds sB .nilIface)[sA]?=some v:=(AV n2).trans (FC (by simpa using z2));have t4:((((T.setIfInBounds sT (.tuple #[v,.nilIface])).setIfInBounds sA v).setIfInBounds sB .nilIface).setIfInBounds sX v)[sB]?=some .nilIface:=(AV n3).trans (FC (by simpa using z3));refine Jb (v:=.tuple #[v,.nilIface]) h h0 (by simp[Region.wanted,g0]) d0 (λw1=>by simp[execOp,a0,Act.eval,Bq,hT]) (λw1=>by simp[execOp,a0,Act.eval]) (.inr vt) λw1 H1 q1=>?_;refine Jb (v:=v) H1 h1 (by simp[Region.wanted,g1]) d1 (λw1=>by simp[execOp,a1,Act.eval,Bq,t1,go_sem]) (λw1=>by simp[execOp,a1,Act.eval,Bq,z1,go_sem]) (.inr hv) λw2 H2 q2=>?_;refine Jb (v:=.nilIface) H2 h2 (by simp[Region.wanted,g2]) d2 (λw1=>by simp[execOp,a2,Act.eval,Bq,t2,go_sem]) (λw1=>by simp[execOp,a2,Act.eval,Bq,t2,go_sem]) (.inr .nilIface) λw3 H3 q3=>?_;refine Jb (v:=v) H3 h3 (by simp[Region.wanted,g3]) d3 (λw1=>by simp[execOp,a3,Act.eval,Bq,t3]) (λw1=>by simp[execOp,a3,Act.eval]) (.inr hv) λw4 H4 q4=>?_;refine Jb (v:=.nilIface) H4 h4 (by simp[Region.wanted,g4]) d4 (λw1=>by simp[execOp,a4,Act.eval,Bq,t4]) (λw1=>by simp[execOp,a4,Act.eval]) (.inr .nilIface) λw5 H5 q5=>?_;refine kn _ w5 H5 (by simp) ((AV n4).trans (FC (by simpa using z4))) (FC (by simpa using z5)) (λj m1 m2 m3 m4 m5=>?_) (by rw[q5,q4,q3,q2,q1]);rw[AV (Ne.symm m5),AV (Ne.symm m4),AV (Ne.symm m3),AV (Ne.symm m2),AV (Ne.symm m1)]
end
section
variable{E:JB}{w w':JE}{c:J7}{hs:Int->Int}{fs:List Jd}{m g j base:Nat}{T S:List TR}{ks:List Je}{L:List QC}{v:JJ}{p:dW}
end
def vtup{E:JB}{v:JJ}(hv:VR C0 (idE E) v v):VR C0 (idE E) (.tuple #[v,.nilIface]) (.tuple #[v,.nilIface]):=.tuple rfl λi x x' h1 h2=>by
 rw[h1]at h2;cases h2
 match i with
 |0=>cases h1;exact hv
 |1=>cases h1;exact .nilIface
 |i+2=>simp at h1
def FK(f:Nat->JJ):((List.range 126).map f).toArray=#[f 0,f 1,f 2,f 3,f 4,f 5,f 6,f 7,f 8,f 9,f 10,f 11,f 12,f 13,f 14,f 15,f 16,f 17,f 18,f 19,f 20,f 21,f 22,f 23,f 24,f 25,f 26,f 27,f 28,f 29,f 30,f 31,f 32,f 33,f 34,f 35,f 36,f 37,f 38,f 39,f 40,f 41,f 42,f 43,f 44,f 45,f 46,f 47,f 48,f 49,f 50,f 51,f 52,f 53,f 54,f 55,f 56,f 57,f 58,f 59,f 60,f 61,f 62,f 63,f 64,f 65,f 66,f 67,f 68,f 69,f 70,f 71,f 72,f 73,f 74,f 75,f 76,f 77,f 78,f 79,f 80,f 81,f 82,f 83,f 84,f 85,f 86,f 87,f 88,f 89,f 90,f 91,f 92,f 93,f 94,f 95,f 96,f 97,f 98,f 99,f 100,f 101,f 102,f 103,f 104,f 105,f 106,f 107,f 108,f 109,f 110,f 111,f 112,f 113,f 114,f 115,f 116,f 117,f 118,f 119,f 120,f 121,f 122,f 123,f 124,f 125]:=by rfl
def Pv{T:JC}(h:T.size=126):∃f:Nat->JJ,T=((List.range 126).map f).toArray:=⟨_,dM h⟩
def cY:Code->Code
 |.cond _ a _=>a
 |c=>c
noncomputable def bM:Code:=f5.body.getD .skip
noncomputable def vI:Code:=fC bM
noncomputable def UN:Array Oper:=opsOf (fC (sC bM))
noncomputable def Sj:Array Oper:=opsOf (fC (sC (sC bM)))
noncomputable def vJ:Code:=fC (sC (sC (sC bM)))
noncomputable def vK:Code:=fC (fC (sC (sC (sC (sC bM)))))
noncomputable def NQ:Code:=cY (sC (fC (sC (sC (sC (sC bM))))))
noncomputable def LY:Array Oper:=opsOf (fC (sC (sC (sC (sC (sC bM))))))
noncomputable def Joz:Code:=fC (sC (sC (sC (sC (sC (sC bM))))))
noncomputable def Jp0:Code:=fC (sC (sC (sC (sC (sC (sC (sC bM)))))))
noncomputable def Jp1:Code:=fC (sC (sC (sC (sC (sC (sC (sC (sC bM))))))))
noncomputable def Jp2:Code:=fC (sC (sC (sC (sC (sC (sC (sC (sC (sC bM)))))))))
noncomputable def Jp3:Code:=fC (sC (sC (sC (sC (sC (sC (sC (sC (sC (sC bM))))))))))
noncomputable def Jp4:Code:=fC (sC (sC (sC (sC (sC (sC (sC (sC (sC (sC (sC bM)))))))))))
noncomputable def Jp5:Code:=sC (sC (sC (sC (sC (sC (sC (sC (sC (sC (sC (sC bM)))))))))))
noncomputable def tX:Code:=.seq Joz (.seq Jp0 (.seq Jp1 (.seq Jp2 (.seq Jp3 (.seq Jp4 Jp5)))))
noncomputable def Jp6:Code:=.seq (.region 9 LY false) tX
def J05q:bM=.seq vI (.seq (.region 1 UN false) (.seq (.region 2 Sj false) (.seq vJ (.seq (.seq vK (.cond (.tmp 33) NQ .skip)) Jp6)))):=by kernel_rfl
def J05r:f5.body=some bM:=by kernel_rfl
def J05s:Ji C0 S0 5 vI=true:=by kernel_rfl
def J05t:Ji C0 S0 5 vJ=true:=by kernel_rfl
def J05u:Ji C0 S0 5 vK=true:=by kernel_rfl
def J05v:Ji C0 S0 5 tX=true:=by kernel_rfl
def YO:GY C0 5:=⟨f5,by kernel_rfl,by kernel_rfl,by kernel_rfl⟩
def dfM:S0.df.contains 5=false:=rfl
def Y5:C0.hl 5≠[]:=by show[1,24,1000]≠[];simp
def hlM{i:Nat}(h:(C0.hl 5).contains i=true):i∈([1,24]:List Nat)\/500<=i:=by have h':i∈[1,24,1000]:=Lj.1 h;simp at h' ⊢;omega
def hlM'{i:Nat}(h:i<500/\i≠1/\i≠24):(C0.hl 5).contains i=false:=by
 cases e:(C0.hl 5).contains i with
 |false=>rfl
 |true=>
  have h1:=hlM e;simp at h1;omega
def J02q:∃o,UN[0]?=some o/\o.op=.move (.tmp 1)/\o.guard=none/\o.dst=some 24:=by simp only[UN,opsOf,bM,fC,sC,f5,A8];exact⟨_,rfl,rfl,rfl,rfl⟩
def J02r:∃o t,UN[1]?=some o/\o.op=.call { callee:=.value (.func 13),args:=#[.tmp 24],argTypes:=t }/\o.guard=none/\o.dst=some 25:=by simp only[UN,opsOf,bM,fC,sC,f5,A8];exact⟨_,_,rfl,rfl,rfl,rfl⟩
def J02s:∃o,UN[2]?=some o/\o.op=.assign (.tmp 25)/\o.guard=none/\o.dst=some 7:=by simp only[UN,opsOf,bM,fC,sC,f5,A8];exact⟨_,rfl,rfl,rfl,rfl⟩
def J02t:∃o,Sj[0]?=some o/\o.op=.move (.tmp 0)/\o.guard=none/\o.dst=some 26:=by simp only[Sj,opsOf,bM,fC,sC,f5,A8];exact⟨_,rfl,rfl,rfl,rfl⟩
def J02u:∃o,Sj[1]?=some o/\o.op=.move (.tmp 7)/\o.guard=none/\o.dst=some 27:=by simp only[Sj,opsOf,bM,fC,sC,f5,A8];exact⟨_,rfl,rfl,rfl,rfl⟩
def J02v:∃o t,Sj[2]?=some o/\o.op=.call { callee:=.value (.func 14),args:=#[.tmp 26,.tmp 27],argTypes:=t }/\o.guard=none/\o.dst=some 28:=by simp only[Sj,opsOf,bM,fC,sC,f5,A8];exact⟨_,_,rfl,rfl,rfl,rfl⟩
def J02w:∃o,Sj[3]?=some o/\o.op=.assign (.tmp 28)/\o.guard=none/\o.dst=some 8:=by simp only[Sj,opsOf,bM,fC,sC,f5,A8];exact⟨_,rfl,rfl,rfl,rfl⟩
def J02x:∃o,LY[0]?=some o/\o.op=.move (.tmp 8)/\o.guard=none/\o.dst=some 48:=by simp only[LY,opsOf,bM,fC,sC,f5,A8];exact⟨_,rfl,rfl,rfl,rfl⟩
def J02y:∃o t,LY[1]?=some o/\o.op=.call { callee:=.value (.func 17),args:=#[.tmp 48,.const (.int .i64 0),.const (.slice none 0 0),.const (.int .i64 1)],argTypes:=t }/\o.guard=none/\o.dst=some 49:=by simp only[LY,opsOf,bM,fC,sC,f5,A8];exact⟨_,_,rfl,rfl,rfl,rfl⟩
def J02z:∃o,LY[2]?=some o/\o.op=.move (.tmp 49)/\o.guard=none/\o.dst=some 47:=by simp only[LY,opsOf,bM,fC,sC,f5,A8];exact⟨_,rfl,rfl,rfl,rfl⟩
def J030:∃o,LY[3]?=some o/\o.op=.extract (.tmp 47) 0/\o.guard=none/\o.dst=some 50:=by simp only[LY,opsOf,bM,fC,sC,f5,A8];exact⟨_,rfl,rfl,rfl,rfl⟩
def J031:∃o,LY[4]?=some o/\o.op=.extract (.tmp 47) 1/\o.guard=none/\o.dst=some 51:=by simp only[LY,opsOf,bM,fC,sC,f5,A8];exact⟨_,rfl,rfl,rfl,rfl⟩
def J032:∃o,LY[5]?=some o/\o.op=.assign (.tmp 50)/\o.guard=none/\o.dst=some 13:=by simp only[LY,opsOf,bM,fC,sC,f5,A8];exact⟨_,rfl,rfl,rfl,rfl⟩
def J033:∃o,LY[6]?=some o/\o.op=.assign (.tmp 51)/\o.guard=none/\o.dst=some 14:=by simp only[LY,opsOf,bM,fC,sC,f5,A8];exact⟨_,rfl,rfl,rfl,rfl⟩
section
variable{w:JE}{T:JC}{ds:List Deferred}{x n c2:Nat}{mz:Int}{ga:JI}{Q:Exit->Act->JE->Prop}
def Jz8(Ag:T.size=126)
  (hQ:∀T':JC,T'.size=126->(∀i∈([0,1,2,24]:List Nat),T'[i]?=T[i]?)->Q .normal ⟨T',ds⟩ w) :
  vI.wp prog Q ⟨T,ds⟩ w:=by
 obtain⟨f,rfl⟩:=Pv Ag;rw[FK]at *;simp only[vI,bM,fC,sC,f5,A8];go_wp2;exact hQ _ rfl (λi hi=>by simp only[AL,BU,or_false]at hi;rcases hi with rfl|rfl|rfl|rfl<;>rfl)
def Jz9(Ag:T.size=126)(h8:T[8]?=some (pt x))
  (hQ:∀T':JC,T'.size=126->(∀i∈([0,1,24,2,7,8]:List Nat),T'[i]?=T[i]?)->Q .normal ⟨T',ds⟩ w) :
  vJ.wp prog Q ⟨T,ds⟩ w:=by
 obtain⟨f,rfl⟩:=Pv Ag;rw[FK]at *;have e8:f 8=_:=Aa h8;rw[e8]at hQ ⊢;clear h8 e8;simp only[vJ,bM,fC,sC,f5,A8];go_wp2;exact hQ _ rfl (λi hi=>by simp only[AL,BU,or_false]at hi;rcases hi with rfl|rfl|rfl|rfl|rfl|rfl<;>rfl)
def Jza(Ij:n<=1000)(Ag:T.size=126)(h7:T[7]?=some (.slice ga n c2))
  (hQ:∀T':JC,T'.size=126->(∀i∈([0,1,24,2,7,8]:List Nat),T'[i]?=T[i]?)->T'[33]?=some (.bool (decide (n=0)))->Q .normal ⟨T',ds⟩ w) :
  vK.wp prog Q ⟨T,ds⟩ w:=by
 obtain⟨f,rfl⟩:=Pv Ag;rw[FK]at *;have e7:f 7=_:=Aa h7;rw[e7]at hQ ⊢;clear h7 e7;simp only[vK,bM,fC,sC,f5,A8];go_wp2;exact hQ _ rfl (λi hi=>by simp only[AL,BU,or_false]at hi;rcases hi with rfl|rfl|rfl|rfl|rfl|rfl<;>rfl) (by by_cases h:n=0<;>simp[h])
def Jvn(Ag:T.size=126)(O7:T[13]?=some (.slice ga 1 c2))(Ua:T[14]?=some (.nilIface))
  (hQ:∀T':JC,T'.size=126->(∀i∈([0,1,24,2,7,13]:List Nat),T'[i]?=T[i]?)->Q .normal ⟨T',ds⟩ w) :
  Joz.wp prog Q ⟨T,ds⟩ w:=by
 obtain⟨f,rfl⟩:=Pv Ag;rw[FK]at *;have NW:f 13=_:=Aa O7;have O5:f 14=_:=Aa Ua;rw[NW,O5]at hQ ⊢;clear O7 NW Ua O5;simp only[Joz,bM,fC,sC,f5,A8];go_wp2;exact hQ _ rfl (λi hi=>by simp only[AL,BU,or_false]at hi;rcases hi with rfl|rfl|rfl|rfl|rfl|rfl<;>rfl)
def Jvo(hm:I64 mz)(Ag:T.size=126)(h2:T[2]?=some (.int .i64 mz))
  (hQ:∀T':JC,T'.size=126->(∀i∈([0,1,24,7,13]:List Nat),T'[i]?=T[i]?)->T'[15]?=some (.int .i64 (Jr mz 1001))->Q .normal ⟨T',ds⟩ w) :
  Jp0.wp prog Q ⟨T,ds⟩ w:=by
 have hp:=Yo hm (n:=1001) (by omega) (by omega);obtain⟨f,rfl⟩:=Pv Ag;rw[FK]at *;have e2:f 2=_:=Aa h2;rw[e2]at hQ ⊢;clear h2 e2;simp only[Jp0,bM,fC,sC,f5,A8]
 go_wp2_with (go_at_call 18;refine(hp _).mono ?_;rintro e w1 ⟨rfl,rfl⟩)
 exact hQ _ rfl (λi hi=>by simp only[AL,BU,or_false]at hi;rcases hi with rfl|rfl|rfl|rfl|rfl<;>rfl) rfl
end
section
variable{w:JE}{T:JC}{ds:List Deferred}{Q:Exit->Act->JE->Prop}
def Js2(a b c:Int)(p:Nat)(u:Int)(w1:JE):(Instr.field 47 (.agg #[.int .i64 a,.int .i64 b,.int .i64 c,.slice (some ⟨p,0,none⟩) 4 4,.int .i64 u]) 3).run prog w1=.ok (.slice (some ⟨p,0,none⟩) 4 4) w1:=by simp[Instr.field,asAgg,Sem.run_bind,Sem.run_pure,Result.andThen_ok,go_sem]
def Jvp{R:Nat->JE->Prop}{g gb l1 c1 l2 c2 l3 c3 l4 c4 cc:Nat}{a1 a2 a4:JI}{m k:Int}(h0:w.cell? ⟨g,0,none⟩=some (.slice a1 l1 c1))(h1:w.cell? ⟨g,1,none⟩=some (.int .i64 m))(h2:w.cell? ⟨g,2,none⟩=some (.slice a2 l2 c2))(h3:w.cell? ⟨g,3,none⟩=some (.slice (some ⟨gb,0,none⟩) l3 c3))(h4:w.cell? ⟨g,4,none⟩=some (.slice a4 l4 c4))(hqc:Calls prog 15 #[.agg #[.slice a1 l1 c1,.int .i64 m,.slice a2 l2 c2,.slice (some ⟨gb,0,none⟩) l3 c3,.slice a4 l4 c4],.int .i64 k] w λe w1=>∃b:Nat,e=.returned (.tuple #[.int .i64 b,.nilIface])/\R b w1)(Ag:T.size=126)(O7:T[13]?=some (.slice (some ⟨g,0,none⟩) 1 cc))(PN:T[15]?=some (.int .i64 k))
  (hQ:∀T':JC,T'.size=126->(∀i∈([0,1,24,7,15]:List Nat),T'[i]?=T[i]?)->∀b:Nat,T'[16]?=some (.int .i64 b)->T'[17]?=some .nilIface->∀w',R b w'->Q .normal ⟨T',ds⟩ w') :
  Jp1.wp prog Q ⟨T,ds⟩ w:=by
 obtain⟨f,rfl⟩:=Pv Ag;rw[FK]at *;have NW:f 13=_:=Aa O7;have KG:f 15=_:=Aa PN;rw[NW,KG]at hQ ⊢;clear O7 NW PN KG;simp only[Jp1,bM,fC,sC,f5,A8]
 go_wp2_with (go_at_call 15;refine hqc.mono ?_;rintro e w1 ⟨b,rfl,hR⟩)
 exact hQ _ rfl (λi hi=>by simp only[AL,BU,or_false]at hi;rcases hi with rfl|rfl|rfl|rfl|rfl<;>rfl) _ rfl rfl _ hR
def Jvq{n cc:Nat}{ga:JI}{k:Int}(hk:0<=k/\k<=1000)(hn:n<=200)(Ag:T.size=126)(h7:T[7]?=some (.slice ga n cc))(PN:T[15]?=some (.int .i64 k))
  (hQ:∀T':JC,T'.size=126->(∀i∈([0,1,24,7,16,17]:List Nat),T'[i]?=T[i]?)->T'[18]?=some (.int .i64 ((k*n+999) / 1000))->Q .normal ⟨T',ds⟩ w) :
  Jp2.wp prog Q ⟨T,ds⟩ w:=by
 have Oe:0<=k*n/\k*n<=200000:=by refine⟨Int.mul_nonneg hk.1 (by omega),?_⟩;have h1:k*n<=1000*n:=Int.mul_le_mul_of_nonneg_right hk.2 (by omega);omega
 obtain⟨f,rfl⟩:=Pv Ag;rw[FK]at *;have e7:f 7=_:=Aa h7;have KG:f 15=_:=Aa PN;rw[e7,KG]at hQ ⊢;clear h7 e7 PN KG;simp only[Jp2,bM,fC,sC,f5,A8];go_wp2;exact hQ _ rfl (λi hi=>by simp only[AL,BU,or_false]at hi;rcases hi with rfl|rfl|rfl|rfl|rfl|rfl<;>rfl) rfl
def Jvr{q:Int}(Ag:T.size=126)(Nc:T[18]?=some (.int .i64 q))
  (hQ:∀T':JC,T'.size=126->(∀i∈([0,1,24,7,16,17]:List Nat),T'[i]?=T[i]?)->T'[18]?=some (.int .i64 (max 1 q))->Q .normal ⟨T',ds⟩ w) :
  Jp3.wp prog Q ⟨T,ds⟩ w:=by
 obtain⟨f,rfl⟩:=Pv Ag;rw[FK]at *;have Na:f 18=_:=Aa Nc;rw[Na]at hQ ⊢;clear Nc Na;simp only[Jp3,bM,fC,sC,f5,A8];by_cases hq:q<1
 .rw[show max 1 q=1 by omega]at hQ;go_wp2;exact hQ _ rfl (λi hi=>by simp only[AL,BU,or_false]at hi;rcases hi with rfl|rfl|rfl|rfl|rfl|rfl<;>rfl) rfl
 .rw[show max 1 q=q by omega]at hQ;go_wp2;exact hQ _ rfl (λi hi=>by simp only[AL,BU,or_false]at hi;rcases hi with rfl|rfl|rfl|rfl|rfl|rfl<;>rfl) rfl
def Jvs{c:Int}(hc:I64 c)(Ag:T.size=126)(h0:T[0]?=some (.int .i64 c))
  (hQ:∀T':JC,T'.size=126->(∀i∈([1,24,7,16,17,18]:List Nat),T'[i]?=T[i]?)->T'[19]?=some (.slice (some ⟨w.heap.size+1,0,none⟩) 4 4)->∀w',w'=(w.alloc (.cells #[.int .i64 3,.int .i64 (4+Jr c 1048576 % 3),.int .i64 (1+Jr c 1048576 / 3 % 8),.slice (some ⟨w.heap.size+1,0,none⟩) 4 4,.int .i64 c] 47)).alloc (.cells #[.int .i64 (-5),.int .i64 0,.int .i64 10,.int .i64 1000] 3)->Q .normal ⟨T',ds⟩ w') :
  Jp4.wp prog Q ⟨T,ds⟩ w:=by
 have hp:=J9e hc;have Np:=Js2;obtain⟨f,rfl⟩:=Pv Ag;rw[FK]at *;have e0:f 0=_:=Aa h0;rw[e0]at hQ ⊢;clear h0 e0;simp only[Jp4,bM,fC,sC,f5,A8]
 go_wp2_with (go_at_call 19;refine(hp _).mono ?_;rintro e w1 ⟨rfl,rfl⟩)
 exact hQ _ rfl (λi hi=>by simp only[AL,BU,or_false]at hi;rcases hi with rfl|rfl|rfl|rfl|rfl|rfl<;>rfl) rfl _ rfl
end
def Jfi(v:Int):Jv Dc v<=4/\∀j,j<4->(Dc.getD j 0<=v↔j<Jv Dc v):=by
 have e:Jv Dc v=if v < -5 then 0 else if v<0 then 1 else if v<10 then 2 else if v<1000 then 3 else 4:=by
  unfold Jv Dc;simp only[List.countP_cons,List.countP_nil,List.contains_cons,List.contains_nil,Bool.or_false,Bool.or_eq_true,beq_iff_eq,decide_eq_true_eq]
  repeat' split
  all_goals omega
 refine⟨by rw[e];split<;>(try split)<;>(try split)<;>(try split)<;>omega,λj hj=>?_⟩;rw[e]
 match j,hj with
 |0,_=>show -5<=v↔_;split<;>(try split)<;>(try split)<;>(try split)<;>omega
 |1,_=>show 0<=v↔_;split<;>(try split)<;>(try split)<;>(try split)<;>omega
 |2,_=>show 10<=v↔_;split<;>(try split)<;>(try split)<;>(try split)<;>omega
 |3,_=>show 1000<=v↔_;split<;>(try split)<;>(try split)<;>(try split)<;>omega
def rV{u u' J b:Nat}(h:u'=u+if J<b then 1 else 0)(q:J<b):u'=u+1:=by rw[if_pos q]at h;exact h
def Y6{u u' J b:Nat}(h:u'=u+if J<b then 1 else 0)(q:b<=J):u'=u:=by rw[if_neg (by omega)]at h;exact h
def bel(fs:List Jd)(b:Nat):Nat:=fs.countP λf=>decide (Jv Dc f.v<b)
def Jkj{fs:List Jd}{i b:Nat}{y:Jd}(h:fs[i]?=some y):bel (fs.take (i+1)) b=bel (fs.take i) b+if Jv Dc y.v<b then 1 else 0:=by obtain⟨hi,rfl⟩:=List.getElem?_eq_some_iff.1 h;unfold bel;rw[List.take_add_one,h,List.countP_append];simp[List.countP_cons]
def Js3(fs:List Jd)(b i:Nat):bel (fs.take i) b<=i:=by have:=List.countP_le_length (l:=fs.take i) (p:=λf=>decide (Jv Dc f.v<b));rw[List.length_take]at this;unfold bel;omega
def aG{n i:Nat}{x y:JJ}{bl bv:Nat->Nat}{P:Prop}(Ac:i<n)(h1:x=.int .i64 (bl (i+1):Nat))(h2:y=.int .i64 (bv (i+1):Nat))(hp:P) :
  (∃yL:Nat,yL<=n/\Value.int .i64 ((i:Int)+1)=.int .i64 (yL:Int)/\x=.int .i64 (bl yL:Nat)/\y=.int .i64 (bv yL:Nat)/\P)/\n-(RowKit.intOf (.int .i64 ((i:Int)+1))).toNat<n-(RowKit.intOf (.int .i64 (i:Int))).toNat:=
 ⟨⟨i+1,Ac,by rw[show((i:Int)+1)=((i+1:Nat):Int) by omega],h1,h2,hp⟩,by simp[RowKit.intOf];omega⟩
section
variable{w:JE}{T:JC}{ds:List Deferred}{n c2:Nat}{c:Int}{ga:JI}{Q:Exit->Act->JE->Prop}
def Jvt{fs:List Jd}{pl:List Nat}{b cb gb:Nat}{r:Int}(Ih:fs.length<=200)(hF:G8 false w ga fs c2 pl)(QF:b<5)(Aj:Row false w gb 3 .i64 Dc cb)(X4:(bel fs b:Int)<r)(iL:r<=bel fs (b+1))(hr:0<r)(Ag:T.size=126)(h7:T[7]?=some (.slice ga fs.length c2))(Ub:T[16]?=some (.int .i64 b))(WZ:T[17]?=some .nilIface)(Nc:T[18]?=some (.int .i64 r))(h19:T[19]?=some (.slice (some ⟨gb,0,none⟩) 4 cb))
  (hQ:∀T':JC,T'.size=126->(∀i∈([1,24]:List Nat),T'[i]?=T[i]?)->T'[6]?=some (.bool true)->∀w':JE,w'.heap=w.heap->Q .ret ⟨T',ds⟩ w') :
  Jp5.wp prog Q ⟨T,ds⟩ w:=by
 obtain⟨f,rfl⟩:=Pv Ag;rw[FK]at *;have e7:f 7=_:=Aa h7;have PG:f 16=_:=Aa Ub;have PK:f 17=_:=Aa WZ;have Na:f 18=_:=Aa Nc;have S9:f 19=_:=Aa h19;rw[e7,PG,PK,Na,S9]at hQ ⊢;clear h7 e7 Ub PG WZ PK Nc Na h19 S9;obtain⟨n,hn⟩:∃n,fs.length=n:=⟨_,rfl⟩;rw[hn]at hQ Ih ⊢;have Nj:=hF.cap;rw[hn]at Nj;have hfc:∀i,i<n->∃y g',fs[i]?=some y/\ga=some ⟨g',0,none⟩/\∀wr:JE,wr.heap=w.heap->wr.cell? ⟨g',i*3+2,none⟩=some (.int .i64 y.v):=λi hi=>by obtain⟨g',kb,kc,h1,h2,h3,h4⟩:=hF.at_ i (fs[i]'(by omega)) (DL _);exact⟨_,g',DL _,h1,λwr hw=>(Du (w:=w) (by rw[hw])).trans h4.cv⟩
 have hbc:∀j,j<4->∀wr:JE,wr.heap=w.heap->wr.cell? ⟨gb,j,none⟩=some (.int .i64 (Dc.getD j 0)):=λj hj wr hw=>(Du (w:=w) (by rw[hw])).trans (Aj.cell hj);have H:Hid ((∀i,i<n->∃y g',fs[i]?=some y/\ga=some ⟨g',0,none⟩/\∀wr:JE,wr.heap=w.heap->wr.cell? ⟨g',i*3+2,none⟩=some (.int .i64 y.v))/\(∀j,j<4->∀wr:JE,wr.heap=w.heap->wr.cell? ⟨gb,j,none⟩=some (.int .i64 (Dc.getD j 0)))/\(bel fs b:Int)<r/\r<=bel fs (b+1)/\fs.length=n):=⟨hfc,hbc,X4,iL,hn⟩;have gI:Hid (∀T':JC,T'.size=126->(∀i∈([1,24]:List Nat),T'[i]?=#[f 0,f 1,f 2,f 3,f 4,f 5,f 6,.slice ga n c2,f 8,f 9,f 10,f 11,f 12,f 13,f 14,f 15,.int .i64 b,.nilIface,.int .i64 r,.slice (some ⟨gb,0,none⟩) 4 cb,f 20,f 21,f 22,f 23,f 24,f 25,f 26,f 27,f 28,f 29,f 30,f 31,f 32,f 33,f 34,f 35,f 36,f 37,f 38,f 39,f 40,f 41,f 42,f 43,f 44,f 45,f 46,f 47,f 48,f 49,f 50,f 51,f 52,f 53,f 54,f 55,f 56,f 57,f 58,f 59,f 60,f 61,f 62,f 63,f 64,f 65,f 66,f 67,f 68,f 69,f 70,f 71,f 72,f 73,f 74,f 75,f 76,f 77,f 78,f 79,f 80,f 81,f 82,f 83,f 84,f 85,f 86,f 87,f 88,f 89,f 90,f 91,f 92,f 93,f 94,f 95,f 96,f 97,f 98,f 99,f 100,f 101,f 102,f 103,f 104,f 105,f 106,f 107,f 108,f 109,f 110,f 111,f 112,f 113,f 114,f 115,f 116,f 117,f 118,f 119,f 120,f 121,f 122,f 123,f 124,f 125][i]?)->T'[6]?=some (.bool true)->∀w':JE,w'.heap=w.heap->Q .ret ⟨T',ds⟩ w'):=hQ;clear hfc hbc X4 iL hn hF Aj hQ;simp only[Jp5,bM,sC,fC,f5,A8];go_wp2
 go_loopw [20,21,22] (λp q s wr=>∃i:Nat,i<=n/\s=.int .i64 i/\p=.int .i64 (bel (fs.take i) b:Nat)/\q=.int .i64 (bel (fs.take i) (b+1):Nat)/\wr.heap=w.heap) (λ_ _ s _=>n-(RowKit.intOf s).toNat)
 case atStart=>exact⟨0,Nat.zero_le _,rfl,by simp[bel],by simp[bel],rfl⟩
 case round=>
  obtain⟨i,hi,rfl,rfl,rfl,hw⟩:=hrel;rcases BF i n with Ac|Et
  .obtain⟨y,g',hy,rfl,q0⟩:=H.out.1 i Ac;have Hy:Hid (fs[i]?=some y):=hy;clear hy;have CS:(i:Int)<n:=by omega
   go_wp2
   go_loopw [23] (λs wr=>∃j:Nat,j<=Jv Dc y.v/\s=.int .i64 j/\wr.heap=w.heap) (λs _=>4-(RowKit.intOf s).toNat)
   case atStart=>exact⟨0,Nat.zero_le _,rfl,hw⟩
   case round=>
    obtain⟨j,hj,rfl,ML⟩:=hrel;have q1:=q0 _ ML;have hh:=Jfi y.v;by_cases hj4:j<Jv Dc y.v
    .have c1:=H.out.2.1 j (by omega) _ ML;have h1:=(hh.2 j (by omega)).2 hj4;generalize Dc.getD j 0=z at c1 h1;have hj':(j:Int)<4:=by omega
     have hj3:j<4:=by omega
     clear hh q0;go_wp2
     go_region
     go_wp2;refine⟨⟨j+1,by omega,by go_num,ML⟩,by simp[RowKit.intOf];omega⟩
    .obtain rfl:j=Jv Dc y.v:=by omega
     have b1:=Jkj (b:=b) Hy.out;have b2:=Jkj (b:=b+1) Hy.out;have l1:=Js3 fs b i;have l2:=Js3 fs (b+1) i;generalize Jv Dc y.v=J at *;have B1:Hid (bel (fs.take (i+1)) b=bel (fs.take i) b+(if J<b then 1 else 0)/\bel (fs.take (i+1)) (b+1)=bel (fs.take i) (b+1)+(if J<b+1 then 1 else 0)):=⟨b1,b2⟩;clear b1 b2;generalize bel (fs.take i) b=u at *;generalize bel (fs.take i) (b+1)=v at *;by_cases h4:J<4
     .obtain⟨z,c1,h1⟩:∃z,wr.cell? ⟨gb,J,none⟩=some (.int .i64 z)/\¬z<=y.v:=⟨_,H.out.2.1 J h4 _ ML,λh=>absurd ((hh.2 J h4).1 h) (Nat.lt_irrefl _)⟩;have hj':(J:Int)<4:=by omega
      clear hh q0;go_wp2
      go_region
      rcases Nat.lt_trichotomy J b with q|q|q
      .as_aux_lemma=>
        have k1:(J:Int)<b:=by omega
        have k2:(J:Int)<=b:=by omega
        have k3:Hid (bel (fs.take (i+1)) b=u+1):=rV B1.out.1 q;have k4:Hid (bel (fs.take (i+1)) (b+1)=v+1):=rV B1.out.2 (Nat.lt_succ_of_lt q);have K3:Hid (Value.int .i64 ((u:Int)+1)=.int .i64 (bel (fs.take (i+1)) b:Nat)):=congrArg (λn:Nat=>Value.int .i64 (n:Int)) k3.out.symm;have K4:Hid (Value.int .i64 ((v:Int)+1)=.int .i64 (bel (fs.take (i+1)) (b+1):Nat)):=congrArg (λn:Nat=>Value.int .i64 (n:Int)) k4.out.symm;clear q B1 k3 k4;go_wp2;exact aG (bl:=λi=>bel (fs.take i) b) (bv:=λi=>bel (fs.take i) (b+1)) Ac K3.out K4.out ML
      .as_aux_lemma=>
        have k1:¬(J:Int)<b:=by omega
        have k2:(J:Int)<=b:=by omega
        have k3:Hid (bel (fs.take (i+1)) b=u):=Y6 B1.out.1 (Nat.le_of_eq q.symm);have k4:Hid (bel (fs.take (i+1)) (b+1)=v+1):=rV B1.out.2 (Nat.lt_succ_of_le (Nat.le_of_eq q));have K3:Hid (Value.int .i64 ((u:Int))=.int .i64 (bel (fs.take (i+1)) b:Nat)):=congrArg (λn:Nat=>Value.int .i64 (n:Int)) k3.out.symm;have K4:Hid (Value.int .i64 ((v:Int)+1)=.int .i64 (bel (fs.take (i+1)) (b+1):Nat)):=congrArg (λn:Nat=>Value.int .i64 (n:Int)) k4.out.symm;clear q B1 k3 k4;go_wp2;exact aG (bl:=λi=>bel (fs.take i) b) (bv:=λi=>bel (fs.take i) (b+1)) Ac K3.out K4.out ML
      .as_aux_lemma=>
        have k1:¬(J:Int)<b:=by omega
        have k2:¬(J:Int)<=b:=by omega
        have k3:Hid (bel (fs.take (i+1)) b=u):=Y6 B1.out.1 (Nat.le_of_lt q);have k4:Hid (bel (fs.take (i+1)) (b+1)=v):=Y6 B1.out.2 q;have K3:Hid (Value.int .i64 ((u:Int))=.int .i64 (bel (fs.take (i+1)) b:Nat)):=congrArg (λn:Nat=>Value.int .i64 (n:Int)) k3.out.symm;have K4:Hid (Value.int .i64 ((v:Int))=.int .i64 (bel (fs.take (i+1)) (b+1):Nat)):=congrArg (λn:Nat=>Value.int .i64 (n:Int)) k4.out.symm;clear q B1 k3 k4;go_wp2;exact aG (bl:=λi=>bel (fs.take i) b) (bv:=λi=>bel (fs.take i) (b+1)) Ac K3.out K4.out ML
     .obtain rfl:J=4:=by omega
      clear hh q0 q1 hj h4;go_wp2
      go_region
      rcases Nat.lt_trichotomy 4 b with q|q|q
      .omega
      .as_aux_lemma=>
        have k1:¬(4:Int)<b:=by omega
        have k2:(4:Int)<=b:=by omega
        have k3:Hid (bel (fs.take (i+1)) b=u):=Y6 B1.out.1 (Nat.le_of_eq q.symm);have k4:Hid (bel (fs.take (i+1)) (b+1)=v+1):=rV B1.out.2 (Nat.lt_succ_of_le (Nat.le_of_eq q));have K3:Hid (Value.int .i64 ((u:Int))=.int .i64 (bel (fs.take (i+1)) b:Nat)):=congrArg (λn:Nat=>Value.int .i64 (n:Int)) k3.out.symm;have K4:Hid (Value.int .i64 ((v:Int)+1)=.int .i64 (bel (fs.take (i+1)) (b+1):Nat)):=congrArg (λn:Nat=>Value.int .i64 (n:Int)) k4.out.symm;clear q B1 k3 k4;go_wp2;exact aG (bl:=λi=>bel (fs.take i) b) (bv:=λi=>bel (fs.take i) (b+1)) Ac K3.out K4.out ML
      .as_aux_lemma=>
        have k1:¬(4:Int)<b:=by omega
        have k2:¬(4:Int)<=b:=by omega
        have k3:Hid (bel (fs.take (i+1)) b=u):=Y6 B1.out.1 (Nat.le_of_lt q);have k4:Hid (bel (fs.take (i+1)) (b+1)=v):=Y6 B1.out.2 q;have K3:Hid (Value.int .i64 ((u:Int))=.int .i64 (bel (fs.take (i+1)) b:Nat)):=congrArg (λn:Nat=>Value.int .i64 (n:Int)) k3.out.symm;have K4:Hid (Value.int .i64 ((v:Int))=.int .i64 (bel (fs.take (i+1)) (b+1):Nat)):=congrArg (λn:Nat=>Value.int .i64 (n:Int)) k4.out.symm;clear q B1 k3 k4;go_wp2;exact aG (bl:=λi=>bel (fs.take i) b) (bv:=λi=>bel (fs.take i) (b+1)) Ac K3.out K4.out ML
  .obtain rfl:n=i:=by omega
   have hH:(bel (fs.take n) b:Int)<r/\r<=bel (fs.take n) (b+1):=by rw[List.take_of_length_le (by have:=H.out.2.2.2.2;omega)];exact⟨H.out.2.2.1,H.out.2.2.2.1⟩
   generalize bel (fs.take n) b=u at *;generalize bel (fs.take n) (b+1)=v at *;obtain⟨hu,hv⟩:=hH;have KP:¬(n:Int)<n:=by omega
   go_wp2;exact gI.out _ rfl (λi hi=>by simp only[AL,BU,or_false]at hi;rcases hi with rfl|rfl<;>rfl) rfl _ hw
end
section
variable{c:J7}{fs:List Jd}{hs:Int->Int}
def MX(c:J7)(hs:Int->Int)(fs:List Jd):Bun:=Df c Dc (fs.map λf=>(hs f.it,f.v))
def Js4(bs:JD)(A:List (Int × Int)):(Df c bs A).h.length=c.nb+1:=by
 induction A using RD with
 |nil=>exact List.length_replicate
 |append_singleton A f ih=>rw[Rx];show(NH bs _ _).length=_;rw[ZP];exact ih
def Jdc(BL:c.nb=4):(MX c hs fs).h.length=5:=by unfold MX;rw[Js4,BL]
def Jm7(BL:c.nb=4)(Ih:fs.length<=200){i:Nat}(hi:i<=5):pre (MX c hs fs).h i=(bel fs i:Nat):=by unfold MX;rw[Jz1 aK (by rw[BL];rfl) (by rw[FQ];omega) i (by omega),List.countP_map];rfl
def Jzb:bel fs 5=fs.length:=by unfold bel;rw[List.countP_eq_length];intro f _;have:=(Jfi f.v).1;simp;omega
def Jvu(BL:c.nb=4)(Ih:fs.length<=200):(MX c hs fs).h.sum=fs.length:=by have h1:=Jm7 (hs:=hs) BL Ih (i:=5) (by omega);rw[aV (by rw[Jdc BL];omega),Jzb]at h1;exact h1
def Jvv(BL:c.nb=4)(Ih:fs.length<=200):∀x∈(MX c hs fs).h,0<=x/\x<=3000:=by intro x hx;obtain⟨i,hi,rfl⟩:=List.getElem_of_mem hx;have hl:=Jdc (hs:=hs) (fs:=fs) BL;have h1:=Jka (c:=c) aK (by rw[BL];rfl) (A:=fs.map λf=>(hs f.it,f.v)) (by rw[FQ];omega) i (by omega);rw[C9]at h1;have h2:(MX c hs fs).h[i]?=some (MX c hs fs).h[i]:=DL hi;have h3:(Df c Dc (fs.map λf=>(hs f.it,f.v))).h[i]?=some (MX c hs fs).h[i]:=h2;rw[h3]at h1;have h4:=List.countP_le_length (l:=fs.map λf=>(hs f.it,f.v)) (p:=λf=>decide (Jv Dc f.2=i));rw[FQ]at h4;simp only[A8]at h1;rw[h1];omega
end
def Jvw(w1:JE)(o:Obj):Row false ((w1.alloc o).alloc (.cells #[.int .i64 (-5),.int .i64 0,.int .i64 10,.int .i64 1000] 3)) (w1.heap.size+1) 3 .i64 Dc 4:=by
 have hr:=Ja (w:=w1.alloc o) (.cells #[.int .i64 (-5),.int .i64 0,.int .i64 10,.int .i64 1000] 3);rw[size_alloc]at hr;refine⟨#[.int .i64 (-5),.int .i64 0,.int .i64 10,.int .i64 1000],⟨(0,0),hr,λ_=>rfl⟩,rfl,by decide,λi hi=>?_,λv hv=>?_⟩
 .match i,(show i<4 from hi)with
  |0,_|1,_|2,_|3,_=>rfl
 .simp only[AL,BU,or_false]at hv;rcases hv with rfl|rfl|rfl|rfl<;>exact⟨_,_,rfl⟩
structure bW(w:JE)(g:Nat)(B:Bun):Prop where
 all:∃a1 l1 c1 m a2 l2 c2 hb hq a4 l4 c4,w.cell? ⟨g,0,none⟩=some (.slice a1 l1 c1)/\w.cell? ⟨g,1,none⟩=some (.int .i64 m)/\w.cell? ⟨g,2,none⟩=some (.slice a2 l2 c2)/\w.cell? ⟨g,3,none⟩=some (.slice (some ⟨hb,0,none⟩) B.h.length hq)/\w.cell? ⟨g,4,none⟩=some (.slice a4 l4 c4)/\Row false w hb 3 .i64 B.h hq
section
variable{w:JE}{T:JC}{ds:List Deferred}{Q:Exit->Act->JE->Prop}
def Jvx{fs:List Jd}{pl:List Nat}{c2 g cc:Nat}{ga:JI}{c mz:Int}{cf:J7}{hs:Int->Int}(Ap:0<fs.length)(Ih:fs.length<=200)(hF:G8 false w ga fs c2 pl)(hc:I64 c)(hm:I64 mz)(BL:cf.nb=4)(hq:bW w g (MX cf hs fs))(Ag:T.size=126)(h0:T[0]?=some (.int .i64 c))(h2:T[2]?=some (.int .i64 mz))(h7:T[7]?=some (.slice ga fs.length c2))(O7:T[13]?=some (.slice (some ⟨g,0,none⟩) 1 cc))(Ua:T[14]?=some .nilIface)
  (hQ:∀T':JC,T'.size=126->(∀i∈([1,24]:List Nat),T'[i]?=T[i]?)->T'[6]?=some (.bool true)->∀w':JE,(∀b,b<w.heap.size->w'.heap[b]?=w.heap[b]?)->Q .ret ⟨T',ds⟩ w') :
  tX.wp prog Q ⟨T,ds⟩ w:=by
 obtain⟨a1,l1,c1,m,a2,l2,c2',hb,hqc,a4,l4,c4,q0,q1,q2,q3,q4,qr⟩:=hq.all;have hk:=Yr (c:=mz) (n:=1001) (by omega);have xR:=Jdc (hs:=hs) (fs:=fs) BL;have Bj:=Jl9 (a1:=a1) (l1:=l1) (c1:=c1) (m:=m) (a2:=a2) (l2:=l2) (c2:=c2') (a4:=a4) (l4:=l4) (c4:=c4) qr (by omega) (Jvv (hs:=hs) BL Ih) (Jvu (hs:=hs) BL Ih) (by omega) (k:=Jr mz 1001) (by omega);refine wp_seq (Jvn Ag O7 Ua λT1 s1 k1=>wp_seq (Jvo hm s1 ((k1 2 (by simp)).trans h2) λT2 s2 k2 U2=>wp_seq (Jvp (R:=λb w'=>b<(MX cf hs fs).h.length/\pre (MX cf hs fs).h b<rk (Jr mz 1001) fs.length/\rk (Jr mz 1001) fs.length<=pre (MX cf hs fs).h (b+1)/\Tch w.heap.size M0 w w') q0 q1 q2 q3 q4 Bj s2 ((k2 13 (by simp)).trans ((k1 13 (by simp)).trans O7)) U2 λT3 s3 k3 b VF VG w1 hR=>?_)));obtain⟨QF,X4,iL,t1⟩:=hR;rw[xR]at QF;rw[Jm7 BL Ih (by omega)]at X4 iL;have y7:T3[7]?=some (.slice ga fs.length c2):=(k3 7 (by simp)).trans ((k2 7 (by simp)).trans ((k1 7 (by simp)).trans h7));have y0:T3[0]?=some (.int .i64 c):=(k3 0 (by simp)).trans ((k2 0 (by simp)).trans ((k1 0 (by simp)).trans h0));refine wp_seq (Jvq (by omega) Ih s3 y7 ((k3 15 (by simp)).trans U2) λT4 s4 k4 U3=>wp_seq (Jvr s4 U3 λT5 s5 k5 zH=>wp_seq (Jvs hc s5 ((k5 0 (by simp)).trans ((k4 0 (by simp)).trans y0)) λT6 s6 k6 U4 w2 ML=>?_)));have t2:Tch w1.heap.size M0 w1 w2:=by rw[ML];exact(Tch.refl.alloc (Ad _) _).alloc (by rw[size_alloc];omega) _
 have t12:=t1.then t2 t1.size λ_ _ h=>h;have hF2:G8 false w2 ga fs c2 pl:=hF.kept λb hb=>t12.heap b (hF.lt b hb) λh=>h;have Na:T6[18]?=some (.int .i64 (rk (Jr mz 1001) fs.length)):=(k6 18 (by simp)).trans zH;have KR:0<rk (Jr mz 1001) fs.length:=by unfold rk;omega
 refine Jvt Ih hF2 QF (by rw[ML];exact Jvw _ _) X4 iL KR s6 ((k6 7 (by simp)).trans ((k5 7 (by simp)).trans ((k4 7 (by simp)).trans y7))) ((k6 16 (by simp)).trans ((k5 16 (by simp)).trans ((k4 16 (by simp)).trans VF))) ((k6 17 (by simp)).trans ((k5 17 (by simp)).trans ((k4 17 (by simp)).trans VG))) Na U4 λT7 s7 k7 g6 w3 Qe=>?_;refine hQ T7 s7 (λi hi=>?_) g6 w3 ?_
 .have CW:i=1\/i=24:=by simpa using hi
  rcases CW with rfl|rfl
  .exact(k7 1 (by simp)).trans ((k6 1 (by simp)).trans ((k5 1 (by simp)).trans ((k4 1 (by simp)).trans ((k3 1 (by simp)).trans ((k2 1 (by simp)).trans (k1 1 (by simp)))))))
  .exact(k7 24 (by simp)).trans ((k6 24 (by simp)).trans ((k5 24 (by simp)).trans ((k4 24 (by simp)).trans ((k3 24 (by simp)).trans ((k2 24 (by simp)).trans (k1 24 (by simp)))))))
 .exactλb hb=>by rw[Qe];exact t12.heap b hb λh=>h
end
def J034{w:JE}{g:Nat}(c0:w.cell? ⟨g,0,none⟩=some (.int .i64 0))(c1:w.cell? ⟨g,1,none⟩=some (.int .i64 0)) :
  Calls prog 15 #[.agg #[.slice none 0 0,.int .i64 0,.slice none 0 0,.slice (some ⟨g,0,none⟩) 2 2,.slice none 0 0],.int .i64 5] w λe w'=>e=.returned (.tuple #[.int .i64 0,.iface 39 (.int .i64 9)])/\Tch w.heap.size M0 w w':=by
 have xK:g<w.heap.size:=by
  rcases BF g w.heap.size with h|h
  .exact h
  .simp[World.cell?,Cc h]at c0
 have d0:(w.alloc (.cells #[.slice none 0 0,.int .i64 0,.slice none 0 0,.slice (some ⟨g,0,none⟩) 2 2,.slice none 0 0] 38)).cell? ⟨g,0,none⟩=some (.int .i64 0):=by rw[World.cell?_alloc_lt _ _ ⟨g,0,none⟩ xK];exact c0
 have d1:(w.alloc (.cells #[.slice none 0 0,.int .i64 0,.slice none 0 0,.slice (some ⟨g,0,none⟩) 2 2,.slice none 0 0] 38)).cell? ⟨g,1,none⟩=some (.int .i64 0):=by rw[World.cell?_alloc_lt _ _ ⟨g,1,none⟩ xK];exact c1
 have d3:(w.alloc (.cells #[.slice none 0 0,.int .i64 0,.slice none 0 0,.slice (some ⟨g,0,none⟩) 2 2,.slice none 0 0] 38)).cell? ⟨w.heap.size,3,none⟩=some (.slice (some ⟨g,0,none⟩) 2 2):=(cell_of (Ja _) 3).trans rfl;have t1:Tch w.heap.size M0 w (w.alloc (.cells #[.slice none 0 0,.int .i64 0,.slice none 0 0,.slice (some ⟨g,0,none⟩) 2 2,.slice none 0 0] 38)):=Tch.refl.alloc (Ad _) _;clear c0 c1
 go_enter func15,ntmps15
 go_wp2;refine wp_loop_rounds 3 ?_;rw[rounds_succ];go_wp2;rw[rounds_succ];go_wp2;rw[rounds_succ];go_wp2
 go_ret2
 exact⟨rfl,t1⟩
end Go.Sim.Z
