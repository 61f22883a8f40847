/- Proved: laws for the claim. No conditions. -/
import Derived.BigQuiet
import Derived.Deep.QuietTactic
import Derived.StillTailTactics
import Derived.Maps.RangeWalk
import Derived.Test.YtlcbehhbfglgaaaGreatDoorC00
import Derived.Test.YtlcbehhbfglgaaaGreatDoorC13
import Derived.Test.YtlcbehhbfglgaaaGreatDoorC16
set_option linter.all false
set_option maxHeartbeats 8000000
set_option maxRecDepth 100000
open Go.Proofs.Tryz
noncomputable section
namespace Go.Sim.Z
open Go Go.Proofs Go.RowKit
def dM{T:JC}{n:Nat}(h:T.size=n):T=((List.range n).map λi=>T.getD i JA).toArray:=by
 apply Ll;intro i;rcases BF i n with hi|hi
 all_goals simp_all
def Gv(f:Nat->JJ):((List.range 157).map f).toArray=#[f 0,f 1,f 2,f 3,f 4,f 5,f 6,f 7,f 8,f 9,f 10,f 11,f 12,f 13,f 14,f 15,f 16,f 17,f 18,f 19,f 20,f 21,f 22,f 23,f 24,f 25,f 26,f 27,f 28,f 29,f 30,f 31,f 32,f 33,f 34,f 35,f 36,f 37,f 38,f 39,f 40,f 41,f 42,f 43,f 44,f 45,f 46,f 47,f 48,f 49,f 50,f 51,f 52,f 53,f 54,f 55,f 56,f 57,f 58,f 59,f 60,f 61,f 62,f 63,f 64,f 65,f 66,f 67,f 68,f 69,f 70,f 71,f 72,f 73,f 74,f 75,f 76,f 77,f 78,f 79,f 80,f 81,f 82,f 83,f 84,f 85,f 86,f 87,f 88,f 89,f 90,f 91,f 92,f 93,f 94,f 95,f 96,f 97,f 98,f 99,f 100,f 101,f 102,f 103,f 104,f 105,f 106,f 107,f 108,f 109,f 110,f 111,f 112,f 113,f 114,f 115,f 116,f 117,f 118,f 119,f 120,f 121,f 122,f 123,f 124,f 125,f 126,f 127,f 128,f 129,f 130,f 131,f 132,f 133,f 134,f 135,f 136,f 137,f 138,f 139,f 140,f 141,f 142,f 143,f 144,f 145,f 146,f 147,f 148,f 149,f 150,f 151,f 152,f 153,f 154,f 155,f 156]:=by rfl
def Qo{T:JC}(h:T.size=157):∃f:Nat->JJ,T=((List.range 157).map f).toArray:=⟨_,dM h⟩
structure Jd where
 k:JD
 it:Int
 v:Int
structure FAt(fr:Bool)(w:JE)(g i:Nat)(f:Jd)(kb kc:Nat):Prop where
 ck:w.cell? ⟨g,i*3,none⟩=some (JM kb f.k.length kc)
 ci:w.cell? ⟨g,i*3+1,none⟩=some (JK f.it)
 cv:w.cell? ⟨g,i*3+2,none⟩=some (JK f.v)
 row:Row fr w kb 3 .i64 f.k kc
structure G8(fr:Bool)(w:JE)(ga:JI)(fs:List Jd)(cap:Nat)(pl:List Nat):Prop where
 lt:∀x∈pl,x<w.heap.size
 at_:∀i f,fs[i]?=some f->∃g kb kc,ga=some ⟨g,0,none⟩/\g∈pl/\kb∈pl/\FAt fr w g i f kb kc
 cap:fs.length<=cap
def G8.kept{fr:Bool}{w w':JE}{ga:JI}{fs:List Jd}{cap:Nat}{pl:List Nat}(h:G8 fr w ga fs cap pl)(hh:∀x∈pl,w'.heap[x]?=w.heap[x]?):G8 fr w' ga fs cap pl:=by
 refine⟨λx hx=>?_,λi f hf=>?_,h.cap⟩
 .have h1:=hh x hx;have h2:=h.lt x hx
  grind
 .obtain⟨g,kb,kc,h1,h2,h3,h4⟩:=h.at_ i f hf;have e:∀k,w'.cell? ⟨g,k,none⟩=w.cell? ⟨g,k,none⟩:=λk=>Du (hh g h2);exact⟨g,kb,kc,h1,h2,h3,(e _).trans h4.ck,(e _).trans h4.ci,(e _).trans h4.cv,h4.row.kept (hh kb h3)⟩
structure RH(f:Jd):Prop where
 n:f.k.length=3
 k:∀x∈f.k,0<=x/\x<=99
 it:I64 f.it
 v:I64 f.v
def b13:Code:=f22.body.getD .skip
def fC:Code->Code | .seq a _=>a|c=>c
def sC:Code->Code | .seq _ b=>b|c=>c
def sU:Code:=fC (sC b13)
def sV:Code:=fC (sC (sC b13))
def sW:Code:=fC (sC (sC (sC b13)))
def sZ:Code:=fC (sC (sC (sC (sC b13))))
def tC:Code:=fC (sC (sC (sC (sC (sC b13)))))
def tH:Code:=fC (sC (sC (sC (sC (sC (sC b13))))))
def tJ:Code:=fC (sC (sC (sC (sC (sC (sC (sC b13)))))))
def Qw:Code:=fC (sC (sC (sC (sC (sC (sC (sC (sC b13))))))))
def tK:Code:=sC (sC (sC (sC (sC (sC (sC (sC (sC b13))))))))
def J012:b13=.seq (fC b13) (.seq sU (.seq sV (.seq sW (.seq sZ (.seq tC (.seq tH (.seq tJ (.seq Qw tK)))))))):=by kernel_rfl
def Jqy(x:Int)(w:JE):Calls prog 37 #[JK x] w λe w'=>e=.returned (.bool (decide (x<0\/99<x)))/\w'=w:=by
 go_enter func37,ntmps37
 by_cases h:x<0
 .go_wp2;go_ret;simp[h]
 .by_cases h2:99<x
  .go_wp2;go_ret;simp[h2]
  .go_wp2;go_ret;simp[h,h2]
def I4(x:Nat)(ga:JI)(n cap:Nat)(t:JC):Prop:=t.size=157/\t[0]?=some (JL x)/\t[1]?=some (.slice ga n cap)/\t[4]?=some .nilIface
def J07l(n k:Int)(w:JE):Calls prog 38 #[JK n,JK k] w λe w'=>e=.returned (.iface 85 (JL w.heap.size))/\w'=w.alloc (.cells #[JK n,JK k] 89):=by
 go_enter func38,ntmps38
 go_wp2;go_ret
 simp_all
def pW(f:Jd):Prop:=f.k.length<=1000/\(f.k.length=3->∃x∈f.k,x<0\/99<x)
def J09l{fr:Bool}{w:JE}{kb kc:Nat}{ks:JD}(h:Row fr w kb 3 .i64 ks kc)(hn:ks.length<=1000) :
  Calls prog 36 #[JM kb ks.length kc,.func (.func 37) #[] #[]] w λe w'=>e=.returned (.bool (ks.any λx=>decide (x<0\/99<x)))/\∃q,w'=w.drewN q:=by
 refine(Tryz.slices_ContainsFunc (Value.int .i64) (λx=>decide (x<0\/99<x)) 37 #[] (enters_of func37 (by kernel_rfl) rfl) kb 0 ks.length kc ks w (λW x _=>(Jqy x W).mono λe w' ⟨h1,h2⟩=>⟨h1,0,h2⟩) (Ad _) (by omega) (λj hj=>?_)).mono λe w' ⟨h1,h2⟩=>⟨?_,h2⟩
 .rw[Nat.zero_add,h.cell hj]
  grind
 grind
section
variable{w:JE}{x:Nat}{ga:JI}{fs:List Jd}{cap:Nat}{pl:List Nat}{t:JC}{k0:Nat}
def Ji9(hx:w.cell? ⟨x,0,none⟩=some (JK 3))(hf:G8 false w ga fs cap pl)(qA:k0<=fs.length)(hok:∀i g,i<k0->fs[i]?=some g->RH g)(aV:∀g,fs[k0]?=some g->pW g)(hn:fs.length<=1000)(dS:I4 x ga fs.length cap t) :
  sU.wp prog (λe a w'=>a.defers=[]/\a.tmps.size=157/\Tch w.heap.size M0 w w'/\(fs.length=k0/\e=.normal/\a.tmps[0]?=some (JL x)/\a.tmps[1]?=some (.slice ga fs.length cap)/\a.tmps[4]?=some .nilIface \/
   k0<fs.length/\e=.ret/\∃b,a.tmps[4]?=some (.iface 85 (JL b))/\w.heap.size<=b/\w'.heap[b]?=some (.cells #[JK 2,JK k0] 89))) ⟨t,[]⟩ w:=by
 obtain⟨Ag,s0,s1,s4⟩:=dS;obtain⟨f,rfl⟩:=Qo Ag;rw[Gv]at *;have e0:f 0=_:=Aa s0;have e1:f 1=_:=Aa s1;have e4:f 4=_:=Aa s4;simp only[I4];rw[e0,e1,e4];clear Ag s0 e0 s1 e1 s4 e4;have Rj:x<w.heap.size:=cell_lt hx;have OC:∀i f,fs[i]?=some f->∀w1,Tch w.heap.size M0 w w1->∃g kb kc,ga=some ⟨g,0,none⟩/\FAt false w1 g i f kb kc:=λi f h w1 ht=>by
  have hf1:=hf.kept (w':=w1) λy hy=>ht.heap y (hf.lt y hy) λh=>h;obtain⟨g,kb,kc,h1,_,_,h2⟩:=hf1.at_ i f h
  grind
 have LU:∀w1,Tch w.heap.size M0 w w1->w1.cell? ⟨x,0,none⟩=some (JK 3):=λw1 ht=>(ht.cell Rj λh=>h).trans hx;clear hf hx;simp only[sU,b13,fC,sC,f22,A8];generalize hN:fs.length=n at *;go_wp2
 go_loopw [4,22] (λu i wr=>∃k:Nat,u=.nilIface/\k<=k0/\i=JK k/\Tch w.heap.size M0 w wr) (λ_ i _=>n-(RowKit.intOf i).toNat)
 case atStart=>exact⟨0,rfl,by omega,rfl,.refl⟩
 case round=>
  obtain⟨k,rfl,hk,rfl,ht⟩:=hrel;rcases BF k n with Ac|Et
  .have CS:(k:Int)<n:=by omega
   obtain⟨fd,Np⟩:∃fd,fs[k]?=some fd:=⟨fs[k]'(by omega),DL _⟩;obtain⟨g,kb,kc,rfl,hF⟩:=OC k fd Np wr ht;have c0:=hF.ck;have c1:=hF.ci;have c2:=hF.cv;have hl1:fd.k.length<=1000:=by
    rcases BF k k0 with h|h
    .rw[(hok k fd h Np).n];omega
    .obtain rfl:k=k0:=by omega
     exact(aV fd Np).1
   have hany:fd.k.length=3->(fd.k.any λx=>decide (x<0\/99<x))=decide (k=k0):=λh3=>by
    rcases BF k k0 with h|h
    .have:=(hok k fd h Np).k
     grind
    .obtain rfl:k=k0:=by omega
     obtain⟨x,hx,h⟩:=(aV fd Np).2 h3
     grind
   have Bj:=λw1(t:Tch wr.heap.size M0 wr w1)=>J09l (hF.row.tch t hF.row.lt λh=>h) hl1;have EX:=LU _ (ht.then (Tch.refl.alloc (Ad _) (.cells #[JM kb fd.k.length kc,JK fd.it,JK fd.v] 50)) ht.size λ_ _ h=>h);have hlt3:k<k0->fd.k.length=3:=λh=>(hok k fd h Np).n;clear hF OC LU Np hok aV;generalize fd.k.length=m at *;go_wp2;obtain⟨W1,AP⟩:∃W1,wr.alloc (.cells #[JM kb m kc,JK fd.it,JK fd.v] 50)=W1:=⟨_,rfl⟩;have t1:Tch wr.heap.size M0 wr W1:=by rw[<- AP];exact Tch.refl.alloc (Ad _) _
   have FD:W1.heap[wr.heap.size]?=some (.cells #[JM kb m kc,JK fd.it,JK fd.v] 50):=by rw[<- AP];exact Ja _
   rw[AP]at EX ⊢;have b0:=(cell_of FD 0).trans rfl;have hq:∀q,Calls prog 36 #[JM kb m kc,.func (.func 37) #[] #[]] (W1.drewN q) λe w'=>e=.returned (.bool (fd.k.any λx=>decide (x<0\/99<x)))/\∃q',w'=(W1.drewN q).drewN q':=λq=>Bj _ ⟨t1.size,t1.heap,t1.tape,t1.os,t1.output⟩;have hfa:=λW=>J07l 2 (k:Int) W;clear AP Bj FD c0 c1 c2;by_cases h3:m=3
   .rw[hany h3]at hq;subst h3;rcases BF k k0 with h|h
    .rw[decide_eq_false (by omega)]at hq
     go_quiet ((go_at_call 36;exact Calls.quiet_of (hq _)))
     go_wp2;exact⟨⟨k+1,rfl,by omega,by go_num,ht.then ⟨t1.size,t1.heap,t1.tape,t1.os,t1.output⟩ ht.size λ_ _ h=>h⟩,by simp[RowKit.intOf];omega⟩
    .rw[decide_eq_true (by omega)]at hq
     go_quiet ((go_at_call 36;exact Calls.quiet_of (hq _)))
     go_wp2;obtain rfl:k=k0:=by omega
     have t2:Tch w.heap.size M0 w (W1.drewN nq):=ht.then ⟨t1.size,t1.heap,t1.tape,t1.os,t1.output⟩ ht.size λ_ _ h=>h;exact⟨t2.alloc t2.size _,Ac,BN ht.size t1.size,(BJ.1 (Ja (w:=W1.drewN nq) _)).2⟩
   .have hm3:((m:Int) != 3)=true:=by rw[bne_iff_ne];omega
    have OM:k=k0:=by omega
    go_quiet (fail)
    go_wp2;subst OM;have t2:Tch w.heap.size M0 w (W1.drewN nq):=ht.then ⟨t1.size,t1.heap,t1.tape,t1.os,t1.output⟩ ht.size λ_ _ h=>h;exact⟨t2.alloc t2.size _,Ac,t2.size,(BJ.1 (Ja (w:=W1.drewN nq) _)).2⟩
  .have EC:¬((k:Int)<n):=by omega
   clear OC LU;go_wp2;omega
end
open Go.Maps
def Cm.Ju1{w:JE}{b:Nat}{L:List (JD × JJ)}(h:Cm w b L)(hn:L.length<maxLen){k:JD}(hk:EM k)(v:JJ) :
  ∃w',(Instr.mapUpdate 109 (.map (some b)) (.agg (ai .i64 k)) v).run prog w=.ok () w'/\Cm w' b (Ot k v L)/\w.grownBy w' (some b):=by
 obtain⟨L',h1,n,h2⟩:=h.own;have hlen:(L'.map Dy).length<maxLen:=by simpa[h1.length_eq]using hn
 obtain⟨w',AB,h3,h4⟩:=(Jlh h2).update aN underlying109 hlen (U6 hk) (val:=v) (d:=.held v) (ps:=[]) rfl;refine⟨w',AB,⟨λp hp=>?_,?_,?_⟩,h4⟩
 .rcases AL.1 hp with rfl|hp
  .exact hk
  .exact h.keys p (Hq.1 hp).1
 .simp only[Ot,D5,List.nodup_cons]
  grind[List.filter_sublist,nodup]
 .have e:(DataW.map (L'.map Dy)).put (klit k) (.held v)=.map (DataW.insert (Dy (k,v)) ((L'.filter λp=>!decide (p.1=k)).map Dy)):=by
   have ef:(L'.map Dy).filter (λp=>!p.1.sameKey (klit k))=(L'.filter λp=>!decide (p.1=k)).map Dy:=by
    rw[List.filter_map];refine congrArg (List.map Dy) (List.filter_congr λp hp=>?_);simp only[Function.comp];rw[show(Dy p).1.sameKey (klit k)=decide (p.1=k)from VX (h.keys p (h1.mem_iff.1 hp)) hk]
   show DataW.map (DataW.insert _ ((L'.map Dy).filter (λp=>!p.1.sameKey (klit k))))=_;rw[ef];rfl
  rw[e]at h3;obtain⟨L2,e2,lZ⟩:=J8e (k,v) (L'.filter λp=>!decide (p.1=k));rw[<- e2]at h3;exact⟨L2,lZ.trans ((h1.filter _).cons _),_,h3⟩
structure Kr(w:JE)(nb:Nat)(T:List TR)(U:List (JD))(L:List (JD × JJ)):Prop where
 map:Cm w nb L
 new:∀p∈L,p.1∈U/\tm T p.1=none
def aJ:∀{V U:List (JD)},V.Nodup->(∀x∈V,x∈U)->V.length<=U.length
 |[],_,_,_=>Nat.zero_le _
 |a::V,U,hV,hs=>by
  have h1:=List.nodup_cons.1 hV;have ha:=hs a (by simp);have:=aJ (U:=U.erase a) h1.2 λx hx=>(List.mem_erase_of_ne λe=>h1.1 (by grind)).2 (hs x (by simp[hx]))
  grind
def Kr.le{fr:Bool}{w w':JE}{c:J7}{nb m:Nat}{T:List TR}{U:List (JD)}{L:List (JD × JJ)}(h:Kr w nb T U L)(hT:TabAt fr w' c m T)(hU:∀t∈T,t.k∈U):T.length+L.length<=U.length:=by
 have:(T.map (·.k)++L.map (·.1)).Nodup:=by refine List.nodup_append.2 ⟨hT.nodup,h.map.nodup,λa ha b hb e=>?_⟩;subst e;obtain⟨t,ht,rfl⟩:=AZ.1 ha;obtain⟨p,hp,e⟩:=AZ.1 hb;have:=(h.new p hp).2;rw[e]at this;exact(Yp this).2 t ht rfl
 have h2:=aJ (U:=U) this λx hx=>by
  rcases Gn.1 hx with hx|hx
  .grind
  .obtain⟨p,hp,rfl⟩:=AZ.1 hx;exact(h.new p hp).1
 grind
def Kr.put{w w':JE}{nb:Nat}{T:List TR}{U:List (JD)}{L:List (JD × JJ)}{k:JD}{v:JJ}(h:Kr w nb T U L)(hm:Cm w' nb (Ot k v L))(hk:k∈U)(hT:tm T k=none):Kr w' nb T U (Ot k v L):=
 ⟨hm,λp hp=>by
  rcases AL.1 hp with rfl|hp
  .grind
  .exact h.new p (Hq.1 hp).1⟩
def Kr.kept{w w':JE}{nb:Nat}{T:List TR}{U:List (JD)}{L:List (JD × JJ)}(h:Kr w nb T U L)(hb:w'.heap[nb]?=w.heap[nb]?):Kr w' nb T U L:=⟨h.map.kept hb,h.new⟩
def I9(hs:Int->Int)(fs:List Jd)(k:Nat):JD:=(fs.take k).map (λf=>hs f.it)++List.replicate (fs.length-k) 0
def Jaj{hs:Int->Int}{fs:List Jd}{k:Nat}:(I9 hs fs k).length=fs.length:=by simp[I9];omega
def Je2{hs:Int->Int}{fs:List Jd}{k:Nat}{f:Jd}(h:fs[k]?=some f):I9 hs fs (k+1)=(I9 hs fs k).set k (hs f.it):=by
 obtain⟨hk,e⟩:=List.getElem?_eq_some_iff.1 h;unfold I9;have hl:((fs.take k).map λf=>hs f.it).length=k:=by simp;omega
 rw[List.take_add_one,h,List.map_append,show fs.length-k=(fs.length-(k+1))+1 by omega,List.replicate_succ]
 simp_all
section
variable{w:JE}{x:Nat}{ga:JI}{fs:List Jd}{cap:Nat}{pl D8:List Nat}{t:JC}{c:J7}{T:List TR}{U:List (JD)}{base vm hb nb N0 n:Nat}{vs:Nat->Option Nat}{seed nf:Int}{h:JJ}{hs:Int->Int}
def Jr5(hn:n<=1000)(dS:I4 x ga n cap t):sV.wp prog (λe a w'=>e=.normal/\a.defers=[]/\I4 x ga n cap a.tmps/\a.tmps[7]?=some (JM w.heap.size n n)/\w'=w.alloc (.cells (Array.replicate n (.int .u64 0)) 110)) ⟨t,[]⟩ w:=by obtain⟨Ag,s0,s1,s4⟩:=dS;obtain⟨f,rfl⟩:=Qo Ag;rw[Gv]at *;have e0:f 0=_:=Aa s0;have e1:f 1=_:=Aa s1;have e4:f 4=_:=Aa s4;simp only[I4];rw[e0,e1,e4];clear Ag s0 e0 s1 e1 s4 e4;have GN:=mkRow 36 110 .u64 8 underlying36 Wh (by omega) n (by omega);simp only[sV,b13,fC,sC,f22,A8];go_wp2
def Jr6(q:DU w x c seed h nf vm vs)(h7:vs 7=some base)(dS:I4 x ga n cap t)(s7:t[7]?=some (JM hb n n)):sW.wp prog (λe a w'=>e=.normal/\a.defers=[]/\I4 x ga n cap a.tmps/\a.tmps[7]?=some (JM hb n n)/\a.tmps[8]?=some (.map (some base))/\Tch w.heap.size M0 w w'/\w'.heap=w.heap) ⟨t,[]⟩ w:=by
 obtain⟨Ag,s0,s1,s4⟩:=dS;obtain⟨f,rfl⟩:=Qo Ag;rw[Gv]at *;have e0:f 0=_:=Aa s0;have e1:f 1=_:=Aa s1;have e4:f 4=_:=Aa s4;have e7:f 7=_:=Aa s7;simp only[I4];rw[e0,e1,e4,e7];clear Ag s0 e0 s1 e1 s4 e4 s7 e7;have c7:=q.cells.2.2.2.2.2.2.2;have hl:=λm=>HY.J0cd (w:=w.drewN m) (q.vs.kept rfl) h7;have hb:∀m,Calls prog 32 #[JL x] (w.drewN m) λe w'=>e=.returned (JK 7)/\w'=w.drewN m:=λm=>nC q.cells.1;simp only[sW,b13,fC,sC,f22,A8]
 go_wp2_with fail
 go_quiet ((go_at_call 32;exact Calls.quiet_of_same (hb _)))
 go_wp2;exact⟨Ad _,λ_ _ _=>rfl,rfl,rfl,rfl⟩
def Jr7(dS:I4 x ga n cap t)(s7:t[7]?=some (JM hb n n))(s8:t[8]?=some (.map (some base))):sZ.wp prog (λe a w'=>e=.normal/\a.defers=[]/\I4 x ga n cap a.tmps/\a.tmps[7]?=some (JM hb n n)/\a.tmps[8]?=some (.map (some base))/\a.tmps[9]?=some (.map (some w.heap.size))/\w'=w.alloc (.map #[] 0)) ⟨t,[]⟩ w:=by obtain⟨Ag,s0,s1,s4⟩:=dS;obtain⟨f,rfl⟩:=Qo Ag;rw[Gv]at *;have e0:f 0=_:=Aa s0;have e1:f 1=_:=Aa s1;have e4:f 4=_:=Aa s4;have e7:f 7=_:=Aa s7;have e8:f 8=_:=Aa s8;simp only[I4];rw[e0,e1,e4,e7,e8];clear Ag s0 e0 s1 e1 s4 e4 s7 e7 s8 e8;have jH:∀(t:JH) w,(Instr.makeMap t none).run prog w=.ok (.map (some w.heap.size)) (w.alloc (.map #[] 0)):=λ_ _=>rfl;simp only[sZ,b13,fC,sC,f22,A8];go_wp2
end
def Jm4{f:Jd}(h:RH f):EM (BI f.k):=by
 refine⟨mW (by rw[h.n];omega),λx hx=>?_⟩;have:0<=x/\x<=99:=by
  rcases Gn.1 hx with hx|hx
  .exact h.k x hx
  grind
 have e1:IntKind.i64.min=-9223372036854775808:=by decide
 have e2:IntKind.i64.max=9223372036854775807:=by decide
 simp[Lit.wf,e1,e2];omega
section
variable{w:JE}{x:Nat}{ga:JI}{fs:List Jd}{cap n:Nat}{pl D8:List Nat}{t:JC}{c:J7}{T:List TR}{U:List (JD)}{base vm hb nb N0:Nat}{hs:Int->Int}
def Jr8(hn:fs.length=n)(Ij:n<=1000)(hN:N0<=w.heap.size)(EJ:∀w1,Tch N0 M0 w w1->∀item at_,Calls prog 39 #[JL x,JK item,JK at_] w1 λe w2=>e=.returned (.tuple #[.int .u64 (hs item),.nilIface])/\Tch w1.heap.size M0 w1 w2)
  (Ih:∀y∈pl,y<N0) (hf:∀w1,Tch N0 M0 w w1->G8 false w1 ga fs cap pl) (hok:∀g∈fs,RH g) (hT:∀w1,Tch N0 M0 w w1->TabAt false w1 c base T) (hU:∀g∈fs,BI g.k∈U) (hUn:U.length<=1000)
  (Xw:N0<=hb) (BL:N0<=nb) (Ap:hb≠nb) (MI:Row false w hb 110 .u64 (I9 hs fs 0) n) (fZ:Kr w nb T U []) (hTU:∀t∈T,t.k∈U) (dS:I4 x ga n cap t) (s7:t[7]?=some (JM hb n n)) (s8:t[8]?=some (.map (some base))) (s9:t[9]?=some (.map (some nb))) :
  tC.wp prog (λe a w'=>e=.normal/\a.defers=[]/\I4 x ga n cap a.tmps/\a.tmps[7]?=some (JM hb n n)/\a.tmps[8]?=some (.map (some base))/\a.tmps[9]?=some (.map (some nb)) /\
   Row false w' hb 110 .u64 (I9 hs fs n) n/\(∃L,Kr w' nb T U L)/\Tch N0 M0 w w') ⟨t,[]⟩ w:=by
 obtain⟨Ag,s0,s1,s4⟩:=dS;obtain⟨f,rfl⟩:=Qo Ag;rw[Gv]at *;have e0:f 0=_:=Aa s0;have e1:f 1=_:=Aa s1;have e4:f 4=_:=Aa s4;have e7:f 7=_:=Aa s7;have e8:f 8=_:=Aa s8;have e9:f 9=_:=Aa s9;simp only[I4];rw[e0,e1,e4,e7,e8,e9];clear Ag s0 e0 s1 e1 s4 e4 s7 e7 s8 e8 s9 e9;simp only[tC,b13,fC,sC,f22,A8];go_wp2
 go_loopw [4,57] (λu i wr=>∃k:Nat,u=.nilIface/\k<=n/\i=JK k/\Row false wr hb 110 .u64 (I9 hs fs k) n/\(∃L,Kr wr nb T U L)/\Tch N0 M0 w wr) (λ_ i _=>n-(RowKit.intOf i).toNat)
 case atStart=>exact⟨0,rfl,by omega,rfl,MI,⟨[],fZ⟩,.refl⟩
 case round=>
  obtain⟨k,rfl,hk,rfl,hr,⟨L,hL⟩,ht⟩:=hrel;rcases BF k n with Ac|Et
  .have CS:(k:Int)<n:=by omega
   obtain⟨fd,Np⟩:∃fd,fs[k]?=some fd:=⟨fs[k]'(by omega),DL _⟩;have IQ:=hok fd (NR Np);have hkU:=hU fd (NR Np);have Vd:=Jm4 IQ;have hF0:∀kb kc,Row false wr kb 3 .i64 fd.k kc->∀w1,Tch N0 M0 w w1->kb<N0->Row false w1 kb 3 .i64 fd.k kc:=λkb kc h w1 t hl=>h.kept ((t.heap kb hl λh=>h).trans (ht.heap kb hl λh=>h).symm);obtain⟨g,kb,kc,rfl,hgp,Us,hF⟩:=(hf wr ht).at_ k fd Np;have c0:=hF.ck;have c1:=hF.ci;have c2:=hF.cv;rw[IQ.n]at c0;have AQ:N0<=wr.heap.size:=BN hN ht.size;obtain⟨W1,AP⟩:∃W1,wr.alloc (.cells #[JM kb 3 kc,JK fd.it,JK fd.v] 50)=W1:=⟨_,rfl⟩;have t1:Tch wr.heap.size M0 wr W1:=by rw[<- AP];exact Tch.refl.alloc (Ad _) _
   have FD:W1.heap[wr.heap.size]?=some (.cells #[JM kb 3 kc,JK fd.it,JK fd.v] 50):=by grind[Ja]
   have Bj:=EJ W1 (ht.then t1 AQ λ_ _ h=>h) fd.it k;have d1:=(cell_of FD 1).trans rfl;have Um:=hr.lt;have CV:wr.heap.size≠hb:=by omega
   have Dt:hb≠wr.heap.size:=by omega
   have hx5:∃y0 y1 y2 y3 y4,BI fd.k=[y0,y1,y2,y3,y4]:=by
    have h1:=Vd.1;generalize BI fd.k=l at h1;rcases l with _|⟨x0,_|⟨x1,_|⟨x2,_|⟨x3,_|⟨x4,_|⟨x5,l⟩⟩⟩⟩⟩⟩<;>simp at h1
    grind
   obtain⟨y0,y1,y2,y3,y4,hy⟩:=hx5;have WB:∀w1,Tch N0 M0 w w1->Calls prog 40 #[JM kb 3 kc] w1 λe w'=>e=.returned (.agg #[JK y0,JK y1,JK y2,JK y3,JK y4])/\Tch w1.heap.size M0 w1 w':=λw1 t=>by have hlb:=(hf wr ht).lt _ Us;have hlw:kb<N0:=Ih kb Us;have:=Jit (w:=w1) (hF0 kb kc hF.row w1 t hlw) (by rw[IQ.n];omega);rw[IQ.n,hy]at this;exact this
   have hLn:L.length<maxLen:=by
    have:=hL.le (hT wr ht) hTU;have e:maxLen=9223372036854775807:=by decide
    omega
   obtain⟨lv,CJ,hlv⟩:∃lv,(∀w1,Tch N0 M0 w w1->(Instr.lookup 95 (.map (some base)) (.agg #[JK y0,JK y1,JK y2,JK y3,JK y4]) false).run prog w1=.ok lv w1)/\((lv=.pointer none/\tm T (BI fd.k)=none)\/∃b,lv=JL b):=by
    cases CB:tm T (BI fd.k)with
    |none=>
     refine⟨_,λw1 t=>?_,.inl ⟨rfl,rfl⟩⟩;have:=(hT w1 t).map.lookup Vd;rw[(Yp CB).1,hy]at this;exact this
    |some B=>
     obtain⟨t,_,_,_,_,_,_,Ew⟩:=Qk CB;refine⟨_,λw1 q=>?_,.inr ⟨t.p.b,rfl⟩⟩;have:=(hT w1 q).map.lookup Vd;rw[Ew,hy]at this;exact this
   clear EJ;rcases hlv with⟨rfl,CB⟩|⟨tb,rfl⟩
   all_goals
    go_wp2_with (first
    |(go_at_call 39;refine Bj.mono ?_;rintro e w2 ⟨rfl,t2⟩
      have t12:=t1.then t2 t1.size λ_ _ h=>h;have e2:w2.heap[wr.heap.size]?=some (.cells #[JM kb 3 kc,JK fd.it,JK fd.v] 50):=(t2.heap _ (Jj FD) λh=>h).trans FD;have BM:=hr.tch t12 Um λh=>h;have Es:=hL.kept (t12.heap _ hL.map.lt λh=>h);have Ew:k<(I9 hs fs k).length:=by rw[Jaj];omega
      have f0:=BM.cell Ew;have f1:=BM.frozen k;have f2:=(cell_of e2 0).trans rfl;have e2l:=Jj e2;obtain⟨W3,CY⟩:∃W3,w2.setCell ⟨hb,k,none⟩ (.int .u64 (hs fd.it))=W3:=⟨_,rfl⟩;have t3:Tch N0 M0 w W3:=by rw[<- CY];exact(ht.then t12 AQ λ_ _ h=>h).set (.inl Xw) _
      have Io:Row false W3 hb 110 .u64 (I9 hs fs (k+1)) n:=by rw[<- CY,Je2 Np];exact BM.set k _
      have Lp:Kr W3 nb T U L:=by rw[<- CY];exact Es.kept (Jm _ _ (Ne.symm Ap))
      have g0:W3.cell? ⟨wr.heap.size,0,none⟩=some (JM kb 3 kc):=by rw[<- CY];exact(Du (Jm _ _ CV)).trans f2)
    |(go_at_call 40;refine(WB _ t3).mono ?_;rintro e w4 ⟨rfl,t4⟩
      obtain⟨W5,PU⟩:∃W5,w4.alloc (.cells #[JK y0,JK y1,JK y2,JK y3,JK y4] 104)=W5:=⟨_,rfl⟩;have t45:Tch W3.heap.size M0 W3 W5:=by rw[<- PU];exact t4.alloc t4.size _
      have t5:Tch N0 M0 w W5:=t3.then t45 (BN hN t3.size) λ_ _ h=>h;have e5:W5.heap[w4.heap.size]?=some (.cells #[JK y0,JK y1,JK y2,JK y3,JK y4] 104):=by rw[<- PU];exact Ja _
      have SY:=Io.tch t45 Io.lt λh=>h;have Ud:=Lp.kept (t45.heap _ Lp.map.lt λh=>h);have k0:=(cell_of e5 0).trans rfl;have k1:=(cell_of e5 1).trans rfl;have k2:=(cell_of e5 2).trans rfl;have k3:=(cell_of e5 3).trans rfl;have k4:=(cell_of e5 4).trans rfl;have xR:=CJ _ t5;obtain⟨w6,LM,hm6,Zc⟩:=Ud.map.Ju1 hLn Vd (JK 1);rw[hy]at LM;simp only[ai,D5,List.map_nil]at LM))
   .have hnb5:nb<W5.heap.size:=Ud.map.lt;have QF:=SY.lt;refine⟨⟨k+1,rfl,by omega,by go_num,SY.kept (Zc.block _ QF λe=>Ap (Aa e)),⟨_,Ud.put hm6 hkU CB⟩,?_⟩,by simp[RowKit.intOf];omega⟩;refine⟨BN t5.size Zc.size,λb hb _=>(Zc.block b (by grind) λe=>by grind).trans (t5.heap b hb λh=>h),Zc.tape.trans t5.tape,Zc.os.trans t5.os,Zc.output.trans t5.output⟩
   .exact⟨⟨k+1,rfl,by omega,by go_num,SY,⟨L,Ud⟩,t5⟩,by simp[RowKit.intOf];omega⟩
  .have EC:¬((k:Int)<n):=by omega
   obtain rfl:k=n:=by omega
   clear hf hT EJ;go_wp2;exact⟨L,hL⟩
end
def Cm.len{w:JE}{b:Nat}{L:List (JD × JJ)}(h:Cm w b L){t e:JH}(ht:prog.underlying t=some (.map 104 e))(ty:JH):(Builtin.len_ #[t] ty #[.map (some b)]).run prog w=.ok (JK L.length) w:=by obtain⟨L',h1,n,h2⟩:=h.own;rw[h2.len ht ty];simp[Maps.size,h1.length_eq]
section
variable{w:JE}{x:Nat}{ga:JI}{cap n:Nat}{t:JC}{c:J7}{T:List TR}{U:List (JD)}{base vm hb nb:Nat}{L:List (JD × JJ)}{seed nf:Int}{h:JJ}
def Jr9(hx:w.cell? ⟨x,6,none⟩=some (JK nf))(h0:0<=nf)(hn:nf+n<=3000)(hT:TabAt false w c base T)(hL:Kr w nb T U L)(hTU:∀t∈T,t.k∈U)(hU:U.length<=128)(dS:I4 x ga n cap t)(s7:t[7]?=some (JM hb n n))(s8:t[8]?=some (.map (some base)))(s9:t[9]?=some (.map (some nb))) :
  tH.wp prog (λe a w'=>e=.normal/\a.defers=[]/\I4 x ga n cap a.tmps/\a.tmps[7]?=some (JM hb n n)/\w'=w) ⟨t,[]⟩ w:=by
 obtain⟨Ag,s0,s1,s4⟩:=dS;obtain⟨f,rfl⟩:=Qo Ag;rw[Gv]at *;have e0:f 0=_:=Aa s0;have e1:f 1=_:=Aa s1;have e4:f 4=_:=Aa s4;have e7:f 7=_:=Aa s7;have e8:f 8=_:=Aa s8;have e9:f 9=_:=Aa s9;simp only[I4];rw[e0,e1,e4,e7,e8,e9];clear Ag s0 e0 s1 e1 s4 e4 s7 e7 s8 e8 s9 e9;have hle:=hL.le hT hTU;have g1:=hT.map.len underlying95 3;have g2:=hL.map.len underlying109 3;rw[FQ]at g1;have d1:¬(3000:Int)<IntKind.i64.wrap (nf+n):=by rw[IntKind.wrap_i64];omega
 have d2:¬(128:Int)<IntKind.i64.wrap ((T.length:Int)+L.length):=by rw[IntKind.wrap_i64];omega
 clear hT hL;simp only[tH,b13,fC,sC,f22,A8];go_wp2
def Jra(hx:w.cell? ⟨x,6,none⟩=some (JK nf))(hz:w.frozen? ⟨x,6,none⟩=false)(h0:0<=nf)(hn:nf+n<=3000)(dS:I4 x ga n cap t)(s7:t[7]?=some (JM hb n n)) :
  tJ.wp prog (λe a w'=>e=.normal/\a.defers=[]/\I4 x ga n cap a.tmps/\a.tmps[7]?=some (JM hb n n)/\w'=w.setCell ⟨x,6,none⟩ (JK (nf+n))) ⟨t,[]⟩ w:=by
 obtain⟨Ag,s0,s1,s4⟩:=dS;obtain⟨f,rfl⟩:=Qo Ag;rw[Gv]at *;have e0:f 0=_:=Aa s0;have e1:f 1=_:=Aa s1;have e4:f 4=_:=Aa s4;have e7:f 7=_:=Aa s7;simp only[I4];rw[e0,e1,e4,e7];clear Ag s0 e0 s1 e1 s4 e4 s7 e7;have d1:IntKind.i64.wrap (nf+n)=nf+n:=by rw[IntKind.wrap_i64];omega
 simp only[tJ,b13,fC,sC,f22,A8];go_wp2
end
def atK(k:JD)(E:List (JD × Bun)):List Bun:=(E.filter λe=>decide (e.1=k)).map (·.2)
def Jnp(k:JD)(E E':List (JD × Bun)):atK k (E++E')=atK k E++atK k E':=by simp[atK]
theorem I7{c:J7}{k:JD}{E:List (JD × Bun)}(h:∀e∈E,Jl c e.2):∀b∈atK k E,Jl c b:=λb hb=>by
 obtain⟨e,he,rfl⟩:=AZ.1 hb
 grind
def Sum.perm{c:J7}{f:JD->Option Bun}{E E':List (JD × Bun)}(h:Sum c f E)(hp:E.Perm E')(hok:∀e∈E,Jl c e.2):Sum c f E':=λk=>by
 rw[h k]
 grind[Jgm,I7]
def Jr0{α:Type}(l:List α)(j:Nat):l.take (4*(j+1))=l.take (4*j)++(l[4*j]?.toList++(l[4*j+1]?.toList++(l[4*j+2]?.toList++l[4*j+3]?.toList))):=by
 grind[List.take_add_one,List.append_assoc]
def mix4{α:Type}(a b c d e f g h:List α):((a++e)++((b++f)++((c++g)++(d++h)))).Perm ((a++(b++(c++d)))++(e++(f++(g++h)))):=by
 have s:∀(x y z t:List α),((x++y)++(z++t)).Perm ((x++z)++(y++t)):=λx y z t=>by
  grind[List.append_assoc,List.Perm.append_left,List.Perm.append_right,List.perm_append_comm]
 refine((((s c g d h).append_left _).trans (s b f _ _)).append_left _).trans ?_
 grind
theorem Je3{ks:List Je}:∀j,(CP 0 j ks++(CP 1 j ks++(CP 2 j ks++CP 3 j ks))).Perm (ks.take (4*j))
 |0=>by simp[CP]
 |j+1=>by rw[VQ,VQ,VQ,VQ,Jr0];refine(mix4 _ _ _ _ _ _ _ _).trans ((Je3 j).append ?_);rw[show 0+4*j=4*j by omega,show 1+4*j=4*j+1 by omega,show 2+4*j=4*j+2 by omega,show 3+4*j=4*j+3 by omega]
def Jr1(ks:List Je):(CP 0 ks.length ks++(CP 1 ks.length ks++(CP 2 ks.length ks++CP 3 ks.length ks))).Perm ks:=by
 grind[Je3,List.take_of_length_le]
def Jal{T:List TR}(hn:(T.map (·.k)).Nodup)(k:JD):atK k (Gz T)=(tm T k).toList:=by
 induction T with
 |nil=>rfl
 |cons t T ih=>
  simp only[D5,List.nodup_cons]at hn;have h2:=ih hn.2;by_cases e:t.k=k
  .subst e;have h3:tm T t.k=none:=by
    unfold tm
    grind
   rw[h3]at h2;unfold atK Gz at h2 ⊢;unfold tm
   grind
  .unfold atK Gz at h2 ⊢;unfold tm at h2 ⊢
   grind
def Gg(S:List TR)(mk:Nat)(pass:JD->Bool):List (JD × Bun):=S.filterMap λt=>if pass t.k then some (Jf mk t.k 5,t.B)else none
def Jr2{S:List TR}{ks:List Je}(hn:(S.map (·.k)).Nodup)(h:keysOf (S.map TR.kv) ks)(mk:Nat)(pass:JD->Bool):(ents S mk pass ks).Perm (Gg S mk pass):=by
 have hp:=h.keys;rw[Jg8]at hp;have e1:ents S mk pass ks=(ks.map (·.1)).filterMap λk=>if pass k then(tm S k).map λB=>(Jf mk k 5,B)else none:=by
  unfold ents
  simp_all
 have gen:∀l:List TR,(∀t∈l,t∈S)->Gg l mk pass=(l.map (·.k)).filterMap λk=>if pass k then(tm S k).map λB=>(Jf mk k 5,B)else none:=by
  intro l
  induction l with
  |nil=>exactλ_=>rfl
  |cons t l ih=>
   intro h;have:=ih λs hs=>h s (by simp[hs]);unfold Gg at this ⊢
   grind[TJ]
 grind
def Ju8{c:J7}{S:List TR}(h:∀t∈S,Jl c t.B){mk:Nat}{pass:JD->Bool}:∀e∈Gg S mk pass,Jl c e.2:=λe he=>by
 unfold Gg at he
 grind
def Sum.all{c:J7}{S:List TR}{mk:Nat}{pass:JD->Bool}{ks:List Je}(hS:∀t∈S,Jl c t.B)(hn:(S.map (·.k)).Nodup)(OO:keysOf (S.map TR.kv) ks){f:JD->Option Bun}{T1 T2 T3:List TR}{E0 EE:List (JD × Bun)}(h0:E0=ents S mk pass (CP 0 ks.length ks))
  (n1:(T1.map (·.k)).Nodup) (n2:(T2.map (·.k)).Nodup) (n3:(T3.map (·.k)).Nodup) (k1:∀t∈T1,Jl c t.B) (k2:∀t∈T2,Jl c t.B) (k3:∀t∈T3,Jl c t.B)
  (h1:Sum c (tm T1) (ents S mk pass (CP 1 ks.length ks))) (h2:Sum c (tm T2) (ents S mk pass (CP 2 ks.length ks))) (h3:Sum c (tm T3) (ents S mk pass (CP 3 ks.length ks)))
  (Xe:EE.Perm (Gz T1++Gz T2++Gz T3)) (hf:Sum c f (E0++EE)):Sum c f (Gg S mk pass):=by
 subst h0;have hp:(ents S mk pass (CP 0 ks.length ks)++(ents S mk pass (CP 1 ks.length ks)++(ents S mk pass (CP 2 ks.length ks)++ents S mk pass (CP 3 ks.length ks)))).Perm (Gg S mk pass):=by simp only[<- J7j];exact((Jr1 ks).filterMap _).trans (Jr2 hn OO mk pass)
 have hok:=Ju8 (mk:=mk) (pass:=pass) hS;have ok:∀e∈(ents S mk pass (CP 0 ks.length ks)++(ents S mk pass (CP 1 ks.length ks)++(ents S mk pass (CP 2 ks.length ks)++ents S mk pass (CP 3 ks.length ks)))),Jl c e.2:=λe he=>hok e (hp.mem_iff.1 he);have okt:∀{T:List TR},(∀t∈T,Jl c t.B)->∀e∈Gz T,Jl c e.2:=λ{T} h e he=>by obtain⟨t,ht,rfl⟩:=AZ.1 he;exact h t ht
 have q1:=okt k1;have q2:=okt k2;have q3:=okt k3;refine Sum.perm ?_ hp ok;have ok0:∀e∈ents S mk pass (CP 0 ks.length ks),Jl c e.2:=λe he=>ok e (by simp[he]);have ok1:∀e∈ents S mk pass (CP 1 ks.length ks),Jl c e.2:=λe he=>ok e (by simp[he]);have ok2:∀e∈ents S mk pass (CP 2 ks.length ks),Jl c e.2:=λe he=>ok e (by simp[he]);have ok3:∀e∈ents S mk pass (CP 3 ks.length ks),Jl c e.2:=λe he=>ok e (by simp[he]);have okE:∀e∈EE,Jl c e.2:=λe he=>by
  grind
 have hf2:Sum c f (ents S mk pass (CP 0 ks.length ks)++(Gz T1++(Gz T2++Gz T3))):=hf.perm (Xe.append_left _ |>.trans (by simp[*])) λe he=>(Gn.1 he).elim (ok0 e) (okE e);intro k;have e:=hf2 k;have s1:Gh c (atK k (Gz T1))=Gh c (atK k (ents S mk pass (CP 1 ks.length ks))):=by
  rw[Jal n1,<- show _=Gh c (atK k (ents S mk pass (CP 1 ks.length ks)))from h1 k];cases tm T1 k<;>rfl
 have s2:Gh c (atK k (Gz T2))=Gh c (atK k (ents S mk pass (CP 2 ks.length ks))):=by
  rw[Jal n2,<- show _=Gh c (atK k (ents S mk pass (CP 2 ks.length ks)))from h2 k];cases tm T2 k<;>rfl
 have s3:Gh c (atK k (Gz T3))=Gh c (atK k (ents S mk pass (CP 3 ks.length ks))):=by
  rw[Jal n3,<- show _=Gh c (atK k (ents S mk pass (CP 3 ks.length ks)))from h3 k];cases tm T3 k<;>rfl
 rw[e];show Gh c (atK k _)=Gh c (atK k _);have app:∀{l l':List Bun},(∀b∈l,Jl c b)->(∀b∈l',Jl c b)->∀b∈l++l',Jl c b:=λh h' b hb=>(Gn.1 hb).elim (h b) (h' b);simp only[Jnp];rw[Yk (I7 ok0) (app (I7 q1) (app (I7 q2) (I7 q3))),Yk (I7 q1) (app (I7 q2) (I7 q3)),Yk (I7 q2) (I7 q3),s1,s2,s3,
  Yk (I7 ok0) (app (I7 ok1) (app (I7 ok2) (I7 ok3))),Yk (I7 ok1) (app (I7 ok2) (I7 ok3)),Yk (I7 ok2) (I7 ok3)]
structure Le(w:JE)(c:J7)(m:Nat)(T:List TR):Prop where
 map:Cm w m (T.map TR.kv)
 bun:∀t∈T,Jw false w c t.p t.B
 out:m∉tpl T
 dis:T.Pairwise λs t=>∀x∈s.p.pl,x∉t.p.pl
section
variable{w w' w2:JE}{c:J7}{m:Nat}{T:List TR}{k:JD}
def TabAt.toW(h:TabAt false w c m T):Le w c m T:=⟨h.map,h.bun,h.out,h.dis⟩
theorem Le.nodup(h:Le w c m T):(T.map (·.k)).Nodup:=by
 have:=h.map.nodup
 rwa [List.map_map,show(λp:JD × JJ=>p.1) ∘ TR.kv=TR.k from rfl]at this
def Le.tab(h:Le w c m T)(ho:∀k B,tm T k=some B->Jl c B):TabAt false w c m T:=⟨h.map,h.bun,λt ht=>ho t.k _ (TJ h.nodup ht),h.out,h.dis⟩
def Le.kept(h:Le w c m T)(hh:∀x,x=m\/x∈tpl T->w'.heap[x]?=w.heap[x]?):Le w' c m T:=
 ⟨h.map.kept (hh m (.inl rfl)),λt ht=>(h.bun t ht).kept λx hx=>hh x (.inr (Jo.2 ⟨t,ht,hx⟩)),h.out,h.dis⟩
def Le.lt(h:Le w c m T):∀x,x=m\/x∈tpl T->x<w.heap.size:=λx hx=>by
 rcases hx with rfl|hx
 .exact h.map.lt
 .obtain⟨t,ht,hx⟩:=Jo.1 hx;exact(h.bun t ht).lt x hx
def Jnq(w:JE)(c:J7)(m:Nat)(T:List TR)(k:JD)(B:Bun)(w':JE):Prop:=
 ∃T',Le w' c m T'/\(∀k',tm T' k'=if k'=k then some B else tm T k')/\T'.length<=T.length+1/\(∀x∈tpl T',x∈tpl T\/w.heap.size<=x)/\Tch w.heap.size (λx=>x=m\/x∈tpl T) w w'
def Le.there{T1 T2:List TR}{t:TR}{B:Bun}(h:Le w c m (T1++t::T2))(hk:∀s∈T1,s.k≠t.k)(hp:TB w c t.p B w'):Jnq w c m (T1++t::T2) t.k B w':=by
 obtain⟨p',e1,h1,h2,h3⟩:=hp;have mt:t∈T1++t::T2:=by simp
 have hd:=h.dis;rw[List.pairwise_append,KF]at hd;have GU:∀s,s∈T1\/s∈T2->(∀x∈s.p.pl,x∉t.p.pl):=λs hs x hx Af=>by
  rcases hs with hs|hs
  .exact hd.2.2 s hs t (by simp) x hx Af
  .exact hd.2.1.1 s hs x Af hx
 have GV:∀x,x=m\/(∃s,(s∈T1\/s∈T2)/\x∈s.p.pl)->w'.heap[x]?=w.heap[x]?:=λx hx=>by
  refine h3.heap x ?_ ?_
  .rcases hx with rfl|⟨s,hs,hx⟩
   .exact h.map.lt
   .exact(h.bun s (by rcases hs with hs|hs<;>simp[hs])).lt x hx
  .rcases hx with rfl|⟨s,hs,hx⟩
   .exactλhx=>h.out (Jo.2 ⟨t,mt,hx⟩)
   .exact GU s hs x hx
 have GK:∀s,s∈T1\/s∈T2->∀x∈s.p.pl,x∉p'.pl:=λs hs x hx Af=>by
  rcases h2 x Af with h4|h4
  .exact GU s hs x hx h4
  .have:=(h.bun s (by rcases hs with hs|hs<;>simp[hs])).lt x hx;omega
 have D8:∀x,x∈tpl (T1++⟨t.k,p',B⟩::T2)->x∈tpl (T1++t::T2)\/w.heap.size<=x:=λx hx=>by
  obtain⟨s,hs,hx⟩:=Jo.1 hx;rcases Gn.1 hs with hs|hs
  .exact .inl (Jo.2 ⟨s,by simp[hs],hx⟩)
  .rcases AL.1 hs with rfl|hs
   .exact(h2 x hx).imp (λhx=>Jo.2 ⟨t,mt,hx⟩) id
   .exact .inl (Jo.2 ⟨s,by simp[hs],hx⟩)
 have Xx:(T1++⟨t.k,p',B⟩::T2).map TR.kv=(T1++t::T2).map TR.kv:=by simp only[List.map_append,D5,TR.kv,e1]
 refine⟨T1++⟨t.k,p',B⟩::T2,⟨?_,λs hs=>?_,λhx=>?_,?_⟩,λk'=>?_,by simp,D8,h3.mono (Ad _) λx _ hx=>.inr (Jo.2 ⟨t,mt,hx⟩)⟩
 .rw[Xx];exact h.map.kept (GV m (.inl rfl))
 .rcases Gn.1 hs with hs|hs
  .exact(h.bun s (by simp[hs])).kept λx hx=>GV x (.inr ⟨s,.inl hs,hx⟩)
  .rcases AL.1 hs with rfl|hs
   .exact h1
   .exact(h.bun s (by simp[hs])).kept λx hx=>GV x (.inr ⟨s,.inr hs,hx⟩)
 .rcases D8 m hx with hx|hx
  .exact h.out hx
  .have:=h.map.lt;omega
 .rw[List.pairwise_append,KF];refine⟨hd.1,⟨λs hs x hx Af=>GK s (.inr hs) x Af hx,hd.2.1.2⟩,λs hs y hy x hx=>?_⟩;rcases AL.1 hy with rfl|hy
  .exact GK s (.inl hs) x hx
  .exact hd.2.2 s hs y (by simp[hy]) x hx
 .rw[Wi (t:=⟨t.k,p',B⟩) hk,Wi hk];by_cases e:k'=t.k
  .simp[e]
  .simp[e]
def Le.Jck{p:BP}{B:Bun}{w1:JE}(h:Le w c m T)(hn:tm T k=none)(hp:Jw false w1 c p B)(hf:∀x∈p.pl,w.heap.size<=x)(ht:Tch w.heap.size M0 w w1)
  (hm:Cm w' m (Ot k (JL p.b) (T.map TR.kv))) (hg:w1.grownBy w' (some m)):Jnq w c m T k B w':=by
 have D7:=(Yp hn).2;have hT:Ot k (JL p.b) (T.map TR.kv)=(⟨k,p,B⟩::T:List TR).map TR.kv:=by
  unfold Ot;rw[List.filter_eq_self.2]
  .rfl
  .intro q hq;obtain⟨t,ht,rfl⟩:=AZ.1 hq;have h9:decide (t.k=k)=false:=by simpa using D7 t ht
   show(!decide (t.k=k))=true;rw[h9];rfl
 rw[hT]at hm;have LG:=h.map.lt;have iG:m∉p.pl:=λhx=>by have:=hf m hx;omega
 have g2:∀x,x<w1.heap.size->x≠m->w'.heap[x]?=w1.heap[x]?:=λx hx Ap=>hg.block x hx λe=>Ap (Aa e);refine⟨⟨k,p,B⟩::T,⟨hm,λt AA=>?_,λhx=>?_,?_⟩,λk'=>?_,by simp,λx hx=>?_,⟨BN ht.size hg.size,λx hx hn=>?_,hg.tape.trans ht.tape,hg.os.trans ht.os,hg.output.trans ht.output⟩⟩
 .rcases AL.1 AA with rfl|AA
  .exact hp.kept λx hx=>g2 x (hp.lt x hx) λe=>iG (e▸hx)
  .refine(h.bun t AA).kept λx hx=>(g2 x ?_ λe=>h.out (Jo.2 ⟨t,AA,e▸hx⟩)).trans (ht.heap x ((h.bun t AA).lt x hx) λx=>x);have:=(h.bun t AA).lt x hx;have:=ht.size;omega
 .obtain⟨t,AA,hx⟩:=Jo.1 hx;rcases AL.1 AA with rfl|AA
  .exact iG hx
  .exact h.out (Jo.2 ⟨t,AA,hx⟩)
 .refine KF.2 ⟨λt AA x hx Af=>?_,h.dis⟩;have:=hf x hx;have:=(h.bun t AA).lt x Af;omega
 .have:=Wi (T1:=[]) (t:=⟨k,p,B⟩) (T2:=T) (by simp) k';rw[Gm]at this;rw[this];show(if k'=k then some B else((tm [] k').or (tm T k')))=_;simp[tm]
 .obtain⟨t,AA,hx⟩:=Jo.1 hx;rcases AL.1 AA with rfl|AA
  .exact .inr (hf x hx)
  .exact .inl (Jo.2 ⟨t,AA,hx⟩)
 .have:=ht.size;exact(g2 x (by omega) λe=>hn (.inl e)).trans (ht.heap x hx λx=>x)
def Sr(c:J7)(bs:JD)(hs:Int->Int)(mk:Nat)(g:JD->Option Bun)(f:Jd):JD->Option Bun:=λk=>if k=Jf mk (BI f.k) 5 then some (P6 c bs ((g k).getD (P7 c)) (hs f.it) f.v)else g k
def MS(c:J7)(bs:JD)(hs:Int->Int)(mk:Nat)(g:JD->Option Bun)(fs:List Jd):JD->Option Bun:=fs.foldl (Sr c bs hs mk) g
def Jd8{c:J7}{bs:JD}{hs:Int->Int}{mk:Nat}(hc:CZ c)(CQ:bs.length=c.nb)(hh:∀x,0<=hs x/\hs x<=18446744073709551615):∀{fs:List Jd}{g:JD->Option Bun},(∀k B,g k=some B->Jl c B)->∀k B,MS c bs hs mk g fs k=some B->Jl c B
 |[],_,hg=>hg
 |f::fs,g,hg=>by
  refine Jd8 hc CQ hh (fs:=fs) (g:=Sr c bs hs mk g f) λk B h=>?_;unfold Sr at h;split at h
  .cases h;refine Ou.add ?_ hc CQ (hh _) _;cases hgk:g k with
   |none=>exact Jfo hc
   |some B=>exact(hg k B hgk).zero
  .exact hg k B h
def Je4{c:J7}{bs:JD}{hs:Int->Int}{mk:Nat}{g:JD->Option Bun}{fs:List Jd}{f:Jd}:MS c bs hs mk g (fs++[f])=Sr c bs hs mk (MS c bs hs mk g fs) f:=by simp[MS]
end
section
variable{w w1 w':JE}{c:J7}{m:Nat}{T:List TR}{k:JD}{bs:JD}
end
def LJ(w:JE)(c:J7)(vb:Nat)(T:List TR)(g:JD->Option Bun)(N:Nat)(wr:JE):Prop:=
 ∃T',Le wr c vb T'/\(∀key,tm T' key=g key)/\T'.length<=N/\(∀y,y=vb\/y∈tpl T'->(y=vb\/y∈tpl T)\/w.heap.size<=y)/\Tch w.heap.size (λb=>b=vb\/b∈tpl T) w wr
def LJ.tch{w wr:JE}{c:J7}{vb N:Nat}{T:List TR}{g:JD->Option Bun}(h:LJ w c vb T g N wr):Tch w.heap.size (λb=>b=vb\/b∈tpl T) w wr:=by obtain⟨_,_,_,_,_,h⟩:=h;exact h
def LJ.post{w wr w1:JE}{c:J7}{vb N:Nat}{T T':List TR}{g:JD->Option Bun}{k:JD}{B:Bun}(h2:∀key,tm T' key=g key)(h3:T'.length<=N)(h4:∀y,y=vb\/y∈tpl T'->(y=vb\/y∈tpl T)\/w.heap.size<=y)(h5:Tch w.heap.size (λb=>b=vb\/b∈tpl T) w wr)(hp:Jnq wr c vb T' k B w1) :
  LJ w c vb T (λkey=>if key=k then some B else g key) (N+1) w1:=by
 obtain⟨T2,q1,q2,q3,q4,q5⟩:=hp;have:=h5.size;refine⟨T2,q1,λkey=>by rw[q2,h2],by omega,λy hy=>?_,h5.then q5 h5.size λb hb hm=>?_⟩
 all_goals grind
def LJ.miss{w wr w1:JE}{c:J7}{vb N:Nat}{T:List TR}{g:JD->Option Bun}{k:JD}(h:LJ w c vb T g N wr)(hk:EM k)(hg:g k=none)(ht:Tch wr.heap.size M0 wr w1) :
  (Instr.lookup 95 (.map (some vb)) (.agg (ai .i64 k)) false).run prog w1=.ok (.pointer none) w1:=by
 obtain⟨T',h1,h2,_⟩:=h;have:=(h1.map.kept (ht.heap vb h1.map.lt λh=>h)).lookup hk
 grind[Yp]
def LJ.make{w wr w1:JE}{c:J7}{vb N:Nat}{T:List TR}{g:JD->Option Bun}{k:JD}(h:LJ w c vb T g N wr)(hN:N<=100000)(hk:EM k)(hg:g k=none)(ht:Tch wr.heap.size M0 wr w1){q:BP}{B:Bun}(hB:Jw false w1 c q B)(hf:∀x∈q.pl,wr.heap.size<=x) :
  ∃w2,(Instr.mapUpdate 95 (.map (some vb)) (.agg (ai .i64 k)) (JL q.b)).run prog w1=.ok () w2/\LJ w c vb T (λkey=>if key=k then some B else g key) (N+1) w2/\w1.heap.size<=w2.heap.size/\∀b,wr.heap.size<=b->b<w1.heap.size->w2.heap[b]?=w1.heap[b]?:=by
 obtain⟨T',h1,h2,h3,h4,h5⟩:=h;have e:maxLen=9223372036854775807:=by decide
 obtain⟨w2,r1,r2,r3⟩:=(h1.map.kept (ht.heap vb h1.map.lt λh=>h)).update (by simp;omega) hk (JL q.b);have aT:=h1.map.lt;exact⟨w2,r1,LJ.post h2 h3 h4 h5 (h1.Jck ((h2 k).trans hg) hB hf ht r2 r3),r3.size,λb hb hl=>r3.block b hl λe=>by grind⟩
def LJ.add{w wr:JE}{c:J7}{vb N:Nat}{T:List TR}{g:JD->Option Bun}{k bs:JD}{B:Bun}(h:LJ w c vb T g N wr)(hk:EM k)(hg:g k=some B)(h0:Ou c B)(hc:CZ c)(hB:Px false w c.ba bs)(CQ:bs.length=c.nb)(IV:bs.Pairwise (· < ·))
  (dB:∀a,c.ba=some a->a.block≠vb/\a.block∉tpl T/\a.block<w.heap.size) :
  ∃p,∀w1,Tch wr.heap.size M0 wr w1->(Instr.lookup 95 (.map (some vb)) (.agg (ai .i64 k)) false).run prog w1=.ok (JL p) w1 /\
   ∀x v,0<=x/\x<=18446744073709551615->Calls prog 43 #[JL p,.int .u64 x,JK v] w1 λe w'=>(∃v,e=.returned v)/\LJ w c vb T (λkey=>if key=k then some (P6 c bs B x v)else g key) (N+1) w':=by
 obtain⟨T',h1,h2,h3,h4,h5⟩:=h;obtain⟨t,T1,T2,rfl,rfl,rfl,k3,k4⟩:=Qk ((h2 k).trans hg);refine⟨t.p.b,λw1 ht=>?_⟩;have Vo:Le w1 c vb (T1++t::T2):=h1.kept λy hy=>ht.heap y (h1.lt y hy) λh=>h;have II:=h5.then ht h5.size λ_ _ h=>h.elim;refine⟨?_,λx v hx=>?_⟩
 .have:=Vo.map.lookup hk
  grind
 .have CV:Px false w1 c.ba bs:=hB.kept λbb e _=>II.heap bb (dB _ e).2.2 λhm=>hm.elim (dB _ e).1 (dB _ e).2.1;have hd:∀y∈tpl (T1++t::T2),c.ba≠some ⟨y,0,none⟩:=λy hy e=>by
   grind
  refine(zJ (Vo.bun t (by simp)) CV (λy hy=>hd y (Jo.2 ⟨t,by simp,hy⟩)) h0 hc CQ IV hx v).mono λe w' ⟨q1,q2⟩=>⟨q1,?_⟩;exact LJ.post h2 h3 (λy hy=>h4 y hy) II (Vo.there k3 q2)
def Ju9{c:J7}{bs:JD}{hs:Int->Int}{mk:Nat}{g:JD->Option Bun}{f:Jd}(hg:g (Jf mk (BI f.k) 5)=none)(key:JD) :
  (if key=Jf mk (BI f.k) 5 then some (P6 c bs (P7 c) (hs f.it) f.v)else if key=Jf mk (BI f.k) 5 then some (P7 c)else g key)=Sr c bs hs mk g f key:=by
 unfold Sr
 grind
def Jua{c:J7}{bs:JD}{hs:Int->Int}{mk:Nat}{g:JD->Option Bun}{f:Jd}{B:Bun}(hg:g (Jf mk (BI f.k) 5)=some B)(key:JD) :
  (if key=Jf mk (BI f.k) 5 then some (P6 c bs B (hs f.it) f.v)else g key)=Sr c bs hs mk g f key:=by
 unfold Sr
 grind
def Yx{l:JD}(h:l.length=5):∃x0 x1 x2 x3 x4,l=[x0,x1,x2,x3,x4]:=by
 rcases l with _|⟨x0,_|⟨x1,_|⟨x2,_|⟨x3,_|⟨x4,_|⟨x5,l⟩⟩⟩⟩⟩⟩<;>simp at h
 grind
def bC:Code->Code | .block _ c=>c|c=>c
def lC:Code->Code | .loop c=>c|c=>c
def oV:Code:=sC (bC (sC (sC (lC (bC (sC Qw))))))
section
variable{w:JE}{x:Nat}{ga:JI}{fs:List Jd}{cap n:Nat}{pl:List Nat}{t:JC}{c:J7}{T:List TR}{mk vb hb:Nat}{hs:Int->Int}{bs:JD}{seed:Int}
structure InF(w:JE)(x:Nat)(ga:JI)(fs:List Jd)(cap:Nat)(pl:List Nat)(c:J7)(seed:Int)(T:List TR)(vb hb:Nat)(hs:Int->Int)(bs:JD):Prop where
 tab:TabAt false w c vb T
 fsa:G8 false w ga fs cap pl
 okf:∀g∈fs,RH g
 hr:Row false w hb 110 .u64 (fs.map λf=>hs f.it) fs.length
 x0:w.cell? ⟨x,0,none⟩=some (JK 3)
 x1:w.cell? ⟨x,1,none⟩=some (JK c.bits)
 x2:w.cell? ⟨x,2,none⟩=some (JK c.K)
 x3:w.cell? ⟨x,3,none⟩=some (.slice c.ba c.nb c.cb)
 x4:w.cell? ⟨x,4,none⟩=some (JK seed)
 bnd:Px false w c.ba bs
 bsl:bs.length=c.nb
 so:bs.Pairwise (· < ·)
 cfg:CZ c
 hs:∀y,0<=hs y/\hs y<=18446744073709551615
 dF:∀y∈pl,y≠vb/\y∉tpl T
 dX:x≠vb/\x∉tpl T
 dH:hb≠vb/\hb∉tpl T
 dB:∀a,c.ba=some a->a.block≠vb/\a.block∉tpl T/\a.block<w.heap.size
 nf:fs.length<=3000
 nT:T.length<=3000
def Jns(hI:InF w x ga fs cap pl c seed T vb hb hs bs)(hn:fs.length=n)(dS:I4 x ga n cap t)(s7:t[7]?=some (JM hb n n))(s15:t[15]?=some (JK mk))(s16:t[16]?=some (.map (some vb))):oV.wp prog (λe a w'=>e=.normal/\a.defers=[]/\I4 x ga n cap a.tmps/\a.tmps[7]?=some (JM hb n n)/\a.tmps[117]?=t[117]? /\
   LJ w c vb T (MS c bs hs mk (tm T) fs) (T.length+2*n) w') ⟨t,[]⟩ w:=by
 obtain⟨Ag,s0,s1,s4⟩:=dS;obtain⟨f,rfl⟩:=Qo Ag;rw[Gv]at *;have e0:f 0=_:=Aa s0;have e1:f 1=_:=Aa s1;have e4:f 4=_:=Aa s4;have e7:f 7=_:=Aa s7;have KG:f 15=_:=Aa s15;have PG:f 16=_:=Aa s16;simp only[I4];rw[e0,e1,e4,e7,KG,PG];clear Ag s0 e0 s1 e1 s4 e4 s7 e7 s15 KG s16 PG;have Uc:=hI;obtain⟨tab,fsa,okf,hr,x0,x1,x2,x3,x4,bnd,bsl,so,cfg,hhs,dF,dX,dH,dB,nf,nT⟩:=Uc;have Rj:=cell_lt x0;have Um:=hr.lt;have hok:=λk=>Jd8 (mk:=mk) (fs:=fs.take k) (g:=tm T) cfg bsl hhs λkey B h=>by obtain⟨t,_,_,rfl,rfl,rfl,_,_⟩:=Qk h;exact tab.ok t (by simp)
 simp only[oV,bC,lC,Qw,b13,fC,sC,f22,A8];go_wp2
 go_loopw [125] (λi wr=>∃k:Nat,k<=n/\i=JK k/\LJ w c vb T (MS c bs hs mk (tm T) (fs.take k)) (T.length+2*k) wr) (λi _=>n-(RowKit.intOf i).toNat)
 case atStart=>exact⟨0,by omega,rfl,T,tab.toW,λ_=>rfl,by omega,λy hy=>.inl hy,.refl⟩
 case round=>
  obtain⟨k,hk,rfl,hJ⟩:=hrel;have ht:=hJ.tch;rcases BF k n with Ac|Et
  .have CS:(k:Int)<n:=by omega
   obtain⟨fd,Np⟩:∃fd,fs[k]?=some fd:=⟨fs[k]'(by omega),DL _⟩;have IQ:=okf fd (NR Np);have Vd:=Jm4 IQ;have fV:=Jgr (mk:=mk) Vd 5;have fsr:=fsa.kept (w':=wr) λy hy=>ht.heap y (fsa.lt y hy) λh=>h.elim (dF y hy).1 (dF y hy).2;obtain⟨g,kb,kc,rfl,hgp,Us,hF⟩:=fsr.at_ k fd Np;have c0:=hF.ck;have c1:=hF.ci;have c2:=hF.cv;have Aj:=hF.row;rw[IQ.n]at c0;have Ew:k<(fs.map λf=>hs f.it).length:=by simp;omega
   have hhc:∀w1,Tch w.heap.size (λb=>b=vb\/b∈tpl T) w w1->w1.cell? ⟨hb,k,none⟩=some (.int .u64 (hs fd.it)):=λw1 t=>by
    have:=(hr.kept (t.heap hb Um λh=>h.elim dH.1 dH.2)).cell Ew
    grind
   have yI:∀w1,Tch w.heap.size (λb=>b=vb\/b∈tpl T) w w1->w1.cell? ⟨x,0,none⟩=some (JK 3)/\w1.cell? ⟨x,1,none⟩=some (JK c.bits)/\w1.cell? ⟨x,2,none⟩=some (JK c.K)/\w1.cell? ⟨x,3,none⟩=some (.slice c.ba c.nb c.cb)/\w1.cell? ⟨x,4,none⟩=some (JK seed):=λw1 t=>by
    have e:∀i,w1.cell? ⟨x,i,none⟩=w.cell? ⟨x,i,none⟩:=λi=>t.cell Rj λh=>h.elim dX.1 dX.2
    grind
   obtain⟨z0,z1,z2,z3,z4,yK⟩:=Yx Vd.1;obtain⟨y0,y1,y2,y3,y4,Zm⟩:=Yx fV.1;have J04r:∃W1,wr.alloc (.cells #[JM kb 3 kc,JK fd.it,JK fd.v] 50)=W1:=⟨_,rfl⟩;obtain⟨W1,AP⟩:=J04r;have t1:Tch wr.heap.size M0 wr W1:=by rw[<- AP];exact Tch.refl.alloc (Ad _) _
   have e1:W1.heap[wr.heap.size]?=some (.cells #[JM kb 3 kc,JK fd.it,JK fd.v] 50):=by grind[Ja]
   have d0:=(cell_of e1 0).trans rfl;have WB:Calls prog 40 #[JM kb 3 kc] W1 λe w'=>e=.returned (.agg #[JK z0,JK z1,JK z2,JK z3,JK z4])/\Tch W1.heap.size M0 W1 w':=by have:=Jit (Aj.tch t1 Aj.lt λh=>h) (by rw[IQ.n];omega);rw[IQ.n,yK]at this;exact this
   have YG:∀w1,Calls prog 41 #[.agg #[JK z0,JK z1,JK z2,JK z3,JK z4],JK mk] w1 λe w'=>e=.returned (.agg #[JK y0,JK y1,JK y2,JK y3,JK y4])/\Tch w1.heap.size M0 w1 w':=λw1=>by have:=Jbv (BI fd.k) Vd.1 mk w1;rw[Zm,yK]at this;exact this
   have Ef:∀w9(g9:JD->Option Bun)(N9:Nat),(∀key,g9 key=Sr c bs hs mk (MS c bs hs mk (tm T) (fs.take k)) fd key)->N9<=T.length+2*(k+1)->LJ w c vb T g9 N9 w9->(∃yP:Nat,yP<=n/\Value.int IntKind.i64 ((k:Int)+1)=JK yP/\LJ w c vb T (MS c bs hs mk (tm T) (fs.take yP)) (T.length+2*yP) w9)/\n-(RowKit.intOf (JK ((k:Int)+1))).toNat<n-(RowKit.intOf (JK k)).toNat:=λw9 g9 N9 Xv hN9 h=>by
    refine⟨⟨k+1,by omega,by go_num,?_⟩,by simp[RowKit.intOf];omega⟩;obtain⟨T',q1,q2,q3,q4⟩:=h;refine⟨T',q1,λkey=>?_,by omega,q4⟩
    simp_all[List.take_add_one,Option.toList_some,Je4]
   cases hg:MS c bs hs mk (tm T) (fs.take k) (Jf mk (BI fd.k) 5)with
   |none=>
    have Ii:=λw1 t=>(hJ.miss (w1:=w1) fV hg t);rw[Zm]at Ii;simp only[ai,D5,List.map_nil]at Ii
    go_wp2_with (first
     |(go_at_call 40;refine WB.mono ?_;rintro e w2 ⟨rfl,t2⟩)
     |(go_at_call 41;refine(YG _).mono ?_;rintro e w3 ⟨rfl,t3⟩
       obtain⟨W4,PS⟩:∃W4,w3.alloc (.cells #[JK y0,JK y1,JK y2,JK y3,JK y4] 104)=W4:=⟨_,rfl⟩;have t4:Tch wr.heap.size M0 wr W4:=by rw[<- PS];have a:=t1.then (t2.then t3 t2.size λ_ _ h=>h) t1.size λ_ _ h=>h;exact a.alloc a.size _
       have e4:W4.heap[w3.heap.size]?=some (.cells #[JK y0,JK y1,JK y2,JK y3,JK y4] 104):=by rw[<- PS];exact Ja _
       have jE:=Ii W4 t4;have k0:=(cell_of e4 0).trans rfl;have k1:=(cell_of e4 1).trans rfl;have k2:=(cell_of e4 2).trans rfl;have k3:=(cell_of e4 3).trans rfl;have k4:=(cell_of e4 4).trans rfl))
    have Zp:Tch w.heap.size (λb=>b=vb\/b∈tpl T) w W4:=ht.then t4 ht.size λ_ _ h=>h.elim;have hx4:=yI W4 Zp;have Lm:W4.heap[wr.heap.size]?=some (.cells #[JM kb 3 kc,JK fd.it,JK fd.v] 50):=by
     have:W4.heap[wr.heap.size]?=w3.heap[wr.heap.size]?:=by rw[<- PS];exact J8 _ (by have:=Jj e1;have:=t2.size;have:=t3.size;omega)
     rw[this,t3.heap _ (by have:=Jj e1;have:=t2.size;omega) λh=>h,t2.heap _ (Jj e1) λh=>h,e1]
    have Jvo:wr.heap.size<=w3.heap.size:=by have:=t1.size;have:=t2.size;have:=t3.size;omega
    have uH:=Jj e4;generalize w3.heap.size=b4 at *;have hS4:∀w1,Tch W4.heap.size M0 W4 w1->w1.cell? ⟨b4,0,none⟩=some (JK y0)/\w1.cell? ⟨b4,1,none⟩=some (JK y1)/\w1.cell? ⟨b4,2,none⟩=some (JK y2)/\w1.cell? ⟨b4,3,none⟩=some (JK y3)/\w1.cell? ⟨b4,4,none⟩=some (JK y4)/\w1.cell? ⟨x,0,none⟩=some (JK 3)/\w1.cell? ⟨x,1,none⟩=some (JK c.bits)/\w1.cell? ⟨x,2,none⟩=some (JK c.K)/\w1.cell? ⟨x,3,none⟩=some (.slice c.ba c.nb c.cb)/\w1.cell? ⟨x,4,none⟩=some (JK seed):=λw1 t=>
     have e:=(t.heap b4 uH λh=>h).trans e4
     ⟨(cell_of e 0).trans rfl,(cell_of e 1).trans rfl,(cell_of e 2).trans rfl,(cell_of e 3).trans rfl,(cell_of e 4).trans rfl,yI w1 (Zp.then t Zp.size λ_ _ h=>h.elim)⟩
    have tdr:Tch W4.heap.size M0 W4 W4.drew:=.drew .refl;clear Ii jE k0 k1 k2 k3 k4 YG WB d0
    go_region_held3 (λw1=>w1.cell? ⟨b4,0,none⟩=some (JK y0)/\w1.cell? ⟨b4,1,none⟩=some (JK y1)/\w1.cell? ⟨b4,2,none⟩=some (JK y2)/\w1.cell? ⟨b4,3,none⟩=some (JK y3)/\w1.cell? ⟨b4,4,none⟩=some (JK y4)/\w1.cell? ⟨x,0,none⟩=some (JK 3)/\w1.cell? ⟨x,1,none⟩=some (JK c.bits)/\w1.cell? ⟨x,2,none⟩=some (JK c.K)/\w1.cell? ⟨x,3,none⟩=some (.slice c.ba c.nb c.cb)/\w1.cell? ⟨x,4,none⟩=some (JK seed)) (first|exact hS4 _ tdr|exact hS4 _ t5|exact YU) ((go_at_call 42;refine(Jxx cfg 3 seed).mono ?_;rintro e w5 ⟨q,rfl,hq,hqf,t5⟩;have t5:=t5.bW;have t45:=t4.then t5 t4.size λ_ _ h=>h;obtain⟨w6,LM,hJ6,KT,hk6⟩:=hJ.make (by omega) fV hg t45 hq (λy hy=>BN t4.size (hqf y hy));rw[Zm]at LM;simp only[ai,D5,List.map_nil]at LM;have e6:=(hk6 b4 Jvo (DX uH t5.size)).trans ((t5.heap b4 uH λh=>h).trans e4);have YU:w6.cell? ⟨b4,0,none⟩=some (JK y0)/\w6.cell? ⟨b4,1,none⟩=some (JK y1)/\w6.cell? ⟨b4,2,none⟩=some (JK y2)/\w6.cell? ⟨b4,3,none⟩=some (JK y3)/\w6.cell? ⟨b4,4,none⟩=some (JK y4)/\w6.cell? ⟨x,0,none⟩=some (JK 3)/\w6.cell? ⟨x,1,none⟩=some (JK c.bits)/\w6.cell? ⟨x,2,none⟩=some (JK c.K)/\w6.cell? ⟨x,3,none⟩=some (.slice c.ba c.nb c.cb)/\w6.cell? ⟨x,4,none⟩=some (JK seed):=⟨(cell_of e6 0).trans rfl,(cell_of e6 1).trans rfl,(cell_of e6 2).trans rfl,(cell_of e6 3).trans rfl,(cell_of e6 4).trans rfl,yI w6 hJ6.tch⟩))
    obtain⟨p,L6⟩:=hJ6.add fV (if_pos rfl) (Jfo cfg) cfg bnd bsl so dB;obtain⟨CJ,Bj⟩:=L6 w6.drew (.drew .refl);have Bj:=Bj (hs fd.it) fd.v (hhs _);rw[Zm]at CJ;simp only[ai,D5,List.map_nil]at CJ;have hS:w6.drew.cell? ⟨b4,0,none⟩=some (JK y0)/\w6.drew.cell? ⟨b4,1,none⟩=some (JK y1)/\w6.drew.cell? ⟨b4,2,none⟩=some (JK y2)/\w6.drew.cell? ⟨b4,3,none⟩=some (JK y3)/\w6.drew.cell? ⟨b4,4,none⟩=some (JK y4)/\(Instr.lookup 95 (.map (some vb)) (.agg #[JK y0,JK y1,JK y2,JK y3,JK y4]) false).run prog w6.drew=.ok (JL p) w6.drew/\w6.drew.cell? ⟨hb,k,none⟩=some (.int .u64 (hs fd.it))/\w6.drew.cell? ⟨wr.heap.size,2,none⟩=some (JK fd.v):=⟨YU.1,YU.2.1,YU.2.2.1,YU.2.2.2.1,YU.2.2.2.2.1,CJ,hhc w6.drew hJ6.tch.drew,(cell_of (w:=w6.drew) ((hk6 _ (Ad _) (by have:=Jj Lm;have:=t5.size;omega)).trans ((t5.heap _ (Jj Lm) λh=>h).trans Lm)) 2).trans rfl⟩;clear L6
    go_wp2_with fail
    obtain⟨s0,s1,s2,s3,s4,s5,s6,s7⟩:=hS
    go_still_tail 9,(by kernel_rfl)
    change wpList _ _ _ _ _ w6.drew;generalize w6.drew=Wd at *
    go_wp2_with (go_at_call 43;refine Bj.mono ?_;rintro e w9 ⟨⟨v9,rfl⟩,hJ9⟩)
    exact Ef _ _ _ (λkey=>Ju9 hg key) (by omega) hJ9
   |some B=>
    obtain⟨p,L6⟩:=hJ.add fV hg (hok k _ _ hg).zero cfg bnd bsl so dB
    go_wp2_with (first
     |(go_at_call 40;refine WB.mono ?_;rintro e w2 ⟨rfl,t2⟩)
     |(go_at_call 41;refine(YG _).mono ?_;rintro e w3 ⟨rfl,t3⟩
       obtain⟨W4,PS⟩:∃W4,w3.alloc (.cells #[JK y0,JK y1,JK y2,JK y3,JK y4] 104)=W4:=⟨_,rfl⟩;have t4:Tch wr.heap.size M0 wr W4:=by rw[<- PS];have a:=t1.then (t2.then t3 t2.size λ_ _ h=>h) t1.size λ_ _ h=>h;exact a.alloc a.size _
       have e4:W4.heap[w3.heap.size]?=some (.cells #[JK y0,JK y1,JK y2,JK y3,JK y4] 104):=by rw[<- PS];exact Ja _
       obtain⟨jE,Xq⟩:=L6 W4 t4;rw[Zm]at jE;simp only[ai,D5,List.map_nil]at jE;have k0:=(cell_of e4 0).trans rfl;have k1:=(cell_of e4 1).trans rfl;have k2:=(cell_of e4 2).trans rfl;have k3:=(cell_of e4 3).trans rfl;have k4:=(cell_of e4 4).trans rfl))
    have Zp:Tch w.heap.size (λb=>b=vb\/b∈tpl T) w W4:=ht.then t4 ht.size λ_ _ h=>h.elim;have hx4:=yI W4 Zp;have Lm:W4.heap[wr.heap.size]?=some (.cells #[JM kb 3 kc,JK fd.it,JK fd.v] 50):=by
     have:W4.heap[wr.heap.size]?=w3.heap[wr.heap.size]?:=by rw[<- PS];exact J8 _ (by have:=Jj e1;have:=t2.size;have:=t3.size;omega)
     rw[this,t3.heap _ (by have:=Jj e1;have:=t2.size;omega) λh=>h,t2.heap _ (Jj e1) λh=>h,e1]
    have Jvo:wr.heap.size<=w3.heap.size:=by have:=t1.size;have:=t2.size;have:=t3.size;omega
    have uH:=Jj e4;generalize w3.heap.size=b4 at *;clear jE Xq k0 k1 k2 k3 k4 YG WB d0;obtain⟨CJ,Bj⟩:=L6 W4.drew (t4.drew);have Bj:=Bj (hs fd.it) fd.v (hhs _);rw[Zm]at CJ;simp only[ai,D5,List.map_nil]at CJ;have hS:W4.drew.cell? ⟨b4,0,none⟩=some (JK y0)/\W4.drew.cell? ⟨b4,1,none⟩=some (JK y1)/\W4.drew.cell? ⟨b4,2,none⟩=some (JK y2)/\W4.drew.cell? ⟨b4,3,none⟩=some (JK y3)/\W4.drew.cell? ⟨b4,4,none⟩=some (JK y4)/\(Instr.lookup 95 (.map (some vb)) (.agg #[JK y0,JK y1,JK y2,JK y3,JK y4]) false).run prog W4.drew=.ok (JL p) W4.drew/\W4.drew.cell? ⟨hb,k,none⟩=some (.int .u64 (hs fd.it))/\W4.drew.cell? ⟨wr.heap.size,2,none⟩=some (JK fd.v):=⟨(cell_of (w:=W4.drew) e4 0).trans rfl,(cell_of (w:=W4.drew) e4 1).trans rfl,(cell_of (w:=W4.drew) e4 2).trans rfl,(cell_of (w:=W4.drew) e4 3).trans rfl,(cell_of (w:=W4.drew) e4 4).trans rfl,CJ,hhc W4.drew Zp.drew,(cell_of (w:=W4.drew) Lm 2).trans rfl⟩;clear L6;obtain⟨s0,s1,s2,s3,s4,s5,s6,s7⟩:=hS
    go_still_tail 9,(by kernel_rfl)
    change wpList _ _ _ _ _ W4.drew;generalize W4.drew=Wd at *
    go_wp2_with (go_at_call 43;refine Bj.mono ?_;rintro e w9 ⟨⟨v9,rfl⟩,hJ9⟩)
    exact Ef _ _ _ (λkey=>Jua hg key) (by omega) hJ9
  .have EC:¬((k:Int)<n):=by omega
   obtain rfl:k=n:=by omega
   rw[<- hn,List.take_length,hn]at hJ;clear hok;go_wp2
end
def Jr4{w:JE}{x:Nat}{ga:JI}{fs:List Jd}{cap n:Nat}{pl:List Nat}{t:JC}(hn:fs.length=n)(hx:w.cell? ⟨x,0,none⟩=some (JK 3))(hf:G8 false w ga fs cap pl)(hok:∀g∈fs,RH g)(Ij:n<=1000)(dS:I4 x ga n cap t) :
  sU.wp prog (λe a w'=>e=.normal/\a.defers=[]/\I4 x ga n cap a.tmps/\Tch w.heap.size M0 w w') ⟨t,[]⟩ w:=by
 subst hn;refine Code.wp_mono ?_ (Ji9 (k0:=fs.length) hx hf (Ad _) (λi g _ hg=>hok g (NR hg)) (λg hg=>by simp at hg) Ij dS);rintro e a w' ⟨h1,h2,h3,⟨_,h4,h5,h6,h7⟩|⟨h4,_⟩⟩
 .exact⟨h4,h1,⟨h2,h5,h6,h7⟩,h3⟩
 .omega
def J8y{v:JJ}{l:Lit}(h:keyOf prog 3 v=some l):∃x:Int,v=.int .i64 x/\l=.int .i64 x:=by
 unfold keyOf at h;simp only[underlying3]at h;cases v with
 |int k n=>
  by_cases hk:k=.i64
  .subst hk;refine⟨n,rfl,?_⟩;simp[mapKey]at h
   grind
  .simp[mapKey]at h
   grind
 |_=>simp[mapKey]at h
def Jl5{w w1:JE}{b r n cnt:Nat}{D:DataW JJ}{left:Lit->Bool}(h:w.ranges prog 3 Rv b r n D left cnt)(h1:w1.heap[b]?=w.heap[b]?)(h2:w1.heap[r]?=w.heap[r]?):w1.ranges prog 3 Rv b r n D left cnt:=by obtain⟨es,clock,since,seen,c0,hb,F,hs,hD,hr,rest⟩:=h;exact⟨es,clock,since,seen,c0,h1.trans hb,F,hs,hD,h2.trans hr,rest⟩
def r24:Code:=fC Qw
def r25:Code:=fC (lC (bC (sC Qw)))
def Jvp:Code:=fC (sC (lC (bC (sC Qw))))
def r26:Code:=fC (bC (sC (sC (lC (bC (sC Qw))))))
def Jub:Qw=.seq r24 (.block 4 (.loop (.seq r25 (.seq Jvp (.block 5 (.seq r26 oV)))))):=by kernel_rfl
def VA(vs:Nat->Option Nat)(S:Nat->List TR)(v y:Nat):Prop:=∃b,vs v=some b/\(y=b\/y∈tpl (S v))
def VB(vs:Nat->Option Nat)(S:Nat->List TR)(y:Nat):Prop:=∃v,VA vs S v y
def Jep(vs:Nat->Option Nat)(S:Nat->List TR):Prop:=∀v u y,VA vs S v y->VA vs S u y->v=u
section
variable{w:JE}{x:Nat}{ga:JI}{fs:List Jd}{cap n:Nat}{pl:List Nat}{t:JC}{c:J7}{S:Nat->List TR}{hb vm:Nat}{vs:Nat->Option Nat}{hs:Int->Int}{bs:JD}{seed:Int}
structure LV(w:JE)(c:J7)(vs:Nat->Option Nat)(S:Nat->List TR)(hs:Int->Int)(bs:JD)(fs:List Jd)(todo:Nat->Bool)(w':JE)(S':Nat->List TR):Prop where
 tab:∀v b,vs v=some b->Le w' c b (S' v)
 old:∀v,todo v=true->S' v=S v
 new:∀v b,vs v=some b->todo v=false->∀k,tm (S' v) k=MS c bs hs v (tm (S v)) fs k
 dis:Jep vs S'
 loc:∀y,VB vs S' y->VB vs S y\/w.heap.size<=y
 tch:Tch w.heap.size (VB vs S) w w'
structure InV(w:JE)(x:Nat)(ga:JI)(fs:List Jd)(cap:Nat)(pl:List Nat)(c:J7)(seed:Int)(vs:Nat->Option Nat)(S:Nat->List TR)(hb:Nat)(hs:Int->Int)(bs:JD):Prop where
 tab:∀v b,vs v=some b->TabAt false w c b (S v)
 dis:Jep vs S
 fsa:G8 false w ga fs cap pl
 okf:∀g∈fs,RH g
 hr:Row false w hb 110 .u64 (fs.map λf=>hs f.it) fs.length
 x0:w.cell? ⟨x,0,none⟩=some (JK 3)
 x1:w.cell? ⟨x,1,none⟩=some (JK c.bits)
 x2:w.cell? ⟨x,2,none⟩=some (JK c.K)
 x3:w.cell? ⟨x,3,none⟩=some (.slice c.ba c.nb c.cb)
 x4:w.cell? ⟨x,4,none⟩=some (JK seed)
 bnd:Px false w c.ba bs
 bsl:bs.length=c.nb
 so:bs.Pairwise (· < ·)
 cfg:CZ c
 hs:∀y,0<=hs y/\hs y<=18446744073709551615
 dF:∀y∈pl,¬VB vs S y
 dX:¬VB vs S x
 dH:¬VB vs S hb
 dB:∀a,c.ba=some a->¬VB vs S a.block/\a.block<w.heap.size
 nf:fs.length<=3000
 nT:∀v b,vs v=some b->(S v).length<=3000
def VB.lt(h:∀v b,vs v=some b->Le w c b (S v)){y:Nat}(hy:VB vs S y):y<w.heap.size:=by obtain⟨v,b,e,hy⟩:=hy;exact(h v b e).lt y hy
def InV.one(hI:InV w x ga fs cap pl c seed vs S hb hs bs){todo:Nat->Bool}{w':JE}{S':Nat->List TR}(L:LV w c vs S hs bs fs todo w' S'){v b:Nat}(hv:vs v=some b)(ht:todo v=true):InF w' x ga fs cap pl c seed (S v) b hb hs bs:=by
 obtain⟨tab,dis,fsa,okf,hr,x0,x1,x2,x3,x4,bnd,bsl,so,cfg,hhs,dF,dX,dH,dB,nf,nT⟩:=hI;have t:=L.tch;have Rj:=cell_lt x0;have e:∀i,w'.cell? ⟨x,i,none⟩=w.cell? ⟨x,i,none⟩:=λi=>t.cell Rj dX;have no:∀{y},¬VB vs S y->y≠b/\y∉tpl (S v):=λh=>⟨λe=>h ⟨v,b,hv,.inl e⟩,λe=>h ⟨v,b,hv,.inr e⟩⟩;have hT:=L.tab v b hv;rw[L.old v ht]at hT;exact⟨hT.tab λk B hB=>by
  obtain⟨t,_,_,h1,rfl,rfl,_,_⟩:=Qk hB;exact(tab v b hv).ok t (by rw[h1];simp),fsa.kept λy hy=>t.heap y (fsa.lt y hy) (dF y hy),okf,hr.tch t hr.lt dH,(e 0).trans x0,(e 1).trans x1,(e 2).trans x2,(e 3).trans x3,(e 4).trans x4,
  bnd.kept λbb BO hl=>t.heap bb hl (dB _ BO).1,bsl,so,cfg,hhs,λy hy=>no (dF y hy),no dX,no dH,λa ha=>⟨(no (dB a ha).1).1,(no (dB a ha).1).2,DX (dB a ha).2 t.size⟩,nf,nT v b hv⟩
def LV.step{todo:Nat->Bool}{w2 w3:JE}{S':Nat->List TR}(L:LV w c vs S hs bs fs todo w2 S'){v b N:Nat}(hv:vs v=some b)(ht:todo v=true)(J:LJ w2 c b (S v) (MS c bs hs v (tm (S v)) fs) N w3) :
  ∃S'',LV w c vs S hs bs fs (λu=>todo u && u != v) w3 S''/\∀y,VB vs S'' y->VB vs S' y\/w2.heap.size<=y:=by
 obtain⟨T',k1,k2,k3,k4,k5⟩:=J;have hov:=L.old v ht;have hvw:∀y,y=b\/y∈tpl (S v)->VB vs S y:=λy hy=>⟨v,b,hv,hy⟩;have s1:=L.tch.size;have key:∀{u y},VA vs (λu=>if u=v then T' else S' u) u y->VA vs S' u y\/(u=v/\w2.heap.size<=y):=λ{u y} h=>by
  obtain⟨bu,hu,hy⟩:=h;by_cases e:u=v
  .subst e;rw[hv]at hu;cases hu;simp only[if_true]at hy;exact(k4 y hy).imp (λh=>⟨b,hv,by grind⟩) λh=>⟨rfl,h⟩
  .simp only[if_neg e]at hy;exact .inl ⟨bu,hu,hy⟩
 have lt:∀{u y},VA vs S' u y->y<w2.heap.size:=λ⟨bu,hu,hy⟩=>(L.tab _ bu hu).lt _ hy;have loc:∀y,VB vs (λu=>if u=v then T' else S' u) y->VB vs S' y\/w2.heap.size<=y:=λy ⟨u,h⟩=>(key h).imp (λh=>⟨u,h⟩) λh=>h.2;refine⟨λu=>if u=v then T' else S' u,⟨λu bu hu=>?_,λu hu=>?_,λu bu hu ht=>?_,λu u' y h1 h2=>?_,λy hy=>?_,L.tch.then k5 s1 λy _ h=>hvw y h⟩,loc⟩
 .by_cases e:u=v
  .grind
  .simp only[if_neg e];have h1:=L.tab u bu hu;exact h1.kept λy hy=>k5.heap y (h1.lt y hy) λDC=>e (L.dis u v y ⟨bu,hu,hy⟩ ⟨b,hv,by grind⟩)
 .simp only[Bh,bne_iff_ne,ne_eq]at hu;simp only[if_neg hu.2];exact L.old u hu.1
 .by_cases e:u=v
  .grind
  .simp only[if_neg e];exact L.new u bu hu (by grind)
 .rcases key h1 with h1|⟨e1,h1⟩<;>rcases key h2 with h2|⟨e2,h2⟩
  .exact L.dis _ _ _ h1 h2
  all_goals grind
 grind[loc]
def LV.skip{todo:Nat->Bool}{w1 w2:JE}{S':Nat->List TR}{r:Nat}(L:LV w c vs S hs bs fs todo w1 S')(t:Tch w1.heap.size (λb=>b=r) w1 w2)(hr:w.heap.size<=r)(hv:¬VB vs S' r):LV w c vs S hs bs fs todo w2 S':=
 ⟨λv b hb=>(L.tab v b hb).kept λy hy=>t.heap y ((L.tab v b hb).lt y hy) λe=>hv (e▸⟨v,b,hb,hy⟩),L.old,L.new,L.dis,L.loc,L.tch.then t L.tch.size λy hy h=>by omega⟩
def qW:Code:=.seq r25 (.seq Jvp (.block 5 (.seq r26 oV)))
def J065(hI:InV w x ga fs cap pl c seed vs S hb hs bs)(hn:fs.length=n){r nn:Nat}(yH:vm<w.heap.size/\¬VB vs S vm)(hr:w.heap.size<=r){D:DataW JJ}(hD:VwD D vs){Q:Exit->Act->JE->Prop}
  (hQ:∀t w' S',t.size=157->t[4]?=some .nilIface->LV w c vs S hs bs fs (λ_=>false) w' S'->Q (.exit 4) ⟨t,[]⟩ w') :
  ∀(N cnt:Nat)(left:Lit->Bool)(w1:JE)(S':Nat->List TR)(t:JC),cnt<N->(∀k,left k=true->has D k=true)->w1.ranges prog 3 Rv vm r nn D left cnt->LV w c vs S hs bs fs (λv=>left (.int .i64 v)) w1 S'->¬VB vs S' r->I4 x ga n cap t->t[7]?=some (JM hb n n)->t[117]?=some (JL r) ->
   Code.rounds prog qW Q N ⟨t,[]⟩ w1:=by
 intro N
 induction N with
 |zero=>grind
 |succ N ih=>
  intro cnt left w1 S' t hc hl hrg L XC dS s7 Jf3;rw[rounds_succ];obtain⟨Ag,s0,s1,s4⟩:=dS;obtain⟨f,rfl⟩:=Qo Ag;rw[Gv]at *;have e0:f 0=_:=Aa s0;have e1:f 1=_:=Aa s1;have e4:f 4=_:=Aa s4;have e7:f 7=_:=Aa s7;have WO:f 117=_:=Aa Jf3;rw[e0,e1,e4,e7,WO];clear Ag s0 e0 s1 e1 s4 e4 s7 e7 Jf3 WO;rcases Nat.eq_zero_or_pos cnt with h0|h0
  .simp only[qW,r25,Jvp,r26,Qw,b13,fC,sC,bC,lC,f22,A8]
   go_wp2_with (at_next;refine wpList_next_ranges _ rfl _ rfl 3 aZ Rv (Value.int .i64) id (λkey kl hk=>(J8y hk).imp λ_ h=>h.1) (λv _ _=>⟨v,rfl⟩) vm r nn _ _ _ rfl hrg ?_ (λ_ _ _ _ _ _ _ _ _ _ _ h=>absurd h (by omega));intro _ Au)
   exact hQ _ _ S' rfl rfl ⟨L.tab,λv h=>(by cases h),λv b hv _=>L.new v b hv (Au _),L.dis,L.loc,L.tch⟩
  .simp only[qW,r25,Jvp,r26,Qw,b13,fC,sC,bC,lC,f22,A8]
   go_wp2_with (at_next;refine wpList_next_ranges _ rfl _ rfl 3 aZ Rv (Value.int .i64) id (λkey kl hk=>(J8y hk).imp λ_ h=>h.1) (λv _ _=>⟨v,rfl⟩) vm r nn _ _ _ rfl hrg (λh=>by omega) ?_;intro x1 c1 kl y1 w2 cnt2 LD Ew hR OC Uw hlt2 Bl Bo hen)
   obtain⟨x2,e2,rfl⟩:=J8y LD;cases e2;obtain⟨v,hv8,ev⟩:=hD.hs _ (hl _ Ew);obtain rfl:x1=v:=by injection ev
   obtain⟨b,aT⟩:=Option.isSome_iff_exists.1 ((hD.hf v).symm.trans (hl _ Ew));have DF:c1=.map (some b):=by
    have h1:=OC (.held (.map none));rw[hD.rd,aT]at h1;simp[Rv]at hR
    grind
   subst DF;have t2:Tch w1.heap.size (λb=>b=r) w1 w2:=⟨by omega,λb hb h=>Bl.block b (by omega) λe=>h (Aa e),Bl.tape,Bl.os,Bl.output⟩;have L2:=L.skip t2 hr XC;have AQ:=L.tch.size;refine Code.wp_mono ?_ (Jns (mk:=v) (hI.one L2 aT Ew) hn ⟨rfl,rfl,rfl,rfl⟩ rfl rfl rfl);rintro e a w9 ⟨rfl,Ob,a04,a7,a117,hJ⟩;obtain⟨S'',L9,hloc⟩:=L2.step aT Ew hJ;have XI:=Uw.lt;have YS:=hJ.tch;have nv:∀y,y=b\/y∈tpl (S v)->VB vs S' y:=λy hy=>⟨v,b,aT,by rw[L.old v Ew];exact hy⟩;have Js4:=Jl5 Uw (YS.heap vm (by omega) λh=>yH.2 ⟨v,b,aT,h⟩) (YS.heap r XI λh=>XC (nv r h));obtain⟨tm,df⟩:=a;simp only at Ob a04 a7 a117;subst Ob;simp only[Exit.inBlock,Exit.then];refine ih cnt2 _ w9 S'' tm (by omega) (λk hk=>hl k (by grind)) Js4 ?_ (λh=>(hloc r h).elim XC λh=>by omega) a04 a7 a117;have e:(λu:Nat=>left (.int .i64 u) && u != v)=λu:Nat=>left (.int .i64 u) && !Lit.sameKey (.int .i64 u) (.int .i64 v):=by
    funext u;by_cases e:u=v
    .subst e;simp[Lit.sameKey]
    .have:Lit.sameKey (.int .i64 u) (.int .i64 v)=false:=sameKey_ne λh=>e (bM h);simp[this,e]
   grind
def Jrb(hI:InV w x ga fs cap pl c seed vs S hb hs bs)(hn:fs.length=n)(h7:w.cell? ⟨x,7,none⟩=some (.map (some vm)))(hV:HY w vm vs)(yH:¬VB vs S vm)(dS:I4 x ga n cap t)(s7:t[7]?=some (JM hb n n)) :
  Qw.wp prog (λe a w'=>e=.normal/\a.defers=[]/\a.tmps.size=157/\a.tmps[4]?=some .nilIface/\∃S',LV w c vs S hs bs fs (λ_=>false) w' S') ⟨t,[]⟩ w:=by
 obtain⟨Ag,s0,s1,s4⟩:=dS;obtain⟨f,rfl⟩:=Qo Ag;rw[Gv]at *;have e0:f 0=_:=Aa s0;have e1:f 1=_:=Aa s1;have e4:f 4=_:=Aa s4;have e7:f 7=_:=Aa s7;rw[e0,e1,e4,e7];clear Ag s0 e0 s1 e1 s4 e4 s7 e7;obtain⟨D,Aw,hD⟩:=hV;rw[show Qw=.seq r24 (.block 4 (.loop qW))from Jub];simp only[r24,Qw,b13,fC,sC,f22,A8]
 go_wp2_with (at_range;refine wpList_range_own _ rfl _ 99 rfl 3 95 aZ underlying99 _ vm _ _ rfl Aw ?_;intro w0 hrg0 Uk V7)
 have t0:Tch w.heap.size M0 w w0:=⟨Uk.size,λb hb _=>Uk.block b hb (by simp),Uk.tape,Uk.os,Uk.output⟩;have hvl:=Aw.lt;have Ac:∀y,VB vs S y->y<w.heap.size:=λy hy=>VB.lt (λv b hv=>(hI.tab v b hv).toW) hy;refine wp_loop_rounds (size D+1) (J065 hI hn ⟨by omega,yH⟩ (Ad _) hD (λt' w' S' h1 h2 L=>?_) (size D+1) (size D) (has D) w0 S _ (by omega) (λ_ h=>h) hrg0 ⟨λv b hv=>((hI.tab v b hv).toW).kept λy hy=>t0.heap y ((hI.tab v b hv).lt y hy) λh=>h,λ_ _=>rfl,λv b hv h=>?_,hI.dis,λy hy=>.inl hy,t0.mono (Ad _) λ_ _ h=>h.elim⟩ (λe=>by grind) ⟨rfl,rfl,rfl,rfl⟩ rfl rfl)
 .exact⟨rfl,rfl,h1,h2,S',L⟩
 .rw[hD.hf,hv]at h;cases h
end
section
variable{w:JE}{x:Nat}{ga:JI}{fs:List Jd}{cap n:Nat}{pl:List Nat}{t:JC}
def Jud:(fC b13).wp prog (λe a w'=>e=.normal/\a.defers=[]/\I4 x ga n cap a.tmps/\w'=w) ⟨#[JL x,.slice ga n cap]++Array.replicate 155 JA,[]⟩ w:=by simp only[I4,Array.replicate,List.replicate];simp only[List.append_toArray,G9,Gm,b13,fC,sC,f22,A8];go_wp2
def Jrc{R:Ending->JE->Prop}(hR:R (.returned .nilIface) w)(Ag:t.size=157):tK.wp prog (bodyPost prog f22 R) ⟨t,[]⟩ w:=by obtain⟨f,rfl⟩:=Qo Ag;rw[Gv]at *;simp only[tK,b13,fC,sC,f22,A8];go_wp2;exact hR
end
section
variable{w:JE}{x:Nat}{ga:JI}{fs:List Jd}{cap:Nat}{pl:List Nat}{c:J7}{S:Nat->List TR}{vm:Nat}{vs:Nat->Option Nat}{hs:Int->Int}{bs:JD}{seed nf:Int}{h:JJ}{U:List (JD)}
structure Jx1(w:JE)(x:Nat)(c:J7)(seed:Int)(h:JJ)(nf:Int)(vm:Nat)(vs:Nat->Option Nat)(S:Nat->List TR)(ga:JI)(fs:List Jd)(cap:Nat)(pl:List Nat)(hs:Int->Int)(bs:JD)(U:List (JD)):Prop where
 q:DU w x c seed h nf vm vs
 f7:(vs 7).isSome=true
 tab:∀v b,vs v=some b->TabAt false w c b (S v)
 dis:Jep vs S
 fsa:G8 false w ga fs cap pl
 okf:∀g∈fs,RH g
 bnd:Px false w c.ba bs
 bsl:bs.length=c.nb
 so:bs.Pairwise (· < ·)
 cfg:CZ c
 hsr:∀y,0<=hs y/\hs y<=18446744073709551615
 one:∀w1,Tch w.heap.size M0 w w1->∀item at_,Calls prog 39 #[JL x,JK item,JK at_] w1 λe w2=>e=.returned (.tuple #[.int .u64 (hs item),.nilIface])/\Tch w1.heap.size M0 w1 w2
 dF:∀y∈pl,¬VB vs S y/\y≠x
 dX:¬VB vs S x
 dV:¬VB vs S vm/\vm≠x
 dB:∀a,c.ba=some a->¬VB vs S a.block/\a.block<w.heap.size/\a.block≠x
 nT:∀v b,vs v=some b->(S v).length<=3000
 n1:fs.length<=1000
 nf0:0<=nf
 nf1:nf+fs.length<=3000
 hU:∀g∈fs,BI g.k∈U
 hTU:∀t∈S 7,t.k∈U
 hUn:U.length<=128
structure eF(w:JE)(x:Nat)(c:J7)(seed:Int)(h:JJ)(nf:Int)(vm:Nat)(vs:Nat->Option Nat)(S:Nat->List TR)(hs:Int->Int)(bs:JD)(fs:List Jd)(w':JE):Prop where
 q:DU w' x c seed h (nf+fs.length) vm vs
 tab:∃S',(∀v b,vs v=some b->TabAt false w' c b (S' v)/\∀key,tm (S' v) key=MS c bs hs v (tm (S v)) fs key)/\Jep vs S'/\∀y,VB vs S' y->VB vs S y\/w.heap.size<=y
 tch:Tch w.heap.size (λb=>b=x\/VB vs S b) w w'
def Jrd(hI:Jx1 w x c seed h nf vm vs S ga fs cap pl hs bs U) :
  Calls prog 22 #[JL x,.slice ga fs.length cap] w λe w'=>e=.returned .nilIface/\eF w x c seed h nf vm vs S hs bs fs w':=by
 obtain⟨q,f7,tab,dis,fsa,okf,bnd,bsl,so,cfg,hsr,one,dF,dX,dV,dB,nT,n1,nf0,nf1,hU,hTU,hUn⟩:=hI;obtain⟨base,f7⟩:=Option.isSome_iff_exists.1 f7;have Rj:=q.blk.lt;have hvl:=q.vs.lt;have Jsd:=tab 7 base f7;have YZ:=Jsd.map.lt;have Juf:∀{w1:JE},Tch w.heap.size (λb=>b=x) w w1->∀v b,vs v=some b->TabAt false w1 c b (S v):=λt v b hv=>(tab v b hv).kept λy hy=>t.heap y ((tab v b hv).lt y hy) λe=>by rw[e]at hy;exact dX ⟨v,b,hv,hy⟩
 have fsk:∀{w1:JE},Tch w.heap.size (λb=>b=x) w w1->G8 false w1 ga fs cap pl:=λt=>fsa.kept λy hy=>t.heap y (fsa.lt y hy) λe=>(dF y hy).2 e;have up:∀{w1:JE},Tch w.heap.size M0 w w1->Tch w.heap.size (λb=>b=x) w w1:=λt=>t.mono (Ad _) λ_ _ h=>h.elim;have ck:∀{w1:JE},Tch w.heap.size M0 w w1->DU w1 x c seed h nf vm vs:=λt=>q.kept (t.heap x Rj λh=>h) (t.heap vm hvl λh=>h);obtain⟨n,hn⟩:∃n,fs.length=n:=⟨_,rfl⟩;rw[hn]at n1 nf1 ⊢;refine calls_of_wp func22 (show f22.body=some b13 by kernel_rfl) ?_;simp only[ntmps22,List.size_toArray,Lh,List.length_nil,Nat.reduceAdd,Nat.reduceSub];rw[J012];refine wp_seq (Code.wp_mono ?_ Jud);rintro e ⟨t0,d0⟩ w0 ⟨rfl,iF,i0,rfl⟩;simp only at iF i0;subst iF;refine wp_seq (Code.wp_mono ?_ (Jr4 hn q.cells.1 fsa okf n1 i0));rintro e ⟨t1,d1⟩ w1 ⟨rfl,Za,i1,Az⟩;simp only at Za i1;subst Za;refine wp_seq (Code.wp_mono ?_ (Jr5 n1 i1));rintro e ⟨t2,d2⟩ w2 ⟨rfl,MH,i2,a7,ML⟩;simp only at MH i2 a7;subst MH;have Bc:Tch w0.heap.size M0 w0 w2:=by rw[ML];exact Az.alloc Az.size _
 have BM:Row false w2 w1.heap.size 110 .u64 (List.replicate n 0) n:=by grind[nR]
 refine wp_seq (Code.wp_mono ?_ (Jr6 (ck Bc) f7 i2 a7));rintro e ⟨t3,d3⟩ w3 ⟨rfl,hd3,i3,a7,a8,Dx,Qe⟩;simp only at hd3 i3 a7 a8;subst hd3;refine wp_seq (Code.wp_mono ?_ (Jr7 i3 a7 a8));rintro e ⟨t4,d4⟩ w4 ⟨rfl,hd4,i4,a7,a8,a9,Qg⟩;simp only at hd4 i4 a7 a8 a9;subst hd4;have CO:w3.heap.size=w1.heap.size+1:=by simp_all
 have Jvq:Tch w0.heap.size M0 w0 w3:=Bc.then Dx Bc.size λ_ _ h=>h;have QY:Tch w0.heap.size M0 w0 w4:=by rw[Qg];exact Jvq.alloc Jvq.size _
 have jZ:Row false w4 w1.heap.size 110 .u64 (I9 hs fs 0) n:=by
  have:I9 hs fs 0=List.replicate n 0:=by simp[I9,hn]
  rw[this];refine BM.kept ?_
  grind[J8]
 have SE:Kr w4 w3.heap.size (S 7) U []:=⟨by grind[Cm.made],λp hp=>by cases hp⟩;have hN1:=Az.size;refine wp_seq (Code.wp_mono ?_ (Jr8 (N0:=w0.heap.size) (w:=w4) hn n1 QY.size (λw' t=>one w' (QY.trans t)) fsa.lt (λw' t=>fsk (up (QY.trans t))) okf (λw' t=>Juf (up (QY.trans t)) 7 base f7) hU (by omega) hN1 (by omega) (by omega) jZ SE hTU i4 a7 a8 a9));rintro e ⟨t5,d5⟩ w5 ⟨rfl,hd5,i5,a7,a8,a9,SY,⟨L,Ud⟩,EW⟩;simp only at hd5 i5 a7 a8 a9;subst hd5;have Jug:=QY.trans EW;have q5:=ck Jug;have IJ:=Juf (up Jug) 7 base f7;refine wp_seq (Code.wp_mono ?_ (Jr9 q5.cells.2.2.2.2.2.2.1 nf0 nf1 IJ Ud hTU hUn i5 a7 a8 a9));rintro e ⟨t6,d6⟩ w6 ⟨rfl,hd6,i6,a7,rfl⟩;simp only at hd6 i6 a7;subst hd6;refine wp_seq (Code.wp_mono ?_ (Jra q5.cells.2.2.2.2.2.2.1 (q5.blk.frozen 6) nf0 nf1 i6 a7));rintro e ⟨t7,d7⟩ w7 ⟨rfl,hd7,i7,a7,hw7⟩;simp only at hd7 i7 a7;subst hd7;have XR:Tch w0.heap.size (λb=>b=x) w0 w7:=by rw[hw7];exact(up Jug).set (.inr rfl) _
 have q7:Blk false w7 x #[JK 3,JK c.bits,JK c.K,.slice c.ba c.nb c.cb,JK seed,h,JK (nf+n),.map (some vm)] 101:=by rw[hw7];exact q5.blk.set 6 _
 have v7:HY w7 vm vs:=q5.vs.kept (by grind[Jm]);have c7:=(DU.mk q7 v7).cells;have hs7:=XR.size;have Xw:∀y,VB vs S y->y<w0.heap.size:=λy ⟨v,b,hv,hy⟩=>(tab v b hv).lt y hy;have hr7:Row false w7 w1.heap.size 110 .u64 (fs.map λf=>hs f.it) fs.length:=by
  have e:I9 hs fs n=fs.map λf=>hs f.it:=by unfold I9;rw[<- hn,List.take_length,Nat.sub_self,List.replicate_zero,List.append_nil]
  rw[<- e,hn];exact SY.kept (by grind[Jm])
 have Ju0:InV w7 x ga fs cap pl c seed vs S w1.heap.size hs bs:=
  ⟨Juf XR,dis,fsk XR,okf,hr7,c7.1,c7.2.1,c7.2.2.1,c7.2.2.2.1,c7.2.2.2.2.1,bnd.kept λbb e hl=>XR.heap bb hl (dB _ e).2.2,bsl,so,cfg,hsr,λy hy=>(dF y hy).1,dX,
   λe=>by grind,λa e=>⟨(dB a e).1,DX (dB a e).2.1 hs7⟩,by omega,nT⟩
 refine wp_seq (Code.wp_mono ?_ (Jrb Ju0 hn c7.2.2.2.2.2.2.2 v7 dV.1 i7 a7));rintro e ⟨t8,d8⟩ w8 ⟨rfl,hd8,s8,a4,S',J⟩;simp only at hd8 s8 a4;subst hd8;refine Jrc ⟨rfl,?_⟩ s8;have YS:=J.tch;refine⟨⟨?_,v7.kept (YS.heap vm (by omega) dV.1)⟩,⟨S',λv b hv=>⟨(J.tab v b hv).tab λkey B hB=>?_,J.new v b hv rfl⟩,J.dis,λy hy=>(J.loc y hy).imp id λh=>by omega⟩,?_⟩
 .rw[hn];exact q7.kept (YS.heap x (by omega) dX)
 .rw[J.new v b hv rfl]at hB;refine Jd8 cfg bsl hsr (λkey B h=>?_) key B hB;obtain⟨t,_,_,e,rfl,rfl,_,_⟩:=Qk h;exact(tab v b hv).ok t (by rw[e];simp)
 .exact(XR.mono (Ad _) λb _ h=>.inl h).then YS hs7 λb _ h=>.inr h
end
end Go.Sim.Z
end
