/- PROVED HERE: laws. Conditions: none. -/
import Derived.Test.YtlcbehhbfglgaaaGreatF04
import Derived.Test.YtlcbehhbfglgaaaGreatF21
set_option linter.all false
set_option maxHeartbeats 8000000
set_option maxRecDepth 100000
namespace Go.Sim.Z
open Go Go.Proofs Go.RowKit
theorem Jj6 {T:Array Value} {n:Nat} (h:T.size=n):T=((List.range n).map fun i=>T.getD i undef).toArray:=by
 apply Jd6;intro i;rcases Jb5 i n with hi|hi
 ·simp [hi,Ja5,show i<T.size by omega]
 ·rw [Jb0 (by omega),Jb0 (by simp;omega)]
theorem Jxs (f:Nat->Value):((List.range 157).map f).toArray=#[f 0,f 1,f 2,f 3,f 4,f 5,f 6,f 7,f 8,f 9,f 10,f 11,f 12,f 13,f 14,f 15,f 16,f 17,f 18,f 19,f 20,f 21,f 22,f 23,f 24,f 25,f 26,f 27,f 28,f 29,f 30,f 31,f 32,f 33,f 34,f 35,f 36,f 37,f 38,f 39,f 40,f 41,f 42,f 43,f 44,f 45,f 46,f 47,f 48,f 49,f 50,f 51,f 52,f 53,f 54,f 55,f 56,f 57,f 58,f 59,f 60,f 61,f 62,f 63,f 64,f 65,f 66,f 67,f 68,f 69,f 70,f 71,f 72,f 73,f 74,f 75,f 76,f 77,f 78,f 79,f 80,f 81,f 82,f 83,f 84,f 85,f 86,f 87,f 88,f 89,f 90,f 91,f 92,f 93,f 94,f 95,f 96,f 97,f 98,f 99,f 100,f 101,f 102,f 103,f 104,f 105,f 106,f 107,f 108,f 109,f 110,f 111,f 112,f 113,f 114,f 115,f 116,f 117,f 118,f 119,f 120,f 121,f 122,f 123,f 124,f 125,f 126,f 127,f 128,f 129,f 130,f 131,f 132,f 133,f 134,f 135,f 136,f 137,f 138,f 139,f 140,f 141,f 142,f 143,f 144,f 145,f 146,f 147,f 148,f 149,f 150,f 151,f 152,f 153,f 154,f 155,f 156]:=by rfl
theorem J3m {T:Array Value} (h:T.size=157):∃ f:Nat->Value,T=#[f 0,f 1,f 2,f 3,f 4,f 5,f 6,f 7,f 8,f 9,f 10,f 11,f 12,f 13,f 14,f 15,f 16,f 17,f 18,f 19,f 20,f 21,f 22,f 23,f 24,f 25,f 26,f 27,f 28,f 29,f 30,f 31,f 32,f 33,f 34,f 35,f 36,f 37,f 38,f 39,f 40,f 41,f 42,f 43,f 44,f 45,f 46,f 47,f 48,f 49,f 50,f 51,f 52,f 53,f 54,f 55,f 56,f 57,f 58,f 59,f 60,f 61,f 62,f 63,f 64,f 65,f 66,f 67,f 68,f 69,f 70,f 71,f 72,f 73,f 74,f 75,f 76,f 77,f 78,f 79,f 80,f 81,f 82,f 83,f 84,f 85,f 86,f 87,f 88,f 89,f 90,f 91,f 92,f 93,f 94,f 95,f 96,f 97,f 98,f 99,f 100,f 101,f 102,f 103,f 104,f 105,f 106,f 107,f 108,f 109,f 110,f 111,f 112,f 113,f 114,f 115,f 116,f 117,f 118,f 119,f 120,f 121,f 122,f 123,f 124,f 125,f 126,f 127,f 128,f 129,f 130,f 131,f 132,f 133,f 134,f 135,f 136,f 137,f 138,f 139,f 140,f 141,f 142,f 143,f 144,f 145,f 146,f 147,f 148,f 149,f 150,f 151,f 152,f 153,f 154,f 155,f 156]:=⟨fun i=>T.getD i undef,(Jj6 h).trans (Jxs _)⟩
structure Jg where
 k:List Int
 it:Int
 v:Int
structure FAt (fr:Bool) (w:World) (g i:Nat) (f:Jg) (kb kc:Nat):Prop where
 ck:w.cell? ⟨g,i*3,none⟩=some (.slice (some ⟨kb,0,none⟩) f.k.length kc)
 ci:w.cell? ⟨g,i*3+1,none⟩=some (.int .i64 f.it)
 cv:w.cell? ⟨g,i*3+2,none⟩=some (.int .i64 f.v)
 row:Row fr w kb 3 .i64 f.k kc
structure J3a (fr:Bool) (w:World) (ga:Option Addr) (fs:List Jg) (cap:Nat) (pl:List Nat):Prop where
 lt:∀ x∈pl,x<w.heap.size
 at_:∀ i f,fs[i]?=some f->∃ g kb kc,ga=some ⟨g,0,none⟩/\g∈pl/\kb∈pl/\FAt fr w g i f kb kc
 cap:fs.length<=cap
theorem J3a.kept {fr:Bool} {w w':World} {ga:Option Addr} {fs:List Jg} {cap:Nat} {pl:List Nat} (h:J3a fr w ga fs cap pl) (hh:∀ x∈pl,w'.heap[x]?=w.heap[x]?):J3a fr w' ga fs cap pl:=by
 refine ⟨fun x hx=>?_,fun i f hf=>?_,h.cap⟩
 ·have h1:=hh x hx;have h2:=h.lt x hx;rw [Ja4 h2] at h1;exact Ji h1
 ·obtain ⟨g,kb,kc,h1,h2,h3,h4⟩:=h.at_ i f hf;have e:∀ k,w'.cell? ⟨g,k,none⟩=w.cell? ⟨g,k,none⟩:=fun k=>Jb4 (hh g h2);exact ⟨g,kb,kc,h1,h2,h3,(e _).trans h4.ck,(e _).trans h4.ci,(e _).trans h4.cv,h4.row.kept (hh kb h3)⟩
structure J49 (f:Jg):Prop where
 n:f.k.length=3
 k:∀ x∈f.k,0<=x/\x<=99
 it:I64 f.it
 v:I64 f.v
noncomputable def b13:Code:=Tryz.f13.body.getD .skip
def fC:Code->Code | .seq a _=>a|c=>c
def sC:Code->Code | .seq _ b=>b|c=>c
noncomputable def Jh9:Code:=fC (sC b13)
noncomputable def Jha:Code:=fC (sC (sC b13))
noncomputable def Jhb:Code:=fC (sC (sC (sC b13)))
noncomputable def Jhc:Code:=fC (sC (sC (sC (sC b13))))
noncomputable def Jhd:Code:=fC (sC (sC (sC (sC (sC b13)))))
noncomputable def Jhe:Code:=fC (sC (sC (sC (sC (sC (sC b13))))))
noncomputable def Jhf:Code:=fC (sC (sC (sC (sC (sC (sC (sC b13)))))))
noncomputable def J59:Code:=fC (sC (sC (sC (sC (sC (sC (sC (sC b13))))))))
noncomputable def Jhg:Code:=sC (sC (sC (sC (sC (sC (sC (sC (sC b13))))))))
theorem Jxt:b13=.seq (fC b13) (.seq Jh9 (.seq Jha (.seq Jhb (.seq Jhc (.seq Jhd (.seq Jhe (.seq Jhf (.seq J59 Jhg)))))))):=by kernel_rfl
theorem Jpo (x:Int) (w:World):Calls Tryz.prog 21 #[.int .i64 x] w fun e w'=>e=.returned (.bool (decide (x<0\/99<x)))/\w'=w:=by
 go_enter Tryz.func21,Tryz.ntmps21
 by_cases h:x<0
 ·go_wp2;go_ret;simp [h]
 ·by_cases h2:99<x
  ·go_wp2;go_ret;simp [h2]
  ·go_wp2;go_ret;simp [h,h2]
theorem Jpp {fr:Bool} {w:World} {kb kc:Nat} {ks:List Int} (h:Row fr w kb 3 .i64 ks kc) (hk:∀ x∈ks,0<=x/\x<=99) (hn:ks.length<=1000) :
  Calls Tryz.prog 20 #[.slice (some ⟨kb,0,none⟩) ks.length kc,.func (.func 21) #[] #[]] w fun e w'=>e=.returned (.bool false)/\∃ q,w'=w.drewN q:=by
 refine (Tryz.slices_ContainsFunc (Value.int .i64) (fun x=>decide (x<0\/99<x)) 21 #[] (enters_of Tryz.func21 (by kernel_rfl) rfl) kb 0 ks.length kc ks w (fun W x _=>(Jpo x W).mono fun e w' ⟨h1,h2⟩=>⟨h1,0,h2⟩) (Ja2 _) (by omega) (fun j hj=>?_)).mono fun e w' ⟨h1,h2⟩=>⟨?_,h2⟩
 ·rw [Nat.zero_add,h.cell hj];simp [Ja7,List.getElem!_eq_getElem?_getD,hj]
 ·rw [h1,List.take_of_length_le (Ja2 _)];have:ks.any (fun x=>decide (x<0\/99<x))=false:=by rw [List.any_eq_false];intro x hx;have:=hk x hx;simp;omega
  rw [this]
section
variable {w:World} {x:Nat} {ga:Option Addr} {fs:List Jg} {cap:Nat} {pl:List Nat} {f:Nat->Value}
theorem Js4 (hx:w.cell? ⟨x,0,none⟩=some (.int .i64 3)) (hf:J3a false w ga fs cap pl) (hok:∀ g∈fs,J49 g) (hn:fs.length<=1000) :
  Jh9.wp Tryz.prog (fun e a w'=>e=.normal/\a.defers=[]/\a.tmps.size=157/\a.tmps[0]?=some (.pointer (some ⟨x,0,none⟩))/\a.tmps[1]?=some (.slice ga fs.length cap)/\a.tmps[4]?=some .nilIface/\Tch w.heap.size M0 w w') ⟨#[.pointer (some ⟨x,0,none⟩),.slice ga fs.length cap,f 2,f 3,.nilIface,f 5,f 6,f 7,f 8,f 9,f 10,f 11,f 12,f 13,f 14,f 15,f 16,f 17,f 18,f 19,f 20,f 21,f 22,f 23,f 24,f 25,f 26,f 27,f 28,f 29,f 30,f 31,f 32,f 33,f 34,f 35,f 36,f 37,f 38,f 39,f 40,f 41,f 42,f 43,f 44,f 45,f 46,f 47,f 48,f 49,f 50,f 51,f 52,f 53,f 54,f 55,f 56,f 57,f 58,f 59,f 60,f 61,f 62,f 63,f 64,f 65,f 66,f 67,f 68,f 69,f 70,f 71,f 72,f 73,f 74,f 75,f 76,f 77,f 78,f 79,f 80,f 81,f 82,f 83,f 84,f 85,f 86,f 87,f 88,f 89,f 90,f 91,f 92,f 93,f 94,f 95,f 96,f 97,f 98,f 99,f 100,f 101,f 102,f 103,f 104,f 105,f 106,f 107,f 108,f 109,f 110,f 111,f 112,f 113,f 114,f 115,f 116,f 117,f 118,f 119,f 120,f 121,f 122,f 123,f 124,f 125,f 126,f 127,f 128,f 129,f 130,f 131,f 132,f 133,f 134,f 135,f 136,f 137,f 138,f 139,f 140,f 141,f 142,f 143,f 144,f 145,f 146,f 147,f 148,f 149,f 150,f 151,f 152,f 153,f 154,f 155,f 156],[]⟩ w:=by
 have hxl:x<w.heap.size:=cell_lt hx;have hat:∀ i f,fs[i]?=some f->∀ w1,Tch w.heap.size M0 w w1->∃ g kb kc,ga=some ⟨g,0,none⟩/\FAt false w1 g i f kb kc:=fun i f h w1 ht=>by have hf1:=hf.kept (w':=w1) fun y hy=>ht.heap y (hf.lt y hy) fun h=>h;obtain ⟨g,kb,kc,h1,_,_,h2⟩:=hf1.at_ i f h;exact ⟨g,kb,kc,h1,h2⟩
 have hxk:∀ w1,Tch w.heap.size M0 w w1->w1.cell? ⟨x,0,none⟩=some (.int .i64 3):=fun w1 ht=>(ht.cell hxl fun h=>h).trans hx;clear hf hx;simp only [Jh9,b13,fC,sC,Tryz.f13,Ja6];generalize hN:fs.length=n at *;go_wp2
 go_loopw [4,22] (fun u i wr=>∃ k:Nat,u=.nilIface/\k<=n/\i=.int .i64 k/\Tch w.heap.size M0 w wr) (fun _ i _=>n-(RowKit.intOf i).toNat)
 case atStart=>exact ⟨0,rfl,by omega,rfl,.refl⟩
 case round=>
  obtain ⟨k,rfl,hk,rfl,ht⟩:=hrel;rcases Jb5 k n with hlt|hge
  ·have hlt':(k:Int)<n:=by omega
   obtain ⟨fd,hfd⟩:∃ fd,fs[k]?=some fd:=⟨fs[k]'(by omega),Jb1 _⟩;obtain ⟨g,kb,kc,rfl,hF⟩:=hat k fd hfd wr ht;have hfo:=hok fd (Jd0 hfd);have c0:=hF.ck;have c1:=hF.ci;have c2:=hF.cv;have hcall:=fun w1 (t:Tch wr.heap.size M0 wr w1)=>Jpp (hF.row.tch t hF.row.lt fun h=>h) hfo.k (by rw [hfo.n];omega);rw [hfo.n] at c0 hcall;have hx1:=hxk _ (ht.then (Tch.refl.alloc (Ja2 _) (.cells #[.slice (some ⟨kb,0,none⟩) 3 kc,.int .i64 fd.it,.int .i64 fd.v] 47)) ht.size fun _ _ h=>h);clear hF hat hxk hfd hok;go_wp2;obtain ⟨W1,hW1⟩:∃ W1,wr.alloc (.cells #[.slice (some ⟨kb,0,none⟩) 3 kc,.int .i64 fd.it,.int .i64 fd.v] 47)=W1:=⟨_,rfl⟩;have t1:Tch wr.heap.size M0 wr W1:=by rw [<- hW1];exact Tch.refl.alloc (Ja2 _) _
   have hb1:W1.heap[wr.heap.size]?=some (.cells #[.slice (some ⟨kb,0,none⟩) 3 kc,.int .i64 fd.it,.int .i64 fd.v] 47):=by rw [<- hW1];exact Ja _
   rw [hW1] at hx1 ⊢;have b0:=(cell_of hb1 0).trans rfl;have hq:∀ m,Calls Tryz.prog 20 #[.slice (some ⟨kb,0,none⟩) 3 kc,.func (.func 21) #[] #[]] (W1.drewN m) fun e w'=>e=.returned (.bool false)/\∃ q,w'=(W1.drewN m).drewN q:=fun m=>hcall _ ⟨t1.size,t1.heap,t1.tape,t1.os,t1.output⟩;clear hW1 hcall hb1 c0 c1 c2
   go_quiet ((go_at_call 20;exact Calls.quiet_of (hq _)))
   go_wp2;exact ⟨⟨k+1,rfl,by omega,by go_num,ht.then ⟨t1.size,t1.heap,t1.tape,t1.os,t1.output⟩ ht.size fun _ _ h=>h⟩,by simp [RowKit.intOf];omega⟩
  ·have hge':¬ ((k:Int)<n):=by omega
   clear hat hxk;go_wp2
end
end Go.Sim.Z
namespace Go.Sim.Z
open Go Go.Proofs Go.RowKit Go.Maps
theorem J09.Js5 {w:World} {b:Nat} {L:List (List Int × Value)} (h:J09 w b L) (hn:L.length<maxLen) {k:List Int} (hk:J0t k) (v:Value) :
  ∃ w',(Instr.mapUpdate 72 (.map (some b)) (.agg (ai .i64 k)) v).run Tryz.prog w=.ok () w'/\J09 w' b (J5c k v L)/\w.grownBy w' (some b):=by
 obtain ⟨L',h1,n,h2⟩:=h.own;have hlen:(L'.map J0r).length<maxLen:=by simpa [h1.length_eq] using hn
 obtain ⟨w',hrun,h3,h4⟩:=(Jks h2).update J7t Tryz.underlying72 hlen (J4q hk) (val:=v) (d:=.held v) (ps:=[]) rfl;refine ⟨w',hrun,⟨fun p hp=>?_,?_,?_⟩,h4⟩
 ·rcases Jb8.1 hp with rfl|hp
  ·exact hk
  ·exact h.keys p (Jd5.1 hp).1
 ·simp only [J5c,Jc4,List.nodup_cons];constructor
  ·intro hm;obtain ⟨p,hp,e⟩:=Jb3.1 hm;have:=(Jd5.1 hp).2;simp [e] at this
  ·exact (List.Sublist.map _ (List.filter_sublist)).nodup h.nodup
 ·have e:(DataW.map (L'.map J0r)).put (klit k) (.held v)=.map (DataW.insert (J0r (k,v)) ((L'.filter fun p=>!decide (p.1=k)).map J0r)):=by
   have ef:(L'.map J0r).filter (fun p=>!p.1.sameKey (klit k))=(L'.filter fun p=>!decide (p.1=k)).map J0r:=by
    rw [List.filter_map];refine congrArg (List.map J0r) (List.filter_congr fun p hp=>?_);simp only [Function.comp];rw [show (J0r p).1.sameKey (klit k)=decide (p.1=k) from J5b (h.keys p (h1.mem_iff.1 hp)) hk]
   show DataW.map (DataW.insert _ ((L'.map J0r).filter (fun p=>!p.1.sameKey (klit k))))=_;rw [ef];rfl
  rw [e] at h3;obtain ⟨L2,e2,hp2⟩:=J8d (k,v) (L'.filter fun p=>!decide (p.1=k));rw [<- e2] at h3;exact ⟨L2,hp2.trans ((h1.filter _).cons _),_,h3⟩
structure J1j (w:World) (nb:Nat) (T:List TR) (U:List (List Int)) (L:List (List Int × Value)):Prop where
 map:J09 w nb L
 new:∀ p∈L,p.1∈U/\tm T p.1=none
theorem J4o:∀ {V U:List (List Int)},V.Nodup->(∀ x∈V,x∈U)->V.length<=U.length
 | [],_,_,_=>Nat.zero_le _
 | a::V,U,hV,hs=>by have h1:=List.nodup_cons.1 hV;have ha:=hs a (by simp);have:=J4o (U:=U.erase a) h1.2 fun x hx=>(List.mem_erase_of_ne fun e=>h1.1 (by rw [<- e];exact hx)).2 (hs x (by simp [hx]));rw [List.length_erase_of_mem ha] at this;have:0<U.length:=List.length_pos_of_mem ha;simp only [Jd2];omega
theorem J1j.le {fr:Bool} {w w':World} {c:J8} {nb m:Nat} {T:List TR} {U:List (List Int)} {L:List (List Int × Value)} (h:J1j w nb T U L) (hT:TabAt fr w' c m T) (hU:∀ t∈T,t.k∈U):T.length+L.length<=U.length:=by
 have:(T.map (·.k)++L.map (·.1)).Nodup:=by refine List.nodup_append.2 ⟨hT.nodup,h.map.nodup,fun a ha b hb e=>?_⟩;subst e;obtain ⟨t,ht,rfl⟩:=Jb3.1 ha;obtain ⟨p,hp,e⟩:=Jb3.1 hb;have:=(h.new p hp).2;rw [e] at this;exact (J4s this).2 t ht rfl
 have h2:=J4o (U:=U) this fun x hx=>by
  rcases Jc9.1 hx with hx|hx
  ·obtain ⟨t,ht,rfl⟩:=Jb3.1 hx;exact hU t ht
  ·obtain ⟨p,hp,rfl⟩:=Jb3.1 hx;exact (h.new p hp).1
 simpa using h2
theorem J1j.put {w w':World} {nb:Nat} {T:List TR} {U:List (List Int)} {L:List (List Int × Value)} {k:List Int} {v:Value} (h:J1j w nb T U L) (hm:J09 w' nb (J5c k v L)) (hk:k∈U) (hT:tm T k=none):J1j w' nb T U (J5c k v L):=
 ⟨hm,fun p hp=>by
  rcases Jb8.1 hp with rfl|hp
  ·exact ⟨hk,hT⟩
  ·exact h.new p (Jd5.1 hp).1⟩
theorem J1j.kept {w w':World} {nb:Nat} {T:List TR} {U:List (List Int)} {L:List (List Int × Value)} (h:J1j w nb T U L) (hb:w'.heap[nb]?=w.heap[nb]?):J1j w' nb T U L:=⟨h.map.kept hb,h.new⟩
def J20 (hs:Int->Int) (fs:List Jg) (k:Nat):List Int:=(fs.take k).map (fun f=>hs f.it)++List.replicate (fs.length-k) 0
theorem Jaf {hs:Int->Int} {fs:List Jg} {k:Nat}:(J20 hs fs k).length=fs.length:=by simp [J20];omega
theorem Jdi {hs:Int->Int} {fs:List Jg} {k:Nat} {f:Jg} (h:fs[k]?=some f):J20 hs fs (k+1)=(J20 hs fs k).set k (hs f.it):=by
 obtain ⟨hk,e⟩:=List.getElem?_eq_some_iff.1 h;unfold J20;have hl:((fs.take k).map fun f=>hs f.it).length=k:=by simp;omega
 rw [List.take_add_one,h,List.map_append,show fs.length-k=(fs.length-(k+1))+1 by omega,List.replicate_succ];rw [List.set_append_right _ _ (by omega),hl];simp
section
variable {w:World} {x:Nat} {ga:Option Addr} {fs:List Jg} {cap:Nat} {pl hpl:List Nat} {f:Nat->Value} {c:J8} {T:List TR} {U:List (List Int)} {base vm hb nb N0 n:Nat} {seed nf:Int} {h:Value} {hs:Int->Int}
theorem Js6 (hn:n<=1000):Jha.wp Tryz.prog (fun e a w'=>e=.normal/\a.defers=[]/\a.tmps.size=157/\a.tmps[0]?=some (.pointer (some ⟨x,0,none⟩))/\a.tmps[1]?=some (.slice ga n cap)/\a.tmps[4]?=some .nilIface/\a.tmps[7]?=some (.slice (some ⟨w.heap.size,0,none⟩) n n)/\w'=w.alloc (.cells (Array.replicate n (.int .u64 0)) 45)) ⟨#[.pointer (some ⟨x,0,none⟩),.slice ga n cap,f 2,f 3,.nilIface,f 5,f 6,f 7,f 8,f 9,f 10,f 11,f 12,f 13,f 14,f 15,f 16,f 17,f 18,f 19,f 20,f 21,f 22,f 23,f 24,f 25,f 26,f 27,f 28,f 29,f 30,f 31,f 32,f 33,f 34,f 35,f 36,f 37,f 38,f 39,f 40,f 41,f 42,f 43,f 44,f 45,f 46,f 47,f 48,f 49,f 50,f 51,f 52,f 53,f 54,f 55,f 56,f 57,f 58,f 59,f 60,f 61,f 62,f 63,f 64,f 65,f 66,f 67,f 68,f 69,f 70,f 71,f 72,f 73,f 74,f 75,f 76,f 77,f 78,f 79,f 80,f 81,f 82,f 83,f 84,f 85,f 86,f 87,f 88,f 89,f 90,f 91,f 92,f 93,f 94,f 95,f 96,f 97,f 98,f 99,f 100,f 101,f 102,f 103,f 104,f 105,f 106,f 107,f 108,f 109,f 110,f 111,f 112,f 113,f 114,f 115,f 116,f 117,f 118,f 119,f 120,f 121,f 122,f 123,f 124,f 125,f 126,f 127,f 128,f 129,f 130,f 131,f 132,f 133,f 134,f 135,f 136,f 137,f 138,f 139,f 140,f 141,f 142,f 143,f 144,f 145,f 146,f 147,f 148,f 149,f 150,f 151,f 152,f 153,f 154,f 155,f 156],[]⟩ w:=by have hm1:=mkRow 37 45 .u64 8 Tryz.underlying37 J6v (by omega) n (by omega);simp only [Jha,b13,fC,sC,Tryz.f13,Ja6];go_wp2
theorem Js7 (q:J08 w x c seed h nf vm base):Jhb.wp Tryz.prog (fun e a w'=>e=.normal/\a.defers=[]/\a.tmps.size=157/\a.tmps[0]?=some (.pointer (some ⟨x,0,none⟩))/\a.tmps[1]?=some (.slice ga n cap)/\a.tmps[4]?=some .nilIface/\a.tmps[7]?=some (.slice (some ⟨hb,0,none⟩) n n)/\a.tmps[8]?=some (.map (some base))/\Tch w.heap.size M0 w w'/\w'.heap=w.heap) ⟨#[.pointer (some ⟨x,0,none⟩),.slice ga n cap,f 2,f 3,.nilIface,f 5,f 6,.slice (some ⟨hb,0,none⟩) n n,f 8,f 9,f 10,f 11,f 12,f 13,f 14,f 15,f 16,f 17,f 18,f 19,f 20,f 21,f 22,f 23,f 24,f 25,f 26,f 27,f 28,f 29,f 30,f 31,f 32,f 33,f 34,f 35,f 36,f 37,f 38,f 39,f 40,f 41,f 42,f 43,f 44,f 45,f 46,f 47,f 48,f 49,f 50,f 51,f 52,f 53,f 54,f 55,f 56,f 57,f 58,f 59,f 60,f 61,f 62,f 63,f 64,f 65,f 66,f 67,f 68,f 69,f 70,f 71,f 72,f 73,f 74,f 75,f 76,f 77,f 78,f 79,f 80,f 81,f 82,f 83,f 84,f 85,f 86,f 87,f 88,f 89,f 90,f 91,f 92,f 93,f 94,f 95,f 96,f 97,f 98,f 99,f 100,f 101,f 102,f 103,f 104,f 105,f 106,f 107,f 108,f 109,f 110,f 111,f 112,f 113,f 114,f 115,f 116,f 117,f 118,f 119,f 120,f 121,f 122,f 123,f 124,f 125,f 126,f 127,f 128,f 129,f 130,f 131,f 132,f 133,f 134,f 135,f 136,f 137,f 138,f 139,f 140,f 141,f 142,f 143,f 144,f 145,f 146,f 147,f 148,f 149,f 150,f 151,f 152,f 153,f 154,f 155,f 156],[]⟩ w:=by
 have c7:=q.cells.2.2.2.2.2.2.2;have hl:=fun m=>J2j.lookup (w:=w.drewN m) (q.vs.kept rfl);have hb:∀ m,Calls Tryz.prog 23 #[.pointer (some ⟨x,0,none⟩)] (w.drewN m) fun e w'=>e=.returned (.int .i64 7)/\w'=w.drewN m:=fun m=>J6i q.cells.1;simp only [Jhb,b13,fC,sC,Tryz.f13,Ja6]
 go_wp2_with fail
 go_quiet ((go_at_call 23;exact Calls.quiet_of_same (hb _)))
 go_wp2;exact ⟨Ja2 _,fun _ _ _=>rfl,rfl,rfl,rfl⟩
theorem Js8:Jhc.wp Tryz.prog (fun e a w'=>e=.normal/\a.defers=[]/\a.tmps.size=157/\a.tmps[0]?=some (.pointer (some ⟨x,0,none⟩))/\a.tmps[1]?=some (.slice ga n cap)/\a.tmps[4]?=some .nilIface/\a.tmps[7]?=some (.slice (some ⟨hb,0,none⟩) n n)/\a.tmps[8]?=some (.map (some base))/\a.tmps[9]?=some (.map (some w.heap.size))/\w'=w.alloc (.map #[] 0)) ⟨#[.pointer (some ⟨x,0,none⟩),.slice ga n cap,f 2,f 3,.nilIface,f 5,f 6,.slice (some ⟨hb,0,none⟩) n n,.map (some base),f 9,f 10,f 11,f 12,f 13,f 14,f 15,f 16,f 17,f 18,f 19,f 20,f 21,f 22,f 23,f 24,f 25,f 26,f 27,f 28,f 29,f 30,f 31,f 32,f 33,f 34,f 35,f 36,f 37,f 38,f 39,f 40,f 41,f 42,f 43,f 44,f 45,f 46,f 47,f 48,f 49,f 50,f 51,f 52,f 53,f 54,f 55,f 56,f 57,f 58,f 59,f 60,f 61,f 62,f 63,f 64,f 65,f 66,f 67,f 68,f 69,f 70,f 71,f 72,f 73,f 74,f 75,f 76,f 77,f 78,f 79,f 80,f 81,f 82,f 83,f 84,f 85,f 86,f 87,f 88,f 89,f 90,f 91,f 92,f 93,f 94,f 95,f 96,f 97,f 98,f 99,f 100,f 101,f 102,f 103,f 104,f 105,f 106,f 107,f 108,f 109,f 110,f 111,f 112,f 113,f 114,f 115,f 116,f 117,f 118,f 119,f 120,f 121,f 122,f 123,f 124,f 125,f 126,f 127,f 128,f 129,f 130,f 131,f 132,f 133,f 134,f 135,f 136,f 137,f 138,f 139,f 140,f 141,f 142,f 143,f 144,f 145,f 146,f 147,f 148,f 149,f 150,f 151,f 152,f 153,f 154,f 155,f 156],[]⟩ w:=by have hmm:∀ (t:TypeId) w,(Instr.makeMap t none).run Tryz.prog w=.ok (.map (some w.heap.size)) (w.alloc (.map #[] 0)):=fun _ _=>rfl;simp only [Jhc,b13,fC,sC,Tryz.f13,Ja6];go_wp2
end
theorem Jld {f:Jg} (h:J49 f):J0t (Js f.k):=by
 refine ⟨J45 (by rw [h.n];omega),fun x hx=>?_⟩;have:0<=x/\x<=99:=by
  rcases Jc9.1 hx with hx|hx
  ·exact h.k x hx
  ·have:=List.eq_of_mem_replicate hx;omega
 have e1:IntKind.i64.min=-9223372036854775808:=by decide
 have e2:IntKind.i64.max=9223372036854775807:=by decide
 simp [Lit.wf,e1,e2];omega
section
variable {w:World} {x:Nat} {ga:Option Addr} {fs:List Jg} {cap n:Nat} {pl hpl:List Nat} {f:Nat->Value} {c:J8} {T:List TR} {U:List (List Int)} {base vm hb nb N0:Nat} {hs:Int->Int}
theorem Js9 (hn:fs.length=n) (hn2:n<=1000) (hN:N0<=w.heap.size) (hone:∀ w1,Tch N0 M0 w w1->∀ item at_,Calls Tryz.prog 24 #[.pointer (some ⟨x,0,none⟩),.int .i64 item,.int .i64 at_] w1 fun e w2=>e=.returned (.tuple #[.int .u64 (hs item),.nilIface])/\Tch w1.heap.size M0 w1 w2)
  (hfl:∀ y∈pl,y<N0) (hf:∀ w1,Tch N0 M0 w w1->J3a false w1 ga fs cap pl) (hok:∀ g∈fs,J49 g) (hT:∀ w1,Tch N0 M0 w w1->TabAt false w1 c base T) (hU:∀ g∈fs,Js g.k∈U) (hUn:U.length<=1000)
  (hhb:N0<=hb) (hnb:N0<=nb) (hne:hb≠nb) (hr0:Row false w hb 45 .u64 (J20 hs fs 0) n) (hL0:J1j w nb T U []) (hTU:∀ t∈T,t.k∈U) :
  Jhd.wp Tryz.prog (fun e a w'=>e=.normal/\a.defers=[]/\a.tmps.size=157/\a.tmps[0]?=some (.pointer (some ⟨x,0,none⟩))/\a.tmps[1]?=some (.slice ga n cap)/\a.tmps[4]?=some .nilIface/\a.tmps[7]?=some (.slice (some ⟨hb,0,none⟩) n n)/\a.tmps[8]?=some (.map (some base))/\a.tmps[9]?=some (.map (some nb)) /\
   Row false w' hb 45 .u64 (J20 hs fs n) n/\(∃ L,J1j w' nb T U L)/\Tch N0 M0 w w') ⟨#[.pointer (some ⟨x,0,none⟩),.slice ga n cap,f 2,f 3,.nilIface,f 5,f 6,.slice (some ⟨hb,0,none⟩) n n,.map (some base),.map (some nb),f 10,f 11,f 12,f 13,f 14,f 15,f 16,f 17,f 18,f 19,f 20,f 21,f 22,f 23,f 24,f 25,f 26,f 27,f 28,f 29,f 30,f 31,f 32,f 33,f 34,f 35,f 36,f 37,f 38,f 39,f 40,f 41,f 42,f 43,f 44,f 45,f 46,f 47,f 48,f 49,f 50,f 51,f 52,f 53,f 54,f 55,f 56,f 57,f 58,f 59,f 60,f 61,f 62,f 63,f 64,f 65,f 66,f 67,f 68,f 69,f 70,f 71,f 72,f 73,f 74,f 75,f 76,f 77,f 78,f 79,f 80,f 81,f 82,f 83,f 84,f 85,f 86,f 87,f 88,f 89,f 90,f 91,f 92,f 93,f 94,f 95,f 96,f 97,f 98,f 99,f 100,f 101,f 102,f 103,f 104,f 105,f 106,f 107,f 108,f 109,f 110,f 111,f 112,f 113,f 114,f 115,f 116,f 117,f 118,f 119,f 120,f 121,f 122,f 123,f 124,f 125,f 126,f 127,f 128,f 129,f 130,f 131,f 132,f 133,f 134,f 135,f 136,f 137,f 138,f 139,f 140,f 141,f 142,f 143,f 144,f 145,f 146,f 147,f 148,f 149,f 150,f 151,f 152,f 153,f 154,f 155,f 156],[]⟩ w:=by
 simp only [Jhd,b13,fC,sC,Tryz.f13,Ja6];go_wp2
 go_loopw [4,57] (fun u i wr=>∃ k:Nat,u=.nilIface/\k<=n/\i=.int .i64 k/\Row false wr hb 45 .u64 (J20 hs fs k) n/\(∃ L,J1j wr nb T U L)/\Tch N0 M0 w wr) (fun _ i _=>n-(RowKit.intOf i).toNat)
 case atStart=>exact ⟨0,rfl,by omega,rfl,hr0,⟨[],hL0⟩,.refl⟩
 case round=>
  obtain ⟨k,rfl,hk,rfl,hr,⟨L,hL⟩,ht⟩:=hrel;rcases Jb5 k n with hlt|hge
  ·have hlt':(k:Int)<n:=by omega
   obtain ⟨fd,hfd⟩:∃ fd,fs[k]?=some fd:=⟨fs[k]'(by omega),Jb1 _⟩;have hfo:=hok fd (Jd0 hfd);have hkU:=hU fd (Jd0 hfd);have Jag:=Jld hfo;have hF0:∀ kb kc,Row false wr kb 3 .i64 fd.k kc->∀ w1,Tch N0 M0 w w1->kb<N0->Row false w1 kb 3 .i64 fd.k kc:=fun kb kc h w1 t hl=>h.kept ((t.heap kb hl fun h=>h).trans (ht.heap kb hl fun h=>h).symm);obtain ⟨g,kb,kc,rfl,hgp,hkp,hF⟩:=(hf wr ht).at_ k fd hfd;have c0:=hF.ck;have c1:=hF.ci;have c2:=hF.cv;rw [hfo.n] at c0;have hs1:N0<=wr.heap.size:=Jb6 hN ht.size;obtain ⟨W1,hW1⟩:∃ W1,wr.alloc (.cells #[.slice (some ⟨kb,0,none⟩) 3 kc,.int .i64 fd.it,.int .i64 fd.v] 47)=W1:=⟨_,rfl⟩;have t1:Tch wr.heap.size M0 wr W1:=by rw [<- hW1];exact Tch.refl.alloc (Ja2 _) _
   have hb1:W1.heap[wr.heap.size]?=some (.cells #[.slice (some ⟨kb,0,none⟩) 3 kc,.int .i64 fd.it,.int .i64 fd.v] 47):=by rw [<- hW1];exact Ja _
   have hcall:=hone W1 (ht.then t1 hs1 fun _ _ h=>h) fd.it k;have d1:=(cell_of hb1 1).trans rfl;have hhl:=hr.lt;have hB1:wr.heap.size≠hb:=by omega
   have hB2:hb≠wr.heap.size:=by omega
   have hx5:∃ y0 y1 y2 y3 y4,Js fd.k=[y0,y1,y2,y3,y4]:=by
    have h1:=Jag.1;generalize Js fd.k=l at h1;rcases l with _|⟨x0,_|⟨x1,_|⟨x2,_|⟨x3,_|⟨x4,_|⟨x5,l⟩⟩⟩⟩⟩⟩<;>simp at h1
    exact ⟨_,_,_,_,_,rfl⟩
   obtain ⟨y0,y1,y2,y3,y4,hy⟩:=hx5;have Jch:∀ w1,Tch N0 M0 w w1->Calls Tryz.prog 25 #[.slice (some ⟨kb,0,none⟩) 3 kc] w1 fun e w'=>e=.returned (.agg #[.int .i64 y0,.int .i64 y1,.int .i64 y2,.int .i64 y3,.int .i64 y4])/\Tch w1.heap.size M0 w1 w':=fun w1 t=>by have hlb:=(hf wr ht).lt _ hkp;have hlw:kb<N0:=hfl kb hkp;have:=Ji6 (w:=w1) (hF0 kb kc hF.row w1 t hlw) (by rw [hfo.n];omega);rw [hfo.n,hy] at this;exact this
   have hLn:L.length<maxLen:=by
    have:=hL.le (hT wr ht) hTU;have e:maxLen=9223372036854775807:=by decide
    omega
   cases htm:tm T (Js fd.k) with
   | none=>
    have hlook:∀ w1,Tch N0 M0 w w1->(Instr.lookup 70 (.map (some base)) (.agg #[.int .i64 y0,.int .i64 y1,.int .i64 y2,.int .i64 y3,.int .i64 y4]) false).run Tryz.prog w1=.ok (.pointer none) w1:=fun w1 t=>by have:=(hT w1 t).map.lookup Jag;rw [(J4s htm).1,hy] at this;exact this
    clear hone
    go_wp2_with (first
    | (go_at_call 24;refine hcall.mono ?_;rintro e w2 ⟨rfl,t2⟩
       have t12:=t1.then t2 t1.size fun _ _ h=>h;have e2:w2.heap[wr.heap.size]?=some (.cells #[.slice (some ⟨kb,0,none⟩) 3 kc,.int .i64 fd.it,.int .i64 fd.v] 47):=(t2.heap _ (Ji hb1) fun h=>h).trans hb1;have hr2:=hr.tch t12 hhl fun h=>h;have hL2:=hL.kept (t12.heap _ hL.map.lt fun h=>h);have hlk:k<(J20 hs fs k).length:=by rw [Jaf];omega
       have f0:=hr2.cell hlk;have f1:=hr2.frozen k;have f2:=(cell_of e2 0).trans rfl;have e2l:=Ji e2;obtain ⟨W3,hW3⟩:∃ W3,w2.setCell ⟨hb,k,none⟩ (.int .u64 (hs fd.it))=W3:=⟨_,rfl⟩;have t3:Tch N0 M0 w W3:=by rw [<- hW3];exact (ht.then t12 hs1 fun _ _ h=>h).set (.inl hhb) _
       have hr3:Row false W3 hb 45 .u64 (J20 hs fs (k+1)) n:=by rw [<- hW3,Jdi hfd];exact hr2.set k _
       have hL3:J1j W3 nb T U L:=by rw [<- hW3];exact hL2.kept (Jk _ _ (Ne.symm hne))
       have g0:W3.cell? ⟨wr.heap.size,0,none⟩=some (.slice (some ⟨kb,0,none⟩) 3 kc):=by rw [<- hW3];exact (Jb4 (Jk _ _ hB1)).trans f2)
    | (go_at_call 25;refine (Jch _ t3).mono ?_;rintro e w4 ⟨rfl,t4⟩
       obtain ⟨W5,hW5⟩:∃ W5,w4.alloc (.cells #[.int .i64 y0,.int .i64 y1,.int .i64 y2,.int .i64 y3,.int .i64 y4] 76)=W5:=⟨_,rfl⟩;have t45:Tch W3.heap.size M0 W3 W5:=by rw [<- hW5];exact t4.alloc t4.size _
       have t5:Tch N0 M0 w W5:=t3.then t45 (Jb6 hN t3.size) fun _ _ h=>h;have e5:W5.heap[w4.heap.size]?=some (.cells #[.int .i64 y0,.int .i64 y1,.int .i64 y2,.int .i64 y3,.int .i64 y4] 76):=by rw [<- hW5];exact Ja _
       have hr5:=hr3.tch t45 hr3.lt fun h=>h;have hL5:=hL3.kept (t45.heap _ hL3.map.lt fun h=>h);have k0:=(cell_of e5 0).trans rfl;have k1:=(cell_of e5 1).trans rfl;have k2:=(cell_of e5 2).trans rfl;have k3:=(cell_of e5 3).trans rfl;have k4:=(cell_of e5 4).trans rfl;have hl5:=hlook _ t5;obtain ⟨w6,hrun6,hm6,hg6⟩:=hL5.map.Js5 hLn Jag (.int .i64 1);rw [hy] at hrun6;simp only [ai,Jc4,List.map_nil] at hrun6))
    have hnb5:nb<W5.heap.size:=hL5.map.lt;have hb5:=hr5.lt;refine ⟨⟨k+1,rfl,by omega,by go_num,hr5.kept (hg6.block _ hb5 fun e=>hne (Ja0 e)),⟨_,hL5.put hm6 hkU htm⟩,?_⟩,by simp [RowKit.intOf];omega⟩;refine ⟨Jb6 t5.size hg6.size,fun b hb _=>(hg6.block b (by have:=t5.size;omega) fun e=>by have:=Ja0 e;omega).trans (t5.heap b hb fun h=>h),hg6.tape.trans t5.tape,hg6.os.trans t5.os,hg6.output.trans t5.output⟩
   | some B=>
    obtain ⟨t,_,_,_,_,_,_,hlk⟩:=J21 htm;have hlook:∀ w1,Tch N0 M0 w w1->(Instr.lookup 70 (.map (some base)) (.agg #[.int .i64 y0,.int .i64 y1,.int .i64 y2,.int .i64 y3,.int .i64 y4]) false).run Tryz.prog w1=.ok (.pointer (some ⟨t.p.b,0,none⟩)) w1:=fun w1 t=>by have:=(hT w1 t).map.lookup Jag;rw [hlk,hy] at this;exact this
    clear hone
    go_wp2_with (first
    | (go_at_call 24;refine hcall.mono ?_;rintro e w2 ⟨rfl,t2⟩
       have t12:=t1.then t2 t1.size fun _ _ h=>h;have e2:w2.heap[wr.heap.size]?=some (.cells #[.slice (some ⟨kb,0,none⟩) 3 kc,.int .i64 fd.it,.int .i64 fd.v] 47):=(t2.heap _ (Ji hb1) fun h=>h).trans hb1;have hr2:=hr.tch t12 hhl fun h=>h;have hL2:=hL.kept (t12.heap _ hL.map.lt fun h=>h);have hlk:k<(J20 hs fs k).length:=by rw [Jaf];omega
       have f0:=hr2.cell hlk;have f1:=hr2.frozen k;have f2:=(cell_of e2 0).trans rfl;have e2l:=Ji e2;obtain ⟨W3,hW3⟩:∃ W3,w2.setCell ⟨hb,k,none⟩ (.int .u64 (hs fd.it))=W3:=⟨_,rfl⟩;have t3:Tch N0 M0 w W3:=by rw [<- hW3];exact (ht.then t12 hs1 fun _ _ h=>h).set (.inl hhb) _
       have hr3:Row false W3 hb 45 .u64 (J20 hs fs (k+1)) n:=by rw [<- hW3,Jdi hfd];exact hr2.set k _
       have hL3:J1j W3 nb T U L:=by rw [<- hW3];exact hL2.kept (Jk _ _ (Ne.symm hne))
       have g0:W3.cell? ⟨wr.heap.size,0,none⟩=some (.slice (some ⟨kb,0,none⟩) 3 kc):=by rw [<- hW3];exact (Jb4 (Jk _ _ hB1)).trans f2)
    | (go_at_call 25;refine (Jch _ t3).mono ?_;rintro e w4 ⟨rfl,t4⟩
       obtain ⟨W5,hW5⟩:∃ W5,w4.alloc (.cells #[.int .i64 y0,.int .i64 y1,.int .i64 y2,.int .i64 y3,.int .i64 y4] 76)=W5:=⟨_,rfl⟩;have t45:Tch W3.heap.size M0 W3 W5:=by rw [<- hW5];exact t4.alloc t4.size _
       have t5:Tch N0 M0 w W5:=t3.then t45 (Jb6 hN t3.size) fun _ _ h=>h;have e5:W5.heap[w4.heap.size]?=some (.cells #[.int .i64 y0,.int .i64 y1,.int .i64 y2,.int .i64 y3,.int .i64 y4] 76):=by rw [<- hW5];exact Ja _
       have hr5:=hr3.tch t45 hr3.lt fun h=>h;have hL5:=hL3.kept (t45.heap _ hL3.map.lt fun h=>h);have k0:=(cell_of e5 0).trans rfl;have k1:=(cell_of e5 1).trans rfl;have k2:=(cell_of e5 2).trans rfl;have k3:=(cell_of e5 3).trans rfl;have k4:=(cell_of e5 4).trans rfl;have hl5:=hlook _ t5
       skip))
    exact ⟨⟨k+1,rfl,by omega,by go_num,hr5,⟨L,hL5⟩,t5⟩,by simp [RowKit.intOf];omega⟩
  ·have hge':¬ ((k:Int)<n):=by omega
   obtain rfl:k=n:=by omega
   clear hf hT hone;go_wp2;exact ⟨L,hL⟩
end
theorem J09.len {w:World} {b:Nat} {L:List (List Int × Value)} (h:J09 w b L) {t e:TypeId} (ht:Tryz.prog.underlying t=some (.map 76 e)) (ty:TypeId):(Builtin.len_ #[t] ty #[.map (some b)]).run Tryz.prog w=.ok (.int .i64 L.length) w:=by obtain ⟨L',h1,n,h2⟩:=h.own;rw [h2.len ht ty];simp [Maps.size,h1.length_eq]
section
variable {w:World} {x:Nat} {ga:Option Addr} {cap n:Nat} {f:Nat->Value} {c:J8} {T:List TR} {U:List (List Int)} {base vm hb nb:Nat} {L:List (List Int × Value)} {seed nf:Int} {h:Value}
theorem Jsa (hx:w.cell? ⟨x,6,none⟩=some (.int .i64 nf)) (h0:0<=nf) (hn:nf+n<=3000) (hT:TabAt false w c base T) (hL:J1j w nb T U L) (hTU:∀ t∈T,t.k∈U) (hU:U.length<=128) :
  Jhe.wp Tryz.prog (fun e a w'=>e=.normal/\a.defers=[]/\a.tmps.size=157/\a.tmps[0]?=some (.pointer (some ⟨x,0,none⟩))/\a.tmps[1]?=some (.slice ga n cap)/\a.tmps[4]?=some .nilIface/\a.tmps[7]?=some (.slice (some ⟨hb,0,none⟩) n n)/\w'=w) ⟨#[.pointer (some ⟨x,0,none⟩),.slice ga n cap,f 2,f 3,.nilIface,f 5,f 6,.slice (some ⟨hb,0,none⟩) n n,.map (some base),.map (some nb),f 10,f 11,f 12,f 13,f 14,f 15,f 16,f 17,f 18,f 19,f 20,f 21,f 22,f 23,f 24,f 25,f 26,f 27,f 28,f 29,f 30,f 31,f 32,f 33,f 34,f 35,f 36,f 37,f 38,f 39,f 40,f 41,f 42,f 43,f 44,f 45,f 46,f 47,f 48,f 49,f 50,f 51,f 52,f 53,f 54,f 55,f 56,f 57,f 58,f 59,f 60,f 61,f 62,f 63,f 64,f 65,f 66,f 67,f 68,f 69,f 70,f 71,f 72,f 73,f 74,f 75,f 76,f 77,f 78,f 79,f 80,f 81,f 82,f 83,f 84,f 85,f 86,f 87,f 88,f 89,f 90,f 91,f 92,f 93,f 94,f 95,f 96,f 97,f 98,f 99,f 100,f 101,f 102,f 103,f 104,f 105,f 106,f 107,f 108,f 109,f 110,f 111,f 112,f 113,f 114,f 115,f 116,f 117,f 118,f 119,f 120,f 121,f 122,f 123,f 124,f 125,f 126,f 127,f 128,f 129,f 130,f 131,f 132,f 133,f 134,f 135,f 136,f 137,f 138,f 139,f 140,f 141,f 142,f 143,f 144,f 145,f 146,f 147,f 148,f 149,f 150,f 151,f 152,f 153,f 154,f 155,f 156],[]⟩ w:=by
 have hle:=hL.le hT hTU;have g1:=hT.map.len Tryz.underlying70 3;have g2:=hL.map.len Tryz.underlying72 3;rw [Jc3] at g1;have d1:¬ (3000:Int)<IntKind.i64.wrap (nf+n):=by rw [IntKind.wrap_i64];omega
 have d2:¬ (128:Int)<IntKind.i64.wrap ((T.length:Int)+L.length):=by rw [IntKind.wrap_i64];omega
 clear hT hL;simp only [Jhe,b13,fC,sC,Tryz.f13,Ja6];go_wp2
theorem Jsb (hx:w.cell? ⟨x,6,none⟩=some (.int .i64 nf)) (hz:w.frozen? ⟨x,6,none⟩=false) (h0:0<=nf) (hn:nf+n<=3000) :
  Jhf.wp Tryz.prog (fun e a w'=>e=.normal/\a.defers=[]/\a.tmps.size=157/\a.tmps[0]?=some (.pointer (some ⟨x,0,none⟩))/\a.tmps[1]?=some (.slice ga n cap)/\a.tmps[4]?=some .nilIface/\a.tmps[7]?=some (.slice (some ⟨hb,0,none⟩) n n)/\w'=w.setCell ⟨x,6,none⟩ (.int .i64 (nf+n))) ⟨#[.pointer (some ⟨x,0,none⟩),.slice ga n cap,f 2,f 3,.nilIface,f 5,f 6,.slice (some ⟨hb,0,none⟩) n n,f 8,f 9,f 10,f 11,f 12,f 13,f 14,f 15,f 16,f 17,f 18,f 19,f 20,f 21,f 22,f 23,f 24,f 25,f 26,f 27,f 28,f 29,f 30,f 31,f 32,f 33,f 34,f 35,f 36,f 37,f 38,f 39,f 40,f 41,f 42,f 43,f 44,f 45,f 46,f 47,f 48,f 49,f 50,f 51,f 52,f 53,f 54,f 55,f 56,f 57,f 58,f 59,f 60,f 61,f 62,f 63,f 64,f 65,f 66,f 67,f 68,f 69,f 70,f 71,f 72,f 73,f 74,f 75,f 76,f 77,f 78,f 79,f 80,f 81,f 82,f 83,f 84,f 85,f 86,f 87,f 88,f 89,f 90,f 91,f 92,f 93,f 94,f 95,f 96,f 97,f 98,f 99,f 100,f 101,f 102,f 103,f 104,f 105,f 106,f 107,f 108,f 109,f 110,f 111,f 112,f 113,f 114,f 115,f 116,f 117,f 118,f 119,f 120,f 121,f 122,f 123,f 124,f 125,f 126,f 127,f 128,f 129,f 130,f 131,f 132,f 133,f 134,f 135,f 136,f 137,f 138,f 139,f 140,f 141,f 142,f 143,f 144,f 145,f 146,f 147,f 148,f 149,f 150,f 151,f 152,f 153,f 154,f 155,f 156],[]⟩ w:=by
 have d1:IntKind.i64.wrap (nf+n)=nf+n:=by rw [IntKind.wrap_i64];omega
 simp only [Jhf,b13,fC,sC,Tryz.f13,Ja6];go_wp2
end
end Go.Sim.Z
namespace Go.Sim.Z
open Go Go.Proofs Go.RowKit
def atK (k:List Int) (E:List (List Int × Bun)):List Bun:=(E.filter fun e=>decide (e.1=k)).map (·.2)
theorem Jmv (k:List Int) (E E':List (List Int × Bun)):atK k (E++E')=atK k E++atK k E':=by simp [atK]
theorem J1a {c:J8} {k:List Int} {E:List (List Int × Bun)} (h:∀ e∈E,Jl c e.2):∀ b∈atK k E,Jl c b:=fun b hb=>by obtain ⟨e,he,rfl⟩:=Jb3.1 hb;exact h e (Jd5.1 he).1
theorem Sum.perm {c:J8} {f:List Int->Option Bun} {E E':List (List Int × Bun)} (h:Sum c f E) (hp:E.Perm E') (hok:∀ e∈E,Jl c e.2):Sum c f E':=fun k=>by rw [h k];exact Jfu ((hp.filter _).map _) (J1a hok)
theorem Jpq {α:Type} (l:List α) (j:Nat):l.take (4*(j+1))=l.take (4*j)++(l[4*j]?.toList++(l[4*j+1]?.toList++(l[4*j+2]?.toList++l[4*j+3]?.toList))):=by rw [show 4*(j+1)=4*j+1+1+1+1 by omega,List.take_add_one,List.take_add_one,List.take_add_one,List.take_add_one];simp only [List.append_assoc]
theorem mix4 {α:Type} (a b c d e f g h:List α):((a++e)++((b++f)++((c++g)++(d++h)))).Perm ((a++(b++(c++d)))++(e++(f++(g++h)))):=by
 have s:∀ (x y z t:List α),((x++y)++(z++t)).Perm ((x++z)++(y++t)):=fun x y z t=>by simp only [List.append_assoc];refine List.Perm.append_left x ?_;rw [<- List.append_assoc,<- List.append_assoc];exact List.Perm.append_right t List.perm_append_comm
 refine ((((s c g d h).append_left _).trans (s b f _ _)).append_left _).trans ?_;exact s a e _ _
theorem Jdj {ks:List Je}:∀ j,(J03 0 j ks++(J03 1 j ks++(J03 2 j ks++J03 3 j ks))).Perm (ks.take (4*j))
 | 0=>by simp [J03]
 | j+1=>by rw [J2t,J2t,J2t,J2t,Jpq];refine (mix4 _ _ _ _ _ _ _ _).trans ((Jdj j).append ?_);rw [show 0+4*j=4*j by omega,show 1+4*j=4*j+1 by omega,show 2+4*j=4*j+2 by omega,show 3+4*j=4*j+3 by omega]
theorem Jpr (ks:List Je):(J03 0 ks.length ks++(J03 1 ks.length ks++(J03 2 ks.length ks++J03 3 ks.length ks))).Perm ks:=by
 have:=Jdj (ks:=ks) ks.length
 rwa [List.take_of_length_le (by omega)] at this
theorem Jah {T:List TR} (hn:(T.map (·.k)).Nodup) (k:List Int):atK k (J19 T)=(tm T k).toList:=by
 induction T with
 | nil=>rfl
 | cons t T ih=>
  simp only [Jc4,List.nodup_cons] at hn;have h2:=ih hn.2;by_cases e:t.k=k
  ·subst e;have h3:tm T t.k=none:=by unfold tm;rw [Option.map_eq_none_iff,List.find?_eq_none];intro s hs;have:s.k≠t.k:=fun e=>hn.1 (Jb3.2 ⟨s,hs,e⟩);simpa using this
   rw [h3] at h2;unfold atK J19 at h2 ⊢;unfold tm;simp only [Jc4,List.filter_cons,decide_true,if_true,List.find?_cons,h2,Option.toList_none,Option.map_some,Option.toList_some]
  ·unfold atK J19 at h2 ⊢;unfold tm at h2 ⊢;simp only [Jc4,List.filter_cons,e,decide_false,List.find?_cons];exact h2
def J14 (S:List TR) (mk:Nat) (pass:List Int->Bool):List (List Int × Bun):=S.filterMap fun t=>if pass t.k then some (Jb mk t.k 5,t.B) else none
theorem Jps {S:List TR} {ks:List Je} (hn:(S.map (·.k)).Nodup) (h:keysOf (S.map TR.kv) ks) (mk:Nat) (pass:List Int->Bool):(ents S mk pass ks).Perm (J14 S mk pass):=by
 have hp:=h.keys;rw [Jfj] at hp;have e1:ents S mk pass ks=(ks.map (·.1)).filterMap fun k=>if pass k then (tm S k).map fun B=>(Jb mk k 5,B) else none:=by unfold ents;rw [List.filterMap_map];rfl
 have gen:∀ l:List TR,(∀ t∈l,t∈S)->J14 l mk pass=(l.map (·.k)).filterMap fun k=>if pass k then (tm S k).map fun B=>(Jb mk k 5,B) else none:=by
  intro l
  induction l with
  | nil=>exact fun _=>rfl
  | cons t l ih=>
   intro h;have:=ih fun s hs=>h s (by simp [hs]);unfold J14 at this ⊢;rw [Jc4,List.filterMap_cons,List.filterMap_cons,J58 hn (h t (by simp)),this];cases pass t.k<;>rfl
 rw [e1,gen S fun _ h=>h];exact hp.filterMap _
theorem Jsc {c:J8} {S:List TR} (h:∀ t∈S,Jl c t.B) {mk:Nat} {pass:List Int->Bool}:∀ e∈J14 S mk pass,Jl c e.2:=fun e he=>by
 unfold J14 at he;obtain ⟨t,ht,e1⟩:=List.mem_filterMap.1 he;split at e1
 ·cases e1;exact h t ht
 ·cases e1
theorem Sum.all {c:J8} {S:List TR} {mk:Nat} {pass:List Int->Bool} {ks:List Je} (hS:∀ t∈S,Jl c t.B) (hn:(S.map (·.k)).Nodup) (hks:keysOf (S.map TR.kv) ks) {f:List Int->Option Bun} {T1 T2 T3:List TR} {E0 EE:List (List Int × Bun)} (h0:E0=ents S mk pass (J03 0 ks.length ks))
  (n1:(T1.map (·.k)).Nodup) (n2:(T2.map (·.k)).Nodup) (n3:(T3.map (·.k)).Nodup) (k1:∀ t∈T1,Jl c t.B) (k2:∀ t∈T2,Jl c t.B) (k3:∀ t∈T3,Jl c t.B)
  (h1:Sum c (tm T1) (ents S mk pass (J03 1 ks.length ks))) (h2:Sum c (tm T2) (ents S mk pass (J03 2 ks.length ks))) (h3:Sum c (tm T3) (ents S mk pass (J03 3 ks.length ks)))
  (hEE:EE.Perm (J19 T1++J19 T2++J19 T3)) (hf:Sum c f (E0++EE)):Sum c f (J14 S mk pass):=by
 subst h0;have hp:(ents S mk pass (J03 0 ks.length ks)++(ents S mk pass (J03 1 ks.length ks)++(ents S mk pass (J03 2 ks.length ks)++ents S mk pass (J03 3 ks.length ks)))).Perm (J14 S mk pass):=by simp only [<- J7m];exact ((Jpr ks).filterMap _).trans (Jps hn hks mk pass)
 have hok:=Jsc (mk:=mk) (pass:=pass) hS;have ok:∀ e∈(ents S mk pass (J03 0 ks.length ks)++(ents S mk pass (J03 1 ks.length ks)++(ents S mk pass (J03 2 ks.length ks)++ents S mk pass (J03 3 ks.length ks)))),Jl c e.2:=fun e he=>hok e (hp.mem_iff.1 he);have okt:∀ {T:List TR},(∀ t∈T,Jl c t.B)->∀ e∈J19 T,Jl c e.2:=fun {T} h e he=>by obtain ⟨t,ht,rfl⟩:=Jb3.1 he;exact h t ht
 have q1:=okt k1;have q2:=okt k2;have q3:=okt k3;refine Sum.perm ?_ hp ok;have ok0:∀ e∈ents S mk pass (J03 0 ks.length ks),Jl c e.2:=fun e he=>ok e (by simp [he]);have ok1:∀ e∈ents S mk pass (J03 1 ks.length ks),Jl c e.2:=fun e he=>ok e (by simp [he]);have ok2:∀ e∈ents S mk pass (J03 2 ks.length ks),Jl c e.2:=fun e he=>ok e (by simp [he]);have ok3:∀ e∈ents S mk pass (J03 3 ks.length ks),Jl c e.2:=fun e he=>ok e (by simp [he]);have okE:∀ e∈EE,Jl c e.2:=fun e he=>by
  have:=hEE.mem_iff.1 he;simp only [Jc9] at this;rcases this with (h|h)|h
  ·exact q1 e h
  ·exact q2 e h
  ·exact q3 e h
 have hf2:Sum c f (ents S mk pass (J03 0 ks.length ks)++(J19 T1++(J19 T2++J19 T3))):=hf.perm (hEE.append_left _ |>.trans (by rw [List.append_assoc])) fun e he=>(Jc9.1 he).elim (ok0 e) (okE e);intro k;have e:=hf2 k;have s1:J1y c (atK k (J19 T1))=J1y c (atK k (ents S mk pass (J03 1 ks.length ks))):=by
  rw [Jah n1,<- show _=J1y c (atK k (ents S mk pass (J03 1 ks.length ks))) from h1 k];cases tm T1 k<;>rfl
 have s2:J1y c (atK k (J19 T2))=J1y c (atK k (ents S mk pass (J03 2 ks.length ks))):=by
  rw [Jah n2,<- show _=J1y c (atK k (ents S mk pass (J03 2 ks.length ks))) from h2 k];cases tm T2 k<;>rfl
 have s3:J1y c (atK k (J19 T3))=J1y c (atK k (ents S mk pass (J03 3 ks.length ks))):=by
  rw [Jah n3,<- show _=J1y c (atK k (ents S mk pass (J03 3 ks.length ks))) from h3 k];cases tm T3 k<;>rfl
 rw [e];show J1y c (atK k _)=J1y c (atK k _);have app:∀ {l l':List Bun},(∀ b∈l,Jl c b)->(∀ b∈l',Jl c b)->∀ b∈l++l',Jl c b:=fun h h' b hb=>(Jc9.1 hb).elim (h b) (h' b);simp only [Jmv];rw [J33 (J1a ok0) (app (J1a q1) (app (J1a q2) (J1a q3))),J33 (J1a q1) (app (J1a q2) (J1a q3)),J33 (J1a q2) (J1a q3),s1,s2,s3,
  J33 (J1a ok0) (app (J1a ok1) (app (J1a ok2) (J1a ok3))),J33 (J1a ok1) (app (J1a ok2) (J1a ok3)),J33 (J1a ok2) (J1a ok3)]
structure J3n (w:World) (c:J8) (m:Nat) (T:List TR):Prop where
 map:J09 w m (T.map TR.kv)
 bun:∀ t∈T,Jz false w c t.p t.B
 out:m∉tpl T
 dis:T.Pairwise fun s t=>∀ x∈s.p.pl,x∉t.p.pl
section
variable {w w' w2:World} {c:J8} {m:Nat} {T:List TR} {k:List Int}
theorem TabAt.toW (h:TabAt false w c m T):J3n w c m T:=⟨h.map,h.bun,h.out,h.dis⟩
theorem J3n.nodup (h:J3n w c m T):(T.map (·.k)).Nodup:=by
 have:=h.map.nodup
 rwa [List.map_map,show (fun p:List Int × Value=>p.1) ∘ TR.kv=TR.k from rfl] at this
theorem J3n.tab (h:J3n w c m T) (ho:∀ k B,tm T k=some B->Jl c B):TabAt false w c m T:=⟨h.map,h.bun,fun t ht=>ho t.k _ (J58 h.nodup ht),h.out,h.dis⟩
theorem J3n.kept (h:J3n w c m T) (hh:∀ x,x=m\/x∈tpl T->w'.heap[x]?=w.heap[x]?):J3n w' c m T:=
 ⟨h.map.kept (hh m (.inl rfl)),fun t ht=>(h.bun t ht).kept fun x hx=>hh x (.inr (Jm.2 ⟨t,ht,hx⟩)),h.out,h.dis⟩
theorem J3n.lt (h:J3n w c m T):∀ x,x=m\/x∈tpl T->x<w.heap.size:=fun x hx=>by
 rcases hx with rfl|hx
 ·exact h.map.lt
 ·obtain ⟨t,ht,hx⟩:=Jm.1 hx;exact (h.bun t ht).lt x hx
def Jmw (w:World) (c:J8) (m:Nat) (T:List TR) (k:List Int) (B:Bun) (w':World):Prop:=
 ∃ T',J3n w' c m T'/\(∀ k',tm T' k'=if k'=k then some B else tm T k')/\T'.length<=T.length+1/\(∀ x∈tpl T',x∈tpl T\/w.heap.size<=x)/\Tch w.heap.size (fun x=>x=m\/x∈tpl T) w w'
theorem J3n.there {T1 T2:List TR} {t:TR} {B:Bun} (h:J3n w c m (T1++t::T2)) (hk:∀ s∈T1,s.k≠t.k) (hp:J4w w c t.p B w'):Jmw w c m (T1++t::T2) t.k B w':=by
 obtain ⟨p',e1,h1,h2,h3⟩:=hp;have mt:t∈T1++t::T2:=by simp
 have hd:=h.dis;rw [List.pairwise_append,Jd4] at hd;have hother:∀ s,s∈T1\/s∈T2->(∀ x∈s.p.pl,x∉t.p.pl):=fun s hs x hx hx'=>by
  rcases hs with hs|hs
  ·exact hd.2.2 s hs t (by simp) x hx hx'
  ·exact hd.2.1.1 s hs x hx' hx
 have hsame:∀ x,x=m\/(∃ s,(s∈T1\/s∈T2)/\x∈s.p.pl)->w'.heap[x]?=w.heap[x]?:=fun x hx=>by
  refine h3.heap x ?_ ?_
  ·rcases hx with rfl|⟨s,hs,hx⟩
   ·exact h.map.lt
   ·exact (h.bun s (by rcases hs with hs|hs<;>simp [hs])).lt x hx
  ·rcases hx with rfl|⟨s,hs,hx⟩
   ·exact fun hx=>h.out (Jm.2 ⟨t,mt,hx⟩)
   ·exact hother s hs x hx
 have hfresh:∀ s,s∈T1\/s∈T2->∀ x∈s.p.pl,x∉p'.pl:=fun s hs x hx hx'=>by
  rcases h2 x hx' with h4|h4
  ·exact hother s hs x hx h4
  ·have:=(h.bun s (by rcases hs with hs|hs<;>simp [hs])).lt x hx;omega
 have hpl:∀ x,x∈tpl (T1++⟨t.k,p',B⟩::T2)->x∈tpl (T1++t::T2)\/w.heap.size<=x:=fun x hx=>by
  obtain ⟨s,hs,hx⟩:=Jm.1 hx;rcases Jc9.1 hs with hs|hs
  ·exact .inl (Jm.2 ⟨s,by simp [hs],hx⟩)
  ·rcases Jb8.1 hs with rfl|hs
   ·exact (h2 x hx).imp (fun hx=>Jm.2 ⟨t,mt,hx⟩) id
   ·exact .inl (Jm.2 ⟨s,by simp [hs],hx⟩)
 have hkv:(T1++⟨t.k,p',B⟩::T2).map TR.kv=(T1++t::T2).map TR.kv:=by simp only [List.map_append,Jc4,TR.kv,e1]
 refine ⟨T1++⟨t.k,p',B⟩::T2,⟨?_,fun s hs=>?_,fun hx=>?_,?_⟩,fun k'=>?_,by simp,hpl,h3.mono (Ja2 _) fun x _ hx=>.inr (Jm.2 ⟨t,mt,hx⟩)⟩
 ·rw [hkv];exact h.map.kept (hsame m (.inl rfl))
 ·rcases Jc9.1 hs with hs|hs
  ·exact (h.bun s (by simp [hs])).kept fun x hx=>hsame x (.inr ⟨s,.inl hs,hx⟩)
  ·rcases Jb8.1 hs with rfl|hs
   ·exact h1
   ·exact (h.bun s (by simp [hs])).kept fun x hx=>hsame x (.inr ⟨s,.inr hs,hx⟩)
 ·rcases hpl m hx with hx|hx
  ·exact h.out hx
  ·have:=h.map.lt;omega
 ·rw [List.pairwise_append,Jd4];refine ⟨hd.1,⟨fun s hs x hx hx'=>hfresh s (.inr hs) x hx' hx,hd.2.1.2⟩,fun s hs y hy x hx=>?_⟩;rcases Jb8.1 hy with rfl|hy
  ·exact hfresh s (.inl hs) x hx
  ·exact hd.2.2 s hs y (by simp [hy]) x hx
 ·rw [J6y (t:=⟨t.k,p',B⟩) hk,J6y hk];by_cases e:k'=t.k
  ·simp [e]
  ·simp [e]
theorem J3n.Jbv {p:BP} {B:Bun} {w1:World} (h:J3n w c m T) (hn:tm T k=none) (hp:Jz false w1 c p B) (hf:∀ x∈p.pl,w.heap.size<=x) (ht:Tch w.heap.size M0 w w1)
  (hm:J09 w' m (J5c k (.pointer (some ⟨p.b,0,none⟩)) (T.map TR.kv))) (hg:w1.grownBy w' (some m)):Jmw w c m T k B w':=by
 have hno:=(J4s hn).2;have hT:J5c k (.pointer (some ⟨p.b,0,none⟩)) (T.map TR.kv)=(⟨k,p,B⟩::T:List TR).map TR.kv:=by
  unfold J5c;rw [List.filter_eq_self.2]
  ·rfl
  ·intro q hq;obtain ⟨t,ht,rfl⟩:=Jb3.1 hq;have h9:decide (t.k=k)=false:=by simpa using hno t ht
   show (!decide (t.k=k))=true;rw [h9];rfl
 rw [hT] at hm;have hml:=h.map.lt;have hfm:m∉p.pl:=fun hx=>by have:=hf m hx;omega
 have g2:∀ x,x<w1.heap.size->x≠m->w'.heap[x]?=w1.heap[x]?:=fun x hx hne=>hg.block x hx fun e=>hne (Ja0 e);refine ⟨⟨k,p,B⟩::T,⟨hm,fun t hmem=>?_,fun hx=>?_,?_⟩,fun k'=>?_,by simp,fun x hx=>?_,⟨Jb6 ht.size hg.size,fun x hx hn=>?_,hg.tape.trans ht.tape,hg.os.trans ht.os,hg.output.trans ht.output⟩⟩
 ·rcases Jb8.1 hmem with rfl|hmem
  ·exact hp.kept fun x hx=>g2 x (hp.lt x hx) fun e=>hfm (e▸hx)
  ·refine (h.bun t hmem).kept fun x hx=>(g2 x ?_ fun e=>h.out (Jm.2 ⟨t,hmem,e▸hx⟩)).trans (ht.heap x ((h.bun t hmem).lt x hx) fun x=>x);have:=(h.bun t hmem).lt x hx;have:=ht.size;omega
 ·obtain ⟨t,hmem,hx⟩:=Jm.1 hx;rcases Jb8.1 hmem with rfl|hmem
  ·exact hfm hx
  ·exact h.out (Jm.2 ⟨t,hmem,hx⟩)
 ·refine Jd4.2 ⟨fun t hmem x hx hx'=>?_,h.dis⟩;have:=hf x hx;have:=(h.bun t hmem).lt x hx';omega
 ·have:=J6y (T1:=[]) (t:=⟨k,p,B⟩) (T2:=T) (by simp) k';rw [Jc8] at this;rw [this];show (if k'=k then some B else ((tm [] k').or (tm T k')))=_;simp [tm]
 ·obtain ⟨t,hmem,hx⟩:=Jm.1 hx;rcases Jb8.1 hmem with rfl|hmem
  ·exact .inr (hf x hx)
  ·exact .inl (Jm.2 ⟨t,hmem,hx⟩)
 ·have:=ht.size;exact (g2 x (by omega) fun e=>hn (.inl e)).trans (ht.heap x hx fun x=>x)
def J7q (c:J8) (bs:List Int) (hs:Int->Int) (mk:Nat) (g:List Int->Option Bun) (f:Jg):List Int->Option Bun:=fun k=>if k=Jb mk (Js f.k) 5 then some (J5g c bs ((g k).getD (J67 c)) (hs f.it) f.v) else g k
def J2y (c:J8) (bs:List Int) (hs:Int->Int) (mk:Nat) (g:List Int->Option Bun) (fs:List Jg):List Int->Option Bun:=fs.foldl (J7q c bs hs mk) g
theorem Jci {c:J8} {bs:List Int} {hs:Int->Int} {mk:Nat} (hc:Jw c) (hbs:bs.length=c.nb) (hh:∀ x,0<=hs x/\hs x<=18446744073709551615):∀ {fs:List Jg} {g:List Int->Option Bun},(∀ k B,g k=some B->Jl c B)->∀ k B,J2y c bs hs mk g fs k=some B->Jl c B
 | [],_,hg=>hg
 | f::fs,g,hg=>by
  refine Jci hc hbs hh (fs:=fs) (g:=J7q c bs hs mk g f) fun k B h=>?_;unfold J7q at h;split at h
  ·cases h;refine J5f.add ?_ hc hbs (hh _) _;cases hgk:g k with
   | none=>exact Jf4 hc
   | some B=>exact (hg k B hgk).zero
  ·exact hg k B h
theorem Jdk {c:J8} {bs:List Int} {hs:Int->Int} {mk:Nat} {g:List Int->Option Bun} {fs:List Jg} {f:Jg}:J2y c bs hs mk g (fs++[f])=J7q c bs hs mk (J2y c bs hs mk g fs) f:=by simp [J2y]
end
end Go.Sim.Z
