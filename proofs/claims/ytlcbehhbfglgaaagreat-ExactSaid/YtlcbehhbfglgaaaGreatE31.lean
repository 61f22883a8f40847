/- PROVED HERE: laws that the statement rests on (parts Za, Zb, Zc, Zd, Ze). Conditions: none. -/
import Derived.BigQuiet
import Derived.Deep.QuietTactic
import Derived.Test.YtlcbehhbfglgaaaGreatE00
import Derived.Test.YtlcbehhbfglgaaaGreatE07
import Derived.Test.YtlcbehhbfglgaaaGreatE30
set_option linter.all false
namespace Go.Sim.Z
open Go Go.Proofs Go.RowKit
theorem arrN {T:Array Value} {n:Nat} (h:T.size=n):T=((List.range n).map fun i=>T.getD i undef).toArray:=by
 apply Array.ext_getElem?
 intro i
 rcases Nat.lt_or_ge i n with hi|hi
 ·simp [hi,Array.getD_eq_getD_getElem?,show i<T.size by omega]
 ·rw [Array.getElem?_eq_none (by omega),Array.getElem?_eq_none (by simp;omega)]
theorem lit157 (f:Nat→Value):((List.range 157).map f).toArray=#[f 0,f 1,f 2,f 3,f 4,f 5,f 6,f 7,f 8,f 9,f 10,f 11,f 12,f 13,f 14,f 15,f 16,f 17,f 18,f 19,f 20,f 21,f 22,f 23,f 24,f 25,f 26,f 27,f 28,f 29,f 30,f 31,f 32,f 33,f 34,f 35,f 36,f 37,f 38,f 39,f 40,f 41,f 42,f 43,f 44,f 45,f 46,f 47,f 48,f 49,f 50,f 51,f 52,f 53,f 54,f 55,f 56,f 57,f 58,f 59,f 60,f 61,f 62,f 63,f 64,f 65,f 66,f 67,f 68,f 69,f 70,f 71,f 72,f 73,f 74,f 75,f 76,f 77,f 78,f 79,f 80,f 81,f 82,f 83,f 84,f 85,f 86,f 87,f 88,f 89,f 90,f 91,f 92,f 93,f 94,f 95,f 96,f 97,f 98,f 99,f 100,f 101,f 102,f 103,f 104,f 105,f 106,f 107,f 108,f 109,f 110,f 111,f 112,f 113,f 114,f 115,f 116,f 117,f 118,f 119,f 120,f 121,f 122,f 123,f 124,f 125,f 126,f 127,f 128,f 129,f 130,f 131,f 132,f 133,f 134,f 135,f 136,f 137,f 138,f 139,f 140,f 141,f 142,f 143,f 144,f 145,f 146,f 147,f 148,f 149,f 150,f 151,f 152,f 153,f 154,f 155,f 156]:=by rfl
theorem arr157 {T:Array Value} (h:T.size=157):∃ f:Nat→Value,T=#[f 0,f 1,f 2,f 3,f 4,f 5,f 6,f 7,f 8,f 9,f 10,f 11,f 12,f 13,f 14,f 15,f 16,f 17,f 18,f 19,f 20,f 21,f 22,f 23,f 24,f 25,f 26,f 27,f 28,f 29,f 30,f 31,f 32,f 33,f 34,f 35,f 36,f 37,f 38,f 39,f 40,f 41,f 42,f 43,f 44,f 45,f 46,f 47,f 48,f 49,f 50,f 51,f 52,f 53,f 54,f 55,f 56,f 57,f 58,f 59,f 60,f 61,f 62,f 63,f 64,f 65,f 66,f 67,f 68,f 69,f 70,f 71,f 72,f 73,f 74,f 75,f 76,f 77,f 78,f 79,f 80,f 81,f 82,f 83,f 84,f 85,f 86,f 87,f 88,f 89,f 90,f 91,f 92,f 93,f 94,f 95,f 96,f 97,f 98,f 99,f 100,f 101,f 102,f 103,f 104,f 105,f 106,f 107,f 108,f 109,f 110,f 111,f 112,f 113,f 114,f 115,f 116,f 117,f 118,f 119,f 120,f 121,f 122,f 123,f 124,f 125,f 126,f 127,f 128,f 129,f 130,f 131,f 132,f 133,f 134,f 135,f 136,f 137,f 138,f 139,f 140,f 141,f 142,f 143,f 144,f 145,f 146,f 147,f 148,f 149,f 150,f 151,f 152,f 153,f 154,f 155,f 156]:=⟨fun i=>T.getD i undef,(arrN h).trans (lit157 _)⟩
structure FactD where
 k:List Int
 it:Int
 v:Int
structure FAt (fr:Bool) (w:World) (g i:Nat) (f:FactD) (kb kc:Nat):Prop where
 ck:w.cell? ⟨g,i*3,none⟩=some (.slice (some ⟨kb,0,none⟩) f.k.length kc)
 ci:w.cell? ⟨g,i*3+1,none⟩=some (.int .i64 f.it)
 cv:w.cell? ⟨g,i*3+2,none⟩=some (.int .i64 f.v)
 row:Row fr w kb 3 .i64 f.k kc
structure FsAt (fr:Bool) (w:World) (ga:Option Addr) (fs:List FactD) (cap:Nat) (pl:List Nat):Prop where
 lt:∀ x∈pl,x<w.heap.size
 at_:∀ i f,fs[i]?=some f→∃ g kb kc,ga=some ⟨g,0,none⟩∧g∈pl∧kb∈pl∧FAt fr w g i f kb kc
 cap:fs.length≤cap
theorem FsAt.kept {fr:Bool} {w w':World} {ga:Option Addr} {fs:List FactD} {cap:Nat} {pl:List Nat} (h:FsAt fr w ga fs cap pl) (hh:∀ x∈pl,w'.heap[x]?=w.heap[x]?):FsAt fr w' ga fs cap pl:=by
 refine ⟨fun x hx=>?_,fun i f hf=>?_,h.cap⟩
 ·have h1:=hh x hx
  have h2:=h.lt x hx
  rw [Array.getElem?_eq_getElem h2] at h1
  exact lt_of h1
 ·obtain ⟨g,kb,kc,h1,h2,h3,h4⟩:=h.at_ i f hf
  have e:∀ k,w'.cell? ⟨g,k,none⟩=w.cell? ⟨g,k,none⟩:=fun k=>World.cell?_of_block (hh g h2)
  exact ⟨g,kb,kc,h1,h2,h3,(e _).trans h4.ck,(e _).trans h4.ci,(e _).trans h4.cv,h4.row.kept (hh kb h3)⟩
structure FactOk (f:FactD):Prop where
 n:f.k.length=3
 k:∀ x∈f.k,0≤x∧x≤99
 it:I64 f.it
 v:I64 f.v
noncomputable def b13:Code:=Tryz.f13.body.getD .skip
def fC:Code→Code | .seq a _=>a|c=>c
def sC:Code→Code | .seq _ b=>b|c=>c
noncomputable def p13_1:Code:=fC (sC b13)
noncomputable def p13_2:Code:=fC (sC (sC b13))
noncomputable def p13_3:Code:=fC (sC (sC (sC b13)))
noncomputable def p13_4:Code:=fC (sC (sC (sC (sC b13))))
noncomputable def p13_5:Code:=fC (sC (sC (sC (sC (sC b13)))))
noncomputable def p13_6:Code:=fC (sC (sC (sC (sC (sC (sC b13))))))
noncomputable def p13_7:Code:=fC (sC (sC (sC (sC (sC (sC (sC b13)))))))
noncomputable def p13_8:Code:=fC (sC (sC (sC (sC (sC (sC (sC (sC b13))))))))
noncomputable def p13_9:Code:=sC (sC (sC (sC (sC (sC (sC (sC (sC b13))))))))
theorem b13_eq:b13=.seq (fC b13) (.seq p13_1 (.seq p13_2 (.seq p13_3 (.seq p13_4 (.seq p13_5 (.seq p13_6 (.seq p13_7 (.seq p13_8 p13_9)))))))):=by kernel_rfl
theorem key_calls (x:Int) (w:World):Calls Tryz.prog 21 #[.int .i64 x] w fun e w'=>e=.returned (.bool (decide (x<0∨99<x)))∧w'=w:=by
 go_enter Tryz.func21,Tryz.ntmps21
 by_cases h:x<0
 ·go_wp2
  go_ret
  simp [h]
 ·by_cases h2:99<x
  ·go_wp2
   go_ret
   simp [h2]
  ·go_wp2
   go_ret
   simp [h,h2]
theorem keys_fine {fr:Bool} {w:World} {kb kc:Nat} {ks:List Int} (h:Row fr w kb 3 .i64 ks kc) (hk:∀ x∈ks,0≤x∧x≤99) (hn:ks.length≤1000) :
  Calls Tryz.prog 20 #[.slice (some ⟨kb,0,none⟩) ks.length kc,.func (.func 21) #[] #[]] w fun e w'=>e=.returned (.bool false)∧∃ q,w'=w.drewN q:=by
 refine (Tryz.slices_ContainsFunc (Value.int .i64) (fun x=>decide (x<0∨99<x)) 21 #[] (enters_of Tryz.func21 (by kernel_rfl) rfl) kb 0 ks.length kc ks w (fun W x _=>(key_calls x W).mono fun e w' ⟨h1,h2⟩=>⟨h1,0,h2⟩) (Nat.le_refl _) (by omega) (fun j hj=>?_)).mono fun e w' ⟨h1,h2⟩=>⟨?_,h2⟩
 ·rw [Nat.zero_add,h.cell hj]
  simp [List.getD_eq_getElem?_getD,List.getElem!_eq_getElem?_getD,hj]
 ·rw [h1,List.take_of_length_le (Nat.le_refl _)]
  have:ks.any (fun x=>decide (x<0∨99<x))=false:=by
   rw [List.any_eq_false]
   intro x hx
   have:=hk x hx
   simp;omega
  rw [this]
section
variable {w:World} {x:Nat} {ga:Option Addr} {fs:List FactD} {cap:Nat} {pl:List Nat} {f:Nat→Value}
set_option maxRecDepth 100000 in
set_option maxHeartbeats 4000000 in
theorem p13_1_wp (hx:w.cell? ⟨x,0,none⟩=some (.int .i64 3)) (hf:FsAt false w ga fs cap pl) (hok:∀ g∈fs,FactOk g) (hn:fs.length≤1000) :
  p13_1.wp Tryz.prog (fun e a w'=>e=.normal∧a.defers=[]∧a.tmps.size=157∧a.tmps[0]?=some (.pointer (some ⟨x,0,none⟩))∧a.tmps[1]?=some (.slice ga fs.length cap)∧a.tmps[4]?=some .nilIface∧Tch w.heap.size M0 w w') ⟨#[.pointer (some ⟨x,0,none⟩),.slice ga fs.length cap,f 2,f 3,.nilIface,f 5,f 6,f 7,f 8,f 9,f 10,f 11,f 12,f 13,f 14,f 15,f 16,f 17,f 18,f 19,f 20,f 21,f 22,f 23,f 24,f 25,f 26,f 27,f 28,f 29,f 30,f 31,f 32,f 33,f 34,f 35,f 36,f 37,f 38,f 39,f 40,f 41,f 42,f 43,f 44,f 45,f 46,f 47,f 48,f 49,f 50,f 51,f 52,f 53,f 54,f 55,f 56,f 57,f 58,f 59,f 60,f 61,f 62,f 63,f 64,f 65,f 66,f 67,f 68,f 69,f 70,f 71,f 72,f 73,f 74,f 75,f 76,f 77,f 78,f 79,f 80,f 81,f 82,f 83,f 84,f 85,f 86,f 87,f 88,f 89,f 90,f 91,f 92,f 93,f 94,f 95,f 96,f 97,f 98,f 99,f 100,f 101,f 102,f 103,f 104,f 105,f 106,f 107,f 108,f 109,f 110,f 111,f 112,f 113,f 114,f 115,f 116,f 117,f 118,f 119,f 120,f 121,f 122,f 123,f 124,f 125,f 126,f 127,f 128,f 129,f 130,f 131,f 132,f 133,f 134,f 135,f 136,f 137,f 138,f 139,f 140,f 141,f 142,f 143,f 144,f 145,f 146,f 147,f 148,f 149,f 150,f 151,f 152,f 153,f 154,f 155,f 156],[]⟩ w:=by
 have hxl:x<w.heap.size:=cell_lt hx
 have hat:∀ i f,fs[i]?=some f→∀ w1,Tch w.heap.size M0 w w1→∃ g kb kc,ga=some ⟨g,0,none⟩∧FAt false w1 g i f kb kc:=fun i f h w1 ht=>by
  have hf1:=hf.kept (w':=w1) fun y hy=>ht.heap y (hf.lt y hy) fun h=>h
  obtain ⟨g,kb,kc,h1,_,_,h2⟩:=hf1.at_ i f h
  exact ⟨g,kb,kc,h1,h2⟩
 have hxk:∀ w1,Tch w.heap.size M0 w w1→w1.cell? ⟨x,0,none⟩=some (.int .i64 3):=fun w1 ht=>(ht.cell hxl fun h=>h).trans hx
 clear hf hx
 simp only [p13_1,b13,fC,sC,Tryz.f13,Option.getD_some]
 generalize hN:fs.length=n at *
 go_wp2
 go_loopw [4,22] (fun u i wr=>∃ k:Nat,u=.nilIface∧k≤n∧i=.int .i64 k∧Tch w.heap.size M0 w wr) (fun _ i _=>n-(RowKit.intOf i).toNat)
 case atStart=>exact ⟨0,rfl,by omega,rfl,.refl⟩
 case round=>
  obtain ⟨k,rfl,hk,rfl,ht⟩:=hrel
  rcases Nat.lt_or_ge k n with hlt|hge
  ·have hlt':(k:Int)<n:=by omega
   obtain ⟨fd,hfd⟩:∃ fd,fs[k]?=some fd:=⟨fs[k]'(by omega),List.getElem?_eq_getElem _⟩
   obtain ⟨g,kb,kc,rfl,hF⟩:=hat k fd hfd wr ht
   have hfo:=hok fd (List.mem_of_getElem? hfd)
   have c0:=hF.ck
   have c1:=hF.ci
   have c2:=hF.cv
   have hcall:=fun w1 (t:Tch wr.heap.size M0 wr w1)=>keys_fine (hF.row.tch t hF.row.lt fun h=>h) hfo.k (by rw [hfo.n];omega)
   rw [hfo.n] at c0 hcall
   have hx1:=hxk _ (ht.then (Tch.refl.alloc (Nat.le_refl _) (.cells #[.slice (some ⟨kb,0,none⟩) 3 kc,.int .i64 fd.it,.int .i64 fd.v] 47)) ht.size fun _ _ h=>h)
   clear hF hat hxk hfd hok
   go_wp2
   obtain ⟨W1,hW1⟩:∃ W1,wr.alloc (.cells #[.slice (some ⟨kb,0,none⟩) 3 kc,.int .i64 fd.it,.int .i64 fd.v] 47)=W1:=⟨_,rfl⟩
   have t1:Tch wr.heap.size M0 wr W1:=by rw [← hW1];exact Tch.refl.alloc (Nat.le_refl _) _
   have hb1:W1.heap[wr.heap.size]?=some (.cells #[.slice (some ⟨kb,0,none⟩) 3 kc,.int .i64 fd.it,.int .i64 fd.v] 47):=by rw [← hW1];exact heap_new _
   rw [hW1] at hx1 ⊢
   have b0:=(cell_of hb1 0).trans rfl
   have hq:∀ m,Calls Tryz.prog 20 #[.slice (some ⟨kb,0,none⟩) 3 kc,.func (.func 21) #[] #[]] (W1.drewN m) fun e w'=>e=.returned (.bool false)∧∃ q,w'=(W1.drewN m).drewN q:=fun m=>hcall _ ⟨t1.size,t1.heap,t1.tape,t1.os,t1.output⟩
   clear hW1 hcall hb1 c0 c1 c2
   go_quiet ((go_at_call 20;exact Calls.quiet_of (hq _)))
   go_wp2
   exact ⟨⟨k+1,rfl,by omega,by go_num,ht.then ⟨t1.size,t1.heap,t1.tape,t1.os,t1.output⟩ ht.size fun _ _ h=>h⟩,by simp [RowKit.intOf];omega⟩
  ·have hge':¬ ((k:Int)<n):=by omega
   clear hat hxk
   go_wp2
end
end Go.Sim.Z
namespace Go.Sim.Z
open Go Go.Proofs Go.RowKit Go.Maps
theorem CMap.update72 {w:World} {b:Nat} {L:List (List Int × Value)} (h:CMap w b L) (hn:L.length<maxLen) {k:List Int} (hk:KeyOk k) (v:Value) :
  ∃ w',(Instr.mapUpdate 72 (.map (some b)) (.agg (ai .i64 k)) v).run Tryz.prog w=.ok () w'∧CMap w' b (putL k v L)∧w.grownBy w' (some b):=by
 obtain ⟨L',h1,n,h2⟩:=h.own
 have hlen:(L'.map encE).length<maxLen:=by simpa [h1.length_eq] using hn
 obtain ⟨w',hrun,h3,h4⟩:=(own_len h2).update keyed76 Tryz.underlying72 hlen (keyOf76 hk) (val:=v) (d:=.held v) (ps:=[]) rfl
 refine ⟨w',hrun,⟨fun p hp=>?_,?_,?_⟩,h4⟩
 ·rcases List.mem_cons.1 hp with rfl|hp
  ·exact hk
  ·exact h.keys p (List.mem_filter.1 hp).1
 ·simp only [putL,List.map_cons,List.nodup_cons]
  constructor
  ·intro hm
   obtain ⟨p,hp,e⟩:=List.mem_map.1 hm
   have:=(List.mem_filter.1 hp).2
   simp [e] at this
  ·exact (List.Sublist.map _ (List.filter_sublist)).nodup h.nodup
 ·have e:(DataW.map (L'.map encE)).put (klit k) (.held v)=.map (DataW.insert (encE (k,v)) ((L'.filter fun p=>!decide (p.1=k)).map encE)):=by
   have ef:(L'.map encE).filter (fun p=>!p.1.sameKey (klit k))=(L'.filter fun p=>!decide (p.1=k)).map encE:=by
    rw [List.filter_map]
    refine congrArg (List.map encE) (List.filter_congr fun p hp=>?_)
    simp only [Function.comp]
    rw [show (encE p).1.sameKey (klit k)=decide (p.1=k) from klit_ne (h.keys p (h1.mem_iff.1 hp)) hk]
   show DataW.map (DataW.insert _ ((L'.map encE).filter (fun p=>!p.1.sameKey (klit k))))=_
   rw [ef]
   rfl
  rw [e] at h3
  obtain ⟨L2,e2,hp2⟩:=insert_enc (k,v) (L'.filter fun p=>!decide (p.1=k))
  rw [← e2] at h3
  exact ⟨L2,hp2.trans ((h1.filter _).cons _),_,h3⟩
structure NewsAt (w:World) (nb:Nat) (T:List TR) (U:List (List Int)) (L:List (List Int × Value)):Prop where
 map:CMap w nb L
 new:∀ p∈L,p.1∈U∧tm T p.1=none
theorem nodup_le:∀ {V U:List (List Int)},V.Nodup→(∀ x∈V,x∈U)→V.length≤U.length
 | [],_,_,_=>Nat.zero_le _
 | a::V,U,hV,hs=>by
  have h1:=List.nodup_cons.1 hV
  have ha:=hs a (by simp)
  have:=nodup_le (U:=U.erase a) h1.2 fun x hx=>(List.mem_erase_of_ne fun e=>h1.1 (by rw [← e];exact hx)).2 (hs x (by simp [hx]))
  rw [List.length_erase_of_mem ha] at this
  have:0<U.length:=List.length_pos_of_mem ha
  simp only [List.length_cons];omega
theorem NewsAt.le {fr:Bool} {w w':World} {c:CfgD} {nb m:Nat} {T:List TR} {U:List (List Int)} {L:List (List Int × Value)} (h:NewsAt w nb T U L) (hT:TabAt fr w' c m T) (hU:∀ t∈T,t.k∈U):T.length+L.length≤U.length:=by
 have:(T.map (·.k)++L.map (·.1)).Nodup:=by
  refine List.nodup_append.2 ⟨hT.nodup,h.map.nodup,fun a ha b hb e=>?_⟩
  subst e
  obtain ⟨t,ht,rfl⟩:=List.mem_map.1 ha
  obtain ⟨p,hp,e⟩:=List.mem_map.1 hb
  have:=(h.new p hp).2
  rw [e] at this
  exact (look_none this).2 t ht rfl
 have h2:=nodup_le (U:=U) this fun x hx=>by
  rcases List.mem_append.1 hx with hx|hx
  ·obtain ⟨t,ht,rfl⟩:=List.mem_map.1 hx
   exact hU t ht
  ·obtain ⟨p,hp,rfl⟩:=List.mem_map.1 hx
   exact (h.new p hp).1
 simpa using h2
theorem NewsAt.put {w w':World} {nb:Nat} {T:List TR} {U:List (List Int)} {L:List (List Int × Value)} {k:List Int} {v:Value} (h:NewsAt w nb T U L) (hm:CMap w' nb (putL k v L)) (hk:k∈U) (hT:tm T k=none):NewsAt w' nb T U (putL k v L):=
 ⟨hm,fun p hp=>by
  rcases List.mem_cons.1 hp with rfl|hp
  ·exact ⟨hk,hT⟩
  ·exact h.new p (List.mem_filter.1 hp).1⟩
theorem NewsAt.kept {w w':World} {nb:Nat} {T:List TR} {U:List (List Int)} {L:List (List Int × Value)} (h:NewsAt w nb T U L) (hb:w'.heap[nb]?=w.heap[nb]?):NewsAt w' nb T U L:=⟨h.map.kept hb,h.new⟩
def hashN (hs:Int→Int) (fs:List FactD) (k:Nat):List Int:=(fs.take k).map (fun f=>hs f.it)++List.replicate (fs.length-k) 0
theorem hashN_length {hs:Int→Int} {fs:List FactD} {k:Nat}:(hashN hs fs k).length=fs.length:=by simp [hashN];omega
theorem hashN_succ {hs:Int→Int} {fs:List FactD} {k:Nat} {f:FactD} (h:fs[k]?=some f):hashN hs fs (k+1)=(hashN hs fs k).set k (hs f.it):=by
 obtain ⟨hk,e⟩:=List.getElem?_eq_some_iff.1 h
 unfold hashN
 have hl:((fs.take k).map fun f=>hs f.it).length=k:=by simp;omega
 rw [List.take_add_one,h,List.map_append,show fs.length-k=(fs.length-(k+1))+1 by omega,List.replicate_succ]
 rw [List.set_append_right _ _ (by omega),hl]
 simp
section
variable {w:World} {x:Nat} {ga:Option Addr} {fs:List FactD} {cap:Nat} {pl hpl:List Nat} {f:Nat→Value} {c:CfgD} {T:List TR} {U:List (List Int)} {base vm hb nb N0 n:Nat} {seed nf:Int} {h:Value} {hs:Int→Int}
set_option maxRecDepth 100000 in
theorem p13_2_wp (hn:n≤1000):p13_2.wp Tryz.prog (fun e a w'=>e=.normal∧a.defers=[]∧a.tmps.size=157∧a.tmps[0]?=some (.pointer (some ⟨x,0,none⟩))∧a.tmps[1]?=some (.slice ga n cap)∧a.tmps[4]?=some .nilIface∧a.tmps[7]?=some (.slice (some ⟨w.heap.size,0,none⟩) n n)∧w'=w.alloc (.cells (Array.replicate n (.int .u64 0)) 45)) ⟨#[.pointer (some ⟨x,0,none⟩),.slice ga n cap,f 2,f 3,.nilIface,f 5,f 6,f 7,f 8,f 9,f 10,f 11,f 12,f 13,f 14,f 15,f 16,f 17,f 18,f 19,f 20,f 21,f 22,f 23,f 24,f 25,f 26,f 27,f 28,f 29,f 30,f 31,f 32,f 33,f 34,f 35,f 36,f 37,f 38,f 39,f 40,f 41,f 42,f 43,f 44,f 45,f 46,f 47,f 48,f 49,f 50,f 51,f 52,f 53,f 54,f 55,f 56,f 57,f 58,f 59,f 60,f 61,f 62,f 63,f 64,f 65,f 66,f 67,f 68,f 69,f 70,f 71,f 72,f 73,f 74,f 75,f 76,f 77,f 78,f 79,f 80,f 81,f 82,f 83,f 84,f 85,f 86,f 87,f 88,f 89,f 90,f 91,f 92,f 93,f 94,f 95,f 96,f 97,f 98,f 99,f 100,f 101,f 102,f 103,f 104,f 105,f 106,f 107,f 108,f 109,f 110,f 111,f 112,f 113,f 114,f 115,f 116,f 117,f 118,f 119,f 120,f 121,f 122,f 123,f 124,f 125,f 126,f 127,f 128,f 129,f 130,f 131,f 132,f 133,f 134,f 135,f 136,f 137,f 138,f 139,f 140,f 141,f 142,f 143,f 144,f 145,f 146,f 147,f 148,f 149,f 150,f 151,f 152,f 153,f 154,f 155,f 156],[]⟩ w:=by
 have hm1:=mkRow 37 45 .u64 8 Tryz.underlying37 info45 (by omega) n (by omega)
 simp only [p13_2,b13,fC,sC,Tryz.f13,Option.getD_some]
 go_wp2
set_option maxRecDepth 100000 in
theorem p13_3_wp (q:CubeAt w x c seed h nf vm base):p13_3.wp Tryz.prog (fun e a w'=>e=.normal∧a.defers=[]∧a.tmps.size=157∧a.tmps[0]?=some (.pointer (some ⟨x,0,none⟩))∧a.tmps[1]?=some (.slice ga n cap)∧a.tmps[4]?=some .nilIface∧a.tmps[7]?=some (.slice (some ⟨hb,0,none⟩) n n)∧a.tmps[8]?=some (.map (some base))∧Tch w.heap.size M0 w w'∧w'.heap=w.heap) ⟨#[.pointer (some ⟨x,0,none⟩),.slice ga n cap,f 2,f 3,.nilIface,f 5,f 6,.slice (some ⟨hb,0,none⟩) n n,f 8,f 9,f 10,f 11,f 12,f 13,f 14,f 15,f 16,f 17,f 18,f 19,f 20,f 21,f 22,f 23,f 24,f 25,f 26,f 27,f 28,f 29,f 30,f 31,f 32,f 33,f 34,f 35,f 36,f 37,f 38,f 39,f 40,f 41,f 42,f 43,f 44,f 45,f 46,f 47,f 48,f 49,f 50,f 51,f 52,f 53,f 54,f 55,f 56,f 57,f 58,f 59,f 60,f 61,f 62,f 63,f 64,f 65,f 66,f 67,f 68,f 69,f 70,f 71,f 72,f 73,f 74,f 75,f 76,f 77,f 78,f 79,f 80,f 81,f 82,f 83,f 84,f 85,f 86,f 87,f 88,f 89,f 90,f 91,f 92,f 93,f 94,f 95,f 96,f 97,f 98,f 99,f 100,f 101,f 102,f 103,f 104,f 105,f 106,f 107,f 108,f 109,f 110,f 111,f 112,f 113,f 114,f 115,f 116,f 117,f 118,f 119,f 120,f 121,f 122,f 123,f 124,f 125,f 126,f 127,f 128,f 129,f 130,f 131,f 132,f 133,f 134,f 135,f 136,f 137,f 138,f 139,f 140,f 141,f 142,f 143,f 144,f 145,f 146,f 147,f 148,f 149,f 150,f 151,f 152,f 153,f 154,f 155,f 156],[]⟩ w:=by
 have c7:=q.cells.2.2.2.2.2.2.2
 have hl:=fun m=>VMap.lookup (w:=w.drewN m) (q.vs.kept rfl)
 have hb:∀ m,Calls Tryz.prog 23 #[.pointer (some ⟨x,0,none⟩)] (w.drewN m) fun e w'=>e=.returned (.int .i64 7)∧w'=w.drewN m:=fun m=>base_calls q.cells.1
 simp only [p13_3,b13,fC,sC,Tryz.f13,Option.getD_some]
 go_wp2_with fail
 go_quiet ((go_at_call 23;exact Calls.quiet_of_same (hb _)))
 go_wp2
 exact ⟨Nat.le_refl _,fun _ _ _=>rfl,rfl,rfl,rfl⟩
set_option maxRecDepth 100000 in
theorem p13_4_wp:p13_4.wp Tryz.prog (fun e a w'=>e=.normal∧a.defers=[]∧a.tmps.size=157∧a.tmps[0]?=some (.pointer (some ⟨x,0,none⟩))∧a.tmps[1]?=some (.slice ga n cap)∧a.tmps[4]?=some .nilIface∧a.tmps[7]?=some (.slice (some ⟨hb,0,none⟩) n n)∧a.tmps[8]?=some (.map (some base))∧a.tmps[9]?=some (.map (some w.heap.size))∧w'=w.alloc (.map #[] 0)) ⟨#[.pointer (some ⟨x,0,none⟩),.slice ga n cap,f 2,f 3,.nilIface,f 5,f 6,.slice (some ⟨hb,0,none⟩) n n,.map (some base),f 9,f 10,f 11,f 12,f 13,f 14,f 15,f 16,f 17,f 18,f 19,f 20,f 21,f 22,f 23,f 24,f 25,f 26,f 27,f 28,f 29,f 30,f 31,f 32,f 33,f 34,f 35,f 36,f 37,f 38,f 39,f 40,f 41,f 42,f 43,f 44,f 45,f 46,f 47,f 48,f 49,f 50,f 51,f 52,f 53,f 54,f 55,f 56,f 57,f 58,f 59,f 60,f 61,f 62,f 63,f 64,f 65,f 66,f 67,f 68,f 69,f 70,f 71,f 72,f 73,f 74,f 75,f 76,f 77,f 78,f 79,f 80,f 81,f 82,f 83,f 84,f 85,f 86,f 87,f 88,f 89,f 90,f 91,f 92,f 93,f 94,f 95,f 96,f 97,f 98,f 99,f 100,f 101,f 102,f 103,f 104,f 105,f 106,f 107,f 108,f 109,f 110,f 111,f 112,f 113,f 114,f 115,f 116,f 117,f 118,f 119,f 120,f 121,f 122,f 123,f 124,f 125,f 126,f 127,f 128,f 129,f 130,f 131,f 132,f 133,f 134,f 135,f 136,f 137,f 138,f 139,f 140,f 141,f 142,f 143,f 144,f 145,f 146,f 147,f 148,f 149,f 150,f 151,f 152,f 153,f 154,f 155,f 156],[]⟩ w:=by
 have hmm:∀ (t:TypeId) w,(Instr.makeMap t none).run Tryz.prog w=.ok (.map (some w.heap.size)) (w.alloc (.map #[] 0)):=fun _ _=>rfl
 simp only [p13_4,b13,fC,sC,Tryz.f13,Option.getD_some]
 go_wp2
end
theorem padK_ok {f:FactD} (h:FactOk f):KeyOk (padK f.k):=by
 refine ⟨padK_length (by rw [h.n];omega),fun x hx=>?_⟩
 have:0≤x∧x≤99:=by
  rcases List.mem_append.1 hx with hx|hx
  ·exact h.k x hx
  ·have:=List.eq_of_mem_replicate hx;omega
 have e1:IntKind.i64.min=-9223372036854775808:=by decide
 have e2:IntKind.i64.max=9223372036854775807:=by decide
 simp [Lit.wf,e1,e2];omega
section
variable {w:World} {x:Nat} {ga:Option Addr} {fs:List FactD} {cap n:Nat} {pl hpl:List Nat} {f:Nat→Value} {c:CfgD} {T:List TR} {U:List (List Int)} {base vm hb nb N0:Nat} {hs:Int→Int}
set_option maxRecDepth 100000 in
set_option maxHeartbeats 8000000 in
theorem p13_5_wp (hn:fs.length=n) (hn2:n≤1000) (hN:N0≤w.heap.size) (hone:∀ w1,Tch N0 M0 w w1→∀ item at_,Calls Tryz.prog 24 #[.pointer (some ⟨x,0,none⟩),.int .i64 item,.int .i64 at_] w1 fun e w2=>e=.returned (.tuple #[.int .u64 (hs item),.nilIface])∧Tch w1.heap.size M0 w1 w2)
  (hfl:∀ y∈pl,y<N0) (hf:∀ w1,Tch N0 M0 w w1→FsAt false w1 ga fs cap pl) (hok:∀ g∈fs,FactOk g) (hT:∀ w1,Tch N0 M0 w w1→TabAt false w1 c base T) (hU:∀ g∈fs,padK g.k∈U) (hUn:U.length≤1000)
  (hhb:N0≤hb) (hnb:N0≤nb) (hne:hb≠nb) (hr0:Row false w hb 45 .u64 (hashN hs fs 0) n) (hL0:NewsAt w nb T U []) (hTU:∀ t∈T,t.k∈U) :
  p13_5.wp Tryz.prog (fun e a w'=>e=.normal∧a.defers=[]∧a.tmps.size=157∧a.tmps[0]?=some (.pointer (some ⟨x,0,none⟩))∧a.tmps[1]?=some (.slice ga n cap)∧a.tmps[4]?=some .nilIface∧a.tmps[7]?=some (.slice (some ⟨hb,0,none⟩) n n)∧a.tmps[8]?=some (.map (some base))∧a.tmps[9]?=some (.map (some nb)) ∧
   Row false w' hb 45 .u64 (hashN hs fs n) n∧(∃ L,NewsAt w' nb T U L)∧Tch N0 M0 w w') ⟨#[.pointer (some ⟨x,0,none⟩),.slice ga n cap,f 2,f 3,.nilIface,f 5,f 6,.slice (some ⟨hb,0,none⟩) n n,.map (some base),.map (some nb),f 10,f 11,f 12,f 13,f 14,f 15,f 16,f 17,f 18,f 19,f 20,f 21,f 22,f 23,f 24,f 25,f 26,f 27,f 28,f 29,f 30,f 31,f 32,f 33,f 34,f 35,f 36,f 37,f 38,f 39,f 40,f 41,f 42,f 43,f 44,f 45,f 46,f 47,f 48,f 49,f 50,f 51,f 52,f 53,f 54,f 55,f 56,f 57,f 58,f 59,f 60,f 61,f 62,f 63,f 64,f 65,f 66,f 67,f 68,f 69,f 70,f 71,f 72,f 73,f 74,f 75,f 76,f 77,f 78,f 79,f 80,f 81,f 82,f 83,f 84,f 85,f 86,f 87,f 88,f 89,f 90,f 91,f 92,f 93,f 94,f 95,f 96,f 97,f 98,f 99,f 100,f 101,f 102,f 103,f 104,f 105,f 106,f 107,f 108,f 109,f 110,f 111,f 112,f 113,f 114,f 115,f 116,f 117,f 118,f 119,f 120,f 121,f 122,f 123,f 124,f 125,f 126,f 127,f 128,f 129,f 130,f 131,f 132,f 133,f 134,f 135,f 136,f 137,f 138,f 139,f 140,f 141,f 142,f 143,f 144,f 145,f 146,f 147,f 148,f 149,f 150,f 151,f 152,f 153,f 154,f 155,f 156],[]⟩ w:=by
 simp only [p13_5,b13,fC,sC,Tryz.f13,Option.getD_some]
 go_wp2
 go_loopw [4,57] (fun u i wr=>∃ k:Nat,u=.nilIface∧k≤n∧i=.int .i64 k∧Row false wr hb 45 .u64 (hashN hs fs k) n∧(∃ L,NewsAt wr nb T U L)∧Tch N0 M0 w wr) (fun _ i _=>n-(RowKit.intOf i).toNat)
 case atStart=>exact ⟨0,rfl,by omega,rfl,hr0,⟨[],hL0⟩,.refl⟩
 case round=>
  obtain ⟨k,rfl,hk,rfl,hr,⟨L,hL⟩,ht⟩:=hrel
  rcases Nat.lt_or_ge k n with hlt|hge
  ·have hlt':(k:Int)<n:=by omega
   obtain ⟨fd,hfd⟩:∃ fd,fs[k]?=some fd:=⟨fs[k]'(by omega),List.getElem?_eq_getElem _⟩
   have hfo:=hok fd (List.mem_of_getElem? hfd)
   have hkU:=hU fd (List.mem_of_getElem? hfd)
   have hKey:=padK_ok hfo
   have hF0:∀ kb kc,Row false wr kb 3 .i64 fd.k kc→∀ w1,Tch N0 M0 w w1→kb<N0→Row false w1 kb 3 .i64 fd.k kc:=fun kb kc h w1 t hl=>h.kept ((t.heap kb hl fun h=>h).trans (ht.heap kb hl fun h=>h).symm)
   obtain ⟨g,kb,kc,rfl,hgp,hkp,hF⟩:=(hf wr ht).at_ k fd hfd
   have c0:=hF.ck
   have c1:=hF.ci
   have c2:=hF.cv
   rw [hfo.n] at c0
   have hs1:N0≤wr.heap.size:=Nat.le_trans hN ht.size
   obtain ⟨W1,hW1⟩:∃ W1,wr.alloc (.cells #[.slice (some ⟨kb,0,none⟩) 3 kc,.int .i64 fd.it,.int .i64 fd.v] 47)=W1:=⟨_,rfl⟩
   have t1:Tch wr.heap.size M0 wr W1:=by rw [← hW1];exact Tch.refl.alloc (Nat.le_refl _) _
   have hb1:W1.heap[wr.heap.size]?=some (.cells #[.slice (some ⟨kb,0,none⟩) 3 kc,.int .i64 fd.it,.int .i64 fd.v] 47):=by rw [← hW1];exact heap_new _
   have hcall:=hone W1 (ht.then t1 hs1 fun _ _ h=>h) fd.it k
   have d1:=(cell_of hb1 1).trans rfl
   have hhl:=hr.lt
   have hB1:wr.heap.size≠hb:=by omega
   have hB2:hb≠wr.heap.size:=by omega
   have hx5:∃ y0 y1 y2 y3 y4,padK fd.k=[y0,y1,y2,y3,y4]:=by
    have h1:=hKey.1
    generalize padK fd.k=l at h1
    rcases l with _|⟨x0,_|⟨x1,_|⟨x2,_|⟨x3,_|⟨x4,_|⟨x5,l⟩⟩⟩⟩⟩⟩<;>simp at h1
    exact ⟨_,_,_,_,_,rfl⟩
   obtain ⟨y0,y1,y2,y3,y4,hy⟩:=hx5
   have of25:∀ w1,Tch N0 M0 w w1→Calls Tryz.prog 25 #[.slice (some ⟨kb,0,none⟩) 3 kc] w1 fun e w'=>e=.returned (.agg #[.int .i64 y0,.int .i64 y1,.int .i64 y2,.int .i64 y3,.int .i64 y4])∧Tch w1.heap.size M0 w1 w':=fun w1 t=>by
    have hlb:=(hf wr ht).lt _ hkp
    have hlw:kb<N0:=hfl kb hkp
    have:=of_calls (w:=w1) (hF0 kb kc hF.row w1 t hlw) (by rw [hfo.n];omega)
    rw [hfo.n,hy] at this
    exact this
   have hLn:L.length<maxLen:=by
    have:=hL.le (hT wr ht) hTU
    have e:maxLen=9223372036854775807:=by decide
    omega
   cases htm:tm T (padK fd.k) with
   | none=>
    have hlook:∀ w1,Tch N0 M0 w w1→(Instr.lookup 70 (.map (some base)) (.agg #[.int .i64 y0,.int .i64 y1,.int .i64 y2,.int .i64 y3,.int .i64 y4]) false).run Tryz.prog w1=.ok (.pointer none) w1:=fun w1 t=>by
     have:=(hT w1 t).map.lookup hKey
     rw [(look_none htm).1,hy] at this
     exact this
    clear hone
    go_wp2_with (first
    | (go_at_call 24;refine hcall.mono ?_;rintro e w2 ⟨rfl,t2⟩
       have t12:=t1.then t2 t1.size fun _ _ h=>h
       have e2:w2.heap[wr.heap.size]?=some (.cells #[.slice (some ⟨kb,0,none⟩) 3 kc,.int .i64 fd.it,.int .i64 fd.v] 47):=(t2.heap _ (lt_of hb1) fun h=>h).trans hb1
       have hr2:=hr.tch t12 hhl fun h=>h
       have hL2:=hL.kept (t12.heap _ hL.map.lt fun h=>h)
       have hlk:k<(hashN hs fs k).length:=by rw [hashN_length];omega
       have f0:=hr2.cell hlk
       have f1:=hr2.frozen k
       have f2:=(cell_of e2 0).trans rfl
       have e2l:=lt_of e2
       obtain ⟨W3,hW3⟩:∃ W3,w2.setCell ⟨hb,k,none⟩ (.int .u64 (hs fd.it))=W3:=⟨_,rfl⟩
       have t3:Tch N0 M0 w W3:=by rw [← hW3];exact (ht.then t12 hs1 fun _ _ h=>h).set (.inl hhb) _
       have hr3:Row false W3 hb 45 .u64 (hashN hs fs (k+1)) n:=by rw [← hW3,hashN_succ hfd];exact hr2.set k _
       have hL3:NewsAt W3 nb T U L:=by rw [← hW3];exact hL2.kept (heap_ne _ _ (Ne.symm hne))
       have g0:W3.cell? ⟨wr.heap.size,0,none⟩=some (.slice (some ⟨kb,0,none⟩) 3 kc):=by rw [← hW3];exact (World.cell?_of_block (heap_ne _ _ hB1)).trans f2)
    | (go_at_call 25;refine (of25 _ t3).mono ?_;rintro e w4 ⟨rfl,t4⟩
       obtain ⟨W5,hW5⟩:∃ W5,w4.alloc (.cells #[.int .i64 y0,.int .i64 y1,.int .i64 y2,.int .i64 y3,.int .i64 y4] 76)=W5:=⟨_,rfl⟩
       have t45:Tch W3.heap.size M0 W3 W5:=by rw [← hW5];exact t4.alloc t4.size _
       have t5:Tch N0 M0 w W5:=t3.then t45 (Nat.le_trans hN t3.size) fun _ _ h=>h
       have e5:W5.heap[w4.heap.size]?=some (.cells #[.int .i64 y0,.int .i64 y1,.int .i64 y2,.int .i64 y3,.int .i64 y4] 76):=by rw [← hW5];exact heap_new _
       have hr5:=hr3.tch t45 hr3.lt fun h=>h
       have hL5:=hL3.kept (t45.heap _ hL3.map.lt fun h=>h)
       have k0:=(cell_of e5 0).trans rfl
       have k1:=(cell_of e5 1).trans rfl
       have k2:=(cell_of e5 2).trans rfl
       have k3:=(cell_of e5 3).trans rfl
       have k4:=(cell_of e5 4).trans rfl
       have hl5:=hlook _ t5
       obtain ⟨w6,hrun6,hm6,hg6⟩:=hL5.map.update72 hLn hKey (.int .i64 1)
       rw [hy] at hrun6
       simp only [ai,List.map_cons,List.map_nil] at hrun6))
    have hnb5:nb<W5.heap.size:=hL5.map.lt
    have hb5:=hr5.lt
    refine ⟨⟨k+1,rfl,by omega,by go_num,hr5.kept (hg6.block _ hb5 fun e=>hne (Option.some.inj e)),⟨_,hL5.put hm6 hkU htm⟩,?_⟩,by simp [RowKit.intOf];omega⟩
    refine ⟨Nat.le_trans t5.size hg6.size,fun b hb _=>(hg6.block b (by have:=t5.size;omega) fun e=>by have:=Option.some.inj e;omega).trans (t5.heap b hb fun h=>h),hg6.tape.trans t5.tape,hg6.os.trans t5.os,hg6.output.trans t5.output⟩
   | some B=>
    obtain ⟨t,_,_,_,_,_,_,hlk⟩:=look_some htm
    have hlook:∀ w1,Tch N0 M0 w w1→(Instr.lookup 70 (.map (some base)) (.agg #[.int .i64 y0,.int .i64 y1,.int .i64 y2,.int .i64 y3,.int .i64 y4]) false).run Tryz.prog w1=.ok (.pointer (some ⟨t.p.b,0,none⟩)) w1:=fun w1 t=>by
     have:=(hT w1 t).map.lookup hKey
     rw [hlk,hy] at this
     exact this
    clear hone
    go_wp2_with (first
    | (go_at_call 24;refine hcall.mono ?_;rintro e w2 ⟨rfl,t2⟩
       have t12:=t1.then t2 t1.size fun _ _ h=>h
       have e2:w2.heap[wr.heap.size]?=some (.cells #[.slice (some ⟨kb,0,none⟩) 3 kc,.int .i64 fd.it,.int .i64 fd.v] 47):=(t2.heap _ (lt_of hb1) fun h=>h).trans hb1
       have hr2:=hr.tch t12 hhl fun h=>h
       have hL2:=hL.kept (t12.heap _ hL.map.lt fun h=>h)
       have hlk:k<(hashN hs fs k).length:=by rw [hashN_length];omega
       have f0:=hr2.cell hlk
       have f1:=hr2.frozen k
       have f2:=(cell_of e2 0).trans rfl
       have e2l:=lt_of e2
       obtain ⟨W3,hW3⟩:∃ W3,w2.setCell ⟨hb,k,none⟩ (.int .u64 (hs fd.it))=W3:=⟨_,rfl⟩
       have t3:Tch N0 M0 w W3:=by rw [← hW3];exact (ht.then t12 hs1 fun _ _ h=>h).set (.inl hhb) _
       have hr3:Row false W3 hb 45 .u64 (hashN hs fs (k+1)) n:=by rw [← hW3,hashN_succ hfd];exact hr2.set k _
       have hL3:NewsAt W3 nb T U L:=by rw [← hW3];exact hL2.kept (heap_ne _ _ (Ne.symm hne))
       have g0:W3.cell? ⟨wr.heap.size,0,none⟩=some (.slice (some ⟨kb,0,none⟩) 3 kc):=by rw [← hW3];exact (World.cell?_of_block (heap_ne _ _ hB1)).trans f2)
    | (go_at_call 25;refine (of25 _ t3).mono ?_;rintro e w4 ⟨rfl,t4⟩
       obtain ⟨W5,hW5⟩:∃ W5,w4.alloc (.cells #[.int .i64 y0,.int .i64 y1,.int .i64 y2,.int .i64 y3,.int .i64 y4] 76)=W5:=⟨_,rfl⟩
       have t45:Tch W3.heap.size M0 W3 W5:=by rw [← hW5];exact t4.alloc t4.size _
       have t5:Tch N0 M0 w W5:=t3.then t45 (Nat.le_trans hN t3.size) fun _ _ h=>h
       have e5:W5.heap[w4.heap.size]?=some (.cells #[.int .i64 y0,.int .i64 y1,.int .i64 y2,.int .i64 y3,.int .i64 y4] 76):=by rw [← hW5];exact heap_new _
       have hr5:=hr3.tch t45 hr3.lt fun h=>h
       have hL5:=hL3.kept (t45.heap _ hL3.map.lt fun h=>h)
       have k0:=(cell_of e5 0).trans rfl
       have k1:=(cell_of e5 1).trans rfl
       have k2:=(cell_of e5 2).trans rfl
       have k3:=(cell_of e5 3).trans rfl
       have k4:=(cell_of e5 4).trans rfl
       have hl5:=hlook _ t5
       skip))
    exact ⟨⟨k+1,rfl,by omega,by go_num,hr5,⟨L,hL5⟩,t5⟩,by simp [RowKit.intOf];omega⟩
  ·have hge':¬ ((k:Int)<n):=by omega
   obtain rfl:k=n:=by omega
   clear hf hT hone
   go_wp2
   exact ⟨L,hL⟩
end
theorem CMap.len {w:World} {b:Nat} {L:List (List Int × Value)} (h:CMap w b L) {t e:TypeId} (ht:Tryz.prog.underlying t=some (.map 76 e)) (ty:TypeId):(Builtin.len_ #[t] ty #[.map (some b)]).run Tryz.prog w=.ok (.int .i64 L.length) w:=by
 obtain ⟨L',h1,n,h2⟩:=h.own
 rw [h2.len ht ty]
 simp [Maps.size,h1.length_eq]
section
variable {w:World} {x:Nat} {ga:Option Addr} {cap n:Nat} {f:Nat→Value} {c:CfgD} {T:List TR} {U:List (List Int)} {base vm hb nb:Nat} {L:List (List Int × Value)} {seed nf:Int} {h:Value}
set_option maxRecDepth 100000 in
theorem p13_6_wp (hx:w.cell? ⟨x,6,none⟩=some (.int .i64 nf)) (h0:0≤nf) (hn:nf+n≤3000) (hT:TabAt false w c base T) (hL:NewsAt w nb T U L) (hTU:∀ t∈T,t.k∈U) (hU:U.length≤128) :
  p13_6.wp Tryz.prog (fun e a w'=>e=.normal∧a.defers=[]∧a.tmps.size=157∧a.tmps[0]?=some (.pointer (some ⟨x,0,none⟩))∧a.tmps[1]?=some (.slice ga n cap)∧a.tmps[4]?=some .nilIface∧a.tmps[7]?=some (.slice (some ⟨hb,0,none⟩) n n)∧w'=w) ⟨#[.pointer (some ⟨x,0,none⟩),.slice ga n cap,f 2,f 3,.nilIface,f 5,f 6,.slice (some ⟨hb,0,none⟩) n n,.map (some base),.map (some nb),f 10,f 11,f 12,f 13,f 14,f 15,f 16,f 17,f 18,f 19,f 20,f 21,f 22,f 23,f 24,f 25,f 26,f 27,f 28,f 29,f 30,f 31,f 32,f 33,f 34,f 35,f 36,f 37,f 38,f 39,f 40,f 41,f 42,f 43,f 44,f 45,f 46,f 47,f 48,f 49,f 50,f 51,f 52,f 53,f 54,f 55,f 56,f 57,f 58,f 59,f 60,f 61,f 62,f 63,f 64,f 65,f 66,f 67,f 68,f 69,f 70,f 71,f 72,f 73,f 74,f 75,f 76,f 77,f 78,f 79,f 80,f 81,f 82,f 83,f 84,f 85,f 86,f 87,f 88,f 89,f 90,f 91,f 92,f 93,f 94,f 95,f 96,f 97,f 98,f 99,f 100,f 101,f 102,f 103,f 104,f 105,f 106,f 107,f 108,f 109,f 110,f 111,f 112,f 113,f 114,f 115,f 116,f 117,f 118,f 119,f 120,f 121,f 122,f 123,f 124,f 125,f 126,f 127,f 128,f 129,f 130,f 131,f 132,f 133,f 134,f 135,f 136,f 137,f 138,f 139,f 140,f 141,f 142,f 143,f 144,f 145,f 146,f 147,f 148,f 149,f 150,f 151,f 152,f 153,f 154,f 155,f 156],[]⟩ w:=by
 have hle:=hL.le hT hTU
 have g1:=hT.map.len Tryz.underlying70 3
 have g2:=hL.map.len Tryz.underlying72 3
 rw [List.length_map] at g1
 have d1:¬ (3000:Int)<IntKind.i64.wrap (nf+n):=by rw [IntKind.wrap_i64];omega
 have d2:¬ (128:Int)<IntKind.i64.wrap ((T.length:Int)+L.length):=by rw [IntKind.wrap_i64];omega
 clear hT hL
 simp only [p13_6,b13,fC,sC,Tryz.f13,Option.getD_some]
 go_wp2
set_option maxRecDepth 100000 in
theorem p13_7_wp (hx:w.cell? ⟨x,6,none⟩=some (.int .i64 nf)) (hz:w.frozen? ⟨x,6,none⟩=false) (h0:0≤nf) (hn:nf+n≤3000) :
  p13_7.wp Tryz.prog (fun e a w'=>e=.normal∧a.defers=[]∧a.tmps.size=157∧a.tmps[0]?=some (.pointer (some ⟨x,0,none⟩))∧a.tmps[1]?=some (.slice ga n cap)∧a.tmps[4]?=some .nilIface∧a.tmps[7]?=some (.slice (some ⟨hb,0,none⟩) n n)∧w'=w.setCell ⟨x,6,none⟩ (.int .i64 (nf+n))) ⟨#[.pointer (some ⟨x,0,none⟩),.slice ga n cap,f 2,f 3,.nilIface,f 5,f 6,.slice (some ⟨hb,0,none⟩) n n,f 8,f 9,f 10,f 11,f 12,f 13,f 14,f 15,f 16,f 17,f 18,f 19,f 20,f 21,f 22,f 23,f 24,f 25,f 26,f 27,f 28,f 29,f 30,f 31,f 32,f 33,f 34,f 35,f 36,f 37,f 38,f 39,f 40,f 41,f 42,f 43,f 44,f 45,f 46,f 47,f 48,f 49,f 50,f 51,f 52,f 53,f 54,f 55,f 56,f 57,f 58,f 59,f 60,f 61,f 62,f 63,f 64,f 65,f 66,f 67,f 68,f 69,f 70,f 71,f 72,f 73,f 74,f 75,f 76,f 77,f 78,f 79,f 80,f 81,f 82,f 83,f 84,f 85,f 86,f 87,f 88,f 89,f 90,f 91,f 92,f 93,f 94,f 95,f 96,f 97,f 98,f 99,f 100,f 101,f 102,f 103,f 104,f 105,f 106,f 107,f 108,f 109,f 110,f 111,f 112,f 113,f 114,f 115,f 116,f 117,f 118,f 119,f 120,f 121,f 122,f 123,f 124,f 125,f 126,f 127,f 128,f 129,f 130,f 131,f 132,f 133,f 134,f 135,f 136,f 137,f 138,f 139,f 140,f 141,f 142,f 143,f 144,f 145,f 146,f 147,f 148,f 149,f 150,f 151,f 152,f 153,f 154,f 155,f 156],[]⟩ w:=by
 have d1:IntKind.i64.wrap (nf+n)=nf+n:=by rw [IntKind.wrap_i64];omega
 simp only [p13_7,b13,fC,sC,Tryz.f13,Option.getD_some]
 go_wp2
end
end Go.Sim.Z
