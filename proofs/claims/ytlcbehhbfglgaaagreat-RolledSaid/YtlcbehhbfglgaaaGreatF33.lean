/- PROVED HERE: laws. Conditions: none. -/
import Derived.Test.YtlcbehhbfglgaaaGreatF32
set_option linter.all false
set_option maxHeartbeats 16000000
set_option maxRecDepth 100000
namespace Go.Sim.Z
open Go Go.Proofs Go.RowKit Go.Conc Go.Maps
theorem Jtk {bits x:Int} (hb:4<=bits/\bits<=6):1<=J5d bits x/\J5d bits x<=65-bits:=by
 unfold J5d;have h1:Lib.bitLen (x*2 ^ bits.toNat % 18446744073709551616).toNat<=64:=by exact bitLen_le _
 omega
theorem Jgt {p:Int->Bool} {l:List Int} {i:Nat} {a:Int}:(l.set i a).countP p<=l.countP p+1:=by
 induction l generalizing i with
 | nil=>simp
 | cons y l ih=>
  cases i with
  | zero=>simp only [List.set_cons_zero,List.countP_cons];split<;>split<;>omega
  | succ i=>simp only [List.set_cons_succ,List.countP_cons];have:=ih (i:=i);omega
theorem Jfq {p:Int->Bool} {l:List Int} {i:Nat} {a:Int} (hi:i<l.length) (ha:p a=true):1<=(l.set i a).countP p:=by have:a∈l.set i a:=List.mem_iff_getElem.2 ⟨i,by simpa using hi,by simp⟩;exact List.countP_pos_iff.2 ⟨a,this,ha⟩
section
variable {c:J8} {bs:List Int}
theorem Jjw (hc:Jw c) (A:List (Int × Int)) (hA:J0w A):(Jq c bs A).r.length=2 ^ c.bits.toNat/\(∀ x∈(Jq c bs A).r,0<=x/\x<=65-c.bits)/\((Jq c bs A).r.countP fun x=>decide (0<x))<=A.length/\(A≠[]->1<=(Jq c bs A).r.countP fun x=>decide (0<x)):=by
 have hb:=And.intro hc.b1 hc.b2
 induction A using J5n with
 | nil=>
  have e:(Jq c bs []).r=List.replicate (2 ^ c.bits.toNat) 0:=rfl;rw [e];refine ⟨by simp,fun x hx=>?_,by simp [List.countP_replicate],fun h=>absurd rfl h⟩;obtain rfl:=List.eq_of_mem_replicate hx;omega
 | append_singleton A f ih=>
  obtain ⟨h1,h2,h3,_⟩:=ih fun g hg=>hA g (List.mem_append_left _ hg);have hf:=hA f (by simp);have hN:=Jtk (bits:=c.bits) (x:=f.1) hb;rw [J3o];have e:(J5g c bs (Jq c bs A) f.1 f.2).r=(Jq c bs A).r.set (J1k c.bits f.1) (max ((Jq c bs A).r.getD (J1k c.bits f.1) 0) (J5d c.bits f.1)):=rfl;have hgd:0<=(Jq c bs A).r.getD (J1k c.bits f.1) 0/\(Jq c bs A).r.getD (J1k c.bits f.1) 0<=65-c.bits:=by
   rw [Ja7];cases hg:(Jq c bs A).r[J1k c.bits f.1]? with
   | none=>simp;omega
   | some z=>exact h2 z (Jd0 hg)
  have hi:J1k c.bits f.1<(Jq c bs A).r.length:=by rw [h1];exact Jf1 hb hf
  rw [e];refine ⟨by simpa using h1,fun x hx=>?_,?_,fun _=>?_⟩
  ·rcases mem_set hx with rfl|hx
   ·omega
   ·exact h2 x hx
  ·have:=Jgt (p:=fun x=>decide (0<x)) (l:=(Jq c bs A).r) (i:=J1k c.bits f.1) (a:=max ((Jq c bs A).r.getD (J1k c.bits f.1) 0) (J5d c.bits f.1));rw [List.length_append,List.length_singleton];omega
  ·exact Jfq hi (by simp;omega)
end
section
variable {c:J8} {bs:List Int} {hs:Int->Int} {fs:List Jg}
end
def J6d (m:Nat) (g:List Int):List Int:=(g.zipIdx.filter fun p=>m.testBit p.2).map (·.1)
theorem Jjx {m:Nat} (hm:m<8) {k:List Int} (hk:k.length=5):J6d m (J0o 7 k 5)=J0o m k 5:=by
 obtain ⟨a,b,d,e,f,rfl⟩:=J2p hk;have h7:J0o 7 [a,b,d,e,f] 5=[a,b,d]:=by simp [J0o,List.zipIdx_cons,Nat.testBit]
 rw [h7];unfold J6d J0o
 match m,hm with
 | 0,_|1,_|2,_|3,_|4,_|5,_|6,_|7,_=>simp [List.zipIdx_cons,Nat.testBit]
 | m+8,h=>omega
theorem Jgk {m:Nat} (hm:m<8) {k k':List Int} (hk:k.length=5) (hk':k'.length=5):(Jb m k' 5=Jb m k 5↔J0o m k' 5=J0o m k 5)/\J0o m (Jb m k 5) 5=J0o m k 5:=by
 obtain ⟨a,b,d,e,f,rfl⟩:=J2p hk;obtain ⟨a',b',d',e',f',rfl⟩:=J2p hk';unfold Jb J0o
 match m,hm with
 | 0,_|1,_|2,_|3,_|4,_|5,_|6,_|7,_=>simp [List.zipIdx_cons,Nat.testBit]
 | m+8,h=>omega
abbrev J42:=List Int × List (Int × Int)
def J3r (hs:Int->Int) (m:Nat) (fs:List Jg) (ks:List (List Int)):List J42:=ks.map fun x=>(J0o m x 5,sel hs m x fs)
structure J92 (m:Nat) (fs:List Jg) (ks:List (List Int)):Prop where
 nd:ks.Nodup
 of:∀ k∈ks,∃ f∈fs,Jb m (Js f.k) 5=k
 has:∀ f∈fs,Jb m (Js f.k) 5∈ks
section
variable {c:J8} {hs:Int->Int} {fs:List Jg} {m:Nat} {ks k7 km:List (List Int)}
theorem J7f {f:Jg} (h:f.k.length=3):(Js f.k).length=5:=J45 (by omega)
theorem Jqs (hm:m<8) (h3:∀ f∈fs,f.k.length=3) (h7:J92 7 fs k7) {f0:Jg} (hf0:f0∈fs) {x:List Int} (hx:Jb m (Js f0.k) 5=x) :
  (((J3r hs 7 fs k7).filter fun p=>decide (J6d m p.1=J0o m x 5)).flatMap (·.2)).Perm (sel hs m x fs):=by
 have p:=J7d (fs:=fs) (key:=fun f=>Jb 7 (Js f.k) 5) (P:=fun κ=>decide (Jb m κ 5=x)) h7.nd;have e2:(fs.filter fun f=>decide (Jb 7 (Js f.k) 5∈k7) && decide (Jb m (Jb 7 (Js f.k) 5) 5=x))=fs.filter fun f=>decide (Jb m (Js f.k) 5=x):=by refine List.filter_congr fun f hf=>?_;have:=h7.has f hf;rw [Jdt (h3 f hf)] at this ⊢;simp [this]
 have e3:((J3r hs 7 fs k7).filter fun p=>decide (J6d m p.1=J0o m x 5))=(k7.filter fun κ=>decide (Jb m κ 5=x)).map fun κ=>(J0o 7 κ 5,sel hs 7 κ fs):=by
  unfold J3r;rw [List.filter_map];congr 1;refine List.filter_congr fun κ hκ=>?_;obtain ⟨f,hf,e⟩:=h7.of κ hκ;rw [Jdt (h3 f hf)] at e;have h5:κ.length=5:=by rw [<- e];exact J7f (h3 f hf)
  have g1:=Jjx hm h5;have g2:=Jgk hm (k:=Js f0.k) (k':=κ) (J7f (h3 f0 hf0)) h5;simp only [Function.comp,g1];rw [<- hx,g2.2];exact decide_eq_decide.2 g2.1.symm
 rw [e2] at p;rw [e3,List.flatMap_map];unfold sel;rw [<- List.map_flatMap];exact p.map _
theorem Jey (h:J92 m fs ks):((J3r hs m fs ks).map fun p=>p.2.length).sum=fs.length:=by
 have p:=J7d (fs:=fs) (key:=fun f=>Jb m (Js f.k) 5) (P:=fun _=>true) h.nd;have e:(fs.filter fun f=>decide (Jb m (Js f.k) 5∈ks) && true)=fs:=List.filter_eq_self.2 fun f hf=>by simp [h.has f hf]
 rw [e] at p;have:=p.length_eq;rw [<- this,List.length_flatMap,List.filter_eq_self.2 fun _ _=>rfl];unfold J3r sel;rw [List.map_map];congr 1;exact List.map_congr_left fun k _=>by simp
theorem Jqt (h3:∀ f∈fs,f.k.length=3) (h:J92 0 fs ks):ks.length<=1:=by
 have h1:=J4o h.nd (U:=[[0,0,0,0,0]]) fun x hx=>by obtain ⟨f,hf,e⟩:=h.of x hx;rw [<- e,Jjl (J7f (h3 f hf))];exact .head _
 simpa using h1
theorem Jjy {T:List TR} {bs:List Int} (hn:(T.map (·.k)).Nodup) (hT:∀ k,tm T k=J1c c bs (sel hs m k fs)) {ls:List Je} (hk:keysOf (T.map TR.kv) ls):J92 m fs (ls.map (·.1)):=by
 obtain ⟨ss,h1,rfl⟩:=hk;have hp:((sortK ss).map (·.1)).Perm (T.map (·.k)):=by refine (List.Perm.map _ (List.mergeSort_perm ss _)).trans ?_;have h2:(ss.map (·.1)).Perm ((T.map TR.kv).map (·.1)):=h1;rw [List.map_map] at h2;exact h2
 refine ⟨hp.nodup_iff.2 hn,fun k hk=>?_,fun f hf=>?_⟩
 ·obtain ⟨t,ht,rfl⟩:=Jb3.1 (hp.mem_iff.1 hk);exact (J6u hn hT ht).2
 ·obtain ⟨t,ht,e⟩:=Jlg hT hf;rw [<- e];exact hp.mem_iff.2 (Jb3.2 ⟨t,ht,rfl⟩)
theorem Jqu (h:J92 m fs ks) {k:List Int} (hk:k∈ks):sel hs m k fs≠[]:=by obtain ⟨f,hf,e⟩:=h.of k hk;unfold sel;intro e2;have:=List.map_eq_nil_iff.1 e2;have h2:f∈fs.filter fun g=>decide (Jb m (Js g.k) 5=k):=Jd5.2 ⟨hf,by simp [e]⟩;rw [this] at h2;cases h2
def J30 (m:Nat) (g:List Int) (P:List J42) (j:Nat):List (Int × Int):=((P.take j).filter fun p=>decide (J6d m p.1=g)).flatMap (·.2)
theorem Jqv {g:List Int} {P:List J42} {j:Nat} {p:J42} (h:P[j]?=some p):J30 m g P (j+1)=if J6d m p.1=g then J30 m g P j++p.2 else J30 m g P j:=by unfold J30;rw [List.take_add_one,h,List.filter_append,List.flatMap_append];by_cases e:J6d m p.1=g<;>simp [e]
theorem Jjz {g:List Int} {P:List J42}:J30 m g P P.length=(P.filter fun p=>decide (J6d m p.1=g)).flatMap (·.2):=by unfold J30;rw [List.take_length]
theorem Jfr {g:List Int} {P:List J42} (h:∀ p∈P,J0w p.2) (j:Nat):J0w (J30 m g P j):=fun f hf=>by obtain ⟨p,hp,hf⟩:=List.mem_flatMap.1 hf;exact h p (List.mem_of_mem_take (Jd5.1 hp).1) f hf
theorem Jtl (hc:Jw c) (hnb:c.nb=4) {A B:List (Int × Int)} (hA:J0w A) (hB:J0w B):(Jq c J06 (A++B)).n=wrap64 ((Jq c J06 A).n+(Jq c J06 B).n)/\(Jq c J06 (A++B)).r=maxL (Jq c J06 A).r (Jq c J06 B).r/\(Jq c J06 (A++B)).h=J0n (Jq c J06 A).h (Jq c J06 B).h:=by rw [<- Jlf hc (by rw [hnb];rfl) J74 hA hB];exact ⟨rfl,rfl,rfl⟩
theorem Jtm (hc:Jw c) (hnb:c.nb=4) {A B:List (Int × Int)} (hA:J0w A) (hp:A.Perm B) (hne:B≠[]):Jq c J06 A=Jq c J06 B:=by
 have h:=Jgj hc (by rw [hnb];rfl) J74 hA hp;have hne':A≠[]:=fun e=>by rw [e] at hp;exact hne hp.nil_eq.symm
 unfold J1c at h;rw [if_neg hne,if_neg hne'] at h;exact Ja0 h
theorem Jco (hc:Jw c) (hnb:c.nb=4) {A:List (Int × Int)} (hA:J0w A):(Jq c J06 A).h.length=5:=by have:=(J88 hc (bs:=J06) (by rw [hnb];rfl) hA).1.h;rw [this,hnb]
structure Juz (c:J8) (m n:Nat) (P Pm:List J42):Prop where
 ok7:∀ p∈P,J0w p.2/\p.1.length=3
 sum7:(P.map fun p=>p.2.length).sum=n
 fine:∀ p∈Pm,Jq c J06 (J30 m p.1 P P.length)=Jq c J06 p.2/\J30 m p.1 P P.length≠[]/\(J30 m p.1 P P.length).length=p.2.length/\p.1.length<=3
 sum:(Pm.map fun p=>p.2.length).sum=n
 one:m=0->Pm.length<=1
theorem Jtn (hc:Jw c) (hnb:c.nb=4) (hh:∀ y,0<=hs y/\hs y<=18446744073709551615) (hm:m<8) (h3:∀ f∈fs,f.k.length=3) (h7:J92 7 fs k7) (hk:J92 m fs km):Juz c m fs.length (J3r hs 7 fs k7) (J3r hs m fs km):=by
 have ok7:∀ p∈J3r hs 7 fs k7,J0w p.2/\p.1.length=3:=fun p hp=>by
  obtain ⟨k,hk,rfl⟩:=Jb3.1 hp;refine ⟨Jjk hh _ _,?_⟩;obtain ⟨f,hf,e⟩:=h7.of k hk;have h5:k.length=5:=by rw [<- e,Jdt (h3 f hf)];exact J7f (h3 f hf)
  obtain ⟨a,b,d,e,f,rfl⟩:=J2p h5;simp [J0o,List.zipIdx_cons,Nat.testBit]
 refine ⟨ok7,Jey h7,fun p hp=>?_,Jey hk,fun h0=>?_⟩
 ·obtain ⟨x,hx,rfl⟩:=Jb3.1 hp;obtain ⟨f0,hf0,e⟩:=hk.of x hx;have hp:=Jqs (hs:=hs) hm h3 h7 hf0 e;rw [Jjz];refine ⟨Jtm hc hnb ?_ hp (Jqu hk hx),fun e2=>?_,hp.length_eq,?_⟩
  ·rw [<- Jjz];exact Jfr (fun p hp=>(ok7 p hp).1) _
  ·rw [e2] at hp;exact Jqu hk hx hp.nil_eq.symm
  ·have:=(Jgk hm (k:=Js f0.k) (k':=Js f0.k) (J7f (h3 f0 hf0)) (J7f (h3 f0 hf0))).2;rw [e] at this;show (J0o m x 5).length<=3;rw [this,<- Jjx hm (J7f (h3 f0 hf0))];obtain ⟨a,b,d,e,f,h⟩:=J2p (J7f (h3 f0 hf0));rw [h];unfold J6d;rw [Jc3];refine Jb6 (List.length_filter_le _ _) ?_;simp [J0o,List.zipIdx_cons,Nat.testBit]
 ·subst h0;unfold J3r;rw [Jc3];exact Jqt h3 hk
end
section
variable {w:World} {a b:Value} {xs ys:List Int}
theorem Jqw {ga gb ca cb:Nat} (hl:xs.length=ys.length) (hn:xs.length<=1000) (ha:0<xs.length->Row false w ga 3 .i64 xs ca) (hb:0<xs.length->Row false w gb 3 .i64 ys cb) {va vb:Value} (ea:∃ p c,va=.slice p xs.length c/\(0<xs.length->p=some ⟨ga,0,none⟩)) (eb:∃ p c,vb=.slice p ys.length c/\(0<xs.length->p=some ⟨gb,0,none⟩)) :
  Calls Tryz.prog 11 #[va,vb] w fun e w'=>e=.returned (.bool (decide (xs=ys)))/\Tch w.heap.size M0 w w':=by
 obtain ⟨pa,c1,rfl,qa⟩:=ea;obtain ⟨pb,c2,rfl,qb⟩:=eb;rw [<- hl];obtain ⟨n,hnn⟩:∃ n,xs.length=n:=⟨_,rfl⟩;have hca:∀ wr,Tch w.heap.size M0 w wr->∀ i,i<n->wr.cell? ⟨ga,i,none⟩=some (.int .i64 (xs.getD i 0)):=fun wr t i hi=>((ha (by omega)).tch t (ha (by omega)).lt fun x=>x).cell (by omega);have hcb:∀ wr,Tch w.heap.size M0 w wr->∀ i,i<n->wr.cell? ⟨gb,i,none⟩=some (.int .i64 (ys.getD i 0)):=fun wr t i hi=>((hb (by omega)).tch t (hb (by omega)).lt fun x=>x).cell (by omega);rw [hnn] at qa qb ⊢;have hnl:¬ ((n:Int)≠n):=fun h=>h rfl;have hx:∀ i,i<n->xs.getD i 0=ys.getD i 0\/¬ xs=ys:=fun i hi=>by
  by_cases e:xs=ys
  ·exact .inl (by rw [e])
  ·exact .inr e
 have hfin:(∀ i,i<n->xs.getD i 0=ys.getD i 0)->xs=ys:=fun h=>by refine List.ext_getElem hl fun i h1 h2=>?_;have:=h i (by omega);simpa [Ja7,h1,h2] using this
 clear ha hb
 go_enter Tryz.func11,Tryz.ntmps11
 go_wp2
 go_loopw [5] (fun i wr=>∃ k:Nat,k<=n/\i=.int .i64 k/\(∀ i,i<k->xs.getD i 0=ys.getD i 0)/\Tch w.heap.size M0 w wr) (fun i _=>n-(RowKit.intOf i).toNat)
 case atStart=>exact ⟨0,by omega,rfl,fun i h=>by omega,.refl⟩
 case round=>
  obtain ⟨k,hk,rfl,heq,ht⟩:=hrel;rcases Jb5 k n with hlt|hge
  ·have g1:=hca _ ht k hlt;have g2:=hcb _ ht k hlt;obtain rfl:=qa (by omega);obtain rfl:=qb (by omega);have hlt':(k:Int)<n:=by omega
   have hxk:=hx k hlt;have hst:xs.getD k 0=ys.getD k 0->∀ i,i<k+1->xs.getD i 0=ys.getD i 0:=fun e i hi=>by
    rcases Jb5 i k with h|h
    ·exact heq i h
    ·obtain rfl:i=k:=by omega
     exact e
   generalize xs.getD k 0=x at *;generalize ys.getD k 0=y at *;clear hca hcb hx hfin heq;by_cases e:x=y
   ·have hs':=hst e;clear hst hxk;subst e;go_wp2
    go_region
    all_goals go_wp2
    exact ⟨⟨k+1,by omega,by go_num,hs',ht.drew⟩,by simp [RowKit.intOf];omega⟩
   ·have hne:=hxk.resolve_left e;go_wp2
    go_region
    all_goals go_wp2
    go_ret;exact ⟨by rw [decide_eq_false hne];rfl,ht.drew⟩
  ·obtain rfl:k=n:=by omega
   have hge':¬ ((k:Int)<k):=by omega
   have:=hfin heq;clear hca hcb hx hfin heq;go_wp2;go_ret;exact ⟨by first|rfl|(rw [decide_eq_true this];rfl),ht⟩
theorem J93 (ha:SlI false w 0 a 3 .i64 xs) (hb:SlI false w 0 b 3 .i64 ys) (hn:xs.length<=1000) :
  Calls Tryz.prog 11 #[a,b] w fun e w'=>e=.returned (.bool (decide (xs=ys)))/\Tch w.heap.size M0 w w':=by
 have ea:∃ ga ca p c,a=.slice p xs.length c/\(0<xs.length->p=some ⟨ga,0,none⟩)/\(0<xs.length->Row false w ga 3 .i64 xs ca):=by
  rcases ha with ⟨rfl,rfl⟩|⟨g,cap,rfl,_,h⟩
  ·exact ⟨0,0,none,0,rfl,fun h=>by simp at h,fun h=>by simp at h⟩
  ·exact ⟨g,cap,_,_,rfl,fun _=>rfl,fun _=>h⟩
 have eb:∃ gb cb p c,b=.slice p ys.length c/\(0<ys.length->p=some ⟨gb,0,none⟩)/\(0<ys.length->Row false w gb 3 .i64 ys cb):=by
  rcases hb with ⟨rfl,rfl⟩|⟨g,cap,rfl,_,h⟩
  ·exact ⟨0,0,none,0,rfl,fun h=>by simp at h,fun h=>by simp at h⟩
  ·exact ⟨g,cap,_,_,rfl,fun _=>rfl,fun _=>h⟩
 obtain ⟨ga,ca,p,c,e1,h1,r1⟩:=ea;obtain ⟨gb,cb,q,d,e2,h2,r2⟩:=eb;by_cases hl:xs.length=ys.length
 ·exact Jqw hl hn r1 (fun h=>r2 (by omega)) ⟨p,c,e1,h1⟩ ⟨q,d,e2,fun h=>h2 (by omega)⟩
 ·have hne:xs≠ys:=fun e=>hl (by rw [e]);rw [decide_eq_false hne];subst e1 e2;have hl':(xs.length:Int)≠ys.length:=by omega
  clear h1 h2 r1 r2;generalize xs.length=n at *;generalize ys.length=m at *
  go_enter Tryz.func11,Tryz.ntmps11
  go_wp2;go_ret;exact ⟨rfl,.refl⟩
end
structure J3c (w:World) (g j:Nat) (c:J8) (p:J42):Prop where
 k:∃ v,w.cell? ⟨g,j*5,none⟩=some v/\SlI false w 0 v 3 .i64 p.1
 n:w.cell? ⟨g,j*5+1,none⟩=some (.int .i64 (Jq c J06 p.2).n)
 r:∃ b q,w.cell? ⟨g,j*5+2,none⟩=some (.slice (some ⟨b,0,none⟩) (Jq c J06 p.2).r.length q)/\Row false w b 3 .i64 (Jq c J06 p.2).r q
 h:∃ b q,w.cell? ⟨g,j*5+3,none⟩=some (.slice (some ⟨b,0,none⟩) (Jq c J06 p.2).h.length q)/\Row false w b 3 .i64 (Jq c J06 p.2).h q
section
variable {w w':World} {g j:Nat} {c:J8} {p:J42} {v:Value} {xs:List Int}
theorem SlI.zero {base:Nat} (h:SlI false w base v 3 .i64 xs):SlI false w 0 v 3 .i64 xs:=h.mono (Nat.zero_le _)
theorem J3c.tch (h:J3c w g j c p) (t:Tch w.heap.size M0 w w'):J3c w' g j c p:=by obtain ⟨⟨v,k1,k2⟩,h1,⟨rb,rq,r1,r2⟩,⟨hb,hq,h2,h3⟩⟩:=h;have hc:∀ {a u},w.cell? a=some u->w'.cell? a=some u:=fun h=>(t.cell (cell_lt h) fun x=>x).trans h;exact ⟨⟨v,hc k1,k2.tch t⟩,hc h1,⟨rb,rq,hc r1,r2.tch t r2.lt fun x=>x⟩,⟨hb,hq,hc h2,h3.tch t h3.lt fun x=>x⟩⟩
theorem Jqx {m:Nat} {k:List Int} (h:k.length=3):J0o m k 3=J6d m k:=by unfold J0o J6d;rw [List.take_of_length_le (by omega)]
end
def setFrom:Array Value->Nat->List Value->Array Value
 | T,_,[]=>T
 | T,b,v::vs=>setFrom (T.setIfInBounds b v) (b+1) vs
theorem J94:∀ (vs:List Value) (T:Array Value) (b s:Nat),s<b\/b+vs.length<=s->(setFrom T b vs)[s]?=T[s]?
 | [],_,_,_,_=>rfl
 | v::vs,T,b,s,h=>by rw [Jd2] at h;rw [setFrom,J94 vs _ _ _ (by omega),Ja1 (by omega)]
theorem Jez:∀ (vs:List Value) (T:Array Value) (b i:Nat),b+vs.length<=T.size->i<vs.length->(setFrom T b vs)[b+i]?=vs[i]?
 | [],_,_,_,_,h=>by simp at h
 | v::vs,T,b,0,h,_=>by
  rw [Jd2] at h;show (setFrom (T.setIfInBounds b v) (b+1) vs)[b]?=_;rw [J94 vs _ _ _ (by omega),Ja9 (by omega)];rfl
 | v::vs,T,b,i+1,h,hi=>by rw [Jd2] at h hi;rw [setFrom,show b+(i+1)=b+1+i by omega,Jez vs _ _ _ (by simp;omega) (by omega)];rfl
theorem Jbr {P:Program} {ops:Array Oper} {Q:Exit->Act->World->Prop} {id:Nat} {T0:Array Value} {ds:List Deferred} {w0:World} (base:Nat) (vs:List Value) (hm:P.follows .mixedOrders=true) (hok:J3v .any ops vs.length (fun i=>base+i)=true) (hsz:base+vs.length<=T0.size)
  (step:∀ (i:Nat) (o:Oper) (v:Value) (a:Act) (w:World),ops[i]?=some o->vs[i]?=some v->Tch w0.heap.size M0 w0 w->(∀ s,s<base\/base+vs.length<=s->a.tmps[s]?=T0[s]?)->(∀ j,(o.after.toList.any fun e=>e.on == j && Region.binds .any e)=true->a.tmps[base+j]?=vs[j]?)->(execOp a.eval o).run P w=.ok (.value v) w)
  (fin:∀ w:World,Tch w0.heap.size M0 w0 w->wpList P ops Q (ops.toList.drop vs.length) ⟨setFrom T0 base vs,ds⟩ w) :
  (Code.region id ops true).wp P Q ⟨T0,ds⟩ w0:=by
 refine J8k (M:=M0) vs.length (fun i=>base+i) (fun i v _=>vs[i]?=some v) hm hok (fun i hi=>by omega) (fun _ _ _ _ h _=>h) (fun i o a w hi ho ht hs hold hd=>?_) fun a w ht hds hs hold hf=>?_
 ·have hr:=step i o vs[i] a w ho (Jb1 hi) ht (fun s h=>hold s fun i hi=>by omega) fun j hj=>by obtain ⟨v,h1,h2⟩:=hd j hj;rw [h1,h2]
  have hg:o.guard=none/\o.dst=some (base+i):=by unfold J3v at hok;simp only [Ja8,decide_eq_true_eq,List.all_eq_true,List.mem_range] at hok;have:=hok.1.2 i hi;rw [ho] at this;simp only [Ja8,Option.isNone_iff_eq_none,beq_iff_eq] at this;exact ⟨this.1.1.1,this.1.1.2⟩
  refine J9 ho hg.1 hr ⟨vs[i],by rw [hg.2],Jb1 hi,.refl⟩
 ·obtain ⟨tm,ds'⟩:=a;simp only at hds hs hold hf;subst hds;have e:tm=setFrom T0 base vs:=by
   refine Jd6 fun s=>?_;by_cases h:base<=s/\s<base+vs.length
   ·obtain ⟨i,rfl⟩:∃ i,s=base+i:=⟨s-base,by omega⟩;obtain ⟨v,h1,h2⟩:=hf i (by omega);rw [h1,Jez _ _ _ _ hsz (by omega),h2]
   ·rw [hold s fun i hi=>by omega,J94 _ _ _ _ (by omega)]
  rw [e];have hle:vs.length<=ops.size:=by unfold J3v at hok;simp only [Ja8,decide_eq_true_eq] at hok;exact hok.1.1
  have hw:=J6a (P:=P) (ops:=ops) (Q:=Q) (ops.toList.drop vs.length) vs.length fun j hj=>by rw [List.getElem?_drop,Array.getElem?_toList]
  rw [List.length_drop,show ops.toList.length=ops.size from rfl] at hw;have h2:=fin w ht;rw [<- hw] at h2;exact h2
theorem Jli (a b c:Int) (p:Nat) (u:Int) (w1:World):(Instr.field 35 (.agg #[.int .i64 a,.int .i64 b,.int .i64 c,.slice (some ⟨p,0,none⟩) 4 4,.int .i64 u]) 1).run Tryz.prog w1=.ok (.int .i64 b) w1:=by simp [Instr.field,asAgg,Sem.run_bind,Sem.run_pure,Result.andThen_ok,go_sem]
theorem Jze (f:Nat->Value):((List.range 234).map f).toArray=#[f 0,f 1,f 2,f 3,f 4,f 5,f 6,f 7,f 8,f 9,f 10,f 11,f 12,f 13,f 14,f 15,f 16,f 17,f 18,f 19,f 20,f 21,f 22,f 23,f 24,f 25,f 26,f 27,f 28,f 29,f 30,f 31,f 32,f 33,f 34,f 35,f 36,f 37,f 38,f 39,f 40,f 41,f 42,f 43,f 44,f 45,f 46,f 47,f 48,f 49,f 50,f 51,f 52,f 53,f 54,f 55,f 56,f 57,f 58,f 59,f 60,f 61,f 62,f 63,f 64,f 65,f 66,f 67,f 68,f 69,f 70,f 71,f 72,f 73,f 74,f 75,f 76,f 77,f 78,f 79,f 80,f 81,f 82,f 83,f 84,f 85,f 86,f 87,f 88,f 89,f 90,f 91,f 92,f 93,f 94,f 95,f 96,f 97,f 98,f 99,f 100,f 101,f 102,f 103,f 104,f 105,f 106,f 107,f 108,f 109,f 110,f 111,f 112,f 113,f 114,f 115,f 116,f 117,f 118,f 119,f 120,f 121,f 122,f 123,f 124,f 125,f 126,f 127,f 128,f 129,f 130,f 131,f 132,f 133,f 134,f 135,f 136,f 137,f 138,f 139,f 140,f 141,f 142,f 143,f 144,f 145,f 146,f 147,f 148,f 149,f 150,f 151,f 152,f 153,f 154,f 155,f 156,f 157,f 158,f 159,f 160,f 161,f 162,f 163,f 164,f 165,f 166,f 167,f 168,f 169,f 170,f 171,f 172,f 173,f 174,f 175,f 176,f 177,f 178,f 179,f 180,f 181,f 182,f 183,f 184,f 185,f 186,f 187,f 188,f 189,f 190,f 191,f 192,f 193,f 194,f 195,f 196,f 197,f 198,f 199,f 200,f 201,f 202,f 203,f 204,f 205,f 206,f 207,f 208,f 209,f 210,f 211,f 212,f 213,f 214,f 215,f 216,f 217,f 218,f 219,f 220,f 221,f 222,f 223,f 224,f 225,f 226,f 227,f 228,f 229,f 230,f 231,f 232,f 233]:=by rfl
theorem Jaq {T:Array Value} (h:T.size=234):∃ f:Nat->Value,T=#[f 0,f 1,f 2,f 3,f 4,f 5,f 6,f 7,f 8,f 9,f 10,f 11,f 12,f 13,f 14,f 15,f 16,f 17,f 18,f 19,f 20,f 21,f 22,f 23,f 24,f 25,f 26,f 27,f 28,f 29,f 30,f 31,f 32,f 33,f 34,f 35,f 36,f 37,f 38,f 39,f 40,f 41,f 42,f 43,f 44,f 45,f 46,f 47,f 48,f 49,f 50,f 51,f 52,f 53,f 54,f 55,f 56,f 57,f 58,f 59,f 60,f 61,f 62,f 63,f 64,f 65,f 66,f 67,f 68,f 69,f 70,f 71,f 72,f 73,f 74,f 75,f 76,f 77,f 78,f 79,f 80,f 81,f 82,f 83,f 84,f 85,f 86,f 87,f 88,f 89,f 90,f 91,f 92,f 93,f 94,f 95,f 96,f 97,f 98,f 99,f 100,f 101,f 102,f 103,f 104,f 105,f 106,f 107,f 108,f 109,f 110,f 111,f 112,f 113,f 114,f 115,f 116,f 117,f 118,f 119,f 120,f 121,f 122,f 123,f 124,f 125,f 126,f 127,f 128,f 129,f 130,f 131,f 132,f 133,f 134,f 135,f 136,f 137,f 138,f 139,f 140,f 141,f 142,f 143,f 144,f 145,f 146,f 147,f 148,f 149,f 150,f 151,f 152,f 153,f 154,f 155,f 156,f 157,f 158,f 159,f 160,f 161,f 162,f 163,f 164,f 165,f 166,f 167,f 168,f 169,f 170,f 171,f 172,f 173,f 174,f 175,f 176,f 177,f 178,f 179,f 180,f 181,f 182,f 183,f 184,f 185,f 186,f 187,f 188,f 189,f 190,f 191,f 192,f 193,f 194,f 195,f 196,f 197,f 198,f 199,f 200,f 201,f 202,f 203,f 204,f 205,f 206,f 207,f 208,f 209,f 210,f 211,f 212,f 213,f 214,f 215,f 216,f 217,f 218,f 219,f 220,f 221,f 222,f 223,f 224,f 225,f 226,f 227,f 228,f 229,f 230,f 231,f 232,f 233]:=⟨fun i=>T.getD i undef,(Jj6 h).trans (Jze _)⟩
noncomputable def b3:Code:=Tryz.f3.body.getD .skip
noncomputable def tail3:Code:=sC (sC (sC (sC (sC (sC (sC b3))))))
noncomputable def lpI:Code:=lC (bC (sC (fC (sC (sC (sC tail3))))))
noncomputable def inI:Code:=bC (fC (sC lpI))
noncomputable def pJ:Code:=fC (sC (sC (sC (sC inI))))
theorem set_self {l:List Int} {i:Nat} (h:i<l.length):l.set i (l.getD i 0)=l:=by rw [Ja7,Jb1 h];exact List.set_getElem_self h
section
variable {w0 w:World} {c:J8} {m g7 c7 gm nm cm i hb rb N:Nat} {P:List J42} {gk:List Int} {kv:Value} {d:Deferred}
theorem J04o {a0 a1 a2 a3 a4 a5 a6 a7 a8 a11 a13 a14 a15 a18 a21 a22 a23 a24 a25 a26 a27 a28 a29 a30 a31 a32 a33 a34 a35 a36 a37 a38 a39 a40 a41 a42 a43 a44 a45 a46 a47 a48 a49 a50 a51 a52 a53 a54 a55 a56 a57 a58 a59 a60 a61 a62 a63 a64 a65 a66 a67 a68 a69 a70 a71 a72 a73 a74 a75 a76 a77 a78 a79 a80 a81 a82 a83 a84 a85 a86 a87 a88 a89 a90 a91 a92 a93 a94 a95 a96 a97 a98 a99 a100 a101 a102 a103 a104 a105 a106 a107 a108 a109 a110 a111 a112 a113 a114 a115 a116 a117 a118 a119 a120 a121 a122 a123 a124 a125 a126 a127 a128 a129 a130 a131 a132 a133 a134 a135 a136 a137 a138 a139 a140 a141 a142 a143 a144 a145 a146 a147 a148 a149 a150 a151 a152 a153 a154 a155 a156 a157 a158 a159 a160 Jzf a162 Jzg a164 Jzh Jzi a167 a168 Jzj Jzk a171 Jzl a173 Jzm a175 Jzn Jzo Jzp Jzq Jzr Jzs a182 a183 Jzt Jzu Jzv Jzw Jzx Jzy Jzz a191 a192 a193 a194 a195 a196 a197 a198 a199 a200 a201 a202 a203 a204 a205 a206 a207 a208 a209 a210 a211 a212 a213 a214 a215 a216 a217 a218 a219 a220 a221 a222 a223 a224 a225 a226 a227 a228 a229 a230 a231 a232 a233:Value} {Q:Exit->Act->World->Prop}
  (hi:i<nm) (hc:Jw c) (hnb:c.nb=4) (hN:2 ^ c.bits.toNat=N) (hN64:N<=64) (h7:∀ j p,P[j]?=some p->J3c w0 g7 j c p) (hok:∀ p∈P,J0w p.2/\p.1.length=3) (hP:P.length<=1000)
  (hk:w0.cell? ⟨gm,i*5,none⟩=some kv) (hkv:SlI false w0 0 kv 3 .i64 gk) (ht0:Tch w0.heap.size M0 w0 w) (hhb:w0.heap.size<=hb) (hrb:w0.heap.size<=rb) (hne:hb≠rb)
  (hH:Row false w hb 3 .i64 (Jq c J06 []).h 5) (hR:Row false w rb 3 .i64 (Jq c J06 []).r N)
  (hQ:∀ (u21 u22 u23 u24 u25 u26 u69 u70 u71 u72 u73 u74 u75 u76 u77 u78 u79 u80 u81 u82 u83 u84 u85 u86 u87 u88 u89 u90 u91 u92 u93 u94 u95 u96 u97 u98 u99 u100 u101 u102 u103 u104 u105 u106 u107 u108 u109 u110 u111 u112 u113 u114 u115 u116 u117 u118 u119 u120 u121 u122 u123 u124 u125 u126 u127 u128 u129 u130 u131 u132 u133 u134 u135 u136 u137 u138 u139 u140 u141 u142 u143 u144 u145 u146 u147 u148 u149 u150 u151 u152 u153 u154 u155 u156 u157 u158 u159 u160:Value) (w':World),Tch w0.heap.size M0 w0 w'->Row false w' hb 3 .i64 (Jq c J06 (J30 m gk P P.length)).h 5->Row false w' rb 3 .i64 (Jq c J06 (J30 m gk P P.length)).r N->Q .normal ⟨#[a0,a1,a2,a3,a4,a5,a6,a7,a8,.int .i64 m,.slice (some ⟨g7,0,none⟩) P.length c7,a11,.slice (some ⟨gm,0,none⟩) nm cm,a13,a14,a15,.int .i64 i,.int .i64 (Jq c J06 (J30 m gk P P.length)).n,a18,.slice (some ⟨hb,0,none⟩) 5 5,.slice (some ⟨rb,0,none⟩) N N,u21,u22,u23,u24,u25,u26,a27,a28,a29,a30,a31,a32,a33,a34,a35,a36,a37,a38,a39,a40,a41,a42,a43,a44,a45,a46,a47,a48,a49,a50,a51,a52,a53,a54,a55,a56,a57,a58,a59,a60,a61,a62,a63,a64,a65,a66,a67,a68,u69,u70,u71,u72,u73,u74,u75,u76,u77,u78,u79,u80,u81,u82,u83,u84,u85,u86,u87,u88,u89,u90,u91,u92,u93,u94,u95,u96,u97,u98,u99,u100,u101,u102,u103,u104,u105,u106,u107,u108,u109,u110,u111,u112,u113,u114,u115,u116,u117,u118,u119,u120,u121,u122,u123,u124,u125,u126,u127,u128,u129,u130,u131,u132,u133,u134,u135,u136,u137,u138,u139,u140,u141,u142,u143,u144,u145,u146,u147,u148,u149,u150,u151,u152,u153,u154,u155,u156,u157,u158,u159,u160,Jzf,a162,Jzg,a164,Jzh,Jzi,a167,a168,Jzj,Jzk,a171,Jzl,a173,Jzm,a175,Jzn,Jzo,Jzp,Jzq,Jzr,Jzs,a182,a183,Jzt,Jzu,Jzv,Jzw,Jzx,Jzy,Jzz,a191,a192,a193,a194,a195,a196,a197,a198,a199,a200,a201,a202,a203,a204,a205,a206,a207,a208,a209,a210,a211,a212,a213,a214,a215,a216,a217,a218,a219,a220,a221,a222,a223,a224,a225,a226,a227,a228,a229,a230,a231,a232,a233],[d]⟩ w') :
  pJ.wp Tryz.prog Q ⟨#[a0,a1,a2,a3,a4,a5,a6,a7,a8,.int .i64 m,.slice (some ⟨g7,0,none⟩) P.length c7,a11,.slice (some ⟨gm,0,none⟩) nm cm,a13,a14,a15,.int .i64 i,.int .i64 0,a18,.slice (some ⟨hb,0,none⟩) 5 5,.slice (some ⟨rb,0,none⟩) N N,a21,a22,a23,a24,a25,a26,a27,a28,a29,a30,a31,a32,a33,a34,a35,a36,a37,a38,a39,a40,a41,a42,a43,a44,a45,a46,a47,a48,a49,a50,a51,a52,a53,a54,a55,a56,a57,a58,a59,a60,a61,a62,a63,a64,a65,a66,a67,a68,a69,a70,a71,a72,a73,a74,a75,a76,a77,a78,a79,a80,a81,a82,a83,a84,a85,a86,a87,a88,a89,a90,a91,a92,a93,a94,a95,a96,a97,a98,a99,a100,a101,a102,a103,a104,a105,a106,a107,a108,a109,a110,a111,a112,a113,a114,a115,a116,a117,a118,a119,a120,a121,a122,a123,a124,a125,a126,a127,a128,a129,a130,a131,a132,a133,a134,a135,a136,a137,a138,a139,a140,a141,a142,a143,a144,a145,a146,a147,a148,a149,a150,a151,a152,a153,a154,a155,a156,a157,a158,a159,a160,Jzf,a162,Jzg,a164,Jzh,Jzi,a167,a168,Jzj,Jzk,a171,Jzl,a173,Jzm,a175,Jzn,Jzo,Jzp,Jzq,Jzr,Jzs,a182,a183,Jzt,Jzu,Jzv,Jzw,Jzx,Jzy,Jzz,a191,a192,a193,a194,a195,a196,a197,a198,a199,a200,a201,a202,a203,a204,a205,a206,a207,a208,a209,a210,a211,a212,a213,a214,a215,a216,a217,a218,a219,a220,a221,a222,a223,a224,a225,a226,a227,a228,a229,a230,a231,a232,a233],[d]⟩ w:=by
 obtain ⟨i3,hi3,hz0,hz1,hz2⟩:=info_parts info3;have hmx:maxLen=9223372036854775807:=by decide
 have hi':(i:Int)<nm:=by omega
 have hall:∀ j,J0w (J30 m gk P j):=Jfr fun p hp=>(hok p hp).1;obtain ⟨n7,hn7⟩:∃ n,P.length=n:=⟨_,rfl⟩;rw [hn7] at hP hQ ⊢;have hPj:∀ j,j<n7->∃ p,P[j]?=some p:=fun j hj=>⟨_,Jb1 (hn7▸hj)⟩;simp only [pJ,inI,lpI,tail3,b3,fC,sC,bC,lC,Tryz.f3,Ja6];go_wp2
 go_loopw [17,21] (fun v j wr=>∃ k:Nat,k<=n7/\j=.int .i64 k/\v=.int .i64 (Jq c J06 (J30 m gk P k)).n/\Tch w0.heap.size M0 w0 wr/\Row false wr hb 3 .i64 (Jq c J06 (J30 m gk P k)).h 5/\Row false wr rb 3 .i64 (Jq c J06 (J30 m gk P k)).r N) (fun _ j _=>n7-(RowKit.intOf j).toNat)
 case atStart=>exact ⟨0,by omega,rfl,rfl,ht0,hH,hR⟩
 case round=>
  clear hH hR ht0;obtain ⟨k,hk7,rfl,rfl,ht,hH,hR⟩:=hrel;generalize wr=wj at *;rcases Jb5 k n7 with hlt|hge
  ·obtain ⟨p,hp⟩:=hPj k hlt;obtain ⟨hpo,hp3⟩:=hok p (Jd0 hp);have hacc:=Jqv (m:=m) (g:=gk) hp;have hbs:=Jtl hc hnb (hall k) hpo;have cr:∀ wx,Tch w0.heap.size M0 w0 wx->J3c wx g7 k c p:=fun wx t=>(h7 k p hp).tch t;have hlt':(k:Int)<n7:=by omega
   have hl1:=Jco hc hnb (hall k);have hl2:=Jco hc hnb hpo;have hr1:=(Jjw (bs:=J06) hc _ (hall k)).1;have hr2:=(Jjw (bs:=J06) hc _ hpo).1;rw [hN] at hr1 hr2;generalize hBk:Jq c J06 (J30 m gk P k)=B at *;obtain ⟨⟨v0,k1,k2⟩,n1,⟨xb,xq,r1,r2⟩,⟨yb,yq,h1,h2⟩⟩:=h7 k p hp;generalize hB2:Jq c J06 p.2=B2 at *;rcases k2 with ⟨_,e⟩|⟨kb,kc,rfl,_,k3⟩
   ·rw [e] at hp3;simp at hp3
   have k4:∀ q,q<3->w0.cell? ⟨kb,q,none⟩=some (.int .i64 (p.1.getD q 0)):=fun q hq=>k3.cell (by omega);have y4:∀ q,q<5->w0.cell? ⟨yb,q,none⟩=some (.int .i64 (B2.h.getD q 0)):=fun q hq=>h2.cell (by omega);have x4:∀ q,q<N->w0.cell? ⟨xb,q,none⟩=some (.int .i64 (B2.r.getD q 0)):=fun q hq=>r2.cell (by omega);have hcl:∀ {wx:World} {a:Addr} {u:Value},Tch w0.heap.size M0 w0 wx->w0.cell? a=some u->wx.cell? a=some u:=fun t h=>(t.cell (cell_lt h) fun x=>x).trans h;rw [hp3] at k1;rw [hl2] at h1;rw [hr2] at r1;clear h7 hok hPj hall r2 h2 k3 hpo cr;go_wp2
   go_loopw [22,23] (fun v x wd=>∃ q:Nat,q<=3/\x=.int .i64 q/\PI wd wj.heap.size v (J0o m p.1 q)/\Tch wj.heap.size M0 wj wd) (fun _ x _=>3-(RowKit.intOf x).toNat)
   case atStart=>exact ⟨0,by omega,rfl,PI.nil _ _,.refl⟩
   case round=>
    obtain ⟨q,hq,rfl,hv,hd⟩:=hrel;have htd:Tch w0.heap.size M0 w0 wr:=ht.then hd ht.size fun _ _ h=>h;have hbit:=Ji4 m q;have hlen:(J0o m p.1 q).length<=5:=by unfold J0o;rw [Jc3];refine Jb6 (List.length_filter_le _ _) ?_;simp;omega
    have hsz:=hd.size;rcases Jb5 q 3 with hq3|hq3
    ·have g1:=hcl htd k1;have g2:=hcl htd (k4 q hq3);have hq3':(q:Int)<3:=by omega
     have hsucc:=Jfx (m:=m) (n:=q) (k:=p.1) (by omega);clear hacc hbs hk k1 k4 y4 x4 r1 h1 n1 hB2;cases hb:m.testBit q
     ·rw [hb] at hbit hsucc;simp only [Jc1,if_false] at hsucc;go_wp2;exact ⟨⟨q+1,by omega,by go_num,by rw [hsucc];exact hv,hd⟩,by simp [RowKit.intOf];omega⟩
     ·rw [hb] at hbit hsucc;simp only [if_true] at hsucc;generalize p.1.getD q 0=y at *
      go_wp2_with (at_builtin;refine J1g _ rfl _ _ 33 rfl wj.heap.size 3 i3 _ 1 8 Tryz.underlying33 hi3 hz0 hz1 hz2 rfl (by decide) _ _ _ rfl (hv.own.alloc _) ⟨wr.heap.size,0,none⟩ 1 1 [.int .i64 y] rfl rfl (Jkx (Ja _)) (by simp [Value.oneCell']) (by omega) (by omega) (by rw [size_alloc];omega) (hv.pl.kept fun g n cap e=>J7 _ (hv.lt e).2) (fun u hu=>by rcases Jb8.1 hu with rfl|hu;exact ⟨_,_,rfl⟩;cases hu) (Plain.ai (k:=.i64) (xs:=[0])) ?_;intro v' w1 hown' hgrow hnil hpl')
      obtain ⟨z1,z2⟩:=hv.pushed hown' hgrow hnil hpl' (by omega);exact ⟨⟨q+1,by omega,by go_num,by rw [hsucc];exact z1,hd.trans z2⟩,by simp [RowKit.intOf];omega⟩
    ·have hge':¬ (q:Int)<3:=by omega
     obtain rfl:q=3:=by omega
     rw [Jqx hp3] at hv hlen;have g3:=hcl htd hk;have hsame:=J93 (w:=wr) hv.sl.zero (hkv.tch htd) (by omega);have hHd:=hH.tch hd hH.lt fun x=>x;have hRd:=hR.tch hd hR.lt fun x=>x;clear hbit hq hH hR k1 k4 hk;by_cases hgk:J6d m p.1=gk
     ·rw [if_pos hgk] at hacc;rw [decide_eq_true hgk] at hsame
      go_wp2_with (go_at_call 11;refine hsame.mono ?_;rintro e w1 ⟨rfl,t1⟩;have ht1:Tch w0.heap.size M0 w0 w1:=htd.then t1 htd.size fun _ _ h=>h;have g4:=hcl ht1 n1)
      have hH1:=hHd.tch t1 hHd.lt fun x=>x;have hR1:=hRd.tch t1 hRd.lt fun x=>x;clear hHd hRd hsame hv hlen g3 g4 hd htd t1 n1
      go_loopw [25] (fun x wh=>∃ q:Nat,q<=5/\x=.int .i64 q/\Row false wh hb 3 .i64 (J0c (J0n B.h B2.h) B.h q) 5/\Row false wh rb 3 .i64 B.r N/\Tch w0.heap.size M0 w0 wh) (fun x _=>5-(RowKit.intOf x).toNat)
      case atStart=>exact ⟨0,by omega,rfl,by rw [J2r];exact hH1,hR1,ht1⟩
      case round=>
       clear hH1 hR1 ht1;obtain ⟨q,hq,rfl,hHh,hRh,hth⟩:=hrel;have hml:(J0n B.h B2.h).length=B.h.length:=J7j (by omega);rcases Jb5 q 5 with hq5|hq5
       ·have z1:=hcl hth h1;have z2:=hcl hth (y4 q hq5);have z3:=hHh.cell (i:=q) (by rw [J0e hml];omega);rw [J75 hml (by omega)] at z3;have z4:=hHh.frozen q;have Jto:(q:Int)<5:=by omega
        have hm:=Jhr (xs:=B.h) (ys:=B2.h) (by omega) (k:=q) (by omega);have hp':∀ v,v=(J0n B.h B2.h).getD q 0->(J0c (J0n B.h B2.h) B.h q).set q v=J0c (J0n B.h B2.h) B.h (q+1):=fun v hv=>J3e hml (by omega) hv;generalize B.h.getD q 0=x at *;generalize B2.h.getD q 0=y at *;clear hacc hbs y4 x4 r1 h1 hkv;have hw6:IntKind.i64.wrap (x+y)=wrap64 (x+y):=by rw [IntKind.wrap_i64];unfold wrap64;omega
        go_wp2;refine Jbr 115 [.slice (some ⟨hb,0,none⟩) 5 5,.int .i64 q,.slice (some ⟨hb,0,none⟩) 5 5,.int .i64 q,.pointer (some ⟨hb,q,none⟩),.int .i64 x,.slice (some ⟨g7,0,none⟩) n7 c7,.int .i64 k,.pointer (some ⟨g7,k*5,none⟩),.pointer (some ⟨g7,k*5+3,none⟩),.slice (some ⟨yb,0,none⟩) 5 yq,.int .i64 q,.pointer (some ⟨yb,q,none⟩),.int .i64 y,.int .i64 (wrap64 (x+y)),.pointer (some ⟨hb,q,none⟩)] mixed (by kernel_rfl) (by show 115+16<=234;omega) (fun i o v a wv ho hv htv hold hd=>?_) fun wv htv=>?_
        ·match i,ho,hv with
         | 0,ho,hv=>
          cases ho;cases hv;have s0:a.tmps[19]?=some _:=(hold 19 (.inl (by omega))).trans rfl;simp [execOp,go_sem,s0]
          try rfl
         | 1,ho,hv=>
          cases ho;cases hv;have s0:a.tmps[25]?=some _:=(hold 25 (.inl (by omega))).trans rfl;simp [execOp,go_sem,s0]
          try rfl
         | 2,ho,hv=>
          cases ho;cases hv;have s0:a.tmps[19]?=some _:=(hold 19 (.inl (by omega))).trans rfl;simp [execOp,go_sem,s0]
          try rfl
         | 3,ho,hv=>
          cases ho;cases hv;have s0:a.tmps[25]?=some _:=(hold 25 (.inl (by omega))).trans rfl;simp [execOp,go_sem,s0]
          try rfl
         | 4,ho,hv=>
          cases ho;cases hv;have e2:a.tmps[117]?=some _:=hd 2 rfl;have e3:a.tmps[118]?=some _:=hd 3 rfl;simp [execOp,go_sem,e2,e3,Jto]
          try rfl
         | 5,ho,hv=>
          cases ho;cases hv;have e4:a.tmps[119]?=some _:=hd 4 rfl;simp [execOp,go_sem,e4,htv.cell (a:=⟨hb,q,none⟩) (cell_lt z3) (fun x=>x),z3]
          try rfl
         | 6,ho,hv=>
          cases ho;cases hv;have s0:a.tmps[10]?=some _:=(hold 10 (.inl (by omega))).trans rfl;simp [execOp,go_sem,s0]
          try rfl
         | 7,ho,hv=>
          cases ho;cases hv;have s0:a.tmps[21]?=some _:=(hold 21 (.inl (by omega))).trans rfl;simp [execOp,go_sem,s0]
          try rfl
         | 8,ho,hv=>
          cases ho;cases hv;have e6:a.tmps[121]?=some _:=hd 6 rfl;have e7:a.tmps[122]?=some _:=hd 7 rfl;simp [execOp,go_sem,e6,e7,hlt']
          try rfl
         | 9,ho,hv=>
          cases ho;cases hv;have e8:a.tmps[123]?=some _:=hd 8 rfl;simp [execOp,go_sem,e8]
          try rfl
         | 10,ho,hv=>
          cases ho;cases hv;have e9:a.tmps[124]?=some _:=hd 9 rfl;simp [execOp,go_sem,e9,htv.cell (a:=⟨g7,k*5+3,none⟩) (cell_lt z1) (fun x=>x),z1]
          try rfl
         | 11,ho,hv=>
          cases ho;cases hv;have s0:a.tmps[25]?=some _:=(hold 25 (.inl (by omega))).trans rfl;simp [execOp,go_sem,s0]
          try rfl
         | 12,ho,hv=>
          cases ho;cases hv;have e10:a.tmps[125]?=some _:=hd 10 rfl;have e11:a.tmps[126]?=some _:=hd 11 rfl;simp [execOp,go_sem,e10,e11,Jto]
          try rfl
         | 13,ho,hv=>
          cases ho;cases hv;have e12:a.tmps[127]?=some _:=hd 12 rfl;simp [execOp,go_sem,e12,htv.cell (a:=⟨yb,q,none⟩) (cell_lt z2) (fun x=>x),z2]
          try rfl
         | 14,ho,hv=>
          cases ho;cases hv;have e5:a.tmps[120]?=some _:=hd 5 rfl;have e13:a.tmps[128]?=some _:=hd 13 rfl;simp [execOp,go_sem,e5,e13,hw6]
          try rfl
         | 15,ho,hv=>
          cases ho;cases hv;have e0:a.tmps[115]?=some _:=hd 0 rfl;have e1:a.tmps[116]?=some _:=hd 1 rfl;simp [execOp,go_sem,e0,e1,Jto]
          try rfl
         | i+16,_,hv=>simp at hv
        simp only [Jd2,List.length_nil,Nat.reduceAdd,List.drop_succ_cons,List.drop_zero,setFrom,List.setIfInBounds_toArray,List.set_cons_succ,List.set_cons_zero];have hHv:=hHh.tch htv hHh.lt fun x=>x;have hRv:=hRh.tch htv hRh.lt fun x=>x;have z4:=hHv.frozen q;have z3:=(htv.cell (a:=⟨hb,q,none⟩) (cell_lt z3) (fun x=>x)).trans z3;have hth:=hth.then htv hth.size fun _ _ h=>h;go_wp2;refine ⟨⟨q+1,by omega,by go_num,?_,hRv.kept (Jk _ _ (Ne.symm hne)),hth.set (.inl hhb) _⟩,by simp [RowKit.intOf];omega⟩;have:=hHv.set q (wrap64 (x+y));rw [hp' _ hm.symm] at this;exact this
       ·have Jwu:¬ ((q:Int)<5):=by omega
        obtain rfl:q=5:=by omega
        rw [J3d (by omega) hl1] at hHh;go_wp2
        go_loopw [26] (fun x wh=>∃ q:Nat,q<=N/\x=.int .i64 q/\Row false wh hb 3 .i64 (J0n B.h B2.h) 5/\Row false wh rb 3 .i64 (J0c (maxL B.r B2.r) B.r q) N/\Tch w0.heap.size M0 w0 wh) (fun x _=>N-(RowKit.intOf x).toNat)
        case atStart=>exact ⟨0,by omega,rfl,hHh,by rw [J2r];exact hRh,hth⟩
        case round=>
         clear hHh hRh hth hml;obtain ⟨q,hq,rfl,hHh,hRh,hth⟩:=hrel;have hml:(maxL B.r B2.r).length=B.r.length:=J7i (by omega);rcases Jb5 q N with hqN|hqN
         ·have z1:=hcl hth r1;have z2:=hcl hth (x4 q hqN);have z3:=hRh.cell (i:=q) (by rw [J0e hml];omega);have z5:=J75 hml (k:=q) (by omega);rw [z5] at z3;have z4:=hRh.frozen q;have Jtp:(q:Int)<N:=by omega
          have hm:=Jhq (xs:=B.r) (ys:=B2.r) (by omega) (k:=q) (by omega);have hp':∀ v,v=(maxL B.r B2.r).getD q 0->(J0c (maxL B.r B2.r) B.r q).set q v=J0c (maxL B.r B2.r) B.r (q+1):=fun v hv=>J3e hml (by omega) hv;have hself:=set_self (l:=J0c (maxL B.r B2.r) B.r q) (i:=q) (by rw [J0e hml];omega);rw [z5] at hself;generalize B.r.getD q 0=x at *;generalize B2.r.getD q 0=y at *;clear hacc hbs y4 x4 r1 h1 hkv;go_wp2;refine Jbr 137 [.slice (some ⟨g7,0,none⟩) n7 c7,.int .i64 k,.pointer (some ⟨g7,k*5,none⟩),.pointer (some ⟨g7,k*5+2,none⟩),.slice (some ⟨xb,0,none⟩) N xq,.int .i64 q,.pointer (some ⟨xb,q,none⟩),.int .i64 y,.slice (some ⟨rb,0,none⟩) N N,.int .i64 q,.pointer (some ⟨rb,q,none⟩),.int .i64 x,.bool (decide (y > x))] mixed (by kernel_rfl) (by show 137+13<=234;omega) (fun i o v a wv ho hv htv hold hd=>?_) fun wv htv=>?_
          ·match i,ho,hv with
           | 0,ho,hv=>
            cases ho;cases hv;have s0:a.tmps[10]?=some _:=(hold 10 (.inl (by omega))).trans rfl;simp [execOp,go_sem,s0]
            try rfl
           | 1,ho,hv=>
            cases ho;cases hv;have s0:a.tmps[21]?=some _:=(hold 21 (.inl (by omega))).trans rfl;simp [execOp,go_sem,s0]
            try rfl
           | 2,ho,hv=>
            cases ho;cases hv;have e0:a.tmps[137]?=some _:=hd 0 rfl;have e1:a.tmps[138]?=some _:=hd 1 rfl;simp [execOp,go_sem,e0,e1,hlt']
            try rfl
           | 3,ho,hv=>
            cases ho;cases hv;have e2:a.tmps[139]?=some _:=hd 2 rfl;simp [execOp,go_sem,e2]
            try rfl
           | 4,ho,hv=>
            cases ho;cases hv;have e3:a.tmps[140]?=some _:=hd 3 rfl;simp [execOp,go_sem,e3,htv.cell (a:=⟨g7,k*5+2,none⟩) (cell_lt z1) (fun x=>x),z1]
            try rfl
           | 5,ho,hv=>
            cases ho;cases hv;have s0:a.tmps[26]?=some _:=(hold 26 (.inl (by omega))).trans rfl;simp [execOp,go_sem,s0]
            try rfl
           | 6,ho,hv=>
            cases ho;cases hv;have e4:a.tmps[141]?=some _:=hd 4 rfl;have e5:a.tmps[142]?=some _:=hd 5 rfl;simp [execOp,go_sem,e4,e5,Jtp]
            try rfl
           | 7,ho,hv=>
            cases ho;cases hv;have e6:a.tmps[143]?=some _:=hd 6 rfl;simp [execOp,go_sem,e6,htv.cell (a:=⟨xb,q,none⟩) (cell_lt z2) (fun x=>x),z2]
            try rfl
           | 8,ho,hv=>
            cases ho;cases hv;have s0:a.tmps[20]?=some _:=(hold 20 (.inl (by omega))).trans rfl;simp [execOp,go_sem,s0]
            try rfl
           | 9,ho,hv=>
            cases ho;cases hv;have s0:a.tmps[26]?=some _:=(hold 26 (.inl (by omega))).trans rfl;simp [execOp,go_sem,s0]
            try rfl
           | 10,ho,hv=>
            cases ho;cases hv;have e8:a.tmps[145]?=some _:=hd 8 rfl;have e9:a.tmps[146]?=some _:=hd 9 rfl;simp [execOp,go_sem,e8,e9,Jtp]
            try rfl
           | 11,ho,hv=>
            cases ho;cases hv;have e10:a.tmps[147]?=some _:=hd 10 rfl;simp [execOp,go_sem,e10,htv.cell (a:=⟨rb,q,none⟩) (cell_lt z3) (fun x=>x),z3]
            try rfl
           | 12,ho,hv=>
            cases ho;cases hv;have e7:a.tmps[144]?=some _:=hd 7 rfl;have e11:a.tmps[148]?=some _:=hd 11 rfl;simp [execOp,go_sem,e7,e11]
            try rfl
           | i+13,_,hv=>simp at hv
          simp only [Jd2,List.length_nil,Nat.reduceAdd,List.drop_succ_cons,List.drop_zero,setFrom,List.setIfInBounds_toArray,List.set_cons_succ,List.set_cons_zero];have hHv:=hHh.tch htv hHh.lt fun x=>x;have hRv:=hRh.tch htv hRh.lt fun x=>x;have z4:=hRv.frozen q;have z3:=(htv.cell (a:=⟨rb,q,none⟩) (cell_lt z3) (fun x=>x)).trans z3;have z1:=(htv.cell (a:=⟨g7,k*5+2,none⟩) (cell_lt z1) (fun x=>x)).trans z1;have z2:=(htv.cell (a:=⟨xb,q,none⟩) (cell_lt z2) (fun x=>x)).trans z2;have hth:=hth.then htv hth.size fun _ _ h=>h;by_cases hgt:y > x
          ·rw [decide_eq_true hgt];refine wpList_nil ?_;go_wp2;refine ⟨⟨q+1,by omega,by go_num,hHv.kept (Jk _ _ hne),?_,hth.set (.inl hrb) _⟩,by simp [RowKit.intOf];omega⟩;have:=hRv.set q y;rw [hp' _ (by omega)] at this;exact this
          ·rw [decide_eq_false hgt];refine wpList_nil ?_;go_wp2;refine ⟨⟨q+1,by omega,by go_num,hHv,?_,hth⟩,by simp [RowKit.intOf];omega⟩;rw [hp' x (by omega)] at hself;rw [hself];exact hRv
         ·have hge3:¬ ((q:Int)<N):=by omega
          obtain rfl:q=N:=by omega
          rw [J3d (by omega) hr1] at hRh;clear y4 x4 r1 h1 hkv;go_wp2;exact ⟨⟨k+1,by omega,by go_num,by rw [hacc,hbs.1],hth,by rw [hacc,hbs.2.2];exact hHh,by rw [hacc,hbs.2.1];exact hRh⟩,by simp [RowKit.intOf];omega⟩
     ·rw [if_neg hgk] at hacc;rw [decide_eq_false hgk] at hsame
      go_wp2_with (go_at_call 11;refine hsame.mono ?_;rintro e w1 ⟨rfl,t1⟩)
      refine ⟨⟨k+1,by omega,by go_num,?_,htd.then t1 htd.size fun _ _ h=>h,?_,?_⟩,by simp [RowKit.intOf];omega⟩
      ·rw [hacc,hBk]
      ·rw [hacc,hBk];exact hHd.tch t1 hHd.lt fun x=>x
      ·rw [hacc,hBk];exact hRd.tch t1 hRd.lt fun x=>x
  ·obtain rfl:k=n7:=by omega
   have hge':¬ ((k:Int)<k):=by omega
   clear h7 hok hPj hall hk hkv;go_wp2;exact hQ _ _ _ _ _ _ _ _ _ _ _ _ _ _ _ _ _ _ _ _ _ _ _ _ _ _ _ _ _ _ _ _ _ _ _ _ _ _ _ _ _ _ _ _ _ _ _ _ _ _ _ _ _ _ _ _ _ _ _ _ _ _ _ _ _ _ _ _ _ _ _ _ _ _ _ _ _ _ _ _ _ _ _ _ _ _ _ _ _ _ _ _ _ _ _ _ _ _ _ ht hH hR
end
theorem Jtq {P:List J42} {k:Nat} {p:J42} (h:P[k]?=some p):((P.take (k+1)).map fun q=>q.2.length).sum=((P.take k).map fun q=>q.2.length).sum+p.2.length:=by rw [List.take_add_one,h,List.map_append,List.sum_append];simp
theorem Jkp {P:List J42} (k:Nat):((P.take k).map fun q=>q.2.length).sum<=(P.map fun q=>q.2.length).sum:=by
 have e:P.map (fun q=>q.2.length)=(P.take k).map (fun q=>q.2.length)++(P.drop k).map (fun q=>q.2.length):=by rw [<- List.map_append,List.take_append_drop]
 rw [e,List.sum_append];omega
theorem Jkq {l:List Int} {q:Nat} {p:Int->Bool} (h:q<l.length):(l.take (q+1)).countP p=(l.take q).countP p+if p (l.getD q 0) then 1 else 0:=by rw [List.take_add_one,Jb1 h,List.countP_append,Ja7,Jb1 h];simp [List.countP_cons]
section
variable {w:World} {c:J8} {cz:Int} {m n g7 c7 gm cm fc:Nat} {ga:Option Addr} {P Pm:List J42} {d:Deferred}
theorem Jlj (hcz:I64 cz) (hb:c.bits=4+Ju cz 1048576 % 3) (w:World):Calls Tryz.prog 10 #[.int .i64 cz] w fun e w'=>∃ (k u:Int) (b:Nat),e=.returned (.agg #[.int .i64 3,.int .i64 c.bits,.int .i64 k,.slice (some ⟨b,0,none⟩) 4 4,.int .i64 u])/\Tch w.heap.size M0 w w':=by refine (J9c hcz w).mono ?_;rintro e w' ⟨rfl,rfl⟩;rw [hb];exact ⟨_,_,_,rfl,(Tch.refl.alloc (Ja2 _) _).alloc (by rw [size_alloc];omega) _⟩
theorem Jqy {T0:Array Value} (hT:T0.size=234) (hcz:I64 cz) (hb:c.bits=4+Ju cz 1048576 % 3) (t0:T0[0]?=some (.int .i64 cz)) (t7:T0[7]?=some (.slice ga 0 fc)) (t11:T0[11]?=some .nilIface) (t12:∃ a q,T0[12]?=some (.slice a 0 q)) (t13:T0[13]?=some .nilIface) :
  tail3.wp Tryz.prog (fun e a w'=>e=.ret/\a.defers=[d]/\a.tmps.size=234/\(a.tmps[1]?=T0[1]?/\a.tmps[30]?=T0[30]?)/\a.tmps[6]?=some (.bool true)/\Tch w.heap.size M0 w w') ⟨T0,[d]⟩ w:=by
 obtain ⟨va,vq,t12⟩:=t12;obtain ⟨f,rfl⟩:=Jaq hT;have e0:f 0=_:=Ja0 t0;have e7:f 7=_:=Ja0 t7;have e11:f 11=_:=Ja0 t11;have e12:f 12=_:=Ja0 t12;have e13:f 13=_:=Ja0 t13;rw [e0,e7,e11,e12,e13];clear t0 t7 t11 t12 t13 e0 e7 e11 e12 e13;have hcf:=Jlj hcz hb w;have hfd:=Jli;clear hb;simp only [tail3,b3,fC,sC,Tryz.f3,Ja6]
 go_wp2_with (go_at_call 10;refine hcf.mono ?_;rintro e w1 ⟨cK,cu,cb,rfl,t1⟩)
 go_loopw [15,16] (fun t i wr=>i=.int .i64 0/\t=.int .i64 0/\Tch w.heap.size M0 w wr) (fun _ _ _=>0)
 case atStart=>exact ⟨rfl,rfl,t1⟩
 case round=>
  obtain ⟨rfl,rfl,ht⟩:=hrel;go_wp2
  all_goals exact ht
theorem Jtr {T0:Array Value} (hT:T0.size=234) (hcz:I64 cz) (hb:c.bits=4+Ju cz 1048576 % 3) (t0:T0[0]?=some (.int .i64 cz)) (t7:T0[7]?=some (.slice ga n fc)) (t9:T0[9]?=some (.int .i64 m)) (t10:T0[10]?=some (.slice (some ⟨g7,0,none⟩) P.length c7)) (t11:T0[11]?=some .nilIface) (t12:T0[12]?=some (.slice (some ⟨gm,0,none⟩) Pm.length cm)) (t13:T0[13]?=some .nilIface)
  (hc:Jw c) (hnb:c.nb=4) (hD:Juz c m n P Pm) (hn:n<=200) (hP:P.length<=1000) (hPm:Pm.length<=1000) (h7:∀ j p,P[j]?=some p->J3c w g7 j c p) (hmm:∀ j p,Pm[j]?=some p->J3c w gm j c p) :
  tail3.wp Tryz.prog (fun e a w'=>e=.ret/\a.defers=[d]/\a.tmps.size=234/\(a.tmps[1]?=T0[1]?/\a.tmps[30]?=T0[30]?)/\a.tmps[6]?=some (.bool true)/\Tch w.heap.size M0 w w') ⟨T0,[d]⟩ w:=by
 obtain ⟨f,rfl⟩:=Jaq hT;have e0:f 0=_:=Ja0 t0;have e7:f 7=_:=Ja0 t7;have e9:f 9=_:=Ja0 t9;have e10:f 10=_:=Ja0 t10;have e11:f 11=_:=Ja0 t11;have e12:f 12=_:=Ja0 t12;have e13:f 13=_:=Ja0 t13;rw [e0,e7,e9,e10,e11,e12,e13];clear t0 t7 t9 t10 t11 t12 t13 e0 e7 e9 e10 e11 e12 e13;have hcf:=Jlj hcz hb w;have hfd:=Jli;clear hb;have hb1:=hc.b1;have hb2:=hc.b2;have hb3:c.bits=4\/c.bits=5\/c.bits=6:=by omega
 obtain ⟨N,hN⟩:∃ N,2 ^ c.bits.toNat=N:=⟨_,rfl⟩;have hN64:N<=64/\0<N:=by
  rcases hb3 with e|e|e<;>rw [<- hN,e]<;>decide
 have Ji5:IntKind.i64.wrap (2 ^ c.bits.toNat)=N:=by
  rw [IntKind.wrap_i64];rcases hb3 with e|e|e<;>rw [<- hN,e]<;>decide
 have hpow2:wrap64 (2 ^ c.bits.toNat)=N:=by have:=Ji5;rw [IntKind.wrap_i64] at this;unfold wrap64;omega
 have hcl:∀ {wx:World} {a:Addr} {u:Value},Tch w.heap.size M0 w wx->w.cell? a=some u->wx.cell? a=some u:=fun t h=>(t.cell (cell_lt h) fun x=>x).trans h;obtain ⟨nm,hnm⟩:∃ k,Pm.length=k:=⟨_,rfl⟩;rw [hnm] at hPm ⊢;have hPj:∀ j,j<nm->∃ p,Pm[j]?=some p:=fun j hj=>⟨_,Jb1 (hnm▸hj)⟩;have hone:=hD.one;rw [hnm] at hone;have hsum:∀ k,((Pm.take k).map fun q=>q.2.length).sum<=n:=fun k=>by rw [<- hD.sum];exact Jkp k
 have hfin:((Pm.take nm).map fun q=>q.2.length).sum=n:=by rw [<- hnm,List.take_length];exact hD.sum
 obtain ⟨X,hX,hX'⟩:∃ X:Code,X=pJ/\X=pJ:=⟨_,rfl,rfl⟩;simp only [pJ,inI,lpI,tail3,b3,fC,sC,bC,lC,Tryz.f3,Ja6] at hX;simp only [tail3,b3,fC,sC,Tryz.f3,Ja6]
 go_wp2_with (go_at_call 10;refine hcf.mono ?_;rintro e w1 ⟨cK,cu,cb,rfl,t1⟩)
 go_loopw [15,16] (fun t i wr=>∃ k:Nat,k<=nm/\i=.int .i64 k/\t=.int .i64 ((((Pm.take k).map fun q=>q.2.length).sum:Nat):Int)/\Tch w.heap.size M0 w wr) (fun _ i _=>nm-(RowKit.intOf i).toNat)
 case atStart=>exact ⟨0,by omega,rfl,rfl,t1⟩
 case round=>
  rw [<- hX];clear hX hcf t1;obtain ⟨k,hk,rfl,rfl,ht⟩:=hrel;rcases Jb5 k nm with hlt|hge
  ·obtain ⟨p,hp⟩:=hPj k hlt;obtain ⟨f1,f2,f3,f4⟩:=hD.fine p (Jd0 hp);have hst:=Jtq hp;have hs1:=hsum (k+1);obtain ⟨⟨kv,k1,k2⟩,n1,⟨xb,xq,r1,r2⟩,⟨yb,yq,h1,h2⟩⟩:=hmm k p hp;have hlt':(k:Int)<nm:=by omega
   have hm5:(Instr.makeSlice 33 (.int .i64 5) (.int .i64 5)).run Tryz.prog wr=.ok (.slice (some ⟨wr.heap.size,0,none⟩) 5 5) (wr.alloc (.cells (Array.replicate 5 (.int .i64 0)) 3)):=mkRow 33 3 .i64 8 Tryz.underlying33 info3 (by omega) 5 (by omega) wr;have hsz:=ht.size;have ht5:=ht.alloc (by omega) (.cells (Array.replicate 5 (.int .i64 0)) 3);have hH0:=J6l wr 3 .i64 5;have hz5:(wr.alloc (.cells (Array.replicate 5 (.int .i64 0)) 3)).heap.size=wr.heap.size+1:=by simp
   generalize wr.alloc (.cells (Array.replicate 5 (.int .i64 0)) 3)=w5 at *;have hmN:=mkRow 33 3 .i64 8 Tryz.underlying33 info3 (by omega) N (by omega) w5;have htN:=ht5.alloc (by omega) (.cells (Array.replicate N (.int .i64 0)) 3);have hHN:=hH0.kept (w':=w5.alloc (.cells (Array.replicate N (.int .i64 0)) 3)) (J7 _ hH0.lt);have hRN:=J6l w5 3 .i64 N;rw [hz5] at hmN hRN;generalize w5.alloc (.cells (Array.replicate N (.int .i64 0)) 3)=wN at *;have e5:(Jq c J06 []).h=List.replicate 5 0:=by show List.replicate (c.nb+1) 0=_;rw [hnb]
   have eN:(Jq c J06 []).r=List.replicate N 0:=by show List.replicate (2 ^ c.bits.toNat) 0=_;rw [hN]
   have hpl:p.2.length<=n:=by omega
   have hall:J0w (J30 m p.1 P P.length):=Jfr (fun q hq=>(hD.ok7 q hq).1) _;obtain ⟨br1,br2,br3,br4⟩:=Jjw (bs:=J06) hc _ hall;have bh:=Jco hc hnb hall;have br4:=br4 f2;have hBn:(Jq c J06 p.2).n=p.2.length:=Jqh (by omega);have Jts:0<k->¬ (m:Int)=0:=fun h e=>by have:=hone (by omega);omega
   rw [f1] at br1 br2 br3 br4 bh;rw [f3] at br3;rw [hN] at br1;rw [<- e5] at hHN;rw [<- eN] at hRN;clear hPj hsum hone hfin hall f2 f3 f4 ht5 hz5 hb3 e5 eN hH0;go_wp2;rw [hX'];refine J04o (w0:=w) (P:=P) (gk:=p.1) (kv:=kv) hlt hc hnb hN hN64.1 h7 hD.ok7 hP k1 k2 htN hsz (by omega) (by omega) hHN hRN ?_;clear hHN hRN htN h7 hmm hX' X hmN hm5;intro u21 u22 u23 u24 u25 u26 u69 u70 u71 u72 u73 u74 u75 u76 u77 u78 u79 u80 u81 u82 u83 u84 u85 u86 u87 u88 u89 u90 u91 u92 u93 u94 u95 u96 u97 u98 u99 u100 u101 u102 u103 u104 u105 u106 u107 u108 u109 u110 u111 u112 u113 u114 u115 u116 u117 u118 u119 u120 u121 u122 u123 u124 u125 u126 u127 u128 u129 u130 u131 u132 u133 u134 u135 u136 u137 u138 u139 u140 u141 u142 u143 u144 u145 u146 u147 u148 u149 u150 u151 u152 u153 u154 u155 u156 u157 u158 u159 u160 w8 ht8 hH8 hR8;rw [f1] at hH8 hR8 ⊢;generalize hB:Jq c J06 p.2=B at *;rw [bh] at h1;rw [br1] at r1;have z1:=hcl ht8 h1;have hs1':=J93 (w:=w8) (a:=.slice (some ⟨wr.heap.size,0,none⟩) 5 5) (b:=.slice (some ⟨yb,0,none⟩) 5 yq) (xs:=B.h) (ys:=B.h) (.inr ⟨_,_,by rw [bh],Nat.zero_le _,hH8⟩) (.inr ⟨_,_,by rw [bh],Nat.zero_le _,h2.tch ht8 h2.lt fun x=>x⟩) (by omega);have hs2:=fun w9 (t9:Tch w8.heap.size M0 w8 w9)=>J93 (w:=w9) (a:=.slice (some ⟨wr.heap.size+1,0,none⟩) N N) (b:=.slice (some ⟨xb,0,none⟩) N xq) (xs:=B.r) (ys:=B.r) (.inr ⟨_,_,by rw [br1],Nat.zero_le _,hR8.tch t9 hR8.lt fun x=>x⟩) (.inr ⟨_,_,by rw [br1],Nat.zero_le _,(r2.tch ht8 r2.lt fun x=>x).tch t9 (Jb7 r2.lt ht8.size) fun x=>x⟩) (by omega);rw [decide_eq_true rfl] at hs1';simp only [decide_eq_true] at hs2
   go_wp2_with (go_at_call 11;first
    | (refine hs2'.mono ?_;rintro e wA ⟨rfl,tA⟩;have htA:Tch w.heap.size M0 w wA:=ht9.then tA ht9.size (fun _ _ h=>h);have hRA:=hR9.tch tA hR9.lt (fun x=>x);have z3:=hcl htA n1)
    | (refine hs1'.mono ?_;rintro e w9 ⟨rfl,t9⟩;have ht9:Tch w.heap.size M0 w w9:=ht8.then t9 ht8.size (fun _ _ h=>h);have z2:=hcl ht9 r1;have hs2':=hs2 w9 t9;have hR9:=hR8.tch t9 hR8.lt (fun x=>x)))
   clear hs1' hs2 hs2' z1 z2 hR9 hR8 hH8 t9 tA ht8 ht9 h1 h2 r1 r2
   go_loopw [18,29] (fun v x wh=>∃ q:Nat,q<=N/\x=.int .i64 q/\v=.int .i64 (((B.r.take q).countP fun x=>decide (0<x):Nat):Int)/\wh=wA) (fun _ x _=>N-(RowKit.intOf x).toNat)
   case atStart=>exact ⟨0,by omega,rfl,rfl,rfl⟩
   case round=>
    obtain ⟨q,hq,rfl,rfl,rfl⟩:=hrel;rcases Jb5 q N with hqN|hqN
    ·have c1:=hRA.cell (i:=q) (by omega);have c2:=br2 (B.r.getD q 0) (by rw [Ja7,Jb1 (by omega)];exact List.getElem_mem _);have c3:=Jkq (p:=fun x=>decide (0<x)) (l:=B.r) (q:=q) (by omega);have c4:(B.r.take q).countP (fun x=>decide (0<x))<=q:=Jb6 List.countP_le_length (by rw [List.length_take];omega);generalize B.r.getD q 0=x at *;generalize (B.r.take q).countP (fun x=>decide (0<x))=K at *;have hle:¬ x > 65-c.bits:=by omega
     have Jtp:(q:Int)<N:=by omega
     clear br2 br3 br4 z3 hRA hcl;by_cases hx:0<x
     ·rw [decide_eq_true hx,if_pos rfl] at c3;go_wp2;exact ⟨⟨q+1,by omega,by go_num,by rw [c3];go_num,trivial⟩,by simp [RowKit.intOf];omega⟩
     ·rw [decide_eq_false hx,if_neg (by decide)] at c3;go_wp2;exact ⟨⟨q+1,by omega,by go_num,by rw [c3,Nat.add_zero],trivial⟩,by simp [RowKit.intOf];omega⟩
    ·have hge':¬ ((q:Int)<N):=by omega
     rw [show List.take q B.r=B.r from List.take_of_length_le (by omega)];rw [hBn] at z3
     try rw [hBn]
     try rw [<- List.map_take]
     generalize B.r.countP (fun x=>decide (0<x))=K at *;generalize p.2.length=L at *;generalize ((Pm.take k).map fun q=>q.2.length).sum=S1 at *;have hK1:¬ ((K:Int) > L):=by omega
     have hK2:¬ ((K:Int)=0):=by omega
     clear br2 hRA hcl hb1 hb2 hB hBn Ji5 hpow2;rcases Nat.eq_zero_or_pos k with hk0|hk0
     ·have hkz:¬ ((k:Int) > 0):=by omega
      clear Jts hk0;go_wp2;exact ⟨⟨k+1,by omega,by go_num,by rw [hst];go_num,htA⟩,by simp [RowKit.intOf];omega⟩
     ·have hkz:(k:Int) > 0:=by omega
      have hmz:=Jts hk0;clear Jts hk0;go_wp2
      all_goals first
       | exact ⟨⟨k+1,by omega,by go_num,by rw [hst];go_num,htA⟩,by simp [RowKit.intOf];omega⟩
       | (exfalso;omega)
       | (trace_state;simp_all)
  ·obtain rfl:k=nm:=by omega
   have hge':¬ ((k:Int)<k):=by omega
   rw [hfin];clear hfin hsum hone hPj h7 hmm Ji5 hpow2;go_wp2
   all_goals exact ht
end
end Go.Sim.Z
