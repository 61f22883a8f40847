/- PROVED HERE: laws. Conditions: none. -/
import Derived.StillTailTactics
import Derived.Test.YtlcbehhbfglgaaaGreatF22
set_option linter.all false
set_option maxHeartbeats 8000000
set_option maxRecDepth 100000
namespace Go.Sim.Z
open Go Go.Proofs Go.RowKit Go.Maps
section
variable {w w1 w':World} {c:J8} {m:Nat} {T:List TR} {k:List Int} {bs:List Int}
end
def LJ (w:World) (c:J8) (vb:Nat) (T:List TR) (g:List Int->Option Bun) (N:Nat) (wr:World):Prop:=
 ∃ T',J3n wr c vb T'/\(∀ key,tm T' key=g key)/\T'.length<=N/\(∀ y,y=vb\/y∈tpl T'->(y=vb\/y∈tpl T)\/w.heap.size<=y)/\Tch w.heap.size (fun b=>b=vb\/b∈tpl T) w wr
theorem LJ.tch {w wr:World} {c:J8} {vb N:Nat} {T:List TR} {g:List Int->Option Bun} (h:LJ w c vb T g N wr):Tch w.heap.size (fun b=>b=vb\/b∈tpl T) w wr:=by obtain ⟨_,_,_,_,_,h⟩:=h;exact h
theorem LJ.post {w wr w1:World} {c:J8} {vb N:Nat} {T T':List TR} {g:List Int->Option Bun} {k:List Int} {B:Bun} (h2:∀ key,tm T' key=g key) (h3:T'.length<=N) (h4:∀ y,y=vb\/y∈tpl T'->(y=vb\/y∈tpl T)\/w.heap.size<=y) (h5:Tch w.heap.size (fun b=>b=vb\/b∈tpl T) w wr) (hp:Jmw wr c vb T' k B w1) :
  LJ w c vb T (fun key=>if key=k then some B else g key) (N+1) w1:=by
 obtain ⟨T2,q1,q2,q3,q4,q5⟩:=hp;have:=h5.size;refine ⟨T2,q1,fun key=>by rw [q2,h2],by omega,fun y hy=>?_,h5.then q5 h5.size fun b hb hm=>?_⟩
 ·rcases hy with rfl|hy
  ·exact .inl (.inl rfl)
  ·rcases q4 y hy with h|h
   ·exact h4 y (.inr h)
   ·exact .inr (by omega)
 ·rcases h4 b hm with h|h
  ·exact h
  ·omega
theorem LJ.miss {w wr w1:World} {c:J8} {vb N:Nat} {T:List TR} {g:List Int->Option Bun} {k:List Int} (h:LJ w c vb T g N wr) (hk:J0t k) (hg:g k=none) (ht:Tch wr.heap.size M0 wr w1) :
  (Instr.lookup 70 (.map (some vb)) (.agg (ai .i64 k)) false).run Tryz.prog w1=.ok (.pointer none) w1:=by
 obtain ⟨T',h1,h2,_⟩:=h;have:=(h1.map.kept (ht.heap vb h1.map.lt fun h=>h)).lookup hk
 rwa [(J4s ((h2 k).trans hg)).1] at this
theorem LJ.make {w wr w1:World} {c:J8} {vb N:Nat} {T:List TR} {g:List Int->Option Bun} {k:List Int} (h:LJ w c vb T g N wr) (hN:N<=100000) (hk:J0t k) (hg:g k=none) (ht:Tch wr.heap.size M0 wr w1) {q:BP} {B:Bun} (hB:Jz false w1 c q B) (hf:∀ x∈q.pl,wr.heap.size<=x) :
  ∃ w2,(Instr.mapUpdate 70 (.map (some vb)) (.agg (ai .i64 k)) (.pointer (some ⟨q.b,0,none⟩))).run Tryz.prog w1=.ok () w2/\LJ w c vb T (fun key=>if key=k then some B else g key) (N+1) w2/\w1.heap.size<=w2.heap.size/\∀ b,wr.heap.size<=b->b<w1.heap.size->w2.heap[b]?=w1.heap[b]?:=by
 obtain ⟨T',h1,h2,h3,h4,h5⟩:=h;have e:maxLen=9223372036854775807:=by decide
 obtain ⟨w2,r1,r2,r3⟩:=(h1.map.kept (ht.heap vb h1.map.lt fun h=>h)).update (by simp;omega) hk (.pointer (some ⟨q.b,0,none⟩));have hvb:=h1.map.lt;exact ⟨w2,r1,LJ.post h2 h3 h4 h5 (h1.Jbv ((h2 k).trans hg) hB hf ht r2 r3),r3.size,fun b hb hl=>r3.block b hl fun e=>by have:=Ja0 e;omega⟩
theorem LJ.add {w wr:World} {c:J8} {vb N:Nat} {T:List TR} {g:List Int->Option Bun} {k bs:List Int} {B:Bun} (h:LJ w c vb T g N wr) (hk:J0t k) (hg:g k=some B) (h0:J5f c B) (hc:Jw c) (hB:J4g false w c.ba bs) (hbs:bs.length=c.nb) (hso:bs.Pairwise (· < ·))
  (dB:∀ a,c.ba=some a->a.block≠vb/\a.block∉tpl T/\a.block<w.heap.size) :
  ∃ p,∀ w1,Tch wr.heap.size M0 wr w1->(Instr.lookup 70 (.map (some vb)) (.agg (ai .i64 k)) false).run Tryz.prog w1=.ok (.pointer (some ⟨p,0,none⟩)) w1 /\
   ∀ x v,0<=x/\x<=18446744073709551615->Calls Tryz.prog 28 #[.pointer (some ⟨p,0,none⟩),.int .u64 x,.int .i64 v] w1 fun e w'=>(∃ v,e=.returned v)/\LJ w c vb T (fun key=>if key=k then some (J5g c bs B x v) else g key) (N+1) w':=by
 obtain ⟨T',h1,h2,h3,h4,h5⟩:=h;obtain ⟨t,T1,T2,rfl,rfl,rfl,k3,k4⟩:=J21 ((h2 k).trans hg);refine ⟨t.p.b,fun w1 ht=>?_⟩;have h1':J3n w1 c vb (T1++t::T2):=h1.kept fun y hy=>ht.heap y (h1.lt y hy) fun h=>h;have h5':=h5.then ht h5.size fun _ _ h=>h.elim;refine ⟨?_,fun x v hx=>?_⟩
 ·have:=h1'.map.lookup hk
  rwa [k4] at this
 ·have hB1:J4g false w1 c.ba bs:=hB.kept fun bb e _=>h5'.heap bb (dB _ e).2.2 fun hm=>hm.elim (dB _ e).1 (dB _ e).2.1;have hd:∀ y∈tpl (T1++t::T2),c.ba≠some ⟨y,0,none⟩:=fun y hy e=>by
   have q:=dB _ e;rcases h4 y (.inr hy) with (h|h)|h
   ·exact q.1 h
   ·exact q.2.1 h
   ·have:=q.2.2;simp only at this;omega
  refine (Jwt (h1'.bun t (by simp)) hB1 (fun y hy=>hd y (Jm.2 ⟨t,by simp,hy⟩)) h0 hc hbs hso hx v).mono fun e w' ⟨q1,q2⟩=>⟨q1,?_⟩;exact LJ.post h2 h3 (fun y hy=>h4 y hy) h5' (h1'.there k3 q2)
theorem Jsd {c:J8} {bs:List Int} {hs:Int->Int} {mk:Nat} {g:List Int->Option Bun} {f:Jg} (hg:g (Jb mk (Js f.k) 5)=none) (key:List Int) :
  (if key=Jb mk (Js f.k) 5 then some (J5g c bs (J67 c) (hs f.it) f.v) else if key=Jb mk (Js f.k) 5 then some (J67 c) else g key)=J7q c bs hs mk g f key:=by
 unfold J7q;by_cases e:key=Jb mk (Js f.k) 5
 ·rw [if_pos e,if_pos e,e,hg];rfl
 ·rw [if_neg e,if_neg e,if_neg e]
theorem Jse {c:J8} {bs:List Int} {hs:Int->Int} {mk:Nat} {g:List Int->Option Bun} {f:Jg} {B:Bun} (hg:g (Jb mk (Js f.k) 5)=some B) (key:List Int) :
  (if key=Jb mk (Js f.k) 5 then some (J5g c bs B (hs f.it) f.v) else g key)=J7q c bs hs mk g f key:=by
 unfold J7q;by_cases e:key=Jb mk (Js f.k) 5
 ·rw [if_pos e,if_pos e,e,hg];rfl
 ·rw [if_neg e,if_neg e]
theorem J2p {l:List Int} (h:l.length=5):∃ x0 x1 x2 x3 x4,l=[x0,x1,x2,x3,x4]:=by
 rcases l with _|⟨x0,_|⟨x1,_|⟨x2,_|⟨x3,_|⟨x4,_|⟨x5,l⟩⟩⟩⟩⟩⟩<;>simp at h
 exact ⟨_,_,_,_,_,rfl⟩
noncomputable def bC:Code->Code | .block _ c=>c|c=>c
noncomputable def lC:Code->Code | .loop c=>c|c=>c
noncomputable def Jdl:Code:=sC (bC (sC (sC (lC (bC (sC J59))))))
section
variable {w:World} {x:Nat} {ga:Option Addr} {fs:List Jg} {cap n:Nat} {pl:List Nat} {f:Nat->Value} {c:J8} {T:List TR} {mk vb hb:Nat} {hs:Int->Int} {bs:List Int} {seed:Int}
structure InF (w:World) (x:Nat) (ga:Option Addr) (fs:List Jg) (cap:Nat) (pl:List Nat) (c:J8) (seed:Int) (T:List TR) (vb hb:Nat) (hs:Int->Int) (bs:List Int):Prop where
 tab:TabAt false w c vb T
 fsa:J3a false w ga fs cap pl
 okf:∀ g∈fs,J49 g
 hr:Row false w hb 45 .u64 (fs.map fun f=>hs f.it) fs.length
 x0:w.cell? ⟨x,0,none⟩=some (.int .i64 3)
 x1:w.cell? ⟨x,1,none⟩=some (.int .i64 c.bits)
 x2:w.cell? ⟨x,2,none⟩=some (.int .i64 c.K)
 x3:w.cell? ⟨x,3,none⟩=some (.slice c.ba c.nb c.cb)
 x4:w.cell? ⟨x,4,none⟩=some (.int .i64 seed)
 bnd:J4g false w c.ba bs
 bsl:bs.length=c.nb
 so:bs.Pairwise (· < ·)
 cfg:Jw c
 hs:∀ y,0<=hs y/\hs y<=18446744073709551615
 dF:∀ y∈pl,y≠vb/\y∉tpl T
 dX:x≠vb/\x∉tpl T
 dH:hb≠vb/\hb∉tpl T
 dB:∀ a,c.ba=some a->a.block≠vb/\a.block∉tpl T/\a.block<w.heap.size
 nf:fs.length<=3000
 nT:T.length<=3000
theorem Jpt (hI:InF w x ga fs cap pl c seed T vb hb hs bs) (hn:fs.length=n):Jdl.wp Tryz.prog (fun e a w'=>e=.normal/\a.defers=[]/\a.tmps.size=157/\a.tmps[0]?=some (.pointer (some ⟨x,0,none⟩))/\a.tmps[1]?=some (.slice ga n cap)/\a.tmps[4]?=some .nilIface/\a.tmps[7]?=some (.slice (some ⟨hb,0,none⟩) n n)/\a.tmps[117]?=some (f 117) /\
   LJ w c vb T (J2y c bs hs mk (tm T) fs) (T.length+2*n) w') ⟨#[.pointer (some ⟨x,0,none⟩),.slice ga n cap,f 2,f 3,.nilIface,f 5,f 6,.slice (some ⟨hb,0,none⟩) n n,f 8,f 9,f 10,f 11,f 12,f 13,f 14,.int .i64 mk,.map (some vb),f 17,f 18,f 19,f 20,f 21,f 22,f 23,f 24,f 25,f 26,f 27,f 28,f 29,f 30,f 31,f 32,f 33,f 34,f 35,f 36,f 37,f 38,f 39,f 40,f 41,f 42,f 43,f 44,f 45,f 46,f 47,f 48,f 49,f 50,f 51,f 52,f 53,f 54,f 55,f 56,f 57,f 58,f 59,f 60,f 61,f 62,f 63,f 64,f 65,f 66,f 67,f 68,f 69,f 70,f 71,f 72,f 73,f 74,f 75,f 76,f 77,f 78,f 79,f 80,f 81,f 82,f 83,f 84,f 85,f 86,f 87,f 88,f 89,f 90,f 91,f 92,f 93,f 94,f 95,f 96,f 97,f 98,f 99,f 100,f 101,f 102,f 103,f 104,f 105,f 106,f 107,f 108,f 109,f 110,f 111,f 112,f 113,f 114,f 115,f 116,f 117,f 118,f 119,f 120,f 121,f 122,f 123,f 124,f 125,f 126,f 127,f 128,f 129,f 130,f 131,f 132,f 133,f 134,f 135,f 136,f 137,f 138,f 139,f 140,f 141,f 142,f 143,f 144,f 145,f 146,f 147,f 148,f 149,f 150,f 151,f 152,f 153,f 154,f 155,f 156],[]⟩ w:=by
 have hI':=hI;obtain ⟨tab,fsa,okf,hr,x0,x1,x2,x3,x4,bnd,bsl,so,cfg,hhs,dF,dX,dH,dB,nf,nT⟩:=hI';have hxl:=cell_lt x0;have hhl:=hr.lt;have hok:=fun k=>Jci (mk:=mk) (fs:=fs.take k) (g:=tm T) cfg bsl hhs fun key B h=>by obtain ⟨t,_,_,rfl,rfl,rfl,_,_⟩:=J21 h;exact tab.ok t (by simp)
 simp only [Jdl,bC,lC,J59,b13,fC,sC,Tryz.f13,Ja6];go_wp2
 go_loopw [125] (fun i wr=>∃ k:Nat,k<=n/\i=.int .i64 k/\LJ w c vb T (J2y c bs hs mk (tm T) (fs.take k)) (T.length+2*k) wr) (fun i _=>n-(RowKit.intOf i).toNat)
 case atStart=>exact ⟨0,by omega,rfl,T,tab.toW,fun _=>rfl,by omega,fun y hy=>.inl hy,.refl⟩
 case round=>
  obtain ⟨k,hk,rfl,hJ⟩:=hrel;have ht:=hJ.tch;rcases Jb5 k n with hlt|hge
  ·have hlt':(k:Int)<n:=by omega
   obtain ⟨fd,hfd⟩:∃ fd,fs[k]?=some fd:=⟨fs[k]'(by omega),Jb1 _⟩;have hfo:=okf fd (Jd0 hfd);have Jag:=Jld hfo;have hKK:=Jg0 (mk:=mk) Jag 5;have fsr:=fsa.kept (w':=wr) fun y hy=>ht.heap y (fsa.lt y hy) fun h=>h.elim (dF y hy).1 (dF y hy).2;obtain ⟨g,kb,kc,rfl,hgp,hkp,hF⟩:=fsr.at_ k fd hfd;have c0:=hF.ck;have c1:=hF.ci;have c2:=hF.cv;have hrow:=hF.row;rw [hfo.n] at c0;have hlk:k<(fs.map fun f=>hs f.it).length:=by simp;omega
   have hhc:∀ w1,Tch w.heap.size (fun b=>b=vb\/b∈tpl T) w w1->w1.cell? ⟨hb,k,none⟩=some (.int .u64 (hs fd.it)):=fun w1 t=>by have:=(hr.kept (t.heap hb hhl fun h=>h.elim dH.1 dH.2)).cell hlk;rw [this];have e:fs[k]?=some fd:=hfd;simp [Ja7,e]
   have hxc:∀ w1,Tch w.heap.size (fun b=>b=vb\/b∈tpl T) w w1->w1.cell? ⟨x,0,none⟩=some (.int .i64 3)/\w1.cell? ⟨x,1,none⟩=some (.int .i64 c.bits)/\w1.cell? ⟨x,2,none⟩=some (.int .i64 c.K)/\w1.cell? ⟨x,3,none⟩=some (.slice c.ba c.nb c.cb)/\w1.cell? ⟨x,4,none⟩=some (.int .i64 seed):=fun w1 t=>by have e:∀ i,w1.cell? ⟨x,i,none⟩=w.cell? ⟨x,i,none⟩:=fun i=>t.cell hxl fun h=>h.elim dX.1 dX.2;exact ⟨(e 0).trans x0,(e 1).trans x1,(e 2).trans x2,(e 3).trans x3,(e 4).trans x4⟩
   obtain ⟨z0,z1,z2,z3,z4,hzz⟩:=J2p Jag.1;obtain ⟨y0,y1,y2,y3,y4,hyy⟩:=J2p hKK.1;have J03q:∃ W1,wr.alloc (.cells #[.slice (some ⟨kb,0,none⟩) 3 kc,.int .i64 fd.it,.int .i64 fd.v] 47)=W1:=⟨_,rfl⟩;obtain ⟨W1,hW1⟩:=J03q;have t1:Tch wr.heap.size M0 wr W1:=by rw [<- hW1];exact Tch.refl.alloc (Ja2 _) _
   have e1:W1.heap[wr.heap.size]?=some (.cells #[.slice (some ⟨kb,0,none⟩) 3 kc,.int .i64 fd.it,.int .i64 fd.v] 47):=by rw [<- hW1];exact Ja _
   have d0:=(cell_of e1 0).trans rfl;have Jch:Calls Tryz.prog 25 #[.slice (some ⟨kb,0,none⟩) 3 kc] W1 fun e w'=>e=.returned (.agg #[.int .i64 z0,.int .i64 z1,.int .i64 z2,.int .i64 z3,.int .i64 z4])/\Tch W1.heap.size M0 W1 w':=by have:=Ji6 (hrow.tch t1 hrow.lt fun h=>h) (by rw [hfo.n];omega);rw [hfo.n,hzz] at this;exact this
   have Jf6:∀ w1,Calls Tryz.prog 26 #[.agg #[.int .i64 z0,.int .i64 z1,.int .i64 z2,.int .i64 z3,.int .i64 z4],.int .i64 mk] w1 fun e w'=>e=.returned (.agg #[.int .i64 y0,.int .i64 y1,.int .i64 y2,.int .i64 y3,.int .i64 y4])/\Tch w1.heap.size M0 w1 w':=fun w1=>by have:=Jbj (Js fd.k) Jag.1 mk w1;rw [hyy,hzz] at this;exact this
   have hend:∀ w9 (g9:List Int->Option Bun) (N9:Nat),(∀ key,g9 key=J7q c bs hs mk (J2y c bs hs mk (tm T) (fs.take k)) fd key)->N9<=T.length+2*(k+1)->LJ w c vb T g9 N9 w9->(∃ k_1:Nat,k_1<=n/\Value.int IntKind.i64 ((k:Int)+1)=.int .i64 k_1/\LJ w c vb T (J2y c bs hs mk (tm T) (fs.take k_1)) (T.length+2*k_1) w9)/\n-(RowKit.intOf (.int .i64 ((k:Int)+1))).toNat<n-(RowKit.intOf (.int .i64 k)).toNat:=fun w9 g9 N9 hg9 hN9 h=>by refine ⟨⟨k+1,by omega,by go_num,?_⟩,by simp [RowKit.intOf];omega⟩;obtain ⟨T',q1,q2,q3,q4⟩:=h;refine ⟨T',q1,fun key=>?_,by omega,q4⟩;rw [q2,hg9,List.take_add_one,hfd,Option.toList_some,Jdk]
   cases hg:J2y c bs hs mk (tm T) (fs.take k) (Jb mk (Js fd.k) 5) with
   | none=>
    have hmiss:=fun w1 t=>(hJ.miss (w1:=w1) hKK hg t);rw [hyy] at hmiss;simp only [ai,Jc4,List.map_nil] at hmiss
    go_wp2_with (first
     | (go_at_call 25;refine Jch.mono ?_;rintro e w2 ⟨rfl,t2⟩)
     | (go_at_call 26;refine (Jf6 _).mono ?_;rintro e w3 ⟨rfl,t3⟩
        obtain ⟨W4,hW4⟩:∃ W4,w3.alloc (.cells #[.int .i64 y0,.int .i64 y1,.int .i64 y2,.int .i64 y3,.int .i64 y4] 76)=W4:=⟨_,rfl⟩;have t4:Tch wr.heap.size M0 wr W4:=by rw [<- hW4];have a:=t1.then (t2.then t3 t2.size fun _ _ h=>h) t1.size fun _ _ h=>h;exact a.alloc a.size _
        have e4:W4.heap[w3.heap.size]?=some (.cells #[.int .i64 y0,.int .i64 y1,.int .i64 y2,.int .i64 y3,.int .i64 y4] 76):=by rw [<- hW4];exact Ja _
        have hm4:=hmiss W4 t4;have k0:=(cell_of e4 0).trans rfl;have k1:=(cell_of e4 1).trans rfl;have k2:=(cell_of e4 2).trans rfl;have k3:=(cell_of e4 3).trans rfl;have k4:=(cell_of e4 4).trans rfl))
    have tW4:Tch w.heap.size (fun b=>b=vb\/b∈tpl T) w W4:=ht.then t4 ht.size fun _ _ h=>h.elim;have hx4:=hxc W4 tW4;have e1':W4.heap[wr.heap.size]?=some (.cells #[.slice (some ⟨kb,0,none⟩) 3 kc,.int .i64 fd.it,.int .i64 fd.v] 47):=by
     have:W4.heap[wr.heap.size]?=w3.heap[wr.heap.size]?:=by rw [<- hW4];exact J7 _ (by have:=Ji e1;have:=t2.size;have:=t3.size;omega)
     rw [this,t3.heap _ (by have:=Ji e1;have:=t2.size;omega) fun h=>h,t2.heap _ (Ji e1) fun h=>h,e1]
    have Jxu:wr.heap.size<=w3.heap.size:=by have:=t1.size;have:=t2.size;have:=t3.size;omega
    have Jmx:=Ji e4;generalize w3.heap.size=b4 at *;have hS4:∀ w1,Tch W4.heap.size M0 W4 w1->w1.cell? ⟨b4,0,none⟩=some (.int .i64 y0)/\w1.cell? ⟨b4,1,none⟩=some (.int .i64 y1)/\w1.cell? ⟨b4,2,none⟩=some (.int .i64 y2)/\w1.cell? ⟨b4,3,none⟩=some (.int .i64 y3)/\w1.cell? ⟨b4,4,none⟩=some (.int .i64 y4)/\w1.cell? ⟨x,0,none⟩=some (.int .i64 3)/\w1.cell? ⟨x,1,none⟩=some (.int .i64 c.bits)/\w1.cell? ⟨x,2,none⟩=some (.int .i64 c.K)/\w1.cell? ⟨x,3,none⟩=some (.slice c.ba c.nb c.cb)/\w1.cell? ⟨x,4,none⟩=some (.int .i64 seed):=fun w1 t=>
     have e:=(t.heap b4 Jmx fun h=>h).trans e4
     ⟨(cell_of e 0).trans rfl,(cell_of e 1).trans rfl,(cell_of e 2).trans rfl,(cell_of e 3).trans rfl,(cell_of e 4).trans rfl,hxc w1 (tW4.then t tW4.size fun _ _ h=>h.elim)⟩
    have tdr:Tch W4.heap.size M0 W4 W4.drew:=.drew .refl;clear hmiss hm4 k0 k1 k2 k3 k4 Jf6 Jch d0
    go_region_held3 (fun w1=>w1.cell? ⟨b4,0,none⟩=some (.int .i64 y0)/\w1.cell? ⟨b4,1,none⟩=some (.int .i64 y1)/\w1.cell? ⟨b4,2,none⟩=some (.int .i64 y2)/\w1.cell? ⟨b4,3,none⟩=some (.int .i64 y3)/\w1.cell? ⟨b4,4,none⟩=some (.int .i64 y4)/\w1.cell? ⟨x,0,none⟩=some (.int .i64 3)/\w1.cell? ⟨x,1,none⟩=some (.int .i64 c.bits)/\w1.cell? ⟨x,2,none⟩=some (.int .i64 c.K)/\w1.cell? ⟨x,3,none⟩=some (.slice c.ba c.nb c.cb)/\w1.cell? ⟨x,4,none⟩=some (.int .i64 seed)) (first|exact hS4 _ tdr|exact hS4 _ t5|exact hS6) ((go_at_call 27;refine (Jvd cfg 3 seed).mono ?_;rintro e w5 ⟨q,rfl,hq,hqf,t5⟩;have t5:=t5.J16;have t45:=t4.then t5 t4.size fun _ _ h=>h;obtain ⟨w6,hrun6,hJ6,hs6,hk6⟩:=hJ.make (by omega) hKK hg t45 hq (fun y hy=>Jb6 t4.size (hqf y hy));rw [hyy] at hrun6;simp only [ai,Jc4,List.map_nil] at hrun6;have e6:=(hk6 b4 Jxu (Jb7 Jmx t5.size)).trans ((t5.heap b4 Jmx fun h=>h).trans e4);have hS6:w6.cell? ⟨b4,0,none⟩=some (.int .i64 y0)/\w6.cell? ⟨b4,1,none⟩=some (.int .i64 y1)/\w6.cell? ⟨b4,2,none⟩=some (.int .i64 y2)/\w6.cell? ⟨b4,3,none⟩=some (.int .i64 y3)/\w6.cell? ⟨b4,4,none⟩=some (.int .i64 y4)/\w6.cell? ⟨x,0,none⟩=some (.int .i64 3)/\w6.cell? ⟨x,1,none⟩=some (.int .i64 c.bits)/\w6.cell? ⟨x,2,none⟩=some (.int .i64 c.K)/\w6.cell? ⟨x,3,none⟩=some (.slice c.ba c.nb c.cb)/\w6.cell? ⟨x,4,none⟩=some (.int .i64 seed):=⟨(cell_of e6 0).trans rfl,(cell_of e6 1).trans rfl,(cell_of e6 2).trans rfl,(cell_of e6 3).trans rfl,(cell_of e6 4).trans rfl,hxc w6 hJ6.tch⟩))
    obtain ⟨p,hadd⟩:=hJ6.add hKK (if_pos rfl) (Jf4 cfg) cfg bnd bsl so dB;obtain ⟨hlook,hcall⟩:=hadd w6.drew (.drew .refl);have hcall:=hcall (hs fd.it) fd.v (hhs _);rw [hyy] at hlook;simp only [ai,Jc4,List.map_nil] at hlook;have hS:w6.drew.cell? ⟨b4,0,none⟩=some (.int .i64 y0)/\w6.drew.cell? ⟨b4,1,none⟩=some (.int .i64 y1)/\w6.drew.cell? ⟨b4,2,none⟩=some (.int .i64 y2)/\w6.drew.cell? ⟨b4,3,none⟩=some (.int .i64 y3)/\w6.drew.cell? ⟨b4,4,none⟩=some (.int .i64 y4)/\(Instr.lookup 70 (.map (some vb)) (.agg #[.int .i64 y0,.int .i64 y1,.int .i64 y2,.int .i64 y3,.int .i64 y4]) false).run Tryz.prog w6.drew=.ok (.pointer (some ⟨p,0,none⟩)) w6.drew/\w6.drew.cell? ⟨hb,k,none⟩=some (.int .u64 (hs fd.it))/\w6.drew.cell? ⟨wr.heap.size,2,none⟩=some (.int .i64 fd.v):=⟨hS6.1,hS6.2.1,hS6.2.2.1,hS6.2.2.2.1,hS6.2.2.2.2.1,hlook,hhc w6.drew hJ6.tch.drew,(cell_of (w:=w6.drew) ((hk6 _ (Ja2 _) (by have:=Ji e1';have:=t5.size;omega)).trans ((t5.heap _ (Ji e1') fun h=>h).trans e1')) 2).trans rfl⟩;clear hadd
    go_wp2_with fail
    obtain ⟨s0,s1,s2,s3,s4,s5,s6,s7⟩:=hS
    go_still_tail 9,(by kernel_rfl)
    change wpList _ _ _ _ _ w6.drew;generalize w6.drew=Wd at *
    go_wp2_with (go_at_call 28;refine hcall.mono ?_;rintro e w9 ⟨⟨v9,rfl⟩,hJ9⟩)
    exact hend _ _ _ (fun key=>Jsd hg key) (by omega) hJ9
   | some B=>
    obtain ⟨p,hadd⟩:=hJ.add hKK hg (hok k _ _ hg).zero cfg bnd bsl so dB
    go_wp2_with (first
     | (go_at_call 25;refine Jch.mono ?_;rintro e w2 ⟨rfl,t2⟩)
     | (go_at_call 26;refine (Jf6 _).mono ?_;rintro e w3 ⟨rfl,t3⟩
        obtain ⟨W4,hW4⟩:∃ W4,w3.alloc (.cells #[.int .i64 y0,.int .i64 y1,.int .i64 y2,.int .i64 y3,.int .i64 y4] 76)=W4:=⟨_,rfl⟩;have t4:Tch wr.heap.size M0 wr W4:=by rw [<- hW4];have a:=t1.then (t2.then t3 t2.size fun _ _ h=>h) t1.size fun _ _ h=>h;exact a.alloc a.size _
        have e4:W4.heap[w3.heap.size]?=some (.cells #[.int .i64 y0,.int .i64 y1,.int .i64 y2,.int .i64 y3,.int .i64 y4] 76):=by rw [<- hW4];exact Ja _
        obtain ⟨hm4,hc4⟩:=hadd W4 t4;rw [hyy] at hm4;simp only [ai,Jc4,List.map_nil] at hm4;have k0:=(cell_of e4 0).trans rfl;have k1:=(cell_of e4 1).trans rfl;have k2:=(cell_of e4 2).trans rfl;have k3:=(cell_of e4 3).trans rfl;have k4:=(cell_of e4 4).trans rfl))
    have tW4:Tch w.heap.size (fun b=>b=vb\/b∈tpl T) w W4:=ht.then t4 ht.size fun _ _ h=>h.elim;have hx4:=hxc W4 tW4;have e1':W4.heap[wr.heap.size]?=some (.cells #[.slice (some ⟨kb,0,none⟩) 3 kc,.int .i64 fd.it,.int .i64 fd.v] 47):=by
     have:W4.heap[wr.heap.size]?=w3.heap[wr.heap.size]?:=by rw [<- hW4];exact J7 _ (by have:=Ji e1;have:=t2.size;have:=t3.size;omega)
     rw [this,t3.heap _ (by have:=Ji e1;have:=t2.size;omega) fun h=>h,t2.heap _ (Ji e1) fun h=>h,e1]
    have Jxu:wr.heap.size<=w3.heap.size:=by have:=t1.size;have:=t2.size;have:=t3.size;omega
    have Jmx:=Ji e4;generalize w3.heap.size=b4 at *;clear hm4 hc4 k0 k1 k2 k3 k4 Jf6 Jch d0;obtain ⟨hlook,hcall⟩:=hadd W4.drew (t4.drew);have hcall:=hcall (hs fd.it) fd.v (hhs _);rw [hyy] at hlook;simp only [ai,Jc4,List.map_nil] at hlook;have hS:W4.drew.cell? ⟨b4,0,none⟩=some (.int .i64 y0)/\W4.drew.cell? ⟨b4,1,none⟩=some (.int .i64 y1)/\W4.drew.cell? ⟨b4,2,none⟩=some (.int .i64 y2)/\W4.drew.cell? ⟨b4,3,none⟩=some (.int .i64 y3)/\W4.drew.cell? ⟨b4,4,none⟩=some (.int .i64 y4)/\(Instr.lookup 70 (.map (some vb)) (.agg #[.int .i64 y0,.int .i64 y1,.int .i64 y2,.int .i64 y3,.int .i64 y4]) false).run Tryz.prog W4.drew=.ok (.pointer (some ⟨p,0,none⟩)) W4.drew/\W4.drew.cell? ⟨hb,k,none⟩=some (.int .u64 (hs fd.it))/\W4.drew.cell? ⟨wr.heap.size,2,none⟩=some (.int .i64 fd.v):=⟨(cell_of (w:=W4.drew) e4 0).trans rfl,(cell_of (w:=W4.drew) e4 1).trans rfl,(cell_of (w:=W4.drew) e4 2).trans rfl,(cell_of (w:=W4.drew) e4 3).trans rfl,(cell_of (w:=W4.drew) e4 4).trans rfl,hlook,hhc W4.drew tW4.drew,(cell_of (w:=W4.drew) e1' 2).trans rfl⟩;clear hadd;obtain ⟨s0,s1,s2,s3,s4,s5,s6,s7⟩:=hS
    go_still_tail 9,(by kernel_rfl)
    change wpList _ _ _ _ _ W4.drew;generalize W4.drew=Wd at *
    go_wp2_with (go_at_call 28;refine hcall.mono ?_;rintro e w9 ⟨⟨v9,rfl⟩,hJ9⟩)
    exact hend _ _ _ (fun key=>Jse hg key) (by omega) hJ9
  ·have hge':¬ ((k:Int)<n):=by omega
   obtain rfl:k=n:=by omega
   rw [<- hn,List.take_length,hn] at hJ;clear hok;go_wp2
end
section
variable {w:World} {x:Nat} {ga:Option Addr} {fs:List Jg} {cap n:Nat} {pl:List Nat} {t:Array Value} {c:J8} {T:List TR} {U:List (List Int)} {mk vb hb nb base vm N0:Nat} {hs:Int->Int} {bs:List Int} {seed nf:Int} {h:Value} {L:List (List Int × Value)}
theorem Jpu (hn:fs.length=n) (hx:w.cell? ⟨x,0,none⟩=some (.int .i64 3)) (hf:J3a false w ga fs cap pl) (hok:∀ g∈fs,J49 g) (hn2:n<=1000) (hsz:t.size=157) (h0:t[0]?=some (.pointer (some ⟨x,0,none⟩))) (h1:t[1]?=some (.slice ga n cap)) (h4:t[4]?=some (.nilIface)) :
  Jh9.wp Tryz.prog (fun e a w'=>e=.normal/\a.defers=[]/\a.tmps.size=157/\a.tmps[0]?=some (.pointer (some ⟨x,0,none⟩))/\a.tmps[1]?=some (.slice ga n cap)/\a.tmps[4]?=some .nilIface/\Tch w.heap.size M0 w w') ⟨t,[]⟩ w:=by
 obtain ⟨f,rfl⟩:=J3m hsz;have e0:f 0=.pointer (some ⟨x,0,none⟩):=Ja0 (show some (f 0)=_ from h0);have e1:f 1=.slice ga n cap:=Ja0 (show some (f 1)=_ from h1);have e4:f 4=.nilIface:=Ja0 (show some (f 4)=_ from h4);rw [e0,e1,e4];exact by subst hn;exact Js4 hx hf hok hn2
theorem Jpv (hn:n<=1000) (hsz:t.size=157) (h0:t[0]?=some (.pointer (some ⟨x,0,none⟩))) (h1:t[1]?=some (.slice ga n cap)) (h4:t[4]?=some (.nilIface)) :
  Jha.wp Tryz.prog (fun e a w'=>e=.normal/\a.defers=[]/\a.tmps.size=157/\a.tmps[0]?=some (.pointer (some ⟨x,0,none⟩))/\a.tmps[1]?=some (.slice ga n cap)/\a.tmps[4]?=some .nilIface/\a.tmps[7]?=some (.slice (some ⟨w.heap.size,0,none⟩) n n)/\w'=w.alloc (.cells (Array.replicate n (.int .u64 0)) 45)) ⟨t,[]⟩ w:=by
 obtain ⟨f,rfl⟩:=J3m hsz;have e0:f 0=.pointer (some ⟨x,0,none⟩):=Ja0 (show some (f 0)=_ from h0);have e1:f 1=.slice ga n cap:=Ja0 (show some (f 1)=_ from h1);have e4:f 4=.nilIface:=Ja0 (show some (f 4)=_ from h4);rw [e0,e1,e4];exact Js6 hn
theorem Jpw (q:J08 w x c seed h nf vm base) (hsz:t.size=157) (h0:t[0]?=some (.pointer (some ⟨x,0,none⟩))) (h1:t[1]?=some (.slice ga n cap)) (h4:t[4]?=some (.nilIface)) (h7:t[7]?=some (.slice (some ⟨hb,0,none⟩) n n)) :
  Jhb.wp Tryz.prog (fun e a w'=>e=.normal/\a.defers=[]/\a.tmps.size=157/\a.tmps[0]?=some (.pointer (some ⟨x,0,none⟩))/\a.tmps[1]?=some (.slice ga n cap)/\a.tmps[4]?=some .nilIface/\a.tmps[7]?=some (.slice (some ⟨hb,0,none⟩) n n)/\a.tmps[8]?=some (.map (some base))/\Tch w.heap.size M0 w w'/\w'.heap=w.heap) ⟨t,[]⟩ w:=by
 obtain ⟨f,rfl⟩:=J3m hsz;have e0:f 0=.pointer (some ⟨x,0,none⟩):=Ja0 (show some (f 0)=_ from h0);have e1:f 1=.slice ga n cap:=Ja0 (show some (f 1)=_ from h1);have e4:f 4=.nilIface:=Ja0 (show some (f 4)=_ from h4);have e7:f 7=.slice (some ⟨hb,0,none⟩) n n:=Ja0 (show some (f 7)=_ from h7);rw [e0,e1,e4,e7];exact Js7 q
theorem Jpx (hsz:t.size=157) (h0:t[0]?=some (.pointer (some ⟨x,0,none⟩))) (h1:t[1]?=some (.slice ga n cap)) (h4:t[4]?=some (.nilIface)) (h7:t[7]?=some (.slice (some ⟨hb,0,none⟩) n n)) (h8:t[8]?=some (.map (some base))) :
  Jhc.wp Tryz.prog (fun e a w'=>e=.normal/\a.defers=[]/\a.tmps.size=157/\a.tmps[0]?=some (.pointer (some ⟨x,0,none⟩))/\a.tmps[1]?=some (.slice ga n cap)/\a.tmps[4]?=some .nilIface/\a.tmps[7]?=some (.slice (some ⟨hb,0,none⟩) n n)/\a.tmps[8]?=some (.map (some base))/\a.tmps[9]?=some (.map (some w.heap.size))/\w'=w.alloc (.map #[] 0)) ⟨t,[]⟩ w:=by
 obtain ⟨f,rfl⟩:=J3m hsz;have e0:f 0=.pointer (some ⟨x,0,none⟩):=Ja0 (show some (f 0)=_ from h0);have e1:f 1=.slice ga n cap:=Ja0 (show some (f 1)=_ from h1);have e4:f 4=.nilIface:=Ja0 (show some (f 4)=_ from h4);have e7:f 7=.slice (some ⟨hb,0,none⟩) n n:=Ja0 (show some (f 7)=_ from h7);have e8:f 8=.map (some base):=Ja0 (show some (f 8)=_ from h8);rw [e0,e1,e4,e7,e8];exact Js8
theorem Jpy (hn:fs.length=n) (hn2:n<=1000) (hN:N0<=w.heap.size) (hone:∀ w1,Tch N0 M0 w w1->∀ item at_,Calls Tryz.prog 24 #[.pointer (some ⟨x,0,none⟩),.int .i64 item,.int .i64 at_] w1 fun e w2=>e=.returned (.tuple #[.int .u64 (hs item),.nilIface])/\Tch w1.heap.size M0 w1 w2)
  (hfl:∀ y∈pl,y<N0) (hf:∀ w1,Tch N0 M0 w w1->J3a false w1 ga fs cap pl) (hok:∀ g∈fs,J49 g) (hT:∀ w1,Tch N0 M0 w w1->TabAt false w1 c base T) (hU:∀ g∈fs,Js g.k∈U) (hUn:U.length<=1000)
  (hhb:N0<=hb) (hnb:N0<=nb) (hne:hb≠nb) (hr0:Row false w hb 45 .u64 (J20 hs fs 0) n) (hL0:J1j w nb T U []) (hTU:∀ t∈T,t.k∈U) (hsz:t.size=157) (h0:t[0]?=some (.pointer (some ⟨x,0,none⟩))) (h1:t[1]?=some (.slice ga n cap)) (h4:t[4]?=some (.nilIface)) (h7:t[7]?=some (.slice (some ⟨hb,0,none⟩) n n)) (h8:t[8]?=some (.map (some base))) (h9:t[9]?=some (.map (some nb))) :
  Jhd.wp Tryz.prog (fun e a w'=>e=.normal/\a.defers=[]/\a.tmps.size=157/\a.tmps[0]?=some (.pointer (some ⟨x,0,none⟩))/\a.tmps[1]?=some (.slice ga n cap)/\a.tmps[4]?=some .nilIface/\a.tmps[7]?=some (.slice (some ⟨hb,0,none⟩) n n)/\a.tmps[8]?=some (.map (some base))/\a.tmps[9]?=some (.map (some nb))/\Row false w' hb 45 .u64 (J20 hs fs n) n/\(∃ L,J1j w' nb T U L)/\Tch N0 M0 w w') ⟨t,[]⟩ w:=by
 obtain ⟨f,rfl⟩:=J3m hsz;have e0:f 0=.pointer (some ⟨x,0,none⟩):=Ja0 (show some (f 0)=_ from h0);have e1:f 1=.slice ga n cap:=Ja0 (show some (f 1)=_ from h1);have e4:f 4=.nilIface:=Ja0 (show some (f 4)=_ from h4);have e7:f 7=.slice (some ⟨hb,0,none⟩) n n:=Ja0 (show some (f 7)=_ from h7);have e8:f 8=.map (some base):=Ja0 (show some (f 8)=_ from h8);have e9:f 9=.map (some nb):=Ja0 (show some (f 9)=_ from h9);rw [e0,e1,e4,e7,e8,e9];exact Js9 hn hn2 hN hone hfl hf hok hT hU hUn hhb hnb hne hr0 hL0 hTU
theorem Jpz (hx:w.cell? ⟨x,6,none⟩=some (.int .i64 nf)) (hnf:0<=nf) (hn:nf+n<=3000) (hT:TabAt false w c base T) (hL:J1j w nb T U L) (hTU:∀ t∈T,t.k∈U) (hU:U.length<=128) (hsz:t.size=157) (h0:t[0]?=some (.pointer (some ⟨x,0,none⟩))) (h1:t[1]?=some (.slice ga n cap)) (h4:t[4]?=some (.nilIface)) (h7:t[7]?=some (.slice (some ⟨hb,0,none⟩) n n)) (h8:t[8]?=some (.map (some base))) (h9:t[9]?=some (.map (some nb))) :
  Jhe.wp Tryz.prog (fun e a w'=>e=.normal/\a.defers=[]/\a.tmps.size=157/\a.tmps[0]?=some (.pointer (some ⟨x,0,none⟩))/\a.tmps[1]?=some (.slice ga n cap)/\a.tmps[4]?=some .nilIface/\a.tmps[7]?=some (.slice (some ⟨hb,0,none⟩) n n)/\w'=w) ⟨t,[]⟩ w:=by
 obtain ⟨f,rfl⟩:=J3m hsz;have e0:f 0=.pointer (some ⟨x,0,none⟩):=Ja0 (show some (f 0)=_ from h0);have e1:f 1=.slice ga n cap:=Ja0 (show some (f 1)=_ from h1);have e4:f 4=.nilIface:=Ja0 (show some (f 4)=_ from h4);have e7:f 7=.slice (some ⟨hb,0,none⟩) n n:=Ja0 (show some (f 7)=_ from h7);have e8:f 8=.map (some base):=Ja0 (show some (f 8)=_ from h8);have e9:f 9=.map (some nb):=Ja0 (show some (f 9)=_ from h9);rw [e0,e1,e4,e7,e8,e9];exact Jsa hx hnf hn hT hL hTU hU
theorem Jq0 (hx:w.cell? ⟨x,6,none⟩=some (.int .i64 nf)) (hz:w.frozen? ⟨x,6,none⟩=false) (hnf:0<=nf) (hn:nf+n<=3000) (hsz:t.size=157) (h0:t[0]?=some (.pointer (some ⟨x,0,none⟩))) (h1:t[1]?=some (.slice ga n cap)) (h4:t[4]?=some (.nilIface)) (h7:t[7]?=some (.slice (some ⟨hb,0,none⟩) n n)) :
  Jhf.wp Tryz.prog (fun e a w'=>e=.normal/\a.defers=[]/\a.tmps.size=157/\a.tmps[0]?=some (.pointer (some ⟨x,0,none⟩))/\a.tmps[1]?=some (.slice ga n cap)/\a.tmps[4]?=some .nilIface/\a.tmps[7]?=some (.slice (some ⟨hb,0,none⟩) n n)/\w'=w.setCell ⟨x,6,none⟩ (.int .i64 (nf+n))) ⟨t,[]⟩ w:=by
 obtain ⟨f,rfl⟩:=J3m hsz;have e0:f 0=.pointer (some ⟨x,0,none⟩):=Ja0 (show some (f 0)=_ from h0);have e1:f 1=.slice ga n cap:=Ja0 (show some (f 1)=_ from h1);have e4:f 4=.nilIface:=Ja0 (show some (f 4)=_ from h4);have e7:f 7=.slice (some ⟨hb,0,none⟩) n n:=Ja0 (show some (f 7)=_ from h7);rw [e0,e1,e4,e7];exact Jsb hx hz hnf hn
theorem Jmy {v:Value} (hI:InF w x ga fs cap pl c seed T vb hb hs bs) (hn:fs.length=n) (hsz:t.size=157) (h0:t[0]?=some (.pointer (some ⟨x,0,none⟩))) (h1:t[1]?=some (.slice ga n cap)) (h4:t[4]?=some (.nilIface)) (h7:t[7]?=some (.slice (some ⟨hb,0,none⟩) n n)) (h15:t[15]?=some (.int .i64 mk)) (h16:t[16]?=some (.map (some vb))) (h117:t[117]?=some v) :
  Jdl.wp Tryz.prog (fun e a w'=>e=.normal/\a.defers=[]/\a.tmps.size=157/\a.tmps[0]?=some (.pointer (some ⟨x,0,none⟩))/\a.tmps[1]?=some (.slice ga n cap)/\a.tmps[4]?=some .nilIface/\a.tmps[7]?=some (.slice (some ⟨hb,0,none⟩) n n)/\a.tmps[117]?=some v/\LJ w c vb T (J2y c bs hs mk (tm T) fs) (T.length+2*n) w') ⟨t,[]⟩ w:=by
 obtain ⟨f,rfl⟩:=J3m hsz;have e0:f 0=.pointer (some ⟨x,0,none⟩):=Ja0 (show some (f 0)=_ from h0);have e1:f 1=.slice ga n cap:=Ja0 (show some (f 1)=_ from h1);have e4:f 4=.nilIface:=Ja0 (show some (f 4)=_ from h4);have e7:f 7=.slice (some ⟨hb,0,none⟩) n n:=Ja0 (show some (f 7)=_ from h7);have e15:f 15=.int .i64 mk:=Ja0 (show some (f 15)=_ from h15);have e16:f 16=.map (some vb):=Ja0 (show some (f 16)=_ from h16);have e117:f 117=v:=Ja0 (show some (f 117)=_ from h117);rw [e0,e1,e4,e7,e15,e16,<- e117];exact Jpt hI hn
end
theorem J8y {v:Value} {l:Lit} (h:keyOf Tryz.prog 3 v=some l):∃ x:Int,v=.int .i64 x/\l=.int .i64 x:=by
 unfold keyOf at h;simp only [Tryz.underlying3] at h;cases v with
 | int k n=>
  by_cases hk:k=.i64
  ·subst hk;refine ⟨n,rfl,?_⟩;simp [mapKey] at h;exact h.2.symm
  ·simp [mapKey] at h;exact absurd h.1.1 hk
 | _=>simp [mapKey] at h
theorem InF.tch {w w1:World} {x:Nat} {ga:Option Addr} {fs:List Jg} {cap:Nat} {pl:List Nat} {c:J8} {T:List TR} {hb vb:Nat} {hs:Int->Int} {bs:List Int} {seed:Int} (h:InF w x ga fs cap pl c seed T vb hb hs bs) (t:Tch w.heap.size M0 w w1):InF w1 x ga fs cap pl c seed T vb hb hs bs:=by
 have hxl:=cell_lt h.x0;have e:∀ i,w1.cell? ⟨x,i,none⟩=w.cell? ⟨x,i,none⟩:=fun i=>t.cell hxl fun h=>h;have hh:=t.size;exact ⟨h.tab.kept fun y hy=>t.heap y (h.tab.lt y hy) fun h=>h,h.fsa.kept fun y hy=>t.heap y (h.fsa.lt y hy) fun h=>h,h.okf,h.hr.tch t h.hr.lt fun h=>h,(e 0).trans h.x0,(e 1).trans h.x1,(e 2).trans h.x2,(e 3).trans h.x3,(e 4).trans h.x4,
  h.bnd.kept fun bb _ hl=>t.heap bb hl fun h=>h,h.bsl,h.so,h.cfg,h.hs,h.dF,h.dX,h.dH,fun a ha=>⟨(h.dB a ha).1,(h.dB a ha).2.1,Jb7 (h.dB a ha).2.2 hh⟩,h.nf,h.nT⟩
theorem Jkf {w w1:World} {b r n cnt:Nat} {D:DataW Value} {left:Lit->Bool} (h:w.ranges Tryz.prog 3 Rv b r n D left cnt) (h1:w1.heap[b]?=w.heap[b]?) (h2:w1.heap[r]?=w.heap[r]?):w1.ranges Tryz.prog 3 Rv b r n D left cnt:=by obtain ⟨es,clock,since,seen,c0,hb,F,hs,hD,hr,rest⟩:=h;exact ⟨es,clock,since,seen,c0,h1.trans hb,F,hs,hD,h2.trans hr,rest⟩
theorem LJ.from {w w1 w2:World} {c:J8} {vb N:Nat} {T:List TR} {g:List Int->Option Bun} (t:Tch w.heap.size M0 w w1) (h:LJ w1 c vb T g N w2):LJ w c vb T g N w2:=by obtain ⟨T',h1,h2,h3,h4,h5⟩:=h;have:=t.size;exact ⟨T',h1,h2,h3,fun y hy=>(h4 y hy).imp id fun h=>by omega,⟨Jb6 t.size h5.size,fun b hb hn=>(h5.heap b (by omega) hn).trans (t.heap b hb fun h=>h),h5.tape.trans t.tape,h5.os.trans t.os,h5.output.trans t.output⟩⟩
noncomputable def r24:Code:=fC J59
noncomputable def r25:Code:=fC (lC (bC (sC J59)))
noncomputable def Jxv:Code:=fC (sC (lC (bC (sC J59))))
noncomputable def r26:Code:=fC (bC (sC (sC (lC (bC (sC J59))))))
theorem Jsf:J59=.seq r24 (.block 4 (.loop (.seq r25 (.seq Jxv (.block 5 (.seq r26 Jdl)))))):=by kernel_rfl
section
variable {w:World} {x:Nat} {ga:Option Addr} {fs:List Jg} {cap n:Nat} {pl:List Nat} {f:Nat->Value} {c:J8} {T:List TR} {hb vm base:Nat} {hs:Int->Int} {bs:List Int} {seed:Int}
theorem Jsg (hI:InF w x ga fs cap pl c seed T base hb hs bs) (hn:fs.length=n) (h7:w.cell? ⟨x,7,none⟩=some (.map (some vm))) (hV:J2j w vm base) (hvm:vm≠base/\vm∉tpl T) :
  J59.wp Tryz.prog (fun e a w'=>e=.normal/\a.defers=[]/\a.tmps.size=157/\a.tmps[4]?=some .nilIface/\LJ w c base T (J2y c bs hs 7 (tm T) fs) (T.length+2*n) w') ⟨#[.pointer (some ⟨x,0,none⟩),.slice ga n cap,f 2,f 3,.nilIface,f 5,f 6,.slice (some ⟨hb,0,none⟩) n n,f 8,f 9,f 10,f 11,f 12,f 13,f 14,f 15,f 16,f 17,f 18,f 19,f 20,f 21,f 22,f 23,f 24,f 25,f 26,f 27,f 28,f 29,f 30,f 31,f 32,f 33,f 34,f 35,f 36,f 37,f 38,f 39,f 40,f 41,f 42,f 43,f 44,f 45,f 46,f 47,f 48,f 49,f 50,f 51,f 52,f 53,f 54,f 55,f 56,f 57,f 58,f 59,f 60,f 61,f 62,f 63,f 64,f 65,f 66,f 67,f 68,f 69,f 70,f 71,f 72,f 73,f 74,f 75,f 76,f 77,f 78,f 79,f 80,f 81,f 82,f 83,f 84,f 85,f 86,f 87,f 88,f 89,f 90,f 91,f 92,f 93,f 94,f 95,f 96,f 97,f 98,f 99,f 100,f 101,f 102,f 103,f 104,f 105,f 106,f 107,f 108,f 109,f 110,f 111,f 112,f 113,f 114,f 115,f 116,f 117,f 118,f 119,f 120,f 121,f 122,f 123,f 124,f 125,f 126,f 127,f 128,f 129,f 130,f 131,f 132,f 133,f 134,f 135,f 136,f 137,f 138,f 139,f 140,f 141,f 142,f 143,f 144,f 145,f 146,f 147,f 148,f 149,f 150,f 151,f 152,f 153,f 154,f 155,f 156],[]⟩ w:=by
 obtain ⟨nn,hown⟩:=hV;rw [Jsf];simp only [r24,r25,Jxv,r26,J59,b13,fC,sC,bC,lC,Tryz.f13,Ja6]
 go_wp2_with (at_range;refine wpList_range_own _ rfl _ 62 rfl 3 70 J9d Tryz.underlying62 _ vm nn _ rfl hown ?_;intro w0 hrg0 hg0 hs0)
 refine wp_loop_rounds 2 ?_;rw [rounds_succ];have hsz1:Maps.size (DataW.map [(Lit.int .i64 7,DataW.held (H:=Value) (Value.map (some base)))])=1:=rfl
 go_wp2_with (at_next;refine wpList_next_ranges _ rfl _ rfl 3 J9d Rv (Value.int .i64) id (fun key kl hk=>(J8y hk).imp fun _ h=>h.1) (fun v _ _=>⟨v,rfl⟩) vm w.heap.size nn _ _ _ rfl hrg0 (fun h=>by rw [hsz1] at h;cases h) ?_;intro x1 c1 kl y1 w2 cnt2 hkey hlk hR hat hrg2 hlt2 hg2 hs2 hen)
 obtain ⟨x2,e2,rfl⟩:=J8y hkey;cases e2;have hx7:x1=7:=by simp [Maps.has,Lit.sameKey] at hlk;exact hlk.symm
 subst hx7;have hc1:c1=.map (some base):=by have h1:=hat (.held (.map none));simp [DataW.atKey,Lit.sameKey] at h1;simp [Rv] at hR;rw [<- hR] at h1;simp at h1;exact h1.symm
 subst hc1;have t0:Tch w.heap.size M0 w w0:=⟨hg0.size,fun b hb _=>hg0.block b hb (by simp),hg0.tape,hg0.os,hg0.output⟩;have t2:Tch w.heap.size M0 w w2:=⟨by omega,fun b hb _=>(hg2.block b (by omega) fun e=>by have:=Ja0 e;omega).trans (t0.heap b hb fun h=>h),hg2.tape.trans t0.tape,hg2.os.trans t0.os,hg2.output.trans t0.output⟩;have hvl:=hown.lt;have hrl:=hrg2.lt;refine Code.wp_mono ?_ (Jmy (mk:=7) (v:=.pointer (some ⟨w.heap.size,0,none⟩)) (hI.tch t2) hn rfl rfl rfl rfl rfl rfl rfl rfl);rintro e a w9 ⟨rfl,hds,hsz,a0,a1,a4,a7,a117,hJ⟩;have hJt:=hJ.tch;have hrg9:=Jkf hrg2 (hJt.heap vm (by omega) fun h=>h.elim hvm.1 hvm.2) (hJt.heap w.heap.size hrl fun h=>h.elim (fun e=>by have:=hI.tab.map.lt;omega) fun h=>by have:=hI.tab.lt _ (.inr h);omega);obtain ⟨tm,df⟩:=a;simp only at hds hsz a0 a1 a4 a7 a117;subst hds;obtain ⟨g,rfl⟩:=J3m hsz;have e4:g 4=.nilIface:=Ja0 (show some (g 4)=_ from a4);have e117:g 117=.pointer (some ⟨w.heap.size,0,none⟩):=Ja0 (show some (g 117)=_ from a117);rw [e4,e117];simp only [Exit.inBlock,Exit.then];rw [rounds_succ];obtain rfl:cnt2=0:=by omega
 clear hsz a0 a1 a4 a7 a117
 go_wp2_with (at_next;refine wpList_next_ranges _ rfl _ rfl 3 J9d Rv (Value.int .i64) id (fun key kl hk=>(J8y hk).imp fun _ h=>h.1) (fun v _ _=>⟨v,rfl⟩) vm w.heap.size nn _ _ _ rfl hrg9 ?_ (fun _ _ _ _ _ _ _ _ _ _ _ h=>absurd h (by omega));intro _ _)
 exact hJ.from t2
theorem Jq1 {t:Array Value} (hI:InF w x ga fs cap pl c seed T base hb hs bs) (hn:fs.length=n) (h7':w.cell? ⟨x,7,none⟩=some (.map (some vm))) (hV:J2j w vm base) (hvm:vm≠base/\vm∉tpl T) (hsz:t.size=157) (h0:t[0]?=some (.pointer (some ⟨x,0,none⟩))) (h1:t[1]?=some (.slice ga n cap)) (h4:t[4]?=some .nilIface) (h7:t[7]?=some (.slice (some ⟨hb,0,none⟩) n n)) :
  J59.wp Tryz.prog (fun e a w'=>e=.normal/\a.defers=[]/\a.tmps.size=157/\a.tmps[4]?=some .nilIface/\LJ w c base T (J2y c bs hs 7 (tm T) fs) (T.length+2*n) w') ⟨t,[]⟩ w:=by
 obtain ⟨f,rfl⟩:=J3m hsz;have e0:f 0=.pointer (some ⟨x,0,none⟩):=Ja0 (show some (f 0)=_ from h0);have e1:f 1=.slice ga n cap:=Ja0 (show some (f 1)=_ from h1);have e4:f 4=.nilIface:=Ja0 (show some (f 4)=_ from h4);have e7:f 7=.slice (some ⟨hb,0,none⟩) n n:=Ja0 (show some (f 7)=_ from h7);rw [e0,e1,e4,e7];exact Jsg hI hn h7' hV hvm
theorem Jsh:(fC b13).wp Tryz.prog (fun e a w'=>e=.normal/\a.defers=[]/\a.tmps.size=157/\a.tmps[0]?=some (.pointer (some ⟨x,0,none⟩))/\a.tmps[1]?=some (.slice ga n cap)/\a.tmps[4]?=some .nilIface/\w'=w) ⟨#[.pointer (some ⟨x,0,none⟩),.slice ga n cap]++Array.replicate 155 undef,[]⟩ w:=by
 have e:Array.replicate 155 undef=#[undef,undef,undef,undef,undef,undef,undef,undef,undef,undef,undef,undef,undef,undef,undef,undef,undef,undef,undef,undef,undef,undef,undef,undef,undef,undef,undef,undef,undef,undef,undef,undef,undef,undef,undef,undef,undef,undef,undef,undef,undef,undef,undef,undef,undef,undef,undef,undef,undef,undef,undef,undef,undef,undef,undef,undef,undef,undef,undef,undef,undef,undef,undef,undef,undef,undef,undef,undef,undef,undef,undef,undef,undef,undef,undef,undef,undef,undef,undef,undef,undef,undef,undef,undef,undef,undef,undef,undef,undef,undef,undef,undef,undef,undef,undef,undef,undef,undef,undef,undef,undef,undef,undef,undef,undef,undef,undef,undef,undef,undef,undef,undef,undef,undef,undef,undef,undef,undef,undef,undef,undef,undef,undef,undef,undef,undef,undef,undef,undef,undef,undef,undef,undef,undef,undef,undef,undef,undef,undef,undef,undef,undef,undef,undef,undef,undef,undef,undef,undef,undef,undef,undef,undef,undef,undef]:=by kernel_rfl
 rw [e];simp only [List.append_toArray,Jc7,Jc8,b13,fC,sC,Tryz.f13,Ja6];go_wp2
theorem Jsi {R:Ending->World->Prop} (hR:R (.returned .nilIface) w):Jhg.wp Tryz.prog (bodyPost Tryz.prog Tryz.f13 R) ⟨#[f 0,f 1,f 2,f 3,f 4,f 5,f 6,f 7,f 8,f 9,f 10,f 11,f 12,f 13,f 14,f 15,f 16,f 17,f 18,f 19,f 20,f 21,f 22,f 23,f 24,f 25,f 26,f 27,f 28,f 29,f 30,f 31,f 32,f 33,f 34,f 35,f 36,f 37,f 38,f 39,f 40,f 41,f 42,f 43,f 44,f 45,f 46,f 47,f 48,f 49,f 50,f 51,f 52,f 53,f 54,f 55,f 56,f 57,f 58,f 59,f 60,f 61,f 62,f 63,f 64,f 65,f 66,f 67,f 68,f 69,f 70,f 71,f 72,f 73,f 74,f 75,f 76,f 77,f 78,f 79,f 80,f 81,f 82,f 83,f 84,f 85,f 86,f 87,f 88,f 89,f 90,f 91,f 92,f 93,f 94,f 95,f 96,f 97,f 98,f 99,f 100,f 101,f 102,f 103,f 104,f 105,f 106,f 107,f 108,f 109,f 110,f 111,f 112,f 113,f 114,f 115,f 116,f 117,f 118,f 119,f 120,f 121,f 122,f 123,f 124,f 125,f 126,f 127,f 128,f 129,f 130,f 131,f 132,f 133,f 134,f 135,f 136,f 137,f 138,f 139,f 140,f 141,f 142,f 143,f 144,f 145,f 146,f 147,f 148,f 149,f 150,f 151,f 152,f 153,f 154,f 155,f 156],[]⟩ w:=by simp only [Jhg,b13,fC,sC,Tryz.f13,Ja6];go_wp2;exact hR
theorem Jq2 {t:Array Value} {R:Ending->World->Prop} (hsz:t.size=157) (hR:R (.returned .nilIface) w):Jhg.wp Tryz.prog (bodyPost Tryz.prog Tryz.f13 R) ⟨t,[]⟩ w:=by obtain ⟨f,rfl⟩:=J3m hsz;exact Jsi hR
end
section
variable {w:World} {x:Nat} {ga:Option Addr} {fs:List Jg} {cap:Nat} {pl:List Nat} {c:J8} {T:List TR} {vm base:Nat} {hs:Int->Int} {bs:List Int} {seed nf:Int} {h:Value} {U:List (List Int)}
structure Juf (w:World) (x:Nat) (c:J8) (seed:Int) (h:Value) (nf:Int) (vm base:Nat) (T:List TR) (ga:Option Addr) (fs:List Jg) (cap:Nat) (pl:List Nat) (hs:Int->Int) (bs:List Int) (U:List (List Int)):Prop where
 q:J08 w x c seed h nf vm base
 tab:TabAt false w c base T
 fsa:J3a false w ga fs cap pl
 okf:∀ g∈fs,J49 g
 bnd:J4g false w c.ba bs
 bsl:bs.length=c.nb
 so:bs.Pairwise (· < ·)
 cfg:Jw c
 hsr:∀ y,0<=hs y/\hs y<=18446744073709551615
 one:∀ w1,Tch w.heap.size M0 w w1->∀ item at_,Calls Tryz.prog 24 #[.pointer (some ⟨x,0,none⟩),.int .i64 item,.int .i64 at_] w1 fun e w2=>e=.returned (.tuple #[.int .u64 (hs item),.nilIface])/\Tch w1.heap.size M0 w1 w2
 dF:∀ y∈pl,y≠base/\y∉tpl T/\y≠x
 dX:x≠base/\x∉tpl T
 dV:vm≠base/\vm∉tpl T/\vm≠x
 dB:∀ a,c.ba=some a->a.block≠base/\a.block∉tpl T/\a.block<w.heap.size/\a.block≠x
 n1:fs.length<=1000
 nf0:0<=nf
 nf1:nf+fs.length<=3000
 hU:∀ g∈fs,Js g.k∈U
 hTU:∀ t∈T,t.k∈U
 hUn:U.length<=128
structure Jxw (w:World) (x:Nat) (c:J8) (seed:Int) (h:Value) (nf:Int) (vm base:Nat) (T:List TR) (hs:Int->Int) (bs:List Int) (fs:List Jg) (w':World):Prop where
 q:J08 w' x c seed h (nf+fs.length) vm base
 tab:∃ T',TabAt false w' c base T'/\(∀ key,tm T' key=J2y c bs hs 7 (tm T) fs key)/\(∀ y,y=base\/y∈tpl T'->(y=base\/y∈tpl T)\/w.heap.size<=y)
 tch:Tch w.heap.size (fun b=>b=x\/b=base\/b∈tpl T) w w'
theorem Jq3 (hI:Juf w x c seed h nf vm base T ga fs cap pl hs bs U) :
  Calls Tryz.prog 13 #[.pointer (some ⟨x,0,none⟩),.slice ga fs.length cap] w fun e w'=>e=.returned .nilIface/\Jxw w x c seed h nf vm base T hs bs fs w':=by
 obtain ⟨q,tab,fsa,okf,bnd,bsl,so,cfg,hsr,one,dF,dX,dV,dB,n1,nf0,nf1,hU,hTU,hUn⟩:=hI;have hxl:=q.blk.lt;have hvl:=q.vs.lt;have hbl:=tab.map.lt;have Jsj:∀ {w1:World},Tch w.heap.size (fun b=>b=x) w w1->TabAt false w1 c base T:=fun t=>tab.kept fun y hy=>t.heap y (tab.lt y hy) fun e=>by
  rcases hy with hy|hy
  ·exact dX.1 (e▸hy)
  ·exact dX.2 (e▸hy)
 have fsk:∀ {w1:World},Tch w.heap.size (fun b=>b=x) w w1->J3a false w1 ga fs cap pl:=fun t=>fsa.kept fun y hy=>t.heap y (fsa.lt y hy) fun e=>(dF y hy).2.2 e;have up:∀ {w1:World},Tch w.heap.size M0 w w1->Tch w.heap.size (fun b=>b=x) w w1:=fun t=>t.mono (Ja2 _) fun _ _ h=>h.elim;have ck:∀ {w1:World},Tch w.heap.size M0 w w1->J08 w1 x c seed h nf vm base:=fun t=>q.kept (t.heap x hxl fun h=>h) (t.heap vm hvl fun h=>h);obtain ⟨n,hn⟩:∃ n,fs.length=n:=⟨_,rfl⟩;rw [hn] at n1 nf1 ⊢;refine calls_of_wp Tryz.func13 (show Tryz.f13.body=some b13 by kernel_rfl) ?_;simp only [Tryz.ntmps13,List.size_toArray,Jd2,List.length_nil,Nat.reduceAdd,Nat.reduceSub];rw [Jxt];refine wp_seq (Code.wp_mono ?_ Jsh);rintro e ⟨t0,d0⟩ w0 ⟨rfl,hd0,s0,a0,a1,a4,rfl⟩;simp only at hd0 s0 a0 a1 a4;subst hd0;refine wp_seq (Code.wp_mono ?_ (Jpu hn q.cells.1 fsa okf n1 s0 a0 a1 a4));rintro e ⟨t1,d1⟩ w1 ⟨rfl,hd1,s1,a0,a1,a4,ht1⟩;simp only at hd1 s1 a0 a1 a4;subst hd1;refine wp_seq (Code.wp_mono ?_ (Jpv n1 s1 a0 a1 a4));rintro e ⟨t2,d2⟩ w2 ⟨rfl,hd2,s2,a0,a1,a4,a7,hw2⟩;simp only at hd2 s2 a0 a1 a4 a7;subst hd2;have ht2:Tch w0.heap.size M0 w0 w2:=by rw [hw2];exact ht1.alloc ht1.size _
 have hr2:Row false w2 w1.heap.size 45 .u64 (List.replicate n 0) n:=by rw [hw2];exact J6l w1 45 .u64 n
 refine wp_seq (Code.wp_mono ?_ (Jpw (ck ht2) s2 a0 a1 a4 a7));rintro e ⟨t3,d3⟩ w3 ⟨rfl,hd3,s3,a0,a1,a4,a7,a8,ht3,hw3⟩;simp only at hd3 s3 a0 a1 a4 a7 a8;subst hd3;refine wp_seq (Code.wp_mono ?_ (Jpx s3 a0 a1 a4 a7 a8));rintro e ⟨t4,d4⟩ w4 ⟨rfl,hd4,s4,a0,a1,a4,a7,a8,a9,hw4⟩;simp only at hd4 s4 a0 a1 a4 a7 a8 a9;subst hd4;have hs3:w3.heap.size=w1.heap.size+1:=by rw [hw3,hw2,size_alloc]
 have Jxx:Tch w0.heap.size M0 w0 w3:=ht2.then ht3 ht2.size fun _ _ h=>h;have ht4:Tch w0.heap.size M0 w0 w4:=by rw [hw4];exact Jxx.alloc Jxx.size _
 have hr4:Row false w4 w1.heap.size 45 .u64 (J20 hs fs 0) n:=by
  have:J20 hs fs 0=List.replicate n 0:=by simp [J20,hn]
  rw [this];refine hr2.kept ?_;rw [hw4,J7 _ (by omega),hw3]
 have hL4:J1j w4 w3.heap.size T U []:=⟨by rw [hw4];exact J09.made w3,fun p hp=>by cases hp⟩;have hN1:=ht1.size;refine wp_seq (Code.wp_mono ?_ (Jpy (N0:=w0.heap.size) (w:=w4) hn n1 ht4.size (fun w' t=>one w' (ht4.trans t)) fsa.lt (fun w' t=>fsk (up (ht4.trans t))) okf (fun w' t=>Jsj (up (ht4.trans t))) hU (by omega) hN1 (by omega) (by omega) hr4 hL4 hTU s4 a0 a1 a4 a7 a8 a9));rintro e ⟨t5,d5⟩ w5 ⟨rfl,hd5,s5,a0,a1,a4,a7,a8,a9,hr5,⟨L,hL5⟩,ht5⟩;simp only at hd5 s5 a0 a1 a4 a7 a8 a9;subst hd5;have Jsk:=ht4.trans ht5;have q5:=ck Jsk;have hT5:=Jsj (up Jsk);refine wp_seq (Code.wp_mono ?_ (Jpz q5.cells.2.2.2.2.2.2.1 nf0 nf1 hT5 hL5 hTU hUn s5 a0 a1 a4 a7 a8 a9));rintro e ⟨t6,d6⟩ w6 ⟨rfl,hd6,s6,a0,a1,a4,a7,rfl⟩;simp only at hd6 s6 a0 a1 a4 a7;subst hd6;refine wp_seq (Code.wp_mono ?_ (Jq0 q5.cells.2.2.2.2.2.2.1 (q5.blk.frozen 6) nf0 nf1 s6 a0 a1 a4 a7));rintro e ⟨t7,d7⟩ w7 ⟨rfl,hd7,s7,a0,a1,a4,a7,hw7⟩;simp only at hd7 s7 a0 a1 a4 a7;subst hd7;have ht7:Tch w0.heap.size (fun b=>b=x) w0 w7:=by rw [hw7];exact (up Jsk).set (.inr rfl) _
 have q7:Blk false w7 x #[.int .i64 3,.int .i64 c.bits,.int .i64 c.K,.slice c.ba c.nb c.cb,.int .i64 seed,h,.int .i64 (nf+n),.map (some vm)] 64:=by rw [hw7];exact q5.blk.set 6 _
 have v7:J2j w7 vm base:=q5.vs.kept (by rw [hw7];exact Jk _ _ dV.2.2);have c7:=(J08.mk q7 v7).cells;have hs7:=ht7.size;have hhb:∀ y,y=base\/y∈tpl T->y<w0.heap.size:=fun y hy=>tab.lt y hy;have hr7:Row false w7 w1.heap.size 45 .u64 (fs.map fun f=>hs f.it) fs.length:=by
  have e:J20 hs fs n=fs.map fun f=>hs f.it:=by unfold J20;rw [<- hn,List.take_length,Nat.sub_self,List.replicate_zero,List.append_nil]
  rw [<- e,hn];exact hr5.kept (by rw [hw7];exact Jk _ _ (show w1.heap.size≠x by omega))
 have hInF:InF w7 x ga fs cap pl c seed T base w1.heap.size hs bs:=
  ⟨Jsj ht7,fsk ht7,okf,hr7,c7.1,c7.2.1,c7.2.2.1,c7.2.2.2.1,c7.2.2.2.2.1,bnd.kept fun bb e hl=>ht7.heap bb hl (dB _ e).2.2.2,bsl,so,cfg,hsr,fun y hy=>⟨(dF y hy).1,(dF y hy).2.1⟩,dX,
   ⟨fun e=>by have:=hhb _ (.inl e);omega,fun e=>by have:=hhb _ (.inr e);omega⟩,fun a e=>⟨(dB a e).1,(dB a e).2.1,Jb7 (dB a e).2.2.1 hs7⟩,by omega,by
    have:=J4o tab.nodup fun y hy=>by obtain ⟨t,ht,rfl⟩:=Jb3.1 hy;exact hTU t ht
    simp only [Jc3] at this;omega⟩
 refine wp_seq (Code.wp_mono ?_ (Jq1 hInF hn c7.2.2.2.2.2.2.2 v7 ⟨dV.1,dV.2.1⟩ s7 a0 a1 a4 a7));rintro e ⟨t8,d8⟩ w8 ⟨rfl,hd8,s8,a4,hJ⟩;simp only at hd8 s8 a4;subst hd8;refine Jq2 s8 ⟨rfl,?_⟩;have hJt:=hJ.tch;obtain ⟨T',k1,k2,k3,k4,k5⟩:=hJ;have hxn:¬ (x=base\/x∈tpl T):=fun h=>h.elim dX.1 dX.2;refine ⟨⟨?_,v7.kept (hJt.heap vm (by omega) fun h=>h.elim dV.1 dV.2.1)⟩,⟨T',k1.tab fun key B hB=>?_,k2,fun y hy=>(k4 y hy).imp id fun h=>by omega⟩,?_⟩
 ·rw [hn];exact q7.kept (hJt.heap x (by omega) hxn)
 ·rw [k2] at hB;refine Jci cfg bsl hsr (fun key B h=>?_) key B hB;obtain ⟨t,_,_,rfl,rfl,rfl,_,_⟩:=J21 h;exact tab.ok t (by simp)
 ·exact (ht7.mono (Ja2 _) fun b _ h=>.inl h).then hJt hs7 fun b _ h=>.inr h
end
theorem Jmz {P:Program} {ops:Array Oper} {Q:Exit->Act->World->Prop} {i:Nat} {o:Oper} {a:Act} {w w':World} {v vs vx:Value} {K:Act->World->Prop} {s x:Tmp} {t:TypeId} (ho:ops[i]?=some o) (hg:o.guard=none) (hop:o.op=.call { callee:=.builtin .append,args:=#[.tmp s,.tmp x],argTypes:=#[t,t] })
  (hs:a.tmps[s]?=some vs) (hx:a.tmps[x]?=some vx) (hr:(Builtin.append_ #[t,t] o.type #[vs,vx]).run P w=.ok v w') (h:K (a.put o.dst v) w'):wpOp P ops Q i K a w:=by
 refine J9 ho hg (v:=v) (w':=w') ?_ h;unfold execOp;simp only [hop,resolve,invoke,builtin,Sem.run_bind,Sem.run_pure,Result.andThen_ok,List.map_toArray,Jc4,List.map_nil,J7y hs,J7y hx,hr]
structure J1t where
 a:Int
 b:Int
 c:Int
 it:Int
 v:Int
structure Jn0 (r:J1t):Prop where
 a:I64 r.a
 b:I64 r.b
 c:I64 r.c
 it:I64 r.it
 v:I64 r.v
def J1t.fact (r:J1t):Jg:=⟨[Ju r.a 4,Ju r.b 4,Ju r.c 4],r.it,r.v⟩
theorem J1t.Jxy {r:J1t} (h:Jn0 r):J49 r.fact:=by
 refine ⟨rfl,fun x hx=>?_,h.it,h.v⟩;have p:∀ c,0<=Ju c 4/\Ju c 4<=99:=fun c=>by have:=J5h (c:=c) (n:=4) (by omega);omega
 simp only [J1t.fact,Jb8,Jc2,or_false] at hx;rcases hx with rfl|rfl|rfl
 ·exact p _
 ·exact p _
 ·exact p _
structure Jaz (w:World) (la:Option Addr) (rs:List J1t):Prop where
 at_:∀ i r,rs[i]?=some r->∃ b o,la=some ⟨b,o,none⟩/\b<w.heap.size/\w.cell? ⟨b,o+i*5,none⟩=some (.int .i64 r.a)/\w.cell? ⟨b,o+i*5+1,none⟩=some (.int .i64 r.b)/\w.cell? ⟨b,o+i*5+2,none⟩=some (.int .i64 r.c)/\w.cell? ⟨b,o+i*5+3,none⟩=some (.int .i64 r.it)/\w.cell? ⟨b,o+i*5+4,none⟩=some (.int .i64 r.v)
 ok:∀ r∈rs,Jn0 r
def J5a (p:Jg × Nat):List Value:=[.slice (some ⟨p.2,0,none⟩) 3 3,.int .i64 p.1.it,.int .i64 p.1.v]
structure J13 (w:World) (base:Nat) (v:Value) (L:List (Jg × Nat)):Prop where
 own:w.ownsRow base 47 3 v L.length (L.flatMap J5a)
 rows:∀ p∈L,base<=p.2/\Row false w p.2 3 .i64 p.1.k 3/\p.1.k.length=3
theorem J13.nil (w:World) (base:Nat):J13 w base (.slice none 0 0) []:=⟨⟨rfl,.inl ⟨rfl,rfl⟩⟩,fun p hp=>by cases hp⟩
theorem Jj7:∀ (L:List (Jg × Nat)) (i:Nat) (p:Jg × Nat),L[i]?=some p->∀ j,j<3->(L.flatMap J5a)[i*3+j]?=(J5a p)[j]?
 | [],i,p,h,_,_=>by simp at h
 | q::L,0,p,h,j,hj=>by
  simp at h;subst h;rw [List.flatMap_cons,List.getElem?_append_left (by simp [J5a];omega)];simp
 | q::L,i+1,p,h,j,hj=>by rw [List.getElem?_cons_succ] at h;rw [List.flatMap_cons,List.getElem?_append_right (by simp [J5a];omega)];have:=Jj7 L i p h j hj;rw [show (i+1)*3+j-(J5a q).length=i*3+j by simp [J5a];omega];exact this
theorem J13.at {w:World} {base:Nat} {v:Value} {L:List (Jg × Nat)} (h:J13 w base v L):∃ ga cap pl,v=.slice ga L.length cap/\J3a false w ga (L.map (·.1)) cap pl/\∀ y∈pl,base<=y:=by
 rcases h.own.2 with ⟨rfl,h0⟩|⟨g,cap,cur,rfl,hb,hg,h1,h2,h3,h4⟩
 ·have:L=[]:=List.eq_nil_of_length_eq_zero h0;subst this;exact ⟨none,0,[],rfl,⟨fun x hx=>(by cases hx),fun i f hf=>(by simp at hf),(by simp)⟩,fun y hy=>(by cases hy)⟩
 ·refine ⟨some ⟨g,0,none⟩,cap,g::L.map (·.2),rfl,⟨fun x hx=>?_,fun i f hf=>?_,by simpa using h1⟩,fun y hy=>?_⟩
  ·rcases Jb8.1 hx with rfl|hx
   ·exact Ji hg
   ·obtain ⟨p,hp,rfl⟩:=Jb3.1 hx;exact (h.rows p hp).2.1.lt
  ·rw [List.getElem?_map] at hf;cases hp:L[i]? with
   | none=>rw [hp] at hf;cases hf
   | some p=>
    rw [hp] at hf;cases hf;have hm:=Jd0 hp;obtain ⟨_,r2,r3⟩:=h.rows p hm;have hlt:i<L.length:=(List.getElem?_eq_some_iff.1 hp).1;have e:∀ j,j<3->w.cell? ⟨g,i*3+j,none⟩=(J5a p)[j]?:=fun j hj=>by rw [cell_of hg,<- Jj7 L i p hp j hj,<- h4,List.getElem?_take_of_lt (by omega)];simp
    exact ⟨g,p.2,3,rfl,by simp,List.mem_cons_of_mem _ (Jb3.2 ⟨p,hm,rfl⟩),by rw [r3];exact e 0 (by omega),e 1 (by omega),e 2 (by omega),r2⟩
  ·rcases Jb8.1 hy with rfl|hy
   ·exact hb
   ·obtain ⟨p,hp,rfl⟩:=Jb3.1 hy;exact (h.rows p hp).1
theorem Jxz:(Tryz.prog.info? 47).map (fun i=>(i.zero,i.size,i.bytes))=some (some (.agg #[.slice none 0 0,.int .i64 0,.int .i64 0]),3,40):=by kernel_rfl
theorem J13.kept {w w':World} {base:Nat} {v:Value} {L:List (Jg × Nat)} (h:J13 w base v L) (hh:∀ b,b<w.heap.size->w'.heap[b]?=w.heap[b]?):J13 w' base v L:=by
 refine ⟨⟨h.own.1,?_⟩,fun p hp=>⟨(h.rows p hp).1,(h.rows p hp).2.1.kept (hh _ (h.rows p hp).2.1.lt),(h.rows p hp).2.2⟩⟩;rcases h.own.2 with hn|⟨g,cap,cur,rfl,hb,hg,rest⟩
 ·exact .inl hn
 ·exact .inr ⟨g,cap,cur,rfl,hb,(hh g (Ji hg)).trans hg,rest⟩
theorem J13.push {w:World} {base:Nat} {v:Value} {L:List (Jg × Nat)} (h:J13 w base v L) (hb:base<=w.heap.size) (hn:L.length<=1000) {f:Jg} {kb sb:Nat} (hk:f.k.length=3) (hkb:base<=kb) (hr:Row false w kb 3 .i64 f.k 3) (hs:w.heap[sb]?=some (.cells #[.slice (some ⟨kb,0,none⟩) 3 3,.int .i64 f.it,.int .i64 f.v] 47)) (ty:TypeId) :
  ∃ v' w',(Builtin.append_ #[23,23] ty #[v,.slice (some ⟨sb,0,none⟩) 1 1]).run Tryz.prog w=.ok v' w'/\J13 w' base v' (L++[(f,kb)])/\w.grownBy w' v.ownBlock/\(∀ b,v.ownBlock=some b->base<=b):=by
 obtain ⟨i0,hi,hz0,hz1,hz2⟩:=info_parts Jxz;have e:maxLen=9223372036854775807:=by decide
 obtain ⟨v',w',r1,r2,r3,_⟩:=run_append_own_at (P:=Tryz.prog) (w:=w) base 23 ty 47 i0 _ 3 40 Tryz.underlying23 hi hz0 hz1 hz2 rfl (by omega) v L.length _ h.own ⟨sb,0,none⟩ 1 1 (J5a (f,kb)) rfl (fun j u hj=>by
  rw [add0,cell_of hs]
  match j,hj with
  | 0,hj=>exact hj
  | 1,hj=>exact hj
  | 2,hj=>exact hj
  | j+3,hj=>simp [J5a] at hj) (fun u hu=>by simp only [J5a,Jb8,Jc2,or_false] at hu;rcases hu with rfl|rfl|rfl<;>rfl) (by omega) (by omega) hb
 have hob:∀ b,v.ownBlock=some b->base<=b/\∃ cur,w.heap[b]?=some (.cells cur 47):=fun b hb=>by
  rcases h.own.2 with ⟨rfl,_⟩|⟨g,cap,cur,rfl,hbg,hg,_⟩
  ·cases hb
  ·cases hb;exact ⟨hbg,cur,hg⟩
 have kept:∀ {b:Nat} {xs:List Int},Row false w b 3 .i64 xs 3->Row false w' b 3 .i64 xs 3:=fun {b xs} hrow=>hrow.kept (r3.block b hrow.lt fun e=>by obtain ⟨_,cur,hc⟩:=hob b e.symm;obtain ⟨arr,⟨z,hz,hz'⟩,_⟩:=hrow;rw [hc] at hz;cases hz);refine ⟨v',w',r1,⟨by simpa using r2,fun p hp=>?_⟩,r3,fun b hb=>(hob b hb).1⟩;rcases Jc9.1 hp with hp|hp
 ·obtain ⟨q1,q2,q3⟩:=h.rows p hp;exact ⟨q1,kept q2,q3⟩
 ·simp only [Jb8,Jc2,or_false] at hp;subst hp;exact ⟨hkb,kept hr,hk⟩
def Jy0 (vv:Value) (b o n cap k:Nat) (f:Jg) (A B C:Int):Nat->Value->List (Nat × Obj)->Prop
 | 0,v,H=>H=[]/\v=vv
 | 1,v,H=>H=[]/\v=.int .i64 A
 | 2,v,H=>H=[]/\v=.int .i64 B
 | 3,v,H=>H=[]/\v=.int .i64 C
 | 4,v,H=>∃ kb,H=[(kb,.cells #[.int .i64 A,.int .i64 B,.int .i64 C] 3)]/\v=.slice (some ⟨kb,0,none⟩) 3 3
 | 5,v,H=>H=[]/\v=.slice (some ⟨b,o,none⟩) n cap
 | 6,v,H=>H=[]/\v=.int .i64 k
 | 7,v,H=>H=[]/\v=pt b (o+k*5)
 | 8,v,H=>H=[]/\v=pt b (o+k*5+3)
 | 9,v,H=>H=[]/\v=.int .i64 f.it
 | 10,v,H=>H=[]/\v=.slice (some ⟨b,o,none⟩) n cap
 | 11,v,H=>H=[]/\v=.int .i64 k
 | 12,v,H=>H=[]/\v=pt b (o+k*5)
 | 13,v,H=>H=[]/\v=pt b (o+k*5+4)
 | 14,v,H=>H=[]/\v=.int .i64 f.v
 | 15,v,H=>∃ kb,H=[(kb,.cells #[.int .i64 A,.int .i64 B,.int .i64 C] 3)]/\v=.agg #[.slice (some ⟨kb,0,none⟩) 3 3,.int .i64 f.it,.int .i64 f.v]
 | _,v,H=>∃ sb kb,H=[(sb,.cells #[.slice (some ⟨kb,0,none⟩) 3 3,.int .i64 f.it,.int .i64 f.v] 47),(kb,.cells #[.int .i64 A,.int .i64 B,.int .i64 C] 3)]/\v=.slice (some ⟨sb,0,none⟩) 1 1
end Go.Sim.Z
