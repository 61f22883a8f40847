/- PROVED HERE: laws that the statement rests on (parts Zh, Zi, Zj, Zk). Conditions: none. -/
import Derived.Maps.RangeWalk
import Derived.Test.YtlcbehhbfglgaaaGreatE32
set_option linter.all false
namespace Go.Sim.Z
open Go Go.Proofs Go.RowKit Go.Maps
section
variable {w:World} {x:Nat} {ga:Option Addr} {fs:List FactD} {cap n:Nat} {pl:List Nat} {t:Array Value} {c:CfgD} {T:List TR} {U:List (List Int)} {mk vb hb nb base vm N0:Nat} {hs:Int→Int} {bs:List Int} {seed nf:Int} {h:Value} {L:List (List Int × Value)}
theorem p13_1_any (hn:fs.length=n) (hx:w.cell? ⟨x,0,none⟩=some (.int .i64 3)) (hf:FsAt false w ga fs cap pl) (hok:∀ g∈fs,FactOk g) (hn2:n≤1000) (hsz:t.size=157) (h0:t[0]?=some (.pointer (some ⟨x,0,none⟩))) (h1:t[1]?=some (.slice ga n cap)) (h4:t[4]?=some (.nilIface)) :
  p13_1.wp Tryz.prog (fun e a w'=>e=.normal∧a.defers=[]∧a.tmps.size=157∧a.tmps[0]?=some (.pointer (some ⟨x,0,none⟩))∧a.tmps[1]?=some (.slice ga n cap)∧a.tmps[4]?=some .nilIface∧Tch w.heap.size M0 w w') ⟨t,[]⟩ w:=by
 obtain ⟨f,rfl⟩:=arr157 hsz
 have e0:f 0=.pointer (some ⟨x,0,none⟩):=Option.some.inj (show some (f 0)=_ from h0)
 have e1:f 1=.slice ga n cap:=Option.some.inj (show some (f 1)=_ from h1)
 have e4:f 4=.nilIface:=Option.some.inj (show some (f 4)=_ from h4)
 rw [e0,e1,e4]
 exact by subst hn;exact p13_1_wp hx hf hok hn2
theorem p13_2_any (hn:n≤1000) (hsz:t.size=157) (h0:t[0]?=some (.pointer (some ⟨x,0,none⟩))) (h1:t[1]?=some (.slice ga n cap)) (h4:t[4]?=some (.nilIface)) :
  p13_2.wp Tryz.prog (fun e a w'=>e=.normal∧a.defers=[]∧a.tmps.size=157∧a.tmps[0]?=some (.pointer (some ⟨x,0,none⟩))∧a.tmps[1]?=some (.slice ga n cap)∧a.tmps[4]?=some .nilIface∧a.tmps[7]?=some (.slice (some ⟨w.heap.size,0,none⟩) n n)∧w'=w.alloc (.cells (Array.replicate n (.int .u64 0)) 45)) ⟨t,[]⟩ w:=by
 obtain ⟨f,rfl⟩:=arr157 hsz
 have e0:f 0=.pointer (some ⟨x,0,none⟩):=Option.some.inj (show some (f 0)=_ from h0)
 have e1:f 1=.slice ga n cap:=Option.some.inj (show some (f 1)=_ from h1)
 have e4:f 4=.nilIface:=Option.some.inj (show some (f 4)=_ from h4)
 rw [e0,e1,e4]
 exact p13_2_wp hn
theorem p13_3_any (q:CubeAt w x c seed h nf vm base) (hsz:t.size=157) (h0:t[0]?=some (.pointer (some ⟨x,0,none⟩))) (h1:t[1]?=some (.slice ga n cap)) (h4:t[4]?=some (.nilIface)) (h7:t[7]?=some (.slice (some ⟨hb,0,none⟩) n n)) :
  p13_3.wp Tryz.prog (fun e a w'=>e=.normal∧a.defers=[]∧a.tmps.size=157∧a.tmps[0]?=some (.pointer (some ⟨x,0,none⟩))∧a.tmps[1]?=some (.slice ga n cap)∧a.tmps[4]?=some .nilIface∧a.tmps[7]?=some (.slice (some ⟨hb,0,none⟩) n n)∧a.tmps[8]?=some (.map (some base))∧Tch w.heap.size M0 w w'∧w'.heap=w.heap) ⟨t,[]⟩ w:=by
 obtain ⟨f,rfl⟩:=arr157 hsz
 have e0:f 0=.pointer (some ⟨x,0,none⟩):=Option.some.inj (show some (f 0)=_ from h0)
 have e1:f 1=.slice ga n cap:=Option.some.inj (show some (f 1)=_ from h1)
 have e4:f 4=.nilIface:=Option.some.inj (show some (f 4)=_ from h4)
 have e7:f 7=.slice (some ⟨hb,0,none⟩) n n:=Option.some.inj (show some (f 7)=_ from h7)
 rw [e0,e1,e4,e7]
 exact p13_3_wp q
theorem p13_4_any (hsz:t.size=157) (h0:t[0]?=some (.pointer (some ⟨x,0,none⟩))) (h1:t[1]?=some (.slice ga n cap)) (h4:t[4]?=some (.nilIface)) (h7:t[7]?=some (.slice (some ⟨hb,0,none⟩) n n)) (h8:t[8]?=some (.map (some base))) :
  p13_4.wp Tryz.prog (fun e a w'=>e=.normal∧a.defers=[]∧a.tmps.size=157∧a.tmps[0]?=some (.pointer (some ⟨x,0,none⟩))∧a.tmps[1]?=some (.slice ga n cap)∧a.tmps[4]?=some .nilIface∧a.tmps[7]?=some (.slice (some ⟨hb,0,none⟩) n n)∧a.tmps[8]?=some (.map (some base))∧a.tmps[9]?=some (.map (some w.heap.size))∧w'=w.alloc (.map #[] 0)) ⟨t,[]⟩ w:=by
 obtain ⟨f,rfl⟩:=arr157 hsz
 have e0:f 0=.pointer (some ⟨x,0,none⟩):=Option.some.inj (show some (f 0)=_ from h0)
 have e1:f 1=.slice ga n cap:=Option.some.inj (show some (f 1)=_ from h1)
 have e4:f 4=.nilIface:=Option.some.inj (show some (f 4)=_ from h4)
 have e7:f 7=.slice (some ⟨hb,0,none⟩) n n:=Option.some.inj (show some (f 7)=_ from h7)
 have e8:f 8=.map (some base):=Option.some.inj (show some (f 8)=_ from h8)
 rw [e0,e1,e4,e7,e8]
 exact p13_4_wp
theorem p13_5_any (hn:fs.length=n) (hn2:n≤1000) (hN:N0≤w.heap.size) (hone:∀ w1,Tch N0 M0 w w1→∀ item at_,Calls Tryz.prog 24 #[.pointer (some ⟨x,0,none⟩),.int .i64 item,.int .i64 at_] w1 fun e w2=>e=.returned (.tuple #[.int .u64 (hs item),.nilIface])∧Tch w1.heap.size M0 w1 w2)
  (hfl:∀ y∈pl,y<N0) (hf:∀ w1,Tch N0 M0 w w1→FsAt false w1 ga fs cap pl) (hok:∀ g∈fs,FactOk g) (hT:∀ w1,Tch N0 M0 w w1→TabAt false w1 c base T) (hU:∀ g∈fs,padK g.k∈U) (hUn:U.length≤1000)
  (hhb:N0≤hb) (hnb:N0≤nb) (hne:hb≠nb) (hr0:Row false w hb 45 .u64 (hashN hs fs 0) n) (hL0:NewsAt w nb T U []) (hTU:∀ t∈T,t.k∈U) (hsz:t.size=157) (h0:t[0]?=some (.pointer (some ⟨x,0,none⟩))) (h1:t[1]?=some (.slice ga n cap)) (h4:t[4]?=some (.nilIface)) (h7:t[7]?=some (.slice (some ⟨hb,0,none⟩) n n)) (h8:t[8]?=some (.map (some base))) (h9:t[9]?=some (.map (some nb))) :
  p13_5.wp Tryz.prog (fun e a w'=>e=.normal∧a.defers=[]∧a.tmps.size=157∧a.tmps[0]?=some (.pointer (some ⟨x,0,none⟩))∧a.tmps[1]?=some (.slice ga n cap)∧a.tmps[4]?=some .nilIface∧a.tmps[7]?=some (.slice (some ⟨hb,0,none⟩) n n)∧a.tmps[8]?=some (.map (some base))∧a.tmps[9]?=some (.map (some nb))∧Row false w' hb 45 .u64 (hashN hs fs n) n∧(∃ L,NewsAt w' nb T U L)∧Tch N0 M0 w w') ⟨t,[]⟩ w:=by
 obtain ⟨f,rfl⟩:=arr157 hsz
 have e0:f 0=.pointer (some ⟨x,0,none⟩):=Option.some.inj (show some (f 0)=_ from h0)
 have e1:f 1=.slice ga n cap:=Option.some.inj (show some (f 1)=_ from h1)
 have e4:f 4=.nilIface:=Option.some.inj (show some (f 4)=_ from h4)
 have e7:f 7=.slice (some ⟨hb,0,none⟩) n n:=Option.some.inj (show some (f 7)=_ from h7)
 have e8:f 8=.map (some base):=Option.some.inj (show some (f 8)=_ from h8)
 have e9:f 9=.map (some nb):=Option.some.inj (show some (f 9)=_ from h9)
 rw [e0,e1,e4,e7,e8,e9]
 exact p13_5_wp hn hn2 hN hone hfl hf hok hT hU hUn hhb hnb hne hr0 hL0 hTU
theorem p13_6_any (hx:w.cell? ⟨x,6,none⟩=some (.int .i64 nf)) (hnf:0≤nf) (hn:nf+n≤3000) (hT:TabAt false w c base T) (hL:NewsAt w nb T U L) (hTU:∀ t∈T,t.k∈U) (hU:U.length≤128) (hsz:t.size=157) (h0:t[0]?=some (.pointer (some ⟨x,0,none⟩))) (h1:t[1]?=some (.slice ga n cap)) (h4:t[4]?=some (.nilIface)) (h7:t[7]?=some (.slice (some ⟨hb,0,none⟩) n n)) (h8:t[8]?=some (.map (some base))) (h9:t[9]?=some (.map (some nb))) :
  p13_6.wp Tryz.prog (fun e a w'=>e=.normal∧a.defers=[]∧a.tmps.size=157∧a.tmps[0]?=some (.pointer (some ⟨x,0,none⟩))∧a.tmps[1]?=some (.slice ga n cap)∧a.tmps[4]?=some .nilIface∧a.tmps[7]?=some (.slice (some ⟨hb,0,none⟩) n n)∧w'=w) ⟨t,[]⟩ w:=by
 obtain ⟨f,rfl⟩:=arr157 hsz
 have e0:f 0=.pointer (some ⟨x,0,none⟩):=Option.some.inj (show some (f 0)=_ from h0)
 have e1:f 1=.slice ga n cap:=Option.some.inj (show some (f 1)=_ from h1)
 have e4:f 4=.nilIface:=Option.some.inj (show some (f 4)=_ from h4)
 have e7:f 7=.slice (some ⟨hb,0,none⟩) n n:=Option.some.inj (show some (f 7)=_ from h7)
 have e8:f 8=.map (some base):=Option.some.inj (show some (f 8)=_ from h8)
 have e9:f 9=.map (some nb):=Option.some.inj (show some (f 9)=_ from h9)
 rw [e0,e1,e4,e7,e8,e9]
 exact p13_6_wp hx hnf hn hT hL hTU hU
theorem p13_7_any (hx:w.cell? ⟨x,6,none⟩=some (.int .i64 nf)) (hz:w.frozen? ⟨x,6,none⟩=false) (hnf:0≤nf) (hn:nf+n≤3000) (hsz:t.size=157) (h0:t[0]?=some (.pointer (some ⟨x,0,none⟩))) (h1:t[1]?=some (.slice ga n cap)) (h4:t[4]?=some (.nilIface)) (h7:t[7]?=some (.slice (some ⟨hb,0,none⟩) n n)) :
  p13_7.wp Tryz.prog (fun e a w'=>e=.normal∧a.defers=[]∧a.tmps.size=157∧a.tmps[0]?=some (.pointer (some ⟨x,0,none⟩))∧a.tmps[1]?=some (.slice ga n cap)∧a.tmps[4]?=some .nilIface∧a.tmps[7]?=some (.slice (some ⟨hb,0,none⟩) n n)∧w'=w.setCell ⟨x,6,none⟩ (.int .i64 (nf+n))) ⟨t,[]⟩ w:=by
 obtain ⟨f,rfl⟩:=arr157 hsz
 have e0:f 0=.pointer (some ⟨x,0,none⟩):=Option.some.inj (show some (f 0)=_ from h0)
 have e1:f 1=.slice ga n cap:=Option.some.inj (show some (f 1)=_ from h1)
 have e4:f 4=.nilIface:=Option.some.inj (show some (f 4)=_ from h4)
 have e7:f 7=.slice (some ⟨hb,0,none⟩) n n:=Option.some.inj (show some (f 7)=_ from h7)
 rw [e0,e1,e4,e7]
 exact p13_7_wp hx hz hnf hn
theorem c13_in_any {v:Value} (hI:InF w x ga fs cap pl c seed T vb hb hs bs) (hn:fs.length=n) (hsz:t.size=157) (h0:t[0]?=some (.pointer (some ⟨x,0,none⟩))) (h1:t[1]?=some (.slice ga n cap)) (h4:t[4]?=some (.nilIface)) (h7:t[7]?=some (.slice (some ⟨hb,0,none⟩) n n)) (h15:t[15]?=some (.int .i64 mk)) (h16:t[16]?=some (.map (some vb))) (h117:t[117]?=some v) :
  c13_in.wp Tryz.prog (fun e a w'=>e=.normal∧a.defers=[]∧a.tmps.size=157∧a.tmps[0]?=some (.pointer (some ⟨x,0,none⟩))∧a.tmps[1]?=some (.slice ga n cap)∧a.tmps[4]?=some .nilIface∧a.tmps[7]?=some (.slice (some ⟨hb,0,none⟩) n n)∧a.tmps[117]?=some v∧LJ w c vb T (insFs c bs hs mk (tm T) fs) (T.length+2*n) w') ⟨t,[]⟩ w:=by
 obtain ⟨f,rfl⟩:=arr157 hsz
 have e0:f 0=.pointer (some ⟨x,0,none⟩):=Option.some.inj (show some (f 0)=_ from h0)
 have e1:f 1=.slice ga n cap:=Option.some.inj (show some (f 1)=_ from h1)
 have e4:f 4=.nilIface:=Option.some.inj (show some (f 4)=_ from h4)
 have e7:f 7=.slice (some ⟨hb,0,none⟩) n n:=Option.some.inj (show some (f 7)=_ from h7)
 have e15:f 15=.int .i64 mk:=Option.some.inj (show some (f 15)=_ from h15)
 have e16:f 16=.map (some vb):=Option.some.inj (show some (f 16)=_ from h16)
 have e117:f 117=v:=Option.some.inj (show some (f 117)=_ from h117)
 rw [e0,e1,e4,e7,e15,e16,← e117]
 exact c13_in_wp hI hn
end
theorem keyOf3_inv {v:Value} {l:Lit} (h:keyOf Tryz.prog 3 v=some l):∃ x:Int,v=.int .i64 x∧l=.int .i64 x:=by
 unfold keyOf at h
 simp only [Tryz.underlying3] at h
 cases v with
 | int k n=>
  by_cases hk:k=.i64
  ·subst hk
   refine ⟨n,rfl,?_⟩
   simp [mapKey] at h
   exact h.2.symm
  ·simp [mapKey] at h
   exact absurd h.1.1 hk
 | _=>simp [mapKey] at h
theorem InF.tch {w w1:World} {x:Nat} {ga:Option Addr} {fs:List FactD} {cap:Nat} {pl:List Nat} {c:CfgD} {T:List TR} {hb vb:Nat} {hs:Int→Int} {bs:List Int} {seed:Int} (h:InF w x ga fs cap pl c seed T vb hb hs bs) (t:Tch w.heap.size M0 w w1):InF w1 x ga fs cap pl c seed T vb hb hs bs:=by
 have hxl:=cell_lt h.x0
 have e:∀ i,w1.cell? ⟨x,i,none⟩=w.cell? ⟨x,i,none⟩:=fun i=>t.cell hxl fun h=>h
 have hh:=t.size
 exact ⟨h.tab.kept fun y hy=>t.heap y (h.tab.lt y hy) fun h=>h,h.fsa.kept fun y hy=>t.heap y (h.fsa.lt y hy) fun h=>h,h.okf,h.hr.tch t h.hr.lt fun h=>h,(e 0).trans h.x0,(e 1).trans h.x1,(e 2).trans h.x2,(e 3).trans h.x3,(e 4).trans h.x4,
  h.bnd.kept fun bb _ hl=>t.heap bb hl fun h=>h,h.bsl,h.so,h.cfg,h.hs,h.dF,h.dX,h.dH,fun a ha=>⟨(h.dB a ha).1,(h.dB a ha).2.1,Nat.lt_of_lt_of_le (h.dB a ha).2.2 hh⟩,h.nf,h.nT⟩
theorem ranges_kept {w w1:World} {b r n cnt:Nat} {D:DataW Value} {left:Lit→Bool} (h:w.ranges Tryz.prog 3 Rv b r n D left cnt) (h1:w1.heap[b]?=w.heap[b]?) (h2:w1.heap[r]?=w.heap[r]?):w1.ranges Tryz.prog 3 Rv b r n D left cnt:=by
 obtain ⟨es,clock,since,seen,c0,hb,F,hs,hD,hr,rest⟩:=h
 exact ⟨es,clock,since,seen,c0,h1.trans hb,F,hs,hD,h2.trans hr,rest⟩
theorem LJ.from {w w1 w2:World} {c:CfgD} {vb N:Nat} {T:List TR} {g:List Int→Option Bun} (t:Tch w.heap.size M0 w w1) (h:LJ w1 c vb T g N w2):LJ w c vb T g N w2:=by
 obtain ⟨T',h1,h2,h3,h4,h5⟩:=h
 have:=t.size
 exact ⟨T',h1,h2,h3,fun y hy=>(h4 y hy).imp id fun h=>by omega,⟨Nat.le_trans t.size h5.size,fun b hb hn=>(h5.heap b (by omega) hn).trans (t.heap b hb fun h=>h),h5.tape.trans t.tape,h5.os.trans t.os,h5.output.trans t.output⟩⟩
noncomputable def r24:Code:=fC p13_8
noncomputable def r25:Code:=fC (lC (bC (sC p13_8)))
noncomputable def cn25:Code:=fC (sC (lC (bC (sC p13_8))))
noncomputable def r26:Code:=fC (bC (sC (sC (lC (bC (sC p13_8))))))
theorem p13_8_eq:p13_8=.seq r24 (.block 4 (.loop (.seq r25 (.seq cn25 (.block 5 (.seq r26 c13_in)))))):=by kernel_rfl
section
variable {w:World} {x:Nat} {ga:Option Addr} {fs:List FactD} {cap n:Nat} {pl:List Nat} {f:Nat→Value} {c:CfgD} {T:List TR} {hb vm base:Nat} {hs:Int→Int} {bs:List Int} {seed:Int}
set_option maxRecDepth 100000 in
set_option maxHeartbeats 8000000 in
theorem p13_8_wp (hI:InF w x ga fs cap pl c seed T base hb hs bs) (hn:fs.length=n) (h7:w.cell? ⟨x,7,none⟩=some (.map (some vm))) (hV:VMap w vm base) (hvm:vm≠base∧vm∉tpl T) :
  p13_8.wp Tryz.prog (fun e a w'=>e=.normal∧a.defers=[]∧a.tmps.size=157∧a.tmps[4]?=some .nilIface∧LJ w c base T (insFs c bs hs 7 (tm T) fs) (T.length+2*n) w') ⟨#[.pointer (some ⟨x,0,none⟩),.slice ga n cap,f 2,f 3,.nilIface,f 5,f 6,.slice (some ⟨hb,0,none⟩) n n,f 8,f 9,f 10,f 11,f 12,f 13,f 14,f 15,f 16,f 17,f 18,f 19,f 20,f 21,f 22,f 23,f 24,f 25,f 26,f 27,f 28,f 29,f 30,f 31,f 32,f 33,f 34,f 35,f 36,f 37,f 38,f 39,f 40,f 41,f 42,f 43,f 44,f 45,f 46,f 47,f 48,f 49,f 50,f 51,f 52,f 53,f 54,f 55,f 56,f 57,f 58,f 59,f 60,f 61,f 62,f 63,f 64,f 65,f 66,f 67,f 68,f 69,f 70,f 71,f 72,f 73,f 74,f 75,f 76,f 77,f 78,f 79,f 80,f 81,f 82,f 83,f 84,f 85,f 86,f 87,f 88,f 89,f 90,f 91,f 92,f 93,f 94,f 95,f 96,f 97,f 98,f 99,f 100,f 101,f 102,f 103,f 104,f 105,f 106,f 107,f 108,f 109,f 110,f 111,f 112,f 113,f 114,f 115,f 116,f 117,f 118,f 119,f 120,f 121,f 122,f 123,f 124,f 125,f 126,f 127,f 128,f 129,f 130,f 131,f 132,f 133,f 134,f 135,f 136,f 137,f 138,f 139,f 140,f 141,f 142,f 143,f 144,f 145,f 146,f 147,f 148,f 149,f 150,f 151,f 152,f 153,f 154,f 155,f 156],[]⟩ w:=by
 obtain ⟨nn,hown⟩:=hV
 rw [p13_8_eq]
 simp only [r24,r25,cn25,r26,p13_8,b13,fC,sC,bC,lC,Tryz.f13,Option.getD_some]
 go_wp2_with (at_range;refine wpList_range_own _ rfl _ 62 rfl 3 70 keyed3 Tryz.underlying62 _ vm nn _ rfl hown ?_;intro w0 hrg0 hg0 hs0)
 refine wp_loop_rounds 2 ?_
 rw [rounds_succ]
 have hsz1:Maps.size (DataW.map [(Lit.int .i64 7,DataW.held (H:=Value) (Value.map (some base)))])=1:=rfl
 go_wp2_with (at_next;refine wpList_next_ranges _ rfl _ rfl 3 keyed3 Rv (Value.int .i64) id (fun key kl hk=>(keyOf3_inv hk).imp fun _ h=>h.1) (fun v _ _=>⟨v,rfl⟩) vm w.heap.size nn _ _ _ rfl hrg0 (fun h=>by rw [hsz1] at h;cases h) ?_;intro x1 c1 kl y1 w2 cnt2 hkey hlk hR hat hrg2 hlt2 hg2 hs2 hen)
 obtain ⟨x2,e2,rfl⟩:=keyOf3_inv hkey
 cases e2
 have hx7:x1=7:=by
  simp [Maps.has,Lit.sameKey] at hlk
  exact hlk.symm
 subst hx7
 have hc1:c1=.map (some base):=by
  have h1:=hat (.held (.map none))
  simp [DataW.atKey,Lit.sameKey] at h1
  simp [Rv] at hR
  rw [← hR] at h1
  simp at h1
  exact h1.symm
 subst hc1
 have t0:Tch w.heap.size M0 w w0:=⟨hg0.size,fun b hb _=>hg0.block b hb (by simp),hg0.tape,hg0.os,hg0.output⟩
 have t2:Tch w.heap.size M0 w w2:=⟨by omega,fun b hb _=>(hg2.block b (by omega) fun e=>by have:=Option.some.inj e;omega).trans (t0.heap b hb fun h=>h),hg2.tape.trans t0.tape,hg2.os.trans t0.os,hg2.output.trans t0.output⟩
 have hvl:=hown.lt
 have hrl:=hrg2.lt
 refine Code.wp_mono ?_ (c13_in_any (mk:=7) (v:=.pointer (some ⟨w.heap.size,0,none⟩)) (hI.tch t2) hn rfl rfl rfl rfl rfl rfl rfl rfl)
 rintro e a w9 ⟨rfl,hds,hsz,a0,a1,a4,a7,a117,hJ⟩
 have hJt:=hJ.tch
 have hrg9:=ranges_kept hrg2 (hJt.heap vm (by omega) fun h=>h.elim hvm.1 hvm.2) (hJt.heap w.heap.size hrl fun h=>h.elim (fun e=>by have:=hI.tab.map.lt;omega) fun h=>by have:=hI.tab.lt _ (.inr h);omega)
 obtain ⟨tm,df⟩:=a
 simp only at hds hsz a0 a1 a4 a7 a117
 subst hds
 obtain ⟨g,rfl⟩:=arr157 hsz
 have e4:g 4=.nilIface:=Option.some.inj (show some (g 4)=_ from a4)
 have e117:g 117=.pointer (some ⟨w.heap.size,0,none⟩):=Option.some.inj (show some (g 117)=_ from a117)
 rw [e4,e117]
 simp only [Exit.inBlock,Exit.then]
 rw [rounds_succ]
 obtain rfl:cnt2=0:=by omega
 clear hsz a0 a1 a4 a7 a117
 go_wp2_with (at_next;refine wpList_next_ranges _ rfl _ rfl 3 keyed3 Rv (Value.int .i64) id (fun key kl hk=>(keyOf3_inv hk).imp fun _ h=>h.1) (fun v _ _=>⟨v,rfl⟩) vm w.heap.size nn _ _ _ rfl hrg9 ?_ (fun _ _ _ _ _ _ _ _ _ _ _ h=>absurd h (by omega));intro _ _)
 exact hJ.from t2
theorem p13_8_any {t:Array Value} (hI:InF w x ga fs cap pl c seed T base hb hs bs) (hn:fs.length=n) (h7':w.cell? ⟨x,7,none⟩=some (.map (some vm))) (hV:VMap w vm base) (hvm:vm≠base∧vm∉tpl T) (hsz:t.size=157) (h0:t[0]?=some (.pointer (some ⟨x,0,none⟩))) (h1:t[1]?=some (.slice ga n cap)) (h4:t[4]?=some .nilIface) (h7:t[7]?=some (.slice (some ⟨hb,0,none⟩) n n)) :
  p13_8.wp Tryz.prog (fun e a w'=>e=.normal∧a.defers=[]∧a.tmps.size=157∧a.tmps[4]?=some .nilIface∧LJ w c base T (insFs c bs hs 7 (tm T) fs) (T.length+2*n) w') ⟨t,[]⟩ w:=by
 obtain ⟨f,rfl⟩:=arr157 hsz
 have e0:f 0=.pointer (some ⟨x,0,none⟩):=Option.some.inj (show some (f 0)=_ from h0)
 have e1:f 1=.slice ga n cap:=Option.some.inj (show some (f 1)=_ from h1)
 have e4:f 4=.nilIface:=Option.some.inj (show some (f 4)=_ from h4)
 have e7:f 7=.slice (some ⟨hb,0,none⟩) n n:=Option.some.inj (show some (f 7)=_ from h7)
 rw [e0,e1,e4,e7]
 exact p13_8_wp hI hn h7' hV hvm
set_option maxRecDepth 100000 in
theorem p13_0_wp:(fC b13).wp Tryz.prog (fun e a w'=>e=.normal∧a.defers=[]∧a.tmps.size=157∧a.tmps[0]?=some (.pointer (some ⟨x,0,none⟩))∧a.tmps[1]?=some (.slice ga n cap)∧a.tmps[4]?=some .nilIface∧w'=w) ⟨#[.pointer (some ⟨x,0,none⟩),.slice ga n cap]++Array.replicate 155 undef,[]⟩ w:=by
 have e:Array.replicate 155 undef=#[undef,undef,undef,undef,undef,undef,undef,undef,undef,undef,undef,undef,undef,undef,undef,undef,undef,undef,undef,undef,undef,undef,undef,undef,undef,undef,undef,undef,undef,undef,undef,undef,undef,undef,undef,undef,undef,undef,undef,undef,undef,undef,undef,undef,undef,undef,undef,undef,undef,undef,undef,undef,undef,undef,undef,undef,undef,undef,undef,undef,undef,undef,undef,undef,undef,undef,undef,undef,undef,undef,undef,undef,undef,undef,undef,undef,undef,undef,undef,undef,undef,undef,undef,undef,undef,undef,undef,undef,undef,undef,undef,undef,undef,undef,undef,undef,undef,undef,undef,undef,undef,undef,undef,undef,undef,undef,undef,undef,undef,undef,undef,undef,undef,undef,undef,undef,undef,undef,undef,undef,undef,undef,undef,undef,undef,undef,undef,undef,undef,undef,undef,undef,undef,undef,undef,undef,undef,undef,undef,undef,undef,undef,undef,undef,undef,undef,undef,undef,undef,undef,undef,undef,undef,undef,undef]:=by kernel_rfl
 rw [e]
 simp only [List.append_toArray,List.cons_append,List.nil_append,b13,fC,sC,Tryz.f13,Option.getD_some]
 go_wp2
set_option maxRecDepth 100000 in
theorem p13_9_wp {R:Ending→World→Prop} (hR:R (.returned .nilIface) w):p13_9.wp Tryz.prog (bodyPost Tryz.prog Tryz.f13 R) ⟨#[f 0,f 1,f 2,f 3,f 4,f 5,f 6,f 7,f 8,f 9,f 10,f 11,f 12,f 13,f 14,f 15,f 16,f 17,f 18,f 19,f 20,f 21,f 22,f 23,f 24,f 25,f 26,f 27,f 28,f 29,f 30,f 31,f 32,f 33,f 34,f 35,f 36,f 37,f 38,f 39,f 40,f 41,f 42,f 43,f 44,f 45,f 46,f 47,f 48,f 49,f 50,f 51,f 52,f 53,f 54,f 55,f 56,f 57,f 58,f 59,f 60,f 61,f 62,f 63,f 64,f 65,f 66,f 67,f 68,f 69,f 70,f 71,f 72,f 73,f 74,f 75,f 76,f 77,f 78,f 79,f 80,f 81,f 82,f 83,f 84,f 85,f 86,f 87,f 88,f 89,f 90,f 91,f 92,f 93,f 94,f 95,f 96,f 97,f 98,f 99,f 100,f 101,f 102,f 103,f 104,f 105,f 106,f 107,f 108,f 109,f 110,f 111,f 112,f 113,f 114,f 115,f 116,f 117,f 118,f 119,f 120,f 121,f 122,f 123,f 124,f 125,f 126,f 127,f 128,f 129,f 130,f 131,f 132,f 133,f 134,f 135,f 136,f 137,f 138,f 139,f 140,f 141,f 142,f 143,f 144,f 145,f 146,f 147,f 148,f 149,f 150,f 151,f 152,f 153,f 154,f 155,f 156],[]⟩ w:=by
 simp only [p13_9,b13,fC,sC,Tryz.f13,Option.getD_some]
 go_wp2
 exact hR
theorem p13_9_any {t:Array Value} {R:Ending→World→Prop} (hsz:t.size=157) (hR:R (.returned .nilIface) w):p13_9.wp Tryz.prog (bodyPost Tryz.prog Tryz.f13 R) ⟨t,[]⟩ w:=by
 obtain ⟨f,rfl⟩:=arr157 hsz
 exact p13_9_wp hR
end
section
variable {w:World} {x:Nat} {ga:Option Addr} {fs:List FactD} {cap:Nat} {pl:List Nat} {c:CfgD} {T:List TR} {vm base:Nat} {hs:Int→Int} {bs:List Int} {seed nf:Int} {h:Value} {U:List (List Int)}
structure IngIn (w:World) (x:Nat) (c:CfgD) (seed:Int) (h:Value) (nf:Int) (vm base:Nat) (T:List TR) (ga:Option Addr) (fs:List FactD) (cap:Nat) (pl:List Nat) (hs:Int→Int) (bs:List Int) (U:List (List Int)):Prop where
 q:CubeAt w x c seed h nf vm base
 tab:TabAt false w c base T
 fsa:FsAt false w ga fs cap pl
 okf:∀ g∈fs,FactOk g
 bnd:BndAt false w c.ba bs
 bsl:bs.length=c.nb
 so:bs.Pairwise (· < ·)
 cfg:CfgOk c
 hsr:∀ y,0≤hs y∧hs y≤18446744073709551615
 one:∀ w1,Tch w.heap.size M0 w w1→∀ item at_,Calls Tryz.prog 24 #[.pointer (some ⟨x,0,none⟩),.int .i64 item,.int .i64 at_] w1 fun e w2=>e=.returned (.tuple #[.int .u64 (hs item),.nilIface])∧Tch w1.heap.size M0 w1 w2
 dF:∀ y∈pl,y≠base∧y∉tpl T∧y≠x
 dX:x≠base∧x∉tpl T
 dV:vm≠base∧vm∉tpl T∧vm≠x
 dB:∀ a,c.ba=some a→a.block≠base∧a.block∉tpl T∧a.block<w.heap.size∧a.block≠x
 n1:fs.length≤1000
 nf0:0≤nf
 nf1:nf+fs.length≤3000
 hU:∀ g∈fs,padK g.k∈U
 hTU:∀ t∈T,t.k∈U
 hUn:U.length≤128
structure IngOut (w:World) (x:Nat) (c:CfgD) (seed:Int) (h:Value) (nf:Int) (vm base:Nat) (T:List TR) (hs:Int→Int) (bs:List Int) (fs:List FactD) (w':World):Prop where
 q:CubeAt w' x c seed h (nf+fs.length) vm base
 tab:∃ T',TabAt false w' c base T'∧(∀ key,tm T' key=insFs c bs hs 7 (tm T) fs key)∧(∀ y,y=base∨y∈tpl T'→(y=base∨y∈tpl T)∨w.heap.size≤y)
 tch:Tch w.heap.size (fun b=>b=x∨b=base∨b∈tpl T) w w'
theorem ing_calls (hI:IngIn w x c seed h nf vm base T ga fs cap pl hs bs U) :
  Calls Tryz.prog 13 #[.pointer (some ⟨x,0,none⟩),.slice ga fs.length cap] w fun e w'=>e=.returned .nilIface∧IngOut w x c seed h nf vm base T hs bs fs w':=by
 obtain ⟨q,tab,fsa,okf,bnd,bsl,so,cfg,hsr,one,dF,dX,dV,dB,n1,nf0,nf1,hU,hTU,hUn⟩:=hI
 have hxl:=q.blk.lt
 have hvl:=q.vs.lt
 have hbl:=tab.map.lt
 have tabk:∀ {w1:World},Tch w.heap.size (fun b=>b=x) w w1→TabAt false w1 c base T:=fun t=>tab.kept fun y hy=>t.heap y (tab.lt y hy) fun e=>by
  rcases hy with hy|hy
  ·exact dX.1 (e▸hy)
  ·exact dX.2 (e▸hy)
 have fsk:∀ {w1:World},Tch w.heap.size (fun b=>b=x) w w1→FsAt false w1 ga fs cap pl:=fun t=>fsa.kept fun y hy=>t.heap y (fsa.lt y hy) fun e=>(dF y hy).2.2 e
 have up:∀ {w1:World},Tch w.heap.size M0 w w1→Tch w.heap.size (fun b=>b=x) w w1:=fun t=>t.mono (Nat.le_refl _) fun _ _ h=>h.elim
 have ck:∀ {w1:World},Tch w.heap.size M0 w w1→CubeAt w1 x c seed h nf vm base:=fun t=>q.kept (t.heap x hxl fun h=>h) (t.heap vm hvl fun h=>h)
 obtain ⟨n,hn⟩:∃ n,fs.length=n:=⟨_,rfl⟩
 rw [hn] at n1 nf1 ⊢
 refine calls_of_wp Tryz.func13 (show Tryz.f13.body=some b13 by kernel_rfl) ?_
 simp only [Tryz.ntmps13,List.size_toArray,List.length_cons,List.length_nil,Nat.reduceAdd,Nat.reduceSub]
 rw [b13_eq]
 refine wp_seq (Code.wp_mono ?_ p13_0_wp)
 rintro e ⟨t0,d0⟩ w0 ⟨rfl,hd0,s0,a0,a1,a4,rfl⟩
 simp only at hd0 s0 a0 a1 a4
 subst hd0
 refine wp_seq (Code.wp_mono ?_ (p13_1_any hn q.cells.1 fsa okf n1 s0 a0 a1 a4))
 rintro e ⟨t1,d1⟩ w1 ⟨rfl,hd1,s1,a0,a1,a4,ht1⟩
 simp only at hd1 s1 a0 a1 a4
 subst hd1
 refine wp_seq (Code.wp_mono ?_ (p13_2_any n1 s1 a0 a1 a4))
 rintro e ⟨t2,d2⟩ w2 ⟨rfl,hd2,s2,a0,a1,a4,a7,hw2⟩
 simp only at hd2 s2 a0 a1 a4 a7
 subst hd2
 have ht2:Tch w0.heap.size M0 w0 w2:=by rw [hw2];exact ht1.alloc ht1.size _
 have hr2:Row false w2 w1.heap.size 45 .u64 (List.replicate n 0) n:=by rw [hw2];exact rowMade w1 45 .u64 n
 refine wp_seq (Code.wp_mono ?_ (p13_3_any (ck ht2) s2 a0 a1 a4 a7))
 rintro e ⟨t3,d3⟩ w3 ⟨rfl,hd3,s3,a0,a1,a4,a7,a8,ht3,hw3⟩
 simp only at hd3 s3 a0 a1 a4 a7 a8
 subst hd3
 refine wp_seq (Code.wp_mono ?_ (p13_4_any s3 a0 a1 a4 a7 a8))
 rintro e ⟨t4,d4⟩ w4 ⟨rfl,hd4,s4,a0,a1,a4,a7,a8,a9,hw4⟩
 simp only at hd4 s4 a0 a1 a4 a7 a8 a9
 subst hd4
 have hs3:w3.heap.size=w1.heap.size+1:=by rw [hw3,hw2,size_alloc]
 have ht3':Tch w0.heap.size M0 w0 w3:=ht2.then ht3 ht2.size fun _ _ h=>h
 have ht4:Tch w0.heap.size M0 w0 w4:=by rw [hw4];exact ht3'.alloc ht3'.size _
 have hr4:Row false w4 w1.heap.size 45 .u64 (hashN hs fs 0) n:=by
  have:hashN hs fs 0=List.replicate n 0:=by simp [hashN,hn]
  rw [this]
  refine hr2.kept ?_
  rw [hw4,heap_old _ (by omega),hw3]
 have hL4:NewsAt w4 w3.heap.size T U []:=⟨by rw [hw4];exact CMap.made w3,fun p hp=>by cases hp⟩
 have hN1:=ht1.size
 refine wp_seq (Code.wp_mono ?_ (p13_5_any (N0:=w0.heap.size) (w:=w4) hn n1 ht4.size (fun w' t=>one w' (ht4.trans t)) fsa.lt (fun w' t=>fsk (up (ht4.trans t))) okf (fun w' t=>tabk (up (ht4.trans t))) hU (by omega) hN1 (by omega) (by omega) hr4 hL4 hTU s4 a0 a1 a4 a7 a8 a9))
 rintro e ⟨t5,d5⟩ w5 ⟨rfl,hd5,s5,a0,a1,a4,a7,a8,a9,hr5,⟨L,hL5⟩,ht5⟩
 simp only at hd5 s5 a0 a1 a4 a7 a8 a9
 subst hd5
 have ht5':=ht4.trans ht5
 have q5:=ck ht5'
 have hT5:=tabk (up ht5')
 refine wp_seq (Code.wp_mono ?_ (p13_6_any q5.cells.2.2.2.2.2.2.1 nf0 nf1 hT5 hL5 hTU hUn s5 a0 a1 a4 a7 a8 a9))
 rintro e ⟨t6,d6⟩ w6 ⟨rfl,hd6,s6,a0,a1,a4,a7,rfl⟩
 simp only at hd6 s6 a0 a1 a4 a7
 subst hd6
 refine wp_seq (Code.wp_mono ?_ (p13_7_any q5.cells.2.2.2.2.2.2.1 (q5.blk.frozen 6) nf0 nf1 s6 a0 a1 a4 a7))
 rintro e ⟨t7,d7⟩ w7 ⟨rfl,hd7,s7,a0,a1,a4,a7,hw7⟩
 simp only at hd7 s7 a0 a1 a4 a7
 subst hd7
 have ht7:Tch w0.heap.size (fun b=>b=x) w0 w7:=by rw [hw7];exact (up ht5').set (.inr rfl) _
 have q7:Blk false w7 x #[.int .i64 3,.int .i64 c.bits,.int .i64 c.K,.slice c.ba c.nb c.cb,.int .i64 seed,h,.int .i64 (nf+n),.map (some vm)] 64:=by rw [hw7];exact q5.blk.set 6 _
 have v7:VMap w7 vm base:=q5.vs.kept (by rw [hw7];exact heap_ne _ _ dV.2.2)
 have c7:=(CubeAt.mk q7 v7).cells
 have hs7:=ht7.size
 have hhb:∀ y,y=base∨y∈tpl T→y<w0.heap.size:=fun y hy=>tab.lt y hy
 have hr7:Row false w7 w1.heap.size 45 .u64 (fs.map fun f=>hs f.it) fs.length:=by
  have e:hashN hs fs n=fs.map fun f=>hs f.it:=by
   unfold hashN
   rw [← hn,List.take_length,Nat.sub_self,List.replicate_zero,List.append_nil]
  rw [← e,hn]
  exact hr5.kept (by rw [hw7];exact heap_ne _ _ (show w1.heap.size≠x by omega))
 have hInF:InF w7 x ga fs cap pl c seed T base w1.heap.size hs bs:=
  ⟨tabk ht7,fsk ht7,okf,hr7,c7.1,c7.2.1,c7.2.2.1,c7.2.2.2.1,c7.2.2.2.2.1,bnd.kept fun bb e hl=>ht7.heap bb hl (dB _ e).2.2.2,bsl,so,cfg,hsr,fun y hy=>⟨(dF y hy).1,(dF y hy).2.1⟩,dX,
   ⟨fun e=>by have:=hhb _ (.inl e);omega,fun e=>by have:=hhb _ (.inr e);omega⟩,fun a e=>⟨(dB a e).1,(dB a e).2.1,Nat.lt_of_lt_of_le (dB a e).2.2.1 hs7⟩,by omega,by
    have:=nodup_le tab.nodup fun y hy=>by obtain ⟨t,ht,rfl⟩:=List.mem_map.1 hy;exact hTU t ht
    simp only [List.length_map] at this
    omega⟩
 refine wp_seq (Code.wp_mono ?_ (p13_8_any hInF hn c7.2.2.2.2.2.2.2 v7 ⟨dV.1,dV.2.1⟩ s7 a0 a1 a4 a7))
 rintro e ⟨t8,d8⟩ w8 ⟨rfl,hd8,s8,a4,hJ⟩
 simp only at hd8 s8 a4
 subst hd8
 refine p13_9_any s8 ⟨rfl,?_⟩
 have hJt:=hJ.tch
 obtain ⟨T',k1,k2,k3,k4,k5⟩:=hJ
 have hxn:¬ (x=base∨x∈tpl T):=fun h=>h.elim dX.1 dX.2
 refine ⟨⟨?_,v7.kept (hJt.heap vm (by omega) fun h=>h.elim dV.1 dV.2.1)⟩,⟨T',k1.tab fun key B hB=>?_,k2,fun y hy=>(k4 y hy).imp id fun h=>by omega⟩,?_⟩
 ·rw [hn];exact q7.kept (hJt.heap x (by omega) hxn)
 ·rw [k2] at hB
  refine insFs_ok cfg bsl hsr (fun key B h=>?_) key B hB
  obtain ⟨t,_,_,rfl,rfl,rfl,_,_⟩:=look_some h
  exact tab.ok t (by simp)
 ·exact (ht7.mono (Nat.le_refl _) fun b _ h=>.inl h).then hJt hs7 fun b _ h=>.inr h
end
theorem dag_append {P:Program} {ops:Array Oper} {Q:Exit→Act→World→Prop} {i:Nat} {o:Oper} {a:Act} {w w':World} {v vs vx:Value} {K:Act→World→Prop} {s x:Tmp} {t:TypeId} (ho:ops[i]?=some o) (hg:o.guard=none) (hop:o.op=.call { callee:=.builtin .append,args:=#[.tmp s,.tmp x],argTypes:=#[t,t] })
  (hs:a.tmps[s]?=some vs) (hx:a.tmps[x]?=some vx) (hr:(Builtin.append_ #[t,t] o.type #[vs,vx]).run P w=.ok v w') (h:K (a.put o.dst v) w'):wpOp P ops Q i K a w:=by
 refine dag_value ho hg (v:=v) (w':=w') ?_ h
 unfold execOp
 simp only [hop,resolve,invoke,builtin,Sem.run_bind,Sem.run_pure,Result.andThen_ok,List.map_toArray,List.map_cons,List.map_nil,eval_of hs,eval_of hx,hr]
structure RawD where
 a:Int
 b:Int
 c:Int
 it:Int
 v:Int
structure RawOk (r:RawD):Prop where
 a:I64 r.a
 b:I64 r.b
 c:I64 r.c
 it:I64 r.it
 v:I64 r.v
def RawD.fact (r:RawD):FactD:=⟨[pickZ r.a 4,pickZ r.b 4,pickZ r.c 4],r.it,r.v⟩
theorem RawD.factOk {r:RawD} (h:RawOk r):FactOk r.fact:=by
 refine ⟨rfl,fun x hx=>?_,h.it,h.v⟩
 have p:∀ c,0≤pickZ c 4∧pickZ c 4≤99:=fun c=>by have:=pickZ_bd (c:=c) (n:=4) (by omega);omega
 simp only [RawD.fact,List.mem_cons,List.not_mem_nil,or_false] at hx
 rcases hx with rfl|rfl|rfl
 ·exact p _
 ·exact p _
 ·exact p _
structure RawAt (w:World) (la:Option Addr) (rs:List RawD):Prop where
 at_:∀ i r,rs[i]?=some r→∃ b o,la=some ⟨b,o,none⟩∧b<w.heap.size∧w.cell? ⟨b,o+i*5,none⟩=some (.int .i64 r.a)∧w.cell? ⟨b,o+i*5+1,none⟩=some (.int .i64 r.b)∧w.cell? ⟨b,o+i*5+2,none⟩=some (.int .i64 r.c)∧w.cell? ⟨b,o+i*5+3,none⟩=some (.int .i64 r.it)∧w.cell? ⟨b,o+i*5+4,none⟩=some (.int .i64 r.v)
 ok:∀ r∈rs,RawOk r
def fcell (p:FactD × Nat):List Value:=[.slice (some ⟨p.2,0,none⟩) 3 3,.int .i64 p.1.it,.int .i64 p.1.v]
structure FsOwn (w:World) (base:Nat) (v:Value) (L:List (FactD × Nat)):Prop where
 own:w.ownsRow base 47 3 v L.length (L.flatMap fcell)
 rows:∀ p∈L,base≤p.2∧Row false w p.2 3 .i64 p.1.k 3∧p.1.k.length=3
theorem FsOwn.nil (w:World) (base:Nat):FsOwn w base (.slice none 0 0) []:=⟨⟨rfl,.inl ⟨rfl,rfl⟩⟩,fun p hp=>by cases hp⟩
theorem fcell_at:∀ (L:List (FactD × Nat)) (i:Nat) (p:FactD × Nat),L[i]?=some p→∀ j,j<3→(L.flatMap fcell)[i*3+j]?=(fcell p)[j]?
 | [],i,p,h,_,_=>by simp at h
 | q::L,0,p,h,j,hj=>by
  simp at h;subst h
  rw [List.flatMap_cons,List.getElem?_append_left (by simp [fcell];omega)]
  simp
 | q::L,i+1,p,h,j,hj=>by
  rw [List.getElem?_cons_succ] at h
  rw [List.flatMap_cons,List.getElem?_append_right (by simp [fcell];omega)]
  have:=fcell_at L i p h j hj
  rw [show (i+1)*3+j-(fcell q).length=i*3+j by simp [fcell];omega]
  exact this
theorem FsOwn.at {w:World} {base:Nat} {v:Value} {L:List (FactD × Nat)} (h:FsOwn w base v L):∃ ga cap pl,v=.slice ga L.length cap∧FsAt false w ga (L.map (·.1)) cap pl∧∀ y∈pl,base≤y:=by
 rcases h.own.2 with ⟨rfl,h0⟩|⟨g,cap,cur,rfl,hb,hg,h1,h2,h3,h4⟩
 ·have:L=[]:=List.eq_nil_of_length_eq_zero h0
  subst this
  exact ⟨none,0,[],rfl,⟨fun x hx=>(by cases hx),fun i f hf=>(by simp at hf),(by simp)⟩,fun y hy=>(by cases hy)⟩
 ·refine ⟨some ⟨g,0,none⟩,cap,g::L.map (·.2),rfl,⟨fun x hx=>?_,fun i f hf=>?_,by simpa using h1⟩,fun y hy=>?_⟩
  ·rcases List.mem_cons.1 hx with rfl|hx
   ·exact lt_of hg
   ·obtain ⟨p,hp,rfl⟩:=List.mem_map.1 hx
    exact (h.rows p hp).2.1.lt
  ·rw [List.getElem?_map] at hf
   cases hp:L[i]? with
   | none=>rw [hp] at hf;cases hf
   | some p=>
    rw [hp] at hf;cases hf
    have hm:=List.mem_of_getElem? hp
    obtain ⟨_,r2,r3⟩:=h.rows p hm
    have hlt:i<L.length:=(List.getElem?_eq_some_iff.1 hp).1
    have e:∀ j,j<3→w.cell? ⟨g,i*3+j,none⟩=(fcell p)[j]?:=fun j hj=>by
     rw [cell_of hg,← fcell_at L i p hp j hj,← h4,List.getElem?_take_of_lt (by omega)]
     simp
    exact ⟨g,p.2,3,rfl,by simp,List.mem_cons_of_mem _ (List.mem_map.2 ⟨p,hm,rfl⟩),by rw [r3];exact e 0 (by omega),e 1 (by omega),e 2 (by omega),r2⟩
  ·rcases List.mem_cons.1 hy with rfl|hy
   ·exact hb
   ·obtain ⟨p,hp,rfl⟩:=List.mem_map.1 hy
    exact (h.rows p hp).1
theorem info47:(Tryz.prog.info? 47).map (fun i=>(i.zero,i.size,i.bytes))=some (some (.agg #[.slice none 0 0,.int .i64 0,.int .i64 0]),3,40):=by kernel_rfl
theorem FsOwn.kept {w w':World} {base:Nat} {v:Value} {L:List (FactD × Nat)} (h:FsOwn w base v L) (hh:∀ b,b<w.heap.size→w'.heap[b]?=w.heap[b]?):FsOwn w' base v L:=by
 refine ⟨⟨h.own.1,?_⟩,fun p hp=>⟨(h.rows p hp).1,(h.rows p hp).2.1.kept (hh _ (h.rows p hp).2.1.lt),(h.rows p hp).2.2⟩⟩
 rcases h.own.2 with hn|⟨g,cap,cur,rfl,hb,hg,rest⟩
 ·exact .inl hn
 ·exact .inr ⟨g,cap,cur,rfl,hb,(hh g (lt_of hg)).trans hg,rest⟩
theorem FsOwn.push {w:World} {base:Nat} {v:Value} {L:List (FactD × Nat)} (h:FsOwn w base v L) (hb:base≤w.heap.size) (hn:L.length≤1000) {f:FactD} {kb sb:Nat} (hk:f.k.length=3) (hkb:base≤kb) (hr:Row false w kb 3 .i64 f.k 3) (hs:w.heap[sb]?=some (.cells #[.slice (some ⟨kb,0,none⟩) 3 3,.int .i64 f.it,.int .i64 f.v] 47)) (ty:TypeId) :
  ∃ v' w',(Builtin.append_ #[23,23] ty #[v,.slice (some ⟨sb,0,none⟩) 1 1]).run Tryz.prog w=.ok v' w'∧FsOwn w' base v' (L++[(f,kb)])∧w.grownBy w' v.ownBlock∧(∀ b,v.ownBlock=some b→base≤b):=by
 obtain ⟨i0,hi,hz0,hz1,hz2⟩:=info_parts info47
 have e:maxLen=9223372036854775807:=by decide
 obtain ⟨v',w',r1,r2,r3,_⟩:=run_append_own_at (P:=Tryz.prog) (w:=w) base 23 ty 47 i0 _ 3 40 Tryz.underlying23 hi hz0 hz1 hz2 rfl (by omega) v L.length _ h.own ⟨sb,0,none⟩ 1 1 (fcell (f,kb)) rfl (fun j u hj=>by
  rw [add0,cell_of hs]
  match j,hj with
  | 0,hj=>exact hj
  | 1,hj=>exact hj
  | 2,hj=>exact hj
  | j+3,hj=>simp [fcell] at hj) (fun u hu=>by simp only [fcell,List.mem_cons,List.not_mem_nil,or_false] at hu;rcases hu with rfl|rfl|rfl<;>rfl) (by omega) (by omega) hb
 have hob:∀ b,v.ownBlock=some b→base≤b∧∃ cur,w.heap[b]?=some (.cells cur 47):=fun b hb=>by
  rcases h.own.2 with ⟨rfl,_⟩|⟨g,cap,cur,rfl,hbg,hg,_⟩
  ·cases hb
  ·cases hb;exact ⟨hbg,cur,hg⟩
 have kept:∀ {b:Nat} {xs:List Int},Row false w b 3 .i64 xs 3→Row false w' b 3 .i64 xs 3:=fun {b xs} hrow=>hrow.kept (r3.block b hrow.lt fun e=>by
  obtain ⟨_,cur,hc⟩:=hob b e.symm
  obtain ⟨arr,⟨z,hz,hz'⟩,_⟩:=hrow
  rw [hc] at hz
  cases hz)
 refine ⟨v',w',r1,⟨by simpa using r2,fun p hp=>?_⟩,r3,fun b hb=>(hob b hb).1⟩
 rcases List.mem_append.1 hp with hp|hp
 ·obtain ⟨q1,q2,q3⟩:=h.rows p hp
  exact ⟨q1,kept q2,q3⟩
 ·simp only [List.mem_cons,List.not_mem_nil,or_false] at hp
  subst hp
  exact ⟨hkb,kept hr,hk⟩
def facPhi (vv:Value) (b o n cap k:Nat) (f:FactD) (A B C:Int):Nat→Value→List (Nat × Obj)→Prop
 | 0,v,H=>H=[]∧v=vv
 | 1,v,H=>H=[]∧v=.int .i64 A
 | 2,v,H=>H=[]∧v=.int .i64 B
 | 3,v,H=>H=[]∧v=.int .i64 C
 | 4,v,H=>∃ kb,H=[(kb,.cells #[.int .i64 A,.int .i64 B,.int .i64 C] 3)]∧v=.slice (some ⟨kb,0,none⟩) 3 3
 | 5,v,H=>H=[]∧v=.slice (some ⟨b,o,none⟩) n cap
 | 6,v,H=>H=[]∧v=.int .i64 k
 | 7,v,H=>H=[]∧v=pt b (o+k*5)
 | 8,v,H=>H=[]∧v=pt b (o+k*5+3)
 | 9,v,H=>H=[]∧v=.int .i64 f.it
 | 10,v,H=>H=[]∧v=.slice (some ⟨b,o,none⟩) n cap
 | 11,v,H=>H=[]∧v=.int .i64 k
 | 12,v,H=>H=[]∧v=pt b (o+k*5)
 | 13,v,H=>H=[]∧v=pt b (o+k*5+4)
 | 14,v,H=>H=[]∧v=.int .i64 f.v
 | 15,v,H=>∃ kb,H=[(kb,.cells #[.int .i64 A,.int .i64 B,.int .i64 C] 3)]∧v=.agg #[.slice (some ⟨kb,0,none⟩) 3 3,.int .i64 f.it,.int .i64 f.v]
 | _,v,H=>∃ sb kb,H=[(sb,.cells #[.slice (some ⟨kb,0,none⟩) 3 3,.int .i64 f.it,.int .i64 f.v] 47),(kb,.cells #[.int .i64 A,.int .i64 B,.int .i64 C] 3)]∧v=.slice (some ⟨sb,0,none⟩) 1 1
end Go.Sim.Z
