/- PROVED HERE: laws that the statement rests on (parts Wq, Wr, Ws, Wt, Yd). Conditions: none. -/
import Derived.LoopN
import Derived.Test.YtlcbehhbfglgaaaGreatE03
import Derived.Test.YtlcbehhbfglgaaaGreatE04
set_option linter.all false
namespace Go.Sim.Z
open Go Go.Proofs Go.RowKit Go.Shelf
section
variable {fr:Bool} {w w':World} {b:Nat} {pr:Option (Nat × Nat)} {K:Int} {ls:List Int}
theorem least_made {g c':Nat} (hc:c'≤maxLen) (hg:w.heap.size≤g) (hrow:Row false w' g 45 .u64 ls c') (ht:Tch w.heap.size M0 w w') :
  ∃ b' r' c2,Ending.returned (Value.iface 126 (.pointer (some ⟨w'.heap.size,0,none⟩)))=.returned (.iface 126 (.pointer (some ⟨b',0,none⟩)))∧w.heap.size≤b'∧w.heap.size≤r'∧b'≠r'∧LeastAt false (w'.alloc (.cells #[.int .i64 K,.slice (some ⟨g,0,none⟩) ls.length c'] 128)) b' (some (r',c2)) K ls∧Tch w.heap.size M0 w (w'.alloc (.cells #[.int .i64 K,.slice (some ⟨g,0,none⟩) ls.length c'] 128)):=
 ⟨_,g,c',rfl,ht.size,hg,by have:=hrow.lt;omega,⟨⟨(0,0),heap_new _,fun _=>rfl⟩,hrow.kept (heap_old _ hrow.lt),hc⟩,ht.alloc ht.size _⟩
theorem clone45c {r cap:Nat} {xs:List Int} (h:Row fr w r 45 .u64 xs cap) (hn:xs.length≤100000) (c:Nat):Calls Tryz.prog 176 #[.slice (some ⟨r,0,none⟩) xs.length c] w fun e w'=>∃ g c',e=.returned (.slice (some ⟨g,0,none⟩) xs.length c')∧c'≤maxLen∧w.heap.size≤g∧Row false w' g 45 .u64 xs c'∧Tch w.heap.size M0 w w':=by
 refine (clone45 h hn c).mono ?_
 rintro e w' ⟨g,c',h1,h2,h3,h4,h5⟩
 exact ⟨g,c',h1,h5,h2,h3,h4⟩
set_option maxHeartbeats 1000000 in
theorem leastCopy {r c:Nat} (h:LeastAt fr w b (some (r,c)) K ls) (hn:ls.length≤1000) :
  Calls Tryz.prog 171 #[.pointer (some ⟨b,0,none⟩)] w fun e w'=>∃ b' r' c',e=.returned (.iface 126 (.pointer (some ⟨b',0,none⟩)))∧w.heap.size≤b'∧w.heap.size≤r'∧b'≠r'∧LeastAt false w' b' (some (r',c')) K ls∧Tch w.heap.size M0 w w':=by
 have c0:=h.c0
 have c1:=h.c1
 have hcl:=clone45c (w:=w.drew) (h.row.1.kept rfl) (by omega) c
 have hb:=h.hd.lt
 simp only [lval] at c1
 go_enter Tryz.func171,Tryz.ntmps171
 go_wp2
 go_region_with (go_at_call 176;refine hcl.mono ?_;rintro e w' ⟨g,c',rfl,hc,hg,hrow,ht⟩;have d0:=(ht.cell (a:=⟨b,0,none⟩) hb (fun x=>x)).trans c0;have d1:=(ht.cell (a:=⟨b,1,none⟩) hb (fun x=>x)).trans c1)
 all_goals go_wp2
 all_goals go_ret
 all_goals exact least_made hc hg hrow ht.ofDrew
set_option maxHeartbeats 1000000 in
theorem leastNumbers {r c:Nat} (h:LeastAt fr w b (some (r,c)) K ls) (hn:ls.length≤1000) :
  Calls Tryz.prog 173 #[.pointer (some ⟨b,0,none⟩)] w fun e w'=>∃ g c',e=.returned (.slice (some ⟨g,0,none⟩) ls.length c')∧w.heap.size≤g∧Row false w' g 45 .u64 ls c'∧Tch w.heap.size M0 w w':=by
 have c1:=h.c1
 have hcl:=clone45 h.row.1 (by omega) c
 simp only [lval] at c1
 go_enter Tryz.func173,Tryz.ntmps173
 go_wp2_with (go_at_call 176;refine hcl.mono ?_;rintro e w' ⟨g,c',rfl,hg,hrow,ht,_⟩)
 go_ret
 exact ⟨g,c',rfl,hg,hrow,ht⟩
theorem rise_fold {K:Int}:∀ (ys ls:List Int),Rise ls→(ls.length:Int)≤K→Rise (ys.foldl (addLeast K) ls)∧((ys.foldl (addLeast K) ls).length:Int)≤K
 | [],_,h,hK=>⟨h,hK⟩
 | y::ys,ls,h,hK=>rise_fold ys _ (rise_addLeast h hK y).1 (rise_addLeast h hK y).2
def LMid (w:World) (b:Nat) (pr:Option (Nat × Nat)) (K:Int) (ls:List Int) (w':World):Prop:=
 ∃ pr',LeastAt false w' b pr' K ls∧(∀ x,lpl pr' x→lpl pr x∨w.heap.size≤x)∧Tch w.heap.size (fun x=>x=b∨lpl pr x) w w'
theorem LMid.step {w1 w2:World} {ls2:List Int} {pr':Option (Nat × Nat)} {e:Ending} (h2:∀ x,lpl pr' x→lpl pr x∨w.heap.size≤x) (h3:Tch w.heap.size (fun x=>x=b∨lpl pr x) w w1) (k:LPost w1 b pr' K ls2 e w2):LMid w b pr K ls2 w2:=by
 obtain ⟨_,pr2,k1,k2,k3⟩:=k
 refine ⟨pr2,k1,fun x hx=>?_,h3.trans (k3.mono h3.size fun x hx hm=>?_)⟩
 ·rcases k2 x hx with h|h
  ·exact h2 x h
  ·exact .inr (Nat.le_trans h3.size h)
 ·rcases hm with rfl|hm
  ·exact .inl rfl
  ·rcases h2 x hm with h|h
   ·exact .inr h
   ·omega
set_option maxRecDepth 100000 in
set_option maxHeartbeats 2000000 in
theorem leastMerge {b2 r2 c2:Nat} {K2:Int} {ys:List Int} (h:LeastAt false w b pr K ls) (h2:LeastAt fr w b2 (some (r2,c2)) K2 ys) (hb:¬ lpl pr b) (hb2:b2≠b∧¬ lpl pr b2) (hr2:r2≠b∧¬ lpl pr r2) (hs:Rise ls) (hlK:(ls.length:Int)≤K) (hK:K≤1000) (hn:ys.length≤1000) :
  Calls Tryz.prog 172 #[.pointer (some ⟨b,0,none⟩),.iface 126 (.pointer (some ⟨b2,0,none⟩))] w fun e w'=>(∃ v,e=.returned v)∧LMid w b pr K (mergeL K ls ys) w':=by
 have d0:=h2.c0
 have d1:=h2.c1
 have hta:=ta126 (.pointer (some ⟨b2,0,none⟩)) w
 have hbl:=h.hd.lt
 have hb2l:=h2.hd.lt
 have hr2l:=h2.row.1.lt
 simp only [lval] at d1
 have hys:ys.length=ys.length:=rfl
 generalize hn':ys.length=n at *
 go_enter Tryz.func172,Tryz.ntmps172
 go_wp2
 go_loopw [12] (fun i wr=>∃ k:Nat,k≤n∧i=.int .i64 k∧LMid w b pr K (mergeL K ls (ys.take k)) wr∧LeastAt fr wr b2 (some (r2,c2)) K2 ys) (fun i _=>n-(RowKit.intOf i).toNat)
 case atStart=>exact ⟨0,by omega,rfl,⟨pr,h,fun x hx=>.inl hx,.refl⟩,h2⟩
 case round=>
  obtain ⟨k,hk,rfl,hd,hs2⟩:=hrel
  clear d0 d1
  rcases Nat.lt_or_ge k n with hlt|hge
  ·have g1:=hs2.row.1.cell (i:=k) (hn'.symm▸hlt)
   have hlt':(k:Int)<n:=by omega
   have et:mergeL K ls (ys.take (k+1))=addLeast K (mergeL K ls (ys.take k)) (ys.getD k 0):=by
    unfold mergeL
    rw [List.take_succ_eq_append_getElem (by omega),List.foldl_append,List.getD_eq_getElem?_getD,List.getElem?_eq_getElem (by omega)]
    rfl
   generalize ys.getD k 0=y at *
   have hri:=rise_fold (ys.take k) ls hs hlK
   have hcall:Calls Tryz.prog 170 #[.pointer (some ⟨b,0,none⟩),.int .u64 y,.int .i64 0] wr fun e w2=>(∃ v,e=.returned v)∧LMid w b pr K (mergeL K ls (ys.take (k+1))) w2∧LeastAt fr w2 b2 (some (r2,c2)) K2 ys:=by
    obtain ⟨pr',q1,q2,q3⟩:=hd
    have hbp:¬ lpl pr' b:=fun hx=>by rcases q2 b hx with h|h;exact hb h;omega
    have hle:(mergeL K ls (ys.take k)).length≤1000:=by have:=hri.2;unfold mergeL;omega
    refine (leastAdd q1 hbp hle (hri.1.imp fun h=>by omega) ⟨by have:=hri.2;omega,hK⟩ y 0).mono ?_
    rintro e w2 hp
    have hv:=hp.1
    have ht:=hp.2
    obtain ⟨pr2,_,_,p3⟩:=ht
    have out:∀ x,x<w.heap.size→x≠b→¬ lpl pr x→w2.heap[x]?=wr.heap[x]?:=fun x hx hxb hxp=>by
     refine p3.heap x (by have:=q3.size;omega) ?_
     rintro (h|h)
     ·exact hxb h
     ·rcases q2 x h with h|h
      ·exact hxp h
      ·omega
    refine ⟨hv,LMid.step q2 q3 (by rw [et];exact hp),hs2.kept (out b2 hb2l hb2.1 hb2.2) fun x hx=>?_⟩
    obtain ⟨c,hc⟩:=hx
    cases hc
    exact out _ hr2l hr2.1 hr2.2
   clear et hri hd hs2
   go_wp2_with (go_at_call 170;refine hcall.mono ?_;rintro e w2 ⟨⟨v,rfl⟩,hm2,hs3⟩)
   exact ⟨⟨k+1,by omega,by go_num,hm2,hs3⟩,by simp [RowKit.intOf];omega⟩
  ·have hge':¬ ((k:Int)<n):=by omega
   obtain rfl:k=n:=by omega
   have hnn:¬ ((k:Int)<k):=by omega
   go_wp2
   go_end0
   rw [List.take_of_length_le (by omega)] at hd
   exact ⟨⟨_,rfl⟩,hd⟩
end
end Go.Sim.Z
namespace Go.Sim.Z
open Go Go.Proofs Go.RowKit
structure BP where
 b:Nat
 rb:Nat
 rr:Nat
 rc:Nat
 hb:Nat
 hr:Nat
 hc:Nat
 lb:Nat
 lr:Option (Nat × Nat)
def BP.pl (p:BP):List Nat:=[p.b,p.rb,p.rr,p.hb,p.hr,p.lb]++(match p.lr with|none=>[]|some (r,_)=>[r])
theorem lpl_mem {o:Option (Nat × Nat)} {x:Nat}:x∈(match o with|none=>([]:List Nat)|some (r,_)=>[r])↔lpl o x:=by
 unfold lpl
 cases o with
 | none=>simp
 | some q=>obtain ⟨r,c⟩:=q;simp [eq_comm]
theorem BP.mem {p:BP} {x:Nat}:x∈p.pl↔x=p.b∨x=p.rb∨x=p.rr∨x=p.hb∨x=p.hr∨x=p.lb∨lpl p.lr x:=by
 unfold BP.pl
 rw [List.mem_append,lpl_mem]
 simp only [List.mem_cons,List.not_mem_nil,or_false]
 constructor
 ·rintro ((h|h|h|h|h|h)|h)<;>simp [h]
 ·rintro (h|h|h|h|h|h|h)<;>simp [h]
structure BP.Nd (p:BP):Prop where
 n1:p.b≠p.rb∧p.b≠p.rr∧p.b≠p.hb∧p.b≠p.hr∧p.b≠p.lb∧¬ lpl p.lr p.b
 n2:p.rb≠p.rr∧p.rb≠p.hb∧p.rb≠p.hr∧p.rb≠p.lb∧¬ lpl p.lr p.rb
 n3:p.rr≠p.hb∧p.rr≠p.hr∧p.rr≠p.lb∧¬ lpl p.lr p.rr
 n4:p.hb≠p.hr∧p.hb≠p.lb∧¬ lpl p.lr p.hb
 n5:p.hr≠p.lb∧¬ lpl p.lr p.hr
 n6:¬ lpl p.lr p.lb
structure BunAt (fr:Bool) (w:World) (c:CfgD) (p:BP) (B:Bun):Prop where
 hd:Blk fr w p.b #[.int .i64 B.n,.iface 120 (.pointer (some ⟨p.rb,0,none⟩)),.iface 123 (.pointer (some ⟨p.hb,0,none⟩)),.iface 126 (.pointer (some ⟨p.lb,0,none⟩))] 95
 reg:RegAt fr w p.rb p.rr p.rc c.bits B.r
 hist:HistAt fr w p.hb p.hr p.hc c.ba c.nb c.cb B.h
 least:LeastAt fr w p.lb p.lr c.K B.l
 nd:p.Nd
section
variable {fr:Bool} {w w':World} {c:CfgD} {p:BP} {B:Bun}
theorem BunAt.kept (h:BunAt fr w c p B) (hh:∀ x∈p.pl,w'.heap[x]?=w.heap[x]?):BunAt fr w' c p B:=
 have m {x:Nat} (h:x=p.b∨x=p.rb∨x=p.rr∨x=p.hb∨x=p.hr∨x=p.lb∨lpl p.lr x):=hh x (BP.mem.2 h)
 ⟨h.hd.kept (m (.inl rfl)),h.reg.kept (m (.inr (.inl rfl))) (m (.inr (.inr (.inl rfl)))),h.hist.kept (m (.inr (.inr (.inr (.inl rfl))))) (m (.inr (.inr (.inr (.inr (.inl rfl)))))),
  h.least.kept (m (.inr (.inr (.inr (.inr (.inr (.inl rfl))))))) fun x hx=>m (.inr (.inr (.inr (.inr (.inr (.inr hx)))))),h.nd⟩
theorem BunAt.lt (h:BunAt fr w c p B):∀ x∈p.pl,x<w.heap.size:=fun x hx=>by
 rcases BP.mem.1 hx with rfl|rfl|rfl|rfl|rfl|rfl|hx
 ·exact h.hd.lt
 ·exact h.reg.hd.lt
 ·exact h.reg.row.lt
 ·exact h.hist.hd.lt
 ·exact h.hist.row.lt
 ·exact h.least.hd.lt
 ·exact h.least.row.lt hx
theorem BunAt.c0 (h:BunAt fr w c p B):w.cell? ⟨p.b,0,none⟩=some (.int .i64 B.n):=(h.hd.cell 0).trans rfl
theorem BunAt.c1 (h:BunAt fr w c p B):w.cell? ⟨p.b,1,none⟩=some (.iface 120 (.pointer (some ⟨p.rb,0,none⟩))):=(h.hd.cell 1).trans rfl
theorem BunAt.c2 (h:BunAt fr w c p B):w.cell? ⟨p.b,2,none⟩=some (.iface 123 (.pointer (some ⟨p.hb,0,none⟩))):=(h.hd.cell 2).trans rfl
theorem BunAt.c3 (h:BunAt fr w c p B):w.cell? ⟨p.b,3,none⟩=some (.iface 126 (.pointer (some ⟨p.lb,0,none⟩))):=(h.hd.cell 3).trans rfl
end
structure CpAt (w:World) (g:Nat) (arr:Array Value) (wr:World):Prop where
 blk:Blk false wr g arr 95
 tch:Tch w.heap.size M0 w wr
 le:w.heap.size≤g
theorem CpAt.set {w wr w2:World} {g:Nat} {arr:Array Value} (h:CpAt w g arr wr) (k:Tch wr.heap.size M0 wr w2) (i:Nat) (x:Value):CpAt w g (arr.setIfInBounds i x) (w2.setCell ⟨g,i,none⟩ x):=
 ⟨(h.blk.kept (k.heap g h.blk.lt fun x=>x)).set i x,(h.tch.then k h.tch.size fun _ _ h=>h).set (.inl h.le) x,h.le⟩
theorem CpAt.same {w wr w2:World} {g:Nat} {arr:Array Value} (_h:CpAt w g arr wr) (k:Tch wr.heap.size M0 wr w2) (i:Nat) (x:Value) {y:Nat} (hy:y<wr.heap.size) (hne:y≠g):(w2.setCell ⟨g,i,none⟩ x).heap[y]?=wr.heap[y]?:=
 (heap_ne _ _ hne).trans (k.heap y hy fun x=>x)
theorem m120Add (b:Nat) (w:World):(method 338 120 (.pointer (some ⟨b,0,none⟩)) "Add").run Tryz.prog w=.ok (156,.pointer (some ⟨b,0,none⟩)) w:=by kernel_rfl
theorem m120Copy (b:Nat) (w:World):(method 338 120 (.pointer (some ⟨b,0,none⟩)) "Copy").run Tryz.prog w=.ok (157,.pointer (some ⟨b,0,none⟩)) w:=by kernel_rfl
theorem m120Merge (b:Nat) (w:World):(method 338 120 (.pointer (some ⟨b,0,none⟩)) "Merge").run Tryz.prog w=.ok (158,.pointer (some ⟨b,0,none⟩)) w:=by kernel_rfl
theorem m120Numbers (b:Nat) (w:World):(method 338 120 (.pointer (some ⟨b,0,none⟩)) "Numbers").run Tryz.prog w=.ok (159,.pointer (some ⟨b,0,none⟩)) w:=by kernel_rfl
theorem m123Add (b:Nat) (w:World):(method 338 123 (.pointer (some ⟨b,0,none⟩)) "Add").run Tryz.prog w=.ok (163,.pointer (some ⟨b,0,none⟩)) w:=by kernel_rfl
theorem m123Copy (b:Nat) (w:World):(method 338 123 (.pointer (some ⟨b,0,none⟩)) "Copy").run Tryz.prog w=.ok (164,.pointer (some ⟨b,0,none⟩)) w:=by kernel_rfl
theorem m123Merge (b:Nat) (w:World):(method 338 123 (.pointer (some ⟨b,0,none⟩)) "Merge").run Tryz.prog w=.ok (165,.pointer (some ⟨b,0,none⟩)) w:=by kernel_rfl
theorem m123Numbers (b:Nat) (w:World):(method 338 123 (.pointer (some ⟨b,0,none⟩)) "Numbers").run Tryz.prog w=.ok (166,.pointer (some ⟨b,0,none⟩)) w:=by kernel_rfl
theorem m126Add (b:Nat) (w:World):(method 338 126 (.pointer (some ⟨b,0,none⟩)) "Add").run Tryz.prog w=.ok (170,.pointer (some ⟨b,0,none⟩)) w:=by kernel_rfl
theorem m126Copy (b:Nat) (w:World):(method 338 126 (.pointer (some ⟨b,0,none⟩)) "Copy").run Tryz.prog w=.ok (171,.pointer (some ⟨b,0,none⟩)) w:=by kernel_rfl
theorem m126Merge (b:Nat) (w:World):(method 338 126 (.pointer (some ⟨b,0,none⟩)) "Merge").run Tryz.prog w=.ok (172,.pointer (some ⟨b,0,none⟩)) w:=by kernel_rfl
theorem m126Numbers (b:Nat) (w:World):(method 338 126 (.pointer (some ⟨b,0,none⟩)) "Numbers").run Tryz.prog w=.ok (173,.pointer (some ⟨b,0,none⟩)) w:=by kernel_rfl
theorem ix0 (a b c:Value) (w:World):(Instr.index 93 (.agg #[a,b,c]) (.int .i64 0)).run Tryz.prog w=.ok a w:=by simp [Instr.index,go_sem,Tryz.underlying93]
theorem ix1 (a b c:Value) (w:World):(Instr.index 93 (.agg #[a,b,c]) (.int .i64 1)).run Tryz.prog w=.ok b w:=by simp [Instr.index,go_sem,Tryz.underlying93]
theorem ix2 (a b c:Value) (w:World):(Instr.index 93 (.agg #[a,b,c]) (.int .i64 2)).run Tryz.prog w=.ok c w:=by simp [Instr.index,go_sem,Tryz.underlying93]
section
variable {fr:Bool} {w w':World} {c:CfgD} {p:BP} {B:Bun}
set_option maxRecDepth 100000 in
set_option maxHeartbeats 2000000 in
theorem bunCopy (h:BunAt fr w c p B) (hok:BunOk c B) (hc:CfgOk c) :
  Calls Tryz.prog 94 #[.pointer (some ⟨p.b,0,none⟩)] w fun e w'=>∃ q:BP,e=.returned (.pointer (some ⟨q.b,0,none⟩))∧BunAt false w' c q B∧(∀ x∈q.pl,w.heap.size≤x)∧Tch w.heap.size M0 w w':=by
 have hlen:(2:Nat) ^ c.bits.toNat≤1000:=by
  have h1:=hc.b1
  have h2:=hc.b2
  have:c.bits=4∨c.bits=5∨c.bits=6:=by omega
  rcases this with e|e|e<;>rw [e]<;>decide
 have c0:=h.c0
 have c1:=h.c1
 have c2:=h.c2
 have c3:=h.c3
 have hb:=h.hd.lt
 have x0:=ix0 (.iface 120 (.pointer (some ⟨p.rb,0,none⟩))) (.iface 123 (.pointer (some ⟨p.hb,0,none⟩))) (.iface 126 (.pointer (some ⟨p.lb,0,none⟩)))
 have x1:=ix1 (.iface 120 (.pointer (some ⟨p.rb,0,none⟩))) (.iface 123 (.pointer (some ⟨p.hb,0,none⟩))) (.iface 126 (.pointer (some ⟨p.lb,0,none⟩)))
 have x2:=ix2 (.iface 120 (.pointer (some ⟨p.rb,0,none⟩))) (.iface 123 (.pointer (some ⟨p.hb,0,none⟩))) (.iface 126 (.pointer (some ⟨p.lb,0,none⟩)))
 have y0:=m120Copy p.rb
 have y1:=m123Copy p.hb
 have y2:=m126Copy p.lb
 have hcp:CpAt w w.heap.size #[.int .i64 B.n,.nilIface,.nilIface,.nilIface] (w.alloc (.cells #[.int .i64 B.n,.nilIface,.nilIface,.nilIface] 95)):=⟨⟨_,heap_new _,fun _=>rfl⟩,Tch.refl.alloc (Nat.le_refl _) _,Nat.le_refl _⟩
 have hbun:BunAt fr (w.alloc (.cells #[.int .i64 B.n,.nilIface,.nilIface,.nilIface] 95)) c p B:=h.kept fun x hx=>heap_old _ (h.lt x hx)
 have hlt:∀ x∈p.pl,x<w.heap.size:=h.lt
 obtain ⟨rr,cc,hlr⟩:∃ rr cc,p.lr=some (rr,cc):=by
  have:=h.least.row
  cases hp:p.lr with
  | none=>rw [hp] at this;exact absurd this hok.lne
  | some q=>exact ⟨q.1,q.2,rfl⟩
 go_enter Tryz.func94,Tryz.ntmps94
 go_wp2
 refine wp_loop_rounds 4 ?_
 rw [rounds_succ]
 go_wp2
 go_region_with (go_at_call 157;refine (regCopy (w:=(w.alloc (.cells #[.int .i64 B.n,.nilIface,.nilIface,.nilIface] 95)).drew) (hbun.reg.kept rfl rfl) (by rw [hok.r];have:=hc.b2;have:=hc.b1;exact hlen)).mono ?_;rintro e w1 ⟨b1,r1,k1,rfl,hb1,hr1,hn1,hreg1,ht1⟩;have f1:=(hcp.blk.kept (ht1.heap w.heap.size hcp.blk.lt fun x=>x)).cell 1;have f2:=(hcp.blk.kept (ht1.heap w.heap.size hcp.blk.lt fun x=>x)).frozen 1)
 have hcp1:CpAt w w.heap.size #[.int .i64 B.n,.iface 120 (.pointer (some ⟨b1,0,none⟩)),.nilIface,.nilIface] (w1.setCell ⟨w.heap.size,1,none⟩ (.iface 120 (.pointer (some ⟨b1,0,none⟩)))):=hcp.set ht1.ofDrew 1 _
 have hbun1:BunAt fr (w1.setCell ⟨w.heap.size,1,none⟩ (.iface 120 (.pointer (some ⟨b1,0,none⟩)))) c p B:=hbun.kept fun x hx=>hcp.same ht1.ofDrew 1 _ (hbun.lt x hx) (by have:=hlt x hx;omega)
 have z0:(w.alloc (.cells #[.int .i64 B.n,.nilIface,.nilIface,.nilIface] 95)).drew.heap.size=w.heap.size+1:=size_alloc _
 have hreg1':RegAt false (w1.setCell ⟨w.heap.size,1,none⟩ (.iface 120 (.pointer (some ⟨b1,0,none⟩)))) b1 r1 k1 c.bits B.r:=hreg1.kept (heap_ne _ _ (by show b1≠w.heap.size;omega)) (heap_ne _ _ (by show r1≠w.heap.size;omega))
 clear f1 f2 hcp hreg1 ht1 hbun
 generalize w1.setCell ⟨w.heap.size,1,none⟩ (.iface 120 (.pointer (some ⟨b1,0,none⟩)))=W1 at *
 have l1:=hreg1'.hd.lt
 have l1':=hreg1'.row.lt
 go_wp2
 rw [rounds_succ]
 go_wp2
 go_region_with (go_at_call 164;refine (histCopy (w:=W1.drew) (hbun1.hist.kept rfl rfl) (by rw [hok.h];have:=hc.nb;omega)).mono ?_;rintro e w2 ⟨b2,r2,k2,rfl,hb2,hr2,hn2,hhist,ht2⟩;have f1:=(hcp1.blk.kept (ht2.heap w.heap.size hcp1.blk.lt fun x=>x)).cell 2;have f2:=(hcp1.blk.kept (ht2.heap w.heap.size hcp1.blk.lt fun x=>x)).frozen 2)
 have hcp2:CpAt w w.heap.size #[.int .i64 B.n,.iface 120 (.pointer (some ⟨b1,0,none⟩)),.iface 123 (.pointer (some ⟨b2,0,none⟩)),.nilIface] (w2.setCell ⟨w.heap.size,2,none⟩ (.iface 123 (.pointer (some ⟨b2,0,none⟩)))):=hcp1.set ht2.ofDrew 2 _
 have hbun2:BunAt fr (w2.setCell ⟨w.heap.size,2,none⟩ (.iface 123 (.pointer (some ⟨b2,0,none⟩)))) c p B:=hbun1.kept fun x hx=>hcp1.same ht2.ofDrew 2 _ (hbun1.lt x hx) (by have:=hlt x hx;omega)
 have z1:W1.drew.heap.size=W1.heap.size:=rfl
 have hreg2:RegAt false (w2.setCell ⟨w.heap.size,2,none⟩ (.iface 123 (.pointer (some ⟨b2,0,none⟩)))) b1 r1 k1 c.bits B.r:=hreg1'.kept (hcp1.same ht2.ofDrew 2 _ l1 (by omega)) (hcp1.same ht2.ofDrew 2 _ l1' (by omega))
 have hhist2:HistAt false (w2.setCell ⟨w.heap.size,2,none⟩ (.iface 123 (.pointer (some ⟨b2,0,none⟩)))) b2 r2 k2 c.ba c.nb c.cb B.h:=hhist.kept (heap_ne _ _ (by show b2≠w.heap.size;omega)) (heap_ne _ _ (by show r2≠w.heap.size;omega))
 clear f1 f2 hcp1 hreg1' ht2 hbun1 hhist
 generalize w2.setCell ⟨w.heap.size,2,none⟩ (.iface 123 (.pointer (some ⟨b2,0,none⟩)))=W2 at *
 have l2:=hhist2.hd.lt
 have l2':=hhist2.row.lt
 have l3:=hreg2.hd.lt
 have l3':=hreg2.row.lt
 have hlw:LeastAt fr W2.drew p.lb (some (rr,cc)) c.K B.l:=by
  have:=hbun2.least
  rw [hlr] at this
  exact this.kept rfl fun _ _=>rfl
 go_wp2
 rw [rounds_succ]
 go_wp2
 go_region_with (go_at_call 171;refine (leastCopy (r:=rr) (c:=cc) (w:=W2.drew) hlw (by have:=hok.lK;have:=hc.k2;omega)).mono ?_;rintro e w3 ⟨b3,r3,k3,rfl,hb3,hr3,hn3,hleast,ht3⟩;have f1:=(hcp2.blk.kept (ht3.heap w.heap.size hcp2.blk.lt fun x=>x)).cell 3;have f2:=(hcp2.blk.kept (ht3.heap w.heap.size hcp2.blk.lt fun x=>x)).frozen 3)
 have hcp3:CpAt w w.heap.size #[.int .i64 B.n,.iface 120 (.pointer (some ⟨b1,0,none⟩)),.iface 123 (.pointer (some ⟨b2,0,none⟩)),.iface 126 (.pointer (some ⟨b3,0,none⟩))] (w3.setCell ⟨w.heap.size,3,none⟩ (.iface 126 (.pointer (some ⟨b3,0,none⟩)))):=hcp2.set ht3.ofDrew 3 _
 have z2:W2.drew.heap.size=W2.heap.size:=rfl
 have hreg3:RegAt false (w3.setCell ⟨w.heap.size,3,none⟩ (.iface 126 (.pointer (some ⟨b3,0,none⟩)))) b1 r1 k1 c.bits B.r:=hreg2.kept (hcp2.same ht3.ofDrew 3 _ l3 (by omega)) (hcp2.same ht3.ofDrew 3 _ l3' (by omega))
 have hhist3:HistAt false (w3.setCell ⟨w.heap.size,3,none⟩ (.iface 126 (.pointer (some ⟨b3,0,none⟩)))) b2 r2 k2 c.ba c.nb c.cb B.h:=hhist2.kept (hcp2.same ht3.ofDrew 3 _ l2 (by omega)) (hcp2.same ht3.ofDrew 3 _ l2' (by omega))
 have hleast3:LeastAt false (w3.setCell ⟨w.heap.size,3,none⟩ (.iface 126 (.pointer (some ⟨b3,0,none⟩)))) b3 (some (r3,k3)) c.K B.l:=hleast.kept (heap_ne _ _ (by show b3≠w.heap.size;omega)) fun x hx=>by obtain ⟨_,hx⟩:=hx;cases hx;exact heap_ne _ _ (by show r3≠w.heap.size;omega)
 clear f1 f2 hcp2 hreg2 ht3 hbun2 hhist2 hleast
 generalize w3.setCell ⟨w.heap.size,3,none⟩ (.iface 126 (.pointer (some ⟨b3,0,none⟩)))=W3 at *
 go_wp2
 rw [rounds_succ]
 go_wp2
 go_ret
 refine ⟨⟨w.heap.size,b1,r1,k1,b2,r2,k2,b3,some (r3,k3)⟩,rfl,⟨hcp3.blk,hreg3,hhist3,hleast3,?_⟩,fun x hx=>?_,hcp3.tch⟩
 ·have q:∀ x:Nat,lpl (some (r3,k3)) x↔x=r3:=fun x=>⟨fun ⟨_,h⟩=>by cases h;rfl,fun h=>⟨k3,by rw [h]⟩⟩
  refine ⟨?_,?_,?_,?_,?_,?_⟩<;>simp only [q]<;>(try refine ⟨?_,?_⟩)<;>omega
 ·have q:∀ x:Nat,lpl (some (r3,k3)) x↔x=r3:=fun x=>⟨fun ⟨_,h⟩=>by cases h;rfl,fun h=>⟨k3,by rw [h]⟩⟩
  rw [BP.mem] at hx
  simp only [q] at hx
  omega
end
theorem na120 (b:Nat) (w:World):(nilAhead 338 120 (.pointer (some ⟨b,0,none⟩)) "Merge").run Tryz.prog w=.ok (some false) w:=by kernel_rfl
theorem na123 (b:Nat) (w:World):(nilAhead 338 123 (.pointer (some ⟨b,0,none⟩)) "Merge").run Tryz.prog w=.ok (some false) w:=by kernel_rfl
theorem na126 (b:Nat) (w:World):(nilAhead 338 126 (.pointer (some ⟨b,0,none⟩)) "Merge").run Tryz.prog w=.ok (some false) w:=by kernel_rfl
section
variable {fr:Bool} {w wr w2:World} {c:CfgD} {p q:BP} {B B2:Bun}
structure MgAt (fr:Bool) (w:World) (c:CfgD) (p q:BP) (B B2:Bun) (wr:World):Prop where
 l:BunAt false wr c p B
 r:BunAt fr wr c q B2
 dis:∀ x∈p.pl,x∉q.pl
 tch:Tch w.heap.size (fun x=>x∈p.pl) w wr
 lt:∀ x∈p.pl,x<w.heap.size
theorem MgAt.right (h:MgAt fr w c p q B B2 wr) {y:Nat} (hy:y∈p.pl) (k:Tch wr.heap.size (fun x=>x=y) wr w2):BunAt fr w2 c q B2:=
 h.r.kept fun x hx=>k.heap x (h.r.lt x hx) fun e=>h.dis y hy (e▸hx)
theorem MgAt.touch (h:MgAt fr w c p q B B2 wr) {y:Nat} (hy:y∈p.pl) (k:Tch wr.heap.size (fun x=>x=y) wr w2):Tch w.heap.size (fun x=>x∈p.pl) w w2:=
 h.tch.then k h.tch.size fun _ _ e=>e▸hy
theorem MgAt.reg (h:MgAt fr w c p q B B2 wr) {rs:List Int} (hr:RegAt false w2 p.rb p.rr p.rc c.bits rs) (k:Tch wr.heap.size (fun x=>x=p.rr) wr w2):MgAt fr w c p q { B with r:=rs } B2 w2:=by
 have hy:p.rr∈p.pl:=BP.mem.2 (.inr (.inr (.inl rfl)))
 have nd:=h.l.nd
 have same:∀ x,x∈p.pl→x≠p.rr→w2.heap[x]?=wr.heap[x]?:=fun x hx hne=>k.heap x (h.l.lt x hx) hne
 have m {x:Nat} (h:x=p.b∨x=p.rb∨x=p.rr∨x=p.hb∨x=p.hr∨x=p.lb∨lpl p.lr x):x∈p.pl:=BP.mem.2 h
 refine ⟨⟨h.l.hd.kept (same _ (m (by simp)) nd.n1.2.1),hr,h.l.hist.kept (same _ (m (by simp)) (Ne.symm nd.n3.1)) (same _ (m (by simp)) (Ne.symm nd.n3.2.1)),h.l.least.kept (same _ (m (by simp)) (Ne.symm nd.n3.2.2.1)) fun x hx=>same _ (m (by simp [hx])) fun e=>nd.n3.2.2.2 (e▸hx),nd⟩,h.right hy k,h.dis,h.touch hy k,h.lt⟩
theorem MgAt.hist (h:MgAt fr w c p q B B2 wr) {rs:List Int} (hr:HistAt false w2 p.hb p.hr p.hc c.ba c.nb c.cb rs) (k:Tch wr.heap.size (fun x=>x=p.hr) wr w2):MgAt fr w c p q { B with h:=rs } B2 w2:=by
 have hy:p.hr∈p.pl:=BP.mem.2 (by simp)
 have nd:=h.l.nd
 have same:∀ x,x∈p.pl→x≠p.hr→w2.heap[x]?=wr.heap[x]?:=fun x hx hne=>k.heap x (h.l.lt x hx) hne
 have m {x:Nat} (h:x=p.b∨x=p.rb∨x=p.rr∨x=p.hb∨x=p.hr∨x=p.lb∨lpl p.lr x):x∈p.pl:=BP.mem.2 h
 refine ⟨⟨h.l.hd.kept (same _ (m (by simp)) nd.n1.2.2.2.1),h.l.reg.kept (same _ (m (by simp)) nd.n2.2.2.1) (same _ (m (by simp)) nd.n3.2.1),hr,h.l.least.kept (same _ (m (by simp)) (Ne.symm nd.n5.1)) fun x hx=>same _ (m (by simp [hx])) fun e=>nd.n5.2 (e▸hx),nd⟩,h.right hy k,h.dis,h.touch hy k,h.lt⟩
theorem MgAt.num (h:MgAt fr w c p q B B2 wr) (n:Int):MgAt fr w c p q { B with n:=n } B2 (wr.setCell ⟨p.b,0,none⟩ (.int .i64 n)):=by
 have hy:p.b∈p.pl:=BP.mem.2 (by simp)
 have nd:=h.l.nd
 have same:∀ x,x≠p.b→(wr.setCell ⟨p.b,0,none⟩ (.int .i64 n)).heap[x]?=wr.heap[x]?:=fun x hne=>heap_ne _ _ hne
 have k:Tch wr.heap.size (fun x=>x=p.b) wr (wr.setCell ⟨p.b,0,none⟩ (.int .i64 n)):=Tch.refl.set (.inr (show (fun x=>x=p.b) p.b from rfl)) _
 exact ⟨⟨h.l.hd.set 0 _,h.l.reg.kept (same _ (Ne.symm nd.n1.1)) (same _ (Ne.symm nd.n1.2.1)),h.l.hist.kept (same _ (Ne.symm nd.n1.2.2.1)) (same _ (Ne.symm nd.n1.2.2.2.1)),h.l.least.kept (same _ (Ne.symm nd.n1.2.2.2.2.1)) fun x hx=>same _ fun e=>nd.n1.2.2.2.2.2 (e▸hx),nd⟩,h.right hy k,h.dis,h.touch hy k,h.lt⟩
theorem MgAt.drew (h:MgAt fr w c p q B B2 wr):MgAt fr w c p q B B2 wr.drew:=⟨h.l.kept fun _ _=>rfl,h.r.kept fun _ _=>rfl,h.dis,h.tch.drew,h.lt⟩
def MgPost (w:World) (c:CfgD) (p:BP) (B:Bun) (w':World):Prop:=
 ∃ p':BP,p'.b=p.b∧BunAt false w' c p' B∧(∀ x∈p'.pl,x∈p.pl∨w.heap.size≤x)∧Tch w.heap.size (fun x=>x∈p.pl) w w'
theorem MgAt.least' (hl:BunAt false wr c p B) (htc:Tch w.heap.size (fun x=>x∈p.pl) w wr) {ls:List Int} (hr:LMid wr p.lb p.lr c.K ls w2):MgPost w c p { B with l:=ls } w2:=by
 obtain ⟨pr',h1,h2,k⟩:=hr
 have nd:=hl.nd
 have m {x:Nat} (h:x=p.b∨x=p.rb∨x=p.rr∨x=p.hb∨x=p.hr∨x=p.lb∨lpl p.lr x):x∈p.pl:=BP.mem.2 h
 have same:∀ x,x∈p.pl→x≠p.lb→¬ lpl p.lr x→w2.heap[x]?=wr.heap[x]?:=fun x hx hne hn=>k.heap x (hl.lt x hx) fun e=>e.elim hne hn
 have fresh:∀ x,x∈p.pl→¬ lpl p.lr x→¬ lpl pr' x:=fun x hx hn he=>by
  rcases h2 x he with h3|h3
  ·exact hn h3
  ·have:=hl.lt x hx;omega
 refine ⟨{ p with lr:=pr' },rfl,⟨hl.hd.kept (same _ (m (by simp)) nd.n1.2.2.2.2.1 nd.n1.2.2.2.2.2),hl.reg.kept (same _ (m (by simp)) nd.n2.2.2.2.1 nd.n2.2.2.2.2) (same _ (m (by simp)) nd.n3.2.2.1 nd.n3.2.2.2),hl.hist.kept (same _ (m (by simp)) nd.n4.2.1 nd.n4.2.2) (same _ (m (by simp)) nd.n5.1 nd.n5.2),h1,?_⟩,fun x hx=>?_,htc.then k htc.size fun x _ e=>?_⟩
 ·exact ⟨⟨nd.n1.1,nd.n1.2.1,nd.n1.2.2.1,nd.n1.2.2.2.1,nd.n1.2.2.2.2.1,fresh _ (m (by simp)) nd.n1.2.2.2.2.2⟩,⟨nd.n2.1,nd.n2.2.1,nd.n2.2.2.1,nd.n2.2.2.2.1,fresh _ (m (by simp)) nd.n2.2.2.2.2⟩,⟨nd.n3.1,nd.n3.2.1,nd.n3.2.2.1,fresh _ (m (by simp)) nd.n3.2.2.2⟩,⟨nd.n4.1,nd.n4.2.1,fresh _ (m (by simp)) nd.n4.2.2⟩,⟨nd.n5.1,fresh _ (m (by simp)) nd.n5.2⟩,fresh _ (m (by simp)) nd.n6⟩
 ·rcases BP.mem.1 hx with e|e|e|e|e|e|e
  ·exact .inl (m (.inl e))
  ·exact .inl (m (.inr (.inl e)))
  ·exact .inl (m (.inr (.inr (.inl e))))
  ·exact .inl (m (.inr (.inr (.inr (.inl e)))))
  ·exact .inl (m (.inr (.inr (.inr (.inr (.inl e))))))
  ·exact .inl (m (.inr (.inr (.inr (.inr (.inr (.inl e)))))))
  ·rcases h2 x e with h3|h3
   ·exact .inl (m (.inr (.inr (.inr (.inr (.inr (.inr h3)))))))
   ·exact .inr (Nat.le_trans htc.size h3)
 ·rcases e with rfl|e
  ·exact m (by simp)
  ·exact m (by simp [e])
theorem MgAt.least (h:MgAt fr w c p q B B2 wr) {ls:List Int} (hr:LMid wr p.lb p.lr c.K ls w2):MgPost w c p { B with l:=ls } w2:=MgAt.least' h.l h.tch hr
set_option maxRecDepth 100000 in
set_option maxHeartbeats 2000000 in
theorem bunMerge (h:BunAt false w c p B) (h2:BunAt fr w c q B2) (hd:∀ x∈p.pl,x∉q.pl) (hok:BunOk c B) (hok2:BunOk c B2) (hc:CfgOk c) :
  Calls Tryz.prog 93 #[.pointer (some ⟨p.b,0,none⟩),.pointer (some ⟨q.b,0,none⟩)] w fun e w'=>(∃ v,e=.returned v)∧MgPost w c p (mg c B B2) w':=by
 have hlen:(2:Nat) ^ c.bits.toNat≤1000:=by
  have h1:=hc.b1
  have h2:=hc.b2
  have:c.bits=4∨c.bits=5∨c.bits=6:=by omega
  rcases this with e|e|e<;>rw [e]<;>decide
 have c0:=h.c0
 have c1:=h.c1
 have c2:=h.c2
 have c3:=h.c3
 have cf:=h.hd.frozen 0
 have d0:=h2.c0
 have d1:=h2.c1
 have d2:=h2.c2
 have d3:=h2.c3
 have hb:=h.hd.lt
 have hb2:=h2.hd.lt
 have hne:q.b≠p.b:=fun e=>hd p.b (BP.mem.2 (by simp)) (e▸BP.mem.2 (by simp))
 have x0:=ix0 (.iface 120 (.pointer (some ⟨p.rb,0,none⟩))) (.iface 123 (.pointer (some ⟨p.hb,0,none⟩))) (.iface 126 (.pointer (some ⟨p.lb,0,none⟩)))
 have x1:=ix1 (.iface 120 (.pointer (some ⟨p.rb,0,none⟩))) (.iface 123 (.pointer (some ⟨p.hb,0,none⟩))) (.iface 126 (.pointer (some ⟨p.lb,0,none⟩)))
 have x2:=ix2 (.iface 120 (.pointer (some ⟨p.rb,0,none⟩))) (.iface 123 (.pointer (some ⟨p.hb,0,none⟩))) (.iface 126 (.pointer (some ⟨p.lb,0,none⟩)))
 have y0:=m120Merge p.rb
 have y1:=m123Merge p.hb
 have y2:=m126Merge p.lb
 have n0:=na120 p.rb
 have n1:=na123 p.hb
 have n2:=na126 p.lb
 obtain ⟨rr,cc,hlr⟩:∃ rr cc,q.lr=some (rr,cc):=by
  have:=h2.least.row
  cases hp:q.lr with
  | none=>rw [hp] at this;exact absurd this hok2.lne
  | some q=>exact ⟨q.1,q.2,rfl⟩
 have dlb:∀ x∈p.pl,q.lb≠x:=fun x hx e=>hd x hx (e▸BP.mem.2 (by simp))
 have dlr:∀ x∈p.pl,rr≠x:=fun x hx e=>hd x hx (e▸BP.mem.2 (.inr (.inr (.inr (.inr (.inr (.inr ⟨cc,hlr⟩)))))))
 have hm:MgAt fr w c p q B B2 w:=⟨h,h2,hd,.refl,h.lt⟩
 go_enter Tryz.func93,Tryz.ntmps93
 go_wp2
 go_region
 have hm0:MgAt fr w c p q { B with n:=wrap64 (B.n+B2.n) } B2 (w.setCell ⟨p.b,0,none⟩ (.int .i64 (wrap64 (B.n+B2.n)))).drew:=(hm.num _).drew
 clear c0 c1 c2 c3 cf d0 d1 d2 d3 hm
 generalize (w.setCell ⟨p.b,0,none⟩ (.int .i64 (wrap64 (B.n+B2.n)))).drew=W0 at *
 have c1:=hm0.l.c1
 have c2:=hm0.l.c2
 have c3:=hm0.l.c3
 have d1:=hm0.r.c1
 go_wp2
 refine wp_loop_rounds 4 ?_
 rw [rounds_succ]
 go_wp2
 go_region_with (go_at_call 158;refine (regMerge (w:=W0.drew) hm0.drew.l.reg hm0.drew.r.reg (by rw [show ({ B with n:=wrap64 (B.n+B2.n) }:Bun).r=B.r from rfl,hok.r,hok2.r]) (by rw [show ({ B with n:=wrap64 (B.n+B2.n) }:Bun).r=B.r from rfl,hok.r];exact hlen) h.nd.n2.1 (fun e=>hd p.rr (BP.mem.2 (by simp)) (e▸BP.mem.2 (by simp))) (fun e=>hd p.rr (BP.mem.2 (by simp)) (e▸BP.mem.2 (by simp)))).mono ?_;rintro e w1 ⟨⟨v1,rfl⟩,hr1,ht1⟩)
 all_goals have hm1:=hm0.drew.reg hr1 ht1
 all_goals clear c1 c2 c3 d1 hr1 ht1 hm0
 all_goals have d2:=hm1.r.c2
 all_goals go_wp2
 all_goals rw [rounds_succ]
 all_goals go_wp2
 all_goals go_region_with (go_at_call 165;refine (histMerge (w:=w1.drew) hm1.drew.l.hist hm1.drew.r.hist (by show B.h.length=B2.h.length;rw [hok.h,hok2.h]) (by show B.h.length≤1000;rw [hok.h];have:=hc.nb;omega) h.nd.n4.1 (fun e=>hd p.hr (BP.mem.2 (by simp)) (e▸BP.mem.2 (by simp))) (fun e=>hd p.hr (BP.mem.2 (by simp)) (e▸BP.mem.2 (by simp)))).mono ?_;rintro e w2 ⟨⟨v2,rfl⟩,hr2,ht2⟩)
 all_goals have hm2:=hm1.drew.hist hr2 ht2
 all_goals clear d2 hr2 ht2 hm1
 all_goals have d3:=hm2.r.c3
 all_goals go_wp2
 all_goals rw [rounds_succ]
 all_goals go_wp2
 all_goals have hq:=hm2.drew.r.least
 all_goals rw [hlr] at hq
 all_goals go_region_with (go_at_call 172;refine (leastMerge (w:=w2.drew) hm2.drew.l.least hq h.nd.n6 ⟨dlb p.lb (by simp [BP.mem]),fun e=>dlb q.lb (BP.mem.2 (.inr (.inr (.inr (.inr (.inr (.inr e))))))) rfl⟩ ⟨dlr p.lb (by simp [BP.mem]),fun e=>dlr rr (BP.mem.2 (.inr (.inr (.inr (.inr (.inr (.inr e))))))) rfl⟩ hok.l hok.lK (by have:=hc.k2;omega) (by have:=hok2.lK;have:=hc.k2;omega)).mono ?_;rintro e w3 ⟨⟨v3,rfl⟩,hr3⟩)
 all_goals have hm3:=hm2.drew.least hr3
 all_goals clear d3 hr3 hm2 hq
 all_goals go_wp2
 all_goals rw [rounds_succ]
 all_goals go_wp2
 all_goals go_end0
 all_goals exact ⟨⟨_,rfl⟩,hm3⟩
end
structure Bun0 (c:CfgD) (B:Bun):Prop where
 r:B.r.length=2 ^ c.bits.toNat
 r8:∀ x∈B.r,0≤x∧x≤255
 h:B.h.length=c.nb+1
 h64:∀ x∈B.h,I64 x
 l:Rise B.l
 lK:(B.l.length:Int)≤c.K
 l64:∀ x∈B.l,0≤x∧x≤18446744073709551615
 n64:I64 B.n
theorem BunOk.zero {c:CfgD} {B:Bun} (h:BunOk c B):Bun0 c B:=⟨h.r,h.r8,h.h,h.h64,h.l,h.lK,h.l64,h.n64⟩
def addB (c:CfgD) (bs:List Int) (B:Bun) (x v:Int):Bun:=⟨wrap64 (B.n+1),addReg c.bits B.r x,addHist bs B.h v,addLeast c.K B.l x⟩
theorem mem_set {l:List Int} {i:Nat} {a z:Int} (h:z∈l.set i a):z=a∨z∈l:=by
 rcases List.mem_or_eq_of_mem_set h with h|h
 ·exact .inr h
 ·exact .inl h
theorem Bun0.add {c:CfgD} {bs:List Int} {B:Bun} (h:Bun0 c B) (hc:CfgOk c) (hbs:bs.length=c.nb) {x:Int} (hx:0≤x∧x≤18446744073709551615) (v:Int):BunOk c (addB c bs B x v):=by
 have ha:=rise_addLeast h.l h.lK x
 have hr:=regN_bd (bits:=c.bits) (x:=x) ⟨hc.b1,hc.b2⟩
 have he:=addLeast_eq h.l h.lK x
 refine ⟨addReg_length.trans h.r,fun z hz=>?_,addHist_length.trans h.h,fun z hz=>?_,ha.1,ha.2,fun z hz=>?_,wrap64_I64 _,?_⟩
 ·rcases mem_set hz with rfl|hz
  ·have:∀ z:Int,z=B.r.getD (regI c.bits x) 0→0≤z∧z≤255:=fun z hz=>by
    rw [List.getD_eq_getElem?_getD] at hz
    cases hq:B.r[regI c.bits x]? with
    | none=>rw [hq] at hz;simp at hz;omega
    | some y=>rw [hq] at hz;simp at hz;subst hz;exact h.r8 _ (List.mem_of_getElem? hq)
   have:=this _ rfl
   omega
  ·exact h.r8 z hz
 ·rcases mem_set hz with rfl|hz
  ·exact wrap64_I64 _
  ·exact h.h64 z hz
 ·have hz':z∈addLeast c.K B.l x:=hz
  rw [he] at hz'
  rcases mem_insU.1 (List.mem_of_mem_take hz') with rfl|h2
  ·exact hx
  ·exact h.l64 z h2
 ·show addLeast c.K B.l x≠[]
  rw [he]
  have h1:x∈insU x B.l:=mem_insU.2 (.inl rfl)
  have h2:0<(insU x B.l).length:=List.length_pos_iff.2 (List.ne_nil_of_mem h1)
  have:=hc.k1
  intro e
  have:=congrArg List.length e
  simp only [List.length_take,List.length_nil] at this
  omega
section
variable {fr:Bool} {w wr w2:World} {c:CfgD} {p q:BP} {B:Bun} {bs:List Int} {ba:Option Addr}
theorem BndAt.kept {w w':World} (h:BndAt fr w ba bs) (hh:∀ bb,ba=some ⟨bb,0,none⟩→bb<w.heap.size→w'.heap[bb]?=w.heap[bb]?):BndAt fr w' ba bs:=by
 rcases h with h|⟨bb,cap,rfl,h⟩
 ·exact .inl h
 ·exact .inr ⟨bb,cap,rfl,h.kept (hh bb rfl h.lt)⟩
structure AdAt (w:World) (c:CfgD) (p:BP) (ba:Option Addr) (bs:List Int) (B:Bun) (wr:World):Prop where
 l:BunAt false wr c p B
 r:BndAt false wr ba bs
 dis:∀ x∈p.pl,ba≠some ⟨x,0,none⟩
 tch:Tch w.heap.size (fun x=>x∈p.pl) w wr
 lt:∀ x∈p.pl,x<w.heap.size
theorem AdAt.right (h:AdAt w c p ba bs B wr) {y:Nat} (hy:y∈p.pl) (k:Tch wr.heap.size (fun x=>x=y) wr w2):BndAt false w2 ba bs:=
 h.r.kept fun x hx hl=>k.heap x hl fun e=>h.dis y hy (e▸hx)
theorem AdAt.touch (h:AdAt w c p ba bs B wr) {y:Nat} (hy:y∈p.pl) (k:Tch wr.heap.size (fun x=>x=y) wr w2):Tch w.heap.size (fun x=>x∈p.pl) w w2:=
 h.tch.then k h.tch.size fun _ _ e=>e▸hy
theorem AdAt.reg (h:AdAt w c p ba bs B wr) {rs:List Int} (hr:RegAt false w2 p.rb p.rr p.rc c.bits rs) (k:Tch wr.heap.size (fun x=>x=p.rr) wr w2):AdAt w c p ba bs { B with r:=rs } w2:=by
 have hy:p.rr∈p.pl:=BP.mem.2 (.inr (.inr (.inl rfl)))
 have nd:=h.l.nd
 have same:∀ x,x∈p.pl→x≠p.rr→w2.heap[x]?=wr.heap[x]?:=fun x hx hne=>k.heap x (h.l.lt x hx) hne
 have m {x:Nat} (h:x=p.b∨x=p.rb∨x=p.rr∨x=p.hb∨x=p.hr∨x=p.lb∨lpl p.lr x):x∈p.pl:=BP.mem.2 h
 refine ⟨⟨h.l.hd.kept (same _ (m (by simp)) nd.n1.2.1),hr,h.l.hist.kept (same _ (m (by simp)) (Ne.symm nd.n3.1)) (same _ (m (by simp)) (Ne.symm nd.n3.2.1)),h.l.least.kept (same _ (m (by simp)) (Ne.symm nd.n3.2.2.1)) fun x hx=>same _ (m (by simp [hx])) fun e=>nd.n3.2.2.2 (e▸hx),nd⟩,h.right hy k,h.dis,h.touch hy k,h.lt⟩
theorem AdAt.hist (h:AdAt w c p ba bs B wr) {rs:List Int} (hr:HistAt false w2 p.hb p.hr p.hc c.ba c.nb c.cb rs) (k:Tch wr.heap.size (fun x=>x=p.hr) wr w2):AdAt w c p ba bs { B with h:=rs } w2:=by
 have hy:p.hr∈p.pl:=BP.mem.2 (by simp)
 have nd:=h.l.nd
 have same:∀ x,x∈p.pl→x≠p.hr→w2.heap[x]?=wr.heap[x]?:=fun x hx hne=>k.heap x (h.l.lt x hx) hne
 have m {x:Nat} (h:x=p.b∨x=p.rb∨x=p.rr∨x=p.hb∨x=p.hr∨x=p.lb∨lpl p.lr x):x∈p.pl:=BP.mem.2 h
 refine ⟨⟨h.l.hd.kept (same _ (m (by simp)) nd.n1.2.2.2.1),h.l.reg.kept (same _ (m (by simp)) nd.n2.2.2.1) (same _ (m (by simp)) nd.n3.2.1),hr,h.l.least.kept (same _ (m (by simp)) (Ne.symm nd.n5.1)) fun x hx=>same _ (m (by simp [hx])) fun e=>nd.n5.2 (e▸hx),nd⟩,h.right hy k,h.dis,h.touch hy k,h.lt⟩
theorem AdAt.num (h:AdAt w c p ba bs B wr) (n:Int):AdAt w c p ba bs { B with n:=n } (wr.setCell ⟨p.b,0,none⟩ (.int .i64 n)):=by
 have hy:p.b∈p.pl:=BP.mem.2 (by simp)
 have nd:=h.l.nd
 have same:∀ x,x≠p.b→(wr.setCell ⟨p.b,0,none⟩ (.int .i64 n)).heap[x]?=wr.heap[x]?:=fun x hne=>heap_ne _ _ hne
 have k:Tch wr.heap.size (fun x=>x=p.b) wr (wr.setCell ⟨p.b,0,none⟩ (.int .i64 n)):=Tch.refl.set (.inr (show (fun x=>x=p.b) p.b from rfl)) _
 exact ⟨⟨h.l.hd.set 0 _,h.l.reg.kept (same _ (Ne.symm nd.n1.1)) (same _ (Ne.symm nd.n1.2.1)),h.l.hist.kept (same _ (Ne.symm nd.n1.2.2.1)) (same _ (Ne.symm nd.n1.2.2.2.1)),h.l.least.kept (same _ (Ne.symm nd.n1.2.2.2.2.1)) fun x hx=>same _ fun e=>nd.n1.2.2.2.2.2 (e▸hx),nd⟩,h.right hy k,h.dis,h.touch hy k,h.lt⟩
theorem AdAt.least (h:AdAt w c p ba bs B wr) {ls:List Int} (hr:LMid wr p.lb p.lr c.K ls w2):MgPost w c p { B with l:=ls } w2:=MgAt.least' h.l h.tch hr
set_option maxRecDepth 100000 in
set_option maxHeartbeats 2000000 in
theorem bunAdd (h:BunAt false w c p B) (hB:BndAt false w c.ba bs) (hd:∀ x∈p.pl,c.ba≠some ⟨x,0,none⟩) (hok:Bun0 c B) (hc:CfgOk c) (hbs:bs.length=c.nb) (hso:bs.Pairwise (· < ·)) {x:Int} (hx:0≤x∧x≤18446744073709551615) (v:Int) :
  Calls Tryz.prog 28 #[.pointer (some ⟨p.b,0,none⟩),.int .u64 x,.int .i64 v] w fun e w'=>(∃ v,e=.returned v)∧MgPost w c p (addB c bs B x v) w':=by
 have c0:=h.c0
 have c1:=h.c1
 have c2:=h.c2
 have c3:=h.c3
 have cf:=h.hd.frozen 0
 have x0:=ix0 (.iface 120 (.pointer (some ⟨p.rb,0,none⟩))) (.iface 123 (.pointer (some ⟨p.hb,0,none⟩))) (.iface 126 (.pointer (some ⟨p.lb,0,none⟩)))
 have x1:=ix1 (.iface 120 (.pointer (some ⟨p.rb,0,none⟩))) (.iface 123 (.pointer (some ⟨p.hb,0,none⟩))) (.iface 126 (.pointer (some ⟨p.lb,0,none⟩)))
 have x2:=ix2 (.iface 120 (.pointer (some ⟨p.rb,0,none⟩))) (.iface 123 (.pointer (some ⟨p.hb,0,none⟩))) (.iface 126 (.pointer (some ⟨p.lb,0,none⟩)))
 have y0:=m120Add p.rb
 have y1:=m123Add p.hb
 have y2:=m126Add p.lb
 have hm:AdAt w c p c.ba bs B w:=⟨h,hB,hd,.refl,h.lt⟩
 have hm0:=hm.num (wrap64 (B.n+1))
 have hnb:=hc.nb
 have s1:∀ wr w1,AdAt w c p c.ba bs { B with n:=wrap64 (B.n+1) } wr→RegAt false w1 p.rb p.rr p.rc c.bits (addReg c.bits B.r x)→Tch wr.heap.size (fun y=>y=p.rr) wr w1→AdAt w c p c.ba bs { B with n:=wrap64 (B.n+1),r:=addReg c.bits B.r x } w1:=fun wr w1 h h1 h2=>h.reg h1 h2
 have t1:Hid (∀ wr,AdAt w c p c.ba bs { B with n:=wrap64 (B.n+1) } wr→Calls Tryz.prog 156 #[.pointer (some ⟨p.rb,0,none⟩),.int .u64 x,.int .i64 v] wr fun e w'=>(∃ v,e=.returned v)∧AdAt w c p c.ba bs { B with n:=wrap64 (B.n+1),r:=addReg c.bits B.r x } w'):=fun wr hr=>
  (regAdd hr.l.reg ⟨hc.b1,hc.b2⟩ hok.r hok.r8 h.nd.n2.1 hx v).mono fun e w' ⟨h1,h2,h3⟩=>⟨h1,hr.reg h2 h3⟩
 have t2:Hid (∀ wr,AdAt w c p c.ba bs { B with n:=wrap64 (B.n+1),r:=addReg c.bits B.r x } wr→Calls Tryz.prog 163 #[.pointer (some ⟨p.hb,0,none⟩),.int .u64 x,.int .i64 v] wr fun e w'=>(∃ v,e=.returned v)∧AdAt w c p c.ba bs { B with n:=wrap64 (B.n+1),r:=addReg c.bits B.r x,h:=addHist bs B.h v } w'):=fun wr hr=>by
  have hh:=hr.l.hist
  rw [← hbs] at hh
  refine (histAdd hh hr.r (by rw [hbs];omega) hso (hok.h.trans (by rw [hbs])) h.nd.n4.1 x v).mono fun e w' ⟨h1,h2,h3⟩=>⟨h1,?_⟩
  rw [hbs] at h2
  exact hr.hist h2 h3
 have t3:Hid (∀ wr,AdAt w c p c.ba bs { B with n:=wrap64 (B.n+1),r:=addReg c.bits B.r x,h:=addHist bs B.h v } wr→Calls Tryz.prog 170 #[.pointer (some ⟨p.lb,0,none⟩),.int .u64 x,.int .i64 v] wr fun e w'=>(∃ v,e=.returned v)∧MgPost w c p (addB c bs B x v) w'):=fun wr hr=>
  (leastAdd hr.l.least h.nd.n6 (by show B.l.length≤1000;have:=hok.lK;have:=hc.k2;omega) (hok.l.imp fun h=>by omega) ⟨by have:=hc.k1;omega,by have:=hc.k2;omega⟩ x v).mono fun e w' ⟨h1,h2⟩=>⟨h1,hr.least h2⟩
 clear s1 hm hnb
 go_enter Tryz.func28,Tryz.ntmps28
 go_wp2
 clear c0 c1 c2 c3 cf
 generalize w.setCell ⟨p.b,0,none⟩ (.int .i64 (wrap64 (B.n+1)))=W0 at *
 refine wp_loop_rounds 4 ?_
 rw [rounds_succ]
 go_wp2_with (go_at_call 156;refine (t1 _ hm0).mono ?_;rintro e w1 ⟨⟨v1,rfl⟩,hm1⟩)
 rw [rounds_succ]
 go_wp2_with (go_at_call 163;refine (t2 _ hm1).mono ?_;rintro e w2 ⟨⟨v2,rfl⟩,hm2⟩)
 rw [rounds_succ]
 go_wp2_with (go_at_call 170;refine (t3 _ hm2).mono ?_;rintro e w3 ⟨⟨v3,rfl⟩,hm3⟩)
 rw [rounds_succ]
 go_wp2
 go_end0
 exact ⟨⟨_,rfl⟩,hm3⟩
end
end Go.Sim.Z
