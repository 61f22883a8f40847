/- PROVED HERE: laws. Conditions: none. -/
import Derived.Test.YtlcbehhbfglgaaaGreatF31
set_option linter.all false
set_option maxHeartbeats 4000000
set_option maxRecDepth 100000
namespace Go.Sim.Z
open Go Go.Proofs Go.RowKit Go.Maps
theorem Jt5 (n:Int) (w:World):Calls Tryz.prog 19 #[.int .i64 0,.int .i64 n] w fun e w'=>e=.returned .nilFunc/\w'=w.alloc (.cells #[.int .i64 n] 3):=by
 go_enter Tryz.func19,Tryz.ntmps19
 go_wp2
 all_goals go_ret
 exact ⟨rfl,rfl⟩
theorem Jt6 (n:Int) (w:World):Calls Tryz.prog 19 #[.int .i64 2,.int .i64 n] w fun e w'=>e=.returned (.func (.func 50) #[] #[pt w.heap.size])/\w'=w.alloc (.cells #[.int .i64 n] 3):=by
 go_enter Tryz.func19,Tryz.ntmps19
 go_wp2
 all_goals go_ret
 exact ⟨rfl,rfl⟩
theorem Jkl (n:Int) (w:World):Calls Tryz.prog 48 #[.int .i64 n] w fun e w'=>e=.returned (.func (.func 72) #[] #[pt w.heap.size])/\w'=w.alloc (.cells #[.int .i64 n] 3):=by
 go_enter Tryz.func48,Tryz.ntmps48
 go_wp2
 all_goals go_ret
 exact ⟨rfl,rfl⟩
def Jjs (s n:Int):Int:=IntKind.u64.wrap (IntKind.u64.wrap n*IntKind.u64.wrap (IntKind.u64.wrap (2*IntKind.u64.wrap s)+1))
theorem Jqn {s n:Int} {b:Nat} {w:World} (h:w.cell? ⟨b,0,none⟩=some (.int .i64 s)):Calls Tryz.prog 50 #[.int .i64 n,.pointer (some ⟨b,0,none⟩)] w fun e w'=>e=.returned (.int .u64 (Jjs s n))/\w'=w:=by
 go_enter Tryz.func50,Tryz.ntmps50
 go_wp2;go_ret;exact ⟨rfl,rfl⟩
theorem Jqo {w2:World} {n:Nat} {v0 v1 v2 v3 v4:Value} {t:TypeId} (hb:Blk false w2 n #[v0,v1,v2,v3,v4] t) (o:Obj) (v:Value):((w2.setCell ⟨n,3,none⟩ v).alloc o).cell? ⟨n,0,none⟩=some v0/\((w2.setCell ⟨n,3,none⟩ v).alloc o).cell? ⟨n,1,none⟩=some v1/\((w2.setCell ⟨n,3,none⟩ v).alloc o).cell? ⟨n,2,none⟩=some v2/\((w2.setCell ⟨n,3,none⟩ v).alloc o).cell? ⟨n,3,none⟩=some v/\((w2.setCell ⟨n,3,none⟩ v).alloc o).cell? ⟨n,4,none⟩=some v4:=by
 obtain ⟨z,h1,h2⟩:=hb;cases h2 rfl;have hq:((w2.setCell ⟨n,3,none⟩ v).alloc o).heap[n]?=some (.cells #[v0,v1,v2,v,v4] t):=by rw [J7 _ (by rw [size_set];exact Ji h1),heap_set h1];rfl
 exact ⟨(cell_of hq 0).trans rfl,(cell_of hq 1).trans rfl,(cell_of hq 2).trans rfl,(cell_of hq 3).trans rfl,(cell_of hq 4).trans rfl⟩
section
variable {w:World} {x:Nat} {c:J8} {seed:Int} {nf:Int} {vm base:Nat}
theorem Jwi {fr:Bool} {bb cap:Nat} {bs:List Int} (hc:Jw c) (hr:Row fr w bb 3 .i64 bs cap) (hba:c.ba=some ⟨bb,0,none⟩) (hnb:c.nb=bs.length) (hp:bs.Pairwise (· < ·)) :
  Calls Tryz.prog 18 #[.agg (J17 c 3 seed),.nilFunc] w fun e w'=>∃ hb,NewAt w c seed (.func (.func 72) #[] #[pt hb]) bs e w'/\w.heap.size<=hb/\w'.heap[hb]?=some (.cells #[.int .i64 seed] 3):=by
 have hv:=fun w1 (ht:Tch w.heap.size M0 w w1)=>Jbl (seed:=seed) hc (hr.tch ht hr.lt fun x=>x) hba hnb hp;have hcl:=fun w1 (ht:Tch w.heap.size M0 w w1)=>Jhp (hr.tch ht hr.lt fun x=>x) (by have:=hc.nb;omega);have hlen:=hc.nb;obtain ⟨W0,hW0⟩:∃ W0,W0=w.alloc (.cells #[.int .i64 3,.int .i64 c.bits,.int .i64 c.K,.slice (some ⟨bb,0,none⟩) bs.length c.cb,.int .i64 seed] 35):=⟨_,rfl⟩;have ht0:Tch w.heap.size M0 w W0:=by rw [hW0];exact Tch.refl.alloc (Ja2 _) _
 have hb0:Blk false W0 w.heap.size #[.int .i64 3,.int .i64 c.bits,.int .i64 c.K,.slice (some ⟨bb,0,none⟩) bs.length c.cb,.int .i64 seed] 35:=⟨(0,0),by rw [hW0];exact Ja _,fun _=>rfl⟩;have e1:∀ {w1:World} {arr:Array Value},Blk false w1 w.heap.size arr 35->∀ i,w1.cell? ⟨w.heap.size,i,none⟩=arr[i]?:=fun h i=>h.cell i;unfold J17 at hv ⊢;rw [hba,hnb] at hv ⊢;have hv0:=hv W0 ht0;have hcl0:Hid (∀ w1,Tch W0.heap.size M0 W0 w1->Calls Tryz.prog 47 #[.slice (some ⟨bb,0,none⟩) bs.length c.cb] w1 fun e w'=>∃ g c',e=.returned (.slice (some ⟨g,0,none⟩) bs.length c')/\w1.heap.size<=g/\Row false w' g 3 .i64 bs c'/\Tch w1.heap.size M0 w1 w'/\c'<=maxLen):=fun w1 ht=>hcl w1 (ht0.trans (ht.mono ht0.size fun _ _ h=>h)) _;have hlt0:=hb0.lt;clear hv hcl;have hnf:∀ w,(binOp .eql 60 .nilFunc .nilFunc).run Tryz.prog w=.ok (.bool true) w:=fun w=>rfl;have hmm:∀ (t:TypeId) w,(Instr.makeMap t none).run Tryz.prog w=.ok (.map (some w.heap.size)) (w.alloc (.map #[] 0)):=fun _ _=>rfl;have hgm':=hnb;generalize hgm:bs.length=m at *
 go_enter Tryz.func18,Tryz.ntmps18
 go_wp2_with (first
  | (go_at_call 46;rw [<- hW0];refine hv0.mono ?_;rintro e w1 ⟨rfl,ht1⟩;have hb1:=hb0.tch ht1 hlt0 (fun x=>x);obtain ⟨y0,y1,y2,y3,y4⟩:=hb1.five;have hlt1:=hb1.lt)
  | (go_at_call 47;refine (hcl0 _ ht1).mono ?_;rintro e w2 ⟨b2,c2,rfl,Jwu,hr2,ht2,hc2⟩;have hb2:=hb1.tch ht2 hlt1 (fun x=>x);obtain ⟨z0,z1,z2,z3,z4⟩:=hb2.five;have zf:=hb2.frozen 3;obtain ⟨p0,p1,p2,p3,p4⟩:=Jqo hb2 (.cells #[.int .i64 seed] 3) (.slice (some ⟨b2,0,none⟩) m c2))
  | (go_at_call 48;refine (Jkl seed _).mono ?_;rintro e w2' ⟨rfl,rfl⟩))
 have hs3:(w2.setCell ⟨w.heap.size,3,none⟩ (.slice (some ⟨b2,0,none⟩) m c2)).heap.size=w2.heap.size:=size_set _ _;have ht3:Tch w.heap.size M0 w (w2.setCell ⟨w.heap.size,3,none⟩ (.slice (some ⟨b2,0,none⟩) m c2)):=((ht0.trans (ht1.mono ht0.size fun _ _ h=>h)).trans (ht2.mono (Jb6 ht0.size ht1.size) fun _ _ h=>h)).set (.inl (Ja2 _)) _;have hr3:Row false (w2.setCell ⟨w.heap.size,3,none⟩ (.slice (some ⟨b2,0,none⟩) m c2)) b2 3 .i64 bs c2:=hr2.kept (Jk _ _ (show b2≠w.heap.size by have:=ht0.size;have:=ht1.size;omega));have hl2:=hr2.lt;generalize w2.setCell ⟨w.heap.size,3,none⟩ (.slice (some ⟨b2,0,none⟩) m c2)=W30 at *;obtain ⟨W3,hW3⟩:∃ W3,W3=W30.alloc (.cells #[.int .i64 seed] 3):=⟨_,rfl⟩;have Jjt:=hs3;have hl30:b2<W30.heap.size:=by rw [hs3];exact hl2
 have hbx:W3.heap[w2.heap.size]?=some (.cells #[.int .i64 seed] 3):=by rw [hW3,<- hs3];exact Ja _
 have Jz9:w.heap.size<=W30.heap.size:=ht3.size;have ht3:Tch w.heap.size M0 w W3:=by rw [hW3];exact ht3.alloc ht3.size _
 have hr3:Row false W3 b2 3 .i64 bs c2:=by rw [hW3];exact hr3.kept (J7 _ hl30)
 have hs3:W3.heap.size=w2.heap.size+1:=by rw [hW3,size_alloc,Jjt]
 have Jjt:W30.heap.size=w2.heap.size:=Jjt;rw [<- hW3];have hw3:w.heap.size<=W3.heap.size:=ht3.size;have hV:((W3.alloc (.map #[] 0)).alloc (.cells #[.int .i64 3,.int .i64 c.bits,.int .i64 c.K,.slice (some ⟨b2,0,none⟩) m c2,.int .i64 seed,.func (.func 72) #[] #[pt w2.heap.size],.int .i64 0,.map (some (w2.heap.size+1))] 64)).heap[(w2.heap.size+1)]?=some (.map #[] 0):=by rw [<- hs3,J7 _ (by rw [size_alloc];omega)];exact Ja _
 have hX:((W3.alloc (.map #[] 0)).alloc (.cells #[.int .i64 3,.int .i64 c.bits,.int .i64 c.K,.slice (some ⟨b2,0,none⟩) m c2,.int .i64 seed,.func (.func 72) #[] #[pt w2.heap.size],.int .i64 0,.map (some (w2.heap.size+1))] 64)).heap[w2.heap.size+1+1]?=some (.cells #[.int .i64 3,.int .i64 c.bits,.int .i64 c.K,.slice (some ⟨b2,0,none⟩) m c2,.int .i64 seed,.func (.func 72) #[] #[pt w2.heap.size],.int .i64 0,.map (some (w2.heap.size+1))] 64):=by
  have:=Ja (w:=W3.alloc (.map #[] 0)) (.cells #[.int .i64 3,.int .i64 c.bits,.int .i64 c.K,.slice (some ⟨b2,0,none⟩) m c2,.int .i64 seed,.func (.func 72) #[] #[pt w2.heap.size],.int .i64 0,.map (some (w2.heap.size+1))] 64)
  rwa [size_alloc,hs3] at this
 have hr5:=(hr3.kept (w':=(W3.alloc (.map #[] 0)).alloc (.cells #[.int .i64 3,.int .i64 c.bits,.int .i64 c.K,.slice (some ⟨b2,0,none⟩) m c2,.int .i64 seed,.func (.func 72) #[] #[pt w2.heap.size],.int .i64 0,.map (some (w2.heap.size+1))] 64)) (by rw [J7 _ (by rw [size_alloc];omega),J7 _ (by omega)]));have ht5:=(ht3.alloc hw3 (.map #[] 0)).alloc (by rw [size_alloc];omega) (.cells #[.int .i64 3,.int .i64 c.bits,.int .i64 c.K,.slice (some ⟨b2,0,none⟩) m c2,.int .i64 seed,.func (.func 72) #[] #[pt w2.heap.size],.int .i64 0,.map (some (w2.heap.size+1))] 64);have hs5:((W3.alloc (.map #[] 0)).alloc (.cells #[.int .i64 3,.int .i64 c.bits,.int .i64 c.K,.slice (some ⟨b2,0,none⟩) m c2,.int .i64 seed,.func (.func 72) #[] #[pt w2.heap.size],.int .i64 0,.map (some (w2.heap.size+1))] 64)).heap.size=w2.heap.size+1+2:=by rw [size_alloc,size_alloc,hs3]
 have hb5:((W3.alloc (.map #[] 0)).alloc (.cells #[.int .i64 3,.int .i64 c.bits,.int .i64 c.K,.slice (some ⟨b2,0,none⟩) m c2,.int .i64 seed,.func (.func 72) #[] #[pt w2.heap.size],.int .i64 0,.map (some (w2.heap.size+1))] 64)).heap[w2.heap.size]?=some (.cells #[.int .i64 seed] 3):=by rw [J7 _ (by rw [size_alloc];omega),J7 _ (by omega)];exact hbx
 generalize (W3.alloc (.map #[] 0)).alloc (.cells #[.int .i64 3,.int .i64 c.bits,.int .i64 c.K,.slice (some ⟨b2,0,none⟩) m c2,.int .i64 seed,.func (.func 72) #[] #[pt w2.heap.size],.int .i64 0,.map (some (w2.heap.size+1))] 64)=W5 at *;have hV6:((W5.alloc (.map #[] 0)).drew).heap[(w2.heap.size+1)]?=some (.map #[] 0):=(J7 (w:=W5) _ (show _<W5.heap.size by omega)).trans hV;obtain ⟨w7,hrun7,Jre,hg7⟩:=J2j.made (base:=W5.heap.size) hV6;have Jwv:(Instr.mapUpdate 62 (.map (some (w2.heap.size+1))) (.int .i64 7) (.map (some (w2.heap.size+1+2)))).run Tryz.prog ((W5.alloc (.map #[] 0)).drew)=.ok () w7:=by rw [<- hs5];exact hrun7
 have hx0:W5.cell? ⟨w2.heap.size+1+1,0,none⟩=some (.int .i64 3):=(cell_of hX 0).trans rfl;have hx7:W5.cell? ⟨w2.heap.size+1+1,7,none⟩=some (.map (some (w2.heap.size+1))):=(cell_of hX 7).trans rfl;have cb:Hid (∀ w',(w'=W5.drew\/w'=(W5.alloc (.map #[] 0)).drew)->Calls Tryz.prog 23 #[.pointer (some ⟨w2.heap.size+1+1,0,none⟩)] w' fun e w''=>e=.returned (.int .i64 7)/\w''=w'):=fun w' h=>J6i (by
  rcases h with rfl|rfl
  ·exact hx0
  ·refine (Jb4 (J7 (w:=W5) _ ?_)).trans hx0;show _<W5.heap.size;rw [hs5];show w2.heap.size+1+1<_;omega)
 have J76:∀ k,k<W5.heap.size->k≠(w2.heap.size+1)->w7.heap[k]?=W5.heap[k]?:=fun k hk hne=>(hg7.block k (by show k<(W5.alloc _).heap.size;rw [size_alloc];omega) fun e=>hne (Ja0 e)).trans (J7 (w:=W5) _ hk);have fin:NewAt w c seed (.func (.func 72) #[] #[pt w2.heap.size]) bs (.returned (.tuple #[.pointer (some ⟨w2.heap.size+1+1,0,none⟩),.nilIface])) w7:=by
  have hsz2:w.heap.size<=(w2.heap.size+1):=by rw [<- hs3];exact hw3
  have hsz3:w.heap.size<=w2.heap.size:=by rw [<- Jjt];exact Jz9
  refine ⟨⟨w2.heap.size+1+1,(w2.heap.size+1),W5.heap.size,b2,c2,rfl,⟨by omega,by omega,by omega,by have:=ht0.size;have:=ht1.size;omega⟩,⟨⟨(0,0),?_,fun _=>rfl⟩,Jre⟩,?_,?_,?_⟩,?_⟩
  ·rw [J76 _ (by omega) (by omega),hX,<- hnb]
  ·exact (hg7.block _ (by show W5.heap.size<(W5.alloc _).heap.size;rw [size_alloc];omega) fun e=>by have:=Ja0 e;omega).trans (Ja (w:=W5) _)
  ·exact hr5.kept (J76 _ (by omega) (by omega))
  ·omega
  ·exact ⟨by have:=hg7.size;have e:((W5.alloc (.map #[] 0)).drew).heap.size=W5.heap.size+1:=size_alloc _;have:=ht5.size;omega,fun k hk _=>(J76 k (by omega) (by omega)).trans (ht5.heap k hk fun x=>x),hg7.tape.trans ht5.tape,hg7.os.trans ht5.os,hg7.output.trans ht5.output⟩
 clear hV6 hV
 go_region_with (go_at_call 23;refine (cb _ (by first|exact .inl rfl|exact .inr rfl)).mono ?_;rintro e w' ⟨rfl,rfl⟩)
 all_goals go_wp2
 all_goals go_ret2
 all_goals exact ⟨w2.heap.size,fin,by rw [<- Jjt];exact Jz9,(J76 _ (by omega) (by omega)).trans hb5⟩
end
section
variable {w:World} {x:Nat} {c:J8} {seed:Int} {nf:Int} {vm base:Nat}
theorem Jt7 {fr:Bool} {bb cap:Nat} {bs:List Int} (hc:Jw c) (hr:Row fr w bb 3 .i64 bs cap) (hba:c.ba=some ⟨bb,0,none⟩) (hnb:c.nb=bs.length) (hp:bs.Pairwise (· < ·)) (n:Int) :
  Calls Tryz.prog 12 #[.agg (J17 c 3 seed),.int .i64 2,.int .i64 n] w fun e w'=>∃ hb,NewAt w c seed (.func (.func 50) #[] #[pt hb]) bs e w'/\w.heap.size<=hb/\w'.heap[hb]?=some (.cells #[.int .i64 n] 3):=by
 obtain ⟨W0,hW0⟩:∃ W0,W0=w.alloc (.cells (J17 c 3 seed) 35):=⟨_,rfl⟩;have ht0:Tch w.heap.size M0 w W0:=by rw [hW0];exact Tch.refl.alloc (Ja2 _) _
 have hb0:Blk false W0 w.heap.size (J17 c 3 seed) 35:=⟨(0,0),by rw [hW0];exact Ja _,fun _=>rfl⟩;have hlt0:=hb0.lt;have hf:Hid (∀ w1,Tch W0.heap.size M0 W0 w1->w1.cell? ⟨w.heap.size,0,none⟩=some (.int .i64 3)/\w1.cell? ⟨w.heap.size,1,none⟩=some (.int .i64 c.bits)/\w1.cell? ⟨w.heap.size,2,none⟩=some (.int .i64 c.K)/\w1.cell? ⟨w.heap.size,3,none⟩=some (.slice c.ba c.nb c.cb)/\w1.cell? ⟨w.heap.size,4,none⟩=some (.int .i64 seed)):=fun w1 ht=>(hb0.tch ht hlt0 fun x=>x).five;have hd2:Hid (∀ w1,Tch W0.heap.size M0 W0 w1->Calls Tryz.prog 18 #[.agg (J17 c 3 seed),.func (.func 50) #[] #[pt (w.heap.size+1)]] w1 fun e w'=>NewAt w c seed (.func (.func 50) #[] #[pt (w.heap.size+1)]) bs e w'/\Tch W0.heap.size M0 W0 w'/\Tch w1.heap.size M0 w1 w'):=fun w1 ht=>by have ht2:=ht0.trans (ht.mono ht0.size fun _ _ h=>h);refine (Jfw (seed:=seed) hc (hr.tch ht2 hr.lt fun x=>x) hba hnb hp (.func 50) #[] #[pt (w.heap.size+1)]).mono fun e w' (h:NewAt w1 c seed (.func (.func 50) #[] #[pt (w.heap.size+1)]) bs e w')=>?_;obtain ⟨⟨x,vm,base,b2,c2,h1,h2,h3⟩,h4⟩:=h;have:=ht2.size;exact ⟨⟨⟨x,vm,base,b2,c2,h1,⟨by omega,by omega,by omega,by omega⟩,h3⟩,(ht2.trans (h4.mono ht2.size fun _ _ h=>h))⟩,ht.trans (h4.mono ht.size fun _ _ h=>h),h4⟩
 clear hr hp hb0 ht0 hlt0 hba hnb;unfold J17 at hd2 hW0 ⊢;have t0:Tch W0.heap.size M0 W0 W0.drew:=Tch.refl.drew;have t1:Tch W0.heap.size M0 W0 (W0.alloc (.cells #[.int .i64 n] 3)).drew:=(Tch.refl.alloc (Ja2 _) _).drew;have hbox:(W0.alloc (.cells #[.int .i64 n] 3)).drew.heap[w.heap.size+1]?=some (.cells #[.int .i64 n] 3):=by have:=Ja (w:=W0) (.cells #[.int .i64 n] 3);rw [hW0,size_alloc] at this;rw [hW0];exact this
 have Juy:w.heap.size+1<(W0.alloc (.cells #[.int .i64 n] 3)).drew.heap.size:=Ji hbox
 go_enter Tryz.func12,Tryz.ntmps12
 go_wp2_with fail
 subst hW0;generalize hn0:w.heap.size=n0 at hf hd2 hbox Juy ⊢;obtain ⟨q0,q1,q2,q3,q4⟩:=hf _ t0;obtain ⟨r0,r1,r2,r3,r4⟩:=hf _ t1
 go_region_with (first|(go_at_call 19;refine (Jt6 n _).mono ?_;rintro e w1 ⟨rfl,rfl⟩)|(go_at_call 18;refine (hd2 _ t1).mono ?_;rintro e w1 ⟨hN,t2,t3⟩;have hN':=hN;have hfin:=(t3.heap _ Juy fun h=>h).trans hbox;obtain ⟨⟨x,vm,base,b2,c2,rfl,_⟩,_⟩:=hN))
 all_goals go_wp2
 all_goals go_ret2
 all_goals exact ⟨_,hN',by omega,hfin⟩
theorem Jt8 {fr:Bool} {bb cap:Nat} {bs:List Int} (hc:Jw c) (hr:Row fr w bb 3 .i64 bs cap) (hba:c.ba=some ⟨bb,0,none⟩) (hnb:c.nb=bs.length) (hp:bs.Pairwise (· < ·)) (n:Int) :
  Calls Tryz.prog 12 #[.agg (J17 c 3 seed),.int .i64 0,.int .i64 n] w fun e w'=>∃ hb,NewAt w c seed (.func (.func 72) #[] #[pt hb]) bs e w'/\w.heap.size<=hb/\w'.heap[hb]?=some (.cells #[.int .i64 seed] 3):=by
 obtain ⟨W0,hW0⟩:∃ W0,W0=w.alloc (.cells (J17 c 3 seed) 35):=⟨_,rfl⟩;have ht0:Tch w.heap.size M0 w W0:=by rw [hW0];exact Tch.refl.alloc (Ja2 _) _
 have hb0:Blk false W0 w.heap.size (J17 c 3 seed) 35:=⟨(0,0),by rw [hW0];exact Ja _,fun _=>rfl⟩;have hlt0:=hb0.lt;have hf:Hid (∀ w1,Tch W0.heap.size M0 W0 w1->w1.cell? ⟨w.heap.size,0,none⟩=some (.int .i64 3)/\w1.cell? ⟨w.heap.size,1,none⟩=some (.int .i64 c.bits)/\w1.cell? ⟨w.heap.size,2,none⟩=some (.int .i64 c.K)/\w1.cell? ⟨w.heap.size,3,none⟩=some (.slice c.ba c.nb c.cb)/\w1.cell? ⟨w.heap.size,4,none⟩=some (.int .i64 seed)):=fun w1 ht=>(hb0.tch ht hlt0 fun x=>x).five;have hd2:Hid (∀ w1,Tch W0.heap.size M0 W0 w1->Calls Tryz.prog 18 #[.agg (J17 c 3 seed),.nilFunc] w1 fun e w'=>∃ hb,NewAt w c seed (.func (.func 72) #[] #[pt hb]) bs e w'/\w.heap.size<=hb/\w'.heap[hb]?=some (.cells #[.int .i64 seed] 3)/\Tch W0.heap.size M0 W0 w'):=fun w1 ht=>by have ht2:=ht0.trans (ht.mono ht0.size fun _ _ h=>h);refine (Jwi (seed:=seed) hc (hr.tch ht2 hr.lt fun x=>x) hba hnb hp).mono fun e w' hx=>?_;obtain ⟨hb,⟨⟨x,vm,base,b2,c2,h1,h2,h3⟩,h4⟩,h5,h6⟩:=hx;have:=ht2.size;exact ⟨hb,⟨⟨x,vm,base,b2,c2,h1,⟨by omega,by omega,by omega,by omega⟩,h3⟩,(ht2.trans (h4.mono ht2.size fun _ _ h=>h))⟩,by omega,h6,ht.trans (h4.mono ht.size fun _ _ h=>h)⟩
 clear hr hp hb0 ht0 hlt0 hba hnb;unfold J17 at hd2 hW0 ⊢;have t0:Tch W0.heap.size M0 W0 W0.drew:=Tch.refl.drew;have t1:Tch W0.heap.size M0 W0 (W0.alloc (.cells #[.int .i64 n] 3)).drew:=(Tch.refl.alloc (Ja2 _) _).drew
 go_enter Tryz.func12,Tryz.ntmps12
 go_wp2_with fail
 subst hW0;generalize hn0:w.heap.size=n0 at hf ⊢;obtain ⟨q0,q1,q2,q3,q4⟩:=hf _ t0;obtain ⟨r0,r1,r2,r3,r4⟩:=hf _ t1
 go_region_with (first|(go_at_call 19;refine (Jt5 n _).mono ?_;rintro e w1 ⟨rfl,rfl⟩)|(go_at_call 18;refine (hd2 _ t1).mono ?_;rintro e w1 ⟨hb,hN,q8,q9,t2⟩;have hN':=hN;obtain ⟨⟨x,vm,base,b2,c2,rfl,_⟩,_⟩:=hN))
 all_goals go_wp2
 all_goals go_ret2
 all_goals exact ⟨_,hN',by omega,q9⟩
theorem Jkm {hb:Nat} {s:Int} (q:J08 w x c seed (.func (.func 50) #[] #[pt hb]) nf vm base) (hc:w.heap[hb]?=some (.cells #[.int .i64 s] 3)) (item at_:Int) :
  Calls Tryz.prog 24 #[.pointer (some ⟨x,0,none⟩),.int .i64 item,.int .i64 at_] w fun e w'=>e=.returned (.tuple #[.int .u64 (Jjs s item),.nilIface])/\Tch w.heap.size M0 w w':=by
 have hmf:∀ (fn:Fn) (first cap:Array Value) (w:World),(Instr.makeFunc fn first cap).run Tryz.prog w=.ok (.func fn first cap) w:=fun _ _ _ _=>rfl;have hx:x<w.heap.size:=q.blk.lt;have c5:w.cell? ⟨x,5,none⟩=some (.func (.func 50) #[] #[pt hb]):=q.cells.2.2.2.2.2.1;have hbl:=Ji hc;have h1:Calls Tryz.prog 50 #[.int .i64 item,.pointer (some ⟨hb,0,none⟩)] (((w.alloc (.cells #[.int .i64 at_] 3)).alloc (.cells #[.int .u64 0] 45)).alloc (.cells #[.nilIface] 30)) fun e w'=>e=.returned (.int .u64 (Jjs s item))/\w'=((w.alloc (.cells #[.int .i64 at_] 3)).alloc (.cells #[.int .u64 0] 45)).alloc (.cells #[.nilIface] 30):=Jqn ((Jb4 (by rw [J7 _ (by rw [size_alloc,size_alloc];show hb<_;omega),J7 _ (by rw [size_alloc];show hb<_;omega),J7 _ hbl])).trans ((cell_of hc 0).trans rfl));have c5':(((w.alloc (.cells #[.int .i64 at_] 3)).alloc (.cells #[.int .u64 0] 45)).alloc (.cells #[.nilIface] 30)).cell? ⟨x,5,none⟩=some (.func (.func 50) #[] #[pt hb]):=
  (Jb4 (by rw [J7 _ (by rw [size_alloc,size_alloc];show x<_;omega),J7 _ (by rw [size_alloc];show x<_;omega),J7 _ hx])).trans c5
 generalize Jjs s item=hh at *;clear hc
 go_enter_defers Tryz.func24,Tryz.ntmps24
 go_wp2_with (go_at_call 50;refine h1.mono ?_;rintro e w1 ⟨rfl,rfl⟩)
 refine leaves_cons (f:=54) (args:=#[.pointer (some ⟨w.heap.size,0,none⟩),.pointer (some ⟨w.heap.size+1,0,none⟩),.pointer (some ⟨w.heap.size+1+1,0,none⟩)]) (by simp) (by simp [go_sem]) ?_;refine (Ji3 _ _ _ _).mono ?_;rintro e u' w'' ⟨rfl,rfl,rfl⟩;simp [Leaves,settle,results,Tryz.results24,go_sem];exact ((Tch.refl.alloc (Ja2 _) _).alloc (by rw [size_alloc];omega) _).alloc (by rw [size_alloc,size_alloc];omega) _
end
end Go.Sim.Z
namespace Go.Sim.Z
open Go Go.Proofs Go.RowKit Go.Conc Go.Maps
theorem Jju (y:Int):0<=IntKind.u64.wrap y/\IntKind.u64.wrap y<=18446744073709551615:=Jz2 y
def Jza (s n:Int):Int:=IntKind.u64.wrap (IntKind.u64.wrap n+IntKind.u64.wrap (IntKind.u64.wrap s*11400714819323198485))
def Jno (z k m:Int):Int:=IntKind.u64.wrap (bits .xor .u64 z (z / k)*m)
def Jam (s n:Int):Int:=bits .xor .u64 (Jno (Jno (Jza s n) 1073741824 13787848793156543929) 134217728 10723151780598845931) (Jno (Jno (Jza s n) 1073741824 13787848793156543929) 134217728 10723151780598845931 / 2147483648)
theorem Jwj (s n:Int):0<=Jam s n/\Jam s n<=18446744073709551615:=by unfold Jam bits;exact Jju _
theorem Jqp {s n:Int} {b:Nat} {w:World} (h:w.cell? ⟨b,0,none⟩=some (.int .i64 s)):Calls Tryz.prog 72 #[.int .i64 n,.pointer (some ⟨b,0,none⟩)] w fun e w'=>e=.returned (.int .u64 (Jam s n))/\w'=w:=by
 go_enter Tryz.func72,Tryz.ntmps72
 go_wp2;go_ret;exact ⟨rfl,rfl⟩
section
variable {w:World} {x:Nat} {c:J8} {seed:Int} {nf:Int} {vm base:Nat}
theorem Jkn {hb:Nat} {s:Int} (q:J08 w x c seed (.func (.func 72) #[] #[pt hb]) nf vm base) (hc:w.heap[hb]?=some (.cells #[.int .i64 s] 3)) (item at_:Int) :
  Calls Tryz.prog 24 #[.pointer (some ⟨x,0,none⟩),.int .i64 item,.int .i64 at_] w fun e w'=>e=.returned (.tuple #[.int .u64 (Jam s item),.nilIface])/\Tch w.heap.size M0 w w':=by
 have hmf:∀ (fn:Fn) (first cap:Array Value) (w:World),(Instr.makeFunc fn first cap).run Tryz.prog w=.ok (.func fn first cap) w:=fun _ _ _ _=>rfl;have hx:x<w.heap.size:=q.blk.lt;have c5:w.cell? ⟨x,5,none⟩=some (.func (.func 72) #[] #[pt hb]):=q.cells.2.2.2.2.2.1;have hbl:=Ji hc;have h1:Calls Tryz.prog 72 #[.int .i64 item,.pointer (some ⟨hb,0,none⟩)] (((w.alloc (.cells #[.int .i64 at_] 3)).alloc (.cells #[.int .u64 0] 45)).alloc (.cells #[.nilIface] 30)) fun e w'=>e=.returned (.int .u64 (Jam s item))/\w'=((w.alloc (.cells #[.int .i64 at_] 3)).alloc (.cells #[.int .u64 0] 45)).alloc (.cells #[.nilIface] 30):=Jqp ((Jb4 (by rw [J7 _ (by rw [size_alloc,size_alloc];show hb<_;omega),J7 _ (by rw [size_alloc];show hb<_;omega),J7 _ hbl])).trans ((cell_of hc 0).trans rfl));have c5':(((w.alloc (.cells #[.int .i64 at_] 3)).alloc (.cells #[.int .u64 0] 45)).alloc (.cells #[.nilIface] 30)).cell? ⟨x,5,none⟩=some (.func (.func 72) #[] #[pt hb]):=
  (Jb4 (by rw [J7 _ (by rw [size_alloc,size_alloc];show x<_;omega),J7 _ (by rw [size_alloc];show x<_;omega),J7 _ hx])).trans c5
 generalize Jam s item=hh at *;clear hc
 go_enter_defers Tryz.func24,Tryz.ntmps24
 go_wp2_with (go_at_call 72;refine h1.mono ?_;rintro e w1 ⟨rfl,rfl⟩)
 refine leaves_cons (f:=54) (args:=#[.pointer (some ⟨w.heap.size,0,none⟩),.pointer (some ⟨w.heap.size+1,0,none⟩),.pointer (some ⟨w.heap.size+1+1,0,none⟩)]) (by simp) (by simp [go_sem]) ?_;refine (Ji3 _ _ _ _).mono ?_;rintro e u' w'' ⟨rfl,rfl,rfl⟩;simp [Leaves,settle,results,Tryz.results24,go_sem];exact ((Tch.refl.alloc (Ja2 _) _).alloc (by rw [size_alloc];omega) _).alloc (by rw [size_alloc,size_alloc];omega) _
end
inductive J1r (w:World):Value->(Int->Int)->Prop
 | one:J1r w h49 (fun y=>IntKind.u64.wrap y)
 | two {b:Nat} {s:Int} (h:w.heap[b]?=some (.cells #[.int .i64 s] 3)):J1r w (.func (.func 50) #[] #[pt b]) (Jjs s)
 | mix {b:Nat} {s:Int} (h:w.heap[b]?=some (.cells #[.int .i64 s] 3)):J1r w (.func (.func 72) #[] #[pt b]) (Jam s)
section
variable {w:World} {h:Value} {hs:Int->Int}
theorem J1r.bd (q:J1r w h hs) (y:Int):0<=hs y/\hs y<=18446744073709551615:=by
 cases q with
 | one=>exact Jju y
 | two _=>exact Jju _
 | mix _=>exact Jwj _ y
def Jao:Value->Option Nat
 | .func _ _ a=>(match (a[0]?:Option Value) with
  | some (.pointer (some p))=>some p.block
  | _=>none)
 | _=>none
theorem J1r.kept (q:J1r w h hs) {w':World} (hk:∀ b s,Jao h=some b->w.heap[b]?=some (.cells #[.int .i64 s] 3)->w'.heap[b]?=some (.cells #[.int .i64 s] 3)):J1r w' h hs:=by
 cases q with
 | one=>exact .one
 | two h=>exact .two (hk _ _ rfl h)
 | mix h=>exact .mix (hk _ _ rfl h)
theorem J1r.calls (q:J1r w h hs) {x:Nat} {c:J8} {seed nf:Int} {vm base:Nat} (qc:J08 w x c seed h nf vm base) (item at_:Int) :
  Calls Tryz.prog 24 #[.pointer (some ⟨x,0,none⟩),.int .i64 item,.int .i64 at_] w fun e w'=>e=.returned (.tuple #[.int .u64 (hs item),.nilIface])/\Tch w.heap.size M0 w w':=by
 cases q with
 | one=>exact Jos qc item at_
 | two h=>exact Jkm qc h item at_
 | mix h=>exact Jkn qc h item at_
end
def Jzb (w:World) (c:J8) (seed:Int) (bs:List Int) (e:Ending) (w':World):Prop:=∃ h hs,NewAt w c seed h bs e w'/\J1r w' h hs/\∀ b,Jao h=some b->w.heap.size<=b
section
variable {w:World} {c:J8} {seed:Int}
theorem Jt9 {fr:Bool} {bb cap:Nat} {bs:List Int} (hc:Jw c) (hr:Row fr w bb 3 .i64 bs cap) (hba:c.ba=some ⟨bb,0,none⟩) (hnb:c.nb=bs.length) (hp:bs.Pairwise (· < ·)) (k n:Int) (hk:0<=k/\k<3) :
  Calls Tryz.prog 12 #[.agg (J17 c 3 seed),.int .i64 k,.int .i64 n] w (Jzb w c seed bs):=by
 obtain rfl|rfl|rfl:k=0\/k=1\/k=2:=by omega
 ·refine (Jt8 hc hr hba hnb hp n).mono fun e w' ⟨hb,h1,h2,h3⟩=>⟨_,_,h1,.mix h3,fun b e=>?_⟩;cases e;exact h2
 ·exact (Jrf hc hr hba hnb hp n).mono fun e w' h1=>⟨_,_,h1,.one,fun b e=>by cases e⟩
 ·refine (Jt7 hc hr hba hnb hp n).mono fun e w' ⟨hb,h1,h2,h3⟩=>⟨_,_,h1,.two h3,fun b e=>?_⟩;cases e;exact h2
end
theorem Jnp {c:Int} (hc:I64 c) (w:World):Calls Tryz.prog 16 #[.int .i64 c] w fun e w'=>e=.returned (.int .i64 (Ju c 3))/\w'=w:=by
 have hp:=J3u (n:=3) hc (by omega) (by omega) w
 go_enter Tryz.func16,Tryz.ntmps16
 go_wp2_with (go_at_call 8;refine hp.mono ?_;rintro e w1 ⟨rfl,rfl⟩)
 go_ret;exact ⟨rfl,rfl⟩
theorem J04b (f:Nat->Value):((List.range 70).map f).toArray=#[f 0,f 1,f 2,f 3,f 4,f 5,f 6,f 7,f 8,f 9,f 10,f 11,f 12,f 13,f 14,f 15,f 16,f 17,f 18,f 19,f 20,f 21,f 22,f 23,f 24,f 25,f 26,f 27,f 28,f 29,f 30,f 31,f 32,f 33,f 34,f 35,f 36,f 37,f 38,f 39,f 40,f 41,f 42,f 43,f 44,f 45,f 46,f 47,f 48,f 49,f 50,f 51,f 52,f 53,f 54,f 55,f 56,f 57,f 58,f 59,f 60,f 61,f 62,f 63,f 64,f 65,f 66,f 67,f 68,f 69]:=by rfl
theorem J5v {T:Array Value} (h:T.size=70):∃ f:Nat->Value,T=#[f 0,f 1,f 2,f 3,f 4,f 5,f 6,f 7,f 8,f 9,f 10,f 11,f 12,f 13,f 14,f 15,f 16,f 17,f 18,f 19,f 20,f 21,f 22,f 23,f 24,f 25,f 26,f 27,f 28,f 29,f 30,f 31,f 32,f 33,f 34,f 35,f 36,f 37,f 38,f 39,f 40,f 41,f 42,f 43,f 44,f 45,f 46,f 47,f 48,f 49,f 50,f 51,f 52,f 53,f 54,f 55,f 56,f 57,f 58,f 59,f 60,f 61,f 62,f 63,f 64,f 65,f 66,f 67,f 68,f 69]:=⟨fun i=>T.getD i undef,(Jj6 h).trans (J04b _)⟩
noncomputable def b7:Code:=Tryz.f7.body.getD .skip
noncomputable def Jnq:Code:=fC b7
noncomputable def Jnr:Code:=fC (sC b7)
noncomputable def Jns:Code:=fC (sC (sC b7))
noncomputable def Jnt:Code:=fC (sC (sC (sC b7)))
noncomputable def Jnu:Code:=fC (sC (sC (sC (sC b7))))
noncomputable def Jnv:Code:=fC (sC (sC (sC (sC (sC b7)))))
noncomputable def Jnw:Code:=fC (sC (sC (sC (sC (sC (sC b7))))))
noncomputable def ops7:Array Oper:=opsOf (fC (sC (sC (sC (sC (sC (sC (sC b7))))))))
noncomputable def J7e:Code:=sC (sC (sC (sC (sC (sC (sC (sC b7)))))))
theorem J04c:b7=.seq Jnq (.seq Jnr (.seq Jns (.seq Jnt (.seq Jnu (.seq Jnv (.seq Jnw (.seq (.region 9 ops7 false) J7e))))))):=by kernel_rfl
theorem body7:Tryz.f7.body=some b7:=by kernel_rfl
section
variable {w:World} {T:Array Value} {d:Deferred} {c:Int} {sl:Value} {ga:Option Addr} {cb x c2:Nat}
theorem Jta (hsz:T.size=70) (h0:T[0]?=some (.int .i64 c)) (h1:T[1]?=some sl) :
  Jnq.wp Tryz.prog (fun e a w'=>e=.normal/\a.defers=[d]/\a.tmps.size=70/\a.tmps[0]?=some (.int .i64 c)/\a.tmps[1]?=some sl/\w'.heap=w.heap) ⟨T,[d]⟩ w:=by
 obtain ⟨f,rfl⟩:=J5v hsz;have e0:f 0=_:=Ja0 h0;have e1:f 1=_:=Ja0 h1;rw [e0,e1];simp only [Jnq,b7,fC,Tryz.f7,Ja6];go_wp2
theorem Jtb (hc:I64 c) (hsz:T.size=70) (h0:T[0]?=some (.int .i64 c)) (h1:T[1]?=some sl) :
  Jnr.wp Tryz.prog (fun e a w'=>e=.normal/\a.defers=[d]/\a.tmps.size=70/\a.tmps[0]?=some (.int .i64 c)/\a.tmps[1]?=some sl/\a.tmps[5]?=some (pt (w.heap.size+2))/\Blk false w' (w.heap.size+2) (J17 (Jcl c (w.heap.size+1)) 3 c) 35/\Row false w' (w.heap.size+1) 3 .i64 J06 4/\Tch w.heap.size M0 w w') ⟨T,[d]⟩ w:=by
 obtain ⟨f,rfl⟩:=J5v hsz;have e0:f 0=_:=Ja0 h0;have e1:f 1=_:=Ja0 h1;rw [e0,e1];have hcf:=J9c hc w;simp only [Jnr,b7,fC,sC,Tryz.f7,Ja6]
 go_wp2_with (go_at_call 10;refine hcf.mono ?_;rintro e w1 ⟨rfl,rfl⟩)
 obtain ⟨W1,hW1⟩:∃ W1,w.alloc (.cells #[.int .i64 3,.int .i64 (4+Ju c 1048576 % 3),.int .i64 (1+Ju c 1048576 / 3 % 8),.slice (some ⟨w.heap.size+1,0,none⟩) 4 4,.int .i64 c] 35)=W1:=⟨_,rfl⟩;have z1:W1.heap.size=w.heap.size+1:=by rw [<- hW1,size_alloc]
 obtain ⟨W2,hW2⟩:∃ W2,W1.alloc (.cells #[.int .i64 (-5),.int .i64 0,.int .i64 10,.int .i64 1000] 3)=W2:=⟨_,rfl⟩;have z2:W2.heap.size=w.heap.size+2:=by rw [<- hW2,size_alloc,z1]
 have hr:=Ja (w:=W1) (.cells #[.int .i64 (-5),.int .i64 0,.int .i64 10,.int .i64 1000] 3);rw [hW2,z1] at hr;simp only [hW1,hW2];refine ⟨⟨(0,0),by have:=Ja (w:=W2) (.cells (J17 (Jcl c (w.heap.size+1)) 3 c) 35);rw [z2] at this;exact this,fun _=>rfl⟩,⟨#[.int .i64 (-5),.int .i64 0,.int .i64 10,.int .i64 1000],⟨(0,0),(J7 _ (by omega)).trans hr,fun _=>rfl⟩,rfl,by decide,fun i hi=>?_,fun v hv=>?_⟩,?_⟩
 ·match i,(show i<4 from hi) with
  | 0,_|1,_|2,_|3,_=>rfl
 ·simp only [Jb8,Jc2,or_false] at hv;rcases hv with rfl|rfl|rfl|rfl<;>exact ⟨_,_,rfl⟩
 ·rw [<- hW2,<- hW1];exact ((Tch.refl.alloc (Ja2 _) _).alloc (by rw [size_alloc];omega) _).alloc (by rw [size_alloc,size_alloc];omega) _
theorem Jtc (hc:I64 c) (hsz:T.size=70) (h0:T[0]?=some (.int .i64 c)) (h1:T[1]?=some sl) (h5:T[5]?=some (pt cb)) :
  Jns.wp Tryz.prog (fun e a w'=>e=.normal/\a.defers=[d]/\a.tmps.size=70/\a.tmps[0]?=some (.int .i64 c)/\a.tmps[1]?=some sl/\a.tmps[5]?=some (pt cb)/\a.tmps[6]?=some (.int .i64 (Ju c 3))/\w'.heap=w.heap) ⟨T,[d]⟩ w:=by
 obtain ⟨f,rfl⟩:=J5v hsz;have e0:f 0=_:=Ja0 h0;have e1:f 1=_:=Ja0 h1;have e5:f 5=_:=Ja0 h5;rw [e0,e1,e5];have hk:=Jnp hc w;simp only [Jns,b7,fC,sC,Tryz.f7,Ja6]
 go_wp2_with (go_at_call 16;refine hk.mono ?_;rintro e w1 ⟨rfl,rfl⟩)
theorem Jtd {fr:Bool} {cf:J8} {bb capb:Nat} {bs:List Int} {seed k:Int} (hk:0<=k/\k<3) (hc:Jw cf) (hr:Row fr w bb 3 .i64 bs capb) (hba:cf.ba=some ⟨bb,0,none⟩) (hnb:cf.nb=bs.length) (hp:bs.Pairwise (· < ·)) (hb:Blk false w cb (J17 cf 3 seed) 35) (hsz:T.size=70) (h0:T[0]?=some (.int .i64 c)) (h1:T[1]?=some sl) (h5:T[5]?=some (pt cb)) (h6:T[6]?=some (.int .i64 k)) :
  Jnt.wp Tryz.prog (fun e a w'=>e=.normal/\a.defers=[d]/\a.tmps.size=70/\a.tmps[1]?=some sl/\∃ x,a.tmps[7]?=some (pt x)/\a.tmps[8]?=some .nilIface/\Jzb w cf seed bs (.returned (.tuple #[pt x,.nilIface])) w') ⟨T,[d]⟩ w:=by
 obtain ⟨f,rfl⟩:=J5v hsz;have e0:f 0=_:=Ja0 h0;have e1:f 1=_:=Ja0 h1;have e5:f 5=_:=Ja0 h5;have e6:f 6=_:=Ja0 h6;rw [e0,e1,e5,e6];have hn:=Jt9 (seed:=seed) hc hr hba hnb hp k c hk;obtain ⟨q0,q1,q2,q3,q4⟩:=Blk.five hb;unfold J17 at hn;clear hba hnb hr hp hc hb;simp only [Jnt,b7,fC,sC,Tryz.f7,Ja6]
 go_wp2_with (go_at_call 12;refine hn.mono ?_;rintro e w1 hN;have hN':=hN;obtain ⟨h,hs,⟨⟨x,vm,base,b2,c2,rfl,_⟩,_⟩,_⟩:=hN)
theorem Jte (hsz:T.size=70) (h1:T[1]?=some sl) (h7:T[7]?=some (pt x)) (h8:T[8]?=some .nilIface) :
  Jnu.wp Tryz.prog (fun e a w'=>e=.normal/\a.defers=[d]/\a.tmps.size=70/\a.tmps[1]?=some sl/\a.tmps[7]?=some (pt x)/\w'.heap=w.heap) ⟨T,[d]⟩ w:=by
 obtain ⟨f,rfl⟩:=J5v hsz;have e1:f 1=_:=Ja0 h1;have e7:f 7=_:=Ja0 h7;have e8:f 8=_:=Ja0 h8;rw [e1,e7,e8];simp only [Jnu,b7,fC,sC,Tryz.f7,Ja6];go_wp2
theorem Jtf {fs:List Jg} {R:World->Prop} (hI:Calls Tryz.prog 13 #[pt x,.slice ga fs.length c2] w fun e w'=>e=.returned .nilIface/\R w') (hsz:T.size=70) (h1:T[1]?=some (.slice ga fs.length c2)) (h7:T[7]?=some (pt x)) :
  Jnv.wp Tryz.prog (fun e a w'=>e=.normal/\a.defers=[d]/\a.tmps.size=70/\a.tmps[1]?=some (.slice ga fs.length c2)/\a.tmps[7]?=some (pt x)/\a.tmps[8]?=some .nilIface/\R w') ⟨T,[d]⟩ w:=by
 obtain ⟨f,rfl⟩:=J5v hsz;have e1:f 1=_:=Ja0 h1;have e7:f 7=_:=Ja0 h7;rw [e1,e7];simp only [Jnv,b7,fC,sC,Tryz.f7,Ja6]
 go_wp2_with (go_at_call 13;refine hI.mono ?_;rintro e w1 ⟨rfl,hR⟩)
 exact hR
theorem Jtg (hsz:T.size=70) (h1:T[1]?=some sl) (h7:T[7]?=some (pt x)) (h8:T[8]?=some .nilIface) :
  Jnw.wp Tryz.prog (fun e a w'=>e=.normal/\a.defers=[d]/\a.tmps.size=70/\a.tmps[1]?=some sl/\a.tmps[7]?=some (pt x)/\w'.heap=w.heap) ⟨T,[d]⟩ w:=by
 obtain ⟨f,rfl⟩:=J5v hsz;have e1:f 1=_:=Ja0 h1;have e7:f 7=_:=Ja0 h7;have e8:f 8=_:=Ja0 h8;rw [e1,e7,e8];simp only [Jnw,b7,fC,sC,Tryz.f7,Ja6];go_wp2
end
section
variable {w:World} {T:Array Value} {d:Deferred} {ga:Option Addr} {n c2 x g vc:Nat} {va:Option Addr} {sl v:Value}
theorem Jqq (hsz:T.size=70) (h1:T[1]?=some (.slice ga 0 c2)) (h7:T[7]?=some (pt x)) (h9:T[9]?=some (.slice va 0 vc)) (h10:T[10]?=some .nilIface) :
  J7e.wp Tryz.prog (fun e a w'=>e=.ret/\a.defers=[d]/\a.tmps.size=70/\a.tmps[4]?=some (pt x)/\w'.heap=w.heap) ⟨T,[d]⟩ w:=by
 obtain ⟨f,rfl⟩:=J5v hsz;have e1:f 1=_:=Ja0 h1;have e7:f 7=_:=Ja0 h7;have e9:f 9=_:=Ja0 h9;have e10:f 10=_:=Ja0 h10;rw [e1,e7,e9,e10];simp only [J7e,b7,sC,Tryz.f7,Ja6];go_wp2
theorem Jth (hn:0<n) (hc:w.cell? ⟨g,1,none⟩=some (.int .i64 n)) (hsz:T.size=70) (h1:T[1]?=some (.slice ga n c2)) (h7:T[7]?=some (pt x)) (h9:T[9]?=some (.slice (some ⟨g,0,none⟩) 1 vc)) (h10:T[10]?=some .nilIface) :
  J7e.wp Tryz.prog (fun e a w'=>e=.ret/\a.defers=[d]/\a.tmps.size=70/\a.tmps[4]?=some (pt x)/\w'.heap=w.heap) ⟨T,[d]⟩ w:=by
 obtain ⟨f,rfl⟩:=J5v hsz;have e1:f 1=_:=Ja0 h1;have e7:f 7=_:=Ja0 h7;have e9:f 9=_:=Ja0 h9;have e10:f 10=_:=Ja0 h10;rw [e1,e7,e9,e10];have hn1:(0:Int)<n:=by omega
 have hn2:¬ (n:Int)=0:=by omega
 simp only [J7e,b7,sC,Tryz.f7,Ja6];go_wp2
theorem Jwk {K:Exit->Act->World->Prop} (hsz:T.size=70) (h1:T[1]?=some sl) (h7:T[7]?=some (pt x)) (h35:T[35]?=some (.tuple #[v,.nilIface])) (hv:∃ a l c,v=.slice a l c)
  (hK:∀ a,a.defers=[d]->a.tmps.size=70->a.tmps[1]?=some sl->a.tmps[7]?=some (pt x)->a.tmps[9]?=some v->a.tmps[10]?=some .nilIface->K .normal a w) :
  wpOps Tryz.prog ops7 K [2,3,4,5,6] ⟨T,[d]⟩ w:=by
 obtain ⟨f,rfl⟩:=J5v hsz;have e1:f 1=_:=Ja0 h1;have e7:f 7=_:=Ja0 h7;have e35:f 35=_:=Ja0 h35;rw [e1,e7,e35];obtain ⟨va,vl,vc,rfl⟩:=hv;have h2:ops7[2]?=((ops7.toList.drop 2).take 5)[0]?:=by kernel_rfl
 have h3:ops7[3]?=((ops7.toList.drop 2).take 5)[1]?:=by kernel_rfl
 have h4:ops7[4]?=((ops7.toList.drop 2).take 5)[2]?:=by kernel_rfl
 have h5:ops7[5]?=((ops7.toList.drop 2).take 5)[3]?:=by kernel_rfl
 have h6:ops7[6]?=((ops7.toList.drop 2).take 5)[4]?:=by kernel_rfl
 have hop:∀ j,j<((ops7.toList.drop 2).take 5).length->ops7[2+j]?=((ops7.toList.drop 2).take 5)[j]?:=fun j hj=>by
  have:j<5:=Jb7 hj (by rw [List.length_take];omega);obtain rfl|rfl|rfl|rfl|rfl:j=0\/j=1\/j=2\/j=3\/j=4:=by omega
  ·exact h2
  ·exact h3
  ·exact h4
  ·exact h5
  ·exact h6
 have e:=J6a (P:=Tryz.prog) (ops:=ops7) (Q:=K) ((ops7.toList.drop 2).take 5) 2 hop;clear hop h2 h3 h4 h5 h6;rw [show List.range' 2 ((ops7.toList.drop 2).take 5).length=[2,3,4,5,6] from by kernel_rfl] at e;rw [e];simp only [ops7,opsOf,b7,fC,sC,Tryz.f7,Ja6,List.take,List.drop];go_wp2;exact hK _ rfl rfl rfl rfl rfl rfl
end
theorem J04d:Jj C0 S0 7 Jnq=true:=by kernel_rfl
theorem J04e:Jj C0 S0 7 Jnr=true:=by kernel_rfl
theorem J04f:Jj C0 S0 7 Jns=true:=by kernel_rfl
theorem J04g:Jj C0 S0 7 Jnt=true:=by kernel_rfl
theorem J04h:Jj C0 S0 7 Jnu=true:=by kernel_rfl
theorem J04i:Jj C0 S0 7 Jnv=true:=by kernel_rfl
theorem J04j:Jj C0 S0 7 Jnw=true:=by kernel_rfl
theorem J04k:Jj C0 S0 7 J7e=true:=by kernel_rfl
theorem J04l:J2u C0 S0 7 ops7 [2,3,4,5,6]=true:=by kernel_rfl
theorem Jap:J0k C0 7:=⟨Tryz.f7,by kernel_rfl,by kernel_rfl,by kernel_rfl⟩
theorem df7:S0.df.contains 7=false:=rfl
theorem J65:C0.hl 7≠[]:=by show [1000]≠[];simp
theorem hl7 {i:Nat} (h:(C0.hl 7).contains i=true):i∈([]:List Nat)\/500<=i:=by have h':i∈[1000]:=Jd3.1 h;simp at h';omega
theorem Jnx {i:Nat} (h:i<500):(C0.hl 7).contains i=false:=by
 cases e:(C0.hl 7).contains i with
 | false=>rfl
 | true=>
  rcases hl7 e with h1|h1
  ·cases h1
  ·omega
theorem J04m:∃ o,ops7[0]?=some o/\o.op=.move (.tmp 7)/\o.guard=none/\o.dst=some 34:=by simp only [ops7,opsOf,b7,fC,sC,Tryz.f7,Ja6];exact ⟨_,rfl,rfl,rfl,rfl⟩
theorem J04n:∃ o,ops7[1]?=some o/\o.op=.call { callee:=.value (.func 9),args:=#[.tmp 34,.const (.int .i64 0),.const (.slice none 0 0),.const (.int .i64 10)],argTypes:=#[25,3,55,3] }/\o.guard=none/\o.dst=some 35:=by simp only [ops7,opsOf,b7,fC,sC,Tryz.f7,Ja6];exact ⟨_,rfl,rfl,rfl,rfl⟩
section
variable {W E:Nat->Prop} {w:World} {fn:FuncId} {c rest:Code} {t:Array Value} {k:List Item} {cs:List Frame} {Q:Array Value->World->Prop} {Post:(Nat->Prop)->Goroutine->World->Prop}
theorem J22 (Sl:List Nat) (hl:∀ i,(C0.hl fn).contains i=true->i∈Sl\/500<=i) (hne:C0.hl fn≠[]) (hok:Jj C0 S0 fn c=true) (hb:J0k C0 fn) (hdf:S0.df.contains fn=false) (hB:BOk C0 S0 W E w) (ht:TmR C0 S0 fn (idE E) t t) (hsz:t.size<=500)
  (K:∀ τ,c.wp Tryz.prog (fun e a w1=>e=.normal/\a.tmps.size<=500/\(∀ i∈Sl,a.tmps[i]?=t[i]?)/\Q a.tmps w1) ⟨t,[Jp]⟩ (w.tp τ 0))
  (kn:∀ E' t' w1 w',(∀ b,E b->E' b)->BOk C0 S0 W E' w'->WR C0 (okP C0 S0) (idE E') w1 w'->TmR C0 S0 fn (idE E') t' t'->Q t' w1->(∀ b,W b->w'.heap[b]?=w.heap[b]?)->Reach Tryz.prog Post W (G ((Go.Conc.base fn).at ⟨t',[]⟩ (.code rest::k)) cs) w') :
  Reach Tryz.prog Post W (G ((Go.Conc.base fn).at ⟨t,[]⟩ (.code (.seq c rest)::k)) cs) w:=by
 refine Reach.mid (Mid:=fun g' w'=>∃ E' t' w1,g'=G ((Go.Conc.base fn).at ⟨t',[]⟩ (.code rest::k)) cs/\(∀ b,E b->E' b)/\BOk C0 S0 W E' w'/\WR C0 (okP C0 S0) (idE E') w1 w'/\TmR C0 S0 fn (idE E') t' t'/\Q t' w1) ?_ fun g' w' ⟨E',t',w1,e,h1,h2,h3,h4,h5⟩ hK=>?_
 ·refine J6 (fun w1=>stepG_seq) rfl fun d=>?_;refine Reach.piece (b:=Go.Conc.base fn) (k:=.code rest::k) J1u rfl hok hb hdf hne (by simp [Go.Conc.base]) (hB.at d) ht (Q:=fun e t w1=>e=.normal/\Q t w1) (fun τ=>?_) (fun E1 t1 w1 w1' hs1 hB1 hW1 ht1 hq1=>Reach.here ⟨rfl,E1,t1,w1,rfl,hs1,hB1,hW1,ht1,hq1.2⟩) (fun E1 t1 w1 w1' todo hs1 hB1 hW1 ht1 hq1=>by cases hq1.1);refine wp_mono (K τ) fun e a w1 ⟨h1,h2,h0,h3⟩=>⟨.inl h1,fun i hi=>?_,h1,h3⟩;rcases hl i hi with h|h
  ·exact h0 i h
  ·rw [Jb0 (by omega),Jb0 (by omega)]
 ·subst e;exact kn E' t' w1 w' h1 h2 h3 h4 h5 hK
end
theorem Jzc {E:Nat->Prop} {h:Value} {b:Nat} (hv:VR C0 (idE E) h h) (hb:Jao h=some b):E b:=by
 cases h with
 | func fn a cap=>
  cases hv with
  | func hf ha hx hc hy=>
   simp only [Jao] at hb;split at hb
   ·rename_i p hp;cases hb;exact (hy 0 _ _ hp hp).J57
   ·cases hb
 | _=>cases hb
theorem J1r.ke {E:Nat->Prop} {w w':World} {h:Value} {hs:Int->Int} (q:J1r w h hs) (k:KE E w w') (hE:∀ b,Jao h=some b->E b):J1r w' h hs:=q.kept fun b s hb hc=>k b _ (hE b hb) hc trivial
section
variable {W E:Nat->Prop} {w:World} {c:Int} {ga:Option Addr} {fs:List Jg} {c2f:Nat} {pl:List Nat} {b₀:Frame} {a₀:Act} {ops:Array Oper} {i:Nat} {rest:List Nat} {kk:List Item} {cs:List Frame} {Post:(Nat->Prop)->Goroutine->World->Prop}
theorem Jko {T0:Array Value} (hB:BOk C0 S0 W E w) (hok:HOk w) (hc:I64 c) (fa:J3a false w ga fs c2f pl) (hfo:∀ f∈fs,J49 f/\Js f.k∈U64) (hfl:fs.length<=200) (hsz:T0.size=70) (h0:T0[0]?=some (.int .i64 c)) (h1:T0[1]?=some (.slice ga fs.length c2f)) (ht0:TmR C0 S0 7 (idE E) T0 T0)
  (kn:∀ W' E' w' x c' h hs nf vm base S,(∀ b,E b->E' b)->BOk C0 S0 W' E' w'->KE E w w'->J2q E' w' x c' c h nf vm base S->J5p c' hs fs S->(c'.bits=4+Ju c 1048576 % 3/\c'.nb=4)->(∀ y,0<=hs y/\hs y<=18446744073709551615)->HOk w'->E' x ->
   Reach Tryz.prog Post W' (G (b₀.at (a₀.put ((ops[i]?).bind (·.dst)) (pt x)) (.inRegion ops rest::kk)) cs) w') :
  Reach Tryz.prog Post W (G ((Go.Conc.base 7).at ⟨T0,[]⟩ [.code b7]) (b₀.at a₀ (.inRegion ops (i::rest)::kk)::cs)) w:=by
 have hg0:Tryz.prog.globals.size<w.heap.size:=hB.lt hB.hnd;have eg:∀ a,ga=some a->E a.block:=fun a e=>by rw [e] at h1;exact (ht0.slot (i:=1) (Jnx (by omega)) h1).J1i
 rw [J04c];have hSl:∀ {a:Act} {t:Array Value},∀ i∈([]:List Nat),a.tmps[i]?=t[i]?:=fun i h=>by cases h
 refine J22 [] (fun _=>hl7) J65 J04d Jap df7 hB ht0 (by omega) (Q:=fun t w1=>t.size=70/\t[0]?=some (.int .i64 c)/\t[1]?=some (.slice ga fs.length c2f)/\w1.heap=w.heap) (fun τ=>wp_mono (Jta (w:=w.tp τ 0) hsz h0 h1) fun e a w1 ⟨q1,q2,q3,q4,q5,q6⟩=>⟨q1,by omega,hSl,q3,q4,q5,q6⟩) fun E0 T1 w1 w0 le0 hB0 hW0 ht1 ⟨z1,z2,z3,z4⟩ _=>?_;have k0:KE E w w0:=(KE.of_eq fun b _=>by rw [z4]).trans ((Jy rfl hW0).mono le0);have hok0:=hok.ke k0 hB.hnd;have hg1:Tryz.prog.globals.size<w0.heap.size:=hB0.lt hB0.hnd;clear z4;refine J22 [] (fun _=>hl7) J65 J04e Jap df7 hB0 ht1 (by omega) (Q:=fun t w1=>t.size=70/\t[0]?=some (.int .i64 c)/\t[1]?=some (.slice ga fs.length c2f)/\t[5]?=some (pt (w0.heap.size+2))/\Blk false w1 (w0.heap.size+2) (J17 (Jcl c (w0.heap.size+1)) 3 c) 35/\Row false w1 (w0.heap.size+1) 3 .i64 J06 4/\(w0.heap.size<=w1.heap.size/\∀ b,b<w0.heap.size->w1.heap[b]?=w0.heap[b]?)) (fun τ=>wp_mono (Jtb (w:=w0.tp τ 0) hc z1 z2 z3) fun e a w1 ⟨q1,q2,q3,q4,q5,q6,q7,q8,q9⟩=>⟨q1,by omega,hSl,q3,q4,q5,q6,q7,q8,q9.size,fun b hb=>q9.heap b hb fun h=>h⟩) fun E1 T2 wb w1 le1 hB1 hW1 ht2 ⟨y1,y0,y2,y3,y4,y5,y6⟩ _=>?_;generalize hn1:w0.heap.size=n1 at *;have l1:=Jy rfl hW1;have k1:KE E0 w0 w1:=(KE.of_eq fun b hb=>y6.2 b (hn1▸hB0.lt hb)).trans (l1.mono le1);have eb:E1 (n1+2):=(ht2.slot (i:=5) (Jnx (by omega)) y3).J57;have er:E1 (n1+1):=(hW1.J56 eb ((y4.cell 3).trans rfl:wb.cell? ⟨n1+2,3,none⟩=some (.slice (some ⟨n1+1,0,none⟩) 4 4))).J1i;have b1:=l1.blk eb y4;have r1:=y5.keE l1 er;have hok1:=hok0.ke k1 hB0.hnd;clear y4 y5 y6;refine J22 [] (fun _=>hl7) J65 J04f Jap df7 hB1 ht2 (by omega) (Q:=fun t w2=>t.size=70/\t[0]?=some (.int .i64 c)/\t[1]?=some (.slice ga fs.length c2f)/\t[5]?=some (pt (n1+2))/\t[6]?=some (.int .i64 (Ju c 3))/\w2.heap=w1.heap) (fun τ=>wp_mono (Jtc (w:=w1.tp τ 0) hc y1 y0 y2 y3) fun e a w2 ⟨q1,q2,q3,q4,q5,q6,q7,q8⟩=>⟨q1,by omega,hSl,q3,q4,q5,q6,q7,q8⟩) fun E1' T2' wb' w1' Jcn J6b hW1' ht2' ⟨v1,v0,v2,v3,v4,v5⟩ _=>?_;have k1':KE E1 w1 w1':=(KE.of_eq fun b _=>by rw [v5]).trans ((Jy rfl hW1').mono Jcn);have b1':=k1'.blk eb b1;have r1':=r1.keE k1' er;have Jny:=hok1.ke k1' hB1.hnd;have hg2:Tryz.prog.globals.size<w1'.heap.size:=J6b.lt J6b.hnd;clear v5 b1 r1 hok1;have hk3:=J5h (c:=c) (n:=3) (by omega);refine J22 [] (fun _=>hl7) J65 J04g Jap df7 J6b ht2' (by omega) (Q:=fun t w2=>t.size=70/\t[1]?=some (.slice ga fs.length c2f)/\∃ x h hs vm base b2 c2,t[7]?=some (pt x)/\t[8]?=some .nilIface/\(w1'.heap.size<=x/\w1'.heap.size<=vm/\w1'.heap.size<=base/\w1'.heap.size<=b2)/\J08 w2 x { Jcl c (n1+1) with ba:=some ⟨b2,0,none⟩,cb:=c2 } c h 0 vm base/\w2.heap[base]?=some (.map #[] 0)/\Row false w2 b2 3 .i64 J06 c2/\(x≠vm/\x≠base/\x≠b2/\vm≠base/\vm≠b2/\base≠b2)/\(w1'.heap.size<=w2.heap.size/\∀ b,b<w1'.heap.size->w2.heap[b]?=w1'.heap[b]?)/\J1r w2 h hs/\(∀ b,Jao h=some b->b≠x/\b≠base)) (fun τ=>wp_mono (Jtd (w:=w1'.tp τ 0) hk3 (J6t c _) (Row.kept (w:=w1') r1' rfl) rfl rfl J74 (Blk.kept (w:=w1') b1' rfl) v1 v0 v2 v3 v4) fun e a w2 ⟨q1,q2,q3,q4,x,q6,q7,h,hs,q8,q9,q10⟩=>by
  obtain ⟨x',vm,base,b2,c2,e1,p1,p2,p3,p4,p5⟩:=q8.ex;obtain rfl:x=x':=by simpa using e1
  refine ⟨q1,by omega,hSl,q3,q4,x,h,hs,vm,base,b2,c2,q6,q7,p1,p2,p3,p4,p5,⟨q8.tch.size,fun b hb=>q8.tch.heap b hb fun h=>h⟩,q9,fun b hb=>?_⟩;obtain ⟨s,hbs⟩:∃ s,w2.heap[b]?=some (.cells #[.int .i64 s] 3):=by
   cases q9 with
   | one=>cases hb
   | two h=>cases hb;exact ⟨_,h⟩
   | mix h=>cases hb;exact ⟨_,h⟩
  refine ⟨fun e=>?_,fun e=>?_⟩
  ·obtain ⟨z,hz,_⟩:=p2.blk;rw [e,hz] at hbs;cases hbs
  ·rw [e,p3] at hbs;cases hbs) fun E2 T3 wb2 w2 le2 hB2 hW2 ht3 ⟨x1,x2,x,h,hs,vm,base,b2,c2,x4,x5,⟨g1,g2,g3,g4⟩,cu,em,rw2,⟨d1,d2,d3,d4,d5,d6⟩,⟨kz,kk'⟩,hh,hhn⟩ _=>?_
 have l2:=Jy rfl hW2;have k2:KE E1' w1' w2:=(KE.of_eq fun b hb=>kk' b (J6b.lt hb)).trans (l2.mono le2);have ex:E2 x:=(ht3.slot (i:=7) (Jnx (by omega)) x4).J57;obtain ⟨c',hc'⟩:∃ c',c'={ Jcl c (n1+1) with ba:=some ⟨b2,0,none⟩,cb:=c2 }:=⟨_,rfl⟩;have ba':c'.ba=some ⟨b2,0,none⟩:=by rw [hc']
 have nb':c'.nb=4:=by rw [hc'];rfl
 have cb':c'.bits=4+Ju c 1048576 % 3:=by rw [hc'];rfl
 have cok:Jw c':=by rw [hc'];exact ⟨(J6t c 0).b1,(J6t c 0).b2,(J6t c 0).k1,(J6t c 0).k2,(J6t c 0).nb⟩
 rw [<- hc'] at cu;have okb:HOk wb2:=Jny.ke (KE.of_eq fun b hb=>kk' b (J6b.lt hb)) J6b.hnd;have Jqr:∃ arr t,Blk false wb2 b2 arr t/\Plain arr:=by obtain ⟨cur,p1,_,_,_,p2⟩:=rw2;exact ⟨cur,_,p1,p2⟩
 have q2:J2q E2 w2 x c' c h 0 vm base []:=by
  refine J2q.J3z hW2 cu (TabAt.of_empty em) okb hB2.hnd ex (fun y hy=>?_) (fun a ha=>?_) cok (by simp)
  ·rcases hy with rfl|hy
   ·omega
   ·simp [tpl] at hy
  ·rw [ba'] at ha;cases ha;exact ⟨by show _<=b2;omega,Jqr⟩
 have Jti:∀ b,Jao h=some b->E2 b:=fun b hb=>Jzc (hW2.J56 ex cu.cells.2.2.2.2.2.1) hb;have hh2:J1r w2 h hs:=hh.ke l2 Jti;have eb2:E2 b2:=(q2.bE _ ba').1;have r2:=rw2.keE l2 eb2;have hok2:=Jny.ke k2 J6b.hnd;clear kz kk' cu okb Jqr rw2 em b1' r1' Jny hh;refine J22 [] (fun _=>hl7) J65 J04h Jap df7 hB2 ht3 (by omega) (Q:=fun t w3=>t.size=70/\t[1]?=some (.slice ga fs.length c2f)/\t[7]?=some (pt x)/\w3.heap=w2.heap) (fun τ=>wp_mono (Jte (w:=w2.tp τ 0) x1 x2 x4 x5) fun e a w1 ⟨q1,q2,q3,q4,q5,q6⟩=>⟨q1,by omega,hSl,q3,q4,q5,q6⟩) fun E4 T5 wb3 w4 le3 hB4 hW3 ht5 ⟨u1,u2,u3,v5⟩ _=>?_;have k3:KE E2 w2 w4:=(KE.of_eq fun b _=>by rw [v5]).trans ((Jy rfl hW3).mono le3);have q4:=q2.ke k3 hB2.hnd le3;have r4:=r2.keE k3 eb2;have Jnz:=hok2.ke k3 hB2.hnd;have hh4:=hh2.ke k3 Jti;have hbE4:∀ b,Jao h=some b->E4 b:=fun b hb=>le3 _ (Jti b hb);have Jjv:∀ b,E b->E4 b:=fun b hb=>le3 b (le2 b (Jcn b (le1 b (le0 b hb))));have kE4:KE E w w4:=k0.trans ((k1.mono le0).trans ((k1'.mono fun b hb=>le1 b (le0 b hb)).trans ((k2.mono fun b hb=>Jcn b (le1 b (le0 b hb))).trans (k3.mono fun b hb=>le2 b (Jcn b (le1 b (le0 b hb)))))));have lt4:∀ b,E4 b->b<w4.heap.size:=fun b hb=>hB4.lt hb;have hg4:Tryz.prog.globals.size<w4.heap.size:=hB4.lt hB4.hnd;have ex4:=lt4 _ q4.xE.1;have ev4:=lt4 _ q4.xE.2;have es4:=lt4 _ (q4.tE _ (.inl rfl)).1;have e24:=lt4 _ (q4.bE _ ba').1;obtain ⟨pl4,hp4,fa4⟩:=J3a.ke hB.wr eg kE4 fa;have plt:∀ y∈pl4,y<w1'.heap.size:=fun y hy=>J6b.lt (Jcn _ (le1 _ (le0 _ (hp4 y hy).2.1)));clear v5 r2 hok2 q2 hh2;have ing:∀ τ,Juf (w4.tp τ 0) x c' c h 0 vm base [] ga fs c2f pl4 hs J06 U64:=fun τ=>{
  q:=q4.cube.kept rfl rfl
  tab:=q4.tab.kept fun _ _=>rfl
  fsa:=fa4.kept fun _ _=>rfl
  okf:=fun g hg=>(hfo g hg).1
  bnd:=.inr ⟨b2,c2,ba',Row.kept r4 rfl⟩
  bsl:=by rw [nb'];rfl
  so:=J74
  cfg:=cok
  hsr:=hh4.bd
  one:=fun w1 t item at_=>J1r.calls (hh4.kept fun b s hb hc=>(t.heap b (lt4 b (hbE4 b hb)) fun h=>h).trans hc) ((q4.cube.kept (w':=w4.tp τ 0) rfl rfl).kept (t.heap x q4.cube.blk.lt fun h=>h) (t.heap vm q4.cube.vs.lt fun h=>h)) item at_
  dF:=fun y hy=>by have:=plt y hy;exact ⟨by omega,by simp [tpl],by omega⟩
  dX:=⟨d2,by simp [tpl]⟩
  dV:=⟨d4,by simp [tpl],Ne.symm d1⟩
  dB:=fun a ha=>by rw [ba'] at ha;cases ha;exact ⟨Ne.symm d6,by simp [tpl],e24,Ne.symm d3⟩
  n1:=by omega
  nf0:=by omega
  nf1:=by omega
  hU:=fun g hg=>(hfo g hg).2
  hTU:=fun t ht=>by cases ht
  hUn:=by rw [Jwe];omega }
 refine J22 [] (fun _=>hl7) J65 J04i Jap df7 hB4 ht5 (by omega) (Q:=fun t w5=>t.size=70/\t[1]?=some (.slice ga fs.length c2f)/\t[7]?=some (pt x)/\t[8]?=some .nilIface/\J08 w5 x c' c h (0+fs.length) vm base/\(∃ T',TabAt false w5 c' base T'/\(∀ key,tm T' key=J2y c' J06 hs 7 (tm []) fs key)/\∀ y,y=base\/y∈tpl T'->y=base\/w4.heap.size<=y)/\(∀ b,b<w4.heap.size->b≠x->b≠base->w5.heap[b]?=w4.heap[b]?)) (fun τ=>wp_mono (Jtf (w:=w4.tp τ 0) (Jq3 (ing τ)) u1 u2 u3) fun e a w5 ⟨p1,p2,p3,p4,p5,p6,p8⟩=>⟨p1,by omega,hSl,p3,p4,p5,p6,p8.q,by
  obtain ⟨T',t1,t2,t3⟩:=p8.tab;exact ⟨T',t1,t2,fun y hy=>(t3 y hy).imp (fun h=>h.resolve_right (by simp [tpl])) id⟩,fun b hb h1 h2=>p8.tch.heap b hb fun h=>by
  rcases h with h|h|h
  ·exact h1 h
  ·exact h2 h
  ·simp [tpl] at h⟩) fun E5 T6 wb5 w5 le5 hB5 hW5 ht6 ⟨s1,s2,s3,s4,cu,⟨T',Jzd,hT',hpl⟩,kk5⟩ _=>?_
 have l5:=Jy rfl hW5;have k5:KE (fun b=>E4 b/\b≠x/\b≠base) w4 w5:=(KE.of_eq fun b hb=>kk5 b (hB4.lt hb.1) hb.2.1 hb.2.2).trans (l5.mono fun b hb=>le5 b hb.1);have ex5:E5 x:=(ht6.slot (i:=7) (Jnx (by omega)) s3).J57;have J27:J5p c' hs fs T':=by refine ⟨Jzd.nodup,fun k=>?_,fun f hf=>(hfo f hf).1.n,hfl⟩;have:=Jqi (c:=c') (bs:=J06) (hs:=hs) (fs:=fs) (g0:=[]) 7 (g:=tm []) (fun k=>rfl) k;rw [Jc8] at this;exact (hT' k).trans this
 have hgx:Tryz.prog.globals.size≠x/\Tryz.prog.globals.size≠base:=by omega
 have okb:HOk wb5:=Jnz.ke (E:=fun b=>b=Tryz.prog.globals.size) (KE.of_eq fun b hb=>by subst hb;exact kk5 _ (hB4.lt hB4.hnd) hgx.1 hgx.2) rfl;have q5:J2q E5 w5 x c' c h (0+fs.length) vm base T':=by
  refine J2q.J3z hW5 cu Jzd okb hB5.hnd ex5 (fun y hy=>?_) (fun a ha=>?_) cok (by have:=J27.len;omega)
  ·rcases hpl y hy with rfl|h
   ·omega
   ·omega
  ·rw [ba'] at ha;cases ha;obtain ⟨cur,p1,p2,p3,p4,p5⟩:=r4;refine ⟨by show _<=b2;omega,cur,_,p1.kept (kk5 b2 e24 (Ne.symm d3) (Ne.symm d6)),p5⟩
 have kE5:KE E w w5:=kE4.trans (k5.mono fun b hb=>⟨Jjv b hb,by have:=J6b.lt (Jcn b (le1 b (le0 b hb)));omega,by have:=J6b.lt (Jcn b (le1 b (le0 b hb)));omega⟩);have Jtj:∀ b,E b->E5 b:=fun b hb=>le5 b (Jjv b hb);refine J22 [] (fun _=>hl7) J65 J04j Jap df7 hB5 ht6 (by omega) (Q:=fun t w6=>t.size=70/\t[1]?=some (.slice ga fs.length c2f)/\t[7]?=some (pt x)/\w6.heap=w5.heap) (fun τ=>wp_mono (Jtg (w:=w5.tp τ 0) s1 s2 s3 s4) fun e a w1 ⟨q1,q2,q3,q4,q5,q6⟩=>⟨q1,by omega,hSl,q3,q4,q5,q6⟩) fun E6 T7 wb6 w6 le6 hB6 hW6 ht7 ⟨j1,j2,j3,v6⟩ _=>?_;have k6:KE E5 w5 w6:=(KE.of_eq fun b _=>by rw [v6]).trans ((Jy rfl hW6).mono le6);have q6:=q5.ke k6 hB5.hnd le6;have ok6:HOk w6:=q6.hok;have kE6:KE E w w6:=kE5.trans (k6.mono Jtj);have ex6:E6 x:=le6 _ ex5;clear v6;obtain ⟨o0,h40,p40,g40,q40⟩:=J04m;obtain ⟨o1,h41,p41,g41,q41⟩:=J04n;refine J6 (fun w1=>stepG_seq) rfl fun e1=>?_;refine J6 (fun w1=>stepG_region) rfl fun e2=>?_;rw [show List.range ops7.size=[0,1,2,3,4,5,6] from by kernel_rfl];refine J6 (fun w1=>J0d (v:=pt x) h40 (by simp [Region.wanted,g40]) (by simp [Go.Conc.base]) (by simp [execOp,p40,Act.eval,Ja5,j3]) (by simp [execOp,p40,Act.eval])) rfl fun e3=>?_;rw [q40];have hB7:=((hB6.at e1).at e2).at e3;generalize hw7:((w6.at e1).at e2).at e3=w7 at hB7 ⊢;have hw7h:w7.heap=w6.heap:=by rw [<- hw7];rfl
 clear hw7;have k7:KE E6 w6 w7:=.of_eq fun b _=>by rw [hw7h]
 have vx:VR C0 (idE E6) (pt x) (pt x):=.ptr _ _ ⟨rfl,ex6⟩;have ht8:TmR C0 S0 7 (idE E6) (T7.setIfInBounds 34 (pt x)) (T7.setIfInBounds 34 (pt x)):=ht7.set 34 vx fun h=>by cases h
 refine Reach.call (B:=Go.Conc.base 7) (a:=⟨T7.setIfInBounds 34 (pt x),[]⟩) h41 (by simp [Region.wanted,g41]) (by simp [Go.Conc.base]) p41 (fn:=Tryz.f9) (c:=b9) (by kernel_rfl) (by kernel_rfl) body9 fun e4=>?_;have e9:(#[Operand.tmp 34,.const (.int .i64 0),.const (.slice none 0 0),.const (.int .i64 10)].map (Act.eval ⟨T7.setIfInBounds 34 (pt x),[]⟩))++Array.replicate (Tryz.f9.ntmps-(#[Operand.tmp 34,.const (.int .i64 0),.const (.slice none 0 0),.const (.int .i64 10)].map (Act.eval ⟨T7.setIfInBounds 34 (pt x),[]⟩)).size) undef=#[pt x,.int .i64 (0:Nat),.slice none 0 0,.int .i64 10,undef,undef,undef,undef,undef,undef,undef,undef,undef,undef,undef,undef,undef,undef,undef,undef,undef,undef,undef,undef,undef,undef,undef,undef,undef,undef,undef,undef,undef]:=by
  have hnt:Tryz.f9.ntmps=33:=by kernel_rfl
  have h1:(#[Operand.tmp 34,.const (.int .i64 0),.const (.slice none 0 0),.const (.int .i64 10)].map (Act.eval ⟨T7.setIfInBounds 34 (pt x),[]⟩))=#[pt x,.int .i64 (0:Nat),.slice none 0 0,.int .i64 10]:=by simp [Act.eval,Ja5,Jb9,j1]
  rw [hnt,h1];show _++Array.replicate 29 undef=_;rw [show Array.replicate 29 undef=#[undef,undef,undef,undef,undef,undef,undef,undef,undef,undef,undef,undef,undef,undef,undef,undef,undef,undef,undef,undef,undef,undef,undef,undef,undef,undef,undef,undef,undef] from by kernel_rfl];simp only [List.append_toArray,Jc7,Jc8]
 rw [e9];refine J7r (x:=x) (m:=0) (most:=10) (M:=200) (S:=T') (hB7.at e4) ((q6.ke k7 hB6.hnd fun _ h=>h).ke (w':=w7.at e4) (KE.of_eq fun _ _=>rfl) hB6.hnd fun _ h=>h) (by omega) (by omega) J27.hin (by have:=J27.len;omega) (by omega) (fun T hn hT=>by have:=(J5p.one (hs:=hs) J27.n3 hn (J27.sum cok nb' hh4.bd hT)).1;omega) fun W7 E7 w8 v T ks L qo=>?_;rw [h41];simp only [Option.bind_some,q41];have Jo0:=J27.sum cok nb' hh4.bd qo.sum;obtain ⟨one1,one2,one3⟩:=J5p.one (hs:=hs) J27.n3 qo.nd Jo0;have vt:VR C0 (idE E7) (.tuple #[v,.nilIface]) (.tuple #[v,.nilIface]):=.tuple rfl fun i x x' h1 h2=>by
  rw [h1] at h2;cases h2
  match i with
  | 0=>cases h1;exact qo.vE
  | 1=>cases h1;exact .nilIface
  | i+2=>simp at h1
 have ht9:TmR C0 S0 7 (idE E7) ((T7.setIfInBounds 34 (pt x)).setIfInBounds 35 (.tuple #[v,.nilIface])) ((T7.setIfInBounds 34 (pt x)).setIfInBounds 35 (.tuple #[v,.nilIface])):=(ht8.mono (J18 qo.le)).set 35 vt fun h=>by cases h
 obtain ⟨va,vc,hv⟩:=J7c qo.row;have k8:KE E6 w6 w8:=k7.trans ((KE.of_eq (E:=E6) (w:=w7) (w1:=w7.at e4) fun _ _=>rfl).trans qo.ke);have Jo1:∀ (τ) (T8:Array Value),T8.size=70->T8[1]?=some (.slice ga fs.length c2f)->T8[7]?=some (pt x)->T8[9]?=some v->T8[10]?=some .nilIface ->
   J7e.wp Tryz.prog (fun e a w'=>e=.ret/\a.defers=[Jp]/\a.tmps.size=70/\a.tmps[4]?=some (pt x)/\w'.heap=w8.heap) ⟨T8,[Jp]⟩ (w8.tp τ 0):=by
  intro τ T8 j1 j2 j7 j9 j10;have hL:L.length=T.length:=by rw [qo.outs.1];have:=qo.keys.length;simpa using this
  by_cases hne:fs=[]
  ·have hT0:T.length=0:=by
    rcases Nat.eq_zero_or_pos T.length with h|h
    ·exact h
    ·obtain ⟨t,ht⟩:=List.exists_mem_of_length_pos h;obtain ⟨_,f,hf,_⟩:=J6u qo.nd Jo0 ht;rw [hne] at hf;cases hf
   rw [hv,hL,hT0] at j9;rw [hne] at j2;exact Jqq (w:=w8.tp τ 0) j1 j2 j7 j9 j10
  ·have h1:=one2 hne;obtain ⟨q,hq⟩:∃ q,L[0]?=some q:=⟨L[0]'(by omega),Jb1 _⟩;obtain ⟨k0,hk0⟩:∃ k0,ks[0]?=some k0:=⟨ks[0]'(by have:=qo.outs.1;omega),Jb1 _⟩;obtain ⟨a1,a2,a3,a4⟩:=qo.outs.2 0 k0 q hk0 hq;rw [hL,h1] at hv;rcases qo.row.2 with ⟨_,e⟩|⟨g,cap,cur,e,_,hgg,hcl,hcap,_,hx⟩
   ·rw [hL,h1] at e;cases e
   have a5:=Jo0 k0.1;rw [a2] at a5;obtain ⟨t,T1,T2,rfl,tk,_⟩:=J21 a2;have zk:k0.1=[0,0,0,0,0]:=by rw [<- tk];exact one3 t (by simp)
   rw [zk,sel0 J27.n3] at a5;have hB5':q.B=Jq c' J06 (fs.map fun f=>(hs f.it,f.v)):=by unfold J1c at a5;rw [if_neg (by simpa using hne)] at a5;exact Ja0 a5
   have hn:q.B.n=fs.length:=by rw [hB5',Jqh (by rw [Jc3];omega),Jc3]
   have hL1:L.length=1:=by omega
   have hLq:L=[q]:=by obtain ⟨y,rfl⟩:=List.length_eq_one_iff.1 hL1;simp at hq;rw [hq]
   have hx1:(w8.tp τ 0).cell? ⟨g,1,none⟩=some (.int .i64 fs.length):=by
    refine (cell_of (w:=w8.tp τ 0) hgg 1).trans ?_;rw [hL1,hLq] at hx;have h5:(List.take (1*5) cur.toList)[1]?=some (.int .i64 q.B.n):=by rw [hx];rfl
    rw [List.getElem?_take,if_pos (by omega),Array.getElem?_toList,hn] at h5;exact h5
   rw [e,hL1] at j9;exact Jth (w:=w8.tp τ 0) (List.length_pos_iff.2 hne) hx1 j1 j2 j7 j9 j10
 refine Reach.ret (b:=Go.Conc.base 7) (X0:=[.inRegion ops7 [2,3,4,5,6],.code J7e]) (k:=[]) J1u rfl (.cons (.inRegion _ J04l) (.cons (.code J04k) .nil)) Jap df7 J65 (by simp [Go.Conc.base]) qo.bok ht9 (Q:=fun t1 w1=>t1[4]?=some (pt x)/\w1.heap=w8.heap) (fun τ=>?_) fun E8 T9 w9 wA todo le8 hB8 hW8 ht10 ⟨z1,z2⟩=>?_
 ·have sl:∀ i,i≠34->i≠35->((T7.setIfInBounds 34 (pt x)).setIfInBounds 35 (.tuple #[v,.nilIface]))[i]?=T7[i]?:=fun i h1 h2=>by rw [Ja1 (Ne.symm h2),Ja1 (Ne.symm h1)]
  refine LGo.ops (pre:=[2,3,4,5,6]) (rest:=[]) (Jwk (by simp [j1]) ((sl 1 (by omega) (by omega)).trans j2) ((sl 7 (by omega) (by omega)).trans j3) (by simp [j1]) ⟨_,_,_,hv⟩ fun a m1 m2 m3 m4 m5 m6=>⟨rfl,m1,LGo.done (LGo.wp ?_)⟩);refine wp_mono (Jo1 τ a.tmps m2 m3 m4 m5 m6) fun e b w' ⟨n1,n2,n3,n4,n5⟩=>?_;subst n1;refine Cont.ret ⟨fun i hi hi2=>?_,n4,n5⟩ n2;rcases hl7 hi with h|h
  ·cases h
  ·simp [j1] at hi2;omega
 ·refine Reach.leave1 (B:=Go.Conc.base 7) rfl rfl (fn:=Tryz.f7) (by kernel_rfl) (x:=4) (by kernel_rfl) fun d12=>?_;have kf:KE E7 w8 wA:=(KE.of_eq fun b _=>by rw [z2]).trans ((Jy rfl hW8).mono le8);have kA:KE E6 w6 wA:=k8.trans (kf.mono qo.le);have kA':KE E6 w6 (wA.at d12):=kA.trans (.of_eq fun _ _=>rfl);have q9:=q6.ke kA' hB6.hnd fun b hb=>le8 b (qo.le b hb);rw [show (Act.mk T9 []).tmps.getD 4 undef=pt x from by simp [Ja5,z1]];exact kn W7 E8 (wA.at d12) x c' h hs _ vm base T' (fun b hb=>le8 b (qo.le b (le6 b (Jtj b hb)))) (hB8.at d12) (kE6.trans (kA'.mono fun b hb=>le6 b (Jtj b hb))) q9 J27 ⟨cb',nb'⟩ hh4.bd q9.hok (le8 _ (qo.le _ ex6))
end
end Go.Sim.Z
