/- Proved: laws for the claim. No conditions. -/
import Derived.Test.YtlcbehhbfglgaaaGreatDoorA22
set_option linter.all false
set_option maxHeartbeats 4000000
set_option maxRecDepth 100000
open Go.Proofs.Tryz
namespace Go.Sim.Z
open Go Go.Proofs Go.RowKit Go.Maps
section
variable{w:JE}{x:Nat}{c:J7}{seed:Int}{nf:Int}{vm base:Nat}
def Jv6{fr:Bool}{bb cap:Nat}{bs:JD}(hc:CZ c)(hr:Row fr w bb 3 .i64 bs cap)(Dh:c.ba=some ⟨bb,0,none⟩)(BL:c.nb=bs.length)(hp:bs.Pairwise (· < ·))(n:Int) :
  Calls prog 29 #[.agg (EI c 3 seed),.int .i64 2,.int .i64 n] w λe w'=>∃hb,NewAt w c seed (.func (.func 95) #[] #[pt hb]) bs e w'/\w.heap.size<=hb/\w'.heap[hb]?=some (.cells #[.int .i64 n] 3):=by
 obtain⟨W0,Ci⟩:∃W0,W0=w.alloc (.cells (EI c 3 seed) 47):=⟨_,rfl⟩;have Bf:Tch w.heap.size M0 w W0:=by rw[Ci];exact Tch.refl.alloc (Ad _) _
 have Fj:Blk false W0 w.heap.size (EI c 3 seed) 47:=⟨(0,0),by rw[Ci];exact Ja _,λ_=>rfl⟩;have Dq:=Fj.lt;have hf:Hid (∀w1,Tch W0.heap.size M0 W0 w1->w1.cell? ⟨w.heap.size,0,none⟩=some (.int .i64 3)/\w1.cell? ⟨w.heap.size,1,none⟩=some (.int .i64 c.bits)/\w1.cell? ⟨w.heap.size,2,none⟩=some (.int .i64 c.K)/\w1.cell? ⟨w.heap.size,3,none⟩=some (.slice c.ba c.nb c.cb)/\w1.cell? ⟨w.heap.size,4,none⟩=some (.int .i64 seed)):=λw1 ht=>(Fj.tch ht Dq λx=>x).five;have MH:Hid (∀w1,Tch W0.heap.size M0 W0 w1->Calls prog 62 #[.agg (EI c 3 seed),.func (.func 95) #[] #[pt (w.heap.size+1)]] w1 λe w'=>NewAt w c seed (.func (.func 95) #[] #[pt (w.heap.size+1)]) bs e w'/\Tch W0.heap.size M0 W0 w'/\Tch w1.heap.size M0 w1 w'):=λw1 ht=>by have Bc:=Bf.trans (ht.mono Bf.size λ_ _ h=>h);refine(Jgo (seed:=seed) hc (hr.tch Bc hr.lt λx=>x) Dh BL hp (.func 95) #[] #[pt (w.heap.size+1)]).mono λe w'(h:NewAt w1 c seed (.func (.func 95) #[] #[pt (w.heap.size+1)]) bs e w')=>?_;obtain⟨⟨x,vm,base,b2,c2,h1,h2,h3⟩,h4⟩:=h;have:=Bc.size;exact⟨⟨⟨x,vm,base,b2,c2,h1,⟨by omega,by omega,by omega,by omega⟩,h3⟩,(Bc.trans (h4.mono Bc.size λ_ _ h=>h))⟩,ht.trans (h4.mono ht.size λ_ _ h=>h),h4⟩
 clear hr hp Fj Bf Dq Dh BL;unfold EI at MH Ci ⊢;have t0:Tch W0.heap.size M0 W0 W0.drew:=Tch.refl.drew;have t1:Tch W0.heap.size M0 W0 (W0.alloc (.cells #[.int .i64 n] 3)).drew:=(Tch.refl.alloc (Ad _) _).drew;have IK:(W0.alloc (.cells #[.int .i64 n] 3)).drew.heap[w.heap.size+1]?=some (.cells #[.int .i64 n] 3):=by have:=Ja (w:=W0) (.cells #[.int .i64 n] 3);rw[Ci,size_alloc]at this;rw[Ci];exact this
 have Jxh:w.heap.size+1<(W0.alloc (.cells #[.int .i64 n] 3)).drew.heap.size:=Jj IK
 go_enter func29,ntmps29
 go_wp2_with fail
 subst Ci;generalize Vy:w.heap.size=n0 at hf MH IK Jxh ⊢;obtain⟨q0,q1,q2,q3,q4⟩:=hf _ t0;obtain⟨r0,r1,r2,r3,r4⟩:=hf _ t1
 go_region_with (first|(go_at_call 53;refine(Jv5 n _).mono ?_;rintro e w1 ⟨rfl,rfl⟩)|(go_at_call 62;refine(MH _ t1).mono ?_;rintro e w1 ⟨hN,t2,t3⟩;have YT:=hN;have BH:=(t3.heap _ Jxh λh=>h).trans IK;obtain⟨⟨x,vm,base,b2,c2,rfl,_⟩,_⟩:=hN))
 all_goals go_wp2
 all_goals go_ret2
 all_goals exact⟨_,YT,by omega,BH⟩
def Jv7{fr:Bool}{bb cap:Nat}{bs:JD}(hc:CZ c)(hr:Row fr w bb 3 .i64 bs cap)(Dh:c.ba=some ⟨bb,0,none⟩)(BL:c.nb=bs.length)(hp:bs.Pairwise (· < ·))(n:Int) :
  Calls prog 29 #[.agg (EI c 3 seed),.int .i64 0,.int .i64 n] w λe w'=>∃hb,NewAt w c seed (.func (.func 167) #[] #[pt hb]) bs e w'/\w.heap.size<=hb/\w'.heap[hb]?=some (.cells #[.int .i64 seed] 3):=by
 obtain⟨W0,Ci⟩:∃W0,W0=w.alloc (.cells (EI c 3 seed) 47):=⟨_,rfl⟩;have Bf:Tch w.heap.size M0 w W0:=by rw[Ci];exact Tch.refl.alloc (Ad _) _
 have Fj:Blk false W0 w.heap.size (EI c 3 seed) 47:=⟨(0,0),by rw[Ci];exact Ja _,λ_=>rfl⟩;have Dq:=Fj.lt;have hf:Hid (∀w1,Tch W0.heap.size M0 W0 w1->w1.cell? ⟨w.heap.size,0,none⟩=some (.int .i64 3)/\w1.cell? ⟨w.heap.size,1,none⟩=some (.int .i64 c.bits)/\w1.cell? ⟨w.heap.size,2,none⟩=some (.int .i64 c.K)/\w1.cell? ⟨w.heap.size,3,none⟩=some (.slice c.ba c.nb c.cb)/\w1.cell? ⟨w.heap.size,4,none⟩=some (.int .i64 seed)):=λw1 ht=>(Fj.tch ht Dq λx=>x).five;have MH:Hid (∀w1,Tch W0.heap.size M0 W0 w1->Calls prog 62 #[.agg (EI c 3 seed),.nilFunc] w1 λe w'=>∃hb,NewAt w c seed (.func (.func 167) #[] #[pt hb]) bs e w'/\w.heap.size<=hb/\w'.heap[hb]?=some (.cells #[.int .i64 seed] 3)/\Tch W0.heap.size M0 W0 w'):=λw1 ht=>by have Bc:=Bf.trans (ht.mono Bf.size λ_ _ h=>h);refine(Jz2 (seed:=seed) hc (hr.tch Bc hr.lt λx=>x) Dh BL hp).mono λe w' hx=>?_;obtain⟨hb,⟨⟨x,vm,base,b2,c2,h1,h2,h3⟩,h4⟩,h5,h6⟩:=hx;have:=Bc.size;exact⟨hb,⟨⟨x,vm,base,b2,c2,h1,⟨by omega,by omega,by omega,by omega⟩,h3⟩,(Bc.trans (h4.mono Bc.size λ_ _ h=>h))⟩,by omega,h6,ht.trans (h4.mono ht.size λ_ _ h=>h)⟩
 clear hr hp Fj Bf Dq Dh BL;unfold EI at MH Ci ⊢;have t0:Tch W0.heap.size M0 W0 W0.drew:=Tch.refl.drew;have t1:Tch W0.heap.size M0 W0 (W0.alloc (.cells #[.int .i64 n] 3)).drew:=(Tch.refl.alloc (Ad _) _).drew
 go_enter func29,ntmps29
 go_wp2_with fail
 subst Ci;generalize Vy:w.heap.size=n0 at hf ⊢;obtain⟨q0,q1,q2,q3,q4⟩:=hf _ t0;obtain⟨r0,r1,r2,r3,r4⟩:=hf _ t1
 go_region_with (first|(go_at_call 53;refine(Jv4 n _).mono ?_;rintro e w1 ⟨rfl,rfl⟩)|(go_at_call 62;refine(MH _ t1).mono ?_;rintro e w1 ⟨hb,hN,q8,q9,t2⟩;have YT:=hN;obtain⟨⟨x,vm,base,b2,c2,rfl,_⟩,_⟩:=hN))
 all_goals go_wp2
 all_goals go_ret2
 all_goals exact⟨_,YT,by omega,q9⟩
def Jlb{hb:Nat}{s:Int}(q:DU w x c seed (.func (.func 95) #[] #[pt hb]) nf vm base)(hc:w.heap[hb]?=some (.cells #[.int .i64 s] 3))(item at_:Int) :
  Calls prog 39 #[.pointer (some ⟨x,0,none⟩),.int .i64 item,.int .i64 at_] w λe w'=>e=.returned (.tuple #[.int .u64 (YM s item),.nilIface])/\Tch w.heap.size M0 w w':=by
 have hmf:∀(fn:Fn)(first cap:JC)(w:JE),(Instr.makeFunc fn first cap).run prog w=.ok (.func fn first cap) w:=λ_ _ _ _=>rfl;have hx:x<w.heap.size:=q.blk.lt;have c5:w.cell? ⟨x,5,none⟩=some (.func (.func 95) #[] #[pt hb]):=q.cells.2.2.2.2.2.1;have YZ:=Jj hc;have h1:Calls prog 95 #[.int .i64 item,.pointer (some ⟨hb,0,none⟩)] (((w.alloc (.cells #[.int .i64 at_] 3)).alloc (.cells #[.int .u64 0] 110)).alloc (.cells #[.nilIface] 33)) λe w'=>e=.returned (.int .u64 (YM s item))/\w'=((w.alloc (.cells #[.int .i64 at_] 3)).alloc (.cells #[.int .u64 0] 110)).alloc (.cells #[.nilIface] 33):=Jrw ((Du (by rw[J8 _ (by rw[size_alloc,size_alloc];show hb<_;omega),J8 _ (by rw[size_alloc];show hb<_;omega),J8 _ YZ])).trans ((cell_of hc 0).trans rfl));have c5':(((w.alloc (.cells #[.int .i64 at_] 3)).alloc (.cells #[.int .u64 0] 110)).alloc (.cells #[.nilIface] 33)).cell? ⟨x,5,none⟩=some (.func (.func 95) #[] #[pt hb]):=
  (Du (by rw[J8 _ (by rw[size_alloc,size_alloc];show x<_;omega),J8 _ (by rw[size_alloc];show x<_;omega),J8 _ hx])).trans c5
 generalize YM s item=hh at *;clear hc
 go_enter_defers func39,ntmps39
 go_wp2_with (go_at_call 95;refine h1.mono ?_;rintro e w1 ⟨rfl,rfl⟩)
 refine leaves_cons (f:=84) (args:=#[.pointer (some ⟨w.heap.size,0,none⟩),.pointer (some ⟨w.heap.size+1,0,none⟩),.pointer (some ⟨w.heap.size+1+1,0,none⟩)]) (by simp) (by simp[go_sem]) ?_;refine(Jis _ _ _ _).mono ?_;rintro e u' Qj ⟨rfl,rfl,rfl⟩;simp[Leaves,settle,results,results39,go_sem];exact((Tch.refl.alloc (Ad _) _).alloc (by rw[size_alloc];omega) _).alloc (by rw[size_alloc,size_alloc];omega) _
end
end Go.Sim.Z
namespace Go.Sim.Z
open Go Go.Proofs Go.RowKit Go.Conc Go.Maps
def Jkc(y:Int):0<=IntKind.u64.wrap y/\IntKind.u64.wrap y<=18446744073709551615:=J02d y
def mixA(s n:Int):Int:=IntKind.u64.wrap (IntKind.u64.wrap n+IntKind.u64.wrap (IntKind.u64.wrap s*11400714819323198485))
def uQ(z k m:Int):Int:=IntKind.u64.wrap (bits .xor .u64 z (z / k)*m)
def TV(s n:Int):Int:=bits .xor .u64 (uQ (uQ (mixA s n) 1073741824 13787848793156543929) 134217728 10723151780598845931) (uQ (uQ (mixA s n) 1073741824 13787848793156543929) 134217728 10723151780598845931 / 2147483648)
def Jz3(s n:Int):0<=TV s n/\TV s n<=18446744073709551615:=by unfold TV bits;exact Jkc _
def Jry{s n:Int}{b:Nat}{w:JE}(h:w.cell? ⟨b,0,none⟩=some (.int .i64 s)):Calls prog 167 #[.int .i64 n,.pointer (some ⟨b,0,none⟩)] w λe w'=>e=.returned (.int .u64 (TV s n))/\w'=w:=by
 go_enter func167,ntmps167
 go_wp2;go_ret;exact⟨rfl,rfl⟩
section
variable{w:JE}{x:Nat}{c:J7}{seed:Int}{nf:Int}{vm base:Nat}
def Jlc{hb:Nat}{s:Int}(q:DU w x c seed (.func (.func 167) #[] #[pt hb]) nf vm base)(hc:w.heap[hb]?=some (.cells #[.int .i64 s] 3))(item at_:Int) :
  Calls prog 39 #[.pointer (some ⟨x,0,none⟩),.int .i64 item,.int .i64 at_] w λe w'=>e=.returned (.tuple #[.int .u64 (TV s item),.nilIface])/\Tch w.heap.size M0 w w':=by
 have hmf:∀(fn:Fn)(first cap:JC)(w:JE),(Instr.makeFunc fn first cap).run prog w=.ok (.func fn first cap) w:=λ_ _ _ _=>rfl;have hx:x<w.heap.size:=q.blk.lt;have c5:w.cell? ⟨x,5,none⟩=some (.func (.func 167) #[] #[pt hb]):=q.cells.2.2.2.2.2.1;have YZ:=Jj hc;have h1:Calls prog 167 #[.int .i64 item,.pointer (some ⟨hb,0,none⟩)] (((w.alloc (.cells #[.int .i64 at_] 3)).alloc (.cells #[.int .u64 0] 110)).alloc (.cells #[.nilIface] 33)) λe w'=>e=.returned (.int .u64 (TV s item))/\w'=((w.alloc (.cells #[.int .i64 at_] 3)).alloc (.cells #[.int .u64 0] 110)).alloc (.cells #[.nilIface] 33):=Jry ((Du (by rw[J8 _ (by rw[size_alloc,size_alloc];show hb<_;omega),J8 _ (by rw[size_alloc];show hb<_;omega),J8 _ YZ])).trans ((cell_of hc 0).trans rfl));have c5':(((w.alloc (.cells #[.int .i64 at_] 3)).alloc (.cells #[.int .u64 0] 110)).alloc (.cells #[.nilIface] 33)).cell? ⟨x,5,none⟩=some (.func (.func 167) #[] #[pt hb]):=
  (Du (by rw[J8 _ (by rw[size_alloc,size_alloc];show x<_;omega),J8 _ (by rw[size_alloc];show x<_;omega),J8 _ hx])).trans c5
 generalize TV s item=hh at *;clear hc
 go_enter_defers func39,ntmps39
 go_wp2_with (go_at_call 167;refine h1.mono ?_;rintro e w1 ⟨rfl,rfl⟩)
 refine leaves_cons (f:=84) (args:=#[.pointer (some ⟨w.heap.size,0,none⟩),.pointer (some ⟨w.heap.size+1,0,none⟩),.pointer (some ⟨w.heap.size+1+1,0,none⟩)]) (by simp) (by simp[go_sem]) ?_;refine(Jis _ _ _ _).mono ?_;rintro e u' Qj ⟨rfl,rfl,rfl⟩;simp[Leaves,settle,results,results39,go_sem];exact((Tch.refl.alloc (Ad _) _).alloc (by rw[size_alloc];omega) _).alloc (by rw[size_alloc,size_alloc];omega) _
end
structure HS(fn:JG)(W E0:JB)(w0:JE)(E:JB)(T:JC)(w:JE):Prop where
 bok:BOk C0 S0 W E w
 le:∀b,E0 b->E b
 ke:KE E0 w0 w
 kw:∀b,W b->w.heap[b]?=w0.heap[b]?
 tm:TmR C0 S0 fn (idE E) T T
 own:S0.own fn=[]
 sz:w0.heap.size<=w.heap.size
section
variable{fn:JG}{W E0 E:JB}{w0 w:JE}{T:JC}{ops:Array Oper}{i:Nat}{rest:List Nat}{o:Oper}{s:Nat}{v:JJ}{k:List Item}{cs:List Frame}{Post:(JB)->JF->JE->Prop}
def HS.at(h:HS fn W E0 w0 E T w)(d:Nat):HS fn W E0 w0 E T (w.at d):=⟨h.bok.at d,h.le,h.ke.trans (.of_eq λ_ _=>rfl),h.kw,h.tm,h.own,h.sz⟩
def HS.own'(h:HS fn W E0 w0 E T w)(s:Nat):(S0.own fn).contains s=false:=by rw[h.own];rfl
def HS.set(h:HS fn W E0 w0 E T w)(hv:(C0.hl fn).contains s=true\/VR C0 (idE E) v v):TmR C0 S0 fn (idE E) (T.setIfInBounds s v) (T.setIfInBounds s v):=by
 rcases hv with hv|hv
 .exact h.tm.hole hv (h.own' s) v
 .exact h.tm.set s hv λe=>by rw[h.own' s]at e;cases e
def HS.to{E':JB}{w':JE}(h:HS fn W E0 w0 E T w)(hB:BOk C0 S0 W E' w')(hs:∀b,E b->E' b)(he:KE E w w')(hw:∀b,W b->w'.heap[b]?=w.heap[b]?)(hz:w.heap.size<=w'.heap.size):HS fn W E0 w0 E' T w':=
 ⟨hB,λb hb=>hs b (h.le b hb),h.ke.trans (he.mono h.le),λb hb=>(hw b hb).trans (h.kw b hb),h.tm.mono (Oj hs),h.own,BN h.sz hz⟩
def HS.put(h:HS fn W E0 w0 E T w){T':JC}(ht:TmR C0 S0 fn (idE E) T' T'):HS fn W E0 w0 E T' w:=⟨h.bok,h.le,h.ke,h.kw,ht,h.own,h.sz⟩
def HS.start(h:HS fn W E0 w0 E T w):HS fn W E w E T w:=⟨h.bok,λ_ h=>h,.refl,λ_ _=>rfl,h.tm,h.own,Ad _⟩
def HS.comp{E':JB}{T':JC}{w':JE}(h:HS fn W E0 w0 E T w)(k:HS fn W E w E' T' w'):HS fn W E0 w0 E' T' w':=⟨k.bok,λb hb=>k.le b (h.le b hb),h.ke.trans (k.ke.mono h.le),λb hb=>(k.kw b hb).trans (h.kw b hb),k.tm,k.own,BN h.sz k.sz⟩
def Jb(h:HS fn W E0 w0 E T w)(ho:ops[i]?=some o)(hw:Region.wanted o (yielded ops T)=true)(hd:o.dst=some s)(hr:∀w1,(execOp (Act.eval ⟨T,[]⟩) o).run prog w1=.ok (.value v) w1)(he:∀w1,(execOp (Act.eval ⟨T,[]⟩) o).events prog w1 #[]=#[])
  (hv:(C0.hl fn).contains s=true\/VR C0 (idE E) v v) (kn:∀w',HS fn W E0 w0 E (T.setIfInBounds s v) w'->w'.heap=w.heap->Reach prog Post W (G ((base fn).at ⟨T.setIfInBounds s v,[]⟩ (.inRegion ops rest::k)) cs) w') :
  Reach prog Post W (G ((base fn).at ⟨T,[]⟩ (.inRegion ops (i::rest)::k)) cs) w:=by
 refine J6 (λw1=>LV (v:=v) ho hw (by simp[base]) (hr w1) (he w1)) rfl λd=>?_;rw[hd];exact kn _ ((h.put (h.set hv)).at d) rfl
def Jm6(h:HS fn W E0 w0 E T w)(ho:ops[i]?=some o)(hw:Region.wanted o (yielded ops T)=false)(hd:o.dst=some s)
  (kn:∀w',HS fn W E0 w0 E (T.setIfInBounds s JA) w'->w'.heap=w.heap->Reach prog Post W (G ((base fn).at ⟨T.setIfInBounds s JA,[]⟩ (.inRegion ops rest::k)) cs) w') :
  Reach prog Post W (G ((base fn).at ⟨T,[]⟩ (.inRegion ops (i::rest)::k)) cs) w:=by
 refine J6 (λw1=>stepG_unwanted ho hw) rfl λd=>?_;rw[hd];exact kn _ ((h.put (h.set (.inr .undef))).at d) rfl
def aW(h:HS fn W E0 w0 E T w){a:Addr}(hW:W a.block)(hT:∀c z,w.heap[a.block]?≠some (.cells c wgT z))(hc:w.cell? a=some v)(ho:ops[i]?=some o)(hw:Region.wanted o (yielded ops T)=true)(hd:o.dst=some s)
  (hr:∀w1,w1.cell? a=some v->(execOp (Act.eval ⟨T,[]⟩) o).run prog w1=.ok (.value v) w1) (he:∀w1,w1.cell? a=some v->(execOp (Act.eval ⟨T,[]⟩) o).events prog w1 #[]=#[⟨.cell a,false,false⟩])
  (hv:(C0.hl fn).contains s=true\/VR C0 (idE E) v v) (kn:∀w',HS fn W E0 w0 E (T.setIfInBounds s v) w'->(∀b,E b\/W b->w'.heap[b]?=w.heap[b]?)->w'.heap.size=w.heap.size->Reach prog Post W (G ((base fn).at ⟨T.setIfInBounds s v,[]⟩ (.inRegion ops rest::k)) cs) w') :
  Reach prog Post W (G ((base fn).at ⟨T,[]⟩ (.inRegion ops (i::rest)::k)) cs) w:=by
 have hB:=h.bok;have Ac:a.block<w.heap.size:=by
  unfold World.cell? at hc;cases hb:w.heap[a.block]? with
  |none=>rw[hb]at hc;cases hc
  |some x=>exact(BJ.1 hb).1
 have hR:Runs false prog true (λy=>y.g=G ((base fn).at ⟨T.setIfInBounds s v,[]⟩ (.inRegion ops rest::k)) cs/\(∀b,E b->y.w.heap[b]?=w.heap[b]?)/\y.w.heap.size=w.heap.size/\y.w.os=w.os) ⟨E,λb=>E b\/b=a.block,G ((base fn).at ⟨T,[]⟩ (.inRegion ops (i::rest)::k)) cs,w⟩:=by
  refine .step (λw1=>⟨grown E w1 w1,grown (λb=>E b\/b=a.block) w1 w1,G ((base fn).at ⟨T.setIfInBounds s v,[]⟩ (.inRegion ops rest::k)) cs,w1⟩) (λw1 r=>⟨?_,rfl,rfl,rfl,rfl,rfl⟩) λw1 r=>.stop λw2 r2=>⟨rfl,λb hb=>?_,?_,?_⟩
  .have DF:w1.cell? a=some v:=(Du (r.blocks a.block (.inr rfl))).trans hc;refine⟨listed prog (base fn).fn ⟨T,[]⟩ o w1,?_,⟨Ad _,λ_ _ _=>rfl,rfl,rfl,Ad _,λe Fq=>?_⟩⟩
   .rw[stepG_value ho hw (by simp[base]) (hr w1 DF),hd];rfl
   .have h1:=mem_seen Fq;rw[he w1 DF]at h1;simp only[List.mem_toArray,AL,BU,or_false]at h1;subst h1;exact⟨⟨.inl (.inr rfl),λh=>by cases h⟩,rfl⟩
  .exact(r2.blocks b (.inl (.inl hb))).trans (r.blocks b (.inl hb))
  .exact(r2.same rfl).trans (r.same rfl)
  .exact r2.os.trans r.os
 refine Reach.Jjp (Z:=λ_=>False) hR rfl (λb c z hb ht hx=>?_) hB.dis (λb hb=>hb.elim) (λb hb=>hb.elim (λhb=>hB.lt hb) λe=>e▸Ac) ?_
 .rcases hx with hx|rfl
  .exact hB.dis b hb hx
  .exact hT c z ht
 rintro⟨own,X,g,wy⟩ ⟨rfl,h1,h2,h3⟩ _ _ _ hK;simp only at h1 h2 h3;have Gq:BOk C0 S0 W E wy:=hB.rely rfl ⟨h1,Nat.le_of_eq h2.symm,λ_=>h2,h3⟩;exact kn wy ((h.put (h.set hv)).to Gq (λ_ h=>h) (.of_eq h1) hK.keep (Nat.le_of_eq h2.symm)) (λb hb=>hb.elim (h1 b) (hK.keep b)) h2
def Jkd(h:HS fn W E0 w0 E T w){arr:JC}{ty:JH}(ho:ops[i]?=some o)(hw:Region.wanted o (yielded ops T)=true)(hd:o.dst=some s)
  (hr:∀w1,w1.heap.size=w.heap.size->(execOp (Act.eval ⟨T,[]⟩) o).run prog w1=.ok (.value v) (w1.alloc (.cells arr ty))) (he:∀w1,(execOp (Act.eval ⟨T,[]⟩) o).events prog w1 #[]=#[])
  (ha:∀x∈arr.toList,VR C0 (idE E) x x) (hv:(C0.hl fn).contains s=true\/VR C0 (idE λb=>E b\/b=w.heap.size) v v)
  (kn:∀w',HS fn W E0 w0 (λb=>E b\/b=w.heap.size) (T.setIfInBounds s v) w'->(∀b,E b\/W b->w'.heap[b]?=w.heap[b]?)->w'.heap[w.heap.size]?=some (.cells arr ty)->w'.heap.size=w.heap.size+1->Reach prog Post W (G ((base fn).at ⟨T.setIfInBounds s v,[]⟩ (.inRegion ops rest::k)) cs) w') :
  Reach prog Post W (G ((base fn).at ⟨T,[]⟩ (.inRegion ops (i::rest)::k)) cs) w:=by
 refine Reach.mid (Mid:=λg' w'=>g'=G ((base fn).at ⟨T.setIfInBounds s v,[]⟩ (.inRegion ops rest::k)) cs/\BOk C0 S0 W (λb=>E b\/b=w.heap.size) w'/\w'.heap.size=w.heap.size+1/\(∀b,E b->w'.heap[b]?=w.heap[b]?)/\w'.heap[w.heap.size]?=some (.cells arr ty)) ?_ λg' w' ⟨e,h1,h2,h3,h4⟩ hK=>?_
 .refine Reach.alloc (C:=C0) (S:=S0) (g':=G ((base fn).at ⟨T.setIfInBounds s v,[]⟩ (.inRegion ops rest::k)) cs) (o:=.cells arr ty) rfl h.bok rfl rfl rfl rfl ⟨_,_,rfl,.VZ (λx hx=>(ha x hx).mono (Oj λb hb=>.inl hb)),λh=>(C0.lax rfl _ h).elim,λ_=>⟨rfl,λ_=>rfl⟩⟩ (λw1 BQ=>?_) λw' h1 h2 h3 h4=>Reach.here ⟨rfl,rfl,h1,h2,h3,h4⟩;show stepG prog true _ w1=_;rw[stepG_value ho hw (by simp[base]) (hr w1 BQ),hd];unfold listed;rw[he w1,seen_none];rfl
 .subst e;have h5:HS fn W E0 w0 (λb=>E b\/b=w.heap.size) T w':=h.to h1 (λb hb=>.inl hb) (.of_eq h3) hK (by omega);exact kn w' (h5.put (h5.set hv)) (λb hb=>hb.elim (h3 b) (hK b)) h4 h2
def pG(h:HS fn W E0 w0 E T w){pre:List Nat}{Q:JC->JE->Prop}(hX:IC C0 S0 fn ops pre=true)(LK:rest≠[])(hb:GY C0 fn)(Nk:S0.df.contains fn=false)(hl:C0.hl fn≠[])
  (K:∀τ,wpOps prog ops (λe a w1=>e=.normal/\a.defers=[Jq]/\(∀i,(C0.hl fn).contains i=true->i<T.size->a.tmps[i]?=T[i]?)/\Q a.tmps w1) pre ⟨T,[Jq]⟩ (w.tp τ 0))
  (kn:∀E' T' w1 w',(∀b,E b->E' b)->BOk C0 S0 W E' w'->WR C0 (okP C0 S0) (idE E') w1 w'->TmR C0 S0 fn (idE E') T' T'->Q T' w1->(∀b,W b->w'.heap[b]?=w.heap[b]?)->Reach prog Post W (G ((base fn).at ⟨T',[]⟩ (.inRegion ops rest::k)) cs) w') :
  Reach prog Post W (G ((base fn).at ⟨T,[]⟩ (.inRegion ops (pre++rest)::k)) cs) w:=by
 refine Reach.mid (Mid:=λg' w'=>∃E' T' w1,g'=G ((base fn).at ⟨T',[]⟩ (.inRegion ops rest::k)) cs/\(∀b,E b->E' b)/\BOk C0 S0 W E' w'/\WR C0 (okP C0 S0) (idE E') w1 w'/\TmR C0 S0 fn (idE E') T' T'/\Q T' w1) ?_ λg' w' ⟨E',T',w1,e,h1,h2,h3,h4,h5⟩ hK=>?_
 .exact Reach.toOps (b:=base fn) KY rfl hX LK hb Nk hl (by simp[base]) h.bok h.tm K λE' T' w1 w' h1 h2 h3 h4 h5=>Reach.here ⟨rfl,E',T',w1,rfl,h1,h2,h3,h4,h5⟩
 .subst e;exact kn E' T' w1 w' h1 h2 h3 h4 h5 hK
end
def pI:Oper:={ dst:=some 2,op:=.assign (.const (.slice none 0 0)),type:=28,pos:= "keeps.go:24",after:=#[],guard:=none }
def x6_0:Array Oper:=#[pI]
def pK:Oper:={ dst:=some 3,op:=.assign (.const (.slice none 0 0)),type:=28,pos:= "keeps.go:25",after:=#[],guard:=none }
def x6_1:Array Oper:=#[pK]
def pO:Oper:={ dst:=some 4,op:=.assign (.const (.int .i64 0)),type:=3,pos:= "keeps.go:26",after:=#[],guard:=none }
def x6_2:Array Oper:=#[pO]
def RJ:Oper:={ dst:=some 8,op:=.move (.tmp 4),type:=3,pos:= "keeps.go:26",after:=#[],guard:=none }
def RN:Oper:={ dst:=some 9,op:=.move (.tmp 0),type:=27,pos:= "keeps.go:26",after:=#[],guard:=none }
def RP:Oper:={ dst:=some 10,op:=.call { callee:=.builtin .len,args:=#[.tmp 9],argTypes:=#[27] },type:=3,pos:= "keeps.go:26",after:=#[{ on:=1,ground:=.data }],guard:=none }
def RQ:Oper:={ dst:=some 11,op:=.binOp .lss 3 (.tmp 8) (.tmp 10) 3,type:=4,pos:= "keeps.go:26",after:=#[{ on:=0,ground:=.data },{ on:=2,ground:=.data }],guard:=none }
def LW:Oper:={ dst:=some 12,op:=.move (.tmp 11),type:=4,pos:= "keeps.go:26",after:=#[{ on:=3,ground:=.data }],guard:=none }
def Qp:Oper:={ dst:=some 13,op:=.move (.tmp 4),type:=3,pos:= "keeps.go:26",after:=#[{ on:=4,ground:=.guard }],guard:=some (4,true) }
def Qq:Oper:={ dst:=some 14,op:=.binOp .lss 3 (.tmp 13) (.const (.int .i64 200)) 3,type:=4,pos:= "keeps.go:26",after:=#[{ on:=5,ground:=.data },{ on:=4,ground:=.guard }],guard:=some (4,true) }
def RS:Oper:={ dst:=some 15,op:=.pick (.tmp 12) (.tmp 14) (.const (.bool false)),type:=4,pos:= "keeps.go:26",after:=#[{ on:=4,ground:=.data },{ on:=6,ground:=.data }],guard:=none }
def O1:Array Oper:=#[RJ,RN,RP,RQ,LW,Qp,Qq,RS]
def pR:Oper:={ dst:=some 16,op:=.move (.tmp 4),type:=3,pos:= "keeps.go:26",after:=#[],guard:=none }
def pU:Oper:={ dst:=some 17,op:=.binOp .add 3 (.tmp 16) (.const (.int .i64 1)) 3,type:=3,pos:= "keeps.go:26",after:=#[{ on:=0,ground:=.data }],guard:=none }
def pV:Oper:={ dst:=some 4,op:=.assign (.tmp 17),type:=3,pos:= "keeps.go:26",after:=#[{ on:=1,ground:=.data },{ on:=0,ground:=.phase },{ on:=1,ground:=.phase }],guard:=none }
def dQ:Array Oper:=#[pR,pU,pV]
def pW:Oper:={ dst:=some 18,op:=.move (.tmp 0),type:=27,pos:= "keeps.go:27",after:=#[],guard:=none }
def pX:Oper:={ dst:=some 19,op:=.move (.tmp 4),type:=3,pos:= "keeps.go:27",after:=#[],guard:=none }
def pY:Oper:={ dst:=some 20,op:=.indexAddr 27 (.tmp 18) (.tmp 19),type:=0,pos:= "keeps.go:27",after:=#[{ on:=0,ground:=.data },{ on:=1,ground:=.data }],guard:=none }
def qE:Oper:={ dst:=some 21,op:=.fieldAddr 83 (.tmp 20) 0,type:=0,pos:= "keeps.go:27",after:=#[{ on:=2,ground:=.data }],guard:=none }
def qG:Oper:={ dst:=some 22,op:=.load 3 (.tmp 21),type:=3,pos:= "keeps.go:27",after:=#[{ on:=3,ground:=.data }],guard:=none }
def qH:Oper:={ dst:=some 23,op:=.call { callee:=.value (.func 18),args:=#[.tmp 22,.const (.int .i64 4)],argTypes:=#[3,3] },type:=3,pos:= "keeps.go:27",after:=#[{ on:=4,ground:=.data }],guard:=none }
def qI:Oper:={ dst:=some 5,op:=.assign (.tmp 23),type:=3,pos:= "keeps.go:27",after:=#[{ on:=5,ground:=.data },{ on:=5,ground:=.chain },{ on:=0,ground:=.phase },{ on:=1,ground:=.phase },{ on:=2,ground:=.phase },{ on:=3,ground:=.phase },{ on:=4,ground:=.phase },{ on:=5,ground:=.phase }],guard:=none }
def dR:Array Oper:=#[pW,pX,pY,qE,qG,qH,qI]
def qJ:Oper:={ dst:=some 24,op:=.move (.tmp 0),type:=27,pos:= "keeps.go:28",after:=#[],guard:=none }
def qK:Oper:={ dst:=some 25,op:=.move (.tmp 4),type:=3,pos:= "keeps.go:28",after:=#[],guard:=none }
def qL:Oper:={ dst:=some 26,op:=.indexAddr 27 (.tmp 24) (.tmp 25),type:=0,pos:= "keeps.go:28",after:=#[{ on:=0,ground:=.data },{ on:=1,ground:=.data }],guard:=none }
def qM:Oper:={ dst:=some 27,op:=.fieldAddr 83 (.tmp 26) 1,type:=0,pos:= "keeps.go:28",after:=#[{ on:=2,ground:=.data }],guard:=none }
def qN:Oper:={ dst:=some 28,op:=.load 3 (.tmp 27),type:=3,pos:= "keeps.go:28",after:=#[{ on:=3,ground:=.data }],guard:=none }
def qO:Oper:={ dst:=some 29,op:=.call { callee:=.value (.func 18),args:=#[.tmp 28,.const (.int .i64 4)],argTypes:=#[3,3] },type:=3,pos:= "keeps.go:28",after:=#[{ on:=4,ground:=.data }],guard:=none }
def qP:Oper:={ dst:=some 6,op:=.assign (.tmp 29),type:=3,pos:= "keeps.go:28",after:=#[{ on:=5,ground:=.data },{ on:=5,ground:=.chain },{ on:=0,ground:=.phase },{ on:=1,ground:=.phase },{ on:=2,ground:=.phase },{ on:=3,ground:=.phase },{ on:=4,ground:=.phase },{ on:=5,ground:=.phase }],guard:=none }
def dS:Array Oper:=#[qJ,qK,qL,qM,qN,qO,qP]
def qQ:Oper:={ dst:=some 30,op:=.move (.tmp 0),type:=27,pos:= "keeps.go:29",after:=#[],guard:=none }
def qR:Oper:={ dst:=some 31,op:=.move (.tmp 4),type:=3,pos:= "keeps.go:29",after:=#[],guard:=none }
def qU:Oper:={ dst:=some 32,op:=.indexAddr 27 (.tmp 30) (.tmp 31),type:=0,pos:= "keeps.go:29",after:=#[{ on:=0,ground:=.data },{ on:=1,ground:=.data }],guard:=none }
def qV:Oper:={ dst:=some 33,op:=.fieldAddr 83 (.tmp 32) 2,type:=0,pos:= "keeps.go:29",after:=#[{ on:=2,ground:=.data }],guard:=none }
def qW:Oper:={ dst:=some 34,op:=.load 3 (.tmp 33),type:=3,pos:= "keeps.go:29",after:=#[{ on:=3,ground:=.data }],guard:=none }
def qX:Oper:={ dst:=some 35,op:=.call { callee:=.value (.func 18),args:=#[.tmp 34,.const (.int .i64 4)],argTypes:=#[3,3] },type:=3,pos:= "keeps.go:29",after:=#[{ on:=4,ground:=.data }],guard:=none }
def qY:Oper:={ dst:=some 7,op:=.assign (.tmp 35),type:=3,pos:= "keeps.go:29",after:=#[{ on:=5,ground:=.data },{ on:=5,ground:=.chain },{ on:=0,ground:=.phase },{ on:=1,ground:=.phase },{ on:=2,ground:=.phase },{ on:=3,ground:=.phase },{ on:=4,ground:=.phase },{ on:=5,ground:=.phase }],guard:=none }
def dU:Array Oper:=#[qQ,qR,qU,qV,qW,qX,qY]
def qZ:Oper:={ dst:=some 36,op:=.move (.tmp 3),type:=28,pos:= "keeps.go:30",after:=#[],guard:=none }
def rC:Oper:={ dst:=some 37,op:=.move (.tmp 5),type:=3,pos:= "keeps.go:30",after:=#[],guard:=none }
def rD:Oper:={ dst:=some 38,op:=.move (.tmp 6),type:=3,pos:= "keeps.go:30",after:=#[],guard:=none }
def rE:Oper:={ dst:=some 39,op:=.move (.tmp 7),type:=3,pos:= "keeps.go:30",after:=#[],guard:=none }
def rG:Oper:={ dst:=some 40,op:=.buildSlice 24 3 #[(0,.tmp 37),(1,.tmp 38),(2,.tmp 39)],type:=24,pos:= "keeps.go:30",after:=#[{ on:=1,ground:=.data },{ on:=2,ground:=.data },{ on:=3,ground:=.data }],guard:=none }
def rH:Oper:={ dst:=some 41,op:=.move (.tmp 0),type:=27,pos:= "keeps.go:30",after:=#[],guard:=none }
def rJ:Oper:={ dst:=some 42,op:=.move (.tmp 4),type:=3,pos:= "keeps.go:30",after:=#[],guard:=none }
def rM:Oper:={ dst:=some 43,op:=.indexAddr 27 (.tmp 41) (.tmp 42),type:=0,pos:= "keeps.go:30",after:=#[{ on:=5,ground:=.data },{ on:=6,ground:=.data }],guard:=none }
def rO:Oper:={ dst:=some 44,op:=.fieldAddr 83 (.tmp 43) 3,type:=0,pos:= "keeps.go:30",after:=#[{ on:=7,ground:=.data }],guard:=none }
def bP:Oper:={ dst:=some 45,op:=.load 3 (.tmp 44),type:=3,pos:= "keeps.go:30",after:=#[{ on:=8,ground:=.data }],guard:=none }
def oC:Oper:={ dst:=some 46,op:=.move (.tmp 0),type:=27,pos:= "keeps.go:30",after:=#[],guard:=none }
def oD:Oper:={ dst:=some 47,op:=.move (.tmp 4),type:=3,pos:= "keeps.go:30",after:=#[],guard:=none }
def oG:Oper:={ dst:=some 48,op:=.indexAddr 27 (.tmp 46) (.tmp 47),type:=0,pos:= "keeps.go:30",after:=#[{ on:=10,ground:=.data },{ on:=11,ground:=.data }],guard:=none }
def oH:Oper:={ dst:=some 49,op:=.fieldAddr 83 (.tmp 48) 4,type:=0,pos:= "keeps.go:30",after:=#[{ on:=12,ground:=.data }],guard:=none }
def aX:Oper:={ dst:=some 50,op:=.load 3 (.tmp 49),type:=3,pos:= "keeps.go:30",after:=#[{ on:=13,ground:=.data }],guard:=none }
def oI:Oper:={ dst:=some 51,op:=.build 50 #[(0,.tmp 40),(1,.tmp 45),(2,.tmp 50)],type:=50,pos:= "keeps.go:30",after:=#[{ on:=4,ground:=.data },{ on:=9,ground:=.data },{ on:=14,ground:=.data }],guard:=none }
def aY:Oper:={ dst:=some 52,op:=.buildSlice 28 1 #[(0,.tmp 51)],type:=28,pos:= "keeps.go:30",after:=#[{ on:=15,ground:=.data }],guard:=none }
def Jz4:Oper:={ dst:=some 53,op:=.call { callee:=.builtin .append,args:=#[.tmp 36,.tmp 52],argTypes:=#[28,28] },type:=28,pos:= "keeps.go:30",after:=#[{ on:=0,ground:=.data },{ on:=16,ground:=.data }],guard:=none }
def oJ:Oper:={ dst:=some 3,op:=.assign (.tmp 53),type:=28,pos:= "keeps.go:30",after:=#[{ on:=17,ground:=.data },{ on:=17,ground:=.chain },{ on:=0,ground:=.phase },{ on:=1,ground:=.phase },{ on:=2,ground:=.phase },{ on:=3,ground:=.phase },{ on:=4,ground:=.phase },{ on:=5,ground:=.phase },{ on:=6,ground:=.phase },{ on:=7,ground:=.phase },{ on:=8,ground:=.phase },{ on:=9,ground:=.phase },{ on:=10,ground:=.phase },{ on:=11,ground:=.phase },{ on:=12,ground:=.phase },{ on:=13,ground:=.phase },{ on:=14,ground:=.phase },{ on:=15,ground:=.phase },{ on:=16,ground:=.phase },{ on:=17,ground:=.phase }],guard:=none }
def MW:Array Oper:=#[qZ,rC,rD,rE,rG,rH,rJ,rM,rO,bP,oC,oD,oG,oH,aX,oI,aY,Jz4,oJ]
def rP:Oper:={ dst:=some 54,op:=.move (.tmp 3),type:=28,pos:= "keeps.go:32",after:=#[],guard:=none }
def rQ:Oper:={ dst:=some 2,op:=.assign (.tmp 54),type:=28,pos:= "keeps.go:32",after:=#[{ on:=0,ground:=.data },{ on:=0,ground:=.phase }],guard:=none }
def x6_9:Array Oper:=#[rP,rQ]
def tV:Code:=.seq (.seq (.region 3 O1 false) (.cond (.tmp 15) .skip (.exit 0))) (.seq (.block 1 (.seq (.region 5 dR false) (.seq (.region 6 dS false) (.seq (.region 7 dU false) (.region 8 MW true))))) (.region 4 dQ false))
def b6:Code:=.seq (.region 0 x6_0 false) (.seq (.region 1 x6_1 false) (.seq (.seq (.region 2 x6_2 false) (.block 0 (.loop tV))) (.seq (.region 9 x6_9 false) .ret)))
def body6:f13.body=some b6:=by kernel_rfl
def uS:GY C0 13:=⟨f13,by kernel_rfl,by kernel_rfl,by kernel_rfl⟩
def rU:C0.hl 13≠[]:=by show[0,9,18,20,21,24,26,27,30,32,33,41,43,44,46,48,49,1000]≠[];simp
def hl6{i:Nat}(h:(C0.hl 13).contains i=true):i≠2/\i≠3/\i≠4/\i≠5/\i≠6/\i≠7/\i≠23/\i≠29/\i≠35/\i≠53:=by have h':i∈[0,9,18,20,21,24,26,27,30,32,33,41,43,44,46,48,49,1000]:=Lj.1 h;simp only[AL,BU,or_false]at h';omega
structure F6(la:JI)(n cap k:Nat)(v3:JJ)(T:JC):Prop where
 sz:T.size=55
 s0:T[0]?=some (.slice la n cap)
 s2:T[2]?=some (.slice none 0 0)
 s3:T[3]?=some v3
 s4:T[4]?=some (.int .i64 k)
def F6.set{la:JI}{n cap k:Nat}{v3:JJ}{T:JC}(h:F6 la n cap k v3 T){s:Nat}(hs:5<=s)(v:JJ):F6 la n cap k v3 (T.setIfInBounds s v):=by obtain⟨h1,h2,h3,h4,h5⟩:=h;refine⟨by simpa using h1,?_,?_,?_,?_⟩<;>rw[AV (by omega)]<;>assumption
section
variable{W E0 E:JB}{w0 w:JE}{T:JC}{la:JI}{n cap k b o:Nat}{v3:JJ}{x:Int}{kk:List Item}{cs:List Frame}{Post:(JB)->JF->JE->Prop}
def fld5(H:HS 13 W E0 w0 E T w)(F:F6 la n cap k v3 T)(Qa:la=some ⟨b,o,none⟩)(hk:k<n)(hW:W b)(hT:∀c z,w.heap[b]?≠some (.cells c wgT z))(hc:w.cell? ⟨b,o+k*5,none⟩=some (.int .i64 x))(hx:I64 x)
  (kn:∀E' T' w',HS 13 W E0 w0 E' T' w'->F6 la n cap k v3 T'->T'[5]?=some (.int .i64 (Jr x 4))->(∀s,2<=s->s<8->s≠5->T'[s]?=T[s]?)->(∀b,E b->E' b)->Reach prog Post W (G ((base 13).at ⟨T',[]⟩ kk) cs) w') :
  Reach prog Post W (G ((base 13).at ⟨T,[]⟩ (.code (.region 5 dR false)::kk)) cs) w:=by
 subst Qa;have sz:=F.sz;have s0:=F.s0;have s4:=F.s4;have D6:(k:Int)<n:=by omega
 have ct:∀{d:Nat}{h:Array Obj}(z:JE),z.heap=w.heap->z.cell? ⟨b,o+k*5,none⟩=some (.int .i64 x):=λz hz=>(Du (by rw[hz])).trans hc;refine J6 (λw1=>stepG_region) rfl λd1=>?_;rw[show List.range dR.size=[0,1,2,3,4]++([5]++[6])from rfl];have H:=H.at d1;refine Jb (o:=pW) (v:=.slice (some ⟨b,o,none⟩) n cap) H rfl rfl rfl (λw1=>by simp[execOp,go_sem,pW,s0];try rfl) (λw1=>by simp[execOp,go_sem,pW,s0];try rfl) (.inl rfl) λw1 H h1=>?_;refine Jb (o:=pX) (v:=.int .i64 k) H rfl rfl rfl (λw1=>by simp[execOp,go_sem,pX,s4];try rfl) (λw1=>by simp[execOp,go_sem,pX,s4];try rfl) (.inr (.int _ _)) λw2 H h2=>?_;refine Jb (o:=pY) (v:=pt b (o+k*5)) H rfl rfl rfl (λw1=>by simp[execOp,go_sem,pY,sz,D6];try rfl) (λw1=>by simp[execOp,go_sem,pY,sz,D6];try rfl) (.inl rfl) λw3 H h3=>?_;refine Jb (o:=qE) (v:=pt b (o+k*5)) H rfl rfl rfl (λw1=>by simp[execOp,go_sem,qE,sz];try rfl) (λw1=>by simp[execOp,go_sem,qE,sz];try rfl) (.inl rfl) λw4 H h4=>?_;have e4:w4.heap=w.heap:=h4.trans (h3.trans (h2.trans h1));refine aW (o:=qG) (v:=.int .i64 x) (a:=⟨b,o+k*5,none⟩) H hW (by rw[e4];exact hT) (ct (d:=0) (h:=#[]) w4 e4) rfl rfl rfl (λw1 DF=>by simp[execOp,go_sem,qG,sz,DF];try rfl) (λw1 DF=>by simp[execOp,go_sem,qG,sz,DF];try rfl) (.inr (.int _ _)) λw5 H h5 II=>?_;have pa:=Yo (n:=4) hx (by omega) (by omega);refine pG (pre:=[5]) (rest:=[6]) (Q:=λT2 w2=>T2=(((((T.setIfInBounds 18 (.slice (some ⟨b,o,none⟩) n cap)).setIfInBounds 19 (.int .i64 k)).setIfInBounds 20 (pt b (o+k*5))).setIfInBounds 21 (pt b (o+k*5))).setIfInBounds 22 (.int .i64 x)).setIfInBounds 23 (.int .i64 (Jr x 4))/\w2.heap=w5.heap) H (by kernel_rfl) (by simp) uS rfl rU (λτ=>?_) λE6 T6 w6' w6 KT SB SH V8 ⟨q1,q2⟩ kZ=>?_
 .rw[wpOps_cons];refine Rz (o:=qH) (w':=w5.tp τ 0) (i:=5) (f:=18) (args:=#[.int .i64 x,.int .i64 4]) rfl rfl (by simp[execOp,go_sem,qH,sz];try rfl) (pa _) ?_;rintro e w2 ⟨rfl,rfl⟩;refine⟨_,rfl,?_⟩;simp only[wpOps,Act.put,qH];refine⟨trivial,trivial,λi hi Nq=>?_,trivial,rfl⟩;have:=hl6 hi;exact AV (by omega)
 subst q1;have H:=(H.to SB KT ((KE.of_eq (λb _=>by rw[q2])).trans ((Jt rfl SH).mono KT)) kZ (by rw[SH.lsz rfl,q2];exact Ad _)).put V8;refine Jb (o:=qI) (v:=.int .i64 (Jr x 4)) H rfl rfl rfl (λw1=>by simp[execOp,go_sem,qI,sz];try rfl) (λw1=>by simp[execOp,go_sem,qI,sz];try rfl) (.inr (.int _ _)) λw7 H h7=>?_;refine J6 (λw1=>stepG_region_end) rfl λd2=>?_;refine kn _ _ _ (H.at d2) (((((((F.set (by omega) _).set (by omega) _).set (by omega) _).set (by omega) _).set (by omega) _).set (by omega) _).set (by omega) _) (by simp[sz]) (λs h2 h8 hq=>?_) KT;simp only[Gj]
 repeat rw[if_neg (by omega)]
def fld6(H:HS 13 W E0 w0 E T w)(F:F6 la n cap k v3 T)(Qa:la=some ⟨b,o,none⟩)(hk:k<n)(hW:W b)(hT:∀c z,w.heap[b]?≠some (.cells c wgT z))(hc:w.cell? ⟨b,o+k*5+1,none⟩=some (.int .i64 x))(hx:I64 x)
  (kn:∀E' T' w',HS 13 W E0 w0 E' T' w'->F6 la n cap k v3 T'->T'[6]?=some (.int .i64 (Jr x 4))->(∀s,2<=s->s<8->s≠6->T'[s]?=T[s]?)->(∀b,E b->E' b)->Reach prog Post W (G ((base 13).at ⟨T',[]⟩ kk) cs) w') :
  Reach prog Post W (G ((base 13).at ⟨T,[]⟩ (.code (.region 6 dS false)::kk)) cs) w:=by
 subst Qa;have sz:=F.sz;have s0:=F.s0;have s4:=F.s4;have D6:(k:Int)<n:=by omega
 have ct:∀{d:Nat}{h:Array Obj}(z:JE),z.heap=w.heap->z.cell? ⟨b,o+k*5+1,none⟩=some (.int .i64 x):=λz hz=>(Du (by rw[hz])).trans hc;refine J6 (λw1=>stepG_region) rfl λd1=>?_;rw[show List.range dS.size=[0,1,2,3,4]++([5]++[6])from rfl];have H:=H.at d1;refine Jb (o:=qJ) (v:=.slice (some ⟨b,o,none⟩) n cap) H rfl rfl rfl (λw1=>by simp[execOp,go_sem,qJ,s0];try rfl) (λw1=>by simp[execOp,go_sem,qJ,s0];try rfl) (.inl rfl) λw1 H h1=>?_;refine Jb (o:=qK) (v:=.int .i64 k) H rfl rfl rfl (λw1=>by simp[execOp,go_sem,qK,s4];try rfl) (λw1=>by simp[execOp,go_sem,qK,s4];try rfl) (.inr (.int _ _)) λw2 H h2=>?_;refine Jb (o:=qL) (v:=pt b (o+k*5)) H rfl rfl rfl (λw1=>by simp[execOp,go_sem,qL,sz,D6];try rfl) (λw1=>by simp[execOp,go_sem,qL,sz,D6];try rfl) (.inl rfl) λw3 H h3=>?_;refine Jb (o:=qM) (v:=pt b (o+k*5+1)) H rfl rfl rfl (λw1=>by simp[execOp,go_sem,qM,sz];try rfl) (λw1=>by simp[execOp,go_sem,qM,sz];try rfl) (.inl rfl) λw4 H h4=>?_;have e4:w4.heap=w.heap:=h4.trans (h3.trans (h2.trans h1));refine aW (o:=qN) (v:=.int .i64 x) (a:=⟨b,o+k*5+1,none⟩) H hW (by rw[e4];exact hT) (ct (d:=0) (h:=#[]) w4 e4) rfl rfl rfl (λw1 DF=>by simp[execOp,go_sem,qN,sz,DF];try rfl) (λw1 DF=>by simp[execOp,go_sem,qN,sz,DF];try rfl) (.inr (.int _ _)) λw5 H h5 II=>?_;have pa:=Yo (n:=4) hx (by omega) (by omega);refine pG (pre:=[5]) (rest:=[6]) (Q:=λT2 w2=>T2=(((((T.setIfInBounds 24 (.slice (some ⟨b,o,none⟩) n cap)).setIfInBounds 25 (.int .i64 k)).setIfInBounds 26 (pt b (o+k*5))).setIfInBounds 27 (pt b (o+k*5+1))).setIfInBounds 28 (.int .i64 x)).setIfInBounds 29 (.int .i64 (Jr x 4))/\w2.heap=w5.heap) H (by kernel_rfl) (by simp) uS rfl rU (λτ=>?_) λE6 T6 w6' w6 KT SB SH V8 ⟨q1,q2⟩ kZ=>?_
 .rw[wpOps_cons];refine Rz (o:=qO) (w':=w5.tp τ 0) (i:=5) (f:=18) (args:=#[.int .i64 x,.int .i64 4]) rfl rfl (by simp[execOp,go_sem,qO,sz];try rfl) (pa _) ?_;rintro e w2 ⟨rfl,rfl⟩;refine⟨_,rfl,?_⟩;simp only[wpOps,Act.put,qO];refine⟨trivial,trivial,λi hi Nq=>?_,trivial,rfl⟩;have:=hl6 hi;exact AV (by omega)
 subst q1;have H:=(H.to SB KT ((KE.of_eq (λb _=>by rw[q2])).trans ((Jt rfl SH).mono KT)) kZ (by rw[SH.lsz rfl,q2];exact Ad _)).put V8;refine Jb (o:=qP) (v:=.int .i64 (Jr x 4)) H rfl rfl rfl (λw1=>by simp[execOp,go_sem,qP,sz];try rfl) (λw1=>by simp[execOp,go_sem,qP,sz];try rfl) (.inr (.int _ _)) λw7 H h7=>?_;refine J6 (λw1=>stepG_region_end) rfl λd2=>?_;refine kn _ _ _ (H.at d2) (((((((F.set (by omega) _).set (by omega) _).set (by omega) _).set (by omega) _).set (by omega) _).set (by omega) _).set (by omega) _) (by simp[sz]) (λs h2 h8 hq=>?_) KT;simp only[Gj]
 repeat rw[if_neg (by omega)]
def fld7(H:HS 13 W E0 w0 E T w)(F:F6 la n cap k v3 T)(Qa:la=some ⟨b,o,none⟩)(hk:k<n)(hW:W b)(hT:∀c z,w.heap[b]?≠some (.cells c wgT z))(hc:w.cell? ⟨b,o+k*5+2,none⟩=some (.int .i64 x))(hx:I64 x)
  (kn:∀E' T' w',HS 13 W E0 w0 E' T' w'->F6 la n cap k v3 T'->T'[7]?=some (.int .i64 (Jr x 4))->(∀s,2<=s->s<8->s≠7->T'[s]?=T[s]?)->(∀b,E b->E' b)->Reach prog Post W (G ((base 13).at ⟨T',[]⟩ kk) cs) w') :
  Reach prog Post W (G ((base 13).at ⟨T,[]⟩ (.code (.region 7 dU false)::kk)) cs) w:=by
 subst Qa;have sz:=F.sz;have s0:=F.s0;have s4:=F.s4;have D6:(k:Int)<n:=by omega
 have ct:∀{d:Nat}{h:Array Obj}(z:JE),z.heap=w.heap->z.cell? ⟨b,o+k*5+2,none⟩=some (.int .i64 x):=λz hz=>(Du (by rw[hz])).trans hc;refine J6 (λw1=>stepG_region) rfl λd1=>?_;rw[show List.range dU.size=[0,1,2,3,4]++([5]++[6])from rfl];have H:=H.at d1;refine Jb (o:=qQ) (v:=.slice (some ⟨b,o,none⟩) n cap) H rfl rfl rfl (λw1=>by simp[execOp,go_sem,qQ,s0];try rfl) (λw1=>by simp[execOp,go_sem,qQ,s0];try rfl) (.inl rfl) λw1 H h1=>?_;refine Jb (o:=qR) (v:=.int .i64 k) H rfl rfl rfl (λw1=>by simp[execOp,go_sem,qR,s4];try rfl) (λw1=>by simp[execOp,go_sem,qR,s4];try rfl) (.inr (.int _ _)) λw2 H h2=>?_;refine Jb (o:=qU) (v:=pt b (o+k*5)) H rfl rfl rfl (λw1=>by simp[execOp,go_sem,qU,sz,D6];try rfl) (λw1=>by simp[execOp,go_sem,qU,sz,D6];try rfl) (.inl rfl) λw3 H h3=>?_;refine Jb (o:=qV) (v:=pt b (o+k*5+2)) H rfl rfl rfl (λw1=>by simp[execOp,go_sem,qV,sz];try rfl) (λw1=>by simp[execOp,go_sem,qV,sz];try rfl) (.inl rfl) λw4 H h4=>?_;have e4:w4.heap=w.heap:=h4.trans (h3.trans (h2.trans h1));refine aW (o:=qW) (v:=.int .i64 x) (a:=⟨b,o+k*5+2,none⟩) H hW (by rw[e4];exact hT) (ct (d:=0) (h:=#[]) w4 e4) rfl rfl rfl (λw1 DF=>by simp[execOp,go_sem,qW,sz,DF];try rfl) (λw1 DF=>by simp[execOp,go_sem,qW,sz,DF];try rfl) (.inr (.int _ _)) λw5 H h5 II=>?_;have pa:=Yo (n:=4) hx (by omega) (by omega);refine pG (pre:=[5]) (rest:=[6]) (Q:=λT2 w2=>T2=(((((T.setIfInBounds 30 (.slice (some ⟨b,o,none⟩) n cap)).setIfInBounds 31 (.int .i64 k)).setIfInBounds 32 (pt b (o+k*5))).setIfInBounds 33 (pt b (o+k*5+2))).setIfInBounds 34 (.int .i64 x)).setIfInBounds 35 (.int .i64 (Jr x 4))/\w2.heap=w5.heap) H (by kernel_rfl) (by simp) uS rfl rU (λτ=>?_) λE6 T6 w6' w6 KT SB SH V8 ⟨q1,q2⟩ kZ=>?_
 .rw[wpOps_cons];refine Rz (o:=qX) (w':=w5.tp τ 0) (i:=5) (f:=18) (args:=#[.int .i64 x,.int .i64 4]) rfl rfl (by simp[execOp,go_sem,qX,sz];try rfl) (pa _) ?_;rintro e w2 ⟨rfl,rfl⟩;refine⟨_,rfl,?_⟩;simp only[wpOps,Act.put,qX];refine⟨trivial,trivial,λi hi Nq=>?_,trivial,rfl⟩;have:=hl6 hi;exact AV (by omega)
 subst q1;have H:=(H.to SB KT ((KE.of_eq (λb _=>by rw[q2])).trans ((Jt rfl SH).mono KT)) kZ (by rw[SH.lsz rfl,q2];exact Ad _)).put V8;refine Jb (o:=qY) (v:=.int .i64 (Jr x 4)) H rfl rfl rfl (λw1=>by simp[execOp,go_sem,qY,sz];try rfl) (λw1=>by simp[execOp,go_sem,qY,sz];try rfl) (.inr (.int _ _)) λw7 H h7=>?_;refine J6 (λw1=>stepG_region_end) rfl λd2=>?_;refine kn _ _ _ (H.at d2) (((((((F.set (by omega) _).set (by omega) _).set (by omega) _).set (by omega) _).set (by omega) _).set (by omega) _).set (by omega) _) (by simp[sz]) (λs h2 h8 hq=>?_) KT;simp only[Gj]
 repeat rw[if_neg (by omega)]
end
inductive PD(b0:Nat)(E:JB)(w:JE):List (Nat × Obj)->Prop
 |nil:PD b0 E w []
 |cons{p:Nat × Obj}{H:List (Nat × Obj)}(h:b0<=p.1/\E p.1/\w.heap[p.1]?=some p.2)(t:PD b0 E w H):PD b0 E w (p::H)
def PD.hd{b0:Nat}{E:JB}{w:JE}{p:Nat × Obj}{H:List (Nat × Obj)}(h:PD b0 E w (p::H)):b0<=p.1/\E p.1/\w.heap[p.1]?=some p.2:=by cases h;assumption
def PD.tl{b0:Nat}{E:JB}{w:JE}{p:Nat × Obj}{H:List (Nat × Obj)}(h:PD b0 E w (p::H)):PD b0 E w H:=by cases h;assumption
def PD.up{b0:Nat}{E E':JB}{w w':JE}{H:List (Nat × Obj)}(h:PD b0 E w H)(hs:∀b,E b->E' b)(hh:∀b,E b->w'.heap[b]?=w.heap[b]?):PD b0 E' w' H:=by
 induction h with
 |nil=>exact .nil
 |cons h _ ih=>exact .cons ⟨h.1,hs _ h.2.1,(hh _ h.2.1).trans h.2.2⟩ ih
def FJ(b0:Nat)(vv:JJ)(b o n cap k:Nat)(f:Jd)(A B C:Int)(E:JB)(w:JE)(i:Nat)(v:JJ):Prop:=∃H,J019 vv b o n cap k f A B C i v H/\PD b0 E w H
def FJ.up{b0:Nat}{vv:JJ}{b o n cap k:Nat}{f:Jd}{A B C:Int}{E E':JB}{w w':JE}{i:Nat}{v:JJ}(h:FJ b0 vv b o n cap k f A B C E w i v)(hs:∀b,E b->E' b)(hh:∀b,E b->w'.heap[b]?=w.heap[b]?):FJ b0 vv b o n cap k f A B C E' w' i v:=by obtain⟨H,h1,h2⟩:=h;exact⟨H,h1,h2.up hs hh⟩
def dag8:RU .any MW 17 (λi=>i+36)=true:=by kernel_rfl
def Jz5{E:JB}{kb:Nat}{x y:Int}(h:E kb):VR C0 (idE E) (.agg #[.slice (some ⟨kb,0,none⟩) 3 3,.int .i64 x,.int .i64 y]) (.agg #[.slice (some ⟨kb,0,none⟩) 3 3,.int .i64 x,.int .i64 y]):=by
 refine .agg rfl λi x x' h1 h2=>?_;rw[h1]at h2;cases h2
 match i with
 |0=>cases h1;exact .slice _ _ _ _ ⟨rfl,h⟩
 |1=>cases h1;exact .int _ _
 |2=>cases h1;exact .int _ _
 |i+3=>simp at h1
section
variable{W E0 E:JB}{w0 w:JE}{T:JC}{n cap k b o:Nat}{v3:JJ}{f:Jd}{A B C:Int}{kk:List Item}{cs:List Frame}{Post:(JB)->JF->JE->Prop}
def J059(hk:(k:Int)<n)(hW:W b)(hT:∀c z,w0.heap[b]?≠some (.cells c wgT z))(PV:w0.cell? ⟨b,o+k*5+3,none⟩=some (.int .i64 f.it))(Xq:w0.cell? ⟨b,o+k*5+4,none⟩=some (.int .i64 f.v))
  (kn:∀E T w,HS 13 W E0 w0 E T w->F6 (some ⟨b,o,none⟩) n cap k v3 T->(∀i,i<17->∃v,T[i+36]?=some v/\FJ w0.heap.size v3 b o n cap k f A B C E w i v)->Reach prog Post W (G ((base 13).at ⟨T,[]⟩ (.inRegion MW [17,18]::kk)) cs) w) :
  ∀(listed:Array Bool)(pre:List Nat),Wk MW 17 listed pre->∀E T w,listed.size=19->HS 13 W E0 w0 E T w->F6 (some ⟨b,o,none⟩) n cap k v3 T->T[5]?=some (.int .i64 A)->T[6]?=some (.int .i64 B)->T[7]?=some (.int .i64 C) ->
   (∀i,i<17->listed[i]?=some true->∃v,T[i+36]?=some v/\FJ w0.heap.size v3 b o n cap k f A B C E w i v)->Reach prog Post W (G ((base 13).at ⟨T,[]⟩ (.inRegion MW (pre++[17,18])::kk)) cs) w:=by
 intro listed pre Zl
 induction Zl with
 |done h=>exactλE T w OQ H F s5 s6 s7 hJ=>kn E T w H F λi hi=>hJ i hi (h i hi)
 |@step listed i pre hi hr _ ih=>
  intro E T w OQ H F s5 s6 s7 hJ;obtain⟨hin,hf,o2x,ho,BK⟩:=Tt hr;obtain⟨o2,Zf,hg,Vu,Il,_⟩:=(oW dag8).2.1 i hi;obtain rfl:o2=o2x:=by rw[ho]at Zf;exact(Aa Zf).symm
  have sz:=F.sz;have s0:=F.s0;have s3:=F.s3;have s4:=F.s4;have Tc:VR C0 (idE E) v3 v3:=H.tm.slot (i:=3) rfl s3;have hd:∀j,(o2.after.toList.any λe=>e.on == j && Region.binds .any e)=true->∃v,T[j+36]?=some v/\FJ w0.heap.size v3 b o n cap k f A B C E w j v:=λj hj=>by obtain⟨e,he,h⟩:=List.any_eq_true.1 hj;rw[Bh,beq_iff_eq]at h;obtain⟨rfl,hb⟩:=h;exact hJ _ (by have:=Il e (Array.mem_toList_iff.1 he);omega) (BK e (Array.mem_toList_iff.1 he) hb)
  have GX:∀E' v w',HS 13 W E0 w0 E' (T.setIfInBounds (i+36) v) w'->(∀b,E b->E' b)->(∀b,E b->w'.heap[b]?=w.heap[b]?)->FJ w0.heap.size v3 b o n cap k f A B C E' w' i v->Reach prog Post W (G ((base 13).at ⟨T.setIfInBounds (i+36) v,[]⟩ (.inRegion MW (pre++[17,18])::kk)) cs) w':=λE' v w' H' hs hh hv=>by
   refine ih E' _ w' (by simpa using OQ) H' (F.set (by omega) v) ?_ ?_ ?_ λj hj hl=>?_
   .rw[AV (by omega)];exact s5
   .rw[AV (by omega)];exact s6
   .rw[AV (by omega)];exact s7
   .by_cases e:j=i
    .subst e;exact⟨v,by rw[FC (by omega)],hv⟩
    .rw[AV (Ne.symm e)]at hl;obtain⟨x,h1,h2⟩:=hJ j hj hl;exact⟨x,by rw[AV (by omega)];exact h1,h2.up hs hh⟩
  have Jp:∀v,(∀w1,(execOp (Act.eval ⟨T,[]⟩) o2).run prog w1=.ok (.value v) w1)->(∀w1,(execOp (Act.eval ⟨T,[]⟩) o2).events prog w1 #[]=#[])->((C0.hl 13).contains (i+36)=true\/VR C0 (idE E) v v)->FJ w0.heap.size v3 b o n cap k f A B C E w i v ->
    Reach prog Post W (G ((base 13).at ⟨T,[]⟩ (.inRegion MW (i::(pre++[17,18]))::kk)) cs) w:=λv hr he hv hj=>by
   exact Jb H ho (by simp[Region.wanted,hg]) Vu hr he hv λw' H' hh=>GX E v w' H' (λb hb=>hb) (λb _=>by rw[hh]) (hj.up (λb hb=>hb) λb _=>by rw[hh])
  show Reach prog Post W (G ((base 13).at ⟨T,[]⟩ (.inRegion MW (i::(pre++[17,18]))::kk)) cs) w
  revert ho hd Jp GX
  clear hf hr hin ih BK Zf Il hg Vu
  match i,hi with
  |0,_=>
   intro ho hd GX Jp;obtain rfl:o2=qZ:=(Aa ho).symm;exact Jp v3 (λw1=>by simp[execOp,go_sem,qZ,s3];try rfl) (λw1=>by simp[execOp,go_sem,qZ,s3];try rfl) (.inr Tc) ⟨[],⟨rfl,rfl⟩,.nil⟩
  |1,_=>
   intro ho hd GX Jp;obtain rfl:o2=rC:=(Aa ho).symm;exact Jp (.int .i64 A) (λw1=>by simp[execOp,go_sem,rC,s5];try rfl) (λw1=>by simp[execOp,go_sem,rC,s5];try rfl) (.inr (.int _ _)) ⟨[],⟨rfl,rfl⟩,.nil⟩
  |2,_=>
   intro ho hd GX Jp;obtain rfl:o2=rD:=(Aa ho).symm;exact Jp (.int .i64 B) (λw1=>by simp[execOp,go_sem,rD,s6];try rfl) (λw1=>by simp[execOp,go_sem,rD,s6];try rfl) (.inr (.int _ _)) ⟨[],⟨rfl,rfl⟩,.nil⟩
  |3,_=>
   intro ho hd GX Jp;obtain rfl:o2=rE:=(Aa ho).symm;exact Jp (.int .i64 C) (λw1=>by simp[execOp,go_sem,rE,s7];try rfl) (λw1=>by simp[execOp,go_sem,rE,s7];try rfl) (.inr (.int _ _)) ⟨[],⟨rfl,rfl⟩,.nil⟩
  |4,_=>
   intro ho hd GX Jp;obtain rfl:=(Aa ho).symm;obtain⟨_,e1,H1,⟨rfl,rfl⟩,l1⟩:=hd 1 rfl;obtain⟨_,e2,H2,⟨rfl,rfl⟩,l2⟩:=hd 2 rfl;obtain⟨_,e3,H3,⟨rfl,rfl⟩,l3⟩:=hd 3 rfl;refine Jkd (o:=rG) (v:=.slice (some ⟨w.heap.size,0,none⟩) 3 3) (arr:=#[.int .i64 A,.int .i64 B,.int .i64 C]) (ty:=3) H rfl rfl rfl (λw1 hz=>by simp[execOp,go_sem,rG,e1,e2,e3,hz];try rfl) (λw1=>by simp[execOp,go_sem,rG,e1,e2,e3];try rfl) (λx hx=>?_) (.inr (.slice _ _ _ _ ⟨rfl,.inr rfl⟩)) λw' H' hk hb hz=>?_
   .simp only[AL,BU,or_false]at hx;rcases hx with rfl|rfl|rfl<;>exact .int _ _
   .exact GX _ _ _ H' (λb hb=>.inl hb) (λb hb=>hk b (.inl hb)) ⟨_,⟨_,rfl,rfl⟩,.cons ⟨H.sz,.inr rfl,hb⟩ .nil⟩
  |5,_=>
   intro ho hd GX Jp;obtain rfl:o2=rH:=(Aa ho).symm;exact Jp (.slice (some ⟨b,o,none⟩) n cap) (λw1=>by simp[execOp,go_sem,rH,s0];try rfl) (λw1=>by simp[execOp,go_sem,rH,s0];try rfl) (.inl rfl) ⟨[],⟨rfl,rfl⟩,.nil⟩
  |10,_=>
   intro ho hd GX Jp;obtain rfl:o2=oC:=(Aa ho).symm;exact Jp (.slice (some ⟨b,o,none⟩) n cap) (λw1=>by simp[execOp,go_sem,oC,s0];try rfl) (λw1=>by simp[execOp,go_sem,oC,s0];try rfl) (.inl rfl) ⟨[],⟨rfl,rfl⟩,.nil⟩
  |6,_=>
   intro ho hd GX Jp;obtain rfl:o2=rJ:=(Aa ho).symm;exact Jp (.int .i64 k) (λw1=>by simp[execOp,go_sem,rJ,s4];try rfl) (λw1=>by simp[execOp,go_sem,rJ,s4];try rfl) (.inr (.int _ _)) ⟨[],⟨rfl,rfl⟩,.nil⟩
  |11,_=>
   intro ho hd GX Jp;obtain rfl:o2=oD:=(Aa ho).symm;exact Jp (.int .i64 k) (λw1=>by simp[execOp,go_sem,oD,s4];try rfl) (λw1=>by simp[execOp,go_sem,oD,s4];try rfl) (.inr (.int _ _)) ⟨[],⟨rfl,rfl⟩,.nil⟩
  |7,_=>
   intro ho hd GX Jp;obtain rfl:o2=rM:=(Aa ho).symm;obtain⟨_,e5,H5,⟨rfl,rfl⟩,l5⟩:=hd 5 rfl;obtain⟨_,e6,H6,⟨rfl,rfl⟩,l6⟩:=hd 6 rfl;exact Jp (pt b (o+k*5)) (λw1=>by simp[execOp,go_sem,rM,e5,e6,hk];try rfl) (λw1=>by simp[execOp,go_sem,rM,e5,e6,hk];try rfl) (.inl rfl) ⟨[],⟨rfl,rfl⟩,.nil⟩
  |8,_=>
   intro ho hd GX Jp;obtain rfl:o2=rO:=(Aa ho).symm;obtain⟨_,e7,H7,⟨rfl,rfl⟩,l7⟩:=hd 7 rfl;exact Jp (pt b (o+k*5+3)) (λw1=>by simp[execOp,go_sem,rO,e7];try rfl) (λw1=>by simp[execOp,go_sem,rO,e7];try rfl) (.inl rfl) ⟨[],⟨rfl,rfl⟩,.nil⟩
  |12,_=>
   intro ho hd GX Jp;obtain rfl:o2=oG:=(Aa ho).symm;obtain⟨_,e5,H5,⟨rfl,rfl⟩,l5⟩:=hd 10 rfl;obtain⟨_,e6,H6,⟨rfl,rfl⟩,l6⟩:=hd 11 rfl;exact Jp (pt b (o+k*5)) (λw1=>by simp[execOp,go_sem,oG,e5,e6,hk];try rfl) (λw1=>by simp[execOp,go_sem,oG,e5,e6,hk];try rfl) (.inl rfl) ⟨[],⟨rfl,rfl⟩,.nil⟩
  |13,_=>
   intro ho hd GX Jp;obtain rfl:o2=oH:=(Aa ho).symm;obtain⟨_,e7,H7,⟨rfl,rfl⟩,l7⟩:=hd 12 rfl;exact Jp (pt b (o+k*5+4)) (λw1=>by simp[execOp,go_sem,oH,e7];try rfl) (λw1=>by simp[execOp,go_sem,oH,e7];try rfl) (.inl rfl) ⟨[],⟨rfl,rfl⟩,.nil⟩
  |9,_=>
   intro ho hd GX Jp;obtain rfl:o2=bP:=(Aa ho).symm;obtain⟨_,e8,H8,⟨rfl,rfl⟩,l8⟩:=hd 8 rfl;refine aW (o:=bP) (v:=.int .i64 f.it) (a:=⟨b,o+k*5+3,none⟩) H hW (λc z=>by rw[H.kw b hW];exact hT c z) ((Du (H.kw b hW)).trans PV) rfl rfl rfl (λw1 DF=>by simp[execOp,go_sem,bP,e8,DF];try rfl) (λw1 DF=>by simp[execOp,go_sem,bP,e8,DF];try rfl) (.inr (.int _ _)) λw' H' hk hz=>?_;exact GX _ _ _ H' (λb hb=>hb) (λb hb=>hk b (.inl hb)) ⟨[],⟨rfl,rfl⟩,.nil⟩
  |14,_=>
   intro ho hd GX Jp;obtain rfl:o2=aX:=(Aa ho).symm;obtain⟨_,e8,H8,⟨rfl,rfl⟩,l8⟩:=hd 13 rfl;refine aW (o:=aX) (v:=.int .i64 f.v) (a:=⟨b,o+k*5+4,none⟩) H hW (λc z=>by rw[H.kw b hW];exact hT c z) ((Du (H.kw b hW)).trans Xq) rfl rfl rfl (λw1 DF=>by simp[execOp,go_sem,aX,e8,DF];try rfl) (λw1 DF=>by simp[execOp,go_sem,aX,e8,DF];try rfl) (.inr (.int _ _)) λw' H' hk hz=>?_;exact GX _ _ _ H' (λb hb=>hb) (λb hb=>hk b (.inl hb)) ⟨[],⟨rfl,rfl⟩,.nil⟩
  |15,_=>
   intro ho hd GX Jp;obtain rfl:o2=oI:=(Aa ho).symm;obtain⟨_,e4,H4,⟨kb,rfl,rfl⟩,l4⟩:=hd 4 rfl;obtain⟨_,e9,H9,⟨rfl,rfl⟩,l9⟩:=hd 9 rfl;obtain⟨_,O5,H14,⟨rfl,rfl⟩,l14⟩:=hd 14 rfl;exact Jp (.agg #[.slice (some ⟨kb,0,none⟩) 3 3,.int .i64 f.it,.int .i64 f.v]) (λw1=>by simp[execOp,go_sem,oI,e4,e9,O5];try rfl) (λw1=>by simp[execOp,go_sem,oI,e4,e9,O5];try rfl) (.inr (Jz5 l4.hd.2.1)) ⟨_,⟨_,rfl,rfl⟩,l4⟩
  |16,_=>
   intro ho hd GX Jp;obtain rfl:o2=aY:=(Aa ho).symm;obtain⟨_,KG,H15,⟨kb,rfl,rfl⟩,lJ⟩:=hd 15 rfl;refine Jkd (o:=aY) (v:=.slice (some ⟨w.heap.size,0,none⟩) 1 1) (arr:=#[.slice (some ⟨kb,0,none⟩) 3 3,.int .i64 f.it,.int .i64 f.v]) (ty:=50) H rfl rfl rfl (λw1 hz=>by simp[execOp,go_sem,aY,KG,hz];try rfl) (λw1=>by simp[execOp,go_sem,aY,KG];try rfl) (λx hx=>?_) (.inr (.slice _ _ _ _ ⟨rfl,.inr rfl⟩)) λw' H' hk hb hz=>?_
   .simp only[AL,BU,or_false]at hx;rcases hx with rfl|rfl|rfl
    .exact .slice _ _ _ _ ⟨rfl,lJ.hd.2.1⟩
    .exact .int _ _
    .exact .int _ _
   .exact GX _ _ _ H' (λb hb=>.inl hb) (λb hb=>hk b (.inl hb)) ⟨_,⟨_,_,rfl,rfl⟩,.cons ⟨H.sz,.inr rfl,hb⟩ (lJ.up (λb hb=>.inl hb) λb hb=>hk b (.inl hb))⟩
  |i+17,h=>exact absurd h (by omega)
end
section
variable{W E0 E:JB}{w0 w:JE}{T:JC}{la:JI}{n cap k:Nat}{v3:JJ}{kk:List Item}{cs:List Frame}{Post:(JB)->JF->JE->Prop}
def J02i(H:HS 13 W E0 w0 E T w)(F:F6 la n cap k v3 T)(Oe:(k:Int)<n)(BX:(k:Int)<200)
  (kn:∀T' w',HS 13 W E0 w0 E T' w'->F6 la n cap k v3 T'->T'[15]?=some (.bool true)->w'.heap=w.heap->Reach prog Post W (G ((base 13).at ⟨T',[]⟩ kk) cs) w') :
  Reach prog Post W (G ((base 13).at ⟨T,[]⟩ (.code (.region 3 O1 false)::kk)) cs) w:=by
 have sz:=F.sz;have s0:=F.s0;have s4:=F.s4;refine J6 (λw1=>stepG_region) rfl λd1=>?_;rw[show List.range O1.size=[0,1,2,3,4,5,6,7]from rfl];have H:=H.at d1;refine Jb (o:=RJ) (v:=.int .i64 k) H rfl rfl rfl (λw1=>by simp[execOp,go_sem,RJ,s4];try rfl) (λw1=>by simp[execOp,go_sem,RJ,s4];try rfl) (.inr (.int _ _)) λw0 H h0=>?_;refine Jb (o:=RN) (v:=.slice la n cap) H rfl rfl rfl (λw1=>by simp[execOp,go_sem,RN,s0];try rfl) (λw1=>by simp[execOp,go_sem,RN,s0];try rfl) (.inl rfl) λw1 H h1=>?_;refine Jb (o:=RP) (v:=.int .i64 n) H rfl rfl rfl (λw1=>by simp[execOp,go_sem,RP,sz];try rfl) (λw1=>by simp[execOp,go_sem,RP,sz];try rfl) (.inr (.int _ _)) λw2 H h2=>?_;refine Jb (o:=RQ) (v:=.bool true) H rfl rfl rfl (λw1=>by simp[execOp,go_sem,RQ,sz,Oe];try rfl) (λw1=>by simp[execOp,go_sem,RQ,sz,Oe];try rfl) (.inr (.bool _)) λw3 H h3=>?_;refine Jb (o:=LW) (v:=.bool true) H rfl rfl rfl (λw1=>by simp[execOp,go_sem,LW,sz];try rfl) (λw1=>by simp[execOp,go_sem,LW,sz];try rfl) (.inr (.bool _)) λw4 H h4=>?_;refine Jb (o:=Qp) (v:=.int .i64 k) H rfl (by simp[Region.wanted,yielded,Qp,O1,LW,sz]) rfl (λw1=>by simp[execOp,go_sem,Qp,s4];try rfl) (λw1=>by simp[execOp,go_sem,Qp,s4];try rfl) (.inr (.int _ _)) λw5 H h5=>?_;refine Jb (o:=Qq) (v:=.bool true) H rfl (by simp[Region.wanted,yielded,Qq,O1,LW,sz]) rfl (λw1=>by simp[execOp,go_sem,Qq,sz,BX];try rfl) (λw1=>by simp[execOp,go_sem,Qq,sz,BX];try rfl) (.inr (.bool _)) λw6 H h6=>?_;refine Jb (o:=RS) (v:=.bool true) H rfl rfl rfl (λw1=>by simp[execOp,go_sem,RS,sz];try rfl) (λw1=>by simp[execOp,go_sem,RS,sz];try rfl) (.inr (.bool _)) λw7 H h7=>?_;refine J6 (λw1=>stepG_region_end) rfl λd2=>?_;exact kn _ _ (H.at d2) ((((((((F.set (by omega) _).set (by omega) _).set (by omega) _).set (by omega) _).set (by omega) _).set (by omega) _).set (by omega) _).set (by omega) _) (by simp[sz]) (h7.trans (h6.trans (h5.trans (h4.trans (h3.trans (h2.trans (h1.trans (h0.trans rfl))))))))
def J02j(H:HS 13 W E0 w0 E T w)(F:F6 la n cap k v3 T)(Oe:(k:Int)<n)(BX:¬(k:Int)<200)
  (kn:∀T' w',HS 13 W E0 w0 E T' w'->F6 la n cap k v3 T'->T'[15]?=some (.bool false)->w'.heap=w.heap->Reach prog Post W (G ((base 13).at ⟨T',[]⟩ kk) cs) w') :
  Reach prog Post W (G ((base 13).at ⟨T,[]⟩ (.code (.region 3 O1 false)::kk)) cs) w:=by
 have sz:=F.sz;have s0:=F.s0;have s4:=F.s4;refine J6 (λw1=>stepG_region) rfl λd1=>?_;rw[show List.range O1.size=[0,1,2,3,4,5,6,7]from rfl];have H:=H.at d1;refine Jb (o:=RJ) (v:=.int .i64 k) H rfl rfl rfl (λw1=>by simp[execOp,go_sem,RJ,s4];try rfl) (λw1=>by simp[execOp,go_sem,RJ,s4];try rfl) (.inr (.int _ _)) λw0 H h0=>?_;refine Jb (o:=RN) (v:=.slice la n cap) H rfl rfl rfl (λw1=>by simp[execOp,go_sem,RN,s0];try rfl) (λw1=>by simp[execOp,go_sem,RN,s0];try rfl) (.inl rfl) λw1 H h1=>?_;refine Jb (o:=RP) (v:=.int .i64 n) H rfl rfl rfl (λw1=>by simp[execOp,go_sem,RP,sz];try rfl) (λw1=>by simp[execOp,go_sem,RP,sz];try rfl) (.inr (.int _ _)) λw2 H h2=>?_;refine Jb (o:=RQ) (v:=.bool true) H rfl rfl rfl (λw1=>by simp[execOp,go_sem,RQ,sz,Oe];try rfl) (λw1=>by simp[execOp,go_sem,RQ,sz,Oe];try rfl) (.inr (.bool _)) λw3 H h3=>?_;refine Jb (o:=LW) (v:=.bool true) H rfl rfl rfl (λw1=>by simp[execOp,go_sem,LW,sz];try rfl) (λw1=>by simp[execOp,go_sem,LW,sz];try rfl) (.inr (.bool _)) λw4 H h4=>?_;refine Jb (o:=Qp) (v:=.int .i64 k) H rfl (by simp[Region.wanted,yielded,Qp,O1,LW,sz]) rfl (λw1=>by simp[execOp,go_sem,Qp,s4];try rfl) (λw1=>by simp[execOp,go_sem,Qp,s4];try rfl) (.inr (.int _ _)) λw5 H h5=>?_;refine Jb (o:=Qq) (v:=.bool false) H rfl (by simp[Region.wanted,yielded,Qq,O1,LW,sz]) rfl (λw1=>by simp[execOp,go_sem,Qq,sz,BX];try rfl) (λw1=>by simp[execOp,go_sem,Qq,sz,BX];try rfl) (.inr (.bool _)) λw6 H h6=>?_;refine Jb (o:=RS) (v:=.bool false) H rfl rfl rfl (λw1=>by simp[execOp,go_sem,RS,sz];try rfl) (λw1=>by simp[execOp,go_sem,RS,sz];try rfl) (.inr (.bool _)) λw7 H h7=>?_;refine J6 (λw1=>stepG_region_end) rfl λd2=>?_;exact kn _ _ (H.at d2) ((((((((F.set (by omega) _).set (by omega) _).set (by omega) _).set (by omega) _).set (by omega) _).set (by omega) _).set (by omega) _).set (by omega) _) (by simp[sz]) (h7.trans (h6.trans (h5.trans (h4.trans (h3.trans (h2.trans (h1.trans (h0.trans rfl))))))))
def J02k(H:HS 13 W E0 w0 E T w)(F:F6 la n cap k v3 T)(Oe:¬(k:Int)<n)
  (kn:∀T' w',HS 13 W E0 w0 E T' w'->F6 la n cap k v3 T'->T'[15]?=some (.bool false)->w'.heap=w.heap->Reach prog Post W (G ((base 13).at ⟨T',[]⟩ kk) cs) w') :
  Reach prog Post W (G ((base 13).at ⟨T,[]⟩ (.code (.region 3 O1 false)::kk)) cs) w:=by
 have sz:=F.sz;have s0:=F.s0;have s4:=F.s4;refine J6 (λw1=>stepG_region) rfl λd1=>?_;rw[show List.range O1.size=[0,1,2,3,4,5,6,7]from rfl];have H:=H.at d1;refine Jb (o:=RJ) (v:=.int .i64 k) H rfl rfl rfl (λw1=>by simp[execOp,go_sem,RJ,s4];try rfl) (λw1=>by simp[execOp,go_sem,RJ,s4];try rfl) (.inr (.int _ _)) λw0 H h0=>?_;refine Jb (o:=RN) (v:=.slice la n cap) H rfl rfl rfl (λw1=>by simp[execOp,go_sem,RN,s0];try rfl) (λw1=>by simp[execOp,go_sem,RN,s0];try rfl) (.inl rfl) λw1 H h1=>?_;refine Jb (o:=RP) (v:=.int .i64 n) H rfl rfl rfl (λw1=>by simp[execOp,go_sem,RP,sz];try rfl) (λw1=>by simp[execOp,go_sem,RP,sz];try rfl) (.inr (.int _ _)) λw2 H h2=>?_;refine Jb (o:=RQ) (v:=.bool false) H rfl rfl rfl (λw1=>by simp[execOp,go_sem,RQ,sz,Oe];try rfl) (λw1=>by simp[execOp,go_sem,RQ,sz,Oe];try rfl) (.inr (.bool _)) λw3 H h3=>?_;refine Jb (o:=LW) (v:=.bool false) H rfl rfl rfl (λw1=>by simp[execOp,go_sem,LW,sz];try rfl) (λw1=>by simp[execOp,go_sem,LW,sz];try rfl) (.inr (.bool _)) λw4 H h4=>?_;refine Jm6 (o:=Qp) H rfl (by simp[Region.wanted,yielded,Qp,O1,LW,sz]) rfl λw5 H h5=>?_;refine Jm6 (o:=Qq) H rfl (by simp[Region.wanted,yielded,Qq,O1,LW,sz]) rfl λw6 H h6=>?_;refine Jb (o:=RS) (v:=.bool false) H rfl rfl rfl (λw1=>by simp[execOp,go_sem,RS,sz];try rfl) (λw1=>by simp[execOp,go_sem,RS,sz];try rfl) (.inr (.bool _)) λw7 H h7=>?_;refine J6 (λw1=>stepG_region_end) rfl λd2=>?_;exact kn _ _ (H.at d2) ((((((((F.set (by omega) _).set (by omega) _).set (by omega) _).set (by omega) _).set (by omega) _).set (by omega) _).set (by omega) _).set (by omega) _) (by simp[sz]) (h7.trans (h6.trans (h5.trans (h4.trans (h3.trans (h2.trans (h1.trans (h0.trans rfl))))))))
def inc6(H:HS 13 W E0 w0 E T w)(F:F6 la n cap k v3 T)(hk:k<1000)
  (kn:∀T' w',HS 13 W E0 w0 E T' w'->F6 la n cap (k+1) v3 T'->w'.heap=w.heap->Reach prog Post W (G ((base 13).at ⟨T',[]⟩ kk) cs) w') :
  Reach prog Post W (G ((base 13).at ⟨T,[]⟩ (.code (.region 4 dQ false)::kk)) cs) w:=by
 have sz:=F.sz;have s4:=F.s4;have hw:IntKind.i64.wrap ((k:Int)+1)=((k+1:Nat):Int):=by simp[IntKind.wrap,IntKind.signed,IntKind.bits];omega
 refine J6 (λw1=>stepG_region) rfl λd1=>?_;rw[show List.range dQ.size=[0,1,2]from rfl];have H:=H.at d1;refine Jb (o:=pR) (v:=.int .i64 k) H rfl rfl rfl (λw1=>by simp[execOp,go_sem,pR,s4];try rfl) (λw1=>by simp[execOp,go_sem,pR,s4];try rfl) (.inr (.int _ _)) λw2 H h0=>?_;refine Jb (o:=pU) (v:=.int .i64 (k+1:Nat)) H rfl rfl rfl (λw1=>by simp[execOp,go_sem,pU,sz,hw];try rfl) (λw1=>by simp[execOp,go_sem,pU,sz];try rfl) (.inr (.int _ _)) λw3 H h1=>?_;refine Jb (o:=pV) (v:=.int .i64 (k+1:Nat)) H rfl rfl rfl (λw1=>by simp[execOp,go_sem,pV,sz];try rfl) (λw1=>by simp[execOp,go_sem,pV,sz];try rfl) (.inr (.int _ _)) λw4 H h2=>?_;refine J6 (λw1=>stepG_region_end) rfl λd2=>?_;obtain⟨f1,f2,f3,f4,f5⟩:=F;refine kn _ _ (H.at d2) ⟨by simpa using f1,?_,?_,?_,by simp[sz]⟩ (h2.trans (h1.trans h0))<;>(repeat rw[AV (by omega)])<;>assumption
def FN.keE{base:Nat}{v:JJ}{L:List (Jd × Nat)}{w':JE}(h:FN w base v L)(k:KE E w w')(hv:VR C0 (idE E) v v)(hE:∀p∈L,E p.2):FN w' base v L:=by
 refine⟨⟨h.own.1,?_⟩,λp hp=>⟨(h.rows p hp).1,(by obtain⟨cur,h1,h2⟩:=(h.rows p hp).2.1;exact⟨cur,k.blk (hE p hp) h1,h2⟩),(h.rows p hp).2.2⟩⟩;rcases h.own.2 with hn|⟨g,cap,cur,rfl,hb,hg,rest⟩
 .exact .inl hn
 .exact .inr ⟨g,cap,cur,rfl,hb,k _ _ hv.MQ hg trivial,rest⟩
def HS.to0{fn:JG}{E':JB}{w':JE}(h:HS fn W E0 w0 E T w)(hB:BOk C0 S0 W E' w')(hs:∀b,E b->E' b)(he:KE E0 w w')(hw:∀b,W b->w'.heap[b]?=w.heap[b]?)(hz:w.heap.size<=w'.heap.size){T':JC}(ht:TmR C0 S0 fn (idE E') T' T'):HS fn W E0 w0 E' T' w':=
 ⟨hB,λb hb=>hs b (h.le b hb),h.ke.trans he,λb hb=>(hw b hb).trans (h.kw b hb),ht,h.own,BN h.sz hz⟩
def Jrz{b o base:Nat}{f:Jd}{A B C:Int}{L:List (Jd × Nat)}(H:HS 13 W E0 w0 E T w)(F:F6 (some ⟨b,o,none⟩) n cap k v3 T)(s5:T[5]?=some (.int .i64 A))(s6:T[6]?=some (.int .i64 B))(s7:T[7]?=some (.int .i64 C))(hk:(k:Int)<n)(hW:W b)(hT:∀c z,w.heap[b]?≠some (.cells c wgT z))(PV:w.cell? ⟨b,o+k*5+3,none⟩=some (.int .i64 f.it))(Xq:w.cell? ⟨b,o+k*5+4,none⟩=some (.int .i64 f.v))
  (hL:FN w base v3 L) (Vq:∀p∈L,E p.2) (CQ:base<=w0.heap.size) (fK:∀b,E0 b->b<base) (hn:L.length<=1000) (hf:f.k=[A,B,C])
  (kn:∀E' T' w' v' kb,HS 13 W E0 w0 E' T' w'->F6 (some ⟨b,o,none⟩) n cap k v' T'->FN w' base v' (L++[(f,kb)])->(∀p∈L++[(f,kb)],E' p.2)->Reach prog Post W (G ((Go.Conc.base 13).at ⟨T',[]⟩ kk) cs) w') :
  Reach prog Post W (G ((Go.Conc.base 13).at ⟨T,[]⟩ (.code (.region 8 MW true)::kk)) cs) w:=by
 refine Reach.mid (Mid:=λg' w'=>∃n0,g'=G ((Go.Conc.base 13).at ⟨T,[]⟩ (.inRegion MW (Region.schedule (C0.P.follows .mixedOrders) MW n0)::kk)) cs/\BOk C0 S0 W E w'/\w'.heap.size=w.heap.size/\∀b,E b->w'.heap[b]?=w.heap[b]?) (Reach.draw (C:=C0) rfl H.bok λn0 w' h1 h2 h3=>Reach.here ⟨rfl,n0,rfl,h1,h2,h3⟩) λg' w1 ⟨n0,e,h1,h2,h3⟩ hK=>?_;subst e;rw[show C0.P.follows .mixedOrders=true from mixed];obtain⟨pre,QU,_,_,Zl⟩:=Jk5 prog dag8 n0;rw[QU,show List.range' 17 (MW.size-17)=[17,18]from rfl];have Hs:HS 13 W E w E T w1:=H.start.to h1 (λ_ h=>h) (.of_eq h3) hK (by omega);refine J059 (f:=f) (A:=A) (B:=B) (C:=C) hk hW hT PV Xq (λE2 T2 w2 H2 F2 hJ=>?_) (Array.replicate MW.size false) pre Zl E T w1 rfl Hs F s5 s6 s7 λi hi hl=>by rw[Array.getElem?_replicate]at hl;split at hl<;>cases hl
 have Es:FN w2 base v3 L:=hL.keE H2.ke (H.tm.slot (i:=3) rfl F.s3) Vq;obtain⟨v0,f0,H0,⟨_,e0⟩,l0⟩:=hJ 0 (by omega);rw[e0]at f0;obtain⟨_,f16,H16,⟨sb,kb,rfl,rfl⟩,lM⟩:=hJ 16 (by omega);have b1:=lM.hd;have b2:=lM.tl.hd;simp only at b1 b2;have lY:=F2.sz;have DR:=H2.sz;have hz:=H.sz;have Aj:Row false w2 kb 3 .i64 f.k 3:=by
  rw[hf];refine⟨_,⟨(0,0),b2.2.2,λ_=>rfl⟩,rfl,by show 3<=3;omega,λi hi=>?_,?_⟩
  .match i,hi with
   |0,_=>rfl
   |1,_=>rfl
   |2,_=>rfl
   |i+3,hi=>exact absurd (show i+3<3 from hi) (by omega)
  .exactλv hv=>by
    simp only[AL,BU,or_false]at hv;rcases hv with rfl|rfl|rfl<;>exact⟨_,_,rfl⟩
 have Hc:=H.comp H2;refine pG (pre:=[17]) (rest:=[18]) (Q:=λT3 w3=>∃v',T3=T2.setIfInBounds 53 v'/\FN w3 base v' (L++[(f,kb)])/\w2.heap.size<=w3.heap.size/\∀b,b<base->w3.heap[b]?=w2.heap[b]?) Hc (by kernel_rfl) (by simp) uS rfl rU (λτ=>?_) λE3 T3 Iy w3 CO Hf CY Dx ⟨v',q1,q2,q3,q4⟩ Qe=>?_
 .rw[wpOps_cons];obtain⟨v',w',r1,r2,r3,r4⟩:=(Es.kept (w':=w2.tp τ 0) λ_ _=>rfl).push (f:=f) (kb:=kb) (sb:=sb) (by show base<=w2.heap.size;omega) hn (by rw[hf];rfl) (by omega) (Aj.kept rfl) b1.2.2 28;refine Jnt rfl rfl rfl f0 f16 r1 ?_;refine⟨rfl,rfl,λi hi Nq=>?_,v',rfl,r2,r3.size,λb hb=>r3.block b (by show b<w2.heap.size;omega) λe=>?_⟩
  .have:=hl6 hi;exact AV (by omega)
  .have:=r4 b e.symm;omega
 subst q1;have vE3:VR C0 (idE E3) v' v':=Dx.slot (i:=53) rfl (by rw[FC (by omega)]);have l3:=Jt rfl CY;have Hd:=Hc.to0 Hf CO ((KE.of_eq (λb hb=>q4 b (fK b hb))).trans (l3.mono λb hb=>CO b (Hc.le b hb))) Qe (by rw[CY.lsz rfl];exact q3) Dx;have KI:∀p∈L++[(f,kb)],E3 p.2:=λp hp=>by
  rcases Gn.1 hp with hp|hp
  .exact CO _ (H2.le _ (Vq p hp))
  .simp only[AL,BU,or_false]at hp;subst hp;exact CO _ b2.2.1
 have hLd:=q2.keE l3 vE3 KI;refine Jb (o:=oJ) (v:=v') Hd rfl rfl rfl (λw1=>by simp[execOp,go_sem,oJ,lY];try rfl) (λw1=>by simp[execOp,go_sem,oJ,lY];try rfl) (.inr vE3) λw4 H4 h4=>?_;refine J6 (λw1=>stepG_region_end) rfl λd2=>?_;refine kn _ _ _ v' kb (H4.at d2) ?_ (hLd.kept (w':=w4.at d2) λb _=>by show w4.heap[b]?=_;rw[h4]) KI;obtain⟨f1,f2,f3,f4,f5⟩:=F2;refine⟨by simpa using f1,?_,?_,by simp[lY],?_⟩<;>(repeat rw[AV (by omega)])<;>assumption
end
section
variable{W E0 E:JB}{w0 w:JE}{T:JC}{la:JI}{rs:List Gi}{fs:List Jd}{n cap k:Nat}{v3:JJ}{kk:List Item}{cs:List Frame}{Post:(JB)->JF->JE->Prop}
def J02l{E:JB}{w:JE}{T:JC}(hR:YB w0 la rs)(hn:rs.length=n)(hW:∀a,la=some a->W a.block)(hT:∀a,la=some a->∀c z,w0.heap[a.block]?≠some (.cells c wgT z))(fK:∀b,E0 b->b<w0.heap.size){L:List (Jd × Nat)}(hk:k<n)(BX:k<200)(H:HS 13 W E0 w0 E T w)(F:F6 la n cap k v3 T)(hL:FN w w0.heap.size v3 L)(Ue:L.map (·.1)=(rs.take k).map Gi.fact)(Vq:∀p∈L,E p.2)
  (kn:∀E' T' w' v' L',HS 13 W E0 w0 E' T' w'->F6 la n cap (k+1) v' T'->FN w' w0.heap.size v' L'->L'.map (·.1)=(rs.take (k+1)).map Gi.fact->(∀p∈L',E' p.2)->Reach prog Post W (G ((Go.Conc.base 13).at ⟨T',[]⟩ kk) cs) w') :
  Reach prog Post W (G ((Go.Conc.base 13).at ⟨T,[]⟩ (.code (.seq (.block 1 (.seq (.region 5 dR false) (.seq (.region 6 dS false) (.seq (.region 7 dU false) (.region 8 MW true))))) (.region 4 dQ false))::kk)) cs) w:=by
 obtain⟨r,hr⟩:∃r,rs[k]?=some r:=⟨rs[k]'(by omega),DL _⟩;have EU:=hR.ok r (NR hr);obtain⟨b,o,Qa,hb,q0,q1,q2,q3,q4⟩:=hR.at_ k r hr;have Xm:=hW _ Qa;have hTb:=hT _ Qa;simp only at Xm hTb;have up:∀{w:JE},(∀b,W b->w.heap[b]?=w0.heap[b]?)->∀{i v},w0.cell? ⟨b,i,none⟩=some v->w.cell? ⟨b,i,none⟩=some v:=λh _ _ hc=>(Du (h b Xm)).trans hc;have zA:∀{w:JE},(∀b,W b->w.heap[b]?=w0.heap[b]?)->∀c z,w.heap[b]?≠some (.cells c wgT z):=λh c z=>by rw[h b Xm];exact hTb c z
 refine J6 (λw1=>stepG_seq) rfl λd1=>?_;refine J6 (λw1=>stepG_block) rfl λd2=>?_;refine J6 (λw1=>stepG_seq) rfl λd3=>?_;have H1:=((H.at d1).at d2).at d3;have Ig:FN (((w.at d1).at d2).at d3) w0.heap.size v3 L:=hL.kept λ_ _=>rfl;refine fld5 H1.start F Qa hk Xm (zA H1.kw) (up H1.kw q0) EU.a λE2 T2 w2 H2 F2 s5 z5 _=>?_;have VL:=H1.comp H2;have Es:=Ig.keE H2.ke (H1.tm.slot (i:=3) rfl F.s3) Vq;have FW:∀p∈L,E2 p.2:=λp hp=>H2.le _ (Vq p hp);refine J6 (λw1=>stepG_seq) rfl λd4=>?_;have VL:=VL.at d4;have Es:FN (w2.at d4) w0.heap.size v3 L:=Es.kept λ_ _=>rfl;refine fld6 VL.start F2 Qa hk Xm (zA VL.kw) (up VL.kw q1) EU.b λE3 T3 w3 H3 F3 s6 z6 _=>?_;have VN:=VL.comp H3;have Lp:=Es.keE H3.ke (VL.tm.slot (i:=3) rfl F2.s3) FW;have KI:∀p∈L,E3 p.2:=λp hp=>H3.le _ (FW p hp);refine J6 (λw1=>stepG_seq) rfl λd5=>?_;have VN:=VN.at d5;have Lp:FN (w3.at d5) w0.heap.size v3 L:=Lp.kept λ_ _=>rfl;refine fld7 VN.start F3 Qa hk Xm (zA VN.kw) (up VN.kw q2) EU.c λE4 T4 w4 H4 F4 s7 z7 _=>?_;have mM:=VN.comp H4;have SE:=Lp.keE H4.ke (VN.tm.slot (i:=3) rfl F3.s3) KI;have Xd:∀p∈L,E4 p.2:=λp hp=>H4.le _ (KI p hp);have t5:T4[5]?=some (.int .i64 (Jr r.a 4)):=(z7 5 (by omega) (by omega) (by omega)).trans ((z6 5 (by omega) (by omega) (by omega)).trans s5);have t6:T4[6]?=some (.int .i64 (Jr r.b 4)):=(z7 6 (by omega) (by omega) (by omega)).trans s6;have hlen:L.length=k:=by have:=congrArg List.length Ue;simp at this;omega
 subst Qa;refine Jrz (f:=r.fact) mM F4 t5 t6 s7 (by omega) Xm (zA mM.kw) (up mM.kw q3) (up mM.kw q4) SE Xd (Ad _) fK (by omega) rfl λE5 T5 w5 v' kb H5 F5 Ud wJ=>?_;refine J6 (λw1=>stepG_inBlock) rfl λd6=>?_;refine inc6 (H5.at d6) F5 (by omega) λT6 w6 H6 F6 h6=>?_;refine kn _ _ _ _ _ H6 F6 (Ud.kept λb _=>by rw[h6];rfl) ?_ wJ;rw[List.map_append,Ue,List.take_add_one,hr];simp
def Jld(hR:YB w0 la rs)(hn:rs.length=n)(hW:∀a,la=some a->W a.block)(hT:∀a,la=some a->∀c z,w0.heap[a.block]?≠some (.cells c wgT z))(fK:∀b,E0 b->b<w0.heap.size)
  (kn:∀E T w v3 L k,HS 13 W E0 w0 E T w->F6 la n cap k v3 T->FN w w0.heap.size v3 L->L.map (·.1)=(rs.take 200).map Gi.fact->Reach prog Post W (G ((Go.Conc.base 13).at ⟨T,[]⟩ kk) cs) w) :
  ∀(d k:Nat)(E:JB)(T:JC)(w:JE)(v3:JJ)(L:List (Jd × Nat)),min n 200-k=d->k<=min n 200->HS 13 W E0 w0 E T w->F6 la n cap k v3 T->FN w w0.heap.size v3 L->L.map (·.1)=(rs.take k).map Gi.fact->(∀p∈L,E p.2) ->
   Reach prog Post W (G ((Go.Conc.base 13).at ⟨T,[]⟩ (.code tV::.inLoop tV::.inBlock 0::kk)) cs) w:=by
 intro d
 induction d with
 |zero=>
  intro k E T w v3 L hd hk H F hL Ue Vq;have fin:∀T' w',HS 13 W E0 w0 E T' w'->F6 la n cap k v3 T'->T'[15]?=some (.bool false)->w'.heap=w.heap->Reach prog Post W (G ((Go.Conc.base 13).at ⟨T',[]⟩ (.code (.cond (.tmp 15) .skip (.exit 0))::.code (.seq (.block 1 (.seq (.region 5 dR false) (.seq (.region 6 dS false) (.seq (.region 7 dU false) (.region 8 MW true))))) (.region 4 dQ false))::.inLoop tV::.inBlock 0::kk)) cs) w':=λT' w' H' F' NG hh=>by
   refine J6 (λw1=>stepG_cond (t:=false) (by simp[Act.eval,Bq,NG])) rfl λd1=>?_;refine J6 (λw1=>stepG_exit (k':=kk) rfl) rfl λd2=>?_;refine kn _ _ _ v3 L k ((H'.at d1).at d2) F' (hL.kept λb _=>by show w'.heap[b]?=_;rw[hh]) ?_;rw[Ue];have:rs.take k=rs.take 200:=by
    rcases BF n 200 with h|h
    .rw[List.take_of_length_le (by omega),List.take_of_length_le (by omega)]
    .rw[show k=200 by omega]
   rw[this]
  refine J6 (λw1=>stepG_seq) rfl λd1=>?_;refine J6 (λw1=>stepG_seq) rfl λd2=>?_;rcases BF k n with h|h
  .exact J02j ((H.at d1).at d2) F (by omega) (by omega) λT' w' a b c e=>fin T' w' a b c e
  .exact J02k ((H.at d1).at d2) F (by omega) λT' w' a b c e=>fin T' w' a b c e
 |succ d ih=>
  intro k E T w v3 L hd hk H F hL Ue Vq;refine J6 (λw1=>stepG_seq) rfl λd1=>?_;refine J6 (λw1=>stepG_seq) rfl λd2=>?_;refine J02i ((H.at d1).at d2) F (by omega) (by omega) λT' w' H' F' NG hh=>?_;refine J6 (λw1=>stepG_cond (t:=true) (by simp[Act.eval,Bq,NG])) rfl λd3=>?_;refine J6 (λw1=>stepG_skip) rfl λd4=>?_;refine J02l hR hn hW hT fK (by omega) (by omega) ((H'.at d3).at d4) F' (hL.kept λb _=>by show w'.heap[b]?=_;rw[hh];rfl) Ue Vq λE2 T2 w2 v' L' H2 F2 Es BM FW=>?_;refine J6 (λw1=>stepG_inLoop) rfl λd5=>?_;exact ih (k+1) E2 T2 (w2.at d5) v' L' (by omega) (by omega) (H2.at d5) F2 (Es.kept λ_ _=>rfl) BM FW
end
section
variable{W E:JB}{w:JE}{la:JI}{rs:List Gi}{fs:List Jd}{n cap:Nat}{b₀:Frame}{a₀:Act}{ops:Array Oper}{i:Nat}{rest:List Nat}{kk:List Item}{cs:List Frame}{Post:(JB)->JF->JE->Prop}
def Jle(hB:BOk C0 S0 W E w)(hR:YB w la rs)(hn:rs.length=n)(Zb:fs=(rs.take 200).map Gi.fact)(hW:∀a,la=some a->W a.block)(hT:∀a,la=some a->∀c z,w.heap[a.block]?≠some (.cells c wgT z))
  (kn:∀E' w' ga c2 pl,(∀b,E b->E' b)->BOk C0 S0 W E' w'->KE E w w'->G8 false w' ga fs c2 pl->(∀y∈pl,w.heap.size<=y)->VR C0 (idE E') (.slice ga fs.length c2) (.slice ga fs.length c2)->w.heap.size<=w'.heap.size->(∀b,W b->w'.heap[b]?=w.heap[b]?) ->
   Reach prog Post W (G (b₀.at (a₀.put ((ops[i]?).bind (·.dst)) (.slice ga fs.length c2)) (.inRegion ops rest::kk)) cs) w') :
  Reach prog Post W (G ((Go.Conc.base 13).at ⟨#[.slice la n cap]++Array.replicate 54 JA,[]⟩ [.code b6]) (b₀.at a₀ (.inRegion ops (i::rest)::kk)::cs)) w:=by
 obtain⟨T0,Lr⟩:∃T0,T0=#[.slice la n cap]++Array.replicate 54 JA:=⟨_,rfl⟩;rw[<- Lr];have sz:T0.size=55:=by rw[Lr];simp
 have s0:T0[0]?=some (.slice la n cap):=by rw[Lr];simp
 have sn:∀j x,1<=j->T0[j]?=some x->x=JA:=λj x h1 hx=>by
  rw[Lr,Array.getElem?_append_right (by simpa using h1),Array.getElem?_replicate]at hx;split at hx
  .exact(Aa hx).symm
  .cases hx
 clear Lr;have ht:TmR C0 S0 13 (idE E) T0 T0:=by
  refine⟨rfl,λj x x' hj h1 h2=>?_,λj x hj _=>by cases hj⟩;rw[h1]at h2;cases h2;rcases Nat.eq_zero_or_pos j with rfl|h
  .cases hj
  .rw[sn j x h h1];exact .undef
 have H:HS 13 W E w E T0 w:=⟨hB,λ_ h=>h,.refl,λ_ _=>rfl,ht,rfl,Ad _⟩;refine J6 (λw1=>stepG_seq) rfl λd1=>?_;refine J6 (λw1=>stepG_region) rfl λd2=>?_;refine Jb (o:=pI) (v:=.slice none 0 0) ((H.at d1).at d2) rfl rfl rfl (λw1=>by simp[execOp,go_sem,pI];try rfl) (λw1=>by simp[execOp,go_sem,pI];try rfl) (.inr (.Jk _ _)) λw1 H1 h1=>?_;refine J6 (λw1=>stepG_region_end) rfl λd3=>?_;refine J6 (λw1=>stepG_seq) rfl λd4=>?_;refine J6 (λw1=>stepG_region) rfl λd5=>?_;refine Jb (o:=pK) (v:=.slice none 0 0) (((H1.at d3).at d4).at d5) rfl rfl rfl (λw1=>by simp[execOp,go_sem,pK];try rfl) (λw1=>by simp[execOp,go_sem,pK];try rfl) (.inr (.Jk _ _)) λw2 H2 h2=>?_;refine J6 (λw1=>stepG_region_end) rfl λd6=>?_;refine J6 (λw1=>stepG_seq) rfl λd7=>?_;refine J6 (λw1=>stepG_seq) rfl λd8=>?_;refine J6 (λw1=>stepG_region) rfl λd9=>?_;refine Jb (o:=pO) (v:=.int .i64 (0:Nat)) ((((H2.at d6).at d7).at d8).at d9) rfl rfl rfl (λw1=>by simp[execOp,go_sem,pO];try rfl) (λw1=>by simp[execOp,go_sem,pO];try rfl) (.inr (.int _ _)) λw3 H3 h3=>?_;refine J6 (λw1=>stepG_region_end) rfl λd10=>?_;refine J6 (λw1=>stepG_block) rfl λd11=>?_;refine J6 (λw1=>stepG_loop) rfl λd12=>?_;refine Jld (cap:=cap) (Post:=Post) hR hn hW hT (λb hb=>hB.lt hb) (λE4 T4 w4 v3 L k H4 F4 SE Ue=>?_) _ 0 E _ _ (.slice none 0 0) [] rfl (by omega) (((H3.at d10).at d11).at d12) ⟨by simpa using sz,?_,?_,?_,?_⟩ (.nil _ _) rfl λp hp=>by cases hp
 .have sz4:=F4.sz;have s3:=F4.s3;have zB:VR C0 (idE E4) v3 v3:=H4.tm.slot (i:=3) rfl s3;refine J6 (λw1=>stepG_seq) rfl λe1=>?_;refine J6 (λw1=>stepG_region) rfl λe2=>?_;rw[show List.range x6_9.size=[0,1]from rfl];refine Jb (o:=rP) (v:=v3) ((H4.at e1).at e2) rfl rfl rfl (λw1=>by simp[execOp,go_sem,rP,s3];try rfl) (λw1=>by simp[execOp,go_sem,rP,s3];try rfl) (.inr zB) λw5 H5 h5=>?_;refine Jb (o:=rQ) (v:=v3) H5 rfl rfl rfl (λw1=>by simp[execOp,go_sem,rQ,sz4];try rfl) (λw1=>by simp[execOp,go_sem,rQ,sz4];try rfl) (.inr zB) λw6 H6 h6=>?_;refine J6 (λw1=>stepG_region_end) rfl λe3=>?_;refine J6 (λw1=>stepG_ret') rfl λe4=>?_;refine Reach.leave1 (B:=Go.Conc.base 13) rfl rfl (fn:=f13) (by kernel_rfl) (x:=2) (by kernel_rfl) λe5=>?_;have H7:=((H6.at e3).at e4).at e5;have hL7:FN (((w6.at e3).at e4).at e5) w.heap.size v3 L:=SE.kept λb _=>by show w6.heap[b]?=_;rw[h6,h5];rfl
  obtain⟨ga,c2,pl,rfl,hfa,D8⟩:=hL7.at;have hlf:L.length=fs.length:=by rw[Zb,<- Ue,FQ]
  rw[Ue,<- Zb]at hfa;rw[hlf]at zB;have e2:(Act.mk ((T4.setIfInBounds 54 (Value.slice ga fs.length c2)).setIfInBounds 2 (Value.slice ga fs.length c2)) []).tmps.getD 2 JA=.slice ga fs.length c2:=by simp[Bq,sz4]
  rw[hlf,e2];exact kn E4 _ ga c2 pl H7.le H7.bok H7.ke hfa D8 zB H7.sz H7.kw
 .rw[AV (by omega),AV (by omega),AV (by omega)];exact s0
 .simp[sz]
 .simp[sz]
 .simp[sz]
end
structure O3(c:J7)(hs:Int->Int)(fs:List Jd)(S:List TR):Prop where
 nd:(S.map (·.k)).Nodup
 all:∀k,tm S k=FP c Dc (sel hs 7 k fs)
 n3:∀f∈fs,f.k.length=3
 n:fs.length<=200
def O3.len{c:J7}{hs:Int->Int}{fs:List Jd}{S:List TR}(h:O3 c hs fs S):S.length<=200:=by
 have h1:=aJ h.nd (U:=fs.map λf=>Jf 7 (BI f.k) 5) λx hx=>by obtain⟨t,ht,rfl⟩:=AZ.1 hx;obtain⟨_,f,hf,e⟩:=nZ h.nd h.all ht;exact AZ.2 ⟨f,hf,e⟩
 simp only[FQ]at h1;have:=h.n;omega
def O3.hin{c:J7}{hs:Int->Int}{fs:List Jd}{S:List TR}(h:O3 c hs fs S):∀t∈S,HIn 200 t.B:=by intro t ht x hx;obtain⟨e,_⟩:=nZ h.nd h.all ht;rw[e]at hx;have h1:=Jof hs 7 t.k fs;have h2:=h.n;have:=J02b (by omega) x hx;omega
def O3.sum{c:J7}{hs:Int->Int}{fs:List Jd}{S T:List TR}{m:Nat}(h:O3 c hs fs S)(hc:CZ c)(BL:c.nb=4)(hh:∀y,0<=hs y/\hs y<=18446744073709551615)(hT:Sum c (tm T) (Gg S m (λ_=>true))):∀k,tm T k=FP c Dc (sel hs m k fs):=
 Jyx hc (by rw[BL];rfl) aK hh h.n3 h.nd h.all hT
def O3.one{c:J7}{hs:Int->Int}{fs:List Jd}{T:List TR}(h3:∀f∈fs,f.k.length=3)(hn:(T.map (·.k)).Nodup)(hT:∀k,tm T k=FP c Dc (sel hs 0 k fs)):T.length<=1/\(fs≠[]->T.length=1)/\∀t∈T,t.k=[0,0,0,0,0]:=by
 have hk:∀t∈T,t.k=[0,0,0,0,0]:=λt ht=>by obtain⟨_,f,hf,e⟩:=nZ hn hT ht;rw[<- e,Jru (mW (by have:=h3 f hf;omega))]
 have h1:=aJ hn (U:=[[0,0,0,0,0]]) λx hx=>by obtain⟨t,ht,rfl⟩:=AZ.1 hx;rw[hk t ht];exact .head _
 simp only[FQ,Lh,List.length_nil]at h1;refine⟨h1,λAp=>?_,hk⟩;obtain⟨f,hf⟩:=List.exists_mem_of_ne_nil _ Ap;obtain⟨t,ht,_⟩:=Jyy hT hf;have:=List.length_pos_of_mem ht;omega
end Go.Sim.Z
