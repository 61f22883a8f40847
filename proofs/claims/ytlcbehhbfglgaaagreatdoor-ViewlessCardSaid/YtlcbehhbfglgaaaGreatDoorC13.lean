/- Proved: laws for the claim. No conditions. -/
import Derived.LoopN
import Derived.Laws.CopyOwn
import Derived.Deep.RegionHeld3
import Derived.Test.YtlcbehhbfglgaaaGreatDoorC09
import Derived.Test.YtlcbehhbfglgaaaGreatDoorC12
set_option linter.all false
set_option maxHeartbeats 4000000
set_option maxRecDepth 100000
open Go.Proofs.Tryz
noncomputable section
namespace Go.Sim.Z
open Go Go.Proofs Go.RowKit
structure TQ(w:JE)(g:Nat)(arr:JC)(wr:JE):Prop where
 blk:Blk false wr g arr 131
 tch:Tch w.heap.size M0 w wr
 le:w.heap.size<=g
def TQ.set{w wr w2:JE}{g:Nat}{arr:JC}(h:TQ w g arr wr)(k:Tch wr.heap.size M0 wr w2)(i:Nat)(x:JJ):TQ w g (arr.setIfInBounds i x) (w2.setCell ⟨g,i,none⟩ x):=
 ⟨(h.blk.kept (k.heap g h.blk.lt λx=>x)).set i x,(h.tch.then k h.tch.size λ_ _ h=>h).set (.inl h.le) x,h.le⟩
theorem TQ.same{w wr w2:JE}{g:Nat}{arr:JC}(_h:TQ w g arr wr)(k:Tch wr.heap.size M0 wr w2)(i:Nat)(x:JJ){y:Nat}(hy:y<wr.heap.size)(Ap:y≠g):(w2.setCell ⟨g,i,none⟩ x).heap[y]?=wr.heap[y]?:=
 (Jm _ _ Ap).trans (k.heap y hy λx=>x)
def Jxr (b:Nat) (w:JE):(method 471 186 (JL b) "Add").run prog w=.ok (248,JL b) w:=by kernel_rfl
def Jt0 (b:Nat) (w:JE):(method 471 186 (JL b) "Copy").run prog w=.ok (249,JL b) w:=by kernel_rfl
def Jpq (b:Nat) (w:JE):(method 471 186 (JL b) "Merge").run prog w=.ok (250,JL b) w:=by kernel_rfl
def Jkv (b:Nat) (w:JE):(method 471 186 (JL b) "Numbers").run prog w=.ok (251,JL b) w:=by kernel_rfl
def Jxs (b:Nat) (w:JE):(method 471 189 (JL b) "Add").run prog w=.ok (255,JL b) w:=by kernel_rfl
def Jt1 (b:Nat) (w:JE):(method 471 189 (JL b) "Copy").run prog w=.ok (256,JL b) w:=by kernel_rfl
def Jpr (b:Nat) (w:JE):(method 471 189 (JL b) "Merge").run prog w=.ok (257,JL b) w:=by kernel_rfl
def Jkw (b:Nat) (w:JE):(method 471 189 (JL b) "Numbers").run prog w=.ok (258,JL b) w:=by kernel_rfl
def Jxt (b:Nat) (w:JE):(method 471 192 (JL b) "Add").run prog w=.ok (262,JL b) w:=by kernel_rfl
def Jt2 (b:Nat) (w:JE):(method 471 192 (JL b) "Copy").run prog w=.ok (263,JL b) w:=by kernel_rfl
def Jps (b:Nat) (w:JE):(method 471 192 (JL b) "Merge").run prog w=.ok (264,JL b) w:=by kernel_rfl
def Jkx (b:Nat) (w:JE):(method 471 192 (JL b) "Numbers").run prog w=.ok (265,JL b) w:=by kernel_rfl
def ix0(a b c:JJ)(w:JE):(Instr.index 129 (.agg #[a,b,c]) (JK 0)).run prog w=.ok a w:=by simp[Instr.index,go_sem,underlying129]
def ix1(a b c:JJ)(w:JE):(Instr.index 129 (.agg #[a,b,c]) (JK 1)).run prog w=.ok b w:=by simp[Instr.index,go_sem,underlying129]
def ix2(a b c:JJ)(w:JE):(Instr.index 129 (.agg #[a,b,c]) (JK 2)).run prog w=.ok c w:=by simp[Instr.index,go_sem,underlying129]
section
variable{fr:Bool}{w w':JE}{c:J7}{p:BP}{B:Bun}
def Jxu(h:Jw fr w c p B)(hok:Jl c B)(hc:CZ c) :
  Calls prog 131 #[JL p.b] w λe w'=>∃q:BP,e=.returned (JL q.b)/\Jw false w' c q B/\(∀x∈q.pl,w.heap.size<=x)/\Tch w.heap.size M0 w w':=by
 have hlen:(2:Nat) ^ c.bits.toNat<=1000:=by
  have h1:=hc.b1;have h2:=hc.b2;have:c.bits=4\/c.bits=5\/c.bits=6:=by omega
  grind
 have c0:=h.c0;have c1:=h.c1;have c2:=h.c2;have c3:=h.c3;have hb:=h.hd.lt;have x0:=ix0 (.iface 186 (JL p.rb)) (.iface 189 (JL p.hb)) (.iface 192 (JL p.lb));have x1:=ix1 (.iface 186 (JL p.rb)) (.iface 189 (JL p.hb)) (.iface 192 (JL p.lb));have x2:=ix2 (.iface 186 (JL p.rb)) (.iface 189 (JL p.hb)) (.iface 192 (JL p.lb));have y0:=Jt0 p.rb;have y1:=Jt1 p.hb;have y2:=Jt2 p.lb;have Xt:TQ w w.heap.size #[JK B.n,.nilIface,.nilIface,.nilIface] (w.alloc (.cells #[JK B.n,.nilIface,.nilIface,.nilIface] 131)):=⟨⟨_,Ja _,λ_=>rfl⟩,Tch.refl.alloc (Ad _) _,Ad _⟩;have uD:Jw fr (w.alloc (.cells #[JK B.n,.nilIface,.nilIface,.nilIface] 131)) c p B:=h.kept λx hx=>J8 _ (h.lt x hx);have Ac:∀x∈p.pl,x<w.heap.size:=h.lt;obtain⟨rr,cc,xU⟩:∃rr cc,p.lr=some (rr,cc):=by
  have:=h.least.row;cases hp:p.lr with
  |none=>rw[hp]at this;exact absurd this hok.lne
  |some q=>grind
 go_enter func131,ntmps131
 go_wp2;refine wp_loop_rounds 4 ?_;rw[rounds_succ];go_wp2
 go_region_with (go_at_call 249;refine(Jxl (w:=(w.alloc (.cells #[JK B.n,.nilIface,.nilIface,.nilIface] 131)).drew) (uD.reg.kept rfl rfl) (by rw[hok.r];grind)).mono ?_;rintro e w1 ⟨b1,r1,k1,rfl,FD,KR,X9,Jwi,Az⟩;have f1:=(Xt.blk.kept (Az.heap w.heap.size Xt.blk.lt λx=>x)).cell 1;have f2:=(Xt.blk.kept (Az.heap w.heap.size Xt.blk.lt λx=>x)).frozen 1)
 have FX:TQ w w.heap.size #[JK B.n,.iface 186 (JL b1),.nilIface,.nilIface] (w1.setCell ⟨w.heap.size,1,none⟩ (.iface 186 (JL b1))):=Xt.set Az.bW 1 _;have rY:Jw fr (w1.setCell ⟨w.heap.size,1,none⟩ (.iface 186 (JL b1))) c p B:=uD.kept λx hx=>Xt.same Az.bW 1 _ (uD.lt x hx) (by grind);have z0:(w.alloc (.cells #[JK B.n,.nilIface,.nilIface,.nilIface] 131)).drew.heap.size=w.heap.size+1:=size_alloc _;have oL:DV false (w1.setCell ⟨w.heap.size,1,none⟩ (.iface 186 (JL b1))) b1 r1 k1 c.bits B.r:=Jwi.kept (Jm _ _ (by grind)) (Jm _ _ (by grind));clear f1 f2 Xt Jwi Az uD;generalize w1.setCell ⟨w.heap.size,1,none⟩ (.iface 186 (JL b1))=W1 at *;have l1:=oL.hd.lt;have l1':=oL.row.lt;go_wp2;rw[rounds_succ];go_wp2
 go_region_with (go_at_call 256;refine(Jss (w:=W1.drew) (rY.hist.kept rfl rfl) (by rw[hok.h];have:=hc.nb;omega)).mono ?_;rintro e w2 ⟨b2,r2,k2,rfl,Dk,BM,Ij,Jwj,Bc⟩;have f1:=(FX.blk.kept (Bc.heap w.heap.size FX.blk.lt λx=>x)).cell 2;have f2:=(FX.blk.kept (Bc.heap w.heap.size FX.blk.lt λx=>x)).frozen 2)
 have FY:TQ w w.heap.size #[JK B.n,.iface 186 (JL b1),.iface 189 (JL b2),.nilIface] (w2.setCell ⟨w.heap.size,2,none⟩ (.iface 189 (JL b2))):=FX.set Bc.bW 2 _;have Jwk:Jw fr (w2.setCell ⟨w.heap.size,2,none⟩ (.iface 189 (JL b2))) c p B:=rY.kept λx hx=>FX.same Bc.bW 2 _ (rY.lt x hx) (by grind);have z1:W1.drew.heap.size=W1.heap.size:=rfl;have rZ:DV false (w2.setCell ⟨w.heap.size,2,none⟩ (.iface 189 (JL b2))) b1 r1 k1 c.bits B.r:=oL.kept (FX.same Bc.bW 2 _ l1 (by omega)) (FX.same Bc.bW 2 _ l1' (by omega));have oM:EZ false (w2.setCell ⟨w.heap.size,2,none⟩ (.iface 189 (JL b2))) b2 r2 k2 c.ba c.nb c.cb B.h:=Jwj.kept (Jm _ _ (by grind)) (Jm _ _ (by grind));clear f1 f2 FX oL Bc rY Jwj;generalize w2.setCell ⟨w.heap.size,2,none⟩ (.iface 189 (JL b2))=W2 at *;have l2:=oM.hd.lt;have l2':=oM.row.lt;have l3:=rZ.hd.lt;have l3':=rZ.row.lt;have hlw:Gf fr W2.drew p.lb (some (rr,cc)) c.K B.l:=by have:=Jwk.least;rw[xU]at this;exact this.kept rfl λ_ _=>rfl
 go_wp2;rw[rounds_succ];go_wp2
 go_region_with (go_at_call 263;refine(Jpp (r:=rr) (c:=cc) (w:=W2.drew) hlw (by have:=hok.lK;have:=hc.k2;omega)).mono ?_;rintro e w3 ⟨b3,r3,k3,rfl,Gs,Io,Ze,Jpt,Dx⟩;have f1:=(FY.blk.kept (Dx.heap w.heap.size FY.blk.lt λx=>x)).cell 3;have f2:=(FY.blk.kept (Dx.heap w.heap.size FY.blk.lt λx=>x)).frozen 3)
 have Jzz:TQ w w.heap.size #[JK B.n,.iface 186 (JL b1),.iface 189 (JL b2),.iface 192 (JL b3)] (w3.setCell ⟨w.heap.size,3,none⟩ (.iface 192 (JL b3))):=FY.set Dx.bW 3 _;have z2:W2.drew.heap.size=W2.heap.size:=rfl;have J041:DV false (w3.setCell ⟨w.heap.size,3,none⟩ (.iface 192 (JL b3))) b1 r1 k1 c.bits B.r:=rZ.kept (FY.same Dx.bW 3 _ l3 (by omega)) (FY.same Dx.bW 3 _ l3' (by omega));have zI:EZ false (w3.setCell ⟨w.heap.size,3,none⟩ (.iface 192 (JL b3))) b2 r2 k2 c.ba c.nb c.cb B.h:=oM.kept (FY.same Dx.bW 3 _ l2 (by omega)) (FY.same Dx.bW 3 _ l2' (by omega));have Jxv:Gf false (w3.setCell ⟨w.heap.size,3,none⟩ (.iface 192 (JL b3))) b3 (some (r3,k3)) c.K B.l:=Jpt.kept (Jm _ _ (by grind)) λx hx=>by obtain⟨_,hx⟩:=hx;grind[Jm]
 clear f1 f2 FY rZ Dx Jwk oM Jpt;generalize w3.setCell ⟨w.heap.size,3,none⟩ (.iface 192 (JL b3))=W3 at *;go_wp2;rw[rounds_succ];go_wp2;go_ret;refine⟨⟨w.heap.size,b1,r1,k1,b2,r2,k2,b3,some (r3,k3)⟩,rfl,⟨Jzz.blk,J041,zI,Jxv,?_⟩,λx hx=>?_,Jzz.tch⟩
 .have q:∀x:Nat,lpl (some (r3,k3)) x↔x=r3:=λx=>⟨λ⟨_,h⟩=>by cases h;rfl,λh=>⟨k3,by rw[h]⟩⟩;refine⟨?_,?_,?_,?_,?_,?_⟩<;>simp only[q]<;>(try refine⟨?_,?_⟩)<;>omega
 .have q:∀x:Nat,lpl (some (r3,k3)) x↔x=r3:=λx=>⟨λ⟨_,h⟩=>by cases h;rfl,λh=>⟨k3,by rw[h]⟩⟩
  grind[BP.mem]
end
def J042 (b:Nat) (w:JE):(nilAhead 471 186 (JL b) "Merge").run prog w=.ok (some false) w:=by kernel_rfl
def J043 (b:Nat) (w:JE):(nilAhead 471 189 (JL b) "Merge").run prog w=.ok (some false) w:=by kernel_rfl
def J044 (b:Nat) (w:JE):(nilAhead 471 192 (JL b) "Merge").run prog w=.ok (some false) w:=by kernel_rfl
section
variable{fr:Bool}{w wr w2:JE}{c:J7}{p q:BP}{B B2:Bun}
def Jw.Jp2(h:Jw false wr c p B){rs:JD}(hr:DV false w2 p.rb p.rr p.rc c.bits rs)(k:Tch wr.heap.size (λx=>x=p.rr) wr w2):Jw false w2 c p { B with r:=rs }/\p.rr∈p.pl:=by have nd:=h.nd;have same:∀x,x∈p.pl->x≠p.rr->w2.heap[x]?=wr.heap[x]?:=λx hx Ap=>k.heap x (h.lt x hx) Ap;have m {x:Nat} (h:x=p.b\/x=p.rb\/x=p.rr\/x=p.hb\/x=p.hr\/x=p.lb\/lpl p.lr x):x∈p.pl:=BP.mem.2 h;exact⟨⟨h.hd.kept (same _ (m (by simp)) nd.n1.2.1),hr,h.hist.kept (same _ (m (by simp)) (Ne.symm nd.n3.1)) (same _ (m (by simp)) (Ne.symm nd.n3.2.1)),h.least.kept (same _ (m (by simp)) (Ne.symm nd.n3.2.2.1)) λx hx=>same _ (m (by simp[hx])) λe=>nd.n3.2.2.2 (e▸hx),nd⟩,m (by simp)⟩
def Jw.setH(h:Jw false wr c p B){rs:JD}(hr:EZ false w2 p.hb p.hr p.hc c.ba c.nb c.cb rs)(k:Tch wr.heap.size (λx=>x=p.hr) wr w2):Jw false w2 c p { B with h:=rs }/\p.hr∈p.pl:=by have nd:=h.nd;have same:∀x,x∈p.pl->x≠p.hr->w2.heap[x]?=wr.heap[x]?:=λx hx Ap=>k.heap x (h.lt x hx) Ap;have m {x:Nat} (h:x=p.b\/x=p.rb\/x=p.rr\/x=p.hb\/x=p.hr\/x=p.lb\/lpl p.lr x):x∈p.pl:=BP.mem.2 h;exact⟨⟨h.hd.kept (same _ (m (by simp)) nd.n1.2.2.2.1),h.reg.kept (same _ (m (by simp)) nd.n2.2.2.1) (same _ (m (by simp)) nd.n3.2.1),hr,h.least.kept (same _ (m (by simp)) (Ne.symm nd.n5.1)) λx hx=>same _ (m (by simp[hx])) λe=>nd.n5.2 (e▸hx),nd⟩,m (by simp)⟩
def Jw.Jp3(h:Jw false wr c p B)(n:Int):Jw false (wr.setCell ⟨p.b,0,none⟩ (JK n)) c p { B with n:=n }/\p.b∈p.pl/\Tch wr.heap.size (λx=>x=p.b) wr (wr.setCell ⟨p.b,0,none⟩ (JK n)):=by
 have nd:=h.nd;have same:∀x,x≠p.b->(wr.setCell ⟨p.b,0,none⟩ (JK n)).heap[x]?=wr.heap[x]?:=λx Ap=>Jm _ _ Ap;exact⟨⟨h.hd.set 0 _,h.reg.kept (same _ (Ne.symm nd.n1.1)) (same _ (Ne.symm nd.n1.2.1)),h.hist.kept (same _ (Ne.symm nd.n1.2.2.1)) (same _ (Ne.symm nd.n1.2.2.2.1)),h.least.kept (same _ (Ne.symm nd.n1.2.2.2.2.1)) λx hx=>same _ λe=>nd.n1.2.2.2.2.2 (e▸hx),nd⟩,BP.mem.2 (by simp),Tch.refl.set (.inr (show(λx=>x=p.b) p.b from rfl)) _⟩
structure G5(fr:Bool)(w:JE)(c:J7)(p q:BP)(B B2:Bun)(wr:JE):Prop where
 l:Jw false wr c p B
 r:Jw fr wr c q B2
 dis:∀x∈p.pl,x∉q.pl
 tch:Tch w.heap.size (λx=>x∈p.pl) w wr
 lt:∀x∈p.pl,x<w.heap.size
def G5.right(h:G5 fr w c p q B B2 wr){y:Nat}(hy:y∈p.pl)(k:Tch wr.heap.size (λx=>x=y) wr w2):Jw fr w2 c q B2:=
 h.r.kept λx hx=>k.heap x (h.r.lt x hx) λe=>h.dis y hy (e▸hx)
def G5.touch(h:G5 fr w c p q B B2 wr){y:Nat}(hy:y∈p.pl)(k:Tch wr.heap.size (λx=>x=y) wr w2):Tch w.heap.size (λx=>x∈p.pl) w w2:=
 h.tch.then k h.tch.size λ_ _ e=>e▸hy
def G5.reg(h:G5 fr w c p q B B2 wr){rs:JD}(hr:DV false w2 p.rb p.rr p.rc c.bits rs)(k:Tch wr.heap.size (λx=>x=p.rr) wr w2):G5 fr w c p q { B with r:=rs } B2 w2:=
 have q:=h.l.Jp2 hr k
 ⟨q.1,h.right q.2 k,h.dis,h.touch q.2 k,h.lt⟩
def G5.hist(h:G5 fr w c p q B B2 wr){rs:JD}(hr:EZ false w2 p.hb p.hr p.hc c.ba c.nb c.cb rs)(k:Tch wr.heap.size (λx=>x=p.hr) wr w2):G5 fr w c p q { B with h:=rs } B2 w2:=
 have q:=h.l.setH hr k
 ⟨q.1,h.right q.2 k,h.dis,h.touch q.2 k,h.lt⟩
def G5.num(h:G5 fr w c p q B B2 wr)(n:Int):G5 fr w c p q { B with n:=n } B2 (wr.setCell ⟨p.b,0,none⟩ (JK n)):=
 have q:=h.l.Jp3 n
 ⟨q.1,h.right q.2.1 q.2.2,h.dis,h.touch q.2.1 q.2.2,h.lt⟩
def G5.drew(h:G5 fr w c p q B B2 wr):G5 fr w c p q B B2 wr.drew:=⟨h.l.kept λ_ _=>rfl,h.r.kept λ_ _=>rfl,h.dis,h.tch.drew,h.lt⟩
def TB(w:JE)(c:J7)(p:BP)(B:Bun)(w':JE):Prop:=
 ∃p':BP,p'.b=p.b/\Jw false w' c p' B/\(∀x∈p'.pl,x∈p.pl\/w.heap.size<=x)/\Tch w.heap.size (λx=>x∈p.pl) w w'
def G5.Jpu(hl:Jw false wr c p B)(htc:Tch w.heap.size (λx=>x∈p.pl) w wr){ls:JD}(hr:TN wr p.lb p.lr c.K ls w2):TB w c p { B with l:=ls } w2:=by
 obtain⟨OZ,h1,h2,k⟩:=hr;have nd:=hl.nd;have m {x:Nat} (h:x=p.b\/x=p.rb\/x=p.rr\/x=p.hb\/x=p.hr\/x=p.lb\/lpl p.lr x):x∈p.pl:=BP.mem.2 h;have same:∀x,x∈p.pl->x≠p.lb->¬lpl p.lr x->w2.heap[x]?=wr.heap[x]?:=λx hx Ap hn=>k.heap x (hl.lt x hx) λe=>e.elim Ap hn;have fresh:∀x,x∈p.pl->¬lpl p.lr x->¬lpl OZ x:=λx hx hn he=>by
  rcases h2 x he with h3|h3
  .exact hn h3
  .have:=hl.lt x hx;omega
 refine⟨{ p with lr:=OZ },rfl,⟨hl.hd.kept (same _ (m (by simp)) nd.n1.2.2.2.2.1 nd.n1.2.2.2.2.2),hl.reg.kept (same _ (m (by simp)) nd.n2.2.2.2.1 nd.n2.2.2.2.2) (same _ (m (by simp)) nd.n3.2.2.1 nd.n3.2.2.2),hl.hist.kept (same _ (m (by simp)) nd.n4.2.1 nd.n4.2.2) (same _ (m (by simp)) nd.n5.1 nd.n5.2),h1,?_⟩,λx hx=>?_,htc.then k htc.size λx _ e=>?_⟩
 .exact⟨⟨nd.n1.1,nd.n1.2.1,nd.n1.2.2.1,nd.n1.2.2.2.1,nd.n1.2.2.2.2.1,fresh _ (m (by simp)) nd.n1.2.2.2.2.2⟩,⟨nd.n2.1,nd.n2.2.1,nd.n2.2.2.1,nd.n2.2.2.2.1,fresh _ (m (by simp)) nd.n2.2.2.2.2⟩,⟨nd.n3.1,nd.n3.2.1,nd.n3.2.2.1,fresh _ (m (by simp)) nd.n3.2.2.2⟩,⟨nd.n4.1,nd.n4.2.1,fresh _ (m (by simp)) nd.n4.2.2⟩,⟨nd.n5.1,fresh _ (m (by simp)) nd.n5.2⟩,fresh _ (m (by simp)) nd.n6⟩
 .rcases BP.mem.1 hx with e|e|e|e|e|e|e
  .grind
  .grind
  .grind
  .grind
  .grind
  .grind
  .rcases h2 x e with h3|h3
   .grind
   .exact .inr (BN htc.size h3)
 grind
def G5.least(h:G5 fr w c p q B B2 wr){ls:JD}(hr:TN wr p.lb p.lr c.K ls w2):TB w c p { B with l:=ls } w2:=G5.Jpu h.l h.tch hr
def Jt3(h:Jw false w c p B)(h2:Jw fr w c q B2)(hd:∀x∈p.pl,x∉q.pl)(hok:Jl c B)(Nv:Jl c B2)(hc:CZ c) :
  Calls prog 130 #[JL p.b,JL q.b] w λe w'=>(∃v,e=.returned v)/\TB w c p (mg c B B2) w':=by
 have hlen:(2:Nat) ^ c.bits.toNat<=1000:=by
  have h1:=hc.b1;have h2:=hc.b2;have:c.bits=4\/c.bits=5\/c.bits=6:=by omega
  grind
 have c0:=h.c0;have c1:=h.c1;have c2:=h.c2;have c3:=h.c3;have cf:=h.hd.frozen 0;have d0:=h2.c0;have d1:=h2.c1;have d2:=h2.c2;have d3:=h2.c3;have hb:=h.hd.lt;have Dk:=h2.hd.lt;have Ap:q.b≠p.b:=λe=>hd p.b (BP.mem.2 (by simp)) (e▸BP.mem.2 (by simp));have x0:=ix0 (.iface 186 (JL p.rb)) (.iface 189 (JL p.hb)) (.iface 192 (JL p.lb));have x1:=ix1 (.iface 186 (JL p.rb)) (.iface 189 (JL p.hb)) (.iface 192 (JL p.lb));have x2:=ix2 (.iface 186 (JL p.rb)) (.iface 189 (JL p.hb)) (.iface 192 (JL p.lb));have y0:=Jpq p.rb;have y1:=Jpr p.hb;have y2:=Jps p.lb;have n0:=J042 p.rb;have n1:=J043 p.hb;have n2:=J044 p.lb;obtain⟨rr,cc,xU⟩:∃rr cc,q.lr=some (rr,cc):=by
  have:=h2.least.row;cases hp:q.lr with
  |none=>rw[hp]at this;exact absurd this Nv.lne
  |some q=>grind
 have dlb:∀x∈p.pl,q.lb≠x:=λx hx e=>hd x hx (e▸BP.mem.2 (by simp));have dlr:∀x∈p.pl,rr≠x:=λx hx e=>hd x hx (e▸BP.mem.2 (.inr (.inr (.inr (.inr (.inr (.inr ⟨cc,xU⟩)))))));have hm:G5 fr w c p q B B2 w:=⟨h,h2,hd,.refl,h.lt⟩
 go_enter func130,ntmps130
 go_wp2
 go_region
 have OU:G5 fr w c p q { B with n:=wrap64 (B.n+B2.n) } B2 (w.setCell ⟨p.b,0,none⟩ (JK (wrap64 (B.n+B2.n)))).drew:=(hm.num _).drew;clear c0 c1 c2 c3 cf d0 d1 d2 d3 hm;generalize(w.setCell ⟨p.b,0,none⟩ (JK (wrap64 (B.n+B2.n)))).drew=W0 at *;have c1:=OU.l.c1;have c2:=OU.l.c2;have c3:=OU.l.c3;have d1:=OU.r.c1;go_wp2;refine wp_loop_rounds 4 ?_;rw[rounds_succ];go_wp2
 go_region_with (go_at_call 250;refine(Jsr (w:=W0.drew) OU.drew.l.reg OU.drew.r.reg (by rw[show({ B with n:=wrap64 (B.n+B2.n) }:Bun).r=B.r from rfl,hok.r,Nv.r]) (by rw[show({ B with n:=wrap64 (B.n+B2.n) }:Bun).r=B.r from rfl,hok.r];exact hlen) h.nd.n2.1 (λe=>hd p.rr (BP.mem.2 (by simp)) (e▸BP.mem.2 (by simp))) (λe=>hd p.rr (BP.mem.2 (by simp)) (e▸BP.mem.2 (by simp)))).mono ?_;rintro e w1 ⟨⟨v1,rfl⟩,KR,Az⟩)
 all_goals have GN:=OU.drew.reg KR Az
 all_goals clear c1 c2 c3 d1 KR Az OU
 all_goals have d2:=GN.r.c2
 all_goals go_wp2
 all_goals rw[rounds_succ]
 all_goals go_wp2
 all_goals go_region_with (go_at_call 257;refine(Jpi (w:=w1.drew) GN.drew.l.hist GN.drew.r.hist (by show B.h.length=B2.h.length;rw[hok.h,Nv.h]) (by show B.h.length<=1000;rw[hok.h];have:=hc.nb;omega) h.nd.n4.1 (λe=>hd p.hr (BP.mem.2 (by simp)) (e▸BP.mem.2 (by simp))) (λe=>hd p.hr (BP.mem.2 (by simp)) (e▸BP.mem.2 (by simp)))).mono ?_;rintro e w2 ⟨⟨v2,rfl⟩,BM,Bc⟩)
 all_goals have Nr:=GN.drew.hist BM Bc
 all_goals clear d2 BM Bc GN
 all_goals have d3:=Nr.r.c3
 all_goals go_wp2
 all_goals rw[rounds_succ]
 all_goals go_wp2
 all_goals have hq:=Nr.drew.r.least
 all_goals rw[xU]at hq
 all_goals go_region_with (go_at_call 264;refine(Jmo (w:=w2.drew) Nr.drew.l.least hq h.nd.n6 ⟨dlb p.lb (by simp[BP.mem]),λe=>dlb q.lb (BP.mem.2 (.inr (.inr (.inr (.inr (.inr (.inr e))))))) rfl⟩ ⟨dlr p.lb (by simp[BP.mem]),λe=>dlr rr (BP.mem.2 (.inr (.inr (.inr (.inr (.inr (.inr e))))))) rfl⟩ hok.l hok.lK (by have:=hc.k2;omega) (by have:=Nv.lK;have:=hc.k2;omega)).mono ?_;rintro e w3 ⟨⟨v3,rfl⟩,Io⟩)
 all_goals have hm3:=Nr.drew.least Io
 all_goals clear d3 Io Nr hq
 all_goals go_wp2
 all_goals rw[rounds_succ]
 all_goals go_wp2
 all_goals go_end0
 all_goals exact⟨⟨_,rfl⟩,hm3⟩
end
structure Ou(c:J7)(B:Bun):Prop where
 r:B.r.length=2 ^ c.bits.toNat
 r8:∀x∈B.r,0<=x/\x<=255
 h:B.h.length=c.nb+1
 h64:∀x∈B.h,I64 x
 l:Ep B.l
 lK:(B.l.length:Int)<=c.K
 l64:∀x∈B.l,0<=x/\x<=18446744073709551615
 n64:I64 B.n
def Jl.zero{c:J7}{B:Bun}(h:Jl c B):Ou c B:=⟨h.r,h.r8,h.h,h.h64,h.l,h.lK,h.l64,h.n64⟩
def P6(c:J7)(bs:JD)(B:Bun)(x v:Int):Bun:=⟨wrap64 (B.n+1),Om c.bits B.r x,NH bs B.h v,Iz c.K B.l x⟩
def mem_set{l:JD}{i:Nat}{a z:Int}(h:z∈l.set i a):z=a\/z∈l:=by
 grind
def Ou.add{c:J7}{bs:JD}{B:Bun}(h:Ou c B)(hc:CZ c)(CQ:bs.length=c.nb){x:Int}(hx:0<=x/\x<=18446744073709551615)(v:Int):Jl c (P6 c bs B x v):=by
 have ha:=ZR h.l h.lK x;have hr:=Jlk (bits:=c.bits) (x:=x) ⟨hc.b1,hc.b2⟩;have he:=ZU h.l h.lK x;refine⟨J95.trans h.r,λz hz=>?_,ZP.trans h.h,λz hz=>?_,ha.1,ha.2,λz hz=>?_,mZ _,?_⟩
 .rcases mem_set hz with rfl|hz
  .have:∀z:Int,z=B.r.getD (IB c.bits x) 0->0<=z/\z<=255:=λz hz=>by
    rw[C9]at hz;cases hq:B.r[IB c.bits x]? with
    |none=>grind
    |some y=>rw[hq]at hz;simp at hz;subst hz;exact h.r8 _ (NR hq)
   grind
  .exact h.r8 z hz
 .rcases mem_set hz with rfl|hz
  .exact mZ _
  .exact h.h64 z hz
 .have OX:z∈Iz c.K B.l x:=hz;rw[he]at OX;rcases VU.1 (List.mem_of_mem_take OX)with rfl|h2
  .exact hx
  .exact h.l64 z h2
 .show Iz c.K B.l x≠[];rw[he];have h1:x∈NG x B.l:=VU.2 (.inl rfl);have h2:0<(NG x B.l).length:=List.length_pos_iff.2 (List.ne_nil_of_mem h1);have:=hc.k1
  grind
section
variable{fr:Bool}{w wr w2:JE}{c:J7}{p q:BP}{B:Bun}{bs:JD}{ba:JI}
def Px.kept{w w':JE}(h:Px fr w ba bs)(hh:∀bb,ba=some ⟨bb,0,none⟩->bb<w.heap.size->w'.heap[bb]?=w.heap[bb]?):Px fr w' ba bs:=by
 rcases h with h|⟨bb,cap,rfl,h⟩
 .exact .inl h
 .exact .inr ⟨bb,cap,rfl,h.kept (hh bb rfl h.lt)⟩
structure G6(w:JE)(c:J7)(p:BP)(ba:JI)(bs:JD)(B:Bun)(wr:JE):Prop where
 l:Jw false wr c p B
 r:Px false wr ba bs
 dis:∀x∈p.pl,ba≠some ⟨x,0,none⟩
 tch:Tch w.heap.size (λx=>x∈p.pl) w wr
 lt:∀x∈p.pl,x<w.heap.size
def G6.right(h:G6 w c p ba bs B wr){y:Nat}(hy:y∈p.pl)(k:Tch wr.heap.size (λx=>x=y) wr w2):Px false w2 ba bs:=
 h.r.kept λx hx hl=>k.heap x hl λe=>h.dis y hy (e▸hx)
def G6.touch(h:G6 w c p ba bs B wr){y:Nat}(hy:y∈p.pl)(k:Tch wr.heap.size (λx=>x=y) wr w2):Tch w.heap.size (λx=>x∈p.pl) w w2:=
 h.tch.then k h.tch.size λ_ _ e=>e▸hy
def G6.reg(h:G6 w c p ba bs B wr){rs:JD}(hr:DV false w2 p.rb p.rr p.rc c.bits rs)(k:Tch wr.heap.size (λx=>x=p.rr) wr w2):G6 w c p ba bs { B with r:=rs } w2:=
 have q:=h.l.Jp2 hr k
 ⟨q.1,h.right q.2 k,h.dis,h.touch q.2 k,h.lt⟩
def G6.hist(h:G6 w c p ba bs B wr){rs:JD}(hr:EZ false w2 p.hb p.hr p.hc c.ba c.nb c.cb rs)(k:Tch wr.heap.size (λx=>x=p.hr) wr w2):G6 w c p ba bs { B with h:=rs } w2:=
 have q:=h.l.setH hr k
 ⟨q.1,h.right q.2 k,h.dis,h.touch q.2 k,h.lt⟩
def G6.num(h:G6 w c p ba bs B wr)(n:Int):G6 w c p ba bs { B with n:=n } (wr.setCell ⟨p.b,0,none⟩ (JK n)):=
 have q:=h.l.Jp3 n
 ⟨q.1,h.right q.2.1 q.2.2,h.dis,h.touch q.2.1 q.2.2,h.lt⟩
def G6.least(h:G6 w c p ba bs B wr){ls:JD}(hr:TN wr p.lb p.lr c.K ls w2):TB w c p { B with l:=ls } w2:=G5.Jpu h.l h.tch hr
def zJ(h:Jw false w c p B)(hB:Px false w c.ba bs)(hd:∀x∈p.pl,c.ba≠some ⟨x,0,none⟩)(hok:Ou c B)(hc:CZ c)(CQ:bs.length=c.nb)(IV:bs.Pairwise (· < ·)){x:Int}(hx:0<=x/\x<=18446744073709551615)(v:Int) :
  Calls prog 43 #[JL p.b,.int .u64 x,JK v] w λe w'=>(∃v,e=.returned v)/\TB w c p (P6 c bs B x v) w':=by
 have c0:=h.c0;have c1:=h.c1;have c2:=h.c2;have c3:=h.c3;have cf:=h.hd.frozen 0;have x0:=ix0 (.iface 186 (JL p.rb)) (.iface 189 (JL p.hb)) (.iface 192 (JL p.lb));have x1:=ix1 (.iface 186 (JL p.rb)) (.iface 189 (JL p.hb)) (.iface 192 (JL p.lb));have x2:=ix2 (.iface 186 (JL p.rb)) (.iface 189 (JL p.hb)) (.iface 192 (JL p.lb));have y0:=Jxr p.rb;have y1:=Jxs p.hb;have y2:=Jxt p.lb;have hm:G6 w c p c.ba bs B w:=⟨h,hB,hd,.refl,h.lt⟩;have OU:=hm.num (wrap64 (B.n+1));have BL:=hc.nb;have s1:∀wr w1,G6 w c p c.ba bs { B with n:=wrap64 (B.n+1) } wr->DV false w1 p.rb p.rr p.rc c.bits (Om c.bits B.r x)->Tch wr.heap.size (λy=>y=p.rr) wr w1->G6 w c p c.ba bs { B with n:=wrap64 (B.n+1),r:=Om c.bits B.r x } w1:=λwr w1 h h1 h2=>h.reg h1 h2;have t1:Hid (∀wr,G6 w c p c.ba bs { B with n:=wrap64 (B.n+1) } wr->Calls prog 248 #[JL p.rb,.int .u64 x,JK v] wr λe w'=>(∃v,e=.returned v)/\G6 w c p c.ba bs { B with n:=wrap64 (B.n+1),r:=Om c.bits B.r x } w'):=λwr hr=>
  (Jzw hr.l.reg ⟨hc.b1,hc.b2⟩ hok.r hok.r8 h.nd.n2.1 hx v).mono λe w' ⟨h1,h2,h3⟩=>⟨h1,hr.reg h2 h3⟩
 have t2:Hid (∀wr,G6 w c p c.ba bs { B with n:=wrap64 (B.n+1),r:=Om c.bits B.r x } wr->Calls prog 255 #[JL p.hb,.int .u64 x,JK v] wr λe w'=>(∃v,e=.returned v)/\G6 w c p c.ba bs { B with n:=wrap64 (B.n+1),r:=Om c.bits B.r x,h:=NH bs B.h v } w'):=λwr hr=>by have hh:=hr.l.hist;rw[<- CQ]at hh;refine(Jxm hh hr.r (by grind) IV (hok.h.trans (by rw[CQ])) h.nd.n4.1 x v).mono λe w' ⟨h1,h2,h3⟩=>⟨h1,?_⟩;rw[CQ]at h2;exact hr.hist h2 h3
 have t3:Hid (∀wr,G6 w c p c.ba bs { B with n:=wrap64 (B.n+1),r:=Om c.bits B.r x,h:=NH bs B.h v } wr->Calls prog 262 #[JL p.lb,.int .u64 x,JK v] wr λe w'=>(∃v,e=.returned v)/\TB w c p (P6 c bs B x v) w'):=λwr hr=>
  (Jim hr.l.least h.nd.n6 (by show B.l.length<=1000;have:=hok.lK;have:=hc.k2;omega) (hok.l.imp λh=>by omega) ⟨by have:=hc.k1;omega,by have:=hc.k2;omega⟩ x v).mono λe w' ⟨h1,h2⟩=>⟨h1,hr.least h2⟩
 clear s1 hm BL
 go_enter func43,ntmps43
 go_wp2;clear c0 c1 c2 c3 cf;generalize w.setCell ⟨p.b,0,none⟩ (JK (wrap64 (B.n+1)))=W0 at *;refine wp_loop_rounds 4 ?_;rw[rounds_succ]
 go_wp2_with (go_at_call 248;refine(t1 _ OU).mono ?_;rintro e w1 ⟨⟨v1,rfl⟩,GN⟩)
 rw[rounds_succ]
 go_wp2_with (go_at_call 255;refine(t2 _ GN).mono ?_;rintro e w2 ⟨⟨v2,rfl⟩,Nr⟩)
 rw[rounds_succ]
 go_wp2_with (go_at_call 262;refine(t3 _ Nr).mono ?_;rintro e w3 ⟨⟨v3,rfl⟩,hm3⟩)
 rw[rounds_succ];go_wp2;go_end0
 grind
end
def Lies(base:Nat)(H:List (Nat × Obj))(w:JE):Prop:=∀p∈H,base<=p.1/\w.heap[p.1]?=some p.2
def Lies.tch{base:Nat}{H:List (Nat × Obj)}{w w':JE}(h:Lies base H w)(t:Tch w.heap.size M0 w w'):Lies base H w':=λp hp=>⟨(h p hp).1,(t.heap _ (Jj (h p hp).2) λx=>x).trans (h p hp).2⟩
theorem Lies.nil{base:Nat}{w:JE}:Lies base [] w:=λp hp=>by cases hp
def Lies.cons{base:Nat}{H:List (Nat × Obj)}{w:JE}{o:Obj}(h:Lies base H w)(hb:base<=w.heap.size):Lies base ((w.heap.size,o)::H) (w.alloc o):=λp hp=>by
 rcases AL.1 hp with rfl|hp
 .grind[Ja]
 .exact⟨(h p hp).1,(J8 _ (Jj (h p hp).2)).trans (h p hp).2⟩
def Lies.app{base:Nat}{H H':List (Nat × Obj)}{w:JE}(h:Lies base H w)(h':Lies base H' w):Lies base (H++H') w:=λp hp=>(Gn.1 hp).elim (h p) (h' p)
def LF(base:Nat)(Φ:Nat->JJ->List (Nat × Obj)->Prop)(i:Nat)(v:JJ)(w:JE):Prop:=∃H,Φ i v H/\Lies base H w
def LF.stable{base:Nat}{Φ:Nat->JJ->List (Nat × Obj)->Prop}(i:Nat)(v:JJ)(w w':JE)(h:LF base Φ i v w)(t:Tch w.heap.size M0 w w'):LF base Φ i v w':=by obtain⟨H,h1,h2⟩:=h;exact⟨H,h1,h2.tch t⟩
def P7(c:J7):Bun:=⟨0,List.replicate (2 ^ c.bits.toNat) 0,List.replicate (c.nb+1) 0,[]⟩
def Jfo{c:J7}(hc:CZ c):Ou c (P7 c):=
 ⟨List.length_replicate,λx hx=>by obtain rfl:=List.eq_of_mem_replicate hx;decide,List.length_replicate,λx hx=>by obtain rfl:=List.eq_of_mem_replicate hx;exact⟨by decide,by decide⟩,List.Pairwise.nil,by have:=hc.k1;simp[P7];omega,λx hx=>(by cases hx),by show I64 0;exact⟨by decide,by decide⟩⟩
section
variable{w:JE}{c:J7}
abbrev pt(b:Nat)(o:Nat:=0):JJ:=.pointer (some ⟨b,o,none⟩)
def UR(n:Nat):Obj:=.cells (Array.replicate n (.int .u8 0)) 5
def UU(n:Nat):Obj:=.cells (Array.replicate n (JK 0)) 3
def J045(c:J7)(n0 n:Nat):Nat->JJ->List (Nat × Obj)->Prop
 |0,v,H=>H=[]/\v=pt n0 1
 |1,v,H=>H=[]/\v=.int .i64 c.bits
 |2,v,H=>H=[]/\v=pt n0 1
 |3,v,H=>H=[]/\v=.int .i64 c.bits
 |4,v,H=>H=[]/\v=.int .i64 n
 |5,v,H=>∃g,H=[(g,UR n)]/\v=.slice (some ⟨g,0,none⟩) n n
 |6,v,H=>∃g,H=[(g,UR n)]/\v=.agg #[.int .i64 c.bits,.slice (some ⟨g,0,none⟩) n n]
 |7,v,H=>∃b g,H=[(b,.cells #[.int .i64 c.bits,.slice (some ⟨g,0,none⟩) n n] 188),(g,UR n)]/\v=pt b
 |8,v,H=>∃b g,H=[(b,.cells #[.int .i64 c.bits,.slice (some ⟨g,0,none⟩) n n] 188),(g,UR n)]/\v=.iface 186 (pt b)
 |9,v,H=>H=[]/\v=pt n0 3
 |10,v,H=>H=[]/\v=.slice c.ba c.nb c.cb
 |11,v,H=>H=[]/\v=pt n0 3
 |12,v,H=>H=[]/\v=.slice c.ba c.nb c.cb
 |13,v,H=>H=[]/\v=.int .i64 c.nb
 |14,v,H=>H=[]/\v=.int .i64 (c.nb+1)
 |15,v,H=>∃g,H=[(g,UU (c.nb+1))]/\v=.slice (some ⟨g,0,none⟩) (c.nb+1) (c.nb+1)
 |16,v,H=>∃g,H=[(g,UU (c.nb+1))]/\v=.agg #[.slice c.ba c.nb c.cb,.slice (some ⟨g,0,none⟩) (c.nb+1) (c.nb+1)]
 |17,v,H=>∃b g,H=[(b,.cells #[.slice c.ba c.nb c.cb,.slice (some ⟨g,0,none⟩) (c.nb+1) (c.nb+1)] 191),(g,UU (c.nb+1))]/\v=pt b
 |18,v,H=>∃b g,H=[(b,.cells #[.slice c.ba c.nb c.cb,.slice (some ⟨g,0,none⟩) (c.nb+1) (c.nb+1)] 191),(g,UU (c.nb+1))]/\v=.iface 189 (pt b)
 |19,v,H=>H=[]/\v=pt n0 2
 |20,v,H=>H=[]/\v=.int .i64 c.K
 |21,v,H=>H=[]/\v=.agg #[.int .i64 c.K,.slice none 0 0]
 |22,v,H=>∃b,H=[(b,.cells #[.int .i64 c.K,.slice none 0 0] 194)]/\v=pt b
 |23,v,H=>∃b,H=[(b,.cells #[.int .i64 c.K,.slice none 0 0] 194)]/\v=.iface 192 (pt b)
 |24,v,H=>∃b1 g1 b2 g2 b3,H=[(b1,.cells #[.int .i64 c.bits,.slice (some ⟨g1,0,none⟩) n n] 188),(g1,UR n)]++([(b2,.cells #[.slice c.ba c.nb c.cb,.slice (some ⟨g2,0,none⟩) (c.nb+1) (c.nb+1)] 191),(g2,UU (c.nb+1))]++[(b3,.cells #[.int .i64 c.K,.slice none 0 0] 194)])/\v=.agg #[.iface 186 (pt b1),.iface 189 (pt b2),.iface 192 (pt b3)]
 |25,v,H=>∃b1 g1 b2 g2 b3,H=[(b1,.cells #[.int .i64 c.bits,.slice (some ⟨g1,0,none⟩) n n] 188),(g1,UR n)]++([(b2,.cells #[.slice c.ba c.nb c.cb,.slice (some ⟨g2,0,none⟩) (c.nb+1) (c.nb+1)] 191),(g2,UU (c.nb+1))]++[(b3,.cells #[.int .i64 c.K,.slice none 0 0] 194)])/\v=.agg #[.int .i64 0,.iface 186 (pt b1),.iface 189 (pt b2),.iface 192 (pt b3)]
 |_,v,H=>∃b b1 g1 b2 g2 b3,H=(b,.cells #[.int .i64 0,.iface 186 (pt b1),.iface 189 (pt b2),.iface 192 (pt b3)] 131)::([(b1,.cells #[.int .i64 c.bits,.slice (some ⟨g1,0,none⟩) n n] 188),(g1,UR n)]++([(b2,.cells #[.slice c.ba c.nb c.cb,.slice (some ⟨g2,0,none⟩) (c.nb+1) (c.nb+1)] 191),(g2,UU (c.nb+1))]++[(b3,.cells #[.int .i64 c.K,.slice none 0 0] 194)]))/\v=pt b
def LX{w:JE}{b b':Nat}{a a':JC}{t t':JH}(h:w.heap[b]?=some (.cells a t))(h':w.heap[b']?=some (.cells a' t'))(hn:t≠t'):b≠b':=λe=>by
 grind
def mixed:prog.follows .mixedOrders=true:=by kernel_rfl
def Jxx(hc:CZ c)(YD seed:Int) :
  Calls prog 42 #[.agg (EI c YD seed)] w λe w'=>∃q:BP,e=.returned (JL q.b)/\Jw false w' c q (P7 c)/\(∀x∈q.pl,w.heap.size<=x)/\Tch w.heap.size M0 w w':=by
 have FD:=hc.b1;have Dk:=hc.b2;have BL:=hc.nb;obtain⟨n,hn⟩:∃n:Nat,n=2 ^ c.bits.toNat:=⟨_,rfl⟩;have Gs:c.bits=4\/c.bits=5\/c.bits=6:=by omega
 have hn64:n<=64:=by
  grind
 have GN:=mkRow 120 5 .u8 1 underlying120 info5 (by omega) n (by omega);have Nr:=mkRow 24 3 .i64 8 underlying24 info3 (by omega) (c.nb+1) (by omega);have Jp6:∀w1,(Instr.makeSlice 24 (JK ((c.nb:Int)+1)) (JK ((c.nb:Int)+1))).run prog w1=.ok (JM w1.heap.size (c.nb+1) (c.nb+1)) (w1.alloc (.cells (Array.replicate (c.nb+1) (JK 0)) 3)):=λw1=>by
  grind
 unfold EI
 go_enter func42,ntmps42
 go_wp2_with fail
 have Aq:∀w1 k v,Tch (w.heap.size+1) M0 (w.alloc (.cells #[JK YD,JK c.bits,JK c.K,.slice c.ba c.nb c.cb,JK seed] 47)) w1->#[JK YD,JK c.bits,JK c.K,.slice c.ba c.nb c.cb,JK seed][k]?=some v->w1.cell? ⟨w.heap.size,k,none⟩=some v:=λw1 k v t h=>
  (cell_of ((t.heap _ (by omega) λx=>x).trans (Ja _)) k).trans h
 have L6:IntKind.i64.wrap ((c.nb:Int)+1)=c.nb+1:=by rw[IntKind.wrap_i64];omega
 have Jp8:IntKind.i64.wrap (2 ^ c.bits.toNat)=n:=by
  grind[IntKind.wrap_i64]
 generalize Ci:w.alloc (.cells #[JK YD,JK c.bits,JK c.K,.slice c.ba c.nb c.cb,JK seed] 47)=W0 at *;have V7:W0.heap.size=w.heap.size+1:=by rw[<- Ci];simp
 rw[<- V7]at Aq;generalize Vy:w.heap.size=n0 at *;refine Jdg 27 (λi=>i+3) (LF W0.heap.size (J045 c n0 n)) mixed (by kernel_rfl) (λi hi=>by simp;omega) LF.stable ?_ ?_
 .intro i o a w1 hi ho ht Ag hold hd;have h1:a.tmps[1]?=some (pt n0):=(hold 1 (by grind)).trans rfl;have Uy:=ht.size
  match i,hi with
  |0,_=>
   cases ho;exact J9 rfl rfl (by simp[execOp,go_sem,h1];try rfl) ⟨_,rfl,⟨_,⟨rfl,rfl⟩,.nil⟩,.refl⟩
  |2,_=>
   cases ho;exact J9 rfl rfl (by simp[execOp,go_sem,h1];try rfl) ⟨_,rfl,⟨_,⟨rfl,rfl⟩,.nil⟩,.refl⟩
  |9,_=>
   cases ho;exact J9 rfl rfl (by simp[execOp,go_sem,h1];try rfl) ⟨_,rfl,⟨_,⟨rfl,rfl⟩,.nil⟩,.refl⟩
  |11,_=>
   cases ho;exact J9 rfl rfl (by simp[execOp,go_sem,h1];try rfl) ⟨_,rfl,⟨_,⟨rfl,rfl⟩,.nil⟩,.refl⟩
  |19,_=>
   cases ho;exact J9 rfl rfl (by simp[execOp,go_sem,h1];try rfl) ⟨_,rfl,⟨_,⟨rfl,rfl⟩,.nil⟩,.refl⟩
  |1,_=>
   cases ho;obtain⟨_,e0,H0,⟨rfl,rfl⟩,l0⟩:=hd 0 rfl;exact J9 rfl rfl (by simp[execOp,go_sem,e0,Aq _ 1 _ ht rfl];try rfl) ⟨_,rfl,⟨_,⟨rfl,rfl⟩,.nil⟩,.refl⟩
  |3,_=>
   cases ho;obtain⟨_,e2,H2,⟨rfl,rfl⟩,l2⟩:=hd 2 rfl;exact J9 rfl rfl (by simp[execOp,go_sem,e2,Aq _ 1 _ ht rfl];try rfl) ⟨_,rfl,⟨_,⟨rfl,rfl⟩,.nil⟩,.refl⟩
  |4,_=>
   cases ho;obtain⟨_,e3,H3,⟨rfl,rfl⟩,l3⟩:=hd 3 rfl;exact J9 rfl rfl (by simp[execOp,go_sem,e3,Jp8];try rfl) ⟨_,rfl,⟨_,⟨rfl,rfl⟩,.nil⟩,.refl⟩
  |5,_=>
   cases ho;obtain⟨_,e4,H4,⟨rfl,rfl⟩,l4⟩:=hd 4 rfl;exact J9 rfl rfl (by simp[execOp,go_sem,e4,GN];try rfl) ⟨_,rfl,⟨_,⟨_,rfl,rfl⟩,Lies.nil.cons ht.size⟩,(Tch.refl.alloc (Ad _) _)⟩
  |6,_=>
   cases ho;obtain⟨_,e1,H1,⟨rfl,rfl⟩,l1⟩:=hd 1 rfl;obtain⟨_,e5,H5,⟨g,rfl,rfl⟩,l5⟩:=hd 5 rfl;exact J9 rfl rfl (by simp[execOp,go_sem,e1,e5];try rfl) ⟨_,rfl,⟨_,⟨_,rfl,rfl⟩,l5⟩,.refl⟩
  |7,_=>
   cases ho;obtain⟨_,e6,H6,⟨g,rfl,rfl⟩,l6⟩:=hd 6 rfl;exact J9 rfl rfl (by simp[execOp,go_sem,e6];try rfl) ⟨_,rfl,⟨_,⟨_,_,rfl,rfl⟩,l6.cons ht.size⟩,(Tch.refl.alloc (Ad _) _)⟩
  |8,_=>
   cases ho;obtain⟨_,e7,H7,⟨b,g,rfl,rfl⟩,l7⟩:=hd 7 rfl;exact J9 rfl rfl (by simp[execOp,go_sem,e7];try rfl) ⟨_,rfl,⟨_,⟨_,_,rfl,rfl⟩,l7⟩,.refl⟩
  |10,_=>
   cases ho;obtain⟨_,e9,H9,⟨rfl,rfl⟩,l9⟩:=hd 9 rfl;exact J9 rfl rfl (by simp[execOp,go_sem,e9,Aq _ 3 _ ht rfl];try rfl) ⟨_,rfl,⟨_,⟨rfl,rfl⟩,.nil⟩,.refl⟩
  |12,_=>
   cases ho;obtain⟨_,QA,H11,⟨rfl,rfl⟩,l11⟩:=hd 11 rfl;exact J9 rfl rfl (by simp[execOp,go_sem,QA,Aq _ 3 _ ht rfl];try rfl) ⟨_,rfl,⟨_,⟨rfl,rfl⟩,.nil⟩,.refl⟩
  |13,_=>
   cases ho;obtain⟨_,WQ,H12,⟨rfl,rfl⟩,l12⟩:=hd 12 rfl;exact J9 rfl rfl (by simp[execOp,go_sem,WQ];try rfl) ⟨_,rfl,⟨_,⟨rfl,rfl⟩,.nil⟩,.refl⟩
  |14,_=>
   cases ho;obtain⟨_,NW,H13,⟨rfl,rfl⟩,l13⟩:=hd 13 rfl;exact J9 rfl rfl (by simp[execOp,go_sem,NW,L6];try rfl) ⟨_,rfl,⟨_,⟨rfl,rfl⟩,.nil⟩,.refl⟩
  |15,_=>
   cases ho;obtain⟨_,O5,H14,⟨rfl,rfl⟩,l14⟩:=hd 14 rfl;exact J9 rfl rfl (by simp[execOp,go_sem,O5,Jp6];try rfl) ⟨_,rfl,⟨_,⟨_,rfl,rfl⟩,Lies.nil.cons ht.size⟩,(Tch.refl.alloc (Ad _) _)⟩
  |16,_=>
   cases ho;obtain⟨_,MZ,H10,⟨rfl,rfl⟩,l10⟩:=hd 10 rfl;obtain⟨_,KG,H15,⟨g,rfl,rfl⟩,lJ⟩:=hd 15 rfl;exact J9 rfl rfl (by simp[execOp,go_sem,MZ,KG];try rfl) ⟨_,rfl,⟨_,⟨_,rfl,rfl⟩,lJ⟩,.refl⟩
  |17,_=>
   cases ho;obtain⟨_,PG,H16,⟨g,rfl,rfl⟩,lM⟩:=hd 16 rfl;exact J9 rfl rfl (by simp[execOp,go_sem,PG];try rfl) ⟨_,rfl,⟨_,⟨_,_,rfl,rfl⟩,lM.cons ht.size⟩,(Tch.refl.alloc (Ad _) _)⟩
  |18,_=>
   cases ho;obtain⟨_,PK,H17,⟨b,g,rfl,rfl⟩,l17⟩:=hd 17 rfl;exact J9 rfl rfl (by simp[execOp,go_sem,PK];try rfl) ⟨_,rfl,⟨_,⟨_,_,rfl,rfl⟩,l17⟩,.refl⟩
  |20,_=>
   cases ho;obtain⟨_,S9,H19,⟨rfl,rfl⟩,l19⟩:=hd 19 rfl;exact J9 rfl rfl (by simp[execOp,go_sem,S9,Aq _ 2 _ ht rfl];try rfl) ⟨_,rfl,⟨_,⟨rfl,rfl⟩,.nil⟩,.refl⟩
  |21,_=>
   cases ho;obtain⟨_,Vl,H20,⟨rfl,rfl⟩,l20⟩:=hd 20 rfl;exact J9 rfl rfl (by simp[execOp,go_sem,Vl];try rfl) ⟨_,rfl,⟨_,⟨rfl,rfl⟩,.nil⟩,.refl⟩
  |22,_=>
   cases ho;obtain⟨_,WU,H21,⟨rfl,rfl⟩,l21⟩:=hd 21 rfl;exact J9 rfl rfl (by simp[execOp,go_sem,WU];try rfl) ⟨_,rfl,⟨_,⟨_,rfl,rfl⟩,Lies.nil.cons ht.size⟩,(Tch.refl.alloc (Ad _) _)⟩
  |23,_=>
   cases ho;obtain⟨_,WV,H22,⟨b,rfl,rfl⟩,l22⟩:=hd 22 rfl;exact J9 rfl rfl (by simp[execOp,go_sem,WV];try rfl) ⟨_,rfl,⟨_,⟨_,rfl,rfl⟩,l22⟩,.refl⟩
  |24,_=>
   cases ho;obtain⟨_,e8,H8,⟨b1,g1,rfl,rfl⟩,l8⟩:=hd 8 rfl;obtain⟨_,Na,H18,⟨b2,g2,rfl,rfl⟩,l18⟩:=hd 18 rfl;obtain⟨_,WW,H23,⟨b3,rfl,rfl⟩,l23⟩:=hd 23 rfl;exact J9 rfl rfl (by simp[execOp,go_sem,e8,Na,WW];try rfl) ⟨_,rfl,⟨_,⟨_,_,_,_,_,rfl,rfl⟩,l8.app (l18.app l23)⟩,.refl⟩
  |25,_=>
   cases ho;obtain⟨_,QB,H24,⟨b1,g1,b2,g2,b3,rfl,rfl⟩,l24⟩:=hd 24 rfl;exact J9 rfl rfl (by simp[execOp,go_sem,QB];try rfl) ⟨_,rfl,⟨_,⟨_,_,_,_,_,rfl,rfl⟩,l24⟩,.refl⟩
  |26,_=>
   cases ho;obtain⟨_,WX,H25,⟨b1,g1,b2,g2,b3,rfl,rfl⟩,l25⟩:=hd 25 rfl;exact J9 rfl rfl (by simp[execOp,go_sem,WX];try rfl) ⟨_,rfl,⟨_,⟨_,_,_,_,_,_,rfl,rfl⟩,l25.cons ht.size⟩,(Tch.refl.alloc (Ad _) _)⟩
  |i+27,h=>grind
 .intro a w1 ht Ob Ag hold hf;obtain⟨v,hv,H,⟨b,b1,g1,b2,g2,b3,rfl,rfl⟩,hl⟩:=hf 26 (by omega);show wpOps _ _ _ [27] a w1;rw[wpOps_cons];refine J9 rfl rfl (v:=pt b) (w':=w1) (by simp[execOp,hv,go_sem]) ?_;simp only[wpOps];go_wp2;simp only[Lies,G9,Gm,AL,BU,or_false,forall_eq_or_imp,forall_eq]at hl;obtain⟨⟨B0,hb⟩,⟨B1,OD⟩,⟨B2,Ba⟩,⟨B3,OE⟩,⟨B4,Bl⟩,⟨B5,YF⟩⟩:=hl;unfold UR at Ba;unfold UU at Bl;have hn5:(P7 c).r=List.replicate n 0:=by unfold P7;rw[hn]
  have Aj:∀{g:Nat}{k:IntKind}{t:JH}(m:Nat),w1.heap[g]?=some (.cells (Array.replicate m (.int k 0)) t)->Row false w1 g t k (List.replicate m 0) m:=λm h=>by
   refine⟨_,⟨(0,0),h,λ_=>rfl⟩,by simp,by simp,λi hi=>?_,.replicate ⟨_,_,rfl⟩⟩
   grind
  refine bodyPost_ret (v:=pt b) ?_ Ob ⟨⟨b,b1,g1,n,b2,g2,c.nb+1,b3,none⟩,rfl,⟨⟨_,hb,λ_=>rfl⟩,⟨⟨_,OD.trans (by simp[hn5]),λ_=>rfl⟩,by grind⟩,⟨⟨_,OE.trans (by simp[P7]),λ_=>rfl⟩,Aj (c.nb+1) Bl⟩,⟨⟨_,YF,λ_=>rfl⟩,rfl⟩,⟨⟨?_,?_,?_,?_,?_,?_⟩,⟨?_,?_,?_,?_,?_⟩,⟨?_,?_,?_,?_⟩,⟨?_,?_,?_⟩,⟨?_,?_⟩,?_⟩⟩,λx hx=>?_,?_⟩
  .simp[results,results42,go_sem,Act.put,Ag]
  all_goals first|exact LX (by assumption) (by assumption) (by decide)|exact LX hb OD (by decide)|exact LX hb Ba (by decide)|exact LX hb OE (by decide)|exact LX hb Bl (by decide)|exact LX hb YF (by decide)|exact LX OD Ba (by decide)|exact LX OD OE (by decide)|exact LX OD Bl (by decide)|exact LX OD YF (by decide)|exact LX Ba OE (by decide)|exact LX Ba Bl (by decide)|exact LX Ba YF (by decide)|exact LX OE Bl (by decide)|exact LX OE YF (by decide)|exact LX Bl YF (by decide)|(rintro⟨_,h⟩;cases h)|skip
  .rcases BP.mem.1 hx with h|h|h|h|h|h|⟨_,h⟩
   all_goals grind
  .rw[<- Vy,<- Ci]at *;exact(Tch.refl.alloc (Ad _) _).then ht (by simp) λ_ _ h=>h
end
def BI(ks:JD):JD:=ks++List.replicate (5-ks.length) 0
theorem mW{ks:JD}(h:ks.length<=5):(BI ks).length=5:=by simp[BI];omega
section
variable{fr:Bool}{w:JE}{kb kc:Nat}{ks:JD}
theorem add0(b j:Nat):((⟨b,0,none⟩:Addr).add j)=⟨b,j,none⟩:=by simp[Addr.add];grind
def Row.J046{t:JH}{k:IntKind}{xs:JD}{cap b:Nat}(h:Row fr w b t k xs cap):∀j v,(xs.map (Value.int k))[j]?=some v->w.cell? ((⟨b,0,none⟩:Addr).add j)=some v:=by
 intro j v hj;have hl:j<xs.length:=by grind
 have:=h.cell hl
 grind[add0,List.getElem?_eq_getElem]
def Jit(h:Row fr w kb 3 .i64 ks kc)(hn:ks.length<=5) :
  Calls prog 40 #[JM kb ks.length kc] w λe w'=>e=.returned (.agg (ai .i64 (BI ks)))/\Tch w.heap.size M0 w w':=by
 have hi3:(prog.info? 3).map (·.size)=some 1:=by kernel_rfl
 have Ac:=h.lt;have Dl:=h.J046;have Qc:splice (List.replicate 5 (JK 0)) 0 (ks.map (Value.int .i64))=(BI ks).map (Value.int .i64):=by unfold splice BI;rw[List.take_zero,Gm,List.drop_replicate,List.map_append,List.map_replicate,Nat.zero_add,FQ]
 have Qc:splice [JK 0,JK 0,JK 0,JK 0,JK 0] 0 (ks.map (Value.int .i64))=(BI ks).map (Value.int .i64):=Qc;obtain⟨x0,x1,x2,x3,x4,hx⟩:∃x0 x1 x2 x3 x4,BI ks=[x0,x1,x2,x3,x4]:=by
  have h1:=mW hn;generalize BI ks=l at h1;rcases l with _|⟨x0,_|⟨x1,_|⟨x2,_|⟨x3,_|⟨x4,_|⟨x5,l⟩⟩⟩⟩⟩⟩<;>simp at h1
  grind
 rw[hx]at Qc ⊢;simp only[ai,D5,List.map_nil]at Qc ⊢;have hL:(ks.map (Value.int .i64)).length=ks.length:=by simp
 generalize FH:ks.map (Value.int .i64)=cs at *;have vU:∀v∈cs,v.oneCell'=true:=by rw[<- FH];intro v hv;obtain⟨x,_,rfl⟩:=AZ.1 hv;rfl
 clear FH hx h;generalize ks.length=n at *
 go_enter func40,ntmps40
 go_wp2_with (refine wpList_copy_splice rfl _ _ 24 24 rfl 3 underlying24 hi3 (some ⟨w.heap.size,0,none⟩) (some ⟨kb,0,none⟩) 5 5 n kc rfl rfl w.heap.size 0 [JK 0,JK 0,JK 0,JK 0,JK 0] 104 (Ja _) cs (by grind) (λ_=>⟨rfl,_,rfl,λj v hj=>by grind[add0,World.cell?_of_block,J8]⟩) (by grind) vU w.heap.size w ((Below.refl _ w).alloc (Ad _) _) (Ad _) ?_;intro w2 Dk hbel;rw[Qc]at Dk;have c0:=(cell_of Dk 0).trans rfl;have c1:=(cell_of Dk 1).trans rfl;have c2:=(cell_of Dk 2).trans rfl;have c3:=(cell_of Dk 3).trans rfl;have c4:=(cell_of Dk 4).trans rfl;have q:=FZ Dk 0;have q1:=FZ Dk 1;have q2:=FZ Dk 2;have q3:=FZ Dk 3;have q4:=FZ Dk 4)
 go_wp2;have hB:Tch w.heap.size M0 w w2:=.of_below hbel;refine bodyPost_ret (v:=.agg #[JK x0,JK x1,JK x2,JK x3,JK x4]) (by have hr:f40.results=#[.cell 2 104]:=rfl;simp[results,hr,go_sem,c0,c1,c2,c3,c4]) rfl ⟨rfl,?_⟩;refine((((hB.set ?_ _).set ?_ _).set ?_ _).set ?_ _).set ?_ _<;>exact .inl (by simp)
end
structure TR where
 k:JD
 p:BP
 B:Bun
def TR.kv(t:TR):JD × JJ:=(t.k,JL t.p.b)
def tpl(T:List TR):List Nat:=T.flatMap λt=>t.p.pl
def tm(T:List TR)(k:JD):Option Bun:=(T.find? λt=>decide (t.k=k)).map (·.B)
structure TabAt(fr:Bool)(w:JE)(c:J7)(m:Nat)(T:List TR):Prop where
 map:Cm w m (T.map TR.kv)
 bun:∀t∈T,Jw fr w c t.p t.B
 ok:∀t∈T,Jl c t.B
 out:m∉tpl T
 dis:T.Pairwise λs t=>∀x∈s.p.pl,x∉t.p.pl
theorem Jo{T:List TR}{x:Nat}:x∈tpl T↔∃t∈T,x∈t.p.pl:=by simp[tpl]
section
variable{fr:Bool}{w w':JE}{c:J7}{m:Nat}{T:List TR}{k:JD}
def TabAt.keys(h:TabAt fr w c m T):∀t∈T,EM t.k:=λt ht=>h.map.keys t.kv (List.mem_map_of_mem ht)
theorem TabAt.nodup(h:TabAt fr w c m T):(T.map (·.k)).Nodup:=by
 have:=h.map.nodup
 rwa [List.map_map,show(λp:JD × JJ=>p.1) ∘ TR.kv=TR.k from rfl]at this
def TabAt.kept(h:TabAt fr w c m T)(hh:∀x,x=m\/x∈tpl T->w'.heap[x]?=w.heap[x]?):TabAt fr w' c m T:=
 ⟨h.map.kept (hh m (.inl rfl)),λt ht=>(h.bun t ht).kept λx hx=>hh x (.inr (Jo.2 ⟨t,ht,hx⟩)),h.ok,h.out,h.dis⟩
def TabAt.lt(h:TabAt fr w c m T):∀x,x=m\/x∈tpl T->x<w.heap.size:=λx hx=>by
 rcases hx with rfl|hx
 .exact h.map.lt
 .obtain⟨t,ht,hx⟩:=Jo.1 hx;exact(h.bun t ht).lt x hx
def TabAt.tch{N:Nat}{M:JB}(h:TabAt fr w c m T)(q:Tch N M w w')(hb:∀x,x=m\/x∈tpl T->x<N/\¬M x):TabAt fr w' c m T:=h.kept λx hx=>q.heap x (hb x hx).1 (hb x hx).2
theorem Yp{T:List TR}{k:JD}(h:tm T k=none):look (T.map TR.kv) k=none/\∀t∈T,t.k≠k:=by unfold tm at h;rw[Option.map_eq_none_iff,List.find?_eq_none]at h;refine⟨?_,λt ht e=>h t ht (by simp[e])⟩;unfold look;rw[Option.map_eq_none_iff,List.find?_eq_none];intro p hp;obtain⟨t,ht,rfl⟩:=AZ.1 hp;exact h t ht
def Qk{T:List TR}{k:JD}{b:Bun}(h:tm T k=some b):∃t T1 T2,T=T1++t::T2/\t.k=k/\t.B=b/\(∀s∈T1,s.k≠k)/\look (T.map TR.kv) k=some (JL t.p.b):=by
 induction T with
 |nil=>simp[tm]at h
 |cons s T ih=>
  by_cases e:s.k=k
  .refine⟨s,[],T,rfl,e,?_,by simp,?_⟩
   .simpa[tm,e]using h
   .simp[look,TR.kv,e]
  .have h':tm T k=some b:=by simpa[tm,e]using h
   obtain⟨t,T1,T2,rfl,h1,h2,h3,h4⟩:=ih h';refine⟨t,s::T1,T2,rfl,h1,h2,λx hx=>?_,?_⟩
   .rcases AL.1 hx with rfl|hx
    .exact e
    .exact h3 x hx
   .have:(s.kv).1≠k:=e;simp only[look,D5,List.find?_cons,this,decide_false]at h4 ⊢;exact h4
def Wi{T1 T2:List TR}{t:TR}(h:∀s∈T1,s.k≠t.k)(k:JD):tm (T1++t::T2) k=if k=t.k then some t.B else((tm T1 k).or (tm T2 k)):=by
 unfold tm;rw[List.find?_append,List.find?_cons];by_cases e:k=t.k
 .subst e;have:(T1.find? λs=>decide (s.k=t.k))=none:=List.find?_eq_none.2 λs hs=>by simpa using h s hs
  simp[this]
 .rw[if_neg e];have:decide (t.k=k)=false:=by simp[Ne.symm e]
  rw[this];cases T1.find? λs=>decide (s.k=k)<;>rfl
def TM(w:JE)(c:J7)(m:Nat)(T:List TR)(k:JD)(B:Bun)(w':JE):Prop:=
 ∃T',TabAt false w' c m T'/\(∀k',tm T' k'=if k'=k then om c (tm T k) B else tm T k')/\T'.length<=T.length+1/\(∀x∈tpl T',x∈tpl T\/w.heap.size<=x)/\Tch w.heap.size (λx=>x=m\/x∈tpl T) w w'
def TabAt.there{T1 T2:List TR}{t:TR}{B:Bun}(h:TabAt false w c m (T1++t::T2))(hk:∀s∈T1,s.k≠t.k)(hB:Jl c B)(hp:TB w c t.p (mg c t.B B) w'):TM w c m (T1++t::T2) t.k B w':=by
 obtain⟨p',e1,h1,h2,h3⟩:=hp;have mt:t∈T1++t::T2:=by simp
 have hd:=h.dis;rw[List.pairwise_append,KF]at hd;have GU:∀s,s∈T1\/s∈T2->(∀x∈s.p.pl,x∉t.p.pl):=λs hs x hx Af=>by
  rcases hs with hs|hs
  .exact hd.2.2 s hs t (by simp) x hx Af
  .exact hd.2.1.1 s hs x Af hx
 have GV:∀x,x=m\/(∃s,(s∈T1\/s∈T2)/\x∈s.p.pl)->w'.heap[x]?=w.heap[x]?:=λx hx=>by
  refine h3.heap x ?_ ?_
  .rcases hx with rfl|⟨s,hs,hx⟩
   .exact h.map.lt
   .exact(h.bun s (by rcases hs with hs|hs<;>simp[hs])).lt x hx
  .rcases hx with rfl|⟨s,hs,hx⟩
   .exactλhx=>h.out (Jo.2 ⟨t,mt,hx⟩)
   .exact GU s hs x hx
 have GK:∀s,s∈T1\/s∈T2->∀x∈s.p.pl,x∉p'.pl:=λs hs x hx Af=>by
  rcases h2 x Af with h4|h4
  .exact GU s hs x hx h4
  .have:=(h.bun s (by rcases hs with hs|hs<;>simp[hs])).lt x hx;omega
 have D8:∀x,x∈tpl (T1++⟨t.k,p',mg c t.B B⟩::T2)->x∈tpl (T1++t::T2)\/w.heap.size<=x:=λx hx=>by
  obtain⟨s,hs,hx⟩:=Jo.1 hx;rcases Gn.1 hs with hs|hs
  .exact .inl (Jo.2 ⟨s,by simp[hs],hx⟩)
  .rcases AL.1 hs with rfl|hs
   .exact(h2 x hx).imp (λhx=>Jo.2 ⟨t,mt,hx⟩) id
   .exact .inl (Jo.2 ⟨s,by simp[hs],hx⟩)
 have Xx:(T1++⟨t.k,p',mg c t.B B⟩::T2).map TR.kv=(T1++t::T2).map TR.kv:=by simp only[List.map_append,D5,TR.kv,e1]
 refine⟨T1++⟨t.k,p',mg c t.B B⟩::T2,⟨?_,λs hs=>?_,λs hs=>?_,λhx=>?_,?_⟩,λk'=>?_,by simp,D8,h3.mono (Ad _) λx _ hx=>.inr (Jo.2 ⟨t,mt,hx⟩)⟩
 .rw[Xx];exact h.map.kept (GV m (.inl rfl))
 .rcases Gn.1 hs with hs|hs
  .exact(h.bun s (by simp[hs])).kept λx hx=>GV x (.inr ⟨s,.inl hs,hx⟩)
  .rcases AL.1 hs with rfl|hs
   .exact h1
   .exact(h.bun s (by simp[hs])).kept λx hx=>GV x (.inr ⟨s,.inr hs,hx⟩)
 .rcases Gn.1 hs with hs|hs
  .exact h.ok s (by simp[hs])
  .rcases AL.1 hs with rfl|hs
   .exact(h.ok t mt).mg hB
   .exact h.ok s (by simp[hs])
 .rcases D8 m hx with hx|hx
  .exact h.out hx
  .have:=h.map.lt;omega
 .rw[List.pairwise_append,KF];refine⟨hd.1,⟨λs hs x hx Af=>GK s (.inr hs) x Af hx,hd.2.1.2⟩,λs hs y hy x hx=>?_⟩;rcases AL.1 hy with rfl|hy
  .exact GK s (.inl hs) x hx
  .exact hd.2.2 s hs y (by simp[hy]) x hx
 .rw[Wi (t:=⟨t.k,p',mg c t.B B⟩) hk,Wi hk,Wi hk,if_pos rfl];by_cases e:k'=t.k
  .simp[e,om]
  .simp[e]
def TabAt.Jck{p:BP}{B:Bun}{w1:JE}(h:TabAt false w c m T)(hn:tm T k=none)(hB:Jl c B)(hp:Jw false w1 c p B)(hf:∀x∈p.pl,w.heap.size<=x)(ht:Tch w.heap.size M0 w w1)
  (hm:Cm w' m (Ot k (JL p.b) (T.map TR.kv))) (hg:w1.grownBy w' (some m)):TM w c m T k B w':=by
 have D7:=(Yp hn).2;have hT:Ot k (JL p.b) (T.map TR.kv)=(⟨k,p,B⟩::T:List TR).map TR.kv:=by
  unfold Ot;rw[List.filter_eq_self.2]
  .rfl
  .intro q hq;obtain⟨t,ht,rfl⟩:=AZ.1 hq;have h9:decide (t.k=k)=false:=by simpa using D7 t ht
   show(!decide (t.k=k))=true;rw[h9];rfl
 rw[hT]at hm;have LG:=h.map.lt;have iG:m∉p.pl:=λhx=>by have:=hf m hx;omega
 have g2:∀x,x<w1.heap.size->x≠m->w'.heap[x]?=w1.heap[x]?:=λx hx Ap=>hg.block x hx λe=>Ap (Aa e);refine⟨⟨k,p,B⟩::T,⟨hm,λt AA=>?_,λt AA=>?_,λhx=>?_,?_⟩,λk'=>?_,by simp,λx hx=>?_,⟨BN ht.size hg.size,λx hx hn=>?_,hg.tape.trans ht.tape,hg.os.trans ht.os,hg.output.trans ht.output⟩⟩
 .rcases AL.1 AA with rfl|AA
  .exact hp.kept λx hx=>g2 x (hp.lt x hx) λe=>iG (e▸hx)
  .refine(h.bun t AA).kept λx hx=>(g2 x ?_ λe=>h.out (Jo.2 ⟨t,AA,e▸hx⟩)).trans (ht.heap x ((h.bun t AA).lt x hx) λx=>x);have:=(h.bun t AA).lt x hx;have:=ht.size;omega
 .rcases AL.1 AA with rfl|AA
  .exact hB
  .exact h.ok t AA
 .obtain⟨t,AA,hx⟩:=Jo.1 hx;rcases AL.1 AA with rfl|AA
  .exact iG hx
  .exact h.out (Jo.2 ⟨t,AA,hx⟩)
 .refine KF.2 ⟨λt AA x hx Af=>?_,h.dis⟩;have:=hf x hx;have:=(h.bun t AA).lt x Af;omega
 .have:=Wi (T1:=[]) (t:=⟨k,p,B⟩) (T2:=T) (by simp) k';rw[Gm]at this;rw[this,hn];show(if k'=k then some B else((tm [] k').or (tm T k')))=_;simp[om,tm]
 .obtain⟨t,AA,hx⟩:=Jo.1 hx;rcases AL.1 AA with rfl|AA
  .exact .inr (hf x hx)
  .exact .inl (Jo.2 ⟨t,AA,hx⟩)
 .have:=ht.size;exact(g2 x (by omega) λe=>hn (.inl e)).trans (ht.heap x hx λx=>x)
end
section
variable{fr:Bool}{w w':JE}{c:J7}{m:Nat}{T:List TR}{k:JD}
def TM.skip{w1:JE}{B:Bun}(ht:Tch w.heap.size M0 w w1)(hp:TM w1 c m T k B w'):TM w c m T k B w':=by obtain⟨T',h1,h2,h3,h4,h5⟩:=hp;exact⟨T',h1,h2,h3,λx hx=>(h4 x hx).imp id λh=>BN ht.size h,(ht.mono (Ad _) λ_ _ h=>h.elim).trans (h5.mono ht.size λ_ _ h=>h)⟩
def Jln(h:TabAt false w c m T)(hk:EM k){q:BP}{B:Bun}(h2:Jw fr w c q B)(hB:Jl c B)(hc:CZ c)(hd:∀x∈q.pl,x≠m/\x∉tpl T)(hn:T.length<=100000) :
  Calls prog 76 #[.map (some m),.agg (ai .i64 k),JL q.b] w λe w'=>(∃v,e=.returned v)/\TM w c m T k B w':=by
 obtain⟨a0,a1,a2,a3,a4,rfl⟩:∃a0 a1 a2 a3 a4,k=[a0,a1,a2,a3,a4]:=by
  have:=hk.1
  match k,this with
  |[a0,a1,a2,a3,a4],_=>grind
 have hai:ai .i64 [a0,a1,a2,a3,a4]=#[JK a0,JK a1,JK a2,JK a3,JK a4]:=rfl;rw[hai];generalize Zd:[a0,a1,a2,a3,a4]=k at *;obtain⟨w0,hw⟩:∃w0,w0=w.alloc (.cells #[JK a0,JK a1,JK a2,JK a3,JK a4] 104):=⟨_,rfl⟩;have Qd:∀x,x<w.heap.size->w0.heap[x]?=w.heap[x]?:=λx hx=>by grind[J8]
 have Bf:Tch w.heap.size M0 w w0:=by rw[hw];exact Tch.refl.alloc (Ad _) _
 have h0:TabAt false w0 c m T:=h.kept λx hx=>Qd x (h.lt x hx);have vV:Jw fr w0 c q B:=h2.kept λx hx=>Qd x (h2.lt x hx);have Ew:=h0.map.lookup hk;rw[hai]at Ew;have Dl:=J8f (w:=w) (a0:=JK a0) (a1:=JK a1) (a2:=JK a2) (a3:=JK a3) (a4:=JK a4) (t:=104);cases hb:tm T k with
 |some b=>
  obtain⟨t,T1,T2,rfl,rfl,rfl,D7,hl⟩:=Qk hb;rw[hl]at Ew;have mt:t∈T1++t::T2:=by simp
  have hm:=Jt3 (h0.bun t mt) vV (λx hx hq=>(hd x hq).2 (Jo.2 ⟨t,mt,hx⟩)) (h0.ok t mt) hB hc;have fin:∀w',TB w0 c t.p (mg c t.B B) w'->TM w c m (T1++t::T2) t.k B w':=λw' hp=>TM.skip Bf (h0.there D7 hB hp);clear hb hl D7 h h0 h2 vV Qd;subst hw
  go_enter func76,ntmps76
  go_wp2_with (go_at_call 130;refine hm.mono ?_;rintro e w1 ⟨⟨v,rfl⟩,hp⟩)
  refine bodyPost_ret (results_none rfl _ _ _) rfl ?_
  grind
 |none=>
  rw[(Yp hb).1]at Ew;have Dq:=h0.lt;have hln:(T.map TR.kv).length<maxLen:=by rw[FQ];exact Nat.lt_of_le_of_lt hn (by decide)
  have Jpb:Jw fr w0.drew c q B:=vV.kept λ_ _=>rfl;clear vV;have IK:∀w1,Tch w0.drew.heap.size M0 w0.drew w1->∀i,w1.cell? ⟨w.heap.size,i,none⟩=(#[JK a0,JK a1,JK a2,JK a3,JK a4]:JC)[i]?:=λw1 ht i=>by
   refine(ht.cell (a:=⟨w.heap.size,i,none⟩) ?_ λx=>x).trans ?_
   all_goals simp_all
  have Jpe:∀w1,Tch w0.drew.heap.size M0 w0.drew w1->∀p:BP,∃w2,(Instr.mapUpdate 95 (.map (some m)) (.agg #[JK a0,JK a1,JK a2,JK a3,JK a4]) (JL p.b)).run prog w1=.ok () w2/\Cm w2 m (Ot k (JL p.b) (T.map TR.kv))/\w1.grownBy w2 (some m):=λw1 ht p=>by rw[<- hai];exact(h0.map.kept (ht.heap m (Dq m (.inl rfl)) λx=>x)).update hln hk _
  subst hw
  go_enter func76,ntmps76
  go_wp2
  go_region_with (go_at_call 131;refine(Jxu (fr:=fr) Jpb hB hc).mono ?_;rintro e w1 ⟨p,rfl,hp,hf,ht⟩;obtain⟨w2,hup,Nr,hg⟩:=Jpe w1 ht p;have g0:=IK w1 ht 0;have g1:=IK w1 ht 1;have g2:=IK w1 ht 2;have g3:=IK w1 ht 3;have g4:=IK w1 ht 4)
  all_goals go_wp2
  all_goals go_end0
  all_goals exact⟨⟨_,rfl⟩,TM.skip Bf (h0.Jck hb hB hp hf ht.bW Nr hg)⟩
end
def Sum(c:J7)(f:JD->Option Bun)(E:List (JD × Bun)):Prop:=∀k,f k=Gh c ((E.filter λe=>decide (e.1=k)).map (·.2))
theorem Sum.nil(c:J7):Sum c (λ_=>none) []:=λ_=>rfl
def Jgq(c:J7)(l:List Bun)(b:Bun):Gh c (l++[b])=om c (Gh c l) b:=by simp[Gh]
def Sum.put{c:J7}{f g:JD->Option Bun}{E:List (JD × Bun)}{k:JD}{B:Bun}(h:Sum c f E)(hg:∀k',g k'=if k'=k then om c (f k) B else f k'):Sum c g (E++[(k,B)]):=by
 intro k';rw[hg,List.filter_append,List.map_append];by_cases e:k'=k
 .subst e;simp[Jgq,h k']
 .have:¬k=k':=λh=>e h.symm;simp[e,this,h k']
def CP(i j:Nat)(ks:List Je):List Je:=(List.range j).filterMap λq=>ks[i+4*q]?
def VQ(i j:Nat)(ks:List Je):CP i (j+1) ks=CP i j ks++(ks[i+4*j]?).toList:=by unfold CP;rw[List.range_succ,List.filterMap_append];cases h:ks[i+4*j]?<;>simp[h]
def J8l{i:Nat}{ks:List Je}:∀{j:Nat},ks.length<=i+4*j->∀n,CP i (j+n) ks=CP i j ks
 |_,_,0=>rfl
 |j,h,n+1=>by rw[show j+(n+1)=(j+n)+1 by omega,VQ,J8l h n,List.getElem?_eq_none (by omega)];simp
def ents(S:List TR)(mk:Nat)(pass:JD->Bool)(l:List Je):List (JD × Bun):=
 l.filterMap λk=>if pass k.1 then(tm S k.1).map λB=>(Jf mk k.1 5,B)else none
def J7j(S:List TR)(mk:Nat)(pass:JD->Bool)(l l':List Je):ents S mk pass (l++l')=ents S mk pass l++ents S mk pass l':=List.filterMap_append
def Jgr{mk:Nat}{k:JD}(h:EM k)(n:Nat):EM (Jf mk k n):=by
 refine⟨(J6a _ _ _).trans h.1,λx hx=>?_⟩;unfold Jf at hx;obtain⟨p,hp,rfl⟩:=AZ.1 hx;split
 .rfl
 .exact h.2 _ (List.mem_zipIdx' hp |>.2▸List.getElem_mem _)
def Jdh:∀{ks:List Je}{p:Nat}{x:Je},ks[p]?=some x->∀t,t<5->(Gw ks)[p*5+t]?=some (JK (x.1.getD t 0))
 |[],p,x,h,_,_=>by simp at h
 |y::ks,0,x,h,t,ht=>by
  simp only[List.getElem?_cons_zero,Cb]at h;subst h;have hl:=y.2.1;rw[Gw,List.flatMap_cons,List.getElem?_append_left (by simp;omega)];simp[C9,show t<y.1.length by omega]
 |y::ks,p+1,x,h,t,ht=>by have hl:=y.2.1;rw[List.getElem?_cons_succ]at h;rw[Gw,List.flatMap_cons,List.getElem?_append_right (by simp;omega)];have:=Jdh h t ht;rw[Gw]at this;rw[FQ,hl,show(p+1)*5+t-5=p*5+t by omega,this]
def KAt(fr:Bool)(w:JE)(ka:JI)(kc:Nat)(ks:List Je):Prop:=
 (ka=none/\ks=[])\/∃g cur,ka=some ⟨g,0,none⟩/\Blk fr w g cur 104/\ks.length<=kc/\cur.size=kc*5/\cur.toList.take (ks.length*5)=Gw ks/\Plain cur
def KAt.cells{fr:Bool}{w:JE}{ka:JI}{kc:Nat}{ks:List Je}(h:KAt fr w ka kc ks){p:Nat}{x:Je}(hp:ks[p]?=some x) :
  ∃g,ka=some ⟨g,0,none⟩/\g<w.heap.size/\p<kc/\∀t,t<5->w.cell? ⟨g,p*5+t,none⟩=some (JK (x.1.getD t 0)):=by
 have Ac:p<ks.length:=(List.getElem?_eq_some_iff.1 hp).1;rcases h with⟨_,rfl⟩|⟨g,cur,h1,h2,h3,h4,h5,_⟩
 .simp at hp
 .refine⟨g,h1,h2.lt,by omega,λt ht=>?_⟩;rw[h2.cell];have:=Jdh hp t ht;rw[<- h5,List.getElem?_take_of_lt (by omega)]at this;simpa using this
def KAt.kept{fr:Bool}{w w':JE}{ka:JI}{kc:Nat}{ks:List Je}(h:KAt fr w ka kc ks)(hh:∀b,b<w.heap.size->w'.heap[b]?=w.heap[b]?):KAt fr w' ka kc ks:=by
 rcases h with h|⟨g,cur,h1,h2,h3⟩
 .exact .inl h
 .exact .inr ⟨g,cur,h1,h2.kept (hh g h2.lt),h3⟩
structure Keeps(w w':JE):Prop where
 size:w.heap.size<=w'.heap.size
 heap:∀b,b<w.heap.size->w'.heap[b]?=w.heap[b]?
def Keeps.refl{w:JE}:Keeps w w:=⟨Ad _,λ_ _=>rfl⟩
def Keeps.trans{w w1 w2:JE}(h:Keeps w w1)(k:Keeps w1 w2):Keeps w w2:=⟨BN h.size k.size,λb hb=>(k.heap b (DX hb h.size)).trans (h.heap b hb)⟩
def Keeps.tch{N:Nat}{M:JB}{w w1 w2:JE}(h:Keeps w w1)(k:Tch N M w1 w2)(hN:w.heap.size<=N)(hM:∀b,b<w.heap.size->¬M b):Keeps w w2:=
 ⟨BN h.size k.size,λb hb=>(k.heap b (by omega) (hM b hb)).trans (h.heap b hb)⟩
def Keeps.cO{w w1 w2:JE}(h:Keeps w w1)(k:Tch w1.heap.size M0 w1 w2):Keeps w w2:=h.tch k h.size λ_ _ h=>h
def cell_lt{w:JE}{a:Addr}{v:JJ}(h:w.cell? a=some v):a.block<w.heap.size:=by
 unfold World.cell? at h;split at h
 .rename_i e;exact Jj e
 .cases h
def Keeps.cell{w w1:JE}(h:Keeps w w1){a:Addr}{v:JJ}(hc:w.cell? a=some v):w1.cell? a=some v:=(Du (h.heap _ (cell_lt hc))).trans hc
inductive PV where
 |cells(fb:Nat)
 |all
def PV.fn:PV->JG
 |.cells _=>69
 |.all=>35
def PV.cap:PV->JC
 |.cells b=>#[.pointer (some ⟨b,0,none⟩)]
 |.all=>#[]
def PV.val(p:PV):JJ:=.func (.func p.fn) #[] p.cap
structure WF(w:JE)(c:J7)(s k p m cb:Nat)(i:Nat)(ka:JI)(kc:Nat)(ks:List Je)(fb:PV)(mk src:Nat)(S:List TR)(pass:JD->Bool):Prop where
 ck:w.cell? ⟨k,0,none⟩=some (.slice ka ks.length kc)
 cp:w.cell? ⟨p,0,none⟩=some fb.val
 cm:w.cell? ⟨m,0,none⟩=some (JK mk)
 cc:w.cell? ⟨cb,0,none⟩=some (.map (some src))
 cs:w.cell? ⟨s,0,none⟩=some (JK i)
 keys:KAt true w ka kc ks
 tab:TabAt true w c src S
 pass:∀x,EM x->∀w',Keeps w w'->Calls prog fb.fn (#[.agg (ai .i64 x)]++fb.cap) w' λe w2=>e=.returned (.bool (pass x))/\Tch w'.heap.size M0 w' w2
section
variable{w w':JE}{c:J7}{s k p m cb i:Nat}{ka:JI}{kc:Nat}{ks:List Je}{fb:PV}{mk src:Nat}{S:List TR}{pass:JD->Bool}
def WF.keeps(h:WF w c s k p m cb i ka kc ks fb mk src S pass)(q:Keeps w w'):WF w' c s k p m cb i ka kc ks fb mk src S pass:=
 ⟨q.cell h.ck,q.cell h.cp,q.cell h.cm,q.cell h.cc,q.cell h.cs,h.keys.kept q.heap,h.tab.kept λx hx=>q.heap x (h.tab.lt x hx),λx hx w2 q2=>h.pass x hx w2 (q.trans q2)⟩
def WL(w0:JE)(c:J7)(r0 i:Nat)(ks:List Je)(mk:Nat)(S:List TR)(pass:JD->Bool)(j:Nat)(wr:JE):Prop:=
 ∃T,TabAt false wr c r0 T/\Sum c (tm T) (ents S mk pass (CP i j ks))/\T.length<=j/\(∀x,x=r0\/x∈tpl T->w0.heap.size<=x)/\Keeps w0 wr
def WL.skip{w0 wr w1:JE}{r0 j:Nat}(h:WL w0 c r0 i ks mk S pass j wr)(ht:Tch wr.heap.size M0 wr w1):WL w0 c r0 i ks mk S pass j w1:=by obtain⟨T,h1,h2,h3,h4,h5⟩:=h;exact⟨T,h1.kept λx hx=>ht.heap x (h1.lt x hx) λh=>h,h2,h3,h4,h5.cO ht⟩
end
def Jt7(R:JC->JE->Prop):Exit->Act->JE->Prop
 |.normal,a,w=>R a.tmps w
 |_,_,_=>False
def Jwm:Code->Code | .seq a _=>a|c=>c
def Jmq:Code->Code | .seq _ b=>b|c=>c
section
variable{w w':JE}{c:J7}{s k p m cb i:Nat}{ka:JI}{kc:Nat}{ks:List Je}{fb:PV}{mk src:Nat}{S:List TR}{pass:JD->Bool}
def WL.keeps{wr:JE}{r0 j:Nat}(h:WL w c r0 i ks mk S pass j wr):Keeps w wr:=by obtain⟨_,_,_,_,_,h⟩:=h;exact h
def WL.miss{wr:JE}{r0 j P:Nat}{x:Je}(h:WL w c r0 i ks mk S pass j wr)(hP:P=i+4*j)(hx:ks[P]?=some x)(hp:pass x.1=false):WL w c r0 i ks mk S pass (j+1) wr:=by obtain⟨T,h1,h2,h3,h4,h5⟩:=h;refine⟨T,h1,?_,by omega,h4,h5⟩;rw[VQ,<- hP,hx,Option.toList_some,J7j,show ents S mk pass [x]=[] by simp[ents,hp],List.append_nil];exact h2
def WL.take{wr:JE}{r0 j P:Nat}{x:Je}{t:TR}(hW:WF w c s k p m cb i ka kc ks fb mk src S pass)(h:WL w c r0 i ks mk S pass j wr)(hc:CZ c)(hP:P=i+4*j)(hx:ks[P]?=some x)(hp:pass x.1=true)(ht:t∈S)(hB:tm S x.1=some t.B)(hn:j<=100000) :
  Calls prog 76 #[.map (some r0),.agg (ai .i64 (Jf mk x.1 5)),JL t.p.b] wr λe w'=>(∃v,e=.returned v)/\WL w c r0 i ks mk S pass (j+1) w':=by
 obtain⟨T,h1,h2,h3,h4,h5⟩:=h;have Xn:=hW.keeps h5;refine(Jln h1 (Jgr x.2 5) (Xn.tab.bun t ht) (Xn.tab.ok t ht) hc (λy hy=>?_) (by omega)).mono ?_
 .have Ac:=(hW.tab.bun t ht).lt y hy
  grind
 .rintro e w' ⟨hv,T',k1,k2,k3,k4,k5⟩;refine⟨hv,T',k1,?_,by omega,λy hy=>?_,h5.tch k5 h5.size λb hb hm=>?_⟩
  .rw[VQ,<- hP,hx,Option.toList_some,J7j,show ents S mk pass [x]=[(Jf mk x.1 5,t.B)] by simp[ents,hp,hB]];exact h2.put k2
  .rcases hy with hy|hy
   .simp_all
   .rcases k4 y hy with h|h
    .grind
    .exact BN h5.size h
  grind
def Jpz(hW:WF w c s k p m cb i ka kc ks fb mk src S pass)(OO:∀x∈ks,∃B,tm S x.1=some B)(hn:ks.length<=1000)(hi:i<4)(hc:CZ c){r0:Nat}{ws:JE}(hL:WL w c r0 i ks mk S pass 0 ws)(wg C:Nat)(d:Deferred) :
  (Jwm (Jmq (Jmq (f74.body.getD .skip)))).wp prog (Jt7 λt w2=>t.size=40/\t[1]?=some (JL s)/\w2.cell? ⟨s,0,none⟩=some (JK i)/\∃r,t[7]?=some (.map r)/\∃j,ks.length<=i+4*j/\j<=ks.length+4/\∃r0,r=some r0/\WL w c r0 i ks mk S pass j w2)
   ⟨#[(JL wg),(JL s),(JL k),(JL p),(JL m),(JL cb),(JL C),.map (some r0),JA,.map (some r0),JA,JA,JA,JA,JA,JA,JA,JA,JA,JA,JA,JA,JA,JA,JA,JA,JA,JA,JA,JA,JA,JA,JA,JA,JA,JA,JA,JA,JA,JA],[d]⟩ ws:=by
 have ck:=(hW.keeps hL.keeps).ck;have cs:=(hW.keeps hL.keeps).cs;simp only[f74,A8,Jmq,Jwm];go_wp2
 go_loopw [8] (λx wr=>∃j P:Nat,x=JK (P:Int)/\P=i+4*j/\P<=ks.length+4/\WL w c r0 i ks mk S pass j wr) (λx _=>ks.length+4-(RowKit.intOf x).toNat)
 case atStart=>grind
 case round=>
  obtain⟨j,P,rfl,hP,hj,gB⟩:=hrel;have Xh:Hid (P=i+4*j):=hP;clear hP;have Us:Keeps w wr:=by obtain⟨_,_,_,_,_,h⟩:=gB;exact h
  have Xn:=hW.keeps Us;clear ck cs;have ck:=Xn.ck;rcases BF P ks.length with Ac|Et
  .have CS:(P:Int)<ks.length:=by omega
   obtain⟨V,hV⟩:∃V,V=fb.val:=⟨_,rfl⟩;cases fb
   all_goals
    simp only[PV.val,PV.fn,PV.cap]at hV;have hx:ks[P]?=some ks[P]:=DL Ac;obtain⟨B,hB⟩:=OO _ (List.getElem_mem Ac);generalize ks[P]=x at *;obtain⟨g,PZ,hg,hpk,BA⟩:=Xn.keys.cells hx;subst PZ;obtain⟨x,LU⟩:=x;obtain⟨a0,a1,a2,a3,a4,rfl⟩:∃a0 a1 a2 a3 a4,x=[a0,a1,a2,a3,a4]:=by
     have:=LU.1
     match x,this with
     |[a0,a1,a2,a3,a4],_=>grind
    clear BA hpk hg;have bD:Hid (∀w1,Keeps w w1->w1.cell? ⟨k,0,none⟩=some (JM g ks.length kc)/\w1.cell? ⟨p,0,none⟩=some V/\w1.cell? ⟨g,P*5,none⟩=some (JK a0)/\w1.cell? ⟨g,P*5+1,none⟩=some (JK a1)/\w1.cell? ⟨g,P*5+2,none⟩=some (JK a2)/\w1.cell? ⟨g,P*5+3,none⟩=some (JK a3)/\w1.cell? ⟨g,P*5+4,none⟩=some (JK a4)):=λw1 h=>by have AP:=hW.keeps h;obtain⟨g',e,_,_,BA⟩:=AP.keys.cells hx;cases e;have q0:=BA 0 (by omega);have q1:=BA 1 (by omega);have q2:=BA 2 (by omega);have q3:=BA 3 (by omega);have q4:=BA 4 (by omega);simp only[List.getD_cons_zero,List.getD_cons_succ,Nat.add_zero]at q0 q1 q2 q3 q4;exact⟨AP.ck,by rw[hV];exact AP.cp,q0,q1,q2,q3,q4⟩
    have Jmr:=Xn.pass _ LU;rw[show ai .i64 [a0,a1,a2,a3,a4]=#[JK a0,JK a1,JK a2,JK a3,JK a4]from rfl]at Jmr;simp only[PV.fn,PV.cap,Array.append_empty,List.append_toArray,G9,Gm]at Jmr;have xR:Hid ([a0,a1,a2,a3,a4].length=5):=rfl;generalize Jse:[a0,a1,a2,a3,a4]=kk at *;have Zd:Hid ([a0,a1,a2,a3,a4]=kk):=Jse;clear Jse;have XG:=Jmr wr.drew ⟨Ad _,λ_ _=>rfl⟩;clear Jmr;have qA:Keeps w wr.drew:=⟨Us.size,Us.heap⟩;have Gq:Hid (tm S kk=some B):=hB;have Af:Hid (ks[P]?=some ⟨kk,LU⟩):=hx;clear hB hx;have hP0:(0:Int)<=(P:Int):=Int.natCast_nonneg _;cases V4:pass kk with
    |false=>
     rw[V4]at XG;have hnx:Hid (∀w1,Tch wr.drew.heap.size M0 wr.drew w1->WL w c r0 i ks mk S pass (j+1) w1):=λw1 ht=>WL.miss (x:=⟨kk,LU⟩) (gB.skip ht.bW) Xh Af V4;have Jpv:Hid (pass kk=false):=V4;clear V4
     go_wp2_with fail
     go_region_held3 (λw1=>w1.cell? ⟨k,0,none⟩=some (JM g ks.length kc)/\w1.cell? ⟨p,0,none⟩=some V/\w1.cell? ⟨g,P*5,none⟩=some (JK a0)/\w1.cell? ⟨g,P*5+1,none⟩=some (JK a1)/\w1.cell? ⟨g,P*5+2,none⟩=some (JK a2)/\w1.cell? ⟨g,P*5+3,none⟩=some (JK a3)/\w1.cell? ⟨g,P*5+4,none⟩=some (JK a4))
      (first|exact bD _ qA|exact bD _ DI)
      (((first|go_at_call 69|go_at_call 35);refine XG.mono ?_;rintro e w1 ⟨rfl,ht⟩;have DI:Keeps w w1:=qA.cO ht))
     all_goals go_wp2
     all_goals exact⟨⟨j+1,P+4,by go_num,by have:P=i+4*j:=Xh;omega,by omega,hnx _ ht⟩,by simp[RowKit.intOf];omega⟩
    |true=>
     rw[V4]at XG;obtain⟨t,S1,S2,rfl,DI,rfl,_,hl⟩:=Qk Gq;have GL:Hid (∀w1,Keeps w w1->w1.cell? ⟨k,0,none⟩=some (JM g ks.length kc)/\w1.cell? ⟨m,0,none⟩=some (JK mk)/\w1.cell? ⟨cb,0,none⟩=some (.map (some src))/\(Instr.lookup 95 (.map (some src)) (.agg #[JK a0,JK a1,JK a2,JK a3,JK a4]) false).run prog w1=.ok (JL t.p.b) w1/\w1.cell? ⟨g,P*5,none⟩=some (JK a0)/\w1.cell? ⟨g,P*5+1,none⟩=some (JK a1)/\w1.cell? ⟨g,P*5+2,none⟩=some (JK a2)/\w1.cell? ⟨g,P*5+3,none⟩=some (JK a3)/\w1.cell? ⟨g,P*5+4,none⟩=some (JK a4)):=λw1 h=>by
      obtain⟨q0,_,q2⟩:=bD w1 h;have AP:=hW.keeps h;have:=AP.tab.map.lookup LU;rw[hl]at this;rw[<- (show[a0,a1,a2,a3,a4]=kk from Zd)]at this;exact⟨q0,AP.cm,AP.cc,this,q2⟩
     have Bj:Hid (∀w1,WL w c r0 i ks mk (S1++t::S2) pass j w1->Calls prog 76 #[.map (some r0),.agg (ai .i64 (Jf mk kk 5)),JL t.p.b] w1 λe w'=>(∃v,e=.returned v)/\WL w c r0 i ks mk (S1++t::S2) pass (j+1) w'):=
      λw1 h=>WL.take (x:=⟨kk,LU⟩) (t:=t) hW h hc Xh Af V4 (by simp) Gq (by have:P=i+4*j:=Xh;omega)
     have YG:Hid (∀w1,Calls prog 41 #[.agg #[JK a0,JK a1,JK a2,JK a3,JK a4],JK mk] w1 λe w'=>e=.returned (.agg (ai .i64 (Jf mk kk 5)))/\Tch w1.heap.size M0 w1 w'):=λw1=>by
      have:=Jbv kk LU.1 mk w1;rw[<- (show[a0,a1,a2,a3,a4]=kk from Zd)]at this ⊢;exact this
     have Jpv:Hid (pass kk=true):=V4;clear hl DI V4
     go_wp2_with fail
     go_region_held3 (λw1=>w1.cell? ⟨k,0,none⟩=some (JM g ks.length kc)/\w1.cell? ⟨p,0,none⟩=some V/\w1.cell? ⟨g,P*5,none⟩=some (JK a0)/\w1.cell? ⟨g,P*5+1,none⟩=some (JK a1)/\w1.cell? ⟨g,P*5+2,none⟩=some (JK a2)/\w1.cell? ⟨g,P*5+3,none⟩=some (JK a3)/\w1.cell? ⟨g,P*5+4,none⟩=some (JK a4))
      (first|exact bD _ qA|exact bD _ DI)
      (((first|go_at_call 69|go_at_call 35);refine XG.mono ?_;rintro e w1 ⟨rfl,ht⟩;have DI:Keeps w w1:=qA.cO ht))
     have Ig:=gB.skip ht.bW;have BX:Keeps w w1.drew:=⟨DI.size,DI.heap⟩;clear ht qA
     go_wp2_with fail
     go_region_held3 (λw1=>w1.cell? ⟨k,0,none⟩=some (JM g ks.length kc)/\w1.cell? ⟨m,0,none⟩=some (JK mk)/\w1.cell? ⟨cb,0,none⟩=some (.map (some src))/\(Instr.lookup 95 (.map (some src)) (.agg #[JK a0,JK a1,JK a2,JK a3,JK a4]) false).run prog w1=.ok (JL t.p.b) w1/\w1.cell? ⟨g,P*5,none⟩=some (JK a0)/\w1.cell? ⟨g,P*5+1,none⟩=some (JK a1)/\w1.cell? ⟨g,P*5+2,none⟩=some (JK a2)/\w1.cell? ⟨g,P*5+3,none⟩=some (JK a3)/\w1.cell? ⟨g,P*5+4,none⟩=some (JK a4))
      (first|exact GL _ BX|exact GL _ OM|exact GL _ PY)
      (first
      |(go_at_call 41;refine(YG w1.drew).mono ?_;rintro e w2 ⟨rfl,Bc⟩;have OM:Keeps w w2:=BX.cO Bc)
      |(go_at_call 76;refine(Bj _ (Ig.skip Bc.bW)).mono ?_;rintro e w3 ⟨⟨v,rfl⟩,Lp⟩;have PY:Keeps w w3:=Lp.keeps))
     all_goals go_wp2
     all_goals exact⟨⟨j+1,P+4,by go_num,by have:P=i+4*j:=Xh;omega,by omega,Lp⟩,by simp[RowKit.intOf];omega⟩
  .have EC:¬((P:Int)<ks.length):=by omega
   have cs:=Xn.cs;go_wp2;exact⟨rfl,rfl,cs,some r0,rfl,j,by have:P=i+4*j:=Xh;omega,by have:P=i+4*j:=Xh;omega,r0,rfl,gB⟩
end
open Classical
def mv(E:J5)(x:Nat):Nat:=if h:∃y,E x y then Classical.choose h else 0
def UL{E:J5}(Oc:∀b c c',E b c->E b c'->c=c'){x y:Nat}(h:E x y):mv E x=y:=by
 have hx:∃y,E x y:=⟨y,h⟩;unfold mv
 grind
def WA(C:Cx)(fr:Bool):Prop:=C.st=true\/fr=false
section
variable{C:Cx}{ok:JG->Code->Prop}{E:J5}{w w':JE}{fr:Bool}{x y:Nat}{arr:JC}{t:JH}{k:IntKind}{xs:JD}{cap:Nat}
def _root_.Go.Sim.AR.two{a b:JJ}{arr:JC}(h:AR C E #[a,b] arr):∃a' b',arr=#[a',b']/\VR C E a a'/\VR C E b b':=by
 have hs:arr.size=2:=h.size.symm;obtain⟨a',h1,r1⟩:=h.Ec (i:=0) rfl;obtain⟨b',h2,r2⟩:=h.Ec (i:=1) rfl
 grind
def _root_.Go.Sim.AR.four{a b c d:JJ}{arr:JC}(h:AR C E #[a,b,c,d] arr):∃a' b' c' d',arr=#[a',b',c',d']/\VR C E a a'/\VR C E b b'/\VR C E c c'/\VR C E d d':=by
 have hs:arr.size=4:=h.size.symm;obtain⟨a',h1,r1⟩:=h.Ec (i:=0) rfl;obtain⟨b',h2,r2⟩:=h.Ec (i:=1) rfl;obtain⟨c',h3,r3⟩:=h.Ec (i:=2) rfl;obtain⟨d',h4,r4⟩:=h.Ec (i:=3) rfl;refine⟨a',b',c',d',?_,r1,r2,r3,r4⟩
 grind
def _root_.Go.Sim.AR.plain{arr Dj:JC}(h:AR C E arr Dj)(hp:Plain arr):Dj=arr:=by
 apply Ll;intro i;cases hx:arr[i]? with
 |none=>exact h.VY hx
 |some v=>
  obtain⟨v',h1,r⟩:=h.Ec hx;obtain⟨k,n,rfl⟩:=hp.at hx;cases r;exact h1
def Blk.ren(hW:WR C ok E w w')(hf:WA C fr)(h:Blk fr w x arr t)(he:E x y):∃Dj,AR C E arr Dj/\Blk false w' y Dj t:=by
 obtain⟨z,h1,h2⟩:=h;have hy:=(hW.dom x y he).2;obtain⟨c',FU,e,ha,hs,hn⟩:=hW.obj x y _ _ he h1 (Bz hy);refine⟨c',ha,FU,by grind,λ_=>?_⟩;by_cases hx:C.Sh x
 .grind
 .obtain⟨h3,h4⟩:=hn hx;rcases hf with hf|hf
  all_goals grind
def Row.ren(hW:WR C ok E w w')(hf:WA C fr)(h:Row fr w x t k xs cap)(he:E x y):Row false w' y t k xs cap:=by obtain⟨cur,h1,h2,h3,h4,h5⟩:=h;obtain⟨Q9,ha,hb⟩:=h1.ren hW hf he;obtain rfl:=ha.plain h5;exact⟨_,hb,h2,h3,h4,h5⟩
def DV.ren{r c:Nat}{bits:Int}{rs:JD}(hW:WR C ok E w w')(hf:WA C fr)(h:DV fr w x r c bits rs)(he:E x y):E r (mv E r)/\DV false w' y (mv E r) c bits rs:=by
 obtain⟨arr,ha,hb⟩:=h.hd.ren hW hf he;obtain⟨a,b,rfl,r1,r2⟩:=ha.two;cases r1;cases r2 with
 |slice o s l c hr=>
  have e:=UL hW.fn hr;rw[e];exact⟨hr,hb,h.row.ren hW hf hr⟩
def Jts(E:J5)(ba:JI):Prop:=∀a,ba=some a->E a.block a.block
def EZ.ren{r c nb cb:Nat}{ba:JI}{rs:JD}(hW:WR C ok E w w')(hf:WA C fr)(Dh:Jts E ba)(h:EZ fr w x r c ba nb cb rs)(he:E x y):E r (mv E r)/\EZ false w' y (mv E r) c ba nb cb rs:=by
 obtain⟨arr,ha,hb⟩:=h.hd.ren hW hf he;obtain⟨a,b,rfl,r1,r2⟩:=ha.two;have e1:a=.slice ba nb cb:=by
  cases r1 with
  |Jk=>rfl
  |slice o s l c hr=>rw[hW.fn _ _ _ hr (Dh _ rfl)]
 subst e1;cases r2 with
 |slice o s l c hr=>
  have e:=UL hW.fn hr;rw[e];exact⟨hr,hb,h.row.ren hW hf hr⟩
def mvL(E:J5):Option (Nat × Nat)->Option (Nat × Nat):=Option.map λp=>(mv E p.1,p.2)
def Gf.ren{pr:Option (Nat × Nat)}{K:Int}{ls:JD}(hW:WR C ok E w w')(hf:WA C fr)(h:Gf fr w x pr K ls)(he:E x y):(∀r,lpl pr r->E r (mv E r))/\Gf false w' y (mvL E pr) K ls:=by
 obtain⟨arr,ha,hb⟩:=h.hd.ren hW hf he;obtain⟨a,b,rfl,r1,r2⟩:=ha.two;cases r1;cases pr with
 |none=>
  cases r2;exact⟨λr ⟨c,hr⟩=>(by cases hr),hb,h.row⟩
 |some p=>
  obtain⟨r,c⟩:=p;cases r2 with
  |slice o s l c hr=>
   have e:=UL hW.fn hr;refine⟨λr' ⟨c',ET⟩=>?_,?_,?_⟩
   .cases ET;rw[e];exact hr
   .show Blk false w' y #[_,.slice (some ⟨mv E r,0,none⟩) _ _] 194;rw[e];exact hb
   .show Row false w' (mv E r) 110 .u64 ls c/\c<=maxLen;rw[e];exact⟨h.row.1.ren hW hf hr,h.row.2⟩
def BP.mv(E:J5)(p:BP):BP:=⟨Z.mv E p.b,Z.mv E p.rb,Z.mv E p.rr,p.rc,Z.mv E p.hb,Z.mv E p.hr,p.hc,Z.mv E p.lb,mvL E p.lr⟩
theorem Jg5{pr:Option (Nat × Nat)}{z:Nat}:lpl (mvL E pr) z↔∃r,lpl pr r/\z=mv E r:=by
 cases pr with
 |none=>simp[lpl,mvL]
 |some p=>obtain⟨r,c⟩:=p;simp[lpl,mvL,eq_comm]
def BP.bH{p:BP}{z:Nat}:z∈(p.mv E).pl↔∃x∈p.pl,z=Z.mv E x:=by
 rw[BP.mem];constructor
 .rintro(h|h|h|h|h|h|h)
  .exact⟨_,BP.mem.2 (.inl rfl),h⟩
  .exact⟨_,BP.mem.2 (.inr (.inl rfl)),h⟩
  .exact⟨_,BP.mem.2 (.inr (.inr (.inl rfl))),h⟩
  .exact⟨_,BP.mem.2 (.inr (.inr (.inr (.inl rfl)))),h⟩
  .exact⟨_,BP.mem.2 (.inr (.inr (.inr (.inr (.inl rfl))))),h⟩
  .exact⟨_,BP.mem.2 (.inr (.inr (.inr (.inr (.inr (.inl rfl)))))),h⟩
  .obtain⟨r,h1,h2⟩:=Jg5.1 h
   grind[BP.mem]
 .rintro⟨x,hx,rfl⟩;rcases BP.mem.1 hx with rfl|rfl|rfl|rfl|rfl|rfl|h
  .exact .inl rfl
  .exact .inr (.inl rfl)
  .exact .inr (.inr (.inl rfl))
  .exact .inr (.inr (.inr (.inl rfl)))
  .exact .inr (.inr (.inr (.inr (.inl rfl))))
  .exact .inr (.inr (.inr (.inr (.inr (.inl rfl)))))
  .exact .inr (.inr (.inr (.inr (.inr (.inr (Jg5.2 ⟨x,h,rfl⟩))))))
def Jw.ren{c:J7}{p:BP}{B:Bun}(hW:WR C ok E w w')(hf:WA C fr)(Dh:Jts E c.ba)(h:Jw fr w c p B)(he:E p.b y):(∀x∈p.pl,E x (mv E x))/\Jw false w' c (p.mv E) B:=by
 obtain⟨arr,ha,hb⟩:=h.hd.ren hW hf he;obtain⟨a1,a2,a3,a4,rfl,r1,r2,r3,r4⟩:=ha.four;cases r1;cases r2 with|iface _ _ r2=>
 cases r3 with|iface _ _ r3=>
 cases r4 with|iface _ _ r4=>
 cases r2 with|ptr _ _ r2=>
 cases r3 with|ptr _ _ r3=>
 cases r4 with|ptr _ _ r4=>
 obtain⟨e2,k2⟩:=h.reg.ren hW hf r2;obtain⟨e3,k3⟩:=h.hist.ren hW hf Dh r3;obtain⟨e4,k4⟩:=h.least.ren hW hf r4;have m0:=UL hW.fn he;have m2:=UL hW.fn r2;have m3:=UL hW.fn r3;have m4:=UL hW.fn r4;rw[<- m2]at k2 hb;rw[<- m3]at k3 hb;rw[<- m4]at k4 hb;rw[<- m0]at hb;have Au:∀x∈p.pl,E x (mv E x):=λx hx=>by
  rcases BP.mem.1 hx with rfl|rfl|rfl|rfl|rfl|rfl|h
  all_goals grind
 have inj:∀{x z:Nat},x∈p.pl->z∈p.pl->mv E x=mv E z->x=z:=λhx hz e=>hW.inj _ _ _ (Au _ hx) (e▸Au _ hz);have q1:p.b∈p.pl:=BP.mem.2 (.inl rfl);have q2:p.rb∈p.pl:=BP.mem.2 (.inr (.inl rfl));have q3:p.rr∈p.pl:=BP.mem.2 (.inr (.inr (.inl rfl)));have q4:p.hb∈p.pl:=BP.mem.2 (.inr (.inr (.inr (.inl rfl))));have q5:p.hr∈p.pl:=BP.mem.2 (.inr (.inr (.inr (.inr (.inl rfl)))));have q6:p.lb∈p.pl:=BP.mem.2 (.inr (.inr (.inr (.inr (.inr (.inl rfl))))));have nl:∀{x:Nat},x∈p.pl->¬lpl p.lr x->¬lpl (mvL E p.lr) (mv E x):=λhx hn hl=>by
  grind[Jg5,BP.mem]
 obtain⟨n1,n2,n3,n4,n5,n6⟩:=h.nd;exact⟨Au,hb,k2,k3,k4,
  ⟨λe=>n1.1 (inj q1 q2 e),λe=>n1.2.1 (inj q1 q3 e),λe=>n1.2.2.1 (inj q1 q4 e),λe=>n1.2.2.2.1 (inj q1 q5 e),λe=>n1.2.2.2.2.1 (inj q1 q6 e),nl q1 n1.2.2.2.2.2⟩,
  ⟨λe=>n2.1 (inj q2 q3 e),λe=>n2.2.1 (inj q2 q4 e),λe=>n2.2.2.1 (inj q2 q5 e),λe=>n2.2.2.2.1 (inj q2 q6 e),nl q2 n2.2.2.2.2⟩,
  ⟨λe=>n3.1 (inj q3 q4 e),λe=>n3.2.1 (inj q3 q5 e),λe=>n3.2.2.1 (inj q3 q6 e),nl q3 n3.2.2.2⟩,
  ⟨λe=>n4.1 (inj q4 q5 e),λe=>n4.2.1 (inj q4 q6 e),nl q4 n4.2.2⟩,
  ⟨λe=>n5.1 (inj q5 q6 e),nl q5 n5.2⟩,
  nl q6 n6⟩
end
end Go.Sim.Z
end
