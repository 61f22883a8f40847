/- Proved here: laws for the claim. No conditions. -/
import Derived.Test.YtlcbehhbfglgaaaGreatChecked
import Derived.KernelRfl
import Derived.Test.YtlcbehhbfglgaaaGreatK08
set_option linter.all false
open Go.Proofs.Tryz
namespace Go.Sim
open Go.Conc
section
variable{C:Cx}{S:Kn}{cs:Bot}
def Jx2(C:Cx)(S:Kn)(cs:Bot)(Post:JF->JE->Prop)(E0:J5)(y:Sit):Prop:=
 ∃E g w,Sub E0 E/\Link C S E y.own y.X w y.w/\(GR C S E cs g y.g\/rP C S E cs g y.g)/\Post g w
theorem Jl6(A:Il C S){main:Bool}{E0:J5}{Post:JF->JE->Prop}(hP:∀g w,Post g w->g.frame.todo≠[Jt])(hB:∀g w,Post g w->¬Xj g){g0:JF}{w0:JE}{y0:Sit}
  (hl:Link C S E0 y0.own y0.X w0 y0.w) (hg:GR C S E0 cs g0 y0.g)
  (K:∀τ,∃n g1 w1,runN C.P n (solo g0 (w0.tp τ 0))=.next (solo g1 w1)/\Post g1 w1) :
  Runs C.st C.P main (Jx2 C S cs Post E0) y0:=by
 refine Classical.byContradiction λhn=>?_
 let yb:Le C.st C.P main (Jx2 C S cs Post E0):=⟨y0,hn⟩
 obtain⟨n,g1,w1,AB,Bz⟩:=K (pieces yb);have inv:∀i,i<=n->∃E g w,runN C.P i (solo g0 (w0.tp (pieces yb) 0))=.next (solo g w)/\w.tape=pieces yb/\w.drawn=drew yb i/\Sub E0 E /\
   Link C S E (path yb i).1.own (path yb i).1.X w (path yb i).1.w/\(GR C S E cs g (path yb i).1.g\/rP C S E cs g (path yb i).1.g):=by
  intro i
  induction i with
  |zero=>exactλ_=>⟨E0,g0,_,rfl,rfl,rfl,.refl _,⟨hl.wr.tp _ _,hl.hnd,hl.gl,hl.rng⟩,.inl hg⟩
  |succ i ih=>
   intro hi;obtain⟨E,g,w,h1,h2,h3,h4,h5,h6⟩:=ih (by omega);have more:∀_:Nat,runN C.P n (solo g0 (w0.tp (pieces yb) 0))=runN C.P (n-i) (solo g w):=λ_=>by
    have:=runN_add C.P i (n-i) (solo g0 (w0.tp (pieces yb) 0));rw[show i+(n-i)=n from by omega,h1]at this;exact this
   have YV:∀o w2,step C.P (solo g w)≠.ended o w2:=by intro o w2 he;have:=more 0;rw[AB,show n-i=(n-i-1)+1 by omega]at this;simp only[runN,he]at this;cases this
   have after:∀g2 w2,step C.P (solo g w)=.next (solo g2 w2)->runN C.P (i+1) (solo g0 (w0.tp (pieces yb) 0))=.next (solo g2 w2)/\runN C.P (n-(i+1)) (solo g2 w2)=.next (solo g1 w1):=by
    intro g2 w2 he;have e1:runN C.P (i+1) (solo g0 (w0.tp (pieces yb) 0))=.next (solo g2 w2):=by rw[runN_add,h1];simp only[runN,he]
    refine⟨e1,?_⟩;have:=runN_add C.P (i+1) (n-(i+1)) (solo g0 (w0.tp (pieces yb) 0));rw[show i+1+(n-(i+1))=n by omega,e1,AB]at this;exact this.symm
   rcases h6 with h6|h6
   ·by_cases hd:Jh2 g
    ·
     exfalso;obtain⟨d1,d2,d3⟩:=hd;have RU:g.frame.todo=[Jt]->False:=by
      intro e;have:stepG C.P true g w=.ended (.unsupported (Unsupported.elab "") (g.frame.pos C.P)) w:=by have:=sS (P:=C.P) (main:=true) (fr:=g.frame) (callers:=g.callers) (dying:=none) (w:=w) (y:= "") (k:=[]) e;unfold stepG;simp only[h6.dying,d2];exact this
      exact YV _ _ (U4 h6.run this)
     rcases d3 with d3|⟨ops,d3⟩
     ·exact RU d3
     ·have Af:stepG C.P true g w=.go { frame:={ g.frame with todo:=[Jt] },callers:=g.callers,status:=.running,dying:=none } w:=by have:=J2v (P:=C.P) (main:=true) (fr:=g.frame) (callers:=g.callers) (dying:=none) (w:=w) (ops:=ops) (k:=[Jt]) d3;unfold stepG;simp only[h6.dying,d2];rw[this];unfold toG;rw[d2]
      obtain⟨a1,a2⟩:=after _ _ (step_solo_go h6.run Af);cases hm:n-(i+1)with
      |zero=>
       rw[hm]at a2;simp only[runN,Stepped.next.injEq]at a2;have RJ:({ frame:={ g.frame with todo:=[Jt] },callers:=g.callers,status:=.running,dying:=none }:JF)=g1/\w=w1:=by simp only[solo,Machine.mk.injEq]at a2;exact⟨by simpa using a2.2.1,a2.1⟩
       obtain⟨rfl,rfl⟩:=RJ;exact hP _ _ Bz rfl
      |succ m=>
       rw[hm]at a2;have he:stepG C.P true { frame:={ g.frame with todo:=[Jt] },callers:=g.callers,status:=.running,dying:=none } w=.ended (.unsupported (Unsupported.elab "") (Frame.pos C.P { g.frame with todo:=[Jt] })) w:=by
        have:=sS (P:=C.P) (main:=true) (fr:={ g.frame with todo:=[Jt] }) (callers:=g.callers) (dying:=none) (w:=w) (y:= "") (k:=[]) rfl;unfold stepG;simp only[d2];exact this
       simp only[runN,U4 rfl he]at a2;cases a2
    ·have hrel:=h5.rely (Jcz (path yb i));have hw:WT C (okP C S) E (eP yb i) w (EZ (path yb i)):=⟨hrel.wr,λk hk q=>by rw[h2,h3];exact Jg8 yb i k hk q⟩;rcases Jiq A hrel.hnd hrel.gl hw h6 hd main with⟨lim,hL,ho⟩|⟨o,w2,es,he⟩|⟨g2,w2,es,he,BU,NC,hx⟩
     ·exfalso;unfold eP at hL;split at hL
      ·rename_i ha;obtain⟨es,Af,_⟩:=(fH ha).step;have:=ho _ _ _ Af (fH ha).dying;cases hL;exact Nat.lt_irrefl _ this
      ·cases hL
     ·exact absurd (U4 h6.run he) (YV _ _)
     ·obtain⟨a1,a2⟩:=after _ _ (step_solo_go h6.run he);rcases hx with hb|⟨E1,OA,BD,AZ,k1,k2,k3,k4,k5⟩
      ·exfalso;cases hm:n-(i+1)with
       |zero=>
        rw[hm]at a2;simp only[runN,Stepped.next.injEq]at a2;have RJ:g2=g1/\w2=w1:=by simp only[solo,Machine.mk.injEq]at a2;exact⟨by simpa using a2.2.1,a2.1⟩
        obtain⟨rfl,rfl⟩:=RJ;exact hB _ _ Bz hb
       |succ m=>
        rw[hm]at a2;obtain⟨o,w3,es3,he3⟩:=hb.ends (P:=C.P) (w:=w2);simp only[runN,U4 BU he3]at a2;cases a2
      ·obtain⟨l1,l2⟩:=hrel.step k2.toWR k3 k5;have hk:OA.status=.running/\OA.dying=none/\OA.offers=none:=by
        rcases k4 with k4|k4
        ·exact⟨k4.run',k4.dying',k4.offers⟩
        ·exact⟨k4.run',k4.dying',k4.offers⟩
       have GV:QK C.P main (path yb i).1 (EZ (path yb i)) ⟨grown (path yb i).1.own (EZ (path yb i)) BD,grown (path yb i).1.X (EZ (path yb i)) BD,OA,BD⟩:=
        ⟨⟨AZ,k1,l2⟩,hk.1,hk.2.1,hk.2.2,rfl,rfl⟩
       have ha:alive (path yb i):=⟨_,GV⟩;have Ir:=fH ha;obtain⟨es2,Kz,_⟩:=Ir.step;rw[k1]at Kz;have e1:(path yb (i+1)).1.g=OA/\(path yb (i+1)).1.w=BD:=by show(Pj (path yb i)).1.g=OA/\(Pj (path yb i)).1.w=BD;simp only[GStep.go.injEq]at Kz;exact⟨Kz.1.symm,Kz.2.1.symm⟩
       have e2:(path yb (i+1)).1.own=grown (path yb i).1.own (EZ (path yb i)) BD:=by
        have:=Ir.own;rw[show(Pj (path yb i)).1.w=BD from e1.2]at this;exact this
       have e3:(path yb (i+1)).1.X=grown (path yb i).1.X (EZ (path yb i)) BD:=by
        have:=Ir.X;rw[show(Pj (path yb i)).1.w=BD from e1.2]at this;exact this
       refine⟨E1,g2,w2,a1,k3.tape.trans h2,?_,h4.trans k3.sub,?_,?_⟩
       ·have TG:drew yb (i+1)=drew yb i+((path yb (i+1)).1.w.drawn-(EZ (path yb i)).drawn):=by simp only[drew,if_pos ha]
        have q1:=k3.draw;have q2:=k3.more;rw[TG,e1.2,<- h3];omega
       ·rw[e1.2,e2,e3];exact l1
       ·rw[e1.1];exact k4
   ·
    exfalso;have he:∃o w2 es,stepG C.P true g w=.ended o w2 es:=by obtain⟨fr,callers,sts,dy,of⟩:=g;have q1:=h6.alone;have q2:=h6.mode;have q3:=h6.defers;have q4:=h6.dying;simp only at q1 q2 q3 q4;subst q1 q4;exact⟨_,_,_,by simp[stepG,q2,unwind,q3,Jp,callDeferred,invoke];rfl⟩
    obtain⟨o,w2,es,he⟩:=he;exact YV _ _ (U4 h6.run he)
 obtain⟨E,g,w,h1,h2,h3,h4,h5,h6⟩:=inv n (Ad _);rw[AB]at h1;have RJ:g1=g/\w1=w:=by simp only[Stepped.next.injEq,solo,Machine.mk.injEq]at h1;exact⟨by simpa using h1.2.1,h1.1⟩
 obtain⟨rfl,rfl⟩:=RJ;exact(path yb n).2 (.stop λw2 hr=>⟨E,g1,w1,h4,h5.rely hr,h6,Bz⟩)
end
end Go.Sim
namespace Go.Sim
section
variable{C:Cx}{E:J5}
theorem AR.J6f{c:JC}(h:AR C E c c):∀n,AR C E (Array.replicate n c).flatten (Array.replicate n c).flatten
 |0=>by simpa using(AR.nil:AR C E #[] #[])
 |n+1=>by
  rw[Array.replicate_succ',Array.flatten_append];have:=AR.J6f h n;have e:(#[c]:Array (JC)).flatten=c:=by simp
  rw[e];exact h.append this
def Xk(C:Cx)(i:TypeInfo):Prop:=∀z,i.zero=some z->∀E,VR C E z z
theorem Jg9{α β:Type}(Q:β->Prop)(body:α->β->Option (ForInStep β))(hb:∀a b s,Q b->body a b=some s->Q s.value):∀(l:List α)(b r:β),Q b->(forIn l b body:Option β)=some r->Q r
 |[],b,r,h,e=>by
  simp only[List.forIn_nil,Option.pure_def,Cm]at e;subst e;exact h
 |a::l,b,r,h,e=>by
  rw[List.forIn_cons]at e;simp only[Option.bind_eq_bind,LX]at e;obtain⟨s,hs,e⟩:=e;have hq:=hb a b s h hs;cases s with
  |done b'=>simp only[Option.pure_def,Cm]at e;subst e;exact hq
  |yield b'=>exact Jg9 Q body hb l b' r hq e
theorem Jd8{info:JH->Option TypeInfo}(hi:∀t i,info t=some i->Xk C i)(fs:Array Field){i:TypeInfo}(h:Made.reckonStruct info fs=some i):Xk C i:=by
 unfold Made.reckonStruct at h
 dsimp only at h
 rw[<- Array.forIn_toList]at h;simp only[Option.bind_eq_bind,LX]at h;obtain⟨r,hr,h⟩:=h;have key:∀a,r.2.2.2.2.2.2.2.1=some a->∀E,AR C E a a:=by
  refine Jg9 (λs=>∀a,s.2.2.2.2.2.2.2.1=some a->∀E,AR C E a a) _ ?_ _ _ _ (λa ha E=>by cases ha;exact .nil) hr;intro f b s hb hs;obtain⟨j,hj,hs⟩:=LX.1 hs;have fin:∀(c:Prop)[Decidable c](z:Option (JC)),(z=if c then none else(do let x <- b.2.2.2.2.2.2.2.1;let y <- j.zero;pure (x++y.cells)))->∀a,z=some a->∀E,AR C E a a:=by
   intro c _ z hz a ha E;rw[hz]at ha;split at ha
   ·cases ha
   ·simp only[Option.bind_eq_bind,LX,Option.pure_def,Cm]at ha;obtain⟨x,hx,y,hy,rfl⟩:=ha;exact(hb x hx E).append (AR.cells (hi _ j hj y hy E))
  split at hs
  ·simp at hs
  ·split at hs
   ·simp at hs
   ·split at hs
    ·simp only[Option.pure_def,Option.bind_eq_bind,Option.bind_some]at hs;split at hs<;>(simp only[Cm]at hs;subst hs;exact fin _ _ rfl)
    ·obtain⟨tag,_,hs⟩:=LX.1 hs;split at hs<;>(simp only[Option.pure_def,Cm]at hs;subst hs;exact fin _ _ rfl)
 split at h <;>
 ·simp only[Option.pure_def,Cm]at h;subst h;intro z hz E;simp only[FX]at hz;obtain⟨a,ha,rfl⟩:=hz;exact .QY (key a ha E)
theorem Jp4{info:JH->Option TypeInfo}(hi:∀t i,info t=some i->Xk C i)(d:TypeDesc){i:TypeInfo}(h:Made.reckon info d=some i):Xk C i:=by
 intro z hz E;unfold Made.reckon at h;cases d with
 |pointer e=>
  simp only[Option.bind_eq_bind,LX]at h;obtain⟨j,hj,h⟩:=h;split at h
  ·cases h
  ·split at h
   ·cases h
   ·simp only[LX,Option.pure_def,Cm]at h;obtain⟨s,_,rfl⟩:=h;cases hz;exact .nilPtr
  ·simp only[LX,Option.pure_def,Cm]at h;obtain⟨s,_,rfl⟩:=h;cases hz;exact .nilPtr
 |slice e=>
  simp only[Option.bind_eq_bind,LX,Option.pure_def,Cm]at h;obtain⟨_,_,_,_,rfl⟩:=h;cases hz;exact .Jo _ _
 |map k e=>
  simp only[Option.bind_eq_bind,LX,Option.pure_def,Cm]at h;obtain⟨_,_,_,_,_,_,_,_,rfl⟩:=h;cases hz;exact .Na
 |chan d e=>
  simp only[Option.bind_eq_bind,LX,Option.pure_def,Cm]at h;obtain⟨_,_,_,_,rfl⟩:=h;cases hz;exact .Ql
 |func a b c=>
  simp only[Option.bind_eq_bind,LX,Option.pure_def,Cm]at h;obtain⟨_,_,rfl⟩:=h;cases hz;exact .nilFunc
 |array n e=>
  simp only[Option.bind_eq_bind,LX,Option.pure_def,Cm]at h;obtain⟨j,hj,_,_,rfl⟩:=h;simp only at hz;split at hz
  ·cases hz
  ·split at hz
   ·cases hz;exact .QY .nil
   ·simp only[FX]at hz;obtain⟨z0,En,rfl⟩:=hz;exact .QY ((AR.cells (hi e j hj z0 En E)).J6f n)
 |struct fs=>exact Jd8 hi fs h z hz E
 |_=>cases h
theorem Jga{T:Tables}(h:∀(t:Nat)(i:TypeInfo),T.types[t]?=some i->Xk C i):∀(f:Nat)(t:JH)(i:TypeInfo),Made.infoAt T f t=some i->Xk C i
 |0,_,_,h=>by cases h
 |f+1,t,i,hi=>by
  unfold Made.infoAt at hi;split at hi
  ·exact h t i hi
  ·simp only[LX]at hi;obtain⟨d,_,hd⟩:=hi;exact Jp4 (Jga h f) d hd
theorem Jvi{T:Tables}(h:∀(t:Nat)(i:TypeInfo),T.types[t]?=some i->Xk C i)(t:JH)(i:TypeInfo)(hi:T.info? t=some i):Xk C i:=by
 unfold Tables.info? at hi;split at hi
 ·exact h t i hi
 ·exact Jga h _ t i hi
end
def Jvj(P:Program):Bool:=P.types.toList.all λi=>match i.zero with|some z=>Nq 20 z|none=>true
def Jvk(C:Cx):Bool:=
 (C.ts++[C.P.rt.boundsError,C.P.rt.errorString,C.P.rt.plainError,C.P.rt.typeAssertionError,C.P.rt.panicNilError,C.P.rt.unhashableTypeError]).all λt=>
  decide (t<C.P.types.size) && match C.P.types[t]? with
   |some i=>i.methods.toList.all λm=>!C.ms.contains m.name || (m.path.isEmpty && match m.func with|some (f,_)=>C.fs.contains f|none=>false)
   |none=>true
def Jvl(C:Cx)(S:Kn):Bool:=
 S.cs.all λf=>(C.hl f).isEmpty && match C.P.funcs[f]? with
  |some fn=>fn.body.isSome && !(fn.name == "runtime.NumGoroutine") && (match fn.body with|some b=>Jj C S f b|none=>true)
  |none=>false
def Jrm(C:Cx)(S:Kn):Bool:=C.fs.all λf=>S.cs.contains f && (S.own f).all λi=>decide (6<=i)
theorem dW{α:Type}{p:α->Bool}{l:List α}(h:l.all p=true){a:α}(ha:a∈l):p a=true:=by rw[List.all_eq_true]at h;exact h a ha
theorem Il.Jir{C:Cx}{S:Kn}(h1:Jvj C.P=true)(h2:Jvk C=true)(h3:Jvl C S=true)(h4:Jrm C S=true)
  (h5:∀f,S.xs.contains f=true->∃fn ps rs,C.P.funcs[f]?=some fn/\(fn.name == "runtime.NumGoroutine")=false/\fn.body=none/\Go.Extern.findNext fn=none/\Go.Extern.find fn=some (Go.Extern.SlicesOverlaps.overlaps ps rs)):Il C S:=by
 have tys:∀t i m,C.Kq t=true->C.P.info? t=some i->m∈i.methods->C.ms.contains m.name=true->m.path=#[]/\∃f p,m.func=some (f,p)/\C.F f:=by
  intro t i m ht hi hm hn;have pX:t∈C.ts++[C.P.rt.boundsError,C.P.rt.errorString,C.P.rt.plainError,C.P.rt.typeAssertionError,C.P.rt.panicNilError,C.P.rt.unhashableTypeError]:=by unfold Cx.Kq at ht;simp only[Bool.or_eq_true,Nh]at ht;exact FY.2 ht
  have:=dW h2 pX;simp only[Bv,decide_eq_true_eq]at this;obtain⟨Ac,this⟩:=this;have Dn:C.P.types[t]?=some i:=by
   unfold Tables.info? at hi
   rwa [if_pos Ac]at hi
  rw[Dn]at this;have:=dW this (Array.mem_toList_iff.2 hm);simp only[hn,Bool.not_true,Bool.false_or,Bv,Array.isEmpty_iff]at this;obtain⟨hp,hf⟩:=this;cases hfu:m.func with
  |none=>rw[hfu]at hf;cases hf
  |some q=>
   obtain⟨f,p⟩:=q;rw[hfu]at hf;exact⟨hp,f,p,rfl,hf⟩
 have fns:∀f,S.cs.contains f=true->C.hl f=[]/\∃fn b,C.P.funcs[f]?=some fn/\fn.body=some b/\(fn.name == "runtime.NumGoroutine")=false/\Jj C S f b=true:=by
  intro f hf;have:=dW h3 (Nh.1 hf);simp only[Bv,List.isEmpty_iff]at this;obtain⟨hl,this⟩:=this;refine⟨hl,?_⟩;cases Qr:C.P.funcs[f]? with
  |none=>rw[Qr]at this;cases this
  |some fn=>
   rw[Qr]at this;cases hb:fn.body with
   |none=>simp[hb]at this
   |some b=>
    simp only[hb,Option.isSome_some,Bool.true_and,Bv,Bool.not_eq_true']at this;exact⟨fn,b,rfl,hb,this.1,this.2⟩
 refine⟨⟨⟨λt i z hi hz E=>?_,λt i m f p ht hi hm hn hf=>?_,λt i m ht hi hm hn=>?_⟩,λf hf=>?_,λf hf=>?_,h5⟩,λf hf=>(fns f hf).1,λf fn b hf Qr hb=>?_⟩
 ·refine Jvi (C:=C) (T:=C.P.toTables) (λt i hi z hz E=>?_) t i hi z hz E;have:=dW h1 (Array.mem_toList_iff.2 (IX hi));rw[hz]at this;exact J6k 20 z this
 ·obtain⟨_,f',p',KT,hF⟩:=tys t i m ht hi hm hn;rw[hf]at KT;cases KT;exact hF
 ·obtain⟨hp,f',p',KT,_⟩:=tys t i m ht hi hm hn;exact⟨hp,f',p',KT⟩
 ·obtain⟨_,fn,b,a1,a2,a3,_⟩:=fns f hf;exact⟨fn,a1,by rw[a2];rfl,a3⟩
 ·have:=dW h4 (Nh.1 hf);simp only[Bv]at this;exact⟨this.1,λi hi=>by simpa using dW this.2 (Nh.1 hi)⟩
 ·obtain⟨_,Qq,b',a1,a2,_,a4⟩:=fns f hf;rw[Qr]at a1;cases a1;rw[hb]at a2;cases a2;exact a4
end Go.Sim
namespace Go.Sim.Z
open Go Go.Proofs
noncomputable def C0:Cx:={ P:=prog,fs:=[11,21,27,42,44,49,50,51,52,54,58,61,68,70,72,74,101,156,157,158,159,163,164,165,166,170,171,172,173],ts:=[120,123,126,68,117,9],ms:=["Add","Numbers","Copy","Merge"],hl:=λf=>if f == 40 then[9,10,18,19,20,21,22,23,24]else if f == 9 then[18]else if f == 17 then[6,10]else if f == 38 then[1000]else if f == 4 then[1,34,1000]else if f == 3 then[1,30,1000]else if f == 5 then[1,21,1000]else if f == 6 then[0,9,18,20,21,24,26,27,30,32,33,41,43,44,46,48,49,1000]else if f == 7 then[1000]else if f == 14 then[1000]else if f == 17 then[1000]else[],st:=false,Sh:=λ_=>False,lax:=λ_ _ h=>h }
def S0:Kn:={ own:=λf=>if f == 52 then[7]else if f == 100 then[10]else[],cs:=[8,10,11,12,13,15,16,18,19,20,21,22,23,24,25,26,27,28,29,30,31,32,33,34,35,36,37,39,41,42,43,44,45,46,47,48,49,50,51,52,53,54,55,56,57,58,59,60,61,65,67,68,69,70,71,72,73,74,75,76,77,78,79,93,94,100,101,102,103,104,105,106,107,108,109,110,111,112,113,114,115,116,117,118,119,120,121,122,128,129,130,131,132,133,134,135,136,137,138,156,157,158,159,160,161,162,163,164,165,166,167,168,169,170,171,172,173,174,175,176,177,178,180,181,182,183],gs:=[],df:=[24,54],xs:=[179] }
noncomputable def C1 (Sh:JB):Cx:={ P:=prog,fs:=[42,44,157,158,164,165,171,172],ts:=[120,123,126],ms:=["Copy","Merge"],hl:=λf=>if f == 63 then[0,6]else[],st:=true,Sh,lax:=λh=>by cases h }
def S1:Kn:={ own:=λf=>if f == 63 then[7,9,23]else if f == 65 then[0,15]else[],cs:=[26,42,43,44,47,65,71,93,94,157,158,161,164,165,170,171,172,174,175,176,177,178,180,181,182,183],gs:=[],df:=[],xs:=[179] }
theorem J9t (f:JG) (h:[179].contains f=true):∃fn ps rs,prog.funcs[f]?=some fn/\(fn.name == "runtime.NumGoroutine")=false/\fn.body=none/\Go.Extern.findNext fn=none/\Go.Extern.find fn=some (Go.Extern.SlicesOverlaps.overlaps ps rs):=by
 have e:f=179:=by simpa using h
 subst e;exact⟨f179,f179.params,f179.resultTypes,by kernel_rfl,by kernel_rfl,by kernel_rfl,by kernel_rfl,by kernel_rfl⟩
theorem MZ:Il C0 S0:=Il.Jir (by kernel_rfl) (by kernel_rfl) (by kernel_rfl) (by kernel_rfl) J9t
theorem Jp5(Sh:JB):Il (C1 Sh) S1:=Il.Jir (by kernel_rfl) (by kernel_rfl) (by kernel_rfl) (by kernel_rfl) J9t
end Go.Sim.Z
