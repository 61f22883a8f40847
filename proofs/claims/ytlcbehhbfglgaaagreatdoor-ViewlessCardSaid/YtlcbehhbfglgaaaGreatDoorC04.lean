/- Proved: laws for the claim. No conditions. -/
import Derived.Test.YtlcbehhbfglgaaaGreatDoorC03
set_option linter.all false
namespace Go.Sim
theorem VW{P:Program}{fn:JG}{es:Array Event}{e:Event}(h:e∈seen P fn es):e∈es:=by
 dsimp only[seen]at h
 rw[<- Array.foldl_toList]at h;have key:∀(l:List Event)(x:Bool × Array Event),e∈(l.foldl (λ(x:Bool × Array Event)(e:Event)=>match x,e with
   |(q,kept),e=>match e.loc with
    |.mark (.extern f)=>((P.funcs[f]?).any (·.norace),kept)
    |_=>(q,if q && !e.sync then kept else kept.push e)) x).2->e∈x.2\/e∈l:=by
  intro l
  induction l with
  |nil=>grind
  |cons a l ih=>
   grind
 rcases key _ _ h with h|h
 all_goals grind
def J048(L:Option Nat)(r':GStep):Prop:=∃lim,L=some lim/\∀g1 w1 es,r'=.go g1 w1 es->g1.dying=none->lim<w1.drawn
def Jz(C:Cx)(S:Kn)(E:J5)(cs:Bot)(L:Option Nat)(w w':JE)(r r':GStep):Prop:=
 J048 L r'\/(∃o w1 es,r=.ended o w1 es)\/∃g1 w1 es,r=.go g1 w1 es/\g1.status=.running/\g1.dying=none /\
  (UW g1\/∃E1 O6 Am AU,r'=.go O6 Am AU/\WT C (okP C S) E1 L w1 Am/\Grow C E E1 w w' w1 Am/\(GR C S E1 cs g1 O6\/dG C S E1 cs g1 O6)/\∀e∈AU,Lc C E1 e)
def Jz.good{C:Cx}{S:Kn}{E E1:J5}{cs:Bot}{L:Option Nat}{w w' w1 Am:JE}{g1 O6:JF}{es AU:Array Event}(hw:WT C (okP C S) E1 L w1 Am)(hg:Grow C E E1 w w' w1 Am)(h:GR C S E1 cs g1 O6)
  (he:∀e∈AU,Lc C E1 e):Jz C S E cs L w w' (.go g1 w1 es) (.go O6 Am AU):=
 .inr (.inr ⟨_,_,_,rfl,h.run,h.dying,.inr ⟨E1,_,_,_,rfl,hw,hg,.inl h,he⟩⟩)
def Jz.bad{C:Cx}{S:Kn}{E:J5}{cs:Bot}{L:Option Nat}{w w' w1:JE}{g1:JF}{es:Array Event}{r':GStep}(h:UW g1)(hs:g1.status=.running):Jz C S E cs L w w' (.go g1 w1 es) r':=
 .inr (.inr ⟨_,_,_,rfl,hs,h.2.2.2,.inl h⟩)
theorem Jz.G7{C:Cx}{S:Kn}{E:J5}{cs:Bot}{L:Option Nat}{w w':JE}{o:Outcome}{w1:JE}{es:Array Event}{r':GStep}:Jz C S E cs L w w' (.ended o w1 es) r':=.inr (.inl ⟨_,_,_,rfl⟩)
def FrR.enter{C:Cx}{S:Kn}{E:J5}{f:JG}{a a':JC}{k:CallKind}(hk:k=.normal\/k=.deferred)(hb:GY C f)(ho:Yv C f)
  (hc:∀fn b,C.P.funcs[f]?=some fn->fn.body=some b->Ji C S f b=true) (ha:AR C E a a') (hf:Ent C S f a) :
  FrR C S E (Frame.enter C.P f a k) (Frame.enter C.P f a' k):=by
 obtain⟨fn,h1,h2,h3⟩:=hb;refine⟨rfl,⟨fn,h1,h2,h3⟩,hk,rfl,trivial,TmR.enter ha hf _,?_,.nil,.run,ho,λh=>absurd rfl h⟩;cases OG:fn.body with
 |none=>grind
 |some b=>
  have:=hc fn b h1 OG;simp only[Frame.enter,h1,Option.bind_some,OG,A8];exact .cons (.code this) .nil
def FrR.Jj6{C:Cx}{S:Kn}{E:J5}{l l':Nat}{f:JG}{t t':JC}{aS bd:Code}{k:CallKind}(hk:k=.normal\/k=.deferred)(hl:E l l')(ht:HR C E f t t')
  (h1:okP C S f aS) (h2:okP C S f bd):FrR C S E (Frame.round l f t aS bd k) (Frame.round l' f t' aS bd k):=by
 refine⟨rfl,h1.2.2.2.1,hk,rfl,hl,⟨ht.size,λi x x'=>ht.at_ i x x',λi x hi=>?_⟩,.cons (.code h1.1) (.cons .beginRound (.cons (.code h2.1) .nil)),.nil,.run,h1.2.2.1,λ_=>h1.2.2.2.2⟩;have:=h1.2.1;simp[Frame.round,this]at hi
structure FM(C:Cx)(S:Kn):Prop where
 kn:P8 C S
 hol:∀f,S.cs.contains f=true->C.hl f=[]
 code:∀f fn b,S.cs.contains f=true->C.P.funcs[f]?=some fn->fn.body=some b->Ji C S f b=true
def FM.free{C:Cx}{S:Kn}(A:FM C S){f:JG}(h:S.cs.contains f=true):Yv C f:=λ_ _ _ _=>by rw[A.hol f h];rfl
section
variable{C:Cx}{S:Kn}{E:J5}{cs:Bot}
def J9q(A:FM C S){fr fr':Frame}{callers Bg:List Frame}{s s':Sem Next}{L:Option Nat}{w w':JE}{Q:Next->Prop}
  (hw:WT C (okP C S) E L w w') (hs:J3 C (okP C S) E s s' (λE1 n n'=>Ib C (okP C S) S E1 n n'/\Q n))
  (hk:∀d r v k,fr.todo≠.call d true r v::k) (D6:∀d r v k,fr'.todo≠.call d true r v::k)
  (Ae:StR C S E cs (fr::callers) (fr'::Bg))
  (lF:∀n,Q n->(∃f a,n=.enter f a)\/(∃l f t a b,n=.round l f t a b)->Waits S fr)
  (BH:∀E1 v v',Sub E E1->VR C E1 v v'->(Q (.value v)\/v=JA)->StR C S E1 cs (fr.finish v::callers) (fr'.finish v'::Bg))
  (zM:∀E1 c c',Sub E E1->KX C E1 c c'->StR C S E1 cs (fr.raise c::callers) (fr'.raise c'::Bg)\/UW { frame:=fr.raise c,callers,status:=.running,dying:=none }) :
  Jz C S E cs L w w' (stepG.apply C.P true fr callers none s w) (stepG.apply C.P true fr' Bg none s' w'):=by
 rcases hs L w w' hw with⟨lim,hL,ho⟩|h
 .exact .inl ⟨lim,hL,λg1 w1 es hgo hd=>DX ho (J8o hgo hd)⟩
 have hkd:(match fr.todo with| .call _ true _ _::_=>CallKind.wrapped|_=>CallKind.normal)=.normal:=by
  grind
 have Jkh:(match fr'.todo with| .call _ true _ _::_=>CallKind.wrapped|_=>CallKind.normal)=.normal:=by
  grind
 unfold stepG.apply;simp only[Sem.runT_eq,if_true,hkd,Jkh];cases hr:s.run C.P w with
 |ok n w2=>
  rw[hr]at h;obtain⟨E1,n',Bv,e1,e2,e3,⟨e4,e5⟩,e6⟩:=h;rw[e1];have Eh:∀e,e∈(seen C.P fr'.fn (if fr'.kind == .early then #[]else s'.events C.P w' #[])++#[])->Lc C E1 e:=λe he=>by
   grind[VW]
  cases e4 with
  |value hv=>
   exact .good e2 e3 ⟨BH E1 _ _ e3.sub hv (.inl e5),rfl,rfl,rfl,rfl,rfl⟩ Eh
  |skip=>
   exact .good e2 e3 ⟨BH E1 _ _ e3.sub .undef (.inr rfl),rfl,rfl,rfl,rfl,rfl⟩ Eh
  |enter ha hf=>
   have xI:=FrR.enter (.inl rfl) (A.kn.cs _ hf.1) (A.free hf.1) (A.code _ · · hf.1) ha hf;exact .good e2 e3 ⟨.cons xI ((Ae.mono e3.sub).low _ λ_=>lF _ e5 (.inl ⟨_,_,rfl⟩)),rfl,rfl,rfl,rfl,rfl⟩ Eh
  |round hl ht h1 h2=>
   exact .good e2 e3 ⟨.cons (FrR.Jj6 (.inl rfl) hl ht h1 h2) ((Ae.mono e3.sub).low _ λ_=>lF _ e5 (.inr ⟨_,_,_,_,_,rfl⟩)),rfl,rfl,rfl,rfl,rfl⟩ Eh
 |halt x w2=>
  rw[hr]at h;cases x with
  |panic v=>
   obtain⟨E1,v',Bv,e1,e2,e3,e4,e6⟩:=h;rcases zM E1 _ _ e3.sub (.cons false false e4 .nil)with hA|hB
   .rw[e1];refine .good e2 e3 ⟨hA,rfl,rfl,rfl,rfl,rfl⟩ λe he=>?_
    grind[VW]
   .exact .bad hB rfl
  |goexit=>simp_all
  |blocked=>simp_all
  |waiting=>simp_all
  |exit c=>exact .G7
  |fatal m=>simp_all
  |throw m=>simp_all
  |stuck s=>exact .G7
  |unsupported u=>
   cases u with
   |initOrder g=>simp_all
   |_=>exact .G7
end
section
variable{C:Cx}{S:Kn}{E:J5}{cs:Bot}
def Yw(C:Cx)(S:Kn)(fr:Frame)(v:JJ):Prop:=
 ∀ops i r k d,fr.todo=.inRegion ops (i::r)::k->(ops[i]?).bind (·.dst)=some d->(S.own fr.fn).contains d=true->Kw C v
def Waits.Jj7{fr:Frame}(h:Waits S fr)(v:JJ):Yw C S fr v:=λops i r k d a b c=>by rw[h.own ops i r k d a b]at c;cases c
def Jft{fn:JG}{t t':JC}(h:TmR C S fn E t t'){v v':JJ}(hv:VR C E v v')(d:Option Tmp):(∀x,d=some x->(S.own fn).contains x=true->Kw C v) ->
  TmR C S fn E (match d with|some d=>t.setIfInBounds d v|none=>t) (match d with|some d=>t'.setIfInBounds d v'|none=>t'):=by
 intro ho;cases d with
 |none=>exact h
 |some d=>exact h.set d hv (ho d rfl)
def FrR.finish{fr fr':Frame}(h:FrR C S E fr fr'){v v':JJ}(hv:VR C E v v')(ho:Yw C S fr v):FrR C S E (fr.finish v) (fr'.finish v'):=by
 obtain⟨fn,tmps,todo,defers,mode,kind,ro⟩:=fr;obtain⟨PL,Jwp,VE,NV,RV,kind',ro'⟩:=fr';obtain⟨h1,h2,h3,h4,h5,h6,h7,h8,h9,Ce,DZ⟩:=h;simp only at *;subst h1;cases h7 with
 |nil=>exact⟨rfl,h2,h3,h4,h5,h6,.nil,h8,h9,Ce,DZ⟩
 |cons hx hl=>
  cases hx with
  |inRegion is hr=>
   cases is with
   |nil=>exact⟨rfl,h2,h3,h4,h5,h6,.cons (.inRegion [] hr) hl,h8,h9,Ce,DZ⟩
   |cons i r=>exact⟨rfl,h2,h3,h4,h5,Jft h6 hv _ λx hx=>ho _ _ _ _ x rfl hx,.cons (.inRegion r (J9n hr)) hl,h8,h9,Ce,DZ⟩
  |inRangeFunc he=>exact⟨rfl,h2,h3,h4,h5,h6,.cons (.endRangeFunc he) hl,h8,h9,Ce,DZ⟩
  |beginRound=>exact⟨rfl,h2,h3,h4,h5,h6,hl,h8,h9,Ce,DZ⟩
  |code hc=>exact⟨rfl,h2,h3,h4,h5,h6,.cons (.code hc) hl,h8,h9,Ce,DZ⟩
  |inBlock id=>exact⟨rfl,h2,h3,h4,h5,h6,.cons (.inBlock id) hl,h8,h9,Ce,DZ⟩
  |inLoop hc=>exact⟨rfl,h2,h3,h4,h5,h6,.cons (.inLoop hc) hl,h8,h9,Ce,DZ⟩
  |inScope hc=>exact⟨rfl,h2,h3,h4,h5,h6,.cons (.inScope hc) hl,h8,h9,Ce,DZ⟩
  |endRangeFunc he=>exact⟨rfl,h2,h3,h4,h5,h6,.cons (.endRangeFunc he) hl,h8,h9,Ce,DZ⟩
theorem Frame.ZW(fr:Frame)(v:JJ):(fr.finish v).kind=fr.kind:=by unfold Frame.finish;grind
theorem Frame.J8p(fr:Frame)(c:List PanicEntry):(fr.raise c).kind=fr.kind:=by unfold Frame.raise;split<;>rfl
def FrR.raise{fr fr':Frame}(h:FrR C S E fr fr'){c c':List PanicEntry}(hc:KX C E c c'):FrR C S E (fr.raise c) (fr'.raise c'):=by
 obtain⟨fn,tmps,todo,defers,mode,kind,ro⟩:=fr;obtain⟨PL,Jwp,VE,NV,RV,kind',ro'⟩:=fr';obtain⟨h1,h2,h3,h4,h5,h6,h7,h8,h9,Ce,DZ⟩:=h;simp only at *;subst h1;cases h9 with
 |run=>exact⟨rfl,h2,h3,h4,h5,h6,h7,h8,.panicking hc,Ce,DZ⟩
 |returning=>exact⟨rfl,h2,h3,h4,h5,h6,h7,h8,.panicking hc,Ce,DZ⟩
 |panicking h=>exact⟨rfl,h2,h3,h4,h5,h6,h7,h8,.panicking (hc.append h),Ce,DZ⟩
def Jj8{fn:JG}{ops:Array Oper}{i:Nat}(hr:okD C fn ops i=true){t tm:JC}(h:∀j,(C.hl fn).contains j=true->t[j]?=tm[j]?)(v:JJ) :
  ∀j,(C.hl fn).contains j=true->(match(ops[i]?).bind (·.dst)with|some d=>t.setIfInBounds d v|none=>t)[j]?=tm[j]?:=by
 intro j hj;cases ho:ops[i]? with
 |none=>exact h j hj
 |some o=>
  cases hd:o.dst with
  |none=>grind
  |some d=>
   have hol:(C.hl fn).contains d=false:=by
    unfold okD at hr;rw[ho]at hr;simp only[Bh]at hr;have:=hr.1;unfold dD at this
    grind
   grind
def Ox.finish{fr fr':Frame}(h:Ox C S cs E fr fr'){v v':JJ}(hv:VR C E v v')(ho:Yw C S fr v)
  (hd:(∃ops i r k,fr.todo=.inRegion ops (i::r)::k)\/(∃l k,fr.todo=.inRangeFunc l::k)\/∃k,fr.todo=.beginRound::k):Ox C S cs E (fr.finish v) (fr'.finish v'):=by
 obtain⟨fn,tmps,todo,defers,mode,kind,ro⟩:=fr;obtain⟨PL,Jwp,VE,NV,RV,kind',ro'⟩:=fr';obtain⟨h1,h2,h3,h4,h5,h6,h7,h8,h9,Ce,DZ,SA,O7,Ua,PN,Ub,WZ⟩:=h;simp only at *;subst h1;generalize e1:todo=y at h8;cases h8 with
 |code Zh h8=>
  subst e1;cases h8 with
  |nil=>
   rcases hd with⟨_,_,_,_,h⟩|⟨_,_,h⟩|⟨_,h⟩<;>cases h
  |cons hx hl=>
   cases hx with
   |inRegion is hr=>
    cases is with
    |nil=>grind
    |cons i r=>exact⟨rfl,h2,h3,h4,h5,h6,Jft h7 hv _ λx hx=>ho _ _ _ _ x rfl hx,.code Zh (.cons (.inRegion r (J9n hr)) hl),h9,Ce,DZ,SA,O7,Ua,PN,Ub,Jj8 (Jcp hr) WZ _⟩
   |inRangeFunc he=>exact⟨rfl,h2,h3,h4,h5,h6,h7,.code Zh (.cons (.endRangeFunc he) hl),h9,Ce,DZ,SA,O7,Ua,PN,Ub,WZ⟩
   |beginRound=>exact⟨rfl,h2,h3,h4,h5,h6,h7,.code Zh hl,h9,Ce,DZ,SA,O7,Ua,PN,Ub,WZ⟩
   |_=>grind
 |ops is hr=>
  subst e1;cases is with
  |nil=>grind
  |cons i r=>exact⟨rfl,h2,h3,h4,h5,h6,Jft h7 hv _ λx hx=>ho _ _ _ _ x rfl hx,.ops r (J9n hr),h9,Ce,DZ,SA,O7,Ua,PN,Ub,Jj8 (Jcp hr) WZ _⟩
def StR.finish{fr fr':Frame}{l l':List Frame}(h:StR C S E cs (fr::l) (fr'::l')){v v':JJ}(hv:VR C E v v')(ho:Yw C S fr v)
  (hd:(∃ops i r k,fr.todo=.inRegion ops (i::r)::k)\/(∃l k,fr.todo=.inRangeFunc l::k)\/∃k,fr.todo=.beginRound::k):StR C S E cs (fr.finish v::l) (fr'.finish v'::l'):=by
 cases h with
 |bot h=>exact .bot (h.finish hv ho hd)
 |cons h hl=>exact .cons (h.finish hv ho) (by grind[Frame.ZW])
def Ox.bad{c c':Frame}(h:Ox C S cs E c c')(ch:List PanicEntry):UW { frame:=c.raise ch,callers:=[],status:=.running,dying:=none }:=by
 have e:c.raise ch={ c with mode:=.panicking ch }:=by unfold Frame.raise;rw[h.mode]
 rw[e];exact⟨rfl,⟨_,rfl⟩,h.defers,rfl⟩
def StR.raise{fr fr':Frame}{l l':List Frame}(h:StR C S E cs (fr::l) (fr'::l')){c c':List PanicEntry}(hc:KX C E c c') :
  StR C S E cs (fr.raise c::l) (fr'.raise c'::l')\/UW { frame:=fr.raise c,callers:=l,status:=.running,dying:=none }:=by
 cases h with
 |bot h=>exact .inr (h.bad c)
 |cons h hl=>exact .inl (.cons (h.raise hc) (by grind[Frame.J8p]))
def Ic.top{k:CallKind}{l l':List Frame}(h:Ic C S E cs k l l'):StR C S E cs l l':=by
 cases h with
 |bot h _=>exact .bot h
 |cons h _ hl=>exact .cons h hl
def KX.drop{l l':List PanicEntry}(h:KX C E l l'):KX C E (l.dropWhile (!·.goexit)) (l'.dropWhile (!·.goexit)):=by
 induction h with
 |nil=>exact .nil
 |cons r g h hl ih=>
  cases g with
  |true=>exact .cons r true h hl
  |false=>exact ih
def back(c:Frame):Frame:=
 match c.mode with
 |.panicking ({ recovered:=true,.. }::lV)=>
  match lV.dropWhile (!·.goexit)with
  |[]=>{ c with mode:=.returning }
  |rest=>{ c with mode:=.panicking rest }
 |_=>c
theorem Jq4(c:Frame):(back c).kind=c.kind:=by unfold back;grind
def FrR.nS{fr fr':Frame}(h:FrR C S E fr fr'){m m':FrameMode}(hm:UK C E m m'):FrR C S E { fr with mode:=m } { fr' with mode:=m' }:=
 ⟨h.fn,h.body,h.kind,h.kind',h.round,h.tmps,h.todo,h.defers,hm,h.hol,h.rd⟩
def FrR.back{fr fr':Frame}(h:FrR C S E fr fr'):FrR C S E (back fr) (back fr'):=by
 have hm:=h.mode;unfold Sim.back;generalize GN:fr.mode=m at hm;generalize Nr:fr'.mode=m' at hm;cases hm with
 |run=>exact h
 |returning=>exact h
 |panicking hc=>
  cases hc with
  |nil=>exact h
  |cons r g hv hl=>
   cases r with
   |false=>exact h
   |true=>
    have hd:=hl.drop
    dsimp only
    generalize List.dropWhile _ _=a at hd;generalize List.dropWhile _ _=b at hd;cases hd with
    |nil=>exact h.nS .returning
    |cons r g hv hl=>exact h.nS (.panicking (.cons r g hv hl))
def J9r{k:CallKind}{callers Bg:List Frame}(h:Ic C S E cs k callers Bg)(hn:k=.normal\/k=.deferred){fr fr':Frame}(hk:fr.kind=k)(D6:fr'.kind=k)
  {v v':JJ} (hv:VR C E v v'):∃c l c' l',(∀m w,doReturn C.P m fr callers none v w=.go { frame:=c,callers:=l,status:=.running,dying:=none } w) /\
   (∀m w,doReturn C.P m fr' Bg none v' w=.go { frame:=c',callers:=l',status:=.running,dying:=none } w)/\StR C S E cs (c::l) (c'::l'):=by
 rcases hn with rfl|rfl
 .cases h with
  |bot h ho=>
   refine⟨_,_,_,_,λm w=>by simp only[doReturn,hk],λm w=>by simp only[doReturn,D6],.bot (h.finish hv ((ho rfl).Jj7 _) ?_)⟩;rcases(ho rfl).head with h|h
   all_goals grind
  |cons h ho hl=>exact⟨_,_,_,_,λm w=>by simp only[doReturn,hk];rfl,λm w=>by simp only[doReturn,D6];rfl,.cons (h.finish hv ((ho rfl).Jj7 _)) (by grind[Frame.ZW])⟩
 .cases h with
  |bot h ho=>exact⟨_,_,_,_,λm w=>by simp only[doReturn,hk,h.mode],λm w=>by simp only[doReturn,D6,h.RV],.bot h⟩
  |@cons _ f f' _ _ h ho hl=>exact⟨back f,_,back f',_,λm w=>by simp only[doReturn,hk];rfl,λm w=>by simp only[doReturn,D6];rfl,.cons h.back (by grind[Jq4])⟩
def Jfu{fr fr':Frame}{callers Bg:List Frame}(h:FrR C S E fr fr')(hl:Ic C S E cs fr.kind callers Bg) :
  (tryRecover fr callers=none/\tryRecover fr' Bg=none) \/
   ∃v v' l l',tryRecover fr callers=some (v,l)/\tryRecover fr' Bg=some (v',l')/\VR C E v v'/\Ic C S E cs fr.kind l l':=by
 have hk:=h.kind';rcases h.kind with e|e
 .left;rw[e]at hk;constructor
  .unfold tryRecover;rw[e]
  .unfold tryRecover;rw[hk]
 .rw[e]at hk hl;rw[e];unfold tryRecover;rw[e,hk];cases hl with
  |bot hb ho=>left;dsimp only;rw[hb.mode,hb.RV];grind
  |@cons _ f f' _ _ hf ho hl=>
   dsimp only
   have hm:=hf.mode;generalize GN:f.mode=m at hm;generalize Nr:f'.mode=m' at hm;cases hm with
   |run=>grind
   |returning=>grind
   |panicking hc=>
    cases hc with
    |nil=>grind
    |cons r g hv Eu=>
     cases r with
     |true=>grind
     |false=>
      cases g with
      |true=>grind
      |false=>exact .inr ⟨_,_,_,_,rfl,rfl,hv,.cons (hf.nS (.panicking (.cons true false hv Eu))) (λx=>nomatch x) hl⟩
end
section
variable{C:Cx}{ok:JG->Code->Prop}{E:J5}
def J3.getLoop{l l':Nat}(h:E l l'):J3 C ok E (Instr.getLoop l) (Instr.getLoop l') (λE1 r r'=>Wl C ok E1 r r'/\¬C.Sh l):=by
 unfold Instr.getLoop;refine J3.bind' (J3.getObj h) λE1 s1 o o' ho=>?_;obtain⟨h3,_⟩:=ho;cases o with
 |loop r=>obtain⟨hs,r',rfl,hr⟩:=h3;grind[pure]
 |_=>exact .stuck _
def J3.Jfv{l l':Nat}(h:E l l')(hs:¬C.Sh l){r r':Loop}(hr:Wl C ok E r r'):J3 C ok E (Go.setObj l (.loop r)) (Go.setObj l' (.loop r')) (λ_ _ _=>True):=
 J3.setObj h hs ⟨hs,r',rfl,hr⟩ (by simp)
def J3.beginRound(hh:Hnd C E){l l':Nat}(h:E l l'):J3 C ok E (Instr.beginRound l) (Instr.beginRound l') (λ_ _ _=>True):=by
 unfold Instr.beginRound;refine J3.bind' (J3.getLoop h) λE1 s1 r r' hr=>?_;obtain⟨hr,hs⟩:=hr;refine J3.bind' (J3.Jfv (s1 _ _ h) hs { hr with state:=rfl }) λE2 s2 _ _ _=>?_;rw[<- hr.state];cases r.state with
 |ready=>exact .pure trivial
 |done=>exact J3.runtimePanic ((hh.mono s1).mono s2) _
 |busy=>exact J3.runtimePanic ((hh.mono s1).mono s2) _
 |exhausted=>exact J3.runtimePanic ((hh.mono s1).mono s2) _
def J3.endRound{l l':Nat}(h:E l l')(j:Option Code)(hj:∀c,j=some c->UA c=true):J3 C ok E (Instr.endRound l j) (Instr.endRound l' j) (VR C):=by
 unfold Instr.endRound;refine J3.bind' (J3.getLoop h) λE1 s1 r r' hr=>?_;obtain⟨hr,hs⟩:=hr;exact J3.bind' (J3.Jfv (s1 _ _ h) hs { hr with state:=rfl,pending:=rfl,ok3:=hj }) λE2 s2 _ _ _=>.pure (.bool _)
def J3.endLoop(hh:Hnd C E){l l':Nat}(h:E l l'):J3 C ok E (Instr.endLoop l) (Instr.endLoop l') (λ_ j j'=>j=j'/\∀c,j=some c->UA c=true):=by
 unfold Instr.endLoop;refine J3.bind' (J3.getLoop h) λE1 s1 r r' hr=>?_;obtain⟨hr,hs⟩:=hr;have fin:J3 C ok E1 (do Go.setObj l (.loop { r with state:=.exhausted });Pure.pure r.pending) (do Go.setObj l' (.loop { r' with state:=.exhausted });Pure.pure r'.pending) (λ_ j j'=>j=j'/\∀c,j=some c->UA c=true):=
  J3.bind' (J3.Jfv (s1 _ _ h) hs { hr with state:=rfl }) λE2 s2 _ _ _=>.pure ⟨hr.pending,hr.ok3⟩
 rw[<- hr.state];by_cases hb:(r.state == .busy)=true
 .simp only[hb,if_true];exact J3.bind' (R:=λ_ _ _=>False) (J3.runtimePanic (hh.mono s1) _) λ_ _ _ _ h=>h.elim
 grind
def J3.takeDeferred{l l':Nat}(h:E l l'):J3 C ok E (Instr.takeDeferred l) (Instr.takeDeferred l') (Fe C):=by
 unfold Instr.takeDeferred;refine J3.bind' (J3.getObj h) λE1 s1 o o' ho=>?_;obtain⟨h3,_⟩:=ho;cases o with
 |deferred ds=>
  obtain⟨hs,O4,rfl,hr⟩:=h3;cases ds with
  |none=>exact .stuck _
  |some ds=>
   cases O4 with
   |none=>exact hr.elim
   |some O4=>exact J3.bind' (J3.setObj (s1 _ _ h) hs ⟨hs,none,rfl,trivial⟩ (by simp)) λE2 s2 _ _ _=>.pure (Fe.mono s2 hr)
 |_=>exact .stuck _
def J3.enterLoop(hh:Hnd C E)(fn:JG){t t':JC}(ht:HR C E fn t t')(ps:Array Tmp){aS bd:Code}(h1:ok fn aS)(h2:ok fn bd)(Ae:C.st=false){a a':Option Nat}(ha:Di E a a') :
  J3 C ok E (Instr.enterLoop fn t ps aS bd a) (Instr.enterLoop fn t' ps aS bd a') (λE1 x x'=>E1 x.1 x'.1/\Fe C E1 x.2 x'.2):=by
 unfold Instr.enterLoop;have fin:∀E1,Sub E E1->∀(d d':Nat)(m m':List Deferred),E1 d d'->Fe C E1 m m'->J3 C ok E1
   (do Pure.pure (<- Go.newObj (.loop { state:=.ready,pending:=none,fn,tmps:=t,params:=ps,assign:=aS,body:=bd,defers:=d }),m))
   (do Pure.pure (<- Go.newObj (.loop { state:=.ready,pending:=none,fn,tmps:=t',params:=ps,assign:=aS,body:=bd,defers:=d' }),m'))
   (λE1 x x'=>E1 x.1 x'.1/\Fe C E1 x.2 x'.2):=λE1 s1 d d' m m' hd hm=>
  J3.bind' (J3.newObj (hh.mono s1) λb hb=>⟨hb,_,rfl,⟨rfl,rfl,rfl,ht.mono s1,rfl,rfl,rfl,hd,h1,h2,(λc hc=>by cases hc),Ae⟩⟩) λE2 s2 r r' hr=>.pure ⟨hr.1,hm.mono s2⟩
 cases a with
 |none=>
  cases a' with
  |some _=>exact ha.elim
  |none=>
   dsimp only
   refine J3.bind' (J3.newObj (o:=.deferred (some [])) (o':=.deferred (some [])) hh λb hb=>⟨hb,some [],rfl,.nil⟩) λE1 s1 r r' hr=>?_;refine J3.bind' (R:=λE1(x x':Nat × List Deferred)=>E1 x.1 x'.1/\Fe C E1 x.2 x'.2) (.pure ⟨hr.1,.cons ⟨.collected hr.1,.nil,λf c e=>by cases e⟩ .nil⟩) λE2 s2 x x' hx=>?_;exact fin E2 (s1.trans s2) _ _ _ _ hx.1 hx.2
 |some l=>
  cases a' with
  |none=>exact ha.elim
  |some l'=>
   dsimp only
   refine J3.bind' (J3.getLoop ha) λE1 s1 r r' hr=>?_;refine J3.bind' (R:=λE1(x x':Nat × List Deferred)=>E1 x.1 x'.1/\Fe C E1 x.2 x'.2) (.pure ⟨hr.1.defers,.nil⟩) λE2 s2 x x' hx=>?_;exact fin E2 (s1.trans s2) _ _ _ _ hx.1 hx.2
end
def Qn(P:Program)(main:Bool)(fr:Frame)(callers:List Frame)(dying:Option Dying)(w:JE)(jump:Option Code):GStep:=
 match fr.roundOf with
 |none=>if jump matches none|some .ret then .go { frame:={ fr with mode:=.returning },callers,status:=.running,dying } w else .ended (.stuck "exit, goto: no such block or label" (fr.pos P)) w
 |some l=>
  let(r,es):=(Instr.endRound l jump).runT P w #[]
  GStep.after (seen P fr.fn es) <| match r with
  |.ok v w=>doReturn P main fr callers dying v w
  |.halt _ w=>.ended (.stuck "range over a function: no such loop" (fr.pos P)) w
section
variable{P:Program}{main:Bool}{fr:Frame}{callers:List Frame}{dying:Option Dying}{w:JE}
theorem Jj9(h:fr.todo=[]):stepG.exec P main true fr callers dying w=Qn P main fr callers dying w none:=by obtain⟨fn,tmps,todo,defers,mode,kind,ro⟩:=fr;obtain rfl:todo=[]:=h;cases ro<;>rfl
def Jja{k}(h:fr.todo=.code .ret::k):stepG.exec P main true fr callers dying w=Qn P main fr callers dying w (some .ret):=by obtain⟨fn,tmps,todo,defers,mode,kind,ro⟩:=fr;obtain rfl:todo=_:=h;cases ro<;>rfl
def Jgt{id k}(h:fr.todo=.code (.exit id)::k):stepG.exec P main true fr callers dying w =
  (exitTo id k).elim (Qn P main fr callers dying w (some (.exit id))) λt=>.go { frame:={ fr with todo:=t },callers,status:=.running,dying } w:=by
 obtain⟨fn,tmps,todo,defers,mode,kind,ro⟩:=fr;obtain rfl:todo=_:=h;unfold stepG.exec
 dsimp only
 cases exitTo id k<;>cases ro<;>rfl
def Jgu{l k}(h:fr.todo=.code (.goto l)::k):stepG.exec P main true fr callers dying w =
  (gotoIn l k).elim (Qn P main fr callers dying w (some (.goto l))) λt=>.go { frame:={ fr with todo:=t },callers,status:=.running,dying } w:=by
 obtain⟨fn,tmps,todo,defers,mode,kind,ro⟩:=fr;obtain rfl:todo=_:=h;unfold stepG.exec
 dsimp only
 cases gotoIn l k<;>cases ro<;>rfl
end
section
variable{C:Cx}{S:Kn}{E:J5}{cs:Bot}
inductive Mc(C:Cx)(S:Kn)(E:J5)(cs:Bot):Frame->List Frame->Frame->List Frame->Prop
 |fr{f f' l l'}(h:FrR C S E f f')(hl:Ic C S E cs f.kind l l'):Mc C S E cs f l f' l'
 |bot{f f'}(h:Ox C S cs E f f'):Mc C S E cs f [] f' cs.cs
def Mc.st{f f':Frame}{l l':List Frame}(h:Mc C S E cs f l f' l'):StR C S E cs (f::l) (f'::l'):=by
 cases h with
 |fr h hl=>exact .cons h hl
 |bot h=>exact .bot h
def StR.Jkn{f f':Frame}{l l':List Frame}(h:StR C S E cs (f::l) (f'::l')):Mc C S E cs f l f' l':=by
 cases h with
 |bot h=>exact .bot h
 |cons h hl=>exact .fr h hl
def Mc.fn{f f':Frame}{l l':List Frame}(h:Mc C S E cs f l f' l'):f'.fn=f.fn:=by
 cases h with
 |fr h hl=>exact h.fn
 |bot h=>exact h.fn
def Mc.tmps{f f':Frame}{l l':List Frame}(h:Mc C S E cs f l f' l'):TmR C S f.fn E f.tmps f'.tmps:=by
 cases h with
 |fr h hl=>exact h.tmps
 |bot h=>exact h.tmps
def Mc.round{f f':Frame}{l l':List Frame}(h:Mc C S E cs f l f' l'):Di E f.roundOf f'.roundOf:=by
 cases h with
 |fr h hl=>exact h.round
 |bot h=>rw[h.round,h.round'];trivial
inductive Jwq(C:Cx)(S:Kn)(E:J5)(cs:Bot)(f:Frame)(l:List Frame)(f':Frame)(l':List Frame):List Item->List Item->List Item->List Item->Prop
 |mk{y y' s k}(h1:f.todo=y++s)(h2:f'.todo=y'++k)(hi:GZ C S f.fn E y y')(hk:(s=[]/\k=[]/\FrR C S E f f'/\Ic C S E cs f.kind l l')\/(s=[Js]/\l=[]/\Ox C S cs E f f'))
  (re:∀(E1:J5)(z z':List Item),Sub E E1->GZ C S f.fn E1 z z'->StR C S E1 cs ({ f with todo:=z++s }::l) ({ f' with todo:=z'++k }::l')) :
  Jwq C S E cs f l f' l' y y' s k
def Mc.part{f f':Frame}{l l':List Frame}(h:Mc C S E cs f l f' l') :
  (∃y y' s k,Jwq C S E cs f l f' l' y y' s k)\/∃ops is rest k,f.todo=[.inRegion ops is,Js]/\f'.todo=.inRegion ops (is++rest)::k/\IC C S f.fn ops is=true/\Ox C S cs E f f'/\l=[]/\l'=cs.cs:=by
 cases h with
 |fr h hl=>
  refine .inl ⟨f.todo,f'.todo,[],[],.mk (by simp) (by simp) h.todo (.inl ⟨rfl,rfl,h,hl⟩) λE1 z z' s hz=>?_⟩;have:=h.mono s;rw[List.append_nil,List.append_nil];exact .cons ⟨this.fn,this.body,this.kind,this.kind',this.round,this.tmps,hz,this.defers,this.mode,this.hol,this.rd⟩ (hl.mono s)
 |bot h=>
  have ht:=h.todo;generalize e1:f.todo=y at ht;generalize e2:f'.todo=x at ht;cases ht with
  |code MI hi=>
   refine .inl ⟨_,_,_,cs.k,.mk e1 e2 hi (.inr ⟨rfl,rfl,h⟩) λE1 z z' s hz=>.bot ?_⟩;have:=h.mono s;exact{ this with todo:=.code MI hz }
  |ops is hr=>grind
theorem Jz.same{g g':JF}{L:Option Nat}{w w':JE}(hw:WT C (okP C S) E L w w')(hg:GR C S E cs g g'):Jz C S E cs L w w' (.go g w) (.go g' w'):=
 .good hw (.refl ..) hg λe he=>by simp at he
theorem Qr{f f':Frame}{l l':List Frame}(h:StR C S E cs (f::l) (f'::l')) :
  GR C S E cs { frame:=f,callers:=l,status:=.running,dying:=none } { frame:=f',callers:=l',status:=.running,dying:=none }:=⟨h,rfl,rfl,rfl,rfl,rfl⟩
def Jz.Jq5{L:Option Nat}{w w' w2 Bv:JE}{r r':GStep}(h:Jz C S E cs L w2 Bv r r')(hg:Grow C E E w w' w2 Bv)(hold:∀b,C.Sh b->b<w.heap.size):Jz C S E cs L w w' r r':=by
 rcases h with h|h|⟨g1,w1,es,h1,h2,h3,h4⟩
 .exact .inl h
 .exact .inr (.inl h)
 .refine .inr (.inr ⟨g1,w1,es,h1,h2,h3,?_⟩);rcases h4 with hb|⟨E1,O6,Am,AU,k1,k2,k3,k4,k5⟩
  .exact .inl hb
  .exact .inr ⟨E1,O6,Am,AU,k1,k2,hg.trans hold k3,k4,k5⟩
def of_run{α α':Type}{s:Sem α}{s':Sem α'}{R:J5->α->α'->Prop}{L:Option Nat}{w w':JE}(hw:WT C (okP C S) E L w w')(hs:J3 C (okP C S) E s s' R){fn PL:JG}
  {f:Result α->GStep} {f':Result α'->GStep}
  (hok:∀E1 a a' w1 Am,Sub E E1->R E1 a a'->WT C (okP C S) E1 L w1 Am->Jz C S E1 cs L w1 Am (f (.ok a w1)) (f' (.ok a' Am)))
  (Jkp:∀E1 v v' w1 Am,Sub E E1->VR C E1 v v'->WT C (okP C S) E1 L w1 Am->Jz C S E1 cs L w1 Am (f (.halt (.panic v) w1)) (f' (.halt (.panic v') Am)))
  (hh:∀x w1,Dead x->∃o w es,f (.halt x w1)=.ended o w es)
  (hm:∀r g1 w1 es,f' r=.go g1 w1 es->g1.dying=none->r.left.drawn<=w1.drawn) :
  Jz C S E cs L w w' (GStep.after (seen C.P fn (s.runT C.P w #[]).2) (f (s.runT C.P w #[]).1)) (GStep.after (seen C.P PL (s'.runT C.P w' #[]).2) (f' (s'.runT C.P w' #[]).1)):=by
 rcases hs L w w' hw with⟨lim,hL,ho⟩|h
 .refine .inl ⟨lim,hL,λg1 w1 es hgo hd=>?_⟩
  grind[Yl,Sem.runT_eq,Nat.lt_of_lt_of_le]
 simp only[Sem.runT_eq];have fin:∀(E1:J5)(w2 Bv:JE)(r r':GStep)(es:Array Event),Grow C E E1 w w' w2 Bv->Jz C S E1 cs L w2 Bv r r'->(∀e∈s'.events C.P w' #[],Lc C E1 e) ->
   Jz C S E cs L w w' (GStep.after es r) (GStep.after (seen C.P PL (#[]++s'.events C.P w' #[])) r'):=by
  intro E1 w2 Bv r r' es AX EJ Fq;rcases EJ with⟨lim,hL,ho⟩|⟨o,w1,es1,rfl⟩|⟨g1,w1,es1,rfl,h2,h3,h4⟩
  .refine .inl ⟨lim,hL,λg1 w1 es hgo hd=>?_⟩
   grind[Yl]
  .exact .G7
  .refine .inr (.inr ⟨g1,w1,es++es1,rfl,h2,h3,?_⟩);rcases h4 with hb|⟨E2,O6,Am,AU,k1,k2,k3,k4,k5⟩
   .exact .inl hb
   .refine .inr ⟨E2,O6,Am,seen C.P PL (#[]++s'.events C.P w' #[])++AU,by rw[k1];rfl,k2,AX.trans hw.old k3,k4,λe he=>?_⟩;rcases Array.mem_append.1 he with he|he
    .have:=VW he;rw[Array.empty_append]at this;exact(Fq e this).mono k3.sub
    grind
 simp only[Array.empty_append]at fin ⊢;cases hr:s.run C.P w with
 |ok a w2=>
  rw[hr]at h;obtain⟨E1,a',Bv,e1,e2,e3,e4,e5⟩:=h;rw[e1];exact fin E1 w2 Bv _ _ _ e3 (hok E1 a a' w2 Bv e3.sub e4 e2) e5
 |halt x w2=>
  rw[hr]at h;cases x with
  |panic v=>
   obtain⟨E1,v',Bv,e1,e2,e3,e4,e5⟩:=h;rw[e1];exact fin E1 w2 Bv _ _ _ e3 (Jkp E1 v v' w2 Bv e3.sub e4 e2) e5
  |_=>
   obtain⟨o,w3,es3,e⟩:=hh _ w2 h;rw[e];exact .G7
def J80{P:Program}{main:Bool}{fr:Frame}{callers:List Frame}{v:JJ}{w w1:JE}{g1:JF}{es:Array Event}(h:doReturn P main fr callers none v w=.go g1 w1 es):w1=w:=by
 unfold doReturn at h
 grind
def Jq6{f f':Frame}{l l':List Frame}{main main':Bool}{L:Option Nat}{w w':JE}(hw:WT C (okP C S) E L w w')(h:Mc C S E cs f l f' l')(hm:f.mode=.run)(j:Option Code)
  (hj:∀c,j=some c->UA c=true) (k':f.roundOf=none->l=[]->f'.roundOf=none) :
  Jz C S E cs L w w' (Qn C.P main f l none w j) (Qn C.P main' f' l' none w' j):=by
 unfold Qn;have hr:=h.round;cases EU:f.roundOf with
 |none=>
  rw[EU]at hr;have UY:f'.roundOf=none:=by cases e:f'.roundOf<;>rw[e]at hr<;>first|rfl|exact hr.elim
  rw[UY]
  dsimp only
  have fin:Jz C S E cs L w w' (.go { frame:={ f with mode:=.returning },callers:=l,status:=.running,dying:=none } w) (.go { frame:={ f' with mode:=.returning },callers:=l',status:=.running,dying:=none } w'):=by
   cases h with
   |fr h hl=>exact Jz.same hw (Qr (.cons (h.nS .returning) hl))
   |bot h=>
    exact .inr (.inr ⟨_,_,_,rfl,rfl,rfl,.inr ⟨E,_,_,_,rfl,hw,.refl ..,.inr ⟨rfl,rfl,h.fn,rfl,rfl,h.tmps,h.defers,rfl,rfl,rfl,rfl,rfl,h.kind2,h.dfr,h.round',h.fn2,h.hold⟩,λe he=>by simp at he⟩⟩)
  rw[EU,UY]at fin;split
  all_goals simp_all[if_true,DY,if_false,Jz.G7]
 |some lp=>
  rw[EU]at hr;obtain⟨Tj,UY,jB⟩:∃Tj,f'.roundOf=some Tj/\E lp Tj:=by
   cases e:f'.roundOf<;>rw[e]at hr
   .exact hr.elim
   .exact⟨_,rfl,hr⟩
  rw[UY]
  dsimp only
  cases h with
  |bot h=>rw[h.round]at EU;cases EU
  |fr h hl=>
   refine of_run (f:=λr=>match r with| .ok v w=>doReturn C.P main f l none v w | .halt _ w=>.ended (.stuck "range over a function: no such loop" (f.pos C.P)) w)
    (f':=λr=>match r with| .ok v w=>doReturn C.P main' f' l' none v w | .halt _ w=>.ended (.stuck "range over a function: no such loop" (f'.pos C.P)) w) hw (J3.endRound jB j hj) ?_ ?_ ?_ ?_
   .intro E1 v v' w1 Am s hv BQ;obtain⟨c,l1,c',l1',e1,e2,e3⟩:=J9r (hl.mono s) h.kind (fr:=f) (fr':=f') rfl h.kind' hv
    grind[Jz.same,Qr]
   .grind[Jz.G7]
   .grind
   .intro r g1 w1 es h _;cases r with
    |ok v w=>rw[J80 h];exact Ad _
    |halt x w=>cases h
end
section
variable{P:Program}{main:Bool}{fr:Frame}{callers:List Frame}{dying:Option Dying}{w:JE}
def toG(fr:Frame)(callers:List Frame)(dying:Option Dying)(w:JE)(todo:List Item):GStep:=.go { frame:={ fr with todo },callers,status:=.running,dying } w
theorem Jgv{k}(h:fr.todo=.code .skip::k):stepG.exec P main true fr callers dying w=toG fr callers dying w k:=by obtain⟨fn,tmps,todo,defers,mode,kind,ro⟩:=fr;obtain rfl:todo=_:=h;rfl
theorem Jdn{l k}(h:fr.todo=.code (.label l)::k):stepG.exec P main true fr callers dying w=toG fr callers dying w k:=by obtain⟨fn,tmps,todo,defers,mode,kind,ro⟩:=fr;obtain rfl:todo=_:=h;rfl
theorem J9t{l k}(h:fr.todo=.inBlock l::k):stepG.exec P main true fr callers dying w=toG fr callers dying w k:=by obtain⟨fn,tmps,todo,defers,mode,kind,ro⟩:=fr;obtain rfl:todo=_:=h;rfl
theorem J9u{l k}(h:fr.todo=.inScope l::k):stepG.exec P main true fr callers dying w=toG fr callers dying w k:=by obtain⟨fn,tmps,todo,defers,mode,kind,ro⟩:=fr;obtain rfl:todo=_:=h;rfl
def Jjb{a b k}(h:fr.todo=.code (.seq a b)::k):stepG.exec P main true fr callers dying w=toG fr callers dying w (.code a::.code b::k):=by obtain⟨fn,tmps,todo,defers,mode,kind,ro⟩:=fr;obtain rfl:todo=_:=h;rfl
def Jdo{i b k}(h:fr.todo=.code (.block i b)::k):stepG.exec P main true fr callers dying w=toG fr callers dying w (.code b::.inBlock i::k):=by obtain⟨fn,tmps,todo,defers,mode,kind,ro⟩:=fr;obtain rfl:todo=_:=h;rfl
def Jgw{b k}(h:fr.todo=.code (.loop b)::k):stepG.exec P main true fr callers dying w=toG fr callers dying w (.code b::.inLoop b::k):=by obtain⟨fn,tmps,todo,defers,mode,kind,ro⟩:=fr;obtain rfl:todo=_:=h;rfl
def Jcc{b k}(h:fr.todo=.inLoop b::k):stepG.exec P main true fr callers dying w=toG fr callers dying w (.code b::.inLoop b::k):=by obtain⟨fn,tmps,todo,defers,mode,kind,ro⟩:=fr;obtain rfl:todo=_:=h;rfl
def Jdp{b k}(h:fr.todo=.code (.scope b)::k):stepG.exec P main true fr callers dying w=toG fr callers dying w (.code b::.inScope b::k):=by obtain⟨fn,tmps,todo,defers,mode,kind,ro⟩:=fr;obtain rfl:todo=_:=h;rfl
theorem mP{ops k}(h:fr.todo=.inRegion ops []::k):stepG.exec P main true fr callers dying w=toG fr callers dying w k:=by obtain⟨fn,tmps,todo,defers,mode,kind,ro⟩:=fr;obtain rfl:todo=_:=h;rfl
def Jgx{c a b k}(h:fr.todo=.code (.cond c a b)::k):stepG.exec P main true fr callers dying w =
  match fr.eval c with
  |.bool x=>toG fr callers dying w (.code (if x then a else b)::k)
  |_=>.ended (.stuck "cond: bool expected" (fr.pos P)) w:=by
 obtain⟨fn,tmps,todo,defers,mode,kind,ro⟩:=fr;obtain rfl:todo=_:=h;rfl
def Jcd{id ops d k}(h:fr.todo=.code (.region id ops d)::k):stepG.exec P main true fr callers dying w =
  if !d then toG fr callers dying w (.inRegion ops (List.range ops.size)::k)
  else match(choose (.order fr.fn id)).run P w with
   |.ok t w=>toG fr callers dying w (.inRegion ops (Region.schedule (P.follows .mixedOrders) ops t)::k)
   |.halt _ w=>.ended (.stuck "order" (fr.pos P)) w:=by
 obtain⟨fn,tmps,todo,defers,mode,kind,ro⟩:=fr;obtain rfl:todo=_:=h;cases d<;>rfl
def ZX{y k}(h:fr.todo=.code (.refuse y)::k):stepG.exec P main true fr callers dying w=.ended (.unsupported (Unsupported.elab y) (fr.pos P)) w:=by obtain⟨fn,tmps,todo,defers,mode,kind,ro⟩:=fr;obtain rfl:todo=_:=h;rfl
theorem Jcq {l k} (h:fr.todo=.inRangeFunc l::k):stepG.exec P main true fr callers dying w=.ended (.unsupported (.noEntry "a range function without a Go body that blocks") (fr.pos P)) w:=by obtain⟨fn,tmps,todo,defers,mode,kind,ro⟩:=fr;obtain rfl:todo=_:=h;rfl
def Jls{ops i r k}(h:fr.todo=.inRegion ops (i::r)::k):stepG.exec P main true fr callers dying w =
  if((ops[i]?).map (Region.wanted · (yielded ops fr.tmps))).getD false then stepG.oper P true fr callers dying w else .go { frame:=fr.finish JA,callers,status:=.running,dying } w:=by
 obtain⟨fn,tmps,todo,defers,mode,kind,ro⟩:=fr;obtain rfl:todo=_:=h;rfl
def J79{k}(h:fr.todo=.beginRound::k):stepG.exec P main true fr callers dying w =
  stepG.apply P true fr callers dying (do fr.roundOf.elim (stuck "beginRound: no round") Instr.beginRound;pure .skip) w:=by
 obtain⟨fn,tmps,todo,defers,mode,kind,ro⟩:=fr;obtain rfl:todo=_:=h;rfl
def J6h{l k}(h:fr.todo=.endRangeFunc l::k):stepG.exec P main true fr callers dying w =
  GStep.after (seen P fr.fn ((Instr.endLoop l).runT P w #[]).2) (match((Instr.endLoop l).runT P w #[]).1 with
   |.ok jump w=>toG fr callers dying w ((jump.map Item.code).toList++k)
   |.halt (.panic v) w=>.go { frame:=fr.raise [{ v,recovered:=false }],callers,status:=.running,dying } w
   |.halt _ w=>.ended (.stuck "range over a function: no such loop" (fr.pos P)) w):=by
 obtain⟨fn,tmps,todo,defers,mode,kind,ro⟩:=fr;obtain rfl:todo=_:=h;rfl
def J81{f ps aS bd k}(h:fr.todo=.code (.rangeFunc f ps aS bd)::k):stepG.exec P main true fr callers dying w =
  GStep.after (seen P fr.fn ((Instr.enterLoop fr.fn fr.tmps ps aS bd fr.roundOf).runT P w #[]).2) (match((Instr.enterLoop fr.fn fr.tmps ps aS bd fr.roundOf).runT P w #[]).1 with
   |.ok (l,mark) w=>
    stepG.apply P true { fr with todo:=.inRangeFunc l::k,defers:=mark++fr.defers } callers dying (do let d <- resolve fr.eval { callee:=.value f,args:=#[.const (.func (.yield l) #[] #[])],argTypes:=#[] } 0;invoke d.target d.args) w
   |.halt _ w=>.ended (.stuck "range over a function: no such loop" (fr.pos P)) w):=by
 obtain⟨fn,tmps,todo,defers,mode,kind,ro⟩:=fr;obtain rfl:todo=_:=h;rfl
def nU{ops i r k o}(h:fr.todo=.inRegion ops (i::r)::k)(ho:ops[i]?=some o)(hd:(∀c,o.op≠.defer c)\/fr.roundOf=none) :
  stepG.oper P true fr callers dying w=stepG.apply P true fr callers dying (execOp fr.eval o) w:=by
 obtain⟨fn,tmps,todo,defers,mode,kind,ro⟩:=fr;obtain rfl:todo=_:=h;unfold stepG.oper;have e:Frame.oper? { fn,tmps,todo:=.inRegion ops (i::r)::k,defers,mode,kind,roundOf:=ro }=some o:=ho
 grind
end
section
variable{C:Cx}{S:Kn}{E:J5}{cs:Bot}
def Jq7{fn:JG}{ops:Array Oper}{i:Nat}{o:Oper}(ho:ops[i]?=some o)(hr:okD C fn ops i=true){t t':JC}(ht:TmR C S fn E t t'):Region.wanted o (yielded ops t')=Region.wanted o (yielded ops t):=by
 unfold okD at hr;rw[ho]at hr;simp only[Bh]at hr;have hr:=hr.2;unfold Region.wanted;cases hg:o.guard with
 |none=>rfl
 |some p=>
  obtain⟨j,want⟩:=p;rw[hg]at hr;simp only at hr ⊢
  suffices h:yielded ops t' j=yielded ops t j by rw[h]
  unfold yielded;cases hj:ops[j]? with
  |none=>rfl
  |some o=>
   rw[hj]at hr;cases hd:o.dst with
   |none=>simp[hd]
   |some d=>
    have hol:(C.hl fn).contains d=false:=by
     unfold dD at hr
     grind
    simp only[Option.bind_some,hd];cases h1:t[d]? with
    |none=>
     have:t'[d]?=none:=by rw[PE]at *;rw[<- ht.size];exact h1
     rw[this]
    |some x=>
     have Ac:d<t'.size:=by rw[<- ht.size];grind
     have h2:t'[d]?=some t'[d]:=Bz Ac;have hv:=ht.at_ d x _ hol h1 h2;rw[h2];generalize t'[d]=y at hv;cases hv<;>rfl
def J82{fn:JG}{o:Op}(h:Ia C S fn o=true)(c:Call):o≠.defer c:=by rintro rfl;cases h
def Hnd.of_sub{E1:J5}(h:Hnd C E)(s:Sub E E1):Hnd C E1:=h.mono s
theorem Jl1{f f':Frame}{l l':List Frame}{s s':Sem Next}{L:Option Nat}{w w':JE}(hw:WT C (okP C S) E L w w')
  (hs:J3 C (okP C S) E s s' (λE1 n n'=>(∃d d',n=.defer d/\n'=.defer d'/\Wy C E1 d d')\/(n=.recover/\n'=.recover)))
  (h:FrR C S E f f') (hl:Ic C S E cs f.kind l l') (EU:f.roundOf=none) (Aw:S.own f.fn=[]) :
  Jz C S E cs L w w' (stepG.apply C.P true f l none s w) (stepG.apply C.P true f' l' none s' w'):=by
 have ho:∀v,Yw C S f v:=λv ops i r k d _ _ h=>by grind
 have UY:f'.roundOf=none:=by
  have:=h.round;rw[EU]at this;cases e:f'.roundOf<;>rw[e]at this<;>first|rfl|exact this.elim
 rcases hs L w w' hw with⟨lim,hL,hv⟩|hh
 .exact .inl ⟨lim,hL,λg1 w1 es hgo hd=>DX hv (J8o hgo hd)⟩
 unfold stepG.apply;simp only[Sem.runT_eq,if_true];cases hr:s.run C.P w with
 |ok n w2=>
  rw[hr]at hh;obtain⟨E1,n',Bv,e1,e2,e3,e4,e6⟩:=hh;rw[e1];have Eh:∀e,e∈(seen C.P f'.fn (if f'.kind == .early then #[]else s'.events C.P w' #[])++#[])->Lc C E1 e:=λe he=>by
   grind[VW]
  have hm:=h.mono e3.sub;have X3:=hl.mono e3.sub;rcases e4 with⟨d,d',rfl,rfl,hd⟩|⟨rfl,rfl⟩
  .refine .good e2 e3 ⟨.cons (FrR.finish (fr:={ f with defers:=d::f.defers }) (fr':={ f' with defers:=d'::f'.defers }) ?_ .undef (ho _)) ?_,rfl,rfl,rfl,rfl,rfl⟩ Eh
   .exact⟨hm.fn,hm.body,hm.kind,hm.kind',hm.round,hm.tmps,hm.todo,.cons hd hm.defers,hm.mode,hm.hol,hm.rd⟩
   grind[Frame.ZW]
  .dsimp only
   rw[EU,UY]
   dsimp only
   rcases Jfu hm X3 with⟨k1,k2⟩|⟨v,v',m,m',k1,k2,k3,k4⟩
   .rw[k1,k2];exact .good e2 e3 ⟨.cons (hm.finish .nilIface (ho _)) (by grind[Frame.ZW]),rfl,rfl,rfl,rfl,rfl⟩ Eh
   .rw[k1,k2];exact .good e2 e3 ⟨.cons (hm.finish k3 (ho _)) (by grind[Frame.ZW]),rfl,rfl,rfl,rfl,rfl⟩ Eh
 |halt x w2=>
  rw[hr]at hh;cases x with
  |panic v=>
   obtain⟨E1,v',Bv,e1,e2,e3,e4,e6⟩:=hh;rw[e1];refine .good e2 e3 ⟨.cons ((h.mono e3.sub).raise (.cons false false e4 .nil)) (by rw[Frame.J8p];exact hl.mono e3.sub),rfl,rfl,rfl,rfl,rfl⟩ λe he=>?_
   grind[VW]
  |goexit=>simp_all
  |blocked=>simp_all
  |waiting=>simp_all
  |exit c=>exact .G7
  |fatal m=>simp_all
  |throw m=>simp_all
  |stuck s=>exact .G7
  |unsupported u=>
   cases u with
   |initOrder g=>simp_all
   |_=>exact .G7
theorem Jq8(A:FM C S)(hh:Hnd C E)(hg:∀g,S.gs.contains g=true->E g g){f f':Frame}{l l':List Frame}{L:Option Nat}{w w':JE}(hw:WT C (okP C S) E L w w')(h:Mc C S E cs f l f' l')
  {ops:Array Oper} {i:Nat} {r r':List Nat} {k k':List Item} (h1:f.todo=.inRegion ops (i::r)::k) (h2:f'.todo=.inRegion ops (i::r')::k') (hr:IC C S f.fn ops (i::r)=true) {main main':Bool} :
  Jz C S E cs L w w' (stepG.exec C.P main true f l none w) (stepG.exec C.P main' true f' l' none w'):=by
 rw[Jls h1,Jls h2];cases ho:ops[i]? with
 |none=>
  simp only[Option.map_none,Option.getD_none,DY,if_false];refine Jz.same hw (Qr (h.st.finish .undef (λ_ _ _ _ _ _ _ _=>Kw.undef) (.inl ⟨_,_,_,_,h1⟩)))
 |some o=>
  simp only[Option.map_some,A8,Jq7 ho (Jcp hr) h.tmps];by_cases lF:Region.wanted o (yielded ops f.tmps)=true
  .simp only[lF,if_true];have Fq:EvR C S f.fn E f.eval f'.eval:=EvR.Jmz h.tmps hg;rcases Jxz hr ho with hk|hk
   .have DI:Ia C S f.fn o.op=true:=by simp only[Y0,Bh]at hk;exact hk.1
    rw[nU h1 ho (.inl (J82 DI)),nU h2 ho (.inl (J82 DI))];have key:∀v,(dA C S f.fn o (.value v)\/v=JA)->Yw C S f v:=by
     intro v hv Rl i' r'' k'' d e1 e2 e3;rw[h1]at e1;cases e1;rw[ho]at e2;rcases hv with hv|rfl
     .obtain⟨v',OV,Iw⟩:=hv d e2 e3
      grind
     .exact Kw.undef
    refine J9q A hw (J3.execOp' A.kn hh Fq o hk) (λd r v k e=>by grind) (λd r v k e=>by grind) h.st ?_ ?_ ?_
    .intro n hq hn;refine⟨λRl i' r'' k'' d e1 e2=>?_,.inl ⟨_,_,_,_,h1⟩⟩;rw[h1]at e1;cases e1;rw[ho]at e2;cases hc:(S.own f.fn).contains d with
     |false=>rfl
     |true=>
      obtain⟨v,rfl,_⟩:=hq d e2 hc
      grind
    .exactλE1 v v' s hv hq=>(h.st.mono s).finish hv (key v hq) (.inl ⟨_,_,_,_,h1⟩)
    .exactλE1 c c' s hc=>(h.st.mono s).raise hc
   .have D6:=hk;simp only[Yu,Bh]at hk;have Aw:S.own f.fn=[]:=by grind
    cases h with
    |bot h=>rw[h.Jkf]at hk;simp at hk
    |fr h hl=>
     have EU:f.roundOf=none:=by
      cases e:f.roundOf with
      |none=>rfl
      |some x=>have:=h.rd (by rw[e];simp);grind
     have UY:f'.roundOf=none:=by
      have:=h.round;rw[EU]at this;cases e:f'.roundOf<;>rw[e]at this<;>first|rfl|exact this.elim
     rw[nU h1 ho (.inr EU),nU h2 ho (.inr UY)]
     grind[Jl1,J3.Jq3]
  .simp only[lF,if_false,DY];exact Jz.same hw (Qr (h.st.finish .undef (λ_ _ _ _ _ _ _ _=>Kw.undef) (.inl ⟨_,_,_,_,h1⟩)))
end
section
variable{C:Cx}{S:Kn}{E:J5}{cs:Bot}
theorem Jhh(A:FM C S)(hh:Hnd C E)(hg:∀g,S.gs.contains g=true->E g g){f f':Frame}{l l':List Frame}{L:Option Nat}{w w':JE}(hw:WT C (okP C S) E L w w')(h:FrR C S E f f')
  (hl:Ic C S E cs f.kind l l') {x:Operand} {ps:Array Tmp} {aS bd:Code} {k k':List Item} (h1:f.todo=.code (.rangeFunc x ps aS bd)::k) (h2:f'.todo=.code (.rangeFunc x ps aS bd)::k')
  (hk:GZ C S f.fn E k k') (hc:Ji C S f.fn (.rangeFunc x ps aS bd)=true) {main main':Bool} :
  Jz C S E cs L w w' (stepG.exec C.P main true f l none w) (stepG.exec C.P main' true f' l' none w'):=by
 simp only[Ji,Bh,Bool.not_eq_true',List.isEmpty_iff]at hc;obtain⟨⟨⟨⟨⟨⟨c1,c2⟩,c3⟩,c4⟩,c5⟩,c6⟩,c7⟩:=hc;have Oc:=h.fn;have CB:AR C E f.tmps f'.tmps:=⟨h.tmps.size,λi x x' a b=>h.tmps.at_ i x x' (by rw[c5];rfl) a b⟩;have CB:=CB.hr (fn:=f.fn);have IU:Yv C f.fn:=h.hol;have Jlg:J3 C (okP C S) E (Instr.enterLoop f.fn f.tmps ps aS bd f.roundOf) (Instr.enterLoop f'.fn f'.tmps ps aS bd f'.roundOf) (λE1 x x'=>E1 x.1 x'.1/\Fe C E1 x.2 x'.2):=by rw[Oc];exact J3.enterLoop hh f.fn CB ps ⟨c2,c4,IU,h.body,c6⟩ ⟨c3,c4,IU,h.body,c6⟩ c7 h.round
 rw[J81 h1,J81 h2];refine of_run (f:=λr=>match r with
   |.ok (lp,mark) w=>
    stepG.apply C.P true { f with todo:=.inRangeFunc lp::k,defers:=mark++f.defers } l none (do let d <- resolve f.eval { callee:=.value x,args:=#[.const (.func (.yield lp) #[] #[])],argTypes:=#[] } 0;invoke d.target d.args) w
   |.halt _ w=>.ended (.stuck "range over a function: no such loop" (f.pos C.P)) w)
  (f':=λr=>match r with
   |.ok (lp,mark) w=>
    stepG.apply C.P true { f' with todo:=.inRangeFunc lp::k',defers:=mark++f'.defers } l' none (do let d <- resolve f'.eval { callee:=.value x,args:=#[.const (.func (.yield lp) #[] #[])],argTypes:=#[] } 0;invoke d.target d.args) w
   |.halt _ w=>.ended (.stuck "range over a function: no such loop" (f'.pos C.P)) w) hw Jlg ?_ ?_ ?_ ?_
 .rintro E1 ⟨lp,m⟩ ⟨Tj,m'⟩ w1 Am s ⟨jB,hm⟩ BQ
  dsimp only at jB hm ⊢
  have Fq:EvR C S f.fn E1 f.eval f'.eval:=EvR.Jmz (h.tmps.mono s) λg hx=>s _ _ (hg g hx);have hx:=Fq.at_ x c1;have hM:=h.mono s;have hF:FrR C S E1 { f with todo:=.inRangeFunc lp::k,defers:=m++f.defers } { f' with todo:=.inRangeFunc Tj::k',defers:=m'++f'.defers }:=
   ⟨hM.fn,hM.body,hM.kind,hM.kind',hM.round,hM.tmps,.cons (.inRangeFunc jB) (hk.mono s),hm.append hM.defers,hM.mode,hM.hol,hM.rd⟩
  have Ae:StR C S E1 cs ({ f with todo:=.inRangeFunc lp::k,defers:=m++f.defers }::l) ({ f' with todo:=.inRangeFunc Tj::k',defers:=m'++f'.defers }::l'):=.cons hF (hl.mono s);have hs:J3 C (okP C S) E1 (do let d <- resolve f.eval { callee:=.value x,args:=#[.const (.func (.yield lp) #[] #[])],argTypes:=#[] } 0;invoke d.target d.args)
    (do let d <- resolve f'.eval { callee:=.value x,args:=#[.const (.func (.yield Tj) #[] #[])],argTypes:=#[] } 0;invoke d.target d.args) (λE1 n n'=>Ib C (okP C S) S E1 n n'/\True):=by
   have e:∀(fr:Frame) lp,resolve fr.eval { callee:=.value x,args:=#[.const (.func (.yield lp) #[] #[])],argTypes:=#[] } 0=Deferred.ofValue (fr.eval x) #[.func (.yield lp) #[] #[]]:=λfr lp=>by simp[resolve,Frame.eval]
   rw[e,e];have:=J3.invoked (ok:=okP C S) A.kn (hh.of_sub s) hx (a:=#[.func (.yield lp) #[] #[]]) (a':=#[.func (.yield Tj) #[] #[]]) (AR.one (.func (.yield jB) rfl (λi x x' h=>by simp at h) ⟨rfl,by simp⟩ (λi x x' h=>by simp at h))) (by simp)
   grind
  refine J9q (Q:=λ_=>True) A BQ hs (λd r v k e=>by simp at e) (λd r v k e=>by simp at e) Ae ?_ ?_ ?_
  .intro n _ _;refine⟨λRl i' r'' k'' d e1 e2=>?_,.inr ⟨_,_,rfl⟩⟩;simp at e1
  .exactλE2 v v' s2 hv _=>(Ae.mono s2).finish hv (λRl i' r'' k'' d e1 e2=>by simp at e1) (.inr (.inl ⟨_,_,rfl⟩))
  .exactλE2 c c' s2 hc=>(Ae.mono s2).raise hc
 .grind[Jz.G7]
 .grind
 .intro r g1 w1 es h hd;cases r with
  |ok v w=>exact BN (IZ C.P _ _) (J8o h hd)
  |halt x w=>cases h
def Jq9{c:Code}(h:UA c=true){fn:JG}:Ji C S fn c=true:=by
 cases c<;>first|rfl|cases h
def toItems{fn:JG}{j:Option Code}(hj:∀c,j=some c->UA c=true){k k':List Item}(hk:GZ C S fn E k k'):GZ C S fn E ((j.map Item.code).toList++k) ((j.map Item.code).toList++k'):=by
 cases j with
 |none=>exact hk
 |some c=>exact .cons (.code (Jq9 (hj c rfl))) hk
def Jtc(A:FM C S)(hh:Hnd C E)(hg:∀g,S.gs.contains g=true->E g g){f f':Frame}{l l':List Frame}{L:Option Nat}{w w':JE}(hw:WT C (okP C S) E L w w')(h:Mc C S E cs f l f' l')
  (hm:f.mode=.run) (nd:¬(l=[]/\(f.todo=[Js]\/∃ops,f.todo=[.inRegion ops [],Js]))) {main main':Bool} :
  Jz C S E cs L w w' (stepG.exec C.P main true f l none w) (stepG.exec C.P main' true f' l' none w'):=by
 rcases h.part with⟨y,y',s0,k,hp⟩|⟨ops,is,rest,k,h1,h2,hr,hb,hl,FH⟩
 .obtain⟨h1,h2,hi,hk,re⟩:=hp;have to:∀z z',GZ C S f.fn E z z'->Jz C S E cs L w w' (toG f l none w (z++s0)) (toG f' l' none w' (z'++k)):=λz z' hz=>
   Jz.same hw (Qr (re E z z' (.refl E) hz))
  have leave:∀j,(∀c,j=some c->UA c=true)->Jz C S E cs L w w' (Qn C.P main f l none w j) (Qn C.P main' f' l' none w' j):=λj hj=>by
   refine Jq6 hw h hm j hj λe _=>?_;have:=h.round;rw[e]at this;cases e:f'.roundOf<;>rw[e]at this<;>first|rfl|exact this.elim
  cases hi with
  |nil=>
   rcases hk with⟨rfl,rfl,hF,hL⟩|⟨rfl,rfl,hB⟩
   .grind[Jj9]
   grind
  |@cons x x' z z' hx hz=>
   rw[G9]at h1 h2;cases hx with
   |inBlock id=>grind[J9t]
   |inScope hc=>grind[J9u]
   |inLoop hc=>rw[Jcc h1,Jcc h2];exact to (.code _::.inLoop _::_) (.code _::.inLoop _::_) (.cons (.code hc) (.cons (.inLoop hc) hz))
   |inRegion is hr=>
    cases is with
    |nil=>grind[mP]
    |cons i r=>grind[Jq8]
   |inRangeFunc he=>grind[Jcq,Jz.G7]
   |@endRangeFunc lp Tj he=>
    rw[J6h h1,J6h h2];refine of_run (f:=λr=>match r with
      |.ok jump w=>toG f l none w ((jump.map Item.code).toList++(z++s0))
      |.halt (.panic v) w=>.go { frame:=f.raise [{ v,recovered:=false }],callers:=l,status:=.running,dying:=none } w
      |.halt _ w=>.ended (.stuck "range over a function: no such loop" (f.pos C.P)) w)
     (f':=λr=>match r with
      |.ok jump w=>toG f' l' none w ((jump.map Item.code).toList++(z'++k))
      |.halt (.panic v) w=>.go { frame:=f'.raise [{ v,recovered:=false }],callers:=l',status:=.running,dying:=none } w
      |.halt _ w=>.ended (.stuck "range over a function: no such loop" (f'.pos C.P)) w) hw (J3.endLoop hh he) ?_ ?_ ?_ ?_
    .rintro E1 j j' w1 Am s ⟨rfl,hj⟩ BQ
     dsimp only
     rw[<- List.append_assoc,<- List.append_assoc];exact Jz.same BQ (Qr (re E1 _ _ s (toItems hj (hz.mono s))))
    .intro E1 v v' w1 Am s hv BQ
     dsimp only
     rcases(h.st.mono s).raise (.cons false false hv .nil)with hA|hB
     .grind[Jz.same,Qr]
     .exact .bad hB rfl
    .simp_all
    .intro r g1 w1 es h _;cases r with
     |ok v w=>cases h;exact Ad _
     |halt x w=>cases x<;>first|(cases h;exact Ad _)|cases h
   |beginRound=>
    rw[J79 h1,J79 h2];have hs:J3 C (okP C S) E (do f.roundOf.elim (stuck "beginRound: no round") Instr.beginRound;pure .skip) (do f'.roundOf.elim (stuck "beginRound: no round") Instr.beginRound;pure .skip)
      (λE1 n n'=>Ib C (okP C S) S E1 n n'/\n=.skip):=by
     have hr:=h.round;cases e:f.roundOf with
     |none=>exact J3.bind' (R:=λ_ _ _=>False) (.stuck _) λ_ _ _ _ h=>h.elim
     |some lp=>
      rw[e]at hr;cases e':f'.roundOf with
      |none=>rw[e']at hr;exact hr.elim
      |some Tj=>
       rw[e']at hr;exact J3.bind' (J3.beginRound hh hr) λE1 s1 _ _ _=>.pure ⟨.skip,rfl⟩
    refine J9q (Q:=λn=>n=.skip) A hw hs (λd r v k e=>by grind) (λd r v k e=>by grind) h.st ?_ ?_ ?_
    .grind
    .exactλE1 v v' s hv _=>(h.st.mono s).finish hv (λops i r k d e=>by grind) (.inr (.inr ⟨_,h1⟩))
    .exactλE1 c c' s hc=>(h.st.mono s).raise hc
   |@code c hc=>
    cases c with
    |skip=>grind[Jgv]
    |label n=>grind[Jdn]
    |seq a b=>
     simp only[Ji,Bh]at hc;rw[Jjb h1,Jjb h2];exact to (.code _::.code _::_) (.code _::.code _::_) (.cons (.code hc.1) (.cons (.code hc.2) hz))
    |block id b=>rw[Jdo h1,Jdo h2];exact to (.code _::.inBlock _::_) (.code _::.inBlock _::_) (.cons (.code hc) (.cons (.inBlock id) hz))
    |loop b=>rw[Jgw h1,Jgw h2];exact to (.code _::.inLoop _::_) (.code _::.inLoop _::_) (.cons (.code hc) (.cons (.inLoop hc) hz))
    |scope b=>rw[Jdp h1,Jdp h2];exact to (.code _::.inScope _::_) (.code _::.inScope _::_) (.cons (.code hc) (.cons (.inScope hc) hz))
    |cond x a b=>
     simp only[Ji,Bh]at hc;rw[Jgx h1,Jgx h2];have Fq:EvR C S f.fn E f.eval f'.eval:=EvR.Jmz h.tmps hg;have hx:=Fq.at_ x hc.1.1;generalize f.eval x=v at hx;generalize f'.eval x=v' at hx;cases hx with
     |bool b'=>
      cases b'
      .exact to (.code _::_) (.code _::_) (.cons (.code hc.2) hz)
      .exact to (.code _::_) (.code _::_) (.cons (.code hc.1.2) hz)
     |_=>exact Jz.G7
    |region id ops d=>
     rw[Jcd h1,Jcd h2];cases d with
     |false=>exact to (.inRegion _ _::_) (.inRegion _ _::_) (.cons (.inRegion _ (Jlr hc _)) hz)
     |true=>
      simp only[Bool.not_true,DY,if_false];rw[h.fn,run_choose,run_choose,if_neg (by simp[Question.forced]),if_neg (by simp[Question.forced])]
      dsimp only
      by_cases hl:∀lim,L=some lim->w'.drawn<lim
      .have ht:=hw.tape 0 (λlim e=>hl lim e) (.order f.fn id);simp only[Nat.add_zero]at ht;rw[ht];refine(Jz.same (cs:=cs) (E:=E) ?_ (Qr (re E (.inRegion _ _::_) (.inRegion _ _::_) (.refl E) (.cons (.inRegion _ (Jlr hc _)) hz)))).Jq5 ?_ hw.old
       .refine⟨⟨hw.os,hw.dom,hw.fn,hw.inj,hw.old,hw.obj,hw.lid,hw.lsz,hw.glob⟩,λk hk q=>?_⟩;have:=hw.tape (k+1) (λlim e=>by grind) q
        grind
       .exact⟨.refl _,λ_ _ h=>.inl h,Ad _,Nat.add_comm _ _,λ_ _ _=>rfl,rfl,by grind,rfl,rfl,Nat.le_succ _⟩
      .simp only[Classical.not_forall,not_imp,Nat.not_lt]at hl;obtain⟨lim,e,Ac⟩:=hl;refine .inl ⟨lim,e,λg1 w1 es hgo _=>?_⟩;cases hgo
       grind
    |exit id=>
     rw[Jgt h1,Jgt h2];rcases Jmx id hz with⟨e1,e2⟩|⟨y,y',e1,e2,e3⟩
     .rw[e1,e2];rcases hk with⟨rfl,rfl,hF,hL⟩|⟨rfl,rfl,hB⟩
      .exact leave (some (.exit id)) λc h=>by cases h;rfl
      .unfold Qn;simp only[Js,exitTo,gotoIn,Option.elim_none,hB.round];exact Jz.G7
     .rw[e1,e3];exact to _ _ e2
    |goto n=>
     rw[Jgu h1,Jgu h2];rcases Jmy n hz with⟨e1,e2⟩|⟨y,y',e1,e2,e3⟩
     .rw[e1,e2];rcases hk with⟨rfl,rfl,hF,hL⟩|⟨rfl,rfl,hB⟩
      .exact leave (some (.goto n)) λc h=>by cases h;rfl
      .unfold Qn;simp only[Js,exitTo,gotoIn,Option.elim_none,hB.round];exact Jz.G7
     .rw[e1,e3];exact to _ _ e2
    |ret=>rw[Jja h1,Jja h2];exact leave (some .ret) λc h=>by cases h;rfl
    |refuse y=>rw[ZX h1];exact Jz.G7
    |rangeFunc x ps aS bd=>
     rcases hk with⟨rfl,rfl,hF,hL⟩|⟨rfl,rfl,hB⟩
     .grind[Jhh]
     .simp only[Ji,Bh,Bool.not_eq_true',List.isEmpty_iff]at hc;exact absurd hc.1.1.2 hB.Jkg
 .subst hl FH;cases is with
  |nil=>grind
  |cons i r=>grind[Jq8]
end
section
variable{C:Cx}{S:Kn}{E:J5}{cs:Bot}
def Jjc{ok:JG->Code->Prop}{α:Type}{f f':α->Sem JJ}:∀(l:List α)(E:J5),(∀x∈l,∀E1,Sub E E1->J3 C ok E1 (f x) (f' x) (VR C))->J3 C ok E (l.mapM f) (l.mapM f') (LR C)
 |[],E,_=>by simp only[List.mapM_nil];exact .pure .nil
 |x::l,E,h=>by simp only[List.mapM_cons];refine J3.bind' (h x (by simp) E (.refl E)) λE1 s1 a a' ha=>?_;refine J3.bind' (Jjc l E1 λx hx E2 s2=>h x (by simp[hx]) E2 (s1.trans s2)) λE2 s2 b b' hb=>?_;exact .pure (.cons (ha.mono s2) hb)
def J3.results{ok:JG->Code->Prop}(hh:Hnd C E)(fn:Func){t t':JC}(h:∀r∈fn.results,VR C E (t.getD (bG r) JA) (t'.getD (bG r) JA)):J3 C ok E (Go.results fn t) (Go.results fn t') (VR C):=by
 unfold Go.results;have key:J3 C ok E (fn.results.mapM (m:=Sem) λ| .tmp x=>Pure.pure (t.getD x JA) | .cell a ty=>do Go.loadVar ty (<- Go.asAddr (t.getD a JA)))
   (fn.results.mapM (m:=Sem) λ| .tmp x=>Pure.pure (t'.getD x JA) | .cell a ty=>do Go.loadVar ty (<- Go.asAddr (t'.getD a JA))) (λE1 a a'=>AR C E1 a a'):=by
  rw[Array.mapM_eq_mapM_toList,Array.mapM_eq_mapM_toList];refine(J3.map (Jjc _ _ λx hx E1 s1=>?_)).mono ?_
  .have hv:=h x (by grind);cases x with
   |tmp x=>exact .pure (hv.mono s1)
   |cell a ty=>exact J3.bind' (J3.asAddr (hh.mono s1) (hv.mono s1)) λE2 s2 b b' hb=>J3.loadVar ty hb
  .rintro E1 b b' _ ⟨x,x',hx,rfl,rfl⟩;exact hx.toArray
 refine J3.bind' key λE1 s1 a a' ha=>?_;have hz:=ha.size;by_cases h1:a.size=1
 .have h2:a'.size=1:=hz▸h1;simp only[h1,h2,dite_true];exact .pure (ha.at_ 0 _ _ (Bz (by omega)) (Bz (by omega)))
 .have h2:¬a'.size=1:=hz▸h1;simp only[h1,h2,dite_false];exact .pure (.U5 ha)
def J3.Jy0(K:P8 C S)(hh:Hnd C E){d d':Target}(h:U8 C E d d')(hc:∀r,d≠.collected r){a a':JC}(ha:AR C E a a')(hz:∀f c,d=.fn f c->a.size+c.size<=6) :
  J3 C (okP C S) E (Go.invoke d a) (Go.invoke d' a') (Ib C (okP C S) S):=by
 cases h with
 |collected h=>grind
 |nil=>exact J3.runtimePanic (α:=Next) (α':=Next) hh .nilDeref
 |fn hf Ui=>
  cases hf with
  |func hf=>exact J3.Jfs K hh hf (AR.append ha Ui) (by grind)
  |yield hl=>exact J3.yield hl ha
  |method hn=>exact J3.J9m K hh (Cx.oN hn) _ _ ha (by grind)
def FrR.Jgy{f f':Frame}(h:FrR C S E f f'){d d':List Deferred}(hd:Fe C E d d'):FrR C S E { f with defers:=d } { f' with defers:=d' }:=
 ⟨h.fn,h.body,h.kind,h.kind',h.round,h.tmps,h.todo,hd,h.mode,h.hol,h.rd⟩
def Jz.ite{c c':Prop}[Decidable c][Decidable c']{L:Option Nat}{w w' w1:JE}{o:Outcome}{es:Array Event}{x r r':GStep}(hc:c'->c)(h:Jz C S E cs L w w' r r') :
  Jz C S E cs L w w' (if c then .ended o w1 es else r) (if c' then x else r'):=by
 by_cases h1:c
 all_goals simp_all[if_pos,Jz.G7,if_neg]
def Jcr(A:FM C S)(hh:Hnd C E){f f':Frame}{l l':List Frame}{L:Option Nat}{w w':JE}(hw:WT C (okP C S) E L w w')(h:FrR C S E f f')(hl:Ic C S E cs f.kind l l')
  {d d':Deferred} (hd:Wy C E d d') (hc:∀r,d.target≠.collected r):Jz C S E cs L w w' (callDeferred C.P f l none d w) (callDeferred C.P f' l' none d' w'):=by
 have hs:=J3.Jy0 A.kn hh hd.target hc hd.args hd.sz;rcases hs L w w' hw with⟨lim,hL,hv⟩|hx
 .exact .inl ⟨lim,hL,λg1 w1 es hgo hd=>DX hv (Jbu hgo hd)⟩
 unfold callDeferred;refine Jz.ite ?_ ?_
 .have h1:=hd.target;have h2:=h.mode;generalize d.target=t at h1;generalize d'.target=t' at h1;generalize f.mode=m at h2;generalize f'.mode=m' at h2;cases h1<;>cases h2<;>simp
 simp only[Sem.runT_eq];cases hr:(invoke d.target d.args).run C.P w with
 |ok n w2=>
  rw[hr]at hx;obtain⟨E1,n',Bv,e1,e2,e3,e4,e6⟩:=hx;rw[e1];have Eh:∀e,e∈(seen C.P f'.fn (#[]++(invoke d'.target d'.args).events C.P w' #[])++#[])->Lc C E1 e:=λe he=>by
   grind[VW]
  simp only[Array.empty_append]at Eh ⊢;have hm:=h.mono e3.sub;have X3:=hl.mono e3.sub;have low:Ic C S E1 cs .deferred (f::l) (f'::l'):=.cons hm (λx=>nomatch x) X3;cases e4 with
  |value hv=>
   exact .good e2 e3 ⟨.cons hm X3,rfl,rfl,rfl,rfl,rfl⟩ Eh
  |skip=>
   exact .good e2 e3 ⟨.cons hm X3,rfl,rfl,rfl,rfl,rfl⟩ Eh
  |enter ha hf=>
   have xI:=FrR.enter (k:=.deferred) (.inr rfl) (A.kn.cs _ hf.1) (A.free hf.1) (A.code _ · · hf.1) ha hf;exact .good e2 e3 ⟨.cons xI low,rfl,rfl,rfl,rfl,rfl⟩ Eh
  |round hl ht h1 h2=>
   exact .good e2 e3 ⟨.cons (FrR.Jj6 (k:=.deferred) (.inr rfl) hl ht h1 h2) low,rfl,rfl,rfl,rfl,rfl⟩ Eh
 |halt x w2=>
  rw[hr]at hx;cases x with
  |panic v=>
   obtain⟨E1,v',Bv,e1,e2,e3,e4,e6⟩:=hx;rw[e1];refine .good e2 e3 ⟨.cons ((h.mono e3.sub).raise (.cons false false e4 .nil)) (by rw[Frame.J8p];exact hl.mono e3.sub),rfl,rfl,rfl,rfl,rfl⟩ λe he=>?_
   grind[VW]
  |goexit=>simp_all
  |blocked=>simp_all
  |waiting=>simp_all
  |exit c=>exact .G7
  |fatal m=>simp_all
  |throw m=>simp_all
  |stuck s=>exact .G7
  |unsupported u=>exact .G7
theorem Jn1(A:FM C S)(hh:Hnd C E){f f':Frame}{l l':List Frame}{L:Option Nat}{w w':JE}(hw:WT C (okP C S) E L w w')(h:FrR C S E f f')(hl:Ic C S E cs f.kind l l'){main main':Bool} :
  Jz C S E cs L w w' (unwind C.P main f l none w) (unwind C.P main' f' l' none w'):=by
 have hd:=h.defers;generalize e1:f.defers=ds at hd;generalize e2:f'.defers=O4 at hd;cases hd with
 |@cons d d' ds O4 hd Ob=>
  obtain⟨t,a⟩:=d;obtain⟨t',a'⟩:=d';have hdt:=hd.target
  dsimp only at hdt
  have other:(∀r,t≠.collected r)->(∀r,t'≠.collected r)->Jz C S E cs L w w' (unwind C.P main f l none w) (unwind C.P main' f' l' none w'):=by
   intro k1 k2;have u1:unwind C.P main f l none w=callDeferred C.P { f with defers:=ds } l none ⟨t,a⟩ w:=by
    unfold unwind
    grind
   have u2:unwind C.P main' f' l' none w'=callDeferred C.P { f' with defers:=O4 } l' none ⟨t',a'⟩ w':=by
    unfold unwind
    grind
   rw[u1,u2];exact Jcr A hh hw (h.Jgy Ob) hl hd k1
  cases hdt with
  |nil=>simp_all
  |fn _ _=>simp_all
  |@collected r r' hr=>
   have u1:unwind C.P main f l none w=GStep.after (seen C.P f.fn ((Instr.takeDeferred r).runT C.P w #[]).2) (match((Instr.takeDeferred r).runT C.P w #[]).1 with
     |.ok calls w=>.go { frame:={ f with defers:=calls++ds },callers:=l,status:=.running,dying:=none } w
     |.halt _ w=>.ended (.stuck "the deferred calls of a range-over-func loop have been taken" (f.pos C.P)) w):=by
    unfold unwind;rw[e1];rfl
   have u2:unwind C.P main' f' l' none w'=GStep.after (seen C.P f'.fn ((Instr.takeDeferred r').runT C.P w' #[]).2) (match((Instr.takeDeferred r').runT C.P w' #[]).1 with
     |.ok calls w=>.go { frame:={ f' with defers:=calls++O4 },callers:=l',status:=.running,dying:=none } w
     |.halt _ w=>.ended (.stuck "the deferred calls of a range-over-func loop have been taken" (f'.pos C.P)) w):=by
    unfold unwind;rw[e2];rfl
   rw[u1,u2];refine of_run (f:=λx=>match x with
     |.ok calls w=>.go { frame:={ f with defers:=calls++ds },callers:=l,status:=.running,dying:=none } w
     |.halt _ w=>.ended (.stuck "the deferred calls of a range-over-func loop have been taken" (f.pos C.P)) w)
    (f':=λx=>match x with
     |.ok calls w=>.go { frame:={ f' with defers:=calls++O4 },callers:=l',status:=.running,dying:=none } w
     |.halt _ w=>.ended (.stuck "the deferred calls of a range-over-func loop have been taken" (f'.pos C.P)) w) hw (J3.takeDeferred hr) ?_ ?_ ?_ ?_
   .intro E1 c c' w1 Am s hc BQ;exact Jz.same BQ (Qr (.cons ((h.mono s).Jgy (hc.append (Ob.mono s))) (hl.mono s)))
   .grind[Jz.G7]
   .grind
   .intro r g1 w1 es h _;cases r with
    |ok v w=>cases h;exact Ad _
    |halt x w=>cases h
 |nil=>
  obtain⟨fn,b1,b2,b3⟩:=h.body;have hm:=h.mode;generalize m1:f.mode=m at hm;generalize m2:f'.mode=m' at hm;cases hm with
  |run=>
   have u1:unwind C.P main f l none w=.ended (.stuck "unwind: the frame is running" (f.pos C.P)) w:=by unfold unwind;rw[e1,m1]
   grind[Jz.G7]
  |@panicking c c' hc=>
   have k1:f.catches C.P=false:=by unfold Frame.catches;rw[b1]
   have k2:f'.catches C.P=false:=by unfold Frame.catches;rw[h.fn,b1]
   have back:∀{g g':Frame}{m m':List Frame},l=g::m->l'=g'::m'->Jz C S E cs L w w' (unwind C.P main f l none w) (unwind C.P main' f' l' none w'):=by
    rintro g g' m m' rfl rfl;have u1:unwind C.P main f (g::m) none w=.go { frame:=g.raise c,callers:=m,status:=.running,dying:=none } w:=by unfold unwind;grind
    have u2:unwind C.P main' f' (g'::m') none w'=.go { frame:=g'.raise c',callers:=m',status:=.running,dying:=none } w':=by unfold unwind;grind
    rw[u1,u2];rcases hl.top.raise hc with hA|hB
    .exact Jz.same hw (Qr hA)
    .exact .bad hB rfl
   cases hl with
   |bot hb ho=>grind
   |cons hb ho hl=>grind
  |returning=>
   have tm:∀r∈fn.results,VR C E (f.tmps.getD (bG r) JA) (f'.tmps.getD (bG r) JA):=λr hr=>h.tmps.getD (h.hol fn (by assumption) r hr);have u1:unwind C.P main f l none w=GStep.after (seen C.P f.fn ((results fn f.tmps).runT C.P w #[]).2) (match((results fn f.tmps).runT C.P w #[]).1 with
     |.ok v w=>doReturn C.P main f l none v w
     |.halt (.stuck s) w=>.ended (.stuck s (f.pos C.P)) w
     |.halt _ w=>.ended (.stuck "return: the result variables cannot be read" (f.pos C.P)) w):=by
    unfold unwind;grind
   have u2:unwind C.P main' f' l' none w'=GStep.after (seen C.P f'.fn ((results fn f'.tmps).runT C.P w' #[]).2) (match((results fn f'.tmps).runT C.P w' #[]).1 with
     |.ok v w=>doReturn C.P main' f' l' none v w
     |.halt (.stuck s) w=>.ended (.stuck s (f'.pos C.P)) w
     |.halt _ w=>.ended (.stuck "return: the result variables cannot be read" (f'.pos C.P)) w):=by
    unfold unwind;rw[e2,m2];simp only[h.fn,b1];rfl
   rw[u1,u2];refine of_run (f:=λx=>match x with
     |.ok v w=>doReturn C.P main f l none v w
     |.halt (.stuck s) w=>.ended (.stuck s (f.pos C.P)) w
     |.halt _ w=>.ended (.stuck "return: the result variables cannot be read" (f.pos C.P)) w)
    (f':=λx=>match x with
     |.ok v w=>doReturn C.P main' f' l' none v w
     |.halt (.stuck s) w=>.ended (.stuck s (f'.pos C.P)) w
     |.halt _ w=>.ended (.stuck "return: the result variables cannot be read" (f'.pos C.P)) w) hw (J3.results hh fn tm) ?_ ?_ ?_ ?_
   .intro E1 v v' w1 Am s hv BQ;obtain⟨c,l1,c',l1',e1,e2,e3⟩:=J9r (hl.mono s) h.kind (fr:=f) (fr':=f') rfl h.kind' hv
    grind[Jz.same,Qr]
   .grind[Jz.G7]
   .intro x w1 hd;cases x<;>exact⟨_,_,_,rfl⟩
   .intro r g1 w1 es h _;cases r with
    |ok v w=>rw[J80 h];exact Ad _
    |halt x w=>grind
def Jjd(A:FM C S)(hh:Hnd C E)(hg:∀g,S.gs.contains g=true->E g g){g g':JF}{L:Option Nat}{w w':JE}(hw:WT C (okP C S) E L w w')(h:GR C S E cs g g')(nd:¬sH g)(main':Bool) :
  Jz C S E cs L w w' (stepG C.P true g w) (stepG C.P main' g' w'):=by
 obtain⟨f,l,st,dy,of⟩:=g;obtain⟨f',l',st',dy',of'⟩:=g';obtain⟨h1,h2,h3,h4,h5,h6⟩:=h;simp only at h1 h2 h3 h4 h5 h6;subst h4 h5;have ht:=h1.Jkn;cases hm:f.mode with
 |run=>
  have OT:f'.mode=.run:=by
   cases ht with
   |fr h hl=>
    have:=h.mode;rw[hm]at this;generalize f'.mode=m at this;cases this;rfl
   |bot h=>exact h.RV
  have s1:∀st of,stepG C.P true ⟨f,l,st,none,of⟩ w=stepG.exec C.P true true f l none w:=λst of=>by unfold stepG;grind
  have s2:∀st of,stepG C.P main' ⟨f',l',st,none,of⟩ w'=stepG.exec C.P main' true f' l' none w':=λst of=>by unfold stepG;grind
  rw[s1,s2];exact Jtc A hh hg hw ht hm (λk=>nd ⟨k.1,hm,k.2⟩)
 |_=>
  cases ht with
  |bot h=>rw[h.mode]at hm;cases hm
  |fr h hl=>
   have OT:f'.mode≠.run:=by have:=h.mode;rw[hm]at this;generalize f'.mode=m at this;cases this<;>simp
   have s1:∀st of,stepG C.P true ⟨f,l,st,none,of⟩ w=unwind C.P true f l none w:=λst of=>by unfold stepG;grind
   have s2:∀st of,stepG C.P main' ⟨f',l',st,none,of⟩ w'=unwind C.P main' f' l' none w':=λst of=>by
    unfold stepG
    grind
   grind[Jn1]
end
end Go.Sim
