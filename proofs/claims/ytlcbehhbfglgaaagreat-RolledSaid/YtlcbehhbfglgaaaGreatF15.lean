/- PROVED HERE: laws. Conditions: none. -/
import Derived.Conc.Beside
import Derived.Conc.WgGenN3
import Derived.Test.YtlcbehhbfglgaaaGreatF13
set_option linter.all false
namespace Go.Sim
open Go.Conc
open Go.ConcN (sumTo upd sumTo_upd upd_ne upd_same)
def ShW (W:Nat->Prop):Loc->Prop:=fun l=>∃ a,l=.cell a/\W a.block
structure Cmp (P:Program) (W:Nat->Prop) (gs:Array Goroutine) (w:World) (t:Trace) (q:Nat->Nat):Prop where
 lv:Leavers P t gs q
 past:Past (ShW W) w.heap.size t
 quiet:Quiet (ShW W) t
 low:∀ b,W b->b<w.heap.size
 tidy:∀ op∈t,op.g<gs.size/\∀ x,op.act.touch?=some x->x.loc.isMemory=true
theorem EvG.mem {own X:Nat->Prop} {e:Event} (h:EvG own X e) {x:Touch} (hx:(MemAct.ofEvent e).touch?=some x):x.loc.isMemory=true:=by
 obtain ⟨loc,wr,sy⟩:=e;cases loc with
 | cell b=>
  obtain ⟨⟨h1,_⟩,h3⟩:=h;simp only at h3;subst h3;simp only [MemAct.ofEvent,MemAct.touch?,Jb2] at hx;subst hx;rfl
 | obj r=>
  obtain ⟨⟨h1,_⟩,h3⟩:=h;simp only at h3;subst h3;have e:MemAct.ofEvent ⟨.obj r,wr,false⟩=.access ⟨.obj r,wr,false⟩:=by cases wr<;>rfl
  simp only [e,MemAct.touch?,Jb2] at hx;subst hx;rfl
 | mark m=>cases m<;>first|exact h.elim|(simp [MemAct.ofEvent,MemAct.touch?] at hx)
 | output=>exact h.elim
 | goroutines=>exact h.elim
theorem EvG.Jl7 {own X W:Nat->Prop} {e:Event} (h:EvG own X e) (hd:∀ b,W b->¬ X b) {x:Touch} (hx:(MemAct.ofEvent e).touch?=some x):¬ ShW W x.loc:=by
 rintro ⟨a,ha,hw⟩;obtain ⟨loc,wr,sy⟩:=e;cases loc with
 | cell b=>
  obtain ⟨⟨h1,_⟩,h3⟩:=h;simp only at h3;subst h3;simp only [MemAct.ofEvent,MemAct.touch?,Jb2] at hx;subst hx;cases ha;exact hd _ hw h1
 | obj r=>
  obtain ⟨⟨h1,_⟩,h3⟩:=h;simp only at h3;subst h3;simp only [MemAct.ofEvent,MemAct.touch?,Jb2] at hx;subst hx;cases ha
 | mark m=>cases m<;>first|exact h.elim|(simp [MemAct.ofEvent,MemAct.touch?] at hx)
 | output=>exact h.elim
 | goroutines=>exact h.elim
theorem EvG.evL {own X W:Nat->Prop} {B:Nat} {e:Event} (h:EvG own X e) (hd:∀ b,W b->¬ X b) (hB:∀ b,X b->b<B):EvL (ShW W) B e:=by
 refine ⟨fun x hx hs=>absurd hs (h.Jl7 hd hx),?_,?_,?_⟩
 ·intro he;unfold EvG at h;rw [he] at h;exact h
 ·intro he;unfold EvG at h;rw [he] at h;exact h
 ·obtain ⟨loc,wr,sy⟩:=e;cases loc with
  | cell b=>
   obtain ⟨⟨h1,_⟩,h3⟩:=h;simp only at h3;subst h3;exact hB _ h1
  | obj r=>
   obtain ⟨⟨h1,_⟩,h3⟩:=h;simp only at h3;subst h3;have e:MemAct.ofEvent ⟨.obj r,wr,false⟩=.access ⟨.obj r,wr,false⟩:=by cases wr<;>rfl
   rw [e];exact hB _ h1
  | mark m=>cases m<;>first|exact h.elim|exact trivial
  | output=>exact h.elim
  | goroutines=>exact h.elim
theorem J07.at {X:Nat->Prop} {w:World} (d:Nat):J07 false X w (w.at d):=⟨fun _ _=>rfl,Ja2 _,fun _=>rfl,rfl⟩
theorem Jgb {P:Program} {gs:Array Goroutine} {t:Trace} {q:Nat->Nat} {a:Goroutine} (h0:gs[0]?=some a) (hr:a.status=.running) (hL:Leavers P t gs q):∀ g∈gs,awake g:=by
 intro g hg;obtain ⟨i,hi,rfl⟩:=Array.mem_iff_getElem.1 hg;rcases Nat.eq_zero_or_pos i with rfl|hpos
 ·have:gs[0]=a:=by simpa [Ja4 hi] using h0
  rw [this];exact awake_of (.inl hr)
 ·exact awake_of ((hL.old i _ hpos (Ja4 hi)).status.elim .inl fun x=>.inr (.inr x))
theorem Cmp.own {P:Program} {W:Nat->Prop} {gs:Array Goroutine} {w w':World} {t:Trace} {q:Nat->Nat} {a a':Goroutine} {es:Array Event} (h:Cmp P W gs w t q) (h0:gs[0]?=some a) (hz:w.heap.size<=w'.heap.size)
  {own X:Nat->Prop} (he:∀ e∈es,EvG own X e) (hd:∀ b,W b->¬ X b) (hX:∀ b,X b->b<w'.heap.size) :
  Cmp P W ((gs.map (woken P a a' w')).setIfInBounds 0 a') w' (t++MemOp.ofEvents 0 a.frame.fn a.frame.place es) q:=by
 refine ⟨⟨fun j x hj hx=>?_,fun j hj=>?_⟩,(h.past.mono hz).own fun e hx=>(he e hx).evL hd hX,h.quiet.app fun op hop x hx hs=>?_,fun b hb=>Jb7 (h.low b hb) hz,fun op hop=>?_⟩
 ·rw [Ja1 (by omega),Array.getElem?_map] at hx;obtain ⟨y,hy,rfl⟩:=Jc0.1 hx;have hq:=h.lv.old j y hj hy;rw [woken_quitsD hq,Deaf_other t (g':=0) (by omega) _ (fun op hop=>by obtain ⟨e,_,rfl⟩:=Conc.mem_ofEvents hop;rfl)];exact hq
 ·have hsz:0<gs.size:=(Ja3.1 h0).1;rw [Deaf_other t (g':=0) (by simp at hj;omega) _ (fun op hop=>by obtain ⟨e,_,rfl⟩:=Conc.mem_ofEvents hop;rfl)];exact h.lv.above j (by simpa using hj)
 ·obtain ⟨e,hx',rfl⟩:=Conc.mem_ofEvents hop;exact absurd hs ((he e hx').Jl7 hd hx)
 ·rcases Array.mem_append.1 hop with h1|h1
  ·have:=h.tidy op h1;exact ⟨by simpa using this.1,this.2⟩
  ·obtain ⟨e,hx',rfl⟩:=Conc.mem_ofEvents h1;have hsz:0<gs.size:=(Ja3.1 h0).1;exact ⟨by simpa using hsz,fun x hx=>(he e hx').mem hx⟩
theorem Cmp.slip {P:Program} {W:Nat->Prop} {gs:Array Goroutine} {w:World} {t:Trace} {q:Nat->Nat} (h:Cmp P W gs w t q) {i k:Nat} {g:Goroutine} (hi:gs[i]?=some g) (hp:0<i) (hr:g.status=.running) (d:Nat) (hk:q i=k+1) :
  ∃ g' es,stepG P false g (w.at d)=.go g' (w.at d) es/\Cmp P W ((gs.map (woken P g g' (w.at d))).setIfInBounds i g') (w.at d) (t++MemOp.ofEvents i g.frame.fn g.frame.place es) (upd q i k):=by
 have hq:=h.lv.old i g hp hi;rw [hk] at hq;have hlt:i<gs.size:=(Ja3.1 hi).1;rcases hq with ⟨hf,_⟩|⟨_,g',es,hm,hstp,hq'⟩
 ·rw [hf] at hr;cases hr
 refine ⟨g',es,hstp _,⟨fun j x hj hx=>?_,fun j hj=>?_⟩,h.past.mute (by omega) hm,h.quiet.app fun op hop x hx hs=>?_,h.low,fun op hop=>?_⟩
 ·by_cases hji:i=j
  ·subst hji;rw [Ja9 (by simpa using hlt)] at hx;obtain rfl:=Ja0 hx;rw [upd_same,Deaf_own];exact hq'
  ·rw [Ja1 hji,Array.getElem?_map] at hx;obtain ⟨y,hy,rfl⟩:=Jc0.1 hx;have hqj:=h.lv.old j y hj hy;rw [woken_quitsD hqj,upd_ne q k (Ne.symm hji),Deaf_other t hji _ (fun op hop=>by obtain ⟨e,_,rfl⟩:=Conc.mem_ofEvents hop;rfl)];exact hqj
 ·rw [Deaf_other t (g':=i) (by simp at hj;omega) _ (fun op hop=>by obtain ⟨e,_,rfl⟩:=Conc.mem_ofEvents hop;rfl)];exact h.lv.above j (by simpa using hj)
 ·obtain ⟨e,he,rfl⟩:=Conc.mem_ofEvents hop;rw [touch_mute (hm e he)] at hx;cases hx
 ·rcases Array.mem_append.1 hop with h1|h1
  ·have:=h.tidy op h1;exact ⟨by simpa using this.1,this.2⟩
  ·obtain ⟨e,he,rfl⟩:=Conc.mem_ofEvents h1;exact ⟨by simpa using hlt,fun x hx=>by rw [touch_mute (hm e he)] at hx;cases hx⟩
end Go.Sim
namespace Go.Sim
open Go.Conc Go.ConcN Go.RowKit Go.Conc.Lib Go.ConcR.Gen Go.ConcN.Gen
open Go.ConcR (KK wgBlock WgAt stA smA rd wr mk DC0)
def RM (ty:TypeId) (Wg:Nat) (w w1:World):Prop:=WgLive ty Wg w->WgLive ty Wg w1
theorem J4 {ty:TypeId} {Wg:Nat} {w w1:World} (h:WgLive ty Wg w) (r:RM ty Wg w w1):WgLive ty Wg w1:=r h
section
variable (P:Program) (ty:TypeId) (Wg:Nat)
section
variable (Fin:Goroutine->World->Prop)
def Jfd (g:Goroutine) (w:World):Prop:=g.status=.running/\∃ g',stepG P true g w=.go g' w #[mk (.acquire (stA Wg))]/\∃ m,(Goes P true (RM ty Wg) DC0) Fin m g' w
def JKe (g:Goroutine) (w:World):Prop:=g.status=.running/\∃ g',stepG P true g w=.go g' w #[mk .enable]/\∃ m,(Goes P true (RM ty Wg) DC0) (Jfd P ty Wg Fin) m g' w
def JW4 (g:Goroutine) (w:World):Prop:=g.status=.running/\(WgAt ty Wg w 0 0->∃ g',stepG P true g w=.go g' w #[rd (stA Wg)]/\∃ m,(Goes P true (RM ty Wg) DC0) (JKe P ty Wg Fin) m g' w)
def JW3 (g:Goroutine) (w:World):Prop:=
 g.status=.running/\g.offers=none/\((∃ st,WgAt ty Wg w st 0)->stepG P true g w=.go { g with status:=.blocked } w #[]) /\
  (WgAt ty Wg w 0 1->∃ g',stepG P true g w=.go g' (w.setCell (smA Wg) (.int .u32 0)) (semEvents (smA Wg))/\∃ m,(Goes P true (RM ty Wg) DC0) (JW4 P ty Wg Fin) m g' (w.setCell (smA Wg) (.int .u32 0)))
def JWr (g:Goroutine) (w:World):Prop:=g.status=.running/\∃ g',stepG P true g w=.go g' w #[mk (.write (smA Wg))]/\∃ m,(Goes P true (RM ty Wg) DC0) (JW3 P ty Wg Fin) m g' w
variable (Anch:Goroutine->World->Prop)
def JW2 (vs:Nat) (g:Goroutine) (w:World):Prop:=
 g.status=.running/\∀ v:Nat,v<2147483648->WgAt ty Wg w (v*KK) 0 ->
  (v=vs->∃ g',stepG P true g w=.go g' (w.setCell (stA Wg) (.int .u64 (v*KK+1))) #[rd (stA Wg),wr (stA Wg)]/\∃ m,(Goes P true (RM ty Wg) DC0) (JWr P ty Wg Fin) m g' (w.setCell (stA Wg) (.int .u64 (v*KK+1)))) /\
  (v≠vs->∃ g',stepG P true g w=.go g' w #[rd (stA Wg)]/\∃ m,(Goes P true (RM ty Wg) DC0) Anch m g' w)
def JW1 (g:Goroutine) (w:World):Prop:=
 g.status=.running/\∀ v:Nat,v<2147483648->WgAt ty Wg w (v*KK) 0->∃ g',stepG P true g w=.go g' w #[rd (stA Wg)] /\
  (v=0->∃ m,(Goes P true (RM ty Wg) DC0) (JKe P ty Wg Fin) m g' w)/\(v≠0->∃ m,(Goes P true (RM ty Wg) DC0) (JW2 P ty Wg Fin Anch v) m g' w)
def JKd (g:Goroutine) (w:World):Prop:=g.status=.running/\∃ g',stepG P true g w=.go g' w #[mk .disable]/\∃ m,(Goes P true (RM ty Wg) DC0) Anch m g' w
end
section
variable (Next:Goroutine->World->Prop)
def Jrn (g:Goroutine) (w:World):Prop:=g.status=.running/\∃ g',stepG P true g w=.go g' w #[mk .enable]/\∃ m,(Goes P true (RM ty Wg) DC0) Next m g' w
def JRd (g:Goroutine) (w:World):Prop:=g.status=.running/\∃ g',stepG P true g w=.go g' w #[mk (.read (smA Wg))]/\∃ m,(Goes P true (RM ty Wg) DC0) (Jrn P ty Wg Next) m g' w
def JA1 (g:Goroutine) (w:World):Prop:=
 g.status=.running/\∀ v:Nat,v<2147483647->WgAt ty Wg w (v*KK) 0 ->
  ∃ g',stepG P true g w=.go g' (w.setCell (stA Wg) (.int .u64 ((v+1)*KK))) #[rd (stA Wg),wr (stA Wg)] /\
   (v=0->∃ m,(Goes P true (RM ty Wg) DC0) (JRd P ty Wg Next) m g' (w.setCell (stA Wg) (.int .u64 ((v+1)*KK))))/\(v≠0->∃ m,(Goes P true (RM ty Wg) DC0) (Jrn P ty Wg Next) m g' (w.setCell (stA Wg) (.int .u64 ((v+1)*KK))))
def Jis (g:Goroutine) (w:World):Prop:=g.status=.running/\∃ g',stepG P true g w=.go g' w #[mk .disable]/\∃ m,(Goes P true (RM ty Wg) DC0) (JA1 P ty Wg Next) m g' w
end
end
end Go.Sim
namespace Go.Sim
open Go.Conc Go.ConcN
inductive J51 {α:Type} (r:α->α->Prop):List α->List α->Prop
 | head {a b:α} {l:List α} (h:r a b):J51 r (a::l) (b::l)
 | tail {a:α} {l l':List α} (h:J51 r l l'):J51 r (a::l) (a::l')
theorem Jro {α:Type} {r:α->α->Prop} {a:α} (ha:Acc r a):∀ {l:List α},Acc (J51 r) l->Acc (J51 r) (a::l):=by
 induction ha with
 | intro a _ iha=>
  intro l hl
  induction hl with
  | intro l h2 ihl=>
   refine .intro _ fun x hx=>?_;cases hx with
   | head h=>exact iha _ h (.intro _ h2)
   | tail h=>exact ihl _ h
theorem Jit {α:Type} {r:α->α->Prop}:∀ (l:List α),(∀ a∈l,Acc r a)->Acc (J51 r) l
 | [],_=>.intro _ fun _ h=>nomatch h
 | a::l,h=>Jro (h a (by simp)) (Jit l fun b hb=>h b (by simp [hb]))
theorem Jgc {α:Type} {r:α->α->Prop} {x y:α}:∀ {l:List α} {i:Nat},l[i]?=some y->r x y->J51 r (l.set i x) l
 | [],_,h,_=>by simp at h
 | a::l,0,h,hr=>by simp at h;subst h;exact .head hr
 | a::l,i+1,h,hr=>.tail (Jgc (by simpa using h) hr)
def Jrp (st:Bool) (P:Program) (main:Bool) (Stop:Sit->Prop) (y2 y:Sit):Prop:=
 (∃ w1,J07 st y.X y.w w1/\J4k P main y w1 y2)/\¬ ∀ w1,J07 st y.X y.w w1->Stop { y with w:=w1 }
theorem J4k.unique {P:Program} {main:Bool} {y:Sit} {w1:World} {y2 y3:Sit} (h:J4k P main y w1 y2) (k:J4k P main y w1 y3):y2=y3:=by obtain ⟨es,h1,_⟩:=h.step;obtain ⟨es',k1,_⟩:=k.step;rw [h1] at k1;simp only [GStep.go.injEq] at k1;obtain ⟨a,b,_⟩:=k1;obtain ⟨o2,x2,g2,w2⟩:=y2;obtain ⟨o3,x3,g3,w3⟩:=y3;have e1:=h.own;have e2:=k.own;have e3:=h.X;have e4:=k.X;simp only at a b e1 e2 e3 e4;subst a b e1 e2 e3 e4;rfl
theorem Runs.acc {st:Bool} {P:Program} {main:Bool} {Stop:Sit->Prop} {y:Sit} (h:Runs st P main Stop y):Acc (Jrp st P main Stop) y:=by
 induction h with
 | stop h=>exact .intro _ fun y2 h2=>absurd h h2.2
 | step f h k ih=>
  refine .intro _ fun y2 h2=>?_;obtain ⟨⟨w1,hr,hg⟩,_⟩:=h2;rw [hg.unique (h w1 hr)];exact ih w1 hr
inductive J8r (st:Bool) (P:Program) (main:Bool) (Stop:Sit->Prop):Option Sit->Option Sit->Prop
 | done {y:Sit}:J8r st P main Stop none (some y)
 | step {y2 y:Sit} (h:Jrp st P main Stop y2 y):J8r st P main Stop (some y2) (some y)
theorem J8s {st:Bool} {P:Program} {main:Bool} {Stop:Sit->Prop}:Acc (J8r st P main Stop) none:=.intro _ fun _ h=>nomatch h
theorem Jmc {st:Bool} {P:Program} {main:Bool} {Stop:Sit->Prop} {y:Sit} (h:Acc (Jrp st P main Stop) y):Acc (J8r st P main Stop) (some y):=by
 induction h with
 | intro y _ ih=>
  refine .intro _ fun z hz=>?_;cases hz with
  | done=>exact J8s
  | step h=>exact ih _ h
def Jmd {α:Type} (r:Nat->α->α->Prop) (x y:Nat × α):Prop:=x.1=y.1/\r y.1 x.2 y.2
theorem Jrq {α:Type} {r:Nat->α->α->Prop} {i:Nat} {a:α} (h:Acc (r i) a):Acc (Jmd r) (i,a):=by
 induction h with
 | intro a _ ih=>
  refine .intro _ fun z hz=>?_;obtain ⟨k,z⟩:=z;obtain ⟨h1,h2⟩:=hz;simp only at h1 h2;subst h1;exact ih z h2
theorem Jp6 {α:Type} {r:Nat->α->α->Prop} (l:List (Nat × α)) (h:∀ a∈l,Acc (r a.1) a.2):Acc (J51 (Jmd r)) l:=Jit l fun a ha=>Jrq (h a ha)
def Ju7 (t:Trace) (l:Loc):Prop:=∀ i a,touchAt t i=some a->a.loc≠l
section
variable {Sh:Loc->Prop} {Own Rd Own' Rd':Nat->Loc->Prop} {t:Trace} {j:Nat}
theorem CT.widen (h:CT Sh Own Rd t j) (h1:∀ k,1<=k->k<=j->∀ l,Own k l->Own' k l) (h2:∀ k,1<=k->k<=j->∀ l,Own' k l->Own k l\/Ju7 t l) (h3:∀ k,1<=k->k<=j->∀ l,Rd' k l↔Rd k l):CT Sh Own' Rd' t j:=by
 refine ⟨h.quiet,fun k k1 kj l hl=>?_,fun k k1 kj l hl=>h.rd k k1 kj l ((h3 k k1 kj l).1 hl),fun l hs hl=>h.free l hs fun k k1 kj=>?_,fun l hs hl=>h.mine l hs fun k k1 kj ho=>hl k k1 kj (h1 k k1 kj l ho),h.nr,h.gs⟩
 ·rcases h2 k k1 kj l hl with h|hf
  ·exact CT.own ‹CT Sh Own Rd t j› k k1 kj l h
  ·intro i a ha e;exact absurd e (hf i a ha)
 ·exact ⟨fun ho=>(hl k k1 kj).1 (h1 k k1 kj l ho),fun hr=>(hl k k1 kj).2 ((h3 k k1 kj l).2 hr)⟩
theorem J9u {B:Nat} (h:∀ op∈t,op.act.low B) {l:Loc} (hl:¬ l.low B):Ju7 t l:=by
 intro i a ha e;obtain ⟨x,hx,hxa⟩:=touch_of ha;obtain ⟨hlt,rfl⟩:=Ja3.1 hx;have hlow:=h _ (Array.getElem_mem hlt);refine hl ?_;rw [<- e]
 revert hxa hlow
 generalize t[i].act=act;intro hxa hlow;cases act with
 | access ev=>
  simp only [MemAct.touch?] at hxa;split at hxa<;>first|(cases hxa;exact hlow)|cases hxa
 | mark m=>cases m<;>simp [MemAct.touch?] at hxa<;>(subst hxa;exact hlow)
 | _=>simp [MemAct.touch?] at hxa
end
end Go.Sim
namespace Go.Sim
open Go.Conc Go.ConcN
open Go.ConcR (KK wgBlock WgAt stA smA rd wr mk Payload DC0)
structure Ph where
 P:Program
 ty:TypeId
 Wg:Nat
 C:Nat
 n:Nat
 m:Nat
 W:Nat->Prop
 Sh0:Nat->Prop
 w0:World
 t0:Trace
 q0:Nat->Nat
 tI:TypeId
 Q:Nat->(Nat->Prop)->(Nat->Prop)->Value->World->Prop
 Fin:Goroutine->World->Prop
 Anch:Goroutine->World->Prop
structure J0a where
 own:Nat->Prop
 X:Nat->Prop
 v:Value
 rank:Option Sit
 d:WD
section
variable [Payload] (H:Ph)
def J69:Nat->Loc->Prop:=fun _ _=>False
def DT (k:Nat) (w w':World) (es:Array Event):Prop:=AsideCell H.C H.n (k-1) w w'/\∀ e∈es,e=⟨.cell ⟨H.C,k-1,none⟩,true,false⟩
def J52 (i:Nat) (y:Sit):Prop:=
 ∃ v,H.Q i y.own y.X v y.w/\∀ w1,PayAt H.C H.n w1->WgLive H.ty H.Wg w1->∃ k,Goes H.P false (RW H.ty H.Wg H.C H.n 0 (i+1-1)) (DT H (i+1)) (AtR0 H.P H.ty H.Wg H.C H.n 0 (i+1) v) k y.g w1
inductive WS (i:Nat) (D:J0a) (g:Goroutine) (w:World):Prop
 | work (y:Sit) (hr:D.rank=some y) (ho:y.own=D.own) (hX:y.X=D.X) (hg:y.g=g) (hR:Runs true H.P false (J52 H i) y) (hw:J07 true y.X y.w w) (hd:D.d=⟨7,0,0⟩) (hs:g.status=.running) (hof:g.offers=none):WS i D g w
 | r0 (hr:D.rank=none) (f:Nat) (hd:D.d=⟨7,f,0⟩) (hs:Goes H.P false (RW H.ty H.Wg H.C H.n 0 (i+1-1)) (DT H (i+1)) (AtR0 H.P H.ty H.Wg H.C H.n 0 (i+1) D.v) f g w) (hQ:H.Q i D.own D.X D.v w):WS i D g w
 | tail (hr:D.rank=none) (h6:D.d.stage<=6) (hs:WSit H.P H.ty H.Wg H.C H.n J69 J69 0 (i+1) D.v D.d.stage D.d.fuel D.d.deaf g w) (hQ:H.Q i D.own D.X D.v w):WS i D g w
structure Oth (i:Nat) (X:Nat->Prop) (w w':World):Prop where
 rely:J07 true X w w'
 rw:RW H.ty H.Wg H.C H.n 0 i w w'
omit [Payload] in
theorem J07.trans {st:Bool} {X:Nat->Prop} {w w1 w2:World} (h:J07 st X w w1) (k:J07 st X w1 w2):J07 st X w w2:=
 ⟨fun b hb=>(k.blocks b hb).trans (h.blocks b hb),Jb6 h.size k.size,fun e=>(k.same e).trans (h.same e),k.os.trans h.os⟩
variable (hQ:∀ i own X v w w',H.Q i own X v w->J07 true X w w'->H.Q i own X v w')
include hQ in
theorem WS.other {i:Nat} {D:J0a} {g:Goroutine} {w w':World} (h:WS H i D g w) (o:Oth H i D.X w w'):WS H i D g w':=by
 cases h with
 | work y hr ho hX hg hR hw hd hs hof=>exact .work y hr ho hX hg hR (hw.trans (by rw [hX];exact o.rely)) hd hs hof
 | r0 hr f hd hs hQ'=>exact .r0 hr f hd (Goes.rely (fun _ _ _ a b=>a.trans b) hs o.rw) (hQ _ _ _ _ _ _ hQ' o.rely)
 | tail hr h6 hs hQ'=>exact .tail hr h6 (hs.rely o.rw) (hQ _ _ _ _ _ _ hQ' o.rely)
inductive J12 where
 | al|st (s:Nat)|kds (s:Nat)|a1 (s:Nat)|rd (s:Nat)|kes (s:Nat)|go (s:Nat)
 | kd|anch|w1|w2 (vs:Nat)|wr|w3|blk|w4|ke|acq|fin
def J0y (n v:Nat):J12->Nat
 | .al=>8*n+40 | .st _=>8*n+39 | .kds _=>8*n+38 | .a1 _=>8*n+37 | .rd _=>8*n+36 | .kes _=>8*n+35 | .go _=>8*n+34
 | .kd=>8*n+20
 | .anch=>8*v+6
 | .w1=>8*v+5
 | .w2 vs=>8*vs+4
 | .wr=>8
 | .w3=>5
 | .blk=>5
 | .w4=>4
 | .ke=>3
 | .acq=>2
 | .fin=>1
def J1e:J12->Nat
 | .rd _ | .kes _ | .go _=>1
 | _=>0
def Jaw:J12->Prop
 | .al | .st _ | .kds _ | .a1 _ | .rd _ | .kes _ | .go _ | .kd | .anch | .w1 | .w2 _=>True
 | _=>False
def jw3:J12->Prop
 | .wr | .w3 | .blk=>True
 | _=>False
def Jx3:J12->Prop
 | .w4 | .ke | .acq | .fin=>True
 | _=>False
inductive Jv (j:Nat) (D:Nat->WD):J12->Int->Int->Prop
 | opn {tag:J12}:Jaw tag->OpenSt j D->(∀ vs,tag=.w2 vs->Vc j D<=vs/\1<=vs)->Jv j D tag (((Vc j D+J1e tag:Nat):Int)*KK) 0
 | reg {tag:J12}:jw3 tag->OpenSt j D->1<=Vc j D->Jv j D tag (((Vc j D:Nat):Int)*KK+1) 0
 | last {tag:J12} (L:Nat):jw3 tag->L<j->((D L).stage=4\/(D L).stage=3\/(D L).stage=2)->(∀ i,i<j->i≠L->(D i).stage=1)->Jv j D tag (if (D L).stage=2 then 0 else 1) 0
 | sema {tag:J12}:(tag=.wr\/tag=.w3)->AllQuit j D->Jv j D tag 0 1
 | fin {tag:J12}:Jx3 tag->AllQuit j D->Jv j D tag 0 0
def JGo (i s:Nat) (Next:Goroutine->World->Prop) (g:Goroutine) (w:World):Prop:=
 g.status=.running/\((∀ b,H.Sh0 b->w.heap[b]?=H.w0.heap[b]?)->w.heap[s]?=some (.cells #[.int .i64 i] H.tI)->w.os=H.w0.os ->
  ∃ g' child,stepG H.P true g w=.spawn g' child w #[]/\child.status=.running/\child.offers=none/\Runs true H.P false (J52 H i) ⟨fun _=>False,fun b=>H.Sh0 b\/b=s,child,w⟩/\g'.status=.running/\Next g' w)
def JSt (i s:Nat) (Next:Goroutine->World->Prop) (g:Goroutine) (w:World):Prop:=
 g.status=.running/\(w.heap[s]?=some (.cells #[.int .i64 0] H.tI)->∃ g',stepG H.P true g w=.go g' (w.setCell ⟨s,0,none⟩ (.int .i64 i)) #[⟨.cell ⟨s,0,none⟩,true,false⟩] /\
  ∃ k,(Goes H.P true (RM H.ty H.Wg) DC0) (Jis H.P H.ty H.Wg (JGo H i s Next)) k g' (w.setCell ⟨s,0,none⟩ (.int .i64 i)))
def JAl (i:Nat) (Next:Goroutine->World->Prop) (g:Goroutine) (w:World):Prop:=
 g.status=.running/\∃ g',stepG H.P true g w=.go g' { w with heap:=w.heap.push (.cells #[.int .i64 0] H.tI) } #[] /\
  ∃ k,(Goes H.P true (RM H.ty H.Wg) DC0) (JSt H i w.heap.size Next) k g' { w with heap:=w.heap.push (.cells #[.int .i64 0] H.tI) }
def JSp:Nat->Goroutine->World->Prop
 | 0,g,w=>∃ k,(Goes H.P true (RM H.ty H.Wg) DC0) (JKd H.P H.ty H.Wg H.Anch) k g w
 | r+1,g,w=>∃ k,(Goes H.P true (RM H.ty H.Wg) DC0) (JAl H (H.n-(r+1)) (JSp r)) k g w
inductive J0s:J12->Nat->Nat->Nat->Goroutine->World->Prop
 | al {r f:Nat} {g:Goroutine} {w:World}:r<H.n->(Goes H.P true (RM H.ty H.Wg) DC0) (JAl H (H.n-(r+1)) (JSp H r)) f g w->J0s .al (H.n-(r+1)) f 0 g w
 | st {r s f:Nat} {g:Goroutine} {w:World}:r<H.n->(Goes H.P true (RM H.ty H.Wg) DC0) (JSt H (H.n-(r+1)) s (JSp H r)) f g w->J0s (.st s) (H.n-(r+1)) f 0 g w
 | kds {r s f:Nat} {g:Goroutine} {w:World}:r<H.n->(Goes H.P true (RM H.ty H.Wg) DC0) (Jis H.P H.ty H.Wg (JGo H (H.n-(r+1)) s (JSp H r))) f g w->J0s (.kds s) (H.n-(r+1)) f 0 g w
 | a1 {r s f:Nat} {g:Goroutine} {w:World}:r<H.n->(Goes H.P true (RM H.ty H.Wg) DC0) (JA1 H.P H.ty H.Wg (JGo H (H.n-(r+1)) s (JSp H r))) f g w->J0s (.a1 s) (H.n-(r+1)) f 1 g w
 | rd {r s f:Nat} {g:Goroutine} {w:World}:r<H.n->(Goes H.P true (RM H.ty H.Wg) DC0) (JRd H.P H.ty H.Wg (JGo H (H.n-(r+1)) s (JSp H r))) f g w->J0s (.rd s) (H.n-(r+1)) f 1 g w
 | kes {r s f:Nat} {g:Goroutine} {w:World}:r<H.n->(Goes H.P true (RM H.ty H.Wg) DC0) (Jrn H.P H.ty H.Wg (JGo H (H.n-(r+1)) s (JSp H r))) f g w->J0s (.kes s) (H.n-(r+1)) f 1 g w
 | go {r s f:Nat} {g:Goroutine} {w:World}:r<H.n->(Goes H.P true (RM H.ty H.Wg) DC0) (JGo H (H.n-(r+1)) s (JSp H r)) f g w->J0s (.go s) (H.n-(r+1)) f 0 g w
 | kd {f:Nat} {g:Goroutine} {w:World}:(Goes H.P true (RM H.ty H.Wg) DC0) (JKd H.P H.ty H.Wg H.Anch) f g w->J0s .kd H.n f 0 g w
 | anch {f:Nat} {g:Goroutine} {w:World}:(Goes H.P true (RM H.ty H.Wg) DC0) H.Anch f g w->J0s .anch H.n f 1 g w
 | w1 {f:Nat} {g:Goroutine} {w:World}:(Goes H.P true (RM H.ty H.Wg) DC0) (JW1 H.P H.ty H.Wg H.Fin H.Anch) f g w->J0s .w1 H.n f 1 g w
 | w2 {vs f:Nat} {g:Goroutine} {w:World}:(Goes H.P true (RM H.ty H.Wg) DC0) (JW2 H.P H.ty H.Wg H.Fin H.Anch vs) f g w->J0s (.w2 vs) H.n f 1 g w
 | wr {f:Nat} {g:Goroutine} {w:World}:(Goes H.P true (RM H.ty H.Wg) DC0) (JWr H.P H.ty H.Wg H.Fin) f g w->J0s .wr H.n f 1 g w
 | w3 {f:Nat} {g:Goroutine} {w:World}:(Goes H.P true (RM H.ty H.Wg) DC0) (JW3 H.P H.ty H.Wg H.Fin) f g w->J0s .w3 H.n (f+1) 1 g w
 | blk {g:Goroutine} {w:World}:(∀ w₁,RM H.ty H.Wg w w₁->JW3 H.P H.ty H.Wg H.Fin g w₁)->J0s .blk H.n 0 1 { g with status:=.blocked } w
 | w4 {f:Nat} {g:Goroutine} {w:World}:(Goes H.P true (RM H.ty H.Wg) DC0) (JW4 H.P H.ty H.Wg H.Fin) f g w->J0s .w4 H.n f 1 g w
 | ke {f:Nat} {g:Goroutine} {w:World}:(Goes H.P true (RM H.ty H.Wg) DC0) (JKe H.P H.ty H.Wg H.Fin) f g w->J0s .ke H.n f 1 g w
 | acq {f:Nat} {g:Goroutine} {w:World}:(Goes H.P true (RM H.ty H.Wg) DC0) (Jfd H.P H.ty H.Wg H.Fin) f g w->J0s .acq H.n f 0 g w
 | fin {f:Nat} {g:Goroutine} {w:World}:(Goes H.P true (RM H.ty H.Wg) DC0) H.Fin f g w->J0s .fin H.n f 0 g w
omit [Payload] in
theorem J0g {ty:TypeId} {Wg:Nat} (a b c:World) (h:RM ty Wg a b) (k:RM ty Wg b c):RM ty Wg a c:=fun x=>k (h x)
theorem J0s.rely {tag:J12} {j f d:Nat} {g:Goroutine} {w w':World} (h:J0s H tag j f d g w) (r:RM H.ty H.Wg w w'):J0s H tag j f d g w':=by
 cases h with
 | al hr h=>exact .al hr (Goes.rely J0g h r)
 | st hr h=>exact .st hr (Goes.rely J0g h r)
 | kds hr h=>exact .kds hr (Goes.rely J0g h r)
 | a1 hr h=>exact .a1 hr (Goes.rely J0g h r)
 | rd hr h=>exact .rd hr (Goes.rely J0g h r)
 | kes hr h=>exact .kes hr (Goes.rely J0g h r)
 | go hr h=>exact .go hr (Goes.rely J0g h r)
 | kd h=>exact .kd (Goes.rely J0g h r)
 | anch h=>exact .anch (Goes.rely J0g h r)
 | w1 h=>exact .w1 (Goes.rely J0g h r)
 | w2 h=>exact .w2 (Goes.rely J0g h r)
 | wr h=>exact .wr (Goes.rely J0g h r)
 | w3 h=>exact .w3 (Goes.rely J0g h r)
 | blk h=>exact .blk fun w₁ h₁=>h w₁ (J0g _ _ _ r h₁)
 | w4 h=>exact .w4 (Goes.rely J0g h r)
 | ke h=>exact .ke (Goes.rely J0g h r)
 | acq h=>exact .acq (Goes.rely J0g h r)
 | fin h=>exact .fin (Goes.rely J0g h r)
end
end Go.Sim
section
set_option linter.unusedSectionVars false
namespace Go.Sim
open Go.Conc Go.ConcN
open Go.ConcR (KK wgBlock WgAt stA smA rd wr mk Payload DC0)
def J53:Loc->Option Nat
 | .cell a=>some a.block
 | .obj r=>some r
 | _=>none
section
variable [Payload] (H:Ph)
def ShJ:Loc->Prop:=ShW (fun b=>H.W b\/b=H.Wg)
def J38 (j:Nat) (D:Nat->J0a):Nat->Loc->Prop:=fun g l=>∃ i,i<j/\g=H.m+1+i/\((∃ b,J53 l=some b/\(D i).own b)\/l=.cell ⟨H.C,i,none⟩)
def RdJ (j:Nat) (D:Nat->J0a):Nat->Loc->Prop:=fun g l=>∃ i,i<j/\g=H.m+1+i/\∃ b,J53 l=some b/\(D i).X b/\¬ (D i).own b
structure JW (j:Nat) (D:Nat->J0a) (w:World):Prop where
 keep:∀ b,H.Sh0 b\/H.W b->w.heap[b]?=H.w0.heap[b]?
 pay:PayAt H.C H.n w
 has:∀ i,i<j->(D i).d.stage<=6->Has H.C i (D i).v w
 low:∀ i,i<j->∀ b,(D i).X b->b<w.heap.size
 J2o:∀ i,i<j->∀ b,(D i).own b->(D i).X b
 J54:∀ i i',i<j->i'<j->i≠i'->∀ b,(D i).own b->¬ (D i').X b
 J5m:∀ i,i<j->∀ b,(D i).own b->¬ H.Sh0 b
 avoid:∀ i,i<j->∀ b,(D i).X b->b≠H.Wg/\b≠H.C/\¬ H.W b
 wg:H.Wg<w.heap.size
 c:H.C<w.heap.size
 cw:H.C≠H.Wg
 cW:¬ H.W H.C
 wW:¬ H.W H.Wg
 sh0:∀ b,H.Sh0 b->b<w.heap.size/\b≠H.Wg/\b≠H.C/\¬ H.W b
 wl:∀ b,H.W b->b<w.heap.size
 os:w.os=H.w0.os
 out:w.output=H.w0.output
structure JT (j:Nat) (D:Nat->J0a) (d0:Nat) (w:World) (t:Trace):Prop where
 ct:CT (ShJ H) (J38 H j D) (RdJ H j D) t (H.m+j)
 pre:∃ u,t=H.t0++u
 low:∀ op∈t,op.act.low w.heap.size
 new:∀ i op x,H.t0.size<=i->t[i]?=some op->op.act.touch?=some x->(op.g=0\/∃ i',i'<j/\op.g=H.m+1+i')/\(¬ ShJ H x.loc->x.kind=.plain/\x.loc.isMemory=true)
 J9v:NoRelease (stA H.Wg) t
 deaf0:Deaf t 0=d0
 deafW:∀ i,i<j->Deaf t (H.m+1+i)=(D i).d.deaf
 above:∀ k,H.m+j<k->Deaf t k=0
 rel:∀ i,i<j->(D i).d.stage<=6->∃ r,RelBy (stA H.Wg) t (H.m+1+i) r
variable {H}
theorem Jp7 {l:Loc} {b B:Nat} (h:J53 l=some b):l.low B↔b<B:=by
 cases l<;>simp [J53] at h
 ·subst h;exact Iff.rfl
 ·subst h;exact Iff.rfl
theorem Jfe {l:Loc} {b:Nat} (h:J53 l=some b) (hs:ShJ H l):H.W b\/b=H.Wg:=by obtain ⟨a,rfl,hw⟩:=hs;simp [J53] at h;subst h;exact hw
theorem JW.apart {j:Nat} {D:Nat->J0a} {w:World} (h:JW H j D w):Apart (ShJ H) (J38 H j D) (RdJ H j D):=by
 have cne:∀ i,i<j->∀ b,J53 (.cell ⟨H.C,i,none⟩)=some b->b=H.C:=fun i _ b hb=>by simp [J53] at hb;exact hb.symm
 refine ⟨?_,?_,?_,?_⟩
 ·rintro k k' l ⟨i,hi,rfl,h1⟩ ⟨i',hi',rfl,h2⟩;by_cases e:i=i'
  ·rw [e]
  ·exfalso;rcases h1 with ⟨b,hb,ho⟩|rfl
   ·rcases h2 with ⟨b',hb',ho'⟩|rfl
    ·rw [hb] at hb';cases hb';exact h.J54 i i' hi hi' e b ho (h.J2o i' hi' b ho')
    ·have:=cne i' hi' b hb;exact (h.avoid i hi b (h.J2o i hi b ho)).2.1 this
   ·rcases h2 with ⟨b',hb',ho'⟩|h2
    ·have:=cne i hi b' hb';exact (h.avoid i' hi' b' (h.J2o i' hi' b' ho')).2.1 this
    ·simp only [Loc.cell.injEq,Addr.mk.injEq] at h2;exact e h2.2.1
 ·rintro k k' l ⟨i,hi,rfl,h1⟩ ⟨i',hi',e,b',hb',hX,hn⟩;rcases h1 with ⟨b,hb,ho⟩|rfl
  ·have e2:b=b':=Ja0 (hb.symm.trans hb');subst e2;by_cases e:i=i'
   ·subst e;exact hn ho
   ·exact h.J54 i i' hi hi' e b ho hX
  ·have:=cne i hi b' hb';exact (h.avoid i' hi' b' hX).2.1 this
 ·rintro k l ⟨i,hi,rfl,h1⟩ hs;rcases h1 with ⟨b,hb,ho⟩|rfl
  ·have ha:=h.avoid i hi b (h.J2o i hi b ho);rcases Jfe hb hs with hw|hw
   ·exact ha.2.2 hw
   ·exact ha.1 hw
  ·rcases Jfe (b:=H.C) rfl hs with hw|hw
   ·exact h.cW hw
   ·exact h.cw hw
 ·rintro k l ⟨i,hi,rfl,b,hb,hX,hn⟩ hs;have ha:=h.avoid i hi b hX;rcases Jfe hb hs with hw|hw
  ·exact ha.2.2 hw
  ·exact ha.1 hw
theorem Jvm {j:Nat} {D:Nat->J0a} {i:Nat} (hi:i<j) {e:Event} (h:EvG (D i).own (D i).X e) (fn:FuncId) (pos:String):OkW (ShJ H) (J38 H j D) (RdJ H j D) (H.m+1+i) { g:=H.m+1+i,fn,pos,act:=.ofEvent e }:=by
 refine ⟨rfl,fun x hx=>?_⟩;obtain ⟨loc,wr,sy⟩:=e;have key:∀ b,J53 loc=some b->((D i).X b/\(wr=true->(D i).own b))->x.loc=loc->x.write=wr->J38 H j D (H.m+1+i) x.loc\/(RdJ H j D (H.m+1+i) x.loc/\x.write=false):=by
  intro b hb ⟨h1,h2⟩ e1 e2;by_cases ho:(D i).own b
  ·exact .inl ⟨i,hi,rfl,.inl ⟨b,by rw [e1];exact hb,ho⟩⟩
  ·refine .inr ⟨⟨i,hi,rfl,b,by rw [e1];exact hb,h1,ho⟩,?_⟩;cases hw:wr with
   | false=>rw [e2,hw]
   | true=>exact absurd (h2 hw) ho
 cases loc with
 | cell a=>
  obtain ⟨h1,h3⟩:=h;simp only at h3;subst h3;have hx':=hx;simp only [MemAct.ofEvent,MemAct.touch?,Jb2] at hx';subst hx';exact .inr (key _ rfl h1 rfl rfl)
 | obj r=>
  obtain ⟨h1,h3⟩:=h;simp only at h3;subst h3;have hx':=hx;have e:MemAct.ofEvent ⟨.obj r,wr,false⟩=.access ⟨.obj r,wr,false⟩:=by cases wr<;>rfl
  simp only [e,MemAct.touch?,Jb2] at hx';subst hx';exact .inr (key _ rfl h1 rfl rfl)
 | mark m=>cases m<;>first|exact h.elim|(simp [MemAct.ofEvent,MemAct.touch?] at hx)
 | output=>exact h.elim
 | goroutines=>exact h.elim
theorem Jp8 {own X:Nat->Prop} {e:Event} (h:EvG own X e) {x:Touch} (hx:(MemAct.ofEvent e).touch?=some x):x.kind=.plain/\x.loc.isMemory=true:=by
 obtain ⟨loc,wr,sy⟩:=e;cases loc with
 | cell a=>
  obtain ⟨h1,h3⟩:=h;simp only at h3;subst h3;simp only [MemAct.ofEvent,MemAct.touch?,Jb2] at hx;subst hx;exact ⟨rfl,rfl⟩
 | obj r=>
  obtain ⟨h1,h3⟩:=h;simp only at h3;subst h3;have e:MemAct.ofEvent ⟨.obj r,wr,false⟩=.access ⟨.obj r,wr,false⟩:=by cases wr<;>rfl
  simp only [e,MemAct.touch?,Jb2] at hx;subst hx;exact ⟨rfl,rfl⟩
 | mark m=>cases m<;>first|exact h.elim|(simp [MemAct.ofEvent,MemAct.touch?] at hx)
 | output=>exact h.elim
 | goroutines=>exact h.elim
theorem Jvn {own X:Nat->Prop} {B:Nat} {e:Event} (h:EvG own X e) (hB:∀ b,X b->b<B):(MemAct.ofEvent e).low B:=(h.evL (W:=fun _=>False) (fun _ h=>h.elim) hB).2.2.2
theorem J9w {own X:Nat->Prop} {e:Event} (h:EvG own X e):e.loc≠.mark .disable/\e.loc≠.mark .enable/\∀ a,e.loc≠.mark (.release a):=by refine ⟨?_,?_,fun a=>?_⟩<;>(intro he;unfold EvG at h;rw [he] at h;exact h)
end
end Go.Sim
end
section
set_option linter.unusedSectionVars false
namespace Go.Sim
open Go.Conc Go.ConcN
open Go.ConcR (KK wgBlock WgAt stA smA rd wr mk Payload DC0)
section
variable [Payload] (H:Ph)
def J9x (tag:J12) (j:Nat) (D:Nat->J0a) (w:World):Prop:=
 let mine (s:Nat):Prop:=¬ H.Sh0 s/\(∀ i,i<j->¬ (D i).X s)/\s≠H.Wg/\s≠H.C/\¬ H.W s
 match tag with
 | .st s=>w.heap[s]?=some (.cells #[.int .i64 0] H.tI)/\mine s
 | .kds s | .a1 s | .rd s | .kes s | .go s=>w.heap[s]?=some (.cells #[.int .i64 j] H.tI)/\mine s
 | _=>True
def J8t (j:Nat) (t:Trace):Prop:=
 ∃ q,t.act? q=some (.mark (.acquire (stA H.Wg)))/\t.g? q=some 0/\t.heard q/\∀ i,i<j->∃ r,RelBy (stA H.Wg) t (H.m+1+i) r/\r<q
structure JInv (tag:J12) (j:Nat) (D:Nat->J0a) (f0 d0:Nat) (q:Nat->Nat) (gs:Array Goroutine) (w:World) (t:Trace):Prop where
 jn:j<=H.n
 size:gs.size=H.m+1+j
 main:∃ a,gs[0]?=some a/\J0s H tag j f0 d0 a w
 ws:∀ i,i<j->∃ g,gs[H.m+1+i]?=some g/\WS H i (D i) g w
 old:∀ k g,0<k->k<=H.m->gs[k]?=some g->QuitsD H.P (q k) (Deaf t k) g
 jw:JW H j D w
 jt:JT H j D d0 w t
 wg:∃ st sm,WgAt H.ty H.Wg w st sm/\Jv j (fun i=>(D i).d) tag st sm
 sb:J9x H tag j D w
 acq:tag=.fin->J8t H j t
def ranks (j:Nat) (D:Nat->J0a):List (Nat × Option Sit):=(List.range j).map fun i=>(i,(D i).rank)
def mu (tag:J12) (j:Nat) (D:Nat->J0a) (f0:Nat) (q:Nat->Nat):Nat × Nat:=
 (J0y H.n (Vc j fun i=>(D i).d) tag+Ssum j (fun i=>(D i).d),f0+2*Fsum j (fun i=>(D i).d)+2*sumTo (H.m+1) q)
abbrev Jme:(Nat × Option Sit)->(Nat × Option Sit)->Prop:=Jmd fun i=>J8r true H.P false (J52 H i)
def Falls (r':Nat) (l':List (Nat × Option Sit)) (μ':Nat × Nat) (r:Nat) (l:List (Nat × Option Sit)) (μ:Nat × Nat):Prop:=
 r'<r\/(r'=r/\J51 (Jme H) l' l)\/(r'=r/\l'=l/\Prod.Lex (· < ·) (· < ·) μ' μ)
variable {H}
theorem Jp9 {j i:Nat} {D:Nat->J0a} {D':J0a} (hi:i<j):ranks j (upd D i D')=(ranks j D).set i (i,D'.rank):=by
 apply List.ext_getElem?;intro k;unfold ranks;rw [List.getElem?_set];simp only [List.getElem?_map,List.getElem?_range',Jc3,List.length_range];by_cases hk:k<j
 ·rw [List.getElem?_range hk];by_cases e:i=k
  ·subst e;simp [upd_same,hk]
  ·simp [e,upd_ne D D' (Ne.symm e)]
 ·have:(List.range j)[k]?=none:=by simp;omega
  rw [this];by_cases e:i=k
  ·omega
  ·simp [e]
theorem Jmf {j i:Nat} {D:Nat->J0a} {D':J0a} (hi:i<j) (h:D'.rank=(D i).rank):ranks j (upd D i D')=ranks j D:=by
 unfold ranks;refine List.map_congr_left fun k hk=>?_;by_cases e:k=i
 ·subst e;simp [upd_same,h]
 ·simp [upd_ne D D' e]
theorem Jd9 {j i:Nat} {D:Nat->J0a} {D':J0a} (hi:i<j) (h:J8r true H.P false (J52 H i) D'.rank (D i).rank):J51 (Jme H) (ranks j (upd D i D')) (ranks j D):=by rw [Jp9 hi];exact Jgc (y:=(i,(D i).rank)) (by simp [ranks,hi]) ⟨rfl,h⟩
theorem JInv.Jrr {tag:J12} {j:Nat} {D:Nat->J0a} {f0 d0:Nat} {q:Nat->Nat} {gs:Array Goroutine} {w:World} {t:Trace} (h:JInv H tag j D f0 d0 q gs w t):Acc (J51 (Jme H)) (ranks j D):=by
 refine Jp6 _ fun a ha=>?_;unfold ranks at ha;obtain ⟨i,hi,rfl⟩:=Jb3.1 ha;obtain ⟨g,_,hw⟩:=h.ws i (by simpa using hi);show Acc (J8r true H.P false (J52 H i)) (D i).rank;cases hw with
 | work y hr _ _ _ hR=>rw [hr];exact Jmc hR.acc
 | r0 hr=>rw [hr];exact J8s
 | tail hr=>rw [hr];exact J8s
theorem J8u (D:Nat->J0a) (i:Nat) (D':J0a):(fun k=>(upd D i D' k).d)=upd (fun k=>(D k).d) i D'.d:=by
 funext k;by_cases e:k=i
 ·subst e;simp [upd_same]
 ·simp [upd_ne _ _ e]
theorem J0s.woken {tag:J12} {j f d:Nat} {a:Goroutine} {w w':World} (hA:∀ g w,H.Anch g w->g.status=.running) (hF:∀ g w,H.Fin g w->g.status=.running) (hl:WgLive H.ty H.Wg w) (h:J0s H tag j f d a w) (r:RM H.ty H.Wg w w') (g g':Goroutine) :
  ∃ tag' f',J0s H tag' j f' d (Conc.woken H.P g g' w' a) w'/\f'<=f+1/\(tag'=tag\/(tag=.blk/\tag'=.w3))/\(mayWake H.P g=true->g'.status=.running->tag'≠.blk):=by
 have run:∀ {a:Goroutine} {w:World},a.status=.running->Conc.woken H.P g g' w' a=a:=fun hr=>woken_run hr;have gm:∀ {Stop:Goroutine->World->Prop} {n:Nat},(∀ g w,Stop g w->g.status=.running)->Goes H.P true (RM H.ty H.Wg) DC0 Stop n a w->a.status=.running:=fun hs hg=>Goes.running hs w id hg;have same:a.status=.running->tag≠.blk->∃ tag' f',J0s H tag' j f' d (Conc.woken H.P g g' w' a) w'/\f'<=f+1/\(tag'=tag\/(tag=.blk/\tag'=.w3))/\(mayWake H.P g=true->g'.status=.running->tag'≠.blk):=
  fun hr hb=>⟨tag,f,by rw [run (w:=w) hr];exact h.rely H r,by omega,.inl rfl,fun _ _=>hb⟩
 cases h with
 | al hr h=>exact same (gm (fun _ _ x=>x.1) h) (by simp)
 | st hr h=>exact same (gm (fun _ _ x=>x.1) h) (by simp)
 | kds hr h=>exact same (gm (fun _ _ x=>x.1) h) (by simp)
 | a1 hr h=>exact same (gm (fun _ _ x=>x.1) h) (by simp)
 | rd hr h=>exact same (gm (fun _ _ x=>x.1) h) (by simp)
 | kes hr h=>exact same (gm (fun _ _ x=>x.1) h) (by simp)
 | go hr h=>exact same (gm (fun _ _ x=>x.1) h) (by simp)
 | kd h=>exact same (gm (fun _ _ x=>x.1) h) (by simp)
 | anch h=>exact same (gm hA h) (by simp)
 | w1 h=>exact same (gm (fun _ _ x=>x.1) h) (by simp)
 | w2 h=>exact same (gm (fun _ _ x=>x.1) h) (by simp)
 | wr h=>exact same (gm (fun _ _ x=>x.1) h) (by simp)
 | w3 h=>exact same (gm (fun _ _ x=>x.1) h) (by simp)
 | w4 h=>exact same (gm (fun _ _ x=>x.1) h) (by simp)
 | ke h=>exact same (gm (fun _ _ x=>x.1) h) (by simp)
 | acq h=>exact same (gm (fun _ _ x=>x.1) h) (by simp)
 | fin h=>exact same (gm hF h) (by simp)
 | @blk g0 w1 h=>
  have h3:=h w id;by_cases hw:(mayWake H.P g && g'.status != .blocked && g'.status != .waiting)=true
  ·refine ⟨.w3,1,?_,by omega,.inr ⟨rfl,rfl⟩,fun _ _=>by simp⟩;have e:Conc.woken H.P g g' w' { g0 with status:=.blocked }=g0:=by unfold Conc.woken;rw [if_pos hw];obtain ⟨fr,cs,st,dy,of⟩:=g0;obtain ⟨a1,a2,_⟩:=h3;simp only at a1 a2;subst a1 a2;rfl
   rw [e];exact .w3 (f:=0) (Goes.stop fun w₁ h₁=>h w₁ (J0g _ _ _ r h₁))
  ·refine ⟨.blk,0,?_,by omega,.inl rfl,fun h1 h2=>?_⟩
   ·have e:Conc.woken H.P g g' w' { g0 with status:=.blocked }={ g0 with status:=.blocked }:=by unfold Conc.woken;rw [if_neg hw]
    rw [e];exact .blk fun w₁ h₁=>h w₁ (J0g _ _ _ r h₁)
   ·rw [h1,h2] at hw;exact absurd rfl hw
end
end Go.Sim
end
section
set_option linter.unusedSectionVars false
namespace Go.Sim
open Go.Conc Go.ConcN
open Go.ConcR (KK wgBlock WgAt stA smA rd wr mk Payload DC0)
section
variable [Payload] {H:Ph}
theorem J7p {P:Program} {g g' b:Goroutine} {w':World} (h:b.status=.running\/b.status=.finished):Conc.woken P g g' w' b=b:=by
 unfold Conc.woken;split
 ·unfold Goroutine.again;rcases h with h|h<;>rw [h]
 ·rfl
theorem WSit.status {P:Program} {ty:TypeId} {Wg C n Low k:Nat} {Own Rd:Nat->Loc->Prop} {v:Value} {s m d:Nat} {g:Goroutine} {w:World} (h:WSit P ty Wg C n Own Rd Low k v s m d g w):g.status=.running\/g.status=.finished:=by
 cases h with
 | r0 h=>exact .inl (Goes.running (fun _ _ x=>x.1) w (RW.refl w) h)
 | k1 h=>exact .inl (Goes.running (fun _ _ x=>x.1) w (RW.refl w) h)
 | d1 h=>exact .inl (Goes.running (fun _ _ x=>x.1) w (RW.refl w) h)
 | d2 h=>exact .inl (Goes.running (fun _ _ x=>x.1) w (RW.refl w) h)
 | d3 h=>exact .inl (Goes.running (fun _ _ x=>x.1) w (RW.refl w) h)
 | d4 h=>exact .inl (Goes.running (fun _ _ x=>x.1) w (RW.refl w) h)
 | quit h=>exact h.status
theorem WS.status {i:Nat} {D:J0a} {g:Goroutine} {w:World} (h:WS H i D g w):g.status=.running\/g.status=.finished:=by
 cases h with
 | work y _ _ _ _ _ _ _ hs=>exact .inl hs
 | r0 _ f _ hs=>exact .inl (Goes.running (fun _ _ x=>x.1) w (RW.refl w) hs)
 | tail _ _ hs=>exact WSit.status hs
theorem JT.appW {j:Nat} {D:Nat->J0a} {d0:Nat} {w w':World} {t:Trace} (h:JT H j D d0 w t) {i:Nat} (hi:i<j) {D':J0a} (hA:Apart (ShJ H) (J38 H j (upd D i D')) (RdJ H j (upd D i D'))) (hz:w.heap.size<=w'.heap.size)
  {fn:FuncId} {pos:String} {es:Array Event} (h0:H.t0.size<=t.size)
  (hown:∀ b,(D i).own b->D'.own b) (hnew:∀ b,D'.own b->(D i).own b\/w.heap.size<=b) (hRd:∀ b,(D'.X b/\¬ D'.own b)↔((D i).X b/\¬ (D i).own b))
  (hok:∀ e∈es,OkW (ShJ H) (J38 H j (upd D i D')) (RdJ H j (upd D i D')) (H.m+1+i) { g:=H.m+1+i,fn,pos,act:=.ofEvent e })
  (hlow:∀ e∈es,(MemAct.ofEvent e).low w'.heap.size) (hpl:∀ e∈es,∀ x,(MemAct.ofEvent e).touch?=some x->¬ ShJ H x.loc->x.kind=.plain/\x.loc.isMemory=true)
  (hnr:∀ e∈es,MemAct.ofEvent e≠.mark (.release (stA H.Wg))) (hdeaf:deafBehind (D i).d.deaf es=D'.d.deaf)
  (hrel:D'.d.stage<=6->∃ r,RelBy (stA H.Wg) (t++MemOp.ofEvents (H.m+1+i) fn pos es) (H.m+1+i) r) :
  JT H j (upd D i D') d0 w' (t++MemOp.ofEvents (H.m+1+i) fn pos es):=by
 have hg:∀ op∈MemOp.ofEvents (H.m+1+i) fn pos es,op.g=H.m+1+i:=fun op hop=>by obtain ⟨e,_,rfl⟩:=Conc.mem_ofEvents hop;rfl
 have Jax:∀ k,k<j->k≠i->upd D i D' k=D k:=fun k _ hk=>upd_ne D D' hk;have hct:CT (ShJ H) (J38 H j (upd D i D')) (RdJ H j (upd D i D')) t (H.m+j):=by
  refine Sim.CT.widen h.ct ?_ ?_ ?_
  ·rintro k _ _ l ⟨a,ha,rfl,h1⟩;refine ⟨a,ha,rfl,?_⟩;by_cases e:a=i
   ·subst e;rw [upd_same];exact h1.imp (fun ⟨b,hb,ho⟩=>⟨b,hb,hown b ho⟩) id
   ·rw [Jax a ha e];exact h1
  ·rintro k _ _ l ⟨a,ha,rfl,h1⟩;by_cases e:a=i
   ·subst e;rw [upd_same] at h1;rcases h1 with ⟨b,hb,ho⟩|rfl
    ·rcases hnew b ho with ho|hge
     ·exact .inl ⟨a,ha,rfl,.inl ⟨b,hb,ho⟩⟩
     ·exact .inr (J9u h.low (fun hl=>by have:=(Jp7 hb).1 hl;omega))
    ·exact .inl ⟨a,ha,rfl,.inr rfl⟩
   ·rw [Jax a ha e] at h1;exact .inl ⟨a,ha,rfl,h1⟩
  ·intro k _ _ l;constructor
   ·rintro ⟨a,ha,rfl,b,hb,h1⟩;refine ⟨a,ha,rfl,b,hb,?_⟩;by_cases e:a=i
    ·subst e;rw [upd_same] at h1;exact (hRd b).1 h1
    ·rw [Jax a ha e] at h1;exact h1
   ·rintro ⟨a,ha,rfl,b,hb,h1⟩;refine ⟨a,ha,rfl,b,hb,?_⟩;by_cases e:a=i
    ·subst e;rw [upd_same];exact (hRd b).2 h1
    ·rw [Jax a ha e];exact h1
 refine ⟨hct.appW hA (k:=H.m+1+i) (by omega) (by omega) fun op hop=>?_,?_,?_,?_,?_,?_,?_,?_,?_⟩
 ·obtain ⟨e,he,rfl⟩:=Conc.mem_ofEvents hop;exact hok e he
 ·obtain ⟨u,hu⟩:=h.pre;exact ⟨u++MemOp.ofEvents (H.m+1+i) fn pos es,by rw [hu,Array.append_assoc]⟩
 ·refine seen_app (fun op hop=>MemAct.low_mono hz (h.low op hop)) fun op hop=>?_;obtain ⟨e,he,rfl⟩:=Conc.mem_ofEvents hop;exact hlow e he
 ·intro k op x hk hop hx;rcases getElem?_append_cases hop with ⟨_,h1⟩|⟨_,h1⟩
  ·exact h.new k op x hk h1 hx
  ·obtain ⟨e,he,rfl⟩:=Conc.mem_ofEvents h1;exact ⟨.inr ⟨i,hi,rfl⟩,hpl e he x hx⟩
 ·exact h.J9v.app fun op hop=>by obtain ⟨e,he,rfl⟩:=Conc.mem_ofEvents hop;exact hnr e he
 ·rw [Deaf_other t (g:=0) (g':=H.m+1+i) (by omega) _ hg];exact h.deaf0
 ·intro k hk;by_cases e:k=i
  ·subst e;rw [Deaf_own,h.deafW k hk,upd_same];exact hdeaf
  ·rw [Deaf_other t (g:=H.m+1+k) (g':=H.m+1+i) (by omega) _ hg,Jax k hk e];exact h.deafW k hk
 ·intro k hk;rw [Deaf_other t (g:=k) (g':=H.m+1+i) (by omega) _ hg];exact h.above k hk
 ·intro k hk hs;by_cases e:k=i
  ·subst e;rw [upd_same] at hs;exact hrel hs
  ·rw [Jax k hk e] at hs;obtain ⟨r,hr⟩:=h.rel k hk hs;exact ⟨r,hr.appOther hg (by omega)⟩
def J2x (H:Ph) (tag:J12) (j:Nat) (D:Nat->J0a) (f0:Nat) (q:Nat->Nat) (i:Nat) (gs:Array Goroutine) (w:World) (sl:Option (Nat × Nat)) (t:Trace):Prop:=
 ∃ gs' w' ops tag' j' D' f' d' q',runT H.P (crowd gs w sl) i=(.next (crowd gs' w' sl),ops)/\JInv H tag' j' D' f' d' q' gs' w' (t++ops) /\
  Falls H (H.n-j') (ranks j' D') (mu H tag' j' D' f' q') (H.n-j) (ranks j D) (mu H tag j D f0 q)
theorem J9x.keep {tag tag':J12} {j:Nat} {D D':Nat->J0a} {w w':World} (h:J9x H tag j D w) (ht:tag'=tag\/(tag=.blk/\tag'=.w3)) (hw:∀ s,(∀ i,i<j->¬ (D i).X s)->s≠H.Wg->s≠H.C->s<w.heap.size->w'.heap[s]?=w.heap[s]?)
  (hX:∀ s,s<w.heap.size->(∀ i,i<j->¬ (D i).X s)->∀ i,i<j->¬ (D' i).X s):J9x H tag' j D' w':=by
 rcases ht with rfl|⟨rfl,rfl⟩
 ·have key:∀ (s:Nat) (o:Obj),w.heap[s]?=some o->(¬ H.Sh0 s/\(∀ i,i<j->¬ (D i).X s)/\s≠H.Wg/\s≠H.C/\¬ H.W s)->w'.heap[s]?=some o/\(¬ H.Sh0 s/\(∀ i,i<j->¬ (D' i).X s)/\s≠H.Wg/\s≠H.C/\¬ H.W s):=by intro s o h1 ⟨h2,h3,h4,h5,h6⟩;have hs:s<w.heap.size:=(Ja3.1 h1).1;exact ⟨(hw s h3 h4 h5 hs).trans h1,h2,hX s hs h3,h4,h5,h6⟩
  cases tag'<;>first|trivial|exact key _ _ h.1 h.2
 ·trivial
theorem J8t.app {j:Nat} {t u:Trace} (h:J8t H j t) (hu:∀ i r,i<j->RelBy (stA H.Wg) t (H.m+1+i) r->RelBy (stA H.Wg) (t++u) (H.m+1+i) r):J8t H j (t++u):=by
 obtain ⟨q,h1,h2,h3,h4⟩:=h;have hq:=lt_of_act? h1;exact ⟨q,by rw [act?_old hq];exact h1,by rw [g?_old hq];exact h2,(heard_old hq).2 h3,fun i hi=>let ⟨r,hr,hrq⟩:=h4 i hi;⟨r,hu i r hi hr,hrq⟩⟩
end
end Go.Sim
end
section
set_option linter.unusedSectionVars false
namespace Go.Sim
open Go.Conc Go.ConcN
open Go.ConcR (KK wgBlock WgAt stA smA rd wr mk Payload DC0)
section
variable [Payload] {H:Ph} {tag:J12} {j:Nat} {D:Nat->J0a} {f0 d0:Nat} {q:Nat->Nat} {gs:Array Goroutine} {w:World} {sl:Option (Nat × Nat)} {t:Trace}
theorem JInv.Ju8 (h:JInv H tag j D f0 d0 q gs w t):H.t0.size<=t.size:=by obtain ⟨u,hu⟩:=h.jt.pre;rw [hu];simp
theorem JInv.live (h:JInv H tag j D f0 d0 q gs w t):WgLive H.ty H.Wg w:=let ⟨st,sm,x,_⟩:=h.wg;⟨st,sm,x⟩
theorem Jv.retag {D:Nat->WD} {tag':J12} {st sm:Int} (h:Jv j D tag st sm) (e:tag'=tag\/(tag=.blk/\tag'=.w3)):Jv j D tag' st sm:=by
 rcases e with rfl|⟨rfl,rfl⟩
 ·exact h
 ·cases h with
  | opn h1 _ _=>exact h1.elim
  | reg _ h2 h3=>exact .reg trivial h2 h3
  | last L _ h2 h3 h4=>exact .last L trivial h2 h3 h4
  | sema h1 h2=>rcases h1 with h1|h1<;>cases h1
  | fin h1 _=>exact h1.elim
theorem J5s (hQ:∀ i own X v w w',H.Q i own X v w->J07 true X w w'->H.Q i own X v w') (hAr:∀ g w,H.Anch g w->g.status=.running) (hFr:∀ g w,H.Fin g w->g.status=.running)
  (h:JInv H tag j D f0 d0 q gs w t) {i:Nat} (hi:i<j) {g g':Goroutine} {w':World} {es:Array Event} (hg:gs[H.m+1+i]?=some g) (hgo:stepG H.P false g w=.go g' w' es) {D':J0a}
  (hz:w.heap.size<=w'.heap.size) (ho:∀ i',i'<j->i'≠i->Oth H i' (D i').X w w') (hws:WS H i D' g' w') (hjw:JW H j (upd D i D') w')
  (hown:∀ b,(D i).own b->D'.own b) (hnew:∀ b,D'.own b->(D i).own b\/w.heap.size<=b) (hRd:∀ b,(D'.X b/\¬ D'.own b)↔((D i).X b/\¬ (D i).own b)) (hXn:∀ b,D'.X b->(D i).X b\/w.heap.size<=b)
  (hok:∀ e∈es,OkW (ShJ H) (J38 H j (upd D i D')) (RdJ H j (upd D i D')) (H.m+1+i) { g:=H.m+1+i,fn:=g.frame.fn,pos:=g.frame.place,act:=.ofEvent e })
  (hlow:∀ e∈es,(MemAct.ofEvent e).low w'.heap.size) (hpl:∀ e∈es,∀ x,(MemAct.ofEvent e).touch?=some x->¬ ShJ H x.loc->x.kind=.plain/\x.loc.isMemory=true)
  (hnr:∀ e∈es,MemAct.ofEvent e≠.mark (.release (stA H.Wg))) (hdeaf:deafBehind (D i).d.deaf es=D'.d.deaf)
  (hrel:D'.d.stage<=6->∃ r,RelBy (stA H.Wg) (t++MemOp.ofEvents (H.m+1+i) g.frame.fn g.frame.place es) (H.m+1+i) r)
  (J038:tag=.fin->∀ r,RelBy (stA H.Wg) t (H.m+1+i) r->RelBy (stA H.Wg) (t++MemOp.ofEvents (H.m+1+i) g.frame.fn g.frame.place es) (H.m+1+i) r)
  (hrm:RM H.ty H.Wg w w') {st' sm':Int} (hwg:WgAt H.ty H.Wg w' st' sm')
  (hmode:∀ tag',(tag'=tag\/(tag=.blk/\tag'=.w3))->(mayWake H.P g=true->g'.status=.running->tag'≠.blk)->Jv j (fun k=>(upd D i D' k).d) tag' st' sm')
  (hsb:∀ s,(∀ i',i'<j->¬ (D i').X s)->s≠H.Wg->s≠H.C->s<w.heap.size->w'.heap[s]?=w.heap[s]?)
  (J039:∀ tag' f',f'<=f0+1->(tag'=tag\/(tag=.blk/\tag'=.w3))->Falls H (H.n-j) (ranks j (upd D i D')) (mu H tag' j (upd D i D') f' q) (H.n-j) (ranks j D) (mu H tag j D f0 q)) :
  J2x H tag j D f0 q (H.m+1+i) gs w sl t:=by
 obtain ⟨a,ha,hsit⟩:=h.main;obtain ⟨tag',f',Jmg,hf',htag,hwk⟩:=hsit.woken hAr hFr h.live hrm g g';have hne:(H.m+1+i == 0)=false:=by simp
 have hrun:=runT_crowd_go (P:=H.P) (sl:=sl) (i:=H.m+1+i) hg (by rw [hne];exact hgo);have hlt:H.m+1+i<gs.size:=(Ja3.1 hg).1;have J5t:∀ op∈MemOp.ofEvents (H.m+1+i) g.frame.fn g.frame.place es,op.g=H.m+1+i:=fun op hop=>by obtain ⟨e,_,rfl⟩:=Conc.mem_ofEvents hop;rfl
 refine ⟨_,w',_,tag',j,upd D i D',f',d0,q,hrun,⟨h.jn,by simpa using h.size,⟨_,?_,Jmg⟩,fun k hk=>?_,fun k b hk1 hk2 hb=>?_,hjw,?_,⟨st',sm',hwg,hmode tag' htag hwk⟩,?_,fun e'=>?_⟩,J039 tag' f' hf' htag⟩
 ·rw [Ja1 (by omega),Array.getElem?_map,ha];rfl
 ·by_cases e:k=i
  ·subst e;exact ⟨g',by rw [Ja9 (by simpa using hlt)],by rw [upd_same];exact hws⟩
  ·obtain ⟨b,hb,hwb⟩:=h.ws k hk;refine ⟨b,?_,by rw [upd_ne D D' e];exact hwb.other H hQ (ho k hk e)⟩;rw [Ja1 (by omega),Array.getElem?_map,hb];simp [J7p hwb.status]
 ·rw [Ja1 (by omega),Array.getElem?_map] at hb;obtain ⟨y,hy,rfl⟩:=Jc0.1 hb;have hq:=h.old k y hk1 hk2 hy;rw [woken_quitsD hq,Deaf_other t (g:=k) (g':=H.m+1+i) (by omega) _ J5t];exact hq
 ·exact h.jt.appW hi hjw.apart hz h.Ju8 hown hnew hRd hok hlow hpl hnr hdeaf hrel
 ·refine h.sb.keep htag hsb fun s hs hX k hk=>?_;by_cases e:k=i
  ·subst e;rw [upd_same];intro hx;rcases hXn s hx with hx|hx
   ·exact hX k hk hx
   ·omega
  ·rw [upd_ne D D' e];exact hX k hk
 ·have hat:J8t H j t:=by
   rcases htag with rfl|⟨_,rfl⟩
   ·exact h.acq e'
   ·cases e'
  refine hat.app fun k r hk hr=>?_;by_cases e:k=i
  ·subst e;refine J038 ?_ r hr;rcases htag with rfl|⟨_,rfl⟩
   ·exact e'
   ·cases e'
  ·exact hr.appOther J5t (by omega)
theorem RW.of_same {ty:TypeId} {Wg C n i:Nat} {w w':World} (h1:w'.heap[Wg]?=w.heap[Wg]?) (h2:w'.heap[C]?=w.heap[C]?):RW ty Wg C n 0 i w w':=
 ⟨fun b hb=>by omega,fun ⟨st,sm,hl⟩=>⟨st,sm,hl.of_block h1⟩,fun ⟨cs,hc,hn⟩=>⟨cs,h2.trans hc,hn⟩,cell_of_block h2 i⟩
theorem Jpa (hQ:∀ i own X v w w',H.Q i own X v w->J07 true X w w'->H.Q i own X v w') (hAr:∀ g w,H.Anch g w->g.status=.running) (hFr:∀ g w,H.Fin g w->g.status=.running)
  (h:JInv H tag j D f0 d0 q gs w t) {i:Nat} (hi:i<j) {y:Sit} (hr:(D i).rank=some y) (ho:y.own=(D i).own) (hX:y.X=(D i).X) (hR:Runs true H.P false (J52 H i) y) (hw:J07 true y.X y.w w) (hd:(D i).d=⟨7,0,0⟩)
  (hns:¬ ∀ w1,J07 true y.X y.w w1->J52 H i { y with w:=w1 }) (hg:gs[H.m+1+i]?=some y.g):J2x H tag j D f0 q (H.m+1+i) gs w sl t:=by
 have hR0:=hR;cases hR with
 | stop hs=>exact absurd hs hns
 | step f hf kR=>
  have hg1:=hf w hw;obtain ⟨es,hgo,hG⟩:=hg1.step;rw [ho,hX] at hG;have hJ:=h.jw;have keep:∀ b,b<w.heap.size->¬ (D i).own b->(f w).w.heap[b]?=w.heap[b]?:=hG.keep;have Jiu:∀ b,(∀ k,k<j->¬ (D k).X b)\/b=H.Wg\/b=H.C\/H.Sh0 b\/(∃ k,k<j/\k≠i/\(D k).X b)->¬ (D i).own b:=by
   intro b hb hob;have hXb:=hJ.J2o i hi b hob;rcases hb with hb|rfl|rfl|hb|⟨k,hk,hki,hb⟩
   ·exact hb i hi hXb
   ·exact (hJ.avoid i hi _ hXb).1 rfl
   ·exact (hJ.avoid i hi _ hXb).2.1 rfl
   ·exact hJ.J5m i hi b hob hb
   ·exact hJ.J54 i k hi hk (Ne.symm hki) b hob hb
  have eW:(f w).w.heap[H.Wg]?=w.heap[H.Wg]?:=keep _ hJ.wg (Jiu _ (.inr (.inl rfl)));have eC:(f w).w.heap[H.C]?=w.heap[H.C]?:=keep _ hJ.c (Jiu _ (.inr (.inr (.inl rfl))));have rw0:∀ k,RW H.ty H.Wg H.C H.n 0 k w (f w).w:=fun k=>RW.of_same eW eC;obtain ⟨st,sm,hwg,hmode⟩:=h.wg;have eo:(f w).own=grown (D i).own w (f w).w:=by rw [hg1.own,ho]
  have eX:(f w).X=grown (D i).X w (f w).w:=by rw [hg1.X,hX]
  let D':J0a:={ own:=(f w).own,X:=(f w).X,v:=(D i).v,rank:=some (f w),d:=⟨7,0,0⟩ }
  have J03a:(fun k=>(upd D i D' k).d)=fun k=>(D k).d:=by
   rw [J8u];funext k;by_cases e:k=i
   ·subst e;rw [upd_same];exact hd.symm
   ·rw [upd_ne _ _ e]
  have own':∀ b,D'.own b↔(D i).own b\/(w.heap.size<=b/\b<(f w).w.heap.size):=fun b=>by show (f w).own b↔_;rw [eo];exact Iff.rfl
  have X':∀ b,D'.X b↔(D i).X b\/(w.heap.size<=b/\b<(f w).w.heap.size):=fun b=>by show (f w).X b↔_;rw [eX];exact Iff.rfl
  have hjw:JW H j (upd D i D') (f w).w:=by
   have other:∀ k,k≠i->upd D i D' k=D k:=fun k hk=>upd_ne D D' hk;refine ⟨fun b hb=>(keep b (hb.elim (fun h=>(hJ.sh0 b h).1) (hJ.wl b)) (hb.elim (fun h=>Jiu b (.inr (.inr (.inr (.inl h))))) fun h ho=>(hJ.avoid i hi b (hJ.J2o i hi b ho)).2.2 h)).trans (hJ.keep b hb),(rw0 0).pay hJ.pay,fun k hk hs=>?_,fun k hk b hb=>?_,fun k hk b hb=>?_,fun a b ha hb hab c hc=>?_,fun k hk b hb=>?_,fun k hk b hb=>?_,
    Jb7 hJ.wg hG.size,Jb7 hJ.c hG.size,hJ.cw,hJ.cW,hJ.wW,fun b hb=>?_,fun b hb=>Jb7 (hJ.wl b hb) hG.size,hG.os.trans hJ.os,hG.out.trans hJ.out⟩
   ·by_cases e:k=i
    ·subst e;rw [upd_same] at hs;exact absurd hs (by show ¬ (7<=6);omega)
    ·rw [other k e] at hs ⊢;exact (cell_of_block eC k).trans (hJ.has k hk hs)
   ·by_cases e:k=i
    ·subst e;rw [upd_same] at hb;rcases (X' b).1 hb with hb|hb
     ·exact Jb7 (hJ.low k hk b hb) hG.size
     ·exact hb.2
    ·rw [other k e] at hb;exact Jb7 (hJ.low k hk b hb) hG.size
   ·by_cases e:k=i
    ·subst e;rw [upd_same] at hb ⊢;rcases (own' b).1 hb with hb|hb
     ·exact (X' b).2 (.inl (hJ.J2o k hk b hb))
     ·exact (X' b).2 (.inr hb)
    ·rw [other k e] at hb ⊢;exact hJ.J2o k hk b hb
   ·by_cases e:a=i
    ·subst e;rw [upd_same] at hc;rw [other b (Ne.symm hab)];rcases (own' c).1 hc with hc|hc
     ·exact hJ.J54 a b ha hb hab c hc
     ·intro hx;have:=hJ.low b hb c hx;omega
    ·rw [other a e] at hc;by_cases e2:b=i
     ·subst e2;rw [upd_same];intro hx;rcases (X' c).1 hx with hx|hx
      ·exact hJ.J54 a b ha hb hab c hc hx
      ·have:=hJ.low a ha c (hJ.J2o a ha c hc);omega
     ·rw [other b e2];exact hJ.J54 a b ha hb hab c hc
   ·by_cases e:k=i
    ·subst e;rw [upd_same] at hb;rcases (own' b).1 hb with hb|hb
     ·exact hJ.J5m k hk b hb
     ·intro hs;have:=(hJ.sh0 b hs).1;omega
    ·rw [other k e] at hb;exact hJ.J5m k hk b hb
   ·by_cases e:k=i
    ·subst e;rw [upd_same] at hb;rcases (X' b).1 hb with hb|hb
     ·exact hJ.avoid k hk b hb
     ·have h1:=hJ.wg;have h2:=hJ.c;exact ⟨by omega,by omega,fun hw=>by have:=hJ.wl b hw;omega⟩
    ·rw [other k e] at hb;exact hJ.avoid k hk b hb
   ·have:=hJ.sh0 b hb;exact ⟨Jb7 this.1 hG.size,this.2⟩
  have hev:∀ e∈es,EvG ((upd D i D') i).own ((upd D i D') i).X e:=fun e he=>by have:=hG.evs e he;rw [upd_same];show EvG (f w).own (f w).X e;rw [eo,eX];exact this
  have J03b:∀ b,((upd D i D') i).X b->b<(f w).w.heap.size:=fun b hb=>hjw.low i hi b hb;refine J5s (D':=D') hQ hAr hFr h hi hg hgo hG.size (fun k hk hki=>⟨⟨fun b hb=>keep b (hJ.low k hk b hb) (Jiu b (.inr (.inr (.inr (.inr ⟨k,hk,hki,hb⟩))))),hG.size,fun e=>by (cases e),hG.os⟩,rw0 k⟩)
   (.work (f w) rfl rfl rfl rfl (kR w hw) ⟨fun _ _=>rfl,Ja2 _,fun _=>rfl,rfl⟩ rfl hg1.run hg1.offers) hjw
   (fun b hb=>(own' b).2 (.inl hb)) (fun b hb=>((own' b).1 hb).imp id (·.1)) (fun b=>?_) (fun b hb=>((X' b).1 hb).imp id (·.1))
   (fun e he=>Jvm hi (hev e he) _ _) (fun e he=>Jvn (hev e he) J03b) (fun e he x hx _=>Jp8 (hev e he) hx) (fun e he hx=>?_) ?_ (fun hs=>absurd hs (by show ¬ (7<=6);omega)) (fun ef r hr=>?_) (rw0 0).live
   (st':=st) (sm':=sm) (hwg.of_block eW) (fun tag' ht _=>?_) (fun s h1 _ _ h4=>keep s h4 (Jiu s (.inl h1))) (fun tag' f' _ _=>.inr (.inl ⟨rfl,Jd9 hi (by rw [hr];exact .step ⟨⟨w,hw,hg1⟩,hns⟩)⟩))
  ·constructor
   ·rintro ⟨h1,h2⟩;rcases (X' b).1 h1 with h1|h1
    ·exact ⟨h1,fun h3=>h2 ((own' b).2 (.inl h3))⟩
    ·exact absurd ((own' b).2 (.inr h1)) h2
   ·rintro ⟨h1,h2⟩;refine ⟨(X' b).2 (.inl h1),fun h3=>?_⟩;rcases (own' b).1 h3 with h3|h3
    ·exact h2 h3
    ·have:=hJ.low i hi b h1;omega
  ·have:=(J9w (hev e he)).2.2 (stA H.Wg);obtain ⟨loc,wr,sy⟩:=e;cases loc with
   | mark m=>simp only [MemAct.ofEvent,MemAct.mark.injEq] at hx;subst hx;exact this rfl
   | obj r=>cases wr<;>cases sy<;>simp [MemAct.ofEvent] at hx
   | _=>simp [MemAct.ofEvent] at hx
  ·rw [hd];exact deafBehind_still (fun e he=>⟨(J9w (hev e he)).1,(J9w (hev e he)).2.1⟩) _
  ·exfalso;subst ef;cases hmode with
   | opn h1=>exact h1
   | reg h1=>exact h1
   | last L h1=>exact h1
   | sema h1=>rcases h1 with h1|h1<;>cases h1
   | fin h1 h2=>have:=h2 i hi;simp only [hd] at this;omega
  ·rw [J03a];exact hmode.retag ht
end
end Go.Sim
end
