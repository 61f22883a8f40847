/- PROVED HERE: laws that the statement rests on (parts Zq, Xn). Conditions: none. -/
import Derived.Test.YtlcbehhbfglgaaaGreatE32
import Derived.Test.YtlcbehhbfglgaaaGreatE36
set_option linter.all false
namespace Go.Sim.Z
open Go Go.Proofs Go.RowKit Go.Maps
noncomputable def d38:Code:=fC b38
noncomputable def ops38:Array Oper:=match fC (sC b38) with | .region _ ops _=>ops|_=>#[]
theorem b38_eq:∃ id,b38=.seq d38 (.seq (.region id ops38 true) rest38):=⟨3,by kernel_rfl⟩
def r3F (x m vm base b3:Nat):Nat→Value→Prop
 | 0,v=>v=pt x
 | 1,v=>v=pt x
 | 2,v=>v=pt x 7
 | 3,v=>v=.map (some vm)
 | 4,v=>v=pt x
 | 5,v=>v=.int .i64 m
 | 6,v=>v=.int .i64 7
 | 7,v=>v=.map (some base)
 | 8,v=>v=.int .i64 m
 | _,v=>v=.func (.func 42) #[] #[pt b3]
section
variable {w:World} {x:Nat} {c:CfgD} {seed nf:Int} {h:Value} {vm base m b1 b2 b3 l:Nat} {f:Nat→Value} {d:Deferred}
set_option maxRecDepth 100000 in
set_option maxHeartbeats 2000000 in
theorem d38_wp (q:CubeAt w x c seed h nf vm base) (hm8:m<8) (k1:w.cell? ⟨b1,0,none⟩=some (pt x)) (k2:w.cell? ⟨b2,0,none⟩=some (.int .i64 m)) (k3:w.cell? ⟨b3,0,none⟩=some (.slice none 0 0)) :
  d38.wp Tryz.prog (fun e a w'=>e=.normal∧a.defers=[d]∧a.tmps=#[.func (.yield l) #[] #[],pt b1,pt b2,pt b3,f 4,.nilIface,f 6,f 7,f 8,f 9,f 10,pt x,.int .i64 m,.slice none 0 0,.nilIface,.nilIface,.bool false,f 17,f 18,f 19,f 20,f 21,f 22,f 23,f 24,f 25,f 26,f 27,f 28,f 29,f 30,f 31,f 32,f 33,f 34,f 35,f 36,f 37,f 38,f 39,f 40,f 41,f 42,f 43,f 44,f 45,f 46,f 47,f 48,f 49,f 50,f 51,f 52,f 53,f 54,f 55,f 56,f 57,f 58,f 59,f 60,f 61,f 62,f 63,f 64,f 65,f 66,f 67,f 68,f 69,f 70,f 71,f 72,f 73,f 74]∧w'=w) ⟨#[.func (.yield l) #[] #[],pt b1,pt b2,pt b3,f 4,f 5,f 6,f 7,f 8,f 9,f 10,f 11,f 12,f 13,f 14,f 15,f 16,f 17,f 18,f 19,f 20,f 21,f 22,f 23,f 24,f 25,f 26,f 27,f 28,f 29,f 30,f 31,f 32,f 33,f 34,f 35,f 36,f 37,f 38,f 39,f 40,f 41,f 42,f 43,f 44,f 45,f 46,f 47,f 48,f 49,f 50,f 51,f 52,f 53,f 54,f 55,f 56,f 57,f 58,f 59,f 60,f 61,f 62,f 63,f 64,f 65,f 66,f 67,f 68,f 69,f 70,f 71,f 72,f 73,f 74],[d]⟩ w:=by
 have hch:=check_calls q hm8
 simp only [d38,b38,fC,Tryz.f38,Option.getD_some]
 go_wp2_with (go_at_call 39;refine hch.mono ?_;rintro e w1 ⟨rfl,rfl⟩)
set_option maxRecDepth 100000 in
set_option maxHeartbeats 2000000 in
theorem r38_3_pre {T0:Array Value} {pre:List Nat} (hW:Walks Tryz.prog ops38 10 pre (Array.replicate ops38.size false)) (q:CubeAt w x c seed h nf vm base) (hm8:m<8) (k1:w.cell? ⟨b1,0,none⟩=some (pt x)) (k2:w.cell? ⟨b2,0,none⟩=some (.int .i64 m))
  (hT:T0.size=75) (t1:T0[1]?=some (pt b1)) (t2:T0[2]?=some (pt b2)) (t3:T0[3]?=some (pt b3))
  {K:Exit→Act→World→Prop} (hK:∀ a w',a.defers=[d]→a.tmps.size=75→(∀ s,s<21→a.tmps[s]?=T0[s]?)→(∀ s,30<s→a.tmps[s]?=T0[s]?)→a.tmps[28]?=some (.map (some base))→a.tmps[29]?=some (.int .i64 m)→a.tmps[30]?=some (.func (.func 42) #[] #[pt b3])→Tch w.heap.size M0 w w'→K .normal a w') :
  wpOps Tryz.prog ops38 K pre ⟨T0,[d]⟩ w:=by
 have k1:∀ w1,Tch w.heap.size M0 w w1→w1.cell? ⟨b1,0,none⟩=some (pt x):=fun w1 t=>(t.cell (cell_lt k1) fun h=>h).trans k1
 have k2:∀ w1,Tch w.heap.size M0 w w1→w1.cell? ⟨b2,0,none⟩=some (.int .i64 m):=fun w1 t=>(t.cell (cell_lt k2) fun h=>h).trans k2
 have qk:∀ w1,Tch w.heap.size M0 w w1→CubeAt w1 x c seed h nf vm base:=fun w1 t=>q.kept (t.heap x q.blk.lt fun h=>h) (t.heap vm q.vs.lt fun h=>h)
 have k7:∀ w1,Tch w.heap.size M0 w w1→w1.cell? ⟨x,7,none⟩=some (.map (some vm)):=fun w1 t=>(qk w1 t).cells.2.2.2.2.2.2.2
 simp only [ops38,b38,fC,sC,Tryz.f38,Option.getD_some] at hW ⊢
 refine hW.dag (M:=M0) (dst:=fun i=>i+21) (fun i v _=>r3F x m vm base b3 i v) (by kernel_rfl) (fun i hi=>by rw [hT];omega) (fun i v w w' h _=>h) ?_ ?_
 ·intro i o a w1 hi ho ht1 hsz hold hd
  have s1:=(hold 1 (by intro i _;show i+21≠1;omega)).trans t1
  have s2:=(hold 2 (by intro i _;show i+21≠2;omega)).trans t2
  have s3:=(hold 3 (by intro i _;show i+21≠3;omega)).trans t3
  match i,hi with
  | 0,_=>
   cases ho
   exact dag_value rfl rfl (by simp [execOp,go_sem,s1,k1 _ ht1];try rfl) ⟨_,rfl,rfl,.refl⟩
  | 1,_=>
   cases ho
   obtain ⟨_,e0,rfl⟩:=hd 0 rfl
   have e0:=(show a.tmps[21]?=some _ from e0)
   exact dag_value rfl rfl (by simp [execOp,go_sem,e0];try rfl) ⟨_,rfl,rfl,.refl⟩
  | 2,_=>
   cases ho
   obtain ⟨_,e1,rfl⟩:=hd 1 rfl
   have e1:=(show a.tmps[22]?=some _ from e1)
   exact dag_value rfl rfl (by simp [execOp,go_sem,e1];try rfl) ⟨_,rfl,rfl,.refl⟩
  | 3,_=>
   cases ho
   obtain ⟨_,e2,rfl⟩:=hd 2 rfl
   have e2:=(show a.tmps[23]?=some _ from e2)
   exact dag_value rfl rfl (by simp [execOp,go_sem,e2,k7 _ ht1];try rfl) ⟨_,rfl,rfl,.refl⟩
  | 4,_=>
   cases ho
   exact dag_value rfl rfl (by simp [execOp,go_sem,s1,k1 _ ht1];try rfl) ⟨_,rfl,rfl,.refl⟩
  | 5,_=>
   cases ho
   exact dag_value rfl rfl (by simp [execOp,go_sem,s2,k2 _ ht1];try rfl) ⟨_,rfl,rfl,.refl⟩
  | 6,_=>
   cases ho
   obtain ⟨_,e4,rfl⟩:=hd 4 rfl
   have e4:=(show a.tmps[25]?=some _ from e4)
   obtain ⟨_,e5,rfl⟩:=hd 5 rfl
   have e5:=(show a.tmps[26]?=some _ from e5)
   exact dag_call rfl rfl (by simp [execOp,go_sem,e4,e5];try rfl) (best_calls (qk _ ht1) hm8) fun e w2 ⟨h1,h2⟩=>⟨_,h1,_,rfl,rfl,h2⟩
  | 7,_=>
   cases ho
   obtain ⟨_,e3,rfl⟩:=hd 3 rfl
   have e3:=(show a.tmps[24]?=some _ from e3)
   obtain ⟨_,e6,rfl⟩:=hd 6 rfl
   have e6:=(show a.tmps[27]?=some _ from e6)
   exact dag_value rfl rfl (by simp [execOp,go_sem,e3,e6,VMap.lookup (qk _ ht1).vs];try rfl) ⟨_,rfl,rfl,.refl⟩
  | 8,_=>
   cases ho
   exact dag_value rfl rfl (by simp [execOp,go_sem,s2,k2 _ ht1];try rfl) ⟨_,rfl,rfl,.refl⟩
  | 9,_=>
   cases ho
   exact dag_value rfl rfl (by simp [execOp,go_sem,s3];try rfl) ⟨_,rfl,rfl,.refl⟩
  | i+10,h=>exact absurd h (by omega)
 ·intro a w1 ht1 hds hsz hold hf
  obtain ⟨_,f7,rfl⟩:=hf 7 (by omega)
  obtain ⟨_,f8,rfl⟩:=hf 8 (by omega)
  obtain ⟨_,f9,rfl⟩:=hf 9 (by omega)
  exact hK a w1 hds (hsz.trans hT) (fun s hs=>hold s fun i hi=>by show i+21≠s;omega) (fun s hs=>hold s fun i hi=>by show i+21≠s;omega) f7 f8 f9 ht1
end
end Go.Sim.Z
namespace Go.Sim.Z
open Go Go.Proofs Go.RowKit Go.Conc
section
variable {C:Cx} {ok:FuncId→Code→Prop} {E:Nat→Prop} {w w':World} {b:Nat}
theorem lax_loop {r:Loop} (hW:WR C ok (idE E) w w') (he:E b) (ho:w.heap[b]?=some (.loop r)):∃ T',w'.heap[b]?=some (.loop { r with tmps:=T' })∧T'.size=r.tmps.size∧∀ i,(C.hl r.fn).contains i=false→T'[i]?=r.tmps[i]?:=by
 obtain ⟨o1,o',h1,h2,h3⟩:=hW.get (b:=b) (b':=b) ⟨rfl,he⟩
 rw [ho] at h1;cases h1
 have hE:∀ b b',idE E b b'→b=b':=fun _ _ h=>h.1
 obtain ⟨_,l',rfl,h⟩:=h3
 refine ⟨l'.tmps,?_,h.tmps.size.symm,fun i hi=>?_⟩
 ·rw [h2]
  clear h2
  have h1:=h.state
  have h2:=h.pending
  have h3:=h.fn
  have h4:=h.params
  have h5:=h.assign
  have h6:=h.body
  have h7:=hE _ _ h.defers
  clear h ho he hW
  cases r with
  | mk b1 b2 b3 b4 b5 b6 b7 b8=>
   cases l' with
   | mk a1 a2 a3 a4 a5 a6 a7 a8=>
    simp only at h1 h2 h3 h4 h5 h6 h7
    rw [h1,h2,h3,h4,h5,h6,h7]
 ·have hs:=h.tmps.size
  cases hx:r.tmps[i]? with
  | none=>rw [Array.getElem?_eq_none_iff] at hx ⊢;omega
  | some v=>
   have hl:i<l'.tmps.size:=by rw [← hs];exact (Array.getElem?_eq_some_iff.1 hx).1
   have hy:=Array.getElem?_eq_getElem hl
   have:=h.tmps.at_ i _ _ hi hx hy
   rw [hy,this.eq hE]
theorem lax_def (hW:WR C ok (idE E) w w') (he:E b) (ho:w.heap[b]?=some (.deferred (some []))):w'.heap[b]?=some (.deferred (some [])):=by
 obtain ⟨o1,o',h1,h2,h3⟩:=hW.get (b:=b) (b':=b) ⟨rfl,he⟩
 rw [ho] at h1;cases h1
 obtain ⟨_,ds,rfl,h⟩:=h3
 cases ds with
 | none=>exact absurd h (by simp [OptR])
 | some ds=>cases (show DefsR C (idE E) [] ds from h);exact h2
end
structure KL (E:Nat→Prop) (w w':World):Prop where
 ke:KE E w w'
 df:∀ b,E b→w.heap[b]?=some (.deferred (some []))→w'.heap[b]?=some (.deferred (some []))
 lp:∀ b r,E b→w.heap[b]?=some (.loop r)→∃ T',w'.heap[b]?=some (.loop { r with tmps:=T' })∧T'.size=r.tmps.size∧∀ i,(C0.hl r.fn).contains i=false→T'[i]?=r.tmps[i]?
section
variable {E E':Nat→Prop} {w w' w'':World}
theorem KL.of_wr (hW:WR C0 (okP C0 S0) (idE E) w w'):KL E w w':=⟨lax_heap rfl hW,fun _ hb h=>lax_def hW hb h,fun _ _ hb h=>lax_loop hW hb h⟩
theorem KL.of_eq (h:∀ b,E b→w'.heap[b]?=w.heap[b]?):KL E w w':=⟨.of_eq h,fun b hb e=>(h b hb).trans e,fun b r hb e=>⟨r.tmps,(h b hb).trans e,rfl,fun _ _=>rfl⟩⟩
theorem KL.trans (h:KL E w w') (k:KL E w' w''):KL E w w'':=⟨h.ke.trans k.ke,fun b hb e=>k.df b hb (h.df b hb e),fun b r hb e=>by
 obtain ⟨T1,a1,a2,a3⟩:=h.lp b r hb e
 obtain ⟨T2,c1,c2,c3⟩:=k.lp b _ hb a1
 exact ⟨T2,c1,c2.trans a2,fun i hi=>(c3 i hi).trans (a3 i hi)⟩⟩
theorem KL.mono (h:KL E' w w') (hs:∀ b,E b→E' b):KL E w w':=⟨h.ke.mono hs,fun b hb=>h.df b (hs b hb),fun b r hb=>h.lp b r (hs b hb)⟩
theorem KL.keeps (h:Keeps w w') (hE:∀ b,E b→b<w.heap.size):KL E w w':=.of_eq fun b hb=>h.heap b (hE b hb)
end
end Go.Sim.Z
