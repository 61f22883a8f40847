/- PROVED HERE: the statement itself. Conditions: none. -/
import Derived.Test.YtlcbehhbfglgaaaGreatF33
set_option linter.all false
set_option maxRecDepth 100000
namespace Go.Sim.Z
open Go Go.Proofs Go.RowKit Go.Conc Go.Maps
noncomputable def Jo2:Code:=fC b3
noncomputable def J7g:Array Oper:=opsOf (fC (sC b3))
noncomputable def J5w:Array Oper:=opsOf (fC (sC (sC b3)))
noncomputable def Jo3:Code:=fC (sC (sC (sC b3)))
noncomputable def Jo4:Code:=fC (sC (sC (sC (sC b3))))
noncomputable def J2h:Array Oper:=opsOf (fC (sC (sC (sC (sC (sC b3))))))
noncomputable def J2a:Array Oper:=opsOf (fC (sC (sC (sC (sC (sC (sC b3)))))))
theorem J04p:b3=.seq Jo2 (.seq (.region 1 J7g false) (.seq (.region 2 J5w false) (.seq Jo3 (.seq Jo4 (.seq (.region 6 J2h false) (.seq (.region 7 J2a false) tail3)))))):=by kernel_rfl
theorem body3:Tryz.f3.body=some b3:=by kernel_rfl
theorem J04q:Jj C0 S0 3 Jo2=true:=by kernel_rfl
theorem J04r:Jj C0 S0 3 Jo3=true:=by kernel_rfl
theorem J04s:Jj C0 S0 3 Jo4=true:=by kernel_rfl
theorem J04t:Jj C0 S0 3 tail3=true:=by kernel_rfl
theorem Jo5:J0k C0 3:=⟨Tryz.f3,by kernel_rfl,by kernel_rfl,by kernel_rfl⟩
theorem df3:S0.df.contains 3=false:=rfl
theorem Jf0:C0.hl 3≠[]:=by show [1,30,1000]≠[];simp
theorem hl3 {i:Nat} (h:(C0.hl 3).contains i=true):i∈([1,30]:List Nat)\/500<=i:=by have h':i∈[1,30,1000]:=Jd3.1 h;simp at h' ⊢;omega
theorem hl3' {i:Nat} (h:i<500/\i≠1/\i≠30):(C0.hl 3).contains i=false:=by
 cases e:(C0.hl 3).contains i with
 | false=>rfl
 | true=>
  have h1:=hl3 e;simp at h1;omega
theorem J025:∃ o,J7g[0]?=some o/\o.op=.move (.tmp 1)/\o.guard=none/\o.dst=some 30:=by simp only [J7g,opsOf,b3,fC,sC,Tryz.f3,Ja6];exact ⟨_,rfl,rfl,rfl,rfl⟩
theorem J026:∃ o t,J7g[1]?=some o/\o.op=.call { callee:=.value (.func 6),args:=#[.tmp 30],argTypes:=t }/\o.guard=none/\o.dst=some 31:=by simp only [J7g,opsOf,b3,fC,sC,Tryz.f3,Ja6];exact ⟨_,_,rfl,rfl,rfl,rfl⟩
theorem J027:∃ o,J7g[2]?=some o/\o.op=.assign (.tmp 31)/\o.guard=none/\o.dst=some 7:=by simp only [J7g,opsOf,b3,fC,sC,Tryz.f3,Ja6];exact ⟨_,rfl,rfl,rfl,rfl⟩
theorem J028:∃ o,J5w[0]?=some o/\o.op=.move (.tmp 0)/\o.guard=none/\o.dst=some 32:=by simp only [J5w,opsOf,b3,fC,sC,Tryz.f3,Ja6];exact ⟨_,rfl,rfl,rfl,rfl⟩
theorem J029:∃ o,J5w[1]?=some o/\o.op=.move (.tmp 7)/\o.guard=none/\o.dst=some 33:=by simp only [J5w,opsOf,b3,fC,sC,Tryz.f3,Ja6];exact ⟨_,rfl,rfl,rfl,rfl⟩
theorem J02a:∃ o t,J5w[2]?=some o/\o.op=.call { callee:=.value (.func 7),args:=#[.tmp 32,.tmp 33],argTypes:=t }/\o.guard=none/\o.dst=some 34:=by simp only [J5w,opsOf,b3,fC,sC,Tryz.f3,Ja6];exact ⟨_,_,rfl,rfl,rfl,rfl⟩
theorem J02b:∃ o,J5w[3]?=some o/\o.op=.assign (.tmp 34)/\o.guard=none/\o.dst=some 8:=by simp only [J5w,opsOf,b3,fC,sC,Tryz.f3,Ja6];exact ⟨_,rfl,rfl,rfl,rfl⟩
theorem J02c:∃ o,J2h[0]?=some o/\o.op=.move (.tmp 8)/\o.guard=none/\o.dst=some 40:=by simp only [J2h,opsOf,b3,fC,sC,Tryz.f3,Ja6];exact ⟨_,rfl,rfl,rfl,rfl⟩
theorem J02d:∃ o t,J2h[1]?=some o/\o.op=.call { callee:=.value (.func 9),args:=#[.tmp 40,.const (.int .i64 7),.const (.slice none 0 0),.const (.int .i64 1000)],argTypes:=t }/\o.guard=none/\o.dst=some 41:=by simp only [J2h,opsOf,b3,fC,sC,Tryz.f3,Ja6];exact ⟨_,_,rfl,rfl,rfl,rfl⟩
theorem J02e:∃ o,J2h[2]?=some o/\o.op=.move (.tmp 41)/\o.guard=none/\o.dst=some 39:=by simp only [J2h,opsOf,b3,fC,sC,Tryz.f3,Ja6];exact ⟨_,rfl,rfl,rfl,rfl⟩
theorem J02f:∃ o,J2h[3]?=some o/\o.op=.extract (.tmp 39) 0/\o.guard=none/\o.dst=some 42:=by simp only [J2h,opsOf,b3,fC,sC,Tryz.f3,Ja6];exact ⟨_,rfl,rfl,rfl,rfl⟩
theorem J02g:∃ o,J2h[4]?=some o/\o.op=.extract (.tmp 39) 1/\o.guard=none/\o.dst=some 43:=by simp only [J2h,opsOf,b3,fC,sC,Tryz.f3,Ja6];exact ⟨_,rfl,rfl,rfl,rfl⟩
theorem J02h:∃ o,J2h[5]?=some o/\o.op=.assign (.tmp 42)/\o.guard=none/\o.dst=some 10:=by simp only [J2h,opsOf,b3,fC,sC,Tryz.f3,Ja6];exact ⟨_,rfl,rfl,rfl,rfl⟩
theorem J02i:∃ o,J2h[6]?=some o/\o.op=.assign (.tmp 43)/\o.guard=none/\o.dst=some 11:=by simp only [J2h,opsOf,b3,fC,sC,Tryz.f3,Ja6];exact ⟨_,rfl,rfl,rfl,rfl⟩
theorem J02j:∃ o,J2a[0]?=some o/\o.op=.move (.tmp 8)/\o.guard=none/\o.dst=some 45:=by simp only [J2a,opsOf,b3,fC,sC,Tryz.f3,Ja6];exact ⟨_,rfl,rfl,rfl,rfl⟩
theorem J02k:∃ o,J2a[1]?=some o/\o.op=.move (.tmp 9)/\o.guard=none/\o.dst=some 46:=by simp only [J2a,opsOf,b3,fC,sC,Tryz.f3,Ja6];exact ⟨_,rfl,rfl,rfl,rfl⟩
theorem J02l:∃ o t,J2a[2]?=some o/\o.op=.call { callee:=.value (.func 9),args:=#[.tmp 45,.tmp 46,.const (.slice none 0 0),.const (.int .i64 1000)],argTypes:=t }/\o.guard=none/\o.dst=some 47:=by simp only [J2a,opsOf,b3,fC,sC,Tryz.f3,Ja6];exact ⟨_,_,rfl,rfl,rfl,rfl⟩
theorem J02m:∃ o,J2a[3]?=some o/\o.op=.move (.tmp 47)/\o.guard=none/\o.dst=some 44:=by simp only [J2a,opsOf,b3,fC,sC,Tryz.f3,Ja6];exact ⟨_,rfl,rfl,rfl,rfl⟩
theorem J02n:∃ o,J2a[4]?=some o/\o.op=.extract (.tmp 44) 0/\o.guard=none/\o.dst=some 48:=by simp only [J2a,opsOf,b3,fC,sC,Tryz.f3,Ja6];exact ⟨_,rfl,rfl,rfl,rfl⟩
theorem J02o:∃ o,J2a[5]?=some o/\o.op=.extract (.tmp 44) 1/\o.guard=none/\o.dst=some 49:=by simp only [J2a,opsOf,b3,fC,sC,Tryz.f3,Ja6];exact ⟨_,rfl,rfl,rfl,rfl⟩
theorem J02p:∃ o,J2a[6]?=some o/\o.op=.assign (.tmp 48)/\o.guard=none/\o.dst=some 12:=by simp only [J2a,opsOf,b3,fC,sC,Tryz.f3,Ja6];exact ⟨_,rfl,rfl,rfl,rfl⟩
theorem J02q:∃ o,J2a[7]?=some o/\o.op=.assign (.tmp 49)/\o.guard=none/\o.dst=some 13:=by simp only [J2a,opsOf,b3,fC,sC,Tryz.f3,Ja6];exact ⟨_,rfl,rfl,rfl,rfl⟩
section
variable {w:World} {T:Array Value} {d:Deferred} {c mz:Int} {sl fv:Value} {x:Nat}
theorem Jo6 {T T':Array Value} (h:T'[1]?=T[1]?/\T'[30]?=T[30]?):∀ i∈([1,30]:List Nat),T'[i]?=T[i]?:=fun i hi=>by
 simp at hi;rcases hi with rfl|rfl
 ·exact h.1
 ·exact h.2
theorem Jtt (hsz:T.size=234) (h0:T[0]?=some (.int .i64 c)) (h1:T[1]?=some sl) (h2:T[2]?=some (.int .i64 mz)) :
  Jo2.wp Tryz.prog (fun e a w'=>e=.normal/\a.tmps.size=234/\(a.tmps[1]?=T[1]?/\a.tmps[30]?=T[30]?)/\a.tmps[0]?=some (.int .i64 c)/\a.tmps[1]?=some sl/\a.tmps[2]?=some (.int .i64 mz)/\w'.heap=w.heap) ⟨T,[d]⟩ w:=by
 obtain ⟨f,rfl⟩:=Jaq hsz;have e0:f 0=_:=Ja0 h0;have e1:f 1=_:=Ja0 h1;have e2:f 2=_:=Ja0 h2;rw [e0,e1,e2];simp only [Jo2,b3,fC,Tryz.f3,Ja6];go_wp2
theorem Jtu (hsz:T.size=234) (h0:T[0]?=some (.int .i64 c)) (h2:T[2]?=some (.int .i64 mz)) (h7:T[7]?=some fv) (h8:T[8]?=some (pt x)) :
  Jo3.wp Tryz.prog (fun e a w'=>e=.normal/\a.tmps.size=234/\(a.tmps[1]?=T[1]?/\a.tmps[30]?=T[30]?)/\a.tmps[0]?=some (.int .i64 c)/\a.tmps[2]?=some (.int .i64 mz)/\a.tmps[7]?=some fv/\a.tmps[8]?=some (pt x)/\w'.heap=w.heap) ⟨T,[d]⟩ w:=by
 obtain ⟨f,rfl⟩:=Jaq hsz;have e0:f 0=_:=Ja0 h0;have e2:f 2=_:=Ja0 h2;have e7:f 7=_:=Ja0 h7;have e8:f 8=_:=Ja0 h8;rw [e0,e2,e7,e8];simp only [Jo3,b3,fC,sC,Tryz.f3,Ja6];go_wp2
theorem Jtv (hm:I64 mz) (hsz:T.size=234) (h0:T[0]?=some (.int .i64 c)) (h2:T[2]?=some (.int .i64 mz)) (h7:T[7]?=some fv) (h8:T[8]?=some (pt x)) :
  Jo4.wp Tryz.prog (fun e a w'=>e=.normal/\a.tmps.size=234/\(a.tmps[1]?=T[1]?/\a.tmps[30]?=T[30]?)/\a.tmps[0]?=some (.int .i64 c)/\a.tmps[7]?=some fv/\a.tmps[8]?=some (pt x)/\a.tmps[9]?=some (.int .i64 (Ju mz 8))/\w'.heap=w.heap) ⟨T,[d]⟩ w:=by
 have hp:=J3u hm (n:=8) (by omega) (by omega);obtain ⟨f,rfl⟩:=Jaq hsz;have e0:f 0=_:=Ja0 h0;have e2:f 2=_:=Ja0 h2;have e7:f 7=_:=Ja0 h7;have e8:f 8=_:=Ja0 h8;rw [e0,e2,e7,e8];simp only [Jo4,b3,fC,sC,Tryz.f3,Ja6]
 go_wp2_with (go_at_call 8;refine (hp _).mono ?_;rintro e w1 ⟨rfl,rfl⟩)
end
section
variable {fn:FuncId} {W E0 E:Nat->Prop} {w0 w:World} {T:Array Value} {ops:Array Oper} {i sR sT sA sB sX sY:Nat} {v:Value} {k:List Item} {cs:List Frame} {Post:(Nat->Prop)->Goroutine->World->Prop}
theorem Jlk (h:HS fn W E0 w0 E T w) (hT:T[sR]?=some (.tuple #[v,.nilIface])) (hv:VR C0 (idE E) v v) (hd:sT<T.size/\sA<T.size/\sB<T.size/\sX<T.size/\sY<T.size) (hn:sA≠sT/\sB≠sA/\sX≠sB/\sY≠sX)
  (p0:∃ o,ops[i]?=some o/\o.op=.move (.tmp sR)/\o.guard=none/\o.dst=some sT) (p1:∃ o,ops[i+1]?=some o/\o.op=.extract (.tmp sT) 0/\o.guard=none/\o.dst=some sA) (p2:∃ o,ops[i+2]?=some o/\o.op=.extract (.tmp sT) 1/\o.guard=none/\o.dst=some sB) (p3:∃ o,ops[i+3]?=some o/\o.op=.assign (.tmp sA)/\o.guard=none/\o.dst=some sX) (p4:∃ o,ops[i+4]?=some o/\o.op=.assign (.tmp sB)/\o.guard=none/\o.dst=some sY)
  (kn:∀ T' w',HS fn W E0 w0 E T' w'->T'.size=T.size->T'[sX]?=some v->T'[sY]?=some .nilIface->(∀ j,j≠sT->j≠sA->j≠sB->j≠sX->j≠sY->T'[j]?=T[j]?)->w'.heap=w.heap->Reach Tryz.prog Post W (G ((base fn).at ⟨T',[]⟩ (.inRegion ops []::k)) cs) w') :
  Reach Tryz.prog Post W (G ((base fn).at ⟨T,[]⟩ (.inRegion ops [i,i+1,i+2,i+3,i+4]::k)) cs) w:=by
 obtain ⟨o0,h0,a0,g0,d0⟩:=p0;obtain ⟨o1,h1,a1,g1,d1⟩:=p1;obtain ⟨o2,h2,a2,g2,d2⟩:=p2;obtain ⟨o3,h3,a3,g3,d3⟩:=p3;obtain ⟨o4,h4,a4,g4,d4⟩:=p4;have vt:VR C0 (idE E) (.tuple #[v,.nilIface]) (.tuple #[v,.nilIface]):=.tuple rfl fun i x x' h1 h2=>by
  rw [h1] at h2;cases h2
  match i with
  | 0=>cases h1;exact hv
  | 1=>cases h1;exact .nilIface
  | i+2=>simp at h1
 obtain ⟨n1,n2,n3,n4⟩:=hn;obtain ⟨z1,z2,z3,z4,z5⟩:=hd;have t1:(T.setIfInBounds sT (.tuple #[v,.nilIface]))[sT]?=some (.tuple #[v,.nilIface]):=Ja9 z1;have t2:((T.setIfInBounds sT (.tuple #[v,.nilIface])).setIfInBounds sA v)[sT]?=some (.tuple #[v,.nilIface]):=(Ja1 n1).trans t1;have t3:(((T.setIfInBounds sT (.tuple #[v,.nilIface])).setIfInBounds sA v).setIfInBounds sB .nilIface)[sA]?=some v:=(Ja1 n2).trans (Ja9 (by simpa using z2));have t4:((((T.setIfInBounds sT (.tuple #[v,.nilIface])).setIfInBounds sA v).setIfInBounds sB .nilIface).setIfInBounds sX v)[sB]?=some .nilIface:=(Ja1 n3).trans (Ja9 (by simpa using z3));refine Jc (v:=.tuple #[v,.nilIface]) h h0 (by simp [Region.wanted,g0]) d0 (fun w1=>by simp [execOp,a0,Act.eval,Ja5,hT]) (fun w1=>by simp [execOp,a0,Act.eval]) (.inr vt) fun w1 H1 q1=>?_;refine Jc (v:=v) H1 h1 (by simp [Region.wanted,g1]) d1 (fun w1=>by simp [execOp,a1,Act.eval,Ja5,t1,go_sem]) (fun w1=>by simp [execOp,a1,Act.eval,Ja5,z1,go_sem]) (.inr hv) fun w2 H2 q2=>?_;refine Jc (v:=.nilIface) H2 h2 (by simp [Region.wanted,g2]) d2 (fun w1=>by simp [execOp,a2,Act.eval,Ja5,t2,go_sem]) (fun w1=>by simp [execOp,a2,Act.eval,Ja5,t2,go_sem]) (.inr .nilIface) fun w3 H3 q3=>?_;refine Jc (v:=v) H3 h3 (by simp [Region.wanted,g3]) d3 (fun w1=>by simp [execOp,a3,Act.eval,Ja5,t3]) (fun w1=>by simp [execOp,a3,Act.eval]) (.inr hv) fun w4 H4 q4=>?_;refine Jc (v:=.nilIface) H4 h4 (by simp [Region.wanted,g4]) d4 (fun w1=>by simp [execOp,a4,Act.eval,Ja5,t4]) (fun w1=>by simp [execOp,a4,Act.eval]) (.inr .nilIface) fun w5 H5 q5=>?_;refine kn _ w5 H5 (by simp) ((Ja1 n4).trans (Ja9 (by simpa using z4))) (Ja9 (by simpa using z5)) (fun j m1 m2 m3 m4 m5=>?_) (by rw [q5,q4,q3,q2,q1]);rw [Ja1 (Ne.symm m5),Ja1 (Ne.symm m4),Ja1 (Ne.symm m3),Ja1 (Ne.symm m2),Ja1 (Ne.symm m1)]
end
theorem flat5:∀ (L:List QC) (j o:Nat),o<5->(L.flatMap QC.cells)[j*5+o]?=L[j]?.bind fun q=>q.cells[o]?
 | [],j,o,_=>by simp
 | q::L,0,o,h=>by
  have h5:q.cells.length=5:=rfl;rw [List.flatMap_cons,Nat.zero_mul,Nat.zero_add,List.getElem?_append_left (by omega)];rfl
 | q::L,j+1,o,h=>by
  have h5:q.cells.length=5:=rfl;rw [List.flatMap_cons,List.getElem?_append_right (by omega),h5,show (j+1)*5+o-5=j*5+o from by omega,flat5 L j o h];rfl
section
variable {E:Nat->Prop} {w w':World} {c:J8} {hs:Int->Int} {fs:List Jg} {m g j base:Nat} {T S:List TR} {ks:List Je} {L:List QC} {v:Value} {p:J42}
theorem Jk0 (hn:(T.map (·.k)).Nodup) (hT:∀ k,tm T k=J1c c J06 (sel hs m k fs)) (ho:J2z base w T m ks L) (hr:w.ownsRow base 39 5 v L.length (L.flatMap QC.cells)) :
  L.length=(J3r hs m fs (ks.map (·.1))).length/\(0<L.length->∃ g cap,v=.slice (some ⟨g,0,none⟩) L.length cap/\∀ j p,(J3r hs m fs (ks.map (·.1)))[j]?=some p->J3c w g j c p):=by
 have hlen:L.length=(J3r hs m fs (ks.map (·.1))).length:=by unfold J3r;rw [ho.1,Jc3,Jc3]
 refine ⟨hlen,fun h0=>?_⟩;rcases hr.2 with ⟨_,e⟩|⟨g,cap,cur,e,_,hg,hcl,hcap,_,hx⟩
 ·omega
 refine ⟨g,cap,e,fun j p hp=>?_⟩;unfold J3r at hp;rw [List.map_map,List.getElem?_map,Jc0] at hp;obtain ⟨x,hxx,rfl⟩:=hp;have hj:j<L.length:=by rw [ho.1];exact (List.getElem?_eq_some_iff.1 hxx).1
 obtain ⟨q,hq⟩:∃ q,L[j]?=some q:=⟨_,Jb1 hj⟩;obtain ⟨a1,a2,a3,a4⟩:=ho.2 j x q hxx hq;have hB:q.B=Jq c J06 (sel hs m x.1 fs):=by
  have:=hT x.1;rw [a2] at this;unfold J1c at this;split at this
  ·cases this
  ·exact Ja0 this
 have hc:∀ o u,o<5->q.cells[o]?=some u->w.cell? ⟨g,j*5+o,none⟩=some u:=fun o u ho' hu=>by
  refine (cell_of hg _).trans ?_;have h5:(List.take (L.length*5) cur.toList)[j*5+o]?=some u:=by rw [hx,flat5 _ _ _ ho',hq];exact hu
  rw [List.getElem?_take,if_pos (by omega),Array.getElem?_toList] at h5;exact h5
 obtain ⟨y1,⟨g2,c2,e2,_,r2⟩,⟨g3,c3,e3,_,r3⟩,_⟩:=a4;simp only [Function.comp];rw [hB] at e2 r2 e3 r3;rw [a1] at y1;refine ⟨⟨q.kv,hc 0 _ (by omega) rfl,y1.zero⟩,?_,⟨g2,c2,?_,r2⟩,⟨g3,c3,?_,r3⟩⟩
 ·rw [hc 1 _ (by omega) rfl,hB]
 ·rw [hc 2 _ (by omega) rfl,e2]
 ·rw [hc 3 _ (by omega) rfl,e3]
theorem J3c.ke (h:J3c w g j c p) (hW:WR C0 (okP C0 S0) (idE E) w w) (hE:E g) (k:KE E w w'):J3c w' g j c p:=by
 have hc:∀ {i u},w.cell? ⟨g,i,none⟩=some u->w'.cell? ⟨g,i,none⟩=some u:=fun hu=>k.cell hE hu;obtain ⟨⟨v,k1,k2⟩,h1,⟨rb,rq,r1,r2⟩,⟨hb,hq,h2,h3⟩⟩:=h;refine ⟨⟨v,hc k1,?_⟩,hc h1,⟨rb,rq,hc r1,r2.keE k (hW.J56 hE r1).J1i⟩,⟨hb,hq,hc h2,h3.keE k (hW.J56 hE h2).J1i⟩⟩;rcases k2 with k2|⟨kb,kc,rfl,z,k3⟩
 ·exact .inl k2
 ·exact .inr ⟨kb,kc,rfl,z,k3.keE k (hW.J56 hE k1).J1i⟩
theorem J5p.Jo7 (h:J5p c hs fs S) (hn:(T.map (·.k)).Nodup) (hT:∀ k,tm T k=J1c c J06 (sel hs m k fs)):T.length<=200:=by
 have h1:=J4o hn (U:=fs.map fun f=>Jb m (Js f.k) 5) fun x hx=>by obtain ⟨t,ht,rfl⟩:=Jb3.1 hx;obtain ⟨_,f,hf,e⟩:=J6u hn hT ht;exact Jb3.2 ⟨f,hf,e⟩
 simp only [Jc3] at h1;have:=h.n;omega
end
theorem J3c.at {w w':World} {g j:Nat} {c:J8} {p:J42} (h:J3c w g j c p) (hh:w'.heap=w.heap):J3c w' g j c p:=by
 have hc:∀ {a u},w.cell? a=some u->w'.cell? a=some u:=fun h=>(Jb4 (w:=w) (by rw [hh])).trans h;obtain ⟨⟨v,k1,k2⟩,h1,⟨rb,rq,r1,r2⟩,⟨hb,hq,h2,h3⟩⟩:=h;refine ⟨⟨v,hc k1,?_⟩,hc h1,⟨rb,rq,hc r1,r2.kept (by rw [hh])⟩,⟨hb,hq,hc h2,h3.kept (by rw [hh])⟩⟩;rcases k2 with k2|⟨kb,kc,e,z,k3⟩
 ·exact .inl k2
 ·exact .inr ⟨kb,kc,e,z,k3.kept (by rw [hh])⟩
theorem vtup {E:Nat->Prop} {v:Value} (hv:VR C0 (idE E) v v):VR C0 (idE E) (.tuple #[v,.nilIface]) (.tuple #[v,.nilIface]):=.tuple rfl fun i x x' h1 h2=>by
 rw [h1] at h2;cases h2
 match i with
 | 0=>cases h1;exact hv
 | 1=>cases h1;exact .nilIface
 | i+2=>simp at h1
section
variable {W E:Nat->Prop} {w:World} {c mz:Int} {la:Option Addr} {rs:List J1t} {n lc:Nat}
set_option maxHeartbeats 4000000 in
theorem Jk1 {T0:Array Value} (hB:BOk C0 S0 W E w) (hok:HOk w) (hc:I64 c) (hmz:I64 mz) (hR:Jaz w la rs) (hn:rs.length=n) (hWa:∀ a,la=some a->W a.block) (hTa:∀ a,la=some a->∀ c z,w.heap[a.block]?≠some (.cells c wgT z)) (hsz:T0.size=234) (h0:T0[0]?=some (.int .i64 c)) (h1:T0[1]?=some (.slice la n lc)) (h2:T0[2]?=some (.int .i64 mz)) (ht0:TmR C0 S0 3 (idE E) T0 T0) :
  Reach Tryz.prog (Jqg Tryz.prog (fun v w'=>v=.bool true/\KE E w w')) W (G ((Go.Conc.base 3).at ⟨T0,[]⟩ [.code b3]) []) w:=by
 obtain ⟨fs,hfs⟩:∃ fs,fs=(rs.take 200).map J1t.fact:=⟨_,rfl⟩;have hfl:fs.length<=200:=by rw [hfs,Jc3,List.length_take];omega
 have hfo:∀ f∈fs,J49 f/\Js f.k∈U64:=fun f hf=>by rw [hfs] at hf;obtain ⟨r,hr,rfl⟩:=Jb3.1 hf;exact ⟨J1t.Jxy (hR.ok r (List.mem_of_mem_take hr)),Jwd r⟩
 rw [J04p];refine J22 [1,30] (fun _=>hl3) Jf0 J04q Jo5 df3 hB ht0 (by omega) (Q:=fun t w1=>t.size=234/\t[0]?=some (.int .i64 c)/\t[1]?=some (.slice la n lc)/\t[2]?=some (.int .i64 mz)/\w1.heap=w.heap) (fun τ=>wp_mono (Jtt (w:=w.tp τ 0) hsz h0 h1 h2) fun e a w1 ⟨q1,q2,qk,q3,q4,q5,q6⟩=>⟨q1,by omega,Jo6 qk,q2,q3,q4,q5,q6⟩) fun E3 T4 wb3 w3 le3 hB3 hW3 ht4 ⟨v1,v0,v2,vm,v5⟩ kw3=>?_;have k3:KE E w w3:=(KE.of_eq fun b _=>by rw [v5]).trans ((Jy rfl hW3).mono le3);have hok3:=hok.ke k3 hB.hnd;clear v5;have kwa:∀ a,la=some a->w3.heap[a.block]?=w.heap[a.block]?:=fun a ha=>kw3 _ (hWa a ha);obtain ⟨g0,h50,p50,g50,q50⟩:=J025;obtain ⟨g1',ty6,h51,p51,g51,q51⟩:=J026;obtain ⟨g2',h52,p52,g52,q52⟩:=J027;refine J6 (fun w1=>stepG_seq) rfl fun d1'=>?_;refine J6 (fun w1=>stepG_region) rfl fun d2'=>?_;rw [show List.range J7g.size=[0,1,2] from by kernel_rfl];have Ha:HS 3 W E3 w3 E3 T4 w3:=⟨hB3,fun _ h=>h,.refl,fun _ _=>rfl,ht4,rfl,Ja2 _⟩;refine Jc (v:=.slice la n lc) ((Ha.at d1').at d2') h50 (by simp [Region.wanted,g50]) q50 (fun w1=>by simp [execOp,p50,Act.eval,Ja5,v2]) (fun w1=>by simp [execOp,p50,Act.eval]) (.inl rfl) fun wx Hx hx=>?_;refine Reach.call (B:=Go.Conc.base 3) (a:=⟨T4.setIfInBounds 30 (.slice la n lc),[]⟩) h51 (by simp [Region.wanted,g51]) (by simp [Go.Conc.base]) p51 (fn:=Tryz.f6) (c:=b6) (by kernel_rfl) (by kernel_rfl) body6 fun e4'=>?_;have ea:(#[Operand.tmp 30].map (Act.eval ⟨T4.setIfInBounds 30 (.slice la n lc),[]⟩))++Array.replicate (Tryz.f6.ntmps-(#[Operand.tmp 30].map (Act.eval ⟨T4.setIfInBounds 30 (.slice la n lc),[]⟩)).size) undef=#[.slice la n lc]++Array.replicate 54 undef:=by
  have hnt:Tryz.f6.ntmps=55:=by kernel_rfl
  have h1:(#[Operand.tmp 30].map (Act.eval ⟨T4.setIfInBounds 30 (.slice la n lc),[]⟩))=#[.slice la n lc]:=by simp [Act.eval,Ja5,Jb9,v1]
  rw [hnt,h1];rfl
 rw [ea];clear ea;have hxw:(wx.at e4').heap=w3.heap:=hx;refine Jkk (fs:=fs) (rs:=rs) (Hx.at e4').bok ?_ hn hfs hWa (fun a ha=>by rw [hxw,kwa a ha];exact hTa a ha) fun E4 w4' ga c2f pl le4 hB4 k4' fa pg vE kz kwf=>?_
 ·refine ⟨fun i r hr=>?_,hR.ok⟩;obtain ⟨b,o,r1,r2,r3,r4,r5,r6,r7⟩:=hR.at_ i r hr;have hbb:(wx.at e4').heap[b]?=w.heap[b]?:=by rw [hxw];exact kwa _ r1
  have hc:∀ {i v},w.cell? ⟨b,i,none⟩=some v->(wx.at e4').cell? ⟨b,i,none⟩=some v:=fun h=>(Jb4 hbb).trans h;refine ⟨b,o,r1,?_,hc r3,hc r4,hc r5,hc r6,hc r7⟩;rw [Ja4 r2] at hbb;exact (Ja3.1 hbb).1
 rw [h51];simp only [Option.bind_some,q51];have Hy:HS 3 W E3 w3 E4 (T4.setIfInBounds 30 (.slice la n lc)) w4':=((Hx.at e4').to hB4 le4 k4' kwf kz);have Hz:=Hy.put (Hy.set (s:=31) (.inr vE));refine Jc (v:=.slice ga fs.length c2f) Hz h52 (by simp [Region.wanted,g52]) q52 (fun w1=>by simp [execOp,p52,Act.eval,Ja5,Jb9,v1]) (fun w1=>by simp [execOp,p52,Act.eval]) (.inr vE) fun w5x H5 h5x=>?_;refine J6 (fun w1=>stepG_region_end) rfl fun d3'=>?_;have H4:=H5.at d3';have fa:J3a false (w5x.at d3') ga fs c2f pl:=fa.kept fun b _=>by show w5x.heap[b]?=_;rw [h5x]
 have k4:KE E3 w3 (w5x.at d3'):=H4.ke;have hB4:=H4.bok;have ht5:=H4.tm;obtain ⟨T5,hT5⟩:∃ T5,T5=((T4.setIfInBounds 30 (.slice la n lc)).setIfInBounds 31 (.slice ga fs.length c2f)).setIfInBounds 7 (.slice ga fs.length c2f):=⟨_,rfl⟩;rw [<- hT5] at ht5 ⊢;have u1:T5.size=234:=by rw [hT5];simpa using v1
 have u0:T5[0]?=some (.int .i64 c):=by rw [hT5];repeat rw [Ja1 (by omega)]
                                       exact v0
 have u2:T5[2]?=some (.int .i64 mz):=by rw [hT5];repeat rw [Ja1 (by omega)]
                                        exact vm
 have u7:T5[7]?=some (.slice ga fs.length c2f):=by rw [hT5,Ja9 (by simp [v1])]
 clear hT5 H5 Hz Hy Hx Ha H4;generalize w5x.at d3'=w4 at *;have Jnz:=hok3.ke k4 hB3.hnd;have kE4:KE E w w4:=k3.trans (k4.mono le3);have Jjv:∀ b,E b->E4 b:=fun b hb=>le4 b (le3 b hb);clear h5x hx hxw k4' kwf pg kz hok3 k4 k3;obtain ⟨s0,a0,b0,c0,d0⟩:=J028;obtain ⟨s1,a1,b1,c1,d1⟩:=J029;obtain ⟨s2,ty7,a2,b2,c2,d2⟩:=J02a;obtain ⟨s3,a3,b3',c3,d3⟩:=J02b;refine J6 (fun w1=>stepG_seq) rfl fun d4=>?_;refine J6 (fun w1=>stepG_region) rfl fun d5=>?_;rw [show List.range J5w.size=[0,1,2,3] from by kernel_rfl];have Hb:HS 3 W E4 w4 E4 T5 w4:=⟨hB4,fun _ h=>h,.refl,fun _ _=>rfl,ht5,rfl,Ja2 _⟩;have vg:VR C0 (idE E4) (.slice ga fs.length c2f) (.slice ga fs.length c2f):=ht5.slot (i:=7) (hl3' (by omega)) u7;refine Jc (v:=.int .i64 c) ((Hb.at d4).at d5) a0 (by simp [Region.wanted,c0]) d0 (fun w1=>by simp [execOp,b0,Act.eval,Ja5,u0]) (fun w1=>by simp [execOp,b0,Act.eval]) (.inr (.int _ _)) fun w6 H6 q6=>?_;refine Jc (v:=.slice ga fs.length c2f) H6 a1 (by simp [Region.wanted,c1]) d1 (fun w1=>by simp [execOp,b1,Act.eval,Ja5,Jb9,u7]) (fun w1=>by simp [execOp,b1,Act.eval]) (.inr vg) fun w7 H7 q7=>?_;obtain ⟨T6,hT6⟩:∃ T6,T6=(T5.setIfInBounds 32 (.int .i64 c)).setIfInBounds 33 (.slice ga fs.length c2f):=⟨_,rfl⟩;rw [<- hT6] at H7 ⊢;have x1:T6.size=234:=by rw [hT6];simpa using u1
 have xs:∀ i,i≠32->i≠33->T6[i]?=T5[i]?:=fun i m1 m2=>by rw [hT6,Ja1 (Ne.symm m2),Ja1 (Ne.symm m1)]
 have x32:T6[32]?=some (.int .i64 c):=by rw [hT6,Ja1 (by omega),Ja9 (by omega)]
 have x33:T6[33]?=some (.slice ga fs.length c2f):=by rw [hT6,Ja9 (by simp [u1])]
 clear hT6;refine Reach.call (B:=Go.Conc.base 3) (a:=⟨T6,[]⟩) a2 (by simp [Region.wanted,c2]) (by simp [Go.Conc.base]) b2 (fn:=Tryz.f7) (c:=b7) (by kernel_rfl) (by kernel_rfl) body7 fun e5=>?_;have eb:(#[Operand.tmp 32,.tmp 33].map (Act.eval ⟨T6,[]⟩))++Array.replicate (Tryz.f7.ntmps-(#[Operand.tmp 32,.tmp 33].map (Act.eval ⟨T6,[]⟩)).size) undef=#[.int .i64 c,.slice ga fs.length c2f]++Array.replicate 68 undef:=by
  have hnt:Tryz.f7.ntmps=70:=by kernel_rfl
  have h1:(#[Operand.tmp 32,.tmp 33].map (Act.eval ⟨T6,[]⟩))=#[.int .i64 c,.slice ga fs.length c2f]:=by simp [Act.eval,Ja5,x32,x33]
  rw [hnt,h1];rfl
 rw [eb];clear eb;have hw7:(w7.at e5).heap=w4.heap:=by show w7.heap=_;rw [q7,q6];rfl
 have k7:KE E4 w4 (w7.at e5):=.of_eq fun b _=>by rw [hw7]
 have tm7:TmR C0 S0 7 (idE E4) (#[.int .i64 c,.slice ga fs.length c2f]++Array.replicate 68 undef) (#[.int .i64 c,.slice ga fs.length c2f]++Array.replicate 68 undef):=by
  refine .Jak (fun v hv=>?_) fun _=>rfl;rw [Array.toList_append,Jc9] at hv;rcases hv with hv|hv
  ·simp only [Jb8,Jc2,or_false] at hv;rcases hv with rfl|rfl
   ·exact .int _ _
   ·exact vg
  ·simp only [Array.toList_replicate] at hv;rw [List.eq_of_mem_replicate hv];exact .undef
 refine Jko (fs:=fs) (c2f:=c2f) (pl:=pl) (H7.at e5).bok (Jnz.ke k7 hB4.hnd) hc (fa.kept fun b _=>by rw [hw7]) hfo hfl (by simp) (by simp) (by simp) tm7 fun W8 E8 w8 x c' h hs nf vm base S le8 hB8 k8 q8 J27 cb hh ok8 ex8=>?_;obtain ⟨cb,cn⟩:=cb;rw [a2];simp only [Option.bind_some,d2];have kE8:KE E w w8:=kE4.trans ((k7.trans k8).mono Jjv);have Jtw:∀ b,E b->E8 b:=fun b hb=>le8 b (Jjv b hb);have vx:VR C0 (idE E8) (pt x) (pt x):=.ptr _ _ ⟨rfl,ex8⟩;have H8:HS 3 W8 E8 w8 E8 T6 w8:=⟨hB8,fun _ h=>h,.refl,fun _ _=>rfl,H7.tm.mono (J18 le8),rfl,Ja2 _⟩;have H9:=H8.put (H8.set (s:=34) (.inr vx));clear H8 k8 k7 kE4 H7 H6 Hb fa tm7 Jnz;refine Jc (v:=pt x) H9 a3 (by simp [Region.wanted,c3]) d3 (fun w1=>by simp [execOp,b3',Act.eval,Ja5,Jb9,x1]) (fun w1=>by simp [execOp,b3',Act.eval]) (.inr vx) fun w9 H9' q9=>?_;refine J6 (fun w1=>stepG_region_end) rfl fun d6=>?_;have HA:=H9'.at d6;obtain ⟨T7,hT7⟩:∃ T7,T7=(T6.setIfInBounds 34 (pt x)).setIfInBounds 8 (pt x):=⟨_,rfl⟩;rw [<- hT7] at HA ⊢;have z1:T7.size=234:=by rw [hT7];simpa using x1
 have zs:∀ i,i≠34->i≠8->T7[i]?=T6[i]?:=fun i m1 m2=>by rw [hT7,Ja1 (Ne.symm m2),Ja1 (Ne.symm m1)]
 have z0:T7[0]?=some (.int .i64 c):=by rw [zs 0 (by omega) (by omega),xs 0 (by omega) (by omega)];exact u0
 have z2:T7[2]?=some (.int .i64 mz):=by rw [zs 2 (by omega) (by omega),xs 2 (by omega) (by omega)];exact u2
 have z7:T7[7]?=some (.slice ga fs.length c2f):=by rw [zs 7 (by omega) (by omega),xs 7 (by omega) (by omega)];exact u7
 have z8:T7[8]?=some (pt x):=by rw [hT7,Ja9 (by simp [x1])]
 clear hT7 H9 H9';generalize w9.at d6=wA at *;have qA:=q8.ke HA.ke hB8.hnd fun _ h=>h;have kEA:KE E w wA:=kE8.trans (HA.ke.mono Jtw);have hBA:=HA.bok;have htA:=HA.tm;clear q9 q8 kE8 HA;refine J22 [1,30] (fun _=>hl3) Jf0 J04r Jo5 df3 hBA htA (by omega) (Q:=fun t w1=>t.size=234/\t[0]?=some (.int .i64 c)/\t[2]?=some (.int .i64 mz)/\t[7]?=some (.slice ga fs.length c2f)/\t[8]?=some (pt x)/\w1.heap=wA.heap) (fun τ=>wp_mono (Jtu (w:=wA.tp τ 0) z1 z0 z2 z7 z8) fun e a w1 ⟨q1,q2,qk,q3,q4,q5,q6,q7⟩=>⟨q1,by omega,Jo6 qk,q2,q3,q4,q5,q6,q7⟩) fun E9 T8 wb9 wB le9 hB9 hW9 ht8 ⟨r1,r0,r2,r7,r8,rw9⟩ _=>?_;have kB:KE E8 wA wB:=(KE.of_eq fun b _=>by rw [rw9]).trans ((Jy rfl hW9).mono le9);have qB:=qA.ke kB hBA.hnd le9;have kEB:KE E w wB:=kEA.trans (kB.mono Jtw);have le09:∀ b,E b->E9 b:=fun b hb=>le9 b (Jtw b hb);clear rw9 kB qA kEA;refine J22 [1,30] (fun _=>hl3) Jf0 J04s Jo5 df3 hB9 ht8 (by omega) (Q:=fun t w1=>t.size=234/\t[0]?=some (.int .i64 c)/\t[7]?=some (.slice ga fs.length c2f)/\t[8]?=some (pt x)/\t[9]?=some (.int .i64 (Ju mz 8))/\w1.heap=wB.heap) (fun τ=>wp_mono (Jtv (w:=wB.tp τ 0) hmz r1 r0 r2 r7 r8) fun e a w1 ⟨q1,q2,qk,q3,q4,q5,q6,q7⟩=>⟨q1,by omega,Jo6 qk,q2,q3,q4,q5,q6,q7⟩) fun EC TC wbC wC leC hBC hWC htC ⟨y1,y0,y7,y8,y9,rwC⟩ _=>?_;have kC:KE E9 wB wC:=(KE.of_eq fun b _=>by rw [rwC]).trans ((Jy rfl hWC).mono leC);have qC:=qB.ke kC hB9.hnd leC;have kEC:KE E w wC:=kEB.trans (kC.mono le09);have le0C:∀ b,E b->EC b:=fun b hb=>leC b (le09 b hb);have hpk:=J5h (c:=mz) (n:=8) (by omega);obtain ⟨m,hm⟩:∃ m:Nat,Ju mz 8=m:=⟨(Ju mz 8).toNat,by omega⟩;rw [hm] at y9 hpk;have hm8:m<8:=by omega
 clear rwC kC qB kEB;obtain ⟨s0,a0,b0,c0,d0⟩:=J02c;obtain ⟨s1,ty9,a1,b1,c1,d1⟩:=J02d;refine J6 (fun w1=>stepG_seq) rfl fun d4=>?_;refine J6 (fun w1=>stepG_region) rfl fun d5=>?_;rw [show List.range J2h.size=[0,1,2,3,4,5,6] from by kernel_rfl];have HC:HS 3 W8 EC wC EC TC wC:=⟨hBC,fun _ h=>h,.refl,fun _ _=>rfl,htC,rfl,Ja2 _⟩;have vxC:VR C0 (idE EC) (pt x) (pt x):=.ptr _ _ ⟨rfl,qC.xE.1⟩;refine Jc (v:=pt x) ((HC.at d4).at d5) a0 (by simp [Region.wanted,c0]) d0 (fun w1=>by simp [execOp,b0,Act.eval,Ja5,y8]) (fun w1=>by simp [execOp,b0,Act.eval]) (.inr vxC) fun wD HD qD=>?_;refine Reach.call (B:=Go.Conc.base 3) (a:=⟨TC.setIfInBounds 40 (pt x),[]⟩) a1 (by simp [Region.wanted,c1]) (by simp [Go.Conc.base]) b1 (fn:=Tryz.f9) (c:=b9) (by kernel_rfl) (by kernel_rfl) body9 fun e4=>?_;have e9:(#[Operand.tmp 40,.const (.int .i64 7),.const (.slice none 0 0),.const (.int .i64 1000)].map (Act.eval ⟨TC.setIfInBounds 40 (pt x),[]⟩))++Array.replicate (Tryz.f9.ntmps-(#[Operand.tmp 40,.const (.int .i64 7),.const (.slice none 0 0),.const (.int .i64 1000)].map (Act.eval ⟨TC.setIfInBounds 40 (pt x),[]⟩)).size) undef=#[pt x,.int .i64 (7:Nat),.slice none 0 0,.int .i64 1000,undef,undef,undef,undef,undef,undef,undef,undef,undef,undef,undef,undef,undef,undef,undef,undef,undef,undef,undef,undef,undef,undef,undef,undef,undef,undef,undef,undef,undef]:=by
  have hnt:Tryz.f9.ntmps=33:=by kernel_rfl
  have h1:(#[Operand.tmp 40,.const (.int .i64 7),.const (.slice none 0 0),.const (.int .i64 1000)].map (Act.eval ⟨TC.setIfInBounds 40 (pt x),[]⟩))=#[pt x,.int .i64 (7:Nat),.slice none 0 0,.int .i64 1000]:=by simp [Act.eval,Ja5,Jb9,y1]
  rw [hnt,h1];show _++Array.replicate 29 undef=_;rw [show Array.replicate 29 undef=#[undef,undef,undef,undef,undef,undef,undef,undef,undef,undef,undef,undef,undef,undef,undef,undef,undef,undef,undef,undef,undef,undef,undef,undef,undef,undef,undef,undef,undef] from by kernel_rfl];simp only [List.append_toArray,Jc7,Jc8]
 rw [e9];clear e9;have kD:=(HD.at e4).ke;refine J7r (x:=x) (m:=7) (most:=1000) (M:=200) (S:=S) (HD.at e4).bok (qC.ke kD hBC.hnd fun _ h=>h) (by omega) (by omega) J27.hin (by have:=J27.len;omega) (by omega) (fun T hn hT=>by have:=J27.Jo7 hn (J27.sum qC.cfg cn hh hT);omega) fun WF EF wF v7 T7' ks7 L7 qo7=>?_;rw [a1];simp only [Option.bind_some,d1];have hT7:=J27.sum qC.cfg cn hh qo7.sum;obtain ⟨l7,m7⟩:=Jk0 qo7.nd hT7 qo7.outs qo7.row;obtain ⟨va7,vc7,hv7⟩:=J7c qo7.row;have kF:=kD.trans qo7.ke;have qF:=qC.ke kF hBC.hnd qo7.le;have kEF:KE E w wF:=kEC.trans (kF.mono le0C);have le0F:∀ b,E b->EF b:=fun b hb=>qo7.le b (le0C b hb);have HF:HS 3 WF EF wF EF (TC.setIfInBounds 40 (pt x)) wF:=⟨qo7.bok,fun _ h=>h,.refl,fun _ _=>rfl,HD.tm.mono (J18 qo7.le),rfl,Ja2 _⟩;have HG:=HF.put (HF.set (s:=41) (.inr (vtup qo7.vE)));clear HF HD kD kF HC kEC;refine Jlk (i:=2) (sR:=41) (sT:=39) (sA:=42) (sB:=43) (sX:=10) (sY:=11) HG (by rw [Ja9 (by simp [y1])]) qo7.vE (by simp [y1]) (by omega) J02e J02f J02g J02h J02i fun TG wG HG' g1 g2 g3 g4 g5=>?_;refine J6 (fun w1=>stepG_region_end) rfl fun d6=>?_;have gs:∀ i,i≠40->i≠41->i≠39->i≠42->i≠43->i≠10->i≠11->TG[i]?=TC[i]?:=fun i m1 m2 m3 m4 m5 m6 m7=>by rw [g4 i m3 m4 m5 m6 m7,Ja1 (Ne.symm m2),Ja1 (Ne.symm m1)]
 have y1G:TG.size=234:=by rw [g1];simpa using y1
 have g0:TG[0]?=some (.int .i64 c):=(gs 0 (by omega) (by omega) (by omega) (by omega) (by omega) (by omega) (by omega)).trans y0;have g7:TG[7]?=some (.slice ga fs.length c2f):=(gs 7 (by omega) (by omega) (by omega) (by omega) (by omega) (by omega) (by omega)).trans y7;have g8:TG[8]?=some (pt x):=(gs 8 (by omega) (by omega) (by omega) (by omega) (by omega) (by omega) (by omega)).trans y8;have g9:TG[9]?=some (.int .i64 m):=(gs 9 (by omega) (by omega) (by omega) (by omega) (by omega) (by omega) (by omega)).trans y9;have HI:=HG'.at d6;clear HG HG' g1 g4 g5 gs y1 y0 y7 y8 y9;have y1:=y1G;generalize wG.at d6=wI at *;obtain ⟨s0,a0,b0,c0,d0⟩:=J02j;obtain ⟨s0',a0',b0',c0',d0'⟩:=J02k;obtain ⟨s1,ty9',a1,b1,c1,d1⟩:=J02l;refine J6 (fun w1=>stepG_seq) rfl fun d4=>?_;refine J6 (fun w1=>stepG_region) rfl fun d5=>?_;rw [show List.range J2a.size=[0,1,2,3,4,5,6,7] from by kernel_rfl];have vxF:VR C0 (idE EF) (pt x) (pt x):=.ptr _ _ ⟨rfl,qF.xE.1⟩;refine Jc (v:=pt x) ((HI.at d4).at d5) a0 (by simp [Region.wanted,c0]) d0 (fun w1=>by simp [execOp,b0,Act.eval,Ja5,g8]) (fun w1=>by simp [execOp,b0,Act.eval]) (.inr vxF) fun wJ HJ qJ=>?_;refine Jc (v:=.int .i64 m) HJ a0' (by simp [Region.wanted,c0']) d0' (fun w1=>by simp [execOp,b0',Act.eval,Ja5,Jb9,g9]) (fun w1=>by simp [execOp,b0',Act.eval]) (.inr (.int _ _)) fun wK HK qK=>?_;refine Reach.call (B:=Go.Conc.base 3) (a:=⟨(TG.setIfInBounds 45 (pt x)).setIfInBounds 46 (.int .i64 m),[]⟩) a1 (by simp [Region.wanted,c1]) (by simp [Go.Conc.base]) b1 (fn:=Tryz.f9) (c:=b9) (by kernel_rfl) (by kernel_rfl) body9 fun e4=>?_;have e9:(#[Operand.tmp 45,.tmp 46,.const (.slice none 0 0),.const (.int .i64 1000)].map (Act.eval ⟨(TG.setIfInBounds 45 (pt x)).setIfInBounds 46 (.int .i64 m),[]⟩))++Array.replicate (Tryz.f9.ntmps-(#[Operand.tmp 45,.tmp 46,.const (.slice none 0 0),.const (.int .i64 1000)].map (Act.eval ⟨(TG.setIfInBounds 45 (pt x)).setIfInBounds 46 (.int .i64 m),[]⟩)).size) undef=#[pt x,.int .i64 m,.slice none 0 0,.int .i64 1000,undef,undef,undef,undef,undef,undef,undef,undef,undef,undef,undef,undef,undef,undef,undef,undef,undef,undef,undef,undef,undef,undef,undef,undef,undef,undef,undef,undef,undef]:=by
  have hnt:Tryz.f9.ntmps=33:=by kernel_rfl
  have h1:(#[Operand.tmp 45,.tmp 46,.const (.slice none 0 0),.const (.int .i64 1000)].map (Act.eval ⟨(TG.setIfInBounds 45 (pt x)).setIfInBounds 46 (.int .i64 m),[]⟩))=#[pt x,.int .i64 m,.slice none 0 0,.int .i64 1000]:=by simp [Act.eval,Ja5,Jb9,y1]
  rw [hnt,h1];show _++Array.replicate 29 undef=_;rw [show Array.replicate 29 undef=#[undef,undef,undef,undef,undef,undef,undef,undef,undef,undef,undef,undef,undef,undef,undef,undef,undef,undef,undef,undef,undef,undef,undef,undef,undef,undef,undef,undef,undef] from by kernel_rfl];simp only [List.append_toArray,Jc7,Jc8]
 rw [e9];clear e9;have kK:=(HK.at e4).ke;refine J7r (x:=x) (m:=m) (most:=1000) (M:=200) (S:=S) (HK.at e4).bok (qF.ke kK qo7.bok.hnd fun _ h=>h) hm8 (by omega) J27.hin (by have:=J27.len;omega) (by omega) (fun T hn hT=>by have:=J27.Jo7 hn (J27.sum qF.cfg cn hh hT);omega) fun WL EL wL vL TL ksL LL qoL=>?_;rw [a1];simp only [Option.bind_some,d1];have hTL:=J27.sum qF.cfg cn hh qoL.sum;obtain ⟨lL,mL⟩:=Jk0 qoL.nd hTL qoL.outs qoL.row;obtain ⟨vaL,vcL,hvL⟩:=J7c qoL.row;have kL:=kK.trans qoL.ke;have kEL:KE E w wL:=kEF.trans (kL.mono le0F);have le0L:∀ b,E b->EL b:=fun b hb=>qoL.le b (le0F b hb);have HL:HS 3 WL EL wL EL ((TG.setIfInBounds 45 (pt x)).setIfInBounds 46 (.int .i64 m)) wL:=⟨qoL.bok,fun _ h=>h,.refl,fun _ _=>rfl,HK.tm.mono (J18 qoL.le),rfl,Ja2 _⟩;have HM:=HL.put (HL.set (s:=47) (.inr (vtup qoL.vE)));clear HL HK HJ HI kK kEF;refine Jlk (i:=3) (sR:=47) (sT:=44) (sA:=48) (sB:=49) (sX:=12) (sY:=13) HM (by rw [Ja9 (by simp [y1])]) qoL.vE (by simp [y1]) (by omega) J02m J02n J02o J02p J02q fun TN wN HN n1 n2 n3 n4 n5=>?_;refine J6 (fun w1=>stepG_region_end) rfl fun d6=>?_;have ns:∀ i,i≠45->i≠46->i≠47->i≠44->i≠48->i≠49->i≠12->i≠13->TN[i]?=TG[i]?:=fun i m1 m2 m3 m4 m5 m6 m7 m8=>by rw [n4 i m4 m5 m6 m7 m8,Ja1 (Ne.symm m3),Ja1 (Ne.symm m2),Ja1 (Ne.symm m1)]
 have y1N:TN.size=234:=by rw [n1];simpa using y1
 have o0:=(ns 0 (by omega) (by omega) (by omega) (by omega) (by omega) (by omega) (by omega) (by omega)).trans g0;have o7:=(ns 7 (by omega) (by omega) (by omega) (by omega) (by omega) (by omega) (by omega) (by omega)).trans g7;have o9:=(ns 9 (by omega) (by omega) (by omega) (by omega) (by omega) (by omega) (by omega) (by omega)).trans g9;have o10:=(ns 10 (by omega) (by omega) (by omega) (by omega) (by omega) (by omega) (by omega) (by omega)).trans g2;have o11:=(ns 11 (by omega) (by omega) (by omega) (by omega) (by omega) (by omega) (by omega) (by omega)).trans g3;have HO:=HN.at d6;have hwO:(wN.at d6).heap=wL.heap:=n5;clear HM HN n1 n4 n5 ns;generalize wN.at d6=wO at *;have Jo1:∀ τ,tail3.wp Tryz.prog (fun e a w'=>e=.ret/\a.defers=[Jp]/\a.tmps.size=234/\(a.tmps[1]?=TN[1]?/\a.tmps[30]?=TN[30]?)/\a.tmps[6]?=some (.bool true)/\Tch (wO.tp τ 0).heap.size M0 (wO.tp τ 0) w') ⟨TN,[Jp]⟩ (wO.tp τ 0):=by
  intro τ;have k7:=Jjy qo7.nd hT7 qo7.keys;have kL':=Jjy qoL.nd hTL qoL.keys;by_cases hne:fs=[]
  ·have e0:LL.length=0:=by
    rw [lL];unfold J3r;rw [Jc3];rcases List.eq_nil_or_concat (ksL.map (·.1)) with e|⟨l,a,e⟩
    ·rw [e];rfl
    ·obtain ⟨f,hf,_⟩:=kL'.of a (by rw [e];simp);rw [hne] at hf;cases hf
   rw [hvL,e0] at n2;rw [hne] at o7;exact Jqy (c:=c') y1N hc cb o0 o7 o11 ⟨_,_,n2⟩ n3
  ·obtain ⟨f0,hf0⟩:=List.exists_mem_of_ne_nil _ hne;have p7:0<L7.length:=by rw [l7];unfold J3r;rw [Jc3];exact List.length_pos_of_mem (k7.has f0 hf0)
   have pL:0<LL.length:=by rw [lL];unfold J3r;rw [Jc3];exact List.length_pos_of_mem (kL'.has f0 hf0)
   obtain ⟨gb7,gc7,e7,r7⟩:=m7 p7;obtain ⟨gbL,gcL,eL,rL⟩:=mL pL;have eg7:EF gb7:=by have:=qo7.vE;rw [e7] at this;exact this.J1i
   have len7:L7.length<=1000:=by have h1:=qo7.keys.length;have h2:=J27.Jo7 qo7.nd hT7;rw [qo7.outs.1];simp at h1;omega
   have lenL:LL.length<=1000:=by have h1:=qoL.keys.length;have h2:=J27.Jo7 qoL.nd hTL;rw [qoL.outs.1];simp at h1;omega
   rw [e7,l7] at o10;rw [eL,lL] at n2;exact Jtr (w:=wO.tp τ 0) y1N hc cb o0 o7 o9 o10 o11 n2 n3 qF.cfg cn (Jtn qF.cfg cn hh hm8 J27.n3 k7 kL') hfl (by rw [<- l7];exact len7) (by rw [<- lL];exact lenL) (fun j p hp=>((r7 j p hp).ke qo7.bok.wr eg7 kL).at hwO) (fun j p hp=>(rL j p hp).at hwO)
 refine Reach.ret (b:=Go.Conc.base 3) (X0:=[.code tail3]) (k:=[]) J1u rfl (.cons (.code J04t) .nil) Jo5 df3 Jf0 (by simp [Go.Conc.base]) HO.bok HO.tm (Q:=fun t1 w1=>t1[6]?=some (.bool true)/\∀ b,b<wO.heap.size->w1.heap[b]?=wO.heap[b]?) (fun τ=>?_) fun EP TP wP wQ todo leP hBP hWP htP ⟨t1,t2⟩=>?_
 ·refine LGo.wp (wp_mono (Jo1 τ) fun e b w' ⟨n1,n2,n3,nk,n4,n5⟩=>?_);subst n1;refine Cont.ret ⟨fun i hi hi2=>?_,n4,fun b hb=>n5.heap b hb fun x=>x⟩ n2;rcases hl3 hi with h|h
  ·exact Jo6 nk i h
  ·omega
 ·refine Reach.here ⟨rfl,fun w1 hw1=>⟨.bool true,?_,rfl,?_⟩⟩
  ·rw [Jnj (f:=Tryz.f3) (x:=6) (by kernel_rfl) (by kernel_rfl) (by kernel_rfl)];simp [Ja5,t1]
  ·obtain ⟨dd,rfl⟩:=hw1;have kO:KE EL wL wO:=.of_eq fun b _=>by rw [hwO]
   have kQ:KE EL wO wQ:=(KE.of_eq fun b hb=>t2 b (HO.bok.lt hb)).trans ((Jy rfl hWP).mono leP);exact (kEL.trans ((kO.trans kQ).mono le0L)).trans (.of_eq fun _ _=>rfl)
end
end Go.Sim.Z
section
namespace Go.Sim.Z
open Go Go.Proofs Go.RowKit Go.Conc Go.Maps
theorem Jkr {w:World} {c mz:Int} {la:Option Addr} {rs:List J1t} {n lc:Nat} (hh:w.heap[Tryz.prog.globals.size]?=some (.cells ((Array.range Tryz.prog.types.size).map fun t=>.int .u64 (Int.ofNat t)) 0)) (hc:I64 c) (hm:I64 mz) (hR:Jaz w la rs) (hn:rs.length=n)
  (hA:∀ a,la=some a->a.block<w.heap.size/\(∀ c z,w.heap[a.block]?≠some (.cells c wgT z))/\∀ c z,w.heap[a.block]?≠some (.cells c 0 z)) :
  ∃ M last o w' t',runNT Tryz.prog (M+1) (solo (G (Frame.enter Tryz.prog 3 #[.int .i64 c,.slice la n lc,.int .i64 mz] .normal) []) w) #[]=(.ended o w',t')/\runN Tryz.prog M (solo (G (Frame.enter Tryz.prog 3 #[.int .i64 c,.slice la n lc,.int .i64 mz] .normal) []) w)=.next last /\
   step Tryz.prog last=.ended o w'/\Go.Conc.Good Tryz.prog (fun v w'=>v=.bool true/\(∀ b,b<w.heap.size->w'.heap[b]?=w.heap[b]?)/\w'.os=w.os/\w'.output=w.output) last o w' t':=by
 have hW:∀ b,(b<w.heap.size/\b≠Tryz.prog.globals.size)->b<w.heap.size:=fun b h=>h.1;rw [enter_at _ (show Tryz.prog.funcs[3]?=some Tryz.f3 by kernel_rfl) body3];have hnt:Tryz.f3.ntmps=234:=by kernel_rfl
 rw [hnt,show (234-(#[Value.int .i64 c,.slice la n lc,.int .i64 mz]:Array Value).size)=231 from rfl];obtain ⟨T0,hT0⟩:∃ T0,T0=#[Value.int .i64 c,.slice la n lc,.int .i64 mz]++Array.replicate 231 undef:=⟨_,rfl⟩;rw [<- hT0];have sz:T0.size=234:=by rw [hT0];simp
 have s0:T0[0]?=some (.int .i64 c):=by rw [hT0];simp
 have s1:T0[1]?=some (.slice la n lc):=by rw [hT0];simp
 have s2:T0[2]?=some (.int .i64 mz):=by rw [hT0];simp
 have sn:∀ j x,3<=j->T0[j]?=some x->x=undef:=fun j x h1 hx=>by
  rw [hT0,Array.getElem?_append_right (by simpa using h1),Array.getElem?_replicate] at hx;split at hx
  ·exact (Ja0 hx).symm
  ·cases hx
 clear hT0;have ht:TmR C0 S0 3 (idE fun b=>b=Tryz.prog.globals.size) T0 T0:=by
  refine ⟨rfl,fun j x x' hj h1 h2=>?_,fun j x hj _=>by cases hj⟩;rw [h1] at h2;cases h2
  match j with
  | 0=>rw [s0] at h1;cases h1;exact .int _ _
  | 1=>cases hj
  | 2=>rw [s2] at h1;cases h1;exact .int _ _
  | j+3=>rw [sn _ x (by omega) h1];exact .undef
 obtain ⟨M,last,o,w',t',h1,h2,h3,h4⟩:=Jgr hW (Jk1 (Jql hh) (Jqm hh) hc hm hR hn (fun a ha=>⟨(hA a ha).1,fun e=>(hA a ha).2.2 _ _ (by rw [e];exact hh)⟩) (fun a ha=>(hA a ha).2.1) sz s0 s1 s2 ht);refine ⟨M,last,o,w',t',h1,h2,h3,?_⟩;obtain ⟨v,a1,⟨⟨a2,a3⟩,a4,a5,a6⟩,a7⟩:=h4;refine ⟨v,a1,⟨a2,fun b hb=>?_,a5,a6⟩,a7⟩;by_cases e:b=Tryz.prog.globals.size
 ·subst e;rw [hh];exact a3 _ _ rfl hh trivial
 ·exact a4 b ⟨hb,e⟩
end Go.Sim.Z
namespace Go.Proofs.YtlcbehhbfglgaaaGreat
open Go.Sim.Z Go.ChangeShapes Go.WideShapes Go.ChangeAt Go.RowKit Go.Conc
theorem Jgu (os:Os) (started:os.Started) (H:Type) (enc:TypeId × Value->H) :
  ReturnsInLeavingWide {} Tryz.checked os 3 .any (Rows.rolledSpec.pre6 enc Tryz.prog Tryz.f3 Rows.rolledRow.domain false) (Rows.rolledSpec.post enc Tryz.prog Tryz.f3 false true false false):=by
 refine returnsInLeavingWide_of_good (C:=Tryz.checked) Go.Sim.Z.Tryz.own started
  (ChangeSpec.witness6 (enc:=enc) (C:=Tryz.checked) false ⟨#[],#[.int .i64 0,.slice none 0 0,.int .i64 0],[]⟩ 8 (by kernel_rfl) (by kernel_rfl) (by kernel_rfl) (by kernel_rfl)) ?_
 intro w tape i _ hsh _ hok hpre _;obtain ⟨_,_,_,fn',hfn',_,_,_,_,hval⟩:=hok;have hf4:Tryz.checked.prog.funcs[3]?=some Tryz.f3:=by kernel_rfl
 obtain rfl:fn'=Tryz.f3:=Ja0 (hfn'.symm.trans hf4);obtain ⟨⟨ds,gs,before,hw,hc⟩,hz⟩:=hpre;have hw':=DataW.Whole.of_heap (w':=w.forCall tape i) (by rfl) hw;have hwb:=DataW.Whole.of_heap (w':=(w.forCall tape i).blind) (by rfl) hw;obtain ⟨wf,args,vars⟩:Input:=i;generalize hW:w.forCall tape ⟨wf,args,vars⟩=W at *;simp only at hw' hwb hval ⊢;have hlt:=hw'.lt;obtain ⟨p,q,hA0,hV,rfl,_,_⟩:=hw';have hp4:Tryz.f3.params.toList=[3,22,3]:=by kernel_rfl
 have hA:DataW.TrodAll enc Tryz.prog W 0 (fun _=>true) true Tryz.f3.params.toList args.toList ds p:=hA0;rw [hp4] at hA;obtain ⟨v0,v1,v2,d0,d1,d2,p0,p1,p2,rfl,rfl,rfl,t0,t1,t2⟩:=trodAll_three hA;obtain ⟨rfl,rfl⟩:=trodVars_none hV;have hv0:Value.okWide Tryz.prog W .any w.heap.size 3 v0:=hval 0 3 v0 (by kernel_rfl) rfl;have hv1:Value.okWide Tryz.prog W .any w.heap.size 22 v1:=hval 1 22 v1 (by kernel_rfl) rfl;have hv2:Value.okWide Tryz.prog W .any w.heap.size 3 v2:=hval 2 3 v2 (by kernel_rfl) rfl;obtain ⟨c,rfl,rfl,rfl,hcw⟩:=open_int J91 hv0 t0;obtain ⟨m,rfl,rfl,rfl,hmw⟩:=open_int J91 hv2 t2;obtain ⟨la,n,lc,rfl⟩:=okWide_slice Jnm hv1;obtain ⟨rs,hn,hR,hA1⟩:=Jt4 ⟨_,_,hv1⟩ t1;have hi64:∀ {x:Int},(Lit.int .i64 x).wf=true->I64 x:=fun h=>by simp [Lit.wf,IntKind.min,IntKind.max,IntKind.signed,IntKind.bits] at h;exact ⟨by omega,by omega⟩
 obtain ⟨M,last,o,w',t',h1,h2,h3,v,a1,⟨rfl,a3,a4,a5⟩,a6⟩:=Jkr (Jnn hsh) (hi64 hcw) (hi64 hmw) hR hn hA1;refine ⟨M,last,o,w',t',h1,h2,h3,_,a1,?_,a6⟩;have hb:Below W.blind.heap.size W.blind w'.blind:=⟨a4,rfl,a5,Jwh a3,a3⟩;have hp1:∀ x∈p1,x.block<W.blind.heap.size:=fun x hx=>hlt x (by simp [hx]);refine ⟨[.lit (.int .i64 c),d1,.lit (.int .i64 m)],[],_,[],[]++(p1++[]),[],hwb,?_,?_,rfl,hb.frame _,fun h=>by cases h⟩
 ·have hrt:Tryz.f3.resultTypes.toList=[4]:=by kernel_rfl
  have hrs:Tryz.f3.resultTypes.size=1:=by kernel_rfl
  show DataW.TrodAll enc Tryz.prog w'.blind W.blind.heap.size (fun _=>false) false Tryz.f3.resultTypes.toList (Value.resultList Tryz.f3.resultTypes.size (.bool true)) [.lit (.bool true)] [];rw [hrt,hrs];exact trodAll_mk1 (shut_bool und4 true)
 ·show DataW.TrodAll enc Tryz.prog w'.blind 0 (fun b=>decide (b<W.blind.heap.size)) true Tryz.f3.params.toList [.int .i64 c,.slice la n lc,.int .i64 m] [.lit (.int .i64 c),d1,.lit (.int .i64 m)] ([]++(p1++[]));rw [hp4];exact trodAll_mk3 (shut_int J91 hcw) (Below.trod Jhm (by kernel_rfl) (of_decide_eq_true (by kernel_rfl)) (W:=W.blind) (DataW.Trod.of_heap (w:=W) (w':=W.blind) rfl t1) hb hp1) (shut_int J91 hmw)
theorem rolled_holds:Rows.RolledSaid:=
 OpenClaim.holds_of_wide_leaving 3 Tryz.f3 rfl rfl rfl rfl rfl rfl rfl ⟨rfl,rfl,rfl,rfl,rfl⟩ rfl rfl rfl rfl rfl (by kernel_rfl) (by kernel_rfl) (by kernel_rfl)
  (of_decide_eq_true (by kernel_rfl)) (by unfold Func.isWrapper;first|(rw [if_pos (by decide +kernel)];kernel_rfl)|(rw [if_neg (by decide +kernel)];exact ⟨rfl,rfl⟩))
  (fun os started H enc _=>Jgu os started H enc)
end Go.Proofs.YtlcbehhbfglgaaaGreat
end
