/- What functions of the program compute: plain functions, and the proofs. -/
import Derived.Test.YtlaogbbcipebgaaGreatW4
set_option linter.unusedVariables false
set_option linter.unusedSimpArgs false
open Go Go.Proofs.YtlaogbbcipebgaaGreat.Sh Go.Proofs
namespace Go.Proofs.YtlaogbbcipebgaaGreat
set_option maxRecDepth 100000
set_option maxHeartbeats 40000000
def N3 (F:Nat)  (K:(List Int)→Int→Int→Option (List Int)):Nat→(List Int)→Int→Int→Option (List Int)
 | 0,_,_,_=>none
 | n+1,s2,i,j=>if i<j then((P3 s2 j).bind fun e=>(P3 s2 i).bind fun e2=>(A5g s2 i e).bind fun s3=>(P3 s3 j).bind fun e3=>(A5g s3 j e2).bind fun s4=>N3 F K n s4 (W (i+1)) (W (j-1)))else(K s2 i j)
def C1C (F:Nat) (s:(List Int)):Option (List Int):=N3 F (fun(s2:(List Int)) (i:Int) (j:Int)=>some s2) F s 0 (W ((s.length:Int)-1))
theorem C2s {F:Nat} {s:(List Int)} {r:(List Int)} (h:C1C F s=some r):SCR Tryz.prog 58 [.row 0 1 0 (s).length] [B0u s] (.d (.tup [])) [B0u r]:=by
 rw[C1C]at h
 refine SC.of_sw Tryz.func58 R R R ?_
 dsimp only[L8,List.map]
 refine qG (A0T R R R (A8F tb R R R R R (A1n R R R R (A3 R (A3 R (eN (E3 ?_)))))))
 obtain⟨K2,hK2,h⟩:∃ K,K=_∧N3 F K F s 0 (W ((s.length:Int)-1))=some r:=⟨_,rfl,h⟩
 refine M2 (fun m st=>∃ (s2:(List Int)) (i:Int) (j:Int),N3 F K2 m s2 i j=some r∧st=⟨[(0,.row 0 1 0 (s2).length),(2,.d (vI i)),(3,.d (vI j))],[B0u s2]⟩) (.prn [0,2,3] R) ⟨s,0,(W ((s.length:Int)-1)),h,R⟩ ?_
 clear h
 rintro m2 st ⟨s2,i,j,h,rfl⟩
 cases m2 with
 | zero=>cases(show(none:Option (List Int))=some r from h)
 | succ m2 =>
 rw[N3]at h
 refine B8 (qG (A0 R (A0 R ?_)))
 refine Q4 R R R R ?_ ?_
 ·intro c
  replace h:=J7 c h
  refine eN (C0 R (D7 (A6 (B8 (E3 (T1 kR (A0T R R R (A0 R (A0T R R R (A0 R (A0T R R R (A0 R ?_))))))))))))
  obtain⟨e,ie,h⟩:=H1 h
  refine Y1 tb R R R R R R (F0 ie) (ix1 ie) R R ?_
  refine A15 (y:=vI e) tb R R R R (U5 (g:=fun a=>T.d (vI a)) ie) R R R R ?_
  refine A0T R R R (A0 R ?_)
  obtain⟨e2,ie2,h⟩:=H1 h
  refine Y1 tb R R R R R R (F0 ie2) (ix1 ie2) R R ?_
  refine A15 (y:=vI e2) tb R R R R (U5 (g:=fun a=>T.d (vI a)) ie2) R R R R ?_
  refine Y1 tb R R R R R R (F0 ie2) (ix1 ie2) R R ?_
  obtain⟨s3,is3,h⟩:=H1 h
  refine A5d (a':=(e:Int)) tb R R R R ie2 R R R R is3 R R ?_
  dsimp only[List.set_cons_zero,List.set_cons_succ,J2,C6,A0h,C5,B4I]
  first | rw[A2a is3] | skip
  obtain⟨e3,ie3,h⟩:=H1 h
  refine Y1 tb R R R R R R (F0 ie3) (ix1 ie3) R R ?_
  obtain⟨s4,is4,h⟩:=H1 h
  refine A5d (a':=(e2:Int)) tb R R R R ie3 R R R R is4 R R ?_
  dsimp only[List.set_cons_zero,List.set_cons_succ,J2,C6,A0h,C5,B4I]
  first | rw[A2a is4] | skip
  refine I0 kR (D3 (A6 (J1 (A0 R (O1 R (A0 R (A1n R R R R (A3 R (A3 R (eN ?_))))))))))
  exact⟨m2,_,lS,.prn [0,2,3] R,s4,(W (i+1)),(W (j-1)),h,R⟩
 intro c
 replace h:=P1 (nL c) h
 refine eN (C1 R (N5 (E4 (E4 ?_))))
 subst hK2
 refine I5 ?_
 obtain rfl:=sI h
 exact A1R (U0 (t := .d (.tup [])) (L:=[B0u s2]) (κ:=[0]) R .nil (vK C23 R) ⟨R,R⟩)
def B90 (F:Nat) (rv3:(List Int)) (x:Int) (e:E0) (K:(List Int)→Int→Option ((List Int) × Int)):Nat→(List Int)→Int→Option ((List Int) × Int)
 | 0,_,_=>none
 | n+1,a2,x2=>if x2<(e.need.length:Int)then((P3 e.need x2).bind fun e2=>(P3 a2 x).bind fun e3=>if e3<0 then((A5g a2 x e2).bind fun a3=>B90 F rv3 x e K n a3 (W (x2+1)))else((P3 rv3 e2).bind fun e4=>(P3 rv3 e3).bind fun e5=>if e5<e4 then((A5g a2 x e2).bind fun a4=>B90 F rv3 x e K n a4 (W (x2+1)))else(B90 F rv3 x e K n a2 (W (x2+1)))))else(K a2 x2)
def C1P (F:Nat) (a:(List Int)) (K:(List Int)→Int→Option ((List Int) × Int)):Nat→(List Int)→Int→Option ((List Int) × Int)
 | 0,_,_=>none
 | n+1,A,x3=>if 0≤x3 then((A8i A [x3]).bind fun q2=>(P3 a x3).bind fun e10=>C1P F a K n q2 e10)else(K A x3)
def C1B (F:Nat) (t:D4) (K:(List Int)→(List Int)→Int→Option ((List Int) × Int)):Nat→(List Int)→(List Int)→Int→Option ((List Int) × Int)
 | 0,_,_,_=>none
 | n+1,rv3,a,x=>if x<(t.steps.length:Int)then((P3 t.steps x).bind fun e=>B90 F rv3 x e (fun(a2:(List Int)) (x2:Int)=>(P3 rv3 x).bind fun e6=>(A5g rv3 x e.least).bind fun rv4=>(P3 a2 x).bind fun e7=>if 0≤e7 then((P3 rv4 x).bind fun e8=>(P3 rv4 e7).bind fun e9=>(A5g rv4 x (W (e8+e9))).bind fun rv5=>C1B F t K n rv5 a2 (W (x+1)))else(C1B F t K n rv4 a2 (W (x+1)))) F a 0)else(K rv3 a x)
def C2x (F:Nat) (t:D4):Option ((List Int) × Int):=(A4P F t).bind fun rv=>if rv.2.2=0 then((B1D (t.steps.length:Int)).bind fun q=>(A0b F [(-1)] (t.steps.length:Int)).bind fun rv2=>C1B F t (fun(rv3:(List Int)) (a:(List Int)) (x:Int)=>C1P F a (fun(A:(List Int)) (x3:Int)=>(C3u (C1C F A) A).bind fun rv6=>some (rv6,0)) F ([]:List Int) (W ((t.steps.length:Int)-1))) F (List.replicate q (0:Int)) rv2 0)else(some (([]:List Int),rv.2.2))
theorem C2B {F:Nat} {t:D4} {r:((List Int) × Int)} (h:C2x F t=some r):SCR Tryz.prog 29 (List.map T.d [D4.d t]) [] (.tup [.row 0 1 0 (r.1).length,.d (.v (.int .i64 r.2))]) (List.map some [(B7 r.1)]):=by
 rw[C2x]at h
 refine SC.of_sw Tryz.func29 R R R ?_
 dsimp only[L8,List.map]
 refine qG (M9 R (A3 R (A3 R (eN (B8 (qG (B5 (y:=D4.d t) tb R ?_)))))))
 obtain⟨rv,k,h⟩:=H1 h
 refine J5 (B0K k) eK R R R R (A0 R (Q1 (t:=vI rv.1) R R R R (Q1 (t:=vI rv.2.1) R R R R (Q1 (t:=vI rv.2.2) R R R R (A3 R (eN (qG (A0 R ?_))))))))
 refine V5 R R R R ?_ ?_
 ·intro c
  replace h:=P1 c h
  refine eN (C0 R (qG (A0 R (A3 R (A3 R (eN ?_))))))
  refine SW.own (ts':=[(2,.row 1 1 0 (([]:List Int)).length),(3,.d (vI rv.2.2))]) (L':=[bx 13 (.d (D4.d t))]) 1 R R (.cons .nil (.cons (.same _) .nil)) (.same .nil) ?_
  simp only[List.cons_append,List.nil_append]
  refine C9 (B2 ?_)
  obtain rfl:=sI h
  exact f2 [1] C23 R (.cons (.tmp 2) (.cons (.tmp 3) .nil)) R
 intro c
 replace h:=J7 c h
 refine eN (C1 R (D7 (A6 (B8 (T1 kR (C8 tb R (B5 (y := .arr 9 ((t.steps).map E0.d)) tb R (I7 tb R ?_))))))))
 obtain⟨q,iq,h⟩:=H1 h
 refine B00 (v:=(0:Int)) (g:=vI) tb R R R R R R R ((A6i iq).1) ((A6i iq).2) R R R R (P7 tb R R R R R R R R R R R R R (C8 tb R (B5 (y := .arr 9 ((t.steps).map E0.d)) tb R (I7 tb R ?_))))
 obtain⟨rv2,k2,h⟩:=H1 h
 refine C2R (t' := .row 3 1 0 (rv2).length) (news':=[(B7 rv2)]) ([none,none,B0u [(-1)]]) ((.drop (.drop (.keep (.nil _))))) (A06 k2) R ((.row (fun _=>rfl) .nil)) eK R R ((.cons (.row R R) (dL .nil))) R ((.row .nil)) R R R ?_
 refine A14 R R R (A14 R R R (I0 kR (A6 (B8 (qG (C8 tb R (B5 (y := .arr 9 ((t.steps).map E0.d)) tb R (I7 tb R (A0 R (eN (E3 ?_)))))))))))
 obtain⟨K6,hK6,h⟩:∃ K,K=_∧C1B F t K F (List.replicate q (0:Int)) rv2 0=some r:=⟨_,rfl,h⟩
 refine M2 (st0:=⟨[(1,.ref 0 13 0 0),(2,.d (.v (.slice none 0 0))),(3,.d (vI rv.2.2)),(4,.row 1 1 0 ((List.replicate q (0:Int))).length),(5,.row 2 1 0 (rv2).length),(30,.d (.arr 9 ((t.steps).map E0.d))),(31,.d (vI (t.steps.length:Int))),(32,.d (vI 0))],[bx 13 (.d (D4.d t)),B0u (List.replicate q (0:Int)),B0u rv2]⟩) (fun m st=>∃ (rv3:(List Int)) (a:(List Int)) (x:Int),C1B F t K6 m rv3 a x=some r∧st=⟨[(1,.ref 0 13 0 0),(2,.d (.v (.slice none 0 0))),(3,.d (vI rv.2.2)),(4,.row 1 1 0 (rv3).length),(5,.row 2 1 0 (a).length),(30,.d (.arr 9 ((t.steps).map E0.d))),(31,.d (vI (t.steps.length:Int))),(32,.d (vI x))],[bx 13 (.d (D4.d t)),B0u rv3,B0u a]⟩) (.vw (κ:=[0,1,3]) (vK (.cons R R C37) R)) ⟨(List.replicate q (0:Int)),rv2,0,h,R⟩ ?_
 clear h
 rintro m6 st ⟨rv3,a,x,h,rfl⟩
 cases m6 with
 | zero=>cases(show(none:Option ((List Int) × Int))=some r from h)
 | succ m6 =>
 rw[C1B]at h
 refine qG ?_
 refine Q4 R R R R ?_ ?_
 ·intro c2
  replace h:=J7 c2 h
  refine eN (B8 (C0 R (D7 (A6 (B8 (E3 (qG (A0 R ?_))))))))
  obtain⟨e,ie,h⟩:=H1 h
  refine N8 tb (F0 ie) (V1 ie) R (I4 (y:=E0.d e) tb (U5 (g:=E0.d) ie) R (M5 tb R R R R R (A3 R (I6 _ _ tb R (eN (B8 (qG (C8 tb R (B5 (y := .arr 1 ((e.need).map vI)) tb R (I7 tb R (A0 R (eN (E3 ?_)))))))))))))
  obtain⟨K10,hK10,h⟩:∃ K,K=_∧B90 F rv3 x e K F a 0=some r:=⟨_,rfl,h⟩
  refine M2 (fun m st=>∃ (a2:(List Int)) (x2:Int),B90 F rv3 x e K10 m a2 x2=some r∧st=⟨[(1,.ref 0 13 0 0),(2,.d (.v (.slice none 0 0))),(3,.d (vI rv.2.2)),(4,.row 1 1 0 (rv3).length),(5,.row 2 1 0 (a2).length),(6,.d (vI x)),(7,.ref 3 9 0 0),(30,.d (.arr 9 ((t.steps).map E0.d))),(31,.d (vI (t.steps.length:Int))),(32,.d (vI x)),(38,.d (.arr 1 ((e.need).map vI))),(39,.d (vI (e.need.length:Int))),(40,.d (vI x2))],[bx 13 (.d (D4.d t)),B0u rv3,B0u a2,bx 9 (.d (E0.d e))]⟩) (.prn [1,2,3,4,5,6,7,30,31,32,38,39,40] R) ⟨a,0,h,R⟩ ?_
  clear h
  rintro m10 st ⟨a2,x2,h,rfl⟩
  cases m10 with
  | zero=>cases(show(none:Option ((List Int) × Int))=some r from h)
  | succ m10 =>
  rw[B90]at h
  refine qG ?_
  refine Q4 R R R R ?_ ?_
  ·intro c3
   replace h:=J7 c3 h
   refine eN (B8 (C0 R (D7 (A6 (B8 (E3 (qG ?_)))))))
   obtain⟨e2,ie2,h⟩:=H1 h
   refine N8 tb (F0 ie2) (V1 ie2) R (I4 (y:=vI e2) tb (U5 (g:=vI) ie2) R (A3 R (eN (B8 (T1 kR (A0T R R R (A0 R ?_)))))))
   obtain⟨e3,ie3,h⟩:=H1 h
   refine Y1 tb R R R R R R (F0 ie3) (ix1 ie3) R R ?_
   refine A15 (y:=vI e3) tb R R R R (U5 (g:=fun a=>T.d (vI a)) ie3) R R R R ?_
   refine Q4 R R R R ?_ ?_
   ·intro c4
    replace h:=J7 c4 h
    refine A0 R (L9 12 R (D6 R (I0 kR (A6 (C0 R (J1 (A0T R R R (A0 R (A0 R (Y1 tb R R R R R R (F0 ie3) (ix1 ie3) R R ?_))))))))))
    obtain⟨a3,ia3,h⟩:=H1 h
    refine A5d (a':=(e2:Int)) tb R R R R ie3 R R R R ia3 R R ?_
    dsimp only[List.set_cons_zero,List.set_cons_succ,J2,C6,A0h,C5,B4I]
    first | rw[A2a ia3] | skip
    refine Y9 (D3 (A6 (J1 (O1 R (A0 R (eN ?_))))))
    exact⟨m10,_,lS,.prn [1,2,3,4,5,6,7,30,31,32,38,39,40] R,a3,(W (x2+1)),h,R⟩
   intro c4
   replace h:=P1 (nL c4) h
   refine A0 R (A0T R R R (A0 R ?_))
   obtain⟨e4,ie4,h⟩:=H1 h
   refine Y1 tb R R R R R R (F0 ie4) (ix1 ie4) R R ?_
   refine A15 (y:=vI e4) tb R R R R (U5 (g:=fun a=>T.d (vI a)) ie4) R R R R ?_
   refine A0T R R R (A0T R R R (A0 R (Y1 tb R R R R R R (F0 ie3) (ix1 ie3) R R ?_)))
   refine A15 (y:=vI e3) tb R R R R (U5 (g:=fun a=>T.d (vI a)) ie3) R R R R ?_
   obtain⟨e5,ie5,h⟩:=H1 h
   refine Y1 tb R R R R R R (F0 ie5) (ix1 ie5) R R ?_
   refine A15 (y:=vI e5) tb R R R R (U5 (g:=fun a=>T.d (vI a)) ie5) R R R R ?_
   refine A4l R R R R ?_ ?_
   ·intro c5
    replace h:=J7 c5 h
    refine D0 R (I0 kR (A6 (C0 R (J1 (A0T R R R (A0 R (A0 R (Y1 tb R R R R R R (F0 ie3) (ix1 ie3) R R ?_))))))))
    obtain⟨a4,ia4,h⟩:=H1 h
    refine A5d (a':=(e2:Int)) tb R R R R ie3 R R R R ia4 R R ?_
    dsimp only[List.set_cons_zero,List.set_cons_succ,J2,C6,A0h,C5,B4I]
    first | rw[A2a ia4] | skip
    refine Y9 (D3 (A6 (J1 (O1 R (A0 R (eN ?_))))))
    exact⟨m10,_,lS,.prn [1,2,3,4,5,6,7,30,31,32,38,39,40] R,a4,(W (x2+1)),h,R⟩
   intro c5
   replace h:=P1 (nL c5) h
   refine D0 R (I0 kR (A6 (C1 R (D7 (D3 (A6 (J1 (O1 R (A0 R (eN ?_))))))))))
   exact⟨m10,_,lS,.prn [1,2,3,4,5,6,7,30,31,32,38,39,40] R,a2,(W (x2+1)),h,R⟩
  intro c3
  replace h:=P1 (nL c3) h
  refine eN (B8 (C1 R (N5 (E4 (E4 ?_)))))
  subst hK10
  refine I5 (A6 (qG (A0T R R R (A0 R (C8 tb R (B5 (y:=vI e.least) tb R ?_))))))
  obtain⟨e6,ie6,h⟩:=H1 h
  refine Y1 tb R R R R R R (F0 ie6) (ix1 ie6) R R ?_
  obtain⟨rv4,irv4,h⟩:=H1 h
  refine A5d (a':=(e.least:Int)) tb R R R R ie6 R R R R irv4 R R ?_
  dsimp only[List.set_cons_zero,List.set_cons_succ,J2,C6,A0h,C5,B4I]
  first | rw[A2a irv4] | skip
  refine eN (qG (A0T R R R (A0 R ?_)))
  obtain⟨e7,ie7,h⟩:=H1 h
  refine Y1 tb R R R R R R (F0 ie7) (ix1 ie7) R R ?_
  refine A15 (y:=vI e7) tb R R R R (U5 (g:=fun a=>T.d (vI a)) ie7) R R R R ?_
  refine A7I R R R R ?_ ?_
  ·intro c6
   replace h:=J7 c6 h
   refine eN (C0 R (T1 kR (A0T R R R (A0 R ?_))))
   obtain⟨e8,ie8,h⟩:=H1 h
   refine Y1 tb R R R R R R (F0 ie8) (ix1 ie8) R R ?_
   refine A15 (y:=vI e8) tb R R R R (U5 (g:=fun a=>T.d (vI a)) ie8) R R R R ?_
   refine A0T R R R (A0T R R R (A0 R (Y1 tb R R R R R R (F0 ie7) (ix1 ie7) R R ?_)))
   refine A15 (y:=vI e7) tb R R R R (U5 (g:=fun a=>T.d (vI a)) ie7) R R R R ?_
   obtain⟨e9,ie9,h⟩:=H1 h
   refine Y1 tb R R R R R R (F0 ie9) (ix1 ie9) R R ?_
   refine A15 (y:=vI e9) tb R R R R (U5 (g:=fun a=>T.d (vI a)) ie9) R R R R ?_
   refine O1 R (Y1 tb R R R R R R (F0 ie8) (ix1 ie8) R R ?_)
   obtain⟨rv5,irv5,h⟩:=H1 h
   refine A5d (a':=((W (e8+e9)):Int)) tb R R R R ie8 R R R R irv5 R R ?_
   dsimp only[List.set_cons_zero,List.set_cons_succ,J2,C6,A0h,C5,B4I]
   first | rw[A2a irv5] | skip
   refine I0 kR (D3 (A6 (J1 (O1 R (A0 R (eN ?_))))))
   exact⟨m6,⟨[(1,.ref 0 13 0 0),(2,.d (.v (.slice none 0 0))),(3,.d (vI rv.2.2)),(4,.row 1 1 0 (rv5).length),(5,.row 2 1 0 (a2).length),(30,.d (.arr 9 ((t.steps).map E0.d))),(31,.d (vI (t.steps.length:Int))),(32,.d (vI (W (x+1))))],[bx 13 (.d (D4.d t)),B0u rv5,B0u a2]⟩,lS,.vw (κ:=[0,1,2]) (vK (.cons R R C37) R),rv5,a2,(W (x+1)),h,R⟩
  intro c6
  replace h:=P1 (Int.not_le.2 c6) h
  refine eN (C1 R (D7 (D3 (A6 (J1 (O1 R (A0 R (eN ?_))))))))
  exact⟨m6,⟨[(1,.ref 0 13 0 0),(2,.d (.v (.slice none 0 0))),(3,.d (vI rv.2.2)),(4,.row 1 1 0 (rv4).length),(5,.row 2 1 0 (a2).length),(30,.d (.arr 9 ((t.steps).map E0.d))),(31,.d (vI (t.steps.length:Int))),(32,.d (vI (W (x+1))))],[bx 13 (.d (D4.d t)),B0u rv4,B0u a2]⟩,lS,.vw (κ:=[0,1,2]) (vK (.cons R R C37) R),rv4,a2,(W (x+1)),h,R⟩
 intro c2
 replace h:=P1 (nL c2) h
 refine eN (B8 (C1 R (N5 (E4 (E4 ?_)))))
 subst hK6
 refine I5 (A6 (B8 (qG (C8 tb R (B5 (y := .arr 9 ((t.steps).map E0.d)) tb R (I7 tb R (A1n R R R R (A3 R (eN (E3 ?_))))))))))
 refine SW.own (ts':=[(2,.row 3 1 0 (([]:List Int)).length),(3,.d (vI rv.2.2)),(5,.row 2 1 0 (a).length),(10,.d (vI (W ((t.steps.length:Int)-1))))]) (L':=[bx 13 (.d (D4.d t)),B0u rv3,B0u a]) 1 R R (.cons .nil (.cons (.same _) (.cons (.same _) (.cons (.same _) .nil)))) (.same (.same (.same .nil))) ?_
 simp only[List.cons_append,List.nil_append]
 obtain⟨K12,hK12,h⟩:∃ K,K=_∧C1P F a K F ([]:List Int) (W ((t.steps.length:Int)-1))=some r:=⟨_,rfl,h⟩
 refine M2 (st0:=⟨[(2,.row 0 1 0 (([]:List Int)).length),(3,.d (vI rv.2.2)),(5,.row 1 1 0 (a).length),(10,.d (vI (W ((t.steps.length:Int)-1))))],[B0u ([]:List Int),B0u a]⟩) (fun m st=>∃ (A:(List Int)) (x3:Int),C1P F a K12 m A x3=some r∧st=⟨[(2,.row 0 1 0 (A).length),(3,.d (vI rv.2.2)),(5,.row 1 1 0 (a).length),(10,.d (vI x3))],[B0u A,B0u a]⟩) (.vw (κ:=[3,2]) (vK C37 R)) ⟨([]:List Int),(W ((t.steps.length:Int)-1)),h,R⟩ ?_
 clear h
 rintro m12 st ⟨A,x3,h,rfl⟩
 cases m12 with
 | zero=>cases(show(none:Option ((List Int) × Int))=some r from h)
 | succ m12 =>
 rw[C1P]at h
 refine B8 (qG (A0 R ?_))
 refine A7I R R R R ?_ ?_
 ·intro c7
  replace h:=J7 c7 h
  refine eN (C0 R (D7 (A6 (B8 (E3 (J1 (A0T R R R (A0 R (P7 tb R R R R R R R R R R R R R ?_)))))))))
  obtain⟨q2,iq2,h⟩:=H1 h
  refine B2k (g:=vI) (w:=A) (v:=[x3]) ([none,B0u a,B0u [x3]]) tb R R R R R R R R R R R iq2 R R R R R (A14 R R R (Y9 (D3 (A6 (J1 (A0T R R R (A0 R ?_)))))))
  obtain⟨e10,ie10,h⟩:=H1 h
  refine Y1 tb R R R R R R (F0 ie10) (ix1 ie10) R R ?_
  refine A15 (y:=vI e10) tb R R R R (U5 (g:=fun a=>T.d (vI a)) ie10) R R R R ?_
  refine A3 R (eN ?_)
  exact⟨m12,⟨[(2,.row 0 1 0 (q2).length),(3,.d (vI rv.2.2)),(5,.row 1 1 0 (a).length),(10,.d (vI e10))],[B0u q2,B0u a]⟩,lS,.vw (κ:=[3,1]) (vK C37 R),q2,e10,h,R⟩
 intro c7
 replace h:=P1 (Int.not_le.2 c7) h
 refine eN (C1 R (N5 (E4 (E4 ?_))))
 subst hK12
 refine I5 (A6 (qG (A0T R R R ?_)))
 obtain⟨rv6,k6,h⟩:=H1 h
 refine G7 (t' := .d (.tup [])) (ls:=[B0u rv6]) (news:=[]) ([0]) ([B0u rv6,B0u a]) (C2s (C2J k6).1) eK R (.inl ⟨R,R,R⟩) R R R R C4n R R R ((.row .nil)) .nil R R R R ?_
 first | (dsimp only[J2,C6,A0h,C5,B4I];rw[← (C2J k6).2]) | rw[← (C2J k6).2] | skip
 refine eN (qG (A0T R R R (A14 R R R (A3 R (eN (C9 ?_))))))
 obtain rfl:=sI h
 exact f2 [0] C23 R (.cons (.tmp 2) (.cons (.tmp 3) .nil)) R
theorem C2E {F:Nat} {t:D4} {r:((List Int) × Int)} (h:C2x F t=some r):PC Tryz.prog 29 [D4.d t] (.tup [.arr 1 ((r.1).map vI),.v (.int .i64 r.2)]):=(C2B h).toPC (.tupL (.cons (.row rfl rfl) (.cons (.d _) .nil)))
def A17 (F:Nat) (atv:Int) (kind:Int) (what:Int):Option C7:=some (C7.mk atv kind what 0 0 0 0 0)
theorem Z5 {F:Nat} {atv:Int} {kind:Int} {what:Int} {r:C7} (h:A17 F atv kind what=some r):PC Tryz.prog 27 [.v (.int .i64 atv),.v (.int .i64 kind),.v (.int .i64 what)] (C7.d r):=by
 rw[A17]at h
 refine SC.of_sw Tryz.func27 R R R ?_
 dsimp only[L8,List.map]
 refine qG (M5 tb R R R R R (eN (qG (A0 R (A0 R (A0 R (S1 (v := .d (.agg [vI atv,vI kind,vI what,vI 0,vI 0,vI 0,vI 0,vI 0])) tb R R (List.cons_ne_nil _ _) R R R R R R (I6 _ _ tb R (eN (C9 ?_))))))))))
 obtain rfl:=sI h
 exact U4 (t := .d (.agg [vI atv,vI kind,vI what,vI 0,vI 0,vI 0,vI 0,vI 0])) R R R (.cons (rc tb R) .nil)
def A9F (F:Nat) :Option D4:=(A9E F ).bind fun rv=>some (D4.mk rv.zones rv.doors rv.people rv.keys rv.squibs rv.panel rv.wait [(ByteArray.mk #[114,97,110,103,101]),(ByteArray.mk #[115,97,102,101,116,121])] [(D9.mk (ByteArray.mk #[109,97,105,110]) 1000 2)] [(E0.mk (ByteArray.mk #[102,105,108,108]) [] 100 200 false [] [] [] []),(E0.mk (ByteArray.mk #[112,111,119,101,114]) [0] 10 500 false [0] [] [] []),(E0.mk (ByteArray.mk #[99,104,101,99,107]) [0] 50 300 false [] [0] [] []),(E0.mk (ByteArray.mk #[112,111,108,108]) [1,2] 0 20 true [] [0] [] []),(E0.mk (ByteArray.mk #[108,97,117,110,99,104]) [3] 5 60 true [] [0] [0] [])] [1,3] 200 400)
theorem A7Y {F:Nat}  {r:D4} (h:A9F F =some r):PC Tryz.prog 39 [] (D4.d r):=by
 rw[A9F]at h
 refine PC.of_lend ?_
 refine SC.of_sw Tryz.func39 R R R ?_
 dsimp only[L8,List.map]
 refine qG (M5 tb R R R R R (eN (qG (P7 tb R R R R R R R R R R R R R (A14 R R R (eN (qG ?_)))))))
 obtain⟨rv,k,h⟩:=H1 h
 refine J5 (B2I k) eK R R R R (P7 tb R R R R R R R R R R R R R (S1 (v := .d (.agg [.v (.string (ByteArray.mk #[109,97,105,110])),vI 1000,vI 2])) tb R R (List.cons_ne_nil _ _) R R R R R R (P7 tb R R R R R R R R R R R R R ?_)))
 refine S1 (v := .d (.agg [.v (.string (ByteArray.mk #[102,105,108,108])),.v (.slice none 0 0),vI 100,vI 200,.v (.bool false),.v (.slice none 0 0),.v (.slice none 0 0),.v (.slice none 0 0),.v (.slice none 0 0)])) tb R R (List.cons_ne_nil _ _) R R R R R R (P7 tb R R R R R R R R R R R R R (A0T R R R ?_))
 refine S1 (v := .agg [.d (.v (.string (ByteArray.mk #[112,111,119,101,114]))),.row 4 1 0 ([0]).length,.d (vI 10),.d (vI 500),.d (.v (.bool false)),.row 1 1 0 ([0]).length,.d (.v (.slice none 0 0)),.d (.v (.slice none 0 0)),.d (.v (.slice none 0 0))]) tb R R (List.cons_ne_nil _ _) R R R R R R (P7 tb R R R R R R R R R R R R R (A0T R R R ?_))
 refine S1 (v := .agg [.d (.v (.string (ByteArray.mk #[99,104,101,99,107]))),.row 5 1 0 ([0]).length,.d (vI 50),.d (vI 300),.d (.v (.bool false)),.d (.v (.slice none 0 0)),.row 1 1 0 ([0]).length,.d (.v (.slice none 0 0)),.d (.v (.slice none 0 0))]) tb R R (List.cons_ne_nil _ _) R R R R R R (P7 tb R R R R R R R R R R R R R (A0T R R R ?_))
 refine S1 (v := .agg [.d (.v (.string (ByteArray.mk #[112,111,108,108]))),.row 6 1 0 ([1,2]).length,.d (vI 0),.d (vI 20),.d (.v (.bool true)),.d (.v (.slice none 0 0)),.row 1 1 0 ([0]).length,.d (.v (.slice none 0 0)),.d (.v (.slice none 0 0))]) tb R R (List.cons_ne_nil _ _) R R R R R R (P7 tb R R R R R R R R R R R R R (A0T R R R (A0T R R R ?_)))
 refine S1 (v := .agg [.d (.v (.string (ByteArray.mk #[108,97,117,110,99,104]))),.row 7 1 0 ([3]).length,.d (vI 5),.d (vI 60),.d (.v (.bool true)),.d (.v (.slice none 0 0)),.row 1 1 0 ([0]).length,.row 1 1 0 ([0]).length,.d (.v (.slice none 0 0))]) tb R R (List.cons_ne_nil _ _) R R R R R R (P7 tb R R R R R R R R R R R R R (P7 tb R R R R R R R R R R R R R ?_))
 refine S1 (v := .d (.agg [vI 200,vI 400])) tb R R (List.cons_ne_nil _ _) R R R R R R ?_
 refine S1 (v := .agg [.d (.arr 8 ((rv.zones).map F6.d)),.d (.arr 2 ((rv.doors).map G6.d)),.d (.arr 2 ((rv.people).map E2.d)),.d (.arr 1 ((rv.keys).map vS)),.d (.arr 6 ((rv.squibs).map D1.d)),.d (vI rv.panel),.d (vI rv.wait),.row 2 1 0 ([(ByteArray.mk #[114,97,110,103,101]),(ByteArray.mk #[115,97,102,101,116,121])]).length,.row 3 3 0 ([(D9.mk (ByteArray.mk #[109,97,105,110]) 1000 2)]).length,.row 8 9 0 5,.row 9 1 0 ([1,3]).length,.d (vI 200),.d (vI 400)]) tb R R (List.cons_ne_nil _ _) kR kR kR kR R R ?_
 refine I6 _ _ tb R (eN (C9 ?_))
 obtain rfl:=sI h
 exact(U0 (t := .agg [.d (.arr 8 ((rv.zones).map F6.d)),.d (.arr 2 ((rv.doors).map G6.d)),.d (.arr 2 ((rv.people).map E2.d)),.d (.arr 1 ((rv.keys).map vS)),.d (.arr 6 ((rv.squibs).map D1.d)),.d (vI rv.panel),.d (vI rv.wait),.row 0 1 0 ([(ByteArray.mk #[114,97,110,103,101]),(ByteArray.mk #[115,97,102,101,116,121])]).length,.row 1 3 0 ([(D9.mk (ByteArray.mk #[109,97,105,110]) 1000 2)]).length,.row 2 9 0 5,.row 8 1 0 ([1,3]).length,.d (vI 200),.d (vI 400)]) (L:=[C4g [(ByteArray.mk #[114,97,110,103,101]),(ByteArray.mk #[115,97,102,101,116,121])],C3x [(D9.mk (ByteArray.mk #[109,97,105,110]) 1000 2)],some ⟨9,[.d (.agg [.v (.string (ByteArray.mk #[102,105,108,108])),.v (.slice none 0 0),vI 100,vI 200,.v (.bool false),.v (.slice none 0 0),.v (.slice none 0 0),.v (.slice none 0 0),.v (.slice none 0 0)]),.agg [.d (.v (.string (ByteArray.mk #[112,111,119,101,114]))),.row 3 1 0 ([0]).length,.d (vI 10),.d (vI 500),.d (.v (.bool false)),.row 4 1 0 ([0]).length,.d (.v (.slice none 0 0)),.d (.v (.slice none 0 0)),.d (.v (.slice none 0 0))],.agg [.d (.v (.string (ByteArray.mk #[99,104,101,99,107]))),.row 5 1 0 ([0]).length,.d (vI 50),.d (vI 300),.d (.v (.bool false)),.d (.v (.slice none 0 0)),.row 4 1 0 ([0]).length,.d (.v (.slice none 0 0)),.d (.v (.slice none 0 0))],.agg [.d (.v (.string (ByteArray.mk #[112,111,108,108]))),.row 6 1 0 ([1,2]).length,.d (vI 0),.d (vI 20),.d (.v (.bool true)),.d (.v (.slice none 0 0)),.row 4 1 0 ([0]).length,.d (.v (.slice none 0 0)),.d (.v (.slice none 0 0))],.agg [.d (.v (.string (ByteArray.mk #[108,97,117,110,99,104]))),.row 7 1 0 ([3]).length,.d (vI 5),.d (vI 60),.d (.v (.bool true)),.d (.v (.slice none 0 0)),.row 4 1 0 ([0]).length,.row 4 1 0 ([0]).length,.d (.v (.slice none 0 0))]]⟩,B0u [0],B0u [0],B0u [0],B0u [1,2],B0u [3],B0u [1,3]]) (κ:=[2,3,8,4,1,5,6,7,9]) R (.cons (rc tb R) .nil) (vK (.row R (.row R (.cons R R C38))) R) ⟨_,R,(.aggL (dL (dL (dL (dL (dL (dL (dL (.cons (.row R R) (.cons (.row R R) (.cons (.rowL R R (.cons (.aggDL (dL (.cons .nilA (dL (dL (dL (.cons .nilA (.cons .nilA (.cons .nilA (.cons .nilA .nil)))))))))) (.cons (.aggL (dL (.cons (.row R R) (dL (dL (dL (.cons (.row R R) (.cons .nilA (.cons .nilA (.cons .nilA .nil)))))))))) (.cons (.aggL (dL (.cons (.row R R) (dL (dL (dL (.cons .nilA (.cons (.row R R) (.cons .nilA (.cons .nilA .nil)))))))))) (.cons (.aggL (dL (.cons (.row R R) (dL (dL (dL (.cons .nilA (.cons (.row R R) (.cons .nilA (.cons .nilA .nil)))))))))) (.cons (.aggL (dL (.cons (.row R R) (dL (dL (dL (.cons .nilA (.cons (.row R R) (.cons (.row R R) (.cons .nilA .nil)))))))))) .nil)))))) (.cons (.row R R) (dL (dL .nil))))))))))))))⟩)
def B1Z (F:Nat) :Option (List C7):=(A17 F 0 1 0).bind fun rv=>(A17 F 90 2 0).bind fun rv2=>(A17 F 100 2 0).bind fun rv3=>(A17 F 100 1 2).bind fun rv4=>(A17 F 100 1 1).bind fun rv5=>(A17 F 110 1 2).bind fun rv6=>(A17 F 120 2 1).bind fun rv7=>(A17 F 170 2 2).bind fun rv8=>(A17 F 180 1 3).bind fun rv9=>(A17 F 180 5 0).bind fun rv10=>(A17 F 181 5 1).bind fun rv11=>(A17 F 185 1 3).bind fun rv12=>(A17 F 190 2 3).bind fun rv13=>(A17 F 190 1 4).bind fun rv14=>(A17 F 199 2 4).bind fun rv15=>(A17 F 200 2 4).bind fun rv16=>some [rv,rv2,rv3,rv4,rv5,rv6,rv7,rv8,rv9,rv10,rv11,rv12,rv13,rv14,rv15,rv16]
theorem B63 {F:Nat}  {r:(List C7)} (h:B1Z F =some r):SCR Tryz.prog 40 (List.map T.d []) [] (.row 0 8 0 (r).length) (List.map some [(B62 r)]):=by
 rw[B1Z]at h
 refine SC.of_sw Tryz.func40 R R R ?_
 dsimp only[L8,List.map]
 refine qG (A3 R (eN (qG ?_)))
 obtain⟨rv,k,h⟩:=H1 h
 refine J5 (Z5 k) eK R R R R ?_
 obtain⟨rv2,k2,h⟩:=H1 h
 refine J5 (Z5 k2) eK R R R R ?_
 obtain⟨rv3,k3,h⟩:=H1 h
 refine J5 (Z5 k3) eK R R R R ?_
 obtain⟨rv4,k4,h⟩:=H1 h
 refine J5 (Z5 k4) eK R R R R ?_
 obtain⟨rv5,k5,h⟩:=H1 h
 refine J5 (Z5 k5) eK R R R R ?_
 obtain⟨rv6,k6,h⟩:=H1 h
 refine J5 (Z5 k6) eK R R R R ?_
 obtain⟨rv7,k7,h⟩:=H1 h
 refine J5 (Z5 k7) eK R R R R ?_
 obtain⟨rv8,k8,h⟩:=H1 h
 refine J5 (Z5 k8) eK R R R R ?_
 obtain⟨rv9,k9,h⟩:=H1 h
 refine J5 (Z5 k9) eK R R R R ?_
 obtain⟨rv10,k10,h⟩:=H1 h
 refine J5 (Z5 k10) eK R R R R ?_
 obtain⟨rv11,k11,h⟩:=H1 h
 refine J5 (Z5 k11) eK R R R R ?_
 obtain⟨rv12,k12,h⟩:=H1 h
 refine J5 (Z5 k12) eK R R R R ?_
 obtain⟨rv13,k13,h⟩:=H1 h
 refine J5 (Z5 k13) eK R R R R ?_
 obtain⟨rv14,k14,h⟩:=H1 h
 refine J5 (Z5 k14) eK R R R R ?_
 obtain⟨rv15,k15,h⟩:=H1 h
 refine J5 (Z5 k15) eK R R R R ?_
 obtain⟨rv16,k16,h⟩:=H1 h
 refine J5 (Z5 k16) eK R R R R (P7 tb R R R R R R R R R R R R R (A14 R R R (eN (C9 ?_))))
 obtain rfl:=sI h
 exact f2 [0] C23 R (.cons (.tmp 0) .nil) R
theorem B0S {F:Nat}  {r:(List C7)} (h:B1Z F =some r):PC Tryz.prog 40 [] (.arr 8 ((r).map C7.d)):=(B63 h).toPC (.row rfl rfl)
def A7X (F:Nat) :Option Bool:=(A9F F ).bind fun rv=>(B1Z F ).bind fun rv2=>(A36 F rv rv2).bind fun rv3=>(A9F F ).bind fun rv4=>(B1Z F ).bind fun rv5=>(A7A rv5 0 5).bind fun q=>(A3Z F rv4 q 120).bind fun rv6=>(A9F F ).bind fun rv7=>(A85 F rv7 []).bind fun rv8=>(A9F F ).bind fun rv9=>(B1Z F ).bind fun rv10=>(A3Z F rv9 rv10 300).bind fun rv11=>if rv3.2.2=0 then(if rv6.2=0 then(if rv8.2=0 then(if rv11.2=9 then(if(rv3.2.1.length:Int)=16 then((P3 rv3.2.1 14).bind fun e=>if e=187 then(if rv3.1.now=200 then(if rv6.1=200 then(some (decide (rv8.1=245)))else(some false))else(some false))else(some false))else(some false))else(some false))else(some false))else(some false))else(some false)
theorem B0R {F:Nat}  {r:Bool} (h:A7X F =some r):PC Tryz.prog 22 [] (.v (.bool r)):=by
 rw[A7X]at h
 refine SC.of_sw Tryz.func22 R R R ?_
 dsimp only[L8,List.map]
 refine qG (A3 R (eN (qG ?_)))
 obtain⟨rv,k,h⟩:=H1 h
 refine J5 (A7Y k) eK R R R R ?_
 obtain⟨rv2,k2,h⟩:=H1 h
 refine J5 (B0S k2) eK R R R R ?_
 obtain⟨rv3,k3,h⟩:=H1 h
 refine J5 (A6l k3) eK R R R R (A0 R (Q1 (t:=H2.d rv3.1) R R R R (Q1 (t := .arr 1 ((rv3.2.1).map vI)) R R R R (Q1 (t:=vI rv3.2.2) R R R R (M5 tb R R R R R (I6 _ _ tb R (A3 R (A3 R (eN (qG ?_))))))))))
 obtain⟨rv4,k4,h⟩:=H1 h
 refine J5 (A7Y k4) eK R R R R ?_
 obtain⟨rv5,k5,h⟩:=H1 h
 refine J5 (B0S k5) eK R R R R ?_
 obtain⟨q,iq,h⟩:=H1 h
 refine A6E tb R R R R R R iq R R ?_
 obtain⟨rv6,k6,h⟩:=H1 h
 refine J5 (A6d k6) eK R R R R (A0 R (Q1 (t:=vI rv6.1) R R R R (Q1 (t:=vI rv6.2) R R R R (A3 R (A3 R (eN (qG ?_)))))))
 obtain⟨rv7,k7,h⟩:=H1 h
 refine J5 (A7Y k7) eK R R R R ?_
 obtain⟨rv8,k8,h⟩:=H1 h
 refine A19 (B1B k8) R eK R R ((dL (.cons .nilA .nil))) R R (A0 R (Q1 (t:=vI rv8.1) R R R R (Q1 (t:=vI rv8.2) R R R R (A3 R (A3 R (eN (qG ?_)))))))
 obtain⟨rv9,k9,h⟩:=H1 h
 refine J5 (A7Y k9) eK R R R R ?_
 obtain⟨rv10,k10,h⟩:=H1 h
 refine J5 (B0S k10) eK R R R R ?_
 obtain⟨rv11,k11,h⟩:=H1 h
 refine J5 (A6d k11) eK R R R R (A0 R (Q1 (t:=vI rv11.1) R R R R (Q1 (t:=vI rv11.2) R R R R (A3 R (A3 R (eN (qG (A0 R ?_))))))))
 refine Z3 R R R R ?_ ?_
 ·intro c
  replace h:=J7 c h
  refine A0 R (A0 R ?_)
  refine Z3 R R R R ?_ ?_
  ·intro c2
   replace h:=J7 c2 h
   refine D6 R (A0 R (A0 R ?_))
   refine Z3 R R R R ?_ ?_
   ·intro c3
    replace h:=J7 c3 h
    refine D6 R (A0 R (A0 R ?_))
    refine Z3 R R R R ?_ ?_
    ·intro c4
     replace h:=J7 c4 h
     refine D6 R (A0 R (A0 R (I7 tb R ?_)))
     refine Z3 R R R R ?_ ?_
     ·intro c5
      replace h:=J7 c5 h
      refine D6 R (A0 R (A0 R ?_))
      obtain⟨e,ie,h⟩:=H1 h
      refine N8 tb (F0 ie) (V1 ie) R (I4 (y:=vI e) tb (U5 (g:=vI) ie) R ?_)
      refine Z3 R R R R ?_ ?_
      ·intro c6
       replace h:=J7 c6 h
       refine D6 R (A0 R (C8 tb R (B5 (y:=vI rv3.1.now) tb R ?_)))
       refine Z3 R R R R ?_ ?_
       ·intro c7
        replace h:=J7 c7 h
        refine D6 R (A0 R (A0 R ?_))
        refine Z3 R R R R ?_ ?_
        ·intro c8
         replace h:=J7 c8 h
         refine D6 R (A0 R (A0 R (A3s R R R R (D6 R (A3 R (eN (C9 ?_)))))))
         obtain rfl:=sI h
         exact f1 0 R
        intro c8
        replace h:=P1 c8 h
        refine D6 R (A0 R (L9 2 R (D0 R (A3 R (eN (C9 ?_))))))
        obtain rfl:=sI h
        exact f1 0 R
       intro c7
       replace h:=P1 c7 h
       refine D6 R (A0 R (L9 2 R (D0 R (A0 R (L9 2 R (D0 R (A3 R (eN (C9 ?_)))))))))
       obtain rfl:=sI h
       exact f1 0 R
      intro c6
      replace h:=P1 c6 h
      refine D6 R (A0 R (L9 3 R (D0 R (A0 R (L9 2 R (D0 R (A0 R (L9 2 R (D0 R (A3 R (eN (C9 ?_))))))))))))
      obtain rfl:=sI h
      exact f1 0 R
     intro c5
     replace h:=P1 c5 h
     refine D6 R (A0 R (L9 4 R (D0 R (A0 R (L9 3 R (D0 R (A0 R (L9 2 R (D0 R (A0 R (L9 2 R (D0 R (A3 R (eN (C9 ?_)))))))))))))))
     obtain rfl:=sI h
     exact f1 0 R
    intro c4
    replace h:=P1 c4 h
    refine D6 R (A0 R (L9 3 R (D0 R (A0 R (L9 4 R (D0 R (A0 R (L9 3 R (D0 R (A0 R (L9 2 R (D0 R (A0 R (L9 2 R (D0 R (A3 R (eN (C9 ?_))))))))))))))))))
    obtain rfl:=sI h
    exact f1 0 R
   intro c3
   replace h:=P1 c3 h
   refine D6 R (A0 R (L9 2 R (D0 R (A0 R (L9 3 R (D0 R (A0 R (L9 4 R (D0 R (A0 R (L9 3 R (D0 R (A0 R (L9 2 R (D0 R (A0 R (L9 2 R (D0 R (A3 R (eN (C9 ?_)))))))))))))))))))))
   obtain rfl:=sI h
   exact f1 0 R
  intro c2
  replace h:=P1 c2 h
  refine D6 R (A0 R (L9 2 R (D0 R (A0 R (L9 2 R (D0 R (A0 R (L9 3 R (D0 R (A0 R (L9 4 R (D0 R (A0 R (L9 3 R (D0 R (A0 R (L9 2 R (D0 R (A0 R (L9 2 R (D0 R (A3 R (eN (C9 ?_))))))))))))))))))))))))
  obtain rfl:=sI h
  exact f1 0 R
 intro c
 replace h:=P1 c h
 refine A0 R (L9 2 R (D0 R (A0 R (L9 2 R (D0 R (A0 R (L9 2 R (D0 R (A0 R (L9 3 R (D0 R (A0 R (L9 4 R (D0 R (A0 R (L9 3 R (D0 R (A0 R (L9 2 R (D0 R (A0 R (L9 2 R (D0 R (A3 R (eN (C9 ?_))))))))))))))))))))))))))
 obtain rfl:=sI h
 exact f1 0 R
def C3t (F:Nat) (x2:Int) (e2:E0) (K:Int→Option Bool):Nat→Int→Option Bool
 | 0,_=>none
 | n+1,x3=>if x3<(e2.need.length:Int)then(if 0<x2 then(C3t F x2 e2 K n (W (x3+1)))else(K x3))else(K x3)
def C3l (F:Nat) (rv:((List Int) × Int)) (x2:Int) (e2:E0) (K:Bool→Int→Option Bool):Nat→Bool→Int→Option Bool
 | 0,_,_=>none
 | n+1,x5,x6=>if x6<(e2.need.length:Int)then(if 0<x2 then(if x5=true then(C3l F rv x2 e2 K n true (W (x6+1)))else((P3 e2.need x6).bind fun e3=>(P3 rv.1 (W (x2-1))).bind fun e4=>if e3=e4 then(C3l F rv x2 e2 K n true (W (x6+1)))else(C3l F rv x2 e2 K n false (W (x6+1)))))else(K x5 x6))else(K x5 x6)
def C2P (F:Nat) (t:D4) (rv:((List Int) × Int)) (x2:Int) (e:Int) (K:Bool→Int→Option Bool):Nat→Bool→Int→Option Bool
 | 0,_,_=>none
 | n+1,x7,x8=>(P3 t.steps e).bind fun e5=>if x8<(e5.need.length:Int)then(if 0<x2 then(if x7=true then(C2P F t rv x2 e K n true (W (x8+1)))else((P3 e5.need x8).bind fun e6=>(P3 rv.1 (W (x2-1))).bind fun e7=>if e6=e7 then(C2P F t rv x2 e K n true (W (x8+1)))else(C2P F t rv x2 e K n false (W (x8+1)))))else(K x7 x8))else(K x7 x8)
def C2W (F:Nat) (t:D4) (o:(List Int)) (K:Int→Int→Int→Option Bool):Nat→Int→Int→Int→Option Bool
 | 0,_,_,_=>none
 | n+1,x10,x11,x12=>if x12<16 then((P3 t.steps x10).bind fun e10=>if(e10.need.length:Int)=0 then(K x10 (W (x11+e10.least)) x12)else(if x12<(o.length:Int)then((P3 o x12).bind fun e11=>if(e10.need.length:Int)=0 then none else((P3 e10.need (Int.tmod (W e11) (e10.need.length:Int))).bind fun e12=>if e12<0 then(some false)else(if(t.steps.length:Int)≤e12 then(some false)else(C2W F t o K n e12 (W (x11+e10.least)) (W (x12+1))))))else((P3 e10.need 0).bind fun e13=>if e13<0 then(some false)else(if(t.steps.length:Int)≤e13 then(some false)else(C2W F t o K n e13 (W (x11+e10.least)) (W (x12+1)))))))else(K x10 x11 x12)
def C2L (F:Nat) (t:D4) (rv:((List Int) × Int)) (K:Int→Int→Option Bool):Nat→Int→Int→Option Bool
 | 0,_,_=>none
 | n+1,x,x2=>if x2<(rv.1.length:Int)then((P3 rv.1 x2).bind fun e=>if e<0 then(some false)else(if(t.steps.length:Int)≤e then(some false)else(if x2=0 then((P3 t.steps e).bind fun e2=>if(e2.need.length:Int)=0 then(C3t F x2 e2 (fun(x3:Int)=>C2L F t rv K n (W (x+e2.least)) (W (x2+1))) F 0)else(C3l F rv x2 e2 (fun(x5:Bool) (x6:Int)=>if x5=true then(C2L F t rv K n (W (x+e2.least)) (W (x2+1)))else(some false)) F false 0))else(C2P F t rv x2 e (fun(x7:Bool) (x8:Int)=>if x7=true then((P3 t.steps e).bind fun e8=>C2L F t rv K n (W (x+e8.least)) (W (x2+1)))else(some false)) F false 0))))else(K x x2)
def C3Q (F:Nat) (t:D4) (o:(List Int)):Option Bool:=(C2x F t).bind fun rv=>if rv.2=0 then(if(t.steps.length:Int)=0 then(if rv.2=0 then(some false)else((A7X 100 ).bind fun rv3=>some rv3))else(C2L F t rv (fun(x:Int) (x2:Int)=>if(rv.1.length:Int)=0 then(some false)else((P3 rv.1 (W ((rv.1.length:Int)-1))).bind fun e9=>if e9=(W ((t.steps.length:Int)-1))then(C2W F t o (fun(x10:Int) (x11:Int) (x12:Int)=>(A3Z F t [] 0).bind fun rv4=>if x11≤x then(if rv4.2=0 then(if rv4.1=(max x t.Q8)then((A7X 100 ).bind fun rv6=>some rv6)else(some false))else((A7X 100 ).bind fun rv5=>some rv5))else(some false)) F (W ((t.steps.length:Int)-1)) 0 0)else(some false))) F 0 0))else(if rv.2=0 then(some false)else((A7X 100 ).bind fun rv2=>some rv2))
theorem C4I {F:Nat} {t:D4} {o:(List Int)} {r:Bool} (h:C3Q F t o=some r):PC Tryz.prog 12 [D4.d t,.arr 1 ((o).map v8)] (.v (.bool r)):=by
 rw[C3Q]at h
 refine SC.of_sw Tryz.func12 R R R ?_
 dsimp only[L8,List.map]
 refine qG (M9 R (A3 R (eN (qG (B5 (y:=D4.d t) tb R ?_)))))
 obtain⟨rv,k,h⟩:=H1 h
 refine A2X (t' := .tup [.row 1 1 0 (rv.1).length,.d (vI rv.2)]) (news':=[(B7 rv.1)]) (C2B k) eK R R R ((.row .nil)) R R R (A1D (.tup [.row 1 1 0 (rv.1).length,.d (vI rv.2)]) R R R (A1B (t := .row 1 1 0 (rv.1).length) R R R R (A1B (t := .d (vI rv.2)) R R R R (A14 R R R (A3 R (eN (B8 (qG (A0 R ?_)))))))))
 refine V5 R R R R ?_ ?_
 ·intro c
  replace h:=P1 c h
  refine A0 R (L9 4 R (D6 R (eN (C0 R (qG (A0 R ?_))))))
  refine V5 R R R R ?_ ?_
  ·intro c2
   replace h:=P1 c2 h
   refine A0 R ?_
   obtain⟨rv2,k2,h⟩:=H1 h
   refine J5 (B0R k2) eK R R R R (D6 R (A3 R (eN (C9 (B2 ?_)))))
   obtain rfl:=sI h
   exact f1 4 R
  intro c2
  replace h:=J7 c2 h
  refine A0 R (B3b R (D0 R (A3 R (eN (C9 (B2 ?_))))))
  obtain rfl:=sI h
  exact f1 4 R
 intro c
 replace h:=J7 c h
 refine A0 R (C8 tb R (B5 (y := .arr 9 ((t.steps).map E0.d)) tb R (I7 tb R ?_)))
 refine Z3 R R R R ?_ ?_
 ·intro c3
  replace h:=J7 c3 h
  refine D0 R (eN (C0 R (qG (A0 R ?_))))
  refine V5 R R R R ?_ ?_
  ·intro c4
   replace h:=P1 c4 h
   refine A0 R ?_
   obtain⟨rv3,k3,h⟩:=H1 h
   refine J5 (B0R k3) eK R R R R (D6 R (A3 R (eN (C9 (B2 ?_)))))
   obtain rfl:=sI h
   exact f1 4 R
  intro c4
  replace h:=J7 c4 h
  refine A0 R (B3b R (D0 R (A3 R (eN (C9 (B2 ?_))))))
  obtain rfl:=sI h
  exact f1 4 R
 intro c3
 replace h:=P1 c3 h
 refine D0 R (eN (C1 R (D7 (A6 (qG (A3 R (eN (B8 (qG (A3 R (eN (E3 ?_))))))))))))
 obtain⟨K4,hK4,h⟩:∃ K,K=_∧C2L F t rv K F 0 0=some r:=⟨_,rfl,h⟩
 refine M2 (fun m st=>∃ (x:Int) (x2:Int),C2L F t rv K4 m x x2=some r∧st=⟨[(1,.d (.arr 1 ((o).map v8))),(2,.ref 0 13 0 0),(4,.d (.v (.bool false))),(5,.row 1 1 0 (rv.1).length),(7,.d (vI x)),(8,.d (vI x2))],[bx 13 (.d (D4.d t)),B0u rv.1]⟩) (.prn [1,2,4,5,7,8] R) ⟨0,0,h,R⟩ ?_
 clear h
 rintro m4 st ⟨x,x2,h,rfl⟩
 cases m4 with
 | zero=>cases(show(none:Option Bool)=some r from h)
 | succ m4 =>
 rw[C2L]at h
 refine B8 (qG (A0 R (A0T R R R (A8F tb R R R R R ?_))))
 refine Q4 R R R R ?_ ?_
 ·intro c5
  replace h:=J7 c5 h
  refine eN (C0 R (D7 (A6 (B8 (E3 (B8 (B8 (T1 kR (A0T R R R (A0 R ?_))))))))))
  obtain⟨e,ie,h⟩:=H1 h
  refine Y1 tb R R R R R R (F0 ie) (ix1 ie) R R ?_
  refine A15 (y:=vI e) tb R R R R (U5 (g:=fun a=>T.d (vI a)) ie) R R R R ?_
  refine Q4 R R R R ?_ ?_
  ·intro c6
   replace h:=J7 c6 h
   refine A0 R (L9 8 R (D6 R (I0 kR (A6 (C0 R (qG (A3 R (eN (C9 (B2 (C4 (B2 (B2 (C4 (B2 ?_)))))))))))))))
   obtain rfl:=sI h
   exact f1 4 R
  intro c6
  replace h:=P1 (nL c6) h
  refine A0 R (A0T R R R (A0 R (Y1 tb R R R R R R (F0 ie) (ix1 ie) R R ?_)))
  refine A15 (y:=vI e) tb R R R R (U5 (g:=fun a=>T.d (vI a)) ie) R R R R ?_
  refine C8 tb R (B5 (y := .arr 9 ((t.steps).map E0.d)) tb R (I7 tb R ?_))
  refine A7I R R R R ?_ ?_
  ·intro c7
   replace h:=J7 c7 h
   refine D0 R (I0 kR (A6 (C0 R (qG (A3 R (eN (C9 (B2 (C4 (B2 (B2 (C4 (B2 ?_)))))))))))))
   obtain rfl:=sI h
   exact f1 4 R
  intro c7
  replace h:=P1 (Int.not_le.2 c7) h
  refine D0 R (I0 kR (A6 (C1 R (D7 (A6 (B8 (T1 kR (A0 R ?_))))))))
  refine Z3 R R R R ?_ ?_
  ·intro c8
   replace h:=J7 c8 h
   refine A0 R (C8 tb R (B5 (y := .arr 9 ((t.steps).map E0.d)) tb R (A0T R R R (A0 R (Y1 tb R R R R R R (F0 ie) (ix1 ie) R R ?_)))))
   refine A15 (y:=vI e) tb R R R R (U5 (g:=fun a=>T.d (vI a)) ie) R R R R ?_
   obtain⟨e2,ie2,h⟩:=H1 h
   refine N8 tb (F0 ie2) (V1 ie2) R (M4 tb R (I4 (y := .arr 1 ((e2.need).map vI)) tb (U5 (g:=E0.d) ie2) R (I7 tb R ?_)))
   refine Z3 R R R R ?_ ?_
   ·intro c9
    replace h:=J7 c9 h
    refine D6 R (A3 R (I0 kR (A6 (B8 (qG (A3 R (eN (E3 ?_))))))))
    obtain⟨K6,hK6,h⟩:∃ K,K=_∧C3t F x2 e2 K F 0=some r:=⟨_,rfl,h⟩
    refine M2 (fun m st=>∃ (x3:Int),C3t F x2 e2 K6 m x3=some r∧st=⟨[(1,.d (.arr 1 ((o).map v8))),(2,.ref 0 13 0 0),(4,.d (.v (.bool false))),(5,.row 1 1 0 (rv.1).length),(7,.d (vI x)),(8,.d (vI x2)),(9,.d (.v (.bool true))),(10,.d (vI x3))],[bx 13 (.d (D4.d t)),B0u rv.1]⟩) (.prn [1,2,4,5,7,8,9,10] R) ⟨0,h,R⟩ ?_
    clear h
    rintro m6 st ⟨x3,h,rfl⟩
    cases m6 with
    | zero=>cases(show(none:Option Bool)=some r from h)
    | succ m6 =>
    rw[C3t]at h
    refine B8 (B8 (T1 kR (A0 R (C8 tb R (B5 (y := .arr 9 ((t.steps).map E0.d)) tb R (A0T R R R (A0 R (Y1 tb R R R R R R (F0 ie) (ix1 ie) R R ?_))))))))
    refine A15 (y:=vI e) tb R R R R (U5 (g:=fun a=>T.d (vI a)) ie) R R R R ?_
    refine N8 tb (F0 ie2) (V1 ie2) R (M4 tb R (I4 (y := .arr 1 ((e2.need).map vI)) tb (U5 (g:=E0.d) ie2) R (I7 tb R ?_)))
    refine Q4 R R R R ?_ ?_
    ·intro c10
     replace h:=J7 c10 h
     refine A0 R (A0 R ?_)
     refine A4l R R R R ?_ ?_
     ·intro c11
      replace h:=J7 c11 h
      refine D6 R (I0 kR (A6 (C0 R (D7 (A6 (B8 (E3 (T1 kR (A0 R (A0 R (L9 18 R (D6 R (A3 R (I0 kR (D3 (A6 (J1 (A0 R (O1 R (A3 R (eN ?_)))))))))))))))))))))
      exact⟨m6,_,lS,.prn [1,2,4,5,7,8,9,10] R,(W (x3+1)),h,R⟩
     intro c11
     replace h:=P1 (nL c11) h
     refine D6 R (I0 kR (A6 (C1 R (N5 (E4 (E4 ?_))))))
     subst hK6
     refine I5 (A6 (B8 (qG (A0 R (A0a R R R (eN (C1 R (D7 (A6 (T1 kR (A0 R (C8 tb R (B5 (y := .arr 9 ((t.steps).map E0.d)) tb R (A0T R R R (A0 R (Y1 tb R R R R R R (F0 ie) (ix1 ie) R R ?_))))))))))))))))
     refine A15 (y:=vI e) tb R R R R (U5 (g:=fun a=>T.d (vI a)) ie) R R R R ?_
     refine N8 tb (F0 ie2) (V1 ie2) R (M4 tb R (I4 (y:=vI e2.least) tb (U5 (g:=E0.d) ie2) R (O1 R (A3 R (I0 kR (D3 (A6 (J1 (A0 R (O1 R (A3 R (eN ?_))))))))))))
     exact⟨m4,_,lS,.prn [1,2,4,5,7,8] R,(W (x+e2.least)),(W (x2+1)),h,R⟩
    intro c10
    replace h:=P1 (nL c10) h
    refine A0 R (L9 2 R (D0 R (I0 kR (A6 (C1 R (N5 (E4 (E4 ?_))))))))
    subst hK6
    refine I5 (A6 (B8 (qG (A0 R (A0a R R R (eN (C1 R (D7 (A6 (T1 kR (A0 R (C8 tb R (B5 (y := .arr 9 ((t.steps).map E0.d)) tb R (A0T R R R (A0 R (Y1 tb R R R R R R (F0 ie) (ix1 ie) R R ?_))))))))))))))))
    refine A15 (y:=vI e) tb R R R R (U5 (g:=fun a=>T.d (vI a)) ie) R R R R ?_
    refine N8 tb (F0 ie2) (V1 ie2) R (M4 tb R (I4 (y:=vI e2.least) tb (U5 (g:=E0.d) ie2) R (O1 R (A3 R (I0 kR (D3 (A6 (J1 (A0 R (O1 R (A3 R (eN ?_))))))))))))
    exact⟨m4,_,lS,.prn [1,2,4,5,7,8] R,(W (x+e2.least)),(W (x2+1)),h,R⟩
   intro c9
   replace h:=P1 c9 h
   refine D6 R (A3 R (I0 kR (A6 (B8 (qG (A3 R (eN (E3 ?_))))))))
   obtain⟨K8,hK8,h⟩:∃ K,K=_∧C3l F rv x2 e2 K F false 0=some r:=⟨_,rfl,h⟩
   refine M2 (fun m st=>∃ (x5:Bool) (x6:Int),C3l F rv x2 e2 K8 m x5 x6=some r∧st=⟨[(1,.d (.arr 1 ((o).map v8))),(2,.ref 0 13 0 0),(4,.d (.v (.bool false))),(5,.row 1 1 0 (rv.1).length),(7,.d (vI x)),(8,.d (vI x2)),(9,.d (.v (.bool x5))),(10,.d (vI x6))],[bx 13 (.d (D4.d t)),B0u rv.1]⟩) (.prn [1,2,4,5,7,8,9,10] R) ⟨false,0,h,R⟩ ?_
   clear h
   rintro m8 st ⟨x5,x6,h,rfl⟩
   cases m8 with
   | zero=>cases(show(none:Option Bool)=some r from h)
   | succ m8 =>
   rw[C3l]at h
   refine B8 (B8 (T1 kR (A0 R (C8 tb R (B5 (y := .arr 9 ((t.steps).map E0.d)) tb R (A0T R R R (A0 R (Y1 tb R R R R R R (F0 ie) (ix1 ie) R R ?_))))))))
   refine A15 (y:=vI e) tb R R R R (U5 (g:=fun a=>T.d (vI a)) ie) R R R R ?_
   refine N8 tb (F0 ie2) (V1 ie2) R (M4 tb R (I4 (y := .arr 1 ((e2.need).map vI)) tb (U5 (g:=E0.d) ie2) R (I7 tb R ?_)))
   refine Q4 R R R R ?_ ?_
   ·intro c12
    replace h:=J7 c12 h
    refine A0 R (A0 R ?_)
    refine A4l R R R R ?_ ?_
    ·intro c13
     replace h:=J7 c13 h
     refine D6 R (I0 kR (A6 (C0 R (D7 (A6 (B8 (E3 (T1 kR (A0 R ?_)))))))))
     with_reducible apply X8
     ·intro c14
      replace h:=J7 c14 h
      refine A0 R (L9 18 R (D6 R (A3 R (I0 kR (D3 (A6 (J1 (A0 R (O1 R (A3 R (eN ?_)))))))))))
      exact⟨m8,_,lS,.prn [1,2,4,5,7,8,9,10] R,true,(W (x6+1)),h,R⟩
     intro c14
     replace h:=ifF c14 h
     refine A0 R (C8 tb R (B5 (y := .arr 9 ((t.steps).map E0.d)) tb R (A0T R R R (A0 R (Y1 tb R R R R R R (F0 ie) (ix1 ie) R R ?_)))))
     refine A15 (y:=vI e) tb R R R R (U5 (g:=fun a=>T.d (vI a)) ie) R R R R ?_
     refine N8 tb (F0 ie2) (V1 ie2) R (M4 tb R (I4 (y := .arr 1 ((e2.need).map vI)) tb (U5 (g:=E0.d) ie2) R (A0 R ?_)))
     obtain⟨e3,ie3,h⟩:=H1 h
     refine N8 tb (F0 ie3) (V1 ie3) R (I4 (y:=vI e3) tb (U5 (g:=vI) ie3) R (A0T R R R (A0 R (A1n R R R R ?_))))
     obtain⟨e4,ie4,h⟩:=H1 h
     refine Y1 tb R R R R R R (F0 ie4) (ix1 ie4) R R ?_
     refine A15 (y:=vI e4) tb R R R R (U5 (g:=fun a=>T.d (vI a)) ie4) R R R R ?_
     refine Z3 R R R R ?_ ?_
     ·intro c15
      replace h:=J7 c15 h
      refine D0 R (A3 R (I0 kR (D3 (A6 (J1 (A0 R (O1 R (A3 R (eN ?_)))))))))
      exact⟨m8,_,lS,.prn [1,2,4,5,7,8,9,10] R,true,(W (x6+1)),h,R⟩
     intro c15
     replace h:=P1 c15 h
     refine D0 R (A3 R (I0 kR (D3 (A6 (J1 (A0 R (O1 R (A3 R (eN ?_)))))))))
     exact⟨m8,_,lS,.prn [1,2,4,5,7,8,9,10] R,false,(W (x6+1)),h,R⟩
    intro c13
    replace h:=P1 (nL c13) h
    refine D6 R (I0 kR (A6 (C1 R (N5 (E4 (E4 ?_))))))
    subst hK8
    refine I5 (A6 (B8 (qG (A0 R ?_))))
    with_reducible apply X8
    ·intro c16
     replace h:=J7 c16 h
     refine A0a R R R (eN (C1 R (D7 (A6 (T1 kR (A0 R (C8 tb R (B5 (y := .arr 9 ((t.steps).map E0.d)) tb R (A0T R R R (A0 R (Y1 tb R R R R R R (F0 ie) (ix1 ie) R R ?_)))))))))))
     refine A15 (y:=vI e) tb R R R R (U5 (g:=fun a=>T.d (vI a)) ie) R R R R ?_
     refine N8 tb (F0 ie2) (V1 ie2) R (M4 tb R (I4 (y:=vI e2.least) tb (U5 (g:=E0.d) ie2) R (O1 R (A3 R (I0 kR (D3 (A6 (J1 (A0 R (O1 R (A3 R (eN ?_))))))))))))
     exact⟨m4,_,lS,.prn [1,2,4,5,7,8] R,(W (x+e2.least)),(W (x2+1)),h,R⟩
    intro c16
    replace h:=ifF c16 h
    refine Z9 R R R (eN (C0 R (qG (A3 R (eN (C9 (B2 (C4 (B2 (B2 (C4 (B2 ?_))))))))))))
    obtain rfl:=sI h
    exact f1 4 R
   intro c12
   replace h:=P1 (nL c12) h
   refine A0 R (L9 2 R (D0 R (I0 kR (A6 (C1 R (N5 (E4 (E4 ?_))))))))
   subst hK8
   refine I5 (A6 (B8 (qG (A0 R ?_))))
   with_reducible apply X8
   ·intro c16
    replace h:=J7 c16 h
    refine A0a R R R (eN (C1 R (D7 (A6 (T1 kR (A0 R (C8 tb R (B5 (y := .arr 9 ((t.steps).map E0.d)) tb R (A0T R R R (A0 R (Y1 tb R R R R R R (F0 ie) (ix1 ie) R R ?_)))))))))))
    refine A15 (y:=vI e) tb R R R R (U5 (g:=fun a=>T.d (vI a)) ie) R R R R ?_
    refine N8 tb (F0 ie2) (V1 ie2) R (M4 tb R (I4 (y:=vI e2.least) tb (U5 (g:=E0.d) ie2) R (O1 R (A3 R (I0 kR (D3 (A6 (J1 (A0 R (O1 R (A3 R (eN ?_))))))))))))
    exact⟨m4,_,lS,.prn [1,2,4,5,7,8] R,(W (x+e2.least)),(W (x2+1)),h,R⟩
   intro c16
   replace h:=ifF c16 h
   refine Z9 R R R (eN (C0 R (qG (A3 R (eN (C9 (B2 (C4 (B2 (B2 (C4 (B2 ?_))))))))))))
   obtain rfl:=sI h
   exact f1 4 R
  intro c8
  replace h:=P1 c8 h
  refine A0 R (L9 11 R (D0 R (A3 R (I0 kR (A6 (B8 (qG (A3 R (eN (E3 ?_))))))))))
  obtain⟨K9,hK9,h⟩:∃ K,K=_∧C2P F t rv x2 e K F false 0=some r:=⟨_,rfl,h⟩
  refine M2 (fun m st=>∃ (x7:Bool) (x8:Int),C2P F t rv x2 e K9 m x7 x8=some r∧st=⟨[(1,.d (.arr 1 ((o).map v8))),(2,.ref 0 13 0 0),(4,.d (.v (.bool false))),(5,.row 1 1 0 (rv.1).length),(7,.d (vI x)),(8,.d (vI x2)),(9,.d (.v (.bool x7))),(10,.d (vI x8))],[bx 13 (.d (D4.d t)),B0u rv.1]⟩) (.prn [1,2,4,5,7,8,9,10] R) ⟨false,0,h,R⟩ ?_
  clear h
  rintro m9 st ⟨x7,x8,h,rfl⟩
  cases m9 with
  | zero=>cases(show(none:Option Bool)=some r from h)
  | succ m9 =>
  rw[C2P]at h
  refine B8 (B8 (T1 kR (A0 R (C8 tb R (B5 (y := .arr 9 ((t.steps).map E0.d)) tb R (A0T R R R (A0 R (Y1 tb R R R R R R (F0 ie) (ix1 ie) R R ?_))))))))
  refine A15 (y:=vI e) tb R R R R (U5 (g:=fun a=>T.d (vI a)) ie) R R R R ?_
  obtain⟨e5,ie5,h⟩:=H1 h
  refine N8 tb (F0 ie5) (V1 ie5) R (M4 tb R (I4 (y := .arr 1 ((e5.need).map vI)) tb (U5 (g:=E0.d) ie5) R (I7 tb R ?_)))
  refine Q4 R R R R ?_ ?_
  ·intro c17
   replace h:=J7 c17 h
   refine A0 R (A0 R ?_)
   refine A4l R R R R ?_ ?_
   ·intro c18
    replace h:=J7 c18 h
    refine D6 R (I0 kR (A6 (C0 R (D7 (A6 (B8 (E3 (T1 kR (A0 R ?_)))))))))
    with_reducible apply X8
    ·intro c19
     replace h:=J7 c19 h
     refine A0 R (L9 18 R (D6 R (A3 R (I0 kR (D3 (A6 (J1 (A0 R (O1 R (A3 R (eN ?_)))))))))))
     exact⟨m9,_,lS,.prn [1,2,4,5,7,8,9,10] R,true,(W (x8+1)),h,R⟩
    intro c19
    replace h:=ifF c19 h
    refine A0 R (C8 tb R (B5 (y := .arr 9 ((t.steps).map E0.d)) tb R (A0T R R R (A0 R (Y1 tb R R R R R R (F0 ie) (ix1 ie) R R ?_)))))
    refine A15 (y:=vI e) tb R R R R (U5 (g:=fun a=>T.d (vI a)) ie) R R R R ?_
    refine N8 tb (F0 ie5) (V1 ie5) R (M4 tb R (I4 (y := .arr 1 ((e5.need).map vI)) tb (U5 (g:=E0.d) ie5) R (A0 R ?_)))
    obtain⟨e6,ie6,h⟩:=H1 h
    refine N8 tb (F0 ie6) (V1 ie6) R (I4 (y:=vI e6) tb (U5 (g:=vI) ie6) R (A0T R R R (A0 R (A1n R R R R ?_))))
    obtain⟨e7,ie7,h⟩:=H1 h
    refine Y1 tb R R R R R R (F0 ie7) (ix1 ie7) R R ?_
    refine A15 (y:=vI e7) tb R R R R (U5 (g:=fun a=>T.d (vI a)) ie7) R R R R ?_
    refine Z3 R R R R ?_ ?_
    ·intro c20
     replace h:=J7 c20 h
     refine D0 R (A3 R (I0 kR (D3 (A6 (J1 (A0 R (O1 R (A3 R (eN ?_)))))))))
     exact⟨m9,_,lS,.prn [1,2,4,5,7,8,9,10] R,true,(W (x8+1)),h,R⟩
    intro c20
    replace h:=P1 c20 h
    refine D0 R (A3 R (I0 kR (D3 (A6 (J1 (A0 R (O1 R (A3 R (eN ?_)))))))))
    exact⟨m9,_,lS,.prn [1,2,4,5,7,8,9,10] R,false,(W (x8+1)),h,R⟩
   intro c18
   replace h:=P1 (nL c18) h
   refine D6 R (I0 kR (A6 (C1 R (N5 (E4 (E4 ?_))))))
   subst hK9
   refine I5 (A6 (B8 (qG (A0 R ?_))))
   with_reducible apply X8
   ·intro c21
    replace h:=J7 c21 h
    refine A0a R R R (eN (C1 R (D7 (A6 (T1 kR (A0 R (C8 tb R (B5 (y := .arr 9 ((t.steps).map E0.d)) tb R (A0T R R R (A0 R (Y1 tb R R R R R R (F0 ie) (ix1 ie) R R ?_)))))))))))
    refine A15 (y:=vI e) tb R R R R (U5 (g:=fun a=>T.d (vI a)) ie) R R R R ?_
    obtain⟨e8,ie8,h⟩:=H1 h
    refine N8 tb (F0 ie8) (V1 ie8) R (M4 tb R (I4 (y:=vI e8.least) tb (U5 (g:=E0.d) ie8) R (O1 R (A3 R (I0 kR (D3 (A6 (J1 (A0 R (O1 R (A3 R (eN ?_))))))))))))
    exact⟨m4,_,lS,.prn [1,2,4,5,7,8] R,(W (x+e8.least)),(W (x2+1)),h,R⟩
   intro c21
   replace h:=ifF c21 h
   refine Z9 R R R (eN (C0 R (qG (A3 R (eN (C9 (B2 (C4 (B2 (B2 (C4 (B2 ?_))))))))))))
   obtain rfl:=sI h
   exact f1 4 R
  intro c17
  replace h:=P1 (nL c17) h
  refine A0 R (L9 2 R (D0 R (I0 kR (A6 (C1 R (N5 (E4 (E4 ?_))))))))
  subst hK9
  refine I5 (A6 (B8 (qG (A0 R ?_))))
  with_reducible apply X8
  ·intro c21
   replace h:=J7 c21 h
   refine A0a R R R (eN (C1 R (D7 (A6 (T1 kR (A0 R (C8 tb R (B5 (y := .arr 9 ((t.steps).map E0.d)) tb R (A0T R R R (A0 R (Y1 tb R R R R R R (F0 ie) (ix1 ie) R R ?_)))))))))))
   refine A15 (y:=vI e) tb R R R R (U5 (g:=fun a=>T.d (vI a)) ie) R R R R ?_
   obtain⟨e8,ie8,h⟩:=H1 h
   refine N8 tb (F0 ie8) (V1 ie8) R (M4 tb R (I4 (y:=vI e8.least) tb (U5 (g:=E0.d) ie8) R (O1 R (A3 R (I0 kR (D3 (A6 (J1 (A0 R (O1 R (A3 R (eN ?_))))))))))))
   exact⟨m4,_,lS,.prn [1,2,4,5,7,8] R,(W (x+e8.least)),(W (x2+1)),h,R⟩
  intro c21
  replace h:=ifF c21 h
  refine Z9 R R R (eN (C0 R (qG (A3 R (eN (C9 (B2 (C4 (B2 (B2 (C4 (B2 ?_))))))))))))
  obtain rfl:=sI h
  exact f1 4 R
 intro c5
 replace h:=P1 (nL c5) h
 refine eN (C1 R (N5 (E4 (E4 ?_))))
 subst hK4
 refine I5 (A6 (B8 (B8 (T1 kR (A0T R R R (A8F tb R R R R R ?_))))))
 refine Z3 R R R R ?_ ?_
 ·intro c22
  replace h:=J7 c22 h
  refine A0 R (L9 11 R (D6 R (I0 kR (A6 (C0 R (qG (A3 R (eN (C9 (B2 ?_))))))))))
  obtain rfl:=sI h
  exact f1 4 R
 intro c22
 replace h:=P1 c22 h
 refine A0 R (A0T R R R (A0T R R R (A8F tb R R R R R (A1n R R R R ?_))))
 obtain⟨e9,ie9,h⟩:=H1 h
 refine Y1 tb R R R R R R (F0 ie9) (ix1 ie9) R R ?_
 refine A15 (y:=vI e9) tb R R R R (U5 (g:=fun a=>T.d (vI a)) ie9) R R R R ?_
 refine C8 tb R (B5 (y := .arr 9 ((t.steps).map E0.d)) tb R (I7 tb R (A1n R R R R ?_)))
 refine V5 R R R R ?_ ?_
 ·intro c23
  replace h:=P1 c23 h
  refine D0 R (I0 kR (A6 (C0 R (qG (A3 R (eN (C9 (B2 ?_))))))))
  obtain rfl:=sI h
  exact f1 4 R
 intro c23
 replace h:=J7 c23 h
 refine D0 R (I0 kR (A6 (C1 R (D7 (A6 (qG (C8 tb R (B5 (y := .arr 9 ((t.steps).map E0.d)) tb R (I7 tb R (A1n R R R R (A3 R (A3 R (eN (B8 (qG (A3 R (eN (E3 ?_))))))))))))))))))
 obtain⟨K12,hK12,h⟩:∃ K,K=_∧C2W F t o K F (W ((t.steps.length:Int)-1)) 0 0=some r:=⟨_,rfl,h⟩
 refine M2 (st0:=⟨[(1,.d (.arr 1 ((o).map v8))),(2,.ref 0 13 0 0),(4,.d (.v (.bool false))),(7,.d (vI x)),(11,.d (vI (W ((t.steps.length:Int)-1)))),(12,.d (vI 0)),(13,.d (vI 0))],[bx 13 (.d (D4.d t))]⟩) (fun m st=>∃ (x10:Int) (x11:Int) (x12:Int),C2W F t o K12 m x10 x11 x12=some r∧st=⟨[(1,.d (.arr 1 ((o).map v8))),(2,.ref 0 13 0 0),(4,.d (.v (.bool false))),(7,.d (vI x)),(11,.d (vI x10)),(12,.d (vI x11)),(13,.d (vI x12))],[bx 13 (.d (D4.d t))]⟩) (.vw (κ:=[0]) (vK (.cons R R .nil) R)) ⟨(W ((t.steps.length:Int)-1)),0,0,h,R⟩ ?_
 clear h
 rintro m12 st ⟨x10,x11,x12,h,rfl⟩
 cases m12 with
 | zero=>cases(show(none:Option Bool)=some r from h)
 | succ m12 =>
 rw[C2W]at h
 refine B8 (qG (A0 R ?_))
 refine Q4 R R R R ?_ ?_
 ·intro c24
  replace h:=J7 c24 h
  refine eN (C0 R (D7 (A6 (B8 (E3 (qG (A0 R (C8 tb R (B5 (y := .arr 9 ((t.steps).map E0.d)) tb R (A0 R ?_))))))))))
  obtain⟨e10,ie10,h⟩:=H1 h
  refine N8 tb (F0 ie10) (V1 ie10) R (M4 tb R (I4 (y:=vI e10.least) tb (U5 (g:=E0.d) ie10) R (O1 R (A3 R (eN (B8 (qG (C8 tb R (B5 (y := .arr 9 ((t.steps).map E0.d)) tb R (A0 R (N8 tb (F0 ie10) (V1 ie10) R (M4 tb R (I4 (y := .arr 1 ((e10.need).map vI)) tb (U5 (g:=E0.d) ie10) R (I7 tb R ?_))))))))))))))
  refine Z3 R R R R ?_ ?_
  ·intro c25
   replace h:=J7 c25 h
   refine eN (C0 R (N5 (E4 (C5y R (E4 (E4 ?_))))))
   dsimp only[W]at h ⊢
   generalize (IntKind.i64.wrap (x11+e10.least))=x11 at h ⊢
   subst hK12
   refine I5 (A6 (qG (B5 (y:=D4.d t) tb R ?_)))
   obtain⟨rv4,k4,h⟩:=H1 h
   refine A19 (A6d k4) R eK R R ((dL (.cons .nilA (dL .nil)))) R R (A0 R (Q1 (t:=vI rv4.1) R R R R (Q1 (t:=vI rv4.2) R R R R (A3 R (A3 R (eN (qG (A0 R (A0 R ?_)))))))))
   refine B1t R R R R ?_ ?_
   ·intro c26
    replace h:=J7 c26 h
    refine A0 R (A0 R ?_)
    refine V5 R R R R ?_ ?_
    ·intro c27
     replace h:=P1 c27 h
     refine A0 R (L9 7 R (D6 R (D6 R (A0 R ?_))))
     obtain⟨rv5,k5,h⟩:=H1 h
     refine J5 (B0R k5) eK R R R R (D6 R (A3 R (eN (C9 ?_))))
     obtain rfl:=sI h
     exact f1 4 R
    intro c27
    replace h:=J7 c27 h
    refine A0 R (A0 R (A0 R (C8 tb R (C8 tb R (B5 (y:=vI t.Q8) tb R (B3f R R R R ?_))))))
    refine Z3 R R R R ?_ ?_
    ·intro c28
     replace h:=J7 c28 h
     refine D0 R (D6 R (A0 R ?_))
     obtain⟨rv6,k6,h⟩:=H1 h
     refine J5 (B0R k6) eK R R R R (D6 R (A3 R (eN (C9 ?_))))
     obtain rfl:=sI h
     exact f1 4 R
    intro c28
    replace h:=P1 c28 h
    refine D0 R (D6 R (A0 R (B3b R (D0 R (A3 R (eN (C9 ?_)))))))
    obtain rfl:=sI h
    exact f1 4 R
   intro c26
   replace h:=P1 (Int.not_le.2 c26) h
   refine A0 R (L9 11 R (D0 R (A0 R (B3b R (D0 R (A3 R (eN (C9 ?_))))))))
   obtain rfl:=sI h
   exact f1 4 R
  intro c25
  replace h:=P1 c25 h
  refine eN (C1 R (D7 (A6 (qG (A3 R (eN (B8 (qG (A0 R (A0 R (I7 tb R ?_)))))))))))
  refine Q4 R R R R ?_ ?_
  ·intro c29
   replace h:=J7 c29 h
   refine eN (C0 R (T1 kR (A0 R (A0 R ?_))))
   obtain⟨e11,ie11,h⟩:=H1 h
   refine N8 tb (F0 ie11) (V1 ie11) R (I4 (y := .v (.int .u8 e11)) tb (U5 (g:=v8) ie11) R (B5S (k2 := .i64) R R R R R R (C8 tb R (B5 (y := .arr 9 ((t.steps).map E0.d)) tb R (A0 R (N8 tb (F0 ie10) (V1 ie10) R (M4 tb R (I4 (y := .arr 1 ((e10.need).map vI)) tb (U5 (g:=E0.d) ie10) R (I7 tb R ?_)))))))))
   by_cases c30:(e10.need.length:Int)=0
   ·cases(if_pos c30).symm.trans h
   replace h:=P1 c30 h
   refine C0K R R c30 R R (A3 R (I0 kR (A6 (qG (C8 tb R (B5 (y := .arr 9 ((t.steps).map E0.d)) tb R (A0 R (N8 tb (F0 ie10) (V1 ie10) R (M4 tb R (I4 (y := .arr 1 ((e10.need).map vI)) tb (U5 (g:=E0.d) ie10) R (A0 R ?_)))))))))))
   obtain⟨e12,ie12,h⟩:=H1 h
   refine N8 tb (F0 ie12) (V1 ie12) R (I4 (y:=vI e12) tb (U5 (g:=vI) ie12) R (A3 R (eN (qG (A0 R ?_)))))
   refine Q4 R R R R ?_ ?_
   ·intro c31
    replace h:=J7 c31 h
    refine A0 R (L9 5 R (D6 R (eN (C0 R (qG (A3 R (eN (C9 (C4 (B2 (B2 (C4 (B2 ?_)))))))))))))
    obtain rfl:=sI h
    exact f1 4 R
   intro c31
   replace h:=P1 (nL c31) h
   refine A0 R (A0 R (C8 tb R (B5 (y := .arr 9 ((t.steps).map E0.d)) tb R (I7 tb R ?_))))
   refine A7I R R R R ?_ ?_
   ·intro c32
    replace h:=J7 c32 h
    refine D0 R (eN (C0 R (qG (A3 R (eN (C9 (C4 (B2 (B2 (C4 (B2 ?_)))))))))))
    obtain rfl:=sI h
    exact f1 4 R
   intro c32
   replace h:=P1 (Int.not_le.2 c32) h
   refine D0 R (eN (C1 R (D7 (D3 (A6 (J1 (A0 R (O1 R (A3 R (eN ?_))))))))))
   exact⟨m12,_,lS,.prn [1,2,4,7,11,12,13] R,e12,(W (x11+e10.least)),(W (x12+1)),h,R⟩
  intro c29
  replace h:=P1 (nL c29) h
  refine eN (C1 R (D7 (A6 (qG (C8 tb R (B5 (y := .arr 9 ((t.steps).map E0.d)) tb R (A0 R (N8 tb (F0 ie10) (V1 ie10) R (M4 tb R (I4 (y := .arr 1 ((e10.need).map vI)) tb (U5 (g:=E0.d) ie10) R (A0 R ?_)))))))))))
  obtain⟨e13,ie13,h⟩:=H1 h
  refine N8 tb (F0 ie13) (V1 ie13) R (I4 (y:=vI e13) tb (U5 (g:=vI) ie13) R (A3 R (eN (qG (A0 R ?_)))))
  refine Q4 R R R R ?_ ?_
  ·intro c33
   replace h:=J7 c33 h
   refine A0 R (L9 5 R (D6 R (eN (C0 R (qG (A3 R (eN (C9 (C4 (B2 (B2 (C4 (B2 ?_)))))))))))))
   obtain rfl:=sI h
   exact f1 4 R
  intro c33
  replace h:=P1 (nL c33) h
  refine A0 R (A0 R (C8 tb R (B5 (y := .arr 9 ((t.steps).map E0.d)) tb R (I7 tb R ?_))))
  refine A7I R R R R ?_ ?_
  ·intro c34
   replace h:=J7 c34 h
   refine D0 R (eN (C0 R (qG (A3 R (eN (C9 (C4 (B2 (B2 (C4 (B2 ?_)))))))))))
   obtain rfl:=sI h
   exact f1 4 R
  intro c34
  replace h:=P1 (Int.not_le.2 c34) h
  refine D0 R (eN (C1 R (D7 (D3 (A6 (J1 (A0 R (O1 R (A3 R (eN ?_))))))))))
  exact⟨m12,_,lS,.prn [1,2,4,7,11,12,13] R,e13,(W (x11+e10.least)),(W (x12+1)),h,R⟩
 intro c24
 replace h:=P1 (nL c24) h
 refine eN (C1 R (N5 (E4 (E4 ?_))))
 subst hK12
 refine I5 (A6 (qG (B5 (y:=D4.d t) tb R ?_)))
 obtain⟨rv4,k4,h⟩:=H1 h
 refine A19 (A6d k4) R eK R R ((dL (.cons .nilA (dL .nil)))) R R (A0 R (Q1 (t:=vI rv4.1) R R R R (Q1 (t:=vI rv4.2) R R R R (A3 R (A3 R (eN (qG (A0 R (A0 R ?_)))))))))
 refine B1t R R R R ?_ ?_
 ·intro c26
  replace h:=J7 c26 h
  refine A0 R (A0 R ?_)
  refine V5 R R R R ?_ ?_
  ·intro c27
   replace h:=P1 c27 h
   refine A0 R (L9 7 R (D6 R (D6 R (A0 R ?_))))
   obtain⟨rv5,k5,h⟩:=H1 h
   refine J5 (B0R k5) eK R R R R (D6 R (A3 R (eN (C9 ?_))))
   obtain rfl:=sI h
   exact f1 4 R
  intro c27
  replace h:=J7 c27 h
  refine A0 R (A0 R (A0 R (C8 tb R (C8 tb R (B5 (y:=vI t.Q8) tb R (B3f R R R R ?_))))))
  refine Z3 R R R R ?_ ?_
  ·intro c28
   replace h:=J7 c28 h
   refine D0 R (D6 R (A0 R ?_))
   obtain⟨rv6,k6,h⟩:=H1 h
   refine J5 (B0R k6) eK R R R R (D6 R (A3 R (eN (C9 ?_))))
   obtain rfl:=sI h
   exact f1 4 R
  intro c28
  replace h:=P1 c28 h
  refine D0 R (D6 R (A0 R (B3b R (D0 R (A3 R (eN (C9 ?_)))))))
  obtain rfl:=sI h
  exact f1 4 R
 intro c26
 replace h:=P1 (Int.not_le.2 c26) h
 refine A0 R (L9 11 R (D0 R (A0 R (B3b R (D0 R (A3 R (eN (C9 ?_))))))))
 obtain rfl:=sI h
 exact f1 4 R
end Go.Proofs.YtlaogbbcipebgaaGreat
