/- What functions of the program compute: plain functions, and the proofs. -/
import Derived.Test.YthcnganbnbhhoaaGreatW0
set_option linter.unusedVariables false
set_option linter.unusedSimpArgs false
open Go Go.Proofs.YthcnganbnbhhoaaGreat.Sh Go.Proofs
namespace Go.Proofs.YthcnganbnbhhoaaGreat
set_option maxRecDepth 100000
set_option maxHeartbeats 40000000
def A10 (F:Nat) (nv:Int) (low:Int) (high:Int):Option Bool:=if low≤nv then(some (decide (nv≤high)))else(some false)
theorem Y7 {F:Nat} {nv:Int} {low:Int} {high:Int} {r:Bool} (h:A10 F nv low high=some r):PC Tryz.prog 36 [.v (.int .i64 nv),.v (.int .i64 low),.v (.int .i64 high)] (.v (.bool r)):=by
 rw[A10]at h
 refine SC.of_sw Tryz.func36 R R R ?_
 dsimp only[M1,List.map]
 refine qG (A3 R (eN (qG (A0 R (A0 R ?_)))))
 refine A35 R R R R ?_ ?_
 ·intro c
  replace h:=H1 c h
  refine A0 R (A0 R (A0 R (B25 R R R R (B5 R (A3 R (eN (C9 ?_)))))))
  obtain rfl:=sI h
  exact f1 6 R
 intro c
 replace h:=J0 (Int.not_le.2 c) h
 refine A0 R (H7 3 R (C4 R (A3 R (eN (C9 ?_)))))
 obtain rfl:=sI h
 exact f1 6 R
def A1L (F:Nat) (nv:Int):Option Bool:=(A10 F nv (-10000000) 10000000).bind fun rv=>some rv
theorem A4v {F:Nat} {nv:Int} {r:Bool} (h:A1L F nv=some r):PC Tryz.prog 125 [.v (.int .i64 nv)] (.v (.bool r)):=by
 rw[A1L]at h
 refine SC.of_sw Tryz.func125 R R R ?_
 dsimp only[M1,List.map]
 refine qG (A3 R (eN (qG (A0 R ?_))))
 obtain⟨rv,k,h⟩:=H0 h
 refine N5 (Y7 k) eK R R R R (A3 R (eN (C9 ?_)))
 obtain rfl:=sI h
 exact f1 2 R
def A2x (F:Nat) (nv:Int):Option Bool:=(A10 F nv 0 9).bind fun rv=>some rv
theorem A5N {F:Nat} {nv:Int} {r:Bool} (h:A2x F nv=some r):PC Tryz.prog 123 [.v (.int .i64 nv)] (.v (.bool r)):=by
 rw[A2x]at h
 refine SC.of_sw Tryz.func123 R R R ?_
 dsimp only[M1,List.map]
 refine qG (A3 R (eN (qG (A0 R ?_))))
 obtain⟨rv,k,h⟩:=H0 h
 refine N5 (Y7 k) eK R R R R (A3 R (eN (C9 ?_)))
 obtain rfl:=sI h
 exact f1 2 R
def A61 (F:Nat) (s:A52):Option Bool:=(A1L F s.lo).bind fun rv=>if rv=true then((A1L F s.hi).bind fun rv2=>if rv2=true then(some (decide (s.lo≤s.hi)))else(some false))else(some false)
theorem A9l {F:Nat} {s:A52} {r:Bool} (h:A61 F s=some r):PC Tryz.prog 122 [A52.d s] (.v (.bool r)):=by
 rw[A61]at h
 refine SC.of_sw Tryz.func122 R R R ?_
 dsimp only[M1,List.map]
 refine qG (M4 R (A3 R (eN (qG (C7 tb R (B7 (y:=vI s.lo) tb R ?_))))))
 obtain⟨rv,k,h⟩:=H0 h
 refine H8 (A4v k) eK R R R R ?_ ?_
 ·intro c
  replace h:=H1 c h
  refine A0 R (C7 tb R (B7 (y:=vI s.hi) tb R ?_))
  obtain⟨rv2,k2,h⟩:=H0 h
  refine H8 (A4v k2) eK R R R R ?_ ?_
  ·intro c2
   replace h:=H1 c2 h
   refine B5 R (A0 R (C7 tb R (B7 (y:=vI s.lo) tb R (C7 tb R (B7 (y:=vI s.hi) tb R (B25 R R R R (B5 R (A3 R (eN (C9 ?_))))))))))
   obtain rfl:=sI h
   exact f1 2 R
  intro c2
  replace h:=X9 c2 h
  refine B5 R (A0 R (H7 5 R (C4 R (A3 R (eN (C9 ?_))))))
  obtain rfl:=sI h
  exact f1 2 R
 intro c
 replace h:=X9 c h
 refine A0 R (H7 3 R (C4 R (A0 R (H7 5 R (C4 R (A3 R (eN (C9 ?_))))))))
 obtain rfl:=sI h
 exact f1 2 R
def V6 (F:Nat) (s:ByteArray) (K:Int→Option Bool):Nat→Int→Option Bool
 | 0,_=>none
 | n+1,i=>if i<(s.size:Int)then((ixB s i).bind fun b=>if 97≤b then(if b≤122 then(V6 F s K n (W (i+1)))else(if i=0 then(some false)else(if 48≤b then(if b≤57 then(V6 F s K n (W (i+1)))else(if b=45 then(V6 F s K n (W (i+1)))else(some false)))else(if b=45 then(V6 F s K n (W (i+1)))else(some false)))))else(if i=0 then(some false)else(if 48≤b then(if b≤57 then(V6 F s K n (W (i+1)))else(if b=45 then(V6 F s K n (W (i+1)))else(some false)))else(if b=45 then(V6 F s K n (W (i+1)))else(some false)))))else(K i)
def A75 (F:Nat) (s:ByteArray):Option Bool:=if(s.size:Int)<1 then(some false)else(if 24<(s.size:Int)then(some false)else(V6 F s (fun(i:Int)=>some true) F 0))
theorem B2z {F:Nat} {s:ByteArray} {r:Bool} (h:A75 F s=some r):PC Tryz.prog 124 [.v (.string s)] (.v (.bool r)):=by
 rw[A75]at h
 refine SC.of_sw Tryz.func124 R R R ?_
 dsimp only[M1,List.map]
 refine qG (A3 R (eN (B8 (qG (A0 R (B0B R R R R ?_))))))
 refine G8 R R R R ?_ ?_
 ·intro c
  replace h:=H1 c h
  refine A0 R (H7 3 R (B5 R (eN (A9 R (qG (A3 R (eN (C9 (B1 ?_)))))))))
  obtain rfl:=sI h
  exact f1 2 R
 intro c
 replace h:=J0 (nL c) h
 refine A0 R (A0 R (B0B R R R R ?_))
 refine A1D R R R R ?_ ?_
 ·intro c2
  replace h:=H1 c2 h
  refine C4 R (eN (A9 R (qG (A3 R (eN (C9 (B1 ?_)))))))
  obtain rfl:=sI h
  exact f1 2 R
 intro c2
 replace h:=J0 (nL c2) h
 refine C4 R (eN (A5 R (C0 (A1 (B8 (qG (A3 R (eN (D0 ?_)))))))))
 obtain⟨K2,hK2,h⟩:∃ K,K=_∧V6 F s K F 0=some r:=⟨_,rfl,h⟩
 refine H6 (fun m st=>∃ (i:Int),V6 F s K2 m i=some r∧st=⟨[(0,.d (.v (.string s))),(2,.d (.v (.bool false))),(3,.d (vI i))],[]⟩) (.prn [0,2,3] R) ⟨0,h,R⟩ ?_
 clear h
 rintro m2 st ⟨i,h,rfl⟩
 cases m2 with
 | zero=>cases(show(none:Option Bool)=some r from h)
 | succ m2 =>
 rw[V6]at h
 refine B8 (qG (A0 R (A0 R (B0B R R R R ?_))))
 refine G8 R R R R ?_ ?_
 ·intro c3
  replace h:=H1 c3 h
  refine eN (A9 R (C0 (A1 (B8 (D0 (qG (A0 R (A0 R ?_))))))))
  obtain⟨b,ib,h⟩:=H0 h
  refine B6R R R R ib R R (A3 R (eN (qG (A0 R ?_))))
  refine A35 R R R R ?_ ?_
  ·intro c4
   replace h:=H1 c4 h
   refine A0 R (A0 R ?_)
   refine A7A R R R R ?_ ?_
   ·intro c5
    replace h:=H1 c5 h
    refine B5 R (A3 R (eN (qG (A0 R (M2 R R R (A0 R (H7 15 R (C4 R (eN (A5 R (C0 (C3 (A1 (E5 (A0 R (H4 R (A3 R (eN ?_))))))))))))))))))
    exact⟨m2,_,lS,.prn [0,2,3] R,(W (i+1)),h,R⟩
   intro c5
   replace h:=J0 (Int.not_le.2 c5) h
   refine B5 R (A3 R (eN (qG (A0 R (M3 R R R (A0 R (A0 R ?_)))))))
   refine Q0 R R R R ?_ ?_
   ·intro c6
    replace h:=H1 c6 h
    refine A0 R (H7 11 R (B5 R (B5 R (eN (A9 R (qG (A3 R (eN (C9 (C5 (B1 (B1 (C5 (B1 ?_))))))))))))))
    obtain rfl:=sI h
    exact f1 2 R
   intro c6
   replace h:=J0 c6 h
   refine A0 R (A0 R ?_)
   refine A35 R R R R ?_ ?_
   ·intro c7
    replace h:=H1 c7 h
    refine A0 R (A0 R ?_)
    refine A7A R R R R ?_ ?_
    ·intro c8
     replace h:=H1 c8 h
     refine B5 R (A0 R (H7 2 R (B5 R (M2 R R R (C4 R (B5 R (eN (A5 R (C0 (C3 (A1 (E5 (A0 R (H4 R (A3 R (eN ?_))))))))))))))))
     exact⟨m2,_,lS,.prn [0,2,3] R,(W (i+1)),h,R⟩
    intro c8
    replace h:=J0 (Int.not_le.2 c8) h
    refine B5 R (A0 R (A0 R ?_))
    refine Q0 R R R R ?_ ?_
    ·intro c9
     replace h:=H1 c9 h
     refine C4 R (M2 R R R (C4 R (B5 R (eN (A5 R (C0 (C3 (A1 (E5 (A0 R (H4 R (A3 R (eN ?_)))))))))))))
     exact⟨m2,_,lS,.prn [0,2,3] R,(W (i+1)),h,R⟩
    intro c9
    replace h:=J0 c9 h
    refine C4 R (M3 R R R (C4 R (B5 R (eN (A9 R (qG (A3 R (eN (C9 (C5 (B1 (B1 (C5 (B1 ?_))))))))))))))
    obtain rfl:=sI h
    exact f1 2 R
   intro c7
   replace h:=J0 (Int.not_le.2 c7) h
   refine A0 R (H7 2 R (C4 R (A0 R (A0 R ?_))))
   refine Q0 R R R R ?_ ?_
   ·intro c10
    replace h:=H1 c10 h
    refine C4 R (M2 R R R (C4 R (B5 R (eN (A5 R (C0 (C3 (A1 (E5 (A0 R (H4 R (A3 R (eN ?_)))))))))))))
    exact⟨m2,_,lS,.prn [0,2,3] R,(W (i+1)),h,R⟩
   intro c10
   replace h:=J0 c10 h
   refine C4 R (M3 R R R (C4 R (B5 R (eN (A9 R (qG (A3 R (eN (C9 (C5 (B1 (B1 (C5 (B1 ?_))))))))))))))
   obtain rfl:=sI h
   exact f1 2 R
  intro c4
  replace h:=J0 (Int.not_le.2 c4) h
  refine A0 R (H7 2 R (C4 R (A3 R (eN (qG (A0 R (M3 R R R (A0 R (A0 R ?_)))))))))
  refine Q0 R R R R ?_ ?_
  ·intro c11
   replace h:=H1 c11 h
   refine A0 R (H7 11 R (B5 R (B5 R (eN (A9 R (qG (A3 R (eN (C9 (C5 (B1 (B1 (C5 (B1 ?_))))))))))))))
   obtain rfl:=sI h
   exact f1 2 R
  intro c11
  replace h:=J0 c11 h
  refine A0 R (A0 R ?_)
  refine A35 R R R R ?_ ?_
  ·intro c12
   replace h:=H1 c12 h
   refine A0 R (A0 R ?_)
   refine A7A R R R R ?_ ?_
   ·intro c13
    replace h:=H1 c13 h
    refine B5 R (A0 R (H7 2 R (B5 R (M2 R R R (C4 R (B5 R (eN (A5 R (C0 (C3 (A1 (E5 (A0 R (H4 R (A3 R (eN ?_))))))))))))))))
    exact⟨m2,_,lS,.prn [0,2,3] R,(W (i+1)),h,R⟩
   intro c13
   replace h:=J0 (Int.not_le.2 c13) h
   refine B5 R (A0 R (A0 R ?_))
   refine Q0 R R R R ?_ ?_
   ·intro c14
    replace h:=H1 c14 h
    refine C4 R (M2 R R R (C4 R (B5 R (eN (A5 R (C0 (C3 (A1 (E5 (A0 R (H4 R (A3 R (eN ?_)))))))))))))
    exact⟨m2,_,lS,.prn [0,2,3] R,(W (i+1)),h,R⟩
   intro c14
   replace h:=J0 c14 h
   refine C4 R (M3 R R R (C4 R (B5 R (eN (A9 R (qG (A3 R (eN (C9 (C5 (B1 (B1 (C5 (B1 ?_))))))))))))))
   obtain rfl:=sI h
   exact f1 2 R
  intro c12
  replace h:=J0 (Int.not_le.2 c12) h
  refine A0 R (H7 2 R (C4 R (A0 R (A0 R ?_))))
  refine Q0 R R R R ?_ ?_
  ·intro c15
   replace h:=H1 c15 h
   refine C4 R (M2 R R R (C4 R (B5 R (eN (A5 R (C0 (C3 (A1 (E5 (A0 R (H4 R (A3 R (eN ?_)))))))))))))
   exact⟨m2,_,lS,.prn [0,2,3] R,(W (i+1)),h,R⟩
  intro c15
  replace h:=J0 c15 h
  refine C4 R (M3 R R R (C4 R (B5 R (eN (A9 R (qG (A3 R (eN (C9 (C5 (B1 (B1 (C5 (B1 ?_))))))))))))))
  obtain rfl:=sI h
  exact f1 2 R
 intro c3
 replace h:=J0 (nL c3) h
 refine eN (A5 R (I4 (C8 (C8 ?_))))
 subst hK2
 refine F3 (A1 (qG (A3 R (eN (C9 ?_)))))
 obtain rfl:=sI h
 exact f1 2 R
def A1V (F:Nat) (s:ByteArray) (before:(List ByteArray)) (K:Int→Option Int):Nat→Int→Option Int
 | 0,_=>none
 | n+1,i=>if i<(before.length:Int)then((P7 before i).bind fun e=>if e.toList=s.toList then(some 5)else(A1V F s before K n (W (i+1))))else(K i)
def A3D (F:Nat) (s:ByteArray) (before:(List ByteArray)):Option Int:=(A75 F s).bind fun rv=>if rv=true then(A1V F s before (fun(i:Int)=>some 0) F 0)else(some 6)
theorem A5m {F:Nat} {s:ByteArray} {before:(List ByteArray)} {r:Int} (h:A3D F s before=some r):PC Tryz.prog 106 [.v (.string s),.arr 1 ((before).map vS)] (.v (.int .i64 r)):=by
 rw[A3D]at h
 refine SC.of_sw Tryz.func106 R R R ?_
 dsimp only[M1,List.map]
 refine qG (A3 R (eN (B8 (qG (A0 R ?_)))))
 obtain⟨rv,k,h⟩:=H0 h
 refine H8 (B2z k) eK R R R R ?_ ?_
 ·intro c
  replace h:=H1 c h
  refine M2 R R R (eN (A5 R (C0 (A1 (B8 (qG (A3 R (eN (D0 ?_)))))))))
  obtain⟨K3,hK3,h⟩:∃ K,K=_∧A1V F s before K F 0=some r:=⟨_,rfl,h⟩
  refine H6 (fun m st=>∃ (i:Int),A1V F s before K3 m i=some r∧st=⟨[(0,.d (.v (.string s))),(1,.d (.arr 1 ((before).map vS))),(4,.d (vI 0)),(5,.d (vI i))],[]⟩) (.prn [0,1,4,5] R) ⟨0,h,R⟩ ?_
  clear h
  rintro m3 st ⟨i,h,rfl⟩
  cases m3 with
  | zero=>cases(show(none:Option Int)=some r from h)
  | succ m3 =>
  rw[A1V]at h
  refine B8 (qG (A0 R (A0 R (H3 tb R ?_))))
  refine G8 R R R R ?_ ?_
  ·intro c2
   replace h:=H1 c2 h
   refine eN (A9 R (C0 (A1 (B8 (D0 (qG (A0 R (A0 R ?_))))))))
   obtain⟨e,ie,h⟩:=H0 h
   refine J9 tb (S0 ie) (P6 ie) R (H9 (y := .v (.string e)) tb (Q6 (g:=vS) ie) R (A0 R ?_))
   refine B4F R R R R ?_ ?_
   ·intro c3
    replace h:=H1 c3 h
    refine eN (A9 R (qG (A3 R (eN (C9 (C5 (B1 (B1 (C5 (B1 ?_))))))))))
    obtain rfl:=sI h
    exact f1 4 R
   intro c3
   replace h:=J0 c3 h
   refine eN (A5 R (C0 (C3 (A1 (E5 (A0 R (H4 R (A3 R (eN ?_)))))))))
   exact⟨m3,_,lS,.prn [0,1,4,5] R,(W (i+1)),h,R⟩
  intro c2
  replace h:=J0 (nL c2) h
  refine eN (A5 R (I4 (C8 (C8 ?_))))
  subst hK3
  refine F3 (A1 (qG (A3 R (eN (C9 ?_)))))
  obtain rfl:=sI h
  exact f1 4 R
 intro c
 replace h:=X9 c h
 refine M3 R R R (eN (A9 R (qG (A3 R (eN (C9 (B1 ?_)))))))
 obtain rfl:=sI h
 exact f1 4 R
def A01 (F:Nat) (B4:(List ByteArray)→Int→Option (Int × Int)) (names:(List ByteArray)) (i:Int) (e:E9) (e2:Int):Option (Int × Int):=if e2=0 then((A67 names [e.name]).bind fun q=>B4 q (W (i+1)))else(some (i,e2))
def U3 (F:Nat) (p:B0) (K:(List ByteArray)→Int→Option (Int × Int)):Nat→(List ByteArray)→Int→Option (Int × Int)
 | 0,_,_=>none
 | n+1,names,i=>if i<(p.zones.length:Int)then((P7 p.zones i).bind fun e=>(A3D F e.name names).bind fun rv=>if rv=0 then((A61 F (A52.mk e.F8 e.F7)).bind fun rv2=>if rv2=true then((A61 F (A52.mk e.G0 e.F9)).bind fun rv3=>if rv3=true then((A2x F e.grade).bind fun rv4=>if rv4=true then((A10 F e.room 1 8).bind fun rv5=>if rv5=true then(A01 F (U3 F p K n) names i e rv)else(A01 F (U3 F p K n) names i e 7))else(A01 F (U3 F p K n) names i e 7))else(A01 F (U3 F p K n) names i e 7))else(A01 F (U3 F p K n) names i e 7))else(A01 F (U3 F p K n) names i e rv))else(K names i)
def A5R (F:Nat) (p:B0):Option (Int × Int):=U3 F p (fun(names:(List ByteArray)) (i:Int)=>some (0,0)) F ([]:List ByteArray) 0
theorem B17 {F:Nat} {p:B0} {r:(Int × Int)} (h:A5R F p=some r):PC Tryz.prog 103 [B0.d p] (.tup [.v (.int .i64 r.1),.v (.int .i64 r.2)]):=by
 rw[A5R]at h
 refine SC.of_sw Tryz.func103 R R R ?_
 dsimp only[M1,List.map]
 refine qG (M4 R (A3 R (A3 R (eN (qG (A3 R (eN (B8 (qG (A3 R (eN (D0 ?_))))))))))))
 refine SW.own (ts':=[(1,.ref 0 7 0 0),(2,.d (vI 0)),(3,.d (vI 0)),(4,.row 1 1 0 (([]:List ByteArray)).length),(5,.d (vI 0))]) (L':=[bx 7 (.d (B0.d p))]) 1 R R (.cons (.same _) (.cons (.same _) (.cons (.same _) (.cons .nil (.cons (.same _) .nil))))) (.same .nil) ?_
 simp only[List.cons_append,List.nil_append]
 obtain⟨K4,hK4,h⟩:∃ K,K=_∧U3 F p K F ([]:List ByteArray) 0=some r:=⟨_,rfl,h⟩
 refine H6 (fun m st=>∃ (names:(List ByteArray)) (i:Int),U3 F p K4 m names i=some r∧st=⟨[(1,.ref 0 7 0 0),(2,.d (vI 0)),(3,.d (vI 0)),(4,.row 1 1 0 (names).length),(5,.d (vI i))],[bx 7 (.d (B0.d p)),A8z names]⟩) (.prn [1,2,3,4,5] R) ⟨([]:List ByteArray),0,h,R⟩ ?_
 clear h
 rintro m4 st ⟨names,i,h,rfl⟩
 cases m4 with
 | zero=>cases(show(none:Option (Int × Int))=some r from h)
 | succ m4 =>
 rw[U3]at h
 refine B8 (qG (A0 R (C7 tb R (B7 (y := .arr 8 ((p.zones).map E9.d)) tb R (H3 tb R ?_)))))
 refine G8 R R R R ?_ ?_
 ·intro c
  replace h:=H1 c h
  refine eN (A9 R (C0 (A1 (B8 (D0 (qG (C7 tb R (B7 (y := .arr 8 ((p.zones).map E9.d)) tb R (A0 R ?_)))))))))
  obtain⟨e,ie,h⟩:=H0 h
  refine J9 tb (S0 ie) (P6 ie) R (H9 (y:=E9.d e) tb (Q6 (g:=E9.d) ie) R (N0 tb R R R R R (I5 _ _ tb R (eN (qG (C7 tb R (B7 (y := .v (.string e.name)) tb R (I1 R R R ?_))))))))
  obtain⟨rv,k,h⟩:=H0 h
  refine A2N (A5m k) R eK R R ((dL (.cons (.row R R) .nil))) R R (A3 R (eN (B8 ?_)))
  refine N3 (fun zz:Int=>A01 F (U3 F p K4 m4) names i e zz=some r) (fun zz:Int=>⟨[(1,.ref 0 7 0 0),(2,.d (vI 0)),(3,.d (vI 0)),(4,.row 1 1 0 (names).length),(5,.d (vI i)),(6,.ref 2 8 0 0),(7,.d (vI zz))],[bx 7 (.d (B0.d p)),A8z names,bx 8 (.d (E9.d e))]⟩) ?_ ?_
  ·clear h
   rintro e2 h
   rw[A01]at h
   refine B8 (qG (A0 R ?_))
   refine T6 R R R R ?_ ?_
   ·intro c7
    replace h:=J0 c7 h
    refine eN (A9 R (qG (A0 R (A0 R (A3 R (A3 R (eN (C9 (B1 (C5 (B1 (B1 (C5 (B1 ?_))))))))))))))
    obtain rfl:=sI h
    exact Q2 (t := .d (.tup [vI i,vI e2])) R R R (.cons (.tmp 2) (.cons (.tmp 3) .nil))
   intro c7
   replace h:=H1 c7 h
   refine eN (A5 R (C0 (A1 (E5 (I1 R R R (C7 tb R (B7 (y := .v (.string e.name)) tb R (R8 tb R R R R R R R R R R R R R ?_))))))))
   obtain⟨q,iq,h⟩:=H0 h
   refine A78 (g:=vS) (w:=names) (v:=[e.name]) ([bx 7 (.d (B0.d p)),none,bx 8 (.d (E9.d e)),A8z [e.name]]) tb R R R R R R R R R R R iq R R R R R (A0j R R R (L5 (C3 (A1 (E5 (A0 R (H4 R (A3 R (eN ?_)))))))))
   exact⟨m4,⟨[(1,.ref 0 7 0 0),(2,.d (vI 0)),(3,.d (vI 0)),(4,.row 1 1 0 (q).length),(5,.d (vI (W (i+1))))],[bx 7 (.d (B0.d p)),A8z q]⟩,lS,.vw (κ:=[0,4]) (vK (.cons R R O7) R),q,(W (i+1)),h,R⟩
  refine qG (A0 R ?_)
  refine Q0 R R R R ?_ ?_
  ·intro c2
   replace h:=H1 c2 h
   refine A0 R (C7 tb R (C7 tb R (B7 (y := .agg [vI e.F8,vI e.F7]) tb R ?_)))
   obtain⟨rv2,k2,h⟩:=H0 h
   refine H8 (A9l k2) eK R R R R ?_ ?_
   ·intro c3
    replace h:=H1 c3 h
    refine M2 R R R (A0 R (C7 tb R (C7 tb R (B7 (y := .agg [vI e.G0,vI e.F9]) tb R ?_))))
    obtain⟨rv3,k3,h⟩:=H0 h
    refine H8 (A9l k3) eK R R R R ?_ ?_
    ·intro c4
     replace h:=H1 c4 h
     refine M2 R R R (C4 R (A0 R (C7 tb R (B7 (y:=vI e.grade) tb R ?_))))
     obtain⟨rv4,k4,h⟩:=H0 h
     refine H8 (A5N k4) eK R R R R ?_ ?_
     ·intro c5
      replace h:=H1 c5 h
      refine M2 R R R (C4 R (A0 R (C7 tb R (B7 (y:=vI e.room) tb R ?_))))
      obtain⟨rv5,k5,h⟩:=H0 h
      refine H8 (Y7 k5) eK R R R R ?_ ?_
      ·intro c6
       replace h:=H1 c6 h
       refine M2 R R R (C4 R (B5 R (eN (A5 R (C0 (A1 ?_))))))
       exact .inl ⟨rv,h,.prn [1,2,3,4,5,6,7] R⟩
      intro c6
      replace h:=X9 c6 h
      refine M3 R R R (C4 R (B5 R (eN (A9 R (E5 (A3 R (eN ?_)))))))
      exact .inl ⟨7,h,.prn [1,2,3,4,5,6,7] R⟩
     intro c5
     replace h:=X9 c5 h
     refine M3 R R R (C4 R (A0 R (H7 4 R (B5 R (B5 R (eN (A9 R (E5 (A3 R (eN ?_))))))))))
     exact .inl ⟨7,h,.prn [1,2,3,4,5,6,7] R⟩
    intro c4
    replace h:=X9 c4 h
    refine M3 R R R (C4 R (A0 R (H7 4 R (B5 R (A0 R (H7 4 R (B5 R (B5 R (eN (A9 R (E5 (A3 R (eN ?_)))))))))))))
    exact .inl ⟨7,h,.prn [1,2,3,4,5,6,7] R⟩
   intro c3
   replace h:=X9 c3 h
   refine M3 R R R (A0 R (H7 5 R (B5 R (A0 R (H7 4 R (B5 R (A0 R (H7 4 R (B5 R (B5 R (eN (A9 R (E5 (A3 R (eN ?_)))))))))))))))
   exact .inl ⟨7,h,.prn [1,2,3,4,5,6,7] R⟩
  intro c2
  replace h:=J0 c2 h
  refine A0 R (H7 24 R (C4 R (eN (A5 R (C0 (A1 ?_))))))
  exact .inl ⟨rv,h,.prn [1,2,3,4,5,6,7] R⟩
 intro c
 replace h:=J0 (nL c) h
 refine eN (A5 R (I4 (C8 (C8 ?_))))
 subst hK4
 refine F3 (A1 (qG (A3 R (A3 R (eN (C9 ?_))))))
 obtain rfl:=sI h
 exact Q2 (t := .d (.tup [vI 0,vI 0])) R R R (.cons (.tmp 2) (.cons (.tmp 3) .nil))
def A3E (F:Nat) (p:B0) (nv:Int):Option Bool:=(A10 F nv 0 (W ((p.zones.length:Int)-1))).bind fun rv=>some rv
theorem A5o {F:Nat} {p:B0} {nv:Int} {r:Bool} (h:A3E F p nv=some r):PC Tryz.prog 38 [B0.d p,.v (.int .i64 nv)] (.v (.bool r)):=by
 rw[A3E]at h
 refine SC.of_sw Tryz.func38 R R R ?_
 dsimp only[M1,List.map]
 refine qG (M4 R (A3 R (eN (qG (A0 R (C7 tb R (B7 (y := .arr 8 ((p.zones).map E9.d)) tb R (H3 tb R (O6 R R R R ?_)))))))))
 obtain⟨rv,k,h⟩:=H0 h
 refine N5 (Y7 k) eK R R R R (A3 R (eN (C9 ?_)))
 obtain rfl:=sI h
 exact f1 4 R
def A1y (F:Nat) (B3:Int→Option (Int × Int)) (i:Int) (e:I0):Option (Int × Int):=if e.a=e.b then(some (i,2))else(B3 (W (i+1)))
def A2i (F:Nat) (i:Int):Option (Int × Int):=some (i,4)
def W8 (F:Nat) (p:B0) (K:Int→Option (Int × Int)):Nat→Int→Option (Int × Int)
 | 0,_=>none
 | n+1,i=>if i<(p.doors.length:Int)then((P7 p.doors i).bind fun e=>if e.a=(-1)then(if e.b=(-1)then(A1y F (W8 F p K n) i e)else((A3E F p e.b).bind fun rv3=>if rv3=true then(A1y F (W8 F p K n) i e)else(A2i F i)))else((A3E F p e.a).bind fun rv=>if rv=true then(if e.b=(-1)then(A1y F (W8 F p K n) i e)else((A3E F p e.b).bind fun rv2=>if rv2=true then(A1y F (W8 F p K n) i e)else(A2i F i)))else(A2i F i)))else(K i)
def A5M (F:Nat) (p:B0):Option (Int × Int):=W8 F p (fun(i:Int)=>some (0,0)) F 0
theorem B1y {F:Nat} {p:B0} {r:(Int × Int)} (h:A5M F p=some r):PC Tryz.prog 104 [B0.d p] (.tup [.v (.int .i64 r.1),.v (.int .i64 r.2)]):=by
 rw[A5M]at h
 refine SC.of_sw Tryz.func104 R R R ?_
 dsimp only[M1,List.map]
 refine qG (M4 R (A3 R (A3 R (eN (B8 (qG (A3 R (eN (D0 ?_)))))))))
 obtain⟨K3,hK3,h⟩:∃ K,K=_∧W8 F p K F 0=some r:=⟨_,rfl,h⟩
 refine H6 (fun m st=>∃ (i:Int),W8 F p K3 m i=some r∧st=⟨[(1,.ref 0 7 0 0),(2,.d (vI 0)),(3,.d (vI 0)),(4,.d (vI i))],[bx 7 (.d (B0.d p))]⟩) (.prn [1,2,3,4] R) ⟨0,h,R⟩ ?_
 clear h
 rintro m3 st ⟨i,h,rfl⟩
 cases m3 with
 | zero=>cases(show(none:Option (Int × Int))=some r from h)
 | succ m3 =>
 rw[W8]at h
 refine B8 (qG (A0 R (C7 tb R (B7 (y := .arr 2 ((p.doors).map I0.d)) tb R (H3 tb R ?_)))))
 refine G8 R R R R ?_ ?_
 ·intro c
  replace h:=H1 c h
  refine eN (A9 R (C0 (A1 (B8 (D0 (qG (C7 tb R (B7 (y := .arr 2 ((p.doors).map I0.d)) tb R (A0 R ?_)))))))))
  obtain⟨e,ie,h⟩:=H0 h
  refine J9 tb (S0 ie) (P6 ie) R (H9 (y:=I0.d e) tb (Q6 (g:=I0.d) ie) R (N0 tb R R R R R (I5 _ _ tb R (eN (B8 ?_)))))
  refine N3 (fun zz:Unit=>A1y F (W8 F p K3 m3) i e=some r) (fun zz:Unit=>⟨[(1,.ref 0 7 0 0),(2,.d (vI 0)),(3,.d (vI 0)),(4,.d (vI i)),(5,.ref 1 2 0 0)],[bx 7 (.d (B0.d p)),bx 2 (.d (I0.d e))]⟩) ?_ ?_
  ·clear h
   rintro⟨⟩ h
   rw[A1y]at h
   refine qG (C7 tb R (B7 (y:=vI e.a) tb R (C7 tb R (B7 (y:=vI e.b) tb R ?_))))
   refine Q0 R R R R ?_ ?_
   ·intro c8
    replace h:=H1 c8 h
    refine eN (A9 R (qG (A0 R (A3 R (A3 R (eN (C9 (C5 (B1 (B1 (C5 (B1 ?_))))))))))))
    obtain rfl:=sI h
    exact Q2 (t := .d (.tup [vI i,vI 2])) R R R (.cons (.tmp 2) (.cons (.tmp 3) .nil))
   intro c8
   replace h:=J0 c8 h
   refine eN (A5 R (C0 (C3 (A1 (E5 (A0 R (H4 R (A3 R (eN ?_)))))))))
   exact⟨m3,⟨[(1,.ref 0 7 0 0),(2,.d (vI 0)),(3,.d (vI 0)),(4,.d (vI (W (i+1))))],[bx 7 (.d (B0.d p))]⟩,lS,.vw (κ:=[0]) (vK (.cons R R .nil) R),(W (i+1)),h,R⟩
  refine B8 ?_
  refine N3 (fun zz:Unit=>A2i F i=some r) (fun zz:Unit=>⟨[(1,.ref 0 7 0 0),(2,.d (vI 0)),(3,.d (vI 0)),(4,.d (vI i)),(5,.ref 1 2 0 0),(39,.d (.v (.bool true)))],[bx 7 (.d (B0.d p)),bx 2 (.d (I0.d e))]⟩) ?_ ?_
  ·clear h
   rintro⟨⟩ h
   rw[A2i]at h
   refine A9 R (qG (A0 R (A3 R (A3 R (eN (C9 (B1 (C5 (B1 (B1 (C5 (B1 ?_))))))))))))
   obtain rfl:=sI h
   exact Q2 (t := .d (.tup [vI i,vI 4])) R R R (.cons (.tmp 2) (.cons (.tmp 3) .nil))
  refine E5 (C7 tb R (B7 (y:=vI e.a) tb R ?_))
  refine T6 R R R R ?_ ?_
  ·intro c2
   replace h:=J0 c2 h
   refine A0 R (B7 (y:=B0.d p) tb R (C7 tb R (B7 (y:=vI e.a) tb R ?_)))
   obtain⟨rv,k,h⟩:=H0 h
   refine H8 (A5o k) eK R R R R ?_ ?_
   ·intro c3
    replace h:=H1 c3 h
    refine M2 R R R (B5 R (A0 R (C7 tb R (B7 (y:=vI e.b) tb R ?_))))
    refine T6 R R R R ?_ ?_
    ·intro c4
     replace h:=J0 c4 h
     refine A0 R (B7 (y:=B0.d p) tb R (C7 tb R (B7 (y:=vI e.b) tb R ?_)))
     obtain⟨rv2,k2,h⟩:=H0 h
     refine H8 (A5o k2) eK R R R R ?_ ?_
     ·intro c5
      replace h:=H1 c5 h
      refine M2 R R R (B5 R (C4 R (eN (.inr (A5 R (C0 (A1 ?_)))))))
      exact .inl ⟨(),h,.prn [1,2,3,4,5] R⟩
     intro c5
     replace h:=X9 c5 h
     refine M3 R R R (B5 R (C4 R (eN ?_)))
     exact .inl ⟨(),h,.prn [1,2,3,4,5,39] R⟩
    intro c4
    replace h:=H1 c4 h
    refine A0 R (H7 5 R (C4 R (C4 R (eN (.inr (A5 R (C0 (A1 ?_))))))))
    exact .inl ⟨(),h,.prn [1,2,3,4,5] R⟩
   intro c3
   replace h:=X9 c3 h
   refine M3 R R R (B5 R (A0 R (H7 10 R (B5 R (eN ?_)))))
   exact .inl ⟨(),h,.prn [1,2,3,4,5,39] R⟩
  intro c2
  replace h:=H1 c2 h
  refine A0 R (H7 5 R (C4 R (A0 R (C7 tb R (B7 (y:=vI e.b) tb R ?_)))))
  refine T6 R R R R ?_ ?_
  ·intro c6
   replace h:=J0 c6 h
   refine A0 R (B7 (y:=B0.d p) tb R (C7 tb R (B7 (y:=vI e.b) tb R ?_)))
   obtain⟨rv3,k3,h⟩:=H0 h
   refine H8 (A5o k3) eK R R R R ?_ ?_
   ·intro c7
    replace h:=H1 c7 h
    refine M2 R R R (B5 R (C4 R (eN (.inr (A5 R (C0 (A1 ?_)))))))
    exact .inl ⟨(),h,.prn [1,2,3,4,5] R⟩
   intro c7
   replace h:=X9 c7 h
   refine M3 R R R (B5 R (C4 R (eN ?_)))
   exact .inl ⟨(),h,.prn [1,2,3,4,5,39] R⟩
  intro c6
  replace h:=H1 c6 h
  refine A0 R (H7 5 R (C4 R (C4 R (eN (.inr (A5 R (C0 (A1 ?_))))))))
  exact .inl ⟨(),h,.prn [1,2,3,4,5] R⟩
 intro c
 replace h:=J0 (nL c) h
 refine eN (A5 R (I4 (C8 (C8 ?_))))
 subst hK3
 refine F3 (A1 (qG (A3 R (A3 R (eN (C9 ?_))))))
 obtain rfl:=sI h
 exact Q2 (t := .d (.tup [vI 0,vI 0])) R R R (.cons (.tmp 2) (.cons (.tmp 3) .nil))
def A1d (F:Nat) (B4:(List ByteArray)→Int→Option (Int × Int)) (names:(List ByteArray)) (i:Int) (e:E3) (e2:Int):Option (Int × Int):=if e2=0 then((A67 names [e.name]).bind fun q=>B4 q (W (i+1)))else(some (i,e2))
def W5 (F:Nat) (p:B0) (K:(List ByteArray)→Int→Option (Int × Int)):Nat→(List ByteArray)→Int→Option (Int × Int)
 | 0,_,_=>none
 | n+1,names,i=>if i<(p.people.length:Int)then((P7 p.people i).bind fun e=>(A3D F e.name names).bind fun rv=>if rv=0 then((A2x F e.grade).bind fun rv2=>if rv2=true then(A1d F (W5 F p K n) names i e rv)else(A1d F (W5 F p K n) names i e 7))else(A1d F (W5 F p K n) names i e rv))else(K names i)
def A4L (F:Nat) (p:B0):Option (Int × Int):=W5 F p (fun(names:(List ByteArray)) (i:Int)=>some (0,0)) F ([]:List ByteArray) 0
theorem B09 {F:Nat} {p:B0} {r:(Int × Int)} (h:A4L F p=some r):PC Tryz.prog 105 [B0.d p] (.tup [.v (.int .i64 r.1),.v (.int .i64 r.2)]):=by
 rw[A4L]at h
 refine SC.of_sw Tryz.func105 R R R ?_
 dsimp only[M1,List.map]
 refine qG (M4 R (A3 R (A3 R (eN (qG (A3 R (eN (B8 (qG (A3 R (eN (D0 ?_))))))))))))
 refine SW.own (ts':=[(1,.ref 0 7 0 0),(2,.d (vI 0)),(3,.d (vI 0)),(4,.row 1 1 0 (([]:List ByteArray)).length),(5,.d (vI 0))]) (L':=[bx 7 (.d (B0.d p))]) 1 R R (.cons (.same _) (.cons (.same _) (.cons (.same _) (.cons .nil (.cons (.same _) .nil))))) (.same .nil) ?_
 simp only[List.cons_append,List.nil_append]
 obtain⟨K4,hK4,h⟩:∃ K,K=_∧W5 F p K F ([]:List ByteArray) 0=some r:=⟨_,rfl,h⟩
 refine H6 (fun m st=>∃ (names:(List ByteArray)) (i:Int),W5 F p K4 m names i=some r∧st=⟨[(1,.ref 0 7 0 0),(2,.d (vI 0)),(3,.d (vI 0)),(4,.row 1 1 0 (names).length),(5,.d (vI i))],[bx 7 (.d (B0.d p)),A8z names]⟩) (.prn [1,2,3,4,5] R) ⟨([]:List ByteArray),0,h,R⟩ ?_
 clear h
 rintro m4 st ⟨names,i,h,rfl⟩
 cases m4 with
 | zero=>cases(show(none:Option (Int × Int))=some r from h)
 | succ m4 =>
 rw[W5]at h
 refine B8 (qG (A0 R (C7 tb R (B7 (y := .arr 2 ((p.people).map E3.d)) tb R (H3 tb R ?_)))))
 refine G8 R R R R ?_ ?_
 ·intro c
  replace h:=H1 c h
  refine eN (A9 R (C0 (A1 (B8 (D0 (qG (C7 tb R (B7 (y := .arr 2 ((p.people).map E3.d)) tb R (A0 R ?_)))))))))
  obtain⟨e,ie,h⟩:=H0 h
  refine J9 tb (S0 ie) (P6 ie) R (M0 tb R (H9 (y := .v (.string e.name)) tb (Q6 (g:=E3.d) ie) R (I1 R R R ?_)))
  obtain⟨rv,k,h⟩:=H0 h
  refine A2N (A5m k) R eK R R ((dL (.cons (.row R R) .nil))) R R (A3 R (eN (B8 ?_)))
  refine N3 (fun zz:Int=>A1d F (W5 F p K4 m4) names i e zz=some r) (fun zz:Int=>⟨[(1,.ref 0 7 0 0),(2,.d (vI 0)),(3,.d (vI 0)),(4,.row 1 1 0 (names).length),(5,.d (vI i)),(6,.d (vI zz))],[bx 7 (.d (B0.d p)),A8z names]⟩) ?_ ?_
  ·clear h
   rintro e2 h
   rw[A1d]at h
   refine B8 (qG (A0 R ?_))
   refine T6 R R R R ?_ ?_
   ·intro c4
    replace h:=J0 c4 h
    refine eN (A9 R (qG (A0 R (A0 R (A3 R (A3 R (eN (C9 (B1 (C5 (B1 (B1 (C5 (B1 ?_))))))))))))))
    obtain rfl:=sI h
    exact Q2 (t := .d (.tup [vI i,vI e2])) R R R (.cons (.tmp 2) (.cons (.tmp 3) .nil))
   intro c4
   replace h:=H1 c4 h
   refine eN (A5 R (C0 (A1 (E5 (I1 R R R (C7 tb R (B7 (y := .arr 2 ((p.people).map E3.d)) tb R (A0 R (J9 tb (S0 ie) (P6 ie) R (M0 tb R (H9 (y := .v (.string e.name)) tb (Q6 (g:=E3.d) ie) R (R8 tb R R R R R R R R R R R R R ?_))))))))))))
   obtain⟨q,iq,h⟩:=H0 h
   refine A78 (g:=vS) (w:=names) (v:=[e.name]) ([bx 7 (.d (B0.d p)),none,A8z [e.name]]) tb R R R R R R R R R R R iq R R R R R (A0j R R R (L5 (C3 (A1 (E5 (A0 R (H4 R (A3 R (eN ?_)))))))))
   exact⟨m4,⟨[(1,.ref 0 7 0 0),(2,.d (vI 0)),(3,.d (vI 0)),(4,.row 1 1 0 (q).length),(5,.d (vI (W (i+1))))],[bx 7 (.d (B0.d p)),A8z q]⟩,lS,.vw (κ:=[0,3]) (vK (.cons R R O7) R),q,(W (i+1)),h,R⟩
  refine qG (A0 R ?_)
  refine Q0 R R R R ?_ ?_
  ·intro c2
   replace h:=H1 c2 h
   refine A0 R (C7 tb R (B7 (y := .arr 2 ((p.people).map E3.d)) tb R (A0 R (J9 tb (S0 ie) (P6 ie) R (M0 tb R (H9 (y:=vI e.grade) tb (Q6 (g:=E3.d) ie) R ?_))))))
   obtain⟨rv2,k2,h⟩:=H0 h
   refine H8 (A5N k2) eK R R R R ?_ ?_
   ·intro c3
    replace h:=H1 c3 h
    refine M2 R R R (B5 R (eN (A5 R (C0 (A1 ?_)))))
    exact .inl ⟨rv,h,.prn [1,2,3,4,5,6] R⟩
   intro c3
   replace h:=X9 c3 h
   refine M3 R R R (B5 R (eN (A9 R (E5 (A3 R (eN ?_))))))
   exact .inl ⟨7,h,.prn [1,2,3,4,5,6] R⟩
  intro c2
  replace h:=J0 c2 h
  refine A0 R (H7 8 R (C4 R (eN (A5 R (C0 (A1 ?_))))))
  exact .inl ⟨rv,h,.prn [1,2,3,4,5,6] R⟩
 intro c
 replace h:=J0 (nL c) h
 refine eN (A5 R (I4 (C8 (C8 ?_))))
 subst hK4
 refine F3 (A1 (qG (A3 R (A3 R (eN (C9 ?_))))))
 obtain rfl:=sI h
 exact Q2 (t := .d (.tup [vI 0,vI 0])) R R R (.cons (.tmp 2) (.cons (.tmp 3) .nil))
def A0S (F:Nat) (e2:C6) (K:Int→Option Int):Nat→Int→Option Int
 | 0,_=>none
 | n+1,x2=>if x2<(e2.keys.length:Int)then((P7 e2.keys x2).bind fun e4=>(P7 e2.keys (W (x2-1))).bind fun e5=>if e4≤e5 then(some 2)else(A0S F e2 K n (W (x2+1))))else(K x2)
def A12 (F:Nat) (t:B0) (e2:C6) (K:Int→Option Int):Nat→Int→Option Int
 | 0,_=>none
 | n+1,x=>if x<(e2.keys.length:Int)then((P7 e2.keys x).bind fun e3=>(A10 F e3 0 (W ((t.keys.length:Int)-1))).bind fun rv6=>if rv6=true then(A12 F t e2 K n (W (x+1)))else(some 4))else(K x)
def A2k (F:Nat) (t:B0) (e2:C6):Option Int:=if(e2.keys.length:Int)=0 then(some 4)else(A12 F t e2 (fun(x:Int)=>A0S F e2 (fun(x2:Int)=>some 0) F 1) F 0)
def X5 (F:Nat) :Option Int:=some 7
def A13 (F:Nat) (t:B0) (o:Int) (K:(List ByteArray)→Int→Option Int):Nat→(List ByteArray)→Int→Option Int
 | 0,_,_=>none
 | n+1,a,y=>if y<o then((P7 t.squibs y).bind fun e=>(A67 a [e.name]).bind fun q=>A13 F t o K n q (W (y+1)))else(K a y)
def A5Q (F:Nat) (t:B0) (o:Int):Option Int:=A13 F t o (fun(a:(List ByteArray)) (y:Int)=>(P7 t.squibs o).bind fun e2=>(A3D F e2.name a).bind fun rv=>if rv=0 then((A1L F e2.A0o).bind fun rv2=>if rv2=true then((A1L F e2.A0p).bind fun rv3=>if rv3=true then((A10 F e2.clear 0 10000000).bind fun rv4=>if rv4=true then((A2x F e2.grade).bind fun rv5=>if rv5=true then(A2k F t e2)else(X5 F))else(X5 F))else(X5 F))else(X5 F))else(some rv)) F ([]:List ByteArray) 0
theorem B15 {F:Nat} {t:B0} {o:Int} {r:Int} (h:A5Q F t o=some r):PC Tryz.prog 107 [B0.d t,.v (.int .i64 o)] (.v (.int .i64 r)):=by
 rw[A5Q]at h
 refine SC.of_sw Tryz.func107 R R R ?_
 dsimp only[M1,List.map]
 refine qG (M4 R (A3 R (eN (qG (A3 R (eN (B8 (qG (A3 R (eN (D0 ?_)))))))))))
 refine SW.own (ts':=[(1,.d (vI o)),(2,.ref 0 7 0 0),(4,.d (vI 0)),(5,.row 1 1 0 (([]:List ByteArray)).length),(6,.d (vI 0))]) (L':=[bx 7 (.d (B0.d t))]) 1 R R (.cons (.same _) (.cons (.same _) (.cons (.same _) (.cons .nil (.cons (.same _) .nil))))) (.same .nil) ?_
 simp only[List.cons_append,List.nil_append]
 obtain⟨K4,hK4,h⟩:∃ K,K=_∧A13 F t o K F ([]:List ByteArray) 0=some r:=⟨_,rfl,h⟩
 refine H6 (fun m st=>∃ (a:(List ByteArray)) (y:Int),A13 F t o K4 m a y=some r∧st=⟨[(1,.d (vI o)),(2,.ref 0 7 0 0),(4,.d (vI 0)),(5,.row 1 1 0 (a).length),(6,.d (vI y))],[bx 7 (.d (B0.d t)),A8z a]⟩) (.prn [1,2,4,5,6] R) ⟨([]:List ByteArray),0,h,R⟩ ?_
 clear h
 rintro m4 st ⟨a,y,h,rfl⟩
 cases m4 with
 | zero=>cases(show(none:Option Int)=some r from h)
 | succ m4 =>
 rw[A13]at h
 refine B8 (qG (A0 R (A0 R ?_)))
 refine G8 R R R R ?_ ?_
 ·intro c
  replace h:=H1 c h
  refine eN (A9 R (C0 (A1 (B8 (D0 (E5 (I1 R R R (C7 tb R (B7 (y := .arr 6 ((t.squibs).map C6.d)) tb R (A0 R ?_))))))))))
  obtain⟨e,ie,h⟩:=H0 h
  refine J9 tb (S0 ie) (P6 ie) R (M0 tb R (H9 (y := .v (.string e.name)) tb (Q6 (g:=C6.d) ie) R (R8 tb R R R R R R R R R R R R R ?_)))
  obtain⟨q,iq,h⟩:=H0 h
  refine A78 (g:=vS) (w:=a) (v:=[e.name]) ([bx 7 (.d (B0.d t)),none,A8z [e.name]]) tb R R R R R R R R R R R iq R R R R R (A0j R R R (L5 (C3 (A1 (E5 (A0 R (H4 R (A3 R (eN ?_)))))))))
  exact⟨m4,⟨[(1,.d (vI o)),(2,.ref 0 7 0 0),(4,.d (vI 0)),(5,.row 1 1 0 (q).length),(6,.d (vI (W (y+1))))],[bx 7 (.d (B0.d t)),A8z q]⟩,lS,.vw (κ:=[0,3]) (vK (.cons R R O7) R),q,(W (y+1)),h,R⟩
 intro c
 replace h:=J0 (nL c) h
 refine eN (A5 R (I4 (C8 (C8 ?_))))
 subst hK4
 refine F3 (A1 (qG (C7 tb R (B7 (y := .arr 6 ((t.squibs).map C6.d)) tb R (A0 R ?_)))))
 obtain⟨e2,ie2,h⟩:=H0 h
 refine J9 tb (S0 ie2) (P6 ie2) R (H9 (y:=C6.d e2) tb (Q6 (g:=C6.d) ie2) R (N0 tb R R R R R (I5 _ _ tb R (eN (qG (C7 tb R (B7 (y := .v (.string e2.name)) tb R (I1 R R R ?_))))))))
 obtain⟨rv,k,h⟩:=H0 h
 refine A2N (A5m k) R eK R R ((dL (.cons (.row R R) .nil))) R R (A3 R (eN (B8 (qG (A0 R ?_)))))
 refine T6 R R R R ?_ ?_
 ·intro c2
  replace h:=J0 c2 h
  refine eN (A9 R (qG (A0 R (A3 R (eN (C9 (B1 ?_)))))))
  obtain rfl:=sI h
  exact f1 4 R
 intro c2
 replace h:=H1 c2 h
 refine eN (A5 R (C0 (A1 (B8 ?_))))
 refine N3 (fun zz:Unit=>A2k F t e2=some r) (fun zz:Unit=>⟨[(2,.ref 0 7 0 0),(4,.d (vI 0)),(7,.ref 1 6 0 0)],[bx 7 (.d (B0.d t)),bx 6 (.d (C6.d e2))]⟩) ?_ ?_
 ·clear h
  rintro⟨⟩ h
  rw[A2k]at h
  refine B8 (qG (C7 tb R (B7 (y := .arr 1 ((e2.keys).map vI)) tb R (H3 tb R ?_))))
  refine Q0 R R R R ?_ ?_
  ·intro c7
   replace h:=H1 c7 h
   refine eN (A9 R (qG (A3 R (eN (C9 (B1 ?_))))))
   obtain rfl:=sI h
   exact f1 4 R
  intro c7
  replace h:=J0 c7 h
  refine eN (A5 R (C0 (A1 (B8 (qG (A3 R (eN (D0 ?_))))))))
  obtain⟨K7,hK7,h⟩:∃ K,K=_∧A12 F t e2 K F 0=some r:=⟨_,rfl,h⟩
  refine H6 (fun m st=>∃ (x:Int),A12 F t e2 K7 m x=some r∧st=⟨[(2,.ref 0 7 0 0),(4,.d (vI 0)),(7,.ref 1 6 0 0),(9,.d (vI x))],[bx 7 (.d (B0.d t)),bx 6 (.d (C6.d e2))]⟩) (.prn [2,4,7,9] R) ⟨0,h,R⟩ ?_
  clear h
  rintro m7 st ⟨x,h,rfl⟩
  cases m7 with
  | zero=>cases(show(none:Option Int)=some r from h)
  | succ m7 =>
  rw[A12]at h
  refine B8 (qG (A0 R (C7 tb R (B7 (y := .arr 1 ((e2.keys).map vI)) tb R (H3 tb R ?_)))))
  refine G8 R R R R ?_ ?_
  ·intro c8
   replace h:=H1 c8 h
   refine eN (A9 R (C0 (A1 (B8 (D0 (B8 (P5 kR (C7 tb R (B7 (y := .arr 1 ((e2.keys).map vI)) tb R (A0 R ?_))))))))))
   obtain⟨e3,ie3,h⟩:=H0 h
   refine J9 tb (S0 ie3) (P6 ie3) R (H9 (y:=vI e3) tb (Q6 (g:=vI) ie3) R (C7 tb R (B7 (y := .arr 1 ((t.keys).map vS)) tb R (H3 tb R (O6 R R R R ?_)))))
   obtain⟨rv6,k6,h⟩:=H0 h
   refine H8 (Y7 k6) eK R R R R ?_ ?_
   ·intro c9
    replace h:=H1 c9 h
    refine M2 R R R (F6 kR (A1 (A5 R (C0 (C3 (A1 (E5 (A0 R (H4 R (A3 R (eN ?_)))))))))))
    exact⟨m7,_,lS,.prn [2,4,7,9] R,(W (x+1)),h,R⟩
   intro c9
   replace h:=X9 c9 h
   refine M3 R R R (F6 kR (A1 (A9 R (qG (A3 R (eN (C9 (C5 (B1 (B1 (C5 (B1 ?_))))))))))))
   obtain rfl:=sI h
   exact f1 4 R
  intro c8
  replace h:=J0 (nL c8) h
  refine eN (A5 R (I4 (C8 (C8 ?_))))
  subst hK7
  refine F3 (A1 (B8 (qG (A3 R (eN (D0 ?_))))))
  obtain⟨K10,hK10,h⟩:∃ K,K=_∧A0S F e2 K F 1=some r:=⟨_,rfl,h⟩
  refine H6 (st0:=⟨[(4,.d (vI 0)),(7,.ref 0 6 0 0),(10,.d (vI 1))],[bx 6 (.d (C6.d e2))]⟩) (fun m st=>∃ (x2:Int),A0S F e2 K10 m x2=some r∧st=⟨[(4,.d (vI 0)),(7,.ref 0 6 0 0),(10,.d (vI x2))],[bx 6 (.d (C6.d e2))]⟩) (.vw (κ:=[1]) (vK (.cons R R .nil) R)) ⟨1,h,R⟩ ?_
  clear h
  rintro m10 st ⟨x2,h,rfl⟩
  cases m10 with
  | zero=>cases(show(none:Option Int)=some r from h)
  | succ m10 =>
  rw[A0S]at h
  refine B8 (qG (A0 R (C7 tb R (B7 (y := .arr 1 ((e2.keys).map vI)) tb R (H3 tb R ?_)))))
  refine G8 R R R R ?_ ?_
  ·intro c10
   replace h:=H1 c10 h
   refine eN (A9 R (C0 (A1 (B8 (D0 (B8 (P5 kR (C7 tb R (B7 (y := .arr 1 ((e2.keys).map vI)) tb R (A0 R ?_))))))))))
   obtain⟨e4,ie4,h⟩:=H0 h
   refine J9 tb (S0 ie4) (P6 ie4) R (H9 (y:=vI e4) tb (Q6 (g:=vI) ie4) R (C7 tb R (B7 (y := .arr 1 ((e2.keys).map vI)) tb R (A0 R (O6 R R R R ?_)))))
   obtain⟨e5,ie5,h⟩:=H0 h
   refine J9 tb (S0 ie5) (P6 ie5) R (H9 (y:=vI e5) tb (Q6 (g:=vI) ie5) R ?_)
   refine A7A R R R R ?_ ?_
   ·intro c11
    replace h:=H1 c11 h
    refine F6 kR (A1 (A9 R (qG (A3 R (eN (C9 (C5 (B1 (B1 (C5 (B1 ?_)))))))))))
    obtain rfl:=sI h
    exact f1 4 R
   intro c11
   replace h:=J0 (Int.not_le.2 c11) h
   refine F6 kR (A1 (A5 R (C0 (C3 (A1 (E5 (A0 R (H4 R (A3 R (eN ?_))))))))))
   exact⟨m10,_,lS,.prn [4,7,10] R,(W (x2+1)),h,R⟩
  intro c10
  replace h:=J0 (nL c10) h
  refine eN (A5 R (I4 (C8 (C8 ?_))))
  subst hK10
  refine F3 (A1 (qG (A3 R (eN (C9 ?_)))))
  obtain rfl:=sI h
  exact f1 4 R
 refine B8 ?_
 refine N3 (fun zz:Unit=>X5 F=some r) (fun zz:Unit=>⟨[(2,.ref 0 7 0 0),(4,.d (vI 0)),(7,.ref 1 6 0 0),(60,.d (.v (.bool true)))],[bx 7 (.d (B0.d t)),bx 6 (.d (C6.d e2))]⟩) ?_ ?_
 ·clear h
  rintro⟨⟩ h
  rw[X5]at h
  refine A9 R (qG (A3 R (eN (C9 (B1 ?_)))))
  obtain rfl:=sI h
  exact f1 4 R
 refine E5 (C7 tb R (C7 tb R (B7 (y:=vI e2.A0o) tb R ?_)))
 obtain⟨rv2,k2,h⟩:=H0 h
 refine H8 (A4v k2) eK R R R R ?_ ?_
 ·intro c3
  replace h:=H1 c3 h
  refine M2 R R R (A0 R (C7 tb R (C7 tb R (B7 (y:=vI e2.A0p) tb R ?_))))
  obtain⟨rv3,k3,h⟩:=H0 h
  refine H8 (A4v k3) eK R R R R ?_ ?_
  ·intro c4
   replace h:=H1 c4 h
   refine M2 R R R (C4 R (A0 R (C7 tb R (B7 (y:=vI e2.clear) tb R ?_))))
   obtain⟨rv4,k4,h⟩:=H0 h
   refine H8 (Y7 k4) eK R R R R ?_ ?_
   ·intro c5
    replace h:=H1 c5 h
    refine M2 R R R (C4 R (A0 R (C7 tb R (B7 (y:=vI e2.grade) tb R ?_))))
    obtain⟨rv5,k5,h⟩:=H0 h
    refine H8 (A5N k5) eK R R R R ?_ ?_
    ·intro c6
     replace h:=H1 c6 h
     refine M2 R R R (C4 R (eN (.inr (A5 R (C0 (A1 ?_))))))
     exact .inl ⟨(),h,.vw (κ:=[0,2]) (vK (.cons R R (.cons R R .nil)) R)⟩
    intro c6
    replace h:=X9 c6 h
    refine M3 R R R (C4 R (eN ?_))
    exact .inl ⟨(),h,.vw (κ:=[0,2]) (vK (.cons R R (.cons R R .nil)) R)⟩
   intro c5
   replace h:=X9 c5 h
   refine M3 R R R (C4 R (A0 R (H7 4 R (B5 R (eN ?_)))))
   exact .inl ⟨(),h,.vw (κ:=[0,2]) (vK (.cons R R (.cons R R .nil)) R)⟩
  intro c4
  replace h:=X9 c4 h
  refine M3 R R R (C4 R (A0 R (H7 4 R (B5 R (A0 R (H7 4 R (B5 R (eN ?_))))))))
  exact .inl ⟨(),h,.vw (κ:=[0,2]) (vK (.cons R R (.cons R R .nil)) R)⟩
 intro c3
 replace h:=X9 c3 h
 refine M3 R R R (A0 R (H7 5 R (B5 R (A0 R (H7 4 R (B5 R (A0 R (H7 4 R (B5 R (eN ?_))))))))))
 exact .inl ⟨(),h,.vw (κ:=[0,2]) (vK (.cons R R (.cons R R .nil)) R)⟩
def B07 (F:Nat) (s:A52) (nv:Int):Option Int:=some (max (max (W (s.lo-nv)) (W (nv-s.hi))) 0)
theorem A9O {F:Nat} {s:A52} {nv:Int} {r:Int} (h:B07 F s nv=some r):PC Tryz.prog 85 [A52.d s,.v (.int .i64 nv)] (.v (.int .i64 r)):=by
 rw[B07]at h
 refine SC.of_sw Tryz.func85 R R R ?_
 dsimp only[M1,List.map]
 refine qG (M4 R (A3 R (eN (qG (C7 tb R (B7 (y:=vI s.lo) tb R (A0 R (O6 R R R R (A0 R (C7 tb R (B7 (y:=vI s.hi) tb R (O6 R R R R (A4a R R R R R (A3 R (eN (C9 ?_))))))))))))))))
 obtain rfl:=sI h
 exact f1 4 R
def A5n (F:Nat) (p:B0) (zone:Int) (squib:Int):Option Bool:=(P7 p.zones zone).bind fun e=>(P7 p.squibs squib).bind fun e2=>(B07 F (A52.mk e.F8 e.F7) e2.A0o).bind fun rv=>(B07 F (A52.mk e.G0 e.F9) e2.A0p).bind fun rv2=>some (decide ((W ((W (rv*rv))+(W (rv2*rv2))))<(W (e2.clear*e2.clear))))
theorem A7a {F:Nat} {p:B0} {zone:Int} {squib:Int} {r:Bool} (h:A5n F p zone squib=some r):PC Tryz.prog 48 [B0.d p,.v (.int .i64 zone),.v (.int .i64 squib)] (.v (.bool r)):=by
 rw[A5n]at h
 refine SC.of_sw Tryz.func48 R R R ?_
 dsimp only[M1,List.map]
 refine qG (M4 R (A3 R (eN (B8 (P5 kR (C7 tb R (B7 (y := .arr 8 ((p.zones).map E9.d)) tb R (A0 R ?_))))))))
 obtain⟨e,ie,h⟩:=H0 h
 refine J9 tb (S0 ie) (P6 ie) R (M0 tb R (H9 (y := .agg [vI e.F8,vI e.F7,vI e.G0,vI e.F9]) tb (Q6 (g:=E9.d) ie) R (C7 tb R (B7 (y := .arr 6 ((p.squibs).map C6.d)) tb R (A0 R ?_)))))
 obtain⟨e2,ie2,h⟩:=H0 h
 refine J9 tb (S0 ie2) (P6 ie2) R (H9 (y:=C6.d e2) tb (Q6 (g:=C6.d) ie2) R (N0 tb R R R R R (N0 tb R R R R R (I5 _ _ tb R (I5 _ _ tb R (F6 kR (A1 (B8 (P5 kR (C7 tb R (B7 (y := .agg [vI e.F8,vI e.F7]) tb R (C7 tb R (C7 tb R (B7 (y:=vI e2.A0o) tb R ?_))))))))))))))
 obtain⟨rv,k,h⟩:=H0 h
 refine N5 (A9O k) eK R R R R (C7 tb R (B7 (y := .agg [vI e.G0,vI e.F9]) tb R (C7 tb R (C7 tb R (B7 (y:=vI e2.A0p) tb R ?_)))))
 obtain⟨rv2,k2,h⟩:=H0 h
 refine N5 (A9O k2) eK R R R R (A3 R (A3 R (F6 kR (A1 (qG (A0 R (A0 R (A0L R R R R (A0 R (A0 R (A0L R R R R (H4 R (C7 tb R (B7 (y:=vI e2.clear) tb R (C7 tb R (B7 (y:=vI e2.clear) tb R (A0L R R R R (B48 R R R R (A3 R (eN (C9 ?_)))))))))))))))))))))
 obtain rfl:=sI h
 exact f1 6 R
def A0R (F:Nat) (t:B0) (K:Int→Option (Int × Int × Int)):Nat→Int→Option (Int × Int × Int)
 | 0,_=>none
 | n+1,x3=>if x3<(t.squibs.length:Int)then((A5n F t t.panel x3).bind fun rv8=>if rv8=true then(some (7,0,2))else(A0R F t K n (W (x3+1))))else(K x3)
def A1w (F:Nat) (t:B0) (K:Int→Option (Int × Int × Int)):Nat→Int→Option (Int × Int × Int)
 | 0,_=>none
 | n+1,x2=>if x2<(t.squibs.length:Int)then((A5Q F t x2).bind fun rv6=>if rv6=0 then(A1w F t K n (W (x2+1)))else(some (6,x2,rv6)))else(K x2)
def A1x (F:Nat) (t:B0) (K:Int→Option (Int × Int × Int)):Nat→Int→Option (Int × Int × Int)
 | 0,_=>none
 | n+1,x=>if x<(t.keys.length:Int)then((P7 t.keys x).bind fun e=>(A91 t.keys 0 x).bind fun q=>(A3D F e q).bind fun rv5=>if rv5=0 then(A1x F t K n (W (x+1)))else(some (5,x,rv5)))else(K x)
def A3f (F:Nat) (t:B0):Option (Int × Int × Int):=(A5R F t).bind fun rv2=>if rv2.2=0 then((A5M F t).bind fun rv3=>if rv3.2=0 then((A4L F t).bind fun rv4=>if rv4.2=0 then(A1x F t (fun(x:Int)=>A1w F t (fun(x2:Int)=>(A3E F t t.panel).bind fun rv7=>if rv7=true then(A0R F t (fun(x3:Int)=>(A10 F t.wait 0 6000).bind fun rv9=>if rv9=true then(some (0,0,0))else(some (7,0,7))) F 0)else(some (7,0,4))) F 0) F 0)else(some (4,rv4.1,rv4.2)))else(some (3,rv3.1,rv3.2)))else(some (2,rv2.1,rv2.2))
def A0Q (F:Nat) :Option (Int × Int × Int):=some (1,0,3)
def A5L (F:Nat) (t:B0):Option (Int × Int × Int):=(A10 F (t.zones.length:Int) 1 8).bind fun rv=>if rv=true then(if 24<(t.doors.length:Int)then(A0Q F)else(if 8<(t.people.length:Int)then(A0Q F)else(if 8<(t.keys.length:Int)then(A0Q F)else(if 6<(t.squibs.length:Int)then(A0Q F)else(A3f F t)))))else(A0Q F)
theorem B1w {F:Nat} {t:B0} {r:(Int × Int × Int)} (h:A5L F t=some r):PC Tryz.prog 80 [B0.d t] (.tup [.v (.int .i64 r.1),.v (.int .i64 r.2.1),.v (.int .i64 r.2.2)]):=by
 rw[A5L]at h
 refine SC.of_sw Tryz.func80 R R R ?_
 dsimp only[M1,List.map]
 refine qG (M4 R (A3 R (A3 R (A3 R (eN (B8 ?_))))))
 refine N3 (fun zz:Unit=>A3f F t=some r) (fun zz:Unit=>⟨[(1,.ref 0 7 0 0),(2,.d (vI 0)),(3,.d (vI 0)),(4,.d (vI 0))],[bx 7 (.d (B0.d t))]⟩) ?_ ?_
 ·clear h
  rintro⟨⟩ h
  rw[A3f]at h
  refine qG (B7 (y:=B0.d t) tb R ?_)
  obtain⟨rv2,k2,h⟩:=H0 h
  refine N5 (B17 k2) eK R R R R (A0 R (S3 (t:=vI rv2.1) R R R R (S3 (t:=vI rv2.2) R R R R (A3 R (A3 R (eN (B8 (qG (A0 R ?_)))))))))
  refine T6 R R R R ?_ ?_
  ·intro c6
   replace h:=J0 c6 h
   refine eN (A9 R (qG (A0 R (A0 R (A3 R (A3 R (A3 R (eN (C9 (B1 ?_))))))))))
   obtain rfl:=sI h
   exact Q2 (t := .d (.tup [vI 2,vI rv2.1,vI rv2.2])) R R R (.cons (.tmp 2) (.cons (.tmp 3) (.cons (.tmp 4) .nil)))
  intro c6
  replace h:=H1 c6 h
  refine eN (A5 R (C0 (A1 (qG (B7 (y:=B0.d t) tb R ?_)))))
  obtain⟨rv3,k3,h⟩:=H0 h
  refine N5 (B1y k3) eK R R R R (A0 R (S3 (t:=vI rv3.1) R R R R (S3 (t:=vI rv3.2) R R R R (A3 R (A3 R (eN (B8 (qG (A0 R ?_)))))))))
  refine T6 R R R R ?_ ?_
  ·intro c7
   replace h:=J0 c7 h
   refine eN (A9 R (qG (A0 R (A0 R (A3 R (A3 R (A3 R (eN (C9 (B1 ?_))))))))))
   obtain rfl:=sI h
   exact Q2 (t := .d (.tup [vI 3,vI rv3.1,vI rv3.2])) R R R (.cons (.tmp 2) (.cons (.tmp 3) (.cons (.tmp 4) .nil)))
  intro c7
  replace h:=H1 c7 h
  refine eN (A5 R (C0 (A1 (qG (B7 (y:=B0.d t) tb R ?_)))))
  obtain⟨rv4,k4,h⟩:=H0 h
  refine N5 (B09 k4) eK R R R R (A0 R (S3 (t:=vI rv4.1) R R R R (S3 (t:=vI rv4.2) R R R R (A3 R (A3 R (eN (B8 (qG (A0 R ?_)))))))))
  refine T6 R R R R ?_ ?_
  ·intro c8
   replace h:=J0 c8 h
   refine eN (A9 R (qG (A0 R (A0 R (A3 R (A3 R (A3 R (eN (C9 (B1 ?_))))))))))
   obtain rfl:=sI h
   exact Q2 (t := .d (.tup [vI 4,vI rv4.1,vI rv4.2])) R R R (.cons (.tmp 2) (.cons (.tmp 3) (.cons (.tmp 4) .nil)))
  intro c8
  replace h:=H1 c8 h
  refine eN (A5 R (C0 (A1 (B8 (qG (A3 R (eN (D0 ?_))))))))
  obtain⟨K3,hK3,h⟩:∃ K,K=_∧A1x F t K F 0=some r:=⟨_,rfl,h⟩
  refine H6 (fun m st=>∃ (x:Int),A1x F t K3 m x=some r∧st=⟨[(1,.ref 0 7 0 0),(2,.d (vI 0)),(3,.d (vI 0)),(4,.d (vI 0)),(7,.d (vI x))],[bx 7 (.d (B0.d t))]⟩) (.prn [1,2,3,4,7] R) ⟨0,h,R⟩ ?_
  clear h
  rintro m3 st ⟨x,h,rfl⟩
  cases m3 with
  | zero=>cases(show(none:Option (Int × Int × Int))=some r from h)
  | succ m3 =>
  rw[A1x]at h
  refine B8 (qG (A0 R (C7 tb R (B7 (y := .arr 1 ((t.keys).map vS)) tb R (H3 tb R ?_)))))
  refine G8 R R R R ?_ ?_
  ·intro c9
   replace h:=H1 c9 h
   refine eN (A9 R (C0 (A1 (B8 (D0 (B8 (P5 kR (C7 tb R (B7 (y := .arr 1 ((t.keys).map vS)) tb R (A0 R ?_))))))))))
   obtain⟨e,ie,h⟩:=H0 h
   refine J9 tb (S0 ie) (P6 ie) R (H9 (y := .v (.string e)) tb (Q6 (g:=vS) ie) R (C7 tb R (B7 (y := .arr 1 ((t.keys).map vS)) tb R (A0 R ?_))))
   obtain⟨q,iq,h⟩:=H0 h
   refine B4E tb R R R R R R iq R R ?_
   obtain⟨rv5,k5,h⟩:=H0 h
   refine N5 (A5m k5) eK R R R R (A3 R (F6 kR (A1 (qG (A0 R ?_)))))
   refine T6 R R R R ?_ ?_
   ·intro c10
    replace h:=J0 c10 h
    refine eN (A9 R (qG (A0 R (A0 R (A3 R (A3 R (A3 R (eN (C9 (C5 (B1 (B1 (C5 (B1 ?_))))))))))))))
    obtain rfl:=sI h
    exact Q2 (t := .d (.tup [vI 5,vI x,vI rv5])) R R R (.cons (.tmp 2) (.cons (.tmp 3) (.cons (.tmp 4) .nil)))
   intro c10
   replace h:=H1 c10 h
   refine eN (A5 R (C0 (C3 (A1 (E5 (A0 R (H4 R (A3 R (eN ?_)))))))))
   exact⟨m3,_,lS,.prn [1,2,3,4,7] R,(W (x+1)),h,R⟩
  intro c9
  replace h:=J0 (nL c9) h
  refine eN (A5 R (I4 (C8 (C8 ?_))))
  subst hK3
  refine F3 (A1 (B8 (qG (A3 R (eN (D0 ?_))))))
  obtain⟨K6,hK6,h⟩:∃ K,K=_∧A1w F t K F 0=some r:=⟨_,rfl,h⟩
  refine H6 (fun m st=>∃ (x2:Int),A1w F t K6 m x2=some r∧st=⟨[(1,.ref 0 7 0 0),(2,.d (vI 0)),(3,.d (vI 0)),(4,.d (vI 0)),(9,.d (vI x2))],[bx 7 (.d (B0.d t))]⟩) (.prn [1,2,3,4,9] R) ⟨0,h,R⟩ ?_
  clear h
  rintro m6 st ⟨x2,h,rfl⟩
  cases m6 with
  | zero=>cases(show(none:Option (Int × Int × Int))=some r from h)
  | succ m6 =>
  rw[A1w]at h
  refine B8 (qG (A0 R (C7 tb R (B7 (y := .arr 6 ((t.squibs).map C6.d)) tb R (H3 tb R ?_)))))
  refine G8 R R R R ?_ ?_
  ·intro c11
   replace h:=H1 c11 h
   refine eN (A9 R (C0 (A1 (B8 (D0 (qG (B7 (y:=B0.d t) tb R (A0 R ?_))))))))
   obtain⟨rv6,k6,h⟩:=H0 h
   refine N5 (B15 k6) eK R R R R (A3 R (eN (qG (A0 R ?_))))
   refine T6 R R R R ?_ ?_
   ·intro c12
    replace h:=J0 c12 h
    refine eN (A9 R (qG (A0 R (A0 R (A3 R (A3 R (A3 R (eN (C9 (C5 (B1 (B1 (C5 (B1 ?_))))))))))))))
    obtain rfl:=sI h
    exact Q2 (t := .d (.tup [vI 6,vI x2,vI rv6])) R R R (.cons (.tmp 2) (.cons (.tmp 3) (.cons (.tmp 4) .nil)))
   intro c12
   replace h:=H1 c12 h
   refine eN (A5 R (C0 (C3 (A1 (E5 (A0 R (H4 R (A3 R (eN ?_)))))))))
   exact⟨m6,_,lS,.prn [1,2,3,4,9] R,(W (x2+1)),h,R⟩
  intro c11
  replace h:=J0 (nL c11) h
  refine eN (A5 R (I4 (C8 (C8 ?_))))
  subst hK6
  refine F3 (A1 (B8 (qG (B7 (y:=B0.d t) tb R (C7 tb R (B7 (y:=vI t.panel) tb R ?_))))))
  obtain⟨rv7,k7,h⟩:=H0 h
  refine H8 (A5o k7) eK R R R R ?_ ?_
  ·intro c13
   replace h:=H1 c13 h
   refine M2 R R R (eN (A5 R (C0 (A1 (B8 (qG (A3 R (eN (D0 ?_)))))))))
   obtain⟨K9,hK9,h⟩:∃ K,K=_∧A0R F t K F 0=some r:=⟨_,rfl,h⟩
   refine H6 (fun m st=>∃ (x3:Int),A0R F t K9 m x3=some r∧st=⟨[(1,.ref 0 7 0 0),(2,.d (vI 0)),(3,.d (vI 0)),(4,.d (vI 0)),(11,.d (vI x3))],[bx 7 (.d (B0.d t))]⟩) (.prn [1,2,3,4,11] R) ⟨0,h,R⟩ ?_
   clear h
   rintro m9 st ⟨x3,h,rfl⟩
   cases m9 with
   | zero=>cases(show(none:Option (Int × Int × Int))=some r from h)
   | succ m9 =>
   rw[A0R]at h
   refine B8 (qG (A0 R (C7 tb R (B7 (y := .arr 6 ((t.squibs).map C6.d)) tb R (H3 tb R ?_)))))
   refine G8 R R R R ?_ ?_
   ·intro c14
    replace h:=H1 c14 h
    refine eN (A9 R (C0 (A1 (B8 (D0 (qG (B7 (y:=B0.d t) tb R (C7 tb R (B7 (y:=vI t.panel) tb R (A0 R ?_))))))))))
    obtain⟨rv8,k8,h⟩:=H0 h
    refine H8 (A7a k8) eK R R R R ?_ ?_
    ·intro c15
     replace h:=H1 c15 h
     refine eN (A9 R (qG (A3 R (A3 R (A3 R (eN (C9 (C5 (B1 (B1 (C5 (B1 ?_))))))))))))
     obtain rfl:=sI h
     exact Q2 (t := .d (.tup [vI 7,vI 0,vI 2])) R R R (.cons (.tmp 2) (.cons (.tmp 3) (.cons (.tmp 4) .nil)))
    intro c15
    replace h:=X9 c15 h
    refine eN (A5 R (C0 (C3 (A1 (E5 (A0 R (H4 R (A3 R (eN ?_)))))))))
    exact⟨m9,_,lS,.prn [1,2,3,4,11] R,(W (x3+1)),h,R⟩
   intro c14
   replace h:=J0 (nL c14) h
   refine eN (A5 R (I4 (C8 (C8 ?_))))
   subst hK9
   refine F3 (A1 (B8 (qG (C7 tb R (B7 (y:=vI t.wait) tb R ?_)))))
   obtain⟨rv9,k9,h⟩:=H0 h
   refine H8 (Y7 k9) eK R R R R ?_ ?_
   ·intro c16
    replace h:=H1 c16 h
    refine M2 R R R (eN (A5 R (C0 (A1 (qG (A3 R (A3 R (A3 R (eN (C9 ?_))))))))))
    obtain rfl:=sI h
    exact Q2 (t := .d (.tup [vI 0,vI 0,vI 0])) R R R (.cons (.tmp 2) (.cons (.tmp 3) (.cons (.tmp 4) .nil)))
   intro c16
   replace h:=X9 c16 h
   refine M3 R R R (eN (A9 R (qG (A3 R (A3 R (A3 R (eN (C9 (B1 ?_)))))))))
   obtain rfl:=sI h
   exact Q2 (t := .d (.tup [vI 7,vI 0,vI 7])) R R R (.cons (.tmp 2) (.cons (.tmp 3) (.cons (.tmp 4) .nil)))
  intro c13
  replace h:=X9 c13 h
  refine M3 R R R (eN (A9 R (qG (A3 R (A3 R (A3 R (eN (C9 (B1 ?_)))))))))
  obtain rfl:=sI h
  exact Q2 (t := .d (.tup [vI 7,vI 0,vI 4])) R R R (.cons (.tmp 2) (.cons (.tmp 3) (.cons (.tmp 4) .nil)))
 refine B8 ?_
 refine N3 (fun zz:Unit=>A0Q F=some r) (fun zz:Unit=>⟨[(1,.ref 0 7 0 0),(2,.d (vI 0)),(3,.d (vI 0)),(4,.d (vI 0)),(40,.d (.v (.bool true)))],[bx 7 (.d (B0.d t))]⟩) ?_ ?_
 ·clear h
  rintro⟨⟩ h
  rw[A0Q]at h
  refine A9 R (qG (A3 R (A3 R (A3 R (eN (C9 (B1 ?_)))))))
  obtain rfl:=sI h
  exact Q2 (t := .d (.tup [vI 1,vI 0,vI 3])) R R R (.cons (.tmp 2) (.cons (.tmp 3) (.cons (.tmp 4) .nil)))
 refine E5 (C7 tb R (B7 (y := .arr 8 ((t.zones).map E9.d)) tb R (H3 tb R ?_)))
 obtain⟨rv,k,h⟩:=H0 h
 refine H8 (Y7 k) eK R R R R ?_ ?_
 ·intro c
  replace h:=H1 c h
  refine M2 R R R (A0 R (C7 tb R (B7 (y := .arr 2 ((t.doors).map I0.d)) tb R (H3 tb R ?_))))
  refine A1D R R R R ?_ ?_
  ·intro c2
   replace h:=H1 c2 h
   refine C4 R (A0 R (H7 4 R (B5 R (A0 R (H7 4 R (B5 R (A0 R (H7 4 R (B5 R (eN ?_))))))))))
   exact .inl ⟨(),h,.prn [1,2,3,4,40] R⟩
  intro c2
  replace h:=J0 (nL c2) h
  refine C4 R (A0 R (C7 tb R (B7 (y := .arr 2 ((t.people).map E3.d)) tb R (H3 tb R ?_))))
  refine A1D R R R R ?_ ?_
  ·intro c3
   replace h:=H1 c3 h
   refine C4 R (A0 R (H7 4 R (B5 R (A0 R (H7 4 R (B5 R (eN ?_)))))))
   exact .inl ⟨(),h,.prn [1,2,3,4,40] R⟩
  intro c3
  replace h:=J0 (nL c3) h
  refine C4 R (A0 R (C7 tb R (B7 (y := .arr 1 ((t.keys).map vS)) tb R (H3 tb R ?_))))
  refine A1D R R R R ?_ ?_
  ·intro c4
   replace h:=H1 c4 h
   refine C4 R (A0 R (H7 4 R (B5 R (eN ?_))))
   exact .inl ⟨(),h,.prn [1,2,3,4,40] R⟩
  intro c4
  replace h:=J0 (nL c4) h
  refine C4 R (A0 R (C7 tb R (B7 (y := .arr 6 ((t.squibs).map C6.d)) tb R (H3 tb R ?_))))
  refine A1D R R R R ?_ ?_
  ·intro c5
   replace h:=H1 c5 h
   refine C4 R (eN ?_)
   exact .inl ⟨(),h,.prn [1,2,3,4,40] R⟩
  intro c5
  replace h:=J0 (nL c5) h
  refine C4 R (eN (.inr (A5 R (C0 (A1 ?_)))))
  exact .inl ⟨(),h,.prn [1,2,3,4] R⟩
 intro c
 replace h:=X9 c h
 refine M3 R R R (A0 R (H7 4 R (B5 R (A0 R (H7 4 R (B5 R (A0 R (H7 4 R (B5 R (A0 R (H7 4 R (B5 R (eN ?_)))))))))))))
 exact .inl ⟨(),h,.prn [1,2,3,4,40] R⟩
def A4M (F:Nat) (p:B0):Option Int:=(A5L F p).bind fun rv=>some rv.2.2
theorem A8m {F:Nat} {p:B0} {r:Int} (h:A4M F p=some r):PC Tryz.prog 42 [B0.d p] (.v (.int .i64 r)):=by
 rw[A4M]at h
 refine SC.of_sw Tryz.func42 R R R ?_
 dsimp only[M1,List.map]
 refine qG (M4 R (A3 R (eN (qG (B7 (y:=B0.d p) tb R ?_)))))
 obtain⟨rv,k,h⟩:=H0 h
 refine N5 (B1w k) eK R R R R (A0 R (S3 (t:=vI rv.1) R R R R (S3 (t:=vI rv.2.1) R R R R (S3 (t:=vI rv.2.2) R R R R (A3 R (A3 R (A3 R (eN (qG (A0 R (A3 R (eN (C9 ?_)))))))))))))
 obtain rfl:=sI h
 exact f1 2 R
def S8 (F:Nat) (o:A6) (K:Bool→Int→Option Bool):Nat→Bool→Int→Option Bool
 | 0,_,_=>none
 | n+1,a3,x2=>if x2<(o.squibs.length:Int)then(if a3=true then((P7 o.squibs x2).bind fun e3=>(A10 F e3 0 2).bind fun rv5=>if rv5=true then(S8 F o K n true (W (x2+1)))else(S8 F o K n false (W (x2+1))))else(S8 F o K n false (W (x2+1))))else(K a3 x2)
def T9 (F:Nat) (t:B0) (o:A6) (K:Bool→Int→Option Bool):Nat→Bool→Int→Option Bool
 | 0,_,_=>none
 | n+1,a2,x=>if x<(o.holder.length:Int)then(if a2=true then((P7 o.holder x).bind fun e2=>(A10 F e2 (-1) (W ((t.people.length:Int)-1))).bind fun rv4=>if rv4=true then(T9 F t o K n true (W (x+1)))else(T9 F t o K n false (W (x+1))))else(T9 F t o K n false (W (x+1))))else(K a2 x)
def U6 (F:Nat) (t:B0) (o:A6) (K:Bool→Int→Option Bool):Nat→Bool→Int→Option Bool
 | 0,_,_=>none
 | n+1,a,y=>if y<(o.zones.length:Int)then(if a=true then((P7 o.zones y).bind fun e=>(A10 F e (-1) (W ((t.zones.length:Int)-1))).bind fun rv3=>if rv3=true then(U6 F t o K n true (W (y+1)))else(U6 F t o K n false (W (y+1))))else(U6 F t o K n false (W (y+1))))else(K a y)
def U0 (F:Nat) (o:A6) (K:Bool→Int→Option Bool):Nat→Bool→Int→Option Bool
 | 0,_,_=>none
 | n+1,a6,x4=>if x4<(o.squibs.length:Int)then(if a6=true then((P7 o.squibs x4).bind fun e6=>(A10 F e6 0 2).bind fun rv8=>if rv8=true then(U0 F o K n true (W (x4+1)))else(U0 F o K n false (W (x4+1))))else(U0 F o K n false (W (x4+1))))else(K a6 x4)
def U7 (F:Nat) (t:B0) (o:A6) (K:Bool→Int→Option Bool):Nat→Bool→Int→Option Bool
 | 0,_,_=>none
 | n+1,a5,x3=>if x3<(o.holder.length:Int)then(if a5=true then((P7 o.holder x3).bind fun e5=>(A10 F e5 (-1) (W ((t.people.length:Int)-1))).bind fun rv7=>if rv7=true then(U7 F t o K n true (W (x3+1)))else(U7 F t o K n false (W (x3+1))))else(U7 F t o K n false (W (x3+1))))else(K a5 x3)
def W4 (F:Nat) (t:B0) (o:A6) (K:Bool→Int→Option Bool):Nat→Bool→Int→Option Bool
 | 0,_,_=>none
 | n+1,a4,y2=>if y2<(o.zones.length:Int)then(if a4=true then((P7 o.zones y2).bind fun e4=>(A10 F e4 (-1) (W ((t.zones.length:Int)-1))).bind fun rv6=>if rv6=true then(W4 F t o K n true (W (y2+1)))else(W4 F t o K n false (W (y2+1))))else(W4 F t o K n false (W (y2+1))))else(K a4 y2)
def Z4 (F:Nat) (t:B0) (o:A6):Option Bool:=W4 F t o (fun(a4:Bool) (y2:Int)=>U7 F t o (fun(a5:Bool) (x3:Int)=>U0 F o (fun(a6:Bool) (x4:Int)=>some a6) F a5 0) F a4 0) F false 0
def A3K (F:Nat) (t:B0) (o:A6):Option Bool:=(A10 F o.now 0 100000).bind fun rv=>if rv=true then((A10 F o.siren (-1) o.now).bind fun rv2=>if rv2=true then(if(o.zones.length:Int)=(t.people.length:Int)then(if(o.holder.length:Int)=(t.keys.length:Int)then(if(o.squibs.length:Int)=(t.squibs.length:Int)then(U6 F t o (fun(a:Bool) (y:Int)=>T9 F t o (fun(a2:Bool) (x:Int)=>S8 F o (fun(a3:Bool) (x2:Int)=>some a3) F a2 0) F a 0) F true 0)else(Z4 F t o))else(Z4 F t o))else(Z4 F t o))else(Z4 F t o))else(Z4 F t o)
theorem A77 {F:Nat} {t:B0} {o:A6} {r:Bool} (h:A3K F t o=some r):PC Tryz.prog 43 [B0.d t,A6.d o] (.v (.bool r)):=by
 rw[A3K]at h
 refine SC.of_sw Tryz.func43 R R R ?_
 dsimp only[M1,List.map]
 refine qG (M4 R (M4 R (A3 R (eN (B8 ?_)))))
 refine N3 (fun zz:Unit=>Z4 F t o=some r) (fun zz:Unit=>⟨[(2,.ref 0 7 0 0),(3,.ref 1 6 0 0),(4,.d (.v (.bool false))),(5,.d (.v (.bool false)))],[bx 7 (.d (B0.d t)),bx 6 (.d (A6.d o))]⟩) ?_ ?_
 ·clear h
  rintro⟨⟩ h
  rw[Z4]at h
  refine B8 (qG (A3 R (eN (D0 ?_))))
  obtain⟨K12,hK12,h⟩:∃ K,K=_∧W4 F t o K F false 0=some r:=⟨_,rfl,h⟩
  refine H6 (fun m st=>∃ (a4:Bool) (y2:Int),W4 F t o K12 m a4 y2=some r∧st=⟨[(2,.ref 0 7 0 0),(3,.ref 1 6 0 0),(4,.d (.v (.bool false))),(5,.d (.v (.bool a4))),(6,.d (vI y2))],[bx 7 (.d (B0.d t)),bx 6 (.d (A6.d o))]⟩) (.prn [2,3,4,5,6] R) ⟨false,0,h,R⟩ ?_
  clear h
  rintro m12 st ⟨a4,y2,h,rfl⟩
  cases m12 with
  | zero=>cases(show(none:Option Bool)=some r from h)
  | succ m12 =>
  rw[W4]at h
  refine B8 (qG (A0 R (C7 tb R (B7 (y := .arr 1 ((o.zones).map vI)) tb R (H3 tb R ?_)))))
  refine G8 R R R R ?_ ?_
  ·intro c15
   replace h:=H1 c15 h
   refine eN (A9 R (C0 (A1 (B8 (D0 (P5 kR (A0 R ?_)))))))
   with_reducible apply Y9
   ·intro c16
    replace h:=H1 c16 h
    refine A0 R (C7 tb R (B7 (y := .arr 1 ((o.zones).map vI)) tb R (A0 R ?_)))
    obtain⟨e4,ie4,h⟩:=H0 h
    refine J9 tb (S0 ie4) (P6 ie4) R (H9 (y:=vI e4) tb (Q6 (g:=vI) ie4) R (C7 tb R (B7 (y := .arr 8 ((t.zones).map E9.d)) tb R (H3 tb R (O6 R R R R ?_)))))
    obtain⟨rv6,k6,h⟩:=H0 h
    refine H8 (Y7 k6) eK R R R R ?_ ?_
    ·intro c17
     replace h:=H1 c17 h
     refine B5 R (A3 R (F6 kR (C3 (A1 (E5 (A0 R (H4 R (A3 R (eN ?_)))))))))
     exact⟨m12,_,lS,.prn [2,3,4,5,6] R,true,(W (y2+1)),h,R⟩
    intro c17
    replace h:=X9 c17 h
    refine B5 R (A3 R (F6 kR (C3 (A1 (E5 (A0 R (H4 R (A3 R (eN ?_)))))))))
    exact⟨m12,_,lS,.prn [2,3,4,5,6] R,false,(W (y2+1)),h,R⟩
   intro c16
   replace h:=X9 c16 h
   refine A0 R (H7 10 R (C4 R (A3 R (F6 kR (C3 (A1 (E5 (A0 R (H4 R (A3 R (eN ?_)))))))))))
   exact⟨m12,_,lS,.prn [2,3,4,5,6] R,false,(W (y2+1)),h,R⟩
  intro c15
  replace h:=J0 (nL c15) h
  refine eN (A5 R (I4 (C8 (C8 ?_))))
  subst hK12
  refine F3 (A1 (B8 (qG (A3 R (eN (D0 ?_))))))
  obtain⟨K14,hK14,h⟩:∃ K,K=_∧U7 F t o K F a4 0=some r:=⟨_,rfl,h⟩
  refine H6 (fun m st=>∃ (a5:Bool) (x3:Int),U7 F t o K14 m a5 x3=some r∧st=⟨[(2,.ref 0 7 0 0),(3,.ref 1 6 0 0),(4,.d (.v (.bool false))),(5,.d (.v (.bool a5))),(7,.d (vI x3))],[bx 7 (.d (B0.d t)),bx 6 (.d (A6.d o))]⟩) (.prn [2,3,4,5,7] R) ⟨a4,0,h,R⟩ ?_
  clear h
  rintro m14 st ⟨a5,x3,h,rfl⟩
  cases m14 with
  | zero=>cases(show(none:Option Bool)=some r from h)
  | succ m14 =>
  rw[U7]at h
  refine B8 (qG (A0 R (C7 tb R (B7 (y := .arr 1 ((o.holder).map vI)) tb R (H3 tb R ?_)))))
  refine G8 R R R R ?_ ?_
  ·intro c18
   replace h:=H1 c18 h
   refine eN (A9 R (C0 (A1 (B8 (D0 (P5 kR (A0 R ?_)))))))
   with_reducible apply Y9
   ·intro c19
    replace h:=H1 c19 h
    refine A0 R (C7 tb R (B7 (y := .arr 1 ((o.holder).map vI)) tb R (A0 R ?_)))
    obtain⟨e5,ie5,h⟩:=H0 h
    refine J9 tb (S0 ie5) (P6 ie5) R (H9 (y:=vI e5) tb (Q6 (g:=vI) ie5) R (C7 tb R (B7 (y := .arr 2 ((t.people).map E3.d)) tb R (H3 tb R (O6 R R R R ?_)))))
    obtain⟨rv7,k7,h⟩:=H0 h
    refine H8 (Y7 k7) eK R R R R ?_ ?_
    ·intro c20
     replace h:=H1 c20 h
     refine B5 R (A3 R (F6 kR (C3 (A1 (E5 (A0 R (H4 R (A3 R (eN ?_)))))))))
     exact⟨m14,_,lS,.prn [2,3,4,5,7] R,true,(W (x3+1)),h,R⟩
    intro c20
    replace h:=X9 c20 h
    refine B5 R (A3 R (F6 kR (C3 (A1 (E5 (A0 R (H4 R (A3 R (eN ?_)))))))))
    exact⟨m14,_,lS,.prn [2,3,4,5,7] R,false,(W (x3+1)),h,R⟩
   intro c19
   replace h:=X9 c19 h
   refine A0 R (H7 10 R (C4 R (A3 R (F6 kR (C3 (A1 (E5 (A0 R (H4 R (A3 R (eN ?_)))))))))))
   exact⟨m14,_,lS,.prn [2,3,4,5,7] R,false,(W (x3+1)),h,R⟩
  intro c18
  replace h:=J0 (nL c18) h
  refine eN (A5 R (I4 (C8 (C8 ?_))))
  subst hK14
  refine F3 (A1 (B8 (qG (A3 R (eN (D0 ?_))))))
  obtain⟨K16,hK16,h⟩:∃ K,K=_∧U0 F o K F a5 0=some r:=⟨_,rfl,h⟩
  refine H6 (st0:=⟨[(3,.ref 0 6 0 0),(4,.d (.v (.bool false))),(5,.d (.v (.bool a5))),(8,.d (vI 0))],[bx 6 (.d (A6.d o))]⟩) (fun m st=>∃ (a6:Bool) (x4:Int),U0 F o K16 m a6 x4=some r∧st=⟨[(3,.ref 0 6 0 0),(4,.d (.v (.bool false))),(5,.d (.v (.bool a6))),(8,.d (vI x4))],[bx 6 (.d (A6.d o))]⟩) (.vw (κ:=[1]) (vK (.cons R R .nil) R)) ⟨a5,0,h,R⟩ ?_
  clear h
  rintro m16 st ⟨a6,x4,h,rfl⟩
  cases m16 with
  | zero=>cases(show(none:Option Bool)=some r from h)
  | succ m16 =>
  rw[U0]at h
  refine B8 (qG (A0 R (C7 tb R (B7 (y := .arr 1 ((o.squibs).map vI)) tb R (H3 tb R ?_)))))
  refine G8 R R R R ?_ ?_
  ·intro c21
   replace h:=H1 c21 h
   refine eN (A9 R (C0 (A1 (B8 (D0 (E5 (A0 R ?_)))))))
   with_reducible apply Y9
   ·intro c22
    replace h:=H1 c22 h
    refine A0 R (C7 tb R (B7 (y := .arr 1 ((o.squibs).map vI)) tb R (A0 R ?_)))
    obtain⟨e6,ie6,h⟩:=H0 h
    refine J9 tb (S0 ie6) (P6 ie6) R (H9 (y:=vI e6) tb (Q6 (g:=vI) ie6) R ?_)
    obtain⟨rv8,k8,h⟩:=H0 h
    refine H8 (Y7 k8) eK R R R R ?_ ?_
    ·intro c23
     replace h:=H1 c23 h
     refine B5 R (A3 R (L5 (C3 (A1 (E5 (A0 R (H4 R (A3 R (eN ?_)))))))))
     exact⟨m16,_,lS,.prn [3,4,5,8] R,true,(W (x4+1)),h,R⟩
    intro c23
    replace h:=X9 c23 h
    refine B5 R (A3 R (L5 (C3 (A1 (E5 (A0 R (H4 R (A3 R (eN ?_)))))))))
    exact⟨m16,_,lS,.prn [3,4,5,8] R,false,(W (x4+1)),h,R⟩
   intro c22
   replace h:=X9 c22 h
   refine A0 R (H7 6 R (C4 R (A3 R (L5 (C3 (A1 (E5 (A0 R (H4 R (A3 R (eN ?_)))))))))))
   exact⟨m16,_,lS,.prn [3,4,5,8] R,false,(W (x4+1)),h,R⟩
  intro c21
  replace h:=J0 (nL c21) h
  refine eN (A5 R (I4 (C8 (C8 ?_))))
  subst hK16
  refine F3 (A1 (qG (A0 R (A3 R (eN (C9 ?_))))))
  obtain rfl:=sI h
  exact f1 4 R
 refine E5 (C7 tb R (B7 (y:=vI o.now) tb R ?_))
 obtain⟨rv,k,h⟩:=H0 h
 refine H8 (Y7 k) eK R R R R ?_ ?_
 ·intro c
  replace h:=H1 c h
  refine A0 R (C7 tb R (B7 (y:=vI o.siren) tb R (C7 tb R (B7 (y:=vI o.now) tb R ?_))))
  obtain⟨rv2,k2,h⟩:=H0 h
  refine H8 (Y7 k2) eK R R R R ?_ ?_
  ·intro c2
   replace h:=H1 c2 h
   refine B5 R (A0 R (C7 tb R (B7 (y := .arr 1 ((o.zones).map vI)) tb R (H3 tb R (C7 tb R (B7 (y := .arr 2 ((t.people).map E3.d)) tb R (H3 tb R ?_)))))))
   refine Q0 R R R R ?_ ?_
   ·intro c3
    replace h:=H1 c3 h
    refine B5 R (A0 R (C7 tb R (B7 (y := .arr 1 ((o.holder).map vI)) tb R (H3 tb R (C7 tb R (B7 (y := .arr 1 ((t.keys).map vS)) tb R (H3 tb R ?_)))))))
    refine Q0 R R R R ?_ ?_
    ·intro c4
     replace h:=H1 c4 h
     refine B5 R (A0 R (C7 tb R (B7 (y := .arr 1 ((o.squibs).map vI)) tb R (H3 tb R (C7 tb R (B7 (y := .arr 6 ((t.squibs).map C6.d)) tb R (H3 tb R ?_)))))))
     refine Q0 R R R R ?_ ?_
     ·intro c5
      replace h:=H1 c5 h
      refine B5 R (A3 R (eN (.inr (B8 (qG (A3 R (eN (D0 ?_))))))))
      obtain⟨K18,hK18,h⟩:∃ K,K=_∧U6 F t o K F true 0=some r:=⟨_,rfl,h⟩
      refine H6 (fun m st=>∃ (a:Bool) (y:Int),U6 F t o K18 m a y=some r∧st=⟨[(2,.ref 0 7 0 0),(3,.ref 1 6 0 0),(4,.d (.v (.bool false))),(5,.d (.v (.bool a))),(6,.d (vI y))],[bx 7 (.d (B0.d t)),bx 6 (.d (A6.d o))]⟩) (.prn [2,3,4,5,6] R) ⟨true,0,h,R⟩ ?_
      clear h
      rintro m18 st ⟨a,y,h,rfl⟩
      cases m18 with
      | zero=>cases(show(none:Option Bool)=some r from h)
      | succ m18 =>
      rw[U6]at h
      refine B8 (qG (A0 R (C7 tb R (B7 (y := .arr 1 ((o.zones).map vI)) tb R (H3 tb R ?_)))))
      refine G8 R R R R ?_ ?_
      ·intro c6
       replace h:=H1 c6 h
       refine eN (A9 R (C0 (A1 (B8 (D0 (P5 kR (A0 R ?_)))))))
       with_reducible apply Y9
       ·intro c7
        replace h:=H1 c7 h
        refine A0 R (C7 tb R (B7 (y := .arr 1 ((o.zones).map vI)) tb R (A0 R ?_)))
        obtain⟨e,ie,h⟩:=H0 h
        refine J9 tb (S0 ie) (P6 ie) R (H9 (y:=vI e) tb (Q6 (g:=vI) ie) R (C7 tb R (B7 (y := .arr 8 ((t.zones).map E9.d)) tb R (H3 tb R (O6 R R R R ?_)))))
        obtain⟨rv3,k3,h⟩:=H0 h
        refine H8 (Y7 k3) eK R R R R ?_ ?_
        ·intro c8
         replace h:=H1 c8 h
         refine B5 R (A3 R (F6 kR (C3 (A1 (E5 (A0 R (H4 R (A3 R (eN ?_)))))))))
         exact⟨m18,_,lS,.prn [2,3,4,5,6] R,true,(W (y+1)),h,R⟩
        intro c8
        replace h:=X9 c8 h
        refine B5 R (A3 R (F6 kR (C3 (A1 (E5 (A0 R (H4 R (A3 R (eN ?_)))))))))
        exact⟨m18,_,lS,.prn [2,3,4,5,6] R,false,(W (y+1)),h,R⟩
       intro c7
       replace h:=X9 c7 h
       refine A0 R (H7 10 R (C4 R (A3 R (F6 kR (C3 (A1 (E5 (A0 R (H4 R (A3 R (eN ?_)))))))))))
       exact⟨m18,_,lS,.prn [2,3,4,5,6] R,false,(W (y+1)),h,R⟩
      intro c6
      replace h:=J0 (nL c6) h
      refine eN (A5 R (I4 (C8 (C8 ?_))))
      subst hK18
      refine F3 (A1 (B8 (qG (A3 R (eN (D0 ?_))))))
      obtain⟨K20,hK20,h⟩:∃ K,K=_∧T9 F t o K F a 0=some r:=⟨_,rfl,h⟩
      refine H6 (fun m st=>∃ (a2:Bool) (x:Int),T9 F t o K20 m a2 x=some r∧st=⟨[(2,.ref 0 7 0 0),(3,.ref 1 6 0 0),(4,.d (.v (.bool false))),(5,.d (.v (.bool a2))),(7,.d (vI x))],[bx 7 (.d (B0.d t)),bx 6 (.d (A6.d o))]⟩) (.prn [2,3,4,5,7] R) ⟨a,0,h,R⟩ ?_
      clear h
      rintro m20 st ⟨a2,x,h,rfl⟩
      cases m20 with
      | zero=>cases(show(none:Option Bool)=some r from h)
      | succ m20 =>
      rw[T9]at h
      refine B8 (qG (A0 R (C7 tb R (B7 (y := .arr 1 ((o.holder).map vI)) tb R (H3 tb R ?_)))))
      refine G8 R R R R ?_ ?_
      ·intro c9
       replace h:=H1 c9 h
       refine eN (A9 R (C0 (A1 (B8 (D0 (P5 kR (A0 R ?_)))))))
       with_reducible apply Y9
       ·intro c10
        replace h:=H1 c10 h
        refine A0 R (C7 tb R (B7 (y := .arr 1 ((o.holder).map vI)) tb R (A0 R ?_)))
        obtain⟨e2,ie2,h⟩:=H0 h
        refine J9 tb (S0 ie2) (P6 ie2) R (H9 (y:=vI e2) tb (Q6 (g:=vI) ie2) R (C7 tb R (B7 (y := .arr 2 ((t.people).map E3.d)) tb R (H3 tb R (O6 R R R R ?_)))))
        obtain⟨rv4,k4,h⟩:=H0 h
        refine H8 (Y7 k4) eK R R R R ?_ ?_
        ·intro c11
         replace h:=H1 c11 h
         refine B5 R (A3 R (F6 kR (C3 (A1 (E5 (A0 R (H4 R (A3 R (eN ?_)))))))))
         exact⟨m20,_,lS,.prn [2,3,4,5,7] R,true,(W (x+1)),h,R⟩
        intro c11
        replace h:=X9 c11 h
        refine B5 R (A3 R (F6 kR (C3 (A1 (E5 (A0 R (H4 R (A3 R (eN ?_)))))))))
        exact⟨m20,_,lS,.prn [2,3,4,5,7] R,false,(W (x+1)),h,R⟩
       intro c10
       replace h:=X9 c10 h
       refine A0 R (H7 10 R (C4 R (A3 R (F6 kR (C3 (A1 (E5 (A0 R (H4 R (A3 R (eN ?_)))))))))))
       exact⟨m20,_,lS,.prn [2,3,4,5,7] R,false,(W (x+1)),h,R⟩
      intro c9
      replace h:=J0 (nL c9) h
      refine eN (A5 R (I4 (C8 (C8 ?_))))
      subst hK20
      refine F3 (A1 (B8 (qG (A3 R (eN (D0 ?_))))))
      obtain⟨K22,hK22,h⟩:∃ K,K=_∧S8 F o K F a2 0=some r:=⟨_,rfl,h⟩
      refine H6 (st0:=⟨[(3,.ref 0 6 0 0),(4,.d (.v (.bool false))),(5,.d (.v (.bool a2))),(8,.d (vI 0))],[bx 6 (.d (A6.d o))]⟩) (fun m st=>∃ (a3:Bool) (x2:Int),S8 F o K22 m a3 x2=some r∧st=⟨[(3,.ref 0 6 0 0),(4,.d (.v (.bool false))),(5,.d (.v (.bool a3))),(8,.d (vI x2))],[bx 6 (.d (A6.d o))]⟩) (.vw (κ:=[1]) (vK (.cons R R .nil) R)) ⟨a2,0,h,R⟩ ?_
      clear h
      rintro m22 st ⟨a3,x2,h,rfl⟩
      cases m22 with
      | zero=>cases(show(none:Option Bool)=some r from h)
      | succ m22 =>
      rw[S8]at h
      refine B8 (qG (A0 R (C7 tb R (B7 (y := .arr 1 ((o.squibs).map vI)) tb R (H3 tb R ?_)))))
      refine G8 R R R R ?_ ?_
      ·intro c12
       replace h:=H1 c12 h
       refine eN (A9 R (C0 (A1 (B8 (D0 (E5 (A0 R ?_)))))))
       with_reducible apply Y9
       ·intro c13
        replace h:=H1 c13 h
        refine A0 R (C7 tb R (B7 (y := .arr 1 ((o.squibs).map vI)) tb R (A0 R ?_)))
        obtain⟨e3,ie3,h⟩:=H0 h
        refine J9 tb (S0 ie3) (P6 ie3) R (H9 (y:=vI e3) tb (Q6 (g:=vI) ie3) R ?_)
        obtain⟨rv5,k5,h⟩:=H0 h
        refine H8 (Y7 k5) eK R R R R ?_ ?_
        ·intro c14
         replace h:=H1 c14 h
         refine B5 R (A3 R (L5 (C3 (A1 (E5 (A0 R (H4 R (A3 R (eN ?_)))))))))
         exact⟨m22,_,lS,.prn [3,4,5,8] R,true,(W (x2+1)),h,R⟩
        intro c14
        replace h:=X9 c14 h
        refine B5 R (A3 R (L5 (C3 (A1 (E5 (A0 R (H4 R (A3 R (eN ?_)))))))))
        exact⟨m22,_,lS,.prn [3,4,5,8] R,false,(W (x2+1)),h,R⟩
       intro c13
       replace h:=X9 c13 h
       refine A0 R (H7 6 R (C4 R (A3 R (L5 (C3 (A1 (E5 (A0 R (H4 R (A3 R (eN ?_)))))))))))
       exact⟨m22,_,lS,.prn [3,4,5,8] R,false,(W (x2+1)),h,R⟩
      intro c12
      replace h:=J0 (nL c12) h
      refine eN (A5 R (I4 (C8 (C8 ?_))))
      subst hK22
      refine F3 (A1 (qG (A0 R (A3 R (eN (C9 ?_))))))
      obtain rfl:=sI h
      exact f1 4 R
     intro c5
     replace h:=J0 c5 h
     refine B5 R (A3 R (eN ?_))
     exact .inl ⟨(),h,.prn [2,3,4,5] R⟩
    intro c4
    replace h:=J0 c4 h
    refine B5 R (A0 R (H7 7 R (C4 R (A3 R (eN ?_)))))
    exact .inl ⟨(),h,.prn [2,3,4,5] R⟩
   intro c3
   replace h:=J0 c3 h
   refine B5 R (A0 R (H7 7 R (C4 R (A0 R (H7 7 R (C4 R (A3 R (eN ?_))))))))
   exact .inl ⟨(),h,.prn [2,3,4,5] R⟩
  intro c2
  replace h:=X9 c2 h
  refine B5 R (A0 R (H7 7 R (C4 R (A0 R (H7 7 R (C4 R (A0 R (H7 7 R (C4 R (A3 R (eN ?_)))))))))))
  exact .inl ⟨(),h,.prn [2,3,4,5] R⟩
 intro c
 replace h:=X9 c h
 refine A0 R (H7 5 R (C4 R (A0 R (H7 7 R (C4 R (A0 R (H7 7 R (C4 R (A0 R (H7 7 R (C4 R (A3 R (eN ?_)))))))))))))
 exact .inl ⟨(),h,.prn [2,3,4,5] R⟩
def A11 (F:Nat) (s:A6) (zone:Int) (K:Int→Int→Option Int):Nat→Int→Int→Option Int
 | 0,_,_=>none
 | n+1,nv,i=>if i<(s.zones.length:Int)then((P7 s.zones i).bind fun e=>if e=zone then(A11 F s zone K n (W (nv+1)) (W (i+1)))else(A11 F s zone K n nv (W (i+1))))else(K nv i)
def A87 (F:Nat) (s:A6) (zone:Int):Option Int:=A11 F s zone (fun(nv:Int) (i:Int)=>some nv) F 0 0
theorem B21 {F:Nat} {s:A6} {zone:Int} {r:Int} (h:A87 F s zone=some r):PC Tryz.prog 81 [A6.d s,.v (.int .i64 zone)] (.v (.int .i64 r)):=by
 rw[A87]at h
 refine SC.of_sw Tryz.func81 R R R ?_
 dsimp only[M1,List.map]
 refine qG (M4 R (A3 R (eN (qG (A3 R (eN (B8 (qG (A3 R (eN (D0 ?_)))))))))))
 obtain⟨K3,hK3,h⟩:∃ K,K=_∧A11 F s zone K F 0 0=some r:=⟨_,rfl,h⟩
 refine H6 (fun m st=>∃ (nv:Int) (i:Int),A11 F s zone K3 m nv i=some r∧st=⟨[(1,.d (vI zone)),(2,.ref 0 6 0 0),(4,.d (vI 0)),(5,.d (vI nv)),(6,.d (vI i))],[bx 6 (.d (A6.d s))]⟩) (.prn [1,2,4,5,6] R) ⟨0,0,h,R⟩ ?_
 clear h
 rintro m3 st ⟨nv,i,h,rfl⟩
 cases m3 with
 | zero=>cases(show(none:Option Int)=some r from h)
 | succ m3 =>
 rw[A11]at h
 refine B8 (qG (A0 R (C7 tb R (B7 (y := .arr 1 ((s.zones).map vI)) tb R (H3 tb R ?_)))))
 refine G8 R R R R ?_ ?_
 ·intro c
  replace h:=H1 c h
  refine eN (A9 R (C0 (A1 (B8 (D0 (qG (C7 tb R (B7 (y := .arr 1 ((s.zones).map vI)) tb R (A0 R ?_)))))))))
  obtain⟨e,ie,h⟩:=H0 h
  refine J9 tb (S0 ie) (P6 ie) R (H9 (y:=vI e) tb (Q6 (g:=vI) ie) R (A0 R ?_))
  refine Q0 R R R R ?_ ?_
  ·intro c2
   replace h:=H1 c2 h
   refine eN (A9 R (E5 (A0 R (H4 R (A3 R (L5 (C3 (A1 (E5 (A0 R (H4 R (A3 R (eN ?_)))))))))))))
   exact⟨m3,_,lS,.prn [1,2,4,5,6] R,(W (nv+1)),(W (i+1)),h,R⟩
  intro c2
  replace h:=J0 c2 h
  refine eN (A5 R (C0 (C3 (A1 (E5 (A0 R (H4 R (A3 R (eN ?_)))))))))
  exact⟨m3,_,lS,.prn [1,2,4,5,6] R,nv,(W (i+1)),h,R⟩
 intro c
 replace h:=J0 (nL c) h
 refine eN (A5 R (I4 (C8 (C8 ?_))))
 subst hK3
 refine F3 (A1 (qG (A0 R (A3 R (eN (C9 ?_))))))
 obtain rfl:=sI h
 exact f1 4 R
def A1z (F:Nat) (s:A6) (person:Int) (e:C6) (K:Int→Option Bool):Nat→Int→Option Bool
 | 0,_=>none
 | n+1,i=>if i<(e.keys.length:Int)then((P7 e.keys i).bind fun e2=>(P7 s.holder e2).bind fun e3=>if e3=person then(some true)else(A1z F s person e K n (W (i+1))))else(K i)
def A5O (F:Nat) (p:B0) (s:A6) (person:Int) (squib:Int):Option Bool:=(P7 p.squibs squib).bind fun e=>A1z F s person e (fun(i:Int)=>some false) F 0
theorem B10 {F:Nat} {p:B0} {s:A6} {person:Int} {squib:Int} {r:Bool} (h:A5O F p s person squib=some r):PC Tryz.prog 108 [B0.d p,A6.d s,.v (.int .i64 person),.v (.int .i64 squib)] (.v (.bool r)):=by
 rw[A5O]at h
 refine SC.of_sw Tryz.func108 R R R ?_
 dsimp only[M1,List.map]
 refine qG (M4 R (M4 R (A3 R (eN (qG (C7 tb R (B7 (y := .arr 6 ((p.squibs).map C6.d)) tb R (A0 R ?_))))))))
 obtain⟨e,ie,h⟩:=H0 h
 refine J9 tb (S0 ie) (P6 ie) R (M0 tb R (H9 (y := .arr 1 ((e.keys).map vI)) tb (Q6 (g:=C6.d) ie) R (A3 R (eN (B8 (qG (A3 R (eN (D0 ?_)))))))))
 obtain⟨K3,hK3,h⟩:∃ K,K=_∧A1z F s person e K F 0=some r:=⟨_,rfl,h⟩
 refine H6 (st0:=⟨[(2,.d (vI person)),(5,.ref 0 6 0 0),(8,.d (.v (.bool false))),(9,.d (.arr 1 ((e.keys).map vI))),(10,.d (vI 0))],[bx 6 (.d (A6.d s))]⟩) (fun m st=>∃ (i:Int),A1z F s person e K3 m i=some r∧st=⟨[(2,.d (vI person)),(5,.ref 0 6 0 0),(8,.d (.v (.bool false))),(9,.d (.arr 1 ((e.keys).map vI))),(10,.d (vI i))],[bx 6 (.d (A6.d s))]⟩) (.vw (κ:=[1]) (vK (.cons R R .nil) R)) ⟨0,h,R⟩ ?_
 clear h
 rintro m3 st ⟨i,h,rfl⟩
 cases m3 with
 | zero=>cases(show(none:Option Bool)=some r from h)
 | succ m3 =>
 rw[A1z]at h
 refine B8 (qG (A0 R (A0 R (H3 tb R ?_))))
 refine G8 R R R R ?_ ?_
 ·intro c
  replace h:=H1 c h
  refine eN (A9 R (C0 (A1 (B8 (D0 (B8 (P5 kR (C7 tb R (B7 (y := .arr 1 ((s.holder).map vI)) tb R (A0 R (A0 R ?_)))))))))))
  obtain⟨e2,ie2,h⟩:=H0 h
  refine J9 tb (S0 ie2) (P6 ie2) R (H9 (y:=vI e2) tb (Q6 (g:=vI) ie2) R ?_)
  obtain⟨e3,ie3,h⟩:=H0 h
  refine J9 tb (S0 ie3) (P6 ie3) R (H9 (y:=vI e3) tb (Q6 (g:=vI) ie3) R (A0 R ?_))
  refine Q0 R R R R ?_ ?_
  ·intro c2
   replace h:=H1 c2 h
   refine F6 kR (A1 (A9 R (qG (A3 R (eN (C9 (C5 (B1 (B1 (C5 (B1 ?_)))))))))))
   obtain rfl:=sI h
   exact f1 8 R
  intro c2
  replace h:=J0 c2 h
  refine F6 kR (A1 (A5 R (C0 (C3 (A1 (E5 (A0 R (H4 R (A3 R (eN ?_))))))))))
  exact⟨m3,_,lS,.prn [2,5,8,9,10] R,(W (i+1)),h,R⟩
 intro c
 replace h:=J0 (nL c) h
 refine eN (A5 R (I4 (C8 (C8 ?_))))
 subst hK3
 refine F3 (A1 (qG (A3 R (eN (C9 ?_)))))
 obtain rfl:=sI h
 exact f1 8 R
def A2j (F:Nat) (B3:Int→Option Bool) (q:Int):Option Bool:=B3 (W (q+1))
def A4u (F:Nat) (B3:Int→Option Bool) (p:B0) (s:A6) (person:Int) (zone:Int) (q:Int):Option Bool:=(P7 s.squibs q).bind fun e=>if e=2 then(A2j F B3 q)else((A5n F p zone q).bind fun rv=>if rv=true then((A5O F p s person q).bind fun rv2=>if rv2=true then(A2j F B3 q)else(some false))else(A2j F B3 q))
def W9 (F:Nat) (p:B0) (s:A6) (person:Int) (zone:Int) (K:Int→Option Bool):Nat→Int→Option Bool
 | 0,_=>none
 | n+1,q=>if q<(p.squibs.length:Int)then(if 0≤zone then(A4u F (W9 F p s person zone K n) p s person zone q)else(K q))else(K q)
def A4K (F:Nat) (p:B0) (s:A6) (person:Int) (zone:Int):Option Bool:=W9 F p s person zone (fun(q:Int)=>some true) F 0
theorem A8i {F:Nat} {p:B0} {s:A6} {person:Int} {zone:Int} {r:Bool} (h:A4K F p s person zone=some r):PC Tryz.prog 82 [B0.d p,A6.d s,.v (.int .i64 person),.v (.int .i64 zone)] (.v (.bool r)):=by
 rw[A4K]at h
 refine SC.of_sw Tryz.func82 R R R ?_
 dsimp only[M1,List.map]
 refine qG (M4 R (M4 R (A3 R (eN (B8 (qG (A3 R (eN (D0 ?_)))))))))
 obtain⟨K3,hK3,h⟩:∃ K,K=_∧W9 F p s person zone K F 0=some r:=⟨_,rfl,h⟩
 refine H6 (fun m st=>∃ (q:Int),W9 F p s person zone K3 m q=some r∧st=⟨[(2,.d (vI person)),(3,.d (vI zone)),(4,.ref 0 7 0 0),(5,.ref 1 6 0 0),(8,.d (.v (.bool false))),(9,.d (vI q))],[bx 7 (.d (B0.d p)),bx 6 (.d (A6.d s))]⟩) (.prn [2,3,4,5,8,9] R) ⟨0,h,R⟩ ?_
 clear h
 rintro m3 st ⟨q,h,rfl⟩
 cases m3 with
 | zero=>cases(show(none:Option Bool)=some r from h)
 | succ m3 =>
 rw[W9]at h
 refine B8 ?_
 refine N3 (fun zz:Unit=>A4u F (W9 F p s person zone K3 m3) p s person zone q=some r) (fun zz:Unit=>⟨[(2,.d (vI person)),(3,.d (vI zone)),(4,.ref 0 7 0 0),(5,.ref 1 6 0 0),(8,.d (.v (.bool false))),(9,.d (vI q))],[bx 7 (.d (B0.d p)),bx 6 (.d (A6.d s))]⟩) ?_ ?_
 ·clear h
  rintro⟨⟩ h
  rw[A4u]at h
  refine B8 ?_
  refine N3 (fun zz:Unit=>A2j F (W9 F p s person zone K3 m3) q=some r) (fun zz:Unit=>⟨[(2,.d (vI person)),(3,.d (vI zone)),(4,.ref 0 7 0 0),(5,.ref 1 6 0 0),(8,.d (.v (.bool false))),(9,.d (vI q))],[bx 7 (.d (B0.d p)),bx 6 (.d (A6.d s))]⟩) ?_ ?_
  ·clear h
   rintro⟨⟩ h
   rw[A2j]at h
   refine E5 (A0 R (H4 R (A3 R (eN ?_))))
   exact⟨m3,_,lS,.prn [2,3,4,5,8,9] R,(W (q+1)),h,R⟩
  refine D0 (qG (C7 tb R (B7 (y := .arr 1 ((s.squibs).map vI)) tb R (A0 R ?_))))
  obtain⟨e,ie,h⟩:=H0 h
  refine J9 tb (S0 ie) (P6 ie) R (H9 (y:=vI e) tb (Q6 (g:=vI) ie) R ?_)
  refine T6 R R R R ?_ ?_
  ·intro c3
   replace h:=J0 c3 h
   refine A0 R (B7 (y:=B0.d p) tb R (A0 R (A0 R ?_)))
   obtain⟨rv,k,h⟩:=H0 h
   refine H8 (A7a k) eK R R R R ?_ ?_
   ·intro c4
    replace h:=H1 c4 h
    refine B5 R (A0 R (B7 (y:=B0.d p) tb R (B7 (y:=A6.d s) tb R (A0 R (A0 R ?_)))))
    obtain⟨rv2,k2,h⟩:=H0 h
    refine H8 (B10 k2) eK R R R R ?_ ?_
    ·intro c5
     replace h:=H1 c5 h
     refine M2 R R R (B5 R (eN (A5 R (C0 (C3 (A1 ?_))))))
     exact .inl ⟨(),h,.prn [2,3,4,5,8,9] R⟩
    intro c5
    replace h:=X9 c5 h
    refine M3 R R R (B5 R (eN (A9 R (qG (A3 R (eN (C9 (C5 (B1 (B1 (C5 (B1 ?_))))))))))))
    obtain rfl:=sI h
    exact f1 8 R
   intro c4
   replace h:=X9 c4 h
   refine B5 R (A0 R (H7 6 R (C4 R (eN (A5 R (C0 (C3 (A1 ?_))))))))
   exact .inl ⟨(),h,.prn [2,3,4,5,8,9] R⟩
  intro c3
  replace h:=H1 c3 h
  refine A0 R (H7 4 R (C4 R (A0 R (H7 6 R (C4 R (eN (A5 R (C0 (C3 (A1 ?_))))))))))
  exact .inl ⟨(),h,.prn [2,3,4,5,8,9] R⟩
 refine qG (A0 R (C7 tb R (B7 (y := .arr 6 ((p.squibs).map C6.d)) tb R (H3 tb R ?_))))
 refine G8 R R R R ?_ ?_
 ·intro c
  replace h:=H1 c h
  refine A0 R (A0 R ?_)
  refine A35 R R R R ?_ ?_
  ·intro c2
   replace h:=H1 c2 h
   refine B5 R (eN (A9 R (C0 (A1 ?_))))
   exact .inl ⟨(),h,.prn [2,3,4,5,8,9] R⟩
  intro c2
  replace h:=J0 (Int.not_le.2 c2) h
  refine B5 R (eN (A5 R (I4 (C8 (C8 ?_)))))
  subst hK3
  refine F3 (A1 (qG (A3 R (eN (C9 ?_)))))
  obtain rfl:=sI h
  exact f1 8 R
 intro c
 replace h:=J0 (nL c) h
 refine A0 R (H7 2 R (C4 R (eN (A5 R (I4 (C8 (C8 ?_)))))))
 subst hK3
 refine F3 (A1 (qG (A3 R (eN (C9 ?_)))))
 obtain rfl:=sI h
 exact f1 8 R
def A1c (F:Nat) (s:A6) (e:C6) (K:(List Int)→Int→Option (List Int)):Nat→(List Int)→Int→Option (List Int)
 | 0,_,_=>none
 | n+1,out,i=>if i<(e.keys.length:Int)then((P7 e.keys i).bind fun e2=>(P7 s.holder e2).bind fun e3=>if e3=(-1)then(A1c F s e K n out (W (i+1)))else((A67 out [e2]).bind fun q=>A1c F s e K n q (W (i+1))))else(K out i)
def A60 (F:Nat) (p:B0) (s:A6) (squib:Int):Option (List Int):=(P7 p.squibs squib).bind fun e=>A1c F s e (fun(out:(List Int)) (i:Int)=>some out) F ([]:List Int) 0
theorem A8k {F:Nat} {p:B0} {s:A6} {squib:Int} {r:(List Int)} (h:A60 F p s squib=some r):SCR Tryz.prog 37 (List.map T.d [B0.d p,A6.d s,.v (.int .i64 squib)]) [] (.row 0 1 0 (r).length) (List.map some [(lvI r)]):=by
 rw[A60]at h
 refine SC.of_sw Tryz.func37 R R R ?_
 dsimp only[M1,List.map]
 refine qG (M4 R (M4 R (A3 R (eN (qG (A3 R (eN (qG (C7 tb R (B7 (y := .arr 6 ((p.squibs).map C6.d)) tb R (A0 R ?_)))))))))))
 obtain⟨e,ie,h⟩:=H0 h
 refine J9 tb (S0 ie) (P6 ie) R (M0 tb R (H9 (y := .arr 1 ((e.keys).map vI)) tb (Q6 (g:=C6.d) ie) R (A3 R (eN (B8 (qG (A3 R (eN (D0 ?_)))))))))
 refine SW.own (ts':=[(4,.ref 1 6 0 0),(6,.d (.v (.slice none 0 0))),(7,.row 2 1 0 (([]:List Int)).length),(8,.d (.arr 1 ((e.keys).map vI))),(9,.d (vI 0))]) (L':=[bx 7 (.d (B0.d p)),bx 6 (.d (A6.d s))]) 1 R R (.cons (.same _) (.cons (.same _) (.cons .nil (.cons (.same _) (.cons (.same _) .nil))))) (.same (.same .nil)) ?_
 simp only[List.cons_append,List.nil_append]
 obtain⟨K2,hK2,h⟩:∃ K,K=_∧A1c F s e K F ([]:List Int) 0=some r:=⟨_,rfl,h⟩
 refine H6 (st0:=⟨[(4,.ref 0 6 0 0),(6,.d (.v (.slice none 0 0))),(7,.row 1 1 0 (([]:List Int)).length),(8,.d (.arr 1 ((e.keys).map vI))),(9,.d (vI 0))],[bx 6 (.d (A6.d s)),F5 ([]:List Int)]⟩) (fun m st=>∃ (out:(List Int)) (i:Int),A1c F s e K2 m out i=some r∧st=⟨[(4,.ref 0 6 0 0),(6,.d (.v (.slice none 0 0))),(7,.row 1 1 0 (out).length),(8,.d (.arr 1 ((e.keys).map vI))),(9,.d (vI i))],[bx 6 (.d (A6.d s)),F5 out]⟩) (.vw (κ:=[1,2]) (vK (.cons R R O7) R)) ⟨([]:List Int),0,h,R⟩ ?_
 clear h
 rintro m2 st ⟨out,i,h,rfl⟩
 cases m2 with
 | zero=>cases(show(none:Option (List Int))=some r from h)
 | succ m2 =>
 rw[A1c]at h
 refine B8 (qG (A0 R (A0 R (H3 tb R ?_))))
 refine G8 R R R R ?_ ?_
 ·intro c
  replace h:=H1 c h
  refine eN (A9 R (C0 (A1 (B8 (D0 (B8 (P5 kR (C7 tb R (B7 (y := .arr 1 ((s.holder).map vI)) tb R (A0 R (A0 R ?_)))))))))))
  obtain⟨e2,ie2,h⟩:=H0 h
  refine J9 tb (S0 ie2) (P6 ie2) R (H9 (y:=vI e2) tb (Q6 (g:=vI) ie2) R ?_)
  obtain⟨e3,ie3,h⟩:=H0 h
  refine J9 tb (S0 ie3) (P6 ie3) R (H9 (y:=vI e3) tb (Q6 (g:=vI) ie3) R ?_)
  refine T6 R R R R ?_ ?_
  ·intro c2
   replace h:=J0 c2 h
   refine F6 kR (A1 (A9 R (E5 (I1 R R R (A0 R (A0 R (J9 tb (S0 ie2) (P6 ie2) R (H9 (y:=vI e2) tb (Q6 (g:=vI) ie2) R (R8 tb R R R R R R R R R R R R R ?_)))))))))
   obtain⟨q,iq,h⟩:=H0 h
   refine A78 (g:=vI) (w:=out) (v:=[e2]) ([bx 6 (.d (A6.d s)),none,F5 [e2]]) tb R R R R R R R R R R R iq R R R R R (A0j R R R (L5 (C3 (A1 (E5 (A0 R (H4 R (A3 R (eN ?_)))))))))
   exact⟨m2,⟨[(4,.ref 0 6 0 0),(6,.d (.v (.slice none 0 0))),(7,.row 1 1 0 (q).length),(8,.d (.arr 1 ((e.keys).map vI))),(9,.d (vI (W (i+1))))],[bx 6 (.d (A6.d s)),F5 q]⟩,lS,.vw (κ:=[0,3]) (vK (.cons R R O7) R),q,(W (i+1)),h,R⟩
  intro c2
  replace h:=H1 c2 h
  refine F6 kR (A1 (A5 R (C0 (C3 (A1 (E5 (A0 R (H4 R (A3 R (eN ?_))))))))))
  exact⟨m2,_,lS,.prn [4,6,7,8,9] R,out,(W (i+1)),h,R⟩
 intro c
 replace h:=J0 (nL c) h
 refine eN (A5 R (I4 (C8 (C8 ?_))))
 subst hK2
 refine F3 (A1 (qG (I1 R R R (A0j R R R (eN (C9 ?_))))))
 obtain rfl:=sI h
 exact f2 [1] O7 R (.cons (.tmp 6) .nil) R
theorem B6q {F:Nat} {p:B0} {s:A6} {squib:Int} {r:(List Int)} (h:A60 F p s squib=some r):PC Tryz.prog 37 [B0.d p,A6.d s,.v (.int .i64 squib)] (.arr 1 ((r).map vI)):=(A8k h).toPC (.row rfl rfl)
def A3g (F:Nat) (B3:Int→Option Bool) (a:Int):Option Bool:=B3 (W (a+1))
def A3h (F:Nat) (B6:Int→Option Bool) (x:Int):Option Bool:=B6 (W (x+1))
def V1 (F:Nat) :Option Bool:=some false
def A3i (F:Nat) (B9:Int→Option Bool) (x2:Int):Option Bool:=B9 (W (x2+1))
def X0 (F:Nat) (t:B0) (o:A6) (K:Int→Option Bool):Nat→Int→Option Bool
 | 0,_=>none
 | n+1,x2=>if x2<(o.squibs.length:Int)then((P7 o.squibs x2).bind fun e5=>if e5=1 then((A60 F t o x2).bind fun rv4=>if 0<(rv4.length:Int)then(V1 F)else(if o.siren<0 then(V1 F)else(if o.storm=true then(V1 F)else(A3i F (X0 F t o K n) x2))))else(A3i F (X0 F t o K n) x2))else(K x2)
def X3 (F:Nat) (t:B0) (o:A6) (K:Int→Option Bool):Nat→Int→Option Bool
 | 0,_=>none
 | n+1,x=>if x<(o.zones.length:Int)then((P7 o.zones x).bind fun e2=>if 0≤e2 then((P7 t.people x).bind fun e3=>(P7 t.zones e2).bind fun e4=>if e3.grade<e4.grade then(V1 F)else((A4K F t o x e2).bind fun rv2=>if rv2=true then(A3h F (X3 F t o K n) x)else(V1 F)))else((A4K F t o x e2).bind fun rv3=>if rv3=true then(A3h F (X3 F t o K n) x)else(V1 F)))else(K x)
def X4 (F:Nat) (t:B0) (o:A6) (K:Int→Option Bool):Nat→Int→Option Bool
 | 0,_=>none
 | n+1,a=>if a<(t.zones.length:Int)then((A87 F o a).bind fun rv=>(P7 t.zones a).bind fun e=>if e.room<rv then(some false)else(if rv=1 then(if e.pair=true then(some false)else(A3g F (X4 F t o K n) a))else(A3g F (X4 F t o K n) a)))else(K a)
def A5P (F:Nat) (t:B0) (o:A6):Option Bool:=X4 F t o (fun(a:Int)=>X3 F t o (fun(x:Int)=>X0 F t o (fun(x2:Int)=>some true) F 0) F 0) F 0
theorem B13 {F:Nat} {t:B0} {o:A6} {r:Bool} (h:A5P F t o=some r):PC Tryz.prog 44 [B0.d t,A6.d o] (.v (.bool r)):=by
 rw[A5P]at h
 refine SC.of_sw Tryz.func44 R R R ?_
 dsimp only[M1,List.map]
 refine qG (M4 R (M4 R (A3 R (eN (B8 (qG (A3 R (eN (D0 ?_)))))))))
 obtain⟨K3,hK3,h⟩:∃ K,K=_∧X4 F t o K F 0=some r:=⟨_,rfl,h⟩
 refine H6 (fun m st=>∃ (a:Int),X4 F t o K3 m a=some r∧st=⟨[(2,.ref 0 7 0 0),(3,.ref 1 6 0 0),(4,.d (.v (.bool false))),(5,.d (vI a))],[bx 7 (.d (B0.d t)),bx 6 (.d (A6.d o))]⟩) (.prn [2,3,4,5] R) ⟨0,h,R⟩ ?_
 clear h
 rintro m3 st ⟨a,h,rfl⟩
 cases m3 with
 | zero=>cases(show(none:Option Bool)=some r from h)
 | succ m3 =>
 rw[X4]at h
 refine B8 (qG (A0 R (C7 tb R (B7 (y := .arr 8 ((t.zones).map E9.d)) tb R (H3 tb R ?_)))))
 refine G8 R R R R ?_ ?_
 ·intro c
  replace h:=H1 c h
  refine eN (A9 R (C0 (A1 (B8 ?_))))
  refine N3 (fun zz:Unit=>A3g F (X4 F t o K3 m3) a=some r) (fun zz:Unit=>⟨[(2,.ref 0 7 0 0),(3,.ref 1 6 0 0),(4,.d (.v (.bool false))),(5,.d (vI a))],[bx 7 (.d (B0.d t)),bx 6 (.d (A6.d o))]⟩) ?_ ?_
  ·clear h
   rintro⟨⟩ h
   rw[A3g]at h
   refine E5 (A0 R (H4 R (A3 R (eN ?_))))
   exact⟨m3,_,lS,.prn [2,3,4,5] R,(W (a+1)),h,R⟩
  refine D0 (qG (B7 (y:=A6.d o) tb R (A0 R ?_)))
  obtain⟨rv,k,h⟩:=H0 h
  refine N5 (B21 k) eK R R R R (A3 R (eN (qG (A0 R (C7 tb R (B7 (y := .arr 8 ((t.zones).map E9.d)) tb R (A0 R ?_)))))))
  obtain⟨e,ie,h⟩:=H0 h
  refine J9 tb (S0 ie) (P6 ie) R (M0 tb R (H9 (y:=vI e.room) tb (Q6 (g:=E9.d) ie) R ?_))
  refine A1D R R R R ?_ ?_
  ·intro c2
   replace h:=H1 c2 h
   refine A0 R (H7 10 R (B5 R (eN (A9 R (qG (A3 R (eN (C9 (C5 (B1 (B1 (C5 (B1 ?_)))))))))))))
   obtain rfl:=sI h
   exact f1 4 R
  intro c2
  replace h:=J0 (nL c2) h
  refine A0 R (A0 R ?_)
  refine Q0 R R R R ?_ ?_
  ·intro c3
   replace h:=H1 c3 h
   refine A0 R (C7 tb R (B7 (y := .arr 8 ((t.zones).map E9.d)) tb R (A0 R (J9 tb (S0 ie) (P6 ie) R (M0 tb R (H9 (y := .v (.bool e.pair)) tb (Q6 (g:=E9.d) ie) R ?_))))))
   with_reducible apply Y9
   ·intro c4
    replace h:=H1 c4 h
    refine B5 R (C4 R (eN (A9 R (qG (A3 R (eN (C9 (C5 (B1 (B1 (C5 (B1 ?_))))))))))))
    obtain rfl:=sI h
    exact f1 4 R
   intro c4
   replace h:=X9 c4 h
   refine B5 R (C4 R (eN (A5 R (C0 (C3 (A1 ?_))))))
   exact .inl ⟨(),h,.prn [2,3,4,5] R⟩
  intro c3
  replace h:=J0 c3 h
  refine A0 R (H7 6 R (C4 R (C4 R (eN (A5 R (C0 (C3 (A1 ?_))))))))
  exact .inl ⟨(),h,.prn [2,3,4,5] R⟩
 intro c
 replace h:=J0 (nL c) h
 refine eN (A5 R (I4 (C8 (C8 ?_))))
 subst hK3
 refine F3 (A1 (B8 (qG (A3 R (eN (D0 ?_))))))
 obtain⟨K6,hK6,h⟩:∃ K,K=_∧X3 F t o K F 0=some r:=⟨_,rfl,h⟩
 refine H6 (fun m st=>∃ (x:Int),X3 F t o K6 m x=some r∧st=⟨[(2,.ref 0 7 0 0),(3,.ref 1 6 0 0),(4,.d (.v (.bool false))),(7,.d (vI x))],[bx 7 (.d (B0.d t)),bx 6 (.d (A6.d o))]⟩) (.prn [2,3,4,7] R) ⟨0,h,R⟩ ?_
 clear h
 rintro m6 st ⟨x,h,rfl⟩
 cases m6 with
 | zero=>cases(show(none:Option Bool)=some r from h)
 | succ m6 =>
 rw[X3]at h
 refine B8 (qG (A0 R (C7 tb R (B7 (y := .arr 1 ((o.zones).map vI)) tb R (H3 tb R ?_)))))
 refine G8 R R R R ?_ ?_
 ·intro c5
  replace h:=H1 c5 h
  refine eN (A9 R (C0 (A1 (B8 ?_))))
  refine N3 (fun zz:Unit=>A3h F (X3 F t o K6 m6) x=some r) (fun zz:Unit=>⟨[(2,.ref 0 7 0 0),(3,.ref 1 6 0 0),(4,.d (.v (.bool false))),(7,.d (vI x))],[bx 7 (.d (B0.d t)),bx 6 (.d (A6.d o))]⟩) ?_ ?_
  ·clear h
   rintro⟨⟩ h
   rw[A3h]at h
   refine E5 (A0 R (H4 R (A3 R (eN ?_))))
   exact⟨m6,_,lS,.prn [2,3,4,7] R,(W (x+1)),h,R⟩
  refine D0 (B8 ?_)
  refine N3 (fun zz:Unit=>V1 F=some r) (fun zz:Unit=>⟨[(2,.ref 0 7 0 0),(3,.ref 1 6 0 0),(4,.d (.v (.bool false))),(7,.d (vI x)),(82,.d (.v (.bool true)))],[bx 7 (.d (B0.d t)),bx 6 (.d (A6.d o))]⟩) ?_ ?_
  ·clear h
   rintro⟨⟩ h
   rw[V1]at h
   refine A9 R (qG (A3 R (eN (C9 (C5 (B1 (B1 (C5 (B1 ?_)))))))))
   obtain rfl:=sI h
   exact f1 4 R
  refine P5 kR (C7 tb R (B7 (y := .arr 1 ((o.zones).map vI)) tb R (A0 R ?_)))
  obtain⟨e2,ie2,h⟩:=H0 h
  refine J9 tb (S0 ie2) (P6 ie2) R (H9 (y:=vI e2) tb (Q6 (g:=vI) ie2) R ?_)
  refine A35 R R R R ?_ ?_
  ·intro c6
   replace h:=H1 c6 h
   refine A0 R (C7 tb R (B7 (y := .arr 2 ((t.people).map E3.d)) tb R (A0 R ?_)))
   obtain⟨e3,ie3,h⟩:=H0 h
   refine J9 tb (S0 ie3) (P6 ie3) R (M0 tb R (H9 (y:=vI e3.grade) tb (Q6 (g:=E3.d) ie3) R (C7 tb R (B7 (y := .arr 8 ((t.zones).map E9.d)) tb R (C7 tb R (B7 (y := .arr 1 ((o.zones).map vI)) tb R (A0 R (J9 tb (S0 ie2) (P6 ie2) R (H9 (y:=vI e2) tb (Q6 (g:=vI) ie2) R ?_)))))))))
   obtain⟨e4,ie4,h⟩:=H0 h
   refine J9 tb (S0 ie4) (P6 ie4) R (M0 tb R (H9 (y:=vI e4.grade) tb (Q6 (g:=E9.d) ie4) R ?_))
   refine G8 R R R R ?_ ?_
   ·intro c7
    replace h:=H1 c7 h
    refine B5 R (A0 R (H7 10 R (B5 R (F6 kR (A1 ?_)))))
    exact .inl ⟨(),h,.prn [2,3,4,7,82] R⟩
   intro c7
   replace h:=J0 (nL c7) h
   refine B5 R (A0 R (B7 (y:=B0.d t) tb R (B7 (y:=A6.d o) tb R (A0 R (C7 tb R (B7 (y := .arr 1 ((o.zones).map vI)) tb R (A0 R (J9 tb (S0 ie2) (P6 ie2) R (H9 (y:=vI e2) tb (Q6 (g:=vI) ie2) R ?_)))))))))
   obtain⟨rv2,k2,h⟩:=H0 h
   refine H8 (A8i k2) eK R R R R ?_ ?_
   ·intro c8
    replace h:=H1 c8 h
    refine M2 R R R (C4 R (F6 kR (A1 (.inr (A5 R (C0 (C3 (A1 ?_))))))))
    exact .inl ⟨(),h,.prn [2,3,4,7] R⟩
   intro c8
   replace h:=X9 c8 h
   refine M3 R R R (C4 R (F6 kR (A1 ?_)))
   exact .inl ⟨(),h,.prn [2,3,4,7,82] R⟩
  intro c6
  replace h:=J0 (Int.not_le.2 c6) h
  refine A0 R (H7 17 R (C4 R (A0 R (B7 (y:=B0.d t) tb R (B7 (y:=A6.d o) tb R (A0 R (C7 tb R (B7 (y := .arr 1 ((o.zones).map vI)) tb R (A0 R (J9 tb (S0 ie2) (P6 ie2) R (H9 (y:=vI e2) tb (Q6 (g:=vI) ie2) R ?_)))))))))))
  obtain⟨rv3,k3,h⟩:=H0 h
  refine H8 (A8i k3) eK R R R R ?_ ?_
  ·intro c9
   replace h:=H1 c9 h
   refine M2 R R R (C4 R (F6 kR (A1 (.inr (A5 R (C0 (C3 (A1 ?_))))))))
   exact .inl ⟨(),h,.prn [2,3,4,7] R⟩
  intro c9
  replace h:=X9 c9 h
  refine M3 R R R (C4 R (F6 kR (A1 ?_)))
  exact .inl ⟨(),h,.prn [2,3,4,7,82] R⟩
 intro c5
 replace h:=J0 (nL c5) h
 refine eN (A5 R (I4 (C8 (C8 ?_))))
 subst hK6
 refine F3 (A1 (B8 (qG (A3 R (eN (D0 ?_))))))
 obtain⟨K9,hK9,h⟩:∃ K,K=_∧X0 F t o K F 0=some r:=⟨_,rfl,h⟩
 refine H6 (fun m st=>∃ (x2:Int),X0 F t o K9 m x2=some r∧st=⟨[(2,.ref 0 7 0 0),(3,.ref 1 6 0 0),(4,.d (.v (.bool false))),(8,.d (vI x2))],[bx 7 (.d (B0.d t)),bx 6 (.d (A6.d o))]⟩) (.prn [2,3,4,8] R) ⟨0,h,R⟩ ?_
 clear h
 rintro m9 st ⟨x2,h,rfl⟩
 cases m9 with
 | zero=>cases(show(none:Option Bool)=some r from h)
 | succ m9 =>
 rw[X0]at h
 refine B8 (qG (A0 R (C7 tb R (B7 (y := .arr 1 ((o.squibs).map vI)) tb R (H3 tb R ?_)))))
 refine G8 R R R R ?_ ?_
 ·intro c10
  replace h:=H1 c10 h
  refine eN (A9 R (C0 (A1 (B8 ?_))))
  refine N3 (fun zz:Unit=>A3i F (X0 F t o K9 m9) x2=some r) (fun zz:Unit=>⟨[(2,.ref 0 7 0 0),(3,.ref 1 6 0 0),(4,.d (.v (.bool false))),(8,.d (vI x2))],[bx 7 (.d (B0.d t)),bx 6 (.d (A6.d o))]⟩) ?_ ?_
  ·clear h
   rintro⟨⟩ h
   rw[A3i]at h
   refine E5 (A0 R (H4 R (A3 R (eN ?_))))
   exact⟨m9,_,lS,.prn [2,3,4,8] R,(W (x2+1)),h,R⟩
  refine D0 (B8 ?_)
  refine N3 (fun zz:Unit=>V1 F=some r) (fun zz:Unit=>⟨[(2,.ref 0 7 0 0),(3,.ref 1 6 0 0),(4,.d (.v (.bool false))),(8,.d (vI x2)),(112,.d (.v (.bool true)))],[bx 7 (.d (B0.d t)),bx 6 (.d (A6.d o))]⟩) ?_ ?_
  ·clear h
   rintro⟨⟩ h
   rw[V1]at h
   refine A9 R (qG (A3 R (eN (C9 (C5 (B1 (B1 (C5 (B1 ?_)))))))))
   obtain rfl:=sI h
   exact f1 4 R
  refine E5 (C7 tb R (B7 (y := .arr 1 ((o.squibs).map vI)) tb R (A0 R ?_)))
  obtain⟨e5,ie5,h⟩:=H0 h
  refine J9 tb (S0 ie5) (P6 ie5) R (H9 (y:=vI e5) tb (Q6 (g:=vI) ie5) R ?_)
  refine Q0 R R R R ?_ ?_
  ·intro c11
   replace h:=H1 c11 h
   refine A0 R (B7 (y:=B0.d t) tb R (B7 (y:=A6.d o) tb R (A0 R ?_)))
   obtain⟨rv4,k4,h⟩:=H0 h
   refine A0n (t' := .row 2 1 0 (rv4).length) (news':=[(lvI rv4)]) (A8k k4) eK R R R ((.row .nil)) R R R (A3y tb R R R R R ?_)
   refine A1D R R R R ?_ ?_
   ·intro c12
    replace h:=H1 c12 h
    refine A0 R (H7 3 R (B5 R (A0 R (H7 2 R (B5 R (B5 R (eN ?_)))))))
    exact .inl ⟨(),h,.vw (κ:=[0,1]) (vK (.cons R R (.cons R R .nil)) R)⟩
   intro c12
   replace h:=J0 (nL c12) h
   refine A0 R (C7 tb R (B7 (y:=vI o.siren) tb R ?_))
   refine G8 R R R R ?_ ?_
   ·intro c13
    replace h:=H1 c13 h
    refine C4 R (A0 R (H7 2 R (B5 R (B5 R (eN ?_)))))
    exact .inl ⟨(),h,.vw (κ:=[0,1]) (vK (.cons R R (.cons R R .nil)) R)⟩
   intro c13
   replace h:=J0 (nL c13) h
   refine C4 R (A0 R (C7 tb R (B7 (y := .v (.bool o.storm)) tb R ?_)))
   with_reducible apply Y9
   ·intro c14
    replace h:=H1 c14 h
    refine C4 R (B5 R (eN ?_))
    exact .inl ⟨(),h,.vw (κ:=[0,1]) (vK (.cons R R (.cons R R .nil)) R)⟩
   intro c14
   replace h:=X9 c14 h
   refine C4 R (B5 R (eN (.inr (A5 R (C0 (C3 (A1 ?_)))))))
   exact .inl ⟨(),h,.vw (κ:=[0,1]) (vK (.cons R R (.cons R R .nil)) R)⟩
  intro c11
  replace h:=J0 c11 h
  refine A0 R (H7 15 R (C4 R (eN (.inr (A5 R (C0 (C3 (A1 ?_))))))))
  exact .inl ⟨(),h,.vw (κ:=[0,1]) (vK (.cons R R (.cons R R .nil)) R)⟩
 intro c10
 replace h:=J0 (nL c10) h
 refine eN (A5 R (I4 (C8 (C8 ?_))))
 subst hK9
 refine F3 (A1 (qG (A3 R (eN (C9 ?_)))))
 obtain rfl:=sI h
 exact f1 4 R
def V7 (F:Nat) (e:Int):Option Int:=some e
def A1J (F:Nat) (p:B0) (s:A6):Option Int:=(A4M F p).bind fun rv=>if rv=0 then((A3K F p s).bind fun rv2=>if rv2=true then((A5P F p s).bind fun rv3=>if rv3=true then(V7 F rv)else(V7 F 6))else(V7 F 6))else(V7 F rv)
theorem A7W {F:Nat} {p:B0} {s:A6} {r:Int} (h:A1J F p s=some r):PC Tryz.prog 20 [B0.d p,A6.d s] (.v (.int .i64 r)):=by
 rw[A1J]at h
 refine SC.of_sw Tryz.func20 R R R ?_
 dsimp only[M1,List.map]
 refine qG (M4 R (M4 R (A3 R (eN (qG (B7 (y:=B0.d p) tb R ?_))))))
 obtain⟨rv,k,h⟩:=H0 h
 refine N5 (A8m k) eK R R R R (A3 R (eN (B8 ?_)))
 refine N3 (fun zz:Int=>V7 F zz=some r) (fun zz:Int=>⟨[(4,.d (vI 0)),(5,.d (vI zz))],[]⟩) ?_ ?_
 ·clear h
  rintro e h
  rw[V7]at h
  refine qG (A0 R (A3 R (eN (C9 ?_))))
  obtain rfl:=sI h
  exact f1 4 R
 refine qG (A0 R ?_)
 refine Q0 R R R R ?_ ?_
 ·intro c
  replace h:=H1 c h
  refine A0 R (B7 (y:=B0.d p) tb R (B7 (y:=A6.d s) tb R ?_))
  obtain⟨rv2,k2,h⟩:=H0 h
  refine H8 (A77 k2) eK R R R R ?_ ?_
  ·intro c2
   replace h:=H1 c2 h
   refine M2 R R R (A0 R (B7 (y:=B0.d p) tb R (B7 (y:=A6.d s) tb R ?_)))
   obtain⟨rv3,k3,h⟩:=H0 h
   refine H8 (B13 k3) eK R R R R ?_ ?_
   ·intro c3
    replace h:=H1 c3 h
    refine M2 R R R (C4 R (B5 R (eN (A5 R (C0 (A1 ?_))))))
    exact .inl ⟨rv,h,.vw (κ:=[]) (v0 R)⟩
   intro c3
   replace h:=X9 c3 h
   refine M3 R R R (C4 R (B5 R (eN (A9 R (E5 (A3 R (eN ?_)))))))
   exact .inl ⟨6,h,.vw (κ:=[]) (v0 R)⟩
  intro c2
  replace h:=X9 c2 h
  refine M3 R R R (A0 R (H7 4 R (B5 R (B5 R (eN (A9 R (E5 (A3 R (eN ?_)))))))))
  exact .inl ⟨6,h,.vw (κ:=[]) (v0 R)⟩
 intro c
 replace h:=J0 c h
 refine A0 R (H7 10 R (C4 R (eN (A5 R (C0 (A1 ?_))))))
 exact .inl ⟨rv,h,.vw (κ:=[]) (v0 R)⟩
def A0y (F:Nat) (B6:(List A4)→Int→Option ((List A4) × Int)) (x2:Int) (lv3:(List A4)):Option ((List A4) × Int):=B6 lv3 (W (x2+1))
def S7 (F:Nat) (t:B0) (o:A6) (x:Int) (K:(List A4)→Int→Option ((List A4) × Int)):Nat→(List A4)→Int→Option ((List A4) × Int)
 | 0,_,_=>none
 | n+1,lv2,x2=>if x2<(o.zones.length:Int)then((P7 o.squibs x).bind fun e=>if e=1 then((P7 o.zones x2).bind fun e2=>if 0≤e2 then((A5n F t e2 x).bind fun rv3=>if rv3=true then((A67 lv2 [(A4.mk x x2)]).bind fun q=>A0y F (S7 F t o x K n) x2 q)else(A0y F (S7 F t o x K n) x2 lv2))else(A0y F (S7 F t o x K n) x2 lv2))else(A0y F (S7 F t o x K n) x2 lv2))else(K lv2 x2)
def A00 (F:Nat) (t:B0) (o:A6) (K:(List A4)→Int→Option ((List A4) × Int)):Nat→(List A4)→Int→Option ((List A4) × Int)
 | 0,_,_=>none
 | n+1,lv,x=>if x<(o.squibs.length:Int)then(S7 F t o x (fun(lv2:(List A4)) (x2:Int)=>A00 F t o K n lv2 (W (x+1))) F lv 0)else(K lv x)
def A0z (F:Nat) (t:B0) (o:A6) (y:Int):Option ((List A4) × Int):=if y=0 then(A00 F t o (fun(lv:(List A4)) (x:Int)=>some (lv,0)) F ([]:List A4) 0)else(some (([]:List A4),y))
def A3J (F:Nat) (t:B0) (o:A6):Option ((List A4) × Int):=(A4M F t).bind fun rv=>if rv=0 then((A3K F t o).bind fun rv2=>if rv2=true then(A0z F t o rv)else(A0z F t o 6))else(A0z F t o rv)
theorem A6N {F:Nat} {t:B0} {o:A6} {r:((List A4) × Int)} (h:A3J F t o=some r):SCR Tryz.prog 22 (List.map T.d [B0.d t,A6.d o]) [] (.tup [.row 0 2 0 (r.1).length,.d (.v (.int .i64 r.2))]) (List.map some [(A3Q r.1)]):=by
 rw[A3J]at h
 refine SC.of_sw Tryz.func22 R R R ?_
 dsimp only[M1,List.map]
 refine qG (M4 R (M4 R (A3 R (A3 R (eN (qG (B7 (y:=B0.d t) tb R ?_)))))))
 obtain⟨rv,k,h⟩:=H0 h
 refine N5 (A8m k) eK R R R R (A3 R (eN (B8 ?_)))
 refine N3 (fun zz:Int=>A0z F t o zz=some r) (fun zz:Int=>⟨[(2,.ref 0 7 0 0),(3,.ref 1 6 0 0),(4,.d (.v (.slice none 0 0))),(5,.d (vI 0)),(6,.d (vI zz))],[bx 7 (.d (B0.d t)),bx 6 (.d (A6.d o))]⟩) ?_ ?_
 ·clear h
  rintro y h
  rw[A0z]at h
  refine B8 (qG (A0 R ?_))
  refine T6 R R R R ?_ ?_
  ·intro c3
   replace h:=J0 c3 h
   refine eN (A9 R (qG (A0 R (A3 R (A3 R (eN ?_))))))
   refine SW.own (ts':=[(4,.row 2 2 0 (([]:List A4)).length),(5,.d (vI y))]) (L':=[bx 7 (.d (B0.d t)),bx 6 (.d (A6.d o))]) 2 R R (.cons .nil (.cons (.same _) .nil)) (.same (.same .nil)) ?_
   simp only[List.cons_append,List.nil_append]
   refine C9 (B1 ?_)
   obtain rfl:=sI h
   exact f2 [2] O7 R (.cons (.tmp 4) (.cons (.tmp 5) .nil)) R
  intro c3
  replace h:=H1 c3 h
  refine eN (A5 R (C0 (A1 (qG (A3 R (eN (B8 (qG (A3 R (eN (D0 ?_)))))))))))
  refine SW.own (ts':=[(2,.ref 0 7 0 0),(3,.ref 1 6 0 0),(4,.d (.v (.slice none 0 0))),(5,.d (vI 0)),(7,.row 2 2 0 (([]:List A4)).length),(8,.d (vI 0))]) (L':=[bx 7 (.d (B0.d t)),bx 6 (.d (A6.d o))]) 2 R R (.cons (.same _) (.cons (.same _) (.cons (.same _) (.cons (.same _) (.cons .nil (.cons (.same _) .nil)))))) (.same (.same .nil)) ?_
  simp only[List.cons_append,List.nil_append]
  obtain⟨K4,hK4,h⟩:∃ K,K=_∧A00 F t o K F ([]:List A4) 0=some r:=⟨_,rfl,h⟩
  refine H6 (fun m st=>∃ (lv:(List A4)) (x:Int),A00 F t o K4 m lv x=some r∧st=⟨[(2,.ref 0 7 0 0),(3,.ref 1 6 0 0),(4,.d (.v (.slice none 0 0))),(5,.d (vI 0)),(7,.row 2 2 0 (lv).length),(8,.d (vI x))],[bx 7 (.d (B0.d t)),bx 6 (.d (A6.d o)),A8 lv]⟩) (.prn [2,3,4,5,7,8] R) ⟨([]:List A4),0,h,R⟩ ?_
  clear h
  rintro m4 st ⟨lv,x,h,rfl⟩
  cases m4 with
  | zero=>cases(show(none:Option ((List A4) × Int))=some r from h)
  | succ m4 =>
  rw[A00]at h
  refine B8 (qG (A0 R (C7 tb R (B7 (y := .arr 1 ((o.squibs).map vI)) tb R (H3 tb R ?_)))))
  refine G8 R R R R ?_ ?_
  ·intro c4
   replace h:=H1 c4 h
   refine eN (A9 R (C0 (A1 (B8 (D0 (qG (A3 R (eN (D0 ?_)))))))))
   obtain⟨K6,hK6,h⟩:∃ K,K=_∧S7 F t o x K F lv 0=some r:=⟨_,rfl,h⟩
   refine H6 (fun m st=>∃ (lv2:(List A4)) (x2:Int),S7 F t o x K6 m lv2 x2=some r∧st=⟨[(2,.ref 0 7 0 0),(3,.ref 1 6 0 0),(4,.d (.v (.slice none 0 0))),(5,.d (vI 0)),(7,.row 2 2 0 (lv2).length),(8,.d (vI x)),(9,.d (vI x2))],[bx 7 (.d (B0.d t)),bx 6 (.d (A6.d o)),A8 lv2]⟩) (.prn [2,3,4,5,7,8,9] R) ⟨lv,0,h,R⟩ ?_
   clear h
   rintro m6 st ⟨lv2,x2,h,rfl⟩
   cases m6 with
   | zero=>cases(show(none:Option ((List A4) × Int))=some r from h)
   | succ m6 =>
   rw[S7]at h
   refine B8 (qG (A0 R (C7 tb R (B7 (y := .arr 1 ((o.zones).map vI)) tb R (H3 tb R ?_)))))
   refine G8 R R R R ?_ ?_
   ·intro c5
    replace h:=H1 c5 h
    refine eN (A9 R (C0 (A1 (B8 ?_))))
    refine N3 (fun zz:(List A4)=>A0y F (S7 F t o x K6 m6) x2 zz=some r) (fun zz:(List A4)=>⟨[(2,.ref 0 7 0 0),(3,.ref 1 6 0 0),(4,.d (.v (.slice none 0 0))),(5,.d (vI 0)),(7,.row 2 2 0 (zz).length),(8,.d (vI x)),(9,.d (vI x2))],[bx 7 (.d (B0.d t)),bx 6 (.d (A6.d o)),A8 zz]⟩) ?_ ?_
    ·clear h
     rintro lv3 h
     rw[A0y]at h
     refine E5 (A0 R (H4 R (A3 R (eN ?_))))
     exact⟨m6,_,lS,.prn [2,3,4,5,7,8,9] R,lv3,(W (x2+1)),h,R⟩
    refine D0 (B8 (P5 kR (C7 tb R (B7 (y := .arr 1 ((o.squibs).map vI)) tb R (A0 R ?_)))))
    obtain⟨e,ie,h⟩:=H0 h
    refine J9 tb (S0 ie) (P6 ie) R (H9 (y:=vI e) tb (Q6 (g:=vI) ie) R ?_)
    refine Q0 R R R R ?_ ?_
    ·intro c6
     replace h:=H1 c6 h
     refine A0 R (C7 tb R (B7 (y := .arr 1 ((o.zones).map vI)) tb R (A0 R ?_)))
     obtain⟨e2,ie2,h⟩:=H0 h
     refine J9 tb (S0 ie2) (P6 ie2) R (H9 (y:=vI e2) tb (Q6 (g:=vI) ie2) R ?_)
     refine A35 R R R R ?_ ?_
     ·intro c7
      replace h:=H1 c7 h
      refine B5 R (A0 R (B7 (y:=B0.d t) tb R (C7 tb R (B7 (y := .arr 1 ((o.zones).map vI)) tb R (A0 R (J9 tb (S0 ie2) (P6 ie2) R (H9 (y:=vI e2) tb (Q6 (g:=vI) ie2) R (A0 R ?_))))))))
      obtain⟨rv3,k3,h⟩:=H0 h
      refine H8 (A7a k3) eK R R R R ?_ ?_
      ·intro c8
       replace h:=H1 c8 h
       refine B5 R (F6 kR (A1 (A9 R (E5 (I1 R R R (A0 R (A0 R (L4 (v := .d (.agg [vI x,vI x2])) tb R R (List.cons_ne_nil _ _) R R R R R R (R8 tb R R R R R R R R R R R R R ?_)))))))))
       obtain⟨q,iq,h⟩:=H0 h
       refine A78 (g:=A4.d) (w:=lv2) (v:=[(A4.mk x x2)]) ([bx 7 (.d (B0.d t)),bx 6 (.d (A6.d o)),none,A8 [(A4.mk x x2)]]) tb R R R R R R R R R R R iq R R R R R (A0j R R R (L5 (C3 (A1 ?_))))
       exact .inl ⟨q,h,.vw (κ:=[0,1,4]) (vK (.cons R R (.cons R R O7)) R)⟩
      intro c8
      replace h:=X9 c8 h
      refine B5 R (F6 kR (A1 (A5 R (C0 (C3 (A1 ?_))))))
      exact .inl ⟨lv2,h,.vw (κ:=[0,1,2]) (vK (.cons R R (.cons R R O7)) R)⟩
     intro c7
     replace h:=J0 (Int.not_le.2 c7) h
     refine B5 R (A0 R (H7 8 R (C4 R (F6 kR (A1 (A5 R (C0 (C3 (A1 ?_)))))))))
     exact .inl ⟨lv2,h,.vw (κ:=[0,1,2]) (vK (.cons R R (.cons R R O7)) R)⟩
    intro c6
    replace h:=J0 c6 h
    refine A0 R (H7 6 R (C4 R (A0 R (H7 8 R (C4 R (F6 kR (A1 (A5 R (C0 (C3 (A1 ?_)))))))))))
    exact .inl ⟨lv2,h,.vw (κ:=[0,1,2]) (vK (.cons R R (.cons R R O7)) R)⟩
   intro c5
   replace h:=J0 (nL c5) h
   refine eN (A5 R (I4 (C8 (C8 ?_))))
   subst hK6
   refine F3 (C3 (A1 (E5 (A0 R (H4 R (A3 R (eN ?_)))))))
   exact⟨m4,_,lS,.prn [2,3,4,5,7,8] R,lv2,(W (x+1)),h,R⟩
  intro c4
  replace h:=J0 (nL c4) h
  refine eN (A5 R (I4 (C8 (C8 ?_))))
  subst hK4
  refine F3 (A1 (qG (I1 R R R (A0j R R R (A3 R (eN (C9 ?_)))))))
  obtain rfl:=sI h
  exact f2 [2] O7 R (.cons (.tmp 4) (.cons (.tmp 5) .nil)) R
 refine qG (A0 R ?_)
 refine Q0 R R R R ?_ ?_
 ·intro c
  replace h:=H1 c h
  refine A0 R (B7 (y:=B0.d t) tb R (B7 (y:=A6.d o) tb R ?_))
  obtain⟨rv2,k2,h⟩:=H0 h
  refine H8 (A77 k2) eK R R R R ?_ ?_
  ·intro c2
   replace h:=H1 c2 h
   refine M2 R R R (B5 R (eN (A5 R (C0 (A1 ?_)))))
   exact .inl ⟨rv,h,.prn [2,3,4,5,6] R⟩
  intro c2
  replace h:=X9 c2 h
  refine M3 R R R (B5 R (eN (A9 R (E5 (A3 R (eN ?_))))))
  exact .inl ⟨6,h,.prn [2,3,4,5,6] R⟩
 intro c
 replace h:=J0 c h
 refine A0 R (H7 4 R (C4 R (eN (A5 R (C0 (A1 ?_))))))
 exact .inl ⟨rv,h,.prn [2,3,4,5,6] R⟩
theorem B54 {F:Nat} {t:B0} {o:A6} {r:((List A4) × Int)} (h:A3J F t o=some r):PC Tryz.prog 22 [B0.d t,A6.d o] (.tup [.arr 2 ((r.1).map A4.d),.v (.int .i64 r.2)]):=(A6N h).toPC (.tupL (.cons (.row rfl rfl) (.cons (.d _) .nil)))
def A2w (F:Nat) (a:(List Int)) (b:(List Int)) (K:Int→Option Bool):Nat→Int→Option Bool
 | 0,_=>none
 | n+1,i=>if i<(a.length:Int)then((P7 a i).bind fun e=>(P7 b i).bind fun e2=>if e=e2 then(A2w F a b K n (W (i+1)))else(some false))else(K i)
def A7X (F:Nat) (a:(List Int)) (b:(List Int)):Option Bool:=if(a.length:Int)=(b.length:Int)then(A2w F a b (fun(i:Int)=>some true) F 0)else(some false)
theorem B06 {F:Nat} {a:(List Int)} {b:(List Int)} {r:Bool} (h:A7X F a b=some r):PC Tryz.prog 10 [.arr 1 ((a).map vI),.arr 1 ((b).map vI)] (.v (.bool r)):=by
 rw[A7X]at h
 refine SC.of_sw Tryz.func10 R R R ?_
 dsimp only[M1,List.map]
 refine qG (A3 R (eN (B8 (qG (A0 R (H3 tb R (A0 R (H3 tb R ?_))))))))
 refine T6 R R R R ?_ ?_
 ·intro c
  replace h:=J0 c h
  refine eN (A9 R (qG (A3 R (eN (C9 (B1 ?_))))))
  obtain rfl:=sI h
  exact f1 4 R
 intro c
 replace h:=H1 c h
 refine eN (A5 R (C0 (A1 (B8 (qG (A3 R (eN (D0 ?_))))))))
 obtain⟨K3,hK3,h⟩:∃ K,K=_∧A2w F a b K F 0=some r:=⟨_,rfl,h⟩
 refine H6 (fun m st=>∃ (i:Int),A2w F a b K3 m i=some r∧st=⟨[(0,.d (.arr 1 ((a).map vI))),(1,.d (.arr 1 ((b).map vI))),(4,.d (.v (.bool false))),(5,.d (vI i))],[]⟩) (.prn [0,1,4,5] R) ⟨0,h,R⟩ ?_
 clear h
 rintro m3 st ⟨i,h,rfl⟩
 cases m3 with
 | zero=>cases(show(none:Option Bool)=some r from h)
 | succ m3 =>
 rw[A2w]at h
 refine B8 (qG (A0 R (A0 R (H3 tb R ?_))))
 refine G8 R R R R ?_ ?_
 ·intro c2
  replace h:=H1 c2 h
  refine eN (A9 R (C0 (A1 (B8 (D0 (B8 (P5 kR (A0 R (A0 R ?_)))))))))
  obtain⟨e,ie,h⟩:=H0 h
  refine J9 tb (S0 ie) (P6 ie) R (H9 (y:=vI e) tb (Q6 (g:=vI) ie) R (A0 R (A0 R ?_)))
  obtain⟨e2,ie2,h⟩:=H0 h
  refine J9 tb (S0 ie2) (P6 ie2) R (H9 (y:=vI e2) tb (Q6 (g:=vI) ie2) R ?_)
  refine T6 R R R R ?_ ?_
  ·intro c3
   replace h:=J0 c3 h
   refine F6 kR (A1 (A9 R (qG (A3 R (eN (C9 (C5 (B1 (B1 (C5 (B1 ?_)))))))))))
   obtain rfl:=sI h
   exact f1 4 R
  intro c3
  replace h:=H1 c3 h
  refine F6 kR (A1 (A5 R (C0 (C3 (A1 (E5 (A0 R (H4 R (A3 R (eN ?_))))))))))
  exact⟨m3,_,lS,.prn [0,1,4,5] R,(W (i+1)),h,R⟩
 intro c2
 replace h:=J0 (nL c2) h
 refine eN (A5 R (I4 (C8 (C8 ?_))))
 subst hK3
 refine F3 (A1 (qG (A3 R (eN (C9 ?_)))))
 obtain rfl:=sI h
 exact f1 4 R
def A6b (F:Nat) (nv:Int) (lo:Int) (hi:Int):Option Bool:=if nv<lo then(some true)else(some (decide (hi<nv)))
theorem B1Q {F:Nat} {nv:Int} {lo:Int} {hi:Int} {r:Bool} (h:A6b F nv lo hi=some r):PC Tryz.prog 120 [.v (.int .i64 nv),.v (.int .i64 lo),.v (.int .i64 hi)] (.v (.bool r)):=by
 rw[A6b]at h
 refine SC.of_sw Tryz.func120 R R R ?_
 dsimp only[M1,List.map]
 refine qG (A3 R (eN (qG (A0 R (A0 R ?_)))))
 refine G8 R R R R ?_ ?_
 ·intro c
  replace h:=H1 c h
  refine A0 R (H7 3 R (B5 R (A3 R (eN (C9 ?_)))))
  obtain rfl:=sI h
  exact f1 6 R
 intro c
 replace h:=J0 (nL c) h
 refine A0 R (A0 R (A0 R (B47 R R R R (C4 R (A3 R (eN (C9 ?_)))))))
 obtain rfl:=sI h
 exact f1 6 R
def U9 (F:Nat) (s:ByteArray) (K:Int→Option Bool):Nat→Int→Option Bool
 | 0,_=>none
 | n+1,x=>if x<((S5 s).length:Int)then((P7 (S5 s) x).bind fun e=>if 97≤e then(if e≤122 then(U9 F s K n (W (x+1)))else(if x=0 then(some false)else(if e=45 then(U9 F s K n (W (x+1)))else(if 48≤e then(if e≤57 then(U9 F s K n (W (x+1)))else(some false))else(some false)))))else(if x=0 then(some false)else(if e=45 then(U9 F s K n (W (x+1)))else(if 48≤e then(if e≤57 then(U9 F s K n (W (x+1)))else(some false))else(some false)))))else(K x)
def A2l (F:Nat) (s:ByteArray):Option Bool:=U9 F s (fun(x:Int)=>(A6b F (s.size:Int) 1 24).bind fun rv=>some (!rv)) F 0
theorem A3H {F:Nat} {s:ByteArray} {r:Bool} (h:A2l F s=some r):PC Tryz.prog 98 [.v (.string s)] (.v (.bool r)):=by
 rw[A2l]at h
 refine SC.of_sw Tryz.func98 R R R ?_
 dsimp only[M1,List.map]
 refine qG (A3 R (eN (B8 (qG (A0 R (B55 R R R R R R (H3 tb R (A0 R (eN (D0 ?_))))))))))
 obtain⟨K2,hK2,h⟩:∃ K,K=_∧U9 F s K F 0=some r:=⟨_,rfl,h⟩
 refine H6 (fun m st=>∃ (x:Int),U9 F s K2 m x=some r∧st=⟨[(0,.d (.v (.string s))),(2,.d (.v (.bool false))),(6,.d (.arr 1 (((S5 s)).map v8))),(7,.d (vI ((S5 s).length:Int))),(8,.d (vI x))],[]⟩) (.prn [0,2,6,7,8] R) ⟨0,h,R⟩ ?_
 clear h
 rintro m2 st ⟨x,h,rfl⟩
 cases m2 with
 | zero=>cases(show(none:Option Bool)=some r from h)
 | succ m2 =>
 rw[U9]at h
 refine qG ?_
 refine G8 R R R R ?_ ?_
 ·intro c
  replace h:=H1 c h
  refine eN (B8 (A9 R (C0 (A1 (B8 (D0 (qG (A0 R ?_))))))))
  obtain⟨e,ie,h⟩:=H0 h
  refine J9 tb (S0 ie) (P6 ie) R (H9 (y := .v (.int .u8 e)) tb (Q6 (g:=v8) ie) R (A3 R (A3 R (eN (qG (A0 R ?_))))))
  refine A35 R R R R ?_ ?_
  ·intro c2
   replace h:=H1 c2 h
   refine A0 R (A0 R ?_)
   refine A7A R R R R ?_ ?_
   ·intro c3
    replace h:=H1 c3 h
    refine B5 R (M2 R R R (A0 R (H7 15 R (C4 R (eN (A5 R (C0 (C3 (A1 (E5 (H4 R (A0 R (eN ?_)))))))))))))
    exact⟨m2,_,lS,.prn [0,2,6,7,8] R,(W (x+1)),h,R⟩
   intro c3
   replace h:=J0 (Int.not_le.2 c3) h
   refine B5 R (M3 R R R (A0 R (A0 R ?_)))
   refine Q0 R R R R ?_ ?_
   ·intro c4
    replace h:=H1 c4 h
    refine A0 R (H7 11 R (B5 R (B5 R (eN (A9 R (qG (A3 R (eN (C9 (C5 (B1 (B1 (C5 (B1 ?_))))))))))))))
    obtain rfl:=sI h
    exact f1 2 R
   intro c4
   replace h:=J0 c4 h
   refine A0 R (A0 R ?_)
   refine T6 R R R R ?_ ?_
   ·intro c5
    replace h:=J0 c5 h
    refine A0 R (A0 R ?_)
    refine A35 R R R R ?_ ?_
    ·intro c6
     replace h:=H1 c6 h
     refine A0 R (A0 R ?_)
     refine A7A R R R R ?_ ?_
     ·intro c7
      replace h:=H1 c7 h
      refine B5 R (M2 R R R (B5 R (C4 R (B5 R (eN (A5 R (C0 (C3 (A1 (E5 (H4 R (A0 R (eN ?_)))))))))))))
      exact⟨m2,_,lS,.prn [0,2,6,7,8] R,(W (x+1)),h,R⟩
     intro c7
     replace h:=J0 (Int.not_le.2 c7) h
     refine B5 R (M3 R R R (B5 R (C4 R (B5 R (eN (A9 R (qG (A3 R (eN (C9 (C5 (B1 (B1 (C5 (B1 ?_)))))))))))))))
     obtain rfl:=sI h
     exact f1 2 R
    intro c6
    replace h:=J0 (Int.not_le.2 c6) h
    refine A0 R (H7 2 R (C4 R (M3 R R R (B5 R (C4 R (B5 R (eN (A9 R (qG (A3 R (eN (C9 (C5 (B1 (B1 (C5 (B1 ?_)))))))))))))))))
    obtain rfl:=sI h
    exact f1 2 R
   intro c5
   replace h:=H1 c5 h
   refine A0 R (H7 7 R (C4 R (C4 R (B5 R (eN (A5 R (C0 (C3 (A1 (E5 (H4 R (A0 R (eN ?_)))))))))))))
   exact⟨m2,_,lS,.prn [0,2,6,7,8] R,(W (x+1)),h,R⟩
  intro c2
  replace h:=J0 (Int.not_le.2 c2) h
  refine A0 R (H7 2 R (C4 R (M3 R R R (A0 R (A0 R ?_)))))
  refine Q0 R R R R ?_ ?_
  ·intro c8
   replace h:=H1 c8 h
   refine A0 R (H7 11 R (B5 R (B5 R (eN (A9 R (qG (A3 R (eN (C9 (C5 (B1 (B1 (C5 (B1 ?_))))))))))))))
   obtain rfl:=sI h
   exact f1 2 R
  intro c8
  replace h:=J0 c8 h
  refine A0 R (A0 R ?_)
  refine T6 R R R R ?_ ?_
  ·intro c9
   replace h:=J0 c9 h
   refine A0 R (A0 R ?_)
   refine A35 R R R R ?_ ?_
   ·intro c10
    replace h:=H1 c10 h
    refine A0 R (A0 R ?_)
    refine A7A R R R R ?_ ?_
    ·intro c11
     replace h:=H1 c11 h
     refine B5 R (M2 R R R (B5 R (C4 R (B5 R (eN (A5 R (C0 (C3 (A1 (E5 (H4 R (A0 R (eN ?_)))))))))))))
     exact⟨m2,_,lS,.prn [0,2,6,7,8] R,(W (x+1)),h,R⟩
    intro c11
    replace h:=J0 (Int.not_le.2 c11) h
    refine B5 R (M3 R R R (B5 R (C4 R (B5 R (eN (A9 R (qG (A3 R (eN (C9 (C5 (B1 (B1 (C5 (B1 ?_)))))))))))))))
    obtain rfl:=sI h
    exact f1 2 R
   intro c10
   replace h:=J0 (Int.not_le.2 c10) h
   refine A0 R (H7 2 R (C4 R (M3 R R R (B5 R (C4 R (B5 R (eN (A9 R (qG (A3 R (eN (C9 (C5 (B1 (B1 (C5 (B1 ?_)))))))))))))))))
   obtain rfl:=sI h
   exact f1 2 R
  intro c9
  replace h:=H1 c9 h
  refine A0 R (H7 7 R (C4 R (C4 R (B5 R (eN (A5 R (C0 (C3 (A1 (E5 (H4 R (A0 R (eN ?_)))))))))))))
  exact⟨m2,_,lS,.prn [0,2,6,7,8] R,(W (x+1)),h,R⟩
 intro c
 replace h:=J0 (nL c) h
 refine eN (B8 (A5 R (I4 (C8 (C8 ?_)))))
 subst hK2
 refine F3 (A1 (qG (A0 R (B0B R R R R ?_))))
 obtain⟨rv,k,h⟩:=H0 h
 refine N5 (B1Q k) eK R R R R (A9P R R R (A3 R (eN (C9 ?_))))
 obtain rfl:=sI h
 exact f1 2 R
def T5 (F:Nat) (nv:Int) (lo:Int) (hi:Int):Option Bool:=if nv<lo then(some true)else(some (decide (hi<nv)))
theorem P0 {F:Nat} {nv:Int} {lo:Int} {hi:Int} {r:Bool} (h:T5 F nv lo hi=some r):PC Tryz.prog 34 [.v (.int .i64 nv),.v (.int .i64 lo),.v (.int .i64 hi)] (.v (.bool r)):=by
 rw[T5]at h
 refine SC.of_sw Tryz.func34 R R R ?_
 dsimp only[M1,List.map]
 refine qG (A3 R (eN (qG (A0 R (A0 R ?_)))))
 refine G8 R R R R ?_ ?_
 ·intro c
  replace h:=H1 c h
  refine A0 R (H7 3 R (B5 R (A3 R (eN (C9 ?_)))))
  obtain rfl:=sI h
  exact f1 6 R
 intro c
 replace h:=J0 (nL c) h
 refine A0 R (A0 R (A0 R (B47 R R R R (C4 R (A3 R (eN (C9 ?_)))))))
 obtain rfl:=sI h
 exact f1 6 R
def A4q (F:Nat) (nv:Int):Option Bool:=(T5 F nv 0 9).bind fun rv=>some rv
theorem A6W {F:Nat} {nv:Int} {r:Bool} (h:A4q F nv=some r):PC Tryz.prog 66 [.v (.int .i64 nv)] (.v (.bool r)):=by
 rw[A4q]at h
 refine SC.of_sw Tryz.func66 R R R ?_
 dsimp only[M1,List.map]
 refine qG (A3 R (eN (qG (A0 R ?_))))
 obtain⟨rv,k,h⟩:=H0 h
 refine N5 (P0 k) eK R R R R (A3 R (eN (C9 ?_)))
 obtain rfl:=sI h
 exact f1 2 R
def A4H (F:Nat) (nv:Int):Option Bool:=(T5 F nv (-10000000) 10000000).bind fun rv=>some rv
theorem B0z {F:Nat} {nv:Int} {r:Bool} (h:A4H F nv=some r):PC Tryz.prog 121 [.v (.int .i64 nv)] (.v (.bool r)):=by
 rw[A4H]at h
 refine SC.of_sw Tryz.func121 R R R ?_
 dsimp only[M1,List.map]
 refine qG (A3 R (eN (qG (A0 R ?_))))
 obtain⟨rv,k,h⟩:=H0 h
 refine N5 (P0 k) eK R R R R (A3 R (eN (C9 ?_)))
 obtain rfl:=sI h
 exact f1 2 R
def Q3 (F:Nat) (s:(List Int)) (f:(Int→Option Bool)) (K:Int→Option Int):Nat→Int→Option Int
 | 0,_=>none
 | n+1,x=>if x<(s.length:Int)then((P7 s x).bind fun e=>(f e).bind fun rv=>if rv=true then(some x)else(Q3 F s f K n (W (x+1))))else(K x)
def A04 (F:Nat) (s:(List Int)) (f:(Int→Option Bool)):Option Int:=Q3 F s f (fun(x:Int)=>some (-1)) F 0
theorem A42 {F:Nat} {s:(List Int)} {f:(Int→Option Bool)} {r:Int} {fi:Nat} {fc:List D} (fh:∀ {a0:Int} {r:Bool},f a0=some r→PC Tryz.prog fi ([.v (.int .i64 a0)]++fc) (.v (.bool r))) (fe:Ent Tryz.prog fi) (h:A04 F s f=some r):SCR Tryz.prog 101 [.d (.arr 1 ((s).map vI)),.fn (.func fi) [] (fc.map .d)] [] (.d (.v (.int .i64 r))) (List.map some []):=by
 rw[A04]at h
 refine SC.of_sw Tryz.func101 R R R ?_
 dsimp only[M1,List.map]
 refine qG (A3 R (eN (B8 (qG (A0 R (H3 tb R (A0 R (eN (D0 ?_)))))))))
 obtain⟨K2,hK2,h⟩:∃ K,K=_∧Q3 F s f K F 0=some r:=⟨_,rfl,h⟩
 refine H6 (fun m st=>∃ (x:Int),Q3 F s f K2 m x=some r∧st=⟨[(0,.d (.arr 1 ((s).map vI))),(1,.fn (.func fi) [] (fc.map .d)),(4,.d (vI 0)),(7,.d (vI (s.length:Int))),(8,.d (vI x))],[]⟩) (.prn [0,1,4,7,8] R) ⟨0,h,R⟩ ?_
 clear h
 rintro m2 st ⟨x,h,rfl⟩
 cases m2 with
 | zero=>cases(show(none:Option Int)=some r from h)
 | succ m2 =>
 rw[Q3]at h
 refine qG ?_
 refine G8 R R R R ?_ ?_
 ·intro c
  replace h:=H1 c h
  refine eN (B8 (A9 R (C0 (A1 (B8 (D0 (qG (A0 R (A3 R (eN (qG (A4b R R R (A0 R (A0 R ?_))))))))))))))
  obtain⟨e,ie,h⟩:=H0 h
  refine J9 tb (S0 ie) (P6 ie) R (H9 (y:=vI e) tb (Q6 (g:=vI) ie) R ?_)
  obtain⟨rv,k,h⟩:=H0 h
  refine A2M (vs:=[vI e]) (fh k) fe R R R R ?_
  with_reducible apply Y9
  ·intro c2
   replace h:=H1 c2 h
   refine eN (A9 R (qG (A0 R (A3 R (eN (C9 (C5 (B1 (B1 (C5 (B1 ?_)))))))))))
   obtain rfl:=sI h
   exact f1 4 R
  intro c2
  replace h:=X9 c2 h
  refine eN (A5 R (C0 (C3 (A1 (E5 (H4 R (A0 R (eN ?_))))))))
  exact⟨m2,_,lS,.prn [0,1,4,7,8] R,(W (x+1)),h,R⟩
 intro c
 replace h:=J0 (nL c) h
 refine eN (B8 (A5 R (I4 (C8 (C8 ?_)))))
 subst hK2
 refine F3 (A1 (qG (A3 R (eN (C9 ?_)))))
 obtain rfl:=sI h
 exact f1 4 R
def J8 (F:Nat) (s:(List Int)) (f:(Int→Option Bool)):Option Bool:=(A04 F s f).bind fun rv=>some (decide (0≤rv))
theorem P8 {F:Nat} {s:(List Int)} {f:(Int→Option Bool)} {r:Bool} {fi:Nat} {fc:List D} (fh:∀ {a0:Int} {r:Bool},f a0=some r→PC Tryz.prog fi ([.v (.int .i64 a0)]++fc) (.v (.bool r))) (fe:Ent Tryz.prog fi) (h:J8 F s f=some r):SCR Tryz.prog 76 [.d (.arr 1 ((s).map vI)),.fn (.func fi) [] (fc.map .d)] [] (.d (.v (.bool r))) (List.map some []):=by
 rw[J8]at h
 refine SC.of_sw Tryz.func76 R R R ?_
 dsimp only[M1,List.map]
 refine qG (A3 R (eN (qG (A0 R (A4b R R R ?_)))))
 obtain⟨rv,k,h⟩:=H0 h
 refine A19 (t' := .d (vI rv)) (news':=[]) (A42 (f:=f) (fh:=fh) (fe:=fe) k) R .nil eK R R ((.cons (.d (.d _)) (.cons .hof .nil))) R .nil R R R ?_
 simp only[List.map_nil,List.append_nil]
 refine A5p R R R R (A3 R (eN (C9 ?_)))
 obtain rfl:=sI h
 exact f1 4 R
def A6x (F:Nat) (lv:(List Int)):Option Bool:=(J8 F lv (fun a0=>A4H F a0)).bind fun rv=>some rv
theorem A9h {F:Nat} {lv:(List Int)} {r:Bool} (h:A6x F lv=some r):PC Tryz.prog 99 [.arr 1 ((lv).map vI)] (.v (.bool r)):=by
 rw[A6x]at h
 refine SC.of_sw Tryz.func99 R R R ?_
 dsimp only[M1,List.map]
 refine qG (A3 R (eN (qG (A0 R ?_))))
 obtain⟨rv,k,h⟩:=H0 h
 refine A19 (t' := .d (.v (.bool rv))) (news':=[]) (P8 (f:=(fun a0=>A4H F a0)) (fc:=[]) (fh:=fun hr=>B0z hr) (fe := .of kR) k) R .nil eK R R ((.cons (.d (.d _)) (.cons .fnc .nil))) R .nil R R R ?_
 simp only[List.map_nil,List.append_nil]
 refine A3 R (eN (C9 ?_))
 obtain rfl:=sI h
 exact f1 2 R
def A2Y (F:Nat) (z:E9):Option ByteArray:=some z.name
theorem A8X {F:Nat} {z:E9} {r:ByteArray} (h:A2Y F z=some r):PC Tryz.prog 61 [E9.d z] (.v (.string r)):=by
 rw[A2Y]at h
 refine SC.of_sw Tryz.func61 R R R ?_
 dsimp only[M1,List.map]
 refine qG (M4 R (A3 R (eN (qG (C7 tb R (B7 (y := .v (.string z.name)) tb R (A3 R (eN (C9 ?_)))))))))
 obtain rfl:=sI h
 exact f1 2 R
def A1Z (F:Nat) (x:E3):Option ByteArray:=some x.name
theorem A8Y {F:Nat} {x:E3} {r:ByteArray} (h:A1Z F x=some r):PC Tryz.prog 64 [E3.d x] (.v (.string r)):=by
 rw[A1Z]at h
 refine SC.of_sw Tryz.func64 R R R ?_
 dsimp only[M1,List.map]
 refine qG (M4 R (A3 R (eN (qG (C7 tb R (B7 (y := .v (.string x.name)) tb R (A3 R (eN (C9 ?_)))))))))
 obtain rfl:=sI h
 exact f1 2 R
def A2a (F:Nat) (x:E3):Option Int:=(A4q F x.grade).bind fun rv=>if rv=true then(some 7)else(some 0)
theorem A8Z {F:Nat} {x:E3} {r:Int} (h:A2a F x=some r):PC Tryz.prog 65 [E3.d x] (.v (.int .i64 r)):=by
 rw[A2a]at h
 refine SC.of_sw Tryz.func65 R R R ?_
 dsimp only[M1,List.map]
 refine qG (M4 R (A3 R (eN (B8 (qG (C7 tb R (B7 (y:=vI x.grade) tb R ?_)))))))
 obtain⟨rv,k,h⟩:=H0 h
 refine H8 (A6W k) eK R R R R ?_ ?_
 ·intro c
  replace h:=H1 c h
  refine eN (A9 R (qG (A3 R (eN (C9 (B1 ?_))))))
  obtain rfl:=sI h
  exact f1 2 R
 intro c
 replace h:=X9 c h
 refine eN (A5 R (C0 (A1 (qG (A3 R (eN (C9 ?_)))))))
 obtain rfl:=sI h
 exact f1 2 R
def A2b (F:Nat) (s:ByteArray):Option ByteArray:=some s
theorem A9a {F:Nat} {s:ByteArray} {r:ByteArray} (h:A2b F s=some r):PC Tryz.prog 68 [.v (.string s)] (.v (.string r)):=by
 rw[A2b]at h
 refine SC.of_sw Tryz.func68 R R R ?_
 dsimp only[M1,List.map]
 refine qG (A3 R (eN (qG (A0 R (A3 R (eN (C9 ?_)))))))
 obtain rfl:=sI h
 exact f1 2 R
def A2c (F:Nat) (a:ByteArray):Option Int:=some 0
theorem A9b {F:Nat} {a:ByteArray} {r:Int} (h:A2c F a=some r):PC Tryz.prog 69 [.v (.string a)] (.v (.int .i64 r)):=by
 rw[A2c]at h
 refine SC.of_sw Tryz.func69 R R R ?_
 dsimp only[M1,List.map]
 refine qG (A3 R (eN (qG (A3 R (eN (C9 ?_))))))
 obtain rfl:=sI h
 exact f1 2 R
def A2d (F:Nat) (q:C6):Option ByteArray:=some q.name
theorem A9c {F:Nat} {q:C6} {r:ByteArray} (h:A2d F q=some r):PC Tryz.prog 71 [C6.d q] (.v (.string r)):=by
 rw[A2d]at h
 refine SC.of_sw Tryz.func71 R R R ?_
 dsimp only[M1,List.map]
 refine qG (M4 R (A3 R (eN (qG (C7 tb R (B7 (y := .v (.string q.name)) tb R (A3 R (eN (C9 ?_)))))))))
 obtain rfl:=sI h
 exact f1 2 R
def A0P (F:Nat) :Option Int:=some 7
def A4J (F:Nat) (z:E9):Option Int:=(A6x F [z.F8,z.F7,z.G0,z.F9]).bind fun rv=>if rv=true then(A0P F)else(if z.F7<z.F8 then(A0P F)else(if z.F9<z.G0 then(A0P F)else((A4q F z.grade).bind fun rv2=>if rv2=true then(A0P F)else((T5 F z.room 1 8).bind fun rv3=>if rv3=true then(A0P F)else(some 0)))))
theorem B1r {F:Nat} {z:E9} {r:Int} (h:A4J F z=some r):PC Tryz.prog 62 [E9.d z] (.v (.int .i64 r)):=by
 rw[A4J]at h
 refine SC.of_sw Tryz.func62 R R R ?_
 dsimp only[M1,List.map]
 refine qG (M4 R (A3 R (eN (B8 (P5 kR (C7 tb R (C7 tb R (B7 (y := .agg [vI z.F8,vI z.F7]) tb R (C7 tb R (C7 tb R (B7 (y := .agg [vI z.G0,vI z.F9]) tb R (N0 tb R R R R R (N0 tb R R R R R (I5 _ _ tb R (I5 _ _ tb R (F6 kR (A1 (B8 (B8 ?_)))))))))))))))))))
 refine N3 (fun zz:Unit=>A0P F=some r) (fun zz:Unit=>⟨[(2,.d (vI 0)),(44,.d (.v (.bool true)))],[]⟩) ?_ ?_
 ·clear h
  rintro⟨⟩ h
  rw[A0P]at h
  refine A9 R (qG (A3 R (eN (C9 (B1 ?_)))))
  obtain rfl:=sI h
  exact f1 2 R
 refine E5 (C7 tb R (B7 (y:=vI z.F8) tb R (C7 tb R (B7 (y:=vI z.F7) tb R (C7 tb R (B7 (y:=vI z.G0) tb R (C7 tb R (B7 (y:=vI z.F9) tb R (R8 tb R R R R R R R R R R R R R ?_)))))))))
 obtain⟨rv,k,h⟩:=H0 h
 refine A4N (A9h k) eK R R ((.cons (.row R R) .nil)) R R ?_ ?_
 ·intro c
  replace h:=H1 c h
  refine A0 R (H7 5 R (B5 R (A0 R (H7 5 R (B5 R (A0 R (H7 3 R (B5 R (A0 R (H7 3 R (B5 R (eN ?_))))))))))))
  exact .inl ⟨(),h,.vw (κ:=[]) (v0 R)⟩
 intro c
 replace h:=X9 c h
 refine A0 R (C7 tb R (B7 (y:=vI z.F8) tb R (C7 tb R (B7 (y:=vI z.F7) tb R ?_))))
 refine A1D R R R R ?_ ?_
 ·intro c2
  replace h:=H1 c2 h
  refine C4 R (A0 R (H7 5 R (B5 R (A0 R (H7 3 R (B5 R (A0 R (H7 3 R (B5 R (eN ?_))))))))))
  exact .inl ⟨(),h,.vw (κ:=[]) (v0 R)⟩
 intro c2
 replace h:=J0 (nL c2) h
 refine C4 R (A0 R (C7 tb R (B7 (y:=vI z.G0) tb R (C7 tb R (B7 (y:=vI z.F9) tb R ?_)))))
 refine A1D R R R R ?_ ?_
 ·intro c3
  replace h:=H1 c3 h
  refine C4 R (A0 R (H7 3 R (B5 R (A0 R (H7 3 R (B5 R (eN ?_)))))))
  exact .inl ⟨(),h,.vw (κ:=[]) (v0 R)⟩
 intro c3
 replace h:=J0 (nL c3) h
 refine C4 R (A0 R (C7 tb R (B7 (y:=vI z.grade) tb R ?_)))
 obtain⟨rv2,k2,h⟩:=H0 h
 refine H8 (A6W k2) eK R R R R ?_ ?_
 ·intro c4
  replace h:=H1 c4 h
  refine C4 R (A0 R (H7 3 R (B5 R (eN ?_))))
  exact .inl ⟨(),h,.vw (κ:=[]) (v0 R)⟩
 intro c4
 replace h:=X9 c4 h
 refine C4 R (A0 R (C7 tb R (B7 (y:=vI z.room) tb R ?_)))
 obtain⟨rv3,k3,h⟩:=H0 h
 refine H8 (P0 k3) eK R R R R ?_ ?_
 ·intro c5
  replace h:=H1 c5 h
  refine C4 R (eN ?_)
  exact .inl ⟨(),h,.vw (κ:=[]) (v0 R)⟩
 intro c5
 replace h:=X9 c5 h
 refine C4 R (eN (.inr (A5 R (C0 (A1 (qG (A3 R (eN (C9 ?_)))))))))
 obtain rfl:=sI h
 exact f1 2 R
def A3e (F:Nat) (k:Int) (c:Int):Option Bool:=(T5 F k 0 (W (c-1))).bind fun rv=>some rv
theorem A9i {F:Nat} {k:Int} {c:Int} {r:Bool} (h:A3e F k c=some r):PC Tryz.prog 100 [.v (.int .i64 k),.el 1 (([c]).map vI) ((0:Int)).toNat 0] (.v (.bool r)):=by
 rw[A3e]at h
 refine SC.of_sw Tryz.func100 R R R ?_
 dsimp only[M1,List.map]
 refine qG (A3 R (eN (qG (A0 R (H9 (y:=vI c) tb (Q6 (g:=vI) (R:P7 [c] 0=some c)) R (O6 R R R R ?_))))))
 obtain⟨rv,k,h⟩:=H0 h
 refine N5 (P0 k) eK R R R R (A3 R (eN (C9 ?_)))
 obtain rfl:=sI h
 exact f1 3 R
def A1b (F:Nat) (q:C6) (q2:(List Int)) (K:Int→Option Int):Nat→Int→Option Int
 | 0,_=>none
 | n+1,x=>if x<(q2.length:Int)then((P7 q.keys x).bind fun e=>(P7 q.keys (W (x+1))).bind fun e2=>if e2≤e then(some 2)else(A1b F q q2 K n (W (x+1))))else(K x)
def A2v (F:Nat) (q:C6):Option Int:=(A91 q.keys 1 q.keys.length).bind fun q2=>A1b F q q2 (fun(x:Int)=>some 0) F 0
def A4I (F:Nat) (q:C6) (keys:Int):Option Int:=(A6x F [q.A0o,q.A0p]).bind fun rv=>if rv=true then(some 7)else((T5 F q.clear 0 10000000).bind fun rv2=>if rv2=true then(some 7)else((A4q F q.grade).bind fun rv3=>if rv3=true then(some 7)else(if(q.keys.length:Int)=0 then(some 4)else((J8 F q.keys (fun a0=>A3e F a0 keys)).bind fun rv4=>if rv4=true then(some 4)else(A2v F q)))))
theorem B02 {F:Nat} {q:C6} {keys:Int} {r:Int} (h:A4I F q keys=some r):PC Tryz.prog 73 [C6.d q,.v (.int .i64 keys)] (.v (.int .i64 r)):=by
 rw[A4I]at h
 refine SC.of_sw Tryz.func73 R R R ?_
 dsimp only[M1,List.map]
 refine qG (M4 R (M4 R (A3 R (eN (B8 ?_)))))
 refine N3 (fun zz:Unit=>A2v F q=some r) (fun zz:Unit=>⟨[(2,.ref 0 6 0 0),(4,.d (vI 0))],[bx 6 (.d (C6.d q))]⟩) ?_ ?_
 ·clear h
  rintro⟨⟩ h
  rw[A2v]at h
  refine B8 (qG (C7 tb R (B7 (y := .arr 1 ((q.keys).map vI)) tb R ?_)))
  obtain⟨q2,iq2,h⟩:=H0 h
  refine B4D tb R R R R R R iq2 R R (H3 tb R (A0 R (eN (D0 ?_))))
  obtain⟨K3,hK3,h⟩:∃ K,K=_∧A1b F q q2 K F 0=some r:=⟨_,rfl,h⟩
  refine H6 (fun m st=>∃ (x:Int),A1b F q q2 K3 m x=some r∧st=⟨[(2,.ref 0 6 0 0),(4,.d (vI 0)),(39,.d (vI (q2.length:Int))),(40,.d (vI x))],[bx 6 (.d (C6.d q))]⟩) (.prn [2,4,39,40] R) ⟨0,h,R⟩ ?_
  clear h
  rintro m3 st ⟨x,h,rfl⟩
  cases m3 with
  | zero=>cases(show(none:Option Int)=some r from h)
  | succ m3 =>
  rw[A1b]at h
  refine qG ?_
  refine G8 R R R R ?_ ?_
  ·intro c6
   replace h:=H1 c6 h
   refine eN (B8 (A9 R (C0 (A1 (B8 (D0 (qG (A0 R (A3 R (eN (B8 (P5 kR (C7 tb R (B7 (y := .arr 1 ((q.keys).map vI)) tb R (A0 R ?_)))))))))))))))
   obtain⟨e,ie,h⟩:=H0 h
   refine J9 tb (S0 ie) (P6 ie) R (H9 (y:=vI e) tb (Q6 (g:=vI) ie) R (C7 tb R (B7 (y := .arr 1 ((q.keys).map vI)) tb R (A0 R (H4 R ?_)))))
   obtain⟨e2,ie2,h⟩:=H0 h
   refine J9 tb (S0 ie2) (P6 ie2) R (H9 (y:=vI e2) tb (Q6 (g:=vI) ie2) R ?_)
   refine A35 R R R R ?_ ?_
   ·intro c7
    replace h:=H1 c7 h
    refine F6 kR (A1 (A9 R (qG (A3 R (eN (C9 (C5 (B1 (B1 (C5 (B1 ?_)))))))))))
    obtain rfl:=sI h
    exact f1 4 R
   intro c7
   replace h:=J0 (Int.not_le.2 c7) h
   refine F6 kR (A1 (A5 R (C0 (C3 (A1 (E5 (H4 R (A0 R (eN ?_)))))))))
   exact⟨m3,_,lS,.prn [2,4,39,40] R,(W (x+1)),h,R⟩
  intro c6
  replace h:=J0 (nL c6) h
  refine eN (B8 (A5 R (I4 (C8 (C8 ?_)))))
  subst hK3
  refine F3 (A1 (qG (A3 R (eN (C9 ?_)))))
  obtain rfl:=sI h
  exact f1 4 R
 refine D0 (qG (C7 tb R (C7 tb R (B7 (y:=vI q.A0o) tb R (C7 tb R (C7 tb R (B7 (y:=vI q.A0p) tb R (R8 tb R R R R R R R R R R R R R ?_))))))))
 obtain⟨rv,k,h⟩:=H0 h
 refine A4N (A9h k) eK R R ((.cons (.row R R) .nil)) R R ?_ ?_
 ·intro c
  replace h:=H1 c h
  refine A0 R (H7 3 R (B5 R (A0 R (H7 3 R (B5 R (A3 R (eN (A9 R (qG (A3 R (eN (C9 (C5 (B1 ?_))))))))))))))
  obtain rfl:=sI h
  exact f1 4 R
 intro c
 replace h:=X9 c h
 refine A0 R (C7 tb R (B7 (y:=vI q.clear) tb R ?_))
 obtain⟨rv2,k2,h⟩:=H0 h
 refine H8 (P0 k2) eK R R R R ?_ ?_
 ·intro c2
  replace h:=H1 c2 h
  refine C4 R (A0 R (H7 3 R (B5 R (A3 R (eN (A9 R (qG (A3 R (eN (C9 (C5 (B1 ?_))))))))))))
  obtain rfl:=sI h
  exact f1 4 R
 intro c2
 replace h:=X9 c2 h
 refine C4 R (A0 R (C7 tb R (B7 (y:=vI q.grade) tb R ?_)))
 obtain⟨rv3,k3,h⟩:=H0 h
 refine H8 (A6W k3) eK R R R R ?_ ?_
 ·intro c3
  replace h:=H1 c3 h
  refine C4 R (A3 R (eN (A9 R (qG (A3 R (eN (C9 (C5 (B1 ?_)))))))))
  obtain rfl:=sI h
  exact f1 4 R
 intro c3
 replace h:=X9 c3 h
 refine C4 R (A3 R (eN (A5 R (qG (C7 tb R (B7 (y := .arr 1 ((q.keys).map vI)) tb R (H3 tb R ?_)))))))
 refine Q0 R R R R ?_ ?_
 ·intro c4
  replace h:=H1 c4 h
  refine A0 R (H7 4 R (B5 R (A3 R (eN (A9 R (qG (A3 R (eN (C9 (C5 (B1 ?_)))))))))))
  obtain rfl:=sI h
  exact f1 4 R
 intro c4
 replace h:=J0 c4 h
 refine A0 R (C7 tb R (B7 (y := .arr 1 ((q.keys).map vI)) tb R (A7b R R R R ?_)))
 obtain⟨rv4,k4,h⟩:=H0 h
 refine A19 (t' := .d (.v (.bool rv4))) (news':=[]) (P8 (f:=(fun a0=>A3e F a0 keys)) (fc:=[.el 1 [vI keys] 0 0]) (fh:=fun hr=>A9i hr) (fe := .of kR) k4) R .nil eK R R ((.cons (.d (.d _)) (.cons (.fnC (.cons (.d (.ref R (.d _))) .nil)) .nil))) R .nil R R R ?_
 simp only[List.map_nil,List.append_nil]
 with_reducible apply Y9
 ·intro c5
  replace h:=H1 c5 h
  refine C4 R (A3 R (eN (A9 R (qG (A3 R (eN (C9 (C5 (B1 ?_)))))))))
  obtain rfl:=sI h
  exact f1 4 R
 intro c5
 replace h:=X9 c5 h
 refine C4 R (A3 R (eN (A5 R (C0 (C3 (A1 ?_))))))
 exact .inl ⟨(),h,.vw (κ:=[0]) (vK (.cons R R .nil) R)⟩
def A2e (F:Nat) (q:C6) (c:B0):Option Int:=(A4I F q (c.keys.length:Int)).bind fun rv=>some rv
theorem A9d {F:Nat} {q:C6} {c:B0} {r:Int} (h:A2e F q c=some r):PC Tryz.prog 72 [C6.d q,.el 7 (([c]).map B0.d) ((0:Int)).toNat 0] (.v (.int .i64 r)):=by
 rw[A2e]at h
 refine SC.of_sw Tryz.func72 R R R ?_
 dsimp only[M1,List.map]
 refine qG (M4 R (A3 R (eN (qG (B7 (y:=C6.d q) tb R (M0 tb R (H9 (y := .arr 1 ((c.keys).map vS)) tb (Q6 (g:=B0.d) (R:P7 [c] 0=some c)) R (H3 tb R ?_))))))))
 obtain⟨rv,k,h⟩:=H0 h
 refine N5 (B02 k) eK R R R R (A3 R (eN (C9 ?_)))
 obtain rfl:=sI h
 exact f1 3 R
def T2 (F:Nat) (lv:(List E9)) (name:(E9→Option ByteArray)) (rest:(E9→Option Int)) (K:(List (ByteArray × Bool))→Int→Option (Int × Int)):Nat→(List (ByteArray × Bool))→Int→Option (Int × Int)
 | 0,_,_=>none
 | n+1,seen,x=>if x<(lv.length:Int)then((P7 lv x).bind fun e=>(name e).bind fun rv=>(A2l F rv).bind fun rv2=>if rv2=true then(if((A2X seen rv).getD false)=true then(some (x,5))else((rest e).bind fun rv3=>if rv3=0 then(T2 F lv name rest K n (A1o seen rv true) (W (x+1)))else(some (x,rv3))))else(some (x,6)))else(K seen x)
def A0I (F:Nat) (lv:(List E9)) (name:(E9→Option ByteArray)) (rest:(E9→Option Int)):Option (Int × Int):=T2 F lv name rest (fun(seen:(List (ByteArray × Bool))) (x:Int)=>some (0,0)) F ([]:List (ByteArray × Bool)) 0
theorem A5G {F:Nat} {lv:(List E9)} {name:(E9→Option ByteArray)} {rest:(E9→Option Int)} {r:(Int × Int)} {namei:Nat} {namec:List D} (nameh:∀ {a0:E9} {r:ByteArray},name a0=some r→PC Tryz.prog namei ([E9.d a0]++namec) (.v (.string r))) (namee:Ent Tryz.prog namei) {resti:Nat} {restc:List D} (resth:∀ {a0:E9} {r:Int},rest a0=some r→PC Tryz.prog resti ([E9.d a0]++restc) (.v (.int .i64 r))) (reste:Ent Tryz.prog resti) (h:A0I F lv name rest=some r):SCR Tryz.prog 60 [.d (.arr 8 ((lv).map E9.d)),.fn (.func namei) [] (namec.map .d),.fn (.func resti) [] (restc.map .d)] [] (.d (.tup [.v (.int .i64 r.1),.v (.int .i64 r.2)])) (List.map some []):=by
 rw[A0I]at h
 refine SC.of_sw Tryz.func60 R R R ?_
 dsimp only[M1,List.map]
 refine qG (A3 R (A3 R (eN (qG (A63 R R R (B0A (.mp 0) R R R (eN (B8 (qG (A0 R (H3 tb R (A0 R (eN (D0 ?_))))))))))))))
 obtain⟨K3,hK3,h⟩:∃ K,K=_∧T2 F lv name rest K F ([]:List (ByteArray × Bool)) 0=some r:=⟨_,rfl,h⟩
 refine H6 (fun m st=>∃ (seen:(List (ByteArray × Bool))) (x:Int),T2 F lv name rest K3 m seen x=some r∧st=⟨[(1,.fn (.func namei) [] (namec.map .d)),(2,.fn (.func resti) [] (restc.map .d)),(6,.d (vI 0)),(7,.d (vI 0)),(8,.mp 0),(14,.d (.arr 8 ((lv).map E9.d))),(15,.d (vI (lv.length:Int))),(16,.d (vI x))],[A9u seen]⟩) (.prn [1,2,6,7,8,14,15,16] R) ⟨([]:List (ByteArray × Bool)),0,h,R⟩ ?_
 clear h
 rintro m3 st ⟨seen,x,h,rfl⟩
 cases m3 with
 | zero=>cases(show(none:Option (Int × Int))=some r from h)
 | succ m3 =>
 rw[T2]at h
 refine qG ?_
 refine G8 R R R R ?_ ?_
 ·intro c
  replace h:=H1 c h
  refine eN (B8 (A9 R (C0 (A1 (B8 (D0 (qG (A0 R ?_))))))))
  obtain⟨e,ie,h⟩:=H0 h
  refine J9 tb (S0 ie) (P6 ie) R (H9 (y:=E9.d e) tb (Q6 (g:=E9.d) ie) R (N0 tb R R R R R (A3 R (I5 _ _ tb R (eN (qG (A4b R R R (B7 (y:=E9.d e) tb R ?_))))))))
  obtain⟨rv,k,h⟩:=H0 h
  refine A2M (vs:=[E9.d e]) (nameh k) namee R R R R (A3 R (eN (B8 (D0 (qG (A0 R ?_))))))
  obtain⟨rv2,k2,h⟩:=H0 h
  refine H8 (A3H k2) eK R R R R ?_ ?_
  ·intro c2
   replace h:=H1 c2 h
   refine M2 R R R (A3 R (eN (A5 R (qG (A2G (.mp 0) R R R (A0 R ?_))))))
   refine B2V (vf:=fun b => .v (.bool b)) (z0:=false) (u := .v (.bool ((A2X seen rv).getD false))) tb R R R R R R R R R R ?_
   with_reducible apply Y9
   ·intro c3
    replace h:=H1 c3 h
    refine A3 R (eN (A9 R (qG (A0 R (A3 R (A3 R (eN (C9 (C5 (B1 (C5 (B1 (B1 (C5 (B1 ?_)))))))))))))))
    obtain rfl:=sI h
    exact Q2 (t := .d (.tup [vI x,vI 5])) R R R (.cons (.tmp 6) (.cons (.tmp 7) .nil))
   intro c3
   replace h:=X9 c3 h
   refine A3 R (eN (A5 R (C0 (C3 (A1 (B8 (qG (A4b R R R (B7 (y:=E9.d e) tb R ?_)))))))))
   obtain⟨rv3,k3,h⟩:=H0 h
   refine A2M (vs:=[E9.d e]) (resth k3) reste R R R R (A3 R (eN (qG (A0 R ?_))))
   refine T6 R R R R ?_ ?_
   ·intro c4
    replace h:=J0 c4 h
    refine eN (A9 R (qG (A0 R (A0 R (A3 R (A3 R (eN (C9 (B1 (C5 (B1 (B1 (C5 (B1 ?_))))))))))))))
    obtain rfl:=sI h
    exact Q2 (t := .d (.tup [vI x,vI rv3])) R R R (.cons (.tmp 6) (.cons (.tmp 7) .nil))
   intro c4
   replace h:=H1 c4 h
   refine eN (A5 R (C0 (A1 (E5 (A2G (.mp 0) R R R (A0 R ?_))))))
   refine A88 (vf:=fun b => .v (.bool b)) (v:=true) (q:=(A1o seen rv true)) ([A9u (A1o seen rv true),bx 8 (.d (E9.d e))]) R R R R R R R R R ?_
   refine L5 (C3 (A1 (E5 (H4 R (A0 R (eN ?_))))))
   exact⟨m3,⟨[(1,.fn (.func namei) [] (namec.map .d)),(2,.fn (.func resti) [] (restc.map .d)),(6,.d (vI 0)),(7,.d (vI 0)),(8,.mp 0),(14,.d (.arr 8 ((lv).map E9.d))),(15,.d (vI (lv.length:Int))),(16,.d (vI (W (x+1))))],[A9u (A1o seen rv true)]⟩,lS,.vw (κ:=[0]) (vwK R R (.map R .nil) (.hof R (.hof R (.cons R R (.cons R R (.cons R R (.cons R R (.cons R R (.cons R R .nil))))))))),(A1o seen rv true),(W (x+1)),h,R⟩
  intro c2
  replace h:=X9 c2 h
  refine M3 R R R (A3 R (eN (A9 R (qG (A0 R (A3 R (A3 R (eN (C9 (C5 (B1 (C5 (B1 (B1 (C5 (B1 ?_))))))))))))))))
  obtain rfl:=sI h
  exact Q2 (t := .d (.tup [vI x,vI 6])) R R R (.cons (.tmp 6) (.cons (.tmp 7) .nil))
 intro c
 replace h:=J0 (nL c) h
 refine eN (B8 (A5 R (I4 (C8 (C8 ?_)))))
 subst hK3
 refine F3 (A1 (qG (A3 R (A3 R (eN (C9 ?_))))))
 obtain rfl:=sI h
 exact Q2 (t := .d (.tup [vI 0,vI 0])) R R R (.cons (.tmp 6) (.cons (.tmp 7) .nil))
def R5 (F:Nat) (lv:(List E3)) (name:(E3→Option ByteArray)) (rest:(E3→Option Int)) (K:(List (ByteArray × Bool))→Int→Option (Int × Int)):Nat→(List (ByteArray × Bool))→Int→Option (Int × Int)
 | 0,_,_=>none
 | n+1,seen,x=>if x<(lv.length:Int)then((P7 lv x).bind fun e=>(name e).bind fun rv=>(A2l F rv).bind fun rv2=>if rv2=true then(if((A2X seen rv).getD false)=true then(some (x,5))else((rest e).bind fun rv3=>if rv3=0 then(R5 F lv name rest K n (A1o seen rv true) (W (x+1)))else(some (x,rv3))))else(some (x,6)))else(K seen x)
def A0d (F:Nat) (lv:(List E3)) (name:(E3→Option ByteArray)) (rest:(E3→Option Int)):Option (Int × Int):=R5 F lv name rest (fun(seen:(List (ByteArray × Bool))) (x:Int)=>some (0,0)) F ([]:List (ByteArray × Bool)) 0
theorem A5h {F:Nat} {lv:(List E3)} {name:(E3→Option ByteArray)} {rest:(E3→Option Int)} {r:(Int × Int)} {namei:Nat} {namec:List D} (nameh:∀ {a0:E3} {r:ByteArray},name a0=some r→PC Tryz.prog namei ([E3.d a0]++namec) (.v (.string r))) (namee:Ent Tryz.prog namei) {resti:Nat} {restc:List D} (resth:∀ {a0:E3} {r:Int},rest a0=some r→PC Tryz.prog resti ([E3.d a0]++restc) (.v (.int .i64 r))) (reste:Ent Tryz.prog resti) (h:A0d F lv name rest=some r):SCR Tryz.prog 63 [.d (.arr 2 ((lv).map E3.d)),.fn (.func namei) [] (namec.map .d),.fn (.func resti) [] (restc.map .d)] [] (.d (.tup [.v (.int .i64 r.1),.v (.int .i64 r.2)])) (List.map some []):=by
 rw[A0d]at h
 refine SC.of_sw Tryz.func63 R R R ?_
 dsimp only[M1,List.map]
 refine qG (A3 R (A3 R (eN (qG (A63 R R R (B0A (.mp 0) R R R (eN (B8 (qG (A0 R (H3 tb R (A0 R (eN (D0 ?_))))))))))))))
 obtain⟨K3,hK3,h⟩:∃ K,K=_∧R5 F lv name rest K F ([]:List (ByteArray × Bool)) 0=some r:=⟨_,rfl,h⟩
 refine H6 (fun m st=>∃ (seen:(List (ByteArray × Bool))) (x:Int),R5 F lv name rest K3 m seen x=some r∧st=⟨[(1,.fn (.func namei) [] (namec.map .d)),(2,.fn (.func resti) [] (restc.map .d)),(6,.d (vI 0)),(7,.d (vI 0)),(8,.mp 0),(14,.d (.arr 2 ((lv).map E3.d))),(15,.d (vI (lv.length:Int))),(16,.d (vI x))],[A9u seen]⟩) (.prn [1,2,6,7,8,14,15,16] R) ⟨([]:List (ByteArray × Bool)),0,h,R⟩ ?_
 clear h
 rintro m3 st ⟨seen,x,h,rfl⟩
 cases m3 with
 | zero=>cases(show(none:Option (Int × Int))=some r from h)
 | succ m3 =>
 rw[R5]at h
 refine qG ?_
 refine G8 R R R R ?_ ?_
 ·intro c
  replace h:=H1 c h
  refine eN (B8 (A9 R (C0 (A1 (B8 (D0 (qG (A0 R ?_))))))))
  obtain⟨e,ie,h⟩:=H0 h
  refine J9 tb (S0 ie) (P6 ie) R (H9 (y:=E3.d e) tb (Q6 (g:=E3.d) ie) R (N0 tb R R R R R (A3 R (I5 _ _ tb R (eN (qG (A4b R R R (B7 (y:=E3.d e) tb R ?_))))))))
  obtain⟨rv,k,h⟩:=H0 h
  refine A2M (vs:=[E3.d e]) (nameh k) namee R R R R (A3 R (eN (B8 (D0 (qG (A0 R ?_))))))
  obtain⟨rv2,k2,h⟩:=H0 h
  refine H8 (A3H k2) eK R R R R ?_ ?_
  ·intro c2
   replace h:=H1 c2 h
   refine M2 R R R (A3 R (eN (A5 R (qG (A2G (.mp 0) R R R (A0 R ?_))))))
   refine B2V (vf:=fun b => .v (.bool b)) (z0:=false) (u := .v (.bool ((A2X seen rv).getD false))) tb R R R R R R R R R R ?_
   with_reducible apply Y9
   ·intro c3
    replace h:=H1 c3 h
    refine A3 R (eN (A9 R (qG (A0 R (A3 R (A3 R (eN (C9 (C5 (B1 (C5 (B1 (B1 (C5 (B1 ?_)))))))))))))))
    obtain rfl:=sI h
    exact Q2 (t := .d (.tup [vI x,vI 5])) R R R (.cons (.tmp 6) (.cons (.tmp 7) .nil))
   intro c3
   replace h:=X9 c3 h
   refine A3 R (eN (A5 R (C0 (C3 (A1 (B8 (qG (A4b R R R (B7 (y:=E3.d e) tb R ?_)))))))))
   obtain⟨rv3,k3,h⟩:=H0 h
   refine A2M (vs:=[E3.d e]) (resth k3) reste R R R R (A3 R (eN (qG (A0 R ?_))))
   refine T6 R R R R ?_ ?_
   ·intro c4
    replace h:=J0 c4 h
    refine eN (A9 R (qG (A0 R (A0 R (A3 R (A3 R (eN (C9 (B1 (C5 (B1 (B1 (C5 (B1 ?_))))))))))))))
    obtain rfl:=sI h
    exact Q2 (t := .d (.tup [vI x,vI rv3])) R R R (.cons (.tmp 6) (.cons (.tmp 7) .nil))
   intro c4
   replace h:=H1 c4 h
   refine eN (A5 R (C0 (A1 (E5 (A2G (.mp 0) R R R (A0 R ?_))))))
   refine A88 (vf:=fun b => .v (.bool b)) (v:=true) (q:=(A1o seen rv true)) ([A9u (A1o seen rv true),bx 2 (.d (E3.d e))]) R R R R R R R R R ?_
   refine L5 (C3 (A1 (E5 (H4 R (A0 R (eN ?_))))))
   exact⟨m3,⟨[(1,.fn (.func namei) [] (namec.map .d)),(2,.fn (.func resti) [] (restc.map .d)),(6,.d (vI 0)),(7,.d (vI 0)),(8,.mp 0),(14,.d (.arr 2 ((lv).map E3.d))),(15,.d (vI (lv.length:Int))),(16,.d (vI (W (x+1))))],[A9u (A1o seen rv true)]⟩,lS,.vw (κ:=[0]) (vwK R R (.map R .nil) (.hof R (.hof R (.cons R R (.cons R R (.cons R R (.cons R R (.cons R R (.cons R R .nil))))))))),(A1o seen rv true),(W (x+1)),h,R⟩
  intro c2
  replace h:=X9 c2 h
  refine M3 R R R (A3 R (eN (A9 R (qG (A0 R (A3 R (A3 R (eN (C9 (C5 (B1 (C5 (B1 (B1 (C5 (B1 ?_))))))))))))))))
  obtain rfl:=sI h
  exact Q2 (t := .d (.tup [vI x,vI 6])) R R R (.cons (.tmp 6) (.cons (.tmp 7) .nil))
 intro c
 replace h:=J0 (nL c) h
 refine eN (B8 (A5 R (I4 (C8 (C8 ?_)))))
 subst hK3
 refine F3 (A1 (qG (A3 R (A3 R (eN (C9 ?_))))))
 obtain rfl:=sI h
 exact Q2 (t := .d (.tup [vI 0,vI 0])) R R R (.cons (.tmp 6) (.cons (.tmp 7) .nil))
def T3 (F:Nat) (lv:(List ByteArray)) (name:(ByteArray→Option ByteArray)) (rest:(ByteArray→Option Int)) (K:(List (ByteArray × Bool))→Int→Option (Int × Int)):Nat→(List (ByteArray × Bool))→Int→Option (Int × Int)
 | 0,_,_=>none
 | n+1,seen,x=>if x<(lv.length:Int)then((P7 lv x).bind fun e=>(name e).bind fun rv=>(A2l F rv).bind fun rv2=>if rv2=true then(if((A2X seen rv).getD false)=true then(some (x,5))else((rest e).bind fun rv3=>if rv3=0 then(T3 F lv name rest K n (A1o seen rv true) (W (x+1)))else(some (x,rv3))))else(some (x,6)))else(K seen x)
def A0J (F:Nat) (lv:(List ByteArray)) (name:(ByteArray→Option ByteArray)) (rest:(ByteArray→Option Int)):Option (Int × Int):=T3 F lv name rest (fun(seen:(List (ByteArray × Bool))) (x:Int)=>some (0,0)) F ([]:List (ByteArray × Bool)) 0
theorem A5H {F:Nat} {lv:(List ByteArray)} {name:(ByteArray→Option ByteArray)} {rest:(ByteArray→Option Int)} {r:(Int × Int)} {namei:Nat} {namec:List D} (nameh:∀ {a0:ByteArray} {r:ByteArray},name a0=some r→PC Tryz.prog namei ([.v (.string a0)]++namec) (.v (.string r))) (namee:Ent Tryz.prog namei) {resti:Nat} {restc:List D} (resth:∀ {a0:ByteArray} {r:Int},rest a0=some r→PC Tryz.prog resti ([.v (.string a0)]++restc) (.v (.int .i64 r))) (reste:Ent Tryz.prog resti) (h:A0J F lv name rest=some r):SCR Tryz.prog 67 [.d (.arr 1 ((lv).map vS)),.fn (.func namei) [] (namec.map .d),.fn (.func resti) [] (restc.map .d)] [] (.d (.tup [.v (.int .i64 r.1),.v (.int .i64 r.2)])) (List.map some []):=by
 rw[A0J]at h
 refine SC.of_sw Tryz.func67 R R R ?_
 dsimp only[M1,List.map]
 refine qG (A3 R (A3 R (eN (qG (A63 R R R (B0A (.mp 0) R R R (eN (B8 (qG (A0 R (H3 tb R (A0 R (eN (D0 ?_))))))))))))))
 obtain⟨K3,hK3,h⟩:∃ K,K=_∧T3 F lv name rest K F ([]:List (ByteArray × Bool)) 0=some r:=⟨_,rfl,h⟩
 refine H6 (fun m st=>∃ (seen:(List (ByteArray × Bool))) (x:Int),T3 F lv name rest K3 m seen x=some r∧st=⟨[(1,.fn (.func namei) [] (namec.map .d)),(2,.fn (.func resti) [] (restc.map .d)),(6,.d (vI 0)),(7,.d (vI 0)),(8,.mp 0),(14,.d (.arr 1 ((lv).map vS))),(15,.d (vI (lv.length:Int))),(16,.d (vI x))],[A9u seen]⟩) (.prn [1,2,6,7,8,14,15,16] R) ⟨([]:List (ByteArray × Bool)),0,h,R⟩ ?_
 clear h
 rintro m3 st ⟨seen,x,h,rfl⟩
 cases m3 with
 | zero=>cases(show(none:Option (Int × Int))=some r from h)
 | succ m3 =>
 rw[T3]at h
 refine qG ?_
 refine G8 R R R R ?_ ?_
 ·intro c
  replace h:=H1 c h
  refine eN (B8 (A9 R (C0 (A1 (B8 (D0 (qG (A0 R ?_))))))))
  obtain⟨e,ie,h⟩:=H0 h
  refine J9 tb (S0 ie) (P6 ie) R (H9 (y := .v (.string e)) tb (Q6 (g:=vS) ie) R (A3 R (A3 R (eN (qG (A4b R R R (A0 R ?_)))))))
  obtain⟨rv,k,h⟩:=H0 h
  refine A2M (vs:=[.v (.string e)]) (nameh k) namee R R R R (A3 R (eN (B8 (D0 (qG (A0 R ?_))))))
  obtain⟨rv2,k2,h⟩:=H0 h
  refine H8 (A3H k2) eK R R R R ?_ ?_
  ·intro c2
   replace h:=H1 c2 h
   refine M2 R R R (A3 R (eN (A5 R (qG (A2G (.mp 0) R R R (A0 R ?_))))))
   refine B2V (vf:=fun b => .v (.bool b)) (z0:=false) (u := .v (.bool ((A2X seen rv).getD false))) tb R R R R R R R R R R ?_
   with_reducible apply Y9
   ·intro c3
    replace h:=H1 c3 h
    refine A3 R (eN (A9 R (qG (A0 R (A3 R (A3 R (eN (C9 (C5 (B1 (C5 (B1 (B1 (C5 (B1 ?_)))))))))))))))
    obtain rfl:=sI h
    exact Q2 (t := .d (.tup [vI x,vI 5])) R R R (.cons (.tmp 6) (.cons (.tmp 7) .nil))
   intro c3
   replace h:=X9 c3 h
   refine A3 R (eN (A5 R (C0 (C3 (A1 (B8 (qG (A4b R R R (A0 R ?_)))))))))
   obtain⟨rv3,k3,h⟩:=H0 h
   refine A2M (vs:=[.v (.string e)]) (resth k3) reste R R R R (A3 R (eN (qG (A0 R ?_))))
   refine T6 R R R R ?_ ?_
   ·intro c4
    replace h:=J0 c4 h
    refine eN (A9 R (qG (A0 R (A0 R (A3 R (A3 R (eN (C9 (B1 (C5 (B1 (B1 (C5 (B1 ?_))))))))))))))
    obtain rfl:=sI h
    exact Q2 (t := .d (.tup [vI x,vI rv3])) R R R (.cons (.tmp 6) (.cons (.tmp 7) .nil))
   intro c4
   replace h:=H1 c4 h
   refine eN (A5 R (C0 (A1 (E5 (A2G (.mp 0) R R R (A0 R ?_))))))
   refine A88 (vf:=fun b => .v (.bool b)) (v:=true) (q:=(A1o seen rv true)) ([A9u (A1o seen rv true)]) R R R R R R R R R ?_
   refine L5 (C3 (A1 (E5 (H4 R (A0 R (eN ?_))))))
   exact⟨m3,_,lS,.prn [1,2,6,7,8,14,15,16] R,(A1o seen rv true),(W (x+1)),h,R⟩
  intro c2
  replace h:=X9 c2 h
  refine M3 R R R (A3 R (eN (A9 R (qG (A0 R (A3 R (A3 R (eN (C9 (C5 (B1 (C5 (B1 (B1 (C5 (B1 ?_))))))))))))))))
  obtain rfl:=sI h
  exact Q2 (t := .d (.tup [vI x,vI 6])) R R R (.cons (.tmp 6) (.cons (.tmp 7) .nil))
 intro c
 replace h:=J0 (nL c) h
 refine eN (B8 (A5 R (I4 (C8 (C8 ?_)))))
 subst hK3
 refine F3 (A1 (qG (A3 R (A3 R (eN (C9 ?_))))))
 obtain rfl:=sI h
 exact Q2 (t := .d (.tup [vI 0,vI 0])) R R R (.cons (.tmp 6) (.cons (.tmp 7) .nil))
def S1 (F:Nat) (lv:(List C6)) (name:(C6→Option ByteArray)) (rest:(C6→Option Int)) (K:(List (ByteArray × Bool))→Int→Option (Int × Int)):Nat→(List (ByteArray × Bool))→Int→Option (Int × Int)
 | 0,_,_=>none
 | n+1,seen,x=>if x<(lv.length:Int)then((P7 lv x).bind fun e=>(name e).bind fun rv=>(A2l F rv).bind fun rv2=>if rv2=true then(if((A2X seen rv).getD false)=true then(some (x,5))else((rest e).bind fun rv3=>if rv3=0 then(S1 F lv name rest K n (A1o seen rv true) (W (x+1)))else(some (x,rv3))))else(some (x,6)))else(K seen x)
def A0x (F:Nat) (lv:(List C6)) (name:(C6→Option ByteArray)) (rest:(C6→Option Int)):Option (Int × Int):=S1 F lv name rest (fun(seen:(List (ByteArray × Bool))) (x:Int)=>some (0,0)) F ([]:List (ByteArray × Bool)) 0
theorem A53 {F:Nat} {lv:(List C6)} {name:(C6→Option ByteArray)} {rest:(C6→Option Int)} {r:(Int × Int)} {namei:Nat} {namec:List D} (nameh:∀ {a0:C6} {r:ByteArray},name a0=some r→PC Tryz.prog namei ([C6.d a0]++namec) (.v (.string r))) (namee:Ent Tryz.prog namei) {resti:Nat} {restc:List D} (resth:∀ {a0:C6} {r:Int},rest a0=some r→PC Tryz.prog resti ([C6.d a0]++restc) (.v (.int .i64 r))) (reste:Ent Tryz.prog resti) (h:A0x F lv name rest=some r):SCR Tryz.prog 70 [.d (.arr 6 ((lv).map C6.d)),.fn (.func namei) [] (namec.map .d),.fn (.func resti) [] (restc.map .d)] [] (.d (.tup [.v (.int .i64 r.1),.v (.int .i64 r.2)])) (List.map some []):=by
 rw[A0x]at h
 refine SC.of_sw Tryz.func70 R R R ?_
 dsimp only[M1,List.map]
 refine qG (A3 R (A3 R (eN (qG (A63 R R R (B0A (.mp 0) R R R (eN (B8 (qG (A0 R (H3 tb R (A0 R (eN (D0 ?_))))))))))))))
 obtain⟨K3,hK3,h⟩:∃ K,K=_∧S1 F lv name rest K F ([]:List (ByteArray × Bool)) 0=some r:=⟨_,rfl,h⟩
 refine H6 (fun m st=>∃ (seen:(List (ByteArray × Bool))) (x:Int),S1 F lv name rest K3 m seen x=some r∧st=⟨[(1,.fn (.func namei) [] (namec.map .d)),(2,.fn (.func resti) [] (restc.map .d)),(6,.d (vI 0)),(7,.d (vI 0)),(8,.mp 0),(14,.d (.arr 6 ((lv).map C6.d))),(15,.d (vI (lv.length:Int))),(16,.d (vI x))],[A9u seen]⟩) (.prn [1,2,6,7,8,14,15,16] R) ⟨([]:List (ByteArray × Bool)),0,h,R⟩ ?_
 clear h
 rintro m3 st ⟨seen,x,h,rfl⟩
 cases m3 with
 | zero=>cases(show(none:Option (Int × Int))=some r from h)
 | succ m3 =>
 rw[S1]at h
 refine qG ?_
 refine G8 R R R R ?_ ?_
 ·intro c
  replace h:=H1 c h
  refine eN (B8 (A9 R (C0 (A1 (B8 (D0 (qG (A0 R ?_))))))))
  obtain⟨e,ie,h⟩:=H0 h
  refine J9 tb (S0 ie) (P6 ie) R (H9 (y:=C6.d e) tb (Q6 (g:=C6.d) ie) R (N0 tb R R R R R (A3 R (I5 _ _ tb R (eN (qG (A4b R R R (B7 (y:=C6.d e) tb R ?_))))))))
  obtain⟨rv,k,h⟩:=H0 h
  refine A2M (vs:=[C6.d e]) (nameh k) namee R R R R (A3 R (eN (B8 (D0 (qG (A0 R ?_))))))
  obtain⟨rv2,k2,h⟩:=H0 h
  refine H8 (A3H k2) eK R R R R ?_ ?_
  ·intro c2
   replace h:=H1 c2 h
   refine M2 R R R (A3 R (eN (A5 R (qG (A2G (.mp 0) R R R (A0 R ?_))))))
   refine B2V (vf:=fun b => .v (.bool b)) (z0:=false) (u := .v (.bool ((A2X seen rv).getD false))) tb R R R R R R R R R R ?_
   with_reducible apply Y9
   ·intro c3
    replace h:=H1 c3 h
    refine A3 R (eN (A9 R (qG (A0 R (A3 R (A3 R (eN (C9 (C5 (B1 (C5 (B1 (B1 (C5 (B1 ?_)))))))))))))))
    obtain rfl:=sI h
    exact Q2 (t := .d (.tup [vI x,vI 5])) R R R (.cons (.tmp 6) (.cons (.tmp 7) .nil))
   intro c3
   replace h:=X9 c3 h
   refine A3 R (eN (A5 R (C0 (C3 (A1 (B8 (qG (A4b R R R (B7 (y:=C6.d e) tb R ?_)))))))))
   obtain⟨rv3,k3,h⟩:=H0 h
   refine A2M (vs:=[C6.d e]) (resth k3) reste R R R R (A3 R (eN (qG (A0 R ?_))))
   refine T6 R R R R ?_ ?_
   ·intro c4
    replace h:=J0 c4 h
    refine eN (A9 R (qG (A0 R (A0 R (A3 R (A3 R (eN (C9 (B1 (C5 (B1 (B1 (C5 (B1 ?_))))))))))))))
    obtain rfl:=sI h
    exact Q2 (t := .d (.tup [vI x,vI rv3])) R R R (.cons (.tmp 6) (.cons (.tmp 7) .nil))
   intro c4
   replace h:=H1 c4 h
   refine eN (A5 R (C0 (A1 (E5 (A2G (.mp 0) R R R (A0 R ?_))))))
   refine A88 (vf:=fun b => .v (.bool b)) (v:=true) (q:=(A1o seen rv true)) ([A9u (A1o seen rv true),bx 6 (.d (C6.d e))]) R R R R R R R R R ?_
   refine L5 (C3 (A1 (E5 (H4 R (A0 R (eN ?_))))))
   exact⟨m3,⟨[(1,.fn (.func namei) [] (namec.map .d)),(2,.fn (.func resti) [] (restc.map .d)),(6,.d (vI 0)),(7,.d (vI 0)),(8,.mp 0),(14,.d (.arr 6 ((lv).map C6.d))),(15,.d (vI (lv.length:Int))),(16,.d (vI (W (x+1))))],[A9u (A1o seen rv true)]⟩,lS,.vw (κ:=[0]) (vwK R R (.map R .nil) (.hof R (.hof R (.cons R R (.cons R R (.cons R R (.cons R R (.cons R R (.cons R R .nil))))))))),(A1o seen rv true),(W (x+1)),h,R⟩
  intro c2
  replace h:=X9 c2 h
  refine M3 R R R (A3 R (eN (A9 R (qG (A0 R (A3 R (A3 R (eN (C9 (C5 (B1 (C5 (B1 (B1 (C5 (B1 ?_))))))))))))))))
  obtain rfl:=sI h
  exact Q2 (t := .d (.tup [vI x,vI 6])) R R R (.cons (.tmp 6) (.cons (.tmp 7) .nil))
 intro c
 replace h:=J0 (nL c) h
 refine eN (B8 (A5 R (I4 (C8 (C8 ?_)))))
 subst hK3
 refine F3 (A1 (qG (A3 R (A3 R (eN (C9 ?_))))))
 obtain rfl:=sI h
 exact Q2 (t := .d (.tup [vI 0,vI 0])) R R R (.cons (.tmp 6) (.cons (.tmp 7) .nil))
def A1t (F:Nat) (p:B0) (zone:Int):Option (Int × B0):=some (zone,p)
theorem A2s {F:Nat} {p:B0} {zone:Int} {r:(Int × B0)} (h:A1t F p zone=some r):SCR Tryz.prog 45 (List.map T.d [B0.d p,.v (.int .i64 zone)]) [] (.fn (.func 83) [] [.ref 0 1 0 0,.ref 1 7 0 0]) (List.map some [⟨1,[.d (.v (.int .i64 r.1))]⟩,⟨7,[.d (B0.d r.2)]⟩]):=by
 rw[A1t]at h
 refine SC.of_sw Tryz.func45 R R R ?_
 dsimp only[M1,List.map]
 refine qG (M4 R (M4 R (A3 R (eN (qG (A7b R R R R (B45 R R R (eN (C9 ?_)))))))))
 obtain rfl:=sI h
 exact f2 [1,0] (.cons R R (.cons R R .nil)) R (.cons (.tmp 4) .nil) R
end Go.Proofs.YthcnganbnbhhoaaGreat
