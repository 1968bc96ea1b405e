/- What functions of the program compute: plain functions, and the proofs. -/
import Derived.Test.YthcnganbnbhhoaaGreatW1
set_option linter.unusedVariables false
set_option linter.unusedSimpArgs false
open Go Go.Proofs.YthcnganbnbhhoaaGreat.Sh Go.Proofs
namespace Go.Proofs.YthcnganbnbhhoaaGreat
set_option maxRecDepth 100000
set_option maxHeartbeats 40000000
def A2q (F:Nat) (x:Int):Option (Int × Int × Int):=some (3,x,4)
def A0u (F:Nat) (t:B0):Option (Int × Int × Int):=(T5 F t.wait 0 6000).bind fun rv10=>if rv10=true then(some (7,0,7))else(some (0,0,0))
def A0w (F:Nat) (rv9:(Int × B0)) (e2:E9) (K:Int→Option (Int × Int × Int)):Nat→Int→Option (Int × Int × Int)
 | 0,_=>none
 | n+1,x2=>if x2<(rv9.2.squibs.length:Int)then((P7 rv9.2.squibs x2).bind fun e3=>if(W ((W ((max (max (W (e2.F8-e3.A0o)) (W (e3.A0o-e2.F7))) 0)*(max (max (W (e2.F8-e3.A0o)) (W (e3.A0o-e2.F7))) 0)))+(W ((max (max (W (e2.G0-e3.A0p)) (W (e3.A0p-e2.F9))) 0)*(max (max (W (e2.G0-e3.A0p)) (W (e3.A0p-e2.F9))) 0)))))<(W (e3.clear*e3.clear))then(some (7,0,2))else(A0w F rv9 e2 K n (W (x2+1))))else(K x2)
def A0W (F:Nat) (t:B0) (K:Int→Option (Int × Int × Int)):Nat→Int→Option (Int × Int × Int)
 | 0,_=>none
 | n+1,x=>if x<(t.doors.length:Int)then((P7 t.doors x).bind fun e=>(T5 F e.a (-1) (W ((t.zones.length:Int)-1))).bind fun rv3=>if rv3=true then(A2q F x)else((T5 F e.b (-1) (W ((t.zones.length:Int)-1))).bind fun rv4=>if rv4=true then(A2q F x)else(if e.a=e.b then(some (3,x,2))else(A0W F t K n (W (x+1))))))else(K x)
def A2r (F:Nat) (t:B0):Option (Int × Int × Int):=(A0I F t.zones (fun a0=>A2Y F a0) (fun a0=>A4J F a0)).bind fun rv2=>if rv2.2=0 then(A0W F t (fun(x:Int)=>(A0d F t.people (fun a0=>A1Z F a0) (fun a0=>A2a F a0)).bind fun rv5=>if rv5.2=0 then((A0J F t.keys (fun a0=>A2b F a0) (fun a0=>A2c F a0)).bind fun rv6=>if rv6.2=0 then((A0x F t.squibs (fun a0=>A2d F a0) (fun a0=>A2e F a0 t)).bind fun rv7=>if rv7.2=0 then((T5 F t.panel 0 (W ((t.zones.length:Int)-1))).bind fun rv8=>if rv8=true then(some (7,0,4))else((A1t F t t.panel).bind fun rv9=>if rv9.1<0 then(A0u F t)else((P7 rv9.2.zones rv9.1).bind fun e2=>A0w F rv9 e2 (fun(x2:Int)=>A0u F t) F 0)))else(some (6,rv7.1,rv7.2)))else(some (5,rv6.1,rv6.2)))else(some (4,rv5.1,rv5.2))) F 0)else(some (2,rv2.1,rv2.2))
def A0v (F:Nat) :Option (Int × Int × Int):=some (1,0,3)
def A1Y (F:Nat) (t:B0):Option (Int × Int × Int):=(T5 F (W ((t.zones.length:Int)-1)) 0 7).bind fun rv=>if rv=true then(A0v F)else(if 24<(t.doors.length:Int)then(A0v F)else(if 8<(t.people.length:Int)then(A0v F)else(if 8<(t.keys.length:Int)then(A0v F)else(if 6<(t.squibs.length:Int)then(A0v F)else(A2r F t)))))
theorem A3B {F:Nat} {t:B0} {r:(Int × Int × Int)} (h:A1Y F t=some r):PC Tryz.prog 39 [B0.d t] (.tup [.v (.int .i64 r.1),.v (.int .i64 r.2.1),.v (.int .i64 r.2.2)]):=by
 rw[A1Y]at h
 refine SC.of_swm Tryz.func39 R R R ?_
 dsimp only[M1,List.map]
 refine L9 ?_
 refine O1 fun df=>?_
 refine E5 (M4 R (N0 tb R R R R R (N0 tb R R R R R (N0 tb R R R R R (eN (L9 ?_))))))
 refine O1 fun df=>?_
 refine E5 (C7 tb R (B7 (y := .arr 8 ((t.zones).map E9.d)) tb R (H3 tb R (O6 R R R R (A3 R (eN (L9 ?_)))))))
 refine A2z (fun zz:Unit=>A2r F t=some r) (fun zz:Unit=>⟨[(1,.ref 0 7 0 0),(2,.ref 1 1 0 0),(3,.ref 2 1 0 0),(4,.ref 3 1 0 0),(5,.d (vI (W ((t.zones.length:Int)-1))))],[bx 7 (.d (B0.d t)),c1 (vI 0),c1 (vI 0),c1 (vI 0)]⟩) ?_ ?_
 ·clear h
  rintro⟨⟩ h
  rw[A2r]at h
  refine L9 ?_
  refine O1 fun df=>?_
  refine qG (C7 tb R (B7 (y := .arr 8 ((t.zones).map E9.d)) tb R ?_))
  obtain⟨rv2,k2,h⟩:=H0 h
  refine A19 (t' := .d (.tup [vI rv2.1,vI rv2.2])) (news':=[]) (A5G (name:=(fun a0=>A2Y F a0)) (namec:=[]) (nameh:=fun hr=>A8X hr) (namee := .of kR) (rest:=(fun a0=>A4J F a0)) (restc:=[]) (resth:=fun hr=>B1r hr) (reste := .of kR) k2) R .nil eK R R ((.cons (.d (.d _)) (.cons .fnc (.cons .fnc .nil)))) R .nil R R R ?_
  simp only[List.map_nil,List.append_nil]
  refine A0 R (S3 (t:=vI rv2.1) R R R R (S3 (t:=vI rv2.2) R R R R (I5 _ _ tb R (I5 _ _ tb R (eN (qG (B7 (y:=vI rv2.2) tb R ?_)))))))
  refine T6 R R R R ?_ ?_
  ·intro c6
   replace h:=J0 c6 h
   refine eN (A9 R (B8 (P5 kR (B7 (y:=vI rv2.1) tb R (B7 (y:=vI rv2.2) tb R (I5 _ _ tb R (I5 _ _ tb R (I5 _ _ tb R (F6 kR (A1 (C9 (B1 ?_))))))))))))
   obtain rfl:=sI h
   exact Q2 (t := .d (.tup [vI 2,vI rv2.1,vI rv2.2])) R R R (.cons (rc tb R) (.cons (rc tb R) (.cons (rc tb R) .nil)))
  intro c6
  replace h:=H1 c6 h
  refine eN (A5 R (C0 (A1 (L9 ?_))))
  refine O1 fun df=>?_
  refine qG (C7 tb R (B7 (y := .arr 2 ((t.doors).map I0.d)) tb R (H3 tb R (A0 R (eN (D0 ?_))))))
  obtain⟨K3,hK3,h⟩:∃ K,K=_∧A0W F t K F 0=some r:=⟨_,rfl,h⟩
  refine H6 (fun m st=>∃ (x:Int),A0W F t K3 m x=some r∧st=⟨[(1,.ref 0 7 0 0),(2,.ref 1 1 0 0),(3,.ref 2 1 0 0),(4,.ref 3 1 0 0),(5,.d (vI (W ((t.zones.length:Int)-1)))),(49,.d (.arr 2 ((t.doors).map I0.d))),(50,.d (vI (t.doors.length:Int))),(51,.d (vI x))],[bx 7 (.d (B0.d t)),c1 (vI 0),c1 (vI rv2.1),c1 (vI rv2.2)]⟩) (.prn [1,2,3,4,5,49,50,51] R) ⟨0,h,R⟩ ?_
  clear h
  rintro m3 st ⟨x,h,rfl⟩
  cases m3 with
  | zero=>cases(show(none:Option (Int × Int × Int))=some r from h)
  | succ m3 =>
  rw[A0W]at h
  refine qG ?_
  refine G8 R R R R ?_ ?_
  ·intro c7
   replace h:=H1 c7 h
   refine eN (B8 (A9 R (C0 (A1 (B8 (D0 (qG (A0 R ?_))))))))
   obtain⟨e,ie,h⟩:=H0 h
   refine J9 tb (S0 ie) (P6 ie) R (H9 (y:=I0.d e) tb (Q6 (g:=I0.d) ie) R (N0 tb R R R R R (A3 R (I5 _ _ tb R (eN (D0 (B8 ?_)))))))
   refine N3 (fun zz:Unit=>A2q F x=some r) (fun zz:Unit=>⟨[(1,.ref 0 7 0 0),(2,.ref 1 1 0 0),(3,.ref 2 1 0 0),(4,.ref 3 1 0 0),(5,.d (vI (W ((t.zones.length:Int)-1)))),(6,.d (vI x)),(7,.ref 4 2 0 0),(49,.d (.arr 2 ((t.doors).map I0.d))),(50,.d (vI (t.doors.length:Int))),(51,.d (vI x)),(56,.d (.v (.bool true)))],[bx 7 (.d (B0.d t)),c1 (vI 0),c1 (vI rv2.1),c1 (vI rv2.2),bx 2 (.d (I0.d e))]⟩) ?_ ?_
   ·clear h
    rintro⟨⟩ h
    rw[A2q]at h
    refine A9 R (qG (A0 R (I5 _ _ tb R (I5 _ _ tb R (I5 _ _ tb R (eN (C9 (C5 (C5 (B1 (B1 (C5 (B1 ?_)))))))))))))
    obtain rfl:=sI h
    exact Q2 (t := .d (.tup [vI 3,vI x,vI 4])) R R R (.cons (rc tb R) (.cons (rc tb R) (.cons (rc tb R) .nil)))
   refine E5 (C7 tb R (B7 (y:=vI e.a) tb R (A0 R ?_)))
   obtain⟨rv3,k3,h⟩:=H0 h
   refine H8 (P0 k3) eK R R R R ?_ ?_
   ·intro c8
    replace h:=H1 c8 h
    refine A0 R (H7 4 R (B5 R (A3 R (eN ?_))))
    exact .inl ⟨(),h,.prn [1,2,3,4,5,6,7,49,50,51,56] R⟩
   intro c8
   replace h:=X9 c8 h
   refine A0 R (C7 tb R (B7 (y:=vI e.b) tb R (A0 R ?_)))
   obtain⟨rv4,k4,h⟩:=H0 h
   refine H8 (P0 k4) eK R R R R ?_ ?_
   ·intro c9
    replace h:=H1 c9 h
    refine C4 R (A3 R (eN ?_))
    exact .inl ⟨(),h,.prn [1,2,3,4,5,6,7,49,50,51,56] R⟩
   intro c9
   replace h:=X9 c9 h
   refine C4 R (A3 R (eN (.inr (A5 R (qG (C7 tb R (B7 (y:=vI e.a) tb R (C7 tb R (B7 (y:=vI e.b) tb R ?_)))))))))
   refine Q0 R R R R ?_ ?_
   ·intro c10
    replace h:=H1 c10 h
    refine A3 R (eN (A9 R (qG (A0 R (I5 _ _ tb R (I5 _ _ tb R (I5 _ _ tb R (eN (C9 (C5 (C5 (B1 (B1 (C5 (B1 ?_)))))))))))))))
    obtain rfl:=sI h
    exact Q2 (t := .d (.tup [vI 3,vI x,vI 2])) R R R (.cons (rc tb R) (.cons (rc tb R) (.cons (rc tb R) .nil)))
   intro c10
   replace h:=J0 c10 h
   refine A3 R (eN (A5 R (C0 (C3 (C3 (A1 (E5 (H4 R (A0 R (eN ?_))))))))))
   exact⟨m3,⟨[(1,.ref 0 7 0 0),(2,.ref 1 1 0 0),(3,.ref 2 1 0 0),(4,.ref 3 1 0 0),(5,.d (vI (W ((t.zones.length:Int)-1)))),(49,.d (.arr 2 ((t.doors).map I0.d))),(50,.d (vI (t.doors.length:Int))),(51,.d (vI (W (x+1))))],[bx 7 (.d (B0.d t)),c1 (vI 0),c1 (vI rv2.1),c1 (vI rv2.2)]⟩,lS,.vw (κ:=[0,1,2,3]) (vK (.cons R R (.cons R R (.cons R R (.cons R R .nil)))) R),(W (x+1)),h,R⟩
  intro c7
  replace h:=J0 (nL c7) h
  refine eN (B8 (A5 R (I4 (C8 (C8 ?_)))))
  subst hK3
  refine F3 (A1 (L9 ?_))
  refine O1 fun df=>?_
  refine E5 (C7 tb R (B7 (y := .arr 2 ((t.people).map E3.d)) tb R ?_))
  obtain⟨rv5,k5,h⟩:=H0 h
  refine A19 (t' := .d (.tup [vI rv5.1,vI rv5.2])) (news':=[]) (A5h (name:=(fun a0=>A1Z F a0)) (namec:=[]) (nameh:=fun hr=>A8Y hr) (namee := .of kR) (rest:=(fun a0=>A2a F a0)) (restc:=[]) (resth:=fun hr=>A8Z hr) (reste := .of kR) k5) R .nil eK R R ((.cons (.d (.d _)) (.cons .fnc (.cons .fnc .nil)))) R .nil R R R ?_
  simp only[List.map_nil,List.append_nil]
  refine A0 R (S3 (t:=vI rv5.1) R R R R (S3 (t:=vI rv5.2) R R R R (I5 _ _ tb R (I5 _ _ tb R (eN (L9 ?_))))))
  refine O1 fun df=>?_
  refine qG (B7 (y:=vI rv5.2) tb R ?_)
  refine T6 R R R R ?_ ?_
  ·intro c11
   replace h:=J0 c11 h
   refine eN (A9 R (B8 (P5 kR (B7 (y:=vI rv5.1) tb R (B7 (y:=vI rv5.2) tb R (I5 _ _ tb R (I5 _ _ tb R (I5 _ _ tb R (F6 kR (A1 (C9 (B1 ?_))))))))))))
   obtain rfl:=sI h
   exact Q2 (t := .d (.tup [vI 4,vI rv5.1,vI rv5.2])) R R R (.cons (rc tb R) (.cons (rc tb R) (.cons (rc tb R) .nil)))
  intro c11
  replace h:=H1 c11 h
  refine eN (A5 R (C0 (A1 (L9 ?_))))
  refine O1 fun df=>?_
  refine qG (C7 tb R (B7 (y := .arr 1 ((t.keys).map vS)) tb R ?_))
  obtain⟨rv6,k6,h⟩:=H0 h
  refine A19 (t' := .d (.tup [vI rv6.1,vI rv6.2])) (news':=[]) (A5H (name:=(fun a0=>A2b F a0)) (namec:=[]) (nameh:=fun hr=>A9a hr) (namee := .of kR) (rest:=(fun a0=>A2c F a0)) (restc:=[]) (resth:=fun hr=>A9b hr) (reste := .of kR) k6) R .nil eK R R ((.cons (.d (.d _)) (.cons .fnc (.cons .fnc .nil)))) R .nil R R R ?_
  simp only[List.map_nil,List.append_nil]
  refine A0 R (S3 (t:=vI rv6.1) R R R R (S3 (t:=vI rv6.2) R R R R (I5 _ _ tb R (I5 _ _ tb R (eN (qG (B7 (y:=vI rv6.2) tb R ?_)))))))
  refine T6 R R R R ?_ ?_
  ·intro c12
   replace h:=J0 c12 h
   refine eN (A9 R (B8 (P5 kR (B7 (y:=vI rv6.1) tb R (B7 (y:=vI rv6.2) tb R (I5 _ _ tb R (I5 _ _ tb R (I5 _ _ tb R (F6 kR (A1 (C9 (B1 ?_))))))))))))
   obtain rfl:=sI h
   exact Q2 (t := .d (.tup [vI 5,vI rv6.1,vI rv6.2])) R R R (.cons (rc tb R) (.cons (rc tb R) (.cons (rc tb R) .nil)))
  intro c12
  replace h:=H1 c12 h
  refine eN (A5 R (C0 (A1 (L9 ?_))))
  refine O1 fun df=>?_
  refine qG (C7 tb R (B7 (y := .arr 6 ((t.squibs).map C6.d)) tb R (A7b R R R R ?_)))
  obtain⟨rv7,k7,h⟩:=H0 h
  refine A19 (t' := .d (.tup [vI rv7.1,vI rv7.2])) (news':=[]) (A53 (name:=(fun a0=>A2d F a0)) (namec:=[]) (nameh:=fun hr=>A9c hr) (namee := .of kR) (rest:=(fun a0=>A2e F a0 t)) (restc:=[.el 7 [B0.d t] 0 0]) (resth:=fun hr=>A9d hr) (reste := .of kR) k7) R .nil eK R R ((.cons (.d (.d _)) (.cons .fnc (.cons (.fnC (.cons (.d (.ref R (.d _))) .nil)) .nil)))) R .nil R R R ?_
  simp only[List.map_nil,List.append_nil]
  refine A0 R (S3 (t:=vI rv7.1) R R R R (S3 (t:=vI rv7.2) R R R R (I5 _ _ tb R (I5 _ _ tb R (eN (qG (B7 (y:=vI rv7.2) tb R ?_)))))))
  refine T6 R R R R ?_ ?_
  ·intro c13
   replace h:=J0 c13 h
   refine eN (A9 R (B8 (P5 kR (B7 (y:=vI rv7.1) tb R (B7 (y:=vI rv7.2) tb R (I5 _ _ tb R (I5 _ _ tb R (I5 _ _ tb R (F6 kR (A1 (C9 (B1 ?_))))))))))))
   obtain rfl:=sI h
   exact Q2 (t := .d (.tup [vI 6,vI rv7.1,vI rv7.2])) R R R (.cons (rc tb R) (.cons (rc tb R) (.cons (rc tb R) .nil)))
  intro c13
  replace h:=H1 c13 h
  refine eN (A5 R (C0 (A1 (L9 ?_))))
  refine O1 fun df=>?_
  refine qG (C7 tb R (B7 (y:=vI t.panel) tb R (A0 R ?_)))
  obtain⟨rv8,k8,h⟩:=H0 h
  refine H8 (P0 k8) eK R R R R ?_ ?_
  ·intro c14
   replace h:=H1 c14 h
   refine eN (A9 R (qG (I5 _ _ tb R (I5 _ _ tb R (I5 _ _ tb R (eN (C9 (B1 ?_))))))))
   obtain rfl:=sI h
   exact Q2 (t := .d (.tup [vI 7,vI 0,vI 4])) R R R (.cons (rc tb R) (.cons (rc tb R) (.cons (rc tb R) .nil)))
  intro c14
  replace h:=X9 c14 h
  refine eN (A5 R (C0 (A1 (L9 ?_))))
  refine A2z (fun zz:Unit=>A0u F t=some r) (fun zz:Unit=>⟨[(1,.ref 0 7 0 0),(2,.ref 1 1 0 0),(3,.ref 2 1 0 0),(4,.ref 3 1 0 0)],[bx 7 (.d (B0.d t)),c1 (vI 0),c1 (vI rv7.1),c1 (vI rv7.2)]⟩) ?_ ?_
  ·clear h
   rintro⟨⟩ h
   rw[A0u]at h
   refine O1 fun df=>?_
   refine B8 (qG (C7 tb R (B7 (y:=vI t.wait) tb R ?_)))
   obtain⟨rv10,k10,h⟩:=H0 h
   refine H8 (P0 k10) eK R R R R ?_ ?_
   ·intro c18
    replace h:=H1 c18 h
    refine eN (A9 R (qG (I5 _ _ tb R (I5 _ _ tb R (I5 _ _ tb R (eN (C9 (B1 ?_))))))))
    obtain rfl:=sI h
    exact Q2 (t := .d (.tup [vI 7,vI 0,vI 7])) R R R (.cons (rc tb R) (.cons (rc tb R) (.cons (rc tb R) .nil)))
   intro c18
   replace h:=X9 c18 h
   refine eN (A5 R (C0 (A1 (qG (I5 _ _ tb R (I5 _ _ tb R (I5 _ _ tb R (eN (C9 ?_)))))))))
   obtain rfl:=sI h
   exact Q2 (t := .d (.tup [vI 0,vI 0,vI 0])) R R R (.cons (rc tb R) (.cons (rc tb R) (.cons (rc tb R) .nil)))
  refine L9 ?_
  refine O1 fun df=>?_
  refine E5 (B7 (y:=B0.d t) tb R (C7 tb R (B7 (y:=vI t.panel) tb R ?_)))
  obtain⟨rv9,k9,h⟩:=H0 h
  refine A0n (t' := .fn (.func 83) [] [.ref 4 1 0 0,.ref 5 7 0 0]) (news':=[⟨1,[.d (vI rv9.1)]⟩,⟨7,[.d (B0.d rv9.2)]⟩]) (A2s k9) eK R R R ((.cons R (.cons R .nil))) R R R (eN (A1C ?_))
  refine A64 eK Tryz.func83 R R R R R R fun lb=>?_
  simp only[M1,Nat.zero_add,Nat.reduceAdd]
  refine J4 (J4 (Q4 (O0 (B7 (y:=vI rv9.1) tb R ?_))))
  refine G8 R R R R ?_ ?_
  ·intro c15
   replace h:=H1 c15 h
   refine I9 (D6 (Z9 R (A4x (A0N ?_))))
   refine⟨R,[bx 7 (.d (B0.d t)),c1 (vI 0),c1 (vI rv7.1),c1 (vI rv7.2),c1 (vI rv9.1),bx 7 (.d (B0.d rv9.2))],[0,1,2,3,4,5],(vK (.cons R R (.cons R R (.cons R R (.cons R R (.cons R R (.cons R R .nil)))))) R),?_⟩
   refine C3 (A1 ?_)
   exact .inl ⟨(),h,.vw (κ:=[0,1,2,3]) (vK (.cons R R (.cons R R (.cons R R (.cons R R .nil)))) R)⟩
  intro c15
  replace h:=J0 (nL c15) h
  refine I9 (D6 (R1 R (T8 (D6 (J4 (Q4 (O0 (C7 tb R (B7 (y := .arr 8 ((rv9.2.zones).map E9.d)) tb R (B7 (y:=vI rv9.1) tb R ?_))))))))))
  obtain⟨e2,ie2,h⟩:=H0 h
  refine J9 tb (S0 ie2) (P6 ie2) R (M0 tb R (H9 (y := .agg [vI e2.F8,vI e2.F7,vI e2.G0,vI e2.F9]) tb (Q6 (g:=E9.d) ie2) R (N0 tb R R R R R (I5 _ _ tb R (I9 (D6 (J4 (Q4 (O0 (C7 tb R (B7 (y := .arr 6 ((rv9.2.squibs).map C6.d)) tb R (H3 tb R (A0 R (I9 (D6 (A1g ?_))))))))))))))))
  obtain⟨K7,hK7,h⟩:∃ K,K=_∧A0w F rv9 e2 K F 0=some r:=⟨_,rfl,h⟩
  refine A4S (fun m ph st=>∃ (x2:Int),A0w F rv9 e2 K7 m x2=some r∧ph=SX.norm∧st=⟨[(0,.d (.v (.func (.yield lb) #[] #[]))),(4,.ref 6 4 0 0),(18,.d (.arr 6 ((rv9.2.squibs).map C6.d))),(19,.d (vI (rv9.2.squibs.length:Int))),(20,.d (vI x2))],[bx 7 (.d (B0.d t)),c1 (vI 0),c1 (vI rv7.1),c1 (vI rv7.2),c1 (vI rv9.1),bx 7 (.d (B0.d rv9.2)),bx 4 (.d (.agg [vI e2.F8,vI e2.F7,vI e2.G0,vI e2.F9]))]⟩) (.prn [0,4,18,19,20] R) ⟨0,h,R,R⟩ ?_
  clear h
  rintro m7 ph st ⟨x2,h,rfl,rfl⟩
  cases m7 with
  | zero=>cases(show(none:Option (Int × Int × Int))=some r from h)
  | succ m7 =>
  rw[A0w]at h
  refine J4 (Q4 (O0 ?_))
  refine G8 R R R R ?_ ?_
  ·intro c16
   replace h:=H1 c16 h
   refine I9 (D6 (J4 (Z9 R (T8 (D6 (J4 (A1g (J4 (Q4 (O0 (A0 R ?_)))))))))))
   obtain⟨e3,ie3,h⟩:=H0 h
   refine J9 tb (S0 ie3) (P6 ie3) R (H9 (y:=C6.d e3) tb (Q6 (g:=C6.d) ie3) R (N0 tb R R R R R (A3 R (I5 _ _ tb R (I9 (D6 (J4 (A5Z (P5 kR (C7 tb R (C7 tb R (B7 (y:=vI e2.F8) tb R (C7 tb R (C7 tb R (B7 (y:=vI e3.A0o) tb R (O6 R R R R (C7 tb R (C7 tb R (B7 (y:=vI e3.A0o) tb R (C7 tb R (C7 tb R (B7 (y:=vI e2.F7) tb R (O6 R R R R ?_)))))))))))))))))))))))
   refine A4a R R R R R (C7 tb R (C7 tb R (B7 (y:=vI e2.G0) tb R (C7 tb R (C7 tb R (B7 (y:=vI e3.A0p) tb R (O6 R R R R (C7 tb R (C7 tb R (B7 (y:=vI e3.A0p) tb R (C7 tb R (C7 tb R (B7 (y:=vI e2.F9) tb R (O6 R R R R (A4a R R R R R (A3 R (A3 R (F6 kR (D6 (J4 (Q4 (O0 (A0 R (A0 R (A0L R R R R (A0 R (A0 R ?_)))))))))))))))))))))))))))
   refine A0L R R R R (H4 R (C7 tb R (B7 (y:=vI e3.clear) tb R (C7 tb R (B7 (y:=vI e3.clear) tb R (A0L R R R R ?_))))))
   refine G8 R R R R ?_ ?_
   ·intro c17
    replace h:=H1 c17 h
    refine A0 R (A0 R (A0 R (A47 ?_)))
    (with_reducible apply A4P (ys:=[vI x2]));(iterate 7 exact rfl)
    dsimp only[B1t]
    refine C0 ?_
    refine⟨R,B0L ?_⟩
    refine D0 (qG (I5 _ _ tb R (I5 _ _ tb R (I5 _ _ tb R (eN (C9 (C5 ?_)))))))
    refine⟨[bx 7 (.d (B0.d t)),c1 (vI 7),c1 (vI 0),c1 (vI 2),c1 (vI rv9.1),bx 7 (.d (B0.d rv9.2)),bx 4 (.d (.agg [vI e2.F8,vI e2.F7,vI e2.G0,vI e2.F9])),bx 6 (.d (C6.d e3))],[0,1,2,3,4,5,6,7],(vK (.cons R R (.cons R R (.cons R R (.cons R R (.cons R R (.cons R R (.cons R R (.cons R R .nil)))))))) R),?_⟩
    with_reducible apply B2C
    refine O0 (M3 R R R (B5 R (I9 (D6 (Z9 R (A4x (A2A (A0N (A0N (A2A ?_))))))))))
    refine⟨R,[bx 7 (.d (B0.d t)),c1 (vI 7),c1 (vI 0),c1 (vI 2),c1 (vI rv9.1),bx 7 (.d (B0.d rv9.2))],[0,1,2,3,4,5],(vK (.cons R R (.cons R R (.cons R R (.cons R R (.cons R R (.cons R R .nil)))))) R),?_⟩
    refine C5 (B1 ?_)
    obtain rfl:=sI h
    exact Q2 (t := .d (.tup [vI 7,vI 0,vI 2])) R R R (.cons (rc tb R) (.cons (rc tb R) (.cons (rc tb R) .nil)))
   intro c17
   replace h:=J0 (nL c17) h
   refine A0 R (H7 4 R (C4 R (I9 (D6 (R1 R (T8 (W6 (D6 (Q4 (O0 (H4 R (A0 R (I9 (D6 ?_))))))))))))))
   exact⟨m7,⟨[(0,.d (.v (.func (.yield lb) #[] #[]))),(4,.ref 6 4 0 0),(18,.d (.arr 6 ((rv9.2.squibs).map C6.d))),(19,.d (vI (rv9.2.squibs.length:Int))),(20,.d (vI (W (x2+1))))],[bx 7 (.d (B0.d t)),c1 (vI 0),c1 (vI rv7.1),c1 (vI rv7.2),c1 (vI rv9.1),bx 7 (.d (B0.d rv9.2)),bx 4 (.d (.agg [vI e2.F8,vI e2.F7,vI e2.G0,vI e2.F9]))]⟩,lS,.vw (κ:=[0,1,2,3,4,5,6]) (vK (.cons R R (.cons R R (.cons R R (.cons R R (.cons R R (.cons R R (.cons R R .nil))))))) R),(W (x2+1)),h,R,R⟩
  intro c16
  replace h:=J0 (nL c16) h
  refine I9 (D6 (J4 (R1 R (A5Y (A06 (A06 ?_))))))
  subst hK7
  refine A2Q ?_
  refine⟨R,[bx 7 (.d (B0.d t)),c1 (vI 0),c1 (vI rv7.1),c1 (vI rv7.2),c1 (vI rv9.1),bx 7 (.d (B0.d rv9.2))],[0,1,2,3,4,5],(vK (.cons R R (.cons R R (.cons R R (.cons R R (.cons R R (.cons R R .nil)))))) R),?_⟩
  refine C3 (A1 ?_)
  exact .inl ⟨(),h,.vw (κ:=[0,1,2,3]) (vK (.cons R R (.cons R R (.cons R R (.cons R R .nil)))) R)⟩
 refine O1 fun df=>?_
 refine B8 ?_
 refine N3 (fun zz:Unit=>A0v F=some r) (fun zz:Unit=>⟨[(1,.ref 0 7 0 0),(2,.ref 1 1 0 0),(3,.ref 2 1 0 0),(4,.ref 3 1 0 0),(5,.d (vI (W ((t.zones.length:Int)-1)))),(37,.d (.v (.bool true)))],[bx 7 (.d (B0.d t)),c1 (vI 0),c1 (vI 0),c1 (vI 0)]⟩) ?_ ?_
 ·clear h
  rintro⟨⟩ h
  rw[A0v]at h
  refine A9 R (qG (I5 _ _ tb R (I5 _ _ tb R (I5 _ _ tb R (eN (C9 (B1 ?_)))))))
  obtain rfl:=sI h
  exact Q2 (t := .d (.tup [vI 1,vI 0,vI 3])) R R R (.cons (rc tb R) (.cons (rc tb R) (.cons (rc tb R) .nil)))
 refine E5 (A0 R ?_)
 obtain⟨rv,k,h⟩:=H0 h
 refine H8 (P0 k) eK R R R R ?_ ?_
 ·intro c
  replace h:=H1 c h
  refine A0 R (H7 4 R (B5 R (A0 R (H7 4 R (B5 R (A0 R (H7 4 R (B5 R (A0 R (H7 4 R (B5 R (eN ?_))))))))))))
  exact .inl ⟨(),h,.prn [1,2,3,4,5,37] R⟩
 intro c
 replace h:=X9 c h
 refine A0 R (C7 tb R (B7 (y := .arr 2 ((t.doors).map I0.d)) tb R (H3 tb R ?_)))
 refine A1D R R R R ?_ ?_
 ·intro c2
  replace h:=H1 c2 h
  refine C4 R (A0 R (H7 4 R (B5 R (A0 R (H7 4 R (B5 R (A0 R (H7 4 R (B5 R (eN ?_))))))))))
  exact .inl ⟨(),h,.prn [1,2,3,4,5,37] R⟩
 intro c2
 replace h:=J0 (nL c2) h
 refine C4 R (A0 R (C7 tb R (B7 (y := .arr 2 ((t.people).map E3.d)) tb R (H3 tb R ?_))))
 refine A1D R R R R ?_ ?_
 ·intro c3
  replace h:=H1 c3 h
  refine C4 R (A0 R (H7 4 R (B5 R (A0 R (H7 4 R (B5 R (eN ?_)))))))
  exact .inl ⟨(),h,.prn [1,2,3,4,5,37] R⟩
 intro c3
 replace h:=J0 (nL c3) h
 refine C4 R (A0 R (C7 tb R (B7 (y := .arr 1 ((t.keys).map vS)) tb R (H3 tb R ?_))))
 refine A1D R R R R ?_ ?_
 ·intro c4
  replace h:=H1 c4 h
  refine C4 R (A0 R (H7 4 R (B5 R (eN ?_))))
  exact .inl ⟨(),h,.prn [1,2,3,4,5,37] R⟩
 intro c4
 replace h:=J0 (nL c4) h
 refine C4 R (A0 R (C7 tb R (B7 (y := .arr 6 ((t.squibs).map C6.d)) tb R (H3 tb R ?_))))
 refine A1D R R R R ?_ ?_
 ·intro c5
  replace h:=H1 c5 h
  refine C4 R (eN ?_)
  exact .inl ⟨(),h,.prn [1,2,3,4,5,37] R⟩
 intro c5
 replace h:=J0 (nL c5) h
 refine C4 R (eN (.inr (A5 R (C0 (A1 ?_)))))
 exact .inl ⟨(),h,.prn [1,2,3,4,5] R⟩
def Z8 (F:Nat) (nv:Int) (many:Int):Option Bool:=(T5 F nv 0 (W (many-1))).bind fun rv=>some rv
theorem Z3 {F:Nat} {nv:Int} {many:Int} {r:Bool} (h:Z8 F nv many=some r):PC Tryz.prog 49 [.v (.int .i64 nv),.v (.int .i64 many)] (.v (.bool r)):=by
 rw[Z8]at h
 refine SC.of_sw Tryz.func49 R R R ?_
 dsimp only[M1,List.map]
 refine qG (A3 R (eN (qG (A0 R (A0 R (O6 R R R R ?_))))))
 obtain⟨rv,k,h⟩:=H0 h
 refine N5 (P0 k) eK R R R R (A3 R (eN (C9 ?_)))
 obtain rfl:=sI h
 exact f1 4 R
def A1r (F:Nat) (t:B0) (o:D4):Option Int:=(Z8 F o.with_ (t.people.length:Int)).bind fun rv8=>if rv8=true then(some 4)else(if o.with_=o.who then(some 2)else(some 0))
def B6m (F:Nat) (t:B0) (o:D4):Option Int:=(Z8 F o.what (t.squibs.length:Int)).bind fun rv6=>if rv6=true then(some 4)else(A1r F t o)
def A3S (F:Nat) (t:B0) (o:D4):Option Int:=(Z8 F o.what (t.keys.length:Int)).bind fun rv5=>if rv5=true then(some 4)else(A1r F t o)
def A3T (F:Nat) (t:B0) (o:D4):Option Int:=(Z8 F o.what (t.squibs.length:Int)).bind fun rv5=>if rv5=true then(some 4)else(A1r F t o)
def A1s (F:Nat) (o:D4):Option Int:=if o.with_=(-1)then(some 0)else(some 2)
def B6n (F:Nat) (t:B0) (o:D4):Option Int:=(Z8 F o.what (t.squibs.length:Int)).bind fun rv14=>if rv14=true then(some 4)else(A1s F o)
def A3U (F:Nat) (t:B0) (o:D4):Option Int:=(Z8 F o.what (t.keys.length:Int)).bind fun rv13=>if rv13=true then(some 4)else(A1s F o)
def A3V (F:Nat) (t:B0) (o:D4):Option Int:=(Z8 F o.what (t.squibs.length:Int)).bind fun rv13=>if rv13=true then(some 4)else(A1s F o)
def A5g (F:Nat) (t:B0) (o:D4):Option Int:=(T5 F o.at_ 0 100000).bind fun rv=>if rv=true then(some 7)else((T5 F o.kind 1 9).bind fun rv2=>if rv2=true then(some 2)else((Z8 F o.who (t.people.length:Int)).bind fun rv3=>if rv3=true then(some 4)else(if o.kind=1 then(if o.what=(-1)then(A1r F t o)else((Z8 F o.what (t.zones.length:Int)).bind fun rv4=>if rv4=true then(some 4)else(A1r F t o)))else(if o.kind=2 then(A3S F t o)else(if o.kind=3 then(A3S F t o)else(if o.kind=4 then(A3S F t o)else(if o.kind=5 then(A3T F t o)else(if o.kind=6 then(A3T F t o)else(if o.kind=7 then(A3T F t o)else((T5 F o.what 0 1).bind fun rv5=>if rv5=true then(some 2)else(A1r F t o)))))))))))
def A4p (F:Nat) (t:B0) (o:D4):Option Int:=(T5 F o.at_ 0 100000).bind fun rv9=>if rv9=true then(some 7)else((T5 F o.kind 1 9).bind fun rv10=>if rv10=true then(some 2)else((Z8 F o.who (t.people.length:Int)).bind fun rv11=>if rv11=true then(some 4)else(if o.kind=1 then(if o.what=(-1)then(A1s F o)else((Z8 F o.what (t.zones.length:Int)).bind fun rv12=>if rv12=true then(some 4)else(A1s F o)))else(if o.kind=2 then(A3U F t o)else(if o.kind=3 then(A3U F t o)else(if o.kind=4 then(A3U F t o)else(if o.kind=5 then(A3V F t o)else(if o.kind=6 then(A3V F t o)else(if o.kind=7 then(A3V F t o)else((T5 F o.what 0 1).bind fun rv13=>if rv13=true then(some 2)else(A1s F o)))))))))))
def B0u (F:Nat) (t:B0) (o:D4):Option Int:=if o.kind=4 then(A5g F t o)else(if o.kind=1 then(if o.with_=(-1)then(A4p F t o)else(A5g F t o))else(A4p F t o))
theorem B2u {F:Nat} {t:B0} {o:D4} {r:Int} (h:B0u F t o=some r):PC Tryz.prog 23 [B0.d t,D4.d o] (.v (.int .i64 r)):=by
 rw[B0u]at h
 refine SC.of_sw Tryz.func23 R R R ?_
 dsimp only[M1,List.map]
 refine qG (M4 R (M4 R (A3 R (eN (qG (A3 R (eN (B8 ?_))))))))
 refine N3 (Sum.elim (fun zz:Unit=>A5g F t o=some r) (fun zz:Unit=>A4p F t o=some r)) (Sum.elim (fun zz:Unit=>⟨[(2,.ref 0 7 0 0),(3,.ref 1 5 0 0),(4,.d (vI 0)),(5,.d (.v (.func (.func 49) #[] #[]))),(6,.d (.v (.bool true)))],[bx 7 (.d (B0.d t)),bx 5 (.d (D4.d o))]⟩) (fun zz:Unit=>⟨[(2,.ref 0 7 0 0),(3,.ref 1 5 0 0),(4,.d (vI 0)),(5,.d (.v (.func (.func 49) #[] #[]))),(6,.d (.v (.bool false)))],[bx 7 (.d (B0.d t)),bx 5 (.d (D4.d o))]⟩)) ?_ ?_
 ·clear h
  rintro(⟨⟩ | ⟨⟩) h
  ·dsimp only[Sum.elim]at h ⊢
   rw[A5g]at h
   refine B8 (D0 (qG (C7 tb R (B7 (y:=vI o.at_) tb R ?_))))
   obtain⟨rv,k,h⟩:=H0 h
   refine H8 (P0 k) eK R R R R ?_ ?_
   ·intro c4
    replace h:=H1 c4 h
    refine A3 R (eN (A9 R (qG (A3 R (eN (C9 (C5 (B1 ?_))))))))
    obtain rfl:=sI h
    exact f1 4 R
   intro c4
   replace h:=X9 c4 h
   refine A3 R (eN (A5 R (qG (C7 tb R (B7 (y:=vI o.kind) tb R ?_)))))
   obtain⟨rv2,k2,h⟩:=H0 h
   refine H8 (P0 k2) eK R R R R ?_ ?_
   ·intro c5
    replace h:=H1 c5 h
    refine A3 R (eN (A9 R (qG (A3 R (eN (C9 (C5 (B1 ?_))))))))
    obtain rfl:=sI h
    exact f1 4 R
   intro c5
   replace h:=X9 c5 h
   refine A3 R (eN (A5 R (qG (A0 R (C7 tb R (B7 (y:=vI o.who) tb R (C7 tb R (B7 (y := .arr 2 ((t.people).map E3.d)) tb R (H3 tb R ?_)))))))))
   obtain⟨rv3,k3,h⟩:=H0 h
   refine H8 (Z3 k3) eK R R R R ?_ ?_
   ·intro c6
    replace h:=H1 c6 h
    refine A3 R (eN (A9 R (qG (A3 R (eN (C9 (C5 (B1 ?_))))))))
    obtain rfl:=sI h
    exact f1 4 R
   intro c6
   replace h:=X9 c6 h
   refine A3 R (eN (A5 R (C0 (C3 (A1 (B8 ?_))))))
   refine N3 (fun zz:Unit=>A1r F t o=some r) (fun zz:Unit=>⟨[(2,.ref 0 7 0 0),(3,.ref 1 5 0 0),(4,.d (vI 0)),(5,.d (.v (.func (.func 49) #[] #[]))),(6,.d (.v (.bool true)))],[bx 7 (.d (B0.d t)),bx 5 (.d (D4.d o))]⟩) ?_ ?_
   ·clear h
    rintro⟨⟩ h
    rw[A1r]at h
    refine B8 (D0 (qG (A0 R (M2 R R R (A0 R (H7 3 R (C4 R (A3 R (eN (A5 R (qG (A0 R (A0 R (A0 R (C7 tb R (B7 (y:=vI o.with_) tb R (C7 tb R (B7 (y := .arr 2 ((t.people).map E3.d)) tb R (H3 tb R ?_)))))))))))))))))))
    obtain⟨rv8,k8,h⟩:=H0 h
    refine H8 (Z3 k8) eK R R R R ?_ ?_
    ·intro c19
     replace h:=H1 c19 h
     refine B5 R (A3 R (eN (A9 R (qG (A3 R (eN (C9 (C5 (B1 ?_)))))))))
     obtain rfl:=sI h
     exact f1 4 R
    intro c19
    replace h:=X9 c19 h
    refine B5 R (A3 R (eN (A5 R (qG (A0 R (A0 R (C7 tb R (B7 (y:=vI o.with_) tb R (C7 tb R (B7 (y:=vI o.who) tb R ?_))))))))))
    refine Q0 R R R R ?_ ?_
    ·intro c20
     replace h:=H1 c20 h
     refine B5 R (A3 R (eN (A9 R (qG (A3 R (eN (C9 (C5 (B1 ?_)))))))))
     obtain rfl:=sI h
     exact f1 4 R
    intro c20
    replace h:=J0 c20 h
    refine B5 R (A3 R (eN (A5 R (C0 (C3 (A1 (qG (A3 R (eN (C9 ?_))))))))))
    obtain rfl:=sI h
    exact f1 4 R
   refine qG (C7 tb R (B7 (y:=vI o.kind) tb R (eN (D0 (qG ?_)))))
   refine Q0 R R R R ?_ ?_
   ·intro c7
    replace h:=H1 c7 h
    refine A3 R (eN (A9 R (qG (C7 tb R (B7 (y:=vI o.what) tb R ?_)))))
    refine T6 R R R R ?_ ?_
    ·intro c8
     replace h:=J0 c8 h
     refine A0 R (A0 R (C7 tb R (B7 (y:=vI o.what) tb R (C7 tb R (B7 (y := .arr 8 ((t.zones).map E9.d)) tb R (H3 tb R ?_))))))
     obtain⟨rv4,k4,h⟩:=H0 h
     refine H8 (Z3 k4) eK R R R R ?_ ?_
     ·intro c9
      replace h:=H1 c9 h
      refine B5 R (eN (A9 R (qG (A3 R (eN (C9 (C5 (B1 ?_))))))))
      obtain rfl:=sI h
      exact f1 4 R
     intro c9
     replace h:=X9 c9 h
     refine B5 R (eN (A5 R (C0 (C3 (A1 ?_)))))
     exact .inl ⟨(),h,.prn [2,3,4,5,6] R⟩
    intro c8
    replace h:=H1 c8 h
    refine A0 R (H7 7 R (C4 R (eN (A5 R (C0 (C3 (A1 ?_)))))))
    exact .inl ⟨(),h,.prn [2,3,4,5,6] R⟩
   intro c7
   replace h:=J0 c7 h
   refine A3 R (eN (A5 R (B8 ?_)))
   refine N3 (fun zz:Unit=>A3S F t o=some r) (fun zz:Unit=>⟨[(2,.ref 0 7 0 0),(3,.ref 1 5 0 0),(4,.d (vI 0)),(5,.d (.v (.func (.func 49) #[] #[]))),(6,.d (.v (.bool true))),(37,.d (vI o.kind)),(55,.d (.v (.bool true)))],[bx 7 (.d (B0.d t)),bx 5 (.d (D4.d o))]⟩) ?_ ?_
   ·clear h
    rintro⟨⟩ h
    rw[A3S]at h
    refine A9 R (qG (A0 R (C7 tb R (B7 (y:=vI o.what) tb R (C7 tb R (B7 (y := .arr 1 ((t.keys).map vS)) tb R (H3 tb R ?_)))))))
    obtain⟨rv5,k5,h⟩:=H0 h
    refine H8 (Z3 k5) eK R R R R ?_ ?_
    ·intro c13
     replace h:=H1 c13 h
     refine eN (A9 R (qG (A3 R (eN (C9 (C5 (B1 ?_)))))))
     obtain rfl:=sI h
     exact f1 4 R
    intro c13
    replace h:=X9 c13 h
    refine eN (A5 R (C0 (C3 (A1 ?_))))
    exact .inl ⟨(),h,.prn [2,3,4,5,6] R⟩
   refine qG ?_
   refine Q0 R R R R ?_ ?_
   ·intro c10
    replace h:=H1 c10 h
    refine A3 R (eN (A9 R (C0 (A1 ?_))))
    exact .inl ⟨(),h,.prn [2,3,4,5,6,37,55] R⟩
   intro c10
   replace h:=J0 c10 h
   refine A3 R (eN (A5 R (qG ?_)))
   refine Q0 R R R R ?_ ?_
   ·intro c11
    replace h:=H1 c11 h
    refine A3 R (eN (A9 R (C0 (A1 ?_))))
    exact .inl ⟨(),h,.prn [2,3,4,5,6,37,55] R⟩
   intro c11
   replace h:=J0 c11 h
   refine A3 R (eN (A5 R (E5 ?_)))
   refine Q0 R R R R ?_ ?_
   ·intro c12
    replace h:=H1 c12 h
    refine A3 R (eN ?_)
    exact .inl ⟨(),h,.prn [2,3,4,5,6,37,55] R⟩
   intro c12
   replace h:=J0 c12 h
   refine A3 R (eN (.inr (A5 R (B8 ?_))))
   refine N3 (fun zz:Unit=>A3T F t o=some r) (fun zz:Unit=>⟨[(2,.ref 0 7 0 0),(3,.ref 1 5 0 0),(4,.d (vI 0)),(5,.d (.v (.func (.func 49) #[] #[]))),(6,.d (.v (.bool true))),(66,.d (.v (.bool true)))],[bx 7 (.d (B0.d t)),bx 5 (.d (D4.d o))]⟩) ?_ ?_
   ·clear h
    rintro⟨⟩ h
    rw[A3T]at h
    refine A9 R (qG (A0 R (C7 tb R (B7 (y:=vI o.what) tb R (C7 tb R (B7 (y := .arr 6 ((t.squibs).map C6.d)) tb R (H3 tb R ?_)))))))
    obtain⟨rv5,k5,h⟩:=H0 h
    refine H8 (Z3 k5) eK R R R R ?_ ?_
    ·intro c16
     replace h:=H1 c16 h
     refine eN (A9 R (qG (A3 R (eN (C9 (C5 (B1 ?_)))))))
     obtain rfl:=sI h
     exact f1 4 R
    intro c16
    replace h:=X9 c16 h
    refine eN (A5 R (C0 (C3 (A1 ?_))))
    exact .inl ⟨(),h,.prn [2,3,4,5,6] R⟩
   refine qG ?_
   refine Q0 R R R R ?_ ?_
   ·intro c13
    replace h:=H1 c13 h
    refine A3 R (eN (A9 R (C0 (A1 ?_))))
    exact .inl ⟨(),h,.prn [2,3,4,5,6,66] R⟩
   intro c13
   replace h:=J0 c13 h
   refine A3 R (eN (A5 R (qG ?_)))
   refine Q0 R R R R ?_ ?_
   ·intro c14
    replace h:=H1 c14 h
    refine A3 R (eN (A9 R (C0 (A1 ?_))))
    exact .inl ⟨(),h,.prn [2,3,4,5,6,66] R⟩
   intro c14
   replace h:=J0 c14 h
   refine A3 R (eN (A5 R (E5 ?_)))
   refine Q0 R R R R ?_ ?_
   ·intro c15
    replace h:=H1 c15 h
    refine A3 R (eN ?_)
    exact .inl ⟨(),h,.prn [2,3,4,5,6,66] R⟩
   intro c15
   replace h:=J0 c15 h
   refine A3 R (eN (.inr (A5 R (qG (C7 tb R (B7 (y:=vI o.what) tb R ?_))))))
   obtain⟨rv5,k5,h⟩:=H0 h
   refine H8 (P0 k5) eK R R R R ?_ ?_
   ·intro c16
    replace h:=H1 c16 h
    refine eN (A9 R (qG (A3 R (eN (C9 (C5 (B1 ?_)))))))
    obtain rfl:=sI h
    exact f1 4 R
   intro c16
   replace h:=X9 c16 h
   refine eN (A5 R (C0 (C3 (A1 ?_))))
   exact .inl ⟨(),h,.prn [2,3,4,5,6] R⟩
  ·dsimp only[Sum.elim]at h ⊢
   rw[A4p]at h
   refine B8 (D0 (qG (C7 tb R (B7 (y:=vI o.at_) tb R ?_))))
   obtain⟨rv9,k9,h⟩:=H0 h
   refine H8 (P0 k9) eK R R R R ?_ ?_
   ·intro c21
    replace h:=H1 c21 h
    refine A3 R (eN (A9 R (qG (A3 R (eN (C9 (C5 (B1 ?_))))))))
    obtain rfl:=sI h
    exact f1 4 R
   intro c21
   replace h:=X9 c21 h
   refine A3 R (eN (A5 R (qG (C7 tb R (B7 (y:=vI o.kind) tb R ?_)))))
   obtain⟨rv10,k10,h⟩:=H0 h
   refine H8 (P0 k10) eK R R R R ?_ ?_
   ·intro c22
    replace h:=H1 c22 h
    refine A3 R (eN (A9 R (qG (A3 R (eN (C9 (C5 (B1 ?_))))))))
    obtain rfl:=sI h
    exact f1 4 R
   intro c22
   replace h:=X9 c22 h
   refine A3 R (eN (A5 R (qG (A0 R (C7 tb R (B7 (y:=vI o.who) tb R (C7 tb R (B7 (y := .arr 2 ((t.people).map E3.d)) tb R (H3 tb R ?_)))))))))
   obtain⟨rv11,k11,h⟩:=H0 h
   refine H8 (Z3 k11) eK R R R R ?_ ?_
   ·intro c23
    replace h:=H1 c23 h
    refine A3 R (eN (A9 R (qG (A3 R (eN (C9 (C5 (B1 ?_))))))))
    obtain rfl:=sI h
    exact f1 4 R
   intro c23
   replace h:=X9 c23 h
   refine A3 R (eN (A5 R (C0 (C3 (A1 (B8 ?_))))))
   refine N3 (fun zz:Unit=>A1s F o=some r) (fun zz:Unit=>⟨[(2,.ref 0 7 0 0),(3,.ref 1 5 0 0),(4,.d (vI 0)),(5,.d (.v (.func (.func 49) #[] #[]))),(6,.d (.v (.bool false)))],[bx 7 (.d (B0.d t)),bx 5 (.d (D4.d o))]⟩) ?_ ?_
   ·clear h
    rintro⟨⟩ h
    rw[A1s]at h
    refine B8 (D0 (qG (A0 R (M3 R R R (A0 R (C7 tb R (B7 (y:=vI o.with_) tb R ?_)))))))
    refine T6 R R R R ?_ ?_
    ·intro c36
     replace h:=J0 c36 h
     refine B5 R (A3 R (eN (A9 R (qG (A3 R (eN (C9 (C5 (B1 ?_)))))))))
     obtain rfl:=sI h
     exact f1 4 R
    intro c36
    replace h:=H1 c36 h
    refine B5 R (A3 R (eN (A5 R (qG (A0 R (A0 R (H7 7 R (C4 R (A3 R (eN (A5 R (qG (A0 R (A0 R (H7 5 R (C4 R (A3 R (eN (A5 R (C0 (C3 (A1 (qG (A3 R (eN (C9 ?_))))))))))))))))))))))))))
    obtain rfl:=sI h
    exact f1 4 R
   refine qG (C7 tb R (B7 (y:=vI o.kind) tb R (eN (D0 (qG ?_)))))
   refine Q0 R R R R ?_ ?_
   ·intro c24
    replace h:=H1 c24 h
    refine A3 R (eN (A9 R (qG (C7 tb R (B7 (y:=vI o.what) tb R ?_)))))
    refine T6 R R R R ?_ ?_
    ·intro c25
     replace h:=J0 c25 h
     refine A0 R (A0 R (C7 tb R (B7 (y:=vI o.what) tb R (C7 tb R (B7 (y := .arr 8 ((t.zones).map E9.d)) tb R (H3 tb R ?_))))))
     obtain⟨rv12,k12,h⟩:=H0 h
     refine H8 (Z3 k12) eK R R R R ?_ ?_
     ·intro c26
      replace h:=H1 c26 h
      refine B5 R (eN (A9 R (qG (A3 R (eN (C9 (C5 (B1 ?_))))))))
      obtain rfl:=sI h
      exact f1 4 R
     intro c26
     replace h:=X9 c26 h
     refine B5 R (eN (A5 R (C0 (C3 (A1 ?_)))))
     exact .inl ⟨(),h,.prn [2,3,4,5,6] R⟩
    intro c25
    replace h:=H1 c25 h
    refine A0 R (H7 7 R (C4 R (eN (A5 R (C0 (C3 (A1 ?_)))))))
    exact .inl ⟨(),h,.prn [2,3,4,5,6] R⟩
   intro c24
   replace h:=J0 c24 h
   refine A3 R (eN (A5 R (B8 ?_)))
   refine N3 (fun zz:Unit=>A3U F t o=some r) (fun zz:Unit=>⟨[(2,.ref 0 7 0 0),(3,.ref 1 5 0 0),(4,.d (vI 0)),(5,.d (.v (.func (.func 49) #[] #[]))),(6,.d (.v (.bool false))),(37,.d (vI o.kind)),(55,.d (.v (.bool true)))],[bx 7 (.d (B0.d t)),bx 5 (.d (D4.d o))]⟩) ?_ ?_
   ·clear h
    rintro⟨⟩ h
    rw[A3U]at h
    refine A9 R (qG (A0 R (C7 tb R (B7 (y:=vI o.what) tb R (C7 tb R (B7 (y := .arr 1 ((t.keys).map vS)) tb R (H3 tb R ?_)))))))
    obtain⟨rv13,k13,h⟩:=H0 h
    refine H8 (Z3 k13) eK R R R R ?_ ?_
    ·intro c30
     replace h:=H1 c30 h
     refine eN (A9 R (qG (A3 R (eN (C9 (C5 (B1 ?_)))))))
     obtain rfl:=sI h
     exact f1 4 R
    intro c30
    replace h:=X9 c30 h
    refine eN (A5 R (C0 (C3 (A1 ?_))))
    exact .inl ⟨(),h,.prn [2,3,4,5,6] R⟩
   refine qG ?_
   refine Q0 R R R R ?_ ?_
   ·intro c27
    replace h:=H1 c27 h
    refine A3 R (eN (A9 R (C0 (A1 ?_))))
    exact .inl ⟨(),h,.prn [2,3,4,5,6,37,55] R⟩
   intro c27
   replace h:=J0 c27 h
   refine A3 R (eN (A5 R (qG ?_)))
   refine Q0 R R R R ?_ ?_
   ·intro c28
    replace h:=H1 c28 h
    refine A3 R (eN (A9 R (C0 (A1 ?_))))
    exact .inl ⟨(),h,.prn [2,3,4,5,6,37,55] R⟩
   intro c28
   replace h:=J0 c28 h
   refine A3 R (eN (A5 R (E5 ?_)))
   refine Q0 R R R R ?_ ?_
   ·intro c29
    replace h:=H1 c29 h
    refine A3 R (eN ?_)
    exact .inl ⟨(),h,.prn [2,3,4,5,6,37,55] R⟩
   intro c29
   replace h:=J0 c29 h
   refine A3 R (eN (.inr (A5 R (B8 ?_))))
   refine N3 (fun zz:Unit=>A3V F t o=some r) (fun zz:Unit=>⟨[(2,.ref 0 7 0 0),(3,.ref 1 5 0 0),(4,.d (vI 0)),(5,.d (.v (.func (.func 49) #[] #[]))),(6,.d (.v (.bool false))),(66,.d (.v (.bool true)))],[bx 7 (.d (B0.d t)),bx 5 (.d (D4.d o))]⟩) ?_ ?_
   ·clear h
    rintro⟨⟩ h
    rw[A3V]at h
    refine A9 R (qG (A0 R (C7 tb R (B7 (y:=vI o.what) tb R (C7 tb R (B7 (y := .arr 6 ((t.squibs).map C6.d)) tb R (H3 tb R ?_)))))))
    obtain⟨rv13,k13,h⟩:=H0 h
    refine H8 (Z3 k13) eK R R R R ?_ ?_
    ·intro c33
     replace h:=H1 c33 h
     refine eN (A9 R (qG (A3 R (eN (C9 (C5 (B1 ?_)))))))
     obtain rfl:=sI h
     exact f1 4 R
    intro c33
    replace h:=X9 c33 h
    refine eN (A5 R (C0 (C3 (A1 ?_))))
    exact .inl ⟨(),h,.prn [2,3,4,5,6] R⟩
   refine qG ?_
   refine Q0 R R R R ?_ ?_
   ·intro c30
    replace h:=H1 c30 h
    refine A3 R (eN (A9 R (C0 (A1 ?_))))
    exact .inl ⟨(),h,.prn [2,3,4,5,6,66] R⟩
   intro c30
   replace h:=J0 c30 h
   refine A3 R (eN (A5 R (qG ?_)))
   refine Q0 R R R R ?_ ?_
   ·intro c31
    replace h:=H1 c31 h
    refine A3 R (eN (A9 R (C0 (A1 ?_))))
    exact .inl ⟨(),h,.prn [2,3,4,5,6,66] R⟩
   intro c31
   replace h:=J0 c31 h
   refine A3 R (eN (A5 R (E5 ?_)))
   refine Q0 R R R R ?_ ?_
   ·intro c32
    replace h:=H1 c32 h
    refine A3 R (eN ?_)
    exact .inl ⟨(),h,.prn [2,3,4,5,6,66] R⟩
   intro c32
   replace h:=J0 c32 h
   refine A3 R (eN (.inr (A5 R (qG (C7 tb R (B7 (y:=vI o.what) tb R ?_))))))
   obtain⟨rv13,k13,h⟩:=H0 h
   refine H8 (P0 k13) eK R R R R ?_ ?_
   ·intro c33
    replace h:=H1 c33 h
    refine eN (A9 R (qG (A3 R (eN (C9 (C5 (B1 ?_)))))))
    obtain rfl:=sI h
    exact f1 4 R
   intro c33
   replace h:=X9 c33 h
   refine eN (A5 R (C0 (C3 (A1 ?_))))
   exact .inl ⟨(),h,.prn [2,3,4,5,6] R⟩
 refine E5 (C7 tb R (B7 (y:=vI o.kind) tb R ?_))
 refine Q0 R R R R ?_ ?_
 ·intro c
  replace h:=H1 c h
  refine A0 R (H7 8 R (B5 R (A3 R (eN ?_))))
  exact .inl ⟨.inl (),h,.prn [2,3,4,5,6] R⟩
 intro c
 replace h:=J0 c h
 refine A0 R (C7 tb R (B7 (y:=vI o.kind) tb R ?_))
 refine Q0 R R R R ?_ ?_
 ·intro c2
  replace h:=H1 c2 h
  refine A0 R (C7 tb R (B7 (y:=vI o.with_) tb R ?_))
  refine T6 R R R R ?_ ?_
  ·intro c3
   replace h:=J0 c3 h
   refine B5 R (C4 R (A3 R (eN ?_)))
   exact .inl ⟨.inl (),h,.prn [2,3,4,5,6] R⟩
  intro c3
  replace h:=H1 c3 h
  refine B5 R (C4 R (A3 R (eN ?_)))
  exact .inl ⟨.inr (()),h,.prn [2,3,4,5,6] R⟩
 intro c2
 replace h:=J0 c2 h
 refine A0 R (H7 3 R (C4 R (C4 R (A3 R (eN ?_)))))
 exact .inl ⟨.inr (()),h,.prn [2,3,4,5,6] R⟩
def J2 (F:Nat) (so:Bool) (why:Int):Option (Except Int Unit):=if so=true then(some (.ok ()))else(some (.error why))
theorem D3 {F:Nat} {so:Bool} {why:Int} {r:(Except Int Unit)} (h:J2 F so why=some r):SCX Tryz.prog 52 [.d (.v (.bool so)),.d (.v (.int .i64 why))] [] r 34 (fun(a:Unit) => .d (.tup [])) (fun(a:Unit)=>[]):=by
 rw[J2]at h
 refine SC.of_sw Tryz.func52 R R R ?_
 dsimp only[M1,List.map]
 refine qG (A0 R ?_)
 with_reducible apply Y9
 ·intro c
  replace h:=H1 c h
  refine M2 R R R (eN (A5 R (C0 ?_)))
  obtain rfl:=sI h
  exact M9 (L8 (t := .d (.tup [])) (L:=[]) (κ:=[]) R .nil (v0 R) (.inl ⟨_,R,R,R⟩))
 intro c
 replace h:=X9 c h
 refine M3 R R R (eN (A9 R (A0M (A0 R (B57 tb R R R R R (A0b ?_))))))
 (with_reducible apply B32);(iterate 2 exact rfl)
 obtain rfl:=sI h
 exact P9 (L:=[]) (κ:=[]) (v0 R) (.inr ⟨_,R,R⟩)
def U4 (F:Nat) (s:(List Int)):Option (List Int):=(B3l ([]:List Int) s).bind fun q=>some q
theorem A03 {F:Nat} {s:(List Int)} {r:(List Int)} (h:U4 F s=some r):SCR Tryz.prog 50 (List.map T.d [.arr 1 ((s).map vI)]) [] (.row 0 1 0 (r).length) (List.map some [(lvI r)]):=by
 rw[U4]at h
 refine SC.of_sw Tryz.func50 R R R ?_
 dsimp only[M1,List.map]
 cases s with
 | nil =>
  refine SW.raw 0 1 R fun ad cap=>?_
  cases ad with
  | none =>
   replace h:some ([]:List Int)=some r:=by simpa[A67,B3l]using h
   refine qG (A3 R (eN (B8 (qG (A0 R (B4B (by intro o a n cap w;cases a<;>cases o<;>simp[go_sem,eqGuard]<;>rfl) R R R (eN (A9 R ?_))))))))
   refine SW.unraw 0 1 R ?_
   refine SW.unraw 3 1 R ?_
   refine qG (A3 R (eN ?_))
   refine SW.own (ts':=[(2,.row 0 1 0 (([]:List Int)).length)]) (L':=[]) 1 R R (.cons .nil .nil) .nil ?_
   simp only[List.cons_append,List.nil_append]
   refine C9 (B1 ?_)
   obtain rfl:=sI h
   exact f2 [0] O7 R (.cons (.tmp 2) .nil) R
  | some ad =>
   refine qG (A3 R (eN (B8 (qG (A0 R (B4A (by intro o a n cap w;cases a<;>cases o<;>simp[go_sem,eqGuard]<;>rfl) R R R (eN (A5 R ?_))))))))
   refine SW.unraw 0 1 R ?_
   refine SW.unraw 3 1 R ?_
   refine C0 (A1 (qG (R8 tb R R R R R R R R R R R R R (A0 R ?_))))
   obtain⟨q,iq,h⟩:=H0 h
   refine B44 (g:=vI) (w:=([]:List Int)) (v:=([]:List Int)) ([none]) tb R R R R R R R R (by intro _;exact R) iq R R R R R (A0j R R R (eN (C9 ?_)))
   obtain rfl:=sI h
   exact f2 [1] O7 R (.cons (.tmp 2) .nil) R
 | cons x0 s =>
  refine qG (A3 R (eN (B8 (qG (A0 R (B49 (by intro o a n cap w;cases a<;>cases o<;>simp[go_sem,eqGuard]<;>rfl) R R R (eN (A5 R (C0 (A1 (qG (R8 tb R R R R R R R R R R R R R (A0 R ?_)))))))))))))
  obtain⟨q,iq,h⟩:=H0 h
  refine B44 (g:=vI) (w:=([]:List Int)) (v:=(x0::s)) ([none]) tb R R R R R R R R (by intro _;exact R) iq R R R R R (A0j R R R (eN (C9 ?_)))
  obtain rfl:=sI h
  exact f2 [1] O7 R (.cons (.tmp 2) .nil) R
theorem B1W {F:Nat} {s:(List Int)} {r:(List Int)} (h:U4 F s=some r):PC Tryz.prog 50 [.arr 1 ((s).map vI)] (.arr 1 ((r).map vI)):=(A03 h).toPC (.row rfl rfl)
def A2h (F:Nat) (p:B0) (s:A6):Option (Option E4):=(U4 F s.zones).bind fun rv=>(U4 F s.holder).bind fun rv2=>(U4 F s.squibs).bind fun rv3=>some (some (E4.mk p.zones p.doors p.people p.keys p.squibs p.panel p.wait s.now rv rv2 rv3 s.siren s.storm))
theorem Z7 {F:Nat} {p:B0} {s:A6} {r:(Option E4)} (h:A2h F p s=some r):SCO Tryz.prog 24 (List.map T.d [B0.d p,A6.d s]) [] r (.d (.v (.pointer none))) (List.map some []) (fun(tt:E4) => .ref 0 13 0 0) (fun(tt:E4)=>List.map some [⟨13,[D8 tt 1 2 3]⟩,(lvI tt.C1),(lvI tt.C2),(lvI tt.A7)]):=by
 rw[A2h]at h
 refine SC.of_sw Tryz.func24 R R R ?_
 dsimp only[M1,List.map]
 refine qG (M4 R (M4 R (A3 R (eN (B8 (P5 kR (C7 tb R (B7 (y := .arr 1 ((s.zones).map vI)) tb R ?_))))))))
 obtain⟨rv,k,h⟩:=H0 h
 refine A0n (t' := .row 2 1 0 (rv).length) (news':=[(lvI rv)]) (A03 k) eK R R R ((.row .nil)) R R R (C7 tb R (B7 (y := .arr 1 ((s.holder).map vI)) tb R ?_))
 obtain⟨rv2,k2,h⟩:=H0 h
 refine A0n (t' := .row 3 1 0 (rv2).length) (news':=[(lvI rv2)]) (A03 k2) eK R R R ((.row .nil)) R R R (C7 tb R (B7 (y := .arr 1 ((s.squibs).map vI)) tb R ?_))
 obtain⟨rv3,k3,h⟩:=H0 h
 refine A0n (t' := .row 4 1 0 (rv3).length) (news':=[(lvI rv3)]) (A03 k3) eK R R R ((.row .nil)) R R R (C7 tb R (I5 _ _ tb R (C7 tb R (I5 _ _ tb R (C7 tb R (I5 _ _ tb R (F6 kR (A1 (qG (B7 (y:=B0.d p) tb R (A9n tb R R R R R R R R R ?_)))))))))))
 refine L4 (v:=D8 (E4.mk p.zones p.doors p.people p.keys p.squibs p.panel p.wait s.now rv rv2 rv3 s.siren s.storm) 2 3 4) tb R R (List.cons_ne_nil _ _) kR kR kR kR R R (M4 R (B24 R R R (eN (C9 ?_))))
 obtain rfl:=sI h
 exact(L8 (t := .ref 0 13 0 0) (L:=[bx 13 (D8 (E4.mk p.zones p.doors p.people p.keys p.squibs p.panel p.wait s.now rv rv2 rv3 s.siren s.storm) 1 2 3),F5 rv,F5 rv2,F5 rv3]) (κ:=[5,2,3,4]) R (.cons (.tmp 4) .nil) (vK (.cons R R V8) R) (.inr ⟨_,R,R,R⟩))
def O2 (F:Nat) (nv:Int) (c:Int) (c2:Int):Option Bool:=(T5 F nv c c2).bind fun rv=>some rv
theorem A0K {F:Nat} {nv:Int} {c:Int} {c2:Int} {r:Bool} (h:O2 F nv c c2=some r):PC Tryz.prog 75 [.v (.int .i64 nv),.el 1 (([c]).map vI) ((0:Int)).toNat 0,.el 1 (([c2]).map vI) ((0:Int)).toNat 0] (.v (.bool r)):=by
 rw[O2]at h
 refine SC.of_sw Tryz.func75 R R R ?_
 dsimp only[M1,List.map]
 refine qG (A3 R (eN (qG (A0 R (H9 (y:=vI c) tb (Q6 (g:=vI) (R:P7 [c] 0=some c)) R (H9 (y:=vI c2) tb (Q6 (g:=vI) (R:P7 [c2] 0=some c2)) R ?_))))))
 obtain⟨rv,k,h⟩:=H0 h
 refine N5 (P0 k) eK R R R R (A3 R (eN (C9 ?_)))
 obtain rfl:=sI h
 exact f1 4 R
def V5 (F:Nat) (lo:Int) (hi:Int):Option (Int × Int):=some (lo,hi)
theorem A0Z {F:Nat} {lo:Int} {hi:Int} {r:(Int × Int)} (h:V5 F lo hi=some r):SCR Tryz.prog 74 (List.map T.d [.v (.int .i64 lo),.v (.int .i64 hi)]) [] (.fn (.func 75) [] [.ref 0 1 0 0,.ref 1 1 0 0]) (List.map some [⟨1,[.d (.v (.int .i64 r.1))]⟩,⟨1,[.d (.v (.int .i64 r.2))]⟩]):=by
 rw[V5]at h
 refine SC.of_sw Tryz.func74 R R R ?_
 dsimp only[M1,List.map]
 refine qG (M4 R (M4 R (A3 R (eN (qG (A7b R R R R (B45 R R R (eN (C9 ?_)))))))))
 obtain rfl:=sI h
 exact f2 [0,1] (.cons R R (.cons R R .nil)) R (.cons (.tmp 4) .nil) R
def A08 (F:Nat) (t:E4):Option Bool:=(V5 F (-1) (W ((t.M6.length:Int)-1))).bind fun rv3=>(J8 F t.C1 (fun a0=>O2 F a0 rv3.1 rv3.2)).bind fun rv4=>if rv4=true then(some false)else((V5 F (-1) (W ((t.M7.length:Int)-1))).bind fun rv5=>(J8 F t.C2 (fun a0=>O2 F a0 rv5.1 rv5.2)).bind fun rv6=>if rv6=true then(some false)else((V5 F 0 2).bind fun rv7=>(J8 F t.A7 (fun a0=>O2 F a0 rv7.1 rv7.2)).bind fun rv8=>some (!rv8)))
def U2 (F:Nat) (t:E4):Option Bool:=(T5 F t.J3 0 100000).bind fun rv=>if rv=true then(some false)else((T5 F t.G4 (-1) t.J3).bind fun rv2=>if rv2=true then(some false)else(if(t.C1.length:Int)=(t.M7.length:Int)then(if(t.C2.length:Int)=(t.V3.length:Int)then(if(t.A7.length:Int)=(t.M8.length:Int)then(A08 F t)else(some false))else(some false))else(some false)))
theorem A33 {F:Nat} {t:E4} {r:Bool} (h:U2 F t=some r):PC Tryz.prog 40 [.el 13 (([t]).map E4.d) ((0:Int)).toNat 0] (.v (.bool r)):=by
 rw[U2]at h
 refine SC.of_sw Tryz.func40 R R R ?_
 dsimp only[M1,List.map]
 refine qG (A3 R (eN (qG (A0 R (S9 R R R (M0 tb R (H9 (y := .agg [.arr 8 ((t.M6).map E9.d),.arr 2 ((t.R0).map I0.d),.arr 2 ((t.M7).map E3.d),.arr 1 ((t.V3).map vS),.arr 6 ((t.M8).map C6.d),vI t.R9,vI t.V4]) tb (Q6 (g:=E4.d) (R:P7 [t] 0=some t)) R (N0 tb R R R R R (I5 _ _ tb R (eN (qG (A3 R (eN (B8 ?_))))))))))))))
 refine N3 (fun zz:Unit=>A08 F t=some r) (fun zz:Unit=>⟨[(0,.d (.el 13 (([t]).map E4.d) ((0:Int)).toNat 0)),(2,.d (.v (.bool false))),(3,.ref 0 7 0 0),(4,.d (.v (.func (.func 74) #[] #[])))],[bx 7 (.d (.agg [.arr 8 ((t.M6).map E9.d),.arr 2 ((t.R0).map I0.d),.arr 2 ((t.M7).map E3.d),.arr 1 ((t.V3).map vS),.arr 6 ((t.M8).map C6.d),vI t.R9,vI t.V4]))]⟩) ?_ ?_
 ·clear h
  rintro⟨⟩ h
  rw[A08]at h
  refine B8 (P5 kR (A0 R (S9 R R R (M0 tb R (M0 tb R (H9 (y := .arr 1 ((t.C1).map vI)) tb (Q6 (g:=E4.d) (R:P7 [t] 0=some t)) R (A0 R (C7 tb R (B7 (y := .arr 8 ((t.M6).map E9.d)) tb R (H3 tb R (O6 R R R R ?_)))))))))))
  obtain⟨rv3,k3,h⟩:=H0 h
  refine A0n (t' := .fn (.func 75) [] [.ref 1 1 0 0,.ref 2 1 0 0]) (news':=[⟨1,[.d (vI rv3.1)]⟩,⟨1,[.d (vI rv3.2)]⟩]) (A0Z k3) eK R R R ((.cons R (.cons R .nil))) R R R ?_
  obtain⟨rv4,k4,h⟩:=H0 h
  refine A19 (t' := .d (.v (.bool rv4))) (news':=[]) (P8 (f:=(fun a0=>O2 F a0 rv3.1 rv3.2)) (fc:=[.el 1 [vI rv3.1] 0 0,.el 1 [vI rv3.2] 0 0]) (fh:=fun hr=>A0K hr) (fe := .of kR) k4) R .nil eK R R ((.cons (.d (.d _)) (.cons (.fnC (.cons (.d (.ref R (.d _))) (.cons (.d (.ref R (.d _))) .nil))) .nil))) R .nil R R R ?_
  simp only[List.map_nil,List.append_nil]
  with_reducible apply Y9
  ·intro c6
   replace h:=H1 c6 h
   refine M2 R R R (A0 R (H7 13 R (C4 R (A0 R (H7 9 R (C4 R (A3 R (F6 kR (A1 (C9 ?_))))))))))
   obtain rfl:=sI h
   exact f1 2 R
  intro c6
  replace h:=X9 c6 h
  refine M3 R R R (A0 R (A0 R (S9 R R R (M0 tb R (M0 tb R (H9 (y := .arr 1 ((t.C2).map vI)) tb (Q6 (g:=E4.d) (R:P7 [t] 0=some t)) R (A0 R (C7 tb R (B7 (y := .arr 2 ((t.M7).map E3.d)) tb R (H3 tb R (O6 R R R R ?_)))))))))))
  obtain⟨rv5,k5,h⟩:=H0 h
  refine A0n (t' := .fn (.func 75) [] [.ref 3 1 0 0,.ref 4 1 0 0]) (news':=[⟨1,[.d (vI rv5.1)]⟩,⟨1,[.d (vI rv5.2)]⟩]) (A0Z k5) eK R R R ((.cons R (.cons R .nil))) R R R ?_
  obtain⟨rv6,k6,h⟩:=H0 h
  refine A19 (t' := .d (.v (.bool rv6))) (news':=[]) (P8 (f:=(fun a0=>O2 F a0 rv5.1 rv5.2)) (fc:=[.el 1 [vI rv5.1] 0 0,.el 1 [vI rv5.2] 0 0]) (fh:=fun hr=>A0K hr) (fe := .of kR) k6) R .nil eK R R ((.cons (.d (.d _)) (.cons (.fnC (.cons (.d (.ref R (.d _))) (.cons (.d (.ref R (.d _))) .nil))) .nil))) R .nil R R R ?_
  simp only[List.map_nil,List.append_nil]
  with_reducible apply Y9
  ·intro c7
   replace h:=H1 c7 h
   refine M2 R R R (B5 R (A0 R (H7 9 R (C4 R (A3 R (F6 kR (A1 (C9 ?_))))))))
   obtain rfl:=sI h
   exact f1 2 R
  intro c7
  replace h:=X9 c7 h
  refine M3 R R R (B5 R (A0 R (A0 R (S9 R R R (M0 tb R (M0 tb R (H9 (y := .arr 1 ((t.A7).map vI)) tb (Q6 (g:=E4.d) (R:P7 [t] 0=some t)) R (A0 R ?_))))))))
  obtain⟨rv7,k7,h⟩:=H0 h
  refine A0n (t' := .fn (.func 75) [] [.ref 5 1 0 0,.ref 6 1 0 0]) (news':=[⟨1,[.d (vI rv7.1)]⟩,⟨1,[.d (vI rv7.2)]⟩]) (A0Z k7) eK R R R ((.cons R (.cons R .nil))) R R R ?_
  obtain⟨rv8,k8,h⟩:=H0 h
  refine A19 (t' := .d (.v (.bool rv8))) (news':=[]) (P8 (f:=(fun a0=>O2 F a0 rv7.1 rv7.2)) (fc:=[.el 1 [vI rv7.1] 0 0,.el 1 [vI rv7.2] 0 0]) (fh:=fun hr=>A0K hr) (fe := .of kR) k8) R .nil eK R R ((.cons (.d (.d _)) (.cons (.fnC (.cons (.d (.ref R (.d _))) (.cons (.d (.ref R (.d _))) .nil))) .nil))) R .nil R R R ?_
  simp only[List.map_nil,List.append_nil]
  refine A9P R R R (B5 R (A3 R (F6 kR (A1 (C9 ?_)))))
  obtain rfl:=sI h
  exact f1 2 R
 refine D0 (B8 (P5 kR (A0 R (S9 R R R (M0 tb R (M0 tb R (H9 (y:=vI t.J3) tb (Q6 (g:=E4.d) (R:P7 [t] 0=some t)) R ?_)))))))
 obtain⟨rv,k,h⟩:=H0 h
 refine H8 (P0 k) eK R R R R ?_ ?_
 ·intro c
  replace h:=H1 c h
  refine A0 R (H7 11 R (B5 R (A3 R (F6 kR (A1 (A9 R (qG (A3 R (eN (C9 (C5 (B1 ?_))))))))))))
  obtain rfl:=sI h
  exact f1 2 R
 intro c
 replace h:=X9 c h
 refine A0 R (A0 R (S9 R R R (M0 tb R (M0 tb R (H9 (y:=vI t.G4) tb (Q6 (g:=E4.d) (R:P7 [t] 0=some t)) R (A0 R (S9 R R R (M0 tb R (M0 tb R (H9 (y:=vI t.J3) tb (Q6 (g:=E4.d) (R:P7 [t] 0=some t)) R ?_))))))))))
 obtain⟨rv2,k2,h⟩:=H0 h
 refine H8 (P0 k2) eK R R R R ?_ ?_
 ·intro c2
  replace h:=H1 c2 h
  refine C4 R (A3 R (F6 kR (A1 (A9 R (qG (A3 R (eN (C9 (C5 (B1 ?_))))))))))
  obtain rfl:=sI h
  exact f1 2 R
 intro c2
 replace h:=X9 c2 h
 refine C4 R (A3 R (F6 kR (A1 (A5 R (B8 (P5 kR (A0 R (S9 R R R (M0 tb R (M0 tb R (H9 (y := .arr 1 ((t.C1).map vI)) tb (Q6 (g:=E4.d) (R:P7 [t] 0=some t)) R (H3 tb R (C7 tb R (B7 (y := .arr 2 ((t.M7).map E3.d)) tb R (H3 tb R ?_)))))))))))))))
 refine T6 R R R R ?_ ?_
 ·intro c3
  replace h:=J0 c3 h
  refine A0 R (H7 10 R (B5 R (A0 R (H7 10 R (B5 R (A3 R (F6 kR (A1 (A9 R (qG (A3 R (eN (C9 (C5 (B1 ?_)))))))))))))))
  obtain rfl:=sI h
  exact f1 2 R
 intro c3
 replace h:=H1 c3 h
 refine A0 R (A0 R (S9 R R R (M0 tb R (M0 tb R (H9 (y := .arr 1 ((t.C2).map vI)) tb (Q6 (g:=E4.d) (R:P7 [t] 0=some t)) R (H3 tb R (C7 tb R (B7 (y := .arr 1 ((t.V3).map vS)) tb R (H3 tb R ?_)))))))))
 refine T6 R R R R ?_ ?_
 ·intro c4
  replace h:=J0 c4 h
  refine C4 R (A0 R (H7 10 R (B5 R (A3 R (F6 kR (A1 (A9 R (qG (A3 R (eN (C9 (C5 (B1 ?_)))))))))))))
  obtain rfl:=sI h
  exact f1 2 R
 intro c4
 replace h:=H1 c4 h
 refine C4 R (A0 R (A0 R (S9 R R R (M0 tb R (M0 tb R (H9 (y := .arr 1 ((t.A7).map vI)) tb (Q6 (g:=E4.d) (R:P7 [t] 0=some t)) R (H3 tb R (C7 tb R (B7 (y := .arr 6 ((t.M8).map C6.d)) tb R (H3 tb R ?_))))))))))
 refine T6 R R R R ?_ ?_
 ·intro c5
  replace h:=J0 c5 h
  refine C4 R (A3 R (F6 kR (A1 (A9 R (qG (A3 R (eN (C9 (C5 (B1 ?_))))))))))
  obtain rfl:=sI h
  exact f1 2 R
 intro c5
 replace h:=H1 c5 h
 refine C4 R (A3 R (F6 kR (A1 (A5 R (C0 (C3 (A1 ?_)))))))
 exact .inl ⟨(),h,.prn [0,2,3,4] R⟩
def S2 (F:Nat) (c:E4) (zone:Int) (K:Int→Int→Option Int):Nat→Int→Int→Option Int
 | 0,_,_=>none
 | n+1,nv,x=>if x<(c.C1.length:Int)then((P7 c.C1 x).bind fun e=>if e=zone then(S2 F c zone K n (W (nv+1)) (W (x+1)))else(S2 F c zone K n nv (W (x+1))))else(K nv x)
def A0t (F:Nat) (c:E4) (zone:Int):Option Int:=S2 F c zone (fun(nv:Int) (x:Int)=>some nv) F 0 0
theorem A1R {F:Nat} {c:E4} {zone:Int} {r:Int} (h:A0t F c zone=some r):PC Tryz.prog 77 [.el 13 (([c]).map E4.d) ((0:Int)).toNat 0,.v (.int .i64 zone)] (.v (.int .i64 r)):=by
 rw[A0t]at h
 refine SC.of_sw Tryz.func77 R R R ?_
 dsimp only[M1,List.map]
 refine qG (A3 R (eN (B8 (qG (A0 R (S9 R R R (M0 tb R (M0 tb R (H9 (y := .arr 1 ((c.C1).map vI)) tb (Q6 (g:=E4.d) (R:P7 [c] 0=some c)) R (H3 tb R (A0 R (eN (D0 ?_)))))))))))))
 obtain⟨K3,hK3,h⟩:∃ K,K=_∧S2 F c zone K F 0 0=some r:=⟨_,rfl,h⟩
 refine H6 (fun m st=>∃ (nv:Int) (x:Int),S2 F c zone K3 m nv x=some r∧st=⟨[(1,.d (vI zone)),(4,.d (vI nv)),(11,.d (.arr 1 ((c.C1).map vI))),(12,.d (vI (c.C1.length:Int))),(13,.d (vI x))],[]⟩) (.prn [1,4,11,12,13] R) ⟨0,0,h,R⟩ ?_
 clear h
 rintro m3 st ⟨nv,x,h,rfl⟩
 cases m3 with
 | zero=>cases(show(none:Option Int)=some r from h)
 | succ m3 =>
 rw[S2]at h
 refine qG ?_
 refine G8 R R R R ?_ ?_
 ·intro c2
  replace h:=H1 c2 h
  refine eN (B8 (A9 R (C0 (A1 (B8 (D0 (qG ?_)))))))
  obtain⟨e,ie,h⟩:=H0 h
  refine J9 tb (S0 ie) (P6 ie) R (H9 (y:=vI e) tb (Q6 (g:=vI) ie) R (A3 R (eN (qG (A0 R (A0 R ?_))))))
  refine Q0 R R R R ?_ ?_
  ·intro c3
   replace h:=H1 c3 h
   refine eN (A9 R (E5 (A0 R (H4 R (A3 R (L5 (C3 (A1 (E5 (H4 R (A0 R (eN ?_))))))))))))
   exact⟨m3,_,lS,.prn [1,4,11,12,13] R,(W (nv+1)),(W (x+1)),h,R⟩
  intro c3
  replace h:=J0 c3 h
  refine eN (A5 R (C0 (C3 (A1 (E5 (H4 R (A0 R (eN ?_))))))))
  exact⟨m3,_,lS,.prn [1,4,11,12,13] R,nv,(W (x+1)),h,R⟩
 intro c2
 replace h:=J0 (nL c2) h
 refine eN (B8 (A5 R (I4 (C8 (C8 ?_)))))
 subst hK3
 refine F3 (A1 (qG (A0 R (A3 R (eN (C9 ?_))))))
 obtain rfl:=sI h
 exact f1 4 R
def R7 (F:Nat) (c:E4) (e:C6) (K:(List Int)→Int→Option (List Int)):Nat→(List Int)→Int→Option (List Int)
 | 0,_,_=>none
 | n+1,lv,x=>if x<(e.keys.length:Int)then((P7 e.keys x).bind fun e2=>(P7 c.C2 e2).bind fun e3=>if 0≤e3 then((A67 lv [e2]).bind fun q=>R7 F c e K n q (W (x+1)))else(R7 F c e K n lv (W (x+1))))else(K lv x)
def A0g (F:Nat) (c:E4) (squib:Int):Option (List Int):=(P7 c.M8 squib).bind fun e=>R7 F c e (fun(lv:(List Int)) (x:Int)=>some lv) F ([]:List Int) 0
theorem A1T {F:Nat} {c:E4} {squib:Int} {r:(List Int)} (h:A0g F c squib=some r):SCR Tryz.prog 35 (List.map T.d [.el 13 (([c]).map E4.d) ((0:Int)).toNat 0,.v (.int .i64 squib)]) [] (.row 0 1 0 (r).length) (List.map some [(lvI r)]):=by
 rw[A0g]at h
 refine SC.of_sw Tryz.func35 R R R ?_
 dsimp only[M1,List.map]
 refine qG (A3 R (eN (B8 (qG (A0 R (S9 R R R (M0 tb R (M0 tb R (H9 (y := .arr 6 ((c.M8).map C6.d)) tb (Q6 (g:=E4.d) (R:P7 [c] 0=some c)) R (A0 R ?_))))))))))
 obtain⟨e,ie,h⟩:=H0 h
 refine J9 tb (S0 ie) (P6 ie) R (M0 tb R (H9 (y := .arr 1 ((e.keys).map vI)) tb (Q6 (g:=C6.d) ie) R (H3 tb R (A0 R (eN (D0 ?_))))))
 refine SW.own (ts':=[(0,.d (.el 13 (([c]).map E4.d) ((0:Int)).toNat 0)),(4,.row 0 1 0 (([]:List Int)).length),(15,.d (.arr 1 ((e.keys).map vI))),(16,.d (vI (e.keys.length:Int))),(17,.d (vI 0))]) (L':=[]) 1 R R (.cons (.same _) (.cons .nil (.cons (.same _) (.cons (.same _) (.cons (.same _) .nil))))) .nil ?_
 simp only[List.cons_append,List.nil_append]
 obtain⟨K2,hK2,h⟩:∃ K,K=_∧R7 F c e K F ([]:List Int) 0=some r:=⟨_,rfl,h⟩
 refine H6 (fun m st=>∃ (lv:(List Int)) (x:Int),R7 F c e K2 m lv x=some r∧st=⟨[(0,.d (.el 13 (([c]).map E4.d) ((0:Int)).toNat 0)),(4,.row 0 1 0 (lv).length),(15,.d (.arr 1 ((e.keys).map vI))),(16,.d (vI (e.keys.length:Int))),(17,.d (vI x))],[F5 lv]⟩) (.prn [0,4,15,16,17] R) ⟨([]:List Int),0,h,R⟩ ?_
 clear h
 rintro m2 st ⟨lv,x,h,rfl⟩
 cases m2 with
 | zero=>cases(show(none:Option (List Int))=some r from h)
 | succ m2 =>
 rw[R7]at h
 refine qG ?_
 refine G8 R R R R ?_ ?_
 ·intro c2
  replace h:=H1 c2 h
  refine eN (B8 (A9 R (C0 (A1 (B8 (D0 (qG ?_)))))))
  obtain⟨e2,ie2,h⟩:=H0 h
  refine J9 tb (S0 ie2) (P6 ie2) R (H9 (y:=vI e2) tb (Q6 (g:=vI) ie2) R (A3 R (eN (qG (A0 R (S9 R R R (M0 tb R (M0 tb R (H9 (y := .arr 1 ((c.C2).map vI)) tb (Q6 (g:=E4.d) (R:P7 [c] 0=some c)) R (A0 R ?_))))))))))
  obtain⟨e3,ie3,h⟩:=H0 h
  refine J9 tb (S0 ie3) (P6 ie3) R (H9 (y:=vI e3) tb (Q6 (g:=vI) ie3) R ?_)
  refine A35 R R R R ?_ ?_
  ·intro c3
   replace h:=H1 c3 h
   refine eN (A9 R (E5 (I1 R R R (A0 R (R8 tb R R R R R R R R R R R R R ?_)))))
   obtain⟨q,iq,h⟩:=H0 h
   refine A78 (g:=vI) (w:=lv) (v:=[e2]) ([none,F5 [e2]]) tb R R R R R R R R R R R iq R R R R R (A0j R R R (L5 (C3 (A1 (E5 (H4 R (A0 R (eN ?_))))))))
   exact⟨m2,⟨[(0,.d (.el 13 (([c]).map E4.d) ((0:Int)).toNat 0)),(4,.row 0 1 0 (q).length),(15,.d (.arr 1 ((e.keys).map vI))),(16,.d (vI (e.keys.length:Int))),(17,.d (vI (W (x+1))))],[F5 q]⟩,lS,.vw (κ:=[2]) (vK O7 R),q,(W (x+1)),h,R⟩
  intro c3
  replace h:=J0 (Int.not_le.2 c3) h
  refine eN (A5 R (C0 (C3 (A1 (E5 (H4 R (A0 R (eN ?_))))))))
  exact⟨m2,_,lS,.prn [0,4,15,16,17] R,lv,(W (x+1)),h,R⟩
 intro c2
 replace h:=J0 (nL c2) h
 refine eN (B8 (A5 R (I4 (C8 (C8 ?_)))))
 subst hK2
 refine F3 (A1 (qG (I1 R R R (A0j R R R (eN (C9 ?_))))))
 obtain rfl:=sI h
 exact f2 [0] O7 R (.cons (.tmp 4) .nil) R
theorem B2U {F:Nat} {c:E4} {squib:Int} {r:(List Int)} (h:A0g F c squib=some r):PC Tryz.prog 35 [.el 13 (([c]).map E4.d) ((0:Int)).toNat 0,.v (.int .i64 squib)] (.arr 1 ((r).map vI)):=(A1T h).toPC (.row rfl rfl)
def Y0 (F:Nat) (k:Int) (c:E4) (c2:Int):Option Bool:=(P7 c.C2 k).bind fun e=>some (decide (e=c2))
theorem A5I {F:Nat} {k:Int} {c:E4} {c2:Int} {r:Bool} (h:Y0 F k c c2=some r):PC Tryz.prog 102 [.v (.int .i64 k),.el 1 (([c]).map (fun x=>D.el 13 [E4.d x] 0 0)) ((0:Int)).toNat 0,.el 1 (([c2]).map vI) ((0:Int)).toNat 0] (.v (.bool r)):=by
 rw[Y0]at h
 refine SC.of_sw Tryz.func102 R R R ?_
 dsimp only[M1,List.map]
 refine qG (A3 R (eN (B8 (P5 kR ?_))))
 refine H9 (y := .el 13 (([c]).map E4.d) ((0:Int)).toNat 0) tb (Q6 (g:=(fun x=>D.el 13 [E4.d x] 0 0)) (R:P7 [c] 0=some c)) R ?_
 refine S9 R R R (M0 tb R (M0 tb R (H9 (y := .arr 1 ((c.C2).map vI)) tb (Q6 (g:=E4.d) (R:P7 [c] 0=some c)) R (A0 R ?_))))
 obtain⟨e,ie,h⟩:=H0 h
 refine J9 tb (S0 ie) (P6 ie) R (H9 (y:=vI e) tb (Q6 (g:=vI) ie) R (H9 (y:=vI c2) tb (Q6 (g:=vI) (R:P7 [c2] 0=some c2)) R (A3x R R R R (A3 R (F6 kR (A1 (C9 ?_)))))))
 obtain rfl:=sI h
 exact f1 4 R
def A0f (F:Nat) (B4:Int→Option Bool) (x:Int):Option Bool:=B4 (W (x+1))
def N8 (F:Nat) (c:E4) (person:Int) (rv:(Int × B0)) (e:E9) (K:Int→Option Bool):Nat→Int→Option Bool
 | 0,_=>none
 | n+1,x=>if x<(rv.2.squibs.length:Int)then((P7 rv.2.squibs x).bind fun e2=>if(W ((W ((max (max (W (e.F8-e2.A0o)) (W (e2.A0o-e.F7))) 0)*(max (max (W (e.F8-e2.A0o)) (W (e2.A0o-e.F7))) 0)))+(W ((max (max (W (e.G0-e2.A0p)) (W (e2.A0p-e.F9))) 0)*(max (max (W (e.G0-e2.A0p)) (W (e2.A0p-e.F9))) 0)))))<(W (e2.clear*e2.clear))then((P7 c.A7 x).bind fun e3=>if e3=2 then(A0f F (N8 F c person rv e K n) x)else((P7 c.M8 x).bind fun e4=>(J8 F e4.keys (fun a0=>Y0 F a0 c person)).bind fun rv2=>if rv2=true then(A0f F (N8 F c person rv e K n) x)else(some false)))else(N8 F c person rv e K n (W (x+1))))else(K x)
def V0 (F:Nat) (c:E4) (person:Int) (zone:Int):Option Bool:=(A1t F (B0.mk c.M6 c.R0 c.M7 c.V3 c.M8 c.R9 c.V4) zone).bind fun rv=>if rv.1<0 then(some true)else((P7 rv.2.zones rv.1).bind fun e=>N8 F c person rv e (fun(x:Int)=>some true) F 0)
theorem A1a {F:Nat} {c:E4} {person:Int} {zone:Int} {r:Bool} (h:V0 F c person zone=some r):PC Tryz.prog 79 [.el 13 (([c]).map E4.d) ((0:Int)).toNat 0,.v (.int .i64 person),.v (.int .i64 zone)] (.v (.bool r)):=by
 rw[V0]at h
 refine SC.of_swm Tryz.func79 R R R ?_
 dsimp only[M1,List.map]
 refine L9 ?_
 refine O1 fun df=>?_
 refine E5 (M4 R (M4 R (N0 tb R R R R R (eN (L9 (L9 ?_))))))
 refine O1 fun df=>?_
 refine E5 (B7 (y := .el 13 (([c]).map E4.d) ((0:Int)).toNat 0) tb R (S9 R R R (M0 tb R (H9 (y := .agg [.arr 8 ((c.M6).map E9.d),.arr 2 ((c.R0).map I0.d),.arr 2 ((c.M7).map E3.d),.arr 1 ((c.V3).map vS),.arr 6 ((c.M8).map C6.d),vI c.R9,vI c.V4]) tb (Q6 (g:=E4.d) (R:P7 [c] 0=some c)) R (A0 R ?_)))))
 obtain⟨rv,k,h⟩:=H0 h
 refine A0n (t' := .fn (.func 83) [] [.ref 3 1 0 0,.ref 4 7 0 0]) (news':=[⟨1,[.d (vI rv.1)]⟩,⟨7,[.d (B0.d rv.2)]⟩]) (A2s k) eK R R R ((.cons R (.cons R .nil))) R R R (eN (A1C ?_))
 refine A64 eK Tryz.func83 R R R R R R fun lb=>?_
 simp only[M1,Nat.zero_add,Nat.reduceAdd]
 refine J4 (J4 (Q4 (O0 (B7 (y:=vI rv.1) tb R ?_))))
 refine G8 R R R R ?_ ?_
 ·intro c2
  replace h:=H1 c2 h
  refine I9 (D6 (Z9 R (A4x (A0N ?_))))
  refine⟨R,[c1 (.el 13 (([c]).map E4.d) ((0:Int)).toNat 0),c1 (vI person),c1 (.v (.bool false)),c1 (vI rv.1),bx 7 (.d (B0.d rv.2))],[0,1,2,3,4],(vK (.cons R R (.cons R R (.cons R R (.cons R R (.cons R R .nil))))) R),?_⟩
  refine C3 (A1 ?_)
  refine O1 fun df=>?_
  refine qG (I5 _ _ tb R (eN (C9 ?_)))
  obtain rfl:=sI h
  exact Q2 (t := .d (.v (.bool true))) R R R (.cons (rc tb R) .nil)
 intro c2
 replace h:=J0 (nL c2) h
 refine I9 (D6 (R1 R (T8 (D6 (J4 (Q4 (O0 (C7 tb R (B7 (y := .arr 8 ((rv.2.zones).map E9.d)) tb R (B7 (y:=vI rv.1) tb R ?_))))))))))
 obtain⟨e,ie,h⟩:=H0 h
 refine J9 tb (S0 ie) (P6 ie) R (M0 tb R (H9 (y := .agg [vI e.F8,vI e.F7,vI e.G0,vI e.F9]) tb (Q6 (g:=E9.d) ie) R (N0 tb R R R R R (I5 _ _ tb R (I9 (D6 (J4 (Q4 (O0 (C7 tb R (B7 (y := .arr 6 ((rv.2.squibs).map C6.d)) tb R (H3 tb R (A0 R (I9 (D6 (A1g ?_))))))))))))))))
 obtain⟨K4,hK4,h⟩:∃ K,K=_∧N8 F c person rv e K F 0=some r:=⟨_,rfl,h⟩
 refine A4S (fun m ph st=>∃ (x:Int),N8 F c person rv e K4 m x=some r∧ph=SX.norm∧st=⟨[(0,.d (.v (.func (.yield lb) #[] #[]))),(4,.ref 5 4 0 0),(18,.d (.arr 6 ((rv.2.squibs).map C6.d))),(19,.d (vI (rv.2.squibs.length:Int))),(20,.d (vI x))],[c1 (.el 13 (([c]).map E4.d) ((0:Int)).toNat 0),c1 (vI person),c1 (.v (.bool false)),c1 (vI rv.1),bx 7 (.d (B0.d rv.2)),bx 4 (.d (.agg [vI e.F8,vI e.F7,vI e.G0,vI e.F9]))]⟩) (.prn [0,4,18,19,20] R) ⟨0,h,R,R⟩ ?_
 clear h
 rintro m4 ph st ⟨x,h,rfl,rfl⟩
 cases m4 with
 | zero=>cases(show(none:Option Bool)=some r from h)
 | succ m4 =>
 rw[N8]at h
 refine J4 (Q4 (O0 ?_))
 refine G8 R R R R ?_ ?_
 ·intro c3
  replace h:=H1 c3 h
  refine I9 (D6 (J4 (Z9 R (T8 (D6 (J4 (A1g (J4 (Q4 (O0 (A0 R ?_)))))))))))
  obtain⟨e2,ie2,h⟩:=H0 h
  refine J9 tb (S0 ie2) (P6 ie2) R (H9 (y:=C6.d e2) tb (Q6 (g:=C6.d) ie2) R (N0 tb R R R R R (A3 R (I5 _ _ tb R (I9 (D6 (J4 (A5Z (P5 kR (C7 tb R (C7 tb R (B7 (y:=vI e.F8) tb R (C7 tb R (C7 tb R (B7 (y:=vI e2.A0o) tb R (O6 R R R R (C7 tb R (C7 tb R (B7 (y:=vI e2.A0o) tb R (C7 tb R (C7 tb R (B7 (y:=vI e.F7) tb R (O6 R R R R ?_)))))))))))))))))))))))
  refine A4a R R R R R (C7 tb R (C7 tb R (B7 (y:=vI e.G0) tb R (C7 tb R (C7 tb R (B7 (y:=vI e2.A0p) tb R (O6 R R R R (C7 tb R (C7 tb R (B7 (y:=vI e2.A0p) tb R (C7 tb R (C7 tb R (B7 (y:=vI e.F9) tb R (O6 R R R R (A4a R R R R R (A3 R (A3 R (F6 kR (D6 (J4 (Q4 (O0 (A0 R (A0 R (A0L R R R R (A0 R (A0 R ?_)))))))))))))))))))))))))))
  refine A0L R R R R (H4 R (C7 tb R (B7 (y:=vI e2.clear) tb R (C7 tb R (B7 (y:=vI e2.clear) tb R (A0L R R R R ?_))))))
  refine G8 R R R R ?_ ?_
  ·intro c4
   replace h:=H1 c4 h
   refine A0 R (A0 R (A0 R (A47 ?_)))
   (with_reducible apply A4P (ys:=[vI x]));(iterate 7 exact rfl)
   dsimp only[B1t]
   refine E5 (A3 R (L5 ?_))
   refine⟨R,B0L ?_⟩
   refine D0 (B8 ?_)
   refine N3 (fun zz:Unit=>A0f F (N8 F c person rv e K4 m4) x=some r) (fun zz:Unit=>⟨[(6,.ref 2 1 0 0),(37,.d (.v (.bool false)))],[c1 (.el 13 (([c]).map E4.d) ((0:Int)).toNat 0),c1 (vI person),c1 (.v (.bool false)),c1 (vI rv.1),bx 7 (.d (B0.d rv.2)),bx 4 (.d (.agg [vI e.F8,vI e.F7,vI e.G0,vI e.F9])),bx 6 (.d (C6.d e2))]⟩) ?_ ?_
   ·clear h
    rintro⟨⟩ h
    rw[A0f]at h
    refine A5 R (C0 (C3 ?_))
    refine⟨[c1 (.el 13 (([c]).map E4.d) ((0:Int)).toNat 0),c1 (vI person),c1 (.v (.bool false)),c1 (vI rv.1),bx 7 (.d (B0.d rv.2)),bx 4 (.d (.agg [vI e.F8,vI e.F7,vI e.G0,vI e.F9])),bx 6 (.d (C6.d e2))],[0,1,2,3,4,5,6],(vK (.cons R R (.cons R R (.cons R R (.cons R R (.cons R R (.cons R R (.cons R R .nil))))))) R),?_⟩
    with_reducible apply A65
    refine O0 (M2 R R R (B5 R (I9 (D6 (R1 R (T8 (W6 (D6 (Q4 (O0 (H4 R (A0 R (I9 (D6 ?_))))))))))))))
    exact⟨m4,⟨[(0,.d (.v (.func (.yield lb) #[] #[]))),(4,.ref 5 4 0 0),(18,.d (.arr 6 ((rv.2.squibs).map C6.d))),(19,.d (vI (rv.2.squibs.length:Int))),(20,.d (vI (W (x+1))))],[c1 (.el 13 (([c]).map E4.d) ((0:Int)).toNat 0),c1 (vI person),c1 (.v (.bool false)),c1 (vI rv.1),bx 7 (.d (B0.d rv.2)),bx 4 (.d (.agg [vI e.F8,vI e.F7,vI e.G0,vI e.F9]))]⟩,lS,.vw (κ:=[0,1,2,3,4,5]) (vK (.cons R R (.cons R R (.cons R R (.cons R R (.cons R R (.cons R R .nil)))))) R),(W (x+1)),h,R,R⟩
   refine E5 (B7 (y := .el 13 (([c]).map E4.d) ((0:Int)).toNat 0) tb R (S9 R R R (M0 tb R (M0 tb R (H9 (y := .arr 1 ((c.A7).map vI)) tb (Q6 (g:=E4.d) (R:P7 [c] 0=some c)) R (A0 R ?_))))))
   obtain⟨e3,ie3,h⟩:=H0 h
   refine J9 tb (S0 ie3) (P6 ie3) R (H9 (y:=vI e3) tb (Q6 (g:=vI) ie3) R ?_)
   refine T6 R R R R ?_ ?_
   ·intro c5
    replace h:=J0 c5 h
    refine A0 R (B7 (y := .el 13 (([c]).map E4.d) ((0:Int)).toNat 0) tb R (S9 R R R (M0 tb R (M0 tb R (H9 (y := .arr 6 ((c.M8).map C6.d)) tb (Q6 (g:=E4.d) (R:P7 [c] 0=some c)) R (A0 R ?_))))))
    obtain⟨e4,ie4,h⟩:=H0 h
    refine J9 tb (S0 ie4) (P6 ie4) R (M0 tb R (H9 (y := .arr 1 ((e4.keys).map vI)) tb (Q6 (g:=C6.d) ie4) R (A7b R R R R ?_)))
    obtain⟨rv2,k2,h⟩:=H0 h
    refine A19 (t' := .d (.v (.bool rv2))) (news':=[]) (P8 (f:=(fun a0=>Y0 F a0 c person)) (fc:=[.el 1 [.el 13 (([c]).map E4.d) ((0:Int)).toNat 0] 0 0,.el 1 [vI person] 0 0]) (fh:=fun hr=>A5I hr) (fe := .of kR) k2) R .nil eK R R ((.cons (.d (.d _)) (.cons (.fnC (.cons (.d (.ref R (.d _))) (.cons (.d (.ref R (.d _))) .nil))) .nil))) R .nil R R R ?_
    simp only[List.map_nil,List.append_nil]
    with_reducible apply Y9
    ·intro c6
     replace h:=H1 c6 h
     refine M2 R R R (B5 R (eN ?_))
     exact .inl ⟨(),h,.prn [6,37] R⟩
    intro c6
    replace h:=X9 c6 h
    refine M3 R R R (B5 R (eN (.inr (A9 R (qG (I5 _ _ tb R (eN (C9 (C5 ?_)))))))))
    refine⟨[c1 (.el 13 (([c]).map E4.d) ((0:Int)).toNat 0),c1 (vI person),c1 (.v (.bool false)),c1 (vI rv.1),bx 7 (.d (B0.d rv.2)),bx 4 (.d (.agg [vI e.F8,vI e.F7,vI e.G0,vI e.F9])),bx 6 (.d (C6.d e2))],[0,1,2,3,4,5,6],(vK (.cons R R (.cons R R (.cons R R (.cons R R (.cons R R (.cons R R (.cons R R .nil))))))) R),?_⟩
    with_reducible apply B2C
    refine O0 (M3 R R R (B5 R (I9 (D6 (Z9 R (A4x (A2A (A0N (A0N (A2A ?_))))))))))
    refine⟨R,[c1 (.el 13 (([c]).map E4.d) ((0:Int)).toNat 0),c1 (vI person),c1 (.v (.bool false)),c1 (vI rv.1),bx 7 (.d (B0.d rv.2))],[0,1,2,3,4],(vK (.cons R R (.cons R R (.cons R R (.cons R R (.cons R R .nil))))) R),?_⟩
    refine C5 (B1 ?_)
    obtain rfl:=sI h
    exact Q2 (t := .d (.v (.bool false))) R R R (.cons (rc tb R) .nil)
   intro c5
   replace h:=H1 c5 h
   refine A0 R (H7 12 R (C4 R (eN ?_)))
   exact .inl ⟨(),h,.prn [6,37] R⟩
  intro c4
  replace h:=J0 (nL c4) h
  refine A0 R (H7 4 R (C4 R (I9 (D6 (R1 R (T8 (W6 (D6 (Q4 (O0 (H4 R (A0 R (I9 (D6 ?_))))))))))))))
  exact⟨m4,⟨[(0,.d (.v (.func (.yield lb) #[] #[]))),(4,.ref 5 4 0 0),(18,.d (.arr 6 ((rv.2.squibs).map C6.d))),(19,.d (vI (rv.2.squibs.length:Int))),(20,.d (vI (W (x+1))))],[c1 (.el 13 (([c]).map E4.d) ((0:Int)).toNat 0),c1 (vI person),c1 (.v (.bool false)),c1 (vI rv.1),bx 7 (.d (B0.d rv.2)),bx 4 (.d (.agg [vI e.F8,vI e.F7,vI e.G0,vI e.F9]))]⟩,lS,.vw (κ:=[0,1,2,3,4,5]) (vK (.cons R R (.cons R R (.cons R R (.cons R R (.cons R R (.cons R R .nil)))))) R),(W (x+1)),h,R,R⟩
 intro c3
 replace h:=J0 (nL c3) h
 refine I9 (D6 (J4 (R1 R (A5Y (A06 (A06 ?_))))))
 subst hK4
 refine A2Q ?_
 refine⟨R,[c1 (.el 13 (([c]).map E4.d) ((0:Int)).toNat 0),c1 (vI person),c1 (.v (.bool false)),c1 (vI rv.1),bx 7 (.d (B0.d rv.2))],[0,1,2,3,4],(vK (.cons R R (.cons R R (.cons R R (.cons R R (.cons R R .nil))))) R),?_⟩
 refine C3 (A1 ?_)
 refine O1 fun df=>?_
 refine qG (I5 _ _ tb R (eN (C9 ?_)))
 obtain rfl:=sI h
 exact Q2 (t := .d (.v (.bool true))) R R R (.cons (rc tb R) .nil)
def Y5 (F:Nat) (c:E4) (zone:Int):Option Bool:=if 0≤zone then((P7 c.M6 zone).bind fun e=>if e.pair=true then((A0t F c zone).bind fun rv=>some (decide (rv=1)))else(some false))else(some false)
theorem A1Q {F:Nat} {c:E4} {zone:Int} {r:Bool} (h:Y5 F c zone=some r):PC Tryz.prog 78 [.el 13 (([c]).map E4.d) ((0:Int)).toNat 0,.v (.int .i64 zone)] (.v (.bool r)):=by
 rw[Y5]at h
 refine SC.of_sw Tryz.func78 R R R ?_
 dsimp only[M1,List.map]
 refine qG (A3 R (eN (qG (A0 R ?_))))
 refine A35 R R R R ?_ ?_
 ·intro c2
  replace h:=H1 c2 h
  refine A0 R (A0 R (S9 R R R (M0 tb R (M0 tb R (H9 (y := .arr 8 ((c.M6).map E9.d)) tb (Q6 (g:=E4.d) (R:P7 [c] 0=some c)) R (A0 R ?_))))))
  obtain⟨e,ie,h⟩:=H0 h
  refine J9 tb (S0 ie) (P6 ie) R (M0 tb R (H9 (y := .v (.bool e.pair)) tb (Q6 (g:=E9.d) ie) R ?_))
  with_reducible apply Y9
  ·intro c3
   replace h:=H1 c3 h
   refine B5 R (A0 R (A0 R (A0 R ?_)))
   obtain⟨rv,k,h⟩:=H0 h
   refine N5 (A1R k) eK R R R R (A3x R R R R (B5 R (A3 R (eN (C9 ?_)))))
   obtain rfl:=sI h
   exact f1 4 R
  intro c3
  replace h:=X9 c3 h
  refine B5 R (A0 R (H7 4 R (C4 R (A3 R (eN (C9 ?_))))))
  obtain rfl:=sI h
  exact f1 4 R
 intro c2
 replace h:=J0 (Int.not_le.2 c2) h
 refine A0 R (H7 9 R (C4 R (A0 R (H7 4 R (C4 R (A3 R (eN (C9 ?_))))))))
 obtain rfl:=sI h
 exact f1 4 R
def A0h (F:Nat) (B6:Int→Option Bool) (x2:Int):Option Bool:=B6 (W (x2+1))
def N9 (F:Nat) :Option Bool:=some false
def A0i (F:Nat) (B9:Int→Option Bool) (x3:Int):Option Bool:=B9 (W (x3+1))
def O4 (F:Nat) (t:E4) (K:Int→Option Bool):Nat→Int→Option Bool
 | 0,_=>none
 | n+1,x3=>if x3<(t.A7.length:Int)then((P7 t.A7 x3).bind fun e5=>if e5=1 then((A0g F t x3).bind fun rv5=>if 0<(rv5.length:Int)then(N9 F)else(if t.G4<0 then(N9 F)else(if t.G2=true then(N9 F)else(A0i F (O4 F t K n) x3))))else(A0i F (O4 F t K n) x3))else(K x3)
def O5 (F:Nat) (t:E4) (K:Int→Option Bool):Nat→Int→Option Bool
 | 0,_=>none
 | n+1,x2=>if x2<(t.C1.length:Int)then((P7 t.C1 x2).bind fun e2=>if 0≤e2 then((P7 t.M7 x2).bind fun e3=>(P7 t.M6 e2).bind fun e4=>if e3.grade<e4.grade then(N9 F)else((V0 F t x2 e2).bind fun rv3=>if rv3=true then(A0h F (O5 F t K n) x2)else(N9 F)))else((V0 F t x2 e2).bind fun rv4=>if rv4=true then(A0h F (O5 F t K n) x2)else(N9 F)))else(K x2)
def Q7 (F:Nat) (t:E4) (K:Int→Option Bool):Nat→Int→Option Bool
 | 0,_=>none
 | n+1,x=>if x<(t.M6.length:Int)then((P7 t.M6 x).bind fun e=>(A0t F t x).bind fun rv=>if e.room<rv then(some false)else((Y5 F t x).bind fun rv2=>if rv2=true then(some false)else(Q7 F t K n (W (x+1)))))else(K x)
def A1f (F:Nat) (t:E4):Option Bool:=Q7 F t (fun(x:Int)=>O5 F t (fun(x2:Int)=>O4 F t (fun(x3:Int)=>some true) F 0) F 0) F 0
theorem A6X {F:Nat} {t:E4} {r:Bool} (h:A1f F t=some r):PC Tryz.prog 41 [.el 13 (([t]).map E4.d) ((0:Int)).toNat 0] (.v (.bool r)):=by
 rw[A1f]at h
 refine SC.of_sw Tryz.func41 R R R ?_
 dsimp only[M1,List.map]
 refine qG (A3 R (eN (B8 (qG (A0 R (S9 R R R (M0 tb R (M0 tb R (H9 (y := .arr 8 ((t.M6).map E9.d)) tb (Q6 (g:=E4.d) (R:P7 [t] 0=some t)) R (H3 tb R (A0 R (eN (D0 ?_)))))))))))))
 obtain⟨K3,hK3,h⟩:∃ K,K=_∧Q7 F t K F 0=some r:=⟨_,rfl,h⟩
 refine H6 (fun m st=>∃ (x:Int),Q7 F t K3 m x=some r∧st=⟨[(0,.d (.el 13 (([t]).map E4.d) ((0:Int)).toNat 0)),(2,.d (.v (.bool false))),(13,.d (.arr 8 ((t.M6).map E9.d))),(14,.d (vI (t.M6.length:Int))),(15,.d (vI x))],[]⟩) (.prn [0,2,13,14,15] R) ⟨0,h,R⟩ ?_
 clear h
 rintro m3 st ⟨x,h,rfl⟩
 cases m3 with
 | zero=>cases(show(none:Option Bool)=some r from h)
 | succ m3 =>
 rw[Q7]at h
 refine qG ?_
 refine G8 R R R R ?_ ?_
 ·intro c
  replace h:=H1 c h
  refine eN (B8 (A9 R (C0 (A1 (B8 (D0 (qG (A0 R ?_))))))))
  obtain⟨e,ie,h⟩:=H0 h
  refine J9 tb (S0 ie) (P6 ie) R (H9 (y:=E9.d e) tb (Q6 (g:=E9.d) ie) R (N0 tb R R R R R (A3 R (I5 _ _ tb R (eN (B8 (P5 kR (A0 R (A0 R ?_)))))))))
  obtain⟨rv,k,h⟩:=H0 h
  refine N5 (A1R k) eK R R R R (C7 tb R (B7 (y:=vI e.room) tb R ?_))
  refine A1D R R R R ?_ ?_
  ·intro c2
   replace h:=H1 c2 h
   refine A0 R (H7 3 R (B5 R (F6 kR (A1 (A9 R (qG (A3 R (eN (C9 (C5 (B1 (B1 (C5 (B1 ?_))))))))))))))
   obtain rfl:=sI h
   exact f1 2 R
  intro c2
  replace h:=J0 (nL c2) h
  refine A0 R (A0 R (A0 R ?_))
  obtain⟨rv2,k2,h⟩:=H0 h
  refine H8 (A1Q k2) eK R R R R ?_ ?_
  ·intro c3
   replace h:=H1 c3 h
   refine C4 R (F6 kR (A1 (A9 R (qG (A3 R (eN (C9 (C5 (B1 (B1 (C5 (B1 ?_))))))))))))
   obtain rfl:=sI h
   exact f1 2 R
  intro c3
  replace h:=X9 c3 h
  refine C4 R (F6 kR (A1 (A5 R (C0 (C3 (A1 (E5 (H4 R (A0 R (eN ?_))))))))))
  exact⟨m3,⟨[(0,.d (.el 13 (([t]).map E4.d) ((0:Int)).toNat 0)),(2,.d (.v (.bool false))),(13,.d (.arr 8 ((t.M6).map E9.d))),(14,.d (vI (t.M6.length:Int))),(15,.d (vI (W (x+1))))],[]⟩,lS,.vw (κ:=[]) (v0 R),(W (x+1)),h,R⟩
 intro c
 replace h:=J0 (nL c) h
 refine eN (B8 (A5 R (I4 (C8 (C8 ?_)))))
 subst hK3
 refine F3 (A1 (B8 (qG (A0 R (S9 R R R (M0 tb R (M0 tb R (H9 (y := .arr 1 ((t.C1).map vI)) tb (Q6 (g:=E4.d) (R:P7 [t] 0=some t)) R (H3 tb R (A0 R (eN (D0 ?_))))))))))))
 obtain⟨K6,hK6,h⟩:∃ K,K=_∧O5 F t K F 0=some r:=⟨_,rfl,h⟩
 refine H6 (fun m st=>∃ (x2:Int),O5 F t K6 m x2=some r∧st=⟨[(0,.d (.el 13 (([t]).map E4.d) ((0:Int)).toNat 0)),(2,.d (.v (.bool false))),(36,.d (.arr 1 ((t.C1).map vI))),(37,.d (vI (t.C1.length:Int))),(38,.d (vI x2))],[]⟩) (.prn [0,2,36,37,38] R) ⟨0,h,R⟩ ?_
 clear h
 rintro m6 st ⟨x2,h,rfl⟩
 cases m6 with
 | zero=>cases(show(none:Option Bool)=some r from h)
 | succ m6 =>
 rw[O5]at h
 refine qG ?_
 refine G8 R R R R ?_ ?_
 ·intro c4
  replace h:=H1 c4 h
  refine eN (B8 (A9 R (C0 (A1 (B8 ?_)))))
  refine N3 (fun zz:Unit=>A0h F (O5 F t K6 m6) x2=some r) (fun zz:Unit=>⟨[(0,.d (.el 13 (([t]).map E4.d) ((0:Int)).toNat 0)),(2,.d (.v (.bool false))),(36,.d (.arr 1 ((t.C1).map vI))),(37,.d (vI (t.C1.length:Int))),(38,.d (vI x2))],[]⟩) ?_ ?_
  ·clear h
   rintro⟨⟩ h
   rw[A0h]at h
   refine E5 (H4 R (A0 R (eN ?_)))
   exact⟨m6,_,lS,.prn [0,2,36,37,38] R,(W (x2+1)),h,R⟩
  refine D0 (qG (A0 R ?_))
  obtain⟨e2,ie2,h⟩:=H0 h
  refine J9 tb (S0 ie2) (P6 ie2) R (H9 (y:=vI e2) tb (Q6 (g:=vI) ie2) R (A3 R (A3 R (eN (B8 ?_)))))
  refine N3 (fun zz:Unit=>N9 F=some r) (fun zz:Unit=>⟨[(0,.d (.el 13 (([t]).map E4.d) ((0:Int)).toNat 0)),(2,.d (.v (.bool false))),(36,.d (.arr 1 ((t.C1).map vI))),(37,.d (vI (t.C1.length:Int))),(38,.d (vI x2)),(72,.d (.v (.bool true)))],[]⟩) ?_ ?_
  ·clear h
   rintro⟨⟩ h
   rw[N9]at h
   refine A9 R (qG (A3 R (eN (C9 (C5 (B1 (B1 (C5 (B1 ?_)))))))))
   obtain rfl:=sI h
   exact f1 2 R
  refine P5 kR (A0 R ?_)
  refine A35 R R R R ?_ ?_
  ·intro c5
   replace h:=H1 c5 h
   refine A0 R (A0 R (S9 R R R (M0 tb R (M0 tb R (H9 (y := .arr 2 ((t.M7).map E3.d)) tb (Q6 (g:=E4.d) (R:P7 [t] 0=some t)) R (A0 R ?_))))))
   obtain⟨e3,ie3,h⟩:=H0 h
   refine J9 tb (S0 ie3) (P6 ie3) R (M0 tb R (H9 (y:=vI e3.grade) tb (Q6 (g:=E3.d) ie3) R (A0 R (S9 R R R (M0 tb R (M0 tb R (H9 (y := .arr 8 ((t.M6).map E9.d)) tb (Q6 (g:=E4.d) (R:P7 [t] 0=some t)) R (A0 R ?_))))))))
   obtain⟨e4,ie4,h⟩:=H0 h
   refine J9 tb (S0 ie4) (P6 ie4) R (M0 tb R (H9 (y:=vI e4.grade) tb (Q6 (g:=E9.d) ie4) R ?_))
   refine G8 R R R R ?_ ?_
   ·intro c6
    replace h:=H1 c6 h
    refine B5 R (A0 R (H7 5 R (B5 R (F6 kR (A1 ?_)))))
    exact .inl ⟨(),h,.prn [0,2,36,37,38,72] R⟩
   intro c6
   replace h:=J0 (nL c6) h
   refine B5 R (A0 R (A0 R (A0 R (A0 R ?_))))
   obtain⟨rv3,k3,h⟩:=H0 h
   refine H8 (A1a k3) eK R R R R ?_ ?_
   ·intro c7
    replace h:=H1 c7 h
    refine M2 R R R (C4 R (F6 kR (A1 (.inr (A5 R (C0 (C3 (A1 ?_))))))))
    exact .inl ⟨(),h,.prn [0,2,36,37,38] R⟩
   intro c7
   replace h:=X9 c7 h
   refine M3 R R R (C4 R (F6 kR (A1 ?_)))
   exact .inl ⟨(),h,.prn [0,2,36,37,38,72] R⟩
  intro c5
  replace h:=J0 (Int.not_le.2 c5) h
  refine A0 R (H7 19 R (C4 R (A0 R (A0 R (A0 R (A0 R ?_))))))
  obtain⟨rv4,k4,h⟩:=H0 h
  refine H8 (A1a k4) eK R R R R ?_ ?_
  ·intro c8
   replace h:=H1 c8 h
   refine M2 R R R (C4 R (F6 kR (A1 (.inr (A5 R (C0 (C3 (A1 ?_))))))))
   exact .inl ⟨(),h,.prn [0,2,36,37,38] R⟩
  intro c8
  replace h:=X9 c8 h
  refine M3 R R R (C4 R (F6 kR (A1 ?_)))
  exact .inl ⟨(),h,.prn [0,2,36,37,38,72] R⟩
 intro c4
 replace h:=J0 (nL c4) h
 refine eN (B8 (A5 R (I4 (C8 (C8 ?_)))))
 subst hK6
 refine F3 (A1 (B8 (qG (A0 R (S9 R R R (M0 tb R (M0 tb R (H9 (y := .arr 1 ((t.A7).map vI)) tb (Q6 (g:=E4.d) (R:P7 [t] 0=some t)) R (H3 tb R (A0 R (eN (D0 ?_))))))))))))
 obtain⟨K9,hK9,h⟩:∃ K,K=_∧O4 F t K F 0=some r:=⟨_,rfl,h⟩
 refine H6 (fun m st=>∃ (x3:Int),O4 F t K9 m x3=some r∧st=⟨[(0,.d (.el 13 (([t]).map E4.d) ((0:Int)).toNat 0)),(2,.d (.v (.bool false))),(78,.d (.arr 1 ((t.A7).map vI))),(79,.d (vI (t.A7.length:Int))),(80,.d (vI x3))],[]⟩) (.prn [0,2,78,79,80] R) ⟨0,h,R⟩ ?_
 clear h
 rintro m9 st ⟨x3,h,rfl⟩
 cases m9 with
 | zero=>cases(show(none:Option Bool)=some r from h)
 | succ m9 =>
 rw[O4]at h
 refine qG ?_
 refine G8 R R R R ?_ ?_
 ·intro c9
  replace h:=H1 c9 h
  refine eN (B8 (A9 R (C0 (A1 (B8 ?_)))))
  refine N3 (fun zz:Unit=>A0i F (O4 F t K9 m9) x3=some r) (fun zz:Unit=>⟨[(0,.d (.el 13 (([t]).map E4.d) ((0:Int)).toNat 0)),(2,.d (.v (.bool false))),(78,.d (.arr 1 ((t.A7).map vI))),(79,.d (vI (t.A7.length:Int))),(80,.d (vI x3))],[]⟩) ?_ ?_
  ·clear h
   rintro⟨⟩ h
   rw[A0i]at h
   refine E5 (H4 R (A0 R (eN ?_)))
   exact⟨m9,_,lS,.prn [0,2,78,79,80] R,(W (x3+1)),h,R⟩
  refine D0 (qG (A0 R ?_))
  obtain⟨e5,ie5,h⟩:=H0 h
  refine J9 tb (S0 ie5) (P6 ie5) R (H9 (y:=vI e5) tb (Q6 (g:=vI) ie5) R (A3 R (A3 R (eN (B8 ?_)))))
  refine N3 (fun zz:Unit=>N9 F=some r) (fun zz:Unit=>⟨[(0,.d (.el 13 (([t]).map E4.d) ((0:Int)).toNat 0)),(2,.d (.v (.bool false))),(78,.d (.arr 1 ((t.A7).map vI))),(79,.d (vI (t.A7.length:Int))),(80,.d (vI x3)),(108,.d (.v (.bool true)))],[]⟩) ?_ ?_
  ·clear h
   rintro⟨⟩ h
   rw[N9]at h
   refine A9 R (qG (A3 R (eN (C9 (C5 (B1 (B1 (C5 (B1 ?_)))))))))
   obtain rfl:=sI h
   exact f1 2 R
  refine E5 (A0 R ?_)
  refine Q0 R R R R ?_ ?_
  ·intro c10
   replace h:=H1 c10 h
   refine A0 R (A0 R (A0 R ?_))
   obtain⟨rv5,k5,h⟩:=H0 h
   refine A0n (t' := .row 0 1 0 (rv5).length) (news':=[(lvI rv5)]) (A1T k5) eK R R R ((.row .nil)) R R R (A3y tb R R R R R ?_)
   refine A1D R R R R ?_ ?_
   ·intro c11
    replace h:=H1 c11 h
    refine A0 R (H7 6 R (B5 R (A0 R (H7 5 R (B5 R (B5 R (eN ?_)))))))
    exact .inl ⟨(),h,.vw (κ:=[]) (v0 R)⟩
   intro c11
   replace h:=J0 (nL c11) h
   refine A0 R (A0 R (S9 R R R (M0 tb R (M0 tb R (H9 (y:=vI t.G4) tb (Q6 (g:=E4.d) (R:P7 [t] 0=some t)) R ?_)))))
   refine G8 R R R R ?_ ?_
   ·intro c12
    replace h:=H1 c12 h
    refine C4 R (A0 R (H7 5 R (B5 R (B5 R (eN ?_)))))
    exact .inl ⟨(),h,.vw (κ:=[]) (v0 R)⟩
   intro c12
   replace h:=J0 (nL c12) h
   refine C4 R (A0 R (A0 R (S9 R R R (M0 tb R (M0 tb R (H9 (y := .v (.bool t.G2)) tb (Q6 (g:=E4.d) (R:P7 [t] 0=some t)) R ?_))))))
   with_reducible apply Y9
   ·intro c13
    replace h:=H1 c13 h
    refine C4 R (B5 R (eN ?_))
    exact .inl ⟨(),h,.vw (κ:=[]) (v0 R)⟩
   intro c13
   replace h:=X9 c13 h
   refine C4 R (B5 R (eN (.inr (A5 R (C0 (C3 (A1 ?_)))))))
   exact .inl ⟨(),h,.vw (κ:=[]) (v0 R)⟩
  intro c10
  replace h:=J0 c10 h
  refine A0 R (H7 20 R (C4 R (eN (.inr (A5 R (C0 (C3 (A1 ?_))))))))
  exact .inl ⟨(),h,.vw (κ:=[]) (v0 R)⟩
 intro c9
 replace h:=J0 (nL c9) h
 refine eN (B8 (A5 R (I4 (C8 (C8 ?_)))))
 subst hK9
 refine F3 (A1 (qG (A3 R (eN (C9 ?_)))))
 obtain rfl:=sI h
 exact f1 2 R
def R2 (F:Nat) (c:E4) (who:Int):Option (Except Int E4):=(P7 c.C1 who).bind fun e=>(J2 F (decide (e=c.R9)) 171).bind fun rv=>exE rv (fun x=>some (.error x)) (fun v=>some (.ok c))
theorem J7 {F:Nat} {c:E4} {who:Int} {r:(Except Int E4)} (h:R2 F c who=some r):SCX Tryz.prog 112 [.ref 0 13 0 0,.d (.v (.int .i64 who))] (D1 c []) r 34 (fun(a:E4) => .d (.tup [])) (fun(a:E4)=>(D1 a [])):=by
 rw[R2]at h
 refine SC.of_sw Tryz.func112 R R R ?_
 dsimp only[M1,List.map]
 refine A15 kR (L7 R R R (I8 R R R (C7 tb R (C7 tb R (A0T tb R R R R R R R R R (A0 R ?_))))))
 obtain⟨e,ie,h⟩:=H0 h
 refine Q5 tb R R R R R R (S0 ie) (ix1 ie) R R ?_
 refine V2 (y:=vI e) tb R R R R (Q6 (g:=fun a=>T.d (vI a)) ie) R R R R ?_
 refine L7 R R R (I8 R R R (C7 tb R (C7 tb R (B7 (y:=vI c.R9) tb R (A3x R R R R ?_)))))
 obtain⟨rv,k,h⟩:=H0 h
 rcases Q9 rv with⟨x,nv⟩ | ⟨v,nv⟩
 ·replace h:=(exN nv).symm.trans h
  refine R6 kR kR ?_
  (with_reducible apply L3 []);exact(D3 k).err nv;exact rfl;exact eK;exact rfl;exact .inl ⟨rfl,rfl,rfl⟩;(iterate 4 exact rfl);exact .nil;exact rfl
  intro cnt
  obtain rfl:=sI h
  exact P9 (L:=D1 c []) (κ:=[0,1,2,3]) (vK (.cons R R V8) R) (.inr ⟨_,R,R⟩)
 replace h:=(exO nv).symm.trans h
 refine G5 (t' := .d (.tup [])) (ls:=[]) (news:=[]) ([]) (D1 c []) ((D3 k).ok nv) eK R (.inl ⟨R,R,R⟩) R R R R .nil R R R .nil .nil R R R R (Q1 kR ?_)
 obtain rfl:=sI h
 exact M9 (L8 (t := .d (.tup [])) (L:=D1 c []) (κ:=[0,1,2,3]) R .nil (vK (.cons R R V8) R) (.inl ⟨_,R,R,R⟩))
def A0Y (F:Nat) (B3:Int→Option Bool) (x:Int):Option Bool:=B3 (W (x+1))
def U1 (F:Nat) (c:E4) (so:(C6→Option Bool)) (K:Int→Option Bool):Nat→Int→Option Bool
 | 0,_=>none
 | n+1,x=>if x<(c.A7.length:Int)then((P7 c.A7 x).bind fun e=>if e=1 then((P7 c.M8 x).bind fun e2=>(so e2).bind fun rv=>if rv=true then(some true)else(A0Y F (U1 F c so K n) x))else(A0Y F (U1 F c so K n) x))else(K x)
def A1N (F:Nat) (c:E4) (so:(C6→Option Bool)):Option Bool:=U1 F c so (fun(x:Int)=>some false) F 0
theorem A32 {F:Nat} {c:E4} {so:(C6→Option Bool)} {r:Bool} {soi:Nat} {soc:List D} (soh:∀ {a0:C6} {r:Bool},so a0=some r→PC Tryz.prog soi ([C6.d a0]++soc) (.v (.bool r))) (soe:Ent Tryz.prog soi) (h:A1N F c so=some r):SCR Tryz.prog 113 [.d (.el 13 (([c]).map E4.d) ((0:Int)).toNat 0),.fn (.func soi) [] (soc.map .d)] [] (.d (.v (.bool r))) (List.map some []):=by
 rw[A1N]at h
 refine SC.of_sw Tryz.func113 R R R ?_
 dsimp only[M1,List.map]
 refine qG (A3 R (eN (B8 (qG (A0 R (S9 R R R (M0 tb R (M0 tb R (H9 (y := .arr 1 ((c.A7).map vI)) tb (Q6 (g:=E4.d) (R:P7 [c] 0=some c)) R (H3 tb R (A0 R (eN (D0 ?_)))))))))))))
 obtain⟨K3,hK3,h⟩:∃ K,K=_∧U1 F c so K F 0=some r:=⟨_,rfl,h⟩
 refine H6 (fun m st=>∃ (x:Int),U1 F c so K3 m x=some r∧st=⟨[(0,.d (.el 13 (([c]).map E4.d) ((0:Int)).toNat 0)),(1,.fn (.func soi) [] (soc.map .d)),(4,.d (.v (.bool false))),(11,.d (.arr 1 ((c.A7).map vI))),(12,.d (vI (c.A7.length:Int))),(13,.d (vI x))],[]⟩) (.prn [0,1,4,11,12,13] R) ⟨0,h,R⟩ ?_
 clear h
 rintro m3 st ⟨x,h,rfl⟩
 cases m3 with
 | zero=>cases(show(none:Option Bool)=some r from h)
 | succ m3 =>
 rw[U1]at h
 refine qG ?_
 refine G8 R R R R ?_ ?_
 ·intro c2
  replace h:=H1 c2 h
  refine eN (B8 (A9 R (C0 (A1 (B8 ?_)))))
  refine N3 (fun zz:Unit=>A0Y F (U1 F c so K3 m3) x=some r) (fun zz:Unit=>⟨[(0,.d (.el 13 (([c]).map E4.d) ((0:Int)).toNat 0)),(1,.fn (.func soi) [] (soc.map .d)),(4,.d (.v (.bool false))),(11,.d (.arr 1 ((c.A7).map vI))),(12,.d (vI (c.A7.length:Int))),(13,.d (vI x))],[]⟩) ?_ ?_
  ·clear h
   rintro⟨⟩ h
   rw[A0Y]at h
   refine E5 (H4 R (A0 R (eN ?_)))
   exact⟨m3,_,lS,.prn [0,1,4,11,12,13] R,(W (x+1)),h,R⟩
  refine D0 (qG (A0 R ?_))
  obtain⟨e,ie,h⟩:=H0 h
  refine J9 tb (S0 ie) (P6 ie) R (H9 (y:=vI e) tb (Q6 (g:=vI) ie) R (A3 R (A3 R (eN (qG (A0 R ?_))))))
  refine Q0 R R R R ?_ ?_
  ·intro c3
   replace h:=H1 c3 h
   refine A0 R (A4b R R R (A0 R (S9 R R R (M0 tb R (M0 tb R (H9 (y := .arr 6 ((c.M8).map C6.d)) tb (Q6 (g:=E4.d) (R:P7 [c] 0=some c)) R (A0 R ?_)))))))
   obtain⟨e2,ie2,h⟩:=H0 h
   refine J9 tb (S0 ie2) (P6 ie2) R (H9 (y:=C6.d e2) tb (Q6 (g:=C6.d) ie2) R ?_)
   obtain⟨rv,k,h⟩:=H0 h
   refine A2M (vs:=[C6.d e2]) (soh k) soe R R R R ?_
   with_reducible apply Y9
   ·intro c4
    replace h:=H1 c4 h
    refine B5 R (eN (A9 R (qG (A3 R (eN (C9 (C5 (B1 (B1 (C5 (B1 ?_)))))))))))
    obtain rfl:=sI h
    exact f1 4 R
   intro c4
   replace h:=X9 c4 h
   refine B5 R (eN (A5 R (C0 (C3 (A1 ?_)))))
   exact .inl ⟨(),h,.prn [0,1,4,11,12,13] R⟩
  intro c3
  replace h:=J0 c3 h
  refine A0 R (H7 10 R (C4 R (eN (A5 R (C0 (C3 (A1 ?_)))))))
  exact .inl ⟨(),h,.prn [0,1,4,11,12,13] R⟩
 intro c2
 replace h:=J0 (nL c2) h
 refine eN (B8 (A5 R (I4 (C8 (C8 ?_)))))
 subst hK3
 refine F3 (A1 (qG (A3 R (eN (C9 ?_)))))
 obtain rfl:=sI h
 exact f1 4 R
def Y8 (F:Nat) (s:(List Int)) (v:Int) (K:Int→Option Int):Nat→Int→Option Int
 | 0,_=>none
 | n+1,x=>if x<(s.length:Int)then((P7 s x).bind fun e=>if v=e then(some x)else(Y8 F s v K n (W (x+1))))else(K x)
def A2H (F:Nat) (s:(List Int)) (v:Int):Option Int:=Y8 F s v (fun(x:Int)=>some (-1)) F 0
theorem A6A {F:Nat} {s:(List Int)} {v:Int} {r:Int} (h:A2H F s v=some r):PC Tryz.prog 128 [.arr 1 ((s).map vI),.v (.int .i64 v)] (.v (.int .i64 r)):=by
 rw[A2H]at h
 refine SC.of_sw Tryz.func128 R R R ?_
 dsimp only[M1,List.map]
 refine qG (A3 R (eN (B8 (qG (A0 R (H3 tb R (A0 R (eN (D0 ?_)))))))))
 obtain⟨K2,hK2,h⟩:∃ K,K=_∧Y8 F s v K F 0=some r:=⟨_,rfl,h⟩
 refine H6 (fun m st=>∃ (x:Int),Y8 F s v K2 m x=some r∧st=⟨[(0,.d (.arr 1 ((s).map vI))),(1,.d (vI v)),(4,.d (vI 0)),(7,.d (vI (s.length:Int))),(8,.d (vI x))],[]⟩) (.prn [0,1,4,7,8] R) ⟨0,h,R⟩ ?_
 clear h
 rintro m2 st ⟨x,h,rfl⟩
 cases m2 with
 | zero=>cases(show(none:Option Int)=some r from h)
 | succ m2 =>
 rw[Y8]at h
 refine qG ?_
 refine G8 R R R R ?_ ?_
 ·intro c
  replace h:=H1 c h
  refine eN (B8 (A9 R (C0 (A1 (B8 (D0 (qG (A0 R (A3 R (eN (qG (A0 R (A0 R (A0 R ?_))))))))))))))
  obtain⟨e,ie,h⟩:=H0 h
  refine J9 tb (S0 ie) (P6 ie) R (H9 (y:=vI e) tb (Q6 (g:=vI) ie) R ?_)
  refine Q0 R R R R ?_ ?_
  ·intro c2
   replace h:=H1 c2 h
   refine eN (A9 R (qG (A0 R (A3 R (eN (C9 (C5 (B1 (B1 (C5 (B1 ?_)))))))))))
   obtain rfl:=sI h
   exact f1 4 R
  intro c2
  replace h:=J0 c2 h
  refine eN (A5 R (C0 (C3 (A1 (E5 (H4 R (A0 R (eN ?_))))))))
  exact⟨m2,_,lS,.prn [0,1,4,7,8] R,(W (x+1)),h,R⟩
 intro c
 replace h:=J0 (nL c) h
 refine eN (B8 (A5 R (I4 (C8 (C8 ?_)))))
 subst hK2
 refine F3 (A1 (qG (A3 R (eN (C9 ?_)))))
 obtain rfl:=sI h
 exact f1 4 R
def A1G (F:Nat) (s:(List Int)) (v:Int):Option Bool:=(A2H F s v).bind fun rv=>some (decide (0≤rv))
theorem A5q {F:Nat} {s:(List Int)} {v:Int} {r:Bool} (h:A1G F s v=some r):PC Tryz.prog 115 [.arr 1 ((s).map vI),.v (.int .i64 v)] (.v (.bool r)):=by
 rw[A1G]at h
 refine SC.of_sw Tryz.func115 R R R ?_
 dsimp only[M1,List.map]
 refine qG (A3 R (eN (qG (A0 R (A0 R ?_)))))
 obtain⟨rv,k,h⟩:=H0 h
 refine N5 (A6A k) eK R R R R (A5p R R R R (A3 R (eN (C9 ?_))))
 obtain rfl:=sI h
 exact f1 4 R
def U8 (F:Nat) (s:(List I0)) (v:I0) (K:Int→Option Int):Nat→Int→Option Int
 | 0,_=>none
 | n+1,x=>if x<(s.length:Int)then((P7 s x).bind fun e=>if(I0.beq v e)=true then(some x)else(U8 F s v K n (W (x+1))))else(K x)
def A1H (F:Nat) (s:(List I0)) (v:I0):Option Int:=U8 F s v (fun(x:Int)=>some (-1)) F 0
theorem A5r {F:Nat} {s:(List I0)} {v:I0} {r:Int} (h:A1H F s v=some r):PC Tryz.prog 127 [.arr 2 ((s).map I0.d),I0.d v] (.v (.int .i64 r)):=by
 rw[A1H]at h
 refine SC.of_sw Tryz.func127 R R R ?_
 dsimp only[M1,List.map]
 refine qG (M4 R (A3 R (eN (B8 (qG (A0 R (H3 tb R (A0 R (eN (D0 ?_))))))))))
 obtain⟨K2,hK2,h⟩:∃ K,K=_∧U8 F s v K F 0=some r:=⟨_,rfl,h⟩
 refine H6 (fun m st=>∃ (x:Int),U8 F s v K2 m x=some r∧st=⟨[(0,.d (.arr 2 ((s).map I0.d))),(3,.ref 0 2 0 0),(4,.d (vI 0)),(7,.d (vI (s.length:Int))),(8,.d (vI x))],[bx 2 (.d (I0.d v))]⟩) (.prn [0,3,4,7,8] R) ⟨0,h,R⟩ ?_
 clear h
 rintro m2 st ⟨x,h,rfl⟩
 cases m2 with
 | zero=>cases(show(none:Option Int)=some r from h)
 | succ m2 =>
 rw[U8]at h
 refine qG ?_
 refine G8 R R R R ?_ ?_
 ·intro c
  replace h:=H1 c h
  refine eN (B8 (A9 R (C0 (A1 (B8 (D0 (qG (A0 R (A3 R (eN (B8 (P5 kR (B7 (y:=I0.d v) tb R (A0 R (A0 R ?_)))))))))))))))
  obtain⟨e,ie,h⟩:=H0 h
  refine J9 tb (S0 ie) (P6 ie) R (H9 (y:=I0.d e) tb (Q6 (g:=I0.d) ie) R ?_)
  refine B6s (p:=[.int .i64 v.a,.int .i64 v.b]) (q:=[.int .i64 e.a,.int .i64 e.b]) R R (fun o1 o2 w=>B7l v e o1 o2 w) R R ?_
  with_reducible apply Y9
  ·intro c2
   replace h:=H1 c2 h
   refine F6 kR (A1 (A9 R (qG (A0 R (A3 R (eN (C9 (C5 (B1 (B1 (C5 (B1 ?_))))))))))))
   obtain rfl:=sI h
   exact f1 4 R
  intro c2
  replace h:=X9 c2 h
  refine F6 kR (A1 (A5 R (C0 (C3 (A1 (E5 (H4 R (A0 R (eN ?_)))))))))
  exact⟨m2,_,lS,.prn [0,3,4,7,8] R,(W (x+1)),h,R⟩
 intro c
 replace h:=J0 (nL c) h
 refine eN (B8 (A5 R (I4 (C8 (C8 ?_)))))
 subst hK2
 refine F3 (A1 (qG (A3 R (eN (C9 ?_)))))
 obtain rfl:=sI h
 exact f1 4 R
def Z5 (F:Nat) (s:(List I0)) (v:I0):Option Bool:=(A1H F s v).bind fun rv=>some (decide (0≤rv))
theorem A1E {F:Nat} {s:(List I0)} {v:I0} {r:Bool} (h:Z5 F s v=some r):PC Tryz.prog 111 [.arr 2 ((s).map I0.d),I0.d v] (.v (.bool r)):=by
 rw[Z5]at h
 refine SC.of_sw Tryz.func111 R R R ?_
 dsimp only[M1,List.map]
 refine qG (M4 R (A3 R (eN (qG (A0 R (B7 (y:=I0.d v) tb R ?_))))))
 obtain⟨rv,k,h⟩:=H0 h
 refine N5 (A5r k) eK R R R R (A5p R R R R (A3 R (eN (C9 ?_))))
 obtain rfl:=sI h
 exact f1 4 R
def A09 (F:Nat) (B19:Int→Option (Except Int E4)) (t:E4) (o:D4) (x3:Int) (e3:Int):Option (Except Int E4):=(V0 F t e3 o.what).bind fun rv10=>(J2 F rv10 174).bind fun rv11=>exE rv11 (fun x9=>some (.error x9)) (fun v7=>B19 (W (x3+1)))
def T4 (F:Nat) (t:E4) (rv7:(Int × B0)) (e6:E9) (K:Int→Option (Except Int E4)):Nat→Int→Option (Except Int E4)
 | 0,_=>none
 | n+1,x6=>if x6<(rv7.2.squibs.length:Int)then((P7 rv7.2.squibs x6).bind fun e7=>if(W ((W ((max (max (W (e6.F8-e7.A0o)) (W (e7.A0o-e6.F7))) 0)*(max (max (W (e6.F8-e7.A0o)) (W (e7.A0o-e6.F7))) 0)))+(W ((max (max (W (e6.G0-e7.A0p)) (W (e7.A0p-e6.F9))) 0)*(max (max (W (e6.G0-e7.A0p)) (W (e7.A0p-e6.F9))) 0)))))<(W (e7.clear*e7.clear))then(if t.G2=true then((P7 t.A7 x6).bind fun e8=>(J2 F (decide (e8=2)) 173).bind fun rv8=>exE rv8 (fun x7=>some (.error x7)) (fun v5=>T4 F t rv7 e6 K n (W (x6+1))))else((J2 F true 173).bind fun rv9=>exE rv9 (fun x8=>some (.error x8)) (fun v6=>T4 F t rv7 e6 K n (W (x6+1)))))else(T4 F t rv7 e6 K n (W (x6+1))))else(K x6)
def A0A (F:Nat) (B19:Int→Option (Except Int E4)) (t:E4) (o:D4) (x3:Int) (e3:Int):Option (Except Int E4):=(A1t F (B0.mk t.M6 t.R0 t.M7 t.V3 t.M8 t.R9 t.V4) o.what).bind fun rv7=>if rv7.1<0 then(A09 F B19 t o x3 e3)else((P7 rv7.2.zones rv7.1).bind fun e6=>T4 F t rv7 e6 (fun(x6:Int)=>A09 F B19 t o x3 e3) F 0)
def A0B (F:Nat) (t:E4) (o:D4) (e:Int) (A:(List Int)):Option (Except Int E4):=(Y5 F {t with C1:=A} o.what).bind fun rv15=>if rv15=true then((J2 F false 176).bind fun rv16=>exE rv16 (fun x13=>some (.error x13)) (fun v10=>none))else((Y5 F {t with C1:=A} e).bind fun rv17=>(J2 F (!rv17) 176).bind fun rv18=>exE rv18 (fun x14=>some (.error x14)) (fun v11=>some (.ok {t with C1:=A})))
def Y6 (F:Nat) (o:D4) (y:(List Int)) (K:(List Int)→Int→Option (Except Int E4)):Nat→(List Int)→Int→Option (Except Int E4)
 | 0,_,_=>none
 | n+1,A,x10=>if x10<(y.length:Int)then((P7 y x10).bind fun e9=>(P7 A e9).bind fun e10=>(A4g A e9 o.what).bind fun A2=>Y6 F o y K n A2 (W (x10+1)))else(K A x10)
def R3 (F:Nat) (t:E4) (o:D4) (y:(List Int)) (K:Int→Option (Except Int E4)):Nat→Int→Option (Except Int E4)
 | 0,_=>none
 | n+1,x3=>if x3<(y.length:Int)then((P7 y x3).bind fun e3=>if o.what<0 then((J2 F true 172).bind fun rv5=>exE rv5 (fun x4=>some (.error x4)) (fun v3=>A0A F (R3 F t o y K n) t o x3 e3))else((P7 t.M7 e3).bind fun e4=>(P7 t.M6 o.what).bind fun e5=>(J2 F (decide (e5.grade≤e4.grade)) 172).bind fun rv6=>exE rv6 (fun x5=>some (.error x5)) (fun v4=>A0A F (R3 F t o y K n) t o x3 e3)))else(K x3)
def A0C (F:Nat) (t:E4) (o:D4) (e:Int) (y:(List Int)):Option (Except Int E4):=R3 F t o y (fun(x3:Int)=>Y6 F o y (fun(A:(List Int)) (x10:Int)=>if o.what<0 then((J2 F true 175).bind fun rv12=>exE rv12 (fun x11=>some (.error x11)) (fun v8=>A0B F t o e A))else((A0t F {t with C1:=A} o.what).bind fun rv13=>(P7 t.M6 o.what).bind fun e11=>(J2 F (decide (rv13≤e11.room)) 175).bind fun rv14=>exE rv14 (fun x12=>some (.error x12)) (fun v9=>A0B F t o e A))) F t.C1 0) F 0
def A0D (F:Nat) (t:E4) (o:D4) (e:Int):Option (Except Int E4):=if 0≤o.with_ then((A67 [o.who] [o.with_]).bind fun q=>A0C F t o e q)else(A0C F t o e [o.who])
def A0E (F:Nat) (t:E4) (o:D4) (e:Int):Option (Except Int E4):=if o.with_<0 then((J2 F true 171).bind fun rv3=>exE rv3 (fun x=>some (.error x)) (fun v=>A0D F t o e))else((P7 t.C1 o.with_).bind fun e2=>(J2 F (decide (e2=e)) 171).bind fun rv4=>exE rv4 (fun x2=>some (.error x2)) (fun v2=>A0D F t o e))
def A2E (F:Nat) (t:E4) (o:D4):Option (Except Int E4):=(P7 t.C1 o.who).bind fun e=>(Z5 F t.R0 (I0.mk e o.what)).bind fun rv=>if rv=true then(A0E F t o e)else((Z5 F t.R0 (I0.mk o.what e)).bind fun rv2=>if rv2=true then(A0E F t o e)else((J2 F false 171).bind fun rv3=>exE rv3 (fun x=>some (.error x)) (fun v=>none)))
theorem A3c {F:Nat} {t:E4} {o:D4} {r:(Except Int E4)} (h:A2E F t o=some r):SCX Tryz.prog 86 [.ref 0 13 0 0,.d (D4.d o)] (D1 t []) r 34 (fun(a:E4) => .d (.tup [])) (fun(a:E4)=>(D1 a [])):=by
 rw[A2E]at h
 refine SC.of_swm Tryz.func86 R R R ?_
 dsimp only[M1,List.map]
 refine L9 ?_
 refine O1 fun df=>?_
 refine E5 (M4 R (M4 R (eN (L9 ?_))))
 refine O1 fun df=>?_
 refine P5 kR (A3Z tb R R R R R R R R R (I8 R R R (C7 tb R (C7 tb R (A0T tb R R R R R R R R R (C7 tb R (B7 (y:=vI o.who) tb R ?_)))))))
 obtain⟨e,ie,h⟩:=H0 h
 refine Q5 tb R R R R R R (S0 ie) (ix1 ie) R R ?_
 refine V2 (y:=vI e) tb R R R R (Q6 (g:=fun a=>T.d (vI a)) ie) R R R R ?_
 refine A3 R (F6 kR (A1 (L9 ?_)))
 refine A2z (fun zz:Unit=>A0E F t o e=some r) (fun zz:Unit=>⟨[(2,.ref 4 1 0 0),(3,.ref 5 5 0 0),(4,.d (vI e)),(5,.d (.v (.bool true)))],D1 t [bx 1 (.ref 0 13 0 0),bx 5 (.d (D4.d o))]⟩) ?_ ?_
 ·clear h
  rintro⟨⟩ h
  rw[A0E]at h
  refine L9 ?_
  refine A2z (fun zz:Unit=>A0D F t o e=some r) (fun zz:Unit=>⟨[(2,.ref 4 1 0 0),(3,.ref 5 5 0 0),(4,.d (vI e))],D1 t [bx 1 (.ref 0 13 0 0),bx 5 (.d (D4.d o))]⟩) ?_ ?_
  ·clear h
   rintro⟨⟩ h
   rw[A0D]at h
   refine L9 ?_
   refine O1 fun df=>?_
   refine E5 (C7 tb R (B7 (y:=vI o.who) tb R (R8 tb R R R R R R R R R R R R R (A0j R R R (eN (L9 ?_))))))
   refine A2z (fun zz:(List Int)=>A0C F t o e zz=some r) (fun zz:(List Int)=>⟨[(2,.ref 4 1 0 0),(3,.ref 5 5 0 0),(4,.d (vI e)),(6,.row 6 1 0 (zz).length)],D1 t [bx 1 (.ref 0 13 0 0),bx 5 (.d (D4.d o)),F5 zz]⟩) ?_ ?_
   ·clear h
    rintro y h
    rw[A0C]at h
    refine L9 (L9 ?_)
    refine O1 fun df=>?_
    refine E5 (I1 R R R (A3y tb R R R R R (A0 R (eN (A1C ?_)))))
    obtain⟨K19,hK19,h⟩:∃ K,K=_∧R3 F t o y K F 0=some r:=⟨_,rfl,h⟩
    refine A9Y (fun m st=>∃ (x3:Int),R3 F t o y K19 m x3=some r∧st=⟨[(2,.ref 4 1 0 0),(3,.ref 5 5 0 0),(4,.d (vI e)),(6,.row 6 1 0 (y).length),(74,.row 6 1 0 (y).length),(75,.d (vI (y.length:Int))),(76,.d (vI x3))],D1 t [bx 1 (.ref 0 13 0 0),bx 5 (.d (D4.d o)),F5 y]⟩) (.prn [2,3,4,6,74,75,76] R) ⟨0,h,R⟩ ?_
    clear h
    rintro m19 st ⟨x3,h,rfl⟩
    cases m19 with
    | zero=>cases(show(none:Option (Except Int E4))=some r from h)
    | succ m19 =>
    rw[R3]at h
    refine L9 ?_
    refine O1 fun df=>?_
    refine E5 ?_
    refine G8 R R R R ?_ ?_
    ·intro c5
     replace h:=H1 c5 h
     refine eN (L9 ?_)
     refine O1 fun df=>?_
     refine A9 R (C0 (A1 (L9 (A1C (L9 ?_)))))
     refine O1 fun df=>?_
     refine E5 ?_
     obtain⟨e3,ie3,h⟩:=H0 h
     refine Q5 tb R R R R R R (S0 ie3) (ix1 ie3) R R ?_
     refine V2 (y:=vI e3) tb R R R R (Q6 (g:=fun a=>T.d (vI a)) ie3) R R R R ?_
     refine A3 R (eN (L9 ?_))
     refine A2z (fun zz:Unit=>A0A F (R3 F t o y K19 m19) t o x3 e3=some r) (fun zz:Unit=>⟨[(2,.ref 4 1 0 0),(3,.ref 5 5 0 0),(4,.d (vI e)),(6,.row 6 1 0 (y).length),(8,.d (vI e3)),(74,.row 6 1 0 (y).length),(75,.d (vI (y.length:Int))),(76,.d (vI x3))],D1 t [bx 1 (.ref 0 13 0 0),bx 5 (.d (D4.d o)),F5 y]⟩) ?_ ?_
     ·clear h
      rintro⟨⟩ h
      rw[A0A]at h
      refine L9 ?_
      refine A2z (fun zz:Unit=>A09 F (R3 F t o y K19 m19) t o x3 e3=some r) (fun zz:Unit=>⟨[(2,.ref 4 1 0 0),(3,.ref 5 5 0 0),(4,.d (vI e)),(6,.row 6 1 0 (y).length),(8,.d (vI e3)),(74,.row 6 1 0 (y).length),(75,.d (vI (y.length:Int))),(76,.d (vI x3))],D1 t [bx 1 (.ref 0 13 0 0),bx 5 (.d (D4.d o)),F5 y]⟩) ?_ ?_
      ·clear h
       rintro⟨⟩ h
       rw[A09]at h
       refine O1 fun df=>?_
       refine A0M (A3Z tb R R R R R R R R R (A0 R (C7 tb R (B7 (y:=vI o.what) tb R ?_))))
       obtain⟨rv10,k10,h⟩:=H0 h
       refine A2N (A1a k10) R eK R R ((.cons (.ref R (.aggL (dL (dL (dL (dL (dL (dL (dL (dL (.cons (.row R R) (.cons (.row R R) (.cons (.row R R) (dL (dL .nil))))))))))))))) (dL (dL .nil)))) R R ?_
       obtain⟨rv11,k11,h⟩:=H0 h
       rcases Q9 rv11 with⟨x9,nv7⟩ | ⟨v7,nv7⟩
       ·replace h:=(exN nv7).symm.trans h
        refine A0b ?_
        (with_reducible apply L3 []);exact(D3 k11).err nv7;exact rfl;exact eK;exact rfl;exact .inl ⟨rfl,rfl,rfl⟩;(iterate 4 exact rfl);exact .nil;exact rfl
        intro cnt
        refine X8 (I2 (I2 (X8 (I2 ?_))))
        obtain rfl:=sI h
        exact P9 (L:=D1 t []) (κ:=[0,1,2,3]) (vK (.cons R R V8) R) (.inr ⟨_,R,R⟩)
       replace h:=(exO nv7).symm.trans h
       refine G5 (t' := .d (.tup [])) (ls:=[]) (news:=[]) ([]) (D1 t [bx 1 (.ref 0 13 0 0),bx 5 (.d (D4.d o)),F5 y]) ((D3 k11).ok nv7) eK R (.inl ⟨R,R,R⟩) R R R R .nil R R R .nil .nil R R R R (V9 (C3 (A1 ?_)))
       refine O1 fun df=>?_
       refine E5 (H4 R (A0 R (eN ?_)))
       exact⟨m19,_,lS,.prn [2,3,4,6,74,75,76] R,(W (x3+1)),h,R⟩
      refine L9 ?_
      refine O1 fun df=>?_
      refine P5 kR (A3Z tb R R R R R R R R R (I8 R R R (C7 tb R (B7 (y := .agg [.arr 8 ((t.M6).map E9.d),.arr 2 ((t.R0).map I0.d),.arr 2 ((t.M7).map E3.d),.arr 1 ((t.V3).map vS),.arr 6 ((t.M8).map C6.d),vI t.R9,vI t.V4]) tb R (C7 tb R (B7 (y:=vI o.what) tb R ?_))))))
      obtain⟨rv7,k7,h⟩:=H0 h
      refine A0n (t' := .fn (.func 83) [] [.ref 7 1 0 0,.ref 8 7 0 0]) (news':=[⟨1,[.d (vI rv7.1)]⟩,⟨7,[.d (B0.d rv7.2)]⟩]) (A2s k7) eK R R R ((.cons R (.cons R .nil))) R R R (F6 kR (A1 (A1C ?_)))
      refine A64 eK Tryz.func83 R R R R R R fun lb=>?_
      simp only[M1,Nat.zero_add,Nat.reduceAdd]
      refine J4 (J4 (Q4 (O0 (B7 (y:=vI rv7.1) tb R ?_))))
      refine G8 R R R R ?_ ?_
      ·intro c7
       replace h:=H1 c7 h
       refine I9 (D6 (Z9 R (A4x (A0N ?_))))
       refine⟨R,(D1 t [bx 1 (.ref 0 13 0 0),bx 5 (.d (D4.d o)),F5 y,c1 (vI rv7.1),bx 7 (.d (B0.d rv7.2))]),[0,1,2,3,4,5,6,7,8],(vK (.cons R R (.row R (.row R (.row R (.cons R R (.cons R R (.row R (.cons R R (.cons R R .nil))))))))) R),?_⟩
       refine C3 (A1 ?_)
       exact .inl ⟨(),h,.vw (κ:=[0,1,2,3,4,5,6]) (vK (.cons R R (.row R (.row R (.row R (.cons R R (.cons R R O7)))))) R)⟩
      intro c7
      replace h:=J0 (nL c7) h
      refine I9 (D6 (R1 R (T8 (D6 (J4 (Q4 (O0 (C7 tb R (B7 (y := .arr 8 ((rv7.2.zones).map E9.d)) tb R (B7 (y:=vI rv7.1) tb R ?_))))))))))
      obtain⟨e6,ie6,h⟩:=H0 h
      refine J9 tb (S0 ie6) (P6 ie6) R (M0 tb R (H9 (y := .agg [vI e6.F8,vI e6.F7,vI e6.G0,vI e6.F9]) tb (Q6 (g:=E9.d) ie6) R (N0 tb R R R R R (I5 _ _ tb R (I9 (D6 (J4 (Q4 (O0 (C7 tb R (B7 (y := .arr 6 ((rv7.2.squibs).map C6.d)) tb R (H3 tb R (A0 R (I9 (D6 (A1g ?_))))))))))))))))
      obtain⟨K27,hK27,h⟩:∃ K,K=_∧T4 F t rv7 e6 K F 0=some r:=⟨_,rfl,h⟩
      refine A4S (fun m ph st=>∃ (x6:Int),T4 F t rv7 e6 K27 m x6=some r∧ph=SX.norm∧st=⟨[(0,.d (.v (.func (.yield lb) #[] #[]))),(4,.ref 9 4 0 0),(18,.d (.arr 6 ((rv7.2.squibs).map C6.d))),(19,.d (vI (rv7.2.squibs.length:Int))),(20,.d (vI x6))],D1 t [bx 1 (.ref 0 13 0 0),bx 5 (.d (D4.d o)),F5 y,c1 (vI rv7.1),bx 7 (.d (B0.d rv7.2)),bx 4 (.d (.agg [vI e6.F8,vI e6.F7,vI e6.G0,vI e6.F9]))]⟩) (.prn [0,4,18,19,20] R) ⟨0,h,R,R⟩ ?_
      clear h
      rintro m27 ph st ⟨x6,h,rfl,rfl⟩
      cases m27 with
      | zero=>cases(show(none:Option (Except Int E4))=some r from h)
      | succ m27 =>
      rw[T4]at h
      refine J4 (Q4 (O0 ?_))
      refine G8 R R R R ?_ ?_
      ·intro c8
       replace h:=H1 c8 h
       refine I9 (D6 (J4 (Z9 R (T8 (D6 (J4 (A1g (J4 (Q4 (O0 (A0 R ?_)))))))))))
       obtain⟨e7,ie7,h⟩:=H0 h
       refine J9 tb (S0 ie7) (P6 ie7) R (H9 (y:=C6.d e7) tb (Q6 (g:=C6.d) ie7) R (N0 tb R R R R R (A3 R (I5 _ _ tb R (I9 (D6 (J4 (A5Z (P5 kR (C7 tb R (C7 tb R (B7 (y:=vI e6.F8) tb R (C7 tb R (C7 tb R (B7 (y:=vI e7.A0o) tb R (O6 R R R R (C7 tb R (C7 tb R (B7 (y:=vI e7.A0o) tb R (C7 tb R (C7 tb R (B7 (y:=vI e6.F7) tb R ?_))))))))))))))))))))))
       refine O6 R R R R (A4a R R R R R (C7 tb R (C7 tb R (B7 (y:=vI e6.G0) tb R (C7 tb R (C7 tb R (B7 (y:=vI e7.A0p) tb R (O6 R R R R (C7 tb R (C7 tb R (B7 (y:=vI e7.A0p) tb R (C7 tb R (C7 tb R (B7 (y:=vI e6.F9) tb R (O6 R R R R (A4a R R R R R (A3 R (A3 R (F6 kR (D6 (J4 (Q4 (O0 (A0 R (A0 R (A0L R R R R ?_))))))))))))))))))))))))))
       refine A0 R (A0 R (A0L R R R R (H4 R (C7 tb R (B7 (y:=vI e7.clear) tb R (C7 tb R (B7 (y:=vI e7.clear) tb R (A0L R R R R ?_))))))))
       refine G8 R R R R ?_ ?_
       ·intro c9
        replace h:=H1 c9 h
        refine A0 R (A0 R (A0 R (A47 ?_)))
        (with_reducible apply A4P (ys:=[vI x6]));(iterate 7 exact rfl)
        dsimp only[B1t]
        refine E5 (A3 R (L5 ?_))
        refine⟨R,?_⟩
        with_reducible apply B3E
        with_reducible apply B64
        refine A3Z tb R R R R R R R R R (I8 R R R (C7 tb R (C7 tb R (B7 (y := .v (.bool t.G2)) tb R ?_))))
        with_reducible apply Y9
        ·intro c10
         replace h:=H1 c10 h
         refine M2 R R R (A0 R (A3Z tb R R R R R R R R R (I8 R R R (C7 tb R (C7 tb R (A0T tb R R R R R R R R R (A0 R ?_)))))))
         obtain⟨e8,ie8,h⟩:=H0 h
         refine Q5 tb R R R R R R (S0 ie8) (ix1 ie8) R R ?_
         refine V2 (y:=vI e8) tb R R R R (Q6 (g:=fun a=>T.d (vI a)) ie8) R R R R ?_
         refine A3x R R R R (C4 R ?_)
         obtain⟨rv8,k8,h⟩:=H0 h
         rcases Q9 rv8 with⟨x7,nv5⟩ | ⟨v5,nv5⟩
         ·replace h:=(exN nv5).symm.trans h
          refine A0b ?_
          (with_reducible apply L3 []);exact(D3 k8).err nv5;exact rfl;exact eK;exact rfl;exact .inl ⟨rfl,rfl,rfl⟩;(iterate 4 exact rfl);exact .nil;exact rfl
          intro cnt
          refine X8 ?_
          refine⟨(D1 t [bx 1 (.ref 0 13 0 0),bx 5 (.d (D4.d o)),F5 y,c1 (vI rv7.1),bx 7 (.d (B0.d rv7.2)),bx 4 (.d (.agg [vI e6.F8,vI e6.F7,vI e6.G0,vI e6.F9])),bx 6 (.d (C6.d e7))]),[0,1,2,3,4,5,6,7,8,9,10],(vK (.cons R R (.row R (.row R (.row R (.cons R R (.cons R R (.row R (.cons R R (.cons R R (.cons R R (.cons R R .nil))))))))))) R),R,?_⟩
          with_reducible apply B4R
          refine A3L (A4W (A3L (A3L (A4W ?_))))
          refine⟨R,R,(D1 t [bx 1 (.ref 0 13 0 0),bx 5 (.d (D4.d o)),F5 y,c1 (vI rv7.1),bx 7 (.d (B0.d rv7.2))]),[0,1,2,3,4,5,6,7,8],(vK (.cons R R (.row R (.row R (.row R (.cons R R (.cons R R (.row R (.cons R R (.cons R R .nil))))))))) R),?_⟩
          refine X8 (I2 (X8 (I2 (I2 (X8 (I2 ?_))))))
          obtain rfl:=sI h
          exact P9 (L:=D1 t []) (κ:=[0,1,2,3]) (vK (.cons R R V8) R) (.inr ⟨_,R,R⟩)
         replace h:=(exO nv5).symm.trans h
         refine G5 (t' := .d (.tup [])) (ls:=[]) (news:=[]) ([]) (D1 t [bx 1 (.ref 0 13 0 0),bx 5 (.d (D4.d o)),F5 y,c1 (vI rv7.1),bx 7 (.d (B0.d rv7.2)),bx 4 (.d (.agg [vI e6.F8,vI e6.F7,vI e6.G0,vI e6.F9])),bx 6 (.d (C6.d e7))]) ((D3 k8).ok nv5) eK R (.inl ⟨R,R,R⟩) R R R R .nil R R R .nil .nil R R R R ?_
         refine V9 (C3 ?_)
         refine⟨(D1 t [bx 1 (.ref 0 13 0 0),bx 5 (.d (D4.d o)),F5 y,c1 (vI rv7.1),bx 7 (.d (B0.d rv7.2)),bx 4 (.d (.agg [vI e6.F8,vI e6.F7,vI e6.G0,vI e6.F9])),bx 6 (.d (C6.d e7))]),[0,1,2,3,4,5,6,7,8,9,10],(vK (.cons R R (.row R (.row R (.row R (.cons R R (.cons R R (.row R (.cons R R (.cons R R (.cons R R (.cons R R .nil))))))))))) R),?_⟩
         with_reducible apply A65
         refine O0 (M2 R R R (B5 R (I9 (D6 (R1 R (T8 (W6 (D6 (Q4 (O0 (H4 R (A0 R (I9 (D6 ?_))))))))))))))
         exact⟨m27,⟨[(0,.d (.v (.func (.yield lb) #[] #[]))),(4,.ref 9 4 0 0),(18,.d (.arr 6 ((rv7.2.squibs).map C6.d))),(19,.d (vI (rv7.2.squibs.length:Int))),(20,.d (vI (W (x6+1))))],D1 t [bx 1 (.ref 0 13 0 0),bx 5 (.d (D4.d o)),F5 y,c1 (vI rv7.1),bx 7 (.d (B0.d rv7.2)),bx 4 (.d (.agg [vI e6.F8,vI e6.F7,vI e6.G0,vI e6.F9]))]⟩,lS,.vw (κ:=[0,1,2,3,4,5,6,7,8,9]) (vK (.cons R R (.row R (.row R (.row R (.cons R R (.cons R R (.row R (.cons R R (.cons R R (.cons R R .nil)))))))))) R),(W (x6+1)),h,R,R⟩
        intro c10
        replace h:=X9 c10 h
        refine M3 R R R (A0 R (H7 9 R (B5 R ?_)))
        obtain⟨rv9,k9,h⟩:=H0 h
        rcases Q9 rv9 with⟨x8,nv6⟩ | ⟨v6,nv6⟩
        ·replace h:=(exN nv6).symm.trans h
         refine A0b ?_
         (with_reducible apply L3 []);exact(D3 k9).err nv6;exact rfl;exact eK;exact rfl;exact .inl ⟨rfl,rfl,rfl⟩;(iterate 4 exact rfl);exact .nil;exact rfl
         intro cnt
         refine X8 ?_
         refine⟨(D1 t [bx 1 (.ref 0 13 0 0),bx 5 (.d (D4.d o)),F5 y,c1 (vI rv7.1),bx 7 (.d (B0.d rv7.2)),bx 4 (.d (.agg [vI e6.F8,vI e6.F7,vI e6.G0,vI e6.F9])),bx 6 (.d (C6.d e7))]),[0,1,2,3,4,5,6,7,8,9,10],(vK (.cons R R (.row R (.row R (.row R (.cons R R (.cons R R (.row R (.cons R R (.cons R R (.cons R R (.cons R R .nil))))))))))) R),R,?_⟩
         with_reducible apply B4R
         refine A3L (A4W (A3L (A3L (A4W ?_))))
         refine⟨R,R,(D1 t [bx 1 (.ref 0 13 0 0),bx 5 (.d (D4.d o)),F5 y,c1 (vI rv7.1),bx 7 (.d (B0.d rv7.2))]),[0,1,2,3,4,5,6,7,8],(vK (.cons R R (.row R (.row R (.row R (.cons R R (.cons R R (.row R (.cons R R (.cons R R .nil))))))))) R),?_⟩
         refine X8 (I2 (X8 (I2 (I2 (X8 (I2 ?_))))))
         obtain rfl:=sI h
         exact P9 (L:=D1 t []) (κ:=[0,1,2,3]) (vK (.cons R R V8) R) (.inr ⟨_,R,R⟩)
        replace h:=(exO nv6).symm.trans h
        refine G5 (t' := .d (.tup [])) (ls:=[]) (news:=[]) ([]) (D1 t [bx 1 (.ref 0 13 0 0),bx 5 (.d (D4.d o)),F5 y,c1 (vI rv7.1),bx 7 (.d (B0.d rv7.2)),bx 4 (.d (.agg [vI e6.F8,vI e6.F7,vI e6.G0,vI e6.F9])),bx 6 (.d (C6.d e7))]) ((D3 k9).ok nv6) eK R (.inl ⟨R,R,R⟩) R R R R .nil R R R .nil .nil R R R R ?_
        refine V9 (C3 ?_)
        refine⟨(D1 t [bx 1 (.ref 0 13 0 0),bx 5 (.d (D4.d o)),F5 y,c1 (vI rv7.1),bx 7 (.d (B0.d rv7.2)),bx 4 (.d (.agg [vI e6.F8,vI e6.F7,vI e6.G0,vI e6.F9])),bx 6 (.d (C6.d e7))]),[0,1,2,3,4,5,6,7,8,9,10],(vK (.cons R R (.row R (.row R (.row R (.cons R R (.cons R R (.row R (.cons R R (.cons R R (.cons R R (.cons R R .nil))))))))))) R),?_⟩
        with_reducible apply A65
        refine O0 (M2 R R R (B5 R (I9 (D6 (R1 R (T8 (W6 (D6 (Q4 (O0 (H4 R (A0 R (I9 (D6 ?_))))))))))))))
        exact⟨m27,⟨[(0,.d (.v (.func (.yield lb) #[] #[]))),(4,.ref 9 4 0 0),(18,.d (.arr 6 ((rv7.2.squibs).map C6.d))),(19,.d (vI (rv7.2.squibs.length:Int))),(20,.d (vI (W (x6+1))))],D1 t [bx 1 (.ref 0 13 0 0),bx 5 (.d (D4.d o)),F5 y,c1 (vI rv7.1),bx 7 (.d (B0.d rv7.2)),bx 4 (.d (.agg [vI e6.F8,vI e6.F7,vI e6.G0,vI e6.F9]))]⟩,lS,.vw (κ:=[0,1,2,3,4,5,6,7,8,9]) (vK (.cons R R (.row R (.row R (.row R (.cons R R (.cons R R (.row R (.cons R R (.cons R R (.cons R R .nil)))))))))) R),(W (x6+1)),h,R,R⟩
       intro c9
       replace h:=J0 (nL c9) h
       refine A0 R (H7 4 R (C4 R (I9 (D6 (R1 R (T8 (W6 (D6 (Q4 (O0 (H4 R (A0 R (I9 (D6 ?_))))))))))))))
       exact⟨m27,⟨[(0,.d (.v (.func (.yield lb) #[] #[]))),(4,.ref 9 4 0 0),(18,.d (.arr 6 ((rv7.2.squibs).map C6.d))),(19,.d (vI (rv7.2.squibs.length:Int))),(20,.d (vI (W (x6+1))))],D1 t [bx 1 (.ref 0 13 0 0),bx 5 (.d (D4.d o)),F5 y,c1 (vI rv7.1),bx 7 (.d (B0.d rv7.2)),bx 4 (.d (.agg [vI e6.F8,vI e6.F7,vI e6.G0,vI e6.F9]))]⟩,lS,.vw (κ:=[0,1,2,3,4,5,6,7,8,9]) (vK (.cons R R (.row R (.row R (.row R (.cons R R (.cons R R (.row R (.cons R R (.cons R R (.cons R R .nil)))))))))) R),(W (x6+1)),h,R,R⟩
      intro c8
      replace h:=J0 (nL c8) h
      refine I9 (D6 (J4 (R1 R (A5Y (A06 (A06 ?_))))))
      subst hK27
      refine A2Q ?_
      refine⟨R,(D1 t [bx 1 (.ref 0 13 0 0),bx 5 (.d (D4.d o)),F5 y,c1 (vI rv7.1),bx 7 (.d (B0.d rv7.2))]),[0,1,2,3,4,5,6,7,8],(vK (.cons R R (.row R (.row R (.row R (.cons R R (.cons R R (.row R (.cons R R (.cons R R .nil))))))))) R),?_⟩
      refine C3 (A1 ?_)
      exact .inl ⟨(),h,.vw (κ:=[0,1,2,3,4,5,6]) (vK (.cons R R (.row R (.row R (.row R (.cons R R (.cons R R O7)))))) R)⟩
     refine O1 fun df=>?_
     refine A15 kR (C7 tb R (B7 (y:=vI o.what) tb R ?_))
     refine G8 R R R R ?_ ?_
     ·intro c6
      replace h:=H1 c6 h
      refine A0 R (H7 20 R (B5 R ?_))
      obtain⟨rv5,k5,h⟩:=H0 h
      rcases Q9 rv5 with⟨x4,nv3⟩ | ⟨v3,nv3⟩
      ·replace h:=(exN nv3).symm.trans h
       refine R6 kR kR ?_
       (with_reducible apply L3 []);exact(D3 k5).err nv3;exact rfl;exact eK;exact rfl;exact .inl ⟨rfl,rfl,rfl⟩;(iterate 4 exact rfl);exact .nil;exact rfl
       intro cnt
       refine I2 (X8 (I2 (I2 (X8 (I2 ?_)))))
       obtain rfl:=sI h
       exact P9 (L:=D1 t []) (κ:=[0,1,2,3]) (vK (.cons R R V8) R) (.inr ⟨_,R,R⟩)
      replace h:=(exO nv3).symm.trans h
      refine G5 (t' := .d (.tup [])) (ls:=[]) (news:=[]) ([]) (D1 t [bx 1 (.ref 0 13 0 0),bx 5 (.d (D4.d o)),F5 y]) ((D3 k5).ok nv3) eK R (.inl ⟨R,R,R⟩) R R R R .nil R R R .nil .nil R R R R (Q1 kR (A1 ?_))
      exact .inl ⟨(),h,.prn [2,3,4,6,8,74,75,76] R⟩
     intro c6
     replace h:=J0 (nL c6) h
     refine A0 R (A3Z tb R R R R R R R R R (I8 R R R (C7 tb R (C7 tb R (B7 (y := .arr 2 ((t.M7).map E3.d)) tb R (A0 R ?_))))))
     obtain⟨e4,ie4,h⟩:=H0 h
     refine J9 tb (S0 ie4) (P6 ie4) R (M0 tb R (H9 (y:=vI e4.grade) tb (Q6 (g:=E3.d) ie4) R (A3Z tb R R R R R R R R R (I8 R R R (C7 tb R (C7 tb R (B7 (y := .arr 8 ((t.M6).map E9.d)) tb R (C7 tb R (B7 (y:=vI o.what) tb R ?_)))))))))
     obtain⟨e5,ie5,h⟩:=H0 h
     refine J9 tb (S0 ie5) (P6 ie5) R (M0 tb R (H9 (y:=vI e5.grade) tb (Q6 (g:=E9.d) ie5) R (A5p R R R R (C4 R ?_))))
     obtain⟨rv6,k6,h⟩:=H0 h
     rcases Q9 rv6 with⟨x5,nv4⟩ | ⟨v4,nv4⟩
     ·replace h:=(exN nv4).symm.trans h
      refine R6 kR kR ?_
      (with_reducible apply L3 []);exact(D3 k6).err nv4;exact rfl;exact eK;exact rfl;exact .inl ⟨rfl,rfl,rfl⟩;(iterate 4 exact rfl);exact .nil;exact rfl
      intro cnt
      refine I2 (X8 (I2 (I2 (X8 (I2 ?_)))))
      obtain rfl:=sI h
      exact P9 (L:=D1 t []) (κ:=[0,1,2,3]) (vK (.cons R R V8) R) (.inr ⟨_,R,R⟩)
     replace h:=(exO nv4).symm.trans h
     refine G5 (t' := .d (.tup [])) (ls:=[]) (news:=[]) ([]) (D1 t [bx 1 (.ref 0 13 0 0),bx 5 (.d (D4.d o)),F5 y]) ((D3 k6).ok nv4) eK R (.inl ⟨R,R,R⟩) R R R R .nil R R R .nil .nil R R R R (Q1 kR (A1 ?_))
     exact .inl ⟨(),h,.prn [2,3,4,6,8,74,75,76] R⟩
    intro c5
    replace h:=J0 (nL c5) h
    refine eN (L9 ?_)
    refine O1 fun df=>?_
    refine A5 R (I4 (C8 (C8 ?_)))
    subst hK19
    refine F3 (A1 ?_)
    refine O1 fun df=>?_
    refine B8 (qG (I1 R R R (A3y tb R R R R R (A0 R (eN (D0 ?_))))))
    obtain⟨K30,hK30,h⟩:∃ K,K=_∧Y6 F o y K F t.C1 0=some r:=⟨_,rfl,h⟩
    refine H6 (fun m st=>∃ (A:(List Int)) (x10:Int),Y6 F o y K30 m A x10=some r∧st=⟨[(2,.ref 4 1 0 0),(3,.ref 5 5 0 0),(4,.d (vI e)),(139,.row 6 1 0 (y).length),(140,.d (vI (y.length:Int))),(141,.d (vI x10))],[bx 13 (D8 {t with C1:=A} 1 2 3),F5 A,F5 t.C2,F5 t.A7,bx 1 (.ref 0 13 0 0),bx 5 (.d (D4.d o)),F5 y]⟩) (.prn [2,3,4,139,140,141] R) ⟨t.C1,0,h,R⟩ ?_
    clear h
    rintro m30 st ⟨A,x10,h,rfl⟩
    cases m30 with
    | zero=>cases(show(none:Option (Except Int E4))=some r from h)
    | succ m30 =>
    rw[Y6]at h
    refine qG ?_
    refine G8 R R R R ?_ ?_
    ·intro c11
     replace h:=H1 c11 h
     refine eN (B8 (A9 R (C0 (A1 (B8 (D0 (qG ?_)))))))
     obtain⟨e9,ie9,h⟩:=H0 h
     refine Q5 tb R R R R R R (S0 ie9) (ix1 ie9) R R ?_
     refine V2 (y:=vI e9) tb R R R R (Q6 (g:=fun a=>T.d (vI a)) ie9) R R R R ?_
     refine A3 R (eN (P5 kR (A3Z tb R R R R R R R R R (I8 R R R (C7 tb R (C7 tb R (A0T tb R R R R R R R R R (A0 R (C7 tb R (B7 (y:=vI o.what) tb R ?_))))))))))
     obtain⟨e10,ie10,h⟩:=H0 h
     refine Q5 tb R R R R R R (S0 ie10) (ix1 ie10) R R ?_
     obtain⟨A2,iA2,h⟩:=H0 h
     refine A36 (a':=(o.what:Int)) tb R R R R ie10 R R R R iA2 R R ?_
     dsimp only[List.set_cons_zero,List.set_cons_succ,D5,D8]
     first | rw[A0F iA2] | skip
     refine F6 kR (C3 (A1 (E5 (H4 R (A0 R (eN ?_))))))
     exact⟨m30,_,lS,.prn [2,3,4,139,140,141] R,A2,(W (x10+1)),h,R⟩
    intro c11
    replace h:=J0 (nL c11) h
    refine eN (B8 (A5 R (I4 (C8 (C8 ?_)))))
    subst hK30
    refine F3 (A1 (B8 ?_))
    refine N3 (fun zz:Unit=>A0B F t o e A=some r) (fun zz:Unit=>⟨[(2,.ref 4 1 0 0),(3,.ref 5 5 0 0),(4,.d (vI e))],[bx 13 (D8 {t with C1:=A} 1 2 3),F5 A,F5 t.C2,F5 t.A7,bx 1 (.ref 0 13 0 0),bx 5 (.d (D4.d o))]⟩) ?_ ?_
    ·clear h
     rintro⟨⟩ h
     rw[A0B]at h
     refine A0M (A3Z tb R R R R R R R R R (C7 tb R (B7 (y:=vI o.what) tb R ?_)))
     obtain⟨rv15,k15,h⟩:=H0 h
     refine A4N (A1Q k15) eK R R ((.cons (.ref R (.aggL (dL (dL (dL (dL (dL (dL (dL (dL (.cons (.row R R) (.cons (.row R R) (.cons (.row R R) (dL (dL .nil))))))))))))))) (dL .nil))) R R ?_ ?_
     ·intro c13
      replace h:=H1 c13 h
      refine M2 R R R (A0 R (H7 4 R (C4 R ?_)))
      obtain⟨rv16,k16,h⟩:=H0 h
      rcases Q9 rv16 with⟨x13,nv10⟩ | ⟨v10,nv10⟩
      ·replace h:=(exN nv10).symm.trans h
       refine A0b ?_
       (with_reducible apply L3 []);exact(D3 k16).err nv10;exact rfl;exact eK;exact rfl;exact .inl ⟨rfl,rfl,rfl⟩;(iterate 4 exact rfl);exact .nil;exact rfl
       intro cnt
       obtain rfl:=sI h
       exact P9 (L:=[bx 13 (D8 {t with C1:=A} 1 2 3),F5 A,F5 t.C2,F5 t.A7]) (κ:=[0,1,2,3]) (vK (.cons R R V8) R) (.inr ⟨_,R,R⟩)
      replace h:=(exO nv10).symm.trans h
      cases h
     intro c13
     replace h:=X9 c13 h
     refine M3 R R R (A0 R (A3Z tb R R R R R R R R R (A0 R ?_)))
     obtain⟨rv17,k17,h⟩:=H0 h
     refine A2N (A1Q k17) R eK R R ((.cons (.ref R (.aggL (dL (dL (dL (dL (dL (dL (dL (dL (.cons (.row R R) (.cons (.row R R) (.cons (.row R R) (dL (dL .nil))))))))))))))) (dL .nil))) R R (A9P R R R (B5 R ?_))
     obtain⟨rv18,k18,h⟩:=H0 h
     rcases Q9 rv18 with⟨x14,nv11⟩ | ⟨v11,nv11⟩
     ·replace h:=(exN nv11).symm.trans h
      refine A0b ?_
      (with_reducible apply L3 []);exact(D3 k18).err nv11;exact rfl;exact eK;exact rfl;exact .inl ⟨rfl,rfl,rfl⟩;(iterate 4 exact rfl);exact .nil;exact rfl
      intro cnt
      obtain rfl:=sI h
      exact P9 (L:=[bx 13 (D8 {t with C1:=A} 1 2 3),F5 A,F5 t.C2,F5 t.A7]) (κ:=[0,1,2,3]) (vK (.cons R R V8) R) (.inr ⟨_,R,R⟩)
     replace h:=(exO nv11).symm.trans h
     refine G5 (t' := .d (.tup [])) (ls:=[]) (news:=[]) ([]) ([bx 13 (D8 {t with C1:=A} 1 2 3),F5 A,F5 t.C2,F5 t.A7,bx 1 (.ref 0 13 0 0),bx 5 (.d (D4.d o))]) ((D3 k18).ok nv11) eK R (.inl ⟨R,R,R⟩) R R R R .nil R R R .nil .nil R R R R (V9 ?_)
     obtain rfl:=sI h
     exact M9 (L8 (t := .d (.tup [])) (L:=[bx 13 (D8 {t with C1:=A} 1 2 3),F5 A,F5 t.C2,F5 t.A7]) (κ:=[0,1,2,3]) R .nil (vK (.cons R R V8) R) (.inl ⟨_,R,R,R⟩))
    refine A15 kR (C7 tb R (B7 (y:=vI o.what) tb R ?_))
    refine G8 R R R R ?_ ?_
    ·intro c12
     replace h:=H1 c12 h
     refine A0 R (H7 15 R (B5 R ?_))
     obtain⟨rv12,k12,h⟩:=H0 h
     rcases Q9 rv12 with⟨x11,nv8⟩ | ⟨v8,nv8⟩
     ·replace h:=(exN nv8).symm.trans h
      refine R6 kR kR ?_
      (with_reducible apply L3 []);exact(D3 k12).err nv8;exact rfl;exact eK;exact rfl;exact .inl ⟨rfl,rfl,rfl⟩;(iterate 4 exact rfl);exact .nil;exact rfl
      intro cnt
      refine I2 ?_
      obtain rfl:=sI h
      exact P9 (L:=[bx 13 (D8 {t with C1:=A} 1 2 3),F5 A,F5 t.C2,F5 t.A7]) (κ:=[0,1,2,3]) (vK (.cons R R V8) R) (.inr ⟨_,R,R⟩)
     replace h:=(exO nv8).symm.trans h
     refine G5 (t' := .d (.tup [])) (ls:=[]) (news:=[]) ([]) ([bx 13 (D8 {t with C1:=A} 1 2 3),F5 A,F5 t.C2,F5 t.A7,bx 1 (.ref 0 13 0 0),bx 5 (.d (D4.d o)),F5 y]) ((D3 k12).ok nv8) eK R (.inl ⟨R,R,R⟩) R R R R .nil R R R .nil .nil R R R R (Q1 kR (A1 ?_))
     exact .inl ⟨(),h,.vw (κ:=[0,1,2,3,4,5]) (vK (.cons R R (.row R (.row R (.row R (.cons R R (.cons R R .nil)))))) R)⟩
    intro c12
    replace h:=J0 (nL c12) h
    refine A0 R (A3Z tb R R R R R R R R R (C7 tb R (B7 (y:=vI o.what) tb R ?_)))
    obtain⟨rv13,k13,h⟩:=H0 h
    refine A2N (A1R k13) R eK R R ((.cons (.ref R (.aggL (dL (dL (dL (dL (dL (dL (dL (dL (.cons (.row R R) (.cons (.row R R) (.cons (.row R R) (dL (dL .nil))))))))))))))) (dL .nil))) R R (A3Z tb R R R R R R R R R (I8 R R R (C7 tb R (C7 tb R (B7 (y := .arr 8 ((t.M6).map E9.d)) tb R (C7 tb R (B7 (y:=vI o.what) tb R ?_)))))))
    obtain⟨e11,ie11,h⟩:=H0 h
    refine J9 tb (S0 ie11) (P6 ie11) R (M0 tb R (H9 (y:=vI e11.room) tb (Q6 (g:=E9.d) ie11) R (B25 R R R R (C4 R ?_))))
    obtain⟨rv14,k14,h⟩:=H0 h
    rcases Q9 rv14 with⟨x12,nv9⟩ | ⟨v9,nv9⟩
    ·replace h:=(exN nv9).symm.trans h
     refine R6 kR kR ?_
     (with_reducible apply L3 []);exact(D3 k14).err nv9;exact rfl;exact eK;exact rfl;exact .inl ⟨rfl,rfl,rfl⟩;(iterate 4 exact rfl);exact .nil;exact rfl
     intro cnt
     refine I2 ?_
     obtain rfl:=sI h
     exact P9 (L:=[bx 13 (D8 {t with C1:=A} 1 2 3),F5 A,F5 t.C2,F5 t.A7]) (κ:=[0,1,2,3]) (vK (.cons R R V8) R) (.inr ⟨_,R,R⟩)
    replace h:=(exO nv9).symm.trans h
    refine G5 (t' := .d (.tup [])) (ls:=[]) (news:=[]) ([]) ([bx 13 (D8 {t with C1:=A} 1 2 3),F5 A,F5 t.C2,F5 t.A7,bx 1 (.ref 0 13 0 0),bx 5 (.d (D4.d o)),F5 y]) ((D3 k14).ok nv9) eK R (.inl ⟨R,R,R⟩) R R R R .nil R R R .nil .nil R R R R (Q1 kR (A1 ?_))
    exact .inl ⟨(),h,.vw (κ:=[0,1,2,3,4,5]) (vK (.cons R R (.row R (.row R (.row R (.cons R R (.cons R R .nil)))))) R)⟩
   refine O1 fun df=>?_
   refine qG (C7 tb R (B7 (y:=vI o.with_) tb R ?_))
   refine A35 R R R R ?_ ?_
   ·intro c4
    replace h:=H1 c4 h
    refine eN (A9 R (E5 (I1 R R R (C7 tb R (B7 (y:=vI o.with_) tb R (R8 tb R R R R R R R R R R R R R ?_))))))
    obtain⟨q,iq,h⟩:=H0 h
    refine A78 (g:=vI) (w:=[o.who]) (v:=[o.with_]) (D1 t [bx 1 (.ref 0 13 0 0),bx 5 (.d (D4.d o)),none,F5 [o.with_]]) tb R R R R R R R R R R R iq R R R R R (A0j R R R (eN ?_))
    exact .inl ⟨q,h,.vw (κ:=[0,1,2,3,4,5,8]) (vK (.cons R R (.row R (.row R (.row R (.cons R R (.cons R R O7)))))) R)⟩
   intro c4
   replace h:=J0 (Int.not_le.2 c4) h
   refine eN (A5 R (C0 (A1 ?_)))
   exact .inl ⟨[o.who],h,.vw (κ:=[0,1,2,3,4,5,6]) (vK (.cons R R (.row R (.row R (.row R (.cons R R (.cons R R O7)))))) R)⟩
  refine O1 fun df=>?_
  refine A15 kR (A0 R (A0 R (C7 tb R (B7 (y:=vI o.with_) tb R ?_))))
  refine G8 R R R R ?_ ?_
  ·intro c3
   replace h:=H1 c3 h
   refine A0 R (H7 11 R (B5 R (B5 R ?_)))
   obtain⟨rv3,k3,h⟩:=H0 h
   rcases Q9 rv3 with⟨x,nv⟩ | ⟨v,nv⟩
   ·replace h:=(exN nv).symm.trans h
    refine R6 kR kR ?_
    (with_reducible apply L3 []);exact(D3 k3).err nv;exact rfl;exact eK;exact rfl;exact .inl ⟨rfl,rfl,rfl⟩;(iterate 4 exact rfl);exact .nil;exact rfl
    intro cnt
    refine I2 ?_
    obtain rfl:=sI h
    exact P9 (L:=D1 t []) (κ:=[0,1,2,3]) (vK (.cons R R V8) R) (.inr ⟨_,R,R⟩)
   replace h:=(exO nv).symm.trans h
   refine G5 (t' := .d (.tup [])) (ls:=[]) (news:=[]) ([]) (D1 t [bx 1 (.ref 0 13 0 0),bx 5 (.d (D4.d o))]) ((D3 k3).ok nv) eK R (.inl ⟨R,R,R⟩) R R R R .nil R R R .nil .nil R R R R (Q1 kR (A1 ?_))
   exact .inl ⟨(),h,.prn [2,3,4] R⟩
  intro c3
  replace h:=J0 (nL c3) h
  refine A0 R (A3Z tb R R R R R R R R R (I8 R R R (C7 tb R (C7 tb R (A0T tb R R R R R R R R R (C7 tb R (B7 (y:=vI o.with_) tb R ?_)))))))
  obtain⟨e2,ie2,h⟩:=H0 h
  refine Q5 tb R R R R R R (S0 ie2) (ix1 ie2) R R ?_
  refine V2 (y:=vI e2) tb R R R R (Q6 (g:=fun a=>T.d (vI a)) ie2) R R R R ?_
  refine A0 R (A3x R R R R (C4 R (B5 R ?_)))
  obtain⟨rv4,k4,h⟩:=H0 h
  rcases Q9 rv4 with⟨x2,nv2⟩ | ⟨v2,nv2⟩
  ·replace h:=(exN nv2).symm.trans h
   refine R6 kR kR ?_
   (with_reducible apply L3 []);exact(D3 k4).err nv2;exact rfl;exact eK;exact rfl;exact .inl ⟨rfl,rfl,rfl⟩;(iterate 4 exact rfl);exact .nil;exact rfl
   intro cnt
   refine I2 ?_
   obtain rfl:=sI h
   exact P9 (L:=D1 t []) (κ:=[0,1,2,3]) (vK (.cons R R V8) R) (.inr ⟨_,R,R⟩)
  replace h:=(exO nv2).symm.trans h
  refine G5 (t' := .d (.tup [])) (ls:=[]) (news:=[]) ([]) (D1 t [bx 1 (.ref 0 13 0 0),bx 5 (.d (D4.d o))]) ((D3 k4).ok nv2) eK R (.inl ⟨R,R,R⟩) R R R R .nil R R R .nil .nil R R R R (Q1 kR (A1 ?_))
  exact .inl ⟨(),h,.prn [2,3,4] R⟩
 refine O1 fun df=>?_
 refine P5 kR (A3Z tb R R R R R R R R R (I8 R R R (C7 tb R (C7 tb R (B7 (y := .arr 2 ((t.R0).map I0.d)) tb R (A0 R (C7 tb R (B7 (y:=vI o.what) tb R (L4 (v := .d (.agg [vI e,vI o.what])) tb R R (List.cons_ne_nil _ _) R R R R R R ?_)))))))))
 obtain⟨rv,k,h⟩:=H0 h
 refine H8 (A1E k) eK R R R R ?_ ?_
 ·intro c
  replace h:=H1 c h
  refine A0 R (H7 10 R (B5 R (A3 R (F6 kR (A1 ?_)))))
  exact .inl ⟨(),h,.prn [2,3,4,5] R⟩
 intro c
 replace h:=X9 c h
 refine A0 R (A3Z tb R R R R R R R R R (I8 R R R (C7 tb R (C7 tb R (B7 (y := .arr 2 ((t.R0).map I0.d)) tb R (C7 tb R (B7 (y:=vI o.what) tb R (A0 R (L4 (v := .d (.agg [vI o.what,vI e])) tb R R (List.cons_ne_nil _ _) R R R R R R ?_)))))))))
 obtain⟨rv2,k2,h⟩:=H0 h
 refine H8 (A1E k2) eK R R R R ?_ ?_
 ·intro c2
  replace h:=H1 c2 h
  refine C4 R (A3 R (F6 kR (A1 ?_)))
  exact .inl ⟨(),h,.prn [2,3,4,5] R⟩
 intro c2
 replace h:=X9 c2 h
 refine C4 R (A3 R (F6 kR (A1 (.inr (L9 ?_)))))
 refine O1 fun df=>?_
 refine A15 kR (A0 R (A0 R (H7 16 R (C4 R ?_))))
 obtain⟨rv3,k3,h⟩:=H0 h
 rcases Q9 rv3 with⟨x,nv⟩ | ⟨v,nv⟩
 ·replace h:=(exN nv).symm.trans h
  refine R6 kR kR ?_
  (with_reducible apply L3 []);exact(D3 k3).err nv;exact rfl;exact eK;exact rfl;exact .inl ⟨rfl,rfl,rfl⟩;(iterate 4 exact rfl);exact .nil;exact rfl
  intro cnt
  refine I2 ?_
  obtain rfl:=sI h
  exact P9 (L:=D1 t []) (κ:=[0,1,2,3]) (vK (.cons R R V8) R) (.inr ⟨_,R,R⟩)
 replace h:=(exO nv).symm.trans h
 cases h
def A18 (F:Nat) (q:C6) (c:D4):Option Bool:=(A1G F q.keys c.what).bind fun rv=>some rv
theorem A69 {F:Nat} {q:C6} {c:D4} {r:Bool} (h:A18 F q c=some r):PC Tryz.prog 114 [C6.d q,.el 5 (([c]).map D4.d) ((0:Int)).toNat 0] (.v (.bool r)):=by
 rw[A18]at h
 refine SC.of_sw Tryz.func114 R R R ?_
 dsimp only[M1,List.map]
 refine qG (M4 R (A3 R (eN (qG (C7 tb R (B7 (y := .arr 1 ((q.keys).map vI)) tb R (M0 tb R (H9 (y:=vI c.what) tb (Q6 (g:=D4.d) (R:P7 [c] 0=some c)) R ?_))))))))
 obtain⟨rv,k,h⟩:=H0 h
 refine N5 (A5q k) eK R R R R (A3 R (eN (C9 ?_)))
 obtain rfl:=sI h
 exact f1 3 R
def A2F (F:Nat) (c:E4) (a:D4):Option (Except Int E4):=(R2 F c a.who).bind fun rv=>exE rv (fun x=>some (.error x)) (fun v=>(P7 v.C2 a.what).bind fun e=>(J2 F (decide (e<0)) 174).bind fun rv2=>exE rv2 (fun x2=>some (.error x2)) (fun v2=>(A1N F v (fun a0=>A18 F a0 a)).bind fun rv3=>(J2 F (!rv3) 177).bind fun rv4=>exE rv4 (fun x3=>some (.error x3)) (fun v3=>(A4g v.C2 a.what a.who).bind fun q=>some (.ok {v with C2:=q}))))
theorem A3d {F:Nat} {c:E4} {a:D4} {r:(Except Int E4)} (h:A2F F c a=some r):SCX Tryz.prog 87 [.ref 0 13 0 0,.d (D4.d a)] (D1 c []) r 34 (fun(a:E4) => .d (.tup [])) (fun(a:E4)=>(D1 a [])):=by
 rw[A2F]at h
 refine SC.of_sw Tryz.func87 R R R ?_
 dsimp only[M1,List.map]
 refine qG (M4 R (eN (B8 (A0M (L7 R R R (C7 tb R (B7 (y:=vI a.who) tb R ?_)))))))
 obtain⟨rv,k,h⟩:=H0 h
 rcases Q9 rv with⟨x,nv⟩ | ⟨v,nv⟩
 ·replace h:=(exN nv).symm.trans h
  refine A0b ?_
  (with_reducible apply L3 [0,1,2,3]);exact(J7 k).err nv;exact rfl;exact eK;exact rfl;exact .inl ⟨rfl,rfl,rfl⟩;(iterate 4 exact rfl);exact(.cons rfl rfl A1A);exact rfl
  intro cnt
  refine I2 ?_
  obtain rfl:=sI h
  exact P9 (L:=[none,none,none,none]) (κ:=[0,1,2,3]) (vK (.gone R (.gone R (.gone R (.gone R .nil)))) R) (.inr ⟨_,R,R⟩)
 replace h:=(exO nv).symm.trans h
 refine G5 (t' := .d (.tup [])) (ls:=D1 v []) (news:=[]) ([0,1,2,3]) (D1 v [bx 5 (.d (D4.d a))]) ((J7 k).ok nv) eK R (.inl ⟨R,R,R⟩) R R R R ((.cons R R A1A)) R R R ((.cons R (.row (.row (.row .nil))))) .nil R R R R (V9 ?_)
 refine A1 (B8 (A15 kR (L7 R R R (I8 R R R (C7 tb R (C7 tb R (A0T tb R R R R R R R R R (C7 tb R (B7 (y:=vI a.what) tb R ?_)))))))))
 obtain⟨e,ie,h⟩:=H0 h
 refine Q5 tb R R R R R R (S0 ie) (ix1 ie) R R ?_
 refine V2 (y:=vI e) tb R R R R (Q6 (g:=fun a=>T.d (vI a)) ie) R R R R ?_
 refine B48 R R R R ?_
 obtain⟨rv2,k2,h⟩:=H0 h
 rcases Q9 rv2 with⟨x2,nv2⟩ | ⟨v2,nv2⟩
 ·replace h:=(exN nv2).symm.trans h
  refine R6 kR kR ?_
  (with_reducible apply L3 []);exact(D3 k2).err nv2;exact rfl;exact eK;exact rfl;exact .inl ⟨rfl,rfl,rfl⟩;(iterate 4 exact rfl);exact .nil;exact rfl
  intro cnt
  refine I2 ?_
  obtain rfl:=sI h
  exact P9 (L:=D1 v []) (κ:=[0,1,2,3]) (vK (.cons R R V8) R) (.inr ⟨_,R,R⟩)
 replace h:=(exO nv2).symm.trans h
 refine G5 (t' := .d (.tup [])) (ls:=[]) (news:=[]) ([]) (D1 v [bx 5 (.d (D4.d a))]) ((D3 k2).ok nv2) eK R (.inl ⟨R,R,R⟩) R R R R .nil R R R .nil .nil R R R R (Q1 kR (A1 (B8 (A0M (L7 R R R (A7b R R R R ?_))))))
 obtain⟨rv3,k3,h⟩:=H0 h
 refine A19 (t' := .d (.v (.bool rv3))) (news':=[]) (A32 (so:=(fun a0=>A18 F a0 a)) (soc:=[.el 5 [D4.d a] 0 0]) (soh:=fun hr=>A69 hr) (soe := .of kR) k3) R .nil eK R R ((.cons (.d (.ref R (.aggL (dL (dL (dL (dL (dL (dL (dL (dL (.cons (.row R R) (.cons (.row R R) (.cons (.row R R) (dL (dL .nil)))))))))))))))) (.cons (.fnC (.cons (.d (.ref R (.d _))) .nil)) .nil))) R .nil R R R ?_
 simp only[List.map_nil,List.append_nil]
 refine A9P R R R ?_
 obtain⟨rv4,k4,h⟩:=H0 h
 rcases Q9 rv4 with⟨x3,nv3⟩ | ⟨v3,nv3⟩
 ·replace h:=(exN nv3).symm.trans h
  refine A0b ?_
  (with_reducible apply L3 []);exact(D3 k4).err nv3;exact rfl;exact eK;exact rfl;exact .inl ⟨rfl,rfl,rfl⟩;(iterate 4 exact rfl);exact .nil;exact rfl
  intro cnt
  refine I2 ?_
  obtain rfl:=sI h
  exact P9 (L:=D1 v []) (κ:=[0,1,2,3]) (vK (.cons R R V8) R) (.inr ⟨_,R,R⟩)
 replace h:=(exO nv3).symm.trans h
 refine G5 (t' := .d (.tup [])) (ls:=[]) (news:=[]) ([]) (D1 v [bx 5 (.d (D4.d a))]) ((D3 k4).ok nv3) eK R (.inl ⟨R,R,R⟩) R R R R .nil R R R .nil .nil R R R R (V9 (A1 (P5 kR (L7 R R R (I8 R R R (C7 tb R (C7 tb R (A0T tb R R R R R R R R R (C7 tb R (B7 (y:=vI a.what) tb R (C7 tb R ?_)))))))))))
 refine B7 (y:=vI a.who) tb R (Q5 tb R R R R R R (S0 ie) (ix1 ie) R R ?_)
 obtain⟨q,iq,h⟩:=H0 h
 refine A36 (a':=(a.who:Int)) tb R R R R ie R R R R iq R R ?_
 dsimp only[List.set_cons_zero,List.set_cons_succ,D5,D8]
 first | rw[A0F iq] | skip
 refine F6 kR ?_
 obtain rfl:=sI h
 exact M9 (L8 (t := .d (.tup [])) (L:=[bx 13 (D8 {v with C2:=q} 1 2 3),F5 v.C1,F5 q,F5 v.A7]) (κ:=[0,1,2,3]) R .nil (vK (.cons R R V8) R) (.inl ⟨_,R,R,R⟩))
def A3w (F:Nat) (c:E4) (a:D4):Option (Except Int E4):=(R2 F c a.who).bind fun rv=>exE rv (fun x=>some (.error x)) (fun v=>(P7 v.C2 a.what).bind fun e=>(J2 F (decide (e=a.who)) 174).bind fun rv2=>exE rv2 (fun x2=>some (.error x2)) (fun v2=>(A4g v.C2 a.what (-1)).bind fun q=>some (.ok {v with C2:=q})))
theorem A34 {F:Nat} {c:E4} {a:D4} {r:(Except Int E4)} (h:A3w F c a=some r):SCX Tryz.prog 88 [.ref 0 13 0 0,.d (D4.d a)] (D1 c []) r 34 (fun(a:E4) => .d (.tup [])) (fun(a:E4)=>(D1 a [])):=by
 rw[A3w]at h
 refine SC.of_sw Tryz.func88 R R R ?_
 dsimp only[M1,List.map]
 refine qG (M4 R (eN (B8 (A0M (L7 R R R (C7 tb R (B7 (y:=vI a.who) tb R ?_)))))))
 obtain⟨rv,k,h⟩:=H0 h
 rcases Q9 rv with⟨x,nv⟩ | ⟨v,nv⟩
 ·replace h:=(exN nv).symm.trans h
  refine A0b ?_
  (with_reducible apply L3 [0,1,2,3]);exact(J7 k).err nv;exact rfl;exact eK;exact rfl;exact .inl ⟨rfl,rfl,rfl⟩;(iterate 4 exact rfl);exact(.cons rfl rfl A1A);exact rfl
  intro cnt
  refine I2 ?_
  obtain rfl:=sI h
  exact P9 (L:=[none,none,none,none]) (κ:=[0,1,2,3]) (vK (.gone R (.gone R (.gone R (.gone R .nil)))) R) (.inr ⟨_,R,R⟩)
 replace h:=(exO nv).symm.trans h
 refine G5 (t' := .d (.tup [])) (ls:=D1 v []) (news:=[]) ([0,1,2,3]) (D1 v [bx 5 (.d (D4.d a))]) ((J7 k).ok nv) eK R (.inl ⟨R,R,R⟩) R R R R ((.cons R R A1A)) R R R ((.cons R (.row (.row (.row .nil))))) .nil R R R R (V9 ?_)
 refine A1 (B8 (A15 kR (L7 R R R (I8 R R R (C7 tb R (C7 tb R (A0T tb R R R R R R R R R (C7 tb R (B7 (y:=vI a.what) tb R ?_)))))))))
 obtain⟨e,ie,h⟩:=H0 h
 refine Q5 tb R R R R R R (S0 ie) (ix1 ie) R R ?_
 refine V2 (y:=vI e) tb R R R R (Q6 (g:=fun a=>T.d (vI a)) ie) R R R R ?_
 refine C7 tb R (B7 (y:=vI a.who) tb R (A3x R R R R ?_))
 obtain⟨rv2,k2,h⟩:=H0 h
 rcases Q9 rv2 with⟨x2,nv2⟩ | ⟨v2,nv2⟩
 ·replace h:=(exN nv2).symm.trans h
  refine R6 kR kR ?_
  (with_reducible apply L3 []);exact(D3 k2).err nv2;exact rfl;exact eK;exact rfl;exact .inl ⟨rfl,rfl,rfl⟩;(iterate 4 exact rfl);exact .nil;exact rfl
  intro cnt
  refine I2 ?_
  obtain rfl:=sI h
  exact P9 (L:=D1 v []) (κ:=[0,1,2,3]) (vK (.cons R R V8) R) (.inr ⟨_,R,R⟩)
 replace h:=(exO nv2).symm.trans h
 refine G5 (t' := .d (.tup [])) (ls:=[]) (news:=[]) ([]) (D1 v [bx 5 (.d (D4.d a))]) ((D3 k2).ok nv2) eK R (.inl ⟨R,R,R⟩) R R R R .nil R R R .nil .nil R R R R (Q1 kR (A1 (P5 kR (L7 R R R (I8 R R R (C7 tb R (C7 tb R (A0T tb R R R R R R R R R (C7 tb R ?_)))))))))
 refine B7 (y:=vI a.what) tb R (Q5 tb R R R R R R (S0 ie) (ix1 ie) R R ?_)
 obtain⟨q,iq,h⟩:=H0 h
 refine A36 (a':=((-1):Int)) tb R R R R ie R R R R iq R R ?_
 dsimp only[List.set_cons_zero,List.set_cons_succ,D5,D8]
 first | rw[A0F iq] | skip
 refine F6 kR ?_
 obtain rfl:=sI h
 exact M9 (L8 (t := .d (.tup [])) (L:=[bx 13 (D8 {v with C2:=q} 1 2 3),F5 v.C1,F5 q,F5 v.A7]) (κ:=[0,1,2,3]) R .nil (vK (.cons R R V8) R) (.inl ⟨_,R,R,R⟩))
def A2D (F:Nat) (c:E4) (a:D4):Option (Except Int E4):=(P7 c.C2 a.what).bind fun e=>(J2 F (decide (e=a.who)) 174).bind fun rv=>exE rv (fun x=>some (.error x)) (fun v=>(P7 c.C1 a.with_).bind fun e2=>(P7 c.C1 a.who).bind fun e3=>(J2 F (decide (e2=e3)) 171).bind fun rv2=>exE rv2 (fun x2=>some (.error x2)) (fun v2=>(A4g c.C2 a.what a.with_).bind fun q=>(V0 F {c with C2:=q} a.who e3).bind fun rv3=>(J2 F rv3 178).bind fun rv4=>exE rv4 (fun x3=>some (.error x3)) (fun v3=>some (.ok {c with C2:=q}))))
theorem A3b {F:Nat} {c:E4} {a:D4} {r:(Except Int E4)} (h:A2D F c a=some r):SCX Tryz.prog 89 [.ref 0 13 0 0,.d (D4.d a)] (D1 c []) r 34 (fun(a:E4) => .d (.tup [])) (fun(a:E4)=>(D1 a [])):=by
 rw[A2D]at h
 refine SC.of_sw Tryz.func89 R R R ?_
 dsimp only[M1,List.map]
 refine qG (M4 R (eN (B8 (A15 kR (L7 R R R (I8 R R R (C7 tb R (C7 tb R (A0T tb R R R R R R R R R (C7 tb R (B7 (y:=vI a.what) tb R ?_)))))))))))
 obtain⟨e,ie,h⟩:=H0 h
 refine Q5 tb R R R R R R (S0 ie) (ix1 ie) R R ?_
 refine V2 (y:=vI e) tb R R R R (Q6 (g:=fun a=>T.d (vI a)) ie) R R R R ?_
 refine C7 tb R (B7 (y:=vI a.who) tb R (A3x R R R R ?_))
 obtain⟨rv,k,h⟩:=H0 h
 rcases Q9 rv with⟨x,nv⟩ | ⟨v,nv⟩
 ·replace h:=(exN nv).symm.trans h
  refine R6 kR kR ?_
  (with_reducible apply L3 []);exact(D3 k).err nv;exact rfl;exact eK;exact rfl;exact .inl ⟨rfl,rfl,rfl⟩;(iterate 4 exact rfl);exact .nil;exact rfl
  intro cnt
  refine I2 ?_
  obtain rfl:=sI h
  exact P9 (L:=D1 c []) (κ:=[0,1,2,3]) (vK (.cons R R V8) R) (.inr ⟨_,R,R⟩)
 replace h:=(exO nv).symm.trans h
 refine G5 (t' := .d (.tup [])) (ls:=[]) (news:=[]) ([]) (D1 c [bx 5 (.d (D4.d a))]) ((D3 k).ok nv) eK R (.inl ⟨R,R,R⟩) R R R R .nil R R R .nil .nil R R R R (Q1 kR (A1 (B8 (A15 kR (L7 R R R (I8 R R R (C7 tb R (C7 tb R (A0T tb R R R R R R R R R (C7 tb R ?_))))))))))
 refine B7 (y:=vI a.with_) tb R ?_
 obtain⟨e2,ie2,h⟩:=H0 h
 refine Q5 tb R R R R R R (S0 ie2) (ix1 ie2) R R ?_
 refine V2 (y:=vI e2) tb R R R R (Q6 (g:=fun a=>T.d (vI a)) ie2) R R R R ?_
 refine L7 R R R (I8 R R R (C7 tb R (C7 tb R (A0T tb R R R R R R R R R (C7 tb R (B7 (y:=vI a.who) tb R ?_))))))
 obtain⟨e3,ie3,h⟩:=H0 h
 refine Q5 tb R R R R R R (S0 ie3) (ix1 ie3) R R ?_
 refine V2 (y:=vI e3) tb R R R R (Q6 (g:=fun a=>T.d (vI a)) ie3) R R R R ?_
 refine A3x R R R R ?_
 obtain⟨rv2,k2,h⟩:=H0 h
 rcases Q9 rv2 with⟨x2,nv2⟩ | ⟨v2,nv2⟩
 ·replace h:=(exN nv2).symm.trans h
  refine R6 kR kR ?_
  (with_reducible apply L3 []);exact(D3 k2).err nv2;exact rfl;exact eK;exact rfl;exact .inl ⟨rfl,rfl,rfl⟩;(iterate 4 exact rfl);exact .nil;exact rfl
  intro cnt
  refine I2 ?_
  obtain rfl:=sI h
  exact P9 (L:=D1 c []) (κ:=[0,1,2,3]) (vK (.cons R R V8) R) (.inr ⟨_,R,R⟩)
 replace h:=(exO nv2).symm.trans h
 refine G5 (t' := .d (.tup [])) (ls:=[]) (news:=[]) ([]) (D1 c [bx 5 (.d (D4.d a))]) ((D3 k2).ok nv2) eK R (.inl ⟨R,R,R⟩) R R R R .nil R R R .nil .nil R R R R (Q1 kR (A1 (B8 (P5 kR (L7 R R R (I8 R R R (C7 tb R (C7 tb R (A0T tb R R R R R R R R R (C7 tb R ?_))))))))))
 refine B7 (y:=vI a.what) tb R (C7 tb R (B7 (y:=vI a.with_) tb R (Q5 tb R R R R R R (S0 ie) (ix1 ie) R R ?_)))
 obtain⟨q,iq,h⟩:=H0 h
 refine A36 (a':=(a.with_:Int)) tb R R R R ie R R R R iq R R ?_
 dsimp only[List.set_cons_zero,List.set_cons_succ,D5,D8]
 first | rw[A0F iq] | skip
 refine F6 kR (A1 (A15 kR (L7 R R R (C7 tb R (B7 (y:=vI a.who) tb R (L7 R R R (I8 R R R (C7 tb R (C7 tb R (A0T tb R R R R R R R R R (C7 tb R (B7 (y:=vI a.who) tb R (Q5 tb R R R R R R (S0 ie3) (ix1 ie3) R R ?_)))))))))))))
 refine V2 (y:=vI e3) tb R R R R (Q6 (g:=fun a=>T.d (vI a)) ie3) R R R R ?_
 obtain⟨rv3,k3,h⟩:=H0 h
 refine A2N (A1a k3) R eK R R ((.cons (.ref R (.aggL (dL (dL (dL (dL (dL (dL (dL (dL (.cons (.row R R) (.cons (.row R R) (.cons (.row R R) (dL (dL .nil))))))))))))))) (dL (dL .nil)))) R R ?_
 obtain⟨rv4,k4,h⟩:=H0 h
 rcases Q9 rv4 with⟨x3,nv3⟩ | ⟨v3,nv3⟩
 ·replace h:=(exN nv3).symm.trans h
  refine R6 kR kR ?_
  (with_reducible apply L3 []);exact(D3 k4).err nv3;exact rfl;exact eK;exact rfl;exact .inl ⟨rfl,rfl,rfl⟩;(iterate 4 exact rfl);exact .nil;exact rfl
  intro cnt
  obtain rfl:=sI h
  exact P9 (L:=[bx 13 (D8 {c with C2:=q} 1 2 3),F5 c.C1,F5 q,F5 c.A7]) (κ:=[0,1,2,3]) (vK (.cons R R V8) R) (.inr ⟨_,R,R⟩)
 replace h:=(exO nv3).symm.trans h
 refine G5 (t' := .d (.tup [])) (ls:=[]) (news:=[]) ([]) ([bx 13 (D8 {c with C2:=q} 1 2 3),F5 c.C1,F5 q,F5 c.A7,bx 5 (.d (D4.d a))]) ((D3 k4).ok nv3) eK R (.inl ⟨R,R,R⟩) R R R R .nil R R R .nil .nil R R R R (Q1 kR ?_)
 obtain rfl:=sI h
 exact M9 (L8 (t := .d (.tup [])) (L:=[bx 13 (D8 {c with C2:=q} 1 2 3),F5 c.C1,F5 q,F5 c.A7]) (κ:=[0,1,2,3]) R .nil (vK (.cons R R V8) R) (.inl ⟨_,R,R,R⟩))
def A1l (F:Nat) (c:E4) (a:D4):Option (Except Int E4):=(R2 F c a.who).bind fun rv=>exE rv (fun x=>some (.error x)) (fun v=>(P7 v.M7 a.who).bind fun e=>(P7 v.M8 a.what).bind fun e2=>(J2 F (decide (e2.grade≤e.grade)) 172).bind fun rv2=>exE rv2 (fun x2=>some (.error x2)) (fun v2=>some (.ok v)))
theorem A0m {F:Nat} {c:E4} {a:D4} {r:(Except Int E4)} (h:A1l F c a=some r):SCX Tryz.prog 116 [.ref 0 13 0 0,.d (D4.d a)] (D1 c []) r 34 (fun(a:E4) => .d (.tup [])) (fun(a:E4)=>(D1 a [])):=by
 rw[A1l]at h
 refine SC.of_sw Tryz.func116 R R R ?_
 dsimp only[M1,List.map]
 refine qG (M4 R (eN (B8 (A0M (L7 R R R (C7 tb R (B7 (y:=vI a.who) tb R ?_)))))))
 obtain⟨rv,k,h⟩:=H0 h
 rcases Q9 rv with⟨x,nv⟩ | ⟨v,nv⟩
 ·replace h:=(exN nv).symm.trans h
  refine A0b ?_
  (with_reducible apply L3 [0,1,2,3]);exact(J7 k).err nv;exact rfl;exact eK;exact rfl;exact .inl ⟨rfl,rfl,rfl⟩;(iterate 4 exact rfl);exact(.cons rfl rfl A1A);exact rfl
  intro cnt
  refine I2 ?_
  obtain rfl:=sI h
  exact P9 (L:=[none,none,none,none]) (κ:=[0,1,2,3]) (vK (.gone R (.gone R (.gone R (.gone R .nil)))) R) (.inr ⟨_,R,R⟩)
 replace h:=(exO nv).symm.trans h
 refine G5 (t' := .d (.tup [])) (ls:=D1 v []) (news:=[]) ([0,1,2,3]) (D1 v [bx 5 (.d (D4.d a))]) ((J7 k).ok nv) eK R (.inl ⟨R,R,R⟩) R R R R ((.cons R R A1A)) R R R ((.cons R (.row (.row (.row .nil))))) .nil R R R R (V9 ?_)
 refine A1 (A15 kR (L7 R R R (I8 R R R (C7 tb R (C7 tb R (B7 (y := .arr 2 ((v.M7).map E3.d)) tb R (C7 tb R (B7 (y:=vI a.who) tb R ?_))))))))
 obtain⟨e,ie,h⟩:=H0 h
 refine J9 tb (S0 ie) (P6 ie) R (M0 tb R (H9 (y:=vI e.grade) tb (Q6 (g:=E3.d) ie) R (L7 R R R (I8 R R R (C7 tb R (C7 tb R (B7 (y := .arr 6 ((v.M8).map C6.d)) tb R (C7 tb R (B7 (y:=vI a.what) tb R ?_)))))))))
 obtain⟨e2,ie2,h⟩:=H0 h
 refine J9 tb (S0 ie2) (P6 ie2) R (M0 tb R (H9 (y:=vI e2.grade) tb (Q6 (g:=C6.d) ie2) R (A5p R R R R ?_)))
 obtain⟨rv2,k2,h⟩:=H0 h
 rcases Q9 rv2 with⟨x2,nv2⟩ | ⟨v2,nv2⟩
 ·replace h:=(exN nv2).symm.trans h
  refine R6 kR kR ?_
  (with_reducible apply L3 []);exact(D3 k2).err nv2;exact rfl;exact eK;exact rfl;exact .inl ⟨rfl,rfl,rfl⟩;(iterate 4 exact rfl);exact .nil;exact rfl
  intro cnt
  obtain rfl:=sI h
  exact P9 (L:=D1 v []) (κ:=[0,1,2,3]) (vK (.cons R R V8) R) (.inr ⟨_,R,R⟩)
 replace h:=(exO nv2).symm.trans h
 refine G5 (t' := .d (.tup [])) (ls:=[]) (news:=[]) ([]) (D1 v [bx 5 (.d (D4.d a))]) ((D3 k2).ok nv2) eK R (.inl ⟨R,R,R⟩) R R R R .nil R R R .nil .nil R R R R (Q1 kR ?_)
 obtain rfl:=sI h
 exact M9 (L8 (t := .d (.tup [])) (L:=D1 v []) (κ:=[0,1,2,3]) R .nil (vK (.cons R R V8) R) (.inl ⟨_,R,R,R⟩))
def A3v (F:Nat) (c:E4) (a:D4):Option (Except Int E4):=(A1l F c a).bind fun rv=>exE rv (fun x=>some (.error x)) (fun v=>(P7 v.A7 a.what).bind fun e=>(J2 F (decide (e=0)) 177).bind fun rv2=>exE rv2 (fun x2=>some (.error x2)) (fun v2=>(J2 F (!v.G2) 173).bind fun rv3=>exE rv3 (fun x3=>some (.error x3)) (fun v3=>(A0g F v a.what).bind fun rv4=>(J2 F (decide ((rv4.length:Int)=0)) 174).bind fun rv5=>exE rv5 (fun x4=>some (.error x4)) (fun v4=>if 0≤v.G4 then((J2 F (decide (v.V4≤(W (a.at_-v.G4)))) 179).bind fun rv6=>exE rv6 (fun x5=>some (.error x5)) (fun v5=>(A4g v.A7 a.what 1).bind fun q=>some (.ok {v with A7:=q})))else((J2 F false 179).bind fun rv7=>exE rv7 (fun x6=>some (.error x6)) (fun v6=>none))))))
theorem A31 {F:Nat} {c:E4} {a:D4} {r:(Except Int E4)} (h:A3v F c a=some r):SCX Tryz.prog 90 [.ref 0 13 0 0,.d (D4.d a)] (D1 c []) r 34 (fun(a:E4) => .d (.tup [])) (fun(a:E4)=>(D1 a [])):=by
 rw[A3v]at h
 refine SC.of_sw Tryz.func90 R R R ?_
 dsimp only[M1,List.map]
 refine qG (M4 R (eN (B8 (A0M (L7 R R R (B7 (y:=D4.d a) tb R ?_))))))
 obtain⟨rv,k,h⟩:=H0 h
 rcases Q9 rv with⟨x,nv⟩ | ⟨v,nv⟩
 ·replace h:=(exN nv).symm.trans h
  refine A0b ?_
  (with_reducible apply L3 [0,1,2,3]);exact(A0m k).err nv;exact rfl;exact eK;exact rfl;exact .inl ⟨rfl,rfl,rfl⟩;(iterate 4 exact rfl);exact(.cons rfl rfl A1A);exact rfl
  intro cnt
  refine I2 ?_
  obtain rfl:=sI h
  exact P9 (L:=[none,none,none,none]) (κ:=[0,1,2,3]) (vK (.gone R (.gone R (.gone R (.gone R .nil)))) R) (.inr ⟨_,R,R⟩)
 replace h:=(exO nv).symm.trans h
 refine G5 (t' := .d (.tup [])) (ls:=D1 v []) (news:=[]) ([0,1,2,3]) (D1 v [bx 5 (.d (D4.d a))]) ((A0m k).ok nv) eK R (.inl ⟨R,R,R⟩) R R R R ((.cons R R A1A)) R R R ((.cons R (.row (.row (.row .nil))))) .nil R R R R (V9 ?_)
 refine A1 (B8 (A15 kR (L7 R R R (I8 R R R (C7 tb R (C7 tb R (A0T tb R R R R R R R R R (C7 tb R (B7 (y:=vI a.what) tb R ?_)))))))))
 obtain⟨e,ie,h⟩:=H0 h
 refine Q5 tb R R R R R R (S0 ie) (ix1 ie) R R ?_
 refine V2 (y:=vI e) tb R R R R (Q6 (g:=fun a=>T.d (vI a)) ie) R R R R ?_
 refine A3x R R R R ?_
 obtain⟨rv2,k2,h⟩:=H0 h
 rcases Q9 rv2 with⟨x2,nv2⟩ | ⟨v2,nv2⟩
 ·replace h:=(exN nv2).symm.trans h
  refine R6 kR kR ?_
  (with_reducible apply L3 []);exact(D3 k2).err nv2;exact rfl;exact eK;exact rfl;exact .inl ⟨rfl,rfl,rfl⟩;(iterate 4 exact rfl);exact .nil;exact rfl
  intro cnt
  refine I2 ?_
  obtain rfl:=sI h
  exact P9 (L:=D1 v []) (κ:=[0,1,2,3]) (vK (.cons R R V8) R) (.inr ⟨_,R,R⟩)
 replace h:=(exO nv2).symm.trans h
 refine G5 (t' := .d (.tup [])) (ls:=[]) (news:=[]) ([]) (D1 v [bx 5 (.d (D4.d a))]) ((D3 k2).ok nv2) eK R (.inl ⟨R,R,R⟩) R R R R .nil R R R .nil .nil R R R R (Q1 kR (A1 (B8 (A0M (L7 R R R (I8 R R R (C7 tb R (C7 tb R (B7 (y := .v (.bool v.G2)) tb R (A9P R R R ?_))))))))))
 obtain⟨rv3,k3,h⟩:=H0 h
 rcases Q9 rv3 with⟨x3,nv3⟩ | ⟨v3,nv3⟩
 ·replace h:=(exN nv3).symm.trans h
  refine A0b ?_
  (with_reducible apply L3 []);exact(D3 k3).err nv3;exact rfl;exact eK;exact rfl;exact .inl ⟨rfl,rfl,rfl⟩;(iterate 4 exact rfl);exact .nil;exact rfl
  intro cnt
  refine I2 ?_
  obtain rfl:=sI h
  exact P9 (L:=D1 v []) (κ:=[0,1,2,3]) (vK (.cons R R V8) R) (.inr ⟨_,R,R⟩)
 replace h:=(exO nv3).symm.trans h
 refine G5 (t' := .d (.tup [])) (ls:=[]) (news:=[]) ([]) (D1 v [bx 5 (.d (D4.d a))]) ((D3 k3).ok nv3) eK R (.inl ⟨R,R,R⟩) R R R R .nil R R R .nil .nil R R R R (V9 (A1 (B8 (A0M (L7 R R R (C7 tb R (B7 (y:=vI a.what) tb R ?_)))))))
 obtain⟨rv4,k4,h⟩:=H0 h
 refine A5S (t' := .row 5 1 0 (rv4).length) (news':=[(lvI rv4)]) (A1T k4) R ((.row (fun _=>rfl) .nil)) eK R R ((.cons (.ref R (.aggL (dL (dL (dL (dL (dL (dL (dL (dL (.cons (.row R R) (.cons (.row R R) (.cons (.row R R) (dL (dL .nil))))))))))))))) (dL .nil))) R ((.row .nil)) R R R ?_
 refine A3y tb R R R R R (A3x R R R R ?_)
 obtain⟨rv5,k5,h⟩:=H0 h
 rcases Q9 rv5 with⟨x4,nv4⟩ | ⟨v4,nv4⟩
 ·replace h:=(exN nv4).symm.trans h
  refine A0b ?_
  (with_reducible apply L3 []);exact(D3 k5).err nv4;exact rfl;exact eK;exact rfl;exact .inl ⟨rfl,rfl,rfl⟩;(iterate 4 exact rfl);exact .nil;exact rfl
  intro cnt
  refine I2 ?_
  obtain rfl:=sI h
  exact P9 (L:=D1 v []) (κ:=[0,1,2,3]) (vK (.cons R R V8) R) (.inr ⟨_,R,R⟩)
 replace h:=(exO nv4).symm.trans h
 refine G5 (t' := .d (.tup [])) (ls:=[]) (news:=[]) ([]) (D1 v [bx 5 (.d (D4.d a)),F5 rv4]) ((D3 k5).ok nv4) eK R (.inl ⟨R,R,R⟩) R R R R .nil R R R .nil .nil R R R R (V9 (A1 (B8 (A15 kR (L7 R R R (I8 R R R (C7 tb R (C7 tb R (B7 (y:=vI v.G4) tb R ?_)))))))))
 refine A35 R R R R ?_ ?_
 ·intro c2
  replace h:=H1 c2 h
  refine A0 R (C7 tb R (B7 (y:=vI a.at_) tb R (L7 R R R (I8 R R R (C7 tb R (C7 tb R (B7 (y:=vI v.G4) tb R (O6 R R R R (L7 R R R (I8 R R R (C7 tb R (C7 tb R (B7 (y:=vI v.V4) tb R (A5p R R R R (B5 R ?_)))))))))))))))
  obtain⟨rv6,k6,h⟩:=H0 h
  rcases Q9 rv6 with⟨x5,nv5⟩ | ⟨v5,nv5⟩
  ·replace h:=(exN nv5).symm.trans h
   refine R6 kR kR ?_
   (with_reducible apply L3 []);exact(D3 k6).err nv5;exact rfl;exact eK;exact rfl;exact .inl ⟨rfl,rfl,rfl⟩;(iterate 4 exact rfl);exact .nil;exact rfl
   intro cnt
   refine I2 ?_
   obtain rfl:=sI h
   exact P9 (L:=D1 v []) (κ:=[0,1,2,3]) (vK (.cons R R V8) R) (.inr ⟨_,R,R⟩)
  replace h:=(exO nv5).symm.trans h
  refine G5 (t' := .d (.tup [])) (ls:=[]) (news:=[]) ([]) (D1 v [bx 5 (.d (D4.d a)),F5 rv4]) ((D3 k6).ok nv5) eK R (.inl ⟨R,R,R⟩) R R R R .nil R R R .nil .nil R R R R (Q1 kR (A1 (P5 kR (L7 R R R (I8 R R R (C7 tb R (C7 tb R (A0T tb R R R R R R R R R (C7 tb R ?_)))))))))
  refine B7 (y:=vI a.what) tb R (Q5 tb R R R R R R (S0 ie) (ix1 ie) R R ?_)
  obtain⟨q,iq,h⟩:=H0 h
  refine A36 (a':=(1:Int)) tb R R R R ie R R R R iq R R ?_
  dsimp only[List.set_cons_zero,List.set_cons_succ,D5,D8]
  first | rw[A0F iq] | skip
  refine F6 kR ?_
  obtain rfl:=sI h
  exact M9 (L8 (t := .d (.tup [])) (L:=[bx 13 (D8 {v with A7:=q} 1 2 3),F5 v.C1,F5 v.C2,F5 q]) (κ:=[0,1,2,3]) R .nil (vK (.cons R R V8) R) (.inl ⟨_,R,R,R⟩))
 intro c2
 replace h:=J0 (Int.not_le.2 c2) h
 refine A0 R (H7 14 R (C4 R ?_))
 obtain⟨rv7,k7,h⟩:=H0 h
 rcases Q9 rv7 with⟨x6,nv6⟩ | ⟨v6,nv6⟩
 ·replace h:=(exN nv6).symm.trans h
  refine R6 kR kR ?_
  (with_reducible apply L3 []);exact(D3 k7).err nv6;exact rfl;exact eK;exact rfl;exact .inl ⟨rfl,rfl,rfl⟩;(iterate 4 exact rfl);exact .nil;exact rfl
  intro cnt
  refine I2 ?_
  obtain rfl:=sI h
  exact P9 (L:=D1 v []) (κ:=[0,1,2,3]) (vK (.cons R R V8) R) (.inr ⟨_,R,R⟩)
 replace h:=(exO nv6).symm.trans h
 cases h
def A1S (F:Nat) (c:E4) (a:D4):Option (Except Int E4):=(R2 F c a.who).bind fun rv=>exE rv (fun x=>some (.error x)) (fun v=>(P7 v.A7 a.what).bind fun e=>(J2 F (decide (e=1)) 177).bind fun rv2=>exE rv2 (fun x2=>some (.error x2)) (fun v2=>(A4g v.A7 a.what 0).bind fun q=>some (.ok {v with A7:=q})))
theorem A2t {F:Nat} {c:E4} {a:D4} {r:(Except Int E4)} (h:A1S F c a=some r):SCX Tryz.prog 91 [.ref 0 13 0 0,.d (D4.d a)] (D1 c []) r 34 (fun(a:E4) => .d (.tup [])) (fun(a:E4)=>(D1 a [])):=by
 rw[A1S]at h
 refine SC.of_sw Tryz.func91 R R R ?_
 dsimp only[M1,List.map]
 refine qG (M4 R (eN (B8 (A0M (L7 R R R (C7 tb R (B7 (y:=vI a.who) tb R ?_)))))))
 obtain⟨rv,k,h⟩:=H0 h
 rcases Q9 rv with⟨x,nv⟩ | ⟨v,nv⟩
 ·replace h:=(exN nv).symm.trans h
  refine A0b ?_
  (with_reducible apply L3 [0,1,2,3]);exact(J7 k).err nv;exact rfl;exact eK;exact rfl;exact .inl ⟨rfl,rfl,rfl⟩;(iterate 4 exact rfl);exact(.cons rfl rfl A1A);exact rfl
  intro cnt
  refine I2 ?_
  obtain rfl:=sI h
  exact P9 (L:=[none,none,none,none]) (κ:=[0,1,2,3]) (vK (.gone R (.gone R (.gone R (.gone R .nil)))) R) (.inr ⟨_,R,R⟩)
 replace h:=(exO nv).symm.trans h
 refine G5 (t' := .d (.tup [])) (ls:=D1 v []) (news:=[]) ([0,1,2,3]) (D1 v [bx 5 (.d (D4.d a))]) ((J7 k).ok nv) eK R (.inl ⟨R,R,R⟩) R R R R ((.cons R R A1A)) R R R ((.cons R (.row (.row (.row .nil))))) .nil R R R R (V9 ?_)
 refine A1 (B8 (A15 kR (L7 R R R (I8 R R R (C7 tb R (C7 tb R (A0T tb R R R R R R R R R (C7 tb R (B7 (y:=vI a.what) tb R ?_)))))))))
 obtain⟨e,ie,h⟩:=H0 h
 refine Q5 tb R R R R R R (S0 ie) (ix1 ie) R R ?_
 refine V2 (y:=vI e) tb R R R R (Q6 (g:=fun a=>T.d (vI a)) ie) R R R R ?_
 refine A3x R R R R ?_
 obtain⟨rv2,k2,h⟩:=H0 h
 rcases Q9 rv2 with⟨x2,nv2⟩ | ⟨v2,nv2⟩
 ·replace h:=(exN nv2).symm.trans h
  refine R6 kR kR ?_
  (with_reducible apply L3 []);exact(D3 k2).err nv2;exact rfl;exact eK;exact rfl;exact .inl ⟨rfl,rfl,rfl⟩;(iterate 4 exact rfl);exact .nil;exact rfl
  intro cnt
  refine I2 ?_
  obtain rfl:=sI h
  exact P9 (L:=D1 v []) (κ:=[0,1,2,3]) (vK (.cons R R V8) R) (.inr ⟨_,R,R⟩)
 replace h:=(exO nv2).symm.trans h
 refine G5 (t' := .d (.tup [])) (ls:=[]) (news:=[]) ([]) (D1 v [bx 5 (.d (D4.d a))]) ((D3 k2).ok nv2) eK R (.inl ⟨R,R,R⟩) R R R R .nil R R R .nil .nil R R R R (Q1 kR (A1 (P5 kR (L7 R R R (I8 R R R (C7 tb R (C7 tb R (A0T tb R R R R R R R R R (C7 tb R ?_)))))))))
 refine B7 (y:=vI a.what) tb R (Q5 tb R R R R R R (S0 ie) (ix1 ie) R R ?_)
 obtain⟨q,iq,h⟩:=H0 h
 refine A36 (a':=(0:Int)) tb R R R R ie R R R R iq R R ?_
 dsimp only[List.set_cons_zero,List.set_cons_succ,D5,D8]
 first | rw[A0F iq] | skip
 refine F6 kR ?_
 obtain rfl:=sI h
 exact M9 (L8 (t := .d (.tup [])) (L:=[bx 13 (D8 {v with A7:=q} 1 2 3),F5 v.C1,F5 v.C2,F5 q]) (κ:=[0,1,2,3]) R .nil (vK (.cons R R V8) R) (.inl ⟨_,R,R,R⟩))
def A2C (F:Nat) (c:E4) (a:D4):Option (Except Int E4):=(A1l F c a).bind fun rv=>exE rv (fun x=>some (.error x)) (fun v=>(P7 v.A7 a.what).bind fun e=>(J2 F (decide (e=1)) 177).bind fun rv2=>exE rv2 (fun x2=>some (.error x2)) (fun v2=>(A4g v.A7 a.what 2).bind fun q=>some (.ok {v with A7:=q})))
theorem A3a {F:Nat} {c:E4} {a:D4} {r:(Except Int E4)} (h:A2C F c a=some r):SCX Tryz.prog 92 [.ref 0 13 0 0,.d (D4.d a)] (D1 c []) r 34 (fun(a:E4) => .d (.tup [])) (fun(a:E4)=>(D1 a [])):=by
 rw[A2C]at h
 refine SC.of_sw Tryz.func92 R R R ?_
 dsimp only[M1,List.map]
 refine qG (M4 R (eN (B8 (A0M (L7 R R R (B7 (y:=D4.d a) tb R ?_))))))
 obtain⟨rv,k,h⟩:=H0 h
 rcases Q9 rv with⟨x,nv⟩ | ⟨v,nv⟩
 ·replace h:=(exN nv).symm.trans h
  refine A0b ?_
  (with_reducible apply L3 [0,1,2,3]);exact(A0m k).err nv;exact rfl;exact eK;exact rfl;exact .inl ⟨rfl,rfl,rfl⟩;(iterate 4 exact rfl);exact(.cons rfl rfl A1A);exact rfl
  intro cnt
  refine I2 ?_
  obtain rfl:=sI h
  exact P9 (L:=[none,none,none,none]) (κ:=[0,1,2,3]) (vK (.gone R (.gone R (.gone R (.gone R .nil)))) R) (.inr ⟨_,R,R⟩)
 replace h:=(exO nv).symm.trans h
 refine G5 (t' := .d (.tup [])) (ls:=D1 v []) (news:=[]) ([0,1,2,3]) (D1 v [bx 5 (.d (D4.d a))]) ((A0m k).ok nv) eK R (.inl ⟨R,R,R⟩) R R R R ((.cons R R A1A)) R R R ((.cons R (.row (.row (.row .nil))))) .nil R R R R (V9 ?_)
 refine A1 (B8 (A15 kR (L7 R R R (I8 R R R (C7 tb R (C7 tb R (A0T tb R R R R R R R R R (C7 tb R (B7 (y:=vI a.what) tb R ?_)))))))))
 obtain⟨e,ie,h⟩:=H0 h
 refine Q5 tb R R R R R R (S0 ie) (ix1 ie) R R ?_
 refine V2 (y:=vI e) tb R R R R (Q6 (g:=fun a=>T.d (vI a)) ie) R R R R ?_
 refine A3x R R R R ?_
 obtain⟨rv2,k2,h⟩:=H0 h
 rcases Q9 rv2 with⟨x2,nv2⟩ | ⟨v2,nv2⟩
 ·replace h:=(exN nv2).symm.trans h
  refine R6 kR kR ?_
  (with_reducible apply L3 []);exact(D3 k2).err nv2;exact rfl;exact eK;exact rfl;exact .inl ⟨rfl,rfl,rfl⟩;(iterate 4 exact rfl);exact .nil;exact rfl
  intro cnt
  refine I2 ?_
  obtain rfl:=sI h
  exact P9 (L:=D1 v []) (κ:=[0,1,2,3]) (vK (.cons R R V8) R) (.inr ⟨_,R,R⟩)
 replace h:=(exO nv2).symm.trans h
 refine G5 (t' := .d (.tup [])) (ls:=[]) (news:=[]) ([]) (D1 v [bx 5 (.d (D4.d a))]) ((D3 k2).ok nv2) eK R (.inl ⟨R,R,R⟩) R R R R .nil R R R .nil .nil R R R R (Q1 kR (A1 (P5 kR (L7 R R R (I8 R R R (C7 tb R (C7 tb R (A0T tb R R R R R R R R R (C7 tb R ?_)))))))))
 refine B7 (y:=vI a.what) tb R (Q5 tb R R R R R R (S0 ie) (ix1 ie) R R ?_)
 obtain⟨q,iq,h⟩:=H0 h
 refine A36 (a':=(2:Int)) tb R R R R ie R R R R iq R R ?_
 dsimp only[List.set_cons_zero,List.set_cons_succ,D5,D8]
 first | rw[A0F iq] | skip
 refine F6 kR ?_
 obtain rfl:=sI h
 exact M9 (L8 (t := .d (.tup [])) (L:=[bx 13 (D8 {v with A7:=q} 1 2 3),F5 v.C1,F5 v.C2,F5 q]) (κ:=[0,1,2,3]) R .nil (vK (.cons R R V8) R) (.inl ⟨_,R,R,R⟩))
def A1m (F:Nat) (a:C6):Option Bool:=some true
theorem A5J {F:Nat} {a:C6} {r:Bool} (h:A1m F a=some r):PC Tryz.prog 117 [C6.d a] (.v (.bool r)):=by
 rw[A1m]at h
 refine SC.of_sw Tryz.func117 R R R ?_
 dsimp only[M1,List.map]
 refine qG (M4 R (A3 R (eN (qG (A3 R (eN (C9 ?_)))))))
 obtain rfl:=sI h
 exact f1 2 R
def A2u (F:Nat) (c:E4) (a:D4):Option (Except Int E4):=if a.what=1 then((R2 F c a.who).bind fun rv=>exE rv (fun x=>some (.error x)) (fun v=>(J2 F ((decide (0≤v.G4)) != true) 177).bind fun rv2=>exE rv2 (fun x2=>some (.error x2)) (fun v2=>(J2 F true 179).bind fun rv3=>exE rv3 (fun x3=>some (.error x3)) (fun v3=>some (.ok {v with G4:=a.at_})))))else((R2 F c a.who).bind fun rv4=>exE rv4 (fun x4=>some (.error x4)) (fun v4=>(J2 F ((decide (0≤v4.G4)) != false) 177).bind fun rv5=>exE rv5 (fun x5=>some (.error x5)) (fun v5=>(A1N F v4 (fun a0=>A1m F a0)).bind fun rv6=>(J2 F (!rv6) 179).bind fun rv7=>exE rv7 (fun x6=>some (.error x6)) (fun v6=>some (.ok {v4 with G4:=(-1)})))))
theorem A26 {F:Nat} {c:E4} {a:D4} {r:(Except Int E4)} (h:A2u F c a=some r):SCX Tryz.prog 93 [.ref 0 13 0 0,.d (D4.d a)] (D1 c []) r 34 (fun(a:E4) => .d (.tup [])) (fun(a:E4)=>(D1 a [])):=by
 rw[A2u]at h
 refine SC.of_sw Tryz.func93 R R R ?_
 dsimp only[M1,List.map]
 refine qG (M4 R (eN (qG (C7 tb R (B7 (y:=vI a.what) tb R ?_)))))
 refine Q0 R R R R ?_ ?_
 ·intro c2
  replace h:=H1 c2 h
  refine A3 R (eN (B8 (A0M (L7 R R R (C7 tb R (B7 (y:=vI a.who) tb R ?_))))))
  obtain⟨rv,k,h⟩:=H0 h
  rcases Q9 rv with⟨x,nv⟩ | ⟨v,nv⟩
  ·replace h:=(exN nv).symm.trans h
   refine A0b ?_
   (with_reducible apply L3 [0,1,2,3]);exact(J7 k).err nv;exact rfl;exact eK;exact rfl;exact .inl ⟨rfl,rfl,rfl⟩;(iterate 4 exact rfl);exact(.cons rfl rfl A1A);exact rfl
   intro cnt
   refine I2 ?_
   obtain rfl:=sI h
   exact P9 (L:=[none,none,none,none]) (κ:=[0,1,2,3]) (vK (.gone R (.gone R (.gone R (.gone R .nil)))) R) (.inr ⟨_,R,R⟩)
  replace h:=(exO nv).symm.trans h
  refine G5 (t' := .d (.tup [])) (ls:=D1 v []) (news:=[]) ([0,1,2,3]) (D1 v [bx 5 (.d (D4.d a))]) ((J7 k).ok nv) eK R (.inl ⟨R,R,R⟩) R R R R ((.cons R R A1A)) R R R ((.cons R (.row (.row (.row .nil))))) .nil R R R R (V9 ?_)
  refine A1 (B8 (A0M (L7 R R R (I8 R R R (C7 tb R (C7 tb R (B7 (y:=vI v.G4) tb R (A5p R R R R (A0 R (A62 R R R R R ?_))))))))))
  obtain⟨rv2,k2,h⟩:=H0 h
  rcases Q9 rv2 with⟨x2,nv2⟩ | ⟨v2,nv2⟩
  ·replace h:=(exN nv2).symm.trans h
   refine A0b ?_
   (with_reducible apply L3 []);exact(D3 k2).err nv2;exact rfl;exact eK;exact rfl;exact .inl ⟨rfl,rfl,rfl⟩;(iterate 4 exact rfl);exact .nil;exact rfl
   intro cnt
   refine I2 ?_
   obtain rfl:=sI h
   exact P9 (L:=D1 v []) (κ:=[0,1,2,3]) (vK (.cons R R V8) R) (.inr ⟨_,R,R⟩)
  replace h:=(exO nv2).symm.trans h
  refine G5 (t' := .d (.tup [])) (ls:=[]) (news:=[]) ([]) (D1 v [bx 5 (.d (D4.d a))]) ((D3 k2).ok nv2) eK R (.inl ⟨R,R,R⟩) R R R R .nil R R R .nil .nil R R R R (V9 (A1 (B8 (A0M (A0 R (A0 R (H7 3 R (B5 R ?_))))))))
  obtain⟨rv3,k3,h⟩:=H0 h
  rcases Q9 rv3 with⟨x3,nv3⟩ | ⟨v3,nv3⟩
  ·replace h:=(exN nv3).symm.trans h
   refine A0b ?_
   (with_reducible apply L3 []);exact(D3 k3).err nv3;exact rfl;exact eK;exact rfl;exact .inl ⟨rfl,rfl,rfl⟩;(iterate 4 exact rfl);exact .nil;exact rfl
   intro cnt
   refine I2 ?_
   obtain rfl:=sI h
   exact P9 (L:=D1 v []) (κ:=[0,1,2,3]) (vK (.cons R R V8) R) (.inr ⟨_,R,R⟩)
  replace h:=(exO nv3).symm.trans h
  refine G5 (t' := .d (.tup [])) (ls:=[]) (news:=[]) ([]) (D1 v [bx 5 (.d (D4.d a))]) ((D3 k3).ok nv3) eK R (.inl ⟨R,R,R⟩) R R R R .nil R R R .nil .nil R R R R (V9 (A1 (qG (L7 R R R (I8 R R R (C7 tb R (C7 tb R (I5 _ _ tb R (eN (qG (A0 R (eN (A9 R (E5 (L7 R R R (C7 tb R ?_))))))))))))))))
  refine B7 (y:=vI a.at_) tb R (I8 R R R (C7 tb R (C7 tb R (I5 _ _ tb R (L5 ?_)))))
  obtain rfl:=sI h
  exact M9 (L8 (t := .d (.tup [])) (L:=[bx 13 (D8 {v with G4:=a.at_} 1 2 3),F5 v.C1,F5 v.C2,F5 v.A7]) (κ:=[0,1,2,3]) R .nil (vK (.cons R R V8) R) (.inl ⟨_,R,R,R⟩))
 intro c2
 replace h:=J0 c2 h
 refine A3 R (eN (B8 (A0M (L7 R R R (C7 tb R (B7 (y:=vI a.who) tb R ?_))))))
 obtain⟨rv4,k4,h⟩:=H0 h
 rcases Q9 rv4 with⟨x4,nv4⟩ | ⟨v4,nv4⟩
 ·replace h:=(exN nv4).symm.trans h
  refine A0b ?_
  (with_reducible apply L3 [0,1,2,3]);exact(J7 k4).err nv4;exact rfl;exact eK;exact rfl;exact .inl ⟨rfl,rfl,rfl⟩;(iterate 4 exact rfl);exact(.cons rfl rfl A1A);exact rfl
  intro cnt
  refine I2 ?_
  obtain rfl:=sI h
  exact P9 (L:=[none,none,none,none]) (κ:=[0,1,2,3]) (vK (.gone R (.gone R (.gone R (.gone R .nil)))) R) (.inr ⟨_,R,R⟩)
 replace h:=(exO nv4).symm.trans h
 refine G5 (t' := .d (.tup [])) (ls:=D1 v4 []) (news:=[]) ([0,1,2,3]) (D1 v4 [bx 5 (.d (D4.d a))]) ((J7 k4).ok nv4) eK R (.inl ⟨R,R,R⟩) R R R R ((.cons R R A1A)) R R R ((.cons R (.row (.row (.row .nil))))) .nil R R R R ?_
 refine V9 (A1 (B8 (A0M (L7 R R R (I8 R R R (C7 tb R (C7 tb R (B7 (y:=vI v4.G4) tb R (A5p R R R R (A0 R (A62 R R R R R ?_)))))))))))
 obtain⟨rv5,k5,h⟩:=H0 h
 rcases Q9 rv5 with⟨x5,nv5⟩ | ⟨v5,nv5⟩
 ·replace h:=(exN nv5).symm.trans h
  refine A0b ?_
  (with_reducible apply L3 []);exact(D3 k5).err nv5;exact rfl;exact eK;exact rfl;exact .inl ⟨rfl,rfl,rfl⟩;(iterate 4 exact rfl);exact .nil;exact rfl
  intro cnt
  refine I2 ?_
  obtain rfl:=sI h
  exact P9 (L:=D1 v4 []) (κ:=[0,1,2,3]) (vK (.cons R R V8) R) (.inr ⟨_,R,R⟩)
 replace h:=(exO nv5).symm.trans h
 refine G5 (t' := .d (.tup [])) (ls:=[]) (news:=[]) ([]) (D1 v4 [bx 5 (.d (D4.d a))]) ((D3 k5).ok nv5) eK R (.inl ⟨R,R,R⟩) R R R R .nil R R R .nil .nil R R R R (V9 (A1 (B8 (A0M (A0 R (A0 R (L7 R R R ?_)))))))
 obtain⟨rv6,k6,h⟩:=H0 h
 refine A19 (t' := .d (.v (.bool rv6))) (news':=[]) (A32 (so:=(fun a0=>A1m F a0)) (soc:=[]) (soh:=fun hr=>A5J hr) (soe := .of kR) k6) R .nil eK R R ((.cons (.d (.ref R (.aggL (dL (dL (dL (dL (dL (dL (dL (dL (.cons (.row R R) (.cons (.row R R) (.cons (.row R R) (dL (dL .nil)))))))))))))))) (.cons .fnc .nil))) R .nil R R R ?_
 simp only[List.map_nil,List.append_nil]
 refine A9P R R R (C4 R ?_)
 obtain⟨rv7,k7,h⟩:=H0 h
 rcases Q9 rv7 with⟨x6,nv6⟩ | ⟨v6,nv6⟩
 ·replace h:=(exN nv6).symm.trans h
  refine A0b ?_
  (with_reducible apply L3 []);exact(D3 k7).err nv6;exact rfl;exact eK;exact rfl;exact .inl ⟨rfl,rfl,rfl⟩;(iterate 4 exact rfl);exact .nil;exact rfl
  intro cnt
  refine I2 ?_
  obtain rfl:=sI h
  exact P9 (L:=D1 v4 []) (κ:=[0,1,2,3]) (vK (.cons R R V8) R) (.inr ⟨_,R,R⟩)
 replace h:=(exO nv6).symm.trans h
 refine G5 (t' := .d (.tup [])) (ls:=[]) (news:=[]) ([]) (D1 v4 [bx 5 (.d (D4.d a))]) ((D3 k7).ok nv6) eK R (.inl ⟨R,R,R⟩) R R R R .nil R R R .nil .nil R R R R (V9 (A1 (qG (L7 R R R (I8 R R R (C7 tb R (C7 tb R (I5 _ _ tb R (eN (qG (A0 R (eN (A5 R (C0 ?_))))))))))))))
 obtain rfl:=sI h
 exact M9 (L8 (t := .d (.tup [])) (L:=[bx 13 (D8 {v4 with G4:=(-1)} 1 2 3),F5 v4.C1,F5 v4.C2,F5 v4.A7]) (κ:=[0,1,2,3]) R .nil (vK (.cons R R V8) R) (.inl ⟨_,R,R,R⟩))
end Go.Proofs.YthcnganbnbhhoaaGreat
