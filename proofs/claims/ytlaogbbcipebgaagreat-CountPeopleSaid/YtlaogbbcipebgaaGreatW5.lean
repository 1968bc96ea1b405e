/- What functions of the program compute: plain functions, and the proofs. -/
import Derived.Test.YtlaogbbcipebgaaGreatW4
set_option linter.unusedVariables false
set_option linter.unusedSimpArgs false
open Go Go.Proofs.YtlaogbbcipebgaaGreat.Sh Go.Proofs
namespace Go.Proofs.YtlaogbbcipebgaaGreat
set_option maxRecDepth 100000
set_option maxHeartbeats 40000000
def C5h (F:Nat) (B4:Int→(List Int)→(List Int)→(List Int)→Int→Bool→(List Int)→Int→Option (C3 × (List Int) × Int)) (x3:Int) (y7:Int) (y8:(List Int)) (y9:(List Int)) (y10:(List Int)) (y11:Int) (y12:Bool) (lv2:(List Int)):Option (C3 × (List Int) × Int):=B4 y7 y8 y9 y10 y11 y12 lv2 (W (x3+1))
def C4L (F:Nat) (B4:Int→(List Int)→(List Int)→(List Int)→Int→Bool→(List Int)→Int→Option (C3 × (List Int) × Int)) (lv:(List Int)) (x3:Int) (rv4:(C3 × Int)) (y7:Int) (y8:(List Int)) (y9:(List Int)) (y10:(List Int)) (y11:Int) (y12:Bool):Option (C3 × (List Int) × Int):=(A8i lv [rv4.2]).bind fun q=>C5h F B4 x3 y7 y8 y9 y10 y11 y12 q
def C3a (F:Nat) (t:D5) (a:(List D2)) (K:Int→(List Int)→(List Int)→(List Int)→Int→Bool→(List Int)→Int→Option (C3 × (List Int) × Int)):Nat→Int→(List Int)→(List Int)→(List Int)→Int→Bool→(List Int)→Int→Option (C3 × (List Int) × Int)
 | 0,_,_,_,_,_,_,_,_=>none
 | n+1,y,y2,y3,y4,y5,y6,lv,x3=>if x3<(a.length:Int)then((P3 a x3).bind fun e2=>(A9J F t (C3.mk y y2 y3 y4 y5 y6) e2).bind fun rv4=>if rv4.2=0 then(C4L F (C3a F t a K n) lv x3 rv4 rv4.1.now rv4.1.zones rv4.1.holder rv4.1.squibs rv4.1.siren rv4.1.storm)else(C4L F (C3a F t a K n) lv x3 rv4 y y2 y3 y4 y5 y6))else(K y y2 y3 y4 y5 y6 lv x3)
def C4f (F:Nat) (t:D5) (a:(List D2)) (K:Int→Int→Option (C3 × (List Int) × Int)):Nat→Int→Int→Option (C3 × (List Int) × Int)
 | 0,_,_=>none
 | n+1,x,x2=>if x2<(a.length:Int)then((P3 a x2).bind fun e=>(A9k F t e).bind fun rv2=>if rv2=0 then(C4f F t a K n rv2 (W (x2+1)))else(some ((C3.mk 0 ([]:List Int) ([]:List Int) ([]:List Int) 0 false),([]:List Int),rv2)))else(K x x2)
def C5d (F:Nat) (t:D5) (o:C3) (a:(List D2)):Option (C3 × (List Int) × Int):=(A3g F t o).bind fun rv=>if rv=0 then(if 60<(a.length:Int)then(some ((C3.mk 0 ([]:List Int) ([]:List Int) ([]:List Int) 0 false),([]:List Int),3))else(C4f F t a (fun(x:Int) (x2:Int)=>(A56 F t o).bind fun rv3=>B2S rv3 (none) (fun t2=>C3a F t a (fun(y:Int) (y2:(List Int)) (y3:(List Int)) (y4:(List Int)) (y5:Int) (y6:Bool) (lv:(List Int)) (x3:Int)=>some ((C3.mk y y2 y3 y4 y5 y6),lv,0)) F t2.N7 t2.A9 t2.A8 t2.A4 t2.I3 t2.I1 ([]:List Int) 0)) F rv 0))else(some ((C3.mk 0 ([]:List Int) ([]:List Int) ([]:List Int) 0 false),([]:List Int),rv))
theorem C57 {F:Nat} {t:D5} {o:C3} {a:(List D2)} {r:(C3 × (List Int) × Int)} (h:C5d F t o a=some r):SCR Tryz.prog 44 (List.map T.d [D5.d t,C3.d o,.arr 5 ((a).map D2.d)]) [] (.tup [J2 r.1 0 1 2,.row 3 1 0 (r.2.1).length,.d (.v (.int .i64 r.2.2))]) (List.map some [(B7 r.1.zones),(B7 r.1.holder),(B7 r.1.squibs),(B7 r.2.1)]):=by
 rw[C5d]at h
 refine SC.of_sw Tryz.func44 R R R ?_
 dsimp only[L8,List.map]
 refine qG (M9 R (M9 R (M5 tb R R R R R (A3 R (A3 R (eN (B8 (qG (B5 (y:=D5.d t) tb R (B5 (y:=C3.d o) tb R ?_))))))))))
 obtain⟨rv,k,h⟩:=H1 h
 refine J5 (A9i k) eK R R R R (A3 R (eN (qG (A0 R ?_))))
 refine V5 R R R R ?_ ?_
 ·intro c
  replace h:=P1 c h
  refine eN (C0 R (qG (S1 (v := .d (.agg [vI 0,.v (.slice none 0 0),.v (.slice none 0 0),.v (.slice none 0 0),vI 0,.v (.bool false)])) tb R R (List.cons_ne_nil _ _) R R R R R R (A0 R (I6 _ _ tb R (A3 R (A3 R (eN ?_))))))))
  refine SW.own (ts':=[(6,.ref 2 6 0 0),(7,.d (.v (.slice none 0 0))),(8,.d (vI rv))]) (L':=[bx 7 (.d (D5.d t)),bx 6 (.d (C3.d o)),bx 6 (.agg [.d (vI 0),.row 3 1 0 (([]:List Int)).length,.d (.v (.slice none 0 0)),.d (.v (.slice none 0 0)),.d (vI 0),.d (.v (.bool false))])]) 1 R R (.cons (.same _) (.cons (.same _) (.cons (.same _) .nil))) (.same (.same (.cons R (.cons (.aggDL (.cons (.same _) (.cons .nil (.cons (.same _) (.cons (.same _) (.cons (.same _) (.cons (.same _) .nil))))))) .nil) .nil))) ?_
  simp only[List.cons_append,List.nil_append]
  refine SW.own (ts':=[(6,.ref 2 6 0 0),(7,.d (.v (.slice none 0 0))),(8,.d (vI rv))]) (L':=[bx 7 (.d (D5.d t)),bx 6 (.d (C3.d o)),bx 6 (.agg [.d (vI 0),.row 3 1 0 (([]:List Int)).length,.row 4 1 0 (([]:List Int)).length,.d (.v (.slice none 0 0)),.d (vI 0),.d (.v (.bool false))]),B0u ([]:List Int)]) 1 R R (.cons (.same _) (.cons (.same _) (.cons (.same _) .nil))) (.same (.same (.cons R (.cons (.aggL (.cons (.same _) (.cons (.same _) (.cons .nil (.cons (.same _) (.cons (.same _) (.cons (.same _) .nil))))))) .nil) (.same .nil)))) ?_
  simp only[List.cons_append,List.nil_append]
  refine SW.own (ts':=[(6,.ref 2 6 0 0),(7,.d (.v (.slice none 0 0))),(8,.d (vI rv))]) (L':=[bx 7 (.d (D5.d t)),bx 6 (.d (C3.d o)),bx 6 (J2 (C3.mk 0 ([]:List Int) ([]:List Int) ([]:List Int) 0 false) 3 4 5),B0u ([]:List Int),B0u ([]:List Int)]) 1 R R (.cons (.same _) (.cons (.same _) (.cons (.same _) .nil))) (.same (.same (.cons R (.cons (.aggL (.cons (.same _) (.cons (.same _) (.cons (.same _) (.cons .nil (.cons (.same _) (.cons (.same _) .nil))))))) .nil) (.same (.same .nil))))) ?_
  simp only[List.cons_append,List.nil_append]
  refine SW.own (ts':=[(6,.ref 2 6 0 0),(7,.row 6 1 0 (([]:List Int)).length),(8,.d (vI rv))]) (L':=[bx 7 (.d (D5.d t)),bx 6 (.d (C3.d o)),bx 6 (J2 (C3.mk 0 ([]:List Int) ([]:List Int) ([]:List Int) 0 false) 3 4 5),B0u ([]:List Int),B0u ([]:List Int),B0u ([]:List Int)]) 1 R R (.cons (.same _) (.cons .nil (.cons (.same _) .nil))) (.same (.same (.same (.same (.same (.same .nil)))))) ?_
  simp only[List.cons_append,List.nil_append]
  refine C9 (B2 ?_)
  obtain rfl:=sI h
  exact f2 [3,4,5,6] C40 R (.cons (rc tb R) (.cons (.tmp 7) (.cons (.tmp 8) .nil))) R
 intro c
 replace h:=J7 c h
 refine eN (C1 R (D7 (A6 (B8 (qG (A0 R (I7 tb R ?_)))))))
 refine A4l R R R R ?_ ?_
 ·intro c2
  replace h:=J7 c2 h
  refine eN (C0 R (qG (S1 (v := .d (.agg [vI 0,.v (.slice none 0 0),.v (.slice none 0 0),.v (.slice none 0 0),vI 0,.v (.bool false)])) tb R R (List.cons_ne_nil _ _) R R R R R R (I6 _ _ tb R (A3 R (A3 R (eN ?_)))))))
  refine SW.own (ts':=[(6,.ref 2 6 0 0),(7,.d (.v (.slice none 0 0))),(8,.d (vI 3))]) (L':=[bx 7 (.d (D5.d t)),bx 6 (.d (C3.d o)),bx 6 (.agg [.d (vI 0),.row 3 1 0 (([]:List Int)).length,.d (.v (.slice none 0 0)),.d (.v (.slice none 0 0)),.d (vI 0),.d (.v (.bool false))])]) 1 R R (.cons (.same _) (.cons (.same _) (.cons (.same _) .nil))) (.same (.same (.cons R (.cons (.aggDL (.cons (.same _) (.cons .nil (.cons (.same _) (.cons (.same _) (.cons (.same _) (.cons (.same _) .nil))))))) .nil) .nil))) ?_
  simp only[List.cons_append,List.nil_append]
  refine SW.own (ts':=[(6,.ref 2 6 0 0),(7,.d (.v (.slice none 0 0))),(8,.d (vI 3))]) (L':=[bx 7 (.d (D5.d t)),bx 6 (.d (C3.d o)),bx 6 (.agg [.d (vI 0),.row 3 1 0 (([]:List Int)).length,.row 4 1 0 (([]:List Int)).length,.d (.v (.slice none 0 0)),.d (vI 0),.d (.v (.bool false))]),B0u ([]:List Int)]) 1 R R (.cons (.same _) (.cons (.same _) (.cons (.same _) .nil))) (.same (.same (.cons R (.cons (.aggL (.cons (.same _) (.cons (.same _) (.cons .nil (.cons (.same _) (.cons (.same _) (.cons (.same _) .nil))))))) .nil) (.same .nil)))) ?_
  simp only[List.cons_append,List.nil_append]
  refine SW.own (ts':=[(6,.ref 2 6 0 0),(7,.d (.v (.slice none 0 0))),(8,.d (vI 3))]) (L':=[bx 7 (.d (D5.d t)),bx 6 (.d (C3.d o)),bx 6 (J2 (C3.mk 0 ([]:List Int) ([]:List Int) ([]:List Int) 0 false) 3 4 5),B0u ([]:List Int),B0u ([]:List Int)]) 1 R R (.cons (.same _) (.cons (.same _) (.cons (.same _) .nil))) (.same (.same (.cons R (.cons (.aggL (.cons (.same _) (.cons (.same _) (.cons (.same _) (.cons .nil (.cons (.same _) (.cons (.same _) .nil))))))) .nil) (.same (.same .nil))))) ?_
  simp only[List.cons_append,List.nil_append]
  refine SW.own (ts':=[(6,.ref 2 6 0 0),(7,.row 6 1 0 (([]:List Int)).length),(8,.d (vI 3))]) (L':=[bx 7 (.d (D5.d t)),bx 6 (.d (C3.d o)),bx 6 (J2 (C3.mk 0 ([]:List Int) ([]:List Int) ([]:List Int) 0 false) 3 4 5),B0u ([]:List Int),B0u ([]:List Int),B0u ([]:List Int)]) 1 R R (.cons (.same _) (.cons .nil (.cons (.same _) .nil))) (.same (.same (.same (.same (.same (.same .nil)))))) ?_
  simp only[List.cons_append,List.nil_append]
  refine C9 (B2 ?_)
  obtain rfl:=sI h
  exact f2 [3,4,5,6] C40 R (.cons (rc tb R) (.cons (.tmp 7) (.cons (.tmp 8) .nil))) R
 intro c2
 replace h:=P1 (nL c2) h
 refine eN (C1 R (D7 (A6 (B8 (qG (A0 R (I7 tb R (A0 R (eN (E3 ?_))))))))))
 obtain⟨K2,hK2,h⟩:∃ K,K=_∧C4f F t a K F rv 0=some r:=⟨_,rfl,h⟩
 refine M2 (fun m st=>∃ (x:Int) (x2:Int),C4f F t a K2 m x x2=some r∧st=⟨[(2,.d (.arr 5 ((a).map D2.d))),(3,.ref 0 7 0 0),(4,.ref 1 6 0 0),(6,.ref 2 6 0 0),(7,.d (.v (.slice none 0 0))),(8,.d (vI x)),(26,.d (.arr 5 ((a).map D2.d))),(27,.d (vI (a.length:Int))),(28,.d (vI x2))],[bx 7 (.d (D5.d t)),bx 6 (.d (C3.d o)),bx 6 (.d (.agg [vI 0,.v (.slice none 0 0),.v (.slice none 0 0),.v (.slice none 0 0),vI 0,.v (.bool false)]))]⟩) (.prn [2,3,4,6,7,8,26,27,28] R) ⟨rv,0,h,R⟩ ?_
 clear h
 rintro m2 st ⟨x,x2,h,rfl⟩
 cases m2 with
 | zero=>cases(show(none:Option (C3 × (List Int) × Int))=some r from h)
 | succ m2 =>
 rw[C4f]at h
 refine qG ?_
 refine Q4 R R R R ?_ ?_
 ·intro c3
  replace h:=J7 c3 h
  refine eN (B8 (C0 R (D7 (A6 (B8 (E3 (qG ?_)))))))
  obtain⟨e,ie,h⟩:=H1 h
  refine N8 tb (F0 ie) (V1 ie) R (I4 (y:=D2.d e) tb (U5 (g:=D2.d) ie) R (M5 tb R R R R R (I6 _ _ tb R (eN (qG (B5 (y:=D5.d t) tb R (B5 (y:=D2.d e) tb R ?_)))))))
  obtain⟨rv2,k2,h⟩:=H1 h
  refine J5 (B5m k2) eK R R R R (A3 R (eN (qG (A0 R ?_))))
  refine V5 R R R R ?_ ?_
  ·intro c4
   replace h:=P1 c4 h
   refine eN (C0 R (qG (S1 (v := .d (.agg [vI 0,.v (.slice none 0 0),.v (.slice none 0 0),.v (.slice none 0 0),vI 0,.v (.bool false)])) tb R R (List.cons_ne_nil _ _) R R R R R R (A0 R (I6 _ _ tb R (A3 R (A3 R (eN ?_))))))))
   refine SW.own (ts':=[(6,.ref 2 6 0 0),(7,.d (.v (.slice none 0 0))),(8,.d (vI rv2))]) (L':=[bx 7 (.d (D5.d t)),bx 6 (.d (C3.d o)),bx 6 (.agg [.d (vI 0),.row 4 1 0 (([]:List Int)).length,.d (.v (.slice none 0 0)),.d (.v (.slice none 0 0)),.d (vI 0),.d (.v (.bool false))]),bx 5 (.d (D2.d e))]) 1 R R (.cons (.same _) (.cons (.same _) (.cons (.same _) .nil))) (.same (.same (.cons R (.cons (.aggDL (.cons (.same _) (.cons .nil (.cons (.same _) (.cons (.same _) (.cons (.same _) (.cons (.same _) .nil))))))) .nil) (.same .nil)))) ?_
   simp only[List.cons_append,List.nil_append]
   refine SW.own (ts':=[(6,.ref 2 6 0 0),(7,.d (.v (.slice none 0 0))),(8,.d (vI rv2))]) (L':=[bx 7 (.d (D5.d t)),bx 6 (.d (C3.d o)),bx 6 (.agg [.d (vI 0),.row 4 1 0 (([]:List Int)).length,.row 5 1 0 (([]:List Int)).length,.d (.v (.slice none 0 0)),.d (vI 0),.d (.v (.bool false))]),bx 5 (.d (D2.d e)),B0u ([]:List Int)]) 1 R R (.cons (.same _) (.cons (.same _) (.cons (.same _) .nil))) (.same (.same (.cons R (.cons (.aggL (.cons (.same _) (.cons (.same _) (.cons .nil (.cons (.same _) (.cons (.same _) (.cons (.same _) .nil))))))) .nil) (.same (.same .nil))))) ?_
   simp only[List.cons_append,List.nil_append]
   refine SW.own (ts':=[(6,.ref 2 6 0 0),(7,.d (.v (.slice none 0 0))),(8,.d (vI rv2))]) (L':=[bx 7 (.d (D5.d t)),bx 6 (.d (C3.d o)),bx 6 (J2 (C3.mk 0 ([]:List Int) ([]:List Int) ([]:List Int) 0 false) 4 5 6),bx 5 (.d (D2.d e)),B0u ([]:List Int),B0u ([]:List Int)]) 1 R R (.cons (.same _) (.cons (.same _) (.cons (.same _) .nil))) (.same (.same (.cons R (.cons (.aggL (.cons (.same _) (.cons (.same _) (.cons (.same _) (.cons .nil (.cons (.same _) (.cons (.same _) .nil))))))) .nil) (.same (.same (.same .nil)))))) ?_
   simp only[List.cons_append,List.nil_append]
   refine SW.own (ts':=[(6,.ref 2 6 0 0),(7,.row 7 1 0 (([]:List Int)).length),(8,.d (vI rv2))]) (L':=[bx 7 (.d (D5.d t)),bx 6 (.d (C3.d o)),bx 6 (J2 (C3.mk 0 ([]:List Int) ([]:List Int) ([]:List Int) 0 false) 4 5 6),bx 5 (.d (D2.d e)),B0u ([]:List Int),B0u ([]:List Int),B0u ([]:List Int)]) 1 R R (.cons (.same _) (.cons .nil (.cons (.same _) .nil))) (.same (.same (.same (.same (.same (.same (.same .nil))))))) ?_
   simp only[List.cons_append,List.nil_append]
   refine C9 (C4 (B2 (B2 (C4 (B2 ?_)))))
   obtain rfl:=sI h
   exact f2 [4,5,6,7] C40 R (.cons (rc tb R) (.cons (.tmp 7) (.cons (.tmp 8) .nil))) R
  intro c4
  replace h:=J7 c4 h
  refine eN (C1 R (D7 (D3 (A6 (J1 (O1 R (A0 R (eN ?_))))))))
  exact⟨m2,⟨[(2,.d (.arr 5 ((a).map D2.d))),(3,.ref 0 7 0 0),(4,.ref 1 6 0 0),(6,.ref 2 6 0 0),(7,.d (.v (.slice none 0 0))),(8,.d (vI rv2)),(26,.d (.arr 5 ((a).map D2.d))),(27,.d (vI (a.length:Int))),(28,.d (vI (W (x2+1))))],[bx 7 (.d (D5.d t)),bx 6 (.d (C3.d o)),bx 6 (.d (.agg [vI 0,.v (.slice none 0 0),.v (.slice none 0 0),.v (.slice none 0 0),vI 0,.v (.bool false)]))]⟩,lS,.vw (κ:=[0,1,2]) (vK (.cons R R (.cons R R (.cons R R .nil))) R),rv2,(W (x2+1)),h,R⟩
 intro c3
 replace h:=P1 (nL c3) h
 refine eN (B8 (C1 R (N5 (E4 (E4 ?_)))))
 subst hK2
 refine I5 (A6 (qG (B5 (y:=D5.d t) tb R (B5 (y:=C3.d o) tb R ?_))))
 obtain⟨rv3,k3,h⟩:=H1 h
 rcases Option.eq_none_or_eq_some rv3 with nv | ⟨t2,nv⟩
 ·replace h:=(B5h nv).symm.trans h
  refine G7 (t' := .d (.v (.pointer none))) (ls:=[]) (news:=[]) ([]) ([bx 7 (.d (D5.d t)),bx 6 (.d (C3.d o)),bx 6 (.d (.agg [vI 0,.v (.slice none 0 0),.v (.slice none 0 0),.v (.slice none 0 0),vI 0,.v (.bool false)]))]) ((A4L k3).none nv) eK R (.inl ⟨R,R,R⟩) R R R R .nil R R R .nil .nil R R R R ?_
  cases h
 replace h:=(B5i nv).symm.trans h
 refine G7 (t' := .ref 3 13 0 0) (ls:=[]) (news:=[⟨13,[C6 t2 1 2 3]⟩,(B7 t2.A9),(B7 t2.A8),(B7 t2.A4)]) ([]) ([bx 7 (.d (D5.d t)),bx 6 (.d (C3.d o)),bx 6 (.d (.agg [vI 0,.v (.slice none 0 0),.v (.slice none 0 0),.v (.slice none 0 0),vI 0,.v (.bool false)])),bx 13 (C6 t2 4 5 6),B0u t2.A9,B0u t2.A8,B0u t2.A4]) ((A4L k3).some nv) eK R (.inl ⟨R,R,R⟩) R R R R .nil R R R .nil ((.cons R (.row (.row (.row .nil))))) R R R R ?_
 refine F1 R R R (C8 tb R (B4i tb R R R R R R R R R (I6 _ _ tb R (eN (B8 (qG (A0 R (I7 tb R (A0 R (eN (E3 ?_)))))))))))
 refine SW.own (ts':=[(3,.ref 0 7 0 0),(6,.ref 2 6 0 0),(7,.row 7 1 0 (([]:List Int)).length),(8,.d (vI x)),(46,.d (.arr 5 ((a).map D2.d))),(47,.d (vI (a.length:Int))),(48,.d (vI 0))]) (L':=[bx 7 (.d (D5.d t)),bx 6 (.d (C3.d o)),bx 6 (J2 (C3.mk t2.N7 t2.A9 t2.A8 t2.A4 t2.I3 t2.I1) 4 5 6),bx 13 (C6 t2 4 5 6),B0u t2.A9,B0u t2.A8,B0u t2.A4]) 1 R R (.cons (.same _) (.cons (.same _) (.cons .nil (.cons (.same _) (.cons (.same _) (.cons (.same _) (.cons (.same _) .nil))))))) (.same (.same (.same (.same (.same (.same (.same .nil))))))) ?_
 simp only[List.cons_append,List.nil_append]
 obtain⟨K4,hK4,h⟩:∃ K,K=_∧C3a F t a K F t2.N7 t2.A9 t2.A8 t2.A4 t2.I3 t2.I1 ([]:List Int) 0=some r:=⟨_,rfl,h⟩
 refine M2 (st0:=⟨[(3,.ref 0 7 0 0),(6,.ref 1 6 0 0),(7,.row 5 1 0 (([]:List Int)).length),(8,.d (vI x)),(46,.d (.arr 5 ((a).map D2.d))),(47,.d (vI (a.length:Int))),(48,.d (vI 0))],[bx 7 (.d (D5.d t)),bx 6 (J2 (C3.mk t2.N7 t2.A9 t2.A8 t2.A4 t2.I3 t2.I1) 2 3 4),B0u t2.A9,B0u t2.A8,B0u t2.A4,B0u ([]:List Int)]⟩) (fun m st=>∃ (y:Int) (y2:(List Int)) (y3:(List Int)) (y4:(List Int)) (y5:Int) (y6:Bool) (lv:(List Int)) (x3:Int),C3a F t a K4 m y y2 y3 y4 y5 y6 lv x3=some r∧st=⟨[(3,.ref 0 7 0 0),(6,.ref 1 6 0 0),(7,.row 5 1 0 (lv).length),(8,.d (vI x)),(46,.d (.arr 5 ((a).map D2.d))),(47,.d (vI (a.length:Int))),(48,.d (vI x3))],[bx 7 (.d (D5.d t)),bx 6 (J2 (C3.mk y y2 y3 y4 y5 y6) 2 3 4),B0u y2,B0u y3,B0u y4,B0u lv]⟩) (.vw (κ:=[0,2,4,5,6,7]) (vK (.cons R R (.cons R R C40)) R)) ⟨t2.N7,t2.A9,t2.A8,t2.A4,t2.I3,t2.I1,([]:List Int),0,h,R⟩ ?_
 clear h
 rintro m4 st ⟨y,y2,y3,y4,y5,y6,lv,x3,h,rfl⟩
 cases m4 with
 | zero=>cases(show(none:Option (C3 × (List Int) × Int))=some r from h)
 | succ m4 =>
 rw[C3a]at h
 refine qG ?_
 refine Q4 R R R R ?_ ?_
 ·intro c5
  replace h:=J7 c5 h
  refine eN (B8 (C0 R (D7 (A6 (B8 ?_)))))
  refine W5 (fun zz:Int × (List Int) × (List Int) × (List Int) × Int × Bool × (List Int)=>C5h F (C3a F t a K4 m4) x3 zz.1 zz.2.1 zz.2.2.1 zz.2.2.2.1 zz.2.2.2.2.1 zz.2.2.2.2.2.1 zz.2.2.2.2.2.2=some r) (fun zz:Int × (List Int) × (List Int) × (List Int) × Int × Bool × (List Int)=>⟨[(3,.ref 0 7 0 0),(6,.ref 1 6 0 0),(7,.row 5 1 0 (zz.2.2.2.2.2.2).length),(8,.d (vI x)),(46,.d (.arr 5 ((a).map D2.d))),(47,.d (vI (a.length:Int))),(48,.d (vI x3))],[bx 7 (.d (D5.d t)),bx 6 (J2 (C3.mk zz.1 zz.2.1 zz.2.2.1 zz.2.2.2.1 zz.2.2.2.2.1 zz.2.2.2.2.2.1) 2 3 4),B0u zz.2.1,B0u zz.2.2.1,B0u zz.2.2.2.1,B0u zz.2.2.2.2.2.2]⟩) ?_ ?_
  ·clear h
   rintro⟨y7,y8,y9,y10,y11,y12,lv2⟩ h
   dsimp only at h ⊢
   rw[C5h]at h
   refine J1 (O1 R (A0 R (eN ?_)))
   exact⟨m4,_,lS,.prn [3,6,7,8,46,47,48] R,y7,y8,y9,y10,y11,y12,lv2,(W (x3+1)),h,R⟩
  refine E3 (qG ?_)
  obtain⟨e2,ie2,h⟩:=H1 h
  refine N8 tb (F0 ie2) (V1 ie2) R (I4 (y:=D2.d e2) tb (U5 (g:=D2.d) ie2) R (M5 tb R R R R R (I6 _ _ tb R (eN (qG (B5 (y:=D5.d t) tb R (B4i tb R R R R R R R R R (B5 (y:=D2.d e2) tb R ?_))))))))
  obtain⟨rv4,k4,h⟩:=H1 h
  refine A3j (t' := .tup [J2 rv4.1 7 8 9,.d (vI rv4.2)]) (news':=[(B7 rv4.1.zones),(B7 rv4.1.holder),(B7 rv4.1.squibs)]) (B1l k4) R ((.row (fun _=>rfl) (.row (fun _=>rfl) (.row (fun _=>rfl) .nil)))) eK R R ((dL (.cons (.aggL (dL (.cons (.row R R) (.cons (.row R R) (.cons (.row R R) (dL (dL .nil))))))) (dL .nil)))) R ((.row (.row (.row .nil)))) R R R ?_
  refine A1D (.tup [J2 rv4.1 7 8 9,.d (vI rv4.2)]) R R R (A1B (t:=J2 rv4.1 7 8 9) R R R R (A1B (t := .d (vI rv4.2)) R R R R (M5 tb R R R R R (I6 _ _ tb R (A3 R (eN (B8 ?_)))))))
  refine W5 (fun zz:Int × (List Int) × (List Int) × (List Int) × Int × Bool=>C4L F (C3a F t a K4 m4) lv x3 rv4 zz.1 zz.2.1 zz.2.2.1 zz.2.2.2.1 zz.2.2.2.2.1 zz.2.2.2.2.2=some r) (fun zz:Int × (List Int) × (List Int) × (List Int) × Int × Bool=>⟨[(3,.ref 0 7 0 0),(6,.ref 1 6 0 0),(7,.row 5 1 0 (lv).length),(8,.d (vI x)),(14,.d (vI rv4.2)),(46,.d (.arr 5 ((a).map D2.d))),(47,.d (vI (a.length:Int))),(48,.d (vI x3))],[bx 7 (.d (D5.d t)),bx 6 (J2 (C3.mk zz.1 zz.2.1 zz.2.2.1 zz.2.2.2.1 zz.2.2.2.2.1 zz.2.2.2.2.2) 2 3 4),B0u zz.2.1,B0u zz.2.2.1,B0u zz.2.2.2.1,B0u lv]⟩) ?_ ?_
  ·clear h
   rintro⟨y7,y8,y9,y10,y11,y12⟩ h
   dsimp only at h ⊢
   rw[C4L]at h
   refine J1 (A0T R R R (A0 R (P7 tb R R R R R R R R R R R R R ?_)))
   obtain⟨q,iq,h⟩:=H1 h
   refine B2k (g:=vI) (w:=lv) (v:=[rv4.2]) ([bx 7 (.d (D5.d t)),bx 6 (J2 (C3.mk y7 y8 y9 y10 y11 y12) 2 3 4),B0u y8,B0u y9,B0u y10,none,B0u [rv4.2]]) tb R R R R R R R R R R R iq R R R R R (A14 R R R (Y9 (D3 (A6 ?_))))
   exact .inl ⟨(y7,y8,y9,y10,y11,y12,q),h,.vw (κ:=[0,1,2,3,4,7]) (vK (.cons R R (.cons R R C40)) R)⟩
  refine qG (A0 R ?_)
  refine Z3 R R R R ?_ ?_
  ·intro c6
   replace h:=J7 c6 h
   refine eN (C0 R (J1 (B4i tb R R R R R R R R R (I6 _ _ tb R (eN ?_)))))
   exact .inl ⟨(rv4.1.now,rv4.1.zones,rv4.1.holder,rv4.1.squibs,rv4.1.siren,rv4.1.storm),h,.vw (κ:=[0,1,7,8,9,5]) (vK (.cons R R (.cons R R C40)) R)⟩
  intro c6
  replace h:=P1 c6 h
  refine eN (C1 R (D7 (A6 ?_)))
  exact .inl ⟨(y,y2,y3,y4,y5,y6),h,.vw (κ:=[0,1,2,3,4,5]) (vK (.cons R R (.cons R R C40)) R)⟩
 intro c5
 replace h:=P1 (nL c5) h
 refine eN (B8 (C1 R (N5 (E4 (E4 ?_)))))
 subst hK4
 refine I5 (A6 (qG (B4i tb R R R R R R R R R (A0T R R R (I6 _ _ tb R (A14 R R R (A3 R (eN (C9 ?_)))))))))
 obtain rfl:=sI h
 exact f2 [2,3,4,5] C40 R (.cons (rc tb R) (.cons (.tmp 7) (.cons (.tmp 8) .nil))) R
theorem C6C {F:Nat} {t:D5} {o:C3} {a:(List D2)} {r:(C3 × (List Int) × Int)} (h:C5d F t o a=some r):PC Tryz.prog 44 [D5.d t,C3.d o,.arr 5 ((a).map D2.d)] (.tup [C3.d r.1,.arr 1 ((r.2.1).map vI),.v (.int .i64 r.2.2)]):=(C57 h).toPC (.tupL (.cons (.aggL (.cons (.d _) (.cons (.row rfl rfl) (.cons (.row rfl rfl) (.cons (.row rfl rfl) (.cons (.d _) (.cons (.d _) .nil))))))) (.cons (.row rfl rfl) (.cons (.d _) .nil))))
def C4b (F:Nat) (a:A8I) (b:A8I):Option Int:=some (W (a.squib-b.squib))
theorem C4o {F:Nat} {a:A8I} {b:A8I} {r:Int} (h:C4b F a b=some r):PC Tryz.prog 76 [A8I.d a,A8I.d b] (.v (.int .i64 r)):=by
 rw[C4b]at h
 refine SC.of_sw Tryz.func76 R R R ?_
 dsimp only[L8,List.map]
 refine qG (M9 R (M9 R (A3 R (eN (qG (C8 tb R (B5 (y:=vI a.squib) tb R (C8 tb R (B5 (y:=vI b.squib) tb R (A1n R R R R (A3 R (eN (C9 ?_)))))))))))))
 obtain rfl:=sI h
 exact f1 4 R
def C2t (F:Nat) (a:Int) (K:(List A8I)→Int→Option (List A8I)):Nat→(List A8I)→Int→Option (List A8I)
 | 0,_,_=>none
 | n+1,data3,j=>if a<j then((P3 data3 j).bind fun e=>(P3 data3 (W (j-1))).bind fun e2=>(C4b F e e2).bind fun rv=>if rv<0 then((A5g data3 j e2).bind fun data4=>(P3 data4 (W (j-1))).bind fun e3=>(A5g data4 (W (j-1)) e).bind fun data5=>C2t F a K n data5 (W (j-1)))else(K data3 j))else(K data3 j)
def C1D (F:Nat) (a:Int) (b:Int) (K:(List A8I)→Int→Option (List A8I)):Nat→(List A8I)→Int→Option (List A8I)
 | 0,_,_=>none
 | n+1,data2,i=>if i<b then(C2t F a (fun(data3:(List A8I)) (j:Int)=>C1D F a b K n data3 (W (i+1))) F data2 i)else(K data2 i)
def C1X (F:Nat) (data:(List A8I)) (a:Int) (b:Int):Option (List A8I):=C1D F a b (fun(data2:(List A8I)) (i:Int)=>some data2) F data (W (a+1))
theorem C2G {F:Nat} {data:(List A8I)} {a:Int} {b:Int} {r:(List A8I)} (h:C1X F data a b=some r):SCR Tryz.prog 193 [.row 0 2 0 (data).length,.d (.v (.int .i64 a)),.d (.v (.int .i64 b)),.d (.v (.func (.func 76) #[] #[]))] [C3Y data] (.d (.tup [])) [C3Y r]:=by
 rw[C1X]at h
 refine SC.of_sw Tryz.func193 R R R ?_
 dsimp only[L8,List.map]
 refine qG (A0 R (O1 R (A3 R (eN (E3 ?_)))))
 obtain⟨K4,hK4,h⟩:∃ K,K=_∧C1D F a b K F data (W (a+1))=some r:=⟨_,rfl,h⟩
 refine M2 (fun m st=>∃ (data2:(List A8I)) (i:Int),C1D F a b K4 m data2 i=some r∧st=⟨[(0,.row 0 2 0 (data2).length),(1,.d (vI a)),(2,.d (vI b)),(3,.d (.v (.func (.func 76) #[] #[]))),(8,.d (vI i))],[C3Y data2]⟩) (.prn [0,1,2,3,8] R) ⟨data,(W (a+1)),h,R⟩ ?_
 clear h
 rintro m4 st ⟨data2,i,h,rfl⟩
 cases m4 with
 | zero=>cases(show(none:Option (List A8I))=some r from h)
 | succ m4 =>
 rw[C1D]at h
 refine B8 (qG (A0 R (A0 R ?_)))
 refine Q4 R R R R ?_ ?_
 ·intro c
  replace h:=J7 c h
  refine eN (C0 R (D7 (A6 (B8 (E3 (qG (A0 R (A3 R (eN (E3 ?_))))))))))
  obtain⟨K5,hK5,h⟩:∃ K,K=_∧C2t F a K F data2 i=some r:=⟨_,rfl,h⟩
  refine M2 (fun m st=>∃ (data3:(List A8I)) (j:Int),C2t F a K5 m data3 j=some r∧st=⟨[(0,.row 0 2 0 (data3).length),(1,.d (vI a)),(2,.d (vI b)),(3,.d (.v (.func (.func 76) #[] #[]))),(8,.d (vI i)),(9,.d (vI j))],[C3Y data3]⟩) (.prn [0,1,2,3,8,9] R) ⟨data2,i,h,R⟩ ?_
  clear h
  rintro m5 st ⟨data3,j,h,rfl⟩
  cases m5 with
  | zero=>cases(show(none:Option (List A8I))=some r from h)
  | succ m5 =>
  rw[C2t]at h
  refine B8 (B8 (T1 kR (A0 R (A0 R ?_))))
  refine A4l R R R R ?_ ?_
  ·intro c2
   replace h:=J7 c2 h
   refine A0 R (A0 R (A0T R R R (A0 R ?_)))
   obtain⟨e,ie,h⟩:=H1 h
   refine Y1 tb R R R R R R (F0 ie) (ix1 ie) R R ?_
   refine A15 (y:=A8I.d e) tb R R R R (U5 (g:=fun a=>T.d (A8I.d a)) ie) R R R R ?_
   refine A0T R R R (A0 R (A1n R R R R ?_))
   obtain⟨e2,ie2,h⟩:=H1 h
   refine Y1 tb R R R R R R (F0 ie2) (ix1 ie2) R R ?_
   refine A15 (y:=A8I.d e2) tb R R R R (U5 (g:=fun a=>T.d (A8I.d a)) ie2) R R R R ?_
   obtain⟨rv,k,h⟩:=H1 h
   refine J5 (C4o k) eK R R R R ?_
   refine Q4 R R R R ?_ ?_
   ·intro c3
    replace h:=J7 c3 h
    refine D6 R (I0 kR (A6 (C0 R (D7 (A6 (B8 (E3 (T1 kR (A0T R R R (A0 R (A0T R R R (A0 R (A1n R R R R (A0T R R R (A0 R (A1n R R R R (Y1 tb R R R R R R (F0 ie2) (ix1 ie2) R R ?_)))))))))))))))))
    refine A15 (y:=A8I.d e2) tb R R R R (U5 (g:=fun a=>T.d (A8I.d a)) ie2) R R R R ?_
    refine A0T R R R (A0 R (Y1 tb R R R R R R (F0 ie) (ix1 ie) R R ?_))
    refine A15 (y:=A8I.d e) tb R R R R (U5 (g:=fun a=>T.d (A8I.d a)) ie) R R R R ?_
    refine Y1 tb R R R R R R (F0 ie) (ix1 ie) R R ?_
    obtain⟨data4,idata4,h⟩:=H1 h
    refine A5d (a':=(e2:A8I)) tb R R R R ie R R R R idata4 R R ?_
    dsimp only[List.set_cons_zero,List.set_cons_succ,J2,C6]
    first | rw[A2a idata4] | skip
    obtain⟨e3,ie3,h⟩:=H1 h
    refine Y1 tb R R R R R R (F0 ie3) (ix1 ie3) R R ?_
    obtain⟨data5,idata5,h⟩:=H1 h
    refine A5d (a':=(e:A8I)) tb R R R R ie3 R R R R idata5 R R ?_
    dsimp only[List.set_cons_zero,List.set_cons_succ,J2,C6]
    first | rw[A2a idata5] | skip
    refine I0 kR (D3 (A6 (J1 (A0 R (A1n R R R R (A3 R (eN ?_)))))))
    exact⟨m5,_,lS,.prn [0,1,2,3,8,9] R,data5,(W (j-1)),h,R⟩
   intro c3
   replace h:=P1 (nL c3) h
   refine D6 R (I0 kR (A6 (C1 R (N5 (E4 (E4 ?_))))))
   subst hK5
   refine I5 (D3 (A6 (J1 (A0 R (O1 R (A3 R (eN ?_)))))))
   exact⟨m4,_,lS,.prn [0,1,2,3,8] R,data3,(W (i+1)),h,R⟩
  intro c2
  replace h:=P1 (nL c2) h
  refine A0 R (L9 12 R (D0 R (I0 kR (A6 (C1 R (N5 (E4 (E4 ?_))))))))
  subst hK5
  refine I5 (D3 (A6 (J1 (A0 R (O1 R (A3 R (eN ?_)))))))
  exact⟨m4,_,lS,.prn [0,1,2,3,8] R,data3,(W (i+1)),h,R⟩
 intro c
 replace h:=P1 (nL c) h
 refine eN (C1 R (N5 (E4 (E4 ?_))))
 subst hK4
 refine I5 ?_
 obtain rfl:=sI h
 exact A1R (U0 (t := .d (.tup [])) (L:=[C3Y data2]) (κ:=[0]) R .nil (vK C23 R) ⟨R,R⟩)
def C29 (F:Nat) (nv:Int) (blockSize:Int) (K:Option (List A8I)):Nat→Option (List A8I)
 | 0=>none
 | n+1=>if(W (2*blockSize))≤nv then(none)else(K )
def C1F (F:Nat) (nv:Int) (K:Int→Option (List A8I)):Nat→Int→Option (List A8I)
 | 0,_=>none
 | n+1,blockSize=>if blockSize<nv then(C29 F nv blockSize (if(W (0+blockSize))<nv then(none)else(C1F F nv K n (W (blockSize*2)))) F )else(K blockSize)
def C2c (F:Nat) (nv:Int) (K:(List A8I)→Int→Int→Option (List A8I)):Nat→(List A8I)→Int→Int→Option (List A8I)
 | 0,_,_,_=>none
 | n+1,data2,a,b=>if b≤nv then((C3u (C1X F data2 a b) data2).bind fun rv=>C2c F nv K n rv b (W (b+20)))else(K data2 a b)
def C2v (F:Nat) (data:(List A8I)) (nv:Int):Option (List A8I):=C2c F nv (fun(data2:(List A8I)) (a:Int) (b:Int)=>(C3u (C1X F data2 a nv) data2).bind fun rv2=>C1F F nv (fun(blockSize:Int)=>some rv2) F 20) F data 0 20
theorem C3j {F:Nat} {data:(List A8I)} {nv:Int} {r:(List A8I)} (h:C2v F data nv=some r):SCR Tryz.prog 149 [.row 0 2 0 (data).length,.d (.v (.int .i64 nv)),.d (.v (.func (.func 76) #[] #[]))] [C3Y data] (.d (.tup [])) [C3Y r]:=by
 rw[C2v]at h
 refine SC.of_sw Tryz.func149 R R R ?_
 dsimp only[L8,List.map]
 refine qG (A3 R (eN (qG (A0 R (A3 R (A3 R (eN (B8 (E3 ?_)))))))))
 obtain⟨K2,hK2,h⟩:∃ K,K=_∧C2c F nv K F data 0 20=some r:=⟨_,rfl,h⟩
 refine M2 (fun m st=>∃ (data2:(List A8I)) (a:Int) (b:Int),C2c F nv K2 m data2 a b=some r∧st=⟨[(0,.row 0 2 0 (data2).length),(1,.d (vI nv)),(2,.d (.v (.func (.func 76) #[] #[]))),(6,.d (vI 20)),(7,.d (vI a)),(8,.d (vI b))],[C3Y data2]⟩) (.prn [0,1,2,6,7,8] R) ⟨data,0,20,h,R⟩ ?_
 clear h
 rintro m2 st ⟨data2,a,b,h,rfl⟩
 cases m2 with
 | zero=>cases(show(none:Option (List A8I))=some r from h)
 | succ m2 =>
 rw[C2c]at h
 refine B8 (qG (A0 R (A0 R ?_)))
 refine B1t R R R R ?_ ?_
 ·intro c
  replace h:=J7 c h
  refine eN (C0 R (D7 (A6 (E3 (qG (A0T R R R (A0 R (A0 R (A0 R ?_)))))))))
  obtain⟨rv,k,h⟩:=H1 h
  refine G7 (t' := .d (.tup [])) (ls:=[C3Y rv]) (news:=[]) ([0]) ([C3Y rv]) (C2G (C2J k).1) eK R (.inl ⟨R,R,R⟩) R R R R C4n R R R ((.row .nil)) .nil R R R R ?_
  first | (dsimp only[J2,C6];rw[← (C2J k).2]) | rw[← (C2J k).2] | skip
  refine eN (qG (A0 R (A3 R (eN (J1 (A0 R (A0 R (O1 R (A3 R (Y9 (D3 (A6 ?_))))))))))))
  exact⟨m2,_,lS,.prn [0,1,2,6,7,8] R,rv,b,(W (b+20)),h,R⟩
 intro c
 replace h:=P1 (Int.not_le.2 c) h
 refine eN (C1 R (N5 (E4 (E4 ?_))))
 subst hK2
 refine I5 (A6 (qG (A0T R R R (A0 R (A0 R (A0 R ?_))))))
 obtain⟨rv2,k2,h⟩:=H1 h
 refine G7 (t' := .d (.tup [])) (ls:=[C3Y rv2]) (news:=[]) ([0]) ([C3Y rv2]) (C2G (C2J k2).1) eK R (.inl ⟨R,R,R⟩) R R R R C4n R R R ((.row .nil)) .nil R R R R ?_
 first | (dsimp only[J2,C6];rw[← (C2J k2).2]) | rw[← (C2J k2).2] | skip
 refine eN (E3 ?_)
 obtain⟨K5,hK5,h⟩:∃ K,K=_∧C1F F nv K F 20=some r:=⟨_,rfl,h⟩
 refine M2 (fun m st=>∃ (blockSize:Int),C1F F nv K5 m blockSize=some r∧st=⟨[(0,.row 0 2 0 (rv2).length),(1,.d (vI nv)),(2,.d (.v (.func (.func 76) #[] #[]))),(6,.d (vI blockSize))],[C3Y rv2]⟩) (.prn [0,1,2,6] R) ⟨20,h,R⟩ ?_
 clear h
 rintro m5 st ⟨blockSize,h,rfl⟩
 cases m5 with
 | zero=>cases(show(none:Option (List A8I))=some r from h)
 | succ m5 =>
 rw[C1F]at h
 refine B8 (qG (A0 R (A0 R ?_)))
 refine Q4 R R R R ?_ ?_
 ·intro c2
  replace h:=J7 c2 h
  refine eN (C0 R (D7 (A6 (E3 (qG (A0 R (A5Q R R R R (A3 R (A3 R (eN (B8 (E3 ?_))))))))))))
  obtain⟨K6,hK6,h⟩:∃ K,K=_∧C29 F nv blockSize K F =some r:=⟨_,rfl,h⟩
  refine M2 (fun m st=>C29 F nv blockSize K6 m =some r∧st=⟨[(0,.row 0 2 0 (rv2).length),(1,.d (vI nv)),(2,.d (.v (.func (.func 76) #[] #[]))),(6,.d (vI blockSize)),(7,.d (vI 0)),(8,.d (vI (W (2*blockSize))))],[C3Y rv2]⟩) (.prn [0,1,2,6,7,8] R) ⟨h,R⟩ ?_
  clear h
  rintro m6 st ⟨h,rfl⟩
  cases m6 with
  | zero=>cases(show(none:Option (List A8I))=some r from h)
  | succ m6 =>
  rw[C29]at h
  refine B8 (qG (A0 R (A0 R ?_)))
  refine B1t R R R R ?_ ?_
  ·intro c3
   replace h:=J7 c3 h
   cases h
  intro c3
  replace h:=P1 (Int.not_le.2 c3) h
  refine eN (C1 R (N5 (E4 (E4 ?_))))
  subst hK6
  refine I5 (A6 (B8 (qG (A0 R (A0 R (O1 R (A3 R (eN (qG (A0 R (A0 R ?_)))))))))))
  refine Q4 R R R R ?_ ?_
  ·intro c4
   replace h:=J7 c4 h
   cases h
  intro c4
  replace h:=P1 (nL c4) h
  refine eN (C1 R (D7 (A6 (J1 (A0 R (A5Q R R R R (A3 R (Y9 (D3 (A6 ?_))))))))))
  exact⟨m5,_,lS,.prn [0,1,2,6] R,(W (blockSize*2)),h,R⟩
 intro c2
 replace h:=P1 (nL c2) h
 refine eN (C1 R (N5 (E4 (E4 ?_))))
 subst hK5
 refine I5 ?_
 obtain rfl:=sI h
 exact A1R (U0 (t := .d (.tup [])) (L:=[C3Y rv2]) (κ:=[0]) R .nil (vK C23 R) ⟨R,R⟩)
def C21 (F:Nat) (x:(List A8I)):Option (List A8I):=(C3u (C2v F x (x.length:Int)) x).bind fun rv=>some rv
theorem C3g {F:Nat} {x:(List A8I)} {r:(List A8I)} (h:C21 F x=some r):SCR Tryz.prog 75 [.row 0 2 0 (x).length,.d (.v (.func (.func 76) #[] #[]))] [C3Y x] (.d (.tup [])) [C3Y r]:=by
 rw[C21]at h
 refine SC.of_sw Tryz.func75 R R R ?_
 dsimp only[L8,List.map]
 refine J1 (A0T R R R (A0T R R R (A8F tb R R R R R (A0 R ?_))))
 obtain⟨rv,k,h⟩:=H1 h
 refine G7 (t' := .d (.tup [])) (ls:=[C3Y rv]) (news:=[]) ([0]) ([C3Y rv]) (C3j (C2J k).1) eK R (.inl ⟨R,R,R⟩) R R R R C4n R R R ((.row .nil)) .nil R R R R ?_
 first | (dsimp only[J2,C6];rw[← (C2J k).2]) | rw[← (C2J k).2] | skip
 refine Y9 ?_
 obtain rfl:=sI h
 exact A1R (U0 (t := .d (.tup [])) (L:=[C3Y rv]) (κ:=[0]) R .nil (vK C23 R) ⟨R,R⟩)
def C2Q (F:Nat) (s:C3) (x:Int) (rv4:(Int × D5)) (e2:F6) (K:Int→(List A8I)→Option ((List A8I) × Int)):Nat→Int→(List A8I)→Option ((List A8I) × Int)
 | 0,_,_=>none
 | n+1,x2,lv2=>if x2<(rv4.2.squibs.length:Int)then((P3 rv4.2.squibs x2).bind fun e3=>if(W ((W ((max (max (W (e2.L5-e3.A4s)) (W (e3.A4s-e2.L4))) 0)*(max (max (W (e2.L5-e3.A4s)) (W (e3.A4s-e2.L4))) 0)))+(W ((max (max (W (e2.L7-e3.A4t)) (W (e3.A4t-e2.L6))) 0)*(max (max (W (e2.L7-e3.A4t)) (W (e3.A4t-e2.L6))) 0)))))<(W (e3.clear*e3.clear))then((P3 s.squibs x2).bind fun e4=>if e4=1 then((A8i lv2 [(A8I.mk x2 x)]).bind fun q=>C2Q F s x rv4 e2 K n (W (x2+1)) q)else(C2Q F s x rv4 e2 K n (W (x2+1)) lv2))else(C2Q F s x rv4 e2 K n (W (x2+1)) lv2))else(K x2 lv2)
def C3d (F:Nat) (p:D5) (s:C3) (K:(List A8I)→Int→Option ((List A8I) × Int)):Nat→(List A8I)→Int→Option ((List A8I) × Int)
 | 0,_,_=>none
 | n+1,lv,x=>if x<(s.zones.length:Int)then((P3 s.zones x).bind fun e=>(A30 F p e).bind fun rv4=>if rv4.1<0 then(C3d F p s K n lv (W (x+1)))else((P3 rv4.2.zones rv4.1).bind fun e2=>C2Q F s x rv4 e2 (fun(x2:Int) (lv2:(List A8I))=>C3d F p s K n lv2 (W (x+1))) F 0 lv))else(K lv x)
def C33 (F:Nat) (p:D5) (s:C3):Option ((List A8I) × Int):=(A43 F p).bind fun rv=>if rv.2.2=0 then((A56 F p s).bind fun rv2=>B2S rv2 (none) (fun t=>(A1o F t).bind fun rv3=>if rv3=true then(C3d F p s (fun(lv:(List A8I)) (x:Int)=>(C3u (C21 F lv) lv).bind fun rv5=>some (rv5,0)) F ([]:List A8I) 0)else(some (([]:List A8I),6))))else(some (([]:List A8I),rv.2.2))
theorem C4h {F:Nat} {p:D5} {s:C3} {r:((List A8I) × Int)} (h:C33 F p s=some r):SCR Tryz.prog 41 (List.map T.d [D5.d p,C3.d s]) [] (.tup [.row 0 2 0 (r.1).length,.d (.v (.int .i64 r.2))]) (List.map some [(B9L r.1)]):=by
 rw[C33]at h
 refine SC.of_swm Tryz.func41 R R R ?_
 dsimp only[L8,List.map]
 refine S3 ?_
 refine W3 fun df=>?_
 refine J1 (M9 R (M9 R (M5 tb R R R R R (A3 R (eN (S3 ?_))))))
 refine W3 fun df=>?_
 refine qG (B5 (y:=D5.d p) tb R ?_)
 obtain⟨rv,k,h⟩:=H1 h
 refine J5 (A7f k) eK R R R R (A0 R (Q1 (t:=vI rv.1) R R R R (Q1 (t:=vI rv.2.1) R R R R (Q1 (t:=vI rv.2.2) R R R R (A3 R (eN (qG (A0 R ?_))))))))
 refine V5 R R R R ?_ ?_
 ·intro c
  replace h:=P1 c h
  refine eN (C0 R (qG (A0 R (I6 _ _ tb R (A3 R (eN ?_))))))
  refine SW.own (ts':=[(4,.ref 2 1 0 0),(5,.d (vI rv.2.2))]) (L':=[bx 7 (.d (D5.d p)),bx 6 (.d (C3.d s)),bx 1 (.row 3 2 0 (([]:List A8I)).length)]) 2 R R (.cons (.same _) (.cons (.same _) .nil)) (.same (.same (.cons R (.cons .nil .nil) .nil))) ?_
  simp only[List.cons_append,List.nil_append]
  refine C9 (B2 ?_)
  obtain rfl:=sI h
  exact f2 [3] C23 R (.cons (rc tb R) (.cons (.tmp 5) .nil)) R
 intro c
 replace h:=J7 c h
 refine eN (C1 R (D7 (A6 (S3 ?_))))
 refine W3 fun df=>?_
 refine qG (B5 (y:=D5.d p) tb R (B5 (y:=C3.d s) tb R ?_))
 obtain⟨rv2,k2,h⟩:=H1 h
 rcases Option.eq_none_or_eq_some rv2 with nv | ⟨t,nv⟩
 ·replace h:=(B5h nv).symm.trans h
  refine G7 (t' := .d (.v (.pointer none))) (ls:=[]) (news:=[]) ([]) ([bx 7 (.d (D5.d p)),bx 6 (.d (C3.d s)),c1 (.v (.slice none 0 0))]) ((A4L k2).none nv) eK R (.inl ⟨R,R,R⟩) R R R R .nil R R R .nil .nil R R R R ?_
  cases h
 replace h:=(B5i nv).symm.trans h
 refine G7 (t' := .ref 3 13 0 0) (ls:=[]) (news:=[⟨13,[C6 t 1 2 3]⟩,(B7 t.A9),(B7 t.A8),(B7 t.A4)]) ([]) ([bx 7 (.d (D5.d p)),bx 6 (.d (C3.d s)),c1 (.v (.slice none 0 0)),bx 13 (C6 t 4 5 6),B0u t.A9,B0u t.A8,B0u t.A4]) ((A4L k2).some nv) eK R (.inl ⟨R,R,R⟩) R R R R .nil R R R .nil ((.cons R (.row (.row (.row .nil))))) R R R R ?_
 obtain⟨rv3,k3,h⟩:=H1 h
 refine A4k (A8l k3) eK R R ((.cons (.ref R (.aggL (dL (dL (dL (dL (dL (dL (dL (dL (.cons (.row R R) (.cons (.row R R) (.cons (.row R R) (dL (dL .nil))))))))))))))) .nil)) R R ?_ ?_
 ·intro c2
  replace h:=J7 c2 h
  refine A0a R R R (eN (C1 R (D7 (A6 (S3 (S3 ?_))))))
  refine W3 fun df=>?_
  refine J1 (C8 tb R (B5 (y := .arr 1 ((s.zones).map vI)) tb R (I7 tb R (A0 R (eN (A5A ?_))))))
  refine SWM.own (ts':=[(2,.ref 0 7 0 0),(3,.ref 1 6 0 0),(4,.ref 2 1 0 0),(5,.d (vI rv.2.2)),(24,.d (.arr 1 ((s.zones).map vI))),(25,.d (vI (s.zones.length:Int))),(26,.d (vI 0))]) (L':=[bx 7 (.d (D5.d p)),bx 6 (.d (C3.d s)),bx 1 (.row 7 2 0 (([]:List A8I)).length),bx 13 (C6 t 4 5 6),B0u t.A9,B0u t.A8,B0u t.A4]) 2 R R (.cons (.same _) (.cons (.same _) (.cons (.same _) (.cons (.same _) (.cons (.same _) (.cons (.same _) (.cons (.same _) .nil))))))) (.same (.same (.cons R (.cons .nil .nil) (.same (.same (.same (.same .nil))))))) ?_
  simp only[List.cons_append,List.nil_append]
  obtain⟨K5,hK5,h⟩:∃ K,K=_∧C3d F p s K F ([]:List A8I) 0=some r:=⟨_,rfl,h⟩
  refine B6S (st0:=⟨[(2,.ref 0 7 0 0),(3,.ref 1 6 0 0),(4,.ref 2 1 0 0),(5,.d (vI rv.2.2)),(24,.d (.arr 1 ((s.zones).map vI))),(25,.d (vI (s.zones.length:Int))),(26,.d (vI 0))],[bx 7 (.d (D5.d p)),bx 6 (.d (C3.d s)),bx 1 (.row 3 2 0 (([]:List A8I)).length),C3Y ([]:List A8I)]⟩) (fun m st=>∃ (lv:(List A8I)) (x:Int),C3d F p s K5 m lv x=some r∧st=⟨[(2,.ref 0 7 0 0),(3,.ref 1 6 0 0),(4,.ref 2 1 0 0),(5,.d (vI rv.2.2)),(24,.d (.arr 1 ((s.zones).map vI))),(25,.d (vI (s.zones.length:Int))),(26,.d (vI x))],[bx 7 (.d (D5.d p)),bx 6 (.d (C3.d s)),bx 1 (.row 3 2 0 (lv).length),C3Y lv]⟩) (.vw (κ:=[0,1,2,7]) (vK (.cons R R (.cons R R (.cons R R C23))) R)) ⟨([]:List A8I),0,h,R⟩ ?_
  clear h
  rintro m5 st ⟨lv,x,h,rfl⟩
  cases m5 with
  | zero=>cases(show(none:Option ((List A8I) × Int))=some r from h)
  | succ m5 =>
  rw[C3d]at h
  refine S3 ?_
  refine W3 fun df=>?_
  refine J1 ?_
  refine Q4 R R R R ?_ ?_
  ·intro c3
   replace h:=J7 c3 h
   refine eN (S3 ?_)
   refine W3 fun df=>?_
   refine C0 R (D7 (A6 (S3 (A5A (S3 ?_)))))
   refine W3 fun df=>?_
   refine J1 (A0 R ?_)
   obtain⟨e,ie,h⟩:=H1 h
   refine N8 tb (F0 ie) (V1 ie) R (I4 (y:=vI e) tb (U5 (g:=vI) ie) R (M5 tb R R R R R (I6 _ _ tb R (A3 R (eN (S3 ?_))))))
   refine W3 fun df=>?_
   refine J1 (B5 (y:=D5.d p) tb R (A0 R ?_))
   obtain⟨rv4,k4,h⟩:=H1 h
   refine A2X (t' := .fn (.func 148) [] [.ref 5 1 0 0,.ref 6 7 0 0]) (news':=[⟨1,[.d (vI rv4.1)]⟩,⟨7,[.d (D5.d rv4.2)]⟩]) (A7k k4) eK R R R ((.cons R (.cons R .nil))) R R R (eN (A5A ?_))
   refine SWM.view (st':=⟨[(2,.ref 0 7 0 0),(3,.ref 1 6 0 0),(4,.ref 2 1 0 0),(5,.d (vI rv.2.2)),(6,.ref 3 1 0 0),(24,.d (.arr 1 ((s.zones).map vI))),(25,.d (vI (s.zones.length:Int))),(26,.d (vI x)),(33,.fn (.func 148) [] [.ref 4 1 0 0,.ref 5 7 0 0])],[bx 7 (.d (D5.d p)),bx 6 (.d (C3.d s)),bx 1 (.row 6 2 0 (lv).length),c1 (vI x),c1 (vI rv4.1),bx 7 (.d (D5.d rv4.2)),C3Y lv]⟩) (κ:=[0,1,2,4,5,6,3]) (vK (.cons R R (.cons R R (.cons R R (.cons R R (.cons R R (.cons R R C23)))))) R) ?_
   refine C4R 6 eK Tryz.func148 R R R R R R R R fun lb=>?_
   simp only[L8,Nat.zero_add,Nat.reduceAdd]
   refine U7 (U7 (A1h (A0u (B5 (y:=vI rv4.1) tb R ?_))))
   refine Q4 R R R R ?_ ?_
   ·intro c4
    replace h:=J7 c4 h
    refine T7 (I8 (A3R R (A9v (A4F ?_))))
    refine⟨R,[bx 7 (.d (D5.d p)),bx 6 (.d (C3.d s)),bx 1 (.row 6 2 0 (lv).length),c1 (vI x),c1 (vI rv4.1),bx 7 (.d (D5.d rv4.2)),C3Y lv],[0,1,2,3,4,5,6],(vK (.cons R R (.cons R R (.cons R R (.cons R R (.cons R R (.cons R R C23)))))) R),?_⟩
    refine D3 (D3 (A6 ?_))
    refine W3 fun df=>?_
    refine J1 (O1 R (A0 R (eN ?_)))
    exact⟨m5,⟨[(2,.ref 0 7 0 0),(3,.ref 1 6 0 0),(4,.ref 2 1 0 0),(5,.d (vI rv.2.2)),(24,.d (.arr 1 ((s.zones).map vI))),(25,.d (vI (s.zones.length:Int))),(26,.d (vI (W (x+1))))],[bx 7 (.d (D5.d p)),bx 6 (.d (C3.d s)),bx 1 (.row 3 2 0 (lv).length),C3Y lv]⟩,lS,.vw (κ:=[0,1,2,6]) (vK (.cons R R (.cons R R (.cons R R C23))) R),lv,(W (x+1)),h,R⟩
   intro c4
   replace h:=P1 (nL c4) h
   refine T7 (I8 (A1K R (A2O (I8 (U7 (A1h (A0u (C8 tb R (B5 (y := .arr 8 ((rv4.2.zones).map F6.d)) tb R (B5 (y:=vI rv4.1) tb R ?_))))))))))
   obtain⟨e2,ie2,h⟩:=H1 h
   refine N8 tb (F0 ie2) (V1 ie2) R (M4 tb R (I4 (y := .agg [vI e2.L5,vI e2.L4,vI e2.L7,vI e2.L6]) tb (U5 (g:=F6.d) ie2) R (M5 tb R R R R R (I6 _ _ tb R (T7 (I8 (U7 (A1h (A0u (C8 tb R (B5 (y := .arr 6 ((rv4.2.squibs).map D1.d)) tb R (I7 tb R (A0 R (T7 (I8 (A59 ?_))))))))))))))))
   obtain⟨K9,hK9,h⟩:∃ K,K=_∧C2Q F s x rv4 e2 K F 0 lv=some r:=⟨_,rfl,h⟩
   refine A9Q (fun m ph st=>∃ (x2:Int) (lv2:(List A8I)),C2Q F s x rv4 e2 K9 m x2 lv2=some r∧ph=SX.norm∧st=⟨[(0,.d (.v (.func (.yield lb) #[] #[]))),(4,.ref 7 4 0 0),(18,.d (.arr 6 ((rv4.2.squibs).map D1.d))),(19,.d (vI (rv4.2.squibs.length:Int))),(20,.d (vI x2))],[bx 7 (.d (D5.d p)),bx 6 (.d (C3.d s)),bx 1 (.row 6 2 0 (lv2).length),c1 (vI x),c1 (vI rv4.1),bx 7 (.d (D5.d rv4.2)),C3Y lv2,bx 4 (.d (.agg [vI e2.L5,vI e2.L4,vI e2.L7,vI e2.L6]))]⟩) (.prn [0,4,18,19,20] R) ⟨0,lv,h,R,R⟩ ?_
   clear h
   rintro m9 ph st ⟨x2,lv2,h,rfl,rfl⟩
   cases m9 with
   | zero=>cases(show(none:Option ((List A8I) × Int))=some r from h)
   | succ m9 =>
   rw[C2Q]at h
   refine U7 (A1h (A0u ?_))
   refine Q4 R R R R ?_ ?_
   ·intro c5
    replace h:=J7 c5 h
    refine T7 (I8 (U7 (A3R R (A2O (I8 (U7 (A59 (U7 (A1h (A0u (A0 R ?_)))))))))))
    obtain⟨e3,ie3,h⟩:=H1 h
    refine N8 tb (F0 ie3) (V1 ie3) R (I4 (y:=D1.d e3) tb (U5 (g:=D1.d) ie3) R (M5 tb R R R R R (A3 R (I6 _ _ tb R (T7 (I8 (U7 (A9R (T1 kR (C8 tb R (C8 tb R (B5 (y:=vI e2.L5) tb R (C8 tb R (C8 tb R (B5 (y:=vI e3.A4s) tb R (A1n R R R R (C8 tb R (C8 tb R (B5 (y:=vI e3.A4s) tb R (C8 tb R (C8 tb R (B5 (y:=vI e2.L4) tb R (A1n R R R R ?_)))))))))))))))))))))))
    refine A9L R R R R R (C8 tb R (C8 tb R (B5 (y:=vI e2.L7) tb R (C8 tb R (C8 tb R (B5 (y:=vI e3.A4t) tb R (A1n R R R R (C8 tb R (C8 tb R (B5 (y:=vI e3.A4t) tb R (C8 tb R (C8 tb R (B5 (y:=vI e2.L6) tb R (A1n R R R R (A9L R R R R R (A3 R (A3 R (I0 kR (I8 (U7 (A1h (A0u (A0 R (A0 R (A5Q R R R R (A0 R (A0 R ?_)))))))))))))))))))))))))))
    refine A5Q R R R R (O1 R (C8 tb R (B5 (y:=vI e3.clear) tb R (C8 tb R (B5 (y:=vI e3.clear) tb R (A5Q R R R R ?_))))))
    refine Q4 R R R R ?_ ?_
    ·intro c6
     replace h:=J7 c6 h
     refine A0 R (A0 R (A0 R (A99 ?_)))
     (with_reducible apply A9M (ys:=[vI x2]));(iterate 7 exact rfl)
     dsimp only[B1H]
     refine J1 (A3 R (Y9 ?_))
     refine⟨R,B8o ?_⟩
     refine E3 (qG (C8 tb R (B5 (y := .arr 1 ((s.squibs).map vI)) tb R (A0 R ?_))))
     obtain⟨e4,ie4,h⟩:=H1 h
     refine N8 tb (F0 ie4) (V1 ie4) R (I4 (y:=vI e4) tb (U5 (g:=vI) ie4) R ?_)
     refine Z3 R R R R ?_ ?_
     ·intro c7
      replace h:=J7 c7 h
      refine eN (C0 R (J1 (W4 tb R R R R R R R R R (A0 R (B5 (y:=vI x) tb R (S1 (v := .d (.agg [vI x2,vI x])) tb R R (List.cons_ne_nil _ _) R R R R R R (P7 tb R R R R R R R R R R R R R ?_)))))))
      obtain⟨q,iq,h⟩:=H1 h
      refine B2k (g:=A8I.d) (w:=lv2) (v:=[(A8I.mk x2 x)]) ([bx 7 (.d (D5.d p)),bx 6 (.d (C3.d s)),bx 1 (.row 6 2 0 (lv2).length),c1 (vI x),c1 (vI rv4.1),bx 7 (.d (D5.d rv4.2)),none,bx 4 (.d (.agg [vI e2.L5,vI e2.L4,vI e2.L7,vI e2.L6])),bx 6 (.d (D1.d e3)),C3Y [(A8I.mk x2 x)]]) tb R R R R R R R R R R R iq R R R R R (I6 _ _ tb R ?_)
      refine Y9 (D3 ?_)
      refine⟨[bx 7 (.d (D5.d p)),bx 6 (.d (C3.d s)),bx 1 (.row 9 2 0 (q).length),c1 (vI x),c1 (vI rv4.1),bx 7 (.d (D5.d rv4.2)),none,bx 4 (.d (.agg [vI e2.L5,vI e2.L4,vI e2.L7,vI e2.L6])),bx 6 (.d (D1.d e3)),C3Y q],[0,1,2,3,4,5,6,7,8,10],(vK (.cons R R (.cons R R (.cons R R (.cons R R (.cons R R (.cons R R (.gone R (.cons R R (.cons R R C23))))))))) R),?_⟩
      with_reducible apply B3t
      refine A0u (A0a R R R (D6 R (T7 (I8 (A1K R (A2O (A3G (I8 (A1h (A0u (O1 R (A0 R (T7 (I8 ?_))))))))))))))
      exact⟨m9,⟨[(0,.d (.v (.func (.yield lb) #[] #[]))),(4,.ref 7 4 0 0),(18,.d (.arr 6 ((rv4.2.squibs).map D1.d))),(19,.d (vI (rv4.2.squibs.length:Int))),(20,.d (vI (W (x2+1))))],[bx 7 (.d (D5.d p)),bx 6 (.d (C3.d s)),bx 1 (.row 6 2 0 (q).length),c1 (vI x),c1 (vI rv4.1),bx 7 (.d (D5.d rv4.2)),C3Y q,bx 4 (.d (.agg [vI e2.L5,vI e2.L4,vI e2.L7,vI e2.L6]))]⟩,lS,.vw (κ:=[0,1,2,3,4,5,9,7]) (vK (.cons R R (.cons R R (.cons R R (.cons R R (.cons R R (.cons R R (.row R (.cons R R .nil)))))))) R),(W (x2+1)),q,h,R,R⟩
     intro c7
     replace h:=P1 c7 h
     refine eN (C1 R (D7 (D3 ?_)))
     refine⟨[bx 7 (.d (D5.d p)),bx 6 (.d (C3.d s)),bx 1 (.row 6 2 0 (lv2).length),c1 (vI x),c1 (vI rv4.1),bx 7 (.d (D5.d rv4.2)),C3Y lv2,bx 4 (.d (.agg [vI e2.L5,vI e2.L4,vI e2.L7,vI e2.L6])),bx 6 (.d (D1.d e3))],[0,1,2,3,4,5,6,7,8],(vK (.cons R R (.cons R R (.cons R R (.cons R R (.cons R R (.cons R R (.row R (.cons R R (.cons R R .nil))))))))) R),?_⟩
     with_reducible apply B3t
     refine A0u (A0a R R R (D6 R (T7 (I8 (A1K R (A2O (A3G (I8 (A1h (A0u (O1 R (A0 R (T7 (I8 ?_))))))))))))))
     exact⟨m9,⟨[(0,.d (.v (.func (.yield lb) #[] #[]))),(4,.ref 7 4 0 0),(18,.d (.arr 6 ((rv4.2.squibs).map D1.d))),(19,.d (vI (rv4.2.squibs.length:Int))),(20,.d (vI (W (x2+1))))],[bx 7 (.d (D5.d p)),bx 6 (.d (C3.d s)),bx 1 (.row 6 2 0 (lv2).length),c1 (vI x),c1 (vI rv4.1),bx 7 (.d (D5.d rv4.2)),C3Y lv2,bx 4 (.d (.agg [vI e2.L5,vI e2.L4,vI e2.L7,vI e2.L6]))]⟩,lS,.vw (κ:=[0,1,2,3,4,5,6,7]) (vK (.cons R R (.cons R R (.cons R R (.cons R R (.cons R R (.cons R R (.row R (.cons R R .nil)))))))) R),(W (x2+1)),lv2,h,R,R⟩
    intro c6
    replace h:=P1 (nL c6) h
    refine A0 R (L9 4 R (D0 R (T7 (I8 (A1K R (A2O (A3G (I8 (A1h (A0u (O1 R (A0 R (T7 (I8 ?_))))))))))))))
    exact⟨m9,⟨[(0,.d (.v (.func (.yield lb) #[] #[]))),(4,.ref 7 4 0 0),(18,.d (.arr 6 ((rv4.2.squibs).map D1.d))),(19,.d (vI (rv4.2.squibs.length:Int))),(20,.d (vI (W (x2+1))))],[bx 7 (.d (D5.d p)),bx 6 (.d (C3.d s)),bx 1 (.row 6 2 0 (lv2).length),c1 (vI x),c1 (vI rv4.1),bx 7 (.d (D5.d rv4.2)),C3Y lv2,bx 4 (.d (.agg [vI e2.L5,vI e2.L4,vI e2.L7,vI e2.L6]))]⟩,lS,.vw (κ:=[0,1,2,3,4,5,6,7]) (vK (.cons R R (.cons R R (.cons R R (.cons R R (.cons R R (.cons R R (.row R (.cons R R .nil)))))))) R),(W (x2+1)),lv2,h,R,R⟩
   intro c5
   replace h:=P1 (nL c5) h
   refine T7 (I8 (U7 (A1K R (B13 (A4E (A4E ?_))))))
   subst hK9
   refine A76 ?_
   refine⟨R,[bx 7 (.d (D5.d p)),bx 6 (.d (C3.d s)),bx 1 (.row 6 2 0 (lv2).length),c1 (vI x),c1 (vI rv4.1),bx 7 (.d (D5.d rv4.2)),C3Y lv2],[0,1,2,3,4,5,6],(vK (.cons R R (.cons R R (.cons R R (.cons R R (.cons R R (.cons R R C23)))))) R),?_⟩
   refine D3 (D3 (A6 ?_))
   refine W3 fun df=>?_
   refine J1 (O1 R (A0 R (eN ?_)))
   exact⟨m5,⟨[(2,.ref 0 7 0 0),(3,.ref 1 6 0 0),(4,.ref 2 1 0 0),(5,.d (vI rv.2.2)),(24,.d (.arr 1 ((s.zones).map vI))),(25,.d (vI (s.zones.length:Int))),(26,.d (vI (W (x+1))))],[bx 7 (.d (D5.d p)),bx 6 (.d (C3.d s)),bx 1 (.row 3 2 0 (lv2).length),C3Y lv2]⟩,lS,.vw (κ:=[0,1,2,6]) (vK (.cons R R (.cons R R (.cons R R C23))) R),lv2,(W (x+1)),h,R⟩
  intro c3
  replace h:=P1 (nL c3) h
  refine eN (S3 ?_)
  refine W3 fun df=>?_
  refine C1 R (N5 (E4 (E4 ?_)))
  subst hK5
  refine I5 (A6 ?_)
  refine W3 fun df=>?_
  refine qG (W4 tb R R R R R R R R R ?_)
  obtain⟨rv5,k5,h⟩:=H1 h
  refine G7 (t' := .d (.tup [])) (ls:=[C3Y rv5]) (news:=[]) ([3]) ([bx 7 (.d (D5.d p)),bx 6 (.d (C3.d s)),bx 1 (.row 3 2 0 (lv).length),C3Y rv5]) (C3g (C2J k5).1) eK R (.inl ⟨R,R,R⟩) R R R R C4n R R R ((.row .nil)) .nil R R R R ?_
  first | (dsimp only[J2,C6];rw[← (C2J k5).2]) | rw[← (C2J k5).2] | skip
  refine eN (qG (W4 tb R R R R R R R R R (I6 _ _ tb R (A3 R (eN (C9 ?_))))))
  obtain rfl:=sI h
  exact f2 [3] C23 R (.cons (rc tb R) (.cons (.tmp 5) .nil)) R
 intro c2
 replace h:=ifF c2 h
 refine Z9 R R R (eN (C0 R (qG (I6 _ _ tb R (A3 R (eN ?_))))))
 refine SW.own (ts':=[(4,.ref 2 1 0 0),(5,.d (vI 6))]) (L':=[bx 7 (.d (D5.d p)),bx 6 (.d (C3.d s)),bx 1 (.row 7 2 0 (([]:List A8I)).length),bx 13 (C6 t 4 5 6),B0u t.A9,B0u t.A8,B0u t.A4]) 2 R R (.cons (.same _) (.cons (.same _) .nil)) (.same (.same (.cons R (.cons .nil .nil) (.same (.same (.same (.same .nil))))))) ?_
 simp only[List.cons_append,List.nil_append]
 refine C9 (B2 ?_)
 obtain rfl:=sI h
 exact f2 [7] C23 R (.cons (rc tb R) (.cons (.tmp 5) .nil)) R
theorem C5q {F:Nat} {p:D5} {s:C3} {r:((List A8I) × Int)} (h:C33 F p s=some r):PC Tryz.prog 41 [D5.d p,C3.d s] (.tup [.arr 2 ((r.1).map A8I.d),.v (.int .i64 r.2)]):=(C4h h).toPC (.tupL (.cons (.row rfl rfl) (.cons (.d _) .nil)))
def A17 (F:Nat) (atv:Int) (kind:Int) (what:Int):Option C7:=some (C7.mk atv kind what 0 0 0 0 0)
theorem Z5 {F:Nat} {atv:Int} {kind:Int} {what:Int} {r:C7} (h:A17 F atv kind what=some r):PC Tryz.prog 27 [.v (.int .i64 atv),.v (.int .i64 kind),.v (.int .i64 what)] (C7.d r):=by
 rw[A17]at h
 refine SC.of_sw Tryz.func27 R R R ?_
 dsimp only[L8,List.map]
 refine qG (M5 tb R R R R R (eN (qG (A0 R (A0 R (A0 R (S1 (v := .d (.agg [vI atv,vI kind,vI what,vI 0,vI 0,vI 0,vI 0,vI 0])) tb R R (List.cons_ne_nil _ _) R R R R R R (I6 _ _ tb R (eN (C9 ?_))))))))))
 obtain rfl:=sI h
 exact U4 (t := .d (.agg [vI atv,vI kind,vI what,vI 0,vI 0,vI 0,vI 0,vI 0])) R R R (.cons (rc tb R) .nil)
def A3e (F:Nat) (a:(List Int)) (b:(List Int)) (K:Int→Option Bool):Nat→Int→Option Bool
 | 0,_=>none
 | n+1,i=>if i<(a.length:Int)then((P3 a i).bind fun e=>(P3 b i).bind fun e2=>if e=e2 then(A3e F a b K n (W (i+1)))else(some false))else(K i)
def A66 (F:Nat) (a:(List Int)) (b:(List Int)):Option Bool:=if(a.length:Int)=(b.length:Int)then(A3e F a b (fun(i:Int)=>some true) F 0)else(some false)
theorem B3N {F:Nat} {a:(List Int)} {b:(List Int)} {r:Bool} (h:A66 F a b=some r):PC Tryz.prog 21 [.arr 1 ((a).map vI),.arr 1 ((b).map vI)] (.v (.bool r)):=by
 rw[A66]at h
 refine SC.of_sw Tryz.func21 R R R ?_
 dsimp only[L8,List.map]
 refine qG (A3 R (eN (B8 (qG (A0 R (I7 tb R (A0 R (I7 tb R ?_))))))))
 refine V5 R R R R ?_ ?_
 ·intro c
  replace h:=P1 c h
  refine eN (C0 R (qG (A3 R (eN (C9 (B2 ?_))))))
  obtain rfl:=sI h
  exact f1 4 R
 intro c
 replace h:=J7 c h
 refine eN (C1 R (D7 (A6 (B8 (qG (A3 R (eN (E3 ?_))))))))
 obtain⟨K3,hK3,h⟩:∃ K,K=_∧A3e F a b K F 0=some r:=⟨_,rfl,h⟩
 refine M2 (fun m st=>∃ (i:Int),A3e F a b K3 m i=some r∧st=⟨[(0,.d (.arr 1 ((a).map vI))),(1,.d (.arr 1 ((b).map vI))),(4,.d (.v (.bool false))),(5,.d (vI i))],[]⟩) (.prn [0,1,4,5] R) ⟨0,h,R⟩ ?_
 clear h
 rintro m3 st ⟨i,h,rfl⟩
 cases m3 with
 | zero=>cases(show(none:Option Bool)=some r from h)
 | succ m3 =>
 rw[A3e]at h
 refine B8 (qG (A0 R (A0 R (I7 tb R ?_))))
 refine Q4 R R R R ?_ ?_
 ·intro c2
  replace h:=J7 c2 h
  refine eN (C0 R (D7 (A6 (B8 (E3 (B8 (T1 kR (A0 R (A0 R ?_)))))))))
  obtain⟨e,ie,h⟩:=H1 h
  refine N8 tb (F0 ie) (V1 ie) R (I4 (y:=vI e) tb (U5 (g:=vI) ie) R (A0 R (A0 R ?_)))
  obtain⟨e2,ie2,h⟩:=H1 h
  refine N8 tb (F0 ie2) (V1 ie2) R (I4 (y:=vI e2) tb (U5 (g:=vI) ie2) R ?_)
  refine V5 R R R R ?_ ?_
  ·intro c3
   replace h:=P1 c3 h
   refine I0 kR (A6 (C0 R (qG (A3 R (eN (C9 (C4 (B2 (B2 (C4 (B2 ?_)))))))))))
   obtain rfl:=sI h
   exact f1 4 R
  intro c3
  replace h:=J7 c3 h
  refine I0 kR (A6 (C1 R (D7 (D3 (A6 (J1 (A0 R (O1 R (A3 R (eN ?_))))))))))
  exact⟨m3,_,lS,.prn [0,1,4,5] R,(W (i+1)),h,R⟩
 intro c2
 replace h:=P1 (nL c2) h
 refine eN (C1 R (N5 (E4 (E4 ?_))))
 subst hK3
 refine I5 (A6 (qG (A3 R (eN (C9 ?_)))))
 obtain rfl:=sI h
 exact f1 4 R
def A9F (F:Nat) :Option D4:=(A9E F ).bind fun rv=>some (D4.mk rv.zones rv.doors rv.people rv.keys rv.squibs rv.panel rv.wait [(ByteArray.mk #[114,97,110,103,101]),(ByteArray.mk #[115,97,102,101,116,121])] [(D9.mk (ByteArray.mk #[109,97,105,110]) 1000 2)] [(E0.mk (ByteArray.mk #[102,105,108,108]) [] 100 200 false [] [] [] []),(E0.mk (ByteArray.mk #[112,111,119,101,114]) [0] 10 500 false [0] [] [] []),(E0.mk (ByteArray.mk #[99,104,101,99,107]) [0] 50 300 false [] [0] [] []),(E0.mk (ByteArray.mk #[112,111,108,108]) [1,2] 0 20 true [] [0] [] []),(E0.mk (ByteArray.mk #[108,97,117,110,99,104]) [3] 5 60 true [] [0] [0] [])] [1,3] 200 400)
theorem A7Y {F:Nat}  {r:D4} (h:A9F F =some r):PC Tryz.prog 39 [] (D4.d r):=by
 rw[A9F]at h
 refine PC.of_lend ?_
 refine SC.of_sw Tryz.func39 R R R ?_
 dsimp only[L8,List.map]
 refine qG (M5 tb R R R R R (eN (qG (P7 tb R R R R R R R R R R R R R (A14 R R R (eN (qG ?_)))))))
 obtain⟨rv,k,h⟩:=H1 h
 refine J5 (B2I k) eK R R R R (P7 tb R R R R R R R R R R R R R (S1 (v := .d (.agg [.v (.string (ByteArray.mk #[109,97,105,110])),vI 1000,vI 2])) tb R R (List.cons_ne_nil _ _) R R R R R R (P7 tb R R R R R R R R R R R R R ?_)))
 refine S1 (v := .d (.agg [.v (.string (ByteArray.mk #[102,105,108,108])),.v (.slice none 0 0),vI 100,vI 200,.v (.bool false),.v (.slice none 0 0),.v (.slice none 0 0),.v (.slice none 0 0),.v (.slice none 0 0)])) tb R R (List.cons_ne_nil _ _) R R R R R R (P7 tb R R R R R R R R R R R R R (A0T R R R ?_))
 refine S1 (v := .agg [.d (.v (.string (ByteArray.mk #[112,111,119,101,114]))),.row 4 1 0 ([0]).length,.d (vI 10),.d (vI 500),.d (.v (.bool false)),.row 1 1 0 ([0]).length,.d (.v (.slice none 0 0)),.d (.v (.slice none 0 0)),.d (.v (.slice none 0 0))]) tb R R (List.cons_ne_nil _ _) R R R R R R (P7 tb R R R R R R R R R R R R R (A0T R R R ?_))
 refine S1 (v := .agg [.d (.v (.string (ByteArray.mk #[99,104,101,99,107]))),.row 5 1 0 ([0]).length,.d (vI 50),.d (vI 300),.d (.v (.bool false)),.d (.v (.slice none 0 0)),.row 1 1 0 ([0]).length,.d (.v (.slice none 0 0)),.d (.v (.slice none 0 0))]) tb R R (List.cons_ne_nil _ _) R R R R R R (P7 tb R R R R R R R R R R R R R (A0T R R R ?_))
 refine S1 (v := .agg [.d (.v (.string (ByteArray.mk #[112,111,108,108]))),.row 6 1 0 ([1,2]).length,.d (vI 0),.d (vI 20),.d (.v (.bool true)),.d (.v (.slice none 0 0)),.row 1 1 0 ([0]).length,.d (.v (.slice none 0 0)),.d (.v (.slice none 0 0))]) tb R R (List.cons_ne_nil _ _) R R R R R R (P7 tb R R R R R R R R R R R R R (A0T R R R (A0T R R R ?_)))
 refine S1 (v := .agg [.d (.v (.string (ByteArray.mk #[108,97,117,110,99,104]))),.row 7 1 0 ([3]).length,.d (vI 5),.d (vI 60),.d (.v (.bool true)),.d (.v (.slice none 0 0)),.row 1 1 0 ([0]).length,.row 1 1 0 ([0]).length,.d (.v (.slice none 0 0))]) tb R R (List.cons_ne_nil _ _) R R R R R R (P7 tb R R R R R R R R R R R R R (P7 tb R R R R R R R R R R R R R ?_))
 refine S1 (v := .d (.agg [vI 200,vI 400])) tb R R (List.cons_ne_nil _ _) R R R R R R ?_
 refine S1 (v := .agg [.d (.arr 8 ((rv.zones).map F6.d)),.d (.arr 2 ((rv.doors).map G6.d)),.d (.arr 2 ((rv.people).map E2.d)),.d (.arr 1 ((rv.keys).map vS)),.d (.arr 6 ((rv.squibs).map D1.d)),.d (vI rv.panel),.d (vI rv.wait),.row 2 1 0 ([(ByteArray.mk #[114,97,110,103,101]),(ByteArray.mk #[115,97,102,101,116,121])]).length,.row 3 3 0 ([(D9.mk (ByteArray.mk #[109,97,105,110]) 1000 2)]).length,.row 8 9 0 5,.row 9 1 0 ([1,3]).length,.d (vI 200),.d (vI 400)]) tb R R (List.cons_ne_nil _ _) kR kR kR kR R R ?_
 refine I6 _ _ tb R (eN (C9 ?_))
 obtain rfl:=sI h
 exact(U0 (t := .agg [.d (.arr 8 ((rv.zones).map F6.d)),.d (.arr 2 ((rv.doors).map G6.d)),.d (.arr 2 ((rv.people).map E2.d)),.d (.arr 1 ((rv.keys).map vS)),.d (.arr 6 ((rv.squibs).map D1.d)),.d (vI rv.panel),.d (vI rv.wait),.row 0 1 0 ([(ByteArray.mk #[114,97,110,103,101]),(ByteArray.mk #[115,97,102,101,116,121])]).length,.row 1 3 0 ([(D9.mk (ByteArray.mk #[109,97,105,110]) 1000 2)]).length,.row 2 9 0 5,.row 8 1 0 ([1,3]).length,.d (vI 200),.d (vI 400)]) (L:=[C4g [(ByteArray.mk #[114,97,110,103,101]),(ByteArray.mk #[115,97,102,101,116,121])],C3x [(D9.mk (ByteArray.mk #[109,97,105,110]) 1000 2)],some ⟨9,[.d (.agg [.v (.string (ByteArray.mk #[102,105,108,108])),.v (.slice none 0 0),vI 100,vI 200,.v (.bool false),.v (.slice none 0 0),.v (.slice none 0 0),.v (.slice none 0 0),.v (.slice none 0 0)]),.agg [.d (.v (.string (ByteArray.mk #[112,111,119,101,114]))),.row 3 1 0 ([0]).length,.d (vI 10),.d (vI 500),.d (.v (.bool false)),.row 4 1 0 ([0]).length,.d (.v (.slice none 0 0)),.d (.v (.slice none 0 0)),.d (.v (.slice none 0 0))],.agg [.d (.v (.string (ByteArray.mk #[99,104,101,99,107]))),.row 5 1 0 ([0]).length,.d (vI 50),.d (vI 300),.d (.v (.bool false)),.d (.v (.slice none 0 0)),.row 4 1 0 ([0]).length,.d (.v (.slice none 0 0)),.d (.v (.slice none 0 0))],.agg [.d (.v (.string (ByteArray.mk #[112,111,108,108]))),.row 6 1 0 ([1,2]).length,.d (vI 0),.d (vI 20),.d (.v (.bool true)),.d (.v (.slice none 0 0)),.row 4 1 0 ([0]).length,.d (.v (.slice none 0 0)),.d (.v (.slice none 0 0))],.agg [.d (.v (.string (ByteArray.mk #[108,97,117,110,99,104]))),.row 7 1 0 ([3]).length,.d (vI 5),.d (vI 60),.d (.v (.bool true)),.d (.v (.slice none 0 0)),.row 4 1 0 ([0]).length,.row 4 1 0 ([0]).length,.d (.v (.slice none 0 0))]]⟩,B0u [0],B0u [0],B0u [0],B0u [1,2],B0u [3],B0u [1,3]]) (κ:=[2,3,8,4,1,5,6,7,9]) R (.cons (rc tb R) .nil) (vK (.row R (.row R (.cons R R C38))) R) ⟨_,R,(.aggL (dL (dL (dL (dL (dL (dL (dL (.cons (.row R R) (.cons (.row R R) (.cons (.rowL R R (.cons (.aggDL (dL (.cons .nilA (dL (dL (dL (.cons .nilA (.cons .nilA (.cons .nilA (.cons .nilA .nil)))))))))) (.cons (.aggL (dL (.cons (.row R R) (dL (dL (dL (.cons (.row R R) (.cons .nilA (.cons .nilA (.cons .nilA .nil)))))))))) (.cons (.aggL (dL (.cons (.row R R) (dL (dL (dL (.cons .nilA (.cons (.row R R) (.cons .nilA (.cons .nilA .nil)))))))))) (.cons (.aggL (dL (.cons (.row R R) (dL (dL (dL (.cons .nilA (.cons (.row R R) (.cons .nilA (.cons .nilA .nil)))))))))) (.cons (.aggL (dL (.cons (.row R R) (dL (dL (dL (.cons .nilA (.cons (.row R R) (.cons (.row R R) (.cons .nilA .nil)))))))))) .nil)))))) (.cons (.row R R) (dL (dL .nil))))))))))))))⟩)
def B1Z (F:Nat) :Option (List C7):=(A17 F 0 1 0).bind fun rv=>(A17 F 90 2 0).bind fun rv2=>(A17 F 100 2 0).bind fun rv3=>(A17 F 100 1 2).bind fun rv4=>(A17 F 100 1 1).bind fun rv5=>(A17 F 110 1 2).bind fun rv6=>(A17 F 120 2 1).bind fun rv7=>(A17 F 170 2 2).bind fun rv8=>(A17 F 180 1 3).bind fun rv9=>(A17 F 180 5 0).bind fun rv10=>(A17 F 181 5 1).bind fun rv11=>(A17 F 185 1 3).bind fun rv12=>(A17 F 190 2 3).bind fun rv13=>(A17 F 190 1 4).bind fun rv14=>(A17 F 199 2 4).bind fun rv15=>(A17 F 200 2 4).bind fun rv16=>some [rv,rv2,rv3,rv4,rv5,rv6,rv7,rv8,rv9,rv10,rv11,rv12,rv13,rv14,rv15,rv16]
theorem B63 {F:Nat}  {r:(List C7)} (h:B1Z F =some r):SCR Tryz.prog 40 (List.map T.d []) [] (.row 0 8 0 (r).length) (List.map some [(B62 r)]):=by
 rw[B1Z]at h
 refine SC.of_sw Tryz.func40 R R R ?_
 dsimp only[L8,List.map]
 refine qG (A3 R (eN (qG ?_)))
 obtain⟨rv,k,h⟩:=H1 h
 refine J5 (Z5 k) eK R R R R ?_
 obtain⟨rv2,k2,h⟩:=H1 h
 refine J5 (Z5 k2) eK R R R R ?_
 obtain⟨rv3,k3,h⟩:=H1 h
 refine J5 (Z5 k3) eK R R R R ?_
 obtain⟨rv4,k4,h⟩:=H1 h
 refine J5 (Z5 k4) eK R R R R ?_
 obtain⟨rv5,k5,h⟩:=H1 h
 refine J5 (Z5 k5) eK R R R R ?_
 obtain⟨rv6,k6,h⟩:=H1 h
 refine J5 (Z5 k6) eK R R R R ?_
 obtain⟨rv7,k7,h⟩:=H1 h
 refine J5 (Z5 k7) eK R R R R ?_
 obtain⟨rv8,k8,h⟩:=H1 h
 refine J5 (Z5 k8) eK R R R R ?_
 obtain⟨rv9,k9,h⟩:=H1 h
 refine J5 (Z5 k9) eK R R R R ?_
 obtain⟨rv10,k10,h⟩:=H1 h
 refine J5 (Z5 k10) eK R R R R ?_
 obtain⟨rv11,k11,h⟩:=H1 h
 refine J5 (Z5 k11) eK R R R R ?_
 obtain⟨rv12,k12,h⟩:=H1 h
 refine J5 (Z5 k12) eK R R R R ?_
 obtain⟨rv13,k13,h⟩:=H1 h
 refine J5 (Z5 k13) eK R R R R ?_
 obtain⟨rv14,k14,h⟩:=H1 h
 refine J5 (Z5 k14) eK R R R R ?_
 obtain⟨rv15,k15,h⟩:=H1 h
 refine J5 (Z5 k15) eK R R R R ?_
 obtain⟨rv16,k16,h⟩:=H1 h
 refine J5 (Z5 k16) eK R R R R (P7 tb R R R R R R R R R R R R R (A14 R R R (eN (C9 ?_))))
 obtain rfl:=sI h
 exact f2 [0] C23 R (.cons (.tmp 0) .nil) R
theorem B0S {F:Nat}  {r:(List C7)} (h:B1Z F =some r):PC Tryz.prog 40 [] (.arr 8 ((r).map C7.d)):=(B63 h).toPC (.row rfl rfl)
def A7X (F:Nat) :Option Bool:=(A9F F ).bind fun rv=>(B1Z F ).bind fun rv2=>(A36 F rv rv2).bind fun rv3=>(A9F F ).bind fun rv4=>(B1Z F ).bind fun rv5=>(A7A rv5 0 5).bind fun q=>(A3Z F rv4 q 120).bind fun rv6=>(A9F F ).bind fun rv7=>(A85 F rv7 []).bind fun rv8=>(A9F F ).bind fun rv9=>(B1Z F ).bind fun rv10=>(A3Z F rv9 rv10 300).bind fun rv11=>if rv3.2.2=0 then(if rv6.2=0 then(if rv8.2=0 then(if rv11.2=9 then(if(rv3.2.1.length:Int)=16 then((P3 rv3.2.1 14).bind fun e=>if e=187 then(if rv3.1.now=200 then(if rv6.1=200 then(some (decide (rv8.1=245)))else(some false))else(some false))else(some false))else(some false))else(some false))else(some false))else(some false))else(some false)
theorem B0R {F:Nat}  {r:Bool} (h:A7X F =some r):PC Tryz.prog 22 [] (.v (.bool r)):=by
 rw[A7X]at h
 refine SC.of_sw Tryz.func22 R R R ?_
 dsimp only[L8,List.map]
 refine qG (A3 R (eN (qG ?_)))
 obtain⟨rv,k,h⟩:=H1 h
 refine J5 (A7Y k) eK R R R R ?_
 obtain⟨rv2,k2,h⟩:=H1 h
 refine J5 (B0S k2) eK R R R R ?_
 obtain⟨rv3,k3,h⟩:=H1 h
 refine J5 (A6l k3) eK R R R R (A0 R (Q1 (t:=H2.d rv3.1) R R R R (Q1 (t := .arr 1 ((rv3.2.1).map vI)) R R R R (Q1 (t:=vI rv3.2.2) R R R R (M5 tb R R R R R (I6 _ _ tb R (A3 R (A3 R (eN (qG ?_))))))))))
 obtain⟨rv4,k4,h⟩:=H1 h
 refine J5 (A7Y k4) eK R R R R ?_
 obtain⟨rv5,k5,h⟩:=H1 h
 refine J5 (B0S k5) eK R R R R ?_
 obtain⟨q,iq,h⟩:=H1 h
 refine A6E tb R R R R R R iq R R ?_
 obtain⟨rv6,k6,h⟩:=H1 h
 refine J5 (A6d k6) eK R R R R (A0 R (Q1 (t:=vI rv6.1) R R R R (Q1 (t:=vI rv6.2) R R R R (A3 R (A3 R (eN (qG ?_)))))))
 obtain⟨rv7,k7,h⟩:=H1 h
 refine J5 (A7Y k7) eK R R R R ?_
 obtain⟨rv8,k8,h⟩:=H1 h
 refine A19 (B1B k8) R eK R R ((dL (.cons .nilA .nil))) R R (A0 R (Q1 (t:=vI rv8.1) R R R R (Q1 (t:=vI rv8.2) R R R R (A3 R (A3 R (eN (qG ?_)))))))
 obtain⟨rv9,k9,h⟩:=H1 h
 refine J5 (A7Y k9) eK R R R R ?_
 obtain⟨rv10,k10,h⟩:=H1 h
 refine J5 (B0S k10) eK R R R R ?_
 obtain⟨rv11,k11,h⟩:=H1 h
 refine J5 (A6d k11) eK R R R R (A0 R (Q1 (t:=vI rv11.1) R R R R (Q1 (t:=vI rv11.2) R R R R (A3 R (A3 R (eN (qG (A0 R ?_))))))))
 refine Z3 R R R R ?_ ?_
 ·intro c
  replace h:=J7 c h
  refine A0 R (A0 R ?_)
  refine Z3 R R R R ?_ ?_
  ·intro c2
   replace h:=J7 c2 h
   refine D6 R (A0 R (A0 R ?_))
   refine Z3 R R R R ?_ ?_
   ·intro c3
    replace h:=J7 c3 h
    refine D6 R (A0 R (A0 R ?_))
    refine Z3 R R R R ?_ ?_
    ·intro c4
     replace h:=J7 c4 h
     refine D6 R (A0 R (A0 R (I7 tb R ?_)))
     refine Z3 R R R R ?_ ?_
     ·intro c5
      replace h:=J7 c5 h
      refine D6 R (A0 R (A0 R ?_))
      obtain⟨e,ie,h⟩:=H1 h
      refine N8 tb (F0 ie) (V1 ie) R (I4 (y:=vI e) tb (U5 (g:=vI) ie) R ?_)
      refine Z3 R R R R ?_ ?_
      ·intro c6
       replace h:=J7 c6 h
       refine D6 R (A0 R (C8 tb R (B5 (y:=vI rv3.1.now) tb R ?_)))
       refine Z3 R R R R ?_ ?_
       ·intro c7
        replace h:=J7 c7 h
        refine D6 R (A0 R (A0 R ?_))
        refine Z3 R R R R ?_ ?_
        ·intro c8
         replace h:=J7 c8 h
         refine D6 R (A0 R (A0 R (A3s R R R R (D6 R (A3 R (eN (C9 ?_)))))))
         obtain rfl:=sI h
         exact f1 0 R
        intro c8
        replace h:=P1 c8 h
        refine D6 R (A0 R (L9 2 R (D0 R (A3 R (eN (C9 ?_))))))
        obtain rfl:=sI h
        exact f1 0 R
       intro c7
       replace h:=P1 c7 h
       refine D6 R (A0 R (L9 2 R (D0 R (A0 R (L9 2 R (D0 R (A3 R (eN (C9 ?_)))))))))
       obtain rfl:=sI h
       exact f1 0 R
      intro c6
      replace h:=P1 c6 h
      refine D6 R (A0 R (L9 3 R (D0 R (A0 R (L9 2 R (D0 R (A0 R (L9 2 R (D0 R (A3 R (eN (C9 ?_))))))))))))
      obtain rfl:=sI h
      exact f1 0 R
     intro c5
     replace h:=P1 c5 h
     refine D6 R (A0 R (L9 4 R (D0 R (A0 R (L9 3 R (D0 R (A0 R (L9 2 R (D0 R (A0 R (L9 2 R (D0 R (A3 R (eN (C9 ?_)))))))))))))))
     obtain rfl:=sI h
     exact f1 0 R
    intro c4
    replace h:=P1 c4 h
    refine D6 R (A0 R (L9 3 R (D0 R (A0 R (L9 4 R (D0 R (A0 R (L9 3 R (D0 R (A0 R (L9 2 R (D0 R (A0 R (L9 2 R (D0 R (A3 R (eN (C9 ?_))))))))))))))))))
    obtain rfl:=sI h
    exact f1 0 R
   intro c3
   replace h:=P1 c3 h
   refine D6 R (A0 R (L9 2 R (D0 R (A0 R (L9 3 R (D0 R (A0 R (L9 4 R (D0 R (A0 R (L9 3 R (D0 R (A0 R (L9 2 R (D0 R (A0 R (L9 2 R (D0 R (A3 R (eN (C9 ?_)))))))))))))))))))))
   obtain rfl:=sI h
   exact f1 0 R
  intro c2
  replace h:=P1 c2 h
  refine D6 R (A0 R (L9 2 R (D0 R (A0 R (L9 2 R (D0 R (A0 R (L9 3 R (D0 R (A0 R (L9 4 R (D0 R (A0 R (L9 3 R (D0 R (A0 R (L9 2 R (D0 R (A0 R (L9 2 R (D0 R (A3 R (eN (C9 ?_))))))))))))))))))))))))
  obtain rfl:=sI h
  exact f1 0 R
 intro c
 replace h:=P1 c h
 refine A0 R (L9 2 R (D0 R (A0 R (L9 2 R (D0 R (A0 R (L9 2 R (D0 R (A0 R (L9 3 R (D0 R (A0 R (L9 4 R (D0 R (A0 R (L9 3 R (D0 R (A0 R (L9 2 R (D0 R (A0 R (L9 2 R (D0 R (A3 R (eN (C9 ?_))))))))))))))))))))))))))
 obtain rfl:=sI h
 exact f1 0 R
def C3U (F:Nat) (t:D4) (rv7:(H2 × (List Int) × Int)) (rv8:(C3 × (List Int) × Int)):Option Bool:=(A66 F rv7.2.1 rv8.2.1).bind fun rv11=>if rv11=true then((C33 F (D5.mk t.N4 t.P5 t.N6 t.S5 t.J3 t.Q7 t.T9) (C3.mk rv7.1.A9j rv7.1.N4 rv7.1.A5M rv7.1.J3 rv7.1.A68 rv7.1.A69)).bind fun rv12=>(C33 F (D5.mk t.N4 t.P5 t.N6 t.S5 t.J3 t.Q7 t.T9) rv8.1).bind fun rv13=>if rv12.2=rv13.2 then(if(rv12.1.length:Int)=(rv13.1.length:Int)then(if rv7.1.A9j=rv8.1.now then((A7X 100 ).bind fun rv14=>some rv14)else(some false))else(some false))else(some false))else(some false)
def C3s (F:Nat) (o:(List D2)) (K:(List C7)→Int→Int→Option Bool):Nat→(List C7)→Int→Int→Option Bool
 | 0,_,_,_=>none
 | n+1,lv,x,x2=>if x2<(o.length:Int)then((P3 o x2).bind fun e=>if e.at_<x then((A7X 100 ).bind fun rv6=>some rv6)else((A8i lv [(C7.mk e.at_ 8 0 e.at_ e.kind e.who e.what e.with_)]).bind fun q=>C3s F o K n q e.at_ (W (x2+1))))else(K lv x x2)
def C4p (F:Nat) (t:D4) (o:(List D2)) (rv:(C3 × Int)):Option Bool:=C3s F o (fun(lv:(List C7)) (x:Int) (x2:Int)=>(A36 F t lv).bind fun rv7=>(C5d F (D5.mk t.N4 t.P5 t.N6 t.S5 t.J3 t.Q7 t.T9) rv.1 o).bind fun rv8=>if rv7.2.2=0 then(if rv8.2.2=0 then(C3U F t rv7 rv8)else(if rv7.2.2=rv8.2.2 then((A7X 100 ).bind fun rv10=>some rv10)else(some false)))else(if rv7.2.2=rv8.2.2 then((A7X 100 ).bind fun rv9=>some rv9)else(some false))) F ([]:List C7) 0 0
def C4x (F:Nat) (t:D4) (o:(List D2)):Option Bool:=(A44 F (D5.mk t.N4 t.P5 t.N6 t.S5 t.J3 t.Q7 t.T9)).bind fun rv=>(A4P F t).bind fun rv2=>if rv2.2.2=0 then(if rv.2=0 then(if 60<(o.length:Int)then((A7X 100 ).bind fun rv5=>some rv5)else(C4p F t o rv))else((A7X 100 ).bind fun rv4=>some rv4))else((A7X 100 ).bind fun rv3=>some rv3)
theorem C5C {F:Nat} {t:D4} {o:(List D2)} {r:Bool} (h:C4x F t o=some r):PC Tryz.prog 17 [D4.d t,.arr 5 ((o).map D2.d)] (.v (.bool r)):=by
 rw[C4x]at h
 refine SC.of_sw Tryz.func17 R R R ?_
 dsimp only[L8,List.map]
 refine qG (M9 R (A3 R (eN (qG (C8 tb R (B5 (y := .agg [.arr 8 ((t.N4).map F6.d),.arr 2 ((t.P5).map G6.d),.arr 2 ((t.N6).map E2.d),.arr 1 ((t.S5).map vS),.arr 6 ((t.J3).map D1.d),vI t.Q7,vI t.T9]) tb R ?_))))))
 obtain⟨rv,k,h⟩:=H1 h
 refine A2X (t' := .tup [J2 rv.1 1 2 3,.d (vI rv.2)]) (news':=[(B7 rv.1.zones),(B7 rv.1.holder),(B7 rv.1.squibs)]) (A8z k) eK R R R ((.row (.row (.row .nil)))) R R R (A1D (.tup [J2 rv.1 1 2 3,.d (vI rv.2)]) R R R (A1B (t:=J2 rv.1 1 2 3) R R R R (A1B (t := .d (vI rv.2)) R R R R (M5 tb R R R R R (I6 _ _ tb R (A3 R (eN (qG (B5 (y:=D4.d t) tb R ?_)))))))))
 obtain⟨rv2,k2,h⟩:=H1 h
 refine J5 (B0K k2) eK R R R R (A0 R (Q1 (t:=vI rv2.1) R R R R (Q1 (t:=vI rv2.2.1) R R R R (Q1 (t:=vI rv2.2.2) R R R R (A3 R (A3 R (A3 R (eN (B8 ?_)))))))))
 refine W5 (fun zz:Unit=>C4p F t o rv=some r) (fun zz:Unit=>⟨[(1,.d (.arr 5 ((o).map D2.d))),(2,.ref 0 13 0 0),(4,.d (.v (.bool false))),(5,.ref 4 6 0 0)],[bx 13 (.d (D4.d t)),B0u rv.1.zones,B0u rv.1.holder,B0u rv.1.squibs,bx 6 (J2 rv.1 1 2 3)]⟩) ?_ ?_
 ·clear h
  rintro⟨⟩ h
  rw[C4p]at h
  refine qG (A3 R (eN (qG (A3 R (eN (B8 (qG (A3 R (eN (E3 ?_))))))))))
  refine SW.own (ts':=[(1,.d (.arr 5 ((o).map D2.d))),(2,.ref 0 13 0 0),(4,.d (.v (.bool false))),(5,.ref 4 6 0 0),(10,.row 5 8 0 (([]:List C7)).length),(11,.d (vI 0)),(12,.d (vI 0))]) (L':=[bx 13 (.d (D4.d t)),B0u rv.1.zones,B0u rv.1.holder,B0u rv.1.squibs,bx 6 (J2 rv.1 1 2 3)]) 8 R R (.cons (.same _) (.cons (.same _) (.cons (.same _) (.cons (.same _) (.cons .nil (.cons (.same _) (.cons (.same _) .nil))))))) (.same (.same (.same (.same (.same .nil))))) ?_
  simp only[List.cons_append,List.nil_append]
  obtain⟨K4,hK4,h⟩:∃ K,K=_∧C3s F o K F ([]:List C7) 0 0=some r:=⟨_,rfl,h⟩
  refine M2 (st0:=⟨[(1,.d (.arr 5 ((o).map D2.d))),(2,.ref 0 13 0 0),(4,.d (.v (.bool false))),(5,.ref 1 6 0 0),(10,.row 5 8 0 (([]:List C7)).length),(11,.d (vI 0)),(12,.d (vI 0))],[bx 13 (.d (D4.d t)),bx 6 (J2 rv.1 2 3 4),B0u rv.1.zones,B0u rv.1.holder,B0u rv.1.squibs,C3n ([]:List C7)]⟩) (fun m st=>∃ (lv:(List C7)) (x:Int) (x2:Int),C3s F o K4 m lv x x2=some r∧st=⟨[(1,.d (.arr 5 ((o).map D2.d))),(2,.ref 0 13 0 0),(4,.d (.v (.bool false))),(5,.ref 1 6 0 0),(10,.row 5 8 0 (lv).length),(11,.d (vI x)),(12,.d (vI x2))],[bx 13 (.d (D4.d t)),bx 6 (J2 rv.1 2 3 4),B0u rv.1.zones,B0u rv.1.holder,B0u rv.1.squibs,C3n lv]⟩) (.vw (κ:=[0,4,1,2,3,5]) (vK (.cons R R (.cons R R C40)) R)) ⟨([]:List C7),0,0,h,R⟩ ?_
  clear h
  rintro m4 st ⟨lv,x,x2,h,rfl⟩
  cases m4 with
  | zero=>cases(show(none:Option Bool)=some r from h)
  | succ m4 =>
  rw[C3s]at h
  refine B8 (qG (A0 R (A0 R (I7 tb R ?_))))
  refine Q4 R R R R ?_ ?_
  ·intro c4
   replace h:=J7 c4 h
   refine eN (C0 R (D7 (A6 (B8 (E3 (B8 (qG (A0 R (A0 R ?_)))))))))
   obtain⟨e,ie,h⟩:=H1 h
   refine N8 tb (F0 ie) (V1 ie) R (M4 tb R (I4 (y:=vI e.at_) tb (U5 (g:=D2.d) ie) R (A0 R ?_)))
   refine Q4 R R R R ?_ ?_
   ·intro c5
    replace h:=J7 c5 h
    refine eN (C0 R (qG ?_))
    obtain⟨rv6,k6,h⟩:=H1 h
    refine J5 (B0R k6) eK R R R R (A3 R (eN (C9 (B2 (C4 (B2 (B2 (C4 (B2 ?_)))))))))
    obtain rfl:=sI h
    exact f1 4 R
   intro c5
   replace h:=P1 (nL c5) h
   refine eN (C1 R (D7 (A6 (qG (A0 R (A0 R (N8 tb (F0 ie) (V1 ie) R (M4 tb R (I4 (y:=vI e.at_) tb (U5 (g:=D2.d) ie) R (A3 R (eN (T1 kR (A0T R R R (A0 R (A0 R (N8 tb (F0 ie) (V1 ie) R (M4 tb R (I4 (y:=vI e.at_) tb (U5 (g:=D2.d) ie) R (A0 R (A0 R (N8 tb (F0 ie) (V1 ie) R (I4 (y:=D2.d e) tb (U5 (g:=D2.d) ie) R ?_))))))))))))))))))))))
   refine S1 (v := .d (.agg [vI e.at_,vI 8,vI 0,vI e.at_,vI e.kind,vI e.who,vI e.what,vI e.with_])) tb R R (List.cons_ne_nil _ _) R R R R R R (P7 tb R R R R R R R R R R R R R ?_)
   obtain⟨q,iq,h⟩:=H1 h
   refine B2k (g:=C7.d) (w:=lv) (v:=[(C7.mk e.at_ 8 0 e.at_ e.kind e.who e.what e.with_)]) ([bx 13 (.d (D4.d t)),bx 6 (J2 rv.1 2 3 4),B0u rv.1.zones,B0u rv.1.holder,B0u rv.1.squibs,none,C3n [(C7.mk e.at_ 8 0 e.at_ e.kind e.who e.what e.with_)]]) tb R R R R R R R R R R R iq R R R R R (A14 R R R (I0 kR (D3 (A6 (J1 (A0 R (O1 R (A3 R (eN ?_)))))))))
   exact⟨m4,⟨[(1,.d (.arr 5 ((o).map D2.d))),(2,.ref 0 13 0 0),(4,.d (.v (.bool false))),(5,.ref 1 6 0 0),(10,.row 5 8 0 (q).length),(11,.d (vI e.at_)),(12,.d (vI (W (x2+1))))],[bx 13 (.d (D4.d t)),bx 6 (J2 rv.1 2 3 4),B0u rv.1.zones,B0u rv.1.holder,B0u rv.1.squibs,C3n q]⟩,lS,.vw (κ:=[0,1,2,3,4,7]) (vK (.cons R R (.cons R R C40)) R),q,e.at_,(W (x2+1)),h,R⟩
  intro c4
  replace h:=P1 (nL c4) h
  refine eN (C1 R (N5 (E4 (E4 ?_))))
  subst hK4
  refine I5 (A6 (B8 ?_))
  refine SW.fz (ts':=[(1,.d (.arr 5 ((o).map D2.d))),(2,.ref 0 13 0 0),(4,.d (.v (.bool false))),(5,.ref 1 6 0 0),(10,.d (.arr 8 ((lv).map C7.d))),(11,.d (vI x)),(12,.d (vI x2)),(43,.d (vI x2)),(44,.d (.arr 5 ((o).map D2.d))),(45,.d (vI (o.length:Int))),(46,.d (.v (.bool false)))]) (L':=[bx 13 (.d (D4.d t)),bx 6 (J2 rv.1 2 3 4),B0u rv.1.zones,B0u rv.1.holder,B0u rv.1.squibs,none]) (w:=lv) (f:=C7.d) 5 8 R (.cons (.same _) (.cons (.same _) (.cons (.same _) (.cons (.same _) (.cons (.all (List.length_map _)) (.cons (.same _) (.cons (.same _) (.cons (.same _) (.cons (.same _) (.cons (.same _) (.cons (.same _) .nil))))))))))) (.same (.same (.same (.same (.same (.same .nil)))))) ?_
  refine J1 (B5 (y:=D4.d t) tb R (A0 R ?_))
  obtain⟨rv7,k7,h⟩:=H1 h
  refine J5 (A6l k7) eK R R R R (A0 R (Q1 (t:=H2.d rv7.1) R R R R (Q1 (t := .arr 1 ((rv7.2.1).map vI)) R R R R (Q1 (t:=vI rv7.2.2) R R R R (M5 tb R R R R R (I6 _ _ tb R (A3 R (A3 R (eN (qG (C8 tb R ?_)))))))))))
  refine B5 (y := .agg [.arr 8 ((t.N4).map F6.d),.arr 2 ((t.P5).map G6.d),.arr 2 ((t.N6).map E2.d),.arr 1 ((t.S5).map vS),.arr 6 ((t.J3).map D1.d),vI t.Q7,vI t.T9]) tb R (B4i tb R R R R R R R R R (A0 R ?_))
  obtain⟨rv8,k8,h⟩:=H1 h
  refine A3j (t' := .tup [J2 rv8.1 7 8 9,.row 10 1 0 (rv8.2.1).length,.d (vI rv8.2.2)]) (news':=[(B7 rv8.1.zones),(B7 rv8.1.holder),(B7 rv8.1.squibs),(B7 rv8.2.1)]) (C57 k8) R ((.row (fun _=>rfl) (.row (fun _=>rfl) (.row (fun _=>rfl) (.row (fun _=>rfl) .nil))))) eK R R ((dL (.cons (.aggL (dL (.cons (.row R R) (.cons (.row R R) (.cons (.row R R) (dL (dL .nil))))))) (dL .nil)))) R ((.row (.row (.row (.row .nil))))) R R R ?_
  refine A1D (.tup [J2 rv8.1 7 8 9,.row 10 1 0 (rv8.2.1).length,.d (vI rv8.2.2)]) R R R (A1B (t:=J2 rv8.1 7 8 9) R R R R (A1B (t := .row 10 1 0 (rv8.2.1).length) R R R R (A1B (t := .d (vI rv8.2.2)) R R R R (M5 tb R R R R R (I6 _ _ tb R (A14 R R R (A3 R (eN (B8 ?_)))))))))
  refine W5 (fun zz:Unit=>C3U F t rv7 rv8=some r) (fun zz:Unit=>⟨[(2,.ref 0 13 0 0),(4,.d (.v (.bool false))),(13,.ref 1 13 0 0),(14,.d (.arr 1 ((rv7.2.1).map vI))),(15,.ref 2 6 0 0),(16,.row 6 1 0 (rv8.2.1).length)],[bx 13 (.d (D4.d t)),bx 13 (.d (H2.d rv7.1)),bx 6 (J2 rv8.1 3 4 5),B0u rv8.1.zones,B0u rv8.1.holder,B0u rv8.1.squibs,B0u rv8.2.1]⟩) ?_ ?_
  ·clear h
   rintro⟨⟩ h
   rw[C3U]at h
   refine B8 (qG (A0 R (A0T R R R ?_)))
   obtain⟨rv11,k11,h⟩:=H1 h
   refine A4k (B3N k11) eK R R ((dL (.cons (.row R R) .nil))) R R ?_ ?_
   ·intro c10
    replace h:=J7 c10 h
    refine A0a R R R (eN (C1 R (D7 (A6 (qG (C8 tb R (B5 (y := .agg [.arr 8 ((t.N4).map F6.d),.arr 2 ((t.P5).map G6.d),.arr 2 ((t.N6).map E2.d),.arr 1 ((t.S5).map vS),.arr 6 ((t.J3).map D1.d),vI t.Q7,vI t.T9]) tb R (C8 tb R ?_))))))))
    refine B5 (y := .agg [vI rv7.1.A9j,.arr 1 ((rv7.1.N4).map vI),.arr 1 ((rv7.1.A5M).map vI),.arr 1 ((rv7.1.J3).map vI),vI rv7.1.A68,.v (.bool rv7.1.A69)]) tb R ?_
    obtain⟨rv12,k12,h⟩:=H1 h
    refine A2X (t' := .tup [.row 7 2 0 (rv12.1).length,.d (vI rv12.2)]) (news':=[(B9L rv12.1)]) (C4h k12) eK R R R ((.row .nil)) R R R (A1D (.tup [.row 7 2 0 (rv12.1).length,.d (vI rv12.2)]) R R R (A1B (t := .row 7 2 0 (rv12.1).length) R R R R (A1B (t := .d (vI rv12.2)) R R R R (A14 R R R (A3 R (eN (qG (C8 tb R ?_))))))))
    refine B5 (y := .agg [.arr 8 ((t.N4).map F6.d),.arr 2 ((t.P5).map G6.d),.arr 2 ((t.N6).map E2.d),.arr 1 ((t.S5).map vS),.arr 6 ((t.J3).map D1.d),vI t.Q7,vI t.T9]) tb R (B4i tb R R R R R R R R R ?_)
    obtain⟨rv13,k13,h⟩:=H1 h
    refine A3j (t' := .tup [.row 8 2 0 (rv13.1).length,.d (vI rv13.2)]) (news':=[(B9L rv13.1)]) (C4h k13) R ((.row (fun _=>rfl) .nil)) eK R R ((dL (.cons (.aggL (dL (.cons (.row R R) (.cons (.row R R) (.cons (.row R R) (dL (dL .nil))))))) .nil))) R ((.row .nil)) R R R ?_
    refine A1D (.tup [.row 8 2 0 (rv13.1).length,.d (vI rv13.2)]) R R R (A1B (t := .row 8 2 0 (rv13.1).length) R R R R (A1B (t := .d (vI rv13.2)) R R R R (A14 R R R (A3 R (eN (qG (A0 R (A0 R ?_))))))))
    refine Z3 R R R R ?_ ?_
    ·intro c11
     replace h:=J7 c11 h
     refine A0 R (A0T R R R (A8F tb R R R R R (A0T R R R (A8F tb R R R R R ?_))))
     refine Z3 R R R R ?_ ?_
     ·intro c12
      replace h:=J7 c12 h
      refine D6 R (A0 R (C8 tb R (C8 tb R (B5 (y:=vI rv7.1.A9j) tb R (C8 tb R (B5 (y:=vI rv8.1.now) tb R ?_))))))
      refine Z3 R R R R ?_ ?_
      ·intro c13
       replace h:=J7 c13 h
       refine D6 R (A0 R ?_)
       obtain⟨rv14,k14,h⟩:=H1 h
       refine J5 (B0R k14) eK R R R R (D6 R (A3 R (eN (C9 ?_))))
       obtain rfl:=sI h
       exact f1 4 R
      intro c13
      replace h:=P1 c13 h
      refine D6 R (A0 R (B3b R (D0 R (A3 R (eN (C9 ?_))))))
      obtain rfl:=sI h
      exact f1 4 R
     intro c12
     replace h:=P1 c12 h
     refine D6 R (A0 R (L9 6 R (D0 R (A0 R (B3b R (D0 R (A3 R (eN (C9 ?_)))))))))
     obtain rfl:=sI h
     exact f1 4 R
    intro c11
    replace h:=P1 c11 h
    refine A0 R (L9 5 R (D0 R (A0 R (L9 6 R (D0 R (A0 R (B3b R (D0 R (A3 R (eN (C9 ?_)))))))))))
    obtain rfl:=sI h
    exact f1 4 R
   intro c10
   replace h:=ifF c10 h
   refine Z9 R R R (eN (C0 R (qG (A3 R (eN (C9 (B2 ?_)))))))
   obtain rfl:=sI h
   exact f1 4 R
  refine qG (A0 R ?_)
  refine V5 R R R R ?_ ?_
  ·intro c6
   replace h:=P1 c6 h
   refine A0 R (L9 2 R (D6 R (eN (C0 R (qG (A0 R (A0 R ?_)))))))
   refine Z3 R R R R ?_ ?_
   ·intro c7
    replace h:=J7 c7 h
    refine A0 R ?_
    obtain⟨rv9,k9,h⟩:=H1 h
    refine J5 (B0R k9) eK R R R R (D6 R (A3 R (eN (C9 (B2 ?_)))))
    obtain rfl:=sI h
    exact f1 4 R
   intro c7
   replace h:=P1 c7 h
   refine A0 R (B3b R (D0 R (A3 R (eN (C9 (B2 ?_))))))
   obtain rfl:=sI h
   exact f1 4 R
  intro c6
  replace h:=J7 c6 h
  refine A0 R (A0 R ?_)
  refine V5 R R R R ?_ ?_
  ·intro c8
   replace h:=P1 c8 h
   refine D0 R (eN (C0 R (qG (A0 R (A0 R ?_)))))
   refine Z3 R R R R ?_ ?_
   ·intro c9
    replace h:=J7 c9 h
    refine A0 R ?_
    obtain⟨rv10,k10,h⟩:=H1 h
    refine J5 (B0R k10) eK R R R R (D6 R (A3 R (eN (C9 (B2 ?_)))))
    obtain rfl:=sI h
    exact f1 4 R
   intro c9
   replace h:=P1 c9 h
   refine A0 R (B3b R (D0 R (A3 R (eN (C9 (B2 ?_))))))
   obtain rfl:=sI h
   exact f1 4 R
  intro c8
  replace h:=J7 c8 h
  refine D0 R (eN (C1 R (D7 (A6 ?_))))
  exact .inl ⟨(),h,.vw (κ:=[0,6,11,7,8,9,10]) (vK (.cons R R (.cons R R (.cons R R C40))) R)⟩
 refine qG (A0 R ?_)
 refine V5 R R R R ?_ ?_
 ·intro c
  replace h:=P1 c h
  refine A0 R (L9 2 R (D6 R (A0 R (L9 3 R (D6 R (eN (C0 R (qG ?_))))))))
  obtain⟨rv3,k3,h⟩:=H1 h
  refine J5 (B0R k3) eK R R R R (A3 R (eN (C9 (B2 ?_))))
  obtain rfl:=sI h
  exact f1 4 R
 intro c
 replace h:=J7 c h
 refine A0 R (A0 R ?_)
 refine V5 R R R R ?_ ?_
 ·intro c2
  replace h:=P1 c2 h
  refine D0 R (A0 R (L9 3 R (D6 R (eN (C0 R (qG ?_))))))
  obtain⟨rv4,k4,h⟩:=H1 h
  refine J5 (B0R k4) eK R R R R (A3 R (eN (C9 (B2 ?_))))
  obtain rfl:=sI h
  exact f1 4 R
 intro c2
 replace h:=J7 c2 h
 refine D0 R (A0 R (A0 R (I7 tb R ?_)))
 refine A4l R R R R ?_ ?_
 ·intro c3
  replace h:=J7 c3 h
  refine D0 R (eN (C0 R (qG ?_)))
  obtain⟨rv5,k5,h⟩:=H1 h
  refine J5 (B0R k5) eK R R R R (A3 R (eN (C9 (B2 ?_))))
  obtain rfl:=sI h
  exact f1 4 R
 intro c3
 replace h:=P1 (nL c3) h
 refine D0 R (eN (C1 R (D7 (A6 ?_))))
 exact .inl ⟨(),h,.prn [1,2,4,5] R⟩
end Go.Proofs.YtlaogbbcipebgaaGreat
