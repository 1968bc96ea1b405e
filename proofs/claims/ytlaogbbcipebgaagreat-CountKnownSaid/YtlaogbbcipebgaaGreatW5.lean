/- What functions of the program compute: plain functions, and the proofs. -/
import Derived.Test.YtlaogbbcipebgaaGreatW4
set_option linter.unusedVariables false
set_option linter.unusedSimpArgs false
open Go Go.Proofs.YtlaogbbcipebgaaGreat.Sh Go.Proofs
namespace Go.Proofs.YtlaogbbcipebgaaGreat
set_option maxRecDepth 100000
set_option maxHeartbeats 40000000
def C2j (F:Nat) (B2:(List Int)→Int→Option ((List Int) × Int)) (lv:(List Int)) (x:Int) (why:Int):Option ((List Int) × Int):=if why=0 then((A8i lv [x]).bind fun q=>B2 q (W (x+1)))else(B2 lv (W (x+1)))
def B7j (F:Nat) (p:D4) (tick:Int) (t:F7) (K:(List Int)→Int→Option ((List Int) × Int)):Nat→(List Int)→Int→Option ((List Int) × Int)
 | 0,_,_=>none
 | n+1,lv,x=>if x<(p.steps.length:Int)then((A1F F t (C7.mk tick 1 x 0 0 0 0 0)).bind fun rv3=>exE rv3 (fun x2=>C2j F (B7j F p tick t K n) lv x x2) (fun v=>C2j F (B7j F p tick t K n) lv x 0))else(K lv x)
def C2r (F:Nat) (p:D4) (log:(List C7)) (tick:Int):Option ((List Int) × Int):=(A42 F p log).bind fun rv=>B2S rv.1 (if rv.2.2=0 then(none)else(some (([]:List Int),rv.2.2))) (fun t=>if rv.2.2=0 then((Y7 F tick t.H6 100000).bind fun rv2=>if rv2=true then(some (([]:List Int),7))else(B7j F p tick t (fun(lv:(List Int)) (x:Int)=>some (lv,0)) F ([]:List Int) 0))else(some (([]:List Int),rv.2.2)))
theorem C20 {F:Nat} {p:D4} {log:(List C7)} {tick:Int} {r:((List Int) × Int)} (h:C2r F p log tick=some r):SCR Tryz.prog 30 (List.map T.d [D4.d p,.arr 8 ((log).map C7.d),.v (.int .i64 tick)]) [] (.tup [.row 0 1 0 (r.1).length,.d (.v (.int .i64 r.2))]) (List.map some [(B7 r.1)]):=by
 rw[C2r]at h
 refine SC.of_sw Tryz.func30 R R R ?_
 dsimp only[L8,List.map]
 refine qG (M9 R (A3 R (A3 R (eN (qG (B5 (y:=D4.d p) tb R (A0 R ?_)))))))
 obtain⟨rv,k,h⟩:=H1 h
 rcases Option.eq_none_or_eq_some rv.1 with nv | ⟨t,nv⟩
 ·replace h:=(B5h nv).symm.trans h
  refine G7 (t' := .tup [.d (.v (.pointer none)),.row 1 1 0 (rv.2.1).length,.d (vI rv.2.2)]) (ls:=[]) (news:=[(B7 rv.2.1)]) ([]) ([bx 13 (.d (D4.d p)),B0u rv.2.1]) ((A4c k).none nv) eK R (.inl ⟨R,R,R⟩) R R R R .nil R R R .nil ((.row .nil)) R R R R (A1D (.tup [.d (.v (.pointer none)),.row 1 1 0 (rv.2.1).length,.d (vI rv.2.2)]) R R R (A1B (t := .d (.v (.pointer none))) R R R R (A1B (t := .row 1 1 0 (rv.2.1).length) R R R R ?_)))
  refine A1B (t := .d (vI rv.2.2)) R R R R (A3 R (A14 R R R (A3 R (eN (B8 (E3 (qG (A0 R ?_))))))))
  refine V5 R R R R ?_ ?_
  ·intro c
   replace h:=P1 c h
   refine A3 R (eN (C0 R (qG (A0 R (A3 R (A3 R (eN ?_)))))))
   refine SW.own (ts':=[(6,.row 2 1 0 (([]:List Int)).length),(7,.d (vI rv.2.2))]) (L':=[bx 13 (.d (D4.d p)),B0u rv.2.1]) 1 R R (.cons .nil (.cons (.same _) .nil)) (.same (.same .nil)) ?_
   simp only[List.cons_append,List.nil_append]
   refine C9 (C4 (B2 ?_))
   obtain rfl:=sI h
   exact f2 [2] C23 R (.cons (.tmp 6) (.cons (.tmp 7) .nil)) R
  intro c
  replace h:=J7 c h
  cases h
 replace h:=(B5i nv).symm.trans h
 refine G7 (t' := .tup [.ref 1 26 0 0,.row 7 1 0 (rv.2.1).length,.d (vI rv.2.2)]) (ls:=[]) (news:=[⟨26,[C5 t 1 2 3 4 5]⟩,(B7 t.A1),(B7 t.A5),(H7 t.B1),(B7 t.A7),(H7 t.B0),(B7 rv.2.1)]) ([]) ([bx 13 (.d (D4.d p)),bx 26 (C5 t 2 3 4 5 6),B0u t.A1,B0u t.A5,B9r t.B1,B0u t.A7,B9r t.B0,B0u rv.2.1]) ((A4c k).some nv) eK R (.inl ⟨R,R,R⟩) R R R R .nil R R R .nil ((.cons R (.row (.row (.row (.row (.row (.row .nil)))))))) R R R R ?_
 refine A1D (.tup [.ref 1 26 0 0,.row 7 1 0 (rv.2.1).length,.d (vI rv.2.2)]) R R R (A1B (t := .ref 1 26 0 0) R R R R (A1B (t := .row 7 1 0 (rv.2.1).length) R R R R (A1B (t := .d (vI rv.2.2)) R R R R (A3i R R R (A14 R R R (A3 R (eN (B8 (E3 (qG (A0 R ?_)))))))))))
 refine V5 R R R R ?_ ?_
 ·intro c2
  replace h:=P1 c2 h
  refine A3 R (eN (C0 R (qG (A0 R (A3 R (A3 R (eN ?_)))))))
  refine SW.own (ts':=[(6,.row 8 1 0 (([]:List Int)).length),(7,.d (vI rv.2.2))]) (L':=[bx 13 (.d (D4.d p)),bx 26 (C5 t 2 3 4 5 6),B0u t.A1,B0u t.A5,B9r t.B1,B0u t.A7,B9r t.B0,B0u rv.2.1]) 1 R R (.cons .nil (.cons (.same _) .nil)) (.same (.same (.same (.same (.same (.same (.same (.same .nil)))))))) ?_
  simp only[List.cons_append,List.nil_append]
  refine C9 (C4 (B2 ?_))
  obtain rfl:=sI h
  exact f2 [8] C23 R (.cons (.tmp 6) (.cons (.tmp 7) .nil)) R
 intro c2
 replace h:=J7 c2 h
 refine A3 R (eN (C1 R (qG (A0 R (G4 R R R (F1 R R R (C8 tb R (C8 tb R (B5 (y:=vI t.H6) tb R ?_)))))))))
 obtain⟨rv2,k2,h⟩:=H1 h
 refine M6 (V8 k2) eK R R R R ?_ ?_
 ·intro c3
  replace h:=J7 c3 h
  refine A3 R (eN (C0 R (qG (A3 R (A3 R (eN ?_))))))
  refine SW.own (ts':=[(6,.row 8 1 0 (([]:List Int)).length),(7,.d (vI 7))]) (L':=[bx 13 (.d (D4.d p)),bx 26 (C5 t 2 3 4 5 6),B0u t.A1,B0u t.A5,B9r t.B1,B0u t.A7,B9r t.B0,B0u rv.2.1]) 1 R R (.cons .nil (.cons (.same _) .nil)) (.same (.same (.same (.same (.same (.same (.same (.same .nil)))))))) ?_
  simp only[List.cons_append,List.nil_append]
  refine C9 (C4 (B2 ?_))
  obtain rfl:=sI h
  exact f2 [8] C23 R (.cons (.tmp 6) (.cons (.tmp 7) .nil)) R
 intro c3
 replace h:=ifF c3 h
 refine A3 R (eN (C1 R (D7 (D3 (A6 (B8 (qG (C8 tb R (B5 (y := .arr 9 ((p.steps).map E0.d)) tb R (I7 tb R (A0 R (eN (E3 ?_)))))))))))))
 refine SW.own (ts':=[(2,.d (vI tick)),(6,.row 8 1 0 (([]:List Int)).length),(7,.d (vI rv.2.2)),(8,.ref 1 26 0 0),(34,.d (vI (p.steps.length:Int))),(35,.d (vI 0))]) (L':=[bx 13 (.d (D4.d p)),bx 26 (C5 t 2 3 4 5 6),B0u t.A1,B0u t.A5,B9r t.B1,B0u t.A7,B9r t.B0,B0u rv.2.1]) 1 R R (.cons (.same _) (.cons .nil (.cons (.same _) (.cons (.same _) (.cons (.same _) (.cons (.same _) .nil)))))) (.same (.same (.same (.same (.same (.same (.same (.same .nil)))))))) ?_
 simp only[List.cons_append,List.nil_append]
 obtain⟨K2,hK2,h⟩:∃ K,K=_∧B7j F p tick t K F ([]:List Int) 0=some r:=⟨_,rfl,h⟩
 refine M2 (st0:=⟨[(2,.d (vI tick)),(6,.row 0 1 0 (([]:List Int)).length),(7,.d (vI rv.2.2)),(8,.ref 1 26 0 0),(34,.d (vI (p.steps.length:Int))),(35,.d (vI 0))],[B0u ([]:List Int),bx 26 (C5 t 2 3 4 5 6),B0u t.A1,B0u t.A5,B9r t.B1,B0u t.A7,B9r t.B0]⟩) (fun m st=>∃ (lv:(List Int)) (x:Int),B7j F p tick t K2 m lv x=some r∧st=⟨[(2,.d (vI tick)),(6,.row 0 1 0 (lv).length),(7,.d (vI rv.2.2)),(8,.ref 1 26 0 0),(34,.d (vI (p.steps.length:Int))),(35,.d (vI x))],[B0u lv,bx 26 (C5 t 2 3 4 5 6),B0u t.A1,B0u t.A5,B9r t.B1,B0u t.A7,B9r t.B0]⟩) (.vw (κ:=[8,1,2,3,4,5,6]) (vK (.row R (.cons R R B9x)) R)) ⟨([]:List Int),0,h,R⟩ ?_
 clear h
 rintro m2 st ⟨lv,x,h,rfl⟩
 cases m2 with
 | zero=>cases(show(none:Option ((List Int) × Int))=some r from h)
 | succ m2 =>
 rw[B7j]at h
 refine qG ?_
 refine Q4 R R R R ?_ ?_
 ·intro c4
  replace h:=J7 c4 h
  refine eN (B8 (C0 R (D7 (A6 (B8 (E3 (qG (A0 R (A3 R (eN (B8 ?_)))))))))))
  refine W5 (fun zz:Int=>C2j F (B7j F p tick t K2 m2) lv x zz=some r) (fun zz:Int=>⟨[(2,.d (vI tick)),(6,.row 0 1 0 (lv).length),(7,.d (vI rv.2.2)),(8,.ref 1 26 0 0),(10,.d (vI x)),(12,.d (vI zz)),(34,.d (vI (p.steps.length:Int))),(35,.d (vI x))],[B0u lv,bx 26 (C5 t 2 3 4 5 6),B0u t.A1,B0u t.A5,B9r t.B1,B0u t.A7,B9r t.B0]⟩) ?_ ?_
  ·clear h
   rintro why h
   rw[C2j]at h
   refine qG (A0 R ?_)
   refine Z3 R R R R ?_ ?_
   ·intro c5
    replace h:=J7 c5 h
    refine eN (C0 R (J1 (A0T R R R (A0 R (P7 tb R R R R R R R R R R R R R ?_)))))
    obtain⟨q,iq,h⟩:=H1 h
    refine B2k (g:=vI) (w:=lv) (v:=[x]) ([none,bx 26 (C5 t 2 3 4 5 6),B0u t.A1,B0u t.A5,B9r t.B1,B0u t.A7,B9r t.B0,B0u [x]]) tb R R R R R R R R R R R iq R R R R R (A14 R R R (Y9 (D3 (A6 (J1 (O1 R (A0 R (eN ?_))))))))
    exact⟨m2,⟨[(2,.d (vI tick)),(6,.row 0 1 0 (q).length),(7,.d (vI rv.2.2)),(8,.ref 1 26 0 0),(34,.d (vI (p.steps.length:Int))),(35,.d (vI (W (x+1))))],[B0u q,bx 26 (C5 t 2 3 4 5 6),B0u t.A1,B0u t.A5,B9r t.B1,B0u t.A7,B9r t.B0]⟩,lS,.vw (κ:=[8,1,2,3,4,5,6]) (vK (.row R (.cons R R B9x)) R),q,(W (x+1)),h,R⟩
   intro c5
   replace h:=P1 c5 h
   refine eN (C1 R (D7 (D3 (A6 (J1 (O1 R (A0 R (eN ?_))))))))
   exact⟨m2,_,lS,.prn [2,6,7,8,34,35] R,lv,(W (x+1)),h,R⟩
  refine J1 (G4 R R R (A0 R (A0 R (S1 (v := .d (.agg [vI tick,vI 1,vI x,vI 0,vI 0,vI 0,vI 0,vI 0])) tb R R (List.cons_ne_nil _ _) R R R R R R ?_))))
  obtain⟨rv3,k3,h⟩:=H1 h
  rcases M7 rv3 with⟨x2,nv2⟩ | ⟨v,nv2⟩
  ·replace h:=(exN nv2).symm.trans h
   refine G7 (t' := .tup [.ref 1 26 0 0,.d (vI x2)]) (ls:=B6X t []) (news:=[]) ([1,2,3,4,5,6]) ([B0u lv,bx 26 (C5 t 2 3 4 5 6),B0u t.A1,B0u t.A5,B9r t.B1,B0u t.A7,B9r t.B0]) ((A5q k3).err nv2) eK R (.inl ⟨R,R,R⟩) R R R R ((.cons R R C25)) R R R ((.cons R (.row (.row (.row (.row (.row .nil))))))) .nil R R R R ?_
   refine A1D (.tup [.ref 1 26 0 0,.d (vI x2)]) R R R (A1B (t := .ref 1 26 0 0) R R R R (A1B (t := .d (vI x2)) R R R R (A3i R R R (A3 R (eN ?_)))))
   exact .inl ⟨x2,h,.vw (κ:=[0,1,2,3,4,5,6]) (vK (.row R (.cons R R B9x)) R)⟩
  replace h:=(exO nv2).symm.trans h
  refine G7 (t' := .tup [.ref 7 26 0 0,.d (vI 0)]) (ls:=B6X t []) (news:=[⟨26,[C5 v 7 8 9 10 11]⟩,(B7 v.A1),(B7 v.A5),(H7 v.B1),(B7 v.A7),(H7 v.B0)]) ([1,2,3,4,5,6]) ([B0u lv,bx 26 (C5 t 2 3 4 5 6),B0u t.A1,B0u t.A5,B9r t.B1,B0u t.A7,B9r t.B0,bx 26 (C5 v 8 9 10 11 12),B0u v.A1,B0u v.A5,B9r v.B1,B0u v.A7,B9r v.B0]) ((A5q k3).ok nv2) eK R (.inl ⟨R,R,R⟩) R R R R ((.cons R R C25)) R R R ((.cons R (.row (.row (.row (.row (.row .nil))))))) ((.cons R (.row (.row (.row (.row (.row .nil))))))) R R R R ?_
  refine A1D (.tup [.ref 7 26 0 0,.d (vI 0)]) R R R (A1B (t := .ref 7 26 0 0) R R R R (A1B (t := .d (vI 0)) R R R R (A3i R R R (A3 R (eN ?_)))))
  exact .inl ⟨0,h,.vw (κ:=[0,1,2,3,4,5,6]) (vK (.row R (.cons R R B9x)) R)⟩
 intro c4
 replace h:=P1 (nL c4) h
 refine eN (B8 (C1 R (N5 (E4 (E4 ?_)))))
 subst hK2
 refine I5 (A6 (qG (A0T R R R (A14 R R R (A3 R (eN (C9 ?_)))))))
 obtain rfl:=sI h
 exact f2 [0] C23 R (.cons (.tmp 6) (.cons (.tmp 7) .nil)) R
theorem C3f {F:Nat} {p:D4} {log:(List C7)} {tick:Int} {r:((List Int) × Int)} (h:C2r F p log tick=some r):PC Tryz.prog 30 [D4.d p,.arr 8 ((log).map C7.d),.v (.int .i64 tick)] (.tup [.arr 1 ((r.1).map vI),.v (.int .i64 r.2)]):=(C20 h).toPC (.tupL (.cons (.row rfl rfl) (.cons (.d _) .nil)))
def C1U (F:Nat) (p:D4) (K:(List Int)→Int→Option ((List Int) × Int)):Nat→(List Int)→Int→Option ((List Int) × Int)
 | 0,_,_=>none
 | n+1,lv,x=>if x<(p.batteries.length:Int)then(none)else(K lv x)
def C1n (F:Nat) (B4:(List Int)→Int→Option ((List Int) × Int)) (lv2:(List Int)) (x2:Int) (nv2:Int):Option ((List Int) × Int):=(A8i lv2 [nv2]).bind fun q=>B4 q (W (x2+1))
def A3S (F:Nat) (p:D4) (t:F7) (K:(List Int)→Int→Option ((List Int) × Int)):Nat→(List Int)→Int→Option ((List Int) × Int)
 | 0,_,_=>none
 | n+1,lv2,x2=>if x2<(p.batteries.length:Int)then((P3 p.batteries x2).bind fun e2=>(P3 t.B0 x2).bind fun e3=>if e3=true then((P3 t.A7 x2).bind fun e4=>if e2.rate=0 then none else(C1n F (A3S F p t K n) lv2 x2 (W (t.H6+(W (Int.tdiv (W ((W (e4+e2.rate))-1)) e2.rate))))))else(C1n F (A3S F p t K n) lv2 x2 (-1)))else(K lv2 x2)
def C10 (F:Nat) (p:D4) (log:(List C7)):Option ((List Int) × Int):=(A42 F p log).bind fun rv=>B2S rv.1 (if rv.2.2=0 then(C1U F p (fun(lv:(List Int)) (x:Int)=>some (lv,0)) F ([]:List Int) 0)else(some (([]:List Int),rv.2.2))) (fun t=>if rv.2.2=0 then(A3S F p t (fun(lv2:(List Int)) (x2:Int)=>some (lv2,0)) F ([]:List Int) 0)else(some (([]:List Int),rv.2.2)))
theorem C1Y {F:Nat} {p:D4} {log:(List C7)} {r:((List Int) × Int)} (h:C10 F p log=some r):SCR Tryz.prog 28 (List.map T.d [D4.d p,.arr 8 ((log).map C7.d)]) [] (.tup [.row 0 1 0 (r.1).length,.d (.v (.int .i64 r.2))]) (List.map some [(B7 r.1)]):=by
 rw[C10]at h
 refine SC.of_sw Tryz.func28 R R R ?_
 dsimp only[L8,List.map]
 refine qG (M9 R (A3 R (A3 R (eN (qG (B5 (y:=D4.d p) tb R (A0 R ?_)))))))
 obtain⟨rv,k,h⟩:=H1 h
 rcases Option.eq_none_or_eq_some rv.1 with nv | ⟨t,nv⟩
 ·replace h:=(B5h nv).symm.trans h
  refine G7 (t' := .tup [.d (.v (.pointer none)),.row 1 1 0 (rv.2.1).length,.d (vI rv.2.2)]) (ls:=[]) (news:=[(B7 rv.2.1)]) ([]) ([bx 13 (.d (D4.d p)),B0u rv.2.1]) ((A4c k).none nv) eK R (.inl ⟨R,R,R⟩) R R R R .nil R R R .nil ((.row .nil)) R R R R (A1D (.tup [.d (.v (.pointer none)),.row 1 1 0 (rv.2.1).length,.d (vI rv.2.2)]) R R R (A1B (t := .d (.v (.pointer none))) R R R R (A1B (t := .row 1 1 0 (rv.2.1).length) R R R R ?_)))
  refine A1B (t := .d (vI rv.2.2)) R R R R (A3 R (A14 R R R (A3 R (eN (B8 (qG (A0 R ?_)))))))
  refine V5 R R R R ?_ ?_
  ·intro c
   replace h:=P1 c h
   refine eN (C0 R (qG (A0 R (A3 R (A3 R (eN ?_))))))
   refine SW.own (ts':=[(4,.row 2 1 0 (([]:List Int)).length),(5,.d (vI rv.2.2))]) (L':=[bx 13 (.d (D4.d p)),B0u rv.2.1]) 1 R R (.cons .nil (.cons (.same _) .nil)) (.same (.same .nil)) ?_
   simp only[List.cons_append,List.nil_append]
   refine C9 (B2 ?_)
   obtain rfl:=sI h
   exact f2 [2] C23 R (.cons (.tmp 4) (.cons (.tmp 5) .nil)) R
  intro c
  replace h:=J7 c h
  refine eN (C1 R (D7 (A6 (B8 (qG (C8 tb R (B5 (y := .arr 3 ((p.batteries).map D9.d)) tb R (I7 tb R (A0 R (eN (E3 ?_)))))))))))
  refine SW.own (ts':=[(4,.row 2 1 0 (([]:List Int)).length),(5,.d (vI rv.2.2)),(6,.d (.v (.pointer none))),(22,.d (.arr 3 ((p.batteries).map D9.d))),(23,.d (vI (p.batteries.length:Int))),(24,.d (vI 0))]) (L':=[bx 13 (.d (D4.d p)),B0u rv.2.1]) 1 R R (.cons .nil (.cons (.same _) (.cons (.same _) (.cons (.same _) (.cons (.same _) (.cons (.same _) .nil)))))) (.same (.same .nil)) ?_
  simp only[List.cons_append,List.nil_append]
  obtain⟨K2,hK2,h⟩:∃ K,K=_∧C1U F p K F ([]:List Int) 0=some r:=⟨_,rfl,h⟩
  refine M2 (st0:=⟨[(4,.row 0 1 0 (([]:List Int)).length),(5,.d (vI rv.2.2)),(6,.d (.v (.pointer none))),(22,.d (.arr 3 ((p.batteries).map D9.d))),(23,.d (vI (p.batteries.length:Int))),(24,.d (vI 0))],[B0u ([]:List Int)]⟩) (fun m st=>∃ (lv:(List Int)) (x:Int),C1U F p K2 m lv x=some r∧st=⟨[(4,.row 0 1 0 (lv).length),(5,.d (vI rv.2.2)),(6,.d (.v (.pointer none))),(22,.d (.arr 3 ((p.batteries).map D9.d))),(23,.d (vI (p.batteries.length:Int))),(24,.d (vI x))],[B0u lv]⟩) (.vw (κ:=[2]) (vK C23 R)) ⟨([]:List Int),0,h,R⟩ ?_
  clear h
  rintro m2 st ⟨lv,x,h,rfl⟩
  cases m2 with
  | zero=>cases(show(none:Option ((List Int) × Int))=some r from h)
  | succ m2 =>
  rw[C1U]at h
  refine qG ?_
  refine Q4 R R R R ?_ ?_
  ·intro c2
   replace h:=J7 c2 h
   cases h
  intro c2
  replace h:=P1 (nL c2) h
  refine eN (B8 (C1 R (N5 (E4 (E4 ?_)))))
  subst hK2
  refine I5 (A6 (qG (A0T R R R (A14 R R R (A3 R (eN (C9 ?_)))))))
  obtain rfl:=sI h
  exact f2 [0] C23 R (.cons (.tmp 4) (.cons (.tmp 5) .nil)) R
 replace h:=(B5i nv).symm.trans h
 refine G7 (t' := .tup [.ref 1 26 0 0,.row 7 1 0 (rv.2.1).length,.d (vI rv.2.2)]) (ls:=[]) (news:=[⟨26,[C5 t 1 2 3 4 5]⟩,(B7 t.A1),(B7 t.A5),(H7 t.B1),(B7 t.A7),(H7 t.B0),(B7 rv.2.1)]) ([]) ([bx 13 (.d (D4.d p)),bx 26 (C5 t 2 3 4 5 6),B0u t.A1,B0u t.A5,B9r t.B1,B0u t.A7,B9r t.B0,B0u rv.2.1]) ((A4c k).some nv) eK R (.inl ⟨R,R,R⟩) R R R R .nil R R R .nil ((.cons R (.row (.row (.row (.row (.row (.row .nil)))))))) R R R R ?_
 refine A1D (.tup [.ref 1 26 0 0,.row 7 1 0 (rv.2.1).length,.d (vI rv.2.2)]) R R R (A1B (t := .ref 1 26 0 0) R R R R (A1B (t := .row 7 1 0 (rv.2.1).length) R R R R (A1B (t := .d (vI rv.2.2)) R R R R (A3i R R R (A14 R R R (A3 R (eN (B8 (qG (A0 R ?_))))))))))
 refine V5 R R R R ?_ ?_
 ·intro c3
  replace h:=P1 c3 h
  refine eN (C0 R (qG (A0 R (A3 R (A3 R (eN ?_))))))
  refine SW.own (ts':=[(4,.row 8 1 0 (([]:List Int)).length),(5,.d (vI rv.2.2))]) (L':=[bx 13 (.d (D4.d p)),bx 26 (C5 t 2 3 4 5 6),B0u t.A1,B0u t.A5,B9r t.B1,B0u t.A7,B9r t.B0,B0u rv.2.1]) 1 R R (.cons .nil (.cons (.same _) .nil)) (.same (.same (.same (.same (.same (.same (.same (.same .nil)))))))) ?_
  simp only[List.cons_append,List.nil_append]
  refine C9 (B2 ?_)
  obtain rfl:=sI h
  exact f2 [8] C23 R (.cons (.tmp 4) (.cons (.tmp 5) .nil)) R
 intro c3
 replace h:=J7 c3 h
 refine eN (C1 R (D7 (A6 (B8 (qG (C8 tb R (B5 (y := .arr 3 ((p.batteries).map D9.d)) tb R (I7 tb R (A0 R (eN (E3 ?_)))))))))))
 refine SW.own (ts':=[(4,.row 8 1 0 (([]:List Int)).length),(5,.d (vI rv.2.2)),(6,.ref 1 26 0 0),(22,.d (.arr 3 ((p.batteries).map D9.d))),(23,.d (vI (p.batteries.length:Int))),(24,.d (vI 0))]) (L':=[bx 13 (.d (D4.d p)),bx 26 (C5 t 2 3 4 5 6),B0u t.A1,B0u t.A5,B9r t.B1,B0u t.A7,B9r t.B0,B0u rv.2.1]) 1 R R (.cons .nil (.cons (.same _) (.cons (.same _) (.cons (.same _) (.cons (.same _) (.cons (.same _) .nil)))))) (.same (.same (.same (.same (.same (.same (.same (.same .nil)))))))) ?_
 simp only[List.cons_append,List.nil_append]
 obtain⟨K4,hK4,h⟩:∃ K,K=_∧A3S F p t K F ([]:List Int) 0=some r:=⟨_,rfl,h⟩
 refine M2 (st0:=⟨[(4,.row 0 1 0 (([]:List Int)).length),(5,.d (vI rv.2.2)),(6,.ref 1 26 0 0),(22,.d (.arr 3 ((p.batteries).map D9.d))),(23,.d (vI (p.batteries.length:Int))),(24,.d (vI 0))],[B0u ([]:List Int),bx 26 (C5 t 2 3 4 5 6),B0u t.A1,B0u t.A5,B9r t.B1,B0u t.A7,B9r t.B0]⟩) (fun m st=>∃ (lv2:(List Int)) (x2:Int),A3S F p t K4 m lv2 x2=some r∧st=⟨[(4,.row 0 1 0 (lv2).length),(5,.d (vI rv.2.2)),(6,.ref 1 26 0 0),(22,.d (.arr 3 ((p.batteries).map D9.d))),(23,.d (vI (p.batteries.length:Int))),(24,.d (vI x2))],[B0u lv2,bx 26 (C5 t 2 3 4 5 6),B0u t.A1,B0u t.A5,B9r t.B1,B0u t.A7,B9r t.B0]⟩) (.vw (κ:=[8,1,2,3,4,5,6]) (vK (.row R (.cons R R B9x)) R)) ⟨([]:List Int),0,h,R⟩ ?_
 clear h
 rintro m4 st ⟨lv2,x2,h,rfl⟩
 cases m4 with
 | zero=>cases(show(none:Option ((List Int) × Int))=some r from h)
 | succ m4 =>
 rw[A3S]at h
 refine qG ?_
 refine Q4 R R R R ?_ ?_
 ·intro c4
  replace h:=J7 c4 h
  refine eN (B8 (C0 R (D7 (A6 (B8 (E3 (qG (A0 R ?_))))))))
  obtain⟨e2,ie2,h⟩:=H1 h
  refine N8 tb (F0 ie2) (V1 ie2) R (I4 (y:=D9.d e2) tb (U5 (g:=D9.d) ie2) R (M5 tb R R R R R (A3 R (I6 _ _ tb R (eN (qG (A3 R (eN (B8 ?_)))))))))
  refine W5 (fun zz:Int=>C1n F (A3S F p t K4 m4) lv2 x2 zz=some r) (fun zz:Int=>⟨[(4,.row 0 1 0 (lv2).length),(5,.d (vI rv.2.2)),(6,.ref 1 26 0 0),(10,.d (vI zz)),(22,.d (.arr 3 ((p.batteries).map D9.d))),(23,.d (vI (p.batteries.length:Int))),(24,.d (vI x2))],[B0u lv2,bx 26 (C5 t 2 3 4 5 6),B0u t.A1,B0u t.A5,B9r t.B1,B0u t.A7,B9r t.B0]⟩) ?_ ?_
  ·clear h
   rintro nv2 h
   rw[C1n]at h
   refine J1 (A0T R R R (A0 R (P7 tb R R R R R R R R R R R R R ?_)))
   obtain⟨q,iq,h⟩:=H1 h
   refine B2k (g:=vI) (w:=lv2) (v:=[nv2]) ([none,bx 26 (C5 t 2 3 4 5 6),B0u t.A1,B0u t.A5,B9r t.B1,B0u t.A7,B9r t.B0,B0u [nv2]]) tb R R R R R R R R R R R iq R R R R R (A14 R R R (Y9 (D3 (A6 (J1 (O1 R (A0 R (eN ?_))))))))
   exact⟨m4,⟨[(4,.row 0 1 0 (q).length),(5,.d (vI rv.2.2)),(6,.ref 1 26 0 0),(22,.d (.arr 3 ((p.batteries).map D9.d))),(23,.d (vI (p.batteries.length:Int))),(24,.d (vI (W (x2+1))))],[B0u q,bx 26 (C5 t 2 3 4 5 6),B0u t.A1,B0u t.A5,B9r t.B1,B0u t.A7,B9r t.B0]⟩,lS,.vw (κ:=[8,1,2,3,4,5,6]) (vK (.row R (.cons R R B9x)) R),q,(W (x2+1)),h,R⟩
  refine qG (G4 R R R (F1 R R R (C8 tb R (C8 tb R (W4 tb R R R R R R R R R (A0 R ?_))))))
  obtain⟨e3,ie3,h⟩:=H1 h
  refine Y1 tb R R R R R R (F0 ie3) (ix1 ie3) R R ?_
  refine A15 (y := .v (.bool e3)) tb R R R R (U5 (g:=fun a=>T.d (vB a)) ie3) R R R R ?_
  with_reducible apply X8
  ·intro c5
   replace h:=J7 c5 h
   refine eN (C0 R (T1 kR (G4 R R R (F1 R R R (C8 tb R (C8 tb R (B5 (y:=vI t.H6) tb R (G4 R R R (F1 R R R (C8 tb R (C8 tb R (W4 tb R R R R R R R R R (A0 R ?_)))))))))))))
   obtain⟨e4,ie4,h⟩:=H1 h
   refine Y1 tb R R R R R R (F0 ie4) (ix1 ie4) R R ?_
   refine A15 (y:=vI e4) tb R R R R (U5 (g:=fun a=>T.d (vI a)) ie4) R R R R ?_
   refine C8 tb R (B5 (y:=vI e2.rate) tb R (O1 R (A1n R R R R (C8 tb R (B5 (y:=vI e2.rate) tb R ?_)))))
   by_cases c6:e2.rate=0
   ·cases(if_pos c6).symm.trans h
   replace h:=P1 c6 h
   refine C0J R R c6 R R (O1 R (A3 R (I0 kR (A6 ?_))))
   exact .inl ⟨(W (t.H6+(W (Int.tdiv (W ((W (e4+e2.rate))-1)) e2.rate)))),h,.vw (κ:=[0,1,2,3,4,5,6]) (vK (.row R (.cons R R B9x)) R)⟩
  intro c5
  replace h:=ifF c5 h
  refine eN (C1 R (D7 (A6 ?_)))
  exact .inl ⟨(-1),h,.vw (κ:=[0,1,2,3,4,5,6]) (vK (.row R (.cons R R B9x)) R)⟩
 intro c4
 replace h:=P1 (nL c4) h
 refine eN (B8 (C1 R (N5 (E4 (E4 ?_)))))
 subst hK4
 refine I5 (A6 (qG (A0T R R R (A14 R R R (A3 R (eN (C9 ?_)))))))
 obtain rfl:=sI h
 exact f2 [0] C23 R (.cons (.tmp 4) (.cons (.tmp 5) .nil)) R
theorem C2V {F:Nat} {p:D4} {log:(List C7)} {r:((List Int) × Int)} (h:C10 F p log=some r):PC Tryz.prog 28 [D4.d p,.arr 8 ((log).map C7.d)] (.tup [.arr 1 ((r.1).map vI),.v (.int .i64 r.2)]):=(C1Y h).toPC (.tupL (.cons (.row rfl rfl) (.cons (.d _) .nil)))
def N3 (F:Nat)  (K:(List Int)→Int→Int→Option (List Int)):Nat→(List Int)→Int→Int→Option (List Int)
 | 0,_,_,_=>none
 | n+1,s2,i,j=>if i<j then((P3 s2 j).bind fun e=>(P3 s2 i).bind fun e2=>(A5g s2 i e).bind fun s3=>(P3 s3 j).bind fun e3=>(A5g s3 j e2).bind fun s4=>N3 F K n s4 (W (i+1)) (W (j-1)))else(K s2 i j)
def C1C (F:Nat) (s:(List Int)):Option (List Int):=N3 F (fun(s2:(List Int)) (i:Int) (j:Int)=>some s2) F s 0 (W ((s.length:Int)-1))
theorem C2s {F:Nat} {s:(List Int)} {r:(List Int)} (h:C1C F s=some r):SCR Tryz.prog 58 [.row 0 1 0 (s).length] [B0u s] (.d (.tup [])) [B0u r]:=by
 rw[C1C]at h
 refine SC.of_sw Tryz.func58 R R R ?_
 dsimp only[L8,List.map]
 refine qG (A0T R R R (A8F tb R R R R R (A1n R R R R (A3 R (A3 R (eN (E3 ?_)))))))
 obtain⟨K2,hK2,h⟩:∃ K,K=_∧N3 F K F s 0 (W ((s.length:Int)-1))=some r:=⟨_,rfl,h⟩
 refine M2 (fun m st=>∃ (s2:(List Int)) (i:Int) (j:Int),N3 F K2 m s2 i j=some r∧st=⟨[(0,.row 0 1 0 (s2).length),(2,.d (vI i)),(3,.d (vI j))],[B0u s2]⟩) (.prn [0,2,3] R) ⟨s,0,(W ((s.length:Int)-1)),h,R⟩ ?_
 clear h
 rintro m2 st ⟨s2,i,j,h,rfl⟩
 cases m2 with
 | zero=>cases(show(none:Option (List Int))=some r from h)
 | succ m2 =>
 rw[N3]at h
 refine B8 (qG (A0 R (A0 R ?_)))
 refine Q4 R R R R ?_ ?_
 ·intro c
  replace h:=J7 c h
  refine eN (C0 R (D7 (A6 (B8 (E3 (T1 kR (A0T R R R (A0 R (A0T R R R (A0 R (A0T R R R (A0 R ?_))))))))))))
  obtain⟨e,ie,h⟩:=H1 h
  refine Y1 tb R R R R R R (F0 ie) (ix1 ie) R R ?_
  refine A15 (y:=vI e) tb R R R R (U5 (g:=fun a=>T.d (vI a)) ie) R R R R ?_
  refine A0T R R R (A0 R ?_)
  obtain⟨e2,ie2,h⟩:=H1 h
  refine Y1 tb R R R R R R (F0 ie2) (ix1 ie2) R R ?_
  refine A15 (y:=vI e2) tb R R R R (U5 (g:=fun a=>T.d (vI a)) ie2) R R R R ?_
  refine Y1 tb R R R R R R (F0 ie2) (ix1 ie2) R R ?_
  obtain⟨s3,is3,h⟩:=H1 h
  refine A5d (a':=(e:Int)) tb R R R R ie2 R R R R is3 R R ?_
  dsimp only[List.set_cons_zero,List.set_cons_succ,J2,C6,A0h,C5,B4I]
  first | rw[A2a is3] | skip
  obtain⟨e3,ie3,h⟩:=H1 h
  refine Y1 tb R R R R R R (F0 ie3) (ix1 ie3) R R ?_
  obtain⟨s4,is4,h⟩:=H1 h
  refine A5d (a':=(e2:Int)) tb R R R R ie3 R R R R is4 R R ?_
  dsimp only[List.set_cons_zero,List.set_cons_succ,J2,C6,A0h,C5,B4I]
  first | rw[A2a is4] | skip
  refine I0 kR (D3 (A6 (J1 (A0 R (O1 R (A0 R (A1n R R R R (A3 R (A3 R (eN ?_))))))))))
  exact⟨m2,_,lS,.prn [0,2,3] R,s4,(W (i+1)),(W (j-1)),h,R⟩
 intro c
 replace h:=P1 (nL c) h
 refine eN (C1 R (N5 (E4 (E4 ?_))))
 subst hK2
 refine I5 ?_
 obtain rfl:=sI h
 exact A1R (U0 (t := .d (.tup [])) (L:=[B0u s2]) (κ:=[0]) R .nil (vK C23 R) ⟨R,R⟩)
def B90 (F:Nat) (rv3:(List Int)) (x:Int) (e:E0) (K:(List Int)→Int→Option ((List Int) × Int)):Nat→(List Int)→Int→Option ((List Int) × Int)
 | 0,_,_=>none
 | n+1,a2,x2=>if x2<(e.need.length:Int)then((P3 e.need x2).bind fun e2=>(P3 a2 x).bind fun e3=>if e3<0 then((A5g a2 x e2).bind fun a3=>B90 F rv3 x e K n a3 (W (x2+1)))else((P3 rv3 e2).bind fun e4=>(P3 rv3 e3).bind fun e5=>if e5<e4 then((A5g a2 x e2).bind fun a4=>B90 F rv3 x e K n a4 (W (x2+1)))else(B90 F rv3 x e K n a2 (W (x2+1)))))else(K a2 x2)
def C1P (F:Nat) (a:(List Int)) (K:(List Int)→Int→Option ((List Int) × Int)):Nat→(List Int)→Int→Option ((List Int) × Int)
 | 0,_,_=>none
 | n+1,A,x3=>if 0≤x3 then((A8i A [x3]).bind fun q2=>(P3 a x3).bind fun e10=>C1P F a K n q2 e10)else(K A x3)
def C1B (F:Nat) (t:D4) (K:(List Int)→(List Int)→Int→Option ((List Int) × Int)):Nat→(List Int)→(List Int)→Int→Option ((List Int) × Int)
 | 0,_,_,_=>none
 | n+1,rv3,a,x=>if x<(t.steps.length:Int)then((P3 t.steps x).bind fun e=>B90 F rv3 x e (fun(a2:(List Int)) (x2:Int)=>(P3 rv3 x).bind fun e6=>(A5g rv3 x e.least).bind fun rv4=>(P3 a2 x).bind fun e7=>if 0≤e7 then((P3 rv4 x).bind fun e8=>(P3 rv4 e7).bind fun e9=>(A5g rv4 x (W (e8+e9))).bind fun rv5=>C1B F t K n rv5 a2 (W (x+1)))else(C1B F t K n rv4 a2 (W (x+1)))) F a 0)else(K rv3 a x)
def C2x (F:Nat) (t:D4):Option ((List Int) × Int):=(A4P F t).bind fun rv=>if rv.2.2=0 then((B1D (t.steps.length:Int)).bind fun q=>(A0b F [(-1)] (t.steps.length:Int)).bind fun rv2=>C1B F t (fun(rv3:(List Int)) (a:(List Int)) (x:Int)=>C1P F a (fun(A:(List Int)) (x3:Int)=>(C3u (C1C F A) A).bind fun rv6=>some (rv6,0)) F ([]:List Int) (W ((t.steps.length:Int)-1))) F (List.replicate q (0:Int)) rv2 0)else(some (([]:List Int),rv.2.2))
theorem C2B {F:Nat} {t:D4} {r:((List Int) × Int)} (h:C2x F t=some r):SCR Tryz.prog 29 (List.map T.d [D4.d t]) [] (.tup [.row 0 1 0 (r.1).length,.d (.v (.int .i64 r.2))]) (List.map some [(B7 r.1)]):=by
 rw[C2x]at h
 refine SC.of_sw Tryz.func29 R R R ?_
 dsimp only[L8,List.map]
 refine qG (M9 R (A3 R (A3 R (eN (B8 (qG (B5 (y:=D4.d t) tb R ?_)))))))
 obtain⟨rv,k,h⟩:=H1 h
 refine J5 (B0K k) eK R R R R (A0 R (Q1 (t:=vI rv.1) R R R R (Q1 (t:=vI rv.2.1) R R R R (Q1 (t:=vI rv.2.2) R R R R (A3 R (eN (qG (A0 R ?_))))))))
 refine V5 R R R R ?_ ?_
 ·intro c
  replace h:=P1 c h
  refine eN (C0 R (qG (A0 R (A3 R (A3 R (eN ?_))))))
  refine SW.own (ts':=[(2,.row 1 1 0 (([]:List Int)).length),(3,.d (vI rv.2.2))]) (L':=[bx 13 (.d (D4.d t))]) 1 R R (.cons .nil (.cons (.same _) .nil)) (.same .nil) ?_
  simp only[List.cons_append,List.nil_append]
  refine C9 (B2 ?_)
  obtain rfl:=sI h
  exact f2 [1] C23 R (.cons (.tmp 2) (.cons (.tmp 3) .nil)) R
 intro c
 replace h:=J7 c h
 refine eN (C1 R (D7 (A6 (B8 (T1 kR (C8 tb R (B5 (y := .arr 9 ((t.steps).map E0.d)) tb R (I7 tb R ?_))))))))
 obtain⟨q,iq,h⟩:=H1 h
 refine B00 (v:=(0:Int)) (g:=vI) tb R R R R R R R ((A6i iq).1) ((A6i iq).2) R R R R (P7 tb R R R R R R R R R R R R R (C8 tb R (B5 (y := .arr 9 ((t.steps).map E0.d)) tb R (I7 tb R ?_))))
 obtain⟨rv2,k2,h⟩:=H1 h
 refine C2R (t' := .row 3 1 0 (rv2).length) (news':=[(B7 rv2)]) ([none,none,B0u [(-1)]]) ((.drop (.drop (.keep (.nil _))))) (A06 k2) R ((.row (fun _=>rfl) .nil)) eK R R ((.cons (.row R R) (dL .nil))) R ((.row .nil)) R R R ?_
 refine A14 R R R (A14 R R R (I0 kR (A6 (B8 (qG (C8 tb R (B5 (y := .arr 9 ((t.steps).map E0.d)) tb R (I7 tb R (A0 R (eN (E3 ?_)))))))))))
 obtain⟨K6,hK6,h⟩:∃ K,K=_∧C1B F t K F (List.replicate q (0:Int)) rv2 0=some r:=⟨_,rfl,h⟩
 refine M2 (st0:=⟨[(1,.ref 0 13 0 0),(2,.d (.v (.slice none 0 0))),(3,.d (vI rv.2.2)),(4,.row 1 1 0 ((List.replicate q (0:Int))).length),(5,.row 2 1 0 (rv2).length),(30,.d (.arr 9 ((t.steps).map E0.d))),(31,.d (vI (t.steps.length:Int))),(32,.d (vI 0))],[bx 13 (.d (D4.d t)),B0u (List.replicate q (0:Int)),B0u rv2]⟩) (fun m st=>∃ (rv3:(List Int)) (a:(List Int)) (x:Int),C1B F t K6 m rv3 a x=some r∧st=⟨[(1,.ref 0 13 0 0),(2,.d (.v (.slice none 0 0))),(3,.d (vI rv.2.2)),(4,.row 1 1 0 (rv3).length),(5,.row 2 1 0 (a).length),(30,.d (.arr 9 ((t.steps).map E0.d))),(31,.d (vI (t.steps.length:Int))),(32,.d (vI x))],[bx 13 (.d (D4.d t)),B0u rv3,B0u a]⟩) (.vw (κ:=[0,1,3]) (vK (.cons R R C37) R)) ⟨(List.replicate q (0:Int)),rv2,0,h,R⟩ ?_
 clear h
 rintro m6 st ⟨rv3,a,x,h,rfl⟩
 cases m6 with
 | zero=>cases(show(none:Option ((List Int) × Int))=some r from h)
 | succ m6 =>
 rw[C1B]at h
 refine qG ?_
 refine Q4 R R R R ?_ ?_
 ·intro c2
  replace h:=J7 c2 h
  refine eN (B8 (C0 R (D7 (A6 (B8 (E3 (qG (A0 R ?_))))))))
  obtain⟨e,ie,h⟩:=H1 h
  refine N8 tb (F0 ie) (V1 ie) R (I4 (y:=E0.d e) tb (U5 (g:=E0.d) ie) R (M5 tb R R R R R (A3 R (I6 _ _ tb R (eN (B8 (qG (C8 tb R (B5 (y := .arr 1 ((e.need).map vI)) tb R (I7 tb R (A0 R (eN (E3 ?_)))))))))))))
  obtain⟨K10,hK10,h⟩:∃ K,K=_∧B90 F rv3 x e K F a 0=some r:=⟨_,rfl,h⟩
  refine M2 (fun m st=>∃ (a2:(List Int)) (x2:Int),B90 F rv3 x e K10 m a2 x2=some r∧st=⟨[(1,.ref 0 13 0 0),(2,.d (.v (.slice none 0 0))),(3,.d (vI rv.2.2)),(4,.row 1 1 0 (rv3).length),(5,.row 2 1 0 (a2).length),(6,.d (vI x)),(7,.ref 3 9 0 0),(30,.d (.arr 9 ((t.steps).map E0.d))),(31,.d (vI (t.steps.length:Int))),(32,.d (vI x)),(38,.d (.arr 1 ((e.need).map vI))),(39,.d (vI (e.need.length:Int))),(40,.d (vI x2))],[bx 13 (.d (D4.d t)),B0u rv3,B0u a2,bx 9 (.d (E0.d e))]⟩) (.prn [1,2,3,4,5,6,7,30,31,32,38,39,40] R) ⟨a,0,h,R⟩ ?_
  clear h
  rintro m10 st ⟨a2,x2,h,rfl⟩
  cases m10 with
  | zero=>cases(show(none:Option ((List Int) × Int))=some r from h)
  | succ m10 =>
  rw[B90]at h
  refine qG ?_
  refine Q4 R R R R ?_ ?_
  ·intro c3
   replace h:=J7 c3 h
   refine eN (B8 (C0 R (D7 (A6 (B8 (E3 (qG ?_)))))))
   obtain⟨e2,ie2,h⟩:=H1 h
   refine N8 tb (F0 ie2) (V1 ie2) R (I4 (y:=vI e2) tb (U5 (g:=vI) ie2) R (A3 R (eN (B8 (T1 kR (A0T R R R (A0 R ?_)))))))
   obtain⟨e3,ie3,h⟩:=H1 h
   refine Y1 tb R R R R R R (F0 ie3) (ix1 ie3) R R ?_
   refine A15 (y:=vI e3) tb R R R R (U5 (g:=fun a=>T.d (vI a)) ie3) R R R R ?_
   refine Q4 R R R R ?_ ?_
   ·intro c4
    replace h:=J7 c4 h
    refine A0 R (L9 12 R (D6 R (I0 kR (A6 (C0 R (J1 (A0T R R R (A0 R (A0 R (Y1 tb R R R R R R (F0 ie3) (ix1 ie3) R R ?_))))))))))
    obtain⟨a3,ia3,h⟩:=H1 h
    refine A5d (a':=(e2:Int)) tb R R R R ie3 R R R R ia3 R R ?_
    dsimp only[List.set_cons_zero,List.set_cons_succ,J2,C6,A0h,C5,B4I]
    first | rw[A2a ia3] | skip
    refine Y9 (D3 (A6 (J1 (O1 R (A0 R (eN ?_))))))
    exact⟨m10,_,lS,.prn [1,2,3,4,5,6,7,30,31,32,38,39,40] R,a3,(W (x2+1)),h,R⟩
   intro c4
   replace h:=P1 (nL c4) h
   refine A0 R (A0T R R R (A0 R ?_))
   obtain⟨e4,ie4,h⟩:=H1 h
   refine Y1 tb R R R R R R (F0 ie4) (ix1 ie4) R R ?_
   refine A15 (y:=vI e4) tb R R R R (U5 (g:=fun a=>T.d (vI a)) ie4) R R R R ?_
   refine A0T R R R (A0T R R R (A0 R (Y1 tb R R R R R R (F0 ie3) (ix1 ie3) R R ?_)))
   refine A15 (y:=vI e3) tb R R R R (U5 (g:=fun a=>T.d (vI a)) ie3) R R R R ?_
   obtain⟨e5,ie5,h⟩:=H1 h
   refine Y1 tb R R R R R R (F0 ie5) (ix1 ie5) R R ?_
   refine A15 (y:=vI e5) tb R R R R (U5 (g:=fun a=>T.d (vI a)) ie5) R R R R ?_
   refine A4l R R R R ?_ ?_
   ·intro c5
    replace h:=J7 c5 h
    refine D0 R (I0 kR (A6 (C0 R (J1 (A0T R R R (A0 R (A0 R (Y1 tb R R R R R R (F0 ie3) (ix1 ie3) R R ?_))))))))
    obtain⟨a4,ia4,h⟩:=H1 h
    refine A5d (a':=(e2:Int)) tb R R R R ie3 R R R R ia4 R R ?_
    dsimp only[List.set_cons_zero,List.set_cons_succ,J2,C6,A0h,C5,B4I]
    first | rw[A2a ia4] | skip
    refine Y9 (D3 (A6 (J1 (O1 R (A0 R (eN ?_))))))
    exact⟨m10,_,lS,.prn [1,2,3,4,5,6,7,30,31,32,38,39,40] R,a4,(W (x2+1)),h,R⟩
   intro c5
   replace h:=P1 (nL c5) h
   refine D0 R (I0 kR (A6 (C1 R (D7 (D3 (A6 (J1 (O1 R (A0 R (eN ?_))))))))))
   exact⟨m10,_,lS,.prn [1,2,3,4,5,6,7,30,31,32,38,39,40] R,a2,(W (x2+1)),h,R⟩
  intro c3
  replace h:=P1 (nL c3) h
  refine eN (B8 (C1 R (N5 (E4 (E4 ?_)))))
  subst hK10
  refine I5 (A6 (qG (A0T R R R (A0 R (C8 tb R (B5 (y:=vI e.least) tb R ?_))))))
  obtain⟨e6,ie6,h⟩:=H1 h
  refine Y1 tb R R R R R R (F0 ie6) (ix1 ie6) R R ?_
  obtain⟨rv4,irv4,h⟩:=H1 h
  refine A5d (a':=(e.least:Int)) tb R R R R ie6 R R R R irv4 R R ?_
  dsimp only[List.set_cons_zero,List.set_cons_succ,J2,C6,A0h,C5,B4I]
  first | rw[A2a irv4] | skip
  refine eN (qG (A0T R R R (A0 R ?_)))
  obtain⟨e7,ie7,h⟩:=H1 h
  refine Y1 tb R R R R R R (F0 ie7) (ix1 ie7) R R ?_
  refine A15 (y:=vI e7) tb R R R R (U5 (g:=fun a=>T.d (vI a)) ie7) R R R R ?_
  refine A7I R R R R ?_ ?_
  ·intro c6
   replace h:=J7 c6 h
   refine eN (C0 R (T1 kR (A0T R R R (A0 R ?_))))
   obtain⟨e8,ie8,h⟩:=H1 h
   refine Y1 tb R R R R R R (F0 ie8) (ix1 ie8) R R ?_
   refine A15 (y:=vI e8) tb R R R R (U5 (g:=fun a=>T.d (vI a)) ie8) R R R R ?_
   refine A0T R R R (A0T R R R (A0 R (Y1 tb R R R R R R (F0 ie7) (ix1 ie7) R R ?_)))
   refine A15 (y:=vI e7) tb R R R R (U5 (g:=fun a=>T.d (vI a)) ie7) R R R R ?_
   obtain⟨e9,ie9,h⟩:=H1 h
   refine Y1 tb R R R R R R (F0 ie9) (ix1 ie9) R R ?_
   refine A15 (y:=vI e9) tb R R R R (U5 (g:=fun a=>T.d (vI a)) ie9) R R R R ?_
   refine O1 R (Y1 tb R R R R R R (F0 ie8) (ix1 ie8) R R ?_)
   obtain⟨rv5,irv5,h⟩:=H1 h
   refine A5d (a':=((W (e8+e9)):Int)) tb R R R R ie8 R R R R irv5 R R ?_
   dsimp only[List.set_cons_zero,List.set_cons_succ,J2,C6,A0h,C5,B4I]
   first | rw[A2a irv5] | skip
   refine I0 kR (D3 (A6 (J1 (O1 R (A0 R (eN ?_))))))
   exact⟨m6,⟨[(1,.ref 0 13 0 0),(2,.d (.v (.slice none 0 0))),(3,.d (vI rv.2.2)),(4,.row 1 1 0 (rv5).length),(5,.row 2 1 0 (a2).length),(30,.d (.arr 9 ((t.steps).map E0.d))),(31,.d (vI (t.steps.length:Int))),(32,.d (vI (W (x+1))))],[bx 13 (.d (D4.d t)),B0u rv5,B0u a2]⟩,lS,.vw (κ:=[0,1,2]) (vK (.cons R R C37) R),rv5,a2,(W (x+1)),h,R⟩
  intro c6
  replace h:=P1 (Int.not_le.2 c6) h
  refine eN (C1 R (D7 (D3 (A6 (J1 (O1 R (A0 R (eN ?_))))))))
  exact⟨m6,⟨[(1,.ref 0 13 0 0),(2,.d (.v (.slice none 0 0))),(3,.d (vI rv.2.2)),(4,.row 1 1 0 (rv4).length),(5,.row 2 1 0 (a2).length),(30,.d (.arr 9 ((t.steps).map E0.d))),(31,.d (vI (t.steps.length:Int))),(32,.d (vI (W (x+1))))],[bx 13 (.d (D4.d t)),B0u rv4,B0u a2]⟩,lS,.vw (κ:=[0,1,2]) (vK (.cons R R C37) R),rv4,a2,(W (x+1)),h,R⟩
 intro c2
 replace h:=P1 (nL c2) h
 refine eN (B8 (C1 R (N5 (E4 (E4 ?_)))))
 subst hK6
 refine I5 (A6 (B8 (qG (C8 tb R (B5 (y := .arr 9 ((t.steps).map E0.d)) tb R (I7 tb R (A1n R R R R (A3 R (eN (E3 ?_))))))))))
 refine SW.own (ts':=[(2,.row 3 1 0 (([]:List Int)).length),(3,.d (vI rv.2.2)),(5,.row 2 1 0 (a).length),(10,.d (vI (W ((t.steps.length:Int)-1))))]) (L':=[bx 13 (.d (D4.d t)),B0u rv3,B0u a]) 1 R R (.cons .nil (.cons (.same _) (.cons (.same _) (.cons (.same _) .nil)))) (.same (.same (.same .nil))) ?_
 simp only[List.cons_append,List.nil_append]
 obtain⟨K12,hK12,h⟩:∃ K,K=_∧C1P F a K F ([]:List Int) (W ((t.steps.length:Int)-1))=some r:=⟨_,rfl,h⟩
 refine M2 (st0:=⟨[(2,.row 0 1 0 (([]:List Int)).length),(3,.d (vI rv.2.2)),(5,.row 1 1 0 (a).length),(10,.d (vI (W ((t.steps.length:Int)-1))))],[B0u ([]:List Int),B0u a]⟩) (fun m st=>∃ (A:(List Int)) (x3:Int),C1P F a K12 m A x3=some r∧st=⟨[(2,.row 0 1 0 (A).length),(3,.d (vI rv.2.2)),(5,.row 1 1 0 (a).length),(10,.d (vI x3))],[B0u A,B0u a]⟩) (.vw (κ:=[3,2]) (vK C37 R)) ⟨([]:List Int),(W ((t.steps.length:Int)-1)),h,R⟩ ?_
 clear h
 rintro m12 st ⟨A,x3,h,rfl⟩
 cases m12 with
 | zero=>cases(show(none:Option ((List Int) × Int))=some r from h)
 | succ m12 =>
 rw[C1P]at h
 refine B8 (qG (A0 R ?_))
 refine A7I R R R R ?_ ?_
 ·intro c7
  replace h:=J7 c7 h
  refine eN (C0 R (D7 (A6 (B8 (E3 (J1 (A0T R R R (A0 R (P7 tb R R R R R R R R R R R R R ?_)))))))))
  obtain⟨q2,iq2,h⟩:=H1 h
  refine B2k (g:=vI) (w:=A) (v:=[x3]) ([none,B0u a,B0u [x3]]) tb R R R R R R R R R R R iq2 R R R R R (A14 R R R (Y9 (D3 (A6 (J1 (A0T R R R (A0 R ?_)))))))
  obtain⟨e10,ie10,h⟩:=H1 h
  refine Y1 tb R R R R R R (F0 ie10) (ix1 ie10) R R ?_
  refine A15 (y:=vI e10) tb R R R R (U5 (g:=fun a=>T.d (vI a)) ie10) R R R R ?_
  refine A3 R (eN ?_)
  exact⟨m12,⟨[(2,.row 0 1 0 (q2).length),(3,.d (vI rv.2.2)),(5,.row 1 1 0 (a).length),(10,.d (vI e10))],[B0u q2,B0u a]⟩,lS,.vw (κ:=[3,1]) (vK C37 R),q2,e10,h,R⟩
 intro c7
 replace h:=P1 (Int.not_le.2 c7) h
 refine eN (C1 R (N5 (E4 (E4 ?_))))
 subst hK12
 refine I5 (A6 (qG (A0T R R R ?_)))
 obtain⟨rv6,k6,h⟩:=H1 h
 refine G7 (t' := .d (.tup [])) (ls:=[B0u rv6]) (news:=[]) ([0]) ([B0u rv6,B0u a]) (C2s (C2J k6).1) eK R (.inl ⟨R,R,R⟩) R R R R C4n R R R ((.row .nil)) .nil R R R R ?_
 first | (dsimp only[J2,C6,A0h,C5,B4I];rw[← (C2J k6).2]) | rw[← (C2J k6).2] | skip
 refine eN (qG (A0T R R R (A14 R R R (A3 R (eN (C9 ?_))))))
 obtain rfl:=sI h
 exact f2 [0] C23 R (.cons (.tmp 2) (.cons (.tmp 3) .nil)) R
theorem C2E {F:Nat} {t:D4} {r:((List Int) × Int)} (h:C2x F t=some r):PC Tryz.prog 29 [D4.d t] (.tup [.arr 1 ((r.1).map vI),.v (.int .i64 r.2)]):=(C2B h).toPC (.tupL (.cons (.row rfl rfl) (.cons (.d _) .nil)))
def A81 (F:Nat) (a:(List Int)) (b:(List Int)) (K:Int→Option Bool):Nat→Int→Option Bool
 | 0,_=>none
 | n+1,i=>if i<(a.length:Int)then((P3 a i).bind fun e=>(P3 b i).bind fun e2=>if e=e2 then(A81 F a b K n (W (i+1)))else(some false))else(K i)
def B3w (F:Nat) (a:(List Int)) (b:(List Int)):Option Bool:=if(a.length:Int)=(b.length:Int)then(A81 F a b (fun(i:Int)=>some true) F 0)else(some false)
theorem B7c {F:Nat} {a:(List Int)} {b:(List Int)} {r:Bool} (h:B3w F a b=some r):PC Tryz.prog 32 [.arr 1 ((a).map vI),.arr 1 ((b).map vI)] (.v (.bool r)):=by
 rw[B3w]at h
 refine SC.of_sw Tryz.func32 R R R ?_
 dsimp only[L8,List.map]
 refine qG (A3 R (eN (B8 (qG (A0 R (I7 tb R (A0 R (I7 tb R ?_))))))))
 refine V5 R R R R ?_ ?_
 ·intro c
  replace h:=P1 c h
  refine eN (C0 R (qG (A3 R (eN (C9 (B2 ?_))))))
  obtain rfl:=sI h
  exact f1 4 R
 intro c
 replace h:=J7 c h
 refine eN (C1 R (D7 (A6 (B8 (qG (A3 R (eN (E3 ?_))))))))
 obtain⟨K3,hK3,h⟩:∃ K,K=_∧A81 F a b K F 0=some r:=⟨_,rfl,h⟩
 refine M2 (fun m st=>∃ (i:Int),A81 F a b K3 m i=some r∧st=⟨[(0,.d (.arr 1 ((a).map vI))),(1,.d (.arr 1 ((b).map vI))),(4,.d (.v (.bool false))),(5,.d (vI i))],[]⟩) (.prn [0,1,4,5] R) ⟨0,h,R⟩ ?_
 clear h
 rintro m3 st ⟨i,h,rfl⟩
 cases m3 with
 | zero=>cases(show(none:Option Bool)=some r from h)
 | succ m3 =>
 rw[A81]at h
 refine B8 (qG (A0 R (A0 R (I7 tb R ?_))))
 refine Q4 R R R R ?_ ?_
 ·intro c2
  replace h:=J7 c2 h
  refine eN (C0 R (D7 (A6 (B8 (E3 (B8 (T1 kR (A0 R (A0 R ?_)))))))))
  obtain⟨e,ie,h⟩:=H1 h
  refine N8 tb (F0 ie) (V1 ie) R (I4 (y:=vI e) tb (U5 (g:=vI) ie) R (A0 R (A0 R ?_)))
  obtain⟨e2,ie2,h⟩:=H1 h
  refine N8 tb (F0 ie2) (V1 ie2) R (I4 (y:=vI e2) tb (U5 (g:=vI) ie2) R ?_)
  refine V5 R R R R ?_ ?_
  ·intro c3
   replace h:=P1 c3 h
   refine I0 kR (A6 (C0 R (qG (A3 R (eN (C9 (C4 (B2 (B2 (C4 (B2 ?_)))))))))))
   obtain rfl:=sI h
   exact f1 4 R
  intro c3
  replace h:=J7 c3 h
  refine I0 kR (A6 (C1 R (D7 (D3 (A6 (J1 (A0 R (O1 R (A3 R (eN ?_))))))))))
  exact⟨m3,_,lS,.prn [0,1,4,5] R,(W (i+1)),h,R⟩
 intro c2
 replace h:=P1 (nL c2) h
 refine eN (C1 R (N5 (E4 (E4 ?_))))
 subst hK3
 refine I5 (A6 (qG (A3 R (eN (C9 ?_)))))
 obtain rfl:=sI h
 exact f1 4 R
def A17 (F:Nat) (atv:Int) (kind:Int) (what:Int):Option C7:=some (C7.mk atv kind what 0 0 0 0 0)
theorem Z5 {F:Nat} {atv:Int} {kind:Int} {what:Int} {r:C7} (h:A17 F atv kind what=some r):PC Tryz.prog 27 [.v (.int .i64 atv),.v (.int .i64 kind),.v (.int .i64 what)] (C7.d r):=by
 rw[A17]at h
 refine SC.of_sw Tryz.func27 R R R ?_
 dsimp only[L8,List.map]
 refine qG (M5 tb R R R R R (eN (qG (A0 R (A0 R (A0 R (S1 (v := .d (.agg [vI atv,vI kind,vI what,vI 0,vI 0,vI 0,vI 0,vI 0])) tb R R (List.cons_ne_nil _ _) R R R R R R (I6 _ _ tb R (eN (C9 ?_))))))))))
 obtain rfl:=sI h
 exact U4 (t := .d (.agg [vI atv,vI kind,vI what,vI 0,vI 0,vI 0,vI 0,vI 0])) R R R (.cons (rc tb R) .nil)
def A3e (F:Nat) (a:(List Int)) (b:(List Int)) (K:Int→Option Bool):Nat→Int→Option Bool
 | 0,_=>none
 | n+1,i=>if i<(a.length:Int)then((P3 a i).bind fun e=>(P3 b i).bind fun e2=>if e=e2 then(A3e F a b K n (W (i+1)))else(some false))else(K i)
def A66 (F:Nat) (a:(List Int)) (b:(List Int)):Option Bool:=if(a.length:Int)=(b.length:Int)then(A3e F a b (fun(i:Int)=>some true) F 0)else(some false)
theorem B3N {F:Nat} {a:(List Int)} {b:(List Int)} {r:Bool} (h:A66 F a b=some r):PC Tryz.prog 21 [.arr 1 ((a).map vI),.arr 1 ((b).map vI)] (.v (.bool r)):=by
 rw[A66]at h
 refine SC.of_sw Tryz.func21 R R R ?_
 dsimp only[L8,List.map]
 refine qG (A3 R (eN (B8 (qG (A0 R (I7 tb R (A0 R (I7 tb R ?_))))))))
 refine V5 R R R R ?_ ?_
 ·intro c
  replace h:=P1 c h
  refine eN (C0 R (qG (A3 R (eN (C9 (B2 ?_))))))
  obtain rfl:=sI h
  exact f1 4 R
 intro c
 replace h:=J7 c h
 refine eN (C1 R (D7 (A6 (B8 (qG (A3 R (eN (E3 ?_))))))))
 obtain⟨K3,hK3,h⟩:∃ K,K=_∧A3e F a b K F 0=some r:=⟨_,rfl,h⟩
 refine M2 (fun m st=>∃ (i:Int),A3e F a b K3 m i=some r∧st=⟨[(0,.d (.arr 1 ((a).map vI))),(1,.d (.arr 1 ((b).map vI))),(4,.d (.v (.bool false))),(5,.d (vI i))],[]⟩) (.prn [0,1,4,5] R) ⟨0,h,R⟩ ?_
 clear h
 rintro m3 st ⟨i,h,rfl⟩
 cases m3 with
 | zero=>cases(show(none:Option Bool)=some r from h)
 | succ m3 =>
 rw[A3e]at h
 refine B8 (qG (A0 R (A0 R (I7 tb R ?_))))
 refine Q4 R R R R ?_ ?_
 ·intro c2
  replace h:=J7 c2 h
  refine eN (C0 R (D7 (A6 (B8 (E3 (B8 (T1 kR (A0 R (A0 R ?_)))))))))
  obtain⟨e,ie,h⟩:=H1 h
  refine N8 tb (F0 ie) (V1 ie) R (I4 (y:=vI e) tb (U5 (g:=vI) ie) R (A0 R (A0 R ?_)))
  obtain⟨e2,ie2,h⟩:=H1 h
  refine N8 tb (F0 ie2) (V1 ie2) R (I4 (y:=vI e2) tb (U5 (g:=vI) ie2) R ?_)
  refine V5 R R R R ?_ ?_
  ·intro c3
   replace h:=P1 c3 h
   refine I0 kR (A6 (C0 R (qG (A3 R (eN (C9 (C4 (B2 (B2 (C4 (B2 ?_)))))))))))
   obtain rfl:=sI h
   exact f1 4 R
  intro c3
  replace h:=J7 c3 h
  refine I0 kR (A6 (C1 R (D7 (D3 (A6 (J1 (A0 R (O1 R (A3 R (eN ?_))))))))))
  exact⟨m3,_,lS,.prn [0,1,4,5] R,(W (i+1)),h,R⟩
 intro c2
 replace h:=P1 (nL c2) h
 refine eN (C1 R (N5 (E4 (E4 ?_))))
 subst hK3
 refine I5 (A6 (qG (A3 R (eN (C9 ?_)))))
 obtain rfl:=sI h
 exact f1 4 R
def A9F (F:Nat) :Option D4:=(A9E F ).bind fun rv=>some (D4.mk rv.zones rv.doors rv.people rv.keys rv.squibs rv.panel rv.wait [(ByteArray.mk #[114,97,110,103,101]),(ByteArray.mk #[115,97,102,101,116,121])] [(D9.mk (ByteArray.mk #[109,97,105,110]) 1000 2)] [(E0.mk (ByteArray.mk #[102,105,108,108]) [] 100 200 false [] [] [] []),(E0.mk (ByteArray.mk #[112,111,119,101,114]) [0] 10 500 false [0] [] [] []),(E0.mk (ByteArray.mk #[99,104,101,99,107]) [0] 50 300 false [] [0] [] []),(E0.mk (ByteArray.mk #[112,111,108,108]) [1,2] 0 20 true [] [0] [] []),(E0.mk (ByteArray.mk #[108,97,117,110,99,104]) [3] 5 60 true [] [0] [0] [])] [1,3] 200 400)
theorem A7Y {F:Nat}  {r:D4} (h:A9F F =some r):PC Tryz.prog 39 [] (D4.d r):=by
 rw[A9F]at h
 refine PC.of_lend ?_
 refine SC.of_sw Tryz.func39 R R R ?_
 dsimp only[L8,List.map]
 refine qG (M5 tb R R R R R (eN (qG (P7 tb R R R R R R R R R R R R R (A14 R R R (eN (qG ?_)))))))
 obtain⟨rv,k,h⟩:=H1 h
 refine J5 (B2I k) eK R R R R (P7 tb R R R R R R R R R R R R R (S1 (v := .d (.agg [.v (.string (ByteArray.mk #[109,97,105,110])),vI 1000,vI 2])) tb R R (List.cons_ne_nil _ _) R R R R R R (P7 tb R R R R R R R R R R R R R ?_)))
 refine S1 (v := .d (.agg [.v (.string (ByteArray.mk #[102,105,108,108])),.v (.slice none 0 0),vI 100,vI 200,.v (.bool false),.v (.slice none 0 0),.v (.slice none 0 0),.v (.slice none 0 0),.v (.slice none 0 0)])) tb R R (List.cons_ne_nil _ _) R R R R R R (P7 tb R R R R R R R R R R R R R (A0T R R R ?_))
 refine S1 (v := .agg [.d (.v (.string (ByteArray.mk #[112,111,119,101,114]))),.row 4 1 0 ([0]).length,.d (vI 10),.d (vI 500),.d (.v (.bool false)),.row 1 1 0 ([0]).length,.d (.v (.slice none 0 0)),.d (.v (.slice none 0 0)),.d (.v (.slice none 0 0))]) tb R R (List.cons_ne_nil _ _) R R R R R R (P7 tb R R R R R R R R R R R R R (A0T R R R ?_))
 refine S1 (v := .agg [.d (.v (.string (ByteArray.mk #[99,104,101,99,107]))),.row 5 1 0 ([0]).length,.d (vI 50),.d (vI 300),.d (.v (.bool false)),.d (.v (.slice none 0 0)),.row 1 1 0 ([0]).length,.d (.v (.slice none 0 0)),.d (.v (.slice none 0 0))]) tb R R (List.cons_ne_nil _ _) R R R R R R (P7 tb R R R R R R R R R R R R R (A0T R R R ?_))
 refine S1 (v := .agg [.d (.v (.string (ByteArray.mk #[112,111,108,108]))),.row 6 1 0 ([1,2]).length,.d (vI 0),.d (vI 20),.d (.v (.bool true)),.d (.v (.slice none 0 0)),.row 1 1 0 ([0]).length,.d (.v (.slice none 0 0)),.d (.v (.slice none 0 0))]) tb R R (List.cons_ne_nil _ _) R R R R R R (P7 tb R R R R R R R R R R R R R (A0T R R R (A0T R R R ?_)))
 refine S1 (v := .agg [.d (.v (.string (ByteArray.mk #[108,97,117,110,99,104]))),.row 7 1 0 ([3]).length,.d (vI 5),.d (vI 60),.d (.v (.bool true)),.d (.v (.slice none 0 0)),.row 1 1 0 ([0]).length,.row 1 1 0 ([0]).length,.d (.v (.slice none 0 0))]) tb R R (List.cons_ne_nil _ _) R R R R R R (P7 tb R R R R R R R R R R R R R (P7 tb R R R R R R R R R R R R R ?_))
 refine S1 (v := .d (.agg [vI 200,vI 400])) tb R R (List.cons_ne_nil _ _) R R R R R R ?_
 refine S1 (v := .agg [.d (.arr 8 ((rv.zones).map F6.d)),.d (.arr 2 ((rv.doors).map G6.d)),.d (.arr 2 ((rv.people).map E2.d)),.d (.arr 1 ((rv.keys).map vS)),.d (.arr 6 ((rv.squibs).map D1.d)),.d (vI rv.panel),.d (vI rv.wait),.row 2 1 0 ([(ByteArray.mk #[114,97,110,103,101]),(ByteArray.mk #[115,97,102,101,116,121])]).length,.row 3 3 0 ([(D9.mk (ByteArray.mk #[109,97,105,110]) 1000 2)]).length,.row 8 9 0 5,.row 9 1 0 ([1,3]).length,.d (vI 200),.d (vI 400)]) tb R R (List.cons_ne_nil _ _) kR kR kR kR R R ?_
 refine I6 _ _ tb R (eN (C9 ?_))
 obtain rfl:=sI h
 exact(U0 (t := .agg [.d (.arr 8 ((rv.zones).map F6.d)),.d (.arr 2 ((rv.doors).map G6.d)),.d (.arr 2 ((rv.people).map E2.d)),.d (.arr 1 ((rv.keys).map vS)),.d (.arr 6 ((rv.squibs).map D1.d)),.d (vI rv.panel),.d (vI rv.wait),.row 0 1 0 ([(ByteArray.mk #[114,97,110,103,101]),(ByteArray.mk #[115,97,102,101,116,121])]).length,.row 1 3 0 ([(D9.mk (ByteArray.mk #[109,97,105,110]) 1000 2)]).length,.row 2 9 0 5,.row 8 1 0 ([1,3]).length,.d (vI 200),.d (vI 400)]) (L:=[C4g [(ByteArray.mk #[114,97,110,103,101]),(ByteArray.mk #[115,97,102,101,116,121])],C3x [(D9.mk (ByteArray.mk #[109,97,105,110]) 1000 2)],some ⟨9,[.d (.agg [.v (.string (ByteArray.mk #[102,105,108,108])),.v (.slice none 0 0),vI 100,vI 200,.v (.bool false),.v (.slice none 0 0),.v (.slice none 0 0),.v (.slice none 0 0),.v (.slice none 0 0)]),.agg [.d (.v (.string (ByteArray.mk #[112,111,119,101,114]))),.row 3 1 0 ([0]).length,.d (vI 10),.d (vI 500),.d (.v (.bool false)),.row 4 1 0 ([0]).length,.d (.v (.slice none 0 0)),.d (.v (.slice none 0 0)),.d (.v (.slice none 0 0))],.agg [.d (.v (.string (ByteArray.mk #[99,104,101,99,107]))),.row 5 1 0 ([0]).length,.d (vI 50),.d (vI 300),.d (.v (.bool false)),.d (.v (.slice none 0 0)),.row 4 1 0 ([0]).length,.d (.v (.slice none 0 0)),.d (.v (.slice none 0 0))],.agg [.d (.v (.string (ByteArray.mk #[112,111,108,108]))),.row 6 1 0 ([1,2]).length,.d (vI 0),.d (vI 20),.d (.v (.bool true)),.d (.v (.slice none 0 0)),.row 4 1 0 ([0]).length,.d (.v (.slice none 0 0)),.d (.v (.slice none 0 0))],.agg [.d (.v (.string (ByteArray.mk #[108,97,117,110,99,104]))),.row 7 1 0 ([3]).length,.d (vI 5),.d (vI 60),.d (.v (.bool true)),.d (.v (.slice none 0 0)),.row 4 1 0 ([0]).length,.row 4 1 0 ([0]).length,.d (.v (.slice none 0 0))]]⟩,B0u [0],B0u [0],B0u [0],B0u [1,2],B0u [3],B0u [1,3]]) (κ:=[2,3,8,4,1,5,6,7,9]) R (.cons (rc tb R) .nil) (vK (.row R (.row R (.cons R R C38))) R) ⟨_,R,(.aggL (dL (dL (dL (dL (dL (dL (dL (.cons (.row R R) (.cons (.row R R) (.cons (.rowL R R (.cons (.aggDL (dL (.cons .nilA (dL (dL (dL (.cons .nilA (.cons .nilA (.cons .nilA (.cons .nilA .nil)))))))))) (.cons (.aggL (dL (.cons (.row R R) (dL (dL (dL (.cons (.row R R) (.cons .nilA (.cons .nilA (.cons .nilA .nil)))))))))) (.cons (.aggL (dL (.cons (.row R R) (dL (dL (dL (.cons .nilA (.cons (.row R R) (.cons .nilA (.cons .nilA .nil)))))))))) (.cons (.aggL (dL (.cons (.row R R) (dL (dL (dL (.cons .nilA (.cons (.row R R) (.cons .nilA (.cons .nilA .nil)))))))))) (.cons (.aggL (dL (.cons (.row R R) (dL (dL (dL (.cons .nilA (.cons (.row R R) (.cons (.row R R) (.cons .nilA .nil)))))))))) .nil)))))) (.cons (.row R R) (dL (dL .nil))))))))))))))⟩)
def B1Z (F:Nat) :Option (List C7):=(A17 F 0 1 0).bind fun rv=>(A17 F 90 2 0).bind fun rv2=>(A17 F 100 2 0).bind fun rv3=>(A17 F 100 1 2).bind fun rv4=>(A17 F 100 1 1).bind fun rv5=>(A17 F 110 1 2).bind fun rv6=>(A17 F 120 2 1).bind fun rv7=>(A17 F 170 2 2).bind fun rv8=>(A17 F 180 1 3).bind fun rv9=>(A17 F 180 5 0).bind fun rv10=>(A17 F 181 5 1).bind fun rv11=>(A17 F 185 1 3).bind fun rv12=>(A17 F 190 2 3).bind fun rv13=>(A17 F 190 1 4).bind fun rv14=>(A17 F 199 2 4).bind fun rv15=>(A17 F 200 2 4).bind fun rv16=>some [rv,rv2,rv3,rv4,rv5,rv6,rv7,rv8,rv9,rv10,rv11,rv12,rv13,rv14,rv15,rv16]
theorem B63 {F:Nat}  {r:(List C7)} (h:B1Z F =some r):SCR Tryz.prog 40 (List.map T.d []) [] (.row 0 8 0 (r).length) (List.map some [(B62 r)]):=by
 rw[B1Z]at h
 refine SC.of_sw Tryz.func40 R R R ?_
 dsimp only[L8,List.map]
 refine qG (A3 R (eN (qG ?_)))
 obtain⟨rv,k,h⟩:=H1 h
 refine J5 (Z5 k) eK R R R R ?_
 obtain⟨rv2,k2,h⟩:=H1 h
 refine J5 (Z5 k2) eK R R R R ?_
 obtain⟨rv3,k3,h⟩:=H1 h
 refine J5 (Z5 k3) eK R R R R ?_
 obtain⟨rv4,k4,h⟩:=H1 h
 refine J5 (Z5 k4) eK R R R R ?_
 obtain⟨rv5,k5,h⟩:=H1 h
 refine J5 (Z5 k5) eK R R R R ?_
 obtain⟨rv6,k6,h⟩:=H1 h
 refine J5 (Z5 k6) eK R R R R ?_
 obtain⟨rv7,k7,h⟩:=H1 h
 refine J5 (Z5 k7) eK R R R R ?_
 obtain⟨rv8,k8,h⟩:=H1 h
 refine J5 (Z5 k8) eK R R R R ?_
 obtain⟨rv9,k9,h⟩:=H1 h
 refine J5 (Z5 k9) eK R R R R ?_
 obtain⟨rv10,k10,h⟩:=H1 h
 refine J5 (Z5 k10) eK R R R R ?_
 obtain⟨rv11,k11,h⟩:=H1 h
 refine J5 (Z5 k11) eK R R R R ?_
 obtain⟨rv12,k12,h⟩:=H1 h
 refine J5 (Z5 k12) eK R R R R ?_
 obtain⟨rv13,k13,h⟩:=H1 h
 refine J5 (Z5 k13) eK R R R R ?_
 obtain⟨rv14,k14,h⟩:=H1 h
 refine J5 (Z5 k14) eK R R R R ?_
 obtain⟨rv15,k15,h⟩:=H1 h
 refine J5 (Z5 k15) eK R R R R ?_
 obtain⟨rv16,k16,h⟩:=H1 h
 refine J5 (Z5 k16) eK R R R R (P7 tb R R R R R R R R R R R R R (A14 R R R (eN (C9 ?_))))
 obtain rfl:=sI h
 exact f2 [0] C23 R (.cons (.tmp 0) .nil) R
theorem B0S {F:Nat}  {r:(List C7)} (h:B1Z F =some r):PC Tryz.prog 40 [] (.arr 8 ((r).map C7.d)):=(B63 h).toPC (.row rfl rfl)
def A7X (F:Nat) :Option Bool:=(A9F F ).bind fun rv=>(B1Z F ).bind fun rv2=>(A36 F rv rv2).bind fun rv3=>(A9F F ).bind fun rv4=>(B1Z F ).bind fun rv5=>(A7A rv5 0 5).bind fun q=>(A3Z F rv4 q 120).bind fun rv6=>(A9F F ).bind fun rv7=>(A85 F rv7 []).bind fun rv8=>(A9F F ).bind fun rv9=>(B1Z F ).bind fun rv10=>(A3Z F rv9 rv10 300).bind fun rv11=>if rv3.2.2=0 then(if rv6.2=0 then(if rv8.2=0 then(if rv11.2=9 then(if(rv3.2.1.length:Int)=16 then((P3 rv3.2.1 14).bind fun e=>if e=187 then(if rv3.1.now=200 then(if rv6.1=200 then(some (decide (rv8.1=245)))else(some false))else(some false))else(some false))else(some false))else(some false))else(some false))else(some false))else(some false)
theorem B0R {F:Nat}  {r:Bool} (h:A7X F =some r):PC Tryz.prog 22 [] (.v (.bool r)):=by
 rw[A7X]at h
 refine SC.of_sw Tryz.func22 R R R ?_
 dsimp only[L8,List.map]
 refine qG (A3 R (eN (qG ?_)))
 obtain⟨rv,k,h⟩:=H1 h
 refine J5 (A7Y k) eK R R R R ?_
 obtain⟨rv2,k2,h⟩:=H1 h
 refine J5 (B0S k2) eK R R R R ?_
 obtain⟨rv3,k3,h⟩:=H1 h
 refine J5 (A6l k3) eK R R R R (A0 R (Q1 (t:=H2.d rv3.1) R R R R (Q1 (t := .arr 1 ((rv3.2.1).map vI)) R R R R (Q1 (t:=vI rv3.2.2) R R R R (M5 tb R R R R R (I6 _ _ tb R (A3 R (A3 R (eN (qG ?_))))))))))
 obtain⟨rv4,k4,h⟩:=H1 h
 refine J5 (A7Y k4) eK R R R R ?_
 obtain⟨rv5,k5,h⟩:=H1 h
 refine J5 (B0S k5) eK R R R R ?_
 obtain⟨q,iq,h⟩:=H1 h
 refine A6E tb R R R R R R iq R R ?_
 obtain⟨rv6,k6,h⟩:=H1 h
 refine J5 (A6d k6) eK R R R R (A0 R (Q1 (t:=vI rv6.1) R R R R (Q1 (t:=vI rv6.2) R R R R (A3 R (A3 R (eN (qG ?_)))))))
 obtain⟨rv7,k7,h⟩:=H1 h
 refine J5 (A7Y k7) eK R R R R ?_
 obtain⟨rv8,k8,h⟩:=H1 h
 refine A19 (B1B k8) R eK R R ((dL (.cons .nilA .nil))) R R (A0 R (Q1 (t:=vI rv8.1) R R R R (Q1 (t:=vI rv8.2) R R R R (A3 R (A3 R (eN (qG ?_)))))))
 obtain⟨rv9,k9,h⟩:=H1 h
 refine J5 (A7Y k9) eK R R R R ?_
 obtain⟨rv10,k10,h⟩:=H1 h
 refine J5 (B0S k10) eK R R R R ?_
 obtain⟨rv11,k11,h⟩:=H1 h
 refine J5 (A6d k11) eK R R R R (A0 R (Q1 (t:=vI rv11.1) R R R R (Q1 (t:=vI rv11.2) R R R R (A3 R (A3 R (eN (qG (A0 R ?_))))))))
 refine Z3 R R R R ?_ ?_
 ·intro c
  replace h:=J7 c h
  refine A0 R (A0 R ?_)
  refine Z3 R R R R ?_ ?_
  ·intro c2
   replace h:=J7 c2 h
   refine D6 R (A0 R (A0 R ?_))
   refine Z3 R R R R ?_ ?_
   ·intro c3
    replace h:=J7 c3 h
    refine D6 R (A0 R (A0 R ?_))
    refine Z3 R R R R ?_ ?_
    ·intro c4
     replace h:=J7 c4 h
     refine D6 R (A0 R (A0 R (I7 tb R ?_)))
     refine Z3 R R R R ?_ ?_
     ·intro c5
      replace h:=J7 c5 h
      refine D6 R (A0 R (A0 R ?_))
      obtain⟨e,ie,h⟩:=H1 h
      refine N8 tb (F0 ie) (V1 ie) R (I4 (y:=vI e) tb (U5 (g:=vI) ie) R ?_)
      refine Z3 R R R R ?_ ?_
      ·intro c6
       replace h:=J7 c6 h
       refine D6 R (A0 R (C8 tb R (B5 (y:=vI rv3.1.now) tb R ?_)))
       refine Z3 R R R R ?_ ?_
       ·intro c7
        replace h:=J7 c7 h
        refine D6 R (A0 R (A0 R ?_))
        refine Z3 R R R R ?_ ?_
        ·intro c8
         replace h:=J7 c8 h
         refine D6 R (A0 R (A0 R (A3s R R R R (D6 R (A3 R (eN (C9 ?_)))))))
         obtain rfl:=sI h
         exact f1 0 R
        intro c8
        replace h:=P1 c8 h
        refine D6 R (A0 R (L9 2 R (D0 R (A3 R (eN (C9 ?_))))))
        obtain rfl:=sI h
        exact f1 0 R
       intro c7
       replace h:=P1 c7 h
       refine D6 R (A0 R (L9 2 R (D0 R (A0 R (L9 2 R (D0 R (A3 R (eN (C9 ?_)))))))))
       obtain rfl:=sI h
       exact f1 0 R
      intro c6
      replace h:=P1 c6 h
      refine D6 R (A0 R (L9 3 R (D0 R (A0 R (L9 2 R (D0 R (A0 R (L9 2 R (D0 R (A3 R (eN (C9 ?_))))))))))))
      obtain rfl:=sI h
      exact f1 0 R
     intro c5
     replace h:=P1 c5 h
     refine D6 R (A0 R (L9 4 R (D0 R (A0 R (L9 3 R (D0 R (A0 R (L9 2 R (D0 R (A0 R (L9 2 R (D0 R (A3 R (eN (C9 ?_)))))))))))))))
     obtain rfl:=sI h
     exact f1 0 R
    intro c4
    replace h:=P1 c4 h
    refine D6 R (A0 R (L9 3 R (D0 R (A0 R (L9 4 R (D0 R (A0 R (L9 3 R (D0 R (A0 R (L9 2 R (D0 R (A0 R (L9 2 R (D0 R (A3 R (eN (C9 ?_))))))))))))))))))
    obtain rfl:=sI h
    exact f1 0 R
   intro c3
   replace h:=P1 c3 h
   refine D6 R (A0 R (L9 2 R (D0 R (A0 R (L9 3 R (D0 R (A0 R (L9 4 R (D0 R (A0 R (L9 3 R (D0 R (A0 R (L9 2 R (D0 R (A0 R (L9 2 R (D0 R (A3 R (eN (C9 ?_)))))))))))))))))))))
   obtain rfl:=sI h
   exact f1 0 R
  intro c2
  replace h:=P1 c2 h
  refine D6 R (A0 R (L9 2 R (D0 R (A0 R (L9 2 R (D0 R (A0 R (L9 3 R (D0 R (A0 R (L9 4 R (D0 R (A0 R (L9 3 R (D0 R (A0 R (L9 2 R (D0 R (A0 R (L9 2 R (D0 R (A3 R (eN (C9 ?_))))))))))))))))))))))))
  obtain rfl:=sI h
  exact f1 0 R
 intro c
 replace h:=P1 c h
 refine A0 R (L9 2 R (D0 R (A0 R (L9 2 R (D0 R (A0 R (L9 2 R (D0 R (A0 R (L9 3 R (D0 R (A0 R (L9 4 R (D0 R (A0 R (L9 3 R (D0 R (A0 R (L9 2 R (D0 R (A0 R (L9 2 R (D0 R (A3 R (eN (C9 ?_))))))))))))))))))))))))))
 obtain rfl:=sI h
 exact f1 0 R
def C2k (F:Nat) (rv:D4) (q2:(List C7)):Option Bool:=(A8i ([]:List C7) q2).bind fun q3=>(A17 F 191 6 1).bind fun rv15=>(A17 F 192 1 4).bind fun rv16=>(A17 F 195 7 0).bind fun rv17=>(A8i q3 [rv15,rv16,rv17]).bind fun q4=>(A36 F rv q4).bind fun rv18=>(A3Z F rv q4 195).bind fun rv19=>if rv18.2.2=0 then(if rv19.2=0 then(if(rv18.2.1.length:Int)=16 then((P3 rv18.2.1 13).bind fun e3=>if e3=0 then((P3 rv18.2.1 14).bind fun e4=>if e4=183 then((P3 rv18.2.1 15).bind fun e5=>if e5=0 then(if rv19.1=250 then((A7X 100 ).bind fun rv20=>some rv20)else(some false))else(some false))else(some false))else(some false))else(some false))else(some false))else(some false)
def C2n (F:Nat) (rv:D4) (rv2:(List C7)) (rv6:(H2 × (List Int) × Int)):Option Bool:=(A66 F rv6.2.1 ([0,186,0,185,0,0,0,0,184,0,0,0,0,0,187,0]:List Int)).bind fun rv10=>if rv10=true then((A7A rv2 0 5).bind fun q=>(C10 F rv q).bind fun rv11=>(A7A rv2 0 13).bind fun q2=>(C10 F rv q2).bind fun rv12=>if rv11.2=0 then(if rv12.2=0 then((B3w F rv11.1 ([600]:List Int)).bind fun rv13=>if rv13=true then((B3w F rv12.1 ([600]:List Int)).bind fun rv14=>if rv14=true then(C2k F rv q2)else(some false))else(some false))else(some false))else(some false))else(some false)
def F2 (F:Nat) :Option Bool:=some false
def C1y (F:Nat) (rv:D4) (K:Int→Option Bool):Nat→Int→Option Bool
 | 0,_=>none
 | n+1,x=>if x<3 then((P3 ([0,240,241]:List Int) x).bind fun e=>(A3Z F rv [] e).bind fun rv4=>if rv4.2=0 then((P3 ([200,395,396]:List Int) x).bind fun e2=>if rv4.1=e2 then(C1y F rv K n (W (x+1)))else(some false))else(some false))else(K x)
def C2y (F:Nat) :Option Bool:=(A9F F ).bind fun rv=>(B1Z F ).bind fun rv2=>(C2x F rv).bind fun rv3=>C1y F rv (fun(x:Int)=>(C2r F rv [] 0).bind fun rv5=>(A36 F rv rv2).bind fun rv6=>if rv3.2=0 then(if rv5.2=0 then(if rv6.2.2=0 then((B3w F rv3.1 ([0,2,3,4]:List Int)).bind fun rv7=>if rv7=true then((B3w F rv5.1 ([0]:List Int)).bind fun rv8=>if rv8=true then((B3w F rv6.1.left ([800]:List Int)).bind fun rv9=>if rv9=true then(if rv6.1.now=200 then(C2n F rv rv2 rv6)else(F2 F))else(F2 F))else(F2 F))else(F2 F))else(F2 F))else(F2 F))else(F2 F)) F 0
theorem C2A {F:Nat}  {r:Bool} (h:C2y F =some r):PC Tryz.prog 15 [] (.v (.bool r)):=by
 rw[C2y]at h
 refine SC.of_sw Tryz.func15 R R R ?_
 dsimp only[L8,List.map]
 refine qG (A3 R (eN (qG ?_)))
 obtain⟨rv,k,h⟩:=H1 h
 refine J5 (A7Y k) eK R R R R ?_
 obtain⟨rv2,k2,h⟩:=H1 h
 refine J5 (B0S k2) eK R R R R (M5 tb R R R R R (I6 _ _ tb R (A3 R (eN (qG (B5 (y:=D4.d rv) tb R ?_))))))
 obtain⟨rv3,k3,h⟩:=H1 h
 refine J5 (C2E k3) eK R R R R (A0 R (Q1 (t := .arr 1 ((rv3.1).map vI)) R R R R (Q1 (t:=vI rv3.2) R R R R (A3 R (A3 R (eN (qG (P7 tb R R R R R R R R R R R R R (P7 tb R R R R R R R R R R R R R (A14 R R R (A14 R R R (eN (B8 (qG (A3 R (eN (E3 ?_)))))))))))))))))
 obtain⟨K3,hK3,h⟩:∃ K,K=_∧C1y F rv K F 0=some r:=⟨_,rfl,h⟩
 refine M2 (fun m st=>∃ (x:Int),C1y F rv K3 m x=some r∧st=⟨[(0,.d (.v (.bool false))),(1,.ref 0 13 0 0),(2,.d (.arr 8 ((rv2).map C7.d))),(3,.d (.arr 1 ((rv3.1).map vI))),(4,.d (vI rv3.2)),(5,.row 1 1 0 (([0,240,241]:List Int)).length),(6,.row 2 1 0 (([200,395,396]:List Int)).length),(7,.d (vI x))],[bx 13 (.d (D4.d rv)),B0u ([0,240,241]:List Int),B0u ([200,395,396]:List Int)]⟩) (.prn [0,1,2,3,4,5,6,7] R) ⟨0,h,R⟩ ?_
 clear h
 rintro m3 st ⟨x,h,rfl⟩
 cases m3 with
 | zero=>cases(show(none:Option Bool)=some r from h)
 | succ m3 =>
 rw[C1y]at h
 refine B8 (qG (A0 R ?_))
 refine Q4 R R R R ?_ ?_
 ·intro c
  replace h:=J7 c h
  refine eN (C0 R (D7 (A6 (B8 (E3 (B8 (T1 kR (B5 (y:=D4.d rv) tb R (A0T R R R (A0 R ?_))))))))))
  obtain⟨e,ie,h⟩:=H1 h
  refine Y1 tb R R R R R R (F0 ie) (ix1 ie) R R ?_
  refine A15 (y:=vI e) tb R R R R (U5 (g:=fun a=>T.d (vI a)) ie) R R R R ?_
  obtain⟨rv4,k4,h⟩:=H1 h
  refine C3m ((.cons (.same _) (.cons (.nil _) (.cons (.same _) .nil)))) (A6d k4) eK R R R R (A0 R (Q1 (t:=vI rv4.1) R R R R (Q1 (t:=vI rv4.2) R R R R (A3 R (A3 R (I0 kR (A6 (qG (A0 R ?_)))))))))
  refine V5 R R R R ?_ ?_
  ·intro c2
   replace h:=P1 c2 h
   refine A0 R (L9 6 R (D6 R (eN (C0 R (qG (A3 R (eN (C9 (C4 (B2 (B2 (C4 (B2 ?_)))))))))))))
   obtain rfl:=sI h
   exact f1 0 R
  intro c2
  replace h:=J7 c2 h
  refine A0 R (A0 R (A0T R R R (A0 R ?_)))
  obtain⟨e2,ie2,h⟩:=H1 h
  refine Y1 tb R R R R R R (F0 ie2) (ix1 ie2) R R ?_
  refine A15 (y:=vI e2) tb R R R R (U5 (g:=fun a=>T.d (vI a)) ie2) R R R R ?_
  refine V5 R R R R ?_ ?_
  ·intro c3
   replace h:=P1 c3 h
   refine D0 R (eN (C0 R (qG (A3 R (eN (C9 (C4 (B2 (B2 (C4 (B2 ?_)))))))))))
   obtain rfl:=sI h
   exact f1 0 R
  intro c3
  replace h:=J7 c3 h
  refine D0 R (eN (C1 R (D7 (D3 (A6 (J1 (A0 R (O1 R (A3 R (eN ?_))))))))))
  exact⟨m3,_,lS,.prn [0,1,2,3,4,5,6,7] R,(W (x+1)),h,R⟩
 intro c
 replace h:=P1 (nL c) h
 refine eN (C1 R (N5 (E4 (E4 ?_))))
 subst hK3
 refine I5 (A6 (qG (B5 (y:=D4.d rv) tb R ?_)))
 obtain⟨rv5,k5,h⟩:=H1 h
 refine A3j (t' := .tup [.row 3 1 0 (rv5.1).length,.d (vI rv5.2)]) (news':=[(B7 rv5.1)]) (C20 k5) R ((.row (fun _=>rfl) .nil)) eK R R ((dL (.cons .nilA (dL .nil)))) R ((.row .nil)) R R R ?_
 refine A1D (.tup [.row 3 1 0 (rv5.1).length,.d (vI rv5.2)]) R R R (A1B (t := .row 3 1 0 (rv5.1).length) R R R R (A1B (t := .d (vI rv5.2)) R R R R (A14 R R R (A3 R (eN (qG (B5 (y:=D4.d rv) tb R (A0 R ?_))))))))
 obtain⟨rv6,k6,h⟩:=H1 h
 refine J5 (A6l k6) eK R R R R (A0 R (Q1 (t:=H2.d rv6.1) R R R R (Q1 (t := .arr 1 ((rv6.2.1).map vI)) R R R R (Q1 (t:=vI rv6.2.2) R R R R (M5 tb R R R R R (I6 _ _ tb R (A3 R (A3 R (eN (B8 ?_))))))))))
 refine W5 (fun zz:Unit=>C2n F rv rv2 rv6=some r) (fun zz:Unit=>⟨[(0,.d (.v (.bool false))),(1,.ref 0 13 0 0),(2,.d (.arr 8 ((rv2).map C7.d))),(13,.d (.arr 1 ((rv6.2.1).map vI)))],[bx 13 (.d (D4.d rv))]⟩) ?_ ?_
 ·clear h
  rintro⟨⟩ h
  rw[C2n]at h
  refine B8 (qG (A0 R (P7 tb R R R R R R R R R R R R R ?_)))
  obtain⟨rv10,k10,h⟩:=H1 h
  refine A4k (B3N k10) eK R R ((dL (.cons (.row R R) .nil))) R R ?_ ?_
  ·intro c11
   replace h:=J7 c11 h
   refine A0a R R R (eN (C1 R (D7 (A6 (B8 (T1 kR (B5 (y:=D4.d rv) tb R (A0 R ?_))))))))
   obtain⟨q,iq,h⟩:=H1 h
   refine A6E tb R R R R R R iq R R ?_
   obtain⟨rv11,k11,h⟩:=H1 h
   refine J5 (C2V k11) eK R R R R (A0 R (Q1 (t := .arr 1 ((rv11.1).map vI)) R R R R (Q1 (t:=vI rv11.2) R R R R (A3 R (A3 R (I0 kR (A6 (B8 (T1 kR (B5 (y:=D4.d rv) tb R (A0 R ?_)))))))))))
   obtain⟨q2,iq2,h⟩:=H1 h
   refine A6E tb R R R R R R iq2 R R ?_
   obtain⟨rv12,k12,h⟩:=H1 h
   refine J5 (C2V k12) eK R R R R (A0 R (Q1 (t := .arr 1 ((rv12.1).map vI)) R R R R (Q1 (t:=vI rv12.2) R R R R (A3 R (A3 R (I0 kR (A6 (B8 ?_))))))))
   refine W5 (fun zz:Unit=>C2k F rv q2=some r) (fun zz:Unit=>⟨[(0,.d (.v (.bool false))),(1,.ref 0 13 0 0),(2,.d (.arr 8 ((rv2).map C7.d)))],[bx 13 (.d (D4.d rv))]⟩) ?_ ?_
   ·clear h
    rintro⟨⟩ h
    rw[C2k]at h
    refine qG (P7 tb R R R R R R R R R R R R R (A0 R (A6E tb R R R R R R iq2 R R ?_)))
    obtain⟨q3,iq3,h⟩:=H1 h
    refine C3k (g:=C7.d) (w:=([]:List C7)) (v:=q2) ([bx 13 (.d (D4.d rv)),none]) tb R R R R R R R R (by intro _;exact R) iq3 R R R R R ?_
    obtain⟨rv15,k15,h⟩:=H1 h
    refine J5 (Z5 k15) eK R R R R ?_
    obtain⟨rv16,k16,h⟩:=H1 h
    refine J5 (Z5 k16) eK R R R R ?_
    obtain⟨rv17,k17,h⟩:=H1 h
    refine J5 (Z5 k17) eK R R R R (P7 tb R R R R R R R R R R R R R ?_)
    obtain⟨q4,iq4,h⟩:=H1 h
    refine B2k (g:=C7.d) (w:=q3) (v:=[rv15,rv16,rv17]) ([bx 13 (.d (D4.d rv)),none,none,C3n [rv15,rv16,rv17]]) tb R R R R R R R R R R R iq4 R R R R R (A14 R R R (eN (B8 ?_)))
    refine SW.fz (ts':=[(0,.d (.v (.bool false))),(1,.ref 0 13 0 0),(2,.d (.arr 8 ((rv2).map C7.d))),(17,.d (.arr 8 ((q4).map C7.d))),(133,.row 1 8 0 (([]:List C7)).length),(134,.d (.arr 8 ((rv2).map C7.d))),(135,.d (.arr 8 ((q2).map C7.d))),(136,.row 2 8 0 (q3).length),(137,.d (C7.d rv15)),(138,.d (C7.d rv16)),(139,.d (C7.d rv17)),(140,.row 3 8 0 ([rv15,rv16,rv17]).length),(141,.d (.arr 8 ((q4).map C7.d)))]) (L':=[bx 13 (.d (D4.d rv)),none,none,C3n [rv15,rv16,rv17],none]) (w:=q4) (f:=C7.d) 4 8 R (.cons (.same _) (.cons (.same _) (.cons (.same _) (.cons (.all (List.length_map _)) (.cons (.same _) (.cons (.same _) (.cons (.same _) (.cons (.same _) (.cons (.same _) (.cons (.same _) (.cons (.same _) (.cons (.same _) (.cons (.all (List.length_map _)) .nil))))))))))))) (.same (.same (.same (.same (.same .nil))))) ?_
    refine J1 (B5 (y:=D4.d rv) tb R (A0 R ?_))
    obtain⟨rv18,k18,h⟩:=H1 h
    refine J5 (A6l k18) eK R R R R (A0 R (Q1 (t:=H2.d rv18.1) R R R R (Q1 (t := .arr 1 ((rv18.2.1).map vI)) R R R R (Q1 (t:=vI rv18.2.2) R R R R (A3 R (A3 R (eN (qG (B5 (y:=D4.d rv) tb R (A0 R ?_))))))))))
    obtain⟨rv19,k19,h⟩:=H1 h
    refine J5 (A6d k19) eK R R R R (A0 R (Q1 (t:=vI rv19.1) R R R R (Q1 (t:=vI rv19.2) R R R R (A3 R (A3 R (eN (qG (A0 R ?_))))))))
    refine Z3 R R R R ?_ ?_
    ·intro c16
     replace h:=J7 c16 h
     refine A0 R (A0 R ?_)
     refine Z3 R R R R ?_ ?_
     ·intro c17
      replace h:=J7 c17 h
      refine D6 R (A0 R (A0 R (I7 tb R ?_)))
      refine Z3 R R R R ?_ ?_
      ·intro c18
       replace h:=J7 c18 h
       refine D6 R (A0 R (A0 R ?_))
       obtain⟨e3,ie3,h⟩:=H1 h
       refine N8 tb (F0 ie3) (V1 ie3) R (I4 (y:=vI e3) tb (U5 (g:=vI) ie3) R ?_)
       refine Z3 R R R R ?_ ?_
       ·intro c19
        replace h:=J7 c19 h
        refine D6 R (A0 R (A0 R ?_))
        obtain⟨e4,ie4,h⟩:=H1 h
        refine N8 tb (F0 ie4) (V1 ie4) R (I4 (y:=vI e4) tb (U5 (g:=vI) ie4) R ?_)
        refine Z3 R R R R ?_ ?_
        ·intro c20
         replace h:=J7 c20 h
         refine D6 R (A0 R (A0 R ?_))
         obtain⟨e5,ie5,h⟩:=H1 h
         refine N8 tb (F0 ie5) (V1 ie5) R (I4 (y:=vI e5) tb (U5 (g:=vI) ie5) R ?_)
         refine Z3 R R R R ?_ ?_
         ·intro c21
          replace h:=J7 c21 h
          refine D6 R (A0 R (A0 R ?_))
          refine Z3 R R R R ?_ ?_
          ·intro c22
           replace h:=J7 c22 h
           refine D6 R (A0 R ?_)
           obtain⟨rv20,k20,h⟩:=H1 h
           refine J5 (B0R k20) eK R R R R (D6 R (A3 R (eN (C9 ?_))))
           obtain rfl:=sI h
           exact f1 0 R
          intro c22
          replace h:=P1 c22 h
          refine D6 R (A0 R (B3b R (D0 R (A3 R (eN (C9 ?_))))))
          obtain rfl:=sI h
          exact f1 0 R
         intro c21
         replace h:=P1 c21 h
         refine D6 R (A0 R (L9 2 R (D0 R (A0 R (B3b R (D0 R (A3 R (eN (C9 ?_)))))))))
         obtain rfl:=sI h
         exact f1 0 R
        intro c20
        replace h:=P1 c20 h
        refine D6 R (A0 R (L9 4 R (D0 R (A0 R (L9 2 R (D0 R (A0 R (B3b R (D0 R (A3 R (eN (C9 ?_))))))))))))
        obtain rfl:=sI h
        exact f1 0 R
       intro c19
       replace h:=P1 c19 h
       refine D6 R (A0 R (L9 4 R (D0 R (A0 R (L9 4 R (D0 R (A0 R (L9 2 R (D0 R (A0 R (B3b R (D0 R (A3 R (eN (C9 ?_)))))))))))))))
       obtain rfl:=sI h
       exact f1 0 R
      intro c18
      replace h:=P1 c18 h
      refine D6 R (A0 R (L9 4 R (D0 R (A0 R (L9 4 R (D0 R (A0 R (L9 4 R (D0 R (A0 R (L9 2 R (D0 R (A0 R (B3b R (D0 R (A3 R (eN (C9 ?_))))))))))))))))))
      obtain rfl:=sI h
      exact f1 0 R
     intro c17
     replace h:=P1 c17 h
     refine D6 R (A0 R (L9 3 R (D0 R (A0 R (L9 4 R (D0 R (A0 R (L9 4 R (D0 R (A0 R (L9 4 R (D0 R (A0 R (L9 2 R (D0 R (A0 R (B3b R (D0 R (A3 R (eN (C9 ?_)))))))))))))))))))))
     obtain rfl:=sI h
     exact f1 0 R
    intro c16
    replace h:=P1 c16 h
    refine A0 R (L9 2 R (D0 R (A0 R (L9 3 R (D0 R (A0 R (L9 4 R (D0 R (A0 R (L9 4 R (D0 R (A0 R (L9 4 R (D0 R (A0 R (L9 2 R (D0 R (A0 R (B3b R (D0 R (A3 R (eN (C9 ?_)))))))))))))))))))))))
    obtain rfl:=sI h
    exact f1 0 R
   refine qG (A0 R ?_)
   refine V5 R R R R ?_ ?_
   ·intro c12
    replace h:=P1 c12 h
    refine A0 R (L9 2 R (D6 R (A0 R (L9 4 R (D6 R (A0 R (L9 4 R (D6 R (eN (C0 R (qG (A3 R (eN (C9 (B2 ?_)))))))))))))))
    obtain rfl:=sI h
    exact f1 0 R
   intro c12
   replace h:=J7 c12 h
   refine A0 R (A0 R ?_)
   refine V5 R R R R ?_ ?_
   ·intro c13
    replace h:=P1 c13 h
    refine D0 R (A0 R (L9 4 R (D6 R (A0 R (L9 4 R (D6 R (eN (C0 R (qG (A3 R (eN (C9 (B2 ?_)))))))))))))
    obtain rfl:=sI h
    exact f1 0 R
   intro c13
   replace h:=J7 c13 h
   refine D0 R (A0 R (A0 R (P7 tb R R R R R R R R R R R R R ?_)))
   obtain⟨rv13,k13,h⟩:=H1 h
   refine A4k (B7c k13) eK R R ((dL (.cons (.row R R) .nil))) R R ?_ ?_
   ·intro c14
    replace h:=J7 c14 h
    refine A0a R R R (D0 R (A0 R (A0 R (P7 tb R R R R R R R R R R R R R ?_))))
    obtain⟨rv14,k14,h⟩:=H1 h
    refine A4k (B7c k14) eK R R ((dL (.cons (.row R R) .nil))) R R ?_ ?_
    ·intro c15
     replace h:=J7 c15 h
     refine A0a R R R (D0 R (eN (C1 R (D7 (A6 ?_)))))
     exact .inl ⟨(),h,.vw (κ:=[0]) (vK (.cons R R .nil) R)⟩
    intro c15
    replace h:=ifF c15 h
    refine Z9 R R R (D0 R (eN (C0 R (qG (A3 R (eN (C9 (B2 ?_))))))))
    obtain rfl:=sI h
    exact f1 0 R
   intro c14
   replace h:=ifF c14 h
   refine Z9 R R R (D0 R (A0 R (L9 4 R (D6 R (eN (C0 R (qG (A3 R (eN (C9 (B2 ?_)))))))))))
   obtain rfl:=sI h
   exact f1 0 R
  intro c11
  replace h:=ifF c11 h
  refine Z9 R R R (eN (C0 R (qG (A3 R (eN (C9 (B2 ?_)))))))
  obtain rfl:=sI h
  exact f1 0 R
 refine B8 ?_
 refine W5 (fun zz:Unit=>F2 F=some r) (fun zz:Unit=>⟨[(0,.d (.v (.bool false))),(1,.ref 0 13 0 0),(2,.d (.arr 8 ((rv2).map C7.d))),(13,.d (.arr 1 ((rv6.2.1).map vI))),(96,.d (.v (.bool true)))],[bx 13 (.d (D4.d rv))]⟩) ?_ ?_
 ·clear h
  rintro⟨⟩ h
  rw[F2]at h
  refine C0 R (qG (A3 R (eN (C9 (B2 ?_)))))
  obtain rfl:=sI h
  exact f1 0 R
 refine J1 (A0 R ?_)
 refine V5 R R R R ?_ ?_
 ·intro c4
  replace h:=P1 c4 h
  refine A0 R (L9 2 R (D6 R (A0 R (L9 2 R (D6 R (A0 R (L9 4 R (D6 R (A0 R (L9 4 R (D6 R (A0 R (L9 5 R (D6 R (A0 R (L9 3 R (D6 R (eN ?_))))))))))))))))))
  exact .inl ⟨(),h,.vw (κ:=[0]) (vK (.cons R R .nil) R)⟩
 intro c4
 replace h:=J7 c4 h
 refine A0 R (A0 R ?_)
 refine V5 R R R R ?_ ?_
 ·intro c5
  replace h:=P1 c5 h
  refine D0 R (A0 R (L9 2 R (D6 R (A0 R (L9 4 R (D6 R (A0 R (L9 4 R (D6 R (A0 R (L9 5 R (D6 R (A0 R (L9 3 R (D6 R (eN ?_))))))))))))))))
  exact .inl ⟨(),h,.vw (κ:=[0]) (vK (.cons R R .nil) R)⟩
 intro c5
 replace h:=J7 c5 h
 refine D0 R (A0 R (A0 R ?_))
 refine V5 R R R R ?_ ?_
 ·intro c6
  replace h:=P1 c6 h
  refine D0 R (A0 R (L9 4 R (D6 R (A0 R (L9 4 R (D6 R (A0 R (L9 5 R (D6 R (A0 R (L9 3 R (D6 R (eN ?_)))))))))))))
  exact .inl ⟨(),h,.vw (κ:=[0]) (vK (.cons R R .nil) R)⟩
 intro c6
 replace h:=J7 c6 h
 refine D0 R (A0 R (A0 R (P7 tb R R R R R R R R R R R R R ?_)))
 obtain⟨rv7,k7,h⟩:=H1 h
 refine A4k (B7c k7) eK R R ((dL (.cons (.row R R) .nil))) R R ?_ ?_
 ·intro c7
  replace h:=J7 c7 h
  refine A0a R R R (D0 R (A0 R (A0T R R R (P7 tb R R R R R R R R R R R R R ?_))))
  obtain⟨rv8,k8,h⟩:=H1 h
  refine A4k (B7c k8) eK R R ((.cons (.row R R) (.cons (.row R R) .nil))) R R ?_ ?_
  ·intro c8
   replace h:=J7 c8 h
   refine A0a R R R (D0 R (A0 R (C8 tb R (B5 (y := .arr 1 ((rv6.1.left).map vI)) tb R (P7 tb R R R R R R R R R R R R R ?_)))))
   obtain⟨rv9,k9,h⟩:=H1 h
   refine A4k (B7c k9) eK R R ((dL (.cons (.row R R) .nil))) R R ?_ ?_
   ·intro c9
    replace h:=J7 c9 h
    refine A0a R R R (D0 R (A0 R (C8 tb R (B5 (y:=vI rv6.1.now) tb R ?_))))
    refine V5 R R R R ?_ ?_
    ·intro c10
     replace h:=P1 c10 h
     refine D0 R (eN ?_)
     exact .inl ⟨(),h,.vw (κ:=[0]) (vK (.cons R R .nil) R)⟩
    intro c10
    replace h:=J7 c10 h
    refine D0 R (eN (.inr (C1 R (D7 (A6 ?_)))))
    exact .inl ⟨(),h,.vw (κ:=[0]) (vK (.cons R R .nil) R)⟩
   intro c9
   replace h:=ifF c9 h
   refine Z9 R R R (D0 R (A0 R (L9 3 R (D6 R (eN ?_)))))
   exact .inl ⟨(),h,.vw (κ:=[0]) (vK (.cons R R .nil) R)⟩
  intro c8
  replace h:=ifF c8 h
  refine Z9 R R R (D0 R (A0 R (L9 5 R (D6 R (A0 R (L9 3 R (D6 R (eN ?_))))))))
  exact .inl ⟨(),h,.vw (κ:=[0]) (vK (.cons R R .nil) R)⟩
 intro c7
 replace h:=ifF c7 h
 refine Z9 R R R (D0 R (A0 R (L9 4 R (D6 R (A0 R (L9 5 R (D6 R (A0 R (L9 3 R (D6 R (eN ?_)))))))))))
 exact .inl ⟨(),h,.vw (κ:=[0]) (vK (.cons R R .nil) R)⟩
end Go.Proofs.YtlaogbbcipebgaaGreat
