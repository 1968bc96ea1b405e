/- What functions of the program compute: plain functions, and the proofs. -/
import Derived.Test.YtlaogbbcipebgaaGreatW4
set_option linter.unusedVariables false
set_option linter.unusedSimpArgs false
open Go Go.Proofs.YtlaogbbcipebgaaGreat.Sh Go.Proofs
namespace Go.Proofs.YtlaogbbcipebgaaGreat
set_option maxRecDepth 100000
set_option maxHeartbeats 40000000
def A4J (F:Nat) (log:(List C7)) (K:(List Int)→Int→Option ((Option F7) × (List Int) × Int)):Nat→(List Int)→Int→Option ((Option F7) × (List Int) × Int)
 | 0,_,_=>none
 | n+1,why,x2=>if x2<(log.length:Int)then(none)else(K why x2)
def A3x (F:Nat) (p:D4) (log:(List C7)) (K:Int→Int→Option ((Option F7) × (List Int) × Int)):Nat→Int→Int→Option ((Option F7) × (List Int) × Int)
 | 0,_,_=>none
 | n+1,e,x=>if x<(log.length:Int)then((P3 log x).bind fun e2=>(A3I F p e2).bind fun rv2=>if rv2=0 then(A3x F p log K n rv2 (W (x+1)))else(some (none,([]:List Int),rv2)))else(K e x)
def A2c (F:Nat) (log:(List C7)) (K:(List F6)→(List G6)→(List E2)→(List ByteArray)→(List D1)→Int→Int→(List ByteArray)→(List D9)→(List E0)→(List Int)→Int→Int→Int→Int→(List Int)→(List Int)→(List Int)→Int→Bool→(List Int)→(List Int)→Bool→(List Bool)→(List Int)→(List Bool)→(List Int)→Int→Option ((Option F7) × (List Int) × Int)):Nat→(List F6)→(List G6)→(List E2)→(List ByteArray)→(List D1)→Int→Int→(List ByteArray)→(List D9)→(List E0)→(List Int)→Int→Int→Int→Int→(List Int)→(List Int)→(List Int)→Int→Bool→(List Int)→(List Int)→Bool→(List Bool)→(List Int)→(List Bool)→(List Int)→Int→Option ((Option F7) × (List Int) × Int)
 | 0,_,_,_,_,_,_,_,_,_,_,_,_,_,_,_,_,_,_,_,_,_,_,_,_,_,_,_,_=>none
 | n+1,d,d2,d3,d4,d5,d6,d7,d8,d9,d10,d11,d12,d13,d14,d15,d16,d17,d18,d19,d20,d21,d22,d23,d24,d25,d26,why2,x4=>if x4<(log.length:Int)then((P3 log x4).bind fun e6=>(A1F F (F7.mk d d2 d3 d4 d5 d6 d7 d8 d9 d10 d11 d12 d13 d14 d15 d16 d17 d18 d19 d20 d21 d22 d23 d24 d25 d26) e6).bind fun rv4=>exE rv4 (fun x5=>(A8i why2 [x5]).bind fun q=>A2c F log K n d d2 d3 d4 d5 d6 d7 d8 d9 d10 d11 d12 d13 d14 d15 d16 d17 d18 d19 d20 d21 d22 d23 d24 d25 d26 q (W (x4+1))) (fun v=>(A8i why2 [0]).bind fun q2=>A2c F log K n v.H0 v.G8 v.G2 v.H4 v.G3 v.G9 v.H5 v.H9 v.E7 v.F8 v.I9 v.D8 v.G0 v.H6 v.G5 v.F5 v.E8 v.E5 v.F3 v.F4 v.A1 v.A5 v.F9 v.B1 v.A7 v.B0 q2 (W (x4+1))))else(K d d2 d3 d4 d5 d6 d7 d8 d9 d10 d11 d12 d13 d14 d15 d16 d17 d18 d19 d20 d21 d22 d23 d24 d25 d26 why2 x4)
def A2d (F:Nat) (p:D4) (log:(List C7)) (K:Int→Int→Option ((Option F7) × (List Int) × Int)):Nat→Int→Int→Option ((Option F7) × (List Int) × Int)
 | 0,_,_=>none
 | n+1,e4,x3=>if x3<(log.length:Int)then((P3 log x3).bind fun e5=>(A3I F p e5).bind fun rv3=>if rv3=0 then(A2d F p log K n rv3 (W (x3+1)))else(some (none,([]:List Int),rv3)))else(K e4 x3)
def A42 (F:Nat) (p:D4) (log:(List C7)):Option ((Option F7) × (List Int) × Int):=(A4Q F p).bind fun rv=>B2S rv.1 (if rv.2=0 then(if 100<(log.length:Int)then(some (none,([]:List Int),3))else(A3x F p log (fun e x=>A4J F log (fun why x2=>some (none,why,0)) F ([]:List Int) 0) F rv.2 0))else(some (none,([]:List Int),rv.2))) (fun t=>if rv.2=0 then(if 100<(log.length:Int)then(some (none,([]:List Int),3))else(A2d F p log (fun e4 x3=>A2c F log (fun d d2 d3 d4 d5 d6 d7 d8 d9 d10 d11 d12 d13 d14 d15 d16 d17 d18 d19 d20 d21 d22 d23 d24 d25 d26 why2 x4=>some ((some (F7.mk d d2 d3 d4 d5 d6 d7 d8 d9 d10 d11 d12 d13 d14 d15 d16 d17 d18 d19 d20 d21 d22 d23 d24 d25 d26)),why2,0)) F t.H0 t.G8 t.G2 t.H4 t.G3 t.G9 t.H5 t.H9 t.E7 t.F8 t.I9 t.D8 t.G0 t.H6 t.G5 t.F5 t.E8 t.E5 t.F3 t.F4 t.A1 t.A5 t.F9 t.B1 t.A7 t.B0 ([]:List Int) 0) F rv.2 0))else(some (none,([]:List Int),rv.2)))
theorem A4c {F p log r} (h:A42 F p log=some r):SCO Tryz.prog 45 (List.map T.d [D4.d p,.arr 8 ((log).map C7.d)]) [] r.1 (.tup [.d (.v (.pointer none)),.row 0 1 0 (r.2.1).length,dI r.2.2]) (List.map some [(B7 r.2.1)]) (fun(tt:F7) => .tup [rf 0 26,.row 6 1 0 (r.2.1).length,dI r.2.2]) (fun(tt:F7)=>List.map some [⟨26,[C5 tt 1 2 3 4 5]⟩,(B7 tt.A1),(B7 tt.A5),(H7 tt.B1),(B7 tt.A7),(H7 tt.B0),(B7 r.2.1)]):=by
 rw[A42]at h
 refine oW Tryz.func45 ?_
 refine gY 4 R (gU 1 R ?_)
 obtain⟨rv,k,h⟩:=H1 h
 rcases Option.eq_none_or_eq_some rv.1 with nv | ⟨t,nv⟩
 ·replace h:=(B5h nv).symm.trans h
  refine cO [] ((A7t k).none nv) eK .nil R .nil .nil R (eU 5 R (B8 (E3 (gU 1 R ?_))))
  refine V5 R R R R (nJ h ?_) (tJ h ?_)
  ·intro h
   refine eU 1 R (C0 R (gY 4 R ?_))
   refine SW.own (ts':=[(4,.d (.v (.pointer none))),(5,.row 1 1 0 (([]:List Int)).length),(6,dI rv.2)]) (L':=[bx 13 (.d (D4.d p))]) 1 R R (.cons (.same _) (.cons .nil (.cons (.same _) .nil))) (.same .nil) ?_
   simp only[List.cons_append,List.nil_append]
   refine C9 (C4 (B2 ?_))
   cases h
   exact fS [1] (.inl ⟨R,R,R⟩) R (.cons (.tmp 4) (.cons (.tmp 5) (.cons (.tmp 6) .nil))) (vK C23 R)
  intro h
  refine eU 1 R (C1 R (gU 1 R (I7 tb R ?_)))
  refine A4l R R R R (tJ h ?_) (lJ h ?_)
  ·intro h
   refine eU 1 R (C0 R (gY 3 R ?_))
   refine SW.own (ts':=[(4,.d (.v (.pointer none))),(5,.row 1 1 0 (([]:List Int)).length),(6,dI 3)]) (L':=[bx 13 (.d (D4.d p))]) 1 R R (.cons (.same _) (.cons .nil (.cons (.same _) .nil))) (.same .nil) ?_
   simp only[List.cons_append,List.nil_append]
   refine C9 (C4 (B2 ?_))
   cases h
   exact fS [1] (.inl ⟨R,R,R⟩) R (.cons (.tmp 4) (.cons (.tmp 5) (.cons (.tmp 6) .nil))) (vK C23 R)
  intro h
  refine eU 1 R (zF (B8 (gU 1 R (I7 tb R (eU 1 R (E3 ?_))))))
  obtain⟨K2,hK2,h⟩:∃ K,K=_∧A3x F p log K F rv.2 0=some r:=⟨_,rfl,h⟩
  refine lW (fun m st=>∃ (e:Int) (x:Int),A3x F p log K2 m e x=some r∧st=⟨[(1,.d (.arr 8 ((log).map C7.d))),(2,rf 0 13),(4,.d (.v (.pointer none))),(5,.d (.v (.slice none 0 0))),(6,dI e),(26,.d (.arr 8 ((log).map C7.d))),(27,dI (log.length:Int)),(28,dI x)],[bx 13 (.d (D4.d p))]⟩) ⟨rv.2,0,h,R⟩ (.prn [1,2,4,5,6,26,27,28] R) ?_
  clear h
  rintro m2 st ⟨e,x,h,rfl⟩
  cases m2 with
  | zero=>cases(show(none:Option ((Option F7) × (List Int) × Int))=some r from h)
  | succ m2 =>
  rw[A3x]at h
  refine qG ?_
  refine Q4 R R R R (tJ h ?_) (lJ h ?_)
  ·intro h
   refine Y9 (B8 (zT (B8 (E3 (qG ?_)))))
   obtain⟨e2,ie2,h⟩:=H1 h
   refine yE ie2 R R (eU 2 R (gU 2 R ?_))
   obtain⟨rv2,k2,h⟩:=H1 h
   refine J5 (A78 k2) eK R R R R (eU 1 R (gU 1 R ?_))
   refine V5 R R R R (nJ h ?_) (tJ h ?_)
   ·intro h
    refine Y9 (C0 R (gY 4 R ?_))
    refine SW.own (ts':=[(4,.d (.v (.pointer none))),(5,.row 2 1 0 (([]:List Int)).length),(6,dI rv2)]) (L':=[bx 13 (.d (D4.d p)),bx 8 (.d (C7.d e2))]) 1 R R (.cons (.same _) (.cons .nil (.cons (.same _) .nil))) (.same (.same .nil)) ?_
    simp only[List.cons_append,List.nil_append]
    refine C9 (C4 (B2 (B2 (C4 (B2 ?_)))))
    cases h
    exact fS [2] (.inl ⟨R,R,R⟩) R (.cons (.tmp 4) (.cons (.tmp 5) (.cons (.tmp 6) .nil))) (vK C23 R)
   intro h
   refine Y9 (zF (hN 2 R ?_))
   exact bk ⟨rv2,(W (x+1)),h,R⟩ (.vw (κ:=[0]) (vK (.cons R R .nil) R))
  intro h
  refine Y9 (B8 (C1 R (N5 (E4 (E4 ?_)))))
  subst hK2
  refine B8 (gU 1 R (I7 tb R (eU 1 R (E3 ?_))))
  refine SW.own (ts':=[(4,.d (.v (.pointer none))),(5,.row 1 1 0 (([]:List Int)).length),(6,dI e),(39,.d (.arr 8 ((log).map C7.d))),(40,dI (log.length:Int)),(41,dI 0)]) (L':=[bx 13 (.d (D4.d p))]) 1 R R (.cons (.same _) (.cons .nil (.cons (.same _) (.cons (.same _) (.cons (.same _) (.cons (.same _) .nil)))))) (.same .nil) ?_
  simp only[List.cons_append,List.nil_append]
  obtain⟨K4,hK4,h⟩:∃ K,K=_∧A4J F log K F ([]:List Int) 0=some r:=⟨_,rfl,h⟩
  refine lW (fun m st=>∃ (why:(List Int)) (x2:Int),A4J F log K4 m why x2=some r∧st=⟨[(4,.d (.v (.pointer none))),(5,.row 0 1 0 (why).length),(6,dI e),(39,.d (.arr 8 ((log).map C7.d))),(40,dI (log.length:Int)),(41,dI x2)],[B0u why]⟩) ⟨([]:List Int),0,h,R⟩ (.vw (κ:=[1]) (vK C23 R)) ?_
  clear h
  rintro m4 st ⟨why,x2,h,rfl⟩
  cases m4 with
  | zero=>cases(show(none:Option ((Option F7) × (List Int) × Int))=some r from h)
  | succ m4 =>
  rw[A4J]at h
  refine qG ?_
  refine Q4 R R R R (tJ h ?_) (lJ h ?_)
  ·intro h
   cases h
  intro h
  refine Y9 (B8 (C1 R (N5 (E4 (E4 ?_)))))
  subst hK4
  refine gY 5 R (C9 ?_)
  cases h
  exact fS [0] (.inl ⟨R,R,R⟩) R (.cons (.tmp 4) (.cons (.tmp 5) (.cons (.tmp 6) .nil))) (vK C23 R)
 replace h:=(B5i nv).symm.trans h
 refine cO [] ((A7t k).some nv) eK .nil R .nil ((.cons R (.row (.row (.row (.row (.row .nil))))))) R (eU 5 R (B8 (E3 (gU 1 R ?_))))
 refine V5 R R R R (nJ h ?_) (tJ h ?_)
 ·intro h
  refine eU 1 R (C0 R (gY 4 R ?_))
  refine SW.own (ts':=[(4,.d (.v (.pointer none))),(5,.row 7 1 0 (([]:List Int)).length),(6,dI rv.2)]) (L':=[bx 13 (.d (D4.d p)),bx 26 (C5 t 2 3 4 5 6),B0u t.A1,B0u t.A5,B9r t.B1,B0u t.A7,B9r t.B0]) 1 R R (.cons (.same _) (.cons .nil (.cons (.same _) .nil))) (.same (.same (.same (.same (.same (.same (.same .nil))))))) ?_
  simp only[List.cons_append,List.nil_append]
  refine C9 (C4 (B2 ?_))
  cases h
  exact fS [7] (.inl ⟨R,R,R⟩) R (.cons (.tmp 4) (.cons (.tmp 5) (.cons (.tmp 6) .nil))) (vK C23 R)
 intro h
 refine eU 1 R (C1 R (gU 1 R (I7 tb R ?_)))
 refine A4l R R R R (tJ h ?_) (lJ h ?_)
 ·intro h
  refine eU 1 R (C0 R (gY 3 R ?_))
  refine SW.own (ts':=[(4,.d (.v (.pointer none))),(5,.row 7 1 0 (([]:List Int)).length),(6,dI 3)]) (L':=[bx 13 (.d (D4.d p)),bx 26 (C5 t 2 3 4 5 6),B0u t.A1,B0u t.A5,B9r t.B1,B0u t.A7,B9r t.B0]) 1 R R (.cons (.same _) (.cons .nil (.cons (.same _) .nil))) (.same (.same (.same (.same (.same (.same (.same .nil))))))) ?_
  simp only[List.cons_append,List.nil_append]
  refine C9 (C4 (B2 ?_))
  cases h
  exact fS [7] (.inl ⟨R,R,R⟩) R (.cons (.tmp 4) (.cons (.tmp 5) (.cons (.tmp 6) .nil))) (vK C23 R)
 intro h
 refine eU 1 R (zF (B8 (gU 1 R (I7 tb R (eU 1 R (E3 ?_))))))
 obtain⟨K6,hK6,h⟩:∃ K,K=_∧A2d F p log K F rv.2 0=some r:=⟨_,rfl,h⟩
 refine lW (fun m st=>∃ (e4:Int) (x3:Int),A2d F p log K6 m e4 x3=some r∧st=⟨[(1,.d (.arr 8 ((log).map C7.d))),(2,rf 0 13),(4,rf 1 26),(5,.d (.v (.slice none 0 0))),(6,dI e4),(26,.d (.arr 8 ((log).map C7.d))),(27,dI (log.length:Int)),(28,dI x3)],[bx 13 (.d (D4.d p)),bx 26 (C5 t 2 3 4 5 6),B0u t.A1,B0u t.A5,B9r t.B1,B0u t.A7,B9r t.B0]⟩) ⟨rv.2,0,h,R⟩ (.prn [1,2,4,5,6,26,27,28] R) ?_
 clear h
 rintro m6 st ⟨e4,x3,h,rfl⟩
 cases m6 with
 | zero=>cases(show(none:Option ((Option F7) × (List Int) × Int))=some r from h)
 | succ m6 =>
 rw[A2d]at h
 refine qG ?_
 refine Q4 R R R R (tJ h ?_) (lJ h ?_)
 ·intro h
  refine Y9 (B8 (zT (B8 (E3 (qG ?_)))))
  obtain⟨e5,ie5,h⟩:=H1 h
  refine yE ie5 R R (eU 2 R (gU 2 R ?_))
  obtain⟨rv3,k3,h⟩:=H1 h
  refine J5 (A78 k3) eK R R R R (eU 1 R (gU 1 R ?_))
  refine V5 R R R R (nJ h ?_) (tJ h ?_)
  ·intro h
   refine Y9 (C0 R (gY 4 R ?_))
   refine SW.own (ts':=[(4,.d (.v (.pointer none))),(5,.row 8 1 0 (([]:List Int)).length),(6,dI rv3)]) (L':=[bx 13 (.d (D4.d p)),bx 26 (C5 t 2 3 4 5 6),B0u t.A1,B0u t.A5,B9r t.B1,B0u t.A7,B9r t.B0,bx 8 (.d (C7.d e5))]) 1 R R (.cons (.same _) (.cons .nil (.cons (.same _) .nil))) (.same (.same (.same (.same (.same (.same (.same (.same .nil)))))))) ?_
   simp only[List.cons_append,List.nil_append]
   refine C9 (C4 (B2 (B2 (C4 (B2 ?_)))))
   cases h
   exact fS [8] (.inl ⟨R,R,R⟩) R (.cons (.tmp 4) (.cons (.tmp 5) (.cons (.tmp 6) .nil))) (vK C23 R)
  intro h
  refine Y9 (zF (hN 2 R ?_))
  exact bk ⟨rv3,(W (x3+1)),h,R⟩ (.vw (κ:=[0,1,2,3,4,5,6]) (vK (.cons R R (.cons R R B9x)) R))
 intro h
 refine Y9 (B8 (C1 R (N5 (E4 (E4 ?_)))))
 subst hK6
 refine B8 (gU 1 R (I7 tb R (eU 1 R (E3 ?_))))
 refine SW.own (ts':=[(4,rf 1 26),(5,.row 7 1 0 (([]:List Int)).length),(6,dI e4),(39,.d (.arr 8 ((log).map C7.d))),(40,dI (log.length:Int)),(41,dI 0)]) (L':=[bx 13 (.d (D4.d p)),bx 26 (C5 t 2 3 4 5 6),B0u t.A1,B0u t.A5,B9r t.B1,B0u t.A7,B9r t.B0]) 1 R R (.cons (.same _) (.cons .nil (.cons (.same _) (.cons (.same _) (.cons (.same _) (.cons (.same _) .nil)))))) (.same (.same (.same (.same (.same (.same (.same .nil))))))) ?_
 simp only[List.cons_append,List.nil_append]
 obtain⟨K8,hK8,h⟩:∃ K,K=_∧A2c F log K F t.H0 t.G8 t.G2 t.H4 t.G3 t.G9 t.H5 t.H9 t.E7 t.F8 t.I9 t.D8 t.G0 t.H6 t.G5 t.F5 t.E8 t.E5 t.F3 t.F4 t.A1 t.A5 t.F9 t.B1 t.A7 t.B0 ([]:List Int) 0=some r:=⟨_,rfl,h⟩
 refine lW (fun m st=>∃ (d:(List F6)) (d2:(List G6)) (d3:(List E2)) (d4:(List ByteArray)) (d5:(List D1)) (d6:Int) (d7:Int) (d8:(List ByteArray)) (d9:(List D9)) (d10:(List E0)) (d11:(List Int)) (d12:Int) (d13:Int) (d14:Int) (d15:Int) (d16:(List Int)) (d17:(List Int)) (d18:(List Int)) (d19:Int) (d20:Bool) (d21:(List Int)) (d22:(List Int)) (d23:Bool) (d24:(List Bool)) (d25:(List Int)) (d26:(List Bool)) (why2:(List Int)) (x4:Int),A2c F log K8 m d d2 d3 d4 d5 d6 d7 d8 d9 d10 d11 d12 d13 d14 d15 d16 d17 d18 d19 d20 d21 d22 d23 d24 d25 d26 why2 x4=some r∧st=⟨[(4,rf 0 26),(5,.row 6 1 0 (why2).length),(6,dI e4),(39,.d (.arr 8 ((log).map C7.d))),(40,dI (log.length:Int)),(41,dI x4)],[bx 26 (C5 (F7.mk d d2 d3 d4 d5 d6 d7 d8 d9 d10 d11 d12 d13 d14 d15 d16 d17 d18 d19 d20 d21 d22 d23 d24 d25 d26) 1 2 3 4 5),B0u d21,B0u d22,B9r d24,B0u d25,B9r d26,B0u why2]⟩) ⟨t.H0,t.G8,t.G2,t.H4,t.G3,t.G9,t.H5,t.H9,t.E7,t.F8,t.I9,t.D8,t.G0,t.H6,t.G5,t.F5,t.E8,t.E5,t.F3,t.F4,t.A1,t.A5,t.F9,t.B1,t.A7,t.B0,([]:List Int),0,h,R⟩ (.vw (κ:=[1,2,3,4,5,6,7]) (vK (.cons R R C38) R)) ?_
 clear h
 rintro m8 st ⟨d,d2,d3,d4,d5,d6,d7,d8,d9,d10,d11,d12,d13,d14,d15,d16,d17,d18,d19,d20,d21,d22,d23,d24,d25,d26,why2,x4,h,rfl⟩
 cases m8 with
 | zero=>cases(show(none:Option ((Option F7) × (List Int) × Int))=some r from h)
 | succ m8 =>
 rw[A2c]at h
 refine qG ?_
 refine Q4 R R R R (tJ h ?_) (lJ h ?_)
 ·intro h
  refine Y9 (B8 (zT (B8 (E3 (qG ?_)))))
  obtain⟨e6,ie6,h⟩:=H1 h
  refine yE ie6 R R (eU 2 R (gU 2 R ?_))
  obtain⟨rv4,k4,h⟩:=H1 h
  rcases eX h with⟨x5,nv2,h⟩ | ⟨v,nv2,h⟩
  ·refine cO [0,1,2,3,4,5] ((A5q k4).err nv2) eK ((.cons R R C25)) R ((.cons R (.row (.row (.row (.row (.row .nil))))))) .nil R (eU 5 R (hU 3 R (P7 tb R R R R R R R R R R R R R ?_)))
   obtain⟨q,iq,h⟩:=H1 h
   refine B2k (g:=vI) (w:=why2) (v:=[x5]) ([bx 26 (C5 (F7.mk d d2 d3 d4 d5 d6 d7 d8 d9 d10 d11 d12 d13 d14 d15 d16 d17 d18 d19 d20 d21 d22 d23 d24 d25 d26) 1 2 3 4 5),B0u d21,B0u d22,B9r d24,B0u d25,B9r d26,none,bx 8 (.d (C7.d e6)),B0u [x5]]) tb R R R R R R R R R R R iq R R R R R (eU 2 R (hN 2 R ?_))
   exact bk ⟨d,d2,d3,d4,d5,d6,d7,d8,d9,d10,d11,d12,d13,d14,d15,d16,d17,d18,d19,d20,d21,d22,d23,d24,d25,d26,q,(W (x4+1)),h,R⟩ (.vw (κ:=[0,1,2,3,4,5,9]) (vK (.cons R R C38) R))
  refine cO [0,1,2,3,4,5] ((A5q k4).ok nv2) eK ((.cons R R C25)) R ((.cons R (.row (.row (.row (.row (.row .nil))))))) ((.cons R (.row (.row (.row (.row (.row .nil))))))) R (eU 5 R (hU 3 R (P7 tb R R R R R R R R R R R R R ?_)))
  obtain⟨q2,iq2,h⟩:=H1 h
  refine B2k (g:=vI) (w:=why2) (v:=[0]) ([bx 26 (C5 (F7.mk d d2 d3 d4 d5 d6 d7 d8 d9 d10 d11 d12 d13 d14 d15 d16 d17 d18 d19 d20 d21 d22 d23 d24 d25 d26) 1 2 3 4 5),B0u d21,B0u d22,B9r d24,B0u d25,B9r d26,none,bx 8 (.d (C7.d e6)),bx 26 (C5 v 9 10 11 12 13),B0u v.A1,B0u v.A5,B9r v.B1,B0u v.A7,B9r v.B0,B0u [0]]) tb R R R R R R R R R R R iq2 R R R R R (eU 2 R (J1 ?_))
  refine nU 2 R ?_
  exact bk ⟨v.H0,v.G8,v.G2,v.H4,v.G3,v.G9,v.H5,v.H9,v.E7,v.F8,v.I9,v.D8,v.G0,v.H6,v.G5,v.F5,v.E8,v.E5,v.F3,v.F4,v.A1,v.A5,v.F9,v.B1,v.A7,v.B0,q2,(W (x4+1)),h,R⟩ (.vw (κ:=[8,9,10,11,12,13,15]) (vK (.cons R R C38) R))
 intro h
 refine Y9 (B8 (C1 R (N5 (E4 (E4 ?_)))))
 subst hK8
 refine gY 5 R (C9 ?_)
 cases h
 exact fS [0,1,2,3,4,5,6] (.inr ⟨_,R,R,R⟩) R (.cons (.tmp 4) (.cons (.tmp 5) (.cons (.tmp 6) .nil))) (vK (.cons R R C38) R)
def C8A (F:Nat) (p:D4):Option (H2 × Int):=(A4Q F p).bind fun rv=>B2S rv.1 (if rv.2=0 then(none)else(some ((H2.mk 0 0 [] [] [] 0 false [] [] false [] [] []),rv.2))) (fun t=>if rv.2=0 then(some ((H2.mk t.H6 t.G5 t.F5 t.E8 t.E5 t.F3 t.F4 t.A1 t.A5 t.F9 t.B1 t.A7 t.B0),0))else(some ((H2.mk 0 0 [] [] [] 0 false [] [] false [] [] []),rv.2)))
theorem D0t {F p r} (h:C8A F p=some r):PC Tryz.prog 36 [D4.d p] (.tup [H2.d r.1,vI r.2]):=by
 rw[C8A]at h
 refine PC.of_lend ?_
 refine oW Tryz.func36 ?_
 refine gY 3 R (gU 1 R ?_)
 obtain⟨rv,k,h⟩:=H1 h
 rcases Option.eq_none_or_eq_some rv.1 with nv | ⟨t,nv⟩
 ·replace h:=(B5h nv).symm.trans h
  refine cO [] ((A7t k).none nv) eK .nil R .nil .nil R (eU 5 R (B8 (gU 1 R ?_)))
  refine V5 R R R R (nJ h ?_) (tJ h ?_)
  ·intro h
   refine Y9 (C0 R (qG (S1 (v := .d (.agg [vI 0,vI 0,.v (.slice none 0 0),.v (.slice none 0 0),.v (.slice none 0 0),vI 0,vB false,.v (.slice none 0 0),.v (.slice none 0 0),vB false,.v (.slice none 0 0),.v (.slice none 0 0),.v (.slice none 0 0)])) tb R R (List.cons_ne_nil _ _) kR kR kR kR R R (eU 3 R (C9 (B2 ?_))))))
   cases h
   exact(U0 (t := .d (.tup [.agg [vI 0,vI 0,.v (.slice none 0 0),.v (.slice none 0 0),.v (.slice none 0 0),vI 0,vB false,.v (.slice none 0 0),.v (.slice none 0 0),vB false,.v (.slice none 0 0),.v (.slice none 0 0),.v (.slice none 0 0)],vI rv.2])) (L:=[]) (κ:=[]) R (.cons (rc tb R) (.cons (.tmp 3) .nil)) (v0 R) ⟨_,R,(.tupDL (.cons (.aggDL (dL (dL (.cons .nilA (.cons .nilA (.cons .nilA (dL (dL (.cons .nilA (.cons .nilA (dL (.cons .nilA (.cons .nilA (.cons .nilA .nil)))))))))))))) (dL .nil)))⟩)
  intro h
  cases h
 replace h:=(B5i nv).symm.trans h
 refine cO [] ((A7t k).some nv) eK .nil R .nil ((.cons R (.row (.row (.row (.row (.row .nil))))))) R (eU 5 R (B8 (gU 1 R ?_)))
 refine V5 R R R R (nJ h ?_) (tJ h ?_)
 ·intro h
  refine Y9 (C0 R (qG (S1 (v := .d (.agg [vI 0,vI 0,.v (.slice none 0 0),.v (.slice none 0 0),.v (.slice none 0 0),vI 0,vB false,.v (.slice none 0 0),.v (.slice none 0 0),vB false,.v (.slice none 0 0),.v (.slice none 0 0),.v (.slice none 0 0)])) tb R R (List.cons_ne_nil _ _) kR kR kR kR R R (eU 3 R (C9 (B2 ?_))))))
  cases h
  exact(U0 (t := .d (.tup [.agg [vI 0,vI 0,.v (.slice none 0 0),.v (.slice none 0 0),.v (.slice none 0 0),vI 0,vB false,.v (.slice none 0 0),.v (.slice none 0 0),vB false,.v (.slice none 0 0),.v (.slice none 0 0),.v (.slice none 0 0)],vI rv.2])) (L:=[]) (κ:=[]) R (.cons (rc tb R) (.cons (.tmp 3) .nil)) (v0 R) ⟨_,R,(.tupDL (.cons (.aggDL (dL (dL (.cons .nilA (.cons .nilA (.cons .nilA (dL (dL (.cons .nilA (.cons .nilA (dL (.cons .nilA (.cons .nilA (.cons .nilA .nil)))))))))))))) (dL .nil)))⟩)
 intro h
 refine Y9 (zF (gY 6 R (C9 ?_)))
 cases h
 exact(U0 (t := .tup [B4I (H2.mk t.H6 t.G5 t.F5 t.E8 t.E5 t.F3 t.F4 t.A1 t.A5 t.F9 t.B1 t.A7 t.B0) 0 1 2 3 4,dI 0]) (L:=[B0u t.A1,B0u t.A5,B9r t.B1,B0u t.A7,B9r t.B0]) (κ:=[3,4,5,6,7]) R (.cons (rc tb R) (.cons (.tmp 3) .nil)) (vK B9x R) ⟨_,R,(.tupL (.cons (.aggL (dL (dL (dL (dL (dL (dL (dL (.cons (.row R R) (.cons (.row R R) (dL (.cons (.row R R) (.cons (.row R R) (.cons (.row R R) .nil)))))))))))))) (dL .nil)))⟩)
def A36 (F:Nat) (p:D4) (log:(List C7)):Option (H2 × (List Int) × Int):=(A42 F p log).bind fun rv=>B2S rv.1 (if rv.2.2=0 then(none)else(some ((H2.mk 0 0 [] [] [] 0 false [] [] false [] [] []),[],rv.2.2))) (fun t=>if rv.2.2=0 then(some ((H2.mk t.H6 t.G5 t.F5 t.E8 t.E5 t.F3 t.F4 t.A1 t.A5 t.F9 t.B1 t.A7 t.B0),rv.2.1,0))else(some ((H2.mk 0 0 [] [] [] 0 false [] [] false [] [] []),[],rv.2.2)))
theorem A6l {F p log r} (h:A36 F p log=some r):PC Tryz.prog 18 [D4.d p,.arr 8 ((log).map C7.d)] (.tup [H2.d r.1,aI r.2.1,vI r.2.2]):=by
 rw[A36]at h
 refine PC.of_lend ?_
 refine oW Tryz.func18 ?_
 refine gY 4 R (gU 2 R ?_)
 obtain⟨rv,k,h⟩:=H1 h
 rcases Option.eq_none_or_eq_some rv.1 with nv | ⟨t,nv⟩
 ·replace h:=(B5h nv).symm.trans h
  refine cO [] ((A4c k).none nv) eK .nil R .nil ((.row .nil)) R (eU 7 R (B8 (gU 1 R ?_)))
  refine V5 R R R R (nJ h ?_) (tJ h ?_)
  ·intro h
   refine Y9 (C0 R (qG (S1 (v := .d (.agg [vI 0,vI 0,.v (.slice none 0 0),.v (.slice none 0 0),.v (.slice none 0 0),vI 0,vB false,.v (.slice none 0 0),.v (.slice none 0 0),vB false,.v (.slice none 0 0),.v (.slice none 0 0),.v (.slice none 0 0)])) tb R R (List.cons_ne_nil _ _) kR kR kR kR R R (eU 4 R (C9 (B2 ?_))))))
   cases h
   exact(U0 (t := .d (.tup [.agg [vI 0,vI 0,.v (.slice none 0 0),.v (.slice none 0 0),.v (.slice none 0 0),vI 0,vB false,.v (.slice none 0 0),.v (.slice none 0 0),vB false,.v (.slice none 0 0),.v (.slice none 0 0),.v (.slice none 0 0)],.v (.slice none 0 0),vI rv.2.2])) (L:=[]) (κ:=[]) R (.cons (rc tb R) (.cons (.tmp 5) (.cons (.tmp 6) .nil))) (v0 R) ⟨_,R,(.tupDL (.cons (.aggDL (dL (dL (.cons .nilA (.cons .nilA (.cons .nilA (dL (dL (.cons .nilA (.cons .nilA (dL (.cons .nilA (.cons .nilA (.cons .nilA .nil)))))))))))))) (.cons .nilA (dL .nil))))⟩)
  intro h
  cases h
 replace h:=(B5i nv).symm.trans h
 refine cO [] ((A4c k).some nv) eK .nil R .nil ((.cons R (.row (.row (.row (.row (.row (.row .nil)))))))) R (eU 7 R (B8 (gU 1 R ?_)))
 refine V5 R R R R (nJ h ?_) (tJ h ?_)
 ·intro h
  refine Y9 (C0 R (qG (S1 (v := .d (.agg [vI 0,vI 0,.v (.slice none 0 0),.v (.slice none 0 0),.v (.slice none 0 0),vI 0,vB false,.v (.slice none 0 0),.v (.slice none 0 0),vB false,.v (.slice none 0 0),.v (.slice none 0 0),.v (.slice none 0 0)])) tb R R (List.cons_ne_nil _ _) kR kR kR kR R R (eU 4 R (C9 (B2 ?_))))))
  cases h
  exact(U0 (t := .d (.tup [.agg [vI 0,vI 0,.v (.slice none 0 0),.v (.slice none 0 0),.v (.slice none 0 0),vI 0,vB false,.v (.slice none 0 0),.v (.slice none 0 0),vB false,.v (.slice none 0 0),.v (.slice none 0 0),.v (.slice none 0 0)],.v (.slice none 0 0),vI rv.2.2])) (L:=[]) (κ:=[]) R (.cons (rc tb R) (.cons (.tmp 5) (.cons (.tmp 6) .nil))) (v0 R) ⟨_,R,(.tupDL (.cons (.aggDL (dL (dL (.cons .nilA (.cons .nilA (.cons .nilA (dL (dL (.cons .nilA (.cons .nilA (dL (.cons .nilA (.cons .nilA (.cons .nilA .nil)))))))))))))) (.cons .nilA (dL .nil))))⟩)
 intro h
 refine Y9 (zF (gY 8 R (C9 ?_)))
 cases h
 exact(U0 (t := .tup [B4I (H2.mk t.H6 t.G5 t.F5 t.E8 t.E5 t.F3 t.F4 t.A1 t.A5 t.F9 t.B1 t.A7 t.B0) 0 1 2 3 4,.row 5 1 0 (rv.2.1).length,dI 0]) (L:=[B0u t.A1,B0u t.A5,B9r t.B1,B0u t.A7,B9r t.B0,B0u rv.2.1]) (κ:=[3,4,5,6,7,8]) R (.cons (rc tb R) (.cons (.tmp 5) (.cons (.tmp 6) .nil))) (vK C38 R) ⟨_,R,(.tupL (.cons (.aggL (dL (dL (dL (dL (dL (dL (dL (.cons (.row R R) (.cons (.row R R) (dL (.cons (.row R R) (.cons (.row R R) (.cons (.row R R) .nil)))))))))))))) (.cons (.row R R) (dL .nil))))⟩)
def A2C (F:Nat) (s:(List E0)):Option (List E0):=some s
theorem A5U {F s r} (h:A2C F s=some r):SCR Tryz.prog 168 (List.map T.d [.arr 9 ((s).map E0.d)]) [] (.fn (.func 212) [] [rf 0 1]) (List.map some [⟨1,[.d (.arr 9 ((r).map E0.d))]⟩]):=by
 rw[A2C]at h
 refine oW Tryz.func168 ?_
 refine gY 2 R (qG (A3E R R R R (eU 1 R (C9 ?_))))
 cases h
 exact f2 [0] (.cons R R .nil) R (.cons (.tmp 2) .nil) R
def A37 (F:Nat) (d:F7):Option (F7 × (List (Int × Bool))):=(U8 F d).bind fun rv=>some (d,(M0 ([]:List (Int × Bool)) rv true))
theorem A6U {F d r} (h:A37 F d=some r):SCR Tryz.prog 92 (List.map T.d [.el 26 (([d]).map F7.d) ((0:Int)).toNat 0]) [] (.fn (.func 167) [] [rf 0 1,rf 1 1]) (List.map some [⟨1,[.d (.el 26 (([r.1]).map F7.d) ((0:Int)).toNat 0)]⟩,⟨1,[.mp 2]⟩,(m3w r.2)]):=by
 rw[A37]at h
 refine oW Tryz.func92 ?_
 refine gY 2 R (qG (A58 R R R (rU 1 R ?_)))
 obtain⟨rv,k,h⟩:=H1 h
 refine J5 (A0i k) eK R R R R ?_
 refine A8E (vf:=fun b=>vB b) (v:=true) (q:=(M0 ([]:List (Int × Bool)) rv true)) ([c1 (.el 26 (([d]).map F7.d) ((0:Int)).toNat 0),C3e (M0 ([]:List (Int × Bool)) rv true)]) R R R R R R R R R ?_
 refine eU 3 R (qG (A3E R R R R (eU 1 R (C9 ?_))))
 cases h
 exact f2 [0,2,1] (.cons R R (.cons R R (.map R .nil))) R (.cons (.tmp 2) .nil) R
def A0n (F:Nat) (B29:(List Int)→Int→Option (Int × Bool)) (y:(List Int)) (x x4:Int):Option (Int × Bool):=(A8i y [x4]).bind fun q=>B29 q (W (x+1))
def A0o (F:Nat) (y:(List Int)) (e:E0) (K:Int→Int→Option (Int × Bool)):Nat→Int→Int→Option (Int × Bool)
 | 0,_,_=>none
 | n+1,x2,x3=>if x3<(e.need.length:Int)then((P3 e.need x3).bind fun e4=>(P3 y e4).bind fun e5=>A0o F y e K n (max x2 e5) (W (x3+1)))else(K x2 x3)
def A1b (F:Nat):Option (Int × Bool):=some (0,false)
def A1c (F:Nat) (B46:Int→(List (Int × Bool))→Option (Int × Bool)) (i:Int) (mm2:(List (Int × Bool))):Option (Int × Bool):=B46 (W (i-1)) mm2
def A0p (F:Nat) (e7:E0) (K:(List (Int × Bool))→Int→Option (Int × Bool)):Nat→(List (Int × Bool))→Int→Option (Int × Bool)
 | 0,_,_=>none
 | n+1,mm2,x5=>if x5<(e7.need.length:Int)then((P3 e7.need x5).bind fun e8=>A0p F e7 K n (M0 mm2 e8 true) (W (x5+1)))else(K mm2 x5)
def R4 (F:Nat) (t:F7) (o e6:Int) (rv4:(F7 × (List (Int × Bool)))) (rv5:(List E0)) (K:Int→(List (Int × Bool))→Option (Int × Bool)):Nat→Int→(List (Int × Bool))→Option (Int × Bool)
 | 0,_,_=>none
 | n+1,i,mm=>if 0≤i then((P3 rv5 i).bind fun e7=>if((A2e mm i).getD false)=true then(A0p F e7 (fun mm2 x5=>(A0R F rv4.1 i).bind fun rv6=>if rv6=true then((P3 t.A1 i).bind fun e9=>(P3 t.F8 i).bind fun e10=>if(W (e9+e10.most))<o then(A1b F)else((U8 F t).bind fun rv7=>if i=rv7 then(if(W (e9+e10.most))<(max e6 t.D8)then(A1b F)else(A1c F (R4 F t o e6 rv4 rv5 K n) i mm2))else(A1c F (R4 F t o e6 rv4 rv5 K n) i mm2)))else(R4 F t o e6 rv4 rv5 K n (W (i-1)) mm2)) F mm 0)else(R4 F t o e6 rv4 rv5 K n (W (i-1)) mm))else(K i mm)
def T5 (F:Nat) (t:F7) (o:Int) (K:(List Int)→Int→Option (Int × Bool)):Nat→(List Int)→Int→Option (Int × Bool)
 | 0,_,_=>none
 | n+1,y,x=>if x<(t.F8.length:Int)then((P3 t.F8 x).bind fun e=>(Y5 F t x).bind fun rv=>if rv=true then((P3 t.A5 x).bind fun e2=>A0n F (T5 F t o K n) y x e2)else((A0R F t x).bind fun rv2=>if rv2=true then((P3 t.A1 x).bind fun e3=>A0n F (T5 F t o K n) y x (max o (W (e3+e.least))))else(A0o F y e (fun x2 x3=>A0n F (T5 F t o K n) y x (W (x2+e.least))) F o 0)))else(K y x)
def A2h (F:Nat) (t:F7) (o:Int):Option (Int × Bool):=T5 F t o (fun y x=>(U8 F t).bind fun rv3=>(P3 y rv3).bind fun e6=>(A37 F t).bind fun rv4=>(A2C F rv4.1.F8).bind fun rv5=>R4 F t o e6 rv4 rv5 (fun i mm=>some ((max e6 t.D8),(decide ((max e6 t.D8)≤t.G0)))) F (W ((rv5.length:Int)-1)) rv4.2) F ([]:List Int) 0
theorem A4a {F t o r} (h:A2h F t o=some r):PC Tryz.prog 53 [.el 26 (([t]).map F7.d) ((0:Int)).toNat 0,vI o] (.tup [vI r.1,vB r.2]):=by
 rw[A2h]at h
 refine oN Tryz.func53 ?_
 refine S3 ?_
 refine W3 fun df=>?_
 refine hE 4 R (S3 ?_)
 refine W3 fun df=>?_
 refine hE 1 R (S3 ?_)
 refine W3 fun df=>?_
 refine gU 4 R (I4 (y := .arr 9 ((t.F8).map E0.d)) tb (U5 (g:=F7.d) (R:P3 [t] 0=some t)) R (I7 tb R (eU 1 R (E3 ?_))))
 refine SW.own (ts':=[(2,rf 0 1),(3,rf 1 1),(4,rf 2 1),(5,rf 3 1),(6,.row 4 1 0 (([]:List Int)).length),(19,.d (.arr 9 ((t.F8).map E0.d))),(20,dI (t.F8.length:Int)),(21,dI 0)]) (L':=[c1 (.el 26 (([t]).map F7.d) ((0:Int)).toNat 0),c1 (vI o),c1 (vI 0),c1 (vB false)]) 1 R R (.cons (.same _) (.cons (.same _) (.cons (.same _) (.cons (.same _) (.cons .nil (.cons (.same _) (.cons (.same _) (.cons (.same _) .nil)))))))) (.same (.same (.same (.same .nil)))) ?_
 simp only[List.cons_append,List.nil_append]
 obtain⟨K29,hK29,h⟩:∃ K,K=_∧T5 F t o K F ([]:List Int) 0=some r:=⟨_,rfl,h⟩
 refine lW (fun m st=>∃ (y:(List Int)) (x:Int),T5 F t o K29 m y x=some r∧st=⟨[(2,rf 0 1),(3,rf 1 1),(4,rf 2 1),(5,rf 3 1),(6,.row 4 1 0 (y).length),(19,.d (.arr 9 ((t.F8).map E0.d))),(20,dI (t.F8.length:Int)),(21,dI x)],[c1 (.el 26 (([t]).map F7.d) ((0:Int)).toNat 0),c1 (vI o),c1 (vI 0),c1 (vB false),B0u y]⟩) ⟨([]:List Int),0,h,R⟩ (.prn [2,3,4,5,6,19,20,21] R) ?_
 clear h
 rintro m29 st ⟨y,x,h,rfl⟩
 cases m29 with
 | zero=>cases(show(none:Option (Int × Bool))=some r from h)
 | succ m29 =>
 rw[T5]at h
 refine qG ?_
 refine Q4 R R R R (tJ h ?_) (lJ h ?_)
 ·intro h
  refine Y9 (B8 (zT (B8 (E3 (gU 1 R ?_)))))
  obtain⟨e,ie,h⟩:=H1 h
  refine yE ie R R (eU 3 R (gY 2 R (B8 ?_)))
  refine W5 (fun zz:Int=>A0n F (T5 F t o K29 m29) y x zz=some r) (fun zz:Int=>⟨[(2,rf 0 1),(3,rf 1 1),(4,rf 2 1),(5,rf 3 1),(6,.row 4 1 0 (y).length),(9,dI zz),(19,.d (.arr 9 ((t.F8).map E0.d))),(20,dI (t.F8.length:Int)),(21,dI x)],[c1 (.el 26 (([t]).map F7.d) ((0:Int)).toNat 0),c1 (vI o),c1 (vI 0),c1 (vB false),B0u y]⟩) ?_ ?_
  ·clear h
   rintro x4 h
   rw[A0n]at h
   refine hU 2 R (P7 tb R R R R R R R R R R R R R ?_)
   obtain⟨q,iq,h⟩:=H1 h
   refine B2k (g:=vI) (w:=y) (v:=[x4]) ([c1 (.el 26 (([t]).map F7.d) ((0:Int)).toNat 0),c1 (vI o),c1 (vI 0),c1 (vB false),none,B0u [x4]]) tb R R R R R R R R R R R iq R R R R R (eU 1 R (hN 2 R ?_))
   exact bk ⟨q,(W (x+1)),h,R⟩ (.vw (κ:=[0,1,2,3,6]) (vK (.cons R R (.cons R R (.cons R R (.cons R R C23)))) R))
  refine E3 (gU 2 R ?_)
  obtain⟨rv,k,h⟩:=H1 h
  refine M6 (A1s k) eK R R R R (tI h ?_) (fI h ?_)
  ·intro c2 h
   refine eU 1 R (C0 R (hU 4 R (I4 (y:=aI t.A5) tb (U5 (g:=F7.d) (R:P3 [t] 0=some t)) R (rU 1 R ?_))))
   obtain⟨e2,ie2,h⟩:=H1 h
   refine yE ie2 R R (eU 1 R (D3 (A6 ?_)))
   exact .inl ⟨e2,h,.vw (κ:=[0,1,2,3,4]) (vK (.cons R R (.cons R R (.cons R R (.cons R R C23)))) R)⟩
  intro c2 h
  refine eU 1 R (C1 R (gU 2 R ?_))
  obtain⟨rv2,k2,h⟩:=H1 h
  refine M6 (A38 k2) eK R R R R (tI h ?_) (fI h ?_)
  ·intro c3 h
   refine eU 1 R (C0 R (T1 kR (rU 5 R (I4 (y:=aI t.A1) tb (U5 (g:=F7.d) (R:P3 [t] 0=some t)) R (rU 1 R ?_)))))
   obtain⟨e3,ie3,h⟩:=H1 h
   refine yE ie3 R R (rU 3 R (B3f R R R R (rU 1 R (I0 kR (D3 (A6 ?_))))))
   exact .inl ⟨(max o (W (e3+e.least))),h,.vw (κ:=[0,1,2,3,4]) (vK (.cons R R (.cons R R (.cons R R (.cons R R C23)))) R)⟩
  intro c3 h
  refine eU 1 R (C1 R (B8 (gU 2 R (I7 tb R (eU 1 R (E3 ?_))))))
  obtain⟨K37,hK37,h⟩:∃ K,K=_∧A0o F y e K F o 0=some r:=⟨_,rfl,h⟩
  refine lW (fun m st=>∃ (x2:Int) (x3:Int),A0o F y e K37 m x2 x3=some r∧st=⟨[(2,rf 0 1),(3,rf 1 1),(4,rf 2 1),(5,rf 3 1),(6,.row 4 1 0 (y).length),(8,rf 5 9),(9,dI x2),(19,.d (.arr 9 ((t.F8).map E0.d))),(20,dI (t.F8.length:Int)),(21,dI x),(28,.d (aI e.need)),(29,dI (e.need.length:Int)),(30,dI x3)],[c1 (.el 26 (([t]).map F7.d) ((0:Int)).toNat 0),c1 (vI o),c1 (vI 0),c1 (vB false),B0u y,bx 9 (.d (E0.d e))]⟩) ⟨o,0,h,R⟩ (.prn [2,3,4,5,6,8,9,19,20,21,28,29,30] R) ?_
  clear h
  rintro m37 st ⟨x2,x3,h,rfl⟩
  cases m37 with
  | zero=>cases(show(none:Option (Int × Bool))=some r from h)
  | succ m37 =>
  rw[A0o]at h
  refine qG ?_
  refine Q4 R R R R (tJ h ?_) (lJ h ?_)
  ·intro h
   refine Y9 (B8 (zT (B8 (E3 (qG ?_)))))
   obtain⟨e4,ie4,h⟩:=H1 h
   refine yE ie4 R R (eU 1 R (hU 3 R ?_))
   obtain⟨e5,ie5,h⟩:=H1 h
   refine Y1 tb R R R R R R (F0 ie5) (ix1 ie5) R R ?_
   refine A15 (y:=vI e5) tb R R R R (U5 (g:=fun a=>T.d (vI a)) ie5) R R R R ?_
   refine B3f R R R R (eU 1 R (hN 2 R ?_))
   exact bk ⟨(max x2 e5),(W (x3+1)),h,R⟩ (.prn [2,3,4,5,6,8,9,19,20,21,28,29,30] R)
  intro h
  refine Y9 (B8 (C1 R (N5 (E4 (E4 ?_)))))
  subst hK37
  refine hE 5 R (D3 (A6 ?_))
  exact .inl ⟨(W (x2+e.least)),h,.vw (κ:=[0,1,2,3,4]) (vK (.cons R R (.cons R R (.cons R R (.cons R R C23)))) R)⟩
 intro h
 refine Y9 (B8 (C1 R (N5 (E4 (E4 ?_)))))
 subst hK29
 refine S3 ?_
 refine W3 fun df=>?_
 refine T1 kR (rU 2 R ?_)
 obtain⟨rv3,k3,h⟩:=H1 h
 refine J5 (A0i k3) eK R R R R ?_
 obtain⟨e6,ie6,h⟩:=H1 h
 refine Y1 tb R R R R R R (F0 ie6) (ix1 ie6) R R ?_
 refine A15 (y:=vI e6) tb R R R R (U5 (g:=fun a=>T.d (vI a)) ie6) R R R R ?_
 refine rU 5 R (I4 (y:=vI t.D8) tb (U5 (g:=F7.d) (R:P3 [t] 0=some t)) R (B3f R R R R (rU 2 R (I0 kR (S3 (S3 ?_))))))
 refine W3 fun df=>?_
 refine hU 1 R ?_
 obtain⟨rv4,k4,h⟩:=H1 h
 refine A2X (A6U k4) eK R R R ((.cons R (.cons R (.map .nil)))) R R R (Y9 (A5A ?_))
 refine B8m (B2u eK R R R fun lb jlb=>B36 Tryz.func167 R R R R ?_)
 simp only[L8,Nat.zero_add,Nat.reduceAdd]
 with_reducible apply B6f
 refine B8n fun df=>?_
 refine hE 1 R ?_
 with_reducible apply O2
 with_reducible apply B6f
 refine B8n fun df=>?_
 refine hU 4 R (I4 (y := .arr 9 ((rv4.1.F8).map E0.d)) tb (U5 (g:=F7.d) (R:P3 [rv4.1] 0=some rv4.1)) R ?_)
 obtain⟨rv5,k5,h⟩:=H1 h
 refine A2X (A5U k5) eK R R R ((.cons R .nil)) R R R (Y9 ?_)
 with_reducible apply O2
 with_reducible apply B6T
 refine B2u eK R R R fun lb2 jlb2=>B35 Tryz.func212 R R R R ?_
 simp only[L8,Nat.zero_add,Nat.reduceAdd]
 with_reducible apply A2D
 with_reducible apply A4D
 with_reducible apply A2B
 refine rU 1 R (I7 tb R (rU 2 R (A0B ?_)))
 with_reducible apply O2
 with_reducible apply A6K
 obtain⟨K46,hK46,h⟩:∃ K,K=_∧R4 F t o e6 rv4 rv5 K F (W ((rv5.length:Int)-1)) rv4.2=some r:=⟨_,rfl,h⟩
 refine B2s (fun m ph st=>∃ (i:Int) (mm:(List (Int × Bool))),R4 F t o e6 rv4 rv5 K46 m i mm=some r∧ph=(SX.norm,SX.norm,())∧st=⟨[(0,.d (.v (.func (.yield lb2) #[] #[]))),(1,rf 10 1),(3,dI i)],[c1 (.el 26 (([t]).map F7.d) ((0:Int)).toNat 0),c1 (vI o),c1 (vI 0),c1 (vB false),B0u y,c1 (vI (max e6 t.D8)),c1 (.el 26 (([rv4.1]).map F7.d) ((0:Int)).toNat 0),bx 1 (.mp 8),C3e mm,c1 (.v (.func (.yield lb) #[] #[])),c1 (.arr 9 ((rv5).map E0.d))]⟩) (.prn [0,1,3] R) ⟨(W ((rv5.length:Int)-1)),rv4.2,h,R,R⟩ ?_
 clear h
 rintro m46 ph st ⟨i,mm,h,rfl,rfl⟩
 cases m46 with
 | zero=>cases(show(none:Option (Int × Bool))=some r from h)
 | succ m46 =>
 rw[R4]at h
 with_reducible apply A2D
 with_reducible apply A2D
 with_reducible apply A4D
 with_reducible apply A2B
 refine rU 1 R ?_
 refine A7I R R R R (tJ h ?_) (mJ h ?_)
 ·intro h
  refine A0B ?_
  with_reducible apply O2
  refine A6L R ?_
  with_reducible apply A5i
  with_reducible apply O2
  with_reducible apply A2D
  with_reducible apply A6K
  with_reducible apply A2D
  with_reducible apply A4D
  with_reducible apply A2B
  refine rU 4 R ?_
  obtain⟨e7,ie7,h⟩:=H1 h
  refine yE ie7 R R (B1T ?_)
  (apply B2n (ys:=[vI i,E0.d e7]));(iterate 7 exact rfl)
  intro hup2
  dsimp only[B1H]
  refine gY 1 R (hE 2 R ?_)
  refine⟨R,?_⟩
  with_reducible apply A6K
  with_reducible apply A2D
  with_reducible apply A2D
  with_reducible apply A4D
  with_reducible apply A2B
  refine rU 2 R ?_
  refine C0I (vf:=fun b=>vB b) (z0:=false) (u:=vB ((A2e mm i).getD false)) tb R R R R R R R R R R ?_
  refine X8 (tI h ?_) (fI h ?_)
  ·intro c6 h
   refine rU 1 R (A0B ?_)
   with_reducible apply O2
   refine A3Q R ?_
   with_reducible apply A5i
   with_reducible apply O2
   with_reducible apply A2D
   with_reducible apply A2D
   with_reducible apply A4D
   with_reducible apply A2B
   refine rU 2 R (I7 tb R (rU 1 R (A0B ?_)))
   with_reducible apply O2
   with_reducible apply A6K
   obtain⟨K47,hK47,h⟩:∃ K,K=_∧A0p F e7 K F mm 0=some r:=⟨_,rfl,h⟩
   refine B2s (st0:=⟨[(1,rf 6 1),(2,rf 7 1),(3,rf 9 1),(4,dI i),(21,.d (aI e7.need)),(22,dI (e7.need.length:Int)),(23,dI 0)],[c1 (.el 26 (([t]).map F7.d) ((0:Int)).toNat 0),c1 (vI o),c1 (vI 0),c1 (vB false),B0u y,c1 (vI (max e6 t.D8)),c1 (.el 26 (([rv4.1]).map F7.d) ((0:Int)).toNat 0),bx 1 (.mp 8),C3e mm,c1 (.v (.func (.yield lb) #[] #[])),c1 (.arr 9 ((rv5).map E0.d))]⟩) (fun m ph st=>∃ (mm2:(List (Int × Bool))) (x5:Int),A0p F e7 K47 m mm2 x5=some r∧ph=(SX.norm,())∧st=⟨[(1,rf 6 1),(2,rf 7 1),(3,rf 9 1),(4,dI i),(21,.d (aI e7.need)),(22,dI (e7.need.length:Int)),(23,dI x5)],[c1 (.el 26 (([t]).map F7.d) ((0:Int)).toNat 0),c1 (vI o),c1 (vI 0),c1 (vB false),B0u y,c1 (vI (max e6 t.D8)),c1 (.el 26 (([rv4.1]).map F7.d) ((0:Int)).toNat 0),bx 1 (.mp 8),C3e mm2,c1 (.v (.func (.yield lb) #[] #[])),c1 (.arr 9 ((rv5).map E0.d))]⟩) (.vw (κ:=[0,1,2,3,4,5,6,7,8,9,10]) (vK (.cons R R (.cons R R (.cons R R (.cons R R (.row R (.cons R R (.cons R R (.cons R R (.map R (.cons R R (.cons R R .nil))))))))))) R)) ⟨mm,0,h,R,R⟩ ?_
   clear h
   rintro m47 ph st ⟨mm2,x5,h,rfl,rfl⟩
   cases m47 with
   | zero=>cases(show(none:Option (Int × Bool))=some r from h)
   | succ m47 =>
   rw[A0p]at h
   with_reducible apply A2D
   with_reducible apply A4D
   with_reducible apply A2B
   refine Q4 R R R R (tJ h ?_) (lJ h ?_)
   ·intro h
    refine A0B ?_
    with_reducible apply O2
    with_reducible apply A2D
    refine A6L R ?_
    with_reducible apply A5i
    with_reducible apply O2
    with_reducible apply A2D
    with_reducible apply A6K
    with_reducible apply A2D
    with_reducible apply A4D
    with_reducible apply A2B
    obtain⟨e8,ie8,h⟩:=H1 h
    refine yE ie8 R R (rU 1 R (A0B ?_))
    with_reducible apply O2
    with_reducible apply A4D
    with_reducible apply A2B
    refine rU 2 R ?_
    refine C0b (vf:=fun b=>vB b) (v:=true) (q:=(M0 mm2 e8 true)) ([c1 (.el 26 (([t]).map F7.d) ((0:Int)).toNat 0),c1 (vI o),c1 (vI 0),c1 (vB false),B0u y,c1 (vI (max e6 t.D8)),c1 (.el 26 (([rv4.1]).map F7.d) ((0:Int)).toNat 0),bx 1 (.mp 8),C3e (M0 mm2 e8 true),c1 (.v (.func (.yield lb) #[] #[])),c1 (.arr 9 ((rv5).map E0.d))]) R R R R R R R R R ?_
    refine A0B ?_
    with_reducible apply A3a
    with_reducible apply O2
    with_reducible apply A4D
    with_reducible apply A2B
    refine rU 2 R (A0B ?_)
    with_reducible apply O2
    exact bk ⟨(M0 mm2 e8 true),(W (x5+1)),h,R,R⟩ (.prn [1,2,3,4,21,22,23] R)
   intro h
   refine A0B ?_
   with_reducible apply O2
   with_reducible apply A2D
   refine A3Q R ?_
   with_reducible apply B12
   with_reducible apply A5W
   with_reducible apply A5W
   subst hK47
   with_reducible apply A75
   with_reducible apply O2
   with_reducible apply A2D
   with_reducible apply A4D
   with_reducible apply A2B
   refine rU 2 R ?_
   obtain⟨rv6,k6,h⟩:=H1 h
   refine M6 (A38 k6) eK R R R R (tI h ?_) (fI h ?_)
   ·intro c8 h
    refine rU 3 R (B1T ?_)
    (apply B5x (ys:=[vI i]));(iterate 7 exact rfl)
    intro hup
    dsimp only[B1H]
    refine hE 1 R ?_
    refine⟨R,C0g ?_⟩
    refine E3 (B8 (T1 kR (rU 4 R (I4 (y:=aI t.A1) tb (U5 (g:=F7.d) (R:P3 [t] 0=some t)) R (rU 1 R ?_)))))
    obtain⟨e9,ie9,h⟩:=H1 h
    refine yE ie9 R R (rU 4 R (I4 (y := .arr 9 ((t.F8).map E0.d)) tb (U5 (g:=F7.d) (R:P3 [t] 0=some t)) R (rU 1 R ?_)))
    obtain⟨e10,ie10,h⟩:=H1 h
    refine xE ie10 R (rU 1 R (lE ie10 R (rU 2 R (I0 kR (B8 ?_)))))
    refine W5 (Sum.elim (fun zz:Unit=>A1b F=some r) (fun zz:Unit=>A1c F (R4 F t o e6 rv4 rv5 K46 m46) i mm2=some r)) (Sum.elim (fun zz:Unit=>⟨[(4,rf 2 1),(5,rf 3 1),(125,dB true)],[c1 (.el 26 (([t]).map F7.d) ((0:Int)).toNat 0),c1 (vI o),c1 (vI 0),c1 (vB false),B0u y,c1 (vI (max e6 t.D8)),c1 (.el 26 (([rv4.1]).map F7.d) ((0:Int)).toNat 0),bx 1 (.mp 8),C3e mm2,c1 (.v (.func (.yield lb) #[] #[])),c1 (.arr 9 ((rv5).map E0.d))]⟩) (fun zz:Unit=>⟨[(4,rf 2 1),(5,rf 3 1),(125,dB false)],[c1 (.el 26 (([t]).map F7.d) ((0:Int)).toNat 0),c1 (vI o),c1 (vI 0),c1 (vB false),B0u y,c1 (vI (max e6 t.D8)),c1 (.el 26 (([rv4.1]).map F7.d) ((0:Int)).toNat 0),bx 1 (.mp 8),C3e mm2,c1 (.v (.func (.yield lb) #[] #[])),c1 (.arr 9 ((rv5).map E0.d))]⟩)) ?_ ?_
    ·clear h
     rintro(⟨⟩ | ⟨⟩) h
     ·dsimp only[Sum.elim]at h ⊢
      rw[A1b]at h
      refine C0 R (gY 2 R (C9 (C4 ?_)))
      refine⟨[c1 (.el 26 (([t]).map F7.d) ((0:Int)).toNat 0),c1 (vI o),c1 (vI 0),c1 (vB false),B0u y,c1 (vI (max e6 t.D8)),c1 (.el 26 (([rv4.1]).map F7.d) ((0:Int)).toNat 0),bx 1 (.mp 8),C3e mm2,c1 (.v (.func (.yield lb) #[] #[])),c1 (.arr 9 ((rv5).map E0.d))],[0,1,2,3,4,5,6,7,8,9,10],(vK (.cons R R (.cons R R (.cons R R (.cons R R (.row R (.cons R R (.cons R R (.cons R R (.map R (.cons R R (.cons R R .nil))))))))))) R),?_⟩
      with_reducible apply B6k
      with_reducible apply A2B
      refine rU 2 R (A0B ?_)
      with_reducible apply O2
      refine A6L R ?_
      with_reducible apply B6e
      with_reducible apply A6Q
      refine⟨[c1 (.el 26 (([t]).map F7.d) ((0:Int)).toNat 0),c1 (vI o),c1 (vI 0),c1 (vB false),B0u y,c1 (vI (max e6 t.D8)),c1 (.el 26 (([rv4.1]).map F7.d) ((0:Int)).toNat 0),bx 1 (.mp 8),C3e mm2,c1 (.v (.func (.yield lb) #[] #[])),c1 (.arr 9 ((rv5).map E0.d))],[0,1,2,3,4,5,6,7,8,9,10],(vK (.cons R R (.cons R R (.cons R R (.cons R R (.row R (.cons R R (.cons R R (.cons R R (.map R (.cons R R (.cons R R .nil))))))))))) R),?_⟩
      with_reducible apply B6k
      with_reducible apply A2B
      refine rU 1 R (A0B ?_)
      with_reducible apply O2
      refine A6L R ?_
      with_reducible apply B6e
      with_reducible apply A6Q
      with_reducible apply B2x
      with_reducible apply B2x
      with_reducible apply A6Q
      refine⟨R,[c1 (.el 26 (([t]).map F7.d) ((0:Int)).toNat 0),c1 (vI o),c1 (vI 0),c1 (vB false),B0u y,c1 (vI (max e6 t.D8)),c1 (.el 26 (([rv4.1]).map F7.d) ((0:Int)).toNat 0),bx 1 (.mp 8),C3e mm2,c1 (.v (.func (.yield lb) #[] #[])),c1 (.arr 9 ((rv5).map E0.d))],[0,1,2,3,4,5,6,7,8,9,10],(vK (.cons R R (.cons R R (.cons R R (.cons R R (.row R (.cons R R (.cons R R (.cons R R (.map R (.cons R R (.cons R R .nil))))))))))) R),?_⟩
      try dsimp only
      with_reducible apply A6Q
      refine⟨R,[c1 (.el 26 (([t]).map F7.d) ((0:Int)).toNat 0),c1 (vI o),c1 (vI 0),c1 (vB false),B0u y,c1 (vI (max e6 t.D8)),c1 (.el 26 (([rv4.1]).map F7.d) ((0:Int)).toNat 0),bx 1 (.mp 8),C3e mm2],[0,1,2,3,4,5,6,7,8],(vK (.cons R R (.cons R R (.cons R R (.cons R R (.row R (.cons R R (.cons R R (.cons R R (.map R .nil))))))))) R),?_⟩
      try dsimp only
      cases h
      exact f0 R R R (.cons (rc tb R) (.cons (rc tb R) .nil))
     ·dsimp only[Sum.elim]at h ⊢
      rw[A1c]at h
      refine zF (D3 ?_)
      refine⟨[c1 (.el 26 (([t]).map F7.d) ((0:Int)).toNat 0),c1 (vI o),c1 (vI 0),c1 (vB false),B0u y,c1 (vI (max e6 t.D8)),c1 (.el 26 (([rv4.1]).map F7.d) ((0:Int)).toNat 0),bx 1 (.mp 8),C3e mm2,c1 (.v (.func (.yield lb) #[] #[])),c1 (.arr 9 ((rv5).map E0.d))],[0,1,2,3,4,5,6,7,8,9,10],(vK (.cons R R (.cons R R (.cons R R (.cons R R (.row R (.cons R R (.cons R R (.cons R R (.map R (.cons R R (.cons R R .nil))))))))))) R),?_⟩
      with_reducible apply A9y
      with_reducible apply A2B
      refine rU 2 R (A0B ?_)
      with_reducible apply O2
      refine A3Q R ?_
      with_reducible apply A5i
      with_reducible apply A3a
      refine⟨[c1 (.el 26 (([t]).map F7.d) ((0:Int)).toNat 0),c1 (vI o),c1 (vI 0),c1 (vB false),B0u y,c1 (vI (max e6 t.D8)),c1 (.el 26 (([rv4.1]).map F7.d) ((0:Int)).toNat 0),bx 1 (.mp 8),C3e mm2,c1 (.v (.func (.yield lb) #[] #[])),c1 (.arr 9 ((rv5).map E0.d))],[0,1,2,3,4,5,6,7,8,9,10],(vK (.cons R R (.cons R R (.cons R R (.cons R R (.row R (.cons R R (.cons R R (.cons R R (.map R (.cons R R (.cons R R .nil))))))))))) R),?_⟩
      with_reducible apply A9y
      with_reducible apply A2B
      refine rU 1 R (A0B ?_)
      with_reducible apply O2
      refine A3Q R ?_
      with_reducible apply A5i
      with_reducible apply A3a
      with_reducible apply O2
      with_reducible apply A4D
      with_reducible apply A2B
      refine rU 3 R (A0B ?_)
      with_reducible apply O2
      exact bk ⟨(W (i-1)),mm2,h,R,R⟩ (.prn [0,1,3] R)
    refine hU 2 R ?_
    refine Q4 R R R R (tJ h ?_) (lJ h ?_)
    ·intro h
     refine nU 11 R ?_
     exact .inl ⟨.inl (),h,.prn [4,5,125] R⟩
    intro h
    refine rU 3 R ?_
    obtain⟨rv7,k7,h⟩:=H1 h
    refine J5 (A0i k7) eK R R R R ?_
    refine Z3 R R R R (tJ h ?_) (nJ h ?_)
    ·intro h
     refine rU 3 R ?_
     refine Q4 R R R R (tJ h ?_) (lJ h ?_)
     ·intro h
      refine nU 2 R ?_
      exact .inl ⟨.inl (),h,.prn [4,5,125] R⟩
     intro h
     refine nU 2 R ?_
     exact .inl ⟨.inr (()),h,.prn [4,5,125] R⟩
    intro h
    refine nU 6 R ?_
    exact .inl ⟨.inr (()),h,.prn [4,5,125] R⟩
   intro c8 h
   refine rU 6 R (A0B ?_)
   with_reducible apply O2
   refine A3Q R ?_
   with_reducible apply A5i
   with_reducible apply A3a
   refine⟨[c1 (.el 26 (([t]).map F7.d) ((0:Int)).toNat 0),c1 (vI o),c1 (vI 0),c1 (vB false),B0u y,c1 (vI (max e6 t.D8)),c1 (.el 26 (([rv4.1]).map F7.d) ((0:Int)).toNat 0),bx 1 (.mp 8),C3e mm2,c1 (.v (.func (.yield lb) #[] #[])),c1 (.arr 9 ((rv5).map E0.d))],[0,1,2,3,4,5,6,7,8,9,10],(vK (.cons R R (.cons R R (.cons R R (.cons R R (.row R (.cons R R (.cons R R (.cons R R (.map R (.cons R R (.cons R R .nil))))))))))) R),?_⟩
   with_reducible apply A9y
   with_reducible apply A2B
   refine rU 1 R (A0B ?_)
   with_reducible apply O2
   refine A3Q R ?_
   with_reducible apply A5i
   with_reducible apply A3a
   with_reducible apply O2
   with_reducible apply A4D
   with_reducible apply A2B
   refine rU 3 R (A0B ?_)
   with_reducible apply O2
   exact bk ⟨(W (i-1)),mm2,h,R,R⟩ (.prn [0,1,3] R)
  intro c6 h
  refine rU 1 R (A0B ?_)
  with_reducible apply O2
  refine A6L R ?_
  with_reducible apply B12
  with_reducible apply A5W
  with_reducible apply A75
  refine⟨[c1 (.el 26 (([t]).map F7.d) ((0:Int)).toNat 0),c1 (vI o),c1 (vI 0),c1 (vB false),B0u y,c1 (vI (max e6 t.D8)),c1 (.el 26 (([rv4.1]).map F7.d) ((0:Int)).toNat 0),bx 1 (.mp 8),C3e mm,c1 (.v (.func (.yield lb) #[] #[])),c1 (.arr 9 ((rv5).map E0.d))],[0,1,2,3,4,5,6,7,8,9,10],(vK (.cons R R (.cons R R (.cons R R (.cons R R (.row R (.cons R R (.cons R R (.cons R R (.map R (.cons R R (.cons R R .nil))))))))))) R),?_⟩
  with_reducible apply A9y
  with_reducible apply A2B
  refine rU 1 R (A0B ?_)
  with_reducible apply O2
  refine A3Q R ?_
  with_reducible apply A5i
  with_reducible apply A3a
  with_reducible apply O2
  with_reducible apply A4D
  with_reducible apply A2B
  refine rU 3 R (A0B ?_)
  with_reducible apply O2
  exact bk ⟨(W (i-1)),mm,h,R,R⟩ (.prn [0,1,3] R)
 intro h
 refine A0B ?_
 with_reducible apply O2
 refine A3Q R ?_
 with_reducible apply B12
 with_reducible apply A5W
 with_reducible apply A5W
 subst hK46
 with_reducible apply A75
 refine⟨R,[c1 (.el 26 (([t]).map F7.d) ((0:Int)).toNat 0),c1 (vI o),c1 (vI 0),c1 (vB false),B0u y,c1 (vI (max e6 t.D8)),c1 (.el 26 (([rv4.1]).map F7.d) ((0:Int)).toNat 0),bx 1 (.mp 8),C3e mm,c1 (.v (.func (.yield lb) #[] #[])),c1 (.arr 9 ((rv5).map E0.d))],[0,1,2,3,4,5,6,7,8,9,10],(vK (.cons R R (.cons R R (.cons R R (.cons R R (.row R (.cons R R (.cons R R (.cons R R (.map R (.cons R R (.cons R R .nil))))))))))) R),?_⟩
 try dsimp only
 with_reducible apply A3a
 refine⟨R,[c1 (.el 26 (([t]).map F7.d) ((0:Int)).toNat 0),c1 (vI o),c1 (vI 0),c1 (vB false),B0u y,c1 (vI (max e6 t.D8)),c1 (.el 26 (([rv4.1]).map F7.d) ((0:Int)).toNat 0),bx 1 (.mp 8),C3e mm],[0,1,2,3,4,5,6,7,8],(vK (.cons R R (.cons R R (.cons R R (.cons R R (.row R (.cons R R (.cons R R (.cons R R (.map R .nil))))))))) R),?_⟩
 try dsimp only
 refine W3 fun df=>?_
 refine B8 (T1 kR (rU 7 R (I4 (y:=vI t.G0) tb (U5 (g:=F7.d) (R:P3 [t] 0=some t)) R (B8a R R R R (rU 2 R (I0 kR (C9 ?_)))))))
 cases h
 exact f0 R R R (.cons (rc tb R) (.cons (rc tb R) .nil))
def A6V (F:Nat) (p:D4) (log:(List C7)):Option ((Option F7) × Int):=(A42 F p log).bind fun rv=>B2S rv.1 (if rv.2.2=0 then(none)else(some (none,rv.2.2))) (fun t=>if rv.2.2=0 then((U8 F t).bind fun rv2=>(Y5 F t rv2).bind fun rv3=>if rv3=true then(some (none,9))else(some ((some t),0)))else(some (none,rv.2.2)))
theorem A4b {F p log r} (h:A6V F p log=some r):SCO Tryz.prog 51 (List.map T.d [D4.d p,.arr 8 ((log).map C7.d)]) [] r.1 (.d (.tup [.v (.pointer none),vI r.2])) (List.map some []) (fun(tt:F7) => .tup [rf 0 26,dI r.2]) (fun(tt:F7)=>List.map some [⟨26,[C5 tt 1 2 3 4 5]⟩,(B7 tt.A1),(B7 tt.A5),(H7 tt.B1),(B7 tt.A7),(H7 tt.B0)]):=by
 rw[A6V]at h
 refine oW Tryz.func51 ?_
 refine gY 3 R (gU 2 R ?_)
 obtain⟨rv,k,h⟩:=H1 h
 rcases Option.eq_none_or_eq_some rv.1 with nv | ⟨t,nv⟩
 ·replace h:=(B5h nv).symm.trans h
  refine cO [] ((A4c k).none nv) eK .nil R .nil ((.row .nil)) R (eU 7 R (B8 (E3 (gU 1 R ?_))))
  refine V5 R R R R (nJ h ?_) (tJ h ?_)
  ·intro h
   refine eU 1 R (C0 R (gY 3 R (C9 (C4 (B2 ?_)))))
   cases h
   exact fS [] (.inl ⟨R,R,R⟩) R (.cons (.tmp 4) (.cons (.tmp 5) .nil)) (v0 R)
  intro h
  cases h
 replace h:=(B5i nv).symm.trans h
 refine cO [] ((A4c k).some nv) eK .nil R .nil ((.cons R (.row (.row (.row (.row (.row (.row .nil)))))))) R (eU 7 R (B8 (E3 (gU 1 R ?_))))
 refine V5 R R R R (nJ h ?_) (tJ h ?_)
 ·intro h
  refine eU 1 R (C0 R (gY 3 R (C9 (C4 (B2 ?_)))))
  cases h
  exact fS [] (.inl ⟨R,R,R⟩) R (.cons (.tmp 4) (.cons (.tmp 5) .nil)) (v0 R)
 intro h
 refine eU 1 R (C1 R (gU 2 R ?_))
 obtain⟨rv2,k2,h⟩:=H1 h
 refine A19 (A0i k2) R eK R R ((.cons (.ref R (.aggL (dL (dL (dL (dL (dL (dL (dL (dL (dL (dL (dL (dL (dL (dL (dL (dL (dL (dL (dL (dL (.cons (.row R R) (.cons (.row R R) (dL (.cons (.row R R) (.cons (.row R R) (.cons (.row R R) .nil)))))))))))))))))))))))))))) .nil)) R R ?_
 obtain⟨rv3,k3,h⟩:=H1 h
 refine A4k (A1s k3) eK R R ((.cons (.ref R (.aggL (dL (dL (dL (dL (dL (dL (dL (dL (dL (dL (dL (dL (dL (dL (dL (dL (dL (dL (dL (dL (.cons (.row R R) (.cons (.row R R) (dL (.cons (.row R R) (.cons (.row R R) (.cons (.row R R) .nil)))))))))))))))))))))))))))) (dL .nil))) R R (tI h ?_) (fI h ?_)
 ·intro c3 h
  refine eU 1 R (C0 R (gY 2 R (C9 (C4 (B2 ?_)))))
  cases h
  exact fS [] (.inl ⟨R,R,R⟩) R (.cons (.tmp 4) (.cons (.tmp 5) .nil)) (v0 R)
 intro c3 h
 refine eU 1 R (zF (gY 3 R (C9 ?_)))
 cases h
 exact fS [1,2,3,4,5,6] (.inr ⟨_,R,R,R⟩) R (.cons (.tmp 4) (.cons (.tmp 5) .nil)) (vK (.cons R R B9x) R)
def A3Z (F:Nat) (p:D4) (log:(List C7)) (tick:Int):Option (Int × Int):=(A6V F p log).bind fun rv=>B2S rv.1 (if rv.2=0 then(none)else(some (0,rv.2))) (fun t=>if rv.2=0 then((Y7 F tick t.H6 100000).bind fun rv2=>if rv2=true then(some (0,7))else((A2h F t tick).bind fun rv3=>if rv3.2=true then(some (rv3.1,0))else(some (0,9))))else(some (0,rv.2)))
theorem A6d {F p log tick r} (h:A3Z F p log tick=some r):PC Tryz.prog 23 [D4.d p,.arr 8 ((log).map C7.d),vI tick] (.tup [vI r.1,vI r.2]):=by
 rw[A3Z]at h
 refine oW Tryz.func23 ?_
 refine gY 3 R (gU 2 R ?_)
 obtain⟨rv,k,h⟩:=H1 h
 rcases Option.eq_none_or_eq_some rv.1 with nv | ⟨t,nv⟩
 ·replace h:=(B5h nv).symm.trans h
  refine cO [] ((A4b k).none nv) eK .nil R .nil .nil R (eU 5 R (B8 (E3 (gU 1 R ?_))))
  refine V5 R R R R (nJ h ?_) (tJ h ?_)
  ·intro h
   refine eU 1 R (C0 R (gY 3 R (C9 ?_)))
   cases h
   exact f0 R R R (.cons (.tmp 6) (.cons (.tmp 7) .nil))
  intro h
  cases h
 replace h:=(B5i nv).symm.trans h
 refine cO [] ((A4b k).some nv) eK .nil R .nil ((.cons R (.row (.row (.row (.row (.row .nil))))))) R (eU 5 R (B8 (E3 (gU 1 R ?_))))
 refine V5 R R R R (nJ h ?_) (tJ h ?_)
 ·intro h
  refine eU 1 R (C0 R (gY 3 R (C9 ?_)))
  cases h
  exact f0 R R R (.cons (.tmp 6) (.cons (.tmp 7) .nil))
 intro h
 refine eU 1 R (C1 R (gU 6 R ?_))
 obtain⟨rv2,k2,h⟩:=H1 h
 refine M6 (V8 k2) eK R R R R (tI h ?_) (fI h ?_)
 ·intro c3 h
  refine eU 1 R (C0 R (gY 2 R (C9 ?_)))
  cases h
  exact f0 R R R (.cons (.tmp 6) (.cons (.tmp 7) .nil))
 intro c3 h
 refine eU 1 R (zF (gU 2 R ?_))
 obtain⟨rv3,k3,h⟩:=H1 h
 refine A19 (A4a k3) R eK R R ((.cons (.ref R (.aggL (dL (dL (dL (dL (dL (dL (dL (dL (dL (dL (dL (dL (dL (dL (dL (dL (dL (dL (dL (dL (.cons (.row R R) (.cons (.row R R) (dL (.cons (.row R R) (.cons (.row R R) (.cons (.row R R) .nil)))))))))))))))))))))))))))) (dL .nil))) R R (rU 3 R ?_)
 refine X8 (tI h ?_) (fI h ?_)
 ·intro c4 h
  refine eU 2 R (B8 (gY 2 R (zF (gY 3 R (C9 ?_)))))
  cases h
  exact f0 R R R (.cons (.tmp 6) (.cons (.tmp 7) .nil))
 intro c4 h
 refine eU 2 R (B8 (gY 2 R (C0 R (gY 2 R (C9 ?_)))))
 cases h
 exact f0 R R R (.cons (.tmp 6) (.cons (.tmp 7) .nil))
def A2P (F:Nat) (t:F7) (K:Int→Int→Int→Option (Int × Int)):Nat→Int→Int→Int→Option (Int × Int)
 | 0,_,_,_=>none
 | n+1,late,lo,hi=>if lo≤hi then((A2h F t (W (Int.tdiv (W (lo+hi)) 2))).bind fun rv2=>if rv2.2=true then(A2P F t K n (W (Int.tdiv (W (lo+hi)) 2)) (W ((W (Int.tdiv (W (lo+hi)) 2))+1)) hi)else(A2P F t K n late lo (W ((W (Int.tdiv (W (lo+hi)) 2))-1))))else(K late lo hi)
def A85 (F:Nat) (p:D4) (log:(List C7)):Option (Int × Int):=(A6V F p log).bind fun rv=>B2S rv.1 (if rv.2=0 then(none)else(some (0,rv.2))) (fun t=>if rv.2=0 then(A2P F t (fun late lo hi=>some (late,0)) F (-1) t.H6 100000)else(some (0,rv.2)))
theorem B1B {F p log r} (h:A85 F p log=some r):PC Tryz.prog 25 [D4.d p,.arr 8 ((log).map C7.d)] (.tup [vI r.1,vI r.2]):=by
 rw[A85]at h
 refine oW Tryz.func25 ?_
 refine gY 3 R (gU 2 R ?_)
 obtain⟨rv,k,h⟩:=H1 h
 rcases Option.eq_none_or_eq_some rv.1 with nv | ⟨t,nv⟩
 ·replace h:=(B5h nv).symm.trans h
  refine cO [] ((A4b k).none nv) eK .nil R .nil .nil R (eU 5 R (B8 (gU 1 R ?_)))
  refine V5 R R R R (nJ h ?_) (tJ h ?_)
  ·intro h
   refine Y9 (C0 R (gY 3 R (C9 ?_)))
   cases h
   exact f0 R R R (.cons (.tmp 4) (.cons (.tmp 5) .nil))
  intro h
  cases h
 replace h:=(B5i nv).symm.trans h
 refine cO [] ((A4b k).some nv) eK .nil R .nil ((.cons R (.row (.row (.row (.row (.row .nil))))))) R (eU 5 R (B8 (gU 1 R ?_)))
 refine V5 R R R R (nJ h ?_) (tJ h ?_)
 ·intro h
  refine Y9 (C0 R (gY 3 R (C9 ?_)))
  cases h
  exact f0 R R R (.cons (.tmp 4) (.cons (.tmp 5) .nil))
 intro h
 refine Y9 (zF (gY 1 R (B8 (gY 7 R (E3 ?_)))))
 obtain⟨K4,hK4,h⟩:∃ K,K=_∧A2P F t K F (-1) t.H6 100000=some r:=⟨_,rfl,h⟩
 refine lW (fun m st=>∃ (late:Int) (lo:Int) (hi:Int),A2P F t K4 m late lo hi=some r∧st=⟨[(4,dI 0),(5,dI 0),(6,rf 0 26),(8,dI late),(9,dI lo),(10,dI hi)],B6X t []⟩) ⟨(-1),t.H6,100000,h,R⟩ (.vw (κ:=[1,2,3,4,5,6]) (vK (.cons R R B9x) R)) ?_
 clear h
 rintro m4 st ⟨late,lo,hi,h,rfl⟩
 cases m4 with
 | zero=>cases(show(none:Option (Int × Int))=some r from h)
 | succ m4 =>
 rw[A2P]at h
 refine B8 (gU 2 R ?_)
 refine B1t R R R R (tJ h ?_) (mJ h ?_)
 ·intro h
  refine Y9 (zT (E3 (gU 3 R (C0J R R dM R R (eU 1 R (gU 2 R ?_))))))
  obtain⟨rv2,k2,h⟩:=H1 h
  refine A19 (A4a k2) R eK R R ((.cons (.ref R (.aggL (dL (dL (dL (dL (dL (dL (dL (dL (dL (dL (dL (dL (dL (dL (dL (dL (dL (dL (dL (dL (.cons (.row R R) (.cons (.row R R) (dL (.cons (.row R R) (.cons (.row R R) (.cons (.row R R) .nil)))))))))))))))))))))))))))) (dL .nil))) R R (rU 3 R ?_)
  refine X8 (tI h ?_) (fI h ?_)
  ·intro c4 h
   refine eU 2 R (gY 1 R (C0 R (hE 5 R (D3 (A6 ?_)))))
   exact bk ⟨(W (Int.tdiv (W (lo+hi)) 2)),(W ((W (Int.tdiv (W (lo+hi)) 2))+1)),hi,h,R⟩ (.prn [4,5,6,8,9,10] R)
  intro c4 h
  refine eU 2 R (gY 1 R (C1 R (hE 3 R (D3 (A6 ?_)))))
  exact bk ⟨late,lo,(W ((W (Int.tdiv (W (lo+hi)) 2))-1)),h,R⟩ (.prn [4,5,6,8,9,10] R)
 intro h
 refine Y9 (C1 R (N5 (E4 (E4 ?_))))
 subst hK4
 refine gY 3 R (C9 ?_)
 cases h
 exact f0 R R R (.cons (.tmp 4) (.cons (.tmp 5) .nil))
def N3 (F:Nat) (K:(List Int)→Int→Int→Option (List Int)):Nat→(List Int)→Int→Int→Option (List Int)
 | 0,_,_,_=>none
 | n+1,s2,i,j=>if i<j then((P3 s2 j).bind fun e=>(P3 s2 i).bind fun e2=>(A5g s2 i e).bind fun s3=>(P3 s3 j).bind fun e3=>(A5g s3 j e2).bind fun s4=>N3 F K n s4 (W (i+1)) (W (j-1)))else(K s2 i j)
def C1C (F:Nat) (s:(List Int)):Option (List Int):=N3 F (fun s2 i j=>some s2) F s 0 (W ((s.length:Int)-1))
theorem C2s {F s r} (h:C1C F s=some r):SCR Tryz.prog 58 [.row 0 1 0 (s).length] [B0u s] (.d (.tup [])) [B0u r]:=by
 rw[C1C]at h
 refine oW Tryz.func58 ?_
 refine gU 1 R (A8F tb R R R R R (eU 3 R (E3 ?_)))
 obtain⟨K2,hK2,h⟩:∃ K,K=_∧N3 F K F s 0 (W ((s.length:Int)-1))=some r:=⟨_,rfl,h⟩
 refine lW (fun m st=>∃ (s2:(List Int)) (i:Int) (j:Int),N3 F K2 m s2 i j=some r∧st=⟨[(0,.row 0 1 0 (s2).length),(2,dI i),(3,dI j)],[B0u s2]⟩) ⟨s,0,(W ((s.length:Int)-1)),h,R⟩ (.prn [0,2,3] R) ?_
 clear h
 rintro m2 st ⟨s2,i,j,h,rfl⟩
 cases m2 with
 | zero=>cases(show(none:Option (List Int))=some r from h)
 | succ m2 =>
 rw[N3]at h
 refine B8 (gU 2 R ?_)
 refine Q4 R R R R (tJ h ?_) (lJ h ?_)
 ·intro h
  refine Y9 (zT (B8 (E3 (T1 kR (rU 6 R ?_)))))
  obtain⟨e,ie,h⟩:=H1 h
  refine Y1 tb R R R R R R (F0 ie) (ix1 ie) R R ?_
  refine A15 (y:=vI e) tb R R R R (U5 (g:=fun a=>T.d (vI a)) ie) R R R R ?_
  refine rU 2 R ?_
  obtain⟨e2,ie2,h⟩:=H1 h
  refine Y1 tb R R R R R R (F0 ie2) (ix1 ie2) R R ?_
  refine A15 (y:=vI e2) tb R R R R (U5 (g:=fun a=>T.d (vI a)) ie2) R R R R ?_
  refine Y1 tb R R R R R R (F0 ie2) (ix1 ie2) R R ?_
  obtain⟨s3,is3,h⟩:=H1 h
  refine A5d (a':=(e:Int)) tb R R R R ie2 R R R R is3 R R ?_
  dsimp only[List.set_cons_zero,List.set_cons_succ,J2,C6,A0h,C5,B4I]
  first | rw[A2a is3] | skip
  obtain⟨e3,ie3,h⟩:=H1 h
  refine Y1 tb R R R R R R (F0 ie3) (ix1 ie3) R R ?_
  obtain⟨s4,is4,h⟩:=H1 h
  refine A5d (a':=(e2:Int)) tb R R R R ie3 R R R R is4 R R ?_
  dsimp only[List.set_cons_zero,List.set_cons_succ,J2,C6,A0h,C5,B4I]
  first | rw[A2a is4] | skip
  refine I0 kR (hN 6 R ?_)
  exact bk ⟨s4,(W (i+1)),(W (j-1)),h,R⟩ (.prn [0,2,3] R)
 intro h
 refine Y9 (C1 R (N5 (E4 (E4 ?_))))
 subst hK2
 refine I5 ?_
 cases h
 exact A1R (fS [0] ⟨R,R⟩ R .nil (vK C23 R))
def B90 (F:Nat) (rv3:(List Int)) (x:Int) (e:E0) (K:(List Int)→Int→Option ((List Int) × Int)):Nat→(List Int)→Int→Option ((List Int) × Int)
 | 0,_,_=>none
 | n+1,a2,x2=>if x2<(e.need.length:Int)then((P3 e.need x2).bind fun e2=>(P3 a2 x).bind fun e3=>if e3<0 then((A5g a2 x e2).bind fun a3=>B90 F rv3 x e K n a3 (W (x2+1)))else((P3 rv3 e2).bind fun e4=>(P3 rv3 e3).bind fun e5=>if e5<e4 then((A5g a2 x e2).bind fun a4=>B90 F rv3 x e K n a4 (W (x2+1)))else(B90 F rv3 x e K n a2 (W (x2+1)))))else(K a2 x2)
def C1P (F:Nat) (a:(List Int)) (K:(List Int)→Int→Option ((List Int) × Int)):Nat→(List Int)→Int→Option ((List Int) × Int)
 | 0,_,_=>none
 | n+1,A,x3=>if 0≤x3 then((A8i A [x3]).bind fun q2=>(P3 a x3).bind fun e10=>C1P F a K n q2 e10)else(K A x3)
def C1B (F:Nat) (t:D4) (K:(List Int)→(List Int)→Int→Option ((List Int) × Int)):Nat→(List Int)→(List Int)→Int→Option ((List Int) × Int)
 | 0,_,_,_=>none
 | n+1,rv3,a,x=>if x<(t.steps.length:Int)then((P3 t.steps x).bind fun e=>B90 F rv3 x e (fun a2 x2=>(P3 rv3 x).bind fun e6=>(A5g rv3 x e.least).bind fun rv4=>(P3 a2 x).bind fun e7=>if 0≤e7 then((P3 rv4 x).bind fun e8=>(P3 rv4 e7).bind fun e9=>(A5g rv4 x (W (e8+e9))).bind fun rv5=>C1B F t K n rv5 a2 (W (x+1)))else(C1B F t K n rv4 a2 (W (x+1)))) F a 0)else(K rv3 a x)
def C2x (F:Nat) (t:D4):Option ((List Int) × Int):=(A4P F t).bind fun rv=>if rv.2.2=0 then((B1D (t.steps.length:Int)).bind fun q=>(A0b F [(-1)] (t.steps.length:Int)).bind fun rv2=>C1B F t (fun rv3 a x=>C1P F a (fun A x3=>(C3u (C1C F A) A).bind fun rv6=>some (rv6,0)) F ([]:List Int) (W ((t.steps.length:Int)-1))) F (List.replicate q (0:Int)) rv2 0)else(some (([]:List Int),rv.2.2))
theorem C2B {F t r} (h:C2x F t=some r):SCR Tryz.prog 29 (List.map T.d [D4.d t]) [] (.tup [.row 0 1 0 (r.1).length,dI r.2]) (List.map some [(B7 r.1)]):=by
 rw[C2x]at h
 refine oW Tryz.func29 ?_
 refine gY 3 R (B8 (gU 1 R ?_))
 obtain⟨rv,k,h⟩:=H1 h
 refine J5 (B0K k) eK R R R R (eU 5 R (gU 1 R ?_))
 refine V5 R R R R (nJ h ?_) (tJ h ?_)
 ·intro h
  refine Y9 (C0 R (gY 3 R ?_))
  refine SW.own (ts':=[(2,.row 1 1 0 (([]:List Int)).length),(3,dI rv.2.2)]) (L':=[bx 13 (.d (D4.d t))]) 1 R R (.cons .nil (.cons (.same _) .nil)) (.same .nil) ?_
  simp only[List.cons_append,List.nil_append]
  refine C9 ?_
  cases h
  exact f2 [1] C23 R (.cons (.tmp 2) (.cons (.tmp 3) .nil)) R
 intro h
 refine Y9 (zF (B8 (T1 kR (rU 2 R (I7 tb R ?_)))))
 obtain⟨q,iq,h⟩:=H1 h
 refine B00 (v:=(0:Int)) (g:=vI) tb R R R R R R R ((A6i iq).1) ((A6i iq).2) R R R R (P7 tb R R R R R R R R R R R R R (rU 2 R (I7 tb R ?_)))
 obtain⟨rv2,k2,h⟩:=H1 h
 refine C2R ([none,none,B0u [(-1)]]) ((.drop (.drop (.keep (.nil _))))) (A06 k2) R ((.row (fun _=>rfl) .nil)) eK R R ((.cons (.row R R) (dL .nil))) R ((.row .nil)) R R R ?_
 refine rU 2 R (I0 kR (B8 (gU 2 R (I7 tb R (eU 1 R (E3 ?_))))))
 obtain⟨K6,hK6,h⟩:∃ K,K=_∧C1B F t K F (List.replicate q (0:Int)) rv2 0=some r:=⟨_,rfl,h⟩
 refine lW (fun m st=>∃ (rv3:(List Int)) (a:(List Int)) (x:Int),C1B F t K6 m rv3 a x=some r∧st=⟨[(1,rf 0 13),(2,.d (.v (.slice none 0 0))),(3,dI rv.2.2),(4,.row 1 1 0 (rv3).length),(5,.row 2 1 0 (a).length),(30,.d (.arr 9 ((t.steps).map E0.d))),(31,dI (t.steps.length:Int)),(32,dI x)],[bx 13 (.d (D4.d t)),B0u rv3,B0u a]⟩) ⟨(List.replicate q (0:Int)),rv2,0,h,R⟩ (.vw (κ:=[0,1,3]) (vK (.cons R R C37) R)) ?_
 clear h
 rintro m6 st ⟨rv3,a,x,h,rfl⟩
 cases m6 with
 | zero=>cases(show(none:Option ((List Int) × Int))=some r from h)
 | succ m6 =>
 rw[C1B]at h
 refine qG ?_
 refine Q4 R R R R (tJ h ?_) (lJ h ?_)
 ·intro h
  refine Y9 (B8 (zT (B8 (E3 (gU 1 R ?_)))))
  obtain⟨e,ie,h⟩:=H1 h
  refine yE ie R R (eU 3 R (B8 (gU 2 R (I7 tb R (eU 1 R (E3 ?_))))))
  obtain⟨K10,hK10,h⟩:∃ K,K=_∧B90 F rv3 x e K F a 0=some r:=⟨_,rfl,h⟩
  refine lW (fun m st=>∃ (a2:(List Int)) (x2:Int),B90 F rv3 x e K10 m a2 x2=some r∧st=⟨[(1,rf 0 13),(2,.d (.v (.slice none 0 0))),(3,dI rv.2.2),(4,.row 1 1 0 (rv3).length),(5,.row 2 1 0 (a2).length),(6,dI x),(7,rf 3 9),(30,.d (.arr 9 ((t.steps).map E0.d))),(31,dI (t.steps.length:Int)),(32,dI x),(38,.d (aI e.need)),(39,dI (e.need.length:Int)),(40,dI x2)],[bx 13 (.d (D4.d t)),B0u rv3,B0u a2,bx 9 (.d (E0.d e))]⟩) ⟨a,0,h,R⟩ (.prn [1,2,3,4,5,6,7,30,31,32,38,39,40] R) ?_
  clear h
  rintro m10 st ⟨a2,x2,h,rfl⟩
  cases m10 with
  | zero=>cases(show(none:Option ((List Int) × Int))=some r from h)
  | succ m10 =>
  rw[B90]at h
  refine qG ?_
  refine Q4 R R R R (tJ h ?_) (lJ h ?_)
  ·intro h
   refine Y9 (B8 (zT (B8 (E3 (qG ?_)))))
   obtain⟨e2,ie2,h⟩:=H1 h
   refine yE ie2 R R (eU 1 R (B8 (T1 kR (rU 2 R ?_))))
   obtain⟨e3,ie3,h⟩:=H1 h
   refine Y1 tb R R R R R R (F0 ie3) (ix1 ie3) R R ?_
   refine A15 (y:=vI e3) tb R R R R (U5 (g:=fun a=>T.d (vI a)) ie3) R R R R ?_
   refine Q4 R R R R (tJ h ?_) (lJ h ?_)
   ·intro h
    refine rU 14 R (I0 kR (C0 R (hU 3 R (Y1 tb R R R R R R (F0 ie3) (ix1 ie3) R R ?_))))
    obtain⟨a3,ia3,h⟩:=H1 h
    refine A5d (a':=(e2:Int)) tb R R R R ie3 R R R R ia3 R R ?_
    dsimp only[List.set_cons_zero,List.set_cons_succ,J2,C6,A0h,C5,B4I]
    first | rw[A2a ia3] | skip
    refine Y9 (hN 2 R ?_)
    exact bk ⟨a3,(W (x2+1)),h,R⟩ (.prn [1,2,3,4,5,6,7,30,31,32,38,39,40] R)
   intro h
   refine rU 3 R ?_
   obtain⟨e4,ie4,h⟩:=H1 h
   refine Y1 tb R R R R R R (F0 ie4) (ix1 ie4) R R ?_
   refine A15 (y:=vI e4) tb R R R R (U5 (g:=fun a=>T.d (vI a)) ie4) R R R R ?_
   refine rU 3 R (Y1 tb R R R R R R (F0 ie3) (ix1 ie3) R R ?_)
   refine A15 (y:=vI e3) tb R R R R (U5 (g:=fun a=>T.d (vI a)) ie3) R R R R ?_
   obtain⟨e5,ie5,h⟩:=H1 h
   refine Y1 tb R R R R R R (F0 ie5) (ix1 ie5) R R ?_
   refine A15 (y:=vI e5) tb R R R R (U5 (g:=fun a=>T.d (vI a)) ie5) R R R R ?_
   refine A4l R R R R (tJ h ?_) (lJ h ?_)
   ·intro h
    refine rU 1 R (I0 kR (C0 R (hU 3 R (Y1 tb R R R R R R (F0 ie3) (ix1 ie3) R R ?_))))
    obtain⟨a4,ia4,h⟩:=H1 h
    refine A5d (a':=(e2:Int)) tb R R R R ie3 R R R R ia4 R R ?_
    dsimp only[List.set_cons_zero,List.set_cons_succ,J2,C6,A0h,C5,B4I]
    first | rw[A2a ia4] | skip
    refine Y9 (hN 2 R ?_)
    exact bk ⟨a4,(W (x2+1)),h,R⟩ (.prn [1,2,3,4,5,6,7,30,31,32,38,39,40] R)
   intro h
   refine rU 1 R (I0 kR (zF (hN 2 R ?_)))
   exact bk ⟨a2,(W (x2+1)),h,R⟩ (.prn [1,2,3,4,5,6,7,30,31,32,38,39,40] R)
  intro h
  refine Y9 (B8 (C1 R (N5 (E4 (E4 ?_)))))
  subst hK10
  refine gU 4 R ?_
  obtain⟨e6,ie6,h⟩:=H1 h
  refine Y1 tb R R R R R R (F0 ie6) (ix1 ie6) R R ?_
  obtain⟨rv4,irv4,h⟩:=H1 h
  refine A5d (a':=(e.least:Int)) tb R R R R ie6 R R R R irv4 R R ?_
  dsimp only[List.set_cons_zero,List.set_cons_succ,J2,C6,A0h,C5,B4I]
  first | rw[A2a irv4] | skip
  refine Y9 (gU 2 R ?_)
  obtain⟨e7,ie7,h⟩:=H1 h
  refine Y1 tb R R R R R R (F0 ie7) (ix1 ie7) R R ?_
  refine A15 (y:=vI e7) tb R R R R (U5 (g:=fun a=>T.d (vI a)) ie7) R R R R ?_
  refine A7I R R R R (tJ h ?_) (mJ h ?_)
  ·intro h
   refine Y9 (C0 R (T1 kR (rU 2 R ?_)))
   obtain⟨e8,ie8,h⟩:=H1 h
   refine Y1 tb R R R R R R (F0 ie8) (ix1 ie8) R R ?_
   refine A15 (y:=vI e8) tb R R R R (U5 (g:=fun a=>T.d (vI a)) ie8) R R R R ?_
   refine rU 3 R (Y1 tb R R R R R R (F0 ie7) (ix1 ie7) R R ?_)
   refine A15 (y:=vI e7) tb R R R R (U5 (g:=fun a=>T.d (vI a)) ie7) R R R R ?_
   obtain⟨e9,ie9,h⟩:=H1 h
   refine Y1 tb R R R R R R (F0 ie9) (ix1 ie9) R R ?_
   refine A15 (y:=vI e9) tb R R R R (U5 (g:=fun a=>T.d (vI a)) ie9) R R R R ?_
   refine rU 1 R (Y1 tb R R R R R R (F0 ie8) (ix1 ie8) R R ?_)
   obtain⟨rv5,irv5,h⟩:=H1 h
   refine A5d (a':=((W (e8+e9)):Int)) tb R R R R ie8 R R R R irv5 R R ?_
   dsimp only[List.set_cons_zero,List.set_cons_succ,J2,C6,A0h,C5,B4I]
   first | rw[A2a irv5] | skip
   refine I0 kR (hN 2 R ?_)
   exact bk ⟨rv5,a2,(W (x+1)),h,R⟩ (.vw (κ:=[0,1,2]) (vK (.cons R R C37) R))
  intro h
  refine Y9 (zF (hN 2 R ?_))
  exact bk ⟨rv4,a2,(W (x+1)),h,R⟩ (.vw (κ:=[0,1,2]) (vK (.cons R R C37) R))
 intro h
 refine Y9 (B8 (C1 R (N5 (E4 (E4 ?_)))))
 subst hK6
 refine B8 (gU 2 R (I7 tb R (eU 2 R (E3 ?_))))
 refine SW.own (ts':=[(2,.row 3 1 0 (([]:List Int)).length),(3,dI rv.2.2),(5,.row 2 1 0 (a).length),(10,dI (W ((t.steps.length:Int)-1)))]) (L':=[bx 13 (.d (D4.d t)),B0u rv3,B0u a]) 1 R R (.cons .nil (.cons (.same _) (.cons (.same _) (.cons (.same _) .nil)))) (.same (.same (.same .nil))) ?_
 simp only[List.cons_append,List.nil_append]
 obtain⟨K12,hK12,h⟩:∃ K,K=_∧C1P F a K F ([]:List Int) (W ((t.steps.length:Int)-1))=some r:=⟨_,rfl,h⟩
 refine lW (fun m st=>∃ (A:(List Int)) (x3:Int),C1P F a K12 m A x3=some r∧st=⟨[(2,.row 0 1 0 (A).length),(3,dI rv.2.2),(5,.row 1 1 0 (a).length),(10,dI x3)],[B0u A,B0u a]⟩) ⟨([]:List Int),(W ((t.steps.length:Int)-1)),h,R⟩ (.vw (κ:=[3,2]) (vK C37 R)) ?_
 clear h
 rintro m12 st ⟨A,x3,h,rfl⟩
 cases m12 with
 | zero=>cases(show(none:Option ((List Int) × Int))=some r from h)
 | succ m12 =>
 rw[C1P]at h
 refine B8 (gU 1 R ?_)
 refine A7I R R R R (tJ h ?_) (mJ h ?_)
 ·intro h
  refine Y9 (zT (B8 (E3 (hU 2 R (P7 tb R R R R R R R R R R R R R ?_)))))
  obtain⟨q2,iq2,h⟩:=H1 h
  refine B2k (g:=vI) (w:=A) (v:=[x3]) ([none,B0u a,B0u [x3]]) tb R R R R R R R R R R R iq2 R R R R R (eU 1 R (hU 2 R ?_))
  obtain⟨e10,ie10,h⟩:=H1 h
  refine Y1 tb R R R R R R (F0 ie10) (ix1 ie10) R R ?_
  refine A15 (y:=vI e10) tb R R R R (U5 (g:=fun a=>T.d (vI a)) ie10) R R R R ?_
  refine nU 1 R ?_
  exact bk ⟨q2,e10,h,R⟩ (.vw (κ:=[3,1]) (vK C37 R))
 intro h
 refine Y9 (C1 R (N5 (E4 (E4 ?_))))
 subst hK12
 refine gU 1 R ?_
 obtain⟨rv6,k6,h⟩:=H1 h
 refine cO [0] (C2s (C2J k6).1) eK C4n R ((.row .nil)) .nil R ?_
 first | (dsimp only[J2,C6,A0h,C5,B4I];rw[← (C2J k6).2]) | rw[← (C2J k6).2] | skip
 refine Y9 (gY 3 R (C9 ?_))
 cases h
 exact f2 [0] C23 R (.cons (.tmp 2) (.cons (.tmp 3) .nil)) R
theorem C2E {F t r} (h:C2x F t=some r):PC Tryz.prog 29 [D4.d t] (.tup [aI r.1,vI r.2]):=(C2B h).toPC (.tupL (.cons (.row rfl rfl) (.cons (.d _) .nil)))
def A81 (F:Nat) (a b:(List Int)) (K:Int→Option Bool):Nat→Int→Option Bool
 | 0,_=>none
 | n+1,i=>if i<(a.length:Int)then((P3 a i).bind fun e=>(P3 b i).bind fun e2=>if e=e2 then(A81 F a b K n (W (i+1)))else(some false))else(K i)
def B3w (F:Nat) (a b:(List Int)):Option Bool:=if(a.length:Int)=(b.length:Int)then(A81 F a b (fun i=>some true) F 0)else(some false)
theorem B7c {F a b r} (h:B3w F a b=some r):PC Tryz.prog 32 [aI a,aI b] (vB r):=by
 rw[B3w]at h
 refine oW Tryz.func32 ?_
 refine gY 1 R (B8 (gU 1 R (I7 tb R (rU 1 R (I7 tb R ?_)))))
 refine V5 R R R R (nJ h ?_) (tJ h ?_)
 ·intro h
  refine Y9 (C0 R (gY 1 R (C9 ?_)))
  cases h
  exact f1 4 R
 intro h
 refine Y9 (zF (B8 (gY 1 R (E3 ?_))))
 obtain⟨K3,hK3,h⟩:∃ K,K=_∧A81 F a b K F 0=some r:=⟨_,rfl,h⟩
 refine lW (fun m st=>∃ (i:Int),A81 F a b K3 m i=some r∧st=⟨[(0,.d (aI a)),(1,.d (aI b)),(4,dB false),(5,dI i)],[]⟩) ⟨0,h,R⟩ (.prn [0,1,4,5] R) ?_
 clear h
 rintro m3 st ⟨i,h,rfl⟩
 cases m3 with
 | zero=>cases(show(none:Option Bool)=some r from h)
 | succ m3 =>
 rw[A81]at h
 refine B8 (gU 2 R (I7 tb R ?_))
 refine Q4 R R R R (tJ h ?_) (lJ h ?_)
 ·intro h
  refine Y9 (zT (B8 (E3 (B8 (T1 kR (rU 2 R ?_))))))
  obtain⟨e,ie,h⟩:=H1 h
  refine yE ie R R (rU 2 R ?_)
  obtain⟨e2,ie2,h⟩:=H1 h
  refine yE ie2 R R ?_
  refine V5 R R R R (nJ h ?_) (tJ h ?_)
  ·intro h
   refine I0 kR (C0 R (gY 1 R (C9 ?_)))
   cases h
   exact f1 4 R
  intro h
  refine I0 kR (zF (hN 3 R ?_))
  exact bk ⟨(W (i+1)),h,R⟩ (.prn [0,1,4,5] R)
 intro h
 refine Y9 (C1 R (N5 (E4 (E4 ?_))))
 subst hK3
 refine gY 1 R (C9 ?_)
 cases h
 exact f1 4 R
def A53 (F:Nat) (a b:(List Bool)) (K:Int→Option Bool):Nat→Int→Option Bool
 | 0,_=>none
 | n+1,i=>if i<(a.length:Int)then((P3 a i).bind fun e=>(P3 b i).bind fun e2=>if(e != e2)=true then(some false)else(A53 F a b K n (W (i+1))))else(K i)
def B2M (F:Nat) (a b:(List Bool)):Option Bool:=if(a.length:Int)=(b.length:Int)then(A53 F a b (fun i=>some true) F 0)else(some false)
theorem B7E {F a b r} (h:B2M F a b=some r):PC Tryz.prog 50 [.arr 1 ((a).map vB),.arr 1 ((b).map vB)] (vB r):=by
 rw[B2M]at h
 refine oW Tryz.func50 ?_
 refine gY 1 R (B8 (gU 1 R (I7 tb R (rU 1 R (I7 tb R ?_)))))
 refine V5 R R R R (nJ h ?_) (tJ h ?_)
 ·intro h
  refine Y9 (C0 R (gY 1 R (C9 ?_)))
  cases h
  exact f1 4 R
 intro h
 refine Y9 (zF (B8 (gY 1 R (E3 ?_))))
 obtain⟨K3,hK3,h⟩:∃ K,K=_∧A53 F a b K F 0=some r:=⟨_,rfl,h⟩
 refine lW (fun m st=>∃ (i:Int),A53 F a b K3 m i=some r∧st=⟨[(0,.d (.arr 1 ((a).map vB))),(1,.d (.arr 1 ((b).map vB))),(4,dB false),(5,dI i)],[]⟩) ⟨0,h,R⟩ (.prn [0,1,4,5] R) ?_
 clear h
 rintro m3 st ⟨i,h,rfl⟩
 cases m3 with
 | zero=>cases(show(none:Option Bool)=some r from h)
 | succ m3 =>
 rw[A53]at h
 refine B8 (gU 2 R (I7 tb R ?_))
 refine Q4 R R R R (tJ h ?_) (lJ h ?_)
 ·intro h
  refine Y9 (zT (B8 (E3 (B8 (T1 kR (rU 2 R ?_))))))
  obtain⟨e,ie,h⟩:=H1 h
  refine yE ie R R (rU 2 R ?_)
  obtain⟨e2,ie2,h⟩:=H1 h
  refine yE ie2 R R (A57 R R R R R ?_)
  refine X8 (tI h ?_) (fI h ?_)
  ·intro c3 h
   refine I0 kR (C0 R (gY 1 R (C9 ?_)))
   cases h
   exact f1 4 R
  intro c3 h
  refine I0 kR (zF (hN 3 R ?_))
  exact bk ⟨(W (i+1)),h,R⟩ (.prn [0,1,4,5] R)
 intro h
 refine Y9 (C1 R (N5 (E4 (E4 ?_))))
 subst hK3
 refine gY 1 R (C9 ?_)
 cases h
 exact f1 4 R
def B53 (F:Nat) (a b:H2):Option Bool:=if a.now=b.now then((B7h F (C3.mk a.A9j a.N4 a.A5M a.J3 a.A68 a.A69) (C3.mk b.A9j b.N4 b.A5M b.J3 b.A68 b.A69)).bind fun rv=>if rv=true then((B3w F a.begun b.begun).bind fun rv2=>if rv2=true then((B3w F a.ended b.ended).bind fun rv3=>if rv3=true then(if(a.held==b.held)=true then((B2M F a.go b.go).bind fun rv4=>if rv4=true then((B3w F a.left b.left).bind fun rv5=>if rv5=true then((B2M F a.on_ b.on_).bind fun rv6=>some rv6)else(some false))else(some false))else(some false))else(some false))else(some false))else(some false))else(some false)
theorem C1f {F a b r} (h:B53 F a b=some r):PC Tryz.prog 20 [H2.d a,H2.d b] (vB r):=by
 rw[B53]at h
 refine oW Tryz.func20 ?_
 refine gY 3 R (gU 4 R ?_)
 refine Z3 R R R R (tJ h ?_) (nJ h ?_)
 ·intro h
  refine rU 5 R ?_
  obtain⟨rv,k,h⟩:=H1 h
  refine M6 (C1d k) eK R R R R (tI h ?_) (fI h ?_)
  ·intro c2 h
   refine rU 6 R ?_
   obtain⟨rv2,k2,h⟩:=H1 h
   refine M6 (B7c k2) eK R R R R (tI h ?_) (fI h ?_)
   ·intro c3 h
    refine rU 6 R ?_
    obtain⟨rv3,k3,h⟩:=H1 h
    refine M6 (B7c k3) eK R R R R (tI h ?_) (fI h ?_)
    ·intro c4 h
     refine rU 6 R (B6K R R R R R ?_)
     refine X8 (tI h ?_) (fI h ?_)
     ·intro c5 h
      refine rU 6 R ?_
      obtain⟨rv4,k4,h⟩:=H1 h
      refine M6 (B7E k4) eK R R R R (tI h ?_) (fI h ?_)
      ·intro c6 h
       refine rU 6 R ?_
       obtain⟨rv5,k5,h⟩:=H1 h
       refine M6 (B7c k5) eK R R R R (tI h ?_) (fI h ?_)
       ·intro c7 h
        refine rU 6 R ?_
        obtain⟨rv6,k6,h⟩:=H1 h
        refine J5 (B7E k6) eK R R R R (eU 2 R (C9 ?_))
        cases h
        exact f1 4 R
       intro c7 h
       refine eU 9 R (C9 ?_)
       cases h
       exact f1 4 R
      intro c6 h
      refine eU 16 R (C9 ?_)
      cases h
      exact f1 4 R
     intro c5 h
     refine eU 23 R (C9 ?_)
     cases h
     exact f1 4 R
    intro c4 h
    refine eU 30 R (C9 ?_)
    cases h
    exact f1 4 R
   intro c3 h
   refine eU 37 R (C9 ?_)
   cases h
   exact f1 4 R
  intro c2 h
  refine eU 44 R (C9 ?_)
  cases h
  exact f1 4 R
 intro h
 refine eU 50 R (C9 ?_)
 cases h
 exact f1 4 R
def C9m (F:Nat) (nv low high:Int):Option Bool:=if low≤nv then(some (decide (nv≤high)))else(some false)
theorem C84 {F nv low high r} (h:C9m F nv low high=some r):PC Tryz.prog 55 [vI nv,vI low,vI high] (vB r):=by
 rw[C9m]at h
 refine oW Tryz.func55 ?_
 refine gY 1 R (gU 2 R ?_)
 refine A7I R R R R (tJ h ?_) (mJ h ?_)
 ·intro h
  refine rU 3 R (B8a R R R R (eU 2 R (C9 ?_)))
  cases h
  exact f1 6 R
 intro h
 refine eU 6 R (C9 ?_)
 cases h
 exact f1 6 R
def C7l (F:Nat) (lv:(List Int)) (many:Int) (K:Int→Option Bool):Nat→Int→Option Bool
 | 0,_=>none
 | n+1,i=>if i<(lv.length:Int)then((P3 lv i).bind fun e=>(C9m F e 0 (W (many-1))).bind fun rv=>if rv=true then(C7l F lv many K n (W (i+1)))else(some false))else(K i)
def C7W (F:Nat) (lv:(List Int)) (many:Int):Option Bool:=C7l F lv many (fun i=>some true) F 0
theorem C89 {F lv many r} (h:C7W F lv many=some r):PC Tryz.prog 141 [aI lv,vI many] (vB r):=by
 rw[C7W]at h
 refine oW Tryz.func141 ?_
 refine gY 1 R (B8 (gY 1 R (E3 ?_)))
 obtain⟨K3,hK3,h⟩:∃ K,K=_∧C7l F lv many K F 0=some r:=⟨_,rfl,h⟩
 refine lW (fun m st=>∃ (i:Int),C7l F lv many K3 m i=some r∧st=⟨[(0,.d (aI lv)),(1,dI many),(4,dB false),(5,dI i)],[]⟩) ⟨0,h,R⟩ (.prn [0,1,4,5] R) ?_
 clear h
 rintro m3 st ⟨i,h,rfl⟩
 cases m3 with
 | zero=>cases(show(none:Option Bool)=some r from h)
 | succ m3 =>
 rw[C7l]at h
 refine B8 (gU 2 R (I7 tb R ?_))
 refine Q4 R R R R (tJ h ?_) (lJ h ?_)
 ·intro h
  refine Y9 (zT (B8 (E3 (gU 2 R ?_))))
  obtain⟨e,ie,h⟩:=H1 h
  refine yE ie R R (rU 2 R ?_)
  obtain⟨rv,k,h⟩:=H1 h
  refine M6 (C84 k) eK R R R R (tI h ?_) (fI h ?_)
  ·intro c2 h
   refine eU 1 R (zF (hN 3 R ?_))
   exact bk ⟨(W (i+1)),h,R⟩ (.prn [0,1,4,5] R)
  intro c2 h
  refine eU 1 R (C0 R (gY 1 R (C9 ?_)))
  cases h
  exact f1 4 R
 intro h
 refine Y9 (C1 R (N5 (E4 (E4 ?_))))
 subst hK3
 refine gY 1 R (C9 ?_)
 cases h
 exact f1 4 R
def C6E (F:Nat) (lv:(List Int)) (K:Int→Option Bool):Nat→Int→Option Bool
 | 0,_=>none
 | n+1,i=>if i<(lv.length:Int)then((P3 lv i).bind fun e=>(P3 lv (W (i-1))).bind fun e2=>if e≤e2 then(some false)else(C6E F lv K n (W (i+1))))else(K i)
def C7i (F:Nat) (lv:(List Int)):Option Bool:=C6E F lv (fun i=>some true) F 1
theorem C8m {F lv r} (h:C7i F lv=some r):PC Tryz.prog 142 [aI lv] (vB r):=by
 rw[C7i]at h
 refine oW Tryz.func142 ?_
 refine gY 1 R (B8 (gY 1 R (E3 ?_)))
 obtain⟨K3,hK3,h⟩:∃ K,K=_∧C6E F lv K F 1=some r:=⟨_,rfl,h⟩
 refine lW (fun m st=>∃ (i:Int),C6E F lv K3 m i=some r∧st=⟨[(0,.d (aI lv)),(2,dB false),(3,dI i)],[]⟩) ⟨1,h,R⟩ (.prn [0,2,3] R) ?_
 clear h
 rintro m3 st ⟨i,h,rfl⟩
 cases m3 with
 | zero=>cases(show(none:Option Bool)=some r from h)
 | succ m3 =>
 rw[C6E]at h
 refine B8 (gU 2 R (I7 tb R ?_))
 refine Q4 R R R R (tJ h ?_) (lJ h ?_)
 ·intro h
  refine Y9 (zT (B8 (E3 (B8 (T1 kR (rU 2 R ?_))))))
  obtain⟨e,ie,h⟩:=H1 h
  refine yE ie R R (rU 3 R ?_)
  obtain⟨e2,ie2,h⟩:=H1 h
  refine yE ie2 R R ?_
  refine B1t R R R R (tJ h ?_) (mJ h ?_)
  ·intro h
   refine I0 kR (C0 R (gY 1 R (C9 ?_)))
   cases h
   exact f1 2 R
  intro h
  refine I0 kR (zF (hN 3 R ?_))
  exact bk ⟨(W (i+1)),h,R⟩ (.prn [0,2,3] R)
 intro h
 refine Y9 (C1 R (N5 (E4 (E4 ?_))))
 subst hK3
 refine gY 1 R (C9 ?_)
 cases h
 exact f1 2 R
def C7X (F:Nat) (lv:(List ByteArray)) (i:Int) (e:ByteArray) (K:Int→Option (Int × Int)):Nat→Int→Option (Int × Int)
 | 0,_=>none
 | n+1,k=>if k<i then((P3 lv k).bind fun e2=>if e2.toList=e.toList then(some (i,5))else(C7X F lv i e K n (W (k+1))))else(K k)
def C7p (F:Nat) (lv:(List ByteArray)) (K:Int→Option (Int × Int)):Nat→Int→Option (Int × Int)
 | 0,_=>none
 | n+1,i=>if i<(lv.length:Int)then((P3 lv i).bind fun e=>(C99 F e).bind fun rv=>if rv=true then(C7X F lv i e (fun k=>C7p F lv K n (W (i+1))) F 0)else(some (i,6)))else(K i)
def C9n (F:Nat) (lv:(List ByteArray)):Option (Int × Int):=C7p F lv (fun i=>some (0,0)) F 0
theorem D0m {F lv r} (h:C9n F lv=some r):PC Tryz.prog 67 [.arr 1 ((lv).map vS)] (.tup [vI r.1,vI r.2]):=by
 rw[C9n]at h
 refine oW Tryz.func67 ?_
 refine gY 2 R (B8 (gY 1 R (E3 ?_)))
 obtain⟨K8,hK8,h⟩:∃ K,K=_∧C7p F lv K F 0=some r:=⟨_,rfl,h⟩
 refine lW (fun m st=>∃ (i:Int),C7p F lv K8 m i=some r∧st=⟨[(0,.d (.arr 1 ((lv).map vS))),(2,dI 0),(3,dI 0),(4,dI i)],[]⟩) ⟨0,h,R⟩ (.prn [0,2,3,4] R) ?_
 clear h
 rintro m8 st ⟨i,h,rfl⟩
 cases m8 with
 | zero=>cases(show(none:Option (Int × Int))=some r from h)
 | succ m8 =>
 rw[C7p]at h
 refine B8 (gU 2 R (I7 tb R ?_))
 refine Q4 R R R R (tJ h ?_) (lJ h ?_)
 ·intro h
  refine Y9 (zT (B8 (E3 (B8 (gU 2 R ?_)))))
  obtain⟨e,ie,h⟩:=H1 h
  refine yE ie R R ?_
  obtain⟨rv,k,h⟩:=H1 h
  refine M6 (D0x k) eK R R R R (tI h ?_) (fI h ?_)
  ·intro c2 h
   refine eU 1 R (zF (gY 1 R (E3 ?_)))
   obtain⟨K10,hK10,h⟩:∃ K,K=_∧C7X F lv i e K F 0=some r:=⟨_,rfl,h⟩
   refine lW (fun m st=>∃ (k:Int),C7X F lv i e K10 m k=some r∧st=⟨[(0,.d (.arr 1 ((lv).map vS))),(2,dI 0),(3,dI 0),(4,dI i),(5,dI k)],[]⟩) ⟨0,h,R⟩ (.prn [0,2,3,4,5] R) ?_
   clear h
   rintro m10 st ⟨k,h,rfl⟩
   cases m10 with
   | zero=>cases(show(none:Option (Int × Int))=some r from h)
   | succ m10 =>
   rw[C7X]at h
   refine B8 (gU 2 R ?_)
   refine Q4 R R R R (tJ h ?_) (lJ h ?_)
   ·intro h
    refine Y9 (zT (B8 (E3 (B8 (T1 kR (rU 2 R ?_))))))
    obtain⟨e2,ie2,h⟩:=H1 h
    refine yE ie2 R R (rU 2 R (yE ie R R ?_))
    refine B1u R R R R (tJ h ?_) (nJ h ?_)
    ·intro h
     refine I0 kR (C0 R (gY 3 R (C9 ?_)))
     cases h
     exact f0 R R R (.cons (.tmp 2) (.cons (.tmp 3) .nil))
    intro h
    refine I0 kR (zF (hN 3 R ?_))
    exact bk ⟨(W (k+1)),h,R⟩ (.prn [0,2,3,4,5] R)
   intro h
   refine Y9 (C1 R (N5 (E4 (E4 ?_))))
   subst hK10
   refine hN 3 R ?_
   exact bk ⟨(W (i+1)),h,R⟩ (.prn [0,2,3,4] R)
  intro c2 h
  refine eU 1 R (C0 R (gY 3 R (C9 ?_)))
  cases h
  exact f0 R R R (.cons (.tmp 2) (.cons (.tmp 3) .nil))
 intro h
 refine Y9 (C1 R (N5 (E4 (E4 ?_))))
 subst hK8
 refine gY 2 R (C9 ?_)
 cases h
 exact f0 R R R (.cons (.tmp 2) (.cons (.tmp 3) .nil))
def C9E (F:Nat) (lv:(List ByteArray)) (i:Int):Option Int:=(A7A lv 0 (W (i+1))).bind fun q=>(C9n F q).bind fun rv=>if rv.1=i then(some rv.2)else(some 0)
theorem D03 {F lv i r} (h:C9E F lv i=some r):PC Tryz.prog 68 [.arr 1 ((lv).map vS),vI i] (vI r):=by
 rw[C9E]at h
 refine oW Tryz.func68 ?_
 refine gY 1 R (gU 3 R ?_)
 obtain⟨q,iq,h⟩:=H1 h
 refine A6E tb R R R R R R iq R R ?_
 obtain⟨rv,k,h⟩:=H1 h
 refine J5 (D0m k) eK R R R R (eU 5 R (B8 (gU 2 R ?_)))
 refine V5 R R R R (nJ h ?_) (tJ h ?_)
 ·intro h
  refine Y9 (C0 R (gY 1 R (C9 ?_)))
  cases h
  exact f1 4 R
 intro h
 refine Y9 (zF (gY 2 R (C9 ?_)))
 cases h
 exact f1 4 R
def C98 (F:Nat) (p:D4) (a:D2):Option Int:=(C8M F (D5.mk p.N4 p.P5 p.N6 p.S5 p.J3 p.Q7 p.T9)).bind fun rv=>(D0J F (D5.mk p.N4 p.P5 p.N6 p.S5 p.J3 p.Q7 p.T9) rv.1 a).bind fun rv2=>if 170≤rv2.2 then(some 0)else(some rv2.2)
theorem D1r {F p a r} (h:C98 F p a=some r):PC Tryz.prog 81 [D4.d p,D2.d a] (vI r):=by
 rw[C98]at h
 refine oW Tryz.func81 ?_
 refine gY 3 R (gU 2 R ?_)
 obtain⟨rv,k,h⟩:=H1 h
 refine A2X (C9Q k) eK R R R ((.row (.row (.row .nil)))) R R R (eU 6 R (gU 4 R ?_))
 obtain⟨rv2,k2,h⟩:=H1 h
 refine A3j (D0K k2) R ((.row (fun _=>rfl) (.row (fun _=>rfl) (.row (fun _=>rfl) .nil)))) eK R R ((dL (.cons (.aggL (dL (.cons (.row R R) (.cons (.row R R) (.cons (.row R R) (dL (dL .nil))))))) (dL .nil)))) R ((.row (.row (.row .nil)))) R R R ?_
 refine eU 6 R (B8 (gU 1 R ?_))
 refine A7I R R R R (tJ h ?_) (mJ h ?_)
 ·intro h
  refine Y9 (C0 R (gY 1 R (C9 ?_)))
  cases h
  exact f1 4 R
 intro h
 refine Y9 (zF (gY 2 R (C9 ?_)))
 cases h
 exact f1 4 R
def C8a (F:Nat) (t:D4) (e:E0) (K:Int→Option Int):Nat→Int→Option Int
 | 0,_=>none
 | n+1,x=>if x<(e.acts.length:Int)then((P3 e.acts x).bind fun e2=>if e2.at_=0 then((C98 F t e2).bind fun rv12=>if rv12=0 then(C8a F t e K n (W (x+1)))else(some rv12))else(some 2))else(K x)
def C9u (F:Nat) (t:D4) (e:E0):Option Int:=if 8<(e.acts.length:Int)then(some 3)else(C8a F t e (fun x=>some 0) F 0)
def C9v (F:Nat) (t:D4) (e:E0):Option Int:=(C9m F e.least 0 20000).bind fun rv10=>if rv10=true then((C9m F e.most e.least 20000).bind fun rv11=>if rv11=true then(C9u F t e)else(some 7))else(some 7)
def C9w (F:Nat) (t:D4) (e:E0):Option Int:=(C7i F e.need).bind fun rv6=>if rv6=true then((C7i F e.on_).bind fun rv7=>if rv7=true then((C7i F e.use_).bind fun rv8=>if rv8=true then((C7i F e.off).bind fun rv9=>if rv9=true then(C9v F t e)else(some 2))else(some 2))else(some 2))else(some 2)
def C9S (F:Nat) (t:D4) (o:(List ByteArray)) (a:Int):Option Int:=(P3 t.steps a).bind fun e=>(C9E F o a).bind fun rv=>if rv=0 then((C7W F e.need a).bind fun rv2=>if rv2=true then((C7W F e.on_ (t.batteries.length:Int)).bind fun rv3=>if rv3=true then((C7W F e.use_ (t.batteries.length:Int)).bind fun rv4=>if rv4=true then((C7W F e.off (t.batteries.length:Int)).bind fun rv5=>if rv5=true then(C9w F t e)else(some 4))else(some 4))else(some 4))else(some 4))else(some rv)
theorem D12 {F t o a r} (h:C9S F t o a=some r):PC Tryz.prog 69 [D4.d t,.arr 1 ((o).map vS),vI a] (vI r):=by
 rw[C9S]at h
 refine oW Tryz.func69 ?_
 refine gY 2 R (gU 3 R ?_)
 obtain⟨e,ie,h⟩:=H1 h
 refine yE ie R R (eU 2 R (gU 2 R ?_))
 obtain⟨rv,k,h⟩:=H1 h
 refine J5 (D03 k) eK R R R R (eU 1 R (B8 (gU 1 R ?_)))
 refine V5 R R R R (nJ h ?_) (tJ h ?_)
 ·intro h
  refine Y9 (C0 R (gY 2 R (C9 ?_)))
  cases h
  exact f1 6 R
 intro h
 refine Y9 (zF (gU 2 R (I7 tb R (eU 1 R (B8 ?_)))))
 refine W5 (fun zz:Unit=>C9w F t e=some r) (fun zz:Unit=>⟨[(3,rf 0 13),(6,dI 0),(7,rf 1 9)],[bx 13 (.d (D4.d t)),bx 9 (.d (E0.d e))]⟩) ?_ ?_
 ·clear h
  rintro⟨⟩ h
  rw[C9w]at h
  refine B8 ?_
  refine W5 (fun zz:Unit=>C9v F t e=some r) (fun zz:Unit=>⟨[(3,rf 0 13),(6,dI 0),(7,rf 1 9)],[bx 13 (.d (D4.d t)),bx 9 (.d (E0.d e))]⟩) ?_ ?_
  ·clear h
   rintro⟨⟩ h
   rw[C9v]at h
   refine B8 ?_
   refine W5 (fun zz:Unit=>C9u F t e=some r) (fun zz:Unit=>⟨[(3,rf 0 13),(6,dI 0),(7,rf 1 9)],[bx 13 (.d (D4.d t)),bx 9 (.d (E0.d e))]⟩) ?_ ?_
   ·clear h
    rintro⟨⟩ h
    rw[C9u]at h
    refine B8 (gU 2 R (I7 tb R ?_))
    refine A4l R R R R (tJ h ?_) (lJ h ?_)
    ·intro h
     refine Y9 (C0 R (gY 1 R (C9 ?_)))
     cases h
     exact f1 6 R
    intro h
    refine Y9 (zF (B8 (gY 1 R (E3 ?_))))
    obtain⟨K3,hK3,h⟩:∃ K,K=_∧C8a F t e K F 0=some r:=⟨_,rfl,h⟩
    refine lW (fun m st=>∃ (x:Int),C8a F t e K3 m x=some r∧st=⟨[(3,rf 0 13),(6,dI 0),(7,rf 1 9),(10,dI x)],[bx 13 (.d (D4.d t)),bx 9 (.d (E0.d e))]⟩) ⟨0,h,R⟩ (.prn [3,6,7,10] R) ?_
    clear h
    rintro m3 st ⟨x,h,rfl⟩
    cases m3 with
    | zero=>cases(show(none:Option Int)=some r from h)
    | succ m3 =>
    rw[C8a]at h
    refine B8 (gU 3 R (I7 tb R ?_))
    refine Q4 R R R R (tJ h ?_) (lJ h ?_)
    ·intro h
     refine Y9 (zT (B8 (E3 (B8 (gU 3 R ?_)))))
     obtain⟨e2,ie2,h⟩:=H1 h
     refine xE ie2 R (rU 1 R (lE ie2 R ?_))
     refine V5 R R R R (nJ h ?_) (tJ h ?_)
     ·intro h
      refine Y9 (C0 R (gY 1 R (C9 ?_)))
      cases h
      exact f1 6 R
     intro h
     refine Y9 (zF (B8 (T1 kR (rU 4 R (yE ie2 R R ?_)))))
     obtain⟨rv12,k12,h⟩:=H1 h
     refine J5 (D1r k12) eK R R R R (rU 1 R (I0 kR (gU 1 R ?_)))
     refine V5 R R R R (nJ h ?_) (tJ h ?_)
     ·intro h
      refine Y9 (C0 R (gY 2 R (C9 ?_)))
      cases h
      exact f1 6 R
     intro h
     refine Y9 (zF (hN 3 R ?_))
     exact bk ⟨(W (x+1)),h,R⟩ (.prn [3,6,7,10] R)
    intro h
    refine Y9 (C1 R (N5 (E4 (E4 ?_))))
    subst hK3
    refine gY 1 R (C9 ?_)
    cases h
    exact f1 6 R
   refine gU 2 R ?_
   obtain⟨rv10,k10,h⟩:=H1 h
   refine M6 (C84 k10) eK R R R R (tI h ?_) (fI h ?_)
   ·intro c10 h
    refine rU 6 R ?_
    obtain⟨rv11,k11,h⟩:=H1 h
    refine M6 (C84 k11) eK R R R R (tI h ?_) (fI h ?_)
    ·intro c11 h
     refine eU 2 R (zF (A6 ?_))
     exact .inl ⟨(),h,.prn [3,6,7] R⟩
    intro c11 h
    refine eU 2 R (C0 R (gY 1 R (C9 ?_)))
    cases h
    exact f1 6 R
   intro c10 h
   refine eU 9 R (C0 R (gY 1 R (C9 ?_)))
   cases h
   exact f1 6 R
  refine gU 2 R ?_
  obtain⟨rv6,k6,h⟩:=H1 h
  refine M6 (C8m k6) eK R R R R (tI h ?_) (fI h ?_)
  ·intro c6 h
   refine rU 4 R ?_
   obtain⟨rv7,k7,h⟩:=H1 h
   refine M6 (C8m k7) eK R R R R (tI h ?_) (fI h ?_)
   ·intro c7 h
    refine rU 5 R ?_
    obtain⟨rv8,k8,h⟩:=H1 h
    refine M6 (C8m k8) eK R R R R (tI h ?_) (fI h ?_)
    ·intro c8 h
     refine rU 5 R ?_
     obtain⟨rv9,k9,h⟩:=H1 h
     refine M6 (C8m k9) eK R R R R (tI h ?_) (fI h ?_)
     ·intro c9 h
      refine eU 2 R (zF (A6 ?_))
      exact .inl ⟨(),h,.prn [3,6,7] R⟩
     intro c9 h
     refine eU 2 R (C0 R (gY 1 R (C9 ?_)))
     cases h
     exact f1 6 R
    intro c8 h
    refine eU 8 R (C0 R (gY 1 R (C9 ?_)))
    cases h
    exact f1 6 R
   intro c7 h
   refine eU 14 R (C0 R (gY 1 R (C9 ?_)))
   cases h
   exact f1 6 R
  intro c6 h
  refine eU 19 R (C0 R (gY 1 R (C9 ?_)))
  cases h
  exact f1 6 R
 refine gU 3 R ?_
 obtain⟨rv2,k2,h⟩:=H1 h
 refine M6 (C89 k2) eK R R R R (tI h ?_) (fI h ?_)
 ·intro c2 h
  refine rU 5 R ?_
  obtain⟨rv3,k3,h⟩:=H1 h
  refine M6 (C89 k3) eK R R R R (tI h ?_) (fI h ?_)
  ·intro c3 h
   refine rU 6 R ?_
   obtain⟨rv4,k4,h⟩:=H1 h
   refine M6 (C89 k4) eK R R R R (tI h ?_) (fI h ?_)
   ·intro c4 h
    refine rU 6 R ?_
    obtain⟨rv5,k5,h⟩:=H1 h
    refine M6 (C89 k5) eK R R R R (tI h ?_) (fI h ?_)
    ·intro c5 h
     refine eU 2 R (zF (A6 ?_))
     exact .inl ⟨(),h,.prn [3,6,7] R⟩
    intro c5 h
    refine eU 2 R (C0 R (gY 1 R (C9 ?_)))
    cases h
    exact f1 6 R
   intro c4 h
   refine eU 9 R (C0 R (gY 1 R (C9 ?_)))
   cases h
   exact f1 6 R
  intro c3 h
  refine eU 16 R (C0 R (gY 1 R (C9 ?_)))
  cases h
  exact f1 6 R
 intro c2 h
 refine eU 22 R (C0 R (gY 1 R (C9 ?_)))
 cases h
 exact f1 6 R
def C7U (F:Nat) (B4:(List ByteArray)→Int→Option (Int × Int × Int)) (x:Int) (q:(List ByteArray)) (x2:Int):Option (Int × Int × Int):=if x2=0 then(B4 q (W (x+1)))else(some (4,x,x2))
def C4B (F:Nat) (t:D4) (K:Int→Option (Int × Int × Int)):Nat→Int→Option (Int × Int × Int)
 | 0,_=>none
 | n+1,x4=>if x4<(t.points.length:Int)then((P3 t.points x4).bind fun e3=>(C9m F e3 0 (W ((t.steps.length:Int)-1))).bind fun rv8=>if rv8=true then(if 0<x4 then((P3 t.points (W (x4-1))).bind fun e4=>if e3≤e4 then(some (6,x4,2))else(C4B F t K n (W (x4+1))))else(C4B F t K n (W (x4+1))))else(some (6,x4,4)))else(K x4)
def C6B (F:Nat) (t:D4) (K:(List ByteArray)→Int→Option (Int × Int × Int)):Nat→(List ByteArray)→Int→Option (Int × Int × Int)
 | 0,_,_=>none
 | n+1,lv2,x3=>if x3<(t.steps.length:Int)then((P3 t.steps x3).bind fun e2=>(A8i lv2 [e2.name]).bind fun q2=>(C9S F t q2 x3).bind fun rv7=>if rv7=0 then(C6B F t K n q2 (W (x3+1)))else(some (5,x3,rv7)))else(K lv2 x3)
def C4C (F:Nat) (t:D4) (K:(List ByteArray)→Int→Option (Int × Int × Int)):Nat→(List ByteArray)→Int→Option (Int × Int × Int)
 | 0,_,_=>none
 | n+1,lv,x=>if x<(t.batteries.length:Int)then((P3 t.batteries x).bind fun e=>(A8i lv [e.name]).bind fun q=>(C9E F q x).bind fun rv4=>if rv4=0 then((C9m F e.charge 1 1000000).bind fun rv5=>if rv5=true then((C9m F e.rate 1 1000).bind fun rv6=>if rv6=true then(C7U F (C4C F t K n) x q rv4)else(C7U F (C4C F t K n) x q 7))else(C7U F (C4C F t K n) x q 7))else(C7U F (C4C F t K n) x q rv4))else(K lv x)
def C8Y (F:Nat) (t:D4):Option (Int × Int × Int):=(C9n F t.stations).bind fun rv3=>if rv3.2=0 then(C4C F t (fun lv x=>C6B F t (fun lv2 x3=>C4B F t (fun x4=>(C9m F t.Q8 0 100000).bind fun rv9=>if rv9=true then((C9m F t.O8 t.Q8 100000).bind fun rv10=>if rv10=true then(some (0,0,0))else(some (7,0,7)))else(some (7,0,7))) F 0) F ([]:List ByteArray) 0) F ([]:List ByteArray) 0)else(some (3,rv3.1,rv3.2))
def C8H (F:Nat):Option (Int × Int × Int):=some (2,0,3)
def C8S (F:Nat) (t:D4):Option (Int × Int × Int):=(C9d F (D5.mk t.N4 t.P5 t.N6 t.S5 t.J3 t.Q7 t.T9)).bind fun rv=>if rv.2.2=0 then(if 8<(t.stations.length:Int)then(C8H F)else(if 6<(t.batteries.length:Int)then(C8H F)else((C9m F (t.steps.length:Int) 1 16).bind fun rv2=>if rv2=true then(C8Y F t)else(C8H F))))else(some (1,0,rv.2.2))
theorem C95 {F t r} (h:C8S F t=some r):PC Tryz.prog 35 [D4.d t] (.tup [vI r.1,vI r.2.1,vI r.2.2]):=by
 rw[C8S]at h
 refine oW Tryz.func35 ?_
 refine gY 4 R (gU 2 R ?_)
 obtain⟨rv,k,h⟩:=H1 h
 refine J5 (D0c k) eK R R R R (eU 7 R (B8 (gU 1 R ?_)))
 refine V5 R R R R (nJ h ?_) (tJ h ?_)
 ·intro h
  refine Y9 (C0 R (gY 4 R (C9 ?_)))
  cases h
  exact f0 R R R (.cons (.tmp 2) (.cons (.tmp 3) (.cons (.tmp 4) .nil)))
 intro h
 refine Y9 (zF (B8 ?_))
 refine W5 (fun zz:Unit=>C8Y F t=some r) (fun zz:Unit=>⟨[(1,rf 0 13),(2,dI 0),(3,dI 0),(4,dI 0)],[bx 13 (.d (D4.d t))]⟩) ?_ ?_
 ·clear h
  rintro⟨⟩ h
  rw[C8Y]at h
  refine gU 2 R ?_
  obtain⟨rv3,k3,h⟩:=H1 h
  refine J5 (D0m k3) eK R R R R (eU 5 R (B8 (gU 1 R ?_)))
  refine V5 R R R R (nJ h ?_) (tJ h ?_)
  ·intro h
   refine Y9 (C0 R (gY 5 R (C9 ?_)))
   cases h
   exact f0 R R R (.cons (.tmp 2) (.cons (.tmp 3) (.cons (.tmp 4) .nil)))
  intro h
  refine Y9 (zF (gY 1 R (B8 (gY 1 R (E3 ?_)))))
  refine SW.own (ts':=[(1,rf 0 13),(2,dI 0),(3,dI 0),(4,dI 0),(9,.row 1 1 0 (([]:List ByteArray)).length),(10,dI 0)]) (L':=[bx 13 (.d (D4.d t))]) 1 R R (.cons (.same _) (.cons (.same _) (.cons (.same _) (.cons (.same _) (.cons .nil (.cons (.same _) .nil)))))) (.same .nil) ?_
  simp only[List.cons_append,List.nil_append]
  obtain⟨K4,hK4,h⟩:∃ K,K=_∧C4C F t K F ([]:List ByteArray) 0=some r:=⟨_,rfl,h⟩
  refine lW (fun m st=>∃ (lv:(List ByteArray)) (x:Int),C4C F t K4 m lv x=some r∧st=⟨[(1,rf 0 13),(2,dI 0),(3,dI 0),(4,dI 0),(9,.row 1 1 0 (lv).length),(10,dI x)],[bx 13 (.d (D4.d t)),C4g lv]⟩) ⟨([]:List ByteArray),0,h,R⟩ (.prn [1,2,3,4,9,10] R) ?_
  clear h
  rintro m4 st ⟨lv,x,h,rfl⟩
  cases m4 with
  | zero=>cases(show(none:Option (Int × Int × Int))=some r from h)
  | succ m4 =>
  rw[C4C]at h
  refine B8 (gU 3 R (I7 tb R ?_))
  refine Q4 R R R R (tJ h ?_) (lJ h ?_)
  ·intro h
   refine Y9 (zT (B8 (E3 (gU 4 R ?_))))
   obtain⟨e,ie,h⟩:=H1 h
   refine xE ie R (rU 1 R (lE ie R (P7 tb R R R R R R R R R R R R R ?_)))
   obtain⟨q,iq,h⟩:=H1 h
   refine B2k (g:=vS) (w:=lv) (v:=[e.name]) ([bx 13 (.d (D4.d t)),none,C4g [e.name]]) tb R R R R R R R R R R R iq R R R R R (eU 1 R (gU 2 R ?_))
   obtain⟨rv4,k4,h⟩:=H1 h
   refine A19 (D03 k4) R eK R R ((.cons (.row R R) (dL .nil))) R R (eU 1 R (B8 ?_))
   refine W5 (fun zz:Int=>C7U F (C4C F t K4 m4) x q zz=some r) (fun zz:Int=>⟨[(1,rf 0 13),(2,dI 0),(3,dI 0),(4,dI 0),(9,.row 1 1 0 (q).length),(10,dI x),(11,dI zz)],[bx 13 (.d (D4.d t)),C4g q]⟩) ?_ ?_
   ·clear h
    rintro x2 h
    rw[C7U]at h
    refine gU 1 R ?_
    refine V5 R R R R (nJ h ?_) (tJ h ?_)
    ·intro h
     refine Y9 (C0 R (gY 5 R (C9 ?_)))
     cases h
     exact f0 R R R (.cons (.tmp 2) (.cons (.tmp 3) (.cons (.tmp 4) .nil)))
    intro h
    refine Y9 (zF (hN 3 R ?_))
    exact bk ⟨q,(W (x+1)),h,R⟩ (.prn [1,2,3,4,9,10] R)
   refine gU 1 R ?_
   refine Z3 R R R R (tJ h ?_) (nJ h ?_)
   ·intro h
    refine rU 4 R (xE ie R (rU 1 R (lE ie R ?_)))
    obtain⟨rv5,k5,h⟩:=H1 h
    refine M6 (C84 k5) eK R R R R (tI h ?_) (fI h ?_)
    ·intro c8 h
     refine rU 5 R (xE ie R (rU 1 R (lE ie R ?_)))
     obtain⟨rv6,k6,h⟩:=H1 h
     refine M6 (C84 k6) eK R R R R (tI h ?_) (fI h ?_)
     ·intro c9 h
      refine eU 3 R (zF (A6 ?_))
      exact .inl ⟨rv4,h,.vw (κ:=[0,3]) (vK (.cons R R C23) R)⟩
     intro c9 h
     refine eU 3 R (C0 R (hN 1 R ?_))
     exact .inl ⟨7,h,.vw (κ:=[0,3]) (vK (.cons R R C23) R)⟩
    intro c8 h
    refine eU 12 R (C0 R (hN 1 R ?_))
    exact .inl ⟨7,h,.vw (κ:=[0,3]) (vK (.cons R R C23) R)⟩
   intro h
   refine eU 20 R (zF (A6 ?_))
   exact .inl ⟨rv4,h,.vw (κ:=[0,3]) (vK (.cons R R C23) R)⟩
  intro h
  refine Y9 (C1 R (N5 (E4 (E4 ?_))))
  subst hK4
  refine gY 1 R (B8 (gY 1 R (E3 ?_)))
  refine SW.own (ts':=[(1,rf 0 13),(2,dI 0),(3,dI 0),(4,dI 0),(9,.row 2 1 0 (([]:List ByteArray)).length),(12,dI 0)]) (L':=[bx 13 (.d (D4.d t)),C4g lv]) 1 R R (.cons (.same _) (.cons (.same _) (.cons (.same _) (.cons (.same _) (.cons .nil (.cons (.same _) .nil)))))) (.same (.same .nil)) ?_
  simp only[List.cons_append,List.nil_append]
  obtain⟨K8,hK8,h⟩:∃ K,K=_∧C6B F t K F ([]:List ByteArray) 0=some r:=⟨_,rfl,h⟩
  refine lW (fun m st=>∃ (lv2:(List ByteArray)) (x3:Int),C6B F t K8 m lv2 x3=some r∧st=⟨[(1,rf 0 13),(2,dI 0),(3,dI 0),(4,dI 0),(9,.row 1 1 0 (lv2).length),(12,dI x3)],[bx 13 (.d (D4.d t)),C4g lv2]⟩) ⟨([]:List ByteArray),0,h,R⟩ (.vw (κ:=[0,2]) (vK (.cons R R C23) R)) ?_
  clear h
  rintro m8 st ⟨lv2,x3,h,rfl⟩
  cases m8 with
  | zero=>cases(show(none:Option (Int × Int × Int))=some r from h)
  | succ m8 =>
  rw[C6B]at h
  refine B8 (gU 3 R (I7 tb R ?_))
  refine Q4 R R R R (tJ h ?_) (lJ h ?_)
  ·intro h
   refine Y9 (zT (B8 (E3 (gU 4 R ?_))))
   obtain⟨e2,ie2,h⟩:=H1 h
   refine xE ie2 R (rU 1 R (lE ie2 R (P7 tb R R R R R R R R R R R R R ?_)))
   obtain⟨q2,iq2,h⟩:=H1 h
   refine B2k (g:=vS) (w:=lv2) (v:=[e2.name]) ([bx 13 (.d (D4.d t)),none,C4g [e2.name]]) tb R R R R R R R R R R R iq2 R R R R R (eU 1 R (gU 3 R ?_))
   obtain⟨rv7,k7,h⟩:=H1 h
   refine A19 (D12 k7) R eK R R ((dL (.cons (.row R R) (dL .nil)))) R R (eU 1 R (gU 1 R ?_))
   refine V5 R R R R (nJ h ?_) (tJ h ?_)
   ·intro h
    refine Y9 (C0 R (gY 5 R (C9 ?_)))
    cases h
    exact f0 R R R (.cons (.tmp 2) (.cons (.tmp 3) (.cons (.tmp 4) .nil)))
   intro h
   refine Y9 (zF (hN 3 R ?_))
   exact bk ⟨q2,(W (x3+1)),h,R⟩ (.vw (κ:=[0,3]) (vK (.cons R R C23) R))
  intro h
  refine Y9 (C1 R (N5 (E4 (E4 ?_))))
  subst hK8
  refine B8 (gY 1 R (E3 ?_))
  obtain⟨K11,hK11,h⟩:∃ K,K=_∧C4B F t K F 0=some r:=⟨_,rfl,h⟩
  refine lW (fun m st=>∃ (x4:Int),C4B F t K11 m x4=some r∧st=⟨[(1,rf 0 13),(2,dI 0),(3,dI 0),(4,dI 0),(14,dI x4)],[bx 13 (.d (D4.d t))]⟩) ⟨0,h,R⟩ (.vw (κ:=[0]) (vK (.cons R R .nil) R)) ?_
  clear h
  rintro m11 st ⟨x4,h,rfl⟩
  cases m11 with
  | zero=>cases(show(none:Option (Int × Int × Int))=some r from h)
  | succ m11 =>
  rw[C4B]at h
  refine B8 (gU 3 R (I7 tb R ?_))
  refine Q4 R R R R (tJ h ?_) (lJ h ?_)
  ·intro h
   refine Y9 (zT (B8 (E3 (B8 (B8 (T1 kR (rU 3 R ?_)))))))
   obtain⟨e3,ie3,h⟩:=H1 h
   refine yE ie3 R R (rU 2 R (I7 tb R (rU 1 R ?_)))
   obtain⟨rv8,k8,h⟩:=H1 h
   refine M6 (C84 k8) eK R R R R (tI h ?_) (fI h ?_)
   ·intro c14 h
    refine rU 1 R (I0 kR (zF (B8 (T1 kR (rU 1 R ?_)))))
    refine A4l R R R R (tJ h ?_) (lJ h ?_)
    ·intro h
     refine rU 4 R (yE ie3 R R (rU 4 R ?_))
     obtain⟨e4,ie4,h⟩:=H1 h
     refine yE ie4 R R ?_
     refine B1t R R R R (tJ h ?_) (mJ h ?_)
     ·intro h
      refine rU 1 R (I0 kR (C0 R (gY 4 R (C9 ?_))))
      cases h
      exact f0 R R R (.cons (.tmp 2) (.cons (.tmp 3) (.cons (.tmp 4) .nil)))
     intro h
     refine rU 1 R (I0 kR (zF (hN 3 R ?_)))
     exact bk ⟨(W (x4+1)),h,R⟩ (.prn [1,2,3,4,14] R)
    intro h
    refine rU 14 R (I0 kR (zF (hN 3 R ?_)))
    exact bk ⟨(W (x4+1)),h,R⟩ (.prn [1,2,3,4,14] R)
   intro c14 h
   refine rU 1 R (I0 kR (C0 R (gY 4 R (C9 ?_))))
   cases h
   exact f0 R R R (.cons (.tmp 2) (.cons (.tmp 3) (.cons (.tmp 4) .nil)))
  intro h
  refine Y9 (C1 R (N5 (E4 (E4 ?_))))
  subst hK11
  refine B8 (gU 3 R ?_)
  obtain⟨rv9,k9,h⟩:=H1 h
  refine M6 (C84 k9) eK R R R R (tI h ?_) (fI h ?_)
  ·intro c17 h
   refine rU 8 R ?_
   obtain⟨rv10,k10,h⟩:=H1 h
   refine M6 (C84 k10) eK R R R R (tI h ?_) (fI h ?_)
   ·intro c18 h
    refine eU 2 R (zF (gY 3 R (C9 ?_)))
    cases h
    exact f0 R R R (.cons (.tmp 2) (.cons (.tmp 3) (.cons (.tmp 4) .nil)))
   intro c18 h
   refine eU 2 R (C0 R (gY 3 R (C9 ?_)))
   cases h
   exact f0 R R R (.cons (.tmp 2) (.cons (.tmp 3) (.cons (.tmp 4) .nil)))
  intro c17 h
  refine eU 11 R (C0 R (gY 3 R (C9 ?_)))
  cases h
  exact f0 R R R (.cons (.tmp 2) (.cons (.tmp 3) (.cons (.tmp 4) .nil)))
 refine B8 ?_
 refine W5 (fun zz:Unit=>C8H F=some r) (fun zz:Unit=>⟨[(1,rf 0 13),(2,dI 0),(3,dI 0),(4,dI 0),(41,dB true)],[bx 13 (.d (D4.d t))]⟩) ?_ ?_
 ·clear h
  rintro⟨⟩ h
  rw[C8H]at h
  refine C0 R (gY 3 R (C9 ?_))
  cases h
  exact f0 R R R (.cons (.tmp 2) (.cons (.tmp 3) (.cons (.tmp 4) .nil)))
 refine hU 2 R (I7 tb R ?_)
 refine A4l R R R R (tJ h ?_) (lJ h ?_)
 ·intro h
  refine nU 13 R ?_
  exact .inl ⟨(),h,.prn [1,2,3,4,41] R⟩
 intro h
 refine rU 3 R (I7 tb R ?_)
 refine A4l R R R R (tJ h ?_) (lJ h ?_)
 ·intro h
  refine nU 8 R ?_
  exact .inl ⟨(),h,.prn [1,2,3,4,41] R⟩
 intro h
 refine rU 4 R (I7 tb R ?_)
 obtain⟨rv2,k2,h⟩:=H1 h
 refine M6 (C84 k2) eK R R R R (tI h ?_) (fI h ?_)
 ·intro c4 h
  refine nU 2 R (.inr (zF (A6 ?_)))
  exact .inl ⟨(),h,.prn [1,2,3,4] R⟩
 intro c4 h
 refine nU 2 R ?_
 exact .inl ⟨(),h,.prn [1,2,3,4,41] R⟩
def C7Y (F:Nat) (p:D4) (K:(List Int)→(List Bool)→Int→Option H2):Nat→(List Int)→(List Bool)→Int→Option H2
 | 0,_,_,_=>none
 | n+1,s3,s4,i2=>if i2<(p.batteries.length:Int)then((P3 p.batteries i2).bind fun e=>(A8i s3 [e.charge]).bind fun q3=>(A8i s4 [false]).bind fun q4=>C7Y F p K n q3 q4 (W (i2+1)))else(K s3 s4 i2)
def C7Z (F:Nat) (p:D4) (K:(List Int)→(List Int)→Int→Option H2):Nat→(List Int)→(List Int)→Int→Option H2
 | 0,_,_,_=>none
 | n+1,s,s2,i=>if i<(p.steps.length:Int)then((A8i s [(-1)]).bind fun q=>(A8i s2 [(-1)]).bind fun q2=>C7Z F p K n q q2 (W (i+1)))else(K s s2 i)
def C9o (F:Nat) (p:D4):Option H2:=(C8M F (D5.mk p.N4 p.P5 p.N6 p.S5 p.J3 p.Q7 p.T9)).bind fun rv=>C7Z F p (fun s s2 i=>C7Y F p (fun s3 s4 i2=>(B1D (p.stations.length:Int)).bind fun q5=>some (H2.mk 0 rv.1.now rv.1.zones rv.1.holder rv.1.squibs rv.1.siren rv.1.storm s s2 false (List.replicate q5 false) s3 s4)) F ([]:List Int) ([]:List Bool) 0) F ([]:List Int) ([]:List Int) 0
theorem C9R {F p r} (h:C9o F p=some r):SCR Tryz.prog 47 (List.map T.d [D4.d p]) [] (B4I r 0 1 2 3 4) (List.map some [(B7 r.begun),(B7 r.ended),(H7 r.go),(B7 r.left),(H7 r.on_)]):=by
 rw[C9o]at h
 refine oW Tryz.func47 ?_
 refine gY 2 R (gY 1 R (gU 2 R ?_))
 obtain⟨rv,k,h⟩:=H1 h
 refine J5 (D1b k) eK R R R R (eU 5 R (B8 (gY 1 R (E3 ?_))))
 refine SW.own (ts':=[(1,rf 0 13),(2,rf 1 13),(3,rf 2 13),(4,dI 0)]) (L':=[bx 13 (.d (D4.d p)),bx 13 (.d (.agg [vI 0,vI 0,.v (.slice none 0 0),.v (.slice none 0 0),.v (.slice none 0 0),vI 0,vB false,.v (.slice none 0 0),.v (.slice none 0 0),vB false,.v (.slice none 0 0),.v (.slice none 0 0),.v (.slice none 0 0)])),bx 13 (.agg [dI 0,dI rv.1.now,.d (aI rv.1.zones),.d (aI rv.1.holder),.d (aI rv.1.squibs),dI rv.1.siren,dB rv.1.storm,.row 3 1 0 (([]:List Int)).length,.d (.v (.slice none 0 0)),dB false,.d (.v (.slice none 0 0)),.d (.v (.slice none 0 0)),.d (.v (.slice none 0 0))])]) 1 R R (.cons (.same _) (.cons (.same _) (.cons (.same _) (.cons (.same _) .nil)))) (.same (.same (.cons R (.cons (.aggDL (.cons (.same _) (.cons (.same _) (.cons (.same _) (.cons (.same _) (.cons (.same _) (.cons (.same _) (.cons (.same _) (.cons .nil (.cons (.same _) (.cons (.same _) (.cons (.same _) (.cons (.same _) (.cons (.same _) .nil)))))))))))))) .nil) .nil))) ?_
 simp only[List.cons_append,List.nil_append]
 refine SW.own (ts':=[(1,rf 0 13),(2,rf 1 13),(3,rf 2 13),(4,dI 0)]) (L':=[bx 13 (.d (D4.d p)),bx 13 (.d (.agg [vI 0,vI 0,.v (.slice none 0 0),.v (.slice none 0 0),.v (.slice none 0 0),vI 0,vB false,.v (.slice none 0 0),.v (.slice none 0 0),vB false,.v (.slice none 0 0),.v (.slice none 0 0),.v (.slice none 0 0)])),bx 13 (.agg [dI 0,dI rv.1.now,.d (aI rv.1.zones),.d (aI rv.1.holder),.d (aI rv.1.squibs),dI rv.1.siren,dB rv.1.storm,.row 3 1 0 (([]:List Int)).length,.row 4 1 0 (([]:List Int)).length,dB false,.d (.v (.slice none 0 0)),.d (.v (.slice none 0 0)),.d (.v (.slice none 0 0))]),B0u ([]:List Int)]) 1 R R (.cons (.same _) (.cons (.same _) (.cons (.same _) (.cons (.same _) .nil)))) (.same (.same (.cons R (.cons (.aggL (.cons (.same _) (.cons (.same _) (.cons (.same _) (.cons (.same _) (.cons (.same _) (.cons (.same _) (.cons (.same _) (.cons (.same _) (.cons .nil (.cons (.same _) (.cons (.same _) (.cons (.same _) (.cons (.same _) .nil)))))))))))))) .nil) (.same .nil)))) ?_
 simp only[List.cons_append,List.nil_append]
 obtain⟨K2,hK2,h⟩:∃ K,K=_∧C7Z F p K F ([]:List Int) ([]:List Int) 0=some r:=⟨_,rfl,h⟩
 refine lW (fun m st=>∃ (s:(List Int)) (s2:(List Int)) (i:Int),C7Z F p K2 m s s2 i=some r∧st=⟨[(1,rf 0 13),(2,rf 1 13),(3,rf 2 13),(4,dI i)],[bx 13 (.d (D4.d p)),bx 13 (.d (.agg [vI 0,vI 0,.v (.slice none 0 0),.v (.slice none 0 0),.v (.slice none 0 0),vI 0,vB false,.v (.slice none 0 0),.v (.slice none 0 0),vB false,.v (.slice none 0 0),.v (.slice none 0 0),.v (.slice none 0 0)])),bx 13 (.agg [dI 0,dI rv.1.now,.d (aI rv.1.zones),.d (aI rv.1.holder),.d (aI rv.1.squibs),dI rv.1.siren,dB rv.1.storm,.row 3 1 0 (s).length,.row 4 1 0 (s2).length,dB false,.d (.v (.slice none 0 0)),.d (.v (.slice none 0 0)),.d (.v (.slice none 0 0))]),B0u s,B0u s2]⟩) ⟨([]:List Int),([]:List Int),0,h,R⟩ (.prn [1,2,3,4] R) ?_
 clear h
 rintro m2 st ⟨s,s2,i,h,rfl⟩
 cases m2 with
 | zero=>cases(show(none:Option H2)=some r from h)
 | succ m2 =>
 rw[C7Z]at h
 refine B8 (gU 3 R (I7 tb R ?_))
 refine Q4 R R R R (tJ h ?_) (lJ h ?_)
 ·intro h
  refine Y9 (zT (B8 (E3 (T1 kR (rU 2 R (P7 tb R R R R R R R R R R R R R ?_))))))
  obtain⟨q,iq,h⟩:=H1 h
  refine B2k (g:=vI) (w:=s) (v:=[(-1)]) ([bx 13 (.d (D4.d p)),bx 13 (.d (.agg [vI 0,vI 0,.v (.slice none 0 0),.v (.slice none 0 0),.v (.slice none 0 0),vI 0,vB false,.v (.slice none 0 0),.v (.slice none 0 0),vB false,.v (.slice none 0 0),.v (.slice none 0 0),.v (.slice none 0 0)])),bx 13 (.agg [dI 0,dI rv.1.now,.d (aI rv.1.zones),.d (aI rv.1.holder),.d (aI rv.1.squibs),dI rv.1.siren,dB rv.1.storm,.row 3 1 0 (s).length,.row 4 1 0 (s2).length,dB false,.d (.v (.slice none 0 0)),.d (.v (.slice none 0 0)),.d (.v (.slice none 0 0))]),none,B0u s2,B0u [(-1)]]) tb R R R R R R R R R R R iq R R R R R ?_
  refine rU 2 R (P7 tb R R R R R R R R R R R R R ?_)
  obtain⟨q2,iq2,h⟩:=H1 h
  refine B2k (g:=vI) (w:=s2) (v:=[(-1)]) ([bx 13 (.d (D4.d p)),bx 13 (.d (.agg [vI 0,vI 0,.v (.slice none 0 0),.v (.slice none 0 0),.v (.slice none 0 0),vI 0,vB false,.v (.slice none 0 0),.v (.slice none 0 0),vB false,.v (.slice none 0 0),.v (.slice none 0 0),.v (.slice none 0 0)])),bx 13 (.agg [dI 0,dI rv.1.now,.d (aI rv.1.zones),.d (aI rv.1.holder),.d (aI rv.1.squibs),dI rv.1.siren,dB rv.1.storm,.row 3 1 0 (s).length,.row 4 1 0 (s2).length,dB false,.d (.v (.slice none 0 0)),.d (.v (.slice none 0 0)),.d (.v (.slice none 0 0))]),none,none,B0u [(-1)],B0u q,B0u [(-1)]]) tb R R R R R R R R R R R iq2 R R R R R ?_
  refine rU 4 R (I0 kR (hN 3 R ?_))
  exact bk ⟨q,q2,(W (i+1)),h,R⟩ (.vw (κ:=[0,1,2,6,8]) (vK (.cons R R (.cons R R (.cons R R C37))) R))
 intro h
 refine Y9 (C1 R (N5 (E4 (E4 ?_))))
 subst hK2
 refine B8 (gY 1 R (E3 ?_))
 refine SW.own (ts':=[(1,rf 0 13),(2,rf 1 13),(3,rf 2 13),(5,dI 0)]) (L':=[bx 13 (.d (D4.d p)),bx 13 (.d (.agg [vI 0,vI 0,.v (.slice none 0 0),.v (.slice none 0 0),.v (.slice none 0 0),vI 0,vB false,.v (.slice none 0 0),.v (.slice none 0 0),vB false,.v (.slice none 0 0),.v (.slice none 0 0),.v (.slice none 0 0)])),bx 13 (.agg [dI 0,dI rv.1.now,.d (aI rv.1.zones),.d (aI rv.1.holder),.d (aI rv.1.squibs),dI rv.1.siren,dB rv.1.storm,.row 3 1 0 (s).length,.row 4 1 0 (s2).length,dB false,.d (.v (.slice none 0 0)),.row 5 1 0 (([]:List Int)).length,.d (.v (.slice none 0 0))]),B0u s,B0u s2]) 1 R R (.cons (.same _) (.cons (.same _) (.cons (.same _) (.cons (.same _) .nil)))) (.same (.same (.cons R (.cons (.aggL (.cons (.same _) (.cons (.same _) (.cons (.same _) (.cons (.same _) (.cons (.same _) (.cons (.same _) (.cons (.same _) (.cons (.same _) (.cons (.same _) (.cons (.same _) (.cons (.same _) (.cons .nil (.cons (.same _) .nil)))))))))))))) .nil) (.same (.same .nil))))) ?_
 simp only[List.cons_append,List.nil_append]
 refine SW.own (ts':=[(1,rf 0 13),(2,rf 1 13),(3,rf 2 13),(5,dI 0)]) (L':=[bx 13 (.d (D4.d p)),bx 13 (.d (.agg [vI 0,vI 0,.v (.slice none 0 0),.v (.slice none 0 0),.v (.slice none 0 0),vI 0,vB false,.v (.slice none 0 0),.v (.slice none 0 0),vB false,.v (.slice none 0 0),.v (.slice none 0 0),.v (.slice none 0 0)])),bx 13 (.agg [dI 0,dI rv.1.now,.d (aI rv.1.zones),.d (aI rv.1.holder),.d (aI rv.1.squibs),dI rv.1.siren,dB rv.1.storm,.row 3 1 0 (s).length,.row 4 1 0 (s2).length,dB false,.d (.v (.slice none 0 0)),.row 5 1 0 (([]:List Int)).length,.row 6 1 0 (([]:List Bool)).length]),B0u s,B0u s2,B0u ([]:List Int)]) 1 R R (.cons (.same _) (.cons (.same _) (.cons (.same _) (.cons (.same _) .nil)))) (.same (.same (.cons R (.cons (.aggL (.cons (.same _) (.cons (.same _) (.cons (.same _) (.cons (.same _) (.cons (.same _) (.cons (.same _) (.cons (.same _) (.cons (.same _) (.cons (.same _) (.cons (.same _) (.cons (.same _) (.cons (.same _) (.cons .nil .nil)))))))))))))) .nil) (.same (.same (.same .nil)))))) ?_
 simp only[List.cons_append,List.nil_append]
 obtain⟨K4,hK4,h⟩:∃ K,K=_∧C7Y F p K F ([]:List Int) ([]:List Bool) 0=some r:=⟨_,rfl,h⟩
 refine lW (fun m st=>∃ (s3:(List Int)) (s4:(List Bool)) (i2:Int),C7Y F p K4 m s3 s4 i2=some r∧st=⟨[(1,rf 0 13),(2,rf 1 13),(3,rf 2 13),(5,dI i2)],[bx 13 (.d (D4.d p)),bx 13 (.d (.agg [vI 0,vI 0,.v (.slice none 0 0),.v (.slice none 0 0),.v (.slice none 0 0),vI 0,vB false,.v (.slice none 0 0),.v (.slice none 0 0),vB false,.v (.slice none 0 0),.v (.slice none 0 0),.v (.slice none 0 0)])),bx 13 (.agg [dI 0,dI rv.1.now,.d (aI rv.1.zones),.d (aI rv.1.holder),.d (aI rv.1.squibs),dI rv.1.siren,dB rv.1.storm,.row 3 1 0 (s).length,.row 4 1 0 (s2).length,dB false,.d (.v (.slice none 0 0)),.row 5 1 0 (s3).length,.row 6 1 0 (s4).length]),B0u s,B0u s2,B0u s3,B9r s4]⟩) ⟨([]:List Int),([]:List Bool),0,h,R⟩ (.prn [1,2,3,5] R) ?_
 clear h
 rintro m4 st ⟨s3,s4,i2,h,rfl⟩
 cases m4 with
 | zero=>cases(show(none:Option H2)=some r from h)
 | succ m4 =>
 rw[C7Y]at h
 refine B8 (gU 3 R (I7 tb R ?_))
 refine Q4 R R R R (tJ h ?_) (lJ h ?_)
 ·intro h
  refine Y9 (zT (B8 (E3 (T1 kR (rU 5 R ?_)))))
  obtain⟨e,ie,h⟩:=H1 h
  refine xE ie R (rU 1 R (lE ie R (P7 tb R R R R R R R R R R R R R ?_)))
  obtain⟨q3,iq3,h⟩:=H1 h
  refine B2k (g:=vI) (w:=s3) (v:=[e.charge]) ([bx 13 (.d (D4.d p)),bx 13 (.d (.agg [vI 0,vI 0,.v (.slice none 0 0),.v (.slice none 0 0),.v (.slice none 0 0),vI 0,vB false,.v (.slice none 0 0),.v (.slice none 0 0),vB false,.v (.slice none 0 0),.v (.slice none 0 0),.v (.slice none 0 0)])),bx 13 (.agg [dI 0,dI rv.1.now,.d (aI rv.1.zones),.d (aI rv.1.holder),.d (aI rv.1.squibs),dI rv.1.siren,dB rv.1.storm,.row 3 1 0 (s).length,.row 4 1 0 (s2).length,dB false,.d (.v (.slice none 0 0)),.row 5 1 0 (s3).length,.row 6 1 0 (s4).length]),B0u s,B0u s2,none,B9r s4,B0u [e.charge]]) tb R R R R R R R R R R R iq3 R R R R R ?_
  refine rU 2 R (P7 tb R R R R R R R R R R R R R ?_)
  obtain⟨q4,iq4,h⟩:=H1 h
  refine B2k (g:=vB) (w:=s4) (v:=[false]) ([bx 13 (.d (D4.d p)),bx 13 (.d (.agg [vI 0,vI 0,.v (.slice none 0 0),.v (.slice none 0 0),.v (.slice none 0 0),vI 0,vB false,.v (.slice none 0 0),.v (.slice none 0 0),vB false,.v (.slice none 0 0),.v (.slice none 0 0),.v (.slice none 0 0)])),bx 13 (.agg [dI 0,dI rv.1.now,.d (aI rv.1.zones),.d (aI rv.1.holder),.d (aI rv.1.squibs),dI rv.1.siren,dB rv.1.storm,.row 3 1 0 (s).length,.row 4 1 0 (s2).length,dB false,.d (.v (.slice none 0 0)),.row 5 1 0 (s3).length,.row 6 1 0 (s4).length]),B0u s,B0u s2,none,none,B0u [e.charge],B0u q3,B9r [false]]) tb R R R R R R R R R R R iq4 R R R R R ?_
  refine rU 4 R (I0 kR (hN 3 R ?_))
  exact bk ⟨q3,q4,(W (i2+1)),h,R⟩ (.vw (κ:=[0,1,2,3,4,8,10]) (vK (.cons R R (.cons R R (.cons R R C40))) R))
 intro h
 refine Y9 (C1 R (N5 (E4 (E4 ?_))))
 subst hK4
 refine gU 2 R (I7 tb R ?_)
 obtain⟨q5,iq5,h⟩:=H1 h
 refine B00 (v:=false) (g:=vB) tb R R R R R R R ((A6i iq5).1) ((A6i iq5).2) R R R R (eU 2 R (gY 2 R (C9 ?_)))
 cases h
 exact f2 [3,4,7,5,6] B9x R (.cons (rc tb R) .nil) R
theorem D2s {F p r} (h:C9o F p=some r):PC Tryz.prog 47 [D4.d p] (H2.d r):=(C9R h).toPC (.aggL (.cons (.d _) (.cons (.d _) (.cons (.d _) (.cons (.d _) (.cons (.d _) (.cons (.d _) (.cons (.d _) (.cons (.row rfl rfl) (.cons (.row rfl rfl) (.cons (.d _) (.cons (.row rfl rfl) (.cons (.row rfl rfl) (.cons (.row rfl rfl) .nil))))))))))))))
def C96 (F:Nat) (p:D4):Option (H2 × Int):=(C8S F p).bind fun rv=>if rv.2.2=0 then((C9o F p).bind fun rv2=>some (rv2,0))else(some ((H2.mk 0 0 [] [] [] 0 false [] [] false [] [] []),rv.2.2))
theorem D1o {F p r} (h:C96 F p=some r):PC Tryz.prog 37 [D4.d p] (.tup [H2.d r.1,vI r.2]):=by
 rw[C96]at h
 refine PC.of_lend ?_
 refine oW Tryz.func37 ?_
 refine gY 3 R (gU 1 R ?_)
 obtain⟨rv,k,h⟩:=H1 h
 refine J5 (C95 k) eK R R R R (eU 7 R (B8 (gU 1 R ?_)))
 refine V5 R R R R (nJ h ?_) (tJ h ?_)
 ·intro h
  refine Y9 (C0 R (qG (S1 (v := .d (.agg [vI 0,vI 0,.v (.slice none 0 0),.v (.slice none 0 0),.v (.slice none 0 0),vI 0,vB false,.v (.slice none 0 0),.v (.slice none 0 0),vB false,.v (.slice none 0 0),.v (.slice none 0 0),.v (.slice none 0 0)])) tb R R (List.cons_ne_nil _ _) kR kR kR kR R R (eU 3 R (C9 (B2 ?_))))))
  cases h
  exact(U0 (t := .d (.tup [.agg [vI 0,vI 0,.v (.slice none 0 0),.v (.slice none 0 0),.v (.slice none 0 0),vI 0,vB false,.v (.slice none 0 0),.v (.slice none 0 0),vB false,.v (.slice none 0 0),.v (.slice none 0 0),.v (.slice none 0 0)],vI rv.2.2])) (L:=[]) (κ:=[]) R (.cons (rc tb R) (.cons (.tmp 3) .nil)) (v0 R) ⟨_,R,(.tupDL (.cons (.aggDL (dL (dL (.cons .nilA (.cons .nilA (.cons .nilA (dL (dL (.cons .nilA (.cons .nilA (dL (.cons .nilA (.cons .nilA (.cons .nilA .nil)))))))))))))) (dL .nil)))⟩)
 intro h
 refine Y9 (zF (gU 1 R ?_))
 obtain⟨rv2,k2,h⟩:=H1 h
 refine A2X (C9R k2) eK R R R ((.row (.row (.row (.row (.row .nil)))))) R R R (eU 2 R (C9 ?_))
 cases h
 exact(U0 (t := .tup [B4I rv2 0 1 2 3 4,dI 0]) (L:=[B0u rv2.begun,B0u rv2.ended,B9r rv2.go,B0u rv2.left,B9r rv2.on_]) (κ:=[2,3,4,5,6]) R (.cons (rc tb R) (.cons (.tmp 3) .nil)) (vK B9x R) ⟨_,R,(.tupL (.cons (.aggL (dL (dL (dL (dL (dL (dL (dL (.cons (.row R R) (.cons (.row R R) (dL (.cons (.row R R) (.cons (.row R R) (.cons (.row R R) .nil)))))))))))))) (dL .nil)))⟩)
def C7z (F:Nat) (t:D4) (lv:(List Int)) (x:Int) (K:Int→Int→Int→Option ((List Int) × Int)):Nat→Int→Int→Int→Option ((List Int) × Int)
 | 0,_,_,_=>none
 | n+1,x2,x3,x4=>(P3 t.steps x).bind fun e=>if x4<(e.need.length:Int)then((P3 e.need x4).bind fun e2=>if x3<0 then((P3 lv e2).bind fun e3=>C7z F t lv x K n e3 e2 (W (x4+1)))else((P3 lv e2).bind fun e4=>if x2<e4 then(C7z F t lv x K n e4 e2 (W (x4+1)))else(C7z F t lv x K n x2 x3 (W (x4+1)))))else(K x2 x3 x4)
def C8p (F:Nat) (lv2:(List Int)) (K:(List Int)→Int→Option ((List Int) × Int)):Nat→(List Int)→Int→Option ((List Int) × Int)
 | 0,_,_=>none
 | n+1,lv3,x5=>if 0≤x5 then((A8i [x5] lv3).bind fun q3=>(P3 lv2 x5).bind fun e6=>C8p F lv2 K n q3 e6)else(K lv3 x5)
def C7V (F:Nat) (t:D4) (K:(List Int)→(List Int)→Int→Option ((List Int) × Int)):Nat→(List Int)→(List Int)→Int→Option ((List Int) × Int)
 | 0,_,_,_=>none
 | n+1,lv,lv2,x=>if x<(t.steps.length:Int)then(C7z F t lv x (fun x2 x3 x4=>(P3 t.steps x).bind fun e5=>(A8i lv [(W (x2+e5.least))]).bind fun q=>(A8i lv2 [x3]).bind fun q2=>C7V F t K n q q2 (W (x+1))) F 0 (-1) 0)else(K lv lv2 x)
def C9D (F:Nat) (t:D4):Option ((List Int) × Int):=(C8S F t).bind fun rv=>if rv.2.2=0 then(C7V F t (fun lv lv2 x=>C8p F lv2 (fun lv3 x5=>some (lv3,0)) F ([]:List Int) (W ((t.steps.length:Int)-1))) F ([]:List Int) ([]:List Int) 0)else(some (([]:List Int),rv.2.2))
theorem D0k {F t r} (h:C9D F t=some r):SCR Tryz.prog 38 (List.map T.d [D4.d t]) [] (.tup [.row 0 1 0 (r.1).length,dI r.2]) (List.map some [(B7 r.1)]):=by
 rw[C9D]at h
 refine oW Tryz.func38 ?_
 refine gY 3 R (gU 1 R ?_)
 obtain⟨rv,k,h⟩:=H1 h
 refine J5 (C95 k) eK R R R R (eU 7 R (B8 (gU 1 R ?_)))
 refine V5 R R R R (nJ h ?_) (tJ h ?_)
 ·intro h
  refine Y9 (C0 R (gY 3 R ?_))
  refine SW.own (ts':=[(2,.row 1 1 0 (([]:List Int)).length),(3,dI rv.2.2)]) (L':=[bx 13 (.d (D4.d t))]) 1 R R (.cons .nil (.cons (.same _) .nil)) (.same .nil) ?_
  simp only[List.cons_append,List.nil_append]
  refine C9 ?_
  cases h
  exact f2 [1] C23 R (.cons (.tmp 2) (.cons (.tmp 3) .nil)) R
 intro h
 refine Y9 (zF (gY 2 R (B8 (gY 1 R (E3 ?_)))))
 refine SW.own (ts':=[(1,rf 0 13),(2,.d (.v (.slice none 0 0))),(3,dI 0),(7,.row 1 1 0 (([]:List Int)).length),(8,.d (.v (.slice none 0 0))),(9,dI 0)]) (L':=[bx 13 (.d (D4.d t))]) 1 R R (.cons (.same _) (.cons (.same _) (.cons (.same _) (.cons .nil (.cons (.same _) (.cons (.same _) .nil)))))) (.same .nil) ?_
 simp only[List.cons_append,List.nil_append]
 refine SW.own (ts':=[(1,rf 0 13),(2,.d (.v (.slice none 0 0))),(3,dI 0),(7,.row 1 1 0 (([]:List Int)).length),(8,.row 2 1 0 (([]:List Int)).length),(9,dI 0)]) (L':=[bx 13 (.d (D4.d t)),B0u ([]:List Int)]) 1 R R (.cons (.same _) (.cons (.same _) (.cons (.same _) (.cons (.same _) (.cons .nil (.cons (.same _) .nil)))))) (.same (.same .nil)) ?_
 simp only[List.cons_append,List.nil_append]
 obtain⟨K6,hK6,h⟩:∃ K,K=_∧C7V F t K F ([]:List Int) ([]:List Int) 0=some r:=⟨_,rfl,h⟩
 refine lW (fun m st=>∃ (lv:(List Int)) (lv2:(List Int)) (x:Int),C7V F t K6 m lv lv2 x=some r∧st=⟨[(1,rf 0 13),(2,.d (.v (.slice none 0 0))),(3,dI 0),(7,.row 1 1 0 (lv).length),(8,.row 2 1 0 (lv2).length),(9,dI x)],[bx 13 (.d (D4.d t)),B0u lv,B0u lv2]⟩) ⟨([]:List Int),([]:List Int),0,h,R⟩ (.prn [1,2,3,7,8,9] R) ?_
 clear h
 rintro m6 st ⟨lv,lv2,x,h,rfl⟩
 cases m6 with
 | zero=>cases(show(none:Option ((List Int) × Int))=some r from h)
 | succ m6 =>
 rw[C7V]at h
 refine B8 (gU 3 R (I7 tb R ?_))
 refine Q4 R R R R (tJ h ?_) (lJ h ?_)
 ·intro h
  refine Y9 (zT (B8 (E3 (gY 2 R (B8 (gY 1 R (E3 ?_)))))))
  obtain⟨K10,hK10,h⟩:∃ K,K=_∧C7z F t lv x K F 0 (-1) 0=some r:=⟨_,rfl,h⟩
  refine lW (fun m st=>∃ (x2:Int) (x3:Int) (x4:Int),C7z F t lv x K10 m x2 x3 x4=some r∧st=⟨[(1,rf 0 13),(2,.d (.v (.slice none 0 0))),(3,dI 0),(7,.row 1 1 0 (lv).length),(8,.row 2 1 0 (lv2).length),(9,dI x),(10,dI x2),(11,dI x3),(12,dI x4)],[bx 13 (.d (D4.d t)),B0u lv,B0u lv2]⟩) ⟨0,(-1),0,h,R⟩ (.prn [1,2,3,7,8,9,10,11,12] R) ?_
  clear h
  rintro m10 st ⟨x2,x3,x4,h,rfl⟩
  cases m10 with
  | zero=>cases(show(none:Option ((List Int) × Int))=some r from h)
  | succ m10 =>
  rw[C7z]at h
  refine B8 (gU 4 R ?_)
  obtain⟨e,ie,h⟩:=H1 h
  refine xE ie R (rU 1 R (lE ie R (I7 tb R ?_)))
  refine Q4 R R R R (tJ h ?_) (lJ h ?_)
  ·intro h
   refine Y9 (zT (B8 (E3 (gU 3 R (xE ie R (rU 1 R (lE ie R (rU 1 R ?_))))))))
   obtain⟨e2,ie2,h⟩:=H1 h
   refine yE ie2 R R (eU 1 R (gU 1 R ?_))
   refine Q4 R R R R (tJ h ?_) (lJ h ?_)
   ·intro h
    refine eU 8 R (C0 R (hU 2 R ?_))
    obtain⟨e3,ie3,h⟩:=H1 h
    refine Y1 tb R R R R R R (F0 ie3) (ix1 ie3) R R ?_
    refine A15 (y:=vI e3) tb R R R R (U5 (g:=fun a=>T.d (vI a)) ie3) R R R R ?_
    refine eU 3 R (hN 3 R ?_)
    exact bk ⟨e3,e2,(W (x4+1)),h,R⟩ (.prn [1,2,3,7,8,9,10,11,12] R)
   intro h
   refine rU 3 R ?_
   obtain⟨e4,ie4,h⟩:=H1 h
   refine Y1 tb R R R R R R (F0 ie4) (ix1 ie4) R R ?_
   refine A15 (y:=vI e4) tb R R R R (U5 (g:=fun a=>T.d (vI a)) ie4) R R R R ?_
   refine rU 1 R ?_
   refine A4l R R R R (tJ h ?_) (lJ h ?_)
   ·intro h
    refine eU 1 R (C0 R (hU 2 R (Y1 tb R R R R R R (F0 ie4) (ix1 ie4) R R ?_)))
    refine A15 (y:=vI e4) tb R R R R (U5 (g:=fun a=>T.d (vI a)) ie4) R R R R ?_
    refine eU 3 R (hN 3 R ?_)
    exact bk ⟨e4,e2,(W (x4+1)),h,R⟩ (.prn [1,2,3,7,8,9,10,11,12] R)
   intro h
   refine eU 1 R (zF (hN 3 R ?_))
   exact bk ⟨x2,x3,(W (x4+1)),h,R⟩ (.prn [1,2,3,7,8,9,10,11,12] R)
  intro h
  refine Y9 (C1 R (N5 (E4 (E4 ?_))))
  subst hK10
  refine hU 5 R ?_
  obtain⟨e5,ie5,h⟩:=H1 h
  refine xE ie5 R (rU 1 R (lE ie5 R (rU 1 R (P7 tb R R R R R R R R R R R R R ?_))))
  obtain⟨q,iq,h⟩:=H1 h
  refine B2k (g:=vI) (w:=lv) (v:=[(W (x2+e5.least))]) ([bx 13 (.d (D4.d t)),none,B0u lv2,B0u [(W (x2+e5.least))]]) tb R R R R R R R R R R R iq R R R R R (rU 2 R (P7 tb R R R R R R R R R R R R R ?_))
  obtain⟨q2,iq2,h⟩:=H1 h
  refine B2k (g:=vI) (w:=lv2) (v:=[x3]) ([bx 13 (.d (D4.d t)),none,none,B0u [(W (x2+e5.least))],B0u q,B0u [x3]]) tb R R R R R R R R R R R iq2 R R R R R (eU 2 R (hN 3 R ?_))
  exact bk ⟨q,q2,(W (x+1)),h,R⟩ (.vw (κ:=[0,4,6]) (vK (.cons R R C37) R))
 intro h
 refine Y9 (C1 R (N5 (E4 (E4 ?_))))
 subst hK6
 refine gY 1 R (B8 (gU 2 R (I7 tb R (eU 2 R (E3 ?_)))))
 refine SW.own (ts':=[(2,.d (.v (.slice none 0 0))),(3,dI 0),(8,.row 2 1 0 (lv2).length),(14,.row 3 1 0 (([]:List Int)).length),(15,dI (W ((t.steps.length:Int)-1)))]) (L':=[bx 13 (.d (D4.d t)),B0u lv,B0u lv2]) 1 R R (.cons (.same _) (.cons (.same _) (.cons (.same _) (.cons .nil (.cons (.same _) .nil))))) (.same (.same (.same .nil))) ?_
 simp only[List.cons_append,List.nil_append]
 obtain⟨K12,hK12,h⟩:∃ K,K=_∧C8p F lv2 K F ([]:List Int) (W ((t.steps.length:Int)-1))=some r:=⟨_,rfl,h⟩
 refine lW (fun m st=>∃ (lv3:(List Int)) (x5:Int),C8p F lv2 K12 m lv3 x5=some r∧st=⟨[(2,.d (.v (.slice none 0 0))),(3,dI 0),(8,.row 0 1 0 (lv2).length),(14,.row 1 1 0 (lv3).length),(15,dI x5)],[B0u lv2,B0u lv3]⟩) ⟨([]:List Int),(W ((t.steps.length:Int)-1)),h,R⟩ (.vw (κ:=[2,3]) (vK C37 R)) ?_
 clear h
 rintro m12 st ⟨lv3,x5,h,rfl⟩
 cases m12 with
 | zero=>cases(show(none:Option ((List Int) × Int))=some r from h)
 | succ m12 =>
 rw[C8p]at h
 refine B8 (gU 1 R ?_)
 refine A7I R R R R (tJ h ?_) (mJ h ?_)
 ·intro h
  refine Y9 (zT (B8 (E3 (hU 1 R (P7 tb R R R R R R R R R R R R R (rU 1 R ?_))))))
  obtain⟨q3,iq3,h⟩:=H1 h
  refine B2k (g:=vI) (w:=[x5]) (v:=lv3) ([B0u lv2,B0u lv3,none]) tb R R R R R R R R R R (B0Y (fun _=>rfl)) iq3 R R R R R ?_
  refine eU 1 R (hU 2 R ?_)
  obtain⟨e6,ie6,h⟩:=H1 h
  refine Y1 tb R R R R R R (F0 ie6) (ix1 ie6) R R ?_
  refine A15 (y:=vI e6) tb R R R R (U5 (g:=fun a=>T.d (vI a)) ie6) R R R R ?_
  refine nU 1 R ?_
  exact bk ⟨q3,e6,h,R⟩ (.vw (κ:=[0,3]) (vK C37 R))
 intro h
 refine Y9 (C1 R (N5 (E4 (E4 ?_))))
 subst hK12
 refine gY 3 R (C9 ?_)
 cases h
 exact f2 [1] C23 R (.cons (.tmp 2) (.cons (.tmp 3) .nil)) R
theorem D2D {F t r} (h:C9D F t=some r):PC Tryz.prog 38 [D4.d t] (.tup [aI r.1,vI r.2]):=(D0k h).toPC (.tupL (.cons (.row rfl rfl) (.cons (.d _) .nil)))
end Go.Proofs.YtlaogbbcipebgaaGreat
