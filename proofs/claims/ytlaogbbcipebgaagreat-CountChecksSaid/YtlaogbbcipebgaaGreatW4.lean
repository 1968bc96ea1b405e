/- What functions of the program compute: plain functions, and the proofs. -/
import Derived.Test.YtlaogbbcipebgaaGreatW3
set_option linter.unusedVariables false
set_option linter.unusedSimpArgs false
open Go Go.Proofs.YtlaogbbcipebgaaGreat.Sh Go.Proofs
namespace Go.Proofs.YtlaogbbcipebgaaGreat
set_option maxRecDepth 100000
set_option maxHeartbeats 40000000
def U3 (F:Nat) (lv:(List E0)) (i:Int):Option Int:=(P3 lv i).bind fun e=>(A1P F e).bind fun rv=>(A2y F rv).bind fun rv2=>if rv2=true then((A7A lv 0 i).bind fun q=>(Y3 F q (fun a0=>X1 F a0 lv i)).bind fun rv3=>if rv3=true then(some 5)else(some 0))else(some 6)
theorem A39 {F lv i r} (h:U3 F lv i=some r):PC Tryz.prog 127 [.arr 9 ((lv).map E0.d),vI i,.v (.func (.func 128) #[] #[])] (vI r):=by
 rw[U3]at h
 refine oW Tryz.func127 ?_
 refine gY 4 R (B8 (E3 (B8 (T1 kR (rU 3 R ?_)))))
 obtain⟨e,ie,h⟩:=H1 h
 refine yE ie R R ?_
 obtain⟨rv,k,h⟩:=H1 h
 refine J5 (A5k k) eK R R R R ?_
 obtain⟨rv2,k2,h⟩:=H1 h
 refine M6 (A2F k2) eK R R R R (tI h ?_) (fI h ?_)
 ·intro c h
  refine rU 2 R (I0 kR (C1 R (gU 2 R ?_)))
  obtain⟨q,iq,h⟩:=H1 h
  refine A6E tb R R R R R R iq R R (A3E R R R R ?_)
  obtain⟨rv3,k3,h⟩:=H1 h
  refine A0t (A49 (f:=(fun a0=>X1 F a0 lv i)) (fc:=[.el 1 [.v (.func (.func 128) #[] #[])] 0 0,.el 1 [.arr 9 ((lv).map E0.d)] 0 0,.el 1 [vI i] 0 0]) (fh:=fun hr=>A41 hr) (fe := .of kR) k3) R .nil eK R R ((.cons (.d (.d _)) (.cons (.fnC (.cons (.d (.ref R (.d _))) (.cons (.d (.ref R (.d _))) (.cons (.d (.ref R (.d _))) .nil)))) .nil))) R .nil R R R ?_
  simp only[List.map_nil,List.append_nil]
  refine X8 (tI h ?_) (fI h ?_)
  ·intro c2 h
   refine eU 1 R (C0 R (gY 1 R (C9 ?_)))
   cases h
   exact f1 6 R
  intro c2 h
  refine eU 1 R (zF (gY 1 R (C9 ?_)))
  cases h
  exact f1 6 R
 intro c h
 refine rU 2 R (I0 kR (C0 R (gY 1 R (C9 ?_))))
 cases h
 exact f1 6 R
def A3d (F:Nat) (p:D5) (a:D2):Option Int:=(A44 F p).bind fun rv=>(A7D F p rv.1 a).bind fun rv2=>if rv2.2<170 then(some rv2.2)else(some 0)
theorem A5F {F p a r} (h:A3d F p a=some r):PC Tryz.prog 131 [D5.d p,D2.d a] (vI r):=by
 rw[A3d]at h
 refine oW Tryz.func131 ?_
 refine gY 3 R (gU 1 R ?_)
 obtain⟨rv,k,h⟩:=H1 h
 refine A2X (A8z k) eK R R R ((.row (.row (.row .nil)))) R R R (eU 6 R (B8 (gU 3 R ?_)))
 obtain⟨rv2,k2,h⟩:=H1 h
 refine A3j (B1k k2) R ((.row (fun _=>rfl) (.row (fun _=>rfl) (.row (fun _=>rfl) .nil)))) eK R R ((dL (.cons (.aggL (dL (.cons (.row R R) (.cons (.row R R) (.cons (.row R R) (dL (dL .nil))))))) (dL .nil)))) R ((.row (.row (.row .nil)))) R R R ?_
 refine eU 6 R (gU 1 R ?_)
 refine Q4 R R R R (tJ h ?_) (lJ h ?_)
 ·intro h
  refine Y9 (C0 R (gY 2 R (C9 ?_)))
  cases h
  exact f1 4 R
 intro h
 refine Y9 (zF (gY 1 R (C9 ?_)))
 cases h
 exact f1 4 R
def A1l (F:Nat) (t:D4) (e:E0) (K:Int→Option Int):Nat→Int→Option Int
 | 0,_=>none
 | n+1,x=>if x<(e.acts.length:Int)then((P3 e.acts x).bind fun e2=>if e2.at_=0 then((A3d F (D5.mk t.N4 t.P5 t.N6 t.S5 t.J3 t.Q7 t.T9) e2).bind fun rv7=>if rv7=0 then(A1l F t e K n (W (x+1)))else(some rv7))else(some 2))else(K x)
def A4K (F:Nat) (t:D4) (e:E0):Option Int:=A1l F t e (fun x=>some 0) F 0
def A5E (F:Nat) (t:D4) (o:Int):Option Int:=(P3 t.steps o).bind fun e=>(U3 F t.steps o).bind fun rv=>if rv=0 then((A2R F o [e.need]).bind fun rv2=>if rv2=true then(some 4)else((A2R F (t.batteries.length:Int) [e.on_,e.use_,e.off]).bind fun rv3=>if rv3=true then(some 4)else((A4R F [e.need,e.on_,e.use_,e.off]).bind fun rv4=>if rv4=true then(some 2)else((Y7 F e.most 0 20000).bind fun rv5=>if rv5=true then(some 7)else((Y7 F e.least 0 e.most).bind fun rv6=>if rv6=true then(some 7)else(if 8<(e.acts.length:Int)then(some 3)else(A4K F t e)))))))else(some rv)
theorem B1C {F t o r} (h:A5E F t o=some r):PC Tryz.prog 65 [D4.d t,vI o] (vI r):=by
 rw[A5E]at h
 refine oW Tryz.func65 ?_
 refine gY 2 R (gU 3 R ?_)
 obtain⟨e,ie,h⟩:=H1 h
 refine yE ie R R (eU 2 R (gU 2 R (I7 tb R (eU 1 R (gU 3 R ?_)))))
 obtain⟨rv,k,h⟩:=H1 h
 refine J5 (A39 k) eK R R R R (eU 1 R (B8 ?_))
 refine W5 (fun zz:Unit=>A4K F t e=some r) (fun zz:Unit=>⟨[(2,rf 0 13),(4,dI 0),(5,rf 1 9)],[bx 13 (.d (D4.d t)),bx 9 (.d (E0.d e))]⟩) ?_ ?_
 ·clear h
  rintro⟨⟩ h
  rw[A4K]at h
  refine B8 (gU 2 R (I7 tb R (eU 1 R (E3 ?_))))
  obtain⟨K3,hK3,h⟩:∃ K,K=_∧A1l F t e K F 0=some r:=⟨_,rfl,h⟩
  refine lW (fun m st=>∃ (x:Int),A1l F t e K3 m x=some r∧st=⟨[(2,rf 0 13),(4,dI 0),(72,.d (.arr 5 ((e.acts).map D2.d))),(73,dI (e.acts.length:Int)),(74,dI x)],[bx 13 (.d (D4.d t))]⟩) ⟨0,h,R⟩ (.vw (κ:=[0]) (vK (.cons R R .nil) R)) ?_
  clear h
  rintro m3 st ⟨x,h,rfl⟩
  cases m3 with
  | zero=>cases(show(none:Option Int)=some r from h)
  | succ m3 =>
  rw[A1l]at h
  refine qG ?_
  refine Q4 R R R R (tJ h ?_) (lJ h ?_)
  ·intro h
   refine Y9 (B8 (zT (B8 (E3 (qG ?_)))))
   obtain⟨e2,ie2,h⟩:=H1 h
   refine yE ie2 R R (eU 2 R (B8 (gU 2 R ?_)))
   refine V5 R R R R (nJ h ?_) (tJ h ?_)
   ·intro h
    refine Y9 (C0 R (gY 1 R (C9 ?_)))
    cases h
    exact f1 4 R
   intro h
   refine Y9 (zF (gU 3 R ?_))
   obtain⟨rv7,k7,h⟩:=H1 h
   refine J5 (A5F k7) eK R R R R (eU 1 R (gU 1 R ?_))
   refine V5 R R R R (nJ h ?_) (tJ h ?_)
   ·intro h
    refine Y9 (C0 R (gY 2 R (C9 ?_)))
    cases h
    exact f1 4 R
   intro h
   refine Y9 (zF (hN 2 R ?_))
   exact bk ⟨(W (x+1)),h,R⟩ (.vw (κ:=[0]) (vK (.cons R R .nil) R))
  intro h
  refine Y9 (B8 (C1 R (N5 (E4 (E4 ?_)))))
  subst hK3
  refine gY 1 R (C9 ?_)
  cases h
  exact f1 4 R
 refine E3 (gU 1 R ?_)
 refine V5 R R R R (nJ h ?_) (tJ h ?_)
 ·intro h
  refine eU 1 R (C0 R (gY 2 R (C9 ?_)))
  cases h
  exact f1 4 R
 intro h
 refine eU 1 R (C1 R (gU 3 R (P7 tb R R R R R R R R R R R R R ?_)))
 obtain⟨rv2,k2,h⟩:=H1 h
 refine A4k (A62 k2) eK R R ((dL (.cons (.row R R) .nil))) R R (tI h ?_) (fI h ?_)
 ·intro c2 h
  refine eU 12 R (C0 R (gY 1 R (C9 ?_)))
  cases h
  exact f1 4 R
 intro c2 h
 refine rU 8 R (P7 tb R R R R R R R R R R R R R ?_)
 obtain⟨rv3,k3,h⟩:=H1 h
 refine A4k (A62 k3) eK R R ((dL (.cons (.row R R) .nil))) R R (tI h ?_) (fI h ?_)
 ·intro c3 h
  refine eU 2 R (C0 R (gY 1 R (C9 ?_)))
  cases h
  exact f1 4 R
 intro c3 h
 refine eU 2 R (C1 R (gU 8 R (P7 tb R R R R R R R R R R R R R ?_)))
 obtain⟨rv4,k4,h⟩:=H1 h
 refine A4k (B0L k4) eK R R ((.cons (.row R R) .nil)) R R (tI h ?_) (fI h ?_)
 ·intro c4 h
  refine eU 1 R (C0 R (gY 1 R (C9 ?_)))
  cases h
  exact f1 4 R
 intro c4 h
 refine eU 1 R (C1 R (gU 2 R ?_))
 obtain⟨rv5,k5,h⟩:=H1 h
 refine M6 (V8 k5) eK R R R R (tI h ?_) (fI h ?_)
 ·intro c5 h
  refine eU 8 R (C0 R (gY 1 R (C9 ?_)))
  cases h
  exact f1 4 R
 intro c5 h
 refine rU 5 R ?_
 obtain⟨rv6,k6,h⟩:=H1 h
 refine M6 (V8 k6) eK R R R R (tI h ?_) (fI h ?_)
 ·intro c6 h
  refine eU 2 R (C0 R (gY 1 R (C9 ?_)))
  cases h
  exact f1 4 R
 intro c6 h
 refine eU 2 R (C1 R (gU 2 R (I7 tb R ?_)))
 refine A4l R R R R (tJ h ?_) (lJ h ?_)
 ·intro h
  refine eU 1 R (C0 R (gY 1 R (C9 ?_)))
  cases h
  exact f1 4 R
 intro h
 refine eU 1 R (zF (D3 (A6 ?_)))
 exact .inl ⟨(),h,.vw (κ:=[0,1]) (vK (.cons R R (.cons R R .nil)) R)⟩
def S4 (F:Nat) (t:D4) (K:Int→Option (Int × Int × Int)):Nat→Int→Option (Int × Int × Int)
 | 0,_=>none
 | n+1,x4=>if x4<(t.points.length:Int)then((P3 t.points x4).bind fun e2=>(Y7 F e2 0 (W ((t.steps.length:Int)-1))).bind fun rv11=>if rv11=true then(some (6,x4,4))else(if 0<x4 then((P3 t.points (W (x4-1))).bind fun e3=>if e2≤e3 then(some (6,x4,2))else(S4 F t K n (W (x4+1))))else(S4 F t K n (W (x4+1)))))else(K x4)
def A0d (F:Nat) (t:D4) (K:Int→Int→Option (Int × Int × Int)):Nat→Int→Int→Option (Int × Int × Int)
 | 0,_,_=>none
 | n+1,rv9,x3=>if x3<(t.steps.length:Int)then((A5E F t x3).bind fun rv10=>if rv10=0 then(A0d F t K n rv10 (W (x3+1)))else(some (5,x3,rv10)))else(K rv9 x3)
def X6 (F:Nat) (t:D4) (K:Int→Int→Option (Int × Int × Int)):Nat→Int→Int→Option (Int × Int × Int)
 | 0,_,_=>none
 | n+1,rv5,x2=>if x2<(t.batteries.length:Int)then((P3 t.batteries x2).bind fun e=>(R7 F t.batteries x2).bind fun rv6=>if rv6=0 then((Y7 F e.charge 1 1000000).bind fun rv7=>if rv7=true then(some (4,x2,7))else((Y7 F e.rate 1 1000).bind fun rv8=>if rv8=true then(some (4,x2,7))else(X6 F t K n rv6 (W (x2+1)))))else(some (4,x2,rv6)))else(K rv5 x2)
def A0e (F:Nat) (t:D4) (K:Int→Int→Option (Int × Int × Int)):Nat→Int→Int→Option (Int × Int × Int)
 | 0,_,_=>none
 | n+1,rv3,x=>if x<(t.stations.length:Int)then((Q6 F t.stations x).bind fun rv4=>if rv4=0 then(A0e F t K n rv4 (W (x+1)))else(some (3,x,rv4)))else(K rv3 x)
def A3Y (F:Nat) (t:D4) (rv:(Int × Int × Int)):Option (Int × Int × Int):=A0e F t (fun rv3 x=>X6 F t (fun rv5 x2=>A0d F t (fun rv9 x3=>S4 F t (fun x4=>(Y7 F t.O8 0 100000).bind fun rv12=>if rv12=true then(some (7,0,7))else((Y7 F t.Q8 0 t.O8).bind fun rv13=>if rv13=true then(some (7,0,7))else(some (0,0,0)))) F 0) F rv5 0) F rv3 0) F rv.2.2 0
def A2o (F:Nat):Option (Int × Int × Int):=some (2,0,3)
def A4P (F:Nat) (t:D4):Option (Int × Int × Int):=(A43 F (D5.mk t.N4 t.P5 t.N6 t.S5 t.J3 t.Q7 t.T9)).bind fun rv=>if rv.2.2=0 then(if 8<(t.stations.length:Int)then(A2o F)else(if 6<(t.batteries.length:Int)then(A2o F)else((Y7 F (t.steps.length:Int) 1 16).bind fun rv2=>if rv2=true then(A2o F)else(A3Y F t rv))))else(some (1,0,rv.2.2))
theorem B0K {F t r} (h:A4P F t=some r):PC Tryz.prog 34 [D4.d t] (.tup [vI r.1,vI r.2.1,vI r.2.2]):=by
 rw[A4P]at h
 refine oW Tryz.func34 ?_
 refine gY 4 R (B8 (gU 2 R ?_))
 obtain⟨rv,k,h⟩:=H1 h
 refine J5 (A7f k) eK R R R R (eU 5 R (gU 1 R ?_))
 refine V5 R R R R (nJ h ?_) (tJ h ?_)
 ·intro h
  refine Y9 (C0 R (gY 4 R (C9 ?_)))
  cases h
  exact f0 R R R (.cons (.tmp 2) (.cons (.tmp 3) (.cons (.tmp 4) .nil)))
 intro h
 refine Y9 (zF (B8 ?_))
 refine W5 (fun zz:Unit=>A3Y F t rv=some r) (fun zz:Unit=>⟨[(1,rf 0 13),(2,dI 0),(3,dI 0),(4,dI rv.2.2)],[bx 13 (.d (D4.d t))]⟩) ?_ ?_
 ·clear h
  rintro⟨⟩ h
  rw[A3Y]at h
  refine B8 (gU 2 R (I7 tb R (eU 1 R (E3 ?_))))
  obtain⟨K3,hK3,h⟩:∃ K,K=_∧A0e F t K F rv.2.2 0=some r:=⟨_,rfl,h⟩
  refine lW (fun m st=>∃ (rv3:Int) (x:Int),A0e F t K3 m rv3 x=some r∧st=⟨[(1,rf 0 13),(2,dI 0),(3,dI 0),(4,dI rv3),(39,dI (t.stations.length:Int)),(40,dI x)],[bx 13 (.d (D4.d t))]⟩) ⟨rv.2.2,0,h,R⟩ (.prn [1,2,3,4,39,40] R) ?_
  clear h
  rintro m3 st ⟨rv3,x,h,rfl⟩
  cases m3 with
  | zero=>cases(show(none:Option (Int × Int × Int))=some r from h)
  | succ m3 =>
  rw[A0e]at h
  refine qG ?_
  refine Q4 R R R R (tJ h ?_) (lJ h ?_)
  ·intro h
   refine Y9 (B8 (zT (B8 (E3 (gY 2 R (gU 3 R ?_))))))
   obtain⟨rv4,k4,h⟩:=H1 h
   refine J5 (A3w k4) eK R R R R (eU 1 R (gU 1 R ?_))
   refine V5 R R R R (nJ h ?_) (tJ h ?_)
   ·intro h
    refine Y9 (C0 R (gY 5 R (C9 ?_)))
    cases h
    exact f0 R R R (.cons (.tmp 2) (.cons (.tmp 3) (.cons (.tmp 4) .nil)))
   intro h
   refine Y9 (zF (hN 2 R ?_))
   exact bk ⟨rv4,(W (x+1)),h,R⟩ (.prn [1,2,3,4,39,40] R)
  intro h
  refine Y9 (B8 (C1 R (N5 (E4 (E4 ?_)))))
  subst hK3
  refine B8 (gU 2 R (I7 tb R (eU 1 R (E3 ?_))))
  obtain⟨K6,hK6,h⟩:∃ K,K=_∧X6 F t K F rv3 0=some r:=⟨_,rfl,h⟩
  refine lW (fun m st=>∃ (rv5:Int) (x2:Int),X6 F t K6 m rv5 x2=some r∧st=⟨[(1,rf 0 13),(2,dI 0),(3,dI 0),(4,dI rv5),(53,.d (.arr 3 ((t.batteries).map D9.d))),(54,dI (t.batteries.length:Int)),(55,dI x2)],[bx 13 (.d (D4.d t))]⟩) ⟨rv3,0,h,R⟩ (.prn [1,2,3,4,53,54,55] R) ?_
  clear h
  rintro m6 st ⟨rv5,x2,h,rfl⟩
  cases m6 with
  | zero=>cases(show(none:Option (Int × Int × Int))=some r from h)
  | succ m6 =>
  rw[X6]at h
  refine qG ?_
  refine Q4 R R R R (tJ h ?_) (lJ h ?_)
  ·intro h
   refine Y9 (B8 (zT (B8 (E3 (gU 1 R ?_)))))
   obtain⟨e,ie,h⟩:=H1 h
   refine yE ie R R (eU 3 R (gU 3 R ?_))
   obtain⟨rv6,k6,h⟩:=H1 h
   refine J5 (A3c k6) eK R R R R (eU 1 R (E3 (gU 1 R ?_)))
   refine V5 R R R R (nJ h ?_) (tJ h ?_)
   ·intro h
    refine eU 1 R (C0 R (gY 5 R (C9 ?_)))
    cases h
    exact f0 R R R (.cons (.tmp 2) (.cons (.tmp 3) (.cons (.tmp 4) .nil)))
   intro h
   refine eU 1 R (C1 R (gU 2 R ?_))
   obtain⟨rv7,k7,h⟩:=H1 h
   refine M6 (V8 k7) eK R R R R (tI h ?_) (fI h ?_)
   ·intro c9 h
    refine eU 6 R (C0 R (gY 4 R (C9 ?_)))
    cases h
    exact f0 R R R (.cons (.tmp 2) (.cons (.tmp 3) (.cons (.tmp 4) .nil)))
   intro c9 h
   refine rU 3 R ?_
   obtain⟨rv8,k8,h⟩:=H1 h
   refine M6 (V8 k8) eK R R R R (tI h ?_) (fI h ?_)
   ·intro c10 h
    refine eU 2 R (C0 R (gY 4 R (C9 ?_)))
    cases h
    exact f0 R R R (.cons (.tmp 2) (.cons (.tmp 3) (.cons (.tmp 4) .nil)))
   intro c10 h
   refine eU 2 R (zF (hN 2 R ?_))
   exact bk ⟨rv6,(W (x2+1)),h,R⟩ (.vw (κ:=[0]) (vK (.cons R R .nil) R))
  intro h
  refine Y9 (B8 (C1 R (N5 (E4 (E4 ?_)))))
  subst hK6
  refine B8 (gU 2 R (I7 tb R (eU 1 R (E3 ?_))))
  obtain⟨K9,hK9,h⟩:∃ K,K=_∧A0d F t K F rv5 0=some r:=⟨_,rfl,h⟩
  refine lW (fun m st=>∃ (rv9:Int) (x3:Int),A0d F t K9 m rv9 x3=some r∧st=⟨[(1,rf 0 13),(2,dI 0),(3,dI 0),(4,dI rv9),(82,dI (t.steps.length:Int)),(83,dI x3)],[bx 13 (.d (D4.d t))]⟩) ⟨rv5,0,h,R⟩ (.prn [1,2,3,4,82,83] R) ?_
  clear h
  rintro m9 st ⟨rv9,x3,h,rfl⟩
  cases m9 with
  | zero=>cases(show(none:Option (Int × Int × Int))=some r from h)
  | succ m9 =>
  rw[A0d]at h
  refine qG ?_
  refine Q4 R R R R (tJ h ?_) (lJ h ?_)
  ·intro h
   refine Y9 (B8 (zT (B8 (E3 (gY 2 R (gU 2 R ?_))))))
   obtain⟨rv10,k10,h⟩:=H1 h
   refine J5 (B1C k10) eK R R R R (eU 1 R (gU 1 R ?_))
   refine V5 R R R R (nJ h ?_) (tJ h ?_)
   ·intro h
    refine Y9 (C0 R (gY 5 R (C9 ?_)))
    cases h
    exact f0 R R R (.cons (.tmp 2) (.cons (.tmp 3) (.cons (.tmp 4) .nil)))
   intro h
   refine Y9 (zF (hN 2 R ?_))
   exact bk ⟨rv10,(W (x3+1)),h,R⟩ (.prn [1,2,3,4,82,83] R)
  intro h
  refine Y9 (B8 (C1 R (N5 (E4 (E4 ?_)))))
  subst hK9
  refine B8 (gU 2 R (I7 tb R (eU 1 R (E3 ?_))))
  obtain⟨K12,hK12,h⟩:∃ K,K=_∧S4 F t K F 0=some r:=⟨_,rfl,h⟩
  refine lW (fun m st=>∃ (x4:Int),S4 F t K12 m x4=some r∧st=⟨[(1,rf 0 13),(2,dI 0),(3,dI 0),(4,dI rv9),(95,.d (aI t.points)),(96,dI (t.points.length:Int)),(97,dI x4)],[bx 13 (.d (D4.d t))]⟩) ⟨0,h,R⟩ (.prn [1,2,3,4,95,96,97] R) ?_
  clear h
  rintro m12 st ⟨x4,h,rfl⟩
  cases m12 with
  | zero=>cases(show(none:Option (Int × Int × Int))=some r from h)
  | succ m12 =>
  rw[S4]at h
  refine qG ?_
  refine Q4 R R R R (tJ h ?_) (lJ h ?_)
  ·intro h
   refine Y9 (B8 (zT (B8 (E3 (gU 1 R ?_)))))
   obtain⟨e2,ie2,h⟩:=H1 h
   refine yE ie2 R R (eU 2 R (E3 (gU 3 R (I7 tb R (rU 1 R ?_)))))
   obtain⟨rv11,k11,h⟩:=H1 h
   refine M6 (V8 k11) eK R R R R (tI h ?_) (fI h ?_)
   ·intro c14 h
    refine eU 1 R (C0 R (gY 4 R (C9 ?_)))
    cases h
    exact f0 R R R (.cons (.tmp 2) (.cons (.tmp 3) (.cons (.tmp 4) .nil)))
   intro c14 h
   refine eU 1 R (C1 R (gU 1 R ?_))
   refine A4l R R R R (tJ h ?_) (lJ h ?_)
   ·intro h
    refine rU 6 R ?_
    obtain⟨e3,ie3,h⟩:=H1 h
    refine yE ie3 R R ?_
    refine B1t R R R R (tJ h ?_) (mJ h ?_)
    ·intro h
     refine eU 2 R (C0 R (gY 4 R (C9 ?_)))
     cases h
     exact f0 R R R (.cons (.tmp 2) (.cons (.tmp 3) (.cons (.tmp 4) .nil)))
    intro h
    refine eU 2 R (zF (hN 2 R ?_))
    exact bk ⟨(W (x4+1)),h,R⟩ (.prn [1,2,3,4,95,96,97] R)
   intro h
   refine eU 11 R (zF (hN 2 R ?_))
   exact bk ⟨(W (x4+1)),h,R⟩ (.prn [1,2,3,4,95,96,97] R)
  intro h
  refine Y9 (B8 (C1 R (N5 (E4 (E4 ?_)))))
  subst hK12
  refine B8 (gU 3 R ?_)
  obtain⟨rv12,k12,h⟩:=H1 h
  refine M6 (V8 k12) eK R R R R (tI h ?_) (fI h ?_)
  ·intro c17 h
   refine eU 9 R (C0 R (gY 3 R (C9 ?_)))
   cases h
   exact f0 R R R (.cons (.tmp 2) (.cons (.tmp 3) (.cons (.tmp 4) .nil)))
  intro c17 h
  refine rU 7 R ?_
  obtain⟨rv13,k13,h⟩:=H1 h
  refine M6 (V8 k13) eK R R R R (tI h ?_) (fI h ?_)
  ·intro c18 h
   refine eU 1 R (C0 R (gY 3 R (C9 ?_)))
   cases h
   exact f0 R R R (.cons (.tmp 2) (.cons (.tmp 3) (.cons (.tmp 4) .nil)))
  intro c18 h
  refine eU 1 R (zF (gY 3 R (C9 ?_)))
  cases h
  exact f0 R R R (.cons (.tmp 2) (.cons (.tmp 3) (.cons (.tmp 4) .nil)))
 refine B8 ?_
 refine W5 (fun zz:Unit=>A2o F=some r) (fun zz:Unit=>⟨[(1,rf 0 13),(2,dI 0),(3,dI 0),(4,dI rv.2.2),(36,dB true)],[bx 13 (.d (D4.d t))]⟩) ?_ ?_
 ·clear h
  rintro⟨⟩ h
  rw[A2o]at h
  refine C0 R (gY 3 R (C9 ?_))
  cases h
  exact f0 R R R (.cons (.tmp 2) (.cons (.tmp 3) (.cons (.tmp 4) .nil)))
 refine hU 2 R (I7 tb R ?_)
 refine A4l R R R R (tJ h ?_) (lJ h ?_)
 ·intro h
  refine nU 12 R ?_
  exact .inl ⟨(),h,.prn [1,2,3,4,36] R⟩
 intro h
 refine rU 3 R (I7 tb R ?_)
 refine A4l R R R R (tJ h ?_) (lJ h ?_)
 ·intro h
  refine nU 7 R ?_
  exact .inl ⟨(),h,.prn [1,2,3,4,36] R⟩
 intro h
 refine rU 4 R (I7 tb R ?_)
 obtain⟨rv2,k2,h⟩:=H1 h
 refine M6 (V8 k2) eK R R R R (tI h ?_) (fI h ?_)
 ·intro c4 h
  refine nU 1 R ?_
  exact .inl ⟨(),h,.prn [1,2,3,4,36] R⟩
 intro c4 h
 refine nU 1 R (.inr (zF (A6 ?_)))
 exact .inl ⟨(),h,.prn [1,2,3,4] R⟩
def A1t (F:Nat) (t:D4) (o:C7):Option Int:=if o.kind=8 then((A3d F (D5.mk t.N4 t.P5 t.N6 t.S5 t.J3 t.Q7 t.T9) (D2.mk o.A04 o.A0D o.A1L o.A0E o.A0F)).bind fun rv4=>some rv4)else(some 0)
def A1u (F:Nat):Option Int:=some 2
def A1v (F:Nat) (t:D4) (o:C7):Option Int:=if o.kind=8 then((A3d F (D5.mk t.N4 t.P5 t.N6 t.S5 t.J3 t.Q7 t.T9) (D2.mk o.A04 o.A0D o.A1L o.A0E o.A0F)).bind fun rv5=>some rv5)else(some 0)
def A3I (F:Nat) (t:D4) (o:C7):Option Int:=(Y7 F o.at_ 0 100000).bind fun rv=>if rv=true then(some 7)else((Y7 F o.kind 1 9).bind fun rv2=>if rv2=true then(some 2)else(if(A2e (M0 (M0 (M0 (M0 (M0 (M0 ([]:List (Int × Int)) 1 (t.steps.length:Int)) 2 (t.steps.length:Int)) 5 (t.stations.length:Int)) 6 (t.stations.length:Int)) 7 (t.points.length:Int)) 9 (t.batteries.length:Int)) o.kind).isSome=true then((Y7 F o.what 0 (W (((A2e (M0 (M0 (M0 (M0 (M0 (M0 ([]:List (Int × Int)) 1 (t.steps.length:Int)) 2 (t.steps.length:Int)) 5 (t.stations.length:Int)) 6 (t.stations.length:Int)) 7 (t.points.length:Int)) 9 (t.batteries.length:Int)) o.kind).getD 0)-1))).bind fun rv3=>if rv3=true then(some 4)else(if o.kind=8 then(if o.kind=8 then(if o.A04=o.at_ then(A1t F t o)else(some 2))else(A1t F t o))else(if(!(D2.beq (D2.mk o.A04 o.A0D o.A1L o.A0E o.A0F) (D2.mk 0 0 0 0 0)))=true then(some 2)else(if o.kind=8 then(if o.A04=o.at_ then(A1t F t o)else(some 2))else(A1t F t o)))))else(if o.what=0 then(if o.kind=8 then(if o.kind=8 then(if o.A04=o.at_ then(A1v F t o)else(A1u F))else(A1v F t o))else(if(!(D2.beq (D2.mk o.A04 o.A0D o.A1L o.A0E o.A0F) (D2.mk 0 0 0 0 0)))=true then(A1u F)else(if o.kind=8 then(if o.A04=o.at_ then(A1v F t o)else(A1u F))else(A1v F t o))))else(A1u F))))
theorem A78 {F t o r} (h:A3I F t o=some r):PC Tryz.prog 80 [D4.d t,C7.d o] (vI r):=by
 rw[A3I]at h
 refine oW Tryz.func80 ?_
 refine gY 3 R (B8 (E3 (gU 2 R ?_)))
 obtain⟨rv,k,h⟩:=H1 h
 refine M6 (V8 k) eK R R R R (tI h ?_) (fI h ?_)
 ·intro c h
  refine eU 1 R (C0 R (gY 1 R (C9 ?_)))
  cases h
  exact f1 4 R
 intro c h
 refine eU 1 R (C1 R (gU 2 R ?_))
 obtain⟨rv2,k2,h⟩:=H1 h
 refine M6 (V8 k2) eK R R R R (tI h ?_) (fI h ?_)
 ·intro c2 h
  refine eU 1 R (C0 R (gY 1 R (C9 ?_)))
  cases h
  exact f1 4 R
 intro c2 h
 refine eU 1 R (zF (qG (A58 R R R (rU 2 R (I7 tb R ?_)))))
 refine A8E (vf:=fun b=>vI b) (v:=(t.steps.length:Int)) (q:=(M0 ([]:List (Int × Int)) 1 (t.steps.length:Int))) ([bx 13 (.d (D4.d t)),bx 8 (.d (C7.d o)),C3C (M0 ([]:List (Int × Int)) 1 (t.steps.length:Int))]) R R R R R R R R R ?_
 refine rU 2 R (I7 tb R ?_)
 refine A8E (vf:=fun b=>vI b) (v:=(t.steps.length:Int)) (q:=(M0 (M0 ([]:List (Int × Int)) 1 (t.steps.length:Int)) 2 (t.steps.length:Int))) ([bx 13 (.d (D4.d t)),bx 8 (.d (C7.d o)),C3C (M0 (M0 ([]:List (Int × Int)) 1 (t.steps.length:Int)) 2 (t.steps.length:Int))]) R R R R R R R R R ?_
 refine rU 2 R (I7 tb R ?_)
 refine A8E (vf:=fun b=>vI b) (v:=(t.stations.length:Int)) (q:=(M0 (M0 (M0 ([]:List (Int × Int)) 1 (t.steps.length:Int)) 2 (t.steps.length:Int)) 5 (t.stations.length:Int))) ([bx 13 (.d (D4.d t)),bx 8 (.d (C7.d o)),C3C (M0 (M0 (M0 ([]:List (Int × Int)) 1 (t.steps.length:Int)) 2 (t.steps.length:Int)) 5 (t.stations.length:Int))]) R R R R R R R R R ?_
 refine rU 2 R (I7 tb R ?_)
 refine A8E (vf:=fun b=>vI b) (v:=(t.stations.length:Int)) (q:=(M0 (M0 (M0 (M0 ([]:List (Int × Int)) 1 (t.steps.length:Int)) 2 (t.steps.length:Int)) 5 (t.stations.length:Int)) 6 (t.stations.length:Int))) ([bx 13 (.d (D4.d t)),bx 8 (.d (C7.d o)),C3C (M0 (M0 (M0 (M0 ([]:List (Int × Int)) 1 (t.steps.length:Int)) 2 (t.steps.length:Int)) 5 (t.stations.length:Int)) 6 (t.stations.length:Int))]) R R R R R R R R R ?_
 refine rU 2 R (I7 tb R ?_)
 refine A8E (vf:=fun b=>vI b) (v:=(t.points.length:Int)) (q:=(M0 (M0 (M0 (M0 (M0 ([]:List (Int × Int)) 1 (t.steps.length:Int)) 2 (t.steps.length:Int)) 5 (t.stations.length:Int)) 6 (t.stations.length:Int)) 7 (t.points.length:Int))) ([bx 13 (.d (D4.d t)),bx 8 (.d (C7.d o)),C3C (M0 (M0 (M0 (M0 (M0 ([]:List (Int × Int)) 1 (t.steps.length:Int)) 2 (t.steps.length:Int)) 5 (t.stations.length:Int)) 6 (t.stations.length:Int)) 7 (t.points.length:Int))]) R R R R R R R R R ?_
 refine rU 2 R (I7 tb R ?_)
 refine A8E (vf:=fun b=>vI b) (v:=(t.batteries.length:Int)) (q:=(M0 (M0 (M0 (M0 (M0 (M0 ([]:List (Int × Int)) 1 (t.steps.length:Int)) 2 (t.steps.length:Int)) 5 (t.stations.length:Int)) 6 (t.stations.length:Int)) 7 (t.points.length:Int)) 9 (t.batteries.length:Int))) ([bx 13 (.d (D4.d t)),bx 8 (.d (C7.d o)),C3C (M0 (M0 (M0 (M0 (M0 (M0 ([]:List (Int × Int)) 1 (t.steps.length:Int)) 2 (t.steps.length:Int)) 5 (t.stations.length:Int)) 6 (t.stations.length:Int)) 7 (t.points.length:Int)) 9 (t.batteries.length:Int))]) R R R R R R R R R ?_
 refine rU 3 R ?_
 refine C0H (vf:=fun b=>vI b) (z0:=0) (u:=vI ((A2e (M0 (M0 (M0 (M0 (M0 (M0 ([]:List (Int × Int)) 1 (t.steps.length:Int)) 2 (t.steps.length:Int)) 5 (t.stations.length:Int)) 6 (t.stations.length:Int)) 7 (t.points.length:Int)) 9 (t.batteries.length:Int)) o.kind).getD 0)) (b:=(A2e (M0 (M0 (M0 (M0 (M0 (M0 ([]:List (Int × Int)) 1 (t.steps.length:Int)) 2 (t.steps.length:Int)) 5 (t.stations.length:Int)) 6 (t.stations.length:Int)) 7 (t.points.length:Int)) 9 (t.batteries.length:Int)) o.kind).isSome) tb R R R R R R R R R R R ?_
 refine rU 3 R ?_
 refine X8 (tI h ?_) (fI h ?_)
 ·intro c3 h
  refine eU 2 R (B8 (E3 (gU 6 R ?_)))
  obtain⟨rv3,k3,h⟩:=H1 h
  refine M6 (V8 k3) eK R R R R (tI h ?_) (fI h ?_)
  ·intro c4 h
   refine eU 2 R (C0 R (gY 1 R (C9 ?_)))
   cases h
   exact f1 4 R
  intro c4 h
  refine eU 2 R (C1 R (B8 ?_))
  refine W5 (fun zz:Unit=>A1t F t o=some r) (fun zz:Unit=>⟨[(2,rf 0 13),(3,rf 1 8),(4,dI 0),(50,dB false)],[bx 13 (.d (D4.d t)),bx 8 (.d (C7.d o))]⟩) ?_ ?_
  ·clear h
   rintro⟨⟩ h
   rw[A1t]at h
   refine C1 R (gU 2 R ?_)
   refine V5 R R R R (nJ h ?_) (tJ h ?_)
   ·intro h
    refine eU 1 R (C0 R (gY 1 R (C9 ?_)))
    cases h
    exact f1 4 R
   intro h
   refine eU 1 R (zF (gU 4 R ?_))
   obtain⟨rv4,k4,h⟩:=H1 h
   refine J5 (A5F k4) eK R R R R (eU 1 R (C9 ?_))
   cases h
   exact f1 4 R
  refine hU 10 R ?_
  refine V5 R R R R (nJ h ?_) (tJ h ?_)
  ·intro h
   refine rU 3 R (S1 (v := .d (.agg [vI 0,vI 0,vI 0,vI 0,vI 0])) tb R R (List.cons_ne_nil _ _) R R R R R R ?_)
   refine B8c (p:=[.int .i64 o.A04,.int .i64 o.A0D,.int .i64 o.A1L,.int .i64 o.A0E,.int .i64 o.A0F]) (q:=[.int .i64 0,.int .i64 0,.int .i64 0,.int .i64 0,.int .i64 0]) R R (fun o1 o2 w=>C04 (D2.mk o.A04 o.A0D o.A1L o.A0E o.A0F) (D2.mk 0 0 0 0 0) o1 o2 w) R R ?_
   refine X8 (tI h ?_) (fI h ?_)
   ·intro c6 h
    refine nU 16 R (.inr (C0 R (gY 1 R (C9 ?_))))
    cases h
    exact f1 4 R
   intro c6 h
   refine rU 5 R ?_
   refine Z3 R R R R (tJ h ?_) (nJ h ?_)
   ·intro h
    refine rU 6 R ?_
    refine V5 R R R R (nJ h ?_) (tJ h ?_)
    ·intro h
     refine nU 3 R (.inr (C0 R (gY 1 R (C9 ?_))))
     cases h
     exact f1 4 R
    intro h
    refine nU 3 R ?_
    exact .inl ⟨(),h,.vw (κ:=[0,1]) (vK (.cons R R (.cons R R .nil)) R)⟩
   intro h
   refine nU 10 R ?_
   exact .inl ⟨(),h,.vw (κ:=[0,1]) (vK (.cons R R (.cons R R .nil)) R)⟩
  intro h
  refine rU 10 R ?_
  refine Z3 R R R R (tJ h ?_) (nJ h ?_)
  ·intro h
   refine rU 6 R ?_
   refine V5 R R R R (nJ h ?_) (tJ h ?_)
   ·intro h
    refine nU 3 R (.inr (C0 R (gY 1 R (C9 ?_))))
    cases h
    exact f1 4 R
   intro h
   refine nU 3 R ?_
   exact .inl ⟨(),h,.vw (κ:=[0,1]) (vK (.cons R R (.cons R R .nil)) R)⟩
  intro h
  refine nU 10 R ?_
  exact .inl ⟨(),h,.vw (κ:=[0,1]) (vK (.cons R R (.cons R R .nil)) R)⟩
 intro c3 h
 refine eU 2 R (B8 (E3 (gY 9 R (C1 R (B8 ?_)))))
 refine W5 (Sum.elim (fun zz:Unit=>A1u F=some r) (fun zz:Unit=>A1v F t o=some r)) (Sum.elim (fun zz:Unit=>⟨[(2,rf 0 13),(3,rf 1 8),(4,dI 0),(50,dB true)],[bx 13 (.d (D4.d t)),bx 8 (.d (C7.d o))]⟩) (fun zz:Unit=>⟨[(2,rf 0 13),(3,rf 1 8),(4,dI 0),(50,dB false)],[bx 13 (.d (D4.d t)),bx 8 (.d (C7.d o))]⟩)) ?_ ?_
 ·clear h
  rintro(⟨⟩ | ⟨⟩) h
  ·dsimp only[Sum.elim]at h ⊢
   rw[A1u]at h
   refine C0 R (gY 1 R (C9 ?_))
   cases h
   exact f1 4 R
  ·dsimp only[Sum.elim]at h ⊢
   rw[A1v]at h
   refine C1 R (gU 2 R ?_)
   refine V5 R R R R (nJ h ?_) (tJ h ?_)
   ·intro h
    refine eU 1 R (C0 R (gY 1 R (C9 ?_)))
    cases h
    exact f1 4 R
   intro h
   refine eU 1 R (zF (gU 4 R ?_))
   obtain⟨rv5,k5,h⟩:=H1 h
   refine J5 (A5F k5) eK R R R R (eU 1 R (C9 ?_))
   cases h
   exact f1 4 R
 refine hU 5 R ?_
 refine V5 R R R R (nJ h ?_) (tJ h ?_)
 ·intro h
  refine nU 26 R ?_
  exact .inl ⟨.inl (),h,.vw (κ:=[0,1]) (vK (.cons R R (.cons R R .nil)) R)⟩
 intro h
 refine rU 4 R ?_
 refine V5 R R R R (nJ h ?_) (tJ h ?_)
 ·intro h
  refine rU 3 R (S1 (v := .d (.agg [vI 0,vI 0,vI 0,vI 0,vI 0])) tb R R (List.cons_ne_nil _ _) R R R R R R ?_)
  refine B8c (p:=[.int .i64 o.A04,.int .i64 o.A0D,.int .i64 o.A1L,.int .i64 o.A0E,.int .i64 o.A0F]) (q:=[.int .i64 0,.int .i64 0,.int .i64 0,.int .i64 0,.int .i64 0]) R R (fun o1 o2 w=>C04 (D2.mk o.A04 o.A0D o.A1L o.A0E o.A0F) (D2.mk 0 0 0 0 0) o1 o2 w) R R ?_
  refine X8 (tI h ?_) (fI h ?_)
  ·intro c14 h
   refine nU 16 R ?_
   exact .inl ⟨.inl (),h,.vw (κ:=[0,1]) (vK (.cons R R (.cons R R .nil)) R)⟩
  intro c14 h
  refine rU 5 R ?_
  refine Z3 R R R R (tJ h ?_) (nJ h ?_)
  ·intro h
   refine rU 6 R ?_
   refine V5 R R R R (nJ h ?_) (tJ h ?_)
   ·intro h
    refine nU 3 R ?_
    exact .inl ⟨.inl (),h,.vw (κ:=[0,1]) (vK (.cons R R (.cons R R .nil)) R)⟩
   intro h
   refine nU 3 R ?_
   exact .inl ⟨.inr (()),h,.vw (κ:=[0,1]) (vK (.cons R R (.cons R R .nil)) R)⟩
  intro h
  refine nU 10 R ?_
  exact .inl ⟨.inr (()),h,.vw (κ:=[0,1]) (vK (.cons R R (.cons R R .nil)) R)⟩
 intro h
 refine rU 10 R ?_
 refine Z3 R R R R (tJ h ?_) (nJ h ?_)
 ·intro h
  refine rU 6 R ?_
  refine V5 R R R R (nJ h ?_) (tJ h ?_)
  ·intro h
   refine nU 3 R ?_
   exact .inl ⟨.inl (),h,.vw (κ:=[0,1]) (vK (.cons R R (.cons R R .nil)) R)⟩
  intro h
  refine nU 3 R ?_
  exact .inl ⟨.inr (()),h,.vw (κ:=[0,1]) (vK (.cons R R (.cons R R .nil)) R)⟩
 intro h
 refine nU 10 R ?_
 exact .inl ⟨.inr (()),h,.vw (κ:=[0,1]) (vK (.cons R R (.cons R R .nil)) R)⟩
def A1r (F:Nat) (t:D4) (K:(List Int)→Int→Option ((Option F7) × Int)):Nat→(List Int)→Int→Option ((Option F7) × Int)
 | 0,_,_=>none
 | n+1,lv,x=>if x<(t.batteries.length:Int)then((P3 t.batteries x).bind fun e=>(A8i lv [e.charge]).bind fun q=>A1r F t K n q (W (x+1)))else(K lv x)
def A4Q (F:Nat) (t:D4):Option ((Option F7) × Int):=(A4P F t).bind fun rv=>if rv.2.2=0 then((A44 F (D5.mk t.N4 t.P5 t.N6 t.S5 t.J3 t.Q7 t.T9)).bind fun rv2=>(A0b F [(-1)] (t.steps.length:Int)).bind fun rv3=>(A0b F [(-1)] (t.steps.length:Int)).bind fun rv4=>A1r F t (fun lv x=>(B1D (t.stations.length:Int)).bind fun q2=>(B1D (t.batteries.length:Int)).bind fun q3=>some ((some (F7.mk t.N4 t.P5 t.N6 t.S5 t.J3 t.Q7 t.T9 t.stations t.batteries t.steps t.points t.Q8 t.O8 0 rv2.1.now rv2.1.zones rv2.1.holder rv2.1.squibs rv2.1.siren rv2.1.storm rv3 rv4 false (List.replicate q2 false) lv (List.replicate q3 false))),0)) F ([]:List Int) 0)else(some (none,rv.2.2))
theorem A7t {F t r} (h:A4Q F t=some r):SCO Tryz.prog 70 (List.map T.d [D4.d t]) [] r.1 (.d (.tup [.v (.pointer none),vI r.2])) (List.map some []) (fun(tt:F7) => .tup [rf 0 26,dI r.2]) (fun(tt:F7)=>List.map some [⟨26,[C5 tt 1 2 3 4 5]⟩,(B7 tt.A1),(B7 tt.A5),(H7 tt.B1),(B7 tt.A7),(H7 tt.B0)]):=by
 rw[A4Q]at h
 refine oW Tryz.func70 ?_
 refine gY 3 R (B8 (gU 1 R ?_))
 obtain⟨rv,k,h⟩:=H1 h
 refine J5 (B0K k) eK R R R R (eU 7 R (gU 1 R ?_))
 refine V5 R R R R (nJ h ?_) (tJ h ?_)
 ·intro h
  refine Y9 (C0 R (gY 3 R (C9 (B2 ?_))))
  cases h
  exact fS [] (.inl ⟨R,R,R⟩) R (.cons (.tmp 2) (.cons (.tmp 3) .nil)) (v0 R)
 intro h
 refine Y9 (zF (gU 1 R ?_))
 refine S1 (v := .d (.agg [.arr 8 ((t.N4).map F6.d),.arr 2 ((t.P5).map G6.d),.arr 2 ((t.N6).map E2.d),.arr 1 ((t.S5).map vS),.arr 6 ((t.J3).map D1.d),vI t.Q7,vI t.T9,.arr 1 ((t.stations).map vS),.arr 3 ((t.batteries).map D9.d),.arr 9 ((t.steps).map E0.d),aI t.points,vI t.Q8,vI t.O8,vI 0,vI 0,.v (.slice none 0 0),.v (.slice none 0 0),.v (.slice none 0 0),vI 0,vB false,.v (.slice none 0 0),.v (.slice none 0 0),vB false,.v (.slice none 0 0),.v (.slice none 0 0),.v (.slice none 0 0)])) tb R R (List.cons_ne_nil _ _) kR kR kR kR R R ?_
 refine eU 2 R (gU 3 R ?_)
 obtain⟨rv2,k2,h⟩:=H1 h
 refine J5 (B2T k2) eK R R R R (eU 7 R (B8 (T1 kR (rU 2 R (P7 tb R R R R R R R R R R R R R (rU 2 R (I7 tb R ?_)))))))
 obtain⟨rv3,k3,h⟩:=H1 h
 refine A3j (A06 k3) R ((.row (fun _=>rfl) .nil)) eK R R ((.cons (.row R R) (dL .nil))) R ((.row .nil)) R R R ?_
 refine P7 tb R R R R R R R R R R R R R (rU 2 R (I7 tb R ?_))
 obtain⟨rv4,k4,h⟩:=H1 h
 refine A3j (A06 k4) R ((.row (fun _=>rfl) .nil)) eK R R ((.cons (.row R R) (dL .nil))) R ((.row .nil)) R R R ?_
 refine rU 8 R (I0 kR (B8 (gU 2 R (I7 tb R (eU 1 R (E3 ?_))))))
 refine SW.own (ts':=[(1,rf 0 13),(2,.d (.v (.pointer none))),(3,dI 0),(7,rf 1 26),(51,.d (.arr 3 ((t.batteries).map D9.d))),(52,dI (t.batteries.length:Int)),(53,dI 0)]) (L':=[bx 13 (.d (D4.d t)),bx 26 (.agg [.d (.arr 8 ((t.N4).map F6.d)),.d (.arr 2 ((t.P5).map G6.d)),.d (.arr 2 ((t.N6).map E2.d)),.d (.arr 1 ((t.S5).map vS)),.d (.arr 6 ((t.J3).map D1.d)),dI t.Q7,dI t.T9,.d (.arr 1 ((t.stations).map vS)),.d (.arr 3 ((t.batteries).map D9.d)),.d (.arr 9 ((t.steps).map E0.d)),.d (aI t.points),dI t.Q8,dI t.O8,dI 0,dI rv2.1.now,.d (aI rv2.1.zones),.d (aI rv2.1.holder),.d (aI rv2.1.squibs),dI rv2.1.siren,dB rv2.1.storm,.row 3 1 0 (rv3).length,.row 5 1 0 (rv4).length,dB false,.d (.v (.slice none 0 0)),.row 6 1 0 (([]:List Int)).length,.d (.v (.slice none 0 0))]),B0u [(-1)],B0u rv3,B0u [(-1)],B0u rv4]) 1 R R (.cons (.same _) (.cons (.same _) (.cons (.same _) (.cons (.same _) (.cons (.same _) (.cons (.same _) (.cons (.same _) .nil))))))) (.same (.cons R (.cons (.aggL (.cons (.same _) (.cons (.same _) (.cons (.same _) (.cons (.same _) (.cons (.same _) (.cons (.same _) (.cons (.same _) (.cons (.same _) (.cons (.same _) (.cons (.same _) (.cons (.same _) (.cons (.same _) (.cons (.same _) (.cons (.same _) (.cons (.same _) (.cons (.same _) (.cons (.same _) (.cons (.same _) (.cons (.same _) (.cons (.same _) (.cons (.same _) (.cons (.same _) (.cons (.same _) (.cons (.same _) (.cons .nil (.cons (.same _) .nil))))))))))))))))))))))))))) .nil) (.same (.same (.same (.same .nil)))))) ?_
 simp only[List.cons_append,List.nil_append]
 obtain⟨K4,hK4,h⟩:∃ K,K=_∧A1r F t K F ([]:List Int) 0=some r:=⟨_,rfl,h⟩
 refine lW (fun m st=>∃ (lv:(List Int)) (x:Int),A1r F t K4 m lv x=some r∧st=⟨[(1,rf 0 13),(2,.d (.v (.pointer none))),(3,dI 0),(7,rf 1 26),(51,.d (.arr 3 ((t.batteries).map D9.d))),(52,dI (t.batteries.length:Int)),(53,dI x)],[bx 13 (.d (D4.d t)),bx 26 (.agg [.d (.arr 8 ((t.N4).map F6.d)),.d (.arr 2 ((t.P5).map G6.d)),.d (.arr 2 ((t.N6).map E2.d)),.d (.arr 1 ((t.S5).map vS)),.d (.arr 6 ((t.J3).map D1.d)),dI t.Q7,dI t.T9,.d (.arr 1 ((t.stations).map vS)),.d (.arr 3 ((t.batteries).map D9.d)),.d (.arr 9 ((t.steps).map E0.d)),.d (aI t.points),dI t.Q8,dI t.O8,dI 0,dI rv2.1.now,.d (aI rv2.1.zones),.d (aI rv2.1.holder),.d (aI rv2.1.squibs),dI rv2.1.siren,dB rv2.1.storm,.row 2 1 0 (rv3).length,.row 3 1 0 (rv4).length,dB false,.d (.v (.slice none 0 0)),.row 4 1 0 (lv).length,.d (.v (.slice none 0 0))]),B0u rv3,B0u rv4,B0u lv]⟩) ⟨([]:List Int),0,h,R⟩ (.vw (κ:=[0,1,3,5,6]) (vK (.cons R R (.cons R R C1o)) R)) ?_
 clear h
 rintro m4 st ⟨lv,x,h,rfl⟩
 cases m4 with
 | zero=>cases(show(none:Option ((Option F7) × Int))=some r from h)
 | succ m4 =>
 rw[A1r]at h
 refine qG ?_
 refine Q4 R R R R (tJ h ?_) (lJ h ?_)
 ·intro h
  refine Y9 (B8 (zT (B8 (E3 (qG ?_)))))
  obtain⟨e,ie,h⟩:=H1 h
  refine yE ie R R (eU 2 R (T1 kR (rU 8 R (P7 tb R R R R R R R R R R R R R ?_))))
  obtain⟨q,iq,h⟩:=H1 h
  refine B2k (g:=vI) (w:=lv) (v:=[e.charge]) ([bx 13 (.d (D4.d t)),bx 26 (.agg [.d (.arr 8 ((t.N4).map F6.d)),.d (.arr 2 ((t.P5).map G6.d)),.d (.arr 2 ((t.N6).map E2.d)),.d (.arr 1 ((t.S5).map vS)),.d (.arr 6 ((t.J3).map D1.d)),dI t.Q7,dI t.T9,.d (.arr 1 ((t.stations).map vS)),.d (.arr 3 ((t.batteries).map D9.d)),.d (.arr 9 ((t.steps).map E0.d)),.d (aI t.points),dI t.Q8,dI t.O8,dI 0,dI rv2.1.now,.d (aI rv2.1.zones),.d (aI rv2.1.holder),.d (aI rv2.1.squibs),dI rv2.1.siren,dB rv2.1.storm,.row 2 1 0 (rv3).length,.row 3 1 0 (rv4).length,dB false,.d (.v (.slice none 0 0)),.row 4 1 0 (lv).length,.d (.v (.slice none 0 0))]),B0u rv3,B0u rv4,none,bx 3 (.d (D9.d e)),B0u [e.charge]]) tb R R R R R R R R R R R iq R R R R R ?_
  refine rU 4 R (I0 kR (hN 2 R ?_))
  exact bk ⟨q,(W (x+1)),h,R⟩ (.vw (κ:=[0,1,2,3,7]) (vK (.cons R R (.cons R R C1o)) R))
 intro h
 refine Y9 (B8 (C1 R (N5 (E4 (E4 ?_)))))
 subst hK4
 refine B8 (T1 kR (rU 4 R (I7 tb R ?_)))
 obtain⟨q2,iq2,h⟩:=H1 h
 refine B00 (v:=false) (g:=vB) tb R R R R R R R ((A6i iq2).1) ((A6i iq2).2) R R R R (rU 2 R (I7 tb R ?_))
 obtain⟨q3,iq3,h⟩:=H1 h
 refine B00 (v:=false) (g:=vB) tb R R R R R R R ((A6i iq3).1) ((A6i iq3).2) R R R R (rU 8 R (I0 kR (gY 3 R (C9 ?_))))
 cases h
 exact fS [1,2,3,5,4,6] (.inr ⟨_,R,R,R⟩) R (.cons (.tmp 2) (.cons (.tmp 3) .nil)) (vK (.cons R R B9x) R)
def A0v (F:Nat) (s:(List Bool)):Option (List Bool):=(B26 ([]:List Bool) s).bind fun q=>some q
theorem A2T {F s r} (h:A0v F s=some r):SCR Tryz.prog 171 (List.map T.d [.arr 1 ((s).map vB)]) [] (.row 0 1 0 (r).length) (List.map some [(H7 r)]):=by
 rw[A0v]at h
 refine oW Tryz.func171 ?_
 cases s with
 | nil =>
  refine SW.raw 0 1 R fun ad cap=>?_
  cases ad with
  | none =>
   replace h:some ([]:List Bool)=some r:=by simpa[A8i,B26]using h
   refine gY 1 R (B8 (gU 1 R (B4l (by intro o a n cap w;cases a<;>cases o<;>simp[go_sem,eqGuard]<;>rfl) R R R (Y9 (C0 R ?_)))))
   refine SW.unraw 0 1 R ?_
   refine SW.unraw 3 1 R ?_
   refine gY 1 R ?_
   refine SW.own (ts':=[(2,.row 0 1 0 (([]:List Bool)).length)]) (L':=[]) 1 R R (.cons .nil .nil) .nil ?_
   simp only[List.cons_append,List.nil_append]
   refine C9 ?_
   cases h
   exact f2 [0] C23 R (.cons (.tmp 2) .nil) R
  | some ad =>
   refine gY 1 R (B8 (gU 1 R (B4k (by intro o a n cap w;cases a<;>cases o<;>simp[go_sem,eqGuard]<;>rfl) R R R (Y9 (C1 R ?_)))))
   refine SW.unraw 0 1 R ?_
   refine SW.unraw 3 1 R ?_
   refine D7 (qG (P7 tb R R R R R R R R R R R R R (rU 1 R ?_)))
   obtain⟨q,iq,h⟩:=H1 h
   refine B3c (g:=vB) (w:=([]:List Bool)) (v:=([]:List Bool)) ([none]) tb R R R R R R R R (by intro _;exact R) iq R R R R R (eU 1 R (C9 ?_))
   cases h
   exact f2 [1] C23 R (.cons (.tmp 2) .nil) R
 | cons x0 s =>
  refine gY 1 R (B8 (gU 1 R (B4j (by intro o a n cap w;cases a<;>cases o<;>simp[go_sem,eqGuard]<;>rfl) R R R (Y9 (zF (qG (P7 tb R R R R R R R R R R R R R (rU 1 R ?_))))))))
  obtain⟨q,iq,h⟩:=H1 h
  refine B3c (g:=vB) (w:=([]:List Bool)) (v:=(x0::s)) ([none]) tb R R R R R R R R (by intro _;exact R) iq R R R R R (eU 1 R (C9 ?_))
  cases h
  exact f2 [1] C23 R (.cons (.tmp 2) .nil) R
theorem B4y {F s r} (h:A0v F s=some r):PC Tryz.prog 171 [.arr 1 ((s).map vB)] (.arr 1 ((r).map vB)):=(A2T h).toPC (.row rfl rfl)
def V7 (F:Nat) (s:(List Bool)) (v:Bool) (K:Int→Option Int):Nat→Int→Option Int
 | 0,_=>none
 | n+1,x=>if x<(s.length:Int)then((P3 s x).bind fun e=>if(v==e)=true then(some x)else(V7 F s v K n (W (x+1))))else(K x)
def A2Y (F:Nat) (s:(List Bool)) (v:Bool):Option Int:=V7 F s v (fun x=>some (-1)) F 0
theorem A7L {F s v r} (h:A2Y F s v=some r):PC Tryz.prog 230 [.arr 1 ((s).map vB),vB v] (vI r):=by
 rw[A2Y]at h
 refine oW Tryz.func230 ?_
 refine gY 1 R (B8 (gU 1 R (I7 tb R (eU 1 R (E3 ?_)))))
 obtain⟨K2,hK2,h⟩:∃ K,K=_∧V7 F s v K F 0=some r:=⟨_,rfl,h⟩
 refine lW (fun m st=>∃ (x:Int),V7 F s v K2 m x=some r∧st=⟨[(0,.d (.arr 1 ((s).map vB))),(1,dB v),(4,dI 0),(7,dI (s.length:Int)),(8,dI x)],[]⟩) ⟨0,h,R⟩ (.prn [0,1,4,7,8] R) ?_
 clear h
 rintro m2 st ⟨x,h,rfl⟩
 cases m2 with
 | zero=>cases(show(none:Option Int)=some r from h)
 | succ m2 =>
 rw[V7]at h
 refine qG ?_
 refine Q4 R R R R (tJ h ?_) (lJ h ?_)
 ·intro h
  refine Y9 (B8 (zT (B8 (E3 (gY 2 R (gU 3 R ?_))))))
  obtain⟨e,ie,h⟩:=H1 h
  refine yE ie R R (B6K R R R R R ?_)
  refine X8 (tI h ?_) (fI h ?_)
  ·intro c2 h
   refine Y9 (C0 R (gY 2 R (C9 ?_)))
   cases h
   exact f1 4 R
  intro c2 h
  refine Y9 (zF (hN 2 R ?_))
  exact bk ⟨(W (x+1)),h,R⟩ (.prn [0,1,4,7,8] R)
 intro h
 refine Y9 (B8 (C1 R (N5 (E4 (E4 ?_)))))
 subst hK2
 refine gY 1 R (C9 ?_)
 cases h
 exact f1 4 R
def A0H (F:Nat) (s:(List Bool)) (v:Bool):Option Bool:=(A2Y F s v).bind fun rv=>some (decide (0≤rv))
theorem A6J {F s v r} (h:A0H F s v=some r):PC Tryz.prog 213 [.arr 1 ((s).map vB),vB v] (vB r):=by
 rw[A0H]at h
 refine oW Tryz.func213 ?_
 refine gY 1 R (gU 2 R ?_)
 obtain⟨rv,k,h⟩:=H1 h
 refine J5 (A7L k) eK R R R R (A3k R R R R (eU 1 R (C9 ?_)))
 cases h
 exact f1 4 R
def A0Y (F:Nat) (d:F7):Option F7:=(T3 F d.A1).bind fun rv=>(T3 F d.A5).bind fun rv2=>(T3 F d.A7).bind fun rv3=>(A0v F d.B1).bind fun rv4=>(A0v F d.B0).bind fun rv5=>some {d with A1:=rv,A5:=rv2,B1:=rv4,A7:=rv3,B0:=rv5}
theorem A61 {F d r} (h:A0Y F d=some r):SCR Tryz.prog 98 [rf 0 26] (B6X d []) (rf 6 26) (B6X d [bx 26 (C5 r 7 8 9 10 11),B0u r.A1,B0u r.A5,B9r r.B1,B0u r.A7,B9r r.B0]):=by
 rw[A0Y]at h
 refine oW Tryz.func98 ?_
 refine gY 1 R (gY 5 R (B8 (T1 kR (rU 3 R ?_))))
 obtain⟨rv,k,h⟩:=H1 h
 refine A3j (Y2 k) R ((.row (fun _=>rfl) .nil)) eK R R ((.cons (.row R R) .nil)) R ((.row .nil)) R R R ?_
 refine rU 3 R ?_
 obtain⟨rv2,k2,h⟩:=H1 h
 refine A3j (Y2 k2) R ((.row (fun _=>rfl) .nil)) eK R R ((.cons (.row R R) .nil)) R ((.row .nil)) R R R ?_
 refine rU 3 R ?_
 obtain⟨rv3,k3,h⟩:=H1 h
 refine A3j (Y2 k3) R ((.row (fun _=>rfl) .nil)) eK R R ((.cons (.row R R) .nil)) R ((.row .nil)) R R R ?_
 refine rU 9 R (I0 kR (B8 (T1 kR (rU 3 R ?_))))
 obtain⟨rv4,k4,h⟩:=H1 h
 refine A3j (A2T k4) R ((.row (fun _=>rfl) .nil)) eK R R ((.cons (.row R R) .nil)) R ((.row .nil)) R R R ?_
 refine rU 3 R ?_
 obtain⟨rv5,k5,h⟩:=H1 h
 refine A3j (A2T k5) R ((.row (fun _=>rfl) .nil)) eK R R ((.cons (.row R R) .nil)) R ((.row .nil)) R R R ?_
 refine rU 6 R (I0 kR (gY 1 R (C9 ?_)))
 cases h
 exact f2 [0,1,2,3,4,5,6,7,8,10,9,11] (.cons R R (.row R (.row R (.row R (.row R (.row R (.cons R R B9x))))))) R (.cons (.tmp 2) .nil) R
def T6 (F:Nat) (d:F7) (tick:Int) (K:(List Int)→Int→Option F7):Nat→(List Int)→Int→Option F7
 | 0,_,_=>none
 | n+1,d2,x=>if x<(d.E7.length:Int)then((P3 d.E7 x).bind fun e=>(P3 d.B0 x).bind fun e2=>if e2=true then((P3 d2 x).bind fun e3=>(A5g d2 x (max 0 (W (e3-(W ((W (tick-d.H6))*e.rate)))))).bind fun d3=>T6 F d tick K n d3 (W (x+1)))else(T6 F d tick K n d2 (W (x+1))))else(K d2 x)
def A2V (F:Nat) (d:F7) (tick:Int):Option F7:=T6 F d tick (fun d2 x=>some {d with H6:=tick,A7:=d2}) F d.A7 0
theorem A7z {F d tick r} (h:A2V F d tick=some r):SCR Tryz.prog 99 [rf 0 26,dI tick] (B6X d []) (.d (.tup [])) (B6X r []):=by
 rw[A2V]at h
 refine oW Tryz.func99 ?_
 refine B8 (gU 5 R (I7 tb R (eU 1 R (E3 ?_))))
 obtain⟨K3,hK3,h⟩:∃ K,K=_∧T6 F d tick K F d.A7 0=some r:=⟨_,rfl,h⟩
 refine lW (fun m st=>∃ (d2:(List Int)) (x:Int),T6 F d tick K3 m d2 x=some r∧st=⟨[(0,rf 0 26),(1,dI tick),(10,.d (.arr 3 ((d.E7).map D9.d))),(11,dI (d.E7.length:Int)),(12,dI x)],[bx 26 (C5 {d with A7:=d2} 1 2 3 4 5),B0u d.A1,B0u d.A5,B9r d.B1,B0u d2,B9r d.B0]⟩) ⟨d.A7,0,h,R⟩ (.prn [0,1,10,11,12] R) ?_
 clear h
 rintro m3 st ⟨d2,x,h,rfl⟩
 cases m3 with
 | zero=>cases(show(none:Option F7)=some r from h)
 | succ m3 =>
 rw[T6]at h
 refine qG ?_
 refine Q4 R R R R (tJ h ?_) (lJ h ?_)
 ·intro h
  refine Y9 (B8 (zT (B8 (E3 (gU 1 R ?_)))))
  obtain⟨e,ie,h⟩:=H1 h
  refine yE ie R R (eU 3 R (gU 6 R ?_))
  obtain⟨e2,ie2,h⟩:=H1 h
  refine Y1 tb R R R R R R (F0 ie2) (ix1 ie2) R R ?_
  refine A15 (y:=vB e2) tb R R R R (U5 (g:=fun a=>T.d (vB a)) ie2) R R R R ?_
  refine X8 (tI h ?_) (fI h ?_)
  ·intro c2 h
   refine Y9 (C0 R (T1 kR (rU 12 R ?_)))
   obtain⟨e3,ie3,h⟩:=H1 h
   refine Y1 tb R R R R R R (F0 ie3) (ix1 ie3) R R ?_
   refine A15 (y:=vI e3) tb R R R R (U5 (g:=fun a=>T.d (vI a)) ie3) R R R R ?_
   refine rU 11 R (B3f R R R R (Y1 tb R R R R R R (F0 ie3) (ix1 ie3) R R ?_))
   obtain⟨d3,id3,h⟩:=H1 h
   refine A5d (a':=((max 0 (W (e3-(W ((W (tick-d.H6))*e.rate))))):Int)) tb R R R R ie3 R R R R id3 R R ?_
   dsimp only[List.set_cons_zero,List.set_cons_succ,J2,C6,A0h,C5]
   first | rw[A2a id3] | skip
   refine I0 kR (hN 2 R ?_)
   exact bk ⟨d3,(W (x+1)),h,R⟩ (.vw (κ:=[0,1,2,3,4,5]) (vK (.cons R R B9x) R))
  intro c2 h
  refine Y9 (zF (hN 2 R ?_))
  exact bk ⟨d2,(W (x+1)),h,R⟩ (.vw (κ:=[0,1,2,3,4,5]) (vK (.cons R R B9x) R))
 intro h
 refine Y9 (B8 (C1 R (N5 (E4 (E4 ?_)))))
 subst hK3
 refine hE 6 R ?_
 cases h
 exact A1R (fS [0,1,2,3,4,5] ⟨R,R⟩ R .nil (vK (.cons R R B9x) R))
def P4 (F:Nat) (is:Bool) (why:Int):Option (Except Int Unit):=if is=true then(some (.ok ()))else(some (.error why))
theorem G1 {F is why r} (h:P4 F is why=some r):SCX Tryz.prog 97 [dB is,dI why] [] r 43 (fun(a:Unit) => .d (.tup [])) (fun(a:Unit)=>[]):=by
 rw[P4]at h
 refine oW Tryz.func97 ?_
 refine gU 1 R ?_
 refine X8 (tI h ?_) (fI h ?_)
 ·intro c h
  refine eU 1 R (zF ?_)
  cases h
  exact A1R (fS [] (.inl ⟨_,R,R,R⟩) R .nil (v0 R))
 intro c h
 refine eU 1 R (C0 R (X0 (rU 1 R (B5T tb R R R R R (T2 ?_)))))
 (with_reducible apply B2d);(iterate 2 exact rfl)
 cases h
 exact M3 (L:=[]) (κ:=[]) (v0 R) (.inr ⟨_,R,R⟩)
def Z4 (F:Nat) (d:F7) (x:E0):Option (Except Int F7):=if x.poll=true then((A0H F d.B1 false).bind fun rv=>(P4 F (!rv) 184).bind fun rv2=>exE rv2 (fun x2=>some (.error x2)) (fun v=>some (.ok d)))else((P4 F true 184).bind fun rv3=>exE rv3 (fun x3=>some (.error x3)) (fun v2=>some (.ok d)))
theorem A0J {F d x r} (h:Z4 F d x=some r):SCX Tryz.prog 172 [rf 0 26,.d (E0.d x)] (B6X d []) r 43 (fun(a:F7) => .d (.tup [])) (fun(a:F7)=>(B6X a [])):=by
 rw[Z4]at h
 refine oW Tryz.func172 ?_
 refine gY 1 R (X0 (rU 2 R ?_))
 refine X8 (tI h ?_) (fI h ?_)
 ·intro c h
  refine rU 7 R ?_
  obtain⟨rv,k,h⟩:=H1 h
  refine A19 (A6J k) R eK R R ((.cons (.row R R) (dL .nil))) R R (rU 2 R ?_)
  obtain⟨rv2,k2,h⟩:=H1 h
  rcases eX h with⟨x2,nv,h⟩ | ⟨v,nv,h⟩
  ·refine T2 (H8 [] ((G1 k2).err nv) R eK R (.inl ⟨R,R,R⟩) R R R R .nil R ?_)
   intro cnt
   cases h
   exact M3 (L:=B6X d []) (κ:=[0,1,2,3,4,5]) (vK (.cons R R B9x) R) (.inr ⟨_,R,R⟩)
  refine cO [] ((G1 k2).ok nv) eK .nil R .nil .nil R (R2 ?_)
  cases h
  exact A1R (fS [0,1,2,3,4,5] (.inl ⟨_,R,R,R⟩) R .nil (vK (.cons R R B9x) R))
 intro c h
 refine rU 10 R ?_
 obtain⟨rv3,k3,h⟩:=H1 h
 rcases eX h with⟨x3,nv2,h⟩ | ⟨v2,nv2,h⟩
 ·refine T2 (H8 [] ((G1 k3).err nv2) R eK R (.inl ⟨R,R,R⟩) R R R R .nil R ?_)
  intro cnt
  cases h
  exact M3 (L:=B6X d []) (κ:=[0,1,2,3,4,5]) (vK (.cons R R B9x) R) (.inr ⟨_,R,R⟩)
 refine cO [] ((G1 k3).ok nv2) eK .nil R .nil .nil R (R2 ?_)
 cases h
 exact A1R (fS [0,1,2,3,4,5] (.inl ⟨_,R,R,R⟩) R .nil (vK (.cons R R B9x) R))
def Q5 (F:Nat) (d:F7) (x:E0) (others:(List Int)) (K:Int→Option (Except Int F7)):Nat→Int→Option (Except Int F7)
 | 0,_=>none
 | n+1,x2=>if x2<(x.use_.length:Int)then((P3 x.use_ x2).bind fun e=>(P3 d.A7 e).bind fun e2=>if 0<e2 then((P3 d.B0 e).bind fun e3=>if e3=true then((P4 F true 185).bind fun rv=>exE rv (fun x3=>some (.error x3)) (fun v=>Q5 F d x others K n (W (x2+1))))else((S9 F others e).bind fun rv2=>(P4 F rv2 185).bind fun rv3=>exE rv3 (fun x4=>some (.error x4)) (fun v2=>Q5 F d x others K n (W (x2+1)))))else((P4 F false 185).bind fun rv4=>exE rv4 (fun x5=>some (.error x5)) (fun v3=>none)))else(K x2)
def X7 (F:Nat) (d:F7) (x:E0) (others:(List Int)):Option (Except Int F7):=Q5 F d x others (fun x2=>some (.ok d)) F 0
theorem A3v {F d x others r} (h:X7 F d x others=some r):SCX Tryz.prog 173 [rf 0 26,.d (E0.d x),.d (aI others)] (B6X d []) r 43 (fun(a:F7) => .d (.tup [])) (fun(a:F7)=>(B6X a [])):=by
 rw[X7]at h
 refine oW Tryz.func173 ?_
 refine gY 1 R (gU 2 R (I7 tb R (eU 1 R (E3 ?_))))
 obtain⟨K2,hK2,h⟩:∃ K,K=_∧Q5 F d x others K F 0=some r:=⟨_,rfl,h⟩
 refine lW (fun m st=>∃ (x2:Int),Q5 F d x others K2 m x2=some r∧st=⟨[(0,rf 0 26),(2,.d (aI others)),(9,.d (aI x.use_)),(10,dI (x.use_.length:Int)),(11,dI x2)],B6X d []⟩) ⟨0,h,R⟩ (.vw (κ:=[0,1,2,3,4,5]) (vK (.cons R R B9x) R)) ?_
 clear h
 rintro m2 st ⟨x2,h,rfl⟩
 cases m2 with
 | zero=>cases(show(none:Option (Except Int F7))=some r from h)
 | succ m2 =>
 rw[Q5]at h
 refine qG ?_
 refine Q4 R R R R (tJ h ?_) (lJ h ?_)
 ·intro h
  refine Y9 (B8 (zT (B8 (E3 (qG ?_)))))
  obtain⟨e,ie,h⟩:=H1 h
  refine yE ie R R (eU 1 R (X0 (rU 6 R ?_)))
  obtain⟨e2,ie2,h⟩:=H1 h
  refine Y1 tb R R R R R R (F0 ie2) (ix1 ie2) R R ?_
  refine A15 (y:=vI e2) tb R R R R (U5 (g:=fun a=>T.d (vI a)) ie2) R R R R ?_
  refine A4l R R R R (tJ h ?_) (lJ h ?_)
  ·intro h
   refine rU 7 R ?_
   obtain⟨e3,ie3,h⟩:=H1 h
   refine Y1 tb R R R R R R (F0 ie3) (ix1 ie3) R R ?_
   refine A15 (y:=vB e3) tb R R R R (U5 (g:=fun a=>T.d (vB a)) ie3) R R R R ?_
   refine X8 (tI h ?_) (fI h ?_)
   ·intro c3 h
    refine rU 6 R ?_
    obtain⟨rv,k,h⟩:=H1 h
    rcases eX h with⟨x3,nv,h⟩ | ⟨v,nv,h⟩
    ·refine T2 (H8 [] ((G1 k).err nv) R eK R (.inl ⟨R,R,R⟩) R R R R .nil R ?_)
     intro cnt
     refine Q0 (E9 (E9 (Q0 ?_)))
     cases h
     exact M3 (L:=B6X d []) (κ:=[0,1,2,3,4,5]) (vK (.cons R R B9x) R) (.inr ⟨_,R,R⟩)
    refine cO [] ((G1 k).ok nv) eK .nil R .nil .nil R (R2 (hN 2 R ?_))
    exact bk ⟨(W (x2+1)),h,R⟩ (.prn [0,2,9,10,11] R)
   intro c3 h
   refine rU 3 R ?_
   obtain⟨rv2,k2,h⟩:=H1 h
   refine J5 (A1g k2) eK R R R R (rU 2 R ?_)
   obtain⟨rv3,k3,h⟩:=H1 h
   rcases eX h with⟨x4,nv2,h⟩ | ⟨v2,nv2,h⟩
   ·refine T2 (H8 [] ((G1 k3).err nv2) R eK R (.inl ⟨R,R,R⟩) R R R R .nil R ?_)
    intro cnt
    refine Q0 (E9 (E9 (Q0 ?_)))
    cases h
    exact M3 (L:=B6X d []) (κ:=[0,1,2,3,4,5]) (vK (.cons R R B9x) R) (.inr ⟨_,R,R⟩)
   refine cO [] ((G1 k3).ok nv2) eK .nil R .nil .nil R (R2 (hN 2 R ?_))
   exact bk ⟨(W (x2+1)),h,R⟩ (.prn [0,2,9,10,11] R)
  intro h
  refine rU 15 R ?_
  obtain⟨rv4,k4,h⟩:=H1 h
  rcases eX h with⟨x5,nv3,h⟩ | ⟨v3,nv3,h⟩
  ·refine T2 (H8 [] ((G1 k4).err nv3) R eK R (.inl ⟨R,R,R⟩) R R R R .nil R ?_)
   intro cnt
   refine Q0 (E9 (E9 (Q0 ?_)))
   cases h
   exact M3 (L:=B6X d []) (κ:=[0,1,2,3,4,5]) (vK (.cons R R B9x) R) (.inr ⟨_,R,R⟩)
  cases h
 intro h
 refine Y9 (B8 (C1 R (N5 (E4 (E4 ?_)))))
 subst hK2
 refine I5 ?_
 cases h
 exact A1R (fS [0,1,2,3,4,5] (.inl ⟨_,R,R,R⟩) R .nil (vK (.cons R R B9x) R))
def P2 (F:Nat) (d:F7) (x:E0) (K:Int→Option (Except Int F7)):Nat→Int→Option (Except Int F7)
 | 0,_=>none
 | n+1,x2=>if x2<(x.use_.length:Int)then((P3 x.use_ x2).bind fun e=>(P3 d.A7 e).bind fun e2=>if 0<e2 then((P3 d.B0 e).bind fun e3=>if e3=true then((P4 F true 185).bind fun rv=>exE rv (fun x3=>some (.error x3)) (fun v=>P2 F d x K n (W (x2+1))))else((S9 F [] e).bind fun rv2=>(P4 F rv2 185).bind fun rv3=>exE rv3 (fun x4=>some (.error x4)) (fun v2=>P2 F d x K n (W (x2+1)))))else((P4 F false 185).bind fun rv4=>exE rv4 (fun x5=>some (.error x5)) (fun v3=>none)))else(K x2)
def Y6 (F:Nat) (d:F7) (x:E0):Option (Except Int F7):=P2 F d x (fun x2=>some (.ok d)) F 0
theorem A3b {F d x r} (h:Y6 F d x=some r):SCX Tryz.prog 173 [rf 0 26,.d (E0.d x),.d (.v (.slice none 0 0))] (B6X d []) r 43 (fun(a:F7) => .d (.tup [])) (fun(a:F7)=>(B6X a [])):=by
 rw[Y6]at h
 refine oW Tryz.func173 ?_
 refine gY 1 R (gU 2 R (I7 tb R (eU 1 R (E3 ?_))))
 obtain⟨K2,hK2,h⟩:∃ K,K=_∧P2 F d x K F 0=some r:=⟨_,rfl,h⟩
 refine lW (fun m st=>∃ (x2:Int),P2 F d x K2 m x2=some r∧st=⟨[(0,rf 0 26),(2,.d (.v (.slice none 0 0))),(9,.d (aI x.use_)),(10,dI (x.use_.length:Int)),(11,dI x2)],B6X d []⟩) ⟨0,h,R⟩ (.vw (κ:=[0,1,2,3,4,5]) (vK (.cons R R B9x) R)) ?_
 clear h
 rintro m2 st ⟨x2,h,rfl⟩
 cases m2 with
 | zero=>cases(show(none:Option (Except Int F7))=some r from h)
 | succ m2 =>
 rw[P2]at h
 refine qG ?_
 refine Q4 R R R R (tJ h ?_) (lJ h ?_)
 ·intro h
  refine Y9 (B8 (zT (B8 (E3 (qG ?_)))))
  obtain⟨e,ie,h⟩:=H1 h
  refine yE ie R R (eU 1 R (X0 (rU 6 R ?_)))
  obtain⟨e2,ie2,h⟩:=H1 h
  refine Y1 tb R R R R R R (F0 ie2) (ix1 ie2) R R ?_
  refine A15 (y:=vI e2) tb R R R R (U5 (g:=fun a=>T.d (vI a)) ie2) R R R R ?_
  refine A4l R R R R (tJ h ?_) (lJ h ?_)
  ·intro h
   refine rU 7 R ?_
   obtain⟨e3,ie3,h⟩:=H1 h
   refine Y1 tb R R R R R R (F0 ie3) (ix1 ie3) R R ?_
   refine A15 (y:=vB e3) tb R R R R (U5 (g:=fun a=>T.d (vB a)) ie3) R R R R ?_
   refine X8 (tI h ?_) (fI h ?_)
   ·intro c3 h
    refine rU 6 R ?_
    obtain⟨rv,k,h⟩:=H1 h
    rcases eX h with⟨x3,nv,h⟩ | ⟨v,nv,h⟩
    ·refine T2 (H8 [] ((G1 k).err nv) R eK R (.inl ⟨R,R,R⟩) R R R R .nil R ?_)
     intro cnt
     refine Q0 (E9 (E9 (Q0 ?_)))
     cases h
     exact M3 (L:=B6X d []) (κ:=[0,1,2,3,4,5]) (vK (.cons R R B9x) R) (.inr ⟨_,R,R⟩)
    refine cO [] ((G1 k).ok nv) eK .nil R .nil .nil R (R2 (hN 2 R ?_))
    exact bk ⟨(W (x2+1)),h,R⟩ (.prn [0,2,9,10,11] R)
   intro c3 h
   refine rU 3 R ?_
   obtain⟨rv2,k2,h⟩:=H1 h
   refine A19 (A1g k2) R eK R R ((.cons .nilA (dL .nil))) R R (rU 2 R ?_)
   obtain⟨rv3,k3,h⟩:=H1 h
   rcases eX h with⟨x4,nv2,h⟩ | ⟨v2,nv2,h⟩
   ·refine T2 (H8 [] ((G1 k3).err nv2) R eK R (.inl ⟨R,R,R⟩) R R R R .nil R ?_)
    intro cnt
    refine Q0 (E9 (E9 (Q0 ?_)))
    cases h
    exact M3 (L:=B6X d []) (κ:=[0,1,2,3,4,5]) (vK (.cons R R B9x) R) (.inr ⟨_,R,R⟩)
   refine cO [] ((G1 k3).ok nv2) eK .nil R .nil .nil R (R2 (hN 2 R ?_))
   exact bk ⟨(W (x2+1)),h,R⟩ (.prn [0,2,9,10,11] R)
  intro h
  refine rU 15 R ?_
  obtain⟨rv4,k4,h⟩:=H1 h
  rcases eX h with⟨x5,nv3,h⟩ | ⟨v3,nv3,h⟩
  ·refine T2 (H8 [] ((G1 k4).err nv3) R eK R (.inl ⟨R,R,R⟩) R R R R .nil R ?_)
   intro cnt
   refine Q0 (E9 (E9 (Q0 ?_)))
   cases h
   exact M3 (L:=B6X d []) (κ:=[0,1,2,3,4,5]) (vK (.cons R R B9x) R) (.inr ⟨_,R,R⟩)
  cases h
 intro h
 refine Y9 (B8 (C1 R (N5 (E4 (E4 ?_)))))
 subst hK2
 refine I5 ?_
 cases h
 exact A1R (fS [0,1,2,3,4,5] (.inl ⟨_,R,R,R⟩) R .nil (vK (.cons R R B9x) R))
def Y5 (F:Nat) (d:F7) (i:Int):Option Bool:=(P3 d.A5 i).bind fun e=>some (decide (0≤e))
theorem A1s {F d i r} (h:Y5 F d i=some r):PC Tryz.prog 89 [.el 26 (([d]).map F7.d) ((0:Int)).toNat 0,vI i] (vB r):=by
 rw[Y5]at h
 refine oW Tryz.func89 ?_
 refine gY 1 R (gU 4 R (I4 (y:=aI d.A5) tb (U5 (g:=F7.d) (R:P3 [d] 0=some d)) R (rU 1 R ?_)))
 obtain⟨e,ie,h⟩:=H1 h
 refine yE ie R R (A3k R R R R (eU 1 R (C9 ?_)))
 cases h
 exact f1 4 R
def A0R (F:Nat) (d:F7) (i:Int):Option Bool:=(P3 d.A1 i).bind fun e=>if 0≤e then((Y5 F d i).bind fun rv=>some (!rv))else(some false)
theorem A38 {F d i r} (h:A0R F d i=some r):PC Tryz.prog 91 [.el 26 (([d]).map F7.d) ((0:Int)).toNat 0,vI i] (vB r):=by
 rw[A0R]at h
 refine oW Tryz.func91 ?_
 refine gY 1 R (gU 4 R (I4 (y:=aI d.A1) tb (U5 (g:=F7.d) (R:P3 [d] 0=some d)) R (rU 1 R ?_)))
 obtain⟨e,ie,h⟩:=H1 h
 refine yE ie R R ?_
 refine A7I R R R R (tJ h ?_) (mJ h ?_)
 ·intro h
  refine rU 3 R ?_
  obtain⟨rv,k,h⟩:=H1 h
  refine J5 (A1s k) eK R R R R (eU 3 R (C9 ?_))
  cases h
  exact f1 4 R
 intro h
 refine eU 7 R (C9 ?_)
 cases h
 exact f1 4 R
def U8 (F:Nat) (d:F7):Option Int:=some (W ((d.F8.length:Int)-1))
theorem A0i {F d r} (h:U8 F d=some r):PC Tryz.prog 90 [.el 26 (([d]).map F7.d) ((0:Int)).toNat 0] (vI r):=by
 rw[U8]at h
 refine oW Tryz.func90 ?_
 refine gY 1 R (gU 4 R (I4 (y := .arr 9 ((d.F8).map E0.d)) tb (U5 (g:=F7.d) (R:P3 [d] 0=some d)) R (I7 tb R (eU 2 R (C9 ?_)))))
 cases h
 exact f1 2 R
def P8 (F:Nat) (e:E0) (K:(List Bool)→Int→Option (Except Int F7)):Nat→(List Bool)→Int→Option (Except Int F7)
 | 0,_,_=>none
 | n+1,t2,x7=>if x7<(e.on_.length:Int)then((P3 e.on_ x7).bind fun e5=>(P3 t2 e5).bind fun e6=>(A5g t2 e5 true).bind fun t3=>P8 F e K n t3 (W (x7+1)))else(K t2 x7)
def T4 (F:Nat) (t:F7) (e:E0) (K:Int→Option (Except Int F7)):Nat→Int→Option (Except Int F7)
 | 0,_=>none
 | n+1,x2=>if x2<(e.need.length:Int)then((P3 e.need x2).bind fun e3=>(Y5 F t e3).bind fun rv2=>(P4 F rv2 182).bind fun rv3=>exE rv3 (fun x3=>some (.error x3)) (fun v2=>T4 F t e K n (W (x2+1))))else(K x2)
def A0X (F:Nat) (t:F7) (o:C7):Option (Except Int F7):=(P3 t.F8 o.what).bind fun e=>(P3 t.A1 o.what).bind fun e2=>(P4 F (decide (e2<0)) 181).bind fun rv=>exE rv (fun x=>some (.error x)) (fun v=>T4 F t e (fun x2=>(P4 F (!t.F9) 183).bind fun rv4=>exE rv4 (fun x4=>some (.error x4)) (fun v3=>(Z4 F t e).bind fun rv5=>exE rv5 (fun x5=>some (.error x5)) (fun v4=>(X7 F v4 e e.on_).bind fun rv6=>exE rv6 (fun x6=>some (.error x6)) (fun v5=>(P3 v5.A1 o.what).bind fun e4=>(A5g v5.A1 o.what o.at_).bind fun q=>P8 F e (fun t2 x7=>some (.ok {v5 with A1:=q,B0:=t2})) F v5.B0 0)))) F 0)
theorem A3H {F t o r} (h:A0X F t o=some r):SCX Tryz.prog 100 [rf 0 26,.d (C7.d o)] (B6X t []) r 43 (fun(a:F7) => .d (.tup [])) (fun(a:F7)=>(B6X a [])):=by
 rw[A0X]at h
 refine oW Tryz.func100 ?_
 refine gY 1 R (B8 (T1 kR (rU 7 R ?_)))
 obtain⟨e,ie,h⟩:=H1 h
 refine yE ie R R (rU 2 R (I0 kR (B8 (A0V kR (rU 7 R ?_)))))
 obtain⟨e2,ie2,h⟩:=H1 h
 refine Y1 tb R R R R R R (F0 ie2) (ix1 ie2) R R ?_
 refine A15 (y:=vI e2) tb R R R R (U5 (g:=fun a=>T.d (vI a)) ie2) R R R R ?_
 refine B8b R R R R ?_
 obtain⟨rv,k,h⟩:=H1 h
 rcases eX h with⟨x,nv,h⟩ | ⟨v,nv,h⟩
 ·refine P0 kR kR (H8 [] ((G1 k).err nv) R eK R (.inl ⟨R,R,R⟩) R R R R .nil R ?_)
  intro cnt
  refine E9 ?_
  cases h
  exact M3 (L:=B6X t []) (κ:=[0,1,2,3,4,5]) (vK (.cons R R B9x) R) (.inr ⟨_,R,R⟩)
 refine cO [] ((G1 k).ok nv) eK .nil R .nil .nil R (N0 kR (B8 (gU 2 R (I7 tb R (eU 1 R (E3 ?_))))))
 obtain⟨K3,hK3,h⟩:∃ K,K=_∧T4 F t e K F 0=some r:=⟨_,rfl,h⟩
 refine lW (fun m st=>∃ (x2:Int),T4 F t e K3 m x2=some r∧st=⟨[(0,rf 0 26),(3,rf 6 8),(4,rf 7 9),(30,.d (aI e.need)),(31,dI (e.need.length:Int)),(32,dI x2)],B6X t [bx 8 (.d (C7.d o)),bx 9 (.d (E0.d e))]⟩) ⟨0,h,R⟩ (.prn [0,3,4,30,31,32] R) ?_
 clear h
 rintro m3 st ⟨x2,h,rfl⟩
 cases m3 with
 | zero=>cases(show(none:Option (Except Int F7))=some r from h)
 | succ m3 =>
 rw[T4]at h
 refine qG ?_
 refine Q4 R R R R (tJ h ?_) (lJ h ?_)
 ·intro h
  refine Y9 (B8 (zT (B8 (E3 (qG ?_)))))
  obtain⟨e3,ie3,h⟩:=H1 h
  refine yE ie3 R R (eU 1 R (X0 (rU 2 R ?_)))
  obtain⟨rv2,k2,h⟩:=H1 h
  refine A19 (A1s k2) R eK R R ((.cons (.ref R (.aggL (dL (dL (dL (dL (dL (dL (dL (dL (dL (dL (dL (dL (dL (dL (dL (dL (dL (dL (dL (dL (.cons (.row R R) (.cons (.row R R) (dL (.cons (.row R R) (.cons (.row R R) (.cons (.row R R) .nil)))))))))))))))))))))))))))) (dL .nil))) R R ?_
  obtain⟨rv3,k3,h⟩:=H1 h
  rcases eX h with⟨x3,nv2,h⟩ | ⟨v2,nv2,h⟩
  ·refine T2 (H8 [] ((G1 k3).err nv2) R eK R (.inl ⟨R,R,R⟩) R R R R .nil R ?_)
   intro cnt
   refine Q0 (E9 (E9 (Q0 (E9 ?_))))
   cases h
   exact M3 (L:=B6X t []) (κ:=[0,1,2,3,4,5]) (vK (.cons R R B9x) R) (.inr ⟨_,R,R⟩)
  refine cO [] ((G1 k3).ok nv2) eK .nil R .nil .nil R (R2 (hN 2 R ?_))
  exact bk ⟨(W (x2+1)),h,R⟩ (.prn [0,3,4,30,31,32] R)
 intro h
 refine Y9 (B8 (C1 R (N5 (E4 (E4 ?_)))))
 subst hK3
 refine B8 (X0 (rU 6 R ?_))
 obtain⟨rv4,k4,h⟩:=H1 h
 rcases eX h with⟨x4,nv3,h⟩ | ⟨v3,nv3,h⟩
 ·refine T2 (H8 [] ((G1 k4).err nv3) R eK R (.inl ⟨R,R,R⟩) R R R R .nil R ?_)
  intro cnt
  refine E9 ?_
  cases h
  exact M3 (L:=B6X t []) (κ:=[0,1,2,3,4,5]) (vK (.cons R R B9x) R) (.inr ⟨_,R,R⟩)
 refine cO [] ((G1 k4).ok nv3) eK .nil R .nil .nil R (R2 (B8 (X0 (rU 2 R ?_))))
 obtain⟨rv5,k5,h⟩:=H1 h
 rcases eX h with⟨x5,nv4,h⟩ | ⟨v4,nv4,h⟩
 ·refine T2 (H8 [0,1,2,3,4,5] ((A0J k5).err nv4) R eK R (.inl ⟨R,R,R⟩) R R R R (.cons R R C25) R ?_)
  intro cnt
  refine E9 ?_
  cases h
  exact M3 (L:=[none,none,none,none,none,none]) (κ:=[0,1,2,3,4,5]) (vK (.gone R (.gone R (.gone R (.gone R (.gone R (.gone R .nil)))))) R) (.inr ⟨_,R,R⟩)
 refine cO [0,1,2,3,4,5] ((A0J k5).ok nv4) eK ((.cons R R C25)) R ((.cons R (.row (.row (.row (.row (.row .nil))))))) .nil R (R2 (B8 (X0 (rU 4 R ?_))))
 obtain⟨rv6,k6,h⟩:=H1 h
 rcases eX h with⟨x6,nv5,h⟩ | ⟨v5,nv5,h⟩
 ·refine T2 (H8 [0,1,2,3,4,5] ((A3v k6).err nv5) R eK R (.inl ⟨R,R,R⟩) R R R R (.cons R R C25) R ?_)
  intro cnt
  refine E9 ?_
  cases h
  exact M3 (L:=[none,none,none,none,none,none]) (κ:=[0,1,2,3,4,5]) (vK (.gone R (.gone R (.gone R (.gone R (.gone R (.gone R .nil)))))) R) (.inr ⟨_,R,R⟩)
 refine cO [0,1,2,3,4,5] ((A3v k6).ok nv5) eK ((.cons R R C25)) R ((.cons R (.row (.row (.row (.row (.row .nil))))))) .nil R (R2 (B8 (T1 kR (rU 9 R ?_))))
 obtain⟨e4,ie4,h⟩:=H1 h
 refine Y1 tb R R R R R R (F0 ie4) (ix1 ie4) R R ?_
 obtain⟨q,iq,h⟩:=H1 h
 refine A5d (a':=(o.at_:Int)) tb R R R R ie4 R R R R iq R R ?_
 dsimp only[List.set_cons_zero,List.set_cons_succ,J2,C6,A0h,C5]
 first | rw[A2a iq] | skip
 refine I0 kR (gU 2 R (I7 tb R (eU 1 R (E3 ?_))))
 obtain⟨K5,hK5,h⟩:∃ K,K=_∧P8 F e K F v5.B0 0=some r:=⟨_,rfl,h⟩
 refine lW (fun m st=>∃ (t2:(List Bool)) (x7:Int),P8 F e K5 m t2 x7=some r∧st=⟨[(0,rf 0 26),(67,.d (aI e.on_)),(68,dI (e.on_.length:Int)),(69,dI x7)],[bx 26 (C5 {v5 with A1:=q,B0:=t2} 1 2 3 4 5),B0u q,B0u v5.A5,B9r v5.B1,B0u v5.A7,B9r t2]⟩) ⟨v5.B0,0,h,R⟩ (.vw (κ:=[0,1,2,3,4,5]) (vK (.cons R R B9x) R)) ?_
 clear h
 rintro m5 st ⟨t2,x7,h,rfl⟩
 cases m5 with
 | zero=>cases(show(none:Option (Except Int F7))=some r from h)
 | succ m5 =>
 rw[P8]at h
 refine qG ?_
 refine Q4 R R R R (tJ h ?_) (lJ h ?_)
 ·intro h
  refine Y9 (B8 (zT (B8 (E3 (qG ?_)))))
  obtain⟨e5,ie5,h⟩:=H1 h
  refine yE ie5 R R (eU 1 R (hU 6 R ?_))
  obtain⟨e6,ie6,h⟩:=H1 h
  refine Y1 tb R R R R R R (F0 ie6) (ix1 ie6) R R ?_
  obtain⟨t3,it3,h⟩:=H1 h
  refine A5d (a':=(true:Bool)) tb R R R R ie6 R R R R it3 R R ?_
  dsimp only[List.set_cons_zero,List.set_cons_succ,J2,C6,A0h,C5]
  first | rw[A2a it3] | skip
  refine Y9 (hN 2 R ?_)
  exact bk ⟨t3,(W (x7+1)),h,R⟩ (.prn [0,67,68,69] R)
 intro h
 refine Y9 (B8 (C1 R (N5 (E4 (E4 ?_)))))
 subst hK5
 refine I5 ?_
 cases h
 exact A1R (fS [0,1,2,3,4,5] (.inl ⟨_,R,R,R⟩) R .nil (vK (.cons R R B9x) R))
def A07 (F:Nat) (d:F7) (a:D2):Option (Except Int F7):=(A7D F (D5.mk d.H0 d.G8 d.G2 d.H4 d.G3 d.G9 d.H5) (C3.mk d.G5 d.F5 d.E8 d.E5 d.F3 d.F4) a).bind fun rv=>(P4 F (decide (rv.2=0)) rv.2).bind fun rv2=>exE rv2 (fun x=>some (.error x)) (fun v=>some (.ok {d with G5:=rv.1.now,F5:=rv.1.zones,E8:=rv.1.holder,E5:=rv.1.squibs,F3:=rv.1.siren,F4:=rv.1.storm}))
theorem A1M {F d a r} (h:A07 F d a=some r):SCX Tryz.prog 174 [rf 0 26,.d (D2.d a)] (B6X d []) r 43 (fun(a:F7) => .d (.tup [])) (fun(a:F7)=>(B6X a [])):=by
 rw[A07]at h
 refine oW Tryz.func174 ?_
 refine gY 1 R (B8 (T1 kR (rU 11 R ?_)))
 obtain⟨rv,k,h⟩:=H1 h
 refine J5 (B6H k) eK R R R R (rU 6 R (I0 kR (B8 (X0 (rU 1 R (A3s R R R R (rU 1 R ?_)))))))
 obtain⟨rv2,k2,h⟩:=H1 h
 rcases eX h with⟨x,nv,h⟩ | ⟨v,nv,h⟩
 ·refine T2 (H8 [] ((G1 k2).err nv) R eK R (.inl ⟨R,R,R⟩) R R R R .nil R ?_)
  intro cnt
  refine E9 ?_
  cases h
  exact M3 (L:=B6X d []) (κ:=[0,1,2,3,4,5]) (vK (.cons R R B9x) R) (.inr ⟨_,R,R⟩)
 refine cO [] ((G1 k2).ok nv) eK .nil R .nil .nil R (R2 (hE 6 R ?_))
 cases h
 exact A1R (fS [0,1,2,3,4,5] (.inl ⟨_,R,R,R⟩) R .nil (vK (.cons R R B9x) R))
def R6 (F:Nat) (e:E0) (K:(List Bool)→Int→Option (Except Int F7)):Nat→(List Bool)→Int→Option (Except Int F7)
 | 0,_,_=>none
 | n+1,t29,x9=>if x9<(e.off.length:Int)then((P3 e.off x9).bind fun e5=>(P3 t29 e5).bind fun e6=>(A5g t29 e5 false).bind fun t30=>R6 F e K n t30 (W (x9+1)))else(K t29 x9)
def A0k (F:Nat) (o:C7) (e:E0) (K:(List F6)→(List G6)→(List E2)→(List ByteArray)→(List D1)→Int→Int→(List ByteArray)→(List D9)→(List E0)→(List Int)→Int→Int→Int→Int→(List Int)→(List Int)→(List Int)→Int→Bool→(List Int)→(List Int)→Bool→(List Bool)→(List Int)→(List Bool)→Int→Option (Except Int F7)):Nat→(List F6)→(List G6)→(List E2)→(List ByteArray)→(List D1)→Int→Int→(List ByteArray)→(List D9)→(List E0)→(List Int)→Int→Int→Int→Int→(List Int)→(List Int)→(List Int)→Int→Bool→(List Int)→(List Int)→Bool→(List Bool)→(List Int)→(List Bool)→Int→Option (Except Int F7)
 | 0,_,_,_,_,_,_,_,_,_,_,_,_,_,_,_,_,_,_,_,_,_,_,_,_,_,_,_=>none
 | n+1,t2,t3,t4,t5,t6,t7,t8,t9,t10,t11,t12,t13,t14,t15,t16,t17,t18,t19,t20,t21,t22,t23,t24,t25,t26,t27,x7=>if x7<(e.acts.length:Int)then((P3 e.acts x7).bind fun e3=>(A07 F (F7.mk t2 t3 t4 t5 t6 t7 t8 t9 t10 t11 t12 t13 t14 t15 t16 t17 t18 t19 t20 t21 t22 t23 t24 t25 t26 t27) {e3 with at_:=o.at_}).bind fun rv11=>exE rv11 (fun x8=>some (.error x8)) (fun v7=>A0k F o e K n v7.H0 v7.G8 v7.G2 v7.H4 v7.G3 v7.G9 v7.H5 v7.H9 v7.E7 v7.F8 v7.I9 v7.D8 v7.G0 v7.H6 v7.G5 v7.F5 v7.E8 v7.E5 v7.F3 v7.F4 v7.A1 v7.A5 v7.F9 v7.B1 v7.A7 v7.B0 (W (x7+1))))else(K t2 t3 t4 t5 t6 t7 t8 t9 t10 t11 t12 t13 t14 t15 t16 t17 t18 t19 t20 t21 t22 t23 t24 t25 t26 t27 x7)
def A0j (F:Nat) (o:C7) (e:E0) (v4:F7):Option (Except Int F7):=A0k F o e (fun t2 t3 t4 t5 t6 t7 t8 t9 t10 t11 t12 t13 t14 t15 t16 t17 t18 t19 t20 t21 t22 t23 t24 t25 t26 t27 x7=>(P3 t23 o.what).bind fun e4=>(A5g t23 o.what o.at_).bind fun t28=>R6 F e (fun t29 x9=>some (.ok (F7.mk t2 t3 t4 t5 t6 t7 t8 t9 t10 t11 t12 t13 t14 t15 t16 t17 t18 t19 t20 t21 t22 t28 t24 t25 t26 t29))) F t27 0) F v4.H0 v4.G8 v4.G2 v4.H4 v4.G3 v4.G9 v4.H5 v4.H9 v4.E7 v4.F8 v4.I9 v4.D8 v4.G0 v4.H6 v4.G5 v4.F5 v4.E8 v4.E5 v4.F3 v4.F4 v4.A1 v4.A5 v4.F9 v4.B1 v4.A7 v4.B0 0
def A1O (F:Nat) (t:F7) (o:C7):Option (Except Int F7):=(P3 t.F8 o.what).bind fun e=>(A0R F t o.what).bind fun rv=>(P4 F rv 181).bind fun rv2=>exE rv2 (fun x=>some (.error x)) (fun v=>(P3 t.A1 o.what).bind fun e2=>(Y7 F (W (o.at_-e2)) e.least e.most).bind fun rv3=>(P4 F (!rv3) 186).bind fun rv4=>exE rv4 (fun x2=>some (.error x2)) (fun v2=>(Z4 F t e).bind fun rv5=>exE rv5 (fun x3=>some (.error x3)) (fun v3=>(Y6 F v3 e).bind fun rv6=>exE rv6 (fun x4=>some (.error x4)) (fun v4=>(U8 F v4).bind fun rv7=>if o.what<rv7 then((P4 F true 187).bind fun rv8=>exE rv8 (fun x5=>some (.error x5)) (fun v5=>A0j F o e v4))else((Y7 F o.at_ v4.D8 v4.G0).bind fun rv9=>(P4 F (!rv9) 187).bind fun rv10=>exE rv10 (fun x6=>some (.error x6)) (fun v6=>A0j F o e v4))))))
theorem A4v {F t o r} (h:A1O F t o=some r):SCX Tryz.prog 101 [rf 0 26,.d (C7.d o)] (B6X t []) r 43 (fun(a:F7) => .d (.tup [])) (fun(a:F7)=>(B6X a [])):=by
 rw[A1O]at h
 refine oW Tryz.func101 ?_
 refine gY 1 R (B8 (T1 kR (rU 7 R ?_)))
 obtain⟨e,ie,h⟩:=H1 h
 refine yE ie R R (rU 2 R (I0 kR (B8 (X0 (rU 3 R ?_)))))
 obtain⟨rv,k,h⟩:=H1 h
 refine A19 (A38 k) R eK R R ((.cons (.ref R (.aggL (dL (dL (dL (dL (dL (dL (dL (dL (dL (dL (dL (dL (dL (dL (dL (dL (dL (dL (dL (dL (.cons (.row R R) (.cons (.row R R) (dL (.cons (.row R R) (.cons (.row R R) (.cons (.row R R) .nil)))))))))))))))))))))))))))) (dL .nil))) R R ?_
 obtain⟨rv2,k2,h⟩:=H1 h
 rcases eX h with⟨x,nv,h⟩ | ⟨v,nv,h⟩
 ·refine T2 (H8 [] ((G1 k2).err nv) R eK R (.inl ⟨R,R,R⟩) R R R R .nil R ?_)
  intro cnt
  refine E9 ?_
  cases h
  exact M3 (L:=B6X t []) (κ:=[0,1,2,3,4,5]) (vK (.cons R R B9x) R) (.inr ⟨_,R,R⟩)
 refine cO [] ((G1 k2).ok nv) eK .nil R .nil .nil R (R2 (B8 (A0V kR (rU 9 R ?_))))
 obtain⟨e2,ie2,h⟩:=H1 h
 refine Y1 tb R R R R R R (F0 ie2) (ix1 ie2) R R ?_
 refine A15 (y:=vI e2) tb R R R R (U5 (g:=fun a=>T.d (vI a)) ie2) R R R R ?_
 refine rU 5 R ?_
 obtain⟨rv3,k3,h⟩:=H1 h
 refine J5 (V8 k3) eK R R R R (rU 1 R ?_)
 obtain⟨rv4,k4,h⟩:=H1 h
 rcases eX h with⟨x2,nv2,h⟩ | ⟨v2,nv2,h⟩
 ·refine P0 kR kR (H8 [] ((G1 k4).err nv2) R eK R (.inl ⟨R,R,R⟩) R R R R .nil R ?_)
  intro cnt
  refine E9 ?_
  cases h
  exact M3 (L:=B6X t []) (κ:=[0,1,2,3,4,5]) (vK (.cons R R B9x) R) (.inr ⟨_,R,R⟩)
 refine cO [] ((G1 k4).ok nv2) eK .nil R .nil .nil R (N0 kR (B8 (X0 (rU 2 R ?_))))
 obtain⟨rv5,k5,h⟩:=H1 h
 rcases eX h with⟨x3,nv3,h⟩ | ⟨v3,nv3,h⟩
 ·refine T2 (H8 [0,1,2,3,4,5] ((A0J k5).err nv3) R eK R (.inl ⟨R,R,R⟩) R R R R (.cons R R C25) R ?_)
  intro cnt
  refine E9 ?_
  cases h
  exact M3 (L:=[none,none,none,none,none,none]) (κ:=[0,1,2,3,4,5]) (vK (.gone R (.gone R (.gone R (.gone R (.gone R (.gone R .nil)))))) R) (.inr ⟨_,R,R⟩)
 refine cO [0,1,2,3,4,5] ((A0J k5).ok nv3) eK ((.cons R R C25)) R ((.cons R (.row (.row (.row (.row (.row .nil))))))) .nil R (R2 (B8 (X0 (rU 2 R ?_))))
 obtain⟨rv6,k6,h⟩:=H1 h
 rcases eX h with⟨x4,nv4,h⟩ | ⟨v4,nv4,h⟩
 ·refine T2 (H8 [0,1,2,3,4,5] ((A3b k6).err nv4) R eK R (.inl ⟨R,R,R⟩) R R R R (.cons R R C25) R ?_)
  intro cnt
  refine E9 ?_
  cases h
  exact M3 (L:=[none,none,none,none,none,none]) (κ:=[0,1,2,3,4,5]) (vK (.gone R (.gone R (.gone R (.gone R (.gone R (.gone R .nil)))))) R) (.inr ⟨_,R,R⟩)
 refine cO [0,1,2,3,4,5] ((A3b k6).ok nv4) eK ((.cons R R C25)) R ((.cons R (.row (.row (.row (.row (.row .nil))))))) .nil R (R2 (B8 ?_))
 refine W5 (fun zz:Unit=>A0j F o e v4=some r) (fun zz:Unit=>⟨[(0,rf 0 26),(3,rf 6 8),(4,rf 7 9)],B6X v4 [bx 8 (.d (C7.d o)),bx 9 (.d (E0.d e))]⟩) ?_ ?_
 ·clear h
  rintro⟨⟩ h
  rw[A0j]at h
  refine B8 (gU 2 R (I7 tb R (eU 1 R (E3 ?_))))
  obtain⟨K3,hK3,h⟩:∃ K,K=_∧A0k F o e K F v4.H0 v4.G8 v4.G2 v4.H4 v4.G3 v4.G9 v4.H5 v4.H9 v4.E7 v4.F8 v4.I9 v4.D8 v4.G0 v4.H6 v4.G5 v4.F5 v4.E8 v4.E5 v4.F3 v4.F4 v4.A1 v4.A5 v4.F9 v4.B1 v4.A7 v4.B0 0=some r:=⟨_,rfl,h⟩
  refine lW (fun m st=>∃ (t2:(List F6)) (t3:(List G6)) (t4:(List E2)) (t5:(List ByteArray)) (t6:(List D1)) (t7:Int) (t8:Int) (t9:(List ByteArray)) (t10:(List D9)) (t11:(List E0)) (t12:(List Int)) (t13:Int) (t14:Int) (t15:Int) (t16:Int) (t17:(List Int)) (t18:(List Int)) (t19:(List Int)) (t20:Int) (t21:Bool) (t22:(List Int)) (t23:(List Int)) (t24:Bool) (t25:(List Bool)) (t26:(List Int)) (t27:(List Bool)) (x7:Int),A0k F o e K3 m t2 t3 t4 t5 t6 t7 t8 t9 t10 t11 t12 t13 t14 t15 t16 t17 t18 t19 t20 t21 t22 t23 t24 t25 t26 t27 x7=some r∧st=⟨[(0,rf 0 26),(3,rf 6 8),(4,rf 7 9),(73,.d (.arr 5 ((e.acts).map D2.d))),(74,dI (e.acts.length:Int)),(75,dI x7)],[bx 26 (C5 (F7.mk t2 t3 t4 t5 t6 t7 t8 t9 t10 t11 t12 t13 t14 t15 t16 t17 t18 t19 t20 t21 t22 t23 t24 t25 t26 t27) 1 2 3 4 5),B0u t22,B0u t23,B9r t25,B0u t26,B9r t27,bx 8 (.d (C7.d o)),bx 9 (.d (E0.d e))]⟩) ⟨v4.H0,v4.G8,v4.G2,v4.H4,v4.G3,v4.G9,v4.H5,v4.H9,v4.E7,v4.F8,v4.I9,v4.D8,v4.G0,v4.H6,v4.G5,v4.F5,v4.E8,v4.E5,v4.F3,v4.F4,v4.A1,v4.A5,v4.F9,v4.B1,v4.A7,v4.B0,0,h,R⟩ (.prn [0,3,4,73,74,75] R) ?_
  clear h
  rintro m3 st ⟨t2,t3,t4,t5,t6,t7,t8,t9,t10,t11,t12,t13,t14,t15,t16,t17,t18,t19,t20,t21,t22,t23,t24,t25,t26,t27,x7,h,rfl⟩
  cases m3 with
  | zero=>cases(show(none:Option (Except Int F7))=some r from h)
  | succ m3 =>
  rw[A0k]at h
  refine qG ?_
  refine Q4 R R R R (tJ h ?_) (lJ h ?_)
  ·intro h
   refine Y9 (B8 (zT (B8 (E3 (qG ?_)))))
   obtain⟨e3,ie3,h⟩:=H1 h
   refine yE ie3 R R (eU 2 R (gY 4 R (X0 (rU 2 R ?_))))
   obtain⟨rv11,k11,h⟩:=H1 h
   rcases eX h with⟨x8,nv7,h⟩ | ⟨v7,nv7,h⟩
   ·refine T2 (H8 [0,1,2,3,4,5] ((A1M k11).err nv7) R eK R (.inl ⟨R,R,R⟩) R R R R (.cons R R C25) R ?_)
    intro cnt
    refine Q0 (E9 (E9 (Q0 (E9 ?_))))
    cases h
    exact M3 (L:=[none,none,none,none,none,none]) (κ:=[0,1,2,3,4,5]) (vK (.gone R (.gone R (.gone R (.gone R (.gone R (.gone R .nil)))))) R) (.inr ⟨_,R,R⟩)
   refine cO [0,1,2,3,4,5] ((A1M k11).ok nv7) eK ((.cons R R C25)) R ((.cons R (.row (.row (.row (.row (.row .nil))))))) .nil R (R2 (hN 2 R ?_))
   exact bk ⟨v7.H0,v7.G8,v7.G2,v7.H4,v7.G3,v7.G9,v7.H5,v7.H9,v7.E7,v7.F8,v7.I9,v7.D8,v7.G0,v7.H6,v7.G5,v7.F5,v7.E8,v7.E5,v7.F3,v7.F4,v7.A1,v7.A5,v7.F9,v7.B1,v7.A7,v7.B0,(W (x7+1)),h,R⟩ (.vw (κ:=[0,1,2,3,4,5,6,7]) (vK (.cons R R (.row R (.row R (.row R (.row R (.row R (.cons R R (.cons R R .nil)))))))) R))
  intro h
  refine Y9 (B8 (C1 R (N5 (E4 (E4 ?_)))))
  subst hK3
  refine B8 (T1 kR (rU 9 R ?_))
  obtain⟨e4,ie4,h⟩:=H1 h
  refine Y1 tb R R R R R R (F0 ie4) (ix1 ie4) R R ?_
  obtain⟨t28,it28,h⟩:=H1 h
  refine A5d (a':=(o.at_:Int)) tb R R R R ie4 R R R R it28 R R ?_
  dsimp only[List.set_cons_zero,List.set_cons_succ,J2,C6,A0h,C5]
  first | rw[A2a it28] | skip
  refine I0 kR (gU 2 R (I7 tb R (eU 1 R (E3 ?_))))
  obtain⟨K5,hK5,h⟩:∃ K,K=_∧R6 F e K F t27 0=some r:=⟨_,rfl,h⟩
  refine lW (fun m st=>∃ (t29:(List Bool)) (x9:Int),R6 F e K5 m t29 x9=some r∧st=⟨[(0,rf 0 26),(97,.d (aI e.off)),(98,dI (e.off.length:Int)),(99,dI x9)],[bx 26 (C5 (F7.mk t2 t3 t4 t5 t6 t7 t8 t9 t10 t11 t12 t13 t14 t15 t16 t17 t18 t19 t20 t21 t22 t28 t24 t25 t26 t29) 1 2 3 4 5),B0u t22,B0u t28,B9r t25,B0u t26,B9r t29]⟩) ⟨t27,0,h,R⟩ (.vw (κ:=[0,1,2,3,4,5]) (vK (.cons R R B9x) R)) ?_
  clear h
  rintro m5 st ⟨t29,x9,h,rfl⟩
  cases m5 with
  | zero=>cases(show(none:Option (Except Int F7))=some r from h)
  | succ m5 =>
  rw[R6]at h
  refine qG ?_
  refine Q4 R R R R (tJ h ?_) (lJ h ?_)
  ·intro h
   refine Y9 (B8 (zT (B8 (E3 (qG ?_)))))
   obtain⟨e5,ie5,h⟩:=H1 h
   refine yE ie5 R R (eU 1 R (hU 6 R ?_))
   obtain⟨e6,ie6,h⟩:=H1 h
   refine Y1 tb R R R R R R (F0 ie6) (ix1 ie6) R R ?_
   obtain⟨t30,it30,h⟩:=H1 h
   refine A5d (a':=(false:Bool)) tb R R R R ie6 R R R R it30 R R ?_
   dsimp only[List.set_cons_zero,List.set_cons_succ,J2,C6,A0h,C5]
   first | rw[A2a it30] | skip
   refine Y9 (hN 2 R ?_)
   exact bk ⟨t30,(W (x9+1)),h,R⟩ (.prn [0,97,98,99] R)
  intro h
  refine Y9 (B8 (C1 R (N5 (E4 (E4 ?_)))))
  subst hK5
  refine I5 ?_
  cases h
  exact A1R (fS [0,1,2,3,4,5] (.inl ⟨_,R,R,R⟩) R .nil (vK (.cons R R B9x) R))
 refine A0V kR (rU 3 R ?_)
 obtain⟨rv7,k7,h⟩:=H1 h
 refine A19 (A0i k7) R eK R R ((.cons (.ref R (.aggL (dL (dL (dL (dL (dL (dL (dL (dL (dL (dL (dL (dL (dL (dL (dL (dL (dL (dL (dL (dL (.cons (.row R R) (.cons (.row R R) (dL (.cons (.row R R) (.cons (.row R R) (.cons (.row R R) .nil)))))))))))))))))))))))))))) .nil)) R R ?_
 refine Q4 R R R R (tJ h ?_) (lJ h ?_)
 ·intro h
  refine rU 18 R ?_
  obtain⟨rv8,k8,h⟩:=H1 h
  rcases eX h with⟨x5,nv5,h⟩ | ⟨v5,nv5,h⟩
  ·refine P0 kR kR (H8 [] ((G1 k8).err nv5) R eK R (.inl ⟨R,R,R⟩) R R R R .nil R ?_)
   intro cnt
   refine E9 ?_
   cases h
   exact M3 (L:=B6X v4 []) (κ:=[0,1,2,3,4,5]) (vK (.cons R R B9x) R) (.inr ⟨_,R,R⟩)
  refine cO [] ((G1 k8).ok nv5) eK .nil R .nil .nil R (N0 kR (A6 ?_))
  exact .inl ⟨(),h,.prn [0,3,4] R⟩
 intro h
 refine rU 15 R ?_
 obtain⟨rv9,k9,h⟩:=H1 h
 refine J5 (V8 k9) eK R R R R (rU 2 R ?_)
 obtain⟨rv10,k10,h⟩:=H1 h
 rcases eX h with⟨x6,nv6,h⟩ | ⟨v6,nv6,h⟩
 ·refine P0 kR kR (H8 [] ((G1 k10).err nv6) R eK R (.inl ⟨R,R,R⟩) R R R R .nil R ?_)
  intro cnt
  refine E9 ?_
  cases h
  exact M3 (L:=B6X v4 []) (κ:=[0,1,2,3,4,5]) (vK (.cons R R B9x) R) (.inr ⟨_,R,R⟩)
 refine cO [] ((G1 k10).ok nv6) eK .nil R .nil .nil R (N0 kR (A6 ?_))
 exact .inl ⟨(),h,.prn [0,3,4] R⟩
def A08 (F:Nat) (d:F7) (e:C7):Option (Except Int F7):=(P4 F (d.F9 != (decide (e.kind=3))) 181).bind fun rv=>exE rv (fun x=>some (.error x)) (fun v=>some (.ok {d with F9:=(decide (e.kind=3))}))
theorem A1d {F d e r} (h:A08 F d e=some r):SCX Tryz.prog 102 [rf 0 26,.d (C7.d e)] (B6X d []) r 43 (fun(a:F7) => .d (.tup [])) (fun(a:F7)=>(B6X a [])):=by
 rw[A08]at h
 refine oW Tryz.func102 ?_
 refine gY 1 R (gU 2 R (A3s R R R R (eU 1 R (B8 (X0 (rU 6 R (A57 R R R R R ?_)))))))
 obtain⟨rv,k,h⟩:=H1 h
 rcases eX h with⟨x,nv,h⟩ | ⟨v,nv,h⟩
 ·refine T2 (H8 [] ((G1 k).err nv) R eK R (.inl ⟨R,R,R⟩) R R R R .nil R ?_)
  intro cnt
  refine E9 ?_
  cases h
  exact M3 (L:=B6X d []) (κ:=[0,1,2,3,4,5]) (vK (.cons R R B9x) R) (.inr ⟨_,R,R⟩)
 refine cO [] ((G1 k).ok nv) eK .nil R .nil .nil R (R2 (hE 6 R ?_))
 cases h
 exact A1R (fS [0,1,2,3,4,5] (.inl ⟨_,R,R,R⟩) R .nil (vK (.cons R R B9x) R))
def A0K (F:Nat) (d:F7) (e:C7):Option (Except Int F7):=(P3 d.B1 e.what).bind fun e2=>(P4 F (e2 != (decide (e.kind=5))) 181).bind fun rv=>exE rv (fun x=>some (.error x)) (fun v=>(A5g d.B1 e.what (decide (e.kind=5))).bind fun q=>if d.F9=true then(some (.ok {d with F9:=true,B1:=q}))else(some (.ok {d with F9:=(!(decide (e.kind=5))),B1:=q})))
theorem A16 {F d e r} (h:A0K F d e=some r):SCX Tryz.prog 103 [rf 0 26,.d (C7.d e)] (B6X d []) r 43 (fun(a:F7) => .d (.tup [])) (fun(a:F7)=>(B6X a [])):=by
 rw[A0K]at h
 refine oW Tryz.func103 ?_
 refine gY 1 R (gU 2 R (A3s R R R R (eU 1 R (B8 (A0V kR (rU 7 R ?_))))))
 obtain⟨e2,ie2,h⟩:=H1 h
 refine Y1 tb R R R R R R (F0 ie2) (ix1 ie2) R R ?_
 refine A15 (y:=vB e2) tb R R R R (U5 (g:=fun a=>T.d (vB a)) ie2) R R R R ?_
 refine rU 1 R (A57 R R R R R ?_)
 obtain⟨rv,k,h⟩:=H1 h
 rcases eX h with⟨x,nv,h⟩ | ⟨v,nv,h⟩
 ·refine P0 kR kR (H8 [] ((G1 k).err nv) R eK R (.inl ⟨R,R,R⟩) R R R R .nil R ?_)
  intro cnt
  refine E9 ?_
  cases h
  exact M3 (L:=B6X d []) (κ:=[0,1,2,3,4,5]) (vK (.cons R R B9x) R) (.inr ⟨_,R,R⟩)
 refine cO [] ((G1 k).ok nv) eK .nil R .nil .nil R (N0 kR (B8 (T1 kR (rU 8 R (Y1 tb R R R R R R (F0 ie2) (ix1 ie2) R R ?_)))))
 obtain⟨q,iq,h⟩:=H1 h
 refine A5d (a':=((decide (e.kind=5)):Bool)) tb R R R R ie2 R R R R iq R R ?_
 dsimp only[List.set_cons_zero,List.set_cons_succ,J2,C6,A0h,C5]
 first | rw[A2a iq] | skip
 refine I0 kR (hU 6 R ?_)
 refine X8 (tI h ?_) (fI h ?_)
 ·intro c h
  refine eU 8 R ?_
  cases h
  exact A1R (fS [0,1,2,3,4,5] (.inl ⟨_,R,R,R⟩) R .nil (vK (.cons R R B9x) R))
 intro c h
 refine eU 8 R ?_
 cases h
 exact A1R (fS [0,1,2,3,4,5] (.inl ⟨_,R,R,R⟩) R .nil (vK (.cons R R B9x) R))
def U1 (F:Nat) (t:F7) (K:(List Int)→(List Int)→Int→Option (Except Int F7)):Nat→(List Int)→(List Int)→Int→Option (Except Int F7)
 | 0,_,_,_=>none
 | n+1,t2,t3,a=>(U8 F {t with A1:=t2,A5:=t3}).bind fun rv4=>if a≤rv4 then((P3 t2 a).bind fun e3=>(A5g t2 a (-1)).bind fun t4=>(P3 t3 a).bind fun e4=>(A5g t3 a (-1)).bind fun t5=>U1 F t K n t4 t5 (W (a+1)))else(K t2 t3 a)
def A05 (F:Nat) (t:F7) (o:C7):Option (Except Int F7):=(P3 t.I9 o.what).bind fun e=>(P3 t.A1 e).bind fun e2=>(P4 F (decide (0≤e2)) 181).bind fun rv=>exE rv (fun x=>some (.error x)) (fun v=>(S9 F t.E5 1).bind fun rv2=>(P4 F (!rv2) 188).bind fun rv3=>exE rv3 (fun x2=>some (.error x2)) (fun v2=>U1 F t (fun t2 t3 a=>(B6t t.B1 false).bind fun q=>(B6t t.B0 false).bind fun q2=>some (.ok {t with A1:=t2,A5:=t3,F9:=true,B1:=q,B0:=q2})) F t.A1 t.A5 e))
theorem A3o {F t o r} (h:A05 F t o=some r):SCX Tryz.prog 104 [rf 0 26,.d (C7.d o)] (B6X t []) r 43 (fun(a:F7) => .d (.tup [])) (fun(a:F7)=>(B6X a [])):=by
 rw[A05]at h
 refine oW Tryz.func104 ?_
 refine gY 1 R (B8 (T1 kR (rU 7 R ?_)))
 obtain⟨e,ie,h⟩:=H1 h
 refine yE ie R R (rU 1 R (I0 kR (B8 (X0 (rU 6 R ?_)))))
 obtain⟨e2,ie2,h⟩:=H1 h
 refine Y1 tb R R R R R R (F0 ie2) (ix1 ie2) R R ?_
 refine A15 (y:=vI e2) tb R R R R (U5 (g:=fun a=>T.d (vI a)) ie2) R R R R ?_
 refine A3k R R R R ?_
 obtain⟨rv,k,h⟩:=H1 h
 rcases eX h with⟨x,nv,h⟩ | ⟨v,nv,h⟩
 ·refine T2 (H8 [] ((G1 k).err nv) R eK R (.inl ⟨R,R,R⟩) R R R R .nil R ?_)
  intro cnt
  refine E9 ?_
  cases h
  exact M3 (L:=B6X t []) (κ:=[0,1,2,3,4,5]) (vK (.cons R R B9x) R) (.inr ⟨_,R,R⟩)
 refine cO [] ((G1 k).ok nv) eK .nil R .nil .nil R (R2 (B8 (X0 (rU 6 R ?_))))
 obtain⟨rv2,k2,h⟩:=H1 h
 refine J5 (A1g k2) eK R R R R (rU 1 R ?_)
 obtain⟨rv3,k3,h⟩:=H1 h
 rcases eX h with⟨x2,nv2,h⟩ | ⟨v2,nv2,h⟩
 ·refine T2 (H8 [] ((G1 k3).err nv2) R eK R (.inl ⟨R,R,R⟩) R R R R .nil R ?_)
  intro cnt
  refine E9 ?_
  cases h
  exact M3 (L:=B6X t []) (κ:=[0,1,2,3,4,5]) (vK (.cons R R B9x) R) (.inr ⟨_,R,R⟩)
 refine cO [] ((G1 k3).ok nv2) eK .nil R .nil .nil R (R2 (B8 (gY 2 R (E3 ?_))))
 obtain⟨K3,hK3,h⟩:∃ K,K=_∧U1 F t K F t.A1 t.A5 e=some r:=⟨_,rfl,h⟩
 refine lW (fun m st=>∃ (t2:(List Int)) (t3:(List Int)) (a:Int),U1 F t K3 m t2 t3 a=some r∧st=⟨[(0,rf 0 26),(5,dI a)],[bx 26 (C5 {t with A1:=t2,A5:=t3} 1 2 3 4 5),B0u t2,B0u t3,B9r t.B1,B0u t.A7,B9r t.B0]⟩) ⟨t.A1,t.A5,e,h,R⟩ (.vw (κ:=[0,1,2,3,4,5]) (vK (.cons R R B9x) R)) ?_
 clear h
 rintro m3 st ⟨t2,t3,a,h,rfl⟩
 cases m3 with
 | zero=>cases(show(none:Option (Except Int F7))=some r from h)
 | succ m3 =>
 rw[U1]at h
 refine B8 (gU 2 R ?_)
 obtain⟨rv4,k4,h⟩:=H1 h
 refine A19 (A0i k4) R eK R R ((.cons (.ref R (.aggL (dL (dL (dL (dL (dL (dL (dL (dL (dL (dL (dL (dL (dL (dL (dL (dL (dL (dL (dL (dL (.cons (.row R R) (.cons (.row R R) (dL (.cons (.row R R) (.cons (.row R R) (.cons (.row R R) .nil)))))))))))))))))))))))))))) .nil)) R R ?_
 refine B1t R R R R (tJ h ?_) (mJ h ?_)
 ·intro h
  refine Y9 (zT (B8 (E3 (T1 kR (rU 12 R ?_)))))
  obtain⟨e3,ie3,h⟩:=H1 h
  refine Y1 tb R R R R R R (F0 ie3) (ix1 ie3) R R ?_
  obtain⟨t4,it4,h⟩:=H1 h
  refine A5d (a':=((-1):Int)) tb R R R R ie3 R R R R it4 R R ?_
  dsimp only[List.set_cons_zero,List.set_cons_succ,J2,C6,A0h,C5]
  first | rw[A2a it4] | skip
  obtain⟨e4,ie4,h⟩:=H1 h
  refine Y1 tb R R R R R R (F0 ie4) (ix1 ie4) R R ?_
  obtain⟨t5,it5,h⟩:=H1 h
  refine A5d (a':=((-1):Int)) tb R R R R ie4 R R R R it5 R R ?_
  dsimp only[List.set_cons_zero,List.set_cons_succ,J2,C6,A0h,C5]
  first | rw[A2a it5] | skip
  refine I0 kR (hN 3 R ?_)
  exact bk ⟨t4,t5,(W (a+1)),h,R⟩ (.prn [0,5] R)
 intro h
 refine Y9 (C1 R (N5 (E4 (E4 ?_))))
 subst hK3
 refine gU 5 R ?_
 obtain⟨q,iq,h⟩:=H1 h
 refine B5R (g:=vB) (a0:=false) tb R R R R R R R R R R R iq R R ?_
 dsimp only[List.set_cons_zero,List.set_cons_succ,J2,C6,A0h,C5]
 first | rw[B5B iq] | skip
 refine Y9 (gU 5 R ?_)
 obtain⟨q2,iq2,h⟩:=H1 h
 refine B5R (g:=vB) (a0:=false) tb R R R R R R R R R R R iq2 R R ?_
 dsimp only[List.set_cons_zero,List.set_cons_succ,J2,C6,A0h,C5]
 first | rw[B5B iq2] | skip
 refine Y9 (hE 5 R ?_)
 cases h
 exact A1R (fS [0,1,2,3,4,5] (.inl ⟨_,R,R,R⟩) R .nil (vK (.cons R R B9x) R))
def A1N (F:Nat) (d:F7) (e:C7):Option (Except Int F7):=(A07 F d (D2.mk e.A04 e.A0D e.A1L e.A0E e.A0F)).bind fun rv=>exE rv (fun x=>some (.error x)) (fun v=>some (.ok v))
theorem A4u {F d e r} (h:A1N F d e=some r):SCX Tryz.prog 105 [rf 0 26,.d (C7.d e)] (B6X d []) r 43 (fun(a:F7) => .d (.tup [])) (fun(a:F7)=>(B6X a [])):=by
 rw[A1N]at h
 refine oW Tryz.func105 ?_
 refine gY 1 R (X0 (rU 3 R ?_))
 obtain⟨rv,k,h⟩:=H1 h
 rcases eX h with⟨x,nv,h⟩ | ⟨v,nv,h⟩
 ·refine T2 (H8 [0,1,2,3,4,5] ((A1M k).err nv) R eK R (.inl ⟨R,R,R⟩) R R R R (.cons R R C25) R ?_)
  intro cnt
  cases h
  exact M3 (L:=[none,none,none,none,none,none]) (κ:=[0,1,2,3,4,5]) (vK (.gone R (.gone R (.gone R (.gone R (.gone R (.gone R .nil)))))) R) (.inr ⟨_,R,R⟩)
 refine cO [0,1,2,3,4,5] ((A1M k).ok nv) eK ((.cons R R C25)) R ((.cons R (.row (.row (.row (.row (.row .nil))))))) .nil R (R2 ?_)
 cases h
 exact A1R (fS [0,1,2,3,4,5] (.inl ⟨_,R,R,R⟩) R .nil (vK (.cons R R B9x) R))
def A0G (F:Nat) (d:F7) (e:C7):Option (Except Int F7):=(P3 d.B0 e.what).bind fun e2=>(P4 F (!e2) 181).bind fun rv=>exE rv (fun x=>some (.error x)) (fun v=>(P3 d.E7 e.what).bind fun e3=>(P3 d.A7 e.what).bind fun e4=>(A5g d.A7 e.what e3.charge).bind fun q=>some (.ok {d with A7:=q}))
theorem A3u {F d e r} (h:A0G F d e=some r):SCX Tryz.prog 106 [rf 0 26,.d (C7.d e)] (B6X d []) r 43 (fun(a:F7) => .d (.tup [])) (fun(a:F7)=>(B6X a [])):=by
 rw[A0G]at h
 refine oW Tryz.func106 ?_
 refine gY 1 R (B8 (A0V kR (rU 7 R ?_)))
 obtain⟨e2,ie2,h⟩:=H1 h
 refine Y1 tb R R R R R R (F0 ie2) (ix1 ie2) R R ?_
 refine A15 (y:=vB e2) tb R R R R (U5 (g:=fun a=>T.d (vB a)) ie2) R R R R ?_
 refine rU 1 R ?_
 obtain⟨rv,k,h⟩:=H1 h
 rcases eX h with⟨x,nv,h⟩ | ⟨v,nv,h⟩
 ·refine P0 kR kR (H8 [] ((G1 k).err nv) R eK R (.inl ⟨R,R,R⟩) R R R R .nil R ?_)
  intro cnt
  refine E9 ?_
  cases h
  exact M3 (L:=B6X d []) (κ:=[0,1,2,3,4,5]) (vK (.cons R R B9x) R) (.inr ⟨_,R,R⟩)
 refine cO [] ((G1 k).ok nv) eK .nil R .nil .nil R (N0 kR (T1 kR (rU 14 R ?_)))
 obtain⟨e3,ie3,h⟩:=H1 h
 refine xE ie3 R (rU 1 R (lE ie3 R ?_))
 obtain⟨e4,ie4,h⟩:=H1 h
 refine Y1 tb R R R R R R (F0 ie4) (ix1 ie4) R R ?_
 obtain⟨q,iq,h⟩:=H1 h
 refine A5d (a':=(e3.charge:Int)) tb R R R R ie4 R R R R iq R R ?_
 dsimp only[List.set_cons_zero,List.set_cons_succ,J2,C6,A0h,C5]
 first | rw[A2a iq] | skip
 refine I0 kR ?_
 cases h
 exact A1R (fS [0,1,2,3,4,5] (.inl ⟨_,R,R,R⟩) R .nil (vK (.cons R R B9x) R))
def Q9 (F:Nat) (after:(List F6)) (after2:(List G6)) (after3:(List E2)) (after4:(List ByteArray)) (after5:(List D1)) (after6 after7:Int) (after8:(List ByteArray)) (after9:(List D9)) (after10:(List E0)) (after11:(List Int)) (after12 after13 after14 after15:Int) (after16 after17 after18:(List Int)) (after19:Int) (after20:Bool) (after21 after22:(List Int)) (after23:Bool) (after24:(List Bool)) (after25:(List Int)) (after26:(List Bool)):Option (Except Int F7):=some (.ok (F7.mk after after2 after3 after4 after5 after6 after7 after8 after9 after10 after11 after12 after13 after14 after15 after16 after17 after18 after19 after20 after21 after22 after23 after24 after25 after26))
def A1F (F:Nat) (d:F7) (e:C7):Option (Except Int F7):=(P4 F (decide (d.H6≤e.at_)) 180).bind fun rv=>exE rv (fun x=>some (.error x)) (fun v=>(U8 F d).bind fun rv2=>(Y5 F d rv2).bind fun rv3=>(P4 F (!rv3) 181).bind fun rv4=>exE rv4 (fun x3=>some (.error x3)) (fun v2=>(A0Y F d).bind fun rv5=>(A2V F rv5 e.at_).bind fun rv6=>if e.kind=0 then(none)else if e.kind=1 then((A0X F rv6 e).bind fun rv7=>exE rv7 (fun x5=>some (.error x5)) (fun v3=>Q9 F v3.H0 v3.G8 v3.G2 v3.H4 v3.G3 v3.G9 v3.H5 v3.H9 v3.E7 v3.F8 v3.I9 v3.D8 v3.G0 v3.H6 v3.G5 v3.F5 v3.E8 v3.E5 v3.F3 v3.F4 v3.A1 v3.A5 v3.F9 v3.B1 v3.A7 v3.B0))else if e.kind=2 then((A1O F rv6 e).bind fun rv8=>exE rv8 (fun x7=>some (.error x7)) (fun v4=>Q9 F v4.H0 v4.G8 v4.G2 v4.H4 v4.G3 v4.G9 v4.H5 v4.H9 v4.E7 v4.F8 v4.I9 v4.D8 v4.G0 v4.H6 v4.G5 v4.F5 v4.E8 v4.E5 v4.F3 v4.F4 v4.A1 v4.A5 v4.F9 v4.B1 v4.A7 v4.B0))else if e.kind=3 then((A08 F rv6 e).bind fun rv9=>exE rv9 (fun x9=>some (.error x9)) (fun v5=>Q9 F v5.H0 v5.G8 v5.G2 v5.H4 v5.G3 v5.G9 v5.H5 v5.H9 v5.E7 v5.F8 v5.I9 v5.D8 v5.G0 v5.H6 v5.G5 v5.F5 v5.E8 v5.E5 v5.F3 v5.F4 v5.A1 v5.A5 v5.F9 v5.B1 v5.A7 v5.B0))else if e.kind=4 then((A08 F rv6 e).bind fun rv10=>exE rv10 (fun x11=>some (.error x11)) (fun v6=>Q9 F v6.H0 v6.G8 v6.G2 v6.H4 v6.G3 v6.G9 v6.H5 v6.H9 v6.E7 v6.F8 v6.I9 v6.D8 v6.G0 v6.H6 v6.G5 v6.F5 v6.E8 v6.E5 v6.F3 v6.F4 v6.A1 v6.A5 v6.F9 v6.B1 v6.A7 v6.B0))else if e.kind=5 then((A0K F rv6 e).bind fun rv11=>exE rv11 (fun x13=>some (.error x13)) (fun v7=>Q9 F v7.H0 v7.G8 v7.G2 v7.H4 v7.G3 v7.G9 v7.H5 v7.H9 v7.E7 v7.F8 v7.I9 v7.D8 v7.G0 v7.H6 v7.G5 v7.F5 v7.E8 v7.E5 v7.F3 v7.F4 v7.A1 v7.A5 v7.F9 v7.B1 v7.A7 v7.B0))else if e.kind=6 then((A0K F rv6 e).bind fun rv12=>exE rv12 (fun x15=>some (.error x15)) (fun v8=>Q9 F v8.H0 v8.G8 v8.G2 v8.H4 v8.G3 v8.G9 v8.H5 v8.H9 v8.E7 v8.F8 v8.I9 v8.D8 v8.G0 v8.H6 v8.G5 v8.F5 v8.E8 v8.E5 v8.F3 v8.F4 v8.A1 v8.A5 v8.F9 v8.B1 v8.A7 v8.B0))else if e.kind=7 then((A05 F rv6 e).bind fun rv13=>exE rv13 (fun x17=>some (.error x17)) (fun v9=>Q9 F v9.H0 v9.G8 v9.G2 v9.H4 v9.G3 v9.G9 v9.H5 v9.H9 v9.E7 v9.F8 v9.I9 v9.D8 v9.G0 v9.H6 v9.G5 v9.F5 v9.E8 v9.E5 v9.F3 v9.F4 v9.A1 v9.A5 v9.F9 v9.B1 v9.A7 v9.B0))else if e.kind=8 then((A1N F rv6 e).bind fun rv14=>exE rv14 (fun x19=>some (.error x19)) (fun v10=>Q9 F v10.H0 v10.G8 v10.G2 v10.H4 v10.G3 v10.G9 v10.H5 v10.H9 v10.E7 v10.F8 v10.I9 v10.D8 v10.G0 v10.H6 v10.G5 v10.F5 v10.E8 v10.E5 v10.F3 v10.F4 v10.A1 v10.A5 v10.F9 v10.B1 v10.A7 v10.B0))else if e.kind=9 then((A0G F rv6 e).bind fun rv15=>exE rv15 (fun x21=>some (.error x21)) (fun v11=>Q9 F v11.H0 v11.G8 v11.G2 v11.H4 v11.G3 v11.G9 v11.H5 v11.H9 v11.E7 v11.F8 v11.I9 v11.D8 v11.G0 v11.H6 v11.G5 v11.F5 v11.E8 v11.E5 v11.F3 v11.F4 v11.A1 v11.A5 v11.F9 v11.B1 v11.A7 v11.B0))else none))
theorem A8j {x1 x2 c2:Code} {o2:Operand} (hb:Tryz.f96.body=some (.seq x1 (.seq x2 (.cond o2 c2 .skip)))):DfK Tryz.prog 96 c2 10 3 43:=by
 unfold Tryz.f96 at hb
 injection hb with hb
 injection hb with _ hb
 injection hb with _ hb
 injection hb with _ hb _
 subst hb
 refine⟨fun ds w hds=>?_,fun ds v older w R hds ⟨E,hv⟩ H=>?_⟩
 ·obtain⟨d0,d1,d2,rfl⟩:∃ d0 d1 d2,ds=#[d0,d1,d2]:=by
   obtain⟨l⟩:=ds
   match l,hds with
   | [d0,d1,d2],_=>exact⟨d0,d1,d2,rfl⟩
  refine callsDIn_of_wpSIn Tryz.func96 (by rfl) trivial fun c₀ cs hu=>?_
  apply wpSIn_seq
  apply wpSIn_region
  simp[wpOpsSIn,go_sem,recoverD,hu,Tryz.ntmps96,Exit.thenS]
  apply wpSIn_seq
  apply wpSIn_region
  simp[wpOpsSIn,go_sem,Exit.thenS]
  refine wpSIn_cond (t:=false) (by simp[Act.eval,Array.replicate]) ?_
  simp only[Bool.false_eq_true,if_false]
  refine wpSIn_of_wpIn (by rfl) (wpIn_skip ?_)
  cases c₀
  simp_all [bodyPostS,results,Tryz.results96]
 ·subst hv
  obtain⟨d0,d1,d2,rfl⟩:∃ d0 d1 d2,ds=#[d0,d1,d2]:=by
   obtain⟨l⟩:=ds
   match l,hds with
   | [d0,d1,d2],_=>exact⟨d0,d1,d2,rfl⟩
  refine callsDIn_of_wpSIn Tryz.func96 (by rfl) trivial fun c₀ cs hu=>?_
  apply wpSIn_seq
  apply wpSIn_region
  simp[wpOpsSIn,go_sem,recoverD,hu,Tryz.ntmps96,Exit.thenS]
  apply wpSIn_seq
  apply wpSIn_region
  simp[wpOpsSIn,go_sem,Exit.thenS]
  refine wpSIn_cond (t:=true) (by simp[Act.eval,Array.replicate]) ?_
  simp only[if_true]
  refine wpSIn_of_wpIn (by rfl) (wpIn_mono (H _ (by rfl) ?_ ?_ ?_) ?_)
  ·simp[Array.replicate]
  ·intro i hi
   match i,hi with
   | 0,_=>rfl
   | 1,_=>rfl
   | 2,_=>rfl
  ·simp[Array.replicate]
  ·rintro ex a' w' ⟨rfl,h2,h3⟩
   cases c₀
   simp_all [bodyPostS,results,Tryz.results96]
theorem A5p {F:Nat} {d:F7} {e:C7} (x2:Int) {xa xb c2:Code} {o2:Operand} (hb:Tryz.f96.body=some (.seq xa (.seq xb (.cond o2 c2 .skip)))):SW Tryz.prog 10 10 [] c2 (fun sx st2=>sx = .norm∧Fin Tryz.prog Tryz.f59 6 (fun se X=>(∃ a:F7,(Except.error x2:Except Int F7) = .ok a∧se = .ret (.tup [.ref 6 26 0 0,.d (.v (.int .i64 0))])∧X=(B6X d [bx 26 (C5 a 7 8 9 10 11),B0u a.A1,B0u a.A5,B9r a.B1,B0u a.A7,B9r a.B0]))∨∃ e,(Except.error x2:Except Int F7) = .error e∧se = .ret (.tup [.ref 0 26 0 0,.d (.v (.int .i64 e))])∧X=(B6X d [])) .ret ⟨[(4,.ref 8 1 0 0),(5,.ref 9 1 0 0)],st2.L⟩) ⟨A8Q 0 ([.ref 6 1 0 0,.ref 8 1 0 0,.ref 9 1 0 0]++[.d (.v (.iface 43 ((.int .i64 x2))))]),B6X d [bx 1 (.ref 0 26 0 0),bx 8 (.d (C7.d e)),c1 (.v (.pointer none)),c1 (.v (.int .i64 0))]⟩:=by
 unfold Tryz.f96 at hb
 injection hb with hb
 injection hb with _ hb
 injection hb with _ hb
 injection hb with _ hb _
 subst hb
 refine B04 (fun _ _ h=>by cases h.1) ?_
 dsimp only[A8Q,List.cons_append,List.nil_append]
 refine T1 kR (rU 2 R ?_)
 refine B5V R (fun _=>by kernel_rfl) R R R ?_
 refine rU 2 R (I0 kR ?_)
 refine⟨_,.refl _ _ _,R,?_⟩
 exact fS [0,1,2,3,4,5] (.inr ⟨_,R,R,R⟩) R (.cons (A6F tb (u:=rf 0 26) R R R R R R R) (.cons (A6F tb (u:=dI x2) R R R R R R R) .nil)) (vK (.cons R R B9x) R)
theorem U6 {F:Nat} {d:F7} {e:C7} (x6:Int) {xa xb c2:Code} {o2:Operand} (hb:Tryz.f96.body=some (.seq xa (.seq xb (.cond o2 c2 .skip)))):SW Tryz.prog 11 10 [] c2 (fun sx st2=>sx = .norm∧Fin Tryz.prog Tryz.f59 6 (fun se X=>(∃ a:F7,(Except.error x6:Except Int F7) = .ok a∧se = .ret (.tup [.ref 6 26 0 0,.d (.v (.int .i64 0))])∧X=(B6X d [bx 26 (C5 a 7 8 9 10 11),B0u a.A1,B0u a.A5,B9r a.B1,B0u a.A7,B9r a.B0]))∨∃ e,(Except.error x6:Except Int F7) = .error e∧se = .ret (.tup [.ref 0 26 0 0,.d (.v (.int .i64 e))])∧X=(B6X d [])) .ret ⟨[(4,.ref 8 1 0 0),(5,.ref 9 1 0 0)],st2.L⟩) ⟨A8Q 0 ([.ref 6 1 0 0,.ref 8 1 0 0,.ref 9 1 0 0]++[.d (.v (.iface 43 ((.int .i64 x6))))]),B6X d [bx 1 (.ref 0 26 0 0),bx 8 (.d (C7.d e)),bx 1 (.ref 10 26 0 0),c1 (.v (.int .i64 0)),none]⟩:=by
 unfold Tryz.f96 at hb
 injection hb with hb
 injection hb with _ hb
 injection hb with _ hb
 injection hb with _ hb _
 subst hb
 refine B04 (fun _ _ h=>by cases h.1) ?_
 dsimp only[A8Q,List.cons_append,List.nil_append]
 refine T1 kR (rU 2 R ?_)
 refine B5V R (fun _=>by kernel_rfl) R R R ?_
 refine rU 2 R (I0 kR ?_)
 refine⟨_,.refl _ _ _,R,?_⟩
 exact fS [0,1,2,3,4,5] (.inr ⟨_,R,R,R⟩) R (.cons (A6F tb (u:=rf 0 26) R R R R R R R) (.cons (A6F tb (u:=dI x6) R R R R R R R) .nil)) (vK (.cons R R B9x) R)
theorem A5q {F d e r} (h:A1F F d e=some r):SCA Tryz.prog 59 [rf 0 26,.d (C7.d e)] (B6X d []) r (.tup [rf 6 26,dI 0]) (fun(a:F7)=>(B6X d [bx 26 (C5 a 7 8 9 10 11),B0u a.A1,B0u a.A5,B9r a.B1,B0u a.A7,B9r a.B0])) (fun e => .tup [rf 0 26,dI e]) (B6X d []):=by
 rw[A1F]at h
 refine SC.of_swd Tryz.func59 R R R ?_
 dsimp only[L8,List.map]
 refine B3n (hE 4 R ?_)
 refine⟨R,?_⟩
 refine B2t R A8j dM eK (A3E R R R R ?_)
 refine A32 ⟨7,_,_,_,_,R,R,R,R,fun df=>?_⟩
 refine B8 (A0V kR (rU 7 R (A3k R R R R ?_)))
 obtain⟨rv,k,h⟩:=H1 h
 rcases eX h with⟨x,nv,h⟩ | ⟨v,nv,h⟩
 ·refine P0 kR kR (H8 [] ((G1 k).err nv) R eK R (.inl ⟨R,R,R⟩) R R R R .nil R ?_)
  intro cnt
  refine E9 ?_
  cases h
  exact⟨_,⟨[(4,rf 8 1),(5,rf 9 1)],B6X d [bx 1 (rf 0 26),bx 8 (.d (C7.d e)),c1 (.v (.pointer none)),c1 (vI 0)]⟩,[0,1,2,3,4,5,6,7,8,9],R,(vK (.cons R R (.row R (.row R (.row R (.row R (.row R (.cons R R (.cons R R (.cons R R (.cons R R .nil)))))))))) R),A5p (F:=F) x R⟩
 refine cO [] ((G1 k).ok nv) eK .nil R .nil .nil R (N0 kR (B8 (A0V kR (rU 2 R ?_))))
 obtain⟨rv2,k2,h⟩:=H1 h
 refine A19 (A0i k2) R eK R R ((.cons (.ref R (.aggL (dL (dL (dL (dL (dL (dL (dL (dL (dL (dL (dL (dL (dL (dL (dL (dL (dL (dL (dL (dL (.cons (.row R R) (.cons (.row R R) (dL (.cons (.row R R) (.cons (.row R R) (.cons (.row R R) .nil)))))))))))))))))))))))))))) .nil)) R R ?_
 obtain⟨rv3,k3,h⟩:=H1 h
 refine A19 (A1s k3) R eK R R ((.cons (.ref R (.aggL (dL (dL (dL (dL (dL (dL (dL (dL (dL (dL (dL (dL (dL (dL (dL (dL (dL (dL (dL (dL (.cons (.row R R) (.cons (.row R R) (dL (.cons (.row R R) (.cons (.row R R) (.cons (.row R R) .nil)))))))))))))))))))))))))))) (dL .nil))) R R (rU 1 R ?_)
 obtain⟨rv4,k4,h⟩:=H1 h
 rcases eX h with⟨x3,nv2,h⟩ | ⟨v2,nv2,h⟩
 ·refine P0 kR kR (H8 [] ((G1 k4).err nv2) R eK R (.inl ⟨R,R,R⟩) R R R R .nil R ?_)
  intro cnt
  refine E9 ?_
  cases h
  exact⟨_,⟨[(4,rf 8 1),(5,rf 9 1)],B6X d [bx 1 (rf 0 26),bx 8 (.d (C7.d e)),c1 (.v (.pointer none)),c1 (vI 0)]⟩,[0,1,2,3,4,5,6,7,8,9],R,(vK (.cons R R (.row R (.row R (.row R (.row R (.row R (.cons R R (.cons R R (.cons R R (.cons R R .nil)))))))))) R),A5p (F:=F) x3 R⟩
 refine cO [] ((G1 k4).ok nv2) eK .nil R .nil .nil R (N0 kR (gU 1 R ?_))
 obtain⟨rv5,k5,h⟩:=H1 h
 refine cO [0,1,2,3,4,5] (A61 k5) eK ((.cons R R C25)) R ((.cons R (.row (.row (.row (.row (.row .nil))))))) ((.cons R (.row (.row (.row (.row (.row .nil))))))) R (eU 1 R (gU 3 R ?_))
 obtain⟨rv6,k6,h⟩:=H1 h
 refine cO [10,11,12,13,14,15] (A7z k6) eK ((.cons R R C25)) R ((.cons R (.row (.row (.row (.row (.row .nil))))))) .nil R (Y9 (qG ?_))
 refine B4h (v := .d (.agg [.v .nilFunc,.v (.func (.func 100) #[] #[]),.v (.func (.func 101) #[] #[]),.v (.func (.func 102) #[] #[]),.v (.func (.func 102) #[] #[]),.v (.func (.func 103) #[] #[]),.v (.func (.func 103) #[] #[]),.v (.func (.func 104) #[] #[]),.v (.func (.func 105) #[] #[]),.v (.func (.func 106) #[] #[])])) tb R R R R R R R R R (eU 2 R (B8 ?_))
 refine W5 (fun zz:(List F6) × (List G6) × (List E2) × (List ByteArray) × (List D1) × Int × Int × (List ByteArray) × (List D9) × (List E0) × (List Int) × Int × Int × Int × Int × (List Int) × (List Int) × (List Int) × Int × Bool × (List Int) × (List Int) × Bool × (List Bool) × (List Int) × (List Bool)=>Q9 F zz.1 zz.2.1 zz.2.2.1 zz.2.2.2.1 zz.2.2.2.2.1 zz.2.2.2.2.2.1 zz.2.2.2.2.2.2.1 zz.2.2.2.2.2.2.2.1 zz.2.2.2.2.2.2.2.2.1 zz.2.2.2.2.2.2.2.2.2.1 zz.2.2.2.2.2.2.2.2.2.2.1 zz.2.2.2.2.2.2.2.2.2.2.2.1 zz.2.2.2.2.2.2.2.2.2.2.2.2.1 zz.2.2.2.2.2.2.2.2.2.2.2.2.2.1 zz.2.2.2.2.2.2.2.2.2.2.2.2.2.2.1 zz.2.2.2.2.2.2.2.2.2.2.2.2.2.2.2.1 zz.2.2.2.2.2.2.2.2.2.2.2.2.2.2.2.2.1 zz.2.2.2.2.2.2.2.2.2.2.2.2.2.2.2.2.2.1 zz.2.2.2.2.2.2.2.2.2.2.2.2.2.2.2.2.2.2.1 zz.2.2.2.2.2.2.2.2.2.2.2.2.2.2.2.2.2.2.2.1 zz.2.2.2.2.2.2.2.2.2.2.2.2.2.2.2.2.2.2.2.2.1 zz.2.2.2.2.2.2.2.2.2.2.2.2.2.2.2.2.2.2.2.2.2.1 zz.2.2.2.2.2.2.2.2.2.2.2.2.2.2.2.2.2.2.2.2.2.2.1 zz.2.2.2.2.2.2.2.2.2.2.2.2.2.2.2.2.2.2.2.2.2.2.2.1 zz.2.2.2.2.2.2.2.2.2.2.2.2.2.2.2.2.2.2.2.2.2.2.2.2.1 zz.2.2.2.2.2.2.2.2.2.2.2.2.2.2.2.2.2.2.2.2.2.2.2.2.2=some r) (fun zz:(List F6) × (List G6) × (List E2) × (List ByteArray) × (List D1) × Int × Int × (List ByteArray) × (List D9) × (List E0) × (List Int) × Int × Int × Int × Int × (List Int) × (List Int) × (List Int) × Int × Bool × (List Int) × (List Int) × Bool × (List Bool) × (List Int) × (List Bool)=>⟨[(4,rf 8 1),(5,rf 9 1)],B6X d [bx 1 (rf 0 26),bx 8 (.d (C7.d e)),bx 1 (rf 10 26),c1 (vI 0),bx 26 (C5 (F7.mk zz.1 zz.2.1 zz.2.2.1 zz.2.2.2.1 zz.2.2.2.2.1 zz.2.2.2.2.2.1 zz.2.2.2.2.2.2.1 zz.2.2.2.2.2.2.2.1 zz.2.2.2.2.2.2.2.2.1 zz.2.2.2.2.2.2.2.2.2.1 zz.2.2.2.2.2.2.2.2.2.2.1 zz.2.2.2.2.2.2.2.2.2.2.2.1 zz.2.2.2.2.2.2.2.2.2.2.2.2.1 zz.2.2.2.2.2.2.2.2.2.2.2.2.2.1 zz.2.2.2.2.2.2.2.2.2.2.2.2.2.2.1 zz.2.2.2.2.2.2.2.2.2.2.2.2.2.2.2.1 zz.2.2.2.2.2.2.2.2.2.2.2.2.2.2.2.2.1 zz.2.2.2.2.2.2.2.2.2.2.2.2.2.2.2.2.2.1 zz.2.2.2.2.2.2.2.2.2.2.2.2.2.2.2.2.2.2.1 zz.2.2.2.2.2.2.2.2.2.2.2.2.2.2.2.2.2.2.2.1 zz.2.2.2.2.2.2.2.2.2.2.2.2.2.2.2.2.2.2.2.2.1 zz.2.2.2.2.2.2.2.2.2.2.2.2.2.2.2.2.2.2.2.2.2.1 zz.2.2.2.2.2.2.2.2.2.2.2.2.2.2.2.2.2.2.2.2.2.2.1 zz.2.2.2.2.2.2.2.2.2.2.2.2.2.2.2.2.2.2.2.2.2.2.2.1 zz.2.2.2.2.2.2.2.2.2.2.2.2.2.2.2.2.2.2.2.2.2.2.2.2.1 zz.2.2.2.2.2.2.2.2.2.2.2.2.2.2.2.2.2.2.2.2.2.2.2.2.2) 11 12 13 14 15),B0u zz.2.2.2.2.2.2.2.2.2.2.2.2.2.2.2.2.2.2.2.2.1,B0u zz.2.2.2.2.2.2.2.2.2.2.2.2.2.2.2.2.2.2.2.2.2.1,B9r zz.2.2.2.2.2.2.2.2.2.2.2.2.2.2.2.2.2.2.2.2.2.2.2.1,B0u zz.2.2.2.2.2.2.2.2.2.2.2.2.2.2.2.2.2.2.2.2.2.2.2.2.1,B9r zz.2.2.2.2.2.2.2.2.2.2.2.2.2.2.2.2.2.2.2.2.2.2.2.2.2]⟩) ?_ ?_
 ·clear h
  rintro⟨after,after2,after3,after4,after5,after6,after7,after8,after9,after10,after11,after12,after13,after14,after15,after16,after17,after18,after19,after20,after21,after22,after23,after24,after25,after26⟩ h
  dsimp only at h ⊢
  rw[Q9]at h
  refine gY 3 R (C9 ?_)
  cases h
  exact B7Y (U0 (t := .tup [rf 6 26,dI 0]) (L:=B6X d [bx 26 (C5 (F7.mk after after2 after3 after4 after5 after6 after7 after8 after9 after10 after11 after12 after13 after14 after15 after16 after17 after18 after19 after20 after21 after22 after23 after24 after25 after26) 7 8 9 10 11),B0u after21,B0u after22,B9r after24,B0u after25,B9r after26]) (κ:=[0,1,2,3,4,5,10,11,12,13,14,15]) R (.cons (A6F tb (u:=rf 10 26) R R R R R R R) (.cons (A6F tb (u:=dI 0) R R R R R R R) .nil)) (vK (.cons R R (.row R (.row R (.row R (.row R (.row R (.cons R R B9x))))))) R) (.inl ⟨_,R,R,R⟩))
 refine A0V kR (rU 2 R ?_)
 by_cases c:e.kind=0
 ·replace h:=J7 c h
  cases h
 replace h:=P1 c h
 by_cases c2:e.kind=1
 ·replace h:=J7 c2 h
  refine A7n (1) tb R R R R R c2 R R R (rU 3 R ?_)
  obtain⟨rv7,k7,h⟩:=H1 h
  rcases eX h with⟨x5,nv3,h⟩ | ⟨v3,nv3,h⟩
  ·refine P0 kR kR (H8 [10,11,12,13,14,15] ((A3H k7).err nv3) R eK R (.inl ⟨R,R,R⟩) R R R R (.cons R R C25) R ?_)
   intro cnt
   refine E9 ?_
   cases h
   exact⟨_,⟨[(4,rf 8 1),(5,rf 9 1)],B6X d [bx 1 (rf 0 26),bx 8 (.d (C7.d e)),bx 1 (rf 10 26),c1 (vI 0),none]⟩,[0,1,2,3,4,5,6,7,8,9,10],R,(vK (.cons R R (.row R (.row R (.row R (.row R (.row R (.cons R R (.cons R R (.cons R R (.cons R R (.gone R .nil))))))))))) R),U6 (F:=F) x5 R⟩
  refine cO [10,11,12,13,14,15] ((A3H k7).ok nv3) eK ((.cons R R C25)) R ((.cons R (.row (.row (.row (.row (.row .nil))))))) .nil R (N0 kR (A6 ?_))
  exact .inl ⟨(v3.H0,v3.G8,v3.G2,v3.H4,v3.G3,v3.G9,v3.H5,v3.H9,v3.E7,v3.F8,v3.I9,v3.D8,v3.G0,v3.H6,v3.G5,v3.F5,v3.E8,v3.E5,v3.F3,v3.F4,v3.A1,v3.A5,v3.F9,v3.B1,v3.A7,v3.B0),h,.vw (κ:=[0,1,2,3,4,5,6,7,8,9,10,11,12,13,14,15]) (vK (.cons R R (.row R (.row R (.row R (.row R (.row R (.cons R R (.cons R R (.cons R R (.cons R R (.cons R R B9x))))))))))) R)⟩
 replace h:=P1 c2 h
 by_cases c3:e.kind=2
 ·replace h:=J7 c3 h
  refine A7n (2) tb R R R R R c3 R R R (rU 3 R ?_)
  obtain⟨rv8,k8,h⟩:=H1 h
  rcases eX h with⟨x7,nv4,h⟩ | ⟨v4,nv4,h⟩
  ·refine P0 kR kR (H8 [10,11,12,13,14,15] ((A4v k8).err nv4) R eK R (.inl ⟨R,R,R⟩) R R R R (.cons R R C25) R ?_)
   intro cnt
   refine E9 ?_
   cases h
   exact⟨_,⟨[(4,rf 8 1),(5,rf 9 1)],B6X d [bx 1 (rf 0 26),bx 8 (.d (C7.d e)),bx 1 (rf 10 26),c1 (vI 0),none]⟩,[0,1,2,3,4,5,6,7,8,9,10],R,(vK (.cons R R (.row R (.row R (.row R (.row R (.row R (.cons R R (.cons R R (.cons R R (.cons R R (.gone R .nil))))))))))) R),U6 (F:=F) x7 R⟩
  refine cO [10,11,12,13,14,15] ((A4v k8).ok nv4) eK ((.cons R R C25)) R ((.cons R (.row (.row (.row (.row (.row .nil))))))) .nil R (N0 kR (A6 ?_))
  exact .inl ⟨(v4.H0,v4.G8,v4.G2,v4.H4,v4.G3,v4.G9,v4.H5,v4.H9,v4.E7,v4.F8,v4.I9,v4.D8,v4.G0,v4.H6,v4.G5,v4.F5,v4.E8,v4.E5,v4.F3,v4.F4,v4.A1,v4.A5,v4.F9,v4.B1,v4.A7,v4.B0),h,.vw (κ:=[0,1,2,3,4,5,6,7,8,9,10,11,12,13,14,15]) (vK (.cons R R (.row R (.row R (.row R (.row R (.row R (.cons R R (.cons R R (.cons R R (.cons R R (.cons R R B9x))))))))))) R)⟩
 replace h:=P1 c3 h
 by_cases c4:e.kind=3
 ·replace h:=J7 c4 h
  refine A7n (3) tb R R R R R c4 R R R (rU 3 R ?_)
  obtain⟨rv9,k9,h⟩:=H1 h
  rcases eX h with⟨x9,nv5,h⟩ | ⟨v5,nv5,h⟩
  ·refine P0 kR kR (H8 [10,11,12,13,14,15] ((A1d k9).err nv5) R eK R (.inl ⟨R,R,R⟩) R R R R (.cons R R C25) R ?_)
   intro cnt
   refine E9 ?_
   cases h
   exact⟨_,⟨[(4,rf 8 1),(5,rf 9 1)],B6X d [bx 1 (rf 0 26),bx 8 (.d (C7.d e)),bx 1 (rf 10 26),c1 (vI 0),none]⟩,[0,1,2,3,4,5,6,7,8,9,10],R,(vK (.cons R R (.row R (.row R (.row R (.row R (.row R (.cons R R (.cons R R (.cons R R (.cons R R (.gone R .nil))))))))))) R),U6 (F:=F) x9 R⟩
  refine cO [10,11,12,13,14,15] ((A1d k9).ok nv5) eK ((.cons R R C25)) R ((.cons R (.row (.row (.row (.row (.row .nil))))))) .nil R (N0 kR (A6 ?_))
  exact .inl ⟨(v5.H0,v5.G8,v5.G2,v5.H4,v5.G3,v5.G9,v5.H5,v5.H9,v5.E7,v5.F8,v5.I9,v5.D8,v5.G0,v5.H6,v5.G5,v5.F5,v5.E8,v5.E5,v5.F3,v5.F4,v5.A1,v5.A5,v5.F9,v5.B1,v5.A7,v5.B0),h,.vw (κ:=[0,1,2,3,4,5,6,7,8,9,10,11,12,13,14,15]) (vK (.cons R R (.row R (.row R (.row R (.row R (.row R (.cons R R (.cons R R (.cons R R (.cons R R (.cons R R B9x))))))))))) R)⟩
 replace h:=P1 c4 h
 by_cases c5:e.kind=4
 ·replace h:=J7 c5 h
  refine A7n (4) tb R R R R R c5 R R R (rU 3 R ?_)
  obtain⟨rv10,k10,h⟩:=H1 h
  rcases eX h with⟨x11,nv6,h⟩ | ⟨v6,nv6,h⟩
  ·refine P0 kR kR (H8 [10,11,12,13,14,15] ((A1d k10).err nv6) R eK R (.inl ⟨R,R,R⟩) R R R R (.cons R R C25) R ?_)
   intro cnt
   refine E9 ?_
   cases h
   exact⟨_,⟨[(4,rf 8 1),(5,rf 9 1)],B6X d [bx 1 (rf 0 26),bx 8 (.d (C7.d e)),bx 1 (rf 10 26),c1 (vI 0),none]⟩,[0,1,2,3,4,5,6,7,8,9,10],R,(vK (.cons R R (.row R (.row R (.row R (.row R (.row R (.cons R R (.cons R R (.cons R R (.cons R R (.gone R .nil))))))))))) R),U6 (F:=F) x11 R⟩
  refine cO [10,11,12,13,14,15] ((A1d k10).ok nv6) eK ((.cons R R C25)) R ((.cons R (.row (.row (.row (.row (.row .nil))))))) .nil R (N0 kR (A6 ?_))
  exact .inl ⟨(v6.H0,v6.G8,v6.G2,v6.H4,v6.G3,v6.G9,v6.H5,v6.H9,v6.E7,v6.F8,v6.I9,v6.D8,v6.G0,v6.H6,v6.G5,v6.F5,v6.E8,v6.E5,v6.F3,v6.F4,v6.A1,v6.A5,v6.F9,v6.B1,v6.A7,v6.B0),h,.vw (κ:=[0,1,2,3,4,5,6,7,8,9,10,11,12,13,14,15]) (vK (.cons R R (.row R (.row R (.row R (.row R (.row R (.cons R R (.cons R R (.cons R R (.cons R R (.cons R R B9x))))))))))) R)⟩
 replace h:=P1 c5 h
 by_cases c6:e.kind=5
 ·replace h:=J7 c6 h
  refine A7n (5) tb R R R R R c6 R R R (rU 3 R ?_)
  obtain⟨rv11,k11,h⟩:=H1 h
  rcases eX h with⟨x13,nv7,h⟩ | ⟨v7,nv7,h⟩
  ·refine P0 kR kR (H8 [10,11,12,13,14,15] ((A16 k11).err nv7) R eK R (.inl ⟨R,R,R⟩) R R R R (.cons R R C25) R ?_)
   intro cnt
   refine E9 ?_
   cases h
   exact⟨_,⟨[(4,rf 8 1),(5,rf 9 1)],B6X d [bx 1 (rf 0 26),bx 8 (.d (C7.d e)),bx 1 (rf 10 26),c1 (vI 0),none]⟩,[0,1,2,3,4,5,6,7,8,9,10],R,(vK (.cons R R (.row R (.row R (.row R (.row R (.row R (.cons R R (.cons R R (.cons R R (.cons R R (.gone R .nil))))))))))) R),U6 (F:=F) x13 R⟩
  refine cO [10,11,12,13,14,15] ((A16 k11).ok nv7) eK ((.cons R R C25)) R ((.cons R (.row (.row (.row (.row (.row .nil))))))) .nil R (N0 kR (A6 ?_))
  exact .inl ⟨(v7.H0,v7.G8,v7.G2,v7.H4,v7.G3,v7.G9,v7.H5,v7.H9,v7.E7,v7.F8,v7.I9,v7.D8,v7.G0,v7.H6,v7.G5,v7.F5,v7.E8,v7.E5,v7.F3,v7.F4,v7.A1,v7.A5,v7.F9,v7.B1,v7.A7,v7.B0),h,.vw (κ:=[0,1,2,3,4,5,6,7,8,9,10,11,12,13,14,15]) (vK (.cons R R (.row R (.row R (.row R (.row R (.row R (.cons R R (.cons R R (.cons R R (.cons R R (.cons R R B9x))))))))))) R)⟩
 replace h:=P1 c6 h
 by_cases c7:e.kind=6
 ·replace h:=J7 c7 h
  refine A7n (6) tb R R R R R c7 R R R (rU 3 R ?_)
  obtain⟨rv12,k12,h⟩:=H1 h
  rcases eX h with⟨x15,nv8,h⟩ | ⟨v8,nv8,h⟩
  ·refine P0 kR kR (H8 [10,11,12,13,14,15] ((A16 k12).err nv8) R eK R (.inl ⟨R,R,R⟩) R R R R (.cons R R C25) R ?_)
   intro cnt
   refine E9 ?_
   cases h
   exact⟨_,⟨[(4,rf 8 1),(5,rf 9 1)],B6X d [bx 1 (rf 0 26),bx 8 (.d (C7.d e)),bx 1 (rf 10 26),c1 (vI 0),none]⟩,[0,1,2,3,4,5,6,7,8,9,10],R,(vK (.cons R R (.row R (.row R (.row R (.row R (.row R (.cons R R (.cons R R (.cons R R (.cons R R (.gone R .nil))))))))))) R),U6 (F:=F) x15 R⟩
  refine cO [10,11,12,13,14,15] ((A16 k12).ok nv8) eK ((.cons R R C25)) R ((.cons R (.row (.row (.row (.row (.row .nil))))))) .nil R (N0 kR (A6 ?_))
  exact .inl ⟨(v8.H0,v8.G8,v8.G2,v8.H4,v8.G3,v8.G9,v8.H5,v8.H9,v8.E7,v8.F8,v8.I9,v8.D8,v8.G0,v8.H6,v8.G5,v8.F5,v8.E8,v8.E5,v8.F3,v8.F4,v8.A1,v8.A5,v8.F9,v8.B1,v8.A7,v8.B0),h,.vw (κ:=[0,1,2,3,4,5,6,7,8,9,10,11,12,13,14,15]) (vK (.cons R R (.row R (.row R (.row R (.row R (.row R (.cons R R (.cons R R (.cons R R (.cons R R (.cons R R B9x))))))))))) R)⟩
 replace h:=P1 c7 h
 by_cases c8:e.kind=7
 ·replace h:=J7 c8 h
  refine A7n (7) tb R R R R R c8 R R R (rU 3 R ?_)
  obtain⟨rv13,k13,h⟩:=H1 h
  rcases eX h with⟨x17,nv9,h⟩ | ⟨v9,nv9,h⟩
  ·refine P0 kR kR (H8 [10,11,12,13,14,15] ((A3o k13).err nv9) R eK R (.inl ⟨R,R,R⟩) R R R R (.cons R R C25) R ?_)
   intro cnt
   refine E9 ?_
   cases h
   exact⟨_,⟨[(4,rf 8 1),(5,rf 9 1)],B6X d [bx 1 (rf 0 26),bx 8 (.d (C7.d e)),bx 1 (rf 10 26),c1 (vI 0),none]⟩,[0,1,2,3,4,5,6,7,8,9,10],R,(vK (.cons R R (.row R (.row R (.row R (.row R (.row R (.cons R R (.cons R R (.cons R R (.cons R R (.gone R .nil))))))))))) R),U6 (F:=F) x17 R⟩
  refine cO [10,11,12,13,14,15] ((A3o k13).ok nv9) eK ((.cons R R C25)) R ((.cons R (.row (.row (.row (.row (.row .nil))))))) .nil R (N0 kR (A6 ?_))
  exact .inl ⟨(v9.H0,v9.G8,v9.G2,v9.H4,v9.G3,v9.G9,v9.H5,v9.H9,v9.E7,v9.F8,v9.I9,v9.D8,v9.G0,v9.H6,v9.G5,v9.F5,v9.E8,v9.E5,v9.F3,v9.F4,v9.A1,v9.A5,v9.F9,v9.B1,v9.A7,v9.B0),h,.vw (κ:=[0,1,2,3,4,5,6,7,8,9,10,11,12,13,14,15]) (vK (.cons R R (.row R (.row R (.row R (.row R (.row R (.cons R R (.cons R R (.cons R R (.cons R R (.cons R R B9x))))))))))) R)⟩
 replace h:=P1 c8 h
 by_cases c9:e.kind=8
 ·replace h:=J7 c9 h
  refine A7n (8) tb R R R R R c9 R R R (rU 3 R ?_)
  obtain⟨rv14,k14,h⟩:=H1 h
  rcases eX h with⟨x19,nv10,h⟩ | ⟨v10,nv10,h⟩
  ·refine P0 kR kR (H8 [10,11,12,13,14,15] ((A4u k14).err nv10) R eK R (.inl ⟨R,R,R⟩) R R R R (.cons R R C25) R ?_)
   intro cnt
   refine E9 ?_
   cases h
   exact⟨_,⟨[(4,rf 8 1),(5,rf 9 1)],B6X d [bx 1 (rf 0 26),bx 8 (.d (C7.d e)),bx 1 (rf 10 26),c1 (vI 0),none]⟩,[0,1,2,3,4,5,6,7,8,9,10],R,(vK (.cons R R (.row R (.row R (.row R (.row R (.row R (.cons R R (.cons R R (.cons R R (.cons R R (.gone R .nil))))))))))) R),U6 (F:=F) x19 R⟩
  refine cO [10,11,12,13,14,15] ((A4u k14).ok nv10) eK ((.cons R R C25)) R ((.cons R (.row (.row (.row (.row (.row .nil))))))) .nil R (N0 kR (A6 ?_))
  exact .inl ⟨(v10.H0,v10.G8,v10.G2,v10.H4,v10.G3,v10.G9,v10.H5,v10.H9,v10.E7,v10.F8,v10.I9,v10.D8,v10.G0,v10.H6,v10.G5,v10.F5,v10.E8,v10.E5,v10.F3,v10.F4,v10.A1,v10.A5,v10.F9,v10.B1,v10.A7,v10.B0),h,.vw (κ:=[0,1,2,3,4,5,6,7,8,9,10,11,12,13,14,15]) (vK (.cons R R (.row R (.row R (.row R (.row R (.row R (.cons R R (.cons R R (.cons R R (.cons R R (.cons R R B9x))))))))))) R)⟩
 replace h:=P1 c9 h
 by_cases c10:e.kind=9
 ·replace h:=J7 c10 h
  refine A7n (9) tb R R R R R c10 R R R (rU 3 R ?_)
  obtain⟨rv15,k15,h⟩:=H1 h
  rcases eX h with⟨x21,nv11,h⟩ | ⟨v11,nv11,h⟩
  ·refine P0 kR kR (H8 [10,11,12,13,14,15] ((A3u k15).err nv11) R eK R (.inl ⟨R,R,R⟩) R R R R (.cons R R C25) R ?_)
   intro cnt
   refine E9 ?_
   cases h
   exact⟨_,⟨[(4,rf 8 1),(5,rf 9 1)],B6X d [bx 1 (rf 0 26),bx 8 (.d (C7.d e)),bx 1 (rf 10 26),c1 (vI 0),none]⟩,[0,1,2,3,4,5,6,7,8,9,10],R,(vK (.cons R R (.row R (.row R (.row R (.row R (.row R (.cons R R (.cons R R (.cons R R (.cons R R (.gone R .nil))))))))))) R),U6 (F:=F) x21 R⟩
  refine cO [10,11,12,13,14,15] ((A3u k15).ok nv11) eK ((.cons R R C25)) R ((.cons R (.row (.row (.row (.row (.row .nil))))))) .nil R (N0 kR (A6 ?_))
  exact .inl ⟨(v11.H0,v11.G8,v11.G2,v11.H4,v11.G3,v11.G9,v11.H5,v11.H9,v11.E7,v11.F8,v11.I9,v11.D8,v11.G0,v11.H6,v11.G5,v11.F5,v11.E8,v11.E5,v11.F3,v11.F4,v11.A1,v11.A5,v11.F9,v11.B1,v11.A7,v11.B0),h,.vw (κ:=[0,1,2,3,4,5,6,7,8,9,10,11,12,13,14,15]) (vK (.cons R R (.row R (.row R (.row R (.row R (.row R (.cons R R (.cons R R (.cons R R (.cons R R (.cons R R B9x))))))))))) R)⟩
 replace h:=P1 c10 h
 cases h
end Go.Proofs.YtlaogbbcipebgaaGreat
