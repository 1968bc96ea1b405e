/- What functions of the program compute: plain functions, and the proofs. -/
import Derived.Test.YtlaogbbcipebgaaGreatW2
set_option linter.unusedVariables false
set_option linter.unusedSimpArgs false
open Array renaming replicate→bt
open Except renaming error→dr
open Go renaming Operand→aa
open Int renaming tdiv→cz
open List renaming replicate→ak,map→ao,set_cons_zero→au,set_cons_succ→av,cons_append→dO,nil_append→cf
open Nat renaming zero_add→aZ,reduceAdd→eo
open Option renaming eq_none_or_eq_some→bB
open Go Go.Proofs.YtlaogbbcipebgaaGreat.Sh Go.Proofs
namespace Go.Proofs.YtlaogbbcipebgaaGreat
open Go.Proofs.Tryz renaming prog → pg
set_option maxRecDepth 100000
set_option maxHeartbeats 40000000
def S4 (F:Nat) (t:D4) (K:Int→Option (Int × Int × Int)):Nat→Int→Option (Int × Int × Int)
 | 0,_=>none
 | n+1,x4=>if x4<(t.points.length:Int)then((P3 t.points x4).bind fun e2=>(Y7 F e2 0 (W ((t.steps.length:Int)-1))).bind fun rv11=>if rv11=true then(some (6,x4,4))else(if 0<x4 then((P3 t.points (W (x4-1))).bind fun e3=>if e2≤e3 then(some (6,x4,2))else(S4 F t K n (W (x4+1))))else(S4 F t K n (W (x4+1)))))else(K x4)
def A0d (F:Nat) (t:D4) (K:Int→Int→Option (Int × Int × Int)):Nat→Int→Int→Option (Int × Int × Int)
 | 0,_,_=>none
 | n+1,rv9,x3=>if x3<(t.steps.length:Int)then((A5E F t x3).bind fun rv10=>if rv10=0 then(A0d F t K n rv10 (W (x3+1)))else(some (5,x3,rv10)))else(K rv9 x3)
def X6 (F:Nat) (t:D4) (K:Int→Int→Option (Int × Int × Int)):Nat→Int→Int→Option (Int × Int × Int)
 | 0,_,_=>none
 | n+1,rv5,x2=>if x2<(t.batteries.length:Int)then((P3 t.batteries x2).bind fun e=>(R7 F t.batteries x2).bind fun rv6=>if rv6=0 then((Y7 F e.charge 1 1000000).bind fun rv7=>if rv7=true then(some (4,x2,7))else((Y7 F e.rate 1 1000).bind fun rv8=>if rv8=true then(some (4,x2,7))else(X6 F t K n rv6 (W (x2+1)))))else(some (4,x2,rv6)))else(K rv5 x2)
def A0e (F:Nat) (t:D4) (K:Int→Int→Option (Int × Int × Int)):Nat→Int→Int→Option (Int × Int × Int)
 | 0,_,_=>none
 | n+1,rv3,x=>if x<(t.stations.length:Int)then((Q6 F t.stations x).bind fun rv4=>if rv4=0 then(A0e F t K n rv4 (W (x+1)))else(some (3,x,rv4)))else(K rv3 x)
def A3Y (F:Nat) (t:D4) (rv:(Int × Int × Int)):Option (Int × Int × Int):=A0e F t (fun rv3 x=>X6 F t (fun rv5 x2=>A0d F t (fun rv9 x3=>S4 F t (fun x4=>(Y7 F t.O8 0 100000).bind fun rv12=>if rv12=true then(some (7,0,7))else((Y7 F t.Q8 0 t.O8).bind fun rv13=>if rv13=true then(some (7,0,7))else(some (0,0,0)))) F 0) F rv5 0) F rv3 0) F rv.2.2 0
def A2o (F:Nat):Option (Int × Int × Int):=some (2,0,3)
def A4P (F:Nat) (t:D4):Option (Int × Int × Int):=(A43 F (D5.mk t.N4 t.P5 t.N6 t.S5 t.J3 t.Q7 t.T9)).bind fun rv=>if rv.2.2=0 then(if 8<(t.stations.length:Int)then(A2o F)else(if 6<(t.batteries.length:Int)then(A2o F)else((Y7 F (t.steps.length:Int) 1 16).bind fun rv2=>if rv2=true then(A2o F)else(A3Y F t rv))))else(some (1,0,rv.2.2))
theorem B0K {F t r} (h:A4P F t=some r):PC pg 34 [D4.d t] (.tup [vI r.1,vI r.2.1,vI r.2.2]):=by
 rw[A4P]at h;refine oW Tryz.func34 ?_;refine gY 4 R (B8 (gU 2 R ?_));obtain⟨rv,k,h⟩:=H1 h;refine J5 (A7f k) eK R R R R (eU 5 R (gU 1 R ?_));refine V5 R R R R (nJ h ?_) (tJ h ?_)
 ·intro h;refine Y9 (cY 4 R ?_);cases h;exact f0 R R R (tC 2 (tC 3 (tC 4 .nil)))
 intro h;refine Y9 (zF (B8 ?_));refine W5 (fun zz:Unit=>A3Y F t rv=some r) (fun zz:Unit=>⟨[(1,rf 0 13),(2,dI 0),(3,dI 0),(4,dI rv.2.2)],[bx 13 (.d (D4.d t))]⟩) ?_ ?_
 ·clear h;rintro⟨⟩ h;rw[A3Y]at h;refine B8 (gU 2 R (I7 tb R (eU 1 R (E3 ?_))));refine C3X (fun K3 m st=>∃ (rv3:Int) (x:Int),st=⟨[(1,rf 0 13),(2,dI 0),(3,dI 0),(4,dI rv3),(39,dI (t.stations.length:Int)),(40,dI x)],[bx 13 (.d (D4.d t))]⟩∧A0e F t K3 m rv3 x=some r) ⟨rv.2.2,0,R,h⟩ (.prn [1,2,3,4,39,40] R) ?_;rintro K3 hK3 m3 _ ⟨rv3,x,rfl,h⟩;rw[A0e]at h;refine qG ?_;refine Q4 R R R R (tJ h ?_) (lJ h ?_)
  ·intro h;refine Y9 (B8 (zT (B8 (E3 (gY 2 R (gU 3 R ?_))))));obtain⟨rv4,k4,h⟩:=H1 h;refine J5 (A3w k4) eK R R R R (eU 1 R (gU 1 R ?_));refine V5 R R R R (nJ h ?_) (tJ h ?_)
   ·intro h;refine Y9 (cY 5 R ?_);cases h;exact f0 R R R (tC 2 (tC 3 (tC 4 .nil)))
   intro h;refine Y9 (zF (hN 2 R ?_));exact bk ⟨rv4,(W (x+1)),R,h⟩ (.prn [1,2,3,4,39,40] R)
  intro h;refine Y9 (B8 (yX ?_));subst hK3;refine B8 (gU 2 R (I7 tb R (eU 1 R (E3 ?_))));refine C3X (fun K6 m st=>∃ (rv5:Int) (x2:Int),st=⟨[(1,rf 0 13),(2,dI 0),(3,dI 0),(4,dI rv5),(53,.d (.arr 3 ((t.batteries).map D9.d))),(54,dI (t.batteries.length:Int)),(55,dI x2)],[bx 13 (.d (D4.d t))]⟩∧X6 F t K6 m rv5 x2=some r) ⟨rv3,0,R,h⟩ (.prn [1,2,3,4,53,54,55] R) ?_;rintro K6 hK6 m6 _ ⟨rv5,x2,rfl,h⟩;rw[X6]at h;refine qG ?_;refine Q4 R R R R (tJ h ?_) (lJ h ?_)
  ·intro h;refine Y9 (B8 (zT (B8 (E3 (gU 1 R ?_)))));obtain⟨e,ie,h⟩:=H1 h;refine yE ie R R (eU 3 R (gU 3 R ?_));obtain⟨rv6,k6,h⟩:=H1 h;refine J5 (A3c k6) eK R R R R (eU 1 R (E3 (gU 1 R ?_)));refine V5 R R R R (nJ h ?_) (tJ h ?_)
   ·intro h;refine eU 1 R (cY 5 R ?_);cases h;exact f0 R R R (tC 2 (tC 3 (tC 4 .nil)))
   intro h;refine eU 1 R (C1 R (gU 2 R ?_));obtain⟨rv7,k7,h⟩:=H1 h;refine M6 (V8 k7) eK R R R R (tI h ?_) (fI h ?_)
   ·intro c9 h;refine eU 6 R (cY 4 R ?_);cases h;exact f0 R R R (tC 2 (tC 3 (tC 4 .nil)))
   intro c9 h;refine rU 3 R ?_;obtain⟨rv8,k8,h⟩:=H1 h;refine M6 (V8 k8) eK R R R R (tI h ?_) (fI h ?_)
   ·intro c10 h;refine eU 2 R (cY 4 R ?_);cases h;exact f0 R R R (tC 2 (tC 3 (tC 4 .nil)))
   intro c10 h;refine eU 2 R (zF (hN 2 R ?_));exact bk ⟨rv6,(W (x2+1)),R,h⟩ (.vq [0])
  intro h;refine Y9 (B8 (yX ?_));subst hK6;refine B8 (gU 2 R (I7 tb R (eU 1 R (E3 ?_))));refine C3X (fun K9 m st=>∃ (rv9:Int) (x3:Int),st=⟨[(1,rf 0 13),(2,dI 0),(3,dI 0),(4,dI rv9),(82,dI (t.steps.length:Int)),(83,dI x3)],[bx 13 (.d (D4.d t))]⟩∧A0d F t K9 m rv9 x3=some r) ⟨rv5,0,R,h⟩ (.prn [1,2,3,4,82,83] R) ?_;rintro K9 hK9 m9 _ ⟨rv9,x3,rfl,h⟩;rw[A0d]at h;refine qG ?_;refine Q4 R R R R (tJ h ?_) (lJ h ?_)
  ·intro h;refine Y9 (B8 (zT (B8 (E3 (gY 2 R (gU 2 R ?_))))));obtain⟨rv10,k10,h⟩:=H1 h;refine J5 (B1C k10) eK R R R R (eU 1 R (gU 1 R ?_));refine V5 R R R R (nJ h ?_) (tJ h ?_)
   ·intro h;refine Y9 (cY 5 R ?_);cases h;exact f0 R R R (tC 2 (tC 3 (tC 4 .nil)))
   intro h;refine Y9 (zF (hN 2 R ?_));exact bk ⟨rv10,(W (x3+1)),R,h⟩ (.prn [1,2,3,4,82,83] R)
  intro h;refine Y9 (B8 (yX ?_));subst hK9;refine B8 (gU 2 R (I7 tb R (eU 1 R (E3 ?_))));refine C3X (fun K12 m st=>∃ (x4:Int),st=⟨[(1,rf 0 13),(2,dI 0),(3,dI 0),(4,dI rv9),(95,.d (aI t.points)),(96,dI (t.points.length:Int)),(97,dI x4)],[bx 13 (.d (D4.d t))]⟩∧S4 F t K12 m x4=some r) ⟨0,R,h⟩ (.prn [1,2,3,4,95,96,97] R) ?_;rintro K12 hK12 m12 _ ⟨x4,rfl,h⟩;rw[S4]at h;refine qG ?_;refine Q4 R R R R (tJ h ?_) (lJ h ?_)
  ·intro h;refine Y9 (B8 (zT (B8 (E3 (gU 1 R ?_)))));obtain⟨e2,ie2,h⟩:=H1 h;refine yE ie2 R R (eU 2 R (E3 (gU 3 R (I7 tb R (rU 1 R ?_)))));obtain⟨rv11,k11,h⟩:=H1 h;refine M6 (V8 k11) eK R R R R (tI h ?_) (fI h ?_)
   ·intro c14 h;refine eU 1 R (cY 4 R ?_);cases h;exact f0 R R R (tC 2 (tC 3 (tC 4 .nil)))
   intro c14 h;refine eU 1 R (C1 R (gU 1 R ?_));refine A4l R R R R (tJ h ?_) (lJ h ?_)
   ·intro h;refine rU 6 R ?_;obtain⟨e3,ie3,h⟩:=H1 h;refine yE ie3 R R ?_;refine B1t R R R R (tJ h ?_) (mJ h ?_)
    ·intro h;refine eU 2 R (cY 4 R ?_);cases h;exact f0 R R R (tC 2 (tC 3 (tC 4 .nil)))
    intro h;refine eU 2 R (zF (hN 2 R ?_));exact bk ⟨(W (x4+1)),R,h⟩ (.prn [1,2,3,4,95,96,97] R)
   intro h;refine eU 11 R (zF (hN 2 R ?_));exact bk ⟨(W (x4+1)),R,h⟩ (.prn [1,2,3,4,95,96,97] R)
  intro h;refine Y9 (B8 (yX ?_));subst hK12;refine B8 (gU 3 R ?_);obtain⟨rv12,k12,h⟩:=H1 h;refine M6 (V8 k12) eK R R R R (tI h ?_) (fI h ?_)
  ·intro c17 h;refine eU 9 R (cY 3 R ?_);cases h;exact f0 R R R (tC 2 (tC 3 (tC 4 .nil)))
  intro c17 h;refine rU 7 R ?_;obtain⟨rv13,k13,h⟩:=H1 h;refine M6 (V8 k13) eK R R R R (tI h ?_) (fI h ?_)
  ·intro c18 h;refine eU 1 R (cY 3 R ?_);cases h;exact f0 R R R (tC 2 (tC 3 (tC 4 .nil)))
  intro c18 h;refine eU 1 R (zF (rY 3 R ?_));cases h;exact f0 R R R (tC 2 (tC 3 (tC 4 .nil)))
 refine B8 ?_;refine W5 (fun zz:Unit=>A2o F=some r) (fun zz:Unit=>⟨[(1,rf 0 13),(2,dI 0),(3,dI 0),(4,dI rv.2.2),(36,dB true)],[bx 13 (.d (D4.d t))]⟩) ?_ ?_
 ·clear h;rintro⟨⟩ h;rw[A2o]at h;refine cY 3 R ?_;cases h;exact f0 R R R (tC 2 (tC 3 (tC 4 .nil)))
 refine hU 2 R (I7 tb R ?_);refine A4l R R R R (tJ h ?_) (lJ h ?_)
 ·intro h;refine nU 12 R ?_;exact .inl ⟨(),h,.prn [1,2,3,4,36] R⟩
 intro h;refine rU 3 R (I7 tb R ?_);refine A4l R R R R (tJ h ?_) (lJ h ?_)
 ·intro h;refine nU 7 R ?_;exact .inl ⟨(),h,.prn [1,2,3,4,36] R⟩
 intro h;refine rU 4 R (I7 tb R ?_);obtain⟨rv2,k2,h⟩:=H1 h;refine M6 (V8 k2) eK R R R R (tI h ?_) (fI h ?_)
 ·intro c4 h;refine nU 1 R ?_;exact .inl ⟨(),h,.prn [1,2,3,4,36] R⟩
 intro c4 h;refine nU 1 R (.inr (zF (A6 ?_)));exact .inl ⟨(),h,.prn [1,2,3,4] R⟩
def A1t (F:Nat) (t:D4) (o:C7):Option Int:=if o.kind=8 then((A3d F (D5.mk t.N4 t.P5 t.N6 t.S5 t.J3 t.Q7 t.T9) (D2.mk o.A04 o.A0D o.A1L o.A0E o.A0F)).bind fun rv4=>some rv4)else(some 0)
def A1u (F:Nat):Option Int:=some 2
def A1v (F:Nat) (t:D4) (o:C7):Option Int:=if o.kind=8 then((A3d F (D5.mk t.N4 t.P5 t.N6 t.S5 t.J3 t.Q7 t.T9) (D2.mk o.A04 o.A0D o.A1L o.A0E o.A0F)).bind fun rv5=>some rv5)else(some 0)
def A3I (F:Nat) (t:D4) (o:C7):Option Int:=(Y7 F o.at_ 0 100000).bind fun rv=>if rv=true then(some 7)else((Y7 F o.kind 1 9).bind fun rv2=>if rv2=true then(some 2)else(if(A2e (M0 (M0 (M0 (M0 (M0 (M0 ([]:List (Int × Int)) 1 (t.steps.length:Int)) 2 (t.steps.length:Int)) 5 (t.stations.length:Int)) 6 (t.stations.length:Int)) 7 (t.points.length:Int)) 9 (t.batteries.length:Int)) o.kind).isSome=true then((Y7 F o.what 0 (W (((A2e (M0 (M0 (M0 (M0 (M0 (M0 ([]:List (Int × Int)) 1 (t.steps.length:Int)) 2 (t.steps.length:Int)) 5 (t.stations.length:Int)) 6 (t.stations.length:Int)) 7 (t.points.length:Int)) 9 (t.batteries.length:Int)) o.kind).getD 0)-1))).bind fun rv3=>if rv3=true then(some 4)else(if o.kind=8 then(if o.kind=8 then(if o.A04=o.at_ then(A1t F t o)else(some 2))else(A1t F t o))else(if(!(D2.beq (D2.mk o.A04 o.A0D o.A1L o.A0E o.A0F) (D2.mk 0 0 0 0 0)))=true then(some 2)else(if o.kind=8 then(if o.A04=o.at_ then(A1t F t o)else(some 2))else(A1t F t o)))))else(if o.what=0 then(if o.kind=8 then(if o.kind=8 then(if o.A04=o.at_ then(A1v F t o)else(A1u F))else(A1v F t o))else(if(!(D2.beq (D2.mk o.A04 o.A0D o.A1L o.A0E o.A0F) (D2.mk 0 0 0 0 0)))=true then(A1u F)else(if o.kind=8 then(if o.A04=o.at_ then(A1v F t o)else(A1u F))else(A1v F t o))))else(A1u F))))
theorem A78 {F t o r} (h:A3I F t o=some r):PC pg 80 [D4.d t,C7.d o] (vI r):=by
 rw[A3I]at h;refine oW Tryz.func80 ?_;refine gY 3 R (B8 (E3 (gU 2 R ?_)));obtain⟨rv,k,h⟩:=H1 h;refine M6 (V8 k) eK R R R R (tI h ?_) (fI h ?_)
 ·intro c h;refine eU 1 R (cY 1 R ?_);cases h;exact f1 4 R
 intro c h;refine eU 1 R (C1 R (gU 2 R ?_));obtain⟨rv2,k2,h⟩:=H1 h;refine M6 (V8 k2) eK R R R R (tI h ?_) (fI h ?_)
 ·intro c2 h;refine eU 1 R (cY 1 R ?_);cases h;exact f1 4 R
 intro c2 h;refine eU 1 R (zF (qG (A58 R R R (rU 2 R (I7 tb R ?_)))));refine A8E (vf:=fun b=>vI b) (v:=(t.steps.length:Int)) (q:=(M0 ([]:List (Int × Int)) 1 (t.steps.length:Int))) ([bx 13 (.d (D4.d t)),bx 8 (.d (C7.d o)),C3C (M0 ([]:List (Int × Int)) 1 (t.steps.length:Int))]) R R R R R R R R R ?_;refine rU 2 R (I7 tb R ?_);refine A8E (vf:=fun b=>vI b) (v:=(t.steps.length:Int)) (q:=(M0 (M0 ([]:List (Int × Int)) 1 (t.steps.length:Int)) 2 (t.steps.length:Int))) ([bx 13 (.d (D4.d t)),bx 8 (.d (C7.d o)),C3C (M0 (M0 ([]:List (Int × Int)) 1 (t.steps.length:Int)) 2 (t.steps.length:Int))]) R R R R R R R R R ?_;refine rU 2 R (I7 tb R ?_);refine A8E (vf:=fun b=>vI b) (v:=(t.stations.length:Int)) (q:=(M0 (M0 (M0 ([]:List (Int × Int)) 1 (t.steps.length:Int)) 2 (t.steps.length:Int)) 5 (t.stations.length:Int))) ([bx 13 (.d (D4.d t)),bx 8 (.d (C7.d o)),C3C (M0 (M0 (M0 ([]:List (Int × Int)) 1 (t.steps.length:Int)) 2 (t.steps.length:Int)) 5 (t.stations.length:Int))]) R R R R R R R R R ?_;refine rU 2 R (I7 tb R ?_);refine A8E (vf:=fun b=>vI b) (v:=(t.stations.length:Int)) (q:=(M0 (M0 (M0 (M0 ([]:List (Int × Int)) 1 (t.steps.length:Int)) 2 (t.steps.length:Int)) 5 (t.stations.length:Int)) 6 (t.stations.length:Int))) ([bx 13 (.d (D4.d t)),bx 8 (.d (C7.d o)),C3C (M0 (M0 (M0 (M0 ([]:List (Int × Int)) 1 (t.steps.length:Int)) 2 (t.steps.length:Int)) 5 (t.stations.length:Int)) 6 (t.stations.length:Int))]) R R R R R R R R R ?_;refine rU 2 R (I7 tb R ?_);refine A8E (vf:=fun b=>vI b) (v:=(t.points.length:Int)) (q:=(M0 (M0 (M0 (M0 (M0 ([]:List (Int × Int)) 1 (t.steps.length:Int)) 2 (t.steps.length:Int)) 5 (t.stations.length:Int)) 6 (t.stations.length:Int)) 7 (t.points.length:Int))) ([bx 13 (.d (D4.d t)),bx 8 (.d (C7.d o)),C3C (M0 (M0 (M0 (M0 (M0 ([]:List (Int × Int)) 1 (t.steps.length:Int)) 2 (t.steps.length:Int)) 5 (t.stations.length:Int)) 6 (t.stations.length:Int)) 7 (t.points.length:Int))]) R R R R R R R R R ?_;refine rU 2 R (I7 tb R ?_);refine A8E (vf:=fun b=>vI b) (v:=(t.batteries.length:Int)) (q:=(M0 (M0 (M0 (M0 (M0 (M0 ([]:List (Int × Int)) 1 (t.steps.length:Int)) 2 (t.steps.length:Int)) 5 (t.stations.length:Int)) 6 (t.stations.length:Int)) 7 (t.points.length:Int)) 9 (t.batteries.length:Int))) ([bx 13 (.d (D4.d t)),bx 8 (.d (C7.d o)),C3C (M0 (M0 (M0 (M0 (M0 (M0 ([]:List (Int × Int)) 1 (t.steps.length:Int)) 2 (t.steps.length:Int)) 5 (t.stations.length:Int)) 6 (t.stations.length:Int)) 7 (t.points.length:Int)) 9 (t.batteries.length:Int))]) R R R R R R R R R ?_;refine rU 3 R ?_;refine C0H (vf:=fun b=>vI b) (z0:=0) (u:=vI ((A2e (M0 (M0 (M0 (M0 (M0 (M0 ([]:List (Int × Int)) 1 (t.steps.length:Int)) 2 (t.steps.length:Int)) 5 (t.stations.length:Int)) 6 (t.stations.length:Int)) 7 (t.points.length:Int)) 9 (t.batteries.length:Int)) o.kind).getD 0)) (b:=(A2e (M0 (M0 (M0 (M0 (M0 (M0 ([]:List (Int × Int)) 1 (t.steps.length:Int)) 2 (t.steps.length:Int)) 5 (t.stations.length:Int)) 6 (t.stations.length:Int)) 7 (t.points.length:Int)) 9 (t.batteries.length:Int)) o.kind).isSome) tb R R R R R R R R R R R ?_;refine rU 3 R ?_;refine X8 (tI h ?_) (fI h ?_)
 ·intro c3 h;refine eU 2 R (B8 (E3 (gU 6 R ?_)));obtain⟨rv3,k3,h⟩:=H1 h;refine M6 (V8 k3) eK R R R R (tI h ?_) (fI h ?_)
  ·intro c4 h;refine eU 2 R (cY 1 R ?_);cases h;exact f1 4 R
  intro c4 h;refine eU 2 R (C1 R (B8 ?_));refine W5 (fun zz:Unit=>A1t F t o=some r) (fun zz:Unit=>⟨[(2,rf 0 13),(3,rf 1 8),(4,dI 0),(50,dB false)],[bx 13 (.d (D4.d t)),bx 8 (.d (C7.d o))]⟩) ?_ ?_
  ·clear h;rintro⟨⟩ h;rw[A1t]at h;refine C1 R (gU 2 R ?_);refine V5 R R R R (nJ h ?_) (tJ h ?_)
   ·intro h;refine eU 1 R (cY 1 R ?_);cases h;exact f1 4 R
   intro h;refine eU 1 R (zF (gU 4 R ?_));obtain⟨rv4,k4,h⟩:=H1 h;refine J5 (A5F k4) eK R R R R (eU 1 R (C9 ?_));cases h;exact f1 4 R
  refine hU 10 R ?_;refine V5 R R R R (nJ h ?_) (tJ h ?_)
  ·intro h;refine rU 3 R (S1 (v := .d (.agg [vI 0,vI 0,vI 0,vI 0,vI 0])) tb R R cN R R R R R R ?_);refine B8c (p:=[.int .i64 o.A04,.int .i64 o.A0D,.int .i64 o.A1L,.int .i64 o.A0E,.int .i64 o.A0F]) (q:=[.int .i64 0,.int .i64 0,.int .i64 0,.int .i64 0,.int .i64 0]) R R (fun o1 o2 w=>C04 (D2.mk o.A04 o.A0D o.A1L o.A0E o.A0F) (D2.mk 0 0 0 0 0) o1 o2 w) R R ?_;refine X8 (tI h ?_) (fI h ?_)
   ·intro c6 h;refine nU 16 R (.inr (cY 1 R ?_));cases h;exact f1 4 R
   intro c6 h;refine rU 5 R ?_;refine Z3 R R R R (tJ h ?_) (nJ h ?_)
   ·intro h;refine rU 6 R ?_;refine V5 R R R R (nJ h ?_) (tJ h ?_)
    ·intro h;refine nU 3 R (.inr (cY 1 R ?_));cases h;exact f1 4 R
    intro h;refine nU 3 R ?_;exact .inl ⟨(),h,.vq [0,1]⟩
   intro h;refine nU 10 R ?_;exact .inl ⟨(),h,.vq [0,1]⟩
  intro h;refine rU 10 R ?_;refine Z3 R R R R (tJ h ?_) (nJ h ?_)
  ·intro h;refine rU 6 R ?_;refine V5 R R R R (nJ h ?_) (tJ h ?_)
   ·intro h;refine nU 3 R (.inr (cY 1 R ?_));cases h;exact f1 4 R
   intro h;refine nU 3 R ?_;exact .inl ⟨(),h,.vq [0,1]⟩
  intro h;refine nU 10 R ?_;exact .inl ⟨(),h,.vq [0,1]⟩
 intro c3 h;refine eU 2 R (B8 (E3 (gY 9 R (C1 R (B8 ?_)))));refine W5 (Sum.elim (fun zz:Unit=>A1u F=some r) (fun zz:Unit=>A1v F t o=some r)) (Sum.elim (fun zz:Unit=>⟨[(2,rf 0 13),(3,rf 1 8),(4,dI 0),(50,dB true)],[bx 13 (.d (D4.d t)),bx 8 (.d (C7.d o))]⟩) (fun zz:Unit=>⟨[(2,rf 0 13),(3,rf 1 8),(4,dI 0),(50,dB false)],[bx 13 (.d (D4.d t)),bx 8 (.d (C7.d o))]⟩)) ?_ ?_
 ·clear h;rintro(⟨⟩ | ⟨⟩) h
  ·dsimp only[Sum.elim]at h ⊢;rw[A1u]at h;refine cY 1 R ?_;cases h;exact f1 4 R
  ·dsimp only[Sum.elim]at h ⊢;rw[A1v]at h;refine C1 R (gU 2 R ?_);refine V5 R R R R (nJ h ?_) (tJ h ?_)
   ·intro h;refine eU 1 R (cY 1 R ?_);cases h;exact f1 4 R
   intro h;refine eU 1 R (zF (gU 4 R ?_));obtain⟨rv5,k5,h⟩:=H1 h;refine J5 (A5F k5) eK R R R R (eU 1 R (C9 ?_));cases h;exact f1 4 R
 refine hU 5 R ?_;refine V5 R R R R (nJ h ?_) (tJ h ?_)
 ·intro h;refine nU 26 R ?_;exact .inl ⟨.inl (),h,.vq [0,1]⟩
 intro h;refine rU 4 R ?_;refine V5 R R R R (nJ h ?_) (tJ h ?_)
 ·intro h;refine rU 3 R (S1 (v := .d (.agg [vI 0,vI 0,vI 0,vI 0,vI 0])) tb R R cN R R R R R R ?_);refine B8c (p:=[.int .i64 o.A04,.int .i64 o.A0D,.int .i64 o.A1L,.int .i64 o.A0E,.int .i64 o.A0F]) (q:=[.int .i64 0,.int .i64 0,.int .i64 0,.int .i64 0,.int .i64 0]) R R (fun o1 o2 w=>C04 (D2.mk o.A04 o.A0D o.A1L o.A0E o.A0F) (D2.mk 0 0 0 0 0) o1 o2 w) R R ?_;refine X8 (tI h ?_) (fI h ?_)
  ·intro c14 h;refine nU 16 R ?_;exact .inl ⟨.inl (),h,.vq [0,1]⟩
  intro c14 h;refine rU 5 R ?_;refine Z3 R R R R (tJ h ?_) (nJ h ?_)
  ·intro h;refine rU 6 R ?_;refine V5 R R R R (nJ h ?_) (tJ h ?_)
   ·intro h;refine nU 3 R ?_;exact .inl ⟨.inl (),h,.vq [0,1]⟩
   intro h;refine nU 3 R ?_;exact .inl ⟨.inr (()),h,.vq [0,1]⟩
  intro h;refine nU 10 R ?_;exact .inl ⟨.inr (()),h,.vq [0,1]⟩
 intro h;refine rU 10 R ?_;refine Z3 R R R R (tJ h ?_) (nJ h ?_)
 ·intro h;refine rU 6 R ?_;refine V5 R R R R (nJ h ?_) (tJ h ?_)
  ·intro h;refine nU 3 R ?_;exact .inl ⟨.inl (),h,.vq [0,1]⟩
  intro h;refine nU 3 R ?_;exact .inl ⟨.inr (()),h,.vq [0,1]⟩
 intro h;refine nU 10 R ?_;exact .inl ⟨.inr (()),h,.vq [0,1]⟩
def A1r (F:Nat) (t:D4) (K:(List Int)→Int→Option ((Option F7) × Int)):Nat→(List Int)→Int→Option ((Option F7) × Int)
 | 0,_,_=>none
 | n+1,lv,x=>if x<(t.batteries.length:Int)then((P3 t.batteries x).bind fun e=>(A8i lv [e.charge]).bind fun q=>A1r F t K n q (W (x+1)))else(K lv x)
def A4Q (F:Nat) (t:D4):Option ((Option F7) × Int):=(A4P F t).bind fun rv=>if rv.2.2=0 then((A44 F (D5.mk t.N4 t.P5 t.N6 t.S5 t.J3 t.Q7 t.T9)).bind fun rv2=>(A0b F [(-1)] (t.steps.length:Int)).bind fun rv3=>(A0b F [(-1)] (t.steps.length:Int)).bind fun rv4=>A1r F t (fun lv x=>(B1D (t.stations.length:Int)).bind fun q2=>(B1D (t.batteries.length:Int)).bind fun q3=>some ((some (F7.mk t.N4 t.P5 t.N6 t.S5 t.J3 t.Q7 t.T9 t.stations t.batteries t.steps t.points t.Q8 t.O8 0 rv2.1.now rv2.1.zones rv2.1.holder rv2.1.squibs rv2.1.siren rv2.1.storm rv3 rv4 false (ak q2 false) lv (ak q3 false))),0)) F ([]:List Int) 0)else(some (none,rv.2.2))
theorem A7t {F t r} (h:A4Q F t=some r):SCO pg 70 (ao T.d [D4.d t]) [] r.1 (.d (.tup [.v (.pointer none),vI r.2])) (ao some []) (fun(tt:F7) => .tup [rf 0 26,dI r.2]) (fun(tt:F7)=>ao some [⟨26,[C5 tt 1 2 3 4 5]⟩,(B7 tt.A1),(B7 tt.A5),(H7 tt.B1),(B7 tt.A7),(H7 tt.B0)]):=by
 rw[A4Q]at h;refine oW Tryz.func70 ?_;refine gY 3 R (B8 (gU 1 R ?_));obtain⟨rv,k,h⟩:=H1 h;refine J5 (B0K k) eK R R R R (eU 7 R (gU 1 R ?_));refine V5 R R R R (nJ h ?_) (tJ h ?_)
 ·intro h;refine Y9 (cY 3 R (B2 ?_));cases h;exact fS [] (.inl ⟨R,R,R⟩) R (tC 2 (tC 3 .nil)) vv
 intro h;refine Y9 (zF (gU 1 R ?_));refine S1 (v := .d (.agg [.arr 8 ((t.N4).map F6.d),.arr 2 ((t.P5).map G6.d),.arr 2 ((t.N6).map E2.d),.arr 1 ((t.S5).map vS),.arr 6 ((t.J3).map D1.d),vI t.Q7,vI t.T9,.arr 1 ((t.stations).map vS),.arr 3 ((t.batteries).map D9.d),.arr 9 ((t.steps).map E0.d),aI t.points,vI t.Q8,vI t.O8,vI 0,vI 0,sZ,sZ,sZ,vI 0,vB false,sZ,sZ,vB false,sZ,sZ,sZ])) tb R R cN kR kR kR kR R R ?_;refine eU 2 R (gU 3 R ?_);obtain⟨rv2,k2,h⟩:=H1 h;refine J5 (B2T k2) eK R R R R (eU 7 R (B8 (T1 kR (rU 2 R (P7 tb R R R R R R R R R R R R R (rU 2 R (I7 tb R ?_)))))));obtain⟨rv3,k3,h⟩:=H1 h;refine A3j (A06 k3) R ((.row (fun _=>rfl) .nil)) eK R R ((.cons (.row R R) (dL .nil))) R ((.row .nil)) R R R ?_;refine P7 tb R R R R R R R R R R R R R (rU 2 R (I7 tb R ?_));obtain⟨rv4,k4,h⟩:=H1 h;refine A3j (A06 k4) R ((.row (fun _=>rfl) .nil)) eK R R ((.cons (.row R R) (dL .nil))) R ((.row .nil)) R R R ?_;refine rU 8 R (I0 kR (B8 (gU 2 R (I7 tb R (eU 1 R (E3 (SW.ow 1 false 1 [24] [1,2,3,7,51,52,53] R ?_)))))));refine C3X (fun K4 m st=>∃ (lv:(List Int)) (x:Int),st=⟨[(1,rf 0 13),(2,.d (.v (.pointer none))),(3,dI 0),(7,rf 1 26),(51,.d (.arr 3 ((t.batteries).map D9.d))),(52,dI (t.batteries.length:Int)),(53,dI x)],[bx 13 (.d (D4.d t)),bx 26 (.agg [.d (.arr 8 ((t.N4).map F6.d)),.d (.arr 2 ((t.P5).map G6.d)),.d (.arr 2 ((t.N6).map E2.d)),.d (.arr 1 ((t.S5).map vS)),.d (.arr 6 ((t.J3).map D1.d)),dI t.Q7,dI t.T9,.d (.arr 1 ((t.stations).map vS)),.d (.arr 3 ((t.batteries).map D9.d)),.d (.arr 9 ((t.steps).map E0.d)),.d (aI t.points),dI t.Q8,dI t.O8,dI 0,dI rv2.1.now,.d (aI rv2.1.zones),.d (aI rv2.1.holder),.d (aI rv2.1.squibs),dI rv2.1.siren,dB rv2.1.storm,.row 2 1 0 (rv3).length,.row 3 1 0 (rv4).length,dB false,dZ,.row 4 1 0 (lv).length,dZ]),B0u rv3,B0u rv4,B0u lv]⟩∧A1r F t K4 m lv x=some r) ⟨([]:List Int),0,R,h⟩ (.vq [0,1,3,5,6]) ?_;rintro K4 hK4 m4 _ ⟨lv,x,rfl,h⟩;rw[A1r]at h;refine qG ?_;refine Q4 R R R R (tJ h ?_) (lJ h ?_)
 ·intro h;refine Y9 (B8 (zT (B8 (E3 (qG ?_)))));obtain⟨e,ie,h⟩:=H1 h;refine yE ie R R (eU 2 R (T1 kR (rU 8 R (P7 tb R R R R R R R R R R R R R ?_))));obtain⟨q,iq,h⟩:=H1 h;refine B2k (g:=vI) (w:=lv) (v:=[e.charge]) ([bx 13 (.d (D4.d t)),bx 26 (.agg [.d (.arr 8 ((t.N4).map F6.d)),.d (.arr 2 ((t.P5).map G6.d)),.d (.arr 2 ((t.N6).map E2.d)),.d (.arr 1 ((t.S5).map vS)),.d (.arr 6 ((t.J3).map D1.d)),dI t.Q7,dI t.T9,.d (.arr 1 ((t.stations).map vS)),.d (.arr 3 ((t.batteries).map D9.d)),.d (.arr 9 ((t.steps).map E0.d)),.d (aI t.points),dI t.Q8,dI t.O8,dI 0,dI rv2.1.now,.d (aI rv2.1.zones),.d (aI rv2.1.holder),.d (aI rv2.1.squibs),dI rv2.1.siren,dB rv2.1.storm,.row 2 1 0 (rv3).length,.row 3 1 0 (rv4).length,dB false,dZ,.row 4 1 0 (lv).length,dZ]),B0u rv3,B0u rv4,none,bx 3 (.d (D9.d e)),B0u [e.charge]]) tb R R R R R R R R R R R iq R R R R R ?_;refine rU 4 R (I0 kR (hN 2 R ?_));exact bk ⟨q,(W (x+1)),R,h⟩ (.vq [0,1,2,3,7])
 intro h;refine Y9 (B8 (yX ?_));subst hK4;refine B8 (T1 kR (rU 4 R (I7 tb R ?_)));obtain⟨q2,iq2,h⟩:=H1 h;refine B00 (v:=false) (g:=vB) tb R R R R R R R ((A6i iq2).1) ((A6i iq2).2) R R R R (rU 2 R (I7 tb R ?_));obtain⟨q3,iq3,h⟩:=H1 h;refine B00 (v:=false) (g:=vB) tb R R R R R R R ((A6i iq3).1) ((A6i iq3).2) R R R R (rU 8 R (I0 kR (rY 3 R ?_)));cases h;exact fS [1,2,3,5,4,6] (.inr ⟨_,R,R,R⟩) R (tC 2 (tC 3 .nil)) vv
def A0v (F:Nat) (s:(List Bool)):Option (List Bool):=(B26 ([]:List Bool) s).bind fun q=>some q
theorem A2T {F s r} (h:A0v F s=some r):SCR pg 171 (ao T.d [.arr 1 ((s).map vB)]) [] (.row 0 1 0 (r).length) (ao some [(H7 r)]):=by
 rw[A0v]at h;refine oW Tryz.func171 ?_;cases s with
 | nil =>
  refine SW.raw 0 1 R fun ad cap=>?_;cases ad with
  | none =>
   replace h:some ([]:List Bool)=some r:=by simpa[A8i,B26]using h
   refine gY 1 R (B8 (gU 1 R (B4l (by intro o a n cap w;cases a<;>cases o<;>simp[go_sem,eqGuard]<;>rfl) R R R (Y9 (C0 R ?_)))));refine SW.unraw 0 1 R ?_;refine SW.unraw 3 1 R ?_;refine gY 1 R (SW.ow 1 true 2 [] [2] R (C9 ?_));cases h;exact f2 [0] C23 R (tC 2 .nil) R
  | some ad =>
   refine gY 1 R (B8 (gU 1 R (B4k (by intro o a n cap w;cases a<;>cases o<;>simp[go_sem,eqGuard]<;>rfl) R R R (Y9 (C1 R ?_)))));refine SW.unraw 0 1 R ?_;refine SW.unraw 3 1 R ?_;refine D7 (qG (P7 tb R R R R R R R R R R R R R (rU 1 R ?_)));obtain⟨q,iq,h⟩:=H1 h;refine B3c (g:=vB) (w:=([]:List Bool)) (v:=([]:List Bool)) ([none]) tb R R R R R R R R (by intro _;exact R) iq R R R R R (eU 1 R (C9 ?_));cases h;exact f2 [1] C23 R (tC 2 .nil) R
 | cons x0 s =>
  refine gY 1 R (B8 (gU 1 R (B4j (by intro o a n cap w;cases a<;>cases o<;>simp[go_sem,eqGuard]<;>rfl) R R R (Y9 (zF (qG (P7 tb R R R R R R R R R R R R R (rU 1 R ?_))))))));obtain⟨q,iq,h⟩:=H1 h;refine B3c (g:=vB) (w:=([]:List Bool)) (v:=(x0::s)) ([none]) tb R R R R R R R R (by intro _;exact R) iq R R R R R (eU 1 R (C9 ?_));cases h;exact f2 [1] C23 R (tC 2 .nil) R
theorem B4y {F s r} (h:A0v F s=some r):PC pg 171 [.arr 1 ((s).map vB)] (.arr 1 ((r).map vB)):=(A2T h).toPC (.row rfl rfl)
def V7 (F:Nat) (s:(List Bool)) (v:Bool) (K:Int→Option Int):Nat→Int→Option Int
 | 0,_=>none
 | n+1,x=>if x<(s.length:Int)then((P3 s x).bind fun e=>if(v==e)=true then(some x)else(V7 F s v K n (W (x+1))))else(K x)
def A2Y (F:Nat) (s:(List Bool)) (v:Bool):Option Int:=V7 F s v (fun x=>some (-1)) F 0
theorem A7L {F s v r} (h:A2Y F s v=some r):PC pg 230 [.arr 1 ((s).map vB),vB v] (vI r):=by
 rw[A2Y]at h;refine oW Tryz.func230 ?_;refine gY 1 R (B8 (gU 1 R (I7 tb R (eU 1 R (E3 ?_)))));refine C3X (fun K2 m st=>∃ (x:Int),st=⟨[(0,.d (.arr 1 ((s).map vB))),(1,dB v),(4,dI 0),(7,dI (s.length:Int)),(8,dI x)],[]⟩∧V7 F s v K2 m x=some r) ⟨0,R,h⟩ (.prn [0,1,4,7,8] R) ?_;rintro K2 hK2 m2 _ ⟨x,rfl,h⟩;rw[V7]at h;refine qG ?_;refine Q4 R R R R (tJ h ?_) (lJ h ?_)
 ·intro h;refine Y9 (B8 (zT (B8 (E3 (gY 2 R (gU 3 R ?_))))));obtain⟨e,ie,h⟩:=H1 h;refine yE ie R R (B6K R R R R R ?_);refine X8 (tI h ?_) (fI h ?_)
  ·intro c2 h;refine Y9 (cY 2 R ?_);cases h;exact f1 4 R
  intro c2 h;refine Y9 (zF (hN 2 R ?_));exact bk ⟨(W (x+1)),R,h⟩ (.prn [0,1,4,7,8] R)
 intro h;refine Y9 (B8 (yX ?_));subst hK2;refine rY 1 R ?_;cases h;exact f1 4 R
def A0H (F:Nat) (s:(List Bool)) (v:Bool):Option Bool:=(A2Y F s v).bind fun rv=>some (decide (0≤rv))
theorem A6J {F s v r} (h:A0H F s v=some r):PC pg 213 [.arr 1 ((s).map vB),vB v] (vB r):=by
 rw[A0H]at h;refine oW Tryz.func213 ?_;refine gY 1 R (gU 2 R ?_);obtain⟨rv,k,h⟩:=H1 h;refine J5 (A7L k) eK R R R R (A3k R R R R (eU 1 R (C9 ?_)));cases h;exact f1 4 R
def A0Y (F:Nat) (d:F7):Option F7:=(T3 F d.A1).bind fun rv=>(T3 F d.A5).bind fun rv2=>(T3 F d.A7).bind fun rv3=>(A0v F d.B1).bind fun rv4=>(A0v F d.B0).bind fun rv5=>some {d with A1:=rv,A5:=rv2,B1:=rv4,A7:=rv3,B0:=rv5}
theorem A61 {F d r} (h:A0Y F d=some r):SCR pg 98 [rf 0 26] (B6X d []) (rf 6 26) (B6X d [bx 26 (C5 r 7 8 9 10 11),B0u r.A1,B0u r.A5,B9r r.B1,B0u r.A7,B9r r.B0]):=by
 rw[A0Y]at h;refine oW Tryz.func98 ?_;refine gY 1 R (gY 5 R (B8 (T1 kR (rU 3 R ?_))));obtain⟨rv,k,h⟩:=H1 h;refine A3j (Y2 k) R ((.row (fun _=>rfl) .nil)) eK R R ((.cons (.row R R) .nil)) R ((.row .nil)) R R R ?_;refine rU 3 R ?_;obtain⟨rv2,k2,h⟩:=H1 h;refine A3j (Y2 k2) R ((.row (fun _=>rfl) .nil)) eK R R ((.cons (.row R R) .nil)) R ((.row .nil)) R R R ?_;refine rU 3 R ?_;obtain⟨rv3,k3,h⟩:=H1 h;refine A3j (Y2 k3) R ((.row (fun _=>rfl) .nil)) eK R R ((.cons (.row R R) .nil)) R ((.row .nil)) R R R ?_;refine rU 9 R (I0 kR (B8 (T1 kR (rU 3 R ?_))));obtain⟨rv4,k4,h⟩:=H1 h;refine A3j (A2T k4) R ((.row (fun _=>rfl) .nil)) eK R R ((.cons (.row R R) .nil)) R ((.row .nil)) R R R ?_;refine rU 3 R ?_;obtain⟨rv5,k5,h⟩:=H1 h;refine A3j (A2T k5) R ((.row (fun _=>rfl) .nil)) eK R R ((.cons (.row R R) .nil)) R ((.row .nil)) R R R ?_;refine rU 6 R (I0 kR (rY 1 R ?_));cases h;exact f2 [0,1,2,3,4,5,6,7,8,10,9,11] (.cons R R (.row R (.row R (.row R (.row R (.row R (.cons R R B9x))))))) R (tC 2 .nil) R
def T6 (F:Nat) (d:F7) (tick:Int) (K:(List Int)→Int→Option F7):Nat→(List Int)→Int→Option F7
 | 0,_,_=>none
 | n+1,d2,x=>if x<(d.E7.length:Int)then((P3 d.E7 x).bind fun e=>(P3 d.B0 x).bind fun e2=>if e2=true then((P3 d2 x).bind fun e3=>(A5g d2 x (max 0 (W (e3-(W ((W (tick-d.H6))*e.rate)))))).bind fun d3=>T6 F d tick K n d3 (W (x+1)))else(T6 F d tick K n d2 (W (x+1))))else(K d2 x)
def A2V (F:Nat) (d:F7) (tick:Int):Option F7:=T6 F d tick (fun d2 x=>some {d with H6:=tick,A7:=d2}) F d.A7 0
theorem A7z {F d tick r} (h:A2V F d tick=some r):SCR pg 99 [rf 0 26,dI tick] (B6X d []) (.d (.tup [])) (B6X r []):=by
 rw[A2V]at h;refine oW Tryz.func99 ?_;refine B8 (gU 5 R (I7 tb R (eU 1 R (E3 ?_))));refine C3X (fun K3 m st=>∃ (d2:(List Int)) (x:Int),st=⟨[(0,rf 0 26),(1,dI tick),(10,.d (.arr 3 ((d.E7).map D9.d))),(11,dI (d.E7.length:Int)),(12,dI x)],[bx 26 (C5 {d with A7:=d2} 1 2 3 4 5),B0u d.A1,B0u d.A5,B9r d.B1,B0u d2,B9r d.B0]⟩∧T6 F d tick K3 m d2 x=some r) ⟨d.A7,0,R,h⟩ (.prn [0,1,10,11,12] R) ?_;rintro K3 hK3 m3 _ ⟨d2,x,rfl,h⟩;rw[T6]at h;refine qG ?_;refine Q4 R R R R (tJ h ?_) (lJ h ?_)
 ·intro h;refine Y9 (B8 (zT (B8 (E3 (gU 1 R ?_)))));obtain⟨e,ie,h⟩:=H1 h;refine yE ie R R (eU 3 R (gU 6 R ?_));obtain⟨e2,ie2,h⟩:=H1 h;refine Y1 tb R R R R R R (F0 ie2) (ix1 ie2) R R ?_;refine A15 (y:=vB e2) tb R R R R (U5 (g:=fun a=>T.d (vB a)) ie2) R R R R ?_;refine X8 (tI h ?_) (fI h ?_)
  ·intro c2 h;refine Y9 (C0 R (T1 kR (rU 12 R ?_)));obtain⟨e3,ie3,h⟩:=H1 h;refine Y1 tb R R R R R R (F0 ie3) (ix1 ie3) R R ?_;refine A15 (y:=vI e3) tb R R R R (U5 (g:=fun a=>T.d (vI a)) ie3) R R R R ?_;refine rU 11 R (B3f R R R R (Y1 tb R R R R R R (F0 ie3) (ix1 ie3) R R ?_));obtain⟨d3,id3,h⟩:=H1 h;refine A5d (a':=((max 0 (W (e3-(W ((W (tick-d.H6))*e.rate))))):Int)) tb R R R R ie3 R R R R id3 R R ?_;dsimp only[au,av,J2,C6,A0h,C5];first | rw[A2a id3] | skip
   refine I0 kR (hN 2 R ?_);exact bk ⟨d3,(W (x+1)),R,h⟩ (.vq [0,1,2,3,4,5])
  intro c2 h;refine Y9 (zF (hN 2 R ?_));exact bk ⟨d2,(W (x+1)),R,h⟩ (.vq [0,1,2,3,4,5])
 intro h;refine Y9 (B8 (yX ?_));subst hK3;refine hE 6 R ?_;cases h;exact A1R (fS [0,1,2,3,4,5] ⟨R,R⟩ R .nil vv)
def P4 (F:Nat) (is:Bool) (why:Int):Option (Except Int Unit):=if is=true then(some (.ok ()))else(some (.error why))
theorem G1 {F is why r} (h:P4 F is why=some r):SCX pg 97 [dB is,dI why] [] r 43 (fun(a:Unit) => .d (.tup [])) (fun(a:Unit)=>[]):=by
 rw[P4]at h;refine oW Tryz.func97 ?_;refine gU 1 R ?_;refine X8 (tI h ?_) (fI h ?_)
 ·intro c h;refine eU 1 R (zF ?_);cases h;exact A1R (fS [] (.inl ⟨_,R,R,R⟩) R .nil vv)
 intro c h;refine eU 1 R (C0 R (X0 (rU 1 R (B5T tb R R R R R (T2 ?_)))))
 (with_reducible apply B2d);(iterate 2 exact rfl)
 cases h;exact M3 (L:=[]) (κ:=[]) vv (.inr ⟨_,R,R⟩)
def Z4 (F:Nat) (d:F7) (x:E0):Option (Except Int F7):=if x.poll=true then((A0H F d.B1 false).bind fun rv=>(P4 F (!rv) 184).bind fun rv2=>exE rv2 (fun x2=>some (.error x2)) (fun v=>some (.ok d)))else((P4 F true 184).bind fun rv3=>exE rv3 (fun x3=>some (.error x3)) (fun v2=>some (.ok d)))
theorem A0J {F d x r} (h:Z4 F d x=some r):SCX pg 172 [rf 0 26,.d (E0.d x)] (B6X d []) r 43 (fun(a:F7) => .d (.tup [])) (fun(a:F7)=>(B6X a [])):=by
 rw[Z4]at h;refine oW Tryz.func172 ?_;refine gY 1 R (X0 (rU 2 R ?_));refine X8 (tI h ?_) (fI h ?_)
 ·intro c h;refine rU 7 R ?_;obtain⟨rv,k,h⟩:=H1 h;refine A19 (A6J k) R eK R R ((.cons (.row R R) (dL .nil))) R R (rU 2 R ?_);obtain⟨rv2,k2,h⟩:=H1 h;rcases eX h with⟨x2,nv,h⟩ | ⟨v,nv,h⟩
  ·refine T2 (H8 [] ((G1 k2).err nv) R eK R (.inl ⟨R,R,R⟩) R R R R .nil R ?_);intro cnt;cases h;exact M3 (L:=B6X d []) (κ:=[0,1,2,3,4,5]) vv (.inr ⟨_,R,R⟩)
  refine cO [] ((G1 k2).ok nv) eK .nil R .nil .nil R (R2 ?_);cases h;exact A1R (fS [0,1,2,3,4,5] (.inl ⟨_,R,R,R⟩) R .nil vv)
 intro c h;refine rU 10 R ?_;obtain⟨rv3,k3,h⟩:=H1 h;rcases eX h with⟨x3,nv2,h⟩ | ⟨v2,nv2,h⟩
 ·refine T2 (H8 [] ((G1 k3).err nv2) R eK R (.inl ⟨R,R,R⟩) R R R R .nil R ?_);intro cnt;cases h;exact M3 (L:=B6X d []) (κ:=[0,1,2,3,4,5]) vv (.inr ⟨_,R,R⟩)
 refine cO [] ((G1 k3).ok nv2) eK .nil R .nil .nil R (R2 ?_);cases h;exact A1R (fS [0,1,2,3,4,5] (.inl ⟨_,R,R,R⟩) R .nil vv)
def Q5 (F:Nat) (d:F7) (x:E0) (others:(List Int)) (K:Int→Option (Except Int F7)):Nat→Int→Option (Except Int F7)
 | 0,_=>none
 | n+1,x2=>if x2<(x.use_.length:Int)then((P3 x.use_ x2).bind fun e=>(P3 d.A7 e).bind fun e2=>if 0<e2 then((P3 d.B0 e).bind fun e3=>if e3=true then((P4 F true 185).bind fun rv=>exE rv (fun x3=>some (.error x3)) (fun v=>Q5 F d x others K n (W (x2+1))))else((S9 F others e).bind fun rv2=>(P4 F rv2 185).bind fun rv3=>exE rv3 (fun x4=>some (.error x4)) (fun v2=>Q5 F d x others K n (W (x2+1)))))else((P4 F false 185).bind fun rv4=>exE rv4 (fun x5=>some (.error x5)) (fun v3=>none)))else(K x2)
def X7 (F:Nat) (d:F7) (x:E0) (others:(List Int)):Option (Except Int F7):=Q5 F d x others (fun x2=>some (.ok d)) F 0
theorem A3v {F d x others r} (h:X7 F d x others=some r):SCX pg 173 [rf 0 26,.d (E0.d x),.d (aI others)] (B6X d []) r 43 (fun(a:F7) => .d (.tup [])) (fun(a:F7)=>(B6X a [])):=by
 rw[X7]at h;refine oW Tryz.func173 ?_;refine gY 1 R (gU 2 R (I7 tb R (eU 1 R (E3 ?_))));refine C3X (fun K2 m st=>∃ (x2:Int),st=⟨[(0,rf 0 26),(2,.d (aI others)),(9,.d (aI x.use_)),(10,dI (x.use_.length:Int)),(11,dI x2)],B6X d []⟩∧Q5 F d x others K2 m x2=some r) ⟨0,R,h⟩ (.vq [0,1,2,3,4,5]) ?_;rintro K2 hK2 m2 _ ⟨x2,rfl,h⟩;rw[Q5]at h;refine qG ?_;refine Q4 R R R R (tJ h ?_) (lJ h ?_)
 ·intro h;refine Y9 (B8 (zT (B8 (E3 (qG ?_)))));obtain⟨e,ie,h⟩:=H1 h;refine yE ie R R (eU 1 R (X0 (rU 6 R ?_)));obtain⟨e2,ie2,h⟩:=H1 h;refine Y1 tb R R R R R R (F0 ie2) (ix1 ie2) R R ?_;refine A15 (y:=vI e2) tb R R R R (U5 (g:=fun a=>T.d (vI a)) ie2) R R R R ?_;refine A4l R R R R (tJ h ?_) (lJ h ?_)
  ·intro h;refine rU 7 R ?_;obtain⟨e3,ie3,h⟩:=H1 h;refine Y1 tb R R R R R R (F0 ie3) (ix1 ie3) R R ?_;refine A15 (y:=vB e3) tb R R R R (U5 (g:=fun a=>T.d (vB a)) ie3) R R R R ?_;refine X8 (tI h ?_) (fI h ?_)
   ·intro c3 h;refine rU 6 R ?_;obtain⟨rv,k,h⟩:=H1 h;rcases eX h with⟨x3,nv,h⟩ | ⟨v,nv,h⟩
    ·refine T2 (H8 [] ((G1 k).err nv) R eK R (.inl ⟨R,R,R⟩) R R R R .nil R ?_);intro cnt;refine Q0 (E9 (E9 (Q0 ?_)));cases h;exact M3 (L:=B6X d []) (κ:=[0,1,2,3,4,5]) vv (.inr ⟨_,R,R⟩)
    refine cO [] ((G1 k).ok nv) eK .nil R .nil .nil R (R2 (hN 2 R ?_));exact bk ⟨(W (x2+1)),R,h⟩ (.prn [0,2,9,10,11] R)
   intro c3 h;refine rU 3 R ?_;obtain⟨rv2,k2,h⟩:=H1 h;refine J5 (A1g k2) eK R R R R (rU 2 R ?_);obtain⟨rv3,k3,h⟩:=H1 h;rcases eX h with⟨x4,nv2,h⟩ | ⟨v2,nv2,h⟩
   ·refine T2 (H8 [] ((G1 k3).err nv2) R eK R (.inl ⟨R,R,R⟩) R R R R .nil R ?_);intro cnt;refine Q0 (E9 (E9 (Q0 ?_)));cases h;exact M3 (L:=B6X d []) (κ:=[0,1,2,3,4,5]) vv (.inr ⟨_,R,R⟩)
   refine cO [] ((G1 k3).ok nv2) eK .nil R .nil .nil R (R2 (hN 2 R ?_));exact bk ⟨(W (x2+1)),R,h⟩ (.prn [0,2,9,10,11] R)
  intro h;refine rU 15 R ?_;obtain⟨rv4,k4,h⟩:=H1 h;rcases eX h with⟨x5,nv3,h⟩ | ⟨v3,nv3,h⟩
  ·refine T2 (H8 [] ((G1 k4).err nv3) R eK R (.inl ⟨R,R,R⟩) R R R R .nil R ?_);intro cnt;refine Q0 (E9 (E9 (Q0 ?_)));cases h;exact M3 (L:=B6X d []) (κ:=[0,1,2,3,4,5]) vv (.inr ⟨_,R,R⟩)
  cases h
 intro h;refine Y9 (B8 (yX ?_));subst hK2;refine I5 ?_;cases h;exact A1R (fS [0,1,2,3,4,5] (.inl ⟨_,R,R,R⟩) R .nil vv)
def P2 (F:Nat) (d:F7) (x:E0) (K:Int→Option (Except Int F7)):Nat→Int→Option (Except Int F7)
 | 0,_=>none
 | n+1,x2=>if x2<(x.use_.length:Int)then((P3 x.use_ x2).bind fun e=>(P3 d.A7 e).bind fun e2=>if 0<e2 then((P3 d.B0 e).bind fun e3=>if e3=true then((P4 F true 185).bind fun rv=>exE rv (fun x3=>some (.error x3)) (fun v=>P2 F d x K n (W (x2+1))))else((S9 F [] e).bind fun rv2=>(P4 F rv2 185).bind fun rv3=>exE rv3 (fun x4=>some (.error x4)) (fun v2=>P2 F d x K n (W (x2+1)))))else((P4 F false 185).bind fun rv4=>exE rv4 (fun x5=>some (.error x5)) (fun v3=>none)))else(K x2)
def Y6 (F:Nat) (d:F7) (x:E0):Option (Except Int F7):=P2 F d x (fun x2=>some (.ok d)) F 0
theorem A3b {F d x r} (h:Y6 F d x=some r):SCX pg 173 [rf 0 26,.d (E0.d x),dZ] (B6X d []) r 43 (fun(a:F7) => .d (.tup [])) (fun(a:F7)=>(B6X a [])):=by
 rw[Y6]at h;refine oW Tryz.func173 ?_;refine gY 1 R (gU 2 R (I7 tb R (eU 1 R (E3 ?_))));refine C3X (fun K2 m st=>∃ (x2:Int),st=⟨[(0,rf 0 26),(2,dZ),(9,.d (aI x.use_)),(10,dI (x.use_.length:Int)),(11,dI x2)],B6X d []⟩∧P2 F d x K2 m x2=some r) ⟨0,R,h⟩ (.vq [0,1,2,3,4,5]) ?_;rintro K2 hK2 m2 _ ⟨x2,rfl,h⟩;rw[P2]at h;refine qG ?_;refine Q4 R R R R (tJ h ?_) (lJ h ?_)
 ·intro h;refine Y9 (B8 (zT (B8 (E3 (qG ?_)))));obtain⟨e,ie,h⟩:=H1 h;refine yE ie R R (eU 1 R (X0 (rU 6 R ?_)));obtain⟨e2,ie2,h⟩:=H1 h;refine Y1 tb R R R R R R (F0 ie2) (ix1 ie2) R R ?_;refine A15 (y:=vI e2) tb R R R R (U5 (g:=fun a=>T.d (vI a)) ie2) R R R R ?_;refine A4l R R R R (tJ h ?_) (lJ h ?_)
  ·intro h;refine rU 7 R ?_;obtain⟨e3,ie3,h⟩:=H1 h;refine Y1 tb R R R R R R (F0 ie3) (ix1 ie3) R R ?_;refine A15 (y:=vB e3) tb R R R R (U5 (g:=fun a=>T.d (vB a)) ie3) R R R R ?_;refine X8 (tI h ?_) (fI h ?_)
   ·intro c3 h;refine rU 6 R ?_;obtain⟨rv,k,h⟩:=H1 h;rcases eX h with⟨x3,nv,h⟩ | ⟨v,nv,h⟩
    ·refine T2 (H8 [] ((G1 k).err nv) R eK R (.inl ⟨R,R,R⟩) R R R R .nil R ?_);intro cnt;refine Q0 (E9 (E9 (Q0 ?_)));cases h;exact M3 (L:=B6X d []) (κ:=[0,1,2,3,4,5]) vv (.inr ⟨_,R,R⟩)
    refine cO [] ((G1 k).ok nv) eK .nil R .nil .nil R (R2 (hN 2 R ?_));exact bk ⟨(W (x2+1)),R,h⟩ (.prn [0,2,9,10,11] R)
   intro c3 h;refine rU 3 R ?_;obtain⟨rv2,k2,h⟩:=H1 h;refine A19 (A1g k2) R eK R R ((.cons .nilA (dL .nil))) R R (rU 2 R ?_);obtain⟨rv3,k3,h⟩:=H1 h;rcases eX h with⟨x4,nv2,h⟩ | ⟨v2,nv2,h⟩
   ·refine T2 (H8 [] ((G1 k3).err nv2) R eK R (.inl ⟨R,R,R⟩) R R R R .nil R ?_);intro cnt;refine Q0 (E9 (E9 (Q0 ?_)));cases h;exact M3 (L:=B6X d []) (κ:=[0,1,2,3,4,5]) vv (.inr ⟨_,R,R⟩)
   refine cO [] ((G1 k3).ok nv2) eK .nil R .nil .nil R (R2 (hN 2 R ?_));exact bk ⟨(W (x2+1)),R,h⟩ (.prn [0,2,9,10,11] R)
  intro h;refine rU 15 R ?_;obtain⟨rv4,k4,h⟩:=H1 h;rcases eX h with⟨x5,nv3,h⟩ | ⟨v3,nv3,h⟩
  ·refine T2 (H8 [] ((G1 k4).err nv3) R eK R (.inl ⟨R,R,R⟩) R R R R .nil R ?_);intro cnt;refine Q0 (E9 (E9 (Q0 ?_)));cases h;exact M3 (L:=B6X d []) (κ:=[0,1,2,3,4,5]) vv (.inr ⟨_,R,R⟩)
  cases h
 intro h;refine Y9 (B8 (yX ?_));subst hK2;refine I5 ?_;cases h;exact A1R (fS [0,1,2,3,4,5] (.inl ⟨_,R,R,R⟩) R .nil vv)
def Y5 (F:Nat) (d:F7) (i:Int):Option Bool:=(P3 d.A5 i).bind fun e=>some (decide (0≤e))
theorem A1s {F d i r} (h:Y5 F d i=some r):PC pg 89 [.el 26 (([d]).map F7.d) ((0:Int)).toNat 0,vI i] (vB r):=by
 rw[Y5]at h;refine oW Tryz.func89 ?_;refine gY 1 R (gU 4 R (I4 (y:=aI d.A5) tb (U5 (g:=F7.d) (R:P3 [d] 0=some d)) R (rU 1 R ?_)));obtain⟨e,ie,h⟩:=H1 h;refine yE ie R R (A3k R R R R (eU 1 R (C9 ?_)));cases h;exact f1 4 R
def A0R (F:Nat) (d:F7) (i:Int):Option Bool:=(P3 d.A1 i).bind fun e=>if 0≤e then((Y5 F d i).bind fun rv=>some (!rv))else(some false)
theorem A38 {F d i r} (h:A0R F d i=some r):PC pg 91 [.el 26 (([d]).map F7.d) ((0:Int)).toNat 0,vI i] (vB r):=by
 rw[A0R]at h;refine oW Tryz.func91 ?_;refine gY 1 R (gU 4 R (I4 (y:=aI d.A1) tb (U5 (g:=F7.d) (R:P3 [d] 0=some d)) R (rU 1 R ?_)));obtain⟨e,ie,h⟩:=H1 h;refine yE ie R R ?_;refine A7I R R R R (tJ h ?_) (mJ h ?_)
 ·intro h;refine rU 3 R ?_;obtain⟨rv,k,h⟩:=H1 h;refine J5 (A1s k) eK R R R R (eU 3 R (C9 ?_));cases h;exact f1 4 R
 intro h;refine eU 7 R (C9 ?_);cases h;exact f1 4 R
def U8 (F:Nat) (d:F7):Option Int:=some (W ((d.F8.length:Int)-1))
theorem A0i {F d r} (h:U8 F d=some r):PC pg 90 [.el 26 (([d]).map F7.d) ((0:Int)).toNat 0] (vI r):=by
 rw[U8]at h;refine oW Tryz.func90 ?_;refine gY 1 R (gU 4 R (I4 (y := .arr 9 ((d.F8).map E0.d)) tb (U5 (g:=F7.d) (R:P3 [d] 0=some d)) R (I7 tb R (eU 2 R (C9 ?_)))));cases h;exact f1 2 R
def P8 (F:Nat) (e:E0) (K:(List Bool)→Int→Option (Except Int F7)):Nat→(List Bool)→Int→Option (Except Int F7)
 | 0,_,_=>none
 | n+1,t2,x7=>if x7<(e.on_.length:Int)then((P3 e.on_ x7).bind fun e5=>(P3 t2 e5).bind fun e6=>(A5g t2 e5 true).bind fun t3=>P8 F e K n t3 (W (x7+1)))else(K t2 x7)
def T4 (F:Nat) (t:F7) (e:E0) (K:Int→Option (Except Int F7)):Nat→Int→Option (Except Int F7)
 | 0,_=>none
 | n+1,x2=>if x2<(e.need.length:Int)then((P3 e.need x2).bind fun e3=>(Y5 F t e3).bind fun rv2=>(P4 F rv2 182).bind fun rv3=>exE rv3 (fun x3=>some (.error x3)) (fun v2=>T4 F t e K n (W (x2+1))))else(K x2)
def A0X (F:Nat) (t:F7) (o:C7):Option (Except Int F7):=(P3 t.F8 o.what).bind fun e=>(P3 t.A1 o.what).bind fun e2=>(P4 F (decide (e2<0)) 181).bind fun rv=>exE rv (fun x=>some (.error x)) (fun v=>T4 F t e (fun x2=>(P4 F (!t.F9) 183).bind fun rv4=>exE rv4 (fun x4=>some (.error x4)) (fun v3=>(Z4 F t e).bind fun rv5=>exE rv5 (fun x5=>some (.error x5)) (fun v4=>(X7 F v4 e e.on_).bind fun rv6=>exE rv6 (fun x6=>some (.error x6)) (fun v5=>(P3 v5.A1 o.what).bind fun e4=>(A5g v5.A1 o.what o.at_).bind fun q=>P8 F e (fun t2 x7=>some (.ok {v5 with A1:=q,B0:=t2})) F v5.B0 0)))) F 0)
theorem A3H {F t o r} (h:A0X F t o=some r):SCX pg 100 [rf 0 26,.d (C7.d o)] (B6X t []) r 43 (fun(a:F7) => .d (.tup [])) (fun(a:F7)=>(B6X a [])):=by
 rw[A0X]at h;refine oW Tryz.func100 ?_;refine gY 1 R (B8 (T1 kR (rU 7 R ?_)));obtain⟨e,ie,h⟩:=H1 h;refine yE ie R R (rU 2 R (I0 kR (B8 (A0V kR (rU 7 R ?_)))));obtain⟨e2,ie2,h⟩:=H1 h;refine Y1 tb R R R R R R (F0 ie2) (ix1 ie2) R R ?_;refine A15 (y:=vI e2) tb R R R R (U5 (g:=fun a=>T.d (vI a)) ie2) R R R R ?_;refine B8b R R R R ?_;obtain⟨rv,k,h⟩:=H1 h;rcases eX h with⟨x,nv,h⟩ | ⟨v,nv,h⟩
 ·refine P0 kR kR (H8 [] ((G1 k).err nv) R eK R (.inl ⟨R,R,R⟩) R R R R .nil R ?_);intro cnt;refine E9 ?_;cases h;exact M3 (L:=B6X t []) (κ:=[0,1,2,3,4,5]) vv (.inr ⟨_,R,R⟩)
 refine cO [] ((G1 k).ok nv) eK .nil R .nil .nil R (N0 kR (B8 (gU 2 R (I7 tb R (eU 1 R (E3 ?_))))));refine C3X (fun K3 m st=>∃ (x2:Int),st=⟨[(0,rf 0 26),(3,rf 6 8),(4,rf 7 9),(30,.d (aI e.need)),(31,dI (e.need.length:Int)),(32,dI x2)],B6X t [bx 8 (.d (C7.d o)),bx 9 (.d (E0.d e))]⟩∧T4 F t e K3 m x2=some r) ⟨0,R,h⟩ (.prn [0,3,4,30,31,32] R) ?_;rintro K3 hK3 m3 _ ⟨x2,rfl,h⟩;rw[T4]at h;refine qG ?_;refine Q4 R R R R (tJ h ?_) (lJ h ?_)
 ·intro h;refine Y9 (B8 (zT (B8 (E3 (qG ?_)))));obtain⟨e3,ie3,h⟩:=H1 h;refine yE ie3 R R (eU 1 R (X0 (rU 2 R ?_)));obtain⟨rv2,k2,h⟩:=H1 h;refine A19 (A1s k2) R eK R R ((.cons (.ref R ld) (dL .nil))) R R ?_;obtain⟨rv3,k3,h⟩:=H1 h;rcases eX h with⟨x3,nv2,h⟩ | ⟨v2,nv2,h⟩
  ·refine T2 (H8 [] ((G1 k3).err nv2) R eK R (.inl ⟨R,R,R⟩) R R R R .nil R ?_);intro cnt;refine Q0 (E9 (E9 (Q0 (E9 ?_))));cases h;exact M3 (L:=B6X t []) (κ:=[0,1,2,3,4,5]) vv (.inr ⟨_,R,R⟩)
  refine cO [] ((G1 k3).ok nv2) eK .nil R .nil .nil R (R2 (hN 2 R ?_));exact bk ⟨(W (x2+1)),R,h⟩ (.prn [0,3,4,30,31,32] R)
 intro h;refine Y9 (B8 (yX ?_));subst hK3;refine B8 (X0 (rU 6 R ?_));obtain⟨rv4,k4,h⟩:=H1 h;rcases eX h with⟨x4,nv3,h⟩ | ⟨v3,nv3,h⟩
 ·refine T2 (H8 [] ((G1 k4).err nv3) R eK R (.inl ⟨R,R,R⟩) R R R R .nil R ?_);intro cnt;refine E9 ?_;cases h;exact M3 (L:=B6X t []) (κ:=[0,1,2,3,4,5]) vv (.inr ⟨_,R,R⟩)
 refine cO [] ((G1 k4).ok nv3) eK .nil R .nil .nil R (R2 (B8 (X0 (rU 2 R ?_))));obtain⟨rv5,k5,h⟩:=H1 h;rcases eX h with⟨x5,nv4,h⟩ | ⟨v4,nv4,h⟩
 ·refine T2 (H8 [0,1,2,3,4,5] ((A0J k5).err nv4) R eK R (.inl ⟨R,R,R⟩) R R R R (.cons R R C25) R ?_);intro cnt;refine E9 ?_;cases h;exact M3 (L:=[none,none,none,none,none,none]) (κ:=[0,1,2,3,4,5]) vv (.inr ⟨_,R,R⟩)
 refine cO [0,1,2,3,4,5] ((A0J k5).ok nv4) eK ((.cons R R C25)) R ((.cons R (.row (.row (.row (.row (.row .nil))))))) .nil R (R2 (B8 (X0 (rU 4 R ?_))));obtain⟨rv6,k6,h⟩:=H1 h;rcases eX h with⟨x6,nv5,h⟩ | ⟨v5,nv5,h⟩
 ·refine T2 (H8 [0,1,2,3,4,5] ((A3v k6).err nv5) R eK R (.inl ⟨R,R,R⟩) R R R R (.cons R R C25) R ?_);intro cnt;refine E9 ?_;cases h;exact M3 (L:=[none,none,none,none,none,none]) (κ:=[0,1,2,3,4,5]) vv (.inr ⟨_,R,R⟩)
 refine cO [0,1,2,3,4,5] ((A3v k6).ok nv5) eK ((.cons R R C25)) R ((.cons R (.row (.row (.row (.row (.row .nil))))))) .nil R (R2 (B8 (T1 kR (rU 9 R ?_))));obtain⟨e4,ie4,h⟩:=H1 h;refine Y1 tb R R R R R R (F0 ie4) (ix1 ie4) R R ?_;obtain⟨q,iq,h⟩:=H1 h;refine A5d (a':=(o.at_:Int)) tb R R R R ie4 R R R R iq R R ?_;dsimp only[au,av,J2,C6,A0h,C5];first | rw[A2a iq] | skip
 refine I0 kR (gU 2 R (I7 tb R (eU 1 R (E3 ?_))));refine C3X (fun K5 m st=>∃ (t2:(List Bool)) (x7:Int),st=⟨[(0,rf 0 26),(67,.d (aI e.on_)),(68,dI (e.on_.length:Int)),(69,dI x7)],[bx 26 (C5 {v5 with A1:=q,B0:=t2} 1 2 3 4 5),B0u q,B0u v5.A5,B9r v5.B1,B0u v5.A7,B9r t2]⟩∧P8 F e K5 m t2 x7=some r) ⟨v5.B0,0,R,h⟩ (.vq [0,1,2,3,4,5]) ?_;rintro K5 hK5 m5 _ ⟨t2,x7,rfl,h⟩;rw[P8]at h;refine qG ?_;refine Q4 R R R R (tJ h ?_) (lJ h ?_)
 ·intro h;refine Y9 (B8 (zT (B8 (E3 (qG ?_)))));obtain⟨e5,ie5,h⟩:=H1 h;refine yE ie5 R R (eU 1 R (hU 6 R ?_));obtain⟨e6,ie6,h⟩:=H1 h;refine Y1 tb R R R R R R (F0 ie6) (ix1 ie6) R R ?_;obtain⟨t3,it3,h⟩:=H1 h;refine A5d (a':=(true:Bool)) tb R R R R ie6 R R R R it3 R R ?_;dsimp only[au,av,J2,C6,A0h,C5];first | rw[A2a it3] | skip
  refine Y9 (hN 2 R ?_);exact bk ⟨t3,(W (x7+1)),R,h⟩ (.prn [0,67,68,69] R)
 intro h;refine Y9 (B8 (yX ?_));subst hK5;refine I5 ?_;cases h;exact A1R (fS [0,1,2,3,4,5] (.inl ⟨_,R,R,R⟩) R .nil vv)
def A07 (F:Nat) (d:F7) (a:D2):Option (Except Int F7):=(A7D F (D5.mk d.H0 d.G8 d.G2 d.H4 d.G3 d.G9 d.H5) (C3.mk d.G5 d.F5 d.E8 d.E5 d.F3 d.F4) a).bind fun rv=>(P4 F (decide (rv.2=0)) rv.2).bind fun rv2=>exE rv2 (fun x=>some (.error x)) (fun v=>some (.ok {d with G5:=rv.1.now,F5:=rv.1.zones,E8:=rv.1.holder,E5:=rv.1.squibs,F3:=rv.1.siren,F4:=rv.1.storm}))
theorem A1M {F d a r} (h:A07 F d a=some r):SCX pg 174 [rf 0 26,.d (D2.d a)] (B6X d []) r 43 (fun(a:F7) => .d (.tup [])) (fun(a:F7)=>(B6X a [])):=by
 rw[A07]at h;refine oW Tryz.func174 ?_;refine gY 1 R (B8 (T1 kR (rU 11 R ?_)));obtain⟨rv,k,h⟩:=H1 h;refine J5 (B6H k) eK R R R R (rU 6 R (I0 kR (B8 (X0 (rU 1 R (A3s R R R R (rU 1 R ?_)))))));obtain⟨rv2,k2,h⟩:=H1 h;rcases eX h with⟨x,nv,h⟩ | ⟨v,nv,h⟩
 ·refine T2 (H8 [] ((G1 k2).err nv) R eK R (.inl ⟨R,R,R⟩) R R R R .nil R ?_);intro cnt;refine E9 ?_;cases h;exact M3 (L:=B6X d []) (κ:=[0,1,2,3,4,5]) vv (.inr ⟨_,R,R⟩)
 refine cO [] ((G1 k2).ok nv) eK .nil R .nil .nil R (R2 (hE 6 R ?_));cases h;exact A1R (fS [0,1,2,3,4,5] (.inl ⟨_,R,R,R⟩) R .nil vv)
def R6 (F:Nat) (e:E0) (K:(List Bool)→Int→Option (Except Int F7)):Nat→(List Bool)→Int→Option (Except Int F7)
 | 0,_,_=>none
 | n+1,t29,x9=>if x9<(e.off.length:Int)then((P3 e.off x9).bind fun e5=>(P3 t29 e5).bind fun e6=>(A5g t29 e5 false).bind fun t30=>R6 F e K n t30 (W (x9+1)))else(K t29 x9)
def A0k (F:Nat) (o:C7) (e:E0) (K:(List F6)→(List G6)→(List E2)→(List ByteArray)→(List D1)→Int→Int→(List ByteArray)→(List D9)→(List E0)→(List Int)→Int→Int→Int→Int→(List Int)→(List Int)→(List Int)→Int→Bool→(List Int)→(List Int)→Bool→(List Bool)→(List Int)→(List Bool)→Int→Option (Except Int F7)):Nat→(List F6)→(List G6)→(List E2)→(List ByteArray)→(List D1)→Int→Int→(List ByteArray)→(List D9)→(List E0)→(List Int)→Int→Int→Int→Int→(List Int)→(List Int)→(List Int)→Int→Bool→(List Int)→(List Int)→Bool→(List Bool)→(List Int)→(List Bool)→Int→Option (Except Int F7)
 | 0,_,_,_,_,_,_,_,_,_,_,_,_,_,_,_,_,_,_,_,_,_,_,_,_,_,_,_=>none
 | n+1,t2,t3,t4,t5,t6,t7,t8,t9,t10,t11,t12,t13,t14,t15,t16,t17,t18,t19,t20,t21,t22,t23,t24,t25,t26,t27,x7=>if x7<(e.acts.length:Int)then((P3 e.acts x7).bind fun e3=>(A07 F (F7.mk t2 t3 t4 t5 t6 t7 t8 t9 t10 t11 t12 t13 t14 t15 t16 t17 t18 t19 t20 t21 t22 t23 t24 t25 t26 t27) {e3 with at_:=o.at_}).bind fun rv11=>exE rv11 (fun x8=>some (.error x8)) (fun v7=>A0k F o e K n v7.H0 v7.G8 v7.G2 v7.H4 v7.G3 v7.G9 v7.H5 v7.H9 v7.E7 v7.F8 v7.I9 v7.D8 v7.G0 v7.H6 v7.G5 v7.F5 v7.E8 v7.E5 v7.F3 v7.F4 v7.A1 v7.A5 v7.F9 v7.B1 v7.A7 v7.B0 (W (x7+1))))else(K t2 t3 t4 t5 t6 t7 t8 t9 t10 t11 t12 t13 t14 t15 t16 t17 t18 t19 t20 t21 t22 t23 t24 t25 t26 t27 x7)
def A0j (F:Nat) (o:C7) (e:E0) (v4:F7):Option (Except Int F7):=A0k F o e (fun t2 t3 t4 t5 t6 t7 t8 t9 t10 t11 t12 t13 t14 t15 t16 t17 t18 t19 t20 t21 t22 t23 t24 t25 t26 t27 x7=>(P3 t23 o.what).bind fun e4=>(A5g t23 o.what o.at_).bind fun t28=>R6 F e (fun t29 x9=>some (.ok (F7.mk t2 t3 t4 t5 t6 t7 t8 t9 t10 t11 t12 t13 t14 t15 t16 t17 t18 t19 t20 t21 t22 t28 t24 t25 t26 t29))) F t27 0) F v4.H0 v4.G8 v4.G2 v4.H4 v4.G3 v4.G9 v4.H5 v4.H9 v4.E7 v4.F8 v4.I9 v4.D8 v4.G0 v4.H6 v4.G5 v4.F5 v4.E8 v4.E5 v4.F3 v4.F4 v4.A1 v4.A5 v4.F9 v4.B1 v4.A7 v4.B0 0
def A1O (F:Nat) (t:F7) (o:C7):Option (Except Int F7):=(P3 t.F8 o.what).bind fun e=>(A0R F t o.what).bind fun rv=>(P4 F rv 181).bind fun rv2=>exE rv2 (fun x=>some (.error x)) (fun v=>(P3 t.A1 o.what).bind fun e2=>(Y7 F (W (o.at_-e2)) e.least e.most).bind fun rv3=>(P4 F (!rv3) 186).bind fun rv4=>exE rv4 (fun x2=>some (.error x2)) (fun v2=>(Z4 F t e).bind fun rv5=>exE rv5 (fun x3=>some (.error x3)) (fun v3=>(Y6 F v3 e).bind fun rv6=>exE rv6 (fun x4=>some (.error x4)) (fun v4=>(U8 F v4).bind fun rv7=>if o.what<rv7 then((P4 F true 187).bind fun rv8=>exE rv8 (fun x5=>some (.error x5)) (fun v5=>A0j F o e v4))else((Y7 F o.at_ v4.D8 v4.G0).bind fun rv9=>(P4 F (!rv9) 187).bind fun rv10=>exE rv10 (fun x6=>some (.error x6)) (fun v6=>A0j F o e v4))))))
theorem A4v {F t o r} (h:A1O F t o=some r):SCX pg 101 [rf 0 26,.d (C7.d o)] (B6X t []) r 43 (fun(a:F7) => .d (.tup [])) (fun(a:F7)=>(B6X a [])):=by
 rw[A1O]at h;refine oW Tryz.func101 ?_;refine gY 1 R (B8 (T1 kR (rU 7 R ?_)));obtain⟨e,ie,h⟩:=H1 h;refine yE ie R R (rU 2 R (I0 kR (B8 (X0 (rU 3 R ?_)))));obtain⟨rv,k,h⟩:=H1 h;refine A19 (A38 k) R eK R R ((.cons (.ref R ld) (dL .nil))) R R ?_;obtain⟨rv2,k2,h⟩:=H1 h;rcases eX h with⟨x,nv,h⟩ | ⟨v,nv,h⟩
 ·refine T2 (H8 [] ((G1 k2).err nv) R eK R (.inl ⟨R,R,R⟩) R R R R .nil R ?_);intro cnt;refine E9 ?_;cases h;exact M3 (L:=B6X t []) (κ:=[0,1,2,3,4,5]) vv (.inr ⟨_,R,R⟩)
 refine cO [] ((G1 k2).ok nv) eK .nil R .nil .nil R (R2 (B8 (A0V kR (rU 9 R ?_))));obtain⟨e2,ie2,h⟩:=H1 h;refine Y1 tb R R R R R R (F0 ie2) (ix1 ie2) R R ?_;refine A15 (y:=vI e2) tb R R R R (U5 (g:=fun a=>T.d (vI a)) ie2) R R R R ?_;refine rU 5 R ?_;obtain⟨rv3,k3,h⟩:=H1 h;refine J5 (V8 k3) eK R R R R (rU 1 R ?_);obtain⟨rv4,k4,h⟩:=H1 h;rcases eX h with⟨x2,nv2,h⟩ | ⟨v2,nv2,h⟩
 ·refine P0 kR kR (H8 [] ((G1 k4).err nv2) R eK R (.inl ⟨R,R,R⟩) R R R R .nil R ?_);intro cnt;refine E9 ?_;cases h;exact M3 (L:=B6X t []) (κ:=[0,1,2,3,4,5]) vv (.inr ⟨_,R,R⟩)
 refine cO [] ((G1 k4).ok nv2) eK .nil R .nil .nil R (N0 kR (B8 (X0 (rU 2 R ?_))));obtain⟨rv5,k5,h⟩:=H1 h;rcases eX h with⟨x3,nv3,h⟩ | ⟨v3,nv3,h⟩
 ·refine T2 (H8 [0,1,2,3,4,5] ((A0J k5).err nv3) R eK R (.inl ⟨R,R,R⟩) R R R R (.cons R R C25) R ?_);intro cnt;refine E9 ?_;cases h;exact M3 (L:=[none,none,none,none,none,none]) (κ:=[0,1,2,3,4,5]) vv (.inr ⟨_,R,R⟩)
 refine cO [0,1,2,3,4,5] ((A0J k5).ok nv3) eK ((.cons R R C25)) R ((.cons R (.row (.row (.row (.row (.row .nil))))))) .nil R (R2 (B8 (X0 (rU 2 R ?_))));obtain⟨rv6,k6,h⟩:=H1 h;rcases eX h with⟨x4,nv4,h⟩ | ⟨v4,nv4,h⟩
 ·refine T2 (H8 [0,1,2,3,4,5] ((A3b k6).err nv4) R eK R (.inl ⟨R,R,R⟩) R R R R (.cons R R C25) R ?_);intro cnt;refine E9 ?_;cases h;exact M3 (L:=[none,none,none,none,none,none]) (κ:=[0,1,2,3,4,5]) vv (.inr ⟨_,R,R⟩)
 refine cO [0,1,2,3,4,5] ((A3b k6).ok nv4) eK ((.cons R R C25)) R ((.cons R (.row (.row (.row (.row (.row .nil))))))) .nil R (R2 (B8 ?_));refine W5 (fun zz:Unit=>A0j F o e v4=some r) (fun zz:Unit=>⟨[(0,rf 0 26),(3,rf 6 8),(4,rf 7 9)],B6X v4 [bx 8 (.d (C7.d o)),bx 9 (.d (E0.d e))]⟩) ?_ ?_
 ·clear h;rintro⟨⟩ h;rw[A0j]at h;refine B8 (gU 2 R (I7 tb R (eU 1 R (E3 ?_))));refine C3X (fun K3 m st=>∃ (t2:(List F6)) (t3:(List G6)) (t4:(List E2)) (t5:(List ByteArray)) (t6:(List D1)) (t7:Int) (t8:Int) (t9:(List ByteArray)) (t10:(List D9)) (t11:(List E0)) (t12:(List Int)) (t13:Int) (t14:Int) (t15:Int) (t16:Int) (t17:(List Int)) (t18:(List Int)) (t19:(List Int)) (t20:Int) (t21:Bool) (t22:(List Int)) (t23:(List Int)) (t24:Bool) (t25:(List Bool)) (t26:(List Int)) (t27:(List Bool)) (x7:Int),st=⟨[(0,rf 0 26),(3,rf 6 8),(4,rf 7 9),(73,.d (.arr 5 ((e.acts).map D2.d))),(74,dI (e.acts.length:Int)),(75,dI x7)],[bx 26 (C5 (F7.mk t2 t3 t4 t5 t6 t7 t8 t9 t10 t11 t12 t13 t14 t15 t16 t17 t18 t19 t20 t21 t22 t23 t24 t25 t26 t27) 1 2 3 4 5),B0u t22,B0u t23,B9r t25,B0u t26,B9r t27,bx 8 (.d (C7.d o)),bx 9 (.d (E0.d e))]⟩∧A0k F o e K3 m t2 t3 t4 t5 t6 t7 t8 t9 t10 t11 t12 t13 t14 t15 t16 t17 t18 t19 t20 t21 t22 t23 t24 t25 t26 t27 x7=some r) ⟨v4.H0,v4.G8,v4.G2,v4.H4,v4.G3,v4.G9,v4.H5,v4.H9,v4.E7,v4.F8,v4.I9,v4.D8,v4.G0,v4.H6,v4.G5,v4.F5,v4.E8,v4.E5,v4.F3,v4.F4,v4.A1,v4.A5,v4.F9,v4.B1,v4.A7,v4.B0,0,R,h⟩ (.prn [0,3,4,73,74,75] R) ?_;rintro K3 hK3 m3 _ ⟨t2,t3,t4,t5,t6,t7,t8,t9,t10,t11,t12,t13,t14,t15,t16,t17,t18,t19,t20,t21,t22,t23,t24,t25,t26,t27,x7,rfl,h⟩;rw[A0k]at h;refine qG ?_;refine Q4 R R R R (tJ h ?_) (lJ h ?_)
  ·intro h;refine Y9 (B8 (zT (B8 (E3 (qG ?_)))));obtain⟨e3,ie3,h⟩:=H1 h;refine yE ie3 R R (eU 2 R (gY 4 R (X0 (rU 2 R ?_))));obtain⟨rv11,k11,h⟩:=H1 h;rcases eX h with⟨x8,nv7,h⟩ | ⟨v7,nv7,h⟩
   ·refine T2 (H8 [0,1,2,3,4,5] ((A1M k11).err nv7) R eK R (.inl ⟨R,R,R⟩) R R R R (.cons R R C25) R ?_);intro cnt;refine Q0 (E9 (E9 (Q0 (E9 ?_))));cases h;exact M3 (L:=[none,none,none,none,none,none]) (κ:=[0,1,2,3,4,5]) vv (.inr ⟨_,R,R⟩)
   refine cO [0,1,2,3,4,5] ((A1M k11).ok nv7) eK ((.cons R R C25)) R ((.cons R (.row (.row (.row (.row (.row .nil))))))) .nil R (R2 (hN 2 R ?_));exact bk ⟨v7.H0,v7.G8,v7.G2,v7.H4,v7.G3,v7.G9,v7.H5,v7.H9,v7.E7,v7.F8,v7.I9,v7.D8,v7.G0,v7.H6,v7.G5,v7.F5,v7.E8,v7.E5,v7.F3,v7.F4,v7.A1,v7.A5,v7.F9,v7.B1,v7.A7,v7.B0,(W (x7+1)),R,h⟩ (.vq [0,1,2,3,4,5,6,7])
  intro h;refine Y9 (B8 (yX ?_));subst hK3;refine B8 (T1 kR (rU 9 R ?_));obtain⟨e4,ie4,h⟩:=H1 h;refine Y1 tb R R R R R R (F0 ie4) (ix1 ie4) R R ?_;obtain⟨t28,it28,h⟩:=H1 h;refine A5d (a':=(o.at_:Int)) tb R R R R ie4 R R R R it28 R R ?_;dsimp only[au,av,J2,C6,A0h,C5];first | rw[A2a it28] | skip
  refine I0 kR (gU 2 R (I7 tb R (eU 1 R (E3 ?_))));refine C3X (fun K5 m st=>∃ (t29:(List Bool)) (x9:Int),st=⟨[(0,rf 0 26),(97,.d (aI e.off)),(98,dI (e.off.length:Int)),(99,dI x9)],[bx 26 (C5 (F7.mk t2 t3 t4 t5 t6 t7 t8 t9 t10 t11 t12 t13 t14 t15 t16 t17 t18 t19 t20 t21 t22 t28 t24 t25 t26 t29) 1 2 3 4 5),B0u t22,B0u t28,B9r t25,B0u t26,B9r t29]⟩∧R6 F e K5 m t29 x9=some r) ⟨t27,0,R,h⟩ (.vq [0,1,2,3,4,5]) ?_;rintro K5 hK5 m5 _ ⟨t29,x9,rfl,h⟩;rw[R6]at h;refine qG ?_;refine Q4 R R R R (tJ h ?_) (lJ h ?_)
  ·intro h;refine Y9 (B8 (zT (B8 (E3 (qG ?_)))));obtain⟨e5,ie5,h⟩:=H1 h;refine yE ie5 R R (eU 1 R (hU 6 R ?_));obtain⟨e6,ie6,h⟩:=H1 h;refine Y1 tb R R R R R R (F0 ie6) (ix1 ie6) R R ?_;obtain⟨t30,it30,h⟩:=H1 h;refine A5d (a':=(false:Bool)) tb R R R R ie6 R R R R it30 R R ?_;dsimp only[au,av,J2,C6,A0h,C5];first | rw[A2a it30] | skip
   refine Y9 (hN 2 R ?_);exact bk ⟨t30,(W (x9+1)),R,h⟩ (.prn [0,97,98,99] R)
  intro h;refine Y9 (B8 (yX ?_));subst hK5;refine I5 ?_;cases h;exact A1R (fS [0,1,2,3,4,5] (.inl ⟨_,R,R,R⟩) R .nil vv)
 refine A0V kR (rU 3 R ?_);obtain⟨rv7,k7,h⟩:=H1 h;refine A19 (A0i k7) R eK R R ((.cons (.ref R ld) .nil)) R R ?_;refine Q4 R R R R (tJ h ?_) (lJ h ?_)
 ·intro h;refine rU 18 R ?_;obtain⟨rv8,k8,h⟩:=H1 h;rcases eX h with⟨x5,nv5,h⟩ | ⟨v5,nv5,h⟩
  ·refine P0 kR kR (H8 [] ((G1 k8).err nv5) R eK R (.inl ⟨R,R,R⟩) R R R R .nil R ?_);intro cnt;refine E9 ?_;cases h;exact M3 (L:=B6X v4 []) (κ:=[0,1,2,3,4,5]) vv (.inr ⟨_,R,R⟩)
  refine cO [] ((G1 k8).ok nv5) eK .nil R .nil .nil R (N0 kR (A6 ?_));exact .inl ⟨(),h,.prn [0,3,4] R⟩
 intro h;refine rU 15 R ?_;obtain⟨rv9,k9,h⟩:=H1 h;refine J5 (V8 k9) eK R R R R (rU 2 R ?_);obtain⟨rv10,k10,h⟩:=H1 h;rcases eX h with⟨x6,nv6,h⟩ | ⟨v6,nv6,h⟩
 ·refine P0 kR kR (H8 [] ((G1 k10).err nv6) R eK R (.inl ⟨R,R,R⟩) R R R R .nil R ?_);intro cnt;refine E9 ?_;cases h;exact M3 (L:=B6X v4 []) (κ:=[0,1,2,3,4,5]) vv (.inr ⟨_,R,R⟩)
 refine cO [] ((G1 k10).ok nv6) eK .nil R .nil .nil R (N0 kR (A6 ?_));exact .inl ⟨(),h,.prn [0,3,4] R⟩
def A08 (F:Nat) (d:F7) (e:C7):Option (Except Int F7):=(P4 F (d.F9 != (decide (e.kind=3))) 181).bind fun rv=>exE rv (fun x=>some (.error x)) (fun v=>some (.ok {d with F9:=(decide (e.kind=3))}))
theorem A1d {F d e r} (h:A08 F d e=some r):SCX pg 102 [rf 0 26,.d (C7.d e)] (B6X d []) r 43 (fun(a:F7) => .d (.tup [])) (fun(a:F7)=>(B6X a [])):=by
 rw[A08]at h;refine oW Tryz.func102 ?_;refine gY 1 R (gU 2 R (A3s R R R R (eU 1 R (B8 (X0 (rU 6 R (A57 R R R R R ?_)))))));obtain⟨rv,k,h⟩:=H1 h;rcases eX h with⟨x,nv,h⟩ | ⟨v,nv,h⟩
 ·refine T2 (H8 [] ((G1 k).err nv) R eK R (.inl ⟨R,R,R⟩) R R R R .nil R ?_);intro cnt;refine E9 ?_;cases h;exact M3 (L:=B6X d []) (κ:=[0,1,2,3,4,5]) vv (.inr ⟨_,R,R⟩)
 refine cO [] ((G1 k).ok nv) eK .nil R .nil .nil R (R2 (hE 6 R ?_));cases h;exact A1R (fS [0,1,2,3,4,5] (.inl ⟨_,R,R,R⟩) R .nil vv)
def A0K (F:Nat) (d:F7) (e:C7):Option (Except Int F7):=(P3 d.B1 e.what).bind fun e2=>(P4 F (e2 != (decide (e.kind=5))) 181).bind fun rv=>exE rv (fun x=>some (.error x)) (fun v=>(A5g d.B1 e.what (decide (e.kind=5))).bind fun q=>if d.F9=true then(some (.ok {d with F9:=true,B1:=q}))else(some (.ok {d with F9:=(!(decide (e.kind=5))),B1:=q})))
theorem A16 {F d e r} (h:A0K F d e=some r):SCX pg 103 [rf 0 26,.d (C7.d e)] (B6X d []) r 43 (fun(a:F7) => .d (.tup [])) (fun(a:F7)=>(B6X a [])):=by
 rw[A0K]at h;refine oW Tryz.func103 ?_;refine gY 1 R (gU 2 R (A3s R R R R (eU 1 R (B8 (A0V kR (rU 7 R ?_))))));obtain⟨e2,ie2,h⟩:=H1 h;refine Y1 tb R R R R R R (F0 ie2) (ix1 ie2) R R ?_;refine A15 (y:=vB e2) tb R R R R (U5 (g:=fun a=>T.d (vB a)) ie2) R R R R ?_;refine rU 1 R (A57 R R R R R ?_);obtain⟨rv,k,h⟩:=H1 h;rcases eX h with⟨x,nv,h⟩ | ⟨v,nv,h⟩
 ·refine P0 kR kR (H8 [] ((G1 k).err nv) R eK R (.inl ⟨R,R,R⟩) R R R R .nil R ?_);intro cnt;refine E9 ?_;cases h;exact M3 (L:=B6X d []) (κ:=[0,1,2,3,4,5]) vv (.inr ⟨_,R,R⟩)
 refine cO [] ((G1 k).ok nv) eK .nil R .nil .nil R (N0 kR (B8 (T1 kR (rU 8 R (Y1 tb R R R R R R (F0 ie2) (ix1 ie2) R R ?_)))));obtain⟨q,iq,h⟩:=H1 h;refine A5d (a':=((decide (e.kind=5)):Bool)) tb R R R R ie2 R R R R iq R R ?_;dsimp only[au,av,J2,C6,A0h,C5];first | rw[A2a iq] | skip
 refine I0 kR (hU 6 R ?_);refine X8 (tI h ?_) (fI h ?_)
 ·intro c h;refine eU 8 R ?_;cases h;exact A1R (fS [0,1,2,3,4,5] (.inl ⟨_,R,R,R⟩) R .nil vv)
 intro c h;refine eU 8 R ?_;cases h;exact A1R (fS [0,1,2,3,4,5] (.inl ⟨_,R,R,R⟩) R .nil vv)
def U1 (F:Nat) (t:F7) (K:(List Int)→(List Int)→Int→Option (Except Int F7)):Nat→(List Int)→(List Int)→Int→Option (Except Int F7)
 | 0,_,_,_=>none
 | n+1,t2,t3,a=>(U8 F {t with A1:=t2,A5:=t3}).bind fun rv4=>if a≤rv4 then((P3 t2 a).bind fun e3=>(A5g t2 a (-1)).bind fun t4=>(P3 t3 a).bind fun e4=>(A5g t3 a (-1)).bind fun t5=>U1 F t K n t4 t5 (W (a+1)))else(K t2 t3 a)
def A05 (F:Nat) (t:F7) (o:C7):Option (Except Int F7):=(P3 t.I9 o.what).bind fun e=>(P3 t.A1 e).bind fun e2=>(P4 F (decide (0≤e2)) 181).bind fun rv=>exE rv (fun x=>some (.error x)) (fun v=>(S9 F t.E5 1).bind fun rv2=>(P4 F (!rv2) 188).bind fun rv3=>exE rv3 (fun x2=>some (.error x2)) (fun v2=>U1 F t (fun t2 t3 a=>(B6t t.B1 false).bind fun q=>(B6t t.B0 false).bind fun q2=>some (.ok {t with A1:=t2,A5:=t3,F9:=true,B1:=q,B0:=q2})) F t.A1 t.A5 e))
theorem A3o {F t o r} (h:A05 F t o=some r):SCX pg 104 [rf 0 26,.d (C7.d o)] (B6X t []) r 43 (fun(a:F7) => .d (.tup [])) (fun(a:F7)=>(B6X a [])):=by
 rw[A05]at h;refine oW Tryz.func104 ?_;refine gY 1 R (B8 (T1 kR (rU 7 R ?_)));obtain⟨e,ie,h⟩:=H1 h;refine yE ie R R (rU 1 R (I0 kR (B8 (X0 (rU 6 R ?_)))));obtain⟨e2,ie2,h⟩:=H1 h;refine Y1 tb R R R R R R (F0 ie2) (ix1 ie2) R R ?_;refine A15 (y:=vI e2) tb R R R R (U5 (g:=fun a=>T.d (vI a)) ie2) R R R R ?_;refine A3k R R R R ?_;obtain⟨rv,k,h⟩:=H1 h;rcases eX h with⟨x,nv,h⟩ | ⟨v,nv,h⟩
 ·refine T2 (H8 [] ((G1 k).err nv) R eK R (.inl ⟨R,R,R⟩) R R R R .nil R ?_);intro cnt;refine E9 ?_;cases h;exact M3 (L:=B6X t []) (κ:=[0,1,2,3,4,5]) vv (.inr ⟨_,R,R⟩)
 refine cO [] ((G1 k).ok nv) eK .nil R .nil .nil R (R2 (B8 (X0 (rU 6 R ?_))));obtain⟨rv2,k2,h⟩:=H1 h;refine J5 (A1g k2) eK R R R R (rU 1 R ?_);obtain⟨rv3,k3,h⟩:=H1 h;rcases eX h with⟨x2,nv2,h⟩ | ⟨v2,nv2,h⟩
 ·refine T2 (H8 [] ((G1 k3).err nv2) R eK R (.inl ⟨R,R,R⟩) R R R R .nil R ?_);intro cnt;refine E9 ?_;cases h;exact M3 (L:=B6X t []) (κ:=[0,1,2,3,4,5]) vv (.inr ⟨_,R,R⟩)
 refine cO [] ((G1 k3).ok nv2) eK .nil R .nil .nil R (R2 (B8 (gY 2 R (E3 ?_))));refine C3X (fun K3 m st=>∃ (t2:(List Int)) (t3:(List Int)) (a:Int),st=⟨[(0,rf 0 26),(5,dI a)],[bx 26 (C5 {t with A1:=t2,A5:=t3} 1 2 3 4 5),B0u t2,B0u t3,B9r t.B1,B0u t.A7,B9r t.B0]⟩∧U1 F t K3 m t2 t3 a=some r) ⟨t.A1,t.A5,e,R,h⟩ (.vq [0,1,2,3,4,5]) ?_;rintro K3 hK3 m3 _ ⟨t2,t3,a,rfl,h⟩;rw[U1]at h;refine B8 (gU 2 R ?_);obtain⟨rv4,k4,h⟩:=H1 h;refine A19 (A0i k4) R eK R R ((.cons (.ref R ld) .nil)) R R ?_;refine B1t R R R R (tJ h ?_) (mJ h ?_)
 ·intro h;refine Y9 (zT (B8 (E3 (T1 kR (rU 12 R ?_)))));obtain⟨e3,ie3,h⟩:=H1 h;refine Y1 tb R R R R R R (F0 ie3) (ix1 ie3) R R ?_;obtain⟨t4,it4,h⟩:=H1 h;refine A5d (a':=((-1):Int)) tb R R R R ie3 R R R R it4 R R ?_;dsimp only[au,av,J2,C6,A0h,C5];first | rw[A2a it4] | skip
  obtain⟨e4,ie4,h⟩:=H1 h;refine Y1 tb R R R R R R (F0 ie4) (ix1 ie4) R R ?_;obtain⟨t5,it5,h⟩:=H1 h;refine A5d (a':=((-1):Int)) tb R R R R ie4 R R R R it5 R R ?_;dsimp only[au,av,J2,C6,A0h,C5];first | rw[A2a it5] | skip
  refine I0 kR (hN 3 R ?_);exact bk ⟨t4,t5,(W (a+1)),R,h⟩ (.prn [0,5] R)
 intro h;refine Y9 (yX ?_);subst hK3;refine gU 5 R ?_;obtain⟨q,iq,h⟩:=H1 h;refine B5R (g:=vB) (a0:=false) tb R R R R R R R R R R R iq R R ?_;dsimp only[au,av,J2,C6,A0h,C5];first | rw[B5B iq] | skip
 refine Y9 (gU 5 R ?_);obtain⟨q2,iq2,h⟩:=H1 h;refine B5R (g:=vB) (a0:=false) tb R R R R R R R R R R R iq2 R R ?_;dsimp only[au,av,J2,C6,A0h,C5];first | rw[B5B iq2] | skip
 refine Y9 (hE 5 R ?_);cases h;exact A1R (fS [0,1,2,3,4,5] (.inl ⟨_,R,R,R⟩) R .nil vv)
def A1N (F:Nat) (d:F7) (e:C7):Option (Except Int F7):=(A07 F d (D2.mk e.A04 e.A0D e.A1L e.A0E e.A0F)).bind fun rv=>exE rv (fun x=>some (.error x)) (fun v=>some (.ok v))
theorem A4u {F d e r} (h:A1N F d e=some r):SCX pg 105 [rf 0 26,.d (C7.d e)] (B6X d []) r 43 (fun(a:F7) => .d (.tup [])) (fun(a:F7)=>(B6X a [])):=by
 rw[A1N]at h;refine oW Tryz.func105 ?_;refine gY 1 R (X0 (rU 3 R ?_));obtain⟨rv,k,h⟩:=H1 h;rcases eX h with⟨x,nv,h⟩ | ⟨v,nv,h⟩
 ·refine T2 (H8 [0,1,2,3,4,5] ((A1M k).err nv) R eK R (.inl ⟨R,R,R⟩) R R R R (.cons R R C25) R ?_);intro cnt;cases h;exact M3 (L:=[none,none,none,none,none,none]) (κ:=[0,1,2,3,4,5]) vv (.inr ⟨_,R,R⟩)
 refine cO [0,1,2,3,4,5] ((A1M k).ok nv) eK ((.cons R R C25)) R ((.cons R (.row (.row (.row (.row (.row .nil))))))) .nil R (R2 ?_);cases h;exact A1R (fS [0,1,2,3,4,5] (.inl ⟨_,R,R,R⟩) R .nil vv)
def A0G (F:Nat) (d:F7) (e:C7):Option (Except Int F7):=(P3 d.B0 e.what).bind fun e2=>(P4 F (!e2) 181).bind fun rv=>exE rv (fun x=>some (.error x)) (fun v=>(P3 d.E7 e.what).bind fun e3=>(P3 d.A7 e.what).bind fun e4=>(A5g d.A7 e.what e3.charge).bind fun q=>some (.ok {d with A7:=q}))
theorem A3u {F d e r} (h:A0G F d e=some r):SCX pg 106 [rf 0 26,.d (C7.d e)] (B6X d []) r 43 (fun(a:F7) => .d (.tup [])) (fun(a:F7)=>(B6X a [])):=by
 rw[A0G]at h;refine oW Tryz.func106 ?_;refine gY 1 R (B8 (A0V kR (rU 7 R ?_)));obtain⟨e2,ie2,h⟩:=H1 h;refine Y1 tb R R R R R R (F0 ie2) (ix1 ie2) R R ?_;refine A15 (y:=vB e2) tb R R R R (U5 (g:=fun a=>T.d (vB a)) ie2) R R R R ?_;refine rU 1 R ?_;obtain⟨rv,k,h⟩:=H1 h;rcases eX h with⟨x,nv,h⟩ | ⟨v,nv,h⟩
 ·refine P0 kR kR (H8 [] ((G1 k).err nv) R eK R (.inl ⟨R,R,R⟩) R R R R .nil R ?_);intro cnt;refine E9 ?_;cases h;exact M3 (L:=B6X d []) (κ:=[0,1,2,3,4,5]) vv (.inr ⟨_,R,R⟩)
 refine cO [] ((G1 k).ok nv) eK .nil R .nil .nil R (N0 kR (T1 kR (rU 14 R ?_)));obtain⟨e3,ie3,h⟩:=H1 h;refine xE ie3 R (rU 1 R (lE ie3 R ?_));obtain⟨e4,ie4,h⟩:=H1 h;refine Y1 tb R R R R R R (F0 ie4) (ix1 ie4) R R ?_;obtain⟨q,iq,h⟩:=H1 h;refine A5d (a':=(e3.charge:Int)) tb R R R R ie4 R R R R iq R R ?_;dsimp only[au,av,J2,C6,A0h,C5];first | rw[A2a iq] | skip
 refine I0 kR ?_;cases h;exact A1R (fS [0,1,2,3,4,5] (.inl ⟨_,R,R,R⟩) R .nil vv)
def Q9 (F:Nat) (after:(List F6)) (after2:(List G6)) (after3:(List E2)) (after4:(List ByteArray)) (after5:(List D1)) (after6 after7:Int) (after8:(List ByteArray)) (after9:(List D9)) (after10:(List E0)) (after11:(List Int)) (after12 after13 after14 after15:Int) (after16 after17 after18:(List Int)) (after19:Int) (after20:Bool) (after21 after22:(List Int)) (after23:Bool) (after24:(List Bool)) (after25:(List Int)) (after26:(List Bool)):Option (Except Int F7):=some (.ok (F7.mk after after2 after3 after4 after5 after6 after7 after8 after9 after10 after11 after12 after13 after14 after15 after16 after17 after18 after19 after20 after21 after22 after23 after24 after25 after26))
def A1F (F:Nat) (d:F7) (e:C7):Option (Except Int F7):=(P4 F (decide (d.H6≤e.at_)) 180).bind fun rv=>exE rv (fun x=>some (.error x)) (fun v=>(U8 F d).bind fun rv2=>(Y5 F d rv2).bind fun rv3=>(P4 F (!rv3) 181).bind fun rv4=>exE rv4 (fun x3=>some (.error x3)) (fun v2=>(A0Y F d).bind fun rv5=>(A2V F rv5 e.at_).bind fun rv6=>if e.kind=0 then(none)else if e.kind=1 then((A0X F rv6 e).bind fun rv7=>exE rv7 (fun x5=>some (.error x5)) (fun v3=>Q9 F v3.H0 v3.G8 v3.G2 v3.H4 v3.G3 v3.G9 v3.H5 v3.H9 v3.E7 v3.F8 v3.I9 v3.D8 v3.G0 v3.H6 v3.G5 v3.F5 v3.E8 v3.E5 v3.F3 v3.F4 v3.A1 v3.A5 v3.F9 v3.B1 v3.A7 v3.B0))else if e.kind=2 then((A1O F rv6 e).bind fun rv8=>exE rv8 (fun x7=>some (.error x7)) (fun v4=>Q9 F v4.H0 v4.G8 v4.G2 v4.H4 v4.G3 v4.G9 v4.H5 v4.H9 v4.E7 v4.F8 v4.I9 v4.D8 v4.G0 v4.H6 v4.G5 v4.F5 v4.E8 v4.E5 v4.F3 v4.F4 v4.A1 v4.A5 v4.F9 v4.B1 v4.A7 v4.B0))else if e.kind=3 then((A08 F rv6 e).bind fun rv9=>exE rv9 (fun x9=>some (.error x9)) (fun v5=>Q9 F v5.H0 v5.G8 v5.G2 v5.H4 v5.G3 v5.G9 v5.H5 v5.H9 v5.E7 v5.F8 v5.I9 v5.D8 v5.G0 v5.H6 v5.G5 v5.F5 v5.E8 v5.E5 v5.F3 v5.F4 v5.A1 v5.A5 v5.F9 v5.B1 v5.A7 v5.B0))else if e.kind=4 then((A08 F rv6 e).bind fun rv10=>exE rv10 (fun x11=>some (.error x11)) (fun v6=>Q9 F v6.H0 v6.G8 v6.G2 v6.H4 v6.G3 v6.G9 v6.H5 v6.H9 v6.E7 v6.F8 v6.I9 v6.D8 v6.G0 v6.H6 v6.G5 v6.F5 v6.E8 v6.E5 v6.F3 v6.F4 v6.A1 v6.A5 v6.F9 v6.B1 v6.A7 v6.B0))else if e.kind=5 then((A0K F rv6 e).bind fun rv11=>exE rv11 (fun x13=>some (.error x13)) (fun v7=>Q9 F v7.H0 v7.G8 v7.G2 v7.H4 v7.G3 v7.G9 v7.H5 v7.H9 v7.E7 v7.F8 v7.I9 v7.D8 v7.G0 v7.H6 v7.G5 v7.F5 v7.E8 v7.E5 v7.F3 v7.F4 v7.A1 v7.A5 v7.F9 v7.B1 v7.A7 v7.B0))else if e.kind=6 then((A0K F rv6 e).bind fun rv12=>exE rv12 (fun x15=>some (.error x15)) (fun v8=>Q9 F v8.H0 v8.G8 v8.G2 v8.H4 v8.G3 v8.G9 v8.H5 v8.H9 v8.E7 v8.F8 v8.I9 v8.D8 v8.G0 v8.H6 v8.G5 v8.F5 v8.E8 v8.E5 v8.F3 v8.F4 v8.A1 v8.A5 v8.F9 v8.B1 v8.A7 v8.B0))else if e.kind=7 then((A05 F rv6 e).bind fun rv13=>exE rv13 (fun x17=>some (.error x17)) (fun v9=>Q9 F v9.H0 v9.G8 v9.G2 v9.H4 v9.G3 v9.G9 v9.H5 v9.H9 v9.E7 v9.F8 v9.I9 v9.D8 v9.G0 v9.H6 v9.G5 v9.F5 v9.E8 v9.E5 v9.F3 v9.F4 v9.A1 v9.A5 v9.F9 v9.B1 v9.A7 v9.B0))else if e.kind=8 then((A1N F rv6 e).bind fun rv14=>exE rv14 (fun x19=>some (.error x19)) (fun v10=>Q9 F v10.H0 v10.G8 v10.G2 v10.H4 v10.G3 v10.G9 v10.H5 v10.H9 v10.E7 v10.F8 v10.I9 v10.D8 v10.G0 v10.H6 v10.G5 v10.F5 v10.E8 v10.E5 v10.F3 v10.F4 v10.A1 v10.A5 v10.F9 v10.B1 v10.A7 v10.B0))else if e.kind=9 then((A0G F rv6 e).bind fun rv15=>exE rv15 (fun x21=>some (.error x21)) (fun v11=>Q9 F v11.H0 v11.G8 v11.G2 v11.H4 v11.G3 v11.G9 v11.H5 v11.H9 v11.E7 v11.F8 v11.I9 v11.D8 v11.G0 v11.H6 v11.G5 v11.F5 v11.E8 v11.E5 v11.F3 v11.F4 v11.A1 v11.A5 v11.F9 v11.B1 v11.A7 v11.B0))else none))
theorem A8j {x1 x2 c2:Code} {o2:aa} (hb:Tryz.f96.body=some (.seq x1 (.seq x2 (.cond o2 c2 .skip)))):DfK pg 96 c2 10 3 43:=by
 unfold Tryz.f96 at hb;injection hb with hb
 injection hb with _ hb
 injection hb with _ hb
 injection hb with _ hb _
 subst hb;refine⟨fun ds w hds=>?_,fun ds v older w R hds ⟨E,hv⟩ H=>?_⟩
 ·obtain⟨d0,d1,d2,rfl⟩:∃ d0 d1 d2,ds=#[d0,d1,d2]:=by
   obtain⟨l⟩:=ds
   match l,hds with
   | [d0,d1,d2],_=>exact⟨d0,d1,d2,rfl⟩
  refine callsDIn_of_wpSIn Tryz.func96 (by rfl) trivial fun c₀ cs hu=>?_;apply wpSIn_seq;apply wpSIn_region;simp[wpOpsSIn,go_sem,recoverD,hu,Tryz.ntmps96,Exit.thenS];apply wpSIn_seq;apply wpSIn_region;simp[wpOpsSIn,go_sem,Exit.thenS];refine wpSIn_cond (t:=false) (by simp[Act.eval,bt]) ?_;simp only[Bool.false_eq_true,if_false];refine wpSIn_of_wpIn (by rfl) (wpIn_skip ?_);cases c₀;simp_all [bodyPostS,results,Tryz.results96]
 ·subst hv;obtain⟨d0,d1,d2,rfl⟩:∃ d0 d1 d2,ds=#[d0,d1,d2]:=by
   obtain⟨l⟩:=ds
   match l,hds with
   | [d0,d1,d2],_=>exact⟨d0,d1,d2,rfl⟩
  refine callsDIn_of_wpSIn Tryz.func96 (by rfl) trivial fun c₀ cs hu=>?_;apply wpSIn_seq;apply wpSIn_region;simp[wpOpsSIn,go_sem,recoverD,hu,Tryz.ntmps96,Exit.thenS];apply wpSIn_seq;apply wpSIn_region;simp[wpOpsSIn,go_sem,Exit.thenS];refine wpSIn_cond (t:=true) (by simp[Act.eval,bt]) ?_;simp only[if_true];refine wpSIn_of_wpIn (by rfl) (wpIn_mono (H _ (by rfl) ?_ ?_ ?_) ?_)
  ·simp[bt]
  ·intro i hi
   match i,hi with
   | 0,_=>rfl
   | 1,_=>rfl
   | 2,_=>rfl
  ·simp[bt]
  ·rintro ex a' w' ⟨rfl,h2,h3⟩;cases c₀;simp_all [bodyPostS,results,Tryz.results96]
theorem A5p {F:Nat} {d:F7} {e:C7} (x2:Int) {xa xb c2:Code} {o2:aa} (hb:Tryz.f96.body=some (.seq xa (.seq xb (.cond o2 c2 .skip)))):SW pg 10 10 [] c2 (fun sx st2=>sx = .norm∧Fin pg Tryz.f59 6 (fun se X=>(∃ a:F7,(dr x2:Except Int F7) = .ok a∧se = .ret (.tup [.ref 6 26 0 0,.d (.v (.int .i64 0))])∧X=(B6X d [bx 26 (C5 a 7 8 9 10 11),B0u a.A1,B0u a.A5,B9r a.B1,B0u a.A7,B9r a.B0]))∨∃ e,(dr x2:Except Int F7) = .error e∧se = .ret (.tup [.ref 0 26 0 0,.d (.v (.int .i64 e))])∧X=(B6X d [])) .ret ⟨[(4,.ref 8 1 0 0),(5,.ref 9 1 0 0)],st2.L⟩) ⟨A8Q 0 ([.ref 6 1 0 0,.ref 8 1 0 0,.ref 9 1 0 0]++[.d (.v (.iface 43 ((.int .i64 x2))))]),B6X d [bx 1 (.ref 0 26 0 0),bx 8 (.d (C7.d e)),c1 (.v (.pointer none)),c1 (.v (.int .i64 0))]⟩:=by
 unfold Tryz.f96 at hb;injection hb with hb
 injection hb with _ hb
 injection hb with _ hb
 injection hb with _ hb _
 subst hb;refine B04 (fun _ _ h=>by cases h.1) ?_;dsimp only[A8Q,dO,cf];refine T1 kR (rU 2 R ?_);refine B5V R (fun _=>by kernel_rfl) R R R ?_;refine rU 2 R (I0 kR ?_);refine⟨_,.refl _ _ _,R,?_⟩;exact fS [0,1,2,3,4,5] (.inr ⟨_,R,R,R⟩) R (.cons (A6F tb (u:=rf 0 26) R R R R R R R) (.cons (A6F tb (u:=dI x2) R R R R R R R) .nil)) vv
theorem U6 {F:Nat} {d:F7} {e:C7} (x6:Int) {xa xb c2:Code} {o2:aa} (hb:Tryz.f96.body=some (.seq xa (.seq xb (.cond o2 c2 .skip)))):SW pg 11 10 [] c2 (fun sx st2=>sx = .norm∧Fin pg Tryz.f59 6 (fun se X=>(∃ a:F7,(dr x6:Except Int F7) = .ok a∧se = .ret (.tup [.ref 6 26 0 0,.d (.v (.int .i64 0))])∧X=(B6X d [bx 26 (C5 a 7 8 9 10 11),B0u a.A1,B0u a.A5,B9r a.B1,B0u a.A7,B9r a.B0]))∨∃ e,(dr x6:Except Int F7) = .error e∧se = .ret (.tup [.ref 0 26 0 0,.d (.v (.int .i64 e))])∧X=(B6X d [])) .ret ⟨[(4,.ref 8 1 0 0),(5,.ref 9 1 0 0)],st2.L⟩) ⟨A8Q 0 ([.ref 6 1 0 0,.ref 8 1 0 0,.ref 9 1 0 0]++[.d (.v (.iface 43 ((.int .i64 x6))))]),B6X d [bx 1 (.ref 0 26 0 0),bx 8 (.d (C7.d e)),bx 1 (.ref 10 26 0 0),c1 (.v (.int .i64 0)),none]⟩:=by
 unfold Tryz.f96 at hb;injection hb with hb
 injection hb with _ hb
 injection hb with _ hb
 injection hb with _ hb _
 subst hb;refine B04 (fun _ _ h=>by cases h.1) ?_;dsimp only[A8Q,dO,cf];refine T1 kR (rU 2 R ?_);refine B5V R (fun _=>by kernel_rfl) R R R ?_;refine rU 2 R (I0 kR ?_);refine⟨_,.refl _ _ _,R,?_⟩;exact fS [0,1,2,3,4,5] (.inr ⟨_,R,R,R⟩) R (.cons (A6F tb (u:=rf 0 26) R R R R R R R) (.cons (A6F tb (u:=dI x6) R R R R R R R) .nil)) vv
theorem A5q {F d e r} (h:A1F F d e=some r):SCA pg 59 [rf 0 26,.d (C7.d e)] (B6X d []) r (.tup [rf 6 26,dI 0]) (fun(a:F7)=>(B6X d [bx 26 (C5 a 7 8 9 10 11),B0u a.A1,B0u a.A5,B9r a.B1,B0u a.A7,B9r a.B0])) (fun e => .tup [rf 0 26,dI e]) (B6X d []):=by
 rw[A1F]at h;refine SC.of_swd Tryz.func59 R R R ?_;dsimp only[L8,ao];refine B3n (hE 4 R ?_);refine⟨R,?_⟩;refine B2t R A8j dM eK (A3E R R R R ?_);refine A32 ⟨7,_,_,_,_,R,R,R,R,fun df=>?_⟩;refine B8 (A0V kR (rU 7 R (A3k R R R R ?_)));obtain⟨rv,k,h⟩:=H1 h;rcases eX h with⟨x,nv,h⟩ | ⟨v,nv,h⟩
 ·refine P0 kR kR (H8 [] ((G1 k).err nv) R eK R (.inl ⟨R,R,R⟩) R R R R .nil R ?_);intro cnt;refine E9 ?_;cases h;exact⟨_,⟨[(4,rf 8 1),(5,rf 9 1)],B6X d [bx 1 (rf 0 26),bx 8 (.d (C7.d e)),c1 (.v (.pointer none)),c1 (vI 0)]⟩,[0,1,2,3,4,5,6,7,8,9],R,vv,A5p (F:=F) x R⟩
 refine cO [] ((G1 k).ok nv) eK .nil R .nil .nil R (N0 kR (B8 (A0V kR (rU 2 R ?_))));obtain⟨rv2,k2,h⟩:=H1 h;refine A19 (A0i k2) R eK R R ((.cons (.ref R ld) .nil)) R R ?_;obtain⟨rv3,k3,h⟩:=H1 h;refine A19 (A1s k3) R eK R R ((.cons (.ref R ld) (dL .nil))) R R (rU 1 R ?_);obtain⟨rv4,k4,h⟩:=H1 h;rcases eX h with⟨x3,nv2,h⟩ | ⟨v2,nv2,h⟩
 ·refine P0 kR kR (H8 [] ((G1 k4).err nv2) R eK R (.inl ⟨R,R,R⟩) R R R R .nil R ?_);intro cnt;refine E9 ?_;cases h;exact⟨_,⟨[(4,rf 8 1),(5,rf 9 1)],B6X d [bx 1 (rf 0 26),bx 8 (.d (C7.d e)),c1 (.v (.pointer none)),c1 (vI 0)]⟩,[0,1,2,3,4,5,6,7,8,9],R,vv,A5p (F:=F) x3 R⟩
 refine cO [] ((G1 k4).ok nv2) eK .nil R .nil .nil R (N0 kR (gU 1 R ?_));obtain⟨rv5,k5,h⟩:=H1 h;refine cO [0,1,2,3,4,5] (A61 k5) eK ((.cons R R C25)) R ((.cons R (.row (.row (.row (.row (.row .nil))))))) ((.cons R (.row (.row (.row (.row (.row .nil))))))) R (eU 1 R (gU 3 R ?_));obtain⟨rv6,k6,h⟩:=H1 h;refine cO [10,11,12,13,14,15] (A7z k6) eK ((.cons R R C25)) R ((.cons R (.row (.row (.row (.row (.row .nil))))))) .nil R (Y9 (qG ?_));refine B4h (v := .d (.agg [.v .nilFunc,.v (.func (.func 100) #[] #[]),.v (.func (.func 101) #[] #[]),.v (.func (.func 102) #[] #[]),.v (.func (.func 102) #[] #[]),.v (.func (.func 103) #[] #[]),.v (.func (.func 103) #[] #[]),.v (.func (.func 104) #[] #[]),.v (.func (.func 105) #[] #[]),.v (.func (.func 106) #[] #[])])) tb R R R R R R R R R (eU 2 R (B8 ?_));refine W5 (fun zz:(List F6) × (List G6) × (List E2) × (List ByteArray) × (List D1) × Int × Int × (List ByteArray) × (List D9) × (List E0) × (List Int) × Int × Int × Int × Int × (List Int) × (List Int) × (List Int) × Int × Bool × (List Int) × (List Int) × Bool × (List Bool) × (List Int) × (List Bool)=>Q9 F zz.1 zz.2.1 zz.2.2.1 zz.2.2.2.1 zz.2.2.2.2.1 zz.2.2.2.2.2.1 zz.2.2.2.2.2.2.1 zz.2.2.2.2.2.2.2.1 zz.2.2.2.2.2.2.2.2.1 zz.2.2.2.2.2.2.2.2.2.1 zz.2.2.2.2.2.2.2.2.2.2.1 zz.2.2.2.2.2.2.2.2.2.2.2.1 zz.2.2.2.2.2.2.2.2.2.2.2.2.1 zz.2.2.2.2.2.2.2.2.2.2.2.2.2.1 zz.2.2.2.2.2.2.2.2.2.2.2.2.2.2.1 zz.2.2.2.2.2.2.2.2.2.2.2.2.2.2.2.1 zz.2.2.2.2.2.2.2.2.2.2.2.2.2.2.2.2.1 zz.2.2.2.2.2.2.2.2.2.2.2.2.2.2.2.2.2.1 zz.2.2.2.2.2.2.2.2.2.2.2.2.2.2.2.2.2.2.1 zz.2.2.2.2.2.2.2.2.2.2.2.2.2.2.2.2.2.2.2.1 zz.2.2.2.2.2.2.2.2.2.2.2.2.2.2.2.2.2.2.2.2.1 zz.2.2.2.2.2.2.2.2.2.2.2.2.2.2.2.2.2.2.2.2.2.1 zz.2.2.2.2.2.2.2.2.2.2.2.2.2.2.2.2.2.2.2.2.2.2.1 zz.2.2.2.2.2.2.2.2.2.2.2.2.2.2.2.2.2.2.2.2.2.2.2.1 zz.2.2.2.2.2.2.2.2.2.2.2.2.2.2.2.2.2.2.2.2.2.2.2.2.1 zz.2.2.2.2.2.2.2.2.2.2.2.2.2.2.2.2.2.2.2.2.2.2.2.2.2=some r) (fun zz:(List F6) × (List G6) × (List E2) × (List ByteArray) × (List D1) × Int × Int × (List ByteArray) × (List D9) × (List E0) × (List Int) × Int × Int × Int × Int × (List Int) × (List Int) × (List Int) × Int × Bool × (List Int) × (List Int) × Bool × (List Bool) × (List Int) × (List Bool)=>⟨[(4,rf 8 1),(5,rf 9 1)],B6X d [bx 1 (rf 0 26),bx 8 (.d (C7.d e)),bx 1 (rf 10 26),c1 (vI 0),bx 26 (C5 (F7.mk zz.1 zz.2.1 zz.2.2.1 zz.2.2.2.1 zz.2.2.2.2.1 zz.2.2.2.2.2.1 zz.2.2.2.2.2.2.1 zz.2.2.2.2.2.2.2.1 zz.2.2.2.2.2.2.2.2.1 zz.2.2.2.2.2.2.2.2.2.1 zz.2.2.2.2.2.2.2.2.2.2.1 zz.2.2.2.2.2.2.2.2.2.2.2.1 zz.2.2.2.2.2.2.2.2.2.2.2.2.1 zz.2.2.2.2.2.2.2.2.2.2.2.2.2.1 zz.2.2.2.2.2.2.2.2.2.2.2.2.2.2.1 zz.2.2.2.2.2.2.2.2.2.2.2.2.2.2.2.1 zz.2.2.2.2.2.2.2.2.2.2.2.2.2.2.2.2.1 zz.2.2.2.2.2.2.2.2.2.2.2.2.2.2.2.2.2.1 zz.2.2.2.2.2.2.2.2.2.2.2.2.2.2.2.2.2.2.1 zz.2.2.2.2.2.2.2.2.2.2.2.2.2.2.2.2.2.2.2.1 zz.2.2.2.2.2.2.2.2.2.2.2.2.2.2.2.2.2.2.2.2.1 zz.2.2.2.2.2.2.2.2.2.2.2.2.2.2.2.2.2.2.2.2.2.1 zz.2.2.2.2.2.2.2.2.2.2.2.2.2.2.2.2.2.2.2.2.2.2.1 zz.2.2.2.2.2.2.2.2.2.2.2.2.2.2.2.2.2.2.2.2.2.2.2.1 zz.2.2.2.2.2.2.2.2.2.2.2.2.2.2.2.2.2.2.2.2.2.2.2.2.1 zz.2.2.2.2.2.2.2.2.2.2.2.2.2.2.2.2.2.2.2.2.2.2.2.2.2) 11 12 13 14 15),B0u zz.2.2.2.2.2.2.2.2.2.2.2.2.2.2.2.2.2.2.2.2.1,B0u zz.2.2.2.2.2.2.2.2.2.2.2.2.2.2.2.2.2.2.2.2.2.1,B9r zz.2.2.2.2.2.2.2.2.2.2.2.2.2.2.2.2.2.2.2.2.2.2.2.1,B0u zz.2.2.2.2.2.2.2.2.2.2.2.2.2.2.2.2.2.2.2.2.2.2.2.2.1,B9r zz.2.2.2.2.2.2.2.2.2.2.2.2.2.2.2.2.2.2.2.2.2.2.2.2.2]⟩) ?_ ?_
 ·clear h;rintro⟨after,after2,after3,after4,after5,after6,after7,after8,after9,after10,after11,after12,after13,after14,after15,after16,after17,after18,after19,after20,after21,after22,after23,after24,after25,after26⟩ h;dsimp only at h ⊢;rw[Q9]at h;refine rY 3 R ?_;cases h;exact B7Y (U0 (t := .tup [rf 6 26,dI 0]) (L:=B6X d [bx 26 (C5 (F7.mk after after2 after3 after4 after5 after6 after7 after8 after9 after10 after11 after12 after13 after14 after15 after16 after17 after18 after19 after20 after21 after22 after23 after24 after25 after26) 7 8 9 10 11),B0u after21,B0u after22,B9r after24,B0u after25,B9r after26]) (κ:=[0,1,2,3,4,5,10,11,12,13,14,15]) R (.cons (A6F tb (u:=rf 10 26) R R R R R R R) (.cons (A6F tb (u:=dI 0) R R R R R R R) .nil)) vv (.inl ⟨_,R,R,R⟩))
 refine A0V kR (rU 2 R ?_);by_cases c:e.kind=0
 ·replace h:=J7 c h;cases h
 replace h:=P1 c h;by_cases c2:e.kind=1
 ·replace h:=J7 c2 h;refine A7n (1) tb R R R R R c2 R R R (rU 3 R ?_);obtain⟨rv7,k7,h⟩:=H1 h;rcases eX h with⟨x5,nv3,h⟩ | ⟨v3,nv3,h⟩
  ·refine P0 kR kR (H8 [10,11,12,13,14,15] ((A3H k7).err nv3) R eK R (.inl ⟨R,R,R⟩) R R R R (.cons R R C25) R ?_);intro cnt;refine E9 ?_;cases h;exact⟨_,⟨[(4,rf 8 1),(5,rf 9 1)],B6X d [bx 1 (rf 0 26),bx 8 (.d (C7.d e)),bx 1 (rf 10 26),c1 (vI 0),none]⟩,[0,1,2,3,4,5,6,7,8,9,10],R,vv,U6 (F:=F) x5 R⟩
  refine cO [10,11,12,13,14,15] ((A3H k7).ok nv3) eK ((.cons R R C25)) R ((.cons R (.row (.row (.row (.row (.row .nil))))))) .nil R (N0 kR (A6 ?_));exact .inl ⟨(v3.H0,v3.G8,v3.G2,v3.H4,v3.G3,v3.G9,v3.H5,v3.H9,v3.E7,v3.F8,v3.I9,v3.D8,v3.G0,v3.H6,v3.G5,v3.F5,v3.E8,v3.E5,v3.F3,v3.F4,v3.A1,v3.A5,v3.F9,v3.B1,v3.A7,v3.B0),h,.vq [0,1,2,3,4,5,6,7,8,9,10,11,12,13,14,15]⟩
 replace h:=P1 c2 h;by_cases c3:e.kind=2
 ·replace h:=J7 c3 h;refine A7n (2) tb R R R R R c3 R R R (rU 3 R ?_);obtain⟨rv8,k8,h⟩:=H1 h;rcases eX h with⟨x7,nv4,h⟩ | ⟨v4,nv4,h⟩
  ·refine P0 kR kR (H8 [10,11,12,13,14,15] ((A4v k8).err nv4) R eK R (.inl ⟨R,R,R⟩) R R R R (.cons R R C25) R ?_);intro cnt;refine E9 ?_;cases h;exact⟨_,⟨[(4,rf 8 1),(5,rf 9 1)],B6X d [bx 1 (rf 0 26),bx 8 (.d (C7.d e)),bx 1 (rf 10 26),c1 (vI 0),none]⟩,[0,1,2,3,4,5,6,7,8,9,10],R,vv,U6 (F:=F) x7 R⟩
  refine cO [10,11,12,13,14,15] ((A4v k8).ok nv4) eK ((.cons R R C25)) R ((.cons R (.row (.row (.row (.row (.row .nil))))))) .nil R (N0 kR (A6 ?_));exact .inl ⟨(v4.H0,v4.G8,v4.G2,v4.H4,v4.G3,v4.G9,v4.H5,v4.H9,v4.E7,v4.F8,v4.I9,v4.D8,v4.G0,v4.H6,v4.G5,v4.F5,v4.E8,v4.E5,v4.F3,v4.F4,v4.A1,v4.A5,v4.F9,v4.B1,v4.A7,v4.B0),h,.vq [0,1,2,3,4,5,6,7,8,9,10,11,12,13,14,15]⟩
 replace h:=P1 c3 h;by_cases c4:e.kind=3
 ·replace h:=J7 c4 h;refine A7n (3) tb R R R R R c4 R R R (rU 3 R ?_);obtain⟨rv9,k9,h⟩:=H1 h;rcases eX h with⟨x9,nv5,h⟩ | ⟨v5,nv5,h⟩
  ·refine P0 kR kR (H8 [10,11,12,13,14,15] ((A1d k9).err nv5) R eK R (.inl ⟨R,R,R⟩) R R R R (.cons R R C25) R ?_);intro cnt;refine E9 ?_;cases h;exact⟨_,⟨[(4,rf 8 1),(5,rf 9 1)],B6X d [bx 1 (rf 0 26),bx 8 (.d (C7.d e)),bx 1 (rf 10 26),c1 (vI 0),none]⟩,[0,1,2,3,4,5,6,7,8,9,10],R,vv,U6 (F:=F) x9 R⟩
  refine cO [10,11,12,13,14,15] ((A1d k9).ok nv5) eK ((.cons R R C25)) R ((.cons R (.row (.row (.row (.row (.row .nil))))))) .nil R (N0 kR (A6 ?_));exact .inl ⟨(v5.H0,v5.G8,v5.G2,v5.H4,v5.G3,v5.G9,v5.H5,v5.H9,v5.E7,v5.F8,v5.I9,v5.D8,v5.G0,v5.H6,v5.G5,v5.F5,v5.E8,v5.E5,v5.F3,v5.F4,v5.A1,v5.A5,v5.F9,v5.B1,v5.A7,v5.B0),h,.vq [0,1,2,3,4,5,6,7,8,9,10,11,12,13,14,15]⟩
 replace h:=P1 c4 h;by_cases c5:e.kind=4
 ·replace h:=J7 c5 h;refine A7n (4) tb R R R R R c5 R R R (rU 3 R ?_);obtain⟨rv10,k10,h⟩:=H1 h;rcases eX h with⟨x11,nv6,h⟩ | ⟨v6,nv6,h⟩
  ·refine P0 kR kR (H8 [10,11,12,13,14,15] ((A1d k10).err nv6) R eK R (.inl ⟨R,R,R⟩) R R R R (.cons R R C25) R ?_);intro cnt;refine E9 ?_;cases h;exact⟨_,⟨[(4,rf 8 1),(5,rf 9 1)],B6X d [bx 1 (rf 0 26),bx 8 (.d (C7.d e)),bx 1 (rf 10 26),c1 (vI 0),none]⟩,[0,1,2,3,4,5,6,7,8,9,10],R,vv,U6 (F:=F) x11 R⟩
  refine cO [10,11,12,13,14,15] ((A1d k10).ok nv6) eK ((.cons R R C25)) R ((.cons R (.row (.row (.row (.row (.row .nil))))))) .nil R (N0 kR (A6 ?_));exact .inl ⟨(v6.H0,v6.G8,v6.G2,v6.H4,v6.G3,v6.G9,v6.H5,v6.H9,v6.E7,v6.F8,v6.I9,v6.D8,v6.G0,v6.H6,v6.G5,v6.F5,v6.E8,v6.E5,v6.F3,v6.F4,v6.A1,v6.A5,v6.F9,v6.B1,v6.A7,v6.B0),h,.vq [0,1,2,3,4,5,6,7,8,9,10,11,12,13,14,15]⟩
 replace h:=P1 c5 h;by_cases c6:e.kind=5
 ·replace h:=J7 c6 h;refine A7n (5) tb R R R R R c6 R R R (rU 3 R ?_);obtain⟨rv11,k11,h⟩:=H1 h;rcases eX h with⟨x13,nv7,h⟩ | ⟨v7,nv7,h⟩
  ·refine P0 kR kR (H8 [10,11,12,13,14,15] ((A16 k11).err nv7) R eK R (.inl ⟨R,R,R⟩) R R R R (.cons R R C25) R ?_);intro cnt;refine E9 ?_;cases h;exact⟨_,⟨[(4,rf 8 1),(5,rf 9 1)],B6X d [bx 1 (rf 0 26),bx 8 (.d (C7.d e)),bx 1 (rf 10 26),c1 (vI 0),none]⟩,[0,1,2,3,4,5,6,7,8,9,10],R,vv,U6 (F:=F) x13 R⟩
  refine cO [10,11,12,13,14,15] ((A16 k11).ok nv7) eK ((.cons R R C25)) R ((.cons R (.row (.row (.row (.row (.row .nil))))))) .nil R (N0 kR (A6 ?_));exact .inl ⟨(v7.H0,v7.G8,v7.G2,v7.H4,v7.G3,v7.G9,v7.H5,v7.H9,v7.E7,v7.F8,v7.I9,v7.D8,v7.G0,v7.H6,v7.G5,v7.F5,v7.E8,v7.E5,v7.F3,v7.F4,v7.A1,v7.A5,v7.F9,v7.B1,v7.A7,v7.B0),h,.vq [0,1,2,3,4,5,6,7,8,9,10,11,12,13,14,15]⟩
 replace h:=P1 c6 h;by_cases c7:e.kind=6
 ·replace h:=J7 c7 h;refine A7n (6) tb R R R R R c7 R R R (rU 3 R ?_);obtain⟨rv12,k12,h⟩:=H1 h;rcases eX h with⟨x15,nv8,h⟩ | ⟨v8,nv8,h⟩
  ·refine P0 kR kR (H8 [10,11,12,13,14,15] ((A16 k12).err nv8) R eK R (.inl ⟨R,R,R⟩) R R R R (.cons R R C25) R ?_);intro cnt;refine E9 ?_;cases h;exact⟨_,⟨[(4,rf 8 1),(5,rf 9 1)],B6X d [bx 1 (rf 0 26),bx 8 (.d (C7.d e)),bx 1 (rf 10 26),c1 (vI 0),none]⟩,[0,1,2,3,4,5,6,7,8,9,10],R,vv,U6 (F:=F) x15 R⟩
  refine cO [10,11,12,13,14,15] ((A16 k12).ok nv8) eK ((.cons R R C25)) R ((.cons R (.row (.row (.row (.row (.row .nil))))))) .nil R (N0 kR (A6 ?_));exact .inl ⟨(v8.H0,v8.G8,v8.G2,v8.H4,v8.G3,v8.G9,v8.H5,v8.H9,v8.E7,v8.F8,v8.I9,v8.D8,v8.G0,v8.H6,v8.G5,v8.F5,v8.E8,v8.E5,v8.F3,v8.F4,v8.A1,v8.A5,v8.F9,v8.B1,v8.A7,v8.B0),h,.vq [0,1,2,3,4,5,6,7,8,9,10,11,12,13,14,15]⟩
 replace h:=P1 c7 h;by_cases c8:e.kind=7
 ·replace h:=J7 c8 h;refine A7n (7) tb R R R R R c8 R R R (rU 3 R ?_);obtain⟨rv13,k13,h⟩:=H1 h;rcases eX h with⟨x17,nv9,h⟩ | ⟨v9,nv9,h⟩
  ·refine P0 kR kR (H8 [10,11,12,13,14,15] ((A3o k13).err nv9) R eK R (.inl ⟨R,R,R⟩) R R R R (.cons R R C25) R ?_);intro cnt;refine E9 ?_;cases h;exact⟨_,⟨[(4,rf 8 1),(5,rf 9 1)],B6X d [bx 1 (rf 0 26),bx 8 (.d (C7.d e)),bx 1 (rf 10 26),c1 (vI 0),none]⟩,[0,1,2,3,4,5,6,7,8,9,10],R,vv,U6 (F:=F) x17 R⟩
  refine cO [10,11,12,13,14,15] ((A3o k13).ok nv9) eK ((.cons R R C25)) R ((.cons R (.row (.row (.row (.row (.row .nil))))))) .nil R (N0 kR (A6 ?_));exact .inl ⟨(v9.H0,v9.G8,v9.G2,v9.H4,v9.G3,v9.G9,v9.H5,v9.H9,v9.E7,v9.F8,v9.I9,v9.D8,v9.G0,v9.H6,v9.G5,v9.F5,v9.E8,v9.E5,v9.F3,v9.F4,v9.A1,v9.A5,v9.F9,v9.B1,v9.A7,v9.B0),h,.vq [0,1,2,3,4,5,6,7,8,9,10,11,12,13,14,15]⟩
 replace h:=P1 c8 h;by_cases c9:e.kind=8
 ·replace h:=J7 c9 h;refine A7n (8) tb R R R R R c9 R R R (rU 3 R ?_);obtain⟨rv14,k14,h⟩:=H1 h;rcases eX h with⟨x19,nv10,h⟩ | ⟨v10,nv10,h⟩
  ·refine P0 kR kR (H8 [10,11,12,13,14,15] ((A4u k14).err nv10) R eK R (.inl ⟨R,R,R⟩) R R R R (.cons R R C25) R ?_);intro cnt;refine E9 ?_;cases h;exact⟨_,⟨[(4,rf 8 1),(5,rf 9 1)],B6X d [bx 1 (rf 0 26),bx 8 (.d (C7.d e)),bx 1 (rf 10 26),c1 (vI 0),none]⟩,[0,1,2,3,4,5,6,7,8,9,10],R,vv,U6 (F:=F) x19 R⟩
  refine cO [10,11,12,13,14,15] ((A4u k14).ok nv10) eK ((.cons R R C25)) R ((.cons R (.row (.row (.row (.row (.row .nil))))))) .nil R (N0 kR (A6 ?_));exact .inl ⟨(v10.H0,v10.G8,v10.G2,v10.H4,v10.G3,v10.G9,v10.H5,v10.H9,v10.E7,v10.F8,v10.I9,v10.D8,v10.G0,v10.H6,v10.G5,v10.F5,v10.E8,v10.E5,v10.F3,v10.F4,v10.A1,v10.A5,v10.F9,v10.B1,v10.A7,v10.B0),h,.vq [0,1,2,3,4,5,6,7,8,9,10,11,12,13,14,15]⟩
 replace h:=P1 c9 h;by_cases c10:e.kind=9
 ·replace h:=J7 c10 h;refine A7n (9) tb R R R R R c10 R R R (rU 3 R ?_);obtain⟨rv15,k15,h⟩:=H1 h;rcases eX h with⟨x21,nv11,h⟩ | ⟨v11,nv11,h⟩
  ·refine P0 kR kR (H8 [10,11,12,13,14,15] ((A3u k15).err nv11) R eK R (.inl ⟨R,R,R⟩) R R R R (.cons R R C25) R ?_);intro cnt;refine E9 ?_;cases h;exact⟨_,⟨[(4,rf 8 1),(5,rf 9 1)],B6X d [bx 1 (rf 0 26),bx 8 (.d (C7.d e)),bx 1 (rf 10 26),c1 (vI 0),none]⟩,[0,1,2,3,4,5,6,7,8,9,10],R,vv,U6 (F:=F) x21 R⟩
  refine cO [10,11,12,13,14,15] ((A3u k15).ok nv11) eK ((.cons R R C25)) R ((.cons R (.row (.row (.row (.row (.row .nil))))))) .nil R (N0 kR (A6 ?_));exact .inl ⟨(v11.H0,v11.G8,v11.G2,v11.H4,v11.G3,v11.G9,v11.H5,v11.H9,v11.E7,v11.F8,v11.I9,v11.D8,v11.G0,v11.H6,v11.G5,v11.F5,v11.E8,v11.E5,v11.F3,v11.F4,v11.A1,v11.A5,v11.F9,v11.B1,v11.A7,v11.B0),h,.vq [0,1,2,3,4,5,6,7,8,9,10,11,12,13,14,15]⟩
 replace h:=P1 c10 h;cases h
def A4J (F:Nat) (log:(List C7)) (K:(List Int)→Int→Option ((Option F7) × (List Int) × Int)):Nat→(List Int)→Int→Option ((Option F7) × (List Int) × Int)
 | 0,_,_=>none
 | n+1,why,x2=>if x2<(log.length:Int)then(none)else(K why x2)
def A3x (F:Nat) (p:D4) (log:(List C7)) (K:Int→Int→Option ((Option F7) × (List Int) × Int)):Nat→Int→Int→Option ((Option F7) × (List Int) × Int)
 | 0,_,_=>none
 | n+1,e,x=>if x<(log.length:Int)then((P3 log x).bind fun e2=>(A3I F p e2).bind fun rv2=>if rv2=0 then(A3x F p log K n rv2 (W (x+1)))else(some (none,([]:List Int),rv2)))else(K e x)
def A2c (F:Nat) (log:(List C7)) (K:(List F6)→(List G6)→(List E2)→(List ByteArray)→(List D1)→Int→Int→(List ByteArray)→(List D9)→(List E0)→(List Int)→Int→Int→Int→Int→(List Int)→(List Int)→(List Int)→Int→Bool→(List Int)→(List Int)→Bool→(List Bool)→(List Int)→(List Bool)→(List Int)→Int→Option ((Option F7) × (List Int) × Int)):Nat→(List F6)→(List G6)→(List E2)→(List ByteArray)→(List D1)→Int→Int→(List ByteArray)→(List D9)→(List E0)→(List Int)→Int→Int→Int→Int→(List Int)→(List Int)→(List Int)→Int→Bool→(List Int)→(List Int)→Bool→(List Bool)→(List Int)→(List Bool)→(List Int)→Int→Option ((Option F7) × (List Int) × Int)
 | 0,_,_,_,_,_,_,_,_,_,_,_,_,_,_,_,_,_,_,_,_,_,_,_,_,_,_,_,_=>none
 | n+1,d,d2,d3,d4,d5,d6,d7,d8,d9,d10,d11,d12,d13,d14,d15,d16,d17,d18,d19,d20,d21,d22,d23,d24,d25,d26,why2,x4=>if x4<(log.length:Int)then((P3 log x4).bind fun e6=>(A1F F (F7.mk d d2 d3 d4 d5 d6 d7 d8 d9 d10 d11 d12 d13 d14 d15 d16 d17 d18 d19 d20 d21 d22 d23 d24 d25 d26) e6).bind fun rv4=>exE rv4 (fun x5=>(A8i why2 [x5]).bind fun q=>A2c F log K n d d2 d3 d4 d5 d6 d7 d8 d9 d10 d11 d12 d13 d14 d15 d16 d17 d18 d19 d20 d21 d22 d23 d24 d25 d26 q (W (x4+1))) (fun v=>(A8i why2 [0]).bind fun q2=>A2c F log K n v.H0 v.G8 v.G2 v.H4 v.G3 v.G9 v.H5 v.H9 v.E7 v.F8 v.I9 v.D8 v.G0 v.H6 v.G5 v.F5 v.E8 v.E5 v.F3 v.F4 v.A1 v.A5 v.F9 v.B1 v.A7 v.B0 q2 (W (x4+1))))else(K d d2 d3 d4 d5 d6 d7 d8 d9 d10 d11 d12 d13 d14 d15 d16 d17 d18 d19 d20 d21 d22 d23 d24 d25 d26 why2 x4)
def A2d (F:Nat) (p:D4) (log:(List C7)) (K:Int→Int→Option ((Option F7) × (List Int) × Int)):Nat→Int→Int→Option ((Option F7) × (List Int) × Int)
 | 0,_,_=>none
 | n+1,e4,x3=>if x3<(log.length:Int)then((P3 log x3).bind fun e5=>(A3I F p e5).bind fun rv3=>if rv3=0 then(A2d F p log K n rv3 (W (x3+1)))else(some (none,([]:List Int),rv3)))else(K e4 x3)
def A42 (F:Nat) (p:D4) (log:(List C7)):Option ((Option F7) × (List Int) × Int):=(A4Q F p).bind fun rv=>B2S rv.1 (if rv.2=0 then(if 100<(log.length:Int)then(some (none,([]:List Int),3))else(A3x F p log (fun e x=>A4J F log (fun why x2=>some (none,why,0)) F ([]:List Int) 0) F rv.2 0))else(some (none,([]:List Int),rv.2))) (fun t=>if rv.2=0 then(if 100<(log.length:Int)then(some (none,([]:List Int),3))else(A2d F p log (fun e4 x3=>A2c F log (fun d d2 d3 d4 d5 d6 d7 d8 d9 d10 d11 d12 d13 d14 d15 d16 d17 d18 d19 d20 d21 d22 d23 d24 d25 d26 why2 x4=>some ((some (F7.mk d d2 d3 d4 d5 d6 d7 d8 d9 d10 d11 d12 d13 d14 d15 d16 d17 d18 d19 d20 d21 d22 d23 d24 d25 d26)),why2,0)) F t.H0 t.G8 t.G2 t.H4 t.G3 t.G9 t.H5 t.H9 t.E7 t.F8 t.I9 t.D8 t.G0 t.H6 t.G5 t.F5 t.E8 t.E5 t.F3 t.F4 t.A1 t.A5 t.F9 t.B1 t.A7 t.B0 ([]:List Int) 0) F rv.2 0))else(some (none,([]:List Int),rv.2)))
theorem A4c {F p log r} (h:A42 F p log=some r):SCO pg 45 (ao T.d [D4.d p,.arr 8 ((log).map C7.d)]) [] r.1 (.tup [.d (.v (.pointer none)),.row 0 1 0 (r.2.1).length,dI r.2.2]) (ao some [(B7 r.2.1)]) (fun(tt:F7) => .tup [rf 0 26,.row 6 1 0 (r.2.1).length,dI r.2.2]) (fun(tt:F7)=>ao some [⟨26,[C5 tt 1 2 3 4 5]⟩,(B7 tt.A1),(B7 tt.A5),(H7 tt.B1),(B7 tt.A7),(H7 tt.B0),(B7 r.2.1)]):=by
 rw[A42]at h;refine oW Tryz.func45 ?_;refine gY 4 R (gU 1 R ?_);obtain⟨rv,k,h⟩:=H1 h;rcases bB rv.1 with nv | ⟨t,nv⟩
 ·replace h:=(B5h nv).symm.trans h;refine cO [] ((A7t k).none nv) eK .nil R .nil .nil R (eU 5 R (B8 (E3 (gU 1 R ?_))));refine V5 R R R R (nJ h ?_) (tJ h ?_)
  ·intro h;refine eU 1 R (C0 R (gY 4 R (SW.ow 1 true 5 [] [4,5,6] R (C9 (C4 (B2 ?_))))));cases h;exact fS [1] (.inl ⟨R,R,R⟩) R (tC 4 (tC 5 (tC 6 .nil))) vv
  intro h;refine eU 1 R (C1 R (gU 1 R (I7 tb R ?_)));refine A4l R R R R (tJ h ?_) (lJ h ?_)
  ·intro h;refine eU 1 R (C0 R (gY 3 R (SW.ow 1 true 5 [] [4,5,6] R (C9 (C4 (B2 ?_))))));cases h;exact fS [1] (.inl ⟨R,R,R⟩) R (tC 4 (tC 5 (tC 6 .nil))) vv
  intro h;refine eU 1 R (zF (B8 (gU 1 R (I7 tb R (eU 1 R (E3 ?_))))));refine C3X (fun K2 m st=>∃ (e:Int) (x:Int),st=⟨[(1,.d (.arr 8 ((log).map C7.d))),(2,rf 0 13),(4,.d (.v (.pointer none))),(5,dZ),(6,dI e),(26,.d (.arr 8 ((log).map C7.d))),(27,dI (log.length:Int)),(28,dI x)],[bx 13 (.d (D4.d p))]⟩∧A3x F p log K2 m e x=some r) ⟨rv.2,0,R,h⟩ (.prn [1,2,4,5,6,26,27,28] R) ?_;rintro K2 hK2 m2 _ ⟨e,x,rfl,h⟩;rw[A3x]at h;refine qG ?_;refine Q4 R R R R (tJ h ?_) (lJ h ?_)
  ·intro h;refine Y9 (B8 (zT (B8 (E3 (qG ?_)))));obtain⟨e2,ie2,h⟩:=H1 h;refine yE ie2 R R (eU 2 R (gU 2 R ?_));obtain⟨rv2,k2,h⟩:=H1 h;refine J5 (A78 k2) eK R R R R (eU 1 R (gU 1 R ?_));refine V5 R R R R (nJ h ?_) (tJ h ?_)
   ·intro h;refine Y9 (C0 R (gY 4 R (SW.ow 1 true 5 [] [4,5,6] R (C9 (C4 (B2 (B2 (C4 (B2 ?_)))))))));cases h;exact fS [2] (.inl ⟨R,R,R⟩) R (tC 4 (tC 5 (tC 6 .nil))) vv
   intro h;refine Y9 (zF (hN 2 R ?_));exact bk ⟨rv2,(W (x+1)),R,h⟩ (.vq [0])
  intro h;refine Y9 (B8 (yX ?_));subst hK2;refine B8 (gU 1 R (I7 tb R (eU 1 R (E3 (SW.ow 1 true 5 [] [4,5,6,39,40,41] R ?_)))));refine C3X (fun K4 m st=>∃ (why:(List Int)) (x2:Int),st=⟨[(4,.d (.v (.pointer none))),(5,.row 0 1 0 (why).length),(6,dI e),(39,.d (.arr 8 ((log).map C7.d))),(40,dI (log.length:Int)),(41,dI x2)],[B0u why]⟩∧A4J F log K4 m why x2=some r) ⟨([]:List Int),0,R,h⟩ (.vq [1]) ?_;rintro K4 hK4 m4 _ ⟨why,x2,rfl,h⟩;rw[A4J]at h;refine qG ?_;refine Q4 R R R R (tJ h ?_) (lJ h ?_)
  ·intro h;cases h
  intro h;refine Y9 (B8 (yX ?_));subst hK4;refine rY 5 R ?_;cases h;exact fS [0] (.inl ⟨R,R,R⟩) R (tC 4 (tC 5 (tC 6 .nil))) vv
 replace h:=(B5i nv).symm.trans h;refine cO [] ((A7t k).some nv) eK .nil R .nil ((.cons R (.row (.row (.row (.row (.row .nil))))))) R (eU 5 R (B8 (E3 (gU 1 R ?_))));refine V5 R R R R (nJ h ?_) (tJ h ?_)
 ·intro h;refine eU 1 R (C0 R (gY 4 R (SW.ow 1 true 5 [] [4,5,6] R (C9 (C4 (B2 ?_))))));cases h;exact fS [7] (.inl ⟨R,R,R⟩) R (tC 4 (tC 5 (tC 6 .nil))) vv
 intro h;refine eU 1 R (C1 R (gU 1 R (I7 tb R ?_)));refine A4l R R R R (tJ h ?_) (lJ h ?_)
 ·intro h;refine eU 1 R (C0 R (gY 3 R (SW.ow 1 true 5 [] [4,5,6] R (C9 (C4 (B2 ?_))))));cases h;exact fS [7] (.inl ⟨R,R,R⟩) R (tC 4 (tC 5 (tC 6 .nil))) vv
 intro h;refine eU 1 R (zF (B8 (gU 1 R (I7 tb R (eU 1 R (E3 ?_))))));refine C3X (fun K6 m st=>∃ (e4:Int) (x3:Int),st=⟨[(1,.d (.arr 8 ((log).map C7.d))),(2,rf 0 13),(4,rf 1 26),(5,dZ),(6,dI e4),(26,.d (.arr 8 ((log).map C7.d))),(27,dI (log.length:Int)),(28,dI x3)],[bx 13 (.d (D4.d p)),bx 26 (C5 t 2 3 4 5 6),B0u t.A1,B0u t.A5,B9r t.B1,B0u t.A7,B9r t.B0]⟩∧A2d F p log K6 m e4 x3=some r) ⟨rv.2,0,R,h⟩ (.prn [1,2,4,5,6,26,27,28] R) ?_;rintro K6 hK6 m6 _ ⟨e4,x3,rfl,h⟩;rw[A2d]at h;refine qG ?_;refine Q4 R R R R (tJ h ?_) (lJ h ?_)
 ·intro h;refine Y9 (B8 (zT (B8 (E3 (qG ?_)))));obtain⟨e5,ie5,h⟩:=H1 h;refine yE ie5 R R (eU 2 R (gU 2 R ?_));obtain⟨rv3,k3,h⟩:=H1 h;refine J5 (A78 k3) eK R R R R (eU 1 R (gU 1 R ?_));refine V5 R R R R (nJ h ?_) (tJ h ?_)
  ·intro h;refine Y9 (C0 R (gY 4 R (SW.ow 1 true 5 [] [4,5,6] R (C9 (C4 (B2 (B2 (C4 (B2 ?_)))))))));cases h;exact fS [8] (.inl ⟨R,R,R⟩) R (tC 4 (tC 5 (tC 6 .nil))) vv
  intro h;refine Y9 (zF (hN 2 R ?_));exact bk ⟨rv3,(W (x3+1)),R,h⟩ (.vq [0,1,2,3,4,5,6])
 intro h;refine Y9 (B8 (yX ?_));subst hK6;refine B8 (gU 1 R (I7 tb R (eU 1 R (E3 (SW.ow 1 true 5 [] [4,5,6,39,40,41] R ?_)))));refine C3X (fun K8 m st=>∃ (d:(List F6)) (d2:(List G6)) (d3:(List E2)) (d4:(List ByteArray)) (d5:(List D1)) (d6:Int) (d7:Int) (d8:(List ByteArray)) (d9:(List D9)) (d10:(List E0)) (d11:(List Int)) (d12:Int) (d13:Int) (d14:Int) (d15:Int) (d16:(List Int)) (d17:(List Int)) (d18:(List Int)) (d19:Int) (d20:Bool) (d21:(List Int)) (d22:(List Int)) (d23:Bool) (d24:(List Bool)) (d25:(List Int)) (d26:(List Bool)) (why2:(List Int)) (x4:Int),st=⟨[(4,rf 0 26),(5,.row 6 1 0 (why2).length),(6,dI e4),(39,.d (.arr 8 ((log).map C7.d))),(40,dI (log.length:Int)),(41,dI x4)],[bx 26 (C5 (F7.mk d d2 d3 d4 d5 d6 d7 d8 d9 d10 d11 d12 d13 d14 d15 d16 d17 d18 d19 d20 d21 d22 d23 d24 d25 d26) 1 2 3 4 5),B0u d21,B0u d22,B9r d24,B0u d25,B9r d26,B0u why2]⟩∧A2c F log K8 m d d2 d3 d4 d5 d6 d7 d8 d9 d10 d11 d12 d13 d14 d15 d16 d17 d18 d19 d20 d21 d22 d23 d24 d25 d26 why2 x4=some r) ⟨t.H0,t.G8,t.G2,t.H4,t.G3,t.G9,t.H5,t.H9,t.E7,t.F8,t.I9,t.D8,t.G0,t.H6,t.G5,t.F5,t.E8,t.E5,t.F3,t.F4,t.A1,t.A5,t.F9,t.B1,t.A7,t.B0,([]:List Int),0,R,h⟩ (.vq [1,2,3,4,5,6,7]) ?_;rintro K8 hK8 m8 _ ⟨d,d2,d3,d4,d5,d6,d7,d8,d9,d10,d11,d12,d13,d14,d15,d16,d17,d18,d19,d20,d21,d22,d23,d24,d25,d26,why2,x4,rfl,h⟩;rw[A2c]at h;refine qG ?_;refine Q4 R R R R (tJ h ?_) (lJ h ?_)
 ·intro h;refine Y9 (B8 (zT (B8 (E3 (qG ?_)))));obtain⟨e6,ie6,h⟩:=H1 h;refine yE ie6 R R (eU 2 R (gU 2 R ?_));obtain⟨rv4,k4,h⟩:=H1 h;rcases eX h with⟨x5,nv2,h⟩ | ⟨v,nv2,h⟩
  ·refine cO [0,1,2,3,4,5] ((A5q k4).err nv2) eK ((.cons R R C25)) R ((.cons R (.row (.row (.row (.row (.row .nil))))))) .nil R (eU 5 R (hU 3 R (P7 tb R R R R R R R R R R R R R ?_)));obtain⟨q,iq,h⟩:=H1 h;refine B2k (g:=vI) (w:=why2) (v:=[x5]) ([bx 26 (C5 (F7.mk d d2 d3 d4 d5 d6 d7 d8 d9 d10 d11 d12 d13 d14 d15 d16 d17 d18 d19 d20 d21 d22 d23 d24 d25 d26) 1 2 3 4 5),B0u d21,B0u d22,B9r d24,B0u d25,B9r d26,none,bx 8 (.d (C7.d e6)),B0u [x5]]) tb R R R R R R R R R R R iq R R R R R (eU 2 R (hN 2 R ?_));exact bk ⟨d,d2,d3,d4,d5,d6,d7,d8,d9,d10,d11,d12,d13,d14,d15,d16,d17,d18,d19,d20,d21,d22,d23,d24,d25,d26,q,(W (x4+1)),R,h⟩ (.vq [0,1,2,3,4,5,9])
  refine cO [0,1,2,3,4,5] ((A5q k4).ok nv2) eK ((.cons R R C25)) R ((.cons R (.row (.row (.row (.row (.row .nil))))))) ((.cons R (.row (.row (.row (.row (.row .nil))))))) R (eU 5 R (hU 3 R (P7 tb R R R R R R R R R R R R R ?_)));obtain⟨q2,iq2,h⟩:=H1 h;refine B2k (g:=vI) (w:=why2) (v:=[0]) ([bx 26 (C5 (F7.mk d d2 d3 d4 d5 d6 d7 d8 d9 d10 d11 d12 d13 d14 d15 d16 d17 d18 d19 d20 d21 d22 d23 d24 d25 d26) 1 2 3 4 5),B0u d21,B0u d22,B9r d24,B0u d25,B9r d26,none,bx 8 (.d (C7.d e6)),bx 26 (C5 v 9 10 11 12 13),B0u v.A1,B0u v.A5,B9r v.B1,B0u v.A7,B9r v.B0,B0u [0]]) tb R R R R R R R R R R R iq2 R R R R R (eU 2 R (J1 ?_));refine nU 2 R ?_;exact bk ⟨v.H0,v.G8,v.G2,v.H4,v.G3,v.G9,v.H5,v.H9,v.E7,v.F8,v.I9,v.D8,v.G0,v.H6,v.G5,v.F5,v.E8,v.E5,v.F3,v.F4,v.A1,v.A5,v.F9,v.B1,v.A7,v.B0,q2,(W (x4+1)),R,h⟩ (.vq [8,9,10,11,12,13,15])
 intro h;refine Y9 (B8 (yX ?_));subst hK8;refine rY 5 R ?_;cases h;exact fS [0,1,2,3,4,5,6] (.inr ⟨_,R,R,R⟩) R (tC 4 (tC 5 (tC 6 .nil))) vv
def A36 (F:Nat) (p:D4) (log:(List C7)):Option (H2 × (List Int) × Int):=(A42 F p log).bind fun rv=>B2S rv.1 (if rv.2.2=0 then(none)else(some ((H2.mk 0 0 [] [] [] 0 false [] [] false [] [] []),[],rv.2.2))) (fun t=>if rv.2.2=0 then(some ((H2.mk t.H6 t.G5 t.F5 t.E8 t.E5 t.F3 t.F4 t.A1 t.A5 t.F9 t.B1 t.A7 t.B0),rv.2.1,0))else(some ((H2.mk 0 0 [] [] [] 0 false [] [] false [] [] []),[],rv.2.2)))
theorem A6l {F p log r} (h:A36 F p log=some r):PC pg 18 [D4.d p,.arr 8 ((log).map C7.d)] (.tup [H2.d r.1,aI r.2.1,vI r.2.2]):=by
 rw[A36]at h;refine PC.of_lend ?_;refine oW Tryz.func18 ?_;refine gY 4 R (gU 2 R ?_);obtain⟨rv,k,h⟩:=H1 h;rcases bB rv.1 with nv | ⟨t,nv⟩
 ·replace h:=(B5h nv).symm.trans h;refine cO [] ((A4c k).none nv) eK .nil R .nil ((.row .nil)) R (eU 7 R (B8 (gU 1 R ?_)));refine V5 R R R R (nJ h ?_) (tJ h ?_)
  ·intro h;refine Y9 (C0 R (qG (S1 (v := .d zC) tb R R cN kR kR kR kR R R (eU 4 R (C9 (B2 ?_))))));cases h;exact(U0 (t := .d (.tup [zC,sZ,vI rv.2.2])) (L:=[]) (κ:=[]) R (qC R (tC 5 (tC 6 .nil))) vv ⟨_,R,(.tupDL (.cons (.aggDL (dL (dL (.cons .nilA (.cons .nilA (.cons .nilA (dL (dL (.cons .nilA (.cons .nilA (dL (.cons .nilA (.cons .nilA (.cons .nilA .nil)))))))))))))) (.cons .nilA (dL .nil))))⟩)
  intro h;cases h
 replace h:=(B5i nv).symm.trans h;refine cO [] ((A4c k).some nv) eK .nil R .nil ((.cons R (.row (.row (.row (.row (.row (.row .nil)))))))) R (eU 7 R (B8 (gU 1 R ?_)));refine V5 R R R R (nJ h ?_) (tJ h ?_)
 ·intro h;refine Y9 (C0 R (qG (S1 (v := .d zC) tb R R cN kR kR kR kR R R (eU 4 R (C9 (B2 ?_))))));cases h;exact(U0 (t := .d (.tup [zC,sZ,vI rv.2.2])) (L:=[]) (κ:=[]) R (qC R (tC 5 (tC 6 .nil))) vv ⟨_,R,(.tupDL (.cons (.aggDL (dL (dL (.cons .nilA (.cons .nilA (.cons .nilA (dL (dL (.cons .nilA (.cons .nilA (dL (.cons .nilA (.cons .nilA (.cons .nilA .nil)))))))))))))) (.cons .nilA (dL .nil))))⟩)
 intro h;refine Y9 (zF (rY 8 R ?_));cases h;exact(U0 (t := .tup [B4I (H2.mk t.H6 t.G5 t.F5 t.E8 t.E5 t.F3 t.F4 t.A1 t.A5 t.F9 t.B1 t.A7 t.B0) 0 1 2 3 4,.row 5 1 0 (rv.2.1).length,dI 0]) (L:=[B0u t.A1,B0u t.A5,B9r t.B1,B0u t.A7,B9r t.B0,B0u rv.2.1]) (κ:=[3,4,5,6,7,8]) R (qC R (tC 5 (tC 6 .nil))) vv ⟨_,R,ld⟩)
def A2C (F:Nat) (s:(List E0)):Option (List E0):=some s
theorem A5U {F s r} (h:A2C F s=some r):SCR pg 168 (ao T.d [.arr 9 ((s).map E0.d)]) [] (.fn (.func 212) [] [rf 0 1]) (ao some [⟨1,[.d (.arr 9 ((r).map E0.d))]⟩]):=by
 rw[A2C]at h;refine oW Tryz.func168 ?_;refine gY 2 R (qG (A3E R R R R (eU 1 R (C9 ?_))));cases h;exact f2 [0] (.cons R R .nil) R (tC 2 .nil) R
def A37 (F:Nat) (d:F7):Option (F7 × (List (Int × Bool))):=(U8 F d).bind fun rv=>some (d,(M0 ([]:List (Int × Bool)) rv true))
theorem A6U {F d r} (h:A37 F d=some r):SCR pg 92 (ao T.d [.el 26 (([d]).map F7.d) ((0:Int)).toNat 0]) [] (.fn (.func 167) [] [rf 0 1,rf 1 1]) (ao some [⟨1,[.d (.el 26 (([r.1]).map F7.d) ((0:Int)).toNat 0)]⟩,⟨1,[.mp 2]⟩,(m3w r.2)]):=by
 rw[A37]at h;refine oW Tryz.func92 ?_;refine gY 2 R (qG (A58 R R R (rU 1 R ?_)));obtain⟨rv,k,h⟩:=H1 h;refine J5 (A0i k) eK R R R R ?_;refine A8E (vf:=fun b=>vB b) (v:=true) (q:=(M0 ([]:List (Int × Bool)) rv true)) ([c1 (.el 26 (([d]).map F7.d) ((0:Int)).toNat 0),C3e (M0 ([]:List (Int × Bool)) rv true)]) R R R R R R R R R ?_;refine eU 3 R (qG (A3E R R R R (eU 1 R (C9 ?_))));cases h;exact f2 [0,2,1] (.cons R R (.cons R R (.map R .nil))) R (tC 2 .nil) R
def A0n (F:Nat) (B29:(List Int)→Int→Option (Int × Bool)) (y:(List Int)) (x x4:Int):Option (Int × Bool):=(A8i y [x4]).bind fun q=>B29 q (W (x+1))
def A0o (F:Nat) (y:(List Int)) (e:E0) (K:Int→Int→Option (Int × Bool)):Nat→Int→Int→Option (Int × Bool)
 | 0,_,_=>none
 | n+1,x2,x3=>if x3<(e.need.length:Int)then((P3 e.need x3).bind fun e4=>(P3 y e4).bind fun e5=>A0o F y e K n (max x2 e5) (W (x3+1)))else(K x2 x3)
def A1b (F:Nat):Option (Int × Bool):=some (0,false)
def A1c (F:Nat) (B46:Int→(List (Int × Bool))→Option (Int × Bool)) (i:Int) (mm2:(List (Int × Bool))):Option (Int × Bool):=B46 (W (i-1)) mm2
def A0p (F:Nat) (e7:E0) (K:(List (Int × Bool))→Int→Option (Int × Bool)):Nat→(List (Int × Bool))→Int→Option (Int × Bool)
 | 0,_,_=>none
 | n+1,mm2,x5=>if x5<(e7.need.length:Int)then((P3 e7.need x5).bind fun e8=>A0p F e7 K n (M0 mm2 e8 true) (W (x5+1)))else(K mm2 x5)
def R4 (F:Nat) (t:F7) (o e6:Int) (rv4:(F7 × (List (Int × Bool)))) (rv5:(List E0)) (K:Int→(List (Int × Bool))→Option (Int × Bool)):Nat→Int→(List (Int × Bool))→Option (Int × Bool)
 | 0,_,_=>none
 | n+1,i,mm=>if 0≤i then((P3 rv5 i).bind fun e7=>if((A2e mm i).getD false)=true then(A0p F e7 (fun mm2 x5=>(A0R F rv4.1 i).bind fun rv6=>if rv6=true then((P3 t.A1 i).bind fun e9=>(P3 t.F8 i).bind fun e10=>if(W (e9+e10.most))<o then(A1b F)else((U8 F t).bind fun rv7=>if i=rv7 then(if(W (e9+e10.most))<(max e6 t.D8)then(A1b F)else(A1c F (R4 F t o e6 rv4 rv5 K n) i mm2))else(A1c F (R4 F t o e6 rv4 rv5 K n) i mm2)))else(R4 F t o e6 rv4 rv5 K n (W (i-1)) mm2)) F mm 0)else(R4 F t o e6 rv4 rv5 K n (W (i-1)) mm))else(K i mm)
def T5 (F:Nat) (t:F7) (o:Int) (K:(List Int)→Int→Option (Int × Bool)):Nat→(List Int)→Int→Option (Int × Bool)
 | 0,_,_=>none
 | n+1,y,x=>if x<(t.F8.length:Int)then((P3 t.F8 x).bind fun e=>(Y5 F t x).bind fun rv=>if rv=true then((P3 t.A5 x).bind fun e2=>A0n F (T5 F t o K n) y x e2)else((A0R F t x).bind fun rv2=>if rv2=true then((P3 t.A1 x).bind fun e3=>A0n F (T5 F t o K n) y x (max o (W (e3+e.least))))else(A0o F y e (fun x2 x3=>A0n F (T5 F t o K n) y x (W (x2+e.least))) F o 0)))else(K y x)
def A2h (F:Nat) (t:F7) (o:Int):Option (Int × Bool):=T5 F t o (fun y x=>(U8 F t).bind fun rv3=>(P3 y rv3).bind fun e6=>(A37 F t).bind fun rv4=>(A2C F rv4.1.F8).bind fun rv5=>R4 F t o e6 rv4 rv5 (fun i mm=>some ((max e6 t.D8),(decide ((max e6 t.D8)≤t.G0)))) F (W ((rv5.length:Int)-1)) rv4.2) F ([]:List Int) 0
theorem A4a {F t o r} (h:A2h F t o=some r):PC pg 53 [.el 26 (([t]).map F7.d) ((0:Int)).toNat 0,vI o] (.tup [vI r.1,vB r.2]):=by
 rw[A2h]at h;refine oN Tryz.func53 ?_;refine S3 ?_;refine W3 fun df=>?_;refine hE 4 R (S3 ?_);refine W3 fun df=>?_;refine hE 1 R (S3 ?_);refine W3 fun df=>?_;refine gU 4 R (I4 (y := .arr 9 ((t.F8).map E0.d)) tb (U5 (g:=F7.d) (R:P3 [t] 0=some t)) R (I7 tb R (eU 1 R (E3 (SW.ow 1 true 6 [] [2,3,4,5,6,19,20,21] R ?_)))));refine C3X (fun K29 m st=>∃ (y:(List Int)) (x:Int),st=⟨[(2,rf 0 1),(3,rf 1 1),(4,rf 2 1),(5,rf 3 1),(6,.row 4 1 0 (y).length),(19,.d (.arr 9 ((t.F8).map E0.d))),(20,dI (t.F8.length:Int)),(21,dI x)],[c1 (.el 26 (([t]).map F7.d) ((0:Int)).toNat 0),c1 (vI o),c1 (vI 0),c1 (vB false),B0u y]⟩∧T5 F t o K29 m y x=some r) ⟨([]:List Int),0,R,h⟩ (.prn [2,3,4,5,6,19,20,21] R) ?_;rintro K29 hK29 m29 _ ⟨y,x,rfl,h⟩;rw[T5]at h;refine qG ?_;refine Q4 R R R R (tJ h ?_) (lJ h ?_)
 ·intro h;refine Y9 (B8 (zT (B8 (E3 (gU 1 R ?_)))));obtain⟨e,ie,h⟩:=H1 h;refine yE ie R R (eU 3 R (gY 2 R (B8 ?_)));refine W5 (fun zz:Int=>A0n F (T5 F t o K29 m29) y x zz=some r) (fun zz:Int=>⟨[(2,rf 0 1),(3,rf 1 1),(4,rf 2 1),(5,rf 3 1),(6,.row 4 1 0 (y).length),(9,dI zz),(19,.d (.arr 9 ((t.F8).map E0.d))),(20,dI (t.F8.length:Int)),(21,dI x)],[c1 (.el 26 (([t]).map F7.d) ((0:Int)).toNat 0),c1 (vI o),c1 (vI 0),c1 (vB false),B0u y]⟩) ?_ ?_
  ·clear h;rintro x4 h;rw[A0n]at h;refine hU 2 R (P7 tb R R R R R R R R R R R R R ?_);obtain⟨q,iq,h⟩:=H1 h;refine B2k (g:=vI) (w:=y) (v:=[x4]) ([c1 (.el 26 (([t]).map F7.d) ((0:Int)).toNat 0),c1 (vI o),c1 (vI 0),c1 (vB false),none,B0u [x4]]) tb R R R R R R R R R R R iq R R R R R (eU 1 R (hN 2 R ?_));exact bk ⟨q,(W (x+1)),R,h⟩ (.vq [0,1,2,3,6])
  refine E3 (gU 2 R ?_);obtain⟨rv,k,h⟩:=H1 h;refine M6 (A1s k) eK R R R R (tI h ?_) (fI h ?_)
  ·intro c2 h;refine eU 1 R (C0 R (hU 4 R (I4 (y:=aI t.A5) tb (U5 (g:=F7.d) (R:P3 [t] 0=some t)) R (rU 1 R ?_))));obtain⟨e2,ie2,h⟩:=H1 h;refine yE ie2 R R (eU 1 R (D3 (A6 ?_)));exact .inl ⟨e2,h,.vq [0,1,2,3,4]⟩
  intro c2 h;refine eU 1 R (C1 R (gU 2 R ?_));obtain⟨rv2,k2,h⟩:=H1 h;refine M6 (A38 k2) eK R R R R (tI h ?_) (fI h ?_)
  ·intro c3 h;refine eU 1 R (C0 R (T1 kR (rU 5 R (I4 (y:=aI t.A1) tb (U5 (g:=F7.d) (R:P3 [t] 0=some t)) R (rU 1 R ?_)))));obtain⟨e3,ie3,h⟩:=H1 h;refine yE ie3 R R (rU 3 R (B3f R R R R (rU 1 R (I0 kR (D3 (A6 ?_))))));exact .inl ⟨(max o (W (e3+e.least))),h,.vq [0,1,2,3,4]⟩
  intro c3 h;refine eU 1 R (C1 R (B8 (gU 2 R (I7 tb R (eU 1 R (E3 ?_))))));refine C3X (fun K37 m st=>∃ (x2:Int) (x3:Int),st=⟨[(2,rf 0 1),(3,rf 1 1),(4,rf 2 1),(5,rf 3 1),(6,.row 4 1 0 (y).length),(8,rf 5 9),(9,dI x2),(19,.d (.arr 9 ((t.F8).map E0.d))),(20,dI (t.F8.length:Int)),(21,dI x),(28,.d (aI e.need)),(29,dI (e.need.length:Int)),(30,dI x3)],[c1 (.el 26 (([t]).map F7.d) ((0:Int)).toNat 0),c1 (vI o),c1 (vI 0),c1 (vB false),B0u y,bx 9 (.d (E0.d e))]⟩∧A0o F y e K37 m x2 x3=some r) ⟨o,0,R,h⟩ (.prn [2,3,4,5,6,8,9,19,20,21,28,29,30] R) ?_;rintro K37 hK37 m37 _ ⟨x2,x3,rfl,h⟩;rw[A0o]at h;refine qG ?_;refine Q4 R R R R (tJ h ?_) (lJ h ?_)
  ·intro h;refine Y9 (B8 (zT (B8 (E3 (qG ?_)))));obtain⟨e4,ie4,h⟩:=H1 h;refine yE ie4 R R (eU 1 R (hU 3 R ?_));obtain⟨e5,ie5,h⟩:=H1 h;refine Y1 tb R R R R R R (F0 ie5) (ix1 ie5) R R ?_;refine A15 (y:=vI e5) tb R R R R (U5 (g:=fun a=>T.d (vI a)) ie5) R R R R ?_;refine B3f R R R R (eU 1 R (hN 2 R ?_));exact bk ⟨(max x2 e5),(W (x3+1)),R,h⟩ (.prn [2,3,4,5,6,8,9,19,20,21,28,29,30] R)
  intro h;refine Y9 (B8 (yX ?_));subst hK37;refine hE 5 R (D3 (A6 ?_));exact .inl ⟨(W (x2+e.least)),h,.vq [0,1,2,3,4]⟩
 intro h;refine Y9 (B8 (yX ?_));subst hK29;refine S3 ?_;refine W3 fun df=>?_;refine T1 kR (rU 2 R ?_);obtain⟨rv3,k3,h⟩:=H1 h;refine J5 (A0i k3) eK R R R R ?_;obtain⟨e6,ie6,h⟩:=H1 h;refine Y1 tb R R R R R R (F0 ie6) (ix1 ie6) R R ?_;refine A15 (y:=vI e6) tb R R R R (U5 (g:=fun a=>T.d (vI a)) ie6) R R R R ?_;refine rU 5 R (I4 (y:=vI t.D8) tb (U5 (g:=F7.d) (R:P3 [t] 0=some t)) R (B3f R R R R (rU 2 R (I0 kR (S3 (S3 ?_))))));refine W3 fun df=>?_;refine hU 1 R ?_;obtain⟨rv4,k4,h⟩:=H1 h;refine A2X (A6U k4) eK R R R ((.cons R (.cons R (.map .nil)))) R R R (Y9 (A5A ?_));refine B8m (B2u eK R R R fun lb jlb=>B36 Tryz.func167 R R R R ?_);simp only[L8,aZ,eo];with_reducible apply B6f
 refine B8n fun df=>?_;refine hE 1 R ?_;with_reducible apply O2
 with_reducible apply B6f
 refine B8n fun df=>?_;refine hU 4 R (I4 (y := .arr 9 ((rv4.1.F8).map E0.d)) tb (U5 (g:=F7.d) (R:P3 [rv4.1] 0=some rv4.1)) R ?_);obtain⟨rv5,k5,h⟩:=H1 h;refine A2X (A5U k5) eK R R R ((.cons R .nil)) R R R (Y9 ?_);with_reducible apply O2
 with_reducible apply B6T
 refine B2u eK R R R fun lb2 jlb2=>B35 Tryz.func212 R R R R ?_;simp only[L8,aZ,eo];with_reducible apply A2D
 with_reducible apply A4D
 with_reducible apply A2B
 refine rU 1 R (I7 tb R (rU 2 R (A0B ?_)));with_reducible apply O2
 with_reducible apply A6K
 obtain⟨K46,hK46,h⟩:∃ K,K=_∧R4 F t o e6 rv4 rv5 K F (W ((rv5.length:Int)-1)) rv4.2=some r:=⟨_,rfl,h⟩;refine B2s (fun m ph st=>∃ (i:Int) (mm:(List (Int × Bool))),R4 F t o e6 rv4 rv5 K46 m i mm=some r∧ph=(SX.norm,SX.norm,())∧st=⟨[(0,.d (.v (.func (.yield lb2) #[] #[]))),(1,rf 10 1),(3,dI i)],[c1 (.el 26 (([t]).map F7.d) ((0:Int)).toNat 0),c1 (vI o),c1 (vI 0),c1 (vB false),B0u y,c1 (vI (max e6 t.D8)),c1 (.el 26 (([rv4.1]).map F7.d) ((0:Int)).toNat 0),bx 1 (.mp 8),C3e mm,c1 (.v (.func (.yield lb) #[] #[])),c1 (.arr 9 ((rv5).map E0.d))]⟩) (.prn [0,1,3] R) ⟨(W ((rv5.length:Int)-1)),rv4.2,h,R,R⟩ ?_;clear h;rintro m46 ph st ⟨i,mm,h,rfl,rfl⟩;cases m46 with
 | zero=>cases(show(none:Option (Int × Bool))=some r from h)
 | succ m46 =>
 rw[R4]at h;with_reducible apply A2D
 with_reducible apply A2D
 with_reducible apply A4D
 with_reducible apply A2B
 refine rU 1 R ?_;refine A7I R R R R (tJ h ?_) (mJ h ?_)
 ·intro h;refine A0B ?_;with_reducible apply O2
  refine A6L R ?_;with_reducible apply A5i
  with_reducible apply O2
  with_reducible apply A2D
  with_reducible apply A6K
  with_reducible apply A2D
  with_reducible apply A4D
  with_reducible apply A2B
  refine rU 4 R ?_;obtain⟨e7,ie7,h⟩:=H1 h;refine yE ie7 R R (B1T ?_)
  (apply B2n (ys:=[vI i,E0.d e7]));(iterate 7 exact rfl)
  intro hup2;dsimp only[B1H];refine gY 1 R (hE 2 R ?_);refine⟨R,?_⟩;with_reducible apply A6K
  with_reducible apply A2D
  with_reducible apply A2D
  with_reducible apply A4D
  with_reducible apply A2B
  refine rU 2 R ?_;refine C0I (vf:=fun b=>vB b) (z0:=false) (u:=vB ((A2e mm i).getD false)) tb R R R R R R R R R R ?_;refine X8 (tI h ?_) (fI h ?_)
  ·intro c6 h;refine rU 1 R (A0B ?_);with_reducible apply O2
   refine A3Q R ?_;with_reducible apply A5i
   with_reducible apply O2
   with_reducible apply A2D
   with_reducible apply A2D
   with_reducible apply A4D
   with_reducible apply A2B
   refine rU 2 R (I7 tb R (rU 1 R (A0B ?_)));with_reducible apply O2
   with_reducible apply A6K
   obtain⟨K47,hK47,h⟩:∃ K,K=_∧A0p F e7 K F mm 0=some r:=⟨_,rfl,h⟩;refine B2s (st0:=⟨[(1,rf 6 1),(2,rf 7 1),(3,rf 9 1),(4,dI i),(21,.d (aI e7.need)),(22,dI (e7.need.length:Int)),(23,dI 0)],[c1 (.el 26 (([t]).map F7.d) ((0:Int)).toNat 0),c1 (vI o),c1 (vI 0),c1 (vB false),B0u y,c1 (vI (max e6 t.D8)),c1 (.el 26 (([rv4.1]).map F7.d) ((0:Int)).toNat 0),bx 1 (.mp 8),C3e mm,c1 (.v (.func (.yield lb) #[] #[])),c1 (.arr 9 ((rv5).map E0.d))]⟩) (fun m ph st=>∃ (mm2:(List (Int × Bool))) (x5:Int),A0p F e7 K47 m mm2 x5=some r∧ph=(SX.norm,())∧st=⟨[(1,rf 6 1),(2,rf 7 1),(3,rf 9 1),(4,dI i),(21,.d (aI e7.need)),(22,dI (e7.need.length:Int)),(23,dI x5)],[c1 (.el 26 (([t]).map F7.d) ((0:Int)).toNat 0),c1 (vI o),c1 (vI 0),c1 (vB false),B0u y,c1 (vI (max e6 t.D8)),c1 (.el 26 (([rv4.1]).map F7.d) ((0:Int)).toNat 0),bx 1 (.mp 8),C3e mm2,c1 (.v (.func (.yield lb) #[] #[])),c1 (.arr 9 ((rv5).map E0.d))]⟩) (.vq [0,1,2,3,4,5,6,7,8,9,10]) ⟨mm,0,h,R,R⟩ ?_;clear h;rintro m47 ph st ⟨mm2,x5,h,rfl,rfl⟩;cases m47 with
   | zero=>cases(show(none:Option (Int × Bool))=some r from h)
   | succ m47 =>
   rw[A0p]at h;with_reducible apply A2D
   with_reducible apply A4D
   with_reducible apply A2B
   refine Q4 R R R R (tJ h ?_) (lJ h ?_)
   ·intro h;refine A0B ?_;with_reducible apply O2
    with_reducible apply A2D
    refine A6L R ?_;with_reducible apply A5i
    with_reducible apply O2
    with_reducible apply A2D
    with_reducible apply A6K
    with_reducible apply A2D
    with_reducible apply A4D
    with_reducible apply A2B
    obtain⟨e8,ie8,h⟩:=H1 h;refine yE ie8 R R (rU 1 R (A0B ?_));with_reducible apply O2
    with_reducible apply A4D
    with_reducible apply A2B
    refine rU 2 R ?_;refine C0b (vf:=fun b=>vB b) (v:=true) (q:=(M0 mm2 e8 true)) ([c1 (.el 26 (([t]).map F7.d) ((0:Int)).toNat 0),c1 (vI o),c1 (vI 0),c1 (vB false),B0u y,c1 (vI (max e6 t.D8)),c1 (.el 26 (([rv4.1]).map F7.d) ((0:Int)).toNat 0),bx 1 (.mp 8),C3e (M0 mm2 e8 true),c1 (.v (.func (.yield lb) #[] #[])),c1 (.arr 9 ((rv5).map E0.d))]) R R R R R R R R R ?_;refine A0B ?_;with_reducible apply A3a
    with_reducible apply O2
    with_reducible apply A4D
    with_reducible apply A2B
    refine rU 2 R (A0B ?_);with_reducible apply O2
    exact bk ⟨(M0 mm2 e8 true),(W (x5+1)),h,R,R⟩ (.prn [1,2,3,4,21,22,23] R)
   intro h;refine A0B ?_;with_reducible apply O2
   with_reducible apply A2D
   refine A3Q R ?_;with_reducible apply B12
   with_reducible apply A5W
   with_reducible apply A5W
   subst hK47;with_reducible apply A75
   with_reducible apply O2
   with_reducible apply A2D
   with_reducible apply A4D
   with_reducible apply A2B
   refine rU 2 R ?_;obtain⟨rv6,k6,h⟩:=H1 h;refine M6 (A38 k6) eK R R R R (tI h ?_) (fI h ?_)
   ·intro c8 h;refine rU 3 R (B1T ?_)
    (apply B5x (ys:=[vI i]));(iterate 7 exact rfl)
    intro hup;dsimp only[B1H];refine hE 1 R ?_;refine⟨R,C0g ?_⟩;refine E3 (B8 (T1 kR (rU 4 R (I4 (y:=aI t.A1) tb (U5 (g:=F7.d) (R:P3 [t] 0=some t)) R (rU 1 R ?_)))));obtain⟨e9,ie9,h⟩:=H1 h;refine yE ie9 R R (rU 4 R (I4 (y := .arr 9 ((t.F8).map E0.d)) tb (U5 (g:=F7.d) (R:P3 [t] 0=some t)) R (rU 1 R ?_)));obtain⟨e10,ie10,h⟩:=H1 h;refine xE ie10 R (rU 1 R (lE ie10 R (rU 2 R (I0 kR (B8 ?_)))));refine W5 (Sum.elim (fun zz:Unit=>A1b F=some r) (fun zz:Unit=>A1c F (R4 F t o e6 rv4 rv5 K46 m46) i mm2=some r)) (Sum.elim (fun zz:Unit=>⟨[(4,rf 2 1),(5,rf 3 1),(125,dB true)],[c1 (.el 26 (([t]).map F7.d) ((0:Int)).toNat 0),c1 (vI o),c1 (vI 0),c1 (vB false),B0u y,c1 (vI (max e6 t.D8)),c1 (.el 26 (([rv4.1]).map F7.d) ((0:Int)).toNat 0),bx 1 (.mp 8),C3e mm2,c1 (.v (.func (.yield lb) #[] #[])),c1 (.arr 9 ((rv5).map E0.d))]⟩) (fun zz:Unit=>⟨[(4,rf 2 1),(5,rf 3 1),(125,dB false)],[c1 (.el 26 (([t]).map F7.d) ((0:Int)).toNat 0),c1 (vI o),c1 (vI 0),c1 (vB false),B0u y,c1 (vI (max e6 t.D8)),c1 (.el 26 (([rv4.1]).map F7.d) ((0:Int)).toNat 0),bx 1 (.mp 8),C3e mm2,c1 (.v (.func (.yield lb) #[] #[])),c1 (.arr 9 ((rv5).map E0.d))]⟩)) ?_ ?_
    ·clear h;rintro(⟨⟩ | ⟨⟩) h
     ·dsimp only[Sum.elim]at h ⊢;rw[A1b]at h;refine cY 2 R (C4 ?_);refine⟨[c1 (.el 26 (([t]).map F7.d) ((0:Int)).toNat 0),c1 (vI o),c1 (vI 0),c1 (vB false),B0u y,c1 (vI (max e6 t.D8)),c1 (.el 26 (([rv4.1]).map F7.d) ((0:Int)).toNat 0),bx 1 (.mp 8),C3e mm2,c1 (.v (.func (.yield lb) #[] #[])),c1 (.arr 9 ((rv5).map E0.d))],[0,1,2,3,4,5,6,7,8,9,10],vv,?_⟩;with_reducible apply B6k
      with_reducible apply A2B
      refine rU 2 R (A0B ?_);with_reducible apply O2
      refine A6L R ?_;with_reducible apply B6e
      with_reducible apply A6Q
      refine⟨[c1 (.el 26 (([t]).map F7.d) ((0:Int)).toNat 0),c1 (vI o),c1 (vI 0),c1 (vB false),B0u y,c1 (vI (max e6 t.D8)),c1 (.el 26 (([rv4.1]).map F7.d) ((0:Int)).toNat 0),bx 1 (.mp 8),C3e mm2,c1 (.v (.func (.yield lb) #[] #[])),c1 (.arr 9 ((rv5).map E0.d))],[0,1,2,3,4,5,6,7,8,9,10],vv,?_⟩;with_reducible apply B6k
      with_reducible apply A2B
      refine rU 1 R (A0B ?_);with_reducible apply O2
      refine A6L R ?_;with_reducible apply B6e
      with_reducible apply A6Q
      with_reducible apply B2x
      with_reducible apply B2x
      with_reducible apply A6Q
      refine⟨R,[c1 (.el 26 (([t]).map F7.d) ((0:Int)).toNat 0),c1 (vI o),c1 (vI 0),c1 (vB false),B0u y,c1 (vI (max e6 t.D8)),c1 (.el 26 (([rv4.1]).map F7.d) ((0:Int)).toNat 0),bx 1 (.mp 8),C3e mm2,c1 (.v (.func (.yield lb) #[] #[])),c1 (.arr 9 ((rv5).map E0.d))],[0,1,2,3,4,5,6,7,8,9,10],vv,?_⟩;try dsimp only
      with_reducible apply A6Q
      refine⟨R,[c1 (.el 26 (([t]).map F7.d) ((0:Int)).toNat 0),c1 (vI o),c1 (vI 0),c1 (vB false),B0u y,c1 (vI (max e6 t.D8)),c1 (.el 26 (([rv4.1]).map F7.d) ((0:Int)).toNat 0),bx 1 (.mp 8),C3e mm2],[0,1,2,3,4,5,6,7,8],vv,?_⟩;try dsimp only
      cases h;exact f0 R R R (qC R (qC R .nil))
     ·dsimp only[Sum.elim]at h ⊢;rw[A1c]at h;refine zF (D3 ?_);refine⟨[c1 (.el 26 (([t]).map F7.d) ((0:Int)).toNat 0),c1 (vI o),c1 (vI 0),c1 (vB false),B0u y,c1 (vI (max e6 t.D8)),c1 (.el 26 (([rv4.1]).map F7.d) ((0:Int)).toNat 0),bx 1 (.mp 8),C3e mm2,c1 (.v (.func (.yield lb) #[] #[])),c1 (.arr 9 ((rv5).map E0.d))],[0,1,2,3,4,5,6,7,8,9,10],vv,?_⟩;with_reducible apply A9y
      with_reducible apply A2B
      refine rU 2 R (A0B ?_);with_reducible apply O2
      refine A3Q R ?_;with_reducible apply A5i
      with_reducible apply A3a
      refine⟨[c1 (.el 26 (([t]).map F7.d) ((0:Int)).toNat 0),c1 (vI o),c1 (vI 0),c1 (vB false),B0u y,c1 (vI (max e6 t.D8)),c1 (.el 26 (([rv4.1]).map F7.d) ((0:Int)).toNat 0),bx 1 (.mp 8),C3e mm2,c1 (.v (.func (.yield lb) #[] #[])),c1 (.arr 9 ((rv5).map E0.d))],[0,1,2,3,4,5,6,7,8,9,10],vv,?_⟩;with_reducible apply A9y
      with_reducible apply A2B
      refine rU 1 R (A0B ?_);with_reducible apply O2
      refine A3Q R ?_;with_reducible apply A5i
      with_reducible apply A3a
      with_reducible apply O2
      with_reducible apply A4D
      with_reducible apply A2B
      refine rU 3 R (A0B ?_);with_reducible apply O2
      exact bk ⟨(W (i-1)),mm2,h,R,R⟩ (.prn [0,1,3] R)
    refine hU 2 R ?_;refine Q4 R R R R (tJ h ?_) (lJ h ?_)
    ·intro h;refine nU 11 R ?_;exact .inl ⟨.inl (),h,.prn [4,5,125] R⟩
    intro h;refine rU 3 R ?_;obtain⟨rv7,k7,h⟩:=H1 h;refine J5 (A0i k7) eK R R R R ?_;refine Z3 R R R R (tJ h ?_) (nJ h ?_)
    ·intro h;refine rU 3 R ?_;refine Q4 R R R R (tJ h ?_) (lJ h ?_)
     ·intro h;refine nU 2 R ?_;exact .inl ⟨.inl (),h,.prn [4,5,125] R⟩
     intro h;refine nU 2 R ?_;exact .inl ⟨.inr (()),h,.prn [4,5,125] R⟩
    intro h;refine nU 6 R ?_;exact .inl ⟨.inr (()),h,.prn [4,5,125] R⟩
   intro c8 h;refine rU 6 R (A0B ?_);with_reducible apply O2
   refine A3Q R ?_;with_reducible apply A5i
   with_reducible apply A3a
   refine⟨[c1 (.el 26 (([t]).map F7.d) ((0:Int)).toNat 0),c1 (vI o),c1 (vI 0),c1 (vB false),B0u y,c1 (vI (max e6 t.D8)),c1 (.el 26 (([rv4.1]).map F7.d) ((0:Int)).toNat 0),bx 1 (.mp 8),C3e mm2,c1 (.v (.func (.yield lb) #[] #[])),c1 (.arr 9 ((rv5).map E0.d))],[0,1,2,3,4,5,6,7,8,9,10],vv,?_⟩;with_reducible apply A9y
   with_reducible apply A2B
   refine rU 1 R (A0B ?_);with_reducible apply O2
   refine A3Q R ?_;with_reducible apply A5i
   with_reducible apply A3a
   with_reducible apply O2
   with_reducible apply A4D
   with_reducible apply A2B
   refine rU 3 R (A0B ?_);with_reducible apply O2
   exact bk ⟨(W (i-1)),mm2,h,R,R⟩ (.prn [0,1,3] R)
  intro c6 h;refine rU 1 R (A0B ?_);with_reducible apply O2
  refine A6L R ?_;with_reducible apply B12
  with_reducible apply A5W
  with_reducible apply A75
  refine⟨[c1 (.el 26 (([t]).map F7.d) ((0:Int)).toNat 0),c1 (vI o),c1 (vI 0),c1 (vB false),B0u y,c1 (vI (max e6 t.D8)),c1 (.el 26 (([rv4.1]).map F7.d) ((0:Int)).toNat 0),bx 1 (.mp 8),C3e mm,c1 (.v (.func (.yield lb) #[] #[])),c1 (.arr 9 ((rv5).map E0.d))],[0,1,2,3,4,5,6,7,8,9,10],vv,?_⟩;with_reducible apply A9y
  with_reducible apply A2B
  refine rU 1 R (A0B ?_);with_reducible apply O2
  refine A3Q R ?_;with_reducible apply A5i
  with_reducible apply A3a
  with_reducible apply O2
  with_reducible apply A4D
  with_reducible apply A2B
  refine rU 3 R (A0B ?_);with_reducible apply O2
  exact bk ⟨(W (i-1)),mm,h,R,R⟩ (.prn [0,1,3] R)
 intro h;refine A0B ?_;with_reducible apply O2
 refine A3Q R ?_;with_reducible apply B12
 with_reducible apply A5W
 with_reducible apply A5W
 subst hK46;with_reducible apply A75
 refine⟨R,[c1 (.el 26 (([t]).map F7.d) ((0:Int)).toNat 0),c1 (vI o),c1 (vI 0),c1 (vB false),B0u y,c1 (vI (max e6 t.D8)),c1 (.el 26 (([rv4.1]).map F7.d) ((0:Int)).toNat 0),bx 1 (.mp 8),C3e mm,c1 (.v (.func (.yield lb) #[] #[])),c1 (.arr 9 ((rv5).map E0.d))],[0,1,2,3,4,5,6,7,8,9,10],vv,?_⟩;try dsimp only
 with_reducible apply A3a
 refine⟨R,[c1 (.el 26 (([t]).map F7.d) ((0:Int)).toNat 0),c1 (vI o),c1 (vI 0),c1 (vB false),B0u y,c1 (vI (max e6 t.D8)),c1 (.el 26 (([rv4.1]).map F7.d) ((0:Int)).toNat 0),bx 1 (.mp 8),C3e mm],[0,1,2,3,4,5,6,7,8],vv,?_⟩;try dsimp only
 refine W3 fun df=>?_;refine B8 (T1 kR (rU 7 R (I4 (y:=vI t.G0) tb (U5 (g:=F7.d) (R:P3 [t] 0=some t)) R (B8a R R R R (rU 2 R (I0 kR (C9 ?_)))))));cases h;exact f0 R R R (qC R (qC R .nil))
def A6V (F:Nat) (p:D4) (log:(List C7)):Option ((Option F7) × Int):=(A42 F p log).bind fun rv=>B2S rv.1 (if rv.2.2=0 then(none)else(some (none,rv.2.2))) (fun t=>if rv.2.2=0 then((U8 F t).bind fun rv2=>(Y5 F t rv2).bind fun rv3=>if rv3=true then(some (none,9))else(some ((some t),0)))else(some (none,rv.2.2)))
theorem A4b {F p log r} (h:A6V F p log=some r):SCO pg 51 (ao T.d [D4.d p,.arr 8 ((log).map C7.d)]) [] r.1 (.d (.tup [.v (.pointer none),vI r.2])) (ao some []) (fun(tt:F7) => .tup [rf 0 26,dI r.2]) (fun(tt:F7)=>ao some [⟨26,[C5 tt 1 2 3 4 5]⟩,(B7 tt.A1),(B7 tt.A5),(H7 tt.B1),(B7 tt.A7),(H7 tt.B0)]):=by
 rw[A6V]at h;refine oW Tryz.func51 ?_;refine gY 3 R (gU 2 R ?_);obtain⟨rv,k,h⟩:=H1 h;rcases bB rv.1 with nv | ⟨t,nv⟩
 ·replace h:=(B5h nv).symm.trans h;refine cO [] ((A4c k).none nv) eK .nil R .nil ((.row .nil)) R (eU 7 R (B8 (E3 (gU 1 R ?_))));refine V5 R R R R (nJ h ?_) (tJ h ?_)
  ·intro h;refine eU 1 R (cY 3 R (C4 (B2 ?_)));cases h;exact fS [] (.inl ⟨R,R,R⟩) R (tC 4 (tC 5 .nil)) vv
  intro h;cases h
 replace h:=(B5i nv).symm.trans h;refine cO [] ((A4c k).some nv) eK .nil R .nil ((.cons R (.row (.row (.row (.row (.row (.row .nil)))))))) R (eU 7 R (B8 (E3 (gU 1 R ?_))));refine V5 R R R R (nJ h ?_) (tJ h ?_)
 ·intro h;refine eU 1 R (cY 3 R (C4 (B2 ?_)));cases h;exact fS [] (.inl ⟨R,R,R⟩) R (tC 4 (tC 5 .nil)) vv
 intro h;refine eU 1 R (C1 R (gU 2 R ?_));obtain⟨rv2,k2,h⟩:=H1 h;refine A19 (A0i k2) R eK R R ((.cons (.ref R ld) .nil)) R R ?_;obtain⟨rv3,k3,h⟩:=H1 h;refine A4k (A1s k3) eK R R ((.cons (.ref R ld) (dL .nil))) R R (tI h ?_) (fI h ?_)
 ·intro c3 h;refine eU 1 R (cY 2 R (C4 (B2 ?_)));cases h;exact fS [] (.inl ⟨R,R,R⟩) R (tC 4 (tC 5 .nil)) vv
 intro c3 h;refine eU 1 R (zF (rY 3 R ?_));cases h;exact fS [1,2,3,4,5,6] (.inr ⟨_,R,R,R⟩) R (tC 4 (tC 5 .nil)) vv
def A3Z (F:Nat) (p:D4) (log:(List C7)) (tick:Int):Option (Int × Int):=(A6V F p log).bind fun rv=>B2S rv.1 (if rv.2=0 then(none)else(some (0,rv.2))) (fun t=>if rv.2=0 then((Y7 F tick t.H6 100000).bind fun rv2=>if rv2=true then(some (0,7))else((A2h F t tick).bind fun rv3=>if rv3.2=true then(some (rv3.1,0))else(some (0,9))))else(some (0,rv.2)))
theorem A6d {F p log tick r} (h:A3Z F p log tick=some r):PC pg 23 [D4.d p,.arr 8 ((log).map C7.d),vI tick] (.tup [vI r.1,vI r.2]):=by
 rw[A3Z]at h;refine oW Tryz.func23 ?_;refine gY 3 R (gU 2 R ?_);obtain⟨rv,k,h⟩:=H1 h;rcases bB rv.1 with nv | ⟨t,nv⟩
 ·replace h:=(B5h nv).symm.trans h;refine cO [] ((A4b k).none nv) eK .nil R .nil .nil R (eU 5 R (B8 (E3 (gU 1 R ?_))));refine V5 R R R R (nJ h ?_) (tJ h ?_)
  ·intro h;refine eU 1 R (cY 3 R ?_);cases h;exact f0 R R R (tC 6 (tC 7 .nil))
  intro h;cases h
 replace h:=(B5i nv).symm.trans h;refine cO [] ((A4b k).some nv) eK .nil R .nil ((.cons R (.row (.row (.row (.row (.row .nil))))))) R (eU 5 R (B8 (E3 (gU 1 R ?_))));refine V5 R R R R (nJ h ?_) (tJ h ?_)
 ·intro h;refine eU 1 R (cY 3 R ?_);cases h;exact f0 R R R (tC 6 (tC 7 .nil))
 intro h;refine eU 1 R (C1 R (gU 6 R ?_));obtain⟨rv2,k2,h⟩:=H1 h;refine M6 (V8 k2) eK R R R R (tI h ?_) (fI h ?_)
 ·intro c3 h;refine eU 1 R (cY 2 R ?_);cases h;exact f0 R R R (tC 6 (tC 7 .nil))
 intro c3 h;refine eU 1 R (zF (gU 2 R ?_));obtain⟨rv3,k3,h⟩:=H1 h;refine A19 (A4a k3) R eK R R ((.cons (.ref R ld) (dL .nil))) R R (rU 3 R ?_);refine X8 (tI h ?_) (fI h ?_)
 ·intro c4 h;refine eU 2 R (B8 (gY 2 R (zF (rY 3 R ?_))));cases h;exact f0 R R R (tC 6 (tC 7 .nil))
 intro c4 h;refine eU 2 R (B8 (gY 2 R (cY 2 R ?_)));cases h;exact f0 R R R (tC 6 (tC 7 .nil))
def A2P (F:Nat) (t:F7) (K:Int→Int→Int→Option (Int × Int)):Nat→Int→Int→Int→Option (Int × Int)
 | 0,_,_,_=>none
 | n+1,late,lo,hi=>if lo≤hi then((A2h F t (W (cz (W (lo+hi)) 2))).bind fun rv2=>if rv2.2=true then(A2P F t K n (W (cz (W (lo+hi)) 2)) (W ((W (cz (W (lo+hi)) 2))+1)) hi)else(A2P F t K n late lo (W ((W (cz (W (lo+hi)) 2))-1))))else(K late lo hi)
def A85 (F:Nat) (p:D4) (log:(List C7)):Option (Int × Int):=(A6V F p log).bind fun rv=>B2S rv.1 (if rv.2=0 then(none)else(some (0,rv.2))) (fun t=>if rv.2=0 then(A2P F t (fun late lo hi=>some (late,0)) F (-1) t.H6 100000)else(some (0,rv.2)))
theorem B1B {F p log r} (h:A85 F p log=some r):PC pg 25 [D4.d p,.arr 8 ((log).map C7.d)] (.tup [vI r.1,vI r.2]):=by
 rw[A85]at h;refine oW Tryz.func25 ?_;refine gY 3 R (gU 2 R ?_);obtain⟨rv,k,h⟩:=H1 h;rcases bB rv.1 with nv | ⟨t,nv⟩
 ·replace h:=(B5h nv).symm.trans h;refine cO [] ((A4b k).none nv) eK .nil R .nil .nil R (eU 5 R (B8 (gU 1 R ?_)));refine V5 R R R R (nJ h ?_) (tJ h ?_)
  ·intro h;refine Y9 (cY 3 R ?_);cases h;exact f0 R R R (tC 4 (tC 5 .nil))
  intro h;cases h
 replace h:=(B5i nv).symm.trans h;refine cO [] ((A4b k).some nv) eK .nil R .nil ((.cons R (.row (.row (.row (.row (.row .nil))))))) R (eU 5 R (B8 (gU 1 R ?_)));refine V5 R R R R (nJ h ?_) (tJ h ?_)
 ·intro h;refine Y9 (cY 3 R ?_);cases h;exact f0 R R R (tC 4 (tC 5 .nil))
 intro h;refine Y9 (zF (gY 1 R (B8 (gY 7 R (E3 ?_)))));refine C3X (fun K4 m st=>∃ (late:Int) (lo:Int) (hi:Int),st=⟨[(4,dI 0),(5,dI 0),(6,rf 0 26),(8,dI late),(9,dI lo),(10,dI hi)],B6X t []⟩∧A2P F t K4 m late lo hi=some r) ⟨(-1),t.H6,100000,R,h⟩ (.vq [1,2,3,4,5,6]) ?_;rintro K4 hK4 m4 _ ⟨late,lo,hi,rfl,h⟩;rw[A2P]at h;refine B8 (gU 2 R ?_);refine B1t R R R R (tJ h ?_) (mJ h ?_)
 ·intro h;refine Y9 (zT (E3 (gU 3 R (C0J R R dM R R (eU 1 R (gU 2 R ?_))))));obtain⟨rv2,k2,h⟩:=H1 h;refine A19 (A4a k2) R eK R R ((.cons (.ref R ld) (dL .nil))) R R (rU 3 R ?_);refine X8 (tI h ?_) (fI h ?_)
  ·intro c4 h;refine eU 2 R (gY 1 R (C0 R (hE 5 R (D3 (A6 ?_)))));exact bk ⟨(W (cz (W (lo+hi)) 2)),(W ((W (cz (W (lo+hi)) 2))+1)),hi,R,h⟩ (.prn [4,5,6,8,9,10] R)
  intro c4 h;refine eU 2 R (gY 1 R (C1 R (hE 3 R (D3 (A6 ?_)))));exact bk ⟨late,lo,(W ((W (cz (W (lo+hi)) 2))-1)),R,h⟩ (.prn [4,5,6,8,9,10] R)
 intro h;refine Y9 (yX ?_);subst hK4;refine rY 3 R ?_;cases h;exact f0 R R R (tC 4 (tC 5 .nil))
def C8N (F:Nat) (nv low high:Int):Option Bool:=if low≤nv then(some (decide (nv≤high)))else(some false)
theorem C7z {F nv low high r} (h:C8N F nv low high=some r):PC pg 55 [vI nv,vI low,vI high] (vB r):=by
 rw[C8N]at h;refine oW Tryz.func55 ?_;refine gY 1 R (gU 2 R ?_);refine A7I R R R R (tJ h ?_) (mJ h ?_)
 ·intro h;refine rU 3 R (B8a R R R R (eU 2 R (C9 ?_)));cases h;exact f1 6 R
 intro h;refine eU 6 R (C9 ?_);cases h;exact f1 6 R
def C7Q (F:Nat) (lv:(List Int)) (many:Int) (K:Int→Option Bool):Nat→Int→Option Bool
 | 0,_=>none
 | n+1,i=>if i<(lv.length:Int)then((P3 lv i).bind fun e=>(C8N F e 0 (W (many-1))).bind fun rv=>if rv=true then(C7Q F lv many K n (W (i+1)))else(some false))else(K i)
def C8i (F:Nat) (lv:(List Int)) (many:Int):Option Bool:=C7Q F lv many (fun i=>some true) F 0
theorem C8V {F lv many r} (h:C8i F lv many=some r):PC pg 141 [aI lv,vI many] (vB r):=by
 rw[C8i]at h;refine oW Tryz.func141 ?_;refine gY 1 R (B8 (gY 1 R (E3 ?_)));refine C3X (fun K3 m st=>∃ (i:Int),st=⟨[(0,.d (aI lv)),(1,dI many),(4,dB false),(5,dI i)],[]⟩∧C7Q F lv many K3 m i=some r) ⟨0,R,h⟩ (.prn [0,1,4,5] R) ?_;rintro K3 hK3 m3 _ ⟨i,rfl,h⟩;rw[C7Q]at h;refine B8 (gU 2 R (I7 tb R ?_));refine Q4 R R R R (tJ h ?_) (lJ h ?_)
 ·intro h;refine Y9 (zT (B8 (E3 (gU 2 R ?_))));obtain⟨e,ie,h⟩:=H1 h;refine yE ie R R (rU 2 R ?_);obtain⟨rv,k,h⟩:=H1 h;refine M6 (C7z k) eK R R R R (tI h ?_) (fI h ?_)
  ·intro c2 h;refine eU 1 R (zF (hN 3 R ?_));exact bk ⟨(W (i+1)),R,h⟩ (.prn [0,1,4,5] R)
  intro c2 h;refine eU 1 R (cY 1 R ?_);cases h;exact f1 4 R
 intro h;refine Y9 (yX ?_);subst hK3;refine rY 1 R ?_;cases h;exact f1 4 R
def C7o (F:Nat) (lv:(List Int)) (K:Int→Option Bool):Nat→Int→Option Bool
 | 0,_=>none
 | n+1,i=>if i<(lv.length:Int)then((P3 lv i).bind fun e=>(P3 lv (W (i-1))).bind fun e2=>if e≤e2 then(some false)else(C7o F lv K n (W (i+1))))else(K i)
def C7y (F:Nat) (lv:(List Int)):Option Bool:=C7o F lv (fun i=>some true) F 1
theorem C8u {F lv r} (h:C7y F lv=some r):PC pg 142 [aI lv] (vB r):=by
 rw[C7y]at h;refine oW Tryz.func142 ?_;refine gY 1 R (B8 (gY 1 R (E3 ?_)));refine C3X (fun K3 m st=>∃ (i:Int),st=⟨[(0,.d (aI lv)),(2,dB false),(3,dI i)],[]⟩∧C7o F lv K3 m i=some r) ⟨1,R,h⟩ (.prn [0,2,3] R) ?_;rintro K3 hK3 m3 _ ⟨i,rfl,h⟩;rw[C7o]at h;refine B8 (gU 2 R (I7 tb R ?_));refine Q4 R R R R (tJ h ?_) (lJ h ?_)
 ·intro h;refine Y9 (zT (B8 (E3 (B8 (T1 kR (rU 2 R ?_))))));obtain⟨e,ie,h⟩:=H1 h;refine yE ie R R (rU 3 R ?_);obtain⟨e2,ie2,h⟩:=H1 h;refine yE ie2 R R ?_;refine B1t R R R R (tJ h ?_) (mJ h ?_)
  ·intro h;refine I0 kR (cY 1 R ?_);cases h;exact f1 2 R
  intro h;refine I0 kR (zF (hN 3 R ?_));exact bk ⟨(W (i+1)),R,h⟩ (.prn [0,2,3] R)
 intro h;refine Y9 (yX ?_);subst hK3;refine rY 1 R ?_;cases h;exact f1 2 R
def C8C (F:Nat) (lv:(List ByteArray)) (i:Int) (e:ByteArray) (K:Int→Option (Int × Int)):Nat→Int→Option (Int × Int)
 | 0,_=>none
 | n+1,k=>if k<i then((P3 lv k).bind fun e2=>if e2.toList=e.toList then(some (i,5))else(C8C F lv i e K n (W (k+1))))else(K k)
def C8k (F:Nat) (lv:(List ByteArray)) (K:Int→Option (Int × Int)):Nat→Int→Option (Int × Int)
 | 0,_=>none
 | n+1,i=>if i<(lv.length:Int)then((P3 lv i).bind fun e=>(D0i F e).bind fun rv=>if rv=true then(C8C F lv i e (fun k=>C8k F lv K n (W (i+1))) F 0)else(some (i,6)))else(K i)
def C9G (F:Nat) (lv:(List ByteArray)):Option (Int × Int):=C8k F lv (fun i=>some (0,0)) F 0
theorem D0R {F lv r} (h:C9G F lv=some r):PC pg 67 [.arr 1 ((lv).map vS)] (.tup [vI r.1,vI r.2]):=by
 rw[C9G]at h;refine oW Tryz.func67 ?_;refine gY 2 R (B8 (gY 1 R (E3 ?_)));refine C3X (fun K8 m st=>∃ (i:Int),st=⟨[(0,.d (.arr 1 ((lv).map vS))),(2,dI 0),(3,dI 0),(4,dI i)],[]⟩∧C8k F lv K8 m i=some r) ⟨0,R,h⟩ (.prn [0,2,3,4] R) ?_;rintro K8 hK8 m8 _ ⟨i,rfl,h⟩;rw[C8k]at h;refine B8 (gU 2 R (I7 tb R ?_));refine Q4 R R R R (tJ h ?_) (lJ h ?_)
 ·intro h;refine Y9 (zT (B8 (E3 (B8 (gU 2 R ?_)))));obtain⟨e,ie,h⟩:=H1 h;refine yE ie R R ?_;obtain⟨rv,k,h⟩:=H1 h;refine M6 (D1f k) eK R R R R (tI h ?_) (fI h ?_)
  ·intro c2 h;refine eU 1 R (zF (gY 1 R (E3 ?_)));refine C3X (fun K10 m st=>∃ (k:Int),st=⟨[(0,.d (.arr 1 ((lv).map vS))),(2,dI 0),(3,dI 0),(4,dI i),(5,dI k)],[]⟩∧C8C F lv i e K10 m k=some r) ⟨0,R,h⟩ (.prn [0,2,3,4,5] R) ?_;rintro K10 hK10 m10 _ ⟨k,rfl,h⟩;rw[C8C]at h;refine B8 (gU 2 R ?_);refine Q4 R R R R (tJ h ?_) (lJ h ?_)
   ·intro h;refine Y9 (zT (B8 (E3 (B8 (T1 kR (rU 2 R ?_))))));obtain⟨e2,ie2,h⟩:=H1 h;refine yE ie2 R R (rU 2 R (yE ie R R ?_));refine B1u R R R R (tJ h ?_) (nJ h ?_)
    ·intro h;refine I0 kR (cY 3 R ?_);cases h;exact f0 R R R (tC 2 (tC 3 .nil))
    intro h;refine I0 kR (zF (hN 3 R ?_));exact bk ⟨(W (k+1)),R,h⟩ (.prn [0,2,3,4,5] R)
   intro h;refine Y9 (yX ?_);subst hK10;refine hN 3 R ?_;exact bk ⟨(W (i+1)),R,h⟩ (.prn [0,2,3,4] R)
  intro c2 h;refine eU 1 R (cY 3 R ?_);cases h;exact f0 R R R (tC 2 (tC 3 .nil))
 intro h;refine Y9 (yX ?_);subst hK8;refine rY 2 R ?_;cases h;exact f0 R R R (tC 2 (tC 3 .nil))
def D0m (F:Nat) (lv:(List ByteArray)) (i:Int):Option Int:=(A7A lv 0 (W (i+1))).bind fun q=>(C9G F q).bind fun rv=>if rv.1=i then(some rv.2)else(some 0)
theorem D1s {F lv i r} (h:D0m F lv i=some r):PC pg 68 [.arr 1 ((lv).map vS),vI i] (vI r):=by
 rw[D0m]at h;refine oW Tryz.func68 ?_;refine gY 1 R (gU 3 R ?_);obtain⟨q,iq,h⟩:=H1 h;refine A6E tb R R R R R R iq R R ?_;obtain⟨rv,k,h⟩:=H1 h;refine J5 (D0R k) eK R R R R (eU 5 R (B8 (gU 2 R ?_)));refine V5 R R R R (nJ h ?_) (tJ h ?_)
 ·intro h;refine Y9 (cY 1 R ?_);cases h;exact f1 4 R
 intro h;refine Y9 (zF (rY 2 R ?_));cases h;exact f1 4 R
def C8P (F:Nat) (p:D4) (a:D2):Option Int:=(C9l F (D5.mk p.N4 p.P5 p.N6 p.S5 p.J3 p.Q7 p.T9)).bind fun rv=>(D0o F (D5.mk p.N4 p.P5 p.N6 p.S5 p.J3 p.Q7 p.T9) rv.1 a).bind fun rv2=>if 170≤rv2.2 then(some 0)else(some rv2.2)
theorem D0h {F p a r} (h:C8P F p a=some r):PC pg 81 [D4.d p,D2.d a] (vI r):=by
 rw[C8P]at h;refine oW Tryz.func81 ?_;refine gY 3 R (gU 2 R ?_);obtain⟨rv,k,h⟩:=H1 h;refine A2X (D02 k) eK R R R ((.row (.row (.row .nil)))) R R R (eU 6 R (gU 4 R ?_));obtain⟨rv2,k2,h⟩:=H1 h;refine A3j (D18 k2) R ((.row (fun _=>rfl) (.row (fun _=>rfl) (.row (fun _=>rfl) .nil)))) eK R R ((dL (.cons ld (dL .nil)))) R ((.row (.row (.row .nil)))) R R R ?_;refine eU 6 R (B8 (gU 1 R ?_));refine A7I R R R R (tJ h ?_) (mJ h ?_)
 ·intro h;refine Y9 (cY 1 R ?_);cases h;exact f1 4 R
 intro h;refine Y9 (zF (rY 2 R ?_));cases h;exact f1 4 R
def C8z (F:Nat) (t:D4) (e:E0) (K:Int→Option Int):Nat→Int→Option Int
 | 0,_=>none
 | n+1,x=>if x<(e.acts.length:Int)then((P3 e.acts x).bind fun e2=>if e2.at_=0 then((C8P F t e2).bind fun rv12=>if rv12=0 then(C8z F t e K n (W (x+1)))else(some rv12))else(some 2))else(K x)
def C9P (F:Nat) (t:D4) (e:E0):Option Int:=if 8<(e.acts.length:Int)then(some 3)else(C8z F t e (fun x=>some 0) F 0)
def C9Q (F:Nat) (t:D4) (e:E0):Option Int:=(C8N F e.least 0 20000).bind fun rv10=>if rv10=true then((C8N F e.most e.least 20000).bind fun rv11=>if rv11=true then(C9P F t e)else(some 7))else(some 7)
def C9R (F:Nat) (t:D4) (e:E0):Option Int:=(C7y F e.need).bind fun rv6=>if rv6=true then((C7y F e.on_).bind fun rv7=>if rv7=true then((C7y F e.use_).bind fun rv8=>if rv8=true then((C7y F e.off).bind fun rv9=>if rv9=true then(C9Q F t e)else(some 2))else(some 2))else(some 2))else(some 2)
def D08 (F:Nat) (t:D4) (o:(List ByteArray)) (a:Int):Option Int:=(P3 t.steps a).bind fun e=>(D0m F o a).bind fun rv=>if rv=0 then((C8i F e.need a).bind fun rv2=>if rv2=true then((C8i F e.on_ (t.batteries.length:Int)).bind fun rv3=>if rv3=true then((C8i F e.use_ (t.batteries.length:Int)).bind fun rv4=>if rv4=true then((C8i F e.off (t.batteries.length:Int)).bind fun rv5=>if rv5=true then(C9R F t e)else(some 4))else(some 4))else(some 4))else(some 4))else(some rv)
theorem D20 {F t o a r} (h:D08 F t o a=some r):PC pg 69 [D4.d t,.arr 1 ((o).map vS),vI a] (vI r):=by
 rw[D08]at h;refine oW Tryz.func69 ?_;refine gY 2 R (gU 3 R ?_);obtain⟨e,ie,h⟩:=H1 h;refine yE ie R R (eU 2 R (gU 2 R ?_));obtain⟨rv,k,h⟩:=H1 h;refine J5 (D1s k) eK R R R R (eU 1 R (B8 (gU 1 R ?_)));refine V5 R R R R (nJ h ?_) (tJ h ?_)
 ·intro h;refine Y9 (cY 2 R ?_);cases h;exact f1 6 R
 intro h;refine Y9 (zF (gU 2 R (I7 tb R (eU 1 R (B8 ?_)))));refine W5 (fun zz:Unit=>C9R F t e=some r) (fun zz:Unit=>⟨[(3,rf 0 13),(6,dI 0),(7,rf 1 9)],[bx 13 (.d (D4.d t)),bx 9 (.d (E0.d e))]⟩) ?_ ?_
 ·clear h;rintro⟨⟩ h;rw[C9R]at h;refine B8 ?_;refine W5 (fun zz:Unit=>C9Q F t e=some r) (fun zz:Unit=>⟨[(3,rf 0 13),(6,dI 0),(7,rf 1 9)],[bx 13 (.d (D4.d t)),bx 9 (.d (E0.d e))]⟩) ?_ ?_
  ·clear h;rintro⟨⟩ h;rw[C9Q]at h;refine B8 ?_;refine W5 (fun zz:Unit=>C9P F t e=some r) (fun zz:Unit=>⟨[(3,rf 0 13),(6,dI 0),(7,rf 1 9)],[bx 13 (.d (D4.d t)),bx 9 (.d (E0.d e))]⟩) ?_ ?_
   ·clear h;rintro⟨⟩ h;rw[C9P]at h;refine B8 (gU 2 R (I7 tb R ?_));refine A4l R R R R (tJ h ?_) (lJ h ?_)
    ·intro h;refine Y9 (cY 1 R ?_);cases h;exact f1 6 R
    intro h;refine Y9 (zF (B8 (gY 1 R (E3 ?_))));refine C3X (fun K3 m st=>∃ (x:Int),st=⟨[(3,rf 0 13),(6,dI 0),(7,rf 1 9),(10,dI x)],[bx 13 (.d (D4.d t)),bx 9 (.d (E0.d e))]⟩∧C8z F t e K3 m x=some r) ⟨0,R,h⟩ (.prn [3,6,7,10] R) ?_;rintro K3 hK3 m3 _ ⟨x,rfl,h⟩;rw[C8z]at h;refine B8 (gU 3 R (I7 tb R ?_));refine Q4 R R R R (tJ h ?_) (lJ h ?_)
    ·intro h;refine Y9 (zT (B8 (E3 (B8 (gU 3 R ?_)))));obtain⟨e2,ie2,h⟩:=H1 h;refine xE ie2 R (rU 1 R (lE ie2 R ?_));refine V5 R R R R (nJ h ?_) (tJ h ?_)
     ·intro h;refine Y9 (cY 1 R ?_);cases h;exact f1 6 R
     intro h;refine Y9 (zF (B8 (T1 kR (rU 4 R (yE ie2 R R ?_)))));obtain⟨rv12,k12,h⟩:=H1 h;refine J5 (D0h k12) eK R R R R (rU 1 R (I0 kR (gU 1 R ?_)));refine V5 R R R R (nJ h ?_) (tJ h ?_)
     ·intro h;refine Y9 (cY 2 R ?_);cases h;exact f1 6 R
     intro h;refine Y9 (zF (hN 3 R ?_));exact bk ⟨(W (x+1)),R,h⟩ (.prn [3,6,7,10] R)
    intro h;refine Y9 (yX ?_);subst hK3;refine rY 1 R ?_;cases h;exact f1 6 R
   refine gU 2 R ?_;obtain⟨rv10,k10,h⟩:=H1 h;refine M6 (C7z k10) eK R R R R (tI h ?_) (fI h ?_)
   ·intro c10 h;refine rU 6 R ?_;obtain⟨rv11,k11,h⟩:=H1 h;refine M6 (C7z k11) eK R R R R (tI h ?_) (fI h ?_)
    ·intro c11 h;refine eU 2 R (zF (A6 ?_));exact .inl ⟨(),h,.prn [3,6,7] R⟩
    intro c11 h;refine eU 2 R (cY 1 R ?_);cases h;exact f1 6 R
   intro c10 h;refine eU 9 R (cY 1 R ?_);cases h;exact f1 6 R
  refine gU 2 R ?_;obtain⟨rv6,k6,h⟩:=H1 h;refine M6 (C8u k6) eK R R R R (tI h ?_) (fI h ?_)
  ·intro c6 h;refine rU 4 R ?_;obtain⟨rv7,k7,h⟩:=H1 h;refine M6 (C8u k7) eK R R R R (tI h ?_) (fI h ?_)
   ·intro c7 h;refine rU 5 R ?_;obtain⟨rv8,k8,h⟩:=H1 h;refine M6 (C8u k8) eK R R R R (tI h ?_) (fI h ?_)
    ·intro c8 h;refine rU 5 R ?_;obtain⟨rv9,k9,h⟩:=H1 h;refine M6 (C8u k9) eK R R R R (tI h ?_) (fI h ?_)
     ·intro c9 h;refine eU 2 R (zF (A6 ?_));exact .inl ⟨(),h,.prn [3,6,7] R⟩
     intro c9 h;refine eU 2 R (cY 1 R ?_);cases h;exact f1 6 R
    intro c8 h;refine eU 8 R (cY 1 R ?_);cases h;exact f1 6 R
   intro c7 h;refine eU 14 R (cY 1 R ?_);cases h;exact f1 6 R
  intro c6 h;refine eU 19 R (cY 1 R ?_);cases h;exact f1 6 R
 refine gU 3 R ?_;obtain⟨rv2,k2,h⟩:=H1 h;refine M6 (C8V k2) eK R R R R (tI h ?_) (fI h ?_)
 ·intro c2 h;refine rU 5 R ?_;obtain⟨rv3,k3,h⟩:=H1 h;refine M6 (C8V k3) eK R R R R (tI h ?_) (fI h ?_)
  ·intro c3 h;refine rU 6 R ?_;obtain⟨rv4,k4,h⟩:=H1 h;refine M6 (C8V k4) eK R R R R (tI h ?_) (fI h ?_)
   ·intro c4 h;refine rU 6 R ?_;obtain⟨rv5,k5,h⟩:=H1 h;refine M6 (C8V k5) eK R R R R (tI h ?_) (fI h ?_)
    ·intro c5 h;refine eU 2 R (zF (A6 ?_));exact .inl ⟨(),h,.prn [3,6,7] R⟩
    intro c5 h;refine eU 2 R (cY 1 R ?_);cases h;exact f1 6 R
   intro c4 h;refine eU 9 R (cY 1 R ?_);cases h;exact f1 6 R
  intro c3 h;refine eU 16 R (cY 1 R ?_);cases h;exact f1 6 R
 intro c2 h;refine eU 22 R (cY 1 R ?_);cases h;exact f1 6 R
def C8c (F:Nat) (B4:(List ByteArray)→Int→Option (Int × Int × Int)) (x:Int) (q:(List ByteArray)) (x2:Int):Option (Int × Int × Int):=if x2=0 then(B4 q (W (x+1)))else(some (4,x,x2))
def C5s (F:Nat) (t:D4) (K:Int→Option (Int × Int × Int)):Nat→Int→Option (Int × Int × Int)
 | 0,_=>none
 | n+1,x4=>if x4<(t.points.length:Int)then((P3 t.points x4).bind fun e3=>(C8N F e3 0 (W ((t.steps.length:Int)-1))).bind fun rv8=>if rv8=true then(if 0<x4 then((P3 t.points (W (x4-1))).bind fun e4=>if e3≤e4 then(some (6,x4,2))else(C5s F t K n (W (x4+1))))else(C5s F t K n (W (x4+1))))else(some (6,x4,4)))else(K x4)
def C7i (F:Nat) (t:D4) (K:(List ByteArray)→Int→Option (Int × Int × Int)):Nat→(List ByteArray)→Int→Option (Int × Int × Int)
 | 0,_,_=>none
 | n+1,lv2,x3=>if x3<(t.steps.length:Int)then((P3 t.steps x3).bind fun e2=>(A8i lv2 [e2.name]).bind fun q2=>(D08 F t q2 x3).bind fun rv7=>if rv7=0 then(C7i F t K n q2 (W (x3+1)))else(some (5,x3,rv7)))else(K lv2 x3)
def C5w (F:Nat) (t:D4) (K:(List ByteArray)→Int→Option (Int × Int × Int)):Nat→(List ByteArray)→Int→Option (Int × Int × Int)
 | 0,_,_=>none
 | n+1,lv,x=>if x<(t.batteries.length:Int)then((P3 t.batteries x).bind fun e=>(A8i lv [e.name]).bind fun q=>(D0m F q x).bind fun rv4=>if rv4=0 then((C8N F e.charge 1 1000000).bind fun rv5=>if rv5=true then((C8N F e.rate 1 1000).bind fun rv6=>if rv6=true then(C8c F (C5w F t K n) x q rv4)else(C8c F (C5w F t K n) x q 7))else(C8c F (C5w F t K n) x q 7))else(C8c F (C5w F t K n) x q rv4))else(K lv x)
def C9w (F:Nat) (t:D4):Option (Int × Int × Int):=(C9G F t.stations).bind fun rv3=>if rv3.2=0 then(C5w F t (fun lv x=>C7i F t (fun lv2 x3=>C5s F t (fun x4=>(C8N F t.Q8 0 100000).bind fun rv9=>if rv9=true then((C8N F t.O8 t.Q8 100000).bind fun rv10=>if rv10=true then(some (0,0,0))else(some (7,0,7)))else(some (7,0,7))) F 0) F ([]:List ByteArray) 0) F ([]:List ByteArray) 0)else(some (3,rv3.1,rv3.2))
def C9c (F:Nat):Option (Int × Int × Int):=some (2,0,3)
def D0d (F:Nat) (t:D4):Option (Int × Int × Int):=(C94 F (D5.mk t.N4 t.P5 t.N6 t.S5 t.J3 t.Q7 t.T9)).bind fun rv=>if rv.2.2=0 then(if 8<(t.stations.length:Int)then(C9c F)else(if 6<(t.batteries.length:Int)then(C9c F)else((C8N F (t.steps.length:Int) 1 16).bind fun rv2=>if rv2=true then(C9w F t)else(C9c F))))else(some (1,0,rv.2.2))
theorem D2f {F t r} (h:D0d F t=some r):PC pg 35 [D4.d t] (.tup [vI r.1,vI r.2.1,vI r.2.2]):=by
 rw[D0d]at h;refine oW Tryz.func35 ?_;refine gY 4 R (gU 2 R ?_);obtain⟨rv,k,h⟩:=H1 h;refine J5 (D0J k) eK R R R R (eU 7 R (B8 (gU 1 R ?_)));refine V5 R R R R (nJ h ?_) (tJ h ?_)
 ·intro h;refine Y9 (cY 4 R ?_);cases h;exact f0 R R R (tC 2 (tC 3 (tC 4 .nil)))
 intro h;refine Y9 (zF (B8 ?_));refine W5 (fun zz:Unit=>C9w F t=some r) (fun zz:Unit=>⟨[(1,rf 0 13),(2,dI 0),(3,dI 0),(4,dI 0)],[bx 13 (.d (D4.d t))]⟩) ?_ ?_
 ·clear h;rintro⟨⟩ h;rw[C9w]at h;refine gU 2 R ?_;obtain⟨rv3,k3,h⟩:=H1 h;refine J5 (D0R k3) eK R R R R (eU 5 R (B8 (gU 1 R ?_)));refine V5 R R R R (nJ h ?_) (tJ h ?_)
  ·intro h;refine Y9 (cY 5 R ?_);cases h;exact f0 R R R (tC 2 (tC 3 (tC 4 .nil)))
  intro h;refine Y9 (zF (gY 1 R (B8 (gY 1 R (E3 (SW.ow 1 true 9 [] [1,2,3,4,9,10] R ?_))))));refine C3X (fun K4 m st=>∃ (lv:(List ByteArray)) (x:Int),st=⟨[(1,rf 0 13),(2,dI 0),(3,dI 0),(4,dI 0),(9,.row 1 1 0 (lv).length),(10,dI x)],[bx 13 (.d (D4.d t)),C4g lv]⟩∧C5w F t K4 m lv x=some r) ⟨([]:List ByteArray),0,R,h⟩ (.prn [1,2,3,4,9,10] R) ?_;rintro K4 hK4 m4 _ ⟨lv,x,rfl,h⟩;rw[C5w]at h;refine B8 (gU 3 R (I7 tb R ?_));refine Q4 R R R R (tJ h ?_) (lJ h ?_)
  ·intro h;refine Y9 (zT (B8 (E3 (gU 4 R ?_))));obtain⟨e,ie,h⟩:=H1 h;refine xE ie R (rU 1 R (lE ie R (P7 tb R R R R R R R R R R R R R ?_)));obtain⟨q,iq,h⟩:=H1 h;refine B2k (g:=vS) (w:=lv) (v:=[e.name]) ([bx 13 (.d (D4.d t)),none,C4g [e.name]]) tb R R R R R R R R R R R iq R R R R R (eU 1 R (gU 2 R ?_));obtain⟨rv4,k4,h⟩:=H1 h;refine A19 (D1s k4) R eK R R ((.cons (.row R R) (dL .nil))) R R (eU 1 R (B8 ?_));refine W5 (fun zz:Int=>C8c F (C5w F t K4 m4) x q zz=some r) (fun zz:Int=>⟨[(1,rf 0 13),(2,dI 0),(3,dI 0),(4,dI 0),(9,.row 1 1 0 (q).length),(10,dI x),(11,dI zz)],[bx 13 (.d (D4.d t)),C4g q]⟩) ?_ ?_
   ·clear h;rintro x2 h;rw[C8c]at h;refine gU 1 R ?_;refine V5 R R R R (nJ h ?_) (tJ h ?_)
    ·intro h;refine Y9 (cY 5 R ?_);cases h;exact f0 R R R (tC 2 (tC 3 (tC 4 .nil)))
    intro h;refine Y9 (zF (hN 3 R ?_));exact bk ⟨q,(W (x+1)),R,h⟩ (.prn [1,2,3,4,9,10] R)
   refine gU 1 R ?_;refine Z3 R R R R (tJ h ?_) (nJ h ?_)
   ·intro h;refine rU 4 R (xE ie R (rU 1 R (lE ie R ?_)));obtain⟨rv5,k5,h⟩:=H1 h;refine M6 (C7z k5) eK R R R R (tI h ?_) (fI h ?_)
    ·intro c8 h;refine rU 5 R (xE ie R (rU 1 R (lE ie R ?_)));obtain⟨rv6,k6,h⟩:=H1 h;refine M6 (C7z k6) eK R R R R (tI h ?_) (fI h ?_)
     ·intro c9 h;refine eU 3 R (zF (A6 ?_));exact .inl ⟨rv4,h,.vq [0,3]⟩
     intro c9 h;refine eU 3 R (C0 R (hN 1 R ?_));exact .inl ⟨7,h,.vq [0,3]⟩
    intro c8 h;refine eU 12 R (C0 R (hN 1 R ?_));exact .inl ⟨7,h,.vq [0,3]⟩
   intro h;refine eU 20 R (zF (A6 ?_));exact .inl ⟨rv4,h,.vq [0,3]⟩
  intro h;refine Y9 (yX ?_);subst hK4;refine gY 1 R (B8 (gY 1 R (E3 (SW.ow 1 true 9 [] [1,2,3,4,9,12] R ?_))));refine C3X (fun K8 m st=>∃ (lv2:(List ByteArray)) (x3:Int),st=⟨[(1,rf 0 13),(2,dI 0),(3,dI 0),(4,dI 0),(9,.row 1 1 0 (lv2).length),(12,dI x3)],[bx 13 (.d (D4.d t)),C4g lv2]⟩∧C7i F t K8 m lv2 x3=some r) ⟨([]:List ByteArray),0,R,h⟩ (.vq [0,2]) ?_;rintro K8 hK8 m8 _ ⟨lv2,x3,rfl,h⟩;rw[C7i]at h;refine B8 (gU 3 R (I7 tb R ?_));refine Q4 R R R R (tJ h ?_) (lJ h ?_)
  ·intro h;refine Y9 (zT (B8 (E3 (gU 4 R ?_))));obtain⟨e2,ie2,h⟩:=H1 h;refine xE ie2 R (rU 1 R (lE ie2 R (P7 tb R R R R R R R R R R R R R ?_)));obtain⟨q2,iq2,h⟩:=H1 h;refine B2k (g:=vS) (w:=lv2) (v:=[e2.name]) ([bx 13 (.d (D4.d t)),none,C4g [e2.name]]) tb R R R R R R R R R R R iq2 R R R R R (eU 1 R (gU 3 R ?_));obtain⟨rv7,k7,h⟩:=H1 h;refine A19 (D20 k7) R eK R R ((dL (.cons (.row R R) (dL .nil)))) R R (eU 1 R (gU 1 R ?_));refine V5 R R R R (nJ h ?_) (tJ h ?_)
   ·intro h;refine Y9 (cY 5 R ?_);cases h;exact f0 R R R (tC 2 (tC 3 (tC 4 .nil)))
   intro h;refine Y9 (zF (hN 3 R ?_));exact bk ⟨q2,(W (x3+1)),R,h⟩ (.vq [0,3])
  intro h;refine Y9 (yX ?_);subst hK8;refine B8 (gY 1 R (E3 ?_));refine C3X (fun K11 m st=>∃ (x4:Int),st=⟨[(1,rf 0 13),(2,dI 0),(3,dI 0),(4,dI 0),(14,dI x4)],[bx 13 (.d (D4.d t))]⟩∧C5s F t K11 m x4=some r) ⟨0,R,h⟩ (.vq [0]) ?_;rintro K11 hK11 m11 _ ⟨x4,rfl,h⟩;rw[C5s]at h;refine B8 (gU 3 R (I7 tb R ?_));refine Q4 R R R R (tJ h ?_) (lJ h ?_)
  ·intro h;refine Y9 (zT (B8 (E3 (B8 (B8 (T1 kR (rU 3 R ?_)))))));obtain⟨e3,ie3,h⟩:=H1 h;refine yE ie3 R R (rU 2 R (I7 tb R (rU 1 R ?_)));obtain⟨rv8,k8,h⟩:=H1 h;refine M6 (C7z k8) eK R R R R (tI h ?_) (fI h ?_)
   ·intro c14 h;refine rU 1 R (I0 kR (zF (B8 (T1 kR (rU 1 R ?_)))));refine A4l R R R R (tJ h ?_) (lJ h ?_)
    ·intro h;refine rU 4 R (yE ie3 R R (rU 4 R ?_));obtain⟨e4,ie4,h⟩:=H1 h;refine yE ie4 R R ?_;refine B1t R R R R (tJ h ?_) (mJ h ?_)
     ·intro h;refine rU 1 R (I0 kR (cY 4 R ?_));cases h;exact f0 R R R (tC 2 (tC 3 (tC 4 .nil)))
     intro h;refine rU 1 R (I0 kR (zF (hN 3 R ?_)));exact bk ⟨(W (x4+1)),R,h⟩ (.prn [1,2,3,4,14] R)
    intro h;refine rU 14 R (I0 kR (zF (hN 3 R ?_)));exact bk ⟨(W (x4+1)),R,h⟩ (.prn [1,2,3,4,14] R)
   intro c14 h;refine rU 1 R (I0 kR (cY 4 R ?_));cases h;exact f0 R R R (tC 2 (tC 3 (tC 4 .nil)))
  intro h;refine Y9 (yX ?_);subst hK11;refine B8 (gU 3 R ?_);obtain⟨rv9,k9,h⟩:=H1 h;refine M6 (C7z k9) eK R R R R (tI h ?_) (fI h ?_)
  ·intro c17 h;refine rU 8 R ?_;obtain⟨rv10,k10,h⟩:=H1 h;refine M6 (C7z k10) eK R R R R (tI h ?_) (fI h ?_)
   ·intro c18 h;refine eU 2 R (zF (rY 3 R ?_));cases h;exact f0 R R R (tC 2 (tC 3 (tC 4 .nil)))
   intro c18 h;refine eU 2 R (cY 3 R ?_);cases h;exact f0 R R R (tC 2 (tC 3 (tC 4 .nil)))
  intro c17 h;refine eU 11 R (cY 3 R ?_);cases h;exact f0 R R R (tC 2 (tC 3 (tC 4 .nil)))
 refine B8 ?_;refine W5 (fun zz:Unit=>C9c F=some r) (fun zz:Unit=>⟨[(1,rf 0 13),(2,dI 0),(3,dI 0),(4,dI 0),(41,dB true)],[bx 13 (.d (D4.d t))]⟩) ?_ ?_
 ·clear h;rintro⟨⟩ h;rw[C9c]at h;refine cY 3 R ?_;cases h;exact f0 R R R (tC 2 (tC 3 (tC 4 .nil)))
 refine hU 2 R (I7 tb R ?_);refine A4l R R R R (tJ h ?_) (lJ h ?_)
 ·intro h;refine nU 13 R ?_;exact .inl ⟨(),h,.prn [1,2,3,4,41] R⟩
 intro h;refine rU 3 R (I7 tb R ?_);refine A4l R R R R (tJ h ?_) (lJ h ?_)
 ·intro h;refine nU 8 R ?_;exact .inl ⟨(),h,.prn [1,2,3,4,41] R⟩
 intro h;refine rU 4 R (I7 tb R ?_);obtain⟨rv2,k2,h⟩:=H1 h;refine M6 (C7z k2) eK R R R R (tI h ?_) (fI h ?_)
 ·intro c4 h;refine nU 2 R (.inr (zF (A6 ?_)));exact .inl ⟨(),h,.prn [1,2,3,4] R⟩
 intro c4 h;refine nU 2 R ?_;exact .inl ⟨(),h,.prn [1,2,3,4,41] R⟩
def C8D (F:Nat) (p:D4) (K:(List Int)→(List Bool)→Int→Option H2):Nat→(List Int)→(List Bool)→Int→Option H2
 | 0,_,_,_=>none
 | n+1,s3,s4,i2=>if i2<(p.batteries.length:Int)then((P3 p.batteries i2).bind fun e=>(A8i s3 [e.charge]).bind fun q3=>(A8i s4 [false]).bind fun q4=>C8D F p K n q3 q4 (W (i2+1)))else(K s3 s4 i2)
def C8E (F:Nat) (p:D4) (K:(List Int)→(List Int)→Int→Option H2):Nat→(List Int)→(List Int)→Int→Option H2
 | 0,_,_,_=>none
 | n+1,s,s2,i=>if i<(p.steps.length:Int)then((A8i s [(-1)]).bind fun q=>(A8i s2 [(-1)]).bind fun q2=>C8E F p K n q q2 (W (i+1)))else(K s s2 i)
def C9H (F:Nat) (p:D4):Option H2:=(C9l F (D5.mk p.N4 p.P5 p.N6 p.S5 p.J3 p.Q7 p.T9)).bind fun rv=>C8E F p (fun s s2 i=>C8D F p (fun s3 s4 i2=>(B1D (p.stations.length:Int)).bind fun q5=>some (H2.mk 0 rv.1.now rv.1.zones rv.1.holder rv.1.squibs rv.1.siren rv.1.storm s s2 false (ak q5 false) s3 s4)) F ([]:List Int) ([]:List Bool) 0) F ([]:List Int) ([]:List Int) 0
theorem D07 {F p r} (h:C9H F p=some r):SCR pg 47 (ao T.d [D4.d p]) [] (B4I r 0 1 2 3 4) (ao some [(B7 r.begun),(B7 r.ended),(H7 r.go),(B7 r.left),(H7 r.on_)]):=by
 rw[C9H]at h;refine oW Tryz.func47 ?_;refine gY 2 R (gY 1 R (gU 2 R ?_));obtain⟨rv,k,h⟩:=H1 h;refine J5 (D1T k) eK R R R R (eU 5 R (B8 (gY 1 R (E3 (SW.ow 1 false 2 [7] [1,2,3,4] R (SW.ow 1 false 2 [8] [1,2,3,4] R ?_))))));refine C3X (fun K2 m st=>∃ (s:(List Int)) (s2:(List Int)) (i:Int),st=⟨[(1,rf 0 13),(2,rf 1 13),(3,rf 2 13),(4,dI i)],[bx 13 (.d (D4.d p)),bx 13 (.d zC),bx 13 (.agg [dI 0,dI rv.1.now,.d (aI rv.1.zones),.d (aI rv.1.holder),.d (aI rv.1.squibs),dI rv.1.siren,dB rv.1.storm,.row 3 1 0 (s).length,.row 4 1 0 (s2).length,dB false,dZ,dZ,dZ]),B0u s,B0u s2]⟩∧C8E F p K2 m s s2 i=some r) ⟨([]:List Int),([]:List Int),0,R,h⟩ (.prn [1,2,3,4] R) ?_;rintro K2 hK2 m2 _ ⟨s,s2,i,rfl,h⟩;rw[C8E]at h;refine B8 (gU 3 R (I7 tb R ?_));refine Q4 R R R R (tJ h ?_) (lJ h ?_)
 ·intro h;refine Y9 (zT (B8 (E3 (T1 kR (rU 2 R (P7 tb R R R R R R R R R R R R R ?_))))));obtain⟨q,iq,h⟩:=H1 h;refine B2k (g:=vI) (w:=s) (v:=[(-1)]) ([bx 13 (.d (D4.d p)),bx 13 (.d zC),bx 13 (.agg [dI 0,dI rv.1.now,.d (aI rv.1.zones),.d (aI rv.1.holder),.d (aI rv.1.squibs),dI rv.1.siren,dB rv.1.storm,.row 3 1 0 (s).length,.row 4 1 0 (s2).length,dB false,dZ,dZ,dZ]),none,B0u s2,B0u [(-1)]]) tb R R R R R R R R R R R iq R R R R R ?_;refine rU 2 R (P7 tb R R R R R R R R R R R R R ?_);obtain⟨q2,iq2,h⟩:=H1 h;refine B2k (g:=vI) (w:=s2) (v:=[(-1)]) ([bx 13 (.d (D4.d p)),bx 13 (.d zC),bx 13 (.agg [dI 0,dI rv.1.now,.d (aI rv.1.zones),.d (aI rv.1.holder),.d (aI rv.1.squibs),dI rv.1.siren,dB rv.1.storm,.row 3 1 0 (s).length,.row 4 1 0 (s2).length,dB false,dZ,dZ,dZ]),none,none,B0u [(-1)],B0u q,B0u [(-1)]]) tb R R R R R R R R R R R iq2 R R R R R ?_;refine rU 4 R (I0 kR (hN 3 R ?_));exact bk ⟨q,q2,(W (i+1)),R,h⟩ (.vq [0,1,2,6,8])
 intro h;refine Y9 (yX ?_);subst hK2;refine B8 (gY 1 R (E3 (SW.ow 1 false 2 [11] [1,2,3,5] R (SW.ow 1 false 2 [12] [1,2,3,5] R ?_))));refine C3X (fun K4 m st=>∃ (s3:(List Int)) (s4:(List Bool)) (i2:Int),st=⟨[(1,rf 0 13),(2,rf 1 13),(3,rf 2 13),(5,dI i2)],[bx 13 (.d (D4.d p)),bx 13 (.d zC),bx 13 (.agg [dI 0,dI rv.1.now,.d (aI rv.1.zones),.d (aI rv.1.holder),.d (aI rv.1.squibs),dI rv.1.siren,dB rv.1.storm,.row 3 1 0 (s).length,.row 4 1 0 (s2).length,dB false,dZ,.row 5 1 0 (s3).length,.row 6 1 0 (s4).length]),B0u s,B0u s2,B0u s3,B9r s4]⟩∧C8D F p K4 m s3 s4 i2=some r) ⟨([]:List Int),([]:List Bool),0,R,h⟩ (.prn [1,2,3,5] R) ?_;rintro K4 hK4 m4 _ ⟨s3,s4,i2,rfl,h⟩;rw[C8D]at h;refine B8 (gU 3 R (I7 tb R ?_));refine Q4 R R R R (tJ h ?_) (lJ h ?_)
 ·intro h;refine Y9 (zT (B8 (E3 (T1 kR (rU 5 R ?_)))));obtain⟨e,ie,h⟩:=H1 h;refine xE ie R (rU 1 R (lE ie R (P7 tb R R R R R R R R R R R R R ?_)));obtain⟨q3,iq3,h⟩:=H1 h;refine B2k (g:=vI) (w:=s3) (v:=[e.charge]) ([bx 13 (.d (D4.d p)),bx 13 (.d zC),bx 13 (.agg [dI 0,dI rv.1.now,.d (aI rv.1.zones),.d (aI rv.1.holder),.d (aI rv.1.squibs),dI rv.1.siren,dB rv.1.storm,.row 3 1 0 (s).length,.row 4 1 0 (s2).length,dB false,dZ,.row 5 1 0 (s3).length,.row 6 1 0 (s4).length]),B0u s,B0u s2,none,B9r s4,B0u [e.charge]]) tb R R R R R R R R R R R iq3 R R R R R ?_;refine rU 2 R (P7 tb R R R R R R R R R R R R R ?_);obtain⟨q4,iq4,h⟩:=H1 h;refine B2k (g:=vB) (w:=s4) (v:=[false]) ([bx 13 (.d (D4.d p)),bx 13 (.d zC),bx 13 (.agg [dI 0,dI rv.1.now,.d (aI rv.1.zones),.d (aI rv.1.holder),.d (aI rv.1.squibs),dI rv.1.siren,dB rv.1.storm,.row 3 1 0 (s).length,.row 4 1 0 (s2).length,dB false,dZ,.row 5 1 0 (s3).length,.row 6 1 0 (s4).length]),B0u s,B0u s2,none,none,B0u [e.charge],B0u q3,B9r [false]]) tb R R R R R R R R R R R iq4 R R R R R ?_;refine rU 4 R (I0 kR (hN 3 R ?_));exact bk ⟨q3,q4,(W (i2+1)),R,h⟩ (.vq [0,1,2,3,4,8,10])
 intro h;refine Y9 (yX ?_);subst hK4;refine gU 2 R (I7 tb R ?_);obtain⟨q5,iq5,h⟩:=H1 h;refine B00 (v:=false) (g:=vB) tb R R R R R R R ((A6i iq5).1) ((A6i iq5).2) R R R R (eU 2 R (rY 2 R ?_));cases h;exact f2 [3,4,7,5,6] B9x R (qC R .nil) R
theorem D3F {F p r} (h:C9H F p=some r):PC pg 47 [D4.d p] (H2.d r):=(D07 h).toPC (.aggL (.cons (.d _) (.cons (.d _) (.cons (.d _) (.cons (.d _) (.cons (.d _) (.cons (.d _) (.cons (.d _) (.cons (.row rfl rfl) (.cons (.row rfl rfl) (.cons (.d _) (.cons (.row rfl rfl) (.cons (.row rfl rfl) (.cons (.row rfl rfl) .nil))))))))))))))
end Go.Proofs.YtlaogbbcipebgaaGreat
