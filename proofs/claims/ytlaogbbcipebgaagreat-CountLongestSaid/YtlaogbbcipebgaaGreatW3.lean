/- What functions of the program compute: plain functions, and the proofs. -/
import Derived.Test.YtlaogbbcipebgaaGreatW2
set_option linter.unusedVariables false
set_option linter.unusedSimpArgs false
open Go Go.Proofs.YtlaogbbcipebgaaGreat.Sh Go.Proofs
namespace Go.Proofs.YtlaogbbcipebgaaGreat
set_option maxRecDepth 100000
set_option maxHeartbeats 40000000
def R7 (F:Nat) (lv:(List D9)) (i:Int):Option Int:=(P3 lv i).bind fun e=>(A1k F e).bind fun rv=>(A2y F rv).bind fun rv2=>if rv2=true then((A7A lv 0 i).bind fun q=>(V6 F q (fun a0=>V0 F a0 lv i)).bind fun rv3=>if rv3=true then(some 5)else(some 0))else(some 6)
theorem A3c {F:Nat} {lv:(List D9)} {i:Int} {r:Int} (h:R7 F lv i=some r):PC Tryz.prog 63 [.arr 3 ((lv).map D9.d),.v (.int .i64 i),.v (.func (.func 64) #[] #[])] (.v (.int .i64 r)):=by
 rw[R7]at h
 refine SC.of_sw Tryz.func63 R R R ?_
 dsimp only[L8,List.map]
 refine qG (M9 R (M9 R (M9 R (A3 R (eN (B8 (E3 (B8 (T1 kR (B5 (y := .v (.func (.func 64) #[] #[])) tb R (B5 (y := .arr 3 ((lv).map D9.d)) tb R (B5 (y:=vI i) tb R ?_))))))))))))
 obtain⟨e,ie,h⟩:=H1 h
 refine N8 tb (F0 ie) (V1 ie) R (I4 (y:=D9.d e) tb (U5 (g:=D9.d) ie) R ?_)
 obtain⟨rv,k,h⟩:=H1 h
 refine J5 (A40 k) eK R R R R ?_
 obtain⟨rv2,k2,h⟩:=H1 h
 refine M6 (A2F k2) eK R R R R ?_ ?_
 ·intro c
  replace h:=J7 c h
  refine A0a R R R (A3 R (I0 kR (A6 (C1 R (qG (B5 (y := .arr 3 ((lv).map D9.d)) tb R (B5 (y:=vI i) tb R ?_)))))))
  obtain⟨q,iq,h⟩:=H1 h
  refine A6E tb R R R R R R iq R R (A3E R R R R ?_)
  obtain⟨rv3,k3,h⟩:=H1 h
  refine A0t (t' := .d (.v (.bool rv3))) (news':=[]) (A3U (f:=(fun a0=>V0 F a0 lv i)) (fc:=[.el 1 [.v (.func (.func 64) #[] #[])] 0 0,.el 1 [.arr 3 ((lv).map D9.d)] 0 0,.el 1 [vI i] 0 0]) (fh:=fun hr=>A3T hr) (fe := .of kR) k3) R .nil eK R R ((.cons (.d (.d _)) (.cons (.fnC (.cons (.d (.ref R (.d _))) (.cons (.d (.ref R (.d _))) (.cons (.d (.ref R (.d _))) .nil)))) .nil))) R .nil R R R ?_
  simp only[List.map_nil,List.append_nil]
  with_reducible apply X8
  ·intro c2
   replace h:=J7 c2 h
   refine A3 R (eN (C0 R (qG (A3 R (eN (C9 (C4 (B2 ?_))))))))
   obtain rfl:=sI h
   exact f1 6 R
  intro c2
  replace h:=ifF c2 h
  refine A3 R (eN (C1 R (D7 (D3 (A6 (qG (A3 R (eN (C9 ?_)))))))))
  obtain rfl:=sI h
  exact f1 6 R
 intro c
 replace h:=ifF c h
 refine Z9 R R R (A3 R (I0 kR (A6 (C0 R (qG (A3 R (eN (C9 (C4 (B2 ?_))))))))))
 obtain rfl:=sI h
 exact f1 6 R
def X1 (F:Nat) (x:E0) (c:(List E0)) (c2:Int):Option Bool:=(A1P F x).bind fun rv=>(P3 c c2).bind fun e=>(A1P F e).bind fun rv2=>if rv.toList=rv2.toList then(some true)else(some false)
theorem A41 {F:Nat} {x:E0} {c:(List E0)} {c2:Int} {r:Bool} (h:X1 F x c c2=some r):PC Tryz.prog 182 [E0.d x,.el 1 (([()]).map (fun(_:Unit) => .v (.func (.func 128) #[] #[]))) ((0:Int)).toNat 0,.el 1 (([c]).map (fun l=>D.arr 9 (l.map E0.d))) ((0:Int)).toNat 0,.el 1 (([c2]).map vI) ((0:Int)).toNat 0] (.v (.bool r)):=by
 rw[X1]at h
 refine SC.of_sw Tryz.func182 R R R ?_
 dsimp only[L8,List.map]
 refine qG (M9 R (A3 R (eN (B8 (T1 kR ?_)))))
 refine I4 (y := .v (.func (.func 128) #[] #[])) tb (U5 (g:=(fun(_:Unit) => .v (.func (.func 128) #[] #[]))) (R:P3 [()] 0=some ())) R ?_
 refine B5 (y:=E0.d x) tb R ?_
 obtain⟨rv,k,h⟩:=H1 h
 refine J5 (A5k k) eK R R R R ?_
 refine I4 (y := .v (.func (.func 128) #[] #[])) tb (U5 (g:=(fun(_:Unit) => .v (.func (.func 128) #[] #[]))) (R:P3 [()] 0=some ())) R ?_
 refine I4 (y := .arr 9 ((c).map E0.d)) tb (U5 (g:=(fun l=>D.arr 9 (l.map E0.d))) (R:P3 [c] 0=some c)) R ?_
 refine I4 (y:=vI c2) tb (U5 (g:=vI) (R:P3 [c2] 0=some c2)) R ?_
 obtain⟨e,ie,h⟩:=H1 h
 refine N8 tb (F0 ie) (V1 ie) R (I4 (y:=E0.d e) tb (U5 (g:=E0.d) ie) R ?_)
 obtain⟨rv2,k2,h⟩:=H1 h
 refine J5 (A5k k2) eK R R R R ?_
 refine B1u R R R R ?_ ?_
 ·intro c3
  replace h:=J7 c3 h
  refine A3 R (I0 kR (A6 (C9 ?_)))
  obtain rfl:=sI h
  exact f1 5 R
 intro c3
 replace h:=P1 c3 h
 refine A3 R (I0 kR (A6 (C9 ?_)))
 obtain rfl:=sI h
 exact f1 5 R
def U3 (F:Nat) (lv:(List E0)) (i:Int):Option Int:=(P3 lv i).bind fun e=>(A1P F e).bind fun rv=>(A2y F rv).bind fun rv2=>if rv2=true then((A7A lv 0 i).bind fun q=>(Y3 F q (fun a0=>X1 F a0 lv i)).bind fun rv3=>if rv3=true then(some 5)else(some 0))else(some 6)
theorem A39 {F:Nat} {lv:(List E0)} {i:Int} {r:Int} (h:U3 F lv i=some r):PC Tryz.prog 127 [.arr 9 ((lv).map E0.d),.v (.int .i64 i),.v (.func (.func 128) #[] #[])] (.v (.int .i64 r)):=by
 rw[U3]at h
 refine SC.of_sw Tryz.func127 R R R ?_
 dsimp only[L8,List.map]
 refine qG (M9 R (M9 R (M9 R (A3 R (eN (B8 (E3 (B8 (T1 kR (B5 (y := .v (.func (.func 128) #[] #[])) tb R (B5 (y := .arr 9 ((lv).map E0.d)) tb R (B5 (y:=vI i) tb R ?_))))))))))))
 obtain⟨e,ie,h⟩:=H1 h
 refine N8 tb (F0 ie) (V1 ie) R (I4 (y:=E0.d e) tb (U5 (g:=E0.d) ie) R ?_)
 obtain⟨rv,k,h⟩:=H1 h
 refine J5 (A5k k) eK R R R R ?_
 obtain⟨rv2,k2,h⟩:=H1 h
 refine M6 (A2F k2) eK R R R R ?_ ?_
 ·intro c
  replace h:=J7 c h
  refine A0a R R R (A3 R (I0 kR (A6 (C1 R (qG (B5 (y := .arr 9 ((lv).map E0.d)) tb R (B5 (y:=vI i) tb R ?_)))))))
  obtain⟨q,iq,h⟩:=H1 h
  refine A6E tb R R R R R R iq R R (A3E R R R R ?_)
  obtain⟨rv3,k3,h⟩:=H1 h
  refine A0t (t' := .d (.v (.bool rv3))) (news':=[]) (A49 (f:=(fun a0=>X1 F a0 lv i)) (fc:=[.el 1 [.v (.func (.func 128) #[] #[])] 0 0,.el 1 [.arr 9 ((lv).map E0.d)] 0 0,.el 1 [vI i] 0 0]) (fh:=fun hr=>A41 hr) (fe := .of kR) k3) R .nil eK R R ((.cons (.d (.d _)) (.cons (.fnC (.cons (.d (.ref R (.d _))) (.cons (.d (.ref R (.d _))) (.cons (.d (.ref R (.d _))) .nil)))) .nil))) R .nil R R R ?_
  simp only[List.map_nil,List.append_nil]
  with_reducible apply X8
  ·intro c2
   replace h:=J7 c2 h
   refine A3 R (eN (C0 R (qG (A3 R (eN (C9 (C4 (B2 ?_))))))))
   obtain rfl:=sI h
   exact f1 6 R
  intro c2
  replace h:=ifF c2 h
  refine A3 R (eN (C1 R (D7 (D3 (A6 (qG (A3 R (eN (C9 ?_)))))))))
  obtain rfl:=sI h
  exact f1 6 R
 intro c
 replace h:=ifF c h
 refine Z9 R R R (A3 R (I0 kR (A6 (C0 R (qG (A3 R (eN (C9 (C4 (B2 ?_))))))))))
 obtain rfl:=sI h
 exact f1 6 R
def A3d (F:Nat) (p:D5) (a:D2):Option Int:=(A44 F p).bind fun rv=>(A7D F p rv.1 a).bind fun rv2=>if rv2.2<170 then(some rv2.2)else(some 0)
theorem A5F {F:Nat} {p:D5} {a:D2} {r:Int} (h:A3d F p a=some r):PC Tryz.prog 131 [D5.d p,D2.d a] (.v (.int .i64 r)):=by
 rw[A3d]at h
 refine SC.of_sw Tryz.func131 R R R ?_
 dsimp only[L8,List.map]
 refine qG (M9 R (M9 R (A3 R (eN (qG (B5 (y:=D5.d p) tb R ?_))))))
 obtain⟨rv,k,h⟩:=H1 h
 refine A2X (t' := .tup [J2 rv.1 2 3 4,.d (vI rv.2)]) (news':=[(B7 rv.1.zones),(B7 rv.1.holder),(B7 rv.1.squibs)]) (A8z k) eK R R R ((.row (.row (.row .nil)))) R R R (A1D (.tup [J2 rv.1 2 3 4,.d (vI rv.2)]) R R R (A1B (t:=J2 rv.1 2 3 4) R R R R (A1B (t := .d (vI rv.2)) R R R R (M5 tb R R R R R (I6 _ _ tb R (A3 R (eN (B8 (qG (B5 (y:=D5.d p) tb R ?_))))))))))
 refine B4i tb R R R R R R R R R (B5 (y:=D2.d a) tb R ?_)
 obtain⟨rv2,k2,h⟩:=H1 h
 refine A3j (t' := .tup [J2 rv2.1 6 7 8,.d (vI rv2.2)]) (news':=[(B7 rv2.1.zones),(B7 rv2.1.holder),(B7 rv2.1.squibs)]) (B1k k2) R ((.row (fun _=>rfl) (.row (fun _=>rfl) (.row (fun _=>rfl) .nil)))) eK R R ((dL (.cons (.aggL (dL (.cons (.row R R) (.cons (.row R R) (.cons (.row R R) (dL (dL .nil))))))) (dL .nil)))) R ((.row (.row (.row .nil)))) R R R ?_
 refine A1D (.tup [J2 rv2.1 6 7 8,.d (vI rv2.2)]) R R R (A1B (t:=J2 rv2.1 6 7 8) R R R R (A1B (t := .d (vI rv2.2)) R R R R (M5 tb R R R R R (I6 _ _ tb R (A3 R (eN (qG (A0 R ?_))))))))
 refine Q4 R R R R ?_ ?_
 ·intro c
  replace h:=J7 c h
  refine eN (C0 R (qG (A0 R (A3 R (eN (C9 (B2 ?_)))))))
  obtain rfl:=sI h
  exact f1 4 R
 intro c
 replace h:=P1 (nL c) h
 refine eN (C1 R (D7 (A6 (qG (A3 R (eN (C9 ?_)))))))
 obtain rfl:=sI h
 exact f1 4 R
def A1l (F:Nat) (t:D4) (e:E0) (K:Int→Option Int):Nat→Int→Option Int
 | 0,_=>none
 | n+1,x=>if x<(e.acts.length:Int)then((P3 e.acts x).bind fun e2=>if e2.at_=0 then((A3d F (D5.mk t.N4 t.P5 t.N6 t.S5 t.J3 t.Q7 t.T9) e2).bind fun rv7=>if rv7=0 then(A1l F t e K n (W (x+1)))else(some rv7))else(some 2))else(K x)
def A4K (F:Nat) (t:D4) (e:E0):Option Int:=A1l F t e (fun(x:Int)=>some 0) F 0
def A5E (F:Nat) (t:D4) (o:Int):Option Int:=(P3 t.steps o).bind fun e=>(U3 F t.steps o).bind fun rv=>if rv=0 then((A2R F o [e.need]).bind fun rv2=>if rv2=true then(some 4)else((A2R F (t.batteries.length:Int) [e.on_,e.use_,e.off]).bind fun rv3=>if rv3=true then(some 4)else((A4R F [e.need,e.on_,e.use_,e.off]).bind fun rv4=>if rv4=true then(some 2)else((Y7 F e.most 0 20000).bind fun rv5=>if rv5=true then(some 7)else((Y7 F e.least 0 e.most).bind fun rv6=>if rv6=true then(some 7)else(if 8<(e.acts.length:Int)then(some 3)else(A4K F t e)))))))else(some rv)
theorem B1C {F:Nat} {t:D4} {o:Int} {r:Int} (h:A5E F t o=some r):PC Tryz.prog 65 [D4.d t,.v (.int .i64 o)] (.v (.int .i64 r)):=by
 rw[A5E]at h
 refine SC.of_sw Tryz.func65 R R R ?_
 dsimp only[L8,List.map]
 refine qG (M9 R (A3 R (eN (qG (C8 tb R (B5 (y := .arr 9 ((t.steps).map E0.d)) tb R (A0 R ?_)))))))
 obtain⟨e,ie,h⟩:=H1 h
 refine N8 tb (F0 ie) (V1 ie) R (I4 (y:=E0.d e) tb (U5 (g:=E0.d) ie) R (M5 tb R R R R R (I6 _ _ tb R (eN (qG (C8 tb R (B5 (y := .arr 3 ((t.batteries).map D9.d)) tb R (I7 tb R (A3 R (eN (qG (C8 tb R (B5 (y := .arr 9 ((t.steps).map E0.d)) tb R (A0 R ?_))))))))))))))
 obtain⟨rv,k,h⟩:=H1 h
 refine J5 (A39 k) eK R R R R (A3 R (eN (B8 ?_)))
 refine W5 (fun zz:Unit=>A4K F t e=some r) (fun zz:Unit=>⟨[(2,.ref 0 13 0 0),(4,.d (vI 0)),(5,.ref 1 9 0 0)],[bx 13 (.d (D4.d t)),bx 9 (.d (E0.d e))]⟩) ?_ ?_
 ·clear h
  rintro⟨⟩ h
  rw[A4K]at h
  refine B8 (qG (C8 tb R (B5 (y := .arr 5 ((e.acts).map D2.d)) tb R (I7 tb R (A0 R (eN (E3 ?_)))))))
  obtain⟨K3,hK3,h⟩:∃ K,K=_∧A1l F t e K F 0=some r:=⟨_,rfl,h⟩
  refine M2 (st0:=⟨[(2,.ref 0 13 0 0),(4,.d (vI 0)),(72,.d (.arr 5 ((e.acts).map D2.d))),(73,.d (vI (e.acts.length:Int))),(74,.d (vI 0))],[bx 13 (.d (D4.d t))]⟩) (fun m st=>∃ (x:Int),A1l F t e K3 m x=some r∧st=⟨[(2,.ref 0 13 0 0),(4,.d (vI 0)),(72,.d (.arr 5 ((e.acts).map D2.d))),(73,.d (vI (e.acts.length:Int))),(74,.d (vI x))],[bx 13 (.d (D4.d t))]⟩) (.vw (κ:=[0]) (vK (.cons R R .nil) R)) ⟨0,h,R⟩ ?_
  clear h
  rintro m3 st ⟨x,h,rfl⟩
  cases m3 with
  | zero=>cases(show(none:Option Int)=some r from h)
  | succ m3 =>
  rw[A1l]at h
  refine qG ?_
  refine Q4 R R R R ?_ ?_
  ·intro c8
   replace h:=J7 c8 h
   refine eN (B8 (C0 R (D7 (A6 (B8 (E3 (qG ?_)))))))
   obtain⟨e2,ie2,h⟩:=H1 h
   refine N8 tb (F0 ie2) (V1 ie2) R (I4 (y:=D2.d e2) tb (U5 (g:=D2.d) ie2) R (M5 tb R R R R R (I6 _ _ tb R (eN (B8 (qG (C8 tb R (B5 (y:=vI e2.at_) tb R ?_))))))))
   refine V5 R R R R ?_ ?_
   ·intro c9
    replace h:=P1 c9 h
    refine eN (C0 R (qG (A3 R (eN (C9 (B2 (C4 (B2 (B2 (C4 (B2 ?_)))))))))))
    obtain rfl:=sI h
    exact f1 4 R
   intro c9
   replace h:=J7 c9 h
   refine eN (C1 R (D7 (A6 (qG (C8 tb R (B5 (y := .agg [.arr 8 ((t.N4).map F6.d),.arr 2 ((t.P5).map G6.d),.arr 2 ((t.N6).map E2.d),.arr 1 ((t.S5).map vS),.arr 6 ((t.J3).map D1.d),vI t.Q7,vI t.T9]) tb R (B5 (y:=D2.d e2) tb R ?_)))))))
   obtain⟨rv7,k7,h⟩:=H1 h
   refine J5 (A5F k7) eK R R R R (A3 R (eN (qG (A0 R ?_))))
   refine V5 R R R R ?_ ?_
   ·intro c10
    replace h:=P1 c10 h
    refine eN (C0 R (qG (A0 R (A3 R (eN (C9 (C4 (B2 (B2 (C4 (B2 ?_)))))))))))
    obtain rfl:=sI h
    exact f1 4 R
   intro c10
   replace h:=J7 c10 h
   refine eN (C1 R (D7 (D3 (A6 (J1 (O1 R (A0 R (eN ?_))))))))
   exact⟨m3,⟨[(2,.ref 0 13 0 0),(4,.d (vI 0)),(72,.d (.arr 5 ((e.acts).map D2.d))),(73,.d (vI (e.acts.length:Int))),(74,.d (vI (W (x+1))))],[bx 13 (.d (D4.d t))]⟩,lS,.vw (κ:=[0]) (vK (.cons R R .nil) R),(W (x+1)),h,R⟩
  intro c8
  replace h:=P1 (nL c8) h
  refine eN (B8 (C1 R (N5 (E4 (E4 ?_)))))
  subst hK3
  refine I5 (A6 (qG (A3 R (eN (C9 ?_)))))
  obtain rfl:=sI h
  exact f1 4 R
 refine E3 (qG (A0 R ?_))
 refine V5 R R R R ?_ ?_
 ·intro c
  replace h:=P1 c h
  refine A3 R (eN (C0 R (qG (A0 R (A3 R (eN (C9 (C4 (B2 ?_)))))))))
  obtain rfl:=sI h
  exact f1 4 R
 intro c
 replace h:=J7 c h
 refine A3 R (eN (C1 R (qG (A0 R (C8 tb R (B5 (y := .arr 1 ((e.need).map vI)) tb R (P7 tb R R R R R R R R R R R R R ?_)))))))
 obtain⟨rv2,k2,h⟩:=H1 h
 refine A4k (A62 k2) eK R R ((dL (.cons (.row R R) .nil))) R R ?_ ?_
 ·intro c2
  replace h:=J7 c2 h
  refine A0 R (L9 9 R (D6 R (A3 R (eN (C0 R (qG (A3 R (eN (C9 (C4 (B2 ?_)))))))))))
  obtain rfl:=sI h
  exact f1 4 R
 intro c2
 replace h:=ifF c2 h
 refine A0 R (A0 R (C8 tb R (B5 (y := .arr 1 ((e.on_).map vI)) tb R (C8 tb R (B5 (y := .arr 1 ((e.use_).map vI)) tb R (C8 tb R (B5 (y := .arr 1 ((e.off).map vI)) tb R (P7 tb R R R R R R R R R R R R R ?_))))))))
 obtain⟨rv3,k3,h⟩:=H1 h
 refine A4k (A62 k3) eK R R ((dL (.cons (.row R R) .nil))) R R ?_ ?_
 ·intro c3
  replace h:=J7 c3 h
  refine D0 R (A3 R (eN (C0 R (qG (A3 R (eN (C9 (C4 (B2 ?_)))))))))
  obtain rfl:=sI h
  exact f1 4 R
 intro c3
 replace h:=ifF c3 h
 refine D0 R (A3 R (eN (C1 R (qG (C8 tb R (B5 (y := .arr 1 ((e.need).map vI)) tb R (C8 tb R (B5 (y := .arr 1 ((e.on_).map vI)) tb R (C8 tb R (B5 (y := .arr 1 ((e.use_).map vI)) tb R (C8 tb R (B5 (y := .arr 1 ((e.off).map vI)) tb R (P7 tb R R R R R R R R R R R R R ?_)))))))))))))
 obtain⟨rv4,k4,h⟩:=H1 h
 refine A4k (B0L k4) eK R R ((.cons (.row R R) .nil)) R R ?_ ?_
 ·intro c4
  replace h:=J7 c4 h
  refine A3 R (eN (C0 R (qG (A3 R (eN (C9 (C4 (B2 ?_))))))))
  obtain rfl:=sI h
  exact f1 4 R
 intro c4
 replace h:=ifF c4 h
 refine A3 R (eN (C1 R (qG (C8 tb R (B5 (y:=vI e.most) tb R ?_)))))
 obtain⟨rv5,k5,h⟩:=H1 h
 refine M6 (V8 k5) eK R R R R ?_ ?_
 ·intro c5
  replace h:=J7 c5 h
  refine A0 R (L9 5 R (D6 R (A3 R (eN (C0 R (qG (A3 R (eN (C9 (C4 (B2 ?_)))))))))))
  obtain rfl:=sI h
  exact f1 4 R
 intro c5
 replace h:=ifF c5 h
 refine A0 R (C8 tb R (B5 (y:=vI e.least) tb R (C8 tb R (B5 (y:=vI e.most) tb R ?_))))
 obtain⟨rv6,k6,h⟩:=H1 h
 refine M6 (V8 k6) eK R R R R ?_ ?_
 ·intro c6
  replace h:=J7 c6 h
  refine D0 R (A3 R (eN (C0 R (qG (A3 R (eN (C9 (C4 (B2 ?_)))))))))
  obtain rfl:=sI h
  exact f1 4 R
 intro c6
 replace h:=ifF c6 h
 refine D0 R (A3 R (eN (C1 R (qG (C8 tb R (B5 (y := .arr 5 ((e.acts).map D2.d)) tb R (I7 tb R ?_)))))))
 refine A4l R R R R ?_ ?_
 ·intro c7
  replace h:=J7 c7 h
  refine A3 R (eN (C0 R (qG (A3 R (eN (C9 (C4 (B2 ?_))))))))
  obtain rfl:=sI h
  exact f1 4 R
 intro c7
 replace h:=P1 (nL c7) h
 refine A3 R (eN (C1 R (D7 (D3 (A6 ?_)))))
 exact .inl ⟨(),h,.vw (κ:=[0,1]) (vK (.cons R R (.cons R R .nil)) R)⟩
def S4 (F:Nat) (t:D4) (K:Int→Option (Int × Int × Int)):Nat→Int→Option (Int × Int × Int)
 | 0,_=>none
 | n+1,x4=>if x4<(t.points.length:Int)then((P3 t.points x4).bind fun e2=>(Y7 F e2 0 (W ((t.steps.length:Int)-1))).bind fun rv11=>if rv11=true then(some (6,x4,4))else(if 0<x4 then((P3 t.points (W (x4-1))).bind fun e3=>if e2≤e3 then(some (6,x4,2))else(S4 F t K n (W (x4+1))))else(S4 F t K n (W (x4+1)))))else(K x4)
def A0d (F:Nat) (t:D4) (K:Int→Int→Option (Int × Int × Int)):Nat→Int→Int→Option (Int × Int × Int)
 | 0,_,_=>none
 | n+1,rv9,x3=>if x3<(t.steps.length:Int)then((A5E F t x3).bind fun rv10=>if rv10=0 then(A0d F t K n rv10 (W (x3+1)))else(some (5,x3,rv10)))else(K rv9 x3)
def X6 (F:Nat) (t:D4) (K:Int→Int→Option (Int × Int × Int)):Nat→Int→Int→Option (Int × Int × Int)
 | 0,_,_=>none
 | n+1,rv5,x2=>if x2<(t.batteries.length:Int)then((P3 t.batteries x2).bind fun e=>(R7 F t.batteries x2).bind fun rv6=>if rv6=0 then((Y7 F e.charge 1 1000000).bind fun rv7=>if rv7=true then(some (4,x2,7))else((Y7 F e.rate 1 1000).bind fun rv8=>if rv8=true then(some (4,x2,7))else(X6 F t K n rv6 (W (x2+1)))))else(some (4,x2,rv6)))else(K rv5 x2)
def A0e (F:Nat) (t:D4) (K:Int→Int→Option (Int × Int × Int)):Nat→Int→Int→Option (Int × Int × Int)
 | 0,_,_=>none
 | n+1,rv3,x=>if x<(t.stations.length:Int)then((Q6 F t.stations x).bind fun rv4=>if rv4=0 then(A0e F t K n rv4 (W (x+1)))else(some (3,x,rv4)))else(K rv3 x)
def A3Y (F:Nat) (t:D4) (rv:(Int × Int × Int)):Option (Int × Int × Int):=A0e F t (fun(rv3:Int) (x:Int)=>X6 F t (fun(rv5:Int) (x2:Int)=>A0d F t (fun(rv9:Int) (x3:Int)=>S4 F t (fun(x4:Int)=>(Y7 F t.O8 0 100000).bind fun rv12=>if rv12=true then(some (7,0,7))else((Y7 F t.Q8 0 t.O8).bind fun rv13=>if rv13=true then(some (7,0,7))else(some (0,0,0)))) F 0) F rv5 0) F rv3 0) F rv.2.2 0
def A2o (F:Nat) :Option (Int × Int × Int):=some (2,0,3)
def A4P (F:Nat) (t:D4):Option (Int × Int × Int):=(A43 F (D5.mk t.N4 t.P5 t.N6 t.S5 t.J3 t.Q7 t.T9)).bind fun rv=>if rv.2.2=0 then(if 8<(t.stations.length:Int)then(A2o F)else(if 6<(t.batteries.length:Int)then(A2o F)else((Y7 F (t.steps.length:Int) 1 16).bind fun rv2=>if rv2=true then(A2o F)else(A3Y F t rv))))else(some (1,0,rv.2.2))
theorem B0K {F:Nat} {t:D4} {r:(Int × Int × Int)} (h:A4P F t=some r):PC Tryz.prog 34 [D4.d t] (.tup [.v (.int .i64 r.1),.v (.int .i64 r.2.1),.v (.int .i64 r.2.2)]):=by
 rw[A4P]at h
 refine SC.of_sw Tryz.func34 R R R ?_
 dsimp only[L8,List.map]
 refine qG (M9 R (A3 R (A3 R (A3 R (eN (B8 (qG (C8 tb R (B5 (y := .agg [.arr 8 ((t.N4).map F6.d),.arr 2 ((t.P5).map G6.d),.arr 2 ((t.N6).map E2.d),.arr 1 ((t.S5).map vS),.arr 6 ((t.J3).map D1.d),vI t.Q7,vI t.T9]) tb R ?_)))))))))
 obtain⟨rv,k,h⟩:=H1 h
 refine J5 (A7f k) eK R R R R (A0 R (Q1 (t:=vI rv.1) R R R R (Q1 (t:=vI rv.2.1) R R R R (Q1 (t:=vI rv.2.2) R R R R (A3 R (eN (qG (A0 R ?_))))))))
 refine V5 R R R R ?_ ?_
 ·intro c
  replace h:=P1 c h
  refine eN (C0 R (qG (A0 R (A3 R (A3 R (A3 R (eN (C9 (B2 ?_)))))))))
  obtain rfl:=sI h
  exact U4 (t := .d (.tup [vI 1,vI 0,vI rv.2.2])) R R R (.cons (.tmp 2) (.cons (.tmp 3) (.cons (.tmp 4) .nil)))
 intro c
 replace h:=J7 c h
 refine eN (C1 R (D7 (A6 (B8 ?_))))
 refine W5 (fun zz:Unit=>A3Y F t rv=some r) (fun zz:Unit=>⟨[(1,.ref 0 13 0 0),(2,.d (vI 0)),(3,.d (vI 0)),(4,.d (vI rv.2.2))],[bx 13 (.d (D4.d t))]⟩) ?_ ?_
 ·clear h
  rintro⟨⟩ h
  rw[A3Y]at h
  refine B8 (qG (C8 tb R (B5 (y := .arr 1 ((t.stations).map vS)) tb R (I7 tb R (A0 R (eN (E3 ?_)))))))
  obtain⟨K3,hK3,h⟩:∃ K,K=_∧A0e F t K F rv.2.2 0=some r:=⟨_,rfl,h⟩
  refine M2 (fun m st=>∃ (rv3:Int) (x:Int),A0e F t K3 m rv3 x=some r∧st=⟨[(1,.ref 0 13 0 0),(2,.d (vI 0)),(3,.d (vI 0)),(4,.d (vI rv3)),(39,.d (vI (t.stations.length:Int))),(40,.d (vI x))],[bx 13 (.d (D4.d t))]⟩) (.prn [1,2,3,4,39,40] R) ⟨rv.2.2,0,h,R⟩ ?_
  clear h
  rintro m3 st ⟨rv3,x,h,rfl⟩
  cases m3 with
  | zero=>cases(show(none:Option (Int × Int × Int))=some r from h)
  | succ m3 =>
  rw[A0e]at h
  refine qG ?_
  refine Q4 R R R R ?_ ?_
  ·intro c5
   replace h:=J7 c5 h
   refine eN (B8 (C0 R (D7 (A6 (B8 (E3 (qG (A0 R (A3 R (eN (qG (C8 tb R (B5 (y := .arr 1 ((t.stations).map vS)) tb R (A0 R ?_))))))))))))))
   obtain⟨rv4,k4,h⟩:=H1 h
   refine J5 (A3w k4) eK R R R R (A3 R (eN (qG (A0 R ?_))))
   refine V5 R R R R ?_ ?_
   ·intro c6
    replace h:=P1 c6 h
    refine eN (C0 R (qG (A0 R (A0 R (A3 R (A3 R (A3 R (eN (C9 (C4 (B2 (B2 (C4 (B2 ?_))))))))))))))
    obtain rfl:=sI h
    exact U4 (t := .d (.tup [vI 3,vI x,vI rv4])) R R R (.cons (.tmp 2) (.cons (.tmp 3) (.cons (.tmp 4) .nil)))
   intro c6
   replace h:=J7 c6 h
   refine eN (C1 R (D7 (D3 (A6 (J1 (O1 R (A0 R (eN ?_))))))))
   exact⟨m3,_,lS,.prn [1,2,3,4,39,40] R,rv4,(W (x+1)),h,R⟩
  intro c5
  replace h:=P1 (nL c5) h
  refine eN (B8 (C1 R (N5 (E4 (E4 ?_)))))
  subst hK3
  refine I5 (A6 (B8 (qG (C8 tb R (B5 (y := .arr 3 ((t.batteries).map D9.d)) tb R (I7 tb R (A0 R (eN (E3 ?_)))))))))
  obtain⟨K6,hK6,h⟩:∃ K,K=_∧X6 F t K F rv3 0=some r:=⟨_,rfl,h⟩
  refine M2 (fun m st=>∃ (rv5:Int) (x2:Int),X6 F t K6 m rv5 x2=some r∧st=⟨[(1,.ref 0 13 0 0),(2,.d (vI 0)),(3,.d (vI 0)),(4,.d (vI rv5)),(53,.d (.arr 3 ((t.batteries).map D9.d))),(54,.d (vI (t.batteries.length:Int))),(55,.d (vI x2))],[bx 13 (.d (D4.d t))]⟩) (.prn [1,2,3,4,53,54,55] R) ⟨rv3,0,h,R⟩ ?_
  clear h
  rintro m6 st ⟨rv5,x2,h,rfl⟩
  cases m6 with
  | zero=>cases(show(none:Option (Int × Int × Int))=some r from h)
  | succ m6 =>
  rw[X6]at h
  refine qG ?_
  refine Q4 R R R R ?_ ?_
  ·intro c7
   replace h:=J7 c7 h
   refine eN (B8 (C0 R (D7 (A6 (B8 (E3 (qG (A0 R ?_))))))))
   obtain⟨e,ie,h⟩:=H1 h
   refine N8 tb (F0 ie) (V1 ie) R (I4 (y:=D9.d e) tb (U5 (g:=D9.d) ie) R (M5 tb R R R R R (A3 R (I6 _ _ tb R (eN (qG (C8 tb R (B5 (y := .arr 3 ((t.batteries).map D9.d)) tb R (A0 R ?_)))))))))
   obtain⟨rv6,k6,h⟩:=H1 h
   refine J5 (A3c k6) eK R R R R (A3 R (eN (E3 (qG (A0 R ?_)))))
   refine V5 R R R R ?_ ?_
   ·intro c8
    replace h:=P1 c8 h
    refine A3 R (eN (C0 R (qG (A0 R (A0 R (A3 R (A3 R (A3 R (eN (C9 (C4 (C4 (B2 (B2 (C4 (B2 ?_))))))))))))))))
    obtain rfl:=sI h
    exact U4 (t := .d (.tup [vI 4,vI x2,vI rv6])) R R R (.cons (.tmp 2) (.cons (.tmp 3) (.cons (.tmp 4) .nil)))
   intro c8
   replace h:=J7 c8 h
   refine A3 R (eN (C1 R (qG (C8 tb R (B5 (y:=vI e.charge) tb R ?_)))))
   obtain⟨rv7,k7,h⟩:=H1 h
   refine M6 (V8 k7) eK R R R R ?_ ?_
   ·intro c9
    replace h:=J7 c9 h
    refine A0 R (L9 3 R (D6 R (A3 R (eN (C0 R (qG (A0 R (A3 R (A3 R (A3 R (eN (C9 (C4 (C4 (B2 (B2 (C4 (B2 ?_))))))))))))))))))
    obtain rfl:=sI h
    exact U4 (t := .d (.tup [vI 4,vI x2,vI 7])) R R R (.cons (.tmp 2) (.cons (.tmp 3) (.cons (.tmp 4) .nil)))
   intro c9
   replace h:=ifF c9 h
   refine A0 R (C8 tb R (B5 (y:=vI e.rate) tb R ?_))
   obtain⟨rv8,k8,h⟩:=H1 h
   refine M6 (V8 k8) eK R R R R ?_ ?_
   ·intro c10
    replace h:=J7 c10 h
    refine D0 R (A3 R (eN (C0 R (qG (A0 R (A3 R (A3 R (A3 R (eN (C9 (C4 (C4 (B2 (B2 (C4 (B2 ?_))))))))))))))))
    obtain rfl:=sI h
    exact U4 (t := .d (.tup [vI 4,vI x2,vI 7])) R R R (.cons (.tmp 2) (.cons (.tmp 3) (.cons (.tmp 4) .nil)))
   intro c10
   replace h:=ifF c10 h
   refine D0 R (A3 R (eN (C1 R (D7 (D3 (D3 (A6 (J1 (O1 R (A0 R (eN ?_)))))))))))
   exact⟨m6,⟨[(1,.ref 0 13 0 0),(2,.d (vI 0)),(3,.d (vI 0)),(4,.d (vI rv6)),(53,.d (.arr 3 ((t.batteries).map D9.d))),(54,.d (vI (t.batteries.length:Int))),(55,.d (vI (W (x2+1))))],[bx 13 (.d (D4.d t))]⟩,lS,.vw (κ:=[0]) (vK (.cons R R .nil) R),rv6,(W (x2+1)),h,R⟩
  intro c7
  replace h:=P1 (nL c7) h
  refine eN (B8 (C1 R (N5 (E4 (E4 ?_)))))
  subst hK6
  refine I5 (A6 (B8 (qG (C8 tb R (B5 (y := .arr 9 ((t.steps).map E0.d)) tb R (I7 tb R (A0 R (eN (E3 ?_)))))))))
  obtain⟨K9,hK9,h⟩:∃ K,K=_∧A0d F t K F rv5 0=some r:=⟨_,rfl,h⟩
  refine M2 (fun m st=>∃ (rv9:Int) (x3:Int),A0d F t K9 m rv9 x3=some r∧st=⟨[(1,.ref 0 13 0 0),(2,.d (vI 0)),(3,.d (vI 0)),(4,.d (vI rv9)),(82,.d (vI (t.steps.length:Int))),(83,.d (vI x3))],[bx 13 (.d (D4.d t))]⟩) (.prn [1,2,3,4,82,83] R) ⟨rv5,0,h,R⟩ ?_
  clear h
  rintro m9 st ⟨rv9,x3,h,rfl⟩
  cases m9 with
  | zero=>cases(show(none:Option (Int × Int × Int))=some r from h)
  | succ m9 =>
  rw[A0d]at h
  refine qG ?_
  refine Q4 R R R R ?_ ?_
  ·intro c11
   replace h:=J7 c11 h
   refine eN (B8 (C0 R (D7 (A6 (B8 (E3 (qG (A0 R (A3 R (eN (qG (B5 (y:=D4.d t) tb R (A0 R ?_)))))))))))))
   obtain⟨rv10,k10,h⟩:=H1 h
   refine J5 (B1C k10) eK R R R R (A3 R (eN (qG (A0 R ?_))))
   refine V5 R R R R ?_ ?_
   ·intro c12
    replace h:=P1 c12 h
    refine eN (C0 R (qG (A0 R (A0 R (A3 R (A3 R (A3 R (eN (C9 (C4 (B2 (B2 (C4 (B2 ?_))))))))))))))
    obtain rfl:=sI h
    exact U4 (t := .d (.tup [vI 5,vI x3,vI rv10])) R R R (.cons (.tmp 2) (.cons (.tmp 3) (.cons (.tmp 4) .nil)))
   intro c12
   replace h:=J7 c12 h
   refine eN (C1 R (D7 (D3 (A6 (J1 (O1 R (A0 R (eN ?_))))))))
   exact⟨m9,_,lS,.prn [1,2,3,4,82,83] R,rv10,(W (x3+1)),h,R⟩
  intro c11
  replace h:=P1 (nL c11) h
  refine eN (B8 (C1 R (N5 (E4 (E4 ?_)))))
  subst hK9
  refine I5 (A6 (B8 (qG (C8 tb R (B5 (y := .arr 1 ((t.points).map vI)) tb R (I7 tb R (A0 R (eN (E3 ?_)))))))))
  obtain⟨K12,hK12,h⟩:∃ K,K=_∧S4 F t K F 0=some r:=⟨_,rfl,h⟩
  refine M2 (fun m st=>∃ (x4:Int),S4 F t K12 m x4=some r∧st=⟨[(1,.ref 0 13 0 0),(2,.d (vI 0)),(3,.d (vI 0)),(4,.d (vI rv9)),(95,.d (.arr 1 ((t.points).map vI))),(96,.d (vI (t.points.length:Int))),(97,.d (vI x4))],[bx 13 (.d (D4.d t))]⟩) (.prn [1,2,3,4,95,96,97] R) ⟨0,h,R⟩ ?_
  clear h
  rintro m12 st ⟨x4,h,rfl⟩
  cases m12 with
  | zero=>cases(show(none:Option (Int × Int × Int))=some r from h)
  | succ m12 =>
  rw[S4]at h
  refine qG ?_
  refine Q4 R R R R ?_ ?_
  ·intro c13
   replace h:=J7 c13 h
   refine eN (B8 (C0 R (D7 (A6 (B8 (E3 (qG (A0 R ?_))))))))
   obtain⟨e2,ie2,h⟩:=H1 h
   refine N8 tb (F0 ie2) (V1 ie2) R (I4 (y:=vI e2) tb (U5 (g:=vI) ie2) R (A3 R (A3 R (eN (E3 (qG (A0 R (C8 tb R (B5 (y := .arr 9 ((t.steps).map E0.d)) tb R (I7 tb R (A1n R R R R ?_)))))))))))
   obtain⟨rv11,k11,h⟩:=H1 h
   refine M6 (V8 k11) eK R R R R ?_ ?_
   ·intro c14
    replace h:=J7 c14 h
    refine A3 R (eN (C0 R (qG (A0 R (A3 R (A3 R (A3 R (eN (C9 (C4 (C4 (B2 (B2 (C4 (B2 ?_)))))))))))))))
    obtain rfl:=sI h
    exact U4 (t := .d (.tup [vI 6,vI x4,vI 4])) R R R (.cons (.tmp 2) (.cons (.tmp 3) (.cons (.tmp 4) .nil)))
   intro c14
   replace h:=ifF c14 h
   refine A3 R (eN (C1 R (qG (A0 R ?_))))
   refine A4l R R R R ?_ ?_
   ·intro c15
    replace h:=J7 c15 h
    refine A0 R (A0 R (C8 tb R (B5 (y := .arr 1 ((t.points).map vI)) tb R (A0 R (A1n R R R R ?_)))))
    obtain⟨e3,ie3,h⟩:=H1 h
    refine N8 tb (F0 ie3) (V1 ie3) R (I4 (y:=vI e3) tb (U5 (g:=vI) ie3) R ?_)
    refine B1t R R R R ?_ ?_
    ·intro c16
     replace h:=J7 c16 h
     refine D6 R (A3 R (eN (C0 R (qG (A0 R (A3 R (A3 R (A3 R (eN (C9 (C4 (C4 (B2 (B2 (C4 (B2 ?_))))))))))))))))
     obtain rfl:=sI h
     exact U4 (t := .d (.tup [vI 6,vI x4,vI 2])) R R R (.cons (.tmp 2) (.cons (.tmp 3) (.cons (.tmp 4) .nil)))
    intro c16
    replace h:=P1 (Int.not_le.2 c16) h
    refine D6 R (A3 R (eN (C1 R (D7 (D3 (D3 (A6 (J1 (O1 R (A0 R (eN ?_)))))))))))
    exact⟨m12,_,lS,.prn [1,2,3,4,95,96,97] R,(W (x4+1)),h,R⟩
   intro c15
   replace h:=P1 (nL c15) h
   refine A0 R (L9 8 R (D0 R (A3 R (eN (C1 R (D7 (D3 (D3 (A6 (J1 (O1 R (A0 R (eN ?_)))))))))))))
   exact⟨m12,_,lS,.prn [1,2,3,4,95,96,97] R,(W (x4+1)),h,R⟩
  intro c13
  replace h:=P1 (nL c13) h
  refine eN (B8 (C1 R (N5 (E4 (E4 ?_)))))
  subst hK12
  refine I5 (A6 (B8 (qG (C8 tb R (C8 tb R (B5 (y:=vI t.O8) tb R ?_))))))
  obtain⟨rv12,k12,h⟩:=H1 h
  refine M6 (V8 k12) eK R R R R ?_ ?_
  ·intro c17
   replace h:=J7 c17 h
   refine A0 R (L9 7 R (D6 R (eN (C0 R (qG (A3 R (A3 R (A3 R (eN (C9 (B2 ?_)))))))))))
   obtain rfl:=sI h
   exact U4 (t := .d (.tup [vI 7,vI 0,vI 7])) R R R (.cons (.tmp 2) (.cons (.tmp 3) (.cons (.tmp 4) .nil)))
  intro c17
  replace h:=ifF c17 h
  refine A0 R (C8 tb R (C8 tb R (B5 (y:=vI t.Q8) tb R (C8 tb R (C8 tb R (B5 (y:=vI t.O8) tb R ?_))))))
  obtain⟨rv13,k13,h⟩:=H1 h
  refine M6 (V8 k13) eK R R R R ?_ ?_
  ·intro c18
   replace h:=J7 c18 h
   refine D0 R (eN (C0 R (qG (A3 R (A3 R (A3 R (eN (C9 (B2 ?_)))))))))
   obtain rfl:=sI h
   exact U4 (t := .d (.tup [vI 7,vI 0,vI 7])) R R R (.cons (.tmp 2) (.cons (.tmp 3) (.cons (.tmp 4) .nil)))
  intro c18
  replace h:=ifF c18 h
  refine D0 R (eN (C1 R (D7 (A6 (qG (A3 R (A3 R (A3 R (eN (C9 ?_))))))))))
  obtain rfl:=sI h
  exact U4 (t := .d (.tup [vI 0,vI 0,vI 0])) R R R (.cons (.tmp 2) (.cons (.tmp 3) (.cons (.tmp 4) .nil)))
 refine B8 ?_
 refine W5 (fun zz:Unit=>A2o F=some r) (fun zz:Unit=>⟨[(1,.ref 0 13 0 0),(2,.d (vI 0)),(3,.d (vI 0)),(4,.d (vI rv.2.2)),(36,.d (.v (.bool true)))],[bx 13 (.d (D4.d t))]⟩) ?_ ?_
 ·clear h
  rintro⟨⟩ h
  rw[A2o]at h
  refine C0 R (qG (A3 R (A3 R (A3 R (eN (C9 (B2 ?_)))))))
  obtain rfl:=sI h
  exact U4 (t := .d (.tup [vI 2,vI 0,vI 3])) R R R (.cons (.tmp 2) (.cons (.tmp 3) (.cons (.tmp 4) .nil)))
 refine J1 (C8 tb R (B5 (y := .arr 1 ((t.stations).map vS)) tb R (I7 tb R ?_)))
 refine A4l R R R R ?_ ?_
 ·intro c2
  replace h:=J7 c2 h
  refine A0 R (L9 4 R (D6 R (A0 R (L9 4 R (D6 R (eN ?_))))))
  exact .inl ⟨(),h,.prn [1,2,3,4,36] R⟩
 intro c2
 replace h:=P1 (nL c2) h
 refine A0 R (C8 tb R (B5 (y := .arr 3 ((t.batteries).map D9.d)) tb R (I7 tb R ?_)))
 refine A4l R R R R ?_ ?_
 ·intro c3
  replace h:=J7 c3 h
  refine D0 R (A0 R (L9 4 R (D6 R (eN ?_))))
  exact .inl ⟨(),h,.prn [1,2,3,4,36] R⟩
 intro c3
 replace h:=P1 (nL c3) h
 refine D0 R (A0 R (C8 tb R (B5 (y := .arr 9 ((t.steps).map E0.d)) tb R (I7 tb R ?_))))
 obtain⟨rv2,k2,h⟩:=H1 h
 refine M6 (V8 k2) eK R R R R ?_ ?_
 ·intro c4
  replace h:=J7 c4 h
  refine D0 R (eN ?_)
  exact .inl ⟨(),h,.prn [1,2,3,4,36] R⟩
 intro c4
 replace h:=ifF c4 h
 refine D0 R (eN (.inr (C1 R (D7 (A6 ?_)))))
 exact .inl ⟨(),h,.prn [1,2,3,4] R⟩
def A1t (F:Nat) (t:D4) (o:C7):Option Int:=if o.kind=8 then((A3d F (D5.mk t.N4 t.P5 t.N6 t.S5 t.J3 t.Q7 t.T9) (D2.mk o.A04 o.A0D o.A1L o.A0E o.A0F)).bind fun rv4=>some rv4)else(some 0)
def A1u (F:Nat) :Option Int:=some 2
def A1v (F:Nat) (t:D4) (o:C7):Option Int:=if o.kind=8 then((A3d F (D5.mk t.N4 t.P5 t.N6 t.S5 t.J3 t.Q7 t.T9) (D2.mk o.A04 o.A0D o.A1L o.A0E o.A0F)).bind fun rv5=>some rv5)else(some 0)
def A3I (F:Nat) (t:D4) (o:C7):Option Int:=(Y7 F o.at_ 0 100000).bind fun rv=>if rv=true then(some 7)else((Y7 F o.kind 1 9).bind fun rv2=>if rv2=true then(some 2)else(if(A2e (M0 (M0 (M0 (M0 (M0 (M0 ([]:List (Int × Int)) 1 (t.steps.length:Int)) 2 (t.steps.length:Int)) 5 (t.stations.length:Int)) 6 (t.stations.length:Int)) 7 (t.points.length:Int)) 9 (t.batteries.length:Int)) o.kind).isSome=true then((Y7 F o.what 0 (W (((A2e (M0 (M0 (M0 (M0 (M0 (M0 ([]:List (Int × Int)) 1 (t.steps.length:Int)) 2 (t.steps.length:Int)) 5 (t.stations.length:Int)) 6 (t.stations.length:Int)) 7 (t.points.length:Int)) 9 (t.batteries.length:Int)) o.kind).getD 0)-1))).bind fun rv3=>if rv3=true then(some 4)else(if o.kind=8 then(if o.kind=8 then(if o.A04=o.at_ then(A1t F t o)else(some 2))else(A1t F t o))else(if(!(D2.beq (D2.mk o.A04 o.A0D o.A1L o.A0E o.A0F) (D2.mk 0 0 0 0 0)))=true then(some 2)else(if o.kind=8 then(if o.A04=o.at_ then(A1t F t o)else(some 2))else(A1t F t o)))))else(if o.what=0 then(if o.kind=8 then(if o.kind=8 then(if o.A04=o.at_ then(A1v F t o)else(A1u F))else(A1v F t o))else(if(!(D2.beq (D2.mk o.A04 o.A0D o.A1L o.A0E o.A0F) (D2.mk 0 0 0 0 0)))=true then(A1u F)else(if o.kind=8 then(if o.A04=o.at_ then(A1v F t o)else(A1u F))else(A1v F t o))))else(A1u F))))
theorem A78 {F:Nat} {t:D4} {o:C7} {r:Int} (h:A3I F t o=some r):PC Tryz.prog 80 [D4.d t,C7.d o] (.v (.int .i64 r)):=by
 rw[A3I]at h
 refine SC.of_sw Tryz.func80 R R R ?_
 dsimp only[L8,List.map]
 refine qG (M9 R (M9 R (A3 R (eN (B8 (E3 (qG (C8 tb R (B5 (y:=vI o.at_) tb R ?_)))))))))
 obtain⟨rv,k,h⟩:=H1 h
 refine M6 (V8 k) eK R R R R ?_ ?_
 ·intro c
  replace h:=J7 c h
  refine A3 R (eN (C0 R (qG (A3 R (eN (C9 (C4 (B2 ?_))))))))
  obtain rfl:=sI h
  exact f1 4 R
 intro c
 replace h:=ifF c h
 refine A3 R (eN (C1 R (qG (C8 tb R (B5 (y:=vI o.kind) tb R ?_)))))
 obtain⟨rv2,k2,h⟩:=H1 h
 refine M6 (V8 k2) eK R R R R ?_ ?_
 ·intro c2
  replace h:=J7 c2 h
  refine A3 R (eN (C0 R (qG (A3 R (eN (C9 (C4 (B2 ?_))))))))
  obtain rfl:=sI h
  exact f1 4 R
 intro c2
 replace h:=ifF c2 h
 refine A3 R (eN (C1 R (D7 (D3 (A6 (qG (A58 R R R (C8 tb R (B5 (y := .arr 9 ((t.steps).map E0.d)) tb R (I7 tb R ?_))))))))))
 refine A8E (vf:=fun b=>vI b) (v:=(t.steps.length:Int)) (q:=(M0 ([]:List (Int × Int)) 1 (t.steps.length:Int))) ([bx 13 (.d (D4.d t)),bx 8 (.d (C7.d o)),C3C (M0 ([]:List (Int × Int)) 1 (t.steps.length:Int))]) R R R R R R R R R ?_
 refine C8 tb R (B5 (y := .arr 9 ((t.steps).map E0.d)) tb R (I7 tb R ?_))
 refine A8E (vf:=fun b=>vI b) (v:=(t.steps.length:Int)) (q:=(M0 (M0 ([]:List (Int × Int)) 1 (t.steps.length:Int)) 2 (t.steps.length:Int))) ([bx 13 (.d (D4.d t)),bx 8 (.d (C7.d o)),C3C (M0 (M0 ([]:List (Int × Int)) 1 (t.steps.length:Int)) 2 (t.steps.length:Int))]) R R R R R R R R R ?_
 refine C8 tb R (B5 (y := .arr 1 ((t.stations).map vS)) tb R (I7 tb R ?_))
 refine A8E (vf:=fun b=>vI b) (v:=(t.stations.length:Int)) (q:=(M0 (M0 (M0 ([]:List (Int × Int)) 1 (t.steps.length:Int)) 2 (t.steps.length:Int)) 5 (t.stations.length:Int))) ([bx 13 (.d (D4.d t)),bx 8 (.d (C7.d o)),C3C (M0 (M0 (M0 ([]:List (Int × Int)) 1 (t.steps.length:Int)) 2 (t.steps.length:Int)) 5 (t.stations.length:Int))]) R R R R R R R R R ?_
 refine C8 tb R (B5 (y := .arr 1 ((t.stations).map vS)) tb R (I7 tb R ?_))
 refine A8E (vf:=fun b=>vI b) (v:=(t.stations.length:Int)) (q:=(M0 (M0 (M0 (M0 ([]:List (Int × Int)) 1 (t.steps.length:Int)) 2 (t.steps.length:Int)) 5 (t.stations.length:Int)) 6 (t.stations.length:Int))) ([bx 13 (.d (D4.d t)),bx 8 (.d (C7.d o)),C3C (M0 (M0 (M0 (M0 ([]:List (Int × Int)) 1 (t.steps.length:Int)) 2 (t.steps.length:Int)) 5 (t.stations.length:Int)) 6 (t.stations.length:Int))]) R R R R R R R R R ?_
 refine C8 tb R (B5 (y := .arr 1 ((t.points).map vI)) tb R (I7 tb R ?_))
 refine A8E (vf:=fun b=>vI b) (v:=(t.points.length:Int)) (q:=(M0 (M0 (M0 (M0 (M0 ([]:List (Int × Int)) 1 (t.steps.length:Int)) 2 (t.steps.length:Int)) 5 (t.stations.length:Int)) 6 (t.stations.length:Int)) 7 (t.points.length:Int))) ([bx 13 (.d (D4.d t)),bx 8 (.d (C7.d o)),C3C (M0 (M0 (M0 (M0 (M0 ([]:List (Int × Int)) 1 (t.steps.length:Int)) 2 (t.steps.length:Int)) 5 (t.stations.length:Int)) 6 (t.stations.length:Int)) 7 (t.points.length:Int))]) R R R R R R R R R ?_
 refine C8 tb R (B5 (y := .arr 3 ((t.batteries).map D9.d)) tb R (I7 tb R ?_))
 refine A8E (vf:=fun b=>vI b) (v:=(t.batteries.length:Int)) (q:=(M0 (M0 (M0 (M0 (M0 (M0 ([]:List (Int × Int)) 1 (t.steps.length:Int)) 2 (t.steps.length:Int)) 5 (t.stations.length:Int)) 6 (t.stations.length:Int)) 7 (t.points.length:Int)) 9 (t.batteries.length:Int))) ([bx 13 (.d (D4.d t)),bx 8 (.d (C7.d o)),C3C (M0 (M0 (M0 (M0 (M0 (M0 ([]:List (Int × Int)) 1 (t.steps.length:Int)) 2 (t.steps.length:Int)) 5 (t.stations.length:Int)) 6 (t.stations.length:Int)) 7 (t.points.length:Int)) 9 (t.batteries.length:Int))]) R R R R R R R R R ?_
 refine A1D (.mp 2) R R R (C8 tb R (B5 (y:=vI o.kind) tb R ?_))
 refine C0H (vf:=fun b=>vI b) (z0:=0) (u:=vI ((A2e (M0 (M0 (M0 (M0 (M0 (M0 ([]:List (Int × Int)) 1 (t.steps.length:Int)) 2 (t.steps.length:Int)) 5 (t.stations.length:Int)) 6 (t.stations.length:Int)) 7 (t.points.length:Int)) 9 (t.batteries.length:Int)) o.kind).getD 0)) (b:=(A2e (M0 (M0 (M0 (M0 (M0 (M0 ([]:List (Int × Int)) 1 (t.steps.length:Int)) 2 (t.steps.length:Int)) 5 (t.stations.length:Int)) 6 (t.stations.length:Int)) 7 (t.points.length:Int)) 9 (t.batteries.length:Int)) o.kind).isSome) tb R R R R R R R R R R R ?_
 refine A1D (.tup [.d (vI ((A2e (M0 (M0 (M0 (M0 (M0 (M0 ([]:List (Int × Int)) 1 (t.steps.length:Int)) 2 (t.steps.length:Int)) 5 (t.stations.length:Int)) 6 (t.stations.length:Int)) 7 (t.points.length:Int)) 9 (t.batteries.length:Int)) o.kind).getD 0)),.d (.v (.bool (A2e (M0 (M0 (M0 (M0 (M0 (M0 ([]:List (Int × Int)) 1 (t.steps.length:Int)) 2 (t.steps.length:Int)) 5 (t.stations.length:Int)) 6 (t.stations.length:Int)) 7 (t.points.length:Int)) 9 (t.batteries.length:Int)) o.kind).isSome))]) R R R ?_
 refine A1B (t := .d (vI ((A2e (M0 (M0 (M0 (M0 (M0 (M0 ([]:List (Int × Int)) 1 (t.steps.length:Int)) 2 (t.steps.length:Int)) 5 (t.stations.length:Int)) 6 (t.stations.length:Int)) 7 (t.points.length:Int)) 9 (t.batteries.length:Int)) o.kind).getD 0))) R R R R ?_
 refine A1B (t := .d (.v (.bool (A2e (M0 (M0 (M0 (M0 (M0 (M0 ([]:List (Int × Int)) 1 (t.steps.length:Int)) 2 (t.steps.length:Int)) 5 (t.stations.length:Int)) 6 (t.stations.length:Int)) 7 (t.points.length:Int)) 9 (t.batteries.length:Int)) o.kind).isSome))) R R R R ?_
 with_reducible apply X8
 ·intro c3
  replace h:=J7 c3 h
  refine A3 R (A3 R (eN (B8 (E3 (qG (A0 R (A0 R (C8 tb R (B5 (y:=vI o.what) tb R (A0 R (A1n R R R R ?_)))))))))))
  obtain⟨rv3,k3,h⟩:=H1 h
  refine M6 (V8 k3) eK R R R R ?_ ?_
  ·intro c4
   replace h:=J7 c4 h
   refine D6 R (A3 R (eN (C0 R (qG (A3 R (eN (C9 (C4 (B2 ?_)))))))))
   obtain rfl:=sI h
   exact f1 4 R
  intro c4
  replace h:=ifF c4 h
  refine D6 R (A3 R (eN (C1 R (B8 ?_))))
  refine W5 (fun zz:Unit=>A1t F t o=some r) (fun zz:Unit=>⟨[(2,.ref 0 13 0 0),(3,.ref 1 8 0 0),(4,.d (vI 0)),(50,.d (.v (.bool false)))],[bx 13 (.d (D4.d t)),bx 8 (.d (C7.d o))]⟩) ?_ ?_
  ·clear h
   rintro⟨⟩ h
   rw[A1t]at h
   refine C1 R (qG (C8 tb R (B5 (y:=vI o.kind) tb R ?_)))
   refine V5 R R R R ?_ ?_
   ·intro c11
    replace h:=P1 c11 h
    refine A3 R (eN (C0 R (qG (A3 R (eN (C9 (C4 (B2 ?_))))))))
    obtain rfl:=sI h
    exact f1 4 R
   intro c11
   replace h:=J7 c11 h
   refine A3 R (eN (C1 R (D7 (D3 (A6 (qG (C8 tb R (B5 (y := .agg [.arr 8 ((t.N4).map F6.d),.arr 2 ((t.P5).map G6.d),.arr 2 ((t.N6).map E2.d),.arr 1 ((t.S5).map vS),.arr 6 ((t.J3).map D1.d),vI t.Q7,vI t.T9]) tb R (C8 tb R (B5 (y := .agg [vI o.A04,vI o.A0D,vI o.A1L,vI o.A0E,vI o.A0F]) tb R ?_))))))))))
   obtain⟨rv4,k4,h⟩:=H1 h
   refine J5 (A5F k4) eK R R R R (A3 R (eN (C9 ?_)))
   obtain rfl:=sI h
   exact f1 4 R
  refine J1 (A0 R (A0a R R R (A0 R (L9 3 R (D0 R (A0 R (C8 tb R (B5 (y:=vI o.kind) tb R ?_))))))))
  refine V5 R R R R ?_ ?_
  ·intro c5
   replace h:=P1 c5 h
   refine A0 R (C8 tb R (B5 (y := .agg [vI o.A04,vI o.A0D,vI o.A1L,vI o.A0E,vI o.A0F]) tb R (S1 (v := .d (.agg [vI 0,vI 0,vI 0,vI 0,vI 0])) tb R R (List.cons_ne_nil _ _) R R R R R R ?_)))
   refine B8c (p:=[.int .i64 o.A04,.int .i64 o.A0D,.int .i64 o.A1L,.int .i64 o.A0E,.int .i64 o.A0F]) (q:=[.int .i64 0,.int .i64 0,.int .i64 0,.int .i64 0,.int .i64 0]) R R (fun o1 o2 w=>C04 (D2.mk o.A04 o.A0D o.A1L o.A0E o.A0F) (D2.mk 0 0 0 0 0) o1 o2 w) R R ?_
   with_reducible apply X8
   ·intro c6
    replace h:=J7 c6 h
    refine D6 R (D0 R (A0 R (L9 11 R (D6 R (A3 R (eN (.inr (C0 R (qG (A3 R (eN (C9 (C4 (B2 ?_))))))))))))))
    obtain rfl:=sI h
    exact f1 4 R
   intro c6
   replace h:=ifF c6 h
   refine D6 R (D0 R (A0 R (C8 tb R (B5 (y:=vI o.kind) tb R ?_))))
   refine Z3 R R R R ?_ ?_
   ·intro c7
    replace h:=J7 c7 h
    refine A0 R (C8 tb R (C8 tb R (B5 (y:=vI o.A04) tb R (C8 tb R (B5 (y:=vI o.at_) tb R ?_)))))
    refine V5 R R R R ?_ ?_
    ·intro c8
     replace h:=P1 c8 h
     refine D6 R (D0 R (A3 R (eN (.inr (C0 R (qG (A3 R (eN (C9 (C4 (B2 ?_)))))))))))
     obtain rfl:=sI h
     exact f1 4 R
    intro c8
    replace h:=J7 c8 h
    refine D6 R (D0 R (A3 R (eN ?_)))
    exact .inl ⟨(),h,.vw (κ:=[0,1]) (vK (.cons R R (.cons R R .nil)) R)⟩
   intro c7
   replace h:=P1 c7 h
   refine A0 R (L9 6 R (D0 R (D0 R (A3 R (eN ?_)))))
   exact .inl ⟨(),h,.vw (κ:=[0,1]) (vK (.cons R R (.cons R R .nil)) R)⟩
  intro c5
  replace h:=J7 c5 h
  refine A0 R (L9 4 R (D0 R (D0 R (A0 R (C8 tb R (B5 (y:=vI o.kind) tb R ?_))))))
  refine Z3 R R R R ?_ ?_
  ·intro c9
   replace h:=J7 c9 h
   refine A0 R (C8 tb R (C8 tb R (B5 (y:=vI o.A04) tb R (C8 tb R (B5 (y:=vI o.at_) tb R ?_)))))
   refine V5 R R R R ?_ ?_
   ·intro c10
    replace h:=P1 c10 h
    refine D6 R (D0 R (A3 R (eN (.inr (C0 R (qG (A3 R (eN (C9 (C4 (B2 ?_)))))))))))
    obtain rfl:=sI h
    exact f1 4 R
   intro c10
   replace h:=J7 c10 h
   refine D6 R (D0 R (A3 R (eN ?_)))
   exact .inl ⟨(),h,.vw (κ:=[0,1]) (vK (.cons R R (.cons R R .nil)) R)⟩
  intro c9
  replace h:=P1 c9 h
  refine A0 R (L9 6 R (D0 R (D0 R (A3 R (eN ?_)))))
  exact .inl ⟨(),h,.vw (κ:=[0,1]) (vK (.cons R R (.cons R R .nil)) R)⟩
 intro c3
 replace h:=ifF c3 h
 refine A3 R (A3 R (eN (B8 (E3 (qG (A0 R (A0 R (L9 5 R (D0 R (A3 R (eN (C1 R (B8 ?_)))))))))))))
 refine W5 (Sum.elim (fun zz:Unit=>A1u F=some r) (fun zz:Unit=>A1v F t o=some r)) (Sum.elim (fun zz:Unit=>⟨[(2,.ref 0 13 0 0),(3,.ref 1 8 0 0),(4,.d (vI 0)),(50,.d (.v (.bool true)))],[bx 13 (.d (D4.d t)),bx 8 (.d (C7.d o))]⟩) (fun zz:Unit=>⟨[(2,.ref 0 13 0 0),(3,.ref 1 8 0 0),(4,.d (vI 0)),(50,.d (.v (.bool false)))],[bx 13 (.d (D4.d t)),bx 8 (.d (C7.d o))]⟩)) ?_ ?_
 ·clear h
  rintro(⟨⟩ | ⟨⟩) h
  ·dsimp only[Sum.elim]at h ⊢
   rw[A1u]at h
   refine C0 R (qG (A3 R (eN (C9 (C4 (B2 ?_))))))
   obtain rfl:=sI h
   exact f1 4 R
  ·dsimp only[Sum.elim]at h ⊢
   rw[A1v]at h
   refine C1 R (qG (C8 tb R (B5 (y:=vI o.kind) tb R ?_)))
   refine V5 R R R R ?_ ?_
   ·intro c19
    replace h:=P1 c19 h
    refine A3 R (eN (C0 R (qG (A3 R (eN (C9 (C4 (B2 ?_))))))))
    obtain rfl:=sI h
    exact f1 4 R
   intro c19
   replace h:=J7 c19 h
   refine A3 R (eN (C1 R (D7 (D3 (A6 (qG (C8 tb R (B5 (y := .agg [.arr 8 ((t.N4).map F6.d),.arr 2 ((t.P5).map G6.d),.arr 2 ((t.N6).map E2.d),.arr 1 ((t.S5).map vS),.arr 6 ((t.J3).map D1.d),vI t.Q7,vI t.T9]) tb R (C8 tb R (B5 (y := .agg [vI o.A04,vI o.A0D,vI o.A1L,vI o.A0E,vI o.A0F]) tb R ?_))))))))))
   obtain⟨rv5,k5,h⟩:=H1 h
   refine J5 (A5F k5) eK R R R R (A3 R (eN (C9 ?_)))
   obtain rfl:=sI h
   exact f1 4 R
 refine J1 (A0 R (Z9 R R R (A0 R (C8 tb R (B5 (y:=vI o.what) tb R ?_)))))
 refine V5 R R R R ?_ ?_
 ·intro c12
  replace h:=P1 c12 h
  refine D6 R (A0 R (L9 9 R (D6 R (A0 R (L9 11 R (D6 R (A3 R (eN ?_))))))))
  exact .inl ⟨.inl (),h,.vw (κ:=[0,1]) (vK (.cons R R (.cons R R .nil)) R)⟩
 intro c12
 replace h:=J7 c12 h
 refine D6 R (A0 R (C8 tb R (B5 (y:=vI o.kind) tb R ?_)))
 refine V5 R R R R ?_ ?_
 ·intro c13
  replace h:=P1 c13 h
  refine A0 R (C8 tb R (B5 (y := .agg [vI o.A04,vI o.A0D,vI o.A1L,vI o.A0E,vI o.A0F]) tb R (S1 (v := .d (.agg [vI 0,vI 0,vI 0,vI 0,vI 0])) tb R R (List.cons_ne_nil _ _) R R R R R R ?_)))
  refine B8c (p:=[.int .i64 o.A04,.int .i64 o.A0D,.int .i64 o.A1L,.int .i64 o.A0E,.int .i64 o.A0F]) (q:=[.int .i64 0,.int .i64 0,.int .i64 0,.int .i64 0,.int .i64 0]) R R (fun o1 o2 w=>C04 (D2.mk o.A04 o.A0D o.A1L o.A0E o.A0F) (D2.mk 0 0 0 0 0) o1 o2 w) R R ?_
  with_reducible apply X8
  ·intro c14
   replace h:=J7 c14 h
   refine D6 R (D0 R (A0 R (L9 11 R (D6 R (A3 R (eN ?_))))))
   exact .inl ⟨.inl (),h,.vw (κ:=[0,1]) (vK (.cons R R (.cons R R .nil)) R)⟩
  intro c14
  replace h:=ifF c14 h
  refine D6 R (D0 R (A0 R (C8 tb R (B5 (y:=vI o.kind) tb R ?_))))
  refine Z3 R R R R ?_ ?_
  ·intro c15
   replace h:=J7 c15 h
   refine A0 R (C8 tb R (C8 tb R (B5 (y:=vI o.A04) tb R (C8 tb R (B5 (y:=vI o.at_) tb R ?_)))))
   refine V5 R R R R ?_ ?_
   ·intro c16
    replace h:=P1 c16 h
    refine D6 R (D0 R (A3 R (eN ?_)))
    exact .inl ⟨.inl (),h,.vw (κ:=[0,1]) (vK (.cons R R (.cons R R .nil)) R)⟩
   intro c16
   replace h:=J7 c16 h
   refine D6 R (D0 R (A3 R (eN ?_)))
   exact .inl ⟨.inr (()),h,.vw (κ:=[0,1]) (vK (.cons R R (.cons R R .nil)) R)⟩
  intro c15
  replace h:=P1 c15 h
  refine A0 R (L9 6 R (D0 R (D0 R (A3 R (eN ?_)))))
  exact .inl ⟨.inr (()),h,.vw (κ:=[0,1]) (vK (.cons R R (.cons R R .nil)) R)⟩
 intro c13
 replace h:=J7 c13 h
 refine A0 R (L9 4 R (D0 R (D0 R (A0 R (C8 tb R (B5 (y:=vI o.kind) tb R ?_))))))
 refine Z3 R R R R ?_ ?_
 ·intro c17
  replace h:=J7 c17 h
  refine A0 R (C8 tb R (C8 tb R (B5 (y:=vI o.A04) tb R (C8 tb R (B5 (y:=vI o.at_) tb R ?_)))))
  refine V5 R R R R ?_ ?_
  ·intro c18
   replace h:=P1 c18 h
   refine D6 R (D0 R (A3 R (eN ?_)))
   exact .inl ⟨.inl (),h,.vw (κ:=[0,1]) (vK (.cons R R (.cons R R .nil)) R)⟩
  intro c18
  replace h:=J7 c18 h
  refine D6 R (D0 R (A3 R (eN ?_)))
  exact .inl ⟨.inr (()),h,.vw (κ:=[0,1]) (vK (.cons R R (.cons R R .nil)) R)⟩
 intro c17
 replace h:=P1 c17 h
 refine A0 R (L9 6 R (D0 R (D0 R (A3 R (eN ?_)))))
 exact .inl ⟨.inr (()),h,.vw (κ:=[0,1]) (vK (.cons R R (.cons R R .nil)) R)⟩
def A1r (F:Nat) (t:D4) (K:(List Int)→Int→Option ((Option F7) × Int)):Nat→(List Int)→Int→Option ((Option F7) × Int)
 | 0,_,_=>none
 | n+1,lv,x=>if x<(t.batteries.length:Int)then((P3 t.batteries x).bind fun e=>(A8i lv [e.charge]).bind fun q=>A1r F t K n q (W (x+1)))else(K lv x)
def A4Q (F:Nat) (t:D4):Option ((Option F7) × Int):=(A4P F t).bind fun rv=>if rv.2.2=0 then((A44 F (D5.mk t.N4 t.P5 t.N6 t.S5 t.J3 t.Q7 t.T9)).bind fun rv2=>(A0b F [(-1)] (t.steps.length:Int)).bind fun rv3=>(A0b F [(-1)] (t.steps.length:Int)).bind fun rv4=>A1r F t (fun(lv:(List Int)) (x:Int)=>(B1D (t.stations.length:Int)).bind fun q2=>(B1D (t.batteries.length:Int)).bind fun q3=>some ((some (F7.mk t.N4 t.P5 t.N6 t.S5 t.J3 t.Q7 t.T9 t.stations t.batteries t.steps t.points t.Q8 t.O8 0 rv2.1.now rv2.1.zones rv2.1.holder rv2.1.squibs rv2.1.siren rv2.1.storm rv3 rv4 false (List.replicate q2 false) lv (List.replicate q3 false))),0)) F ([]:List Int) 0)else(some (none,rv.2.2))
theorem A7t {F:Nat} {t:D4} {r:((Option F7) × Int)} (h:A4Q F t=some r):SCO Tryz.prog 70 (List.map T.d [D4.d t]) [] r.1 (.d (.tup [.v (.pointer none),.v (.int .i64 r.2)])) (List.map some []) (fun(tt:F7) => .tup [.ref 0 26 0 0,.d (.v (.int .i64 r.2))]) (fun(tt:F7)=>List.map some [⟨26,[C5 tt 1 2 3 4 5]⟩,(B7 tt.A1),(B7 tt.A5),(H7 tt.B1),(B7 tt.A7),(H7 tt.B0)]):=by
 rw[A4Q]at h
 refine SC.of_sw Tryz.func70 R R R ?_
 dsimp only[L8,List.map]
 refine qG (M9 R (A3 R (A3 R (eN (B8 (qG (B5 (y:=D4.d t) tb R ?_)))))))
 obtain⟨rv,k,h⟩:=H1 h
 refine J5 (B0K k) eK R R R R (A0 R (Q1 (t:=vI rv.1) R R R R (Q1 (t:=vI rv.2.1) R R R R (Q1 (t:=vI rv.2.2) R R R R (A3 R (A3 R (A3 R (eN (qG (A0 R ?_))))))))))
 refine V5 R R R R ?_ ?_
 ·intro c
  replace h:=P1 c h
  refine eN (C0 R (qG (A0 R (A3 R (A3 R (eN (C9 (B2 ?_))))))))
  obtain rfl:=sI h
  exact(U0 (t := .d (.tup [.v (.pointer none),vI rv.2.2])) (L:=[]) (κ:=[]) R (.cons (.tmp 2) (.cons (.tmp 3) .nil)) (v0 R) (.inl ⟨R,R,R⟩))
 intro c
 replace h:=J7 c h
 refine eN (C1 R (D7 (A6 (qG (B5 (y:=D4.d t) tb R ?_)))))
 refine S1 (v := .d (.agg [.arr 8 ((t.N4).map F6.d),.arr 2 ((t.P5).map G6.d),.arr 2 ((t.N6).map E2.d),.arr 1 ((t.S5).map vS),.arr 6 ((t.J3).map D1.d),vI t.Q7,vI t.T9,.arr 1 ((t.stations).map vS),.arr 3 ((t.batteries).map D9.d),.arr 9 ((t.steps).map E0.d),.arr 1 ((t.points).map vI),vI t.Q8,vI t.O8,vI 0,vI 0,.v (.slice none 0 0),.v (.slice none 0 0),.v (.slice none 0 0),vI 0,.v (.bool false),.v (.slice none 0 0),.v (.slice none 0 0),.v (.bool false),.v (.slice none 0 0),.v (.slice none 0 0),.v (.slice none 0 0)])) tb R R (List.cons_ne_nil _ _) kR kR kR kR R R ?_
 refine M9 R (A3i R R R (eN (qG (G4 R R R (C8 tb R (B5 (y := .agg [.arr 8 ((t.N4).map F6.d),.arr 2 ((t.P5).map G6.d),.arr 2 ((t.N6).map E2.d),.arr 1 ((t.S5).map vS),.arr 6 ((t.J3).map D1.d),vI t.Q7,vI t.T9]) tb R ?_))))))
 obtain⟨rv2,k2,h⟩:=H1 h
 refine J5 (B2T k2) eK R R R R (A0 R (Q1 (t:=C3.d rv2.1) R R R R (Q1 (t:=vI rv2.2) R R R R (F1 R R R (C8 tb R (C8 tb R ?_))))))
 refine I6 _ ([bx 13 (.d (D4.d t)),bx 26 (.d (.agg [.arr 8 ((t.N4).map F6.d),.arr 2 ((t.P5).map G6.d),.arr 2 ((t.N6).map E2.d),.arr 1 ((t.S5).map vS),.arr 6 ((t.J3).map D1.d),vI t.Q7,vI t.T9,.arr 1 ((t.stations).map vS),.arr 3 ((t.batteries).map D9.d),.arr 9 ((t.steps).map E0.d),.arr 1 ((t.points).map vI),vI t.Q8,vI t.O8,vI 0,vI rv2.1.now,.arr 1 ((rv2.1.zones).map vI),.arr 1 ((rv2.1.holder).map vI),.arr 1 ((rv2.1.squibs).map vI),vI rv2.1.siren,.v (.bool rv2.1.storm),.v (.slice none 0 0),.v (.slice none 0 0),.v (.bool false),.v (.slice none 0 0),.v (.slice none 0 0),.v (.slice none 0 0)]))]) tb R ?_
 refine eN (B8 (T1 kR (G4 R R R (G4 R R R (P7 tb R R R R R R R R R R R R R (C8 tb R (B5 (y := .arr 9 ((t.steps).map E0.d)) tb R (I7 tb R ?_))))))))
 obtain⟨rv3,k3,h⟩:=H1 h
 refine A3j (t' := .row 3 1 0 (rv3).length) (news':=[(B7 rv3)]) (A06 k3) R ((.row (fun _=>rfl) .nil)) eK R R ((.cons (.row R R) (dL .nil))) R ((.row .nil)) R R R ?_
 refine P7 tb R R R R R R R R R R R R R (C8 tb R (B5 (y := .arr 9 ((t.steps).map E0.d)) tb R (I7 tb R ?_)))
 obtain⟨rv4,k4,h⟩:=H1 h
 refine A3j (t' := .row 5 1 0 (rv4).length) (news':=[(B7 rv4)]) (A06 k4) R ((.row (fun _=>rfl) .nil)) eK R R ((.cons (.row R R) (dL .nil))) R ((.row .nil)) R R R ?_
 refine F1 R R R (C8 tb R (C8 tb R ?_))
 refine I6 _ ([bx 13 (.d (D4.d t)),bx 26 (.agg [.d (.arr 8 ((t.N4).map F6.d)),.d (.arr 2 ((t.P5).map G6.d)),.d (.arr 2 ((t.N6).map E2.d)),.d (.arr 1 ((t.S5).map vS)),.d (.arr 6 ((t.J3).map D1.d)),.d (vI t.Q7),.d (vI t.T9),.d (.arr 1 ((t.stations).map vS)),.d (.arr 3 ((t.batteries).map D9.d)),.d (.arr 9 ((t.steps).map E0.d)),.d (.arr 1 ((t.points).map vI)),.d (vI t.Q8),.d (vI t.O8),.d (vI 0),.d (vI rv2.1.now),.d (.arr 1 ((rv2.1.zones).map vI)),.d (.arr 1 ((rv2.1.holder).map vI)),.d (.arr 1 ((rv2.1.squibs).map vI)),.d (vI rv2.1.siren),.d (.v (.bool rv2.1.storm)),.row 3 1 0 (rv3).length,.d (.v (.slice none 0 0)),.d (.v (.bool false)),.d (.v (.slice none 0 0)),.d (.v (.slice none 0 0)),.d (.v (.slice none 0 0))]),B0u [(-1)],B0u rv3,B0u [(-1)],B0u rv4]) tb R ?_
 refine F1 R R R (C8 tb R (C8 tb R ?_))
 refine I6 _ ([bx 13 (.d (D4.d t)),bx 26 (.agg [.d (.arr 8 ((t.N4).map F6.d)),.d (.arr 2 ((t.P5).map G6.d)),.d (.arr 2 ((t.N6).map E2.d)),.d (.arr 1 ((t.S5).map vS)),.d (.arr 6 ((t.J3).map D1.d)),.d (vI t.Q7),.d (vI t.T9),.d (.arr 1 ((t.stations).map vS)),.d (.arr 3 ((t.batteries).map D9.d)),.d (.arr 9 ((t.steps).map E0.d)),.d (.arr 1 ((t.points).map vI)),.d (vI t.Q8),.d (vI t.O8),.d (vI 0),.d (vI rv2.1.now),.d (.arr 1 ((rv2.1.zones).map vI)),.d (.arr 1 ((rv2.1.holder).map vI)),.d (.arr 1 ((rv2.1.squibs).map vI)),.d (vI rv2.1.siren),.d (.v (.bool rv2.1.storm)),.row 3 1 0 (rv3).length,.row 5 1 0 (rv4).length,.d (.v (.bool false)),.d (.v (.slice none 0 0)),.d (.v (.slice none 0 0)),.d (.v (.slice none 0 0))]),B0u [(-1)],B0u rv3,B0u [(-1)],B0u rv4]) tb R ?_
 refine I0 kR (A6 (B8 (qG (C8 tb R (B5 (y := .arr 3 ((t.batteries).map D9.d)) tb R (I7 tb R (A0 R (eN (E3 ?_)))))))))
 refine SW.own (ts':=[(1,.ref 0 13 0 0),(2,.d (.v (.pointer none))),(3,.d (vI 0)),(7,.ref 1 26 0 0),(51,.d (.arr 3 ((t.batteries).map D9.d))),(52,.d (vI (t.batteries.length:Int))),(53,.d (vI 0))]) (L':=[bx 13 (.d (D4.d t)),bx 26 (.agg [.d (.arr 8 ((t.N4).map F6.d)),.d (.arr 2 ((t.P5).map G6.d)),.d (.arr 2 ((t.N6).map E2.d)),.d (.arr 1 ((t.S5).map vS)),.d (.arr 6 ((t.J3).map D1.d)),.d (vI t.Q7),.d (vI t.T9),.d (.arr 1 ((t.stations).map vS)),.d (.arr 3 ((t.batteries).map D9.d)),.d (.arr 9 ((t.steps).map E0.d)),.d (.arr 1 ((t.points).map vI)),.d (vI t.Q8),.d (vI t.O8),.d (vI 0),.d (vI rv2.1.now),.d (.arr 1 ((rv2.1.zones).map vI)),.d (.arr 1 ((rv2.1.holder).map vI)),.d (.arr 1 ((rv2.1.squibs).map vI)),.d (vI rv2.1.siren),.d (.v (.bool rv2.1.storm)),.row 3 1 0 (rv3).length,.row 5 1 0 (rv4).length,.d (.v (.bool false)),.d (.v (.slice none 0 0)),.row 6 1 0 (([]:List Int)).length,.d (.v (.slice none 0 0))]),B0u [(-1)],B0u rv3,B0u [(-1)],B0u rv4]) 1 R R (.cons (.same _) (.cons (.same _) (.cons (.same _) (.cons (.same _) (.cons (.same _) (.cons (.same _) (.cons (.same _) .nil))))))) (.same (.cons R (.cons (.aggL (.cons (.same _) (.cons (.same _) (.cons (.same _) (.cons (.same _) (.cons (.same _) (.cons (.same _) (.cons (.same _) (.cons (.same _) (.cons (.same _) (.cons (.same _) (.cons (.same _) (.cons (.same _) (.cons (.same _) (.cons (.same _) (.cons (.same _) (.cons (.same _) (.cons (.same _) (.cons (.same _) (.cons (.same _) (.cons (.same _) (.cons (.same _) (.cons (.same _) (.cons (.same _) (.cons (.same _) (.cons .nil (.cons (.same _) .nil))))))))))))))))))))))))))) .nil) (.same (.same (.same (.same .nil)))))) ?_
 simp only[List.cons_append,List.nil_append]
 obtain⟨K4,hK4,h⟩:∃ K,K=_∧A1r F t K F ([]:List Int) 0=some r:=⟨_,rfl,h⟩
 refine M2 (st0:=⟨[(1,.ref 0 13 0 0),(2,.d (.v (.pointer none))),(3,.d (vI 0)),(7,.ref 1 26 0 0),(51,.d (.arr 3 ((t.batteries).map D9.d))),(52,.d (vI (t.batteries.length:Int))),(53,.d (vI 0))],[bx 13 (.d (D4.d t)),bx 26 (.agg [.d (.arr 8 ((t.N4).map F6.d)),.d (.arr 2 ((t.P5).map G6.d)),.d (.arr 2 ((t.N6).map E2.d)),.d (.arr 1 ((t.S5).map vS)),.d (.arr 6 ((t.J3).map D1.d)),.d (vI t.Q7),.d (vI t.T9),.d (.arr 1 ((t.stations).map vS)),.d (.arr 3 ((t.batteries).map D9.d)),.d (.arr 9 ((t.steps).map E0.d)),.d (.arr 1 ((t.points).map vI)),.d (vI t.Q8),.d (vI t.O8),.d (vI 0),.d (vI rv2.1.now),.d (.arr 1 ((rv2.1.zones).map vI)),.d (.arr 1 ((rv2.1.holder).map vI)),.d (.arr 1 ((rv2.1.squibs).map vI)),.d (vI rv2.1.siren),.d (.v (.bool rv2.1.storm)),.row 2 1 0 (rv3).length,.row 3 1 0 (rv4).length,.d (.v (.bool false)),.d (.v (.slice none 0 0)),.row 4 1 0 (([]:List Int)).length,.d (.v (.slice none 0 0))]),B0u rv3,B0u rv4,B0u ([]:List Int)]⟩) (fun m st=>∃ (lv:(List Int)) (x:Int),A1r F t K4 m lv x=some r∧st=⟨[(1,.ref 0 13 0 0),(2,.d (.v (.pointer none))),(3,.d (vI 0)),(7,.ref 1 26 0 0),(51,.d (.arr 3 ((t.batteries).map D9.d))),(52,.d (vI (t.batteries.length:Int))),(53,.d (vI x))],[bx 13 (.d (D4.d t)),bx 26 (.agg [.d (.arr 8 ((t.N4).map F6.d)),.d (.arr 2 ((t.P5).map G6.d)),.d (.arr 2 ((t.N6).map E2.d)),.d (.arr 1 ((t.S5).map vS)),.d (.arr 6 ((t.J3).map D1.d)),.d (vI t.Q7),.d (vI t.T9),.d (.arr 1 ((t.stations).map vS)),.d (.arr 3 ((t.batteries).map D9.d)),.d (.arr 9 ((t.steps).map E0.d)),.d (.arr 1 ((t.points).map vI)),.d (vI t.Q8),.d (vI t.O8),.d (vI 0),.d (vI rv2.1.now),.d (.arr 1 ((rv2.1.zones).map vI)),.d (.arr 1 ((rv2.1.holder).map vI)),.d (.arr 1 ((rv2.1.squibs).map vI)),.d (vI rv2.1.siren),.d (.v (.bool rv2.1.storm)),.row 2 1 0 (rv3).length,.row 3 1 0 (rv4).length,.d (.v (.bool false)),.d (.v (.slice none 0 0)),.row 4 1 0 (lv).length,.d (.v (.slice none 0 0))]),B0u rv3,B0u rv4,B0u lv]⟩) (.vw (κ:=[0,1,3,5,6]) (vK (.cons R R (.cons R R C1o)) R)) ⟨([]:List Int),0,h,R⟩ ?_
 clear h
 rintro m4 st ⟨lv,x,h,rfl⟩
 cases m4 with
 | zero=>cases(show(none:Option ((Option F7) × Int))=some r from h)
 | succ m4 =>
 rw[A1r]at h
 refine qG ?_
 refine Q4 R R R R ?_ ?_
 ·intro c2
  replace h:=J7 c2 h
  refine eN (B8 (C0 R (D7 (A6 (B8 (E3 (qG ?_)))))))
  obtain⟨e,ie,h⟩:=H1 h
  refine N8 tb (F0 ie) (V1 ie) R (I4 (y:=D9.d e) tb (U5 (g:=D9.d) ie) R (M5 tb R R R R R (I6 _ _ tb R (eN (T1 kR (G4 R R R (G4 R R R (F1 R R R (C8 tb R (C8 tb R (W4 tb R R R R R R R R R (C8 tb R (B5 (y:=vI e.charge) tb R (P7 tb R R R R R R R R R R R R R ?_))))))))))))))
  obtain⟨q,iq,h⟩:=H1 h
  refine B2k (g:=vI) (w:=lv) (v:=[e.charge]) ([bx 13 (.d (D4.d t)),bx 26 (.agg [.d (.arr 8 ((t.N4).map F6.d)),.d (.arr 2 ((t.P5).map G6.d)),.d (.arr 2 ((t.N6).map E2.d)),.d (.arr 1 ((t.S5).map vS)),.d (.arr 6 ((t.J3).map D1.d)),.d (vI t.Q7),.d (vI t.T9),.d (.arr 1 ((t.stations).map vS)),.d (.arr 3 ((t.batteries).map D9.d)),.d (.arr 9 ((t.steps).map E0.d)),.d (.arr 1 ((t.points).map vI)),.d (vI t.Q8),.d (vI t.O8),.d (vI 0),.d (vI rv2.1.now),.d (.arr 1 ((rv2.1.zones).map vI)),.d (.arr 1 ((rv2.1.holder).map vI)),.d (.arr 1 ((rv2.1.squibs).map vI)),.d (vI rv2.1.siren),.d (.v (.bool rv2.1.storm)),.row 2 1 0 (rv3).length,.row 3 1 0 (rv4).length,.d (.v (.bool false)),.d (.v (.slice none 0 0)),.row 4 1 0 (lv).length,.d (.v (.slice none 0 0))]),B0u rv3,B0u rv4,none,bx 3 (.d (D9.d e)),B0u [e.charge]]) tb R R R R R R R R R R R iq R R R R R ?_
  refine F1 R R R (C8 tb R (C8 tb R ?_))
  refine I6 _ ([bx 13 (.d (D4.d t)),bx 26 (.agg [.d (.arr 8 ((t.N4).map F6.d)),.d (.arr 2 ((t.P5).map G6.d)),.d (.arr 2 ((t.N6).map E2.d)),.d (.arr 1 ((t.S5).map vS)),.d (.arr 6 ((t.J3).map D1.d)),.d (vI t.Q7),.d (vI t.T9),.d (.arr 1 ((t.stations).map vS)),.d (.arr 3 ((t.batteries).map D9.d)),.d (.arr 9 ((t.steps).map E0.d)),.d (.arr 1 ((t.points).map vI)),.d (vI t.Q8),.d (vI t.O8),.d (vI 0),.d (vI rv2.1.now),.d (.arr 1 ((rv2.1.zones).map vI)),.d (.arr 1 ((rv2.1.holder).map vI)),.d (.arr 1 ((rv2.1.squibs).map vI)),.d (vI rv2.1.siren),.d (.v (.bool rv2.1.storm)),.row 2 1 0 (rv3).length,.row 3 1 0 (rv4).length,.d (.v (.bool false)),.d (.v (.slice none 0 0)),.row 7 1 0 (q).length,.d (.v (.slice none 0 0))]),B0u rv3,B0u rv4,none,bx 3 (.d (D9.d e)),B0u [e.charge],B0u q]) tb R ?_
  refine I0 kR (D3 (A6 (J1 (O1 R (A0 R (eN ?_))))))
  exact⟨m4,⟨[(1,.ref 0 13 0 0),(2,.d (.v (.pointer none))),(3,.d (vI 0)),(7,.ref 1 26 0 0),(51,.d (.arr 3 ((t.batteries).map D9.d))),(52,.d (vI (t.batteries.length:Int))),(53,.d (vI (W (x+1))))],[bx 13 (.d (D4.d t)),bx 26 (.agg [.d (.arr 8 ((t.N4).map F6.d)),.d (.arr 2 ((t.P5).map G6.d)),.d (.arr 2 ((t.N6).map E2.d)),.d (.arr 1 ((t.S5).map vS)),.d (.arr 6 ((t.J3).map D1.d)),.d (vI t.Q7),.d (vI t.T9),.d (.arr 1 ((t.stations).map vS)),.d (.arr 3 ((t.batteries).map D9.d)),.d (.arr 9 ((t.steps).map E0.d)),.d (.arr 1 ((t.points).map vI)),.d (vI t.Q8),.d (vI t.O8),.d (vI 0),.d (vI rv2.1.now),.d (.arr 1 ((rv2.1.zones).map vI)),.d (.arr 1 ((rv2.1.holder).map vI)),.d (.arr 1 ((rv2.1.squibs).map vI)),.d (vI rv2.1.siren),.d (.v (.bool rv2.1.storm)),.row 2 1 0 (rv3).length,.row 3 1 0 (rv4).length,.d (.v (.bool false)),.d (.v (.slice none 0 0)),.row 4 1 0 (q).length,.d (.v (.slice none 0 0))]),B0u rv3,B0u rv4,B0u q]⟩,lS,.vw (κ:=[0,1,2,3,7]) (vK (.cons R R (.cons R R C1o)) R),q,(W (x+1)),h,R⟩
 intro c2
 replace h:=P1 (nL c2) h
 refine eN (B8 (C1 R (N5 (E4 (E4 ?_)))))
 subst hK4
 refine I5 (A6 (B8 (T1 kR (G4 R R R (G4 R R R (C8 tb R (B5 (y := .arr 1 ((t.stations).map vS)) tb R (I7 tb R ?_))))))))
 obtain⟨q2,iq2,h⟩:=H1 h
 refine B00 (v:=false) (g:=vB) tb R R R R R R R ((A6i iq2).1) ((A6i iq2).2) R R R R (C8 tb R (B5 (y := .arr 3 ((t.batteries).map D9.d)) tb R (I7 tb R ?_)))
 obtain⟨q3,iq3,h⟩:=H1 h
 refine B00 (v:=false) (g:=vB) tb R R R R R R R ((A6i iq3).1) ((A6i iq3).2) R R R R (F1 R R R (C8 tb R (C8 tb R ?_)))
 refine I6 _ ([bx 13 (.d (D4.d t)),bx 26 (.agg [.d (.arr 8 ((t.N4).map F6.d)),.d (.arr 2 ((t.P5).map G6.d)),.d (.arr 2 ((t.N6).map E2.d)),.d (.arr 1 ((t.S5).map vS)),.d (.arr 6 ((t.J3).map D1.d)),.d (vI t.Q7),.d (vI t.T9),.d (.arr 1 ((t.stations).map vS)),.d (.arr 3 ((t.batteries).map D9.d)),.d (.arr 9 ((t.steps).map E0.d)),.d (.arr 1 ((t.points).map vI)),.d (vI t.Q8),.d (vI t.O8),.d (vI 0),.d (vI rv2.1.now),.d (.arr 1 ((rv2.1.zones).map vI)),.d (.arr 1 ((rv2.1.holder).map vI)),.d (.arr 1 ((rv2.1.squibs).map vI)),.d (vI rv2.1.siren),.d (.v (.bool rv2.1.storm)),.row 2 1 0 (rv3).length,.row 3 1 0 (rv4).length,.d (.v (.bool false)),.row 5 1 0 ((List.replicate q2 false)).length,.row 4 1 0 (lv).length,.d (.v (.slice none 0 0))]),B0u rv3,B0u rv4,B0u lv,B9r (List.replicate q2 false),B9r (List.replicate q3 false)]) tb R ?_
 refine F1 R R R (C8 tb R (C8 tb R (I6 _ ([bx 13 (.d (D4.d t)),bx 26 (C5 (F7.mk t.N4 t.P5 t.N6 t.S5 t.J3 t.Q7 t.T9 t.stations t.batteries t.steps t.points t.Q8 t.O8 0 rv2.1.now rv2.1.zones rv2.1.holder rv2.1.squibs rv2.1.siren rv2.1.storm rv3 rv4 false (List.replicate q2 false) lv (List.replicate q3 false)) 2 3 5 4 6),B0u rv3,B0u rv4,B0u lv,B9r (List.replicate q2 false),B9r (List.replicate q3 false)]) tb R (I0 kR ?_))))
 refine A6 (qG (G4 R R R (A3i R R R (A3 R (eN (C9 ?_))))))
 obtain rfl:=sI h
 exact(U0 (t := .tup [.ref 0 26 0 0,.d (vI 0)]) (L:=[bx 26 (C5 (F7.mk t.N4 t.P5 t.N6 t.S5 t.J3 t.Q7 t.T9 t.stations t.batteries t.steps t.points t.Q8 t.O8 0 rv2.1.now rv2.1.zones rv2.1.holder rv2.1.squibs rv2.1.siren rv2.1.storm rv3 rv4 false (List.replicate q2 false) lv (List.replicate q3 false)) 1 2 3 4 5),B0u rv3,B0u rv4,B9r (List.replicate q2 false),B0u lv,B9r (List.replicate q3 false)]) (κ:=[1,2,3,5,4,6]) R (.cons (.tmp 2) (.cons (.tmp 3) .nil)) (vK (.cons R R B9x) R) (.inr ⟨_,R,R,R⟩))
def A0v (F:Nat) (s:(List Bool)):Option (List Bool):=(B26 ([]:List Bool) s).bind fun q=>some q
theorem A2T {F:Nat} {s:(List Bool)} {r:(List Bool)} (h:A0v F s=some r):SCR Tryz.prog 171 (List.map T.d [.arr 1 ((s).map vB)]) [] (.row 0 1 0 (r).length) (List.map some [(H7 r)]):=by
 rw[A0v]at h
 refine SC.of_sw Tryz.func171 R R R ?_
 dsimp only[L8,List.map]
 cases s with
 | nil =>
  refine SW.raw 0 1 R fun ad cap=>?_
  cases ad with
  | none =>
   replace h:some ([]:List Bool)=some r:=by simpa[A8i,B26]using h
   refine qG (A3 R (eN (B8 (qG (A0 R (B4l (by intro o a n cap w;cases a<;>cases o<;>simp[go_sem,eqGuard]<;>rfl) R R R (eN (C0 R ?_))))))))
   refine SW.unraw 0 1 R ?_
   refine SW.unraw 3 1 R ?_
   refine qG (A3 R (eN ?_))
   refine SW.own (ts':=[(2,.row 0 1 0 (([]:List Bool)).length)]) (L':=[]) 1 R R (.cons .nil .nil) .nil ?_
   simp only[List.cons_append,List.nil_append]
   refine C9 (B2 ?_)
   obtain rfl:=sI h
   exact f2 [0] C23 R (.cons (.tmp 2) .nil) R
  | some ad =>
   refine qG (A3 R (eN (B8 (qG (A0 R (B4k (by intro o a n cap w;cases a<;>cases o<;>simp[go_sem,eqGuard]<;>rfl) R R R (eN (C1 R ?_))))))))
   refine SW.unraw 0 1 R ?_
   refine SW.unraw 3 1 R ?_
   refine D7 (A6 (qG (P7 tb R R R R R R R R R R R R R (A0 R ?_))))
   obtain⟨q,iq,h⟩:=H1 h
   refine B3c (g:=vB) (w:=([]:List Bool)) (v:=([]:List Bool)) ([none]) tb R R R R R R R R (by intro _;exact R) iq R R R R R (A14 R R R (eN (C9 ?_)))
   obtain rfl:=sI h
   exact f2 [1] C23 R (.cons (.tmp 2) .nil) R
 | cons x0 s =>
  refine qG (A3 R (eN (B8 (qG (A0 R (B4j (by intro o a n cap w;cases a<;>cases o<;>simp[go_sem,eqGuard]<;>rfl) R R R (eN (C1 R (D7 (A6 (qG (P7 tb R R R R R R R R R R R R R (A0 R ?_)))))))))))))
  obtain⟨q,iq,h⟩:=H1 h
  refine B3c (g:=vB) (w:=([]:List Bool)) (v:=(x0::s)) ([none]) tb R R R R R R R R (by intro _;exact R) iq R R R R R (A14 R R R (eN (C9 ?_)))
  obtain rfl:=sI h
  exact f2 [1] C23 R (.cons (.tmp 2) .nil) R
theorem B4y {F:Nat} {s:(List Bool)} {r:(List Bool)} (h:A0v F s=some r):PC Tryz.prog 171 [.arr 1 ((s).map vB)] (.arr 1 ((r).map vB)):=(A2T h).toPC (.row rfl rfl)
def V7 (F:Nat) (s:(List Bool)) (v:Bool) (K:Int→Option Int):Nat→Int→Option Int
 | 0,_=>none
 | n+1,x=>if x<(s.length:Int)then((P3 s x).bind fun e=>if(v==e)=true then(some x)else(V7 F s v K n (W (x+1))))else(K x)
def A2Y (F:Nat) (s:(List Bool)) (v:Bool):Option Int:=V7 F s v (fun(x:Int)=>some (-1)) F 0
theorem A7L {F:Nat} {s:(List Bool)} {v:Bool} {r:Int} (h:A2Y F s v=some r):PC Tryz.prog 230 [.arr 1 ((s).map vB),.v (.bool v)] (.v (.int .i64 r)):=by
 rw[A2Y]at h
 refine SC.of_sw Tryz.func230 R R R ?_
 dsimp only[L8,List.map]
 refine qG (A3 R (eN (B8 (qG (A0 R (I7 tb R (A0 R (eN (E3 ?_)))))))))
 obtain⟨K2,hK2,h⟩:∃ K,K=_∧V7 F s v K F 0=some r:=⟨_,rfl,h⟩
 refine M2 (fun m st=>∃ (x:Int),V7 F s v K2 m x=some r∧st=⟨[(0,.d (.arr 1 ((s).map vB))),(1,.d (.v (.bool v))),(4,.d (vI 0)),(7,.d (vI (s.length:Int))),(8,.d (vI x))],[]⟩) (.prn [0,1,4,7,8] R) ⟨0,h,R⟩ ?_
 clear h
 rintro m2 st ⟨x,h,rfl⟩
 cases m2 with
 | zero=>cases(show(none:Option Int)=some r from h)
 | succ m2 =>
 rw[V7]at h
 refine qG ?_
 refine Q4 R R R R ?_ ?_
 ·intro c
  replace h:=J7 c h
  refine eN (B8 (C0 R (D7 (A6 (B8 (E3 (qG (A0 R (A3 R (eN (qG (A0 R (A0 R (A0 R ?_))))))))))))))
  obtain⟨e,ie,h⟩:=H1 h
  refine N8 tb (F0 ie) (V1 ie) R (I4 (y := .v (.bool e)) tb (U5 (g:=vB) ie) R (B6K R R R R R ?_))
  with_reducible apply X8
  ·intro c2
   replace h:=J7 c2 h
   refine eN (C0 R (qG (A0 R (A3 R (eN (C9 (C4 (B2 (B2 (C4 (B2 ?_)))))))))))
   obtain rfl:=sI h
   exact f1 4 R
  intro c2
  replace h:=ifF c2 h
  refine eN (C1 R (D7 (D3 (A6 (J1 (O1 R (A0 R (eN ?_))))))))
  exact⟨m2,_,lS,.prn [0,1,4,7,8] R,(W (x+1)),h,R⟩
 intro c
 replace h:=P1 (nL c) h
 refine eN (B8 (C1 R (N5 (E4 (E4 ?_)))))
 subst hK2
 refine I5 (A6 (qG (A3 R (eN (C9 ?_)))))
 obtain rfl:=sI h
 exact f1 4 R
def A0H (F:Nat) (s:(List Bool)) (v:Bool):Option Bool:=(A2Y F s v).bind fun rv=>some (decide (0≤rv))
theorem A6J {F:Nat} {s:(List Bool)} {v:Bool} {r:Bool} (h:A0H F s v=some r):PC Tryz.prog 213 [.arr 1 ((s).map vB),.v (.bool v)] (.v (.bool r)):=by
 rw[A0H]at h
 refine SC.of_sw Tryz.func213 R R R ?_
 dsimp only[L8,List.map]
 refine qG (A3 R (eN (qG (A0 R (A0 R ?_)))))
 obtain⟨rv,k,h⟩:=H1 h
 refine J5 (A7L k) eK R R R R (A3k R R R R (A3 R (eN (C9 ?_))))
 obtain rfl:=sI h
 exact f1 4 R
def A0Y (F:Nat) (d:F7):Option F7:=(T3 F d.A1).bind fun rv=>(T3 F d.A5).bind fun rv2=>(T3 F d.A7).bind fun rv3=>(A0v F d.B1).bind fun rv4=>(A0v F d.B0).bind fun rv5=>some {d with A1:=rv,A5:=rv2,B1:=rv4,A7:=rv3,B0:=rv5}
theorem A61 {F:Nat} {d:F7} {r:F7} (h:A0Y F d=some r):SCR Tryz.prog 98 [.ref 0 26 0 0] (B6X d []) (.ref 6 26 0 0) (B6X d [bx 26 (C5 r 7 8 9 10 11),B0u r.A1,B0u r.A5,B9r r.B1,B0u r.A7,B9r r.B0]):=by
 rw[A0Y]at h
 refine SC.of_sw Tryz.func98 R R R ?_
 dsimp only[L8,List.map]
 refine qG (A3 R (eN (qG (G4 R R R (F1 R R R (B4i tb R R R R R R R R R (M5 tb R R R R R (I6 _ (B6X d [bx 26 (C5 d 1 2 3 4 5)]) tb R (eN (B8 (T1 kR (C8 tb R (C8 tb R (W4 tb R R R R R R R R R ?_))))))))))))))
 obtain⟨rv,k,h⟩:=H1 h
 refine A3j (t' := .row 7 1 0 (rv).length) (news':=[(B7 rv)]) (Y2 k) R ((.row (fun _=>rfl) .nil)) eK R R ((.cons (.row R R) .nil)) R ((.row .nil)) R R R ?_
 refine C8 tb R (C8 tb R (W4 tb R R R R R R R R R ?_))
 obtain⟨rv2,k2,h⟩:=H1 h
 refine A3j (t' := .row 8 1 0 (rv2).length) (news':=[(B7 rv2)]) (Y2 k2) R ((.row (fun _=>rfl) .nil)) eK R R ((.cons (.row R R) .nil)) R ((.row .nil)) R R R ?_
 refine C8 tb R (C8 tb R (W4 tb R R R R R R R R R ?_))
 obtain⟨rv3,k3,h⟩:=H1 h
 refine A3j (t' := .row 9 1 0 (rv3).length) (news':=[(B7 rv3)]) (Y2 k3) R ((.row (fun _=>rfl) .nil)) eK R R ((.cons (.row R R) .nil)) R ((.row .nil)) R R R ?_
 refine C8 tb R (C8 tb R (I6 _ (B6X d [bx 26 (C5 {d with A1:=rv} 7 2 3 4 5),B0u rv,B0u rv2,B0u rv3]) tb R (C8 tb R (C8 tb R ?_))))
 refine I6 _ (B6X d [bx 26 (C5 {d with A1:=rv,A5:=rv2} 7 8 3 4 5),B0u rv,B0u rv2,B0u rv3]) tb R (C8 tb R (C8 tb R ?_))
 refine I6 _ (B6X d [bx 26 (C5 {d with A1:=rv,A5:=rv2,A7:=rv3} 7 8 3 9 5),B0u rv,B0u rv2,B0u rv3]) tb R (I0 kR (A6 (B8 (T1 kR (C8 tb R (C8 tb R (W4 tb R R R R R R R R R ?_)))))))
 obtain⟨rv4,k4,h⟩:=H1 h
 refine A3j (t' := .row 10 1 0 (rv4).length) (news':=[(H7 rv4)]) (A2T k4) R ((.row (fun _=>rfl) .nil)) eK R R ((.cons (.row R R) .nil)) R ((.row .nil)) R R R ?_
 refine C8 tb R (C8 tb R (W4 tb R R R R R R R R R ?_))
 obtain⟨rv5,k5,h⟩:=H1 h
 refine A3j (t' := .row 11 1 0 (rv5).length) (news':=[(H7 rv5)]) (A2T k5) R ((.row (fun _=>rfl) .nil)) eK R R ((.cons (.row R R) .nil)) R ((.row .nil)) R R R ?_
 refine C8 tb R (C8 tb R (I6 _ (B6X d [bx 26 (C5 {d with A1:=rv,A5:=rv2,B1:=rv4,A7:=rv3} 7 8 10 9 5),B0u rv,B0u rv2,B0u rv3,B9r rv4,B9r rv5]) tb R (C8 tb R (C8 tb R ?_))))
 refine I6 _ (B6X d [bx 26 (C5 {d with A1:=rv,A5:=rv2,B1:=rv4,A7:=rv3,B0:=rv5} 7 8 10 9 11),B0u rv,B0u rv2,B0u rv3,B9r rv4,B9r rv5]) tb R (I0 kR (A6 (qG (A3i R R R (eN (C9 ?_))))))
 obtain rfl:=sI h
 exact f2 [0,1,2,3,4,5,6,7,8,10,9,11] (.cons R R (.row R (.row R (.row R (.row R (.row R (.cons R R B9x))))))) R (.cons (.tmp 2) .nil) R
def T6 (F:Nat) (d:F7) (tick:Int) (K:(List Int)→Int→Option F7):Nat→(List Int)→Int→Option F7
 | 0,_,_=>none
 | n+1,d2,x=>if x<(d.E7.length:Int)then((P3 d.E7 x).bind fun e=>(P3 d.B0 x).bind fun e2=>if e2=true then((P3 d2 x).bind fun e3=>(A5g d2 x (max 0 (W (e3-(W ((W (tick-d.H6))*e.rate)))))).bind fun d3=>T6 F d tick K n d3 (W (x+1)))else(T6 F d tick K n d2 (W (x+1))))else(K d2 x)
def A2V (F:Nat) (d:F7) (tick:Int):Option F7:=T6 F d tick (fun(d2:(List Int)) (x:Int)=>some {d with H6:=tick,A7:=d2}) F d.A7 0
theorem A7z {F:Nat} {d:F7} {tick:Int} {r:F7} (h:A2V F d tick=some r):SCR Tryz.prog 99 [.ref 0 26 0 0,.d (.v (.int .i64 tick))] (B6X d []) (.d (.tup [])) (B6X r []):=by
 rw[A2V]at h
 refine SC.of_sw Tryz.func99 R R R ?_
 dsimp only[L8,List.map]
 refine B8 (qG (G4 R R R (F1 R R R (C8 tb R (C8 tb R (B5 (y := .arr 3 ((d.E7).map D9.d)) tb R (I7 tb R (A0 R (eN (E3 ?_))))))))))
 obtain⟨K3,hK3,h⟩:∃ K,K=_∧T6 F d tick K F d.A7 0=some r:=⟨_,rfl,h⟩
 refine M2 (fun m st=>∃ (d2:(List Int)) (x:Int),T6 F d tick K3 m d2 x=some r∧st=⟨[(0,.ref 0 26 0 0),(1,.d (vI tick)),(10,.d (.arr 3 ((d.E7).map D9.d))),(11,.d (vI (d.E7.length:Int))),(12,.d (vI x))],[bx 26 (C5 {d with A7:=d2} 1 2 3 4 5),B0u d.A1,B0u d.A5,B9r d.B1,B0u d2,B9r d.B0]⟩) (.prn [0,1,10,11,12] R) ⟨d.A7,0,h,R⟩ ?_
 clear h
 rintro m3 st ⟨d2,x,h,rfl⟩
 cases m3 with
 | zero=>cases(show(none:Option F7)=some r from h)
 | succ m3 =>
 rw[T6]at h
 refine qG ?_
 refine Q4 R R R R ?_ ?_
 ·intro c
  replace h:=J7 c h
  refine eN (B8 (C0 R (D7 (A6 (B8 (E3 (qG (A0 R ?_))))))))
  obtain⟨e,ie,h⟩:=H1 h
  refine N8 tb (F0 ie) (V1 ie) R (I4 (y:=D9.d e) tb (U5 (g:=D9.d) ie) R (M5 tb R R R R R (A3 R (I6 _ _ tb R (eN (qG (G4 R R R (F1 R R R (C8 tb R (C8 tb R (W4 tb R R R R R R R R R (A0 R ?_))))))))))))
  obtain⟨e2,ie2,h⟩:=H1 h
  refine Y1 tb R R R R R R (F0 ie2) (ix1 ie2) R R ?_
  refine A15 (y := .v (.bool e2)) tb R R R R (U5 (g:=fun a=>T.d (vB a)) ie2) R R R R ?_
  with_reducible apply X8
  ·intro c2
   replace h:=J7 c2 h
   refine eN (C0 R (T1 kR (G4 R R R (F1 R R R (C8 tb R (C8 tb R (W4 tb R R R R R R R R R (A0 R (G4 R R R (F1 R R R (C8 tb R (C8 tb R (W4 tb R R R R R R R R R (A0 R ?_))))))))))))))
   obtain⟨e3,ie3,h⟩:=H1 h
   refine Y1 tb R R R R R R (F0 ie3) (ix1 ie3) R R ?_
   refine A15 (y:=vI e3) tb R R R R (U5 (g:=fun a=>T.d (vI a)) ie3) R R R R ?_
   refine A0 R (G4 R R R (F1 R R R (C8 tb R (C8 tb R (B5 (y:=vI d.H6) tb R (A1n R R R R (C8 tb R (B5 (y:=vI e.rate) tb R (A5Q R R R R (A1n R R R R (B3f R R R R (Y1 tb R R R R R R (F0 ie3) (ix1 ie3) R R ?_))))))))))))
   obtain⟨d3,id3,h⟩:=H1 h
   refine A5d (a':=((max 0 (W (e3-(W ((W (tick-d.H6))*e.rate))))):Int)) tb R R R R ie3 R R R R id3 R R ?_
   dsimp only[List.set_cons_zero,List.set_cons_succ,J2,C6,A0h,C5]
   first | rw[A2a id3] | skip
   refine I0 kR (D3 (A6 (J1 (O1 R (A0 R (eN ?_))))))
   exact⟨m3,⟨[(0,.ref 0 26 0 0),(1,.d (vI tick)),(10,.d (.arr 3 ((d.E7).map D9.d))),(11,.d (vI (d.E7.length:Int))),(12,.d (vI (W (x+1))))],[bx 26 (C5 {d with A7:=d3} 1 2 3 4 5),B0u d.A1,B0u d.A5,B9r d.B1,B0u d3,B9r d.B0]⟩,lS,.vw (κ:=[0,1,2,3,4,5]) (vK (.cons R R B9x) R),d3,(W (x+1)),h,R⟩
  intro c2
  replace h:=ifF c2 h
  refine eN (C1 R (D7 (D3 (A6 (J1 (O1 R (A0 R (eN ?_))))))))
  exact⟨m3,⟨[(0,.ref 0 26 0 0),(1,.d (vI tick)),(10,.d (.arr 3 ((d.E7).map D9.d))),(11,.d (vI (d.E7.length:Int))),(12,.d (vI (W (x+1))))],[bx 26 (C5 {d with A7:=d2} 1 2 3 4 5),B0u d.A1,B0u d.A5,B9r d.B1,B0u d2,B9r d.B0]⟩,lS,.vw (κ:=[0,1,2,3,4,5]) (vK (.cons R R B9x) R),d2,(W (x+1)),h,R⟩
 intro c
 replace h:=P1 (nL c) h
 refine eN (B8 (C1 R (N5 (E4 (E4 ?_)))))
 subst hK3
 refine I5 (A6 (J1 (G4 R R R (A0 R (F1 R R R (C8 tb R (C8 tb R (I6 _ ([bx 26 (C5 {d with H6:=tick,A7:=d2} 1 2 3 4 5),B0u d.A1,B0u d.A5,B9r d.B1,B0u d2,B9r d.B0]) tb R (Y9 ?_)))))))))
 obtain rfl:=sI h
 exact A1R (U0 (t := .d (.tup [])) (L:=[bx 26 (C5 {d with H6:=tick,A7:=d2} 1 2 3 4 5),B0u d.A1,B0u d.A5,B9r d.B1,B0u d2,B9r d.B0]) (κ:=[0,1,2,3,4,5]) R .nil (vK (.cons R R B9x) R) ⟨R,R⟩)
def P4 (F:Nat) (is:Bool) (why:Int):Option (Except Int Unit):=if is=true then(some (.ok ()))else(some (.error why))
theorem G1 {F:Nat} {is:Bool} {why:Int} {r:(Except Int Unit)} (h:P4 F is why=some r):SCX Tryz.prog 97 [.d (.v (.bool is)),.d (.v (.int .i64 why))] [] r 43 (fun(a:Unit) => .d (.tup [])) (fun(a:Unit)=>[]):=by
 rw[P4]at h
 refine SC.of_sw Tryz.func97 R R R ?_
 dsimp only[L8,List.map]
 refine qG (A0 R ?_)
 with_reducible apply X8
 ·intro c
  replace h:=J7 c h
  refine A0a R R R (eN (C1 R (D7 ?_)))
  obtain rfl:=sI h
  exact A1R (U0 (t := .d (.tup [])) (L:=[]) (κ:=[]) R .nil (v0 R) (.inl ⟨_,R,R,R⟩))
 intro c
 replace h:=ifF c h
 refine Z9 R R R (eN (C0 R (X0 (A0 R (B5T tb R R R R R (T2 ?_))))))
 (with_reducible apply B2d);(iterate 2 exact rfl)
 obtain rfl:=sI h
 exact M3 (L:=[]) (κ:=[]) (v0 R) (.inr ⟨_,R,R⟩)
def Z4 (F:Nat) (d:F7) (x:E0):Option (Except Int F7):=if x.poll=true then((A0H F d.B1 false).bind fun rv=>(P4 F (!rv) 184).bind fun rv2=>exE rv2 (fun x2=>some (.error x2)) (fun v=>some (.ok d)))else((P4 F true 184).bind fun rv3=>exE rv3 (fun x3=>some (.error x3)) (fun v2=>some (.ok d)))
theorem A0J {F:Nat} {d:F7} {x:E0} {r:(Except Int F7)} (h:Z4 F d x=some r):SCX Tryz.prog 172 [.ref 0 26 0 0,.d (E0.d x)] (B6X d []) r 43 (fun(a:F7) => .d (.tup [])) (fun(a:F7)=>(B6X a [])):=by
 rw[Z4]at h
 refine SC.of_sw Tryz.func172 R R R ?_
 dsimp only[L8,List.map]
 refine qG (M9 R (eN (X0 (C8 tb R (B5 (y := .v (.bool x.poll)) tb R ?_)))))
 with_reducible apply X8
 ·intro c
  replace h:=J7 c h
  refine A0a R R R (A0 R (G4 R R R (F1 R R R (C8 tb R (C8 tb R (W4 tb R R R R R R R R R ?_))))))
  obtain⟨rv,k,h⟩:=H1 h
  refine A19 (A6J k) R eK R R ((.cons (.row R R) (dL .nil))) R R (A5R R R R (D0 R ?_))
  obtain⟨rv2,k2,h⟩:=H1 h
  rcases M7 rv2 with⟨x2,nv⟩ | ⟨v,nv⟩
  ·replace h:=(exN nv).symm.trans h
   refine T2 ?_
   (with_reducible apply H8 []);exact(G1 k2).err nv;exact rfl;exact eK;exact rfl;exact .inl ⟨rfl,rfl,rfl⟩;(iterate 4 exact rfl);exact .nil;exact rfl
   intro cnt
   obtain rfl:=sI h
   exact M3 (L:=B6X d []) (κ:=[0,1,2,3,4,5]) (vK (.cons R R B9x) R) (.inr ⟨_,R,R⟩)
  replace h:=(exO nv).symm.trans h
  refine G7 (t' := .d (.tup [])) (ls:=[]) (news:=[]) ([]) (B6X d [bx 9 (.d (E0.d x))]) ((G1 k2).ok nv) eK R (.inl ⟨R,R,R⟩) R R R R .nil R R R .nil .nil R R R R (R2 ?_)
  obtain rfl:=sI h
  exact A1R (U0 (t := .d (.tup [])) (L:=B6X d []) (κ:=[0,1,2,3,4,5]) R .nil (vK (.cons R R B9x) R) (.inl ⟨_,R,R,R⟩))
 intro c
 replace h:=ifF c h
 refine Z9 R R R (A0 R (L9 7 R (D6 R ?_)))
 obtain⟨rv3,k3,h⟩:=H1 h
 rcases M7 rv3 with⟨x3,nv2⟩ | ⟨v2,nv2⟩
 ·replace h:=(exN nv2).symm.trans h
  refine T2 ?_
  (with_reducible apply H8 []);exact(G1 k3).err nv2;exact rfl;exact eK;exact rfl;exact .inl ⟨rfl,rfl,rfl⟩;(iterate 4 exact rfl);exact .nil;exact rfl
  intro cnt
  obtain rfl:=sI h
  exact M3 (L:=B6X d []) (κ:=[0,1,2,3,4,5]) (vK (.cons R R B9x) R) (.inr ⟨_,R,R⟩)
 replace h:=(exO nv2).symm.trans h
 refine G7 (t' := .d (.tup [])) (ls:=[]) (news:=[]) ([]) (B6X d [bx 9 (.d (E0.d x))]) ((G1 k3).ok nv2) eK R (.inl ⟨R,R,R⟩) R R R R .nil R R R .nil .nil R R R R (R2 ?_)
 obtain rfl:=sI h
 exact A1R (U0 (t := .d (.tup [])) (L:=B6X d []) (κ:=[0,1,2,3,4,5]) R .nil (vK (.cons R R B9x) R) (.inl ⟨_,R,R,R⟩))
def Q5 (F:Nat) (d:F7) (x:E0) (others:(List Int)) (K:Int→Option (Except Int F7)):Nat→Int→Option (Except Int F7)
 | 0,_=>none
 | n+1,x2=>if x2<(x.use_.length:Int)then((P3 x.use_ x2).bind fun e=>(P3 d.A7 e).bind fun e2=>if 0<e2 then((P3 d.B0 e).bind fun e3=>if e3=true then((P4 F true 185).bind fun rv=>exE rv (fun x3=>some (.error x3)) (fun v=>Q5 F d x others K n (W (x2+1))))else((S9 F others e).bind fun rv2=>(P4 F rv2 185).bind fun rv3=>exE rv3 (fun x4=>some (.error x4)) (fun v2=>Q5 F d x others K n (W (x2+1)))))else((P4 F false 185).bind fun rv4=>exE rv4 (fun x5=>some (.error x5)) (fun v3=>none)))else(K x2)
def X7 (F:Nat) (d:F7) (x:E0) (others:(List Int)):Option (Except Int F7):=Q5 F d x others (fun(x2:Int)=>some (.ok d)) F 0
theorem A3v {F:Nat} {d:F7} {x:E0} {others:(List Int)} {r:(Except Int F7)} (h:X7 F d x others=some r):SCX Tryz.prog 173 [.ref 0 26 0 0,.d (E0.d x),.d (.arr 1 ((others).map vI))] (B6X d []) r 43 (fun(a:F7) => .d (.tup [])) (fun(a:F7)=>(B6X a [])):=by
 rw[X7]at h
 refine SC.of_sw Tryz.func173 R R R ?_
 dsimp only[L8,List.map]
 refine qG (M9 R (eN (qG (C8 tb R (B5 (y := .arr 1 ((x.use_).map vI)) tb R (I7 tb R (A0 R (eN (E3 ?_)))))))))
 obtain⟨K2,hK2,h⟩:∃ K,K=_∧Q5 F d x others K F 0=some r:=⟨_,rfl,h⟩
 refine M2 (st0:=⟨[(0,.ref 0 26 0 0),(2,.d (.arr 1 ((others).map vI))),(9,.d (.arr 1 ((x.use_).map vI))),(10,.d (vI (x.use_.length:Int))),(11,.d (vI 0))],B6X d []⟩) (fun m st=>∃ (x2:Int),Q5 F d x others K2 m x2=some r∧st=⟨[(0,.ref 0 26 0 0),(2,.d (.arr 1 ((others).map vI))),(9,.d (.arr 1 ((x.use_).map vI))),(10,.d (vI (x.use_.length:Int))),(11,.d (vI x2))],B6X d []⟩) (.vw (κ:=[0,1,2,3,4,5]) (vK (.cons R R B9x) R)) ⟨0,h,R⟩ ?_
 clear h
 rintro m2 st ⟨x2,h,rfl⟩
 cases m2 with
 | zero=>cases(show(none:Option (Except Int F7))=some r from h)
 | succ m2 =>
 rw[Q5]at h
 refine qG ?_
 refine Q4 R R R R ?_ ?_
 ·intro c
  replace h:=J7 c h
  refine eN (B8 (C0 R (D7 (A6 (B8 (E3 (qG ?_)))))))
  obtain⟨e,ie,h⟩:=H1 h
  refine N8 tb (F0 ie) (V1 ie) R (I4 (y:=vI e) tb (U5 (g:=vI) ie) R (A3 R (eN (X0 (G4 R R R (F1 R R R (C8 tb R (C8 tb R (W4 tb R R R R R R R R R (A0 R ?_))))))))))
  obtain⟨e2,ie2,h⟩:=H1 h
  refine Y1 tb R R R R R R (F0 ie2) (ix1 ie2) R R ?_
  refine A15 (y:=vI e2) tb R R R R (U5 (g:=fun a=>T.d (vI a)) ie2) R R R R ?_
  refine A4l R R R R ?_ ?_
  ·intro c2
   replace h:=J7 c2 h
   refine A0 R (G4 R R R (F1 R R R (C8 tb R (C8 tb R (W4 tb R R R R R R R R R (A0 R ?_))))))
   obtain⟨e3,ie3,h⟩:=H1 h
   refine Y1 tb R R R R R R (F0 ie3) (ix1 ie3) R R ?_
   refine A15 (y := .v (.bool e3)) tb R R R R (U5 (g:=fun a=>T.d (vB a)) ie3) R R R R ?_
   with_reducible apply X8
   ·intro c3
    replace h:=J7 c3 h
    refine A0 R (L9 3 R (D6 R (D6 R ?_)))
    obtain⟨rv,k,h⟩:=H1 h
    rcases M7 rv with⟨x3,nv⟩ | ⟨v,nv⟩
    ·replace h:=(exN nv).symm.trans h
     refine T2 ?_
     (with_reducible apply H8 []);exact(G1 k).err nv;exact rfl;exact eK;exact rfl;exact .inl ⟨rfl,rfl,rfl⟩;(iterate 4 exact rfl);exact .nil;exact rfl
     intro cnt
     refine Q0 (E9 (E9 (Q0 ?_)))
     obtain rfl:=sI h
     exact M3 (L:=B6X d []) (κ:=[0,1,2,3,4,5]) (vK (.cons R R B9x) R) (.inr ⟨_,R,R⟩)
    replace h:=(exO nv).symm.trans h
    refine G7 (t' := .d (.tup [])) (ls:=[]) (news:=[]) ([]) (B6X d []) ((G1 k).ok nv) eK R (.inl ⟨R,R,R⟩) R R R R .nil R R R .nil .nil R R R R (R2 (D3 (A6 (J1 (O1 R (A0 R (eN ?_)))))))
    exact⟨m2,_,lS,.prn [0,2,9,10,11] R,(W (x2+1)),h,R⟩
   intro c3
   replace h:=ifF c3 h
   refine A0 R (A0 R (A0 R ?_))
   obtain⟨rv2,k2,h⟩:=H1 h
   refine J5 (A1g k2) eK R R R R (D0 R (D6 R ?_))
   obtain⟨rv3,k3,h⟩:=H1 h
   rcases M7 rv3 with⟨x4,nv2⟩ | ⟨v2,nv2⟩
   ·replace h:=(exN nv2).symm.trans h
    refine T2 ?_
    (with_reducible apply H8 []);exact(G1 k3).err nv2;exact rfl;exact eK;exact rfl;exact .inl ⟨rfl,rfl,rfl⟩;(iterate 4 exact rfl);exact .nil;exact rfl
    intro cnt
    refine Q0 (E9 (E9 (Q0 ?_)))
    obtain rfl:=sI h
    exact M3 (L:=B6X d []) (κ:=[0,1,2,3,4,5]) (vK (.cons R R B9x) R) (.inr ⟨_,R,R⟩)
   replace h:=(exO nv2).symm.trans h
   refine G7 (t' := .d (.tup [])) (ls:=[]) (news:=[]) ([]) (B6X d []) ((G1 k3).ok nv2) eK R (.inl ⟨R,R,R⟩) R R R R .nil R R R .nil .nil R R R R (R2 (D3 (A6 (J1 (O1 R (A0 R (eN ?_)))))))
   exact⟨m2,_,lS,.prn [0,2,9,10,11] R,(W (x2+1)),h,R⟩
  intro c2
  replace h:=P1 (nL c2) h
  refine A0 R (L9 13 R (D0 R ?_))
  obtain⟨rv4,k4,h⟩:=H1 h
  rcases M7 rv4 with⟨x5,nv3⟩ | ⟨v3,nv3⟩
  ·replace h:=(exN nv3).symm.trans h
   refine T2 ?_
   (with_reducible apply H8 []);exact(G1 k4).err nv3;exact rfl;exact eK;exact rfl;exact .inl ⟨rfl,rfl,rfl⟩;(iterate 4 exact rfl);exact .nil;exact rfl
   intro cnt
   refine Q0 (E9 (E9 (Q0 ?_)))
   obtain rfl:=sI h
   exact M3 (L:=B6X d []) (κ:=[0,1,2,3,4,5]) (vK (.cons R R B9x) R) (.inr ⟨_,R,R⟩)
  replace h:=(exO nv3).symm.trans h
  cases h
 intro c
 replace h:=P1 (nL c) h
 refine eN (B8 (C1 R (N5 (E4 (E4 ?_)))))
 subst hK2
 refine I5 ?_
 obtain rfl:=sI h
 exact A1R (U0 (t := .d (.tup [])) (L:=B6X d []) (κ:=[0,1,2,3,4,5]) R .nil (vK (.cons R R B9x) R) (.inl ⟨_,R,R,R⟩))
def P2 (F:Nat) (d:F7) (x:E0) (K:Int→Option (Except Int F7)):Nat→Int→Option (Except Int F7)
 | 0,_=>none
 | n+1,x2=>if x2<(x.use_.length:Int)then((P3 x.use_ x2).bind fun e=>(P3 d.A7 e).bind fun e2=>if 0<e2 then((P3 d.B0 e).bind fun e3=>if e3=true then((P4 F true 185).bind fun rv=>exE rv (fun x3=>some (.error x3)) (fun v=>P2 F d x K n (W (x2+1))))else((S9 F [] e).bind fun rv2=>(P4 F rv2 185).bind fun rv3=>exE rv3 (fun x4=>some (.error x4)) (fun v2=>P2 F d x K n (W (x2+1)))))else((P4 F false 185).bind fun rv4=>exE rv4 (fun x5=>some (.error x5)) (fun v3=>none)))else(K x2)
def Y6 (F:Nat) (d:F7) (x:E0):Option (Except Int F7):=P2 F d x (fun(x2:Int)=>some (.ok d)) F 0
theorem A3b {F:Nat} {d:F7} {x:E0} {r:(Except Int F7)} (h:Y6 F d x=some r):SCX Tryz.prog 173 [.ref 0 26 0 0,.d (E0.d x),.d (.v (.slice none 0 0))] (B6X d []) r 43 (fun(a:F7) => .d (.tup [])) (fun(a:F7)=>(B6X a [])):=by
 rw[Y6]at h
 refine SC.of_sw Tryz.func173 R R R ?_
 dsimp only[L8,List.map]
 refine qG (M9 R (eN (qG (C8 tb R (B5 (y := .arr 1 ((x.use_).map vI)) tb R (I7 tb R (A0 R (eN (E3 ?_)))))))))
 obtain⟨K2,hK2,h⟩:∃ K,K=_∧P2 F d x K F 0=some r:=⟨_,rfl,h⟩
 refine M2 (st0:=⟨[(0,.ref 0 26 0 0),(2,.d (.v (.slice none 0 0))),(9,.d (.arr 1 ((x.use_).map vI))),(10,.d (vI (x.use_.length:Int))),(11,.d (vI 0))],B6X d []⟩) (fun m st=>∃ (x2:Int),P2 F d x K2 m x2=some r∧st=⟨[(0,.ref 0 26 0 0),(2,.d (.v (.slice none 0 0))),(9,.d (.arr 1 ((x.use_).map vI))),(10,.d (vI (x.use_.length:Int))),(11,.d (vI x2))],B6X d []⟩) (.vw (κ:=[0,1,2,3,4,5]) (vK (.cons R R B9x) R)) ⟨0,h,R⟩ ?_
 clear h
 rintro m2 st ⟨x2,h,rfl⟩
 cases m2 with
 | zero=>cases(show(none:Option (Except Int F7))=some r from h)
 | succ m2 =>
 rw[P2]at h
 refine qG ?_
 refine Q4 R R R R ?_ ?_
 ·intro c
  replace h:=J7 c h
  refine eN (B8 (C0 R (D7 (A6 (B8 (E3 (qG ?_)))))))
  obtain⟨e,ie,h⟩:=H1 h
  refine N8 tb (F0 ie) (V1 ie) R (I4 (y:=vI e) tb (U5 (g:=vI) ie) R (A3 R (eN (X0 (G4 R R R (F1 R R R (C8 tb R (C8 tb R (W4 tb R R R R R R R R R (A0 R ?_))))))))))
  obtain⟨e2,ie2,h⟩:=H1 h
  refine Y1 tb R R R R R R (F0 ie2) (ix1 ie2) R R ?_
  refine A15 (y:=vI e2) tb R R R R (U5 (g:=fun a=>T.d (vI a)) ie2) R R R R ?_
  refine A4l R R R R ?_ ?_
  ·intro c2
   replace h:=J7 c2 h
   refine A0 R (G4 R R R (F1 R R R (C8 tb R (C8 tb R (W4 tb R R R R R R R R R (A0 R ?_))))))
   obtain⟨e3,ie3,h⟩:=H1 h
   refine Y1 tb R R R R R R (F0 ie3) (ix1 ie3) R R ?_
   refine A15 (y := .v (.bool e3)) tb R R R R (U5 (g:=fun a=>T.d (vB a)) ie3) R R R R ?_
   with_reducible apply X8
   ·intro c3
    replace h:=J7 c3 h
    refine A0 R (L9 3 R (D6 R (D6 R ?_)))
    obtain⟨rv,k,h⟩:=H1 h
    rcases M7 rv with⟨x3,nv⟩ | ⟨v,nv⟩
    ·replace h:=(exN nv).symm.trans h
     refine T2 ?_
     (with_reducible apply H8 []);exact(G1 k).err nv;exact rfl;exact eK;exact rfl;exact .inl ⟨rfl,rfl,rfl⟩;(iterate 4 exact rfl);exact .nil;exact rfl
     intro cnt
     refine Q0 (E9 (E9 (Q0 ?_)))
     obtain rfl:=sI h
     exact M3 (L:=B6X d []) (κ:=[0,1,2,3,4,5]) (vK (.cons R R B9x) R) (.inr ⟨_,R,R⟩)
    replace h:=(exO nv).symm.trans h
    refine G7 (t' := .d (.tup [])) (ls:=[]) (news:=[]) ([]) (B6X d []) ((G1 k).ok nv) eK R (.inl ⟨R,R,R⟩) R R R R .nil R R R .nil .nil R R R R (R2 (D3 (A6 (J1 (O1 R (A0 R (eN ?_)))))))
    exact⟨m2,_,lS,.prn [0,2,9,10,11] R,(W (x2+1)),h,R⟩
   intro c3
   replace h:=ifF c3 h
   refine A0 R (A0 R (A0 R ?_))
   obtain⟨rv2,k2,h⟩:=H1 h
   refine A19 (A1g k2) R eK R R ((.cons .nilA (dL .nil))) R R (D0 R (D6 R ?_))
   obtain⟨rv3,k3,h⟩:=H1 h
   rcases M7 rv3 with⟨x4,nv2⟩ | ⟨v2,nv2⟩
   ·replace h:=(exN nv2).symm.trans h
    refine T2 ?_
    (with_reducible apply H8 []);exact(G1 k3).err nv2;exact rfl;exact eK;exact rfl;exact .inl ⟨rfl,rfl,rfl⟩;(iterate 4 exact rfl);exact .nil;exact rfl
    intro cnt
    refine Q0 (E9 (E9 (Q0 ?_)))
    obtain rfl:=sI h
    exact M3 (L:=B6X d []) (κ:=[0,1,2,3,4,5]) (vK (.cons R R B9x) R) (.inr ⟨_,R,R⟩)
   replace h:=(exO nv2).symm.trans h
   refine G7 (t' := .d (.tup [])) (ls:=[]) (news:=[]) ([]) (B6X d []) ((G1 k3).ok nv2) eK R (.inl ⟨R,R,R⟩) R R R R .nil R R R .nil .nil R R R R (R2 (D3 (A6 (J1 (O1 R (A0 R (eN ?_)))))))
   exact⟨m2,_,lS,.prn [0,2,9,10,11] R,(W (x2+1)),h,R⟩
  intro c2
  replace h:=P1 (nL c2) h
  refine A0 R (L9 13 R (D0 R ?_))
  obtain⟨rv4,k4,h⟩:=H1 h
  rcases M7 rv4 with⟨x5,nv3⟩ | ⟨v3,nv3⟩
  ·replace h:=(exN nv3).symm.trans h
   refine T2 ?_
   (with_reducible apply H8 []);exact(G1 k4).err nv3;exact rfl;exact eK;exact rfl;exact .inl ⟨rfl,rfl,rfl⟩;(iterate 4 exact rfl);exact .nil;exact rfl
   intro cnt
   refine Q0 (E9 (E9 (Q0 ?_)))
   obtain rfl:=sI h
   exact M3 (L:=B6X d []) (κ:=[0,1,2,3,4,5]) (vK (.cons R R B9x) R) (.inr ⟨_,R,R⟩)
  replace h:=(exO nv3).symm.trans h
  cases h
 intro c
 replace h:=P1 (nL c) h
 refine eN (B8 (C1 R (N5 (E4 (E4 ?_)))))
 subst hK2
 refine I5 ?_
 obtain rfl:=sI h
 exact A1R (U0 (t := .d (.tup [])) (L:=B6X d []) (κ:=[0,1,2,3,4,5]) R .nil (vK (.cons R R B9x) R) (.inl ⟨_,R,R,R⟩))
def Y5 (F:Nat) (d:F7) (i:Int):Option Bool:=(P3 d.A5 i).bind fun e=>some (decide (0≤e))
theorem A1s {F:Nat} {d:F7} {i:Int} {r:Bool} (h:Y5 F d i=some r):PC Tryz.prog 89 [.el 26 (([d]).map F7.d) ((0:Int)).toNat 0,.v (.int .i64 i)] (.v (.bool r)):=by
 rw[Y5]at h
 refine SC.of_sw Tryz.func89 R R R ?_
 dsimp only[L8,List.map]
 refine qG (A3 R (eN (qG (A0 R (S2 R R R (M4 tb R (M4 tb R (I4 (y := .arr 1 ((d.A5).map vI)) tb (U5 (g:=F7.d) (R:P3 [d] 0=some d)) R (A0 R ?_)))))))))
 obtain⟨e,ie,h⟩:=H1 h
 refine N8 tb (F0 ie) (V1 ie) R (I4 (y:=vI e) tb (U5 (g:=vI) ie) R (A3k R R R R (A3 R (eN (C9 ?_)))))
 obtain rfl:=sI h
 exact f1 4 R
def A0R (F:Nat) (d:F7) (i:Int):Option Bool:=(P3 d.A1 i).bind fun e=>if 0≤e then((Y5 F d i).bind fun rv=>some (!rv))else(some false)
theorem A38 {F:Nat} {d:F7} {i:Int} {r:Bool} (h:A0R F d i=some r):PC Tryz.prog 91 [.el 26 (([d]).map F7.d) ((0:Int)).toNat 0,.v (.int .i64 i)] (.v (.bool r)):=by
 rw[A0R]at h
 refine SC.of_sw Tryz.func91 R R R ?_
 dsimp only[L8,List.map]
 refine qG (A3 R (eN (qG (A0 R (S2 R R R (M4 tb R (M4 tb R (I4 (y := .arr 1 ((d.A1).map vI)) tb (U5 (g:=F7.d) (R:P3 [d] 0=some d)) R (A0 R ?_)))))))))
 obtain⟨e,ie,h⟩:=H1 h
 refine N8 tb (F0 ie) (V1 ie) R (I4 (y:=vI e) tb (U5 (g:=vI) ie) R ?_)
 refine A7I R R R R ?_ ?_
 ·intro c
  replace h:=J7 c h
  refine A0 R (A0 R (A0 R ?_))
  obtain⟨rv,k,h⟩:=H1 h
  refine J5 (A1s k) eK R R R R (A5R R R R (D6 R (A3 R (eN (C9 ?_)))))
  obtain rfl:=sI h
  exact f1 4 R
 intro c
 replace h:=P1 (Int.not_le.2 c) h
 refine A0 R (L9 4 R (D0 R (A3 R (eN (C9 ?_)))))
 obtain rfl:=sI h
 exact f1 4 R
def U8 (F:Nat) (d:F7):Option Int:=some (W ((d.F8.length:Int)-1))
theorem A0i {F:Nat} {d:F7} {r:Int} (h:U8 F d=some r):PC Tryz.prog 90 [.el 26 (([d]).map F7.d) ((0:Int)).toNat 0] (.v (.int .i64 r)):=by
 rw[U8]at h
 refine SC.of_sw Tryz.func90 R R R ?_
 dsimp only[L8,List.map]
 refine qG (A3 R (eN (qG (A0 R (S2 R R R (M4 tb R (M4 tb R (I4 (y := .arr 9 ((d.F8).map E0.d)) tb (U5 (g:=F7.d) (R:P3 [d] 0=some d)) R (I7 tb R (A1n R R R R (A3 R (eN (C9 ?_)))))))))))))
 obtain rfl:=sI h
 exact f1 2 R
def P8 (F:Nat) (e:E0) (K:(List Bool)→Int→Option (Except Int F7)):Nat→(List Bool)→Int→Option (Except Int F7)
 | 0,_,_=>none
 | n+1,t2,x7=>if x7<(e.on_.length:Int)then((P3 e.on_ x7).bind fun e5=>(P3 t2 e5).bind fun e6=>(A5g t2 e5 true).bind fun t3=>P8 F e K n t3 (W (x7+1)))else(K t2 x7)
def T4 (F:Nat) (t:F7) (e:E0) (K:Int→Option (Except Int F7)):Nat→Int→Option (Except Int F7)
 | 0,_=>none
 | n+1,x2=>if x2<(e.need.length:Int)then((P3 e.need x2).bind fun e3=>(Y5 F t e3).bind fun rv2=>(P4 F rv2 182).bind fun rv3=>exE rv3 (fun x3=>some (.error x3)) (fun v2=>T4 F t e K n (W (x2+1))))else(K x2)
def A0X (F:Nat) (t:F7) (o:C7):Option (Except Int F7):=(P3 t.F8 o.what).bind fun e=>(P3 t.A1 o.what).bind fun e2=>(P4 F (decide (e2<0)) 181).bind fun rv=>exE rv (fun x=>some (.error x)) (fun v=>T4 F t e (fun(x2:Int)=>(P4 F (!t.F9) 183).bind fun rv4=>exE rv4 (fun x4=>some (.error x4)) (fun v3=>(Z4 F t e).bind fun rv5=>exE rv5 (fun x5=>some (.error x5)) (fun v4=>(X7 F v4 e e.on_).bind fun rv6=>exE rv6 (fun x6=>some (.error x6)) (fun v5=>(P3 v5.A1 o.what).bind fun e4=>(A5g v5.A1 o.what o.at_).bind fun q=>P8 F e (fun(t2:(List Bool)) (x7:Int)=>some (.ok {v5 with A1:=q,B0:=t2})) F v5.B0 0)))) F 0)
theorem A3H {F:Nat} {t:F7} {o:C7} {r:(Except Int F7)} (h:A0X F t o=some r):SCX Tryz.prog 100 [.ref 0 26 0 0,.d (C7.d o)] (B6X t []) r 43 (fun(a:F7) => .d (.tup [])) (fun(a:F7)=>(B6X a [])):=by
 rw[A0X]at h
 refine SC.of_sw Tryz.func100 R R R ?_
 dsimp only[L8,List.map]
 refine qG (M9 R (eN (B8 (T1 kR (G4 R R R (F1 R R R (C8 tb R (C8 tb R (B5 (y := .arr 9 ((t.F8).map E0.d)) tb R (C8 tb R (B5 (y:=vI o.what) tb R ?_)))))))))))
 obtain⟨e,ie,h⟩:=H1 h
 refine N8 tb (F0 ie) (V1 ie) R (I4 (y:=E0.d e) tb (U5 (g:=E0.d) ie) R (M5 tb R R R R R (I6 _ _ tb R (I0 kR (A6 (B8 (A0V kR (G4 R R R (F1 R R R (C8 tb R (C8 tb R (W4 tb R R R R R R R R R (C8 tb R (B5 (y:=vI o.what) tb R ?_))))))))))))))
 obtain⟨e2,ie2,h⟩:=H1 h
 refine Y1 tb R R R R R R (F0 ie2) (ix1 ie2) R R ?_
 refine A15 (y:=vI e2) tb R R R R (U5 (g:=fun a=>T.d (vI a)) ie2) R R R R ?_
 refine B8b R R R R ?_
 obtain⟨rv,k,h⟩:=H1 h
 rcases M7 rv with⟨x,nv⟩ | ⟨v,nv⟩
 ·replace h:=(exN nv).symm.trans h
  refine P0 kR kR ?_
  (with_reducible apply H8 []);exact(G1 k).err nv;exact rfl;exact eK;exact rfl;exact .inl ⟨rfl,rfl,rfl⟩;(iterate 4 exact rfl);exact .nil;exact rfl
  intro cnt
  refine E9 ?_
  obtain rfl:=sI h
  exact M3 (L:=B6X t []) (κ:=[0,1,2,3,4,5]) (vK (.cons R R B9x) R) (.inr ⟨_,R,R⟩)
 replace h:=(exO nv).symm.trans h
 refine G7 (t' := .d (.tup [])) (ls:=[]) (news:=[]) ([]) (B6X t [bx 8 (.d (C7.d o)),bx 9 (.d (E0.d e))]) ((G1 k).ok nv) eK R (.inl ⟨R,R,R⟩) R R R R .nil R R R .nil .nil R R R R (N0 kR (A6 (B8 (qG (C8 tb R (B5 (y := .arr 1 ((e.need).map vI)) tb R (I7 tb R (A0 R (eN ?_)))))))))
 refine E3 ?_
 obtain⟨K3,hK3,h⟩:∃ K,K=_∧T4 F t e K F 0=some r:=⟨_,rfl,h⟩
 refine M2 (fun m st=>∃ (x2:Int),T4 F t e K3 m x2=some r∧st=⟨[(0,.ref 0 26 0 0),(3,.ref 6 8 0 0),(4,.ref 7 9 0 0),(30,.d (.arr 1 ((e.need).map vI))),(31,.d (vI (e.need.length:Int))),(32,.d (vI x2))],B6X t [bx 8 (.d (C7.d o)),bx 9 (.d (E0.d e))]⟩) (.prn [0,3,4,30,31,32] R) ⟨0,h,R⟩ ?_
 clear h
 rintro m3 st ⟨x2,h,rfl⟩
 cases m3 with
 | zero=>cases(show(none:Option (Except Int F7))=some r from h)
 | succ m3 =>
 rw[T4]at h
 refine qG ?_
 refine Q4 R R R R ?_ ?_
 ·intro c
  replace h:=J7 c h
  refine eN (B8 (C0 R (D7 (A6 (B8 (E3 (qG ?_)))))))
  obtain⟨e3,ie3,h⟩:=H1 h
  refine N8 tb (F0 ie3) (V1 ie3) R (I4 (y:=vI e3) tb (U5 (g:=vI) ie3) R (A3 R (eN (X0 (G4 R R R (A0 R ?_))))))
  obtain⟨rv2,k2,h⟩:=H1 h
  refine A19 (A1s k2) R eK R R ((.cons (.ref R (.aggL (dL (dL (dL (dL (dL (dL (dL (dL (dL (dL (dL (dL (dL (dL (dL (dL (dL (dL (dL (dL (.cons (.row R R) (.cons (.row R R) (dL (.cons (.row R R) (.cons (.row R R) (.cons (.row R R) .nil)))))))))))))))))))))))))))) (dL .nil))) R R ?_
  obtain⟨rv3,k3,h⟩:=H1 h
  rcases M7 rv3 with⟨x3,nv2⟩ | ⟨v2,nv2⟩
  ·replace h:=(exN nv2).symm.trans h
   refine T2 ?_
   (with_reducible apply H8 []);exact(G1 k3).err nv2;exact rfl;exact eK;exact rfl;exact .inl ⟨rfl,rfl,rfl⟩;(iterate 4 exact rfl);exact .nil;exact rfl
   intro cnt
   refine Q0 (E9 (E9 (Q0 (E9 ?_))))
   obtain rfl:=sI h
   exact M3 (L:=B6X t []) (κ:=[0,1,2,3,4,5]) (vK (.cons R R B9x) R) (.inr ⟨_,R,R⟩)
  replace h:=(exO nv2).symm.trans h
  refine G7 (t' := .d (.tup [])) (ls:=[]) (news:=[]) ([]) (B6X t [bx 8 (.d (C7.d o)),bx 9 (.d (E0.d e))]) ((G1 k3).ok nv2) eK R (.inl ⟨R,R,R⟩) R R R R .nil R R R .nil .nil R R R R (R2 (D3 (A6 (J1 (O1 R (A0 R (eN ?_)))))))
  exact⟨m3,_,lS,.prn [0,3,4,30,31,32] R,(W (x2+1)),h,R⟩
 intro c
 replace h:=P1 (nL c) h
 refine eN (B8 (C1 R (N5 (E4 (E4 ?_)))))
 subst hK3
 refine I5 (A6 (B8 (X0 (G4 R R R (F1 R R R (C8 tb R (C8 tb R (B5 (y := .v (.bool t.F9)) tb R (A5R R R R ?_)))))))))
 obtain⟨rv4,k4,h⟩:=H1 h
 rcases M7 rv4 with⟨x4,nv3⟩ | ⟨v3,nv3⟩
 ·replace h:=(exN nv3).symm.trans h
  refine T2 ?_
  (with_reducible apply H8 []);exact(G1 k4).err nv3;exact rfl;exact eK;exact rfl;exact .inl ⟨rfl,rfl,rfl⟩;(iterate 4 exact rfl);exact .nil;exact rfl
  intro cnt
  refine E9 ?_
  obtain rfl:=sI h
  exact M3 (L:=B6X t []) (κ:=[0,1,2,3,4,5]) (vK (.cons R R B9x) R) (.inr ⟨_,R,R⟩)
 replace h:=(exO nv3).symm.trans h
 refine G7 (t' := .d (.tup [])) (ls:=[]) (news:=[]) ([]) (B6X t [bx 8 (.d (C7.d o)),bx 9 (.d (E0.d e))]) ((G1 k4).ok nv3) eK R (.inl ⟨R,R,R⟩) R R R R .nil R R R .nil .nil R R R R (R2 (A6 (B8 (X0 (G4 R R R (B5 (y:=E0.d e) tb R ?_))))))
 obtain⟨rv5,k5,h⟩:=H1 h
 rcases M7 rv5 with⟨x5,nv4⟩ | ⟨v4,nv4⟩
 ·replace h:=(exN nv4).symm.trans h
  refine T2 ?_
  (with_reducible apply H8 [0,1,2,3,4,5]);exact(A0J k5).err nv4;exact rfl;exact eK;exact rfl;exact .inl ⟨rfl,rfl,rfl⟩;(iterate 4 exact rfl);exact(.cons rfl rfl C25);exact rfl
  intro cnt
  refine E9 ?_
  obtain rfl:=sI h
  exact M3 (L:=[none,none,none,none,none,none]) (κ:=[0,1,2,3,4,5]) (vK (.gone R (.gone R (.gone R (.gone R (.gone R (.gone R .nil)))))) R) (.inr ⟨_,R,R⟩)
 replace h:=(exO nv4).symm.trans h
 refine G7 (t' := .d (.tup [])) (ls:=B6X v4 []) (news:=[]) ([0,1,2,3,4,5]) (B6X v4 [bx 8 (.d (C7.d o)),bx 9 (.d (E0.d e))]) ((A0J k5).ok nv4) eK R (.inl ⟨R,R,R⟩) R R R R ((.cons R R C25)) R R R ((.cons R (.row (.row (.row (.row (.row .nil))))))) .nil R R R R ?_
 refine R2 (A6 (B8 (X0 (G4 R R R (B5 (y:=E0.d e) tb R (C8 tb R (B5 (y := .arr 1 ((e.on_).map vI)) tb R ?_)))))))
 obtain⟨rv6,k6,h⟩:=H1 h
 rcases M7 rv6 with⟨x6,nv5⟩ | ⟨v5,nv5⟩
 ·replace h:=(exN nv5).symm.trans h
  refine T2 ?_
  (with_reducible apply H8 [0,1,2,3,4,5]);exact(A3v k6).err nv5;exact rfl;exact eK;exact rfl;exact .inl ⟨rfl,rfl,rfl⟩;(iterate 4 exact rfl);exact(.cons rfl rfl C25);exact rfl
  intro cnt
  refine E9 ?_
  obtain rfl:=sI h
  exact M3 (L:=[none,none,none,none,none,none]) (κ:=[0,1,2,3,4,5]) (vK (.gone R (.gone R (.gone R (.gone R (.gone R (.gone R .nil)))))) R) (.inr ⟨_,R,R⟩)
 replace h:=(exO nv5).symm.trans h
 refine G7 (t' := .d (.tup [])) (ls:=B6X v5 []) (news:=[]) ([0,1,2,3,4,5]) (B6X v5 [bx 8 (.d (C7.d o)),bx 9 (.d (E0.d e))]) ((A3v k6).ok nv5) eK R (.inl ⟨R,R,R⟩) R R R R ((.cons R R C25)) R R R ((.cons R (.row (.row (.row (.row (.row .nil))))))) .nil R R R R ?_
 refine R2 (A6 (B8 (T1 kR (G4 R R R (F1 R R R (C8 tb R (C8 tb R (W4 tb R R R R R R R R R (C8 tb R (B5 (y:=vI o.what) tb R (C8 tb R (B5 (y:=vI o.at_) tb R ?_))))))))))))
 obtain⟨e4,ie4,h⟩:=H1 h
 refine Y1 tb R R R R R R (F0 ie4) (ix1 ie4) R R ?_
 obtain⟨q,iq,h⟩:=H1 h
 refine A5d (a':=(o.at_:Int)) tb R R R R ie4 R R R R iq R R ?_
 dsimp only[List.set_cons_zero,List.set_cons_succ,J2,C6,A0h,C5]
 first | rw[A2a iq] | skip
 refine I0 kR (A6 (qG (C8 tb R (B5 (y := .arr 1 ((e.on_).map vI)) tb R (I7 tb R (A0 R (eN (E3 ?_))))))))
 obtain⟨K5,hK5,h⟩:∃ K,K=_∧P8 F e K F v5.B0 0=some r:=⟨_,rfl,h⟩
 refine M2 (st0:=⟨[(0,.ref 0 26 0 0),(67,.d (.arr 1 ((e.on_).map vI))),(68,.d (vI (e.on_.length:Int))),(69,.d (vI 0))],[bx 26 (C5 {v5 with A1:=q} 1 2 3 4 5),B0u q,B0u v5.A5,B9r v5.B1,B0u v5.A7,B9r v5.B0]⟩) (fun m st=>∃ (t2:(List Bool)) (x7:Int),P8 F e K5 m t2 x7=some r∧st=⟨[(0,.ref 0 26 0 0),(67,.d (.arr 1 ((e.on_).map vI))),(68,.d (vI (e.on_.length:Int))),(69,.d (vI x7))],[bx 26 (C5 {v5 with A1:=q,B0:=t2} 1 2 3 4 5),B0u q,B0u v5.A5,B9r v5.B1,B0u v5.A7,B9r t2]⟩) (.vw (κ:=[0,1,2,3,4,5]) (vK (.cons R R B9x) R)) ⟨v5.B0,0,h,R⟩ ?_
 clear h
 rintro m5 st ⟨t2,x7,h,rfl⟩
 cases m5 with
 | zero=>cases(show(none:Option (Except Int F7))=some r from h)
 | succ m5 =>
 rw[P8]at h
 refine qG ?_
 refine Q4 R R R R ?_ ?_
 ·intro c2
  replace h:=J7 c2 h
  refine eN (B8 (C0 R (D7 (A6 (B8 (E3 (qG ?_)))))))
  obtain⟨e5,ie5,h⟩:=H1 h
  refine N8 tb (F0 ie5) (V1 ie5) R (I4 (y:=vI e5) tb (U5 (g:=vI) ie5) R (A3 R (eN (J1 (G4 R R R (F1 R R R (C8 tb R (C8 tb R (W4 tb R R R R R R R R R (A0 R ?_))))))))))
  obtain⟨e6,ie6,h⟩:=H1 h
  refine Y1 tb R R R R R R (F0 ie6) (ix1 ie6) R R ?_
  obtain⟨t3,it3,h⟩:=H1 h
  refine A5d (a':=(true:Bool)) tb R R R R ie6 R R R R it3 R R ?_
  dsimp only[List.set_cons_zero,List.set_cons_succ,J2,C6,A0h,C5]
  first | rw[A2a it3] | skip
  refine Y9 (D3 (A6 (J1 (O1 R (A0 R (eN ?_))))))
  exact⟨m5,_,lS,.prn [0,67,68,69] R,t3,(W (x7+1)),h,R⟩
 intro c2
 replace h:=P1 (nL c2) h
 refine eN (B8 (C1 R (N5 (E4 (E4 ?_)))))
 subst hK5
 refine I5 ?_
 obtain rfl:=sI h
 exact A1R (U0 (t := .d (.tup [])) (L:=[bx 26 (C5 {v5 with A1:=q,B0:=t2} 1 2 3 4 5),B0u q,B0u v5.A5,B9r v5.B1,B0u v5.A7,B9r t2]) (κ:=[0,1,2,3,4,5]) R .nil (vK (.cons R R B9x) R) (.inl ⟨_,R,R,R⟩))
def A07 (F:Nat) (d:F7) (a:D2):Option (Except Int F7):=(A7D F (D5.mk d.H0 d.G8 d.G2 d.H4 d.G3 d.G9 d.H5) (C3.mk d.G5 d.F5 d.E8 d.E5 d.F3 d.F4) a).bind fun rv=>(P4 F (decide (rv.2=0)) rv.2).bind fun rv2=>exE rv2 (fun x=>some (.error x)) (fun v=>some (.ok {d with G5:=rv.1.now,F5:=rv.1.zones,E8:=rv.1.holder,E5:=rv.1.squibs,F3:=rv.1.siren,F4:=rv.1.storm}))
theorem A1M {F:Nat} {d:F7} {a:D2} {r:(Except Int F7)} (h:A07 F d a=some r):SCX Tryz.prog 174 [.ref 0 26 0 0,.d (D2.d a)] (B6X d []) r 43 (fun(a:F7) => .d (.tup [])) (fun(a:F7)=>(B6X a [])):=by
 rw[A07]at h
 refine SC.of_sw Tryz.func174 R R R ?_
 dsimp only[L8,List.map]
 refine qG (M9 R (eN (B8 (T1 kR (G4 R R R (F1 R R R (C8 tb R (C8 tb R (B5 (y := .agg [.arr 8 ((d.H0).map F6.d),.arr 2 ((d.G8).map G6.d),.arr 2 ((d.G2).map E2.d),.arr 1 ((d.H4).map vS),.arr 6 ((d.G3).map D1.d),vI d.G9,vI d.H5]) tb R (G4 R R R (F1 R R R (C8 tb R (C8 tb R ?_)))))))))))))
 refine B5 (y := .agg [vI d.G5,.arr 1 ((d.F5).map vI),.arr 1 ((d.E8).map vI),.arr 1 ((d.E5).map vI),vI d.F3,.v (.bool d.F4)]) tb R (B5 (y:=D2.d a) tb R ?_)
 obtain⟨rv,k,h⟩:=H1 h
 refine J5 (B6H k) eK R R R R (A0 R (Q1 (t:=C3.d rv.1) R R R R (Q1 (t:=vI rv.2) R R R R (M5 tb R R R R R (I6 _ _ tb R (A3 R (I0 kR (A6 (B8 (X0 (A0 R (A3s R R R R (A0 R ?_)))))))))))))
 obtain⟨rv2,k2,h⟩:=H1 h
 rcases M7 rv2 with⟨x,nv⟩ | ⟨v,nv⟩
 ·replace h:=(exN nv).symm.trans h
  refine T2 ?_
  (with_reducible apply H8 []);exact(G1 k2).err nv;exact rfl;exact eK;exact rfl;exact .inl ⟨rfl,rfl,rfl⟩;(iterate 4 exact rfl);exact .nil;exact rfl
  intro cnt
  refine E9 ?_
  obtain rfl:=sI h
  exact M3 (L:=B6X d []) (κ:=[0,1,2,3,4,5]) (vK (.cons R R B9x) R) (.inr ⟨_,R,R⟩)
 replace h:=(exO nv).symm.trans h
 refine G7 (t' := .d (.tup [])) (ls:=[]) (news:=[]) ([]) (B6X d [bx 5 (.d (D2.d a)),bx 6 (.d (C3.d rv.1))]) ((G1 k2).ok nv) eK R (.inl ⟨R,R,R⟩) R R R R .nil R R R .nil .nil R R R R (R2 (A6 (J1 (G4 R R R (B5 (y:=C3.d rv.1) tb R (F1 R R R (C8 tb R (C8 tb R ?_))))))))
 refine I6 _ ([bx 26 (C5 {d with G5:=rv.1.now,F5:=rv.1.zones,E8:=rv.1.holder,E5:=rv.1.squibs,F3:=rv.1.siren,F4:=rv.1.storm} 1 2 3 4 5),B0u d.A1,B0u d.A5,B9r d.B1,B0u d.A7,B9r d.B0,bx 5 (.d (D2.d a)),bx 6 (.d (C3.d rv.1))]) tb R (Y9 ?_)
 obtain rfl:=sI h
 exact A1R (U0 (t := .d (.tup [])) (L:=[bx 26 (C5 {d with G5:=rv.1.now,F5:=rv.1.zones,E8:=rv.1.holder,E5:=rv.1.squibs,F3:=rv.1.siren,F4:=rv.1.storm} 1 2 3 4 5),B0u d.A1,B0u d.A5,B9r d.B1,B0u d.A7,B9r d.B0]) (κ:=[0,1,2,3,4,5]) R .nil (vK (.cons R R B9x) R) (.inl ⟨_,R,R,R⟩))
def R6 (F:Nat) (e:E0) (K:(List Bool)→Int→Option (Except Int F7)):Nat→(List Bool)→Int→Option (Except Int F7)
 | 0,_,_=>none
 | n+1,t29,x9=>if x9<(e.off.length:Int)then((P3 e.off x9).bind fun e5=>(P3 t29 e5).bind fun e6=>(A5g t29 e5 false).bind fun t30=>R6 F e K n t30 (W (x9+1)))else(K t29 x9)
def A0k (F:Nat) (o:C7) (e:E0) (K:(List F6)→(List G6)→(List E2)→(List ByteArray)→(List D1)→Int→Int→(List ByteArray)→(List D9)→(List E0)→(List Int)→Int→Int→Int→Int→(List Int)→(List Int)→(List Int)→Int→Bool→(List Int)→(List Int)→Bool→(List Bool)→(List Int)→(List Bool)→Int→Option (Except Int F7)):Nat→(List F6)→(List G6)→(List E2)→(List ByteArray)→(List D1)→Int→Int→(List ByteArray)→(List D9)→(List E0)→(List Int)→Int→Int→Int→Int→(List Int)→(List Int)→(List Int)→Int→Bool→(List Int)→(List Int)→Bool→(List Bool)→(List Int)→(List Bool)→Int→Option (Except Int F7)
 | 0,_,_,_,_,_,_,_,_,_,_,_,_,_,_,_,_,_,_,_,_,_,_,_,_,_,_,_=>none
 | n+1,t2,t3,t4,t5,t6,t7,t8,t9,t10,t11,t12,t13,t14,t15,t16,t17,t18,t19,t20,t21,t22,t23,t24,t25,t26,t27,x7=>if x7<(e.acts.length:Int)then((P3 e.acts x7).bind fun e3=>(A07 F (F7.mk t2 t3 t4 t5 t6 t7 t8 t9 t10 t11 t12 t13 t14 t15 t16 t17 t18 t19 t20 t21 t22 t23 t24 t25 t26 t27) {e3 with at_:=o.at_}).bind fun rv11=>exE rv11 (fun x8=>some (.error x8)) (fun v7=>A0k F o e K n v7.H0 v7.G8 v7.G2 v7.H4 v7.G3 v7.G9 v7.H5 v7.H9 v7.E7 v7.F8 v7.I9 v7.D8 v7.G0 v7.H6 v7.G5 v7.F5 v7.E8 v7.E5 v7.F3 v7.F4 v7.A1 v7.A5 v7.F9 v7.B1 v7.A7 v7.B0 (W (x7+1))))else(K t2 t3 t4 t5 t6 t7 t8 t9 t10 t11 t12 t13 t14 t15 t16 t17 t18 t19 t20 t21 t22 t23 t24 t25 t26 t27 x7)
def A0j (F:Nat) (o:C7) (e:E0) (v4:F7):Option (Except Int F7):=A0k F o e (fun(t2:(List F6)) (t3:(List G6)) (t4:(List E2)) (t5:(List ByteArray)) (t6:(List D1)) (t7:Int) (t8:Int) (t9:(List ByteArray)) (t10:(List D9)) (t11:(List E0)) (t12:(List Int)) (t13:Int) (t14:Int) (t15:Int) (t16:Int) (t17:(List Int)) (t18:(List Int)) (t19:(List Int)) (t20:Int) (t21:Bool) (t22:(List Int)) (t23:(List Int)) (t24:Bool) (t25:(List Bool)) (t26:(List Int)) (t27:(List Bool)) (x7:Int)=>(P3 t23 o.what).bind fun e4=>(A5g t23 o.what o.at_).bind fun t28=>R6 F e (fun(t29:(List Bool)) (x9:Int)=>some (.ok (F7.mk t2 t3 t4 t5 t6 t7 t8 t9 t10 t11 t12 t13 t14 t15 t16 t17 t18 t19 t20 t21 t22 t28 t24 t25 t26 t29))) F t27 0) F v4.H0 v4.G8 v4.G2 v4.H4 v4.G3 v4.G9 v4.H5 v4.H9 v4.E7 v4.F8 v4.I9 v4.D8 v4.G0 v4.H6 v4.G5 v4.F5 v4.E8 v4.E5 v4.F3 v4.F4 v4.A1 v4.A5 v4.F9 v4.B1 v4.A7 v4.B0 0
def A1O (F:Nat) (t:F7) (o:C7):Option (Except Int F7):=(P3 t.F8 o.what).bind fun e=>(A0R F t o.what).bind fun rv=>(P4 F rv 181).bind fun rv2=>exE rv2 (fun x=>some (.error x)) (fun v=>(P3 t.A1 o.what).bind fun e2=>(Y7 F (W (o.at_-e2)) e.least e.most).bind fun rv3=>(P4 F (!rv3) 186).bind fun rv4=>exE rv4 (fun x2=>some (.error x2)) (fun v2=>(Z4 F t e).bind fun rv5=>exE rv5 (fun x3=>some (.error x3)) (fun v3=>(Y6 F v3 e).bind fun rv6=>exE rv6 (fun x4=>some (.error x4)) (fun v4=>(U8 F v4).bind fun rv7=>if o.what<rv7 then((P4 F true 187).bind fun rv8=>exE rv8 (fun x5=>some (.error x5)) (fun v5=>A0j F o e v4))else((Y7 F o.at_ v4.D8 v4.G0).bind fun rv9=>(P4 F (!rv9) 187).bind fun rv10=>exE rv10 (fun x6=>some (.error x6)) (fun v6=>A0j F o e v4))))))
theorem A4v {F:Nat} {t:F7} {o:C7} {r:(Except Int F7)} (h:A1O F t o=some r):SCX Tryz.prog 101 [.ref 0 26 0 0,.d (C7.d o)] (B6X t []) r 43 (fun(a:F7) => .d (.tup [])) (fun(a:F7)=>(B6X a [])):=by
 rw[A1O]at h
 refine SC.of_sw Tryz.func101 R R R ?_
 dsimp only[L8,List.map]
 refine qG (M9 R (eN (B8 (T1 kR (G4 R R R (F1 R R R (C8 tb R (C8 tb R (B5 (y := .arr 9 ((t.F8).map E0.d)) tb R (C8 tb R (B5 (y:=vI o.what) tb R ?_)))))))))))
 obtain⟨e,ie,h⟩:=H1 h
 refine N8 tb (F0 ie) (V1 ie) R (I4 (y:=E0.d e) tb (U5 (g:=E0.d) ie) R (M5 tb R R R R R (I6 _ _ tb R (I0 kR (A6 (B8 (X0 (G4 R R R (C8 tb R (B5 (y:=vI o.what) tb R ?_))))))))))
 obtain⟨rv,k,h⟩:=H1 h
 refine A19 (A38 k) R eK R R ((.cons (.ref R (.aggL (dL (dL (dL (dL (dL (dL (dL (dL (dL (dL (dL (dL (dL (dL (dL (dL (dL (dL (dL (dL (.cons (.row R R) (.cons (.row R R) (dL (.cons (.row R R) (.cons (.row R R) (.cons (.row R R) .nil)))))))))))))))))))))))))))) (dL .nil))) R R ?_
 obtain⟨rv2,k2,h⟩:=H1 h
 rcases M7 rv2 with⟨x,nv⟩ | ⟨v,nv⟩
 ·replace h:=(exN nv).symm.trans h
  refine T2 ?_
  (with_reducible apply H8 []);exact(G1 k2).err nv;exact rfl;exact eK;exact rfl;exact .inl ⟨rfl,rfl,rfl⟩;(iterate 4 exact rfl);exact .nil;exact rfl
  intro cnt
  refine E9 ?_
  obtain rfl:=sI h
  exact M3 (L:=B6X t []) (κ:=[0,1,2,3,4,5]) (vK (.cons R R B9x) R) (.inr ⟨_,R,R⟩)
 replace h:=(exO nv).symm.trans h
 refine G7 (t' := .d (.tup [])) (ls:=[]) (news:=[]) ([]) (B6X t [bx 8 (.d (C7.d o)),bx 9 (.d (E0.d e))]) ((G1 k2).ok nv) eK R (.inl ⟨R,R,R⟩) R R R R .nil R R R .nil .nil R R R R (R2 (A6 (B8 (A0V kR (C8 tb R (B5 (y:=vI o.at_) tb R (G4 R R R (F1 R R R ?_))))))))
 refine C8 tb R (C8 tb R (W4 tb R R R R R R R R R (C8 tb R (B5 (y:=vI o.what) tb R ?_))))
 obtain⟨e2,ie2,h⟩:=H1 h
 refine Y1 tb R R R R R R (F0 ie2) (ix1 ie2) R R ?_
 refine A15 (y:=vI e2) tb R R R R (U5 (g:=fun a=>T.d (vI a)) ie2) R R R R ?_
 refine A1n R R R R (C8 tb R (B5 (y:=vI e.least) tb R (C8 tb R (B5 (y:=vI e.most) tb R ?_))))
 obtain⟨rv3,k3,h⟩:=H1 h
 refine J5 (V8 k3) eK R R R R (A5R R R R ?_)
 obtain⟨rv4,k4,h⟩:=H1 h
 rcases M7 rv4 with⟨x2,nv2⟩ | ⟨v2,nv2⟩
 ·replace h:=(exN nv2).symm.trans h
  refine P0 kR kR ?_
  (with_reducible apply H8 []);exact(G1 k4).err nv2;exact rfl;exact eK;exact rfl;exact .inl ⟨rfl,rfl,rfl⟩;(iterate 4 exact rfl);exact .nil;exact rfl
  intro cnt
  refine E9 ?_
  obtain rfl:=sI h
  exact M3 (L:=B6X t []) (κ:=[0,1,2,3,4,5]) (vK (.cons R R B9x) R) (.inr ⟨_,R,R⟩)
 replace h:=(exO nv2).symm.trans h
 refine G7 (t' := .d (.tup [])) (ls:=[]) (news:=[]) ([]) (B6X t [bx 8 (.d (C7.d o)),bx 9 (.d (E0.d e))]) ((G1 k4).ok nv2) eK R (.inl ⟨R,R,R⟩) R R R R .nil R R R .nil .nil R R R R (N0 kR (A6 (B8 (X0 (G4 R R R (B5 (y:=E0.d e) tb R ?_))))))
 obtain⟨rv5,k5,h⟩:=H1 h
 rcases M7 rv5 with⟨x3,nv3⟩ | ⟨v3,nv3⟩
 ·replace h:=(exN nv3).symm.trans h
  refine T2 ?_
  (with_reducible apply H8 [0,1,2,3,4,5]);exact(A0J k5).err nv3;exact rfl;exact eK;exact rfl;exact .inl ⟨rfl,rfl,rfl⟩;(iterate 4 exact rfl);exact(.cons rfl rfl C25);exact rfl
  intro cnt
  refine E9 ?_
  obtain rfl:=sI h
  exact M3 (L:=[none,none,none,none,none,none]) (κ:=[0,1,2,3,4,5]) (vK (.gone R (.gone R (.gone R (.gone R (.gone R (.gone R .nil)))))) R) (.inr ⟨_,R,R⟩)
 replace h:=(exO nv3).symm.trans h
 refine G7 (t' := .d (.tup [])) (ls:=B6X v3 []) (news:=[]) ([0,1,2,3,4,5]) (B6X v3 [bx 8 (.d (C7.d o)),bx 9 (.d (E0.d e))]) ((A0J k5).ok nv3) eK R (.inl ⟨R,R,R⟩) R R R R ((.cons R R C25)) R R R ((.cons R (.row (.row (.row (.row (.row .nil))))))) .nil R R R R ?_
 refine R2 (A6 (B8 (X0 (G4 R R R (B5 (y:=E0.d e) tb R ?_)))))
 obtain⟨rv6,k6,h⟩:=H1 h
 rcases M7 rv6 with⟨x4,nv4⟩ | ⟨v4,nv4⟩
 ·replace h:=(exN nv4).symm.trans h
  refine T2 ?_
  (with_reducible apply H8 [0,1,2,3,4,5]);exact(A3b k6).err nv4;exact rfl;exact eK;exact rfl;exact .inl ⟨rfl,rfl,rfl⟩;(iterate 4 exact rfl);exact(.cons rfl rfl C25);exact rfl
  intro cnt
  refine E9 ?_
  obtain rfl:=sI h
  exact M3 (L:=[none,none,none,none,none,none]) (κ:=[0,1,2,3,4,5]) (vK (.gone R (.gone R (.gone R (.gone R (.gone R (.gone R .nil)))))) R) (.inr ⟨_,R,R⟩)
 replace h:=(exO nv4).symm.trans h
 refine G7 (t' := .d (.tup [])) (ls:=B6X v4 []) (news:=[]) ([0,1,2,3,4,5]) (B6X v4 [bx 8 (.d (C7.d o)),bx 9 (.d (E0.d e))]) ((A3b k6).ok nv4) eK R (.inl ⟨R,R,R⟩) R R R R ((.cons R R C25)) R R R ((.cons R (.row (.row (.row (.row (.row .nil))))))) .nil R R R R ?_
 refine R2 (A6 (B8 ?_))
 refine W5 (fun zz:Unit=>A0j F o e v4=some r) (fun zz:Unit=>⟨[(0,.ref 0 26 0 0),(3,.ref 6 8 0 0),(4,.ref 7 9 0 0)],B6X v4 [bx 8 (.d (C7.d o)),bx 9 (.d (E0.d e))]⟩) ?_ ?_
 ·clear h
  rintro⟨⟩ h
  rw[A0j]at h
  refine B8 (qG (C8 tb R (B5 (y := .arr 5 ((e.acts).map D2.d)) tb R (I7 tb R (A0 R (eN (E3 ?_)))))))
  obtain⟨K3,hK3,h⟩:∃ K,K=_∧A0k F o e K F v4.H0 v4.G8 v4.G2 v4.H4 v4.G3 v4.G9 v4.H5 v4.H9 v4.E7 v4.F8 v4.I9 v4.D8 v4.G0 v4.H6 v4.G5 v4.F5 v4.E8 v4.E5 v4.F3 v4.F4 v4.A1 v4.A5 v4.F9 v4.B1 v4.A7 v4.B0 0=some r:=⟨_,rfl,h⟩
  refine M2 (fun m st=>∃ (t2:(List F6)) (t3:(List G6)) (t4:(List E2)) (t5:(List ByteArray)) (t6:(List D1)) (t7:Int) (t8:Int) (t9:(List ByteArray)) (t10:(List D9)) (t11:(List E0)) (t12:(List Int)) (t13:Int) (t14:Int) (t15:Int) (t16:Int) (t17:(List Int)) (t18:(List Int)) (t19:(List Int)) (t20:Int) (t21:Bool) (t22:(List Int)) (t23:(List Int)) (t24:Bool) (t25:(List Bool)) (t26:(List Int)) (t27:(List Bool)) (x7:Int),A0k F o e K3 m t2 t3 t4 t5 t6 t7 t8 t9 t10 t11 t12 t13 t14 t15 t16 t17 t18 t19 t20 t21 t22 t23 t24 t25 t26 t27 x7=some r∧st=⟨[(0,.ref 0 26 0 0),(3,.ref 6 8 0 0),(4,.ref 7 9 0 0),(73,.d (.arr 5 ((e.acts).map D2.d))),(74,.d (vI (e.acts.length:Int))),(75,.d (vI x7))],[bx 26 (C5 (F7.mk t2 t3 t4 t5 t6 t7 t8 t9 t10 t11 t12 t13 t14 t15 t16 t17 t18 t19 t20 t21 t22 t23 t24 t25 t26 t27) 1 2 3 4 5),B0u t22,B0u t23,B9r t25,B0u t26,B9r t27,bx 8 (.d (C7.d o)),bx 9 (.d (E0.d e))]⟩) (.prn [0,3,4,73,74,75] R) ⟨v4.H0,v4.G8,v4.G2,v4.H4,v4.G3,v4.G9,v4.H5,v4.H9,v4.E7,v4.F8,v4.I9,v4.D8,v4.G0,v4.H6,v4.G5,v4.F5,v4.E8,v4.E5,v4.F3,v4.F4,v4.A1,v4.A5,v4.F9,v4.B1,v4.A7,v4.B0,0,h,R⟩ ?_
  clear h
  rintro m3 st ⟨t2,t3,t4,t5,t6,t7,t8,t9,t10,t11,t12,t13,t14,t15,t16,t17,t18,t19,t20,t21,t22,t23,t24,t25,t26,t27,x7,h,rfl⟩
  cases m3 with
  | zero=>cases(show(none:Option (Except Int F7))=some r from h)
  | succ m3 =>
  rw[A0k]at h
  refine qG ?_
  refine Q4 R R R R ?_ ?_
  ·intro c2
   replace h:=J7 c2 h
   refine eN (B8 (C0 R (D7 (A6 (B8 (E3 (qG ?_)))))))
   obtain⟨e3,ie3,h⟩:=H1 h
   refine N8 tb (F0 ie3) (V1 ie3) R (I4 (y:=D2.d e3) tb (U5 (g:=D2.d) ie3) R (M5 tb R R R R R (I6 _ _ tb R (eN (qG (C8 tb R (B5 (y:=vI o.at_) tb R (C8 tb R (I6 _ _ tb R (eN (X0 (G4 R R R (B5 (y:=D2.d {e3 with at_:=o.at_}) tb R ?_)))))))))))))
   obtain⟨rv11,k11,h⟩:=H1 h
   rcases M7 rv11 with⟨x8,nv7⟩ | ⟨v7,nv7⟩
   ·replace h:=(exN nv7).symm.trans h
    refine T2 ?_
    (with_reducible apply H8 [0,1,2,3,4,5]);exact(A1M k11).err nv7;exact rfl;exact eK;exact rfl;exact .inl ⟨rfl,rfl,rfl⟩;(iterate 4 exact rfl);exact(.cons rfl rfl C25);exact rfl
    intro cnt
    refine Q0 (E9 (E9 (Q0 (E9 ?_))))
    obtain rfl:=sI h
    exact M3 (L:=[none,none,none,none,none,none]) (κ:=[0,1,2,3,4,5]) (vK (.gone R (.gone R (.gone R (.gone R (.gone R (.gone R .nil)))))) R) (.inr ⟨_,R,R⟩)
   replace h:=(exO nv7).symm.trans h
   refine G7 (t' := .d (.tup [])) (ls:=B6X v7 []) (news:=[]) ([0,1,2,3,4,5]) (B6X v7 [bx 8 (.d (C7.d o)),bx 9 (.d (E0.d e)),bx 5 (.d (D2.d {e3 with at_:=o.at_}))]) ((A1M k11).ok nv7) eK R (.inl ⟨R,R,R⟩) R R R R ((.cons R R C25)) R R R ((.cons R (.row (.row (.row (.row (.row .nil))))))) .nil R R R R ?_
   refine R2 (D3 (A6 (J1 (O1 R (A0 R (eN ?_))))))
   exact⟨m3,⟨[(0,.ref 0 26 0 0),(3,.ref 6 8 0 0),(4,.ref 7 9 0 0),(73,.d (.arr 5 ((e.acts).map D2.d))),(74,.d (vI (e.acts.length:Int))),(75,.d (vI (W (x7+1))))],B6X v7 [bx 8 (.d (C7.d o)),bx 9 (.d (E0.d e))]⟩,lS,.vw (κ:=[0,1,2,3,4,5,6,7]) (vK (.cons R R (.row R (.row R (.row R (.row R (.row R (.cons R R (.cons R R .nil)))))))) R),v7.H0,v7.G8,v7.G2,v7.H4,v7.G3,v7.G9,v7.H5,v7.H9,v7.E7,v7.F8,v7.I9,v7.D8,v7.G0,v7.H6,v7.G5,v7.F5,v7.E8,v7.E5,v7.F3,v7.F4,v7.A1,v7.A5,v7.F9,v7.B1,v7.A7,v7.B0,(W (x7+1)),h,R⟩
  intro c2
  replace h:=P1 (nL c2) h
  refine eN (B8 (C1 R (N5 (E4 (E4 ?_)))))
  subst hK3
  refine I5 (A6 (B8 (T1 kR (G4 R R R (F1 R R R (C8 tb R (C8 tb R (W4 tb R R R R R R R R R (C8 tb R (B5 (y:=vI o.what) tb R (C8 tb R (B5 (y:=vI o.at_) tb R ?_))))))))))))
  obtain⟨e4,ie4,h⟩:=H1 h
  refine Y1 tb R R R R R R (F0 ie4) (ix1 ie4) R R ?_
  obtain⟨t28,it28,h⟩:=H1 h
  refine A5d (a':=(o.at_:Int)) tb R R R R ie4 R R R R it28 R R ?_
  dsimp only[List.set_cons_zero,List.set_cons_succ,J2,C6,A0h,C5]
  first | rw[A2a it28] | skip
  refine I0 kR (A6 (qG (C8 tb R (B5 (y := .arr 1 ((e.off).map vI)) tb R (I7 tb R (A0 R (eN (E3 ?_))))))))
  obtain⟨K5,hK5,h⟩:∃ K,K=_∧R6 F e K F t27 0=some r:=⟨_,rfl,h⟩
  refine M2 (st0:=⟨[(0,.ref 0 26 0 0),(97,.d (.arr 1 ((e.off).map vI))),(98,.d (vI (e.off.length:Int))),(99,.d (vI 0))],[bx 26 (C5 (F7.mk t2 t3 t4 t5 t6 t7 t8 t9 t10 t11 t12 t13 t14 t15 t16 t17 t18 t19 t20 t21 t22 t28 t24 t25 t26 t27) 1 2 3 4 5),B0u t22,B0u t28,B9r t25,B0u t26,B9r t27]⟩) (fun m st=>∃ (t29:(List Bool)) (x9:Int),R6 F e K5 m t29 x9=some r∧st=⟨[(0,.ref 0 26 0 0),(97,.d (.arr 1 ((e.off).map vI))),(98,.d (vI (e.off.length:Int))),(99,.d (vI x9))],[bx 26 (C5 (F7.mk t2 t3 t4 t5 t6 t7 t8 t9 t10 t11 t12 t13 t14 t15 t16 t17 t18 t19 t20 t21 t22 t28 t24 t25 t26 t29) 1 2 3 4 5),B0u t22,B0u t28,B9r t25,B0u t26,B9r t29]⟩) (.vw (κ:=[0,1,2,3,4,5]) (vK (.cons R R B9x) R)) ⟨t27,0,h,R⟩ ?_
  clear h
  rintro m5 st ⟨t29,x9,h,rfl⟩
  cases m5 with
  | zero=>cases(show(none:Option (Except Int F7))=some r from h)
  | succ m5 =>
  rw[R6]at h
  refine qG ?_
  refine Q4 R R R R ?_ ?_
  ·intro c3
   replace h:=J7 c3 h
   refine eN (B8 (C0 R (D7 (A6 (B8 (E3 (qG ?_)))))))
   obtain⟨e5,ie5,h⟩:=H1 h
   refine N8 tb (F0 ie5) (V1 ie5) R (I4 (y:=vI e5) tb (U5 (g:=vI) ie5) R (A3 R (eN (J1 (G4 R R R (F1 R R R (C8 tb R (C8 tb R (W4 tb R R R R R R R R R (A0 R ?_))))))))))
   obtain⟨e6,ie6,h⟩:=H1 h
   refine Y1 tb R R R R R R (F0 ie6) (ix1 ie6) R R ?_
   obtain⟨t30,it30,h⟩:=H1 h
   refine A5d (a':=(false:Bool)) tb R R R R ie6 R R R R it30 R R ?_
   dsimp only[List.set_cons_zero,List.set_cons_succ,J2,C6,A0h,C5]
   first | rw[A2a it30] | skip
   refine Y9 (D3 (A6 (J1 (O1 R (A0 R (eN ?_))))))
   exact⟨m5,_,lS,.prn [0,97,98,99] R,t30,(W (x9+1)),h,R⟩
  intro c3
  replace h:=P1 (nL c3) h
  refine eN (B8 (C1 R (N5 (E4 (E4 ?_)))))
  subst hK5
  refine I5 ?_
  obtain rfl:=sI h
  exact A1R (U0 (t := .d (.tup [])) (L:=[bx 26 (C5 (F7.mk t2 t3 t4 t5 t6 t7 t8 t9 t10 t11 t12 t13 t14 t15 t16 t17 t18 t19 t20 t21 t22 t28 t24 t25 t26 t29) 1 2 3 4 5),B0u t22,B0u t28,B9r t25,B0u t26,B9r t29]) (κ:=[0,1,2,3,4,5]) R .nil (vK (.cons R R B9x) R) (.inl ⟨_,R,R,R⟩))
 refine A0V kR (C8 tb R (B5 (y:=vI o.what) tb R (G4 R R R ?_)))
 obtain⟨rv7,k7,h⟩:=H1 h
 refine A19 (A0i k7) R eK R R ((.cons (.ref R (.aggL (dL (dL (dL (dL (dL (dL (dL (dL (dL (dL (dL (dL (dL (dL (dL (dL (dL (dL (dL (dL (.cons (.row R R) (.cons (.row R R) (dL (.cons (.row R R) (.cons (.row R R) (.cons (.row R R) .nil)))))))))))))))))))))))))))) .nil)) R R ?_
 refine Q4 R R R R ?_ ?_
 ·intro c
  replace h:=J7 c h
  refine A0 R (L9 16 R (D6 R ?_))
  obtain⟨rv8,k8,h⟩:=H1 h
  rcases M7 rv8 with⟨x5,nv5⟩ | ⟨v5,nv5⟩
  ·replace h:=(exN nv5).symm.trans h
   refine P0 kR kR ?_
   (with_reducible apply H8 []);exact(G1 k8).err nv5;exact rfl;exact eK;exact rfl;exact .inl ⟨rfl,rfl,rfl⟩;(iterate 4 exact rfl);exact .nil;exact rfl
   intro cnt
   refine E9 ?_
   obtain rfl:=sI h
   exact M3 (L:=B6X v4 []) (κ:=[0,1,2,3,4,5]) (vK (.cons R R B9x) R) (.inr ⟨_,R,R⟩)
  replace h:=(exO nv5).symm.trans h
  refine G7 (t' := .d (.tup [])) (ls:=[]) (news:=[]) ([]) (B6X v4 [bx 8 (.d (C7.d o)),bx 9 (.d (E0.d e))]) ((G1 k8).ok nv5) eK R (.inl ⟨R,R,R⟩) R R R R .nil R R R .nil .nil R R R R (N0 kR (A6 ?_))
  exact .inl ⟨(),h,.prn [0,3,4] R⟩
 intro c
 replace h:=P1 (nL c) h
 refine A0 R (C8 tb R (B5 (y:=vI o.at_) tb R (G4 R R R (F1 R R R (C8 tb R (C8 tb R (C8 tb R (B5 (y:=vI v4.D8) tb R (G4 R R R (F1 R R R (C8 tb R (C8 tb R (C8 tb R (B5 (y:=vI v4.G0) tb R ?_))))))))))))))
 obtain⟨rv9,k9,h⟩:=H1 h
 refine J5 (V8 k9) eK R R R R (A5R R R R (D0 R ?_))
 obtain⟨rv10,k10,h⟩:=H1 h
 rcases M7 rv10 with⟨x6,nv6⟩ | ⟨v6,nv6⟩
 ·replace h:=(exN nv6).symm.trans h
  refine P0 kR kR ?_
  (with_reducible apply H8 []);exact(G1 k10).err nv6;exact rfl;exact eK;exact rfl;exact .inl ⟨rfl,rfl,rfl⟩;(iterate 4 exact rfl);exact .nil;exact rfl
  intro cnt
  refine E9 ?_
  obtain rfl:=sI h
  exact M3 (L:=B6X v4 []) (κ:=[0,1,2,3,4,5]) (vK (.cons R R B9x) R) (.inr ⟨_,R,R⟩)
 replace h:=(exO nv6).symm.trans h
 refine G7 (t' := .d (.tup [])) (ls:=[]) (news:=[]) ([]) (B6X v4 [bx 8 (.d (C7.d o)),bx 9 (.d (E0.d e))]) ((G1 k10).ok nv6) eK R (.inl ⟨R,R,R⟩) R R R R .nil R R R .nil .nil R R R R (N0 kR (A6 ?_))
 exact .inl ⟨(),h,.prn [0,3,4] R⟩
def A08 (F:Nat) (d:F7) (e:C7):Option (Except Int F7):=(P4 F (d.F9 != (decide (e.kind=3))) 181).bind fun rv=>exE rv (fun x=>some (.error x)) (fun v=>some (.ok {d with F9:=(decide (e.kind=3))}))
theorem A1d {F:Nat} {d:F7} {e:C7} {r:(Except Int F7)} (h:A08 F d e=some r):SCX Tryz.prog 102 [.ref 0 26 0 0,.d (C7.d e)] (B6X d []) r 43 (fun(a:F7) => .d (.tup [])) (fun(a:F7)=>(B6X a [])):=by
 rw[A08]at h
 refine SC.of_sw Tryz.func102 R R R ?_
 dsimp only[L8,List.map]
 refine qG (M9 R (eN (qG (C8 tb R (B5 (y:=vI e.kind) tb R (A3s R R R R (A3 R (eN (B8 (X0 (G4 R R R (F1 R R R (C8 tb R (C8 tb R (B5 (y := .v (.bool d.F9)) tb R (A0 R (A57 R R R R R ?_)))))))))))))))))
 obtain⟨rv,k,h⟩:=H1 h
 rcases M7 rv with⟨x,nv⟩ | ⟨v,nv⟩
 ·replace h:=(exN nv).symm.trans h
  refine T2 ?_
  (with_reducible apply H8 []);exact(G1 k).err nv;exact rfl;exact eK;exact rfl;exact .inl ⟨rfl,rfl,rfl⟩;(iterate 4 exact rfl);exact .nil;exact rfl
  intro cnt
  refine E9 ?_
  obtain rfl:=sI h
  exact M3 (L:=B6X d []) (κ:=[0,1,2,3,4,5]) (vK (.cons R R B9x) R) (.inr ⟨_,R,R⟩)
 replace h:=(exO nv).symm.trans h
 refine G7 (t' := .d (.tup [])) (ls:=[]) (news:=[]) ([]) (B6X d [bx 8 (.d (C7.d e))]) ((G1 k).ok nv) eK R (.inl ⟨R,R,R⟩) R R R R .nil R R R .nil .nil R R R R (R2 (A6 (J1 (G4 R R R (A0 R (F1 R R R (C8 tb R (C8 tb R ?_))))))))
 refine I6 _ ([bx 26 (C5 {d with F9:=(decide (e.kind=3))} 1 2 3 4 5),B0u d.A1,B0u d.A5,B9r d.B1,B0u d.A7,B9r d.B0,bx 8 (.d (C7.d e))]) tb R (Y9 ?_)
 obtain rfl:=sI h
 exact A1R (U0 (t := .d (.tup [])) (L:=[bx 26 (C5 {d with F9:=(decide (e.kind=3))} 1 2 3 4 5),B0u d.A1,B0u d.A5,B9r d.B1,B0u d.A7,B9r d.B0]) (κ:=[0,1,2,3,4,5]) R .nil (vK (.cons R R B9x) R) (.inl ⟨_,R,R,R⟩))
def A0K (F:Nat) (d:F7) (e:C7):Option (Except Int F7):=(P3 d.B1 e.what).bind fun e2=>(P4 F (e2 != (decide (e.kind=5))) 181).bind fun rv=>exE rv (fun x=>some (.error x)) (fun v=>(A5g d.B1 e.what (decide (e.kind=5))).bind fun q=>if d.F9=true then(some (.ok {d with F9:=true,B1:=q}))else(some (.ok {d with F9:=(!(decide (e.kind=5))),B1:=q})))
theorem A16 {F:Nat} {d:F7} {e:C7} {r:(Except Int F7)} (h:A0K F d e=some r):SCX Tryz.prog 103 [.ref 0 26 0 0,.d (C7.d e)] (B6X d []) r 43 (fun(a:F7) => .d (.tup [])) (fun(a:F7)=>(B6X a [])):=by
 rw[A0K]at h
 refine SC.of_sw Tryz.func103 R R R ?_
 dsimp only[L8,List.map]
 refine qG (M9 R (eN (qG (C8 tb R (B5 (y:=vI e.kind) tb R (A3s R R R R (A3 R (eN (B8 (A0V kR (G4 R R R (F1 R R R (C8 tb R (C8 tb R (W4 tb R R R R R R R R R (C8 tb R (B5 (y:=vI e.what) tb R ?_)))))))))))))))))
 obtain⟨e2,ie2,h⟩:=H1 h
 refine Y1 tb R R R R R R (F0 ie2) (ix1 ie2) R R ?_
 refine A15 (y := .v (.bool e2)) tb R R R R (U5 (g:=fun a=>T.d (vB a)) ie2) R R R R ?_
 refine A0 R (A57 R R R R R ?_)
 obtain⟨rv,k,h⟩:=H1 h
 rcases M7 rv with⟨x,nv⟩ | ⟨v,nv⟩
 ·replace h:=(exN nv).symm.trans h
  refine P0 kR kR ?_
  (with_reducible apply H8 []);exact(G1 k).err nv;exact rfl;exact eK;exact rfl;exact .inl ⟨rfl,rfl,rfl⟩;(iterate 4 exact rfl);exact .nil;exact rfl
  intro cnt
  refine E9 ?_
  obtain rfl:=sI h
  exact M3 (L:=B6X d []) (κ:=[0,1,2,3,4,5]) (vK (.cons R R B9x) R) (.inr ⟨_,R,R⟩)
 replace h:=(exO nv).symm.trans h
 refine G7 (t' := .d (.tup [])) (ls:=[]) (news:=[]) ([]) (B6X d [bx 8 (.d (C7.d e))]) ((G1 k).ok nv) eK R (.inl ⟨R,R,R⟩) R R R R .nil R R R .nil .nil R R R R (N0 kR (A6 (B8 (T1 kR (G4 R R R (F1 R R R (C8 tb R (C8 tb R ?_))))))))
 refine W4 tb R R R R R R R R R (C8 tb R (B5 (y:=vI e.what) tb R (A0 R (Y1 tb R R R R R R (F0 ie2) (ix1 ie2) R R ?_))))
 obtain⟨q,iq,h⟩:=H1 h
 refine A5d (a':=((decide (e.kind=5)):Bool)) tb R R R R ie2 R R R R iq R R ?_
 dsimp only[List.set_cons_zero,List.set_cons_succ,J2,C6,A0h,C5]
 first | rw[A2a iq] | skip
 refine I0 kR (A6 (J1 (G4 R R R (G4 R R R (F1 R R R (C8 tb R (C8 tb R (B5 (y := .v (.bool d.F9)) tb R ?_))))))))
 with_reducible apply X8
 ·intro c
  replace h:=J7 c h
  refine A0 R (L9 2 R (D6 R (F1 R R R (C8 tb R (C8 tb R (I6 _ ([bx 26 (C5 {d with F9:=true,B1:=q} 1 2 3 4 5),B0u d.A1,B0u d.A5,B9r q,B0u d.A7,B9r d.B0,bx 8 (.d (C7.d e))]) tb R (Y9 ?_)))))))
  obtain rfl:=sI h
  exact A1R (U0 (t := .d (.tup [])) (L:=[bx 26 (C5 {d with F9:=true,B1:=q} 1 2 3 4 5),B0u d.A1,B0u d.A5,B9r q,B0u d.A7,B9r d.B0]) (κ:=[0,1,2,3,4,5]) R .nil (vK (.cons R R B9x) R) (.inl ⟨_,R,R,R⟩))
 intro c
 replace h:=ifF c h
 refine A0 R (A0 R (A5R R R R (D0 R (F1 R R R (C8 tb R (C8 tb R (I6 _ ([bx 26 (C5 {d with F9:=(!(decide (e.kind=5))),B1:=q} 1 2 3 4 5),B0u d.A1,B0u d.A5,B9r q,B0u d.A7,B9r d.B0,bx 8 (.d (C7.d e))]) tb R (Y9 ?_))))))))
 obtain rfl:=sI h
 exact A1R (U0 (t := .d (.tup [])) (L:=[bx 26 (C5 {d with F9:=(!(decide (e.kind=5))),B1:=q} 1 2 3 4 5),B0u d.A1,B0u d.A5,B9r q,B0u d.A7,B9r d.B0]) (κ:=[0,1,2,3,4,5]) R .nil (vK (.cons R R B9x) R) (.inl ⟨_,R,R,R⟩))
def U1 (F:Nat) (t:F7) (K:(List Int)→(List Int)→Int→Option (Except Int F7)):Nat→(List Int)→(List Int)→Int→Option (Except Int F7)
 | 0,_,_,_=>none
 | n+1,t2,t3,a=>(U8 F {t with A1:=t2,A5:=t3}).bind fun rv4=>if a≤rv4 then((P3 t2 a).bind fun e3=>(A5g t2 a (-1)).bind fun t4=>(P3 t3 a).bind fun e4=>(A5g t3 a (-1)).bind fun t5=>U1 F t K n t4 t5 (W (a+1)))else(K t2 t3 a)
def A05 (F:Nat) (t:F7) (o:C7):Option (Except Int F7):=(P3 t.I9 o.what).bind fun e=>(P3 t.A1 e).bind fun e2=>(P4 F (decide (0≤e2)) 181).bind fun rv=>exE rv (fun x=>some (.error x)) (fun v=>(S9 F t.E5 1).bind fun rv2=>(P4 F (!rv2) 188).bind fun rv3=>exE rv3 (fun x2=>some (.error x2)) (fun v2=>U1 F t (fun(t2:(List Int)) (t3:(List Int)) (a:Int)=>(B6t t.B1 false).bind fun q=>(B6t t.B0 false).bind fun q2=>some (.ok {t with A1:=t2,A5:=t3,F9:=true,B1:=q,B0:=q2})) F t.A1 t.A5 e))
theorem A3o {F:Nat} {t:F7} {o:C7} {r:(Except Int F7)} (h:A05 F t o=some r):SCX Tryz.prog 104 [.ref 0 26 0 0,.d (C7.d o)] (B6X t []) r 43 (fun(a:F7) => .d (.tup [])) (fun(a:F7)=>(B6X a [])):=by
 rw[A05]at h
 refine SC.of_sw Tryz.func104 R R R ?_
 dsimp only[L8,List.map]
 refine qG (M9 R (eN (B8 (T1 kR (G4 R R R (F1 R R R (C8 tb R (C8 tb R (B5 (y := .arr 1 ((t.I9).map vI)) tb R (C8 tb R (B5 (y:=vI o.what) tb R ?_)))))))))))
 obtain⟨e,ie,h⟩:=H1 h
 refine N8 tb (F0 ie) (V1 ie) R (I4 (y:=vI e) tb (U5 (g:=vI) ie) R (A3 R (I0 kR (A6 (B8 (X0 (G4 R R R (F1 R R R (C8 tb R (C8 tb R (W4 tb R R R R R R R R R (A0 R ?_))))))))))))
 obtain⟨e2,ie2,h⟩:=H1 h
 refine Y1 tb R R R R R R (F0 ie2) (ix1 ie2) R R ?_
 refine A15 (y:=vI e2) tb R R R R (U5 (g:=fun a=>T.d (vI a)) ie2) R R R R ?_
 refine A3k R R R R ?_
 obtain⟨rv,k,h⟩:=H1 h
 rcases M7 rv with⟨x,nv⟩ | ⟨v,nv⟩
 ·replace h:=(exN nv).symm.trans h
  refine T2 ?_
  (with_reducible apply H8 []);exact(G1 k).err nv;exact rfl;exact eK;exact rfl;exact .inl ⟨rfl,rfl,rfl⟩;(iterate 4 exact rfl);exact .nil;exact rfl
  intro cnt
  refine E9 ?_
  obtain rfl:=sI h
  exact M3 (L:=B6X t []) (κ:=[0,1,2,3,4,5]) (vK (.cons R R B9x) R) (.inr ⟨_,R,R⟩)
 replace h:=(exO nv).symm.trans h
 refine G7 (t' := .d (.tup [])) (ls:=[]) (news:=[]) ([]) (B6X t [bx 8 (.d (C7.d o))]) ((G1 k).ok nv) eK R (.inl ⟨R,R,R⟩) R R R R .nil R R R .nil .nil R R R R (R2 (A6 (B8 (X0 (G4 R R R (F1 R R R (C8 tb R (C8 tb R (C8 tb R (B5 (y := .arr 1 ((t.E5).map vI)) tb R ?_))))))))))
 obtain⟨rv2,k2,h⟩:=H1 h
 refine J5 (A1g k2) eK R R R R (A5R R R R ?_)
 obtain⟨rv3,k3,h⟩:=H1 h
 rcases M7 rv3 with⟨x2,nv2⟩ | ⟨v2,nv2⟩
 ·replace h:=(exN nv2).symm.trans h
  refine T2 ?_
  (with_reducible apply H8 []);exact(G1 k3).err nv2;exact rfl;exact eK;exact rfl;exact .inl ⟨rfl,rfl,rfl⟩;(iterate 4 exact rfl);exact .nil;exact rfl
  intro cnt
  refine E9 ?_
  obtain rfl:=sI h
  exact M3 (L:=B6X t []) (κ:=[0,1,2,3,4,5]) (vK (.cons R R B9x) R) (.inr ⟨_,R,R⟩)
 replace h:=(exO nv2).symm.trans h
 refine G7 (t' := .d (.tup [])) (ls:=[]) (news:=[]) ([]) (B6X t [bx 8 (.d (C7.d o))]) ((G1 k3).ok nv2) eK R (.inl ⟨R,R,R⟩) R R R R .nil R R R .nil .nil R R R R (R2 (A6 (B8 (qG (A0 R (A3 R (eN (E3 ?_))))))))
 obtain⟨K3,hK3,h⟩:∃ K,K=_∧U1 F t K F t.A1 t.A5 e=some r:=⟨_,rfl,h⟩
 refine M2 (st0:=⟨[(0,.ref 0 26 0 0),(5,.d (vI e))],B6X t []⟩) (fun m st=>∃ (t2:(List Int)) (t3:(List Int)) (a:Int),U1 F t K3 m t2 t3 a=some r∧st=⟨[(0,.ref 0 26 0 0),(5,.d (vI a))],[bx 26 (C5 {t with A1:=t2,A5:=t3} 1 2 3 4 5),B0u t2,B0u t3,B9r t.B1,B0u t.A7,B9r t.B0]⟩) (.vw (κ:=[0,1,2,3,4,5]) (vK (.cons R R B9x) R)) ⟨t.A1,t.A5,e,h,R⟩ ?_
 clear h
 rintro m3 st ⟨t2,t3,a,h,rfl⟩
 cases m3 with
 | zero=>cases(show(none:Option (Except Int F7))=some r from h)
 | succ m3 =>
 rw[U1]at h
 refine B8 (qG (A0 R (G4 R R R ?_)))
 obtain⟨rv4,k4,h⟩:=H1 h
 refine A19 (A0i k4) R eK R R ((.cons (.ref R (.aggL (dL (dL (dL (dL (dL (dL (dL (dL (dL (dL (dL (dL (dL (dL (dL (dL (dL (dL (dL (dL (.cons (.row R R) (.cons (.row R R) (dL (.cons (.row R R) (.cons (.row R R) (.cons (.row R R) .nil)))))))))))))))))))))))))))) .nil)) R R ?_
 refine B1t R R R R ?_ ?_
 ·intro c
  replace h:=J7 c h
  refine eN (C0 R (D7 (A6 (B8 (E3 (T1 kR (G4 R R R (F1 R R R (C8 tb R (C8 tb R (W4 tb R R R R R R R R R (A0 R (G4 R R R (F1 R R R (C8 tb R (C8 tb R (W4 tb R R R R R R R R R (A0 R ?_))))))))))))))))))
  obtain⟨e3,ie3,h⟩:=H1 h
  refine Y1 tb R R R R R R (F0 ie3) (ix1 ie3) R R ?_
  obtain⟨t4,it4,h⟩:=H1 h
  refine A5d (a':=((-1):Int)) tb R R R R ie3 R R R R it4 R R ?_
  dsimp only[List.set_cons_zero,List.set_cons_succ,J2,C6,A0h,C5]
  first | rw[A2a it4] | skip
  obtain⟨e4,ie4,h⟩:=H1 h
  refine Y1 tb R R R R R R (F0 ie4) (ix1 ie4) R R ?_
  obtain⟨t5,it5,h⟩:=H1 h
  refine A5d (a':=((-1):Int)) tb R R R R ie4 R R R R it5 R R ?_
  dsimp only[List.set_cons_zero,List.set_cons_succ,J2,C6,A0h,C5]
  first | rw[A2a it5] | skip
  refine I0 kR (D3 (A6 (J1 (A0 R (O1 R (A3 R (eN ?_)))))))
  exact⟨m3,_,lS,.prn [0,5] R,t4,t5,(W (a+1)),h,R⟩
 intro c
 replace h:=P1 (Int.not_le.2 c) h
 refine eN (C1 R (N5 (E4 (E4 ?_))))
 subst hK3
 refine I5 (A6 (qG (G4 R R R (F1 R R R (C8 tb R (C8 tb R (W4 tb R R R R R R R R R ?_)))))))
 obtain⟨q,iq,h⟩:=H1 h
 refine B5R (g:=vB) (a0:=false) tb R R R R R R R R R R R iq R R ?_
 dsimp only[List.set_cons_zero,List.set_cons_succ,J2,C6,A0h,C5]
 first | rw[B5B iq] | skip
 refine eN (qG (G4 R R R (F1 R R R (C8 tb R (C8 tb R (W4 tb R R R R R R R R R ?_))))))
 obtain⟨q2,iq2,h⟩:=H1 h
 refine B5R (g:=vB) (a0:=false) tb R R R R R R R R R R R iq2 R R ?_
 dsimp only[List.set_cons_zero,List.set_cons_succ,J2,C6,A0h,C5]
 first | rw[B5B iq2] | skip
 refine eN (J1 (G4 R R R (F1 R R R (C8 tb R (C8 tb R (I6 _ ([bx 26 (C5 {t with A1:=t2,A5:=t3,F9:=true,B1:=q,B0:=q2} 1 2 3 4 5),B0u t2,B0u t3,B9r q,B0u t.A7,B9r q2]) tb R (Y9 ?_)))))))
 obtain rfl:=sI h
 exact A1R (U0 (t := .d (.tup [])) (L:=[bx 26 (C5 {t with A1:=t2,A5:=t3,F9:=true,B1:=q,B0:=q2} 1 2 3 4 5),B0u t2,B0u t3,B9r q,B0u t.A7,B9r q2]) (κ:=[0,1,2,3,4,5]) R .nil (vK (.cons R R B9x) R) (.inl ⟨_,R,R,R⟩))
def A1N (F:Nat) (d:F7) (e:C7):Option (Except Int F7):=(A07 F d (D2.mk e.A04 e.A0D e.A1L e.A0E e.A0F)).bind fun rv=>exE rv (fun x=>some (.error x)) (fun v=>some (.ok v))
theorem A4u {F:Nat} {d:F7} {e:C7} {r:(Except Int F7)} (h:A1N F d e=some r):SCX Tryz.prog 105 [.ref 0 26 0 0,.d (C7.d e)] (B6X d []) r 43 (fun(a:F7) => .d (.tup [])) (fun(a:F7)=>(B6X a [])):=by
 rw[A1N]at h
 refine SC.of_sw Tryz.func105 R R R ?_
 dsimp only[L8,List.map]
 refine qG (M9 R (eN (X0 (G4 R R R (C8 tb R (B5 (y := .agg [vI e.A04,vI e.A0D,vI e.A1L,vI e.A0E,vI e.A0F]) tb R ?_))))))
 obtain⟨rv,k,h⟩:=H1 h
 rcases M7 rv with⟨x,nv⟩ | ⟨v,nv⟩
 ·replace h:=(exN nv).symm.trans h
  refine T2 ?_
  (with_reducible apply H8 [0,1,2,3,4,5]);exact(A1M k).err nv;exact rfl;exact eK;exact rfl;exact .inl ⟨rfl,rfl,rfl⟩;(iterate 4 exact rfl);exact(.cons rfl rfl C25);exact rfl
  intro cnt
  obtain rfl:=sI h
  exact M3 (L:=[none,none,none,none,none,none]) (κ:=[0,1,2,3,4,5]) (vK (.gone R (.gone R (.gone R (.gone R (.gone R (.gone R .nil)))))) R) (.inr ⟨_,R,R⟩)
 replace h:=(exO nv).symm.trans h
 refine G7 (t' := .d (.tup [])) (ls:=B6X v []) (news:=[]) ([0,1,2,3,4,5]) (B6X v [bx 8 (.d (C7.d e))]) ((A1M k).ok nv) eK R (.inl ⟨R,R,R⟩) R R R R ((.cons R R C25)) R R R ((.cons R (.row (.row (.row (.row (.row .nil))))))) .nil R R R R ?_
 refine R2 ?_
 obtain rfl:=sI h
 exact A1R (U0 (t := .d (.tup [])) (L:=B6X v []) (κ:=[0,1,2,3,4,5]) R .nil (vK (.cons R R B9x) R) (.inl ⟨_,R,R,R⟩))
def A0G (F:Nat) (d:F7) (e:C7):Option (Except Int F7):=(P3 d.B0 e.what).bind fun e2=>(P4 F (!e2) 181).bind fun rv=>exE rv (fun x=>some (.error x)) (fun v=>(P3 d.E7 e.what).bind fun e3=>(P3 d.A7 e.what).bind fun e4=>(A5g d.A7 e.what e3.charge).bind fun q=>some (.ok {d with A7:=q}))
theorem A3u {F:Nat} {d:F7} {e:C7} {r:(Except Int F7)} (h:A0G F d e=some r):SCX Tryz.prog 106 [.ref 0 26 0 0,.d (C7.d e)] (B6X d []) r 43 (fun(a:F7) => .d (.tup [])) (fun(a:F7)=>(B6X a [])):=by
 rw[A0G]at h
 refine SC.of_sw Tryz.func106 R R R ?_
 dsimp only[L8,List.map]
 refine qG (M9 R (eN (B8 (A0V kR (G4 R R R (F1 R R R (C8 tb R (C8 tb R (W4 tb R R R R R R R R R (C8 tb R (B5 (y:=vI e.what) tb R ?_)))))))))))
 obtain⟨e2,ie2,h⟩:=H1 h
 refine Y1 tb R R R R R R (F0 ie2) (ix1 ie2) R R ?_
 refine A15 (y := .v (.bool e2)) tb R R R R (U5 (g:=fun a=>T.d (vB a)) ie2) R R R R ?_
 refine A5R R R R ?_
 obtain⟨rv,k,h⟩:=H1 h
 rcases M7 rv with⟨x,nv⟩ | ⟨v,nv⟩
 ·replace h:=(exN nv).symm.trans h
  refine P0 kR kR ?_
  (with_reducible apply H8 []);exact(G1 k).err nv;exact rfl;exact eK;exact rfl;exact .inl ⟨rfl,rfl,rfl⟩;(iterate 4 exact rfl);exact .nil;exact rfl
  intro cnt
  refine E9 ?_
  obtain rfl:=sI h
  exact M3 (L:=B6X d []) (κ:=[0,1,2,3,4,5]) (vK (.cons R R B9x) R) (.inr ⟨_,R,R⟩)
 replace h:=(exO nv).symm.trans h
 refine G7 (t' := .d (.tup [])) (ls:=[]) (news:=[]) ([]) (B6X d [bx 8 (.d (C7.d e))]) ((G1 k).ok nv) eK R (.inl ⟨R,R,R⟩) R R R R .nil R R R .nil .nil R R R R (N0 kR (A6 (T1 kR (G4 R R R (F1 R R R (C8 tb R (C8 tb R (W4 tb R R R R R R R R R ?_))))))))
 refine C8 tb R (B5 (y:=vI e.what) tb R (G4 R R R (F1 R R R (C8 tb R (C8 tb R (B5 (y := .arr 3 ((d.E7).map D9.d)) tb R (C8 tb R (B5 (y:=vI e.what) tb R ?_))))))))
 obtain⟨e3,ie3,h⟩:=H1 h
 refine N8 tb (F0 ie3) (V1 ie3) R (M4 tb R (I4 (y:=vI e3.charge) tb (U5 (g:=D9.d) ie3) R ?_))
 obtain⟨e4,ie4,h⟩:=H1 h
 refine Y1 tb R R R R R R (F0 ie4) (ix1 ie4) R R ?_
 obtain⟨q,iq,h⟩:=H1 h
 refine A5d (a':=(e3.charge:Int)) tb R R R R ie4 R R R R iq R R ?_
 dsimp only[List.set_cons_zero,List.set_cons_succ,J2,C6,A0h,C5]
 first | rw[A2a iq] | skip
 refine I0 kR ?_
 obtain rfl:=sI h
 exact A1R (U0 (t := .d (.tup [])) (L:=[bx 26 (C5 {d with A7:=q} 1 2 3 4 5),B0u d.A1,B0u d.A5,B9r d.B1,B0u q,B9r d.B0]) (κ:=[0,1,2,3,4,5]) R .nil (vK (.cons R R B9x) R) (.inl ⟨_,R,R,R⟩))
end Go.Proofs.YtlaogbbcipebgaaGreat
