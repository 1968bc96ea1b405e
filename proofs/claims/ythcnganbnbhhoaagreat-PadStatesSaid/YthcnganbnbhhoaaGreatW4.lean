/- What functions of the program compute: plain functions, and the proofs. -/
import Derived.Test.YthcnganbnbhhoaaGreatW3
set_option linter.unusedVariables false
set_option linter.unusedSimpArgs false
open Go Go.Proofs.YthcnganbnbhhoaaGreat.Sh Go.Proofs
namespace Go.Proofs.YthcnganbnbhhoaaGreat
set_option maxRecDepth 100000
set_option maxHeartbeats 40000000
def W0 (F:Nat) (s:A6) (x:Int) (rv4:(Int × B0)) (e2:E9) (K:Int→(List A4)→Option ((List A4) × Int)):Nat→Int→(List A4)→Option ((List A4) × Int)
 | 0,_,_=>none
 | n+1,x2,lv2=>if x2<(rv4.2.squibs.length:Int)then((P7 rv4.2.squibs x2).bind fun e3=>if(W ((W ((max (max (W (e2.F8-e3.A0o)) (W (e3.A0o-e2.F7))) 0)*(max (max (W (e2.F8-e3.A0o)) (W (e3.A0o-e2.F7))) 0)))+(W ((max (max (W (e2.G0-e3.A0p)) (W (e3.A0p-e2.F9))) 0)*(max (max (W (e2.G0-e3.A0p)) (W (e3.A0p-e2.F9))) 0)))))<(W (e3.clear*e3.clear))then((P7 s.squibs x2).bind fun e4=>if e4=1 then((A67 lv2 [(A4.mk x2 x)]).bind fun q=>W0 F s x rv4 e2 K n (W (x2+1)) q)else(W0 F s x rv4 e2 K n (W (x2+1)) lv2))else(W0 F s x rv4 e2 K n (W (x2+1)) lv2))else(K x2 lv2)
def W3 (F:Nat) (p:B0) (s:A6) (K:(List A4)→Int→Option ((List A4) × Int)):Nat→(List A4)→Int→Option ((List A4) × Int)
 | 0,_,_=>none
 | n+1,lv,x=>if x<(s.zones.length:Int)then((P7 s.zones x).bind fun e=>(A1t F p e).bind fun rv4=>if rv4.1<0 then(W3 F p s K n lv (W (x+1)))else((P7 rv4.2.zones rv4.1).bind fun e2=>W0 F s x rv4 e2 (fun(x2:Int) (lv2:(List A4))=>W3 F p s K n lv2 (W (x+1))) F 0 lv))else(K lv x)
def A2B (F:Nat) (p:B0) (s:A6):Option ((List A4) × Int):=(A1Y F p).bind fun rv=>if rv.2.2=0 then((A2h F p s).bind fun rv2=>B34 rv2 (none) (fun t=>(U2 F t).bind fun rv3=>if rv3=true then(W3 F p s (fun(lv:(List A4)) (x:Int)=>(Y3 (J1 F lv) lv).bind fun rv5=>some (rv5,0)) F ([]:List A4) 0)else(some (([]:List A4),6))))else(some (([]:List A4),rv.2.2))
theorem A5D {F:Nat} {p:B0} {s:A6} {r:((List A4) × Int)} (h:A2B F p s=some r):SCR Tryz.prog 21 (List.map T.d [B0.d p,A6.d s]) [] (.tup [.row 0 2 0 (r.1).length,.d (.v (.int .i64 r.2))]) (List.map some [(A3Q r.1)]):=by
 rw[A2B]at h
 refine SC.of_swm Tryz.func21 R R R ?_
 dsimp only[M1,List.map]
 refine L9 ?_
 refine O1 fun df=>?_
 refine E5 (M4 R (M4 R (N0 tb R R R R R (A3 R (eN (L9 ?_))))))
 refine O1 fun df=>?_
 refine qG (B7 (y:=B0.d p) tb R ?_)
 obtain⟨rv,k,h⟩:=H0 h
 refine N5 (A3B k) eK R R R R (A0 R (S3 (t:=vI rv.1) R R R R (S3 (t:=vI rv.2.1) R R R R (S3 (t:=vI rv.2.2) R R R R (A3 R (eN (qG (A0 R ?_))))))))
 refine T6 R R R R ?_ ?_
 ·intro c
  replace h:=J0 c h
  refine eN (A9 R (qG (A0 R (I5 _ _ tb R (A3 R (eN ?_))))))
  refine SW.own (ts':=[(4,.ref 2 1 0 0),(5,.d (vI rv.2.2))]) (L':=[bx 7 (.d (B0.d p)),bx 6 (.d (A6.d s)),bx 1 (.row 3 2 0 (([]:List A4)).length)]) 2 R R (.cons (.same _) (.cons (.same _) .nil)) (.same (.same (.cons R (.cons .nil .nil) .nil))) ?_
  simp only[List.cons_append,List.nil_append]
  refine C9 (B1 ?_)
  obtain rfl:=sI h
  exact f2 [3] O7 R (.cons (rc tb R) (.cons (.tmp 5) .nil)) R
 intro c
 replace h:=H1 c h
 refine eN (A5 R (C0 (A1 (L9 ?_))))
 refine O1 fun df=>?_
 refine qG (B7 (y:=B0.d p) tb R (B7 (y:=A6.d s) tb R ?_))
 obtain⟨rv2,k2,h⟩:=H0 h
 rcases Option.eq_none_or_eq_some rv2 with nv | ⟨t,nv⟩
 ·replace h:=(B5y nv).symm.trans h
  refine G5 (t' := .d (.v (.pointer none))) (ls:=[]) (news:=[]) ([]) ([bx 7 (.d (B0.d p)),bx 6 (.d (A6.d s)),c1 (.v (.slice none 0 0))]) ((Z7 k2).none nv) eK R (.inl ⟨R,R,R⟩) R R R R .nil R R R .nil .nil R R R R ?_
  cases h
 replace h:=(B5z nv).symm.trans h
 refine G5 (t' := .ref 3 13 0 0) (ls:=[]) (news:=[⟨13,[D8 t 1 2 3]⟩,(lvI t.C1),(lvI t.C2),(lvI t.A7)]) ([]) ([bx 7 (.d (B0.d p)),bx 6 (.d (A6.d s)),c1 (.v (.slice none 0 0)),bx 13 (D8 t 4 5 6),F5 t.C1,F5 t.C2,F5 t.A7]) ((Z7 k2).some nv) eK R (.inl ⟨R,R,R⟩) R R R R .nil R R R .nil ((.cons R (.row (.row (.row .nil))))) R R R R ?_
 obtain⟨rv3,k3,h⟩:=H0 h
 refine A4N (A33 k3) eK R R ((.cons (.ref R (.aggL (dL (dL (dL (dL (dL (dL (dL (dL (.cons (.row R R) (.cons (.row R R) (.cons (.row R R) (dL (dL .nil))))))))))))))) .nil)) R R ?_ ?_
 ·intro c2
  replace h:=H1 c2 h
  refine M2 R R R (eN (A5 R (C0 (A1 (L9 (L9 ?_))))))
  refine O1 fun df=>?_
  refine E5 (C7 tb R (B7 (y := .arr 1 ((s.zones).map vI)) tb R (H3 tb R (A0 R (eN (A1C ?_))))))
  refine SWM.own (ts':=[(2,.ref 0 7 0 0),(3,.ref 1 6 0 0),(4,.ref 2 1 0 0),(5,.d (vI rv.2.2)),(24,.d (.arr 1 ((s.zones).map vI))),(25,.d (vI (s.zones.length:Int))),(26,.d (vI 0))]) (L':=[bx 7 (.d (B0.d p)),bx 6 (.d (A6.d s)),bx 1 (.row 7 2 0 (([]:List A4)).length),bx 13 (D8 t 4 5 6),F5 t.C1,F5 t.C2,F5 t.A7]) 2 R R (.cons (.same _) (.cons (.same _) (.cons (.same _) (.cons (.same _) (.cons (.same _) (.cons (.same _) (.cons (.same _) .nil))))))) (.same (.same (.cons R (.cons .nil .nil) (.same (.same (.same (.same .nil))))))) ?_
  simp only[List.cons_append,List.nil_append]
  obtain⟨K6,hK6,h⟩:∃ K,K=_∧W3 F p s K F ([]:List A4) 0=some r:=⟨_,rfl,h⟩
  refine A9Y (st0:=⟨[(2,.ref 0 7 0 0),(3,.ref 1 6 0 0),(4,.ref 2 1 0 0),(5,.d (vI rv.2.2)),(24,.d (.arr 1 ((s.zones).map vI))),(25,.d (vI (s.zones.length:Int))),(26,.d (vI 0))],[bx 7 (.d (B0.d p)),bx 6 (.d (A6.d s)),bx 1 (.row 3 2 0 (([]:List A4)).length),A8 ([]:List A4)]⟩) (fun m st=>∃ (lv:(List A4)) (x:Int),W3 F p s K6 m lv x=some r∧st=⟨[(2,.ref 0 7 0 0),(3,.ref 1 6 0 0),(4,.ref 2 1 0 0),(5,.d (vI rv.2.2)),(24,.d (.arr 1 ((s.zones).map vI))),(25,.d (vI (s.zones.length:Int))),(26,.d (vI x))],[bx 7 (.d (B0.d p)),bx 6 (.d (A6.d s)),bx 1 (.row 3 2 0 (lv).length),A8 lv]⟩) (.vw (κ:=[0,1,2,7]) (vK (.cons R R (.cons R R (.cons R R O7))) R)) ⟨([]:List A4),0,h,R⟩ ?_
  clear h
  rintro m6 st ⟨lv,x,h,rfl⟩
  cases m6 with
  | zero=>cases(show(none:Option ((List A4) × Int))=some r from h)
  | succ m6 =>
  rw[W3]at h
  refine L9 ?_
  refine O1 fun df=>?_
  refine E5 ?_
  refine G8 R R R R ?_ ?_
  ·intro c3
   replace h:=H1 c3 h
   refine eN (L9 ?_)
   refine O1 fun df=>?_
   refine A9 R (C0 (A1 (L9 (A1C (L9 ?_)))))
   refine O1 fun df=>?_
   refine E5 (A0 R ?_)
   obtain⟨e,ie,h⟩:=H0 h
   refine J9 tb (S0 ie) (P6 ie) R (H9 (y:=vI e) tb (Q6 (g:=vI) ie) R (N0 tb R R R R R (I5 _ _ tb R (A3 R (eN (L9 ?_))))))
   refine O1 fun df=>?_
   refine E5 (B7 (y:=B0.d p) tb R (A0 R ?_))
   obtain⟨rv4,k4,h⟩:=H0 h
   refine A0n (t' := .fn (.func 83) [] [.ref 5 1 0 0,.ref 6 7 0 0]) (news':=[⟨1,[.d (vI rv4.1)]⟩,⟨7,[.d (B0.d rv4.2)]⟩]) (A2s k4) eK R R R ((.cons R (.cons R .nil))) R R R (eN (A1C ?_))
   refine SWM.view (st':=⟨[(2,.ref 0 7 0 0),(3,.ref 1 6 0 0),(4,.ref 2 1 0 0),(5,.d (vI rv.2.2)),(6,.ref 3 1 0 0),(24,.d (.arr 1 ((s.zones).map vI))),(25,.d (vI (s.zones.length:Int))),(26,.d (vI x)),(33,.fn (.func 83) [] [.ref 4 1 0 0,.ref 5 7 0 0])],[bx 7 (.d (B0.d p)),bx 6 (.d (A6.d s)),bx 1 (.row 6 2 0 (lv).length),c1 (vI x),c1 (vI rv4.1),bx 7 (.d (B0.d rv4.2)),A8 lv]⟩) (κ:=[0,1,2,4,5,6,3]) (vK (.cons R R (.cons R R (.cons R R (.cons R R (.cons R R (.cons R R O7)))))) R) ?_
   refine B2A 6 eK Tryz.func83 R R R R R R R R fun lb=>?_
   simp only[M1,Nat.zero_add,Nat.reduceAdd]
   refine J4 (J4 (Q4 (O0 (B7 (y:=vI rv4.1) tb R ?_))))
   refine G8 R R R R ?_ ?_
   ·intro c4
    replace h:=H1 c4 h
    refine I9 (D6 (Z9 R (A4x (A0N ?_))))
    refine⟨R,[bx 7 (.d (B0.d p)),bx 6 (.d (A6.d s)),bx 1 (.row 6 2 0 (lv).length),c1 (vI x),c1 (vI rv4.1),bx 7 (.d (B0.d rv4.2)),A8 lv],[0,1,2,3,4,5,6],(vK (.cons R R (.cons R R (.cons R R (.cons R R (.cons R R (.cons R R O7)))))) R),?_⟩
    refine C3 (C3 (A1 ?_))
    refine O1 fun df=>?_
    refine E5 (H4 R (A0 R (eN ?_)))
    exact⟨m6,⟨[(2,.ref 0 7 0 0),(3,.ref 1 6 0 0),(4,.ref 2 1 0 0),(5,.d (vI rv.2.2)),(24,.d (.arr 1 ((s.zones).map vI))),(25,.d (vI (s.zones.length:Int))),(26,.d (vI (W (x+1))))],[bx 7 (.d (B0.d p)),bx 6 (.d (A6.d s)),bx 1 (.row 3 2 0 (lv).length),A8 lv]⟩,lS,.vw (κ:=[0,1,2,6]) (vK (.cons R R (.cons R R (.cons R R O7))) R),lv,(W (x+1)),h,R⟩
   intro c4
   replace h:=J0 (nL c4) h
   refine I9 (D6 (R1 R (T8 (D6 (J4 (Q4 (O0 (C7 tb R (B7 (y := .arr 8 ((rv4.2.zones).map E9.d)) tb R (B7 (y:=vI rv4.1) tb R ?_))))))))))
   obtain⟨e2,ie2,h⟩:=H0 h
   refine J9 tb (S0 ie2) (P6 ie2) R (M0 tb R (H9 (y := .agg [vI e2.F8,vI e2.F7,vI e2.G0,vI e2.F9]) tb (Q6 (g:=E9.d) ie2) R (N0 tb R R R R R (I5 _ _ tb R (I9 (D6 (J4 (Q4 (O0 (C7 tb R (B7 (y := .arr 6 ((rv4.2.squibs).map C6.d)) tb R (H3 tb R (A0 R (I9 (D6 (A1g ?_))))))))))))))))
   obtain⟨K10,hK10,h⟩:∃ K,K=_∧W0 F s x rv4 e2 K F 0 lv=some r:=⟨_,rfl,h⟩
   refine A4S (fun m ph st=>∃ (x2:Int) (lv2:(List A4)),W0 F s x rv4 e2 K10 m x2 lv2=some r∧ph=SX.norm∧st=⟨[(0,.d (.v (.func (.yield lb) #[] #[]))),(4,.ref 7 4 0 0),(18,.d (.arr 6 ((rv4.2.squibs).map C6.d))),(19,.d (vI (rv4.2.squibs.length:Int))),(20,.d (vI x2))],[bx 7 (.d (B0.d p)),bx 6 (.d (A6.d s)),bx 1 (.row 6 2 0 (lv2).length),c1 (vI x),c1 (vI rv4.1),bx 7 (.d (B0.d rv4.2)),A8 lv2,bx 4 (.d (.agg [vI e2.F8,vI e2.F7,vI e2.G0,vI e2.F9]))]⟩) (.prn [0,4,18,19,20] R) ⟨0,lv,h,R,R⟩ ?_
   clear h
   rintro m10 ph st ⟨x2,lv2,h,rfl,rfl⟩
   cases m10 with
   | zero=>cases(show(none:Option ((List A4) × Int))=some r from h)
   | succ m10 =>
   rw[W0]at h
   refine J4 (Q4 (O0 ?_))
   refine G8 R R R R ?_ ?_
   ·intro c5
    replace h:=H1 c5 h
    refine I9 (D6 (J4 (Z9 R (T8 (D6 (J4 (A1g (J4 (Q4 (O0 (A0 R ?_)))))))))))
    obtain⟨e3,ie3,h⟩:=H0 h
    refine J9 tb (S0 ie3) (P6 ie3) R (H9 (y:=C6.d e3) tb (Q6 (g:=C6.d) ie3) R (N0 tb R R R R R (A3 R (I5 _ _ tb R (I9 (D6 (J4 (A5Z (P5 kR (C7 tb R (C7 tb R (B7 (y:=vI e2.F8) tb R (C7 tb R (C7 tb R (B7 (y:=vI e3.A0o) tb R (O6 R R R R (C7 tb R (C7 tb R (B7 (y:=vI e3.A0o) tb R (C7 tb R (C7 tb R (B7 (y:=vI e2.F7) tb R (O6 R R R R ?_)))))))))))))))))))))))
    refine A4a R R R R R (C7 tb R (C7 tb R (B7 (y:=vI e2.G0) tb R (C7 tb R (C7 tb R (B7 (y:=vI e3.A0p) tb R (O6 R R R R (C7 tb R (C7 tb R (B7 (y:=vI e3.A0p) tb R (C7 tb R (C7 tb R (B7 (y:=vI e2.F9) tb R (O6 R R R R (A4a R R R R R (A3 R (A3 R (F6 kR (D6 (J4 (Q4 (O0 (A0 R (A0 R (A0L R R R R (A0 R (A0 R ?_)))))))))))))))))))))))))))
    refine A0L R R R R (H4 R (C7 tb R (B7 (y:=vI e3.clear) tb R (C7 tb R (B7 (y:=vI e3.clear) tb R (A0L R R R R ?_))))))
    refine G8 R R R R ?_ ?_
    ·intro c6
     replace h:=H1 c6 h
     refine A0 R (A0 R (A0 R (A47 ?_)))
     (with_reducible apply A4P (ys:=[vI x2]));(iterate 7 exact rfl)
     dsimp only[B1t]
     refine E5 (A3 R (L5 ?_))
     refine⟨R,B0L ?_⟩
     refine D0 (qG (C7 tb R (B7 (y := .arr 1 ((s.squibs).map vI)) tb R (A0 R ?_))))
     obtain⟨e4,ie4,h⟩:=H0 h
     refine J9 tb (S0 ie4) (P6 ie4) R (H9 (y:=vI e4) tb (Q6 (g:=vI) ie4) R ?_)
     refine Q0 R R R R ?_ ?_
     ·intro c7
      replace h:=H1 c7 h
      refine eN (A9 R (E5 (A0T tb R R R R R R R R R (A0 R (B7 (y:=vI x) tb R (L4 (v := .d (.agg [vI x2,vI x])) tb R R (List.cons_ne_nil _ _) R R R R R R (R8 tb R R R R R R R R R R R R R ?_)))))))
      obtain⟨q,iq,h⟩:=H0 h
      refine A78 (g:=A4.d) (w:=lv2) (v:=[(A4.mk x2 x)]) ([bx 7 (.d (B0.d p)),bx 6 (.d (A6.d s)),bx 1 (.row 6 2 0 (lv2).length),c1 (vI x),c1 (vI rv4.1),bx 7 (.d (B0.d rv4.2)),none,bx 4 (.d (.agg [vI e2.F8,vI e2.F7,vI e2.G0,vI e2.F9])),bx 6 (.d (C6.d e3)),A8 [(A4.mk x2 x)]]) tb R R R R R R R R R R R iq R R R R R (I5 _ _ tb R ?_)
      refine L5 (C3 ?_)
      refine⟨[bx 7 (.d (B0.d p)),bx 6 (.d (A6.d s)),bx 1 (.row 9 2 0 (q).length),c1 (vI x),c1 (vI rv4.1),bx 7 (.d (B0.d rv4.2)),none,bx 4 (.d (.agg [vI e2.F8,vI e2.F7,vI e2.G0,vI e2.F9])),bx 6 (.d (C6.d e3)),A8 q],[0,1,2,3,4,5,6,7,8,10],(vK (.cons R R (.cons R R (.cons R R (.cons R R (.cons R R (.cons R R (.gone R (.cons R R (.cons R R O7))))))))) R),?_⟩
      with_reducible apply A65
      refine O0 (M2 R R R (B5 R (I9 (D6 (R1 R (T8 (W6 (D6 (Q4 (O0 (H4 R (A0 R (I9 (D6 ?_))))))))))))))
      exact⟨m10,⟨[(0,.d (.v (.func (.yield lb) #[] #[]))),(4,.ref 7 4 0 0),(18,.d (.arr 6 ((rv4.2.squibs).map C6.d))),(19,.d (vI (rv4.2.squibs.length:Int))),(20,.d (vI (W (x2+1))))],[bx 7 (.d (B0.d p)),bx 6 (.d (A6.d s)),bx 1 (.row 6 2 0 (q).length),c1 (vI x),c1 (vI rv4.1),bx 7 (.d (B0.d rv4.2)),A8 q,bx 4 (.d (.agg [vI e2.F8,vI e2.F7,vI e2.G0,vI e2.F9]))]⟩,lS,.vw (κ:=[0,1,2,3,4,5,9,7]) (vK (.cons R R (.cons R R (.cons R R (.cons R R (.cons R R (.cons R R (.row R (.cons R R .nil)))))))) R),(W (x2+1)),q,h,R,R⟩
     intro c7
     replace h:=J0 c7 h
     refine eN (A5 R (C0 (C3 ?_)))
     refine⟨[bx 7 (.d (B0.d p)),bx 6 (.d (A6.d s)),bx 1 (.row 6 2 0 (lv2).length),c1 (vI x),c1 (vI rv4.1),bx 7 (.d (B0.d rv4.2)),A8 lv2,bx 4 (.d (.agg [vI e2.F8,vI e2.F7,vI e2.G0,vI e2.F9])),bx 6 (.d (C6.d e3))],[0,1,2,3,4,5,6,7,8],(vK (.cons R R (.cons R R (.cons R R (.cons R R (.cons R R (.cons R R (.row R (.cons R R (.cons R R .nil))))))))) R),?_⟩
     with_reducible apply A65
     refine O0 (M2 R R R (B5 R (I9 (D6 (R1 R (T8 (W6 (D6 (Q4 (O0 (H4 R (A0 R (I9 (D6 ?_))))))))))))))
     exact⟨m10,⟨[(0,.d (.v (.func (.yield lb) #[] #[]))),(4,.ref 7 4 0 0),(18,.d (.arr 6 ((rv4.2.squibs).map C6.d))),(19,.d (vI (rv4.2.squibs.length:Int))),(20,.d (vI (W (x2+1))))],[bx 7 (.d (B0.d p)),bx 6 (.d (A6.d s)),bx 1 (.row 6 2 0 (lv2).length),c1 (vI x),c1 (vI rv4.1),bx 7 (.d (B0.d rv4.2)),A8 lv2,bx 4 (.d (.agg [vI e2.F8,vI e2.F7,vI e2.G0,vI e2.F9]))]⟩,lS,.vw (κ:=[0,1,2,3,4,5,6,7]) (vK (.cons R R (.cons R R (.cons R R (.cons R R (.cons R R (.cons R R (.row R (.cons R R .nil)))))))) R),(W (x2+1)),lv2,h,R,R⟩
    intro c6
    replace h:=J0 (nL c6) h
    refine A0 R (H7 4 R (C4 R (I9 (D6 (R1 R (T8 (W6 (D6 (Q4 (O0 (H4 R (A0 R (I9 (D6 ?_))))))))))))))
    exact⟨m10,⟨[(0,.d (.v (.func (.yield lb) #[] #[]))),(4,.ref 7 4 0 0),(18,.d (.arr 6 ((rv4.2.squibs).map C6.d))),(19,.d (vI (rv4.2.squibs.length:Int))),(20,.d (vI (W (x2+1))))],[bx 7 (.d (B0.d p)),bx 6 (.d (A6.d s)),bx 1 (.row 6 2 0 (lv2).length),c1 (vI x),c1 (vI rv4.1),bx 7 (.d (B0.d rv4.2)),A8 lv2,bx 4 (.d (.agg [vI e2.F8,vI e2.F7,vI e2.G0,vI e2.F9]))]⟩,lS,.vw (κ:=[0,1,2,3,4,5,6,7]) (vK (.cons R R (.cons R R (.cons R R (.cons R R (.cons R R (.cons R R (.row R (.cons R R .nil)))))))) R),(W (x2+1)),lv2,h,R,R⟩
   intro c5
   replace h:=J0 (nL c5) h
   refine I9 (D6 (J4 (R1 R (A5Y (A06 (A06 ?_))))))
   subst hK10
   refine A2Q ?_
   refine⟨R,[bx 7 (.d (B0.d p)),bx 6 (.d (A6.d s)),bx 1 (.row 6 2 0 (lv2).length),c1 (vI x),c1 (vI rv4.1),bx 7 (.d (B0.d rv4.2)),A8 lv2],[0,1,2,3,4,5,6],(vK (.cons R R (.cons R R (.cons R R (.cons R R (.cons R R (.cons R R O7)))))) R),?_⟩
   refine C3 (C3 (A1 ?_))
   refine O1 fun df=>?_
   refine E5 (H4 R (A0 R (eN ?_)))
   exact⟨m6,⟨[(2,.ref 0 7 0 0),(3,.ref 1 6 0 0),(4,.ref 2 1 0 0),(5,.d (vI rv.2.2)),(24,.d (.arr 1 ((s.zones).map vI))),(25,.d (vI (s.zones.length:Int))),(26,.d (vI (W (x+1))))],[bx 7 (.d (B0.d p)),bx 6 (.d (A6.d s)),bx 1 (.row 3 2 0 (lv2).length),A8 lv2]⟩,lS,.vw (κ:=[0,1,2,6]) (vK (.cons R R (.cons R R (.cons R R O7))) R),lv2,(W (x+1)),h,R⟩
  intro c3
  replace h:=J0 (nL c3) h
  refine eN (L9 ?_)
  refine O1 fun df=>?_
  refine A5 R (I4 (C8 (C8 ?_)))
  subst hK6
  refine F3 (A1 ?_)
  refine O1 fun df=>?_
  refine qG (A0T tb R R R R R R R R R ?_)
  obtain⟨rv5,k5,h⟩:=H0 h
  refine G5 (t' := .d (.tup [])) (ls:=[A8 rv5]) (news:=[]) ([3]) ([bx 7 (.d (B0.d p)),bx 6 (.d (A6.d s)),bx 1 (.row 3 2 0 (lv).length),A8 rv5]) (A0q (F4 k5).1) eK R (.inl ⟨R,R,R⟩) R R R R A14 R R R ((.row .nil)) .nil R R R R ?_
  first | (dsimp only[D5,D8];rw[← (F4 k5).2]) | rw[← (F4 k5).2] | skip
  refine eN (qG (A0T tb R R R R R R R R R (I5 _ _ tb R (A3 R (eN (C9 ?_))))))
  obtain rfl:=sI h
  exact f2 [3] O7 R (.cons (rc tb R) (.cons (.tmp 5) .nil)) R
 intro c2
 replace h:=X9 c2 h
 refine M3 R R R (eN (A9 R (qG (I5 _ _ tb R (A3 R (eN ?_))))))
 refine SW.own (ts':=[(4,.ref 2 1 0 0),(5,.d (vI 6))]) (L':=[bx 7 (.d (B0.d p)),bx 6 (.d (A6.d s)),bx 1 (.row 7 2 0 (([]:List A4)).length),bx 13 (D8 t 4 5 6),F5 t.C1,F5 t.C2,F5 t.A7]) 2 R R (.cons (.same _) (.cons (.same _) .nil)) (.same (.same (.cons R (.cons .nil .nil) (.same (.same (.same (.same .nil))))))) ?_
 simp only[List.cons_append,List.nil_append]
 refine C9 (B1 ?_)
 obtain rfl:=sI h
 exact f2 [7] O7 R (.cons (rc tb R) (.cons (.tmp 5) .nil)) R
theorem B4V {F:Nat} {p:B0} {s:A6} {r:((List A4) × Int)} (h:A2B F p s=some r):PC Tryz.prog 21 [B0.d p,A6.d s] (.tup [.arr 2 ((r.1).map A4.d),.v (.int .i64 r.2)]):=(A5D h).toPC (.tupL (.cons (.row rfl rfl) (.cons (.d _) .nil)))
def A2V (F:Nat) (a:Int) (b:Int) (c:Int) (d:Int):Option A8B:=some (A8B.mk a b c d)
theorem A3R {F:Nat} {a:Int} {b:Int} {c:Int} {d:Int} {r:A8B} (h:A2V F a b c d=some r):PC Tryz.prog 59 [.v (.int .i64 a),.v (.int .i64 b),.v (.int .i64 c),.v (.int .i64 d)] (A8B.d r):=by
 rw[A2V]at h
 refine SC.of_sw Tryz.func59 R R R ?_
 dsimp only[M1,List.map]
 refine qG (N0 tb R R R R R (eN (qG (A0 R (A0 R (L4 (v := .d (.agg [vI a,vI b])) tb R R (List.cons_ne_nil _ _) R R R R R R (A0 R (A0 R (L4 (v := .d (.agg [vI c,vI d])) tb R R (List.cons_ne_nil _ _) R R R R R R (L4 (v := .d (.agg [vI a,vI b,vI c,vI d])) tb R R (List.cons_ne_nil _ _) R R R R R R (I5 _ _ tb R (eN (C9 ?_)))))))))))))
 obtain rfl:=sI h
 exact Q2 (t := .d (.agg [vI a,vI b,vI c,vI d])) R R R (.cons (rc tb R) .nil)
def A4F (F:Nat) :Option B0:=(A2V F (-500000) (-400000) 0 50000).bind fun rv=>(A2V F (-300000) (-100000) (-10000) 10000).bind fun rv2=>(A2V F (-5000) 5000 (-5000) 5000).bind fun rv3=>some (B0.mk [(E9.mk (ByteArray.mk #[98,117,110,107,101,114]) rv.A6d rv.A6c rv.A6f rv.A6e 0 8 false),(E9.mk (ByteArray.mk #[114,111,97,100]) rv2.A6d rv2.A6c rv2.A6f rv2.A6e 1 4 false),(E9.mk (ByteArray.mk #[114,97,105,108]) rv3.A6d rv3.A6c rv3.A6f rv3.A6e 2 2 true)] [(I0.mk (-1) 0),(I0.mk 0 1),(I0.mk 2 1)] [(E3.mk (ByteArray.mk #[97,110,110]) 5),(E3.mk (ByteArray.mk #[98,111,98]) 2),(E3.mk (ByteArray.mk #[101,118,101]) 1)] [(ByteArray.mk #[114,101,100]),(ByteArray.mk #[98,108,117,101]),(ByteArray.mk #[103,114,101,121])] [(C6.mk (ByteArray.mk #[109,111,116,111,114]) 0 0 100000 5 [0,1]),(C6.mk (ByteArray.mk #[99,104,117,116,101]) 0 3000 20000 3 [2])] 0 100)
theorem A5d {F:Nat}  {r:B0} (h:A4F F =some r):PC Tryz.prog 30 [] (B0.d r):=by
 rw[A4F]at h
 refine PC.of_lend ?_
 refine SC.of_sw Tryz.func30 R R R ?_
 dsimp only[M1,List.map]
 refine qG (N0 tb R R R R R (eN (qG (A3 R (eN (qG (A0 R ?_)))))))
 obtain⟨rv,k,h⟩:=H0 h
 refine N5 (A3R k) eK R R R R (L4 (v := .d (.agg [.v (.string (ByteArray.mk #[98,117,110,107,101,114])),vI rv.A6d,vI rv.A6c,vI rv.A6f,vI rv.A6e,vI 0,vI 8,.v (.bool false)])) tb R R (List.cons_ne_nil _ _) R R R R R R (A0 R ?_))
 obtain⟨rv2,k2,h⟩:=H0 h
 refine N5 (A3R k2) eK R R R R (L4 (v := .d (.agg [.v (.string (ByteArray.mk #[114,111,97,100])),vI rv2.A6d,vI rv2.A6c,vI rv2.A6f,vI rv2.A6e,vI 1,vI 4,.v (.bool false)])) tb R R (List.cons_ne_nil _ _) R R R R R R (A0 R ?_))
 obtain⟨rv3,k3,h⟩:=H0 h
 refine N5 (A3R k3) eK R R R R (L4 (v := .d (.agg [.v (.string (ByteArray.mk #[114,97,105,108])),vI rv3.A6d,vI rv3.A6c,vI rv3.A6f,vI rv3.A6e,vI 2,vI 2,.v (.bool true)])) tb R R (List.cons_ne_nil _ _) R R R R R R (R8 tb R R R R R R R R R R R R R (L4 (v := .d (.agg [vI (-1),vI 0])) tb R R (List.cons_ne_nil _ _) R R R R R R ?_)))
 refine L4 (v := .d (.agg [vI 0,vI 1])) tb R R (List.cons_ne_nil _ _) R R R R R R (L4 (v := .d (.agg [vI 2,vI 1])) tb R R (List.cons_ne_nil _ _) R R R R R R (R8 tb R R R R R R R R R R R R R (L4 (v := .d (.agg [.v (.string (ByteArray.mk #[97,110,110])),vI 5])) tb R R (List.cons_ne_nil _ _) R R R R R R ?_)))
 refine L4 (v := .d (.agg [.v (.string (ByteArray.mk #[98,111,98])),vI 2])) tb R R (List.cons_ne_nil _ _) R R R R R R (L4 (v := .d (.agg [.v (.string (ByteArray.mk #[101,118,101])),vI 1])) tb R R (List.cons_ne_nil _ _) R R R R R R (R8 tb R R R R R R R R R R R R R (R8 tb R R R R R R R R R R R R R (R8 tb R R R R R R R R R R R R R ?_))))
 refine L4 (v:=A4V (C6.mk (ByteArray.mk #[109,111,116,111,114]) 0 0 100000 5 [0,1]) 5) tb R R (List.cons_ne_nil _ _) R R R R R R (L4 (v := .d (.agg [vI 0,vI 3000])) tb R R (List.cons_ne_nil _ _) R R R R R R (R8 tb R R R R R R R R R R R R R (L4 (v:=A4V (C6.mk (ByteArray.mk #[99,104,117,116,101]) 0 3000 20000 3 [2]) 6) tb R R (List.cons_ne_nil _ _) R R R R R R (R8 tb R R R R R R R R R R R R R ?_))))
 refine L4 (v := .agg [.row 1 8 0 ([(E9.mk (ByteArray.mk #[98,117,110,107,101,114]) rv.A6d rv.A6c rv.A6f rv.A6e 0 8 false),(E9.mk (ByteArray.mk #[114,111,97,100]) rv2.A6d rv2.A6c rv2.A6f rv2.A6e 1 4 false),(E9.mk (ByteArray.mk #[114,97,105,108]) rv3.A6d rv3.A6c rv3.A6f rv3.A6e 2 2 true)]).length,.row 2 2 0 ([(I0.mk (-1) 0),(I0.mk 0 1),(I0.mk 2 1)]).length,.row 3 2 0 ([(E3.mk (ByteArray.mk #[97,110,110]) 5),(E3.mk (ByteArray.mk #[98,111,98]) 2),(E3.mk (ByteArray.mk #[101,118,101]) 1)]).length,.row 4 1 0 ([(ByteArray.mk #[114,101,100]),(ByteArray.mk #[98,108,117,101]),(ByteArray.mk #[103,114,101,121])]).length,.row 7 6 0 2,.d (vI 0),.d (vI 100)]) tb R R (List.cons_ne_nil _ _) R R R R R R ?_
 refine I5 _ _ tb R (eN (C9 ?_))
 obtain rfl:=sI h
 exact(L8 (t := .agg [.row 0 8 0 ([(E9.mk (ByteArray.mk #[98,117,110,107,101,114]) rv.A6d rv.A6c rv.A6f rv.A6e 0 8 false),(E9.mk (ByteArray.mk #[114,111,97,100]) rv2.A6d rv2.A6c rv2.A6f rv2.A6e 1 4 false),(E9.mk (ByteArray.mk #[114,97,105,108]) rv3.A6d rv3.A6c rv3.A6f rv3.A6e 2 2 true)]).length,.row 1 2 0 ([(I0.mk (-1) 0),(I0.mk 0 1),(I0.mk 2 1)]).length,.row 2 2 0 ([(E3.mk (ByteArray.mk #[97,110,110]) 5),(E3.mk (ByteArray.mk #[98,111,98]) 2),(E3.mk (ByteArray.mk #[101,118,101]) 1)]).length,.row 3 1 0 ([(ByteArray.mk #[114,101,100]),(ByteArray.mk #[98,108,117,101]),(ByteArray.mk #[103,114,101,121])]).length,.row 4 6 0 2,.d (vI 0),.d (vI 100)]) (L:=[B3A [(E9.mk (ByteArray.mk #[98,117,110,107,101,114]) rv.A6d rv.A6c rv.A6f rv.A6e 0 8 false),(E9.mk (ByteArray.mk #[114,111,97,100]) rv2.A6d rv2.A6c rv2.A6f rv2.A6e 1 4 false),(E9.mk (ByteArray.mk #[114,97,105,108]) rv3.A6d rv3.A6c rv3.A6f rv3.A6e 2 2 true)],B39 [(I0.mk (-1) 0),(I0.mk 0 1),(I0.mk 2 1)],B1L [(E3.mk (ByteArray.mk #[97,110,110]) 5),(E3.mk (ByteArray.mk #[98,111,98]) 2),(E3.mk (ByteArray.mk #[101,118,101]) 1)],A8z [(ByteArray.mk #[114,101,100]),(ByteArray.mk #[98,108,117,101]),(ByteArray.mk #[103,114,101,121])],some ⟨6,[A4V (C6.mk (ByteArray.mk #[109,111,116,111,114]) 0 0 100000 5 [0,1]) 5,A4V (C6.mk (ByteArray.mk #[99,104,117,116,101]) 0 3000 20000 3 [2]) 6]⟩,F5 [0,1],F5 [2]]) (κ:=[1,2,3,4,7,5,6]) R (.cons (rc tb R) .nil) (vK (.row R (.row R (.row R (.row R (.cons R R B7a))))) R) ⟨_,R,(.aggL (.cons (.row R R) (.cons (.row R R) (.cons (.row R R) (.cons (.row R R) (.cons (.rowL R R (.cons (.aggL (dL (dL (dL (dL (dL (.cons (.row R R) .nil))))))) (.cons (.aggL (dL (dL (dL (dL (dL (.cons (.row R R) .nil))))))) .nil))) (dL (dL .nil))))))))⟩)
def B0m (F:Nat) :Option (List D4):=some [(D4.mk 0 1 0 0 1),(D4.mk 1 2 0 0 (-1)),(D4.mk 1 2 1 1 (-1)),(D4.mk 2 1 0 1 1),(D4.mk 3 1 0 2 1),(D4.mk 4 1 2 0 (-1)),(D4.mk 4 2 2 2 (-1)),(D4.mk 5 8 2 1 (-1)),(D4.mk 6 5 2 0 (-1)),(D4.mk 6 1 0 2 (-1)),(D4.mk 10 1 0 0 1),(D4.mk 11 3 0 0 (-1)),(D4.mk 12 3 1 1 (-1)),(D4.mk 104 5 0 0 (-1)),(D4.mk 105 5 0 0 (-1)),(D4.mk 105 5 0 1 (-1)),(D4.mk 106 1 2 1 (-1)),(D4.mk 107 1 2 2 (-1)),(D4.mk 108 1 2 0 (-1)),(D4.mk 108 2 2 0 (-1)),(D4.mk 109 9 0 1 (-1)),(D4.mk 110 8 2 0 (-1)),(D4.mk 111 5 0 0 (-1))]
theorem A8R {F:Nat}  {r:(List D4)} (h:B0m F =some r):SCR Tryz.prog 31 (List.map T.d []) [] (.row 0 5 0 (r).length) (List.map some [(B0l r)]):=by
 rw[B0m]at h
 refine SC.of_sw Tryz.func31 R R R ?_
 dsimp only[M1,List.map]
 refine qG (A3 R (eN (qG (L4 (v := .d (.agg [vI 0,vI 1,vI 0,vI 0,vI 1])) tb R R (List.cons_ne_nil _ _) R R R R R R (L4 (v := .d (.agg [vI 1,vI 2,vI 0,vI 0,vI (-1)])) tb R R (List.cons_ne_nil _ _) R R R R R R (L4 (v := .d (.agg [vI 1,vI 2,vI 1,vI 1,vI (-1)])) tb R R (List.cons_ne_nil _ _) R R R R R R ?_))))))
 refine L4 (v := .d (.agg [vI 2,vI 1,vI 0,vI 1,vI 1])) tb R R (List.cons_ne_nil _ _) R R R R R R (L4 (v := .d (.agg [vI 3,vI 1,vI 0,vI 2,vI 1])) tb R R (List.cons_ne_nil _ _) R R R R R R (L4 (v := .d (.agg [vI 4,vI 1,vI 2,vI 0,vI (-1)])) tb R R (List.cons_ne_nil _ _) R R R R R R ?_))
 refine L4 (v := .d (.agg [vI 4,vI 2,vI 2,vI 2,vI (-1)])) tb R R (List.cons_ne_nil _ _) R R R R R R (L4 (v := .d (.agg [vI 5,vI 8,vI 2,vI 1,vI (-1)])) tb R R (List.cons_ne_nil _ _) R R R R R R (L4 (v := .d (.agg [vI 6,vI 5,vI 2,vI 0,vI (-1)])) tb R R (List.cons_ne_nil _ _) R R R R R R ?_))
 refine L4 (v := .d (.agg [vI 6,vI 1,vI 0,vI 2,vI (-1)])) tb R R (List.cons_ne_nil _ _) R R R R R R (L4 (v := .d (.agg [vI 10,vI 1,vI 0,vI 0,vI 1])) tb R R (List.cons_ne_nil _ _) R R R R R R (L4 (v := .d (.agg [vI 11,vI 3,vI 0,vI 0,vI (-1)])) tb R R (List.cons_ne_nil _ _) R R R R R R ?_))
 refine L4 (v := .d (.agg [vI 12,vI 3,vI 1,vI 1,vI (-1)])) tb R R (List.cons_ne_nil _ _) R R R R R R (L4 (v := .d (.agg [vI 104,vI 5,vI 0,vI 0,vI (-1)])) tb R R (List.cons_ne_nil _ _) R R R R R R (L4 (v := .d (.agg [vI 105,vI 5,vI 0,vI 0,vI (-1)])) tb R R (List.cons_ne_nil _ _) R R R R R R ?_))
 refine L4 (v := .d (.agg [vI 105,vI 5,vI 0,vI 1,vI (-1)])) tb R R (List.cons_ne_nil _ _) R R R R R R (L4 (v := .d (.agg [vI 106,vI 1,vI 2,vI 1,vI (-1)])) tb R R (List.cons_ne_nil _ _) R R R R R R (L4 (v := .d (.agg [vI 107,vI 1,vI 2,vI 2,vI (-1)])) tb R R (List.cons_ne_nil _ _) R R R R R R ?_))
 refine L4 (v := .d (.agg [vI 108,vI 1,vI 2,vI 0,vI (-1)])) tb R R (List.cons_ne_nil _ _) R R R R R R (L4 (v := .d (.agg [vI 108,vI 2,vI 2,vI 0,vI (-1)])) tb R R (List.cons_ne_nil _ _) R R R R R R (L4 (v := .d (.agg [vI 109,vI 9,vI 0,vI 1,vI (-1)])) tb R R (List.cons_ne_nil _ _) R R R R R R ?_))
 refine L4 (v := .d (.agg [vI 110,vI 8,vI 2,vI 0,vI (-1)])) tb R R (List.cons_ne_nil _ _) R R R R R R (L4 (v := .d (.agg [vI 111,vI 5,vI 0,vI 0,vI (-1)])) tb R R (List.cons_ne_nil _ _) R R R R R R (R8 tb R R R R R R R R R R R R R (A0j R R R (eN (C9 ?_)))))
 obtain rfl:=sI h
 exact f2 [0] O7 R (.cons (.tmp 0) .nil) R
theorem B6A {F:Nat}  {r:(List D4)} (h:B0m F =some r):PC Tryz.prog 31 [] (.arr 5 ((r).map D4.d)):=(A8R h).toPC (.row rfl rfl)
def A6s (F:Nat) :Option (List Int):=some [0,0,0,0,174,0,0,0,172,174,0,0,0,179,0,174,0,172,0,177,0,0,173]
theorem A6I {F:Nat}  {r:(List Int)} (h:A6s F =some r):SCR Tryz.prog 33 (List.map T.d []) [] (.row 0 1 0 (r).length) (List.map some [(lvI r)]):=by
 rw[A6s]at h
 refine SC.of_sw Tryz.func33 R R R ?_
 dsimp only[M1,List.map]
 refine qG (A3 R (eN (qG (R8 tb R R R R R R R R R R R R R (A0j R R R (eN (C9 ?_)))))))
 obtain rfl:=sI h
 exact f2 [0] O7 R (.cons (.tmp 0) .nil) R
theorem B5k {F:Nat}  {r:(List Int)} (h:A6s F =some r):PC Tryz.prog 33 [] (.arr 1 ((r).map vI)):=(A6I h).toPC (.row rfl rfl)
def A7r (F:Nat) :Option Bool:=(A4F F ).bind fun rv=>(A6w F rv).bind fun rv2=>(A4F F ).bind fun rv3=>(B0m F ).bind fun rv4=>(A7z F rv3 rv2.1 rv4).bind fun rv5=>(A4F F ).bind fun rv6=>(A9e F rv6 3 0).bind fun rv7=>if rv2.2=0 then(if rv5.2.2=0 then(if rv7.2=4 then((A6s F ).bind fun rv8=>(A7X F rv5.2.1 rv8).bind fun rv9=>some rv9)else(some false))else(some false))else(some false)
theorem B2g {F:Nat}  {r:Bool} (h:A7r F =some r):PC Tryz.prog 11 [] (.v (.bool r)):=by
 rw[A7r]at h
 refine SC.of_sw Tryz.func11 R R R ?_
 dsimp only[M1,List.map]
 refine qG (A3 R (eN (qG ?_)))
 obtain⟨rv,k,h⟩:=H0 h
 refine N5 (A5d k) eK R R R R ?_
 obtain⟨rv2,k2,h⟩:=H0 h
 refine A0n (t' := .tup [D5 rv2.1 0 1 2,.d (vI rv2.2)]) (news':=[(lvI rv2.1.zones),(lvI rv2.1.holder),(lvI rv2.1.squibs)]) (A6L k2) eK R R R ((.row (.row (.row .nil)))) R R R (A2G (.tup [D5 rv2.1 0 1 2,.d (vI rv2.2)]) R R R (A5T (t:=D5 rv2.1 0 1 2) R R R R (A5T (t := .d (vI rv2.2)) R R R R (N0 tb R R R R R (I5 _ _ tb R (A3 R (eN (B8 (P5 kR ?_)))))))))
 obtain⟨rv3,k3,h⟩:=H0 h
 refine N5 (A5d k3) eK R R R R (A9n tb R R R R R R R R R ?_)
 obtain⟨rv4,k4,h⟩:=H0 h
 refine A0n (t' := .row 4 5 0 (rv4).length) (news':=[(B0l rv4)]) (A8R k4) eK R R R ((.row .nil)) R R R ?_
 obtain⟨rv5,k5,h⟩:=H0 h
 refine A5S (t' := .tup [D5 rv5.1 5 6 7,.row 8 1 0 (rv5.2.1).length,.d (vI rv5.2.2)]) (news':=[(lvI rv5.1.zones),(lvI rv5.1.holder),(lvI rv5.1.squibs),(lvI rv5.2.1)]) (A70 k5) R ((.row (fun _=>rfl) (.row (fun _=>rfl) (.row (fun _=>rfl) (.row (fun _=>rfl) .nil))))) eK R R ((dL (.cons (.aggL (dL (.cons (.row R R) (.cons (.row R R) (.cons (.row R R) (dL (dL .nil))))))) (.cons (.row R R) .nil)))) R ((.row (.row (.row (.row .nil))))) R R R ?_
 refine A2G (.tup [D5 rv5.1 5 6 7,.row 8 1 0 (rv5.2.1).length,.d (vI rv5.2.2)]) R R R (A5T (t:=D5 rv5.1 5 6 7) R R R R (A5T (t := .row 8 1 0 (rv5.2.1).length) R R R R (A5T (t := .d (vI rv5.2.2)) R R R R (N0 tb R R R R R (I5 _ _ tb R (A0j R R R (A3 R (F6 kR (A1 (qG ?_))))))))))
 obtain⟨rv6,k6,h⟩:=H0 h
 refine N5 (A5d k6) eK R R R R ?_
 obtain⟨rv7,k7,h⟩:=H0 h
 refine N5 (B1m k7) eK R R R R (A0 R (S3 (t := .v (.bool rv7.1)) R R R R (S3 (t:=vI rv7.2) R R R R (A3 R (A3 R (eN (qG (A0 R ?_))))))))
 refine Q0 R R R R ?_ ?_
 ·intro c
  replace h:=H1 c h
  refine A0 R (A0 R ?_)
  refine Q0 R R R R ?_ ?_
  ·intro c2
   replace h:=H1 c2 h
   refine B5 R (A0 R (A0 R ?_))
   refine Q0 R R R R ?_ ?_
   ·intro c3
    replace h:=H1 c3 h
    refine B5 R (A0 R (I1 R R R ?_))
    obtain⟨rv8,k8,h⟩:=H0 h
    refine A0n (t' := .row 10 1 0 (rv8).length) (news':=[(lvI rv8)]) (A6I k8) eK R R R ((.row .nil)) R R R ?_
    obtain⟨rv9,k9,h⟩:=H0 h
    refine A2N (B06 k9) R eK R R ((.cons (.row R R) (.cons (.row R R) .nil))) R R (B5 R (A3 R (eN (C9 ?_))))
    obtain rfl:=sI h
    exact f1 0 R
   intro c3
   replace h:=J0 c3 h
   refine B5 R (A0 R (H7 3 R (C4 R (A3 R (eN (C9 ?_))))))
   obtain rfl:=sI h
   exact f1 0 R
  intro c2
  replace h:=J0 c2 h
  refine B5 R (A0 R (H7 2 R (C4 R (A0 R (H7 3 R (C4 R (A3 R (eN (C9 ?_)))))))))
  obtain rfl:=sI h
  exact f1 0 R
 intro c
 replace h:=J0 c h
 refine A0 R (H7 2 R (C4 R (A0 R (H7 2 R (C4 R (A0 R (H7 3 R (C4 R (A3 R (eN (C9 ?_)))))))))))
 obtain rfl:=sI h
 exact f1 0 R
def A0c (F:Nat) (rv3:((List A4) × Int)) (rv4:((List A4) × Int)) (K:Int→Option Bool):Nat→Int→Option Bool
 | 0,_=>none
 | n+1,i=>if i<(rv3.1.length:Int)then((P7 rv3.1 i).bind fun e=>(P7 rv4.1 i).bind fun e2=>if(!(A4.beq e e2))=true then(some false)else(A0c F rv3 rv4 K n (W (i+1))))else(K i)
def A2o (F:Nat) (rv3:((List A4) × Int)) (rv4:((List A4) × Int)):Option Bool:=A0c F rv3 rv4 (fun(i:Int)=>(A7r 100 ).bind fun rv5=>some rv5) F 0
def A2W (F:Nat) (p:B0) (s:A6):Option Bool:=(A0G F p s).bind fun rv=>(A1J F p s).bind fun rv2=>if rv=rv2 then((A2B F p s).bind fun rv3=>(A3J F p s).bind fun rv4=>if rv3.2=rv4.2 then(if(rv3.1.length:Int)=(rv4.1.length:Int)then(A2o F rv3 rv4)else(some false))else(some false))else(some false)
theorem A8S {F:Nat} {p:B0} {s:A6} {r:Bool} (h:A2W F p s=some r):PC Tryz.prog 6 [B0.d p,A6.d s] (.v (.bool r)):=by
 rw[A2W]at h
 refine SC.of_sw Tryz.func6 R R R ?_
 dsimp only[M1,List.map]
 refine qG (M4 R (M4 R (A3 R (eN (B8 (B8 (P5 kR (B7 (y:=B0.d p) tb R (B7 (y:=A6.d s) tb R ?_)))))))))
 obtain⟨rv,k,h⟩:=H0 h
 refine N5 (A4l k) eK R R R R (B7 (y:=B0.d p) tb R (B7 (y:=A6.d s) tb R ?_))
 obtain⟨rv2,k2,h⟩:=H0 h
 refine N5 (A7W k2) eK R R R R ?_
 refine T6 R R R R ?_ ?_
 ·intro c
  replace h:=J0 c h
  refine F6 kR (A1 (A9 R (qG (A3 R (eN (C9 (B1 ?_)))))))
  obtain rfl:=sI h
  exact f1 4 R
 intro c
 replace h:=H1 c h
 refine F6 kR (A1 (A5 R (C0 (A1 (qG (B7 (y:=B0.d p) tb R (B7 (y:=A6.d s) tb R ?_)))))))
 obtain⟨rv3,k3,h⟩:=H0 h
 refine A0n (t' := .tup [.row 2 2 0 (rv3.1).length,.d (vI rv3.2)]) (news':=[(A3Q rv3.1)]) (A5D k3) eK R R R ((.row .nil)) R R R (A2G (.tup [.row 2 2 0 (rv3.1).length,.d (vI rv3.2)]) R R R (A5T (t := .row 2 2 0 (rv3.1).length) R R R R (A5T (t := .d (vI rv3.2)) R R R R (A0j R R R (A3 R (eN (qG (B7 (y:=B0.d p) tb R (B7 (y:=A6.d s) tb R ?_)))))))))
 obtain⟨rv4,k4,h⟩:=H0 h
 refine A0n (t' := .tup [.row 3 2 0 (rv4.1).length,.d (vI rv4.2)]) (news':=[(A3Q rv4.1)]) (A6N k4) eK R R R ((.row .nil)) R R R (A2G (.tup [.row 3 2 0 (rv4.1).length,.d (vI rv4.2)]) R R R (A5T (t := .row 3 2 0 (rv4.1).length) R R R R (A5T (t := .d (vI rv4.2)) R R R R (A0j R R R (A3 R (eN (B8 ?_)))))))
 refine N3 (fun zz:Unit=>A2o F rv3 rv4=some r) (fun zz:Unit=>⟨[(4,.d (.v (.bool false))),(5,.row 0 2 0 (rv3.1).length),(7,.row 1 2 0 (rv4.1).length)],[A8 rv3.1,A8 rv4.1]⟩) ?_ ?_
 ·clear h
  rintro⟨⟩ h
  rw[A2o]at h
  refine B8 (qG (A3 R (eN (D0 ?_))))
  obtain⟨K3,hK3,h⟩:∃ K,K=_∧A0c F rv3 rv4 K F 0=some r:=⟨_,rfl,h⟩
  refine H6 (fun m st=>∃ (i:Int),A0c F rv3 rv4 K3 m i=some r∧st=⟨[(4,.d (.v (.bool false))),(5,.row 0 2 0 (rv3.1).length),(7,.row 1 2 0 (rv4.1).length),(9,.d (vI i))],[A8 rv3.1,A8 rv4.1]⟩) (.prn [4,5,7,9] R) ⟨0,h,R⟩ ?_
  clear h
  rintro m3 st ⟨i,h,rfl⟩
  cases m3 with
  | zero=>cases(show(none:Option Bool)=some r from h)
  | succ m3 =>
  rw[A0c]at h
  refine B8 (qG (A0 R (I1 R R R (A3y tb R R R R R ?_))))
  refine G8 R R R R ?_ ?_
  ·intro c4
   replace h:=H1 c4 h
   refine eN (A9 R (C0 (A1 (B8 (D0 (B8 (P5 kR (I1 R R R (A0 R ?_)))))))))
   obtain⟨e,ie,h⟩:=H0 h
   refine Q5 tb R R R R R R (S0 ie) (ix1 ie) R R ?_
   refine V2 (y:=A4.d e) tb R R R R (Q6 (g:=fun a=>T.d (A4.d a)) ie) R R R R ?_
   refine I1 R R R (A0 R ?_)
   obtain⟨e2,ie2,h⟩:=H0 h
   refine Q5 tb R R R R R R (S0 ie2) (ix1 ie2) R R ?_
   refine V2 (y:=A4.d e2) tb R R R R (Q6 (g:=fun a=>T.d (A4.d a)) ie2) R R R R ?_
   refine B6w (p:=[.int .i64 e.squib,.int .i64 e.person]) (q:=[.int .i64 e2.squib,.int .i64 e2.person]) R R (fun o1 o2 w=>B7p e e2 o1 o2 w) R R ?_
   with_reducible apply Y9
   ·intro c5
    replace h:=H1 c5 h
    refine F6 kR (A1 (A9 R (qG (A3 R (eN (C9 (C5 (B1 (B1 (C5 (B1 ?_)))))))))))
    obtain rfl:=sI h
    exact f1 4 R
   intro c5
   replace h:=X9 c5 h
   refine F6 kR (A1 (A5 R (C0 (C3 (A1 (E5 (A0 R (H4 R (A3 R (eN ?_))))))))))
   exact⟨m3,_,lS,.prn [4,5,7,9] R,(W (i+1)),h,R⟩
  intro c4
  replace h:=J0 (nL c4) h
  refine eN (A5 R (I4 (C8 (C8 ?_))))
  subst hK3
  refine F3 (A1 (qG ?_))
  obtain⟨rv5,k5,h⟩:=H0 h
  refine N5 (B2g k5) eK R R R R (A3 R (eN (C9 ?_)))
  obtain rfl:=sI h
  exact f1 4 R
 refine qG (A0 R (A0 R ?_))
 refine T6 R R R R ?_ ?_
 ·intro c2
  replace h:=J0 c2 h
  refine A0 R (H7 5 R (B5 R (eN (A9 R (qG (A3 R (eN (C9 (B1 ?_)))))))))
  obtain rfl:=sI h
  exact f1 4 R
 intro c2
 replace h:=H1 c2 h
 refine A0 R (I1 R R R (A3y tb R R R R R (I1 R R R (A3y tb R R R R R ?_))))
 refine T6 R R R R ?_ ?_
 ·intro c3
  replace h:=J0 c3 h
  refine C4 R (eN (A9 R (qG (A3 R (eN (C9 (B1 ?_)))))))
  obtain rfl:=sI h
  exact f1 4 R
 intro c3
 replace h:=H1 c3 h
 refine C4 R (eN (A5 R (C0 (A1 ?_))))
 exact .inl ⟨(),h,.vw (κ:=[2,3]) (vK B7a R)⟩
end Go.Proofs.YthcnganbnbhhoaaGreat
