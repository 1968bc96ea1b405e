/- What functions of the program compute: plain functions, and the proofs. -/
import Derived.Test.YtlaogbbcipebgaaGreatW4
open Go Go.Proofs.YtlaogbbcipebgaaGreat.Sh Go.Proofs
namespace Go.Proofs.YtlaogbbcipebgaaGreat
set_option linter.unusedVariables false
set_option linter.unusedSimpArgs false
set_option maxRecDepth 100000
set_option maxHeartbeats 40000000
def C1U (F:Nat) (p:D4) (K:(List Int)→Int→Option ((List Int) × Int)):Nat→(List Int)→Int→Option ((List Int) × Int)
 | 0,_,_=>none
 | n+1,lv,x=>if x<(p.batteries.length:Int)then(none)else(K lv x)
def C1n (F:Nat) (B4:(List Int)→Int→Option ((List Int) × Int)) (lv2:(List Int)) (x2:Int) (nv2:Int):Option ((List Int) × Int):=Option.bind (A8i lv2 [nv2]) fun q=>B4 q (W (x2+1))
def A3S (F:Nat) (p:D4) (t:F7) (K:(List Int)→Int→Option ((List Int) × Int)):Nat→(List Int)→Int→Option ((List Int) × Int)
 | 0,_,_=>none
 | n+1,lv2,x2=>if x2<(p.batteries.length:Int)then(Option.bind (P3 p.batteries x2) fun e2=>Option.bind (P3 t.B0 x2) fun e3=>if e3=true then(Option.bind (P3 t.A7 x2) fun e4=>if e2.rate=0 then none else(C1n F (A3S F p t K n) lv2 x2 (W (t.H6+(W (Int.tdiv (W ((W (e4+e2.rate))-1)) e2.rate))))))else(C1n F (A3S F p t K n) lv2 x2 (-1)))else(K lv2 x2)
def C10 (F:Nat) (p:D4) (log:(List C7)):Option ((List Int) × Int):=Option.bind (A42 F p log) fun rv=>B2S rv.1 (if rv.2.2=0 then(C1U F p (fun(lv:(List Int)) (x:Int)=>some (lv,0)) F ([]:List Int) 0)else(some (([]:List Int),rv.2.2))) (fun t=>if rv.2.2=0 then(A3S F p t (fun(lv2:(List Int)) (x2:Int)=>some (lv2,0)) F ([]:List Int) 0)else(some (([]:List Int),rv.2.2)))
theorem C1Y {F:Nat} {p:D4} {log:(List C7)} {r:((List Int) × Int)} (h:C10 F p log=some r):SCR Tryz.prog 28 (List.map T.d [D4.d p,.arr 8 ((log).map C7.d)]) [] (.tup [.row 0 1 0 (r.1).length,.d (.v (.int .i64 r.2))]) (List.map some [(B7 r.1)]):=by
 rw[C10]at h
 refine SC.of_sw Tryz.func28 R R R ?_
 dsimp only[L8,List.map]
 refine qG (M9 R (A3 R (A3 R (eN (qG (B5 (y:=D4.d p) tb R (A0 R ?_)))))))
 obtain⟨rv,hrv,h⟩:=H1 h
 rcases Option.eq_none_or_eq_some rv.1 with nv | ⟨t,nv⟩
 ·replace h:=(B5h nv).symm.trans h
  refine G7 (t' := .tup [.d (.v (.pointer none)),.row 1 1 0 (rv.2.1).length,.d (vI rv.2.2)]) (ls:=[]) (news:=[(B7 rv.2.1)]) ([]) ([some ⟨13,[.d (D4.d p)]⟩,some (B7 rv.2.1)]) ((A4c hrv).none nv) (.of (by kernel_rfl)) R (.inl ⟨R,R,R⟩) R R R R .nil R R R .nil ((.row .nil)) R R R R (A1D (.tup [.d (.v (.pointer none)),.row 1 1 0 (rv.2.1).length,.d (vI rv.2.2)]) R R R (A1B (t := .d (.v (.pointer none))) R R R R (A1B (t := .row 1 1 0 (rv.2.1).length) R R R R ?_)))
  refine A1B (t := .d (vI rv.2.2)) R R R R (A3 R (A14 R R R (A3 R (eN (B8 (qG (A0 R ?_)))))))
  refine V5 R R R R ?_ ?_
  ·intro c
   replace h:=P1 c h
   refine eN (C0 R (qG (A0 R (A3 R (A3 R (eN ?_))))))
   refine SW.own (ts':=[(4,.row 2 1 0 (([]:List Int)).length),(5,.d (vI rv.2.2))]) (L':=[some ⟨13,[.d (D4.d p)]⟩,some (B7 rv.2.1)]) 1 R R (.cons .nil (.cons (.same _) .nil)) (.same (.same .nil)) ?_
   simp only[List.cons_append,List.nil_append]
   refine C9 (B2 ?_)
   obtain rfl:=sI h
   exact f2 [2] (.row R .nil) R (.cons (.tmp 4) (.cons (.tmp 5) .nil)) R
  intro c
  replace h:=J7 c h
  refine eN (C1 R (D7 (A6 (B8 (qG (C8 tb R (B5 (y := .arr 3 ((p.batteries).map D9.d)) tb R (I7 tb R (A0 R (eN (E3 ?_)))))))))))
  refine SW.own (ts':=[(4,.row 2 1 0 (([]:List Int)).length),(5,.d (vI rv.2.2)),(6,.d (.v (.pointer none))),(22,.d (.arr 3 ((p.batteries).map D9.d))),(23,.d (vI (p.batteries.length:Int))),(24,.d (vI 0))]) (L':=[some ⟨13,[.d (D4.d p)]⟩,some (B7 rv.2.1)]) 1 R R (.cons .nil (.cons (.same _) (.cons (.same _) (.cons (.same _) (.cons (.same _) (.cons (.same _) .nil)))))) (.same (.same .nil)) ?_
  simp only[List.cons_append,List.nil_append]
  obtain⟨K2,hK2,h⟩:∃ K,K=_∧C1U F p K F ([]:List Int) 0=some r:=⟨_,rfl,h⟩
  refine M2 (st0:=⟨[(4,.row 0 1 0 (([]:List Int)).length),(5,.d (vI rv.2.2)),(6,.d (.v (.pointer none))),(22,.d (.arr 3 ((p.batteries).map D9.d))),(23,.d (vI (p.batteries.length:Int))),(24,.d (vI 0))],[some (B7 ([]:List Int))]⟩) (fun m st=>∃ (lv:(List Int)) (x:Int),C1U F p K2 m lv x=some r∧st=⟨[(4,.row 0 1 0 (lv).length),(5,.d (vI rv.2.2)),(6,.d (.v (.pointer none))),(22,.d (.arr 3 ((p.batteries).map D9.d))),(23,.d (vI (p.batteries.length:Int))),(24,.d (vI x))],[some (B7 lv)]⟩) (.vw (κ:=[2]) (vK (.row R .nil) R)) ⟨([]:List Int),0,h,R⟩ ?_
  clear h
  rintro m2 st ⟨lv,x,h,rfl⟩
  cases m2 with
  | zero=>cases(show(none:Option ((List Int) × Int))=some r from h)
  | succ m2 =>
  rw[C1U]at h
  refine qG ?_
  refine Q4 R R R R ?_ ?_
  ·intro c2
   replace h:=J7 c2 h
   cases h
  intro c2
  replace h:=P1 (Int.not_lt.2 c2) h
  refine eN (B8 (C1 R (N5 (E4 (E4 ?_)))))
  subst hK2
  refine I5 (A6 (qG (A0T R R R (A14 R R R (A3 R (eN (C9 ?_)))))))
  obtain rfl:=sI h
  exact f2 [0] (.row R .nil) R (.cons (.tmp 4) (.cons (.tmp 5) .nil)) R
 replace h:=(B5i nv).symm.trans h
 refine G7 (t' := .tup [.ref 1 26 0 0,.row 7 1 0 (rv.2.1).length,.d (vI rv.2.2)]) (ls:=[]) (news:=[⟨26,[C5 t 1 2 3 4 5]⟩,(B7 t.A1),(B7 t.A5),(H7 t.B1),(B7 t.A7),(H7 t.B0),(B7 rv.2.1)]) ([]) ([some ⟨13,[.d (D4.d p)]⟩,some ⟨26,[C5 t 2 3 4 5 6]⟩,some (B7 t.A1),some (B7 t.A5),some (H7 t.B1),some (B7 t.A7),some (H7 t.B0),some (B7 rv.2.1)]) ((A4c hrv).some nv) (.of (by kernel_rfl)) R (.inl ⟨R,R,R⟩) R R R R .nil R R R .nil ((.cons R (.row (.row (.row (.row (.row (.row .nil)))))))) R R R R ?_
 refine A1D (.tup [.ref 1 26 0 0,.row 7 1 0 (rv.2.1).length,.d (vI rv.2.2)]) R R R (A1B (t := .ref 1 26 0 0) R R R R (A1B (t := .row 7 1 0 (rv.2.1).length) R R R R (A1B (t := .d (vI rv.2.2)) R R R R (A3i R R R (A14 R R R (A3 R (eN (B8 (qG (A0 R ?_))))))))))
 refine V5 R R R R ?_ ?_
 ·intro c3
  replace h:=P1 c3 h
  refine eN (C0 R (qG (A0 R (A3 R (A3 R (eN ?_))))))
  refine SW.own (ts':=[(4,.row 8 1 0 (([]:List Int)).length),(5,.d (vI rv.2.2))]) (L':=[some ⟨13,[.d (D4.d p)]⟩,some ⟨26,[C5 t 2 3 4 5 6]⟩,some (B7 t.A1),some (B7 t.A5),some (H7 t.B1),some (B7 t.A7),some (H7 t.B0),some (B7 rv.2.1)]) 1 R R (.cons .nil (.cons (.same _) .nil)) (.same (.same (.same (.same (.same (.same (.same (.same .nil)))))))) ?_
  simp only[List.cons_append,List.nil_append]
  refine C9 (B2 ?_)
  obtain rfl:=sI h
  exact f2 [8] (.row R .nil) R (.cons (.tmp 4) (.cons (.tmp 5) .nil)) R
 intro c3
 replace h:=J7 c3 h
 refine eN (C1 R (D7 (A6 (B8 (qG (C8 tb R (B5 (y := .arr 3 ((p.batteries).map D9.d)) tb R (I7 tb R (A0 R (eN (E3 ?_)))))))))))
 refine SW.own (ts':=[(4,.row 8 1 0 (([]:List Int)).length),(5,.d (vI rv.2.2)),(6,.ref 1 26 0 0),(22,.d (.arr 3 ((p.batteries).map D9.d))),(23,.d (vI (p.batteries.length:Int))),(24,.d (vI 0))]) (L':=[some ⟨13,[.d (D4.d p)]⟩,some ⟨26,[C5 t 2 3 4 5 6]⟩,some (B7 t.A1),some (B7 t.A5),some (H7 t.B1),some (B7 t.A7),some (H7 t.B0),some (B7 rv.2.1)]) 1 R R (.cons .nil (.cons (.same _) (.cons (.same _) (.cons (.same _) (.cons (.same _) (.cons (.same _) .nil)))))) (.same (.same (.same (.same (.same (.same (.same (.same .nil)))))))) ?_
 simp only[List.cons_append,List.nil_append]
 obtain⟨K4,hK4,h⟩:∃ K,K=_∧A3S F p t K F ([]:List Int) 0=some r:=⟨_,rfl,h⟩
 refine M2 (st0:=⟨[(4,.row 0 1 0 (([]:List Int)).length),(5,.d (vI rv.2.2)),(6,.ref 1 26 0 0),(22,.d (.arr 3 ((p.batteries).map D9.d))),(23,.d (vI (p.batteries.length:Int))),(24,.d (vI 0))],[some (B7 ([]:List Int)),some ⟨26,[C5 t 2 3 4 5 6]⟩,some (B7 t.A1),some (B7 t.A5),some (H7 t.B1),some (B7 t.A7),some (H7 t.B0)]⟩) (fun m st=>∃ (lv2:(List Int)) (x2:Int),A3S F p t K4 m lv2 x2=some r∧st=⟨[(4,.row 0 1 0 (lv2).length),(5,.d (vI rv.2.2)),(6,.ref 1 26 0 0),(22,.d (.arr 3 ((p.batteries).map D9.d))),(23,.d (vI (p.batteries.length:Int))),(24,.d (vI x2))],[some (B7 lv2),some ⟨26,[C5 t 2 3 4 5 6]⟩,some (B7 t.A1),some (B7 t.A5),some (H7 t.B1),some (B7 t.A7),some (H7 t.B0)]⟩) (.vw (κ:=[8,1,2,3,4,5,6]) (vK (.row R (.cons R R (.row R (.row R (.row R (.row R (.row R .nil))))))) R)) ⟨([]:List Int),0,h,R⟩ ?_
 clear h
 rintro m4 st ⟨lv2,x2,h,rfl⟩
 cases m4 with
 | zero=>cases(show(none:Option ((List Int) × Int))=some r from h)
 | succ m4 =>
 rw[A3S]at h
 refine qG ?_
 refine Q4 R R R R ?_ ?_
 ·intro c4
  replace h:=J7 c4 h
  refine eN (B8 (C0 R (D7 (A6 (B8 (E3 (qG (A0 R ?_))))))))
  obtain⟨e2,ie2,h⟩:=H1 h
  refine N8 tb (F0 ie2) (V1 ie2) R (I4 (y:=D9.d e2) tb (U5 (g:=D9.d) ie2) R (M5 tb R R R R R (A3 R (I6 _ _ tb R (eN (qG (A3 R (eN (B8 ?_)))))))))
  refine W5 (fun zz:Int=>C1n F (A3S F p t K4 m4) lv2 x2 zz=some r) (fun zz:Int=>⟨[(4,.row 0 1 0 (lv2).length),(5,.d (vI rv.2.2)),(6,.ref 1 26 0 0),(10,.d (vI zz)),(22,.d (.arr 3 ((p.batteries).map D9.d))),(23,.d (vI (p.batteries.length:Int))),(24,.d (vI x2))],[some (B7 lv2),some ⟨26,[C5 t 2 3 4 5 6]⟩,some (B7 t.A1),some (B7 t.A5),some (H7 t.B1),some (B7 t.A7),some (H7 t.B0)]⟩) ?_ ?_
  ·clear h
   rintro nv2 h
   rw[C1n]at h
   refine J1 (A0T R R R (A0 R (P7 tb R R R R R R R R R R R R R ?_)))
   obtain⟨q,iq,h⟩:=H1 h
   refine B2k (g:=vI) (w:=lv2) (v:=[nv2]) ([none,some ⟨26,[C5 t 2 3 4 5 6]⟩,some (B7 t.A1),some (B7 t.A5),some (H7 t.B1),some (B7 t.A7),some (H7 t.B0),some (B7 [nv2])]) tb R R R R R R R R R R R iq R R R R R (A14 R R R (Y9 (D3 (A6 (J1 (O1 R (A0 R (eN ?_))))))))
   exact⟨m4,⟨[(4,.row 0 1 0 (q).length),(5,.d (vI rv.2.2)),(6,.ref 1 26 0 0),(22,.d (.arr 3 ((p.batteries).map D9.d))),(23,.d (vI (p.batteries.length:Int))),(24,.d (vI (W (x2+1))))],[some (B7 q),some ⟨26,[C5 t 2 3 4 5 6]⟩,some (B7 t.A1),some (B7 t.A5),some (H7 t.B1),some (B7 t.A7),some (H7 t.B0)]⟩,Nat.lt_succ_self _,.vw (κ:=[8,1,2,3,4,5,6]) (vK (.row R (.cons R R (.row R (.row R (.row R (.row R (.row R .nil))))))) R),q,(W (x2+1)),h,R⟩
  refine qG (G4 R R R (F1 R R R (C8 tb R (C8 tb R (W4 tb R R R R R R R R R (A0 R ?_))))))
  obtain⟨e3,ie3,h⟩:=H1 h
  refine Y1 tb R R R R R R (F0 ie3) (ix1 ie3) R R ?_
  refine A15 (y := .v (.bool e3)) tb R R R R (U5 (g:=fun a=>T.d (vB a)) ie3) R R R R ?_
  with_reducible apply X8
  ·intro c5
   replace h:=J7 c5 h
   refine eN (C0 R (T1 (by kernel_rfl) (G4 R R R (F1 R R R (C8 tb R (C8 tb R (B5 (y:=vI t.H6) tb R (G4 R R R (F1 R R R (C8 tb R (C8 tb R (W4 tb R R R R R R R R R (A0 R ?_)))))))))))))
   obtain⟨e4,ie4,h⟩:=H1 h
   refine Y1 tb R R R R R R (F0 ie4) (ix1 ie4) R R ?_
   refine A15 (y:=vI e4) tb R R R R (U5 (g:=fun a=>T.d (vI a)) ie4) R R R R ?_
   refine C8 tb R (B5 (y:=vI e2.rate) tb R (O1 R (A1n R R R R (C8 tb R (B5 (y:=vI e2.rate) tb R ?_)))))
   by_cases c6:e2.rate=0
   ·cases(if_pos c6).symm.trans h
   replace h:=P1 c6 h
   refine C0J R R c6 R R (O1 R (A3 R (I0 (by kernel_rfl) (A6 ?_))))
   exact .inl ⟨(W (t.H6+(W (Int.tdiv (W ((W (e4+e2.rate))-1)) e2.rate)))),h,.vw (κ:=[0,1,2,3,4,5,6]) (vK (.row R (.cons R R (.row R (.row R (.row R (.row R (.row R .nil))))))) R)⟩
  intro c5
  replace h:=ifF c5 h
  refine eN (C1 R (D7 (A6 ?_)))
  exact .inl ⟨(-1),h,.vw (κ:=[0,1,2,3,4,5,6]) (vK (.row R (.cons R R (.row R (.row R (.row R (.row R (.row R .nil))))))) R)⟩
 intro c4
 replace h:=P1 (Int.not_lt.2 c4) h
 refine eN (B8 (C1 R (N5 (E4 (E4 ?_)))))
 subst hK4
 refine I5 (A6 (qG (A0T R R R (A14 R R R (A3 R (eN (C9 ?_)))))))
 obtain rfl:=sI h
 exact f2 [0] (.row R .nil) R (.cons (.tmp 4) (.cons (.tmp 5) .nil)) R
theorem C2V {F:Nat} {p:D4} {log:(List C7)} {r:((List Int) × Int)} (h:C10 F p log=some r):PC Tryz.prog 28 [D4.d p,.arr 8 ((log).map C7.d)] (.tup [.arr 1 ((r.1).map vI),.v (.int .i64 r.2)]):=(C1Y h).toPC (.tupL (.cons (.row rfl rfl) (.cons (.d _) .nil)))
def A17 (F:Nat) (atv:Int) (kind:Int) (what:Int):Option C7:=some (C7.mk atv kind what 0 0 0 0 0)
theorem Z5 {F:Nat} {atv:Int} {kind:Int} {what:Int} {r:C7} (h:A17 F atv kind what=some r):PC Tryz.prog 27 [.v (.int .i64 atv),.v (.int .i64 kind),.v (.int .i64 what)] (C7.d r):=by
 rw[A17]at h
 refine SC.of_sw Tryz.func27 R R R ?_
 dsimp only[L8,List.map]
 refine qG (M5 tb R R R R R (eN (qG (A0 R (A0 R (A0 R (S1 (v := .d (.agg [vI atv,vI kind,vI what,vI 0,vI 0,vI 0,vI 0,vI 0])) tb R R (List.cons_ne_nil _ _) R R R R R R (I6 _ _ tb R (eN (C9 ?_))))))))))
 obtain rfl:=sI h
 exact U4 (t := .d (.agg [vI atv,vI kind,vI what,vI 0,vI 0,vI 0,vI 0,vI 0])) R R R (.cons (rc tb R) .nil)
def A9F (F:Nat) :Option D4:=Option.bind (A9E F ) fun rv=>some (D4.mk rv.zones rv.doors rv.people rv.keys rv.squibs rv.panel rv.wait [(ByteArray.mk #[114,97,110,103,101]),(ByteArray.mk #[115,97,102,101,116,121])] [(D9.mk (ByteArray.mk #[109,97,105,110]) 1000 2)] [(E0.mk (ByteArray.mk #[102,105,108,108]) [] 100 200 false [] [] [] []),(E0.mk (ByteArray.mk #[112,111,119,101,114]) [0] 10 500 false [0] [] [] []),(E0.mk (ByteArray.mk #[99,104,101,99,107]) [0] 50 300 false [] [0] [] []),(E0.mk (ByteArray.mk #[112,111,108,108]) [1,2] 0 20 true [] [0] [] []),(E0.mk (ByteArray.mk #[108,97,117,110,99,104]) [3] 5 60 true [] [0] [0] [])] [1,3] 200 400)
theorem A7Y {F:Nat}  {r:D4} (h:A9F F =some r):PC Tryz.prog 39 [] (D4.d r):=by
 rw[A9F]at h
 refine PC.of_lend ?_
 refine SC.of_sw Tryz.func39 R R R ?_
 dsimp only[L8,List.map]
 refine qG (M5 tb R R R R R (eN (qG (P7 tb R R R R R R R R R R R R R (A14 R R R (eN (qG ?_)))))))
 obtain⟨rv,hrv,h⟩:=H1 h
 refine J5 (B2I hrv) (.of (by kernel_rfl)) R R R R (P7 tb R R R R R R R R R R R R R (S1 (v := .d (.agg [.v (.string (ByteArray.mk #[109,97,105,110])),vI 1000,vI 2])) tb R R (List.cons_ne_nil _ _) R R R R R R (P7 tb R R R R R R R R R R R R R ?_)))
 refine S1 (v := .d (.agg [.v (.string (ByteArray.mk #[102,105,108,108])),.v (.slice none 0 0),vI 100,vI 200,.v (.bool false),.v (.slice none 0 0),.v (.slice none 0 0),.v (.slice none 0 0),.v (.slice none 0 0)])) tb R R (List.cons_ne_nil _ _) R R R R R R (P7 tb R R R R R R R R R R R R R (A0T R R R ?_))
 refine S1 (v := .agg [.d (.v (.string (ByteArray.mk #[112,111,119,101,114]))),.row 4 1 0 ([0]).length,.d (vI 10),.d (vI 500),.d (.v (.bool false)),.row 1 1 0 ([0]).length,.d (.v (.slice none 0 0)),.d (.v (.slice none 0 0)),.d (.v (.slice none 0 0))]) tb R R (List.cons_ne_nil _ _) R R R R R R (P7 tb R R R R R R R R R R R R R (A0T R R R ?_))
 refine S1 (v := .agg [.d (.v (.string (ByteArray.mk #[99,104,101,99,107]))),.row 5 1 0 ([0]).length,.d (vI 50),.d (vI 300),.d (.v (.bool false)),.d (.v (.slice none 0 0)),.row 1 1 0 ([0]).length,.d (.v (.slice none 0 0)),.d (.v (.slice none 0 0))]) tb R R (List.cons_ne_nil _ _) R R R R R R (P7 tb R R R R R R R R R R R R R (A0T R R R ?_))
 refine S1 (v := .agg [.d (.v (.string (ByteArray.mk #[112,111,108,108]))),.row 6 1 0 ([1,2]).length,.d (vI 0),.d (vI 20),.d (.v (.bool true)),.d (.v (.slice none 0 0)),.row 1 1 0 ([0]).length,.d (.v (.slice none 0 0)),.d (.v (.slice none 0 0))]) tb R R (List.cons_ne_nil _ _) R R R R R R (P7 tb R R R R R R R R R R R R R (A0T R R R (A0T R R R ?_)))
 refine S1 (v := .agg [.d (.v (.string (ByteArray.mk #[108,97,117,110,99,104]))),.row 7 1 0 ([3]).length,.d (vI 5),.d (vI 60),.d (.v (.bool true)),.d (.v (.slice none 0 0)),.row 1 1 0 ([0]).length,.row 1 1 0 ([0]).length,.d (.v (.slice none 0 0))]) tb R R (List.cons_ne_nil _ _) R R R R R R (P7 tb R R R R R R R R R R R R R (P7 tb R R R R R R R R R R R R R ?_))
 refine S1 (v := .d (.agg [vI 200,vI 400])) tb R R (List.cons_ne_nil _ _) R R R R R R ?_
 refine S1 (v := .agg [.d (.arr 8 ((rv.zones).map F6.d)),.d (.arr 2 ((rv.doors).map G6.d)),.d (.arr 2 ((rv.people).map E2.d)),.d (.arr 1 ((rv.keys).map vS)),.d (.arr 6 ((rv.squibs).map D1.d)),.d (vI rv.panel),.d (vI rv.wait),.row 2 1 0 ([(ByteArray.mk #[114,97,110,103,101]),(ByteArray.mk #[115,97,102,101,116,121])]).length,.row 3 3 0 ([(D9.mk (ByteArray.mk #[109,97,105,110]) 1000 2)]).length,.row 8 9 0 5,.row 9 1 0 ([1,3]).length,.d (vI 200),.d (vI 400)]) tb R R (List.cons_ne_nil _ _) (by kernel_rfl) (by kernel_rfl) (by kernel_rfl) (by kernel_rfl) R R ?_
 refine I6 _ _ tb R (eN (C9 ?_))
 obtain rfl:=sI h
 exact(U0 (t := .agg [.d (.arr 8 ((rv.zones).map F6.d)),.d (.arr 2 ((rv.doors).map G6.d)),.d (.arr 2 ((rv.people).map E2.d)),.d (.arr 1 ((rv.keys).map vS)),.d (.arr 6 ((rv.squibs).map D1.d)),.d (vI rv.panel),.d (vI rv.wait),.row 0 1 0 ([(ByteArray.mk #[114,97,110,103,101]),(ByteArray.mk #[115,97,102,101,116,121])]).length,.row 1 3 0 ([(D9.mk (ByteArray.mk #[109,97,105,110]) 1000 2)]).length,.row 2 9 0 5,.row 8 1 0 ([1,3]).length,.d (vI 200),.d (vI 400)]) (L:=[some (lvS [(ByteArray.mk #[114,97,110,103,101]),(ByteArray.mk #[115,97,102,101,116,121])]),some (B3M [(D9.mk (ByteArray.mk #[109,97,105,110]) 1000 2)]),some ⟨9,[.d (.agg [.v (.string (ByteArray.mk #[102,105,108,108])),.v (.slice none 0 0),vI 100,vI 200,.v (.bool false),.v (.slice none 0 0),.v (.slice none 0 0),.v (.slice none 0 0),.v (.slice none 0 0)]),.agg [.d (.v (.string (ByteArray.mk #[112,111,119,101,114]))),.row 3 1 0 ([0]).length,.d (vI 10),.d (vI 500),.d (.v (.bool false)),.row 4 1 0 ([0]).length,.d (.v (.slice none 0 0)),.d (.v (.slice none 0 0)),.d (.v (.slice none 0 0))],.agg [.d (.v (.string (ByteArray.mk #[99,104,101,99,107]))),.row 5 1 0 ([0]).length,.d (vI 50),.d (vI 300),.d (.v (.bool false)),.d (.v (.slice none 0 0)),.row 4 1 0 ([0]).length,.d (.v (.slice none 0 0)),.d (.v (.slice none 0 0))],.agg [.d (.v (.string (ByteArray.mk #[112,111,108,108]))),.row 6 1 0 ([1,2]).length,.d (vI 0),.d (vI 20),.d (.v (.bool true)),.d (.v (.slice none 0 0)),.row 4 1 0 ([0]).length,.d (.v (.slice none 0 0)),.d (.v (.slice none 0 0))],.agg [.d (.v (.string (ByteArray.mk #[108,97,117,110,99,104]))),.row 7 1 0 ([3]).length,.d (vI 5),.d (vI 60),.d (.v (.bool true)),.d (.v (.slice none 0 0)),.row 4 1 0 ([0]).length,.row 4 1 0 ([0]).length,.d (.v (.slice none 0 0))]]⟩,some (B7 [0]),some (B7 [0]),some (B7 [0]),some (B7 [1,2]),some (B7 [3]),some (B7 [1,3])]) (κ:=[2,3,8,4,1,5,6,7,9]) R (.cons (rc tb R) .nil) (vK (.row R (.row R (.cons R R (.row R (.row R (.row R (.row R (.row R (.row R .nil))))))))) R) ⟨_,R,(.aggL (.cons (.d _) (.cons (.d _) (.cons (.d _) (.cons (.d _) (.cons (.d _) (.cons (.d _) (.cons (.d _) (.cons (.row R R) (.cons (.row R R) (.cons (.rowL R R (.cons (.aggDL (.cons (.d _) (.cons .nilA (.cons (.d _) (.cons (.d _) (.cons (.d _) (.cons .nilA (.cons .nilA (.cons .nilA (.cons .nilA .nil)))))))))) (.cons (.aggL (.cons (.d _) (.cons (.row R R) (.cons (.d _) (.cons (.d _) (.cons (.d _) (.cons (.row R R) (.cons .nilA (.cons .nilA (.cons .nilA .nil)))))))))) (.cons (.aggL (.cons (.d _) (.cons (.row R R) (.cons (.d _) (.cons (.d _) (.cons (.d _) (.cons .nilA (.cons (.row R R) (.cons .nilA (.cons .nilA .nil)))))))))) (.cons (.aggL (.cons (.d _) (.cons (.row R R) (.cons (.d _) (.cons (.d _) (.cons (.d _) (.cons .nilA (.cons (.row R R) (.cons .nilA (.cons .nilA .nil)))))))))) (.cons (.aggL (.cons (.d _) (.cons (.row R R) (.cons (.d _) (.cons (.d _) (.cons (.d _) (.cons .nilA (.cons (.row R R) (.cons (.row R R) (.cons .nilA .nil)))))))))) .nil)))))) (.cons (.row R R) (.cons (.d _) (.cons (.d _) .nil))))))))))))))⟩)
def B1Z (F:Nat) :Option (List C7):=Option.bind (A17 F 0 1 0) fun rv=>Option.bind (A17 F 90 2 0) fun rv2=>Option.bind (A17 F 100 2 0) fun rv3=>Option.bind (A17 F 100 1 2) fun rv4=>Option.bind (A17 F 100 1 1) fun rv5=>Option.bind (A17 F 110 1 2) fun rv6=>Option.bind (A17 F 120 2 1) fun rv7=>Option.bind (A17 F 170 2 2) fun rv8=>Option.bind (A17 F 180 1 3) fun rv9=>Option.bind (A17 F 180 5 0) fun rv10=>Option.bind (A17 F 181 5 1) fun rv11=>Option.bind (A17 F 185 1 3) fun rv12=>Option.bind (A17 F 190 2 3) fun rv13=>Option.bind (A17 F 190 1 4) fun rv14=>Option.bind (A17 F 199 2 4) fun rv15=>Option.bind (A17 F 200 2 4) fun rv16=>some [rv,rv2,rv3,rv4,rv5,rv6,rv7,rv8,rv9,rv10,rv11,rv12,rv13,rv14,rv15,rv16]
theorem B63 {F:Nat}  {r:(List C7)} (h:B1Z F =some r):SCR Tryz.prog 40 (List.map T.d []) [] (.row 0 8 0 (r).length) (List.map some [(B62 r)]):=by
 rw[B1Z]at h
 refine SC.of_sw Tryz.func40 R R R ?_
 dsimp only[L8,List.map]
 refine qG (A3 R (eN (qG ?_)))
 obtain⟨rv,hrv,h⟩:=H1 h
 refine J5 (Z5 hrv) (.of (by kernel_rfl)) R R R R ?_
 obtain⟨rv2,hrv2,h⟩:=H1 h
 refine J5 (Z5 hrv2) (.of (by kernel_rfl)) R R R R ?_
 obtain⟨rv3,hrv3,h⟩:=H1 h
 refine J5 (Z5 hrv3) (.of (by kernel_rfl)) R R R R ?_
 obtain⟨rv4,hrv4,h⟩:=H1 h
 refine J5 (Z5 hrv4) (.of (by kernel_rfl)) R R R R ?_
 obtain⟨rv5,hrv5,h⟩:=H1 h
 refine J5 (Z5 hrv5) (.of (by kernel_rfl)) R R R R ?_
 obtain⟨rv6,hrv6,h⟩:=H1 h
 refine J5 (Z5 hrv6) (.of (by kernel_rfl)) R R R R ?_
 obtain⟨rv7,hrv7,h⟩:=H1 h
 refine J5 (Z5 hrv7) (.of (by kernel_rfl)) R R R R ?_
 obtain⟨rv8,hrv8,h⟩:=H1 h
 refine J5 (Z5 hrv8) (.of (by kernel_rfl)) R R R R ?_
 obtain⟨rv9,hrv9,h⟩:=H1 h
 refine J5 (Z5 hrv9) (.of (by kernel_rfl)) R R R R ?_
 obtain⟨rv10,hrv10,h⟩:=H1 h
 refine J5 (Z5 hrv10) (.of (by kernel_rfl)) R R R R ?_
 obtain⟨rv11,hrv11,h⟩:=H1 h
 refine J5 (Z5 hrv11) (.of (by kernel_rfl)) R R R R ?_
 obtain⟨rv12,hrv12,h⟩:=H1 h
 refine J5 (Z5 hrv12) (.of (by kernel_rfl)) R R R R ?_
 obtain⟨rv13,hrv13,h⟩:=H1 h
 refine J5 (Z5 hrv13) (.of (by kernel_rfl)) R R R R ?_
 obtain⟨rv14,hrv14,h⟩:=H1 h
 refine J5 (Z5 hrv14) (.of (by kernel_rfl)) R R R R ?_
 obtain⟨rv15,hrv15,h⟩:=H1 h
 refine J5 (Z5 hrv15) (.of (by kernel_rfl)) R R R R ?_
 obtain⟨rv16,hrv16,h⟩:=H1 h
 refine J5 (Z5 hrv16) (.of (by kernel_rfl)) R R R R (P7 tb R R R R R R R R R R R R R (A14 R R R (eN (C9 ?_))))
 obtain rfl:=sI h
 exact f2 [0] (.row R .nil) R (.cons (.tmp 0) .nil) R
theorem B0S {F:Nat}  {r:(List C7)} (h:B1Z F =some r):PC Tryz.prog 40 [] (.arr 8 ((r).map C7.d)):=(B63 h).toPC (.row rfl rfl)
def A7X (F:Nat) :Option Bool:=Option.bind (A9F F ) fun rv=>Option.bind (B1Z F ) fun rv2=>Option.bind (A36 F rv rv2) fun rv3=>Option.bind (A9F F ) fun rv4=>Option.bind (B1Z F ) fun rv5=>Option.bind (A7A rv5 0 5) fun q=>Option.bind (A3Z F rv4 q 120) fun rv6=>Option.bind (A9F F ) fun rv7=>Option.bind (A85 F rv7 []) fun rv8=>Option.bind (A9F F ) fun rv9=>Option.bind (B1Z F ) fun rv10=>Option.bind (A3Z F rv9 rv10 300) fun rv11=>if rv3.2.2=0 then(if rv6.2=0 then(if rv8.2=0 then(if rv11.2=9 then(if(rv3.2.1.length:Int)=16 then(Option.bind (P3 rv3.2.1 14) fun e=>if e=187 then(if rv3.1.now=200 then(if rv6.1=200 then(some (decide (rv8.1=245)))else(some false))else(some false))else(some false))else(some false))else(some false))else(some false))else(some false))else(some false)
theorem B0R {F:Nat}  {r:Bool} (h:A7X F =some r):PC Tryz.prog 22 [] (.v (.bool r)):=by
 rw[A7X]at h
 refine SC.of_sw Tryz.func22 R R R ?_
 dsimp only[L8,List.map]
 refine qG (A3 R (eN (qG ?_)))
 obtain⟨rv,hrv,h⟩:=H1 h
 refine J5 (A7Y hrv) (.of (by kernel_rfl)) R R R R ?_
 obtain⟨rv2,hrv2,h⟩:=H1 h
 refine J5 (B0S hrv2) (.of (by kernel_rfl)) R R R R ?_
 obtain⟨rv3,hrv3,h⟩:=H1 h
 refine J5 (A6l hrv3) (.of (by kernel_rfl)) R R R R (A0 R (Q1 (t:=H2.d rv3.1) R R R R (Q1 (t := .arr 1 ((rv3.2.1).map vI)) R R R R (Q1 (t:=vI rv3.2.2) R R R R (M5 tb R R R R R (I6 _ _ tb R (A3 R (A3 R (eN (qG ?_))))))))))
 obtain⟨rv4,hrv4,h⟩:=H1 h
 refine J5 (A7Y hrv4) (.of (by kernel_rfl)) R R R R ?_
 obtain⟨rv5,hrv5,h⟩:=H1 h
 refine J5 (B0S hrv5) (.of (by kernel_rfl)) R R R R ?_
 obtain⟨q,iq,h⟩:=H1 h
 refine A6E tb R R R R R R iq R R ?_
 obtain⟨rv6,hrv6,h⟩:=H1 h
 refine J5 (A6d hrv6) (.of (by kernel_rfl)) R R R R (A0 R (Q1 (t:=vI rv6.1) R R R R (Q1 (t:=vI rv6.2) R R R R (A3 R (A3 R (eN (qG ?_)))))))
 obtain⟨rv7,hrv7,h⟩:=H1 h
 refine J5 (A7Y hrv7) (.of (by kernel_rfl)) R R R R ?_
 obtain⟨rv8,hrv8,h⟩:=H1 h
 refine A19 (B1B hrv8) R (.of (by kernel_rfl)) R R ((.cons (.d _) (.cons .nilA .nil))) R R (A0 R (Q1 (t:=vI rv8.1) R R R R (Q1 (t:=vI rv8.2) R R R R (A3 R (A3 R (eN (qG ?_)))))))
 obtain⟨rv9,hrv9,h⟩:=H1 h
 refine J5 (A7Y hrv9) (.of (by kernel_rfl)) R R R R ?_
 obtain⟨rv10,hrv10,h⟩:=H1 h
 refine J5 (B0S hrv10) (.of (by kernel_rfl)) R R R R ?_
 obtain⟨rv11,hrv11,h⟩:=H1 h
 refine J5 (A6d hrv11) (.of (by kernel_rfl)) R R R R (A0 R (Q1 (t:=vI rv11.1) R R R R (Q1 (t:=vI rv11.2) R R R R (A3 R (A3 R (eN (qG (A0 R ?_))))))))
 refine Z3 R R R R ?_ ?_
 ·intro c
  replace h:=J7 c h
  refine A0 R (A0 R ?_)
  refine Z3 R R R R ?_ ?_
  ·intro c2
   replace h:=J7 c2 h
   refine D6 R (A0 R (A0 R ?_))
   refine Z3 R R R R ?_ ?_
   ·intro c3
    replace h:=J7 c3 h
    refine D6 R (A0 R (A0 R ?_))
    refine Z3 R R R R ?_ ?_
    ·intro c4
     replace h:=J7 c4 h
     refine D6 R (A0 R (A0 R (I7 tb R ?_)))
     refine Z3 R R R R ?_ ?_
     ·intro c5
      replace h:=J7 c5 h
      refine D6 R (A0 R (A0 R ?_))
      obtain⟨e,ie,h⟩:=H1 h
      refine N8 tb (F0 ie) (V1 ie) R (I4 (y:=vI e) tb (U5 (g:=vI) ie) R ?_)
      refine Z3 R R R R ?_ ?_
      ·intro c6
       replace h:=J7 c6 h
       refine D6 R (A0 R (C8 tb R (B5 (y:=vI rv3.1.now) tb R ?_)))
       refine Z3 R R R R ?_ ?_
       ·intro c7
        replace h:=J7 c7 h
        refine D6 R (A0 R (A0 R ?_))
        refine Z3 R R R R ?_ ?_
        ·intro c8
         replace h:=J7 c8 h
         refine D6 R (A0 R (A0 R (A3s R R R R (D6 R (A3 R (eN (C9 ?_)))))))
         obtain rfl:=sI h
         exact f1 0 R
        intro c8
        replace h:=P1 c8 h
        refine D6 R (A0 R (L9 2 R (D0 R (A3 R (eN (C9 ?_))))))
        obtain rfl:=sI h
        exact f1 0 R
       intro c7
       replace h:=P1 c7 h
       refine D6 R (A0 R (L9 2 R (D0 R (A0 R (L9 2 R (D0 R (A3 R (eN (C9 ?_)))))))))
       obtain rfl:=sI h
       exact f1 0 R
      intro c6
      replace h:=P1 c6 h
      refine D6 R (A0 R (L9 3 R (D0 R (A0 R (L9 2 R (D0 R (A0 R (L9 2 R (D0 R (A3 R (eN (C9 ?_))))))))))))
      obtain rfl:=sI h
      exact f1 0 R
     intro c5
     replace h:=P1 c5 h
     refine D6 R (A0 R (L9 4 R (D0 R (A0 R (L9 3 R (D0 R (A0 R (L9 2 R (D0 R (A0 R (L9 2 R (D0 R (A3 R (eN (C9 ?_)))))))))))))))
     obtain rfl:=sI h
     exact f1 0 R
    intro c4
    replace h:=P1 c4 h
    refine D6 R (A0 R (L9 3 R (D0 R (A0 R (L9 4 R (D0 R (A0 R (L9 3 R (D0 R (A0 R (L9 2 R (D0 R (A0 R (L9 2 R (D0 R (A3 R (eN (C9 ?_))))))))))))))))))
    obtain rfl:=sI h
    exact f1 0 R
   intro c3
   replace h:=P1 c3 h
   refine D6 R (A0 R (L9 2 R (D0 R (A0 R (L9 3 R (D0 R (A0 R (L9 4 R (D0 R (A0 R (L9 3 R (D0 R (A0 R (L9 2 R (D0 R (A0 R (L9 2 R (D0 R (A3 R (eN (C9 ?_)))))))))))))))))))))
   obtain rfl:=sI h
   exact f1 0 R
  intro c2
  replace h:=P1 c2 h
  refine D6 R (A0 R (L9 2 R (D0 R (A0 R (L9 2 R (D0 R (A0 R (L9 3 R (D0 R (A0 R (L9 4 R (D0 R (A0 R (L9 3 R (D0 R (A0 R (L9 2 R (D0 R (A0 R (L9 2 R (D0 R (A3 R (eN (C9 ?_))))))))))))))))))))))))
  obtain rfl:=sI h
  exact f1 0 R
 intro c
 replace h:=P1 c h
 refine A0 R (L9 2 R (D0 R (A0 R (L9 2 R (D0 R (A0 R (L9 2 R (D0 R (A0 R (L9 3 R (D0 R (A0 R (L9 4 R (D0 R (A0 R (L9 3 R (D0 R (A0 R (L9 2 R (D0 R (A0 R (L9 2 R (D0 R (A3 R (eN (C9 ?_))))))))))))))))))))))))))
 obtain rfl:=sI h
 exact f1 0 R
def A2U (F:Nat) (B6:Int→Option Bool) (x2:Int):Option Bool:=B6 (W (x2+1))
def A1H (F:Nat) (rv:(H2 × (List Int) × Int)) (rv3:(H2 × (List Int) × Int)) (rv5:((List Int) × Int)) (rv6:((List Int) × Int)) (K:Int→Option Bool):Nat→Int→Option Bool
 | 0,_=>none
 | n+1,x2=>if x2<(rv.1.on_.length:Int)then(Option.bind (P3 rv5.1 x2) fun e3=>Option.bind (P3 rv.1.on_ x2) fun e4=>if((decide (0≤e3)) != e4)=true then(some false)else(if e4=true then(if e3<rv.1.now then(some false)else(Option.bind (P3 rv3.1.on_ x2) fun e5=>if e5=true then(Option.bind (P3 rv3.1.left x2) fun e6=>if 0<e6 then(Option.bind (P3 rv6.1 x2) fun e7=>if e3=e7 then(A2U F (A1H F rv rv3 rv5 rv6 K n) x2)else(some false))else(A2U F (A1H F rv rv3 rv5 rv6 K n) x2))else(A2U F (A1H F rv rv3 rv5 rv6 K n) x2)))else(A2U F (A1H F rv rv3 rv5 rv6 K n) x2)))else(K x2)
def B94 (F:Nat) (rv:(H2 × (List Int) × Int)) (rv3:(H2 × (List Int) × Int)) (rv5:((List Int) × Int)) (rv6:((List Int) × Int)):Option Bool:=A1H F rv rv3 rv5 rv6 (fun(x2:Int)=>Option.bind (A7X 100 ) fun rv7=>some rv7) F 0
def C1h (F:Nat) (t:D4) (o:(List C7)) (rv:(H2 × (List Int) × Int)) (q2:(List C7)) (rv3:(H2 × (List Int) × Int)):Option Bool:=Option.bind (C10 F t o) fun rv5=>Option.bind (C10 F t q2) fun rv6=>if rv5.2=0 then(if rv6.2=0 then(if(rv5.1.length:Int)=(rv.1.on_.length:Int)then(if(rv6.1.length:Int)=(rv.1.on_.length:Int)then(B94 F rv rv3 rv5 rv6)else(some false))else(some false))else(some false))else(some false)
def A9z (F:Nat) (rv3:(H2 × (List Int) × Int)):Option Bool:=if rv3.2.2=0 then(some false)else(Option.bind (A7X 100 ) fun rv4=>some rv4)
def A3A (F:Nat) (t:D4) (rv:(H2 × (List Int) × Int)) (K:Int→Option Bool):Nat→Int→Option Bool
 | 0,_=>none
 | n+1,x=>if x<(rv.1.left.length:Int)then(Option.bind (P3 rv.1.left x) fun e=>if e<0 then(some false)else(Option.bind (P3 t.batteries x) fun e2=>if e2.charge<e then(some false)else(A3A F t rv K n (W (x+1)))))else(K x)
def C1i (F:Nat) (t:D4) (o:(List C7)) (a:C7) (rv:(H2 × (List Int) × Int)):Option Bool:=A3A F t rv (fun(x:Int)=>Option.bind (A8i ([]:List C7) o) fun q=>Option.bind (A8i q [a]) fun q2=>Option.bind (A36 F t q2) fun rv3=>if rv3.2.2=0 then(if(rv3.1.left.length:Int)=(rv.1.left.length:Int)then(if(rv3.1.on_.length:Int)=(rv.1.on_.length:Int)then(C1h F t o rv q2 rv3)else(A9z F rv3))else(A9z F rv3))else(A9z F rv3)) F 0
def A90 (F:Nat) (rv:(H2 × (List Int) × Int)):Option Bool:=if rv.2.2=0 then(some false)else(Option.bind (A7X 100 ) fun rv2=>some rv2)
def C1q (F:Nat) (t:D4) (o:(List C7)) (a:C7):Option Bool:=Option.bind (A36 F t o) fun rv=>if rv.2.2=0 then(if(rv.1.left.length:Int)=(t.batteries.length:Int)then(if(rv.1.on_.length:Int)=(t.batteries.length:Int)then(C1i F t o a rv)else(A90 F rv))else(A90 F rv))else(A90 F rv)
theorem C2l {F:Nat} {t:D4} {o:(List C7)} {a:C7} {r:Bool} (h:C1q F t o a=some r):PC Tryz.prog 11 [D4.d t,.arr 8 ((o).map C7.d),C7.d a] (.v (.bool r)):=by
 rw[C1q]at h
 refine SC.of_sw Tryz.func11 R R R ?_
 dsimp only[L8,List.map]
 refine qG (M9 R (M9 R (A3 R (eN (qG (B5 (y:=D4.d t) tb R (A0 R ?_)))))))
 obtain⟨rv,hrv,h⟩:=H1 h
 refine J5 (A6l hrv) (.of (by kernel_rfl)) R R R R (A0 R (Q1 (t:=H2.d rv.1) R R R R (Q1 (t := .arr 1 ((rv.2.1).map vI)) R R R R (Q1 (t:=vI rv.2.2) R R R R (M5 tb R R R R R (I6 _ _ tb R (A3 R (A3 R (eN (B8 ?_))))))))))
 refine W5 (fun zz:Unit=>C1i F t o a rv=some r) (fun zz:Unit=>⟨[(1,.d (.arr 8 ((o).map C7.d))),(3,.ref 0 13 0 0),(5,.ref 1 8 0 0),(6,.d (.v (.bool false))),(7,.ref 2 13 0 0)],[some ⟨13,[.d (D4.d t)]⟩,some ⟨8,[.d (C7.d a)]⟩,some ⟨13,[.d (H2.d rv.1)]⟩]⟩) ?_ ?_
 ·clear h
  rintro⟨⟩ h
  rw[C1i]at h
  refine B8 (qG (A3 R (eN (E3 ?_))))
  obtain⟨K3,hK3,h⟩:∃ K,K=_∧A3A F t rv K F 0=some r:=⟨_,rfl,h⟩
  refine M2 (fun m st=>∃ (x:Int),A3A F t rv K3 m x=some r∧st=⟨[(1,.d (.arr 8 ((o).map C7.d))),(3,.ref 0 13 0 0),(5,.ref 1 8 0 0),(6,.d (.v (.bool false))),(7,.ref 2 13 0 0),(10,.d (vI x))],[some ⟨13,[.d (D4.d t)]⟩,some ⟨8,[.d (C7.d a)]⟩,some ⟨13,[.d (H2.d rv.1)]⟩]⟩) (.prn [1,3,5,6,7,10] R) ⟨0,h,R⟩ ?_
  clear h
  rintro m3 st ⟨x,h,rfl⟩
  cases m3 with
  | zero=>cases(show(none:Option Bool)=some r from h)
  | succ m3 =>
  rw[A3A]at h
  refine B8 (qG (A0 R (C8 tb R (B5 (y := .arr 1 ((rv.1.left).map vI)) tb R (I7 tb R ?_)))))
  refine Q4 R R R R ?_ ?_
  ·intro c5
   replace h:=J7 c5 h
   refine eN (C0 R (D7 (A6 (B8 (E3 (B8 (T1 (by kernel_rfl) (C8 tb R (B5 (y := .arr 1 ((rv.1.left).map vI)) tb R (A0 R ?_))))))))))
   obtain⟨e,ie,h⟩:=H1 h
   refine N8 tb (F0 ie) (V1 ie) R (I4 (y:=vI e) tb (U5 (g:=vI) ie) R ?_)
   refine Q4 R R R R ?_ ?_
   ·intro c6
    replace h:=J7 c6 h
    refine A0 R (L9 12 R (D6 R (I0 (by kernel_rfl) (A6 (C0 R (qG (A3 R (eN (C9 (C4 (B2 (B2 (C4 (B2 ?_))))))))))))))
    obtain rfl:=sI h
    exact f1 6 R
   intro c6
   replace h:=P1 (Int.not_lt.2 c6) h
   refine A0 R (C8 tb R (B5 (y := .arr 1 ((rv.1.left).map vI)) tb R (A0 R (N8 tb (F0 ie) (V1 ie) R (I4 (y:=vI e) tb (U5 (g:=vI) ie) R (C8 tb R (B5 (y := .arr 3 ((t.batteries).map D9.d)) tb R (A0 R ?_))))))))
   obtain⟨e2,ie2,h⟩:=H1 h
   refine N8 tb (F0 ie2) (V1 ie2) R (M4 tb R (I4 (y:=vI e2.charge) tb (U5 (g:=D9.d) ie2) R ?_))
   refine A4l R R R R ?_ ?_
   ·intro c7
    replace h:=J7 c7 h
    refine D0 R (I0 (by kernel_rfl) (A6 (C0 R (qG (A3 R (eN (C9 (C4 (B2 (B2 (C4 (B2 ?_))))))))))))
    obtain rfl:=sI h
    exact f1 6 R
   intro c7
   replace h:=P1 (Int.not_lt.2 c7) h
   refine D0 R (I0 (by kernel_rfl) (A6 (C1 R (D7 (D3 (A6 (J1 (A0 R (O1 R (A3 R (eN ?_)))))))))))
   exact⟨m3,_,Nat.lt_succ_self _,.prn [1,3,5,6,7,10] R,(W (x+1)),h,R⟩
  intro c5
  replace h:=P1 (Int.not_lt.2 c5) h
  refine eN (C1 R (N5 (E4 (E4 ?_))))
  subst hK3
  refine I5 (A6 (B8 (T1 (by kernel_rfl) (P7 tb R R R R R R R R R R R R R (A0 R ?_)))))
  obtain⟨q,iq,h⟩:=H1 h
  refine C3k (g:=C7.d) (w:=([]:List C7)) (v:=o) ([some ⟨13,[.d (D4.d t)]⟩,some ⟨8,[.d (C7.d a)]⟩,some ⟨13,[.d (H2.d rv.1)]⟩,none]) tb R R R R R R R R (by intro _;exact R) iq R R R R R (B5 (y:=C7.d a) tb R (P7 tb R R R R R R R R R R R R R ?_))
  obtain⟨q2,iq2,h⟩:=H1 h
  refine B2k (g:=C7.d) (w:=q) (v:=[a]) ([some ⟨13,[.d (D4.d t)]⟩,some ⟨8,[.d (C7.d a)]⟩,some ⟨13,[.d (H2.d rv.1)]⟩,none,none,some (B62 [a])]) tb R R R R R R R R R R R iq2 R R R R R (A14 R R R (I0 (by kernel_rfl) (A6 (B8 ?_))))
  refine SW.fz (ts':=[(1,.d (.arr 8 ((o).map C7.d))),(3,.ref 0 13 0 0),(5,.ref 1 8 0 0),(6,.d (.v (.bool false))),(7,.ref 2 13 0 0),(10,.d (vI x)),(11,.d (.arr 8 ((q2).map C7.d))),(50,.d (vI x)),(51,.ref 2 13 0 11),(52,.d (.arr 1 ((rv.1.left).map vI))),(53,.d (vI (rv.1.left.length:Int))),(54,.d (.v (.bool false))),(77,.row 3 8 0 (([]:List C7)).length),(78,.d (.arr 8 ((o).map C7.d))),(79,.row 4 8 0 (q).length),(80,.d (C7.d a)),(81,.row 5 8 0 ([a]).length),(82,.d (.arr 8 ((q2).map C7.d)))]) (L':=[some ⟨13,[.d (D4.d t)]⟩,some ⟨8,[.d (C7.d a)]⟩,some ⟨13,[.d (H2.d rv.1)]⟩,none,none,some (B62 [a]),none]) (w:=q2) (f:=C7.d) 6 8 R (.cons (.same _) (.cons (.same _) (.cons (.same _) (.cons (.same _) (.cons (.same _) (.cons (.same _) (.cons (.all (List.length_map _)) (.cons (.same _) (.cons (.same _) (.cons (.same _) (.cons (.same _) (.cons (.same _) (.cons (.same _) (.cons (.same _) (.cons (.same _) (.cons (.same _) (.cons (.same _) (.cons (.all (List.length_map _)) .nil)))))))))))))))))) (.same (.same (.same (.same (.same (.same (.same .nil))))))) ?_
  refine J1 (B5 (y:=D4.d t) tb R (A0 R ?_))
  obtain⟨rv3,hrv3,h⟩:=H1 h
  refine J5 (A6l hrv3) (.of (by kernel_rfl)) R R R R (A0 R (Q1 (t:=H2.d rv3.1) R R R R (Q1 (t := .arr 1 ((rv3.2.1).map vI)) R R R R (Q1 (t:=vI rv3.2.2) R R R R (M5 tb R R R R R (I6 _ _ tb R (A3 R (A3 R (eN (B8 ?_))))))))))
  refine W5 (fun zz:Unit=>C1h F t o rv q2 rv3=some r) (fun zz:Unit=>⟨[(1,.d (.arr 8 ((o).map C7.d))),(3,.ref 0 13 0 0),(6,.d (.v (.bool false))),(7,.ref 1 13 0 0),(11,.d (.arr 8 ((q2).map C7.d))),(12,.ref 2 13 0 0)],[some ⟨13,[.d (D4.d t)]⟩,some ⟨13,[.d (H2.d rv.1)]⟩,some ⟨13,[.d (H2.d rv3.1)]⟩]⟩) ?_ ?_
  ·clear h
   rintro⟨⟩ h
   rw[C1h]at h
   refine qG (B5 (y:=D4.d t) tb R (A0 R ?_))
   obtain⟨rv5,hrv5,h⟩:=H1 h
   refine A2X (t' := .tup [.row 3 1 0 (rv5.1).length,.d (vI rv5.2)]) (news':=[(B7 rv5.1)]) (C1Y hrv5) (.of (by kernel_rfl)) R R R ((.row .nil)) R R R (A1D (.tup [.row 3 1 0 (rv5.1).length,.d (vI rv5.2)]) R R R (A1B (t := .row 3 1 0 (rv5.1).length) R R R R (A1B (t := .d (vI rv5.2)) R R R R (A14 R R R (A3 R (eN (qG (B5 (y:=D4.d t) tb R (A0 R ?_)))))))))
   obtain⟨rv6,hrv6,h⟩:=H1 h
   refine A2X (t' := .tup [.row 4 1 0 (rv6.1).length,.d (vI rv6.2)]) (news':=[(B7 rv6.1)]) (C1Y hrv6) (.of (by kernel_rfl)) R R R ((.row .nil)) R R R (A1D (.tup [.row 4 1 0 (rv6.1).length,.d (vI rv6.2)]) R R R (A1B (t := .row 4 1 0 (rv6.1).length) R R R R (A1B (t := .d (vI rv6.2)) R R R R (A14 R R R (A3 R (eN (B8 ?_)))))))
   refine W5 (fun zz:Unit=>B94 F rv rv3 rv5 rv6=some r) (fun zz:Unit=>⟨[(6,.d (.v (.bool false))),(7,.ref 0 13 0 0),(12,.ref 1 13 0 0),(15,.row 2 1 0 (rv5.1).length),(16,.row 3 1 0 (rv6.1).length)],[some ⟨13,[.d (H2.d rv.1)]⟩,some ⟨13,[.d (H2.d rv3.1)]⟩,some (B7 rv5.1),some (B7 rv6.1)]⟩) ?_ ?_
   ·clear h
    rintro⟨⟩ h
    rw[B94]at h
    refine B8 (qG (A3 R (eN (E3 ?_))))
    obtain⟨K6,hK6,h⟩:∃ K,K=_∧A1H F rv rv3 rv5 rv6 K F 0=some r:=⟨_,rfl,h⟩
    refine M2 (fun m st=>∃ (x2:Int),A1H F rv rv3 rv5 rv6 K6 m x2=some r∧st=⟨[(6,.d (.v (.bool false))),(7,.ref 0 13 0 0),(12,.ref 1 13 0 0),(15,.row 2 1 0 (rv5.1).length),(16,.row 3 1 0 (rv6.1).length),(17,.d (vI x2))],[some ⟨13,[.d (H2.d rv.1)]⟩,some ⟨13,[.d (H2.d rv3.1)]⟩,some (B7 rv5.1),some (B7 rv6.1)]⟩) (.prn [6,7,12,15,16,17] R) ⟨0,h,R⟩ ?_
    clear h
    rintro m6 st ⟨x2,h,rfl⟩
    cases m6 with
    | zero=>cases(show(none:Option Bool)=some r from h)
    | succ m6 =>
    rw[A1H]at h
    refine B8 (qG (A0 R (C8 tb R (B5 (y := .arr 1 ((rv.1.on_).map vB)) tb R (I7 tb R ?_)))))
    refine Q4 R R R R ?_ ?_
    ·intro c16
     replace h:=J7 c16 h
     refine eN (C0 R (D7 (A6 (B8 (E3 (B8 ?_))))))
     refine W5 (fun zz:Unit=>A2U F (A1H F rv rv3 rv5 rv6 K6 m6) x2=some r) (fun zz:Unit=>⟨[(6,.d (.v (.bool false))),(7,.ref 0 13 0 0),(12,.ref 1 13 0 0),(15,.row 2 1 0 (rv5.1).length),(16,.row 3 1 0 (rv6.1).length),(17,.d (vI x2)),(215,.d (.v (.bool false)))],[some ⟨13,[.d (H2.d rv.1)]⟩,some ⟨13,[.d (H2.d rv3.1)]⟩,some (B7 rv5.1),some (B7 rv6.1)]⟩) ?_ ?_
     ·clear h
      rintro⟨⟩ h
      rw[A2U]at h
      refine C1 R (D7 (D3 (A6 (J1 (A0 R (O1 R (A3 R (eN ?_))))))))
      exact⟨m6,_,Nat.lt_succ_self _,.prn [6,7,12,15,16,17] R,(W (x2+1)),h,R⟩
     refine T1 (by kernel_rfl) (A0T R R R (A0 R ?_))
     obtain⟨e3,ie3,h⟩:=H1 h
     refine Y1 tb R R R R R R (F0 ie3) (ix1 ie3) R R ?_
     refine A15 (y:=vI e3) tb R R R R (U5 (g:=fun a=>T.d (vI a)) ie3) R R R R ?_
     refine A3k R R R R (C8 tb R (B5 (y := .arr 1 ((rv.1.on_).map vB)) tb R (A0 R ?_)))
     obtain⟨e4,ie4,h⟩:=H1 h
     refine N8 tb (F0 ie4) (V1 ie4) R (I4 (y := .v (.bool e4)) tb (U5 (g:=vB) ie4) R (A57 R R R R R ?_))
     with_reducible apply X8
     ·intro c17
      replace h:=J7 c17 h
      refine A0 R (L9 14 R (D6 R (A0 R (L9 31 R (D6 R (I0 (by kernel_rfl) (A6 (.inr (C0 R (qG (A3 R (eN (C9 (C4 (B2 (B2 (C4 (B2 ?_))))))))))))))))))
      obtain rfl:=sI h
      exact f1 6 R
     intro c17
     replace h:=ifF c17 h
     refine A0 R (C8 tb R (B5 (y := .arr 1 ((rv.1.on_).map vB)) tb R (A0 R (N8 tb (F0 ie4) (V1 ie4) R (I4 (y := .v (.bool e4)) tb (U5 (g:=vB) ie4) R ?_)))))
     with_reducible apply X8
     ·intro c18
      replace h:=J7 c18 h
      refine A0 R (A0T R R R (A0 R (Y1 tb R R R R R R (F0 ie3) (ix1 ie3) R R ?_)))
      refine A15 (y:=vI e3) tb R R R R (U5 (g:=fun a=>T.d (vI a)) ie3) R R R R ?_
      refine C8 tb R (B5 (y:=vI rv.1.now) tb R ?_)
      refine Q4 R R R R ?_ ?_
      ·intro c19
       replace h:=J7 c19 h
       refine D6 R (D0 R (A0 R (L9 31 R (D6 R (I0 (by kernel_rfl) (A6 (.inr (C0 R (qG (A3 R (eN (C9 (C4 (B2 (B2 (C4 (B2 ?_)))))))))))))))))
       obtain rfl:=sI h
       exact f1 6 R
      intro c19
      replace h:=P1 (Int.not_lt.2 c19) h
      refine D6 R (D0 R (A0 R (C8 tb R (B5 (y := .arr 1 ((rv.1.on_).map vB)) tb R (A0 R (N8 tb (F0 ie4) (V1 ie4) R (I4 (y := .v (.bool e4)) tb (U5 (g:=vB) ie4) R ?_)))))))
      with_reducible apply X8
      rotate_left
      ·intro c20;rw[c18]at c20;cases c20
      intro _
      refine A0 R (C8 tb R (B5 (y := .arr 1 ((rv3.1.on_).map vB)) tb R (A0 R ?_)))
      obtain⟨e5,ie5,h⟩:=H1 h
      refine N8 tb (F0 ie5) (V1 ie5) R (I4 (y := .v (.bool e5)) tb (U5 (g:=vB) ie5) R ?_)
      with_reducible apply X8
      ·intro c21
       replace h:=J7 c21 h
       refine D6 R (A0 R (C8 tb R (B5 (y := .arr 1 ((rv3.1.left).map vI)) tb R (A0 R ?_))))
       obtain⟨e6,ie6,h⟩:=H1 h
       refine N8 tb (F0 ie6) (V1 ie6) R (I4 (y:=vI e6) tb (U5 (g:=vI) ie6) R ?_)
       refine A4l R R R R ?_ ?_
       ·intro c22
        replace h:=J7 c22 h
        refine D6 R (A0 R (A0T R R R (A0 R (Y1 tb R R R R R R (F0 ie3) (ix1 ie3) R R ?_))))
        refine A15 (y:=vI e3) tb R R R R (U5 (g:=fun a=>T.d (vI a)) ie3) R R R R ?_
        refine A0T R R R (A0 R ?_)
        obtain⟨e7,ie7,h⟩:=H1 h
        refine Y1 tb R R R R R R (F0 ie7) (ix1 ie7) R R ?_
        refine A15 (y:=vI e7) tb R R R R (U5 (g:=fun a=>T.d (vI a)) ie7) R R R R ?_
        refine V5 R R R R ?_ ?_
        ·intro c23
         replace h:=P1 c23 h
         refine D6 R (D0 R (I0 (by kernel_rfl) (A6 (.inr (C0 R (qG (A3 R (eN (C9 (C4 (B2 (B2 (C4 (B2 ?_))))))))))))))
         obtain rfl:=sI h
         exact f1 6 R
        intro c23
        replace h:=J7 c23 h
        refine D6 R (D0 R (I0 (by kernel_rfl) (A6 ?_)))
        exact .inl ⟨(),h,.prn [6,7,12,15,16,17,215] R⟩
       intro c22
       replace h:=P1 (Int.not_lt.2 c22) h
       refine D6 R (A0 R (L9 9 R (D0 R (D0 R (I0 (by kernel_rfl) (A6 ?_))))))
       exact .inl ⟨(),h,.prn [6,7,12,15,16,17,215] R⟩
      intro c21
      replace h:=ifF c21 h
      refine D6 R (A0 R (L9 6 R (D0 R (A0 R (L9 9 R (D0 R (D0 R (I0 (by kernel_rfl) (A6 ?_)))))))))
      exact .inl ⟨(),h,.prn [6,7,12,15,16,17,215] R⟩
     intro c18
     replace h:=ifF c18 h
     refine A0 R (L9 7 R (D0 R (D0 R (A0 R (C8 tb R (B5 (y := .arr 1 ((rv.1.on_).map vB)) tb R (A0 R (N8 tb (F0 ie4) (V1 ie4) R (I4 (y := .v (.bool e4)) tb (U5 (g:=vB) ie4) R ?_)))))))))
     with_reducible apply X8
     ·intro c24;rw[c18]at c24;cases c24
     intro _
     refine A0 R (L9 5 R (D0 R (A0 R (L9 6 R (D0 R (A0 R (L9 9 R (D0 R (D0 R (I0 (by kernel_rfl) (A6 ?_)))))))))))
     exact .inl ⟨(),h,.prn [6,7,12,15,16,17,215] R⟩
    intro c16
    replace h:=P1 (Int.not_lt.2 c16) h
    refine eN (C1 R (N5 (E4 (E4 ?_))))
    subst hK6
    refine I5 (A6 (qG ?_))
    obtain⟨rv7,hrv7,h⟩:=H1 h
    refine J5 (B0R hrv7) (.of (by kernel_rfl)) R R R R (A3 R (eN (C9 ?_)))
    obtain rfl:=sI h
    exact f1 6 R
   refine qG (A0 R ?_)
   refine V5 R R R R ?_ ?_
   ·intro c12
    replace h:=P1 c12 h
    refine A0 R (L9 2 R (D6 R (A0 R (L9 6 R (D6 R (A0 R (L9 6 R (D6 R (eN (C0 R (qG (A3 R (eN (C9 (B2 ?_)))))))))))))))
    obtain rfl:=sI h
    exact f1 6 R
   intro c12
   replace h:=J7 c12 h
   refine A0 R (A0 R ?_)
   refine V5 R R R R ?_ ?_
   ·intro c13
    replace h:=P1 c13 h
    refine D0 R (A0 R (L9 6 R (D6 R (A0 R (L9 6 R (D6 R (eN (C0 R (qG (A3 R (eN (C9 (B2 ?_)))))))))))))
    obtain rfl:=sI h
    exact f1 6 R
   intro c13
   replace h:=J7 c13 h
   refine D0 R (A0 R (A0T R R R (A8F tb R R R R R (C8 tb R (B5 (y := .arr 1 ((rv.1.on_).map vB)) tb R (I7 tb R ?_))))))
   refine V5 R R R R ?_ ?_
   ·intro c14
    replace h:=P1 c14 h
    refine D0 R (A0 R (L9 6 R (D6 R (eN (C0 R (qG (A3 R (eN (C9 (B2 ?_))))))))))
    obtain rfl:=sI h
    exact f1 6 R
   intro c14
   replace h:=J7 c14 h
   refine D0 R (A0 R (A0T R R R (A8F tb R R R R R (C8 tb R (B5 (y := .arr 1 ((rv.1.on_).map vB)) tb R (I7 tb R ?_))))))
   refine V5 R R R R ?_ ?_
   ·intro c15
    replace h:=P1 c15 h
    refine D0 R (eN (C0 R (qG (A3 R (eN (C9 (B2 ?_)))))))
    obtain rfl:=sI h
    exact f1 6 R
   intro c15
   replace h:=J7 c15 h
   refine D0 R (eN (C1 R (D7 (A6 ?_))))
   exact .inl ⟨(),h,.vw (κ:=[1,2,3,4]) (vK (.cons R R (.cons R R (.row R (.row R .nil)))) R)⟩
  refine B8 ?_
  refine W5 (fun zz:Unit=>A9z F rv3=some r) (fun zz:Unit=>⟨[(1,.d (.arr 8 ((o).map C7.d))),(3,.ref 0 13 0 0),(6,.d (.v (.bool false))),(7,.ref 1 13 0 0),(11,.d (.arr 8 ((q2).map C7.d))),(12,.ref 2 13 0 0),(14,.d (vI rv3.2.2)),(109,.d (.v (.bool true)))],[some ⟨13,[.d (D4.d t)]⟩,some ⟨13,[.d (H2.d rv.1)]⟩,some ⟨13,[.d (H2.d rv3.1)]⟩]⟩) ?_ ?_
  ·clear h
   rintro⟨⟩ h
   rw[A9z]at h
   refine C0 R (qG (A0 R ?_))
   refine V5 R R R R ?_ ?_
   ·intro c11
    replace h:=P1 c11 h
    refine A0 R ?_
    obtain⟨rv4,hrv4,h⟩:=H1 h
    refine J5 (B0R hrv4) (.of (by kernel_rfl)) R R R R (D6 R (A3 R (eN (C9 (B2 ?_)))))
    obtain rfl:=sI h
    exact f1 6 R
   intro c11
   replace h:=J7 c11 h
   refine A0 R (B3b R (D0 R (A3 R (eN (C9 (B2 ?_))))))
   obtain rfl:=sI h
   exact f1 6 R
  refine J1 (A0 R ?_)
  refine V5 R R R R ?_ ?_
  ·intro c8
   replace h:=P1 c8 h
   refine A0 R (L9 7 R (D6 R (A0 R (L9 7 R (D6 R (eN ?_))))))
   exact .inl ⟨(),h,.vw (κ:=[0,2,7]) (vK (.cons R R (.cons R R (.cons R R .nil))) R)⟩
  intro c8
  replace h:=J7 c8 h
  refine A0 R (C8 tb R (B5 (y := .arr 1 ((rv3.1.left).map vI)) tb R (I7 tb R (C8 tb R (B5 (y := .arr 1 ((rv.1.left).map vI)) tb R (I7 tb R ?_))))))
  refine V5 R R R R ?_ ?_
  ·intro c9
   replace h:=P1 c9 h
   refine D0 R (A0 R (L9 7 R (D6 R (eN ?_))))
   exact .inl ⟨(),h,.vw (κ:=[0,2,7]) (vK (.cons R R (.cons R R (.cons R R .nil))) R)⟩
  intro c9
  replace h:=J7 c9 h
  refine D0 R (A0 R (C8 tb R (B5 (y := .arr 1 ((rv3.1.on_).map vB)) tb R (I7 tb R (C8 tb R (B5 (y := .arr 1 ((rv.1.on_).map vB)) tb R (I7 tb R ?_)))))))
  refine V5 R R R R ?_ ?_
  ·intro c10
   replace h:=P1 c10 h
   refine D0 R (eN ?_)
   exact .inl ⟨(),h,.vw (κ:=[0,2,7]) (vK (.cons R R (.cons R R (.cons R R .nil))) R)⟩
  intro c10
  replace h:=J7 c10 h
  refine D0 R (eN (.inr (C1 R (D7 (A6 ?_)))))
  exact .inl ⟨(),h,.vw (κ:=[0,2,7]) (vK (.cons R R (.cons R R (.cons R R .nil))) R)⟩
 refine B8 ?_
 refine W5 (fun zz:Unit=>A90 F rv=some r) (fun zz:Unit=>⟨[(1,.d (.arr 8 ((o).map C7.d))),(3,.ref 0 13 0 0),(5,.ref 1 8 0 0),(6,.d (.v (.bool false))),(7,.ref 2 13 0 0),(9,.d (vI rv.2.2)),(44,.d (.v (.bool true)))],[some ⟨13,[.d (D4.d t)]⟩,some ⟨8,[.d (C7.d a)]⟩,some ⟨13,[.d (H2.d rv.1)]⟩]⟩) ?_ ?_
 ·clear h
  rintro⟨⟩ h
  rw[A90]at h
  refine C0 R (qG (A0 R ?_))
  refine V5 R R R R ?_ ?_
  ·intro c4
   replace h:=P1 c4 h
   refine A0 R ?_
   obtain⟨rv2,hrv2,h⟩:=H1 h
   refine J5 (B0R hrv2) (.of (by kernel_rfl)) R R R R (D6 R (A3 R (eN (C9 (B2 ?_)))))
   obtain rfl:=sI h
   exact f1 6 R
  intro c4
  replace h:=J7 c4 h
  refine A0 R (B3b R (D0 R (A3 R (eN (C9 (B2 ?_))))))
  obtain rfl:=sI h
  exact f1 6 R
 refine J1 (A0 R ?_)
 refine V5 R R R R ?_ ?_
 ·intro c
  replace h:=P1 c h
  refine A0 R (L9 7 R (D6 R (A0 R (L9 7 R (D6 R (eN ?_))))))
  exact .inl ⟨(),h,.prn [1,3,5,6,7,9,44] R⟩
 intro c
 replace h:=J7 c h
 refine A0 R (C8 tb R (B5 (y := .arr 1 ((rv.1.left).map vI)) tb R (I7 tb R (C8 tb R (B5 (y := .arr 3 ((t.batteries).map D9.d)) tb R (I7 tb R ?_))))))
 refine V5 R R R R ?_ ?_
 ·intro c2
  replace h:=P1 c2 h
  refine D0 R (A0 R (L9 7 R (D6 R (eN ?_))))
  exact .inl ⟨(),h,.prn [1,3,5,6,7,9,44] R⟩
 intro c2
 replace h:=J7 c2 h
 refine D0 R (A0 R (C8 tb R (B5 (y := .arr 1 ((rv.1.on_).map vB)) tb R (I7 tb R (C8 tb R (B5 (y := .arr 3 ((t.batteries).map D9.d)) tb R (I7 tb R ?_)))))))
 refine V5 R R R R ?_ ?_
 ·intro c3
  replace h:=P1 c3 h
  refine D0 R (eN ?_)
  exact .inl ⟨(),h,.prn [1,3,5,6,7,9,44] R⟩
 intro c3
 replace h:=J7 c3 h
 refine D0 R (eN (.inr (C1 R (D7 (A6 ?_)))))
 exact .inl ⟨(),h,.prn [1,3,5,6,7] R⟩
end Go.Proofs.YtlaogbbcipebgaaGreat
