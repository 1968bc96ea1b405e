/- What functions of the program compute: plain functions, and the proofs. -/
import Derived.Test.YtdefnmcjmklohaaW2
open Go Go.Proofs.Ytdefnmcjmklohaa.Sh Go.Proofs
namespace Go.Proofs.Ytdefnmcjmklohaa
set_option linter.unusedVariables false
set_option linter.unusedSimpArgs false
set_option maxRecDepth 100000
set_option maxHeartbeats 4000000
/-- hangfireref11.start -/
def r_start_L1 (F : Nat) (p : WiPlan) (K : (List Int) → (List Int) → (List Int) → Int → Option WiState) : Nat → (List Int) → (List Int) → (List Int) → Int → Option WiState
 | 0, _, _, _, _ => none
 | n + 1, s, s2, s3, i => if i < (p.teams.length : Int) then (Option.bind (appO s [0]) fun q => Option.bind (ixO p.teams i) fun e => Option.bind (appO s2 [e.credit]) fun q2 => Option.bind (appO s3 [(-1)]) fun q3 => r_start_L1 F p K n q q2 q3 (W (i + 1))) else (K s s2 s3 i)
def r_start (F : Nat) (p : WiPlan) : Option WiState := r_start_L1 F p (fun (s : (List Int)) (s2 : (List Int)) (s3 : (List Int)) (i : Int) => some (WiState.mk s s2 s3 0)) F ([] : List Int) ([] : List Int) ([] : List Int) 0
theorem r_start_scr {F : Nat} {p : WiPlan} {r : WiState} (h : r_start F p = some r) : SCR Try.prog 57 (List.map T.d [WiPlan.d p]) [] (WiState_T1 r 0 1 2) (List.map some [(lvI r.used), (lvI r.credit), (lvI r.last)]) := by
 rw [r_start] at h
 refine SC.of_sw Try.func57 R R R ?_
 simp only [List.map_cons, List.map_nil, argS, Nat.zero_add, Nat.reduceAdd]
 refine qG (r_box R R R R R R R (r_alloc tb R R R R R (eN (qG (r_alloc tb R R R R R (eN (sw_seq (qG (r_asgD R R R (eN (sw_block ?_)))))))))))
 refine SW.own (ts' := [(1, .ref 0 4 0 0), (2, .ref 1 4 0 0), (3, .ref 2 4 0 0), (4, .d (.v (.int .i64 0)))]) (L' := [some ⟨4, [.d (WiPlan.d p)]⟩, some ⟨4, [.d (.agg [.v (.slice none 0 0), .v (.slice none 0 0), .v (.slice none 0 0), .v (.int .i64 0)])]⟩, some ⟨4, [.agg [.row 3 1 0 (([] : List Int)).length, .d (.v (.slice none 0 0)), .d (.v (.slice none 0 0)), .d (.v (.int .i64 0))]]⟩]) 1 R R (.cons (.same _) (.cons (.same _) (.cons (.same _) (.cons (.same _) .nil)))) (.same (.same (.cons R (.cons (.aggDL (.cons .nil (.cons (.same _) (.cons (.same _) (.cons (.same _) .nil))))) .nil) .nil))) ?_
 simp only [List.cons_append, List.nil_append]
 refine SW.own (ts' := [(1, .ref 0 4 0 0), (2, .ref 1 4 0 0), (3, .ref 2 4 0 0), (4, .d (.v (.int .i64 0)))]) (L' := [some ⟨4, [.d (WiPlan.d p)]⟩, some ⟨4, [.d (.agg [.v (.slice none 0 0), .v (.slice none 0 0), .v (.slice none 0 0), .v (.int .i64 0)])]⟩, some ⟨4, [.agg [.row 3 1 0 (([] : List Int)).length, .row 4 1 0 (([] : List Int)).length, .d (.v (.slice none 0 0)), .d (.v (.int .i64 0))]]⟩, some (lvI ([] : List Int))]) 1 R R (.cons (.same _) (.cons (.same _) (.cons (.same _) (.cons (.same _) .nil)))) (.same (.same (.cons R (.cons (.aggL (.cons (.same _) (.cons .nil (.cons (.same _) (.cons (.same _) .nil))))) .nil) (.same .nil)))) ?_
 simp only [List.cons_append, List.nil_append]
 refine SW.own (ts' := [(1, .ref 0 4 0 0), (2, .ref 1 4 0 0), (3, .ref 2 4 0 0), (4, .d (.v (.int .i64 0)))]) (L' := [some ⟨4, [.d (WiPlan.d p)]⟩, some ⟨4, [.d (.agg [.v (.slice none 0 0), .v (.slice none 0 0), .v (.slice none 0 0), .v (.int .i64 0)])]⟩, some ⟨4, [WiState_T1 (WiState.mk ([] : List Int) ([] : List Int) ([] : List Int) 0) 3 4 5]⟩, some (lvI ([] : List Int)), some (lvI ([] : List Int))]) 1 R R (.cons (.same _) (.cons (.same _) (.cons (.same _) (.cons (.same _) .nil)))) (.same (.same (.cons R (.cons (.aggL (.cons (.same _) (.cons (.same _) (.cons .nil (.cons (.same _) .nil))))) .nil) (.same (.same .nil))))) ?_
 simp only [List.cons_append, List.nil_append]
 obtain ⟨K1, hK1, h⟩ : ∃ K, K = _ ∧ r_start_L1 F p K F ([] : List Int) ([] : List Int) ([] : List Int) 0 = some r := ⟨_, rfl, h⟩
 refine sw_loop (st0 := ⟨[(1, .ref 0 4 0 0), (2, .ref 1 4 0 0), (3, .ref 2 4 0 0), (4, .d (.v (.int .i64 0)))], [some ⟨4, [.d (WiPlan.d p)]⟩, some ⟨4, [.d (.agg [.v (.slice none 0 0), .v (.slice none 0 0), .v (.slice none 0 0), .v (.int .i64 0)])]⟩, some ⟨4, [WiState_T1 (WiState.mk ([] : List Int) ([] : List Int) ([] : List Int) 0) 3 4 5]⟩, some (lvI ([] : List Int)), some (lvI ([] : List Int)), some (lvI ([] : List Int))]⟩) (κ := [0, 1, 2, 3, 4, 5]) (fun m st => ∃ (s : (List Int)) (s2 : (List Int)) (s3 : (List Int)) (i : Int), r_start_L1 F p K1 m s s2 s3 i = some r ∧ st = ⟨[(1, .ref 0 4 0 0), (2, .ref 1 4 0 0), (3, .ref 2 4 0 0), (4, .d (.v (.int .i64 i)))], [some ⟨4, [.d (WiPlan.d p)]⟩, some ⟨4, [.d (.agg [.v (.slice none 0 0), .v (.slice none 0 0), .v (.slice none 0 0), .v (.int .i64 0)])]⟩, some ⟨4, [WiState_T1 (WiState.mk s s2 s3 0) 3 4 5]⟩, some (lvI s), some (lvI s2), some (lvI s3)]⟩) (vwK R R (.cons R R (.cons R R (.cons R R (.row R (.row R (.row R .nil)))))) (.cons R R (.cons R R (.cons R R (.cons R R .nil))))) ⟨([] : List Int), ([] : List Int), ([] : List Int), 0, h, R⟩ ?_
 clear h
 rintro m1 st ⟨s, s2, s3, i, h, rfl⟩
 cases m1 with
 | zero => cases (show (none : Option WiState) = some r from h)
 | succ m1 =>
 rw [r_start_L1] at h
 refine sw_seq (qG (r_movD R R R (r_fa tb R R R R R R R (r_ldD (y := .arr 9 ((p.teams).map WiTeam.d)) tb R R R R R R R R R (r_lenM tb R R R R R ?_)))))
 refine r_lss R R R R ?_ ?_
 ·intro c
  replace h := ifP c h
  refine eN (sw_condT R (sw_skip (then_norm (sw_seq (sw_block (sw_dr (by kernel_rfl) (r_fa tb R R R R R R R (r_ldW tb R R R R R R R R R (r_bslice tb R R R R R R R R R R R R R ?_)))))))))
  obtain ⟨q, iq, h⟩ := bnd h
  refine r_apM (g := vI) (w := s) (v := [0]) ([some ⟨4, [.d (WiPlan.d p)]⟩, some ⟨4, [.d (.agg [.v (.slice none 0 0), .v (.slice none 0 0), .v (.slice none 0 0), .v (.int .i64 0)])]⟩, some ⟨4, [.agg [.row 3 1 0 (s).length, .row 4 1 0 (s2).length, .row 5 1 0 (s3).length, .d (.v (.int .i64 0))]]⟩, none, some (lvI s2), some (lvI s3), some (lvI [0])]) tb R R R R R R R R R R R iq R R R R R (r_fa tb R R R R R R R (r_ldW tb R R R R R R R R R (r_fa tb R R R R R R R ?_)))
  refine r_ldD (y := .arr 9 ((p.teams).map WiTeam.d)) tb R R R R R R R R R (r_movD R R R ?_)
  obtain ⟨e, ie, h⟩ := bnd h
  refine r_ixE tb R R R R R R (ix0 ie) (ix1m ie) R R (r_faE tb R R R R R R R (r_ldE (y := .v (.int .i64 e.credit)) tb R R (ix2 (g := WiTeam.d) ie) R R R R (r_bslice tb R R R R R R R R R R R R R ?_)))
  obtain ⟨q2, iq2, h⟩ := bnd h
  refine r_apM (g := vI) (w := s2) (v := [e.credit]) ([some ⟨4, [.d (WiPlan.d p)]⟩, some ⟨4, [.d (.agg [.v (.slice none 0 0), .v (.slice none 0 0), .v (.slice none 0 0), .v (.int .i64 0)])]⟩, some ⟨4, [.agg [.row 3 1 0 (s).length, .row 4 1 0 (s2).length, .row 5 1 0 (s3).length, .d (.v (.int .i64 0))]]⟩, none, none, some (lvI s3), some (lvI [0]), some (lvI q), some (lvI [e.credit])]) tb R R R R R R R R R R R iq2 R R R R R (r_fa tb R R R R R R R (r_ldW tb R R R R R R R R R ?_))
  refine r_bslice tb R R R R R R R R R R R R R ?_
  obtain ⟨q3, iq3, h⟩ := bnd h
  refine r_apM (g := vI) (w := s3) (v := [(-1)]) ([some ⟨4, [.d (WiPlan.d p)]⟩, some ⟨4, [.d (.agg [.v (.slice none 0 0), .v (.slice none 0 0), .v (.slice none 0 0), .v (.int .i64 0)])]⟩, some ⟨4, [.agg [.row 3 1 0 (s).length, .row 4 1 0 (s2).length, .row 5 1 0 (s3).length, .d (.v (.int .i64 0))]]⟩, none, none, none, some (lvI [0]), some (lvI q), some (lvI [e.credit]), some (lvI q2), some (lvI [(-1)])]) tb R R R R R R R R R R R iq3 R R R R R (r_fa tb R R R R R R R ?_)
  refine r_stE _ ([some ⟨4, [.d (WiPlan.d p)]⟩, some ⟨4, [.d (.agg [.v (.slice none 0 0), .v (.slice none 0 0), .v (.slice none 0 0), .v (.int .i64 0)])]⟩, some ⟨4, [.agg [.row 7 1 0 (q).length, .row 4 1 0 (s2).length, .row 5 1 0 (s3).length, .d (.v (.int .i64 0))]]⟩, none, none, none, some (lvI [0]), some (lvI q), some (lvI [e.credit]), some (lvI q2), some (lvI [(-1)]), some (lvI q3)]) tb R R R R R R R R R R R R (r_fa tb R R R R R R R ?_)
  refine r_stE _ ([some ⟨4, [.d (WiPlan.d p)]⟩, some ⟨4, [.d (.agg [.v (.slice none 0 0), .v (.slice none 0 0), .v (.slice none 0 0), .v (.int .i64 0)])]⟩, some ⟨4, [.agg [.row 7 1 0 (q).length, .row 9 1 0 (q2).length, .row 5 1 0 (s3).length, .d (.v (.int .i64 0))]]⟩, none, none, none, some (lvI [0]), some (lvI q), some (lvI [e.credit]), some (lvI q2), some (lvI [(-1)]), some (lvI q3)]) tb R R R R R R R R R R R R (r_fa tb R R R R R R R ?_)
  refine r_stE _ ([some ⟨4, [.d (WiPlan.d p)]⟩, some ⟨4, [.d (.agg [.v (.slice none 0 0), .v (.slice none 0 0), .v (.slice none 0 0), .v (.int .i64 0)])]⟩, some ⟨4, [WiState_T1 (WiState.mk q q2 q3 0) 7 9 11]⟩, none, none, none, some (lvI [0]), some (lvI q), some (lvI [e.credit]), some (lvI q2), some (lvI [(-1)]), some (lvI q3)]) tb R R R R R R R R R R R R (ev_endD (by kernel_rfl) (block_norm (then_norm (sw_rg (r_movD R R R (r_add R R R R (r_asgD R R R (eN ?_))))))))
  exact ⟨m1, ⟨[(1, .ref 0 4 0 0), (2, .ref 1 4 0 0), (3, .ref 2 4 0 0), (4, .d (.v (.int .i64 (W (i + 1)))))], [some ⟨4, [.d (WiPlan.d p)]⟩, some ⟨4, [.d (.agg [.v (.slice none 0 0), .v (.slice none 0 0), .v (.slice none 0 0), .v (.int .i64 0)])]⟩, some ⟨4, [WiState_T1 (WiState.mk q q2 q3 0) 3 4 5]⟩, some (lvI q), some (lvI q2), some (lvI q3)]⟩, [0, 1, 2, 7, 9, 11], Nat.lt_succ_self _, (vwK R R (.cons R R (.cons R R (.cons R R (.row R (.row R (.row R .nil)))))) (.cons R R (.cons R R (.cons R R (.cons R R .nil))))), q, q2, q3, (W (i + 1)), h, R⟩
 intro c
 replace h := ifN (Int.not_lt.2 c) h
 refine eN (sw_condF R (sw_exit (then_exit (then_exit ?_))))
 subst hK1
 refine block_exit (then_norm (qG (r_ldG tb R R R R R R R R R (r_stE _ ([some ⟨4, [.d (WiPlan.d p)]⟩, some ⟨4, [WiState_T1 (WiState.mk s s2 s3 0) 3 4 5]⟩, some ⟨4, [WiState_T1 (WiState.mk s s2 s3 0) 3 4 5]⟩, some (lvI s), some (lvI s2), some (lvI s3)]) tb R R R R R R R R R R R R (eN (sw_ret ?_))))))
 obtain rfl := sI h
 exact (fin_S (t := WiState_T1 (WiState.mk s s2 s3 0) 0 1 2) (L := [some (lvI s), some (lvI s2), some (lvI s3)]) (κ := [3, 4, 5]) R (.cons (rcell tb (u := WiState_T1 (WiState.mk s s2 s3 0) 3 4 5) R R R R R R R) .nil) (vwK R R (.row R (.row R (.row R .nil))) (.cons R R .nil)) ⟨R, R⟩)
theorem r_start_pc {F : Nat} {p : WiPlan} {r : WiState} (h : r_start F p = some r) : PC Try.prog 57 [WiPlan.d p] (WiState.d r) := (r_start_scr h).toPC (.aggL (.cons (.row rfl rfl) (.cons (.row rfl rfl) (.cons (.row rfl rfl) (.cons (.d _) .nil)))))
/-- hangfireref11.common -/
def r_common_L1 (F : Nat) (a : (List Int)) (b : (List Int)) (K : Int → Option Bool) : Nat → Int → Option Bool
 | 0, _ => none
 | n + 1, k => if k < (b.length : Int) then (Option.bind (ixO a 0) fun e => Option.bind (ixO b k) fun e2 => if e = e2 then (some true) else (r_common_L1 F a b K n (W (k + 1)))) else (K k)
def r_common_L2 (F : Nat) (a : (List Int)) (b : (List Int)) (i : Int) (K : Int → Option Bool) : Nat → Int → Option Bool
 | 0, _ => none
 | n + 1, k => if k < (b.length : Int) then (Option.bind (ixO a i) fun e => Option.bind (ixO b k) fun e2 => if e = e2 then (some true) else (r_common_L2 F a b i K n (W (k + 1)))) else (K k)
def r_common_L3 (F : Nat) (a : (List Int)) (b : (List Int)) (K : Int → Option Bool) : Nat → Int → Option Bool
 | 0, _ => none
 | n + 1, i => if i < (a.length : Int) then (r_common_L2 F a b i (fun (k : Int) => r_common_L3 F a b K n (W (i + 1))) F 0) else (K i)
def r_common (F : Nat) (a : (List Int)) (b : (List Int)) : Option Bool := r_common_L3 F a b (fun (i : Int) => some false) F 0
theorem r_common_pc {F : Nat} {a : (List Int)} {b : (List Int)} {r : Bool} (h : r_common F a b = some r) : PC Try.prog 94 [.arr 1 ((a).map vI), .arr 1 ((b).map vI)] (.v (.bool r)) := by
 rw [r_common] at h
 refine SC.of_sw Try.func94 R R R ?_
 simp only [List.map_cons, List.map_nil, argS, Nat.zero_add, Nat.reduceAdd]
 refine qG (r_asgD R R R (eN (sw_seq (qG (r_asgD R R R (eN (sw_block ?_)))))))
 obtain ⟨K4, hK4, h⟩ : ∃ K, K = _ ∧ r_common_L3 F a b K F 0 = some r := ⟨_, rfl, h⟩
 refine sw_loop (st0 := ⟨[(0, .d (.arr 1 ((a).map vI))), (1, .d (.arr 1 ((b).map vI))), (4, .d (.v (.bool false))), (5, .d (.v (.int .i64 0)))], []⟩) (κ := []) (fun m st => ∃ (i : Int), r_common_L3 F a b K4 m i = some r ∧ st = ⟨[(0, .d (.arr 1 ((a).map vI))), (1, .d (.arr 1 ((b).map vI))), (4, .d (.v (.bool false))), (5, .d (.v (.int .i64 i)))], []⟩) (vwK R R .nil (.cons R R (.cons R R (.cons R R (.cons R R .nil))))) ⟨0, h, R⟩ ?_
 clear h
 rintro m4 st ⟨i, h, rfl⟩
 cases m4 with
 | zero => cases (show (none : Option Bool) = some r from h)
 | succ m4 =>
 rw [r_common_L3] at h
 refine sw_seq (qG (r_movD R R R (r_movD R R R (r_lenM tb R R R R R ?_))))
 refine r_lss R R R R ?_ ?_
 ·intro c
  replace h := ifP c h
  refine eN (sw_condT R (sw_skip (then_norm (sw_seq (sw_block (qG (r_asgD R R R (eN (sw_block ?_)))))))))
  obtain ⟨K5, hK5, h⟩ : ∃ K, K = _ ∧ r_common_L2 F a b i K F 0 = some r := ⟨_, rfl, h⟩
  refine sw_loop (st0 := ⟨[(0, .d (.arr 1 ((a).map vI))), (1, .d (.arr 1 ((b).map vI))), (4, .d (.v (.bool false))), (5, .d (.v (.int .i64 i))), (6, .d (.v (.int .i64 0)))], []⟩) (κ := []) (fun m st => ∃ (k : Int), r_common_L2 F a b i K5 m k = some r ∧ st = ⟨[(0, .d (.arr 1 ((a).map vI))), (1, .d (.arr 1 ((b).map vI))), (4, .d (.v (.bool false))), (5, .d (.v (.int .i64 i))), (6, .d (.v (.int .i64 k)))], []⟩) (vwK R R .nil (.cons R R (.cons R R (.cons R R (.cons R R (.cons R R .nil)))))) ⟨0, h, R⟩ ?_
  clear h
  rintro m5 st ⟨k, h, rfl⟩
  cases m5 with
  | zero => cases (show (none : Option Bool) = some r from h)
  | succ m5 =>
  rw [r_common_L2] at h
  refine sw_seq (qG (r_movD R R R (r_movD R R R (r_lenM tb R R R R R ?_))))
  refine r_lss R R R R ?_ ?_
  ·intro c2
   replace h := ifP c2 h
   refine eN (sw_condT R (sw_skip (then_norm (sw_seq (sw_block (sw_seq (sw_dr (by kernel_rfl) (r_movD R R R (r_movD R R R ?_)))))))))
   obtain ⟨e, ie, h⟩ := bnd h
   refine r_ixE tb R R R R R R (ix0 ie) (ix1m ie) R R (r_ldE (y := .v (.int .i64 e)) tb R R (ix2 (g := vI) ie) R R R R (r_movD R R R (r_movD R R R ?_)))
   obtain ⟨e2, ie2, h⟩ := bnd h
   refine r_ixE tb R R R R R R (ix0 ie2) (ix1m ie2) R R (r_ldE (y := .v (.int .i64 e2)) tb R R (ix2 (g := vI) ie2) R R R R ?_)
   refine r_eql R R R R ?_ ?_
   ·intro c3
    replace h := ifP c3 h
    refine ev_endD (by kernel_rfl) (then_norm (sw_condT R (qG (r_asgD R R R (eN (sw_ret (block_ret (then_ret (then_ret (block_ret (block_ret (then_ret (then_ret (block_ret (then_ret ?_)))))))))))))))
    obtain rfl := sI h
    exact fin_0 (t := .d (.v (.bool true))) R R R (.cons (.tmp 4) .nil)
   intro c3
   replace h := ifN c3 h
   refine ev_endD (by kernel_rfl) (then_norm (sw_condF R (sw_skip (block_norm (then_norm (sw_rg (r_movD R R R (r_add R R R R (r_asgD R R R (eN ?_))))))))))
   exact ⟨m5, ⟨[(0, .d (.arr 1 ((a).map vI))), (1, .d (.arr 1 ((b).map vI))), (4, .d (.v (.bool false))), (5, .d (.v (.int .i64 i))), (6, .d (.v (.int .i64 (W (k + 1)))))], []⟩, [], Nat.lt_succ_self _, (vwK R R .nil (.cons R R (.cons R R (.cons R R (.cons R R (.cons R R .nil)))))), (W (k + 1)), h, R⟩
  intro c2
  replace h := ifN (Int.not_lt.2 c2) h
  refine eN (sw_condF R (sw_exit (then_exit (then_exit ?_))))
  subst hK5
  refine block_exit (block_norm (then_norm (sw_rg (r_movD R R R (r_add R R R R (r_asgD R R R (eN ?_)))))))
  exact ⟨m4, ⟨[(0, .d (.arr 1 ((a).map vI))), (1, .d (.arr 1 ((b).map vI))), (4, .d (.v (.bool false))), (5, .d (.v (.int .i64 (W (i + 1)))))], []⟩, [], Nat.lt_succ_self _, (vwK R R .nil (.cons R R (.cons R R (.cons R R (.cons R R .nil))))), (W (i + 1)), h, R⟩
 intro c
 replace h := ifN (Int.not_lt.2 c) h
 refine eN (sw_condF R (sw_exit (then_exit (then_exit ?_))))
 subst hK4
 refine block_exit (then_norm (qG (r_asgD R R R (eN (sw_ret ?_)))))
 obtain rfl := sI h
 exact fin_0 (t := .d (.v (.bool false))) R R R (.cons (.tmp 4) .nil)
/-- hangfireref11.has -/
def r_has (F : Nat) (lv : (List Int)) (nv : Int) : Option Bool := Option.bind (r_common F lv [nv]) fun rv => some rv
theorem r_has_pc {F : Nat} {lv : (List Int)} {nv : Int} {r : Bool} (h : r_has F lv nv = some r) : PC Try.prog 95 [.arr 1 ((lv).map vI), .v (.int .i64 nv)] (.v (.bool r)) := by
 rw [r_has] at h
 refine SC.of_sw Try.func95 R R R ?_
 simp only [List.map_cons, List.map_nil, argS, Nat.zero_add, Nat.reduceAdd]
 refine qG (r_asgD R R R (eN (qG (r_movD R R R (r_movD R R R (r_bslice tb R R R R R R R R R R R R R ?_))))))
 obtain ⟨rv, hrv, h⟩ := bnd h
 refine r_callL (r_common_pc hrv) R (.of (by kernel_rfl)) R R ((.cons (.d _) (.cons (.row R R) .nil))) R R (r_asgD R R R (eN (sw_ret ?_)))
 obtain rfl := sI h
 exact fin_0 (t := .d (.v (.bool rv))) R R R (.cons (.tmp 4) .nil)
/-- hangfireref01.Name -/
def r1_Name_L1 (F : Nat) (s : ByteArray) (K : Int → Option Bool) : Nat → Int → Option Bool
 | 0, _ => none
 | n + 1, i => if i < (s.size : Int) then (Option.bind (ixB s i) fun b => if 97 ≤ b then (if b ≤ 122 then (r1_Name_L1 F s K n (W (i + 1))) else (if i = 0 then (some false) else (if 48 ≤ b then (if b ≤ 57 then (r1_Name_L1 F s K n (W (i + 1))) else (if b = 45 then (r1_Name_L1 F s K n (W (i + 1))) else (some false))) else (if b = 45 then (r1_Name_L1 F s K n (W (i + 1))) else (some false))))) else (if i = 0 then (some false) else (if 48 ≤ b then (if b ≤ 57 then (r1_Name_L1 F s K n (W (i + 1))) else (if b = 45 then (r1_Name_L1 F s K n (W (i + 1))) else (some false))) else (if b = 45 then (r1_Name_L1 F s K n (W (i + 1))) else (some false))))) else (K i)
def r1_Name (F : Nat) (s : ByteArray) : Option Bool := if (s.size : Int) < 1 then (some false) else (if 24 < (s.size : Int) then (some false) else (r1_Name_L1 F s (fun (i : Int) => some true) F 0))
theorem r1_Name_pc {F : Nat} {s : ByteArray} {r : Bool} (h : r1_Name F s = some r) : PC Try.prog 75 [.v (.string s)] (.v (.bool r)) := by
 rw [r1_Name] at h
 refine SC.of_sw Try.func75 R R R ?_
 simp only [List.map_cons, List.map_nil, argS, Nat.zero_add, Nat.reduceAdd]
 refine qG (r_asgD R R R (eN (sw_seq (qG (r_movD R R R (r_lenS R R R R ?_))))))
 refine r_lss R R R R ?_ ?_
 ·intro c
  replace h := ifP c h
  refine r_movD R R R (r_skip R R R (r_skip R R R (r_skip R R R (r_pickT R R R R (eN (sw_condT R (qG (r_asgD R R R (eN (sw_ret (then_ret ?_)))))))))))
  obtain rfl := sI h
  exact fin_0 (t := .d (.v (.bool false))) R R R (.cons (.tmp 2) .nil)
 intro c
 replace h := ifN (Int.not_lt.2 c) h
 refine r_movD R R R (r_movD R R R (r_lenS R R R R ?_))
 refine r_gtr R R R R ?_ ?_
 ·intro c2
  replace h := ifP c2 h
  refine r_pickF R R R R (eN (sw_condT R (qG (r_asgD R R R (eN (sw_ret (then_ret ?_)))))))
  obtain rfl := sI h
  exact fin_0 (t := .d (.v (.bool false))) R R R (.cons (.tmp 2) .nil)
 intro c2
 replace h := ifN (Int.not_lt.2 c2) h
 refine r_pickF R R R R (eN (sw_condF R (sw_skip (then_norm (sw_seq (qG (r_asgD R R R (eN (sw_block ?_)))))))))
 obtain ⟨K2, hK2, h⟩ : ∃ K, K = _ ∧ r1_Name_L1 F s K F 0 = some r := ⟨_, rfl, h⟩
 refine sw_loop (st0 := ⟨[(0, .d (.v (.string s))), (2, .d (.v (.bool false))), (3, .d (.v (.int .i64 0)))], []⟩) (κ := []) (fun m st => ∃ (i : Int), r1_Name_L1 F s K2 m i = some r ∧ st = ⟨[(0, .d (.v (.string s))), (2, .d (.v (.bool false))), (3, .d (.v (.int .i64 i)))], []⟩) (vwK R R .nil (.cons R R (.cons R R (.cons R R .nil)))) ⟨0, h, R⟩ ?_
 clear h
 rintro m2 st ⟨i, h, rfl⟩
 cases m2 with
 | zero => cases (show (none : Option Bool) = some r from h)
 | succ m2 =>
 rw [r1_Name_L1] at h
 refine sw_seq (qG (r_movD R R R (r_movD R R R (r_lenS R R R R ?_))))
 refine r_lss R R R R ?_ ?_
 ·intro c3
  replace h := ifP c3 h
  refine eN (sw_condT R (sw_skip (then_norm (sw_seq (sw_block (qG (r_movD R R R (r_movD R R R ?_))))))))
  obtain ⟨b, ib, h⟩ := bnd h
  refine r_ixB R R R ib R R (r_asgD R R R (eN (qG (r_movD R R R ?_))))
  refine r_geq R R R R ?_ ?_
  ·intro c4
   replace h := ifP c4 h
   refine r_movD R R R (r_movD R R R ?_)
   refine r_leq R R R R ?_ ?_
   ·intro c5
    replace h := ifP c5 h
    refine r_pickT R R R R (r_asgD R R R (eN (qG (r_movD R R R (r_notT R R R (r_movD R R R (r_skip R R R (r_skip R R R (r_skip R R R (r_skip R R R (r_skip R R R (r_skip R R R (r_skip R R R (r_skip R R R (r_skip R R R (r_skip R R R (r_skip R R R (r_skip R R R (r_skip R R R (r_skip R R R (r_skip R R R (r_pickF R R R R (eN (sw_condF R (sw_skip (block_norm (then_norm (sw_rg (r_movD R R R (r_add R R R R ?_))))))))))))))))))))))))))))))
    refine r_asgD R R R (eN ?_)
    exact ⟨m2, ⟨[(0, .d (.v (.string s))), (2, .d (.v (.bool false))), (3, .d (.v (.int .i64 (W (i + 1)))))], []⟩, [], Nat.lt_succ_self _, (vwK R R .nil (.cons R R (.cons R R (.cons R R .nil)))), (W (i + 1)), h, R⟩
   intro c5
   replace h := ifN (Int.not_le.2 c5) h
   refine r_pickT R R R R (r_asgD R R R (eN (qG (r_movD R R R (r_notF R R R (r_movD R R R (r_movD R R R ?_)))))))
   refine r_eql R R R R ?_ ?_
   ·intro c6
    replace h := ifP c6 h
    refine r_movD R R R (r_skip R R R (r_skip R R R (r_skip R R R (r_skip R R R (r_skip R R R (r_skip R R R (r_skip R R R (r_skip R R R (r_skip R R R (r_skip R R R (r_skip R R R (r_pickT R R R R (r_pickT R R R R (eN (sw_condT R (qG (r_asgD R R R (eN (sw_ret (block_ret (then_ret (then_ret (block_ret (then_ret ?_))))))))))))))))))))))))
    obtain rfl := sI h
    exact fin_0 (t := .d (.v (.bool false))) R R R (.cons (.tmp 2) .nil)
   intro c6
   replace h := ifN c6 h
   refine r_movD R R R (r_movD R R R ?_)
   refine r_geq R R R R ?_ ?_
   ·intro c7
    replace h := ifP c7 h
    refine r_movD R R R (r_movD R R R ?_)
    refine r_leq R R R R ?_ ?_
    ·intro c8
     replace h := ifP c8 h
     refine r_pickT R R R R (r_movD R R R (r_skip R R R (r_skip R R R (r_pickT R R R R (r_notT R R R (r_pickF R R R R (r_pickT R R R R (eN (sw_condF R (sw_skip (block_norm (then_norm (sw_rg (r_movD R R R (r_add R R R R (r_asgD R R R (eN ?_)))))))))))))))))
     exact ⟨m2, ⟨[(0, .d (.v (.string s))), (2, .d (.v (.bool false))), (3, .d (.v (.int .i64 (W (i + 1)))))], []⟩, [], Nat.lt_succ_self _, (vwK R R .nil (.cons R R (.cons R R (.cons R R .nil)))), (W (i + 1)), h, R⟩
    intro c8
    replace h := ifN (Int.not_le.2 c8) h
    refine r_pickT R R R R (r_movD R R R (r_movD R R R ?_))
    refine r_eql R R R R ?_ ?_
    ·intro c9
     replace h := ifP c9 h
     refine r_pickF R R R R (r_notT R R R (r_pickF R R R R (r_pickT R R R R (eN (sw_condF R (sw_skip (block_norm (then_norm (sw_rg (r_movD R R R (r_add R R R R (r_asgD R R R (eN ?_)))))))))))))
     exact ⟨m2, ⟨[(0, .d (.v (.string s))), (2, .d (.v (.bool false))), (3, .d (.v (.int .i64 (W (i + 1)))))], []⟩, [], Nat.lt_succ_self _, (vwK R R .nil (.cons R R (.cons R R (.cons R R .nil)))), (W (i + 1)), h, R⟩
    intro c9
    replace h := ifN c9 h
    refine r_pickF R R R R (r_notF R R R (r_pickF R R R R (r_pickT R R R R (eN (sw_condT R (qG (r_asgD R R R (eN (sw_ret (block_ret (then_ret (then_ret (block_ret (then_ret ?_))))))))))))))
    obtain rfl := sI h
    exact fin_0 (t := .d (.v (.bool false))) R R R (.cons (.tmp 2) .nil)
   intro c7
   replace h := ifN (Int.not_le.2 c7) h
   refine r_movD R R R (r_skip R R R (r_skip R R R (r_pickF R R R R (r_movD R R R (r_movD R R R ?_)))))
   refine r_eql R R R R ?_ ?_
   ·intro c10
    replace h := ifP c10 h
    refine r_pickF R R R R (r_notT R R R (r_pickF R R R R (r_pickT R R R R (eN (sw_condF R (sw_skip (block_norm (then_norm (sw_rg (r_movD R R R (r_add R R R R (r_asgD R R R (eN ?_)))))))))))))
    exact ⟨m2, ⟨[(0, .d (.v (.string s))), (2, .d (.v (.bool false))), (3, .d (.v (.int .i64 (W (i + 1)))))], []⟩, [], Nat.lt_succ_self _, (vwK R R .nil (.cons R R (.cons R R (.cons R R .nil)))), (W (i + 1)), h, R⟩
   intro c10
   replace h := ifN c10 h
   refine r_pickF R R R R (r_notF R R R (r_pickF R R R R (r_pickT R R R R (eN (sw_condT R (qG (r_asgD R R R (eN (sw_ret (block_ret (then_ret (then_ret (block_ret (then_ret ?_))))))))))))))
   obtain rfl := sI h
   exact fin_0 (t := .d (.v (.bool false))) R R R (.cons (.tmp 2) .nil)
  intro c4
  replace h := ifN (Int.not_le.2 c4) h
  refine r_movD R R R (r_skip R R R (r_skip R R R (r_pickF R R R R (r_asgD R R R (eN (qG (r_movD R R R (r_notF R R R (r_movD R R R (r_movD R R R ?_))))))))))
  refine r_eql R R R R ?_ ?_
  ·intro c11
   replace h := ifP c11 h
   refine r_movD R R R (r_skip R R R (r_skip R R R (r_skip R R R (r_skip R R R (r_skip R R R (r_skip R R R (r_skip R R R (r_skip R R R (r_skip R R R (r_skip R R R (r_skip R R R (r_pickT R R R R (r_pickT R R R R (eN (sw_condT R (qG (r_asgD R R R (eN (sw_ret (block_ret (then_ret (then_ret (block_ret (then_ret ?_))))))))))))))))))))))))
   obtain rfl := sI h
   exact fin_0 (t := .d (.v (.bool false))) R R R (.cons (.tmp 2) .nil)
  intro c11
  replace h := ifN c11 h
  refine r_movD R R R (r_movD R R R ?_)
  refine r_geq R R R R ?_ ?_
  ·intro c12
   replace h := ifP c12 h
   refine r_movD R R R (r_movD R R R ?_)
   refine r_leq R R R R ?_ ?_
   ·intro c13
    replace h := ifP c13 h
    refine r_pickT R R R R (r_movD R R R (r_skip R R R (r_skip R R R (r_pickT R R R R (r_notT R R R (r_pickF R R R R (r_pickT R R R R (eN (sw_condF R (sw_skip (block_norm (then_norm (sw_rg (r_movD R R R (r_add R R R R (r_asgD R R R (eN ?_)))))))))))))))))
    exact ⟨m2, ⟨[(0, .d (.v (.string s))), (2, .d (.v (.bool false))), (3, .d (.v (.int .i64 (W (i + 1)))))], []⟩, [], Nat.lt_succ_self _, (vwK R R .nil (.cons R R (.cons R R (.cons R R .nil)))), (W (i + 1)), h, R⟩
   intro c13
   replace h := ifN (Int.not_le.2 c13) h
   refine r_pickT R R R R (r_movD R R R (r_movD R R R ?_))
   refine r_eql R R R R ?_ ?_
   ·intro c14
    replace h := ifP c14 h
    refine r_pickF R R R R (r_notT R R R (r_pickF R R R R (r_pickT R R R R (eN (sw_condF R (sw_skip (block_norm (then_norm (sw_rg (r_movD R R R (r_add R R R R (r_asgD R R R (eN ?_)))))))))))))
    exact ⟨m2, ⟨[(0, .d (.v (.string s))), (2, .d (.v (.bool false))), (3, .d (.v (.int .i64 (W (i + 1)))))], []⟩, [], Nat.lt_succ_self _, (vwK R R .nil (.cons R R (.cons R R (.cons R R .nil)))), (W (i + 1)), h, R⟩
   intro c14
   replace h := ifN c14 h
   refine r_pickF R R R R (r_notF R R R (r_pickF R R R R (r_pickT R R R R (eN (sw_condT R (qG (r_asgD R R R (eN (sw_ret (block_ret (then_ret (then_ret (block_ret (then_ret ?_))))))))))))))
   obtain rfl := sI h
   exact fin_0 (t := .d (.v (.bool false))) R R R (.cons (.tmp 2) .nil)
  intro c12
  replace h := ifN (Int.not_le.2 c12) h
  refine r_movD R R R (r_skip R R R (r_skip R R R (r_pickF R R R R (r_movD R R R (r_movD R R R ?_)))))
  refine r_eql R R R R ?_ ?_
  ·intro c15
   replace h := ifP c15 h
   refine r_pickF R R R R (r_notT R R R (r_pickF R R R R (r_pickT R R R R (eN (sw_condF R (sw_skip (block_norm (then_norm (sw_rg (r_movD R R R (r_add R R R R (r_asgD R R R (eN ?_)))))))))))))
   exact ⟨m2, ⟨[(0, .d (.v (.string s))), (2, .d (.v (.bool false))), (3, .d (.v (.int .i64 (W (i + 1)))))], []⟩, [], Nat.lt_succ_self _, (vwK R R .nil (.cons R R (.cons R R (.cons R R .nil)))), (W (i + 1)), h, R⟩
  intro c15
  replace h := ifN c15 h
  refine r_pickF R R R R (r_notF R R R (r_pickF R R R R (r_pickT R R R R (eN (sw_condT R (qG (r_asgD R R R (eN (sw_ret (block_ret (then_ret (then_ret (block_ret (then_ret ?_))))))))))))))
  obtain rfl := sI h
  exact fin_0 (t := .d (.v (.bool false))) R R R (.cons (.tmp 2) .nil)
 intro c3
 replace h := ifN (Int.not_lt.2 c3) h
 refine eN (sw_condF R (sw_exit (then_exit (then_exit ?_))))
 subst hK2
 refine block_exit (then_norm (qG (r_asgD R R R (eN (sw_ret ?_)))))
 obtain rfl := sI h
 exact fin_0 (t := .d (.v (.bool true))) R R R (.cons (.tmp 2) .nil)
/-- hangfireref11.team -/
def r_team_L1 (F : Nat) (e : WiTeam) (K : Int → Option Int) : Nat → Int → Option Int
 | 0, _ => none
 | n + 1, x => if x < (e.away.length : Int) then (Option.bind (ixO e.away x) fun e3 => Option.bind (r_in F e3.lo 0 3650) fun rv9 => if rv9 = true then (Option.bind (r_in F e3.hi e3.lo 3650) fun rv10 => if rv10 = true then (if 0 < x then (Option.bind (ixO e.away (W (x - 1))) fun e4 => if e3.lo ≤ e4.hi then (some 2) else (r_team_L1 F e K n (W (x + 1)))) else (r_team_L1 F e K n (W (x + 1)))) else (some 2)) else (some 2)) else (K x)
def r_team_L2 (F : Nat) (t : WiPlan) (o : Int) (e : WiTeam) (K : Int → Option Int) : Nat → Int → Option Int
 | 0, _ => none
 | n + 1, y => if y < o then (Option.bind (ixO t.teams y) fun e2 => if e2.name.toList = e.name.toList then (some 5) else (r_team_L2 F t o e K n (W (y + 1)))) else (K y)
def r_team (F : Nat) (t : WiPlan) (o : Int) : Option Int := Option.bind (ixO t.teams o) fun e => Option.bind (r1_Name F e.name) fun rv => if rv = true then (r_team_L2 F t o e (fun (y : Int) => Option.bind (r_in F e.priority 1 9) fun rv2 => if rv2 = true then (Option.bind (r_in F e.need 0 100) fun rv3 => if rv3 = true then (Option.bind (r_in F e.credit 0 100000) fun rv4 => if rv4 = true then (Option.bind (r_in F e.wind 0 1000) fun rv5 => if rv5 = true then (Option.bind (r_in F e.rest 0 100) fun rv6 => if rv6 = true then (Option.bind (r_in F e.setup 1 1440) fun rv7 => if rv7 = true then (Option.bind (r_kinds F e.kinds) fun rv8 => if rv8 = true then (if 10 < (e.away.length : Int) then (some 3) else (r_team_L1 F e (fun (x : Int) => some 0) F 0)) else (some 2)) else (some 7)) else (some 7)) else (some 7)) else (some 7)) else (some 7)) else (some 7)) F 0) else (some 6)
theorem r_team_pc {F : Nat} {t : WiPlan} {o : Int} {r : Int} (h : r_team F t o = some r) : PC Try.prog 55 [WiPlan.d t, .v (.int .i64 o)] (.v (.int .i64 r)) := by
 rw [r_team] at h
 refine SC.of_sw Try.func55 R R R ?_
 simp only [List.map_cons, List.map_nil, argS, Nat.zero_add, Nat.reduceAdd]
 refine qG (r_box R R R R R R R (r_asgD R R R (eN (qG (r_fa tb R R R R R R R (r_ldD (y := .arr 9 ((t.teams).map WiTeam.d)) tb R R R R R R R R R (r_movD R R R ?_)))))))
 obtain ⟨e, ie, h⟩ := bnd h
 refine r_ixE tb R R R R R R (ix0 ie) (ix1m ie) R R (r_ldE (y := WiTeam.d e) tb R R (ix2 (g := WiTeam.d) ie) R R R R (r_alloc tb R R R R R (r_stE _ ([some ⟨4, [.d (WiPlan.d t)]⟩, some ⟨9, [.d (WiTeam.d e)]⟩]) tb R R R R R R R R R R R R (eN (sw_seq (qG (r_fa tb R R R R R R R (r_ldD (y := .v (.string e.name)) tb R R R R R R R R R ?_))))))))
 obtain ⟨rv, hrv, h⟩ := bnd h
 refine r_callB (r1_Name_pc hrv) (.of (by kernel_rfl)) R R R R ?_ ?_
 ·intro c
  replace h := ifP c h
  refine r_notT R R R (eN (sw_condF R (sw_skip (then_norm (sw_seq (qG (r_asgD R R R (eN (sw_block ?_)))))))))
  obtain ⟨K2, hK2, h⟩ : ∃ K, K = _ ∧ r_team_L2 F t o e K F 0 = some r := ⟨_, rfl, h⟩
  refine sw_loop (st0 := ⟨[(1, .d (.v (.int .i64 o))), (2, .ref 0 4 0 0), (4, .d (.v (.int .i64 0))), (5, .ref 1 9 0 0), (6, .d (.v (.int .i64 0)))], [some ⟨4, [.d (WiPlan.d t)]⟩, some ⟨9, [.d (WiTeam.d e)]⟩]⟩) (κ := [0, 1]) (fun m st => ∃ (y : Int), r_team_L2 F t o e K2 m y = some r ∧ st = ⟨[(1, .d (.v (.int .i64 o))), (2, .ref 0 4 0 0), (4, .d (.v (.int .i64 0))), (5, .ref 1 9 0 0), (6, .d (.v (.int .i64 y)))], [some ⟨4, [.d (WiPlan.d t)]⟩, some ⟨9, [.d (WiTeam.d e)]⟩]⟩) (vwK R R (.cons R R (.cons R R .nil)) (.cons R R (.cons R R (.cons R R (.cons R R (.cons R R .nil)))))) ⟨0, h, R⟩ ?_
  clear h
  rintro m2 st ⟨y, h, rfl⟩
  cases m2 with
  | zero => cases (show (none : Option Int) = some r from h)
  | succ m2 =>
  rw [r_team_L2] at h
  refine sw_seq (qG (r_movD R R R (r_movD R R R ?_)))
  refine r_lss R R R R ?_ ?_
  ·intro c2
   replace h := ifP c2 h
   refine eN (sw_condT R (sw_skip (then_norm (sw_seq (sw_block (sw_seq (sw_dr (by kernel_rfl) (r_fa tb R R R R R R R (r_ldD (y := .arr 9 ((t.teams).map WiTeam.d)) tb R R R R R R R R R (r_movD R R R ?_))))))))))
   obtain ⟨e2, ie2, h⟩ := bnd h
   refine r_ixE tb R R R R R R (ix0 ie2) (ix1m ie2) R R (r_faE tb R R R R R R R (r_ldE (y := .v (.string e2.name)) tb R R (ix2 (g := WiTeam.d) ie2) R R R R (r_fa tb R R R R R R R (r_ldD (y := .v (.string e.name)) tb R R R R R R R R R ?_))))
   refine r_streql R R R R ?_ ?_
   ·intro c3
    replace h := ifP c3 h
    refine ev_endD (by kernel_rfl) (then_norm (sw_condT R (qG (r_asgD R R R (eN (sw_ret (block_ret (then_ret (then_ret (block_ret (then_ret ?_)))))))))))
    obtain rfl := sI h
    exact fin_0 (t := .d (.v (.int .i64 5))) R R R (.cons (.tmp 4) .nil)
   intro c3
   replace h := ifN c3 h
   refine ev_endD (by kernel_rfl) (then_norm (sw_condF R (sw_skip (block_norm (then_norm (sw_rg (r_movD R R R (r_add R R R R (r_asgD R R R (eN ?_))))))))))
   exact ⟨m2, ⟨[(1, .d (.v (.int .i64 o))), (2, .ref 0 4 0 0), (4, .d (.v (.int .i64 0))), (5, .ref 1 9 0 0), (6, .d (.v (.int .i64 (W (y + 1)))))], [some ⟨4, [.d (WiPlan.d t)]⟩, some ⟨9, [.d (WiTeam.d e)]⟩]⟩, [0, 1], Nat.lt_succ_self _, (vwK R R (.cons R R (.cons R R .nil)) (.cons R R (.cons R R (.cons R R (.cons R R (.cons R R .nil)))))), (W (y + 1)), h, R⟩
  intro c2
  replace h := ifN (Int.not_lt.2 c2) h
  refine eN (sw_condF R (sw_exit (then_exit (then_exit ?_))))
  subst hK2
  refine block_exit (then_norm (sw_seq (qG (r_fa tb R R R R R R R (r_ldD (y := .v (.int .i64 e.priority)) tb R R R R R R R R R ?_)))))
  obtain ⟨rv2, hrv2, h⟩ := bnd h
  refine r_callB (r_in_pc hrv2) (.of (by kernel_rfl)) R R R R ?_ ?_
  ·intro c4
   replace h := ifP c4 h
   refine r_notT R R R (r_movD R R R (r_fa tb R R R R R R R (r_ldD (y := .v (.int .i64 e.need)) tb R R R R R R R R R ?_)))
   obtain ⟨rv3, hrv3, h⟩ := bnd h
   refine r_callB (r_in_pc hrv3) (.of (by kernel_rfl)) R R R R ?_ ?_
   ·intro c5
    replace h := ifP c5 h
    refine r_notT R R R (r_pickF R R R R (r_movD R R R (r_fa tb R R R R R R R (r_ldD (y := .v (.int .i64 e.credit)) tb R R R R R R R R R ?_))))
    obtain ⟨rv4, hrv4, h⟩ := bnd h
    refine r_callB (r_in_pc hrv4) (.of (by kernel_rfl)) R R R R ?_ ?_
    ·intro c6
     replace h := ifP c6 h
     refine r_notT R R R (r_pickF R R R R (r_movD R R R (r_fa tb R R R R R R R (r_ldD (y := .v (.int .i64 e.wind)) tb R R R R R R R R R ?_))))
     obtain ⟨rv5, hrv5, h⟩ := bnd h
     refine r_callB (r_in_pc hrv5) (.of (by kernel_rfl)) R R R R ?_ ?_
     ·intro c7
      replace h := ifP c7 h
      refine r_notT R R R (r_pickF R R R R (r_movD R R R (r_fa tb R R R R R R R (r_ldD (y := .v (.int .i64 e.rest)) tb R R R R R R R R R ?_))))
      obtain ⟨rv6, hrv6, h⟩ := bnd h
      refine r_callB (r_in_pc hrv6) (.of (by kernel_rfl)) R R R R ?_ ?_
      ·intro c8
       replace h := ifP c8 h
       refine r_notT R R R (r_pickF R R R R (r_movD R R R (r_fa tb R R R R R R R (r_ldD (y := .v (.int .i64 e.setup)) tb R R R R R R R R R ?_))))
       obtain ⟨rv7, hrv7, h⟩ := bnd h
       refine r_callB (r_in_pc hrv7) (.of (by kernel_rfl)) R R R R ?_ ?_
       ·intro c9
        replace h := ifP c9 h
        refine r_notT R R R (r_pickF R R R R (eN (sw_condF R (sw_skip (then_norm (sw_seq (qG (r_fa tb R R R R R R R (r_ldD (y := .arr 1 ((e.kinds).map vI)) tb R R R R R R R R R ?_)))))))))
        obtain ⟨rv8, hrv8, h⟩ := bnd h
        refine r_callB (r_kinds_pc hrv8) (.of (by kernel_rfl)) R R R R ?_ ?_
        ·intro c10
         replace h := ifP c10 h
         refine r_notT R R R (eN (sw_condF R (sw_skip (then_norm (sw_seq (qG (r_fa tb R R R R R R R (r_ldD (y := .arr 2 ((e.away).map Span.d)) tb R R R R R R R R R (r_lenM tb R R R R R ?_)))))))))
         refine r_gtr R R R R ?_ ?_
         ·intro c11
          replace h := ifP c11 h
          refine eN (sw_condT R (qG (r_asgD R R R (eN (sw_ret (then_ret ?_))))))
          obtain rfl := sI h
          exact fin_0 (t := .d (.v (.int .i64 3))) R R R (.cons (.tmp 4) .nil)
         intro c11
         replace h := ifN (Int.not_lt.2 c11) h
         refine eN (sw_condF R (sw_skip (then_norm (sw_seq (qG (r_asgD R R R (eN (sw_block ?_))))))))
         obtain ⟨K4, hK4, h⟩ : ∃ K, K = _ ∧ r_team_L1 F e K F 0 = some r := ⟨_, rfl, h⟩
         refine sw_loop (st0 := ⟨[(4, .d (.v (.int .i64 0))), (5, .ref 0 9 0 0), (7, .d (.v (.int .i64 0)))], [some ⟨9, [.d (WiTeam.d e)]⟩]⟩) (κ := [1]) (fun m st => ∃ (x : Int), r_team_L1 F e K4 m x = some r ∧ st = ⟨[(4, .d (.v (.int .i64 0))), (5, .ref 0 9 0 0), (7, .d (.v (.int .i64 x)))], [some ⟨9, [.d (WiTeam.d e)]⟩]⟩) (vwK R R (.cons R R .nil) (.cons R R (.cons R R (.cons R R .nil)))) ⟨0, h, R⟩ ?_
         clear h
         rintro m4 st ⟨x, h, rfl⟩
         cases m4 with
         | zero => cases (show (none : Option Int) = some r from h)
         | succ m4 =>
         rw [r_team_L1] at h
         refine sw_seq (qG (r_movD R R R (r_fa tb R R R R R R R (r_ldD (y := .arr 2 ((e.away).map Span.d)) tb R R R R R R R R R (r_lenM tb R R R R R ?_)))))
         refine r_lss R R R R ?_ ?_
         ·intro c12
          replace h := ifP c12 h
          refine eN (sw_condT R (sw_skip (then_norm (sw_seq (sw_block (qG (r_fa tb R R R R R R R (r_ldD (y := .arr 2 ((e.away).map Span.d)) tb R R R R R R R R R (r_movD R R R ?_)))))))))
          obtain ⟨e3, ie3, h⟩ := bnd h
          refine r_ixE tb R R R R R R (ix0 ie3) (ix1m ie3) R R (r_ldE (y := Span.d e3) tb R R (ix2 (g := Span.d) ie3) R R R R (r_alloc tb R R R R R (r_stE _ ([some ⟨9, [.d (WiTeam.d e)]⟩, some ⟨2, [.d (Span.d e3)]⟩]) tb R R R R R R R R R R R R (eN (sw_seq (sw_dr (by kernel_rfl) (r_fa tb R R R R R R R (r_ldD (y := .v (.int .i64 e3.lo)) tb R R R R R R R R R ?_))))))))
          obtain ⟨rv9, hrv9, h⟩ := bnd h
          refine r_callB (r_in_pc hrv9) (.of (by kernel_rfl)) R R R R ?_ ?_
          ·intro c13
           replace h := ifP c13 h
           refine r_notT R R R (r_movD R R R (r_fa tb R R R R R R R (r_ldD (y := .v (.int .i64 e3.hi)) tb R R R R R R R R R (r_fa tb R R R R R R R (r_ldD (y := .v (.int .i64 e3.lo)) tb R R R R R R R R R ?_)))))
           obtain ⟨rv10, hrv10, h⟩ := bnd h
           refine r_callB (r_in_pc hrv10) (.of (by kernel_rfl)) R R R R ?_ ?_
           ·intro c14
            replace h := ifP c14 h
            refine r_notT R R R (r_pickF R R R R (r_movD R R R (r_movD R R R ?_)))
            refine r_gtr R R R R ?_ ?_
            ·intro c15
             replace h := ifP c15 h
             refine r_movD R R R (r_fa tb R R R R R R R (r_ldD (y := .v (.int .i64 e3.lo)) tb R R R R R R R R R (r_fa tb R R R R R R R (r_ldD (y := .arr 2 ((e.away).map Span.d)) tb R R R R R R R R R (r_movD R R R (r_sub R R R R ?_))))))
             obtain ⟨e4, ie4, h⟩ := bnd h
             refine r_ixE tb R R R R R R (ix0 ie4) (ix1m ie4) R R (r_faE tb R R R R R R R (r_ldE (y := .v (.int .i64 e4.hi)) tb R R (ix2 (g := Span.d) ie4) R R R R ?_))
             refine r_leq R R R R ?_ ?_
             ·intro c16
              replace h := ifP c16 h
              refine r_pickT R R R R (r_pickF R R R R (ev_endD (by kernel_rfl) (then_norm (sw_condT R (qG (r_asgD R R R (eN (sw_ret (block_ret (then_ret (then_ret (block_ret (then_ret ?_)))))))))))))
              obtain rfl := sI h
              exact fin_0 (t := .d (.v (.int .i64 2))) R R R (.cons (.tmp 4) .nil)
             intro c16
             replace h := ifN (Int.not_le.2 c16) h
             refine r_pickT R R R R (r_pickF R R R R (ev_endD (by kernel_rfl) (then_norm (sw_condF R (sw_skip (block_norm (then_norm (sw_rg (r_movD R R R (r_add R R R R (r_asgD R R R (eN ?_))))))))))))
             exact ⟨m4, ⟨[(4, .d (.v (.int .i64 0))), (5, .ref 0 9 0 0), (7, .d (.v (.int .i64 (W (x + 1)))))], [some ⟨9, [.d (WiTeam.d e)]⟩]⟩, [0], Nat.lt_succ_self _, (vwK R R (.cons R R .nil) (.cons R R (.cons R R (.cons R R .nil)))), (W (x + 1)), h, R⟩
            intro c15
            replace h := ifN (Int.not_lt.2 c15) h
            refine r_movD R R R (r_skip R R R (r_skip R R R (r_skip R R R (r_skip R R R (r_skip R R R (r_skip R R R (r_skip R R R (r_skip R R R (r_skip R R R (r_skip R R R (r_pickF R R R R (r_pickF R R R R (ev_endD (by kernel_rfl) (then_norm (sw_condF R (sw_skip (block_norm (then_norm (sw_rg (r_movD R R R (r_add R R R R (r_asgD R R R (eN ?_)))))))))))))))))))))))
            exact ⟨m4, ⟨[(4, .d (.v (.int .i64 0))), (5, .ref 0 9 0 0), (7, .d (.v (.int .i64 (W (x + 1)))))], [some ⟨9, [.d (WiTeam.d e)]⟩]⟩, [0], Nat.lt_succ_self _, (vwK R R (.cons R R .nil) (.cons R R (.cons R R (.cons R R .nil)))), (W (x + 1)), h, R⟩
           intro c14
           replace h := ifF c14 h
           refine r_notF R R R (r_pickF R R R R (r_movD R R R (r_skip R R R (r_skip R R R (r_skip R R R (r_skip R R R (r_skip R R R (r_skip R R R (r_skip R R R (r_skip R R R (r_skip R R R (r_skip R R R (r_skip R R R (r_skip R R R (r_skip R R R (r_skip R R R (r_pickT R R R R (ev_endD (by kernel_rfl) (then_norm (sw_condT R (qG (r_asgD R R R (eN (sw_ret (block_ret (then_ret (then_ret (block_ret (then_ret ?_)))))))))))))))))))))))))))))
           obtain rfl := sI h
           exact fin_0 (t := .d (.v (.int .i64 2))) R R R (.cons (.tmp 4) .nil)
          intro c13
          replace h := ifF c13 h
          refine r_notF R R R (r_movD R R R (r_skip R R R (r_skip R R R (r_skip R R R (r_skip R R R (r_skip R R R (r_skip R R R (r_pickT R R R R (r_movD R R R (r_skip R R R (r_skip R R R (r_skip R R R (r_skip R R R (r_skip R R R (r_skip R R R (r_skip R R R (r_skip R R R (r_skip R R R (r_skip R R R (r_skip R R R (r_skip R R R (r_skip R R R (r_skip R R R (r_pickT R R R R (ev_endD (by kernel_rfl) (then_norm ?_))))))))))))))))))))))))))
          refine sw_condT R (qG (r_asgD R R R (eN (sw_ret (block_ret (then_ret (then_ret (block_ret (then_ret ?_)))))))))
          obtain rfl := sI h
          exact fin_0 (t := .d (.v (.int .i64 2))) R R R (.cons (.tmp 4) .nil)
         intro c12
         replace h := ifN (Int.not_lt.2 c12) h
         refine eN (sw_condF R (sw_exit (then_exit (then_exit ?_))))
         subst hK4
         refine block_exit (then_norm (qG (r_asgD R R R (eN (sw_ret ?_)))))
         obtain rfl := sI h
         exact fin_0 (t := .d (.v (.int .i64 0))) R R R (.cons (.tmp 4) .nil)
        intro c10
        replace h := ifF c10 h
        refine r_notF R R R (eN (sw_condT R (qG (r_asgD R R R (eN (sw_ret (then_ret ?_)))))))
        obtain rfl := sI h
        exact fin_0 (t := .d (.v (.int .i64 2))) R R R (.cons (.tmp 4) .nil)
       intro c9
       replace h := ifF c9 h
       refine r_notF R R R (r_pickF R R R R (eN (sw_condT R (qG (r_asgD R R R (eN (sw_ret (then_ret ?_))))))))
       obtain rfl := sI h
       exact fin_0 (t := .d (.v (.int .i64 7))) R R R (.cons (.tmp 4) .nil)
      intro c8
      replace h := ifF c8 h
      refine r_notF R R R (r_pickF R R R R (r_movD R R R (r_skip R R R (r_skip R R R (r_skip R R R (r_skip R R R (r_pickT R R R R (eN (sw_condT R (qG (r_asgD R R R (eN (sw_ret (then_ret ?_))))))))))))))
      obtain rfl := sI h
      exact fin_0 (t := .d (.v (.int .i64 7))) R R R (.cons (.tmp 4) .nil)
     intro c7
     replace h := ifF c7 h
     refine r_notF R R R (r_pickF R R R R (r_movD R R R (r_skip R R R (r_skip R R R (r_skip R R R (r_skip R R R (r_pickT R R R R (r_movD R R R (r_skip R R R (r_skip R R R (r_skip R R R (r_skip R R R (r_pickT R R R R (eN (sw_condT R (qG (r_asgD R R R (eN (sw_ret (then_ret ?_))))))))))))))))))))
     obtain rfl := sI h
     exact fin_0 (t := .d (.v (.int .i64 7))) R R R (.cons (.tmp 4) .nil)
    intro c6
    replace h := ifF c6 h
    refine r_notF R R R (r_pickF R R R R (r_movD R R R (r_skip R R R (r_skip R R R (r_skip R R R (r_skip R R R (r_pickT R R R R (r_movD R R R (r_skip R R R (r_skip R R R (r_skip R R R (r_skip R R R (r_pickT R R R R (r_movD R R R (r_skip R R R (r_skip R R R (r_skip R R R (r_skip R R R (r_pickT R R R R (eN (sw_condT R (qG (r_asgD R R R (eN (sw_ret (then_ret ?_))))))))))))))))))))))))))
    obtain rfl := sI h
    exact fin_0 (t := .d (.v (.int .i64 7))) R R R (.cons (.tmp 4) .nil)
   intro c5
   replace h := ifF c5 h
   refine r_notF R R R (r_pickF R R R R (r_movD R R R (r_skip R R R (r_skip R R R (r_skip R R R (r_skip R R R (r_pickT R R R R (r_movD R R R (r_skip R R R (r_skip R R R (r_skip R R R (r_skip R R R (r_pickT R R R R (r_movD R R R (r_skip R R R (r_skip R R R (r_skip R R R (r_skip R R R (r_pickT R R R R (r_movD R R R (r_skip R R R (r_skip R R R (r_skip R R R (r_skip R R R (r_pickT R R R R (eN ?_))))))))))))))))))))))))))
   refine sw_condT R (qG (r_asgD R R R (eN (sw_ret (then_ret ?_)))))
   obtain rfl := sI h
   exact fin_0 (t := .d (.v (.int .i64 7))) R R R (.cons (.tmp 4) .nil)
  intro c4
  replace h := ifF c4 h
  refine r_notF R R R (r_movD R R R (r_skip R R R (r_skip R R R (r_skip R R R (r_skip R R R (r_pickT R R R R (r_movD R R R (r_skip R R R (r_skip R R R (r_skip R R R (r_skip R R R (r_pickT R R R R (r_movD R R R (r_skip R R R (r_skip R R R (r_skip R R R (r_skip R R R (r_pickT R R R R (r_movD R R R (r_skip R R R (r_skip R R R (r_skip R R R (r_skip R R R (r_pickT R R R R (r_movD R R R ?_)))))))))))))))))))))))))
  refine r_skip R R R (r_skip R R R (r_skip R R R (r_skip R R R (r_pickT R R R R (eN (sw_condT R (qG (r_asgD R R R (eN (sw_ret (then_ret ?_)))))))))))
  obtain rfl := sI h
  exact fin_0 (t := .d (.v (.int .i64 7))) R R R (.cons (.tmp 4) .nil)
 intro c
 replace h := ifF c h
 refine r_notF R R R (eN (sw_condT R (qG (r_asgD R R R (eN (sw_ret (then_ret ?_)))))))
 obtain rfl := sI h
 exact fin_0 (t := .d (.v (.int .i64 6))) R R R (.cons (.tmp 4) .nil)
/-- hangfireref11.window -/
def r_window (F : Nat) (p : WiPlan) (i : Int) : Option Int := Option.bind (ixO p.windows i) fun e => Option.bind (r_in F e.day 0 3650) fun rv => if rv = true then (Option.bind (r_in F e.from_ 0 1440) fun rv2 => if rv2 = true then (Option.bind (r_in F e.until_ (W (e.from_ + 1)) 1440) fun rv3 => if rv3 = true then (if 0 < i then (Option.bind (ixO p.windows (W (i - 1))) fun e2 => if e.day < e2.day then (some 2) else (if e.day = e2.day then (if e.from_ < e2.until_ then (some 2) else (some 0)) else (some 0))) else (some 0)) else (some 7)) else (some 7)) else (some 7)
theorem r_window_pc {F : Nat} {p : WiPlan} {i : Int} {r : Int} (h : r_window F p i = some r) : PC Try.prog 56 [WiPlan.d p, .v (.int .i64 i)] (.v (.int .i64 r)) := by
 rw [r_window] at h
 refine SC.of_sw Try.func56 R R R ?_
 simp only [List.map_cons, List.map_nil, argS, Nat.zero_add, Nat.reduceAdd]
 refine qG (r_box R R R R R R R (r_asgD R R R (eN (qG (r_fa tb R R R R R R R (r_ldD (y := .arr 3 ((p.windows).map WiWindow.d)) tb R R R R R R R R R (r_movD R R R ?_)))))))
 obtain ⟨e, ie, h⟩ := bnd h
 refine r_ixE tb R R R R R R (ix0 ie) (ix1m ie) R R (r_ldE (y := WiWindow.d e) tb R R (ix2 (g := WiWindow.d) ie) R R R R (r_alloc tb R R R R R (r_stE _ ([some ⟨4, [.d (WiPlan.d p)]⟩, some ⟨3, [.d (WiWindow.d e)]⟩]) tb R R R R R R R R R R R R (eN (sw_seq (qG (r_fa tb R R R R R R R (r_ldD (y := .v (.int .i64 e.day)) tb R R R R R R R R R ?_))))))))
 obtain ⟨rv, hrv, h⟩ := bnd h
 refine r_callB (r_in_pc hrv) (.of (by kernel_rfl)) R R R R ?_ ?_
 ·intro c
  replace h := ifP c h
  refine r_notT R R R (r_movD R R R (r_fa tb R R R R R R R (r_ldD (y := .v (.int .i64 e.from_)) tb R R R R R R R R R ?_)))
  obtain ⟨rv2, hrv2, h⟩ := bnd h
  refine r_callB (r_in_pc hrv2) (.of (by kernel_rfl)) R R R R ?_ ?_
  ·intro c2
   replace h := ifP c2 h
   refine r_notT R R R (r_pickF R R R R (r_movD R R R (r_fa tb R R R R R R R (r_ldD (y := .v (.int .i64 e.until_)) tb R R R R R R R R R (r_fa tb R R R R R R R (r_ldD (y := .v (.int .i64 e.from_)) tb R R R R R R R R R (r_add R R R R ?_)))))))
   obtain ⟨rv3, hrv3, h⟩ := bnd h
   refine r_callB (r_in_pc hrv3) (.of (by kernel_rfl)) R R R R ?_ ?_
   ·intro c3
    replace h := ifP c3 h
    refine r_notT R R R (r_pickF R R R R (eN (sw_condF R (sw_skip (then_norm (sw_seq (qG (r_movD R R R ?_))))))))
    refine r_gtr R R R R ?_ ?_
    ·intro c4
     replace h := ifP c4 h
     refine eN (sw_condT R (qG (r_fa tb R R R R R R R (r_ldD (y := .arr 3 ((p.windows).map WiWindow.d)) tb R R R R R R R R R (r_movD R R R (r_sub R R R R ?_))))))
     obtain ⟨e2, ie2, h⟩ := bnd h
     refine r_ixE tb R R R R R R (ix0 ie2) (ix1m ie2) R R (r_ldE (y := WiWindow.d e2) tb R R (ix2 (g := WiWindow.d) ie2) R R R R (r_alloc tb R R R R R (r_stE _ ([some ⟨4, [.d (WiPlan.d p)]⟩, some ⟨3, [.d (WiWindow.d e)]⟩, some ⟨3, [.d (WiWindow.d e2)]⟩]) tb R R R R R R R R R R R R (eN (qG (r_fa tb R R R R R R R (r_ldD (y := .v (.int .i64 e.day)) tb R R R R R R R R R (r_fa tb R R R R R R R (r_ldD (y := .v (.int .i64 e2.day)) tb R R R R R R R R R ?_)))))))))
     refine r_lss R R R R ?_ ?_
     ·intro c5
      replace h := ifP c5 h
      refine r_movD R R R (r_skip R R R (r_skip R R R (r_skip R R R (r_skip R R R (r_skip R R R (r_skip R R R (r_skip R R R (r_skip R R R (r_skip R R R (r_skip R R R (r_skip R R R (r_skip R R R (r_pickT R R R R (eN (sw_condT R (qG (r_asgD R R R (eN (sw_ret (then_ret ?_))))))))))))))))))))
      obtain rfl := sI h
      exact fin_0 (t := .d (.v (.int .i64 2))) R R R (.cons (.tmp 4) .nil)
     intro c5
     replace h := ifN (Int.not_lt.2 c5) h
     refine r_movD R R R (r_fa tb R R R R R R R (r_ldD (y := .v (.int .i64 e.day)) tb R R R R R R R R R (r_fa tb R R R R R R R (r_ldD (y := .v (.int .i64 e2.day)) tb R R R R R R R R R ?_))))
     refine r_eql R R R R ?_ ?_
     ·intro c6
      replace h := ifP c6 h
      refine r_movD R R R (r_fa tb R R R R R R R (r_ldD (y := .v (.int .i64 e.from_)) tb R R R R R R R R R (r_fa tb R R R R R R R (r_ldD (y := .v (.int .i64 e2.until_)) tb R R R R R R R R R ?_))))
      refine r_lss R R R R ?_ ?_
      ·intro c7
       replace h := ifP c7 h
       refine r_pickT R R R R (r_pickF R R R R (eN (sw_condT R (qG (r_asgD R R R (eN (sw_ret (then_ret ?_))))))))
       obtain rfl := sI h
       exact fin_0 (t := .d (.v (.int .i64 2))) R R R (.cons (.tmp 4) .nil)
      intro c7
      replace h := ifN (Int.not_lt.2 c7) h
      refine r_pickT R R R R (r_pickF R R R R (eN (sw_condF R (sw_skip (then_norm (qG (r_asgD R R R (eN (sw_ret ?_)))))))))
      obtain rfl := sI h
      exact fin_0 (t := .d (.v (.int .i64 0))) R R R (.cons (.tmp 4) .nil)
     intro c6
     replace h := ifN c6 h
     refine r_movD R R R (r_skip R R R (r_skip R R R (r_skip R R R (r_skip R R R (r_skip R R R (r_pickF R R R R (r_pickF R R R R (eN (sw_condF R (sw_skip (then_norm (qG (r_asgD R R R (eN (sw_ret ?_)))))))))))))))
     obtain rfl := sI h
     exact fin_0 (t := .d (.v (.int .i64 0))) R R R (.cons (.tmp 4) .nil)
    intro c4
    replace h := ifN (Int.not_lt.2 c4) h
    refine eN (sw_condF R (sw_skip (then_norm (qG (r_asgD R R R (eN (sw_ret ?_)))))))
    obtain rfl := sI h
    exact fin_0 (t := .d (.v (.int .i64 0))) R R R (.cons (.tmp 4) .nil)
   intro c3
   replace h := ifF c3 h
   refine r_notF R R R (r_pickF R R R R (eN (sw_condT R (qG (r_asgD R R R (eN (sw_ret (then_ret ?_))))))))
   obtain rfl := sI h
   exact fin_0 (t := .d (.v (.int .i64 7))) R R R (.cons (.tmp 4) .nil)
  intro c2
  replace h := ifF c2 h
  refine r_notF R R R (r_pickF R R R R (r_movD R R R (r_skip R R R (r_skip R R R (r_skip R R R (r_skip R R R (r_skip R R R (r_skip R R R (r_skip R R R (r_pickT R R R R (eN (sw_condT R (qG (r_asgD R R R (eN (sw_ret (then_ret ?_)))))))))))))))))
  obtain rfl := sI h
  exact fin_0 (t := .d (.v (.int .i64 7))) R R R (.cons (.tmp 4) .nil)
 intro c
 replace h := ifF c h
 refine r_notF R R R (r_movD R R R (r_skip R R R (r_skip R R R (r_skip R R R (r_skip R R R (r_pickT R R R R (r_movD R R R (r_skip R R R (r_skip R R R (r_skip R R R (r_skip R R R (r_skip R R R (r_skip R R R (r_skip R R R (r_pickT R R R R (eN (sw_condT R (qG (r_asgD R R R (eN (sw_ret (then_ret ?_))))))))))))))))))))))
 obtain rfl := sI h
 exact fin_0 (t := .d (.v (.int .i64 7))) R R R (.cons (.tmp 4) .nil)
/-- hangfireref11.Check -/
def r_Check_L1 (F : Nat) (p : WiPlan) (K : Int → Option (Int × Int × Int)) : Nat → Int → Option (Int × Int × Int)
 | 0, _ => none
 | n + 1, i2 => if i2 < (p.windows.length : Int) then (Option.bind (r_window F p i2) fun rv5 => if rv5 = 0 then (r_Check_L1 F p K n (W (i2 + 1))) else (some (3, i2, rv5))) else (K i2)
def r_Check_L2 (F : Nat) (p : WiPlan) (K : Int → Option (Int × Int × Int)) : Nat → Int → Option (Int × Int × Int)
 | 0, _ => none
 | n + 1, i => if i < (p.teams.length : Int) then (Option.bind (r_team F p i) fun rv4 => if rv4 = 0 then (r_Check_L2 F p K n (W (i + 1))) else (some (2, i, rv4))) else (K i)
def r_Check (F : Nat) (p : WiPlan) : Option (Int × Int × Int) := Option.bind (r_in F (p.teams.length : Int) 1 8) fun rv => if rv = true then (Option.bind (r_in F p.cost 0 100) fun rv2 => if rv2 = true then (Option.bind (r_in F p.gift 0 100) fun rv3 => if rv3 = true then (r_Check_L2 F p (fun (i : Int) => if 60 < (p.windows.length : Int) then (some (3, 0, 3)) else (r_Check_L1 F p (fun (i2 : Int) => some (0, 0, 0)) F 0)) F 0) else (some (1, 0, 7))) else (some (1, 0, 7))) else (some (1, 0, 3))
theorem r_Check_pc {F : Nat} {p : WiPlan} {r : (Int × Int × Int)} (h : r_Check F p = some r) : PC Try.prog 17 [WiPlan.d p] (.tup [.v (.int .i64 r.1), .v (.int .i64 r.2.1), .v (.int .i64 r.2.2)]) := by
 rw [r_Check] at h
 refine SC.of_sw Try.func17 R R R ?_
 simp only [List.map_cons, List.map_nil, argS, Nat.zero_add, Nat.reduceAdd]
 refine qG (r_box R R R R R R R (r_asgD R R R (r_asgD R R R (r_asgD R R R (eN (sw_seq (qG (r_fa tb R R R R R R R (r_ldD (y := .arr 9 ((p.teams).map WiTeam.d)) tb R R R R R R R R R (r_lenM tb R R R R R ?_))))))))))
 obtain ⟨rv, hrv, h⟩ := bnd h
 refine r_callB (r_in_pc hrv) (.of (by kernel_rfl)) R R R R ?_ ?_
 ·intro c
  replace h := ifP c h
  refine r_notT R R R (eN (sw_condF R (sw_skip (then_norm (sw_seq (qG (r_fa tb R R R R R R R (r_ldD (y := .v (.int .i64 p.cost)) tb R R R R R R R R R ?_))))))))
  obtain ⟨rv2, hrv2, h⟩ := bnd h
  refine r_callB (r_in_pc hrv2) (.of (by kernel_rfl)) R R R R ?_ ?_
  ·intro c2
   replace h := ifP c2 h
   refine r_notT R R R (r_movD R R R (r_fa tb R R R R R R R (r_ldD (y := .v (.int .i64 p.gift)) tb R R R R R R R R R ?_)))
   obtain ⟨rv3, hrv3, h⟩ := bnd h
   refine r_callB (r_in_pc hrv3) (.of (by kernel_rfl)) R R R R ?_ ?_
   ·intro c3
    replace h := ifP c3 h
    refine r_notT R R R (r_pickF R R R R (eN (sw_condF R (sw_skip (then_norm (sw_seq (qG (r_asgD R R R (eN (sw_block ?_))))))))))
    obtain ⟨K2, hK2, h⟩ : ∃ K, K = _ ∧ r_Check_L2 F p K F 0 = some r := ⟨_, rfl, h⟩
    refine sw_loop (st0 := ⟨[(1, .ref 0 4 0 0), (2, .d (.v (.int .i64 0))), (3, .d (.v (.int .i64 0))), (4, .d (.v (.int .i64 0))), (5, .d (.v (.int .i64 0)))], [some ⟨4, [.d (WiPlan.d p)]⟩]⟩) (κ := [0]) (fun m st => ∃ (i : Int), r_Check_L2 F p K2 m i = some r ∧ st = ⟨[(1, .ref 0 4 0 0), (2, .d (.v (.int .i64 0))), (3, .d (.v (.int .i64 0))), (4, .d (.v (.int .i64 0))), (5, .d (.v (.int .i64 i)))], [some ⟨4, [.d (WiPlan.d p)]⟩]⟩) (vwK R R (.cons R R .nil) (.cons R R (.cons R R (.cons R R (.cons R R (.cons R R .nil)))))) ⟨0, h, R⟩ ?_
    clear h
    rintro m2 st ⟨i, h, rfl⟩
    cases m2 with
    | zero => cases (show (none : Option (Int × Int × Int)) = some r from h)
    | succ m2 =>
    rw [r_Check_L2] at h
    refine sw_seq (qG (r_movD R R R (r_fa tb R R R R R R R (r_ldD (y := .arr 9 ((p.teams).map WiTeam.d)) tb R R R R R R R R R (r_lenM tb R R R R R ?_)))))
    refine r_lss R R R R ?_ ?_
    ·intro c4
     replace h := ifP c4 h
     refine eN (sw_condT R (sw_skip (then_norm (sw_seq (sw_block (qG (r_ldD (y := WiPlan.d p) tb R R R R R R R R R (r_movD R R R ?_))))))))
     obtain ⟨rv4, hrv4, h⟩ := bnd h
     refine r_call (r_team_pc hrv4) (.of (by kernel_rfl)) R R R R (r_asgD R R R (eN (qG (r_movD R R R ?_))))
     refine r_neq R R R R ?_ ?_
     ·intro c5
      replace h := ifN c5 h
      refine eN (sw_condT R (qG (r_movD R R R (r_movD R R R (r_asgD R R R (r_asgD R R R (r_asgD R R R (eN (sw_ret (block_ret (then_ret (then_ret (block_ret (then_ret ?_))))))))))))))
      obtain rfl := sI h
      exact fin_0 (t := .d (.tup [.v (.int .i64 2), .v (.int .i64 i), .v (.int .i64 rv4)])) R R R (.cons (.tmp 2) (.cons (.tmp 3) (.cons (.tmp 4) .nil)))
     intro c5
     replace h := ifP c5 h
     refine eN (sw_condF R (sw_skip (block_norm (then_norm (sw_rg (r_movD R R R (r_add R R R R (r_asgD R R R (eN ?_)))))))))
     exact ⟨m2, ⟨[(1, .ref 0 4 0 0), (2, .d (.v (.int .i64 0))), (3, .d (.v (.int .i64 0))), (4, .d (.v (.int .i64 0))), (5, .d (.v (.int .i64 (W (i + 1)))))], [some ⟨4, [.d (WiPlan.d p)]⟩]⟩, [0], Nat.lt_succ_self _, (vwK R R (.cons R R .nil) (.cons R R (.cons R R (.cons R R (.cons R R (.cons R R .nil)))))), (W (i + 1)), h, R⟩
    intro c4
    replace h := ifN (Int.not_lt.2 c4) h
    refine eN (sw_condF R (sw_exit (then_exit (then_exit ?_))))
    subst hK2
    refine block_exit (then_norm (sw_seq (qG (r_fa tb R R R R R R R (r_ldD (y := .arr 3 ((p.windows).map WiWindow.d)) tb R R R R R R R R R (r_lenM tb R R R R R ?_))))))
    refine r_gtr R R R R ?_ ?_
    ·intro c6
     replace h := ifP c6 h
     refine eN (sw_condT R (qG (r_asgD R R R (r_asgD R R R (r_asgD R R R (eN (sw_ret (then_ret ?_))))))))
     obtain rfl := sI h
     exact fin_0 (t := .d (.tup [.v (.int .i64 3), .v (.int .i64 0), .v (.int .i64 3)])) R R R (.cons (.tmp 2) (.cons (.tmp 3) (.cons (.tmp 4) .nil)))
    intro c6
    replace h := ifN (Int.not_lt.2 c6) h
    refine eN (sw_condF R (sw_skip (then_norm (sw_seq (qG (r_asgD R R R (eN (sw_block ?_))))))))
    obtain ⟨K4, hK4, h⟩ : ∃ K, K = _ ∧ r_Check_L1 F p K F 0 = some r := ⟨_, rfl, h⟩
    refine sw_loop (st0 := ⟨[(1, .ref 0 4 0 0), (2, .d (.v (.int .i64 0))), (3, .d (.v (.int .i64 0))), (4, .d (.v (.int .i64 0))), (7, .d (.v (.int .i64 0)))], [some ⟨4, [.d (WiPlan.d p)]⟩]⟩) (κ := [0]) (fun m st => ∃ (i2 : Int), r_Check_L1 F p K4 m i2 = some r ∧ st = ⟨[(1, .ref 0 4 0 0), (2, .d (.v (.int .i64 0))), (3, .d (.v (.int .i64 0))), (4, .d (.v (.int .i64 0))), (7, .d (.v (.int .i64 i2)))], [some ⟨4, [.d (WiPlan.d p)]⟩]⟩) (vwK R R (.cons R R .nil) (.cons R R (.cons R R (.cons R R (.cons R R (.cons R R .nil)))))) ⟨0, h, R⟩ ?_
    clear h
    rintro m4 st ⟨i2, h, rfl⟩
    cases m4 with
    | zero => cases (show (none : Option (Int × Int × Int)) = some r from h)
    | succ m4 =>
    rw [r_Check_L1] at h
    refine sw_seq (qG (r_movD R R R (r_fa tb R R R R R R R (r_ldD (y := .arr 3 ((p.windows).map WiWindow.d)) tb R R R R R R R R R (r_lenM tb R R R R R ?_)))))
    refine r_lss R R R R ?_ ?_
    ·intro c7
     replace h := ifP c7 h
     refine eN (sw_condT R (sw_skip (then_norm (sw_seq (sw_block (qG (r_ldD (y := WiPlan.d p) tb R R R R R R R R R (r_movD R R R ?_))))))))
     obtain ⟨rv5, hrv5, h⟩ := bnd h
     refine r_call (r_window_pc hrv5) (.of (by kernel_rfl)) R R R R (r_asgD R R R (eN (qG (r_movD R R R ?_))))
     refine r_neq R R R R ?_ ?_
     ·intro c8
      replace h := ifN c8 h
      refine eN (sw_condT R (qG (r_movD R R R (r_movD R R R (r_asgD R R R (r_asgD R R R (r_asgD R R R (eN (sw_ret (block_ret (then_ret (then_ret (block_ret (then_ret ?_))))))))))))))
      obtain rfl := sI h
      exact fin_0 (t := .d (.tup [.v (.int .i64 3), .v (.int .i64 i2), .v (.int .i64 rv5)])) R R R (.cons (.tmp 2) (.cons (.tmp 3) (.cons (.tmp 4) .nil)))
     intro c8
     replace h := ifP c8 h
     refine eN (sw_condF R (sw_skip (block_norm (then_norm (sw_rg (r_movD R R R (r_add R R R R (r_asgD R R R (eN ?_)))))))))
     exact ⟨m4, ⟨[(1, .ref 0 4 0 0), (2, .d (.v (.int .i64 0))), (3, .d (.v (.int .i64 0))), (4, .d (.v (.int .i64 0))), (7, .d (.v (.int .i64 (W (i2 + 1)))))], [some ⟨4, [.d (WiPlan.d p)]⟩]⟩, [0], Nat.lt_succ_self _, (vwK R R (.cons R R .nil) (.cons R R (.cons R R (.cons R R (.cons R R (.cons R R .nil)))))), (W (i2 + 1)), h, R⟩
    intro c7
    replace h := ifN (Int.not_lt.2 c7) h
    refine eN (sw_condF R (sw_exit (then_exit (then_exit ?_))))
    subst hK4
    refine block_exit (then_norm (qG (r_asgD R R R (r_asgD R R R (r_asgD R R R (eN (sw_ret ?_)))))))
    obtain rfl := sI h
    exact fin_0 (t := .d (.tup [.v (.int .i64 0), .v (.int .i64 0), .v (.int .i64 0)])) R R R (.cons (.tmp 2) (.cons (.tmp 3) (.cons (.tmp 4) .nil)))
   intro c3
   replace h := ifF c3 h
   refine r_notF R R R (r_pickF R R R R (eN (sw_condT R (qG (r_asgD R R R (r_asgD R R R (r_asgD R R R (eN (sw_ret (then_ret ?_))))))))))
   obtain rfl := sI h
   exact fin_0 (t := .d (.tup [.v (.int .i64 1), .v (.int .i64 0), .v (.int .i64 7)])) R R R (.cons (.tmp 2) (.cons (.tmp 3) (.cons (.tmp 4) .nil)))
  intro c2
  replace h := ifF c2 h
  refine r_notF R R R (r_movD R R R (r_skip R R R (r_skip R R R (r_skip R R R (r_skip R R R (r_pickT R R R R (eN (sw_condT R (qG (r_asgD R R R (r_asgD R R R (r_asgD R R R (eN (sw_ret (then_ret ?_)))))))))))))))
  obtain rfl := sI h
  exact fin_0 (t := .d (.tup [.v (.int .i64 1), .v (.int .i64 0), .v (.int .i64 7)])) R R R (.cons (.tmp 2) (.cons (.tmp 3) (.cons (.tmp 4) .nil)))
 intro c
 replace h := ifF c h
 refine r_notF R R R (eN (sw_condT R (qG (r_asgD R R R (r_asgD R R R (r_asgD R R R (eN (sw_ret (then_ret ?_)))))))))
 obtain rfl := sI h
 exact fin_0 (t := .d (.tup [.v (.int .i64 1), .v (.int .i64 0), .v (.int .i64 3)])) R R R (.cons (.tmp 2) (.cons (.tmp 3) (.cons (.tmp 4) .nil)))
/-- hangfireref11.first -/
def r_first (F : Nat) (t : WiPlan) (o : WiState) (a : Int) (rv : Int) : Option Bool := Option.bind (ixO t.teams a) fun e => Option.bind (ixO t.teams rv) fun e2 => if e.priority = e2.priority then (Option.bind (ixO o.credit a) fun e3 => Option.bind (ixO o.credit rv) fun e4 => if e3 = e4 then (Option.bind (ixO o.used a) fun e5 => Option.bind (ixO o.used rv) fun e6 => if e5 = e6 then (Option.bind (ixO o.last a) fun e7 => Option.bind (ixO o.last rv) fun e8 => if e7 = e8 then (some (decide (a < rv))) else (some (decide (e7 < e8)))) else (some (decide (e5 < e6)))) else (some (decide (e4 < e3)))) else (some (decide (e2.priority < e.priority)))
theorem r_first_pc {F : Nat} {t : WiPlan} {o : WiState} {a : Int} {rv : Int} {r : Bool} (h : r_first F t o a rv = some r) : PC Try.prog 96 [WiPlan.d t, WiState.d o, .v (.int .i64 a), .v (.int .i64 rv)] (.v (.bool r)) := by
 rw [r_first] at h
 refine SC.of_sw Try.func96 R R R ?_
 simp only [List.map_cons, List.map_nil, argS, Nat.zero_add, Nat.reduceAdd]
 refine qG (r_box R R R R R R R (r_box R R R R R R R (r_asgD R R R (eN (sw_seq (sw_seq (sw_dr (by kernel_rfl) (r_fa tb R R R R R R R (r_ldD (y := .arr 9 ((t.teams).map WiTeam.d)) tb R R R R R R R R R (r_movD R R R ?_))))))))))
 obtain ⟨e, ie, h⟩ := bnd h
 refine r_ixE tb R R R R R R (ix0 ie) (ix1m ie) R R (r_faE tb R R R R R R R (r_ldE (y := .v (.int .i64 e.priority)) tb R R (ix2 (g := WiTeam.d) ie) R R R R (r_fa tb R R R R R R R (r_ldD (y := .arr 9 ((t.teams).map WiTeam.d)) tb R R R R R R R R R (r_movD R R R ?_)))))
 obtain ⟨e2, ie2, h⟩ := bnd h
 refine r_ixE tb R R R R R R (ix0 ie2) (ix1m ie2) R R (r_faE tb R R R R R R R (r_ldE (y := .v (.int .i64 e2.priority)) tb R R (ix2 (g := WiTeam.d) ie2) R R R R ?_))
 refine r_neq R R R R ?_ ?_
 ·intro c
  replace h := ifN c h
  refine ev_endD (by kernel_rfl) (then_norm (sw_condT R (sw_seq (sw_dr (by kernel_rfl) (r_fa tb R R R R R R R (r_ldD (y := .arr 9 ((t.teams).map WiTeam.d)) tb R R R R R R R R R (r_movD R R R (r_ixE tb R R R R R R (ix0 ie) (ix1m ie) R R (r_faE tb R R R R R R R (r_ldE (y := .v (.int .i64 e.priority)) tb R R (ix2 (g := WiTeam.d) ie) R R R R (r_fa tb R R R R R R R (r_ldD (y := .arr 9 ((t.teams).map WiTeam.d)) tb R R R R R R R R R (r_movD R R R ?_)))))))))))))
  refine r_ixE tb R R R R R R (ix0 ie2) (ix1m ie2) R R (r_faE tb R R R R R R R (r_ldE (y := .v (.int .i64 e2.priority)) tb R R (ix2 (g := WiTeam.d) ie2) R R R R (r_gtrV R R R R (r_asgD R R R (ev_endD (by kernel_rfl) (then_norm (sw_ret (then_ret ?_))))))))
  obtain rfl := sI h
  exact fin_0 (t := .d (.v (.bool (decide (e2.priority < e.priority))))) R R R (.cons (.tmp 8) .nil)
 intro c
 replace h := ifP c h
 refine ev_endD (by kernel_rfl) (then_norm (sw_condF R (sw_skip (then_norm (sw_seq (sw_seq (sw_dr (by kernel_rfl) (r_fa tb R R R R R R R (r_ldD (y := .arr 1 ((o.credit).map vI)) tb R R R R R R R R R (r_movD R R R ?_))))))))))
 obtain ⟨e3, ie3, h⟩ := bnd h
 refine r_ixE tb R R R R R R (ix0 ie3) (ix1m ie3) R R (r_ldE (y := .v (.int .i64 e3)) tb R R (ix2 (g := vI) ie3) R R R R (r_fa tb R R R R R R R (r_ldD (y := .arr 1 ((o.credit).map vI)) tb R R R R R R R R R (r_movD R R R ?_))))
 obtain ⟨e4, ie4, h⟩ := bnd h
 refine r_ixE tb R R R R R R (ix0 ie4) (ix1m ie4) R R (r_ldE (y := .v (.int .i64 e4)) tb R R (ix2 (g := vI) ie4) R R R R ?_)
 refine r_neq R R R R ?_ ?_
 ·intro c2
  replace h := ifN c2 h
  refine ev_endD (by kernel_rfl) (then_norm (sw_condT R (sw_seq (sw_dr (by kernel_rfl) (r_fa tb R R R R R R R (r_ldD (y := .arr 1 ((o.credit).map vI)) tb R R R R R R R R R (r_movD R R R (r_ixE tb R R R R R R (ix0 ie3) (ix1m ie3) R R (r_ldE (y := .v (.int .i64 e3)) tb R R (ix2 (g := vI) ie3) R R R R (r_fa tb R R R R R R R (r_ldD (y := .arr 1 ((o.credit).map vI)) tb R R R R R R R R R (r_movD R R R (r_ixE tb R R R R R R (ix0 ie4) (ix1m ie4) R R ?_)))))))))))))
  refine r_ldE (y := .v (.int .i64 e4)) tb R R (ix2 (g := vI) ie4) R R R R (r_gtrV R R R R (r_asgD R R R (ev_endD (by kernel_rfl) (then_norm (sw_ret (then_ret ?_))))))
  obtain rfl := sI h
  exact fin_0 (t := .d (.v (.bool (decide (e4 < e3))))) R R R (.cons (.tmp 8) .nil)
 intro c2
 replace h := ifP c2 h
 refine ev_endD (by kernel_rfl) (then_norm (sw_condF R (sw_skip (then_norm (sw_seq (sw_seq (sw_dr (by kernel_rfl) (r_fa tb R R R R R R R (r_ldD (y := .arr 1 ((o.used).map vI)) tb R R R R R R R R R (r_movD R R R ?_))))))))))
 obtain ⟨e5, ie5, h⟩ := bnd h
 refine r_ixE tb R R R R R R (ix0 ie5) (ix1m ie5) R R (r_ldE (y := .v (.int .i64 e5)) tb R R (ix2 (g := vI) ie5) R R R R (r_fa tb R R R R R R R (r_ldD (y := .arr 1 ((o.used).map vI)) tb R R R R R R R R R (r_movD R R R ?_))))
 obtain ⟨e6, ie6, h⟩ := bnd h
 refine r_ixE tb R R R R R R (ix0 ie6) (ix1m ie6) R R (r_ldE (y := .v (.int .i64 e6)) tb R R (ix2 (g := vI) ie6) R R R R ?_)
 refine r_neq R R R R ?_ ?_
 ·intro c3
  replace h := ifN c3 h
  refine ev_endD (by kernel_rfl) (then_norm (sw_condT R (sw_seq (sw_dr (by kernel_rfl) (r_fa tb R R R R R R R (r_ldD (y := .arr 1 ((o.used).map vI)) tb R R R R R R R R R (r_movD R R R (r_ixE tb R R R R R R (ix0 ie5) (ix1m ie5) R R (r_ldE (y := .v (.int .i64 e5)) tb R R (ix2 (g := vI) ie5) R R R R (r_fa tb R R R R R R R (r_ldD (y := .arr 1 ((o.used).map vI)) tb R R R R R R R R R (r_movD R R R (r_ixE tb R R R R R R (ix0 ie6) (ix1m ie6) R R ?_)))))))))))))
  refine r_ldE (y := .v (.int .i64 e6)) tb R R (ix2 (g := vI) ie6) R R R R (r_lssV R R R R (r_asgD R R R (ev_endD (by kernel_rfl) (then_norm (sw_ret (then_ret ?_))))))
  obtain rfl := sI h
  exact fin_0 (t := .d (.v (.bool (decide (e5 < e6))))) R R R (.cons (.tmp 8) .nil)
 intro c3
 replace h := ifP c3 h
 refine ev_endD (by kernel_rfl) (then_norm (sw_condF R (sw_skip (then_norm (sw_seq (sw_seq (sw_dr (by kernel_rfl) (r_fa tb R R R R R R R (r_ldD (y := .arr 1 ((o.last).map vI)) tb R R R R R R R R R (r_movD R R R ?_))))))))))
 obtain ⟨e7, ie7, h⟩ := bnd h
 refine r_ixE tb R R R R R R (ix0 ie7) (ix1m ie7) R R (r_ldE (y := .v (.int .i64 e7)) tb R R (ix2 (g := vI) ie7) R R R R (r_fa tb R R R R R R R (r_ldD (y := .arr 1 ((o.last).map vI)) tb R R R R R R R R R (r_movD R R R ?_))))
 obtain ⟨e8, ie8, h⟩ := bnd h
 refine r_ixE tb R R R R R R (ix0 ie8) (ix1m ie8) R R (r_ldE (y := .v (.int .i64 e8)) tb R R (ix2 (g := vI) ie8) R R R R ?_)
 refine r_neq R R R R ?_ ?_
 ·intro c4
  replace h := ifN c4 h
  refine ev_endD (by kernel_rfl) (then_norm (sw_condT R (sw_seq (sw_dr (by kernel_rfl) (r_fa tb R R R R R R R (r_ldD (y := .arr 1 ((o.last).map vI)) tb R R R R R R R R R (r_movD R R R (r_ixE tb R R R R R R (ix0 ie7) (ix1m ie7) R R (r_ldE (y := .v (.int .i64 e7)) tb R R (ix2 (g := vI) ie7) R R R R (r_fa tb R R R R R R R (r_ldD (y := .arr 1 ((o.last).map vI)) tb R R R R R R R R R (r_movD R R R (r_ixE tb R R R R R R (ix0 ie8) (ix1m ie8) R R ?_)))))))))))))
  refine r_ldE (y := .v (.int .i64 e8)) tb R R (ix2 (g := vI) ie8) R R R R (r_lssV R R R R (r_asgD R R R (ev_endD (by kernel_rfl) (then_norm (sw_ret (then_ret ?_))))))
  obtain rfl := sI h
  exact fin_0 (t := .d (.v (.bool (decide (e7 < e8))))) R R R (.cons (.tmp 8) .nil)
 intro c4
 replace h := ifP c4 h
 refine ev_endD (by kernel_rfl) (then_norm (sw_condF R (sw_skip (then_norm (qG (r_movD R R R (r_movD R R R (r_lssV R R R R (r_asgD R R R (eN (sw_ret ?_)))))))))))
 obtain rfl := sI h
 exact fin_0 (t := .d (.v (.bool (decide (a < rv))))) R R R (.cons (.tmp 8) .nil)
/-- hangfireref11.why -/
def r_why_L1 (F : Nat) (e : WiTeam) (e2 : WiWindow) (K : Int → Option Int) : Nat → Int → Option Int
 | 0, _ => none
 | n + 1, x => if x < (e.away.length : Int) then (Option.bind (ixO e.away x) fun e4 => Option.bind (r_in F e2.day e4.lo e4.hi) fun rv3 => if rv3 = true then (some 211) else (r_why_L1 F e e2 K n (W (x + 1)))) else (K x)
def r_why (F : Nat) (t : WiPlan) (o : WiState) (a : WiSky) (rv : Int) (rv2 : Int) : Option Int := Option.bind (ixO t.teams rv) fun e => Option.bind (ixO t.windows o.next) fun e2 => Option.bind (ixO o.used rv) fun e3 => if e.need ≤ e3 then (some 210) else (r_why_L1 F e e2 (fun (x : Int) => Option.bind (ixO o.last rv) fun e5 => if e5 = (-1) then (if 0 < (e.kinds.length : Int) then (Option.bind (r_common F e.kinds a.kinds) fun rv5 => if rv5 = true then (if e.wind < a.wind then (some 214) else (if (W (e2.until_ - rv2)) < e.setup then (some 215) else (some 0))) else (some 213)) else (if e.wind < a.wind then (some 214) else (if (W (e2.until_ - rv2)) < e.setup then (some 215) else (some 0)))) else (if (W (e2.day - e5)) < e.rest then (some 212) else (if 0 < (e.kinds.length : Int) then (Option.bind (r_common F e.kinds a.kinds) fun rv4 => if rv4 = true then (if e.wind < a.wind then (some 214) else (if (W (e2.until_ - rv2)) < e.setup then (some 215) else (some 0))) else (some 213)) else (if e.wind < a.wind then (some 214) else (if (W (e2.until_ - rv2)) < e.setup then (some 215) else (some 0)))))) F 0)
theorem r_why_pc {F : Nat} {t : WiPlan} {o : WiState} {a : WiSky} {rv : Int} {rv2 : Int} {r : Int} (h : r_why F t o a rv rv2 = some r) : PC Try.prog 69 [WiPlan.d t, WiState.d o, WiSky.d a, .v (.int .i64 rv), .v (.int .i64 rv2)] (.v (.int .i64 r)) := by
 rw [r_why] at h
 refine SC.of_sw Try.func69 R R R ?_
 simp only [List.map_cons, List.map_nil, argS, Nat.zero_add, Nat.reduceAdd]
 refine qG (r_box R R R R R R R (r_box R R R R R R R (r_box R R R R R R R (r_asgD R R R (eN (sw_seq (sw_dr (by kernel_rfl) (r_fa tb R R R R R R R (r_ldD (y := .arr 9 ((t.teams).map WiTeam.d)) tb R R R R R R R R R (r_movD R R R ?_))))))))))
 obtain ⟨e, ie, h⟩ := bnd h
 refine r_ixE tb R R R R R R (ix0 ie) (ix1m ie) R R (r_ldE (y := WiTeam.d e) tb R R (ix2 (g := WiTeam.d) ie) R R R R (r_fa tb R R R R R R R (r_ldD (y := .arr 3 ((t.windows).map WiWindow.d)) tb R R R R R R R R R (r_fa tb R R R R R R R (r_ldD (y := .v (.int .i64 o.next)) tb R R R R R R R R R ?_)))))
 obtain ⟨e2, ie2, h⟩ := bnd h
 refine r_ixE tb R R R R R R (ix0 ie2) (ix1m ie2) R R (r_ldE (y := WiWindow.d e2) tb R R (ix2 (g := WiWindow.d) ie2) R R R R (r_alloc tb R R R R R (r_alloc tb R R R R R (r_stE _ ([some ⟨4, [.d (WiPlan.d t)]⟩, some ⟨4, [.d (WiState.d o)]⟩, some ⟨2, [.d (WiSky.d a)]⟩, some ⟨9, [.d (WiTeam.d e)]⟩, some ⟨3, [.d (.agg [.v (.int .i64 0), .v (.int .i64 0), .v (.int .i64 0)])]⟩]) tb R R R R R R R R R R R R ?_))))
 refine r_stE _ ([some ⟨4, [.d (WiPlan.d t)]⟩, some ⟨4, [.d (WiState.d o)]⟩, some ⟨2, [.d (WiSky.d a)]⟩, some ⟨9, [.d (WiTeam.d e)]⟩, some ⟨3, [.d (WiWindow.d e2)]⟩]) tb R R R R R R R R R R R R (ev_endD (by kernel_rfl) (then_norm (sw_seq (sw_seq (sw_dr (by kernel_rfl) (r_fa tb R R R R R R R (r_ldD (y := .arr 1 ((o.used).map vI)) tb R R R R R R R R R (r_movD R R R ?_))))))))
 obtain ⟨e3, ie3, h⟩ := bnd h
 refine r_ixE tb R R R R R R (ix0 ie3) (ix1m ie3) R R (r_ldE (y := .v (.int .i64 e3)) tb R R (ix2 (g := vI) ie3) R R R R (r_fa tb R R R R R R R (r_ldD (y := .v (.int .i64 e.need)) tb R R R R R R R R R ?_)))
 refine r_geq R R R R ?_ ?_
 ·intro c
  replace h := ifP c h
  refine ev_endD (by kernel_rfl) (then_norm (sw_condT R (qG (r_asgD R R R (eN (sw_ret (then_ret ?_)))))))
  obtain rfl := sI h
  exact fin_0 (t := .d (.v (.int .i64 210))) R R R (.cons (.tmp 10) .nil)
 intro c
 replace h := ifN (Int.not_le.2 c) h
 refine ev_endD (by kernel_rfl) (then_norm (sw_condF R (sw_skip (then_norm (sw_seq (qG (r_asgD R R R (eN (sw_block ?_)))))))))
 obtain ⟨K2, hK2, h⟩ : ∃ K, K = _ ∧ r_why_L1 F e e2 K F 0 = some r := ⟨_, rfl, h⟩
 refine sw_loop (st0 := ⟨[(3, .d (.v (.int .i64 rv))), (4, .d (.v (.int .i64 rv2))), (6, .ref 0 4 0 0), (7, .ref 1 2 0 0), (10, .d (.v (.int .i64 0))), (11, .ref 2 9 0 0), (12, .ref 3 3 0 0), (13, .d (.v (.int .i64 0)))], [some ⟨4, [.d (WiState.d o)]⟩, some ⟨2, [.d (WiSky.d a)]⟩, some ⟨9, [.d (WiTeam.d e)]⟩, some ⟨3, [.d (WiWindow.d e2)]⟩]⟩) (κ := [1, 2, 3, 4]) (fun m st => ∃ (x : Int), r_why_L1 F e e2 K2 m x = some r ∧ st = ⟨[(3, .d (.v (.int .i64 rv))), (4, .d (.v (.int .i64 rv2))), (6, .ref 0 4 0 0), (7, .ref 1 2 0 0), (10, .d (.v (.int .i64 0))), (11, .ref 2 9 0 0), (12, .ref 3 3 0 0), (13, .d (.v (.int .i64 x)))], [some ⟨4, [.d (WiState.d o)]⟩, some ⟨2, [.d (WiSky.d a)]⟩, some ⟨9, [.d (WiTeam.d e)]⟩, some ⟨3, [.d (WiWindow.d e2)]⟩]⟩) (vwK R R (.cons R R (.cons R R (.cons R R (.cons R R .nil)))) (.cons R R (.cons R R (.cons R R (.cons R R (.cons R R (.cons R R (.cons R R (.cons R R .nil))))))))) ⟨0, h, R⟩ ?_
 clear h
 rintro m2 st ⟨x, h, rfl⟩
 cases m2 with
 | zero => cases (show (none : Option Int) = some r from h)
 | succ m2 =>
 rw [r_why_L1] at h
 refine sw_seq (qG (r_movD R R R (r_fa tb R R R R R R R (r_ldD (y := .arr 2 ((e.away).map Span.d)) tb R R R R R R R R R (r_lenM tb R R R R R ?_)))))
 refine r_lss R R R R ?_ ?_
 ·intro c2
  replace h := ifP c2 h
  refine eN (sw_condT R (sw_skip (then_norm (sw_seq (sw_block (sw_seq (sw_dr (by kernel_rfl) (r_fa tb R R R R R R R (r_ldD (y := .v (.int .i64 e2.day)) tb R R R R R R R R R (r_fa tb R R R R R R R (r_ldD (y := .arr 2 ((e.away).map Span.d)) tb R R R R R R R R R (r_movD R R R ?_))))))))))))
  obtain ⟨e4, ie4, h⟩ := bnd h
  refine r_ixE tb R R R R R R (ix0 ie4) (ix1m ie4) R R (r_faE tb R R R R R R R (r_ldE (y := .v (.int .i64 e4.lo)) tb R R (ix2 (g := Span.d) ie4) R R R R (r_fa tb R R R R R R R (r_ldD (y := .arr 2 ((e.away).map Span.d)) tb R R R R R R R R R (r_movD R R R (r_ixE tb R R R R R R (ix0 ie4) (ix1m ie4) R R (r_faE tb R R R R R R R (r_ldE (y := .v (.int .i64 e4.hi)) tb R R (ix2 (g := Span.d) ie4) R R R R ?_))))))))
  obtain ⟨rv3, hrv3, h⟩ := bnd h
  refine r_callB (r_in_pc hrv3) (.of (by kernel_rfl)) R R R R ?_ ?_
  ·intro c3
   replace h := ifP c3 h
   refine ev_endD (by kernel_rfl) (then_norm (sw_condT R (qG (r_asgD R R R (eN (sw_ret (block_ret (then_ret (then_ret (block_ret (then_ret ?_)))))))))))
   obtain rfl := sI h
   exact fin_0 (t := .d (.v (.int .i64 211))) R R R (.cons (.tmp 10) .nil)
  intro c3
  replace h := ifF c3 h
  refine ev_endD (by kernel_rfl) (then_norm (sw_condF R (sw_skip (block_norm (then_norm (sw_rg (r_movD R R R (r_add R R R R (r_asgD R R R (eN ?_))))))))))
  exact ⟨m2, ⟨[(3, .d (.v (.int .i64 rv))), (4, .d (.v (.int .i64 rv2))), (6, .ref 0 4 0 0), (7, .ref 1 2 0 0), (10, .d (.v (.int .i64 0))), (11, .ref 2 9 0 0), (12, .ref 3 3 0 0), (13, .d (.v (.int .i64 (W (x + 1)))))], [some ⟨4, [.d (WiState.d o)]⟩, some ⟨2, [.d (WiSky.d a)]⟩, some ⟨9, [.d (WiTeam.d e)]⟩, some ⟨3, [.d (WiWindow.d e2)]⟩]⟩, [0, 1, 2, 3], Nat.lt_succ_self _, (vwK R R (.cons R R (.cons R R (.cons R R (.cons R R .nil)))) (.cons R R (.cons R R (.cons R R (.cons R R (.cons R R (.cons R R (.cons R R (.cons R R .nil))))))))), (W (x + 1)), h, R⟩
 intro c2
 replace h := ifN (Int.not_lt.2 c2) h
 refine eN (sw_condF R (sw_exit (then_exit (then_exit ?_))))
 subst hK2
 refine block_exit (then_norm (sw_seq (sw_seq (sw_dr (by kernel_rfl) (r_fa tb R R R R R R R (r_ldD (y := .arr 1 ((o.last).map vI)) tb R R R R R R R R R (r_movD R R R ?_)))))))
 obtain ⟨e5, ie5, h⟩ := bnd h
 refine r_ixE tb R R R R R R (ix0 ie5) (ix1m ie5) R R (r_ldE (y := .v (.int .i64 e5)) tb R R (ix2 (g := vI) ie5) R R R R ?_)
 refine r_neq R R R R ?_ ?_
 ·intro c4
  replace h := ifN c4 h
  refine r_movD R R R (r_fa tb R R R R R R R (r_ldD (y := .v (.int .i64 e2.day)) tb R R R R R R R R R (r_fa tb R R R R R R R (r_ldD (y := .arr 1 ((o.last).map vI)) tb R R R R R R R R R (r_movD R R R (r_ixE tb R R R R R R (ix0 ie5) (ix1m ie5) R R (r_ldE (y := .v (.int .i64 e5)) tb R R (ix2 (g := vI) ie5) R R R R (r_sub R R R R (r_fa tb R R R R R R R (r_ldD (y := .v (.int .i64 e.rest)) tb R R R R R R R R R ?_))))))))))
  refine r_lss R R R R ?_ ?_
  ·intro c5
   replace h := ifP c5 h
   refine r_pickT R R R R (ev_endD (by kernel_rfl) (then_norm (sw_condT R (qG (r_asgD R R R (eN (sw_ret (then_ret ?_))))))))
   obtain rfl := sI h
   exact fin_0 (t := .d (.v (.int .i64 212))) R R R (.cons (.tmp 10) .nil)
  intro c5
  replace h := ifN (Int.not_lt.2 c5) h
  refine r_pickT R R R R (ev_endD (by kernel_rfl) (then_norm (sw_condF R (sw_skip (then_norm (sw_seq (qG (r_fa tb R R R R R R R (r_ldD (y := .arr 1 ((e.kinds).map vI)) tb R R R R R R R R R (r_lenM tb R R R R R ?_))))))))))
  refine r_gtr R R R R ?_ ?_
  ·intro c6
   replace h := ifP c6 h
   refine r_movD R R R (r_fa tb R R R R R R R (r_ldD (y := .arr 1 ((e.kinds).map vI)) tb R R R R R R R R R (r_fa tb R R R R R R R (r_ldD (y := .arr 1 ((a.kinds).map vI)) tb R R R R R R R R R ?_))))
   obtain ⟨rv4, hrv4, h⟩ := bnd h
   refine r_callB (r_common_pc hrv4) (.of (by kernel_rfl)) R R R R ?_ ?_
   ·intro c7
    replace h := ifP c7 h
    refine r_notT R R R (r_pickT R R R R (eN (sw_condF R (sw_skip (then_norm (sw_seq (qG (r_fa tb R R R R R R R (r_ldD (y := .v (.int .i64 a.wind)) tb R R R R R R R R R (r_fa tb R R R R R R R (r_ldD (y := .v (.int .i64 e.wind)) tb R R R R R R R R R ?_)))))))))))
    refine r_gtr R R R R ?_ ?_
    ·intro c8
     replace h := ifP c8 h
     refine eN (sw_condT R (qG (r_asgD R R R (eN (sw_ret (then_ret ?_))))))
     obtain rfl := sI h
     exact fin_0 (t := .d (.v (.int .i64 214))) R R R (.cons (.tmp 10) .nil)
    intro c8
    replace h := ifN (Int.not_lt.2 c8) h
    refine eN (sw_condF R (sw_skip (then_norm (sw_seq (qG (r_fa tb R R R R R R R (r_ldD (y := .v (.int .i64 e2.until_)) tb R R R R R R R R R (r_movD R R R (r_sub R R R R (r_fa tb R R R R R R R (r_ldD (y := .v (.int .i64 e.setup)) tb R R R R R R R R R ?_)))))))))))
    refine r_lss R R R R ?_ ?_
    ·intro c9
     replace h := ifP c9 h
     refine eN (sw_condT R (qG (r_asgD R R R (eN (sw_ret (then_ret ?_))))))
     obtain rfl := sI h
     exact fin_0 (t := .d (.v (.int .i64 215))) R R R (.cons (.tmp 10) .nil)
    intro c9
    replace h := ifN (Int.not_lt.2 c9) h
    refine eN (sw_condF R (sw_skip (then_norm (qG (r_asgD R R R (eN (sw_ret ?_)))))))
    obtain rfl := sI h
    exact fin_0 (t := .d (.v (.int .i64 0))) R R R (.cons (.tmp 10) .nil)
   intro c7
   replace h := ifF c7 h
   refine r_notF R R R (r_pickT R R R R (eN (sw_condT R (qG (r_asgD R R R (eN (sw_ret (then_ret ?_))))))))
   obtain rfl := sI h
   exact fin_0 (t := .d (.v (.int .i64 213))) R R R (.cons (.tmp 10) .nil)
  intro c6
  replace h := ifN (Int.not_lt.2 c6) h
  refine r_movD R R R (r_skip R R R (r_skip R R R (r_skip R R R (r_skip R R R (r_skip R R R (r_skip R R R (r_pickF R R R R (eN (sw_condF R (sw_skip (then_norm (sw_seq (qG (r_fa tb R R R R R R R (r_ldD (y := .v (.int .i64 a.wind)) tb R R R R R R R R R (r_fa tb R R R R R R R (r_ldD (y := .v (.int .i64 e.wind)) tb R R R R R R R R R ?_)))))))))))))))))
  refine r_gtr R R R R ?_ ?_
  ·intro c10
   replace h := ifP c10 h
   refine eN (sw_condT R (qG (r_asgD R R R (eN (sw_ret (then_ret ?_))))))
   obtain rfl := sI h
   exact fin_0 (t := .d (.v (.int .i64 214))) R R R (.cons (.tmp 10) .nil)
  intro c10
  replace h := ifN (Int.not_lt.2 c10) h
  refine eN (sw_condF R (sw_skip (then_norm (sw_seq (qG (r_fa tb R R R R R R R (r_ldD (y := .v (.int .i64 e2.until_)) tb R R R R R R R R R (r_movD R R R (r_sub R R R R (r_fa tb R R R R R R R (r_ldD (y := .v (.int .i64 e.setup)) tb R R R R R R R R R ?_)))))))))))
  refine r_lss R R R R ?_ ?_
  ·intro c11
   replace h := ifP c11 h
   refine eN (sw_condT R (qG (r_asgD R R R (eN (sw_ret (then_ret ?_))))))
   obtain rfl := sI h
   exact fin_0 (t := .d (.v (.int .i64 215))) R R R (.cons (.tmp 10) .nil)
  intro c11
  replace h := ifN (Int.not_lt.2 c11) h
  refine eN (sw_condF R (sw_skip (then_norm (qG (r_asgD R R R (eN (sw_ret ?_)))))))
  obtain rfl := sI h
  exact fin_0 (t := .d (.v (.int .i64 0))) R R R (.cons (.tmp 10) .nil)
 intro c4
 replace h := ifP c4 h
 refine r_movD R R R (r_skip R R R (r_skip R R R (r_skip R R R (r_skip R R R (r_skip R R R (r_skip R R R (r_skip R R R (r_skip R R R (r_skip R R R (r_skip R R R (r_skip R R R (r_pickF R R R R (ev_endD (by kernel_rfl) (then_norm (sw_condF R (sw_skip (then_norm (sw_seq (qG (r_fa tb R R R R R R R (r_ldD (y := .arr 1 ((e.kinds).map vI)) tb R R R R R R R R R (r_lenM tb R R R R R ?_))))))))))))))))))))))
 refine r_gtr R R R R ?_ ?_
 ·intro c12
  replace h := ifP c12 h
  refine r_movD R R R (r_fa tb R R R R R R R (r_ldD (y := .arr 1 ((e.kinds).map vI)) tb R R R R R R R R R (r_fa tb R R R R R R R (r_ldD (y := .arr 1 ((a.kinds).map vI)) tb R R R R R R R R R ?_))))
  obtain ⟨rv5, hrv5, h⟩ := bnd h
  refine r_callB (r_common_pc hrv5) (.of (by kernel_rfl)) R R R R ?_ ?_
  ·intro c13
   replace h := ifP c13 h
   refine r_notT R R R (r_pickT R R R R (eN (sw_condF R (sw_skip (then_norm (sw_seq (qG (r_fa tb R R R R R R R (r_ldD (y := .v (.int .i64 a.wind)) tb R R R R R R R R R (r_fa tb R R R R R R R (r_ldD (y := .v (.int .i64 e.wind)) tb R R R R R R R R R ?_)))))))))))
   refine r_gtr R R R R ?_ ?_
   ·intro c14
    replace h := ifP c14 h
    refine eN (sw_condT R (qG (r_asgD R R R (eN (sw_ret (then_ret ?_))))))
    obtain rfl := sI h
    exact fin_0 (t := .d (.v (.int .i64 214))) R R R (.cons (.tmp 10) .nil)
   intro c14
   replace h := ifN (Int.not_lt.2 c14) h
   refine eN (sw_condF R (sw_skip (then_norm (sw_seq (qG (r_fa tb R R R R R R R (r_ldD (y := .v (.int .i64 e2.until_)) tb R R R R R R R R R (r_movD R R R (r_sub R R R R (r_fa tb R R R R R R R (r_ldD (y := .v (.int .i64 e.setup)) tb R R R R R R R R R ?_)))))))))))
   refine r_lss R R R R ?_ ?_
   ·intro c15
    replace h := ifP c15 h
    refine eN (sw_condT R (qG (r_asgD R R R (eN (sw_ret (then_ret ?_))))))
    obtain rfl := sI h
    exact fin_0 (t := .d (.v (.int .i64 215))) R R R (.cons (.tmp 10) .nil)
   intro c15
   replace h := ifN (Int.not_lt.2 c15) h
   refine eN (sw_condF R (sw_skip (then_norm (qG (r_asgD R R R (eN (sw_ret ?_)))))))
   obtain rfl := sI h
   exact fin_0 (t := .d (.v (.int .i64 0))) R R R (.cons (.tmp 10) .nil)
  intro c13
  replace h := ifF c13 h
  refine r_notF R R R (r_pickT R R R R (eN (sw_condT R (qG (r_asgD R R R (eN (sw_ret (then_ret ?_))))))))
  obtain rfl := sI h
  exact fin_0 (t := .d (.v (.int .i64 213))) R R R (.cons (.tmp 10) .nil)
 intro c12
 replace h := ifN (Int.not_lt.2 c12) h
 refine r_movD R R R (r_skip R R R (r_skip R R R (r_skip R R R (r_skip R R R (r_skip R R R (r_skip R R R (r_pickF R R R R (eN (sw_condF R (sw_skip (then_norm (sw_seq (qG (r_fa tb R R R R R R R (r_ldD (y := .v (.int .i64 a.wind)) tb R R R R R R R R R (r_fa tb R R R R R R R (r_ldD (y := .v (.int .i64 e.wind)) tb R R R R R R R R R ?_)))))))))))))))))
 refine r_gtr R R R R ?_ ?_
 ·intro c16
  replace h := ifP c16 h
  refine eN (sw_condT R (qG (r_asgD R R R (eN (sw_ret (then_ret ?_))))))
  obtain rfl := sI h
  exact fin_0 (t := .d (.v (.int .i64 214))) R R R (.cons (.tmp 10) .nil)
 intro c16
 replace h := ifN (Int.not_lt.2 c16) h
 refine eN (sw_condF R (sw_skip (then_norm (sw_seq (qG (r_fa tb R R R R R R R (r_ldD (y := .v (.int .i64 e2.until_)) tb R R R R R R R R R (r_movD R R R (r_sub R R R R (r_fa tb R R R R R R R (r_ldD (y := .v (.int .i64 e.setup)) tb R R R R R R R R R ?_)))))))))))
 refine r_lss R R R R ?_ ?_
 ·intro c17
  replace h := ifP c17 h
  refine eN (sw_condT R (qG (r_asgD R R R (eN (sw_ret (then_ret ?_))))))
  obtain rfl := sI h
  exact fin_0 (t := .d (.v (.int .i64 215))) R R R (.cons (.tmp 10) .nil)
 intro c17
 replace h := ifN (Int.not_lt.2 c17) h
 refine eN (sw_condF R (sw_skip (then_norm (qG (r_asgD R R R (eN (sw_ret ?_)))))))
 obtain rfl := sI h
 exact fin_0 (t := .d (.v (.int .i64 0))) R R R (.cons (.tmp 10) .nil)
/-- hangfireref11.Ints -/
def r_Ints_L1 (F : Nat) (a : (List Int)) (b : (List Int)) (K : Int → Option Bool) : Nat → Int → Option Bool
 | 0, _ => none
 | n + 1, i => if i < (a.length : Int) then (Option.bind (ixO a i) fun e => Option.bind (ixO b i) fun e2 => if e = e2 then (r_Ints_L1 F a b K n (W (i + 1))) else (some false)) else (K i)
def r_Ints (F : Nat) (a : (List Int)) (b : (List Int)) : Option Bool := if (a.length : Int) = (b.length : Int) then (r_Ints_L1 F a b (fun (i : Int) => some true) F 0) else (some false)
theorem r_Ints_pc {F : Nat} {a : (List Int)} {b : (List Int)} {r : Bool} (h : r_Ints F a b = some r) : PC Try.prog 28 [.arr 1 ((a).map vI), .arr 1 ((b).map vI)] (.v (.bool r)) := by
 rw [r_Ints] at h
 refine SC.of_sw Try.func28 R R R ?_
 simp only [List.map_cons, List.map_nil, argS, Nat.zero_add, Nat.reduceAdd]
 refine qG (r_asgD R R R (eN (sw_seq (qG (r_movD R R R (r_lenM tb R R R R R (r_movD R R R (r_lenM tb R R R R R ?_))))))))
 refine r_neq R R R R ?_ ?_
 ·intro c
  replace h := ifN c h
  refine eN (sw_condT R (qG (r_asgD R R R (eN (sw_ret (then_ret ?_))))))
  obtain rfl := sI h
  exact fin_0 (t := .d (.v (.bool false))) R R R (.cons (.tmp 4) .nil)
 intro c
 replace h := ifP c h
 refine eN (sw_condF R (sw_skip (then_norm (sw_seq (qG (r_asgD R R R (eN (sw_block ?_))))))))
 obtain ⟨K2, hK2, h⟩ : ∃ K, K = _ ∧ r_Ints_L1 F a b K F 0 = some r := ⟨_, rfl, h⟩
 refine sw_loop (st0 := ⟨[(0, .d (.arr 1 ((a).map vI))), (1, .d (.arr 1 ((b).map vI))), (4, .d (.v (.bool false))), (5, .d (.v (.int .i64 0)))], []⟩) (κ := []) (fun m st => ∃ (i : Int), r_Ints_L1 F a b K2 m i = some r ∧ st = ⟨[(0, .d (.arr 1 ((a).map vI))), (1, .d (.arr 1 ((b).map vI))), (4, .d (.v (.bool false))), (5, .d (.v (.int .i64 i)))], []⟩) (vwK R R .nil (.cons R R (.cons R R (.cons R R (.cons R R .nil))))) ⟨0, h, R⟩ ?_
 clear h
 rintro m2 st ⟨i, h, rfl⟩
 cases m2 with
 | zero => cases (show (none : Option Bool) = some r from h)
 | succ m2 =>
 rw [r_Ints_L1] at h
 refine sw_seq (qG (r_movD R R R (r_movD R R R (r_lenM tb R R R R R ?_))))
 refine r_lss R R R R ?_ ?_
 ·intro c2
  replace h := ifP c2 h
  refine eN (sw_condT R (sw_skip (then_norm (sw_seq (sw_block (sw_seq (sw_dr (by kernel_rfl) (r_movD R R R (r_movD R R R ?_)))))))))
  obtain ⟨e, ie, h⟩ := bnd h
  refine r_ixE tb R R R R R R (ix0 ie) (ix1m ie) R R (r_ldE (y := .v (.int .i64 e)) tb R R (ix2 (g := vI) ie) R R R R (r_movD R R R (r_movD R R R ?_)))
  obtain ⟨e2, ie2, h⟩ := bnd h
  refine r_ixE tb R R R R R R (ix0 ie2) (ix1m ie2) R R (r_ldE (y := .v (.int .i64 e2)) tb R R (ix2 (g := vI) ie2) R R R R ?_)
  refine r_neq R R R R ?_ ?_
  ·intro c3
   replace h := ifN c3 h
   refine ev_endD (by kernel_rfl) (then_norm (sw_condT R (qG (r_asgD R R R (eN (sw_ret (block_ret (then_ret (then_ret (block_ret (then_ret ?_)))))))))))
   obtain rfl := sI h
   exact fin_0 (t := .d (.v (.bool false))) R R R (.cons (.tmp 4) .nil)
  intro c3
  replace h := ifP c3 h
  refine ev_endD (by kernel_rfl) (then_norm (sw_condF R (sw_skip (block_norm (then_norm (sw_rg (r_movD R R R (r_add R R R R (r_asgD R R R (eN ?_))))))))))
  exact ⟨m2, ⟨[(0, .d (.arr 1 ((a).map vI))), (1, .d (.arr 1 ((b).map vI))), (4, .d (.v (.bool false))), (5, .d (.v (.int .i64 (W (i + 1)))))], []⟩, [], Nat.lt_succ_self _, (vwK R R .nil (.cons R R (.cons R R (.cons R R (.cons R R .nil))))), (W (i + 1)), h, R⟩
 intro c2
 replace h := ifN (Int.not_lt.2 c2) h
 refine eN (sw_condF R (sw_exit (then_exit (then_exit ?_))))
 subst hK2
 refine block_exit (then_norm (qG (r_asgD R R R (eN (sw_ret ?_)))))
 obtain rfl := sI h
 exact fin_0 (t := .d (.v (.bool true))) R R R (.cons (.tmp 4) .nil)
/-- hangfireref11.SameState -/
def r_SameState (F : Nat) (a : WiState) (b : WiState) : Option Bool := Option.bind (r_Ints F a.used b.used) fun rv => if rv = true then (Option.bind (r_Ints F a.credit b.credit) fun rv2 => if rv2 = true then (Option.bind (r_Ints F a.last b.last) fun rv3 => if rv3 = true then (some (decide (a.next = b.next))) else (some false)) else (some false)) else (some false)
theorem r_SameState_pc {F : Nat} {a : WiState} {b : WiState} {r : Bool} (h : r_SameState F a b = some r) : PC Try.prog 20 [WiState.d a, WiState.d b] (.v (.bool r)) := by
 rw [r_SameState] at h
 refine SC.of_sw Try.func20 R R R ?_
 simp only [List.map_cons, List.map_nil, argS, Nat.zero_add, Nat.reduceAdd]
 refine qG (r_box R R R R R R R (r_box R R R R R R R (r_asgD R R R (eN (qG (r_fa tb R R R R R R R (r_ldD (y := .arr 1 ((a.used).map vI)) tb R R R R R R R R R (r_fa tb R R R R R R R (r_ldD (y := .arr 1 ((b.used).map vI)) tb R R R R R R R R R ?_)))))))))
 obtain ⟨rv, hrv, h⟩ := bnd h
 refine r_callB (r_Ints_pc hrv) (.of (by kernel_rfl)) R R R R ?_ ?_
 ·intro c
  replace h := ifP c h
  refine r_movD R R R (r_fa tb R R R R R R R (r_ldD (y := .arr 1 ((a.credit).map vI)) tb R R R R R R R R R (r_fa tb R R R R R R R (r_ldD (y := .arr 1 ((b.credit).map vI)) tb R R R R R R R R R ?_))))
  obtain ⟨rv2, hrv2, h⟩ := bnd h
  refine r_callB (r_Ints_pc hrv2) (.of (by kernel_rfl)) R R R R ?_ ?_
  ·intro c2
   replace h := ifP c2 h
   refine r_pickT R R R R (r_movD R R R (r_fa tb R R R R R R R (r_ldD (y := .arr 1 ((a.last).map vI)) tb R R R R R R R R R (r_fa tb R R R R R R R (r_ldD (y := .arr 1 ((b.last).map vI)) tb R R R R R R R R R ?_)))))
   obtain ⟨rv3, hrv3, h⟩ := bnd h
   refine r_callB (r_Ints_pc hrv3) (.of (by kernel_rfl)) R R R R ?_ ?_
   ·intro c3
    replace h := ifP c3 h
    refine r_pickT R R R R (r_movD R R R (r_fa tb R R R R R R R (r_ldD (y := .v (.int .i64 a.next)) tb R R R R R R R R R (r_fa tb R R R R R R R (r_ldD (y := .v (.int .i64 b.next)) tb R R R R R R R R R (r_eqlV R R R R (r_pickT R R R R (r_asgD R R R (eN (sw_ret ?_))))))))))
    obtain rfl := sI h
    exact fin_0 (t := .d (.v (.bool (decide (a.next = b.next))))) R R R (.cons (.tmp 4) .nil)
   intro c3
   replace h := ifF c3 h
   refine r_pickT R R R R (r_movD R R R (r_skip R R R (r_skip R R R (r_skip R R R (r_skip R R R (r_skip R R R (r_pickF R R R R (r_asgD R R R (eN (sw_ret ?_))))))))))
   obtain rfl := sI h
   exact fin_0 (t := .d (.v (.bool false))) R R R (.cons (.tmp 4) .nil)
  intro c2
  replace h := ifF c2 h
  refine r_pickT R R R R (r_movD R R R (r_skip R R R (r_skip R R R (r_skip R R R (r_skip R R R (r_skip R R R (r_pickF R R R R (r_movD R R R (r_skip R R R (r_skip R R R (r_skip R R R (r_skip R R R (r_skip R R R (r_pickF R R R R (r_asgD R R R (eN (sw_ret ?_)))))))))))))))))
  obtain rfl := sI h
  exact fin_0 (t := .d (.v (.bool false))) R R R (.cons (.tmp 4) .nil)
 intro c
 replace h := ifF c h
 refine r_movD R R R (r_skip R R R (r_skip R R R (r_skip R R R (r_skip R R R (r_skip R R R (r_pickF R R R R (r_movD R R R (r_skip R R R (r_skip R R R (r_skip R R R (r_skip R R R (r_skip R R R (r_pickF R R R R (r_movD R R R (r_skip R R R (r_skip R R R (r_skip R R R (r_skip R R R (r_skip R R R (r_pickF R R R R (r_asgD R R R (eN (sw_ret ?_)))))))))))))))))))))))
 obtain rfl := sI h
 exact fin_0 (t := .d (.v (.bool false))) R R R (.cons (.tmp 4) .nil)
/-- hangfireref11.copied -/
def r_copied (F : Nat) (s : WiState) : Option WiState := Option.bind (appO ([] : List Int) s.used) fun q => Option.bind (appO ([] : List Int) s.credit) fun q2 => Option.bind (appO ([] : List Int) s.last) fun q3 => some (WiState.mk q q2 q3 s.next)
theorem r_copied_scr {F : Nat} {s : WiState} {r : WiState} (h : r_copied F s = some r) : SCR Try.prog 78 (List.map T.d [WiState.d s]) [] (WiState_T1 r 0 1 2) (List.map some [(lvI r.used), (lvI r.credit), (lvI r.last)]) := by
 rw [r_copied] at h
 refine SC.of_sw Try.func78 R R R ?_
 simp only [List.map_cons, List.map_nil, argS, Nat.zero_add, Nat.reduceAdd]
 refine qG (r_box R R R R R R R (r_alloc tb R R R R R (eN (sw_seq (sw_dr (by kernel_rfl) (r_bslice tb R R R R R R R R R R R R R (r_fa tb R R R R R R R (r_ldD (y := .arr 1 ((s.used).map vI)) tb R R R R R R R R R ?_))))))))
 obtain ⟨q, iq, h⟩ := bnd h
 refine r_apEM (g := vI) (w := ([] : List Int)) (v := s.used) ([some ⟨4, [.d (WiState.d s)]⟩, some ⟨4, [.d (.agg [.v (.slice none 0 0), .v (.slice none 0 0), .v (.slice none 0 0), .v (.int .i64 0)])]⟩, none]) tb R R R R R R R R (by intro _; exact R) iq R R R R R (r_bslice tb R R R R R R R R R R R R R (r_fa tb R R R R R R R (r_ldD (y := .arr 1 ((s.credit).map vI)) tb R R R R R R R R R ?_)))
 obtain ⟨q2, iq2, h⟩ := bnd h
 refine r_apEM (g := vI) (w := ([] : List Int)) (v := s.credit) ([some ⟨4, [.d (WiState.d s)]⟩, some ⟨4, [.d (.agg [.v (.slice none 0 0), .v (.slice none 0 0), .v (.slice none 0 0), .v (.int .i64 0)])]⟩, none, some (lvI q), none]) tb R R R R R R R R (by intro _; exact R) iq2 R R R R R (r_bslice tb R R R R R R R R R R R R R (r_fa tb R R R R R R R (r_ldD (y := .arr 1 ((s.last).map vI)) tb R R R R R R R R R ?_)))
 obtain ⟨q3, iq3, h⟩ := bnd h
 refine r_apEM (g := vI) (w := ([] : List Int)) (v := s.last) ([some ⟨4, [.d (WiState.d s)]⟩, some ⟨4, [.d (.agg [.v (.slice none 0 0), .v (.slice none 0 0), .v (.slice none 0 0), .v (.int .i64 0)])]⟩, none, some (lvI q), none, some (lvI q2), none]) tb R R R R R R R R (by intro _; exact R) iq3 R R R R R (r_fa tb R R R R R R R (r_ldD (y := .v (.int .i64 s.next)) tb R R R R R R R R R (r_build (v := WiState_T1 (WiState.mk q q2 q3 s.next) 3 5 7) tb R R (List.cons_ne_nil _ _) R R R R R R ?_)))
 refine r_stE _ ([some ⟨4, [.d (WiState.d s)]⟩, some ⟨4, [WiState_T1 (WiState.mk q q2 q3 s.next) 3 5 7]⟩, none, some (lvI q), none, some (lvI q2), none, some (lvI q3)]) tb R R R R R R R R R R R R (ev_endD (by kernel_rfl) (then_norm (sw_ret ?_)))
 obtain rfl := sI h
 exact (fin_S (t := WiState_T1 (WiState.mk q q2 q3 s.next) 0 1 2) (L := [some (lvI q), some (lvI q2), some (lvI q3)]) (κ := [3, 5, 7]) R (.cons (rcell tb (u := WiState_T1 (WiState.mk q q2 q3 s.next) 3 5 7) R R R R R R R) .nil) (vwK R R (.row R (.row R (.row R .nil))) (.cons R R .nil)) ⟨R, R⟩)
theorem r_copied_pc {F : Nat} {s : WiState} {r : WiState} (h : r_copied F s = some r) : PC Try.prog 78 [WiState.d s] (WiState.d r) := (r_copied_scr h).toPC (.aggL (.cons (.row rfl rfl) (.cons (.row rfl rfl) (.cons (.row rfl rfl) (.cons (.d _) .nil)))))
/-- hangfireref11.Start -/
def r_Start (F : Nat) (p : WiPlan) : Option (WiState × Int) := Option.bind (r_Check F p) fun rv => if rv.2.2 = 0 then (Option.bind (r_start F p) fun rv2 => some (rv2, 0)) else (some ((WiState.mk ([] : List Int) ([] : List Int) ([] : List Int) 0), rv.2.2))
theorem r_Start_scr {F : Nat} {p : WiPlan} {r : (WiState × Int)} (h : r_Start F p = some r) : SCR Try.prog 19 (List.map T.d [WiPlan.d p]) [] (.tup [WiState_T1 r.1 0 1 2, .d (.v (.int .i64 r.2))]) (List.map some [(lvI r.1.used), (lvI r.1.credit), (lvI r.1.last)]) := by
 rw [r_Start] at h
 refine SC.of_sw Try.func19 R R R ?_
 simp only [List.map_cons, List.map_nil, argS, Nat.zero_add, Nat.reduceAdd]
 refine qG (r_box R R R R R R R (r_alloc tb R R R R R (r_asgD R R R (eN (qG (r_ldD (y := WiPlan.d p) tb R R R R R R R R R ?_))))))
 obtain ⟨rv, hrv, h⟩ := bnd h
 refine r_call (r_Check_pc hrv) (.of (by kernel_rfl)) R R R R (r_movD R R R (r_extD (t := .v (.int .i64 rv.1)) R R R R (r_extD (t := .v (.int .i64 rv.2.1)) R R R R (r_extD (t := .v (.int .i64 rv.2.2)) R R R R (r_asgD R R R (r_asgD R R R (r_asgD R R R (eN (sw_seq (qG (r_movD R R R ?_)))))))))))
 refine r_neq R R R R ?_ ?_
 ·intro c
  replace h := ifN c h
  refine eN (sw_condT R (qG (r_build (v := .d (.agg [.v (.slice none 0 0), .v (.slice none 0 0), .v (.slice none 0 0), .v (.int .i64 0)])) tb R R (List.cons_ne_nil _ _) R R R R R R (r_movD R R R (r_stE _ ([some ⟨4, [.d (WiPlan.d p)]⟩, some ⟨4, [.d (.agg [.v (.slice none 0 0), .v (.slice none 0 0), .v (.slice none 0 0), .v (.int .i64 0)])]⟩]) tb R R R R R R R R R R R R (r_asgD R R R (eN ?_)))))))
  refine SW.own (ts' := [(2, .ref 1 4 0 0), (3, .d (.v (.int .i64 rv.2.2)))]) (L' := [some ⟨4, [.d (WiPlan.d p)]⟩, some ⟨4, [.agg [.row 2 1 0 (([] : List Int)).length, .d (.v (.slice none 0 0)), .d (.v (.slice none 0 0)), .d (.v (.int .i64 0))]]⟩]) 1 R R (.cons (.same _) (.cons (.same _) .nil)) (.same (.cons R (.cons (.aggDL (.cons .nil (.cons (.same _) (.cons (.same _) (.cons (.same _) .nil))))) .nil) .nil)) ?_
  simp only [List.cons_append, List.nil_append]
  refine SW.own (ts' := [(2, .ref 1 4 0 0), (3, .d (.v (.int .i64 rv.2.2)))]) (L' := [some ⟨4, [.d (WiPlan.d p)]⟩, some ⟨4, [.agg [.row 2 1 0 (([] : List Int)).length, .row 3 1 0 (([] : List Int)).length, .d (.v (.slice none 0 0)), .d (.v (.int .i64 0))]]⟩, some (lvI ([] : List Int))]) 1 R R (.cons (.same _) (.cons (.same _) .nil)) (.same (.cons R (.cons (.aggL (.cons (.same _) (.cons .nil (.cons (.same _) (.cons (.same _) .nil))))) .nil) (.same .nil))) ?_
  simp only [List.cons_append, List.nil_append]
  refine SW.own (ts' := [(2, .ref 1 4 0 0), (3, .d (.v (.int .i64 rv.2.2)))]) (L' := [some ⟨4, [.d (WiPlan.d p)]⟩, some ⟨4, [WiState_T1 (WiState.mk ([] : List Int) ([] : List Int) ([] : List Int) 0) 2 3 4]⟩, some (lvI ([] : List Int)), some (lvI ([] : List Int))]) 1 R R (.cons (.same _) (.cons (.same _) .nil)) (.same (.cons R (.cons (.aggL (.cons (.same _) (.cons (.same _) (.cons .nil (.cons (.same _) .nil))))) .nil) (.same (.same .nil)))) ?_
  simp only [List.cons_append, List.nil_append]
  refine sw_ret (then_ret ?_)
  obtain rfl := sI h
  exact (fin_S (t := .tup [WiState_T1 (WiState.mk ([] : List Int) ([] : List Int) ([] : List Int) 0) 0 1 2, .d (.v (.int .i64 rv.2.2))]) (L := [some (lvI ([] : List Int)), some (lvI ([] : List Int)), some (lvI ([] : List Int))]) (κ := [2, 3, 4]) R (.cons (rcell tb (u := WiState_T1 (WiState.mk ([] : List Int) ([] : List Int) ([] : List Int) 0) 2 3 4) R R R R R R R) (.cons (.tmp 3) .nil)) (vwK R R (.row R (.row R (.row R .nil))) (.cons R R .nil)) ⟨R, R⟩)
 intro c
 replace h := ifP c h
 refine eN (sw_condF R (sw_skip (then_norm (qG (r_ldD (y := WiPlan.d p) tb R R R R R R R R R ?_)))))
 obtain ⟨rv2, hrv2, h⟩ := bnd h
 refine r_callN (t' := WiState_T1 rv2 2 3 4) (news' := [(lvI rv2.used), (lvI rv2.credit), (lvI rv2.last)]) (r_start_scr hrv2) (.of (by kernel_rfl)) R R R ((.row (.row (.row .nil)))) R R R (r_stE _ ([some ⟨4, [.d (WiPlan.d p)]⟩, some ⟨4, [WiState_T1 rv2 2 3 4]⟩, some (lvI rv2.used), some (lvI rv2.credit), some (lvI rv2.last)]) tb R R R R R R R R R R R R (r_asgD R R R (eN (sw_ret ?_))))
 obtain rfl := sI h
 exact (fin_S (t := .tup [WiState_T1 rv2 0 1 2, .d (.v (.int .i64 0))]) (L := [some (lvI rv2.used), some (lvI rv2.credit), some (lvI rv2.last)]) (κ := [2, 3, 4]) R (.cons (rcell tb (u := WiState_T1 rv2 2 3 4) R R R R R R R) (.cons (.tmp 3) .nil)) (vwK R R (.row R (.row R (.row R .nil))) (.cons R R .nil)) ⟨R, R⟩)
theorem r_Start_pc {F : Nat} {p : WiPlan} {r : (WiState × Int)} (h : r_Start F p = some r) : PC Try.prog 19 [WiPlan.d p] (.tup [WiState.d r.1, .v (.int .i64 r.2)]) := (r_Start_scr h).toPC (.tupL (.cons (.aggL (.cons (.row rfl rfl) (.cons (.row rfl rfl) (.cons (.row rfl rfl) (.cons (.d _) .nil))))) (.cons (.d _) .nil)))
/-- hangfireref11.CheckState -/
def r_CheckState_L1 (F : Nat) (t : WiPlan) (o : WiState) (K : Bool → Int → Option Int) : Nat → Bool → Int → Option Int
 | 0, _, _ => none
 | n + 1, x2, x3 => if x3 < (t.teams.length : Int) then (if x2 = true then (Option.bind (ixO o.used x3) fun e => Option.bind (r_in F e 0 100) fun rv3 => if rv3 = true then (Option.bind (ixO o.credit x3) fun e2 => Option.bind (r_in F e2 (-100000) 200000) fun rv4 => if rv4 = true then (Option.bind (ixO o.last x3) fun e3 => Option.bind (r_in F e3 (-1) 3650) fun rv5 => if rv5 = true then (r_CheckState_L1 F t o K n true (W (x3 + 1))) else (r_CheckState_L1 F t o K n false (W (x3 + 1)))) else (r_CheckState_L1 F t o K n false (W (x3 + 1)))) else (r_CheckState_L1 F t o K n false (W (x3 + 1)))) else (r_CheckState_L1 F t o K n false (W (x3 + 1)))) else (K x2 x3)
def r_CheckState_L2 (F : Nat) (t : WiPlan) (o : WiState) (K : Bool → Int → Option Int) : Nat → Bool → Int → Option Int
 | 0, _, _ => none
 | n + 1, x4, x5 => if x5 < (t.teams.length : Int) then (if x4 = true then (Option.bind (ixO o.used x5) fun e4 => Option.bind (r_in F e4 0 100) fun rv6 => if rv6 = true then (Option.bind (ixO o.credit x5) fun e5 => Option.bind (r_in F e5 (-100000) 200000) fun rv7 => if rv7 = true then (Option.bind (ixO o.last x5) fun e6 => Option.bind (r_in F e6 (-1) 3650) fun rv8 => if rv8 = true then (r_CheckState_L2 F t o K n true (W (x5 + 1))) else (r_CheckState_L2 F t o K n false (W (x5 + 1)))) else (r_CheckState_L2 F t o K n false (W (x5 + 1)))) else (r_CheckState_L2 F t o K n false (W (x5 + 1)))) else (r_CheckState_L2 F t o K n false (W (x5 + 1)))) else (K x4 x5)
def r_CheckState (F : Nat) (t : WiPlan) (o : WiState) : Option Int := Option.bind (r_Check F t) fun rv => if rv.2.2 = 0 then (if (o.used.length : Int) = (t.teams.length : Int) then (if (o.credit.length : Int) = (t.teams.length : Int) then (if (o.last.length : Int) = (t.teams.length : Int) then (Option.bind (r_in F o.next 0 (t.windows.length : Int)) fun rv2 => if rv2 = true then (r_CheckState_L1 F t o (fun (x2 : Bool) (x3 : Int) => if x2 = true then (some 0) else (some 7)) F true 0) else (r_CheckState_L2 F t o (fun (x4 : Bool) (x5 : Int) => if x4 = true then (some 0) else (some 7)) F false 0)) else (some 2)) else (some 2)) else (some 2)) else (some rv.2.2)
theorem r_CheckState_pc {F : Nat} {t : WiPlan} {o : WiState} {r : Int} (h : r_CheckState F t o = some r) : PC Try.prog 22 [WiPlan.d t, WiState.d o] (.v (.int .i64 r)) := by
 rw [r_CheckState] at h
 refine SC.of_sw Try.func22 R R R ?_
 simp only [List.map_cons, List.map_nil, argS, Nat.zero_add, Nat.reduceAdd]
 refine qG (r_box R R R R R R R (r_box R R R R R R R (r_asgD R R R (eN (qG (r_ldD (y := WiPlan.d t) tb R R R R R R R R R ?_))))))
 obtain ⟨rv, hrv, h⟩ := bnd h
 refine r_call (r_Check_pc hrv) (.of (by kernel_rfl)) R R R R (r_movD R R R (r_extD (t := .v (.int .i64 rv.1)) R R R R (r_extD (t := .v (.int .i64 rv.2.1)) R R R R (r_extD (t := .v (.int .i64 rv.2.2)) R R R R (r_asgD R R R (r_asgD R R R (r_asgD R R R (eN (sw_seq (qG (r_movD R R R ?_)))))))))))
 refine r_neq R R R R ?_ ?_
 ·intro c
  replace h := ifN c h
  refine eN (sw_condT R (qG (r_movD R R R (r_asgD R R R (eN (sw_ret (then_ret ?_)))))))
  obtain rfl := sI h
  exact fin_0 (t := .d (.v (.int .i64 rv.2.2))) R R R (.cons (.tmp 4) .nil)
 intro c
 replace h := ifP c h
 refine eN (sw_condF R (sw_skip (then_norm (qG (r_fa tb R R R R R R R (r_ldD (y := .arr 9 ((t.teams).map WiTeam.d)) tb R R R R R R R R R (r_lenM tb R R R R R (r_asgD R R R (eN (sw_seq (qG (r_fa tb R R R R R R R (r_ldD (y := .arr 1 ((o.used).map vI)) tb R R R R R R R R R (r_lenM tb R R R R R (r_movD R R R ?_)))))))))))))))
 refine r_neq R R R R ?_ ?_
 ·intro c2
  replace h := ifN c2 h
  refine r_movD R R R (r_skip R R R (r_skip R R R (r_skip R R R (r_skip R R R (r_skip R R R (r_pickT R R R R (r_movD R R R (r_skip R R R (r_skip R R R (r_skip R R R (r_skip R R R (r_skip R R R (r_pickT R R R R (eN (sw_condT R (qG (r_asgD R R R (eN (sw_ret (then_ret ?_))))))))))))))))))))
  obtain rfl := sI h
  exact fin_0 (t := .d (.v (.int .i64 2))) R R R (.cons (.tmp 4) .nil)
 intro c2
 replace h := ifP c2 h
 refine r_movD R R R (r_fa tb R R R R R R R (r_ldD (y := .arr 1 ((o.credit).map vI)) tb R R R R R R R R R (r_lenM tb R R R R R (r_movD R R R ?_))))
 refine r_neq R R R R ?_ ?_
 ·intro c3
  replace h := ifN c3 h
  refine r_pickF R R R R (r_movD R R R (r_skip R R R (r_skip R R R (r_skip R R R (r_skip R R R (r_skip R R R (r_pickT R R R R (eN (sw_condT R (qG (r_asgD R R R (eN (sw_ret (then_ret ?_))))))))))))))
  obtain rfl := sI h
  exact fin_0 (t := .d (.v (.int .i64 2))) R R R (.cons (.tmp 4) .nil)
 intro c3
 replace h := ifP c3 h
 refine r_pickF R R R R (r_movD R R R (r_fa tb R R R R R R R (r_ldD (y := .arr 1 ((o.last).map vI)) tb R R R R R R R R R (r_lenM tb R R R R R (r_movD R R R ?_)))))
 refine r_neq R R R R ?_ ?_
 ·intro c4
  replace h := ifN c4 h
  refine r_pickF R R R R (eN (sw_condT R (qG (r_asgD R R R (eN (sw_ret (then_ret ?_)))))))
  obtain rfl := sI h
  exact fin_0 (t := .d (.v (.int .i64 2))) R R R (.cons (.tmp 4) .nil)
 intro c4
 replace h := ifP c4 h
 refine r_pickF R R R R (eN (sw_condF R (sw_skip (then_norm (qG (r_fa tb R R R R R R R (r_ldD (y := .v (.int .i64 o.next)) tb R R R R R R R R R (r_fa tb R R R R R R R (r_ldD (y := .arr 3 ((t.windows).map WiWindow.d)) tb R R R R R R R R R (r_lenM tb R R R R R ?_))))))))))
 obtain ⟨rv2, hrv2, h⟩ := bnd h
 refine r_callB (r_in_pc hrv2) (.of (by kernel_rfl)) R R R R ?_ ?_
 ·intro c5
  replace h := ifP c5 h
  refine r_asgD R R R (eN (sw_seq (qG (r_asgD R R R (eN (sw_block ?_))))))
  obtain ⟨K3, hK3, h⟩ : ∃ K, K = _ ∧ r_CheckState_L1 F t o K F true 0 = some r := ⟨_, rfl, h⟩
  refine sw_loop (st0 := ⟨[(3, .ref 0 4 0 0), (4, .d (.v (.int .i64 0))), (8, .d (.v (.int .i64 (t.teams.length : Int)))), (9, .d (.v (.bool true))), (10, .d (.v (.int .i64 0)))], [some ⟨4, [.d (WiState.d o)]⟩]⟩) (κ := [1]) (fun m st => ∃ (x2 : Bool) (x3 : Int), r_CheckState_L1 F t o K3 m x2 x3 = some r ∧ st = ⟨[(3, .ref 0 4 0 0), (4, .d (.v (.int .i64 0))), (8, .d (.v (.int .i64 (t.teams.length : Int)))), (9, .d (.v (.bool x2))), (10, .d (.v (.int .i64 x3)))], [some ⟨4, [.d (WiState.d o)]⟩]⟩) (vwK R R (.cons R R .nil) (.cons R R (.cons R R (.cons R R (.cons R R (.cons R R .nil)))))) ⟨true, 0, h, R⟩ ?_
  clear h
  rintro m3 st ⟨x2, x3, h, rfl⟩
  cases m3 with
  | zero => cases (show (none : Option Int) = some r from h)
  | succ m3 =>
  rw [r_CheckState_L1] at h
  refine sw_seq (qG (r_movD R R R (r_movD R R R ?_)))
  refine r_lss R R R R ?_ ?_
  ·intro c6
   replace h := ifP c6 h
   refine eN (sw_condT R (sw_skip (then_norm (sw_seq (sw_block (sw_rg (r_movD R R R ?_)))))))
   with_reducible apply ev_lit
   ·intro c7
    replace h := ifP c7 h
    refine r_movD R R R (r_fa tb R R R R R R R (r_ldD (y := .arr 1 ((o.used).map vI)) tb R R R R R R R R R (r_movD R R R ?_)))
    obtain ⟨e, ie, h⟩ := bnd h
    refine r_ixE tb R R R R R R (ix0 ie) (ix1m ie) R R (r_ldE (y := .v (.int .i64 e)) tb R R (ix2 (g := vI) ie) R R R R ?_)
    obtain ⟨rv3, hrv3, h⟩ := bnd h
    refine r_callB (r_in_pc hrv3) (.of (by kernel_rfl)) R R R R ?_ ?_
    ·intro c8
     replace h := ifP c8 h
     refine r_pickT R R R R (r_movD R R R (r_fa tb R R R R R R R (r_ldD (y := .arr 1 ((o.credit).map vI)) tb R R R R R R R R R (r_movD R R R ?_))))
     obtain ⟨e2, ie2, h⟩ := bnd h
     refine r_ixE tb R R R R R R (ix0 ie2) (ix1m ie2) R R (r_ldE (y := .v (.int .i64 e2)) tb R R (ix2 (g := vI) ie2) R R R R ?_)
     obtain ⟨rv4, hrv4, h⟩ := bnd h
     refine r_callB (r_in_pc hrv4) (.of (by kernel_rfl)) R R R R ?_ ?_
     ·intro c9
      replace h := ifP c9 h
      refine r_pickT R R R R (r_movD R R R (r_fa tb R R R R R R R (r_ldD (y := .arr 1 ((o.last).map vI)) tb R R R R R R R R R (r_movD R R R ?_))))
      obtain ⟨e3, ie3, h⟩ := bnd h
      refine r_ixE tb R R R R R R (ix0 ie3) (ix1m ie3) R R (r_ldE (y := .v (.int .i64 e3)) tb R R (ix2 (g := vI) ie3) R R R R ?_)
      obtain ⟨rv5, hrv5, h⟩ := bnd h
      refine r_callB (r_in_pc hrv5) (.of (by kernel_rfl)) R R R R ?_ ?_
      ·intro c10
       replace h := ifP c10 h
       refine r_pickT R R R R (r_asgD R R R (ev_end (block_norm (then_norm (sw_rg (r_movD R R R (r_add R R R R (r_asgD R R R (eN ?_)))))))))
       exact ⟨m3, ⟨[(3, .ref 0 4 0 0), (4, .d (.v (.int .i64 0))), (8, .d (.v (.int .i64 (t.teams.length : Int)))), (9, .d (.v (.bool true))), (10, .d (.v (.int .i64 (W (x3 + 1)))))], [some ⟨4, [.d (WiState.d o)]⟩]⟩, [0], Nat.lt_succ_self _, (vwK R R (.cons R R .nil) (.cons R R (.cons R R (.cons R R (.cons R R (.cons R R .nil)))))), true, (W (x3 + 1)), h, R⟩
      intro c10
      replace h := ifF c10 h
      refine r_pickT R R R R (r_asgD R R R (ev_end (block_norm (then_norm (sw_rg (r_movD R R R (r_add R R R R (r_asgD R R R (eN ?_)))))))))
      exact ⟨m3, ⟨[(3, .ref 0 4 0 0), (4, .d (.v (.int .i64 0))), (8, .d (.v (.int .i64 (t.teams.length : Int)))), (9, .d (.v (.bool false))), (10, .d (.v (.int .i64 (W (x3 + 1)))))], [some ⟨4, [.d (WiState.d o)]⟩]⟩, [0], Nat.lt_succ_self _, (vwK R R (.cons R R .nil) (.cons R R (.cons R R (.cons R R (.cons R R (.cons R R .nil)))))), false, (W (x3 + 1)), h, R⟩
     intro c9
     replace h := ifF c9 h
     refine r_pickT R R R R (r_movD R R R (r_skip R R R (r_skip R R R (r_skip R R R (r_skip R R R (r_skip R R R (r_skip R R R (r_pickF R R R R (r_asgD R R R (ev_end (block_norm (then_norm (sw_rg (r_movD R R R (r_add R R R R (r_asgD R R R (eN ?_)))))))))))))))))
     exact ⟨m3, ⟨[(3, .ref 0 4 0 0), (4, .d (.v (.int .i64 0))), (8, .d (.v (.int .i64 (t.teams.length : Int)))), (9, .d (.v (.bool false))), (10, .d (.v (.int .i64 (W (x3 + 1)))))], [some ⟨4, [.d (WiState.d o)]⟩]⟩, [0], Nat.lt_succ_self _, (vwK R R (.cons R R .nil) (.cons R R (.cons R R (.cons R R (.cons R R (.cons R R .nil)))))), false, (W (x3 + 1)), h, R⟩
    intro c8
    replace h := ifF c8 h
    refine r_pickT R R R R (r_movD R R R (r_skip R R R (r_skip R R R (r_skip R R R (r_skip R R R (r_skip R R R (r_skip R R R (r_pickF R R R R (r_movD R R R (r_skip R R R (r_skip R R R (r_skip R R R (r_skip R R R (r_skip R R R (r_skip R R R (r_pickF R R R R (r_asgD R R R (ev_end (block_norm (then_norm (sw_rg (r_movD R R R (r_add R R R R (r_asgD R R R (eN ?_)))))))))))))))))))))))))
    exact ⟨m3, ⟨[(3, .ref 0 4 0 0), (4, .d (.v (.int .i64 0))), (8, .d (.v (.int .i64 (t.teams.length : Int)))), (9, .d (.v (.bool false))), (10, .d (.v (.int .i64 (W (x3 + 1)))))], [some ⟨4, [.d (WiState.d o)]⟩]⟩, [0], Nat.lt_succ_self _, (vwK R R (.cons R R .nil) (.cons R R (.cons R R (.cons R R (.cons R R (.cons R R .nil)))))), false, (W (x3 + 1)), h, R⟩
   intro c7
   replace h := ifF c7 h
   refine r_movD R R R (r_skip R R R (r_skip R R R (r_skip R R R (r_skip R R R (r_skip R R R (r_skip R R R (r_pickF R R R R (r_movD R R R (r_skip R R R (r_skip R R R (r_skip R R R (r_skip R R R (r_skip R R R (r_skip R R R (r_pickF R R R R (r_movD R R R (r_skip R R R (r_skip R R R (r_skip R R R (r_skip R R R (r_skip R R R (r_skip R R R (r_pickF R R R R (r_asgD R R R (ev_end (block_norm (then_norm (sw_rg ?_))))))))))))))))))))))))))))
   refine r_movD R R R (r_add R R R R (r_asgD R R R (eN ?_)))
   exact ⟨m3, ⟨[(3, .ref 0 4 0 0), (4, .d (.v (.int .i64 0))), (8, .d (.v (.int .i64 (t.teams.length : Int)))), (9, .d (.v (.bool false))), (10, .d (.v (.int .i64 (W (x3 + 1)))))], [some ⟨4, [.d (WiState.d o)]⟩]⟩, [0], Nat.lt_succ_self _, (vwK R R (.cons R R .nil) (.cons R R (.cons R R (.cons R R (.cons R R (.cons R R .nil)))))), false, (W (x3 + 1)), h, R⟩
  intro c6
  replace h := ifN (Int.not_lt.2 c6) h
  refine eN (sw_condF R (sw_exit (then_exit (then_exit ?_))))
  subst hK3
  refine block_exit (then_norm (sw_seq (qG (r_movD R R R ?_))))
  with_reducible apply ev_lit
  ·intro c11
   replace h := ifP c11 h
   refine r_notT R R R (eN (sw_condF R (sw_skip (then_norm (qG (r_asgD R R R (eN (sw_ret ?_))))))))
   obtain rfl := sI h
   exact fin_0 (t := .d (.v (.int .i64 0))) R R R (.cons (.tmp 4) .nil)
  intro c11
  replace h := ifF c11 h
  refine r_notF R R R (eN (sw_condT R (qG (r_asgD R R R (eN (sw_ret (then_ret ?_)))))))
  obtain rfl := sI h
  exact fin_0 (t := .d (.v (.int .i64 7))) R R R (.cons (.tmp 4) .nil)
 intro c5
 replace h := ifF c5 h
 refine r_asgD R R R (eN (sw_seq (qG (r_asgD R R R (eN (sw_block ?_))))))
 obtain ⟨K4, hK4, h⟩ : ∃ K, K = _ ∧ r_CheckState_L2 F t o K F false 0 = some r := ⟨_, rfl, h⟩
 refine sw_loop (st0 := ⟨[(3, .ref 0 4 0 0), (4, .d (.v (.int .i64 0))), (8, .d (.v (.int .i64 (t.teams.length : Int)))), (9, .d (.v (.bool false))), (10, .d (.v (.int .i64 0)))], [some ⟨4, [.d (WiState.d o)]⟩]⟩) (κ := [1]) (fun m st => ∃ (x4 : Bool) (x5 : Int), r_CheckState_L2 F t o K4 m x4 x5 = some r ∧ st = ⟨[(3, .ref 0 4 0 0), (4, .d (.v (.int .i64 0))), (8, .d (.v (.int .i64 (t.teams.length : Int)))), (9, .d (.v (.bool x4))), (10, .d (.v (.int .i64 x5)))], [some ⟨4, [.d (WiState.d o)]⟩]⟩) (vwK R R (.cons R R .nil) (.cons R R (.cons R R (.cons R R (.cons R R (.cons R R .nil)))))) ⟨false, 0, h, R⟩ ?_
 clear h
 rintro m4 st ⟨x4, x5, h, rfl⟩
 cases m4 with
 | zero => cases (show (none : Option Int) = some r from h)
 | succ m4 =>
 rw [r_CheckState_L2] at h
 refine sw_seq (qG (r_movD R R R (r_movD R R R ?_)))
 refine r_lss R R R R ?_ ?_
 ·intro c12
  replace h := ifP c12 h
  refine eN (sw_condT R (sw_skip (then_norm (sw_seq (sw_block (sw_rg (r_movD R R R ?_)))))))
  with_reducible apply ev_lit
  ·intro c13
   replace h := ifP c13 h
   refine r_movD R R R (r_fa tb R R R R R R R (r_ldD (y := .arr 1 ((o.used).map vI)) tb R R R R R R R R R (r_movD R R R ?_)))
   obtain ⟨e4, ie4, h⟩ := bnd h
   refine r_ixE tb R R R R R R (ix0 ie4) (ix1m ie4) R R (r_ldE (y := .v (.int .i64 e4)) tb R R (ix2 (g := vI) ie4) R R R R ?_)
   obtain ⟨rv6, hrv6, h⟩ := bnd h
   refine r_callB (r_in_pc hrv6) (.of (by kernel_rfl)) R R R R ?_ ?_
   ·intro c14
    replace h := ifP c14 h
    refine r_pickT R R R R (r_movD R R R (r_fa tb R R R R R R R (r_ldD (y := .arr 1 ((o.credit).map vI)) tb R R R R R R R R R (r_movD R R R ?_))))
    obtain ⟨e5, ie5, h⟩ := bnd h
    refine r_ixE tb R R R R R R (ix0 ie5) (ix1m ie5) R R (r_ldE (y := .v (.int .i64 e5)) tb R R (ix2 (g := vI) ie5) R R R R ?_)
    obtain ⟨rv7, hrv7, h⟩ := bnd h
    refine r_callB (r_in_pc hrv7) (.of (by kernel_rfl)) R R R R ?_ ?_
    ·intro c15
     replace h := ifP c15 h
     refine r_pickT R R R R (r_movD R R R (r_fa tb R R R R R R R (r_ldD (y := .arr 1 ((o.last).map vI)) tb R R R R R R R R R (r_movD R R R ?_))))
     obtain ⟨e6, ie6, h⟩ := bnd h
     refine r_ixE tb R R R R R R (ix0 ie6) (ix1m ie6) R R (r_ldE (y := .v (.int .i64 e6)) tb R R (ix2 (g := vI) ie6) R R R R ?_)
     obtain ⟨rv8, hrv8, h⟩ := bnd h
     refine r_callB (r_in_pc hrv8) (.of (by kernel_rfl)) R R R R ?_ ?_
     ·intro c16
      replace h := ifP c16 h
      refine r_pickT R R R R (r_asgD R R R (ev_end (block_norm (then_norm (sw_rg (r_movD R R R (r_add R R R R (r_asgD R R R (eN ?_)))))))))
      exact ⟨m4, ⟨[(3, .ref 0 4 0 0), (4, .d (.v (.int .i64 0))), (8, .d (.v (.int .i64 (t.teams.length : Int)))), (9, .d (.v (.bool true))), (10, .d (.v (.int .i64 (W (x5 + 1)))))], [some ⟨4, [.d (WiState.d o)]⟩]⟩, [0], Nat.lt_succ_self _, (vwK R R (.cons R R .nil) (.cons R R (.cons R R (.cons R R (.cons R R (.cons R R .nil)))))), true, (W (x5 + 1)), h, R⟩
     intro c16
     replace h := ifF c16 h
     refine r_pickT R R R R (r_asgD R R R (ev_end (block_norm (then_norm (sw_rg (r_movD R R R (r_add R R R R (r_asgD R R R (eN ?_)))))))))
     exact ⟨m4, ⟨[(3, .ref 0 4 0 0), (4, .d (.v (.int .i64 0))), (8, .d (.v (.int .i64 (t.teams.length : Int)))), (9, .d (.v (.bool false))), (10, .d (.v (.int .i64 (W (x5 + 1)))))], [some ⟨4, [.d (WiState.d o)]⟩]⟩, [0], Nat.lt_succ_self _, (vwK R R (.cons R R .nil) (.cons R R (.cons R R (.cons R R (.cons R R (.cons R R .nil)))))), false, (W (x5 + 1)), h, R⟩
    intro c15
    replace h := ifF c15 h
    refine r_pickT R R R R (r_movD R R R (r_skip R R R (r_skip R R R (r_skip R R R (r_skip R R R (r_skip R R R (r_skip R R R (r_pickF R R R R (r_asgD R R R (ev_end (block_norm (then_norm (sw_rg (r_movD R R R (r_add R R R R (r_asgD R R R (eN ?_)))))))))))))))))
    exact ⟨m4, ⟨[(3, .ref 0 4 0 0), (4, .d (.v (.int .i64 0))), (8, .d (.v (.int .i64 (t.teams.length : Int)))), (9, .d (.v (.bool false))), (10, .d (.v (.int .i64 (W (x5 + 1)))))], [some ⟨4, [.d (WiState.d o)]⟩]⟩, [0], Nat.lt_succ_self _, (vwK R R (.cons R R .nil) (.cons R R (.cons R R (.cons R R (.cons R R (.cons R R .nil)))))), false, (W (x5 + 1)), h, R⟩
   intro c14
   replace h := ifF c14 h
   refine r_pickT R R R R (r_movD R R R (r_skip R R R (r_skip R R R (r_skip R R R (r_skip R R R (r_skip R R R (r_skip R R R (r_pickF R R R R (r_movD R R R (r_skip R R R (r_skip R R R (r_skip R R R (r_skip R R R (r_skip R R R (r_skip R R R (r_pickF R R R R (r_asgD R R R (ev_end (block_norm (then_norm (sw_rg (r_movD R R R (r_add R R R R (r_asgD R R R (eN ?_)))))))))))))))))))))))))
   exact ⟨m4, ⟨[(3, .ref 0 4 0 0), (4, .d (.v (.int .i64 0))), (8, .d (.v (.int .i64 (t.teams.length : Int)))), (9, .d (.v (.bool false))), (10, .d (.v (.int .i64 (W (x5 + 1)))))], [some ⟨4, [.d (WiState.d o)]⟩]⟩, [0], Nat.lt_succ_self _, (vwK R R (.cons R R .nil) (.cons R R (.cons R R (.cons R R (.cons R R (.cons R R .nil)))))), false, (W (x5 + 1)), h, R⟩
  intro c13
  replace h := ifF c13 h
  refine r_movD R R R (r_skip R R R (r_skip R R R (r_skip R R R (r_skip R R R (r_skip R R R (r_skip R R R (r_pickF R R R R (r_movD R R R (r_skip R R R (r_skip R R R (r_skip R R R (r_skip R R R (r_skip R R R (r_skip R R R (r_pickF R R R R (r_movD R R R (r_skip R R R (r_skip R R R (r_skip R R R (r_skip R R R (r_skip R R R (r_skip R R R (r_pickF R R R R (r_asgD R R R (ev_end (block_norm (then_norm (sw_rg ?_))))))))))))))))))))))))))))
  refine r_movD R R R (r_add R R R R (r_asgD R R R (eN ?_)))
  exact ⟨m4, ⟨[(3, .ref 0 4 0 0), (4, .d (.v (.int .i64 0))), (8, .d (.v (.int .i64 (t.teams.length : Int)))), (9, .d (.v (.bool false))), (10, .d (.v (.int .i64 (W (x5 + 1)))))], [some ⟨4, [.d (WiState.d o)]⟩]⟩, [0], Nat.lt_succ_self _, (vwK R R (.cons R R .nil) (.cons R R (.cons R R (.cons R R (.cons R R (.cons R R .nil)))))), false, (W (x5 + 1)), h, R⟩
 intro c12
 replace h := ifN (Int.not_lt.2 c12) h
 refine eN (sw_condF R (sw_exit (then_exit (then_exit ?_))))
 subst hK4
 refine block_exit (then_norm (sw_seq (qG (r_movD R R R ?_))))
 with_reducible apply ev_lit
 ·intro c17
  replace h := ifP c17 h
  refine r_notT R R R (eN (sw_condF R (sw_skip (then_norm (qG (r_asgD R R R (eN (sw_ret ?_))))))))
  obtain rfl := sI h
  exact fin_0 (t := .d (.v (.int .i64 0))) R R R (.cons (.tmp 4) .nil)
 intro c17
 replace h := ifF c17 h
 refine r_notF R R R (eN (sw_condT R (qG (r_asgD R R R (eN (sw_ret (then_ret ?_)))))))
 obtain rfl := sI h
 exact fin_0 (t := .d (.v (.int .i64 7))) R R R (.cons (.tmp 4) .nil)
/-- hangfireref11.asked -/
def r_asked (F : Nat) (p : WiPlan) (s : WiState) (sky : WiSky) : Option Int := Option.bind (r_CheckState F p s) fun rv => if rv = 0 then (if s.next = (p.windows.length : Int) then (some 9) else (if rv = 0 then (Option.bind (r_kinds F sky.kinds) fun rv2 => if rv2 = true then (Option.bind (r_in F sky.wind 0 1000) fun rv3 => if rv3 = true then (some rv) else (some 2)) else (some 2)) else (some rv))) else (if rv = 0 then (Option.bind (r_kinds F sky.kinds) fun rv4 => if rv4 = true then (Option.bind (r_in F sky.wind 0 1000) fun rv5 => if rv5 = true then (some rv) else (some 2)) else (some 2)) else (some rv))
theorem r_asked_pc {F : Nat} {p : WiPlan} {s : WiState} {sky : WiSky} {r : Int} (h : r_asked F p s sky = some r) : PC Try.prog 68 [WiPlan.d p, WiState.d s, WiSky.d sky] (.v (.int .i64 r)) := by
 rw [r_asked] at h
 refine SC.of_sw Try.func68 R R R ?_
 simp only [List.map_cons, List.map_nil, argS, Nat.zero_add, Nat.reduceAdd]
 refine qG (r_box R R R R R R R (r_box R R R R R R R (r_box R R R R R R R (r_asgD R R R (eN (qG (r_ldD (y := WiPlan.d p) tb R R R R R R R R R (r_ldD (y := WiState.d s) tb R R R R R R R R R ?_))))))))
 obtain ⟨rv, hrv, h⟩ := bnd h
 refine r_call (r_CheckState_pc hrv) (.of (by kernel_rfl)) R R R R (r_asgD R R R (eN (sw_seq (qG (r_movD R R R ?_)))))
 refine r_eql R R R R ?_ ?_
 ·intro c
  replace h := ifP c h
  refine r_movD R R R (r_fa tb R R R R R R R (r_ldD (y := .v (.int .i64 s.next)) tb R R R R R R R R R (r_fa tb R R R R R R R (r_ldD (y := .arr 3 ((p.windows).map WiWindow.d)) tb R R R R R R R R R (r_lenM tb R R R R R ?_)))))
  refine r_eql R R R R ?_ ?_
  ·intro c2
   replace h := ifP c2 h
   refine r_pickT R R R R (eN (sw_condT R (sw_rg (r_asgD R R R (eN (sw_seq (qG (r_movD R R R ?_))))))))
   refine r_eql R R R R ?_ ?_
   ·intro c3; exact absurd c3 (by decide)
   intro _
   refine r_movD R R R (r_skip R R R (r_skip R R R (r_skip R R R (r_skip R R R (r_skip R R R (r_skip R R R (r_skip R R R (r_skip R R R (r_skip R R R (r_skip R R R (r_pickF R R R R (eN (sw_condF R (sw_skip (then_norm (qG (r_movD R R R (r_asgD R R R (eN (sw_ret ?_))))))))))))))))))))
   obtain rfl := sI h
   exact fin_0 (t := .d (.v (.int .i64 9))) R R R (.cons (.tmp 6) .nil)
  intro c2
  replace h := ifN c2 h
  refine r_pickT R R R R (eN (sw_condF R (sw_skip (then_norm (sw_seq (qG (r_movD R R R ?_)))))))
  refine r_eql R R R R ?_ ?_
  ·intro c4
   replace h := ifP c4 h
   refine r_movD R R R (r_fa tb R R R R R R R (r_ldD (y := .arr 1 ((sky.kinds).map vI)) tb R R R R R R R R R ?_))
   obtain ⟨rv2, hrv2, h⟩ := bnd h
   refine r_callB (r_kinds_pc hrv2) (.of (by kernel_rfl)) R R R R ?_ ?_
   ·intro c5
    replace h := ifP c5 h
    refine r_notT R R R (r_movD R R R (r_fa tb R R R R R R R (r_ldD (y := .v (.int .i64 sky.wind)) tb R R R R R R R R R ?_)))
    obtain ⟨rv3, hrv3, h⟩ := bnd h
    refine r_callB (r_in_pc hrv3) (.of (by kernel_rfl)) R R R R ?_ ?_
    ·intro c6
     replace h := ifP c6 h
     refine r_notT R R R (r_pickF R R R R (r_pickT R R R R (eN (sw_condF R (sw_skip (then_norm (qG (r_movD R R R (r_asgD R R R (eN (sw_ret ?_)))))))))))
     obtain rfl := sI h
     exact fin_0 (t := .d (.v (.int .i64 rv))) R R R (.cons (.tmp 6) .nil)
    intro c6
    replace h := ifF c6 h
    refine r_notF R R R (r_pickF R R R R (r_pickT R R R R (eN (sw_condT R (sw_rg (r_asgD R R R (eN (qG (r_movD R R R (r_asgD R R R (eN (sw_ret ?_))))))))))))
    obtain rfl := sI h
    exact fin_0 (t := .d (.v (.int .i64 2))) R R R (.cons (.tmp 6) .nil)
   intro c5
   replace h := ifF c5 h
   refine r_notF R R R (r_movD R R R (r_skip R R R (r_skip R R R (r_skip R R R (r_skip R R R (r_pickT R R R R (r_pickT R R R R (eN (sw_condT R (sw_rg (r_asgD R R R (eN (qG (r_movD R R R (r_asgD R R R (eN (sw_ret ?_)))))))))))))))))
   obtain rfl := sI h
   exact fin_0 (t := .d (.v (.int .i64 2))) R R R (.cons (.tmp 6) .nil)
  intro c4
  replace h := ifN c4 h
  refine r_movD R R R (r_skip R R R (r_skip R R R (r_skip R R R (r_skip R R R (r_skip R R R (r_skip R R R (r_skip R R R (r_skip R R R (r_skip R R R (r_skip R R R (r_pickF R R R R (eN (sw_condF R (sw_skip (then_norm (qG (r_movD R R R (r_asgD R R R (eN (sw_ret ?_))))))))))))))))))))
  obtain rfl := sI h
  exact fin_0 (t := .d (.v (.int .i64 rv))) R R R (.cons (.tmp 6) .nil)
 intro c
 replace h := ifN c h
 refine r_movD R R R (r_skip R R R (r_skip R R R (r_skip R R R (r_skip R R R (r_skip R R R (r_skip R R R (r_pickF R R R R (eN (sw_condF R (sw_skip (then_norm (sw_seq (qG (r_movD R R R ?_))))))))))))))
 refine r_eql R R R R ?_ ?_
 ·intro c7
  replace h := ifP c7 h
  refine r_movD R R R (r_fa tb R R R R R R R (r_ldD (y := .arr 1 ((sky.kinds).map vI)) tb R R R R R R R R R ?_))
  obtain ⟨rv4, hrv4, h⟩ := bnd h
  refine r_callB (r_kinds_pc hrv4) (.of (by kernel_rfl)) R R R R ?_ ?_
  ·intro c8
   replace h := ifP c8 h
   refine r_notT R R R (r_movD R R R (r_fa tb R R R R R R R (r_ldD (y := .v (.int .i64 sky.wind)) tb R R R R R R R R R ?_)))
   obtain ⟨rv5, hrv5, h⟩ := bnd h
   refine r_callB (r_in_pc hrv5) (.of (by kernel_rfl)) R R R R ?_ ?_
   ·intro c9
    replace h := ifP c9 h
    refine r_notT R R R (r_pickF R R R R (r_pickT R R R R (eN (sw_condF R (sw_skip (then_norm (qG (r_movD R R R (r_asgD R R R (eN (sw_ret ?_)))))))))))
    obtain rfl := sI h
    exact fin_0 (t := .d (.v (.int .i64 rv))) R R R (.cons (.tmp 6) .nil)
   intro c9
   replace h := ifF c9 h
   refine r_notF R R R (r_pickF R R R R (r_pickT R R R R (eN (sw_condT R (sw_rg (r_asgD R R R (eN (qG (r_movD R R R (r_asgD R R R (eN (sw_ret ?_))))))))))))
   obtain rfl := sI h
   exact fin_0 (t := .d (.v (.int .i64 2))) R R R (.cons (.tmp 6) .nil)
  intro c8
  replace h := ifF c8 h
  refine r_notF R R R (r_movD R R R (r_skip R R R (r_skip R R R (r_skip R R R (r_skip R R R (r_pickT R R R R (r_pickT R R R R (eN (sw_condT R (sw_rg (r_asgD R R R (eN (qG (r_movD R R R (r_asgD R R R (eN (sw_ret ?_)))))))))))))))))
  obtain rfl := sI h
  exact fin_0 (t := .d (.v (.int .i64 2))) R R R (.cons (.tmp 6) .nil)
 intro c7
 replace h := ifN c7 h
 refine r_movD R R R (r_skip R R R (r_skip R R R (r_skip R R R (r_skip R R R (r_skip R R R (r_skip R R R (r_skip R R R (r_skip R R R (r_skip R R R (r_skip R R R (r_pickF R R R R (eN (sw_condF R (sw_skip (then_norm (qG (r_movD R R R (r_asgD R R R (eN (sw_ret ?_))))))))))))))))))))
 obtain rfl := sI h
 exact fin_0 (t := .d (.v (.int .i64 rv))) R R R (.cons (.tmp 6) .nil)
/-- hangfireref11.rights -/
def r_rights_L1 (F : Nat) (t : WiPlan) (o : WiState) (K : (List Int) → Int → Option (List Int)) : Nat → (List Int) → Int → Option (List Int)
 | 0, _, _ => none
 | n + 1, lv2, x2 => if 0 < x2 then (Option.bind (ixO lv2 x2) fun e => Option.bind (ixO lv2 (W (x2 - 1))) fun e2 => Option.bind (r_first F t o e e2) fun rv5 => if rv5 = true then (Option.bind (setO lv2 x2 e2) fun lv3 => Option.bind (ixO lv3 (W (x2 - 1))) fun e3 => Option.bind (setO lv3 (W (x2 - 1)) e) fun lv4 => r_rights_L1 F t o K n lv4 (W (x2 - 1))) else (K lv2 x2)) else (K lv2 x2)
def r_rights_L2 (F : Nat) (t : WiPlan) (o : WiState) (a : WiSky) (rv : Int) (rv2 : (List Int)) (K : (List Int) → Int → Option (List Int)) : Nat → (List Int) → Int → Option (List Int)
 | 0, _, _ => none
 | n + 1, lv, x => if x < (t.teams.length : Int) then (Option.bind (r_why F t o a x rv) fun rv3 => if rv3 = 0 then (Option.bind (r_has F rv2 x) fun rv4 => if rv4 = true then (r_rights_L2 F t o a rv rv2 K n lv (W (x + 1))) else (Option.bind (appO lv [x]) fun q => r_rights_L1 F t o (fun (lv2 : (List Int)) (x2 : Int) => r_rights_L2 F t o a rv rv2 K n lv2 (W (x + 1))) F q (W ((q.length : Int) - 1)))) else (r_rights_L2 F t o a rv rv2 K n lv (W (x + 1)))) else (K lv x)
def r_rights (F : Nat) (t : WiPlan) (o : WiState) (a : WiSky) (rv : Int) (rv2 : (List Int)) : Option (List Int) := r_rights_L2 F t o a rv rv2 (fun (lv : (List Int)) (x : Int) => some lv) F ([] : List Int) 0
theorem r_rights_scr {F : Nat} {t : WiPlan} {o : WiState} {a : WiSky} {rv : Int} {rv2 : (List Int)} {r : (List Int)} (h : r_rights F t o a rv rv2 = some r) : SCR Try.prog 70 (List.map T.d [WiPlan.d t, WiState.d o, WiSky.d a, .v (.int .i64 rv), .arr 1 ((rv2).map vI)]) [] (.row 0 1 0 (r).length) (List.map some [(lvI r)]) := by
 rw [r_rights] at h
 refine SC.of_sw Try.func70 R R R ?_
 simp only [List.map_cons, List.map_nil, argS, Nat.zero_add, Nat.reduceAdd]
 refine qG (r_box R R R R R R R (r_box R R R R R R R (r_box R R R R R R R (r_asgD R R R (eN (qG (r_asgD R R R (eN (sw_seq (qG (r_asgD R R R (eN (sw_block ?_)))))))))))))
 refine SW.own (ts' := [(3, .d (.v (.int .i64 rv))), (4, .d (.arr 1 ((rv2).map vI))), (5, .ref 0 4 0 0), (6, .ref 1 4 0 0), (7, .ref 2 2 0 0), (10, .d (.v (.slice none 0 0))), (11, .row 3 1 0 (([] : List Int)).length), (12, .d (.v (.int .i64 0)))]) (L' := [some ⟨4, [.d (WiPlan.d t)]⟩, some ⟨4, [.d (WiState.d o)]⟩, some ⟨2, [.d (WiSky.d a)]⟩]) 1 R R (.cons (.same _) (.cons (.same _) (.cons (.same _) (.cons (.same _) (.cons (.same _) (.cons (.same _) (.cons .nil (.cons (.same _) .nil)))))))) (.same (.same (.same .nil))) ?_
 simp only [List.cons_append, List.nil_append]
 obtain ⟨K1, hK1, h⟩ : ∃ K, K = _ ∧ r_rights_L2 F t o a rv rv2 K F ([] : List Int) 0 = some r := ⟨_, rfl, h⟩
 refine sw_loop (st0 := ⟨[(3, .d (.v (.int .i64 rv))), (4, .d (.arr 1 ((rv2).map vI))), (5, .ref 0 4 0 0), (6, .ref 1 4 0 0), (7, .ref 2 2 0 0), (10, .d (.v (.slice none 0 0))), (11, .row 3 1 0 (([] : List Int)).length), (12, .d (.v (.int .i64 0)))], [some ⟨4, [.d (WiPlan.d t)]⟩, some ⟨4, [.d (WiState.d o)]⟩, some ⟨2, [.d (WiSky.d a)]⟩, some (lvI ([] : List Int))]⟩) (κ := [0, 1, 2, 3]) (fun m st => ∃ (lv : (List Int)) (x : Int), r_rights_L2 F t o a rv rv2 K1 m lv x = some r ∧ st = ⟨[(3, .d (.v (.int .i64 rv))), (4, .d (.arr 1 ((rv2).map vI))), (5, .ref 0 4 0 0), (6, .ref 1 4 0 0), (7, .ref 2 2 0 0), (10, .d (.v (.slice none 0 0))), (11, .row 3 1 0 (lv).length), (12, .d (.v (.int .i64 x)))], [some ⟨4, [.d (WiPlan.d t)]⟩, some ⟨4, [.d (WiState.d o)]⟩, some ⟨2, [.d (WiSky.d a)]⟩, some (lvI lv)]⟩) (vwK R R (.cons R R (.cons R R (.cons R R (.row R .nil)))) (.cons R R (.cons R R (.cons R R (.cons R R (.cons R R (.cons R R (.cons R R (.cons R R .nil))))))))) ⟨([] : List Int), 0, h, R⟩ ?_
 clear h
 rintro m1 st ⟨lv, x, h, rfl⟩
 cases m1 with
 | zero => cases (show (none : Option (List Int)) = some r from h)
 | succ m1 =>
 rw [r_rights_L2] at h
 refine sw_seq (qG (r_movD R R R (r_fa tb R R R R R R R (r_ldD (y := .arr 9 ((t.teams).map WiTeam.d)) tb R R R R R R R R R (r_lenM tb R R R R R ?_)))))
 refine r_lss R R R R ?_ ?_
 ·intro c
  replace h := ifP c h
  refine eN (sw_condT R (sw_skip (then_norm (sw_seq (sw_block (sw_seq (qG (r_ldD (y := WiPlan.d t) tb R R R R R R R R R (r_ldD (y := WiState.d o) tb R R R R R R R R R (r_ldD (y := WiSky.d a) tb R R R R R R R R R (r_movD R R R (r_movD R R R ?_))))))))))))
  obtain ⟨rv3, hrv3, h⟩ := bnd h
  refine r_call (r_why_pc hrv3) (.of (by kernel_rfl)) R R R R ?_
  refine r_neq R R R R ?_ ?_
  ·intro c2
   replace h := ifN c2 h
   refine r_movD R R R (r_skip R R R (r_skip R R R (r_skip R R R (r_pickT R R R R (eN (sw_condT R (sw_exit (then_exit (block_exit (then_norm (sw_rg (r_movD R R R (r_add R R R R (r_asgD R R R (eN ?_)))))))))))))))
   exact ⟨m1, ⟨[(3, .d (.v (.int .i64 rv))), (4, .d (.arr 1 ((rv2).map vI))), (5, .ref 0 4 0 0), (6, .ref 1 4 0 0), (7, .ref 2 2 0 0), (10, .d (.v (.slice none 0 0))), (11, .row 3 1 0 (lv).length), (12, .d (.v (.int .i64 (W (x + 1)))))], [some ⟨4, [.d (WiPlan.d t)]⟩, some ⟨4, [.d (WiState.d o)]⟩, some ⟨2, [.d (WiSky.d a)]⟩, some (lvI lv)]⟩, [0, 1, 2, 3], Nat.lt_succ_self _, (vwK R R (.cons R R (.cons R R (.cons R R (.row R .nil)))) (.cons R R (.cons R R (.cons R R (.cons R R (.cons R R (.cons R R (.cons R R (.cons R R .nil))))))))), lv, (W (x + 1)), h, R⟩
  intro c2
  replace h := ifP c2 h
  refine r_movD R R R (r_movD R R R (r_movD R R R ?_))
  obtain ⟨rv4, hrv4, h⟩ := bnd h
  refine r_callB (r_has_pc hrv4) (.of (by kernel_rfl)) R R R R ?_ ?_
  ·intro c3
   replace h := ifP c3 h
   refine r_pickF R R R R (eN (sw_condT R (sw_exit (then_exit (block_exit (then_norm (sw_rg (r_movD R R R (r_add R R R R (r_asgD R R R (eN ?_)))))))))))
   exact ⟨m1, ⟨[(3, .d (.v (.int .i64 rv))), (4, .d (.arr 1 ((rv2).map vI))), (5, .ref 0 4 0 0), (6, .ref 1 4 0 0), (7, .ref 2 2 0 0), (10, .d (.v (.slice none 0 0))), (11, .row 3 1 0 (lv).length), (12, .d (.v (.int .i64 (W (x + 1)))))], [some ⟨4, [.d (WiPlan.d t)]⟩, some ⟨4, [.d (WiState.d o)]⟩, some ⟨2, [.d (WiSky.d a)]⟩, some (lvI lv)]⟩, [0, 1, 2, 3], Nat.lt_succ_self _, (vwK R R (.cons R R (.cons R R (.cons R R (.row R .nil)))) (.cons R R (.cons R R (.cons R R (.cons R R (.cons R R (.cons R R (.cons R R (.cons R R .nil))))))))), lv, (W (x + 1)), h, R⟩
  intro c3
  replace h := ifF c3 h
  refine r_pickF R R R R (eN (sw_condF R (sw_skip (then_norm (qG (r_movW R R R (r_movD R R R (r_bslice tb R R R R R R R R R R R R R ?_))))))))
  obtain ⟨q, iq, h⟩ := bnd h
  refine r_apM (g := vI) (w := lv) (v := [x]) ([some ⟨4, [.d (WiPlan.d t)]⟩, some ⟨4, [.d (WiState.d o)]⟩, some ⟨2, [.d (WiSky.d a)]⟩, none, some (lvI [x])]) tb R R R R R R R R R R R iq R R R R R (r_asgW R R R (eN (qG (r_movW R R R (r_lenR tb R R R R R (r_sub R R R R (r_asgD R R R (eN (sw_block ?_)))))))))
  obtain ⟨K2, hK2, h⟩ : ∃ K, K = _ ∧ r_rights_L1 F t o K F q (W ((q.length : Int) - 1)) = some r := ⟨_, rfl, h⟩
  refine sw_loop (st0 := ⟨[(3, .d (.v (.int .i64 rv))), (4, .d (.arr 1 ((rv2).map vI))), (5, .ref 0 4 0 0), (6, .ref 1 4 0 0), (7, .ref 2 2 0 0), (10, .d (.v (.slice none 0 0))), (11, .row 3 1 0 (q).length), (12, .d (.v (.int .i64 x))), (13, .d (.v (.int .i64 (W ((q.length : Int) - 1)))))], [some ⟨4, [.d (WiPlan.d t)]⟩, some ⟨4, [.d (WiState.d o)]⟩, some ⟨2, [.d (WiSky.d a)]⟩, some (lvI q)]⟩) (κ := [0, 1, 2, 5]) (fun m st => ∃ (lv2 : (List Int)) (x2 : Int), r_rights_L1 F t o K2 m lv2 x2 = some r ∧ st = ⟨[(3, .d (.v (.int .i64 rv))), (4, .d (.arr 1 ((rv2).map vI))), (5, .ref 0 4 0 0), (6, .ref 1 4 0 0), (7, .ref 2 2 0 0), (10, .d (.v (.slice none 0 0))), (11, .row 3 1 0 (lv2).length), (12, .d (.v (.int .i64 x))), (13, .d (.v (.int .i64 x2)))], [some ⟨4, [.d (WiPlan.d t)]⟩, some ⟨4, [.d (WiState.d o)]⟩, some ⟨2, [.d (WiSky.d a)]⟩, some (lvI lv2)]⟩) (vwK R R (.cons R R (.cons R R (.cons R R (.row R .nil)))) (.cons R R (.cons R R (.cons R R (.cons R R (.cons R R (.cons R R (.cons R R (.cons R R (.cons R R .nil)))))))))) ⟨q, (W ((q.length : Int) - 1)), h, R⟩ ?_
  clear h
  rintro m2 st ⟨lv2, x2, h, rfl⟩
  cases m2 with
  | zero => cases (show (none : Option (List Int)) = some r from h)
  | succ m2 =>
  rw [r_rights_L1] at h
  refine sw_seq (sw_seq (sw_dr (by kernel_rfl) (r_movD R R R ?_)))
  refine r_gtr R R R R ?_ ?_
  ·intro c4
   replace h := ifP c4 h
   refine r_movD R R R (r_ldD (y := WiPlan.d t) tb R R R R R R R R R (r_ldD (y := WiState.d o) tb R R R R R R R R R (r_movW R R R (r_movD R R R ?_))))
   obtain ⟨e, ie, h⟩ := bnd h
   refine r_ixI tb R R R R R R (ix0 ie) (ix1 ie) R R ?_
   refine r_ldD (y := .v (.int .i64 e)) tb R R R R (ix2 (g := fun a => T.d (vI a)) ie) R R R R ?_
   refine r_movW R R R (r_movD R R R (r_sub R R R R ?_))
   obtain ⟨e2, ie2, h⟩ := bnd h
   refine r_ixI tb R R R R R R (ix0 ie2) (ix1 ie2) R R ?_
   refine r_ldD (y := .v (.int .i64 e2)) tb R R R R (ix2 (g := fun a => T.d (vI a)) ie2) R R R R ?_
   obtain ⟨rv5, hrv5, h⟩ := bnd h
   refine r_callB (r_first_pc hrv5) (.of (by kernel_rfl)) R R R R ?_ ?_
   ·intro c5
    replace h := ifP c5 h
    refine r_pickT R R R R (ev_endD (by kernel_rfl) (then_norm (sw_condT R (sw_skip (then_norm (sw_seq (sw_block (sw_dr (by kernel_rfl) (r_movW R R R (r_movD R R R (r_movW R R R (r_movD R R R (r_sub R R R R (r_movW R R R (r_movD R R R (r_sub R R R R (r_ixI tb R R R R R R (ix0 ie2) (ix1 ie2) R R ?_)))))))))))))))))
    refine r_ldD (y := .v (.int .i64 e2)) tb R R R R (ix2 (g := fun a => T.d (vI a)) ie2) R R R R ?_
    refine r_movW R R R (r_movD R R R (r_ixI tb R R R R R R (ix0 ie) (ix1 ie) R R ?_))
    refine r_ldD (y := .v (.int .i64 e)) tb R R R R (ix2 (g := fun a => T.d (vI a)) ie) R R R R ?_
    refine r_ixI tb R R R R R R (ix0 ie) (ix1 ie) R R ?_
    obtain ⟨lv3, ilv3, h⟩ := bnd h
    refine r_stQ (a' := e2) tb R R R R ie R R R R ilv3 R R ?_
    dsimp only [List.set_cons_zero, List.set_cons_succ, WiState_T1, WiState_T2, WiState_T3, Table_T1]
    first | rw [set_len ilv3] | skip
    obtain ⟨e3, ie3, h⟩ := bnd h
    refine r_ixI tb R R R R R R (ix0 ie3) (ix1 ie3) R R ?_
    obtain ⟨lv4, ilv4, h⟩ := bnd h
    refine r_stQ (a' := e) tb R R R R ie3 R R R R ilv4 R R ?_
    dsimp only [List.set_cons_zero, List.set_cons_succ, WiState_T1, WiState_T2, WiState_T3, Table_T1]
    first | rw [set_len ilv4] | skip
    refine ev_endD (by kernel_rfl) (block_norm (then_norm (sw_rg (r_movD R R R (r_sub R R R R (r_asgD R R R (eN ?_)))))))
    exact ⟨m2, ⟨[(3, .d (.v (.int .i64 rv))), (4, .d (.arr 1 ((rv2).map vI))), (5, .ref 0 4 0 0), (6, .ref 1 4 0 0), (7, .ref 2 2 0 0), (10, .d (.v (.slice none 0 0))), (11, .row 3 1 0 (lv4).length), (12, .d (.v (.int .i64 x))), (13, .d (.v (.int .i64 (W (x2 - 1)))))], [some ⟨4, [.d (WiPlan.d t)]⟩, some ⟨4, [.d (WiState.d o)]⟩, some ⟨2, [.d (WiSky.d a)]⟩, some (lvI lv4)]⟩, [0, 1, 2, 3], Nat.lt_succ_self _, (vwK R R (.cons R R (.cons R R (.cons R R (.row R .nil)))) (.cons R R (.cons R R (.cons R R (.cons R R (.cons R R (.cons R R (.cons R R (.cons R R (.cons R R .nil)))))))))), lv4, (W (x2 - 1)), h, R⟩
   intro c5
   replace h := ifF c5 h
   refine r_pickT R R R R (ev_endD (by kernel_rfl) (then_norm (sw_condF R (sw_exit (then_exit (then_exit ?_))))))
   subst hK2
   refine block_exit (block_norm (then_norm (sw_rg (r_movD R R R (r_add R R R R (r_asgD R R R (eN ?_)))))))
   exact ⟨m1, ⟨[(3, .d (.v (.int .i64 rv))), (4, .d (.arr 1 ((rv2).map vI))), (5, .ref 0 4 0 0), (6, .ref 1 4 0 0), (7, .ref 2 2 0 0), (10, .d (.v (.slice none 0 0))), (11, .row 3 1 0 (lv2).length), (12, .d (.v (.int .i64 (W (x + 1)))))], [some ⟨4, [.d (WiPlan.d t)]⟩, some ⟨4, [.d (WiState.d o)]⟩, some ⟨2, [.d (WiSky.d a)]⟩, some (lvI lv2)]⟩, [0, 1, 2, 3], Nat.lt_succ_self _, (vwK R R (.cons R R (.cons R R (.cons R R (.row R .nil)))) (.cons R R (.cons R R (.cons R R (.cons R R (.cons R R (.cons R R (.cons R R (.cons R R .nil))))))))), lv2, (W (x + 1)), h, R⟩
  intro c4
  replace h := ifN (Int.not_lt.2 c4) h
  refine r_movD R R R (r_skip R R R (r_skip R R R (r_skip R R R (r_skip R R R (r_skip R R R (r_skip R R R (r_skip R R R (r_skip R R R (r_skip R R R (r_skip R R R (r_skip R R R (r_skip R R R (r_pickF R R R R (ev_endD (by kernel_rfl) (then_norm (sw_condF R (sw_exit (then_exit (then_exit ?_)))))))))))))))))))
  subst hK2
  refine block_exit (block_norm (then_norm (sw_rg (r_movD R R R (r_add R R R R (r_asgD R R R (eN ?_)))))))
  exact ⟨m1, ⟨[(3, .d (.v (.int .i64 rv))), (4, .d (.arr 1 ((rv2).map vI))), (5, .ref 0 4 0 0), (6, .ref 1 4 0 0), (7, .ref 2 2 0 0), (10, .d (.v (.slice none 0 0))), (11, .row 3 1 0 (lv2).length), (12, .d (.v (.int .i64 (W (x + 1)))))], [some ⟨4, [.d (WiPlan.d t)]⟩, some ⟨4, [.d (WiState.d o)]⟩, some ⟨2, [.d (WiSky.d a)]⟩, some (lvI lv2)]⟩, [0, 1, 2, 3], Nat.lt_succ_self _, (vwK R R (.cons R R (.cons R R (.cons R R (.row R .nil)))) (.cons R R (.cons R R (.cons R R (.cons R R (.cons R R (.cons R R (.cons R R (.cons R R .nil))))))))), lv2, (W (x + 1)), h, R⟩
 intro c
 replace h := ifN (Int.not_lt.2 c) h
 refine eN (sw_condF R (sw_exit (then_exit (then_exit ?_))))
 subst hK1
 refine block_exit (then_norm (qG (r_movW R R R (r_asgW R R R (eN (sw_ret ?_))))))
 obtain rfl := sI h
 exact (fin_S (t := .row 0 1 0 (lv).length) (L := [some (lvI lv)]) (κ := [3]) R (.cons (.tmp 10) .nil) (vwK R R (.row R .nil) (.cons R R .nil)) ⟨R, R⟩)
theorem r_rights_pc {F : Nat} {t : WiPlan} {o : WiState} {a : WiSky} {rv : Int} {rv2 : (List Int)} {r : (List Int)} (h : r_rights F t o a rv rv2 = some r) : PC Try.prog 70 [WiPlan.d t, WiState.d o, WiSky.d a, .v (.int .i64 rv), .arr 1 ((rv2).map vI)] (.arr 1 ((r).map vI)) := (r_rights_scr h).toPC (.row rfl rfl)
/-- hangfireref11.turn -/
def r_turn (F : Nat) (p : WiPlan) (sky : WiSky) (d : Desk) : Option Int := if d.over = true then (some (-1)) else (if 0 ≤ d.given then (some d.given) else (Option.bind (r_rights F p (WiState.mk d.s_Used d.s_Credit d.s_Last d.s_Next) sky d.minute d.done) fun rv => if (rv.length : Int) = 0 then (some (-1)) else (Option.bind (ixO rv 0) fun e => some e)))
theorem r_turn_pc {F : Nat} {p : WiPlan} {sky : WiSky} {d : Desk} {r : Int} (h : r_turn F p sky d = some r) : PC Try.prog 61 [WiPlan.d p, WiSky.d sky, Desk.d d] (.v (.int .i64 r)) := by
 rw [r_turn] at h
 refine SC.of_sw Try.func61 R R R ?_
 simp only [List.map_cons, List.map_nil, argS, Nat.zero_add, Nat.reduceAdd]
 refine qG (r_box R R R R R R R (r_box R R R R R R R (r_box R R R R R R R (r_asgD R R R (eN (sw_seq (qG (r_fa tb R R R R R R R (r_ldD (y := .v (.bool d.over)) tb R R R R R R R R R ?_)))))))))
 with_reducible apply ev_lit
 ·intro c
  replace h := ifP c h
  refine eN (sw_condT R (qG (r_asgD R R R (eN (sw_ret (then_ret ?_))))))
  obtain rfl := sI h
  exact fin_0 (t := .d (.v (.int .i64 (-1)))) R R R (.cons (.tmp 6) .nil)
 intro c
 replace h := ifF c h
 refine eN (sw_condF R (sw_skip (then_norm (sw_seq (qG (r_fa tb R R R R R R R (r_ldD (y := .v (.int .i64 d.given)) tb R R R R R R R R R ?_)))))))
 refine r_geq R R R R ?_ ?_
 ·intro c2
  replace h := ifP c2 h
  refine eN (sw_condT R (qG (r_fa tb R R R R R R R (r_ldD (y := .v (.int .i64 d.given)) tb R R R R R R R R R (r_asgD R R R (eN (sw_ret (then_ret ?_))))))))
  obtain rfl := sI h
  exact fin_0 (t := .d (.v (.int .i64 d.given))) R R R (.cons (.tmp 6) .nil)
 intro c2
 replace h := ifN (Int.not_le.2 c2) h
 refine eN (sw_condF R (sw_skip (then_norm (qG (r_ldD (y := WiPlan.d p) tb R R R R R R R R R (r_fa tb R R R R R R R (r_ldD (y := .agg [.arr 1 ((d.s_Used).map vI), .arr 1 ((d.s_Credit).map vI), .arr 1 ((d.s_Last).map vI), .v (.int .i64 d.s_Next)]) tb R R R R R R R R R (r_ldD (y := WiSky.d sky) tb R R R R R R R R R (r_fa tb R R R R R R R (r_ldD (y := .v (.int .i64 d.minute)) tb R R R R R R R R R (r_fa tb R R R R R R R ?_)))))))))))
 refine r_ldD (y := .arr 1 ((d.done).map vI)) tb R R R R R R R R R ?_
 obtain ⟨rv, hrv, h⟩ := bnd h
 refine r_callN (t' := .row 3 1 0 (rv).length) (news' := [(lvI rv)]) (r_rights_scr hrv) (.of (by kernel_rfl)) R R R ((.row .nil)) R R R (r_asgW R R R (eN (sw_seq (qG (r_movW R R R (r_lenR tb R R R R R ?_))))))
 refine r_eql R R R R ?_ ?_
 ·intro c3
  replace h := ifP c3 h
  refine eN (sw_condT R (qG (r_asgD R R R (eN (sw_ret (then_ret ?_))))))
  obtain rfl := sI h
  exact fin_0 (t := .d (.v (.int .i64 (-1)))) R R R (.cons (.tmp 6) .nil)
 intro c3
 replace h := ifN c3 h
 refine eN (sw_condF R (sw_skip (then_norm (qG (r_movW R R R ?_)))))
 obtain ⟨e, ie, h⟩ := bnd h
 refine r_ixI tb R R R R R R (ix0 ie) (ix1 ie) R R ?_
 refine r_ldD (y := .v (.int .i64 e)) tb R R R R (ix2 (g := fun a => T.d (vI a)) ie) R R R R ?_
 refine r_asgD R R R (eN (sw_ret ?_))
 obtain rfl := sI h
 exact fin_0 (t := .d (.v (.int .i64 e))) R R R (.cons (.tmp 6) .nil)
/-- hangfireref11.receivers -/
def r_receivers (F : Nat) (p : WiPlan) (sky : WiSky) (d : Desk) : Option (List Int) := Option.bind (r_turn F p sky d) fun rv => if rv < 0 then (some ([] : List Int)) else (if 0 ≤ d.given then (some ([] : List Int)) else (Option.bind (appO ([] : List Int) d.done) fun q => Option.bind (appO q [rv]) fun q2 => Option.bind (r_rights F p (WiState.mk d.s_Used d.s_Credit d.s_Last d.s_Next) sky d.minute q2) fun rv2 => some rv2))
theorem r_receivers_scr {F : Nat} {p : WiPlan} {sky : WiSky} {d : Desk} {r : (List Int)} (h : r_receivers F p sky d = some r) : SCR Try.prog 65 (List.map T.d [WiPlan.d p, WiSky.d sky, Desk.d d]) [] (.row 0 1 0 (r).length) (List.map some [(lvI r)]) := by
 rw [r_receivers] at h
 refine SC.of_sw Try.func65 R R R ?_
 simp only [List.map_cons, List.map_nil, argS, Nat.zero_add, Nat.reduceAdd]
 refine qG (r_box R R R R R R R (r_box R R R R R R R (r_box R R R R R R R (r_asgD R R R (eN (qG (r_ldD (y := WiPlan.d p) tb R R R R R R R R R (r_ldD (y := WiSky.d sky) tb R R R R R R R R R (r_ldD (y := Desk.d d) tb R R R R R R R R R ?_)))))))))
 obtain ⟨rv, hrv, h⟩ := bnd h
 refine r_call (r_turn_pc hrv) (.of (by kernel_rfl)) R R R R (r_asgD R R R (eN (sw_seq (qG (r_movD R R R ?_)))))
 refine r_lss R R R R ?_ ?_
 ·intro c
  replace h := ifP c h
  refine r_movD R R R (r_skip R R R (r_skip R R R (r_skip R R R (r_pickT R R R R (eN (sw_condT R (qG (r_asgD R R R (eN ?_)))))))))
  refine SW.own (ts' := [(6, .row 3 1 0 (([] : List Int)).length)]) (L' := [some ⟨4, [.d (WiPlan.d p)]⟩, some ⟨2, [.d (WiSky.d sky)]⟩, some ⟨13, [.d (Desk.d d)]⟩]) 1 R R (.cons .nil .nil) (.same (.same (.same .nil))) ?_
  simp only [List.cons_append, List.nil_append]
  refine sw_ret (then_ret ?_)
  obtain rfl := sI h
  exact (fin_S (t := .row 0 1 0 (([] : List Int)).length) (L := [some (lvI ([] : List Int))]) (κ := [3]) R (.cons (.tmp 6) .nil) (vwK R R (.row R .nil) (.cons R R .nil)) ⟨R, R⟩)
 intro c
 replace h := ifN (Int.not_lt.2 c) h
 refine r_movD R R R (r_fa tb R R R R R R R (r_ldD (y := .v (.int .i64 d.given)) tb R R R R R R R R R ?_))
 refine r_geq R R R R ?_ ?_
 ·intro c2
  replace h := ifP c2 h
  refine r_pickF R R R R (eN (sw_condT R (qG (r_asgD R R R (eN ?_)))))
  refine SW.own (ts' := [(6, .row 3 1 0 (([] : List Int)).length)]) (L' := [some ⟨4, [.d (WiPlan.d p)]⟩, some ⟨2, [.d (WiSky.d sky)]⟩, some ⟨13, [.d (Desk.d d)]⟩]) 1 R R (.cons .nil .nil) (.same (.same (.same .nil))) ?_
  simp only [List.cons_append, List.nil_append]
  refine sw_ret (then_ret ?_)
  obtain rfl := sI h
  exact (fin_S (t := .row 0 1 0 (([] : List Int)).length) (L := [some (lvI ([] : List Int))]) (κ := [3]) R (.cons (.tmp 6) .nil) (vwK R R (.row R .nil) (.cons R R .nil)) ⟨R, R⟩)
 intro c2
 replace h := ifN (Int.not_le.2 c2) h
 refine r_pickF R R R R (eN (sw_condF R (sw_skip (then_norm (sw_seq (sw_dr (by kernel_rfl) (r_ldD (y := WiPlan.d p) tb R R R R R R R R R (r_fa tb R R R R R R R (r_ldD (y := .agg [.arr 1 ((d.s_Used).map vI), .arr 1 ((d.s_Credit).map vI), .arr 1 ((d.s_Last).map vI), .v (.int .i64 d.s_Next)]) tb R R R R R R R R R (r_ldD (y := WiSky.d sky) tb R R R R R R R R R (r_fa tb R R R R R R R (r_ldD (y := .v (.int .i64 d.minute)) tb R R R R R R R R R ?_))))))))))))
 refine r_bslice tb R R R R R R R R R R R R R (r_fa tb R R R R R R R (r_ldD (y := .arr 1 ((d.done).map vI)) tb R R R R R R R R R ?_))
 obtain ⟨q, iq, h⟩ := bnd h
 refine r_apEM (g := vI) (w := ([] : List Int)) (v := d.done) ([some ⟨4, [.d (WiPlan.d p)]⟩, some ⟨2, [.d (WiSky.d sky)]⟩, some ⟨13, [.d (Desk.d d)]⟩, none]) tb R R R R R R R R (by intro _; exact R) iq R R R R R (r_movD R R R (r_bslice tb R R R R R R R R R R R R R ?_))
 obtain ⟨q2, iq2, h⟩ := bnd h
 refine r_apM (g := vI) (w := q) (v := [rv]) ([some ⟨4, [.d (WiPlan.d p)]⟩, some ⟨2, [.d (WiSky.d sky)]⟩, some ⟨13, [.d (Desk.d d)]⟩, none, none, some (lvI [rv])]) tb R R R R R R R R R R R iq2 R R R R R ?_
 obtain ⟨rv2, hrv2, h⟩ := bnd h
 refine r_callLN (t' := .row 7 1 0 (rv2).length) (news' := [(lvI rv2)]) (r_rights_scr hrv2) R ((.row (fun _ => rfl) .nil)) (.of (by kernel_rfl)) R R ((.cons (.d _) (.cons (.d _) (.cons (.d _) (.cons (.d _) (.cons (.row R R) .nil)))))) R ((.row .nil)) R R R ?_
 refine r_asgW R R R (ev_endD (by kernel_rfl) (then_norm (sw_ret ?_)))
 obtain rfl := sI h
 exact (fin_S (t := .row 0 1 0 (rv2).length) (L := [some (lvI rv2)]) (κ := [7]) R (.cons (.tmp 6) .nil) (vwK R R (.row R .nil) (.cons R R .nil)) ⟨R, R⟩)
theorem r_receivers_pc {F : Nat} {p : WiPlan} {sky : WiSky} {d : Desk} {r : (List Int)} (h : r_receivers F p sky d = some r) : PC Try.prog 65 [WiPlan.d p, WiSky.d sky, Desk.d d] (.arr 1 ((r).map vI)) := (r_receivers_scr h).toPC (.row rfl rfl)
end Go.Proofs.Ytdefnmcjmklohaa
