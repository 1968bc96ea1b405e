/- What functions of the program compute: plain functions, and the proofs. -/
import Derived.Test.YtdefnmcjmklohaaW2
open Go Go.Proofs.Ytdefnmcjmklohaa.Sh Go.Proofs
namespace Go.Proofs.Ytdefnmcjmklohaa
set_option linter.unusedVariables false
set_option linter.unusedSimpArgs false
set_option maxRecDepth 100000
set_option maxHeartbeats 4000000
def l_WindowParts_L1 (F : Nat) (t : WiPlan) (o : (List WiNight)) (K : (List WiUse) → (List Int) → (List Int) → (List Int) → Int → Int → Option Bool) : Nat → (List WiUse) → (List Int) → (List Int) → (List Int) → Int → Int → Option Bool
 | 0, _, _, _, _, _, _ => none
 | n + 1, lv, lv2, lv3, lv4, x, x2 => if x2 < (o.length : Int) then (Option.bind (ixO o x2) fun e => Option.bind (window_Play F t (WiState.mk lv2 lv3 lv4 x) e) fun rv5 => if rv5.2.2 = 0 then (if 0 ≤ rv5.2.1.team then (Option.bind (appO lv [rv5.2.1]) fun q2 => l_WindowParts_L1 F t o K n q2 rv5.1.used rv5.1.credit rv5.1.last rv5.1.next (W (x2 + 1))) else (l_WindowParts_L1 F t o K n lv rv5.1.used rv5.1.credit rv5.1.last rv5.1.next (W (x2 + 1)))) else (some false)) else (K lv lv2 lv3 lv4 x x2)
def l_WindowParts (F : Nat) (t : WiPlan) (o : (List WiNight)) (a : Int) : Option Bool := Option.bind (window_Season F t o) fun rv => if rv.2.2 = 0 then (if (t.windows.length : Int) < (o.length : Int) then (if rv.2.2 = 0 then (some false) else (Option.bind (l_Awake 100 ) fun rv3 => some rv3)) else (if (W ((o.length : Int) + 1)) = 0 then none else (Option.bind (cutO o 0 (Int.tmod (W a) (W ((o.length : Int) + 1)))) fun q => Option.bind (window_Season F t q) fun rv4 => if rv4.2.2 = 0 then (if rv4.2.1.next = (Int.tmod (W a) (W ((o.length : Int) + 1))) then (l_WindowParts_L1 F t o (fun (lv : (List WiUse)) (lv2 : (List Int)) (lv3 : (List Int)) (lv4 : (List Int)) (x : Int) (x2 : Int) => Option.bind (r_SameUses F rv.1 lv) fun rv6 => if rv6 = true then (Option.bind (r_SameState F rv.2.1 (WiState.mk lv2 lv3 lv4 x)) fun rv7 => if rv7 = true then (Option.bind (l_Awake 100 ) fun rv8 => some rv8) else (some false)) else (some false)) F rv4.1 rv4.2.1.used rv4.2.1.credit rv4.2.1.last rv4.2.1.next (Int.tmod (W a) (W ((o.length : Int) + 1)))) else (some false)) else (some false)))) else (if rv.2.2 = 0 then (some false) else (Option.bind (l_Awake 100 ) fun rv2 => some rv2))
theorem l_WindowParts_pc {F : Nat} {t : WiPlan} {o : (List WiNight)} {a : Int} {r : Bool} (h : l_WindowParts F t o a = some r) : PC Try.prog 6 [WiPlan.d t, .arr 3 ((o).map WiNight.d), .v (.int .u8 a)] (.v (.bool r)) := by
 rw [l_WindowParts] at h
 refine SC.of_sw Try.func6 R R R ?_
 dsimp only [argS, List.map]
 refine qG (r_box R R R R R R R (r_asgD R R R (eN (qG (r_ldD (y := WiPlan.d t) tb R R R R R R R R R (r_movD R R R ?_))))))
 obtain ⟨rv, hrv, h⟩ := bnd h
 refine r_callN (t' := .tup [.row 1 4 0 (rv.1).length, WiState_T1 rv.2.1 2 3 4, .d (.v (.int .i64 rv.2.2))]) (news' := [(lWiUsed rv.1), (lvI rv.2.1.used), (lvI rv.2.1.credit), (lvI rv.2.1.last)]) (window_Season_scr hrv) (.of (by kernel_rfl)) R R R ((.row (.row (.row (.row .nil))))) R R R (r_movT (.tup [.row 1 4 0 (rv.1).length, WiState_T1 rv.2.1 2 3 4, .d (.v (.int .i64 rv.2.2))]) R R R (r_ext (t := .row 1 4 0 (rv.1).length) R R R R (r_ext (t := WiState_T1 rv.2.1 2 3 4) R R R R (r_ext (t := .d (.v (.int .i64 rv.2.2))) R R R R ?_))))
 refine r_alloc tb R R R R R (r_asgW R R R (r_stE _ ([some ⟨4, [.d (WiPlan.d t)]⟩, some (lWiUsed rv.1), some (lvI rv.2.1.used), some (lvI rv.2.1.credit), some (lvI rv.2.1.last), some ⟨4, [WiState_T1 rv.2.1 2 3 4]⟩]) tb R R R R R R R R R R R R (r_asgD R R R (eN (sw_seq (qG (r_movD R R R ?_)))))))
 refine r_neq R R R R ?_ ?_
 ·intro c
  replace h := ifN c h
  refine r_movD R R R (r_skip R R R (r_skip R R R (r_skip R R R (r_skip R R R (r_skip R R R (r_skip R R R (r_pickT R R R R (eN (sw_condT R (qG (r_movD R R R ?_)))))))))))
  refine r_neq R R R R ?_ ?_
  ·intro c2
   replace h := ifN c2 h
   refine r_movD R R R ?_
   obtain ⟨rv2, hrv2, h⟩ := bnd h
   refine r_call (l_Awake_pc hrv2) (.of (by kernel_rfl)) R R R R (r_pickT R R R R (r_asgD R R R (eN (sw_ret (then_ret ?_)))))
   obtain rfl := sI h
   exact fin_0 (t := .d (.v (.bool rv2))) R R R (.cons (.tmp 6) .nil)
  intro c2
  replace h := ifP c2 h
  refine r_movD R R R (r_skip R R R (r_pickF R R R R (r_asgD R R R (eN (sw_ret (then_ret ?_))))))
  obtain rfl := sI h
  exact fin_0 (t := .d (.v (.bool false))) R R R (.cons (.tmp 6) .nil)
 intro c
 replace h := ifP c h
 refine r_movD R R R (r_movD R R R (r_lenM tb R R R R R (r_fa tb R R R R R R R (r_ldD (y := .arr 3 ((t.windows).map WiWindow.d)) tb R R R R R R R R R (r_lenM tb R R R R R ?_)))))
 refine r_gtr R R R R ?_ ?_
 ·intro c3
  replace h := ifP c3 h
  refine r_pickF R R R R (eN (sw_condT R (qG (r_movD R R R ?_))))
  refine r_neq R R R R ?_ ?_
  ·intro c4
   replace h := ifN c4 h
   refine r_movD R R R ?_
   obtain ⟨rv3, hrv3, h⟩ := bnd h
   refine r_call (l_Awake_pc hrv3) (.of (by kernel_rfl)) R R R R (r_pickT R R R R (r_asgD R R R (eN (sw_ret (then_ret ?_)))))
   obtain rfl := sI h
   exact fin_0 (t := .d (.v (.bool rv3))) R R R (.cons (.tmp 6) .nil)
  intro c4
  replace h := ifP c4 h
  refine r_movD R R R (r_skip R R R (r_pickF R R R R (r_asgD R R R (eN (sw_ret (then_ret ?_))))))
  obtain rfl := sI h
  exact fin_0 (t := .d (.v (.bool false))) R R R (.cons (.tmp 6) .nil)
 intro c3
 replace h := ifN (Int.not_lt.2 c3) h
 refine r_pickF R R R R (eN (sw_condF R (sw_skip (then_norm (qG (r_movD R R R (r_cvI R R R R R R (r_movD R R R (r_lenM tb R R R R R (r_add R R R R ?_))))))))))
 by_cases c5 : (W ((o.length : Int) + 1)) = 0
 ·cases (if_pos c5).symm.trans h
 replace h := ifN c5 h
 refine r_rem R R c5 R R (r_asgD R R R (eN (sw_seq (sw_dr (by kernel_rfl) (r_ldD (y := WiPlan.d t) tb R R R R R R R R R (r_movD R R R (r_movD R R R ?_)))))))
 obtain ⟨q, iq, h⟩ := bnd h
 refine r_sliceT tb R R R R R R iq R R ?_
 obtain ⟨rv4, hrv4, h⟩ := bnd h
 refine r_callN (t' := .tup [.row 6 4 0 (rv4.1).length, WiState_T1 rv4.2.1 7 8 9, .d (.v (.int .i64 rv4.2.2))]) (news' := [(lWiUsed rv4.1), (lvI rv4.2.1.used), (lvI rv4.2.1.credit), (lvI rv4.2.1.last)]) (window_Season_scr hrv4) (.of (by kernel_rfl)) R R R ((.row (.row (.row (.row .nil))))) R R R (r_movT (.tup [.row 6 4 0 (rv4.1).length, WiState_T1 rv4.2.1 7 8 9, .d (.v (.int .i64 rv4.2.2))]) R R R (r_ext (t := .row 6 4 0 (rv4.1).length) R R R R (r_ext (t := WiState_T1 rv4.2.1 7 8 9) R R R R ?_)))
 refine r_ext (t := .d (.v (.int .i64 rv4.2.2))) R R R R (r_alloc tb R R R R R (r_asgW R R R (r_stE _ ([some ⟨4, [.d (WiPlan.d t)]⟩, some (lWiUsed rv.1), some (lvI rv.2.1.used), some (lvI rv.2.1.credit), some (lvI rv.2.1.last), some ⟨4, [WiState_T1 rv.2.1 2 3 4]⟩, some (lWiUsed rv4.1), some (lvI rv4.2.1.used), some (lvI rv4.2.1.credit), some (lvI rv4.2.1.last), some ⟨4, [WiState_T1 rv4.2.1 7 8 9]⟩]) tb R R R R R R R R R R R R (r_asgD R R R (ev_endD (by kernel_rfl) (then_norm (sw_seq (qG (r_movD R R R ?_)))))))))
 refine r_neq R R R R ?_ ?_
 ·intro c6
  replace h := ifN c6 h
  refine r_movD R R R (r_skip R R R (r_skip R R R (r_skip R R R (r_skip R R R (r_pickT R R R R (eN (sw_condT R (qG (r_asgD R R R (eN (sw_ret (then_ret ?_))))))))))))
  obtain rfl := sI h
  exact fin_0 (t := .d (.v (.bool false))) R R R (.cons (.tmp 6) .nil)
 intro c6
 replace h := ifP c6 h
 refine r_movD R R R (r_fa tb R R R R R R R (r_ldD (y := .v (.int .i64 rv4.2.1.next)) tb R R R R R R R R R (r_movD R R R ?_)))
 refine r_neq R R R R ?_ ?_
 ·intro c7
  replace h := ifN c7 h
  refine r_pickF R R R R (eN (sw_condT R (qG (r_asgD R R R (eN (sw_ret (then_ret ?_)))))))
  obtain rfl := sI h
  exact fin_0 (t := .d (.v (.bool false))) R R R (.cons (.tmp 6) .nil)
 intro c7
 replace h := ifP c7 h
 refine r_pickF R R R R (eN (sw_condF R (sw_skip (then_norm (sw_seq (qG (r_movD R R R (r_asgD R R R (eN (sw_block ?_))))))))))
 obtain ⟨K2, hK2, h⟩ : ∃ K, K = _ ∧ l_WindowParts_L1 F t o K F rv4.1 rv4.2.1.used rv4.2.1.credit rv4.2.1.last rv4.2.1.next (Int.tmod (W a) (W ((o.length : Int) + 1))) = some r := ⟨_, rfl, h⟩
 refine sw_loop (st0 := ⟨[(1, .d (.arr 3 ((o).map WiNight.d))), (3, .ref 0 4 0 0), (6, .d (.v (.bool false))), (7, .row 1 4 0 (rv.1).length), (8, .ref 2 4 0 0), (11, .row 6 4 0 (rv4.1).length), (12, .ref 7 4 0 0), (13, .d (.v (.int .i64 (Int.tmod (W a) (W ((o.length : Int) + 1))))))], [some ⟨4, [.d (WiPlan.d t)]⟩, some (lWiUsed rv.1), some ⟨4, [WiState_T1 rv.2.1 3 4 5]⟩, some (lvI rv.2.1.used), some (lvI rv.2.1.credit), some (lvI rv.2.1.last), some (lWiUsed rv4.1), some ⟨4, [WiState_T1 rv4.2.1 8 9 10]⟩, some (lvI rv4.2.1.used), some (lvI rv4.2.1.credit), some (lvI rv4.2.1.last)]⟩) (κ := [0, 1, 5, 2, 3, 4, 6, 10, 7, 8, 9]) (fun m st => ∃ (lv : (List WiUse)) (lv2 : (List Int)) (lv3 : (List Int)) (lv4 : (List Int)) (x : Int) (x2 : Int), l_WindowParts_L1 F t o K2 m lv lv2 lv3 lv4 x x2 = some r ∧ st = ⟨[(1, .d (.arr 3 ((o).map WiNight.d))), (3, .ref 0 4 0 0), (6, .d (.v (.bool false))), (7, .row 1 4 0 (rv.1).length), (8, .ref 2 4 0 0), (11, .row 6 4 0 (lv).length), (12, .ref 7 4 0 0), (13, .d (.v (.int .i64 x2)))], [some ⟨4, [.d (WiPlan.d t)]⟩, some (lWiUsed rv.1), some ⟨4, [WiState_T1 rv.2.1 3 4 5]⟩, some (lvI rv.2.1.used), some (lvI rv.2.1.credit), some (lvI rv.2.1.last), some (lWiUsed lv), some ⟨4, [WiState_T1 (WiState.mk lv2 lv3 lv4 x) 8 9 10]⟩, some (lvI lv2), some (lvI lv3), some (lvI lv4)]⟩) (vwK R R (.cons R R (.row R (.cons R R (.row R (.row R (.row R (.row R (.cons R R (.row R (.row R (.row R .nil))))))))))) (.cons R R (.cons R R (.cons R R (.cons R R (.cons R R (.cons R R (.cons R R (.cons R R .nil))))))))) ⟨rv4.1, rv4.2.1.used, rv4.2.1.credit, rv4.2.1.last, rv4.2.1.next, (Int.tmod (W a) (W ((o.length : Int) + 1))), h, R⟩ ?_
 clear h
 rintro m2 st ⟨lv, lv2, lv3, lv4, x, x2, h, rfl⟩
 cases m2 with
 | zero => cases (show (none : Option Bool) = some r from h)
 | succ m2 =>
 rw [l_WindowParts_L1] at h
 refine sw_seq (qG (r_movD R R R (r_movD R R R (r_lenM tb R R R R R ?_))))
 refine r_lss R R R R ?_ ?_
 ·intro c8
  replace h := ifP c8 h
  refine eN (sw_condT R (sw_skip (then_norm (sw_seq (sw_block (sw_seq (sw_dr (by kernel_rfl) (r_ldD (y := WiPlan.d t) tb R R R R R R R R R (r_ldG tb R R R R R R R R R (r_movD R R R (r_movD R R R ?_)))))))))))
  obtain ⟨e, ie, h⟩ := bnd h
  refine r_ixE tb R R R R R R (ix0 ie) (ix1m ie) R R (r_ldE (y := WiNight.d e) tb R R (ix2 (g := WiNight.d) ie) R R R R ?_)
  obtain ⟨rv5, hrv5, h⟩ := bnd h
  refine r_callLN (t' := .tup [WiState_T1 rv5.1 11 12 13, .d (WiUse.d rv5.2.1), .d (.v (.int .i64 rv5.2.2))]) (news' := [(lvI rv5.1.used), (lvI rv5.1.credit), (lvI rv5.1.last)]) (window_Play_scr hrv5) R ((.row (fun _ => rfl) (.row (fun _ => rfl) (.row (fun _ => rfl) .nil)))) (.of (by kernel_rfl)) R R ((.cons (.d _) (.cons (.aggL (.cons (.row R R) (.cons (.row R R) (.cons (.row R R) (.cons (.d _) .nil))))) (.cons (.d _) .nil)))) R ((.row (.row (.row .nil)))) R R R ?_
  refine r_movT (.tup [WiState_T1 rv5.1 11 12 13, .d (WiUse.d rv5.2.1), .d (.v (.int .i64 rv5.2.2))]) R R R (r_ext (t := WiState_T1 rv5.1 11 12 13) R R R R (r_ext (t := .d (WiUse.d rv5.2.1)) R R R R (r_ext (t := .d (.v (.int .i64 rv5.2.2))) R R R R (r_alloc tb R R R R R (r_alloc tb R R R R R ?_)))))
  refine r_stE _ ([some ⟨4, [.d (WiPlan.d t)]⟩, some (lWiUsed rv.1), some ⟨4, [WiState_T1 rv.2.1 3 4 5]⟩, some (lvI rv.2.1.used), some (lvI rv.2.1.credit), some (lvI rv.2.1.last), some (lWiUsed lv), some ⟨4, [WiState_T1 (WiState.mk lv2 lv3 lv4 x) 8 9 10]⟩, some (lvI lv2), some (lvI lv3), some (lvI lv4), some (lvI rv5.1.used), some (lvI rv5.1.credit), some (lvI rv5.1.last), some ⟨4, [WiState_T1 rv5.1 11 12 13]⟩, some ⟨4, [.d (.agg [.v (.int .i64 0), .v (.int .i64 0), .v (.int .i64 0), .v (.int .i64 0)])]⟩]) tb R R R R R R R R R R R R ?_
  refine r_stE _ ([some ⟨4, [.d (WiPlan.d t)]⟩, some (lWiUsed rv.1), some ⟨4, [WiState_T1 rv.2.1 3 4 5]⟩, some (lvI rv.2.1.used), some (lvI rv.2.1.credit), some (lvI rv.2.1.last), some (lWiUsed lv), some ⟨4, [WiState_T1 (WiState.mk lv2 lv3 lv4 x) 8 9 10]⟩, some (lvI lv2), some (lvI lv3), some (lvI lv4), some (lvI rv5.1.used), some (lvI rv5.1.credit), some (lvI rv5.1.last), some ⟨4, [WiState_T1 rv5.1 11 12 13]⟩, some ⟨4, [.d (WiUse.d rv5.2.1)]⟩]) tb R R R R R R R R R R R R (r_asgD R R R (ev_endD (by kernel_rfl) (then_norm (sw_seq (qG ?_)))))
  refine r_movD R R R ?_
  refine r_neq R R R R ?_ ?_
  ·intro c9
   replace h := ifN c9 h
   refine eN (sw_condT R (qG (r_asgD R R R (eN (sw_ret (then_ret (block_ret (then_ret (then_ret (block_ret (then_ret ?_)))))))))))
   obtain rfl := sI h
   exact fin_0 (t := .d (.v (.bool false))) R R R (.cons (.tmp 6) .nil)
  intro c9
  replace h := ifP c9 h
  refine eN (sw_condF R (sw_skip (then_norm (qG (r_ldG tb R R R R R R R R R (r_stE _ ([some ⟨4, [.d (WiPlan.d t)]⟩, some (lWiUsed rv.1), some ⟨4, [WiState_T1 rv.2.1 3 4 5]⟩, some (lvI rv.2.1.used), some (lvI rv.2.1.credit), some (lvI rv.2.1.last), some (lWiUsed lv), some ⟨4, [WiState_T1 rv5.1 11 12 13]⟩, some (lvI lv2), some (lvI lv3), some (lvI lv4), some (lvI rv5.1.used), some (lvI rv5.1.credit), some (lvI rv5.1.last), some ⟨4, [WiState_T1 rv5.1 11 12 13]⟩, some ⟨4, [.d (WiUse.d rv5.2.1)]⟩]) tb R R R R R R R R R R R R (eN (qG ?_))))))))
  refine r_fa tb R R R R R R R (r_ldD (y := .v (.int .i64 rv5.2.1.team)) tb R R R R R R R R R ?_)
  refine r_geq R R R R ?_ ?_
  ·intro c10
   replace h := ifP c10 h
   refine eN (sw_condT R (sw_rg (r_movW R R R (r_ldD (y := WiUse.d rv5.2.1) tb R R R R R R R R R (r_bslice tb R R R R R R R R R R R R R ?_)))))
   obtain ⟨q2, iq2, h⟩ := bnd h
   refine r_apM (g := WiUse.d) (w := lv) (v := [rv5.2.1]) ([some ⟨4, [.d (WiPlan.d t)]⟩, some (lWiUsed rv.1), some ⟨4, [WiState_T1 rv.2.1 3 4 5]⟩, some (lvI rv.2.1.used), some (lvI rv.2.1.credit), some (lvI rv.2.1.last), none, some ⟨4, [WiState_T1 rv5.1 11 12 13]⟩, some (lvI lv2), some (lvI lv3), some (lvI lv4), some (lvI rv5.1.used), some (lvI rv5.1.credit), some (lvI rv5.1.last), some ⟨4, [WiState_T1 rv5.1 11 12 13]⟩, some ⟨4, [.d (WiUse.d rv5.2.1)]⟩, some (lWiUsed [rv5.2.1])]) tb R R R R R R R R R R R iq2 R R R R R (r_asgW R R R (ev_end ?_))
   refine block_norm (then_norm (sw_rg (r_movD R R R (r_add R R R R (r_asgD R R R (eN ?_))))))
   exact ⟨m2, ⟨[(1, .d (.arr 3 ((o).map WiNight.d))), (3, .ref 0 4 0 0), (6, .d (.v (.bool false))), (7, .row 1 4 0 (rv.1).length), (8, .ref 2 4 0 0), (11, .row 6 4 0 (q2).length), (12, .ref 7 4 0 0), (13, .d (.v (.int .i64 (W (x2 + 1)))))], [some ⟨4, [.d (WiPlan.d t)]⟩, some (lWiUsed rv.1), some ⟨4, [WiState_T1 rv.2.1 3 4 5]⟩, some (lvI rv.2.1.used), some (lvI rv.2.1.credit), some (lvI rv.2.1.last), some (lWiUsed q2), some ⟨4, [WiState_T1 rv5.1 8 9 10]⟩, some (lvI rv5.1.used), some (lvI rv5.1.credit), some (lvI rv5.1.last)]⟩, [0, 1, 2, 3, 4, 5, 17, 7, 11, 12, 13], Nat.lt_succ_self _, (vwK R R (.cons R R (.row R (.cons R R (.row R (.row R (.row R (.row R (.cons R R (.row R (.row R (.row R .nil))))))))))) (.cons R R (.cons R R (.cons R R (.cons R R (.cons R R (.cons R R (.cons R R (.cons R R .nil))))))))), q2, rv5.1.used, rv5.1.credit, rv5.1.last, rv5.1.next, (W (x2 + 1)), h, R⟩
  intro c10
  replace h := ifN (Int.not_le.2 c10) h
  refine eN (sw_condF R (sw_skip (block_norm (then_norm (sw_rg (r_movD R R R (r_add R R R R (r_asgD R R R (eN ?_)))))))))
  exact ⟨m2, ⟨[(1, .d (.arr 3 ((o).map WiNight.d))), (3, .ref 0 4 0 0), (6, .d (.v (.bool false))), (7, .row 1 4 0 (rv.1).length), (8, .ref 2 4 0 0), (11, .row 6 4 0 (lv).length), (12, .ref 7 4 0 0), (13, .d (.v (.int .i64 (W (x2 + 1)))))], [some ⟨4, [.d (WiPlan.d t)]⟩, some (lWiUsed rv.1), some ⟨4, [WiState_T1 rv.2.1 3 4 5]⟩, some (lvI rv.2.1.used), some (lvI rv.2.1.credit), some (lvI rv.2.1.last), some (lWiUsed lv), some ⟨4, [WiState_T1 rv5.1 8 9 10]⟩, some (lvI rv5.1.used), some (lvI rv5.1.credit), some (lvI rv5.1.last)]⟩, [0, 1, 2, 3, 4, 5, 6, 7, 11, 12, 13], Nat.lt_succ_self _, (vwK R R (.cons R R (.row R (.cons R R (.row R (.row R (.row R (.row R (.cons R R (.row R (.row R (.row R .nil))))))))))) (.cons R R (.cons R R (.cons R R (.cons R R (.cons R R (.cons R R (.cons R R (.cons R R .nil))))))))), lv, rv5.1.used, rv5.1.credit, rv5.1.last, rv5.1.next, (W (x2 + 1)), h, R⟩
 intro c8
 replace h := ifN (Int.not_lt.2 c8) h
 refine eN (sw_condF R (sw_exit (then_exit (then_exit ?_))))
 subst hK2
 refine block_exit (then_norm (qG (r_movW R R R (r_movW R R R ?_))))
 obtain ⟨rv6, hrv6, h⟩ := bnd h
 refine r_callLB (r_SameUses_pc hrv6) (.of (by kernel_rfl)) R R ((.cons (.row R R) (.cons (.row R R) .nil))) R R ?_ ?_
 ·intro c11
  replace h := ifP c11 h
  refine r_movD R R R (r_ldG tb R R R R R R R R R (r_ldG tb R R R R R R R R R ?_))
  obtain ⟨rv7, hrv7, h⟩ := bnd h
  refine r_callLB (r_SameState_pc hrv7) (.of (by kernel_rfl)) R R ((.cons (.aggL (.cons (.row R R) (.cons (.row R R) (.cons (.row R R) (.cons (.d _) .nil))))) (.cons (.aggL (.cons (.row R R) (.cons (.row R R) (.cons (.row R R) (.cons (.d _) .nil))))) .nil))) R R ?_ ?_
  ·intro c12
   replace h := ifP c12 h
   refine r_pickT R R R R (r_movD R R R ?_)
   obtain ⟨rv8, hrv8, h⟩ := bnd h
   refine r_call (l_Awake_pc hrv8) (.of (by kernel_rfl)) R R R R (r_pickT R R R R (r_asgD R R R (eN (sw_ret ?_))))
   obtain rfl := sI h
   exact fin_0 (t := .d (.v (.bool rv8))) R R R (.cons (.tmp 6) .nil)
  intro c12
  replace h := ifF c12 h
  refine r_pickT R R R R (r_movD R R R (r_skip R R R (r_pickF R R R R (r_asgD R R R (eN (sw_ret ?_))))))
  obtain rfl := sI h
  exact fin_0 (t := .d (.v (.bool false))) R R R (.cons (.tmp 6) .nil)
 intro c11
 replace h := ifF c11 h
 refine r_movD R R R (r_skip R R R (r_skip R R R (r_skip R R R (r_pickF R R R R (r_movD R R R (r_skip R R R (r_pickF R R R R (r_asgD R R R (eN (sw_ret ?_))))))))))
 obtain rfl := sI h
 exact fin_0 (t := .d (.v (.bool false))) R R R (.cons (.tmp 6) .nil)
end Go.Proofs.Ytdefnmcjmklohaa
