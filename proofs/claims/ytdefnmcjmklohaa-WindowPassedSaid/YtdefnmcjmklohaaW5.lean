/- What functions of the program compute: plain functions, and the proofs. -/
import Derived.Test.YtdefnmcjmklohaaW4
open Go Go.Proofs.Ytdefnmcjmklohaa.Sh Go.Proofs
namespace Go.Proofs.Ytdefnmcjmklohaa
set_option linter.unusedVariables false
set_option linter.unusedSimpArgs false
set_option maxRecDepth 100000
set_option maxHeartbeats 4000000
/-- hangfirelaw11.WindowPassed -/
def l_WindowPassed_L1 (F : Nat) (lv : (List Int)) (rv8 : ((List Int) × Int)) (rv9 : ((List Int) × Int)) (K : Int → Option Bool) : Nat → Int → Option Bool
 | 0, _ => none
 | n + 1, x3 => if x3 < (rv8.1.length : Int) then (Option.bind (ixO rv8.1 x3) fun e4 => Option.bind (l_listed F lv e4) fun rv10 => if rv10 < 0 then (Option.bind (l_listed F rv9.1 e4) fun rv11 => if 0 ≤ rv11 then (some false) else (l_WindowPassed_L1 F lv rv8 rv9 K n (W (x3 + 1)))) else (l_WindowPassed_L1 F lv rv8 rv9 K n (W (x3 + 1)))) else (K x3)
def l_WindowPassed_L2 (F : Nat) (t : WiPlan) (o : WiState) (a : WiNight) (K : (List Int) → Int → Int → Option Bool) : Nat → (List Int) → Int → Int → Option Bool
 | 0, _, _, _ => none
 | n + 1, lv, x, x2 => if x2 < (a.turns.length : Int) then (Option.bind (cutO a.turns 0 x2) fun q => Option.bind (window_Turns F t o (WiSky.mk a.sky_Kinds a.sky_Wind) q) fun rv7 => optE rv7.2.2.1 (if rv7.2.2.2 = 0 then (Option.bind (appO lv [rv7.1]) fun q2 => Option.bind (ixO a.turns x2) fun e2 => l_WindowPassed_L2 F t o a K n q2 (max x e2.at_) (W (x2 + 1))) else (some false)) (fun t2 => if t2.length = 0 then none else (if rv7.2.2.2 = 0 then (Option.bind (appO lv [rv7.1]) fun q3 => Option.bind (ixO a.turns x2) fun e3 => l_WindowPassed_L2 F t o a K n q3 (max x e3.at_) (W (x2 + 1))) else (some false)))) else (K lv x x2)
def l_WindowPassed (F : Nat) (t : WiPlan) (o : WiState) (a : WiNight) : Option Bool := Option.bind (window_Play F t o a) fun rv => if rv.2.2 = 0 then (if 0 ≤ rv.2.1.team then (Option.bind (l_Awake 100 ) fun rv3 => some rv3) else (if o.next < 0 then (Option.bind (l_Awake 100 ) fun rv4 => some rv4) else (if (t.windows.length : Int) ≤ o.next then (Option.bind (l_Awake 100 ) fun rv5 => some rv5) else (if 16 < (a.turns.length : Int) then (Option.bind (l_Awake 100 ) fun rv6 => some rv6) else (Option.bind (ixO t.windows o.next) fun e => l_WindowPassed_L2 F t o a (fun (lv : (List Int)) (x : Int) (x2 : Int) => Option.bind (window_Rights F t o (WiSky.mk a.sky_Kinds a.sky_Wind) e.from_) fun rv8 => Option.bind (window_Rights F t o (WiSky.mk a.sky_Kinds a.sky_Wind) x) fun rv9 => if rv8.2 = 0 then (if rv9.2 = 0 then (l_WindowPassed_L1 F lv rv8 rv9 (fun (x3 : Int) => Option.bind (l_Awake 100 ) fun rv12 => some rv12) F 0) else (some false)) else (some false)) F ([] : List Int) e.from_ 0))))) else (Option.bind (l_Awake 100 ) fun rv2 => some rv2)
theorem l_WindowPassed_pc {F : Nat} {t : WiPlan} {o : WiState} {a : WiNight} {r : Bool} (h : l_WindowPassed F t o a = some r) : PC Try.prog 10 [WiPlan.d t, WiState.d o, WiNight.d a] (.v (.bool r)) := by
 rw [l_WindowPassed] at h
 refine SC.of_sw Try.func10 R R R ?_
 simp only [List.map_cons, List.map_nil, argS, Nat.zero_add, Nat.reduceAdd]
 refine qG (r_box R R R R R R R (r_box R R R R R R R (r_box R R R R R R R (r_asgD R R R (eN (qG (r_ldD (y := WiPlan.d t) tb R R R R R R R R R (r_ldD (y := WiState.d o) tb R R R R R R R R R (r_ldD (y := WiNight.d a) tb R R R R R R R R R ?_)))))))))
 obtain ⟨rv, hrv, h⟩ := bnd h
 refine r_callN (t' := .tup [WiState_T1 rv.1 3 4 5, .d (WiUse.d rv.2.1), .d (.v (.int .i64 rv.2.2))]) (news' := [(lvI rv.1.used), (lvI rv.1.credit), (lvI rv.1.last)]) (window_Play_scr hrv) (.of (by kernel_rfl)) R R R ((.row (.row (.row .nil)))) R R R (r_movT (.tup [WiState_T1 rv.1 3 4 5, .d (WiUse.d rv.2.1), .d (.v (.int .i64 rv.2.2))]) R R R (r_ext (t := WiState_T1 rv.1 3 4 5) R R R R (r_ext (t := .d (WiUse.d rv.2.1)) R R R R (r_ext (t := .d (.v (.int .i64 rv.2.2))) R R R R (r_alloc tb R R R R R ?_)))))
 refine r_alloc tb R R R R R (r_stE _ ([some ⟨4, [.d (WiPlan.d t)]⟩, some ⟨4, [.d (WiState.d o)]⟩, some ⟨3, [.d (WiNight.d a)]⟩, some (lvI rv.1.used), some (lvI rv.1.credit), some (lvI rv.1.last), some ⟨4, [WiState_T1 rv.1 3 4 5]⟩, some ⟨4, [.d (.agg [.v (.int .i64 0), .v (.int .i64 0), .v (.int .i64 0), .v (.int .i64 0)])]⟩]) tb R R R R R R R R R R R R ?_)
 refine r_stE _ ([some ⟨4, [.d (WiPlan.d t)]⟩, some ⟨4, [.d (WiState.d o)]⟩, some ⟨3, [.d (WiNight.d a)]⟩, some (lvI rv.1.used), some (lvI rv.1.credit), some (lvI rv.1.last), some ⟨4, [WiState_T1 rv.1 3 4 5]⟩, some ⟨4, [.d (WiUse.d rv.2.1)]⟩]) tb R R R R R R R R R R R R (r_asgD R R R (eN (sw_seq (qG (r_movD R R R ?_)))))
 refine r_neq R R R R ?_ ?_
 ·intro c
  replace h := ifN c h
  refine r_movD R R R (r_skip R R R (r_skip R R R (r_skip R R R (r_pickT R R R R (r_movD R R R (r_skip R R R (r_skip R R R (r_skip R R R (r_pickT R R R R (r_movD R R R (r_skip R R R (r_skip R R R (r_skip R R R (r_skip R R R (r_skip R R R (r_skip R R R (r_pickT R R R R (r_movD R R R (r_skip R R R (r_skip R R R (r_skip R R R (r_skip R R R (r_pickT R R R R (eN (sw_condT R (qG ?_))))))))))))))))))))))))))
  obtain ⟨rv2, hrv2, h⟩ := bnd h
  refine r_call (l_Awake_pc hrv2) (.of (by kernel_rfl)) R R R R (r_asgD R R R (eN (sw_ret (then_ret ?_))))
  obtain rfl := sI h
  exact fin_0 (t := .d (.v (.bool rv2))) R R R (.cons (.tmp 6) .nil)
 intro c
 replace h := ifP c h
 refine r_movD R R R (r_fa tb R R R R R R R (r_ldD (y := .v (.int .i64 rv.2.1.team)) tb R R R R R R R R R ?_))
 refine r_geq R R R R ?_ ?_
 ·intro c2
  replace h := ifP c2 h
  refine r_pickF R R R R (r_movD R R R (r_skip R R R (r_skip R R R (r_skip R R R (r_pickT R R R R (r_movD R R R (r_skip R R R (r_skip R R R (r_skip R R R (r_skip R R R (r_skip R R R (r_skip R R R (r_pickT R R R R (r_movD R R R (r_skip R R R (r_skip R R R (r_skip R R R (r_skip R R R (r_pickT R R R R (eN (sw_condT R (qG ?_))))))))))))))))))))))
  obtain ⟨rv3, hrv3, h⟩ := bnd h
  refine r_call (l_Awake_pc hrv3) (.of (by kernel_rfl)) R R R R (r_asgD R R R (eN (sw_ret (then_ret ?_))))
  obtain rfl := sI h
  exact fin_0 (t := .d (.v (.bool rv3))) R R R (.cons (.tmp 6) .nil)
 intro c2
 replace h := ifN (Int.not_le.2 c2) h
 refine r_pickF R R R R (r_movD R R R (r_fa tb R R R R R R R (r_ldD (y := .v (.int .i64 o.next)) tb R R R R R R R R R ?_)))
 refine r_lss R R R R ?_ ?_
 ·intro c3
  replace h := ifP c3 h
  refine r_pickF R R R R (r_movD R R R (r_skip R R R (r_skip R R R (r_skip R R R (r_skip R R R (r_skip R R R (r_skip R R R (r_pickT R R R R (r_movD R R R (r_skip R R R (r_skip R R R (r_skip R R R (r_skip R R R (r_pickT R R R R (eN (sw_condT R (qG ?_)))))))))))))))))
  obtain ⟨rv4, hrv4, h⟩ := bnd h
  refine r_call (l_Awake_pc hrv4) (.of (by kernel_rfl)) R R R R (r_asgD R R R (eN (sw_ret (then_ret ?_))))
  obtain rfl := sI h
  exact fin_0 (t := .d (.v (.bool rv4))) R R R (.cons (.tmp 6) .nil)
 intro c3
 replace h := ifN (Int.not_lt.2 c3) h
 refine r_pickF R R R R (r_movD R R R (r_fa tb R R R R R R R (r_ldD (y := .v (.int .i64 o.next)) tb R R R R R R R R R (r_fa tb R R R R R R R (r_ldD (y := .arr 3 ((t.windows).map WiWindow.d)) tb R R R R R R R R R (r_lenM tb R R R R R ?_))))))
 refine r_geq R R R R ?_ ?_
 ·intro c4
  replace h := ifP c4 h
  refine r_pickF R R R R (r_movD R R R (r_skip R R R (r_skip R R R (r_skip R R R (r_skip R R R (r_pickT R R R R (eN (sw_condT R (qG ?_)))))))))
  obtain ⟨rv5, hrv5, h⟩ := bnd h
  refine r_call (l_Awake_pc hrv5) (.of (by kernel_rfl)) R R R R (r_asgD R R R (eN (sw_ret (then_ret ?_))))
  obtain rfl := sI h
  exact fin_0 (t := .d (.v (.bool rv5))) R R R (.cons (.tmp 6) .nil)
 intro c4
 replace h := ifN (Int.not_le.2 c4) h
 refine r_pickF R R R R (r_movD R R R (r_fa tb R R R R R R R (r_ldD (y := .arr 3 ((a.turns).map WiTurn.d)) tb R R R R R R R R R (r_lenM tb R R R R R ?_))))
 refine r_gtr R R R R ?_ ?_
 ·intro c5
  replace h := ifP c5 h
  refine r_pickF R R R R (eN (sw_condT R (qG ?_)))
  obtain ⟨rv6, hrv6, h⟩ := bnd h
  refine r_call (l_Awake_pc hrv6) (.of (by kernel_rfl)) R R R R (r_asgD R R R (eN (sw_ret (then_ret ?_))))
  obtain rfl := sI h
  exact fin_0 (t := .d (.v (.bool rv6))) R R R (.cons (.tmp 6) .nil)
 intro c5
 replace h := ifN (Int.not_lt.2 c5) h
 refine r_pickF R R R R (eN (sw_condF R (sw_skip (then_norm (qG (r_asgD R R R (eN (qG (r_fa tb R R R R R R R (r_ldD (y := .arr 3 ((t.windows).map WiWindow.d)) tb R R R R R R R R R (r_fa tb R R R R R R R (r_ldD (y := .v (.int .i64 o.next)) tb R R R R R R R R R ?_))))))))))))
 obtain ⟨e, ie, h⟩ := bnd h
 refine r_ixE tb R R R R R R (ix0 ie) (ix1m ie) R R (r_faE tb R R R R R R R (r_ldE (y := .v (.int .i64 e.from_)) tb R R (ix2 (g := WiWindow.d) ie) R R R R (r_asgD R R R (eN (sw_seq (qG (r_asgD R R R (eN (sw_block ?_)))))))))
 refine SW.own (ts' := [(3, .ref 0 4 0 0), (4, .ref 1 4 0 0), (5, .ref 2 3 0 0), (6, .d (.v (.bool false))), (10, .row 8 1 0 (([] : List Int)).length), (11, .d (.v (.int .i64 e.from_))), (12, .d (.v (.int .i64 0)))]) (L' := [some ⟨4, [.d (WiPlan.d t)]⟩, some ⟨4, [.d (WiState.d o)]⟩, some ⟨3, [.d (WiNight.d a)]⟩, some (lvI rv.1.used), some (lvI rv.1.credit), some (lvI rv.1.last), some ⟨4, [WiState_T1 rv.1 3 4 5]⟩, some ⟨4, [.d (WiUse.d rv.2.1)]⟩]) 1 R R (.cons (.same _) (.cons (.same _) (.cons (.same _) (.cons (.same _) (.cons .nil (.cons (.same _) (.cons (.same _) .nil))))))) (.same (.same (.same (.same (.same (.same (.same (.same .nil)))))))) ?_
 simp only [List.cons_append, List.nil_append]
 obtain ⟨K3, hK3, h⟩ : ∃ K, K = _ ∧ l_WindowPassed_L2 F t o a K F ([] : List Int) e.from_ 0 = some r := ⟨_, rfl, h⟩
 refine sw_loop (st0 := ⟨[(3, .ref 0 4 0 0), (4, .ref 1 4 0 0), (5, .ref 2 3 0 0), (6, .d (.v (.bool false))), (10, .row 3 1 0 (([] : List Int)).length), (11, .d (.v (.int .i64 e.from_))), (12, .d (.v (.int .i64 0)))], [some ⟨4, [.d (WiPlan.d t)]⟩, some ⟨4, [.d (WiState.d o)]⟩, some ⟨3, [.d (WiNight.d a)]⟩, some (lvI ([] : List Int))]⟩) (κ := [0, 1, 2, 8]) (fun m st => ∃ (lv : (List Int)) (x : Int) (x2 : Int), l_WindowPassed_L2 F t o a K3 m lv x x2 = some r ∧ st = ⟨[(3, .ref 0 4 0 0), (4, .ref 1 4 0 0), (5, .ref 2 3 0 0), (6, .d (.v (.bool false))), (10, .row 3 1 0 (lv).length), (11, .d (.v (.int .i64 x))), (12, .d (.v (.int .i64 x2)))], [some ⟨4, [.d (WiPlan.d t)]⟩, some ⟨4, [.d (WiState.d o)]⟩, some ⟨3, [.d (WiNight.d a)]⟩, some (lvI lv)]⟩) (vwK R R (.cons R R (.cons R R (.cons R R (.row R .nil)))) (.cons R R (.cons R R (.cons R R (.cons R R (.cons R R (.cons R R (.cons R R .nil)))))))) ⟨([] : List Int), e.from_, 0, h, R⟩ ?_
 clear h
 rintro m3 st ⟨lv, x, x2, h, rfl⟩
 cases m3 with
 | zero => cases (show (none : Option Bool) = some r from h)
 | succ m3 =>
 rw [l_WindowPassed_L2] at h
 refine sw_seq (qG (r_movD R R R (r_fa tb R R R R R R R (r_ldD (y := .arr 3 ((a.turns).map WiTurn.d)) tb R R R R R R R R R (r_lenM tb R R R R R ?_)))))
 refine r_lss R R R R ?_ ?_
 ·intro c6
  replace h := ifP c6 h
  refine eN (sw_condT R (sw_skip (then_norm (sw_seq (sw_block (sw_seq (sw_dr (by kernel_rfl) (r_ldD (y := WiPlan.d t) tb R R R R R R R R R (r_ldD (y := WiState.d o) tb R R R R R R R R R (r_fa tb R R R R R R R (r_ldD (y := .agg [.arr 1 ((a.sky_Kinds).map vI), .v (.int .i64 a.sky_Wind)]) tb R R R R R R R R R (r_fa tb R R R R R R R (r_ldD (y := .arr 3 ((a.turns).map WiTurn.d)) tb R R R R R R R R R (r_movD R R R ?_))))))))))))))
  obtain ⟨q, iq, h⟩ := bnd h
  refine r_sliceT tb R R R R R R iq R R ?_
  obtain ⟨rv7, hrv7, h⟩ := bnd h
  rcases Option.eq_none_or_eq_some rv7.2.2.1 with nv | ⟨t2, nv⟩
  ·replace h := (optN nv).symm.trans h
   refine r_callO (t' := .d (.tup [.v (.int .i64 rv7.1), .v (.int .i64 rv7.2.1), .arr 1 ((([] : List Int)).map vI), .v (.int .i64 rv7.2.2.2)])) (ls := []) (news := []) ([]) ([some ⟨4, [.d (WiPlan.d t)]⟩, some ⟨4, [.d (WiState.d o)]⟩, some ⟨3, [.d (WiNight.d a)]⟩, some (lvI lv)]) ((window_Turns_sco hrv7).none nv) (.of (by kernel_rfl)) R (.inl ⟨R, R, R⟩) R R R R .nil R R R .nil .nil R R R R (r_movD R R R (r_extD (t := .v (.int .i64 rv7.1)) R R R R (r_extD (t := .v (.int .i64 rv7.2.1)) R R R R ?_)))
   refine r_extD (t := .arr 1 ((([] : List Int)).map vI)) R R R R (r_extD (t := .v (.int .i64 rv7.2.2.2)) R R R R (r_asgD R R R (r_asgD R R R (r_asgD R R R (r_asgD R R R (ev_endD (by kernel_rfl) (then_norm (sw_seq (qG (r_movD R R R ?_))))))))))
   refine r_neq R R R R ?_ ?_
   ·intro c7
    replace h := ifN c7 h
    refine eN (sw_condT R (qG (r_asgD R R R (eN (sw_ret (then_ret (block_ret (then_ret (then_ret (block_ret (then_ret ?_)))))))))))
    obtain rfl := sI h
    exact fin_0 (t := .d (.v (.bool false))) R R R (.cons (.tmp 6) .nil)
   intro c7
   replace h := ifP c7 h
   refine eN (sw_condF R (sw_skip (then_norm (sw_dr (by kernel_rfl) (r_movW R R R (r_movD R R R (r_bslice tb R R R R R R R R R R R R R ?_)))))))
   obtain ⟨q2, iq2, h⟩ := bnd h
   refine r_apM (g := vI) (w := lv) (v := [rv7.1]) ([some ⟨4, [.d (WiPlan.d t)]⟩, some ⟨4, [.d (WiState.d o)]⟩, some ⟨3, [.d (WiNight.d a)]⟩, none, some (lvI [rv7.1])]) tb R R R R R R R R R R R iq2 R R R R R (r_movD R R R (r_fa tb R R R R R R R (r_ldD (y := .arr 3 ((a.turns).map WiTurn.d)) tb R R R R R R R R R (r_movD R R R ?_))))
   obtain ⟨e2, ie2, h⟩ := bnd h
   refine r_ixE tb R R R R R R (ix0 ie2) (ix1m ie2) R R (r_faE tb R R R R R R R (r_ldE (y := .v (.int .i64 e2.at_)) tb R R (ix2 (g := WiTurn.d) ie2) R R R R (r_max2 R R R R (r_asgW R R R (r_asgD R R R (ev_endD (by kernel_rfl) (block_norm (then_norm (sw_rg (r_movD R R R (r_add R R R R (r_asgD R R R (eN ?_)))))))))))))
   exact ⟨m3, ⟨[(3, .ref 0 4 0 0), (4, .ref 1 4 0 0), (5, .ref 2 3 0 0), (6, .d (.v (.bool false))), (10, .row 3 1 0 (q2).length), (11, .d (.v (.int .i64 (max x e2.at_)))), (12, .d (.v (.int .i64 (W (x2 + 1)))))], [some ⟨4, [.d (WiPlan.d t)]⟩, some ⟨4, [.d (WiState.d o)]⟩, some ⟨3, [.d (WiNight.d a)]⟩, some (lvI q2)]⟩, [0, 1, 2, 5], Nat.lt_succ_self _, (vwK R R (.cons R R (.cons R R (.cons R R (.row R .nil)))) (.cons R R (.cons R R (.cons R R (.cons R R (.cons R R (.cons R R (.cons R R .nil)))))))), q2, (max x e2.at_), (W (x2 + 1)), h, R⟩
  replace h := (optS nv).symm.trans h
  by_cases c9 : t2.length = 0
  ·cases (if_pos c9).symm.trans h
  replace h := ifN c9 h
  refine r_callO (t' := .tup [.d (.v (.int .i64 rv7.1)), .d (.v (.int .i64 rv7.2.1)), .row 4 1 1 ((t2).length - 1), .d (.v (.int .i64 rv7.2.2.2))]) (ls := []) (news := [(lvI t2)]) ([]) ([some ⟨4, [.d (WiPlan.d t)]⟩, some ⟨4, [.d (WiState.d o)]⟩, some ⟨3, [.d (WiNight.d a)]⟩, some (lvI lv), some (lvI t2)]) ((window_Turns_sco hrv7).some nv) (.of (by kernel_rfl)) R (.inl ⟨R, R, R⟩) R R R R .nil R R R .nil ((.row .nil)) R R R R ?_
  refine r_movT (.tup [.d (.v (.int .i64 rv7.1)), .d (.v (.int .i64 rv7.2.1)), .row 4 1 1 ((t2).length - 1), .d (.v (.int .i64 rv7.2.2.2))]) R R R (r_ext (t := .d (.v (.int .i64 rv7.1))) R R R R (r_ext (t := .d (.v (.int .i64 rv7.2.1))) R R R R (r_ext (t := .row 4 1 1 ((t2).length - 1)) R R R R (r_ext (t := .d (.v (.int .i64 rv7.2.2.2))) R R R R (r_asgD R R R (r_asgD R R R (r_asgW R R R (r_asgD R R R (ev_endD (by kernel_rfl) (then_norm (sw_seq (qG (r_movD R R R ?_)))))))))))))
  refine r_neq R R R R ?_ ?_
  ·intro c8
   replace h := ifN c8 h
   refine eN (sw_condT R (qG (r_asgD R R R (eN (sw_ret (then_ret (block_ret (then_ret (then_ret (block_ret (then_ret ?_)))))))))))
   obtain rfl := sI h
   exact fin_0 (t := .d (.v (.bool false))) R R R (.cons (.tmp 6) .nil)
  intro c8
  replace h := ifP c8 h
  refine eN (sw_condF R (sw_skip (then_norm (sw_dr (by kernel_rfl) (r_movW R R R (r_movD R R R (r_bslice tb R R R R R R R R R R R R R ?_)))))))
  obtain ⟨q3, iq3, h⟩ := bnd h
  refine r_apM (g := vI) (w := lv) (v := [rv7.1]) ([some ⟨4, [.d (WiPlan.d t)]⟩, some ⟨4, [.d (WiState.d o)]⟩, some ⟨3, [.d (WiNight.d a)]⟩, none, some (lvI t2), some (lvI [rv7.1])]) tb R R R R R R R R R R R iq3 R R R R R (r_movD R R R (r_fa tb R R R R R R R (r_ldD (y := .arr 3 ((a.turns).map WiTurn.d)) tb R R R R R R R R R (r_movD R R R ?_))))
  obtain ⟨e3, ie3, h⟩ := bnd h
  refine r_ixE tb R R R R R R (ix0 ie3) (ix1m ie3) R R (r_faE tb R R R R R R R (r_ldE (y := .v (.int .i64 e3.at_)) tb R R (ix2 (g := WiTurn.d) ie3) R R R R (r_max2 R R R R (r_asgW R R R (r_asgD R R R (ev_endD (by kernel_rfl) (block_norm (then_norm (sw_rg (r_movD R R R (r_add R R R R (r_asgD R R R (eN ?_)))))))))))))
  exact ⟨m3, ⟨[(3, .ref 0 4 0 0), (4, .ref 1 4 0 0), (5, .ref 2 3 0 0), (6, .d (.v (.bool false))), (10, .row 3 1 0 (q3).length), (11, .d (.v (.int .i64 (max x e3.at_)))), (12, .d (.v (.int .i64 (W (x2 + 1)))))], [some ⟨4, [.d (WiPlan.d t)]⟩, some ⟨4, [.d (WiState.d o)]⟩, some ⟨3, [.d (WiNight.d a)]⟩, some (lvI q3)]⟩, [0, 1, 2, 6], Nat.lt_succ_self _, (vwK R R (.cons R R (.cons R R (.cons R R (.row R .nil)))) (.cons R R (.cons R R (.cons R R (.cons R R (.cons R R (.cons R R (.cons R R .nil)))))))), q3, (max x e3.at_), (W (x2 + 1)), h, R⟩
 intro c6
 replace h := ifN (Int.not_lt.2 c6) h
 refine eN (sw_condF R (sw_exit (then_exit (then_exit ?_))))
 subst hK3
 refine block_exit (then_norm (sw_seq (sw_dr (by kernel_rfl) (r_ldD (y := WiPlan.d t) tb R R R R R R R R R (r_ldD (y := WiState.d o) tb R R R R R R R R R (r_fa tb R R R R R R R (r_ldD (y := .agg [.arr 1 ((a.sky_Kinds).map vI), .v (.int .i64 a.sky_Wind)]) tb R R R R R R R R R (r_fa tb R R R R R R R (r_ldD (y := .arr 3 ((t.windows).map WiWindow.d)) tb R R R R R R R R R (r_fa tb R R R R R R R ?_))))))))))
 refine r_ldD (y := .v (.int .i64 o.next)) tb R R R R R R R R R (r_ixE tb R R R R R R (ix0 ie) (ix1m ie) R R (r_faE tb R R R R R R R (r_ldE (y := .v (.int .i64 e.from_)) tb R R (ix2 (g := WiWindow.d) ie) R R R R ?_)))
 obtain ⟨rv8, hrv8, h⟩ := bnd h
 refine r_callN (t' := .tup [.row 4 1 0 (rv8.1).length, .d (.v (.int .i64 rv8.2))]) (news' := [(lvI rv8.1)]) (window_Rights_scr hrv8) (.of (by kernel_rfl)) R R R ((.row .nil)) R R R (r_movT (.tup [.row 4 1 0 (rv8.1).length, .d (.v (.int .i64 rv8.2))]) R R R (r_ext (t := .row 4 1 0 (rv8.1).length) R R R R (r_ext (t := .d (.v (.int .i64 rv8.2))) R R R R (r_asgW R R R (r_asgD R R R (ev_endD (by kernel_rfl) (then_norm (qG (r_ldD (y := WiPlan.d t) tb R R R R R R R R R ?_)))))))))
 refine r_ldD (y := WiState.d o) tb R R R R R R R R R (r_fa tb R R R R R R R (r_ldD (y := .agg [.arr 1 ((a.sky_Kinds).map vI), .v (.int .i64 a.sky_Wind)]) tb R R R R R R R R R (r_movD R R R ?_)))
 obtain ⟨rv9, hrv9, h⟩ := bnd h
 refine r_callN (t' := .tup [.row 5 1 0 (rv9.1).length, .d (.v (.int .i64 rv9.2))]) (news' := [(lvI rv9.1)]) (window_Rights_scr hrv9) (.of (by kernel_rfl)) R R R ((.row .nil)) R R R (r_movT (.tup [.row 5 1 0 (rv9.1).length, .d (.v (.int .i64 rv9.2))]) R R R (r_ext (t := .row 5 1 0 (rv9.1).length) R R R R (r_ext (t := .d (.v (.int .i64 rv9.2))) R R R R (r_asgW R R R (r_asgD R R R (eN (sw_seq (qG (r_movD R R R ?_)))))))))
 refine r_neq R R R R ?_ ?_
 ·intro c10
  replace h := ifN c10 h
  refine r_movD R R R (r_skip R R R (r_skip R R R (r_pickT R R R R (eN (sw_condT R (qG (r_asgD R R R (eN (sw_ret (then_ret ?_))))))))))
  obtain rfl := sI h
  exact fin_0 (t := .d (.v (.bool false))) R R R (.cons (.tmp 6) .nil)
 intro c10
 replace h := ifP c10 h
 refine r_movD R R R (r_movD R R R ?_)
 refine r_neq R R R R ?_ ?_
 ·intro c11
  replace h := ifN c11 h
  refine r_pickF R R R R (eN (sw_condT R (qG (r_asgD R R R (eN (sw_ret (then_ret ?_)))))))
  obtain rfl := sI h
  exact fin_0 (t := .d (.v (.bool false))) R R R (.cons (.tmp 6) .nil)
 intro c11
 replace h := ifP c11 h
 refine r_pickF R R R R (eN (sw_condF R (sw_skip (then_norm (sw_seq (qG (r_asgD R R R (eN (sw_block ?_)))))))))
 obtain ⟨K5, hK5, h⟩ : ∃ K, K = _ ∧ l_WindowPassed_L1 F lv rv8 rv9 K F 0 = some r := ⟨_, rfl, h⟩
 refine sw_loop (st0 := ⟨[(6, .d (.v (.bool false))), (10, .row 0 1 0 (lv).length), (17, .row 1 1 0 (rv8.1).length), (19, .row 2 1 0 (rv9.1).length), (21, .d (.v (.int .i64 0)))], [some (lvI lv), some (lvI rv8.1), some (lvI rv9.1)]⟩) (κ := [3, 4, 5]) (fun m st => ∃ (x3 : Int), l_WindowPassed_L1 F lv rv8 rv9 K5 m x3 = some r ∧ st = ⟨[(6, .d (.v (.bool false))), (10, .row 0 1 0 (lv).length), (17, .row 1 1 0 (rv8.1).length), (19, .row 2 1 0 (rv9.1).length), (21, .d (.v (.int .i64 x3)))], [some (lvI lv), some (lvI rv8.1), some (lvI rv9.1)]⟩) (vwK R R (.row R (.row R (.row R .nil))) (.cons R R (.cons R R (.cons R R (.cons R R (.cons R R .nil)))))) ⟨0, h, R⟩ ?_
 clear h
 rintro m5 st ⟨x3, h, rfl⟩
 cases m5 with
 | zero => cases (show (none : Option Bool) = some r from h)
 | succ m5 =>
 rw [l_WindowPassed_L1] at h
 refine sw_seq (qG (r_movD R R R (r_movW R R R (r_lenR tb R R R R R ?_))))
 refine r_lss R R R R ?_ ?_
 ·intro c12
  replace h := ifP c12 h
  refine eN (sw_condT R (sw_skip (then_norm (sw_seq (sw_block (qG (r_movW R R R (r_movW R R R (r_movD R R R ?_)))))))))
  obtain ⟨e4, ie4, h⟩ := bnd h
  refine r_ixI tb R R R R R R (ix0 ie4) (ix1 ie4) R R ?_
  refine r_ldD (y := .v (.int .i64 e4)) tb R R R R (ix2 (g := fun a => T.d (vI a)) ie4) R R R R ?_
  obtain ⟨rv10, hrv10, h⟩ := bnd h
  refine r_callL (l_listed_pc hrv10) R (.of (by kernel_rfl)) R R ((.cons (.row R R) (.cons (.d _) .nil))) R R ?_
  refine r_lss R R R R ?_ ?_
  ·intro c13
   replace h := ifP c13 h
   refine r_movD R R R (r_movW R R R (r_movW R R R (r_movD R R R (r_ixI tb R R R R R R (ix0 ie4) (ix1 ie4) R R ?_))))
   refine r_ldD (y := .v (.int .i64 e4)) tb R R R R (ix2 (g := fun a => T.d (vI a)) ie4) R R R R ?_
   obtain ⟨rv11, hrv11, h⟩ := bnd h
   refine r_callL (l_listed_pc hrv11) R (.of (by kernel_rfl)) R R ((.cons (.row R R) (.cons (.d _) .nil))) R R ?_
   refine r_geq R R R R ?_ ?_
   ·intro c14
    replace h := ifP c14 h
    refine r_pickT R R R R (eN (sw_condT R (qG (r_asgD R R R (eN (sw_ret (block_ret (then_ret (then_ret (block_ret (then_ret ?_)))))))))))
    obtain rfl := sI h
    exact fin_0 (t := .d (.v (.bool false))) R R R (.cons (.tmp 6) .nil)
   intro c14
   replace h := ifN (Int.not_le.2 c14) h
   refine r_pickT R R R R (eN (sw_condF R (sw_skip (block_norm (then_norm (sw_rg (r_movD R R R (r_add R R R R (r_asgD R R R (eN ?_))))))))))
   exact ⟨m5, ⟨[(6, .d (.v (.bool false))), (10, .row 0 1 0 (lv).length), (17, .row 1 1 0 (rv8.1).length), (19, .row 2 1 0 (rv9.1).length), (21, .d (.v (.int .i64 (W (x3 + 1)))))], [some (lvI lv), some (lvI rv8.1), some (lvI rv9.1)]⟩, [0, 1, 2], Nat.lt_succ_self _, (vwK R R (.row R (.row R (.row R .nil))) (.cons R R (.cons R R (.cons R R (.cons R R (.cons R R .nil)))))), (W (x3 + 1)), h, R⟩
  intro c13
  replace h := ifN (Int.not_lt.2 c13) h
  refine r_movD R R R (r_skip R R R (r_skip R R R (r_skip R R R (r_skip R R R (r_skip R R R (r_skip R R R (r_skip R R R (r_pickF R R R R (eN (sw_condF R (sw_skip (block_norm (then_norm (sw_rg (r_movD R R R (r_add R R R R (r_asgD R R R (eN ?_))))))))))))))))))
  exact ⟨m5, ⟨[(6, .d (.v (.bool false))), (10, .row 0 1 0 (lv).length), (17, .row 1 1 0 (rv8.1).length), (19, .row 2 1 0 (rv9.1).length), (21, .d (.v (.int .i64 (W (x3 + 1)))))], [some (lvI lv), some (lvI rv8.1), some (lvI rv9.1)]⟩, [0, 1, 2], Nat.lt_succ_self _, (vwK R R (.row R (.row R (.row R .nil))) (.cons R R (.cons R R (.cons R R (.cons R R (.cons R R .nil)))))), (W (x3 + 1)), h, R⟩
 intro c12
 replace h := ifN (Int.not_lt.2 c12) h
 refine eN (sw_condF R (sw_exit (then_exit (then_exit ?_))))
 subst hK5
 refine block_exit (then_norm (qG ?_))
 obtain ⟨rv12, hrv12, h⟩ := bnd h
 refine r_call (l_Awake_pc hrv12) (.of (by kernel_rfl)) R R R R (r_asgD R R R (eN (sw_ret ?_)))
 obtain rfl := sI h
 exact fin_0 (t := .d (.v (.bool rv12))) R R R (.cons (.tmp 6) .nil)
end Go.Proofs.Ytdefnmcjmklohaa
