/- What functions of the program compute: plain functions, and the proofs. -/
import Derived.Test.YtdefnmcjmklohaaW2
open Go Go.Proofs.Ytdefnmcjmklohaa.Sh Go.Proofs
namespace Go.Proofs.Ytdefnmcjmklohaa
set_option linter.unusedVariables false
set_option linter.unusedSimpArgs false
set_option maxRecDepth 100000
set_option maxHeartbeats 4000000
def l_WindowFirst_L1 (F : Nat) (t : WiPlan) (o : Moment) (rv : ((List Int) × Int)) (K : Int → Option Bool) : Nat → Int → Option Bool
 | 0, _ => none
 | n + 1, x => if x < (rv.1.length : Int) then (Option.bind (ixO rv.1 x) fun e => if e < 0 then (some false) else (if (t.teams.length : Int) ≤ e then (some false) else (if x = 0 then (l_WindowFirst_L1 F t o rv K n (W (x + 1))) else (Option.bind (ixO rv.1 (W (x - 1))) fun e2 => Option.bind (ixO t.teams e2) fun e3 => Option.bind (ixO t.teams e) fun e4 => if e3.priority < e4.priority then (some false) else (if e3.priority = e4.priority then (Option.bind (ixO o.state_Credit e2) fun e5 => Option.bind (ixO o.state_Credit e) fun e6 => if e5 < e6 then (some false) else (l_WindowFirst_L1 F t o rv K n (W (x + 1)))) else (l_WindowFirst_L1 F t o rv K n (W (x + 1)))))))) else (K x)
def l_WindowFirst (F : Nat) (t : WiPlan) (o : Moment) : Option Bool := Option.bind (window_Rights F t (WiState.mk o.state_Used o.state_Credit o.state_Last o.state_Next) (WiSky.mk o.sky_Kinds o.sky_Wind) o.minute) fun rv => if rv.2 = 0 then (if (o.state_Credit.length : Int) < (t.teams.length : Int) then (if rv.2 = 0 then (some false) else (Option.bind (l_Awake 100 ) fun rv3 => some rv3)) else (l_WindowFirst_L1 F t o rv (fun (x : Int) => if o.team < 0 then (Option.bind (l_Awake 100 ) fun rv4 => some rv4) else (if (t.teams.length : Int) ≤ o.team then (Option.bind (l_Awake 100 ) fun rv5 => some rv5) else (Option.bind (appO ([] : List WiTeam) t.teams) fun q => Option.bind (ixO t.teams o.team) fun e7 => Option.bind (ixO q o.team) fun e8 => Option.bind (setO q o.team {e8 with priority := (min 9 (W (e7.priority + 1)))}) fun q2 => Option.bind (window_Rights F {t with teams := q2} (WiState.mk o.state_Used o.state_Credit o.state_Last o.state_Next) (WiSky.mk o.sky_Kinds o.sky_Wind) o.minute) fun rv6 => if rv6.2 = 0 then (if (rv6.1.length : Int) = (rv.1.length : Int) then (Option.bind (l_listed F rv6.1 o.team) fun rv7 => Option.bind (l_listed F rv.1 o.team) fun rv8 => if rv7 ≤ rv8 then (Option.bind (l_listed F rv6.1 o.team) fun rv9 => Option.bind (l_listed F rv.1 o.team) fun rv10 => if ((decide (rv9 < 0)) == (decide (rv10 < 0))) = true then (Option.bind (l_Awake 100 ) fun rv11 => some rv11) else (some false)) else (some false)) else (some false)) else (some false)))) F 0)) else (if rv.2 = 0 then (some false) else (Option.bind (l_Awake 100 ) fun rv2 => some rv2))
theorem l_WindowFirst_pc {F : Nat} {t : WiPlan} {o : Moment} {r : Bool} (h : l_WindowFirst F t o = some r) : PC Try.prog 7 [WiPlan.d t, Moment.d o] (.v (.bool r)) := by
 rw [l_WindowFirst] at h
 refine SC.of_sw Try.func7 R R R ?_
 dsimp only [argS, List.map]
 refine qG (r_box R R R R R R R (r_box R R R R R R R (r_asgD R R R (eN (qG (r_ldD (y := WiPlan.d t) tb R R R R R R R R R (r_fa tb R R R R R R R (r_ldD (y := .agg [.arr 1 ((o.state_Used).map vI), .arr 1 ((o.state_Credit).map vI), .arr 1 ((o.state_Last).map vI), .v (.int .i64 o.state_Next)]) tb R R R R R R R R R (r_fa tb R R R R R R R (r_ldD (y := .agg [.arr 1 ((o.sky_Kinds).map vI), .v (.int .i64 o.sky_Wind)]) tb R R R R R R R R R ?_))))))))))
 refine r_fa tb R R R R R R R (r_ldD (y := .v (.int .i64 o.minute)) tb R R R R R R R R R ?_)
 obtain ⟨rv, hrv, h⟩ := bnd h
 refine r_callN (t' := .tup [.row 2 1 0 (rv.1).length, .d (.v (.int .i64 rv.2))]) (news' := [(lvI rv.1)]) (window_Rights_scr hrv) (.of (by kernel_rfl)) R R R ((.row .nil)) R R R (r_movT (.tup [.row 2 1 0 (rv.1).length, .d (.v (.int .i64 rv.2))]) R R R (r_ext (t := .row 2 1 0 (rv.1).length) R R R R (r_ext (t := .d (.v (.int .i64 rv.2))) R R R R (r_asgW R R R (r_asgD R R R (eN (sw_seq (qG (r_movD R R R ?_)))))))))
 refine r_neq R R R R ?_ ?_
 ·intro c
  replace h := ifN c h
  refine r_movD R R R (r_skip R R R (r_skip R R R (r_skip R R R (r_skip R R R (r_skip R R R (r_skip R R R (r_skip R R R (r_skip R R R (r_pickT R R R R (eN (sw_condT R (qG (r_movD R R R ?_)))))))))))))
  refine r_neq R R R R ?_ ?_
  ·intro c2
   replace h := ifN c2 h
   refine r_movD R R R ?_
   obtain ⟨rv2, hrv2, h⟩ := bnd h
   refine r_call (l_Awake_pc hrv2) (.of (by kernel_rfl)) R R R R (r_pickT R R R R (r_asgD R R R (eN (sw_ret (then_ret ?_)))))
   obtain rfl := sI h
   exact fin_0 (t := .d (.v (.bool rv2))) R R R (.cons (.tmp 4) .nil)
  intro c2
  replace h := ifP c2 h
  refine r_movD R R R (r_skip R R R (r_pickF R R R R (r_asgD R R R (eN (sw_ret (then_ret ?_))))))
  obtain rfl := sI h
  exact fin_0 (t := .d (.v (.bool false))) R R R (.cons (.tmp 4) .nil)
 intro c
 replace h := ifP c h
 refine r_movD R R R (r_fa tb R R R R R R R (r_fa tb R R R R R R R (r_ldD (y := .arr 1 ((o.state_Credit).map vI)) tb R R R R R R R R R (r_lenM tb R R R R R (r_fa tb R R R R R R R (r_ldD (y := .arr 9 ((t.teams).map WiTeam.d)) tb R R R R R R R R R (r_lenM tb R R R R R ?_)))))))
 refine r_lss R R R R ?_ ?_
 ·intro c3
  replace h := ifP c3 h
  refine r_pickF R R R R (eN (sw_condT R (qG (r_movD R R R ?_))))
  refine r_neq R R R R ?_ ?_
  ·intro c4
   replace h := ifN c4 h
   refine r_movD R R R ?_
   obtain ⟨rv3, hrv3, h⟩ := bnd h
   refine r_call (l_Awake_pc hrv3) (.of (by kernel_rfl)) R R R R (r_pickT R R R R (r_asgD R R R (eN (sw_ret (then_ret ?_)))))
   obtain rfl := sI h
   exact fin_0 (t := .d (.v (.bool rv3))) R R R (.cons (.tmp 4) .nil)
  intro c4
  replace h := ifP c4 h
  refine r_movD R R R (r_skip R R R (r_pickF R R R R (r_asgD R R R (eN (sw_ret (then_ret ?_))))))
  obtain rfl := sI h
  exact fin_0 (t := .d (.v (.bool false))) R R R (.cons (.tmp 4) .nil)
 intro c3
 replace h := ifN (Int.not_lt.2 c3) h
 refine r_pickF R R R R (eN (sw_condF R (sw_skip (then_norm (sw_seq (qG (r_asgD R R R (eN (sw_block ?_)))))))))
 obtain ⟨K2, hK2, h⟩ : ∃ K, K = _ ∧ l_WindowFirst_L1 F t o rv K F 0 = some r := ⟨_, rfl, h⟩
 refine sw_loop (st0 := ⟨[(2, .ref 0 4 0 0), (3, .ref 1 8 0 0), (4, .d (.v (.bool false))), (5, .row 2 1 0 (rv.1).length), (7, .d (.v (.int .i64 0)))], [some ⟨4, [.d (WiPlan.d t)]⟩, some ⟨8, [.d (Moment.d o)]⟩, some (lvI rv.1)]⟩) (κ := [0, 1, 2]) (fun m st => ∃ (x : Int), l_WindowFirst_L1 F t o rv K2 m x = some r ∧ st = ⟨[(2, .ref 0 4 0 0), (3, .ref 1 8 0 0), (4, .d (.v (.bool false))), (5, .row 2 1 0 (rv.1).length), (7, .d (.v (.int .i64 x)))], [some ⟨4, [.d (WiPlan.d t)]⟩, some ⟨8, [.d (Moment.d o)]⟩, some (lvI rv.1)]⟩) (vwK R R (.cons R R (.cons R R (.row R .nil))) (.cons R R (.cons R R (.cons R R (.cons R R (.cons R R .nil)))))) ⟨0, h, R⟩ ?_
 clear h
 rintro m2 st ⟨x, h, rfl⟩
 cases m2 with
 | zero => cases (show (none : Option Bool) = some r from h)
 | succ m2 =>
 rw [l_WindowFirst_L1] at h
 refine sw_seq (qG (r_movD R R R (r_movW R R R (r_lenR tb R R R R R ?_))))
 refine r_lss R R R R ?_ ?_
 ·intro c5
  replace h := ifP c5 h
  refine eN (sw_condT R (sw_skip (then_norm (sw_seq (sw_block (sw_seq (sw_seq (sw_dr (by kernel_rfl) (r_movW R R R (r_movD R R R ?_))))))))))
  obtain ⟨e, ie, h⟩ := bnd h
  refine r_ixI tb R R R R R R (ix0 ie) (ix1 ie) R R ?_
  refine r_ldD (y := .v (.int .i64 e)) tb R R R R (ix2 (g := fun a => T.d (vI a)) ie) R R R R ?_
  refine r_lss R R R R ?_ ?_
  ·intro c6
   replace h := ifP c6 h
   refine r_movD R R R (r_skip R R R (r_skip R R R (r_skip R R R (r_skip R R R (r_skip R R R (r_skip R R R (r_skip R R R (r_skip R R R (r_pickT R R R R (ev_endD (by kernel_rfl) (then_norm (sw_condT R (qG (r_asgD R R R (eN (sw_ret (then_ret (block_ret (then_ret (then_ret (block_ret (then_ret ?_))))))))))))))))))))))
   obtain rfl := sI h
   exact fin_0 (t := .d (.v (.bool false))) R R R (.cons (.tmp 4) .nil)
  intro c6
  replace h := ifN (Int.not_lt.2 c6) h
  refine r_movD R R R (r_movW R R R (r_movD R R R (r_ixI tb R R R R R R (ix0 ie) (ix1 ie) R R ?_)))
  refine r_ldD (y := .v (.int .i64 e)) tb R R R R (ix2 (g := fun a => T.d (vI a)) ie) R R R R ?_
  refine r_fa tb R R R R R R R (r_ldD (y := .arr 9 ((t.teams).map WiTeam.d)) tb R R R R R R R R R (r_lenM tb R R R R R ?_))
  refine r_geq R R R R ?_ ?_
  ·intro c7
   replace h := ifP c7 h
   refine r_pickF R R R R (ev_endD (by kernel_rfl) (then_norm (sw_condT R (qG (r_asgD R R R (eN (sw_ret (then_ret (block_ret (then_ret (then_ret (block_ret (then_ret ?_)))))))))))))
   obtain rfl := sI h
   exact fin_0 (t := .d (.v (.bool false))) R R R (.cons (.tmp 4) .nil)
  intro c7
  replace h := ifN (Int.not_le.2 c7) h
  refine r_pickF R R R R (ev_endD (by kernel_rfl) (then_norm (sw_condF R (sw_skip (then_norm (sw_seq (qG (r_movD R R R ?_))))))))
  refine r_eql R R R R ?_ ?_
  ·intro c8
   replace h := ifP c8 h
   refine eN (sw_condT R (sw_exit (then_exit (block_exit (then_norm (sw_rg (r_movD R R R (r_add R R R R (r_asgD R R R (eN ?_))))))))))
   exact ⟨m2, ⟨[(2, .ref 0 4 0 0), (3, .ref 1 8 0 0), (4, .d (.v (.bool false))), (5, .row 2 1 0 (rv.1).length), (7, .d (.v (.int .i64 (W (x + 1)))))], [some ⟨4, [.d (WiPlan.d t)]⟩, some ⟨8, [.d (Moment.d o)]⟩, some (lvI rv.1)]⟩, [0, 1, 2], Nat.lt_succ_self _, (vwK R R (.cons R R (.cons R R (.row R .nil))) (.cons R R (.cons R R (.cons R R (.cons R R (.cons R R .nil)))))), (W (x + 1)), h, R⟩
  intro c8
  replace h := ifN c8 h
  refine eN (sw_condF R (sw_skip (then_norm (sw_seq (sw_dr (by kernel_rfl) (r_fa tb R R R R R R R (r_ldD (y := .arr 9 ((t.teams).map WiTeam.d)) tb R R R R R R R R R (r_movW R R R (r_movD R R R (r_sub R R R R ?_))))))))))
  obtain ⟨e2, ie2, h⟩ := bnd h
  refine r_ixI tb R R R R R R (ix0 ie2) (ix1 ie2) R R ?_
  refine r_ldD (y := .v (.int .i64 e2)) tb R R R R (ix2 (g := fun a => T.d (vI a)) ie2) R R R R ?_
  obtain ⟨e3, ie3, h⟩ := bnd h
  refine r_ixE tb R R R R R R (ix0 ie3) (ix1m ie3) R R (r_ldE (y := WiTeam.d e3) tb R R (ix2 (g := WiTeam.d) ie3) R R R R (r_fa tb R R R R R R R (r_ldD (y := .arr 9 ((t.teams).map WiTeam.d)) tb R R R R R R R R R (r_movW R R R (r_movD R R R (r_ixI tb R R R R R R (ix0 ie) (ix1 ie) R R ?_))))))
  refine r_ldD (y := .v (.int .i64 e)) tb R R R R (ix2 (g := fun a => T.d (vI a)) ie) R R R R ?_
  obtain ⟨e4, ie4, h⟩ := bnd h
  refine r_ixE tb R R R R R R (ix0 ie4) (ix1m ie4) R R (r_ldE (y := WiTeam.d e4) tb R R (ix2 (g := WiTeam.d) ie4) R R R R (r_alloc tb R R R R R (r_alloc tb R R R R R ?_)))
  refine r_stE _ ([some ⟨4, [.d (WiPlan.d t)]⟩, some ⟨8, [.d (Moment.d o)]⟩, some (lvI rv.1), some ⟨9, [.d (WiTeam.d e3)]⟩, some ⟨9, [.d (.agg [.v (.string (ByteArray.mk #[])), .v (.int .i64 0), .v (.int .i64 0), .v (.int .i64 0), .v (.slice none 0 0), .v (.int .i64 0), .v (.int .i64 0), .v (.int .i64 0), .v (.slice none 0 0)])]⟩]) tb R R R R R R R R R R R R (r_stE _ ([some ⟨4, [.d (WiPlan.d t)]⟩, some ⟨8, [.d (Moment.d o)]⟩, some (lvI rv.1), some ⟨9, [.d (WiTeam.d e3)]⟩, some ⟨9, [.d (WiTeam.d e4)]⟩]) tb R R R R R R R R R R R R ?_)
  refine ev_endD (by kernel_rfl) (then_norm (sw_seq (sw_dr (by kernel_rfl) (r_fa tb R R R R R R R (r_ldD (y := .v (.int .i64 e3.priority)) tb R R R R R R R R R (r_fa tb R R R R R R R (r_ldD (y := .v (.int .i64 e4.priority)) tb R R R R R R R R R ?_)))))))
  refine r_lss R R R R ?_ ?_
  ·intro c9
   replace h := ifP c9 h
   refine r_movD R R R (r_skip R R R (r_skip R R R (r_skip R R R (r_skip R R R (r_skip R R R (r_skip R R R (r_skip R R R (r_skip R R R (r_skip R R R (r_skip R R R (r_skip R R R (r_skip R R R (r_skip R R R (r_skip R R R (r_skip R R R (r_skip R R R (r_skip R R R (r_skip R R R (r_skip R R R (r_skip R R R (r_skip R R R (r_skip R R R (r_skip R R R (r_skip R R R (r_skip R R R (r_skip R R R ?_))))))))))))))))))))))))))
   refine r_skip R R R (r_pickT R R R R (ev_endD (by kernel_rfl) (then_norm (sw_condT R (qG (r_asgD R R R (eN (sw_ret (block_ret (then_ret (then_ret (block_ret (then_ret ?_)))))))))))))
   obtain rfl := sI h
   exact fin_0 (t := .d (.v (.bool false))) R R R (.cons (.tmp 4) .nil)
  intro c9
  replace h := ifN (Int.not_lt.2 c9) h
  refine r_movD R R R (r_fa tb R R R R R R R (r_ldD (y := .v (.int .i64 e3.priority)) tb R R R R R R R R R (r_fa tb R R R R R R R (r_ldD (y := .v (.int .i64 e4.priority)) tb R R R R R R R R R ?_))))
  refine r_eql R R R R ?_ ?_
  ·intro c10
   replace h := ifP c10 h
   refine r_movD R R R (r_fa tb R R R R R R R (r_fa tb R R R R R R R (r_ldD (y := .arr 1 ((o.state_Credit).map vI)) tb R R R R R R R R R (r_movW R R R (r_movD R R R (r_sub R R R R (r_ixI tb R R R R R R (ix0 ie2) (ix1 ie2) R R ?_)))))))
   refine r_ldD (y := .v (.int .i64 e2)) tb R R R R (ix2 (g := fun a => T.d (vI a)) ie2) R R R R ?_
   obtain ⟨e5, ie5, h⟩ := bnd h
   refine r_ixE tb R R R R R R (ix0 ie5) (ix1m ie5) R R (r_ldE (y := .v (.int .i64 e5)) tb R R (ix2 (g := vI) ie5) R R R R (r_fa tb R R R R R R R (r_fa tb R R R R R R R (r_ldD (y := .arr 1 ((o.state_Credit).map vI)) tb R R R R R R R R R (r_movW R R R (r_movD R R R (r_ixI tb R R R R R R (ix0 ie) (ix1 ie) R R ?_)))))))
   refine r_ldD (y := .v (.int .i64 e)) tb R R R R (ix2 (g := fun a => T.d (vI a)) ie) R R R R ?_
   obtain ⟨e6, ie6, h⟩ := bnd h
   refine r_ixE tb R R R R R R (ix0 ie6) (ix1m ie6) R R (r_ldE (y := .v (.int .i64 e6)) tb R R (ix2 (g := vI) ie6) R R R R ?_)
   refine r_lss R R R R ?_ ?_
   ·intro c11
    replace h := ifP c11 h
    refine r_pickT R R R R (r_pickF R R R R (ev_endD (by kernel_rfl) (then_norm (sw_condT R (qG (r_asgD R R R (eN (sw_ret (block_ret (then_ret (then_ret (block_ret (then_ret ?_)))))))))))))
    obtain rfl := sI h
    exact fin_0 (t := .d (.v (.bool false))) R R R (.cons (.tmp 4) .nil)
   intro c11
   replace h := ifN (Int.not_lt.2 c11) h
   refine r_pickT R R R R (r_pickF R R R R (ev_endD (by kernel_rfl) (then_norm (sw_condF R (sw_skip (block_norm (then_norm (sw_rg (r_movD R R R (r_add R R R R (r_asgD R R R (eN ?_))))))))))))
   exact ⟨m2, ⟨[(2, .ref 0 4 0 0), (3, .ref 1 8 0 0), (4, .d (.v (.bool false))), (5, .row 2 1 0 (rv.1).length), (7, .d (.v (.int .i64 (W (x + 1)))))], [some ⟨4, [.d (WiPlan.d t)]⟩, some ⟨8, [.d (Moment.d o)]⟩, some (lvI rv.1)]⟩, [0, 1, 2], Nat.lt_succ_self _, (vwK R R (.cons R R (.cons R R (.row R .nil))) (.cons R R (.cons R R (.cons R R (.cons R R (.cons R R .nil)))))), (W (x + 1)), h, R⟩
  intro c10
  replace h := ifN c10 h
  refine r_movD R R R (r_skip R R R (r_skip R R R (r_skip R R R (r_skip R R R (r_skip R R R (r_skip R R R (r_skip R R R (r_skip R R R (r_skip R R R (r_skip R R R (r_skip R R R (r_skip R R R (r_skip R R R (r_skip R R R (r_skip R R R (r_skip R R R (r_skip R R R (r_skip R R R (r_skip R R R (r_skip R R R (r_pickF R R R R (r_pickF R R R R (ev_endD (by kernel_rfl) (then_norm (sw_condF R (sw_skip (block_norm (then_norm ?_))))))))))))))))))))))))))))
  refine sw_rg (r_movD R R R (r_add R R R R (r_asgD R R R (eN ?_))))
  exact ⟨m2, ⟨[(2, .ref 0 4 0 0), (3, .ref 1 8 0 0), (4, .d (.v (.bool false))), (5, .row 2 1 0 (rv.1).length), (7, .d (.v (.int .i64 (W (x + 1)))))], [some ⟨4, [.d (WiPlan.d t)]⟩, some ⟨8, [.d (Moment.d o)]⟩, some (lvI rv.1)]⟩, [0, 1, 2], Nat.lt_succ_self _, (vwK R R (.cons R R (.cons R R (.row R .nil))) (.cons R R (.cons R R (.cons R R (.cons R R (.cons R R .nil)))))), (W (x + 1)), h, R⟩
 intro c5
 replace h := ifN (Int.not_lt.2 c5) h
 refine eN (sw_condF R (sw_exit (then_exit (then_exit ?_))))
 subst hK2
 refine block_exit (then_norm (sw_seq (qG (r_fa tb R R R R R R R (r_ldD (y := .v (.int .i64 o.team)) tb R R R R R R R R R ?_)))))
 refine r_lss R R R R ?_ ?_
 ·intro c12
  replace h := ifP c12 h
  refine r_movD R R R (r_skip R R R (r_skip R R R (r_skip R R R (r_skip R R R (r_skip R R R (r_skip R R R (r_pickT R R R R (eN (sw_condT R (qG ?_))))))))))
  obtain ⟨rv4, hrv4, h⟩ := bnd h
  refine r_call (l_Awake_pc hrv4) (.of (by kernel_rfl)) R R R R (r_asgD R R R (eN (sw_ret (then_ret ?_))))
  obtain rfl := sI h
  exact fin_0 (t := .d (.v (.bool rv4))) R R R (.cons (.tmp 4) .nil)
 intro c12
 replace h := ifN (Int.not_lt.2 c12) h
 refine r_movD R R R (r_fa tb R R R R R R R (r_ldD (y := .v (.int .i64 o.team)) tb R R R R R R R R R (r_fa tb R R R R R R R (r_ldD (y := .arr 9 ((t.teams).map WiTeam.d)) tb R R R R R R R R R (r_lenM tb R R R R R ?_)))))
 refine r_geq R R R R ?_ ?_
 ·intro c13
  replace h := ifP c13 h
  refine r_pickF R R R R (eN (sw_condT R (qG ?_)))
  obtain ⟨rv5, hrv5, h⟩ := bnd h
  refine r_call (l_Awake_pc hrv5) (.of (by kernel_rfl)) R R R R (r_asgD R R R (eN (sw_ret (then_ret ?_))))
  obtain rfl := sI h
  exact fin_0 (t := .d (.v (.bool rv5))) R R R (.cons (.tmp 4) .nil)
 intro c13
 replace h := ifN (Int.not_le.2 c13) h
 refine r_pickF R R R R (eN (sw_condF R (sw_skip (then_norm (qG (r_ldD (y := WiPlan.d t) tb R R R R R R R R R (r_alloc tb R R R R R (r_stE _ ([some ⟨4, [.d (WiPlan.d t)]⟩, some ⟨8, [.d (Moment.d o)]⟩, some (lvI rv.1), some ⟨4, [.d (WiPlan.d t)]⟩]) tb R R R R R R R R R R R R (eN (qG (r_bslice tb R R R R R R R R R R R R R (r_fa tb R R R R R R R (r_ldD (y := .arr 9 ((t.teams).map WiTeam.d)) tb R R R R R R R R R ?_)))))))))))))
 obtain ⟨q, iq, h⟩ := bnd h
 refine r_apEM (g := WiTeam.d) (w := ([] : List WiTeam)) (v := t.teams) ([some ⟨4, [.d (WiPlan.d t)]⟩, some ⟨8, [.d (Moment.d o)]⟩, some (lvI rv.1), some ⟨4, [.d (WiPlan.d t)]⟩, none]) tb R R R R R R R R (by intro _; exact R) iq R R R R R (r_fa tb R R R R R R R (r_stE _ ([some ⟨4, [.d (WiPlan.d t)]⟩, some ⟨8, [.d (Moment.d o)]⟩, some (lvI rv.1), some ⟨4, [WiPlan_T1 {t with teams := q} 5]⟩, none, some (lWiTeamd q)]) tb R R R R R R R R R R R R (eN (sw_seq (sw_dr (by kernel_rfl) (r_fa tb R R R R R R R ?_))))))
 refine r_ldW tb R R R R R R R R R (r_fa tb R R R R R R R (r_ldD (y := .v (.int .i64 o.team)) tb R R R R R R R R R (r_fa tb R R R R R R R (r_ldD (y := .arr 9 ((t.teams).map WiTeam.d)) tb R R R R R R R R R (r_fa tb R R R R R R R (r_ldD (y := .v (.int .i64 o.team)) tb R R R R R R R R R ?_))))))
 obtain ⟨e7, ie7, h⟩ := bnd h
 refine r_ixE tb R R R R R R (ix0 ie7) (ix1m ie7) R R (r_faE tb R R R R R R R (r_ldE (y := .v (.int .i64 e7.priority)) tb R R (ix2 (g := WiTeam.d) ie7) R R R R (r_add R R R R (r_min2 R R R R ?_))))
 obtain ⟨e8, ie8, h⟩ := bnd h
 refine r_ixI tb R R R R R R (ix0 ie8) (ix1 ie8) R R (r_fa tb R R R R R R R ?_)
 obtain ⟨q2, iq2, h⟩ := bnd h
 refine r_stQ (a' := {e8 with priority := (min 9 (W (e7.priority + 1)))}) tb R R R R ie8 R R R R iq2 R R ?_
 dsimp only [List.set_cons_zero, List.set_cons_succ, WiState_T1, WiState_T2, WiState_T3, Table_T1, Desk_T1, Desk_T2, Desk_T3, Desk_T4, Desk_T5, WiPlan_T1]
 first | rw [set_len iq2] | skip
 refine ev_endD (by kernel_rfl) (then_norm (qG (r_ldG tb R R R R R R R R R (r_fa tb R R R R R R R (r_ldD (y := .agg [.arr 1 ((o.state_Used).map vI), .arr 1 ((o.state_Credit).map vI), .arr 1 ((o.state_Last).map vI), .v (.int .i64 o.state_Next)]) tb R R R R R R R R R (r_fa tb R R R R R R R (r_ldD (y := .agg [.arr 1 ((o.sky_Kinds).map vI), .v (.int .i64 o.sky_Wind)]) tb R R R R R R R R R (r_fa tb R R R R R R R ?_))))))))
 refine r_ldD (y := .v (.int .i64 o.minute)) tb R R R R R R R R R ?_
 obtain ⟨rv6, hrv6, h⟩ := bnd h
 refine r_callLN (t' := .tup [.row 6 1 0 (rv6.1).length, .d (.v (.int .i64 rv6.2))]) (news' := [(lvI rv6.1)]) (window_Rights_scr hrv6) R ((.row (fun _ => rfl) .nil)) (.of (by kernel_rfl)) R R ((.cons (.aggL (.cons (.row R R) (.cons (.d _) (.cons (.d _) (.cons (.d _) .nil))))) (.cons (.d _) (.cons (.d _) (.cons (.d _) .nil))))) R ((.row .nil)) R R R ?_
 refine r_movT (.tup [.row 6 1 0 (rv6.1).length, .d (.v (.int .i64 rv6.2))]) R R R (r_ext (t := .row 6 1 0 (rv6.1).length) R R R R (r_ext (t := .d (.v (.int .i64 rv6.2))) R R R R (r_asgW R R R (r_asgD R R R (eN (sw_seq (sw_dr (by kernel_rfl) (r_movD R R R ?_))))))))
 refine r_eql R R R R ?_ ?_
 ·intro c14
  replace h := ifP c14 h
  refine r_movD R R R (r_movW R R R (r_lenR tb R R R R R (r_movW R R R (r_lenR tb R R R R R ?_))))
  refine r_eql R R R R ?_ ?_
  ·intro c15
   replace h := ifP c15 h
   refine r_pickT R R R R (r_movD R R R (r_movW R R R (r_fa tb R R R R R R R (r_ldD (y := .v (.int .i64 o.team)) tb R R R R R R R R R ?_))))
   obtain ⟨rv7, hrv7, h⟩ := bnd h
   refine r_callL (l_listed_pc hrv7) R (.of (by kernel_rfl)) R R ((.cons (.row R R) (.cons (.d _) .nil))) R R (r_movW R R R (r_fa tb R R R R R R R (r_ldD (y := .v (.int .i64 o.team)) tb R R R R R R R R R ?_)))
   obtain ⟨rv8, hrv8, h⟩ := bnd h
   refine r_callL (l_listed_pc hrv8) R (.of (by kernel_rfl)) R R ((.cons (.row R R) (.cons (.d _) .nil))) R R ?_
   refine r_leq R R R R ?_ ?_
   ·intro c16
    replace h := ifP c16 h
    refine r_pickT R R R R (r_movD R R R (r_movW R R R (r_fa tb R R R R R R R (r_ldD (y := .v (.int .i64 o.team)) tb R R R R R R R R R ?_))))
    obtain ⟨rv9, hrv9, h⟩ := bnd h
    refine r_callL (l_listed_pc hrv9) R (.of (by kernel_rfl)) R R ((.cons (.row R R) (.cons (.d _) .nil))) R R (r_lssV R R R R (r_movW R R R (r_fa tb R R R R R R R (r_ldD (y := .v (.int .i64 o.team)) tb R R R R R R R R R ?_))))
    obtain ⟨rv10, hrv10, h⟩ := bnd h
    refine r_callL (l_listed_pc hrv10) R (.of (by kernel_rfl)) R R ((.cons (.row R R) (.cons (.d _) .nil))) R R (r_lssV R R R R (r_booleql R R R R R ?_))
    with_reducible apply ev_lit
    ·intro c17
     replace h := ifP c17 h
     refine r_pickT R R R R (r_movD R R R ?_)
     obtain ⟨rv11, hrv11, h⟩ := bnd h
     refine r_call (l_Awake_pc hrv11) (.of (by kernel_rfl)) R R R R (r_pickT R R R R (r_asgD R R R (ev_endD (by kernel_rfl) (then_norm (sw_ret ?_)))))
     obtain rfl := sI h
     exact fin_0 (t := .d (.v (.bool rv11))) R R R (.cons (.tmp 4) .nil)
    intro c17
    replace h := ifF c17 h
    refine r_pickT R R R R (r_movD R R R (r_skip R R R (r_pickF R R R R (r_asgD R R R (ev_endD (by kernel_rfl) (then_norm (sw_ret ?_)))))))
    obtain rfl := sI h
    exact fin_0 (t := .d (.v (.bool false))) R R R (.cons (.tmp 4) .nil)
   intro c16
   replace h := ifN (Int.not_le.2 c16) h
   refine r_pickT R R R R (r_movD R R R (r_skip R R R (r_skip R R R (r_skip R R R (r_skip R R R (r_skip R R R (r_skip R R R (r_skip R R R (r_skip R R R (r_skip R R R (r_skip R R R (r_skip R R R (r_pickF R R R R (r_movD R R R (r_skip R R R (r_pickF R R R R (r_asgD R R R (ev_endD (by kernel_rfl) (then_norm (sw_ret ?_))))))))))))))))))))
   obtain rfl := sI h
   exact fin_0 (t := .d (.v (.bool false))) R R R (.cons (.tmp 4) .nil)
  intro c15
  replace h := ifN c15 h
  refine r_pickT R R R R (r_movD R R R (r_skip R R R (r_skip R R R (r_skip R R R (r_skip R R R (r_skip R R R (r_skip R R R (r_skip R R R (r_skip R R R (r_skip R R R (r_pickF R R R R (r_movD R R R (r_skip R R R (r_skip R R R (r_skip R R R (r_skip R R R (r_skip R R R (r_skip R R R (r_skip R R R (r_skip R R R (r_skip R R R (r_skip R R R (r_skip R R R (r_pickF R R R R (r_movD R R R (r_skip R R R ?_))))))))))))))))))))))))))
  refine r_pickF R R R R (r_asgD R R R (ev_endD (by kernel_rfl) (then_norm (sw_ret ?_))))
  obtain rfl := sI h
  exact fin_0 (t := .d (.v (.bool false))) R R R (.cons (.tmp 4) .nil)
 intro c14
 replace h := ifN c14 h
 refine r_movD R R R (r_skip R R R (r_skip R R R (r_skip R R R (r_skip R R R (r_skip R R R (r_pickF R R R R (r_movD R R R (r_skip R R R (r_skip R R R (r_skip R R R (r_skip R R R (r_skip R R R (r_skip R R R (r_skip R R R (r_skip R R R (r_skip R R R (r_pickF R R R R (r_movD R R R (r_skip R R R (r_skip R R R (r_skip R R R (r_skip R R R (r_skip R R R (r_skip R R R (r_skip R R R (r_skip R R R ?_))))))))))))))))))))))))))
 refine r_skip R R R (r_skip R R R (r_skip R R R (r_pickF R R R R (r_movD R R R (r_skip R R R (r_pickF R R R R (r_asgD R R R (ev_endD (by kernel_rfl) (then_norm (sw_ret ?_))))))))))
 obtain rfl := sI h
 exact fin_0 (t := .d (.v (.bool false))) R R R (.cons (.tmp 4) .nil)
end Go.Proofs.Ytdefnmcjmklohaa
