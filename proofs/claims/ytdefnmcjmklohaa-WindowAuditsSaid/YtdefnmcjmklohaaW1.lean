/- What functions of the program compute: plain functions, and the proofs. -/
import Derived.Test.YtdefnmcjmklohaaW0
open Go Go.Proofs.Ytdefnmcjmklohaa.Sh Go.Proofs
namespace Go.Proofs.Ytdefnmcjmklohaa
set_option linter.unusedVariables false
set_option linter.unusedSimpArgs false
set_option maxRecDepth 100000
set_option maxHeartbeats 4000000
def window_out (F : Nat) (nv : Int) (lo : Int) (hi : Int) : Option Bool := if nv < lo then (some true) else (some (decide (hi < nv)))
theorem window_out_pc {F : Nat} {nv : Int} {lo : Int} {hi : Int} {r : Bool} (h : window_out F nv lo hi = some r) : PC Try.prog 45 [.v (.int .i64 nv), .v (.int .i64 lo), .v (.int .i64 hi)] (.v (.bool r)) := by
 rw [window_out] at h
 refine SC.of_sw Try.func45 R R R ?_
 dsimp only [argS, List.map]
 refine qG (r_asgD R R R (eN (qG (r_movD R R R (r_movD R R R ?_)))))
 refine r_lss R R R R ?_ ?_
 ·intro c
  replace h := ifP c h
  refine r_movD R R R (r_skip R R R (r_skip R R R (r_skip R R R (r_pickT R R R R (r_asgD R R R (eN (sw_ret ?_)))))))
  obtain rfl := sI h
  exact fin_0 (t := .d (.v (.bool true))) R R R (.cons (.tmp 6) .nil)
 intro c
 replace h := ifN (Int.not_lt.2 c) h
 refine r_movD R R R (r_movD R R R (r_movD R R R (r_gtrV R R R R (r_pickF R R R R (r_asgD R R R (eN (sw_ret ?_)))))))
 obtain rfl := sI h
 exact fin_0 (t := .d (.v (.bool (decide (hi < nv))))) R R R (.cons (.tmp 6) .nil)
def cmp_isNaN_int (F : Nat) (x : Int) : Option Bool := some (!decide (x = x))
theorem cmp_isNaN_int_pc {F : Nat} {x : Int} {r : Bool} (h : cmp_isNaN_int F x = some r) : PC Try.prog 74 [.v (.int .i64 x)] (.v (.bool r)) := by
 rw [cmp_isNaN_int] at h
 refine SC.of_sw Try.func74 R R R ?_
 dsimp only [argS, List.map]
 refine qG (r_asgD R R R (eN (qG (r_movD R R R (r_movD R R R (r_neqV R R R R (r_asgD R R R (eN (sw_ret ?_)))))))))
 obtain rfl := sI h
 exact fin_0 (t := .d (.v (.bool (!decide (x = x))))) R R R (.cons (.tmp 2) .nil)
def cmp_Compare_int (F : Nat) (x : Int) (y : Int) : Option Int := Option.bind (cmp_isNaN_int F x) fun rv => if rv = true then (Option.bind (cmp_isNaN_int F y) fun rv2 => if rv2 = true then (some 0) else (some (-1))) else (Option.bind (cmp_isNaN_int F y) fun rv3 => if rv3 = true then (some 1) else (if x < y then (some (-1)) else (if y < x then (some 1) else (some 0))))
theorem cmp_Compare_int_pc {F : Nat} {x : Int} {y : Int} {r : Int} (h : cmp_Compare_int F x y = some r) : PC Try.prog 53 [.v (.int .i64 x), .v (.int .i64 y)] (.v (.int .i64 r)) := by
 rw [cmp_Compare_int] at h
 refine SC.of_sw Try.func53 R R R ?_
 dsimp only [argS, List.map]
 refine qG (r_asgD R R R (eN (qG (r_movD R R R ?_))))
 obtain ⟨rv, hrv, h⟩ := bnd h
 refine r_callB (cmp_isNaN_int_pc hrv) (.of (by kernel_rfl)) R R R R ?_ ?_
 ·intro c
  replace h := ifP c h
  refine r_asgD R R R (eN (qG (r_movD R R R ?_)))
  obtain ⟨rv2, hrv2, h⟩ := bnd h
  refine r_callB (cmp_isNaN_int_pc hrv2) (.of (by kernel_rfl)) R R R R ?_ ?_
  ·intro c2
   replace h := ifP c2 h
   refine r_asgD R R R (eN (sw_seq (qG (r_movD R R R (eN (sw_condT R (sw_seq (qG (r_movD R R R (eN (sw_condT R (qG (r_asgD R R R (eN (sw_ret (then_ret (then_ret ?_)))))))))))))))))
   obtain rfl := sI h
   exact fin_0 (t := .d (.v (.int .i64 0))) R R R (.cons (.tmp 4) .nil)
  intro c2
  replace h := ifF c2 h
  refine r_asgD R R R (eN (sw_seq (qG (r_movD R R R (eN (sw_condT R (sw_seq (qG (r_movD R R R (eN (sw_condF R (sw_skip (then_norm (qG (r_asgD R R R (eN (sw_ret (then_ret ?_))))))))))))))))))
  obtain rfl := sI h
  exact fin_0 (t := .d (.v (.int .i64 (-1)))) R R R (.cons (.tmp 4) .nil)
 intro c
 replace h := ifF c h
 refine r_asgD R R R (eN (qG (r_movD R R R ?_)))
 obtain ⟨rv3, hrv3, h⟩ := bnd h
 refine r_callB (cmp_isNaN_int_pc hrv3) (.of (by kernel_rfl)) R R R R ?_ ?_
 ·intro c3
  replace h := ifP c3 h
  refine r_asgD R R R (eN (sw_seq (qG (r_movD R R R (eN (sw_condF R (sw_skip (then_norm (sw_seq (qG (r_movD R R R (eN (sw_condT R (qG (r_asgD R R R (eN (sw_ret (then_ret ?_))))))))))))))))))
  obtain rfl := sI h
  exact fin_0 (t := .d (.v (.int .i64 1))) R R R (.cons (.tmp 4) .nil)
 intro c3
 replace h := ifF c3 h
 refine r_asgD R R R (eN (sw_seq (qG (r_movD R R R (eN (sw_condF R (sw_skip (then_norm (sw_seq (qG (r_movD R R R (eN (sw_condF R (sw_skip (then_norm (sw_seq (qG (r_movD R R R (r_movD R R R ?_)))))))))))))))))))
 refine r_lss R R R R ?_ ?_
 ·intro c4
  replace h := ifP c4 h
  refine eN (sw_condT R (qG (r_asgD R R R (eN (sw_ret (then_ret ?_))))))
  obtain rfl := sI h
  exact fin_0 (t := .d (.v (.int .i64 (-1)))) R R R (.cons (.tmp 4) .nil)
 intro c4
 replace h := ifN (Int.not_lt.2 c4) h
 refine eN (sw_condF R (sw_skip (then_norm (sw_seq (qG (r_movD R R R (r_movD R R R ?_)))))))
 refine r_gtr R R R R ?_ ?_
 ·intro c5
  replace h := ifP c5 h
  refine eN (sw_condT R (qG (r_asgD R R R (eN (sw_ret (then_ret ?_))))))
  obtain rfl := sI h
  exact fin_0 (t := .d (.v (.int .i64 1))) R R R (.cons (.tmp 4) .nil)
 intro c5
 replace h := ifN (Int.not_lt.2 c5) h
 refine eN (sw_condF R (sw_skip (then_norm (qG (r_asgD R R R (eN (sw_ret ?_)))))))
 obtain rfl := sI h
 exact fin_0 (t := .d (.v (.int .i64 0))) R R R (.cons (.tmp 4) .nil)
def window_mixed_L1 (F : Nat) (lv : (List Int)) (K : Int → Int → Option Bool) : Nat → Int → Int → Option Bool
 | 0, _, _ => none
 | n + 1, before, x => if x < (lv.length : Int) then (Option.bind (ixO lv x) fun e => Option.bind (window_out F e (W (before + 1)) 9) fun rv => if rv = true then (some true) else (window_mixed_L1 F lv K n e (W (x + 1)))) else (K before x)
def window_mixed (F : Nat) (lv : (List Int)) : Option Bool := window_mixed_L1 F lv (fun (before : Int) (x : Int) => some false) F (-1) 0
theorem window_mixed_pc {F : Nat} {lv : (List Int)} {r : Bool} (h : window_mixed F lv = some r) : PC Try.prog 50 [.arr 1 ((lv).map vI)] (.v (.bool r)) := by
 rw [window_mixed] at h
 refine SC.of_sw Try.func50 R R R ?_
 dsimp only [argS, List.map]
 refine qG (r_asgD R R R (eN (qG (r_asgD R R R (eN (sw_seq (qG (r_movD R R R (r_lenM tb R R R R R (r_movD R R R (eN (sw_block ?_))))))))))))
 obtain ⟨K2, hK2, h⟩ : ∃ K, K = _ ∧ window_mixed_L1 F lv K F (-1) 0 = some r := ⟨_, rfl, h⟩
 refine sw_loop (st0 := ⟨[(2, .d (.v (.bool false))), (3, .d (.v (.int .i64 (-1)))), (6, .d (.arr 1 ((lv).map vI))), (7, .d (.v (.int .i64 (lv.length : Int)))), (8, .d (.v (.int .i64 0)))], []⟩) (κ := []) (fun m st => ∃ (before : Int) (x : Int), window_mixed_L1 F lv K2 m before x = some r ∧ st = ⟨[(2, .d (.v (.bool false))), (3, .d (.v (.int .i64 before))), (6, .d (.arr 1 ((lv).map vI))), (7, .d (.v (.int .i64 (lv.length : Int)))), (8, .d (.v (.int .i64 x)))], []⟩) (vwK R R .nil (.cons R R (.cons R R (.cons R R (.cons R R (.cons R R .nil)))))) ⟨(-1), 0, h, R⟩ ?_
 clear h
 rintro m2 st ⟨before, x, h, rfl⟩
 cases m2 with
 | zero => cases (show (none : Option Bool) = some r from h)
 | succ m2 =>
 rw [window_mixed_L1] at h
 refine qG ?_
 refine r_lss R R R R ?_ ?_
 ·intro c
  replace h := ifP c h
  refine eN (sw_seq (sw_condT R (sw_skip (then_norm (sw_seq (sw_block (qG ?_)))))))
  obtain ⟨e, ie, h⟩ := bnd h
  refine r_ixE tb R R R R R R (ix0 ie) (ix1m ie) R R (r_ldE (y := .v (.int .i64 e)) tb R R (ix2 (g := vI) ie) R R R R (r_asgD R R R (eN (sw_seq (qG (r_movD R R R (r_movD R R R (r_add R R R R ?_))))))))
  obtain ⟨rv, hrv, h⟩ := bnd h
  refine r_callB (window_out_pc hrv) (.of (by kernel_rfl)) R R R R ?_ ?_
  ·intro c2
   replace h := ifP c2 h
   refine eN (sw_condT R (qG (r_asgD R R R (eN (sw_ret (then_ret (block_ret (then_ret (then_ret (block_ret (then_ret ?_)))))))))))
   obtain rfl := sI h
   exact fin_0 (t := .d (.v (.bool true))) R R R (.cons (.tmp 2) .nil)
  intro c2
  replace h := ifF c2 h
  refine eN (sw_condF R (sw_skip (then_norm (sw_rg (r_movD R R R (r_asgD R R R (ev_end (block_norm (then_norm (sw_rg (r_add R R R R (r_movD R R R (eN ?_)))))))))))))
  exact ⟨m2, ⟨[(2, .d (.v (.bool false))), (3, .d (.v (.int .i64 e))), (6, .d (.arr 1 ((lv).map vI))), (7, .d (.v (.int .i64 (lv.length : Int)))), (8, .d (.v (.int .i64 (W (x + 1)))))], []⟩, [], Nat.lt_succ_self _, (vwK R R .nil (.cons R R (.cons R R (.cons R R (.cons R R (.cons R R .nil)))))), e, (W (x + 1)), h, R⟩
 intro c
 replace h := ifN (Int.not_lt.2 c) h
 refine eN (sw_seq (sw_condF R (sw_exit (then_exit (then_exit ?_)))))
 subst hK2
 refine block_exit (then_norm (qG (r_asgD R R R (eN (sw_ret ?_)))))
 obtain rfl := sI h
 exact fin_0 (t := .d (.v (.bool false))) R R R (.cons (.tmp 2) .nil)
def wind_out (F : Nat) (nv : Int) (lo : Int) (hi : Int) : Option Bool := if nv < lo then (some true) else (some (decide (hi < nv)))
theorem wind_out_pc {F : Nat} {nv : Int} {lo : Int} {hi : Int} {r : Bool} (h : wind_out F nv lo hi = some r) : PC Try.prog 71 [.v (.int .i64 nv), .v (.int .i64 lo), .v (.int .i64 hi)] (.v (.bool r)) := by
 rw [wind_out] at h
 refine SC.of_sw Try.func71 R R R ?_
 dsimp only [argS, List.map]
 refine qG (r_asgD R R R (eN (qG (r_movD R R R (r_movD R R R ?_)))))
 refine r_lss R R R R ?_ ?_
 ·intro c
  replace h := ifP c h
  refine r_movD R R R (r_skip R R R (r_skip R R R (r_skip R R R (r_pickT R R R R (r_asgD R R R (eN (sw_ret ?_)))))))
  obtain rfl := sI h
  exact fin_0 (t := .d (.v (.bool true))) R R R (.cons (.tmp 6) .nil)
 intro c
 replace h := ifN (Int.not_lt.2 c) h
 refine r_movD R R R (r_movD R R R (r_movD R R R (r_gtrV R R R R (r_pickF R R R R (r_asgD R R R (eN (sw_ret ?_)))))))
 obtain rfl := sI h
 exact fin_0 (t := .d (.v (.bool (decide (hi < nv))))) R R R (.cons (.tmp 6) .nil)
def wind_Name_L1 (F : Nat) (s : ByteArray) (K : Int → Option Bool) : Nat → Int → Option Bool
 | 0, _ => none
 | n + 1, x => if x < ((bytesL s).length : Int) then (Option.bind (ixO (bytesL s) x) fun e => if 97 ≤ e then (if e ≤ 122 then (wind_Name_L1 F s K n (W (x + 1))) else (if x = 0 then (some false) else (if e = 45 then (wind_Name_L1 F s K n (W (x + 1))) else (if 48 ≤ e then (if e ≤ 57 then (wind_Name_L1 F s K n (W (x + 1))) else (some false)) else (some false))))) else (if x = 0 then (some false) else (if e = 45 then (wind_Name_L1 F s K n (W (x + 1))) else (if 48 ≤ e then (if e ≤ 57 then (wind_Name_L1 F s K n (W (x + 1))) else (some false)) else (some false))))) else (K x)
def wind_Name (F : Nat) (s : ByteArray) : Option Bool := wind_Name_L1 F s (fun (x : Int) => Option.bind (wind_out F (s.size : Int) 1 24) fun rv => some (!rv)) F 0
theorem wind_Name_pc {F : Nat} {s : ByteArray} {r : Bool} (h : wind_Name F s = some r) : PC Try.prog 47 [.v (.string s)] (.v (.bool r)) := by
 rw [wind_Name] at h
 refine SC.of_sw Try.func47 R R R ?_
 dsimp only [argS, List.map]
 refine qG (r_asgD R R R (eN (sw_seq (qG (r_movD R R R (r_bytes R R R R R R (r_lenM tb R R R R R (r_movD R R R (eN (sw_block ?_))))))))))
 obtain ⟨K2, hK2, h⟩ : ∃ K, K = _ ∧ wind_Name_L1 F s K F 0 = some r := ⟨_, rfl, h⟩
 refine sw_loop (st0 := ⟨[(0, .d (.v (.string s))), (2, .d (.v (.bool false))), (6, .d (.arr 1 (((bytesL s)).map v8))), (7, .d (.v (.int .i64 ((bytesL s).length : Int)))), (8, .d (.v (.int .i64 0)))], []⟩) (κ := []) (fun m st => ∃ (x : Int), wind_Name_L1 F s K2 m x = some r ∧ st = ⟨[(0, .d (.v (.string s))), (2, .d (.v (.bool false))), (6, .d (.arr 1 (((bytesL s)).map v8))), (7, .d (.v (.int .i64 ((bytesL s).length : Int)))), (8, .d (.v (.int .i64 x)))], []⟩) (vwK R R .nil (.cons R R (.cons R R (.cons R R (.cons R R (.cons R R .nil)))))) ⟨0, h, R⟩ ?_
 clear h
 rintro m2 st ⟨x, h, rfl⟩
 cases m2 with
 | zero => cases (show (none : Option Bool) = some r from h)
 | succ m2 =>
 rw [wind_Name_L1] at h
 refine qG ?_
 refine r_lss R R R R ?_ ?_
 ·intro c
  replace h := ifP c h
  refine eN (sw_seq (sw_condT R (sw_skip (then_norm (sw_seq (sw_block (qG (r_movD R R R ?_))))))))
  obtain ⟨e, ie, h⟩ := bnd h
  refine r_ixE tb R R R R R R (ix0 ie) (ix1m ie) R R (r_ldE (y := .v (.int .u8 e)) tb R R (ix2 (g := v8) ie) R R R R (r_asgD R R R (r_asgD R R R (eN (qG (r_movD R R R ?_))))))
  refine r_geq R R R R ?_ ?_
  ·intro c2
   replace h := ifP c2 h
   refine r_movD R R R (r_movD R R R ?_)
   refine r_leq R R R R ?_ ?_
   ·intro c3
    replace h := ifP c3 h
    refine r_pickT R R R R (r_notT R R R (r_movD R R R (r_skip R R R (r_skip R R R (r_skip R R R (r_skip R R R (r_skip R R R (r_skip R R R (r_skip R R R (r_skip R R R (r_skip R R R (r_skip R R R (r_skip R R R (r_skip R R R (r_skip R R R (r_skip R R R (r_skip R R R (r_pickF R R R R (eN (sw_condF R (sw_skip (block_norm (then_norm (sw_rg (r_add R R R R (r_movD R R R (eN ?_)))))))))))))))))))))))))))
    exact ⟨m2, ⟨[(0, .d (.v (.string s))), (2, .d (.v (.bool false))), (6, .d (.arr 1 (((bytesL s)).map v8))), (7, .d (.v (.int .i64 ((bytesL s).length : Int)))), (8, .d (.v (.int .i64 (W (x + 1)))))], []⟩, [], Nat.lt_succ_self _, (vwK R R .nil (.cons R R (.cons R R (.cons R R (.cons R R (.cons R R .nil)))))), (W (x + 1)), h, R⟩
   intro c3
   replace h := ifN (Int.not_le.2 c3) h
   refine r_pickT R R R R (r_notF R R R (r_movD R R R (r_movD R R R ?_)))
   refine r_eql R R R R ?_ ?_
   ·intro c4
    replace h := ifP c4 h
    refine r_movD R R R (r_skip R R R (r_skip R R R (r_skip R R R (r_skip R R R (r_skip R R R (r_skip R R R (r_skip R R R (r_skip R R R (r_skip R R R (r_skip R R R (r_skip R R R (r_pickT R R R R (r_pickT R R R R (eN (sw_condT R (qG (r_asgD R R R (eN (sw_ret (block_ret (then_ret (then_ret (block_ret (then_ret ?_))))))))))))))))))))))))
    obtain rfl := sI h
    exact fin_0 (t := .d (.v (.bool false))) R R R (.cons (.tmp 2) .nil)
   intro c4
   replace h := ifN c4 h
   refine r_movD R R R (r_movD R R R ?_)
   refine r_neq R R R R ?_ ?_
   ·intro c5
    replace h := ifN c5 h
    refine r_movD R R R (r_movD R R R ?_)
    refine r_geq R R R R ?_ ?_
    ·intro c6
     replace h := ifP c6 h
     refine r_movD R R R (r_movD R R R ?_)
     refine r_leq R R R R ?_ ?_
     ·intro c7
      replace h := ifP c7 h
      refine r_pickT R R R R (r_notT R R R (r_pickT R R R R (r_pickF R R R R (r_pickT R R R R (eN (sw_condF R (sw_skip (block_norm (then_norm (sw_rg (r_add R R R R (r_movD R R R (eN ?_)))))))))))))
      exact ⟨m2, ⟨[(0, .d (.v (.string s))), (2, .d (.v (.bool false))), (6, .d (.arr 1 (((bytesL s)).map v8))), (7, .d (.v (.int .i64 ((bytesL s).length : Int)))), (8, .d (.v (.int .i64 (W (x + 1)))))], []⟩, [], Nat.lt_succ_self _, (vwK R R .nil (.cons R R (.cons R R (.cons R R (.cons R R (.cons R R .nil)))))), (W (x + 1)), h, R⟩
     intro c7
     replace h := ifN (Int.not_le.2 c7) h
     refine r_pickT R R R R (r_notF R R R (r_pickT R R R R (r_pickF R R R R (r_pickT R R R R (eN (sw_condT R (qG (r_asgD R R R (eN (sw_ret (block_ret (then_ret (then_ret (block_ret (then_ret ?_)))))))))))))))
     obtain rfl := sI h
     exact fin_0 (t := .d (.v (.bool false))) R R R (.cons (.tmp 2) .nil)
    intro c6
    replace h := ifN (Int.not_le.2 c6) h
    refine r_movD R R R (r_skip R R R (r_skip R R R (r_pickF R R R R (r_notF R R R (r_pickT R R R R (r_pickF R R R R (r_pickT R R R R (eN (sw_condT R (qG (r_asgD R R R (eN (sw_ret (block_ret (then_ret (then_ret (block_ret (then_ret ?_))))))))))))))))))
    obtain rfl := sI h
    exact fin_0 (t := .d (.v (.bool false))) R R R (.cons (.tmp 2) .nil)
   intro c5
   replace h := ifP c5 h
   refine r_movD R R R (r_skip R R R (r_skip R R R (r_skip R R R (r_skip R R R (r_skip R R R (r_skip R R R (r_skip R R R (r_pickF R R R R (r_pickF R R R R (r_pickT R R R R (eN (sw_condF R (sw_skip (block_norm (then_norm (sw_rg (r_add R R R R (r_movD R R R (eN ?_)))))))))))))))))))
   exact ⟨m2, ⟨[(0, .d (.v (.string s))), (2, .d (.v (.bool false))), (6, .d (.arr 1 (((bytesL s)).map v8))), (7, .d (.v (.int .i64 ((bytesL s).length : Int)))), (8, .d (.v (.int .i64 (W (x + 1)))))], []⟩, [], Nat.lt_succ_self _, (vwK R R .nil (.cons R R (.cons R R (.cons R R (.cons R R (.cons R R .nil)))))), (W (x + 1)), h, R⟩
  intro c2
  replace h := ifN (Int.not_le.2 c2) h
  refine r_movD R R R (r_skip R R R (r_skip R R R (r_pickF R R R R (r_notF R R R (r_movD R R R (r_movD R R R ?_))))))
  refine r_eql R R R R ?_ ?_
  ·intro c8
   replace h := ifP c8 h
   refine r_movD R R R (r_skip R R R (r_skip R R R (r_skip R R R (r_skip R R R (r_skip R R R (r_skip R R R (r_skip R R R (r_skip R R R (r_skip R R R (r_skip R R R (r_skip R R R (r_pickT R R R R (r_pickT R R R R (eN (sw_condT R (qG (r_asgD R R R (eN (sw_ret (block_ret (then_ret (then_ret (block_ret (then_ret ?_))))))))))))))))))))))))
   obtain rfl := sI h
   exact fin_0 (t := .d (.v (.bool false))) R R R (.cons (.tmp 2) .nil)
  intro c8
  replace h := ifN c8 h
  refine r_movD R R R (r_movD R R R ?_)
  refine r_neq R R R R ?_ ?_
  ·intro c9
   replace h := ifN c9 h
   refine r_movD R R R (r_movD R R R ?_)
   refine r_geq R R R R ?_ ?_
   ·intro c10
    replace h := ifP c10 h
    refine r_movD R R R (r_movD R R R ?_)
    refine r_leq R R R R ?_ ?_
    ·intro c11
     replace h := ifP c11 h
     refine r_pickT R R R R (r_notT R R R (r_pickT R R R R (r_pickF R R R R (r_pickT R R R R (eN (sw_condF R (sw_skip (block_norm (then_norm (sw_rg (r_add R R R R (r_movD R R R (eN ?_)))))))))))))
     exact ⟨m2, ⟨[(0, .d (.v (.string s))), (2, .d (.v (.bool false))), (6, .d (.arr 1 (((bytesL s)).map v8))), (7, .d (.v (.int .i64 ((bytesL s).length : Int)))), (8, .d (.v (.int .i64 (W (x + 1)))))], []⟩, [], Nat.lt_succ_self _, (vwK R R .nil (.cons R R (.cons R R (.cons R R (.cons R R (.cons R R .nil)))))), (W (x + 1)), h, R⟩
    intro c11
    replace h := ifN (Int.not_le.2 c11) h
    refine r_pickT R R R R (r_notF R R R (r_pickT R R R R (r_pickF R R R R (r_pickT R R R R (eN (sw_condT R (qG (r_asgD R R R (eN (sw_ret (block_ret (then_ret (then_ret (block_ret (then_ret ?_)))))))))))))))
    obtain rfl := sI h
    exact fin_0 (t := .d (.v (.bool false))) R R R (.cons (.tmp 2) .nil)
   intro c10
   replace h := ifN (Int.not_le.2 c10) h
   refine r_movD R R R (r_skip R R R (r_skip R R R (r_pickF R R R R (r_notF R R R (r_pickT R R R R (r_pickF R R R R (r_pickT R R R R (eN (sw_condT R (qG (r_asgD R R R (eN (sw_ret (block_ret (then_ret (then_ret (block_ret (then_ret ?_))))))))))))))))))
   obtain rfl := sI h
   exact fin_0 (t := .d (.v (.bool false))) R R R (.cons (.tmp 2) .nil)
  intro c9
  replace h := ifP c9 h
  refine r_movD R R R (r_skip R R R (r_skip R R R (r_skip R R R (r_skip R R R (r_skip R R R (r_skip R R R (r_skip R R R (r_pickF R R R R (r_pickF R R R R (r_pickT R R R R (eN (sw_condF R (sw_skip (block_norm (then_norm (sw_rg (r_add R R R R (r_movD R R R (eN ?_)))))))))))))))))))
  exact ⟨m2, ⟨[(0, .d (.v (.string s))), (2, .d (.v (.bool false))), (6, .d (.arr 1 (((bytesL s)).map v8))), (7, .d (.v (.int .i64 ((bytesL s).length : Int)))), (8, .d (.v (.int .i64 (W (x + 1)))))], []⟩, [], Nat.lt_succ_self _, (vwK R R .nil (.cons R R (.cons R R (.cons R R (.cons R R (.cons R R .nil)))))), (W (x + 1)), h, R⟩
 intro c
 replace h := ifN (Int.not_lt.2 c) h
 refine eN (sw_seq (sw_condF R (sw_exit (then_exit (then_exit ?_)))))
 subst hK2
 refine block_exit (then_norm (qG (r_movD R R R (r_lenS R R R R ?_))))
 obtain ⟨rv, hrv, h⟩ := bnd h
 refine r_call (wind_out_pc hrv) (.of (by kernel_rfl)) R R R R (r_not R R R (r_asgD R R R (eN (sw_ret ?_))))
 obtain rfl := sI h
 exact fin_0 (t := .d (.v (.bool (!rv)))) R R R (.cons (.tmp 2) .nil)
def slices_IndexFunc_Span_L1 (F : Nat) (s : (List Span)) (f : (Span → Option Bool)) (K : Int → Option Int) : Nat → Int → Option Int
 | 0, _ => none
 | n + 1, x => if x < (s.length : Int) then (Option.bind (ixO s x) fun e => Option.bind (f e) fun rv => if rv = true then (some x) else (slices_IndexFunc_Span_L1 F s f K n (W (x + 1)))) else (K x)
def slices_IndexFunc_Span (F : Nat) (s : (List Span)) (f : (Span → Option Bool)) : Option Int := slices_IndexFunc_Span_L1 F s f (fun (x : Int) => some (-1)) F 0
theorem slices_IndexFunc_Span_scr {F : Nat} {s : (List Span)} {f : (Span → Option Bool)} {r : Int} {fi : Nat} {fc : List D} (fh : ∀ {a0 : Span} {r : Bool}, f a0 = some r → PC Try.prog fi ([Span.d a0] ++ fc) (.v (.bool r))) (fe : Ent Try.prog fi) (h : slices_IndexFunc_Span F s f = some r) : SCR Try.prog 73 [.d (.arr 2 ((s).map Span.d)), .fn (.func fi) [] (fc.map .d)] [] (.d (.v (.int .i64 r))) (List.map some []) := by
 rw [slices_IndexFunc_Span] at h
 refine SC.of_sw Try.func73 R R R ?_
 dsimp only [argS, List.map]
 refine qG (r_asgD R R R (eN (sw_seq (qG (r_movD R R R (r_lenM tb R R R R R (r_movD R R R (eN (sw_block ?_)))))))))
 obtain ⟨K2, hK2, h⟩ : ∃ K, K = _ ∧ slices_IndexFunc_Span_L1 F s f K F 0 = some r := ⟨_, rfl, h⟩
 refine sw_loop (st0 := ⟨[(0, .d (.arr 2 ((s).map Span.d))), (1, .fn (.func fi) [] (fc.map .d)), (4, .d (.v (.int .i64 0))), (7, .d (.v (.int .i64 (s.length : Int)))), (8, .d (.v (.int .i64 0)))], []⟩) (κ := []) (fun m st => ∃ (x : Int), slices_IndexFunc_Span_L1 F s f K2 m x = some r ∧ st = ⟨[(0, .d (.arr 2 ((s).map Span.d))), (1, .fn (.func fi) [] (fc.map .d)), (4, .d (.v (.int .i64 0))), (7, .d (.v (.int .i64 (s.length : Int)))), (8, .d (.v (.int .i64 x)))], []⟩) (vwK R R .nil (.cons R R (.hof R (.cons R R (.cons R R (.cons R R .nil)))))) ⟨0, h, R⟩ ?_
 clear h
 rintro m2 st ⟨x, h, rfl⟩
 cases m2 with
 | zero => cases (show (none : Option Int) = some r from h)
 | succ m2 =>
 rw [slices_IndexFunc_Span_L1] at h
 refine qG ?_
 refine r_lss R R R R ?_ ?_
 ·intro c
  replace h := ifP c h
  refine eN (sw_seq (sw_condT R (sw_skip (then_norm (sw_seq (sw_block (qG (r_movD R R R (r_asgD R R R (eN (qG (r_movF R R R (r_movD R R R (r_movD R R R ?_))))))))))))))
  obtain ⟨e, ie, h⟩ := bnd h
  refine r_ixE tb R R R R R R (ix0 ie) (ix1m ie) R R (r_ldE (y := Span.d e) tb R R (ix2 (g := Span.d) ie) R R R R ?_)
  obtain ⟨rv, hrv, h⟩ := bnd h
  refine r_callH (vs := [Span.d e]) (fh hrv) fe R R R R ?_
  with_reducible apply ev_lit
  ·intro c2
   replace h := ifP c2 h
   refine eN (sw_condT R (qG (r_movD R R R (r_asgD R R R (eN (sw_ret (block_ret (then_ret (then_ret (block_ret (then_ret ?_)))))))))))
   obtain rfl := sI h
   exact fin_0 (t := .d (.v (.int .i64 x))) R R R (.cons (.tmp 4) .nil)
  intro c2
  replace h := ifF c2 h
  refine eN (sw_condF R (sw_skip (block_norm (then_norm (sw_rg (r_add R R R R (r_movD R R R (eN ?_))))))))
  exact ⟨m2, ⟨[(0, .d (.arr 2 ((s).map Span.d))), (1, .fn (.func fi) [] (fc.map .d)), (4, .d (.v (.int .i64 0))), (7, .d (.v (.int .i64 (s.length : Int)))), (8, .d (.v (.int .i64 (W (x + 1)))))], []⟩, [], Nat.lt_succ_self _, (vwK R R .nil (.cons R R (.hof R (.cons R R (.cons R R (.cons R R .nil)))))), (W (x + 1)), h, R⟩
 intro c
 replace h := ifN (Int.not_lt.2 c) h
 refine eN (sw_seq (sw_condF R (sw_exit (then_exit (then_exit ?_)))))
 subst hK2
 refine block_exit (then_norm (qG (r_asgD R R R (eN (sw_ret ?_)))))
 obtain rfl := sI h
 exact fin_0 (t := .d (.v (.int .i64 (-1)))) R R R (.cons (.tmp 4) .nil)
def slices_ContainsFunc_Span (F : Nat) (s : (List Span)) (f : (Span → Option Bool)) : Option Bool := Option.bind (slices_IndexFunc_Span F s f) fun rv => some (decide (0 ≤ rv))
theorem slices_ContainsFunc_Span_scr {F : Nat} {s : (List Span)} {f : (Span → Option Bool)} {r : Bool} {fi : Nat} {fc : List D} (fh : ∀ {a0 : Span} {r : Bool}, f a0 = some r → PC Try.prog fi ([Span.d a0] ++ fc) (.v (.bool r))) (fe : Ent Try.prog fi) (h : slices_ContainsFunc_Span F s f = some r) : SCR Try.prog 51 [.d (.arr 2 ((s).map Span.d)), .fn (.func fi) [] (fc.map .d)] [] (.d (.v (.bool r))) (List.map some []) := by
 rw [slices_ContainsFunc_Span] at h
 refine SC.of_sw Try.func51 R R R ?_
 dsimp only [argS, List.map]
 refine qG (r_asgD R R R (eN (qG (r_movD R R R (r_movF R R R ?_)))))
 obtain ⟨rv, hrv, h⟩ := bnd h
 refine r_callX (t' := .d (.v (.int .i64 rv))) (news' := []) (slices_IndexFunc_Span_scr (f := f) (fh := fh) (fe := fe) hrv) R .nil (.of (by kernel_rfl)) R R ((.cons (.d (.d _)) (.cons .hof .nil))) R .nil R R R ?_
 simp only [List.map_nil, List.append_nil]
 refine r_geqV R R R R (r_asgD R R R (eN (sw_ret ?_)))
 obtain rfl := sI h
 exact fin_0 (t := .d (.v (.bool (decide (0 ≤ rv))))) R R R (.cons (.tmp 4) .nil)
def slices_IndexFunc_int_L1 (F : Nat) (s : (List Int)) (f : (Int → Option Bool)) (K : Int → Option Int) : Nat → Int → Option Int
 | 0, _ => none
 | n + 1, x => if x < (s.length : Int) then (Option.bind (ixO s x) fun e => Option.bind (f e) fun rv => if rv = true then (some x) else (slices_IndexFunc_int_L1 F s f K n (W (x + 1)))) else (K x)
def slices_IndexFunc_int (F : Nat) (s : (List Int)) (f : (Int → Option Bool)) : Option Int := slices_IndexFunc_int_L1 F s f (fun (x : Int) => some (-1)) F 0
theorem slices_IndexFunc_int_scr {F : Nat} {s : (List Int)} {f : (Int → Option Bool)} {r : Int} {fi : Nat} {fc : List D} (fh : ∀ {a0 : Int} {r : Bool}, f a0 = some r → PC Try.prog fi ([.v (.int .i64 a0)] ++ fc) (.v (.bool r))) (fe : Ent Try.prog fi) (h : slices_IndexFunc_int F s f = some r) : SCR Try.prog 106 [.d (.arr 1 ((s).map vI)), .fn (.func fi) [] (fc.map .d)] [] (.d (.v (.int .i64 r))) (List.map some []) := by
 rw [slices_IndexFunc_int] at h
 refine SC.of_sw Try.func106 R R R ?_
 dsimp only [argS, List.map]
 refine qG (r_asgD R R R (eN (sw_seq (qG (r_movD R R R (r_lenM tb R R R R R (r_movD R R R (eN (sw_block ?_)))))))))
 obtain ⟨K2, hK2, h⟩ : ∃ K, K = _ ∧ slices_IndexFunc_int_L1 F s f K F 0 = some r := ⟨_, rfl, h⟩
 refine sw_loop (st0 := ⟨[(0, .d (.arr 1 ((s).map vI))), (1, .fn (.func fi) [] (fc.map .d)), (4, .d (.v (.int .i64 0))), (7, .d (.v (.int .i64 (s.length : Int)))), (8, .d (.v (.int .i64 0)))], []⟩) (κ := []) (fun m st => ∃ (x : Int), slices_IndexFunc_int_L1 F s f K2 m x = some r ∧ st = ⟨[(0, .d (.arr 1 ((s).map vI))), (1, .fn (.func fi) [] (fc.map .d)), (4, .d (.v (.int .i64 0))), (7, .d (.v (.int .i64 (s.length : Int)))), (8, .d (.v (.int .i64 x)))], []⟩) (vwK R R .nil (.cons R R (.hof R (.cons R R (.cons R R (.cons R R .nil)))))) ⟨0, h, R⟩ ?_
 clear h
 rintro m2 st ⟨x, h, rfl⟩
 cases m2 with
 | zero => cases (show (none : Option Int) = some r from h)
 | succ m2 =>
 rw [slices_IndexFunc_int_L1] at h
 refine qG ?_
 refine r_lss R R R R ?_ ?_
 ·intro c
  replace h := ifP c h
  refine eN (sw_seq (sw_condT R (sw_skip (then_norm (sw_seq (sw_block (qG (r_movD R R R (r_asgD R R R (eN (qG (r_movF R R R (r_movD R R R (r_movD R R R ?_))))))))))))))
  obtain ⟨e, ie, h⟩ := bnd h
  refine r_ixE tb R R R R R R (ix0 ie) (ix1m ie) R R (r_ldE (y := .v (.int .i64 e)) tb R R (ix2 (g := vI) ie) R R R R ?_)
  obtain ⟨rv, hrv, h⟩ := bnd h
  refine r_callH (vs := [.v (.int .i64 e)]) (fh hrv) fe R R R R ?_
  with_reducible apply ev_lit
  ·intro c2
   replace h := ifP c2 h
   refine eN (sw_condT R (qG (r_movD R R R (r_asgD R R R (eN (sw_ret (block_ret (then_ret (then_ret (block_ret (then_ret ?_)))))))))))
   obtain rfl := sI h
   exact fin_0 (t := .d (.v (.int .i64 x))) R R R (.cons (.tmp 4) .nil)
  intro c2
  replace h := ifF c2 h
  refine eN (sw_condF R (sw_skip (block_norm (then_norm (sw_rg (r_add R R R R (r_movD R R R (eN ?_))))))))
  exact ⟨m2, ⟨[(0, .d (.arr 1 ((s).map vI))), (1, .fn (.func fi) [] (fc.map .d)), (4, .d (.v (.int .i64 0))), (7, .d (.v (.int .i64 (s.length : Int)))), (8, .d (.v (.int .i64 (W (x + 1)))))], []⟩, [], Nat.lt_succ_self _, (vwK R R .nil (.cons R R (.hof R (.cons R R (.cons R R (.cons R R .nil)))))), (W (x + 1)), h, R⟩
 intro c
 replace h := ifN (Int.not_lt.2 c) h
 refine eN (sw_seq (sw_condF R (sw_exit (then_exit (then_exit ?_)))))
 subst hK2
 refine block_exit (then_norm (qG (r_asgD R R R (eN (sw_ret ?_)))))
 obtain rfl := sI h
 exact fin_0 (t := .d (.v (.int .i64 (-1)))) R R R (.cons (.tmp 4) .nil)
def slices_ContainsFunc_int (F : Nat) (s : (List Int)) (f : (Int → Option Bool)) : Option Bool := Option.bind (slices_IndexFunc_int F s f) fun rv => some (decide (0 ≤ rv))
theorem slices_ContainsFunc_int_scr {F : Nat} {s : (List Int)} {f : (Int → Option Bool)} {r : Bool} {fi : Nat} {fc : List D} (fh : ∀ {a0 : Int} {r : Bool}, f a0 = some r → PC Try.prog fi ([.v (.int .i64 a0)] ++ fc) (.v (.bool r))) (fe : Ent Try.prog fi) (h : slices_ContainsFunc_int F s f = some r) : SCR Try.prog 89 [.d (.arr 1 ((s).map vI)), .fn (.func fi) [] (fc.map .d)] [] (.d (.v (.bool r))) (List.map some []) := by
 rw [slices_ContainsFunc_int] at h
 refine SC.of_sw Try.func89 R R R ?_
 dsimp only [argS, List.map]
 refine qG (r_asgD R R R (eN (qG (r_movD R R R (r_movF R R R ?_)))))
 obtain ⟨rv, hrv, h⟩ := bnd h
 refine r_callX (t' := .d (.v (.int .i64 rv))) (news' := []) (slices_IndexFunc_int_scr (f := f) (fh := fh) (fe := fe) hrv) R .nil (.of (by kernel_rfl)) R R ((.cons (.d (.d _)) (.cons .hof .nil))) R .nil R R R ?_
 simp only [List.map_nil, List.append_nil]
 refine r_geqV R R R R (r_asgD R R R (eN (sw_ret ?_)))
 obtain rfl := sI h
 exact fin_0 (t := .d (.v (.bool (decide (0 ≤ rv))))) R R R (.cons (.tmp 4) .nil)
def slices_Index_int_L1 (F : Nat) (s : (List Int)) (v : Int) (K : Int → Option Int) : Nat → Int → Option Int
 | 0, _ => none
 | n + 1, x => if x < (s.length : Int) then (Option.bind (ixO s x) fun e => if v = e then (some x) else (slices_Index_int_L1 F s v K n (W (x + 1)))) else (K x)
def slices_Index_int (F : Nat) (s : (List Int)) (v : Int) : Option Int := slices_Index_int_L1 F s v (fun (x : Int) => some (-1)) F 0
theorem slices_Index_int_pc {F : Nat} {s : (List Int)} {v : Int} {r : Int} (h : slices_Index_int F s v = some r) : PC Try.prog 107 [.arr 1 ((s).map vI), .v (.int .i64 v)] (.v (.int .i64 r)) := by
 rw [slices_Index_int] at h
 refine SC.of_sw Try.func107 R R R ?_
 dsimp only [argS, List.map]
 refine qG (r_asgD R R R (eN (sw_seq (qG (r_movD R R R (r_lenM tb R R R R R (r_movD R R R (eN (sw_block ?_)))))))))
 obtain ⟨K2, hK2, h⟩ : ∃ K, K = _ ∧ slices_Index_int_L1 F s v K F 0 = some r := ⟨_, rfl, h⟩
 refine sw_loop (st0 := ⟨[(0, .d (.arr 1 ((s).map vI))), (1, .d (.v (.int .i64 v))), (4, .d (.v (.int .i64 0))), (7, .d (.v (.int .i64 (s.length : Int)))), (8, .d (.v (.int .i64 0)))], []⟩) (κ := []) (fun m st => ∃ (x : Int), slices_Index_int_L1 F s v K2 m x = some r ∧ st = ⟨[(0, .d (.arr 1 ((s).map vI))), (1, .d (.v (.int .i64 v))), (4, .d (.v (.int .i64 0))), (7, .d (.v (.int .i64 (s.length : Int)))), (8, .d (.v (.int .i64 x)))], []⟩) (vwK R R .nil (.cons R R (.cons R R (.cons R R (.cons R R (.cons R R .nil)))))) ⟨0, h, R⟩ ?_
 clear h
 rintro m2 st ⟨x, h, rfl⟩
 cases m2 with
 | zero => cases (show (none : Option Int) = some r from h)
 | succ m2 =>
 rw [slices_Index_int_L1] at h
 refine qG ?_
 refine r_lss R R R R ?_ ?_
 ·intro c
  replace h := ifP c h
  refine eN (sw_seq (sw_condT R (sw_skip (then_norm (sw_seq (sw_block (qG (r_movD R R R (r_asgD R R R (eN (qG (r_movD R R R (r_movD R R R (r_movD R R R ?_))))))))))))))
  obtain ⟨e, ie, h⟩ := bnd h
  refine r_ixE tb R R R R R R (ix0 ie) (ix1m ie) R R (r_ldE (y := .v (.int .i64 e)) tb R R (ix2 (g := vI) ie) R R R R ?_)
  refine r_eql R R R R ?_ ?_
  ·intro c2
   replace h := ifP c2 h
   refine eN (sw_condT R (qG (r_movD R R R (r_asgD R R R (eN (sw_ret (block_ret (then_ret (then_ret (block_ret (then_ret ?_)))))))))))
   obtain rfl := sI h
   exact fin_0 (t := .d (.v (.int .i64 x))) R R R (.cons (.tmp 4) .nil)
  intro c2
  replace h := ifN c2 h
  refine eN (sw_condF R (sw_skip (block_norm (then_norm (sw_rg (r_add R R R R (r_movD R R R (eN ?_))))))))
  exact ⟨m2, ⟨[(0, .d (.arr 1 ((s).map vI))), (1, .d (.v (.int .i64 v))), (4, .d (.v (.int .i64 0))), (7, .d (.v (.int .i64 (s.length : Int)))), (8, .d (.v (.int .i64 (W (x + 1)))))], []⟩, [], Nat.lt_succ_self _, (vwK R R .nil (.cons R R (.cons R R (.cons R R (.cons R R (.cons R R .nil)))))), (W (x + 1)), h, R⟩
 intro c
 replace h := ifN (Int.not_lt.2 c) h
 refine eN (sw_seq (sw_condF R (sw_exit (then_exit (then_exit ?_)))))
 subst hK2
 refine block_exit (then_norm (qG (r_asgD R R R (eN (sw_ret ?_)))))
 obtain rfl := sI h
 exact fin_0 (t := .d (.v (.int .i64 (-1)))) R R R (.cons (.tmp 4) .nil)
def slices_Contains_int (F : Nat) (s : (List Int)) (v : Int) : Option Bool := Option.bind (slices_Index_int F s v) fun rv => some (decide (0 ≤ rv))
theorem slices_Contains_int_pc {F : Nat} {s : (List Int)} {v : Int} {r : Bool} (h : slices_Contains_int F s v = some r) : PC Try.prog 91 [.arr 1 ((s).map vI), .v (.int .i64 v)] (.v (.bool r)) := by
 rw [slices_Contains_int] at h
 refine SC.of_sw Try.func91 R R R ?_
 dsimp only [argS, List.map]
 refine qG (r_asgD R R R (eN (qG (r_movD R R R (r_movD R R R ?_)))))
 obtain ⟨rv, hrv, h⟩ := bnd h
 refine r_call (slices_Index_int_pc hrv) (.of (by kernel_rfl)) R R R R (r_geqV R R R R (r_asgD R R R (eN (sw_ret ?_))))
 obtain rfl := sI h
 exact fin_0 (t := .d (.v (.bool (decide (0 ≤ rv))))) R R R (.cons (.tmp 4) .nil)
def window_compare_L1 (F : Nat) (pairs : (List Arr2Int)) (K : Int → Option Int) : Nat → Int → Option Int
 | 0, _ => none
 | n + 1, x => if x < (pairs.length : Int) then (Option.bind (ixO pairs x) fun e => Option.bind (cmp_Compare_int F e.c0 e.c1) fun rv => if rv = 0 then (window_compare_L1 F pairs K n (W (x + 1))) else (some rv)) else (K x)
def window_compare (F : Nat) (pairs : (List Arr2Int)) : Option Int := window_compare_L1 F pairs (fun (x : Int) => some 0) F 0
theorem window_compare_pc {F : Nat} {pairs : (List Arr2Int)} {r : Int} (h : window_compare F pairs = some r) : PC Try.prog 105 [.arr 2 ((pairs).map Arr2Int.d)] (.v (.int .i64 r)) := by
 rw [window_compare] at h
 refine SC.of_sw Try.func105 R R R ?_
 dsimp only [argS, List.map]
 refine qG (r_asgD R R R (eN (sw_seq (qG (r_movD R R R (r_lenM tb R R R R R (r_movD R R R (eN (sw_block ?_)))))))))
 obtain ⟨K2, hK2, h⟩ : ∃ K, K = _ ∧ window_compare_L1 F pairs K F 0 = some r := ⟨_, rfl, h⟩
 refine sw_loop (st0 := ⟨[(2, .d (.v (.int .i64 0))), (6, .d (.arr 2 ((pairs).map Arr2Int.d))), (7, .d (.v (.int .i64 (pairs.length : Int)))), (8, .d (.v (.int .i64 0)))], []⟩) (κ := []) (fun m st => ∃ (x : Int), window_compare_L1 F pairs K2 m x = some r ∧ st = ⟨[(2, .d (.v (.int .i64 0))), (6, .d (.arr 2 ((pairs).map Arr2Int.d))), (7, .d (.v (.int .i64 (pairs.length : Int)))), (8, .d (.v (.int .i64 x)))], []⟩) (vwK R R .nil (.cons R R (.cons R R (.cons R R (.cons R R .nil))))) ⟨0, h, R⟩ ?_
 clear h
 rintro m2 st ⟨x, h, rfl⟩
 cases m2 with
 | zero => cases (show (none : Option Int) = some r from h)
 | succ m2 =>
 rw [window_compare_L1] at h
 refine qG ?_
 refine r_lss R R R R ?_ ?_
 ·intro c
  replace h := ifP c h
  refine eN (sw_seq (sw_condT R (sw_skip (then_norm (sw_seq (sw_block (qG ?_)))))))
  obtain ⟨e, ie, h⟩ := bnd h
  refine r_ixE tb R R R R R R (ix0 ie) (ix1m ie) R R (r_ldE (y := Arr2Int.d e) tb R R (ix2 (g := Arr2Int.d) ie) R R R R (r_alloc tb R R R R R (r_stE _ ([some ⟨2, [.d (Arr2Int.d e)]⟩]) tb R R R R R R R R R R R R (eN (qG (r_ixA tb R R R R R (by decide) (by decide) R R (r_ldD (y := .v (.int .i64 e.c0)) tb R R R R R R R R R (r_ixA tb R R R R R (by decide) (by decide) R R (r_ldD (y := .v (.int .i64 e.c1)) tb R R R R R R R R R ?_)))))))))
  obtain ⟨rv, hrv, h⟩ := bnd h
  refine r_call (cmp_Compare_int_pc hrv) (.of (by kernel_rfl)) R R R R (r_asgD R R R (eN (qG (r_movD R R R ?_))))
  refine r_neq R R R R ?_ ?_
  ·intro c2
   replace h := ifN c2 h
   refine eN (sw_condT R (qG (r_movD R R R (r_asgD R R R (eN (sw_ret (block_ret (then_ret (then_ret (block_ret (then_ret ?_)))))))))))
   obtain rfl := sI h
   exact fin_0 (t := .d (.v (.int .i64 rv))) R R R (.cons (.tmp 2) .nil)
  intro c2
  replace h := ifP c2 h
  refine eN (sw_condF R (sw_skip (block_norm (then_norm (sw_rg (r_add R R R R (r_movD R R R (eN ?_))))))))
  exact ⟨m2, ⟨[(2, .d (.v (.int .i64 0))), (6, .d (.arr 2 ((pairs).map Arr2Int.d))), (7, .d (.v (.int .i64 (pairs.length : Int)))), (8, .d (.v (.int .i64 (W (x + 1)))))], []⟩, [], Nat.lt_succ_self _, (vwK R R .nil (.cons R R (.cons R R (.cons R R (.cons R R .nil))))), (W (x + 1)), h, R⟩
 intro c
 replace h := ifN (Int.not_lt.2 c) h
 refine eN (sw_seq (sw_condF R (sw_exit (then_exit (then_exit ?_)))))
 subst hK2
 refine block_exit (then_norm (qG (r_asgD R R R (eN (sw_ret ?_)))))
 obtain rfl := sI h
 exact fin_0 (t := .d (.v (.int .i64 0))) R R R (.cons (.tmp 2) .nil)
def window_table_order (F : Nat) (t : Table) (o : Int) (a : Int) : Option Int := Option.bind (ixO t.p_Teams a) fun e => Option.bind (ixO t.p_Teams o) fun e2 => Option.bind (ixO t.s_Credit a) fun e3 => Option.bind (ixO t.s_Credit o) fun e4 => Option.bind (ixO t.s_Used o) fun e5 => Option.bind (ixO t.s_Used a) fun e6 => Option.bind (ixO t.s_Last o) fun e7 => Option.bind (ixO t.s_Last a) fun e8 => Option.bind (window_compare F [(Arr2Int.mk e.priority e2.priority), (Arr2Int.mk e3 e4), (Arr2Int.mk e5 e6), (Arr2Int.mk e7 e8), (Arr2Int.mk o a)]) fun rv => some rv
theorem window_table_order_pc {F : Nat} {t : Table} {o : Int} {a : Int} {r : Int} (h : window_table_order F t o a = some r) : PC Try.prog 82 [.el 22 (([t]).map Table.d) ((0 : Int)).toNat 0, .v (.int .i64 o), .v (.int .i64 a)] (.v (.int .i64 r)) := by
 rw [window_table_order] at h
 refine SC.of_sw Try.func82 R R R ?_
 dsimp only [argS, List.map]
 refine qG (r_asgD R R R (eN (qG (r_movD R R R (r_nilEl R R R (r_faE tb R R R R R R R (r_ldE (y := .agg [.arr 1 ((t.s_Used).map vI), .arr 1 ((t.s_Credit).map vI), .arr 1 ((t.s_Last).map vI), .v (.int .i64 t.s_Next)]) tb R R (ix2 (g := Table.d) (R : ixO [t] 0 = some t)) R R R R (r_alloc tb R R R R R (r_stE _ ([some ⟨4, [.d (.agg [.arr 1 ((t.s_Used).map vI), .arr 1 ((t.s_Credit).map vI), .arr 1 ((t.s_Last).map vI), .v (.int .i64 t.s_Next)])]⟩]) tb R R R R R R R R R R R R (eN (sw_seq ?_)))))))))))
 refine sw_dr (by kernel_rfl) (r_movD R R R (r_nilEl R R R (r_faE tb R R R R R R R (r_faE tb R R R R R R R (r_ldE (y := .arr 9 ((t.p_Teams).map WiTeam.d)) tb R R (ix2 (g := Table.d) (R : ixO [t] 0 = some t)) R R R R (r_movD R R R ?_))))))
 obtain ⟨e, ie, h⟩ := bnd h
 refine r_ixE tb R R R R R R (ix0 ie) (ix1m ie) R R (r_faE tb R R R R R R R (r_ldE (y := .v (.int .i64 e.priority)) tb R R (ix2 (g := WiTeam.d) ie) R R R R (r_movD R R R (r_nilEl R R R (r_faE tb R R R R R R R (r_faE tb R R R R R R R (r_ldE (y := .arr 9 ((t.p_Teams).map WiTeam.d)) tb R R (ix2 (g := Table.d) (R : ixO [t] 0 = some t)) R R R R (r_movD R R R ?_))))))))
 obtain ⟨e2, ie2, h⟩ := bnd h
 refine r_ixE tb R R R R R R (ix0 ie2) (ix1m ie2) R R (r_faE tb R R R R R R R (r_ldE (y := .v (.int .i64 e2.priority)) tb R R (ix2 (g := WiTeam.d) ie2) R R R R (r_buildA (v := .d (.agg [.v (.int .i64 e.priority), .v (.int .i64 e2.priority)])) tb R R R R R R R R R (r_fa tb R R R R R R R (r_ldD (y := .arr 1 ((t.s_Credit).map vI)) tb R R R R R R R R R (r_movD R R R ?_))))))
 obtain ⟨e3, ie3, h⟩ := bnd h
 refine r_ixE tb R R R R R R (ix0 ie3) (ix1m ie3) R R (r_ldE (y := .v (.int .i64 e3)) tb R R (ix2 (g := vI) ie3) R R R R (r_fa tb R R R R R R R (r_ldD (y := .arr 1 ((t.s_Credit).map vI)) tb R R R R R R R R R (r_movD R R R ?_))))
 obtain ⟨e4, ie4, h⟩ := bnd h
 refine r_ixE tb R R R R R R (ix0 ie4) (ix1m ie4) R R (r_ldE (y := .v (.int .i64 e4)) tb R R (ix2 (g := vI) ie4) R R R R (r_buildA (v := .d (.agg [.v (.int .i64 e3), .v (.int .i64 e4)])) tb R R R R R R R R R (r_fa tb R R R R R R R (r_ldD (y := .arr 1 ((t.s_Used).map vI)) tb R R R R R R R R R (r_movD R R R ?_)))))
 obtain ⟨e5, ie5, h⟩ := bnd h
 refine r_ixE tb R R R R R R (ix0 ie5) (ix1m ie5) R R (r_ldE (y := .v (.int .i64 e5)) tb R R (ix2 (g := vI) ie5) R R R R (r_fa tb R R R R R R R (r_ldD (y := .arr 1 ((t.s_Used).map vI)) tb R R R R R R R R R (r_movD R R R ?_))))
 obtain ⟨e6, ie6, h⟩ := bnd h
 refine r_ixE tb R R R R R R (ix0 ie6) (ix1m ie6) R R (r_ldE (y := .v (.int .i64 e6)) tb R R (ix2 (g := vI) ie6) R R R R (r_buildA (v := .d (.agg [.v (.int .i64 e5), .v (.int .i64 e6)])) tb R R R R R R R R R (r_fa tb R R R R R R R (r_ldD (y := .arr 1 ((t.s_Last).map vI)) tb R R R R R R R R R (r_movD R R R ?_)))))
 obtain ⟨e7, ie7, h⟩ := bnd h
 refine r_ixE tb R R R R R R (ix0 ie7) (ix1m ie7) R R (r_ldE (y := .v (.int .i64 e7)) tb R R (ix2 (g := vI) ie7) R R R R (r_fa tb R R R R R R R (r_ldD (y := .arr 1 ((t.s_Last).map vI)) tb R R R R R R R R R (r_movD R R R ?_))))
 obtain ⟨e8, ie8, h⟩ := bnd h
 refine r_ixE tb R R R R R R (ix0 ie8) (ix1m ie8) R R (r_ldE (y := .v (.int .i64 e8)) tb R R (ix2 (g := vI) ie8) R R R R (r_buildA (v := .d (.agg [.v (.int .i64 e7), .v (.int .i64 e8)])) tb R R R R R R R R R (r_movD R R R (r_movD R R R (r_buildA (v := .d (.agg [.v (.int .i64 o), .v (.int .i64 a)])) tb R R R R R R R R R (r_bslice tb R R R R R R R R R R R R R ?_))))))
 obtain ⟨rv, hrv, h⟩ := bnd h
 refine r_callL (window_compare_pc hrv) R (.of (by kernel_rfl)) R R ((.cons (.row R R) .nil)) R R (r_asgD R R R (ev_endD (by kernel_rfl) (then_norm (sw_ret ?_))))
 obtain rfl := sI h
 exact fin_0 (t := .d (.v (.int .i64 rv))) R R R (.cons (.tmp 6) .nil)
def window_table_why_1 (F : Nat) (c : Table) (c2 : Int) (c3 : WiTeam) : Option Bool := Option.bind (ixO c.s_Used c2) fun e => some (decide (c3.need ≤ e))
theorem window_table_why_1_pc {F : Nat} {c : Table} {c2 : Int} {c3 : WiTeam} {r : Bool} (h : window_table_why_1 F c c2 c3 = some r) : PC Try.prog 84 [.el 1 (([c]).map (fun x => D.el 22 [Table.d x] 0 0)) ((0 : Int)).toNat 0, .el 1 (([c2]).map vI) ((0 : Int)).toNat 0, .el 9 (([c3]).map WiTeam.d) ((0 : Int)).toNat 0] (.v (.bool r)) := by
 rw [window_table_why_1] at h
 refine SC.of_sw Try.func84 R R R ?_
 dsimp only [argS, List.map]
 refine qG (r_asgD R R R (eN (sw_seq (sw_dr (by kernel_rfl) ?_))))
 refine r_ldE (y := .el 22 (([c]).map Table.d) ((0 : Int)).toNat 0) tb R R (ix2 (g := (fun x => D.el 22 [Table.d x] 0 0)) (R : ixO [c] 0 = some c)) R R R R ?_
 refine r_nilEl R R R (r_faE tb R R R R R R R (r_faE tb R R R R R R R (r_ldE (y := .arr 1 ((c.s_Used).map vI)) tb R R (ix2 (g := Table.d) (R : ixO [c] 0 = some c)) R R R R (r_ldE (y := .v (.int .i64 c2)) tb R R (ix2 (g := vI) (R : ixO [c2] 0 = some c2)) R R R R ?_))))
 obtain ⟨e, ie, h⟩ := bnd h
 refine r_ixE tb R R R R R R (ix0 ie) (ix1m ie) R R (r_ldE (y := .v (.int .i64 e)) tb R R (ix2 (g := vI) ie) R R R R (r_faE tb R R R R R R R (r_ldE (y := .v (.int .i64 c3.need)) tb R R (ix2 (g := WiTeam.d) (R : ixO [c3] 0 = some c3)) R R R R (r_geqV R R R R (r_asgD R R R (ev_endD (by kernel_rfl) (then_norm (sw_ret ?_))))))))
 obtain rfl := sI h
 exact fin_0 (t := .d (.v (.bool (decide (c3.need ≤ e))))) R R R (.cons (.tmp 3) .nil)
def window_table_why_2_1 (F : Nat) (a : Span) (c : Table) : Option Bool := Option.bind (window_out F c.w_Day a.lo a.hi) fun rv => some (!rv)
theorem window_table_why_2_1_pc {F : Nat} {a : Span} {c : Table} {r : Bool} (h : window_table_why_2_1 F a c = some r) : PC Try.prog 86 [Span.d a, .el 1 (([c]).map (fun x => D.el 22 [Table.d x] 0 0)) ((0 : Int)).toNat 0] (.v (.bool r)) := by
 rw [window_table_why_2_1] at h
 refine SC.of_sw Try.func86 R R R ?_
 dsimp only [argS, List.map]
 refine qG (r_box R R R R R R R (r_asgD R R R (eN (sw_seq (sw_dr (by kernel_rfl) ?_)))))
 refine r_ldE (y := .el 22 (([c]).map Table.d) ((0 : Int)).toNat 0) tb R R (ix2 (g := (fun x => D.el 22 [Table.d x] 0 0)) (R : ixO [c] 0 = some c)) R R R R ?_
 refine r_nilEl R R R (r_faE tb R R R R R R R (r_faE tb R R R R R R R (r_ldE (y := .v (.int .i64 c.w_Day)) tb R R (ix2 (g := Table.d) (R : ixO [c] 0 = some c)) R R R R (r_fa tb R R R R R R R (r_ldD (y := .v (.int .i64 a.lo)) tb R R R R R R R R R (r_fa tb R R R R R R R (r_ldD (y := .v (.int .i64 a.hi)) tb R R R R R R R R R ?_)))))))
 obtain ⟨rv, hrv, h⟩ := bnd h
 refine r_call (window_out_pc hrv) (.of (by kernel_rfl)) R R R R (r_not R R R (r_asgD R R R (ev_endD (by kernel_rfl) (then_norm (sw_ret ?_)))))
 obtain rfl := sI h
 exact fin_0 (t := .d (.v (.bool (!rv)))) R R R (.cons (.tmp 3) .nil)
def window_table_why_2 (F : Nat) (c : WiTeam) (c2 : Table) : Option Bool := Option.bind (slices_ContainsFunc_Span F c.away (fun a0 => window_table_why_2_1 F a0 c2)) fun rv => some rv
theorem window_table_why_2_pc {F : Nat} {c : WiTeam} {c2 : Table} {r : Bool} (h : window_table_why_2 F c c2 = some r) : PC Try.prog 85 [.el 9 (([c]).map WiTeam.d) ((0 : Int)).toNat 0, .el 1 (([c2]).map (fun x => D.el 22 [Table.d x] 0 0)) ((0 : Int)).toNat 0] (.v (.bool r)) := by
 rw [window_table_why_2] at h
 refine SC.of_sw Try.func85 R R R ?_
 dsimp only [argS, List.map]
 refine qG (r_asgD R R R (eN (qG (r_faE tb R R R R R R R (r_ldE (y := .arr 2 ((c.away).map Span.d)) tb R R (ix2 (g := WiTeam.d) (R : ixO [c] 0 = some c)) R R R R (r_func R R R R ?_))))))
 obtain ⟨rv, hrv, h⟩ := bnd h
 refine r_callX (t' := .d (.v (.bool rv))) (news' := []) (slices_ContainsFunc_Span_scr (f := (fun a0 => window_table_why_2_1 F a0 c2)) (fc := [.el 1 (([c2]).map (fun x => D.el 22 [Table.d x] 0 0)) ((0 : Int)).toNat 0]) (fh := fun hr => window_table_why_2_1_pc hr) (fe := .of (by kernel_rfl)) hrv) R .nil (.of (by kernel_rfl)) R R ((.cons (.d (.d _)) (.cons (.fnC (.cons (.d (.d _)) .nil)) .nil))) R .nil R R R ?_
 simp only [List.map_nil, List.append_nil]
 refine r_asgD R R R (eN (sw_ret ?_))
 obtain rfl := sI h
 exact fin_0 (t := .d (.v (.bool rv))) R R R (.cons (.tmp 2) .nil)
def window_table_why_3 (F : Nat) (c : Int) (c2 : Table) (c3 : WiTeam) : Option Bool := if 0 ≤ c then (some (decide ((W (c2.w_Day - c)) < c3.rest))) else (some false)
theorem window_table_why_3_pc {F : Nat} {c : Int} {c2 : Table} {c3 : WiTeam} {r : Bool} (h : window_table_why_3 F c c2 c3 = some r) : PC Try.prog 87 [.el 1 (([c]).map vI) ((0 : Int)).toNat 0, .el 1 (([c2]).map (fun x => D.el 22 [Table.d x] 0 0)) ((0 : Int)).toNat 0, .el 9 (([c3]).map WiTeam.d) ((0 : Int)).toNat 0] (.v (.bool r)) := by
 rw [window_table_why_3] at h
 refine SC.of_sw Try.func87 R R R ?_
 dsimp only [argS, List.map]
 refine qG (r_asgD R R R (eN (sw_seq (sw_dr (by kernel_rfl) (r_ldE (y := .v (.int .i64 c)) tb R R (ix2 (g := vI) (R : ixO [c] 0 = some c)) R R R R ?_)))))
 refine r_geq R R R R ?_ ?_
 ·intro c4
  replace h := ifP c4 h
  refine r_movD R R R ?_
  refine r_ldE (y := .el 22 (([c2]).map Table.d) ((0 : Int)).toNat 0) tb R R (ix2 (g := (fun x => D.el 22 [Table.d x] 0 0)) (R : ixO [c2] 0 = some c2)) R R R R ?_
  refine r_nilEl R R R (r_faE tb R R R R R R R (r_faE tb R R R R R R R (r_ldE (y := .v (.int .i64 c2.w_Day)) tb R R (ix2 (g := Table.d) (R : ixO [c2] 0 = some c2)) R R R R (r_ldE (y := .v (.int .i64 c)) tb R R (ix2 (g := vI) (R : ixO [c] 0 = some c)) R R R R (r_sub R R R R (r_faE tb R R R R R R R (r_ldE (y := .v (.int .i64 c3.rest)) tb R R (ix2 (g := WiTeam.d) (R : ixO [c3] 0 = some c3)) R R R R (r_lssV R R R R (r_pickT R R R R (r_asgD R R R ?_))))))))))
  refine ev_endD (by kernel_rfl) (then_norm (sw_ret ?_))
  obtain rfl := sI h
  exact fin_0 (t := .d (.v (.bool (decide ((W (c2.w_Day - c)) < c3.rest))))) R R R (.cons (.tmp 3) .nil)
 intro c4
 replace h := ifN (Int.not_le.2 c4) h
 refine r_movD R R R (r_skip R R R (r_skip R R R (r_skip R R R (r_skip R R R (r_skip R R R (r_skip R R R (r_skip R R R (r_skip R R R (r_skip R R R (r_skip R R R (r_pickF R R R R (r_asgD R R R (ev_endD (by kernel_rfl) (then_norm (sw_ret ?_)))))))))))))))
 obtain rfl := sI h
 exact fin_0 (t := .d (.v (.bool false))) R R R (.cons (.tmp 3) .nil)
def window_table_why_4_1 (F : Nat) (k : Int) (c : Table) : Option Bool := Option.bind (slices_Contains_int F c.sky_Kinds k) fun rv => some rv
theorem window_table_why_4_1_pc {F : Nat} {k : Int} {c : Table} {r : Bool} (h : window_table_why_4_1 F k c = some r) : PC Try.prog 90 [.v (.int .i64 k), .el 1 (([c]).map (fun x => D.el 22 [Table.d x] 0 0)) ((0 : Int)).toNat 0] (.v (.bool r)) := by
 rw [window_table_why_4_1] at h
 refine SC.of_sw Try.func90 R R R ?_
 dsimp only [argS, List.map]
 refine qG (r_asgD R R R (eN (qG ?_)))
 refine r_ldE (y := .el 22 (([c]).map Table.d) ((0 : Int)).toNat 0) tb R R (ix2 (g := (fun x => D.el 22 [Table.d x] 0 0)) (R : ixO [c] 0 = some c)) R R R R ?_
 refine r_nilEl R R R (r_faE tb R R R R R R R (r_faE tb R R R R R R R (r_ldE (y := .arr 1 ((c.sky_Kinds).map vI)) tb R R (ix2 (g := Table.d) (R : ixO [c] 0 = some c)) R R R R (r_movD R R R ?_))))
 obtain ⟨rv, hrv, h⟩ := bnd h
 refine r_call (slices_Contains_int_pc hrv) (.of (by kernel_rfl)) R R R R (r_asgD R R R (eN (sw_ret ?_)))
 obtain rfl := sI h
 exact fin_0 (t := .d (.v (.bool rv))) R R R (.cons (.tmp 3) .nil)
def window_table_why_4 (F : Nat) (c : WiTeam) (c2 : Table) : Option Bool := if 0 < (c.kinds.length : Int) then (Option.bind (slices_ContainsFunc_int F c.kinds (fun a0 => window_table_why_4_1 F a0 c2)) fun rv => some (!rv)) else (some false)
theorem window_table_why_4_pc {F : Nat} {c : WiTeam} {c2 : Table} {r : Bool} (h : window_table_why_4 F c c2 = some r) : PC Try.prog 88 [.el 9 (([c]).map WiTeam.d) ((0 : Int)).toNat 0, .el 1 (([c2]).map (fun x => D.el 22 [Table.d x] 0 0)) ((0 : Int)).toNat 0] (.v (.bool r)) := by
 rw [window_table_why_4] at h
 refine SC.of_sw Try.func88 R R R ?_
 dsimp only [argS, List.map]
 refine qG (r_asgD R R R (eN (qG (r_faE tb R R R R R R R (r_ldE (y := .arr 1 ((c.kinds).map vI)) tb R R (ix2 (g := WiTeam.d) (R : ixO [c] 0 = some c)) R R R R (r_lenM tb R R R R R ?_))))))
 refine r_gtr R R R R ?_ ?_
 ·intro c3
  replace h := ifP c3 h
  refine r_movD R R R (r_faE tb R R R R R R R (r_ldE (y := .arr 1 ((c.kinds).map vI)) tb R R (ix2 (g := WiTeam.d) (R : ixO [c] 0 = some c)) R R R R (r_func R R R R ?_)))
  obtain ⟨rv, hrv, h⟩ := bnd h
  refine r_callX (t' := .d (.v (.bool rv))) (news' := []) (slices_ContainsFunc_int_scr (f := (fun a0 => window_table_why_4_1 F a0 c2)) (fc := [.el 1 (([c2]).map (fun x => D.el 22 [Table.d x] 0 0)) ((0 : Int)).toNat 0]) (fh := fun hr => window_table_why_4_1_pc hr) (fe := .of (by kernel_rfl)) hrv) R .nil (.of (by kernel_rfl)) R R ((.cons (.d (.d _)) (.cons (.fnC (.cons (.d (.d _)) .nil)) .nil))) R .nil R R R ?_
  simp only [List.map_nil, List.append_nil]
  refine r_not R R R (r_pickT R R R R (r_asgD R R R (eN (sw_ret ?_))))
  obtain rfl := sI h
  exact fin_0 (t := .d (.v (.bool (!rv)))) R R R (.cons (.tmp 2) .nil)
 intro c3
 replace h := ifN (Int.not_lt.2 c3) h
 refine r_movD R R R (r_skip R R R (r_skip R R R (r_skip R R R (r_skip R R R (r_skip R R R (r_pickF R R R R (r_asgD R R R (eN (sw_ret ?_)))))))))
 obtain rfl := sI h
 exact fin_0 (t := .d (.v (.bool false))) R R R (.cons (.tmp 2) .nil)
def window_table_why_5 (F : Nat) (c : Table) (c2 : WiTeam) : Option Bool := some (decide (c2.wind < c.sky_Wind))
theorem window_table_why_5_pc {F : Nat} {c : Table} {c2 : WiTeam} {r : Bool} (h : window_table_why_5 F c c2 = some r) : PC Try.prog 92 [.el 1 (([c]).map (fun x => D.el 22 [Table.d x] 0 0)) ((0 : Int)).toNat 0, .el 9 (([c2]).map WiTeam.d) ((0 : Int)).toNat 0] (.v (.bool r)) := by
 rw [window_table_why_5] at h
 refine SC.of_sw Try.func92 R R R ?_
 dsimp only [argS, List.map]
 refine qG (r_asgD R R R (eN (sw_seq (sw_dr (by kernel_rfl) ?_))))
 refine r_ldE (y := .el 22 (([c]).map Table.d) ((0 : Int)).toNat 0) tb R R (ix2 (g := (fun x => D.el 22 [Table.d x] 0 0)) (R : ixO [c] 0 = some c)) R R R R ?_
 refine r_nilEl R R R (r_faE tb R R R R R R R (r_faE tb R R R R R R R (r_ldE (y := .v (.int .i64 c.sky_Wind)) tb R R (ix2 (g := Table.d) (R : ixO [c] 0 = some c)) R R R R (r_faE tb R R R R R R R (r_ldE (y := .v (.int .i64 c2.wind)) tb R R (ix2 (g := WiTeam.d) (R : ixO [c2] 0 = some c2)) R R R R (r_gtrV R R R R (r_asgD R R R (ev_endD (by kernel_rfl) (then_norm (sw_ret ?_))))))))))
 obtain rfl := sI h
 exact fin_0 (t := .d (.v (.bool (decide (c2.wind < c.sky_Wind))))) R R R (.cons (.tmp 2) .nil)
def window_table_why_6 (F : Nat) (c : Table) (c2 : WiTeam) : Option Bool := some (decide ((W (c.w_Until - c.minute)) < c2.setup))
theorem window_table_why_6_pc {F : Nat} {c : Table} {c2 : WiTeam} {r : Bool} (h : window_table_why_6 F c c2 = some r) : PC Try.prog 93 [.el 1 (([c]).map (fun x => D.el 22 [Table.d x] 0 0)) ((0 : Int)).toNat 0, .el 9 (([c2]).map WiTeam.d) ((0 : Int)).toNat 0] (.v (.bool r)) := by
 rw [window_table_why_6] at h
 refine SC.of_sw Try.func93 R R R ?_
 dsimp only [argS, List.map]
 refine qG (r_asgD R R R (eN (sw_seq (sw_dr (by kernel_rfl) ?_))))
 refine r_ldE (y := .el 22 (([c]).map Table.d) ((0 : Int)).toNat 0) tb R R (ix2 (g := (fun x => D.el 22 [Table.d x] 0 0)) (R : ixO [c] 0 = some c)) R R R R ?_
 refine r_nilEl R R R (r_faE tb R R R R R R R (r_faE tb R R R R R R R (r_ldE (y := .v (.int .i64 c.w_Until)) tb R R (ix2 (g := Table.d) (R : ixO [c] 0 = some c)) R R R R ?_)))
 refine r_ldE (y := .el 22 (([c]).map Table.d) ((0 : Int)).toNat 0) tb R R (ix2 (g := (fun x => D.el 22 [Table.d x] 0 0)) (R : ixO [c] 0 = some c)) R R R R ?_
 refine r_nilEl R R R (r_faE tb R R R R R R R (r_ldE (y := .v (.int .i64 c.minute)) tb R R (ix2 (g := Table.d) (R : ixO [c] 0 = some c)) R R R R (r_sub R R R R (r_faE tb R R R R R R R (r_ldE (y := .v (.int .i64 c2.setup)) tb R R (ix2 (g := WiTeam.d) (R : ixO [c2] 0 = some c2)) R R R R (r_lssV R R R R (r_asgD R R R (ev_endD (by kernel_rfl) (then_norm (sw_ret ?_))))))))))
 obtain rfl := sI h
 exact fin_0 (t := .d (.v (.bool (decide ((W (c.w_Until - c.minute)) < c2.setup))))) R R R (.cons (.tmp 2) .nil)
def window_table_why (F : Nat) (b : Table) (team : Int) : Option Int := Option.bind (ixO b.p_Teams team) fun e => Option.bind (ixO b.s_Last team) fun e2 => Option.bind (window_table_why_1 F b team e) fun rv => if rv = true then (some 210) else (Option.bind (window_table_why_2 F e b) fun rv2 => if rv2 = true then (some 211) else (Option.bind (window_table_why_3 F e2 b e) fun rv3 => if rv3 = true then (some 212) else (Option.bind (window_table_why_4 F e b) fun rv4 => if rv4 = true then (some 213) else (Option.bind (window_table_why_5 F b e) fun rv5 => if rv5 = true then (some 214) else (Option.bind (window_table_why_6 F b e) fun rv6 => if rv6 = true then (some 215) else (some 0))))))
theorem window_table_why_pc {F : Nat} {b : Table} {team : Int} {r : Int} (h : window_table_why F b team = some r) : PC Try.prog 67 [.el 22 (([b]).map Table.d) ((0 : Int)).toNat 0, .v (.int .i64 team)] (.v (.int .i64 r)) := by
 rw [window_table_why] at h
 refine SC.of_sw Try.func67 R R R ?_
 dsimp only [argS, List.map]
 refine qG (r_box R R R R R R R (r_box R R R R R R R (r_asgD R R R (eN (sw_seq (sw_dr (by kernel_rfl) (r_ldD (y := .el 22 (([b]).map Table.d) ((0 : Int)).toNat 0) tb R R R R R R R R R (r_nilEl R R R (r_faE tb R R R R R R R (r_faE tb R R R R R R R (r_ldE (y := .arr 9 ((b.p_Teams).map WiTeam.d)) tb R R (ix2 (g := Table.d) (R : ixO [b] 0 = some b)) R R R R (r_ldD (y := .v (.int .i64 team)) tb R R R R R R R R R ?_))))))))))))
 obtain ⟨e, ie, h⟩ := bnd h
 refine r_ixE tb R R R R R R (ix0 ie) (ix1m ie) R R (r_ldE (y := WiTeam.d e) tb R R (ix2 (g := WiTeam.d) ie) R R R R (r_alloc tb R R R R R (r_stE _ ([some ⟨1, [.d (.el 22 (([b]).map Table.d) ((0 : Int)).toNat 0)]⟩, some ⟨1, [.d (.v (.int .i64 team))]⟩, some ⟨9, [.d (WiTeam.d e)]⟩]) tb R R R R R R R R R R R R (ev_endD (by kernel_rfl) (then_norm (sw_seq (sw_dr (by kernel_rfl) (r_ldD (y := .el 22 (([b]).map Table.d) ((0 : Int)).toNat 0) tb R R R R R R R R R (r_nilEl R R R ?_)))))))))
 refine r_faE tb R R R R R R R (r_faE tb R R R R R R R (r_ldE (y := .arr 1 ((b.s_Last).map vI)) tb R R (ix2 (g := Table.d) (R : ixO [b] 0 = some b)) R R R R (r_ldD (y := .v (.int .i64 team)) tb R R R R R R R R R ?_)))
 obtain ⟨e2, ie2, h⟩ := bnd h
 refine r_ixE tb R R R R R R (ix0 ie2) (ix1m ie2) R R (r_ldE (y := .v (.int .i64 e2)) tb R R (ix2 (g := vI) ie2) R R R R (r_alloc tb R R R R R (r_stE _ ([some ⟨1, [.d (.el 22 (([b]).map Table.d) ((0 : Int)).toNat 0)]⟩, some ⟨1, [.d (.v (.int .i64 team))]⟩, some ⟨9, [.d (WiTeam.d e)]⟩, some ⟨1, [.d (.v (.int .i64 e2))]⟩]) tb R R R R R R R R R R R R (ev_endD (by kernel_rfl) (then_norm (sw_seq (qG (r_func R R R R ?_))))))))
 refine r_build (v := .agg [.d (.v (.int .i64 210)), .fn (.func 84) [] [.ref 0 1 0 0, .ref 1 1 0 0, .ref 2 9 0 0]]) tb R R (List.cons_ne_nil _ _) R R R R R R (r_func R R R R (r_build (v := .agg [.d (.v (.int .i64 211)), .fn (.func 85) [] [.ref 2 9 0 0, .ref 0 1 0 0]]) tb R R (List.cons_ne_nil _ _) R R R R R R (r_func R R R R (r_build (v := .agg [.d (.v (.int .i64 212)), .fn (.func 87) [] [.ref 3 1 0 0, .ref 0 1 0 0, .ref 2 9 0 0]]) tb R R (List.cons_ne_nil _ _) R R R R R R (r_func R R R R ?_)))))
 refine r_build (v := .agg [.d (.v (.int .i64 213)), .fn (.func 88) [] [.ref 2 9 0 0, .ref 0 1 0 0]]) tb R R (List.cons_ne_nil _ _) R R R R R R (r_func R R R R (r_build (v := .agg [.d (.v (.int .i64 214)), .fn (.func 92) [] [.ref 0 1 0 0, .ref 2 9 0 0]]) tb R R (List.cons_ne_nil _ _) R R R R R R (r_func R R R R (r_build (v := .agg [.d (.v (.int .i64 215)), .fn (.func 93) [] [.ref 0 1 0 0, .ref 2 9 0 0]]) tb R R (List.cons_ne_nil _ _) R R R R R R ?_))))
 refine r_buildA (v := .agg [.d (.v (.int .i64 210)), .fn (.func 84) [] [.ref 0 1 0 0, .ref 1 1 0 0, .ref 2 9 0 0], .d (.v (.int .i64 211)), .fn (.func 85) [] [.ref 2 9 0 0, .ref 0 1 0 0], .d (.v (.int .i64 212)), .fn (.func 87) [] [.ref 3 1 0 0, .ref 0 1 0 0, .ref 2 9 0 0], .d (.v (.int .i64 213)), .fn (.func 88) [] [.ref 2 9 0 0, .ref 0 1 0 0], .d (.v (.int .i64 214)), .fn (.func 92) [] [.ref 0 1 0 0, .ref 2 9 0 0], .d (.v (.int .i64 215)), .fn (.func 93) [] [.ref 0 1 0 0, .ref 2 9 0 0]]) tb R R R R R R R R R (r_movD R R R (eN (sw_block ?_)))
 refine sw_rounds 7 (swr_succ (qG ?_))
 refine r_lss R R R R ?_ ?_
 rotate_left
 ·intro c; exact absurd c (by decide)
 intro _
 refine eN (sw_seq (sw_condT R (sw_skip (then_norm (sw_seq (sw_block (qG (r_ixG (0) (.agg [.d (.v (.int .i64 210)), .fn (.func 84) [] [.ref 0 1 0 0, .ref 1 1 0 0, .ref 2 9 0 0]]) tb R R R R R R R R R R R (r_alloc tb R R R R R ?_)))))))))
 refine r_stE _ ([some ⟨1, [.d (.el 22 (([b]).map Table.d) ((0 : Int)).toNat 0)]⟩, some ⟨1, [.d (.v (.int .i64 team))]⟩, some ⟨9, [.d (WiTeam.d e)]⟩, some ⟨1, [.d (.v (.int .i64 e2))]⟩, some ⟨2, [.agg [.d (.v (.int .i64 210)), .fn (.func 84) [] [.ref 0 1 0 0, .ref 1 1 0 0, .ref 2 9 0 0]]]⟩]) tb R R R R R R R R R R R R (eN (qG (r_fa tb R R R R R R R (r_ldT (.fn (.func 84) [] [.ref 0 1 0 0, .ref 1 1 0 0, .ref 2 9 0 0]) tb R R R R R R R R R ?_))))
 obtain ⟨rv, hrv, h⟩ := bnd h
 refine r_callXF (t' := .d (.v (.bool rv))) (news := []) (news' := []) (fi := []) (ca := [.ref 0 1 0 0, .ref 1 1 0 0, .ref 2 9 0 0]) (window_table_why_1_pc hrv) R .nil (.of (by kernel_rfl)) R (.inr R) R ((.cons (.d (.ref R (.d _))) (.cons (.d (.ref R (.d _))) (.cons (.d (.ref R (.d _))) .nil)))) R .nil R R R ?_
 simp only [List.map_nil, List.append_nil]
 with_reducible apply ev_lit
 ·intro c2
  replace h := ifP c2 h
  refine eN (sw_condT R (qG (r_fa tb R R R R R R R (r_ldD (y := .v (.int .i64 210)) tb R R R R R R R R R (r_asgD R R R (eN (sw_ret (block_ret (then_ret (then_ret (block_ret (then_ret ?_))))))))))))
  obtain rfl := sI h
  exact fin_0 (t := .d (.v (.int .i64 210))) R R R (.cons (.tmp 4) .nil)
 intro c2
 replace h := ifF c2 h
 refine eN (sw_condF R (sw_skip (block_norm (then_norm (sw_rg (r_add R R R R (r_movD R R R (eN (swr_succ (qG ?_))))))))))
 refine r_lss R R R R ?_ ?_
 rotate_left
 ·intro c3; exact absurd c3 (by decide)
 intro _
 refine eN (sw_seq (sw_condT R (sw_skip (then_norm (sw_seq (sw_block (qG (r_ixG (1) (.agg [.d (.v (.int .i64 211)), .fn (.func 85) [] [.ref 2 9 0 0, .ref 0 1 0 0]]) tb R R R R R R R R R R R (r_alloc tb R R R R R ?_)))))))))
 refine r_stE _ ([some ⟨1, [.d (.el 22 (([b]).map Table.d) ((0 : Int)).toNat 0)]⟩, some ⟨1, [.d (.v (.int .i64 team))]⟩, some ⟨9, [.d (WiTeam.d e)]⟩, some ⟨1, [.d (.v (.int .i64 e2))]⟩, some ⟨2, [.agg [.d (.v (.int .i64 210)), .fn (.func 84) [] [.ref 0 1 0 0, .ref 1 1 0 0, .ref 2 9 0 0]]]⟩, some ⟨2, [.agg [.d (.v (.int .i64 211)), .fn (.func 85) [] [.ref 2 9 0 0, .ref 0 1 0 0]]]⟩]) tb R R R R R R R R R R R R (eN (qG (r_fa tb R R R R R R R (r_ldT (.fn (.func 85) [] [.ref 2 9 0 0, .ref 0 1 0 0]) tb R R R R R R R R R ?_))))
 obtain ⟨rv2, hrv2, h⟩ := bnd h
 refine r_callXF (t' := .d (.v (.bool rv2))) (news := []) (news' := []) (fi := []) (ca := [.ref 2 9 0 0, .ref 0 1 0 0]) (window_table_why_2_pc hrv2) R .nil (.of (by kernel_rfl)) R (.inr R) R ((.cons (.d (.ref R (.d _))) (.cons (.d (.ref R (.d _))) .nil))) R .nil R R R ?_
 simp only [List.map_nil, List.append_nil]
 with_reducible apply ev_lit
 ·intro c4
  replace h := ifP c4 h
  refine eN (sw_condT R (qG (r_fa tb R R R R R R R (r_ldD (y := .v (.int .i64 211)) tb R R R R R R R R R (r_asgD R R R (eN (sw_ret (block_ret (then_ret (then_ret (block_ret (then_ret ?_))))))))))))
  obtain rfl := sI h
  exact fin_0 (t := .d (.v (.int .i64 211))) R R R (.cons (.tmp 4) .nil)
 intro c4
 replace h := ifF c4 h
 refine eN (sw_condF R (sw_skip (block_norm (then_norm (sw_rg (r_add R R R R (r_movD R R R (eN (swr_succ (qG ?_))))))))))
 refine r_lss R R R R ?_ ?_
 rotate_left
 ·intro c5; exact absurd c5 (by decide)
 intro _
 refine eN (sw_seq (sw_condT R (sw_skip (then_norm (sw_seq (sw_block (qG (r_ixG (2) (.agg [.d (.v (.int .i64 212)), .fn (.func 87) [] [.ref 3 1 0 0, .ref 0 1 0 0, .ref 2 9 0 0]]) tb R R R R R R R R R R R (r_alloc tb R R R R R ?_)))))))))
 refine r_stE _ ([some ⟨1, [.d (.el 22 (([b]).map Table.d) ((0 : Int)).toNat 0)]⟩, some ⟨1, [.d (.v (.int .i64 team))]⟩, some ⟨9, [.d (WiTeam.d e)]⟩, some ⟨1, [.d (.v (.int .i64 e2))]⟩, some ⟨2, [.agg [.d (.v (.int .i64 210)), .fn (.func 84) [] [.ref 0 1 0 0, .ref 1 1 0 0, .ref 2 9 0 0]]]⟩, some ⟨2, [.agg [.d (.v (.int .i64 211)), .fn (.func 85) [] [.ref 2 9 0 0, .ref 0 1 0 0]]]⟩, some ⟨2, [.agg [.d (.v (.int .i64 212)), .fn (.func 87) [] [.ref 3 1 0 0, .ref 0 1 0 0, .ref 2 9 0 0]]]⟩]) tb R R R R R R R R R R R R (eN (qG (r_fa tb R R R R R R R ?_)))
 refine r_ldT (.fn (.func 87) [] [.ref 3 1 0 0, .ref 0 1 0 0, .ref 2 9 0 0]) tb R R R R R R R R R ?_
 obtain ⟨rv3, hrv3, h⟩ := bnd h
 refine r_callXF (t' := .d (.v (.bool rv3))) (news := []) (news' := []) (fi := []) (ca := [.ref 3 1 0 0, .ref 0 1 0 0, .ref 2 9 0 0]) (window_table_why_3_pc hrv3) R .nil (.of (by kernel_rfl)) R (.inr R) R ((.cons (.d (.ref R (.d _))) (.cons (.d (.ref R (.d _))) (.cons (.d (.ref R (.d _))) .nil)))) R .nil R R R ?_
 simp only [List.map_nil, List.append_nil]
 with_reducible apply ev_lit
 ·intro c6
  replace h := ifP c6 h
  refine eN (sw_condT R (qG (r_fa tb R R R R R R R (r_ldD (y := .v (.int .i64 212)) tb R R R R R R R R R (r_asgD R R R (eN (sw_ret (block_ret (then_ret (then_ret (block_ret (then_ret ?_))))))))))))
  obtain rfl := sI h
  exact fin_0 (t := .d (.v (.int .i64 212))) R R R (.cons (.tmp 4) .nil)
 intro c6
 replace h := ifF c6 h
 refine eN (sw_condF R (sw_skip (block_norm (then_norm (sw_rg (r_add R R R R (r_movD R R R (eN (swr_succ (qG ?_))))))))))
 refine r_lss R R R R ?_ ?_
 rotate_left
 ·intro c7; exact absurd c7 (by decide)
 intro _
 refine eN (sw_seq (sw_condT R (sw_skip (then_norm (sw_seq (sw_block (qG (r_ixG (3) (.agg [.d (.v (.int .i64 213)), .fn (.func 88) [] [.ref 2 9 0 0, .ref 0 1 0 0]]) tb R R R R R R R R R R R (r_alloc tb R R R R R ?_)))))))))
 refine r_stE _ ([some ⟨1, [.d (.el 22 (([b]).map Table.d) ((0 : Int)).toNat 0)]⟩, some ⟨1, [.d (.v (.int .i64 team))]⟩, some ⟨9, [.d (WiTeam.d e)]⟩, some ⟨1, [.d (.v (.int .i64 e2))]⟩, some ⟨2, [.agg [.d (.v (.int .i64 210)), .fn (.func 84) [] [.ref 0 1 0 0, .ref 1 1 0 0, .ref 2 9 0 0]]]⟩, some ⟨2, [.agg [.d (.v (.int .i64 211)), .fn (.func 85) [] [.ref 2 9 0 0, .ref 0 1 0 0]]]⟩, some ⟨2, [.agg [.d (.v (.int .i64 212)), .fn (.func 87) [] [.ref 3 1 0 0, .ref 0 1 0 0, .ref 2 9 0 0]]]⟩, some ⟨2, [.agg [.d (.v (.int .i64 213)), .fn (.func 88) [] [.ref 2 9 0 0, .ref 0 1 0 0]]]⟩]) tb R R R R R R R R R R R R ?_
 refine eN (qG (r_fa tb R R R R R R R (r_ldT (.fn (.func 88) [] [.ref 2 9 0 0, .ref 0 1 0 0]) tb R R R R R R R R R ?_)))
 obtain ⟨rv4, hrv4, h⟩ := bnd h
 refine r_callXF (t' := .d (.v (.bool rv4))) (news := []) (news' := []) (fi := []) (ca := [.ref 2 9 0 0, .ref 0 1 0 0]) (window_table_why_4_pc hrv4) R .nil (.of (by kernel_rfl)) R (.inr R) R ((.cons (.d (.ref R (.d _))) (.cons (.d (.ref R (.d _))) .nil))) R .nil R R R ?_
 simp only [List.map_nil, List.append_nil]
 with_reducible apply ev_lit
 ·intro c8
  replace h := ifP c8 h
  refine eN (sw_condT R (qG (r_fa tb R R R R R R R (r_ldD (y := .v (.int .i64 213)) tb R R R R R R R R R (r_asgD R R R (eN (sw_ret (block_ret (then_ret (then_ret (block_ret (then_ret ?_))))))))))))
  obtain rfl := sI h
  exact fin_0 (t := .d (.v (.int .i64 213))) R R R (.cons (.tmp 4) .nil)
 intro c8
 replace h := ifF c8 h
 refine eN (sw_condF R (sw_skip (block_norm (then_norm (sw_rg (r_add R R R R (r_movD R R R (eN (swr_succ (qG ?_))))))))))
 refine r_lss R R R R ?_ ?_
 rotate_left
 ·intro c9; exact absurd c9 (by decide)
 intro _
 refine eN (sw_seq (sw_condT R (sw_skip (then_norm (sw_seq (sw_block (qG (r_ixG (4) (.agg [.d (.v (.int .i64 214)), .fn (.func 92) [] [.ref 0 1 0 0, .ref 2 9 0 0]]) tb R R R R R R R R R R R (r_alloc tb R R R R R ?_)))))))))
 refine r_stE _ ([some ⟨1, [.d (.el 22 (([b]).map Table.d) ((0 : Int)).toNat 0)]⟩, some ⟨1, [.d (.v (.int .i64 team))]⟩, some ⟨9, [.d (WiTeam.d e)]⟩, some ⟨1, [.d (.v (.int .i64 e2))]⟩, some ⟨2, [.agg [.d (.v (.int .i64 210)), .fn (.func 84) [] [.ref 0 1 0 0, .ref 1 1 0 0, .ref 2 9 0 0]]]⟩, some ⟨2, [.agg [.d (.v (.int .i64 211)), .fn (.func 85) [] [.ref 2 9 0 0, .ref 0 1 0 0]]]⟩, some ⟨2, [.agg [.d (.v (.int .i64 212)), .fn (.func 87) [] [.ref 3 1 0 0, .ref 0 1 0 0, .ref 2 9 0 0]]]⟩, some ⟨2, [.agg [.d (.v (.int .i64 213)), .fn (.func 88) [] [.ref 2 9 0 0, .ref 0 1 0 0]]]⟩, some ⟨2, [.agg [.d (.v (.int .i64 214)), .fn (.func 92) [] [.ref 0 1 0 0, .ref 2 9 0 0]]]⟩]) tb R R R R R R R R R R R R ?_
 refine eN (qG (r_fa tb R R R R R R R (r_ldT (.fn (.func 92) [] [.ref 0 1 0 0, .ref 2 9 0 0]) tb R R R R R R R R R ?_)))
 obtain ⟨rv5, hrv5, h⟩ := bnd h
 refine r_callXF (t' := .d (.v (.bool rv5))) (news := []) (news' := []) (fi := []) (ca := [.ref 0 1 0 0, .ref 2 9 0 0]) (window_table_why_5_pc hrv5) R .nil (.of (by kernel_rfl)) R (.inr R) R ((.cons (.d (.ref R (.d _))) (.cons (.d (.ref R (.d _))) .nil))) R .nil R R R ?_
 simp only [List.map_nil, List.append_nil]
 with_reducible apply ev_lit
 ·intro c10
  replace h := ifP c10 h
  refine eN (sw_condT R (qG (r_fa tb R R R R R R R (r_ldD (y := .v (.int .i64 214)) tb R R R R R R R R R (r_asgD R R R (eN (sw_ret (block_ret (then_ret (then_ret (block_ret (then_ret ?_))))))))))))
  obtain rfl := sI h
  exact fin_0 (t := .d (.v (.int .i64 214))) R R R (.cons (.tmp 4) .nil)
 intro c10
 replace h := ifF c10 h
 refine eN (sw_condF R (sw_skip (block_norm (then_norm (sw_rg (r_add R R R R (r_movD R R R (eN (swr_succ (qG ?_))))))))))
 refine r_lss R R R R ?_ ?_
 rotate_left
 ·intro c11; exact absurd c11 (by decide)
 intro _
 refine eN (sw_seq (sw_condT R (sw_skip (then_norm (sw_seq (sw_block (qG (r_ixG (5) (.agg [.d (.v (.int .i64 215)), .fn (.func 93) [] [.ref 0 1 0 0, .ref 2 9 0 0]]) tb R R R R R R R R R R R (r_alloc tb R R R R R ?_)))))))))
 refine r_stE _ ([some ⟨1, [.d (.el 22 (([b]).map Table.d) ((0 : Int)).toNat 0)]⟩, some ⟨1, [.d (.v (.int .i64 team))]⟩, some ⟨9, [.d (WiTeam.d e)]⟩, some ⟨1, [.d (.v (.int .i64 e2))]⟩, some ⟨2, [.agg [.d (.v (.int .i64 210)), .fn (.func 84) [] [.ref 0 1 0 0, .ref 1 1 0 0, .ref 2 9 0 0]]]⟩, some ⟨2, [.agg [.d (.v (.int .i64 211)), .fn (.func 85) [] [.ref 2 9 0 0, .ref 0 1 0 0]]]⟩, some ⟨2, [.agg [.d (.v (.int .i64 212)), .fn (.func 87) [] [.ref 3 1 0 0, .ref 0 1 0 0, .ref 2 9 0 0]]]⟩, some ⟨2, [.agg [.d (.v (.int .i64 213)), .fn (.func 88) [] [.ref 2 9 0 0, .ref 0 1 0 0]]]⟩, some ⟨2, [.agg [.d (.v (.int .i64 214)), .fn (.func 92) [] [.ref 0 1 0 0, .ref 2 9 0 0]]]⟩, some ⟨2, [.agg [.d (.v (.int .i64 215)), .fn (.func 93) [] [.ref 0 1 0 0, .ref 2 9 0 0]]]⟩]) tb R R R R R R R R R R R R ?_
 refine eN (qG (r_fa tb R R R R R R R (r_ldT (.fn (.func 93) [] [.ref 0 1 0 0, .ref 2 9 0 0]) tb R R R R R R R R R ?_)))
 obtain ⟨rv6, hrv6, h⟩ := bnd h
 refine r_callXF (t' := .d (.v (.bool rv6))) (news := []) (news' := []) (fi := []) (ca := [.ref 0 1 0 0, .ref 2 9 0 0]) (window_table_why_6_pc hrv6) R .nil (.of (by kernel_rfl)) R (.inr R) R ((.cons (.d (.ref R (.d _))) (.cons (.d (.ref R (.d _))) .nil))) R .nil R R R ?_
 simp only [List.map_nil, List.append_nil]
 with_reducible apply ev_lit
 ·intro c12
  replace h := ifP c12 h
  refine eN (sw_condT R (qG (r_fa tb R R R R R R R (r_ldD (y := .v (.int .i64 215)) tb R R R R R R R R R (r_asgD R R R (eN (sw_ret (block_ret (then_ret (then_ret (block_ret (then_ret ?_))))))))))))
  obtain rfl := sI h
  exact fin_0 (t := .d (.v (.int .i64 215))) R R R (.cons (.tmp 4) .nil)
 intro c12
 replace h := ifF c12 h
 refine eN (sw_condF R (sw_skip (block_norm (then_norm (sw_rg (r_add R R R R (r_movD R R R (eN (swr_succ (qG ?_))))))))))
 refine r_lss R R R R ?_ ?_
 ·intro c13; exact absurd c13 (by decide)
 intro _
 refine eN (sw_seq (sw_condF R (sw_exit (then_exit (then_exit (block_exit (then_norm (qG (r_asgD R R R (eN (sw_ret ?_)))))))))))
 obtain rfl := sI h
 exact fin_0 (t := .d (.v (.int .i64 0))) R R R (.cons (.tmp 4) .nil)
def slices_AppendSeq_int_n_window_table_entitled_1_L1 (F : Nat) (c : Table) (K : Int → (List Int) → Option (List Int)) : Nat → Int → (List Int) → Option (List Int)
 | 0, _, _ => none
 | n + 1, x3, lv => if x3 < (c.p_Teams.length : Int) then (if ((mget c.done x3).getD false) = true then (slices_AppendSeq_int_n_window_table_entitled_1_L1 F c K n (W (x3 + 1)) lv) else (Option.bind (window_table_why F c x3) fun rv => if rv = 0 then (Option.bind (appO lv [x3]) fun q => slices_AppendSeq_int_n_window_table_entitled_1_L1 F c K n (W (x3 + 1)) q) else (slices_AppendSeq_int_n_window_table_entitled_1_L1 F c K n (W (x3 + 1)) lv))) else (K x3 lv)
def slices_AppendSeq_int_n_window_table_entitled_1 (F : Nat) (c : Table) : Option (List Int) := slices_AppendSeq_int_n_window_table_entitled_1_L1 F c (fun (x3 : Int) (lv : (List Int)) => some lv) F 0 ([] : List Int)
theorem slices_AppendSeq_int_n_window_table_entitled_1_scr {F : Nat} {c : Table} {r : (List Int)} (h : slices_AppendSeq_int_n_window_table_entitled_1 F c = some r) : SCR Try.prog 108 [.d (.v (.slice none 0 0)), .fn (.func 104) [] [.d (.el 1 (([c]).map (fun x => D.el 22 [Table.d x] 0 0)) ((0 : Int)).toNat 0)]] [] (.row 0 1 0 (r).length) (List.map some [(lvI r)]) := by
 rw [slices_AppendSeq_int_n_window_table_entitled_1] at h
 refine SC.of_swm Try.func108 R R R ?_
 dsimp only [argS, List.map]
 refine swm_seq ?_
 refine swm_of fun df => ?_
 refine sw_rg (r_box R R R R R R R (r_asgD R R R (eN (swm_seq (swm_seq ?_)))))
 refine swm_of fun df => ?_
 refine sw_rg (r_movF R R R (eN (swm_block ?_)))
 refine swm_range (.of (by kernel_rfl)) Try.func104 R R R R R R fun lb => ?_
 simp only [argS, Nat.zero_add, Nat.reduceAdd]
 refine swj_seq (swj_rg (rgj_ev ?_))
 refine r_ldE (y := .el 22 (([c]).map Table.d) ((0 : Int)).toNat 0) tb R R (ix2 (g := (fun x => D.el 22 [Table.d x] 0 0)) (R : ixO [c] 0 = some c)) R R R R ?_
 refine r_nilEl R R R (r_faE tb R R R R R R R (r_faE tb R R R R R R R (r_ldE (y := .arr 9 ((c.p_Teams).map WiTeam.d)) tb R R (ix2 (g := Table.d) (R : ixO [c] 0 = some c)) R R R R (r_lenM tb R R R R R (r_movD R R R (ev_endJ (thenj_norm (swj_block ?_))))))))
 refine SWJ.own (ts' := [(0, .d (.v (.func (.yield lb) #[] #[]))), (1, .d (.el 1 (([c]).map (fun x => D.el 22 [Table.d x] 0 0)) ((0 : Int)).toNat 0)), (9, .d (.v (.int .i64 (c.p_Teams.length : Int)))), (10, .d (.v (.int .i64 0)))]) (L' := [some ⟨1, [.row 1 1 0 (([] : List Int)).length]⟩]) 1 R R (.cons (.same _) (.cons (.same _) (.cons (.same _) (.cons (.same _) .nil)))) (.cons R (.cons .nil .nil) .nil) ?_
 simp only [List.cons_append, List.nil_append]
 obtain ⟨K4, hK4, h⟩ : ∃ K, K = _ ∧ slices_AppendSeq_int_n_window_table_entitled_1_L1 F c K F 0 ([] : List Int) = some r := ⟨_, rfl, h⟩
 refine swj_loop (st0 := ⟨[(0, .d (.v (.func (.yield lb) #[] #[]))), (1, .d (.el 1 (([c]).map (fun x => D.el 22 [Table.d x] 0 0)) ((0 : Int)).toNat 0)), (9, .d (.v (.int .i64 (c.p_Teams.length : Int)))), (10, .d (.v (.int .i64 0)))], [some ⟨1, [.row 1 1 0 (([] : List Int)).length]⟩, some (lvI ([] : List Int))]⟩) (κ := [0, 1]) (fun m ph st => ∃ (x3 : Int) (lv : (List Int)), slices_AppendSeq_int_n_window_table_entitled_1_L1 F c K4 m x3 lv = some r ∧ ph = SX.norm ∧ st = ⟨[(0, .d (.v (.func (.yield lb) #[] #[]))), (1, .d (.el 1 (([c]).map (fun x => D.el 22 [Table.d x] 0 0)) ((0 : Int)).toNat 0)), (9, .d (.v (.int .i64 (c.p_Teams.length : Int)))), (10, .d (.v (.int .i64 x3)))], [some ⟨1, [.row 1 1 0 (lv).length]⟩, some (lvI lv)]⟩) (vwK R R (.cons R R (.row R .nil)) (.cons R R (.cons R R (.cons R R (.cons R R .nil))))) ⟨0, ([] : List Int), h, R, R⟩ ?_
 clear h
 rintro m4 ph st ⟨x3, lv, h, rfl, rfl⟩
 cases m4 with
 | zero => cases (show (none : Option (List Int)) = some r from h)
 | succ m4 =>
 rw [slices_AppendSeq_int_n_window_table_entitled_1_L1] at h
 refine swj_seq (swj_rg (rgj_ev ?_))
 refine r_lss R R R R ?_ ?_
 ·intro c2
  replace h := ifP c2 h
  refine ev_endJ (thenj_norm (swj_seq (swj_condT R (swj_skip (thenj_norm (swj_seq (swj_block (swj_seq (swj_rg (rgj_ev (r_movD R R R (r_asgD R R R (ev_endJ (thenj_norm (swj_seq (swj_rg (rgj_ev ?_)))))))))))))))))
  refine r_ldE (y := .el 22 (([c]).map Table.d) ((0 : Int)).toNat 0) tb R R (ix2 (g := (fun x => D.el 22 [Table.d x] 0 0)) (R : ixO [c] 0 = some c)) R R R R ?_
  refine r_nilEl R R R (r_faE tb R R R R R R R ?_)
  refine r_ldE (y := .mp ((c.done).map fun p => .int .i64 p.1) ((c.done).map fun p => .v (.bool p.2))) tb R R (ix2 (g := Table.d) (R : ixO [c] 0 = some c)) R R R R ?_
  refine r_movD R R R ?_
  refine r_lkD (vf := fun b => .v (.bool b)) (z0 := false) (u := .v (.bool ((mget c.done x3).getD false))) tb R R R R R R R R R ?_
  with_reducible apply ev_lit
  ·intro c3
   replace h := ifP c3 h
   refine r_notT R R R (r_movD R R R (r_skip R R R (r_skip R R R (r_skip R R R (r_skip R R R (r_pickF R R R R (r_movD R R R (r_skip R R R (r_skip R R R (r_skip R R R (r_skip R R R (r_pickF R R R R (ev_endJ (thenj_norm (swj_condF R (swj_skip (blockj_norm (thenj_norm (swj_rg (rgj_ev (r_add R R R R (r_movD R R R (ev_endJ (thenj_norm ?_))))))))))))))))))))))))
   exact ⟨m4, ⟨[(0, .d (.v (.func (.yield lb) #[] #[]))), (1, .d (.el 1 (([c]).map (fun x => D.el 22 [Table.d x] 0 0)) ((0 : Int)).toNat 0)), (9, .d (.v (.int .i64 (c.p_Teams.length : Int)))), (10, .d (.v (.int .i64 (W (x3 + 1)))))], [some ⟨1, [.row 1 1 0 (lv).length]⟩, some (lvI lv)]⟩, [0, 1], Nat.lt_succ_self _, (vwK R R (.cons R R (.row R .nil)) (.cons R R (.cons R R (.cons R R (.cons R R .nil))))), (W (x3 + 1)), lv, h, R, R⟩
  intro c3
  replace h := ifF c3 h
  refine r_notF R R R (r_movD R R R ?_)
  refine r_ldE (y := .el 22 (([c]).map Table.d) ((0 : Int)).toNat 0) tb R R (ix2 (g := (fun x => D.el 22 [Table.d x] 0 0)) (R : ixO [c] 0 = some c)) R R R R ?_
  refine r_movD R R R ?_
  obtain ⟨rv, hrv, h⟩ := bnd h
  refine r_call (window_table_why_pc hrv) (.of (by kernel_rfl)) R R R R ?_
  refine r_eql R R R R ?_ ?_
  ·intro c4
   replace h := ifP c4 h
   refine r_pickT R R R R (r_movD R R R (r_movD R R R (r_movD R R R (ev_yieldJ ?_))))
   (with_reducible apply rgj_yield (ys := [.v (.int .i64 x3)])); (iterate 7 exact rfl)
   dsimp only [parS]
   refine sw_rg (r_asgD R R R (ev_end ?_))
   refine ⟨R, ?_⟩
   refine sw_block (sw_rg (r_ldW tb R R R R R R R R R (r_movD R R R (r_bslice tb R R R R R R R R R R R R R ?_))))
   obtain ⟨q, iq, h⟩ := bnd h
   refine r_apM (g := vI) (w := lv) (v := [x3]) ([some ⟨1, [.row 1 1 0 (lv).length]⟩, none, some (lvI [x3])]) tb R R R R R R R R R R R iq R R R R R (r_stE _ ([some ⟨1, [.row 3 1 0 (q).length]⟩, none, some (lvI [x3]), some (lvI q)]) tb R R R R R R R R R R R R (ev_end (block_norm ?_)))
   refine ⟨[some ⟨1, [.row 2 1 0 (q).length]⟩, none, some (lvI q)], [0, 1, 3], (vwK R R (.cons R R (.gone R (.row R .nil))) .nil), ?_⟩
   refine rgj_ev (r_notT R R R (r_pickT R R R R (ev_endJ (thenj_norm (swj_condF R (swj_skip (blockj_norm (thenj_norm (swj_rg (rgj_ev (r_add R R R R (r_movD R R R (ev_endJ (thenj_norm ?_))))))))))))))
   exact ⟨m4, ⟨[(0, .d (.v (.func (.yield lb) #[] #[]))), (1, .d (.el 1 (([c]).map (fun x => D.el 22 [Table.d x] 0 0)) ((0 : Int)).toNat 0)), (9, .d (.v (.int .i64 (c.p_Teams.length : Int)))), (10, .d (.v (.int .i64 (W (x3 + 1)))))], [some ⟨1, [.row 1 1 0 (q).length]⟩, some (lvI q)]⟩, [0, 2], Nat.lt_succ_self _, (vwK R R (.cons R R (.row R .nil)) (.cons R R (.cons R R (.cons R R (.cons R R .nil))))), (W (x3 + 1)), q, h, R, R⟩
  intro c4
  replace h := ifN c4 h
  refine r_pickT R R R R (r_movD R R R (r_skip R R R (r_skip R R R (r_skip R R R (r_skip R R R (r_pickF R R R R (ev_endJ (thenj_norm (swj_condF R (swj_skip (blockj_norm (thenj_norm (swj_rg (rgj_ev (r_add R R R R (r_movD R R R (ev_endJ (thenj_norm ?_))))))))))))))))))
  exact ⟨m4, ⟨[(0, .d (.v (.func (.yield lb) #[] #[]))), (1, .d (.el 1 (([c]).map (fun x => D.el 22 [Table.d x] 0 0)) ((0 : Int)).toNat 0)), (9, .d (.v (.int .i64 (c.p_Teams.length : Int)))), (10, .d (.v (.int .i64 (W (x3 + 1)))))], [some ⟨1, [.row 1 1 0 (lv).length]⟩, some (lvI lv)]⟩, [0, 1], Nat.lt_succ_self _, (vwK R R (.cons R R (.row R .nil)) (.cons R R (.cons R R (.cons R R (.cons R R .nil))))), (W (x3 + 1)), lv, h, R, R⟩
 intro c2
 replace h := ifN (Int.not_lt.2 c2) h
 refine ev_endJ (thenj_norm (swj_seq (swj_condF R (swj_exit (thenj_exit (thenj_exit ?_))))))
 subst hK4
 refine blockj_exit ?_
 refine ⟨.inr R, [some ⟨1, [.row 1 1 0 (lv).length]⟩, some (lvI lv)], [0, 1], (vwK R R (.cons R R (.row R .nil)) .nil), ?_⟩
 refine block_norm (then_norm ?_)
 refine swm_of fun df => ?_
 refine qG (r_ldW tb R R R R R R R R R (r_asgW R R R (eN (sw_ret ?_))))
 obtain rfl := sI h
 exact (fin_S (t := .row 0 1 0 (lv).length) (L := [some (lvI lv)]) (κ := [1]) R (.cons (.tmp 4) .nil) (vwK R R (.row R .nil) (.cons R R .nil)) ⟨R, R⟩)
def slices_insertionSortCmpFunc_int_m_window_table_order_L1 (F : Nat) (a : Int) (t : Table) (K : (List Int) → Int → Option (List Int)) : Nat → (List Int) → Int → Option (List Int)
 | 0, _, _ => none
 | n + 1, data2, j => if a < j then (Option.bind (ixO data2 j) fun e => Option.bind (ixO data2 (W (j - 1))) fun e2 => Option.bind (window_table_order F t e e2) fun rv => if rv < 0 then (Option.bind (setO data2 j e2) fun data3 => Option.bind (ixO data3 (W (j - 1))) fun e3 => Option.bind (setO data3 (W (j - 1)) e) fun data4 => slices_insertionSortCmpFunc_int_m_window_table_order_L1 F a t K n data4 (W (j - 1))) else (K data2 j)) else (K data2 j)
def slices_insertionSortCmpFunc_int_m_window_table_order_L2 (F : Nat) (a : Int) (t : Table) (K : (List Int) → Int → Option (List Int)) : Nat → (List Int) → Int → Option (List Int)
 | 0, _, _ => none
 | n + 1, data3, j => if a < j then (Option.bind (ixO data3 j) fun e => Option.bind (ixO data3 (W (j - 1))) fun e2 => Option.bind (window_table_order F t e e2) fun rv => if rv < 0 then (Option.bind (setO data3 j e2) fun data4 => Option.bind (ixO data4 (W (j - 1))) fun e3 => Option.bind (setO data4 (W (j - 1)) e) fun data5 => slices_insertionSortCmpFunc_int_m_window_table_order_L2 F a t K n data5 (W (j - 1))) else (K data3 j)) else (K data3 j)
def slices_insertionSortCmpFunc_int_m_window_table_order_L3 (F : Nat) (a : Int) (b : Int) (t : Table) (K : (List Int) → Int → Option (List Int)) : Nat → (List Int) → Int → Option (List Int)
 | 0, _, _ => none
 | n + 1, data2, i => if i < b then (slices_insertionSortCmpFunc_int_m_window_table_order_L2 F a t (fun (data3 : (List Int)) (j : Int) => slices_insertionSortCmpFunc_int_m_window_table_order_L3 F a b t K n data3 (W (i + 1))) F data2 i) else (K data2 i)
def slices_insertionSortCmpFunc_int_m_window_table_order (F : Nat) (data : (List Int)) (a : Int) (b : Int) (t : Table) : Option (List Int) := slices_insertionSortCmpFunc_int_m_window_table_order_L3 F a b t (fun (data2 : (List Int)) (i : Int) => some data2) F data (W (a + 1))
theorem slices_insertionSortCmpFunc_int_m_window_table_order_scr {F : Nat} {data : (List Int)} {a : Int} {b : Int} {t : Table} {r : (List Int)} (h : slices_insertionSortCmpFunc_int_m_window_table_order F data a b t = some r) : SCR Try.prog 111 [.row 0 1 0 (data).length, .d (.v (.int .i64 a)), .d (.v (.int .i64 b)), .fn (.func 82) [.d (.el 22 (([t]).map Table.d) ((0 : Int)).toNat 0)] []] [some (lvI data)] (.d (.tup [])) [some (lvI r)] := by
 rw [slices_insertionSortCmpFunc_int_m_window_table_order] at h
 refine SC.of_sw Try.func111 R R R ?_
 dsimp only [argS, List.map]
 refine qG (r_movD R R R (r_add R R R R (r_asgD R R R (eN (sw_block ?_)))))
 obtain ⟨K4, hK4, h⟩ : ∃ K, K = _ ∧ slices_insertionSortCmpFunc_int_m_window_table_order_L3 F a b t K F data (W (a + 1)) = some r := ⟨_, rfl, h⟩
 refine sw_loop (st0 := ⟨[(0, .row 0 1 0 (data).length), (1, .d (.v (.int .i64 a))), (2, .d (.v (.int .i64 b))), (3, .fn (.func 82) [.d (.el 22 (([t]).map Table.d) ((0 : Int)).toNat 0)] []), (8, .d (.v (.int .i64 (W (a + 1)))))], [some (lvI data)]⟩) (κ := [0]) (fun m st => ∃ (data2 : (List Int)) (i : Int), slices_insertionSortCmpFunc_int_m_window_table_order_L3 F a b t K4 m data2 i = some r ∧ st = ⟨[(0, .row 0 1 0 (data2).length), (1, .d (.v (.int .i64 a))), (2, .d (.v (.int .i64 b))), (3, .fn (.func 82) [.d (.el 22 (([t]).map Table.d) ((0 : Int)).toNat 0)] []), (8, .d (.v (.int .i64 i)))], [some (lvI data2)]⟩) (vwK R R (.row R .nil) (.cons R R (.cons R R (.cons R R (.cons R R (.cons R R .nil)))))) ⟨data, (W (a + 1)), h, R⟩ ?_
 clear h
 rintro m4 st ⟨data2, i, h, rfl⟩
 cases m4 with
 | zero => cases (show (none : Option (List Int)) = some r from h)
 | succ m4 =>
 rw [slices_insertionSortCmpFunc_int_m_window_table_order_L3] at h
 refine sw_seq (qG (r_movD R R R (r_movD R R R ?_)))
 refine r_lss R R R R ?_ ?_
 ·intro c
  replace h := ifP c h
  refine eN (sw_condT R (sw_skip (then_norm (sw_seq (sw_block (qG (r_movD R R R (r_asgD R R R (eN (sw_block ?_))))))))))
  obtain ⟨K5, hK5, h⟩ : ∃ K, K = _ ∧ slices_insertionSortCmpFunc_int_m_window_table_order_L2 F a t K F data2 i = some r := ⟨_, rfl, h⟩
  refine sw_loop (st0 := ⟨[(0, .row 0 1 0 (data2).length), (1, .d (.v (.int .i64 a))), (2, .d (.v (.int .i64 b))), (3, .fn (.func 82) [.d (.el 22 (([t]).map Table.d) ((0 : Int)).toNat 0)] []), (8, .d (.v (.int .i64 i))), (9, .d (.v (.int .i64 i)))], [some (lvI data2)]⟩) (κ := [0]) (fun m st => ∃ (data3 : (List Int)) (j : Int), slices_insertionSortCmpFunc_int_m_window_table_order_L2 F a t K5 m data3 j = some r ∧ st = ⟨[(0, .row 0 1 0 (data3).length), (1, .d (.v (.int .i64 a))), (2, .d (.v (.int .i64 b))), (3, .fn (.func 82) [.d (.el 22 (([t]).map Table.d) ((0 : Int)).toNat 0)] []), (8, .d (.v (.int .i64 i))), (9, .d (.v (.int .i64 j)))], [some (lvI data3)]⟩) (vwK R R (.row R .nil) (.cons R R (.cons R R (.cons R R (.cons R R (.cons R R (.cons R R .nil))))))) ⟨data2, i, h, R⟩ ?_
  clear h
  rintro m5 st ⟨data3, j, h, rfl⟩
  cases m5 with
  | zero => cases (show (none : Option (List Int)) = some r from h)
  | succ m5 =>
  rw [slices_insertionSortCmpFunc_int_m_window_table_order_L2] at h
  refine sw_seq (sw_seq (sw_dr (by kernel_rfl) (r_movD R R R (r_movD R R R ?_))))
  refine r_gtr R R R R ?_ ?_
  ·intro c2
   replace h := ifP c2 h
   refine r_movD R R R (r_movF R R R (r_movW R R R (r_movD R R R ?_)))
   obtain ⟨e, ie, h⟩ := bnd h
   refine r_ixI tb R R R R R R (ix0 ie) (ix1 ie) R R ?_
   refine r_ldD (y := .v (.int .i64 e)) tb R R R R (ix2 (g := fun a => T.d (vI a)) ie) R R R R ?_
   refine r_movW R R R (r_movD R R R (r_sub R R R R ?_))
   obtain ⟨e2, ie2, h⟩ := bnd h
   refine r_ixI tb R R R R R R (ix0 ie2) (ix1 ie2) R R ?_
   refine r_ldD (y := .v (.int .i64 e2)) tb R R R R (ix2 (g := fun a => T.d (vI a)) ie2) R R R R ?_
   obtain ⟨rv, hrv, h⟩ := bnd h
   refine r_callXF (t' := .d (.v (.int .i64 rv))) (news := []) (news' := []) (fi := [.d (.el 22 (([t]).map Table.d) ((0 : Int)).toNat 0)]) (ca := []) (window_table_order_pc hrv) R .nil (.of (by kernel_rfl)) R (.inr R) R ((.cons (.d (.d _)) (.cons (.d (.d _)) (.cons (.d (.d _)) .nil)))) R .nil R R R ?_
   simp only [List.map_nil, List.append_nil]
   refine r_lss R R R R ?_ ?_
   ·intro c3
    replace h := ifP c3 h
    refine r_pickT R R R R (ev_endD (by kernel_rfl) (then_norm (sw_condT R (sw_skip (then_norm (sw_seq (sw_block (sw_dr (by kernel_rfl) (r_movW R R R (r_movD R R R (r_movW R R R (r_movD R R R (r_sub R R R R (r_movW R R R (r_movD R R R (r_sub R R R R (r_ixI tb R R R R R R (ix0 ie2) (ix1 ie2) R R ?_)))))))))))))))))
    refine r_ldD (y := .v (.int .i64 e2)) tb R R R R (ix2 (g := fun a => T.d (vI a)) ie2) R R R R ?_
    refine r_movW R R R (r_movD R R R (r_ixI tb R R R R R R (ix0 ie) (ix1 ie) R R ?_))
    refine r_ldD (y := .v (.int .i64 e)) tb R R R R (ix2 (g := fun a => T.d (vI a)) ie) R R R R ?_
    refine r_ixI tb R R R R R R (ix0 ie) (ix1 ie) R R ?_
    obtain ⟨data4, idata4, h⟩ := bnd h
    refine r_stQ (a' := (e2 : Int)) tb R R R R ie R R R R idata4 R R ?_
    dsimp only [List.set_cons_zero, List.set_cons_succ]
    first | rw [set_len idata4] | skip
    obtain ⟨e3, ie3, h⟩ := bnd h
    refine r_ixI tb R R R R R R (ix0 ie3) (ix1 ie3) R R ?_
    obtain ⟨data5, idata5, h⟩ := bnd h
    refine r_stQ (a' := (e : Int)) tb R R R R ie3 R R R R idata5 R R ?_
    dsimp only [List.set_cons_zero, List.set_cons_succ]
    first | rw [set_len idata5] | skip
    refine ev_endD (by kernel_rfl) (block_norm (then_norm (sw_rg (r_movD R R R (r_sub R R R R (r_asgD R R R (eN ?_)))))))
    exact ⟨m5, ⟨[(0, .row 0 1 0 (data5).length), (1, .d (.v (.int .i64 a))), (2, .d (.v (.int .i64 b))), (3, .fn (.func 82) [.d (.el 22 (([t]).map Table.d) ((0 : Int)).toNat 0)] []), (8, .d (.v (.int .i64 i))), (9, .d (.v (.int .i64 (W (j - 1)))))], [some (lvI data5)]⟩, [0], Nat.lt_succ_self _, (vwK R R (.row R .nil) (.cons R R (.cons R R (.cons R R (.cons R R (.cons R R (.cons R R .nil))))))), data5, (W (j - 1)), h, R⟩
   intro c3
   replace h := ifN (Int.not_lt.2 c3) h
   refine r_pickT R R R R (ev_endD (by kernel_rfl) (then_norm (sw_condF R (sw_exit (then_exit (then_exit ?_))))))
   subst hK5
   refine block_exit (block_norm (then_norm (sw_rg (r_movD R R R (r_add R R R R (r_asgD R R R (eN ?_)))))))
   exact ⟨m4, ⟨[(0, .row 0 1 0 (data3).length), (1, .d (.v (.int .i64 a))), (2, .d (.v (.int .i64 b))), (3, .fn (.func 82) [.d (.el 22 (([t]).map Table.d) ((0 : Int)).toNat 0)] []), (8, .d (.v (.int .i64 (W (i + 1)))))], [some (lvI data3)]⟩, [0], Nat.lt_succ_self _, (vwK R R (.row R .nil) (.cons R R (.cons R R (.cons R R (.cons R R (.cons R R .nil)))))), data3, (W (i + 1)), h, R⟩
  intro c2
  replace h := ifN (Int.not_lt.2 c2) h
  refine r_movD R R R (r_skip R R R (r_skip R R R (r_skip R R R (r_skip R R R (r_skip R R R (r_skip R R R (r_skip R R R (r_skip R R R (r_skip R R R (r_skip R R R (r_skip R R R (r_skip R R R (r_pickF R R R R (ev_endD (by kernel_rfl) (then_norm (sw_condF R (sw_exit (then_exit (then_exit ?_)))))))))))))))))))
  subst hK5
  refine block_exit (block_norm (then_norm (sw_rg (r_movD R R R (r_add R R R R (r_asgD R R R (eN ?_)))))))
  exact ⟨m4, ⟨[(0, .row 0 1 0 (data3).length), (1, .d (.v (.int .i64 a))), (2, .d (.v (.int .i64 b))), (3, .fn (.func 82) [.d (.el 22 (([t]).map Table.d) ((0 : Int)).toNat 0)] []), (8, .d (.v (.int .i64 (W (i + 1)))))], [some (lvI data3)]⟩, [0], Nat.lt_succ_self _, (vwK R R (.row R .nil) (.cons R R (.cons R R (.cons R R (.cons R R (.cons R R .nil)))))), data3, (W (i + 1)), h, R⟩
 intro c
 replace h := ifN (Int.not_lt.2 c) h
 refine eN (sw_condF R (sw_exit (then_exit (then_exit ?_))))
 subst hK4
 refine block_exit ?_
 obtain rfl := sI h
 exact fin_n (fin_S (t := .d (.tup [])) (L := [some (lvI data2)]) (κ := [0]) R .nil (vwK R R (.row R .nil) (.cons R R .nil)) ⟨R, R⟩)
def math_bits_Len64 (F : Nat) (x : Int) : Option Int := if 4294967296 ≤ x then (none) else (if 65536 ≤ x then (none) else (if 256 ≤ x then (none) else (Option.bind (ixB (ByteArray.mk #[0, 1, 2, 2, 3, 3, 3, 3, 4, 4, 4, 4, 4, 4, 4, 4, 5, 5, 5, 5, 5, 5, 5, 5, 5, 5, 5, 5, 5, 5, 5, 5, 6, 6, 6, 6, 6, 6, 6, 6, 6, 6, 6, 6, 6, 6, 6, 6, 6, 6, 6, 6, 6, 6, 6, 6, 6, 6, 6, 6, 6, 6, 6, 6, 7, 7, 7, 7, 7, 7, 7, 7, 7, 7, 7, 7, 7, 7, 7, 7, 7, 7, 7, 7, 7, 7, 7, 7, 7, 7, 7, 7, 7, 7, 7, 7, 7, 7, 7, 7, 7, 7, 7, 7, 7, 7, 7, 7, 7, 7, 7, 7, 7, 7, 7, 7, 7, 7, 7, 7, 7, 7, 7, 7, 7, 7, 7, 7, 8, 8, 8, 8, 8, 8, 8, 8, 8, 8, 8, 8, 8, 8, 8, 8, 8, 8, 8, 8, 8, 8, 8, 8, 8, 8, 8, 8, 8, 8, 8, 8, 8, 8, 8, 8, 8, 8, 8, 8, 8, 8, 8, 8, 8, 8, 8, 8, 8, 8, 8, 8, 8, 8, 8, 8, 8, 8, 8, 8, 8, 8, 8, 8, 8, 8, 8, 8, 8, 8, 8, 8, 8, 8, 8, 8, 8, 8, 8, 8, 8, 8, 8, 8, 8, 8, 8, 8, 8, 8, 8, 8, 8, 8, 8, 8, 8, 8, 8, 8, 8, 8, 8, 8, 8, 8, 8, 8, 8, 8, 8, 8, 8, 8, 8, 8, 8, 8, 8, 8, 8, 8, 8, 8, 8, 8, 8, 8]) (W8 x)) fun b => some (W (0 + (W b))))))
theorem math_bits_Len64_pc {F : Nat} {x : Int} {r : Int} (h : math_bits_Len64 F x = some r) : PC Try.prog 120 [.v (.int .u64 x)] (.v (.int .i64 r)) := by
 rw [math_bits_Len64] at h
 refine SC.of_sw Try.func120 R R R ?_
 dsimp only [argS, List.map]
 refine qG (r_asgD R R R (eN (sw_seq (qG (r_movD R R R ?_)))))
 refine r_geq R R R R ?_ ?_
 ·intro c
  replace h := ifP c h
  cases h
 intro c
 replace h := ifN (Int.not_le.2 c) h
 refine eN (sw_condF R (sw_skip (then_norm (sw_seq (qG (r_movD R R R ?_))))))
 refine r_geq R R R R ?_ ?_
 ·intro c2
  replace h := ifP c2 h
  cases h
 intro c2
 replace h := ifN (Int.not_le.2 c2) h
 refine eN (sw_condF R (sw_skip (then_norm (sw_seq (qG (r_movD R R R ?_))))))
 refine r_geq R R R R ?_ ?_
 ·intro c3
  replace h := ifP c3 h
  cases h
 intro c3
 replace h := ifN (Int.not_le.2 c3) h
 refine eN (sw_condF R (sw_skip (then_norm (qG (r_movD R R R (r_movD R R R (r_cvI (k2 := .u8) R R R R R R ?_)))))))
 obtain ⟨b, ib, h⟩ := bnd h
 refine r_ixB R R R ib R R (r_cvI (k2 := .i64) R R R R R R (r_add R R R R (r_asgD R R R (eN (sw_ret ?_)))))
 obtain rfl := sI h
 exact fin_0 (t := .d (.v (.int .i64 (W (0 + (W b)))))) R R R (.cons (.tmp 2) .nil)
def math_bits_Len (F : Nat) (x : Int) : Option Int := Option.bind (math_bits_Len64 F x) fun rv => some rv
theorem math_bits_Len_pc {F : Nat} {x : Int} {r : Int} (h : math_bits_Len F x = some r) : PC Try.prog 110 [.v (.int .u64 x)] (.v (.int .i64 r)) := by
 rw [math_bits_Len] at h
 refine SC.of_sw Try.func110 R R R ?_
 dsimp only [argS, List.map]
 refine qG (r_asgD R R R (eN (sw_seq (sw_condF R (sw_skip (then_norm (qG (r_movD R R R ?_))))))))
 obtain ⟨rv, hrv, h⟩ := bnd h
 refine r_call (math_bits_Len64_pc hrv) (.of (by kernel_rfl)) R R R R (r_asgD R R R (eN (sw_ret ?_)))
 obtain rfl := sI h
 exact fin_0 (t := .d (.v (.int .i64 rv))) R R R (.cons (.tmp 2) .nil)
def slices_pdqsortCmpFunc_int_m_window_table_order_L1 (F : Nat) (t : (List Int)) (o : Int) (a : Int) (rv : Int) (t2 : Table) (K : Option (List Int)) : Nat → Option (List Int)
 | 0 => none
 | n + 1 => if (W (a - o)) ≤ 12 then (Option.bind (lenO (slices_insertionSortCmpFunc_int_m_window_table_order F t o a t2) t) fun rv2 => some rv2) else (if rv = 0 then (none) else (none))
def slices_pdqsortCmpFunc_int_m_window_table_order (F : Nat) (t : (List Int)) (o : Int) (a : Int) (rv : Int) (t2 : Table) : Option (List Int) := slices_pdqsortCmpFunc_int_m_window_table_order_L1 F t o a rv t2 none F 
theorem slices_pdqsortCmpFunc_int_m_window_table_order_scr {F : Nat} {t : (List Int)} {o : Int} {a : Int} {rv : Int} {t2 : Table} {r : (List Int)} (h : slices_pdqsortCmpFunc_int_m_window_table_order F t o a rv t2 = some r) : SCR Try.prog 109 [.row 0 1 0 (t).length, .d (.v (.int .i64 o)), .d (.v (.int .i64 a)), .d (.v (.int .i64 rv)), .fn (.func 82) [.d (.el 22 (([t2]).map Table.d) ((0 : Int)).toNat 0)] []] [some (lvI t)] (.d (.tup [])) [some (lvI r)] := by
 rw [slices_pdqsortCmpFunc_int_m_window_table_order] at h
 refine SC.of_sw Try.func109 R R R ?_
 dsimp only [argS, List.map]
 refine qG (r_asgD R R R (eN (qG (r_asgD R R R (eN (sw_block ?_))))))
 obtain ⟨K1, hK1, h⟩ : ∃ K, K = _ ∧ slices_pdqsortCmpFunc_int_m_window_table_order_L1 F t o a rv t2 K F  = some r := ⟨_, rfl, h⟩
 refine sw_loop (st0 := ⟨[(0, .row 0 1 0 (t).length), (1, .d (.v (.int .i64 o))), (2, .d (.v (.int .i64 a))), (3, .d (.v (.int .i64 rv))), (4, .fn (.func 82) [.d (.el 22 (([t2]).map Table.d) ((0 : Int)).toNat 0)] []), (10, .d (.v (.bool true))), (11, .d (.v (.bool true)))], [some (lvI t)]⟩) (κ := [0]) (fun m st => slices_pdqsortCmpFunc_int_m_window_table_order_L1 F t o a rv t2 K1 m  = some r ∧ st = ⟨[(0, .row 0 1 0 (t).length), (1, .d (.v (.int .i64 o))), (2, .d (.v (.int .i64 a))), (3, .d (.v (.int .i64 rv))), (4, .fn (.func 82) [.d (.el 22 (([t2]).map Table.d) ((0 : Int)).toNat 0)] []), (10, .d (.v (.bool true))), (11, .d (.v (.bool true)))], [some (lvI t)]⟩) (vwK R R (.row R .nil) (.cons R R (.cons R R (.cons R R (.cons R R (.cons R R (.cons R R (.cons R R .nil)))))))) ⟨h, R⟩ ?_
 clear h
 rintro m1 st ⟨h, rfl⟩
 cases m1 with
 | zero => cases (show (none : Option (List Int)) = some r from h)
 | succ m1 =>
 rw [slices_pdqsortCmpFunc_int_m_window_table_order_L1] at h
 refine sw_block (qG (r_movD R R R (r_movD R R R (r_sub R R R R (r_asgD R R R (eN (sw_seq (qG (r_movD R R R ?_)))))))))
 refine r_leq R R R R ?_ ?_
 ·intro c
  replace h := ifP c h
  refine eN (sw_condT R (qG (r_movW R R R (r_movD R R R (r_movD R R R (r_movF R R R ?_))))))
  obtain ⟨rv2, hrv2, h⟩ := bnd h
  refine r_callO (t' := .d (.tup [])) (ls := [some (lvI rv2)]) (news := []) ([0]) ([some (lvI rv2)]) (slices_insertionSortCmpFunc_int_m_window_table_order_scr (lenO_eq hrv2).1) (.of (by kernel_rfl)) R (.inl ⟨R, R, R⟩) R R R R ((.row R .nil)) R R R ((.row .nil)) .nil R R R R ?_
  first | rw [← (lenO_eq hrv2).2] | skip
  refine eN (sw_ret (then_ret (block_ret (then_ret (block_ret ?_)))))
  obtain rfl := sI h
  exact (fin_S (t := .d (.tup [])) (L := [some (lvI rv2)]) (κ := [0]) R .nil (vwK R R (.row R .nil) (.cons R R .nil)) ⟨R, R⟩)
 intro c
 replace h := ifN (Int.not_le.2 c) h
 refine eN (sw_condF R (sw_skip (then_norm (sw_seq (qG (r_movD R R R ?_))))))
 refine r_eql R R R R ?_ ?_
 ·intro c2
  replace h := ifP c2 h
  cases h
 intro c2
 replace h := ifN c2 h
 cases h
def slices_SortFunc_int_m_window_table_order (F : Nat) (x : (List Int)) (t : Table) : Option (List Int) := Option.bind (math_bits_Len F (IntKind.u64.wrap (x.length : Int))) fun rv => Option.bind (lenO (slices_pdqsortCmpFunc_int_m_window_table_order F x 0 (x.length : Int) rv t) x) fun rv2 => some rv2
theorem slices_SortFunc_int_m_window_table_order_scr {F : Nat} {x : (List Int)} {t : Table} {r : (List Int)} (h : slices_SortFunc_int_m_window_table_order F x t = some r) : SCR Try.prog 103 [.row 0 1 0 (x).length, .fn (.func 82) [.d (.el 22 (([t]).map Table.d) ((0 : Int)).toNat 0)] []] [some (lvI x)] (.d (.tup [])) [some (lvI r)] := by
 rw [slices_SortFunc_int_m_window_table_order] at h
 refine SC.of_sw Try.func103 R R R ?_
 dsimp only [argS, List.map]
 refine qG (r_movW R R R (r_lenR tb R R R R R (r_asgD R R R (eN (sw_rg (r_movW R R R (r_movD R R R (r_movD R R R (r_cvI (k2 := .u64) R R R R R R ?_)))))))))
 obtain ⟨rv, hrv, h⟩ := bnd h
 refine r_call (math_bits_Len_pc hrv) (.of (by kernel_rfl)) R R R R (r_movF R R R ?_)
 obtain ⟨rv2, hrv2, h⟩ := bnd h
 refine r_callO (t' := .d (.tup [])) (ls := [some (lvI rv2)]) (news := []) ([0]) ([some (lvI rv2)]) (slices_pdqsortCmpFunc_int_m_window_table_order_scr (lenO_eq hrv2).1) (.of (by kernel_rfl)) R (.inl ⟨R, R, R⟩) R R R R ((.row R .nil)) R R R ((.row .nil)) .nil R R R R ?_
 first | rw [← (lenO_eq hrv2).2] | skip
 refine ev_end ?_
 obtain rfl := sI h
 exact fin_n (fin_S (t := .d (.tup [])) (L := [some (lvI rv2)]) (κ := [0]) R .nil (vwK R R (.row R .nil) (.cons R R .nil)) ⟨R, R⟩)
def window_Check_2 (F : Nat) (u : WiTeam) (c : WiTeam) : Option Bool := if u.name.toList = c.name.toList then (some true) else (some false)
theorem window_Check_2_pc {F : Nat} {u : WiTeam} {c : WiTeam} {r : Bool} (h : window_Check_2 F u c = some r) : PC Try.prog 49 [WiTeam.d u, .el 9 (([c]).map WiTeam.d) ((0 : Int)).toNat 0] (.v (.bool r)) := by
 rw [window_Check_2] at h
 refine SC.of_sw Try.func49 R R R ?_
 dsimp only [argS, List.map]
 refine qG (r_box R R R R R R R (r_asgD R R R (eN (qG (r_fa tb R R R R R R R (r_ldD (y := .v (.string u.name)) tb R R R R R R R R R (r_faE tb R R R R R R R (r_ldE (y := .v (.string c.name)) tb R R (ix2 (g := WiTeam.d) (R : ixO [c] 0 = some c)) R R R R ?_))))))))
 refine r_streql R R R R ?_ ?_
 ·intro c2
  replace h := ifP c2 h
  refine r_asgD R R R (eN (sw_ret ?_))
  obtain rfl := sI h
  exact fin_0 (t := .d (.v (.bool true))) R R R (.cons (.tmp 3) .nil)
 intro c2
 replace h := ifN c2 h
 refine r_asgD R R R (eN (sw_ret ?_))
 obtain rfl := sI h
 exact fin_0 (t := .d (.v (.bool false))) R R R (.cons (.tmp 3) .nil)
def window_Check_1 (F : Nat) (a : Span) (c : Int) : Option (Bool × Int) := Option.bind (window_out F a.lo (W (c + 1)) 3650) fun rv => if rv = true then (some (true, a.hi)) else (Option.bind (window_out F a.hi a.lo 3650) fun rv2 => some (rv2, a.hi))
theorem window_Check_1_scr {F : Nat} {a : Span} {c : Int} {r : (Bool × Int)} (h : window_Check_1 F a c = some r) : SCR Try.prog 46 [.d (Span.d a), .ref 0 1 0 0] [some ⟨1, [.d (.v (.int .i64 c))]⟩] (.d (.v (.bool r.1))) [some ⟨1, [.d (.v (.int .i64 r.2))]⟩] := by
 rw [window_Check_1] at h
 refine SC.of_sw Try.func46 R R R ?_
 dsimp only [argS, List.map]
 refine qG (r_box R R R R R R R (r_asgD R R R (eN (qG (r_fa tb R R R R R R R (r_ldD (y := .v (.int .i64 a.lo)) tb R R R R R R R R R (r_ldD (y := .v (.int .i64 c)) tb R R R R R R R R R (r_add R R R R ?_))))))))
 obtain ⟨rv, hrv, h⟩ := bnd h
 refine r_callB (window_out_pc hrv) (.of (by kernel_rfl)) R R R R ?_ ?_
 ·intro c2
  replace h := ifP c2 h
  refine r_movD R R R (r_skip R R R (r_skip R R R (r_skip R R R (r_skip R R R (r_skip R R R (r_pickT R R R R (r_asgD R R R (eN (qG (r_fa tb R R R R R R R (r_ldD (y := .v (.int .i64 a.hi)) tb R R R R R R R R R (r_stE _ ([some ⟨1, [.d (.v (.int .i64 a.hi))]⟩, some ⟨2, [.d (Span.d a)]⟩]) tb R R R R R R R R R R R R (eN (qG (r_movD R R R (r_asgD R R R (eN (sw_ret ?_))))))))))))))))))
  obtain rfl := sI h
  exact (fin_S (t := .d (.v (.bool true))) (L := [some ⟨1, [.d (.v (.int .i64 a.hi))]⟩]) (κ := [0]) R (.cons (.tmp 3) .nil) (vwK R R (.cons R R .nil) (.cons R R .nil)) ⟨R, R⟩)
 intro c2
 replace h := ifF c2 h
 refine r_movD R R R (r_fa tb R R R R R R R (r_ldD (y := .v (.int .i64 a.hi)) tb R R R R R R R R R (r_fa tb R R R R R R R (r_ldD (y := .v (.int .i64 a.lo)) tb R R R R R R R R R ?_))))
 obtain ⟨rv2, hrv2, h⟩ := bnd h
 refine r_call (window_out_pc hrv2) (.of (by kernel_rfl)) R R R R (r_pickF R R R R (r_asgD R R R (eN (qG (r_fa tb R R R R R R R (r_ldD (y := .v (.int .i64 a.hi)) tb R R R R R R R R R (r_stE _ ([some ⟨1, [.d (.v (.int .i64 a.hi))]⟩, some ⟨2, [.d (Span.d a)]⟩]) tb R R R R R R R R R R R R (eN (qG (r_movD R R R (r_asgD R R R (eN (sw_ret ?_)))))))))))))
 obtain rfl := sI h
 exact (fin_S (t := .d (.v (.bool rv2))) (L := [some ⟨1, [.d (.v (.int .i64 a.hi))]⟩]) (κ := [0]) R (.cons (.tmp 3) .nil) (vwK R R (.cons R R .nil) (.cons R R .nil)) ⟨R, R⟩)
def slices_IndexFunc_WiTeam_L1 (F : Nat) (s : (List WiTeam)) (f : (WiTeam → Option Bool)) (K : Int → Option Int) : Nat → Int → Option Int
 | 0, _ => none
 | n + 1, x => if x < (s.length : Int) then (Option.bind (ixO s x) fun e => Option.bind (f e) fun rv => if rv = true then (some x) else (slices_IndexFunc_WiTeam_L1 F s f K n (W (x + 1)))) else (K x)
def slices_IndexFunc_WiTeam (F : Nat) (s : (List WiTeam)) (f : (WiTeam → Option Bool)) : Option Int := slices_IndexFunc_WiTeam_L1 F s f (fun (x : Int) => some (-1)) F 0
theorem slices_IndexFunc_WiTeam_scr {F : Nat} {s : (List WiTeam)} {f : (WiTeam → Option Bool)} {r : Int} {fi : Nat} {fc : List D} (fh : ∀ {a0 : WiTeam} {r : Bool}, f a0 = some r → PC Try.prog fi ([WiTeam.d a0] ++ fc) (.v (.bool r))) (fe : Ent Try.prog fi) (h : slices_IndexFunc_WiTeam F s f = some r) : SCR Try.prog 72 [.d (.arr 9 ((s).map WiTeam.d)), .fn (.func fi) [] (fc.map .d)] [] (.d (.v (.int .i64 r))) (List.map some []) := by
 rw [slices_IndexFunc_WiTeam] at h
 refine SC.of_sw Try.func72 R R R ?_
 dsimp only [argS, List.map]
 refine qG (r_asgD R R R (eN (sw_seq (qG (r_movD R R R (r_lenM tb R R R R R (r_movD R R R (eN (sw_block ?_)))))))))
 obtain ⟨K2, hK2, h⟩ : ∃ K, K = _ ∧ slices_IndexFunc_WiTeam_L1 F s f K F 0 = some r := ⟨_, rfl, h⟩
 refine sw_loop (st0 := ⟨[(0, .d (.arr 9 ((s).map WiTeam.d))), (1, .fn (.func fi) [] (fc.map .d)), (4, .d (.v (.int .i64 0))), (7, .d (.v (.int .i64 (s.length : Int)))), (8, .d (.v (.int .i64 0)))], []⟩) (κ := []) (fun m st => ∃ (x : Int), slices_IndexFunc_WiTeam_L1 F s f K2 m x = some r ∧ st = ⟨[(0, .d (.arr 9 ((s).map WiTeam.d))), (1, .fn (.func fi) [] (fc.map .d)), (4, .d (.v (.int .i64 0))), (7, .d (.v (.int .i64 (s.length : Int)))), (8, .d (.v (.int .i64 x)))], []⟩) (vwK R R .nil (.cons R R (.hof R (.cons R R (.cons R R (.cons R R .nil)))))) ⟨0, h, R⟩ ?_
 clear h
 rintro m2 st ⟨x, h, rfl⟩
 cases m2 with
 | zero => cases (show (none : Option Int) = some r from h)
 | succ m2 =>
 rw [slices_IndexFunc_WiTeam_L1] at h
 refine qG ?_
 refine r_lss R R R R ?_ ?_
 ·intro c
  replace h := ifP c h
  refine eN (sw_seq (sw_condT R (sw_skip (then_norm (sw_seq (sw_block (qG (r_movD R R R (r_asgD R R R (eN (qG (r_movF R R R (r_movD R R R (r_movD R R R ?_))))))))))))))
  obtain ⟨e, ie, h⟩ := bnd h
  refine r_ixE tb R R R R R R (ix0 ie) (ix1m ie) R R (r_ldE (y := WiTeam.d e) tb R R (ix2 (g := WiTeam.d) ie) R R R R ?_)
  obtain ⟨rv, hrv, h⟩ := bnd h
  refine r_callH (vs := [WiTeam.d e]) (fh hrv) fe R R R R ?_
  with_reducible apply ev_lit
  ·intro c2
   replace h := ifP c2 h
   refine eN (sw_condT R (qG (r_movD R R R (r_asgD R R R (eN (sw_ret (block_ret (then_ret (then_ret (block_ret (then_ret ?_)))))))))))
   obtain rfl := sI h
   exact fin_0 (t := .d (.v (.int .i64 x))) R R R (.cons (.tmp 4) .nil)
  intro c2
  replace h := ifF c2 h
  refine eN (sw_condF R (sw_skip (block_norm (then_norm (sw_rg (r_add R R R R (r_movD R R R (eN ?_))))))))
  exact ⟨m2, ⟨[(0, .d (.arr 9 ((s).map WiTeam.d))), (1, .fn (.func fi) [] (fc.map .d)), (4, .d (.v (.int .i64 0))), (7, .d (.v (.int .i64 (s.length : Int)))), (8, .d (.v (.int .i64 (W (x + 1)))))], []⟩, [], Nat.lt_succ_self _, (vwK R R .nil (.cons R R (.hof R (.cons R R (.cons R R (.cons R R .nil)))))), (W (x + 1)), h, R⟩
 intro c
 replace h := ifN (Int.not_lt.2 c) h
 refine eN (sw_seq (sw_condF R (sw_exit (then_exit (then_exit ?_)))))
 subst hK2
 refine block_exit (then_norm (qG (r_asgD R R R (eN (sw_ret ?_)))))
 obtain rfl := sI h
 exact fin_0 (t := .d (.v (.int .i64 (-1)))) R R R (.cons (.tmp 4) .nil)
def slices_ContainsFunc_WiTeam (F : Nat) (s : (List WiTeam)) (f : (WiTeam → Option Bool)) : Option Bool := Option.bind (slices_IndexFunc_WiTeam F s f) fun rv => some (decide (0 ≤ rv))
theorem slices_ContainsFunc_WiTeam_scr {F : Nat} {s : (List WiTeam)} {f : (WiTeam → Option Bool)} {r : Bool} {fi : Nat} {fc : List D} (fh : ∀ {a0 : WiTeam} {r : Bool}, f a0 = some r → PC Try.prog fi ([WiTeam.d a0] ++ fc) (.v (.bool r))) (fe : Ent Try.prog fi) (h : slices_ContainsFunc_WiTeam F s f = some r) : SCR Try.prog 48 [.d (.arr 9 ((s).map WiTeam.d)), .fn (.func fi) [] (fc.map .d)] [] (.d (.v (.bool r))) (List.map some []) := by
 rw [slices_ContainsFunc_WiTeam] at h
 refine SC.of_sw Try.func48 R R R ?_
 dsimp only [argS, List.map]
 refine qG (r_asgD R R R (eN (qG (r_movD R R R (r_movF R R R ?_)))))
 obtain ⟨rv, hrv, h⟩ := bnd h
 refine r_callX (t' := .d (.v (.int .i64 rv))) (news' := []) (slices_IndexFunc_WiTeam_scr (f := f) (fh := fh) (fe := fe) hrv) R .nil (.of (by kernel_rfl)) R R ((.cons (.d (.d _)) (.cons .hof .nil))) R .nil R R R ?_
 simp only [List.map_nil, List.append_nil]
 refine r_geqV R R R R (r_asgD R R R (eN (sw_ret ?_)))
 obtain rfl := sI h
 exact fin_0 (t := .d (.v (.bool (decide (0 ≤ rv))))) R R R (.cons (.tmp 4) .nil)
def cmp_Or_int_L1 (F : Nat) (vals : (List Int)) (K : Int → Option Int) : Nat → Int → Option Int
 | 0, _ => none
 | n + 1, x => if x < (vals.length : Int) then (Option.bind (ixO vals x) fun e => if e = 0 then (cmp_Or_int_L1 F vals K n (W (x + 1))) else (some e)) else (K x)
def cmp_Or_int (F : Nat) (vals : (List Int)) : Option Int := cmp_Or_int_L1 F vals (fun (x : Int) => some 0) F 0
theorem cmp_Or_int_pc {F : Nat} {vals : (List Int)} {r : Int} (h : cmp_Or_int F vals = some r) : PC Try.prog 52 [.arr 1 ((vals).map vI)] (.v (.int .i64 r)) := by
 rw [cmp_Or_int] at h
 refine SC.of_sw Try.func52 R R R ?_
 dsimp only [argS, List.map]
 refine qG (r_asgD R R R (eN (qG (r_asgD R R R (eN (sw_seq (qG (r_movD R R R (r_lenM tb R R R R R (r_movD R R R (eN (sw_block ?_))))))))))))
 obtain ⟨K2, hK2, h⟩ : ∃ K, K = _ ∧ cmp_Or_int_L1 F vals K F 0 = some r := ⟨_, rfl, h⟩
 refine sw_loop (st0 := ⟨[(2, .d (.v (.int .i64 0))), (3, .d (.v (.int .i64 0))), (6, .d (.arr 1 ((vals).map vI))), (7, .d (.v (.int .i64 (vals.length : Int)))), (8, .d (.v (.int .i64 0)))], []⟩) (κ := []) (fun m st => ∃ (x : Int), cmp_Or_int_L1 F vals K2 m x = some r ∧ st = ⟨[(2, .d (.v (.int .i64 0))), (3, .d (.v (.int .i64 0))), (6, .d (.arr 1 ((vals).map vI))), (7, .d (.v (.int .i64 (vals.length : Int)))), (8, .d (.v (.int .i64 x)))], []⟩) (vwK R R .nil (.cons R R (.cons R R (.cons R R (.cons R R (.cons R R .nil)))))) ⟨0, h, R⟩ ?_
 clear h
 rintro m2 st ⟨x, h, rfl⟩
 cases m2 with
 | zero => cases (show (none : Option Int) = some r from h)
 | succ m2 =>
 rw [cmp_Or_int_L1] at h
 refine qG ?_
 refine r_lss R R R R ?_ ?_
 ·intro c
  replace h := ifP c h
  refine eN (sw_seq (sw_condT R (sw_skip (then_norm (sw_seq (sw_block (qG ?_)))))))
  obtain ⟨e, ie, h⟩ := bnd h
  refine r_ixE tb R R R R R R (ix0 ie) (ix1m ie) R R (r_ldE (y := .v (.int .i64 e)) tb R R (ix2 (g := vI) ie) R R R R (r_asgD R R R (eN (qG (r_movD R R R (r_movD R R R ?_))))))
  refine r_neq R R R R ?_ ?_
  ·intro c2
   replace h := ifN c2 h
   refine eN (sw_condT R (qG (r_movD R R R (r_asgD R R R (eN (sw_ret (block_ret (then_ret (then_ret (block_ret (then_ret ?_)))))))))))
   obtain rfl := sI h
   exact fin_0 (t := .d (.v (.int .i64 e))) R R R (.cons (.tmp 2) .nil)
  intro c2
  replace h := ifP c2 h
  refine eN (sw_condF R (sw_skip (block_norm (then_norm (sw_rg (r_add R R R R (r_movD R R R (eN ?_))))))))
  exact ⟨m2, ⟨[(2, .d (.v (.int .i64 0))), (3, .d (.v (.int .i64 0))), (6, .d (.arr 1 ((vals).map vI))), (7, .d (.v (.int .i64 (vals.length : Int)))), (8, .d (.v (.int .i64 (W (x + 1)))))], []⟩, [], Nat.lt_succ_self _, (vwK R R .nil (.cons R R (.cons R R (.cons R R (.cons R R (.cons R R .nil)))))), (W (x + 1)), h, R⟩
 intro c
 replace h := ifN (Int.not_lt.2 c) h
 refine eN (sw_seq (sw_condF R (sw_exit (then_exit (then_exit ?_)))))
 subst hK2
 refine block_exit (then_norm (qG (r_movD R R R (r_asgD R R R (eN (sw_ret ?_))))))
 obtain rfl := sI h
 exact fin_0 (t := .d (.v (.int .i64 0))) R R R (.cons (.tmp 2) .nil)
def slices_IndexFunc_Span_window_Check_1_L1 (F : Nat) (s : (List Span)) (K : Int → Int → Option (Int × Int)) : Nat → Int → Int → Option (Int × Int)
 | 0, _, _ => none
 | n + 1, f, x => if x < (s.length : Int) then (Option.bind (ixO s x) fun e => Option.bind (window_Check_1 F e f) fun rv => if rv.1 = true then (some (x, rv.2)) else (slices_IndexFunc_Span_window_Check_1_L1 F s K n rv.2 (W (x + 1)))) else (K f x)
def slices_IndexFunc_Span_window_Check_1 (F : Nat) (s : (List Span)) (c : Int) : Option (Int × Int) := slices_IndexFunc_Span_window_Check_1_L1 F s (fun (f : Int) (x : Int) => some ((-1), f)) F c 0
theorem slices_IndexFunc_Span_window_Check_1_scr {F : Nat} {s : (List Span)} {c : Int} {r : (Int × Int)} (h : slices_IndexFunc_Span_window_Check_1 F s c = some r) : SCR Try.prog 73 [.d (.arr 2 ((s).map Span.d)), .fn (.func 46) [] [.ref 0 1 0 0]] [some ⟨1, [.d (.v (.int .i64 c))]⟩] (.d (.v (.int .i64 r.1))) [some ⟨1, [.d (.v (.int .i64 r.2))]⟩] := by
 rw [slices_IndexFunc_Span_window_Check_1] at h
 refine SC.of_sw Try.func73 R R R ?_
 dsimp only [argS, List.map]
 refine qG (r_asgD R R R (eN (sw_seq (qG (r_movD R R R (r_lenM tb R R R R R (r_movD R R R (eN (sw_block ?_)))))))))
 obtain ⟨K2, hK2, h⟩ : ∃ K, K = _ ∧ slices_IndexFunc_Span_window_Check_1_L1 F s K F c 0 = some r := ⟨_, rfl, h⟩
 refine sw_loop (st0 := ⟨[(0, .d (.arr 2 ((s).map Span.d))), (1, .fn (.func 46) [] [.ref 0 1 0 0]), (4, .d (.v (.int .i64 0))), (7, .d (.v (.int .i64 (s.length : Int)))), (8, .d (.v (.int .i64 0)))], [some ⟨1, [.d (.v (.int .i64 c))]⟩]⟩) (κ := [0]) (fun m st => ∃ (f : Int) (x : Int), slices_IndexFunc_Span_window_Check_1_L1 F s K2 m f x = some r ∧ st = ⟨[(0, .d (.arr 2 ((s).map Span.d))), (1, .fn (.func 46) [] [.ref 0 1 0 0]), (4, .d (.v (.int .i64 0))), (7, .d (.v (.int .i64 (s.length : Int)))), (8, .d (.v (.int .i64 x)))], [some ⟨1, [.d (.v (.int .i64 f))]⟩]⟩) (vwK R R (.cons R R .nil) (.cons R R (.cons R R (.cons R R (.cons R R (.cons R R .nil)))))) ⟨c, 0, h, R⟩ ?_
 clear h
 rintro m2 st ⟨f, x, h, rfl⟩
 cases m2 with
 | zero => cases (show (none : Option (Int × Int)) = some r from h)
 | succ m2 =>
 rw [slices_IndexFunc_Span_window_Check_1_L1] at h
 refine qG ?_
 refine r_lss R R R R ?_ ?_
 ·intro c2
  replace h := ifP c2 h
  refine eN (sw_seq (sw_condT R (sw_skip (then_norm (sw_seq (sw_block (qG (r_movD R R R (r_asgD R R R (eN (qG (r_movF R R R (r_movD R R R (r_movD R R R ?_))))))))))))))
  obtain ⟨e, ie, h⟩ := bnd h
  refine r_ixE tb R R R R R R (ix0 ie) (ix1m ie) R R (r_ldE (y := Span.d e) tb R R (ix2 (g := Span.d) ie) R R R R ?_)
  obtain ⟨rv, hrv, h⟩ := bnd h
  refine r_callO (t' := .d (.v (.bool rv.1))) (ls := [some ⟨1, [.d (.v (.int .i64 rv.2))]⟩]) (news := []) ([0]) ([some ⟨1, [.d (.v (.int .i64 rv.2))]⟩]) (window_Check_1_scr hrv) (.of (by kernel_rfl)) R (.inr R) R R R R ((.cons R R .nil)) R R R ((.cons R .nil)) .nil R R R R ?_
  with_reducible apply ev_lit
  ·intro c3
   replace h := ifP c3 h
   refine eN (sw_condT R (qG (r_movD R R R (r_asgD R R R (eN (sw_ret (block_ret (then_ret (then_ret (block_ret (then_ret ?_)))))))))))
   obtain rfl := sI h
   exact (fin_S (t := .d (.v (.int .i64 x))) (L := [some ⟨1, [.d (.v (.int .i64 rv.2))]⟩]) (κ := [0]) R (.cons (.tmp 4) .nil) (vwK R R (.cons R R .nil) (.cons R R .nil)) ⟨R, R⟩)
  intro c3
  replace h := ifF c3 h
  refine eN (sw_condF R (sw_skip (block_norm (then_norm (sw_rg (r_add R R R R (r_movD R R R (eN ?_))))))))
  exact ⟨m2, ⟨[(0, .d (.arr 2 ((s).map Span.d))), (1, .fn (.func 46) [] [.ref 0 1 0 0]), (4, .d (.v (.int .i64 0))), (7, .d (.v (.int .i64 (s.length : Int)))), (8, .d (.v (.int .i64 (W (x + 1)))))], [some ⟨1, [.d (.v (.int .i64 rv.2))]⟩]⟩, [0], Nat.lt_succ_self _, (vwK R R (.cons R R .nil) (.cons R R (.cons R R (.cons R R (.cons R R (.cons R R .nil)))))), rv.2, (W (x + 1)), h, R⟩
 intro c2
 replace h := ifN (Int.not_lt.2 c2) h
 refine eN (sw_seq (sw_condF R (sw_exit (then_exit (then_exit ?_)))))
 subst hK2
 refine block_exit (then_norm (qG (r_asgD R R R (eN (sw_ret ?_)))))
 obtain rfl := sI h
 exact (fin_S (t := .d (.v (.int .i64 (-1)))) (L := [some ⟨1, [.d (.v (.int .i64 f))]⟩]) (κ := [0]) R (.cons (.tmp 4) .nil) (vwK R R (.cons R R .nil) (.cons R R .nil)) ⟨R, R⟩)
def slices_ContainsFunc_Span_window_Check_1 (F : Nat) (s : (List Span)) (c : Int) : Option (Bool × Int) := Option.bind (slices_IndexFunc_Span_window_Check_1 F s c) fun rv => some ((decide (0 ≤ rv.1)), rv.2)
theorem slices_ContainsFunc_Span_window_Check_1_scr {F : Nat} {s : (List Span)} {c : Int} {r : (Bool × Int)} (h : slices_ContainsFunc_Span_window_Check_1 F s c = some r) : SCR Try.prog 51 [.d (.arr 2 ((s).map Span.d)), .fn (.func 46) [] [.ref 0 1 0 0]] [some ⟨1, [.d (.v (.int .i64 c))]⟩] (.d (.v (.bool r.1))) [some ⟨1, [.d (.v (.int .i64 r.2))]⟩] := by
 rw [slices_ContainsFunc_Span_window_Check_1] at h
 refine SC.of_sw Try.func51 R R R ?_
 dsimp only [argS, List.map]
 refine qG (r_asgD R R R (eN (qG (r_movD R R R (r_movF R R R ?_)))))
 obtain ⟨rv, hrv, h⟩ := bnd h
 refine r_callO (t' := .d (.v (.int .i64 rv.1))) (ls := [some ⟨1, [.d (.v (.int .i64 rv.2))]⟩]) (news := []) ([0]) ([some ⟨1, [.d (.v (.int .i64 rv.2))]⟩]) (slices_IndexFunc_Span_window_Check_1_scr hrv) (.of (by kernel_rfl)) R (.inl ⟨R, R, R⟩) R R R R ((.cons R R .nil)) R R R ((.cons R .nil)) .nil R R R R (r_geqV R R R R (r_asgD R R R (eN (sw_ret ?_))))
 obtain rfl := sI h
 exact (fin_S (t := .d (.v (.bool (decide (0 ≤ rv.1))))) (L := [some ⟨1, [.d (.v (.int .i64 rv.2))]⟩]) (κ := [0]) R (.cons (.tmp 4) .nil) (vwK R R (.cons R R .nil) (.cons R R .nil)) ⟨R, R⟩)
def window_Check_L1 (F : Nat) (t : WiPlan) (K : Int → Option (Int × Int × Int)) : Nat → Int → Option (Int × Int × Int)
 | 0, _ => none
 | n + 1, x2 => if x2 < (t.windows.length : Int) then (Option.bind (ixO t.windows x2) fun e2 => Option.bind (window_out F e2.day 0 3650) fun rv14 => if rv14 = true then (some (3, x2, 7)) else (Option.bind (window_out F e2.until_ 0 1440) fun rv15 => if rv15 = true then (some (3, x2, 7)) else (Option.bind (window_out F e2.from_ 0 (W (e2.until_ - 1))) fun rv16 => if rv16 = true then (some (3, x2, 7)) else (if 0 < x2 then (Option.bind (ixO t.windows (W (x2 - 1))) fun e3 => Option.bind (cmp_Compare_int F e2.day e3.day) fun rv17 => Option.bind (cmp_Or_int F [rv17, 1]) fun rv18 => if rv18 < 0 then (some (3, x2, 2)) else (if 0 < x2 then (if e2.day = e3.day then (if e2.from_ < e3.until_ then (some (3, x2, 2)) else (window_Check_L1 F t K n (W (x2 + 1)))) else (window_Check_L1 F t K n (W (x2 + 1)))) else (window_Check_L1 F t K n (W (x2 + 1))))) else (if 0 < x2 then (Option.bind (ixO t.windows (W (x2 - 1))) fun e4 => if e2.day = e4.day then (if e2.from_ < e4.until_ then (some (3, x2, 2)) else (window_Check_L1 F t K n (W (x2 + 1)))) else (window_Check_L1 F t K n (W (x2 + 1)))) else (window_Check_L1 F t K n (W (x2 + 1)))))))) else (K x2)
def window_Check_L2 (F : Nat) (t : WiPlan) (K : Int → Option (Int × Int × Int)) : Nat → Int → Option (Int × Int × Int)
 | 0, _ => none
 | n + 1, x => if x < (t.teams.length : Int) then (Option.bind (ixO t.teams x) fun e => Option.bind (wind_Name F e.name) fun rv4 => if rv4 = true then (Option.bind (cutO t.teams 0 x) fun q => Option.bind (slices_ContainsFunc_WiTeam F q (fun a0 => window_Check_2 F a0 e)) fun rv5 => if rv5 = true then (some (2, x, 5)) else (Option.bind (window_out F e.priority 1 9) fun rv6 => if rv6 = true then (some (2, x, 7)) else (Option.bind (window_out F e.need 0 100) fun rv7 => if rv7 = true then (some (2, x, 7)) else (Option.bind (window_out F e.credit 0 100000) fun rv8 => if rv8 = true then (some (2, x, 7)) else (Option.bind (window_out F e.wind 0 1000) fun rv9 => if rv9 = true then (some (2, x, 7)) else (Option.bind (window_out F e.rest 0 100) fun rv10 => if rv10 = true then (some (2, x, 7)) else (Option.bind (window_out F e.setup 1 1440) fun rv11 => if rv11 = true then (some (2, x, 7)) else (Option.bind (window_mixed F e.kinds) fun rv12 => if rv12 = true then (some (2, x, 2)) else (if 10 < (e.away.length : Int) then (some (2, x, 3)) else (Option.bind (slices_ContainsFunc_Span_window_Check_1 F e.away (-1)) fun rv13 => if rv13.1 = true then (some (2, x, 2)) else (window_Check_L2 F t K n (W (x + 1))))))))))))) else (some (2, x, 6))) else (K x)
def window_Check (F : Nat) (t : WiPlan) : Option (Int × Int × Int) := Option.bind (window_out F (t.teams.length : Int) 1 8) fun rv => if rv = true then (some (1, 0, 3)) else (Option.bind (window_out F t.cost 0 100) fun rv2 => if rv2 = true then (some (1, 0, 7)) else (Option.bind (window_out F t.gift 0 100) fun rv3 => if rv3 = true then (some (1, 0, 7)) else (window_Check_L2 F t (fun (x : Int) => if 60 < (t.windows.length : Int) then (some (3, 0, 3)) else (window_Check_L1 F t (fun (x2 : Int) => some (0, 0, 0)) F 0)) F 0)))
theorem window_Check_pc {F : Nat} {t : WiPlan} {r : (Int × Int × Int)} (h : window_Check F t = some r) : PC Try.prog 16 [WiPlan.d t] (.tup [.v (.int .i64 r.1), .v (.int .i64 r.2.1), .v (.int .i64 r.2.2)]) := by
 rw [window_Check] at h
 refine SC.of_sw Try.func16 R R R ?_
 dsimp only [argS, List.map]
 refine qG (r_box R R R R R R R (r_asgD R R R (r_asgD R R R (r_asgD R R R (eN (sw_seq (sw_block (qG (r_fa tb R R R R R R R (r_ldD (y := .arr 9 ((t.teams).map WiTeam.d)) tb R R R R R R R R R (r_lenM tb R R R R R ?_)))))))))))
 obtain ⟨rv, hrv, h⟩ := bnd h
 refine r_callB (window_out_pc hrv) (.of (by kernel_rfl)) R R R R ?_ ?_
 ·intro c
  replace h := ifP c h
  refine r_asgD R R R (eN (sw_condT R (qG (r_asgD R R R (r_asgD R R R (r_asgD R R R (eN (sw_ret (block_ret (then_ret ?_))))))))))
  obtain rfl := sI h
  exact fin_0 (t := .d (.tup [.v (.int .i64 1), .v (.int .i64 0), .v (.int .i64 3)])) R R R (.cons (.tmp 2) (.cons (.tmp 3) (.cons (.tmp 4) .nil)))
 intro c
 replace h := ifF c h
 refine r_asgD R R R (eN (sw_condF R (qG (r_fa tb R R R R R R R (r_ldD (y := .v (.int .i64 t.cost)) tb R R R R R R R R R ?_)))))
 obtain ⟨rv2, hrv2, h⟩ := bnd h
 refine r_callB (window_out_pc hrv2) (.of (by kernel_rfl)) R R R R ?_ ?_
 ·intro c2
  replace h := ifP c2 h
  refine r_movD R R R (r_skip R R R (r_skip R R R (r_skip R R R (r_pickT R R R R (r_asgD R R R (eN (sw_condT R (qG (r_asgD R R R (r_asgD R R R (r_asgD R R R (eN (sw_ret (block_ret (then_ret ?_)))))))))))))))
  obtain rfl := sI h
  exact fin_0 (t := .d (.tup [.v (.int .i64 1), .v (.int .i64 0), .v (.int .i64 7)])) R R R (.cons (.tmp 2) (.cons (.tmp 3) (.cons (.tmp 4) .nil)))
 intro c2
 replace h := ifF c2 h
 refine r_movD R R R (r_fa tb R R R R R R R (r_ldD (y := .v (.int .i64 t.gift)) tb R R R R R R R R R ?_))
 obtain ⟨rv3, hrv3, h⟩ := bnd h
 refine r_callB (window_out_pc hrv3) (.of (by kernel_rfl)) R R R R ?_ ?_
 ·intro c3
  replace h := ifP c3 h
  refine r_pickF R R R R (r_asgD R R R (eN (sw_condT R (qG (r_asgD R R R (r_asgD R R R (r_asgD R R R (eN (sw_ret (block_ret (then_ret ?_)))))))))))
  obtain rfl := sI h
  exact fin_0 (t := .d (.tup [.v (.int .i64 1), .v (.int .i64 0), .v (.int .i64 7)])) R R R (.cons (.tmp 2) (.cons (.tmp 3) (.cons (.tmp 4) .nil)))
 intro c3
 replace h := ifF c3 h
 refine r_pickF R R R R (r_asgD R R R (eN (sw_condF R (sw_skip (block_norm (then_norm (sw_seq (qG (r_fa tb R R R R R R R (r_ldD (y := .arr 9 ((t.teams).map WiTeam.d)) tb R R R R R R R R R (r_lenM tb R R R R R (r_movD R R R (eN (sw_block ?_))))))))))))))
 obtain ⟨K2, hK2, h⟩ : ∃ K, K = _ ∧ window_Check_L2 F t K F 0 = some r := ⟨_, rfl, h⟩
 refine sw_loop (st0 := ⟨[(1, .ref 0 4 0 0), (2, .d (.v (.int .i64 0))), (3, .d (.v (.int .i64 0))), (4, .d (.v (.int .i64 0))), (26, .d (.arr 9 ((t.teams).map WiTeam.d))), (27, .d (.v (.int .i64 (t.teams.length : Int)))), (28, .d (.v (.int .i64 0)))], [some ⟨4, [.d (WiPlan.d t)]⟩]⟩) (κ := [0]) (fun m st => ∃ (x : Int), window_Check_L2 F t K2 m x = some r ∧ st = ⟨[(1, .ref 0 4 0 0), (2, .d (.v (.int .i64 0))), (3, .d (.v (.int .i64 0))), (4, .d (.v (.int .i64 0))), (26, .d (.arr 9 ((t.teams).map WiTeam.d))), (27, .d (.v (.int .i64 (t.teams.length : Int)))), (28, .d (.v (.int .i64 x)))], [some ⟨4, [.d (WiPlan.d t)]⟩]⟩) (vwK R R (.cons R R .nil) (.cons R R (.cons R R (.cons R R (.cons R R (.cons R R (.cons R R (.cons R R .nil)))))))) ⟨0, h, R⟩ ?_
 clear h
 rintro m2 st ⟨x, h, rfl⟩
 cases m2 with
 | zero => cases (show (none : Option (Int × Int × Int)) = some r from h)
 | succ m2 =>
 rw [window_Check_L2] at h
 refine qG ?_
 refine r_lss R R R R ?_ ?_
 ·intro c4
  replace h := ifP c4 h
  refine eN (sw_seq (sw_condT R (sw_skip (then_norm (sw_seq (sw_block (qG (r_movD R R R ?_))))))))
  obtain ⟨e, ie, h⟩ := bnd h
  refine r_ixE tb R R R R R R (ix0 ie) (ix1m ie) R R (r_ldE (y := WiTeam.d e) tb R R (ix2 (g := WiTeam.d) ie) R R R R (r_alloc tb R R R R R (r_asgD R R R (r_stE _ ([some ⟨4, [.d (WiPlan.d t)]⟩, some ⟨9, [.d (WiTeam.d e)]⟩]) tb R R R R R R R R R R R R (eN (qG (r_alloc tb R R R R R (r_stE _ ([some ⟨4, [.d (WiPlan.d t)]⟩, some ⟨9, [.d (WiTeam.d e)]⟩, some ⟨1, [.d (.v (.int .i64 (-1)))]⟩]) tb R R R R R R R R R R R R (eN (qG (r_func R R R R (r_asgF R R R ?_))))))))))))
  refine eN (sw_block (qG (r_fa tb R R R R R R R (r_ldD (y := .v (.string e.name)) tb R R R R R R R R R ?_))))
  obtain ⟨rv4, hrv4, h⟩ := bnd h
  refine r_callB (wind_Name_pc hrv4) (.of (by kernel_rfl)) R R R R ?_ ?_
  ·intro c5
   replace h := ifP c5 h
   refine r_notT R R R (r_asgD R R R (eN (sw_condF R (qG (r_fa tb R R R R R R R (r_ldD (y := .arr 9 ((t.teams).map WiTeam.d)) tb R R R R R R R R R (r_movD R R R ?_)))))))
   obtain ⟨q, iq, h⟩ := bnd h
   refine r_sliceT tb R R R R R R iq R R (r_func R R R R ?_)
   obtain ⟨rv5, hrv5, h⟩ := bnd h
   refine r_callX (t' := .d (.v (.bool rv5))) (news' := []) (slices_ContainsFunc_WiTeam_scr (f := (fun a0 => window_Check_2 F a0 e)) (fc := [.el 9 [WiTeam.d e] 0 0]) (fh := fun hr => window_Check_2_pc hr) (fe := .of (by kernel_rfl)) hrv5) R .nil (.of (by kernel_rfl)) R R ((.cons (.d (.d _)) (.cons (.fnC (.cons (.d (.ref R (.d _))) .nil)) .nil))) R .nil R R R ?_
   simp only [List.map_nil, List.append_nil]
   with_reducible apply ev_lit
   ·intro c6
    replace h := ifP c6 h
    refine r_asgD R R R (eN (sw_condT R (qG (r_movD R R R (r_asgD R R R (r_asgD R R R (r_asgD R R R (eN (sw_ret (block_ret (block_ret (then_ret (then_ret (block_ret (then_ret ?_)))))))))))))))
    obtain rfl := sI h
    exact fin_0 (t := .d (.tup [.v (.int .i64 2), .v (.int .i64 x), .v (.int .i64 5)])) R R R (.cons (.tmp 2) (.cons (.tmp 3) (.cons (.tmp 4) .nil)))
   intro c6
   replace h := ifF c6 h
   refine r_asgD R R R (eN (sw_condF R (qG (r_fa tb R R R R R R R (r_ldD (y := .v (.int .i64 e.priority)) tb R R R R R R R R R ?_)))))
   obtain ⟨rv6, hrv6, h⟩ := bnd h
   refine r_callB (window_out_pc hrv6) (.of (by kernel_rfl)) R R R R ?_ ?_
   ·intro c7
    replace h := ifP c7 h
    refine r_movD R R R (r_skip R R R (r_skip R R R (r_skip R R R (r_pickT R R R R (r_movD R R R (r_skip R R R (r_skip R R R (r_skip R R R (r_pickT R R R R (r_movD R R R (r_skip R R R (r_skip R R R (r_skip R R R (r_pickT R R R R (r_movD R R R (r_skip R R R (r_skip R R R (r_skip R R R (r_pickT R R R R (r_movD R R R (r_skip R R R (r_skip R R R (r_skip R R R (r_pickT R R R R (r_asgD R R R (eN ?_))))))))))))))))))))))))))
    refine sw_condT R (qG (r_movD R R R (r_asgD R R R (r_asgD R R R (r_asgD R R R (eN (sw_ret (block_ret (block_ret (then_ret (then_ret (block_ret (then_ret ?_)))))))))))))
    obtain rfl := sI h
    exact fin_0 (t := .d (.tup [.v (.int .i64 2), .v (.int .i64 x), .v (.int .i64 7)])) R R R (.cons (.tmp 2) (.cons (.tmp 3) (.cons (.tmp 4) .nil)))
   intro c7
   replace h := ifF c7 h
   refine r_movD R R R (r_fa tb R R R R R R R (r_ldD (y := .v (.int .i64 e.need)) tb R R R R R R R R R ?_))
   obtain ⟨rv7, hrv7, h⟩ := bnd h
   refine r_callB (window_out_pc hrv7) (.of (by kernel_rfl)) R R R R ?_ ?_
   ·intro c8
    replace h := ifP c8 h
    refine r_pickF R R R R (r_movD R R R (r_skip R R R (r_skip R R R (r_skip R R R (r_pickT R R R R (r_movD R R R (r_skip R R R (r_skip R R R (r_skip R R R (r_pickT R R R R (r_movD R R R (r_skip R R R (r_skip R R R (r_skip R R R (r_pickT R R R R (r_movD R R R (r_skip R R R (r_skip R R R (r_skip R R R (r_pickT R R R R (r_asgD R R R (eN (sw_condT R (qG (r_movD R R R (r_asgD R R R (r_asgD R R R ?_)))))))))))))))))))))))))))
    refine r_asgD R R R (eN (sw_ret (block_ret (block_ret (then_ret (then_ret (block_ret (then_ret ?_))))))))
    obtain rfl := sI h
    exact fin_0 (t := .d (.tup [.v (.int .i64 2), .v (.int .i64 x), .v (.int .i64 7)])) R R R (.cons (.tmp 2) (.cons (.tmp 3) (.cons (.tmp 4) .nil)))
   intro c8
   replace h := ifF c8 h
   refine r_pickF R R R R (r_movD R R R (r_fa tb R R R R R R R (r_ldD (y := .v (.int .i64 e.credit)) tb R R R R R R R R R ?_)))
   obtain ⟨rv8, hrv8, h⟩ := bnd h
   refine r_callB (window_out_pc hrv8) (.of (by kernel_rfl)) R R R R ?_ ?_
   ·intro c9
    replace h := ifP c9 h
    refine r_pickF R R R R (r_movD R R R (r_skip R R R (r_skip R R R (r_skip R R R (r_pickT R R R R (r_movD R R R (r_skip R R R (r_skip R R R (r_skip R R R (r_pickT R R R R (r_movD R R R (r_skip R R R (r_skip R R R (r_skip R R R (r_pickT R R R R (r_asgD R R R (eN (sw_condT R (qG (r_movD R R R (r_asgD R R R (r_asgD R R R (r_asgD R R R (eN (sw_ret (block_ret (block_ret (then_ret (then_ret (block_ret (then_ret ?_)))))))))))))))))))))))))))))))
    obtain rfl := sI h
    exact fin_0 (t := .d (.tup [.v (.int .i64 2), .v (.int .i64 x), .v (.int .i64 7)])) R R R (.cons (.tmp 2) (.cons (.tmp 3) (.cons (.tmp 4) .nil)))
   intro c9
   replace h := ifF c9 h
   refine r_pickF R R R R (r_movD R R R (r_fa tb R R R R R R R (r_ldD (y := .v (.int .i64 e.wind)) tb R R R R R R R R R ?_)))
   obtain ⟨rv9, hrv9, h⟩ := bnd h
   refine r_callB (window_out_pc hrv9) (.of (by kernel_rfl)) R R R R ?_ ?_
   ·intro c10
    replace h := ifP c10 h
    refine r_pickF R R R R (r_movD R R R (r_skip R R R (r_skip R R R (r_skip R R R (r_pickT R R R R (r_movD R R R (r_skip R R R (r_skip R R R (r_skip R R R (r_pickT R R R R (r_asgD R R R (eN (sw_condT R (qG (r_movD R R R (r_asgD R R R (r_asgD R R R (r_asgD R R R (eN (sw_ret (block_ret (block_ret (then_ret (then_ret (block_ret (then_ret ?_))))))))))))))))))))))))))
    obtain rfl := sI h
    exact fin_0 (t := .d (.tup [.v (.int .i64 2), .v (.int .i64 x), .v (.int .i64 7)])) R R R (.cons (.tmp 2) (.cons (.tmp 3) (.cons (.tmp 4) .nil)))
   intro c10
   replace h := ifF c10 h
   refine r_pickF R R R R (r_movD R R R (r_fa tb R R R R R R R (r_ldD (y := .v (.int .i64 e.rest)) tb R R R R R R R R R ?_)))
   obtain ⟨rv10, hrv10, h⟩ := bnd h
   refine r_callB (window_out_pc hrv10) (.of (by kernel_rfl)) R R R R ?_ ?_
   ·intro c11
    replace h := ifP c11 h
    refine r_pickF R R R R (r_movD R R R (r_skip R R R (r_skip R R R (r_skip R R R (r_pickT R R R R (r_asgD R R R (eN (sw_condT R (qG (r_movD R R R (r_asgD R R R (r_asgD R R R (r_asgD R R R (eN (sw_ret (block_ret (block_ret (then_ret (then_ret (block_ret (then_ret ?_)))))))))))))))))))))
    obtain rfl := sI h
    exact fin_0 (t := .d (.tup [.v (.int .i64 2), .v (.int .i64 x), .v (.int .i64 7)])) R R R (.cons (.tmp 2) (.cons (.tmp 3) (.cons (.tmp 4) .nil)))
   intro c11
   replace h := ifF c11 h
   refine r_pickF R R R R (r_movD R R R (r_fa tb R R R R R R R (r_ldD (y := .v (.int .i64 e.setup)) tb R R R R R R R R R ?_)))
   obtain ⟨rv11, hrv11, h⟩ := bnd h
   refine r_callB (window_out_pc hrv11) (.of (by kernel_rfl)) R R R R ?_ ?_
   ·intro c12
    replace h := ifP c12 h
    refine r_pickF R R R R (r_asgD R R R (eN (sw_condT R (qG (r_movD R R R (r_asgD R R R (r_asgD R R R (r_asgD R R R (eN (sw_ret (block_ret (block_ret (then_ret (then_ret (block_ret (then_ret ?_))))))))))))))))
    obtain rfl := sI h
    exact fin_0 (t := .d (.tup [.v (.int .i64 2), .v (.int .i64 x), .v (.int .i64 7)])) R R R (.cons (.tmp 2) (.cons (.tmp 3) (.cons (.tmp 4) .nil)))
   intro c12
   replace h := ifF c12 h
   refine r_pickF R R R R (r_asgD R R R (eN (sw_condF R (qG (r_fa tb R R R R R R R (r_ldD (y := .arr 1 ((e.kinds).map vI)) tb R R R R R R R R R ?_))))))
   obtain ⟨rv12, hrv12, h⟩ := bnd h
   refine r_callB (window_mixed_pc hrv12) (.of (by kernel_rfl)) R R R R ?_ ?_
   ·intro c13
    replace h := ifP c13 h
    refine r_asgD R R R (eN (sw_condT R (qG (r_movD R R R (r_asgD R R R (r_asgD R R R (r_asgD R R R (eN (sw_ret (block_ret (block_ret (then_ret (then_ret (block_ret (then_ret ?_)))))))))))))))
    obtain rfl := sI h
    exact fin_0 (t := .d (.tup [.v (.int .i64 2), .v (.int .i64 x), .v (.int .i64 2)])) R R R (.cons (.tmp 2) (.cons (.tmp 3) (.cons (.tmp 4) .nil)))
   intro c13
   replace h := ifF c13 h
   refine r_asgD R R R (eN (sw_condF R (qG (r_fa tb R R R R R R R (r_ldD (y := .arr 2 ((e.away).map Span.d)) tb R R R R R R R R R (r_lenM tb R R R R R ?_))))))
   refine r_gtr R R R R ?_ ?_
   ·intro c14
    replace h := ifP c14 h
    refine r_asgD R R R (eN (sw_condT R (qG (r_movD R R R (r_asgD R R R (r_asgD R R R (r_asgD R R R (eN (sw_ret (block_ret (block_ret (then_ret (then_ret (block_ret (then_ret ?_)))))))))))))))
    obtain rfl := sI h
    exact fin_0 (t := .d (.tup [.v (.int .i64 2), .v (.int .i64 x), .v (.int .i64 3)])) R R R (.cons (.tmp 2) (.cons (.tmp 3) (.cons (.tmp 4) .nil)))
   intro c14
   replace h := ifN (Int.not_lt.2 c14) h
   refine r_asgD R R R (eN (sw_condF R (qG (r_fa tb R R R R R R R (r_ldD (y := .arr 2 ((e.away).map Span.d)) tb R R R R R R R R R (r_movF R R R ?_))))))
   obtain ⟨rv13, hrv13, h⟩ := bnd h
   refine r_callO (t' := .d (.v (.bool rv13.1))) (ls := [some ⟨1, [.d (.v (.int .i64 rv13.2))]⟩]) (news := []) ([2]) ([some ⟨4, [.d (WiPlan.d t)]⟩, some ⟨9, [.d (WiTeam.d e)]⟩, some ⟨1, [.d (.v (.int .i64 rv13.2))]⟩]) (slices_ContainsFunc_Span_window_Check_1_scr hrv13) (.of (by kernel_rfl)) R (.inl ⟨R, R, R⟩) R R R R ((.cons R R .nil)) R R R ((.cons R .nil)) .nil R R R R ?_
   with_reducible apply ev_lit
   ·intro c15
    replace h := ifP c15 h
    refine r_asgD R R R (eN (sw_condT R (qG (r_movD R R R (r_asgD R R R (r_asgD R R R (r_asgD R R R (eN (sw_ret (block_ret (block_ret (then_ret (then_ret (block_ret (then_ret ?_)))))))))))))))
    obtain rfl := sI h
    exact fin_0 (t := .d (.tup [.v (.int .i64 2), .v (.int .i64 x), .v (.int .i64 2)])) R R R (.cons (.tmp 2) (.cons (.tmp 3) (.cons (.tmp 4) .nil)))
   intro c15
   replace h := ifF c15 h
   refine r_asgD R R R (eN (sw_condF R (sw_skip (block_norm (block_norm (then_norm (sw_rg (r_add R R R R (r_movD R R R (eN ?_))))))))))
   exact ⟨m2, ⟨[(1, .ref 0 4 0 0), (2, .d (.v (.int .i64 0))), (3, .d (.v (.int .i64 0))), (4, .d (.v (.int .i64 0))), (26, .d (.arr 9 ((t.teams).map WiTeam.d))), (27, .d (.v (.int .i64 (t.teams.length : Int)))), (28, .d (.v (.int .i64 (W (x + 1)))))], [some ⟨4, [.d (WiPlan.d t)]⟩]⟩, [0], Nat.lt_succ_self _, (vwK R R (.cons R R .nil) (.cons R R (.cons R R (.cons R R (.cons R R (.cons R R (.cons R R (.cons R R .nil)))))))), (W (x + 1)), h, R⟩
  intro c5
  replace h := ifF c5 h
  refine r_notF R R R (r_asgD R R R (eN (sw_condT R (qG (r_movD R R R (r_asgD R R R (r_asgD R R R (r_asgD R R R (eN (sw_ret (block_ret (block_ret (then_ret (then_ret (block_ret (then_ret ?_))))))))))))))))
  obtain rfl := sI h
  exact fin_0 (t := .d (.tup [.v (.int .i64 2), .v (.int .i64 x), .v (.int .i64 6)])) R R R (.cons (.tmp 2) (.cons (.tmp 3) (.cons (.tmp 4) .nil)))
 intro c4
 replace h := ifN (Int.not_lt.2 c4) h
 refine eN (sw_seq (sw_condF R (sw_exit (then_exit (then_exit ?_)))))
 subst hK2
 refine block_exit (then_norm (sw_seq (qG (r_fa tb R R R R R R R (r_ldD (y := .arr 3 ((t.windows).map WiWindow.d)) tb R R R R R R R R R (r_lenM tb R R R R R ?_))))))
 refine r_gtr R R R R ?_ ?_
 ·intro c16
  replace h := ifP c16 h
  refine eN (sw_condT R (qG (r_asgD R R R (r_asgD R R R (r_asgD R R R (eN (sw_ret (then_ret ?_))))))))
  obtain rfl := sI h
  exact fin_0 (t := .d (.tup [.v (.int .i64 3), .v (.int .i64 0), .v (.int .i64 3)])) R R R (.cons (.tmp 2) (.cons (.tmp 3) (.cons (.tmp 4) .nil)))
 intro c16
 replace h := ifN (Int.not_lt.2 c16) h
 refine eN (sw_condF R (sw_skip (then_norm (sw_seq (qG (r_fa tb R R R R R R R (r_ldD (y := .arr 3 ((t.windows).map WiWindow.d)) tb R R R R R R R R R (r_lenM tb R R R R R (r_movD R R R (eN (sw_block ?_)))))))))))
 obtain ⟨K4, hK4, h⟩ : ∃ K, K = _ ∧ window_Check_L1 F t K F 0 = some r := ⟨_, rfl, h⟩
 refine sw_loop (st0 := ⟨[(1, .ref 0 4 0 0), (2, .d (.v (.int .i64 0))), (3, .d (.v (.int .i64 0))), (4, .d (.v (.int .i64 0))), (101, .d (.arr 3 ((t.windows).map WiWindow.d))), (102, .d (.v (.int .i64 (t.windows.length : Int)))), (103, .d (.v (.int .i64 0)))], [some ⟨4, [.d (WiPlan.d t)]⟩]⟩) (κ := [0]) (fun m st => ∃ (x2 : Int), window_Check_L1 F t K4 m x2 = some r ∧ st = ⟨[(1, .ref 0 4 0 0), (2, .d (.v (.int .i64 0))), (3, .d (.v (.int .i64 0))), (4, .d (.v (.int .i64 0))), (101, .d (.arr 3 ((t.windows).map WiWindow.d))), (102, .d (.v (.int .i64 (t.windows.length : Int)))), (103, .d (.v (.int .i64 x2)))], [some ⟨4, [.d (WiPlan.d t)]⟩]⟩) (vwK R R (.cons R R .nil) (.cons R R (.cons R R (.cons R R (.cons R R (.cons R R (.cons R R (.cons R R .nil)))))))) ⟨0, h, R⟩ ?_
 clear h
 rintro m4 st ⟨x2, h, rfl⟩
 cases m4 with
 | zero => cases (show (none : Option (Int × Int × Int)) = some r from h)
 | succ m4 =>
 rw [window_Check_L1] at h
 refine qG ?_
 refine r_lss R R R R ?_ ?_
 ·intro c17
  replace h := ifP c17 h
  refine eN (sw_seq (sw_condT R (sw_skip (then_norm (sw_seq (sw_block (qG (r_movD R R R ?_))))))))
  obtain ⟨e2, ie2, h⟩ := bnd h
  refine r_ixE tb R R R R R R (ix0 ie2) (ix1m ie2) R R (r_ldE (y := WiWindow.d e2) tb R R (ix2 (g := WiWindow.d) ie2) R R R R (r_alloc tb R R R R R (r_asgD R R R (r_stE _ ([some ⟨4, [.d (WiPlan.d t)]⟩, some ⟨3, [.d (WiWindow.d e2)]⟩]) tb R R R R R R R R R R R R (eN (sw_block (qG (r_fa tb R R R R R R R (r_ldD (y := .v (.int .i64 e2.day)) tb R R R R R R R R R ?_)))))))))
  obtain ⟨rv14, hrv14, h⟩ := bnd h
  refine r_callB (window_out_pc hrv14) (.of (by kernel_rfl)) R R R R ?_ ?_
  ·intro c18
   replace h := ifP c18 h
   refine r_movD R R R (r_skip R R R (r_skip R R R (r_skip R R R (r_pickT R R R R (r_movD R R R (r_skip R R R (r_skip R R R (r_skip R R R (r_skip R R R (r_skip R R R (r_skip R R R (r_pickT R R R R (r_asgD R R R (eN (sw_condT R (qG (r_movD R R R (r_asgD R R R (r_asgD R R R (r_asgD R R R (eN (sw_ret (block_ret (block_ret (then_ret (then_ret (block_ret (then_ret ?_))))))))))))))))))))))))))))
   obtain rfl := sI h
   exact fin_0 (t := .d (.tup [.v (.int .i64 3), .v (.int .i64 x2), .v (.int .i64 7)])) R R R (.cons (.tmp 2) (.cons (.tmp 3) (.cons (.tmp 4) .nil)))
  intro c18
  replace h := ifF c18 h
  refine r_movD R R R (r_fa tb R R R R R R R (r_ldD (y := .v (.int .i64 e2.until_)) tb R R R R R R R R R ?_))
  obtain ⟨rv15, hrv15, h⟩ := bnd h
  refine r_callB (window_out_pc hrv15) (.of (by kernel_rfl)) R R R R ?_ ?_
  ·intro c19
   replace h := ifP c19 h
   refine r_pickF R R R R (r_movD R R R (r_skip R R R (r_skip R R R (r_skip R R R (r_skip R R R (r_skip R R R (r_skip R R R (r_pickT R R R R (r_asgD R R R (eN (sw_condT R (qG (r_movD R R R (r_asgD R R R (r_asgD R R R (r_asgD R R R (eN (sw_ret (block_ret (block_ret (then_ret (then_ret (block_ret (then_ret ?_))))))))))))))))))))))))
   obtain rfl := sI h
   exact fin_0 (t := .d (.tup [.v (.int .i64 3), .v (.int .i64 x2), .v (.int .i64 7)])) R R R (.cons (.tmp 2) (.cons (.tmp 3) (.cons (.tmp 4) .nil)))
  intro c19
  replace h := ifF c19 h
  refine r_pickF R R R R (r_movD R R R (r_fa tb R R R R R R R (r_ldD (y := .v (.int .i64 e2.from_)) tb R R R R R R R R R (r_fa tb R R R R R R R (r_ldD (y := .v (.int .i64 e2.until_)) tb R R R R R R R R R (r_sub R R R R ?_))))))
  obtain ⟨rv16, hrv16, h⟩ := bnd h
  refine r_callB (window_out_pc hrv16) (.of (by kernel_rfl)) R R R R ?_ ?_
  ·intro c20
   replace h := ifP c20 h
   refine r_pickF R R R R (r_asgD R R R (eN (sw_condT R (qG (r_movD R R R (r_asgD R R R (r_asgD R R R (r_asgD R R R (eN (sw_ret (block_ret (block_ret (then_ret (then_ret (block_ret (then_ret ?_))))))))))))))))
   obtain rfl := sI h
   exact fin_0 (t := .d (.tup [.v (.int .i64 3), .v (.int .i64 x2), .v (.int .i64 7)])) R R R (.cons (.tmp 2) (.cons (.tmp 3) (.cons (.tmp 4) .nil)))
  intro c20
  replace h := ifF c20 h
  refine r_pickF R R R R (r_asgD R R R (eN (sw_condF R (sw_seq (sw_dr (by kernel_rfl) (r_movD R R R ?_))))))
  refine r_gtr R R R R ?_ ?_
  ·intro c21
   replace h := ifP c21 h
   refine r_movD R R R (r_fa tb R R R R R R R (r_ldD (y := .v (.int .i64 e2.day)) tb R R R R R R R R R (r_fa tb R R R R R R R (r_ldD (y := .arr 3 ((t.windows).map WiWindow.d)) tb R R R R R R R R R (r_movD R R R (r_sub R R R R ?_))))))
   obtain ⟨e3, ie3, h⟩ := bnd h
   refine r_ixE tb R R R R R R (ix0 ie3) (ix1m ie3) R R (r_faE tb R R R R R R R (r_ldE (y := .v (.int .i64 e3.day)) tb R R (ix2 (g := WiWindow.d) ie3) R R R R ?_))
   obtain ⟨rv17, hrv17, h⟩ := bnd h
   refine r_call (cmp_Compare_int_pc hrv17) (.of (by kernel_rfl)) R R R R (r_bslice tb R R R R R R R R R R R R R ?_)
   obtain ⟨rv18, hrv18, h⟩ := bnd h
   refine r_callL (cmp_Or_int_pc hrv18) R (.of (by kernel_rfl)) R R ((.cons (.row R R) .nil)) R R ?_
   refine r_lss R R R R ?_ ?_
   ·intro c22
    replace h := ifP c22 h
    refine r_pickT R R R R (r_movD R R R (r_skip R R R (r_skip R R R (r_skip R R R (r_skip R R R (r_skip R R R (r_skip R R R (r_skip R R R (r_skip R R R (r_skip R R R (r_skip R R R (r_skip R R R (r_skip R R R (r_skip R R R (r_skip R R R (r_skip R R R (r_skip R R R (r_skip R R R (r_skip R R R (r_skip R R R (r_skip R R R (r_skip R R R (r_skip R R R (r_skip R R R (r_skip R R R (r_skip R R R ?_))))))))))))))))))))))))))
    refine r_skip R R R (r_pickT R R R R (r_asgD R R R (ev_endD (by kernel_rfl) (then_norm (sw_condT R (qG (r_movD R R R (r_asgD R R R (r_asgD R R R (r_asgD R R R (eN (sw_ret (block_ret (block_ret (then_ret (then_ret (block_ret (then_ret ?_))))))))))))))))))
    obtain rfl := sI h
    exact fin_0 (t := .d (.tup [.v (.int .i64 3), .v (.int .i64 x2), .v (.int .i64 2)])) R R R (.cons (.tmp 2) (.cons (.tmp 3) (.cons (.tmp 4) .nil)))
   intro c22
   replace h := ifN (Int.not_lt.2 c22) h
   refine r_pickT R R R R (r_movD R R R (r_movD R R R ?_))
   refine r_gtr R R R R ?_ ?_
   ·intro c23
    replace h := ifP c23 h
    refine r_movD R R R (r_fa tb R R R R R R R (r_ldD (y := .v (.int .i64 e2.day)) tb R R R R R R R R R (r_fa tb R R R R R R R (r_ldD (y := .arr 3 ((t.windows).map WiWindow.d)) tb R R R R R R R R R (r_movD R R R (r_sub R R R R (r_ixE tb R R R R R R (ix0 ie3) (ix1m ie3) R R (r_faE tb R R R R R R R (r_ldE (y := .v (.int .i64 e3.day)) tb R R (ix2 (g := WiWindow.d) ie3) R R R R ?_)))))))))
    refine r_eql R R R R ?_ ?_
    ·intro c24
     replace h := ifP c24 h
     refine r_pickT R R R R (r_movD R R R (r_fa tb R R R R R R R (r_ldD (y := .v (.int .i64 e2.from_)) tb R R R R R R R R R (r_fa tb R R R R R R R (r_ldD (y := .arr 3 ((t.windows).map WiWindow.d)) tb R R R R R R R R R (r_movD R R R (r_sub R R R R (r_ixE tb R R R R R R (ix0 ie3) (ix1m ie3) R R (r_faE tb R R R R R R R (r_ldE (y := .v (.int .i64 e3.until_)) tb R R (ix2 (g := WiWindow.d) ie3) R R R R ?_))))))))))
     refine r_lss R R R R ?_ ?_
     ·intro c25
      replace h := ifP c25 h
      refine r_pickT R R R R (r_pickF R R R R (r_asgD R R R (ev_endD (by kernel_rfl) (then_norm (sw_condT R (qG (r_movD R R R (r_asgD R R R (r_asgD R R R (r_asgD R R R (eN (sw_ret (block_ret (block_ret (then_ret (then_ret (block_ret (then_ret ?_))))))))))))))))))
      obtain rfl := sI h
      exact fin_0 (t := .d (.tup [.v (.int .i64 3), .v (.int .i64 x2), .v (.int .i64 2)])) R R R (.cons (.tmp 2) (.cons (.tmp 3) (.cons (.tmp 4) .nil)))
     intro c25
     replace h := ifN (Int.not_lt.2 c25) h
     refine r_pickT R R R R (r_pickF R R R R (r_asgD R R R (ev_endD (by kernel_rfl) (then_norm (sw_condF R (sw_skip (block_norm (block_norm (then_norm (sw_rg (r_add R R R R (r_movD R R R (eN ?_)))))))))))))
     exact ⟨m4, ⟨[(1, .ref 0 4 0 0), (2, .d (.v (.int .i64 0))), (3, .d (.v (.int .i64 0))), (4, .d (.v (.int .i64 0))), (101, .d (.arr 3 ((t.windows).map WiWindow.d))), (102, .d (.v (.int .i64 (t.windows.length : Int)))), (103, .d (.v (.int .i64 (W (x2 + 1)))))], [some ⟨4, [.d (WiPlan.d t)]⟩]⟩, [0], Nat.lt_succ_self _, (vwK R R (.cons R R .nil) (.cons R R (.cons R R (.cons R R (.cons R R (.cons R R (.cons R R (.cons R R .nil)))))))), (W (x2 + 1)), h, R⟩
    intro c24
    replace h := ifN c24 h
    refine r_pickT R R R R (r_movD R R R (r_skip R R R (r_skip R R R (r_skip R R R (r_skip R R R (r_skip R R R (r_skip R R R (r_skip R R R (r_skip R R R (r_skip R R R (r_skip R R R (r_pickF R R R R (r_pickF R R R R (r_asgD R R R (ev_endD (by kernel_rfl) (then_norm (sw_condF R (sw_skip (block_norm (block_norm (then_norm (sw_rg (r_add R R R R (r_movD R R R (eN ?_)))))))))))))))))))))))))
    exact ⟨m4, ⟨[(1, .ref 0 4 0 0), (2, .d (.v (.int .i64 0))), (3, .d (.v (.int .i64 0))), (4, .d (.v (.int .i64 0))), (101, .d (.arr 3 ((t.windows).map WiWindow.d))), (102, .d (.v (.int .i64 (t.windows.length : Int)))), (103, .d (.v (.int .i64 (W (x2 + 1)))))], [some ⟨4, [.d (WiPlan.d t)]⟩]⟩, [0], Nat.lt_succ_self _, (vwK R R (.cons R R .nil) (.cons R R (.cons R R (.cons R R (.cons R R (.cons R R (.cons R R (.cons R R .nil)))))))), (W (x2 + 1)), h, R⟩
   intro c23
   replace h := ifN (Int.not_lt.2 c23) h
   refine r_movD R R R (r_skip R R R (r_skip R R R (r_skip R R R (r_skip R R R (r_skip R R R (r_skip R R R (r_skip R R R (r_skip R R R (r_skip R R R (r_skip R R R (r_pickF R R R R (r_movD R R R (r_skip R R R (r_skip R R R (r_skip R R R (r_skip R R R (r_skip R R R (r_skip R R R (r_skip R R R (r_skip R R R (r_skip R R R (r_skip R R R (r_pickF R R R R (r_pickF R R R R (r_asgD R R R ?_)))))))))))))))))))))))))
   refine ev_endD (by kernel_rfl) (then_norm (sw_condF R (sw_skip (block_norm (block_norm (then_norm (sw_rg (r_add R R R R (r_movD R R R (eN ?_))))))))))
   exact ⟨m4, ⟨[(1, .ref 0 4 0 0), (2, .d (.v (.int .i64 0))), (3, .d (.v (.int .i64 0))), (4, .d (.v (.int .i64 0))), (101, .d (.arr 3 ((t.windows).map WiWindow.d))), (102, .d (.v (.int .i64 (t.windows.length : Int)))), (103, .d (.v (.int .i64 (W (x2 + 1)))))], [some ⟨4, [.d (WiPlan.d t)]⟩]⟩, [0], Nat.lt_succ_self _, (vwK R R (.cons R R .nil) (.cons R R (.cons R R (.cons R R (.cons R R (.cons R R (.cons R R (.cons R R .nil)))))))), (W (x2 + 1)), h, R⟩
  intro c21
  replace h := ifN (Int.not_lt.2 c21) h
  refine r_movD R R R (r_skip R R R (r_skip R R R (r_skip R R R (r_skip R R R (r_skip R R R (r_skip R R R (r_skip R R R (r_skip R R R (r_skip R R R (r_skip R R R (r_skip R R R (r_skip R R R (r_skip R R R (r_pickF R R R R (r_movD R R R (r_movD R R R ?_))))))))))))))))
  refine r_gtr R R R R ?_ ?_
  ·intro c26
   replace h := ifP c26 h
   refine r_movD R R R (r_fa tb R R R R R R R (r_ldD (y := .v (.int .i64 e2.day)) tb R R R R R R R R R (r_fa tb R R R R R R R (r_ldD (y := .arr 3 ((t.windows).map WiWindow.d)) tb R R R R R R R R R (r_movD R R R (r_sub R R R R ?_))))))
   obtain ⟨e4, ie4, h⟩ := bnd h
   refine r_ixE tb R R R R R R (ix0 ie4) (ix1m ie4) R R (r_faE tb R R R R R R R (r_ldE (y := .v (.int .i64 e4.day)) tb R R (ix2 (g := WiWindow.d) ie4) R R R R ?_))
   refine r_eql R R R R ?_ ?_
   ·intro c27
    replace h := ifP c27 h
    refine r_pickT R R R R (r_movD R R R (r_fa tb R R R R R R R (r_ldD (y := .v (.int .i64 e2.from_)) tb R R R R R R R R R (r_fa tb R R R R R R R (r_ldD (y := .arr 3 ((t.windows).map WiWindow.d)) tb R R R R R R R R R (r_movD R R R (r_sub R R R R (r_ixE tb R R R R R R (ix0 ie4) (ix1m ie4) R R (r_faE tb R R R R R R R (r_ldE (y := .v (.int .i64 e4.until_)) tb R R (ix2 (g := WiWindow.d) ie4) R R R R ?_))))))))))
    refine r_lss R R R R ?_ ?_
    ·intro c28
     replace h := ifP c28 h
     refine r_pickT R R R R (r_pickF R R R R (r_asgD R R R (ev_endD (by kernel_rfl) (then_norm (sw_condT R (qG (r_movD R R R (r_asgD R R R (r_asgD R R R (r_asgD R R R (eN (sw_ret (block_ret (block_ret (then_ret (then_ret (block_ret (then_ret ?_))))))))))))))))))
     obtain rfl := sI h
     exact fin_0 (t := .d (.tup [.v (.int .i64 3), .v (.int .i64 x2), .v (.int .i64 2)])) R R R (.cons (.tmp 2) (.cons (.tmp 3) (.cons (.tmp 4) .nil)))
    intro c28
    replace h := ifN (Int.not_lt.2 c28) h
    refine r_pickT R R R R (r_pickF R R R R (r_asgD R R R (ev_endD (by kernel_rfl) (then_norm (sw_condF R (sw_skip (block_norm (block_norm (then_norm (sw_rg (r_add R R R R (r_movD R R R (eN ?_)))))))))))))
    exact ⟨m4, ⟨[(1, .ref 0 4 0 0), (2, .d (.v (.int .i64 0))), (3, .d (.v (.int .i64 0))), (4, .d (.v (.int .i64 0))), (101, .d (.arr 3 ((t.windows).map WiWindow.d))), (102, .d (.v (.int .i64 (t.windows.length : Int)))), (103, .d (.v (.int .i64 (W (x2 + 1)))))], [some ⟨4, [.d (WiPlan.d t)]⟩]⟩, [0], Nat.lt_succ_self _, (vwK R R (.cons R R .nil) (.cons R R (.cons R R (.cons R R (.cons R R (.cons R R (.cons R R (.cons R R .nil)))))))), (W (x2 + 1)), h, R⟩
   intro c27
   replace h := ifN c27 h
   refine r_pickT R R R R (r_movD R R R (r_skip R R R (r_skip R R R (r_skip R R R (r_skip R R R (r_skip R R R (r_skip R R R (r_skip R R R (r_skip R R R (r_skip R R R (r_skip R R R (r_pickF R R R R (r_pickF R R R R (r_asgD R R R (ev_endD (by kernel_rfl) (then_norm (sw_condF R (sw_skip (block_norm (block_norm (then_norm (sw_rg (r_add R R R R (r_movD R R R (eN ?_)))))))))))))))))))))))))
   exact ⟨m4, ⟨[(1, .ref 0 4 0 0), (2, .d (.v (.int .i64 0))), (3, .d (.v (.int .i64 0))), (4, .d (.v (.int .i64 0))), (101, .d (.arr 3 ((t.windows).map WiWindow.d))), (102, .d (.v (.int .i64 (t.windows.length : Int)))), (103, .d (.v (.int .i64 (W (x2 + 1)))))], [some ⟨4, [.d (WiPlan.d t)]⟩]⟩, [0], Nat.lt_succ_self _, (vwK R R (.cons R R .nil) (.cons R R (.cons R R (.cons R R (.cons R R (.cons R R (.cons R R (.cons R R .nil)))))))), (W (x2 + 1)), h, R⟩
  intro c26
  replace h := ifN (Int.not_lt.2 c26) h
  refine r_movD R R R (r_skip R R R (r_skip R R R (r_skip R R R (r_skip R R R (r_skip R R R (r_skip R R R (r_skip R R R (r_skip R R R (r_skip R R R (r_skip R R R (r_pickF R R R R (r_movD R R R (r_skip R R R (r_skip R R R (r_skip R R R (r_skip R R R (r_skip R R R (r_skip R R R (r_skip R R R (r_skip R R R (r_skip R R R (r_skip R R R (r_pickF R R R R (r_pickF R R R R (r_asgD R R R ?_)))))))))))))))))))))))))
  refine ev_endD (by kernel_rfl) (then_norm (sw_condF R (sw_skip (block_norm (block_norm (then_norm (sw_rg (r_add R R R R (r_movD R R R (eN ?_))))))))))
  exact ⟨m4, ⟨[(1, .ref 0 4 0 0), (2, .d (.v (.int .i64 0))), (3, .d (.v (.int .i64 0))), (4, .d (.v (.int .i64 0))), (101, .d (.arr 3 ((t.windows).map WiWindow.d))), (102, .d (.v (.int .i64 (t.windows.length : Int)))), (103, .d (.v (.int .i64 (W (x2 + 1)))))], [some ⟨4, [.d (WiPlan.d t)]⟩]⟩, [0], Nat.lt_succ_self _, (vwK R R (.cons R R .nil) (.cons R R (.cons R R (.cons R R (.cons R R (.cons R R (.cons R R (.cons R R .nil)))))))), (W (x2 + 1)), h, R⟩
 intro c17
 replace h := ifN (Int.not_lt.2 c17) h
 refine eN (sw_seq (sw_condF R (sw_exit (then_exit (then_exit ?_)))))
 subst hK4
 refine block_exit (then_norm (qG (r_asgD R R R (r_asgD R R R (r_asgD R R R (eN (sw_ret ?_)))))))
 obtain rfl := sI h
 exact fin_0 (t := .d (.tup [.v (.int .i64 0), .v (.int .i64 0), .v (.int .i64 0)])) R R R (.cons (.tmp 2) (.cons (.tmp 3) (.cons (.tmp 4) .nil)))
def window_CheckState_L1 (F : Nat) (t : WiPlan) (o : WiState) (K : Int → Option Int) : Nat → Int → Option Int
 | 0, _ => none
 | n + 1, x => if x < (t.teams.length : Int) then (Option.bind (ixO o.used x) fun e => Option.bind (window_out F e 0 100) fun rv3 => if rv3 = true then (some 7) else (Option.bind (ixO o.credit x) fun e2 => Option.bind (window_out F e2 (-100000) 200000) fun rv4 => if rv4 = true then (some 7) else (Option.bind (ixO o.last x) fun e3 => Option.bind (window_out F e3 (-1) 3650) fun rv5 => if rv5 = true then (some 7) else (window_CheckState_L1 F t o K n (W (x + 1)))))) else (K x)
def window_CheckState (F : Nat) (t : WiPlan) (o : WiState) : Option Int := Option.bind (window_Check F t) fun rv => if rv.2.2 = 0 then (if (o.used.length : Int) = (t.teams.length : Int) then (if (o.credit.length : Int) = (t.teams.length : Int) then (if (o.last.length : Int) = (t.teams.length : Int) then (Option.bind (window_out F o.next 0 (t.windows.length : Int)) fun rv2 => if rv2 = true then (some 7) else (window_CheckState_L1 F t o (fun (x : Int) => some 0) F 0)) else (some 2)) else (some 2)) else (some 2)) else (some rv.2.2)
theorem window_CheckState_pc {F : Nat} {t : WiPlan} {o : WiState} {r : Int} (h : window_CheckState F t o = some r) : PC Try.prog 21 [WiPlan.d t, WiState.d o] (.v (.int .i64 r)) := by
 rw [window_CheckState] at h
 refine SC.of_sw Try.func21 R R R ?_
 dsimp only [argS, List.map]
 refine qG (r_box R R R R R R R (r_box R R R R R R R (r_asgD R R R (eN (qG (r_ldD (y := WiPlan.d t) tb R R R R R R R R R ?_))))))
 obtain ⟨rv, hrv, h⟩ := bnd h
 refine r_call (window_Check_pc hrv) (.of (by kernel_rfl)) R R R R (r_movD R R R (r_extD (t := .v (.int .i64 rv.1)) R R R R (r_extD (t := .v (.int .i64 rv.2.1)) R R R R (r_extD (t := .v (.int .i64 rv.2.2)) R R R R (r_asgD R R R (r_asgD R R R (r_asgD R R R (eN (qG (r_fa tb R R R R R R R (r_ldD (y := .arr 9 ((t.teams).map WiTeam.d)) tb R R R R R R R R R (r_lenM tb R R R R R (r_asgD R R R (eN (sw_seq (sw_block (qG (r_movD R R R ?_))))))))))))))))))
 refine r_neq R R R R ?_ ?_
 ·intro c
  replace h := ifN c h
  refine r_asgD R R R (eN (sw_condT R (qG (r_movD R R R (r_asgD R R R (eN (sw_ret (block_ret (then_ret ?_)))))))))
  obtain rfl := sI h
  exact fin_0 (t := .d (.v (.int .i64 rv.2.2))) R R R (.cons (.tmp 4) .nil)
 intro c
 replace h := ifP c h
 refine r_asgD R R R (eN (sw_condF R (qG (r_fa tb R R R R R R R (r_ldD (y := .arr 1 ((o.used).map vI)) tb R R R R R R R R R (r_lenM tb R R R R R (r_movD R R R ?_)))))))
 refine r_neq R R R R ?_ ?_
 ·intro c2
  replace h := ifN c2 h
  refine r_movD R R R (r_skip R R R (r_skip R R R (r_skip R R R (r_skip R R R (r_skip R R R (r_pickT R R R R (r_movD R R R (r_skip R R R (r_skip R R R (r_skip R R R (r_skip R R R (r_skip R R R (r_pickT R R R R (r_asgD R R R (eN (sw_condT R (qG (r_asgD R R R (eN (sw_ret (block_ret (then_ret ?_))))))))))))))))))))))
  obtain rfl := sI h
  exact fin_0 (t := .d (.v (.int .i64 2))) R R R (.cons (.tmp 4) .nil)
 intro c2
 replace h := ifP c2 h
 refine r_movD R R R (r_fa tb R R R R R R R (r_ldD (y := .arr 1 ((o.credit).map vI)) tb R R R R R R R R R (r_lenM tb R R R R R (r_movD R R R ?_))))
 refine r_neq R R R R ?_ ?_
 ·intro c3
  replace h := ifN c3 h
  refine r_pickF R R R R (r_movD R R R (r_skip R R R (r_skip R R R (r_skip R R R (r_skip R R R (r_skip R R R (r_pickT R R R R (r_asgD R R R (eN (sw_condT R (qG (r_asgD R R R (eN (sw_ret (block_ret (then_ret ?_))))))))))))))))
  obtain rfl := sI h
  exact fin_0 (t := .d (.v (.int .i64 2))) R R R (.cons (.tmp 4) .nil)
 intro c3
 replace h := ifP c3 h
 refine r_pickF R R R R (r_movD R R R (r_fa tb R R R R R R R (r_ldD (y := .arr 1 ((o.last).map vI)) tb R R R R R R R R R (r_lenM tb R R R R R (r_movD R R R ?_)))))
 refine r_neq R R R R ?_ ?_
 ·intro c4
  replace h := ifN c4 h
  refine r_pickF R R R R (r_asgD R R R (eN (sw_condT R (qG (r_asgD R R R (eN (sw_ret (block_ret (then_ret ?_)))))))))
  obtain rfl := sI h
  exact fin_0 (t := .d (.v (.int .i64 2))) R R R (.cons (.tmp 4) .nil)
 intro c4
 replace h := ifP c4 h
 refine r_pickF R R R R (r_asgD R R R (eN (sw_condF R (qG (r_fa tb R R R R R R R (r_ldD (y := .v (.int .i64 o.next)) tb R R R R R R R R R (r_fa tb R R R R R R R (r_ldD (y := .arr 3 ((t.windows).map WiWindow.d)) tb R R R R R R R R R (r_lenM tb R R R R R ?_)))))))))
 obtain ⟨rv2, hrv2, h⟩ := bnd h
 refine r_callB (window_out_pc hrv2) (.of (by kernel_rfl)) R R R R ?_ ?_
 ·intro c5
  replace h := ifP c5 h
  refine r_asgD R R R (eN (sw_condT R (qG (r_asgD R R R (eN (sw_ret (block_ret (then_ret ?_))))))))
  obtain rfl := sI h
  exact fin_0 (t := .d (.v (.int .i64 7))) R R R (.cons (.tmp 4) .nil)
 intro c5
 replace h := ifF c5 h
 refine r_asgD R R R (eN (sw_condF R (sw_skip (block_norm (then_norm (sw_seq (qG (r_movD R R R (r_movD R R R (eN (sw_block ?_)))))))))))
 obtain ⟨K2, hK2, h⟩ : ∃ K, K = _ ∧ window_CheckState_L1 F t o K F 0 = some r := ⟨_, rfl, h⟩
 refine sw_loop (st0 := ⟨[(3, .ref 0 4 0 0), (4, .d (.v (.int .i64 0))), (50, .d (.v (.int .i64 (t.teams.length : Int)))), (51, .d (.v (.int .i64 0)))], [some ⟨4, [.d (WiState.d o)]⟩]⟩) (κ := [1]) (fun m st => ∃ (x : Int), window_CheckState_L1 F t o K2 m x = some r ∧ st = ⟨[(3, .ref 0 4 0 0), (4, .d (.v (.int .i64 0))), (50, .d (.v (.int .i64 (t.teams.length : Int)))), (51, .d (.v (.int .i64 x)))], [some ⟨4, [.d (WiState.d o)]⟩]⟩) (vwK R R (.cons R R .nil) (.cons R R (.cons R R (.cons R R (.cons R R .nil))))) ⟨0, h, R⟩ ?_
 clear h
 rintro m2 st ⟨x, h, rfl⟩
 cases m2 with
 | zero => cases (show (none : Option Int) = some r from h)
 | succ m2 =>
 rw [window_CheckState_L1] at h
 refine qG ?_
 refine r_lss R R R R ?_ ?_
 ·intro c6
  replace h := ifP c6 h
  refine eN (sw_seq (sw_condT R (sw_skip (then_norm (sw_seq (sw_block (qG (r_movD R R R (r_asgD R R R (eN (qG (r_fa tb R R R R R R R (r_ldD (y := .arr 1 ((o.used).map vI)) tb R R R R R R R R R (r_movD R R R ?_))))))))))))))
  obtain ⟨e, ie, h⟩ := bnd h
  refine r_ixE tb R R R R R R (ix0 ie) (ix1m ie) R R (r_ldE (y := .v (.int .i64 e)) tb R R (ix2 (g := vI) ie) R R R R ?_)
  obtain ⟨rv3, hrv3, h⟩ := bnd h
  refine r_callB (window_out_pc hrv3) (.of (by kernel_rfl)) R R R R ?_ ?_
  ·intro c7
   replace h := ifP c7 h
   refine r_movD R R R (r_skip R R R (r_skip R R R (r_skip R R R (r_skip R R R (r_skip R R R (r_skip R R R (r_pickT R R R R (r_movD R R R (r_skip R R R (r_skip R R R (r_skip R R R (r_skip R R R (r_skip R R R (r_skip R R R (r_pickT R R R R (eN (sw_condT R (qG (r_asgD R R R (eN (sw_ret (block_ret (then_ret (then_ret (block_ret (then_ret ?_))))))))))))))))))))))))))
   obtain rfl := sI h
   exact fin_0 (t := .d (.v (.int .i64 7))) R R R (.cons (.tmp 4) .nil)
  intro c7
  replace h := ifF c7 h
  refine r_movD R R R (r_fa tb R R R R R R R (r_ldD (y := .arr 1 ((o.credit).map vI)) tb R R R R R R R R R (r_movD R R R ?_)))
  obtain ⟨e2, ie2, h⟩ := bnd h
  refine r_ixE tb R R R R R R (ix0 ie2) (ix1m ie2) R R (r_ldE (y := .v (.int .i64 e2)) tb R R (ix2 (g := vI) ie2) R R R R ?_)
  obtain ⟨rv4, hrv4, h⟩ := bnd h
  refine r_callB (window_out_pc hrv4) (.of (by kernel_rfl)) R R R R ?_ ?_
  ·intro c8
   replace h := ifP c8 h
   refine r_pickF R R R R (r_movD R R R (r_skip R R R (r_skip R R R (r_skip R R R (r_skip R R R (r_skip R R R (r_skip R R R (r_pickT R R R R (eN (sw_condT R (qG (r_asgD R R R (eN (sw_ret (block_ret (then_ret (then_ret (block_ret (then_ret ?_)))))))))))))))))))
   obtain rfl := sI h
   exact fin_0 (t := .d (.v (.int .i64 7))) R R R (.cons (.tmp 4) .nil)
  intro c8
  replace h := ifF c8 h
  refine r_pickF R R R R (r_movD R R R (r_fa tb R R R R R R R (r_ldD (y := .arr 1 ((o.last).map vI)) tb R R R R R R R R R (r_movD R R R ?_))))
  obtain ⟨e3, ie3, h⟩ := bnd h
  refine r_ixE tb R R R R R R (ix0 ie3) (ix1m ie3) R R (r_ldE (y := .v (.int .i64 e3)) tb R R (ix2 (g := vI) ie3) R R R R ?_)
  obtain ⟨rv5, hrv5, h⟩ := bnd h
  refine r_callB (window_out_pc hrv5) (.of (by kernel_rfl)) R R R R ?_ ?_
  ·intro c9
   replace h := ifP c9 h
   refine r_pickF R R R R (eN (sw_condT R (qG (r_asgD R R R (eN (sw_ret (block_ret (then_ret (then_ret (block_ret (then_ret ?_)))))))))))
   obtain rfl := sI h
   exact fin_0 (t := .d (.v (.int .i64 7))) R R R (.cons (.tmp 4) .nil)
  intro c9
  replace h := ifF c9 h
  refine r_pickF R R R R (eN (sw_condF R (sw_skip (block_norm (then_norm (sw_rg (r_add R R R R (r_movD R R R (eN ?_)))))))))
  exact ⟨m2, ⟨[(3, .ref 0 4 0 0), (4, .d (.v (.int .i64 0))), (50, .d (.v (.int .i64 (t.teams.length : Int)))), (51, .d (.v (.int .i64 (W (x + 1)))))], [some ⟨4, [.d (WiState.d o)]⟩]⟩, [0], Nat.lt_succ_self _, (vwK R R (.cons R R .nil) (.cons R R (.cons R R (.cons R R (.cons R R .nil))))), (W (x + 1)), h, R⟩
 intro c6
 replace h := ifN (Int.not_lt.2 c6) h
 refine eN (sw_seq (sw_condF R (sw_exit (then_exit (then_exit ?_)))))
 subst hK2
 refine block_exit (then_norm (qG (r_asgD R R R (eN (sw_ret ?_)))))
 obtain rfl := sI h
 exact fin_0 (t := .d (.v (.int .i64 0))) R R R (.cons (.tmp 4) .nil)
def window_Start_L1 (F : Nat) (p : WiPlan) (K : (List Int) → (List Int) → (List Int) → Int → Option (WiState × Int)) : Nat → (List Int) → (List Int) → (List Int) → Int → Option (WiState × Int)
 | 0, _, _, _, _ => none
 | n + 1, s, s2, s3, x => if x < (p.teams.length : Int) then (Option.bind (ixO p.teams x) fun e => Option.bind (appO s [0]) fun q => Option.bind (appO s2 [e.credit]) fun q2 => Option.bind (appO s3 [(-1)]) fun q3 => window_Start_L1 F p K n q q2 q3 (W (x + 1))) else (K s s2 s3 x)
def window_Start (F : Nat) (p : WiPlan) : Option (WiState × Int) := Option.bind (window_Check F p) fun rv => if rv.2.2 = 0 then (window_Start_L1 F p (fun (s : (List Int)) (s2 : (List Int)) (s3 : (List Int)) (x : Int) => some ((WiState.mk s s2 s3 0), 0)) F ([] : List Int) ([] : List Int) ([] : List Int) 0) else (some ((WiState.mk ([] : List Int) ([] : List Int) ([] : List Int) 0), rv.2.2))
theorem window_Start_scr {F : Nat} {p : WiPlan} {r : (WiState × Int)} (h : window_Start F p = some r) : SCR Try.prog 18 (List.map T.d [WiPlan.d p]) [] (.tup [WiState_T1 r.1 0 1 2, .d (.v (.int .i64 r.2))]) (List.map some [(lvI r.1.used), (lvI r.1.credit), (lvI r.1.last)]) := by
 rw [window_Start] at h
 refine SC.of_sw Try.func18 R R R ?_
 dsimp only [argS, List.map]
 refine qG (r_box R R R R R R R (r_alloc tb R R R R R (r_asgD R R R (eN (sw_seq (qG (r_ldD (y := WiPlan.d p) tb R R R R R R R R R ?_)))))))
 obtain ⟨rv, hrv, h⟩ := bnd h
 refine r_call (window_Check_pc hrv) (.of (by kernel_rfl)) R R R R (r_movD R R R (r_extD (t := .v (.int .i64 rv.1)) R R R R (r_extD (t := .v (.int .i64 rv.2.1)) R R R R (r_extD (t := .v (.int .i64 rv.2.2)) R R R R (r_asgD R R R (eN (qG (r_movD R R R ?_))))))))
 refine r_neq R R R R ?_ ?_
 ·intro c
  replace h := ifN c h
  refine eN (sw_condT R (qG (r_build (v := .d (.agg [.v (.slice none 0 0), .v (.slice none 0 0), .v (.slice none 0 0), .v (.int .i64 0)])) tb R R (List.cons_ne_nil _ _) R R R R R R (r_movD R R R (r_stE _ ([some ⟨4, [.d (WiPlan.d p)]⟩, some ⟨4, [.d (.agg [.v (.slice none 0 0), .v (.slice none 0 0), .v (.slice none 0 0), .v (.int .i64 0)])]⟩]) tb R R R R R R R R R R R R (r_asgD R R R (eN ?_)))))))
  refine SW.own (ts' := [(2, .ref 1 4 0 0), (3, .d (.v (.int .i64 rv.2.2)))]) (L' := [some ⟨4, [.d (WiPlan.d p)]⟩, some ⟨4, [.agg [.row 2 1 0 (([] : List Int)).length, .d (.v (.slice none 0 0)), .d (.v (.slice none 0 0)), .d (.v (.int .i64 0))]]⟩]) 1 R R (.cons (.same _) (.cons (.same _) .nil)) (.same (.cons R (.cons (.aggDL (.cons .nil (.cons (.same _) (.cons (.same _) (.cons (.same _) .nil))))) .nil) .nil)) ?_
  simp only [List.cons_append, List.nil_append]
  refine SW.own (ts' := [(2, .ref 1 4 0 0), (3, .d (.v (.int .i64 rv.2.2)))]) (L' := [some ⟨4, [.d (WiPlan.d p)]⟩, some ⟨4, [.agg [.row 2 1 0 (([] : List Int)).length, .row 3 1 0 (([] : List Int)).length, .d (.v (.slice none 0 0)), .d (.v (.int .i64 0))]]⟩, some (lvI ([] : List Int))]) 1 R R (.cons (.same _) (.cons (.same _) .nil)) (.same (.cons R (.cons (.aggL (.cons (.same _) (.cons .nil (.cons (.same _) (.cons (.same _) .nil))))) .nil) (.same .nil))) ?_
  simp only [List.cons_append, List.nil_append]
  refine SW.own (ts' := [(2, .ref 1 4 0 0), (3, .d (.v (.int .i64 rv.2.2)))]) (L' := [some ⟨4, [.d (WiPlan.d p)]⟩, some ⟨4, [WiState_T1 (WiState.mk ([] : List Int) ([] : List Int) ([] : List Int) 0) 2 3 4]⟩, some (lvI ([] : List Int)), some (lvI ([] : List Int))]) 1 R R (.cons (.same _) (.cons (.same _) .nil)) (.same (.cons R (.cons (.aggL (.cons (.same _) (.cons (.same _) (.cons .nil (.cons (.same _) .nil))))) .nil) (.same (.same .nil)))) ?_
  simp only [List.cons_append, List.nil_append]
  refine sw_ret (then_ret ?_)
  obtain rfl := sI h
  exact (fin_S (t := .tup [WiState_T1 (WiState.mk ([] : List Int) ([] : List Int) ([] : List Int) 0) 0 1 2, .d (.v (.int .i64 rv.2.2))]) (L := [some (lvI ([] : List Int)), some (lvI ([] : List Int)), some (lvI ([] : List Int))]) (κ := [2, 3, 4]) R (.cons (rcell tb (u := WiState_T1 (WiState.mk ([] : List Int) ([] : List Int) ([] : List Int) 0) 2 3 4) R R R R R R R) (.cons (.tmp 3) .nil)) (vwK R R (.row R (.row R (.row R .nil))) (.cons R R .nil)) ⟨R, R⟩)
 intro c
 replace h := ifP c h
 refine eN (sw_condF R (sw_skip (then_norm (sw_seq (qG (r_fa tb R R R R R R R (r_ldD (y := .arr 9 ((p.teams).map WiTeam.d)) tb R R R R R R R R R (r_lenM tb R R R R R (r_movD R R R (eN (sw_block ?_)))))))))))
 refine SW.own (ts' := [(2, .ref 1 4 0 0), (3, .d (.v (.int .i64 rv.2.2))), (17, .d (.arr 9 ((p.teams).map WiTeam.d))), (18, .d (.v (.int .i64 (p.teams.length : Int)))), (19, .d (.v (.int .i64 0)))]) (L' := [some ⟨4, [.d (WiPlan.d p)]⟩, some ⟨4, [.agg [.row 2 1 0 (([] : List Int)).length, .d (.v (.slice none 0 0)), .d (.v (.slice none 0 0)), .d (.v (.int .i64 0))]]⟩]) 1 R R (.cons (.same _) (.cons (.same _) (.cons (.same _) (.cons (.same _) (.cons (.same _) .nil))))) (.same (.cons R (.cons (.aggDL (.cons .nil (.cons (.same _) (.cons (.same _) (.cons (.same _) .nil))))) .nil) .nil)) ?_
 simp only [List.cons_append, List.nil_append]
 refine SW.own (ts' := [(2, .ref 1 4 0 0), (3, .d (.v (.int .i64 rv.2.2))), (17, .d (.arr 9 ((p.teams).map WiTeam.d))), (18, .d (.v (.int .i64 (p.teams.length : Int)))), (19, .d (.v (.int .i64 0)))]) (L' := [some ⟨4, [.d (WiPlan.d p)]⟩, some ⟨4, [.agg [.row 2 1 0 (([] : List Int)).length, .row 3 1 0 (([] : List Int)).length, .d (.v (.slice none 0 0)), .d (.v (.int .i64 0))]]⟩, some (lvI ([] : List Int))]) 1 R R (.cons (.same _) (.cons (.same _) (.cons (.same _) (.cons (.same _) (.cons (.same _) .nil))))) (.same (.cons R (.cons (.aggL (.cons (.same _) (.cons .nil (.cons (.same _) (.cons (.same _) .nil))))) .nil) (.same .nil))) ?_
 simp only [List.cons_append, List.nil_append]
 refine SW.own (ts' := [(2, .ref 1 4 0 0), (3, .d (.v (.int .i64 rv.2.2))), (17, .d (.arr 9 ((p.teams).map WiTeam.d))), (18, .d (.v (.int .i64 (p.teams.length : Int)))), (19, .d (.v (.int .i64 0)))]) (L' := [some ⟨4, [.d (WiPlan.d p)]⟩, some ⟨4, [WiState_T1 (WiState.mk ([] : List Int) ([] : List Int) ([] : List Int) 0) 2 3 4]⟩, some (lvI ([] : List Int)), some (lvI ([] : List Int))]) 1 R R (.cons (.same _) (.cons (.same _) (.cons (.same _) (.cons (.same _) (.cons (.same _) .nil))))) (.same (.cons R (.cons (.aggL (.cons (.same _) (.cons (.same _) (.cons .nil (.cons (.same _) .nil))))) .nil) (.same (.same .nil)))) ?_
 simp only [List.cons_append, List.nil_append]
 obtain ⟨K1, hK1, h⟩ : ∃ K, K = _ ∧ window_Start_L1 F p K F ([] : List Int) ([] : List Int) ([] : List Int) 0 = some r := ⟨_, rfl, h⟩
 refine sw_loop (st0 := ⟨[(2, .ref 0 4 0 0), (3, .d (.v (.int .i64 rv.2.2))), (17, .d (.arr 9 ((p.teams).map WiTeam.d))), (18, .d (.v (.int .i64 (p.teams.length : Int)))), (19, .d (.v (.int .i64 0)))], [some ⟨4, [WiState_T1 (WiState.mk ([] : List Int) ([] : List Int) ([] : List Int) 0) 1 2 3]⟩, some (lvI ([] : List Int)), some (lvI ([] : List Int)), some (lvI ([] : List Int))]⟩) (κ := [1, 2, 3, 4]) (fun m st => ∃ (s : (List Int)) (s2 : (List Int)) (s3 : (List Int)) (x : Int), window_Start_L1 F p K1 m s s2 s3 x = some r ∧ st = ⟨[(2, .ref 0 4 0 0), (3, .d (.v (.int .i64 rv.2.2))), (17, .d (.arr 9 ((p.teams).map WiTeam.d))), (18, .d (.v (.int .i64 (p.teams.length : Int)))), (19, .d (.v (.int .i64 x)))], [some ⟨4, [WiState_T1 (WiState.mk s s2 s3 0) 1 2 3]⟩, some (lvI s), some (lvI s2), some (lvI s3)]⟩) (vwK R R (.cons R R (.row R (.row R (.row R .nil)))) (.cons R R (.cons R R (.cons R R (.cons R R (.cons R R .nil)))))) ⟨([] : List Int), ([] : List Int), ([] : List Int), 0, h, R⟩ ?_
 clear h
 rintro m1 st ⟨s, s2, s3, x, h, rfl⟩
 cases m1 with
 | zero => cases (show (none : Option (WiState × Int)) = some r from h)
 | succ m1 =>
 rw [window_Start_L1] at h
 refine qG ?_
 refine r_lss R R R R ?_ ?_
 ·intro c2
  replace h := ifP c2 h
  refine eN (sw_seq (sw_condT R (sw_skip (then_norm (sw_seq (sw_block (qG ?_)))))))
  obtain ⟨e, ie, h⟩ := bnd h
  refine r_ixE tb R R R R R R (ix0 ie) (ix1m ie) R R (r_ldE (y := WiTeam.d e) tb R R (ix2 (g := WiTeam.d) ie) R R R R (r_alloc tb R R R R R (r_stE _ ([some ⟨4, [WiState_T1 (WiState.mk s s2 s3 0) 1 2 3]⟩, some (lvI s), some (lvI s2), some (lvI s3), some ⟨9, [.d (WiTeam.d e)]⟩]) tb R R R R R R R R R R R R (eN (sw_dr (by kernel_rfl) (r_fa tb R R R R R R R (r_ldW tb R R R R R R R R R (r_bslice tb R R R R R R R R R R R R R ?_))))))))
  obtain ⟨q, iq, h⟩ := bnd h
  refine r_apM (g := vI) (w := s) (v := [0]) ([some ⟨4, [.agg [.row 1 1 0 (s).length, .row 2 1 0 (s2).length, .row 3 1 0 (s3).length, .d (.v (.int .i64 0))]]⟩, none, some (lvI s2), some (lvI s3), some ⟨9, [.d (WiTeam.d e)]⟩, some (lvI [0])]) tb R R R R R R R R R R R iq R R R R R (r_fa tb R R R R R R R (r_ldW tb R R R R R R R R R (r_fa tb R R R R R R R (r_ldD (y := .v (.int .i64 e.credit)) tb R R R R R R R R R (r_bslice tb R R R R R R R R R R R R R ?_)))))
  obtain ⟨q2, iq2, h⟩ := bnd h
  refine r_apM (g := vI) (w := s2) (v := [e.credit]) ([some ⟨4, [.agg [.row 1 1 0 (s).length, .row 2 1 0 (s2).length, .row 3 1 0 (s3).length, .d (.v (.int .i64 0))]]⟩, none, none, some (lvI s3), some ⟨9, [.d (WiTeam.d e)]⟩, some (lvI [0]), some (lvI q), some (lvI [e.credit])]) tb R R R R R R R R R R R iq2 R R R R R (r_fa tb R R R R R R R (r_ldW tb R R R R R R R R R (r_bslice tb R R R R R R R R R R R R R ?_)))
  obtain ⟨q3, iq3, h⟩ := bnd h
  refine r_apM (g := vI) (w := s3) (v := [(-1)]) ([some ⟨4, [.agg [.row 1 1 0 (s).length, .row 2 1 0 (s2).length, .row 3 1 0 (s3).length, .d (.v (.int .i64 0))]]⟩, none, none, none, some ⟨9, [.d (WiTeam.d e)]⟩, some (lvI [0]), some (lvI q), some (lvI [e.credit]), some (lvI q2), some (lvI [(-1)])]) tb R R R R R R R R R R R iq3 R R R R R (r_fa tb R R R R R R R ?_)
  refine r_stE _ ([some ⟨4, [.agg [.row 6 1 0 (q).length, .row 2 1 0 (s2).length, .row 3 1 0 (s3).length, .d (.v (.int .i64 0))]]⟩, none, none, none, some ⟨9, [.d (WiTeam.d e)]⟩, some (lvI [0]), some (lvI q), some (lvI [e.credit]), some (lvI q2), some (lvI [(-1)]), some (lvI q3)]) tb R R R R R R R R R R R R (r_fa tb R R R R R R R ?_)
  refine r_stE _ ([some ⟨4, [.agg [.row 6 1 0 (q).length, .row 8 1 0 (q2).length, .row 3 1 0 (s3).length, .d (.v (.int .i64 0))]]⟩, none, none, none, some ⟨9, [.d (WiTeam.d e)]⟩, some (lvI [0]), some (lvI q), some (lvI [e.credit]), some (lvI q2), some (lvI [(-1)]), some (lvI q3)]) tb R R R R R R R R R R R R (r_fa tb R R R R R R R ?_)
  refine r_stE _ ([some ⟨4, [WiState_T1 (WiState.mk q q2 q3 0) 6 8 10]⟩, none, none, none, some ⟨9, [.d (WiTeam.d e)]⟩, some (lvI [0]), some (lvI q), some (lvI [e.credit]), some (lvI q2), some (lvI [(-1)]), some (lvI q3)]) tb R R R R R R R R R R R R (ev_endD (by kernel_rfl) (block_norm (then_norm (sw_rg (r_add R R R R (r_movD R R R (eN ?_)))))))
  exact ⟨m1, ⟨[(2, .ref 0 4 0 0), (3, .d (.v (.int .i64 rv.2.2))), (17, .d (.arr 9 ((p.teams).map WiTeam.d))), (18, .d (.v (.int .i64 (p.teams.length : Int)))), (19, .d (.v (.int .i64 (W (x + 1)))))], [some ⟨4, [WiState_T1 (WiState.mk q q2 q3 0) 1 2 3]⟩, some (lvI q), some (lvI q2), some (lvI q3)]⟩, [0, 6, 8, 10], Nat.lt_succ_self _, (vwK R R (.cons R R (.row R (.row R (.row R .nil)))) (.cons R R (.cons R R (.cons R R (.cons R R (.cons R R .nil)))))), q, q2, q3, (W (x + 1)), h, R⟩
 intro c2
 replace h := ifN (Int.not_lt.2 c2) h
 refine eN (sw_seq (sw_condF R (sw_exit (then_exit (then_exit ?_)))))
 subst hK1
 refine block_exit (then_norm (qG (r_ldG tb R R R R R R R R R (r_stE _ ([some ⟨4, [WiState_T1 (WiState.mk s s2 s3 0) 1 2 3]⟩, some (lvI s), some (lvI s2), some (lvI s3)]) tb R R R R R R R R R R R R (r_asgD R R R (eN (sw_ret ?_)))))))
 obtain rfl := sI h
 exact (fin_S (t := .tup [WiState_T1 (WiState.mk s s2 s3 0) 0 1 2, .d (.v (.int .i64 0))]) (L := [some (lvI s), some (lvI s2), some (lvI s3)]) (κ := [1, 2, 3]) R (.cons (rcell tb (u := WiState_T1 (WiState.mk s s2 s3 0) 1 2 3) R R R R R R R) (.cons (.tmp 3) .nil)) (vwK R R (.row R (.row R (.row R .nil))) (.cons R R .nil)) ⟨R, R⟩)
theorem window_Start_pc {F : Nat} {p : WiPlan} {r : (WiState × Int)} (h : window_Start F p = some r) : PC Try.prog 18 [WiPlan.d p] (.tup [WiState.d r.1, .v (.int .i64 r.2)]) := (window_Start_scr h).toPC (.tupL (.cons (.aggL (.cons (.row rfl rfl) (.cons (.row rfl rfl) (.cons (.row rfl rfl) (.cons (.d _) .nil))))) (.cons (.d _) .nil)))
def slices_Clone_int (F : Nat) (s : (List Int)) : Option (List Int) := Option.bind (appO ([] : List Int) s) fun q => some q
theorem slices_Clone_int_scr {F : Nat} {s : (List Int)} {r : (List Int)} (h : slices_Clone_int F s = some r) : SCR Try.prog 83 (List.map T.d [.arr 1 ((s).map vI)]) [] (.row 0 1 0 (r).length) (List.map some [(lvI r)]) := by
 rw [slices_Clone_int] at h
 refine SC.of_sw Try.func83 R R R ?_
 dsimp only [argS, List.map]
 cases s with
 | nil =>
  refine SW.raw 0 1 R fun ad cap => ?_
  cases ad with
  | none =>
   replace h : some ([] : List Int) = some r := by simpa [appO] using h
   refine qG (r_asgD R R R (eN (sw_seq (qG (r_movD R R R (r_nilRow (by intro o a n cap w; cases a <;> cases o <;> simp [go_sem, eqGuard] <;> rfl) R R R (eN (sw_condT R ?_))))))))
   refine SW.unraw 0 1 R ?_
   refine SW.unraw 3 1 R ?_
   refine qG (r_asgD R R R (eN ?_))
   refine SW.own (ts' := [(2, .row 0 1 0 (([] : List Int)).length)]) (L' := []) 1 R R (.cons .nil .nil) .nil ?_
   simp only [List.cons_append, List.nil_append]
   refine sw_ret (then_ret ?_)
   obtain rfl := sI h
   exact (fin_S (t := .row 0 1 0 (([] : List Int)).length) (L := [some (lvI ([] : List Int))]) (κ := [0]) R (.cons (.tmp 2) .nil) (vwK R R (.row R .nil) (.cons R R .nil)) ⟨R, R⟩)
  | some ad =>
   refine qG (r_asgD R R R (eN (sw_seq (qG (r_movD R R R (r_nilRaw (by intro o a n cap w; cases a <;> cases o <;> simp [go_sem, eqGuard] <;> rfl) R R R (eN (sw_condF R ?_))))))))
   refine SW.unraw 0 1 R ?_
   refine SW.unraw 3 1 R ?_
   refine sw_skip (then_norm (qG (r_bslice tb R R R R R R R R R R R R R (r_movD R R R ?_))))
   obtain ⟨q, iq, h⟩ := bnd h
   refine r_apEM (g := vI) (w := ([] : List Int)) (v := ([] : List Int)) ([none]) tb R R R R R R R R (by intro _; exact R) iq R R R R R (r_asgW R R R (eN (sw_ret ?_)))
   obtain rfl := sI h
   exact (fin_S (t := .row 0 1 0 (q).length) (L := [some (lvI q)]) (κ := [1]) R (.cons (.tmp 2) .nil) (vwK R R (.row R .nil) (.cons R R .nil)) ⟨R, R⟩)
 | cons x0 s =>
  refine qG (r_asgD R R R (eN (sw_seq (qG (r_movD R R R (r_nilArr (by intro o a n cap w; cases a <;> cases o <;> simp [go_sem, eqGuard] <;> rfl) R R R (eN (sw_condF R (sw_skip (then_norm (qG (r_bslice tb R R R R R R R R R R R R R (r_movD R R R ?_)))))))))))))
  obtain ⟨q, iq, h⟩ := bnd h
  refine r_apEM (g := vI) (w := ([] : List Int)) (v := (x0 :: s)) ([none]) tb R R R R R R R R (by intro _; exact R) iq R R R R R (r_asgW R R R (eN (sw_ret ?_)))
  obtain rfl := sI h
  exact (fin_S (t := .row 0 1 0 (q).length) (L := [some (lvI q)]) (κ := [1]) R (.cons (.tmp 2) .nil) (vwK R R (.row R .nil) (.cons R R .nil)) ⟨R, R⟩)
theorem slices_Clone_int_pc {F : Nat} {s : (List Int)} {r : (List Int)} (h : slices_Clone_int F s = some r) : PC Try.prog 83 [.arr 1 ((s).map vI)] (.arr 1 ((r).map vI)) := (slices_Clone_int_scr h).toPC (.row rfl rfl)
def window_begin (F : Nat) (p : WiPlan) (s : WiState) (sky : WiSky) : Option ((Option Table) × Int) := Option.bind (window_CheckState F p s) fun rv => if rv = 0 then (if s.next = (p.windows.length : Int) then (some (none, 9)) else (Option.bind (window_mixed F sky.kinds) fun rv2 => if rv2 = true then (some (none, 2)) else (Option.bind (window_out F sky.wind 0 1000) fun rv3 => if rv3 = true then (some (none, 2)) else (Option.bind (slices_Clone_int F s.used) fun rv4 => Option.bind (slices_Clone_int F s.credit) fun rv5 => Option.bind (slices_Clone_int F s.last) fun rv6 => Option.bind (ixO p.windows s.next) fun e => some ((some (Table.mk p.teams p.windows p.cost p.gift rv4 rv5 rv6 s.next sky.kinds sky.wind e.day e.from_ e.until_ e.from_ ([] : List (Int × Bool)) (-1) (-1) false s.next (-1) 0 (-1))), 0))))) else (some (none, rv))
theorem window_begin_sco {F : Nat} {p : WiPlan} {s : WiState} {sky : WiSky} {r : ((Option Table) × Int)} (h : window_begin F p s sky = some r) : SCO Try.prog 66 (List.map T.d [WiPlan.d p, WiState.d s, WiSky.d sky]) [] r.1 (.d (.tup [.v (.pointer none), .v (.int .i64 r.2)])) (List.map some []) (fun (tt : Table) => .tup [.ref 0 22 0 0, .d (.v (.int .i64 r.2))]) (fun (tt : Table) => List.map some [⟨22, [Table_T1 tt 1 2 3 4]⟩, (lvI tt.s_Used), (lvI tt.s_Credit), (lvI tt.s_Last), (m1w tt.done)]) := by
 rw [window_begin] at h
 refine SC.of_sw Try.func66 R R R ?_
 dsimp only [argS, List.map]
 refine qG (r_box R R R R R R R (r_box R R R R R R R (r_box R R R R R R R (r_asgD R R R (r_asgD R R R (eN (qG (r_ldD (y := WiPlan.d p) tb R R R R R R R R R (r_ldD (y := WiState.d s) tb R R R R R R R R R ?_)))))))))
 obtain ⟨rv, hrv, h⟩ := bnd h
 refine r_call (window_CheckState_pc hrv) (.of (by kernel_rfl)) R R R R (r_asgD R R R (eN (sw_seq (sw_block (qG (r_movD R R R ?_))))))
 refine r_neq R R R R ?_ ?_
 ·intro c
  replace h := ifN c h
  refine r_asgD R R R (eN (sw_condT R (qG (r_movD R R R (r_asgD R R R (r_asgD R R R (eN (sw_ret (block_ret (then_ret ?_))))))))))
  obtain rfl := sI h
  exact (fin_S (t := .d (.tup [.v (.pointer none), .v (.int .i64 rv)])) (L := []) (κ := []) R (.cons (.tmp 6) (.cons (.tmp 7) .nil)) (vwK R R .nil (.cons R R .nil)) (.inl ⟨R, R, R⟩))
 intro c
 replace h := ifP c h
 refine r_asgD R R R (eN (sw_condF R (qG (r_fa tb R R R R R R R (r_ldD (y := .v (.int .i64 s.next)) tb R R R R R R R R R (r_fa tb R R R R R R R (r_ldD (y := .arr 3 ((p.windows).map WiWindow.d)) tb R R R R R R R R R (r_lenM tb R R R R R ?_))))))))
 refine r_eql R R R R ?_ ?_
 ·intro c2
  replace h := ifP c2 h
  refine r_asgD R R R (eN (sw_condT R (qG (r_asgD R R R (r_asgD R R R (eN (sw_ret (block_ret (then_ret ?_)))))))))
  obtain rfl := sI h
  exact (fin_S (t := .d (.tup [.v (.pointer none), .v (.int .i64 9)])) (L := []) (κ := []) R (.cons (.tmp 6) (.cons (.tmp 7) .nil)) (vwK R R .nil (.cons R R .nil)) (.inl ⟨R, R, R⟩))
 intro c2
 replace h := ifN c2 h
 refine r_asgD R R R (eN (sw_condF R (qG (r_fa tb R R R R R R R (r_ldD (y := .arr 1 ((sky.kinds).map vI)) tb R R R R R R R R R ?_)))))
 obtain ⟨rv2, hrv2, h⟩ := bnd h
 refine r_callB (window_mixed_pc hrv2) (.of (by kernel_rfl)) R R R R ?_ ?_
 ·intro c3
  replace h := ifP c3 h
  refine r_movD R R R (r_skip R R R (r_skip R R R (r_skip R R R (r_pickT R R R R (r_asgD R R R (eN (sw_condT R (qG (r_asgD R R R (r_asgD R R R (eN (sw_ret (block_ret (then_ret ?_))))))))))))))
  obtain rfl := sI h
  exact (fin_S (t := .d (.tup [.v (.pointer none), .v (.int .i64 2)])) (L := []) (κ := []) R (.cons (.tmp 6) (.cons (.tmp 7) .nil)) (vwK R R .nil (.cons R R .nil)) (.inl ⟨R, R, R⟩))
 intro c3
 replace h := ifF c3 h
 refine r_movD R R R (r_fa tb R R R R R R R (r_ldD (y := .v (.int .i64 sky.wind)) tb R R R R R R R R R ?_))
 obtain ⟨rv3, hrv3, h⟩ := bnd h
 refine r_callB (window_out_pc hrv3) (.of (by kernel_rfl)) R R R R ?_ ?_
 ·intro c4
  replace h := ifP c4 h
  refine r_pickF R R R R (r_asgD R R R (eN (sw_condT R (qG (r_asgD R R R (r_asgD R R R (eN (sw_ret (block_ret (then_ret ?_))))))))))
  obtain rfl := sI h
  exact (fin_S (t := .d (.tup [.v (.pointer none), .v (.int .i64 2)])) (L := []) (κ := []) R (.cons (.tmp 6) (.cons (.tmp 7) .nil)) (vwK R R .nil (.cons R R .nil)) (.inl ⟨R, R, R⟩))
 intro c4
 replace h := ifF c4 h
 refine r_pickF R R R R (r_asgD R R R (eN (sw_condF R (sw_skip (block_norm (then_norm (sw_seq (sw_dr (by kernel_rfl) (r_fa tb R R R R R R R (r_ldD (y := .arr 1 ((s.used).map vI)) tb R R R R R R R R R ?_))))))))))
 obtain ⟨rv4, hrv4, h⟩ := bnd h
 refine r_callN (t' := .row 3 1 0 (rv4).length) (news' := [(lvI rv4)]) (slices_Clone_int_scr hrv4) (.of (by kernel_rfl)) R R R ((.row .nil)) R R R (r_fa tb R R R R R R R (r_ldD (y := .arr 1 ((s.credit).map vI)) tb R R R R R R R R R ?_))
 obtain ⟨rv5, hrv5, h⟩ := bnd h
 refine r_callN (t' := .row 4 1 0 (rv5).length) (news' := [(lvI rv5)]) (slices_Clone_int_scr hrv5) (.of (by kernel_rfl)) R R R ((.row .nil)) R R R (r_fa tb R R R R R R R (r_ldD (y := .arr 1 ((s.last).map vI)) tb R R R R R R R R R ?_))
 obtain ⟨rv6, hrv6, h⟩ := bnd h
 refine r_callN (t' := .row 5 1 0 (rv6).length) (news' := [(lvI rv6)]) (slices_Clone_int_scr hrv6) (.of (by kernel_rfl)) R R R ((.row .nil)) R R R (r_fa tb R R R R R R R (r_stE _ ([some ⟨4, [.d (WiPlan.d p)]⟩, some ⟨4, [WiState_T2 {s with used := rv4} 3]⟩, some ⟨2, [.d (WiSky.d sky)]⟩, some (lvI rv4), some (lvI rv5), some (lvI rv6)]) tb R R R R R R R R R R R R (r_fa tb R R R R R R R ?_)))
 refine r_stE _ ([some ⟨4, [.d (WiPlan.d p)]⟩, some ⟨4, [WiState_T3 {s with used := rv4, credit := rv5} 3 4]⟩, some ⟨2, [.d (WiSky.d sky)]⟩, some (lvI rv4), some (lvI rv5), some (lvI rv6)]) tb R R R R R R R R R R R R (r_fa tb R R R R R R R (r_stE _ ([some ⟨4, [.d (WiPlan.d p)]⟩, some ⟨4, [WiState_T1 (WiState.mk rv4 rv5 rv6 s.next) 3 4 5]⟩, some ⟨2, [.d (WiSky.d sky)]⟩, some (lvI rv4), some (lvI rv5), some (lvI rv6)]) tb R R R R R R R R R R R R (ev_endD (by kernel_rfl) (then_norm (qG ?_)))))
 refine r_fa tb R R R R R R R (r_ldD (y := .arr 3 ((p.windows).map WiWindow.d)) tb R R R R R R R R R (r_fa tb R R R R R R R (r_ldD (y := .v (.int .i64 s.next)) tb R R R R R R R R R ?_)))
 obtain ⟨e, ie, h⟩ := bnd h
 refine r_ixE tb R R R R R R (ix0 ie) (ix1m ie) R R (r_ldE (y := WiWindow.d e) tb R R (ix2 (g := WiWindow.d) ie) R R R R (r_alloc tb R R R R R (r_stE _ ([some ⟨4, [.d (WiPlan.d p)]⟩, some ⟨4, [WiState_T1 (WiState.mk rv4 rv5 rv6 s.next) 3 4 5]⟩, some ⟨2, [.d (WiSky.d sky)]⟩, some (lvI rv4), some (lvI rv5), some (lvI rv6), some ⟨3, [.d (WiWindow.d e)]⟩]) tb R R R R R R R R R R R R (eN (qG (r_ldD (y := WiPlan.d p) tb R R R R R R R R R (r_ldG tb R R R R R R R R R ?_)))))))
 refine r_ldD (y := WiSky.d sky) tb R R R R R R R R R (r_ldD (y := WiWindow.d e) tb R R R R R R R R R (r_fa tb R R R R R R R (r_ldD (y := .v (.int .i64 e.from_)) tb R R R R R R R R R (r_makeMap R R R (r_fa tb R R R R R R R (r_ldD (y := .v (.int .i64 s.next)) tb R R R R R R R R R (r_build (v := .d (.agg [.v (.int .i64 s.next), .v (.int .i64 (-1)), .v (.int .i64 0), .v (.int .i64 (-1))])) tb R R (List.cons_ne_nil _ _) R R R R R R ?_)))))))
 refine r_build (v := Table_T1 (Table.mk p.teams p.windows p.cost p.gift rv4 rv5 rv6 s.next sky.kinds sky.wind e.day e.from_ e.until_ e.from_ ([] : List (Int × Bool)) (-1) (-1) false s.next (-1) 0 (-1)) 3 4 5 7) tb R R (List.cons_ne_nil _ _) (by kernel_rfl) (by kernel_rfl) (by kernel_rfl) (by kernel_rfl) R R (r_box R R R R R R R (r_asgR R R R (r_asgD R R R (eN (sw_ret ?_)))))
 obtain rfl := sI h
 exact (fin_S (t := .tup [.ref 0 22 0 0, .d (.v (.int .i64 0))]) (L := [some ⟨22, [Table_T1 (Table.mk p.teams p.windows p.cost p.gift rv4 rv5 rv6 s.next sky.kinds sky.wind e.day e.from_ e.until_ e.from_ ([] : List (Int × Bool)) (-1) (-1) false s.next (-1) 0 (-1)) 1 2 3 4]⟩, some (lvI rv4), some (lvI rv5), some (lvI rv6), some (m1w ([] : List (Int × Bool)))]) (κ := [8, 3, 4, 5, 7]) R (.cons (.tmp 6) (.cons (.tmp 7) .nil)) (vwK R R (.cons R R (.row R (.row R (.row R (.map R .nil))))) (.cons R R .nil)) (.inr ⟨_, R, R, R⟩))
def window_table_entitled (F : Nat) (b : Table) : Option Table := some b
theorem window_table_entitled_scr {F : Nat} {b : Table} {r : Table} (h : window_table_entitled F b = some r) : SCR Try.prog 81 (List.map T.d [.el 22 (([b]).map Table.d) ((0 : Int)).toNat 0]) [] (.fn (.func 104) [] [.ref 0 1 0 0]) (List.map some [⟨1, [.d (.el 22 (([r]).map Table.d) ((0 : Int)).toNat 0)]⟩]) := by
 rw [window_table_entitled] at h
 refine SC.of_sw Try.func81 R R R ?_
 dsimp only [argS, List.map]
 refine qG (r_box R R R R R R R (r_asgD R R R (eN (qG (r_func R R R R (r_asgF R R R (eN (sw_ret ?_))))))))
 obtain rfl := sI h
 exact (fin_S (t := .fn (.func 104) [] [.ref 0 1 0 0]) (L := [some ⟨1, [.d (.el 22 (([b]).map Table.d) ((0 : Int)).toNat 0)]⟩]) (κ := [0]) R (.cons (.tmp 2) .nil) (vwK R R (.cons R R .nil) (.cons R R .nil)) ⟨R, R⟩)
def window_table_entitled_m (F : Nat) (b : Table) : Option Table := some b
theorem window_table_entitled_m_scr {F : Nat} {b : Table} {r : Table} (h : window_table_entitled_m F b = some r) : SCR Try.prog 81 [.ref 0 22 0 0] [some ⟨22, [Table_T1 b 1 2 3 4]⟩, some (lvI b.s_Used), some (lvI b.s_Credit), some (lvI b.s_Last), some (m1w b.done)] (.fn (.func 104) [] [.ref 5 1 0 0]) [some ⟨22, [Table_T1 r 1 2 3 4]⟩, some (lvI r.s_Used), some (lvI r.s_Credit), some (lvI r.s_Last), some (m1w r.done), some ⟨1, [.ref 0 22 0 0]⟩] := by
 rw [window_table_entitled_m] at h
 refine SC.of_sw Try.func81 R R R ?_
 dsimp only [argS, List.map]
 refine qG (r_box R R R R R R R (r_asgD R R R (eN (qG (r_func R R R R (r_asgF R R R (eN (sw_ret ?_))))))))
 obtain rfl := sI h
 exact (fin_S (t := .fn (.func 104) [] [.ref 5 1 0 0]) (L := [some ⟨22, [Table_T1 b 1 2 3 4]⟩, some (lvI b.s_Used), some (lvI b.s_Credit), some (lvI b.s_Last), some (m1w b.done), some ⟨1, [.ref 0 22 0 0]⟩]) (κ := [0, 1, 2, 3, 4, 5]) R (.cons (.tmp 2) .nil) (vwK R R (.cons R R (.row R (.row R (.row R (.map R (.cons R R .nil)))))) (.cons R R .nil)) ⟨R, R⟩)
def window_at (F : Nat) (p : WiPlan) (s : WiState) (sky : WiSky) (minute : Int) : Option ((Option Table) × Int) := Option.bind (window_begin F p s sky) fun rv => optE rv.1 (if rv.2 = 0 then (none) else (some (none, rv.2))) (fun t => if rv.2 = 0 then (Option.bind (window_out F minute t.w_From t.w_Until) fun rv2 => if rv2 = true then (some (none, 7)) else (some ((some {t with minute := minute}), 0))) else (some (none, rv.2)))
theorem window_at_sco {F : Nat} {p : WiPlan} {s : WiState} {sky : WiSky} {minute : Int} {r : ((Option Table) × Int)} (h : window_at F p s sky minute = some r) : SCO Try.prog 62 (List.map T.d [WiPlan.d p, WiState.d s, WiSky.d sky, .v (.int .i64 minute)]) [] r.1 (.d (.tup [.v (.pointer none), .v (.int .i64 r.2)])) (List.map some []) (fun (tt : Table) => .tup [.ref 0 22 0 0, .d (.v (.int .i64 r.2))]) (fun (tt : Table) => List.map some [⟨22, [Table_T1 tt 1 2 3 4]⟩, (lvI tt.s_Used), (lvI tt.s_Credit), (lvI tt.s_Last), (m1w tt.done)]) := by
 rw [window_at] at h
 refine SC.of_sw Try.func62 R R R ?_
 dsimp only [argS, List.map]
 refine qG (r_box R R R R R R R (r_box R R R R R R R (r_box R R R R R R R (r_asgD R R R (r_asgD R R R (eN (qG (r_ldD (y := WiPlan.d p) tb R R R R R R R R R (r_ldD (y := WiState.d s) tb R R R R R R R R R (r_ldD (y := WiSky.d sky) tb R R R R R R R R R ?_))))))))))
 obtain ⟨rv, hrv, h⟩ := bnd h
 rcases Option.eq_none_or_eq_some rv.1 with nv | ⟨t, nv⟩
 ·replace h := (optN nv).symm.trans h
  refine r_callO (t' := .d (.tup [.v (.pointer none), .v (.int .i64 rv.2)])) (ls := []) (news := []) ([]) ([some ⟨4, [.d (WiPlan.d p)]⟩, some ⟨4, [.d (WiState.d s)]⟩, some ⟨2, [.d (WiSky.d sky)]⟩]) ((window_begin_sco hrv).none nv) (.of (by kernel_rfl)) R (.inl ⟨R, R, R⟩) R R R R .nil R R R .nil .nil R R R R (r_movD R R R (r_extD (t := .v (.pointer none)) R R R R (r_extD (t := .v (.int .i64 rv.2)) R R R R (r_asgD R R R (r_asgD R R R (eN (sw_seq (sw_block (qG (r_movD R R R ?_))))))))))
  refine r_neq R R R R ?_ ?_
  ·intro c
   replace h := ifN c h
   refine r_asgD R R R (eN (sw_condT R (qG (r_movD R R R (r_asgD R R R (r_asgD R R R (eN (sw_ret (block_ret (then_ret ?_))))))))))
   obtain rfl := sI h
   exact (fin_S (t := .d (.tup [.v (.pointer none), .v (.int .i64 rv.2)])) (L := []) (κ := []) R (.cons (.tmp 8) (.cons (.tmp 9) .nil)) (vwK R R .nil (.cons R R .nil)) (.inl ⟨R, R, R⟩))
  intro c
  replace h := ifP c h
  cases h
 replace h := (optS nv).symm.trans h
 refine r_callO (t' := .tup [.ref 3 22 0 0, .d (.v (.int .i64 rv.2))]) (ls := []) (news := [⟨22, [Table_T1 t 1 2 3 4]⟩, (lvI t.s_Used), (lvI t.s_Credit), (lvI t.s_Last), (m1w t.done)]) ([]) ([some ⟨4, [.d (WiPlan.d p)]⟩, some ⟨4, [.d (WiState.d s)]⟩, some ⟨2, [.d (WiSky.d sky)]⟩, some ⟨22, [Table_T1 t 4 5 6 7]⟩, some (lvI t.s_Used), some (lvI t.s_Credit), some (lvI t.s_Last), some (m1w t.done)]) ((window_begin_sco hrv).some nv) (.of (by kernel_rfl)) R (.inl ⟨R, R, R⟩) R R R R .nil R R R .nil ((.cons R (.row (.row (.row (.map .nil)))))) R R R R ?_
 refine r_movT (.tup [.ref 3 22 0 0, .d (.v (.int .i64 rv.2))]) R R R (r_ext (t := .ref 3 22 0 0) R R R R (r_ext (t := .d (.v (.int .i64 rv.2))) R R R R (r_asgR R R R (r_asgD R R R (eN (sw_seq (sw_block (qG (r_movD R R R ?_)))))))))
 refine r_neq R R R R ?_ ?_
 ·intro c2
  replace h := ifN c2 h
  refine r_asgD R R R (eN (sw_condT R (qG (r_movD R R R (r_asgD R R R (r_asgD R R R (eN (sw_ret (block_ret (then_ret ?_))))))))))
  obtain rfl := sI h
  exact (fin_S (t := .d (.tup [.v (.pointer none), .v (.int .i64 rv.2)])) (L := []) (κ := []) R (.cons (.tmp 8) (.cons (.tmp 9) .nil)) (vwK R R .nil (.cons R R .nil)) (.inl ⟨R, R, R⟩))
 intro c2
 replace h := ifP c2 h
 refine r_asgD R R R (eN (sw_condF R (sw_seq (sw_dr (by kernel_rfl) (r_movD R R R (r_movR R R R (r_nilRef R R R (r_fa tb R R R R R R R (r_fa tb R R R R R R R (r_ldD (y := .v (.int .i64 t.w_From)) tb R R R R R R R R R (r_movR R R R (r_nilRef R R R (r_fa tb R R R R R R R (r_fa tb R R R R R R R (r_ldD (y := .v (.int .i64 t.w_Until)) tb R R R R R R R R R ?_)))))))))))))))
 obtain ⟨rv2, hrv2, h⟩ := bnd h
 refine r_callB (window_out_pc hrv2) (.of (by kernel_rfl)) R R R R ?_ ?_
 ·intro c3
  replace h := ifP c3 h
  refine r_asgD R R R (ev_endD (by kernel_rfl) (then_norm (sw_condT R (qG (r_asgD R R R (r_asgD R R R (eN (sw_ret (block_ret (then_ret ?_))))))))))
  obtain rfl := sI h
  exact (fin_S (t := .d (.tup [.v (.pointer none), .v (.int .i64 7)])) (L := []) (κ := []) R (.cons (.tmp 8) (.cons (.tmp 9) .nil)) (vwK R R .nil (.cons R R .nil)) (.inl ⟨R, R, R⟩))
 intro c3
 replace h := ifF c3 h
 refine r_asgD R R R (ev_endD (by kernel_rfl) (then_norm (sw_condF R (sw_skip (block_norm (then_norm (qG (r_movR R R R (r_movD R R R (r_nilRef R R R (r_fa tb R R R R R R R (r_stE _ ([some ⟨4, [.d (WiPlan.d p)]⟩, some ⟨4, [.d (WiState.d s)]⟩, some ⟨2, [.d (WiSky.d sky)]⟩, some ⟨22, [Table_T1 {t with minute := minute} 4 5 6 7]⟩, some (lvI t.s_Used), some (lvI t.s_Credit), some (lvI t.s_Last), some (m1w t.done)]) tb R R R R R R R R R R R R (eN (qG (r_movR R R R (r_asgR R R R (r_asgD R R R ?_)))))))))))))))))
 refine eN (sw_ret ?_)
 obtain rfl := sI h
 exact (fin_S (t := .tup [.ref 0 22 0 0, .d (.v (.int .i64 0))]) (L := [some ⟨22, [Table_T1 {t with minute := minute} 1 2 3 4]⟩, some (lvI t.s_Used), some (lvI t.s_Credit), some (lvI t.s_Last), some (m1w t.done)]) (κ := [3, 4, 5, 6, 7]) R (.cons (.tmp 8) (.cons (.tmp 9) .nil)) (vwK R R (.cons R R (.row R (.row R (.row R (.map R .nil))))) (.cons R R .nil)) (.inr ⟨_, R, R, R⟩))
def slices_Collect_int_window_table_entitled_1 (F : Nat) (c : Table) : Option (List Int) := Option.bind (slices_AppendSeq_int_n_window_table_entitled_1 F c) fun rv => some rv
theorem slices_Collect_int_window_table_entitled_1_scr {F : Nat} {c : Table} {r : (List Int)} (h : slices_Collect_int_window_table_entitled_1 F c = some r) : SCR Try.prog 102 [.fn (.func 104) [] [.d (.el 1 (([c]).map (fun x => D.el 22 [Table.d x] 0 0)) ((0 : Int)).toNat 0)]] [] (.row 0 1 0 (r).length) (List.map some [(lvI r)]) := by
 rw [slices_Collect_int_window_table_entitled_1] at h
 refine SC.of_sw Try.func102 R R R ?_
 dsimp only [argS, List.map]
 refine qG (r_asgD R R R (eN (qG (r_movF R R R ?_))))
 obtain ⟨rv, hrv, h⟩ := bnd h
 refine r_callX (t' := .row 0 1 0 (rv).length) (news' := [(lvI rv)]) (slices_AppendSeq_int_n_window_table_entitled_1_scr hrv) R ((.row (fun _ => rfl) .nil)) (.of (by kernel_rfl)) R R ((.cons (.d (.d _)) (.cons (.fnC (.cons (.d (.d _)) .nil)) .nil))) R ((.row .nil)) R R R ?_
 refine r_asgW R R R (eN (sw_ret ?_))
 obtain rfl := sI h
 exact (fin_S (t := .row 0 1 0 (rv).length) (L := [some (lvI rv)]) (κ := [0]) R (.cons (.tmp 2) .nil) (vwK R R (.row R .nil) (.cons R R .nil)) ⟨R, R⟩)
def slices_SortedFunc_int_window_table_entitled_1_window_table_order (F : Nat) (c : Table) (t : Table) : Option (List Int) := Option.bind (slices_Collect_int_window_table_entitled_1 F c) fun rv => Option.bind (lenO (slices_SortFunc_int_m_window_table_order F rv t) rv) fun rv2 => some rv2
theorem slices_SortedFunc_int_window_table_entitled_1_window_table_order_scr {F : Nat} {c : Table} {t : Table} {r : (List Int)} (h : slices_SortedFunc_int_window_table_entitled_1_window_table_order F c t = some r) : SCR Try.prog 80 [.fn (.func 104) [] [.d (.el 1 (([c]).map (fun x => D.el 22 [Table.d x] 0 0)) ((0 : Int)).toNat 0)], .fn (.func 82) [.d (.el 22 (([t]).map Table.d) ((0 : Int)).toNat 0)] []] [] (.row 0 1 0 (r).length) (List.map some [(lvI r)]) := by
 rw [slices_SortedFunc_int_window_table_entitled_1_window_table_order] at h
 refine SC.of_sw Try.func80 R R R ?_
 dsimp only [argS, List.map]
 refine qG (r_asgD R R R (eN (qG (r_movF R R R ?_))))
 obtain ⟨rv, hrv, h⟩ := bnd h
 refine r_callX (t' := .row 0 1 0 (rv).length) (news' := [(lvI rv)]) (slices_Collect_int_window_table_entitled_1_scr hrv) R ((.row (fun _ => rfl) .nil)) (.of (by kernel_rfl)) R R ((.cons (.fnC (.cons (.d (.d _)) .nil)) .nil)) R ((.row .nil)) R R R ?_
 refine r_asgW R R R (eN (qG (r_movW R R R (r_movF R R R ?_))))
 obtain ⟨rv2, hrv2, h⟩ := bnd h
 refine r_callO (t' := .d (.tup [])) (ls := [some (lvI rv2)]) (news := []) ([0]) ([some (lvI rv2)]) (slices_SortFunc_int_m_window_table_order_scr (lenO_eq hrv2).1) (.of (by kernel_rfl)) R (.inl ⟨R, R, R⟩) R R R R ((.row R .nil)) R R R ((.row .nil)) .nil R R R R ?_
 first | (dsimp only [WiState_T1, WiState_T2, WiState_T3, Table_T1]; rw [← (lenO_eq hrv2).2]) | rw [← (lenO_eq hrv2).2] | skip
 refine eN (qG (r_movW R R R (r_asgW R R R (eN (sw_ret ?_)))))
 obtain rfl := sI h
 exact (fin_S (t := .row 0 1 0 (rv2).length) (L := [some (lvI rv2)]) (κ := [0]) R (.cons (.tmp 4) .nil) (vwK R R (.row R .nil) (.cons R R .nil)) ⟨R, R⟩)
def window_table_rights (F : Nat) (b : Table) : Option (List Int) := Option.bind (window_table_entitled F b) fun rv => Option.bind (slices_SortedFunc_int_window_table_entitled_1_window_table_order F rv b) fun rv2 => some rv2
theorem window_table_rights_scr {F : Nat} {b : Table} {r : (List Int)} (h : window_table_rights F b = some r) : SCR Try.prog 63 (List.map T.d [.el 22 (([b]).map Table.d) ((0 : Int)).toNat 0]) [] (.row 0 1 0 (r).length) (List.map some [(lvI r)]) := by
 rw [window_table_rights] at h
 refine SC.of_sw Try.func63 R R R ?_
 dsimp only [argS, List.map]
 refine qG (r_asgD R R R (eN (qG (r_movD R R R ?_))))
 obtain ⟨rv, hrv, h⟩ := bnd h
 refine r_callN (t' := .fn (.func 104) [] [.ref 0 1 0 0]) (news' := [⟨1, [.d (.el 22 (([rv]).map Table.d) ((0 : Int)).toNat 0)]⟩]) (window_table_entitled_scr hrv) (.of (by kernel_rfl)) R R R ((.cons R .nil)) R R R (r_movD R R R (r_func R R R R ?_))
 obtain ⟨rv2, hrv2, h⟩ := bnd h
 refine r_callX (t' := .row 1 1 0 (rv2).length) (news' := [(lvI rv2)]) (slices_SortedFunc_int_window_table_entitled_1_window_table_order_scr hrv2) R ((.row (fun _ => rfl) .nil)) (.of (by kernel_rfl)) R R ((.cons (.fnC (.cons (.d (.ref R (.d _))) .nil)) (.cons (.fnF (.cons (.d (.d _)) .nil) .nil) .nil))) R ((.row .nil)) R R R ?_
 refine r_asgW R R R (eN (sw_ret ?_))
 obtain rfl := sI h
 exact (fin_S (t := .row 0 1 0 (rv2).length) (L := [some (lvI rv2)]) (κ := [1]) R (.cons (.tmp 2) .nil) (vwK R R (.row R .nil) (.cons R R .nil)) ⟨R, R⟩)
theorem window_table_rights_pc {F : Nat} {b : Table} {r : (List Int)} (h : window_table_rights F b = some r) : PC Try.prog 63 [.el 22 (([b]).map Table.d) ((0 : Int)).toNat 0] (.arr 1 ((r).map vI)) := (window_table_rights_scr h).toPC (.row rfl rfl)
def window_table_turn (F : Nat) (b : Table) : Option Int := if 0 ≤ b.given then (some b.given) else (if b.over = true then (some b.given) else (Option.bind (window_table_rights F b) fun rv => if 0 < (rv.length : Int) then (Option.bind (ixO rv 0) fun e => some e) else (some (-1))))
theorem window_table_turn_pc {F : Nat} {b : Table} {r : Int} (h : window_table_turn F b = some r) : PC Try.prog 59 [.el 22 (([b]).map Table.d) ((0 : Int)).toNat 0] (.v (.int .i64 r)) := by
 rw [window_table_turn] at h
 refine SC.of_sw Try.func59 R R R ?_
 dsimp only [argS, List.map]
 refine qG (r_asgD R R R (eN (sw_seq (qG (r_movD R R R (r_nilEl R R R (r_faE tb R R R R R R R (r_ldE (y := .v (.int .i64 b.given)) tb R R (ix2 (g := Table.d) (R : ixO [b] 0 = some b)) R R R R ?_))))))))
 refine r_geq R R R R ?_ ?_
 ·intro c
  replace h := ifP c h
  refine r_movD R R R (r_skip R R R (r_skip R R R (r_skip R R R (r_skip R R R (r_pickT R R R R (eN (sw_condT R (qG (r_movD R R R (r_nilEl R R R (r_faE tb R R R R R R R (r_ldE (y := .v (.int .i64 b.given)) tb R R (ix2 (g := Table.d) (R : ixO [b] 0 = some b)) R R R R (r_asgD R R R (eN (sw_ret (then_ret ?_))))))))))))))))
  obtain rfl := sI h
  exact fin_0 (t := .d (.v (.int .i64 b.given))) R R R (.cons (.tmp 2) .nil)
 intro c
 replace h := ifN (Int.not_le.2 c) h
 refine r_movD R R R (r_movD R R R (r_nilEl R R R (r_faE tb R R R R R R R (r_ldE (y := .v (.bool b.over)) tb R R (ix2 (g := Table.d) (R : ixO [b] 0 = some b)) R R R R ?_))))
 with_reducible apply ev_lit
 ·intro c2
  replace h := ifP c2 h
  refine r_pickF R R R R (eN (sw_condT R (qG (r_movD R R R (r_nilEl R R R (r_faE tb R R R R R R R (r_ldE (y := .v (.int .i64 b.given)) tb R R (ix2 (g := Table.d) (R : ixO [b] 0 = some b)) R R R R (r_asgD R R R (eN (sw_ret (then_ret ?_)))))))))))
  obtain rfl := sI h
  exact fin_0 (t := .d (.v (.int .i64 b.given))) R R R (.cons (.tmp 2) .nil)
 intro c2
 replace h := ifF c2 h
 refine r_pickF R R R R (eN (sw_condF R (sw_skip (then_norm (sw_seq (qG (r_movD R R R ?_)))))))
 obtain ⟨rv, hrv, h⟩ := bnd h
 refine r_callN (t' := .row 0 1 0 (rv).length) (news' := [(lvI rv)]) (window_table_rights_scr hrv) (.of (by kernel_rfl)) R R R ((.row .nil)) R R R (r_asgW R R R (eN (qG (r_movW R R R (r_lenR tb R R R R R ?_)))))
 refine r_gtr R R R R ?_ ?_
 ·intro c3
  replace h := ifP c3 h
  refine eN (sw_condT R (qG (r_movW R R R ?_)))
  obtain ⟨e, ie, h⟩ := bnd h
  refine r_ixI tb R R R R R R (ix0 ie) (ix1 ie) R R ?_
  refine r_ldD (y := .v (.int .i64 e)) tb R R R R (ix2 (g := fun a => T.d (vI a)) ie) R R R R ?_
  refine r_asgD R R R (eN (sw_ret (then_ret ?_)))
  obtain rfl := sI h
  exact fin_0 (t := .d (.v (.int .i64 e))) R R R (.cons (.tmp 2) .nil)
 intro c3
 replace h := ifN (Int.not_lt.2 c3) h
 refine eN (sw_condF R (sw_skip (then_norm (qG (r_asgD R R R (eN (sw_ret ?_)))))))
 obtain rfl := sI h
 exact fin_0 (t := .d (.v (.int .i64 (-1)))) R R R (.cons (.tmp 2) .nil)
def window_Rights (F : Nat) (p : WiPlan) (s : WiState) (sky : WiSky) (minute : Int) : Option ((List Int) × Int) := Option.bind (window_at F p s sky minute) fun rv => optE rv.1 (if rv.2 = 0 then (none) else (some (([] : List Int), rv.2))) (fun t => if rv.2 = 0 then (Option.bind (window_table_rights F t) fun rv2 => some (rv2, 0)) else (some (([] : List Int), rv.2)))
theorem window_Rights_scr {F : Nat} {p : WiPlan} {s : WiState} {sky : WiSky} {minute : Int} {r : ((List Int) × Int)} (h : window_Rights F p s sky minute = some r) : SCR Try.prog 30 (List.map T.d [WiPlan.d p, WiState.d s, WiSky.d sky, .v (.int .i64 minute)]) [] (.tup [.row 0 1 0 (r.1).length, .d (.v (.int .i64 r.2))]) (List.map some [(lvI r.1)]) := by
 rw [window_Rights] at h
 refine SC.of_sw Try.func30 R R R ?_
 dsimp only [argS, List.map]
 refine qG (r_box R R R R R R R (r_box R R R R R R R (r_box R R R R R R R (r_asgD R R R (r_asgD R R R (eN (qG (r_ldD (y := WiPlan.d p) tb R R R R R R R R R (r_ldD (y := WiState.d s) tb R R R R R R R R R (r_ldD (y := WiSky.d sky) tb R R R R R R R R R (r_movD R R R ?_)))))))))))
 obtain ⟨rv, hrv, h⟩ := bnd h
 rcases Option.eq_none_or_eq_some rv.1 with nv | ⟨t, nv⟩
 ·replace h := (optN nv).symm.trans h
  refine r_callO (t' := .d (.tup [.v (.pointer none), .v (.int .i64 rv.2)])) (ls := []) (news := []) ([]) ([some ⟨4, [.d (WiPlan.d p)]⟩, some ⟨4, [.d (WiState.d s)]⟩, some ⟨2, [.d (WiSky.d sky)]⟩]) ((window_at_sco hrv).none nv) (.of (by kernel_rfl)) R (.inl ⟨R, R, R⟩) R R R R .nil R R R .nil .nil R R R R (r_movD R R R (r_extD (t := .v (.pointer none)) R R R R (r_extD (t := .v (.int .i64 rv.2)) R R R R (r_asgD R R R (r_asgD R R R (eN (sw_seq (qG (r_movD R R R ?_)))))))))
  refine r_neq R R R R ?_ ?_
  ·intro c
   replace h := ifN c h
   refine eN (sw_condT R (qG (r_movD R R R (r_asgD R R R (r_asgD R R R (eN ?_))))))
   refine SW.own (ts' := [(8, .row 3 1 0 (([] : List Int)).length), (9, .d (.v (.int .i64 rv.2)))]) (L' := [some ⟨4, [.d (WiPlan.d p)]⟩, some ⟨4, [.d (WiState.d s)]⟩, some ⟨2, [.d (WiSky.d sky)]⟩]) 1 R R (.cons .nil (.cons (.same _) .nil)) (.same (.same (.same .nil))) ?_
   simp only [List.cons_append, List.nil_append]
   refine sw_ret (then_ret ?_)
   obtain rfl := sI h
   exact (fin_S (t := .tup [.row 0 1 0 (([] : List Int)).length, .d (.v (.int .i64 rv.2))]) (L := [some (lvI ([] : List Int))]) (κ := [3]) R (.cons (.tmp 8) (.cons (.tmp 9) .nil)) (vwK R R (.row R .nil) (.cons R R .nil)) ⟨R, R⟩)
  intro c
  replace h := ifP c h
  cases h
 replace h := (optS nv).symm.trans h
 refine r_callO (t' := .tup [.ref 3 22 0 0, .d (.v (.int .i64 rv.2))]) (ls := []) (news := [⟨22, [Table_T1 t 1 2 3 4]⟩, (lvI t.s_Used), (lvI t.s_Credit), (lvI t.s_Last), (m1w t.done)]) ([]) ([some ⟨4, [.d (WiPlan.d p)]⟩, some ⟨4, [.d (WiState.d s)]⟩, some ⟨2, [.d (WiSky.d sky)]⟩, some ⟨22, [Table_T1 t 4 5 6 7]⟩, some (lvI t.s_Used), some (lvI t.s_Credit), some (lvI t.s_Last), some (m1w t.done)]) ((window_at_sco hrv).some nv) (.of (by kernel_rfl)) R (.inl ⟨R, R, R⟩) R R R R .nil R R R .nil ((.cons R (.row (.row (.row (.map .nil)))))) R R R R ?_
 refine r_movT (.tup [.ref 3 22 0 0, .d (.v (.int .i64 rv.2))]) R R R (r_ext (t := .ref 3 22 0 0) R R R R (r_ext (t := .d (.v (.int .i64 rv.2))) R R R R (r_asgR R R R (r_asgD R R R (eN (sw_seq (qG (r_movD R R R ?_))))))))
 refine r_neq R R R R ?_ ?_
 ·intro c2
  replace h := ifN c2 h
  refine eN (sw_condT R (qG (r_movD R R R (r_asgD R R R (r_asgD R R R (eN ?_))))))
  refine SW.own (ts' := [(8, .row 8 1 0 (([] : List Int)).length), (9, .d (.v (.int .i64 rv.2)))]) (L' := [some ⟨4, [.d (WiPlan.d p)]⟩, some ⟨4, [.d (WiState.d s)]⟩, some ⟨2, [.d (WiSky.d sky)]⟩, some ⟨22, [Table_T1 t 4 5 6 7]⟩, some (lvI t.s_Used), some (lvI t.s_Credit), some (lvI t.s_Last), some (m1w t.done)]) 1 R R (.cons .nil (.cons (.same _) .nil)) (.same (.same (.same (.same (.same (.same (.same (.same .nil)))))))) ?_
  simp only [List.cons_append, List.nil_append]
  refine sw_ret (then_ret ?_)
  obtain rfl := sI h
  exact (fin_S (t := .tup [.row 0 1 0 (([] : List Int)).length, .d (.v (.int .i64 rv.2))]) (L := [some (lvI ([] : List Int))]) (κ := [8]) R (.cons (.tmp 8) (.cons (.tmp 9) .nil)) (vwK R R (.row R .nil) (.cons R R .nil)) ⟨R, R⟩)
 intro c2
 replace h := ifP c2 h
 refine eN (sw_condF R (sw_skip (then_norm (qG (r_movR R R R ?_)))))
 obtain ⟨rv2, hrv2, h⟩ := bnd h
 refine r_callLN (t' := .row 8 1 0 (rv2).length) (news' := [(lvI rv2)]) (window_table_rights_scr hrv2) R ((.row (fun _ => rfl) .nil)) (.of (by kernel_rfl)) R R ((.cons (.ref R (.aggL (.cons (.d _) (.cons (.d _) (.cons (.d _) (.cons (.d _) (.cons (.row R R) (.cons (.row R R) (.cons (.row R R) (.cons (.d _) (.cons (.d _) (.cons (.d _) (.cons (.d _) (.cons (.d _) (.cons (.d _) (.cons (.d _) (.cons (.mpM R) (.cons (.d _) (.cons (.d _) (.cons (.d _) (.cons (.d _) (.cons (.d _) (.cons (.d _) (.cons (.d _) .nil)))))))))))))))))))))))) .nil)) R ((.row .nil)) R R R ?_
 refine r_asgW R R R (r_asgD R R R (eN (sw_ret ?_)))
 obtain rfl := sI h
 exact (fin_S (t := .tup [.row 0 1 0 (rv2).length, .d (.v (.int .i64 0))]) (L := [some (lvI rv2)]) (κ := [8]) R (.cons (.tmp 8) (.cons (.tmp 9) .nil)) (vwK R R (.row R .nil) (.cons R R .nil)) ⟨R, R⟩)
theorem window_Rights_pc {F : Nat} {p : WiPlan} {s : WiState} {sky : WiSky} {minute : Int} {r : ((List Int) × Int)} (h : window_Rights F p s sky minute = some r) : PC Try.prog 30 [WiPlan.d p, WiState.d s, WiSky.d sky, .v (.int .i64 minute)] (.tup [.arr 1 ((r.1).map vI), .v (.int .i64 r.2)]) := (window_Rights_scr h).toPC (.tupL (.cons (.row rfl rfl) (.cons (.d _) .nil)))
end Go.Proofs.Ytdefnmcjmklohaa
