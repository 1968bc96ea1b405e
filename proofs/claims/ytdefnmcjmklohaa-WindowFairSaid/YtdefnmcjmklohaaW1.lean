/- What functions of the program compute: plain functions, and the proofs. -/
import Derived.Test.YtdefnmcjmklohaaW0
import Derived.Laws.BytesString
set_option linter.unusedVariables false
set_option linter.unusedSimpArgs false
open Go Go.Proofs.Ytdefnmcjmklohaa.Sh Go.Proofs
namespace Go.Proofs.Ytdefnmcjmklohaa
set_option maxRecDepth 100000
set_option maxHeartbeats 40000000
def window_out (F : Nat) (nv : Int) (lo : Int) (hi : Int) : Option Bool := if nv < lo then (some true) else (some (decide (hi < nv)))
theorem window_out_pc {F : Nat} {nv : Int} {lo : Int} {hi : Int} {r : Bool} (h : window_out F nv lo hi = some r) : PC Try.prog 45 [.v (.int .i64 nv), .v (.int .i64 lo), .v (.int .i64 hi)] (.v (.bool r)) := by
 rw [window_out] at h
 refine SC.of_sw Try.func45 R R R ?_
 dsimp only [argS, List.map]
 refine qG (q_asgD R (eN (qG (q_movD R (q_movD R ?_)))))
 refine r_lss R R R R ?_ ?_
 ·intro c
  replace h := ifP c h
  refine q_movD R (q_sk 3 R (q_pickT R (q_asgD R (eN (sw_ret ?_)))))
  obtain rfl := sI h
  exact f1 6 R
 intro c
 replace h := ifN (Int.not_lt.2 c) h
 refine q_movD R (q_movD R (q_movD R (r_gtrV R R R R (q_pickF R (q_asgD R (eN (sw_ret ?_)))))))
 obtain rfl := sI h
 exact f1 6 R
def cmp_isNaN_int (F : Nat) (x : Int) : Option Bool := some (!decide (x = x))
theorem cmp_isNaN_int_pc {F : Nat} {x : Int} {r : Bool} (h : cmp_isNaN_int F x = some r) : PC Try.prog 74 [.v (.int .i64 x)] (.v (.bool r)) := by
 rw [cmp_isNaN_int] at h
 refine SC.of_sw Try.func74 R R R ?_
 dsimp only [argS, List.map]
 refine qG (q_asgD R (eN (qG (q_movD R (q_movD R (r_neqV R R R R (q_asgD R (eN (sw_ret ?_)))))))))
 obtain rfl := sI h
 exact f1 2 R
def cmp_Compare_int (F : Nat) (x : Int) (y : Int) : Option Int := Option.bind (cmp_isNaN_int F x) fun rv => if rv = true then (Option.bind (cmp_isNaN_int F y) fun rv2 => if rv2 = true then (some 0) else (some (-1))) else (Option.bind (cmp_isNaN_int F y) fun rv3 => if rv3 = true then (some 1) else (if x < y then (some (-1)) else (if y < x then (some 1) else (some 0))))
theorem cmp_Compare_int_pc {F : Nat} {x : Int} {y : Int} {r : Int} (h : cmp_Compare_int F x y = some r) : PC Try.prog 53 [.v (.int .i64 x), .v (.int .i64 y)] (.v (.int .i64 r)) := by
 rw [cmp_Compare_int] at h
 refine SC.of_sw Try.func53 R R R ?_
 dsimp only [argS, List.map]
 refine qG (q_asgD R (eN (qG (q_movD R ?_))))
 obtain ⟨rv, hrv, h⟩ := bnd h
 refine r_callB (cmp_isNaN_int_pc hrv) (.of (by kernel_rfl)) R R R R ?_ ?_
 ·intro c
  replace h := ifP c h
  refine q_asgD R (eN (qG (q_movD R ?_)))
  obtain ⟨rv2, hrv2, h⟩ := bnd h
  refine r_callB (cmp_isNaN_int_pc hrv2) (.of (by kernel_rfl)) R R R R ?_ ?_
  ·intro c2
   replace h := ifP c2 h
   refine q_asgD R (eN (sw_seq (qG (q_movD R (eN (sw_condT R (sw_seq (qG (q_movD R (eN (sw_condT R (qG (q_asgD R (eN (sw_ret (then_ret (then_ret ?_)))))))))))))))))
   obtain rfl := sI h
   exact f1 4 R
  intro c2
  replace h := ifF c2 h
  refine q_asgD R (eN (sw_seq (qG (q_movD R (eN (sw_condT R (sw_seq (qG (q_movD R (eN (sw_condF R (sw_skip (then_norm (qG (q_asgD R (eN (sw_ret (then_ret ?_))))))))))))))))))
  obtain rfl := sI h
  exact f1 4 R
 intro c
 replace h := ifF c h
 refine q_asgD R (eN (qG (q_movD R ?_)))
 obtain ⟨rv3, hrv3, h⟩ := bnd h
 refine r_callB (cmp_isNaN_int_pc hrv3) (.of (by kernel_rfl)) R R R R ?_ ?_
 ·intro c3
  replace h := ifP c3 h
  refine q_asgD R (eN (sw_seq (qG (q_movD R (eN (sw_condF R (sw_skip (then_norm (sw_seq (qG (q_movD R (eN (sw_condT R (qG (q_asgD R (eN (sw_ret (then_ret ?_))))))))))))))))))
  obtain rfl := sI h
  exact f1 4 R
 intro c3
 replace h := ifF c3 h
 refine q_asgD R (eN (sw_seq (qG (q_movD R (eN (sw_condF R (sw_skip (then_norm (sw_seq (qG (q_movD R (eN (sw_condF R (sw_skip (then_norm (sw_seq (qG (q_movD R (q_movD R ?_)))))))))))))))))))
 refine r_lss R R R R ?_ ?_
 ·intro c4
  replace h := ifP c4 h
  refine eN (sw_condT R (qG (q_asgD R (eN (sw_ret (then_ret ?_))))))
  obtain rfl := sI h
  exact f1 4 R
 intro c4
 replace h := ifN (Int.not_lt.2 c4) h
 refine eN (sw_condF R (sw_skip (then_norm (sw_seq (qG (q_movD R (q_movD R ?_)))))))
 refine r_gtr R R R R ?_ ?_
 ·intro c5
  replace h := ifP c5 h
  refine eN (sw_condT R (qG (q_asgD R (eN (sw_ret (then_ret ?_))))))
  obtain rfl := sI h
  exact f1 4 R
 intro c5
 replace h := ifN (Int.not_lt.2 c5) h
 refine eN (sw_condF R (sw_skip (then_norm (qG (q_asgD R (eN (sw_ret ?_)))))))
 obtain rfl := sI h
 exact f1 4 R
def window_mixed_L1 (F : Nat) (lv : (List Int)) (K : Int → Int → Option Bool) : Nat → Int → Int → Option Bool
 | 0, _, _ => none
 | n + 1, before, x => if x < (lv.length : Int) then (Option.bind (ixO lv x) fun e => Option.bind (window_out F e (W (before + 1)) 9) fun rv => if rv = true then (some true) else (window_mixed_L1 F lv K n e (W (x + 1)))) else (K before x)
def window_mixed (F : Nat) (lv : (List Int)) : Option Bool := window_mixed_L1 F lv (fun (before : Int) (x : Int) => some false) F (-1) 0
theorem window_mixed_pc {F : Nat} {lv : (List Int)} {r : Bool} (h : window_mixed F lv = some r) : PC Try.prog 50 [.arr 1 ((lv).map vI)] (.v (.bool r)) := by
 rw [window_mixed] at h
 refine SC.of_sw Try.func50 R R R ?_
 dsimp only [argS, List.map]
 refine qG (q_asgD R (eN (qG (q_asgD R (eN (sw_seq (qG (q_movD R (q_lenM tb R (q_movD R (eN (sw_block ?_))))))))))))
 obtain ⟨K2, hK2, h⟩ : ∃ K, K = _ ∧ window_mixed_L1 F lv K F (-1) 0 = some r := ⟨_, rfl, h⟩
 refine sw_loopS (fun m st => ∃ (before : Int) (x : Int), window_mixed_L1 F lv K2 m before x = some r ∧ st = ⟨[(2, .d (.v (.bool false))), (3, .d (vI before)), (6, .d (.arr 1 ((lv).map vI))), (7, .d (vI (lv.length : Int))), (8, .d (vI x))], []⟩) (.prn [2, 3, 6, 7, 8] R) ⟨(-1), 0, h, R⟩ ?_
 clear h
 rintro m2 st ⟨before, x, h, rfl⟩
 cases m2 with
 | zero => cases (show (none : Option Bool) = some r from h)
 | succ m2 =>
 rw [window_mixed_L1] at h
 refine qG ?_
 refine r_lss R R R R ?_ ?_
 ·intro c
  replace h := ifP c h
  refine eN (sw_seq (sw_condT R (sw_skip (then_norm (sw_seq (sw_block (qG ?_)))))))
  obtain ⟨e, ie, h⟩ := bnd h
  refine q_ixE tb (ix0 ie) (ix1m ie) R (q_ldE (y := vI e) tb (ix2 (g := vI) ie) R (q_asgD R (eN (sw_seq (qG (q_movD R (q_movD R (q_add R ?_))))))))
  obtain ⟨rv, hrv, h⟩ := bnd h
  refine r_callB (window_out_pc hrv) (.of (by kernel_rfl)) R R R R ?_ ?_
  ·intro c2
   replace h := ifP c2 h
   refine eN (sw_condT R (qG (q_asgD R (eN (sw_ret (then_ret (block_ret (then_ret (then_ret (block_ret (then_ret ?_)))))))))))
   obtain rfl := sI h
   exact f1 2 R
  intro c2
  replace h := ifF c2 h
  refine eN (sw_condF R (sw_skip (then_norm (sw_rg (q_movD R (q_asgD R (ev_end (block_norm (then_norm (sw_rg (q_add R (q_movD R (eN ?_)))))))))))))
  exact ⟨m2, _, Nat.lt_succ_self _, .prn [2, 3, 6, 7, 8] R, e, (W (x + 1)), h, R⟩
 intro c
 replace h := ifN (Int.not_lt.2 c) h
 refine eN (sw_seq (sw_condF R (sw_exit (then_exit (then_exit ?_)))))
 subst hK2
 refine block_exit (then_norm (qG (q_asgD R (eN (sw_ret ?_)))))
 obtain rfl := sI h
 exact f1 2 R
def wind_out (F : Nat) (nv : Int) (lo : Int) (hi : Int) : Option Bool := if nv < lo then (some true) else (some (decide (hi < nv)))
theorem wind_out_pc {F : Nat} {nv : Int} {lo : Int} {hi : Int} {r : Bool} (h : wind_out F nv lo hi = some r) : PC Try.prog 71 [.v (.int .i64 nv), .v (.int .i64 lo), .v (.int .i64 hi)] (.v (.bool r)) := by
 rw [wind_out] at h
 refine SC.of_sw Try.func71 R R R ?_
 dsimp only [argS, List.map]
 refine qG (q_asgD R (eN (qG (q_movD R (q_movD R ?_)))))
 refine r_lss R R R R ?_ ?_
 ·intro c
  replace h := ifP c h
  refine q_movD R (q_sk 3 R (q_pickT R (q_asgD R (eN (sw_ret ?_)))))
  obtain rfl := sI h
  exact f1 6 R
 intro c
 replace h := ifN (Int.not_lt.2 c) h
 refine q_movD R (q_movD R (q_movD R (r_gtrV R R R R (q_pickF R (q_asgD R (eN (sw_ret ?_)))))))
 obtain rfl := sI h
 exact f1 6 R
def wind_Name_L1 (F : Nat) (s : ByteArray) (K : Int → Option Bool) : Nat → Int → Option Bool
 | 0, _ => none
 | n + 1, x => if x < ((bytesL s).length : Int) then (Option.bind (ixO (bytesL s) x) fun e => if 97 ≤ e then (if e ≤ 122 then (wind_Name_L1 F s K n (W (x + 1))) else (if x = 0 then (some false) else (if e = 45 then (wind_Name_L1 F s K n (W (x + 1))) else (if 48 ≤ e then (if e ≤ 57 then (wind_Name_L1 F s K n (W (x + 1))) else (some false)) else (some false))))) else (if x = 0 then (some false) else (if e = 45 then (wind_Name_L1 F s K n (W (x + 1))) else (if 48 ≤ e then (if e ≤ 57 then (wind_Name_L1 F s K n (W (x + 1))) else (some false)) else (some false))))) else (K x)
def wind_Name (F : Nat) (s : ByteArray) : Option Bool := wind_Name_L1 F s (fun (x : Int) => Option.bind (wind_out F (s.size : Int) 1 24) fun rv => some (!rv)) F 0
theorem wind_Name_pc {F : Nat} {s : ByteArray} {r : Bool} (h : wind_Name F s = some r) : PC Try.prog 47 [.v (.string s)] (.v (.bool r)) := by
 rw [wind_Name] at h
 refine SC.of_sw Try.func47 R R R ?_
 dsimp only [argS, List.map]
 refine qG (q_asgD R (eN (sw_seq (qG (q_movD R (r_bytes R R R R R R (q_lenM tb R (q_movD R (eN (sw_block ?_))))))))))
 obtain ⟨K2, hK2, h⟩ : ∃ K, K = _ ∧ wind_Name_L1 F s K F 0 = some r := ⟨_, rfl, h⟩
 refine sw_loopS (fun m st => ∃ (x : Int), wind_Name_L1 F s K2 m x = some r ∧ st = ⟨[(0, .d (.v (.string s))), (2, .d (.v (.bool false))), (6, .d (.arr 1 (((bytesL s)).map v8))), (7, .d (vI ((bytesL s).length : Int))), (8, .d (vI x))], []⟩) (.prn [0, 2, 6, 7, 8] R) ⟨0, h, R⟩ ?_
 clear h
 rintro m2 st ⟨x, h, rfl⟩
 cases m2 with
 | zero => cases (show (none : Option Bool) = some r from h)
 | succ m2 =>
 rw [wind_Name_L1] at h
 refine qG ?_
 refine r_lss R R R R ?_ ?_
 ·intro c
  replace h := ifP c h
  refine eN (sw_seq (sw_condT R (sw_skip (then_norm (sw_seq (sw_block (qG (q_movD R ?_))))))))
  obtain ⟨e, ie, h⟩ := bnd h
  refine q_ixE tb (ix0 ie) (ix1m ie) R (q_ldE (y := .v (.int .u8 e)) tb (ix2 (g := v8) ie) R (q_asgD R (q_asgD R (eN (qG (q_movD R ?_))))))
  refine r_geq R R R R ?_ ?_
  ·intro c2
   replace h := ifP c2 h
   refine q_movD R (q_movD R ?_)
   refine r_leq R R R R ?_ ?_
   ·intro c3
    replace h := ifP c3 h
    refine q_pickT R (r_notT R R R (q_movD R (q_sk 15 R (q_pickF R (eN (sw_condF R (sw_skip (block_norm (then_norm (sw_rg (q_add R (q_movD R (eN ?_)))))))))))))
    exact ⟨m2, _, Nat.lt_succ_self _, .prn [0, 2, 6, 7, 8] R, (W (x + 1)), h, R⟩
   intro c3
   replace h := ifN (Int.not_le.2 c3) h
   refine q_pickT R (r_notF R R R (q_movD R (q_movD R ?_)))
   refine r_eql R R R R ?_ ?_
   ·intro c4
    replace h := ifP c4 h
    refine q_movD R (q_sk 11 R (q_pickT R (q_pickT R (eN (sw_condT R (qG (q_asgD R (eN (sw_ret (block_ret (then_ret (then_ret (block_ret (then_ret ?_))))))))))))))
    obtain rfl := sI h
    exact f1 2 R
   intro c4
   replace h := ifN c4 h
   refine q_movD R (q_movD R ?_)
   refine r_neq R R R R ?_ ?_
   ·intro c5
    replace h := ifN c5 h
    refine q_movD R (q_movD R ?_)
    refine r_geq R R R R ?_ ?_
    ·intro c6
     replace h := ifP c6 h
     refine q_movD R (q_movD R ?_)
     refine r_leq R R R R ?_ ?_
     ·intro c7
      replace h := ifP c7 h
      refine q_pickT R (r_notT R R R (q_pickT R (q_pickF R (q_pickT R (eN (sw_condF R (sw_skip (block_norm (then_norm (sw_rg (q_add R (q_movD R (eN ?_)))))))))))))
      exact ⟨m2, _, Nat.lt_succ_self _, .prn [0, 2, 6, 7, 8] R, (W (x + 1)), h, R⟩
     intro c7
     replace h := ifN (Int.not_le.2 c7) h
     refine q_pickT R (r_notF R R R (q_pickT R (q_pickF R (q_pickT R (eN (sw_condT R (qG (q_asgD R (eN (sw_ret (block_ret (then_ret (then_ret (block_ret (then_ret ?_)))))))))))))))
     obtain rfl := sI h
     exact f1 2 R
    intro c6
    replace h := ifN (Int.not_le.2 c6) h
    refine q_movD R (q_sk 2 R (q_pickF R (r_notF R R R (q_pickT R (q_pickF R (q_pickT R (eN (sw_condT R (qG (q_asgD R (eN (sw_ret (block_ret (then_ret (then_ret (block_ret (then_ret ?_)))))))))))))))))
    obtain rfl := sI h
    exact f1 2 R
   intro c5
   replace h := ifP c5 h
   refine q_movD R (q_sk 7 R (q_pickF R (q_pickF R (q_pickT R (eN (sw_condF R (sw_skip (block_norm (then_norm (sw_rg (q_add R (q_movD R (eN ?_)))))))))))))
   exact ⟨m2, _, Nat.lt_succ_self _, .prn [0, 2, 6, 7, 8] R, (W (x + 1)), h, R⟩
  intro c2
  replace h := ifN (Int.not_le.2 c2) h
  refine q_movD R (q_sk 2 R (q_pickF R (r_notF R R R (q_movD R (q_movD R ?_)))))
  refine r_eql R R R R ?_ ?_
  ·intro c8
   replace h := ifP c8 h
   refine q_movD R (q_sk 11 R (q_pickT R (q_pickT R (eN (sw_condT R (qG (q_asgD R (eN (sw_ret (block_ret (then_ret (then_ret (block_ret (then_ret ?_))))))))))))))
   obtain rfl := sI h
   exact f1 2 R
  intro c8
  replace h := ifN c8 h
  refine q_movD R (q_movD R ?_)
  refine r_neq R R R R ?_ ?_
  ·intro c9
   replace h := ifN c9 h
   refine q_movD R (q_movD R ?_)
   refine r_geq R R R R ?_ ?_
   ·intro c10
    replace h := ifP c10 h
    refine q_movD R (q_movD R ?_)
    refine r_leq R R R R ?_ ?_
    ·intro c11
     replace h := ifP c11 h
     refine q_pickT R (r_notT R R R (q_pickT R (q_pickF R (q_pickT R (eN (sw_condF R (sw_skip (block_norm (then_norm (sw_rg (q_add R (q_movD R (eN ?_)))))))))))))
     exact ⟨m2, _, Nat.lt_succ_self _, .prn [0, 2, 6, 7, 8] R, (W (x + 1)), h, R⟩
    intro c11
    replace h := ifN (Int.not_le.2 c11) h
    refine q_pickT R (r_notF R R R (q_pickT R (q_pickF R (q_pickT R (eN (sw_condT R (qG (q_asgD R (eN (sw_ret (block_ret (then_ret (then_ret (block_ret (then_ret ?_)))))))))))))))
    obtain rfl := sI h
    exact f1 2 R
   intro c10
   replace h := ifN (Int.not_le.2 c10) h
   refine q_movD R (q_sk 2 R (q_pickF R (r_notF R R R (q_pickT R (q_pickF R (q_pickT R (eN (sw_condT R (qG (q_asgD R (eN (sw_ret (block_ret (then_ret (then_ret (block_ret (then_ret ?_)))))))))))))))))
   obtain rfl := sI h
   exact f1 2 R
  intro c9
  replace h := ifP c9 h
  refine q_movD R (q_sk 7 R (q_pickF R (q_pickF R (q_pickT R (eN (sw_condF R (sw_skip (block_norm (then_norm (sw_rg (q_add R (q_movD R (eN ?_)))))))))))))
  exact ⟨m2, _, Nat.lt_succ_self _, .prn [0, 2, 6, 7, 8] R, (W (x + 1)), h, R⟩
 intro c
 replace h := ifN (Int.not_lt.2 c) h
 refine eN (sw_seq (sw_condF R (sw_exit (then_exit (then_exit ?_)))))
 subst hK2
 refine block_exit (then_norm (qG (q_movD R (r_lenS R R R R ?_))))
 obtain ⟨rv, hrv, h⟩ := bnd h
 refine r_call (wind_out_pc hrv) (.of (by kernel_rfl)) R R R R (r_not R R R (q_asgD R (eN (sw_ret ?_))))
 obtain rfl := sI h
 exact f1 2 R
def slices_IndexFunc_Span_L1 (F : Nat) (s : (List Span)) (f : (Span → Option Bool)) (K : Int → Option Int) : Nat → Int → Option Int
 | 0, _ => none
 | n + 1, x => if x < (s.length : Int) then (Option.bind (ixO s x) fun e => Option.bind (f e) fun rv => if rv = true then (some x) else (slices_IndexFunc_Span_L1 F s f K n (W (x + 1)))) else (K x)
def slices_IndexFunc_Span (F : Nat) (s : (List Span)) (f : (Span → Option Bool)) : Option Int := slices_IndexFunc_Span_L1 F s f (fun (x : Int) => some (-1)) F 0
theorem slices_IndexFunc_Span_scr {F : Nat} {s : (List Span)} {f : (Span → Option Bool)} {r : Int} {fi : Nat} {fc : List D} (fh : ∀ {a0 : Span} {r : Bool}, f a0 = some r → PC Try.prog fi ([Span.d a0] ++ fc) (.v (.bool r))) (fe : Ent Try.prog fi) (h : slices_IndexFunc_Span F s f = some r) : SCR Try.prog 73 [.d (.arr 2 ((s).map Span.d)), .fn (.func fi) [] (fc.map .d)] [] (.d (.v (.int .i64 r))) (List.map some []) := by
 rw [slices_IndexFunc_Span] at h
 refine SC.of_sw Try.func73 R R R ?_
 dsimp only [argS, List.map]
 refine qG (q_asgD R (eN (sw_seq (qG (q_movD R (q_lenM tb R (q_movD R (eN (sw_block ?_)))))))))
 obtain ⟨K2, hK2, h⟩ : ∃ K, K = _ ∧ slices_IndexFunc_Span_L1 F s f K F 0 = some r := ⟨_, rfl, h⟩
 refine sw_loopS (fun m st => ∃ (x : Int), slices_IndexFunc_Span_L1 F s f K2 m x = some r ∧ st = ⟨[(0, .d (.arr 2 ((s).map Span.d))), (1, .fn (.func fi) [] (fc.map .d)), (4, .d (vI 0)), (7, .d (vI (s.length : Int))), (8, .d (vI x))], []⟩) (.prn [0, 1, 4, 7, 8] R) ⟨0, h, R⟩ ?_
 clear h
 rintro m2 st ⟨x, h, rfl⟩
 cases m2 with
 | zero => cases (show (none : Option Int) = some r from h)
 | succ m2 =>
 rw [slices_IndexFunc_Span_L1] at h
 refine qG ?_
 refine r_lss R R R R ?_ ?_
 ·intro c
  replace h := ifP c h
  refine eN (sw_seq (sw_condT R (sw_skip (then_norm (sw_seq (sw_block (qG (q_movD R (q_asgD R (eN (qG (r_movF R R R (q_movD R (q_movD R ?_))))))))))))))
  obtain ⟨e, ie, h⟩ := bnd h
  refine q_ixE tb (ix0 ie) (ix1m ie) R (q_ldE (y := Span.d e) tb (ix2 (g := Span.d) ie) R ?_)
  obtain ⟨rv, hrv, h⟩ := bnd h
  refine r_callH (vs := [Span.d e]) (fh hrv) fe R R R R ?_
  with_reducible apply ev_lit
  ·intro c2
   replace h := ifP c2 h
   refine eN (sw_condT R (qG (q_movD R (q_asgD R (eN (sw_ret (block_ret (then_ret (then_ret (block_ret (then_ret ?_)))))))))))
   obtain rfl := sI h
   exact f1 4 R
  intro c2
  replace h := ifF c2 h
  refine eN (sw_condF R (sw_skip (block_norm (then_norm (sw_rg (q_add R (q_movD R (eN ?_))))))))
  exact ⟨m2, _, Nat.lt_succ_self _, .prn [0, 1, 4, 7, 8] R, (W (x + 1)), h, R⟩
 intro c
 replace h := ifN (Int.not_lt.2 c) h
 refine eN (sw_seq (sw_condF R (sw_exit (then_exit (then_exit ?_)))))
 subst hK2
 refine block_exit (then_norm (qG (q_asgD R (eN (sw_ret ?_)))))
 obtain rfl := sI h
 exact f1 4 R
def slices_ContainsFunc_Span (F : Nat) (s : (List Span)) (f : (Span → Option Bool)) : Option Bool := Option.bind (slices_IndexFunc_Span F s f) fun rv => some (decide (0 ≤ rv))
theorem slices_ContainsFunc_Span_scr {F : Nat} {s : (List Span)} {f : (Span → Option Bool)} {r : Bool} {fi : Nat} {fc : List D} (fh : ∀ {a0 : Span} {r : Bool}, f a0 = some r → PC Try.prog fi ([Span.d a0] ++ fc) (.v (.bool r))) (fe : Ent Try.prog fi) (h : slices_ContainsFunc_Span F s f = some r) : SCR Try.prog 51 [.d (.arr 2 ((s).map Span.d)), .fn (.func fi) [] (fc.map .d)] [] (.d (.v (.bool r))) (List.map some []) := by
 rw [slices_ContainsFunc_Span] at h
 refine SC.of_sw Try.func51 R R R ?_
 dsimp only [argS, List.map]
 refine qG (q_asgD R (eN (qG (q_movD R (r_movF R R R ?_)))))
 obtain ⟨rv, hrv, h⟩ := bnd h
 refine r_callX (t' := .d (vI rv)) (news' := []) (slices_IndexFunc_Span_scr (f := f) (fh := fh) (fe := fe) hrv) R .nil (.of (by kernel_rfl)) R R ((.cons (.d (.d _)) (.cons .hof .nil))) R .nil R R R ?_
 simp only [List.map_nil, List.append_nil]
 refine r_geqV R R R R (q_asgD R (eN (sw_ret ?_)))
 obtain rfl := sI h
 exact f1 4 R
def slices_IndexFunc_int_L1 (F : Nat) (s : (List Int)) (f : (Int → Option Bool)) (K : Int → Option Int) : Nat → Int → Option Int
 | 0, _ => none
 | n + 1, x => if x < (s.length : Int) then (Option.bind (ixO s x) fun e => Option.bind (f e) fun rv => if rv = true then (some x) else (slices_IndexFunc_int_L1 F s f K n (W (x + 1)))) else (K x)
def slices_IndexFunc_int (F : Nat) (s : (List Int)) (f : (Int → Option Bool)) : Option Int := slices_IndexFunc_int_L1 F s f (fun (x : Int) => some (-1)) F 0
theorem slices_IndexFunc_int_scr {F : Nat} {s : (List Int)} {f : (Int → Option Bool)} {r : Int} {fi : Nat} {fc : List D} (fh : ∀ {a0 : Int} {r : Bool}, f a0 = some r → PC Try.prog fi ([.v (.int .i64 a0)] ++ fc) (.v (.bool r))) (fe : Ent Try.prog fi) (h : slices_IndexFunc_int F s f = some r) : SCR Try.prog 106 [.d (.arr 1 ((s).map vI)), .fn (.func fi) [] (fc.map .d)] [] (.d (.v (.int .i64 r))) (List.map some []) := by
 rw [slices_IndexFunc_int] at h
 refine SC.of_sw Try.func106 R R R ?_
 dsimp only [argS, List.map]
 refine qG (q_asgD R (eN (sw_seq (qG (q_movD R (q_lenM tb R (q_movD R (eN (sw_block ?_)))))))))
 obtain ⟨K2, hK2, h⟩ : ∃ K, K = _ ∧ slices_IndexFunc_int_L1 F s f K F 0 = some r := ⟨_, rfl, h⟩
 refine sw_loopS (fun m st => ∃ (x : Int), slices_IndexFunc_int_L1 F s f K2 m x = some r ∧ st = ⟨[(0, .d (.arr 1 ((s).map vI))), (1, .fn (.func fi) [] (fc.map .d)), (4, .d (vI 0)), (7, .d (vI (s.length : Int))), (8, .d (vI x))], []⟩) (.prn [0, 1, 4, 7, 8] R) ⟨0, h, R⟩ ?_
 clear h
 rintro m2 st ⟨x, h, rfl⟩
 cases m2 with
 | zero => cases (show (none : Option Int) = some r from h)
 | succ m2 =>
 rw [slices_IndexFunc_int_L1] at h
 refine qG ?_
 refine r_lss R R R R ?_ ?_
 ·intro c
  replace h := ifP c h
  refine eN (sw_seq (sw_condT R (sw_skip (then_norm (sw_seq (sw_block (qG (q_movD R (q_asgD R (eN (qG (r_movF R R R (q_movD R (q_movD R ?_))))))))))))))
  obtain ⟨e, ie, h⟩ := bnd h
  refine q_ixE tb (ix0 ie) (ix1m ie) R (q_ldE (y := vI e) tb (ix2 (g := vI) ie) R ?_)
  obtain ⟨rv, hrv, h⟩ := bnd h
  refine r_callH (vs := [vI e]) (fh hrv) fe R R R R ?_
  with_reducible apply ev_lit
  ·intro c2
   replace h := ifP c2 h
   refine eN (sw_condT R (qG (q_movD R (q_asgD R (eN (sw_ret (block_ret (then_ret (then_ret (block_ret (then_ret ?_)))))))))))
   obtain rfl := sI h
   exact f1 4 R
  intro c2
  replace h := ifF c2 h
  refine eN (sw_condF R (sw_skip (block_norm (then_norm (sw_rg (q_add R (q_movD R (eN ?_))))))))
  exact ⟨m2, _, Nat.lt_succ_self _, .prn [0, 1, 4, 7, 8] R, (W (x + 1)), h, R⟩
 intro c
 replace h := ifN (Int.not_lt.2 c) h
 refine eN (sw_seq (sw_condF R (sw_exit (then_exit (then_exit ?_)))))
 subst hK2
 refine block_exit (then_norm (qG (q_asgD R (eN (sw_ret ?_)))))
 obtain rfl := sI h
 exact f1 4 R
def slices_ContainsFunc_int (F : Nat) (s : (List Int)) (f : (Int → Option Bool)) : Option Bool := Option.bind (slices_IndexFunc_int F s f) fun rv => some (decide (0 ≤ rv))
theorem slices_ContainsFunc_int_scr {F : Nat} {s : (List Int)} {f : (Int → Option Bool)} {r : Bool} {fi : Nat} {fc : List D} (fh : ∀ {a0 : Int} {r : Bool}, f a0 = some r → PC Try.prog fi ([.v (.int .i64 a0)] ++ fc) (.v (.bool r))) (fe : Ent Try.prog fi) (h : slices_ContainsFunc_int F s f = some r) : SCR Try.prog 89 [.d (.arr 1 ((s).map vI)), .fn (.func fi) [] (fc.map .d)] [] (.d (.v (.bool r))) (List.map some []) := by
 rw [slices_ContainsFunc_int] at h
 refine SC.of_sw Try.func89 R R R ?_
 dsimp only [argS, List.map]
 refine qG (q_asgD R (eN (qG (q_movD R (r_movF R R R ?_)))))
 obtain ⟨rv, hrv, h⟩ := bnd h
 refine r_callX (t' := .d (vI rv)) (news' := []) (slices_IndexFunc_int_scr (f := f) (fh := fh) (fe := fe) hrv) R .nil (.of (by kernel_rfl)) R R ((.cons (.d (.d _)) (.cons .hof .nil))) R .nil R R R ?_
 simp only [List.map_nil, List.append_nil]
 refine r_geqV R R R R (q_asgD R (eN (sw_ret ?_)))
 obtain rfl := sI h
 exact f1 4 R
def slices_Index_int_L1 (F : Nat) (s : (List Int)) (v : Int) (K : Int → Option Int) : Nat → Int → Option Int
 | 0, _ => none
 | n + 1, x => if x < (s.length : Int) then (Option.bind (ixO s x) fun e => if v = e then (some x) else (slices_Index_int_L1 F s v K n (W (x + 1)))) else (K x)
def slices_Index_int (F : Nat) (s : (List Int)) (v : Int) : Option Int := slices_Index_int_L1 F s v (fun (x : Int) => some (-1)) F 0
theorem slices_Index_int_pc {F : Nat} {s : (List Int)} {v : Int} {r : Int} (h : slices_Index_int F s v = some r) : PC Try.prog 107 [.arr 1 ((s).map vI), .v (.int .i64 v)] (.v (.int .i64 r)) := by
 rw [slices_Index_int] at h
 refine SC.of_sw Try.func107 R R R ?_
 dsimp only [argS, List.map]
 refine qG (q_asgD R (eN (sw_seq (qG (q_movD R (q_lenM tb R (q_movD R (eN (sw_block ?_)))))))))
 obtain ⟨K2, hK2, h⟩ : ∃ K, K = _ ∧ slices_Index_int_L1 F s v K F 0 = some r := ⟨_, rfl, h⟩
 refine sw_loopS (fun m st => ∃ (x : Int), slices_Index_int_L1 F s v K2 m x = some r ∧ st = ⟨[(0, .d (.arr 1 ((s).map vI))), (1, .d (vI v)), (4, .d (vI 0)), (7, .d (vI (s.length : Int))), (8, .d (vI x))], []⟩) (.prn [0, 1, 4, 7, 8] R) ⟨0, h, R⟩ ?_
 clear h
 rintro m2 st ⟨x, h, rfl⟩
 cases m2 with
 | zero => cases (show (none : Option Int) = some r from h)
 | succ m2 =>
 rw [slices_Index_int_L1] at h
 refine qG ?_
 refine r_lss R R R R ?_ ?_
 ·intro c
  replace h := ifP c h
  refine eN (sw_seq (sw_condT R (sw_skip (then_norm (sw_seq (sw_block (qG (q_movD R (q_asgD R (eN (qG (q_movD R (q_movD R (q_movD R ?_))))))))))))))
  obtain ⟨e, ie, h⟩ := bnd h
  refine q_ixE tb (ix0 ie) (ix1m ie) R (q_ldE (y := vI e) tb (ix2 (g := vI) ie) R ?_)
  refine r_eql R R R R ?_ ?_
  ·intro c2
   replace h := ifP c2 h
   refine eN (sw_condT R (qG (q_movD R (q_asgD R (eN (sw_ret (block_ret (then_ret (then_ret (block_ret (then_ret ?_)))))))))))
   obtain rfl := sI h
   exact f1 4 R
  intro c2
  replace h := ifN c2 h
  refine eN (sw_condF R (sw_skip (block_norm (then_norm (sw_rg (q_add R (q_movD R (eN ?_))))))))
  exact ⟨m2, _, Nat.lt_succ_self _, .prn [0, 1, 4, 7, 8] R, (W (x + 1)), h, R⟩
 intro c
 replace h := ifN (Int.not_lt.2 c) h
 refine eN (sw_seq (sw_condF R (sw_exit (then_exit (then_exit ?_)))))
 subst hK2
 refine block_exit (then_norm (qG (q_asgD R (eN (sw_ret ?_)))))
 obtain rfl := sI h
 exact f1 4 R
def slices_Contains_int (F : Nat) (s : (List Int)) (v : Int) : Option Bool := Option.bind (slices_Index_int F s v) fun rv => some (decide (0 ≤ rv))
theorem slices_Contains_int_pc {F : Nat} {s : (List Int)} {v : Int} {r : Bool} (h : slices_Contains_int F s v = some r) : PC Try.prog 91 [.arr 1 ((s).map vI), .v (.int .i64 v)] (.v (.bool r)) := by
 rw [slices_Contains_int] at h
 refine SC.of_sw Try.func91 R R R ?_
 dsimp only [argS, List.map]
 refine qG (q_asgD R (eN (qG (q_movD R (q_movD R ?_)))))
 obtain ⟨rv, hrv, h⟩ := bnd h
 refine r_call (slices_Index_int_pc hrv) (.of (by kernel_rfl)) R R R R (r_geqV R R R R (q_asgD R (eN (sw_ret ?_))))
 obtain rfl := sI h
 exact f1 4 R
def window_compare_L1 (F : Nat) (pairs : (List Arr2Int)) (K : Int → Option Int) : Nat → Int → Option Int
 | 0, _ => none
 | n + 1, x => if x < (pairs.length : Int) then (Option.bind (ixO pairs x) fun e => Option.bind (cmp_Compare_int F e.c0 e.c1) fun rv => if rv = 0 then (window_compare_L1 F pairs K n (W (x + 1))) else (some rv)) else (K x)
def window_compare (F : Nat) (pairs : (List Arr2Int)) : Option Int := window_compare_L1 F pairs (fun (x : Int) => some 0) F 0
theorem window_compare_pc {F : Nat} {pairs : (List Arr2Int)} {r : Int} (h : window_compare F pairs = some r) : PC Try.prog 105 [.arr 2 ((pairs).map Arr2Int.d)] (.v (.int .i64 r)) := by
 rw [window_compare] at h
 refine SC.of_sw Try.func105 R R R ?_
 dsimp only [argS, List.map]
 refine qG (q_asgD R (eN (sw_seq (qG (q_movD R (q_lenM tb R (q_movD R (eN (sw_block ?_)))))))))
 obtain ⟨K2, hK2, h⟩ : ∃ K, K = _ ∧ window_compare_L1 F pairs K F 0 = some r := ⟨_, rfl, h⟩
 refine sw_loopS (fun m st => ∃ (x : Int), window_compare_L1 F pairs K2 m x = some r ∧ st = ⟨[(2, .d (vI 0)), (6, .d (.arr 2 ((pairs).map Arr2Int.d))), (7, .d (vI (pairs.length : Int))), (8, .d (vI x))], []⟩) (.prn [2, 6, 7, 8] R) ⟨0, h, R⟩ ?_
 clear h
 rintro m2 st ⟨x, h, rfl⟩
 cases m2 with
 | zero => cases (show (none : Option Int) = some r from h)
 | succ m2 =>
 rw [window_compare_L1] at h
 refine qG ?_
 refine r_lss R R R R ?_ ?_
 ·intro c
  replace h := ifP c h
  refine eN (sw_seq (sw_condT R (sw_skip (then_norm (sw_seq (sw_block (qG ?_)))))))
  obtain ⟨e, ie, h⟩ := bnd h
  refine q_ixE tb (ix0 ie) (ix1m ie) R (q_ldE (y := Arr2Int.d e) tb (ix2 (g := Arr2Int.d) ie) R (r_alloc tb R R R R R (q_stE _ _ tb R (eN (qG (r_ixA tb R R R R R (by decide) (by decide) R R (q_ldD (y := vI e.c0) tb R (r_ixA tb R R R R R (by decide) (by decide) R R (q_ldD (y := vI e.c1) tb R ?_)))))))))
  obtain ⟨rv, hrv, h⟩ := bnd h
  refine r_call (cmp_Compare_int_pc hrv) (.of (by kernel_rfl)) R R R R (q_asgD R (eN (qG (q_movD R ?_))))
  refine r_neq R R R R ?_ ?_
  ·intro c2
   replace h := ifN c2 h
   refine eN (sw_condT R (qG (q_movD R (q_asgD R (eN (sw_ret (block_ret (then_ret (then_ret (block_ret (then_ret ?_)))))))))))
   obtain rfl := sI h
   exact f1 2 R
  intro c2
  replace h := ifP c2 h
  refine eN (sw_condF R (sw_skip (block_norm (then_norm (sw_rg (q_add R (q_movD R (eN ?_))))))))
  exact ⟨m2, ⟨[(2, .d (vI 0)), (6, .d (.arr 2 ((pairs).map Arr2Int.d))), (7, .d (vI (pairs.length : Int))), (8, .d (vI (W (x + 1))))], []⟩, Nat.lt_succ_self _, .vw (κ := []) (v0 R), (W (x + 1)), h, R⟩
 intro c
 replace h := ifN (Int.not_lt.2 c) h
 refine eN (sw_seq (sw_condF R (sw_exit (then_exit (then_exit ?_)))))
 subst hK2
 refine block_exit (then_norm (qG (q_asgD R (eN (sw_ret ?_)))))
 obtain rfl := sI h
 exact f1 2 R
def window_table_order (F : Nat) (t : Table) (o : Int) (a : Int) : Option Int := Option.bind (ixO t.p_Teams a) fun e => Option.bind (ixO t.p_Teams o) fun e2 => Option.bind (ixO t.s_Credit a) fun e3 => Option.bind (ixO t.s_Credit o) fun e4 => Option.bind (ixO t.s_Used o) fun e5 => Option.bind (ixO t.s_Used a) fun e6 => Option.bind (ixO t.s_Last o) fun e7 => Option.bind (ixO t.s_Last a) fun e8 => Option.bind (window_compare F [(Arr2Int.mk e.priority e2.priority), (Arr2Int.mk e3 e4), (Arr2Int.mk e5 e6), (Arr2Int.mk e7 e8), (Arr2Int.mk o a)]) fun rv => some rv
theorem window_table_order_pc {F : Nat} {t : Table} {o : Int} {a : Int} {r : Int} (h : window_table_order F t o a = some r) : PC Try.prog 82 [.el 22 (([t]).map Table.d) ((0 : Int)).toNat 0, .v (.int .i64 o), .v (.int .i64 a)] (.v (.int .i64 r)) := by
 rw [window_table_order] at h
 refine SC.of_sw Try.func82 R R R ?_
 dsimp only [argS, List.map]
 refine qG (q_asgD R (eN (qG (q_movD R (r_nilEl R R R (q_faE tb R (q_ldE (y := .agg [.arr 1 ((t.s_Used).map vI), .arr 1 ((t.s_Credit).map vI), .arr 1 ((t.s_Last).map vI), vI t.s_Next]) tb (ix2 (g := Table.d) (R : ixO [t] 0 = some t)) R (r_alloc tb R R R R R (q_stE _ _ tb R (eN (sw_seq (sw_dr (by kernel_rfl) (q_movD R (r_nilEl R R R (q_faE tb R (q_faE tb R (q_ldE (y := .arr 9 ((t.p_Teams).map WiTeam.d)) tb (ix2 (g := Table.d) (R : ixO [t] 0 = some t)) R (q_movD R ?_))))))))))))))))))
 obtain ⟨e, ie, h⟩ := bnd h
 refine q_ixE tb (ix0 ie) (ix1m ie) R (q_faE tb R (q_ldE (y := vI e.priority) tb (ix2 (g := WiTeam.d) ie) R (q_movD R (r_nilEl R R R (q_faE tb R (q_faE tb R (q_ldE (y := .arr 9 ((t.p_Teams).map WiTeam.d)) tb (ix2 (g := Table.d) (R : ixO [t] 0 = some t)) R (q_movD R ?_))))))))
 obtain ⟨e2, ie2, h⟩ := bnd h
 refine q_ixE tb (ix0 ie2) (ix1m ie2) R (q_faE tb R (q_ldE (y := vI e2.priority) tb (ix2 (g := WiTeam.d) ie2) R (r_buildA (v := .d (.agg [vI e.priority, vI e2.priority])) tb R R R R R R R R R (q_fa tb R (q_ldD (y := .arr 1 ((t.s_Credit).map vI)) tb R (q_movD R ?_))))))
 obtain ⟨e3, ie3, h⟩ := bnd h
 refine q_ixE tb (ix0 ie3) (ix1m ie3) R (q_ldE (y := vI e3) tb (ix2 (g := vI) ie3) R (q_fa tb R (q_ldD (y := .arr 1 ((t.s_Credit).map vI)) tb R (q_movD R ?_))))
 obtain ⟨e4, ie4, h⟩ := bnd h
 refine q_ixE tb (ix0 ie4) (ix1m ie4) R (q_ldE (y := vI e4) tb (ix2 (g := vI) ie4) R (r_buildA (v := .d (.agg [vI e3, vI e4])) tb R R R R R R R R R (q_fa tb R (q_ldD (y := .arr 1 ((t.s_Used).map vI)) tb R (q_movD R ?_)))))
 obtain ⟨e5, ie5, h⟩ := bnd h
 refine q_ixE tb (ix0 ie5) (ix1m ie5) R (q_ldE (y := vI e5) tb (ix2 (g := vI) ie5) R (q_fa tb R (q_ldD (y := .arr 1 ((t.s_Used).map vI)) tb R (q_movD R ?_))))
 obtain ⟨e6, ie6, h⟩ := bnd h
 refine q_ixE tb (ix0 ie6) (ix1m ie6) R (q_ldE (y := vI e6) tb (ix2 (g := vI) ie6) R (r_buildA (v := .d (.agg [vI e5, vI e6])) tb R R R R R R R R R (q_fa tb R (q_ldD (y := .arr 1 ((t.s_Last).map vI)) tb R (q_movD R ?_)))))
 obtain ⟨e7, ie7, h⟩ := bnd h
 refine q_ixE tb (ix0 ie7) (ix1m ie7) R (q_ldE (y := vI e7) tb (ix2 (g := vI) ie7) R (q_fa tb R (q_ldD (y := .arr 1 ((t.s_Last).map vI)) tb R (q_movD R ?_))))
 obtain ⟨e8, ie8, h⟩ := bnd h
 refine q_ixE tb (ix0 ie8) (ix1m ie8) R (q_ldE (y := vI e8) tb (ix2 (g := vI) ie8) R (r_buildA (v := .d (.agg [vI e7, vI e8])) tb R R R R R R R R R (q_movD R (q_movD R (r_buildA (v := .d (.agg [vI o, vI a])) tb R R R R R R R R R (r_bslice tb R R R R R R R R R R R R R ?_))))))
 obtain ⟨rv, hrv, h⟩ := bnd h
 refine r_callL (window_compare_pc hrv) R (.of (by kernel_rfl)) R R ((.cons (.row R R) .nil)) R R (q_asgD R (ev_endD (by kernel_rfl) (then_norm (sw_ret ?_))))
 obtain rfl := sI h
 exact f1 6 R
def window_table_why_1 (F : Nat) (c : Table) (c2 : Int) (c3 : WiTeam) : Option Bool := Option.bind (ixO c.s_Used c2) fun e => some (decide (c3.need ≤ e))
theorem window_table_why_1_pc {F : Nat} {c : Table} {c2 : Int} {c3 : WiTeam} {r : Bool} (h : window_table_why_1 F c c2 c3 = some r) : PC Try.prog 84 [.el 1 (([c]).map (fun x => D.el 22 [Table.d x] 0 0)) ((0 : Int)).toNat 0, .el 1 (([c2]).map vI) ((0 : Int)).toNat 0, .el 9 (([c3]).map WiTeam.d) ((0 : Int)).toNat 0] (.v (.bool r)) := by
 rw [window_table_why_1] at h
 refine SC.of_sw Try.func84 R R R ?_
 dsimp only [argS, List.map]
 refine qG (q_asgD R (eN (sw_seq (sw_dr (by kernel_rfl) ?_))))
 refine q_ldE (y := .el 22 (([c]).map Table.d) ((0 : Int)).toNat 0) tb (ix2 (g := (fun x => D.el 22 [Table.d x] 0 0)) (R : ixO [c] 0 = some c)) R ?_
 refine r_nilEl R R R (q_faE tb R (q_faE tb R (q_ldE (y := .arr 1 ((c.s_Used).map vI)) tb (ix2 (g := Table.d) (R : ixO [c] 0 = some c)) R (q_ldE (y := vI c2) tb (ix2 (g := vI) (R : ixO [c2] 0 = some c2)) R ?_))))
 obtain ⟨e, ie, h⟩ := bnd h
 refine q_ixE tb (ix0 ie) (ix1m ie) R (q_ldE (y := vI e) tb (ix2 (g := vI) ie) R (q_faE tb R (q_ldE (y := vI c3.need) tb (ix2 (g := WiTeam.d) (R : ixO [c3] 0 = some c3)) R (r_geqV R R R R (q_asgD R (ev_endD (by kernel_rfl) (then_norm (sw_ret ?_))))))))
 obtain rfl := sI h
 exact f1 3 R
def window_table_why_2_1 (F : Nat) (a : Span) (c : Table) : Option Bool := Option.bind (window_out F c.w_Day a.lo a.hi) fun rv => some (!rv)
theorem window_table_why_2_1_pc {F : Nat} {a : Span} {c : Table} {r : Bool} (h : window_table_why_2_1 F a c = some r) : PC Try.prog 86 [Span.d a, .el 1 (([c]).map (fun x => D.el 22 [Table.d x] 0 0)) ((0 : Int)).toNat 0] (.v (.bool r)) := by
 rw [window_table_why_2_1] at h
 refine SC.of_sw Try.func86 R R R ?_
 dsimp only [argS, List.map]
 refine qG (q_box R (q_asgD R (eN (sw_seq (sw_dr (by kernel_rfl) ?_)))))
 refine q_ldE (y := .el 22 (([c]).map Table.d) ((0 : Int)).toNat 0) tb (ix2 (g := (fun x => D.el 22 [Table.d x] 0 0)) (R : ixO [c] 0 = some c)) R ?_
 refine r_nilEl R R R (q_faE tb R (q_faE tb R (q_ldE (y := vI c.w_Day) tb (ix2 (g := Table.d) (R : ixO [c] 0 = some c)) R (q_fa tb R (q_ldD (y := vI a.lo) tb R (q_fa tb R (q_ldD (y := vI a.hi) tb R ?_)))))))
 obtain ⟨rv, hrv, h⟩ := bnd h
 refine r_call (window_out_pc hrv) (.of (by kernel_rfl)) R R R R (r_not R R R (q_asgD R (ev_endD (by kernel_rfl) (then_norm (sw_ret ?_)))))
 obtain rfl := sI h
 exact f1 3 R
def window_table_why_2 (F : Nat) (c : WiTeam) (c2 : Table) : Option Bool := Option.bind (slices_ContainsFunc_Span F c.away (fun a0 => window_table_why_2_1 F a0 c2)) fun rv => some rv
theorem window_table_why_2_pc {F : Nat} {c : WiTeam} {c2 : Table} {r : Bool} (h : window_table_why_2 F c c2 = some r) : PC Try.prog 85 [.el 9 (([c]).map WiTeam.d) ((0 : Int)).toNat 0, .el 1 (([c2]).map (fun x => D.el 22 [Table.d x] 0 0)) ((0 : Int)).toNat 0] (.v (.bool r)) := by
 rw [window_table_why_2] at h
 refine SC.of_sw Try.func85 R R R ?_
 dsimp only [argS, List.map]
 refine qG (q_asgD R (eN (qG (q_faE tb R (q_ldE (y := .arr 2 ((c.away).map Span.d)) tb (ix2 (g := WiTeam.d) (R : ixO [c] 0 = some c)) R (r_func R R R R ?_))))))
 obtain ⟨rv, hrv, h⟩ := bnd h
 refine r_callX (t' := .d (.v (.bool rv))) (news' := []) (slices_ContainsFunc_Span_scr (f := (fun a0 => window_table_why_2_1 F a0 c2)) (fc := [.el 1 (([c2]).map (fun x => D.el 22 [Table.d x] 0 0)) ((0 : Int)).toNat 0]) (fh := fun hr => window_table_why_2_1_pc hr) (fe := .of (by kernel_rfl)) hrv) R .nil (.of (by kernel_rfl)) R R ((.cons (.d (.d _)) (.cons (.fnC (.cons (.d (.d _)) .nil)) .nil))) R .nil R R R ?_
 simp only [List.map_nil, List.append_nil]
 refine q_asgD R (eN (sw_ret ?_))
 obtain rfl := sI h
 exact f1 2 R
def window_table_why_3 (F : Nat) (c : Int) (c2 : Table) (c3 : WiTeam) : Option Bool := if 0 ≤ c then (some (decide ((W (c2.w_Day - c)) < c3.rest))) else (some false)
theorem window_table_why_3_pc {F : Nat} {c : Int} {c2 : Table} {c3 : WiTeam} {r : Bool} (h : window_table_why_3 F c c2 c3 = some r) : PC Try.prog 87 [.el 1 (([c]).map vI) ((0 : Int)).toNat 0, .el 1 (([c2]).map (fun x => D.el 22 [Table.d x] 0 0)) ((0 : Int)).toNat 0, .el 9 (([c3]).map WiTeam.d) ((0 : Int)).toNat 0] (.v (.bool r)) := by
 rw [window_table_why_3] at h
 refine SC.of_sw Try.func87 R R R ?_
 dsimp only [argS, List.map]
 refine qG (q_asgD R (eN (sw_seq (sw_dr (by kernel_rfl) (q_ldE (y := vI c) tb (ix2 (g := vI) (R : ixO [c] 0 = some c)) R ?_)))))
 refine r_geq R R R R ?_ ?_
 ·intro c4
  replace h := ifP c4 h
  refine q_movD R ?_
  refine q_ldE (y := .el 22 (([c2]).map Table.d) ((0 : Int)).toNat 0) tb (ix2 (g := (fun x => D.el 22 [Table.d x] 0 0)) (R : ixO [c2] 0 = some c2)) R ?_
  refine r_nilEl R R R (q_faE tb R (q_faE tb R (q_ldE (y := vI c2.w_Day) tb (ix2 (g := Table.d) (R : ixO [c2] 0 = some c2)) R (q_ldE (y := vI c) tb (ix2 (g := vI) (R : ixO [c] 0 = some c)) R (r_sub R R R R (q_faE tb R (q_ldE (y := vI c3.rest) tb (ix2 (g := WiTeam.d) (R : ixO [c3] 0 = some c3)) R (r_lssV R R R R (q_pickT R (q_asgD R (ev_endD (by kernel_rfl) (then_norm (sw_ret ?_)))))))))))))
  obtain rfl := sI h
  exact f1 3 R
 intro c4
 replace h := ifN (Int.not_le.2 c4) h
 refine q_movD R (q_sk 10 R (q_pickF R (q_asgD R (ev_endD (by kernel_rfl) (then_norm (sw_ret ?_))))))
 obtain rfl := sI h
 exact f1 3 R
def window_table_why_4_1 (F : Nat) (k : Int) (c : Table) : Option Bool := Option.bind (slices_Contains_int F c.sky_Kinds k) fun rv => some rv
theorem window_table_why_4_1_pc {F : Nat} {k : Int} {c : Table} {r : Bool} (h : window_table_why_4_1 F k c = some r) : PC Try.prog 90 [.v (.int .i64 k), .el 1 (([c]).map (fun x => D.el 22 [Table.d x] 0 0)) ((0 : Int)).toNat 0] (.v (.bool r)) := by
 rw [window_table_why_4_1] at h
 refine SC.of_sw Try.func90 R R R ?_
 dsimp only [argS, List.map]
 refine qG (q_asgD R (eN (qG ?_)))
 refine q_ldE (y := .el 22 (([c]).map Table.d) ((0 : Int)).toNat 0) tb (ix2 (g := (fun x => D.el 22 [Table.d x] 0 0)) (R : ixO [c] 0 = some c)) R ?_
 refine r_nilEl R R R (q_faE tb R (q_faE tb R (q_ldE (y := .arr 1 ((c.sky_Kinds).map vI)) tb (ix2 (g := Table.d) (R : ixO [c] 0 = some c)) R (q_movD R ?_))))
 obtain ⟨rv, hrv, h⟩ := bnd h
 refine r_call (slices_Contains_int_pc hrv) (.of (by kernel_rfl)) R R R R (q_asgD R (eN (sw_ret ?_)))
 obtain rfl := sI h
 exact f1 3 R
def window_table_why_4 (F : Nat) (c : WiTeam) (c2 : Table) : Option Bool := if 0 < (c.kinds.length : Int) then (Option.bind (slices_ContainsFunc_int F c.kinds (fun a0 => window_table_why_4_1 F a0 c2)) fun rv => some (!rv)) else (some false)
theorem window_table_why_4_pc {F : Nat} {c : WiTeam} {c2 : Table} {r : Bool} (h : window_table_why_4 F c c2 = some r) : PC Try.prog 88 [.el 9 (([c]).map WiTeam.d) ((0 : Int)).toNat 0, .el 1 (([c2]).map (fun x => D.el 22 [Table.d x] 0 0)) ((0 : Int)).toNat 0] (.v (.bool r)) := by
 rw [window_table_why_4] at h
 refine SC.of_sw Try.func88 R R R ?_
 dsimp only [argS, List.map]
 refine qG (q_asgD R (eN (qG (q_faE tb R (q_ldE (y := .arr 1 ((c.kinds).map vI)) tb (ix2 (g := WiTeam.d) (R : ixO [c] 0 = some c)) R (q_lenM tb R ?_))))))
 refine r_gtr R R R R ?_ ?_
 ·intro c3
  replace h := ifP c3 h
  refine q_movD R (q_faE tb R (q_ldE (y := .arr 1 ((c.kinds).map vI)) tb (ix2 (g := WiTeam.d) (R : ixO [c] 0 = some c)) R (r_func R R R R ?_)))
  obtain ⟨rv, hrv, h⟩ := bnd h
  refine r_callX (t' := .d (.v (.bool rv))) (news' := []) (slices_ContainsFunc_int_scr (f := (fun a0 => window_table_why_4_1 F a0 c2)) (fc := [.el 1 (([c2]).map (fun x => D.el 22 [Table.d x] 0 0)) ((0 : Int)).toNat 0]) (fh := fun hr => window_table_why_4_1_pc hr) (fe := .of (by kernel_rfl)) hrv) R .nil (.of (by kernel_rfl)) R R ((.cons (.d (.d _)) (.cons (.fnC (.cons (.d (.d _)) .nil)) .nil))) R .nil R R R ?_
  simp only [List.map_nil, List.append_nil]
  refine r_not R R R (q_pickT R (q_asgD R (eN (sw_ret ?_))))
  obtain rfl := sI h
  exact f1 2 R
 intro c3
 replace h := ifN (Int.not_lt.2 c3) h
 refine q_movD R (q_sk 5 R (q_pickF R (q_asgD R (eN (sw_ret ?_)))))
 obtain rfl := sI h
 exact f1 2 R
def window_table_why_5 (F : Nat) (c : Table) (c2 : WiTeam) : Option Bool := some (decide (c2.wind < c.sky_Wind))
theorem window_table_why_5_pc {F : Nat} {c : Table} {c2 : WiTeam} {r : Bool} (h : window_table_why_5 F c c2 = some r) : PC Try.prog 92 [.el 1 (([c]).map (fun x => D.el 22 [Table.d x] 0 0)) ((0 : Int)).toNat 0, .el 9 (([c2]).map WiTeam.d) ((0 : Int)).toNat 0] (.v (.bool r)) := by
 rw [window_table_why_5] at h
 refine SC.of_sw Try.func92 R R R ?_
 dsimp only [argS, List.map]
 refine qG (q_asgD R (eN (sw_seq (sw_dr (by kernel_rfl) ?_))))
 refine q_ldE (y := .el 22 (([c]).map Table.d) ((0 : Int)).toNat 0) tb (ix2 (g := (fun x => D.el 22 [Table.d x] 0 0)) (R : ixO [c] 0 = some c)) R ?_
 refine r_nilEl R R R (q_faE tb R (q_faE tb R (q_ldE (y := vI c.sky_Wind) tb (ix2 (g := Table.d) (R : ixO [c] 0 = some c)) R (q_faE tb R (q_ldE (y := vI c2.wind) tb (ix2 (g := WiTeam.d) (R : ixO [c2] 0 = some c2)) R (r_gtrV R R R R (q_asgD R (ev_endD (by kernel_rfl) (then_norm (sw_ret ?_))))))))))
 obtain rfl := sI h
 exact f1 2 R
def window_table_why_6 (F : Nat) (c : Table) (c2 : WiTeam) : Option Bool := some (decide ((W (c.w_Until - c.minute)) < c2.setup))
theorem window_table_why_6_pc {F : Nat} {c : Table} {c2 : WiTeam} {r : Bool} (h : window_table_why_6 F c c2 = some r) : PC Try.prog 93 [.el 1 (([c]).map (fun x => D.el 22 [Table.d x] 0 0)) ((0 : Int)).toNat 0, .el 9 (([c2]).map WiTeam.d) ((0 : Int)).toNat 0] (.v (.bool r)) := by
 rw [window_table_why_6] at h
 refine SC.of_sw Try.func93 R R R ?_
 dsimp only [argS, List.map]
 refine qG (q_asgD R (eN (sw_seq (sw_dr (by kernel_rfl) ?_))))
 refine q_ldE (y := .el 22 (([c]).map Table.d) ((0 : Int)).toNat 0) tb (ix2 (g := (fun x => D.el 22 [Table.d x] 0 0)) (R : ixO [c] 0 = some c)) R ?_
 refine r_nilEl R R R (q_faE tb R (q_faE tb R (q_ldE (y := vI c.w_Until) tb (ix2 (g := Table.d) (R : ixO [c] 0 = some c)) R ?_)))
 refine q_ldE (y := .el 22 (([c]).map Table.d) ((0 : Int)).toNat 0) tb (ix2 (g := (fun x => D.el 22 [Table.d x] 0 0)) (R : ixO [c] 0 = some c)) R ?_
 refine r_nilEl R R R (q_faE tb R (q_ldE (y := vI c.minute) tb (ix2 (g := Table.d) (R : ixO [c] 0 = some c)) R (r_sub R R R R (q_faE tb R (q_ldE (y := vI c2.setup) tb (ix2 (g := WiTeam.d) (R : ixO [c2] 0 = some c2)) R (r_lssV R R R R (q_asgD R (ev_endD (by kernel_rfl) (then_norm (sw_ret ?_))))))))))
 obtain rfl := sI h
 exact f1 2 R
def window_table_why (F : Nat) (b : Table) (team : Int) : Option Int := Option.bind (ixO b.p_Teams team) fun e => Option.bind (ixO b.s_Last team) fun e2 => Option.bind (window_table_why_1 F b team e) fun rv => if rv = true then (some 210) else (Option.bind (window_table_why_2 F e b) fun rv2 => if rv2 = true then (some 211) else (Option.bind (window_table_why_3 F e2 b e) fun rv3 => if rv3 = true then (some 212) else (Option.bind (window_table_why_4 F e b) fun rv4 => if rv4 = true then (some 213) else (Option.bind (window_table_why_5 F b e) fun rv5 => if rv5 = true then (some 214) else (Option.bind (window_table_why_6 F b e) fun rv6 => if rv6 = true then (some 215) else (some 0))))))
theorem window_table_why_pc {F : Nat} {b : Table} {team : Int} {r : Int} (h : window_table_why F b team = some r) : PC Try.prog 67 [.el 22 (([b]).map Table.d) ((0 : Int)).toNat 0, .v (.int .i64 team)] (.v (.int .i64 r)) := by
 rw [window_table_why] at h
 refine SC.of_sw Try.func67 R R R ?_
 dsimp only [argS, List.map]
 refine qG (q_box R (q_box R (q_asgD R (eN (sw_seq (sw_dr (by kernel_rfl) (q_ldD (y := .el 22 (([b]).map Table.d) ((0 : Int)).toNat 0) tb R (r_nilEl R R R (q_faE tb R (q_faE tb R (q_ldE (y := .arr 9 ((b.p_Teams).map WiTeam.d)) tb (ix2 (g := Table.d) (R : ixO [b] 0 = some b)) R (q_ldD (y := vI team) tb R ?_))))))))))))
 obtain ⟨e, ie, h⟩ := bnd h
 refine q_ixE tb (ix0 ie) (ix1m ie) R (q_ldE (y := WiTeam.d e) tb (ix2 (g := WiTeam.d) ie) R (r_alloc tb R R R R R (q_stE _ _ tb R (ev_endD (by kernel_rfl) (then_norm (sw_seq (sw_dr (by kernel_rfl) (q_ldD (y := .el 22 (([b]).map Table.d) ((0 : Int)).toNat 0) tb R (r_nilEl R R R (q_faE tb R (q_faE tb R (q_ldE (y := .arr 1 ((b.s_Last).map vI)) tb (ix2 (g := Table.d) (R : ixO [b] 0 = some b)) R (q_ldD (y := vI team) tb R ?_)))))))))))))
 obtain ⟨e2, ie2, h⟩ := bnd h
 refine q_ixE tb (ix0 ie2) (ix1m ie2) R (q_ldE (y := vI e2) tb (ix2 (g := vI) ie2) R (r_alloc tb R R R R R (q_stE _ _ tb R (ev_endD (by kernel_rfl) (then_norm (sw_seq (qG (r_func R R R R (r_build (v := .agg [.d (vI 210), .fn (.func 84) [] [.ref 0 1 0 0, .ref 1 1 0 0, .ref 2 9 0 0]]) tb R R (List.cons_ne_nil _ _) R R R R R R (r_func R R R R (r_build (v := .agg [.d (vI 211), .fn (.func 85) [] [.ref 2 9 0 0, .ref 0 1 0 0]]) tb R R (List.cons_ne_nil _ _) R R R R R R ?_)))))))))))
 refine r_func R R R R (r_build (v := .agg [.d (vI 212), .fn (.func 87) [] [.ref 3 1 0 0, .ref 0 1 0 0, .ref 2 9 0 0]]) tb R R (List.cons_ne_nil _ _) R R R R R R (r_func R R R R (r_build (v := .agg [.d (vI 213), .fn (.func 88) [] [.ref 2 9 0 0, .ref 0 1 0 0]]) tb R R (List.cons_ne_nil _ _) R R R R R R (r_func R R R R (r_build (v := .agg [.d (vI 214), .fn (.func 92) [] [.ref 0 1 0 0, .ref 2 9 0 0]]) tb R R (List.cons_ne_nil _ _) R R R R R R (r_func R R R R ?_))))))
 refine r_build (v := .agg [.d (vI 215), .fn (.func 93) [] [.ref 0 1 0 0, .ref 2 9 0 0]]) tb R R (List.cons_ne_nil _ _) R R R R R R ?_
 refine r_buildA (v := .agg [.d (vI 210), .fn (.func 84) [] [.ref 0 1 0 0, .ref 1 1 0 0, .ref 2 9 0 0], .d (vI 211), .fn (.func 85) [] [.ref 2 9 0 0, .ref 0 1 0 0], .d (vI 212), .fn (.func 87) [] [.ref 3 1 0 0, .ref 0 1 0 0, .ref 2 9 0 0], .d (vI 213), .fn (.func 88) [] [.ref 2 9 0 0, .ref 0 1 0 0], .d (vI 214), .fn (.func 92) [] [.ref 0 1 0 0, .ref 2 9 0 0], .d (vI 215), .fn (.func 93) [] [.ref 0 1 0 0, .ref 2 9 0 0]]) tb R R R R R R R R R (q_movD R (eN (sw_block ?_)))
 refine sw_rounds 7 (swr_succ (qG ?_))
 refine r_lss R R R R ?_ ?_
 rotate_left
 ·intro c; exact absurd c (by decide)
 intro _
 refine eN (sw_seq (sw_condT R (sw_skip (then_norm (sw_seq (sw_block (qG (r_ixG (0) (.agg [.d (vI 210), .fn (.func 84) [] [.ref 0 1 0 0, .ref 1 1 0 0, .ref 2 9 0 0]]) tb R R R R R R R R R R R (r_alloc tb R R R R R (q_stE _ _ tb R (eN (qG (q_fa tb R (r_ldT (.fn (.func 84) [] [.ref 0 1 0 0, .ref 1 1 0 0, .ref 2 9 0 0]) tb R R R R R R R R R ?_))))))))))))))
 obtain ⟨rv, hrv, h⟩ := bnd h
 refine r_callXF (t' := .d (.v (.bool rv))) (news := []) (news' := []) (fi := []) (ca := [.ref 0 1 0 0, .ref 1 1 0 0, .ref 2 9 0 0]) (window_table_why_1_pc hrv) R .nil (.of (by kernel_rfl)) R (.inr R) R ((.cons (.d (.ref R (.d _))) (.cons (.d (.ref R (.d _))) (.cons (.d (.ref R (.d _))) .nil)))) R .nil R R R ?_
 simp only [List.map_nil, List.append_nil]
 with_reducible apply ev_lit
 ·intro c2
  replace h := ifP c2 h
  refine eN (sw_condT R (qG (q_fa tb R (q_ldD (y := vI 210) tb R (q_asgD R (eN (sw_ret (block_ret (then_ret (then_ret (block_ret (then_ret ?_))))))))))))
  obtain rfl := sI h
  exact f1 4 R
 intro c2
 replace h := ifF c2 h
 refine eN (sw_condF R (sw_skip (block_norm (then_norm (sw_rg (q_add R (q_movD R (eN (swr_succ (qG ?_))))))))))
 refine r_lss R R R R ?_ ?_
 rotate_left
 ·intro c3; exact absurd c3 (by decide)
 intro _
 refine eN (sw_seq (sw_condT R (sw_skip (then_norm (sw_seq (sw_block (qG (r_ixG (1) (.agg [.d (vI 211), .fn (.func 85) [] [.ref 2 9 0 0, .ref 0 1 0 0]]) tb R R R R R R R R R R R (r_alloc tb R R R R R (q_stE _ _ tb R (eN (qG (q_fa tb R (r_ldT (.fn (.func 85) [] [.ref 2 9 0 0, .ref 0 1 0 0]) tb R R R R R R R R R ?_))))))))))))))
 obtain ⟨rv2, hrv2, h⟩ := bnd h
 refine r_callXF (t' := .d (.v (.bool rv2))) (news := []) (news' := []) (fi := []) (ca := [.ref 2 9 0 0, .ref 0 1 0 0]) (window_table_why_2_pc hrv2) R .nil (.of (by kernel_rfl)) R (.inr R) R ((.cons (.d (.ref R (.d _))) (.cons (.d (.ref R (.d _))) .nil))) R .nil R R R ?_
 simp only [List.map_nil, List.append_nil]
 with_reducible apply ev_lit
 ·intro c4
  replace h := ifP c4 h
  refine eN (sw_condT R (qG (q_fa tb R (q_ldD (y := vI 211) tb R (q_asgD R (eN (sw_ret (block_ret (then_ret (then_ret (block_ret (then_ret ?_))))))))))))
  obtain rfl := sI h
  exact f1 4 R
 intro c4
 replace h := ifF c4 h
 refine eN (sw_condF R (sw_skip (block_norm (then_norm (sw_rg (q_add R (q_movD R (eN (swr_succ (qG ?_))))))))))
 refine r_lss R R R R ?_ ?_
 rotate_left
 ·intro c5; exact absurd c5 (by decide)
 intro _
 refine eN (sw_seq (sw_condT R (sw_skip (then_norm (sw_seq (sw_block (qG (r_ixG (2) (.agg [.d (vI 212), .fn (.func 87) [] [.ref 3 1 0 0, .ref 0 1 0 0, .ref 2 9 0 0]]) tb R R R R R R R R R R R (r_alloc tb R R R R R (q_stE _ _ tb R (eN (qG (q_fa tb R (r_ldT (.fn (.func 87) [] [.ref 3 1 0 0, .ref 0 1 0 0, .ref 2 9 0 0]) tb R R R R R R R R R ?_))))))))))))))
 obtain ⟨rv3, hrv3, h⟩ := bnd h
 refine r_callXF (t' := .d (.v (.bool rv3))) (news := []) (news' := []) (fi := []) (ca := [.ref 3 1 0 0, .ref 0 1 0 0, .ref 2 9 0 0]) (window_table_why_3_pc hrv3) R .nil (.of (by kernel_rfl)) R (.inr R) R ((.cons (.d (.ref R (.d _))) (.cons (.d (.ref R (.d _))) (.cons (.d (.ref R (.d _))) .nil)))) R .nil R R R ?_
 simp only [List.map_nil, List.append_nil]
 with_reducible apply ev_lit
 ·intro c6
  replace h := ifP c6 h
  refine eN (sw_condT R (qG (q_fa tb R (q_ldD (y := vI 212) tb R (q_asgD R (eN (sw_ret (block_ret (then_ret (then_ret (block_ret (then_ret ?_))))))))))))
  obtain rfl := sI h
  exact f1 4 R
 intro c6
 replace h := ifF c6 h
 refine eN (sw_condF R (sw_skip (block_norm (then_norm (sw_rg (q_add R (q_movD R (eN (swr_succ (qG ?_))))))))))
 refine r_lss R R R R ?_ ?_
 rotate_left
 ·intro c7; exact absurd c7 (by decide)
 intro _
 refine eN (sw_seq (sw_condT R (sw_skip (then_norm (sw_seq (sw_block (qG (r_ixG (3) (.agg [.d (vI 213), .fn (.func 88) [] [.ref 2 9 0 0, .ref 0 1 0 0]]) tb R R R R R R R R R R R (r_alloc tb R R R R R (q_stE _ _ tb R (eN (qG (q_fa tb R (r_ldT (.fn (.func 88) [] [.ref 2 9 0 0, .ref 0 1 0 0]) tb R R R R R R R R R ?_))))))))))))))
 obtain ⟨rv4, hrv4, h⟩ := bnd h
 refine r_callXF (t' := .d (.v (.bool rv4))) (news := []) (news' := []) (fi := []) (ca := [.ref 2 9 0 0, .ref 0 1 0 0]) (window_table_why_4_pc hrv4) R .nil (.of (by kernel_rfl)) R (.inr R) R ((.cons (.d (.ref R (.d _))) (.cons (.d (.ref R (.d _))) .nil))) R .nil R R R ?_
 simp only [List.map_nil, List.append_nil]
 with_reducible apply ev_lit
 ·intro c8
  replace h := ifP c8 h
  refine eN (sw_condT R (qG (q_fa tb R (q_ldD (y := vI 213) tb R (q_asgD R (eN (sw_ret (block_ret (then_ret (then_ret (block_ret (then_ret ?_))))))))))))
  obtain rfl := sI h
  exact f1 4 R
 intro c8
 replace h := ifF c8 h
 refine eN (sw_condF R (sw_skip (block_norm (then_norm (sw_rg (q_add R (q_movD R (eN (swr_succ (qG ?_))))))))))
 refine r_lss R R R R ?_ ?_
 rotate_left
 ·intro c9; exact absurd c9 (by decide)
 intro _
 refine eN (sw_seq (sw_condT R (sw_skip (then_norm (sw_seq (sw_block (qG (r_ixG (4) (.agg [.d (vI 214), .fn (.func 92) [] [.ref 0 1 0 0, .ref 2 9 0 0]]) tb R R R R R R R R R R R (r_alloc tb R R R R R (q_stE _ _ tb R (eN (qG (q_fa tb R (r_ldT (.fn (.func 92) [] [.ref 0 1 0 0, .ref 2 9 0 0]) tb R R R R R R R R R ?_))))))))))))))
 obtain ⟨rv5, hrv5, h⟩ := bnd h
 refine r_callXF (t' := .d (.v (.bool rv5))) (news := []) (news' := []) (fi := []) (ca := [.ref 0 1 0 0, .ref 2 9 0 0]) (window_table_why_5_pc hrv5) R .nil (.of (by kernel_rfl)) R (.inr R) R ((.cons (.d (.ref R (.d _))) (.cons (.d (.ref R (.d _))) .nil))) R .nil R R R ?_
 simp only [List.map_nil, List.append_nil]
 with_reducible apply ev_lit
 ·intro c10
  replace h := ifP c10 h
  refine eN (sw_condT R (qG (q_fa tb R (q_ldD (y := vI 214) tb R (q_asgD R (eN (sw_ret (block_ret (then_ret (then_ret (block_ret (then_ret ?_))))))))))))
  obtain rfl := sI h
  exact f1 4 R
 intro c10
 replace h := ifF c10 h
 refine eN (sw_condF R (sw_skip (block_norm (then_norm (sw_rg (q_add R (q_movD R (eN (swr_succ (qG ?_))))))))))
 refine r_lss R R R R ?_ ?_
 rotate_left
 ·intro c11; exact absurd c11 (by decide)
 intro _
 refine eN (sw_seq (sw_condT R (sw_skip (then_norm (sw_seq (sw_block (qG (r_ixG (5) (.agg [.d (vI 215), .fn (.func 93) [] [.ref 0 1 0 0, .ref 2 9 0 0]]) tb R R R R R R R R R R R (r_alloc tb R R R R R (q_stE _ _ tb R (eN (qG (q_fa tb R (r_ldT (.fn (.func 93) [] [.ref 0 1 0 0, .ref 2 9 0 0]) tb R R R R R R R R R ?_))))))))))))))
 obtain ⟨rv6, hrv6, h⟩ := bnd h
 refine r_callXF (t' := .d (.v (.bool rv6))) (news := []) (news' := []) (fi := []) (ca := [.ref 0 1 0 0, .ref 2 9 0 0]) (window_table_why_6_pc hrv6) R .nil (.of (by kernel_rfl)) R (.inr R) R ((.cons (.d (.ref R (.d _))) (.cons (.d (.ref R (.d _))) .nil))) R .nil R R R ?_
 simp only [List.map_nil, List.append_nil]
 with_reducible apply ev_lit
 ·intro c12
  replace h := ifP c12 h
  refine eN (sw_condT R (qG (q_fa tb R (q_ldD (y := vI 215) tb R (q_asgD R (eN (sw_ret (block_ret (then_ret (then_ret (block_ret (then_ret ?_))))))))))))
  obtain rfl := sI h
  exact f1 4 R
 intro c12
 replace h := ifF c12 h
 refine eN (sw_condF R (sw_skip (block_norm (then_norm (sw_rg (q_add R (q_movD R (eN (swr_succ (qG ?_))))))))))
 refine r_lss R R R R ?_ ?_
 ·intro c13; exact absurd c13 (by decide)
 intro _
 refine eN (sw_seq (sw_condF R (sw_exit (then_exit (then_exit (block_exit (then_norm (qG (q_asgD R (eN (sw_ret ?_)))))))))))
 obtain rfl := sI h
 exact f1 4 R
def slices_AppendSeq_int_n_window_table_entitled_1_L1 (F : Nat) (c : Table) (K : Int → (List Int) → Option (List Int)) : Nat → Int → (List Int) → Option (List Int)
 | 0, _, _ => none
 | n + 1, x3, lv => if x3 < (c.p_Teams.length : Int) then (if ((mget c.done x3).getD false) = true then (slices_AppendSeq_int_n_window_table_entitled_1_L1 F c K n (W (x3 + 1)) lv) else (Option.bind (window_table_why F c x3) fun rv => if rv = 0 then (Option.bind (appO lv [x3]) fun q => slices_AppendSeq_int_n_window_table_entitled_1_L1 F c K n (W (x3 + 1)) q) else (slices_AppendSeq_int_n_window_table_entitled_1_L1 F c K n (W (x3 + 1)) lv))) else (K x3 lv)
def slices_AppendSeq_int_n_window_table_entitled_1 (F : Nat) (c : Table) : Option (List Int) := slices_AppendSeq_int_n_window_table_entitled_1_L1 F c (fun (x3 : Int) (lv : (List Int)) => some lv) F 0 ([] : List Int)
theorem slices_AppendSeq_int_n_window_table_entitled_1_scr {F : Nat} {c : Table} {r : (List Int)} (h : slices_AppendSeq_int_n_window_table_entitled_1 F c = some r) : SCR Try.prog 108 [.d (.v (.slice none 0 0)), .fn (.func 104) [] [.d (.el 1 (([c]).map (fun x => D.el 22 [Table.d x] 0 0)) ((0 : Int)).toNat 0)]] [] (.row 0 1 0 (r).length) (List.map some [(lvI r)]) := by
 rw [slices_AppendSeq_int_n_window_table_entitled_1] at h
 refine SC.of_swm Try.func108 R R R ?_
 dsimp only [argS, List.map]
 refine swm_seq ?_
 refine swm_of fun df => ?_
 refine sw_rg (q_box R (q_asgD R (eN (swm_seq (swm_seq ?_)))))
 refine swm_of fun df => ?_
 refine sw_rg (r_movF R R R (eN (swm_block ?_)))
 refine swm_range (.of (by kernel_rfl)) Try.func104 R R R R R R fun lb => ?_
 simp only [argS, Nat.zero_add, Nat.reduceAdd]
 refine swj_seq (swj_rg (rgj_ev ?_))
 refine q_ldE (y := .el 22 (([c]).map Table.d) ((0 : Int)).toNat 0) tb (ix2 (g := (fun x => D.el 22 [Table.d x] 0 0)) (R : ixO [c] 0 = some c)) R ?_
 refine r_nilEl R R R (q_faE tb R (q_faE tb R (q_ldE (y := .arr 9 ((c.p_Teams).map WiTeam.d)) tb (ix2 (g := Table.d) (R : ixO [c] 0 = some c)) R (q_lenM tb R (q_movD R (ev_endJ (thenj_norm (swj_block ?_))))))))
 refine SWJ.own (ts' := [(0, .d (.v (.func (.yield lb) #[] #[]))), (1, .d (.el 1 (([c]).map (fun x => D.el 22 [Table.d x] 0 0)) ((0 : Int)).toNat 0)), (9, .d (vI (c.p_Teams.length : Int))), (10, .d (vI 0))]) (L' := [some ⟨1, [.row 1 1 0 (([] : List Int)).length]⟩]) 1 R R (.cons (.same _) (.cons (.same _) (.cons (.same _) (.cons (.same _) .nil)))) (.cons R (.cons .nil .nil) .nil) ?_
 simp only [List.cons_append, List.nil_append]
 obtain ⟨K4, hK4, h⟩ : ∃ K, K = _ ∧ slices_AppendSeq_int_n_window_table_entitled_1_L1 F c K F 0 ([] : List Int) = some r := ⟨_, rfl, h⟩
 refine swj_loopS (fun m ph st => ∃ (x3 : Int) (lv : (List Int)), slices_AppendSeq_int_n_window_table_entitled_1_L1 F c K4 m x3 lv = some r ∧ ph = SX.norm ∧ st = ⟨[(0, .d (.v (.func (.yield lb) #[] #[]))), (1, .d (.el 1 (([c]).map (fun x => D.el 22 [Table.d x] 0 0)) ((0 : Int)).toNat 0)), (9, .d (vI (c.p_Teams.length : Int))), (10, .d (vI x3))], [some ⟨1, [.row 1 1 0 (lv).length]⟩, some (lvI lv)]⟩) (.prn [0, 1, 9, 10] R) ⟨0, ([] : List Int), h, R, R⟩ ?_
 clear h
 rintro m4 ph st ⟨x3, lv, h, rfl, rfl⟩
 cases m4 with
 | zero => cases (show (none : Option (List Int)) = some r from h)
 | succ m4 =>
 rw [slices_AppendSeq_int_n_window_table_entitled_1_L1] at h
 refine swj_seq (swj_rg (rgj_ev ?_))
 refine r_lss R R R R ?_ ?_
 ·intro c2
  replace h := ifP c2 h
  refine ev_endJ (thenj_norm (swj_seq (swj_condT R (swj_skip (thenj_norm (swj_seq (swj_block (swj_seq (swj_rg (rgj_ev (q_movD R (q_asgD R (ev_endJ (thenj_norm (swj_seq (swj_rg (rgj_ev ?_)))))))))))))))))
  refine q_ldE (y := .el 22 (([c]).map Table.d) ((0 : Int)).toNat 0) tb (ix2 (g := (fun x => D.el 22 [Table.d x] 0 0)) (R : ixO [c] 0 = some c)) R ?_
  refine r_nilEl R R R (q_faE tb R ?_)
  refine q_ldE (y := .mp ((c.done).map fun p => .int .i64 p.1) ((c.done).map fun p => .v (.bool p.2))) tb (ix2 (g := Table.d) (R : ixO [c] 0 = some c)) R ?_
  refine q_movD R ?_
  refine r_lkD (vf := fun b => .v (.bool b)) (z0 := false) (u := .v (.bool ((mget c.done x3).getD false))) tb R R R R R R R R R ?_
  with_reducible apply ev_lit
  ·intro c3
   replace h := ifP c3 h
   refine r_notT R R R (q_movD R (q_sk 4 R (q_pickF R (q_movD R (q_sk 4 R (q_pickF R (ev_endJ (thenj_norm (swj_condF R (swj_skip (blockj_norm (thenj_norm (swj_rg (rgj_ev (q_add R (q_movD R (ev_endJ (thenj_norm ?_))))))))))))))))))
   exact ⟨m4, _, Nat.lt_succ_self _, .prn [0, 1, 9, 10] R, (W (x3 + 1)), lv, h, R, R⟩
  intro c3
  replace h := ifF c3 h
  refine r_notF R R R (q_movD R ?_)
  refine q_ldE (y := .el 22 (([c]).map Table.d) ((0 : Int)).toNat 0) tb (ix2 (g := (fun x => D.el 22 [Table.d x] 0 0)) (R : ixO [c] 0 = some c)) R ?_
  refine q_movD R ?_
  obtain ⟨rv, hrv, h⟩ := bnd h
  refine r_call (window_table_why_pc hrv) (.of (by kernel_rfl)) R R R R ?_
  refine r_eql R R R R ?_ ?_
  ·intro c4
   replace h := ifP c4 h
   refine q_pickT R (q_movD R (q_movD R (q_movD R (ev_yieldJ ?_))))
   (with_reducible apply rgj_yield (ys := [vI x3])); (iterate 7 exact rfl)
   dsimp only [parS]
   refine sw_rg (q_asgD R (ev_end ?_))
   refine ⟨R, swy_rd ?_⟩
   refine sw_block (sw_rg (r_ldW tb R R R R R R R R R (q_movD R (r_bslice tb R R R R R R R R R R R R R ?_))))
   obtain ⟨q, iq, h⟩ := bnd h
   refine r_apM (g := vI) (w := lv) (v := [x3]) ([some ⟨1, [.row 1 1 0 (lv).length]⟩, none, some (lvI [x3])]) tb R R R R R R R R R R R iq R R R R R (q_stE _ _ tb R (ev_end (block_norm ?_)))
   refine ⟨[some ⟨1, [.row 2 1 0 (q).length]⟩, none, some (lvI q)], [0, 1, 3], (vK (.cons R R (.gone R (.row R .nil))) R), ?_⟩
   with_reducible apply yk_norm
   refine rgj_ev (r_notT R R R (q_pickT R (ev_endJ (thenj_norm (swj_condF R (swj_skip (blockj_norm (thenj_norm (swj_rg (rgj_ev (q_add R (q_movD R (ev_endJ (thenj_norm ?_))))))))))))))
   exact ⟨m4, ⟨[(0, .d (.v (.func (.yield lb) #[] #[]))), (1, .d (.el 1 (([c]).map (fun x => D.el 22 [Table.d x] 0 0)) ((0 : Int)).toNat 0)), (9, .d (vI (c.p_Teams.length : Int))), (10, .d (vI (W (x3 + 1))))], [some ⟨1, [.row 1 1 0 (q).length]⟩, some (lvI q)]⟩, Nat.lt_succ_self _, .vw (κ := [0, 2]) (vK (.cons R R (.row R .nil)) R), (W (x3 + 1)), q, h, R, R⟩
  intro c4
  replace h := ifN c4 h
  refine q_pickT R (q_movD R (q_sk 4 R (q_pickF R (ev_endJ (thenj_norm (swj_condF R (swj_skip (blockj_norm (thenj_norm (swj_rg (rgj_ev (q_add R (q_movD R (ev_endJ (thenj_norm ?_)))))))))))))))
  exact ⟨m4, _, Nat.lt_succ_self _, .prn [0, 1, 9, 10] R, (W (x3 + 1)), lv, h, R, R⟩
 intro c2
 replace h := ifN (Int.not_lt.2 c2) h
 refine ev_endJ (thenj_norm (swj_seq (swj_condF R (swj_exit (thenj_exit (thenj_exit ?_))))))
 subst hK4
 refine blockj_exit ?_
 refine ⟨R, [some ⟨1, [.row 1 1 0 (lv).length]⟩, some (lvI lv)], [0, 1], (vK (.cons R R (.row R .nil)) R), ?_⟩
 refine block_norm (then_norm ?_)
 refine swm_of fun df => ?_
 refine qG (r_ldW tb R R R R R R R R R (r_asgW R R R (eN (sw_ret ?_))))
 obtain rfl := sI h
 exact f2 [1] (.row R .nil) R (.cons (.tmp 4) .nil) R
def slices_insertionSortCmpFunc_int_m_window_table_order_L1 (F : Nat) (a : Int) (t : Table) (K : (List Int) → Int → Option (List Int)) : Nat → (List Int) → Int → Option (List Int)
 | 0, _, _ => none
 | n + 1, data3, j => if a < j then (Option.bind (ixO data3 j) fun e => Option.bind (ixO data3 (W (j - 1))) fun e2 => Option.bind (window_table_order F t e e2) fun rv => if rv < 0 then (Option.bind (setO data3 j e2) fun data4 => Option.bind (ixO data4 (W (j - 1))) fun e3 => Option.bind (setO data4 (W (j - 1)) e) fun data5 => slices_insertionSortCmpFunc_int_m_window_table_order_L1 F a t K n data5 (W (j - 1))) else (K data3 j)) else (K data3 j)
def slices_insertionSortCmpFunc_int_m_window_table_order_L2 (F : Nat) (a : Int) (b : Int) (t : Table) (K : (List Int) → Int → Option (List Int)) : Nat → (List Int) → Int → Option (List Int)
 | 0, _, _ => none
 | n + 1, data2, i => if i < b then (slices_insertionSortCmpFunc_int_m_window_table_order_L1 F a t (fun (data3 : (List Int)) (j : Int) => slices_insertionSortCmpFunc_int_m_window_table_order_L2 F a b t K n data3 (W (i + 1))) F data2 i) else (K data2 i)
def slices_insertionSortCmpFunc_int_m_window_table_order (F : Nat) (data : (List Int)) (a : Int) (b : Int) (t : Table) : Option (List Int) := slices_insertionSortCmpFunc_int_m_window_table_order_L2 F a b t (fun (data2 : (List Int)) (i : Int) => some data2) F data (W (a + 1))
theorem slices_insertionSortCmpFunc_int_m_window_table_order_scr {F : Nat} {data : (List Int)} {a : Int} {b : Int} {t : Table} {r : (List Int)} (h : slices_insertionSortCmpFunc_int_m_window_table_order F data a b t = some r) : SCR Try.prog 111 [.row 0 1 0 (data).length, .d (.v (.int .i64 a)), .d (.v (.int .i64 b)), .fn (.func 82) [.d (.el 22 (([t]).map Table.d) ((0 : Int)).toNat 0)] []] [some (lvI data)] (.d (.tup [])) [some (lvI r)] := by
 rw [slices_insertionSortCmpFunc_int_m_window_table_order] at h
 refine SC.of_sw Try.func111 R R R ?_
 dsimp only [argS, List.map]
 refine qG (q_movD R (q_add R (q_asgD R (eN (sw_block ?_)))))
 obtain ⟨K4, hK4, h⟩ : ∃ K, K = _ ∧ slices_insertionSortCmpFunc_int_m_window_table_order_L2 F a b t K F data (W (a + 1)) = some r := ⟨_, rfl, h⟩
 refine sw_loopS (fun m st => ∃ (data2 : (List Int)) (i : Int), slices_insertionSortCmpFunc_int_m_window_table_order_L2 F a b t K4 m data2 i = some r ∧ st = ⟨[(0, .row 0 1 0 (data2).length), (1, .d (vI a)), (2, .d (vI b)), (3, .fn (.func 82) [.d (.el 22 (([t]).map Table.d) ((0 : Int)).toNat 0)] []), (8, .d (vI i))], [some (lvI data2)]⟩) (.prn [0, 1, 2, 3, 8] R) ⟨data, (W (a + 1)), h, R⟩ ?_
 clear h
 rintro m4 st ⟨data2, i, h, rfl⟩
 cases m4 with
 | zero => cases (show (none : Option (List Int)) = some r from h)
 | succ m4 =>
 rw [slices_insertionSortCmpFunc_int_m_window_table_order_L2] at h
 refine sw_seq (qG (q_movD R (q_movD R ?_)))
 refine r_lss R R R R ?_ ?_
 ·intro c
  replace h := ifP c h
  refine eN (sw_condT R (sw_skip (then_norm (sw_seq (sw_block (qG (q_movD R (q_asgD R (eN (sw_block ?_))))))))))
  obtain ⟨K5, hK5, h⟩ : ∃ K, K = _ ∧ slices_insertionSortCmpFunc_int_m_window_table_order_L1 F a t K F data2 i = some r := ⟨_, rfl, h⟩
  refine sw_loopS (fun m st => ∃ (data3 : (List Int)) (j : Int), slices_insertionSortCmpFunc_int_m_window_table_order_L1 F a t K5 m data3 j = some r ∧ st = ⟨[(0, .row 0 1 0 (data3).length), (1, .d (vI a)), (2, .d (vI b)), (3, .fn (.func 82) [.d (.el 22 (([t]).map Table.d) ((0 : Int)).toNat 0)] []), (8, .d (vI i)), (9, .d (vI j))], [some (lvI data3)]⟩) (.prn [0, 1, 2, 3, 8, 9] R) ⟨data2, i, h, R⟩ ?_
  clear h
  rintro m5 st ⟨data3, j, h, rfl⟩
  cases m5 with
  | zero => cases (show (none : Option (List Int)) = some r from h)
  | succ m5 =>
  rw [slices_insertionSortCmpFunc_int_m_window_table_order_L1] at h
  refine sw_seq (sw_seq (sw_dr (by kernel_rfl) (q_movD R (q_movD R ?_))))
  refine r_gtr R R R R ?_ ?_
  ·intro c2
   replace h := ifP c2 h
   refine q_movD R (r_movF R R R (r_movW R R R (q_movD R ?_)))
   obtain ⟨e, ie, h⟩ := bnd h
   refine r_ixI tb R R R R R R (ix0 ie) (ix1 ie) R R ?_
   refine r_ldD (y := vI e) tb R R R R (ix2 (g := fun a => T.d (vI a)) ie) R R R R ?_
   refine r_movW R R R (q_movD R (r_sub R R R R ?_))
   obtain ⟨e2, ie2, h⟩ := bnd h
   refine r_ixI tb R R R R R R (ix0 ie2) (ix1 ie2) R R ?_
   refine r_ldD (y := vI e2) tb R R R R (ix2 (g := fun a => T.d (vI a)) ie2) R R R R ?_
   obtain ⟨rv, hrv, h⟩ := bnd h
   refine r_callXF (t' := .d (vI rv)) (news := []) (news' := []) (fi := [.d (.el 22 (([t]).map Table.d) ((0 : Int)).toNat 0)]) (ca := []) (window_table_order_pc hrv) R .nil (.of (by kernel_rfl)) R (.inr R) R ((.cons (.d (.d _)) (.cons (.d (.d _)) (.cons (.d (.d _)) .nil)))) R .nil R R R ?_
   simp only [List.map_nil, List.append_nil]
   refine r_lss R R R R ?_ ?_
   ·intro c3
    replace h := ifP c3 h
    refine q_pickT R (ev_endD (by kernel_rfl) (then_norm (sw_condT R (sw_skip (then_norm (sw_seq (sw_block (sw_dr (by kernel_rfl) (r_movW R R R (q_movD R (r_movW R R R (q_movD R (r_sub R R R R (r_movW R R R (q_movD R (r_sub R R R R (r_ixI tb R R R R R R (ix0 ie2) (ix1 ie2) R R ?_)))))))))))))))))
    refine r_ldD (y := vI e2) tb R R R R (ix2 (g := fun a => T.d (vI a)) ie2) R R R R ?_
    refine r_movW R R R (q_movD R (r_ixI tb R R R R R R (ix0 ie) (ix1 ie) R R ?_))
    refine r_ldD (y := vI e) tb R R R R (ix2 (g := fun a => T.d (vI a)) ie) R R R R ?_
    refine r_ixI tb R R R R R R (ix0 ie) (ix1 ie) R R ?_
    obtain ⟨data4, idata4, h⟩ := bnd h
    refine r_stQ (a' := (e2 : Int)) tb R R R R ie R R R R idata4 R R ?_
    dsimp only [List.set_cons_zero, List.set_cons_succ]
    first | rw [set_len idata4] | skip
    obtain ⟨e3, ie3, h⟩ := bnd h
    refine r_ixI tb R R R R R R (ix0 ie3) (ix1 ie3) R R ?_
    obtain ⟨data5, idata5, h⟩ := bnd h
    refine r_stQ (a' := (e : Int)) tb R R R R ie3 R R R R idata5 R R ?_
    dsimp only [List.set_cons_zero, List.set_cons_succ]
    first | rw [set_len idata5] | skip
    refine ev_endD (by kernel_rfl) (block_norm (then_norm (sw_rg (q_movD R (r_sub R R R R (q_asgD R (eN ?_)))))))
    exact ⟨m5, _, Nat.lt_succ_self _, .prn [0, 1, 2, 3, 8, 9] R, data5, (W (j - 1)), h, R⟩
   intro c3
   replace h := ifN (Int.not_lt.2 c3) h
   refine q_pickT R (ev_endD (by kernel_rfl) (then_norm (sw_condF R (sw_exit (then_exit (then_exit ?_))))))
   subst hK5
   refine block_exit (block_norm (then_norm (sw_rg (q_movD R (q_add R (q_asgD R (eN ?_)))))))
   exact ⟨m4, _, Nat.lt_succ_self _, .prn [0, 1, 2, 3, 8] R, data3, (W (i + 1)), h, R⟩
  intro c2
  replace h := ifN (Int.not_lt.2 c2) h
  refine q_movD R (q_sk 12 R (q_pickF R (ev_endD (by kernel_rfl) (then_norm (sw_condF R (sw_exit (then_exit (then_exit ?_))))))))
  subst hK5
  refine block_exit (block_norm (then_norm (sw_rg (q_movD R (q_add R (q_asgD R (eN ?_)))))))
  exact ⟨m4, _, Nat.lt_succ_self _, .prn [0, 1, 2, 3, 8] R, data3, (W (i + 1)), h, R⟩
 intro c
 replace h := ifN (Int.not_lt.2 c) h
 refine eN (sw_condF R (sw_exit (then_exit (then_exit ?_))))
 subst hK4
 refine block_exit ?_
 obtain rfl := sI h
 exact fin_n (fin_S (t := .d (.tup [])) (L := [some (lvI data2)]) (κ := [0]) R .nil (vK (.row R .nil) R) ⟨R, R⟩)
def math_bits_Len64 (F : Nat) (x : Int) : Option Int := if 4294967296 ≤ x then (if 65536 ≤ (ishr .u64 x 32) then (if 256 ≤ (ishr .u64 (ishr .u64 x 32) 16) then (Option.bind (ixB (ByteArray.mk #[0, 1, 2, 2, 3, 3, 3, 3, 4, 4, 4, 4, 4, 4, 4, 4, 5, 5, 5, 5, 5, 5, 5, 5, 5, 5, 5, 5, 5, 5, 5, 5, 6, 6, 6, 6, 6, 6, 6, 6, 6, 6, 6, 6, 6, 6, 6, 6, 6, 6, 6, 6, 6, 6, 6, 6, 6, 6, 6, 6, 6, 6, 6, 6, 7, 7, 7, 7, 7, 7, 7, 7, 7, 7, 7, 7, 7, 7, 7, 7, 7, 7, 7, 7, 7, 7, 7, 7, 7, 7, 7, 7, 7, 7, 7, 7, 7, 7, 7, 7, 7, 7, 7, 7, 7, 7, 7, 7, 7, 7, 7, 7, 7, 7, 7, 7, 7, 7, 7, 7, 7, 7, 7, 7, 7, 7, 7, 7, 8, 8, 8, 8, 8, 8, 8, 8, 8, 8, 8, 8, 8, 8, 8, 8, 8, 8, 8, 8, 8, 8, 8, 8, 8, 8, 8, 8, 8, 8, 8, 8, 8, 8, 8, 8, 8, 8, 8, 8, 8, 8, 8, 8, 8, 8, 8, 8, 8, 8, 8, 8, 8, 8, 8, 8, 8, 8, 8, 8, 8, 8, 8, 8, 8, 8, 8, 8, 8, 8, 8, 8, 8, 8, 8, 8, 8, 8, 8, 8, 8, 8, 8, 8, 8, 8, 8, 8, 8, 8, 8, 8, 8, 8, 8, 8, 8, 8, 8, 8, 8, 8, 8, 8, 8, 8, 8, 8, 8, 8, 8, 8, 8, 8, 8, 8, 8, 8, 8, 8, 8, 8, 8, 8, 8, 8, 8, 8]) (W8 (ishr .u64 (ishr .u64 (ishr .u64 x 32) 16) 8))) fun b => some (W ((W ((W (32 + 16)) + 8)) + (W b)))) else (Option.bind (ixB (ByteArray.mk #[0, 1, 2, 2, 3, 3, 3, 3, 4, 4, 4, 4, 4, 4, 4, 4, 5, 5, 5, 5, 5, 5, 5, 5, 5, 5, 5, 5, 5, 5, 5, 5, 6, 6, 6, 6, 6, 6, 6, 6, 6, 6, 6, 6, 6, 6, 6, 6, 6, 6, 6, 6, 6, 6, 6, 6, 6, 6, 6, 6, 6, 6, 6, 6, 7, 7, 7, 7, 7, 7, 7, 7, 7, 7, 7, 7, 7, 7, 7, 7, 7, 7, 7, 7, 7, 7, 7, 7, 7, 7, 7, 7, 7, 7, 7, 7, 7, 7, 7, 7, 7, 7, 7, 7, 7, 7, 7, 7, 7, 7, 7, 7, 7, 7, 7, 7, 7, 7, 7, 7, 7, 7, 7, 7, 7, 7, 7, 7, 8, 8, 8, 8, 8, 8, 8, 8, 8, 8, 8, 8, 8, 8, 8, 8, 8, 8, 8, 8, 8, 8, 8, 8, 8, 8, 8, 8, 8, 8, 8, 8, 8, 8, 8, 8, 8, 8, 8, 8, 8, 8, 8, 8, 8, 8, 8, 8, 8, 8, 8, 8, 8, 8, 8, 8, 8, 8, 8, 8, 8, 8, 8, 8, 8, 8, 8, 8, 8, 8, 8, 8, 8, 8, 8, 8, 8, 8, 8, 8, 8, 8, 8, 8, 8, 8, 8, 8, 8, 8, 8, 8, 8, 8, 8, 8, 8, 8, 8, 8, 8, 8, 8, 8, 8, 8, 8, 8, 8, 8, 8, 8, 8, 8, 8, 8, 8, 8, 8, 8, 8, 8, 8, 8, 8, 8, 8, 8]) (W8 (ishr .u64 (ishr .u64 x 32) 16))) fun b2 => some (W ((W (32 + 16)) + (W b2))))) else (if 256 ≤ (ishr .u64 x 32) then (Option.bind (ixB (ByteArray.mk #[0, 1, 2, 2, 3, 3, 3, 3, 4, 4, 4, 4, 4, 4, 4, 4, 5, 5, 5, 5, 5, 5, 5, 5, 5, 5, 5, 5, 5, 5, 5, 5, 6, 6, 6, 6, 6, 6, 6, 6, 6, 6, 6, 6, 6, 6, 6, 6, 6, 6, 6, 6, 6, 6, 6, 6, 6, 6, 6, 6, 6, 6, 6, 6, 7, 7, 7, 7, 7, 7, 7, 7, 7, 7, 7, 7, 7, 7, 7, 7, 7, 7, 7, 7, 7, 7, 7, 7, 7, 7, 7, 7, 7, 7, 7, 7, 7, 7, 7, 7, 7, 7, 7, 7, 7, 7, 7, 7, 7, 7, 7, 7, 7, 7, 7, 7, 7, 7, 7, 7, 7, 7, 7, 7, 7, 7, 7, 7, 8, 8, 8, 8, 8, 8, 8, 8, 8, 8, 8, 8, 8, 8, 8, 8, 8, 8, 8, 8, 8, 8, 8, 8, 8, 8, 8, 8, 8, 8, 8, 8, 8, 8, 8, 8, 8, 8, 8, 8, 8, 8, 8, 8, 8, 8, 8, 8, 8, 8, 8, 8, 8, 8, 8, 8, 8, 8, 8, 8, 8, 8, 8, 8, 8, 8, 8, 8, 8, 8, 8, 8, 8, 8, 8, 8, 8, 8, 8, 8, 8, 8, 8, 8, 8, 8, 8, 8, 8, 8, 8, 8, 8, 8, 8, 8, 8, 8, 8, 8, 8, 8, 8, 8, 8, 8, 8, 8, 8, 8, 8, 8, 8, 8, 8, 8, 8, 8, 8, 8, 8, 8, 8, 8, 8, 8, 8, 8]) (W8 (ishr .u64 (ishr .u64 x 32) 8))) fun b3 => some (W ((W (32 + 8)) + (W b3)))) else (Option.bind (ixB (ByteArray.mk #[0, 1, 2, 2, 3, 3, 3, 3, 4, 4, 4, 4, 4, 4, 4, 4, 5, 5, 5, 5, 5, 5, 5, 5, 5, 5, 5, 5, 5, 5, 5, 5, 6, 6, 6, 6, 6, 6, 6, 6, 6, 6, 6, 6, 6, 6, 6, 6, 6, 6, 6, 6, 6, 6, 6, 6, 6, 6, 6, 6, 6, 6, 6, 6, 7, 7, 7, 7, 7, 7, 7, 7, 7, 7, 7, 7, 7, 7, 7, 7, 7, 7, 7, 7, 7, 7, 7, 7, 7, 7, 7, 7, 7, 7, 7, 7, 7, 7, 7, 7, 7, 7, 7, 7, 7, 7, 7, 7, 7, 7, 7, 7, 7, 7, 7, 7, 7, 7, 7, 7, 7, 7, 7, 7, 7, 7, 7, 7, 8, 8, 8, 8, 8, 8, 8, 8, 8, 8, 8, 8, 8, 8, 8, 8, 8, 8, 8, 8, 8, 8, 8, 8, 8, 8, 8, 8, 8, 8, 8, 8, 8, 8, 8, 8, 8, 8, 8, 8, 8, 8, 8, 8, 8, 8, 8, 8, 8, 8, 8, 8, 8, 8, 8, 8, 8, 8, 8, 8, 8, 8, 8, 8, 8, 8, 8, 8, 8, 8, 8, 8, 8, 8, 8, 8, 8, 8, 8, 8, 8, 8, 8, 8, 8, 8, 8, 8, 8, 8, 8, 8, 8, 8, 8, 8, 8, 8, 8, 8, 8, 8, 8, 8, 8, 8, 8, 8, 8, 8, 8, 8, 8, 8, 8, 8, 8, 8, 8, 8, 8, 8, 8, 8, 8, 8, 8, 8]) (W8 (ishr .u64 x 32))) fun b4 => some (W (32 + (W b4)))))) else (if 65536 ≤ x then (if 256 ≤ (ishr .u64 x 16) then (Option.bind (ixB (ByteArray.mk #[0, 1, 2, 2, 3, 3, 3, 3, 4, 4, 4, 4, 4, 4, 4, 4, 5, 5, 5, 5, 5, 5, 5, 5, 5, 5, 5, 5, 5, 5, 5, 5, 6, 6, 6, 6, 6, 6, 6, 6, 6, 6, 6, 6, 6, 6, 6, 6, 6, 6, 6, 6, 6, 6, 6, 6, 6, 6, 6, 6, 6, 6, 6, 6, 7, 7, 7, 7, 7, 7, 7, 7, 7, 7, 7, 7, 7, 7, 7, 7, 7, 7, 7, 7, 7, 7, 7, 7, 7, 7, 7, 7, 7, 7, 7, 7, 7, 7, 7, 7, 7, 7, 7, 7, 7, 7, 7, 7, 7, 7, 7, 7, 7, 7, 7, 7, 7, 7, 7, 7, 7, 7, 7, 7, 7, 7, 7, 7, 8, 8, 8, 8, 8, 8, 8, 8, 8, 8, 8, 8, 8, 8, 8, 8, 8, 8, 8, 8, 8, 8, 8, 8, 8, 8, 8, 8, 8, 8, 8, 8, 8, 8, 8, 8, 8, 8, 8, 8, 8, 8, 8, 8, 8, 8, 8, 8, 8, 8, 8, 8, 8, 8, 8, 8, 8, 8, 8, 8, 8, 8, 8, 8, 8, 8, 8, 8, 8, 8, 8, 8, 8, 8, 8, 8, 8, 8, 8, 8, 8, 8, 8, 8, 8, 8, 8, 8, 8, 8, 8, 8, 8, 8, 8, 8, 8, 8, 8, 8, 8, 8, 8, 8, 8, 8, 8, 8, 8, 8, 8, 8, 8, 8, 8, 8, 8, 8, 8, 8, 8, 8, 8, 8, 8, 8, 8, 8]) (W8 (ishr .u64 (ishr .u64 x 16) 8))) fun b5 => some (W ((W ((W (0 + 16)) + 8)) + (W b5)))) else (Option.bind (ixB (ByteArray.mk #[0, 1, 2, 2, 3, 3, 3, 3, 4, 4, 4, 4, 4, 4, 4, 4, 5, 5, 5, 5, 5, 5, 5, 5, 5, 5, 5, 5, 5, 5, 5, 5, 6, 6, 6, 6, 6, 6, 6, 6, 6, 6, 6, 6, 6, 6, 6, 6, 6, 6, 6, 6, 6, 6, 6, 6, 6, 6, 6, 6, 6, 6, 6, 6, 7, 7, 7, 7, 7, 7, 7, 7, 7, 7, 7, 7, 7, 7, 7, 7, 7, 7, 7, 7, 7, 7, 7, 7, 7, 7, 7, 7, 7, 7, 7, 7, 7, 7, 7, 7, 7, 7, 7, 7, 7, 7, 7, 7, 7, 7, 7, 7, 7, 7, 7, 7, 7, 7, 7, 7, 7, 7, 7, 7, 7, 7, 7, 7, 8, 8, 8, 8, 8, 8, 8, 8, 8, 8, 8, 8, 8, 8, 8, 8, 8, 8, 8, 8, 8, 8, 8, 8, 8, 8, 8, 8, 8, 8, 8, 8, 8, 8, 8, 8, 8, 8, 8, 8, 8, 8, 8, 8, 8, 8, 8, 8, 8, 8, 8, 8, 8, 8, 8, 8, 8, 8, 8, 8, 8, 8, 8, 8, 8, 8, 8, 8, 8, 8, 8, 8, 8, 8, 8, 8, 8, 8, 8, 8, 8, 8, 8, 8, 8, 8, 8, 8, 8, 8, 8, 8, 8, 8, 8, 8, 8, 8, 8, 8, 8, 8, 8, 8, 8, 8, 8, 8, 8, 8, 8, 8, 8, 8, 8, 8, 8, 8, 8, 8, 8, 8, 8, 8, 8, 8, 8, 8]) (W8 (ishr .u64 x 16))) fun b6 => some (W ((W (0 + 16)) + (W b6))))) else (if 256 ≤ x then (Option.bind (ixB (ByteArray.mk #[0, 1, 2, 2, 3, 3, 3, 3, 4, 4, 4, 4, 4, 4, 4, 4, 5, 5, 5, 5, 5, 5, 5, 5, 5, 5, 5, 5, 5, 5, 5, 5, 6, 6, 6, 6, 6, 6, 6, 6, 6, 6, 6, 6, 6, 6, 6, 6, 6, 6, 6, 6, 6, 6, 6, 6, 6, 6, 6, 6, 6, 6, 6, 6, 7, 7, 7, 7, 7, 7, 7, 7, 7, 7, 7, 7, 7, 7, 7, 7, 7, 7, 7, 7, 7, 7, 7, 7, 7, 7, 7, 7, 7, 7, 7, 7, 7, 7, 7, 7, 7, 7, 7, 7, 7, 7, 7, 7, 7, 7, 7, 7, 7, 7, 7, 7, 7, 7, 7, 7, 7, 7, 7, 7, 7, 7, 7, 7, 8, 8, 8, 8, 8, 8, 8, 8, 8, 8, 8, 8, 8, 8, 8, 8, 8, 8, 8, 8, 8, 8, 8, 8, 8, 8, 8, 8, 8, 8, 8, 8, 8, 8, 8, 8, 8, 8, 8, 8, 8, 8, 8, 8, 8, 8, 8, 8, 8, 8, 8, 8, 8, 8, 8, 8, 8, 8, 8, 8, 8, 8, 8, 8, 8, 8, 8, 8, 8, 8, 8, 8, 8, 8, 8, 8, 8, 8, 8, 8, 8, 8, 8, 8, 8, 8, 8, 8, 8, 8, 8, 8, 8, 8, 8, 8, 8, 8, 8, 8, 8, 8, 8, 8, 8, 8, 8, 8, 8, 8, 8, 8, 8, 8, 8, 8, 8, 8, 8, 8, 8, 8, 8, 8, 8, 8, 8, 8]) (W8 (ishr .u64 x 8))) fun b7 => some (W ((W (0 + 8)) + (W b7)))) else (Option.bind (ixB (ByteArray.mk #[0, 1, 2, 2, 3, 3, 3, 3, 4, 4, 4, 4, 4, 4, 4, 4, 5, 5, 5, 5, 5, 5, 5, 5, 5, 5, 5, 5, 5, 5, 5, 5, 6, 6, 6, 6, 6, 6, 6, 6, 6, 6, 6, 6, 6, 6, 6, 6, 6, 6, 6, 6, 6, 6, 6, 6, 6, 6, 6, 6, 6, 6, 6, 6, 7, 7, 7, 7, 7, 7, 7, 7, 7, 7, 7, 7, 7, 7, 7, 7, 7, 7, 7, 7, 7, 7, 7, 7, 7, 7, 7, 7, 7, 7, 7, 7, 7, 7, 7, 7, 7, 7, 7, 7, 7, 7, 7, 7, 7, 7, 7, 7, 7, 7, 7, 7, 7, 7, 7, 7, 7, 7, 7, 7, 7, 7, 7, 7, 8, 8, 8, 8, 8, 8, 8, 8, 8, 8, 8, 8, 8, 8, 8, 8, 8, 8, 8, 8, 8, 8, 8, 8, 8, 8, 8, 8, 8, 8, 8, 8, 8, 8, 8, 8, 8, 8, 8, 8, 8, 8, 8, 8, 8, 8, 8, 8, 8, 8, 8, 8, 8, 8, 8, 8, 8, 8, 8, 8, 8, 8, 8, 8, 8, 8, 8, 8, 8, 8, 8, 8, 8, 8, 8, 8, 8, 8, 8, 8, 8, 8, 8, 8, 8, 8, 8, 8, 8, 8, 8, 8, 8, 8, 8, 8, 8, 8, 8, 8, 8, 8, 8, 8, 8, 8, 8, 8, 8, 8, 8, 8, 8, 8, 8, 8, 8, 8, 8, 8, 8, 8, 8, 8, 8, 8, 8, 8]) (W8 x)) fun b8 => some (W (0 + (W b8))))))
theorem math_bits_Len64_pc {F : Nat} {x : Int} {r : Int} (h : math_bits_Len64 F x = some r) : PC Try.prog 120 [.v (.int .u64 x)] (.v (.int .i64 r)) := by
 rw [math_bits_Len64] at h
 refine SC.of_sw Try.func120 R R R ?_
 dsimp only [argS, List.map]
 refine qG (q_asgD R (eN (sw_seq (qG (q_movD R ?_)))))
 refine r_geq R R R R ?_ ?_
 ·intro c
  replace h := ifP c h
  refine eN (sw_condT R (qG (q_movD R (r_shr R R (by decide) R R (q_asgD R (eN (sw_rg (q_asgD R (eN (sw_seq (qG (q_movD R ?_))))))))))))
  refine r_geq R R R R ?_ ?_
  ·intro c2
   replace h := ifP c2 h
   refine eN (sw_condT R (qG (q_movD R (r_shr R R (by decide) R R (q_asgD R (eN (sw_rg (q_movD R (q_add R (q_asgD R (eN (sw_seq (qG (q_movD R ?_))))))))))))))
   refine r_geq R R R R ?_ ?_
   ·intro c3
    replace h := ifP c3 h
    refine eN (sw_condT R (qG (q_movD R (r_shr R R (by decide) R R (q_asgD R (eN (sw_rg (q_movD R (q_add R (q_asgD R (eN (qG (q_movD R (q_movD R (r_cvI (k2 := .u8) R R R R R R ?_)))))))))))))))
    obtain ⟨b, ib, h⟩ := bnd h
    refine r_ixB R R R ib R R (r_cvI (k2 := .i64) R R R R R R (q_add R (q_asgD R (eN (sw_ret ?_)))))
    obtain rfl := sI h
    exact f1 2 R
   intro c3
   replace h := ifN (Int.not_le.2 c3) h
   refine eN (sw_condF R (sw_skip (then_norm (qG (q_movD R (q_movD R (r_cvI (k2 := .u8) R R R R R R ?_)))))))
   obtain ⟨b2, ib2, h⟩ := bnd h
   refine r_ixB R R R ib2 R R (r_cvI (k2 := .i64) R R R R R R (q_add R (q_asgD R (eN (sw_ret ?_)))))
   obtain rfl := sI h
   exact f1 2 R
  intro c2
  replace h := ifN (Int.not_le.2 c2) h
  refine eN (sw_condF R (sw_skip (then_norm (sw_seq (qG (q_movD R ?_))))))
  refine r_geq R R R R ?_ ?_
  ·intro c4
   replace h := ifP c4 h
   refine eN (sw_condT R (qG (q_movD R (r_shr R R (by decide) R R (q_asgD R (eN (sw_rg (q_movD R (q_add R (q_asgD R (eN (qG (q_movD R (q_movD R (r_cvI (k2 := .u8) R R R R R R ?_)))))))))))))))
   obtain ⟨b3, ib3, h⟩ := bnd h
   refine r_ixB R R R ib3 R R (r_cvI (k2 := .i64) R R R R R R (q_add R (q_asgD R (eN (sw_ret ?_)))))
   obtain rfl := sI h
   exact f1 2 R
  intro c4
  replace h := ifN (Int.not_le.2 c4) h
  refine eN (sw_condF R (sw_skip (then_norm (qG (q_movD R (q_movD R (r_cvI (k2 := .u8) R R R R R R ?_)))))))
  obtain ⟨b4, ib4, h⟩ := bnd h
  refine r_ixB R R R ib4 R R (r_cvI (k2 := .i64) R R R R R R (q_add R (q_asgD R (eN (sw_ret ?_)))))
  obtain rfl := sI h
  exact f1 2 R
 intro c
 replace h := ifN (Int.not_le.2 c) h
 refine eN (sw_condF R (sw_skip (then_norm (sw_seq (qG (q_movD R ?_))))))
 refine r_geq R R R R ?_ ?_
 ·intro c5
  replace h := ifP c5 h
  refine eN (sw_condT R (qG (q_movD R (r_shr R R (by decide) R R (q_asgD R (eN (sw_rg (q_movD R (q_add R (q_asgD R (eN (sw_seq (qG (q_movD R ?_))))))))))))))
  refine r_geq R R R R ?_ ?_
  ·intro c6
   replace h := ifP c6 h
   refine eN (sw_condT R (qG (q_movD R (r_shr R R (by decide) R R (q_asgD R (eN (sw_rg (q_movD R (q_add R (q_asgD R (eN (qG (q_movD R (q_movD R (r_cvI (k2 := .u8) R R R R R R ?_)))))))))))))))
   obtain ⟨b5, ib5, h⟩ := bnd h
   refine r_ixB R R R ib5 R R (r_cvI (k2 := .i64) R R R R R R (q_add R (q_asgD R (eN (sw_ret ?_)))))
   obtain rfl := sI h
   exact f1 2 R
  intro c6
  replace h := ifN (Int.not_le.2 c6) h
  refine eN (sw_condF R (sw_skip (then_norm (qG (q_movD R (q_movD R (r_cvI (k2 := .u8) R R R R R R ?_)))))))
  obtain ⟨b6, ib6, h⟩ := bnd h
  refine r_ixB R R R ib6 R R (r_cvI (k2 := .i64) R R R R R R (q_add R (q_asgD R (eN (sw_ret ?_)))))
  obtain rfl := sI h
  exact f1 2 R
 intro c5
 replace h := ifN (Int.not_le.2 c5) h
 refine eN (sw_condF R (sw_skip (then_norm (sw_seq (qG (q_movD R ?_))))))
 refine r_geq R R R R ?_ ?_
 ·intro c7
  replace h := ifP c7 h
  refine eN (sw_condT R (qG (q_movD R (r_shr R R (by decide) R R (q_asgD R (eN (sw_rg (q_movD R (q_add R (q_asgD R (eN (qG (q_movD R (q_movD R (r_cvI (k2 := .u8) R R R R R R ?_)))))))))))))))
  obtain ⟨b7, ib7, h⟩ := bnd h
  refine r_ixB R R R ib7 R R (r_cvI (k2 := .i64) R R R R R R (q_add R (q_asgD R (eN (sw_ret ?_)))))
  obtain rfl := sI h
  exact f1 2 R
 intro c7
 replace h := ifN (Int.not_le.2 c7) h
 refine eN (sw_condF R (sw_skip (then_norm (qG (q_movD R (q_movD R (r_cvI (k2 := .u8) R R R R R R ?_)))))))
 obtain ⟨b8, ib8, h⟩ := bnd h
 refine r_ixB R R R ib8 R R (r_cvI (k2 := .i64) R R R R R R (q_add R (q_asgD R (eN (sw_ret ?_)))))
 obtain rfl := sI h
 exact f1 2 R
def math_bits_Len (F : Nat) (x : Int) : Option Int := Option.bind (math_bits_Len64 F x) fun rv => some rv
theorem math_bits_Len_pc {F : Nat} {x : Int} {r : Int} (h : math_bits_Len F x = some r) : PC Try.prog 110 [.v (.int .u64 x)] (.v (.int .i64 r)) := by
 rw [math_bits_Len] at h
 refine SC.of_sw Try.func110 R R R ?_
 dsimp only [argS, List.map]
 refine qG (q_asgD R (eN (sw_seq (sw_condF R (sw_skip (then_norm (qG (q_movD R ?_))))))))
 obtain ⟨rv, hrv, h⟩ := bnd h
 refine r_call (math_bits_Len64_pc hrv) (.of (by kernel_rfl)) R R R R (q_asgD R (eN (sw_ret ?_)))
 obtain rfl := sI h
 exact f1 2 R
def slices_pdqsortCmpFunc_int_m_window_table_order_L1 (F : Nat) (t : (List Int)) (o : Int) (a : Int) (rv : Int) (t2 : Table) (K : Option (List Int)) : Nat → Option (List Int)
 | 0 => none
 | n + 1 => if (W (a - o)) ≤ 12 then (Option.bind (lenO (slices_insertionSortCmpFunc_int_m_window_table_order F t o a t2) t) fun rv2 => some rv2) else (if rv = 0 then (none) else (none))
def slices_pdqsortCmpFunc_int_m_window_table_order (F : Nat) (t : (List Int)) (o : Int) (a : Int) (rv : Int) (t2 : Table) : Option (List Int) := slices_pdqsortCmpFunc_int_m_window_table_order_L1 F t o a rv t2 none F 
theorem slices_pdqsortCmpFunc_int_m_window_table_order_scr {F : Nat} {t : (List Int)} {o : Int} {a : Int} {rv : Int} {t2 : Table} {r : (List Int)} (h : slices_pdqsortCmpFunc_int_m_window_table_order F t o a rv t2 = some r) : SCR Try.prog 109 [.row 0 1 0 (t).length, .d (.v (.int .i64 o)), .d (.v (.int .i64 a)), .d (.v (.int .i64 rv)), .fn (.func 82) [.d (.el 22 (([t2]).map Table.d) ((0 : Int)).toNat 0)] []] [some (lvI t)] (.d (.tup [])) [some (lvI r)] := by
 rw [slices_pdqsortCmpFunc_int_m_window_table_order] at h
 refine SC.of_sw Try.func109 R R R ?_
 dsimp only [argS, List.map]
 refine qG (q_asgD R (eN (qG (q_asgD R (eN (sw_block ?_))))))
 obtain ⟨K1, hK1, h⟩ : ∃ K, K = _ ∧ slices_pdqsortCmpFunc_int_m_window_table_order_L1 F t o a rv t2 K F  = some r := ⟨_, rfl, h⟩
 refine sw_loopS (fun m st => slices_pdqsortCmpFunc_int_m_window_table_order_L1 F t o a rv t2 K1 m  = some r ∧ st = ⟨[(0, .row 0 1 0 (t).length), (1, .d (vI o)), (2, .d (vI a)), (3, .d (vI rv)), (4, .fn (.func 82) [.d (.el 22 (([t2]).map Table.d) ((0 : Int)).toNat 0)] []), (10, .d (.v (.bool true))), (11, .d (.v (.bool true)))], [some (lvI t)]⟩) (.prn [0, 1, 2, 3, 4, 10, 11] R) ⟨h, R⟩ ?_
 clear h
 rintro m1 st ⟨h, rfl⟩
 cases m1 with
 | zero => cases (show (none : Option (List Int)) = some r from h)
 | succ m1 =>
 rw [slices_pdqsortCmpFunc_int_m_window_table_order_L1] at h
 refine sw_block (qG (q_movD R (q_movD R (r_sub R R R R (q_asgD R (eN (sw_seq (qG (q_movD R ?_)))))))))
 refine r_leq R R R R ?_ ?_
 ·intro c
  replace h := ifP c h
  refine eN (sw_condT R (qG (r_movW R R R (q_movD R (q_movD R (r_movF R R R ?_))))))
  obtain ⟨rv2, hrv2, h⟩ := bnd h
  refine r_callO (t' := .d (.tup [])) (ls := [some (lvI rv2)]) (news := []) ([0]) ([some (lvI rv2)]) (slices_insertionSortCmpFunc_int_m_window_table_order_scr (lenO_eq hrv2).1) (.of (by kernel_rfl)) R (.inl ⟨R, R, R⟩) R R R R ((.row R .nil)) R R R ((.row .nil)) .nil R R R R ?_
  first | rw [← (lenO_eq hrv2).2] | skip
  refine eN (sw_ret (then_ret (block_ret (then_ret (block_ret ?_)))))
  obtain rfl := sI h
  exact f2 [0] (.row R .nil) R .nil R
 intro c
 replace h := ifN (Int.not_le.2 c) h
 refine eN (sw_condF R (sw_skip (then_norm (sw_seq (qG (q_movD R ?_))))))
 refine r_eql R R R R ?_ ?_
 ·intro c2
  replace h := ifP c2 h
  cases h
 intro c2
 replace h := ifN c2 h
 cases h
def slices_SortFunc_int_m_window_table_order (F : Nat) (x : (List Int)) (t : Table) : Option (List Int) := Option.bind (math_bits_Len F (IntKind.u64.wrap (x.length : Int))) fun rv => Option.bind (lenO (slices_pdqsortCmpFunc_int_m_window_table_order F x 0 (x.length : Int) rv t) x) fun rv2 => some rv2
theorem slices_SortFunc_int_m_window_table_order_scr {F : Nat} {x : (List Int)} {t : Table} {r : (List Int)} (h : slices_SortFunc_int_m_window_table_order F x t = some r) : SCR Try.prog 103 [.row 0 1 0 (x).length, .fn (.func 82) [.d (.el 22 (([t]).map Table.d) ((0 : Int)).toNat 0)] []] [some (lvI x)] (.d (.tup [])) [some (lvI r)] := by
 rw [slices_SortFunc_int_m_window_table_order] at h
 refine SC.of_sw Try.func103 R R R ?_
 dsimp only [argS, List.map]
 refine qG (r_movW R R R (r_lenR tb R R R R R (q_asgD R (eN (sw_rg (r_movW R R R (q_movD R (q_movD R (r_cvI (k2 := .u64) R R R R R R ?_)))))))))
 obtain ⟨rv, hrv, h⟩ := bnd h
 refine r_call (math_bits_Len_pc hrv) (.of (by kernel_rfl)) R R R R (r_movF R R R ?_)
 obtain ⟨rv2, hrv2, h⟩ := bnd h
 refine r_callO (t' := .d (.tup [])) (ls := [some (lvI rv2)]) (news := []) ([0]) ([some (lvI rv2)]) (slices_pdqsortCmpFunc_int_m_window_table_order_scr (lenO_eq hrv2).1) (.of (by kernel_rfl)) R (.inl ⟨R, R, R⟩) R R R R ((.row R .nil)) R R R ((.row .nil)) .nil R R R R ?_
 first | rw [← (lenO_eq hrv2).2] | skip
 refine ev_end ?_
 obtain rfl := sI h
 exact fin_n (fin_S (t := .d (.tup [])) (L := [some (lvI rv2)]) (κ := [0]) R .nil (vK (.row R .nil) R) ⟨R, R⟩)
def window_Check_2 (F : Nat) (u : WiTeam) (c : WiTeam) : Option Bool := if u.name.toList = c.name.toList then (some true) else (some false)
theorem window_Check_2_pc {F : Nat} {u : WiTeam} {c : WiTeam} {r : Bool} (h : window_Check_2 F u c = some r) : PC Try.prog 49 [WiTeam.d u, .el 9 (([c]).map WiTeam.d) ((0 : Int)).toNat 0] (.v (.bool r)) := by
 rw [window_Check_2] at h
 refine SC.of_sw Try.func49 R R R ?_
 dsimp only [argS, List.map]
 refine qG (q_box R (q_asgD R (eN (qG (q_fa tb R (q_ldD (y := .v (.string u.name)) tb R (q_faE tb R (q_ldE (y := .v (.string c.name)) tb (ix2 (g := WiTeam.d) (R : ixO [c] 0 = some c)) R ?_))))))))
 refine r_streql R R R R ?_ ?_
 ·intro c2
  replace h := ifP c2 h
  refine q_asgD R (eN (sw_ret ?_))
  obtain rfl := sI h
  exact f1 3 R
 intro c2
 replace h := ifN c2 h
 refine q_asgD R (eN (sw_ret ?_))
 obtain rfl := sI h
 exact f1 3 R
def window_Check_1 (F : Nat) (a : Span) (c : Int) : Option (Bool × Int) := Option.bind (window_out F a.lo (W (c + 1)) 3650) fun rv => if rv = true then (some (true, a.hi)) else (Option.bind (window_out F a.hi a.lo 3650) fun rv2 => some (rv2, a.hi))
theorem window_Check_1_scr {F : Nat} {a : Span} {c : Int} {r : (Bool × Int)} (h : window_Check_1 F a c = some r) : SCR Try.prog 46 [.d (Span.d a), .ref 0 1 0 0] [some ⟨1, [.d (.v (.int .i64 c))]⟩] (.d (.v (.bool r.1))) [some ⟨1, [.d (.v (.int .i64 r.2))]⟩] := by
 rw [window_Check_1] at h
 refine SC.of_sw Try.func46 R R R ?_
 dsimp only [argS, List.map]
 refine qG (q_box R (q_asgD R (eN (qG (q_fa tb R (q_ldD (y := vI a.lo) tb R (q_ldD (y := vI c) tb R (q_add R ?_))))))))
 obtain ⟨rv, hrv, h⟩ := bnd h
 refine r_callB (window_out_pc hrv) (.of (by kernel_rfl)) R R R R ?_ ?_
 ·intro c2
  replace h := ifP c2 h
  refine q_movD R (q_sk 5 R (q_pickT R (q_asgD R (eN (qG (q_fa tb R (q_ldD (y := vI a.hi) tb R (q_stE _ _ tb R (eN (qG (q_movD R (q_asgD R (eN (sw_ret ?_))))))))))))))
  obtain rfl := sI h
  exact f2 [0] (.cons R R .nil) R (.cons (.tmp 3) .nil) R
 intro c2
 replace h := ifF c2 h
 refine q_movD R (q_fa tb R (q_ldD (y := vI a.hi) tb R (q_fa tb R (q_ldD (y := vI a.lo) tb R ?_))))
 obtain ⟨rv2, hrv2, h⟩ := bnd h
 refine r_call (window_out_pc hrv2) (.of (by kernel_rfl)) R R R R (q_pickF R (q_asgD R (eN (qG (q_fa tb R (q_ldD (y := vI a.hi) tb R (q_stE _ _ tb R (eN (qG (q_movD R (q_asgD R (eN (sw_ret ?_)))))))))))))
 obtain rfl := sI h
 exact f2 [0] (.cons R R .nil) R (.cons (.tmp 3) .nil) R
def slices_IndexFunc_WiTeam_L1 (F : Nat) (s : (List WiTeam)) (f : (WiTeam → Option Bool)) (K : Int → Option Int) : Nat → Int → Option Int
 | 0, _ => none
 | n + 1, x => if x < (s.length : Int) then (Option.bind (ixO s x) fun e => Option.bind (f e) fun rv => if rv = true then (some x) else (slices_IndexFunc_WiTeam_L1 F s f K n (W (x + 1)))) else (K x)
def slices_IndexFunc_WiTeam (F : Nat) (s : (List WiTeam)) (f : (WiTeam → Option Bool)) : Option Int := slices_IndexFunc_WiTeam_L1 F s f (fun (x : Int) => some (-1)) F 0
theorem slices_IndexFunc_WiTeam_scr {F : Nat} {s : (List WiTeam)} {f : (WiTeam → Option Bool)} {r : Int} {fi : Nat} {fc : List D} (fh : ∀ {a0 : WiTeam} {r : Bool}, f a0 = some r → PC Try.prog fi ([WiTeam.d a0] ++ fc) (.v (.bool r))) (fe : Ent Try.prog fi) (h : slices_IndexFunc_WiTeam F s f = some r) : SCR Try.prog 72 [.d (.arr 9 ((s).map WiTeam.d)), .fn (.func fi) [] (fc.map .d)] [] (.d (.v (.int .i64 r))) (List.map some []) := by
 rw [slices_IndexFunc_WiTeam] at h
 refine SC.of_sw Try.func72 R R R ?_
 dsimp only [argS, List.map]
 refine qG (q_asgD R (eN (sw_seq (qG (q_movD R (q_lenM tb R (q_movD R (eN (sw_block ?_)))))))))
 obtain ⟨K2, hK2, h⟩ : ∃ K, K = _ ∧ slices_IndexFunc_WiTeam_L1 F s f K F 0 = some r := ⟨_, rfl, h⟩
 refine sw_loopS (fun m st => ∃ (x : Int), slices_IndexFunc_WiTeam_L1 F s f K2 m x = some r ∧ st = ⟨[(0, .d (.arr 9 ((s).map WiTeam.d))), (1, .fn (.func fi) [] (fc.map .d)), (4, .d (vI 0)), (7, .d (vI (s.length : Int))), (8, .d (vI x))], []⟩) (.prn [0, 1, 4, 7, 8] R) ⟨0, h, R⟩ ?_
 clear h
 rintro m2 st ⟨x, h, rfl⟩
 cases m2 with
 | zero => cases (show (none : Option Int) = some r from h)
 | succ m2 =>
 rw [slices_IndexFunc_WiTeam_L1] at h
 refine qG ?_
 refine r_lss R R R R ?_ ?_
 ·intro c
  replace h := ifP c h
  refine eN (sw_seq (sw_condT R (sw_skip (then_norm (sw_seq (sw_block (qG (q_movD R (q_asgD R (eN (qG (r_movF R R R (q_movD R (q_movD R ?_))))))))))))))
  obtain ⟨e, ie, h⟩ := bnd h
  refine q_ixE tb (ix0 ie) (ix1m ie) R (q_ldE (y := WiTeam.d e) tb (ix2 (g := WiTeam.d) ie) R ?_)
  obtain ⟨rv, hrv, h⟩ := bnd h
  refine r_callH (vs := [WiTeam.d e]) (fh hrv) fe R R R R ?_
  with_reducible apply ev_lit
  ·intro c2
   replace h := ifP c2 h
   refine eN (sw_condT R (qG (q_movD R (q_asgD R (eN (sw_ret (block_ret (then_ret (then_ret (block_ret (then_ret ?_)))))))))))
   obtain rfl := sI h
   exact f1 4 R
  intro c2
  replace h := ifF c2 h
  refine eN (sw_condF R (sw_skip (block_norm (then_norm (sw_rg (q_add R (q_movD R (eN ?_))))))))
  exact ⟨m2, _, Nat.lt_succ_self _, .prn [0, 1, 4, 7, 8] R, (W (x + 1)), h, R⟩
 intro c
 replace h := ifN (Int.not_lt.2 c) h
 refine eN (sw_seq (sw_condF R (sw_exit (then_exit (then_exit ?_)))))
 subst hK2
 refine block_exit (then_norm (qG (q_asgD R (eN (sw_ret ?_)))))
 obtain rfl := sI h
 exact f1 4 R
def slices_ContainsFunc_WiTeam (F : Nat) (s : (List WiTeam)) (f : (WiTeam → Option Bool)) : Option Bool := Option.bind (slices_IndexFunc_WiTeam F s f) fun rv => some (decide (0 ≤ rv))
theorem slices_ContainsFunc_WiTeam_scr {F : Nat} {s : (List WiTeam)} {f : (WiTeam → Option Bool)} {r : Bool} {fi : Nat} {fc : List D} (fh : ∀ {a0 : WiTeam} {r : Bool}, f a0 = some r → PC Try.prog fi ([WiTeam.d a0] ++ fc) (.v (.bool r))) (fe : Ent Try.prog fi) (h : slices_ContainsFunc_WiTeam F s f = some r) : SCR Try.prog 48 [.d (.arr 9 ((s).map WiTeam.d)), .fn (.func fi) [] (fc.map .d)] [] (.d (.v (.bool r))) (List.map some []) := by
 rw [slices_ContainsFunc_WiTeam] at h
 refine SC.of_sw Try.func48 R R R ?_
 dsimp only [argS, List.map]
 refine qG (q_asgD R (eN (qG (q_movD R (r_movF R R R ?_)))))
 obtain ⟨rv, hrv, h⟩ := bnd h
 refine r_callX (t' := .d (vI rv)) (news' := []) (slices_IndexFunc_WiTeam_scr (f := f) (fh := fh) (fe := fe) hrv) R .nil (.of (by kernel_rfl)) R R ((.cons (.d (.d _)) (.cons .hof .nil))) R .nil R R R ?_
 simp only [List.map_nil, List.append_nil]
 refine r_geqV R R R R (q_asgD R (eN (sw_ret ?_)))
 obtain rfl := sI h
 exact f1 4 R
def cmp_Or_int_L1 (F : Nat) (vals : (List Int)) (K : Int → Option Int) : Nat → Int → Option Int
 | 0, _ => none
 | n + 1, x => if x < (vals.length : Int) then (Option.bind (ixO vals x) fun e => if e = 0 then (cmp_Or_int_L1 F vals K n (W (x + 1))) else (some e)) else (K x)
def cmp_Or_int (F : Nat) (vals : (List Int)) : Option Int := cmp_Or_int_L1 F vals (fun (x : Int) => some 0) F 0
theorem cmp_Or_int_pc {F : Nat} {vals : (List Int)} {r : Int} (h : cmp_Or_int F vals = some r) : PC Try.prog 52 [.arr 1 ((vals).map vI)] (.v (.int .i64 r)) := by
 rw [cmp_Or_int] at h
 refine SC.of_sw Try.func52 R R R ?_
 dsimp only [argS, List.map]
 refine qG (q_asgD R (eN (qG (q_asgD R (eN (sw_seq (qG (q_movD R (q_lenM tb R (q_movD R (eN (sw_block ?_))))))))))))
 obtain ⟨K2, hK2, h⟩ : ∃ K, K = _ ∧ cmp_Or_int_L1 F vals K F 0 = some r := ⟨_, rfl, h⟩
 refine sw_loopS (fun m st => ∃ (x : Int), cmp_Or_int_L1 F vals K2 m x = some r ∧ st = ⟨[(2, .d (vI 0)), (3, .d (vI 0)), (6, .d (.arr 1 ((vals).map vI))), (7, .d (vI (vals.length : Int))), (8, .d (vI x))], []⟩) (.prn [2, 3, 6, 7, 8] R) ⟨0, h, R⟩ ?_
 clear h
 rintro m2 st ⟨x, h, rfl⟩
 cases m2 with
 | zero => cases (show (none : Option Int) = some r from h)
 | succ m2 =>
 rw [cmp_Or_int_L1] at h
 refine qG ?_
 refine r_lss R R R R ?_ ?_
 ·intro c
  replace h := ifP c h
  refine eN (sw_seq (sw_condT R (sw_skip (then_norm (sw_seq (sw_block (qG ?_)))))))
  obtain ⟨e, ie, h⟩ := bnd h
  refine q_ixE tb (ix0 ie) (ix1m ie) R (q_ldE (y := vI e) tb (ix2 (g := vI) ie) R (q_asgD R (eN (qG (q_movD R (q_movD R ?_))))))
  refine r_neq R R R R ?_ ?_
  ·intro c2
   replace h := ifN c2 h
   refine eN (sw_condT R (qG (q_movD R (q_asgD R (eN (sw_ret (block_ret (then_ret (then_ret (block_ret (then_ret ?_)))))))))))
   obtain rfl := sI h
   exact f1 2 R
  intro c2
  replace h := ifP c2 h
  refine eN (sw_condF R (sw_skip (block_norm (then_norm (sw_rg (q_add R (q_movD R (eN ?_))))))))
  exact ⟨m2, _, Nat.lt_succ_self _, .prn [2, 3, 6, 7, 8] R, (W (x + 1)), h, R⟩
 intro c
 replace h := ifN (Int.not_lt.2 c) h
 refine eN (sw_seq (sw_condF R (sw_exit (then_exit (then_exit ?_)))))
 subst hK2
 refine block_exit (then_norm (qG (q_movD R (q_asgD R (eN (sw_ret ?_))))))
 obtain rfl := sI h
 exact f1 2 R
def slices_IndexFunc_Span_window_Check_1_L1 (F : Nat) (s : (List Span)) (K : Int → Int → Option (Int × Int)) : Nat → Int → Int → Option (Int × Int)
 | 0, _, _ => none
 | n + 1, f, x => if x < (s.length : Int) then (Option.bind (ixO s x) fun e => Option.bind (window_Check_1 F e f) fun rv => if rv.1 = true then (some (x, rv.2)) else (slices_IndexFunc_Span_window_Check_1_L1 F s K n rv.2 (W (x + 1)))) else (K f x)
def slices_IndexFunc_Span_window_Check_1 (F : Nat) (s : (List Span)) (c : Int) : Option (Int × Int) := slices_IndexFunc_Span_window_Check_1_L1 F s (fun (f : Int) (x : Int) => some ((-1), f)) F c 0
theorem slices_IndexFunc_Span_window_Check_1_scr {F : Nat} {s : (List Span)} {c : Int} {r : (Int × Int)} (h : slices_IndexFunc_Span_window_Check_1 F s c = some r) : SCR Try.prog 73 [.d (.arr 2 ((s).map Span.d)), .fn (.func 46) [] [.ref 0 1 0 0]] [some ⟨1, [.d (.v (.int .i64 c))]⟩] (.d (.v (.int .i64 r.1))) [some ⟨1, [.d (.v (.int .i64 r.2))]⟩] := by
 rw [slices_IndexFunc_Span_window_Check_1] at h
 refine SC.of_sw Try.func73 R R R ?_
 dsimp only [argS, List.map]
 refine qG (q_asgD R (eN (sw_seq (qG (q_movD R (q_lenM tb R (q_movD R (eN (sw_block ?_)))))))))
 obtain ⟨K2, hK2, h⟩ : ∃ K, K = _ ∧ slices_IndexFunc_Span_window_Check_1_L1 F s K F c 0 = some r := ⟨_, rfl, h⟩
 refine sw_loopS (fun m st => ∃ (f : Int) (x : Int), slices_IndexFunc_Span_window_Check_1_L1 F s K2 m f x = some r ∧ st = ⟨[(0, .d (.arr 2 ((s).map Span.d))), (1, .fn (.func 46) [] [.ref 0 1 0 0]), (4, .d (vI 0)), (7, .d (vI (s.length : Int))), (8, .d (vI x))], [some ⟨1, [.d (vI f)]⟩]⟩) (.prn [0, 1, 4, 7, 8] R) ⟨c, 0, h, R⟩ ?_
 clear h
 rintro m2 st ⟨f, x, h, rfl⟩
 cases m2 with
 | zero => cases (show (none : Option (Int × Int)) = some r from h)
 | succ m2 =>
 rw [slices_IndexFunc_Span_window_Check_1_L1] at h
 refine qG ?_
 refine r_lss R R R R ?_ ?_
 ·intro c2
  replace h := ifP c2 h
  refine eN (sw_seq (sw_condT R (sw_skip (then_norm (sw_seq (sw_block (qG (q_movD R (q_asgD R (eN (qG (r_movF R R R (q_movD R (q_movD R ?_))))))))))))))
  obtain ⟨e, ie, h⟩ := bnd h
  refine q_ixE tb (ix0 ie) (ix1m ie) R (q_ldE (y := Span.d e) tb (ix2 (g := Span.d) ie) R ?_)
  obtain ⟨rv, hrv, h⟩ := bnd h
  refine r_callO (t' := .d (.v (.bool rv.1))) (ls := [some ⟨1, [.d (vI rv.2)]⟩]) (news := []) ([0]) ([some ⟨1, [.d (vI rv.2)]⟩]) (window_Check_1_scr hrv) (.of (by kernel_rfl)) R (.inr R) R R R R ((.cons R R .nil)) R R R ((.cons R .nil)) .nil R R R R ?_
  with_reducible apply ev_lit
  ·intro c3
   replace h := ifP c3 h
   refine eN (sw_condT R (qG (q_movD R (q_asgD R (eN (sw_ret (block_ret (then_ret (then_ret (block_ret (then_ret ?_)))))))))))
   obtain rfl := sI h
   exact f2 [0] (.cons R R .nil) R (.cons (.tmp 4) .nil) R
  intro c3
  replace h := ifF c3 h
  refine eN (sw_condF R (sw_skip (block_norm (then_norm (sw_rg (q_add R (q_movD R (eN ?_))))))))
  exact ⟨m2, _, Nat.lt_succ_self _, .prn [0, 1, 4, 7, 8] R, rv.2, (W (x + 1)), h, R⟩
 intro c2
 replace h := ifN (Int.not_lt.2 c2) h
 refine eN (sw_seq (sw_condF R (sw_exit (then_exit (then_exit ?_)))))
 subst hK2
 refine block_exit (then_norm (qG (q_asgD R (eN (sw_ret ?_)))))
 obtain rfl := sI h
 exact f2 [0] (.cons R R .nil) R (.cons (.tmp 4) .nil) R
def slices_ContainsFunc_Span_window_Check_1 (F : Nat) (s : (List Span)) (c : Int) : Option (Bool × Int) := Option.bind (slices_IndexFunc_Span_window_Check_1 F s c) fun rv => some ((decide (0 ≤ rv.1)), rv.2)
theorem slices_ContainsFunc_Span_window_Check_1_scr {F : Nat} {s : (List Span)} {c : Int} {r : (Bool × Int)} (h : slices_ContainsFunc_Span_window_Check_1 F s c = some r) : SCR Try.prog 51 [.d (.arr 2 ((s).map Span.d)), .fn (.func 46) [] [.ref 0 1 0 0]] [some ⟨1, [.d (.v (.int .i64 c))]⟩] (.d (.v (.bool r.1))) [some ⟨1, [.d (.v (.int .i64 r.2))]⟩] := by
 rw [slices_ContainsFunc_Span_window_Check_1] at h
 refine SC.of_sw Try.func51 R R R ?_
 dsimp only [argS, List.map]
 refine qG (q_asgD R (eN (qG (q_movD R (r_movF R R R ?_)))))
 obtain ⟨rv, hrv, h⟩ := bnd h
 refine r_callO (t' := .d (vI rv.1)) (ls := [some ⟨1, [.d (vI rv.2)]⟩]) (news := []) ([0]) ([some ⟨1, [.d (vI rv.2)]⟩]) (slices_IndexFunc_Span_window_Check_1_scr hrv) (.of (by kernel_rfl)) R (.inl ⟨R, R, R⟩) R R R R ((.cons R R .nil)) R R R ((.cons R .nil)) .nil R R R R (r_geqV R R R R (q_asgD R (eN (sw_ret ?_))))
 obtain rfl := sI h
 exact f2 [0] (.cons R R .nil) R (.cons (.tmp 4) .nil) R
def window_Check_L1 (F : Nat) (t : WiPlan) (K : Int → Option (Int × Int × Int)) : Nat → Int → Option (Int × Int × Int)
 | 0, _ => none
 | n + 1, x2 => if x2 < (t.windows.length : Int) then (Option.bind (ixO t.windows x2) fun e2 => Option.bind (window_out F e2.day 0 3650) fun rv14 => if rv14 = true then (some (3, x2, 7)) else (Option.bind (window_out F e2.until_ 0 1440) fun rv15 => if rv15 = true then (some (3, x2, 7)) else (Option.bind (window_out F e2.from_ 0 (W (e2.until_ - 1))) fun rv16 => if rv16 = true then (some (3, x2, 7)) else (if 0 < x2 then (Option.bind (ixO t.windows (W (x2 - 1))) fun e3 => Option.bind (cmp_Compare_int F e2.day e3.day) fun rv17 => Option.bind (cmp_Or_int F [rv17, 1]) fun rv18 => if rv18 < 0 then (some (3, x2, 2)) else (if 0 < x2 then (if e2.day = e3.day then (if e2.from_ < e3.until_ then (some (3, x2, 2)) else (window_Check_L1 F t K n (W (x2 + 1)))) else (window_Check_L1 F t K n (W (x2 + 1)))) else (window_Check_L1 F t K n (W (x2 + 1))))) else (if 0 < x2 then (Option.bind (ixO t.windows (W (x2 - 1))) fun e4 => if e2.day = e4.day then (if e2.from_ < e4.until_ then (some (3, x2, 2)) else (window_Check_L1 F t K n (W (x2 + 1)))) else (window_Check_L1 F t K n (W (x2 + 1)))) else (window_Check_L1 F t K n (W (x2 + 1)))))))) else (K x2)
def window_Check_L2 (F : Nat) (t : WiPlan) (K : Int → Option (Int × Int × Int)) : Nat → Int → Option (Int × Int × Int)
 | 0, _ => none
 | n + 1, x => if x < (t.teams.length : Int) then (Option.bind (ixO t.teams x) fun e => Option.bind (wind_Name F e.name) fun rv4 => if rv4 = true then (Option.bind (cutO t.teams 0 x) fun q => Option.bind (slices_ContainsFunc_WiTeam F q (fun a0 => window_Check_2 F a0 e)) fun rv5 => if rv5 = true then (some (2, x, 5)) else (Option.bind (window_out F e.priority 1 9) fun rv6 => if rv6 = true then (some (2, x, 7)) else (Option.bind (window_out F e.need 0 100) fun rv7 => if rv7 = true then (some (2, x, 7)) else (Option.bind (window_out F e.credit 0 100000) fun rv8 => if rv8 = true then (some (2, x, 7)) else (Option.bind (window_out F e.wind 0 1000) fun rv9 => if rv9 = true then (some (2, x, 7)) else (Option.bind (window_out F e.rest 0 100) fun rv10 => if rv10 = true then (some (2, x, 7)) else (Option.bind (window_out F e.setup 1 1440) fun rv11 => if rv11 = true then (some (2, x, 7)) else (Option.bind (window_mixed F e.kinds) fun rv12 => if rv12 = true then (some (2, x, 2)) else (if 10 < (e.away.length : Int) then (some (2, x, 3)) else (Option.bind (slices_ContainsFunc_Span_window_Check_1 F e.away (-1)) fun rv13 => if rv13.1 = true then (some (2, x, 2)) else (window_Check_L2 F t K n (W (x + 1))))))))))))) else (some (2, x, 6))) else (K x)
def window_Check (F : Nat) (t : WiPlan) : Option (Int × Int × Int) := Option.bind (window_out F (t.teams.length : Int) 1 8) fun rv => if rv = true then (some (1, 0, 3)) else (Option.bind (window_out F t.cost 0 100) fun rv2 => if rv2 = true then (some (1, 0, 7)) else (Option.bind (window_out F t.gift 0 100) fun rv3 => if rv3 = true then (some (1, 0, 7)) else (window_Check_L2 F t (fun (x : Int) => if 60 < (t.windows.length : Int) then (some (3, 0, 3)) else (window_Check_L1 F t (fun (x2 : Int) => some (0, 0, 0)) F 0)) F 0)))
theorem window_Check_pc {F : Nat} {t : WiPlan} {r : (Int × Int × Int)} (h : window_Check F t = some r) : PC Try.prog 16 [WiPlan.d t] (.tup [.v (.int .i64 r.1), .v (.int .i64 r.2.1), .v (.int .i64 r.2.2)]) := by
 rw [window_Check] at h
 refine SC.of_sw Try.func16 R R R ?_
 dsimp only [argS, List.map]
 refine qG (q_box R (q_asgD R (q_asgD R (q_asgD R (eN (sw_seq (sw_block (qG (q_fa tb R (q_ldD (y := .arr 9 ((t.teams).map WiTeam.d)) tb R (q_lenM tb R ?_)))))))))))
 obtain ⟨rv, hrv, h⟩ := bnd h
 refine r_callB (window_out_pc hrv) (.of (by kernel_rfl)) R R R R ?_ ?_
 ·intro c
  replace h := ifP c h
  refine q_asgD R (eN (sw_condT R (qG (q_asgD R (q_asgD R (q_asgD R (eN (sw_ret (block_ret (then_ret ?_))))))))))
  obtain rfl := sI h
  exact fin_0 (t := .d (.tup [vI 1, vI 0, vI 3])) R R R (.cons (.tmp 2) (.cons (.tmp 3) (.cons (.tmp 4) .nil)))
 intro c
 replace h := ifF c h
 refine q_asgD R (eN (sw_condF R (qG (q_fa tb R (q_ldD (y := vI t.cost) tb R ?_)))))
 obtain ⟨rv2, hrv2, h⟩ := bnd h
 refine r_callB (window_out_pc hrv2) (.of (by kernel_rfl)) R R R R ?_ ?_
 ·intro c2
  replace h := ifP c2 h
  refine q_movD R (q_sk 3 R (q_pickT R (q_asgD R (eN (sw_condT R (qG (q_asgD R (q_asgD R (q_asgD R (eN (sw_ret (block_ret (then_ret ?_)))))))))))))
  obtain rfl := sI h
  exact fin_0 (t := .d (.tup [vI 1, vI 0, vI 7])) R R R (.cons (.tmp 2) (.cons (.tmp 3) (.cons (.tmp 4) .nil)))
 intro c2
 replace h := ifF c2 h
 refine q_movD R (q_fa tb R (q_ldD (y := vI t.gift) tb R ?_))
 obtain ⟨rv3, hrv3, h⟩ := bnd h
 refine r_callB (window_out_pc hrv3) (.of (by kernel_rfl)) R R R R ?_ ?_
 ·intro c3
  replace h := ifP c3 h
  refine q_pickF R (q_asgD R (eN (sw_condT R (qG (q_asgD R (q_asgD R (q_asgD R (eN (sw_ret (block_ret (then_ret ?_)))))))))))
  obtain rfl := sI h
  exact fin_0 (t := .d (.tup [vI 1, vI 0, vI 7])) R R R (.cons (.tmp 2) (.cons (.tmp 3) (.cons (.tmp 4) .nil)))
 intro c3
 replace h := ifF c3 h
 refine q_pickF R (q_asgD R (eN (sw_condF R (sw_skip (block_norm (then_norm (sw_seq (qG (q_fa tb R (q_ldD (y := .arr 9 ((t.teams).map WiTeam.d)) tb R (q_lenM tb R (q_movD R (eN (sw_block ?_))))))))))))))
 obtain ⟨K2, hK2, h⟩ : ∃ K, K = _ ∧ window_Check_L2 F t K F 0 = some r := ⟨_, rfl, h⟩
 refine sw_loopS (fun m st => ∃ (x : Int), window_Check_L2 F t K2 m x = some r ∧ st = ⟨[(1, .ref 0 4 0 0), (2, .d (vI 0)), (3, .d (vI 0)), (4, .d (vI 0)), (26, .d (.arr 9 ((t.teams).map WiTeam.d))), (27, .d (vI (t.teams.length : Int))), (28, .d (vI x))], [some ⟨4, [.d (WiPlan.d t)]⟩]⟩) (.prn [1, 2, 3, 4, 26, 27, 28] R) ⟨0, h, R⟩ ?_
 clear h
 rintro m2 st ⟨x, h, rfl⟩
 cases m2 with
 | zero => cases (show (none : Option (Int × Int × Int)) = some r from h)
 | succ m2 =>
 rw [window_Check_L2] at h
 refine qG ?_
 refine r_lss R R R R ?_ ?_
 ·intro c4
  replace h := ifP c4 h
  refine eN (sw_seq (sw_condT R (sw_skip (then_norm (sw_seq (sw_block (qG (q_movD R ?_))))))))
  obtain ⟨e, ie, h⟩ := bnd h
  refine q_ixE tb (ix0 ie) (ix1m ie) R (q_ldE (y := WiTeam.d e) tb (ix2 (g := WiTeam.d) ie) R (r_alloc tb R R R R R (q_asgD R (q_stE _ _ tb R (eN (qG (r_alloc tb R R R R R (q_stE _ _ tb R (eN (qG (r_func R R R R (r_asgF R R R (eN (sw_block (qG (q_fa tb R (q_ldD (y := .v (.string e.name)) tb R ?_)))))))))))))))))
  obtain ⟨rv4, hrv4, h⟩ := bnd h
  refine r_callB (wind_Name_pc hrv4) (.of (by kernel_rfl)) R R R R ?_ ?_
  ·intro c5
   replace h := ifP c5 h
   refine r_notT R R R (q_asgD R (eN (sw_condF R (qG (q_fa tb R (q_ldD (y := .arr 9 ((t.teams).map WiTeam.d)) tb R (q_movD R ?_)))))))
   obtain ⟨q, iq, h⟩ := bnd h
   refine r_sliceT tb R R R R R R iq R R (r_func R R R R ?_)
   obtain ⟨rv5, hrv5, h⟩ := bnd h
   refine r_callX (t' := .d (.v (.bool rv5))) (news' := []) (slices_ContainsFunc_WiTeam_scr (f := (fun a0 => window_Check_2 F a0 e)) (fc := [.el 9 [WiTeam.d e] 0 0]) (fh := fun hr => window_Check_2_pc hr) (fe := .of (by kernel_rfl)) hrv5) R .nil (.of (by kernel_rfl)) R R ((.cons (.d (.d _)) (.cons (.fnC (.cons (.d (.ref R (.d _))) .nil)) .nil))) R .nil R R R ?_
   simp only [List.map_nil, List.append_nil]
   with_reducible apply ev_lit
   ·intro c6
    replace h := ifP c6 h
    refine q_asgD R (eN (sw_condT R (qG (q_movD R (q_asgD R (q_asgD R (q_asgD R (eN (sw_ret (block_ret (block_ret (then_ret (then_ret (block_ret (then_ret ?_)))))))))))))))
    obtain rfl := sI h
    exact fin_0 (t := .d (.tup [vI 2, vI x, vI 5])) R R R (.cons (.tmp 2) (.cons (.tmp 3) (.cons (.tmp 4) .nil)))
   intro c6
   replace h := ifF c6 h
   refine q_asgD R (eN (sw_condF R (qG (q_fa tb R (q_ldD (y := vI e.priority) tb R ?_)))))
   obtain ⟨rv6, hrv6, h⟩ := bnd h
   refine r_callB (window_out_pc hrv6) (.of (by kernel_rfl)) R R R R ?_ ?_
   ·intro c7
    replace h := ifP c7 h
    refine q_movD R (q_sk 3 R (q_pickT R (q_movD R (q_sk 3 R (q_pickT R (q_movD R (q_sk 3 R (q_pickT R (q_movD R (q_sk 3 R (q_pickT R (q_movD R (q_sk 3 R (q_pickT R (q_asgD R (eN (sw_condT R (qG (q_movD R (q_asgD R (q_asgD R (q_asgD R (eN (sw_ret (block_ret (block_ret (then_ret (then_ret (block_ret (then_ret ?_))))))))))))))))))))))))))))))
    obtain rfl := sI h
    exact fin_0 (t := .d (.tup [vI 2, vI x, vI 7])) R R R (.cons (.tmp 2) (.cons (.tmp 3) (.cons (.tmp 4) .nil)))
   intro c7
   replace h := ifF c7 h
   refine q_movD R (q_fa tb R (q_ldD (y := vI e.need) tb R ?_))
   obtain ⟨rv7, hrv7, h⟩ := bnd h
   refine r_callB (window_out_pc hrv7) (.of (by kernel_rfl)) R R R R ?_ ?_
   ·intro c8
    replace h := ifP c8 h
    refine q_pickF R (q_movD R (q_sk 3 R (q_pickT R (q_movD R (q_sk 3 R (q_pickT R (q_movD R (q_sk 3 R (q_pickT R (q_movD R (q_sk 3 R (q_pickT R (q_asgD R (eN (sw_condT R (qG (q_movD R (q_asgD R (q_asgD R (q_asgD R (eN (sw_ret (block_ret (block_ret (then_ret (then_ret (block_ret (then_ret ?_))))))))))))))))))))))))))))
    obtain rfl := sI h
    exact fin_0 (t := .d (.tup [vI 2, vI x, vI 7])) R R R (.cons (.tmp 2) (.cons (.tmp 3) (.cons (.tmp 4) .nil)))
   intro c8
   replace h := ifF c8 h
   refine q_pickF R (q_movD R (q_fa tb R (q_ldD (y := vI e.credit) tb R ?_)))
   obtain ⟨rv8, hrv8, h⟩ := bnd h
   refine r_callB (window_out_pc hrv8) (.of (by kernel_rfl)) R R R R ?_ ?_
   ·intro c9
    replace h := ifP c9 h
    refine q_pickF R (q_movD R (q_sk 3 R (q_pickT R (q_movD R (q_sk 3 R (q_pickT R (q_movD R (q_sk 3 R (q_pickT R (q_asgD R (eN (sw_condT R (qG (q_movD R (q_asgD R (q_asgD R (q_asgD R (eN (sw_ret (block_ret (block_ret (then_ret (then_ret (block_ret (then_ret ?_)))))))))))))))))))))))))
    obtain rfl := sI h
    exact fin_0 (t := .d (.tup [vI 2, vI x, vI 7])) R R R (.cons (.tmp 2) (.cons (.tmp 3) (.cons (.tmp 4) .nil)))
   intro c9
   replace h := ifF c9 h
   refine q_pickF R (q_movD R (q_fa tb R (q_ldD (y := vI e.wind) tb R ?_)))
   obtain ⟨rv9, hrv9, h⟩ := bnd h
   refine r_callB (window_out_pc hrv9) (.of (by kernel_rfl)) R R R R ?_ ?_
   ·intro c10
    replace h := ifP c10 h
    refine q_pickF R (q_movD R (q_sk 3 R (q_pickT R (q_movD R (q_sk 3 R (q_pickT R (q_asgD R (eN (sw_condT R (qG (q_movD R (q_asgD R (q_asgD R (q_asgD R (eN (sw_ret (block_ret (block_ret (then_ret (then_ret (block_ret (then_ret ?_))))))))))))))))))))))
    obtain rfl := sI h
    exact fin_0 (t := .d (.tup [vI 2, vI x, vI 7])) R R R (.cons (.tmp 2) (.cons (.tmp 3) (.cons (.tmp 4) .nil)))
   intro c10
   replace h := ifF c10 h
   refine q_pickF R (q_movD R (q_fa tb R (q_ldD (y := vI e.rest) tb R ?_)))
   obtain ⟨rv10, hrv10, h⟩ := bnd h
   refine r_callB (window_out_pc hrv10) (.of (by kernel_rfl)) R R R R ?_ ?_
   ·intro c11
    replace h := ifP c11 h
    refine q_pickF R (q_movD R (q_sk 3 R (q_pickT R (q_asgD R (eN (sw_condT R (qG (q_movD R (q_asgD R (q_asgD R (q_asgD R (eN (sw_ret (block_ret (block_ret (then_ret (then_ret (block_ret (then_ret ?_)))))))))))))))))))
    obtain rfl := sI h
    exact fin_0 (t := .d (.tup [vI 2, vI x, vI 7])) R R R (.cons (.tmp 2) (.cons (.tmp 3) (.cons (.tmp 4) .nil)))
   intro c11
   replace h := ifF c11 h
   refine q_pickF R (q_movD R (q_fa tb R (q_ldD (y := vI e.setup) tb R ?_)))
   obtain ⟨rv11, hrv11, h⟩ := bnd h
   refine r_callB (window_out_pc hrv11) (.of (by kernel_rfl)) R R R R ?_ ?_
   ·intro c12
    replace h := ifP c12 h
    refine q_pickF R (q_asgD R (eN (sw_condT R (qG (q_movD R (q_asgD R (q_asgD R (q_asgD R (eN (sw_ret (block_ret (block_ret (then_ret (then_ret (block_ret (then_ret ?_))))))))))))))))
    obtain rfl := sI h
    exact fin_0 (t := .d (.tup [vI 2, vI x, vI 7])) R R R (.cons (.tmp 2) (.cons (.tmp 3) (.cons (.tmp 4) .nil)))
   intro c12
   replace h := ifF c12 h
   refine q_pickF R (q_asgD R (eN (sw_condF R (qG (q_fa tb R (q_ldD (y := .arr 1 ((e.kinds).map vI)) tb R ?_))))))
   obtain ⟨rv12, hrv12, h⟩ := bnd h
   refine r_callB (window_mixed_pc hrv12) (.of (by kernel_rfl)) R R R R ?_ ?_
   ·intro c13
    replace h := ifP c13 h
    refine q_asgD R (eN (sw_condT R (qG (q_movD R (q_asgD R (q_asgD R (q_asgD R (eN (sw_ret (block_ret (block_ret (then_ret (then_ret (block_ret (then_ret ?_)))))))))))))))
    obtain rfl := sI h
    exact fin_0 (t := .d (.tup [vI 2, vI x, vI 2])) R R R (.cons (.tmp 2) (.cons (.tmp 3) (.cons (.tmp 4) .nil)))
   intro c13
   replace h := ifF c13 h
   refine q_asgD R (eN (sw_condF R (qG (q_fa tb R (q_ldD (y := .arr 2 ((e.away).map Span.d)) tb R (q_lenM tb R ?_))))))
   refine r_gtr R R R R ?_ ?_
   ·intro c14
    replace h := ifP c14 h
    refine q_asgD R (eN (sw_condT R (qG (q_movD R (q_asgD R (q_asgD R (q_asgD R (eN (sw_ret (block_ret (block_ret (then_ret (then_ret (block_ret (then_ret ?_)))))))))))))))
    obtain rfl := sI h
    exact fin_0 (t := .d (.tup [vI 2, vI x, vI 3])) R R R (.cons (.tmp 2) (.cons (.tmp 3) (.cons (.tmp 4) .nil)))
   intro c14
   replace h := ifN (Int.not_lt.2 c14) h
   refine q_asgD R (eN (sw_condF R (qG (q_fa tb R (q_ldD (y := .arr 2 ((e.away).map Span.d)) tb R (r_movF R R R ?_))))))
   obtain ⟨rv13, hrv13, h⟩ := bnd h
   refine r_callO (t' := .d (.v (.bool rv13.1))) (ls := [some ⟨1, [.d (vI rv13.2)]⟩]) (news := []) ([2]) ([some ⟨4, [.d (WiPlan.d t)]⟩, some ⟨9, [.d (WiTeam.d e)]⟩, some ⟨1, [.d (vI rv13.2)]⟩]) (slices_ContainsFunc_Span_window_Check_1_scr hrv13) (.of (by kernel_rfl)) R (.inl ⟨R, R, R⟩) R R R R ((.cons R R .nil)) R R R ((.cons R .nil)) .nil R R R R ?_
   with_reducible apply ev_lit
   ·intro c15
    replace h := ifP c15 h
    refine q_asgD R (eN (sw_condT R (qG (q_movD R (q_asgD R (q_asgD R (q_asgD R (eN (sw_ret (block_ret (block_ret (then_ret (then_ret (block_ret (then_ret ?_)))))))))))))))
    obtain rfl := sI h
    exact fin_0 (t := .d (.tup [vI 2, vI x, vI 2])) R R R (.cons (.tmp 2) (.cons (.tmp 3) (.cons (.tmp 4) .nil)))
   intro c15
   replace h := ifF c15 h
   refine q_asgD R (eN (sw_condF R (sw_skip (block_norm (block_norm (then_norm (sw_rg (q_add R (q_movD R (eN ?_))))))))))
   exact ⟨m2, ⟨[(1, .ref 0 4 0 0), (2, .d (vI 0)), (3, .d (vI 0)), (4, .d (vI 0)), (26, .d (.arr 9 ((t.teams).map WiTeam.d))), (27, .d (vI (t.teams.length : Int))), (28, .d (vI (W (x + 1))))], [some ⟨4, [.d (WiPlan.d t)]⟩]⟩, Nat.lt_succ_self _, .vw (κ := [0]) (vK (.cons R R .nil) R), (W (x + 1)), h, R⟩
  intro c5
  replace h := ifF c5 h
  refine r_notF R R R (q_asgD R (eN (sw_condT R (qG (q_movD R (q_asgD R (q_asgD R (q_asgD R (eN (sw_ret (block_ret (block_ret (then_ret (then_ret (block_ret (then_ret ?_))))))))))))))))
  obtain rfl := sI h
  exact fin_0 (t := .d (.tup [vI 2, vI x, vI 6])) R R R (.cons (.tmp 2) (.cons (.tmp 3) (.cons (.tmp 4) .nil)))
 intro c4
 replace h := ifN (Int.not_lt.2 c4) h
 refine eN (sw_seq (sw_condF R (sw_exit (then_exit (then_exit ?_)))))
 subst hK2
 refine block_exit (then_norm (sw_seq (qG (q_fa tb R (q_ldD (y := .arr 3 ((t.windows).map WiWindow.d)) tb R (q_lenM tb R ?_))))))
 refine r_gtr R R R R ?_ ?_
 ·intro c16
  replace h := ifP c16 h
  refine eN (sw_condT R (qG (q_asgD R (q_asgD R (q_asgD R (eN (sw_ret (then_ret ?_))))))))
  obtain rfl := sI h
  exact fin_0 (t := .d (.tup [vI 3, vI 0, vI 3])) R R R (.cons (.tmp 2) (.cons (.tmp 3) (.cons (.tmp 4) .nil)))
 intro c16
 replace h := ifN (Int.not_lt.2 c16) h
 refine eN (sw_condF R (sw_skip (then_norm (sw_seq (qG (q_fa tb R (q_ldD (y := .arr 3 ((t.windows).map WiWindow.d)) tb R (q_lenM tb R (q_movD R (eN (sw_block ?_)))))))))))
 obtain ⟨K4, hK4, h⟩ : ∃ K, K = _ ∧ window_Check_L1 F t K F 0 = some r := ⟨_, rfl, h⟩
 refine sw_loopS (fun m st => ∃ (x2 : Int), window_Check_L1 F t K4 m x2 = some r ∧ st = ⟨[(1, .ref 0 4 0 0), (2, .d (vI 0)), (3, .d (vI 0)), (4, .d (vI 0)), (101, .d (.arr 3 ((t.windows).map WiWindow.d))), (102, .d (vI (t.windows.length : Int))), (103, .d (vI x2))], [some ⟨4, [.d (WiPlan.d t)]⟩]⟩) (.prn [1, 2, 3, 4, 101, 102, 103] R) ⟨0, h, R⟩ ?_
 clear h
 rintro m4 st ⟨x2, h, rfl⟩
 cases m4 with
 | zero => cases (show (none : Option (Int × Int × Int)) = some r from h)
 | succ m4 =>
 rw [window_Check_L1] at h
 refine qG ?_
 refine r_lss R R R R ?_ ?_
 ·intro c17
  replace h := ifP c17 h
  refine eN (sw_seq (sw_condT R (sw_skip (then_norm (sw_seq (sw_block (qG (q_movD R ?_))))))))
  obtain ⟨e2, ie2, h⟩ := bnd h
  refine q_ixE tb (ix0 ie2) (ix1m ie2) R (q_ldE (y := WiWindow.d e2) tb (ix2 (g := WiWindow.d) ie2) R (r_alloc tb R R R R R (q_asgD R (q_stE _ _ tb R (eN (sw_block (qG (q_fa tb R (q_ldD (y := vI e2.day) tb R ?_)))))))))
  obtain ⟨rv14, hrv14, h⟩ := bnd h
  refine r_callB (window_out_pc hrv14) (.of (by kernel_rfl)) R R R R ?_ ?_
  ·intro c18
   replace h := ifP c18 h
   refine q_movD R (q_sk 3 R (q_pickT R (q_movD R (q_sk 6 R (q_pickT R (q_asgD R (eN (sw_condT R (qG (q_movD R (q_asgD R (q_asgD R (q_asgD R (eN (sw_ret (block_ret (block_ret (then_ret (then_ret (block_ret (then_ret ?_)))))))))))))))))))))
   obtain rfl := sI h
   exact fin_0 (t := .d (.tup [vI 3, vI x2, vI 7])) R R R (.cons (.tmp 2) (.cons (.tmp 3) (.cons (.tmp 4) .nil)))
  intro c18
  replace h := ifF c18 h
  refine q_movD R (q_fa tb R (q_ldD (y := vI e2.until_) tb R ?_))
  obtain ⟨rv15, hrv15, h⟩ := bnd h
  refine r_callB (window_out_pc hrv15) (.of (by kernel_rfl)) R R R R ?_ ?_
  ·intro c19
   replace h := ifP c19 h
   refine q_pickF R (q_movD R (q_sk 6 R (q_pickT R (q_asgD R (eN (sw_condT R (qG (q_movD R (q_asgD R (q_asgD R (q_asgD R (eN (sw_ret (block_ret (block_ret (then_ret (then_ret (block_ret (then_ret ?_)))))))))))))))))))
   obtain rfl := sI h
   exact fin_0 (t := .d (.tup [vI 3, vI x2, vI 7])) R R R (.cons (.tmp 2) (.cons (.tmp 3) (.cons (.tmp 4) .nil)))
  intro c19
  replace h := ifF c19 h
  refine q_pickF R (q_movD R (q_fa tb R (q_ldD (y := vI e2.from_) tb R (q_fa tb R (q_ldD (y := vI e2.until_) tb R (r_sub R R R R ?_))))))
  obtain ⟨rv16, hrv16, h⟩ := bnd h
  refine r_callB (window_out_pc hrv16) (.of (by kernel_rfl)) R R R R ?_ ?_
  ·intro c20
   replace h := ifP c20 h
   refine q_pickF R (q_asgD R (eN (sw_condT R (qG (q_movD R (q_asgD R (q_asgD R (q_asgD R (eN (sw_ret (block_ret (block_ret (then_ret (then_ret (block_ret (then_ret ?_))))))))))))))))
   obtain rfl := sI h
   exact fin_0 (t := .d (.tup [vI 3, vI x2, vI 7])) R R R (.cons (.tmp 2) (.cons (.tmp 3) (.cons (.tmp 4) .nil)))
  intro c20
  replace h := ifF c20 h
  refine q_pickF R (q_asgD R (eN (sw_condF R (sw_seq (sw_dr (by kernel_rfl) (q_movD R ?_))))))
  refine r_gtr R R R R ?_ ?_
  ·intro c21
   replace h := ifP c21 h
   refine q_movD R (q_fa tb R (q_ldD (y := vI e2.day) tb R (q_fa tb R (q_ldD (y := .arr 3 ((t.windows).map WiWindow.d)) tb R (q_movD R (r_sub R R R R ?_))))))
   obtain ⟨e3, ie3, h⟩ := bnd h
   refine q_ixE tb (ix0 ie3) (ix1m ie3) R (q_faE tb R (q_ldE (y := vI e3.day) tb (ix2 (g := WiWindow.d) ie3) R ?_))
   obtain ⟨rv17, hrv17, h⟩ := bnd h
   refine r_call (cmp_Compare_int_pc hrv17) (.of (by kernel_rfl)) R R R R (r_bslice tb R R R R R R R R R R R R R ?_)
   obtain ⟨rv18, hrv18, h⟩ := bnd h
   refine r_callL (cmp_Or_int_pc hrv18) R (.of (by kernel_rfl)) R R ((.cons (.row R R) .nil)) R R ?_
   refine r_lss R R R R ?_ ?_
   ·intro c22
    replace h := ifP c22 h
    refine q_pickT R (q_movD R (q_sk 26 R (q_pickT R (q_asgD R (ev_endD (by kernel_rfl) (then_norm (sw_condT R (qG (q_movD R (q_asgD R (q_asgD R (q_asgD R (eN (sw_ret (block_ret (block_ret (then_ret (then_ret (block_ret (then_ret ?_))))))))))))))))))))
    obtain rfl := sI h
    exact fin_0 (t := .d (.tup [vI 3, vI x2, vI 2])) R R R (.cons (.tmp 2) (.cons (.tmp 3) (.cons (.tmp 4) .nil)))
   intro c22
   replace h := ifN (Int.not_lt.2 c22) h
   refine q_pickT R (q_movD R (q_movD R ?_))
   refine r_gtr R R R R ?_ ?_
   ·intro c23
    replace h := ifP c23 h
    refine q_movD R (q_fa tb R (q_ldD (y := vI e2.day) tb R (q_fa tb R (q_ldD (y := .arr 3 ((t.windows).map WiWindow.d)) tb R (q_movD R (r_sub R R R R (q_ixE tb (ix0 ie3) (ix1m ie3) R (q_faE tb R (q_ldE (y := vI e3.day) tb (ix2 (g := WiWindow.d) ie3) R ?_)))))))))
    refine r_eql R R R R ?_ ?_
    ·intro c24
     replace h := ifP c24 h
     refine q_pickT R (q_movD R (q_fa tb R (q_ldD (y := vI e2.from_) tb R (q_fa tb R (q_ldD (y := .arr 3 ((t.windows).map WiWindow.d)) tb R (q_movD R (r_sub R R R R (q_ixE tb (ix0 ie3) (ix1m ie3) R (q_faE tb R (q_ldE (y := vI e3.until_) tb (ix2 (g := WiWindow.d) ie3) R ?_))))))))))
     refine r_lss R R R R ?_ ?_
     ·intro c25
      replace h := ifP c25 h
      refine q_pickT R (q_pickF R (q_asgD R (ev_endD (by kernel_rfl) (then_norm (sw_condT R (qG (q_movD R (q_asgD R (q_asgD R (q_asgD R (eN (sw_ret (block_ret (block_ret (then_ret (then_ret (block_ret (then_ret ?_))))))))))))))))))
      obtain rfl := sI h
      exact fin_0 (t := .d (.tup [vI 3, vI x2, vI 2])) R R R (.cons (.tmp 2) (.cons (.tmp 3) (.cons (.tmp 4) .nil)))
     intro c25
     replace h := ifN (Int.not_lt.2 c25) h
     refine q_pickT R (q_pickF R (q_asgD R (ev_endD (by kernel_rfl) (then_norm (sw_condF R (sw_skip (block_norm (block_norm (then_norm (sw_rg (q_add R (q_movD R (eN ?_)))))))))))))
     exact ⟨m4, ⟨[(1, .ref 0 4 0 0), (2, .d (vI 0)), (3, .d (vI 0)), (4, .d (vI 0)), (101, .d (.arr 3 ((t.windows).map WiWindow.d))), (102, .d (vI (t.windows.length : Int))), (103, .d (vI (W (x2 + 1))))], [some ⟨4, [.d (WiPlan.d t)]⟩]⟩, Nat.lt_succ_self _, .vw (κ := [0]) (vK (.cons R R .nil) R), (W (x2 + 1)), h, R⟩
    intro c24
    replace h := ifN c24 h
    refine q_pickT R (q_movD R (q_sk 10 R (q_pickF R (q_pickF R (q_asgD R (ev_endD (by kernel_rfl) (then_norm (sw_condF R (sw_skip (block_norm (block_norm (then_norm (sw_rg (q_add R (q_movD R (eN ?_))))))))))))))))
    exact ⟨m4, ⟨[(1, .ref 0 4 0 0), (2, .d (vI 0)), (3, .d (vI 0)), (4, .d (vI 0)), (101, .d (.arr 3 ((t.windows).map WiWindow.d))), (102, .d (vI (t.windows.length : Int))), (103, .d (vI (W (x2 + 1))))], [some ⟨4, [.d (WiPlan.d t)]⟩]⟩, Nat.lt_succ_self _, .vw (κ := [0]) (vK (.cons R R .nil) R), (W (x2 + 1)), h, R⟩
   intro c23
   replace h := ifN (Int.not_lt.2 c23) h
   refine q_movD R (q_sk 10 R (q_pickF R (q_movD R (q_sk 10 R (q_pickF R (q_pickF R (q_asgD R (ev_endD (by kernel_rfl) (then_norm (sw_condF R (sw_skip (block_norm (block_norm (then_norm (sw_rg (q_add R (q_movD R (eN ?_))))))))))))))))))
   exact ⟨m4, ⟨[(1, .ref 0 4 0 0), (2, .d (vI 0)), (3, .d (vI 0)), (4, .d (vI 0)), (101, .d (.arr 3 ((t.windows).map WiWindow.d))), (102, .d (vI (t.windows.length : Int))), (103, .d (vI (W (x2 + 1))))], [some ⟨4, [.d (WiPlan.d t)]⟩]⟩, Nat.lt_succ_self _, .vw (κ := [0]) (vK (.cons R R .nil) R), (W (x2 + 1)), h, R⟩
  intro c21
  replace h := ifN (Int.not_lt.2 c21) h
  refine q_movD R (q_sk 13 R (q_pickF R (q_movD R (q_movD R ?_))))
  refine r_gtr R R R R ?_ ?_
  ·intro c26
   replace h := ifP c26 h
   refine q_movD R (q_fa tb R (q_ldD (y := vI e2.day) tb R (q_fa tb R (q_ldD (y := .arr 3 ((t.windows).map WiWindow.d)) tb R (q_movD R (r_sub R R R R ?_))))))
   obtain ⟨e4, ie4, h⟩ := bnd h
   refine q_ixE tb (ix0 ie4) (ix1m ie4) R (q_faE tb R (q_ldE (y := vI e4.day) tb (ix2 (g := WiWindow.d) ie4) R ?_))
   refine r_eql R R R R ?_ ?_
   ·intro c27
    replace h := ifP c27 h
    refine q_pickT R (q_movD R (q_fa tb R (q_ldD (y := vI e2.from_) tb R (q_fa tb R (q_ldD (y := .arr 3 ((t.windows).map WiWindow.d)) tb R (q_movD R (r_sub R R R R (q_ixE tb (ix0 ie4) (ix1m ie4) R (q_faE tb R (q_ldE (y := vI e4.until_) tb (ix2 (g := WiWindow.d) ie4) R ?_))))))))))
    refine r_lss R R R R ?_ ?_
    ·intro c28
     replace h := ifP c28 h
     refine q_pickT R (q_pickF R (q_asgD R (ev_endD (by kernel_rfl) (then_norm (sw_condT R (qG (q_movD R (q_asgD R (q_asgD R (q_asgD R (eN (sw_ret (block_ret (block_ret (then_ret (then_ret (block_ret (then_ret ?_))))))))))))))))))
     obtain rfl := sI h
     exact fin_0 (t := .d (.tup [vI 3, vI x2, vI 2])) R R R (.cons (.tmp 2) (.cons (.tmp 3) (.cons (.tmp 4) .nil)))
    intro c28
    replace h := ifN (Int.not_lt.2 c28) h
    refine q_pickT R (q_pickF R (q_asgD R (ev_endD (by kernel_rfl) (then_norm (sw_condF R (sw_skip (block_norm (block_norm (then_norm (sw_rg (q_add R (q_movD R (eN ?_)))))))))))))
    exact ⟨m4, ⟨[(1, .ref 0 4 0 0), (2, .d (vI 0)), (3, .d (vI 0)), (4, .d (vI 0)), (101, .d (.arr 3 ((t.windows).map WiWindow.d))), (102, .d (vI (t.windows.length : Int))), (103, .d (vI (W (x2 + 1))))], [some ⟨4, [.d (WiPlan.d t)]⟩]⟩, Nat.lt_succ_self _, .vw (κ := [0]) (vK (.cons R R .nil) R), (W (x2 + 1)), h, R⟩
   intro c27
   replace h := ifN c27 h
   refine q_pickT R (q_movD R (q_sk 10 R (q_pickF R (q_pickF R (q_asgD R (ev_endD (by kernel_rfl) (then_norm (sw_condF R (sw_skip (block_norm (block_norm (then_norm (sw_rg (q_add R (q_movD R (eN ?_))))))))))))))))
   exact ⟨m4, ⟨[(1, .ref 0 4 0 0), (2, .d (vI 0)), (3, .d (vI 0)), (4, .d (vI 0)), (101, .d (.arr 3 ((t.windows).map WiWindow.d))), (102, .d (vI (t.windows.length : Int))), (103, .d (vI (W (x2 + 1))))], [some ⟨4, [.d (WiPlan.d t)]⟩]⟩, Nat.lt_succ_self _, .vw (κ := [0]) (vK (.cons R R .nil) R), (W (x2 + 1)), h, R⟩
  intro c26
  replace h := ifN (Int.not_lt.2 c26) h
  refine q_movD R (q_sk 10 R (q_pickF R (q_movD R (q_sk 10 R (q_pickF R (q_pickF R (q_asgD R (ev_endD (by kernel_rfl) (then_norm (sw_condF R (sw_skip (block_norm (block_norm (then_norm (sw_rg (q_add R (q_movD R (eN ?_))))))))))))))))))
  exact ⟨m4, ⟨[(1, .ref 0 4 0 0), (2, .d (vI 0)), (3, .d (vI 0)), (4, .d (vI 0)), (101, .d (.arr 3 ((t.windows).map WiWindow.d))), (102, .d (vI (t.windows.length : Int))), (103, .d (vI (W (x2 + 1))))], [some ⟨4, [.d (WiPlan.d t)]⟩]⟩, Nat.lt_succ_self _, .vw (κ := [0]) (vK (.cons R R .nil) R), (W (x2 + 1)), h, R⟩
 intro c17
 replace h := ifN (Int.not_lt.2 c17) h
 refine eN (sw_seq (sw_condF R (sw_exit (then_exit (then_exit ?_)))))
 subst hK4
 refine block_exit (then_norm (qG (q_asgD R (q_asgD R (q_asgD R (eN (sw_ret ?_)))))))
 obtain rfl := sI h
 exact fin_0 (t := .d (.tup [vI 0, vI 0, vI 0])) R R R (.cons (.tmp 2) (.cons (.tmp 3) (.cons (.tmp 4) .nil)))
def window_CheckState_L1 (F : Nat) (t : WiPlan) (o : WiState) (K : Int → Option Int) : Nat → Int → Option Int
 | 0, _ => none
 | n + 1, x => if x < (t.teams.length : Int) then (Option.bind (ixO o.used x) fun e => Option.bind (window_out F e 0 100) fun rv3 => if rv3 = true then (some 7) else (Option.bind (ixO o.credit x) fun e2 => Option.bind (window_out F e2 (-100000) 200000) fun rv4 => if rv4 = true then (some 7) else (Option.bind (ixO o.last x) fun e3 => Option.bind (window_out F e3 (-1) 3650) fun rv5 => if rv5 = true then (some 7) else (window_CheckState_L1 F t o K n (W (x + 1)))))) else (K x)
def window_CheckState (F : Nat) (t : WiPlan) (o : WiState) : Option Int := Option.bind (window_Check F t) fun rv => if rv.2.2 = 0 then (if (o.used.length : Int) = (t.teams.length : Int) then (if (o.credit.length : Int) = (t.teams.length : Int) then (if (o.last.length : Int) = (t.teams.length : Int) then (Option.bind (window_out F o.next 0 (t.windows.length : Int)) fun rv2 => if rv2 = true then (some 7) else (window_CheckState_L1 F t o (fun (x : Int) => some 0) F 0)) else (some 2)) else (some 2)) else (some 2)) else (some rv.2.2)
theorem window_CheckState_pc {F : Nat} {t : WiPlan} {o : WiState} {r : Int} (h : window_CheckState F t o = some r) : PC Try.prog 21 [WiPlan.d t, WiState.d o] (.v (.int .i64 r)) := by
 rw [window_CheckState] at h
 refine SC.of_sw Try.func21 R R R ?_
 dsimp only [argS, List.map]
 refine qG (q_box R (q_box R (q_asgD R (eN (qG (q_ldD (y := WiPlan.d t) tb R ?_))))))
 obtain ⟨rv, hrv, h⟩ := bnd h
 refine r_call (window_Check_pc hrv) (.of (by kernel_rfl)) R R R R (q_movD R (r_extD (t := vI rv.1) R R R R (r_extD (t := vI rv.2.1) R R R R (r_extD (t := vI rv.2.2) R R R R (q_asgD R (q_asgD R (q_asgD R (eN (qG (q_fa tb R (q_ldD (y := .arr 9 ((t.teams).map WiTeam.d)) tb R (q_lenM tb R (q_asgD R (eN (sw_seq (sw_block (qG (q_movD R ?_))))))))))))))))))
 refine r_neq R R R R ?_ ?_
 ·intro c
  replace h := ifN c h
  refine q_asgD R (eN (sw_condT R (qG (q_movD R (q_asgD R (eN (sw_ret (block_ret (then_ret ?_)))))))))
  obtain rfl := sI h
  exact f1 4 R
 intro c
 replace h := ifP c h
 refine q_asgD R (eN (sw_condF R (qG (q_fa tb R (q_ldD (y := .arr 1 ((o.used).map vI)) tb R (q_lenM tb R (q_movD R ?_)))))))
 refine r_neq R R R R ?_ ?_
 ·intro c2
  replace h := ifN c2 h
  refine q_movD R (q_sk 5 R (q_pickT R (q_movD R (q_sk 5 R (q_pickT R (q_asgD R (eN (sw_condT R (qG (q_asgD R (eN (sw_ret (block_ret (then_ret ?_))))))))))))))
  obtain rfl := sI h
  exact f1 4 R
 intro c2
 replace h := ifP c2 h
 refine q_movD R (q_fa tb R (q_ldD (y := .arr 1 ((o.credit).map vI)) tb R (q_lenM tb R (q_movD R ?_))))
 refine r_neq R R R R ?_ ?_
 ·intro c3
  replace h := ifN c3 h
  refine q_pickF R (q_movD R (q_sk 5 R (q_pickT R (q_asgD R (eN (sw_condT R (qG (q_asgD R (eN (sw_ret (block_ret (then_ret ?_))))))))))))
  obtain rfl := sI h
  exact f1 4 R
 intro c3
 replace h := ifP c3 h
 refine q_pickF R (q_movD R (q_fa tb R (q_ldD (y := .arr 1 ((o.last).map vI)) tb R (q_lenM tb R (q_movD R ?_)))))
 refine r_neq R R R R ?_ ?_
 ·intro c4
  replace h := ifN c4 h
  refine q_pickF R (q_asgD R (eN (sw_condT R (qG (q_asgD R (eN (sw_ret (block_ret (then_ret ?_)))))))))
  obtain rfl := sI h
  exact f1 4 R
 intro c4
 replace h := ifP c4 h
 refine q_pickF R (q_asgD R (eN (sw_condF R (qG (q_fa tb R (q_ldD (y := vI o.next) tb R (q_fa tb R (q_ldD (y := .arr 3 ((t.windows).map WiWindow.d)) tb R (q_lenM tb R ?_)))))))))
 obtain ⟨rv2, hrv2, h⟩ := bnd h
 refine r_callB (window_out_pc hrv2) (.of (by kernel_rfl)) R R R R ?_ ?_
 ·intro c5
  replace h := ifP c5 h
  refine q_asgD R (eN (sw_condT R (qG (q_asgD R (eN (sw_ret (block_ret (then_ret ?_))))))))
  obtain rfl := sI h
  exact f1 4 R
 intro c5
 replace h := ifF c5 h
 refine q_asgD R (eN (sw_condF R (sw_skip (block_norm (then_norm (sw_seq (qG (q_movD R (q_movD R (eN (sw_block ?_)))))))))))
 obtain ⟨K2, hK2, h⟩ : ∃ K, K = _ ∧ window_CheckState_L1 F t o K F 0 = some r := ⟨_, rfl, h⟩
 refine sw_loopS (st0 := ⟨[(3, .ref 0 4 0 0), (4, .d (vI 0)), (50, .d (vI (t.teams.length : Int))), (51, .d (vI 0))], [some ⟨4, [.d (WiState.d o)]⟩]⟩) (fun m st => ∃ (x : Int), window_CheckState_L1 F t o K2 m x = some r ∧ st = ⟨[(3, .ref 0 4 0 0), (4, .d (vI 0)), (50, .d (vI (t.teams.length : Int))), (51, .d (vI x))], [some ⟨4, [.d (WiState.d o)]⟩]⟩) (.vw (κ := [1]) (vK (.cons R R .nil) R)) ⟨0, h, R⟩ ?_
 clear h
 rintro m2 st ⟨x, h, rfl⟩
 cases m2 with
 | zero => cases (show (none : Option Int) = some r from h)
 | succ m2 =>
 rw [window_CheckState_L1] at h
 refine qG ?_
 refine r_lss R R R R ?_ ?_
 ·intro c6
  replace h := ifP c6 h
  refine eN (sw_seq (sw_condT R (sw_skip (then_norm (sw_seq (sw_block (qG (q_movD R (q_asgD R (eN (qG (q_fa tb R (q_ldD (y := .arr 1 ((o.used).map vI)) tb R (q_movD R ?_))))))))))))))
  obtain ⟨e, ie, h⟩ := bnd h
  refine q_ixE tb (ix0 ie) (ix1m ie) R (q_ldE (y := vI e) tb (ix2 (g := vI) ie) R ?_)
  obtain ⟨rv3, hrv3, h⟩ := bnd h
  refine r_callB (window_out_pc hrv3) (.of (by kernel_rfl)) R R R R ?_ ?_
  ·intro c7
   replace h := ifP c7 h
   refine q_movD R (q_sk 6 R (q_pickT R (q_movD R (q_sk 6 R (q_pickT R (eN (sw_condT R (qG (q_asgD R (eN (sw_ret (block_ret (then_ret (then_ret (block_ret (then_ret ?_))))))))))))))))
   obtain rfl := sI h
   exact f1 4 R
  intro c7
  replace h := ifF c7 h
  refine q_movD R (q_fa tb R (q_ldD (y := .arr 1 ((o.credit).map vI)) tb R (q_movD R ?_)))
  obtain ⟨e2, ie2, h⟩ := bnd h
  refine q_ixE tb (ix0 ie2) (ix1m ie2) R (q_ldE (y := vI e2) tb (ix2 (g := vI) ie2) R ?_)
  obtain ⟨rv4, hrv4, h⟩ := bnd h
  refine r_callB (window_out_pc hrv4) (.of (by kernel_rfl)) R R R R ?_ ?_
  ·intro c8
   replace h := ifP c8 h
   refine q_pickF R (q_movD R (q_sk 6 R (q_pickT R (eN (sw_condT R (qG (q_asgD R (eN (sw_ret (block_ret (then_ret (then_ret (block_ret (then_ret ?_))))))))))))))
   obtain rfl := sI h
   exact f1 4 R
  intro c8
  replace h := ifF c8 h
  refine q_pickF R (q_movD R (q_fa tb R (q_ldD (y := .arr 1 ((o.last).map vI)) tb R (q_movD R ?_))))
  obtain ⟨e3, ie3, h⟩ := bnd h
  refine q_ixE tb (ix0 ie3) (ix1m ie3) R (q_ldE (y := vI e3) tb (ix2 (g := vI) ie3) R ?_)
  obtain ⟨rv5, hrv5, h⟩ := bnd h
  refine r_callB (window_out_pc hrv5) (.of (by kernel_rfl)) R R R R ?_ ?_
  ·intro c9
   replace h := ifP c9 h
   refine q_pickF R (eN (sw_condT R (qG (q_asgD R (eN (sw_ret (block_ret (then_ret (then_ret (block_ret (then_ret ?_)))))))))))
   obtain rfl := sI h
   exact f1 4 R
  intro c9
  replace h := ifF c9 h
  refine q_pickF R (eN (sw_condF R (sw_skip (block_norm (then_norm (sw_rg (q_add R (q_movD R (eN ?_)))))))))
  exact ⟨m2, _, Nat.lt_succ_self _, .prn [3, 4, 50, 51] R, (W (x + 1)), h, R⟩
 intro c6
 replace h := ifN (Int.not_lt.2 c6) h
 refine eN (sw_seq (sw_condF R (sw_exit (then_exit (then_exit ?_)))))
 subst hK2
 refine block_exit (then_norm (qG (q_asgD R (eN (sw_ret ?_)))))
 obtain rfl := sI h
 exact f1 4 R
def window_Start_L1 (F : Nat) (p : WiPlan) (K : (List Int) → (List Int) → (List Int) → Int → Option (WiState × Int)) : Nat → (List Int) → (List Int) → (List Int) → Int → Option (WiState × Int)
 | 0, _, _, _, _ => none
 | n + 1, s, s2, s3, x => if x < (p.teams.length : Int) then (Option.bind (ixO p.teams x) fun e => Option.bind (appO s [0]) fun q => Option.bind (appO s2 [e.credit]) fun q2 => Option.bind (appO s3 [(-1)]) fun q3 => window_Start_L1 F p K n q q2 q3 (W (x + 1))) else (K s s2 s3 x)
def window_Start (F : Nat) (p : WiPlan) : Option (WiState × Int) := Option.bind (window_Check F p) fun rv => if rv.2.2 = 0 then (window_Start_L1 F p (fun (s : (List Int)) (s2 : (List Int)) (s3 : (List Int)) (x : Int) => some ((WiState.mk s s2 s3 0), 0)) F ([] : List Int) ([] : List Int) ([] : List Int) 0) else (some ((WiState.mk ([] : List Int) ([] : List Int) ([] : List Int) 0), rv.2.2))
theorem window_Start_scr {F : Nat} {p : WiPlan} {r : (WiState × Int)} (h : window_Start F p = some r) : SCR Try.prog 18 (List.map T.d [WiPlan.d p]) [] (.tup [WiState_T1 r.1 0 1 2, .d (.v (.int .i64 r.2))]) (List.map some [(lvI r.1.used), (lvI r.1.credit), (lvI r.1.last)]) := by
 rw [window_Start] at h
 refine SC.of_sw Try.func18 R R R ?_
 dsimp only [argS, List.map]
 refine qG (q_box R (r_alloc tb R R R R R (q_asgD R (eN (sw_seq (qG (q_ldD (y := WiPlan.d p) tb R ?_)))))))
 obtain ⟨rv, hrv, h⟩ := bnd h
 refine r_call (window_Check_pc hrv) (.of (by kernel_rfl)) R R R R (q_movD R (r_extD (t := vI rv.1) R R R R (r_extD (t := vI rv.2.1) R R R R (r_extD (t := vI rv.2.2) R R R R (q_asgD R (eN (qG (q_movD R ?_))))))))
 refine r_neq R R R R ?_ ?_
 ·intro c
  replace h := ifN c h
  refine eN (sw_condT R (qG (r_build (v := .d (.agg [.v (.slice none 0 0), .v (.slice none 0 0), .v (.slice none 0 0), vI 0])) tb R R (List.cons_ne_nil _ _) R R R R R R (q_movD R (q_stE _ _ tb R (q_asgD R (eN ?_)))))))
  refine SW.own (ts' := [(2, .ref 1 4 0 0), (3, .d (vI rv.2.2))]) (L' := [some ⟨4, [.d (WiPlan.d p)]⟩, some ⟨4, [.agg [.row 2 1 0 (([] : List Int)).length, .d (.v (.slice none 0 0)), .d (.v (.slice none 0 0)), .d (vI 0)]]⟩]) 1 R R (.cons (.same _) (.cons (.same _) .nil)) (.same (.cons R (.cons (.aggDL (.cons .nil (.cons (.same _) (.cons (.same _) (.cons (.same _) .nil))))) .nil) .nil)) ?_
  simp only [List.cons_append, List.nil_append]
  refine SW.own (ts' := [(2, .ref 1 4 0 0), (3, .d (vI rv.2.2))]) (L' := [some ⟨4, [.d (WiPlan.d p)]⟩, some ⟨4, [.agg [.row 2 1 0 (([] : List Int)).length, .row 3 1 0 (([] : List Int)).length, .d (.v (.slice none 0 0)), .d (vI 0)]]⟩, some (lvI ([] : List Int))]) 1 R R (.cons (.same _) (.cons (.same _) .nil)) (.same (.cons R (.cons (.aggL (.cons (.same _) (.cons .nil (.cons (.same _) (.cons (.same _) .nil))))) .nil) (.same .nil))) ?_
  simp only [List.cons_append, List.nil_append]
  refine SW.own (ts' := [(2, .ref 1 4 0 0), (3, .d (vI rv.2.2))]) (L' := [some ⟨4, [.d (WiPlan.d p)]⟩, some ⟨4, [WiState_T1 (WiState.mk ([] : List Int) ([] : List Int) ([] : List Int) 0) 2 3 4]⟩, some (lvI ([] : List Int)), some (lvI ([] : List Int))]) 1 R R (.cons (.same _) (.cons (.same _) .nil)) (.same (.cons R (.cons (.aggL (.cons (.same _) (.cons (.same _) (.cons .nil (.cons (.same _) .nil))))) .nil) (.same (.same .nil)))) ?_
  simp only [List.cons_append, List.nil_append]
  refine sw_ret (then_ret ?_)
  obtain rfl := sI h
  exact f2 [2, 3, 4] (.row R (.row R (.row R .nil))) R (.cons (rc tb R) (.cons (.tmp 3) .nil)) R
 intro c
 replace h := ifP c h
 refine eN (sw_condF R (sw_skip (then_norm (sw_seq (qG (q_fa tb R (q_ldD (y := .arr 9 ((p.teams).map WiTeam.d)) tb R (q_lenM tb R (q_movD R (eN (sw_block ?_)))))))))))
 refine SW.own (ts' := [(2, .ref 1 4 0 0), (3, .d (vI rv.2.2)), (17, .d (.arr 9 ((p.teams).map WiTeam.d))), (18, .d (vI (p.teams.length : Int))), (19, .d (vI 0))]) (L' := [some ⟨4, [.d (WiPlan.d p)]⟩, some ⟨4, [.agg [.row 2 1 0 (([] : List Int)).length, .d (.v (.slice none 0 0)), .d (.v (.slice none 0 0)), .d (vI 0)]]⟩]) 1 R R (.cons (.same _) (.cons (.same _) (.cons (.same _) (.cons (.same _) (.cons (.same _) .nil))))) (.same (.cons R (.cons (.aggDL (.cons .nil (.cons (.same _) (.cons (.same _) (.cons (.same _) .nil))))) .nil) .nil)) ?_
 simp only [List.cons_append, List.nil_append]
 refine SW.own (ts' := [(2, .ref 1 4 0 0), (3, .d (vI rv.2.2)), (17, .d (.arr 9 ((p.teams).map WiTeam.d))), (18, .d (vI (p.teams.length : Int))), (19, .d (vI 0))]) (L' := [some ⟨4, [.d (WiPlan.d p)]⟩, some ⟨4, [.agg [.row 2 1 0 (([] : List Int)).length, .row 3 1 0 (([] : List Int)).length, .d (.v (.slice none 0 0)), .d (vI 0)]]⟩, some (lvI ([] : List Int))]) 1 R R (.cons (.same _) (.cons (.same _) (.cons (.same _) (.cons (.same _) (.cons (.same _) .nil))))) (.same (.cons R (.cons (.aggL (.cons (.same _) (.cons .nil (.cons (.same _) (.cons (.same _) .nil))))) .nil) (.same .nil))) ?_
 simp only [List.cons_append, List.nil_append]
 refine SW.own (ts' := [(2, .ref 1 4 0 0), (3, .d (vI rv.2.2)), (17, .d (.arr 9 ((p.teams).map WiTeam.d))), (18, .d (vI (p.teams.length : Int))), (19, .d (vI 0))]) (L' := [some ⟨4, [.d (WiPlan.d p)]⟩, some ⟨4, [WiState_T1 (WiState.mk ([] : List Int) ([] : List Int) ([] : List Int) 0) 2 3 4]⟩, some (lvI ([] : List Int)), some (lvI ([] : List Int))]) 1 R R (.cons (.same _) (.cons (.same _) (.cons (.same _) (.cons (.same _) (.cons (.same _) .nil))))) (.same (.cons R (.cons (.aggL (.cons (.same _) (.cons (.same _) (.cons .nil (.cons (.same _) .nil))))) .nil) (.same (.same .nil)))) ?_
 simp only [List.cons_append, List.nil_append]
 obtain ⟨K1, hK1, h⟩ : ∃ K, K = _ ∧ window_Start_L1 F p K F ([] : List Int) ([] : List Int) ([] : List Int) 0 = some r := ⟨_, rfl, h⟩
 refine sw_loopS (st0 := ⟨[(2, .ref 0 4 0 0), (3, .d (vI rv.2.2)), (17, .d (.arr 9 ((p.teams).map WiTeam.d))), (18, .d (vI (p.teams.length : Int))), (19, .d (vI 0))], [some ⟨4, [WiState_T1 (WiState.mk ([] : List Int) ([] : List Int) ([] : List Int) 0) 1 2 3]⟩, some (lvI ([] : List Int)), some (lvI ([] : List Int)), some (lvI ([] : List Int))]⟩) (fun m st => ∃ (s : (List Int)) (s2 : (List Int)) (s3 : (List Int)) (x : Int), window_Start_L1 F p K1 m s s2 s3 x = some r ∧ st = ⟨[(2, .ref 0 4 0 0), (3, .d (vI rv.2.2)), (17, .d (.arr 9 ((p.teams).map WiTeam.d))), (18, .d (vI (p.teams.length : Int))), (19, .d (vI x))], [some ⟨4, [WiState_T1 (WiState.mk s s2 s3 0) 1 2 3]⟩, some (lvI s), some (lvI s2), some (lvI s3)]⟩) (.vw (κ := [1, 2, 3, 4]) (vK (.cons R R (.row R (.row R (.row R .nil)))) R)) ⟨([] : List Int), ([] : List Int), ([] : List Int), 0, h, R⟩ ?_
 clear h
 rintro m1 st ⟨s, s2, s3, x, h, rfl⟩
 cases m1 with
 | zero => cases (show (none : Option (WiState × Int)) = some r from h)
 | succ m1 =>
 rw [window_Start_L1] at h
 refine qG ?_
 refine r_lss R R R R ?_ ?_
 ·intro c2
  replace h := ifP c2 h
  refine eN (sw_seq (sw_condT R (sw_skip (then_norm (sw_seq (sw_block (qG ?_)))))))
  obtain ⟨e, ie, h⟩ := bnd h
  refine q_ixE tb (ix0 ie) (ix1m ie) R (q_ldE (y := WiTeam.d e) tb (ix2 (g := WiTeam.d) ie) R (r_alloc tb R R R R R (q_stE _ _ tb R (eN (sw_dr (by kernel_rfl) (q_fa tb R (r_ldW tb R R R R R R R R R (r_bslice tb R R R R R R R R R R R R R ?_))))))))
  obtain ⟨q, iq, h⟩ := bnd h
  refine r_apM (g := vI) (w := s) (v := [0]) ([some ⟨4, [.agg [.row 1 1 0 (s).length, .row 2 1 0 (s2).length, .row 3 1 0 (s3).length, .d (vI 0)]]⟩, none, some (lvI s2), some (lvI s3), some ⟨9, [.d (WiTeam.d e)]⟩, some (lvI [0])]) tb R R R R R R R R R R R iq R R R R R (q_fa tb R (r_ldW tb R R R R R R R R R (q_fa tb R (q_ldD (y := vI e.credit) tb R (r_bslice tb R R R R R R R R R R R R R ?_)))))
  obtain ⟨q2, iq2, h⟩ := bnd h
  refine r_apM (g := vI) (w := s2) (v := [e.credit]) ([some ⟨4, [.agg [.row 1 1 0 (s).length, .row 2 1 0 (s2).length, .row 3 1 0 (s3).length, .d (vI 0)]]⟩, none, none, some (lvI s3), some ⟨9, [.d (WiTeam.d e)]⟩, some (lvI [0]), some (lvI q), some (lvI [e.credit])]) tb R R R R R R R R R R R iq2 R R R R R (q_fa tb R (r_ldW tb R R R R R R R R R (r_bslice tb R R R R R R R R R R R R R ?_)))
  obtain ⟨q3, iq3, h⟩ := bnd h
  refine r_apM (g := vI) (w := s3) (v := [(-1)]) ([some ⟨4, [.agg [.row 1 1 0 (s).length, .row 2 1 0 (s2).length, .row 3 1 0 (s3).length, .d (vI 0)]]⟩, none, none, none, some ⟨9, [.d (WiTeam.d e)]⟩, some (lvI [0]), some (lvI q), some (lvI [e.credit]), some (lvI q2), some (lvI [(-1)])]) tb R R R R R R R R R R R iq3 R R R R R (q_fa tb R (q_stE _ _ tb R (q_fa tb R (q_stE _ _ tb R (q_fa tb R (q_stE _ _ tb R (ev_endD (by kernel_rfl) (block_norm (then_norm (sw_rg (q_add R (q_movD R (eN ?_)))))))))))))
  exact ⟨m1, ⟨[(2, .ref 0 4 0 0), (3, .d (vI rv.2.2)), (17, .d (.arr 9 ((p.teams).map WiTeam.d))), (18, .d (vI (p.teams.length : Int))), (19, .d (vI (W (x + 1))))], [some ⟨4, [WiState_T1 (WiState.mk q q2 q3 0) 1 2 3]⟩, some (lvI q), some (lvI q2), some (lvI q3)]⟩, Nat.lt_succ_self _, .vw (κ := [0, 6, 8, 10]) (vK (.cons R R (.row R (.row R (.row R .nil)))) R), q, q2, q3, (W (x + 1)), h, R⟩
 intro c2
 replace h := ifN (Int.not_lt.2 c2) h
 refine eN (sw_seq (sw_condF R (sw_exit (then_exit (then_exit ?_)))))
 subst hK1
 refine block_exit (then_norm (qG (r_ldG tb R R R R R R R R R (q_stE _ _ tb R (q_asgD R (eN (sw_ret ?_)))))))
 obtain rfl := sI h
 exact f2 [1, 2, 3] (.row R (.row R (.row R .nil))) R (.cons (rc tb R) (.cons (.tmp 3) .nil)) R
theorem window_Start_pc {F : Nat} {p : WiPlan} {r : (WiState × Int)} (h : window_Start F p = some r) : PC Try.prog 18 [WiPlan.d p] (.tup [WiState.d r.1, .v (.int .i64 r.2)]) := (window_Start_scr h).toPC (.tupL (.cons (.aggL (.cons (.row rfl rfl) (.cons (.row rfl rfl) (.cons (.row rfl rfl) (.cons (.d _) .nil))))) (.cons (.d _) .nil)))
def slices_Clone_int (F : Nat) (s : (List Int)) : Option (List Int) := Option.bind (appI ([] : List Int) s) fun q => some q
theorem slices_Clone_int_scr {F : Nat} {s : (List Int)} {r : (List Int)} (h : slices_Clone_int F s = some r) : SCR Try.prog 83 (List.map T.d [.arr 1 ((s).map vI)]) [] (.row 0 1 0 (r).length) (List.map some [(lvI r)]) := by
 rw [slices_Clone_int] at h
 refine SC.of_sw Try.func83 R R R ?_
 dsimp only [argS, List.map]
 cases s with
 | nil =>
  refine SW.raw 0 1 R fun ad cap => ?_
  cases ad with
  | none =>
   replace h : some ([] : List Int) = some r := by simpa [appO, appI] using h
   refine qG (q_asgD R (eN (sw_seq (qG (q_movD R (r_nilRow (by intro o a n cap w; cases a <;> cases o <;> simp [go_sem, eqGuard] <;> rfl) R R R (eN (sw_condT R ?_))))))))
   refine SW.unraw 0 1 R ?_
   refine SW.unraw 3 1 R ?_
   refine qG (q_asgD R (eN ?_))
   refine SW.own (ts' := [(2, .row 0 1 0 (([] : List Int)).length)]) (L' := []) 1 R R (.cons .nil .nil) .nil ?_
   simp only [List.cons_append, List.nil_append]
   refine sw_ret (then_ret ?_)
   obtain rfl := sI h
   exact f2 [0] (.row R .nil) R (.cons (.tmp 2) .nil) R
  | some ad =>
   refine qG (q_asgD R (eN (sw_seq (qG (q_movD R (r_nilRaw (by intro o a n cap w; cases a <;> cases o <;> simp [go_sem, eqGuard] <;> rfl) R R R (eN (sw_condF R ?_))))))))
   refine SW.unraw 0 1 R ?_
   refine SW.unraw 3 1 R ?_
   refine sw_skip (then_norm (qG (r_bslice tb R R R R R R R R R R R R R (q_movD R ?_))))
   obtain ⟨q, iq, h⟩ := bnd h
   refine r_apEI (g := vI) (w := ([] : List Int)) (v := ([] : List Int)) ([none]) tb R R R R R R R R (by intro _; exact R) iq R R R R R (r_asgW R R R (eN (sw_ret ?_)))
   obtain rfl := sI h
   exact f2 [1] (.row R .nil) R (.cons (.tmp 2) .nil) R
 | cons x0 s =>
  refine qG (q_asgD R (eN (sw_seq (qG (q_movD R (r_nilArr (by intro o a n cap w; cases a <;> cases o <;> simp [go_sem, eqGuard] <;> rfl) R R R (eN (sw_condF R (sw_skip (then_norm (qG (r_bslice tb R R R R R R R R R R R R R (q_movD R ?_)))))))))))))
  obtain ⟨q, iq, h⟩ := bnd h
  refine r_apEI (g := vI) (w := ([] : List Int)) (v := (x0 :: s)) ([none]) tb R R R R R R R R (by intro _; exact R) iq R R R R R (r_asgW R R R (eN (sw_ret ?_)))
  obtain rfl := sI h
  exact f2 [1] (.row R .nil) R (.cons (.tmp 2) .nil) R
theorem slices_Clone_int_pc {F : Nat} {s : (List Int)} {r : (List Int)} (h : slices_Clone_int F s = some r) : PC Try.prog 83 [.arr 1 ((s).map vI)] (.arr 1 ((r).map vI)) := (slices_Clone_int_scr h).toPC (.row rfl rfl)
def window_begin (F : Nat) (p : WiPlan) (s : WiState) (sky : WiSky) : Option ((Option Table) × Int) := Option.bind (window_CheckState F p s) fun rv => if rv = 0 then (if s.next = (p.windows.length : Int) then (some (none, 9)) else (Option.bind (window_mixed F sky.kinds) fun rv2 => if rv2 = true then (some (none, 2)) else (Option.bind (window_out F sky.wind 0 1000) fun rv3 => if rv3 = true then (some (none, 2)) else (Option.bind (slices_Clone_int F s.used) fun rv4 => Option.bind (slices_Clone_int F s.credit) fun rv5 => Option.bind (slices_Clone_int F s.last) fun rv6 => Option.bind (ixO p.windows s.next) fun e => some ((some (Table.mk p.teams p.windows p.cost p.gift rv4 rv5 rv6 s.next sky.kinds sky.wind e.day e.from_ e.until_ e.from_ ([] : List (Int × Bool)) (-1) (-1) false s.next (-1) 0 (-1))), 0))))) else (some (none, rv))
theorem window_begin_sco {F : Nat} {p : WiPlan} {s : WiState} {sky : WiSky} {r : ((Option Table) × Int)} (h : window_begin F p s sky = some r) : SCO Try.prog 66 (List.map T.d [WiPlan.d p, WiState.d s, WiSky.d sky]) [] r.1 (.d (.tup [.v (.pointer none), .v (.int .i64 r.2)])) (List.map some []) (fun (tt : Table) => .tup [.ref 0 22 0 0, .d (.v (.int .i64 r.2))]) (fun (tt : Table) => List.map some [⟨22, [Table_T1 tt 1 2 3 4]⟩, (lvI tt.s_Used), (lvI tt.s_Credit), (lvI tt.s_Last), (m1w tt.done)]) := by
 rw [window_begin] at h
 refine SC.of_sw Try.func66 R R R ?_
 dsimp only [argS, List.map]
 refine qG (q_box R (q_box R (q_box R (q_asgD R (q_asgD R (eN (qG (q_ldD (y := WiPlan.d p) tb R (q_ldD (y := WiState.d s) tb R ?_)))))))))
 obtain ⟨rv, hrv, h⟩ := bnd h
 refine r_call (window_CheckState_pc hrv) (.of (by kernel_rfl)) R R R R (q_asgD R (eN (sw_seq (sw_block (qG (q_movD R ?_))))))
 refine r_neq R R R R ?_ ?_
 ·intro c
  replace h := ifN c h
  refine q_asgD R (eN (sw_condT R (qG (q_movD R (q_asgD R (q_asgD R (eN (sw_ret (block_ret (then_ret ?_))))))))))
  obtain rfl := sI h
  exact (fin_S (t := .d (.tup [.v (.pointer none), vI rv])) (L := []) (κ := []) R (.cons (.tmp 6) (.cons (.tmp 7) .nil)) (v0 R) (.inl ⟨R, R, R⟩))
 intro c
 replace h := ifP c h
 refine q_asgD R (eN (sw_condF R (qG (q_fa tb R (q_ldD (y := vI s.next) tb R (q_fa tb R (q_ldD (y := .arr 3 ((p.windows).map WiWindow.d)) tb R (q_lenM tb R ?_))))))))
 refine r_eql R R R R ?_ ?_
 ·intro c2
  replace h := ifP c2 h
  refine q_asgD R (eN (sw_condT R (qG (q_asgD R (q_asgD R (eN (sw_ret (block_ret (then_ret ?_)))))))))
  obtain rfl := sI h
  exact (fin_S (t := .d (.tup [.v (.pointer none), vI 9])) (L := []) (κ := []) R (.cons (.tmp 6) (.cons (.tmp 7) .nil)) (v0 R) (.inl ⟨R, R, R⟩))
 intro c2
 replace h := ifN c2 h
 refine q_asgD R (eN (sw_condF R (qG (q_fa tb R (q_ldD (y := .arr 1 ((sky.kinds).map vI)) tb R ?_)))))
 obtain ⟨rv2, hrv2, h⟩ := bnd h
 refine r_callB (window_mixed_pc hrv2) (.of (by kernel_rfl)) R R R R ?_ ?_
 ·intro c3
  replace h := ifP c3 h
  refine q_movD R (q_sk 3 R (q_pickT R (q_asgD R (eN (sw_condT R (qG (q_asgD R (q_asgD R (eN (sw_ret (block_ret (then_ret ?_))))))))))))
  obtain rfl := sI h
  exact (fin_S (t := .d (.tup [.v (.pointer none), vI 2])) (L := []) (κ := []) R (.cons (.tmp 6) (.cons (.tmp 7) .nil)) (v0 R) (.inl ⟨R, R, R⟩))
 intro c3
 replace h := ifF c3 h
 refine q_movD R (q_fa tb R (q_ldD (y := vI sky.wind) tb R ?_))
 obtain ⟨rv3, hrv3, h⟩ := bnd h
 refine r_callB (window_out_pc hrv3) (.of (by kernel_rfl)) R R R R ?_ ?_
 ·intro c4
  replace h := ifP c4 h
  refine q_pickF R (q_asgD R (eN (sw_condT R (qG (q_asgD R (q_asgD R (eN (sw_ret (block_ret (then_ret ?_))))))))))
  obtain rfl := sI h
  exact (fin_S (t := .d (.tup [.v (.pointer none), vI 2])) (L := []) (κ := []) R (.cons (.tmp 6) (.cons (.tmp 7) .nil)) (v0 R) (.inl ⟨R, R, R⟩))
 intro c4
 replace h := ifF c4 h
 refine q_pickF R (q_asgD R (eN (sw_condF R (sw_skip (block_norm (then_norm (sw_seq (sw_dr (by kernel_rfl) (q_fa tb R (q_ldD (y := .arr 1 ((s.used).map vI)) tb R ?_))))))))))
 obtain ⟨rv4, hrv4, h⟩ := bnd h
 refine r_callN (t' := .row 3 1 0 (rv4).length) (news' := [(lvI rv4)]) (slices_Clone_int_scr hrv4) (.of (by kernel_rfl)) R R R ((.row .nil)) R R R (q_fa tb R (q_ldD (y := .arr 1 ((s.credit).map vI)) tb R ?_))
 obtain ⟨rv5, hrv5, h⟩ := bnd h
 refine r_callN (t' := .row 4 1 0 (rv5).length) (news' := [(lvI rv5)]) (slices_Clone_int_scr hrv5) (.of (by kernel_rfl)) R R R ((.row .nil)) R R R (q_fa tb R (q_ldD (y := .arr 1 ((s.last).map vI)) tb R ?_))
 obtain ⟨rv6, hrv6, h⟩ := bnd h
 refine r_callN (t' := .row 5 1 0 (rv6).length) (news' := [(lvI rv6)]) (slices_Clone_int_scr hrv6) (.of (by kernel_rfl)) R R R ((.row .nil)) R R R (q_fa tb R (q_stE _ _ tb R (q_fa tb R (q_stE _ _ tb R (q_fa tb R (q_stE _ _ tb R (ev_endD (by kernel_rfl) (then_norm (qG (q_fa tb R (q_ldD (y := .arr 3 ((p.windows).map WiWindow.d)) tb R (q_fa tb R (q_ldD (y := vI s.next) tb R ?_)))))))))))))
 obtain ⟨e, ie, h⟩ := bnd h
 refine q_ixE tb (ix0 ie) (ix1m ie) R (q_ldE (y := WiWindow.d e) tb (ix2 (g := WiWindow.d) ie) R (r_alloc tb R R R R R (q_stE _ _ tb R (eN (qG (q_ldD (y := WiPlan.d p) tb R (r_ldG tb R R R R R R R R R (q_ldD (y := WiSky.d sky) tb R (q_ldD (y := WiWindow.d e) tb R (q_fa tb R (q_ldD (y := vI e.from_) tb R (r_makeMap R R R (q_fa tb R (q_ldD (y := vI s.next) tb R ?_))))))))))))))
 refine r_build (v := .d (.agg [vI s.next, vI (-1), vI 0, vI (-1)])) tb R R (List.cons_ne_nil _ _) R R R R R R (r_build (v := Table_T1 (Table.mk p.teams p.windows p.cost p.gift rv4 rv5 rv6 s.next sky.kinds sky.wind e.day e.from_ e.until_ e.from_ ([] : List (Int × Bool)) (-1) (-1) false s.next (-1) 0 (-1)) 3 4 5 7) tb R R (List.cons_ne_nil _ _) (by kernel_rfl) (by kernel_rfl) (by kernel_rfl) (by kernel_rfl) R R (q_box R (r_asgR R R R (q_asgD R (eN (sw_ret ?_))))))
 obtain rfl := sI h
 exact (fin_S (t := .tup [.ref 0 22 0 0, .d (vI 0)]) (L := [some ⟨22, [Table_T1 (Table.mk p.teams p.windows p.cost p.gift rv4 rv5 rv6 s.next sky.kinds sky.wind e.day e.from_ e.until_ e.from_ ([] : List (Int × Bool)) (-1) (-1) false s.next (-1) 0 (-1)) 1 2 3 4]⟩, some (lvI rv4), some (lvI rv5), some (lvI rv6), some (m1w ([] : List (Int × Bool)))]) (κ := [8, 3, 4, 5, 7]) R (.cons (.tmp 6) (.cons (.tmp 7) .nil)) (vK (.cons R R (.row R (.row R (.row R (.map R .nil))))) R) (.inr ⟨_, R, R, R⟩))
def window_table_entitled (F : Nat) (b : Table) : Option Table := some b
theorem window_table_entitled_scr {F : Nat} {b : Table} {r : Table} (h : window_table_entitled F b = some r) : SCR Try.prog 81 (List.map T.d [.el 22 (([b]).map Table.d) ((0 : Int)).toNat 0]) [] (.fn (.func 104) [] [.ref 0 1 0 0]) (List.map some [⟨1, [.d (.el 22 (([r]).map Table.d) ((0 : Int)).toNat 0)]⟩]) := by
 rw [window_table_entitled] at h
 refine SC.of_sw Try.func81 R R R ?_
 dsimp only [argS, List.map]
 refine qG (q_box R (q_asgD R (eN (qG (r_func R R R R (r_asgF R R R (eN (sw_ret ?_))))))))
 obtain rfl := sI h
 exact f2 [0] (.cons R R .nil) R (.cons (.tmp 2) .nil) R
def window_table_entitled_m (F : Nat) (b : Table) : Option Table := some b
theorem window_table_entitled_m_scr {F : Nat} {b : Table} {r : Table} (h : window_table_entitled_m F b = some r) : SCR Try.prog 81 [.ref 0 22 0 0] [some ⟨22, [Table_T1 b 1 2 3 4]⟩, some (lvI b.s_Used), some (lvI b.s_Credit), some (lvI b.s_Last), some (m1w b.done)] (.fn (.func 104) [] [.ref 5 1 0 0]) [some ⟨22, [Table_T1 r 1 2 3 4]⟩, some (lvI r.s_Used), some (lvI r.s_Credit), some (lvI r.s_Last), some (m1w r.done), some ⟨1, [.ref 0 22 0 0]⟩] := by
 rw [window_table_entitled_m] at h
 refine SC.of_sw Try.func81 R R R ?_
 dsimp only [argS, List.map]
 refine qG (q_box R (q_asgD R (eN (qG (r_func R R R R (r_asgF R R R (eN (sw_ret ?_))))))))
 obtain rfl := sI h
 exact f2 [0, 1, 2, 3, 4, 5] (.cons R R (.row R (.row R (.row R (.map R (.cons R R .nil)))))) R (.cons (.tmp 2) .nil) R
def window_at (F : Nat) (p : WiPlan) (s : WiState) (sky : WiSky) (minute : Int) : Option ((Option Table) × Int) := Option.bind (window_begin F p s sky) fun rv => optE rv.1 (if rv.2 = 0 then (none) else (some (none, rv.2))) (fun t => if rv.2 = 0 then (Option.bind (window_out F minute t.w_From t.w_Until) fun rv2 => if rv2 = true then (some (none, 7)) else (some ((some {t with minute := minute}), 0))) else (some (none, rv.2)))
theorem window_at_sco {F : Nat} {p : WiPlan} {s : WiState} {sky : WiSky} {minute : Int} {r : ((Option Table) × Int)} (h : window_at F p s sky minute = some r) : SCO Try.prog 62 (List.map T.d [WiPlan.d p, WiState.d s, WiSky.d sky, .v (.int .i64 minute)]) [] r.1 (.d (.tup [.v (.pointer none), .v (.int .i64 r.2)])) (List.map some []) (fun (tt : Table) => .tup [.ref 0 22 0 0, .d (.v (.int .i64 r.2))]) (fun (tt : Table) => List.map some [⟨22, [Table_T1 tt 1 2 3 4]⟩, (lvI tt.s_Used), (lvI tt.s_Credit), (lvI tt.s_Last), (m1w tt.done)]) := by
 rw [window_at] at h
 refine SC.of_sw Try.func62 R R R ?_
 dsimp only [argS, List.map]
 refine qG (q_box R (q_box R (q_box R (q_asgD R (q_asgD R (eN (qG (q_ldD (y := WiPlan.d p) tb R (q_ldD (y := WiState.d s) tb R (q_ldD (y := WiSky.d sky) tb R ?_))))))))))
 obtain ⟨rv, hrv, h⟩ := bnd h
 rcases Option.eq_none_or_eq_some rv.1 with nv | ⟨t, nv⟩
 ·replace h := (optN nv).symm.trans h
  refine r_callO (t' := .d (.tup [.v (.pointer none), vI rv.2])) (ls := []) (news := []) ([]) ([some ⟨4, [.d (WiPlan.d p)]⟩, some ⟨4, [.d (WiState.d s)]⟩, some ⟨2, [.d (WiSky.d sky)]⟩]) ((window_begin_sco hrv).none nv) (.of (by kernel_rfl)) R (.inl ⟨R, R, R⟩) R R R R .nil R R R .nil .nil R R R R (q_movD R (r_extD (t := .v (.pointer none)) R R R R (r_extD (t := vI rv.2) R R R R (q_asgD R (q_asgD R (eN (sw_seq (sw_block (qG (q_movD R ?_))))))))))
  refine r_neq R R R R ?_ ?_
  ·intro c
   replace h := ifN c h
   refine q_asgD R (eN (sw_condT R (qG (q_movD R (q_asgD R (q_asgD R (eN (sw_ret (block_ret (then_ret ?_))))))))))
   obtain rfl := sI h
   exact (fin_S (t := .d (.tup [.v (.pointer none), vI rv.2])) (L := []) (κ := []) R (.cons (.tmp 8) (.cons (.tmp 9) .nil)) (v0 R) (.inl ⟨R, R, R⟩))
  intro c
  replace h := ifP c h
  cases h
 replace h := (optS nv).symm.trans h
 refine r_callO (t' := .tup [.ref 3 22 0 0, .d (vI rv.2)]) (ls := []) (news := [⟨22, [Table_T1 t 1 2 3 4]⟩, (lvI t.s_Used), (lvI t.s_Credit), (lvI t.s_Last), (m1w t.done)]) ([]) ([some ⟨4, [.d (WiPlan.d p)]⟩, some ⟨4, [.d (WiState.d s)]⟩, some ⟨2, [.d (WiSky.d sky)]⟩, some ⟨22, [Table_T1 t 4 5 6 7]⟩, some (lvI t.s_Used), some (lvI t.s_Credit), some (lvI t.s_Last), some (m1w t.done)]) ((window_begin_sco hrv).some nv) (.of (by kernel_rfl)) R (.inl ⟨R, R, R⟩) R R R R .nil R R R .nil ((.cons R (.row (.row (.row (.map .nil)))))) R R R R ?_
 refine r_movT (.tup [.ref 3 22 0 0, .d (vI rv.2)]) R R R (r_ext (t := .ref 3 22 0 0) R R R R (r_ext (t := .d (vI rv.2)) R R R R (r_asgR R R R (q_asgD R (eN (sw_seq (sw_block (qG (q_movD R ?_)))))))))
 refine r_neq R R R R ?_ ?_
 ·intro c2
  replace h := ifN c2 h
  refine q_asgD R (eN (sw_condT R (qG (q_movD R (q_asgD R (q_asgD R (eN (sw_ret (block_ret (then_ret ?_))))))))))
  obtain rfl := sI h
  exact (fin_S (t := .d (.tup [.v (.pointer none), vI rv.2])) (L := []) (κ := []) R (.cons (.tmp 8) (.cons (.tmp 9) .nil)) (v0 R) (.inl ⟨R, R, R⟩))
 intro c2
 replace h := ifP c2 h
 refine q_asgD R (eN (sw_condF R (sw_seq (sw_dr (by kernel_rfl) (q_movD R (r_movR R R R (r_nilRef R R R (q_fa tb R (q_fa tb R (q_ldD (y := vI t.w_From) tb R (r_movR R R R (r_nilRef R R R (q_fa tb R (q_fa tb R (q_ldD (y := vI t.w_Until) tb R ?_)))))))))))))))
 obtain ⟨rv2, hrv2, h⟩ := bnd h
 refine r_callB (window_out_pc hrv2) (.of (by kernel_rfl)) R R R R ?_ ?_
 ·intro c3
  replace h := ifP c3 h
  refine q_asgD R (ev_endD (by kernel_rfl) (then_norm (sw_condT R (qG (q_asgD R (q_asgD R (eN (sw_ret (block_ret (then_ret ?_))))))))))
  obtain rfl := sI h
  exact (fin_S (t := .d (.tup [.v (.pointer none), vI 7])) (L := []) (κ := []) R (.cons (.tmp 8) (.cons (.tmp 9) .nil)) (v0 R) (.inl ⟨R, R, R⟩))
 intro c3
 replace h := ifF c3 h
 refine q_asgD R (ev_endD (by kernel_rfl) (then_norm (sw_condF R (sw_skip (block_norm (then_norm (qG (r_movR R R R (q_movD R (r_nilRef R R R (q_fa tb R (q_stE _ ([some ⟨4, [.d (WiPlan.d p)]⟩, some ⟨4, [.d (WiState.d s)]⟩, some ⟨2, [.d (WiSky.d sky)]⟩, some ⟨22, [Table_T1 {t with minute := minute} 4 5 6 7]⟩, some (lvI t.s_Used), some (lvI t.s_Credit), some (lvI t.s_Last), some (m1w t.done)]) tb R (eN (qG (r_movR R R R (r_asgR R R R (q_asgD R (eN (sw_ret ?_)))))))))))))))))))
 obtain rfl := sI h
 exact (fin_S (t := .tup [.ref 0 22 0 0, .d (vI 0)]) (L := [some ⟨22, [Table_T1 {t with minute := minute} 1 2 3 4]⟩, some (lvI t.s_Used), some (lvI t.s_Credit), some (lvI t.s_Last), some (m1w t.done)]) (κ := [3, 4, 5, 6, 7]) R (.cons (.tmp 8) (.cons (.tmp 9) .nil)) (vK (.cons R R (.row R (.row R (.row R (.map R .nil))))) R) (.inr ⟨_, R, R, R⟩))
def slices_Collect_int_window_table_entitled_1 (F : Nat) (c : Table) : Option (List Int) := Option.bind (slices_AppendSeq_int_n_window_table_entitled_1 F c) fun rv => some rv
theorem slices_Collect_int_window_table_entitled_1_scr {F : Nat} {c : Table} {r : (List Int)} (h : slices_Collect_int_window_table_entitled_1 F c = some r) : SCR Try.prog 102 [.fn (.func 104) [] [.d (.el 1 (([c]).map (fun x => D.el 22 [Table.d x] 0 0)) ((0 : Int)).toNat 0)]] [] (.row 0 1 0 (r).length) (List.map some [(lvI r)]) := by
 rw [slices_Collect_int_window_table_entitled_1] at h
 refine SC.of_sw Try.func102 R R R ?_
 dsimp only [argS, List.map]
 refine qG (q_asgD R (eN (qG (r_movF R R R ?_))))
 obtain ⟨rv, hrv, h⟩ := bnd h
 refine r_callX (t' := .row 0 1 0 (rv).length) (news' := [(lvI rv)]) (slices_AppendSeq_int_n_window_table_entitled_1_scr hrv) R ((.row (fun _ => rfl) .nil)) (.of (by kernel_rfl)) R R ((.cons (.d (.d _)) (.cons (.fnC (.cons (.d (.d _)) .nil)) .nil))) R ((.row .nil)) R R R ?_
 refine r_asgW R R R (eN (sw_ret ?_))
 obtain rfl := sI h
 exact f2 [0] (.row R .nil) R (.cons (.tmp 2) .nil) R
def slices_SortedFunc_int_window_table_entitled_1_window_table_order (F : Nat) (c : Table) (t : Table) : Option (List Int) := Option.bind (slices_Collect_int_window_table_entitled_1 F c) fun rv => Option.bind (lenO (slices_SortFunc_int_m_window_table_order F rv t) rv) fun rv2 => some rv2
theorem slices_SortedFunc_int_window_table_entitled_1_window_table_order_scr {F : Nat} {c : Table} {t : Table} {r : (List Int)} (h : slices_SortedFunc_int_window_table_entitled_1_window_table_order F c t = some r) : SCR Try.prog 80 [.fn (.func 104) [] [.d (.el 1 (([c]).map (fun x => D.el 22 [Table.d x] 0 0)) ((0 : Int)).toNat 0)], .fn (.func 82) [.d (.el 22 (([t]).map Table.d) ((0 : Int)).toNat 0)] []] [] (.row 0 1 0 (r).length) (List.map some [(lvI r)]) := by
 rw [slices_SortedFunc_int_window_table_entitled_1_window_table_order] at h
 refine SC.of_sw Try.func80 R R R ?_
 dsimp only [argS, List.map]
 refine qG (q_asgD R (eN (qG (r_movF R R R ?_))))
 obtain ⟨rv, hrv, h⟩ := bnd h
 refine r_callX (t' := .row 0 1 0 (rv).length) (news' := [(lvI rv)]) (slices_Collect_int_window_table_entitled_1_scr hrv) R ((.row (fun _ => rfl) .nil)) (.of (by kernel_rfl)) R R ((.cons (.fnC (.cons (.d (.d _)) .nil)) .nil)) R ((.row .nil)) R R R ?_
 refine r_asgW R R R (eN (qG (r_movW R R R (r_movF R R R ?_))))
 obtain ⟨rv2, hrv2, h⟩ := bnd h
 refine r_callO (t' := .d (.tup [])) (ls := [some (lvI rv2)]) (news := []) ([0]) ([some (lvI rv2)]) (slices_SortFunc_int_m_window_table_order_scr (lenO_eq hrv2).1) (.of (by kernel_rfl)) R (.inl ⟨R, R, R⟩) R R R R ((.row R .nil)) R R R ((.row .nil)) .nil R R R R ?_
 first | (dsimp only [WiState_T1, Table_T1]; rw [← (lenO_eq hrv2).2]) | rw [← (lenO_eq hrv2).2] | skip
 refine eN (qG (r_movW R R R (r_asgW R R R (eN (sw_ret ?_)))))
 obtain rfl := sI h
 exact f2 [0] (.row R .nil) R (.cons (.tmp 4) .nil) R
def window_table_rights (F : Nat) (b : Table) : Option (List Int) := Option.bind (window_table_entitled F b) fun rv => Option.bind (slices_SortedFunc_int_window_table_entitled_1_window_table_order F rv b) fun rv2 => some rv2
theorem window_table_rights_scr {F : Nat} {b : Table} {r : (List Int)} (h : window_table_rights F b = some r) : SCR Try.prog 63 (List.map T.d [.el 22 (([b]).map Table.d) ((0 : Int)).toNat 0]) [] (.row 0 1 0 (r).length) (List.map some [(lvI r)]) := by
 rw [window_table_rights] at h
 refine SC.of_sw Try.func63 R R R ?_
 dsimp only [argS, List.map]
 refine qG (q_asgD R (eN (qG (q_movD R ?_))))
 obtain ⟨rv, hrv, h⟩ := bnd h
 refine r_callN (t' := .fn (.func 104) [] [.ref 0 1 0 0]) (news' := [⟨1, [.d (.el 22 (([rv]).map Table.d) ((0 : Int)).toNat 0)]⟩]) (window_table_entitled_scr hrv) (.of (by kernel_rfl)) R R R ((.cons R .nil)) R R R (q_movD R (r_func R R R R ?_))
 obtain ⟨rv2, hrv2, h⟩ := bnd h
 refine r_callX (t' := .row 1 1 0 (rv2).length) (news' := [(lvI rv2)]) (slices_SortedFunc_int_window_table_entitled_1_window_table_order_scr hrv2) R ((.row (fun _ => rfl) .nil)) (.of (by kernel_rfl)) R R ((.cons (.fnC (.cons (.d (.ref R (.d _))) .nil)) (.cons (.fnF (.cons (.d (.d _)) .nil) .nil) .nil))) R ((.row .nil)) R R R ?_
 refine r_asgW R R R (eN (sw_ret ?_))
 obtain rfl := sI h
 exact f2 [1] (.row R .nil) R (.cons (.tmp 2) .nil) R
theorem window_table_rights_pc {F : Nat} {b : Table} {r : (List Int)} (h : window_table_rights F b = some r) : PC Try.prog 63 [.el 22 (([b]).map Table.d) ((0 : Int)).toNat 0] (.arr 1 ((r).map vI)) := (window_table_rights_scr h).toPC (.row rfl rfl)
def window_table_turn (F : Nat) (b : Table) : Option Int := if 0 ≤ b.given then (some b.given) else (if b.over = true then (some b.given) else (Option.bind (window_table_rights F b) fun rv => if 0 < (rv.length : Int) then (Option.bind (ixO rv 0) fun e => some e) else (some (-1))))
theorem window_table_turn_pc {F : Nat} {b : Table} {r : Int} (h : window_table_turn F b = some r) : PC Try.prog 59 [.el 22 (([b]).map Table.d) ((0 : Int)).toNat 0] (.v (.int .i64 r)) := by
 rw [window_table_turn] at h
 refine SC.of_sw Try.func59 R R R ?_
 dsimp only [argS, List.map]
 refine qG (q_asgD R (eN (sw_seq (qG (q_movD R (r_nilEl R R R (q_faE tb R (q_ldE (y := vI b.given) tb (ix2 (g := Table.d) (R : ixO [b] 0 = some b)) R ?_))))))))
 refine r_geq R R R R ?_ ?_
 ·intro c
  replace h := ifP c h
  refine q_movD R (q_sk 4 R (q_pickT R (eN (sw_condT R (qG (q_movD R (r_nilEl R R R (q_faE tb R (q_ldE (y := vI b.given) tb (ix2 (g := Table.d) (R : ixO [b] 0 = some b)) R (q_asgD R (eN (sw_ret (then_ret ?_)))))))))))))
  obtain rfl := sI h
  exact f1 2 R
 intro c
 replace h := ifN (Int.not_le.2 c) h
 refine q_movD R (q_movD R (r_nilEl R R R (q_faE tb R (q_ldE (y := .v (.bool b.over)) tb (ix2 (g := Table.d) (R : ixO [b] 0 = some b)) R ?_))))
 with_reducible apply ev_lit
 ·intro c2
  replace h := ifP c2 h
  refine q_pickF R (eN (sw_condT R (qG (q_movD R (r_nilEl R R R (q_faE tb R (q_ldE (y := vI b.given) tb (ix2 (g := Table.d) (R : ixO [b] 0 = some b)) R (q_asgD R (eN (sw_ret (then_ret ?_)))))))))))
  obtain rfl := sI h
  exact f1 2 R
 intro c2
 replace h := ifF c2 h
 refine q_pickF R (eN (sw_condF R (sw_skip (then_norm (sw_seq (qG (q_movD R ?_)))))))
 obtain ⟨rv, hrv, h⟩ := bnd h
 refine r_callN (t' := .row 0 1 0 (rv).length) (news' := [(lvI rv)]) (window_table_rights_scr hrv) (.of (by kernel_rfl)) R R R ((.row .nil)) R R R (r_asgW R R R (eN (qG (r_movW R R R (r_lenR tb R R R R R ?_)))))
 refine r_gtr R R R R ?_ ?_
 ·intro c3
  replace h := ifP c3 h
  refine eN (sw_condT R (qG (r_movW R R R ?_)))
  obtain ⟨e, ie, h⟩ := bnd h
  refine r_ixI tb R R R R R R (ix0 ie) (ix1 ie) R R ?_
  refine r_ldD (y := vI e) tb R R R R (ix2 (g := fun a => T.d (vI a)) ie) R R R R ?_
  refine q_asgD R (eN (sw_ret (then_ret ?_)))
  obtain rfl := sI h
  exact f1 2 R
 intro c3
 replace h := ifN (Int.not_lt.2 c3) h
 refine eN (sw_condF R (sw_skip (then_norm (qG (q_asgD R (eN (sw_ret ?_)))))))
 obtain rfl := sI h
 exact f1 2 R
def window_Rights (F : Nat) (p : WiPlan) (s : WiState) (sky : WiSky) (minute : Int) : Option ((List Int) × Int) := Option.bind (window_at F p s sky minute) fun rv => optE rv.1 (if rv.2 = 0 then (none) else (some (([] : List Int), rv.2))) (fun t => if rv.2 = 0 then (Option.bind (window_table_rights F t) fun rv2 => some (rv2, 0)) else (some (([] : List Int), rv.2)))
theorem window_Rights_scr {F : Nat} {p : WiPlan} {s : WiState} {sky : WiSky} {minute : Int} {r : ((List Int) × Int)} (h : window_Rights F p s sky minute = some r) : SCR Try.prog 30 (List.map T.d [WiPlan.d p, WiState.d s, WiSky.d sky, .v (.int .i64 minute)]) [] (.tup [.row 0 1 0 (r.1).length, .d (.v (.int .i64 r.2))]) (List.map some [(lvI r.1)]) := by
 rw [window_Rights] at h
 refine SC.of_sw Try.func30 R R R ?_
 dsimp only [argS, List.map]
 refine qG (q_box R (q_box R (q_box R (q_asgD R (q_asgD R (eN (qG (q_ldD (y := WiPlan.d p) tb R (q_ldD (y := WiState.d s) tb R (q_ldD (y := WiSky.d sky) tb R (q_movD R ?_)))))))))))
 obtain ⟨rv, hrv, h⟩ := bnd h
 rcases Option.eq_none_or_eq_some rv.1 with nv | ⟨t, nv⟩
 ·replace h := (optN nv).symm.trans h
  refine r_callO (t' := .d (.tup [.v (.pointer none), vI rv.2])) (ls := []) (news := []) ([]) ([some ⟨4, [.d (WiPlan.d p)]⟩, some ⟨4, [.d (WiState.d s)]⟩, some ⟨2, [.d (WiSky.d sky)]⟩]) ((window_at_sco hrv).none nv) (.of (by kernel_rfl)) R (.inl ⟨R, R, R⟩) R R R R .nil R R R .nil .nil R R R R (q_movD R (r_extD (t := .v (.pointer none)) R R R R (r_extD (t := vI rv.2) R R R R (q_asgD R (q_asgD R (eN (sw_seq (qG (q_movD R ?_)))))))))
  refine r_neq R R R R ?_ ?_
  ·intro c
   replace h := ifN c h
   refine eN (sw_condT R (qG (q_movD R (q_asgD R (q_asgD R (eN ?_))))))
   refine SW.own (ts' := [(8, .row 3 1 0 (([] : List Int)).length), (9, .d (vI rv.2))]) (L' := [some ⟨4, [.d (WiPlan.d p)]⟩, some ⟨4, [.d (WiState.d s)]⟩, some ⟨2, [.d (WiSky.d sky)]⟩]) 1 R R (.cons .nil (.cons (.same _) .nil)) (.same (.same (.same .nil))) ?_
   simp only [List.cons_append, List.nil_append]
   refine sw_ret (then_ret ?_)
   obtain rfl := sI h
   exact f2 [3] (.row R .nil) R (.cons (.tmp 8) (.cons (.tmp 9) .nil)) R
  intro c
  replace h := ifP c h
  cases h
 replace h := (optS nv).symm.trans h
 refine r_callO (t' := .tup [.ref 3 22 0 0, .d (vI rv.2)]) (ls := []) (news := [⟨22, [Table_T1 t 1 2 3 4]⟩, (lvI t.s_Used), (lvI t.s_Credit), (lvI t.s_Last), (m1w t.done)]) ([]) ([some ⟨4, [.d (WiPlan.d p)]⟩, some ⟨4, [.d (WiState.d s)]⟩, some ⟨2, [.d (WiSky.d sky)]⟩, some ⟨22, [Table_T1 t 4 5 6 7]⟩, some (lvI t.s_Used), some (lvI t.s_Credit), some (lvI t.s_Last), some (m1w t.done)]) ((window_at_sco hrv).some nv) (.of (by kernel_rfl)) R (.inl ⟨R, R, R⟩) R R R R .nil R R R .nil ((.cons R (.row (.row (.row (.map .nil)))))) R R R R ?_
 refine r_movT (.tup [.ref 3 22 0 0, .d (vI rv.2)]) R R R (r_ext (t := .ref 3 22 0 0) R R R R (r_ext (t := .d (vI rv.2)) R R R R (r_asgR R R R (q_asgD R (eN (sw_seq (qG (q_movD R ?_))))))))
 refine r_neq R R R R ?_ ?_
 ·intro c2
  replace h := ifN c2 h
  refine eN (sw_condT R (qG (q_movD R (q_asgD R (q_asgD R (eN ?_))))))
  refine SW.own (ts' := [(8, .row 8 1 0 (([] : List Int)).length), (9, .d (vI rv.2))]) (L' := [some ⟨4, [.d (WiPlan.d p)]⟩, some ⟨4, [.d (WiState.d s)]⟩, some ⟨2, [.d (WiSky.d sky)]⟩, some ⟨22, [Table_T1 t 4 5 6 7]⟩, some (lvI t.s_Used), some (lvI t.s_Credit), some (lvI t.s_Last), some (m1w t.done)]) 1 R R (.cons .nil (.cons (.same _) .nil)) (.same (.same (.same (.same (.same (.same (.same (.same .nil)))))))) ?_
  simp only [List.cons_append, List.nil_append]
  refine sw_ret (then_ret ?_)
  obtain rfl := sI h
  exact f2 [8] (.row R .nil) R (.cons (.tmp 8) (.cons (.tmp 9) .nil)) R
 intro c2
 replace h := ifP c2 h
 refine eN (sw_condF R (sw_skip (then_norm (qG (r_movR R R R ?_)))))
 obtain ⟨rv2, hrv2, h⟩ := bnd h
 refine r_callLN (t' := .row 8 1 0 (rv2).length) (news' := [(lvI rv2)]) (window_table_rights_scr hrv2) R ((.row (fun _ => rfl) .nil)) (.of (by kernel_rfl)) R R ((.cons (.ref R (.aggL (.cons (.d _) (.cons (.d _) (.cons (.d _) (.cons (.d _) (.cons (.row R R) (.cons (.row R R) (.cons (.row R R) (.cons (.d _) (.cons (.d _) (.cons (.d _) (.cons (.d _) (.cons (.d _) (.cons (.d _) (.cons (.d _) (.cons (.mpM R) (.cons (.d _) (.cons (.d _) (.cons (.d _) (.cons (.d _) (.cons (.d _) (.cons (.d _) (.cons (.d _) .nil)))))))))))))))))))))))) .nil)) R ((.row .nil)) R R R ?_
 refine r_asgW R R R (q_asgD R (eN (sw_ret ?_)))
 obtain rfl := sI h
 exact f2 [8] (.row R .nil) R (.cons (.tmp 8) (.cons (.tmp 9) .nil)) R
theorem window_Rights_pc {F : Nat} {p : WiPlan} {s : WiState} {sky : WiSky} {minute : Int} {r : ((List Int) × Int)} (h : window_Rights F p s sky minute = some r) : PC Try.prog 30 [WiPlan.d p, WiState.d s, WiSky.d sky, .v (.int .i64 minute)] (.tup [.arr 1 ((r.1).map vI), .v (.int .i64 r.2)]) := (window_Rights_scr h).toPC (.tupL (.cons (.row rfl rfl) (.cons (.d _) .nil)))
def window_table_receivers (F : Nat) (b : Table) : Option (Option (List Int)) := Option.bind (window_table_turn F b) fun rv => if rv < 0 then (some none) else (if 0 ≤ b.given then (some none) else (Option.bind (window_table_rights F b) fun rv2 => if rv2.length = 0 then none else if rv2.length = 1 then (some none) else (some (some rv2))))
theorem window_table_receivers_sco {F : Nat} {b : Table} {r : (Option (List Int))} (h : window_table_receivers F b = some r) : SCO Try.prog 64 (List.map T.d [.el 22 (([b]).map Table.d) ((0 : Int)).toNat 0]) [] r (.d (.arr 1 ((([] : List Int)).map vI))) (List.map some []) (fun (tt : (List Int)) => .row 0 1 1 ((tt).length - 1)) (fun (tt : (List Int)) => List.map some [(lvI tt)]) := by
 rw [window_table_receivers] at h
 refine SC.of_sw Try.func64 R R R ?_
 dsimp only [argS, List.map]
 refine qG (q_asgD R (eN (sw_seq (qG (q_movD R ?_)))))
 obtain ⟨rv, hrv, h⟩ := bnd h
 refine r_call (window_table_turn_pc hrv) (.of (by kernel_rfl)) R R R R ?_
 refine r_lss R R R R ?_ ?_
 ·intro c
  replace h := ifP c h
  refine q_movD R (q_sk 5 R (q_pickT R (eN (sw_condT R (qG (q_asgD R (eN ?_)))))))
  refine SW.unraw 2 1 R ?_
  refine sw_ret (then_ret ?_)
  obtain rfl := sI h
  exact (fin_S (t := .d (.arr 1 ((([] : List Int)).map vI))) (L := []) (κ := []) R (.cons (.tmp 2) .nil) (v0 R) (.inl ⟨R, R, R⟩))
 intro c
 replace h := ifN (Int.not_lt.2 c) h
 refine q_movD R (q_movD R (r_nilEl R R R (q_faE tb R (q_ldE (y := vI b.given) tb (ix2 (g := Table.d) (R : ixO [b] 0 = some b)) R ?_))))
 refine r_geq R R R R ?_ ?_
 ·intro c2
  replace h := ifP c2 h
  refine q_pickF R (eN (sw_condT R (qG (q_asgD R (eN ?_)))))
  refine SW.unraw 2 1 R ?_
  refine sw_ret (then_ret ?_)
  obtain rfl := sI h
  exact (fin_S (t := .d (.arr 1 ((([] : List Int)).map vI))) (L := []) (κ := []) R (.cons (.tmp 2) .nil) (v0 R) (.inl ⟨R, R, R⟩))
 intro c2
 replace h := ifN (Int.not_le.2 c2) h
 refine q_pickF R (eN (sw_condF R (sw_skip (then_norm (qG (q_movD R ?_))))))
 obtain ⟨rv2, hrv2, h⟩ := bnd h
 refine r_callN (t' := .row 0 1 0 (rv2).length) (news' := [(lvI rv2)]) (window_table_rights_scr hrv2) (.of (by kernel_rfl)) R R R ((.row .nil)) R R R ?_
 by_cases c3 : rv2.length = 0
 ·cases (if_pos c3).symm.trans h
 replace h := ifN c3 h
 by_cases c4 : rv2.length = 1
 ·replace h := ifP c4 h
  refine r_slRowE (p := 1) tb R R R R R R c4 R R ?_
  refine q_asgD R (eN (sw_ret ?_))
  obtain rfl := sI h
  exact (fin_S (t := .d (.arr 1 ((([] : List Int)).map vI))) (L := []) (κ := []) R (.cons (.tmp 2) .nil) (v0 R) (.inl ⟨R, R, R⟩))
 replace h := ifN c4 h
 refine r_slRow (p := 1) tb R R R R R R (by omega) R R ?_
 refine r_asgW R R R (eN (sw_ret ?_))
 obtain rfl := sI h
 exact (fin_S (t := .row 0 1 1 ((rv2).length - 1)) (L := [some (lvI rv2)]) (κ := [0]) R (.cons (.tmp 2) .nil) (vK (.row R .nil) R) (.inr ⟨_, R, R, R⟩))
def window_must (F : Nat) (is : Bool) (e : Int) : Option (Except Int Unit) := if is = true then (some (.ok ())) else (some (.error e))
theorem window_must_scx {F : Nat} {is : Bool} {e : Int} {r : (Except Int Unit)} (h : window_must F is e = some r) : SCX Try.prog 98 [.d (.v (.bool is)), .d (.v (.int .i64 e))] [] r 29 (fun (a : Unit) => .d (.tup [])) (fun (a : Unit) => []) := by
 rw [window_must] at h
 refine SC.of_sw Try.func98 R R R ?_
 dsimp only [argS, List.map]
 refine qG (q_movD R ?_)
 with_reducible apply ev_lit
 ·intro c
  replace h := ifP c h
  refine r_notT R R R (eN (sw_condF R (sw_skip ?_)))
  obtain rfl := sI h
  exact fin_n (fin_S (t := .d (.tup [])) (L := []) (κ := []) R .nil (v0 R) (.inl ⟨_, R, R, R⟩))
 intro c
 replace h := ifF c h
 refine r_notF R R R (eN (sw_condT R (sw_rgP (q_movD R (r_iface tb R R R R R (ev_pan ?_))))))
 (with_reducible apply op_panicD); (iterate 2 exact rfl)
 obtain rfl := sI h
 exact fin_pX (L := []) (κ := []) (v0 R) (.inr ⟨_, R, R⟩)
def window_table_scrub_m (F : Nat) (b : Table) (t : Int) (x : WiTurn) : Option (Except Int Table) := if x.to_ = 0 then (Option.bind (window_out F x.at_ b.minute b.w_Until) fun rv => Option.bind (window_must F (!rv) 7) fun rv2 => exE rv2 (fun x2 => some (.error x2)) (fun v => some (.ok {b with minute := x.at_, done := (mset b.done t true), given := (-1)}))) else (Option.bind (window_must F false 7) fun rv3 => exE rv3 (fun x3 => some (.error x3)) (fun v2 => some (.ok {b with minute := x.at_, done := (mset b.done t true), given := (-1)})))
theorem window_table_scrub_m_scx {F : Nat} {b : Table} {t : Int} {x : WiTurn} {r : (Except Int Table)} (h : window_table_scrub_m F b t x = some r) : SCX Try.prog 100 [.ref 0 22 0 0, .d (.v (.int .i64 t)), .d (WiTurn.d x)] [some ⟨22, [Table_T1 b 1 2 3 4]⟩, some (lvI b.s_Used), some (lvI b.s_Credit), some (lvI b.s_Last), some (m1w b.done)] r 29 (fun (a : Table) => .d (.tup [])) (fun (a : Table) => [some ⟨22, [Table_T1 a 1 2 3 4]⟩, some (lvI a.s_Used), some (lvI a.s_Credit), some (lvI a.s_Last), some (m1w a.done)]) := by
 rw [window_table_scrub_m] at h
 refine SC.of_sw Try.func100 R R R ?_
 dsimp only [argS, List.map]
 refine qG (q_box R (eN (sw_seq (sw_drP (by kernel_rfl) (q_fa tb R (q_ldD (y := vI x.to_) tb R ?_))))))
 refine r_eql R R R R ?_ ?_
 ·intro c
  replace h := ifP c h
  refine q_movD R (q_fa tb R (q_ldD (y := vI x.at_) tb R (r_movR R R R (r_nilRef R R R (q_fa tb R (q_ldD (y := vI b.minute) tb R (r_movR R R R (r_nilRef R R R (q_fa tb R (q_fa tb R (q_ldD (y := vI b.w_Until) tb R ?_)))))))))))
  obtain ⟨rv, hrv, h⟩ := bnd h
  refine r_call (window_out_pc hrv) (.of (by kernel_rfl)) R R R R (r_not R R R (q_pickT R ?_))
  obtain ⟨rv2, hrv2, h⟩ := bnd h
  rcases ex_or rv2 with ⟨x2, nv⟩ | ⟨v, nv⟩
  ·replace h := (exN nv).symm.trans h
   refine ev_panD (by kernel_rfl) (by kernel_rfl) ?_
   (with_reducible apply op_call []); exact (window_must_scx hrv2).err nv; exact rfl; exact .of (by kernel_rfl); exact rfl; exact .inl ⟨rfl, rfl, rfl⟩; (iterate 4 exact rfl); exact .nil; exact rfl
   intro cnt
   refine then_pan ?_
   obtain rfl := sI h
   exact fin_pX (L := [some ⟨22, [Table_T1 b 1 2 3 4]⟩, some (lvI b.s_Used), some (lvI b.s_Credit), some (lvI b.s_Last), some (m1w b.done)]) (κ := [0, 1, 2, 3, 4]) (vK (.cons R R (.row R (.row R (.row R (.map R .nil))))) R) (.inr ⟨_, R, R⟩)
  replace h := (exO nv).symm.trans h
  refine r_callO (t' := .d (.tup [])) (ls := []) (news := []) ([]) ([some ⟨22, [Table_T1 b 1 2 3 4]⟩, some (lvI b.s_Used), some (lvI b.s_Credit), some (lvI b.s_Last), some (m1w b.done), some ⟨3, [.d (WiTurn.d x)]⟩]) ((window_must_scx hrv2).ok nv) (.of (by kernel_rfl)) R (.inl ⟨R, R, R⟩) R R R R .nil R R R .nil .nil R R R R (ev_endPD (by kernel_rfl) (then_norm (qG (r_movR R R R (r_nilRef R R R (q_fa tb R (r_ldT (.mp 4) tb R R R R R R R R R (q_movD R ?_))))))))
  refine r_mset (vf := fun b => .v (.bool b)) (v := true) (q := (mset b.done t true)) ([some ⟨22, [Table_T1 {b with done := (mset b.done t true)} 1 2 3 4]⟩, some (lvI b.s_Used), some (lvI b.s_Credit), some (lvI b.s_Last), some (m1w (mset b.done t true)), some ⟨3, [.d (WiTurn.d x)]⟩]) R R R R R R R R R ?_
  refine eN (sw_dr (by kernel_rfl) (r_movR R R R (r_movR R R R (q_fa tb R (q_ldD (y := vI x.at_) tb R (r_nilRef R R R (q_fa tb R (q_stE _ ([some ⟨22, [Table_T1 {b with done := (mset b.done t true), given := (-1)} 1 2 3 4]⟩, some (lvI b.s_Used), some (lvI b.s_Credit), some (lvI b.s_Last), some (m1w (mset b.done t true)), some ⟨3, [.d (WiTurn.d x)]⟩]) tb R (r_nilRef R R R (q_fa tb R ?_))))))))))
  refine q_stE _ ([some ⟨22, [Table_T1 {b with minute := x.at_, done := (mset b.done t true), given := (-1)} 1 2 3 4]⟩, some (lvI b.s_Used), some (lvI b.s_Credit), some (lvI b.s_Last), some (m1w (mset b.done t true)), some ⟨3, [.d (WiTurn.d x)]⟩]) tb R (ev_endD (by kernel_rfl) ?_)
  obtain rfl := sI h
  exact fin_n (fin_S (t := .d (.tup [])) (L := [some ⟨22, [Table_T1 {b with minute := x.at_, done := (mset b.done t true), given := (-1)} 1 2 3 4]⟩, some (lvI b.s_Used), some (lvI b.s_Credit), some (lvI b.s_Last), some (m1w (mset b.done t true))]) (κ := [0, 1, 2, 3, 4]) R .nil (vK (.cons R R (.row R (.row R (.row R (.map R .nil))))) R) (.inl ⟨_, R, R, R⟩))
 intro c
 replace h := ifN c h
 refine q_movD R (q_sk 13 R (q_pickF R ?_))
 obtain ⟨rv3, hrv3, h⟩ := bnd h
 rcases ex_or rv3 with ⟨x3, nv2⟩ | ⟨v2, nv2⟩
 ·replace h := (exN nv2).symm.trans h
  refine ev_panD (by kernel_rfl) (by kernel_rfl) ?_
  (with_reducible apply op_call []); exact (window_must_scx hrv3).err nv2; exact rfl; exact .of (by kernel_rfl); exact rfl; exact .inl ⟨rfl, rfl, rfl⟩; (iterate 4 exact rfl); exact .nil; exact rfl
  intro cnt
  refine then_pan ?_
  obtain rfl := sI h
  exact fin_pX (L := [some ⟨22, [Table_T1 b 1 2 3 4]⟩, some (lvI b.s_Used), some (lvI b.s_Credit), some (lvI b.s_Last), some (m1w b.done)]) (κ := [0, 1, 2, 3, 4]) (vK (.cons R R (.row R (.row R (.row R (.map R .nil))))) R) (.inr ⟨_, R, R⟩)
 replace h := (exO nv2).symm.trans h
 refine r_callO (t' := .d (.tup [])) (ls := []) (news := []) ([]) ([some ⟨22, [Table_T1 b 1 2 3 4]⟩, some (lvI b.s_Used), some (lvI b.s_Credit), some (lvI b.s_Last), some (m1w b.done), some ⟨3, [.d (WiTurn.d x)]⟩]) ((window_must_scx hrv3).ok nv2) (.of (by kernel_rfl)) R (.inl ⟨R, R, R⟩) R R R R .nil R R R .nil .nil R R R R (ev_endPD (by kernel_rfl) (then_norm (qG (r_movR R R R (r_nilRef R R R (q_fa tb R (r_ldT (.mp 4) tb R R R R R R R R R (q_movD R ?_))))))))
 refine r_mset (vf := fun b => .v (.bool b)) (v := true) (q := (mset b.done t true)) ([some ⟨22, [Table_T1 {b with done := (mset b.done t true)} 1 2 3 4]⟩, some (lvI b.s_Used), some (lvI b.s_Credit), some (lvI b.s_Last), some (m1w (mset b.done t true)), some ⟨3, [.d (WiTurn.d x)]⟩]) R R R R R R R R R ?_
 refine eN (sw_dr (by kernel_rfl) (r_movR R R R (r_movR R R R (q_fa tb R (q_ldD (y := vI x.at_) tb R (r_nilRef R R R (q_fa tb R (q_stE _ ([some ⟨22, [Table_T1 {b with done := (mset b.done t true), given := (-1)} 1 2 3 4]⟩, some (lvI b.s_Used), some (lvI b.s_Credit), some (lvI b.s_Last), some (m1w (mset b.done t true)), some ⟨3, [.d (WiTurn.d x)]⟩]) tb R (r_nilRef R R R (q_fa tb R ?_))))))))))
 refine q_stE _ ([some ⟨22, [Table_T1 {b with minute := x.at_, done := (mset b.done t true), given := (-1)} 1 2 3 4]⟩, some (lvI b.s_Used), some (lvI b.s_Credit), some (lvI b.s_Last), some (m1w (mset b.done t true)), some ⟨3, [.d (WiTurn.d x)]⟩]) tb R (ev_endD (by kernel_rfl) ?_)
 obtain rfl := sI h
 exact fin_n (fin_S (t := .d (.tup [])) (L := [some ⟨22, [Table_T1 {b with minute := x.at_, done := (mset b.done t true), given := (-1)} 1 2 3 4]⟩, some (lvI b.s_Used), some (lvI b.s_Credit), some (lvI b.s_Last), some (m1w (mset b.done t true))]) (κ := [0, 1, 2, 3, 4]) R .nil (vK (.cons R R (.row R (.row R (.row R (.map R .nil))))) R) (.inl ⟨_, R, R, R⟩))
def window_table_give_m (F : Nat) (t : Table) (o : Int) (a : WiTurn) : Option (Except Int Table) := Option.bind (window_must F (decide (t.given < 0)) 5) fun rv => exE rv (fun x => some (.error x)) (fun v => Option.bind (window_table_receivers F t) fun rv2 => optE rv2 (Option.bind (slices_Contains_int F ([] : List Int) a.to_) fun rv3 => Option.bind (window_must F rv3 4) fun rv4 => exE rv4 (fun x2 => some (.error x2)) (fun v2 => Option.bind (window_must F (decide (a.at_ = t.minute)) 7) fun rv5 => exE rv5 (fun x3 => some (.error x3)) (fun v3 => Option.bind (ixO t.s_Credit o) fun e => Option.bind (setO t.s_Credit o (W (e + t.p_Gift))) fun q => Option.bind (ixO q a.to_) fun e2 => Option.bind (setO q a.to_ (W (e2 - t.p_Gift))) fun q2 => some (.ok {t with s_Credit := q2, done := (mset t.done o true), given := a.to_, by_ := o})))) (fun t2 => if t2.length = 0 then none else (Option.bind (slices_Contains_int F (t2.drop 1) a.to_) fun rv6 => Option.bind (window_must F rv6 4) fun rv7 => exE rv7 (fun x4 => some (.error x4)) (fun v4 => Option.bind (window_must F (decide (a.at_ = t.minute)) 7) fun rv8 => exE rv8 (fun x5 => some (.error x5)) (fun v5 => Option.bind (ixO t.s_Credit o) fun e3 => Option.bind (setO t.s_Credit o (W (e3 + t.p_Gift))) fun q3 => Option.bind (ixO q3 a.to_) fun e4 => Option.bind (setO q3 a.to_ (W (e4 - t.p_Gift))) fun q4 => some (.ok {t with s_Credit := q4, done := (mset t.done o true), given := a.to_, by_ := o}))))))
theorem window_table_give_m_scx {F : Nat} {t : Table} {o : Int} {a : WiTurn} {r : (Except Int Table)} (h : window_table_give_m F t o a = some r) : SCX Try.prog 101 [.ref 0 22 0 0, .d (.v (.int .i64 o)), .d (WiTurn.d a)] [some ⟨22, [Table_T1 t 1 2 3 4]⟩, some (lvI t.s_Used), some (lvI t.s_Credit), some (lvI t.s_Last), some (m1w t.done)] r 29 (fun (a : Table) => .d (.tup [])) (fun (a : Table) => [some ⟨22, [Table_T1 a 1 2 3 4]⟩, some (lvI a.s_Used), some (lvI a.s_Credit), some (lvI a.s_Last), some (m1w a.done)]) := by
 rw [window_table_give_m] at h
 refine SC.of_sw Try.func101 R R R ?_
 dsimp only [argS, List.map]
 refine qG (q_box R (eN (sw_seq (sw_rgP (r_movR R R R (r_nilRef R R R (q_fa tb R (q_ldD (y := vI t.given) tb R (r_lssV R R R R ?_)))))))))
 obtain ⟨rv, hrv, h⟩ := bnd h
 rcases ex_or rv with ⟨x, nv⟩ | ⟨v, nv⟩
 ·replace h := (exN nv).symm.trans h
  refine ev_pan ?_
  (with_reducible apply op_call []); exact (window_must_scx hrv).err nv; exact rfl; exact .of (by kernel_rfl); exact rfl; exact .inl ⟨rfl, rfl, rfl⟩; (iterate 4 exact rfl); exact .nil; exact rfl
  intro cnt
  refine then_pan ?_
  obtain rfl := sI h
  exact fin_pX (L := [some ⟨22, [Table_T1 t 1 2 3 4]⟩, some (lvI t.s_Used), some (lvI t.s_Credit), some (lvI t.s_Last), some (m1w t.done)]) (κ := [0, 1, 2, 3, 4]) (vK (.cons R R (.row R (.row R (.row R (.map R .nil))))) R) (.inr ⟨_, R, R⟩)
 replace h := (exO nv).symm.trans h
 refine r_callO (t' := .d (.tup [])) (ls := []) (news := []) ([]) ([some ⟨22, [Table_T1 t 1 2 3 4]⟩, some (lvI t.s_Used), some (lvI t.s_Credit), some (lvI t.s_Last), some (m1w t.done), some ⟨3, [.d (WiTurn.d a)]⟩]) ((window_must_scx hrv).ok nv) (.of (by kernel_rfl)) R (.inl ⟨R, R, R⟩) R R R R .nil R R R .nil .nil R R R R (ev_endP (then_norm (sw_seq (sw_drP (by kernel_rfl) (r_movR R R R ?_)))))
 obtain ⟨rv2, hrv2, h⟩ := bnd h
 rcases Option.eq_none_or_eq_some rv2 with nv2 | ⟨t2, nv2⟩
 ·replace h := (optN nv2).symm.trans h
  refine r_callLN (t' := .d (.arr 1 ((([] : List Int)).map vI))) (news' := []) ((window_table_receivers_sco hrv2).none nv2) R .nil (.of (by kernel_rfl)) R R ((.cons (.ref R (.aggL (.cons (.d _) (.cons (.d _) (.cons (.d _) (.cons (.d _) (.cons (.row R R) (.cons (.row R R) (.cons (.row R R) (.cons (.d _) (.cons (.d _) (.cons (.d _) (.cons (.d _) (.cons (.d _) (.cons (.d _) (.cons (.d _) (.cons (.mpM R) (.cons (.d _) (.cons (.d _) (.cons (.d _) (.cons (.d _) (.cons (.d _) (.cons (.d _) (.cons (.d _) .nil)))))))))))))))))))))))) .nil)) R .nil R R R ?_
  simp only [List.map_nil, List.append_nil]
  refine q_fa tb R (q_ldD (y := vI a.to_) tb R ?_)
  obtain ⟨rv3, hrv3, h⟩ := bnd h
  refine r_call (slices_Contains_int_pc hrv3) (.of (by kernel_rfl)) R R R R ?_
  obtain ⟨rv4, hrv4, h⟩ := bnd h
  rcases ex_or rv4 with ⟨x2, nv3⟩ | ⟨v2, nv3⟩
  ·replace h := (exN nv3).symm.trans h
   refine ev_panD (by kernel_rfl) (by kernel_rfl) ?_
   (with_reducible apply op_call []); exact (window_must_scx hrv4).err nv3; exact rfl; exact .of (by kernel_rfl); exact rfl; exact .inl ⟨rfl, rfl, rfl⟩; (iterate 4 exact rfl); exact .nil; exact rfl
   intro cnt
   refine then_pan ?_
   obtain rfl := sI h
   exact fin_pX (L := [some ⟨22, [Table_T1 t 1 2 3 4]⟩, some (lvI t.s_Used), some (lvI t.s_Credit), some (lvI t.s_Last), some (m1w t.done)]) (κ := [0, 1, 2, 3, 4]) (vK (.cons R R (.row R (.row R (.row R (.map R .nil))))) R) (.inr ⟨_, R, R⟩)
  replace h := (exO nv3).symm.trans h
  refine r_callO (t' := .d (.tup [])) (ls := []) (news := []) ([]) ([some ⟨22, [Table_T1 t 1 2 3 4]⟩, some (lvI t.s_Used), some (lvI t.s_Credit), some (lvI t.s_Last), some (m1w t.done), some ⟨3, [.d (WiTurn.d a)]⟩]) ((window_must_scx hrv4).ok nv3) (.of (by kernel_rfl)) R (.inl ⟨R, R, R⟩) R R R R .nil R R R .nil .nil R R R R (ev_endPD (by kernel_rfl) (then_norm (sw_seq (sw_drP (by kernel_rfl) (q_fa tb R (q_ldD (y := vI a.at_) tb R (r_movR R R R (r_nilRef R R R (q_fa tb R (q_ldD (y := vI t.minute) tb R ?_))))))))))
  refine r_eqlV R R R R ?_
  obtain ⟨rv5, hrv5, h⟩ := bnd h
  rcases ex_or rv5 with ⟨x3, nv4⟩ | ⟨v3, nv4⟩
  ·replace h := (exN nv4).symm.trans h
   refine ev_panD (by kernel_rfl) (by kernel_rfl) ?_
   (with_reducible apply op_call []); exact (window_must_scx hrv5).err nv4; exact rfl; exact .of (by kernel_rfl); exact rfl; exact .inl ⟨rfl, rfl, rfl⟩; (iterate 4 exact rfl); exact .nil; exact rfl
   intro cnt
   refine then_pan ?_
   obtain rfl := sI h
   exact fin_pX (L := [some ⟨22, [Table_T1 t 1 2 3 4]⟩, some (lvI t.s_Used), some (lvI t.s_Credit), some (lvI t.s_Last), some (m1w t.done)]) (κ := [0, 1, 2, 3, 4]) (vK (.cons R R (.row R (.row R (.row R (.map R .nil))))) R) (.inr ⟨_, R, R⟩)
  replace h := (exO nv4).symm.trans h
  refine r_callO (t' := .d (.tup [])) (ls := []) (news := []) ([]) ([some ⟨22, [Table_T1 t 1 2 3 4]⟩, some (lvI t.s_Used), some (lvI t.s_Credit), some (lvI t.s_Last), some (m1w t.done), some ⟨3, [.d (WiTurn.d a)]⟩]) ((window_must_scx hrv5).ok nv4) (.of (by kernel_rfl)) R (.inl ⟨R, R, R⟩) R R R R .nil R R R .nil .nil R R R R (ev_endPD (by kernel_rfl) (then_norm (sw_seq (sw_dr (by kernel_rfl) (r_movR R R R (r_nilRef R R R (q_fa tb R (q_fa tb R (r_ldW tb R R R R R R R R R (q_movD R ?_))))))))))
  obtain ⟨e, ie, h⟩ := bnd h
  refine r_ixI tb R R R R R R (ix0 ie) (ix1 ie) R R ?_
  refine r_ldD (y := vI e) tb R R R R (ix2 (g := fun a => T.d (vI a)) ie) R R R R ?_
  refine r_movR R R R (r_nilRef R R R (q_fa tb R (q_fa tb R (q_ldD (y := vI t.p_Gift) tb R (q_add R (r_ixI tb R R R R R R (ix0 ie) (ix1 ie) R R ?_))))))
  obtain ⟨q, iq, h⟩ := bnd h
  refine r_stQ (a' := ((W (e + t.p_Gift)) : Int)) tb R R R R ie R R R R iq R R ?_
  dsimp only [List.set_cons_zero, List.set_cons_succ, WiState_T1, Table_T1]
  first | rw [set_len iq] | skip
  refine ev_endD (by kernel_rfl) (then_norm (sw_seq (sw_dr (by kernel_rfl) (r_movR R R R (r_nilRef R R R (q_fa tb R (q_fa tb R (r_ldW tb R R R R R R R R R (q_fa tb R (q_ldD (y := vI a.to_) tb R ?_))))))))))
  obtain ⟨e2, ie2, h⟩ := bnd h
  refine r_ixI tb R R R R R R (ix0 ie2) (ix1 ie2) R R ?_
  refine r_ldD (y := vI e2) tb R R R R (ix2 (g := fun a => T.d (vI a)) ie2) R R R R ?_
  refine r_movR R R R (r_nilRef R R R (q_fa tb R (q_fa tb R (q_ldD (y := vI t.p_Gift) tb R (r_sub R R R R (r_ixI tb R R R R R R (ix0 ie2) (ix1 ie2) R R ?_))))))
  obtain ⟨q2, iq2, h⟩ := bnd h
  refine r_stQ (a' := ((W (e2 - t.p_Gift)) : Int)) tb R R R R ie2 R R R R iq2 R R ?_
  dsimp only [List.set_cons_zero, List.set_cons_succ, WiState_T1, Table_T1]
  first | rw [set_len iq2] | skip
  refine ev_endD (by kernel_rfl) (then_norm (qG (r_movR R R R (r_nilRef R R R (q_fa tb R (r_ldT (.mp 4) tb R R R R R R R R R (q_movD R ?_)))))))
  refine r_mset (vf := fun b => .v (.bool b)) (v := true) (q := (mset t.done o true)) ([some ⟨22, [Table_T1 {t with s_Credit := q2, done := (mset t.done o true)} 1 2 3 4]⟩, some (lvI t.s_Used), some (lvI q2), some (lvI t.s_Last), some (m1w (mset t.done o true)), some ⟨3, [.d (WiTurn.d a)]⟩]) R R R R R R R R R ?_
  refine eN (sw_rg (r_movR R R R (r_movR R R R (q_fa tb R (q_ldD (y := vI a.to_) tb R (q_movD R (r_nilRef R R R (q_fa tb R (q_stE _ ([some ⟨22, [Table_T1 {t with s_Credit := q2, done := (mset t.done o true), given := a.to_} 1 2 3 4]⟩, some (lvI t.s_Used), some (lvI q2), some (lvI t.s_Last), some (m1w (mset t.done o true)), some ⟨3, [.d (WiTurn.d a)]⟩]) tb R (r_nilRef R R R (q_fa tb R ?_)))))))))))
  refine q_stE _ ([some ⟨22, [Table_T1 {t with s_Credit := q2, done := (mset t.done o true), given := a.to_, by_ := o} 1 2 3 4]⟩, some (lvI t.s_Used), some (lvI q2), some (lvI t.s_Last), some (m1w (mset t.done o true)), some ⟨3, [.d (WiTurn.d a)]⟩]) tb R (ev_end ?_)
  obtain rfl := sI h
  exact fin_n (fin_S (t := .d (.tup [])) (L := [some ⟨22, [Table_T1 {t with s_Credit := q2, done := (mset t.done o true), given := a.to_, by_ := o} 1 2 3 4]⟩, some (lvI t.s_Used), some (lvI q2), some (lvI t.s_Last), some (m1w (mset t.done o true))]) (κ := [0, 1, 2, 3, 4]) R .nil (vK (.cons R R (.row R (.row R (.row R (.map R .nil))))) R) (.inl ⟨_, R, R, R⟩))
 replace h := (optS nv2).symm.trans h
 by_cases c : t2.length = 0
 ·cases (if_pos c).symm.trans h
 replace h := ifN c h
 refine r_callLN (t' := .row 6 1 1 ((t2).length - 1)) (news' := [(lvI t2)]) ((window_table_receivers_sco hrv2).some nv2) R ((.row (fun _ => rfl) .nil)) (.of (by kernel_rfl)) R R ((.cons (.ref R (.aggL (.cons (.d _) (.cons (.d _) (.cons (.d _) (.cons (.d _) (.cons (.row R R) (.cons (.row R R) (.cons (.row R R) (.cons (.d _) (.cons (.d _) (.cons (.d _) (.cons (.d _) (.cons (.d _) (.cons (.d _) (.cons (.d _) (.cons (.mpM R) (.cons (.d _) (.cons (.d _) (.cons (.d _) (.cons (.d _) (.cons (.d _) (.cons (.d _) (.cons (.d _) .nil)))))))))))))))))))))))) .nil)) R ((.row .nil)) R R R ?_
 refine q_fa tb R (q_ldD (y := vI a.to_) tb R ?_)
 obtain ⟨rv6, hrv6, h⟩ := bnd h
 refine r_callL (slices_Contains_int_pc hrv6) R (.of (by kernel_rfl)) R R ((.cons (.rowT R R (by omega)) (.cons (.d _) .nil))) R R ?_
 obtain ⟨rv7, hrv7, h⟩ := bnd h
 rcases ex_or rv7 with ⟨x4, nv5⟩ | ⟨v4, nv5⟩
 ·replace h := (exN nv5).symm.trans h
  refine ev_panD (by kernel_rfl) (by kernel_rfl) ?_
  (with_reducible apply op_call []); exact (window_must_scx hrv7).err nv5; exact rfl; exact .of (by kernel_rfl); exact rfl; exact .inl ⟨rfl, rfl, rfl⟩; (iterate 4 exact rfl); exact .nil; exact rfl
  intro cnt
  refine then_pan ?_
  obtain rfl := sI h
  exact fin_pX (L := [some ⟨22, [Table_T1 t 1 2 3 4]⟩, some (lvI t.s_Used), some (lvI t.s_Credit), some (lvI t.s_Last), some (m1w t.done)]) (κ := [0, 1, 2, 3, 4]) (vK (.cons R R (.row R (.row R (.row R (.map R .nil))))) R) (.inr ⟨_, R, R⟩)
 replace h := (exO nv5).symm.trans h
 refine r_callO (t' := .d (.tup [])) (ls := []) (news := []) ([]) ([some ⟨22, [Table_T1 t 1 2 3 4]⟩, some (lvI t.s_Used), some (lvI t.s_Credit), some (lvI t.s_Last), some (m1w t.done), some ⟨3, [.d (WiTurn.d a)]⟩, some (lvI t2)]) ((window_must_scx hrv7).ok nv5) (.of (by kernel_rfl)) R (.inl ⟨R, R, R⟩) R R R R .nil R R R .nil .nil R R R R (ev_endPD (by kernel_rfl) (then_norm (sw_seq (sw_drP (by kernel_rfl) (q_fa tb R (q_ldD (y := vI a.at_) tb R (r_movR R R R (r_nilRef R R R (q_fa tb R ?_)))))))))
 refine q_ldD (y := vI t.minute) tb R (r_eqlV R R R R ?_)
 obtain ⟨rv8, hrv8, h⟩ := bnd h
 rcases ex_or rv8 with ⟨x5, nv6⟩ | ⟨v5, nv6⟩
 ·replace h := (exN nv6).symm.trans h
  refine ev_panD (by kernel_rfl) (by kernel_rfl) ?_
  (with_reducible apply op_call []); exact (window_must_scx hrv8).err nv6; exact rfl; exact .of (by kernel_rfl); exact rfl; exact .inl ⟨rfl, rfl, rfl⟩; (iterate 4 exact rfl); exact .nil; exact rfl
  intro cnt
  refine then_pan ?_
  obtain rfl := sI h
  exact fin_pX (L := [some ⟨22, [Table_T1 t 1 2 3 4]⟩, some (lvI t.s_Used), some (lvI t.s_Credit), some (lvI t.s_Last), some (m1w t.done)]) (κ := [0, 1, 2, 3, 4]) (vK (.cons R R (.row R (.row R (.row R (.map R .nil))))) R) (.inr ⟨_, R, R⟩)
 replace h := (exO nv6).symm.trans h
 refine r_callO (t' := .d (.tup [])) (ls := []) (news := []) ([]) ([some ⟨22, [Table_T1 t 1 2 3 4]⟩, some (lvI t.s_Used), some (lvI t.s_Credit), some (lvI t.s_Last), some (m1w t.done), some ⟨3, [.d (WiTurn.d a)]⟩, some (lvI t2)]) ((window_must_scx hrv8).ok nv6) (.of (by kernel_rfl)) R (.inl ⟨R, R, R⟩) R R R R .nil R R R .nil .nil R R R R (ev_endPD (by kernel_rfl) (then_norm (sw_seq (sw_dr (by kernel_rfl) (r_movR R R R (r_nilRef R R R (q_fa tb R (q_fa tb R (r_ldW tb R R R R R R R R R (q_movD R ?_))))))))))
 obtain ⟨e3, ie3, h⟩ := bnd h
 refine r_ixI tb R R R R R R (ix0 ie3) (ix1 ie3) R R ?_
 refine r_ldD (y := vI e3) tb R R R R (ix2 (g := fun a => T.d (vI a)) ie3) R R R R ?_
 refine r_movR R R R (r_nilRef R R R (q_fa tb R (q_fa tb R (q_ldD (y := vI t.p_Gift) tb R (q_add R (r_ixI tb R R R R R R (ix0 ie3) (ix1 ie3) R R ?_))))))
 obtain ⟨q3, iq3, h⟩ := bnd h
 refine r_stQ (a' := ((W (e3 + t.p_Gift)) : Int)) tb R R R R ie3 R R R R iq3 R R ?_
 dsimp only [List.set_cons_zero, List.set_cons_succ, WiState_T1, Table_T1]
 first | rw [set_len iq3] | skip
 refine ev_endD (by kernel_rfl) (then_norm (sw_seq (sw_dr (by kernel_rfl) (r_movR R R R (r_nilRef R R R (q_fa tb R (q_fa tb R (r_ldW tb R R R R R R R R R (q_fa tb R (q_ldD (y := vI a.to_) tb R ?_))))))))))
 obtain ⟨e4, ie4, h⟩ := bnd h
 refine r_ixI tb R R R R R R (ix0 ie4) (ix1 ie4) R R ?_
 refine r_ldD (y := vI e4) tb R R R R (ix2 (g := fun a => T.d (vI a)) ie4) R R R R ?_
 refine r_movR R R R (r_nilRef R R R (q_fa tb R (q_fa tb R (q_ldD (y := vI t.p_Gift) tb R (r_sub R R R R (r_ixI tb R R R R R R (ix0 ie4) (ix1 ie4) R R ?_))))))
 obtain ⟨q4, iq4, h⟩ := bnd h
 refine r_stQ (a' := ((W (e4 - t.p_Gift)) : Int)) tb R R R R ie4 R R R R iq4 R R ?_
 dsimp only [List.set_cons_zero, List.set_cons_succ, WiState_T1, Table_T1]
 first | rw [set_len iq4] | skip
 refine ev_endD (by kernel_rfl) (then_norm (qG (r_movR R R R (r_nilRef R R R (q_fa tb R (r_ldT (.mp 4) tb R R R R R R R R R (q_movD R ?_)))))))
 refine r_mset (vf := fun b => .v (.bool b)) (v := true) (q := (mset t.done o true)) ([some ⟨22, [Table_T1 {t with s_Credit := q4, done := (mset t.done o true)} 1 2 3 4]⟩, some (lvI t.s_Used), some (lvI q4), some (lvI t.s_Last), some (m1w (mset t.done o true)), some ⟨3, [.d (WiTurn.d a)]⟩, some (lvI t2)]) R R R R R R R R R ?_
 refine eN (sw_rg (r_movR R R R (r_movR R R R (q_fa tb R (q_ldD (y := vI a.to_) tb R (q_movD R (r_nilRef R R R (q_fa tb R (q_stE _ ([some ⟨22, [Table_T1 {t with s_Credit := q4, done := (mset t.done o true), given := a.to_} 1 2 3 4]⟩, some (lvI t.s_Used), some (lvI q4), some (lvI t.s_Last), some (m1w (mset t.done o true)), some ⟨3, [.d (WiTurn.d a)]⟩, some (lvI t2)]) tb R (r_nilRef R R R (q_fa tb R ?_)))))))))))
 refine q_stE _ ([some ⟨22, [Table_T1 {t with s_Credit := q4, done := (mset t.done o true), given := a.to_, by_ := o} 1 2 3 4]⟩, some (lvI t.s_Used), some (lvI q4), some (lvI t.s_Last), some (m1w (mset t.done o true)), some ⟨3, [.d (WiTurn.d a)]⟩, some (lvI t2)]) tb R (ev_end ?_)
 obtain rfl := sI h
 exact fin_n (fin_S (t := .d (.tup [])) (L := [some ⟨22, [Table_T1 {t with s_Credit := q4, done := (mset t.done o true), given := a.to_, by_ := o} 1 2 3 4]⟩, some (lvI t.s_Used), some (lvI q4), some (lvI t.s_Last), some (m1w (mset t.done o true))]) (κ := [0, 1, 2, 3, 4]) R .nil (vK (.cons R R (.row R (.row R (.row R (.map R .nil))))) R) (.inl ⟨_, R, R, R⟩))
end Go.Proofs.Ytdefnmcjmklohaa
