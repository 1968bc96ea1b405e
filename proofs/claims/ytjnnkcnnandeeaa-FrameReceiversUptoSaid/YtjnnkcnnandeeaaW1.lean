/- What functions of the program compute: plain functions, and the proofs. -/
import Derived.Test.YtjnnkcnnandeeaaW0
import Derived.Test.YtjnnkcnnandeeaaWAwake
import Derived.Deep.Cut
import Derived.Lib.QuietBelow
import Derived.Shelf.Lay
import Derived.Ground.SlsfProg
set_option linter.unusedVariables false
set_option linter.unusedSimpArgs false
open Go Go.Proofs.Ytjnnkcnnandeeaa.Sh Go.Proofs
namespace Go.Proofs.Ytjnnkcnnandeeaa
set_option maxRecDepth 100000
set_option maxHeartbeats 40000000
def wind_out (F : Nat) (nv : Int) (lo : Int) (hi : Int) : Option Bool := if nv < lo then (some true) else (some (decide (hi < nv)))
theorem wind_out_pc {F : Nat} {nv : Int} {lo : Int} {hi : Int} {r : Bool} (h : wind_out F nv lo hi = some r) : PC Try.prog 105 [.v (.int .i64 nv), .v (.int .i64 lo), .v (.int .i64 hi)] (.v (.bool r)) := by
 rw [wind_out] at h
 refine SC.of_sw Try.func105 R R R ?_
 dsimp only [argS, List.map]
 refine qG (q_asgD R (eN (qG (q_movD R (q_movD R ?_)))))
 refine r_lss R R R R ?_ ?_
 ·intro c
  replace h := ifP c h
  refine q_movD R (q_sk 3 R (q_pickT R (q_asgD R (eN (sw_ret ?_)))))
  obtain rfl := sI h
  exact f1 6 R
 intro c
 replace h := ifN (Int.not_lt.2 c) h
 refine q_movD R (q_movD R (q_movD R (r_gtrV R R R R (q_pickF R (q_asgD R (eN (sw_ret ?_)))))))
 obtain rfl := sI h
 exact f1 6 R
def wind_Name_L1 (F : Nat) (s : ByteArray) (K : Int → Option Bool) : Nat → Int → Option Bool
 | 0, _ => none
 | n + 1, x => if x < ((bytesL s).length : Int) then (Option.bind (ixO (bytesL s) x) fun e => if 97 ≤ e then (if e ≤ 122 then (wind_Name_L1 F s K n (W (x + 1))) else (if x = 0 then (some false) else (if e = 45 then (wind_Name_L1 F s K n (W (x + 1))) else (if 48 ≤ e then (if e ≤ 57 then (wind_Name_L1 F s K n (W (x + 1))) else (some false)) else (some false))))) else (if x = 0 then (some false) else (if e = 45 then (wind_Name_L1 F s K n (W (x + 1))) else (if 48 ≤ e then (if e ≤ 57 then (wind_Name_L1 F s K n (W (x + 1))) else (some false)) else (some false))))) else (K x)
def wind_Name (F : Nat) (s : ByteArray) : Option Bool := wind_Name_L1 F s (fun (x : Int) => Option.bind (wind_out F (s.size : Int) 1 24) fun rv => some (!rv)) F 0
theorem wind_Name_pc {F : Nat} {s : ByteArray} {r : Bool} (h : wind_Name F s = some r) : PC Try.prog 74 [.v (.string s)] (.v (.bool r)) := by
 rw [wind_Name] at h
 refine SC.of_sw Try.func74 R R R ?_
 dsimp only [argS, List.map]
 refine qG (q_asgD R (eN (sw_seq (qG (q_movD R (r_bytes R R R R R R (q_lenM tb R (q_movD R (eN (sw_block ?_))))))))))
 obtain ⟨K2, hK2, h⟩ : ∃ K, K = _ ∧ wind_Name_L1 F s K F 0 = some r := ⟨_, rfl, h⟩
 refine sw_loopS (fun m st => ∃ (x : Int), wind_Name_L1 F s K2 m x = some r ∧ st = ⟨[(0, .d (.v (.string s))), (2, .d (.v (.bool false))), (6, .d (.arr 1 (((bytesL s)).map v8))), (7, .d (vI ((bytesL s).length : Int))), (8, .d (vI x))], []⟩) (.prn [0, 2, 6, 7, 8] R) ⟨0, h, R⟩ ?_
 clear h
 rintro m2 st ⟨x, h, rfl⟩
 cases m2 with
 | zero => cases (show (none : Option Bool) = some r from h)
 | succ m2 =>
 rw [wind_Name_L1] at h
 refine qG ?_
 refine r_lss R R R R ?_ ?_
 ·intro c
  replace h := ifP c h
  refine eN (sw_seq (sw_condT R (sw_skip (then_norm (sw_seq (sw_block (qG (q_movD R ?_))))))))
  obtain ⟨e, ie, h⟩ := bnd h
  refine q_ixE tb (ix0 ie) (ix1m ie) R (q_ldE (y := .v (.int .u8 e)) tb (ix2 (g := v8) ie) R (q_asgD R (q_asgD R (eN (qG (q_movD R ?_))))))
  refine r_geq R R R R ?_ ?_
  ·intro c2
   replace h := ifP c2 h
   refine q_movD R (q_movD R ?_)
   refine r_leq R R R R ?_ ?_
   ·intro c3
    replace h := ifP c3 h
    refine q_pickT R (r_notT R R R (q_movD R (q_sk 15 R (q_pickF R (eN (sw_condF R (sw_skip (block_norm (then_norm (sw_rg (q_add R (q_movD R (eN ?_)))))))))))))
    exact ⟨m2, _, Nat.lt_succ_self _, .prn [0, 2, 6, 7, 8] R, (W (x + 1)), h, R⟩
   intro c3
   replace h := ifN (Int.not_le.2 c3) h
   refine q_pickT R (r_notF R R R (q_movD R (q_movD R ?_)))
   refine r_eql R R R R ?_ ?_
   ·intro c4
    replace h := ifP c4 h
    refine q_movD R (q_sk 11 R (q_pickT R (q_pickT R (eN (sw_condT R (qG (q_asgD R (eN (sw_ret (block_ret (then_ret (then_ret (block_ret (then_ret ?_))))))))))))))
    obtain rfl := sI h
    exact f1 2 R
   intro c4
   replace h := ifN c4 h
   refine q_movD R (q_movD R ?_)
   refine r_neq R R R R ?_ ?_
   ·intro c5
    replace h := ifN c5 h
    refine q_movD R (q_movD R ?_)
    refine r_geq R R R R ?_ ?_
    ·intro c6
     replace h := ifP c6 h
     refine q_movD R (q_movD R ?_)
     refine r_leq R R R R ?_ ?_
     ·intro c7
      replace h := ifP c7 h
      refine q_pickT R (r_notT R R R (q_pickT R (q_pickF R (q_pickT R (eN (sw_condF R (sw_skip (block_norm (then_norm (sw_rg (q_add R (q_movD R (eN ?_)))))))))))))
      exact ⟨m2, _, Nat.lt_succ_self _, .prn [0, 2, 6, 7, 8] R, (W (x + 1)), h, R⟩
     intro c7
     replace h := ifN (Int.not_le.2 c7) h
     refine q_pickT R (r_notF R R R (q_pickT R (q_pickF R (q_pickT R (eN (sw_condT R (qG (q_asgD R (eN (sw_ret (block_ret (then_ret (then_ret (block_ret (then_ret ?_)))))))))))))))
     obtain rfl := sI h
     exact f1 2 R
    intro c6
    replace h := ifN (Int.not_le.2 c6) h
    refine q_movD R (q_sk 2 R (q_pickF R (r_notF R R R (q_pickT R (q_pickF R (q_pickT R (eN (sw_condT R (qG (q_asgD R (eN (sw_ret (block_ret (then_ret (then_ret (block_ret (then_ret ?_)))))))))))))))))
    obtain rfl := sI h
    exact f1 2 R
   intro c5
   replace h := ifP c5 h
   refine q_movD R (q_sk 7 R (q_pickF R (q_pickF R (q_pickT R (eN (sw_condF R (sw_skip (block_norm (then_norm (sw_rg (q_add R (q_movD R (eN ?_)))))))))))))
   exact ⟨m2, _, Nat.lt_succ_self _, .prn [0, 2, 6, 7, 8] R, (W (x + 1)), h, R⟩
  intro c2
  replace h := ifN (Int.not_le.2 c2) h
  refine q_movD R (q_sk 2 R (q_pickF R (r_notF R R R (q_movD R (q_movD R ?_)))))
  refine r_eql R R R R ?_ ?_
  ·intro c8
   replace h := ifP c8 h
   refine q_movD R (q_sk 11 R (q_pickT R (q_pickT R (eN (sw_condT R (qG (q_asgD R (eN (sw_ret (block_ret (then_ret (then_ret (block_ret (then_ret ?_))))))))))))))
   obtain rfl := sI h
   exact f1 2 R
  intro c8
  replace h := ifN c8 h
  refine q_movD R (q_movD R ?_)
  refine r_neq R R R R ?_ ?_
  ·intro c9
   replace h := ifN c9 h
   refine q_movD R (q_movD R ?_)
   refine r_geq R R R R ?_ ?_
   ·intro c10
    replace h := ifP c10 h
    refine q_movD R (q_movD R ?_)
    refine r_leq R R R R ?_ ?_
    ·intro c11
     replace h := ifP c11 h
     refine q_pickT R (r_notT R R R (q_pickT R (q_pickF R (q_pickT R (eN (sw_condF R (sw_skip (block_norm (then_norm (sw_rg (q_add R (q_movD R (eN ?_)))))))))))))
     exact ⟨m2, _, Nat.lt_succ_self _, .prn [0, 2, 6, 7, 8] R, (W (x + 1)), h, R⟩
    intro c11
    replace h := ifN (Int.not_le.2 c11) h
    refine q_pickT R (r_notF R R R (q_pickT R (q_pickF R (q_pickT R (eN (sw_condT R (qG (q_asgD R (eN (sw_ret (block_ret (then_ret (then_ret (block_ret (then_ret ?_)))))))))))))))
    obtain rfl := sI h
    exact f1 2 R
   intro c10
   replace h := ifN (Int.not_le.2 c10) h
   refine q_movD R (q_sk 2 R (q_pickF R (r_notF R R R (q_pickT R (q_pickF R (q_pickT R (eN (sw_condT R (qG (q_asgD R (eN (sw_ret (block_ret (then_ret (then_ret (block_ret (then_ret ?_)))))))))))))))))
   obtain rfl := sI h
   exact f1 2 R
  intro c9
  replace h := ifP c9 h
  refine q_movD R (q_sk 7 R (q_pickF R (q_pickF R (q_pickT R (eN (sw_condF R (sw_skip (block_norm (then_norm (sw_rg (q_add R (q_movD R (eN ?_)))))))))))))
  exact ⟨m2, _, Nat.lt_succ_self _, .prn [0, 2, 6, 7, 8] R, (W (x + 1)), h, R⟩
 intro c
 replace h := ifN (Int.not_lt.2 c) h
 refine eN (sw_seq (sw_condF R (sw_exit (then_exit (then_exit ?_)))))
 subst hK2
 refine block_exit (then_norm (qG (q_movD R (r_lenS R R R R ?_))))
 obtain ⟨rv, hrv, h⟩ := bnd h
 refine r_call (wind_out_pc hrv) (.of (by kernel_rfl)) R R R R (r_not R R R (q_asgD R (eN (sw_ret ?_))))
 obtain rfl := sI h
 exact f1 2 R
def frame_out_int (F : Nat) (nv : Int) (lo : Int) (hi : Int) : Option Bool := if nv < lo then (some true) else (some (decide (hi < nv)))
theorem frame_out_int_pc {F : Nat} {nv : Int} {lo : Int} {hi : Int} {r : Bool} (h : frame_out_int F nv lo hi = some r) : PC Try.prog 69 [.v (.int .i64 nv), .v (.int .i64 lo), .v (.int .i64 hi)] (.v (.bool r)) := by
 rw [frame_out_int] at h
 refine SC.of_sw Try.func69 R R R ?_
 dsimp only [argS, List.map]
 refine qG (q_asgD R (eN (qG (q_movD R (q_movD R ?_)))))
 refine r_lss R R R R ?_ ?_
 ·intro c
  replace h := ifP c h
  refine q_movD R (q_sk 3 R (q_pickT R (q_asgD R (eN (sw_ret ?_)))))
  obtain rfl := sI h
  exact f1 6 R
 intro c
 replace h := ifN (Int.not_lt.2 c) h
 refine q_movD R (q_movD R (q_movD R (r_gtrV R R R R (q_pickF R (q_asgD R (eN (sw_ret ?_)))))))
 obtain rfl := sI h
 exact f1 6 R
def frame_out_sum (F : Nat) (nv : Int) (lo : Int) (hi : Int) : Option Bool := if nv < lo then (some true) else (some (decide (hi < nv)))
theorem frame_out_sum_pc {F : Nat} {nv : Int} {lo : Int} {hi : Int} {r : Bool} (h : frame_out_sum F nv lo hi = some r) : PC Try.prog 100 [.v (.int .u16 nv), .v (.int .u16 lo), .v (.int .u16 hi)] (.v (.bool r)) := by
 rw [frame_out_sum] at h
 refine SC.of_sw Try.func100 R R R ?_
 dsimp only [argS, List.map]
 refine qG (q_asgD R (eN (qG (q_movD R (q_movD R ?_)))))
 refine r_lss R R R R ?_ ?_
 ·intro c
  replace h := ifP c h
  refine q_movD R (q_sk 3 R (q_pickT R (q_asgD R (eN (sw_ret ?_)))))
  obtain rfl := sI h
  exact f1 6 R
 intro c
 replace h := ifN (Int.not_lt.2 c) h
 refine q_movD R (q_movD R (q_movD R (r_gtrV R R R R (q_pickF R (q_asgD R (eN (sw_ret ?_)))))))
 obtain rfl := sI h
 exact f1 6 R
def frame_sum_add_L1 (F : Nat)  (K : Int → Int → Option Int) : Nat → Int → Int → Option Int
 | 0, _, _ => none
 | n + 1, s2, x => if x < 8 then (Option.bind (frame_out_sum F s2 32768 65535) fun rv => if rv = true then (frame_sum_add_L1 F K n (ishl .u16 s2 1) (W (x + 1))) else (frame_sum_add_L1 F K n (ixor .u16 (ishl .u16 s2 1) 4129) (W (x + 1)))) else (K s2 x)
def frame_sum_add (F : Nat) (s : Int) (c : Int) : Option Int := frame_sum_add_L1 F (fun (s2 : Int) (x : Int) => some s2) F (ixor .u16 s (ishl .u16 (IntKind.u16.wrap c) 8)) 0
theorem frame_sum_add_pc {F : Nat} {s : Int} {c : Int} {r : Int} (h : frame_sum_add F s c = some r) : PC Try.prog 55 [.v (.int .u16 s), .v (.int .u8 c)] (.v (.int .u16 r)) := by
 rw [frame_sum_add] at h
 refine SC.of_sw Try.func55 R R R ?_
 dsimp only [argS, List.map]
 refine qG (q_asgD R (eN (qG (q_movD R (q_movD R (r_cvI (k2 := .u16) R R R R R R (r_shl R R (by decide) R R (r_xor R R R R (q_asgD R (eN (sw_seq (qG (q_movD R (eN (sw_block ?_)))))))))))))))
 obtain ⟨K2, hK2, h⟩ : ∃ K, K = _ ∧ frame_sum_add_L1 F K F (ixor .u16 s (ishl .u16 (IntKind.u16.wrap c) 8)) 0 = some r := ⟨_, rfl, h⟩
 refine sw_loopS (fun m st => ∃ (s2 : Int) (x : Int), frame_sum_add_L1 F K2 m s2 x = some r ∧ st = ⟨[(0, .d (.v (.int .u16 s2))), (4, .d (.v (.int .u16 0))), (11, .d (vI x))], []⟩) (.prn [0, 4, 11] R) ⟨(ixor .u16 s (ishl .u16 (IntKind.u16.wrap c) 8)), 0, h, R⟩ ?_
 clear h
 rintro m2 st ⟨s2, x, h, rfl⟩
 cases m2 with
 | zero => cases (show (none : Option Int) = some r from h)
 | succ m2 =>
 rw [frame_sum_add_L1] at h
 refine qG ?_
 refine r_lss R R R R ?_ ?_
 ·intro c2
  replace h := ifP c2 h
  refine eN (sw_seq (sw_condT R (sw_skip (then_norm (sw_seq (sw_block (qG (q_movD R ?_))))))))
  obtain ⟨rv, hrv, h⟩ := bnd h
  refine r_callB (frame_out_sum_pc hrv) (.of (by kernel_rfl)) R R R R ?_ ?_
  ·intro c3
   replace h := ifP c3 h
   refine q_asgD R (eN (qG (q_movD R (r_shl R R (by decide) R R (q_asgD R (eN (qG (q_movD R (r_notT R R R (eN (sw_condF R (sw_skip (block_norm (then_norm (sw_rg (q_add R (q_movD R (eN ?_))))))))))))))))))
   exact ⟨m2, _, Nat.lt_succ_self _, .prn [0, 4, 11] R, (ishl .u16 s2 1), (W (x + 1)), h, R⟩
  intro c3
  replace h := ifF c3 h
  refine q_asgD R (eN (qG (q_movD R (r_shl R R (by decide) R R (q_asgD R (eN (qG (q_movD R (r_notF R R R (eN (sw_condT R (sw_rg (q_movD R (r_xor R R R R (q_asgD R (ev_end (block_norm (then_norm (sw_rg (q_add R (q_movD R (eN ?_))))))))))))))))))))))
  exact ⟨m2, _, Nat.lt_succ_self _, .prn [0, 4, 11] R, (ixor .u16 (ishl .u16 s2 1) 4129), (W (x + 1)), h, R⟩
 intro c2
 replace h := ifN (Int.not_lt.2 c2) h
 refine eN (sw_seq (sw_condF R (sw_exit (then_exit (then_exit ?_)))))
 subst hK2
 refine block_exit (then_norm (qG (q_movD R (q_asgD R (eN (sw_ret ?_))))))
 obtain rfl := sI h
 exact f1 4 R
def frame_Sum_L1 (F : Nat) (b : (List Int)) (K : Int → Int → Option Int) : Nat → Int → Int → Option Int
 | 0, _, _ => none
 | n + 1, s, x => if x < (b.length : Int) then (Option.bind (ixO b x) fun e => Option.bind (frame_sum_add F s e) fun rv => frame_Sum_L1 F b K n rv (W (x + 1))) else (K s x)
def frame_Sum (F : Nat) (b : (List Int)) : Option Int := frame_Sum_L1 F b (fun (s : Int) (x : Int) => some (W s)) F 65535 0
theorem frame_Sum_pc {F : Nat} {b : (List Int)} {r : Int} (h : frame_Sum F b = some r) : PC Try.prog 19 [.arr 1 ((b).map v8)] (.v (.int .i64 r)) := by
 rw [frame_Sum] at h
 refine SC.of_sw Try.func19 R R R ?_
 dsimp only [argS, List.map]
 refine qG (q_asgD R (eN (qG (q_asgD R (q_asgD R (eN (sw_seq (qG (q_movD R (q_lenM tb R (q_movD R (eN (sw_block ?_)))))))))))))
 obtain ⟨K2, hK2, h⟩ : ∃ K, K = _ ∧ frame_Sum_L1 F b K F 65535 0 = some r := ⟨_, rfl, h⟩
 refine sw_loopS (fun m st => ∃ (s : Int) (x : Int), frame_Sum_L1 F b K2 m s x = some r ∧ st = ⟨[(2, .d (vI 0)), (3, .d (.v (.int .u16 s))), (4, .d (.v (.func (.func 55) #[] #[]))), (7, .d (.arr 1 ((b).map v8))), (8, .d (vI (b.length : Int))), (9, .d (vI x))], []⟩) (.prn [2, 3, 4, 7, 8, 9] R) ⟨65535, 0, h, R⟩ ?_
 clear h
 rintro m2 st ⟨s, x, h, rfl⟩
 cases m2 with
 | zero => cases (show (none : Option Int) = some r from h)
 | succ m2 =>
 rw [frame_Sum_L1] at h
 refine qG ?_
 refine r_lss R R R R ?_ ?_
 ·intro c
  replace h := ifP c h
  refine eN (sw_seq (sw_condT R (sw_skip (then_norm (sw_seq (sw_block (qG ?_)))))))
  obtain ⟨e, ie, h⟩ := bnd h
  refine q_ixE tb (ix0 ie) (ix1m ie) R (q_ldE (y := .v (.int .u8 e)) tb (ix2 (g := v8) ie) R (q_asgD R (eN (sw_rg (q_movD R (q_movD R (q_movD R ?_)))))))
  obtain ⟨rv, hrv, h⟩ := bnd h
  refine r_call (frame_sum_add_pc hrv) (.of (by kernel_rfl)) R R R R (q_asgD R (ev_end (block_norm (then_norm (sw_rg (q_add R (q_movD R (eN ?_))))))))
  exact ⟨m2, _, Nat.lt_succ_self _, .prn [2, 3, 4, 7, 8, 9] R, rv, (W (x + 1)), h, R⟩
 intro c
 replace h := ifN (Int.not_lt.2 c) h
 refine eN (sw_seq (sw_condF R (sw_exit (then_exit (then_exit ?_)))))
 subst hK2
 refine block_exit (then_norm (qG (q_movD R (r_cvI (k2 := .i64) R R R R R R (q_asgD R (eN (sw_ret ?_)))))))
 obtain rfl := sI h
 exact f1 2 R
def frame_pair (F : Nat) (nv : Int) : Option (List Int) := some [(W8 (ishr .i64 nv 8)), (W8 nv)]
theorem frame_pair_scr {F : Nat} {nv : Int} {r : (List Int)} (h : frame_pair F nv = some r) : SCR Try.prog 102 (List.map T.d [.v (.int .i64 nv)]) [] (.row 0 1 0 (r).length) (List.map some [(lv8 r)]) := by
 rw [frame_pair] at h
 refine SC.of_sw Try.func102 R R R ?_
 dsimp only [argS, List.map]
 refine qG (q_asgD R (eN (qG (q_movD R (r_shr R R (by decide) R R (r_cvI (k2 := .u8) R R R R R R (q_movD R (r_cvI (k2 := .u8) R R R R R R (r_bslice tb R R R R R R R R R R R R R (r_asgW R R R (eN (sw_ret ?_))))))))))))
 obtain rfl := sI h
 exact f2 [0] (.row R .nil) R (.cons (.tmp 2) .nil) R
theorem frame_pair_pc {F : Nat} {nv : Int} {r : (List Int)} (h : frame_pair F nv = some r) : PC Try.prog 102 [.v (.int .i64 nv)] (.arr 1 ((r).map v8)) := (frame_pair_scr h).toPC (.row rfl rfl)
def frame_bad_1 (F : Nat) (nv : Int) : Option Bool := Option.bind (frame_out_int F nv 0 65535) fun rv => some rv
theorem frame_bad_1_pc {F : Nat} {nv : Int} {r : Bool} (h : frame_bad_1 F nv = some r) : PC Try.prog 101 [.v (.int .i64 nv)] (.v (.bool r)) := by
 rw [frame_bad_1] at h
 refine SC.of_sw Try.func101 R R R ?_
 dsimp only [argS, List.map]
 refine qG (q_asgD R (eN (qG (q_movD R ?_))))
 obtain ⟨rv, hrv, h⟩ := bnd h
 refine r_call (frame_out_int_pc hrv) (.of (by kernel_rfl)) R R R R (q_asgD R (eN (sw_ret ?_)))
 obtain rfl := sI h
 exact f1 2 R
def slices_IndexFunc_int_L1 (F : Nat) (s : (List Int)) (f : (Int → Option Bool)) (K : Int → Option Int) : Nat → Int → Option Int
 | 0, _ => none
 | n + 1, x => if x < (s.length : Int) then (Option.bind (ixO s x) fun e => Option.bind (f e) fun rv => if rv = true then (some x) else (slices_IndexFunc_int_L1 F s f K n (W (x + 1)))) else (K x)
def slices_IndexFunc_int (F : Nat) (s : (List Int)) (f : (Int → Option Bool)) : Option Int := slices_IndexFunc_int_L1 F s f (fun (x : Int) => some (-1)) F 0
theorem slices_IndexFunc_int_scr {F : Nat} {s : (List Int)} {f : (Int → Option Bool)} {r : Int} {fi : Nat} {fc : List D} (fh : ∀ {a0 : Int} {r : Bool}, f a0 = some r → PC Try.prog fi ([.v (.int .i64 a0)] ++ fc) (.v (.bool r))) (fe : Ent Try.prog fi) (h : slices_IndexFunc_int F s f = some r) : SCR Try.prog 108 [.d (.arr 1 ((s).map vI)), .fn (.func fi) [] (fc.map .d)] [] (.d (.v (.int .i64 r))) (List.map some []) := by
 rw [slices_IndexFunc_int] at h
 refine SC.of_sw Try.func108 R R R ?_
 dsimp only [argS, List.map]
 refine qG (q_asgD R (eN (sw_seq (qG (q_movD R (q_lenM tb R (q_movD R (eN (sw_block ?_)))))))))
 obtain ⟨K2, hK2, h⟩ : ∃ K, K = _ ∧ slices_IndexFunc_int_L1 F s f K F 0 = some r := ⟨_, rfl, h⟩
 refine sw_loopS (fun m st => ∃ (x : Int), slices_IndexFunc_int_L1 F s f K2 m x = some r ∧ st = ⟨[(0, .d (.arr 1 ((s).map vI))), (1, .fn (.func fi) [] (fc.map .d)), (4, .d (vI 0)), (7, .d (vI (s.length : Int))), (8, .d (vI x))], []⟩) (.prn [0, 1, 4, 7, 8] R) ⟨0, h, R⟩ ?_
 clear h
 rintro m2 st ⟨x, h, rfl⟩
 cases m2 with
 | zero => cases (show (none : Option Int) = some r from h)
 | succ m2 =>
 rw [slices_IndexFunc_int_L1] at h
 refine qG ?_
 refine r_lss R R R R ?_ ?_
 ·intro c
  replace h := ifP c h
  refine eN (sw_seq (sw_condT R (sw_skip (then_norm (sw_seq (sw_block (qG (q_movD R (q_asgD R (eN (qG (r_movF R R R (q_movD R (q_movD R ?_))))))))))))))
  obtain ⟨e, ie, h⟩ := bnd h
  refine q_ixE tb (ix0 ie) (ix1m ie) R (q_ldE (y := vI e) tb (ix2 (g := vI) ie) R ?_)
  obtain ⟨rv, hrv, h⟩ := bnd h
  refine r_callH (vs := [vI e]) (fh hrv) fe R R R R ?_
  with_reducible apply ev_lit
  ·intro c2
   replace h := ifP c2 h
   refine eN (sw_condT R (qG (q_movD R (q_asgD R (eN (sw_ret (block_ret (then_ret (then_ret (block_ret (then_ret ?_)))))))))))
   obtain rfl := sI h
   exact f1 4 R
  intro c2
  replace h := ifF c2 h
  refine eN (sw_condF R (sw_skip (block_norm (then_norm (sw_rg (q_add R (q_movD R (eN ?_))))))))
  exact ⟨m2, _, Nat.lt_succ_self _, .prn [0, 1, 4, 7, 8] R, (W (x + 1)), h, R⟩
 intro c
 replace h := ifN (Int.not_lt.2 c) h
 refine eN (sw_seq (sw_condF R (sw_exit (then_exit (then_exit ?_)))))
 subst hK2
 refine block_exit (then_norm (qG (q_asgD R (eN (sw_ret ?_)))))
 obtain rfl := sI h
 exact f1 4 R
def slices_ContainsFunc_int (F : Nat) (s : (List Int)) (f : (Int → Option Bool)) : Option Bool := Option.bind (slices_IndexFunc_int F s f) fun rv => some (decide (0 ≤ rv))
theorem slices_ContainsFunc_int_scr {F : Nat} {s : (List Int)} {f : (Int → Option Bool)} {r : Bool} {fi : Nat} {fc : List D} (fh : ∀ {a0 : Int} {r : Bool}, f a0 = some r → PC Try.prog fi ([.v (.int .i64 a0)] ++ fc) (.v (.bool r))) (fe : Ent Try.prog fi) (h : slices_ContainsFunc_int F s f = some r) : SCR Try.prog 81 [.d (.arr 1 ((s).map vI)), .fn (.func fi) [] (fc.map .d)] [] (.d (.v (.bool r))) (List.map some []) := by
 rw [slices_ContainsFunc_int] at h
 refine SC.of_sw Try.func81 R R R ?_
 dsimp only [argS, List.map]
 refine qG (q_asgD R (eN (qG (q_movD R (r_movF R R R ?_)))))
 obtain ⟨rv, hrv, h⟩ := bnd h
 refine r_callX (t' := .d (vI rv)) (news' := []) (slices_IndexFunc_int_scr (f := f) (fh := fh) (fe := fe) hrv) R .nil (.of (by kernel_rfl)) R R ((.cons (.d (.d _)) (.cons .hof .nil))) R .nil R R R ?_
 simp only [List.map_nil, List.append_nil]
 refine r_geqV R R R R (q_asgD R (eN (sw_ret ?_)))
 obtain rfl := sI h
 exact f1 4 R
def frame_bad (F : Nat) (lv : (List Int)) : Option Bool := Option.bind (slices_ContainsFunc_int F lv (fun a0 => frame_bad_1 F a0)) fun rv => some rv
theorem frame_bad_pc {F : Nat} {lv : (List Int)} {r : Bool} (h : frame_bad F lv = some r) : PC Try.prog 57 [.arr 1 ((lv).map vI)] (.v (.bool r)) := by
 rw [frame_bad] at h
 refine SC.of_sw Try.func57 R R R ?_
 dsimp only [argS, List.map]
 refine qG (q_asgD R (eN (qG (q_movD R ?_))))
 obtain ⟨rv, hrv, h⟩ := bnd h
 refine r_callX (t' := .d (.v (.bool rv))) (news' := []) (slices_ContainsFunc_int_scr (f := (fun a0 => frame_bad_1 F a0)) (fc := []) (fh := fun hr => frame_bad_1_pc hr) (fe := .of (by kernel_rfl)) hrv) R .nil (.of (by kernel_rfl)) R R ((.cons (.d (.d _)) (.cons .fnc .nil))) R .nil R R R ?_
 simp only [List.map_nil, List.append_nil]
 refine q_asgD R (eN (sw_ret ?_))
 obtain rfl := sI h
 exact f1 2 R
def frame_meet (F : Nat) (a : FrChannel) (b : FrChannel) : Option Bool := if a.word = b.word then (if (min a.every b.every) = 0 then none else (some (decide ((Int.tmod a.phase (min a.every b.every)) = (Int.tmod b.phase (min a.every b.every)))))) else (some false)
theorem frame_meet_pc {F : Nat} {a : FrChannel} {b : FrChannel} {r : Bool} (h : frame_meet F a b = some r) : PC Try.prog 78 [FrChannel.d a, FrChannel.d b] (.v (.bool r)) := by
 rw [frame_meet] at h
 refine SC.of_sw Try.func78 R R R ?_
 dsimp only [argS, List.map]
 refine qG (q_box R (q_box R (q_asgD R (eN (qG (q_fa tb R (q_ldD (y := vI a.every) tb R (q_fa tb R (q_ldD (y := vI b.every) tb R (r_min2 R R R R (q_asgD R (eN (sw_seq (sw_dr (by kernel_rfl) (q_fa tb R (q_ldD (y := vI a.word) tb R (q_fa tb R (q_ldD (y := vI b.word) tb R ?_))))))))))))))))))
 refine r_eql R R R R ?_ ?_
 ·intro c
  replace h := ifP c h
  refine q_movD R (q_fa tb R (q_ldD (y := vI a.phase) tb R (q_movD R ?_)))
  by_cases c2 : (min a.every b.every) = 0
  ·cases (if_pos c2).symm.trans h
  replace h := ifN c2 h
  refine r_rem R R c2 R R (q_fa tb R (q_ldD (y := vI b.phase) tb R (q_movD R (r_rem R R c2 R R (r_eqlV R R R R (q_pickT R (q_asgD R (ev_endD (by kernel_rfl) (then_norm (sw_ret ?_))))))))))
  obtain rfl := sI h
  exact f1 4 R
 intro c
 replace h := ifN c h
 refine q_movD R (q_sk 9 R (q_pickF R (q_asgD R (ev_endD (by kernel_rfl) (then_norm (sw_ret ?_))))))
 obtain rfl := sI h
 exact f1 4 R
def frame_Check_1 (F : Nat) (d : FrChannel) (c : FrChannel) : Option Bool := if d.name.toList = c.name.toList then (some true) else (some false)
theorem frame_Check_1_pc {F : Nat} {d : FrChannel} {c : FrChannel} {r : Bool} (h : frame_Check_1 F d c = some r) : PC Try.prog 76 [FrChannel.d d, .el 4 (([c]).map FrChannel.d) ((0 : Int)).toNat 0] (.v (.bool r)) := by
 rw [frame_Check_1] at h
 refine SC.of_sw Try.func76 R R R ?_
 dsimp only [argS, List.map]
 refine qG (q_box R (q_asgD R (eN (qG (q_fa tb R (q_ldD (y := .v (.string d.name)) tb R (q_faE tb R (q_ldE (y := .v (.string c.name)) tb (ix2 (g := FrChannel.d) (R : ixO [c] 0 = some c)) R ?_))))))))
 refine r_streql R R R R ?_ ?_
 ·intro c2
  replace h := ifP c2 h
  refine q_asgD R (eN (sw_ret ?_))
  obtain rfl := sI h
  exact f1 3 R
 intro c2
 replace h := ifN c2 h
 refine q_asgD R (eN (sw_ret ?_))
 obtain rfl := sI h
 exact f1 3 R
def frame_Check_2 (F : Nat) (d : FrChannel) (c : FrChannel) : Option Bool := Option.bind (frame_meet F c d) fun rv => some rv
theorem frame_Check_2_pc {F : Nat} {d : FrChannel} {c : FrChannel} {r : Bool} (h : frame_Check_2 F d c = some r) : PC Try.prog 77 [FrChannel.d d, .el 4 (([c]).map FrChannel.d) ((0 : Int)).toNat 0] (.v (.bool r)) := by
 rw [frame_Check_2] at h
 refine SC.of_sw Try.func77 R R R ?_
 dsimp only [argS, List.map]
 refine qG (q_box R (q_asgD R (eN (qG (q_ldE (y := FrChannel.d c) tb (ix2 (g := FrChannel.d) (R : ixO [c] 0 = some c)) R (q_ldD (y := FrChannel.d d) tb R ?_))))))
 obtain ⟨rv, hrv, h⟩ := bnd h
 refine r_call (frame_meet_pc hrv) (.of (by kernel_rfl)) R R R R (q_asgD R (eN (sw_ret ?_)))
 obtain rfl := sI h
 exact f1 3 R
def slices_IndexFunc_FrChannel_L1 (F : Nat) (s : (List FrChannel)) (f : (FrChannel → Option Bool)) (K : Int → Option Int) : Nat → Int → Option Int
 | 0, _ => none
 | n + 1, x => if x < (s.length : Int) then (Option.bind (ixO s x) fun e => Option.bind (f e) fun rv => if rv = true then (some x) else (slices_IndexFunc_FrChannel_L1 F s f K n (W (x + 1)))) else (K x)
def slices_IndexFunc_FrChannel (F : Nat) (s : (List FrChannel)) (f : (FrChannel → Option Bool)) : Option Int := slices_IndexFunc_FrChannel_L1 F s f (fun (x : Int) => some (-1)) F 0
theorem slices_IndexFunc_FrChannel_scr {F : Nat} {s : (List FrChannel)} {f : (FrChannel → Option Bool)} {r : Int} {fi : Nat} {fc : List D} (fh : ∀ {a0 : FrChannel} {r : Bool}, f a0 = some r → PC Try.prog fi ([FrChannel.d a0] ++ fc) (.v (.bool r))) (fe : Ent Try.prog fi) (h : slices_IndexFunc_FrChannel F s f = some r) : SCR Try.prog 106 [.d (.arr 4 ((s).map FrChannel.d)), .fn (.func fi) [] (fc.map .d)] [] (.d (.v (.int .i64 r))) (List.map some []) := by
 rw [slices_IndexFunc_FrChannel] at h
 refine SC.of_sw Try.func106 R R R ?_
 dsimp only [argS, List.map]
 refine qG (q_asgD R (eN (sw_seq (qG (q_movD R (q_lenM tb R (q_movD R (eN (sw_block ?_)))))))))
 obtain ⟨K2, hK2, h⟩ : ∃ K, K = _ ∧ slices_IndexFunc_FrChannel_L1 F s f K F 0 = some r := ⟨_, rfl, h⟩
 refine sw_loopS (fun m st => ∃ (x : Int), slices_IndexFunc_FrChannel_L1 F s f K2 m x = some r ∧ st = ⟨[(0, .d (.arr 4 ((s).map FrChannel.d))), (1, .fn (.func fi) [] (fc.map .d)), (4, .d (vI 0)), (7, .d (vI (s.length : Int))), (8, .d (vI x))], []⟩) (.prn [0, 1, 4, 7, 8] R) ⟨0, h, R⟩ ?_
 clear h
 rintro m2 st ⟨x, h, rfl⟩
 cases m2 with
 | zero => cases (show (none : Option Int) = some r from h)
 | succ m2 =>
 rw [slices_IndexFunc_FrChannel_L1] at h
 refine qG ?_
 refine r_lss R R R R ?_ ?_
 ·intro c
  replace h := ifP c h
  refine eN (sw_seq (sw_condT R (sw_skip (then_norm (sw_seq (sw_block (qG (q_movD R (q_asgD R (eN (qG (r_movF R R R (q_movD R (q_movD R ?_))))))))))))))
  obtain ⟨e, ie, h⟩ := bnd h
  refine q_ixE tb (ix0 ie) (ix1m ie) R (q_ldE (y := FrChannel.d e) tb (ix2 (g := FrChannel.d) ie) R ?_)
  obtain ⟨rv, hrv, h⟩ := bnd h
  refine r_callH (vs := [FrChannel.d e]) (fh hrv) fe R R R R ?_
  with_reducible apply ev_lit
  ·intro c2
   replace h := ifP c2 h
   refine eN (sw_condT R (qG (q_movD R (q_asgD R (eN (sw_ret (block_ret (then_ret (then_ret (block_ret (then_ret ?_)))))))))))
   obtain rfl := sI h
   exact f1 4 R
  intro c2
  replace h := ifF c2 h
  refine eN (sw_condF R (sw_skip (block_norm (then_norm (sw_rg (q_add R (q_movD R (eN ?_))))))))
  exact ⟨m2, _, Nat.lt_succ_self _, .prn [0, 1, 4, 7, 8] R, (W (x + 1)), h, R⟩
 intro c
 replace h := ifN (Int.not_lt.2 c) h
 refine eN (sw_seq (sw_condF R (sw_exit (then_exit (then_exit ?_)))))
 subst hK2
 refine block_exit (then_norm (qG (q_asgD R (eN (sw_ret ?_)))))
 obtain rfl := sI h
 exact f1 4 R
def slices_ContainsFunc_FrChannel (F : Nat) (s : (List FrChannel)) (f : (FrChannel → Option Bool)) : Option Bool := Option.bind (slices_IndexFunc_FrChannel F s f) fun rv => some (decide (0 ≤ rv))
theorem slices_ContainsFunc_FrChannel_scr {F : Nat} {s : (List FrChannel)} {f : (FrChannel → Option Bool)} {r : Bool} {fi : Nat} {fc : List D} (fh : ∀ {a0 : FrChannel} {r : Bool}, f a0 = some r → PC Try.prog fi ([FrChannel.d a0] ++ fc) (.v (.bool r))) (fe : Ent Try.prog fi) (h : slices_ContainsFunc_FrChannel F s f = some r) : SCR Try.prog 75 [.d (.arr 4 ((s).map FrChannel.d)), .fn (.func fi) [] (fc.map .d)] [] (.d (.v (.bool r))) (List.map some []) := by
 rw [slices_ContainsFunc_FrChannel] at h
 refine SC.of_sw Try.func75 R R R ?_
 dsimp only [argS, List.map]
 refine qG (q_asgD R (eN (qG (q_movD R (r_movF R R R ?_)))))
 obtain ⟨rv, hrv, h⟩ := bnd h
 refine r_callX (t' := .d (vI rv)) (news' := []) (slices_IndexFunc_FrChannel_scr (f := f) (fh := fh) (fe := fe) hrv) R .nil (.of (by kernel_rfl)) R R ((.cons (.d (.d _)) (.cons .hof .nil))) R .nil R R R ?_
 simp only [List.map_nil, List.append_nil]
 refine r_geqV R R R R (q_asgD R (eN (sw_ret ?_)))
 obtain rfl := sI h
 exact f1 4 R
def frame_Check_L1 (F : Nat) (t : FrFormat) (K : Int → Option (Int × Int × Int)) : Nat → Int → Option (Int × Int × Int)
 | 0, _ => none
 | n + 1, x => if x < (t.channels.length : Int) then (Option.bind (ixO t.channels x) fun e => Option.bind (cutO t.channels 0 x) fun q => Option.bind (wind_Name F e.name) fun rv4 => if rv4 = true then (Option.bind (slices_ContainsFunc_FrChannel F q (fun a0 => frame_Check_1 F a0 e)) fun rv5 => if rv5 = true then (some (2, x, 5)) else (Option.bind (frame_out_int F e.word 0 (W (t.words - 1))) fun rv6 => if rv6 = true then (some (2, x, 7)) else (if e.every < 1 then (some (2, x, 7)) else (if e.every = 0 then none else (if (Int.tmod t.depth e.every) = 0 then (Option.bind (frame_out_int F e.phase 0 (W (e.every - 1))) fun rv7 => if rv7 = true then (some (2, x, 7)) else (Option.bind (slices_ContainsFunc_FrChannel F q (fun a0 => frame_Check_2 F a0 e)) fun rv8 => if rv8 = true then (some (2, x, 2)) else (frame_Check_L1 F t K n (W (x + 1))))) else (some (2, x, 7))))))) else (some (2, x, 6))) else (K x)
def frame_Check (F : Nat) (t : FrFormat) : Option (Int × Int × Int) := Option.bind (frame_out_int F (t.sync.size : Int) 1 4) fun rv => if rv = true then (some (1, 0, 3)) else (if 12 < (t.channels.length : Int) then (some (1, 0, 3)) else (Option.bind (frame_out_int F t.words 1 32) fun rv2 => if rv2 = true then (some (1, 0, 7)) else (Option.bind (frame_out_int F t.depth 1 16) fun rv3 => if rv3 = true then (some (1, 0, 7)) else (if (iand .i64 t.depth (W (t.depth - 1))) = 0 then (frame_Check_L1 F t (fun (x : Int) => some (0, 0, 0)) F 0) else (some (1, 0, 7))))))
theorem frame_Check_pc {F : Nat} {t : FrFormat} {r : (Int × Int × Int)} (h : frame_Check F t = some r) : PC Try.prog 38 [FrFormat.d t] (.tup [.v (.int .i64 r.1), .v (.int .i64 r.2.1), .v (.int .i64 r.2.2)]) := by
 rw [frame_Check] at h
 refine SC.of_sw Try.func38 R R R ?_
 dsimp only [argS, List.map]
 refine qG (q_box R (q_asgD R (q_asgD R (q_asgD R (eN (sw_seq (sw_block (qG (q_fa tb R (q_ldD (y := .v (.string t.sync)) tb R (r_lenS R R R R ?_)))))))))))
 obtain ⟨rv, hrv, h⟩ := bnd h
 refine r_callB (frame_out_int_pc hrv) (.of (by kernel_rfl)) R R R R ?_ ?_
 ·intro c
  replace h := ifP c h
  refine q_movD R (q_sk 4 R (q_pickT R (q_asgD R (eN (sw_condT R (qG (q_asgD R (q_asgD R (q_asgD R (eN (sw_ret (block_ret (then_ret ?_)))))))))))))
  obtain rfl := sI h
  exact fin_0 (t := .d (.tup [vI 1, vI 0, vI 3])) R R R (.cons (.tmp 2) (.cons (.tmp 3) (.cons (.tmp 4) .nil)))
 intro c
 replace h := ifF c h
 refine q_movD R (q_fa tb R (q_ldD (y := .arr 4 ((t.channels).map FrChannel.d)) tb R (q_lenM tb R ?_)))
 refine r_gtr R R R R ?_ ?_
 ·intro c2
  replace h := ifP c2 h
  refine q_pickF R (q_asgD R (eN (sw_condT R (qG (q_asgD R (q_asgD R (q_asgD R (eN (sw_ret (block_ret (then_ret ?_)))))))))))
  obtain rfl := sI h
  exact fin_0 (t := .d (.tup [vI 1, vI 0, vI 3])) R R R (.cons (.tmp 2) (.cons (.tmp 3) (.cons (.tmp 4) .nil)))
 intro c2
 replace h := ifN (Int.not_lt.2 c2) h
 refine q_pickF R (q_asgD R (eN (sw_condF R (qG (q_fa tb R (q_ldD (y := vI t.words) tb R ?_))))))
 obtain ⟨rv2, hrv2, h⟩ := bnd h
 refine r_callB (frame_out_int_pc hrv2) (.of (by kernel_rfl)) R R R R ?_ ?_
 ·intro c3
  replace h := ifP c3 h
  refine q_movD R (q_sk 3 R (q_pickT R (q_movD R (q_sk 7 R (q_pickT R (q_asgD R (eN (sw_condT R (qG (q_asgD R (q_asgD R (q_asgD R (eN (sw_ret (block_ret (then_ret ?_))))))))))))))))
  obtain rfl := sI h
  exact fin_0 (t := .d (.tup [vI 1, vI 0, vI 7])) R R R (.cons (.tmp 2) (.cons (.tmp 3) (.cons (.tmp 4) .nil)))
 intro c3
 replace h := ifF c3 h
 refine q_movD R (q_fa tb R (q_ldD (y := vI t.depth) tb R ?_))
 obtain ⟨rv3, hrv3, h⟩ := bnd h
 refine r_callB (frame_out_int_pc hrv3) (.of (by kernel_rfl)) R R R R ?_ ?_
 ·intro c4
  replace h := ifP c4 h
  refine q_pickF R (q_movD R (q_sk 7 R (q_pickT R (q_asgD R (eN (sw_condT R (qG (q_asgD R (q_asgD R (q_asgD R (eN (sw_ret (block_ret (then_ret ?_))))))))))))))
  obtain rfl := sI h
  exact fin_0 (t := .d (.tup [vI 1, vI 0, vI 7])) R R R (.cons (.tmp 2) (.cons (.tmp 3) (.cons (.tmp 4) .nil)))
 intro c4
 replace h := ifF c4 h
 refine q_pickF R (q_movD R (q_fa tb R (q_ldD (y := vI t.depth) tb R (q_fa tb R (q_ldD (y := vI t.depth) tb R (r_sub R R R R (r_and R R R R ?_)))))))
 refine r_neq R R R R ?_ ?_
 ·intro c5
  replace h := ifN c5 h
  refine q_pickF R (q_asgD R (eN (sw_condT R (qG (q_asgD R (q_asgD R (q_asgD R (eN (sw_ret (block_ret (then_ret ?_)))))))))))
  obtain rfl := sI h
  exact fin_0 (t := .d (.tup [vI 1, vI 0, vI 7])) R R R (.cons (.tmp 2) (.cons (.tmp 3) (.cons (.tmp 4) .nil)))
 intro c5
 replace h := ifP c5 h
 refine q_pickF R (q_asgD R (eN (sw_condF R (sw_skip (block_norm (then_norm (sw_seq (qG (q_fa tb R (q_ldD (y := .arr 4 ((t.channels).map FrChannel.d)) tb R (q_lenM tb R (q_movD R (eN (sw_block ?_))))))))))))))
 obtain ⟨K2, hK2, h⟩ : ∃ K, K = _ ∧ frame_Check_L1 F t K F 0 = some r := ⟨_, rfl, h⟩
 refine sw_loopS (fun m st => ∃ (x : Int), frame_Check_L1 F t K2 m x = some r ∧ st = ⟨[(1, .ref 0 4 0 0), (2, .d (vI 0)), (3, .d (vI 0)), (4, .d (vI 0)), (38, .d (.arr 4 ((t.channels).map FrChannel.d))), (39, .d (vI (t.channels.length : Int))), (40, .d (vI x))], [some ⟨4, [.d (FrFormat.d t)]⟩]⟩) (.prn [1, 2, 3, 4, 38, 39, 40] R) ⟨0, h, R⟩ ?_
 clear h
 rintro m2 st ⟨x, h, rfl⟩
 cases m2 with
 | zero => cases (show (none : Option (Int × Int × Int)) = some r from h)
 | succ m2 =>
 rw [frame_Check_L1] at h
 refine qG ?_
 refine r_lss R R R R ?_ ?_
 ·intro c6
  replace h := ifP c6 h
  refine eN (sw_seq (sw_condT R (sw_skip (then_norm (sw_seq (sw_block (qG (q_movD R ?_))))))))
  obtain ⟨e, ie, h⟩ := bnd h
  refine q_ixE tb (ix0 ie) (ix1m ie) R (q_ldE (y := FrChannel.d e) tb (ix2 (g := FrChannel.d) ie) R (r_alloc tb R R R R R (q_asgD R (q_stE _ _ tb R (eN (qG (q_fa tb R (q_ldD (y := .arr 4 ((t.channels).map FrChannel.d)) tb R (q_movD R ?_)))))))))
  obtain ⟨q, iq, h⟩ := bnd h
  refine r_sliceT tb R R R R R R iq R R (q_asgD R (eN (sw_block (qG (q_fa tb R (q_ldD (y := .v (.string e.name)) tb R ?_))))))
  obtain ⟨rv4, hrv4, h⟩ := bnd h
  refine r_callB (wind_Name_pc hrv4) (.of (by kernel_rfl)) R R R R ?_ ?_
  ·intro c7
   replace h := ifP c7 h
   refine r_notT R R R (q_asgD R (eN (sw_condF R (qG (q_movD R (r_func R R R R ?_))))))
   obtain ⟨rv5, hrv5, h⟩ := bnd h
   refine r_callX (t' := .d (.v (.bool rv5))) (news' := []) (slices_ContainsFunc_FrChannel_scr (f := (fun a0 => frame_Check_1 F a0 e)) (fc := [.el 4 [FrChannel.d e] 0 0]) (fh := fun hr => frame_Check_1_pc hr) (fe := .of (by kernel_rfl)) hrv5) R .nil (.of (by kernel_rfl)) R R ((.cons (.d (.d _)) (.cons (.fnC (.cons (.d (.ref R (.d _))) .nil)) .nil))) R .nil R R R ?_
   simp only [List.map_nil, List.append_nil]
   with_reducible apply ev_lit
   ·intro c8
    replace h := ifP c8 h
    refine q_asgD R (eN (sw_condT R (qG (q_movD R (q_asgD R (q_asgD R (q_asgD R (eN (sw_ret (block_ret (block_ret (then_ret (then_ret (block_ret (then_ret ?_)))))))))))))))
    obtain rfl := sI h
    exact fin_0 (t := .d (.tup [vI 2, vI x, vI 5])) R R R (.cons (.tmp 2) (.cons (.tmp 3) (.cons (.tmp 4) .nil)))
   intro c8
   replace h := ifF c8 h
   refine q_asgD R (eN (sw_condF R (qG (q_fa tb R (q_ldD (y := vI e.word) tb R (q_fa tb R (q_ldD (y := vI t.words) tb R (r_sub R R R R ?_))))))))
   obtain ⟨rv6, hrv6, h⟩ := bnd h
   refine r_callB (frame_out_int_pc hrv6) (.of (by kernel_rfl)) R R R R ?_ ?_
   ·intro c9
    replace h := ifP c9 h
    refine q_movD R (q_sk 3 R (q_pickT R (q_movD R (q_sk 6 R (q_pickT R (q_movD R (q_sk 6 R (q_pickT R (q_asgD R (eN (sw_condT R (qG (q_movD R (q_asgD R (q_asgD R (q_asgD R (eN (sw_ret (block_ret (block_ret (then_ret (then_ret (block_ret (then_ret ?_))))))))))))))))))))))))
    obtain rfl := sI h
    exact fin_0 (t := .d (.tup [vI 2, vI x, vI 7])) R R R (.cons (.tmp 2) (.cons (.tmp 3) (.cons (.tmp 4) .nil)))
   intro c9
   replace h := ifF c9 h
   refine q_movD R (q_fa tb R (q_ldD (y := vI e.every) tb R ?_))
   refine r_lss R R R R ?_ ?_
   ·intro c10
    replace h := ifP c10 h
    refine q_pickF R (q_movD R (q_sk 6 R (q_pickT R (q_movD R (q_sk 6 R (q_pickT R (q_asgD R (eN (sw_condT R (qG (q_movD R (q_asgD R (q_asgD R (q_asgD R (eN (sw_ret (block_ret (block_ret (then_ret (then_ret (block_ret (then_ret ?_))))))))))))))))))))))
    obtain rfl := sI h
    exact fin_0 (t := .d (.tup [vI 2, vI x, vI 7])) R R R (.cons (.tmp 2) (.cons (.tmp 3) (.cons (.tmp 4) .nil)))
   intro c10
   replace h := ifN (Int.not_lt.2 c10) h
   refine q_pickF R (q_movD R (q_fa tb R (q_ldD (y := vI t.depth) tb R (q_fa tb R (q_ldD (y := vI e.every) tb R ?_)))))
   by_cases c11 : e.every = 0
   ·cases (if_pos c11).symm.trans h
   replace h := ifN c11 h
   refine r_rem R R c11 R R ?_
   refine r_neq R R R R ?_ ?_
   ·intro c12
    replace h := ifN c12 h
    refine q_pickF R (q_movD R (q_sk 6 R (q_pickT R (q_asgD R (eN (sw_condT R (qG (q_movD R (q_asgD R (q_asgD R (q_asgD R (eN (sw_ret (block_ret (block_ret (then_ret (then_ret (block_ret (then_ret ?_)))))))))))))))))))
    obtain rfl := sI h
    exact fin_0 (t := .d (.tup [vI 2, vI x, vI 7])) R R R (.cons (.tmp 2) (.cons (.tmp 3) (.cons (.tmp 4) .nil)))
   intro c12
   replace h := ifP c12 h
   refine q_pickF R (q_movD R (q_fa tb R (q_ldD (y := vI e.phase) tb R (q_fa tb R (q_ldD (y := vI e.every) tb R (r_sub R R R R ?_))))))
   obtain ⟨rv7, hrv7, h⟩ := bnd h
   refine r_callB (frame_out_int_pc hrv7) (.of (by kernel_rfl)) R R R R ?_ ?_
   ·intro c13
    replace h := ifP c13 h
    refine q_pickF R (q_asgD R (eN (sw_condT R (qG (q_movD R (q_asgD R (q_asgD R (q_asgD R (eN (sw_ret (block_ret (block_ret (then_ret (then_ret (block_ret (then_ret ?_))))))))))))))))
    obtain rfl := sI h
    exact fin_0 (t := .d (.tup [vI 2, vI x, vI 7])) R R R (.cons (.tmp 2) (.cons (.tmp 3) (.cons (.tmp 4) .nil)))
   intro c13
   replace h := ifF c13 h
   refine q_pickF R (q_asgD R (eN (sw_condF R (qG (q_movD R (r_func R R R R ?_))))))
   obtain ⟨rv8, hrv8, h⟩ := bnd h
   refine r_callX (t' := .d (.v (.bool rv8))) (news' := []) (slices_ContainsFunc_FrChannel_scr (f := (fun a0 => frame_Check_2 F a0 e)) (fc := [.el 4 [FrChannel.d e] 0 0]) (fh := fun hr => frame_Check_2_pc hr) (fe := .of (by kernel_rfl)) hrv8) R .nil (.of (by kernel_rfl)) R R ((.cons (.d (.d _)) (.cons (.fnC (.cons (.d (.ref R (.d _))) .nil)) .nil))) R .nil R R R ?_
   simp only [List.map_nil, List.append_nil]
   with_reducible apply ev_lit
   ·intro c14
    replace h := ifP c14 h
    refine q_asgD R (eN (sw_condT R (qG (q_movD R (q_asgD R (q_asgD R (q_asgD R (eN (sw_ret (block_ret (block_ret (then_ret (then_ret (block_ret (then_ret ?_)))))))))))))))
    obtain rfl := sI h
    exact fin_0 (t := .d (.tup [vI 2, vI x, vI 2])) R R R (.cons (.tmp 2) (.cons (.tmp 3) (.cons (.tmp 4) .nil)))
   intro c14
   replace h := ifF c14 h
   refine q_asgD R (eN (sw_condF R (sw_skip (block_norm (block_norm (then_norm (sw_rg (q_add R (q_movD R (eN ?_))))))))))
   exact ⟨m2, ⟨[(1, .ref 0 4 0 0), (2, .d (vI 0)), (3, .d (vI 0)), (4, .d (vI 0)), (38, .d (.arr 4 ((t.channels).map FrChannel.d))), (39, .d (vI (t.channels.length : Int))), (40, .d (vI (W (x + 1))))], [some ⟨4, [.d (FrFormat.d t)]⟩]⟩, Nat.lt_succ_self _, .vw (κ := [0]) (vK (.cons R R .nil) R), (W (x + 1)), h, R⟩
  intro c7
  replace h := ifF c7 h
  refine r_notF R R R (q_asgD R (eN (sw_condT R (qG (q_movD R (q_asgD R (q_asgD R (q_asgD R (eN (sw_ret (block_ret (block_ret (then_ret (then_ret (block_ret (then_ret ?_))))))))))))))))
  obtain rfl := sI h
  exact fin_0 (t := .d (.tup [vI 2, vI x, vI 6])) R R R (.cons (.tmp 2) (.cons (.tmp 3) (.cons (.tmp 4) .nil)))
 intro c6
 replace h := ifN (Int.not_lt.2 c6) h
 refine eN (sw_seq (sw_condF R (sw_exit (then_exit (then_exit ?_)))))
 subst hK2
 refine block_exit (then_norm (qG (q_asgD R (q_asgD R (q_asgD R (eN (sw_ret ?_)))))))
 obtain rfl := sI h
 exact fin_0 (t := .d (.tup [vI 0, vI 0, vI 0])) R R R (.cons (.tmp 2) (.cons (.tmp 3) (.cons (.tmp 4) .nil)))
def frame_asked (F : Nat) (f : FrFormat) (number : Int) : Option Int := Option.bind (frame_Check F f) fun rv => if rv.2.2 = 0 then (Option.bind (frame_out_int F number 0 1000000) fun rv2 => if rv2 = true then (some 7) else (some rv.2.2)) else (some rv.2.2)
theorem frame_asked_pc {F : Nat} {f : FrFormat} {number : Int} {r : Int} (h : frame_asked F f number = some r) : PC Try.prog 56 [FrFormat.d f, .v (.int .i64 number)] (.v (.int .i64 r)) := by
 rw [frame_asked] at h
 refine SC.of_sw Try.func56 R R R ?_
 dsimp only [argS, List.map]
 refine qG (q_box R (q_asgD R (eN (qG (q_ldD (y := FrFormat.d f) tb R ?_)))))
 obtain ⟨rv, hrv, h⟩ := bnd h
 refine r_call (frame_Check_pc hrv) (.of (by kernel_rfl)) R R R R (q_movD R (r_extD (t := vI rv.1) R R R R (r_extD (t := vI rv.2.1) R R R R (r_extD (t := vI rv.2.2) R R R R (q_asgD R (q_asgD R (q_asgD R (eN (sw_seq (qG (q_movD R ?_)))))))))))
 refine r_eql R R R R ?_ ?_
 ·intro c
  replace h := ifP c h
  refine q_movD R (q_movD R ?_)
  obtain ⟨rv2, hrv2, h⟩ := bnd h
  refine r_callB (frame_out_int_pc hrv2) (.of (by kernel_rfl)) R R R R ?_ ?_
  ·intro c2
   replace h := ifP c2 h
   refine q_pickT R (eN (sw_condT R (qG (q_asgD R (eN (sw_ret (then_ret ?_)))))))
   obtain rfl := sI h
   exact f1 4 R
  intro c2
  replace h := ifF c2 h
  refine q_pickT R (eN (sw_condF R (sw_skip (then_norm (qG (q_movD R (q_asgD R (eN (sw_ret ?_)))))))))
  obtain rfl := sI h
  exact f1 4 R
 intro c
 replace h := ifN c h
 refine q_movD R (q_sk 2 R (q_pickF R (eN (sw_condF R (sw_skip (then_norm (qG (q_movD R (q_asgD R (eN (sw_ret ?_)))))))))))
 obtain rfl := sI h
 exact f1 4 R
def frame_bytes_L1 (F : Nat) (words : (List Int)) (K : (List Int) → Int → Option (List Int)) : Nat → (List Int) → Int → Option (List Int)
 | 0, _, _ => none
 | n + 1, b, x => if x < (words.length : Int) then (Option.bind (ixO words x) fun e => Option.bind (frame_pair F e) fun rv => Option.bind (appO b rv) fun q2 => frame_bytes_L1 F words K n q2 (W (x + 1))) else (K b x)
def frame_bytes (F : Nat) (f : FrFormat) (number : Int) (words : (List Int)) : Option (List Int) := Option.bind (appO (bytesL f.sync) [(W8 number)]) fun q => frame_bytes_L1 F words (fun (b : (List Int)) (x : Int) => Option.bind (frame_Sum F b) fun rv2 => Option.bind (frame_pair F rv2) fun rv3 => Option.bind (appO b rv3) fun q3 => some q3) F q 0
theorem frame_bytes_scr {F : Nat} {f : FrFormat} {number : Int} {words : (List Int)} {r : (List Int)} (h : frame_bytes F f number words = some r) : SCR Try.prog 64 (List.map T.d [FrFormat.d f, .v (.int .i64 number), .arr 1 ((words).map vI)]) [] (.row 0 1 0 (r).length) (List.map some [(lv8 r)]) := by
 rw [frame_bytes] at h
 refine SC.of_sw Try.func64 R R R ?_
 dsimp only [argS, List.map]
 refine qG (q_box R (q_asgD R (eN (qG (q_fa tb R (q_ldD (y := .v (.string f.sync)) tb R (r_bytesR R R R R R R R (q_movD R (r_cvI (k2 := .u8) R R R R R R (r_bslice tb R R R R R R R R R R R R R ?_))))))))))
 obtain ⟨q, iq, h⟩ := bnd h
 refine r_apM (g := v8) (w := (bytesL f.sync)) (v := [(W8 number)]) ([some ⟨4, [.d (FrFormat.d f)]⟩, none, some (lv8 [(W8 number)])]) tb R R R R R R R R R R R iq R R R R R (r_asgW R R R (eN (sw_seq (qG (q_movD R (q_lenM tb R (q_movD R (eN (sw_block ?_)))))))))
 obtain ⟨K1, hK1, h⟩ : ∃ K, K = _ ∧ frame_bytes_L1 F words K F q 0 = some r := ⟨_, rfl, h⟩
 refine sw_loopS (st0 := ⟨[(6, .d (.v (.slice none 0 0))), (7, .row 0 1 0 (q).length), (17, .d (.arr 1 ((words).map vI))), (18, .d (vI (words.length : Int))), (19, .d (vI 0))], [some (lv8 q)]⟩) (fun m st => ∃ (b : (List Int)) (x : Int), frame_bytes_L1 F words K1 m b x = some r ∧ st = ⟨[(6, .d (.v (.slice none 0 0))), (7, .row 0 1 0 (b).length), (17, .d (.arr 1 ((words).map vI))), (18, .d (vI (words.length : Int))), (19, .d (vI x))], [some (lv8 b)]⟩) (.vw (κ := [3]) (vK (.row R .nil) R)) ⟨q, 0, h, R⟩ ?_
 clear h
 rintro m1 st ⟨b, x, h, rfl⟩
 cases m1 with
 | zero => cases (show (none : Option (List Int)) = some r from h)
 | succ m1 =>
 rw [frame_bytes_L1] at h
 refine qG ?_
 refine r_lss R R R R ?_ ?_
 ·intro c
  replace h := ifP c h
  refine eN (sw_seq (sw_condT R (sw_skip (then_norm (sw_seq (sw_block (qG ?_)))))))
  obtain ⟨e, ie, h⟩ := bnd h
  refine q_ixE tb (ix0 ie) (ix1m ie) R (q_ldE (y := vI e) tb (ix2 (g := vI) ie) R (q_asgD R (eN (sw_rg (r_movW R R R (q_movD R ?_))))))
  obtain ⟨rv, hrv, h⟩ := bnd h
  refine r_callN (t' := .row 1 1 0 (rv).length) (news' := [(lv8 rv)]) (frame_pair_scr hrv) (.of (by kernel_rfl)) R R R ((.row .nil)) R R R ?_
  obtain ⟨q2, iq2, h⟩ := bnd h
  refine r_apM (g := v8) (w := b) (v := rv) ([none, some (lv8 rv)]) tb R R R R R R R R R R (ones_map (fun _ => rfl)) iq2 R R R R R ?_
  refine r_asgW R R R (ev_end (block_norm (then_norm (sw_rg (q_add R (q_movD R (eN ?_)))))))
  exact ⟨m1, ⟨[(6, .d (.v (.slice none 0 0))), (7, .row 0 1 0 (q2).length), (17, .d (.arr 1 ((words).map vI))), (18, .d (vI (words.length : Int))), (19, .d (vI (W (x + 1))))], [some (lv8 q2)]⟩, Nat.lt_succ_self _, .vw (κ := [2]) (vK (.row R .nil) R), q2, (W (x + 1)), h, R⟩
 intro c
 replace h := ifN (Int.not_lt.2 c) h
 refine eN (sw_seq (sw_condF R (sw_exit (then_exit (then_exit ?_)))))
 subst hK1
 refine block_exit (then_norm (qG (r_movW R R R (r_movW R R R ?_))))
 obtain ⟨rv2, hrv2, h⟩ := bnd h
 refine r_callL (frame_Sum_pc hrv2) R (.of (by kernel_rfl)) R R ((.cons (.row R R) .nil)) R R ?_
 obtain ⟨rv3, hrv3, h⟩ := bnd h
 refine r_callN (t' := .row 1 1 0 (rv3).length) (news' := [(lv8 rv3)]) (frame_pair_scr hrv3) (.of (by kernel_rfl)) R R R ((.row .nil)) R R R ?_
 obtain ⟨q3, iq3, h⟩ := bnd h
 refine r_apM (g := v8) (w := b) (v := rv3) ([none, some (lv8 rv3)]) tb R R R R R R R R R R (ones_map (fun _ => rfl)) iq3 R R R R R ?_
 refine r_asgW R R R (eN (sw_ret ?_))
 obtain rfl := sI h
 exact f2 [2] (.row R .nil) R (.cons (.tmp 6) .nil) R
theorem frame_bytes_pc {F : Nat} {f : FrFormat} {number : Int} {words : (List Int)} {r : (List Int)} (h : frame_bytes F f number words = some r) : PC Try.prog 64 [FrFormat.d f, .v (.int .i64 number), .arr 1 ((words).map vI)] (.arr 1 ((r).map v8)) := (frame_bytes_scr h).toPC (.row rfl rfl)
def frame_Encode (F : Nat) (f : FrFormat) (number : Int) (words : (List Int)) : Option ((List Int) × Int) := Option.bind (frame_asked F f number) fun rv => if rv = 0 then (if (words.length : Int) = f.words then (Option.bind (frame_bad F words) fun rv2 => if rv2 = true then (some (([] : List Int), 7)) else (Option.bind (frame_bytes F f number words) fun rv3 => some (rv3, 0))) else (some (([] : List Int), 2))) else (some (([] : List Int), rv))
theorem frame_Encode_scr {F : Nat} {f : FrFormat} {number : Int} {words : (List Int)} {r : ((List Int) × Int)} (h : frame_Encode F f number words = some r) : SCR Try.prog 25 (List.map T.d [FrFormat.d f, .v (.int .i64 number), .arr 1 ((words).map vI)]) [] (.tup [.row 0 1 0 (r.1).length, .d (.v (.int .i64 r.2))]) (List.map some [(lv8 r.1)]) := by
 rw [frame_Encode] at h
 refine SC.of_sw Try.func25 R R R ?_
 dsimp only [argS, List.map]
 refine qG (q_box R (q_asgD R (q_asgD R (eN (qG (q_ldD (y := FrFormat.d f) tb R (q_movD R ?_)))))))
 obtain ⟨rv, hrv, h⟩ := bnd h
 refine r_call (frame_asked_pc hrv) (.of (by kernel_rfl)) R R R R (q_asgD R (eN (sw_seq (sw_block (qG (q_movD R ?_))))))
 refine r_neq R R R R ?_ ?_
 ·intro c
  replace h := ifN c h
  refine q_asgD R (eN (sw_condT R (qG (q_movD R (q_asgD R (q_asgD R (eN ?_)))))))
  refine SW.own (ts' := [(6, .row 1 1 0 (([] : List Int)).length), (7, .d (vI rv))]) (L' := [some ⟨4, [.d (FrFormat.d f)]⟩]) 1 R R (.cons .nil (.cons (.same _) .nil)) (.same .nil) ?_
  simp only [List.cons_append, List.nil_append]
  refine sw_ret (block_ret (then_ret ?_))
  obtain rfl := sI h
  exact f2 [1] (.row R .nil) R (.cons (.tmp 6) (.cons (.tmp 7) .nil)) R
 intro c
 replace h := ifP c h
 refine q_asgD R (eN (sw_condF R (qG (q_movD R (q_lenM tb R (q_fa tb R (q_ldD (y := vI f.words) tb R ?_)))))))
 refine r_neq R R R R ?_ ?_
 ·intro c2
  replace h := ifN c2 h
  refine q_asgD R (eN (sw_condT R (qG (q_asgD R (q_asgD R (eN ?_))))))
  refine SW.own (ts' := [(6, .row 1 1 0 (([] : List Int)).length), (7, .d (vI 2))]) (L' := [some ⟨4, [.d (FrFormat.d f)]⟩]) 1 R R (.cons .nil (.cons (.same _) .nil)) (.same .nil) ?_
  simp only [List.cons_append, List.nil_append]
  refine sw_ret (block_ret (then_ret ?_))
  obtain rfl := sI h
  exact f2 [1] (.row R .nil) R (.cons (.tmp 6) (.cons (.tmp 7) .nil)) R
 intro c2
 replace h := ifP c2 h
 refine q_asgD R (eN (sw_condF R (qG (q_movD R ?_))))
 obtain ⟨rv2, hrv2, h⟩ := bnd h
 refine r_callB (frame_bad_pc hrv2) (.of (by kernel_rfl)) R R R R ?_ ?_
 ·intro c3
  replace h := ifP c3 h
  refine q_asgD R (eN (sw_condT R (qG (q_asgD R (q_asgD R (eN ?_))))))
  refine SW.own (ts' := [(6, .row 1 1 0 (([] : List Int)).length), (7, .d (vI 7))]) (L' := [some ⟨4, [.d (FrFormat.d f)]⟩]) 1 R R (.cons .nil (.cons (.same _) .nil)) (.same .nil) ?_
  simp only [List.cons_append, List.nil_append]
  refine sw_ret (block_ret (then_ret ?_))
  obtain rfl := sI h
  exact f2 [1] (.row R .nil) R (.cons (.tmp 6) (.cons (.tmp 7) .nil)) R
 intro c3
 replace h := ifF c3 h
 refine q_asgD R (eN (sw_condF R (sw_skip (block_norm (then_norm (qG (q_ldD (y := FrFormat.d f) tb R (q_movD R (q_movD R ?_)))))))))
 obtain ⟨rv3, hrv3, h⟩ := bnd h
 refine r_callN (t' := .row 1 1 0 (rv3).length) (news' := [(lv8 rv3)]) (frame_bytes_scr hrv3) (.of (by kernel_rfl)) R R R ((.row .nil)) R R R (r_asgW R R R (q_asgD R (eN (sw_ret ?_))))
 obtain rfl := sI h
 exact f2 [1] (.row R .nil) R (.cons (.tmp 6) (.cons (.tmp 7) .nil)) R
theorem frame_Encode_pc {F : Nat} {f : FrFormat} {number : Int} {words : (List Int)} {r : ((List Int) × Int)} (h : frame_Encode F f number words = some r) : PC Try.prog 25 [FrFormat.d f, .v (.int .i64 number), .arr 1 ((words).map vI)] (.tup [.arr 1 ((r.1).map v8), .v (.int .i64 r.2)]) := (frame_Encode_scr h).toPC (.tupL (.cons (.row rfl rfl) (.cons (.d _) .nil)))
def slices_Equal_byte_L1 (F : Nat) (s1 : (List Int)) (s2 : (List Int)) (K : Int → Option Bool) : Nat → Int → Option Bool
 | 0, _ => none
 | n + 1, x => if x < (s1.length : Int) then (Option.bind (ixO s1 x) fun e => Option.bind (ixO s2 x) fun e2 => if e = e2 then (slices_Equal_byte_L1 F s1 s2 K n (W (x + 1))) else (some false)) else (K x)
def slices_Equal_byte (F : Nat) (s1 : (List Int)) (s2 : (List Int)) : Option Bool := if (s1.length : Int) = (s2.length : Int) then (slices_Equal_byte_L1 F s1 s2 (fun (x : Int) => some true) F 0) else (some false)
theorem slices_Equal_byte_pc {F : Nat} {s1 : (List Int)} {s2 : (List Int)} {r : Bool} (h : slices_Equal_byte F s1 s2 = some r) : PC Try.prog 104 [.arr 1 ((s1).map v8), .arr 1 ((s2).map v8)] (.v (.bool r)) := by
 rw [slices_Equal_byte] at h
 refine SC.of_sw Try.func104 R R R ?_
 dsimp only [argS, List.map]
 refine qG (q_asgD R (eN (sw_seq (qG (q_movD R (q_lenM tb R (q_movD R (q_lenM tb R ?_))))))))
 refine r_neq R R R R ?_ ?_
 ·intro c
  replace h := ifN c h
  refine eN (sw_condT R (qG (q_asgD R (eN (sw_ret (then_ret ?_))))))
  obtain rfl := sI h
  exact f1 4 R
 intro c
 replace h := ifP c h
 refine eN (sw_condF R (sw_skip (then_norm (sw_seq (qG (q_movD R (q_lenM tb R (q_movD R (eN (sw_block ?_))))))))))
 obtain ⟨K2, hK2, h⟩ : ∃ K, K = _ ∧ slices_Equal_byte_L1 F s1 s2 K F 0 = some r := ⟨_, rfl, h⟩
 refine sw_loopS (fun m st => ∃ (x : Int), slices_Equal_byte_L1 F s1 s2 K2 m x = some r ∧ st = ⟨[(0, .d (.arr 1 ((s1).map v8))), (1, .d (.arr 1 ((s2).map v8))), (4, .d (.v (.bool false))), (12, .d (vI (s1.length : Int))), (13, .d (vI x))], []⟩) (.prn [0, 1, 4, 12, 13] R) ⟨0, h, R⟩ ?_
 clear h
 rintro m2 st ⟨x, h, rfl⟩
 cases m2 with
 | zero => cases (show (none : Option Bool) = some r from h)
 | succ m2 =>
 rw [slices_Equal_byte_L1] at h
 refine qG ?_
 refine r_lss R R R R ?_ ?_
 ·intro c2
  replace h := ifP c2 h
  refine eN (sw_seq (sw_condT R (sw_skip (then_norm (sw_seq (sw_block (qG (q_movD R (q_asgD R (eN (sw_seq (sw_dr (by kernel_rfl) (q_movD R (q_movD R ?_))))))))))))))
  obtain ⟨e, ie, h⟩ := bnd h
  refine q_ixE tb (ix0 ie) (ix1m ie) R (q_ldE (y := .v (.int .u8 e)) tb (ix2 (g := v8) ie) R (q_movD R (q_movD R ?_)))
  obtain ⟨e2, ie2, h⟩ := bnd h
  refine q_ixE tb (ix0 ie2) (ix1m ie2) R (q_ldE (y := .v (.int .u8 e2)) tb (ix2 (g := v8) ie2) R ?_)
  refine r_neq R R R R ?_ ?_
  ·intro c3
   replace h := ifN c3 h
   refine ev_endD (by kernel_rfl) (then_norm (sw_condT R (qG (q_asgD R (eN (sw_ret (block_ret (then_ret (then_ret (block_ret (then_ret ?_)))))))))))
   obtain rfl := sI h
   exact f1 4 R
  intro c3
  replace h := ifP c3 h
  refine ev_endD (by kernel_rfl) (then_norm (sw_condF R (sw_skip (block_norm (then_norm (sw_rg (q_add R (q_movD R (eN ?_)))))))))
  exact ⟨m2, _, Nat.lt_succ_self _, .prn [0, 1, 4, 12, 13] R, (W (x + 1)), h, R⟩
 intro c2
 replace h := ifN (Int.not_lt.2 c2) h
 refine eN (sw_seq (sw_condF R (sw_exit (then_exit (then_exit ?_)))))
 subst hK2
 refine block_exit (then_norm (qG (q_asgD R (eN (sw_ret ?_)))))
 obtain rfl := sI h
 exact f1 4 R
def frame_frames (F : Nat) (f : FrFormat) (b : (List Int)) : Option (Int × (List Int) × Int × FrFormat) := some ((W ((W ((W ((f.sync.size : Int) + 1)) + (W (2 * f.words)))) + 2)), b, (f.sync.size : Int), f)
theorem frame_frames_scr {F : Nat} {f : FrFormat} {b : (List Int)} {r : (Int × (List Int) × Int × FrFormat)} (h : frame_frames F f b = some r) : SCR Try.prog 72 (List.map T.d [FrFormat.d f, .arr 1 ((b).map v8)]) [] (.fn (.func 103) [] [.ref 0 1 0 0, .ref 1 1 0 0, .ref 2 1 0 0, .ref 3 4 0 0]) (List.map some [⟨1, [.d (.v (.int .i64 r.1))]⟩, ⟨1, [.d (.arr 1 ((r.2.1).map v8))]⟩, ⟨1, [.d (.v (.int .i64 r.2.2.1))]⟩, ⟨4, [.d (FrFormat.d r.2.2.2)]⟩]) := by
 rw [frame_frames] at h
 refine SC.of_sw Try.func72 R R R ?_
 dsimp only [argS, List.map]
 refine qG (q_box R (q_box R (q_asgD R (eN (qG (q_fa tb R (q_ldD (y := .v (.string f.sync)) tb R (r_lenS R R R R (r_alloc tb R R R R R (q_stE _ _ tb R (eN (qG (q_ldD (y := vI (f.sync.size : Int)) tb R (q_add R (q_fa tb R (q_ldD (y := vI f.words) tb R (r_mul R R R R (q_add R (q_add R (r_alloc tb R R R R R (q_stE _ _ tb R (eN (qG (r_func R R R R (r_asgF R R R (eN (sw_ret ?_)))))))))))))))))))))))))))
 obtain rfl := sI h
 exact f2 [3, 1, 2, 0] (.cons R R (.cons R R (.cons R R (.cons R R .nil)))) R (.cons (.tmp 4) .nil) R
def frame_tape (F : Nat) (f : FrFormat) (t : FrTape) : Option Int := Option.bind (frame_Check F f) fun rv => if rv.2.2 = 0 then (if 4000 < (t.bytes.length : Int) then (some 3) else (Option.bind (frame_out_int F t.first 0 1000000) fun rv2 => if rv2 = true then (some 7) else (some 0))) else (some rv.2.2)
theorem frame_tape_pc {F : Nat} {f : FrFormat} {t : FrTape} {r : Int} (h : frame_tape F f t = some r) : PC Try.prog 66 [FrFormat.d f, FrTape.d t] (.v (.int .i64 r)) := by
 rw [frame_tape] at h
 refine SC.of_sw Try.func66 R R R ?_
 dsimp only [argS, List.map]
 refine qG (q_box R (q_box R (q_asgD R (eN (qG (q_ldD (y := FrFormat.d f) tb R ?_))))))
 obtain ⟨rv, hrv, h⟩ := bnd h
 refine r_call (frame_Check_pc hrv) (.of (by kernel_rfl)) R R R R (q_movD R (r_extD (t := vI rv.1) R R R R (r_extD (t := vI rv.2.1) R R R R (r_extD (t := vI rv.2.2) R R R R (q_asgD R (q_asgD R (q_asgD R (eN (sw_seq (sw_block (qG (q_movD R ?_))))))))))))
 refine r_neq R R R R ?_ ?_
 ·intro c
  replace h := ifN c h
  refine q_asgD R (eN (sw_condT R (qG (q_movD R (q_asgD R (eN (sw_ret (block_ret (then_ret ?_)))))))))
  obtain rfl := sI h
  exact f1 4 R
 intro c
 replace h := ifP c h
 refine q_asgD R (eN (sw_condF R (qG (q_fa tb R (q_ldD (y := .arr 1 ((t.bytes).map v8)) tb R (q_lenM tb R ?_))))))
 refine r_gtr R R R R ?_ ?_
 ·intro c2
  replace h := ifP c2 h
  refine q_asgD R (eN (sw_condT R (qG (q_asgD R (eN (sw_ret (block_ret (then_ret ?_))))))))
  obtain rfl := sI h
  exact f1 4 R
 intro c2
 replace h := ifN (Int.not_lt.2 c2) h
 refine q_asgD R (eN (sw_condF R (qG (q_fa tb R (q_ldD (y := vI t.first) tb R ?_)))))
 obtain ⟨rv2, hrv2, h⟩ := bnd h
 refine r_callB (frame_out_int_pc hrv2) (.of (by kernel_rfl)) R R R R ?_ ?_
 ·intro c3
  replace h := ifP c3 h
  refine q_asgD R (eN (sw_condT R (qG (q_asgD R (eN (sw_ret (block_ret (then_ret ?_))))))))
  obtain rfl := sI h
  exact f1 4 R
 intro c3
 replace h := ifF c3 h
 refine q_asgD R (eN (sw_condF R (sw_skip (block_norm (then_norm (qG (q_asgD R (eN (sw_ret ?_)))))))))
 obtain rfl := sI h
 exact f1 4 R
def frame_read_L1 (F : Nat) (rv : (Int × (List Int) × Int × FrFormat)) (q : (List Int)) (K : (List Int) → Int → Option ((List FrFrame) × (List Int) × Int)) : Nat → (List Int) → Int → Option ((List FrFrame) × (List Int) × Int)
 | 0, _, _ => none
 | n + 1, lv3, x2 => if x2 < (W (rv.1 - 2)) then (Option.bind (ixO q x2) fun e2 => Option.bind (ixO q (W (x2 + 1))) fun e3 => Option.bind (appO lv3 [(ior .i64 (ishl .i64 (W e2) 8) (W e3))]) fun q6 => frame_read_L1 F rv q K n q6 (W (x2 + 2))) else (K lv3 x2)
def frame_read_L2 (F : Nat) (rv : (Int × (List Int) × Int × FrFormat)) (K : Int → (List FrFrame) → (List Int) → Int → Option ((List FrFrame) × (List Int) × Int)) : Nat → Int → (List FrFrame) → (List Int) → Int → Option ((List FrFrame) × (List Int) × Int)
 | 0, _, _, _, _ => none
 | n + 1, y3, lv, lv2, x => if (W (y3 + rv.1)) ≤ (rv.2.1.length : Int) then (Option.bind (cutO rv.2.1 y3 (W (y3 + rv.1))) fun q => Option.bind (cutO q 0 rv.2.2.1) fun q2 => Option.bind (strO q2) fun q3 => if q3.toList = rv.2.2.2.sync.toList then (Option.bind (cutO q (W (rv.1 - 2)) q.length) fun q4 => Option.bind (cutO q 0 (W (rv.1 - 2))) fun q5 => Option.bind (frame_Sum F q5) fun rv2 => Option.bind (frame_pair F rv2) fun rv3 => Option.bind (slices_Equal_byte F q4 rv3) fun rv4 => if rv4 = true then (Option.bind (ixO q rv.2.2.1) fun e => frame_read_L1 F rv q (fun (lv3 : (List Int)) (x2 : Int) => if 1000000 < (W (x + (iand .i64 (W ((W e) - (iand .i64 x 255))) 255))) then (some (([] : List FrFrame), ([] : List Int), 7)) else (Option.bind (appO lv [(FrFrame.mk y3 (W e) lv3)]) fun q7 => Option.bind (appO lv2 [(W (x + (iand .i64 (W ((W e) - (iand .i64 x 255))) 255)))]) fun q8 => frame_read_L2 F rv K n (W (y3 + rv.1)) q7 q8 (W ((W (x + (iand .i64 (W ((W e) - (iand .i64 x 255))) 255))) + 1)))) F ([] : List Int) (W (rv.2.2.1 + 1))) else (frame_read_L2 F rv K n (W (y3 + 1)) lv lv2 x)) else (frame_read_L2 F rv K n (W (y3 + 1)) lv lv2 x)) else (K y3 lv lv2 x)
def frame_read (F : Nat) (f : FrFormat) (t : FrTape) : Option ((List FrFrame) × (List Int) × Int) := Option.bind (frame_frames F f t.bytes) fun rv => frame_read_L2 F rv (fun (y3 : Int) (lv : (List FrFrame)) (lv2 : (List Int)) (x : Int) => some (lv, lv2, 0)) F 0 ([] : List FrFrame) ([] : List Int) t.first
theorem frame_read_scr {F : Nat} {f : FrFormat} {t : FrTape} {r : ((List FrFrame) × (List Int) × Int)} (h : frame_read F f t = some r) : SCR Try.prog 67 (List.map T.d [FrFormat.d f, FrTape.d t]) [] (.tup [.row 0 3 0 (r.1).length, .row 1 1 0 (r.2.1).length, .d (.v (.int .i64 r.2.2))]) (List.map some [(lFrFramed r.1), (lvI r.2.1)]) := by
 rw [frame_read] at h
 refine SC.of_swm Try.func67 R R R ?_
 dsimp only [argS, List.map]
 refine swm_seq ?_
 refine swm_of fun df => ?_
 refine sw_rg (q_box R (q_box R (r_alloc tb R R R R R (r_alloc tb R R R R R (r_alloc tb R R R R R (eN (swm_seq ?_)))))))
 refine swm_of fun df => ?_
 refine sw_rg (q_fa tb R (q_ldD (y := vI t.first) tb R (r_alloc tb R R R R R (q_stE _ _ tb R (eN (swm_seq (swm_seq ?_)))))))
 refine swm_of fun df => ?_
 refine sw_rg (q_ldD (y := FrFormat.d f) tb R (q_fa tb R (q_ldD (y := .arr 1 ((t.bytes).map v8)) tb R ?_)))
 obtain ⟨rv, hrv, h⟩ := bnd h
 refine r_callN (t' := .fn (.func 103) [] [.ref 6 1 0 0, .ref 7 1 0 0, .ref 8 1 0 0, .ref 9 4 0 0]) (news' := [⟨1, [.d (vI rv.1)]⟩, ⟨1, [.d (.arr 1 ((rv.2.1).map v8))]⟩, ⟨1, [.d (vI rv.2.2.1)]⟩, ⟨4, [.d (FrFormat.d rv.2.2.2)]⟩]) (frame_frames_scr hrv) (.of (by kernel_rfl)) R R R ((.cons R (.cons R (.cons R (.cons R .nil))))) R R R (eN (swm_block ?_))
 refine swm_range (.of (by kernel_rfl)) Try.func103 R R R R R R fun lb => ?_
 simp only [argS, Nat.zero_add, Nat.reduceAdd]
 refine swj_seq (swj_rg (rgj_ev (q_asgD R (ev_endJ (thenj_norm (swj_block ?_))))))
 refine SWJ.own (ts' := [(0, .d (.v (.func (.yield lb) #[] #[]))), (1, .ref 6 1 0 0), (2, .ref 7 1 0 0), (3, .ref 8 1 0 0), (4, .ref 9 4 0 0), (6, .d (vI 0))]) (L' := [some ⟨4, [.d (FrFormat.d f)]⟩, some ⟨2, [.d (FrTape.d t)]⟩, some ⟨1, [.row 10 3 0 (([] : List FrFrame)).length]⟩, some ⟨1, [.d (.v (.slice none 0 0))]⟩, some ⟨1, [.d (vI 0)]⟩, some ⟨1, [.d (vI t.first)]⟩, some ⟨1, [.d (vI rv.1)]⟩, some ⟨1, [.d (.arr 1 ((rv.2.1).map v8))]⟩, some ⟨1, [.d (vI rv.2.2.1)]⟩, some ⟨4, [.d (FrFormat.d rv.2.2.2)]⟩]) 3 R R (.cons (.same _) (.cons (.same _) (.cons (.same _) (.cons (.same _) (.cons (.same _) (.cons (.same _) .nil)))))) (.same (.same (.cons R (.cons .nil .nil) (.same (.same (.same (.same (.same (.same (.same .nil)))))))))) ?_
 simp only [List.cons_append, List.nil_append]
 refine SWJ.own (ts' := [(0, .d (.v (.func (.yield lb) #[] #[]))), (1, .ref 6 1 0 0), (2, .ref 7 1 0 0), (3, .ref 8 1 0 0), (4, .ref 9 4 0 0), (6, .d (vI 0))]) (L' := [some ⟨4, [.d (FrFormat.d f)]⟩, some ⟨2, [.d (FrTape.d t)]⟩, some ⟨1, [.row 10 3 0 (([] : List FrFrame)).length]⟩, some ⟨1, [.row 11 1 0 (([] : List Int)).length]⟩, some ⟨1, [.d (vI 0)]⟩, some ⟨1, [.d (vI t.first)]⟩, some ⟨1, [.d (vI rv.1)]⟩, some ⟨1, [.d (.arr 1 ((rv.2.1).map v8))]⟩, some ⟨1, [.d (vI rv.2.2.1)]⟩, some ⟨4, [.d (FrFormat.d rv.2.2.2)]⟩, some (lFrFramed ([] : List FrFrame))]) 1 R R (.cons (.same _) (.cons (.same _) (.cons (.same _) (.cons (.same _) (.cons (.same _) (.cons (.same _) .nil)))))) (.same (.same (.same (.cons R (.cons .nil .nil) (.same (.same (.same (.same (.same (.same (.same .nil))))))))))) ?_
 simp only [List.cons_append, List.nil_append]
 obtain ⟨K9, hK9, h⟩ : ∃ K, K = _ ∧ frame_read_L2 F rv K F 0 ([] : List FrFrame) ([] : List Int) t.first = some r := ⟨_, rfl, h⟩
 refine swj_loopS (fun m ph st => ∃ (y3 : Int) (lv : (List FrFrame)) (lv2 : (List Int)) (x : Int), frame_read_L2 F rv K9 m y3 lv lv2 x = some r ∧ ph = SX.norm ∧ st = ⟨[(0, .d (.v (.func (.yield lb) #[] #[]))), (1, .ref 6 1 0 0), (2, .ref 7 1 0 0), (3, .ref 8 1 0 0), (4, .ref 9 4 0 0), (6, .d (vI y3))], [some ⟨4, [.d (FrFormat.d f)]⟩, some ⟨2, [.d (FrTape.d t)]⟩, some ⟨1, [.row 10 3 0 (lv).length]⟩, some ⟨1, [.row 11 1 0 (lv2).length]⟩, some ⟨1, [.d (vI 0)]⟩, some ⟨1, [.d (vI x)]⟩, some ⟨1, [.d (vI rv.1)]⟩, some ⟨1, [.d (.arr 1 ((rv.2.1).map v8))]⟩, some ⟨1, [.d (vI rv.2.2.1)]⟩, some ⟨4, [.d (FrFormat.d rv.2.2.2)]⟩, some (lFrFramed lv), some (lvI lv2)]⟩) (.prn [0, 1, 2, 3, 4, 6] R) ⟨0, ([] : List FrFrame), ([] : List Int), t.first, h, R, R⟩ ?_
 clear h
 rintro m9 ph st ⟨y3, lv, lv2, x, h, rfl, rfl⟩
 cases m9 with
 | zero => cases (show (none : Option ((List FrFrame) × (List Int) × Int)) = some r from h)
 | succ m9 =>
 rw [frame_read_L2] at h
 refine swj_seq (swj_seq (swj_rg (rgj_ev (q_movD R (q_ldD (y := vI rv.1) tb R (q_add R (q_ldD (y := .arr 1 ((rv.2.1).map v8)) tb R (q_lenM tb R ?_))))))))
 refine r_leq R R R R ?_ ?_
 ·intro c
  replace h := ifP c h
  refine ev_endJ (thenj_norm (swj_condT R (swj_skip (thenj_norm (swj_block (swj_seq (swj_rg (rgj_ev (q_ldD (y := .arr 1 ((rv.2.1).map v8)) tb R (q_movD R (q_movD R (q_ldD (y := vI rv.1) tb R (q_add R ?_)))))))))))))
  obtain ⟨q, iq, h⟩ := bnd h
  refine r_sliceLH tb R R R R R R R iq R R (q_asgD R (ev_endJ (thenj_norm (swj_seq (swj_seq (swj_of (sw_dr (by kernel_rfl) (q_movD R (q_ldD (y := vI rv.2.2.1) tb R ?_)))))))))
  obtain ⟨q2, iq2, h⟩ := bnd h
  refine r_sliceT tb R R R R R R iq2 R R ?_
  obtain ⟨q3, iq3, h⟩ := bnd h
  refine r_strD R R R R iq3 R R (q_fa tb R (q_ldD (y := .v (.string rv.2.2.2.sync)) tb R ?_))
  refine r_strneq R R R R ?_ ?_
  ·intro c2
   replace h := ifN c2 h
   refine q_movD R (q_sk 12 R (q_pickT R (ev_endD (by kernel_rfl) (thenj_norm (swj_condT R (swj_seq (swj_rg (rgj_ev (q_movD R (q_add R (q_asgD R (ev_endJ (thenj_norm (swj_exit (thenj_exit (blockj_exit (thenj_norm ?_)))))))))))))))))
   exact ⟨m9, _, Nat.lt_succ_self _, .prn [0, 1, 2, 3, 4, 6] R, (W (y3 + 1)), lv, lv2, x, h, R, R⟩
  intro c2
  replace h := ifP c2 h
  refine q_movD R (q_movD R (q_ldD (y := vI rv.1) tb R (r_sub R R R R ?_)))
  obtain ⟨q4, iq4, h⟩ := bnd h
  refine r_sliceL tb R R R R R R iq4 R R (q_movD R (q_ldD (y := vI rv.1) tb R (r_sub R R R R ?_)))
  obtain ⟨q5, iq5, h⟩ := bnd h
  refine r_sliceT tb R R R R R R iq5 R R ?_
  obtain ⟨rv2, hrv2, h⟩ := bnd h
  refine r_call (frame_Sum_pc hrv2) (.of (by kernel_rfl)) R R R R ?_
  obtain ⟨rv3, hrv3, h⟩ := bnd h
  refine r_callN (t' := .row 12 1 0 (rv3).length) (news' := [(lv8 rv3)]) (frame_pair_scr hrv3) (.of (by kernel_rfl)) R R R ((.row .nil)) R R R ?_
  obtain ⟨rv4, hrv4, h⟩ := bnd h
  refine r_callLB (slices_Equal_byte_pc hrv4) (.of (by kernel_rfl)) R R ((.cons (.d _) (.cons (.row R R) .nil))) R R ?_ ?_
  ·intro c3
   replace h := ifP c3 h
   refine r_notT R R R (q_pickF R (ev_endD (by kernel_rfl) (thenj_norm (swj_condF R (swj_skip (thenj_norm (swj_seq (swj_rg (rgj_ev (q_movD R (q_movD R (q_ldD (y := vI rv.2.2.1) tb R ?_))))))))))))
   obtain ⟨e, ie, h⟩ := bnd h
   refine q_ixE tb (ix0 ie) (ix1m ie) R (q_ldE (y := .v (.int .u8 e)) tb (ix2 (g := v8) ie) R (r_cvI (k2 := .i64) R R R R R R (r_build (v := .d (.agg [vI y3, vI (W e), .v (.slice none 0 0)])) tb R R (List.cons_ne_nil _ _) R R R R R R (r_alloc tb R R R R R (q_stE _ _ tb R (ev_endJ (thenj_norm (swj_seq (swj_seq (swj_rg (rgj_ev (q_ldD (y := vI rv.2.2.1) tb R (q_add R (q_asgD R (ev_endJ (thenj_norm (swj_block ?_)))))))))))))))))
   refine SWJ.own (ts' := [(0, .d (.v (.func (.yield lb) #[] #[]))), (1, .ref 6 1 0 0), (2, .ref 7 1 0 0), (3, .ref 8 1 0 0), (4, .ref 9 4 0 0), (6, .d (vI y3)), (7, .d (.arr 1 ((q).map v8))), (8, .ref 13 3 0 0), (9, .d (vI (W (rv.2.2.1 + 1))))]) (L' := [some ⟨4, [.d (FrFormat.d f)]⟩, some ⟨2, [.d (FrTape.d t)]⟩, some ⟨1, [.row 10 3 0 (lv).length]⟩, some ⟨1, [.row 11 1 0 (lv2).length]⟩, some ⟨1, [.d (vI 0)]⟩, some ⟨1, [.d (vI x)]⟩, some ⟨1, [.d (vI rv.1)]⟩, some ⟨1, [.d (.arr 1 ((rv.2.1).map v8))]⟩, some ⟨1, [.d (vI rv.2.2.1)]⟩, some ⟨4, [.d (FrFormat.d rv.2.2.2)]⟩, some (lFrFramed lv), some (lvI lv2), some (lv8 rv3), some ⟨3, [.agg [.d (vI y3), .d (vI (W e)), .row 14 1 0 (([] : List Int)).length]]⟩]) 1 R R (.cons (.same _) (.cons (.same _) (.cons (.same _) (.cons (.same _) (.cons (.same _) (.cons (.same _) (.cons (.same _) (.cons (.same _) (.cons (.same _) .nil))))))))) (.same (.same (.same (.same (.same (.same (.same (.same (.same (.same (.same (.same (.same (.cons R (.cons (.aggDL (.cons (.same _) (.cons (.same _) (.cons .nil .nil)))) .nil) .nil)))))))))))))) ?_
   simp only [List.cons_append, List.nil_append]
   obtain ⟨K10, hK10, h⟩ : ∃ K, K = _ ∧ frame_read_L1 F rv q K F ([] : List Int) (W (rv.2.2.1 + 1)) = some r := ⟨_, rfl, h⟩
   refine swj_loopS (st0 := ⟨[(0, .d (.v (.func (.yield lb) #[] #[]))), (1, .ref 6 1 0 0), (2, .ref 7 1 0 0), (3, .ref 8 1 0 0), (4, .ref 9 4 0 0), (6, .d (vI y3)), (7, .d (.arr 1 ((q).map v8))), (8, .ref 12 3 0 0), (9, .d (vI (W (rv.2.2.1 + 1))))], [some ⟨4, [.d (FrFormat.d f)]⟩, some ⟨2, [.d (FrTape.d t)]⟩, some ⟨1, [.row 10 3 0 (lv).length]⟩, some ⟨1, [.row 11 1 0 (lv2).length]⟩, some ⟨1, [.d (vI 0)]⟩, some ⟨1, [.d (vI x)]⟩, some ⟨1, [.d (vI rv.1)]⟩, some ⟨1, [.d (.arr 1 ((rv.2.1).map v8))]⟩, some ⟨1, [.d (vI rv.2.2.1)]⟩, some ⟨4, [.d (FrFormat.d rv.2.2.2)]⟩, some (lFrFramed lv), some (lvI lv2), some ⟨3, [.agg [.d (vI y3), .d (vI (W e)), .row 13 1 0 (([] : List Int)).length]]⟩, some (lvI ([] : List Int))]⟩) (fun m ph st => ∃ (lv3 : (List Int)) (x2 : Int), frame_read_L1 F rv q K10 m lv3 x2 = some r ∧ ph = SX.norm ∧ st = ⟨[(0, .d (.v (.func (.yield lb) #[] #[]))), (1, .ref 6 1 0 0), (2, .ref 7 1 0 0), (3, .ref 8 1 0 0), (4, .ref 9 4 0 0), (6, .d (vI y3)), (7, .d (.arr 1 ((q).map v8))), (8, .ref 12 3 0 0), (9, .d (vI x2))], [some ⟨4, [.d (FrFormat.d f)]⟩, some ⟨2, [.d (FrTape.d t)]⟩, some ⟨1, [.row 10 3 0 (lv).length]⟩, some ⟨1, [.row 11 1 0 (lv2).length]⟩, some ⟨1, [.d (vI 0)]⟩, some ⟨1, [.d (vI x)]⟩, some ⟨1, [.d (vI rv.1)]⟩, some ⟨1, [.d (.arr 1 ((rv.2.1).map v8))]⟩, some ⟨1, [.d (vI rv.2.2.1)]⟩, some ⟨4, [.d (FrFormat.d rv.2.2.2)]⟩, some (lFrFramed lv), some (lvI lv2), some ⟨3, [.agg [.d (vI y3), .d (vI (W e)), .row 13 1 0 (lv3).length]]⟩, some (lvI lv3)]⟩) (.vw (κ := [0, 1, 2, 3, 4, 5, 6, 7, 8, 9, 10, 11, 13, 14]) (vK (.cons R R (.cons R R (.cons R R (.cons R R (.cons R R (.cons R R (.cons R R (.cons R R (.cons R R (.cons R R (.row R (.row R (.cons R R (.row R .nil)))))))))))))) R)) ⟨([] : List Int), (W (rv.2.2.1 + 1)), h, R, R⟩ ?_
   clear h
   rintro m10 ph st ⟨lv3, x2, h, rfl, rfl⟩
   cases m10 with
   | zero => cases (show (none : Option ((List FrFrame) × (List Int) × Int)) = some r from h)
   | succ m10 =>
   rw [frame_read_L1] at h
   refine swj_seq (swj_seq (swj_rg (rgj_ev (q_movD R (q_ldD (y := vI rv.1) tb R (r_sub R R R R ?_))))))
   refine r_lss R R R R ?_ ?_
   ·intro c4
    replace h := ifP c4 h
    refine ev_endJ (thenj_norm (swj_condT R (swj_skip (thenj_norm (swj_seq (swj_block (swj_of (sw_dr (by kernel_rfl) (q_fa tb R (r_ldW tb R R R R R R R R R (q_movD R (q_movD R ?_))))))))))))
    obtain ⟨e2, ie2, h⟩ := bnd h
    refine q_ixE tb (ix0 ie2) (ix1m ie2) R (q_ldE (y := .v (.int .u8 e2)) tb (ix2 (g := v8) ie2) R (r_cvI (k2 := .i64) R R R R R R (r_shl R R (by decide) R R (q_movD R (q_movD R (q_add R ?_))))))
    obtain ⟨e3, ie3, h⟩ := bnd h
    refine q_ixE tb (ix0 ie3) (ix1m ie3) R (q_ldE (y := .v (.int .u8 e3)) tb (ix2 (g := v8) ie3) R (r_cvI (k2 := .i64) R R R R R R (r_or R R R R (r_bslice tb R R R R R R R R R R R R R ?_))))
    obtain ⟨q6, iq6, h⟩ := bnd h
    refine r_apM (g := vI) (w := lv3) (v := [(ior .i64 (ishl .i64 (W e2) 8) (W e3))]) ([some ⟨4, [.d (FrFormat.d f)]⟩, some ⟨2, [.d (FrTape.d t)]⟩, some ⟨1, [.row 10 3 0 (lv).length]⟩, some ⟨1, [.row 11 1 0 (lv2).length]⟩, some ⟨1, [.d (vI 0)]⟩, some ⟨1, [.d (vI x)]⟩, some ⟨1, [.d (vI rv.1)]⟩, some ⟨1, [.d (.arr 1 ((rv.2.1).map v8))]⟩, some ⟨1, [.d (vI rv.2.2.1)]⟩, some ⟨4, [.d (FrFormat.d rv.2.2.2)]⟩, some (lFrFramed lv), some (lvI lv2), some ⟨3, [.agg [.d (vI y3), .d (vI (W e)), .row 13 1 0 (lv3).length]]⟩, none, some (lvI [(ior .i64 (ishl .i64 (W e2) 8) (W e3))])]) tb R R R R R R R R R R R iq6 R R R R R ?_
    refine q_fa tb R (q_stE _ _ tb R (ev_endD (by kernel_rfl) (blockj_norm (thenj_norm (swj_rg (rgj_ev (q_movD R (q_add R (q_asgD R (ev_endJ (thenj_norm ?_)))))))))))
    exact ⟨m10, ⟨[(0, .d (.v (.func (.yield lb) #[] #[]))), (1, .ref 6 1 0 0), (2, .ref 7 1 0 0), (3, .ref 8 1 0 0), (4, .ref 9 4 0 0), (6, .d (vI y3)), (7, .d (.arr 1 ((q).map v8))), (8, .ref 12 3 0 0), (9, .d (vI (W (x2 + 2))))], [some ⟨4, [.d (FrFormat.d f)]⟩, some ⟨2, [.d (FrTape.d t)]⟩, some ⟨1, [.row 10 3 0 (lv).length]⟩, some ⟨1, [.row 11 1 0 (lv2).length]⟩, some ⟨1, [.d (vI 0)]⟩, some ⟨1, [.d (vI x)]⟩, some ⟨1, [.d (vI rv.1)]⟩, some ⟨1, [.d (.arr 1 ((rv.2.1).map v8))]⟩, some ⟨1, [.d (vI rv.2.2.1)]⟩, some ⟨4, [.d (FrFormat.d rv.2.2.2)]⟩, some (lFrFramed lv), some (lvI lv2), some ⟨3, [.agg [.d (vI y3), .d (vI (W e)), .row 13 1 0 (q6).length]]⟩, some (lvI q6)]⟩, Nat.lt_succ_self _, .vw (κ := [0, 1, 2, 3, 4, 5, 6, 7, 8, 9, 10, 11, 12, 15]) (vK (.cons R R (.cons R R (.cons R R (.cons R R (.cons R R (.cons R R (.cons R R (.cons R R (.cons R R (.cons R R (.row R (.row R (.cons R R (.row R .nil)))))))))))))) R), q6, (W (x2 + 2)), h, R, R⟩
   intro c4
   replace h := ifN (Int.not_lt.2 c4) h
   refine ev_endJ (thenj_norm (swj_condF R (swj_exit (thenj_exit (thenj_exit ?_)))))
   subst hK10
   refine blockj_exit (thenj_norm (swj_seq (swj_seq ?_)))
   refine SWJ.fz (ts' := [(0, .d (.v (.func (.yield lb) #[] #[]))), (1, .ref 6 1 0 0), (2, .ref 7 1 0 0), (3, .ref 8 1 0 0), (4, .ref 9 4 0 0), (6, .d (vI y3)), (7, .d (.arr 1 ((q).map v8))), (8, .ref 12 3 0 0), (9, .d (vI x2)), (54, .d (vI x2)), (55, .d (vI rv.1)), (56, .d (vI (W (rv.1 - 2)))), (57, .d (.v (.bool false)))]) (L' := [some ⟨4, [.d (FrFormat.d f)]⟩, some ⟨2, [.d (FrTape.d t)]⟩, some ⟨1, [.row 10 3 0 (lv).length]⟩, some ⟨1, [.row 11 1 0 (lv2).length]⟩, some ⟨1, [.d (vI 0)]⟩, some ⟨1, [.d (vI x)]⟩, some ⟨1, [.d (vI rv.1)]⟩, some ⟨1, [.d (.arr 1 ((rv.2.1).map v8))]⟩, some ⟨1, [.d (vI rv.2.2.1)]⟩, some ⟨4, [.d (FrFormat.d rv.2.2.2)]⟩, some (lFrFramed lv), some (lvI lv2), some ⟨3, [.d (.agg [vI y3, vI (W e), .arr 1 ((lv3).map vI)])]⟩, none]) (w := lv3) (f := vI) 13 1 R (.cons (.same _) (.cons (.same _) (.cons (.same _) (.cons (.same _) (.cons (.same _) (.cons (.same _) (.cons (.same _) (.cons (.same _) (.cons (.same _) (.cons (.same _) (.cons (.same _) (.cons (.same _) (.cons (.same _) .nil))))))))))))) (.same (.same (.same (.same (.same (.same (.same (.same (.same (.same (.same (.same (.cons R (.cons (.aggDL (.cons (.same _) (.cons (.same _) (.cons (.all (List.length_map _)) .nil)))) .nil) (.same .nil)))))))))))))) ?_
   refine swj_rg (rgj_ev (q_movD R (q_ldD (y := .agg [vI y3, vI (W e), .arr 1 ((lv3).map vI)]) tb R (ev_yieldJ ?_))))
   (with_reducible apply rgj_yield (ys := [.agg [vI y3, vI (W e), .arr 1 ((lv3).map vI)]])); (iterate 7 exact rfl)
   dsimp only [parS]
   refine sw_rg (r_alloc tb R R R R R (q_stE _ _ tb R (ev_end ?_)))
   refine ⟨R, swy_rd ?_⟩
   refine sw_block (qG (q_ldD (y := vI x) tb R (q_fa tb R (q_ldD (y := vI (W e)) tb R (q_ldD (y := vI x) tb R (r_and R R R R (r_sub R R R R (r_and R R R R (q_add R (q_stE _ _ tb R (eN (sw_seq (qG (q_ldD (y := vI (W (x + (iand .i64 (W ((W e) - (iand .i64 x 255))) 255)))) tb R ?_))))))))))))))
   refine r_gtr R R R R ?_ ?_
   ·intro c5
    replace h := ifP c5 h
    refine eN (sw_condT R (qG (q_stE _ _ tb R (q_stE _ _ tb R (q_stE _ _ tb R (eN ?_))))))
    refine SW.own (ts' := [(4, .ref 2 1 0 0), (5, .ref 3 1 0 0), (6, .ref 4 1 0 0)]) (L' := [some ⟨4, [.d (FrFormat.d f)]⟩, some ⟨2, [.d (FrTape.d t)]⟩, some ⟨1, [.row 15 3 0 (([] : List FrFrame)).length]⟩, some ⟨1, [.d (.v (.slice none 0 0))]⟩, some ⟨1, [.d (vI 7)]⟩, some ⟨1, [.d (vI (W (x + (iand .i64 (W ((W e) - (iand .i64 x 255))) 255))))]⟩, some ⟨1, [.d (vI rv.1)]⟩, some ⟨1, [.d (.arr 1 ((rv.2.1).map v8))]⟩, some ⟨1, [.d (vI rv.2.2.1)]⟩, some ⟨4, [.d (FrFormat.d rv.2.2.2)]⟩, some (lFrFramed lv), some (lvI lv2), some ⟨3, [.d (.agg [vI y3, vI (W e), .arr 1 ((lv3).map vI)])]⟩, none, some ⟨3, [.d (.agg [vI y3, vI (W e), .arr 1 ((lv3).map vI)])]⟩]) 3 R R (.cons (.same _) (.cons (.same _) (.cons (.same _) .nil))) (.same (.same (.cons R (.cons .nil .nil) (.same (.same (.same (.same (.same (.same (.same (.same (.same (.same (.same (.same .nil))))))))))))))) ?_
    simp only [List.cons_append, List.nil_append]
    refine SW.own (ts' := [(4, .ref 2 1 0 0), (5, .ref 3 1 0 0), (6, .ref 4 1 0 0)]) (L' := [some ⟨4, [.d (FrFormat.d f)]⟩, some ⟨2, [.d (FrTape.d t)]⟩, some ⟨1, [.row 15 3 0 (([] : List FrFrame)).length]⟩, some ⟨1, [.row 16 1 0 (([] : List Int)).length]⟩, some ⟨1, [.d (vI 7)]⟩, some ⟨1, [.d (vI (W (x + (iand .i64 (W ((W e) - (iand .i64 x 255))) 255))))]⟩, some ⟨1, [.d (vI rv.1)]⟩, some ⟨1, [.d (.arr 1 ((rv.2.1).map v8))]⟩, some ⟨1, [.d (vI rv.2.2.1)]⟩, some ⟨4, [.d (FrFormat.d rv.2.2.2)]⟩, some (lFrFramed lv), some (lvI lv2), some ⟨3, [.d (.agg [vI y3, vI (W e), .arr 1 ((lv3).map vI)])]⟩, none, some ⟨3, [.d (.agg [vI y3, vI (W e), .arr 1 ((lv3).map vI)])]⟩, some (lFrFramed ([] : List FrFrame))]) 1 R R (.cons (.same _) (.cons (.same _) (.cons (.same _) .nil))) (.same (.same (.same (.cons R (.cons .nil .nil) (.same (.same (.same (.same (.same (.same (.same (.same (.same (.same (.same (.same .nil)))))))))))))))) ?_
    simp only [List.cons_append, List.nil_append]
    refine sw_ret (then_ret (block_ret ?_))
    refine ⟨[some ⟨4, [.d (FrFormat.d f)]⟩, some ⟨2, [.d (FrTape.d t)]⟩, some ⟨1, [.row 14 3 0 (([] : List FrFrame)).length]⟩, some ⟨1, [.row 15 1 0 (([] : List Int)).length]⟩, some ⟨1, [.d (vI 7)]⟩, some ⟨1, [.d (vI (W (x + (iand .i64 (W ((W e) - (iand .i64 x 255))) 255))))]⟩, some ⟨1, [.d (vI rv.1)]⟩, some ⟨1, [.d (.arr 1 ((rv.2.1).map v8))]⟩, some ⟨1, [.d (vI rv.2.2.1)]⟩, some ⟨4, [.d (FrFormat.d rv.2.2.2)]⟩, some (lFrFramed lv), some (lvI lv2), some ⟨3, [.d (.agg [vI y3, vI (W e), .arr 1 ((lv3).map vI)])]⟩, none, some (lFrFramed ([] : List FrFrame)), some (lvI ([] : List Int))], [0, 1, 2, 3, 4, 5, 6, 7, 8, 9, 10, 11, 12, 13, 15, 16], (vK (.cons R R (.cons R R (.cons R R (.cons R R (.cons R R (.cons R R (.cons R R (.cons R R (.cons R R (.cons R R (.row R (.row R (.cons R R (.gone R (.row R (.row R .nil)))))))))))))))) R), ?_⟩
    with_reducible apply yk_ret
    refine rgj_ev (r_notF R R R (ev_endJ (thenj_norm (swj_condT R (swj_ret (thenj_ret (blockj_ret (thenj_ret (blockj_ret ?_)))))))))
    refine ⟨R, [some ⟨4, [.d (FrFormat.d f)]⟩, some ⟨2, [.d (FrTape.d t)]⟩, some ⟨1, [.row 10 3 0 (([] : List FrFrame)).length]⟩, some ⟨1, [.row 11 1 0 (([] : List Int)).length]⟩, some ⟨1, [.d (vI 7)]⟩, some ⟨1, [.d (vI (W (x + (iand .i64 (W ((W e) - (iand .i64 x 255))) 255))))]⟩, some ⟨1, [.d (vI rv.1)]⟩, some ⟨1, [.d (.arr 1 ((rv.2.1).map v8))]⟩, some ⟨1, [.d (vI rv.2.2.1)]⟩, some ⟨4, [.d (FrFormat.d rv.2.2.2)]⟩, some (lFrFramed ([] : List FrFrame)), some (lvI ([] : List Int))], [0, 1, 2, 3, 4, 5, 6, 7, 8, 9, 14, 15], (vK (.cons R R (.cons R R (.cons R R (.cons R R (.cons R R (.cons R R (.cons R R (.cons R R (.cons R R (.cons R R (.row R (.row R .nil)))))))))))) R), ?_⟩
    refine block_ret (then_ret ?_)
    obtain rfl := sI h
    exact f2 [10, 11] (.row R (.row R .nil)) R (.cons (rc tb R) (.cons (rc tb R) (.cons (rc tb R) .nil))) R
   intro c5
   replace h := ifN (Int.not_lt.2 c5) h
   refine eN (sw_condF R (sw_skip (then_norm (sw_seq (sw_dr (by kernel_rfl) (r_ldW tb R R R R R R R R R (q_ldD (y := .agg [vI y3, vI (W e), .arr 1 ((lv3).map vI)]) tb R (r_bslice tb R R R R R R R R R R R R R ?_))))))))
   obtain ⟨q7, iq7, h⟩ := bnd h
   refine r_apM (g := FrFrame.d) (w := lv) (v := [(FrFrame.mk y3 (W e) lv3)]) ([some ⟨4, [.d (FrFormat.d f)]⟩, some ⟨2, [.d (FrTape.d t)]⟩, some ⟨1, [.row 10 3 0 (lv).length]⟩, some ⟨1, [.row 11 1 0 (lv2).length]⟩, some ⟨1, [.d (vI 0)]⟩, some ⟨1, [.d (vI (W (x + (iand .i64 (W ((W e) - (iand .i64 x 255))) 255))))]⟩, some ⟨1, [.d (vI rv.1)]⟩, some ⟨1, [.d (.arr 1 ((rv.2.1).map v8))]⟩, some ⟨1, [.d (vI rv.2.2.1)]⟩, some ⟨4, [.d (FrFormat.d rv.2.2.2)]⟩, none, some (lvI lv2), some ⟨3, [.d (.agg [vI y3, vI (W e), .arr 1 ((lv3).map vI)])]⟩, none, some ⟨3, [.d (.agg [vI y3, vI (W e), .arr 1 ((lv3).map vI)])]⟩, some (lFrFramed [(FrFrame.mk y3 (W e) lv3)])]) tb R R R R R R R R R R R iq7 R R R R R ?_
   refine r_ldW tb R R R R R R R R R (q_ldD (y := vI (W (x + (iand .i64 (W ((W e) - (iand .i64 x 255))) 255)))) tb R (r_bslice tb R R R R R R R R R R R R R ?_))
   obtain ⟨q8, iq8, h⟩ := bnd h
   refine r_apM (g := vI) (w := lv2) (v := [(W (x + (iand .i64 (W ((W e) - (iand .i64 x 255))) 255)))]) ([some ⟨4, [.d (FrFormat.d f)]⟩, some ⟨2, [.d (FrTape.d t)]⟩, some ⟨1, [.row 10 3 0 (lv).length]⟩, some ⟨1, [.row 11 1 0 (lv2).length]⟩, some ⟨1, [.d (vI 0)]⟩, some ⟨1, [.d (vI (W (x + (iand .i64 (W ((W e) - (iand .i64 x 255))) 255))))]⟩, some ⟨1, [.d (vI rv.1)]⟩, some ⟨1, [.d (.arr 1 ((rv.2.1).map v8))]⟩, some ⟨1, [.d (vI rv.2.2.1)]⟩, some ⟨4, [.d (FrFormat.d rv.2.2.2)]⟩, none, none, some ⟨3, [.d (.agg [vI y3, vI (W e), .arr 1 ((lv3).map vI)])]⟩, none, some ⟨3, [.d (.agg [vI y3, vI (W e), .arr 1 ((lv3).map vI)])]⟩, some (lFrFramed [(FrFrame.mk y3 (W e) lv3)]), some (lFrFramed q7), some (lvI [(W (x + (iand .i64 (W ((W e) - (iand .i64 x 255))) 255)))])]) tb R R R R R R R R R R R iq8 R R R R R ?_
   refine q_stE _ _ tb R (q_stE _ _ tb R (ev_endD (by kernel_rfl) (then_norm (sw_rg (q_ldD (y := vI (W (x + (iand .i64 (W ((W e) - (iand .i64 x 255))) 255)))) tb R (q_add R (q_stE _ _ tb R (ev_end (block_norm ?_)))))))))
   refine ⟨[some ⟨4, [.d (FrFormat.d f)]⟩, some ⟨2, [.d (FrTape.d t)]⟩, some ⟨1, [.row 14 3 0 (q7).length]⟩, some ⟨1, [.row 15 1 0 (q8).length]⟩, some ⟨1, [.d (vI 0)]⟩, some ⟨1, [.d (vI (W ((W (x + (iand .i64 (W ((W e) - (iand .i64 x 255))) 255))) + 1)))]⟩, some ⟨1, [.d (vI rv.1)]⟩, some ⟨1, [.d (.arr 1 ((rv.2.1).map v8))]⟩, some ⟨1, [.d (vI rv.2.2.1)]⟩, some ⟨4, [.d (FrFormat.d rv.2.2.2)]⟩, none, none, some ⟨3, [.d (.agg [vI y3, vI (W e), .arr 1 ((lv3).map vI)])]⟩, none, some (lFrFramed q7), some (lvI q8)], [0, 1, 2, 3, 4, 5, 6, 7, 8, 9, 10, 11, 12, 13, 16, 18], (vK (.cons R R (.cons R R (.cons R R (.cons R R (.cons R R (.cons R R (.cons R R (.cons R R (.cons R R (.cons R R (.gone R (.gone R (.cons R R (.gone R (.row R (.row R .nil)))))))))))))))) R), ?_⟩
   with_reducible apply yk_norm
   refine rgj_ev (r_notT R R R (ev_endJ (thenj_norm (swj_condF R (swj_skip (thenj_norm (swj_rg (rgj_ev (q_movD R (q_ldD (y := vI rv.1) tb R (q_add R (q_asgD R (ev_endJ (blockj_norm (thenj_norm ?_)))))))))))))))
   exact ⟨m9, ⟨[(0, .d (.v (.func (.yield lb) #[] #[]))), (1, .ref 6 1 0 0), (2, .ref 7 1 0 0), (3, .ref 8 1 0 0), (4, .ref 9 4 0 0), (6, .d (vI (W (y3 + rv.1))))], [some ⟨4, [.d (FrFormat.d f)]⟩, some ⟨2, [.d (FrTape.d t)]⟩, some ⟨1, [.row 10 3 0 (q7).length]⟩, some ⟨1, [.row 11 1 0 (q8).length]⟩, some ⟨1, [.d (vI 0)]⟩, some ⟨1, [.d (vI (W ((W (x + (iand .i64 (W ((W e) - (iand .i64 x 255))) 255))) + 1)))]⟩, some ⟨1, [.d (vI rv.1)]⟩, some ⟨1, [.d (.arr 1 ((rv.2.1).map v8))]⟩, some ⟨1, [.d (vI rv.2.2.1)]⟩, some ⟨4, [.d (FrFormat.d rv.2.2.2)]⟩, some (lFrFramed q7), some (lvI q8)]⟩, Nat.lt_succ_self _, .vw (κ := [0, 1, 2, 3, 4, 5, 6, 7, 8, 9, 14, 15]) (vK (.cons R R (.cons R R (.cons R R (.cons R R (.cons R R (.cons R R (.cons R R (.cons R R (.cons R R (.cons R R (.row R (.row R .nil)))))))))))) R), (W (y3 + rv.1)), q7, q8, (W ((W (x + (iand .i64 (W ((W e) - (iand .i64 x 255))) 255))) + 1)), h, R, R⟩
  intro c3
  replace h := ifF c3 h
  refine r_notF R R R (q_pickF R (ev_endD (by kernel_rfl) (thenj_norm (swj_condT R (swj_seq (swj_rg (rgj_ev (q_movD R (q_add R (q_asgD R (ev_endJ (thenj_norm (swj_exit (thenj_exit (blockj_exit (thenj_norm ?_))))))))))))))))
  exact ⟨m9, ⟨[(0, .d (.v (.func (.yield lb) #[] #[]))), (1, .ref 6 1 0 0), (2, .ref 7 1 0 0), (3, .ref 8 1 0 0), (4, .ref 9 4 0 0), (6, .d (vI (W (y3 + 1))))], [some ⟨4, [.d (FrFormat.d f)]⟩, some ⟨2, [.d (FrTape.d t)]⟩, some ⟨1, [.row 10 3 0 (lv).length]⟩, some ⟨1, [.row 11 1 0 (lv2).length]⟩, some ⟨1, [.d (vI 0)]⟩, some ⟨1, [.d (vI x)]⟩, some ⟨1, [.d (vI rv.1)]⟩, some ⟨1, [.d (.arr 1 ((rv.2.1).map v8))]⟩, some ⟨1, [.d (vI rv.2.2.1)]⟩, some ⟨4, [.d (FrFormat.d rv.2.2.2)]⟩, some (lFrFramed lv), some (lvI lv2)]⟩, Nat.lt_succ_self _, .vw (κ := [0, 1, 2, 3, 4, 5, 6, 7, 8, 9, 10, 11]) (vK (.cons R R (.cons R R (.cons R R (.cons R R (.cons R R (.cons R R (.cons R R (.cons R R (.cons R R (.cons R R (.row R (.row R .nil)))))))))))) R), (W (y3 + 1)), lv, lv2, x, h, R, R⟩
 intro c
 replace h := ifN (Int.not_le.2 c) h
 refine ev_endJ (thenj_norm (swj_condF R (swj_exit (thenj_exit (thenj_exit ?_)))))
 subst hK9
 refine blockj_exit ?_
 refine ⟨R, [some ⟨4, [.d (FrFormat.d f)]⟩, some ⟨2, [.d (FrTape.d t)]⟩, some ⟨1, [.row 10 3 0 (lv).length]⟩, some ⟨1, [.row 11 1 0 (lv2).length]⟩, some ⟨1, [.d (vI 0)]⟩, some ⟨1, [.d (vI x)]⟩, some ⟨1, [.d (vI rv.1)]⟩, some ⟨1, [.d (.arr 1 ((rv.2.1).map v8))]⟩, some ⟨1, [.d (vI rv.2.2.1)]⟩, some ⟨4, [.d (FrFormat.d rv.2.2.2)]⟩, some (lFrFramed lv), some (lvI lv2)], [0, 1, 2, 3, 4, 5, 6, 7, 8, 9, 10, 11], (vK (.cons R R (.cons R R (.cons R R (.cons R R (.cons R R (.cons R R (.cons R R (.cons R R (.cons R R (.cons R R (.row R (.row R .nil)))))))))))) R), ?_⟩
 refine block_norm (then_norm ?_)
 refine swm_of fun df => ?_
 refine sw_seq (sw_dr (by kernel_rfl) (r_ldW tb R R R R R R R R R (r_ldW tb R R R R R R R R R (q_stE _ _ tb R (q_stE _ _ tb R (q_stE _ _ tb R (ev_endD (by kernel_rfl) (then_norm (sw_ret ?_)))))))))
 obtain rfl := sI h
 exact f2 [10, 11] (.row R (.row R .nil)) R (.cons (rc tb R) (.cons (rc tb R) (.cons (rc tb R) .nil))) R
theorem frame_read_pc {F : Nat} {f : FrFormat} {t : FrTape} {r : ((List FrFrame) × (List Int) × Int)} (h : frame_read F f t = some r) : PC Try.prog 67 [FrFormat.d f, FrTape.d t] (.tup [.arr 3 ((r.1).map FrFrame.d), .arr 1 ((r.2.1).map vI), .v (.int .i64 r.2.2)]) := (frame_read_scr h).toPC (.tupL (.cons (.row rfl rfl) (.cons (.row rfl rfl) (.cons (.d _) .nil))))
def r1_Name_L1 (F : Nat) (s : ByteArray) (K : Int → Option Bool) : Nat → Int → Option Bool
 | 0, _ => none
 | n + 1, i => if i < (s.size : Int) then (Option.bind (ixB s i) fun b => if 97 ≤ b then (if b ≤ 122 then (r1_Name_L1 F s K n (W (i + 1))) else (if i = 0 then (some false) else (if 48 ≤ b then (if b ≤ 57 then (r1_Name_L1 F s K n (W (i + 1))) else (if b = 45 then (r1_Name_L1 F s K n (W (i + 1))) else (some false))) else (if b = 45 then (r1_Name_L1 F s K n (W (i + 1))) else (some false))))) else (if i = 0 then (some false) else (if 48 ≤ b then (if b ≤ 57 then (r1_Name_L1 F s K n (W (i + 1))) else (if b = 45 then (r1_Name_L1 F s K n (W (i + 1))) else (some false))) else (if b = 45 then (r1_Name_L1 F s K n (W (i + 1))) else (some false))))) else (K i)
def r1_Name (F : Nat) (s : ByteArray) : Option Bool := if (s.size : Int) < 1 then (some false) else (if 24 < (s.size : Int) then (some false) else (r1_Name_L1 F s (fun (i : Int) => some true) F 0))
theorem r1_Name_pc {F : Nat} {s : ByteArray} {r : Bool} (h : r1_Name F s = some r) : PC Try.prog 107 [.v (.string s)] (.v (.bool r)) := by
 rw [r1_Name] at h
 refine SC.of_sw Try.func107 R R R ?_
 dsimp only [argS, List.map]
 refine qG (q_asgD R (eN (sw_seq (qG (q_movD R (r_lenS R R R R ?_))))))
 refine r_lss R R R R ?_ ?_
 ·intro c
  replace h := ifP c h
  refine q_movD R (q_sk 3 R (q_pickT R (eN (sw_condT R (qG (q_asgD R (eN (sw_ret (then_ret ?_)))))))))
  obtain rfl := sI h
  exact f1 2 R
 intro c
 replace h := ifN (Int.not_lt.2 c) h
 refine q_movD R (q_movD R (r_lenS R R R R ?_))
 refine r_gtr R R R R ?_ ?_
 ·intro c2
  replace h := ifP c2 h
  refine q_pickF R (eN (sw_condT R (qG (q_asgD R (eN (sw_ret (then_ret ?_)))))))
  obtain rfl := sI h
  exact f1 2 R
 intro c2
 replace h := ifN (Int.not_lt.2 c2) h
 refine q_pickF R (eN (sw_condF R (sw_skip (then_norm (sw_seq (qG (q_asgD R (eN (sw_block ?_)))))))))
 obtain ⟨K2, hK2, h⟩ : ∃ K, K = _ ∧ r1_Name_L1 F s K F 0 = some r := ⟨_, rfl, h⟩
 refine sw_loopS (fun m st => ∃ (i : Int), r1_Name_L1 F s K2 m i = some r ∧ st = ⟨[(0, .d (.v (.string s))), (2, .d (.v (.bool false))), (3, .d (vI i))], []⟩) (.prn [0, 2, 3] R) ⟨0, h, R⟩ ?_
 clear h
 rintro m2 st ⟨i, h, rfl⟩
 cases m2 with
 | zero => cases (show (none : Option Bool) = some r from h)
 | succ m2 =>
 rw [r1_Name_L1] at h
 refine sw_seq (qG (q_movD R (q_movD R (r_lenS R R R R ?_))))
 refine r_lss R R R R ?_ ?_
 ·intro c3
  replace h := ifP c3 h
  refine eN (sw_condT R (sw_skip (then_norm (sw_seq (sw_block (qG (q_movD R (q_movD R ?_))))))))
  obtain ⟨b, ib, h⟩ := bnd h
  refine r_ixB R R R ib R R (q_asgD R (eN (qG (q_movD R ?_))))
  refine r_geq R R R R ?_ ?_
  ·intro c4
   replace h := ifP c4 h
   refine q_movD R (q_movD R ?_)
   refine r_leq R R R R ?_ ?_
   ·intro c5
    replace h := ifP c5 h
    refine q_pickT R (q_asgD R (eN (qG (q_movD R (r_notT R R R (q_movD R (q_sk 15 R (q_pickF R (eN (sw_condF R (sw_skip (block_norm (then_norm (sw_rg (q_movD R (q_add R (q_asgD R (eN ?_))))))))))))))))))
    exact ⟨m2, _, Nat.lt_succ_self _, .prn [0, 2, 3] R, (W (i + 1)), h, R⟩
   intro c5
   replace h := ifN (Int.not_le.2 c5) h
   refine q_pickT R (q_asgD R (eN (qG (q_movD R (r_notF R R R (q_movD R (q_movD R ?_)))))))
   refine r_eql R R R R ?_ ?_
   ·intro c6
    replace h := ifP c6 h
    refine q_movD R (q_sk 11 R (q_pickT R (q_pickT R (eN (sw_condT R (qG (q_asgD R (eN (sw_ret (block_ret (then_ret (then_ret (block_ret (then_ret ?_))))))))))))))
    obtain rfl := sI h
    exact f1 2 R
   intro c6
   replace h := ifN c6 h
   refine q_movD R (q_movD R ?_)
   refine r_geq R R R R ?_ ?_
   ·intro c7
    replace h := ifP c7 h
    refine q_movD R (q_movD R ?_)
    refine r_leq R R R R ?_ ?_
    ·intro c8
     replace h := ifP c8 h
     refine q_pickT R (q_movD R (q_sk 2 R (q_pickT R (r_notT R R R (q_pickF R (q_pickT R (eN (sw_condF R (sw_skip (block_norm (then_norm (sw_rg (q_movD R (q_add R (q_asgD R (eN ?_))))))))))))))))
     exact ⟨m2, _, Nat.lt_succ_self _, .prn [0, 2, 3] R, (W (i + 1)), h, R⟩
    intro c8
    replace h := ifN (Int.not_le.2 c8) h
    refine q_pickT R (q_movD R (q_movD R ?_))
    refine r_eql R R R R ?_ ?_
    ·intro c9
     replace h := ifP c9 h
     refine q_pickF R (r_notT R R R (q_pickF R (q_pickT R (eN (sw_condF R (sw_skip (block_norm (then_norm (sw_rg (q_movD R (q_add R (q_asgD R (eN ?_)))))))))))))
     exact ⟨m2, _, Nat.lt_succ_self _, .prn [0, 2, 3] R, (W (i + 1)), h, R⟩
    intro c9
    replace h := ifN c9 h
    refine q_pickF R (r_notF R R R (q_pickF R (q_pickT R (eN (sw_condT R (qG (q_asgD R (eN (sw_ret (block_ret (then_ret (then_ret (block_ret (then_ret ?_))))))))))))))
    obtain rfl := sI h
    exact f1 2 R
   intro c7
   replace h := ifN (Int.not_le.2 c7) h
   refine q_movD R (q_sk 2 R (q_pickF R (q_movD R (q_movD R ?_))))
   refine r_eql R R R R ?_ ?_
   ·intro c10
    replace h := ifP c10 h
    refine q_pickF R (r_notT R R R (q_pickF R (q_pickT R (eN (sw_condF R (sw_skip (block_norm (then_norm (sw_rg (q_movD R (q_add R (q_asgD R (eN ?_)))))))))))))
    exact ⟨m2, _, Nat.lt_succ_self _, .prn [0, 2, 3] R, (W (i + 1)), h, R⟩
   intro c10
   replace h := ifN c10 h
   refine q_pickF R (r_notF R R R (q_pickF R (q_pickT R (eN (sw_condT R (qG (q_asgD R (eN (sw_ret (block_ret (then_ret (then_ret (block_ret (then_ret ?_))))))))))))))
   obtain rfl := sI h
   exact f1 2 R
  intro c4
  replace h := ifN (Int.not_le.2 c4) h
  refine q_movD R (q_sk 2 R (q_pickF R (q_asgD R (eN (qG (q_movD R (r_notF R R R (q_movD R (q_movD R ?_)))))))))
  refine r_eql R R R R ?_ ?_
  ·intro c11
   replace h := ifP c11 h
   refine q_movD R (q_sk 11 R (q_pickT R (q_pickT R (eN (sw_condT R (qG (q_asgD R (eN (sw_ret (block_ret (then_ret (then_ret (block_ret (then_ret ?_))))))))))))))
   obtain rfl := sI h
   exact f1 2 R
  intro c11
  replace h := ifN c11 h
  refine q_movD R (q_movD R ?_)
  refine r_geq R R R R ?_ ?_
  ·intro c12
   replace h := ifP c12 h
   refine q_movD R (q_movD R ?_)
   refine r_leq R R R R ?_ ?_
   ·intro c13
    replace h := ifP c13 h
    refine q_pickT R (q_movD R (q_sk 2 R (q_pickT R (r_notT R R R (q_pickF R (q_pickT R (eN (sw_condF R (sw_skip (block_norm (then_norm (sw_rg (q_movD R (q_add R (q_asgD R (eN ?_))))))))))))))))
    exact ⟨m2, _, Nat.lt_succ_self _, .prn [0, 2, 3] R, (W (i + 1)), h, R⟩
   intro c13
   replace h := ifN (Int.not_le.2 c13) h
   refine q_pickT R (q_movD R (q_movD R ?_))
   refine r_eql R R R R ?_ ?_
   ·intro c14
    replace h := ifP c14 h
    refine q_pickF R (r_notT R R R (q_pickF R (q_pickT R (eN (sw_condF R (sw_skip (block_norm (then_norm (sw_rg (q_movD R (q_add R (q_asgD R (eN ?_)))))))))))))
    exact ⟨m2, _, Nat.lt_succ_self _, .prn [0, 2, 3] R, (W (i + 1)), h, R⟩
   intro c14
   replace h := ifN c14 h
   refine q_pickF R (r_notF R R R (q_pickF R (q_pickT R (eN (sw_condT R (qG (q_asgD R (eN (sw_ret (block_ret (then_ret (then_ret (block_ret (then_ret ?_))))))))))))))
   obtain rfl := sI h
   exact f1 2 R
  intro c12
  replace h := ifN (Int.not_le.2 c12) h
  refine q_movD R (q_sk 2 R (q_pickF R (q_movD R (q_movD R ?_))))
  refine r_eql R R R R ?_ ?_
  ·intro c15
   replace h := ifP c15 h
   refine q_pickF R (r_notT R R R (q_pickF R (q_pickT R (eN (sw_condF R (sw_skip (block_norm (then_norm (sw_rg (q_movD R (q_add R (q_asgD R (eN ?_)))))))))))))
   exact ⟨m2, _, Nat.lt_succ_self _, .prn [0, 2, 3] R, (W (i + 1)), h, R⟩
  intro c15
  replace h := ifN c15 h
  refine q_pickF R (r_notF R R R (q_pickF R (q_pickT R (eN (sw_condT R (qG (q_asgD R (eN (sw_ret (block_ret (then_ret (then_ret (block_ret (then_ret ?_))))))))))))))
  obtain rfl := sI h
  exact f1 2 R
 intro c3
 replace h := ifN (Int.not_lt.2 c3) h
 refine eN (sw_condF R (sw_exit (then_exit (then_exit ?_))))
 subst hK2
 refine block_exit (then_norm (qG (q_asgD R (eN (sw_ret ?_)))))
 obtain rfl := sI h
 exact f1 2 R
def r1_Ints_L1 (F : Nat) (a : (List Int)) (b : (List Int)) (K : Int → Option Bool) : Nat → Int → Option Bool
 | 0, _ => none
 | n + 1, i => if i < (a.length : Int) then (Option.bind (ixO a i) fun e => Option.bind (ixO b i) fun e2 => if e = e2 then (r1_Ints_L1 F a b K n (W (i + 1))) else (some false)) else (K i)
def r1_Ints (F : Nat) (a : (List Int)) (b : (List Int)) : Option Bool := if (a.length : Int) = (b.length : Int) then (r1_Ints_L1 F a b (fun (i : Int) => some true) F 0) else (some false)
theorem r1_Ints_pc {F : Nat} {a : (List Int)} {b : (List Int)} {r : Bool} (h : r1_Ints F a b = some r) : PC Try.prog 63 [.arr 1 ((a).map vI), .arr 1 ((b).map vI)] (.v (.bool r)) := by
 rw [r1_Ints] at h
 refine SC.of_sw Try.func63 R R R ?_
 dsimp only [argS, List.map]
 refine qG (q_asgD R (eN (sw_seq (qG (q_movD R (q_lenM tb R (q_movD R (q_lenM tb R ?_))))))))
 refine r_neq R R R R ?_ ?_
 ·intro c
  replace h := ifN c h
  refine eN (sw_condT R (qG (q_asgD R (eN (sw_ret (then_ret ?_))))))
  obtain rfl := sI h
  exact f1 4 R
 intro c
 replace h := ifP c h
 refine eN (sw_condF R (sw_skip (then_norm (sw_seq (qG (q_asgD R (eN (sw_block ?_))))))))
 obtain ⟨K2, hK2, h⟩ : ∃ K, K = _ ∧ r1_Ints_L1 F a b K F 0 = some r := ⟨_, rfl, h⟩
 refine sw_loopS (fun m st => ∃ (i : Int), r1_Ints_L1 F a b K2 m i = some r ∧ st = ⟨[(0, .d (.arr 1 ((a).map vI))), (1, .d (.arr 1 ((b).map vI))), (4, .d (.v (.bool false))), (5, .d (vI i))], []⟩) (.prn [0, 1, 4, 5] R) ⟨0, h, R⟩ ?_
 clear h
 rintro m2 st ⟨i, h, rfl⟩
 cases m2 with
 | zero => cases (show (none : Option Bool) = some r from h)
 | succ m2 =>
 rw [r1_Ints_L1] at h
 refine sw_seq (qG (q_movD R (q_movD R (q_lenM tb R ?_))))
 refine r_lss R R R R ?_ ?_
 ·intro c2
  replace h := ifP c2 h
  refine eN (sw_condT R (sw_skip (then_norm (sw_seq (sw_block (sw_seq (sw_dr (by kernel_rfl) (q_movD R (q_movD R ?_)))))))))
  obtain ⟨e, ie, h⟩ := bnd h
  refine q_ixE tb (ix0 ie) (ix1m ie) R (q_ldE (y := vI e) tb (ix2 (g := vI) ie) R (q_movD R (q_movD R ?_)))
  obtain ⟨e2, ie2, h⟩ := bnd h
  refine q_ixE tb (ix0 ie2) (ix1m ie2) R (q_ldE (y := vI e2) tb (ix2 (g := vI) ie2) R ?_)
  refine r_neq R R R R ?_ ?_
  ·intro c3
   replace h := ifN c3 h
   refine ev_endD (by kernel_rfl) (then_norm (sw_condT R (qG (q_asgD R (eN (sw_ret (block_ret (then_ret (then_ret (block_ret (then_ret ?_)))))))))))
   obtain rfl := sI h
   exact f1 4 R
  intro c3
  replace h := ifP c3 h
  refine ev_endD (by kernel_rfl) (then_norm (sw_condF R (sw_skip (block_norm (then_norm (sw_rg (q_movD R (q_add R (q_asgD R (eN ?_))))))))))
  exact ⟨m2, _, Nat.lt_succ_self _, .prn [0, 1, 4, 5] R, (W (i + 1)), h, R⟩
 intro c2
 replace h := ifN (Int.not_lt.2 c2) h
 refine eN (sw_condF R (sw_exit (then_exit (then_exit ?_))))
 subst hK2
 refine block_exit (then_norm (qG (q_asgD R (eN (sw_ret ?_)))))
 obtain rfl := sI h
 exact f1 4 R
def r9_Ints (F : Nat) (a : (List Int)) (b : (List Int)) : Option Bool := Option.bind (r1_Ints F a b) fun rv => some rv
theorem r9_Ints_pc {F : Nat} {a : (List Int)} {b : (List Int)} {r : Bool} (h : r9_Ints F a b = some r) : PC Try.prog 24 [.arr 1 ((a).map vI), .arr 1 ((b).map vI)] (.v (.bool r)) := by
 rw [r9_Ints] at h
 refine SC.of_sw Try.func24 R R R ?_
 dsimp only [argS, List.map]
 refine qG (q_asgD R (eN (qG (q_movD R (q_movD R ?_)))))
 obtain ⟨rv, hrv, h⟩ := bnd h
 refine r_call (r1_Ints_pc hrv) (.of (by kernel_rfl)) R R R R (q_asgD R (eN (sw_ret ?_)))
 obtain rfl := sI h
 exact f1 4 R
def r9_in (F : Nat) (nv : Int) (low : Int) (high : Int) : Option Bool := if low ≤ nv then (some (decide (nv ≤ high))) else (some false)
theorem r9_in_pc {F : Nat} {nv : Int} {low : Int} {high : Int} {r : Bool} (h : r9_in F nv low high = some r) : PC Try.prog 70 [.v (.int .i64 nv), .v (.int .i64 low), .v (.int .i64 high)] (.v (.bool r)) := by
 rw [r9_in] at h
 refine SC.of_sw Try.func70 R R R ?_
 dsimp only [argS, List.map]
 refine qG (q_asgD R (eN (qG (q_movD R (q_movD R ?_)))))
 refine r_geq R R R R ?_ ?_
 ·intro c
  replace h := ifP c h
  refine q_movD R (q_movD R (q_movD R (r_leqV R R R R (q_pickT R (q_asgD R (eN (sw_ret ?_)))))))
  obtain rfl := sI h
  exact f1 6 R
 intro c
 replace h := ifN (Int.not_le.2 c) h
 refine q_movD R (q_sk 3 R (q_pickF R (q_asgD R (eN (sw_ret ?_)))))
 obtain rfl := sI h
 exact f1 6 R
def r9_channel_L1 (F : Nat) (e : FrChannel) (e3 : FrChannel) (K : Int → Option Int) : Nat → Int → Option Int
 | 0, _ => none
 | n + 1, x2 => if x2 < 16 then (if e3.word = e.word then (if e3.every = 0 then none else (if (Int.tmod x2 e3.every) = e3.phase then (if (Int.tmod x2 e.every) = e.phase then (some 2) else (r9_channel_L1 F e e3 K n (W (x2 + 1)))) else (r9_channel_L1 F e e3 K n (W (x2 + 1))))) else (r9_channel_L1 F e e3 K n (W (x2 + 1)))) else (K x2)
def r9_channel_L2 (F : Nat) (t : FrFormat) (o : Int) (e : FrChannel) (K : Int → Option Int) : Nat → Int → Option Int
 | 0, _ => none
 | n + 1, x => if x < o then (Option.bind (ixO t.channels x) fun e3 => r9_channel_L1 F e e3 (fun (x2 : Int) => r9_channel_L2 F t o e K n (W (x + 1))) F 0) else (K x)
def r9_channel_L3 (F : Nat) (t : FrFormat) (o : Int) (e : FrChannel) (K : Int → Option Int) : Nat → Int → Option Int
 | 0, _ => none
 | n + 1, y => if y < o then (Option.bind (ixO t.channels y) fun e2 => if e2.name.toList = e.name.toList then (some 5) else (r9_channel_L3 F t o e K n (W (y + 1)))) else (K y)
def r9_channel (F : Nat) (t : FrFormat) (o : Int) : Option Int := Option.bind (ixO t.channels o) fun e => Option.bind (r1_Name F e.name) fun rv => if rv = true then (r9_channel_L3 F t o e (fun (y : Int) => Option.bind (r9_in F e.word 0 (W (t.words - 1))) fun rv2 => if rv2 = true then (if e.every < 1 then (some 7) else (if e.every = 0 then none else (if (Int.tmod t.depth e.every) = 0 then (Option.bind (r9_in F e.phase 0 (W (e.every - 1))) fun rv3 => if rv3 = true then (r9_channel_L2 F t o e (fun (x : Int) => some 0) F 0) else (some 7)) else (some 7)))) else (some 7)) F 0) else (some 6)
theorem r9_channel_pc {F : Nat} {t : FrFormat} {o : Int} {r : Int} (h : r9_channel F t o = some r) : PC Try.prog 79 [FrFormat.d t, .v (.int .i64 o)] (.v (.int .i64 r)) := by
 rw [r9_channel] at h
 refine SC.of_sw Try.func79 R R R ?_
 dsimp only [argS, List.map]
 refine qG (q_box R (q_asgD R (eN (qG (q_fa tb R (q_ldD (y := .arr 4 ((t.channels).map FrChannel.d)) tb R (q_movD R ?_)))))))
 obtain ⟨e, ie, h⟩ := bnd h
 refine q_ixE tb (ix0 ie) (ix1m ie) R (q_ldE (y := FrChannel.d e) tb (ix2 (g := FrChannel.d) ie) R (r_alloc tb R R R R R (q_stE _ _ tb R (eN (sw_seq (qG (q_fa tb R (q_ldD (y := .v (.string e.name)) tb R ?_))))))))
 obtain ⟨rv, hrv, h⟩ := bnd h
 refine r_callB (r1_Name_pc hrv) (.of (by kernel_rfl)) R R R R ?_ ?_
 ·intro c
  replace h := ifP c h
  refine r_notT R R R (eN (sw_condF R (sw_skip (then_norm (sw_seq (qG (q_asgD R (eN (sw_block ?_)))))))))
  obtain ⟨K2, hK2, h⟩ : ∃ K, K = _ ∧ r9_channel_L3 F t o e K F 0 = some r := ⟨_, rfl, h⟩
  refine sw_loopS (fun m st => ∃ (y : Int), r9_channel_L3 F t o e K2 m y = some r ∧ st = ⟨[(1, .d (vI o)), (2, .ref 0 4 0 0), (4, .d (vI 0)), (5, .ref 1 4 0 0), (6, .d (vI y))], [some ⟨4, [.d (FrFormat.d t)]⟩, some ⟨4, [.d (FrChannel.d e)]⟩]⟩) (.prn [1, 2, 4, 5, 6] R) ⟨0, h, R⟩ ?_
  clear h
  rintro m2 st ⟨y, h, rfl⟩
  cases m2 with
  | zero => cases (show (none : Option Int) = some r from h)
  | succ m2 =>
  rw [r9_channel_L3] at h
  refine sw_seq (qG (q_movD R (q_movD R ?_)))
  refine r_lss R R R R ?_ ?_
  ·intro c2
   replace h := ifP c2 h
   refine eN (sw_condT R (sw_skip (then_norm (sw_seq (sw_block (sw_seq (sw_dr (by kernel_rfl) (q_fa tb R (q_ldD (y := .arr 4 ((t.channels).map FrChannel.d)) tb R (q_movD R ?_))))))))))
   obtain ⟨e2, ie2, h⟩ := bnd h
   refine q_ixE tb (ix0 ie2) (ix1m ie2) R (q_faE tb R (q_ldE (y := .v (.string e2.name)) tb (ix2 (g := FrChannel.d) ie2) R (q_fa tb R (q_ldD (y := .v (.string e.name)) tb R ?_))))
   refine r_streql R R R R ?_ ?_
   ·intro c3
    replace h := ifP c3 h
    refine ev_endD (by kernel_rfl) (then_norm (sw_condT R (qG (q_asgD R (eN (sw_ret (block_ret (then_ret (then_ret (block_ret (then_ret ?_)))))))))))
    obtain rfl := sI h
    exact f1 4 R
   intro c3
   replace h := ifN c3 h
   refine ev_endD (by kernel_rfl) (then_norm (sw_condF R (sw_skip (block_norm (then_norm (sw_rg (q_movD R (q_add R (q_asgD R (eN ?_))))))))))
   exact ⟨m2, _, Nat.lt_succ_self _, .prn [1, 2, 4, 5, 6] R, (W (y + 1)), h, R⟩
  intro c2
  replace h := ifN (Int.not_lt.2 c2) h
  refine eN (sw_condF R (sw_exit (then_exit (then_exit ?_))))
  subst hK2
  refine block_exit (then_norm (sw_seq (qG (q_fa tb R (q_ldD (y := vI e.word) tb R (q_fa tb R (q_ldD (y := vI t.words) tb R (r_sub R R R R ?_))))))))
  obtain ⟨rv2, hrv2, h⟩ := bnd h
  refine r_callB (r9_in_pc hrv2) (.of (by kernel_rfl)) R R R R ?_ ?_
  ·intro c4
   replace h := ifP c4 h
   refine r_notT R R R (q_movD R (q_fa tb R (q_ldD (y := vI e.every) tb R ?_)))
   refine r_lss R R R R ?_ ?_
   ·intro c5
    replace h := ifP c5 h
    refine q_pickF R (q_movD R (q_sk 6 R (q_pickT R (q_movD R (q_sk 7 R (q_pickT R (eN (sw_condT R (qG (q_asgD R (eN (sw_ret (then_ret ?_)))))))))))))
    obtain rfl := sI h
    exact f1 4 R
   intro c5
   replace h := ifN (Int.not_lt.2 c5) h
   refine q_pickF R (q_movD R (q_fa tb R (q_ldD (y := vI t.depth) tb R (q_fa tb R (q_ldD (y := vI e.every) tb R ?_)))))
   by_cases c6 : e.every = 0
   ·cases (if_pos c6).symm.trans h
   replace h := ifN c6 h
   refine r_rem R R c6 R R ?_
   refine r_neq R R R R ?_ ?_
   ·intro c7
    replace h := ifN c7 h
    refine q_pickF R (q_movD R (q_sk 7 R (q_pickT R (eN (sw_condT R (qG (q_asgD R (eN (sw_ret (then_ret ?_))))))))))
    obtain rfl := sI h
    exact f1 4 R
   intro c7
   replace h := ifP c7 h
   refine q_pickF R (q_movD R (q_fa tb R (q_ldD (y := vI e.phase) tb R (q_fa tb R (q_ldD (y := vI e.every) tb R (r_sub R R R R ?_))))))
   obtain ⟨rv3, hrv3, h⟩ := bnd h
   refine r_callB (r9_in_pc hrv3) (.of (by kernel_rfl)) R R R R ?_ ?_
   ·intro c8
    replace h := ifP c8 h
    refine r_notT R R R (q_pickF R (eN (sw_condF R (sw_skip (then_norm (sw_seq (qG (q_asgD R (eN (sw_block ?_))))))))))
    obtain ⟨K6, hK6, h⟩ : ∃ K, K = _ ∧ r9_channel_L2 F t o e K F 0 = some r := ⟨_, rfl, h⟩
    refine sw_loopS (fun m st => ∃ (x : Int), r9_channel_L2 F t o e K6 m x = some r ∧ st = ⟨[(1, .d (vI o)), (2, .ref 0 4 0 0), (4, .d (vI 0)), (5, .ref 1 4 0 0), (7, .d (vI x))], [some ⟨4, [.d (FrFormat.d t)]⟩, some ⟨4, [.d (FrChannel.d e)]⟩]⟩) (.prn [1, 2, 4, 5, 7] R) ⟨0, h, R⟩ ?_
    clear h
    rintro m6 st ⟨x, h, rfl⟩
    cases m6 with
    | zero => cases (show (none : Option Int) = some r from h)
    | succ m6 =>
    rw [r9_channel_L2] at h
    refine sw_seq (qG (q_movD R (q_movD R ?_)))
    refine r_lss R R R R ?_ ?_
    ·intro c9
     replace h := ifP c9 h
     refine eN (sw_condT R (sw_skip (then_norm (sw_seq (sw_block (qG (q_fa tb R (q_ldD (y := .arr 4 ((t.channels).map FrChannel.d)) tb R (q_movD R ?_)))))))))
     obtain ⟨e3, ie3, h⟩ := bnd h
     refine q_ixE tb (ix0 ie3) (ix1m ie3) R (q_ldE (y := FrChannel.d e3) tb (ix2 (g := FrChannel.d) ie3) R (r_alloc tb R R R R R (q_stE _ _ tb R (eN (qG (q_asgD R (eN (sw_block ?_))))))))
     obtain ⟨K7, hK7, h⟩ : ∃ K, K = _ ∧ r9_channel_L1 F e e3 K F 0 = some r := ⟨_, rfl, h⟩
     refine sw_loopS (fun m st => ∃ (x2 : Int), r9_channel_L1 F e e3 K7 m x2 = some r ∧ st = ⟨[(1, .d (vI o)), (2, .ref 0 4 0 0), (4, .d (vI 0)), (5, .ref 1 4 0 0), (7, .d (vI x)), (8, .ref 2 4 0 0), (9, .d (vI x2))], [some ⟨4, [.d (FrFormat.d t)]⟩, some ⟨4, [.d (FrChannel.d e)]⟩, some ⟨4, [.d (FrChannel.d e3)]⟩]⟩) (.prn [1, 2, 4, 5, 7, 8, 9] R) ⟨0, h, R⟩ ?_
     clear h
     rintro m7 st ⟨x2, h, rfl⟩
     cases m7 with
     | zero => cases (show (none : Option Int) = some r from h)
     | succ m7 =>
     rw [r9_channel_L1] at h
     refine sw_seq (qG (q_movD R ?_))
     refine r_lss R R R R ?_ ?_
     ·intro c10
      replace h := ifP c10 h
      refine eN (sw_condT R (sw_skip (then_norm (sw_seq (sw_block (sw_seq (sw_dr (by kernel_rfl) (q_fa tb R (q_ldD (y := vI e3.word) tb R (q_fa tb R (q_ldD (y := vI e.word) tb R ?_)))))))))))
      refine r_eql R R R R ?_ ?_
      ·intro c11
       replace h := ifP c11 h
       refine q_movD R (q_movD R (q_fa tb R (q_ldD (y := vI e3.every) tb R ?_)))
       by_cases c12 : e3.every = 0
       ·cases (if_pos c12).symm.trans h
       replace h := ifN c12 h
       refine r_rem R R c12 R R (q_fa tb R (q_ldD (y := vI e3.phase) tb R ?_))
       refine r_eql R R R R ?_ ?_
       ·intro c13
        replace h := ifP c13 h
        refine q_pickT R (q_movD R (q_movD R (q_fa tb R (q_ldD (y := vI e.every) tb R (r_rem R R c6 R R (q_fa tb R (q_ldD (y := vI e.phase) tb R ?_)))))))
        refine r_eql R R R R ?_ ?_
        ·intro c14
         replace h := ifP c14 h
         refine q_pickT R (ev_endD (by kernel_rfl) (then_norm (sw_condT R (qG (q_asgD R (eN (sw_ret (block_ret (then_ret (then_ret (block_ret (block_ret (then_ret (then_ret (block_ret (then_ret ?_))))))))))))))))
         obtain rfl := sI h
         exact f1 4 R
        intro c14
        replace h := ifN c14 h
        refine q_pickT R (ev_endD (by kernel_rfl) (then_norm (sw_condF R (sw_skip (block_norm (then_norm (sw_rg (q_movD R (q_add R (q_asgD R (eN ?_)))))))))))
        exact ⟨m7, _, Nat.lt_succ_self _, .prn [1, 2, 4, 5, 7, 8, 9] R, (W (x2 + 1)), h, R⟩
       intro c13
       replace h := ifN c13 h
       refine q_pickT R (q_movD R (q_sk 7 R (q_pickF R (ev_endD (by kernel_rfl) (then_norm (sw_condF R (sw_skip (block_norm (then_norm (sw_rg (q_movD R (q_add R (q_asgD R (eN ?_))))))))))))))
       exact ⟨m7, _, Nat.lt_succ_self _, .prn [1, 2, 4, 5, 7, 8, 9] R, (W (x2 + 1)), h, R⟩
      intro c11
      replace h := ifN c11 h
      refine q_movD R (q_sk 7 R (q_pickF R (q_movD R (q_sk 7 R (q_pickF R (ev_endD (by kernel_rfl) (then_norm (sw_condF R (sw_skip (block_norm (then_norm (sw_rg (q_movD R (q_add R (q_asgD R (eN ?_))))))))))))))))
      exact ⟨m7, _, Nat.lt_succ_self _, .prn [1, 2, 4, 5, 7, 8, 9] R, (W (x2 + 1)), h, R⟩
     intro c10
     replace h := ifN (Int.not_lt.2 c10) h
     refine eN (sw_condF R (sw_exit (then_exit (then_exit ?_))))
     subst hK7
     refine block_exit (block_norm (then_norm (sw_rg (q_movD R (q_add R (q_asgD R (eN ?_)))))))
     exact ⟨m6, ⟨[(1, .d (vI o)), (2, .ref 0 4 0 0), (4, .d (vI 0)), (5, .ref 1 4 0 0), (7, .d (vI (W (x + 1))))], [some ⟨4, [.d (FrFormat.d t)]⟩, some ⟨4, [.d (FrChannel.d e)]⟩]⟩, Nat.lt_succ_self _, .vw (κ := [0, 1]) (vK (.cons R R (.cons R R .nil)) R), (W (x + 1)), h, R⟩
    intro c9
    replace h := ifN (Int.not_lt.2 c9) h
    refine eN (sw_condF R (sw_exit (then_exit (then_exit ?_))))
    subst hK6
    refine block_exit (then_norm (qG (q_asgD R (eN (sw_ret ?_)))))
    obtain rfl := sI h
    exact f1 4 R
   intro c8
   replace h := ifF c8 h
   refine r_notF R R R (q_pickF R (eN (sw_condT R (qG (q_asgD R (eN (sw_ret (then_ret ?_))))))))
   obtain rfl := sI h
   exact f1 4 R
  intro c4
  replace h := ifF c4 h
  refine r_notF R R R (q_movD R (q_sk 3 R (q_pickT R (q_movD R (q_sk 6 R (q_pickT R (q_movD R (q_sk 7 R (q_pickT R (eN (sw_condT R (qG (q_asgD R (eN (sw_ret (then_ret ?_))))))))))))))))
  obtain rfl := sI h
  exact f1 4 R
 intro c
 replace h := ifF c h
 refine r_notF R R R (eN (sw_condT R (qG (q_asgD R (eN (sw_ret (then_ret ?_)))))))
 obtain rfl := sI h
 exact f1 4 R
def r9_Check_L1 (F : Nat) (f : FrFormat) (K : Int → Option (Int × Int × Int)) : Nat → Int → Option (Int × Int × Int)
 | 0, _ => none
 | n + 1, i => if i < (f.channels.length : Int) then (Option.bind (r9_channel F f i) fun rv3 => if rv3 = 0 then (r9_Check_L1 F f K n (W (i + 1))) else (some (2, i, rv3))) else (K i)
def r9_Check_L2 (F : Nat) (f : FrFormat) (K : Int → Option (Int × Int × Int)) : Nat → Int → Option (Int × Int × Int)
 | 0, _ => none
 | n + 1, i2 => if i2 < (f.channels.length : Int) then (Option.bind (r9_channel F f i2) fun rv5 => if rv5 = 0 then (r9_Check_L2 F f K n (W (i2 + 1))) else (some (2, i2, rv5))) else (K i2)
def r9_Check_L3 (F : Nat) (f : FrFormat) (K : Int → Option (Int × Int × Int)) : Nat → Int → Option (Int × Int × Int)
 | 0, _ => none
 | n + 1, i3 => if i3 < (f.channels.length : Int) then (Option.bind (r9_channel F f i3) fun rv7 => if rv7 = 0 then (r9_Check_L3 F f K n (W (i3 + 1))) else (some (2, i3, rv7))) else (K i3)
def r9_Check_L4 (F : Nat) (f : FrFormat) (K : Int → Option (Int × Int × Int)) : Nat → Int → Option (Int × Int × Int)
 | 0, _ => none
 | n + 1, i4 => if i4 < (f.channels.length : Int) then (Option.bind (r9_channel F f i4) fun rv9 => if rv9 = 0 then (r9_Check_L4 F f K n (W (i4 + 1))) else (some (2, i4, rv9))) else (K i4)
def r9_Check_L5 (F : Nat) (f : FrFormat) (K : Int → Option (Int × Int × Int)) : Nat → Int → Option (Int × Int × Int)
 | 0, _ => none
 | n + 1, i5 => if i5 < (f.channels.length : Int) then (Option.bind (r9_channel F f i5) fun rv11 => if rv11 = 0 then (r9_Check_L5 F f K n (W (i5 + 1))) else (some (2, i5, rv11))) else (K i5)
def r9_Check (F : Nat) (f : FrFormat) : Option (Int × Int × Int) := Option.bind (r9_in F (f.sync.size : Int) 1 4) fun rv => if rv = true then (if 12 < (f.channels.length : Int) then (some (1, 0, 3)) else (if f.depth = 1 then (Option.bind (r9_in F f.words 1 32) fun rv2 => if rv2 = true then (r9_Check_L1 F f (fun (i : Int) => some (0, 0, 0)) F 0) else (some (1, 0, 7))) else (if f.depth = 2 then (Option.bind (r9_in F f.words 1 32) fun rv4 => if rv4 = true then (r9_Check_L2 F f (fun (i2 : Int) => some (0, 0, 0)) F 0) else (some (1, 0, 7))) else (if f.depth = 4 then (Option.bind (r9_in F f.words 1 32) fun rv6 => if rv6 = true then (r9_Check_L3 F f (fun (i3 : Int) => some (0, 0, 0)) F 0) else (some (1, 0, 7))) else (if f.depth = 8 then (Option.bind (r9_in F f.words 1 32) fun rv8 => if rv8 = true then (r9_Check_L4 F f (fun (i4 : Int) => some (0, 0, 0)) F 0) else (some (1, 0, 7))) else (if f.depth = 16 then (Option.bind (r9_in F f.words 1 32) fun rv10 => if rv10 = true then (r9_Check_L5 F f (fun (i5 : Int) => some (0, 0, 0)) F 0) else (some (1, 0, 7))) else (Option.bind (r9_in F f.words 1 32) fun rv12 => if rv12 = true then (some (1, 0, 7)) else (some (1, 0, 7))))))))) else (some (1, 0, 3))
theorem r9_Check_pc {F : Nat} {f : FrFormat} {r : (Int × Int × Int)} (h : r9_Check F f = some r) : PC Try.prog 39 [FrFormat.d f] (.tup [.v (.int .i64 r.1), .v (.int .i64 r.2.1), .v (.int .i64 r.2.2)]) := by
 rw [r9_Check] at h
 refine SC.of_sw Try.func39 R R R ?_
 dsimp only [argS, List.map]
 refine qG (q_box R (q_asgD R (q_asgD R (q_asgD R (eN (sw_seq (qG (q_fa tb R (q_ldD (y := .v (.string f.sync)) tb R (r_lenS R R R R ?_))))))))))
 obtain ⟨rv, hrv, h⟩ := bnd h
 refine r_callB (r9_in_pc hrv) (.of (by kernel_rfl)) R R R R ?_ ?_
 ·intro c
  replace h := ifP c h
  refine r_notT R R R (q_movD R (q_fa tb R (q_ldD (y := .arr 4 ((f.channels).map FrChannel.d)) tb R (q_lenM tb R ?_))))
  refine r_gtr R R R R ?_ ?_
  ·intro c2
   replace h := ifP c2 h
   refine q_pickF R (eN (sw_condT R (qG (q_asgD R (q_asgD R (q_asgD R (eN (sw_ret (then_ret ?_)))))))))
   obtain rfl := sI h
   exact fin_0 (t := .d (.tup [vI 1, vI 0, vI 3])) R R R (.cons (.tmp 2) (.cons (.tmp 3) (.cons (.tmp 4) .nil)))
  intro c2
  replace h := ifN (Int.not_lt.2 c2) h
  refine q_pickF R (eN (sw_condF R (sw_skip (then_norm (qG (q_fa tb R (q_ldD (y := vI f.depth) tb R ?_)))))))
  refine r_eql R R R R ?_ ?_
  ·intro c3
   replace h := ifP c3 h
   refine q_movD R (q_sk 3 R (q_pickT R (q_movD R (q_sk 3 R (q_pickT R (q_movD R (q_sk 3 R (q_pickT R (q_movD R (q_sk 3 R (q_pickT R (q_asgD R (eN (sw_seq (qG (q_fa tb R (q_ldD (y := vI f.words) tb R ?_)))))))))))))))))
   obtain ⟨rv2, hrv2, h⟩ := bnd h
   refine r_callB (r9_in_pc hrv2) (.of (by kernel_rfl)) R R R R ?_ ?_
   ·intro c4
    replace h := ifP c4 h
    refine r_notT R R R (q_movD R (q_movD R (r_notT R R R (q_pickF R (eN (sw_condF R (sw_skip (then_norm (sw_seq (qG (q_asgD R (eN (sw_block ?_)))))))))))))
    obtain ⟨K2, hK2, h⟩ : ∃ K, K = _ ∧ r9_Check_L1 F f K F 0 = some r := ⟨_, rfl, h⟩
    refine sw_loopS (fun m st => ∃ (i : Int), r9_Check_L1 F f K2 m i = some r ∧ st = ⟨[(1, .ref 0 4 0 0), (2, .d (vI 0)), (3, .d (vI 0)), (4, .d (vI 0)), (6, .d (vI i))], [some ⟨4, [.d (FrFormat.d f)]⟩]⟩) (.prn [1, 2, 3, 4, 6] R) ⟨0, h, R⟩ ?_
    clear h
    rintro m2 st ⟨i, h, rfl⟩
    cases m2 with
    | zero => cases (show (none : Option (Int × Int × Int)) = some r from h)
    | succ m2 =>
    rw [r9_Check_L1] at h
    refine sw_seq (qG (q_movD R (q_fa tb R (q_ldD (y := .arr 4 ((f.channels).map FrChannel.d)) tb R (q_lenM tb R ?_)))))
    refine r_lss R R R R ?_ ?_
    ·intro c5
     replace h := ifP c5 h
     refine eN (sw_condT R (sw_skip (then_norm (sw_seq (sw_block (qG (q_ldD (y := FrFormat.d f) tb R (q_movD R ?_))))))))
     obtain ⟨rv3, hrv3, h⟩ := bnd h
     refine r_call (r9_channel_pc hrv3) (.of (by kernel_rfl)) R R R R (q_asgD R (eN (qG (q_movD R ?_))))
     refine r_neq R R R R ?_ ?_
     ·intro c6
      replace h := ifN c6 h
      refine eN (sw_condT R (qG (q_movD R (q_movD R (q_asgD R (q_asgD R (q_asgD R (eN (sw_ret (block_ret (then_ret (then_ret (block_ret (then_ret ?_))))))))))))))
      obtain rfl := sI h
      exact fin_0 (t := .d (.tup [vI 2, vI i, vI rv3])) R R R (.cons (.tmp 2) (.cons (.tmp 3) (.cons (.tmp 4) .nil)))
     intro c6
     replace h := ifP c6 h
     refine eN (sw_condF R (sw_skip (block_norm (then_norm (sw_rg (q_movD R (q_add R (q_asgD R (eN ?_)))))))))
     exact ⟨m2, _, Nat.lt_succ_self _, .prn [1, 2, 3, 4, 6] R, (W (i + 1)), h, R⟩
    intro c5
    replace h := ifN (Int.not_lt.2 c5) h
    refine eN (sw_condF R (sw_exit (then_exit (then_exit ?_))))
    subst hK2
    refine block_exit (then_norm (qG (q_asgD R (q_asgD R (q_asgD R (eN (sw_ret ?_)))))))
    obtain rfl := sI h
    exact fin_0 (t := .d (.tup [vI 0, vI 0, vI 0])) R R R (.cons (.tmp 2) (.cons (.tmp 3) (.cons (.tmp 4) .nil)))
   intro c4
   replace h := ifF c4 h
   refine r_notF R R R (q_movD R (q_sk 2 R (q_pickT R (eN (sw_condT R (qG (q_asgD R (q_asgD R (q_asgD R (eN (sw_ret (then_ret ?_))))))))))))
   obtain rfl := sI h
   exact fin_0 (t := .d (.tup [vI 1, vI 0, vI 7])) R R R (.cons (.tmp 2) (.cons (.tmp 3) (.cons (.tmp 4) .nil)))
  intro c3
  replace h := ifN c3 h
  refine q_movD R (q_fa tb R (q_ldD (y := vI f.depth) tb R ?_))
  refine r_eql R R R R ?_ ?_
  ·intro c7
   replace h := ifP c7 h
   refine q_pickF R (q_movD R (q_sk 3 R (q_pickT R (q_movD R (q_sk 3 R (q_pickT R (q_movD R (q_sk 3 R (q_pickT R (q_asgD R (eN (sw_seq (qG (q_fa tb R (q_ldD (y := vI f.words) tb R ?_)))))))))))))))
   obtain ⟨rv4, hrv4, h⟩ := bnd h
   refine r_callB (r9_in_pc hrv4) (.of (by kernel_rfl)) R R R R ?_ ?_
   ·intro c8
    replace h := ifP c8 h
    refine r_notT R R R (q_movD R (q_movD R (r_notT R R R (q_pickF R (eN (sw_condF R (sw_skip (then_norm (sw_seq (qG (q_asgD R (eN (sw_block ?_)))))))))))))
    obtain ⟨K3, hK3, h⟩ : ∃ K, K = _ ∧ r9_Check_L2 F f K F 0 = some r := ⟨_, rfl, h⟩
    refine sw_loopS (fun m st => ∃ (i2 : Int), r9_Check_L2 F f K3 m i2 = some r ∧ st = ⟨[(1, .ref 0 4 0 0), (2, .d (vI 0)), (3, .d (vI 0)), (4, .d (vI 0)), (6, .d (vI i2))], [some ⟨4, [.d (FrFormat.d f)]⟩]⟩) (.prn [1, 2, 3, 4, 6] R) ⟨0, h, R⟩ ?_
    clear h
    rintro m3 st ⟨i2, h, rfl⟩
    cases m3 with
    | zero => cases (show (none : Option (Int × Int × Int)) = some r from h)
    | succ m3 =>
    rw [r9_Check_L2] at h
    refine sw_seq (qG (q_movD R (q_fa tb R (q_ldD (y := .arr 4 ((f.channels).map FrChannel.d)) tb R (q_lenM tb R ?_)))))
    refine r_lss R R R R ?_ ?_
    ·intro c9
     replace h := ifP c9 h
     refine eN (sw_condT R (sw_skip (then_norm (sw_seq (sw_block (qG (q_ldD (y := FrFormat.d f) tb R (q_movD R ?_))))))))
     obtain ⟨rv5, hrv5, h⟩ := bnd h
     refine r_call (r9_channel_pc hrv5) (.of (by kernel_rfl)) R R R R (q_asgD R (eN (qG (q_movD R ?_))))
     refine r_neq R R R R ?_ ?_
     ·intro c10
      replace h := ifN c10 h
      refine eN (sw_condT R (qG (q_movD R (q_movD R (q_asgD R (q_asgD R (q_asgD R (eN (sw_ret (block_ret (then_ret (then_ret (block_ret (then_ret ?_))))))))))))))
      obtain rfl := sI h
      exact fin_0 (t := .d (.tup [vI 2, vI i2, vI rv5])) R R R (.cons (.tmp 2) (.cons (.tmp 3) (.cons (.tmp 4) .nil)))
     intro c10
     replace h := ifP c10 h
     refine eN (sw_condF R (sw_skip (block_norm (then_norm (sw_rg (q_movD R (q_add R (q_asgD R (eN ?_)))))))))
     exact ⟨m3, _, Nat.lt_succ_self _, .prn [1, 2, 3, 4, 6] R, (W (i2 + 1)), h, R⟩
    intro c9
    replace h := ifN (Int.not_lt.2 c9) h
    refine eN (sw_condF R (sw_exit (then_exit (then_exit ?_))))
    subst hK3
    refine block_exit (then_norm (qG (q_asgD R (q_asgD R (q_asgD R (eN (sw_ret ?_)))))))
    obtain rfl := sI h
    exact fin_0 (t := .d (.tup [vI 0, vI 0, vI 0])) R R R (.cons (.tmp 2) (.cons (.tmp 3) (.cons (.tmp 4) .nil)))
   intro c8
   replace h := ifF c8 h
   refine r_notF R R R (q_movD R (q_sk 2 R (q_pickT R (eN (sw_condT R (qG (q_asgD R (q_asgD R (q_asgD R (eN (sw_ret (then_ret ?_))))))))))))
   obtain rfl := sI h
   exact fin_0 (t := .d (.tup [vI 1, vI 0, vI 7])) R R R (.cons (.tmp 2) (.cons (.tmp 3) (.cons (.tmp 4) .nil)))
  intro c7
  replace h := ifN c7 h
  refine q_pickF R (q_movD R (q_fa tb R (q_ldD (y := vI f.depth) tb R ?_)))
  refine r_eql R R R R ?_ ?_
  ·intro c11
   replace h := ifP c11 h
   refine q_pickF R (q_movD R (q_sk 3 R (q_pickT R (q_movD R (q_sk 3 R (q_pickT R (q_asgD R (eN (sw_seq (qG (q_fa tb R (q_ldD (y := vI f.words) tb R ?_))))))))))))
   obtain ⟨rv6, hrv6, h⟩ := bnd h
   refine r_callB (r9_in_pc hrv6) (.of (by kernel_rfl)) R R R R ?_ ?_
   ·intro c12
    replace h := ifP c12 h
    refine r_notT R R R (q_movD R (q_movD R (r_notT R R R (q_pickF R (eN (sw_condF R (sw_skip (then_norm (sw_seq (qG (q_asgD R (eN (sw_block ?_)))))))))))))
    obtain ⟨K4, hK4, h⟩ : ∃ K, K = _ ∧ r9_Check_L3 F f K F 0 = some r := ⟨_, rfl, h⟩
    refine sw_loopS (fun m st => ∃ (i3 : Int), r9_Check_L3 F f K4 m i3 = some r ∧ st = ⟨[(1, .ref 0 4 0 0), (2, .d (vI 0)), (3, .d (vI 0)), (4, .d (vI 0)), (6, .d (vI i3))], [some ⟨4, [.d (FrFormat.d f)]⟩]⟩) (.prn [1, 2, 3, 4, 6] R) ⟨0, h, R⟩ ?_
    clear h
    rintro m4 st ⟨i3, h, rfl⟩
    cases m4 with
    | zero => cases (show (none : Option (Int × Int × Int)) = some r from h)
    | succ m4 =>
    rw [r9_Check_L3] at h
    refine sw_seq (qG (q_movD R (q_fa tb R (q_ldD (y := .arr 4 ((f.channels).map FrChannel.d)) tb R (q_lenM tb R ?_)))))
    refine r_lss R R R R ?_ ?_
    ·intro c13
     replace h := ifP c13 h
     refine eN (sw_condT R (sw_skip (then_norm (sw_seq (sw_block (qG (q_ldD (y := FrFormat.d f) tb R (q_movD R ?_))))))))
     obtain ⟨rv7, hrv7, h⟩ := bnd h
     refine r_call (r9_channel_pc hrv7) (.of (by kernel_rfl)) R R R R (q_asgD R (eN (qG (q_movD R ?_))))
     refine r_neq R R R R ?_ ?_
     ·intro c14
      replace h := ifN c14 h
      refine eN (sw_condT R (qG (q_movD R (q_movD R (q_asgD R (q_asgD R (q_asgD R (eN (sw_ret (block_ret (then_ret (then_ret (block_ret (then_ret ?_))))))))))))))
      obtain rfl := sI h
      exact fin_0 (t := .d (.tup [vI 2, vI i3, vI rv7])) R R R (.cons (.tmp 2) (.cons (.tmp 3) (.cons (.tmp 4) .nil)))
     intro c14
     replace h := ifP c14 h
     refine eN (sw_condF R (sw_skip (block_norm (then_norm (sw_rg (q_movD R (q_add R (q_asgD R (eN ?_)))))))))
     exact ⟨m4, _, Nat.lt_succ_self _, .prn [1, 2, 3, 4, 6] R, (W (i3 + 1)), h, R⟩
    intro c13
    replace h := ifN (Int.not_lt.2 c13) h
    refine eN (sw_condF R (sw_exit (then_exit (then_exit ?_))))
    subst hK4
    refine block_exit (then_norm (qG (q_asgD R (q_asgD R (q_asgD R (eN (sw_ret ?_)))))))
    obtain rfl := sI h
    exact fin_0 (t := .d (.tup [vI 0, vI 0, vI 0])) R R R (.cons (.tmp 2) (.cons (.tmp 3) (.cons (.tmp 4) .nil)))
   intro c12
   replace h := ifF c12 h
   refine r_notF R R R (q_movD R (q_sk 2 R (q_pickT R (eN (sw_condT R (qG (q_asgD R (q_asgD R (q_asgD R (eN (sw_ret (then_ret ?_))))))))))))
   obtain rfl := sI h
   exact fin_0 (t := .d (.tup [vI 1, vI 0, vI 7])) R R R (.cons (.tmp 2) (.cons (.tmp 3) (.cons (.tmp 4) .nil)))
  intro c11
  replace h := ifN c11 h
  refine q_pickF R (q_movD R (q_fa tb R (q_ldD (y := vI f.depth) tb R ?_)))
  refine r_eql R R R R ?_ ?_
  ·intro c15
   replace h := ifP c15 h
   refine q_pickF R (q_movD R (q_sk 3 R (q_pickT R (q_asgD R (eN (sw_seq (qG (q_fa tb R (q_ldD (y := vI f.words) tb R ?_)))))))))
   obtain ⟨rv8, hrv8, h⟩ := bnd h
   refine r_callB (r9_in_pc hrv8) (.of (by kernel_rfl)) R R R R ?_ ?_
   ·intro c16
    replace h := ifP c16 h
    refine r_notT R R R (q_movD R (q_movD R (r_notT R R R (q_pickF R (eN (sw_condF R (sw_skip (then_norm (sw_seq (qG (q_asgD R (eN (sw_block ?_)))))))))))))
    obtain ⟨K5, hK5, h⟩ : ∃ K, K = _ ∧ r9_Check_L4 F f K F 0 = some r := ⟨_, rfl, h⟩
    refine sw_loopS (fun m st => ∃ (i4 : Int), r9_Check_L4 F f K5 m i4 = some r ∧ st = ⟨[(1, .ref 0 4 0 0), (2, .d (vI 0)), (3, .d (vI 0)), (4, .d (vI 0)), (6, .d (vI i4))], [some ⟨4, [.d (FrFormat.d f)]⟩]⟩) (.prn [1, 2, 3, 4, 6] R) ⟨0, h, R⟩ ?_
    clear h
    rintro m5 st ⟨i4, h, rfl⟩
    cases m5 with
    | zero => cases (show (none : Option (Int × Int × Int)) = some r from h)
    | succ m5 =>
    rw [r9_Check_L4] at h
    refine sw_seq (qG (q_movD R (q_fa tb R (q_ldD (y := .arr 4 ((f.channels).map FrChannel.d)) tb R (q_lenM tb R ?_)))))
    refine r_lss R R R R ?_ ?_
    ·intro c17
     replace h := ifP c17 h
     refine eN (sw_condT R (sw_skip (then_norm (sw_seq (sw_block (qG (q_ldD (y := FrFormat.d f) tb R (q_movD R ?_))))))))
     obtain ⟨rv9, hrv9, h⟩ := bnd h
     refine r_call (r9_channel_pc hrv9) (.of (by kernel_rfl)) R R R R (q_asgD R (eN (qG (q_movD R ?_))))
     refine r_neq R R R R ?_ ?_
     ·intro c18
      replace h := ifN c18 h
      refine eN (sw_condT R (qG (q_movD R (q_movD R (q_asgD R (q_asgD R (q_asgD R (eN (sw_ret (block_ret (then_ret (then_ret (block_ret (then_ret ?_))))))))))))))
      obtain rfl := sI h
      exact fin_0 (t := .d (.tup [vI 2, vI i4, vI rv9])) R R R (.cons (.tmp 2) (.cons (.tmp 3) (.cons (.tmp 4) .nil)))
     intro c18
     replace h := ifP c18 h
     refine eN (sw_condF R (sw_skip (block_norm (then_norm (sw_rg (q_movD R (q_add R (q_asgD R (eN ?_)))))))))
     exact ⟨m5, _, Nat.lt_succ_self _, .prn [1, 2, 3, 4, 6] R, (W (i4 + 1)), h, R⟩
    intro c17
    replace h := ifN (Int.not_lt.2 c17) h
    refine eN (sw_condF R (sw_exit (then_exit (then_exit ?_))))
    subst hK5
    refine block_exit (then_norm (qG (q_asgD R (q_asgD R (q_asgD R (eN (sw_ret ?_)))))))
    obtain rfl := sI h
    exact fin_0 (t := .d (.tup [vI 0, vI 0, vI 0])) R R R (.cons (.tmp 2) (.cons (.tmp 3) (.cons (.tmp 4) .nil)))
   intro c16
   replace h := ifF c16 h
   refine r_notF R R R (q_movD R (q_sk 2 R (q_pickT R (eN (sw_condT R (qG (q_asgD R (q_asgD R (q_asgD R (eN (sw_ret (then_ret ?_))))))))))))
   obtain rfl := sI h
   exact fin_0 (t := .d (.tup [vI 1, vI 0, vI 7])) R R R (.cons (.tmp 2) (.cons (.tmp 3) (.cons (.tmp 4) .nil)))
  intro c15
  replace h := ifN c15 h
  refine q_pickF R (q_movD R (q_fa tb R (q_ldD (y := vI f.depth) tb R ?_)))
  refine r_eql R R R R ?_ ?_
  ·intro c19
   replace h := ifP c19 h
   refine q_pickF R (q_asgD R (eN (sw_seq (qG (q_fa tb R (q_ldD (y := vI f.words) tb R ?_))))))
   obtain ⟨rv10, hrv10, h⟩ := bnd h
   refine r_callB (r9_in_pc hrv10) (.of (by kernel_rfl)) R R R R ?_ ?_
   ·intro c20
    replace h := ifP c20 h
    refine r_notT R R R (q_movD R (q_movD R (r_notT R R R (q_pickF R (eN (sw_condF R (sw_skip (then_norm (sw_seq (qG (q_asgD R (eN (sw_block ?_)))))))))))))
    obtain ⟨K6, hK6, h⟩ : ∃ K, K = _ ∧ r9_Check_L5 F f K F 0 = some r := ⟨_, rfl, h⟩
    refine sw_loopS (fun m st => ∃ (i5 : Int), r9_Check_L5 F f K6 m i5 = some r ∧ st = ⟨[(1, .ref 0 4 0 0), (2, .d (vI 0)), (3, .d (vI 0)), (4, .d (vI 0)), (6, .d (vI i5))], [some ⟨4, [.d (FrFormat.d f)]⟩]⟩) (.prn [1, 2, 3, 4, 6] R) ⟨0, h, R⟩ ?_
    clear h
    rintro m6 st ⟨i5, h, rfl⟩
    cases m6 with
    | zero => cases (show (none : Option (Int × Int × Int)) = some r from h)
    | succ m6 =>
    rw [r9_Check_L5] at h
    refine sw_seq (qG (q_movD R (q_fa tb R (q_ldD (y := .arr 4 ((f.channels).map FrChannel.d)) tb R (q_lenM tb R ?_)))))
    refine r_lss R R R R ?_ ?_
    ·intro c21
     replace h := ifP c21 h
     refine eN (sw_condT R (sw_skip (then_norm (sw_seq (sw_block (qG (q_ldD (y := FrFormat.d f) tb R (q_movD R ?_))))))))
     obtain ⟨rv11, hrv11, h⟩ := bnd h
     refine r_call (r9_channel_pc hrv11) (.of (by kernel_rfl)) R R R R (q_asgD R (eN (qG (q_movD R ?_))))
     refine r_neq R R R R ?_ ?_
     ·intro c22
      replace h := ifN c22 h
      refine eN (sw_condT R (qG (q_movD R (q_movD R (q_asgD R (q_asgD R (q_asgD R (eN (sw_ret (block_ret (then_ret (then_ret (block_ret (then_ret ?_))))))))))))))
      obtain rfl := sI h
      exact fin_0 (t := .d (.tup [vI 2, vI i5, vI rv11])) R R R (.cons (.tmp 2) (.cons (.tmp 3) (.cons (.tmp 4) .nil)))
     intro c22
     replace h := ifP c22 h
     refine eN (sw_condF R (sw_skip (block_norm (then_norm (sw_rg (q_movD R (q_add R (q_asgD R (eN ?_)))))))))
     exact ⟨m6, _, Nat.lt_succ_self _, .prn [1, 2, 3, 4, 6] R, (W (i5 + 1)), h, R⟩
    intro c21
    replace h := ifN (Int.not_lt.2 c21) h
    refine eN (sw_condF R (sw_exit (then_exit (then_exit ?_))))
    subst hK6
    refine block_exit (then_norm (qG (q_asgD R (q_asgD R (q_asgD R (eN (sw_ret ?_)))))))
    obtain rfl := sI h
    exact fin_0 (t := .d (.tup [vI 0, vI 0, vI 0])) R R R (.cons (.tmp 2) (.cons (.tmp 3) (.cons (.tmp 4) .nil)))
   intro c20
   replace h := ifF c20 h
   refine r_notF R R R (q_movD R (q_sk 2 R (q_pickT R (eN (sw_condT R (qG (q_asgD R (q_asgD R (q_asgD R (eN (sw_ret (then_ret ?_))))))))))))
   obtain rfl := sI h
   exact fin_0 (t := .d (.tup [vI 1, vI 0, vI 7])) R R R (.cons (.tmp 2) (.cons (.tmp 3) (.cons (.tmp 4) .nil)))
  intro c19
  replace h := ifN c19 h
  refine q_pickF R (q_asgD R (eN (sw_seq (qG (q_fa tb R (q_ldD (y := vI f.words) tb R ?_))))))
  obtain ⟨rv12, hrv12, h⟩ := bnd h
  refine r_callB (r9_in_pc hrv12) (.of (by kernel_rfl)) R R R R ?_ ?_
  ·intro c23
   replace h := ifP c23 h
   refine r_notT R R R (q_movD R (q_movD R (r_notF R R R (q_pickF R (eN (sw_condT R (qG (q_asgD R (q_asgD R (q_asgD R (eN (sw_ret (then_ret ?_)))))))))))))
   obtain rfl := sI h
   exact fin_0 (t := .d (.tup [vI 1, vI 0, vI 7])) R R R (.cons (.tmp 2) (.cons (.tmp 3) (.cons (.tmp 4) .nil)))
  intro c23
  replace h := ifF c23 h
  refine r_notF R R R (q_movD R (q_sk 2 R (q_pickT R (eN (sw_condT R (qG (q_asgD R (q_asgD R (q_asgD R (eN (sw_ret (then_ret ?_))))))))))))
  obtain rfl := sI h
  exact fin_0 (t := .d (.tup [vI 1, vI 0, vI 7])) R R R (.cons (.tmp 2) (.cons (.tmp 3) (.cons (.tmp 4) .nil)))
 intro c
 replace h := ifF c h
 refine r_notF R R R (q_movD R (q_sk 4 R (q_pickT R (eN (sw_condT R (qG (q_asgD R (q_asgD R (q_asgD R (eN (sw_ret (then_ret ?_))))))))))))
 obtain rfl := sI h
 exact fin_0 (t := .d (.tup [vI 1, vI 0, vI 3])) R R R (.cons (.tmp 2) (.cons (.tmp 3) (.cons (.tmp 4) .nil)))
def r9_valid (F : Nat) (f : FrFormat) : Option Int := Option.bind (r9_Check F f) fun rv => some rv.2.2
theorem r9_valid_pc {F : Nat} {f : FrFormat} {r : Int} (h : r9_valid F f = some r) : PC Try.prog 59 [FrFormat.d f] (.v (.int .i64 r)) := by
 rw [r9_valid] at h
 refine SC.of_sw Try.func59 R R R ?_
 dsimp only [argS, List.map]
 refine qG (q_box R (q_asgD R (eN (qG (q_ldD (y := FrFormat.d f) tb R ?_)))))
 obtain ⟨rv, hrv, h⟩ := bnd h
 refine r_call (r9_Check_pc hrv) (.of (by kernel_rfl)) R R R R (q_movD R (r_extD (t := vI rv.1) R R R R (r_extD (t := vI rv.2.1) R R R R (r_extD (t := vI rv.2.2) R R R R (q_asgD R (q_asgD R (q_asgD R (eN (qG (q_movD R (q_asgD R (eN (sw_ret ?_)))))))))))))
 obtain rfl := sI h
 exact f1 2 R
def slices_Clone_int (F : Nat) (s : (List Int)) : Option (List Int) := Option.bind (appI ([] : List Int) s) fun q => some q
theorem slices_Clone_int_scr {F : Nat} {s : (List Int)} {r : (List Int)} (h : slices_Clone_int F s = some r) : SCR Try.prog 93 (List.map T.d [.arr 1 ((s).map vI)]) [] (.row 0 1 0 (r).length) (List.map some [(lvI r)]) := by
 rw [slices_Clone_int] at h
 refine SC.of_sw Try.func93 R R R ?_
 dsimp only [argS, List.map]
 cases s with
 | nil =>
  refine SW.raw 0 1 R fun ad cap => ?_
  cases ad with
  | none =>
   replace h : some ([] : List Int) = some r := by simpa [appO, appI] using h
   refine qG (q_asgD R (eN (sw_seq (qG (q_movD R (r_nilRow (by intro o a n cap w; cases a <;> cases o <;> simp [go_sem, eqGuard] <;> rfl) R R R (eN (sw_condT R ?_))))))))
   refine SW.unraw 0 1 R ?_
   refine SW.unraw 3 1 R ?_
   refine qG (q_asgD R (eN ?_))
   refine SW.own (ts' := [(2, .row 0 1 0 (([] : List Int)).length)]) (L' := []) 1 R R (.cons .nil .nil) .nil ?_
   simp only [List.cons_append, List.nil_append]
   refine sw_ret (then_ret ?_)
   obtain rfl := sI h
   exact f2 [0] (.row R .nil) R (.cons (.tmp 2) .nil) R
  | some ad =>
   refine qG (q_asgD R (eN (sw_seq (qG (q_movD R (r_nilRaw (by intro o a n cap w; cases a <;> cases o <;> simp [go_sem, eqGuard] <;> rfl) R R R (eN (sw_condF R ?_))))))))
   refine SW.unraw 0 1 R ?_
   refine SW.unraw 3 1 R ?_
   refine sw_skip (then_norm (qG (r_bslice tb R R R R R R R R R R R R R (q_movD R ?_))))
   obtain ⟨q, iq, h⟩ := bnd h
   refine r_apEI (g := vI) (w := ([] : List Int)) (v := ([] : List Int)) ([none]) tb R R R R R R R R (by intro _; exact R) iq R R R R R (r_asgW R R R (eN (sw_ret ?_)))
   obtain rfl := sI h
   exact f2 [1] (.row R .nil) R (.cons (.tmp 2) .nil) R
 | cons x0 s =>
  refine qG (q_asgD R (eN (sw_seq (qG (q_movD R (r_nilArr (by intro o a n cap w; cases a <;> cases o <;> simp [go_sem, eqGuard] <;> rfl) R R R (eN (sw_condF R (sw_skip (then_norm (qG (r_bslice tb R R R R R R R R R R R R R (q_movD R ?_)))))))))))))
  obtain ⟨q, iq, h⟩ := bnd h
  refine r_apEI (g := vI) (w := ([] : List Int)) (v := (x0 :: s)) ([none]) tb R R R R R R R R (by intro _; exact R) iq R R R R R (r_asgW R R R (eN (sw_ret ?_)))
  obtain rfl := sI h
  exact f2 [1] (.row R .nil) R (.cons (.tmp 2) .nil) R
theorem slices_Clone_int_pc {F : Nat} {s : (List Int)} {r : (List Int)} (h : slices_Clone_int F s = some r) : PC Try.prog 93 [.arr 1 ((s).map vI)] (.arr 1 ((r).map vI)) := (slices_Clone_int_scr h).toPC (.row rfl rfl)
def frame_Merge_2 (F : Nat) (a : FrReport) (b : FrReport) : Option Bool := some (decide (a.number = b.number))
theorem frame_Merge_2_pc {F : Nat} {a : FrReport} {b : FrReport} {r : Bool} (h : frame_Merge_2 F a b = some r) : PC Try.prog 99 [FrReport.d a, FrReport.d b] (.v (.bool r)) := by
 rw [frame_Merge_2] at h
 refine SC.of_sw Try.func99 R R R ?_
 dsimp only [argS, List.map]
 refine qG (q_box R (q_box R (q_asgD R (eN (qG (q_fa tb R (q_ldD (y := vI a.number) tb R (q_fa tb R (q_ldD (y := vI b.number) tb R (r_eqlV R R R R (q_asgD R (eN (sw_ret ?_)))))))))))))
 obtain rfl := sI h
 exact f1 4 R
def slices_CompactFunc_FrReport_m_frame_Merge_2_L1 (F : Nat)  (K : (List FrReport) → Int → Int → Option ((List FrReport) × (List FrReport))) : Nat → (List FrReport) → Int → Int → Option ((List FrReport) × (List FrReport))
 | 0, _, _, _ => none
 | n + 1, t2, a2, x => if x < (([] : List FrReport).length : Int) then (Option.bind (ixO ([] : List FrReport) x) fun e3 => Option.bind (ixO ([] : List FrReport) (W (x - 1))) fun e4 => Option.bind (frame_Merge_2 F e3 e4) fun rv2 => if rv2 = true then (slices_CompactFunc_FrReport_m_frame_Merge_2_L1 F K n t2 a2 (W (x + 1))) else (Option.bind (ixO t2 a2) fun e5 => Option.bind (setO t2 a2 e3) fun t3 => slices_CompactFunc_FrReport_m_frame_Merge_2_L1 F K n t3 (W (a2 + 1)) (W (x + 1)))) else (K t2 a2 x)
def slices_CompactFunc_FrReport_m_frame_Merge_2_L2 (F : Nat) (p : Nat) (K : (List FrReport) → Int → Int → Option ((List FrReport) × (List FrReport))) : Nat → (List FrReport) → Int → Int → Option ((List FrReport) × (List FrReport))
 | 0, _, _, _ => none
 | n + 1, t5, a3, x2 => if x2 < ((t5.length - p : Nat) : Int) then (Option.bind (ixO (t5.drop p) x2) fun e6 => Option.bind (ixO (t5.drop p) (W (x2 - 1))) fun e7 => Option.bind (frame_Merge_2 F e6 e7) fun rv3 => if rv3 = true then (slices_CompactFunc_FrReport_m_frame_Merge_2_L2 F p K n t5 a3 (W (x2 + 1))) else (Option.bind (ixO t5 a3) fun e8 => Option.bind (setO t5 a3 e6) fun t6 => slices_CompactFunc_FrReport_m_frame_Merge_2_L2 F p K n t6 (W (a3 + 1)) (W (x2 + 1)))) else (K t5 a3 x2)
def slices_CompactFunc_FrReport_m_frame_Merge_2_L3 (F : Nat) (t : (List FrReport)) (K : Int → Option ((List FrReport) × (List FrReport))) : Nat → Int → Option ((List FrReport) × (List FrReport))
 | 0, _ => none
 | n + 1, a => if a < (t.length : Int) then (Option.bind (ixO t a) fun e => Option.bind (ixO t (W (a - 1))) fun e2 => Option.bind (frame_Merge_2 F e e2) fun rv => if rv = true then (Option.bind (natO a t.length) fun p => if t.length = p then (slices_CompactFunc_FrReport_m_frame_Merge_2_L1 F (fun (t2 : (List FrReport)) (a2 : Int) (x : Int) => Option.bind (natO a2 t2.length) fun p2 => if t2.length = p2 then (Option.bind (natO a2 t2.length) fun p3 => some ((t2.take p3), t2)) else (Option.bind (clrPO t2 p2 (FrReport.mk 0 0 0 false ([] : List Int))) fun t4 => Option.bind (natO a2 t4.length) fun p4 => some ((t4.take p4), t4))) F t a 1) else (slices_CompactFunc_FrReport_m_frame_Merge_2_L2 F p (fun (t5 : (List FrReport)) (a3 : Int) (x2 : Int) => Option.bind (natO a3 t5.length) fun p5 => if t5.length = p5 then (Option.bind (natO a3 t5.length) fun p6 => some ((t5.take p6), t5)) else (Option.bind (clrPO t5 p5 (FrReport.mk 0 0 0 false ([] : List Int))) fun t7 => Option.bind (natO a3 t7.length) fun p7 => some ((t7.take p7), t7))) F t a 1)) else (slices_CompactFunc_FrReport_m_frame_Merge_2_L3 F t K n (W (a + 1)))) else (K a)
def slices_CompactFunc_FrReport_m_frame_Merge_2 (F : Nat) (t : (List FrReport)) : Option ((List FrReport) × (List FrReport)) := if (t.length : Int) < 2 then (some (t, t)) else (slices_CompactFunc_FrReport_m_frame_Merge_2_L3 F t (fun (a : Int) => some (t, t)) F 1)
theorem slices_CompactFunc_FrReport_m_frame_Merge_2_scr {F : Nat} {t : (List FrReport)} {r : ((List FrReport) × (List FrReport))} (h : slices_CompactFunc_FrReport_m_frame_Merge_2 F t = some r) : SCR Try.prog 98 [.row 0 5 0 (t).length, .d (.v (.func (.func 99) #[] #[]))] [some (lFrReportd t)] (.row 0 5 0 (r.1).length) [some (lFrReportd r.2)] := by
 rw [slices_CompactFunc_FrReport_m_frame_Merge_2] at h
 refine SC.of_sw Try.func98 R R R ?_
 dsimp only [argS, List.map]
 refine qG (q_asgD R (eN (sw_seq (qG (r_movW R R R (r_lenR tb R R R R R ?_))))))
 refine r_lss R R R R ?_ ?_
 ·intro c
  replace h := ifP c h
  refine eN (sw_condT R (qG (r_movW R R R (r_asgW R R R (eN (sw_ret (then_ret ?_)))))))
  obtain rfl := sI h
  exact f2 [0] (.row R .nil) R (.cons (.tmp 4) .nil) R
 intro c
 replace h := ifN (Int.not_lt.2 c) h
 refine eN (sw_condF R (sw_skip (then_norm (sw_seq (qG (q_asgD R (eN (sw_block ?_))))))))
 obtain ⟨K6, hK6, h⟩ : ∃ K, K = _ ∧ slices_CompactFunc_FrReport_m_frame_Merge_2_L3 F t K F 1 = some r := ⟨_, rfl, h⟩
 refine sw_loopS (fun m st => ∃ (a : Int), slices_CompactFunc_FrReport_m_frame_Merge_2_L3 F t K6 m a = some r ∧ st = ⟨[(0, .row 0 5 0 (t).length), (1, .d (.v (.func (.func 99) #[] #[]))), (4, .d (.v (.slice none 0 0))), (5, .d (vI a))], [some (lFrReportd t)]⟩) (.prn [0, 1, 4, 5] R) ⟨1, h, R⟩ ?_
 clear h
 rintro m6 st ⟨a, h, rfl⟩
 cases m6 with
 | zero => cases (show (none : Option ((List FrReport) × (List FrReport))) = some r from h)
 | succ m6 =>
 rw [slices_CompactFunc_FrReport_m_frame_Merge_2_L3] at h
 refine sw_seq (qG (q_movD R (r_movW R R R (r_lenR tb R R R R R ?_))))
 refine r_lss R R R R ?_ ?_
 ·intro c2
  replace h := ifP c2 h
  refine eN (sw_condT R (sw_skip (then_norm (sw_seq (sw_block (sw_seq (sw_dr (by kernel_rfl) (q_movD R (r_movW R R R (q_movD R ?_))))))))))
  obtain ⟨e, ie, h⟩ := bnd h
  refine r_ixI tb R R R R R R (ix0 ie) (ix1 ie) R R ?_
  refine r_ldD (y := FrReport.d e) tb R R R R (ix2 (g := fun a => T.d (FrReport.d a)) ie) R R R R ?_
  refine r_movW R R R (q_movD R (r_sub R R R R ?_))
  obtain ⟨e2, ie2, h⟩ := bnd h
  refine r_ixI tb R R R R R R (ix0 ie2) (ix1 ie2) R R ?_
  refine r_ldD (y := FrReport.d e2) tb R R R R (ix2 (g := fun a => T.d (FrReport.d a)) ie2) R R R R ?_
  obtain ⟨rv, hrv, h⟩ := bnd h
  refine r_callB (frame_Merge_2_pc hrv) (.of (by kernel_rfl)) R R R R ?_ ?_
  ·intro c3
   replace h := ifP c3 h
   refine ev_endD (by kernel_rfl) (then_norm (sw_condT R (qG (r_movW R R R (q_movD R ?_)))))
   obtain ⟨p, ip, h⟩ := bnd h
   by_cases c4 : t.length = p
   ·replace h := ifP c4 h
    refine r_slRowLoE tb R R R R R R ((natO_eq ip).1) c4 R R ?_
    refine q_asgD R (eN (sw_seq (qG (q_asgD R (eN (sw_block ?_))))))
    obtain ⟨K7, hK7, h⟩ : ∃ K, K = _ ∧ slices_CompactFunc_FrReport_m_frame_Merge_2_L1 F K F t a 1 = some r := ⟨_, rfl, h⟩
    refine sw_loopS (fun m st => ∃ (t2 : (List FrReport)) (a2 : Int) (x : Int), slices_CompactFunc_FrReport_m_frame_Merge_2_L1 F K7 m t2 a2 x = some r ∧ st = ⟨[(0, .row 0 5 0 (t2).length), (1, .d (.v (.func (.func 99) #[] #[]))), (4, .d (.v (.slice none 0 0))), (5, .d (vI a2)), (6, .d (.arr 5 ((([] : List FrReport)).map FrReport.d))), (7, .d (vI x))], [some (lFrReportd t2)]⟩) (.prn [0, 1, 4, 5, 6, 7] R) ⟨t, a, 1, h, R⟩ ?_
    clear h
    rintro m7 st ⟨t2, a2, x, h, rfl⟩
    cases m7 with
    | zero => cases (show (none : Option ((List FrReport) × (List FrReport))) = some r from h)
    | succ m7 =>
    rw [slices_CompactFunc_FrReport_m_frame_Merge_2_L1] at h
    refine sw_seq (qG (q_movD R (q_movD R (q_lenM tb R ?_))))
    refine r_lss R R R R ?_ ?_
    ·intro c5
     replace h := ifP c5 h
     refine eN (sw_condT R (sw_skip (then_norm (sw_seq (sw_block (sw_seq (sw_dr (by kernel_rfl) (q_movD R (q_movD R (q_movD R ?_))))))))))
     obtain ⟨e3, ie3, h⟩ := bnd h
     refine q_ixE tb (ix0 ie3) (ix1m ie3) R (q_ldE (y := FrReport.d e3) tb (ix2 (g := FrReport.d) ie3) R (q_movD R (q_movD R (r_sub R R R R ?_))))
     obtain ⟨e4, ie4, h⟩ := bnd h
     refine q_ixE tb (ix0 ie4) (ix1m ie4) R (q_ldE (y := FrReport.d e4) tb (ix2 (g := FrReport.d) ie4) R ?_)
     obtain ⟨rv2, hrv2, h⟩ := bnd h
     refine r_callB (frame_Merge_2_pc hrv2) (.of (by kernel_rfl)) R R R R ?_ ?_
     ·intro c6
      replace h := ifP c6 h
      refine r_notT R R R (ev_endD (by kernel_rfl) (then_norm (sw_condF R (sw_skip (block_norm (then_norm (sw_rg (q_movD R (q_add R (q_asgD R (eN ?_)))))))))))
      exact ⟨m7, _, Nat.lt_succ_self _, .prn [0, 1, 4, 5, 6, 7] R, t2, a2, (W (x + 1)), h, R⟩
     intro c6
     replace h := ifF c6 h
     refine r_notF R R R (ev_endD (by kernel_rfl) (then_norm (sw_condT R (qG (r_movW R R R (q_movD R (q_movD R (q_movD R (q_ixE tb (ix0 ie3) (ix1m ie3) R (q_ldE (y := FrReport.d e3) tb (ix2 (g := FrReport.d) ie3) R ?_))))))))))
     obtain ⟨e5, ie5, h⟩ := bnd h
     refine r_ixI tb R R R R R R (ix0 ie5) (ix1 ie5) R R ?_
     obtain ⟨t3, it3, h⟩ := bnd h
     refine r_stQ (a' := (e3 : FrReport)) tb R R R R ie5 R R R R it3 R R ?_
     dsimp only [List.set_cons_zero, List.set_cons_succ]
     first | rw [set_len it3] | skip
     refine eN (sw_rg (q_movD R (q_add R (q_asgD R (ev_end (block_norm (then_norm (sw_rg (q_movD R (q_add R (q_asgD R (eN ?_))))))))))))
     exact ⟨m7, _, Nat.lt_succ_self _, .prn [0, 1, 4, 5, 6, 7] R, t3, (W (a2 + 1)), (W (x + 1)), h, R⟩
    intro c5
    replace h := ifN (Int.not_lt.2 c5) h
    refine eN (sw_condF R (sw_exit (then_exit (then_exit ?_))))
    subst hK7
    refine block_exit (then_norm (qG (r_movW R R R (q_movD R ?_))))
    obtain ⟨p2, ip2, h⟩ := bnd h
    by_cases c7 : t2.length = p2
    ·replace h := ifP c7 h
     refine r_slRowLoE tb R R R R R R ((natO_eq ip2).1) c7 R R ?_
     refine r_clearE tb R R R R (eN (qG (r_movW R R R (q_movD R ?_))))
     obtain ⟨p3, ip3, h⟩ := bnd h
     refine r_slRowHT (t2) tb R R R R R R R ((natO_eq ip3).1) ((natO_eq ip3).2) R R ?_
     refine r_asgW R R R (eN (sw_ret (block_ret (then_ret (then_ret (block_ret (then_ret ?_)))))))
     obtain rfl := sI h
     exact f2 [0] (.row R .nil) R (.cons (.tmp 4) .nil) R
    replace h := ifN c7 h
    refine r_slRowLo tb R R R R R R ((natO_eq ip2).1) (by have := (natO_eq ip2).2; omega) R R ?_
    obtain ⟨t4, it4, h⟩ := bnd h
    refine r_clearP (g := FrReport.d) (a0 := (FrReport.mk 0 0 0 false ([] : List Int))) tb R R R R R ((.aggc (.same _) (.aggc (.same _) (.aggc (.same _) (.aggc (.same _) (.aggc (.nil _) .agg0)))))) R R R R R it4 R R ?_
    dsimp only [List.set_cons_zero, List.set_cons_succ]
    first | rw [clrPO_len it4] | skip
    refine eN (qG (r_movW R R R (q_movD R ?_)))
    obtain ⟨p4, ip4, h⟩ := bnd h
    refine r_slRowHT (t4) tb R R R R R R R ((natO_eq ip4).1) ((natO_eq ip4).2) R R ?_
    refine r_asgW R R R (eN (sw_ret (block_ret (then_ret (then_ret (block_ret (then_ret ?_)))))))
    obtain rfl := sI h
    exact f2 [0] (.row R .nil) R (.cons (.tmp 4) .nil) R
   replace h := ifN c4 h
   refine r_slRowLo tb R R R R R R ((natO_eq ip).1) (by have := (natO_eq ip).2; omega) R R ?_
   refine r_asgW R R R (eN (sw_seq (qG (q_asgD R (eN (sw_block ?_))))))
   obtain ⟨K8, hK8, h⟩ : ∃ K, K = _ ∧ slices_CompactFunc_FrReport_m_frame_Merge_2_L2 F p K F t a 1 = some r := ⟨_, rfl, h⟩
   refine sw_loopS (fun m st => ∃ (t5 : (List FrReport)) (a3 : Int) (x2 : Int), slices_CompactFunc_FrReport_m_frame_Merge_2_L2 F p K8 m t5 a3 x2 = some r ∧ st = ⟨[(0, .row 0 5 0 (t5).length), (1, .d (.v (.func (.func 99) #[] #[]))), (4, .d (.v (.slice none 0 0))), (5, .d (vI a3)), (6, .row 0 5 p ((t5).length - p)), (7, .d (vI x2))], [some (lFrReportd t5)]⟩) (.prn [0, 1, 4, 5, 6, 7] R) ⟨t, a, 1, h, R⟩ ?_
   clear h
   rintro m8 st ⟨t5, a3, x2, h, rfl⟩
   cases m8 with
   | zero => cases (show (none : Option ((List FrReport) × (List FrReport))) = some r from h)
   | succ m8 =>
   rw [slices_CompactFunc_FrReport_m_frame_Merge_2_L2] at h
   refine sw_seq (qG (q_movD R (r_movW R R R (r_lenR tb R R R R R ?_))))
   refine r_lss R R R R ?_ ?_
   ·intro c8
    replace h := ifP c8 h
    refine eN (sw_condT R (sw_skip (then_norm (sw_seq (sw_block (sw_seq (sw_dr (by kernel_rfl) (q_movD R (r_movW R R R (q_movD R ?_))))))))))
    obtain ⟨e6, ie6, h⟩ := bnd h
    refine r_ixR tb R R R R R R (ix0 ie6) (ix1d ie6) R R ?_
    refine r_ldD (y := FrReport.d e6) tb R R R R (ix2d (g := fun a => T.d (FrReport.d a)) ie6) R R R R ?_
    refine r_movW R R R (q_movD R (r_sub R R R R ?_))
    obtain ⟨e7, ie7, h⟩ := bnd h
    refine r_ixR tb R R R R R R (ix0 ie7) (ix1d ie7) R R ?_
    refine r_ldD (y := FrReport.d e7) tb R R R R (ix2d (g := fun a => T.d (FrReport.d a)) ie7) R R R R ?_
    obtain ⟨rv3, hrv3, h⟩ := bnd h
    refine r_callB (frame_Merge_2_pc hrv3) (.of (by kernel_rfl)) R R R R ?_ ?_
    ·intro c9
     replace h := ifP c9 h
     refine r_notT R R R (ev_endD (by kernel_rfl) (then_norm (sw_condF R (sw_skip (block_norm (then_norm (sw_rg (q_movD R (q_add R (q_asgD R (eN ?_)))))))))))
     exact ⟨m8, _, Nat.lt_succ_self _, .prn [0, 1, 4, 5, 6, 7] R, t5, a3, (W (x2 + 1)), h, R⟩
    intro c9
    replace h := ifF c9 h
    refine r_notF R R R (ev_endD (by kernel_rfl) (then_norm (sw_condT R (qG (r_movW R R R (q_movD R (r_movW R R R (q_movD R (r_ixR tb R R R R R R (ix0 ie6) (ix1d ie6) R R ?_)))))))))
    refine r_ldD (y := FrReport.d e6) tb R R R R (ix2d (g := fun a => T.d (FrReport.d a)) ie6) R R R R ?_
    obtain ⟨e8, ie8, h⟩ := bnd h
    refine r_ixI tb R R R R R R (ix0 ie8) (ix1 ie8) R R ?_
    obtain ⟨t6, it6, h⟩ := bnd h
    refine r_stQ (a' := (e6 : FrReport)) tb R R R R ie8 R R R R it6 R R ?_
    dsimp only [List.set_cons_zero, List.set_cons_succ]
    first | rw [set_len it6] | skip
    refine eN (sw_rg (q_movD R (q_add R (q_asgD R (ev_end (block_norm (then_norm (sw_rg (q_movD R (q_add R (q_asgD R (eN ?_))))))))))))
    exact ⟨m8, _, Nat.lt_succ_self _, .prn [0, 1, 4, 5, 6, 7] R, t6, (W (a3 + 1)), (W (x2 + 1)), h, R⟩
   intro c8
   replace h := ifN (Int.not_lt.2 c8) h
   refine eN (sw_condF R (sw_exit (then_exit (then_exit ?_))))
   subst hK8
   refine block_exit (then_norm (qG (r_movW R R R (q_movD R ?_))))
   obtain ⟨p5, ip5, h⟩ := bnd h
   by_cases c10 : t5.length = p5
   ·replace h := ifP c10 h
    refine r_slRowLoE tb R R R R R R ((natO_eq ip5).1) c10 R R ?_
    refine r_clearE tb R R R R (eN (qG (r_movW R R R (q_movD R ?_))))
    obtain ⟨p6, ip6, h⟩ := bnd h
    refine r_slRowHT (t5) tb R R R R R R R ((natO_eq ip6).1) ((natO_eq ip6).2) R R ?_
    refine r_asgW R R R (eN (sw_ret (block_ret (then_ret (then_ret (block_ret (then_ret ?_)))))))
    obtain rfl := sI h
    exact f2 [0] (.row R .nil) R (.cons (.tmp 4) .nil) R
   replace h := ifN c10 h
   refine r_slRowLo tb R R R R R R ((natO_eq ip5).1) (by have := (natO_eq ip5).2; omega) R R ?_
   obtain ⟨t7, it7, h⟩ := bnd h
   refine r_clearP (g := FrReport.d) (a0 := (FrReport.mk 0 0 0 false ([] : List Int))) tb R R R R R ((.aggc (.same _) (.aggc (.same _) (.aggc (.same _) (.aggc (.same _) (.aggc (.nil _) .agg0)))))) R R R R R it7 R R ?_
   dsimp only [List.set_cons_zero, List.set_cons_succ]
   first | rw [clrPO_len it7] | skip
   refine eN (qG (r_movW R R R (q_movD R ?_)))
   obtain ⟨p7, ip7, h⟩ := bnd h
   refine r_slRowHT (t7) tb R R R R R R R ((natO_eq ip7).1) ((natO_eq ip7).2) R R ?_
   refine r_asgW R R R (eN (sw_ret (block_ret (then_ret (then_ret (block_ret (then_ret ?_)))))))
   obtain rfl := sI h
   exact f2 [0] (.row R .nil) R (.cons (.tmp 4) .nil) R
  intro c3
  replace h := ifF c3 h
  refine ev_endD (by kernel_rfl) (then_norm (sw_condF R (sw_skip (block_norm (then_norm (sw_rg (q_movD R (q_add R (q_asgD R (eN ?_))))))))))
  exact ⟨m6, _, Nat.lt_succ_self _, .prn [0, 1, 4, 5] R, (W (a + 1)), h, R⟩
 intro c2
 replace h := ifN (Int.not_lt.2 c2) h
 refine eN (sw_condF R (sw_exit (then_exit (then_exit ?_))))
 subst hK6
 refine block_exit (then_norm (qG (r_movW R R R (r_asgW R R R (eN (sw_ret ?_))))))
 obtain rfl := sI h
 exact f2 [0] (.row R .nil) R (.cons (.tmp 4) .nil) R
namespace Dd
open Go.RowKit
def cmpI (x y : Int) : Int := if x < y then -1 else if y < x then 1 else 0
theorem isNaN_any (x : Int) (w : World) : Calls Try.prog 112 #[.int .i64 x] w fun e w' => e = .returned (.bool false) ∧ w' = w := by
  go_enter Try.func112, Try.ntmps112
  go_wp2
  go_ret
  exact ⟨by simp, rfl⟩
theorem cmp_any (x y : Int) (w : World) : Calls Try.prog 97 #[.int .i64 x, .int .i64 y] w fun e w' => e = .returned (.int .i64 (cmpI x y)) ∧ w' = w := by
  have h1 := fun W => isNaN_any x W
  have h2 := fun W => isNaN_any y W
  unfold cmpI
  by_cases hxy : x < y
  · rw [if_pos hxy]
    go_enter Try.func97, Try.ntmps97
    go_wp2_with (go_at_call 112; first | (refine (h1 _).mono ?_; rintro e w' ⟨rfl, rfl⟩) | (refine (h2 _).mono ?_; rintro e w' ⟨rfl, rfl⟩))
    go_ret
    exact ⟨rfl, rfl⟩
  · rw [if_neg hxy]
    by_cases hyx : y < x
    · rw [if_pos hyx]
      go_enter Try.func97, Try.ntmps97
      go_wp2_with (go_at_call 112; first | (refine (h1 _).mono ?_; rintro e w' ⟨rfl, rfl⟩) | (refine (h2 _).mono ?_; rintro e w' ⟨rfl, rfl⟩))
      go_ret
      exact ⟨rfl, rfl⟩
    · rw [if_neg hyx]
      go_enter Try.func97, Try.ntmps97
      go_wp2_with (go_at_call 112; first | (refine (h1 _).mono ?_; rintro e w' ⟨rfl, rfl⟩) | (refine (h2 _).mono ?_; rintro e w' ⟨rfl, rfl⟩))
      go_ret
      exact ⟨rfl, rfl⟩

def or3 (x y z : Int) : Int := if x ≠ 0 then x else if y ≠ 0 then y else z
set_option maxHeartbeats 2000000 in
theorem or_any (b cap : Nat) (x y z : Int) (W : World) (h0 : W.cell? ⟨b, 0, none⟩ = some (.int .i64 x)) (h1 : W.cell? ⟨b, 1, none⟩ = some (.int .i64 y)) (h2 : W.cell? ⟨b, 2, none⟩ = some (.int .i64 z)) : Calls Try.prog 96 #[.slice (some ⟨b, 0, none⟩) 3 cap] W fun e w' => e = .returned (.int .i64 (or3 x y z)) ∧ w' = W := by
  have hz0 : (x != 0) = decide (x ≠ 0) := by by_cases h : x = 0 <;> simp [h]
  unfold or3
  by_cases hx : x = 0
  · by_cases hy : y = 0
    · by_cases hz : z = 0
      · subst hx hy hz
        go_enter Try.func96, Try.ntmps96
        go_wp2
        refine wp_loop_rounds 4 ?_
        rw [rounds_succ]; go_wp2
        rw [rounds_succ]; go_wp2
        rw [rounds_succ]; go_wp2
        rw [rounds_succ]; go_wp2
        go_ret
        exact ⟨by simp, rfl⟩
      · subst hx hy
        have hz' : (z != 0) = true := by simp [hz]
        go_enter Try.func96, Try.ntmps96
        go_wp2
        refine wp_loop_rounds 4 ?_
        rw [rounds_succ]; go_wp2
        rw [rounds_succ]; go_wp2
        rw [rounds_succ]; go_wp2
        go_ret
        exact ⟨by simp, rfl⟩
    · subst hx
      have hy' : (y != 0) = true := by simp [hy]
      go_enter Try.func96, Try.ntmps96
      go_wp2
      refine wp_loop_rounds 4 ?_
      rw [rounds_succ]; go_wp2
      rw [rounds_succ]; go_wp2
      go_ret
      exact ⟨by simp [hy], rfl⟩
  · have hx' : (x != 0) = true := by simp [hx]
    go_enter Try.func96, Try.ntmps96
    go_wp2
    refine wp_loop_rounds 4 ?_
    rw [rounds_succ]; go_wp2
    go_ret
    exact ⟨by simp [hx], rfl⟩

abbrev RpK := Int × Int × Int × Bool × Option Addr × Nat × Nat
def rpE (x : RpK) : List Value := [.int .i64 x.1, .int .i64 x.2.1, .int .i64 x.2.2.1, .bool x.2.2.2.1, .slice x.2.2.2.2.1 x.2.2.2.2.2.1 x.2.2.2.2.2.2]
def SoL (x y z : Int) (v : Value) (w : World) : Prop := ∃ b n, v = .slice (some ⟨b, 0, none⟩) 3 n ∧ w.cell? ⟨b, 0, none⟩ = some (.int .i64 x) ∧ w.cell? ⟨b, 1, none⟩ = some (.int .i64 y) ∧ w.cell? ⟨b, 2, none⟩ = some (.int .i64 z)
def rpC (x y : RpK) : Int := or3 (cmpI x.1 y.1) (cmpI y.2.2.1 x.2.2.1) (cmpI x.2.1 y.2.1)
set_option maxHeartbeats 4000000 in
theorem clo_any (x y : RpK) (W0 : World) : Calls Try.prog 95 #[.agg (rpE x).toArray, .agg (rpE y).toArray] W0 fun e w' => e = .returned (.int .i64 (rpC x y)) ∧ Ext W0 w' := by
  obtain ⟨x1, x2, x3, x4, x5, x6, x7⟩ := x
  obtain ⟨y1, y2, y3, y4, y5, y6, y7⟩ := y
  simp only [rpE, rpC]
  go_enter Try.func95, Try.ntmps95
  go_upto_region 1 with (fail)
  have hE0 : Ext W0 ((W0.alloc (.cells #[.int .i64 x1, .int .i64 x2, .int .i64 x3, .bool x4, .slice x5 x6 x7] 97)).alloc (.cells #[.int .i64 y1, .int .i64 y2, .int .i64 y3, .bool y4, .slice y5 y6 y7] 97)) := ((Ext.refl W0).alloc _).alloc _
  have c0 : ((W0.alloc (.cells #[.int .i64 x1, .int .i64 x2, .int .i64 x3, .bool x4, .slice x5 x6 x7] 97)).alloc (.cells #[.int .i64 y1, .int .i64 y2, .int .i64 y3, .bool y4, .slice y5 y6 y7] 97)).cell? ⟨W0.heap.size, 0, none⟩ = some (.int .i64 x1) := by simp
  have c1 : ((W0.alloc (.cells #[.int .i64 x1, .int .i64 x2, .int .i64 x3, .bool x4, .slice x5 x6 x7] 97)).alloc (.cells #[.int .i64 y1, .int .i64 y2, .int .i64 y3, .bool y4, .slice y5 y6 y7] 97)).cell? ⟨W0.heap.size, 1, none⟩ = some (.int .i64 x2) := by simp
  have c2 : ((W0.alloc (.cells #[.int .i64 x1, .int .i64 x2, .int .i64 x3, .bool x4, .slice x5 x6 x7] 97)).alloc (.cells #[.int .i64 y1, .int .i64 y2, .int .i64 y3, .bool y4, .slice y5 y6 y7] 97)).cell? ⟨W0.heap.size, 2, none⟩ = some (.int .i64 x3) := by simp
  have c3 : ((W0.alloc (.cells #[.int .i64 x1, .int .i64 x2, .int .i64 x3, .bool x4, .slice x5 x6 x7] 97)).alloc (.cells #[.int .i64 y1, .int .i64 y2, .int .i64 y3, .bool y4, .slice y5 y6 y7] 97)).cell? ⟨W0.heap.size + 1, 0, none⟩ = some (.int .i64 y1) := by simp
  have c4 : ((W0.alloc (.cells #[.int .i64 x1, .int .i64 x2, .int .i64 x3, .bool x4, .slice x5 x6 x7] 97)).alloc (.cells #[.int .i64 y1, .int .i64 y2, .int .i64 y3, .bool y4, .slice y5 y6 y7] 97)).cell? ⟨W0.heap.size + 1, 1, none⟩ = some (.int .i64 y2) := by simp
  have c5 : ((W0.alloc (.cells #[.int .i64 x1, .int .i64 x2, .int .i64 x3, .bool x4, .slice x5 x6 x7] 97)).alloc (.cells #[.int .i64 y1, .int .i64 y2, .int .i64 y3, .bool y4, .slice y5 y6 y7] 97)).cell? ⟨W0.heap.size + 1, 2, none⟩ = some (.int .i64 y3) := by simp
  generalize ((W0.alloc (.cells #[.int .i64 x1, .int .i64 x2, .int .i64 x3, .bool x4, .slice x5 x6 x7] 97)).alloc (.cells #[.int .i64 y1, .int .i64 y2, .int .i64 y3, .bool y4, .slice y5 y6 y7] 97)) = w1 at *
  apply wp_region_f (5 :: 6 :: 7 :: 8 :: 9 :: 10 :: 11 :: 12 :: 13 :: 14 :: 15 :: 16 :: 17 :: 18 :: 19 :: 20 :: 21 :: 4 :: [])
    (.is _ :: .is _ :: .is _ :: .is _ :: .is _ :: .is _ :: .is _ :: .is _ :: .is _ :: .is _ :: .is _ :: .is _ :: .is _ :: .is _ :: .is _ :: .so (SoL (cmpI x1 y1) (cmpI y3 x3) (cmpI x2 y2)) :: .is _ :: .is _ :: [])
    [(2, _), (3, _)]
  · kernel_rfl
  · decide
  · rfl
  · kernel_rfl
  · decide +kernel
  · kernel_rfl
  · kernel_rfl
  · kernel_rfl
  · kernel_rfl
  · rfl
  · exact ⟨trivial, trivial, trivial, trivial, trivial, trivial, trivial, trivial, trivial, trivial, trivial, trivial, trivial, trivial, trivial, fun v A B h k => by obtain ⟨b, n, h, h0, h1, h2⟩ := h; exact ⟨b, n, h, k.cell h0, k.cell h1, k.cell h2⟩, trivial, trivial, trivial⟩
  · refine ⟨?_, ?_, trivial⟩ <;> (simp; rfl)
  · repeat
      refine ⟨?_, ?_⟩
      · intro F W hF hd hR
        simp [fixedAt] at hF
        obtain ⟨t2, t3⟩ := hF
        simp [Region.binds, Ent.holds] at hd
        refine ⟨fun _ K hK => ?_, by intro g b h hn; first | (cases h; done) | (cases h; exact absurd (by simp [hd]) hn)⟩
        simp only [Ent.holds, List.getD_cons_zero, List.getD_cons_succ] at hK
        have q0 := hR.cell c0
        have q1 := hR.cell c1
        have q2 := hR.cell c2
        have q3 := hR.cell c3
        have q4 := hR.cell c4
        have q5 := hR.cell c5
        go_simp
        first
          | exact hK _ _ rfl (Ext.refl _)
          | (refine (cmp_any _ _ _).mono ?_
             rintro e w' ⟨rfl, rfl⟩
             exact hK _ _ rfl (Ext.refl _))
          | (exact hK _ _ ⟨_, _, rfl, by simp, by simp, by simp⟩ ((Ext.refl _).alloc _))
          | (obtain ⟨b', n', hs, k0, k1, k2⟩ := hd.1
             simp only [hs]
             refine (or_any _ _ _ _ _ _ k0 k1 k2).mono ?_
             rintro e w' ⟨rfl, rfl⟩
             exact hK _ _ rfl (Ext.refl _))
    exact trivial
  intro X W hx hR
  simp only [toldX] at hx
  simp only [fillX, List.setIfInBounds_toArray, List.set_cons_succ, List.set_cons_zero]
  clear hx
  go_wp2_with fail
  go_ret
  exact ⟨rfl, hE0.trans hR⟩
theorem ext_grow {w w' : World} (h : Ext w w') : ∃ q os', w' = Go.Sort.grow (w.drewN q) os' := by
  obtain ⟨hb, hd⟩ := h
  obtain ⟨⟨d, os⟩, e⟩ := Go.regrown_of_below hb
  have hd' : w'.drawn = d := by rw [e]; rfl
  refine ⟨d - w.drawn, os, ?_⟩
  rw [e]
  have : w.drawn + (d - w.drawn) = d := by omega
  show Go.Sort.grow (Go.redrawn w d) os = _
  unfold Go.redrawn World.drewN
  rw [this]
theorem cmpLays_rp (blk off size : Nat) (w : World) : CmpLays Try.prog 95 #[] rpE 5 rpC blk off size w := fun _ _ _ _ x y => (clo_any x y _).mono fun _ _ ⟨h1, h2⟩ => ⟨h1, ext_grow h2⟩

end Dd
open Go.Shelf in
shelf_lay_g SlLaysF0.n6 Slsf 6 at Try 94 as Try.sortRp
def rpLt (x y : FrReport) : Bool := decide (x.number < y.number) || (decide (x.number = y.number) && (decide (y.agree < x.agree) || (decide (x.agree = y.agree) && decide (x.from_ < y.from_))))
theorem rpLt_iff (x y : FrReport) : rpLt x y = true ↔ x.number < y.number ∨ (x.number = y.number ∧ (y.agree < x.agree ∨ (x.agree = y.agree ∧ x.from_ < y.from_))) := by simp [rpLt]
theorem rpLt_as : LtOk rpLt where
 asym x y h := by
  rw [rpLt_iff] at h
  cases h2 : rpLt y x with
  | false => rfl
  | true => rw [rpLt_iff] at h2; omega
 nt x y z h1 h2 := by
  cases h3 : rpLt x z with
  | false => rfl
  | true =>
   have h1 : ¬ rpLt x y = true := by rw [h1]; exact Bool.false_ne_true
   have h2 : ¬ rpLt y z = true := by rw [h2]; exact Bool.false_ne_true
   rw [rpLt_iff] at h1 h2 h3
   omega
theorem rpC_iff (a b : Dd.RpK) : Go.Proofs.ltOf Dd.rpC a b = true ↔ a.1 < b.1 ∨ (a.1 = b.1 ∧ (b.2.2.1 < a.2.2.1 ∨ (a.2.2.1 = b.2.2.1 ∧ a.2.1 < b.2.1))) := by
 unfold Go.Proofs.ltOf Dd.rpC Dd.or3 Dd.cmpI
 rw [decide_eq_true_iff]
 repeat' split
 all_goals omega
theorem rp_swo : Go.Sort.SWO (Go.Proofs.ltOf Dd.rpC) where
 irrefl x := by
  cases h : Go.Proofs.ltOf Dd.rpC x x with
  | false => rfl
  | true => rw [rpC_iff] at h; omega
 trans x y z h1 h2 := by rw [rpC_iff] at h1 h2 ⊢; omega
 ntrans x y z h1 h2 := by
  cases h3 : Go.Proofs.ltOf Dd.rpC x z with
  | false => rfl
  | true =>
   have h1 : ¬ Go.Proofs.ltOf Dd.rpC x y = true := by rw [h1]; exact Bool.false_ne_true
   have h2 : ¬ Go.Proofs.ltOf Dd.rpC y z = true := by rw [h2]; exact Bool.false_ne_true
   rw [rpC_iff] at h1 h2 h3
   omega
theorem rp_dec (g : G) (x : FrReport) (cs : List Value) (h : VTs g ((FrReport.d x).cells.map .d) cs) (hl : cs.length = 5) : ∃ a : Dd.RpK, Dd.rpE a = cs ∧ (a.1 = x.number ∧ a.2.1 = x.from_ ∧ a.2.2.1 = x.agree) := by
 match cs, hl with
 | [c0, c1, c2, c3, c4], _ =>
  have h0 := (h.2 0 _ c0 rfl rfl).v_eq
  have h1 := (h.2 1 _ c1 rfl rfl).v_eq
  have h2 := (h.2 2 _ c2 rfl rfl).v_eq
  have h3 := (h.2 3 _ c3 rfl rfl).v_eq
  have h4 : ∃ a n q, c4 = .slice a n q := by
   have := h.2 4 (.d (.arr 1 (x.words.map vI))) c4 rfl rfl
   cases this with | d h5 =>
   generalize hd : D.arr 1 (x.words.map vI) = dd at h5
   cases h5 with
   | arr0 s a cap => exact ⟨_, _, _, rfl⟩
   | arr s l b off cap f hc hK hs hw hv => exact ⟨_, _, _, rfl⟩
   | _ => cases hd
  obtain ⟨a, n, q, rfl⟩ := h4
  exact ⟨(x.number, x.from_, x.agree, x.marked, a, n, q), by rw [h0, h1, h2, h3]; rfl, rfl, rfl, rfl⟩
theorem frame_sort_scr {l r : List FrReport} (h : srtO rpLt l = some r) : SCR Try.prog 94 [.row 0 5 0 l.length, .d (.v (.func (.func 95) #[] #[]))] [some (lFrReportd l)] (.d (.tup [])) [some (lFrReportd r)] := by
 have := sort_row (P := Try.prog) Try.sortRp 5 (by decide) Try.isAgg97 Try.sizeOf97 Dd.rpE (fun _ => rfl) (fun x v hv => by simp [Dd.rpE] at hv; rcases hv with rfl | rfl | rfl | rfl | rfl <;> rfl) Dd.rpC rp_swo 95 (Go.Proofs.enters_of Try.func95 (by kernel_rfl) rfl) (fun _ _ _ _ => Dd.cmpLays_rp _ _ _ _) FrReport.d (fun x a => a.1 = x.number ∧ a.2.1 = x.from_ ∧ a.2.2.1 = x.agree) rp_dec (fun _ => rfl) (fun x y => rpLt x y = true) (fun x y a b ⟨h1, h2, h3⟩ ⟨k1, k2, k3⟩ hab hxy => by
  have : Go.Proofs.ltOf Dd.rpC a b = true := by rw [rpC_iff, h1, h2, h3, k1, k2, k3]; exact (rpLt_iff x y).1 hxy
  rw [hab] at this; cases this) l (srt_lt h)
 exact this.mono fun se X ⟨h1, r', hp, hw, hX⟩ => ⟨h1, by rw [hX, srt_one rpLt_as h hp hw]⟩
def frame_Merge_L1 (F : Nat) (x : Int) (rv3 : ((List FrFrame) × (List Int) × Int)) (K : Int → KL → Option ((List FrReport) × Int)) : Nat → Int → KL → Option ((List FrReport) × Int)
 | 0, _, _ => none
 | n + 1, x2, A2 => if x2 < (rv3.1.length : Int) then (Option.bind (ixO rv3.1 x2) fun e2 => Option.bind (ixO rv3.2.1 x2) fun e3 => if keyB 33 (keyF 32 e3 e2.words) = true then (Option.bind (appO (kget A2 (keyF 32 e3 e2.words)) [x]) fun q => frame_Merge_L1 F x rv3 K n (W (x2 + 1)) (kput A2 (keyF 32 e3 e2.words) q)) else none) else (K x2 A2)
def frame_Merge_L2 (F : Nat)  (K : (List FrReport) → Int → Int → Option ((List FrReport) × Int)) : Nat → (List FrReport) → Int → Int → Option ((List FrReport) × Int)
 | 0, _, _, _ => none
 | n + 1, rv5, x3, x4 => if x4 < x3 then (if (W (x4 + 1)) < (rv5.length : Int) then (Option.bind (ixO rv5 (W (x4 + 1))) fun e6 => Option.bind (ixO rv5 x4) fun e7 => Option.bind (setO rv5 x4 {e7 with marked := (decide (e6.number = e7.number))}) fun rv6 => frame_Merge_L2 F K n rv6 x3 (W (x4 + 1))) else (Option.bind (ixO rv5 x4) fun e8 => Option.bind (setO rv5 x4 {e8 with marked := false}) fun rv7 => frame_Merge_L2 F K n rv7 x3 (W (x4 + 1)))) else (K rv5 x3 x4)
def frame_Merge_B (F : Nat) (t : FrFormat) (kx lx : List Int) (rs : List FrReport) : Option (List FrReport) := if kx.length = 33 then (Option.bind (ixO kx 0) fun e4 => Option.bind (ixO lx 0) fun e5 => Option.bind (cutO kx 1 (W (1 + t.words))) fun q4 => Option.bind (slices_Clone_int F q4) fun rv4 => Option.bind (appO rs [(FrReport.mk e4 e5 (lx.length : Int) false rv4)]) fun q5 => some q5) else none
def frame_Merge_R (F : Nat) (t : FrFormat) (kx lx : List Int) : Option FrReport := if kx.length = 33 then (Option.bind (ixO kx 0) fun e4 => Option.bind (ixO lx 0) fun e5 => Option.bind (cutO kx 1 (W (1 + t.words))) fun q4 => Option.bind (slices_Clone_int F q4) fun rv4 => some (FrReport.mk e4 e5 (lx.length : Int) false rv4)) else none
theorem frame_Merge_of {F : Nat} {t : FrFormat} {kx lx : List Int} {rs : List FrReport} {b : FrReport} (h : frame_Merge_R F t kx lx = some b) (hl : rs.length + 1 ≤ 1000000000) : frame_Merge_B F t kx lx rs = some (rs ++ [b]) := by
 unfold frame_Merge_R at h; unfold frame_Merge_B
 split at h
 ·rename_i c
  rw [if_pos c]
  obtain ⟨x, hx, h⟩ := Option.bind_eq_some_iff.1 h; rw [hx]; simp only [Option.bind_some]; clear hx
  obtain ⟨x, hx, h⟩ := Option.bind_eq_some_iff.1 h; rw [hx]; simp only [Option.bind_some]; clear hx
  obtain ⟨x, hx, h⟩ := Option.bind_eq_some_iff.1 h; rw [hx]; simp only [Option.bind_some]; clear hx
  obtain ⟨x, hx, h⟩ := Option.bind_eq_some_iff.1 h; rw [hx]; simp only [Option.bind_some]; clear hx
  injection h with h; subst h
  simp [appO, hl]
 ·cases h
def frame_Merge_L3 (F : Nat) (t : FrFormat) (o : (List FrTape)) (K : Int → Int → KL → Option ((List FrReport) × Int)) : Nat → Int → Int → KL → Option ((List FrReport) × Int)
 | 0, _, _, _ => none
 | n + 1, a, x, A => if x < (o.length : Int) then (Option.bind (ixO o x) fun e => Option.bind (frame_tape F t e) fun rv2 => if rv2 = 0 then (Option.bind (frame_read F t e) fun rv3 => if rv3.2.2 = 0 then (frame_Merge_L1 F x rv3 (fun (x2 : Int) (A2 : KL) => frame_Merge_L3 F t o K n rv2 (W (x + 1)) A2) F 0 A) else (some (([] : List FrReport), rv3.2.2))) else (some (([] : List FrReport), rv2))) else (K a x A)
def frame_Merge (F : Nat) (t : FrFormat) (o : (List FrTape)) : Option ((List FrReport) × Int) := Option.bind (frame_Check F t) fun rv => if rv.2.2 = 0 then (if 4 < (o.length : Int) then (some (([] : List FrReport), 3)) else (frame_Merge_L3 F t o (fun (a : Int) (x : Int) (A : KL) => if A.length ≤ 1000000000 then (Option.bind (Option.bind (hrgO (frame_Merge_R F t) A) (srtO rpLt)) fun q3 => frame_Merge_L2 F (fun (rv5 : (List FrReport)) (x3 : Int) (x4 : Int) => Option.bind (slices_CompactFunc_FrReport_m_frame_Merge_2 F rv5) fun rv8 => Option.bind (lnO rv8.2.length rv5.length) fun u => Option.bind (preO rv8.1 rv8.2) fun q6 => some (q6, 0)) F q3 (q3.length : Int) 0) else none) F rv.2.2 0 ([] : KL))) else (some (([] : List FrReport), rv.2.2))
theorem frame_Merge_scr {F : Nat} {t : FrFormat} {o : (List FrTape)} {r : ((List FrReport) × Int)} (h : frame_Merge F t o = some r) : SCR Try.prog 47 (List.map T.d [FrFormat.d t, .arr 2 ((o).map FrTape.d)]) [] (.tup [.row 0 5 0 (r.1).length, .d (.v (.int .i64 r.2))]) (List.map some [(lFrReportd r.1)]) := by
 rw [frame_Merge] at h
 refine SC.of_sw Try.func47 R R R ?_
 dsimp only [argS, List.map]
 refine qG (q_box R (q_asgD R (q_asgD R (eN (sw_seq (qG (q_ldD (y := FrFormat.d t) tb R ?_)))))))
 obtain ⟨rv, hrv, h⟩ := bnd h
 refine r_call (frame_Check_pc hrv) (.of (by kernel_rfl)) R R R R (q_movD R (r_extD (t := vI rv.1) R R R R (r_extD (t := vI rv.2.1) R R R R (r_extD (t := vI rv.2.2) R R R R (q_asgD R (eN (qG (q_movD R ?_))))))))
 refine r_neq R R R R ?_ ?_
 ·intro c
  replace h := ifN c h
  refine eN (sw_condT R (qG (q_movD R (q_asgD R (q_asgD R (eN ?_))))))
  refine SW.own (ts' := [(4, .row 1 5 0 (([] : List FrReport)).length), (5, .d (vI rv.2.2))]) (L' := [some ⟨4, [.d (FrFormat.d t)]⟩]) 5 R R (.cons .nil (.cons (.same _) .nil)) (.same .nil) ?_
  simp only [List.cons_append, List.nil_append]
  refine sw_ret (then_ret ?_)
  obtain rfl := sI h
  exact f2 [1] (.row R .nil) R (.cons (.tmp 4) (.cons (.tmp 5) .nil)) R
 intro c
 replace h := ifP c h
 refine eN (sw_condF R (sw_skip (then_norm (sw_seq (qG (q_movD R (q_lenM tb R ?_)))))))
 refine r_gtr R R R R ?_ ?_
 ·intro c2
  replace h := ifP c2 h
  refine eN (sw_condT R (qG (q_asgD R (q_asgD R (eN ?_)))))
  refine SW.own (ts' := [(4, .row 1 5 0 (([] : List FrReport)).length), (5, .d (vI 3))]) (L' := [some ⟨4, [.d (FrFormat.d t)]⟩]) 5 R R (.cons .nil (.cons (.same _) .nil)) (.same .nil) ?_
  simp only [List.cons_append, List.nil_append]
  refine sw_ret (then_ret ?_)
  obtain rfl := sI h
  exact f2 [1] (.row R .nil) R (.cons (.tmp 4) (.cons (.tmp 5) .nil)) R
 intro c2
 replace h := ifN (Int.not_lt.2 c2) h
 refine eN (sw_condF R (sw_skip (then_norm ?_)))
 refine SW.hide 159 fun gs => ?_
 with_reducible apply swx_seq
 with_reducible apply swx_rg
 with_reducible apply rgx_ev
 refine ev_x ?_
 refine rgx_make R fun bm => ?_
 with_reducible apply rgx_ev
 refine q_asgD R (ev_endX ?_)
 with_reducible apply thenx_norm
 with_reducible apply swx_seq
 with_reducible apply swx_seq
 with_reducible apply swx_rg
 with_reducible apply rgx_ev
 refine q_movD R (q_lenM tb R (q_movD R (ev_endX ?_)))
 with_reducible apply thenx_norm
 with_reducible apply swx_block
 obtain ⟨K1, hK1, h⟩ : ∃ K, K = _ ∧ frame_Merge_L3 F t o K F rv.2.2 0 ([] : KL) = some r := ⟨_, rfl, h⟩
 refine swx_loopS (fun m gx st => ∃ (a : Int) (x : Int) (A : KL), frame_Merge_L3 F t o K1 m a x A = some r ∧ gx = Gh.mp bm A ∧ st = ⟨[(2, .ref 0 4 0 0), (4, .d (.v (.slice none 0 0))), (5, .d (vI a)), (6, .d (.v (.map (some bm)))), (31, .d (.arr 2 ((o).map FrTape.d))), (32, .d (vI (o.length : Int))), (33, .d (vI x))], [some ⟨4, [.d (FrFormat.d t)]⟩]⟩) (.prn [2, 4, 5, 6, 31, 32, 33] R) ⟨rv.2.2, 0, ([] : KL), h, R, R⟩ ?_
 clear h
 rintro m1 gx st ⟨a, x, A, h, rfl, rfl⟩
 cases m1 with
 | zero => cases (show (none : Option ((List FrReport) × Int)) = some r from h)
 | succ m1 =>
 rw [frame_Merge_L3] at h
 with_reducible apply swx_seq
 with_reducible apply swx_rg
 with_reducible apply rgx_ev
 refine r_lss R R R R ?_ ?_
 ·intro c3
  replace h := ifP c3 h
  refine ev_endX ?_
  with_reducible apply thenx_norm
  with_reducible apply swx_seq
  refine swx_condT R ?_
  with_reducible apply swx_skip
  with_reducible apply thenx_norm
  with_reducible apply swx_seq
  with_reducible apply swx_block
  with_reducible apply swx_seq
  with_reducible apply swx_rg
  with_reducible apply rgx_ev
  refine q_movD R ?_
  obtain ⟨e, ie, h⟩ := bnd h
  refine q_ixE tb (ix0 ie) (ix1m ie) R (q_ldE (y := FrTape.d e) tb (ix2 (g := FrTape.d) ie) R (r_alloc tb R R R R R (q_asgD R (q_stE _ _ tb R (ev_endX ?_)))))
  with_reducible apply thenx_norm
  with_reducible apply swx_seq
  with_reducible apply swx_seq
  with_reducible apply swx_rg
  with_reducible apply rgx_ev
  refine q_ldD (y := FrFormat.d t) tb R (q_ldD (y := FrTape.d e) tb R ?_)
  obtain ⟨rv2, hrv2, h⟩ := bnd h
  refine r_call (frame_tape_pc hrv2) (.of (by kernel_rfl)) R R R R (q_asgD R (ev_endX ?_))
  with_reducible apply thenx_norm
  with_reducible apply swx_seq
  with_reducible apply swx_rg
  with_reducible apply rgx_ev
  refine q_movD R ?_
  refine r_neq R R R R ?_ ?_
  ·intro c4
   replace h := ifN c4 h
   refine ev_endX ?_
   with_reducible apply thenx_norm
   refine swx_condT R ?_
   with_reducible apply swx_seq
   with_reducible apply swx_rg
   with_reducible apply rgx_ev
   refine q_movD R (q_asgD R (q_asgD R (ev_endX ?_)))
   with_reducible apply thenx_norm
   refine SWX.own (ts' := [(4, .row 2 5 0 (([] : List FrReport)).length), (5, .d (vI rv2))]) (L' := [some ⟨4, [.d (FrFormat.d t)]⟩, some ⟨2, [.d (FrTape.d e)]⟩]) 5 R R (.cons .nil (.cons (.same _) .nil)) (.same (.same .nil)) ?_
   simp only [List.cons_append, List.nil_append]
   with_reducible apply swx_ret
   with_reducible apply thenx_ret
   with_reducible apply blockx_ret
   with_reducible apply thenx_ret
   with_reducible apply thenx_ret
   with_reducible apply blockx_ret
   with_reducible apply thenx_ret
   obtain rfl := sI h
   exact f2 [2] (.row R .nil) R (.cons (.tmp 4) (.cons (.tmp 5) .nil)) R
  intro c4
  replace h := ifP c4 h
  refine ev_endX ?_
  with_reducible apply thenx_norm
  refine swx_condF R ?_
  with_reducible apply swx_skip
  with_reducible apply thenx_norm
  with_reducible apply swx_seq
  with_reducible apply swx_rg
  with_reducible apply rgx_ev
  refine q_ldD (y := FrFormat.d t) tb R (q_ldD (y := FrTape.d e) tb R ?_)
  obtain ⟨rv3, hrv3, h⟩ := bnd h
  refine r_callN (t' := .tup [.row 2 3 0 (rv3.1).length, .row 3 1 0 (rv3.2.1).length, .d (vI rv3.2.2)]) (news' := [(lFrFramed rv3.1), (lvI rv3.2.1)]) (frame_read_scr hrv3) (.of (by kernel_rfl)) R R R ((.row (.row .nil))) R R R (r_movT (.tup [.row 2 3 0 (rv3.1).length, .row 3 1 0 (rv3.2.1).length, .d (vI rv3.2.2)]) R R R (r_ext (t := .row 2 3 0 (rv3.1).length) R R R R (r_ext (t := .row 3 1 0 (rv3.2.1).length) R R R R (r_ext (t := .d (vI rv3.2.2)) R R R R (r_asgW R R R (r_asgW R R R ?_))))))
  refine q_asgD R (ev_endX ?_)
  with_reducible apply thenx_norm
  with_reducible apply swx_seq
  with_reducible apply swx_seq
  with_reducible apply swx_rg
  with_reducible apply rgx_ev
  refine q_movD R ?_
  refine r_neq R R R R ?_ ?_
  ·intro c5
   replace h := ifN c5 h
   refine ev_endX ?_
   with_reducible apply thenx_norm
   refine swx_condT R ?_
   with_reducible apply swx_seq
   with_reducible apply swx_rg
   with_reducible apply rgx_ev
   refine q_movD R (q_asgD R (q_asgD R (ev_endX ?_)))
   with_reducible apply thenx_norm
   refine SWX.own (ts' := [(4, .row 4 5 0 (([] : List FrReport)).length), (5, .d (vI rv3.2.2))]) (L' := [some ⟨4, [.d (FrFormat.d t)]⟩, some ⟨2, [.d (FrTape.d e)]⟩, some (lFrFramed rv3.1), some (lvI rv3.2.1)]) 5 R R (.cons .nil (.cons (.same _) .nil)) (.same (.same (.same (.same .nil)))) ?_
   simp only [List.cons_append, List.nil_append]
   with_reducible apply swx_ret
   with_reducible apply thenx_ret
   with_reducible apply blockx_ret
   with_reducible apply thenx_ret
   with_reducible apply thenx_ret
   with_reducible apply blockx_ret
   with_reducible apply thenx_ret
   obtain rfl := sI h
   exact f2 [4] (.row R .nil) R (.cons (.tmp 4) (.cons (.tmp 5) .nil)) R
  intro c5
  replace h := ifP c5 h
  refine ev_endX ?_
  with_reducible apply thenx_norm
  refine swx_condF R ?_
  with_reducible apply swx_skip
  with_reducible apply thenx_norm
  with_reducible apply swx_seq
  with_reducible apply swx_rg
  with_reducible apply rgx_ev
  refine r_movW R R R (r_lenR tb R R R R R (q_movD R (ev_endX ?_)))
  with_reducible apply thenx_norm
  with_reducible apply swx_block
  obtain ⟨K2, hK2, h⟩ : ∃ K, K = _ ∧ frame_Merge_L1 F x rv3 K F 0 A = some r := ⟨_, rfl, h⟩
  refine swx_loopS (st0 := ⟨[(2, .ref 0 4 0 0), (4, .d (.v (.slice none 0 0))), (5, .d (vI rv2)), (6, .d (.v (.map (some bm)))), (7, .d (vI x)), (10, .row 1 1 0 (rv3.2.1).length), (31, .d (.arr 2 ((o).map FrTape.d))), (32, .d (vI (o.length : Int))), (33, .d (vI x)), (54, .row 2 3 0 (rv3.1).length), (55, .d (vI (rv3.1.length : Int))), (56, .d (vI 0))], [some ⟨4, [.d (FrFormat.d t)]⟩, some (lvI rv3.2.1), some (lFrFramed rv3.1)]⟩) (fun m gx st => ∃ (x2 : Int) (A2 : KL), frame_Merge_L1 F x rv3 K2 m x2 A2 = some r ∧ gx = Gh.mp bm A2 ∧ st = ⟨[(2, .ref 0 4 0 0), (4, .d (.v (.slice none 0 0))), (5, .d (vI rv2)), (6, .d (.v (.map (some bm)))), (7, .d (vI x)), (10, .row 1 1 0 (rv3.2.1).length), (31, .d (.arr 2 ((o).map FrTape.d))), (32, .d (vI (o.length : Int))), (33, .d (vI x)), (54, .row 2 3 0 (rv3.1).length), (55, .d (vI (rv3.1.length : Int))), (56, .d (vI x2))], [some ⟨4, [.d (FrFormat.d t)]⟩, some (lvI rv3.2.1), some (lFrFramed rv3.1)]⟩) (.vw (κ := [0, 3, 2]) (vK (.cons R R (.row R (.row R .nil))) R)) ⟨0, A, h, R, R⟩ ?_
  clear h
  rintro m2 gx st ⟨x2, A2, h, rfl, rfl⟩
  cases m2 with
  | zero => cases (show (none : Option ((List FrReport) × Int)) = some r from h)
  | succ m2 =>
  rw [frame_Merge_L1] at h
  with_reducible apply swx_seq
  with_reducible apply swx_rg
  with_reducible apply rgx_ev
  refine r_lss R R R R ?_ ?_
  ·intro c6
   replace h := ifP c6 h
   refine ev_endX ?_
   with_reducible apply thenx_norm
   with_reducible apply swx_seq
   refine swx_condT R ?_
   with_reducible apply swx_skip
   with_reducible apply thenx_norm
   with_reducible apply swx_seq
   with_reducible apply swx_block
   with_reducible apply swx_seq
   with_reducible apply swx_rg
   with_reducible apply rgx_ev
   refine q_movD R ?_
   obtain ⟨e2, ie2, h⟩ := bnd h
   refine r_ixI tb R R R R R R (ix0 ie2) (ix1 ie2) R R ?_
   refine r_ldD (y := FrFrame.d e2) tb R R R R (ix2 (g := fun a => T.d (FrFrame.d a)) ie2) R R R R ?_
   refine r_alloc tb R R R R R (q_asgD R (q_stE _ _ tb R (ev_endX ?_)))
   with_reducible apply thenx_norm
   with_reducible apply swx_seq
   with_reducible apply swx_rg
   with_reducible apply rgx_ev
   refine r_movW R R R (q_movD R ?_)
   obtain ⟨e3, ie3, h⟩ := bnd h
   refine r_ixI tb R R R R R R (ix0 ie3) (ix1 ie3) R R ?_
   refine r_ldD (y := vI e3) tb R R R R (ix2 (g := fun a => T.d (vI a)) ie3) R R R R ?_
   refine r_buildA (v := .d (.agg [vI e3, vI 0, vI 0, vI 0, vI 0, vI 0, vI 0, vI 0, vI 0, vI 0, vI 0, vI 0, vI 0, vI 0, vI 0, vI 0, vI 0, vI 0, vI 0, vI 0, vI 0, vI 0, vI 0, vI 0, vI 0, vI 0, vI 0, vI 0, vI 0, vI 0, vI 0, vI 0, vI 0])) tb R R R R R R R R R ?_
   refine ev_x ?_
   refine rgx_kalloc (k0 := List.replicate 33 0) (tb.ok _ _ R) R R fun bk => ?_
   with_reducible apply rgx_ev
   refine ev_x (rgx_kstore (k' := (e3 :: List.replicate 32 0)) (tb.ok _ _ R) R R R R ?_)
   with_reducible apply rgx_ev
   refine ev_endX ?_
   with_reducible apply thenx_norm
   with_reducible apply swx_seq
   refine swx_drL (by kernel_rfl) (r_kslice tb R R R R R R R R R (q_fa tb R (q_ldD (y := .arr 1 ((e2.words).map vI)) tb R ?_)))
   (refine ev_dl (by kernel_rfl) (by kernel_rfl) ?_)
   refine rgx_kcopy (v := e2.words) (tb.ok _ _ R) R (by kernel_rfl) R R R R ?_
   with_reducible apply rgx_nil
   with_reducible apply thenx_norm
   with_reducible apply swx_rg
   with_reducible apply rgx_ev
   refine q_movD R (ev_x (rgx_kload (tb.ok _ _ R) R (keyF_len _ _ _) R R ?_))
   with_reducible apply rgx_ev
   refine q_movD R (r_bslice tb R R R R R R R R R R R R R ?_)
   by_cases c7 : keyB 33 (keyF 32 e3 e2.words) = true
   rotate_left
   ·cases (if_neg c7).symm.trans h
   replace h := ifP c7 h
   refine ev_x ?_
   with_reducible apply rgx_unkey
   refine rgx_entry (k := (keyF 32 e3 e2.words)) key_law R (fun _ => rfl) R R (key_ok c7) R R ?_
   with_reducible apply rgx_ev
   refine r_ext (t := .row 5 1 0 ((kget A2 (keyF 32 e3 e2.words))).length) R R R R ?_
   obtain ⟨q, iq, h⟩ := bnd h
   refine r_apM (g := vI) (w := (kget A2 (keyF 32 e3 e2.words))) (v := [x]) ([some ⟨4, [.d (FrFormat.d t)]⟩, some (lvI rv3.2.1), some (lFrFramed rv3.1), some ⟨3, [.d (FrFrame.d e2)]⟩, some (lvI [x]), none]) tb R R R R R R R R R R R iq R R R R R (r_ext (t := .d (vI (kidx A2 (keyF 32 e3 e2.words) : Int))) R R R R (ev_x ?_))
   refine rgx_estore (k := (keyF 32 e3 e2.words)) (lst := kget A2 (keyF 32 e3 e2.words)) (l' := q) [some ⟨4, [.d (FrFormat.d t)]⟩, some (lvI rv3.2.1), some (lFrFramed rv3.1), some ⟨3, [.d (FrFrame.d e2)]⟩, some (lvI [x]), none, none] R R R R R (kadd_self _ _) R ?_
   with_reducible apply rgx_ev
   refine ev_endX ?_
   with_reducible apply blockx_norm
   with_reducible apply thenx_norm
   with_reducible apply swx_rg
   with_reducible apply rgx_ev
   refine q_add R (q_movD R (ev_endX ?_))
   with_reducible apply thenx_norm
   exact ⟨m2, ⟨[(2, .ref 0 4 0 0), (4, .d (.v (.slice none 0 0))), (5, .d (vI rv2)), (6, .d (.v (.map (some bm)))), (7, .d (vI x)), (10, .row 1 1 0 (rv3.2.1).length), (31, .d (.arr 2 ((o).map FrTape.d))), (32, .d (vI (o.length : Int))), (33, .d (vI x)), (54, .row 2 3 0 (rv3.1).length), (55, .d (vI (rv3.1.length : Int))), (56, .d (vI (W (x2 + 1))))], [some ⟨4, [.d (FrFormat.d t)]⟩, some (lvI rv3.2.1), some (lFrFramed rv3.1)]⟩, Nat.lt_succ_self _, .vw (κ := [0, 1, 2]) (vK (.cons R R (.row R (.row R .nil))) R), (W (x2 + 1)), (kput A2 (keyF 32 e3 e2.words) q), h, R, R⟩
  intro c6
  replace h := ifN (Int.not_lt.2 c6) h
  refine ev_endX ?_
  with_reducible apply thenx_norm
  with_reducible apply swx_seq
  refine swx_condF R ?_
  with_reducible apply swx_exit
  with_reducible apply thenx_exit
  with_reducible apply thenx_exit
  subst hK2
  with_reducible apply blockx_exit
  with_reducible apply blockx_norm
  with_reducible apply thenx_norm
  with_reducible apply swx_rg
  with_reducible apply rgx_ev
  refine q_add R (q_movD R (ev_endX ?_))
  with_reducible apply thenx_norm
  exact ⟨m1, ⟨[(2, .ref 0 4 0 0), (4, .d (.v (.slice none 0 0))), (5, .d (vI rv2)), (6, .d (.v (.map (some bm)))), (31, .d (.arr 2 ((o).map FrTape.d))), (32, .d (vI (o.length : Int))), (33, .d (vI (W (x + 1))))], [some ⟨4, [.d (FrFormat.d t)]⟩]⟩, Nat.lt_succ_self _, .vw (κ := [0]) (vK (.cons R R .nil) R), rv2, (W (x + 1)), A2, h, R, R⟩
 intro c3
 replace h := ifN (Int.not_lt.2 c3) h
 refine ev_endX ?_
 with_reducible apply thenx_norm
 with_reducible apply swx_seq
 refine swx_condF R ?_
 with_reducible apply swx_exit
 with_reducible apply thenx_exit
 with_reducible apply thenx_exit
 subst hK1
 with_reducible apply blockx_exit
 with_reducible apply thenx_norm
 with_reducible apply swx_seq
 with_reducible apply swx_seq
 with_reducible apply swx_rg
 with_reducible apply rgx_ev
 refine q_movD R (ev_x ?_)
 refine rgx_range R R R fun it => ?_
 with_reducible apply rgx_ev
 refine ev_endX ?_
 with_reducible apply thenx_norm
 with_reducible apply swx_block
 by_cases hAl : A.length ≤ 1000000000
 rotate_left
 ·cases (if_neg hAl).symm.trans h
 replace h := ifP hAl h
 obtain ⟨q3, hq, h⟩ := bnd h
 obtain ⟨q2, hq0, hq1⟩ := Option.bind_eq_some_iff.1 hq
 refine SWX.own (ts' := [(2, .ref 0 4 0 0), (4, .row 1 5 0 (([] : List FrReport)).length), (5, .d (vI a)), (81, .d (.v (.pointer (some ⟨it, 0, none⟩))))]) (L' := [some ⟨4, [.d (FrFormat.d t)]⟩]) 5 R R (.cons (.same _) (.cons .nil (.cons (.same _) (.cons (.same _) .nil)))) (.same .nil) ?_
 simp only [List.cons_append, List.nil_append]
 refine swx_loopS (fun m gx st => ∃ (S : List Nat) (rs : List FrReport), gx = Gh.it bm it A S ∧ S.Nodup ∧ (∀ i ∈ S, i < A.length) ∧ HS (frame_Merge_R F t) A S rs ∧ m = A.length - S.length ∧ st = ⟨[(2, .ref 0 4 0 0), (4, .row 1 5 0 (rs).length), (5, .d (vI a)), (81, .d (.v (.pointer (some ⟨it, 0, none⟩))))], [some ⟨4, [.d (FrFormat.d t)]⟩, some (lFrReportd rs)]⟩) (.prn [2, 4, 5, 81] R) ⟨[], [], R, List.nodup_nil, (fun _ h => nomatch h), HS.nil, R, R⟩ ?_
 rintro m gx st ⟨S, rs, rfl, hnd, hSb, hHS, rfl, rfl⟩
 with_reducible apply swx_seq
 with_reducible apply swx_rg
 with_reducible apply rgx_ev
 refine ev_x ?_
 refine rgx_next R R (fun i hi hS => ?_) (fun hall => ?_)
 ·with_reducible apply rgx_ev
  obtain ⟨⟨kx, lx⟩, hp⟩ : ∃ p, A[i]? = some p := ⟨_, List.getElem?_eq_getElem hi⟩
  obtain ⟨b, hb⟩ := hrg_at hq0 hp
  have hlt := nodup_lt hnd hSb hi hS
  have h := frame_Merge_of hb (rs := rs) (by have := hHS.len; omega)
  refine r_ext (t := .d (.v (.bool true))) R R R R (ev_endX ?_)
  with_reducible apply thenx_norm
  with_reducible apply swx_seq
  refine swx_condT R ?_
  with_reducible apply swx_skip
  with_reducible apply thenx_norm
  with_reducible apply swx_block
  with_reducible apply swx_seq
  with_reducible apply swx_rg
  with_reducible apply rgx_ev
  refine ev_x (rgx_mentry (p := (kx, lx)) R hp R ?_)
  show RgX _ _ _ _ _ _ _ _ _ _ ⟨(84, .d (.tup [.agg (intsD kx), .arr 1 (lx.map vI)])) :: _, _⟩
  with_reducible apply rgx_ev
  refine r_extD (t := .agg (intsD kx)) R R R R (r_extD (t := .arr 1 ((lx).map vI)) R R R R ?_)
  by_cases c8 : kx.length = 33
  rotate_left
  ·cases (if_neg c8).symm.trans h
  replace h := ifP c8 h
  refine ev_x ?_
  refine rgx_keybox (k := kx) (k0 := List.replicate 33 0) (tb.ok _ _ R) R (by rw [c8]; rfl) (by rw [c8]) R R (fun e => by cases e) ?_
  with_reducible apply rgx_ev
  refine q_asgD R (ev_endX ?_)
  with_reducible apply thenx_norm
  with_reducible apply swx_of
  refine sw_dr (by kernel_rfl) (r_movW R R R (r_ixEl tb R R R R R R R R ?_))
  obtain ⟨e4, ie4, h⟩ := bnd h
  refine r_ldK tb R R R R ie4 R R (q_movD R ?_)
  obtain ⟨e5, ie5, h⟩ := bnd h
  refine q_ixE tb (ix0 ie5) (ix1m ie5) R (q_ldE (y := vI e5) tb (ix2 (g := vI) ie5) R (q_movD R (q_lenM tb R (q_fa tb R (q_ldD (y := vI t.words) tb R (q_add R ?_))))))
  obtain ⟨q4, iq4, h⟩ := bnd h
  refine r_slEl (w := q4) tb R R R R R R R R iq4 R R ?_
  show EvK _ _ _ _ ⟨(98, .d (.arr 1 (q4.map vI))) :: _, _⟩ _ _
  obtain ⟨rv4, hrv4, h⟩ := bnd h
  refine r_call (slices_Clone_int_pc hrv4) (.of (by kernel_rfl)) R R R R (r_build (v := .d (.agg [vI e4, vI e5, vI (lx.length : Int), .v (.bool false), .arr 1 ((rv4).map vI)])) tb R R (List.cons_ne_nil _ _) R R R R R R (r_bslice tb R R R R R R R R R R R R R ?_))
  obtain ⟨q5, iq5, h⟩ := bnd h
  refine r_apM (g := FrReport.d) (w := rs) (v := [(FrReport.mk e4 e5 (lx.length : Int) false rv4)]) ([some ⟨4, [.d (FrFormat.d t)]⟩, none, some (lFrReportd [(FrReport.mk e4 e5 (lx.length : Int) false rv4)])]) tb R R R R R R R R R R R iq5 R R R R R (r_asgW R R R (ev_endD (by kernel_rfl) ?_))
  with_reducible apply blockx_norm
  with_reducible apply thenx_norm
  have hqe := Option.some.inj h
  exact ⟨_, ⟨[(2, .ref 0 4 0 0), (4, .row 1 5 0 (q5).length), (5, .d (vI a)), (81, .d (.v (.pointer (some ⟨it, 0, none⟩))))], [some ⟨4, [.d (FrFormat.d t)]⟩, some (lFrReportd q5)]⟩, (by simp only [List.length_append, List.length_singleton]; omega : _ < _), .vw (κ := [0, 3]) (vK (.cons R R (.row R .nil)) R), S ++ [i], _, R, nodup_add hnd hS, (fun j hj => (List.mem_append.1 hj).elim (hSb j) fun e => by rw [List.mem_singleton.1 e]; exact hi), (by rw [hqe]; exact hHS.add hp hb), R, R⟩
 with_reducible apply rgx_ev
 have hsrt := srt_perm rpLt_as hq1 (hHS.perm hnd hSb hall hq0)
 refine r_extD (t := .v (.bool false)) R R R R (ev_endX ?_)
 with_reducible apply thenx_norm
 with_reducible apply swx_seq
 refine swx_condF R ?_
 with_reducible apply swx_exit
 with_reducible apply thenx_exit
 with_reducible apply thenx_exit
 with_reducible apply blockx_exit
 with_reducible apply thenx_norm
 with_reducible apply swx_seq
 with_reducible apply swx_rg
 with_reducible apply rgx_ev
 refine r_movW R R R ?_
 have hlen : rs.length = q3.length := srt_len hsrt
 refine r_callO (t' := .d (.tup [])) (ls := [some (lFrReportd q3)]) (news := []) ([1]) ([some ⟨4, [.d (FrFormat.d t)]⟩, some (lFrReportd q3)]) (frame_sort_scr hsrt) (.of (by kernel_rfl)) R (.inl ⟨R, R, R⟩) R R R R ((.row R .nil)) R R R ((.row .nil)) .nil R R R R ?_
 first | rw [hlen] | skip
 refine ev_endX ?_
 with_reducible apply thenx_norm
 with_reducible apply swx_seq
 with_reducible apply swx_seq
 with_reducible apply swx_rg
 with_reducible apply rgx_ev
 refine r_movW R R R (r_lenR tb R R R R R (q_movD R (ev_endX ?_)))
 with_reducible apply thenx_norm
 with_reducible apply swx_block
 obtain ⟨K3, hK3, h⟩ : ∃ K, K = _ ∧ frame_Merge_L2 F K F q3 (q3.length : Int) 0 = some r := ⟨_, rfl, h⟩
 refine swx_loopS (st0 := ⟨[(4, .row 0 5 0 (q3).length), (5, .d (vI a)), (106, .d (vI (q3.length : Int))), (107, .d (vI 0))], [some (lFrReportd q3)]⟩) (fun m gx st => ∃ (rv5 : (List FrReport)) (x3 : Int) (x4 : Int), frame_Merge_L2 F K3 m rv5 x3 x4 = some r ∧ gx = Gh.it bm it A S ∧ st = ⟨[(4, .row 0 5 0 (rv5).length), (5, .d (vI a)), (106, .d (vI x3)), (107, .d (vI x4))], [some (lFrReportd rv5)]⟩) (.vw (κ := [1]) (vK (.row R .nil) R)) ⟨q3, (q3.length : Int), 0, h, R, R⟩ ?_
 clear h
 rintro m3 gx st ⟨rv5, x3, x4, h, rfl, rfl⟩
 cases m3 with
 | zero => cases (show (none : Option ((List FrReport) × Int)) = some r from h)
 | succ m3 =>
 rw [frame_Merge_L2] at h
 with_reducible apply swx_seq
 with_reducible apply swx_rg
 with_reducible apply rgx_ev
 refine r_lss R R R R ?_ ?_
 ·intro c9
  replace h := ifP c9 h
  refine ev_endX ?_
  with_reducible apply thenx_norm
  with_reducible apply swx_seq
  refine swx_condT R ?_
  with_reducible apply swx_skip
  with_reducible apply thenx_norm
  with_reducible apply swx_seq
  with_reducible apply swx_block
  with_reducible apply swx_seq
  with_reducible apply swx_rg
  with_reducible apply rgx_ev
  refine q_movD R (q_asgD R (ev_endX ?_))
  with_reducible apply thenx_norm
  with_reducible apply swx_of
  refine sw_dr (by kernel_rfl) (r_movW R R R (q_movD R (q_movD R (q_add R (r_movW R R R (r_lenR tb R R R R R ?_))))))
  refine r_lss R R R R ?_ ?_
  ·intro c10
   replace h := ifP c10 h
   refine q_movD R (r_movW R R R (q_movD R (q_add R ?_)))
   obtain ⟨e6, ie6, h⟩ := bnd h
   refine r_ixI tb R R R R R R (ix0 ie6) (ix1 ie6) R R (q_fa tb R ?_)
   refine r_ldD (y := vI e6.number) tb R R R R (ix2 (g := fun a => T.d (FrReport.d a)) ie6) R R R R ?_
   refine r_movW R R R (q_movD R ?_)
   obtain ⟨e7, ie7, h⟩ := bnd h
   refine r_ixI tb R R R R R R (ix0 ie7) (ix1 ie7) R R (q_fa tb R ?_)
   refine r_ldD (y := vI e7.number) tb R R R R (ix2 (g := fun a => T.d (FrReport.d a)) ie7) R R R R ?_
   refine r_eqlV R R R R (q_pickT R (r_ixI tb R R R R R R (ix0 ie7) (ix1 ie7) R R (q_fa tb R ?_)))
   obtain ⟨rv6, irv6, h⟩ := bnd h
   refine r_stQ (a' := ({e7 with marked := (decide (e6.number = e7.number))} : FrReport)) tb R R R R ie7 R R R R irv6 R R ?_
   dsimp only [List.set_cons_zero, List.set_cons_succ]
   first | rw [set_len irv6] | skip
   refine ev_endD (by kernel_rfl) ?_
   with_reducible apply blockx_norm
   with_reducible apply thenx_norm
   with_reducible apply swx_rg
   with_reducible apply rgx_ev
   refine q_add R (q_movD R (ev_endX ?_))
   with_reducible apply thenx_norm
   exact ⟨m3, _, Nat.lt_succ_self _, .prn [4, 5, 106, 107] R, rv6, x3, (W (x4 + 1)), h, R, R⟩
  intro c10
  replace h := ifN (Int.not_lt.2 c10) h
  refine q_movD R (q_sk 12 R (q_pickF R ?_))
  obtain ⟨e8, ie8, h⟩ := bnd h
  refine r_ixI tb R R R R R R (ix0 ie8) (ix1 ie8) R R (q_fa tb R ?_)
  obtain ⟨rv7, irv7, h⟩ := bnd h
  refine r_stQ (a' := ({e8 with marked := false} : FrReport)) tb R R R R ie8 R R R R irv7 R R ?_
  dsimp only [List.set_cons_zero, List.set_cons_succ]
  first | rw [set_len irv7] | skip
  refine ev_endD (by kernel_rfl) ?_
  with_reducible apply blockx_norm
  with_reducible apply thenx_norm
  with_reducible apply swx_rg
  with_reducible apply rgx_ev
  refine q_add R (q_movD R (ev_endX ?_))
  with_reducible apply thenx_norm
  exact ⟨m3, _, Nat.lt_succ_self _, .prn [4, 5, 106, 107] R, rv7, x3, (W (x4 + 1)), h, R, R⟩
 intro c9
 replace h := ifN (Int.not_lt.2 c9) h
 refine ev_endX ?_
 with_reducible apply thenx_norm
 with_reducible apply swx_seq
 refine swx_condF R ?_
 with_reducible apply swx_exit
 with_reducible apply thenx_exit
 with_reducible apply thenx_exit
 subst hK3
 with_reducible apply blockx_exit
 with_reducible apply thenx_norm
 with_reducible apply swx_seq
 with_reducible apply swx_rg
 with_reducible apply rgx_ev
 refine r_movW R R R ?_
 obtain ⟨rv8, hrv8, h⟩ := bnd h
 obtain ⟨u, hu, h⟩ := bnd h
 refine r_callO (t' := .row 0 5 0 (rv8.1).length) (ls := [some (lFrReportd rv8.2)]) (news := []) ([0]) ([some (lFrReportd rv8.2)]) (slices_CompactFunc_FrReport_m_frame_Merge_2_scr hrv8) (.of (by kernel_rfl)) R (.inl ⟨R, R, R⟩) R R R R ((.row R .nil)) R R R ((.row .nil)) .nil R R R R ?_
 first | rw [← lnO_eq hu] | skip
 refine r_asgW R R R (q_asgD R (ev_endX ?_))
 with_reducible apply thenx_norm
 obtain ⟨q6, hq6, h⟩ := bnd h
 refine SWX.trim (w := rv8.2) (q := q6) (a := rv8.1) 0 5 R R hq6 R ?_
 first | rw [pre_len hq6] | skip
 with_reducible apply swx_ret
 obtain rfl := sI h
 exact f2 [0] (.row R .nil) R (.cons (.tmp 4) (.cons (.tmp 5) .nil)) R
theorem frame_Merge_pc {F : Nat} {t : FrFormat} {o : (List FrTape)} {r : ((List FrReport) × Int)} (h : frame_Merge F t o = some r) : PC Try.prog 47 [FrFormat.d t, .arr 2 ((o).map FrTape.d)] (.tup [.arr 5 ((r.1).map FrReport.d), .v (.int .i64 r.2)]) := (frame_Merge_scr h).toPC (.tupL (.cons (.row rfl rfl) (.cons (.d _) .nil)))
def hangfirelaw09_Awake (F : Nat)  : Option Bool := some true
theorem hangfirelaw09_Awake_pc {F : Nat}  {r : Bool} (h : hangfirelaw09_Awake F  = some r) : PC Try.prog 21 [] (.v (.bool r)) := by
 cases h; exact pc_of_any rfl awake_any

def hangfirelaw09_Sent_numbers_L1 (F : Nat) (x : Sent) (K : (List Int) → Int → Int → Option ((List Int) × Bool)) : Nat → (List Int) → Int → Int → Option ((List Int) × Bool)
 | 0, _, _, _ => none
 | n + 1, out, nv, i => if i < (x.steps.length : Int) then (Option.bind (ixO x.steps i) fun e => Option.bind (appO out [(W (nv + (W e)))]) fun q => hangfirelaw09_Sent_numbers_L1 F x K n q (W ((W (nv + (W e))) + 1)) (W (i + 1))) else (K out nv i)
def hangfirelaw09_Sent_numbers (F : Nat) (x : Sent) : Option ((List Int) × Bool) := if x.first < 0 then (some (([] : List Int), false)) else (if 1000000 < x.first then (some (([] : List Int), false)) else (hangfirelaw09_Sent_numbers_L1 F x (fun (out : (List Int)) (nv : Int) (i : Int) => some (out, (decide ((W (nv - 1)) ≤ 1000000)))) F ([] : List Int) x.first 0))
theorem hangfirelaw09_Sent_numbers_scr {F : Nat} {x : Sent} {r : ((List Int) × Bool)} (h : hangfirelaw09_Sent_numbers F x = some r) : SCR Try.prog 42 (List.map T.d [Sent.d x]) [] (.tup [.row 0 1 0 (r.1).length, .d (.v (.bool r.2))]) (List.map some [(lvI r.1)]) := by
 rw [hangfirelaw09_Sent_numbers] at h
 refine SC.of_sw Try.func42 R R R ?_
 dsimp only [argS, List.map]
 refine qG (q_box R (q_asgD R (q_asgD R (eN (sw_seq (qG (q_fa tb R (q_ldD (y := vI x.first) tb R ?_))))))))
 refine r_lss R R R R ?_ ?_
 ·intro c
  replace h := ifP c h
  refine q_movD R (q_sk 3 R (q_pickT R (eN (sw_condT R (qG (q_asgD R (q_asgD R (eN ?_))))))))
  refine SW.own (ts' := [(2, .row 1 1 0 (([] : List Int)).length), (3, .d (.v (.bool false)))]) (L' := [some ⟨3, [.d (Sent.d x)]⟩]) 1 R R (.cons .nil (.cons (.same _) .nil)) (.same .nil) ?_
  simp only [List.cons_append, List.nil_append]
  refine sw_ret (then_ret ?_)
  obtain rfl := sI h
  exact f2 [1] (.row R .nil) R (.cons (.tmp 2) (.cons (.tmp 3) .nil)) R
 intro c
 replace h := ifN (Int.not_lt.2 c) h
 refine q_movD R (q_fa tb R (q_ldD (y := vI x.first) tb R ?_))
 refine r_gtr R R R R ?_ ?_
 ·intro c2
  replace h := ifP c2 h
  refine q_pickF R (eN (sw_condT R (qG (q_asgD R (q_asgD R (eN ?_))))))
  refine SW.own (ts' := [(2, .row 1 1 0 (([] : List Int)).length), (3, .d (.v (.bool false)))]) (L' := [some ⟨3, [.d (Sent.d x)]⟩]) 1 R R (.cons .nil (.cons (.same _) .nil)) (.same .nil) ?_
  simp only [List.cons_append, List.nil_append]
  refine sw_ret (then_ret ?_)
  obtain rfl := sI h
  exact f2 [1] (.row R .nil) R (.cons (.tmp 2) (.cons (.tmp 3) .nil)) R
 intro c2
 replace h := ifN (Int.not_lt.2 c2) h
 refine q_pickF R (eN (sw_condF R (sw_skip (then_norm (qG (q_asgD R (eN (qG (q_fa tb R (q_ldD (y := vI x.first) tb R (q_asgD R (eN (sw_seq (qG (q_asgD R (eN (sw_block ?_)))))))))))))))))
 refine SW.own (ts' := [(1, .ref 0 3 0 0), (2, .d (.v (.slice none 0 0))), (3, .d (.v (.bool false))), (4, .row 1 1 0 (([] : List Int)).length), (5, .d (vI x.first)), (6, .d (vI 0))]) (L' := [some ⟨3, [.d (Sent.d x)]⟩]) 1 R R (.cons (.same _) (.cons (.same _) (.cons (.same _) (.cons .nil (.cons (.same _) (.cons (.same _) .nil)))))) (.same .nil) ?_
 simp only [List.cons_append, List.nil_append]
 obtain ⟨K1, hK1, h⟩ : ∃ K, K = _ ∧ hangfirelaw09_Sent_numbers_L1 F x K F ([] : List Int) x.first 0 = some r := ⟨_, rfl, h⟩
 refine sw_loopS (fun m st => ∃ (out : (List Int)) (nv : Int) (i : Int), hangfirelaw09_Sent_numbers_L1 F x K1 m out nv i = some r ∧ st = ⟨[(1, .ref 0 3 0 0), (2, .d (.v (.slice none 0 0))), (3, .d (.v (.bool false))), (4, .row 1 1 0 (out).length), (5, .d (vI nv)), (6, .d (vI i))], [some ⟨3, [.d (Sent.d x)]⟩, some (lvI out)]⟩) (.prn [1, 2, 3, 4, 5, 6] R) ⟨([] : List Int), x.first, 0, h, R⟩ ?_
 clear h
 rintro m1 st ⟨out, nv, i, h, rfl⟩
 cases m1 with
 | zero => cases (show (none : Option ((List Int) × Bool)) = some r from h)
 | succ m1 =>
 rw [hangfirelaw09_Sent_numbers_L1] at h
 refine sw_seq (qG (q_movD R (q_fa tb R (q_ldD (y := .arr 1 ((x.steps).map v8)) tb R (q_lenM tb R ?_)))))
 refine r_lss R R R R ?_ ?_
 ·intro c3
  replace h := ifP c3 h
  refine eN (sw_condT R (sw_skip (then_norm (sw_seq (sw_block (qG (q_movD R (q_fa tb R (q_ldD (y := .arr 1 ((x.steps).map v8)) tb R (q_movD R ?_))))))))))
  obtain ⟨e, ie, h⟩ := bnd h
  refine q_ixE tb (ix0 ie) (ix1m ie) R (q_ldE (y := .v (.int .u8 e)) tb (ix2 (g := v8) ie) R (r_cvI (k2 := .i64) R R R R R R (q_add R (q_asgD R (eN (qG (r_movW R R R (q_movD R (r_bslice tb R R R R R R R R R R R R R ?_)))))))))
  obtain ⟨q, iq, h⟩ := bnd h
  refine r_apM (g := vI) (w := out) (v := [(W (nv + (W e)))]) ([some ⟨3, [.d (Sent.d x)]⟩, none, some (lvI [(W (nv + (W e)))])]) tb R R R R R R R R R R R iq R R R R R (r_asgW R R R (eN (sw_rg (q_movD R (q_add R (q_asgD R (ev_end (block_norm (then_norm (sw_rg (q_movD R (q_add R (q_asgD R (eN ?_))))))))))))))
  exact ⟨m1, ⟨[(1, .ref 0 3 0 0), (2, .d (.v (.slice none 0 0))), (3, .d (.v (.bool false))), (4, .row 1 1 0 (q).length), (5, .d (vI (W ((W (nv + (W e))) + 1)))), (6, .d (vI (W (i + 1))))], [some ⟨3, [.d (Sent.d x)]⟩, some (lvI q)]⟩, Nat.lt_succ_self _, .vw (κ := [0, 3]) (vK (.cons R R (.row R .nil)) R), q, (W ((W (nv + (W e))) + 1)), (W (i + 1)), h, R⟩
 intro c3
 replace h := ifN (Int.not_lt.2 c3) h
 refine eN (sw_condF R (sw_exit (then_exit (then_exit ?_))))
 subst hK1
 refine block_exit (then_norm (qG (r_movW R R R (q_movD R (r_sub R R R R (r_leqV R R R R (r_asgW R R R (q_asgD R (eN (sw_ret ?_))))))))))
 obtain rfl := sI h
 exact f2 [1] (.row R .nil) R (.cons (.tmp 2) (.cons (.tmp 3) .nil)) R
theorem hangfirelaw09_Sent_numbers_pc {F : Nat} {x : Sent} {r : ((List Int) × Bool)} (h : hangfirelaw09_Sent_numbers F x = some r) : PC Try.prog 42 [Sent.d x] (.tup [.arr 1 ((r.1).map vI), .v (.bool r.2)]) := (hangfirelaw09_Sent_numbers_scr h).toPC (.tupL (.cons (.row rfl rfl) (.cons (.d _) .nil)))
end Go.Proofs.Ytjnnkcnnandeeaa
