/- What functions of the program compute: plain functions, and the proofs. -/
import Derived.Test.YtjnnkcnnandeeaaW0
import Derived.Deep.Cut
import Derived.Lib.QuietBelow
import Derived.Shelf.Lay
import Derived.Ground.SlsfProg
set_option linter.unusedVariables false
set_option linter.unusedSimpArgs false
open Go Go.Proofs.Ytjnnkcnnandeeaa.Sh Go.Proofs
namespace Go.Proofs.Ytjnnkcnnandeeaa
set_option maxRecDepth 100000
set_option maxHeartbeats 40000000
def wind_out (F : Nat) (nv : Int) (lo : Int) (hi : Int) : Option Bool := if nv < lo then (some true) else (some (decide (hi < nv)))
theorem wind_out_pc {F : Nat} {nv : Int} {lo : Int} {hi : Int} {r : Bool} (h : wind_out F nv lo hi = some r) : PC Try.prog 105 [.v (.int .i64 nv), .v (.int .i64 lo), .v (.int .i64 hi)] (.v (.bool r)) := by
 rw [wind_out] at h
 refine SC.of_sw Try.func105 R R R ?_
 dsimp only [argS, List.map]
 refine qG (q_asgD R (eN (qG (q_movD R (q_movD R ?_)))))
 refine r_lss R R R R ?_ ?_
 ·intro c
  replace h := ifP c h
  refine q_movD R (q_sk 3 R (q_pickT R (q_asgD R (eN (sw_ret ?_)))))
  obtain rfl := sI h
  exact f1 6 R
 intro c
 replace h := ifN (Int.not_lt.2 c) h
 refine q_movD R (q_movD R (q_movD R (r_gtrV R R R R (q_pickF R (q_asgD R (eN (sw_ret ?_)))))))
 obtain rfl := sI h
 exact f1 6 R
def wind_Name_L1 (F : Nat) (s : ByteArray) (K : Int → Option Bool) : Nat → Int → Option Bool
 | 0, _ => none
 | n + 1, x => if x < ((bytesL s).length : Int) then (Option.bind (ixO (bytesL s) x) fun e => if 97 ≤ e then (if e ≤ 122 then (wind_Name_L1 F s K n (W (x + 1))) else (if x = 0 then (some false) else (if e = 45 then (wind_Name_L1 F s K n (W (x + 1))) else (if 48 ≤ e then (if e ≤ 57 then (wind_Name_L1 F s K n (W (x + 1))) else (some false)) else (some false))))) else (if x = 0 then (some false) else (if e = 45 then (wind_Name_L1 F s K n (W (x + 1))) else (if 48 ≤ e then (if e ≤ 57 then (wind_Name_L1 F s K n (W (x + 1))) else (some false)) else (some false))))) else (K x)
def wind_Name (F : Nat) (s : ByteArray) : Option Bool := wind_Name_L1 F s (fun (x : Int) => Option.bind (wind_out F (s.size : Int) 1 24) fun rv => some (!rv)) F 0
theorem wind_Name_pc {F : Nat} {s : ByteArray} {r : Bool} (h : wind_Name F s = some r) : PC Try.prog 74 [.v (.string s)] (.v (.bool r)) := by
 rw [wind_Name] at h
 refine SC.of_sw Try.func74 R R R ?_
 dsimp only [argS, List.map]
 refine qG (q_asgD R (eN (sw_seq (qG (q_movD R (r_bytes R R R R R R (q_lenM tb R (q_movD R (eN (sw_block ?_))))))))))
 obtain ⟨K2, hK2, h⟩ : ∃ K, K = _ ∧ wind_Name_L1 F s K F 0 = some r := ⟨_, rfl, h⟩
 refine sw_loopS (fun m st => ∃ (x : Int), wind_Name_L1 F s K2 m x = some r ∧ st = ⟨[(0, .d (.v (.string s))), (2, .d (.v (.bool false))), (6, .d (.arr 1 (((bytesL s)).map v8))), (7, .d (vI ((bytesL s).length : Int))), (8, .d (vI x))], []⟩) (.prn [0, 2, 6, 7, 8] R) ⟨0, h, R⟩ ?_
 clear h
 rintro m2 st ⟨x, h, rfl⟩
 cases m2 with
 | zero => cases (show (none : Option Bool) = some r from h)
 | succ m2 =>
 rw [wind_Name_L1] at h
 refine qG ?_
 refine r_lss R R R R ?_ ?_
 ·intro c
  replace h := ifP c h
  refine eN (sw_seq (sw_condT R (sw_skip (then_norm (sw_seq (sw_block (qG (q_movD R ?_))))))))
  obtain ⟨e, ie, h⟩ := bnd h
  refine q_ixE tb (ix0 ie) (ix1m ie) R (q_ldE (y := .v (.int .u8 e)) tb (ix2 (g := v8) ie) R (q_asgD R (q_asgD R (eN (qG (q_movD R ?_))))))
  refine r_geq R R R R ?_ ?_
  ·intro c2
   replace h := ifP c2 h
   refine q_movD R (q_movD R ?_)
   refine r_leq R R R R ?_ ?_
   ·intro c3
    replace h := ifP c3 h
    refine q_pickT R (r_notT R R R (q_movD R (q_sk 15 R (q_pickF R (eN (sw_condF R (sw_skip (block_norm (then_norm (sw_rg (q_add R (q_movD R (eN ?_)))))))))))))
    exact ⟨m2, _, Nat.lt_succ_self _, .prn [0, 2, 6, 7, 8] R, (W (x + 1)), h, R⟩
   intro c3
   replace h := ifN (Int.not_le.2 c3) h
   refine q_pickT R (r_notF R R R (q_movD R (q_movD R ?_)))
   refine r_eql R R R R ?_ ?_
   ·intro c4
    replace h := ifP c4 h
    refine q_movD R (q_sk 11 R (q_pickT R (q_pickT R (eN (sw_condT R (qG (q_asgD R (eN (sw_ret (block_ret (then_ret (then_ret (block_ret (then_ret ?_))))))))))))))
    obtain rfl := sI h
    exact f1 2 R
   intro c4
   replace h := ifN c4 h
   refine q_movD R (q_movD R ?_)
   refine r_neq R R R R ?_ ?_
   ·intro c5
    replace h := ifN c5 h
    refine q_movD R (q_movD R ?_)
    refine r_geq R R R R ?_ ?_
    ·intro c6
     replace h := ifP c6 h
     refine q_movD R (q_movD R ?_)
     refine r_leq R R R R ?_ ?_
     ·intro c7
      replace h := ifP c7 h
      refine q_pickT R (r_notT R R R (q_pickT R (q_pickF R (q_pickT R (eN (sw_condF R (sw_skip (block_norm (then_norm (sw_rg (q_add R (q_movD R (eN ?_)))))))))))))
      exact ⟨m2, _, Nat.lt_succ_self _, .prn [0, 2, 6, 7, 8] R, (W (x + 1)), h, R⟩
     intro c7
     replace h := ifN (Int.not_le.2 c7) h
     refine q_pickT R (r_notF R R R (q_pickT R (q_pickF R (q_pickT R (eN (sw_condT R (qG (q_asgD R (eN (sw_ret (block_ret (then_ret (then_ret (block_ret (then_ret ?_)))))))))))))))
     obtain rfl := sI h
     exact f1 2 R
    intro c6
    replace h := ifN (Int.not_le.2 c6) h
    refine q_movD R (q_sk 2 R (q_pickF R (r_notF R R R (q_pickT R (q_pickF R (q_pickT R (eN (sw_condT R (qG (q_asgD R (eN (sw_ret (block_ret (then_ret (then_ret (block_ret (then_ret ?_)))))))))))))))))
    obtain rfl := sI h
    exact f1 2 R
   intro c5
   replace h := ifP c5 h
   refine q_movD R (q_sk 7 R (q_pickF R (q_pickF R (q_pickT R (eN (sw_condF R (sw_skip (block_norm (then_norm (sw_rg (q_add R (q_movD R (eN ?_)))))))))))))
   exact ⟨m2, _, Nat.lt_succ_self _, .prn [0, 2, 6, 7, 8] R, (W (x + 1)), h, R⟩
  intro c2
  replace h := ifN (Int.not_le.2 c2) h
  refine q_movD R (q_sk 2 R (q_pickF R (r_notF R R R (q_movD R (q_movD R ?_)))))
  refine r_eql R R R R ?_ ?_
  ·intro c8
   replace h := ifP c8 h
   refine q_movD R (q_sk 11 R (q_pickT R (q_pickT R (eN (sw_condT R (qG (q_asgD R (eN (sw_ret (block_ret (then_ret (then_ret (block_ret (then_ret ?_))))))))))))))
   obtain rfl := sI h
   exact f1 2 R
  intro c8
  replace h := ifN c8 h
  refine q_movD R (q_movD R ?_)
  refine r_neq R R R R ?_ ?_
  ·intro c9
   replace h := ifN c9 h
   refine q_movD R (q_movD R ?_)
   refine r_geq R R R R ?_ ?_
   ·intro c10
    replace h := ifP c10 h
    refine q_movD R (q_movD R ?_)
    refine r_leq R R R R ?_ ?_
    ·intro c11
     replace h := ifP c11 h
     refine q_pickT R (r_notT R R R (q_pickT R (q_pickF R (q_pickT R (eN (sw_condF R (sw_skip (block_norm (then_norm (sw_rg (q_add R (q_movD R (eN ?_)))))))))))))
     exact ⟨m2, _, Nat.lt_succ_self _, .prn [0, 2, 6, 7, 8] R, (W (x + 1)), h, R⟩
    intro c11
    replace h := ifN (Int.not_le.2 c11) h
    refine q_pickT R (r_notF R R R (q_pickT R (q_pickF R (q_pickT R (eN (sw_condT R (qG (q_asgD R (eN (sw_ret (block_ret (then_ret (then_ret (block_ret (then_ret ?_)))))))))))))))
    obtain rfl := sI h
    exact f1 2 R
   intro c10
   replace h := ifN (Int.not_le.2 c10) h
   refine q_movD R (q_sk 2 R (q_pickF R (r_notF R R R (q_pickT R (q_pickF R (q_pickT R (eN (sw_condT R (qG (q_asgD R (eN (sw_ret (block_ret (then_ret (then_ret (block_ret (then_ret ?_)))))))))))))))))
   obtain rfl := sI h
   exact f1 2 R
  intro c9
  replace h := ifP c9 h
  refine q_movD R (q_sk 7 R (q_pickF R (q_pickF R (q_pickT R (eN (sw_condF R (sw_skip (block_norm (then_norm (sw_rg (q_add R (q_movD R (eN ?_)))))))))))))
  exact ⟨m2, _, Nat.lt_succ_self _, .prn [0, 2, 6, 7, 8] R, (W (x + 1)), h, R⟩
 intro c
 replace h := ifN (Int.not_lt.2 c) h
 refine eN (sw_seq (sw_condF R (sw_exit (then_exit (then_exit ?_)))))
 subst hK2
 refine block_exit (then_norm (qG (q_movD R (r_lenS R R R R ?_))))
 obtain ⟨rv, hrv, h⟩ := bnd h
 refine r_call (wind_out_pc hrv) (.of (by kernel_rfl)) R R R R (r_not R R R (q_asgD R (eN (sw_ret ?_))))
 obtain rfl := sI h
 exact f1 2 R
def frame_out_int (F : Nat) (nv : Int) (lo : Int) (hi : Int) : Option Bool := if nv < lo then (some true) else (some (decide (hi < nv)))
theorem frame_out_int_pc {F : Nat} {nv : Int} {lo : Int} {hi : Int} {r : Bool} (h : frame_out_int F nv lo hi = some r) : PC Try.prog 69 [.v (.int .i64 nv), .v (.int .i64 lo), .v (.int .i64 hi)] (.v (.bool r)) := by
 rw [frame_out_int] at h
 refine SC.of_sw Try.func69 R R R ?_
 dsimp only [argS, List.map]
 refine qG (q_asgD R (eN (qG (q_movD R (q_movD R ?_)))))
 refine r_lss R R R R ?_ ?_
 ·intro c
  replace h := ifP c h
  refine q_movD R (q_sk 3 R (q_pickT R (q_asgD R (eN (sw_ret ?_)))))
  obtain rfl := sI h
  exact f1 6 R
 intro c
 replace h := ifN (Int.not_lt.2 c) h
 refine q_movD R (q_movD R (q_movD R (r_gtrV R R R R (q_pickF R (q_asgD R (eN (sw_ret ?_)))))))
 obtain rfl := sI h
 exact f1 6 R
def frame_out_sum (F : Nat) (nv : Int) (lo : Int) (hi : Int) : Option Bool := if nv < lo then (some true) else (some (decide (hi < nv)))
theorem frame_out_sum_pc {F : Nat} {nv : Int} {lo : Int} {hi : Int} {r : Bool} (h : frame_out_sum F nv lo hi = some r) : PC Try.prog 100 [.v (.int .u16 nv), .v (.int .u16 lo), .v (.int .u16 hi)] (.v (.bool r)) := by
 rw [frame_out_sum] at h
 refine SC.of_sw Try.func100 R R R ?_
 dsimp only [argS, List.map]
 refine qG (q_asgD R (eN (qG (q_movD R (q_movD R ?_)))))
 refine r_lss R R R R ?_ ?_
 ·intro c
  replace h := ifP c h
  refine q_movD R (q_sk 3 R (q_pickT R (q_asgD R (eN (sw_ret ?_)))))
  obtain rfl := sI h
  exact f1 6 R
 intro c
 replace h := ifN (Int.not_lt.2 c) h
 refine q_movD R (q_movD R (q_movD R (r_gtrV R R R R (q_pickF R (q_asgD R (eN (sw_ret ?_)))))))
 obtain rfl := sI h
 exact f1 6 R
def frame_sum_add_L1 (F : Nat)  (K : Int → Int → Option Int) : Nat → Int → Int → Option Int
 | 0, _, _ => none
 | n + 1, s2, x => if x < 8 then (Option.bind (frame_out_sum F s2 32768 65535) fun rv => if rv = true then (frame_sum_add_L1 F K n (ishl .u16 s2 1) (W (x + 1))) else (frame_sum_add_L1 F K n (ixor .u16 (ishl .u16 s2 1) 4129) (W (x + 1)))) else (K s2 x)
def frame_sum_add (F : Nat) (s : Int) (c : Int) : Option Int := frame_sum_add_L1 F (fun (s2 : Int) (x : Int) => some s2) F (ixor .u16 s (ishl .u16 (IntKind.u16.wrap c) 8)) 0
theorem frame_sum_add_pc {F : Nat} {s : Int} {c : Int} {r : Int} (h : frame_sum_add F s c = some r) : PC Try.prog 55 [.v (.int .u16 s), .v (.int .u8 c)] (.v (.int .u16 r)) := by
 rw [frame_sum_add] at h
 refine SC.of_sw Try.func55 R R R ?_
 dsimp only [argS, List.map]
 refine qG (q_asgD R (eN (qG (q_movD R (q_movD R (r_cvI (k2 := .u16) R R R R R R (r_shl R R (by decide) R R (r_xor R R R R (q_asgD R (eN (sw_seq (qG (q_movD R (eN (sw_block ?_)))))))))))))))
 obtain ⟨K2, hK2, h⟩ : ∃ K, K = _ ∧ frame_sum_add_L1 F K F (ixor .u16 s (ishl .u16 (IntKind.u16.wrap c) 8)) 0 = some r := ⟨_, rfl, h⟩
 refine sw_loopS (fun m st => ∃ (s2 : Int) (x : Int), frame_sum_add_L1 F K2 m s2 x = some r ∧ st = ⟨[(0, .d (.v (.int .u16 s2))), (4, .d (.v (.int .u16 0))), (11, .d (vI x))], []⟩) (.prn [0, 4, 11] R) ⟨(ixor .u16 s (ishl .u16 (IntKind.u16.wrap c) 8)), 0, h, R⟩ ?_
 clear h
 rintro m2 st ⟨s2, x, h, rfl⟩
 cases m2 with
 | zero => cases (show (none : Option Int) = some r from h)
 | succ m2 =>
 rw [frame_sum_add_L1] at h
 refine qG ?_
 refine r_lss R R R R ?_ ?_
 ·intro c2
  replace h := ifP c2 h
  refine eN (sw_seq (sw_condT R (sw_skip (then_norm (sw_seq (sw_block (qG (q_movD R ?_))))))))
  obtain ⟨rv, hrv, h⟩ := bnd h
  refine r_callB (frame_out_sum_pc hrv) (.of (by kernel_rfl)) R R R R ?_ ?_
  ·intro c3
   replace h := ifP c3 h
   refine q_asgD R (eN (qG (q_movD R (r_shl R R (by decide) R R (q_asgD R (eN (qG (q_movD R (r_notT R R R (eN (sw_condF R (sw_skip (block_norm (then_norm (sw_rg (q_add R (q_movD R (eN ?_))))))))))))))))))
   exact ⟨m2, _, Nat.lt_succ_self _, .prn [0, 4, 11] R, (ishl .u16 s2 1), (W (x + 1)), h, R⟩
  intro c3
  replace h := ifF c3 h
  refine q_asgD R (eN (qG (q_movD R (r_shl R R (by decide) R R (q_asgD R (eN (qG (q_movD R (r_notF R R R (eN (sw_condT R (sw_rg (q_movD R (r_xor R R R R (q_asgD R (ev_end (block_norm (then_norm (sw_rg (q_add R (q_movD R (eN ?_))))))))))))))))))))))
  exact ⟨m2, _, Nat.lt_succ_self _, .prn [0, 4, 11] R, (ixor .u16 (ishl .u16 s2 1) 4129), (W (x + 1)), h, R⟩
 intro c2
 replace h := ifN (Int.not_lt.2 c2) h
 refine eN (sw_seq (sw_condF R (sw_exit (then_exit (then_exit ?_)))))
 subst hK2
 refine block_exit (then_norm (qG (q_movD R (q_asgD R (eN (sw_ret ?_))))))
 obtain rfl := sI h
 exact f1 4 R
def frame_Sum_L1 (F : Nat) (b : (List Int)) (K : Int → Int → Option Int) : Nat → Int → Int → Option Int
 | 0, _, _ => none
 | n + 1, s, x => if x < (b.length : Int) then (Option.bind (ixO b x) fun e => Option.bind (frame_sum_add F s e) fun rv => frame_Sum_L1 F b K n rv (W (x + 1))) else (K s x)
def frame_Sum (F : Nat) (b : (List Int)) : Option Int := frame_Sum_L1 F b (fun (s : Int) (x : Int) => some (W s)) F 65535 0
theorem frame_Sum_pc {F : Nat} {b : (List Int)} {r : Int} (h : frame_Sum F b = some r) : PC Try.prog 19 [.arr 1 ((b).map v8)] (.v (.int .i64 r)) := by
 rw [frame_Sum] at h
 refine SC.of_sw Try.func19 R R R ?_
 dsimp only [argS, List.map]
 refine qG (q_asgD R (eN (qG (q_asgD R (q_asgD R (eN (sw_seq (qG (q_movD R (q_lenM tb R (q_movD R (eN (sw_block ?_)))))))))))))
 obtain ⟨K2, hK2, h⟩ : ∃ K, K = _ ∧ frame_Sum_L1 F b K F 65535 0 = some r := ⟨_, rfl, h⟩
 refine sw_loopS (fun m st => ∃ (s : Int) (x : Int), frame_Sum_L1 F b K2 m s x = some r ∧ st = ⟨[(2, .d (vI 0)), (3, .d (.v (.int .u16 s))), (4, .d (.v (.func (.func 55) #[] #[]))), (7, .d (.arr 1 ((b).map v8))), (8, .d (vI (b.length : Int))), (9, .d (vI x))], []⟩) (.prn [2, 3, 4, 7, 8, 9] R) ⟨65535, 0, h, R⟩ ?_
 clear h
 rintro m2 st ⟨s, x, h, rfl⟩
 cases m2 with
 | zero => cases (show (none : Option Int) = some r from h)
 | succ m2 =>
 rw [frame_Sum_L1] at h
 refine qG ?_
 refine r_lss R R R R ?_ ?_
 ·intro c
  replace h := ifP c h
  refine eN (sw_seq (sw_condT R (sw_skip (then_norm (sw_seq (sw_block (qG ?_)))))))
  obtain ⟨e, ie, h⟩ := bnd h
  refine q_ixE tb (ix0 ie) (ix1m ie) R (q_ldE (y := .v (.int .u8 e)) tb (ix2 (g := v8) ie) R (q_asgD R (eN (sw_rg (q_movD R (q_movD R (q_movD R ?_)))))))
  obtain ⟨rv, hrv, h⟩ := bnd h
  refine r_call (frame_sum_add_pc hrv) (.of (by kernel_rfl)) R R R R (q_asgD R (ev_end (block_norm (then_norm (sw_rg (q_add R (q_movD R (eN ?_))))))))
  exact ⟨m2, _, Nat.lt_succ_self _, .prn [2, 3, 4, 7, 8, 9] R, rv, (W (x + 1)), h, R⟩
 intro c
 replace h := ifN (Int.not_lt.2 c) h
 refine eN (sw_seq (sw_condF R (sw_exit (then_exit (then_exit ?_)))))
 subst hK2
 refine block_exit (then_norm (qG (q_movD R (r_cvI (k2 := .i64) R R R R R R (q_asgD R (eN (sw_ret ?_)))))))
 obtain rfl := sI h
 exact f1 2 R
def frame_pair (F : Nat) (nv : Int) : Option (List Int) := some [(W8 (ishr .i64 nv 8)), (W8 nv)]
theorem frame_pair_scr {F : Nat} {nv : Int} {r : (List Int)} (h : frame_pair F nv = some r) : SCR Try.prog 102 (List.map T.d [.v (.int .i64 nv)]) [] (.row 0 1 0 (r).length) (List.map some [(lv8 r)]) := by
 rw [frame_pair] at h
 refine SC.of_sw Try.func102 R R R ?_
 dsimp only [argS, List.map]
 refine qG (q_asgD R (eN (qG (q_movD R (r_shr R R (by decide) R R (r_cvI (k2 := .u8) R R R R R R (q_movD R (r_cvI (k2 := .u8) R R R R R R (r_bslice tb R R R R R R R R R R R R R (r_asgW R R R (eN (sw_ret ?_))))))))))))
 obtain rfl := sI h
 exact f2 [0] (.row R .nil) R (.cons (.tmp 2) .nil) R
theorem frame_pair_pc {F : Nat} {nv : Int} {r : (List Int)} (h : frame_pair F nv = some r) : PC Try.prog 102 [.v (.int .i64 nv)] (.arr 1 ((r).map v8)) := (frame_pair_scr h).toPC (.row rfl rfl)
def frame_bad_1 (F : Nat) (nv : Int) : Option Bool := Option.bind (frame_out_int F nv 0 65535) fun rv => some rv
theorem frame_bad_1_pc {F : Nat} {nv : Int} {r : Bool} (h : frame_bad_1 F nv = some r) : PC Try.prog 101 [.v (.int .i64 nv)] (.v (.bool r)) := by
 rw [frame_bad_1] at h
 refine SC.of_sw Try.func101 R R R ?_
 dsimp only [argS, List.map]
 refine qG (q_asgD R (eN (qG (q_movD R ?_))))
 obtain ⟨rv, hrv, h⟩ := bnd h
 refine r_call (frame_out_int_pc hrv) (.of (by kernel_rfl)) R R R R (q_asgD R (eN (sw_ret ?_)))
 obtain rfl := sI h
 exact f1 2 R
def slices_IndexFunc_int_L1 (F : Nat) (s : (List Int)) (f : (Int → Option Bool)) (K : Int → Option Int) : Nat → Int → Option Int
 | 0, _ => none
 | n + 1, x => if x < (s.length : Int) then (Option.bind (ixO s x) fun e => Option.bind (f e) fun rv => if rv = true then (some x) else (slices_IndexFunc_int_L1 F s f K n (W (x + 1)))) else (K x)
def slices_IndexFunc_int (F : Nat) (s : (List Int)) (f : (Int → Option Bool)) : Option Int := slices_IndexFunc_int_L1 F s f (fun (x : Int) => some (-1)) F 0
theorem slices_IndexFunc_int_scr {F : Nat} {s : (List Int)} {f : (Int → Option Bool)} {r : Int} {fi : Nat} {fc : List D} (fh : ∀ {a0 : Int} {r : Bool}, f a0 = some r → PC Try.prog fi ([.v (.int .i64 a0)] ++ fc) (.v (.bool r))) (fe : Ent Try.prog fi) (h : slices_IndexFunc_int F s f = some r) : SCR Try.prog 108 [.d (.arr 1 ((s).map vI)), .fn (.func fi) [] (fc.map .d)] [] (.d (.v (.int .i64 r))) (List.map some []) := by
 rw [slices_IndexFunc_int] at h
 refine SC.of_sw Try.func108 R R R ?_
 dsimp only [argS, List.map]
 refine qG (q_asgD R (eN (sw_seq (qG (q_movD R (q_lenM tb R (q_movD R (eN (sw_block ?_)))))))))
 obtain ⟨K2, hK2, h⟩ : ∃ K, K = _ ∧ slices_IndexFunc_int_L1 F s f K F 0 = some r := ⟨_, rfl, h⟩
 refine sw_loopS (fun m st => ∃ (x : Int), slices_IndexFunc_int_L1 F s f K2 m x = some r ∧ st = ⟨[(0, .d (.arr 1 ((s).map vI))), (1, .fn (.func fi) [] (fc.map .d)), (4, .d (vI 0)), (7, .d (vI (s.length : Int))), (8, .d (vI x))], []⟩) (.prn [0, 1, 4, 7, 8] R) ⟨0, h, R⟩ ?_
 clear h
 rintro m2 st ⟨x, h, rfl⟩
 cases m2 with
 | zero => cases (show (none : Option Int) = some r from h)
 | succ m2 =>
 rw [slices_IndexFunc_int_L1] at h
 refine qG ?_
 refine r_lss R R R R ?_ ?_
 ·intro c
  replace h := ifP c h
  refine eN (sw_seq (sw_condT R (sw_skip (then_norm (sw_seq (sw_block (qG (q_movD R (q_asgD R (eN (qG (r_movF R R R (q_movD R (q_movD R ?_))))))))))))))
  obtain ⟨e, ie, h⟩ := bnd h
  refine q_ixE tb (ix0 ie) (ix1m ie) R (q_ldE (y := vI e) tb (ix2 (g := vI) ie) R ?_)
  obtain ⟨rv, hrv, h⟩ := bnd h
  refine r_callH (vs := [vI e]) (fh hrv) fe R R R R ?_
  with_reducible apply ev_lit
  ·intro c2
   replace h := ifP c2 h
   refine eN (sw_condT R (qG (q_movD R (q_asgD R (eN (sw_ret (block_ret (then_ret (then_ret (block_ret (then_ret ?_)))))))))))
   obtain rfl := sI h
   exact f1 4 R
  intro c2
  replace h := ifF c2 h
  refine eN (sw_condF R (sw_skip (block_norm (then_norm (sw_rg (q_add R (q_movD R (eN ?_))))))))
  exact ⟨m2, _, Nat.lt_succ_self _, .prn [0, 1, 4, 7, 8] R, (W (x + 1)), h, R⟩
 intro c
 replace h := ifN (Int.not_lt.2 c) h
 refine eN (sw_seq (sw_condF R (sw_exit (then_exit (then_exit ?_)))))
 subst hK2
 refine block_exit (then_norm (qG (q_asgD R (eN (sw_ret ?_)))))
 obtain rfl := sI h
 exact f1 4 R
def slices_ContainsFunc_int (F : Nat) (s : (List Int)) (f : (Int → Option Bool)) : Option Bool := Option.bind (slices_IndexFunc_int F s f) fun rv => some (decide (0 ≤ rv))
theorem slices_ContainsFunc_int_scr {F : Nat} {s : (List Int)} {f : (Int → Option Bool)} {r : Bool} {fi : Nat} {fc : List D} (fh : ∀ {a0 : Int} {r : Bool}, f a0 = some r → PC Try.prog fi ([.v (.int .i64 a0)] ++ fc) (.v (.bool r))) (fe : Ent Try.prog fi) (h : slices_ContainsFunc_int F s f = some r) : SCR Try.prog 81 [.d (.arr 1 ((s).map vI)), .fn (.func fi) [] (fc.map .d)] [] (.d (.v (.bool r))) (List.map some []) := by
 rw [slices_ContainsFunc_int] at h
 refine SC.of_sw Try.func81 R R R ?_
 dsimp only [argS, List.map]
 refine qG (q_asgD R (eN (qG (q_movD R (r_movF R R R ?_)))))
 obtain ⟨rv, hrv, h⟩ := bnd h
 refine r_callX (t' := .d (vI rv)) (news' := []) (slices_IndexFunc_int_scr (f := f) (fh := fh) (fe := fe) hrv) R .nil (.of (by kernel_rfl)) R R ((.cons (.d (.d _)) (.cons .hof .nil))) R .nil R R R ?_
 simp only [List.map_nil, List.append_nil]
 refine r_geqV R R R R (q_asgD R (eN (sw_ret ?_)))
 obtain rfl := sI h
 exact f1 4 R
def frame_bad (F : Nat) (lv : (List Int)) : Option Bool := Option.bind (slices_ContainsFunc_int F lv (fun a0 => frame_bad_1 F a0)) fun rv => some rv
theorem frame_bad_pc {F : Nat} {lv : (List Int)} {r : Bool} (h : frame_bad F lv = some r) : PC Try.prog 57 [.arr 1 ((lv).map vI)] (.v (.bool r)) := by
 rw [frame_bad] at h
 refine SC.of_sw Try.func57 R R R ?_
 dsimp only [argS, List.map]
 refine qG (q_asgD R (eN (qG (q_movD R ?_))))
 obtain ⟨rv, hrv, h⟩ := bnd h
 refine r_callX (t' := .d (.v (.bool rv))) (news' := []) (slices_ContainsFunc_int_scr (f := (fun a0 => frame_bad_1 F a0)) (fc := []) (fh := fun hr => frame_bad_1_pc hr) (fe := .of (by kernel_rfl)) hrv) R .nil (.of (by kernel_rfl)) R R ((.cons (.d (.d _)) (.cons .fnc .nil))) R .nil R R R ?_
 simp only [List.map_nil, List.append_nil]
 refine q_asgD R (eN (sw_ret ?_))
 obtain rfl := sI h
 exact f1 2 R
def frame_in (F : Nat) (c : FrChannel) (nv : Int) : Option Bool := if c.every = 0 then none else (some (decide ((Int.tmod nv c.every) = c.phase)))
theorem frame_in_pc {F : Nat} {c : FrChannel} {nv : Int} {r : Bool} (h : frame_in F c nv = some r) : PC Try.prog 58 [FrChannel.d c, .v (.int .i64 nv)] (.v (.bool r)) := by
 rw [frame_in] at h
 refine SC.of_sw Try.func58 R R R ?_
 dsimp only [argS, List.map]
 refine qG (q_box R (q_asgD R (eN (sw_seq (sw_dr (by kernel_rfl) (q_movD R (q_fa tb R (q_ldD (y := vI c.every) tb R ?_))))))))
 by_cases c2 : c.every = 0
 ·cases (if_pos c2).symm.trans h
 replace h := ifN c2 h
 refine r_rem R R c2 R R (q_fa tb R (q_ldD (y := vI c.phase) tb R (r_eqlV R R R R (q_asgD R (ev_endD (by kernel_rfl) (then_norm (sw_ret ?_)))))))
 obtain rfl := sI h
 exact f1 4 R
def frame_meet (F : Nat) (a : FrChannel) (b : FrChannel) : Option Bool := if a.word = b.word then (if (min a.every b.every) = 0 then none else (some (decide ((Int.tmod a.phase (min a.every b.every)) = (Int.tmod b.phase (min a.every b.every)))))) else (some false)
theorem frame_meet_pc {F : Nat} {a : FrChannel} {b : FrChannel} {r : Bool} (h : frame_meet F a b = some r) : PC Try.prog 78 [FrChannel.d a, FrChannel.d b] (.v (.bool r)) := by
 rw [frame_meet] at h
 refine SC.of_sw Try.func78 R R R ?_
 dsimp only [argS, List.map]
 refine qG (q_box R (q_box R (q_asgD R (eN (qG (q_fa tb R (q_ldD (y := vI a.every) tb R (q_fa tb R (q_ldD (y := vI b.every) tb R (r_min2 R R R R (q_asgD R (eN (sw_seq (sw_dr (by kernel_rfl) (q_fa tb R (q_ldD (y := vI a.word) tb R (q_fa tb R (q_ldD (y := vI b.word) tb R ?_))))))))))))))))))
 refine r_eql R R R R ?_ ?_
 ·intro c
  replace h := ifP c h
  refine q_movD R (q_fa tb R (q_ldD (y := vI a.phase) tb R (q_movD R ?_)))
  by_cases c2 : (min a.every b.every) = 0
  ·cases (if_pos c2).symm.trans h
  replace h := ifN c2 h
  refine r_rem R R c2 R R (q_fa tb R (q_ldD (y := vI b.phase) tb R (q_movD R (r_rem R R c2 R R (r_eqlV R R R R (q_pickT R (q_asgD R (ev_endD (by kernel_rfl) (then_norm (sw_ret ?_))))))))))
  obtain rfl := sI h
  exact f1 4 R
 intro c
 replace h := ifN c h
 refine q_movD R (q_sk 9 R (q_pickF R (q_asgD R (ev_endD (by kernel_rfl) (then_norm (sw_ret ?_))))))
 obtain rfl := sI h
 exact f1 4 R
def frame_Check_1 (F : Nat) (d : FrChannel) (c : FrChannel) : Option Bool := if d.name.toList = c.name.toList then (some true) else (some false)
theorem frame_Check_1_pc {F : Nat} {d : FrChannel} {c : FrChannel} {r : Bool} (h : frame_Check_1 F d c = some r) : PC Try.prog 76 [FrChannel.d d, .el 4 (([c]).map FrChannel.d) ((0 : Int)).toNat 0] (.v (.bool r)) := by
 rw [frame_Check_1] at h
 refine SC.of_sw Try.func76 R R R ?_
 dsimp only [argS, List.map]
 refine qG (q_box R (q_asgD R (eN (qG (q_fa tb R (q_ldD (y := .v (.string d.name)) tb R (q_faE tb R (q_ldE (y := .v (.string c.name)) tb (ix2 (g := FrChannel.d) (R : ixO [c] 0 = some c)) R ?_))))))))
 refine r_streql R R R R ?_ ?_
 ·intro c2
  replace h := ifP c2 h
  refine q_asgD R (eN (sw_ret ?_))
  obtain rfl := sI h
  exact f1 3 R
 intro c2
 replace h := ifN c2 h
 refine q_asgD R (eN (sw_ret ?_))
 obtain rfl := sI h
 exact f1 3 R
def frame_Check_2 (F : Nat) (d : FrChannel) (c : FrChannel) : Option Bool := Option.bind (frame_meet F c d) fun rv => some rv
theorem frame_Check_2_pc {F : Nat} {d : FrChannel} {c : FrChannel} {r : Bool} (h : frame_Check_2 F d c = some r) : PC Try.prog 77 [FrChannel.d d, .el 4 (([c]).map FrChannel.d) ((0 : Int)).toNat 0] (.v (.bool r)) := by
 rw [frame_Check_2] at h
 refine SC.of_sw Try.func77 R R R ?_
 dsimp only [argS, List.map]
 refine qG (q_box R (q_asgD R (eN (qG (q_ldE (y := FrChannel.d c) tb (ix2 (g := FrChannel.d) (R : ixO [c] 0 = some c)) R (q_ldD (y := FrChannel.d d) tb R ?_))))))
 obtain ⟨rv, hrv, h⟩ := bnd h
 refine r_call (frame_meet_pc hrv) (.of (by kernel_rfl)) R R R R (q_asgD R (eN (sw_ret ?_)))
 obtain rfl := sI h
 exact f1 3 R
def slices_IndexFunc_FrChannel_L1 (F : Nat) (s : (List FrChannel)) (f : (FrChannel → Option Bool)) (K : Int → Option Int) : Nat → Int → Option Int
 | 0, _ => none
 | n + 1, x => if x < (s.length : Int) then (Option.bind (ixO s x) fun e => Option.bind (f e) fun rv => if rv = true then (some x) else (slices_IndexFunc_FrChannel_L1 F s f K n (W (x + 1)))) else (K x)
def slices_IndexFunc_FrChannel (F : Nat) (s : (List FrChannel)) (f : (FrChannel → Option Bool)) : Option Int := slices_IndexFunc_FrChannel_L1 F s f (fun (x : Int) => some (-1)) F 0
theorem slices_IndexFunc_FrChannel_scr {F : Nat} {s : (List FrChannel)} {f : (FrChannel → Option Bool)} {r : Int} {fi : Nat} {fc : List D} (fh : ∀ {a0 : FrChannel} {r : Bool}, f a0 = some r → PC Try.prog fi ([FrChannel.d a0] ++ fc) (.v (.bool r))) (fe : Ent Try.prog fi) (h : slices_IndexFunc_FrChannel F s f = some r) : SCR Try.prog 106 [.d (.arr 4 ((s).map FrChannel.d)), .fn (.func fi) [] (fc.map .d)] [] (.d (.v (.int .i64 r))) (List.map some []) := by
 rw [slices_IndexFunc_FrChannel] at h
 refine SC.of_sw Try.func106 R R R ?_
 dsimp only [argS, List.map]
 refine qG (q_asgD R (eN (sw_seq (qG (q_movD R (q_lenM tb R (q_movD R (eN (sw_block ?_)))))))))
 obtain ⟨K2, hK2, h⟩ : ∃ K, K = _ ∧ slices_IndexFunc_FrChannel_L1 F s f K F 0 = some r := ⟨_, rfl, h⟩
 refine sw_loopS (fun m st => ∃ (x : Int), slices_IndexFunc_FrChannel_L1 F s f K2 m x = some r ∧ st = ⟨[(0, .d (.arr 4 ((s).map FrChannel.d))), (1, .fn (.func fi) [] (fc.map .d)), (4, .d (vI 0)), (7, .d (vI (s.length : Int))), (8, .d (vI x))], []⟩) (.prn [0, 1, 4, 7, 8] R) ⟨0, h, R⟩ ?_
 clear h
 rintro m2 st ⟨x, h, rfl⟩
 cases m2 with
 | zero => cases (show (none : Option Int) = some r from h)
 | succ m2 =>
 rw [slices_IndexFunc_FrChannel_L1] at h
 refine qG ?_
 refine r_lss R R R R ?_ ?_
 ·intro c
  replace h := ifP c h
  refine eN (sw_seq (sw_condT R (sw_skip (then_norm (sw_seq (sw_block (qG (q_movD R (q_asgD R (eN (qG (r_movF R R R (q_movD R (q_movD R ?_))))))))))))))
  obtain ⟨e, ie, h⟩ := bnd h
  refine q_ixE tb (ix0 ie) (ix1m ie) R (q_ldE (y := FrChannel.d e) tb (ix2 (g := FrChannel.d) ie) R ?_)
  obtain ⟨rv, hrv, h⟩ := bnd h
  refine r_callH (vs := [FrChannel.d e]) (fh hrv) fe R R R R ?_
  with_reducible apply ev_lit
  ·intro c2
   replace h := ifP c2 h
   refine eN (sw_condT R (qG (q_movD R (q_asgD R (eN (sw_ret (block_ret (then_ret (then_ret (block_ret (then_ret ?_)))))))))))
   obtain rfl := sI h
   exact f1 4 R
  intro c2
  replace h := ifF c2 h
  refine eN (sw_condF R (sw_skip (block_norm (then_norm (sw_rg (q_add R (q_movD R (eN ?_))))))))
  exact ⟨m2, _, Nat.lt_succ_self _, .prn [0, 1, 4, 7, 8] R, (W (x + 1)), h, R⟩
 intro c
 replace h := ifN (Int.not_lt.2 c) h
 refine eN (sw_seq (sw_condF R (sw_exit (then_exit (then_exit ?_)))))
 subst hK2
 refine block_exit (then_norm (qG (q_asgD R (eN (sw_ret ?_)))))
 obtain rfl := sI h
 exact f1 4 R
def slices_ContainsFunc_FrChannel (F : Nat) (s : (List FrChannel)) (f : (FrChannel → Option Bool)) : Option Bool := Option.bind (slices_IndexFunc_FrChannel F s f) fun rv => some (decide (0 ≤ rv))
theorem slices_ContainsFunc_FrChannel_scr {F : Nat} {s : (List FrChannel)} {f : (FrChannel → Option Bool)} {r : Bool} {fi : Nat} {fc : List D} (fh : ∀ {a0 : FrChannel} {r : Bool}, f a0 = some r → PC Try.prog fi ([FrChannel.d a0] ++ fc) (.v (.bool r))) (fe : Ent Try.prog fi) (h : slices_ContainsFunc_FrChannel F s f = some r) : SCR Try.prog 75 [.d (.arr 4 ((s).map FrChannel.d)), .fn (.func fi) [] (fc.map .d)] [] (.d (.v (.bool r))) (List.map some []) := by
 rw [slices_ContainsFunc_FrChannel] at h
 refine SC.of_sw Try.func75 R R R ?_
 dsimp only [argS, List.map]
 refine qG (q_asgD R (eN (qG (q_movD R (r_movF R R R ?_)))))
 obtain ⟨rv, hrv, h⟩ := bnd h
 refine r_callX (t' := .d (vI rv)) (news' := []) (slices_IndexFunc_FrChannel_scr (f := f) (fh := fh) (fe := fe) hrv) R .nil (.of (by kernel_rfl)) R R ((.cons (.d (.d _)) (.cons .hof .nil))) R .nil R R R ?_
 simp only [List.map_nil, List.append_nil]
 refine r_geqV R R R R (q_asgD R (eN (sw_ret ?_)))
 obtain rfl := sI h
 exact f1 4 R
def frame_Check_L1 (F : Nat) (t : FrFormat) (K : Int → Option (Int × Int × Int)) : Nat → Int → Option (Int × Int × Int)
 | 0, _ => none
 | n + 1, x => if x < (t.channels.length : Int) then (Option.bind (ixO t.channels x) fun e => Option.bind (cutO t.channels 0 x) fun q => Option.bind (wind_Name F e.name) fun rv4 => if rv4 = true then (Option.bind (slices_ContainsFunc_FrChannel F q (fun a0 => frame_Check_1 F a0 e)) fun rv5 => if rv5 = true then (some (2, x, 5)) else (Option.bind (frame_out_int F e.word 0 (W (t.words - 1))) fun rv6 => if rv6 = true then (some (2, x, 7)) else (if e.every < 1 then (some (2, x, 7)) else (if e.every = 0 then none else (if (Int.tmod t.depth e.every) = 0 then (Option.bind (frame_out_int F e.phase 0 (W (e.every - 1))) fun rv7 => if rv7 = true then (some (2, x, 7)) else (Option.bind (slices_ContainsFunc_FrChannel F q (fun a0 => frame_Check_2 F a0 e)) fun rv8 => if rv8 = true then (some (2, x, 2)) else (frame_Check_L1 F t K n (W (x + 1))))) else (some (2, x, 7))))))) else (some (2, x, 6))) else (K x)
def frame_Check (F : Nat) (t : FrFormat) : Option (Int × Int × Int) := Option.bind (frame_out_int F (t.sync.size : Int) 1 4) fun rv => if rv = true then (some (1, 0, 3)) else (if 12 < (t.channels.length : Int) then (some (1, 0, 3)) else (Option.bind (frame_out_int F t.words 1 32) fun rv2 => if rv2 = true then (some (1, 0, 7)) else (Option.bind (frame_out_int F t.depth 1 16) fun rv3 => if rv3 = true then (some (1, 0, 7)) else (if (iand .i64 t.depth (W (t.depth - 1))) = 0 then (frame_Check_L1 F t (fun (x : Int) => some (0, 0, 0)) F 0) else (some (1, 0, 7))))))
theorem frame_Check_pc {F : Nat} {t : FrFormat} {r : (Int × Int × Int)} (h : frame_Check F t = some r) : PC Try.prog 38 [FrFormat.d t] (.tup [.v (.int .i64 r.1), .v (.int .i64 r.2.1), .v (.int .i64 r.2.2)]) := by
 rw [frame_Check] at h
 refine SC.of_sw Try.func38 R R R ?_
 dsimp only [argS, List.map]
 refine qG (q_box R (q_asgD R (q_asgD R (q_asgD R (eN (sw_seq (sw_block (qG (q_fa tb R (q_ldD (y := .v (.string t.sync)) tb R (r_lenS R R R R ?_)))))))))))
 obtain ⟨rv, hrv, h⟩ := bnd h
 refine r_callB (frame_out_int_pc hrv) (.of (by kernel_rfl)) R R R R ?_ ?_
 ·intro c
  replace h := ifP c h
  refine q_movD R (q_sk 4 R (q_pickT R (q_asgD R (eN (sw_condT R (qG (q_asgD R (q_asgD R (q_asgD R (eN (sw_ret (block_ret (then_ret ?_)))))))))))))
  obtain rfl := sI h
  exact fin_0 (t := .d (.tup [vI 1, vI 0, vI 3])) R R R (.cons (.tmp 2) (.cons (.tmp 3) (.cons (.tmp 4) .nil)))
 intro c
 replace h := ifF c h
 refine q_movD R (q_fa tb R (q_ldD (y := .arr 4 ((t.channels).map FrChannel.d)) tb R (q_lenM tb R ?_)))
 refine r_gtr R R R R ?_ ?_
 ·intro c2
  replace h := ifP c2 h
  refine q_pickF R (q_asgD R (eN (sw_condT R (qG (q_asgD R (q_asgD R (q_asgD R (eN (sw_ret (block_ret (then_ret ?_)))))))))))
  obtain rfl := sI h
  exact fin_0 (t := .d (.tup [vI 1, vI 0, vI 3])) R R R (.cons (.tmp 2) (.cons (.tmp 3) (.cons (.tmp 4) .nil)))
 intro c2
 replace h := ifN (Int.not_lt.2 c2) h
 refine q_pickF R (q_asgD R (eN (sw_condF R (qG (q_fa tb R (q_ldD (y := vI t.words) tb R ?_))))))
 obtain ⟨rv2, hrv2, h⟩ := bnd h
 refine r_callB (frame_out_int_pc hrv2) (.of (by kernel_rfl)) R R R R ?_ ?_
 ·intro c3
  replace h := ifP c3 h
  refine q_movD R (q_sk 3 R (q_pickT R (q_movD R (q_sk 7 R (q_pickT R (q_asgD R (eN (sw_condT R (qG (q_asgD R (q_asgD R (q_asgD R (eN (sw_ret (block_ret (then_ret ?_))))))))))))))))
  obtain rfl := sI h
  exact fin_0 (t := .d (.tup [vI 1, vI 0, vI 7])) R R R (.cons (.tmp 2) (.cons (.tmp 3) (.cons (.tmp 4) .nil)))
 intro c3
 replace h := ifF c3 h
 refine q_movD R (q_fa tb R (q_ldD (y := vI t.depth) tb R ?_))
 obtain ⟨rv3, hrv3, h⟩ := bnd h
 refine r_callB (frame_out_int_pc hrv3) (.of (by kernel_rfl)) R R R R ?_ ?_
 ·intro c4
  replace h := ifP c4 h
  refine q_pickF R (q_movD R (q_sk 7 R (q_pickT R (q_asgD R (eN (sw_condT R (qG (q_asgD R (q_asgD R (q_asgD R (eN (sw_ret (block_ret (then_ret ?_))))))))))))))
  obtain rfl := sI h
  exact fin_0 (t := .d (.tup [vI 1, vI 0, vI 7])) R R R (.cons (.tmp 2) (.cons (.tmp 3) (.cons (.tmp 4) .nil)))
 intro c4
 replace h := ifF c4 h
 refine q_pickF R (q_movD R (q_fa tb R (q_ldD (y := vI t.depth) tb R (q_fa tb R (q_ldD (y := vI t.depth) tb R (r_sub R R R R (r_and R R R R ?_)))))))
 refine r_neq R R R R ?_ ?_
 ·intro c5
  replace h := ifN c5 h
  refine q_pickF R (q_asgD R (eN (sw_condT R (qG (q_asgD R (q_asgD R (q_asgD R (eN (sw_ret (block_ret (then_ret ?_)))))))))))
  obtain rfl := sI h
  exact fin_0 (t := .d (.tup [vI 1, vI 0, vI 7])) R R R (.cons (.tmp 2) (.cons (.tmp 3) (.cons (.tmp 4) .nil)))
 intro c5
 replace h := ifP c5 h
 refine q_pickF R (q_asgD R (eN (sw_condF R (sw_skip (block_norm (then_norm (sw_seq (qG (q_fa tb R (q_ldD (y := .arr 4 ((t.channels).map FrChannel.d)) tb R (q_lenM tb R (q_movD R (eN (sw_block ?_))))))))))))))
 obtain ⟨K2, hK2, h⟩ : ∃ K, K = _ ∧ frame_Check_L1 F t K F 0 = some r := ⟨_, rfl, h⟩
 refine sw_loopS (fun m st => ∃ (x : Int), frame_Check_L1 F t K2 m x = some r ∧ st = ⟨[(1, .ref 0 4 0 0), (2, .d (vI 0)), (3, .d (vI 0)), (4, .d (vI 0)), (38, .d (.arr 4 ((t.channels).map FrChannel.d))), (39, .d (vI (t.channels.length : Int))), (40, .d (vI x))], [some ⟨4, [.d (FrFormat.d t)]⟩]⟩) (.prn [1, 2, 3, 4, 38, 39, 40] R) ⟨0, h, R⟩ ?_
 clear h
 rintro m2 st ⟨x, h, rfl⟩
 cases m2 with
 | zero => cases (show (none : Option (Int × Int × Int)) = some r from h)
 | succ m2 =>
 rw [frame_Check_L1] at h
 refine qG ?_
 refine r_lss R R R R ?_ ?_
 ·intro c6
  replace h := ifP c6 h
  refine eN (sw_seq (sw_condT R (sw_skip (then_norm (sw_seq (sw_block (qG (q_movD R ?_))))))))
  obtain ⟨e, ie, h⟩ := bnd h
  refine q_ixE tb (ix0 ie) (ix1m ie) R (q_ldE (y := FrChannel.d e) tb (ix2 (g := FrChannel.d) ie) R (r_alloc tb R R R R R (q_asgD R (q_stE _ _ tb R (eN (qG (q_fa tb R (q_ldD (y := .arr 4 ((t.channels).map FrChannel.d)) tb R (q_movD R ?_)))))))))
  obtain ⟨q, iq, h⟩ := bnd h
  refine r_sliceT tb R R R R R R iq R R (q_asgD R (eN (sw_block (qG (q_fa tb R (q_ldD (y := .v (.string e.name)) tb R ?_))))))
  obtain ⟨rv4, hrv4, h⟩ := bnd h
  refine r_callB (wind_Name_pc hrv4) (.of (by kernel_rfl)) R R R R ?_ ?_
  ·intro c7
   replace h := ifP c7 h
   refine r_notT R R R (q_asgD R (eN (sw_condF R (qG (q_movD R (r_func R R R R ?_))))))
   obtain ⟨rv5, hrv5, h⟩ := bnd h
   refine r_callX (t' := .d (.v (.bool rv5))) (news' := []) (slices_ContainsFunc_FrChannel_scr (f := (fun a0 => frame_Check_1 F a0 e)) (fc := [.el 4 [FrChannel.d e] 0 0]) (fh := fun hr => frame_Check_1_pc hr) (fe := .of (by kernel_rfl)) hrv5) R .nil (.of (by kernel_rfl)) R R ((.cons (.d (.d _)) (.cons (.fnC (.cons (.d (.ref R (.d _))) .nil)) .nil))) R .nil R R R ?_
   simp only [List.map_nil, List.append_nil]
   with_reducible apply ev_lit
   ·intro c8
    replace h := ifP c8 h
    refine q_asgD R (eN (sw_condT R (qG (q_movD R (q_asgD R (q_asgD R (q_asgD R (eN (sw_ret (block_ret (block_ret (then_ret (then_ret (block_ret (then_ret ?_)))))))))))))))
    obtain rfl := sI h
    exact fin_0 (t := .d (.tup [vI 2, vI x, vI 5])) R R R (.cons (.tmp 2) (.cons (.tmp 3) (.cons (.tmp 4) .nil)))
   intro c8
   replace h := ifF c8 h
   refine q_asgD R (eN (sw_condF R (qG (q_fa tb R (q_ldD (y := vI e.word) tb R (q_fa tb R (q_ldD (y := vI t.words) tb R (r_sub R R R R ?_))))))))
   obtain ⟨rv6, hrv6, h⟩ := bnd h
   refine r_callB (frame_out_int_pc hrv6) (.of (by kernel_rfl)) R R R R ?_ ?_
   ·intro c9
    replace h := ifP c9 h
    refine q_movD R (q_sk 3 R (q_pickT R (q_movD R (q_sk 6 R (q_pickT R (q_movD R (q_sk 6 R (q_pickT R (q_asgD R (eN (sw_condT R (qG (q_movD R (q_asgD R (q_asgD R (q_asgD R (eN (sw_ret (block_ret (block_ret (then_ret (then_ret (block_ret (then_ret ?_))))))))))))))))))))))))
    obtain rfl := sI h
    exact fin_0 (t := .d (.tup [vI 2, vI x, vI 7])) R R R (.cons (.tmp 2) (.cons (.tmp 3) (.cons (.tmp 4) .nil)))
   intro c9
   replace h := ifF c9 h
   refine q_movD R (q_fa tb R (q_ldD (y := vI e.every) tb R ?_))
   refine r_lss R R R R ?_ ?_
   ·intro c10
    replace h := ifP c10 h
    refine q_pickF R (q_movD R (q_sk 6 R (q_pickT R (q_movD R (q_sk 6 R (q_pickT R (q_asgD R (eN (sw_condT R (qG (q_movD R (q_asgD R (q_asgD R (q_asgD R (eN (sw_ret (block_ret (block_ret (then_ret (then_ret (block_ret (then_ret ?_))))))))))))))))))))))
    obtain rfl := sI h
    exact fin_0 (t := .d (.tup [vI 2, vI x, vI 7])) R R R (.cons (.tmp 2) (.cons (.tmp 3) (.cons (.tmp 4) .nil)))
   intro c10
   replace h := ifN (Int.not_lt.2 c10) h
   refine q_pickF R (q_movD R (q_fa tb R (q_ldD (y := vI t.depth) tb R (q_fa tb R (q_ldD (y := vI e.every) tb R ?_)))))
   by_cases c11 : e.every = 0
   ·cases (if_pos c11).symm.trans h
   replace h := ifN c11 h
   refine r_rem R R c11 R R ?_
   refine r_neq R R R R ?_ ?_
   ·intro c12
    replace h := ifN c12 h
    refine q_pickF R (q_movD R (q_sk 6 R (q_pickT R (q_asgD R (eN (sw_condT R (qG (q_movD R (q_asgD R (q_asgD R (q_asgD R (eN (sw_ret (block_ret (block_ret (then_ret (then_ret (block_ret (then_ret ?_)))))))))))))))))))
    obtain rfl := sI h
    exact fin_0 (t := .d (.tup [vI 2, vI x, vI 7])) R R R (.cons (.tmp 2) (.cons (.tmp 3) (.cons (.tmp 4) .nil)))
   intro c12
   replace h := ifP c12 h
   refine q_pickF R (q_movD R (q_fa tb R (q_ldD (y := vI e.phase) tb R (q_fa tb R (q_ldD (y := vI e.every) tb R (r_sub R R R R ?_))))))
   obtain ⟨rv7, hrv7, h⟩ := bnd h
   refine r_callB (frame_out_int_pc hrv7) (.of (by kernel_rfl)) R R R R ?_ ?_
   ·intro c13
    replace h := ifP c13 h
    refine q_pickF R (q_asgD R (eN (sw_condT R (qG (q_movD R (q_asgD R (q_asgD R (q_asgD R (eN (sw_ret (block_ret (block_ret (then_ret (then_ret (block_ret (then_ret ?_))))))))))))))))
    obtain rfl := sI h
    exact fin_0 (t := .d (.tup [vI 2, vI x, vI 7])) R R R (.cons (.tmp 2) (.cons (.tmp 3) (.cons (.tmp 4) .nil)))
   intro c13
   replace h := ifF c13 h
   refine q_pickF R (q_asgD R (eN (sw_condF R (qG (q_movD R (r_func R R R R ?_))))))
   obtain ⟨rv8, hrv8, h⟩ := bnd h
   refine r_callX (t' := .d (.v (.bool rv8))) (news' := []) (slices_ContainsFunc_FrChannel_scr (f := (fun a0 => frame_Check_2 F a0 e)) (fc := [.el 4 [FrChannel.d e] 0 0]) (fh := fun hr => frame_Check_2_pc hr) (fe := .of (by kernel_rfl)) hrv8) R .nil (.of (by kernel_rfl)) R R ((.cons (.d (.d _)) (.cons (.fnC (.cons (.d (.ref R (.d _))) .nil)) .nil))) R .nil R R R ?_
   simp only [List.map_nil, List.append_nil]
   with_reducible apply ev_lit
   ·intro c14
    replace h := ifP c14 h
    refine q_asgD R (eN (sw_condT R (qG (q_movD R (q_asgD R (q_asgD R (q_asgD R (eN (sw_ret (block_ret (block_ret (then_ret (then_ret (block_ret (then_ret ?_)))))))))))))))
    obtain rfl := sI h
    exact fin_0 (t := .d (.tup [vI 2, vI x, vI 2])) R R R (.cons (.tmp 2) (.cons (.tmp 3) (.cons (.tmp 4) .nil)))
   intro c14
   replace h := ifF c14 h
   refine q_asgD R (eN (sw_condF R (sw_skip (block_norm (block_norm (then_norm (sw_rg (q_add R (q_movD R (eN ?_))))))))))
   exact ⟨m2, ⟨[(1, .ref 0 4 0 0), (2, .d (vI 0)), (3, .d (vI 0)), (4, .d (vI 0)), (38, .d (.arr 4 ((t.channels).map FrChannel.d))), (39, .d (vI (t.channels.length : Int))), (40, .d (vI (W (x + 1))))], [some ⟨4, [.d (FrFormat.d t)]⟩]⟩, Nat.lt_succ_self _, .vw (κ := [0]) (vK (.cons R R .nil) R), (W (x + 1)), h, R⟩
  intro c7
  replace h := ifF c7 h
  refine r_notF R R R (q_asgD R (eN (sw_condT R (qG (q_movD R (q_asgD R (q_asgD R (q_asgD R (eN (sw_ret (block_ret (block_ret (then_ret (then_ret (block_ret (then_ret ?_))))))))))))))))
  obtain rfl := sI h
  exact fin_0 (t := .d (.tup [vI 2, vI x, vI 6])) R R R (.cons (.tmp 2) (.cons (.tmp 3) (.cons (.tmp 4) .nil)))
 intro c6
 replace h := ifN (Int.not_lt.2 c6) h
 refine eN (sw_seq (sw_condF R (sw_exit (then_exit (then_exit ?_)))))
 subst hK2
 refine block_exit (then_norm (qG (q_asgD R (q_asgD R (q_asgD R (eN (sw_ret ?_)))))))
 obtain rfl := sI h
 exact fin_0 (t := .d (.tup [vI 0, vI 0, vI 0])) R R R (.cons (.tmp 2) (.cons (.tmp 3) (.cons (.tmp 4) .nil)))
def frame_asked (F : Nat) (f : FrFormat) (number : Int) : Option Int := Option.bind (frame_Check F f) fun rv => if rv.2.2 = 0 then (Option.bind (frame_out_int F number 0 1000000) fun rv2 => if rv2 = true then (some 7) else (some rv.2.2)) else (some rv.2.2)
theorem frame_asked_pc {F : Nat} {f : FrFormat} {number : Int} {r : Int} (h : frame_asked F f number = some r) : PC Try.prog 56 [FrFormat.d f, .v (.int .i64 number)] (.v (.int .i64 r)) := by
 rw [frame_asked] at h
 refine SC.of_sw Try.func56 R R R ?_
 dsimp only [argS, List.map]
 refine qG (q_box R (q_asgD R (eN (qG (q_ldD (y := FrFormat.d f) tb R ?_)))))
 obtain ⟨rv, hrv, h⟩ := bnd h
 refine r_call (frame_Check_pc hrv) (.of (by kernel_rfl)) R R R R (q_movD R (r_extD (t := vI rv.1) R R R R (r_extD (t := vI rv.2.1) R R R R (r_extD (t := vI rv.2.2) R R R R (q_asgD R (q_asgD R (q_asgD R (eN (sw_seq (qG (q_movD R ?_)))))))))))
 refine r_eql R R R R ?_ ?_
 ·intro c
  replace h := ifP c h
  refine q_movD R (q_movD R ?_)
  obtain ⟨rv2, hrv2, h⟩ := bnd h
  refine r_callB (frame_out_int_pc hrv2) (.of (by kernel_rfl)) R R R R ?_ ?_
  ·intro c2
   replace h := ifP c2 h
   refine q_pickT R (eN (sw_condT R (qG (q_asgD R (eN (sw_ret (then_ret ?_)))))))
   obtain rfl := sI h
   exact f1 4 R
  intro c2
  replace h := ifF c2 h
  refine q_pickT R (eN (sw_condF R (sw_skip (then_norm (qG (q_movD R (q_asgD R (eN (sw_ret ?_)))))))))
  obtain rfl := sI h
  exact f1 4 R
 intro c
 replace h := ifN c h
 refine q_movD R (q_sk 2 R (q_pickF R (eN (sw_condF R (sw_skip (then_norm (qG (q_movD R (q_asgD R (eN (sw_ret ?_)))))))))))
 obtain rfl := sI h
 exact f1 4 R
def frame_bytes_L1 (F : Nat) (words : (List Int)) (K : (List Int) → Int → Option (List Int)) : Nat → (List Int) → Int → Option (List Int)
 | 0, _, _ => none
 | n + 1, b, x => if x < (words.length : Int) then (Option.bind (ixO words x) fun e => Option.bind (frame_pair F e) fun rv => Option.bind (appO b rv) fun q2 => frame_bytes_L1 F words K n q2 (W (x + 1))) else (K b x)
def frame_bytes (F : Nat) (f : FrFormat) (number : Int) (words : (List Int)) : Option (List Int) := Option.bind (appO (bytesL f.sync) [(W8 number)]) fun q => frame_bytes_L1 F words (fun (b : (List Int)) (x : Int) => Option.bind (frame_Sum F b) fun rv2 => Option.bind (frame_pair F rv2) fun rv3 => Option.bind (appO b rv3) fun q3 => some q3) F q 0
theorem frame_bytes_scr {F : Nat} {f : FrFormat} {number : Int} {words : (List Int)} {r : (List Int)} (h : frame_bytes F f number words = some r) : SCR Try.prog 64 (List.map T.d [FrFormat.d f, .v (.int .i64 number), .arr 1 ((words).map vI)]) [] (.row 0 1 0 (r).length) (List.map some [(lv8 r)]) := by
 rw [frame_bytes] at h
 refine SC.of_sw Try.func64 R R R ?_
 dsimp only [argS, List.map]
 refine qG (q_box R (q_asgD R (eN (qG (q_fa tb R (q_ldD (y := .v (.string f.sync)) tb R (r_bytesR R R R R R R R (q_movD R (r_cvI (k2 := .u8) R R R R R R (r_bslice tb R R R R R R R R R R R R R ?_))))))))))
 obtain ⟨q, iq, h⟩ := bnd h
 refine r_apM (g := v8) (w := (bytesL f.sync)) (v := [(W8 number)]) ([some ⟨4, [.d (FrFormat.d f)]⟩, none, some (lv8 [(W8 number)])]) tb R R R R R R R R R R R iq R R R R R (r_asgW R R R (eN (sw_seq (qG (q_movD R (q_lenM tb R (q_movD R (eN (sw_block ?_)))))))))
 obtain ⟨K1, hK1, h⟩ : ∃ K, K = _ ∧ frame_bytes_L1 F words K F q 0 = some r := ⟨_, rfl, h⟩
 refine sw_loopS (st0 := ⟨[(6, .d (.v (.slice none 0 0))), (7, .row 0 1 0 (q).length), (17, .d (.arr 1 ((words).map vI))), (18, .d (vI (words.length : Int))), (19, .d (vI 0))], [some (lv8 q)]⟩) (fun m st => ∃ (b : (List Int)) (x : Int), frame_bytes_L1 F words K1 m b x = some r ∧ st = ⟨[(6, .d (.v (.slice none 0 0))), (7, .row 0 1 0 (b).length), (17, .d (.arr 1 ((words).map vI))), (18, .d (vI (words.length : Int))), (19, .d (vI x))], [some (lv8 b)]⟩) (.vw (κ := [3]) (vK (.row R .nil) R)) ⟨q, 0, h, R⟩ ?_
 clear h
 rintro m1 st ⟨b, x, h, rfl⟩
 cases m1 with
 | zero => cases (show (none : Option (List Int)) = some r from h)
 | succ m1 =>
 rw [frame_bytes_L1] at h
 refine qG ?_
 refine r_lss R R R R ?_ ?_
 ·intro c
  replace h := ifP c h
  refine eN (sw_seq (sw_condT R (sw_skip (then_norm (sw_seq (sw_block (qG ?_)))))))
  obtain ⟨e, ie, h⟩ := bnd h
  refine q_ixE tb (ix0 ie) (ix1m ie) R (q_ldE (y := vI e) tb (ix2 (g := vI) ie) R (q_asgD R (eN (sw_rg (r_movW R R R (q_movD R ?_))))))
  obtain ⟨rv, hrv, h⟩ := bnd h
  refine r_callN (t' := .row 1 1 0 (rv).length) (news' := [(lv8 rv)]) (frame_pair_scr hrv) (.of (by kernel_rfl)) R R R ((.row .nil)) R R R ?_
  obtain ⟨q2, iq2, h⟩ := bnd h
  refine r_apM (g := v8) (w := b) (v := rv) ([none, some (lv8 rv)]) tb R R R R R R R R R R (ones_map (fun _ => rfl)) iq2 R R R R R ?_
  refine r_asgW R R R (ev_end (block_norm (then_norm (sw_rg (q_add R (q_movD R (eN ?_)))))))
  exact ⟨m1, ⟨[(6, .d (.v (.slice none 0 0))), (7, .row 0 1 0 (q2).length), (17, .d (.arr 1 ((words).map vI))), (18, .d (vI (words.length : Int))), (19, .d (vI (W (x + 1))))], [some (lv8 q2)]⟩, Nat.lt_succ_self _, .vw (κ := [2]) (vK (.row R .nil) R), q2, (W (x + 1)), h, R⟩
 intro c
 replace h := ifN (Int.not_lt.2 c) h
 refine eN (sw_seq (sw_condF R (sw_exit (then_exit (then_exit ?_)))))
 subst hK1
 refine block_exit (then_norm (qG (r_movW R R R (r_movW R R R ?_))))
 obtain ⟨rv2, hrv2, h⟩ := bnd h
 refine r_callL (frame_Sum_pc hrv2) R (.of (by kernel_rfl)) R R ((.cons (.row R R) .nil)) R R ?_
 obtain ⟨rv3, hrv3, h⟩ := bnd h
 refine r_callN (t' := .row 1 1 0 (rv3).length) (news' := [(lv8 rv3)]) (frame_pair_scr hrv3) (.of (by kernel_rfl)) R R R ((.row .nil)) R R R ?_
 obtain ⟨q3, iq3, h⟩ := bnd h
 refine r_apM (g := v8) (w := b) (v := rv3) ([none, some (lv8 rv3)]) tb R R R R R R R R R R (ones_map (fun _ => rfl)) iq3 R R R R R ?_
 refine r_asgW R R R (eN (sw_ret ?_))
 obtain rfl := sI h
 exact f2 [2] (.row R .nil) R (.cons (.tmp 6) .nil) R
theorem frame_bytes_pc {F : Nat} {f : FrFormat} {number : Int} {words : (List Int)} {r : (List Int)} (h : frame_bytes F f number words = some r) : PC Try.prog 64 [FrFormat.d f, .v (.int .i64 number), .arr 1 ((words).map vI)] (.arr 1 ((r).map v8)) := (frame_bytes_scr h).toPC (.row rfl rfl)
def frame_Commute_L1 (F : Nat) (f : FrFormat) (number : Int) (values : (List Int)) (K : (List Int) → Int → Option ((List Int) × Int)) : Nat → (List Int) → Int → Option ((List Int) × Int)
 | 0, _, _ => none
 | n + 1, words, x => if x < (f.channels.length : Int) then (Option.bind (ixO f.channels x) fun e => Option.bind (frame_in F e number) fun rv3 => if rv3 = true then (Option.bind (ixO values x) fun e2 => Option.bind (ixO words e.word) fun e3 => Option.bind (setO words e.word e2) fun words2 => frame_Commute_L1 F f number values K n words2 (W (x + 1))) else (frame_Commute_L1 F f number values K n words (W (x + 1)))) else (K words x)
def frame_Commute (F : Nat) (f : FrFormat) (number : Int) (values : (List Int)) : Option ((List Int) × Int) := Option.bind (frame_asked F f number) fun rv => if rv = 0 then (if (values.length : Int) = (f.channels.length : Int) then (Option.bind (frame_bad F values) fun rv2 => if rv2 = true then (some (([] : List Int), 7)) else (Option.bind (natM f.words) fun q => frame_Commute_L1 F f number values (fun (words : (List Int)) (x : Int) => some (words, 0)) F (List.replicate q (0 : Int)) 0)) else (some (([] : List Int), 2))) else (some (([] : List Int), rv))
theorem frame_Commute_scr {F : Nat} {f : FrFormat} {number : Int} {values : (List Int)} {r : ((List Int) × Int)} (h : frame_Commute F f number values = some r) : SCR Try.prog 22 (List.map T.d [FrFormat.d f, .v (.int .i64 number), .arr 1 ((values).map vI)]) [] (.tup [.row 0 1 0 (r.1).length, .d (.v (.int .i64 r.2))]) (List.map some [(lvI r.1)]) := by
 rw [frame_Commute] at h
 refine SC.of_sw Try.func22 R R R ?_
 dsimp only [argS, List.map]
 refine qG (q_box R (q_asgD R (q_asgD R (eN (qG (q_ldD (y := FrFormat.d f) tb R (q_movD R ?_)))))))
 obtain ⟨rv, hrv, h⟩ := bnd h
 refine r_call (frame_asked_pc hrv) (.of (by kernel_rfl)) R R R R (q_asgD R (eN (sw_seq (sw_block (qG (q_movD R ?_))))))
 refine r_neq R R R R ?_ ?_
 ·intro c
  replace h := ifN c h
  refine q_asgD R (eN (sw_condT R (qG (q_movD R (q_asgD R (q_asgD R (eN ?_)))))))
  refine SW.own (ts' := [(6, .row 1 1 0 (([] : List Int)).length), (7, .d (vI rv))]) (L' := [some ⟨4, [.d (FrFormat.d f)]⟩]) 1 R R (.cons .nil (.cons (.same _) .nil)) (.same .nil) ?_
  simp only [List.cons_append, List.nil_append]
  refine sw_ret (block_ret (then_ret ?_))
  obtain rfl := sI h
  exact f2 [1] (.row R .nil) R (.cons (.tmp 6) (.cons (.tmp 7) .nil)) R
 intro c
 replace h := ifP c h
 refine q_asgD R (eN (sw_condF R (qG (q_movD R (q_lenM tb R (q_fa tb R (q_ldD (y := .arr 4 ((f.channels).map FrChannel.d)) tb R (q_lenM tb R ?_))))))))
 refine r_neq R R R R ?_ ?_
 ·intro c2
  replace h := ifN c2 h
  refine q_asgD R (eN (sw_condT R (qG (q_asgD R (q_asgD R (eN ?_))))))
  refine SW.own (ts' := [(6, .row 1 1 0 (([] : List Int)).length), (7, .d (vI 2))]) (L' := [some ⟨4, [.d (FrFormat.d f)]⟩]) 1 R R (.cons .nil (.cons (.same _) .nil)) (.same .nil) ?_
  simp only [List.cons_append, List.nil_append]
  refine sw_ret (block_ret (then_ret ?_))
  obtain rfl := sI h
  exact f2 [1] (.row R .nil) R (.cons (.tmp 6) (.cons (.tmp 7) .nil)) R
 intro c2
 replace h := ifP c2 h
 refine q_asgD R (eN (sw_condF R (qG (q_movD R ?_))))
 obtain ⟨rv2, hrv2, h⟩ := bnd h
 refine r_callB (frame_bad_pc hrv2) (.of (by kernel_rfl)) R R R R ?_ ?_
 ·intro c3
  replace h := ifP c3 h
  refine q_asgD R (eN (sw_condT R (qG (q_asgD R (q_asgD R (eN ?_))))))
  refine SW.own (ts' := [(6, .row 1 1 0 (([] : List Int)).length), (7, .d (vI 7))]) (L' := [some ⟨4, [.d (FrFormat.d f)]⟩]) 1 R R (.cons .nil (.cons (.same _) .nil)) (.same .nil) ?_
  simp only [List.cons_append, List.nil_append]
  refine sw_ret (block_ret (then_ret ?_))
  obtain rfl := sI h
  exact f2 [1] (.row R .nil) R (.cons (.tmp 6) (.cons (.tmp 7) .nil)) R
 intro c3
 replace h := ifF c3 h
 refine q_asgD R (eN (sw_condF R (sw_skip (block_norm (then_norm (qG (q_fa tb R (q_ldD (y := vI f.words) tb R ?_))))))))
 obtain ⟨q, iq, h⟩ := bnd h
 refine r_makeQ (v := (0 : Int)) (g := vI) tb R R R R R R R ((natM_eq iq).1) ((natM_eq iq).2) R R R R (r_asgW R R R (eN (sw_seq (qG (q_fa tb R (q_ldD (y := .arr 4 ((f.channels).map FrChannel.d)) tb R (q_lenM tb R (q_movD R (eN (sw_block ?_))))))))))
 obtain ⟨K1, hK1, h⟩ : ∃ K, K = _ ∧ frame_Commute_L1 F f number values K F (List.replicate q (0 : Int)) 0 = some r := ⟨_, rfl, h⟩
 refine sw_loopS (st0 := ⟨[(1, .d (vI number)), (2, .d (.arr 1 ((values).map vI))), (6, .d (.v (.slice none 0 0))), (7, .d (vI 0)), (9, .row 0 1 0 ((List.replicate q (0 : Int))).length), (33, .d (.arr 4 ((f.channels).map FrChannel.d))), (34, .d (vI (f.channels.length : Int))), (35, .d (vI 0))], [some (lvI (List.replicate q (0 : Int)))]⟩) (fun m st => ∃ (words : (List Int)) (x : Int), frame_Commute_L1 F f number values K1 m words x = some r ∧ st = ⟨[(1, .d (vI number)), (2, .d (.arr 1 ((values).map vI))), (6, .d (.v (.slice none 0 0))), (7, .d (vI 0)), (9, .row 0 1 0 (words).length), (33, .d (.arr 4 ((f.channels).map FrChannel.d))), (34, .d (vI (f.channels.length : Int))), (35, .d (vI x))], [some (lvI words)]⟩) (.vw (κ := [1]) (vK (.row R .nil) R)) ⟨(List.replicate q (0 : Int)), 0, h, R⟩ ?_
 clear h
 rintro m1 st ⟨words, x, h, rfl⟩
 cases m1 with
 | zero => cases (show (none : Option ((List Int) × Int)) = some r from h)
 | succ m1 =>
 rw [frame_Commute_L1] at h
 refine qG ?_
 refine r_lss R R R R ?_ ?_
 ·intro c4
  replace h := ifP c4 h
  refine eN (sw_seq (sw_condT R (sw_skip (then_norm (sw_seq (sw_block (qG (q_movD R ?_))))))))
  obtain ⟨e, ie, h⟩ := bnd h
  refine q_ixE tb (ix0 ie) (ix1m ie) R (q_ldE (y := FrChannel.d e) tb (ix2 (g := FrChannel.d) ie) R (r_alloc tb R R R R R (q_asgD R (q_stE _ _ tb R (eN (qG (q_ldD (y := FrChannel.d e) tb R (q_movD R ?_))))))))
  obtain ⟨rv3, hrv3, h⟩ := bnd h
  refine r_callB (frame_in_pc hrv3) (.of (by kernel_rfl)) R R R R ?_ ?_
  ·intro c5
   replace h := ifP c5 h
   refine eN (sw_condT R (sw_dr (by kernel_rfl) (r_movW R R R (q_fa tb R (q_ldD (y := vI e.word) tb R (q_movD R (q_movD R ?_)))))))
   obtain ⟨e2, ie2, h⟩ := bnd h
   refine q_ixE tb (ix0 ie2) (ix1m ie2) R (q_ldE (y := vI e2) tb (ix2 (g := vI) ie2) R ?_)
   obtain ⟨e3, ie3, h⟩ := bnd h
   refine r_ixI tb R R R R R R (ix0 ie3) (ix1 ie3) R R ?_
   obtain ⟨words2, iwords2, h⟩ := bnd h
   refine r_stQ (a' := (e2 : Int)) tb R R R R ie3 R R R R iwords2 R R ?_
   dsimp only [List.set_cons_zero, List.set_cons_succ]
   first | rw [set_len iwords2] | skip
   refine ev_endD (by kernel_rfl) (block_norm (then_norm (sw_rg (q_add R (q_movD R (eN ?_))))))
   exact ⟨m1, ⟨[(1, .d (vI number)), (2, .d (.arr 1 ((values).map vI))), (6, .d (.v (.slice none 0 0))), (7, .d (vI 0)), (9, .row 0 1 0 (words2).length), (33, .d (.arr 4 ((f.channels).map FrChannel.d))), (34, .d (vI (f.channels.length : Int))), (35, .d (vI (W (x + 1))))], [some (lvI words2)]⟩, Nat.lt_succ_self _, .vw (κ := [0]) (vK (.row R .nil) R), words2, (W (x + 1)), h, R⟩
  intro c5
  replace h := ifF c5 h
  refine eN (sw_condF R (sw_skip (block_norm (then_norm (sw_rg (q_add R (q_movD R (eN ?_))))))))
  exact ⟨m1, ⟨[(1, .d (vI number)), (2, .d (.arr 1 ((values).map vI))), (6, .d (.v (.slice none 0 0))), (7, .d (vI 0)), (9, .row 0 1 0 (words).length), (33, .d (.arr 4 ((f.channels).map FrChannel.d))), (34, .d (vI (f.channels.length : Int))), (35, .d (vI (W (x + 1))))], [some (lvI words)]⟩, Nat.lt_succ_self _, .vw (κ := [0]) (vK (.row R .nil) R), words, (W (x + 1)), h, R⟩
 intro c4
 replace h := ifN (Int.not_lt.2 c4) h
 refine eN (sw_seq (sw_condF R (sw_exit (then_exit (then_exit ?_)))))
 subst hK1
 refine block_exit (then_norm (qG (r_movW R R R (r_asgW R R R (q_asgD R (eN (sw_ret ?_)))))))
 obtain rfl := sI h
 exact f2 [0] (.row R .nil) R (.cons (.tmp 6) (.cons (.tmp 7) .nil)) R
theorem frame_Commute_pc {F : Nat} {f : FrFormat} {number : Int} {values : (List Int)} {r : ((List Int) × Int)} (h : frame_Commute F f number values = some r) : PC Try.prog 22 [FrFormat.d f, .v (.int .i64 number), .arr 1 ((values).map vI)] (.tup [.arr 1 ((r.1).map vI), .v (.int .i64 r.2)]) := (frame_Commute_scr h).toPC (.tupL (.cons (.row rfl rfl) (.cons (.d _) .nil)))
def frame_Encode (F : Nat) (f : FrFormat) (number : Int) (words : (List Int)) : Option ((List Int) × Int) := Option.bind (frame_asked F f number) fun rv => if rv = 0 then (if (words.length : Int) = f.words then (Option.bind (frame_bad F words) fun rv2 => if rv2 = true then (some (([] : List Int), 7)) else (Option.bind (frame_bytes F f number words) fun rv3 => some (rv3, 0))) else (some (([] : List Int), 2))) else (some (([] : List Int), rv))
theorem frame_Encode_scr {F : Nat} {f : FrFormat} {number : Int} {words : (List Int)} {r : ((List Int) × Int)} (h : frame_Encode F f number words = some r) : SCR Try.prog 25 (List.map T.d [FrFormat.d f, .v (.int .i64 number), .arr 1 ((words).map vI)]) [] (.tup [.row 0 1 0 (r.1).length, .d (.v (.int .i64 r.2))]) (List.map some [(lv8 r.1)]) := by
 rw [frame_Encode] at h
 refine SC.of_sw Try.func25 R R R ?_
 dsimp only [argS, List.map]
 refine qG (q_box R (q_asgD R (q_asgD R (eN (qG (q_ldD (y := FrFormat.d f) tb R (q_movD R ?_)))))))
 obtain ⟨rv, hrv, h⟩ := bnd h
 refine r_call (frame_asked_pc hrv) (.of (by kernel_rfl)) R R R R (q_asgD R (eN (sw_seq (sw_block (qG (q_movD R ?_))))))
 refine r_neq R R R R ?_ ?_
 ·intro c
  replace h := ifN c h
  refine q_asgD R (eN (sw_condT R (qG (q_movD R (q_asgD R (q_asgD R (eN ?_)))))))
  refine SW.own (ts' := [(6, .row 1 1 0 (([] : List Int)).length), (7, .d (vI rv))]) (L' := [some ⟨4, [.d (FrFormat.d f)]⟩]) 1 R R (.cons .nil (.cons (.same _) .nil)) (.same .nil) ?_
  simp only [List.cons_append, List.nil_append]
  refine sw_ret (block_ret (then_ret ?_))
  obtain rfl := sI h
  exact f2 [1] (.row R .nil) R (.cons (.tmp 6) (.cons (.tmp 7) .nil)) R
 intro c
 replace h := ifP c h
 refine q_asgD R (eN (sw_condF R (qG (q_movD R (q_lenM tb R (q_fa tb R (q_ldD (y := vI f.words) tb R ?_)))))))
 refine r_neq R R R R ?_ ?_
 ·intro c2
  replace h := ifN c2 h
  refine q_asgD R (eN (sw_condT R (qG (q_asgD R (q_asgD R (eN ?_))))))
  refine SW.own (ts' := [(6, .row 1 1 0 (([] : List Int)).length), (7, .d (vI 2))]) (L' := [some ⟨4, [.d (FrFormat.d f)]⟩]) 1 R R (.cons .nil (.cons (.same _) .nil)) (.same .nil) ?_
  simp only [List.cons_append, List.nil_append]
  refine sw_ret (block_ret (then_ret ?_))
  obtain rfl := sI h
  exact f2 [1] (.row R .nil) R (.cons (.tmp 6) (.cons (.tmp 7) .nil)) R
 intro c2
 replace h := ifP c2 h
 refine q_asgD R (eN (sw_condF R (qG (q_movD R ?_))))
 obtain ⟨rv2, hrv2, h⟩ := bnd h
 refine r_callB (frame_bad_pc hrv2) (.of (by kernel_rfl)) R R R R ?_ ?_
 ·intro c3
  replace h := ifP c3 h
  refine q_asgD R (eN (sw_condT R (qG (q_asgD R (q_asgD R (eN ?_))))))
  refine SW.own (ts' := [(6, .row 1 1 0 (([] : List Int)).length), (7, .d (vI 7))]) (L' := [some ⟨4, [.d (FrFormat.d f)]⟩]) 1 R R (.cons .nil (.cons (.same _) .nil)) (.same .nil) ?_
  simp only [List.cons_append, List.nil_append]
  refine sw_ret (block_ret (then_ret ?_))
  obtain rfl := sI h
  exact f2 [1] (.row R .nil) R (.cons (.tmp 6) (.cons (.tmp 7) .nil)) R
 intro c3
 replace h := ifF c3 h
 refine q_asgD R (eN (sw_condF R (sw_skip (block_norm (then_norm (qG (q_ldD (y := FrFormat.d f) tb R (q_movD R (q_movD R ?_)))))))))
 obtain ⟨rv3, hrv3, h⟩ := bnd h
 refine r_callN (t' := .row 1 1 0 (rv3).length) (news' := [(lv8 rv3)]) (frame_bytes_scr hrv3) (.of (by kernel_rfl)) R R R ((.row .nil)) R R R (r_asgW R R R (q_asgD R (eN (sw_ret ?_))))
 obtain rfl := sI h
 exact f2 [1] (.row R .nil) R (.cons (.tmp 6) (.cons (.tmp 7) .nil)) R
theorem frame_Encode_pc {F : Nat} {f : FrFormat} {number : Int} {words : (List Int)} {r : ((List Int) × Int)} (h : frame_Encode F f number words = some r) : PC Try.prog 25 [FrFormat.d f, .v (.int .i64 number), .arr 1 ((words).map vI)] (.tup [.arr 1 ((r.1).map v8), .v (.int .i64 r.2)]) := (frame_Encode_scr h).toPC (.tupL (.cons (.row rfl rfl) (.cons (.d _) .nil)))
def slices_Equal_byte_L1 (F : Nat) (s1 : (List Int)) (s2 : (List Int)) (K : Int → Option Bool) : Nat → Int → Option Bool
 | 0, _ => none
 | n + 1, x => if x < (s1.length : Int) then (Option.bind (ixO s1 x) fun e => Option.bind (ixO s2 x) fun e2 => if e = e2 then (slices_Equal_byte_L1 F s1 s2 K n (W (x + 1))) else (some false)) else (K x)
def slices_Equal_byte (F : Nat) (s1 : (List Int)) (s2 : (List Int)) : Option Bool := if (s1.length : Int) = (s2.length : Int) then (slices_Equal_byte_L1 F s1 s2 (fun (x : Int) => some true) F 0) else (some false)
theorem slices_Equal_byte_pc {F : Nat} {s1 : (List Int)} {s2 : (List Int)} {r : Bool} (h : slices_Equal_byte F s1 s2 = some r) : PC Try.prog 104 [.arr 1 ((s1).map v8), .arr 1 ((s2).map v8)] (.v (.bool r)) := by
 rw [slices_Equal_byte] at h
 refine SC.of_sw Try.func104 R R R ?_
 dsimp only [argS, List.map]
 refine qG (q_asgD R (eN (sw_seq (qG (q_movD R (q_lenM tb R (q_movD R (q_lenM tb R ?_))))))))
 refine r_neq R R R R ?_ ?_
 ·intro c
  replace h := ifN c h
  refine eN (sw_condT R (qG (q_asgD R (eN (sw_ret (then_ret ?_))))))
  obtain rfl := sI h
  exact f1 4 R
 intro c
 replace h := ifP c h
 refine eN (sw_condF R (sw_skip (then_norm (sw_seq (qG (q_movD R (q_lenM tb R (q_movD R (eN (sw_block ?_))))))))))
 obtain ⟨K2, hK2, h⟩ : ∃ K, K = _ ∧ slices_Equal_byte_L1 F s1 s2 K F 0 = some r := ⟨_, rfl, h⟩
 refine sw_loopS (fun m st => ∃ (x : Int), slices_Equal_byte_L1 F s1 s2 K2 m x = some r ∧ st = ⟨[(0, .d (.arr 1 ((s1).map v8))), (1, .d (.arr 1 ((s2).map v8))), (4, .d (.v (.bool false))), (12, .d (vI (s1.length : Int))), (13, .d (vI x))], []⟩) (.prn [0, 1, 4, 12, 13] R) ⟨0, h, R⟩ ?_
 clear h
 rintro m2 st ⟨x, h, rfl⟩
 cases m2 with
 | zero => cases (show (none : Option Bool) = some r from h)
 | succ m2 =>
 rw [slices_Equal_byte_L1] at h
 refine qG ?_
 refine r_lss R R R R ?_ ?_
 ·intro c2
  replace h := ifP c2 h
  refine eN (sw_seq (sw_condT R (sw_skip (then_norm (sw_seq (sw_block (qG (q_movD R (q_asgD R (eN (sw_seq (sw_dr (by kernel_rfl) (q_movD R (q_movD R ?_))))))))))))))
  obtain ⟨e, ie, h⟩ := bnd h
  refine q_ixE tb (ix0 ie) (ix1m ie) R (q_ldE (y := .v (.int .u8 e)) tb (ix2 (g := v8) ie) R (q_movD R (q_movD R ?_)))
  obtain ⟨e2, ie2, h⟩ := bnd h
  refine q_ixE tb (ix0 ie2) (ix1m ie2) R (q_ldE (y := .v (.int .u8 e2)) tb (ix2 (g := v8) ie2) R ?_)
  refine r_neq R R R R ?_ ?_
  ·intro c3
   replace h := ifN c3 h
   refine ev_endD (by kernel_rfl) (then_norm (sw_condT R (qG (q_asgD R (eN (sw_ret (block_ret (then_ret (then_ret (block_ret (then_ret ?_)))))))))))
   obtain rfl := sI h
   exact f1 4 R
  intro c3
  replace h := ifP c3 h
  refine ev_endD (by kernel_rfl) (then_norm (sw_condF R (sw_skip (block_norm (then_norm (sw_rg (q_add R (q_movD R (eN ?_)))))))))
  exact ⟨m2, _, Nat.lt_succ_self _, .prn [0, 1, 4, 12, 13] R, (W (x + 1)), h, R⟩
 intro c2
 replace h := ifN (Int.not_lt.2 c2) h
 refine eN (sw_seq (sw_condF R (sw_exit (then_exit (then_exit ?_)))))
 subst hK2
 refine block_exit (then_norm (qG (q_asgD R (eN (sw_ret ?_)))))
 obtain rfl := sI h
 exact f1 4 R
def frame_frames (F : Nat) (f : FrFormat) (b : (List Int)) : Option (Int × (List Int) × Int × FrFormat) := some ((W ((W ((W ((f.sync.size : Int) + 1)) + (W (2 * f.words)))) + 2)), b, (f.sync.size : Int), f)
theorem frame_frames_scr {F : Nat} {f : FrFormat} {b : (List Int)} {r : (Int × (List Int) × Int × FrFormat)} (h : frame_frames F f b = some r) : SCR Try.prog 72 (List.map T.d [FrFormat.d f, .arr 1 ((b).map v8)]) [] (.fn (.func 103) [] [.ref 0 1 0 0, .ref 1 1 0 0, .ref 2 1 0 0, .ref 3 4 0 0]) (List.map some [⟨1, [.d (.v (.int .i64 r.1))]⟩, ⟨1, [.d (.arr 1 ((r.2.1).map v8))]⟩, ⟨1, [.d (.v (.int .i64 r.2.2.1))]⟩, ⟨4, [.d (FrFormat.d r.2.2.2)]⟩]) := by
 rw [frame_frames] at h
 refine SC.of_sw Try.func72 R R R ?_
 dsimp only [argS, List.map]
 refine qG (q_box R (q_box R (q_asgD R (eN (qG (q_fa tb R (q_ldD (y := .v (.string f.sync)) tb R (r_lenS R R R R (r_alloc tb R R R R R (q_stE _ _ tb R (eN (qG (q_ldD (y := vI (f.sync.size : Int)) tb R (q_add R (q_fa tb R (q_ldD (y := vI f.words) tb R (r_mul R R R R (q_add R (q_add R (r_alloc tb R R R R R (q_stE _ _ tb R (eN (qG (r_func R R R R (r_asgF R R R (eN (sw_ret ?_)))))))))))))))))))))))))))
 obtain rfl := sI h
 exact f2 [3, 1, 2, 0] (.cons R R (.cons R R (.cons R R (.cons R R .nil)))) R (.cons (.tmp 4) .nil) R
def frame_Decode_1 (F : Nat) (untilv : Int) (c : Int) (c2 : (List FrGap)) : Option (Int × (List FrGap)) := if c < untilv then (Option.bind (appO c2 [(FrGap.mk c untilv)]) fun q => some (c, q)) else (none)
theorem frame_Decode_1_scr {F : Nat} {untilv : Int} {c : Int} {c2 : (List FrGap)} {r : (Int × (List FrGap))} (h : frame_Decode_1 F untilv c c2 = some r) : SCR Try.prog 71 [.d (.v (.int .i64 untilv)), .ref 0 1 0 0, .ref 1 1 0 0] [some ⟨1, [.d (.v (.int .i64 c))]⟩, some ⟨1, [.row 2 2 0 (c2).length]⟩, some (lFrGapd c2)] (.d (.tup [])) [some ⟨1, [.d (.v (.int .i64 r.1))]⟩, some ⟨1, [.row 3 2 0 (r.2).length]⟩, none, some (lFrGapd r.2)] := by
 rw [frame_Decode_1] at h
 refine SC.of_sw Try.func71 R R R ?_
 dsimp only [argS, List.map]
 refine qG (q_ldD (y := vI c) tb R (q_movD R ?_))
 refine r_lss R R R R ?_ ?_
 ·intro c3
  replace h := ifP c3 h
  refine eN (sw_condT R (sw_rg (r_ldW tb R R R R R R R R R (q_ldD (y := vI c) tb R (q_movD R (r_build (v := .d (.agg [vI c, vI untilv])) tb R R (List.cons_ne_nil _ _) R R R R R R (r_bslice tb R R R R R R R R R R R R R ?_)))))))
  obtain ⟨q, iq, h⟩ := bnd h
  refine r_apM (g := FrGap.d) (w := c2) (v := [(FrGap.mk c untilv)]) ([some ⟨1, [.d (vI c)]⟩, some ⟨1, [.row 2 2 0 (c2).length]⟩, none, some (lFrGapd [(FrGap.mk c untilv)])]) tb R R R R R R R R R R R iq R R R R R (q_stE _ _ tb R (ev_end ?_))
  obtain rfl := sI h
  exact fin_n (fin_S (t := .d (.tup [])) (L := [some ⟨1, [.d (vI c)]⟩, some ⟨1, [.row 3 2 0 (q).length]⟩, none, some (lFrGapd q)]) (κ := [0, 1, 2, 4]) R .nil (vK (.cons R R (.cons R R (.gone R (.row R .nil)))) R) ⟨R, R⟩)
 intro c3
 replace h := ifN (Int.not_lt.2 c3) h
 cases h
def frame_Decode_1_m (F : Nat) (untilv : Int) (c : Int) (c2 : (List FrGap)) : Option (Int × (List FrGap)) := if c < untilv then (none) else (some (c, c2))
theorem frame_Decode_1_m_scr {F : Nat} {untilv : Int} {c : Int} {c2 : (List FrGap)} {r : (Int × (List FrGap))} (h : frame_Decode_1_m F untilv c c2 = some r) : SCR Try.prog 71 [.d (.v (.int .i64 untilv)), .ref 0 1 0 0, .ref 1 1 0 0] [some ⟨1, [.d (.v (.int .i64 c))]⟩, some ⟨1, [.row 2 2 0 (c2).length]⟩, some (lFrGapd c2)] (.d (.tup [])) [some ⟨1, [.d (.v (.int .i64 r.1))]⟩, some ⟨1, [.row 2 2 0 (r.2).length]⟩, some (lFrGapd r.2)] := by
 rw [frame_Decode_1_m] at h
 refine SC.of_sw Try.func71 R R R ?_
 dsimp only [argS, List.map]
 refine qG (q_ldD (y := vI c) tb R (q_movD R ?_))
 refine r_lss R R R R ?_ ?_
 ·intro c3
  replace h := ifP c3 h
  cases h
 intro c3
 replace h := ifN (Int.not_lt.2 c3) h
 refine eN (sw_condF R (sw_skip ?_))
 obtain rfl := sI h
 exact fin_n (fin_S (t := .d (.tup [])) (L := [some ⟨1, [.d (vI c)]⟩, some ⟨1, [.row 2 2 0 (c2).length]⟩, some (lFrGapd c2)]) (κ := [0, 1, 2]) R .nil (vK (.cons R R (.cons R R (.row R .nil))) R) ⟨R, R⟩)
def frame_Decode_L1 (F : Nat) (rv2 : (Int × (List Int) × Int × FrFormat)) (q : (List Int)) (K : (List Int) → Int → Option ((List FrFrame) × (List FrGap) × Int)) : Nat → (List Int) → Int → Option ((List FrFrame) × (List FrGap) × Int)
 | 0, _, _ => none
 | n + 1, lv3, x2 => if x2 < (W (rv2.1 - 2)) then (Option.bind (ixO q x2) fun e2 => Option.bind (ixO q (W (x2 + 1))) fun e3 => Option.bind (appO lv3 [(ior .i64 (ishl .i64 (W e2) 8) (W e3))]) fun q6 => frame_Decode_L1 F rv2 q K n q6 (W (x2 + 2))) else (K lv3 x2)
def frame_Decode_L2 (F : Nat) (f : FrFormat) (rv2 : (Int × (List Int) × Int × FrFormat)) (K : Int → (List FrFrame) → (List FrGap) → Int → Option ((List FrFrame) × (List FrGap) × Int)) : Nat → Int → (List FrFrame) → (List FrGap) → Int → Option ((List FrFrame) × (List FrGap) × Int)
 | 0, _, _, _, _ => none
 | n + 1, y3, lv, lv2, x => if (W (y3 + rv2.1)) ≤ (rv2.2.1.length : Int) then (Option.bind (cutO rv2.2.1 y3 (W (y3 + rv2.1))) fun q => Option.bind (cutO q 0 rv2.2.2.1) fun q2 => Option.bind (strO q2) fun q3 => if q3.toList = rv2.2.2.2.sync.toList then (Option.bind (cutO q (W (rv2.1 - 2)) q.length) fun q4 => Option.bind (cutO q 0 (W (rv2.1 - 2))) fun q5 => Option.bind (frame_Sum F q5) fun rv3 => Option.bind (frame_pair F rv3) fun rv4 => Option.bind (slices_Equal_byte F q4 rv4) fun rv5 => if rv5 = true then (Option.bind (ixO q rv2.2.2.1) fun e => frame_Decode_L1 F rv2 q (fun (lv3 : (List Int)) (x2 : Int) => Option.bind (appO lv [(FrFrame.mk y3 (W e) lv3)]) fun q7 => if x < y3 then (Option.bind (frame_Decode_1 F y3 x lv2) fun rv6 => frame_Decode_L2 F f rv2 K n (W (y3 + rv2.1)) q7 rv6.2 (W ((W ((W ((W (y3 + (f.sync.size : Int))) + 1)) + (W (2 * f.words)))) + 2))) else (Option.bind (frame_Decode_1_m F y3 x lv2) fun rv7 => frame_Decode_L2 F f rv2 K n (W (y3 + rv2.1)) q7 rv7.2 (W ((W ((W ((W (y3 + (f.sync.size : Int))) + 1)) + (W (2 * f.words)))) + 2)))) F ([] : List Int) (W (rv2.2.2.1 + 1))) else (frame_Decode_L2 F f rv2 K n (W (y3 + 1)) lv lv2 x)) else (frame_Decode_L2 F f rv2 K n (W (y3 + 1)) lv lv2 x)) else (K y3 lv lv2 x)
def frame_Decode (F : Nat) (f : FrFormat) (b : (List Int)) : Option ((List FrFrame) × (List FrGap) × Int) := Option.bind (frame_Check F f) fun rv => if rv.2.2 = 0 then (if 4000 < (b.length : Int) then (some (([] : List FrFrame), ([] : List FrGap), 3)) else (Option.bind (frame_frames F f b) fun rv2 => frame_Decode_L2 F f rv2 (fun (y3 : Int) (lv : (List FrFrame)) (lv2 : (List FrGap)) (x : Int) => if x < (b.length : Int) then (Option.bind (frame_Decode_1 F (b.length : Int) x lv2) fun rv8 => some (lv, rv8.2, 0)) else (Option.bind (frame_Decode_1_m F (b.length : Int) x lv2) fun rv9 => some (lv, rv9.2, 0))) F 0 ([] : List FrFrame) ([] : List FrGap) 0)) else (some (([] : List FrFrame), ([] : List FrGap), rv.2.2))
theorem frame_Decode_scr {F : Nat} {f : FrFormat} {b : (List Int)} {r : ((List FrFrame) × (List FrGap) × Int)} (h : frame_Decode F f b = some r) : SCR Try.prog 31 (List.map T.d [FrFormat.d f, .arr 1 ((b).map v8)]) [] (.tup [.row 0 3 0 (r.1).length, .row 1 2 0 (r.2.1).length, .d (.v (.int .i64 r.2.2))]) (List.map some [(lFrFramed r.1), (lFrGapd r.2.1)]) := by
 rw [frame_Decode] at h
 refine SC.of_swm Try.func31 R R R ?_
 dsimp only [argS, List.map]
 refine swm_seq ?_
 refine swm_of fun df => ?_
 refine sw_rg (q_box R (r_alloc tb R R R R R (r_alloc tb R R R R R (q_asgD R (eN (swm_seq ?_))))))
 refine swm_of fun df => ?_
 refine qG (q_ldD (y := FrFormat.d f) tb R ?_)
 obtain ⟨rv, hrv, h⟩ := bnd h
 refine r_call (frame_Check_pc hrv) (.of (by kernel_rfl)) R R R R (q_movD R (r_extD (t := vI rv.1) R R R R (r_extD (t := vI rv.2.1) R R R R (r_extD (t := vI rv.2.2) R R R R (q_asgD R (eN (qG (q_movD R ?_))))))))
 refine r_neq R R R R ?_ ?_
 ·intro c
  replace h := ifN c h
  refine eN (sw_condT R (qG (q_movD R (q_stE _ _ tb R (q_stE _ _ tb R (q_asgD R (eN ?_)))))))
  refine SW.own (ts' := [(4, .ref 1 1 0 0), (5, .ref 2 1 0 0), (6, .d (vI rv.2.2))]) (L' := [some ⟨4, [.d (FrFormat.d f)]⟩, some ⟨1, [.row 3 3 0 (([] : List FrFrame)).length]⟩, some ⟨1, [.d (.v (.slice none 0 0))]⟩]) 3 R R (.cons (.same _) (.cons (.same _) (.cons (.same _) .nil))) (.same (.cons R (.cons .nil .nil) (.same .nil))) ?_
  simp only [List.cons_append, List.nil_append]
  refine SW.own (ts' := [(4, .ref 1 1 0 0), (5, .ref 2 1 0 0), (6, .d (vI rv.2.2))]) (L' := [some ⟨4, [.d (FrFormat.d f)]⟩, some ⟨1, [.row 3 3 0 (([] : List FrFrame)).length]⟩, some ⟨1, [.row 4 2 0 (([] : List FrGap)).length]⟩, some (lFrFramed ([] : List FrFrame))]) 2 R R (.cons (.same _) (.cons (.same _) (.cons (.same _) .nil))) (.same (.same (.cons R (.cons .nil .nil) (.same .nil)))) ?_
  simp only [List.cons_append, List.nil_append]
  refine sw_ret (then_ret ?_)
  obtain rfl := sI h
  exact f2 [3, 4] (.row R (.row R .nil)) R (.cons (rc tb R) (.cons (rc tb R) (.cons (.tmp 6) .nil))) R
 intro c
 replace h := ifP c h
 refine eN (sw_condF R (sw_skip (then_norm (swm_seq ?_))))
 refine swm_of fun df => ?_
 refine qG (q_movD R (q_lenM tb R ?_))
 refine r_gtr R R R R ?_ ?_
 ·intro c2
  replace h := ifP c2 h
  refine eN (sw_condT R (qG (q_stE _ _ tb R (q_stE _ _ tb R (q_asgD R (eN ?_))))))
  refine SW.own (ts' := [(4, .ref 1 1 0 0), (5, .ref 2 1 0 0), (6, .d (vI 3))]) (L' := [some ⟨4, [.d (FrFormat.d f)]⟩, some ⟨1, [.row 3 3 0 (([] : List FrFrame)).length]⟩, some ⟨1, [.d (.v (.slice none 0 0))]⟩]) 3 R R (.cons (.same _) (.cons (.same _) (.cons (.same _) .nil))) (.same (.cons R (.cons .nil .nil) (.same .nil))) ?_
  simp only [List.cons_append, List.nil_append]
  refine SW.own (ts' := [(4, .ref 1 1 0 0), (5, .ref 2 1 0 0), (6, .d (vI 3))]) (L' := [some ⟨4, [.d (FrFormat.d f)]⟩, some ⟨1, [.row 3 3 0 (([] : List FrFrame)).length]⟩, some ⟨1, [.row 4 2 0 (([] : List FrGap)).length]⟩, some (lFrFramed ([] : List FrFrame))]) 2 R R (.cons (.same _) (.cons (.same _) (.cons (.same _) .nil))) (.same (.same (.cons R (.cons .nil .nil) (.same .nil)))) ?_
  simp only [List.cons_append, List.nil_append]
  refine sw_ret (then_ret ?_)
  obtain rfl := sI h
  exact f2 [3, 4] (.row R (.row R .nil)) R (.cons (rc tb R) (.cons (rc tb R) (.cons (.tmp 6) .nil))) R
 intro c2
 replace h := ifN (Int.not_lt.2 c2) h
 refine eN (sw_condF R (sw_skip (then_norm (swm_seq ?_))))
 refine swm_of fun df => ?_
 refine sw_rg (r_alloc tb R R R R R (q_stE _ _ tb R (eN (swm_seq ?_))))
 refine swm_of fun df => ?_
 refine sw_rg (r_func R R R R (r_alloc tb R R R R R (q_stE _ _ tb R (eN (swm_seq (swm_seq ?_))))))
 refine swm_of fun df => ?_
 refine sw_rg (q_ldD (y := FrFormat.d f) tb R (q_movD R ?_))
 obtain ⟨rv2, hrv2, h⟩ := bnd h
 refine r_callN (t' := .fn (.func 103) [] [.ref 5 1 0 0, .ref 6 1 0 0, .ref 7 1 0 0, .ref 8 4 0 0]) (news' := [⟨1, [.d (vI rv2.1)]⟩, ⟨1, [.d (.arr 1 ((rv2.2.1).map v8))]⟩, ⟨1, [.d (vI rv2.2.2.1)]⟩, ⟨4, [.d (FrFormat.d rv2.2.2.2)]⟩]) (frame_frames_scr hrv2) (.of (by kernel_rfl)) R R R ((.cons R (.cons R (.cons R (.cons R .nil))))) R R R (eN (swm_block ?_))
 refine swm_range (.of (by kernel_rfl)) Try.func103 R R R R R R fun lb => ?_
 simp only [argS, Nat.zero_add, Nat.reduceAdd]
 refine swj_seq (swj_rg (rgj_ev (q_asgD R (ev_endJ (thenj_norm (swj_block ?_))))))
 refine SWJ.own (ts' := [(0, .d (.v (.func (.yield lb) #[] #[]))), (1, .ref 5 1 0 0), (2, .ref 6 1 0 0), (3, .ref 7 1 0 0), (4, .ref 8 4 0 0), (6, .d (vI 0))]) (L' := [some ⟨4, [.d (FrFormat.d f)]⟩, some ⟨1, [.row 9 3 0 (([] : List FrFrame)).length]⟩, some ⟨1, [.d (.v (.slice none 0 0))]⟩, some ⟨1, [.d (vI 0)]⟩, some ⟨1, [.fn (.func 71) [] [.ref 3 1 0 0, .ref 2 1 0 0]]⟩, some ⟨1, [.d (vI rv2.1)]⟩, some ⟨1, [.d (.arr 1 ((rv2.2.1).map v8))]⟩, some ⟨1, [.d (vI rv2.2.2.1)]⟩, some ⟨4, [.d (FrFormat.d rv2.2.2.2)]⟩]) 3 R R (.cons (.same _) (.cons (.same _) (.cons (.same _) (.cons (.same _) (.cons (.same _) (.cons (.same _) .nil)))))) (.same (.cons R (.cons .nil .nil) (.same (.same (.same (.same (.same (.same (.same .nil))))))))) ?_
 simp only [List.cons_append, List.nil_append]
 refine SWJ.own (ts' := [(0, .d (.v (.func (.yield lb) #[] #[]))), (1, .ref 5 1 0 0), (2, .ref 6 1 0 0), (3, .ref 7 1 0 0), (4, .ref 8 4 0 0), (6, .d (vI 0))]) (L' := [some ⟨4, [.d (FrFormat.d f)]⟩, some ⟨1, [.row 9 3 0 (([] : List FrFrame)).length]⟩, some ⟨1, [.row 10 2 0 (([] : List FrGap)).length]⟩, some ⟨1, [.d (vI 0)]⟩, some ⟨1, [.fn (.func 71) [] [.ref 3 1 0 0, .ref 2 1 0 0]]⟩, some ⟨1, [.d (vI rv2.1)]⟩, some ⟨1, [.d (.arr 1 ((rv2.2.1).map v8))]⟩, some ⟨1, [.d (vI rv2.2.2.1)]⟩, some ⟨4, [.d (FrFormat.d rv2.2.2.2)]⟩, some (lFrFramed ([] : List FrFrame))]) 2 R R (.cons (.same _) (.cons (.same _) (.cons (.same _) (.cons (.same _) (.cons (.same _) (.cons (.same _) .nil)))))) (.same (.same (.cons R (.cons .nil .nil) (.same (.same (.same (.same (.same (.same (.same .nil)))))))))) ?_
 simp only [List.cons_append, List.nil_append]
 obtain ⟨K9, hK9, h⟩ : ∃ K, K = _ ∧ frame_Decode_L2 F f rv2 K F 0 ([] : List FrFrame) ([] : List FrGap) 0 = some r := ⟨_, rfl, h⟩
 refine swj_loopS (fun m ph st => ∃ (y3 : Int) (lv : (List FrFrame)) (lv2 : (List FrGap)) (x : Int), frame_Decode_L2 F f rv2 K9 m y3 lv lv2 x = some r ∧ ph = SX.norm ∧ st = ⟨[(0, .d (.v (.func (.yield lb) #[] #[]))), (1, .ref 5 1 0 0), (2, .ref 6 1 0 0), (3, .ref 7 1 0 0), (4, .ref 8 4 0 0), (6, .d (vI y3))], [some ⟨4, [.d (FrFormat.d f)]⟩, some ⟨1, [.row 9 3 0 (lv).length]⟩, some ⟨1, [.row 10 2 0 (lv2).length]⟩, some ⟨1, [.d (vI x)]⟩, some ⟨1, [.fn (.func 71) [] [.ref 3 1 0 0, .ref 2 1 0 0]]⟩, some ⟨1, [.d (vI rv2.1)]⟩, some ⟨1, [.d (.arr 1 ((rv2.2.1).map v8))]⟩, some ⟨1, [.d (vI rv2.2.2.1)]⟩, some ⟨4, [.d (FrFormat.d rv2.2.2.2)]⟩, some (lFrFramed lv), some (lFrGapd lv2)]⟩) (.prn [0, 1, 2, 3, 4, 6] R) ⟨0, ([] : List FrFrame), ([] : List FrGap), 0, h, R, R⟩ ?_
 clear h
 rintro m9 ph st ⟨y3, lv, lv2, x, h, rfl, rfl⟩
 cases m9 with
 | zero => cases (show (none : Option ((List FrFrame) × (List FrGap) × Int)) = some r from h)
 | succ m9 =>
 rw [frame_Decode_L2] at h
 refine swj_seq (swj_seq (swj_rg (rgj_ev (q_movD R (q_ldD (y := vI rv2.1) tb R (q_add R (q_ldD (y := .arr 1 ((rv2.2.1).map v8)) tb R (q_lenM tb R ?_))))))))
 refine r_leq R R R R ?_ ?_
 ·intro c3
  replace h := ifP c3 h
  refine ev_endJ (thenj_norm (swj_condT R (swj_skip (thenj_norm (swj_block (swj_seq (swj_rg (rgj_ev (q_ldD (y := .arr 1 ((rv2.2.1).map v8)) tb R (q_movD R (q_movD R (q_ldD (y := vI rv2.1) tb R (q_add R ?_)))))))))))))
  obtain ⟨q, iq, h⟩ := bnd h
  refine r_sliceLH tb R R R R R R R iq R R (q_asgD R (ev_endJ (thenj_norm (swj_seq (swj_seq (swj_of (sw_dr (by kernel_rfl) (q_movD R (q_ldD (y := vI rv2.2.2.1) tb R ?_)))))))))
  obtain ⟨q2, iq2, h⟩ := bnd h
  refine r_sliceT tb R R R R R R iq2 R R ?_
  obtain ⟨q3, iq3, h⟩ := bnd h
  refine r_strD R R R R iq3 R R (q_fa tb R (q_ldD (y := .v (.string rv2.2.2.2.sync)) tb R ?_))
  refine r_strneq R R R R ?_ ?_
  ·intro c4
   replace h := ifN c4 h
   refine q_movD R (q_sk 12 R (q_pickT R (ev_endD (by kernel_rfl) (thenj_norm (swj_condT R (swj_seq (swj_rg (rgj_ev (q_movD R (q_add R (q_asgD R (ev_endJ (thenj_norm (swj_exit (thenj_exit (blockj_exit (thenj_norm ?_)))))))))))))))))
   exact ⟨m9, _, Nat.lt_succ_self _, .prn [0, 1, 2, 3, 4, 6] R, (W (y3 + 1)), lv, lv2, x, h, R, R⟩
  intro c4
  replace h := ifP c4 h
  refine q_movD R (q_movD R (q_ldD (y := vI rv2.1) tb R (r_sub R R R R ?_)))
  obtain ⟨q4, iq4, h⟩ := bnd h
  refine r_sliceL tb R R R R R R iq4 R R (q_movD R (q_ldD (y := vI rv2.1) tb R (r_sub R R R R ?_)))
  obtain ⟨q5, iq5, h⟩ := bnd h
  refine r_sliceT tb R R R R R R iq5 R R ?_
  obtain ⟨rv3, hrv3, h⟩ := bnd h
  refine r_call (frame_Sum_pc hrv3) (.of (by kernel_rfl)) R R R R ?_
  obtain ⟨rv4, hrv4, h⟩ := bnd h
  refine r_callN (t' := .row 11 1 0 (rv4).length) (news' := [(lv8 rv4)]) (frame_pair_scr hrv4) (.of (by kernel_rfl)) R R R ((.row .nil)) R R R ?_
  obtain ⟨rv5, hrv5, h⟩ := bnd h
  refine r_callLB (slices_Equal_byte_pc hrv5) (.of (by kernel_rfl)) R R ((.cons (.d _) (.cons (.row R R) .nil))) R R ?_ ?_
  ·intro c5
   replace h := ifP c5 h
   refine r_notT R R R (q_pickF R (ev_endD (by kernel_rfl) (thenj_norm (swj_condF R (swj_skip (thenj_norm (swj_seq (swj_rg (rgj_ev (q_movD R (q_movD R (q_ldD (y := vI rv2.2.2.1) tb R ?_))))))))))))
   obtain ⟨e, ie, h⟩ := bnd h
   refine q_ixE tb (ix0 ie) (ix1m ie) R (q_ldE (y := .v (.int .u8 e)) tb (ix2 (g := v8) ie) R (r_cvI (k2 := .i64) R R R R R R (r_build (v := .d (.agg [vI y3, vI (W e), .v (.slice none 0 0)])) tb R R (List.cons_ne_nil _ _) R R R R R R (r_alloc tb R R R R R (q_stE _ _ tb R (ev_endJ (thenj_norm (swj_seq (swj_seq (swj_rg (rgj_ev (q_ldD (y := vI rv2.2.2.1) tb R (q_add R (q_asgD R (ev_endJ (thenj_norm (swj_block ?_)))))))))))))))))
   refine SWJ.own (ts' := [(0, .d (.v (.func (.yield lb) #[] #[]))), (1, .ref 5 1 0 0), (2, .ref 6 1 0 0), (3, .ref 7 1 0 0), (4, .ref 8 4 0 0), (6, .d (vI y3)), (7, .d (.arr 1 ((q).map v8))), (8, .ref 12 3 0 0), (9, .d (vI (W (rv2.2.2.1 + 1))))]) (L' := [some ⟨4, [.d (FrFormat.d f)]⟩, some ⟨1, [.row 9 3 0 (lv).length]⟩, some ⟨1, [.row 10 2 0 (lv2).length]⟩, some ⟨1, [.d (vI x)]⟩, some ⟨1, [.fn (.func 71) [] [.ref 3 1 0 0, .ref 2 1 0 0]]⟩, some ⟨1, [.d (vI rv2.1)]⟩, some ⟨1, [.d (.arr 1 ((rv2.2.1).map v8))]⟩, some ⟨1, [.d (vI rv2.2.2.1)]⟩, some ⟨4, [.d (FrFormat.d rv2.2.2.2)]⟩, some (lFrFramed lv), some (lFrGapd lv2), some (lv8 rv4), some ⟨3, [.agg [.d (vI y3), .d (vI (W e)), .row 13 1 0 (([] : List Int)).length]]⟩]) 1 R R (.cons (.same _) (.cons (.same _) (.cons (.same _) (.cons (.same _) (.cons (.same _) (.cons (.same _) (.cons (.same _) (.cons (.same _) (.cons (.same _) .nil))))))))) (.same (.same (.same (.same (.same (.same (.same (.same (.same (.same (.same (.same (.cons R (.cons (.aggDL (.cons (.same _) (.cons (.same _) (.cons .nil .nil)))) .nil) .nil))))))))))))) ?_
   simp only [List.cons_append, List.nil_append]
   obtain ⟨K10, hK10, h⟩ : ∃ K, K = _ ∧ frame_Decode_L1 F rv2 q K F ([] : List Int) (W (rv2.2.2.1 + 1)) = some r := ⟨_, rfl, h⟩
   refine swj_loopS (st0 := ⟨[(0, .d (.v (.func (.yield lb) #[] #[]))), (1, .ref 5 1 0 0), (2, .ref 6 1 0 0), (3, .ref 7 1 0 0), (4, .ref 8 4 0 0), (6, .d (vI y3)), (7, .d (.arr 1 ((q).map v8))), (8, .ref 11 3 0 0), (9, .d (vI (W (rv2.2.2.1 + 1))))], [some ⟨4, [.d (FrFormat.d f)]⟩, some ⟨1, [.row 9 3 0 (lv).length]⟩, some ⟨1, [.row 10 2 0 (lv2).length]⟩, some ⟨1, [.d (vI x)]⟩, some ⟨1, [.fn (.func 71) [] [.ref 3 1 0 0, .ref 2 1 0 0]]⟩, some ⟨1, [.d (vI rv2.1)]⟩, some ⟨1, [.d (.arr 1 ((rv2.2.1).map v8))]⟩, some ⟨1, [.d (vI rv2.2.2.1)]⟩, some ⟨4, [.d (FrFormat.d rv2.2.2.2)]⟩, some (lFrFramed lv), some (lFrGapd lv2), some ⟨3, [.agg [.d (vI y3), .d (vI (W e)), .row 12 1 0 (([] : List Int)).length]]⟩, some (lvI ([] : List Int))]⟩) (fun m ph st => ∃ (lv3 : (List Int)) (x2 : Int), frame_Decode_L1 F rv2 q K10 m lv3 x2 = some r ∧ ph = SX.norm ∧ st = ⟨[(0, .d (.v (.func (.yield lb) #[] #[]))), (1, .ref 5 1 0 0), (2, .ref 6 1 0 0), (3, .ref 7 1 0 0), (4, .ref 8 4 0 0), (6, .d (vI y3)), (7, .d (.arr 1 ((q).map v8))), (8, .ref 11 3 0 0), (9, .d (vI x2))], [some ⟨4, [.d (FrFormat.d f)]⟩, some ⟨1, [.row 9 3 0 (lv).length]⟩, some ⟨1, [.row 10 2 0 (lv2).length]⟩, some ⟨1, [.d (vI x)]⟩, some ⟨1, [.fn (.func 71) [] [.ref 3 1 0 0, .ref 2 1 0 0]]⟩, some ⟨1, [.d (vI rv2.1)]⟩, some ⟨1, [.d (.arr 1 ((rv2.2.1).map v8))]⟩, some ⟨1, [.d (vI rv2.2.2.1)]⟩, some ⟨4, [.d (FrFormat.d rv2.2.2.2)]⟩, some (lFrFramed lv), some (lFrGapd lv2), some ⟨3, [.agg [.d (vI y3), .d (vI (W e)), .row 12 1 0 (lv3).length]]⟩, some (lvI lv3)]⟩) (.vw (κ := [0, 1, 2, 3, 4, 5, 6, 7, 8, 9, 10, 12, 13]) (vK (.cons R R (.cons R R (.cons R R (.cons R R (.cons R R (.cons R R (.cons R R (.cons R R (.cons R R (.row R (.row R (.cons R R (.row R .nil))))))))))))) R)) ⟨([] : List Int), (W (rv2.2.2.1 + 1)), h, R, R⟩ ?_
   clear h
   rintro m10 ph st ⟨lv3, x2, h, rfl, rfl⟩
   cases m10 with
   | zero => cases (show (none : Option ((List FrFrame) × (List FrGap) × Int)) = some r from h)
   | succ m10 =>
   rw [frame_Decode_L1] at h
   refine swj_seq (swj_seq (swj_rg (rgj_ev (q_movD R (q_ldD (y := vI rv2.1) tb R (r_sub R R R R ?_))))))
   refine r_lss R R R R ?_ ?_
   ·intro c6
    replace h := ifP c6 h
    refine ev_endJ (thenj_norm (swj_condT R (swj_skip (thenj_norm (swj_seq (swj_block (swj_of (sw_dr (by kernel_rfl) (q_fa tb R (r_ldW tb R R R R R R R R R (q_movD R (q_movD R ?_))))))))))))
    obtain ⟨e2, ie2, h⟩ := bnd h
    refine q_ixE tb (ix0 ie2) (ix1m ie2) R (q_ldE (y := .v (.int .u8 e2)) tb (ix2 (g := v8) ie2) R (r_cvI (k2 := .i64) R R R R R R (r_shl R R (by decide) R R (q_movD R (q_movD R (q_add R ?_))))))
    obtain ⟨e3, ie3, h⟩ := bnd h
    refine q_ixE tb (ix0 ie3) (ix1m ie3) R (q_ldE (y := .v (.int .u8 e3)) tb (ix2 (g := v8) ie3) R (r_cvI (k2 := .i64) R R R R R R (r_or R R R R (r_bslice tb R R R R R R R R R R R R R ?_))))
    obtain ⟨q6, iq6, h⟩ := bnd h
    refine r_apM (g := vI) (w := lv3) (v := [(ior .i64 (ishl .i64 (W e2) 8) (W e3))]) ([some ⟨4, [.d (FrFormat.d f)]⟩, some ⟨1, [.row 9 3 0 (lv).length]⟩, some ⟨1, [.row 10 2 0 (lv2).length]⟩, some ⟨1, [.d (vI x)]⟩, some ⟨1, [.fn (.func 71) [] [.ref 3 1 0 0, .ref 2 1 0 0]]⟩, some ⟨1, [.d (vI rv2.1)]⟩, some ⟨1, [.d (.arr 1 ((rv2.2.1).map v8))]⟩, some ⟨1, [.d (vI rv2.2.2.1)]⟩, some ⟨4, [.d (FrFormat.d rv2.2.2.2)]⟩, some (lFrFramed lv), some (lFrGapd lv2), some ⟨3, [.agg [.d (vI y3), .d (vI (W e)), .row 12 1 0 (lv3).length]]⟩, none, some (lvI [(ior .i64 (ishl .i64 (W e2) 8) (W e3))])]) tb R R R R R R R R R R R iq6 R R R R R ?_
    refine q_fa tb R (q_stE _ _ tb R (ev_endD (by kernel_rfl) (blockj_norm (thenj_norm (swj_rg (rgj_ev (q_movD R (q_add R (q_asgD R (ev_endJ (thenj_norm ?_)))))))))))
    exact ⟨m10, ⟨[(0, .d (.v (.func (.yield lb) #[] #[]))), (1, .ref 5 1 0 0), (2, .ref 6 1 0 0), (3, .ref 7 1 0 0), (4, .ref 8 4 0 0), (6, .d (vI y3)), (7, .d (.arr 1 ((q).map v8))), (8, .ref 11 3 0 0), (9, .d (vI (W (x2 + 2))))], [some ⟨4, [.d (FrFormat.d f)]⟩, some ⟨1, [.row 9 3 0 (lv).length]⟩, some ⟨1, [.row 10 2 0 (lv2).length]⟩, some ⟨1, [.d (vI x)]⟩, some ⟨1, [.fn (.func 71) [] [.ref 3 1 0 0, .ref 2 1 0 0]]⟩, some ⟨1, [.d (vI rv2.1)]⟩, some ⟨1, [.d (.arr 1 ((rv2.2.1).map v8))]⟩, some ⟨1, [.d (vI rv2.2.2.1)]⟩, some ⟨4, [.d (FrFormat.d rv2.2.2.2)]⟩, some (lFrFramed lv), some (lFrGapd lv2), some ⟨3, [.agg [.d (vI y3), .d (vI (W e)), .row 12 1 0 (q6).length]]⟩, some (lvI q6)]⟩, Nat.lt_succ_self _, .vw (κ := [0, 1, 2, 3, 4, 5, 6, 7, 8, 9, 10, 11, 14]) (vK (.cons R R (.cons R R (.cons R R (.cons R R (.cons R R (.cons R R (.cons R R (.cons R R (.cons R R (.row R (.row R (.cons R R (.row R .nil))))))))))))) R), q6, (W (x2 + 2)), h, R, R⟩
   intro c6
   replace h := ifN (Int.not_lt.2 c6) h
   refine ev_endJ (thenj_norm (swj_condF R (swj_exit (thenj_exit (thenj_exit ?_)))))
   subst hK10
   refine blockj_exit (thenj_norm (swj_seq (swj_seq ?_)))
   refine SWJ.fz (ts' := [(0, .d (.v (.func (.yield lb) #[] #[]))), (1, .ref 5 1 0 0), (2, .ref 6 1 0 0), (3, .ref 7 1 0 0), (4, .ref 8 4 0 0), (6, .d (vI y3)), (7, .d (.arr 1 ((q).map v8))), (8, .ref 11 3 0 0), (9, .d (vI x2)), (54, .d (vI x2)), (55, .d (vI rv2.1)), (56, .d (vI (W (rv2.1 - 2)))), (57, .d (.v (.bool false)))]) (L' := [some ⟨4, [.d (FrFormat.d f)]⟩, some ⟨1, [.row 9 3 0 (lv).length]⟩, some ⟨1, [.row 10 2 0 (lv2).length]⟩, some ⟨1, [.d (vI x)]⟩, some ⟨1, [.fn (.func 71) [] [.ref 3 1 0 0, .ref 2 1 0 0]]⟩, some ⟨1, [.d (vI rv2.1)]⟩, some ⟨1, [.d (.arr 1 ((rv2.2.1).map v8))]⟩, some ⟨1, [.d (vI rv2.2.2.1)]⟩, some ⟨4, [.d (FrFormat.d rv2.2.2.2)]⟩, some (lFrFramed lv), some (lFrGapd lv2), some ⟨3, [.d (.agg [vI y3, vI (W e), .arr 1 ((lv3).map vI)])]⟩, none]) (w := lv3) (f := vI) 12 1 R (.cons (.same _) (.cons (.same _) (.cons (.same _) (.cons (.same _) (.cons (.same _) (.cons (.same _) (.cons (.same _) (.cons (.same _) (.cons (.same _) (.cons (.same _) (.cons (.same _) (.cons (.same _) (.cons (.same _) .nil))))))))))))) (.same (.same (.same (.same (.same (.same (.same (.same (.same (.same (.same (.cons R (.cons (.aggDL (.cons (.same _) (.cons (.same _) (.cons (.all (List.length_map _)) .nil)))) .nil) (.same .nil))))))))))))) ?_
   refine swj_rg (rgj_ev (q_movD R (q_ldD (y := .agg [vI y3, vI (W e), .arr 1 ((lv3).map vI)]) tb R (ev_yieldJ ?_))))
   (with_reducible apply rgj_yield (ys := [.agg [vI y3, vI (W e), .arr 1 ((lv3).map vI)]])); (iterate 7 exact rfl)
   dsimp only [parS]
   refine sw_rg (r_alloc tb R R R R R (q_stE _ _ tb R (ev_end ?_)))
   refine ⟨R, swy_rd ?_⟩
   refine sw_block (qG (r_ldW tb R R R R R R R R R (q_ldD (y := .agg [vI y3, vI (W e), .arr 1 ((lv3).map vI)]) tb R (r_bslice tb R R R R R R R R R R R R R ?_))))
   obtain ⟨q7, iq7, h⟩ := bnd h
   refine r_apM (g := FrFrame.d) (w := lv) (v := [(FrFrame.mk y3 (W e) lv3)]) ([some ⟨4, [.d (FrFormat.d f)]⟩, some ⟨1, [.row 9 3 0 (lv).length]⟩, some ⟨1, [.row 10 2 0 (lv2).length]⟩, some ⟨1, [.d (vI x)]⟩, some ⟨1, [.fn (.func 71) [] [.ref 3 1 0 0, .ref 2 1 0 0]]⟩, some ⟨1, [.d (vI rv2.1)]⟩, some ⟨1, [.d (.arr 1 ((rv2.2.1).map v8))]⟩, some ⟨1, [.d (vI rv2.2.2.1)]⟩, some ⟨4, [.d (FrFormat.d rv2.2.2.2)]⟩, none, some (lFrGapd lv2), some ⟨3, [.d (.agg [vI y3, vI (W e), .arr 1 ((lv3).map vI)])]⟩, none, some ⟨3, [.d (.agg [vI y3, vI (W e), .arr 1 ((lv3).map vI)])]⟩, some (lFrFramed [(FrFrame.mk y3 (W e) lv3)])]) tb R R R R R R R R R R R iq7 R R R R R ?_
   refine q_stE _ _ tb R (eN (qG (r_ldT (.fn (.func 71) [] [.ref 3 1 0 0, .ref 2 1 0 0]) tb R R R R R R R R R (q_fa tb R (q_ldD (y := vI y3) tb R ?_)))))
   by_cases c7 : x < y3
   ·replace h := ifP c7 h
    obtain ⟨rv6, hrv6, h⟩ := bnd h
    refine r_callO (t' := .d (.tup [])) (ls := [some ⟨1, [.d (vI rv6.1)]⟩, some ⟨1, [.row 3 2 0 (rv6.2).length]⟩, none]) (news := [(lFrGapd rv6.2)]) ([3, 2, 10]) ([some ⟨4, [.d (FrFormat.d f)]⟩, some ⟨1, [.row 15 3 0 (q7).length]⟩, some ⟨1, [.row 16 2 0 (rv6.2).length]⟩, some ⟨1, [.d (vI rv6.1)]⟩, some ⟨1, [.fn (.func 71) [] [.ref 3 1 0 0, .ref 2 1 0 0]]⟩, some ⟨1, [.d (vI rv2.1)]⟩, some ⟨1, [.d (.arr 1 ((rv2.2.1).map v8))]⟩, some ⟨1, [.d (vI rv2.2.2.1)]⟩, some ⟨4, [.d (FrFormat.d rv2.2.2.2)]⟩, none, none, some ⟨3, [.d (.agg [vI y3, vI (W e), .arr 1 ((lv3).map vI)])]⟩, none, some ⟨3, [.d (.agg [vI y3, vI (W e), .arr 1 ((lv3).map vI)])]⟩, some (lFrFramed [(FrFrame.mk y3 (W e) lv3)]), some (lFrFramed q7), some (lFrGapd rv6.2)]) (frame_Decode_1_scr hrv6) (.of (by kernel_rfl)) R (.inr R) R R R R ((.cons R R (.cons R R (.row R .nil)))) R R R ((.cons R (.cons R (.gone .nil)))) ((.row .nil)) R R R R ?_
    refine eN (sw_rg (q_fa tb R (q_ldD (y := vI y3) tb R (q_fa tb R (q_ldD (y := .v (.string f.sync)) tb R (r_lenS R R R R (q_add R (q_add R (q_fa tb R (q_ldD (y := vI f.words) tb R (r_mul R R R R (q_add R (q_add R (q_stE _ _ tb R (ev_end (block_norm ?_))))))))))))))))
    refine ⟨[some ⟨4, [.d (FrFormat.d f)]⟩, some ⟨1, [.row 13 3 0 (q7).length]⟩, some ⟨1, [.row 14 2 0 (rv6.2).length]⟩, some ⟨1, [.d (vI (W ((W ((W ((W (y3 + (f.sync.size : Int))) + 1)) + (W (2 * f.words)))) + 2)))]⟩, some ⟨1, [.fn (.func 71) [] [.ref 3 1 0 0, .ref 2 1 0 0]]⟩, some ⟨1, [.d (vI rv2.1)]⟩, some ⟨1, [.d (.arr 1 ((rv2.2.1).map v8))]⟩, some ⟨1, [.d (vI rv2.2.2.1)]⟩, some ⟨4, [.d (FrFormat.d rv2.2.2.2)]⟩, none, none, some ⟨3, [.d (.agg [vI y3, vI (W e), .arr 1 ((lv3).map vI)])]⟩, none, some (lFrFramed q7), some (lFrGapd rv6.2)], [0, 1, 2, 3, 4, 5, 6, 7, 8, 9, 10, 11, 12, 15, 16], (vK (.cons R R (.cons R R (.cons R R (.cons R R (.cons R R (.cons R R (.cons R R (.cons R R (.cons R R (.gone R (.gone R (.cons R R (.gone R (.row R (.row R .nil))))))))))))))) R), ?_⟩
    with_reducible apply yk_norm
    refine rgj_ev (r_notT R R R (ev_endJ (thenj_norm (swj_condF R (swj_skip (thenj_norm (swj_rg (rgj_ev (q_movD R (q_ldD (y := vI rv2.1) tb R (q_add R (q_asgD R (ev_endJ (blockj_norm (thenj_norm ?_)))))))))))))))
    exact ⟨m9, ⟨[(0, .d (.v (.func (.yield lb) #[] #[]))), (1, .ref 5 1 0 0), (2, .ref 6 1 0 0), (3, .ref 7 1 0 0), (4, .ref 8 4 0 0), (6, .d (vI (W (y3 + rv2.1))))], [some ⟨4, [.d (FrFormat.d f)]⟩, some ⟨1, [.row 9 3 0 (q7).length]⟩, some ⟨1, [.row 10 2 0 (rv6.2).length]⟩, some ⟨1, [.d (vI (W ((W ((W ((W (y3 + (f.sync.size : Int))) + 1)) + (W (2 * f.words)))) + 2)))]⟩, some ⟨1, [.fn (.func 71) [] [.ref 3 1 0 0, .ref 2 1 0 0]]⟩, some ⟨1, [.d (vI rv2.1)]⟩, some ⟨1, [.d (.arr 1 ((rv2.2.1).map v8))]⟩, some ⟨1, [.d (vI rv2.2.2.1)]⟩, some ⟨4, [.d (FrFormat.d rv2.2.2.2)]⟩, some (lFrFramed q7), some (lFrGapd rv6.2)]⟩, Nat.lt_succ_self _, .vw (κ := [0, 1, 2, 3, 4, 5, 6, 7, 8, 13, 14]) (vK (.cons R R (.cons R R (.cons R R (.cons R R (.cons R R (.cons R R (.cons R R (.cons R R (.cons R R (.row R (.row R .nil))))))))))) R), (W (y3 + rv2.1)), q7, rv6.2, (W ((W ((W ((W (y3 + (f.sync.size : Int))) + 1)) + (W (2 * f.words)))) + 2)), h, R, R⟩
   replace h := ifN c7 h
   obtain ⟨rv7, hrv7, h⟩ := bnd h
   refine r_callO (t' := .d (.tup [])) (ls := [some ⟨1, [.d (vI rv7.1)]⟩, some ⟨1, [.row 2 2 0 (rv7.2).length]⟩, some (lFrGapd rv7.2)]) (news := []) ([3, 2, 10]) ([some ⟨4, [.d (FrFormat.d f)]⟩, some ⟨1, [.row 15 3 0 (q7).length]⟩, some ⟨1, [.row 10 2 0 (rv7.2).length]⟩, some ⟨1, [.d (vI rv7.1)]⟩, some ⟨1, [.fn (.func 71) [] [.ref 3 1 0 0, .ref 2 1 0 0]]⟩, some ⟨1, [.d (vI rv2.1)]⟩, some ⟨1, [.d (.arr 1 ((rv2.2.1).map v8))]⟩, some ⟨1, [.d (vI rv2.2.2.1)]⟩, some ⟨4, [.d (FrFormat.d rv2.2.2.2)]⟩, none, some (lFrGapd rv7.2), some ⟨3, [.d (.agg [vI y3, vI (W e), .arr 1 ((lv3).map vI)])]⟩, none, some ⟨3, [.d (.agg [vI y3, vI (W e), .arr 1 ((lv3).map vI)])]⟩, some (lFrFramed [(FrFrame.mk y3 (W e) lv3)]), some (lFrFramed q7)]) (frame_Decode_1_m_scr hrv7) (.of (by kernel_rfl)) R (.inr R) R R R R ((.cons R R (.cons R R (.row R .nil)))) R R R ((.cons R (.cons R (.row .nil)))) .nil R R R R ?_
   refine eN (sw_rg (q_fa tb R (q_ldD (y := vI y3) tb R (q_fa tb R (q_ldD (y := .v (.string f.sync)) tb R (r_lenS R R R R (q_add R (q_add R (q_fa tb R (q_ldD (y := vI f.words) tb R (r_mul R R R R (q_add R (q_add R (q_stE _ _ tb R (ev_end (block_norm ?_))))))))))))))))
   refine ⟨[some ⟨4, [.d (FrFormat.d f)]⟩, some ⟨1, [.row 13 3 0 (q7).length]⟩, some ⟨1, [.row 10 2 0 (rv7.2).length]⟩, some ⟨1, [.d (vI (W ((W ((W ((W (y3 + (f.sync.size : Int))) + 1)) + (W (2 * f.words)))) + 2)))]⟩, some ⟨1, [.fn (.func 71) [] [.ref 3 1 0 0, .ref 2 1 0 0]]⟩, some ⟨1, [.d (vI rv2.1)]⟩, some ⟨1, [.d (.arr 1 ((rv2.2.1).map v8))]⟩, some ⟨1, [.d (vI rv2.2.2.1)]⟩, some ⟨4, [.d (FrFormat.d rv2.2.2.2)]⟩, none, some (lFrGapd rv7.2), some ⟨3, [.d (.agg [vI y3, vI (W e), .arr 1 ((lv3).map vI)])]⟩, none, some (lFrFramed q7)], [0, 1, 2, 3, 4, 5, 6, 7, 8, 9, 10, 11, 12, 15], (vK (.cons R R (.cons R R (.cons R R (.cons R R (.cons R R (.cons R R (.cons R R (.cons R R (.cons R R (.gone R (.row R (.cons R R (.gone R (.row R .nil)))))))))))))) R), ?_⟩
   with_reducible apply yk_norm
   refine rgj_ev (r_notT R R R (ev_endJ (thenj_norm (swj_condF R (swj_skip (thenj_norm (swj_rg (rgj_ev (q_movD R (q_ldD (y := vI rv2.1) tb R (q_add R (q_asgD R (ev_endJ (blockj_norm (thenj_norm ?_)))))))))))))))
   exact ⟨m9, ⟨[(0, .d (.v (.func (.yield lb) #[] #[]))), (1, .ref 5 1 0 0), (2, .ref 6 1 0 0), (3, .ref 7 1 0 0), (4, .ref 8 4 0 0), (6, .d (vI (W (y3 + rv2.1))))], [some ⟨4, [.d (FrFormat.d f)]⟩, some ⟨1, [.row 9 3 0 (q7).length]⟩, some ⟨1, [.row 10 2 0 (rv7.2).length]⟩, some ⟨1, [.d (vI (W ((W ((W ((W (y3 + (f.sync.size : Int))) + 1)) + (W (2 * f.words)))) + 2)))]⟩, some ⟨1, [.fn (.func 71) [] [.ref 3 1 0 0, .ref 2 1 0 0]]⟩, some ⟨1, [.d (vI rv2.1)]⟩, some ⟨1, [.d (.arr 1 ((rv2.2.1).map v8))]⟩, some ⟨1, [.d (vI rv2.2.2.1)]⟩, some ⟨4, [.d (FrFormat.d rv2.2.2.2)]⟩, some (lFrFramed q7), some (lFrGapd rv7.2)]⟩, Nat.lt_succ_self _, .vw (κ := [0, 1, 2, 3, 4, 5, 6, 7, 8, 13, 10]) (vK (.cons R R (.cons R R (.cons R R (.cons R R (.cons R R (.cons R R (.cons R R (.cons R R (.cons R R (.row R (.row R .nil))))))))))) R), (W (y3 + rv2.1)), q7, rv7.2, (W ((W ((W ((W (y3 + (f.sync.size : Int))) + 1)) + (W (2 * f.words)))) + 2)), h, R, R⟩
  intro c5
  replace h := ifF c5 h
  refine r_notF R R R (q_pickF R (ev_endD (by kernel_rfl) (thenj_norm (swj_condT R (swj_seq (swj_rg (rgj_ev (q_movD R (q_add R (q_asgD R (ev_endJ (thenj_norm (swj_exit (thenj_exit (blockj_exit (thenj_norm ?_))))))))))))))))
  exact ⟨m9, ⟨[(0, .d (.v (.func (.yield lb) #[] #[]))), (1, .ref 5 1 0 0), (2, .ref 6 1 0 0), (3, .ref 7 1 0 0), (4, .ref 8 4 0 0), (6, .d (vI (W (y3 + 1))))], [some ⟨4, [.d (FrFormat.d f)]⟩, some ⟨1, [.row 9 3 0 (lv).length]⟩, some ⟨1, [.row 10 2 0 (lv2).length]⟩, some ⟨1, [.d (vI x)]⟩, some ⟨1, [.fn (.func 71) [] [.ref 3 1 0 0, .ref 2 1 0 0]]⟩, some ⟨1, [.d (vI rv2.1)]⟩, some ⟨1, [.d (.arr 1 ((rv2.2.1).map v8))]⟩, some ⟨1, [.d (vI rv2.2.2.1)]⟩, some ⟨4, [.d (FrFormat.d rv2.2.2.2)]⟩, some (lFrFramed lv), some (lFrGapd lv2)]⟩, Nat.lt_succ_self _, .vw (κ := [0, 1, 2, 3, 4, 5, 6, 7, 8, 9, 10]) (vK (.cons R R (.cons R R (.cons R R (.cons R R (.cons R R (.cons R R (.cons R R (.cons R R (.cons R R (.row R (.row R .nil))))))))))) R), (W (y3 + 1)), lv, lv2, x, h, R, R⟩
 intro c3
 replace h := ifN (Int.not_le.2 c3) h
 refine ev_endJ (thenj_norm (swj_condF R (swj_exit (thenj_exit (thenj_exit ?_)))))
 subst hK9
 refine blockj_exit ?_
 refine ⟨R, [some ⟨4, [.d (FrFormat.d f)]⟩, some ⟨1, [.row 9 3 0 (lv).length]⟩, some ⟨1, [.row 10 2 0 (lv2).length]⟩, some ⟨1, [.d (vI x)]⟩, some ⟨1, [.fn (.func 71) [] [.ref 3 1 0 0, .ref 2 1 0 0]]⟩, some ⟨1, [.d (vI rv2.1)]⟩, some ⟨1, [.d (.arr 1 ((rv2.2.1).map v8))]⟩, some ⟨1, [.d (vI rv2.2.2.1)]⟩, some ⟨4, [.d (FrFormat.d rv2.2.2.2)]⟩, some (lFrFramed lv), some (lFrGapd lv2)], [0, 1, 2, 3, 4, 5, 6, 7, 8, 9, 10], (vK (.cons R R (.cons R R (.cons R R (.cons R R (.cons R R (.cons R R (.cons R R (.cons R R (.cons R R (.row R (.row R .nil))))))))))) R), ?_⟩
 refine block_norm (then_norm ?_)
 refine swm_of fun df => ?_
 refine qG (r_ldT (.fn (.func 71) [] [.ref 3 1 0 0, .ref 2 1 0 0]) tb R R R R R R R R R (q_movD R (q_lenM tb R ?_)))
 by_cases c8 : x < (b.length : Int)
 ·replace h := ifP c8 h
  obtain ⟨rv8, hrv8, h⟩ := bnd h
  refine r_callO (t' := .d (.tup [])) (ls := [some ⟨1, [.d (vI rv8.1)]⟩, some ⟨1, [.row 3 2 0 (rv8.2).length]⟩, none]) (news := [(lFrGapd rv8.2)]) ([3, 2, 10]) ([some ⟨4, [.d (FrFormat.d f)]⟩, some ⟨1, [.row 9 3 0 (lv).length]⟩, some ⟨1, [.row 11 2 0 (rv8.2).length]⟩, some ⟨1, [.d (vI rv8.1)]⟩, some ⟨1, [.fn (.func 71) [] [.ref 3 1 0 0, .ref 2 1 0 0]]⟩, some ⟨1, [.d (vI rv2.1)]⟩, some ⟨1, [.d (.arr 1 ((rv2.2.1).map v8))]⟩, some ⟨1, [.d (vI rv2.2.2.1)]⟩, some ⟨4, [.d (FrFormat.d rv2.2.2.2)]⟩, some (lFrFramed lv), none, some (lFrGapd rv8.2)]) (frame_Decode_1_scr hrv8) (.of (by kernel_rfl)) R (.inr R) R R R R ((.cons R R (.cons R R (.row R .nil)))) R R R ((.cons R (.cons R (.gone .nil)))) ((.row .nil)) R R R R ?_
  refine eN (sw_seq (sw_dr (by kernel_rfl) (r_ldW tb R R R R R R R R R (r_ldW tb R R R R R R R R R (q_stE _ _ tb R (q_stE _ _ tb R (q_asgD R (ev_endD (by kernel_rfl) (then_norm (sw_ret ?_))))))))))
  obtain rfl := sI h
  exact f2 [9, 11] (.row R (.row R .nil)) R (.cons (rc tb R) (.cons (rc tb R) (.cons (.tmp 6) .nil))) R
 replace h := ifN c8 h
 obtain ⟨rv9, hrv9, h⟩ := bnd h
 refine r_callO (t' := .d (.tup [])) (ls := [some ⟨1, [.d (vI rv9.1)]⟩, some ⟨1, [.row 2 2 0 (rv9.2).length]⟩, some (lFrGapd rv9.2)]) (news := []) ([3, 2, 10]) ([some ⟨4, [.d (FrFormat.d f)]⟩, some ⟨1, [.row 9 3 0 (lv).length]⟩, some ⟨1, [.row 10 2 0 (rv9.2).length]⟩, some ⟨1, [.d (vI rv9.1)]⟩, some ⟨1, [.fn (.func 71) [] [.ref 3 1 0 0, .ref 2 1 0 0]]⟩, some ⟨1, [.d (vI rv2.1)]⟩, some ⟨1, [.d (.arr 1 ((rv2.2.1).map v8))]⟩, some ⟨1, [.d (vI rv2.2.2.1)]⟩, some ⟨4, [.d (FrFormat.d rv2.2.2.2)]⟩, some (lFrFramed lv), some (lFrGapd rv9.2)]) (frame_Decode_1_m_scr hrv9) (.of (by kernel_rfl)) R (.inr R) R R R R ((.cons R R (.cons R R (.row R .nil)))) R R R ((.cons R (.cons R (.row .nil)))) .nil R R R R ?_
 refine eN (sw_seq (sw_dr (by kernel_rfl) (r_ldW tb R R R R R R R R R (r_ldW tb R R R R R R R R R (q_stE _ _ tb R (q_stE _ _ tb R (q_asgD R (ev_endD (by kernel_rfl) (then_norm (sw_ret ?_))))))))))
 obtain rfl := sI h
 exact f2 [9, 10] (.row R (.row R .nil)) R (.cons (rc tb R) (.cons (rc tb R) (.cons (.tmp 6) .nil))) R
theorem frame_Decode_pc {F : Nat} {f : FrFormat} {b : (List Int)} {r : ((List FrFrame) × (List FrGap) × Int)} (h : frame_Decode F f b = some r) : PC Try.prog 31 [FrFormat.d f, .arr 1 ((b).map v8)] (.tup [.arr 3 ((r.1).map FrFrame.d), .arr 2 ((r.2.1).map FrGap.d), .v (.int .i64 r.2.2)]) := (frame_Decode_scr h).toPC (.tupL (.cons (.row rfl rfl) (.cons (.row rfl rfl) (.cons (.d _) .nil))))
def frame_tape (F : Nat) (f : FrFormat) (t : FrTape) : Option Int := Option.bind (frame_Check F f) fun rv => if rv.2.2 = 0 then (if 4000 < (t.bytes.length : Int) then (some 3) else (Option.bind (frame_out_int F t.first 0 1000000) fun rv2 => if rv2 = true then (some 7) else (some 0))) else (some rv.2.2)
theorem frame_tape_pc {F : Nat} {f : FrFormat} {t : FrTape} {r : Int} (h : frame_tape F f t = some r) : PC Try.prog 66 [FrFormat.d f, FrTape.d t] (.v (.int .i64 r)) := by
 rw [frame_tape] at h
 refine SC.of_sw Try.func66 R R R ?_
 dsimp only [argS, List.map]
 refine qG (q_box R (q_box R (q_asgD R (eN (qG (q_ldD (y := FrFormat.d f) tb R ?_))))))
 obtain ⟨rv, hrv, h⟩ := bnd h
 refine r_call (frame_Check_pc hrv) (.of (by kernel_rfl)) R R R R (q_movD R (r_extD (t := vI rv.1) R R R R (r_extD (t := vI rv.2.1) R R R R (r_extD (t := vI rv.2.2) R R R R (q_asgD R (q_asgD R (q_asgD R (eN (sw_seq (sw_block (qG (q_movD R ?_))))))))))))
 refine r_neq R R R R ?_ ?_
 ·intro c
  replace h := ifN c h
  refine q_asgD R (eN (sw_condT R (qG (q_movD R (q_asgD R (eN (sw_ret (block_ret (then_ret ?_)))))))))
  obtain rfl := sI h
  exact f1 4 R
 intro c
 replace h := ifP c h
 refine q_asgD R (eN (sw_condF R (qG (q_fa tb R (q_ldD (y := .arr 1 ((t.bytes).map v8)) tb R (q_lenM tb R ?_))))))
 refine r_gtr R R R R ?_ ?_
 ·intro c2
  replace h := ifP c2 h
  refine q_asgD R (eN (sw_condT R (qG (q_asgD R (eN (sw_ret (block_ret (then_ret ?_))))))))
  obtain rfl := sI h
  exact f1 4 R
 intro c2
 replace h := ifN (Int.not_lt.2 c2) h
 refine q_asgD R (eN (sw_condF R (qG (q_fa tb R (q_ldD (y := vI t.first) tb R ?_)))))
 obtain ⟨rv2, hrv2, h⟩ := bnd h
 refine r_callB (frame_out_int_pc hrv2) (.of (by kernel_rfl)) R R R R ?_ ?_
 ·intro c3
  replace h := ifP c3 h
  refine q_asgD R (eN (sw_condT R (qG (q_asgD R (eN (sw_ret (block_ret (then_ret ?_))))))))
  obtain rfl := sI h
  exact f1 4 R
 intro c3
 replace h := ifF c3 h
 refine q_asgD R (eN (sw_condF R (sw_skip (block_norm (then_norm (qG (q_asgD R (eN (sw_ret ?_)))))))))
 obtain rfl := sI h
 exact f1 4 R
def frame_read_L1 (F : Nat) (rv : (Int × (List Int) × Int × FrFormat)) (q : (List Int)) (K : Int → (List Int) → Int → (List FrFrame) → (List Int) → Int → Option ((List FrFrame) × (List Int) × Int)) : Nat → Int → (List Int) → Int → (List FrFrame) → (List Int) → Int → Option ((List FrFrame) × (List Int) × Int)
 | 0, _, _, _, _, _, _ => none
 | n + 1, y4, lv3, x2, lv4, lv5, x3 => if x2 < (W (rv.1 - 2)) then (Option.bind (ixO q x2) fun e2 => Option.bind (ixO q (W (x2 + 1))) fun e3 => Option.bind (appO lv3 [(ior .i64 (ishl .i64 (W e2) 8) (W e3))]) fun q6 => frame_read_L1 F rv q K n y4 q6 (W (x2 + 2)) lv4 lv5 x3) else (K y4 lv3 x2 lv4 lv5 x3)
def frame_read_L2 (F : Nat) (rv : (Int × (List Int) × Int × FrFormat)) (K : Int → (List FrFrame) → (List Int) → Int → Option ((List FrFrame) × (List Int) × Int)) : Nat → Int → (List FrFrame) → (List Int) → Int → Option ((List FrFrame) × (List Int) × Int)
 | 0, _, _, _, _ => none
 | n + 1, y3, lv, lv2, x => if (W (y3 + rv.1)) ≤ (rv.2.1.length : Int) then (Option.bind (cutO rv.2.1 y3 (W (y3 + rv.1))) fun q => Option.bind (cutO q 0 rv.2.2.1) fun q2 => Option.bind (strO q2) fun q3 => if q3.toList = rv.2.2.2.sync.toList then (Option.bind (cutO q (W (rv.1 - 2)) q.length) fun q4 => Option.bind (cutO q 0 (W (rv.1 - 2))) fun q5 => Option.bind (frame_Sum F q5) fun rv2 => Option.bind (frame_pair F rv2) fun rv3 => Option.bind (slices_Equal_byte F q4 rv3) fun rv4 => if rv4 = true then (Option.bind (ixO q rv.2.2.1) fun e => frame_read_L1 F rv q (fun (y4 : Int) (lv3 : (List Int)) (x2 : Int) (lv4 : (List FrFrame)) (lv5 : (List Int)) (x3 : Int) => if 1000000 < (W (x3 + (iand .i64 (W ((W e) - (iand .i64 x3 255))) 255))) then (some (([] : List FrFrame), ([] : List Int), 7)) else (Option.bind (appO lv4 [(FrFrame.mk y3 (W e) lv3)]) fun q7 => Option.bind (appO lv5 [(W (x3 + (iand .i64 (W ((W e) - (iand .i64 x3 255))) 255)))]) fun q8 => frame_read_L2 F rv K n (W (y4 + rv.1)) q7 q8 (W ((W (x3 + (iand .i64 (W ((W e) - (iand .i64 x3 255))) 255))) + 1)))) F y3 ([] : List Int) (W (rv.2.2.1 + 1)) lv lv2 x) else (frame_read_L2 F rv K n (W (y3 + 1)) lv lv2 x)) else (frame_read_L2 F rv K n (W (y3 + 1)) lv lv2 x)) else (K y3 lv lv2 x)
def frame_read (F : Nat) (f : FrFormat) (t : FrTape) : Option ((List FrFrame) × (List Int) × Int) := Option.bind (frame_frames F f t.bytes) fun rv => frame_read_L2 F rv (fun (y3 : Int) (lv : (List FrFrame)) (lv2 : (List Int)) (x : Int) => some (lv, lv2, 0)) F 0 ([] : List FrFrame) ([] : List Int) t.first
theorem frame_read_scr {F : Nat} {f : FrFormat} {t : FrTape} {r : ((List FrFrame) × (List Int) × Int)} (h : frame_read F f t = some r) : SCR Try.prog 67 (List.map T.d [FrFormat.d f, FrTape.d t]) [] (.tup [.row 0 3 0 (r.1).length, .row 1 1 0 (r.2.1).length, .d (.v (.int .i64 r.2.2))]) (List.map some [(lFrFramed r.1), (lvI r.2.1)]) := by
 rw [frame_read] at h
 refine SC.of_swm Try.func67 R R R ?_
 dsimp only [argS, List.map]
 refine swm_seq ?_
 refine swm_of fun df => ?_
 refine sw_rg (q_box R (q_box R (r_alloc tb R R R R R (r_alloc tb R R R R R (r_alloc tb R R R R R (eN (swm_seq ?_)))))))
 refine swm_of fun df => ?_
 refine sw_rg (q_fa tb R (q_ldD (y := vI t.first) tb R (r_alloc tb R R R R R (q_stE _ _ tb R (eN (swm_seq (swm_seq ?_)))))))
 refine swm_of fun df => ?_
 refine sw_rg (q_ldD (y := FrFormat.d f) tb R (q_fa tb R (q_ldD (y := .arr 1 ((t.bytes).map v8)) tb R ?_)))
 obtain ⟨rv, hrv, h⟩ := bnd h
 refine r_callN (t' := .fn (.func 103) [] [.ref 6 1 0 0, .ref 7 1 0 0, .ref 8 1 0 0, .ref 9 4 0 0]) (news' := [⟨1, [.d (vI rv.1)]⟩, ⟨1, [.d (.arr 1 ((rv.2.1).map v8))]⟩, ⟨1, [.d (vI rv.2.2.1)]⟩, ⟨4, [.d (FrFormat.d rv.2.2.2)]⟩]) (frame_frames_scr hrv) (.of (by kernel_rfl)) R R R ((.cons R (.cons R (.cons R (.cons R .nil))))) R R R (eN (swm_block ?_))
 refine swm_range (.of (by kernel_rfl)) Try.func103 R R R R R R fun lb => ?_
 simp only [argS, Nat.zero_add, Nat.reduceAdd]
 refine swj_seq (swj_rg (rgj_ev (q_asgD R (ev_endJ (thenj_norm (swj_block ?_))))))
 refine SWJ.own (ts' := [(0, .d (.v (.func (.yield lb) #[] #[]))), (1, .ref 6 1 0 0), (2, .ref 7 1 0 0), (3, .ref 8 1 0 0), (4, .ref 9 4 0 0), (6, .d (vI 0))]) (L' := [some ⟨4, [.d (FrFormat.d f)]⟩, some ⟨2, [.d (FrTape.d t)]⟩, some ⟨1, [.row 10 3 0 (([] : List FrFrame)).length]⟩, some ⟨1, [.d (.v (.slice none 0 0))]⟩, some ⟨1, [.d (vI 0)]⟩, some ⟨1, [.d (vI t.first)]⟩, some ⟨1, [.d (vI rv.1)]⟩, some ⟨1, [.d (.arr 1 ((rv.2.1).map v8))]⟩, some ⟨1, [.d (vI rv.2.2.1)]⟩, some ⟨4, [.d (FrFormat.d rv.2.2.2)]⟩]) 3 R R (.cons (.same _) (.cons (.same _) (.cons (.same _) (.cons (.same _) (.cons (.same _) (.cons (.same _) .nil)))))) (.same (.same (.cons R (.cons .nil .nil) (.same (.same (.same (.same (.same (.same (.same .nil)))))))))) ?_
 simp only [List.cons_append, List.nil_append]
 refine SWJ.own (ts' := [(0, .d (.v (.func (.yield lb) #[] #[]))), (1, .ref 6 1 0 0), (2, .ref 7 1 0 0), (3, .ref 8 1 0 0), (4, .ref 9 4 0 0), (6, .d (vI 0))]) (L' := [some ⟨4, [.d (FrFormat.d f)]⟩, some ⟨2, [.d (FrTape.d t)]⟩, some ⟨1, [.row 10 3 0 (([] : List FrFrame)).length]⟩, some ⟨1, [.row 11 1 0 (([] : List Int)).length]⟩, some ⟨1, [.d (vI 0)]⟩, some ⟨1, [.d (vI t.first)]⟩, some ⟨1, [.d (vI rv.1)]⟩, some ⟨1, [.d (.arr 1 ((rv.2.1).map v8))]⟩, some ⟨1, [.d (vI rv.2.2.1)]⟩, some ⟨4, [.d (FrFormat.d rv.2.2.2)]⟩, some (lFrFramed ([] : List FrFrame))]) 1 R R (.cons (.same _) (.cons (.same _) (.cons (.same _) (.cons (.same _) (.cons (.same _) (.cons (.same _) .nil)))))) (.same (.same (.same (.cons R (.cons .nil .nil) (.same (.same (.same (.same (.same (.same (.same .nil))))))))))) ?_
 simp only [List.cons_append, List.nil_append]
 obtain ⟨K9, hK9, h⟩ : ∃ K, K = _ ∧ frame_read_L2 F rv K F 0 ([] : List FrFrame) ([] : List Int) t.first = some r := ⟨_, rfl, h⟩
 refine swj_loopS (fun m ph st => ∃ (y3 : Int) (lv : (List FrFrame)) (lv2 : (List Int)) (x : Int), frame_read_L2 F rv K9 m y3 lv lv2 x = some r ∧ ph = SX.norm ∧ st = ⟨[(0, .d (.v (.func (.yield lb) #[] #[]))), (1, .ref 6 1 0 0), (2, .ref 7 1 0 0), (3, .ref 8 1 0 0), (4, .ref 9 4 0 0), (6, .d (vI y3))], [some ⟨4, [.d (FrFormat.d f)]⟩, some ⟨2, [.d (FrTape.d t)]⟩, some ⟨1, [.row 10 3 0 (lv).length]⟩, some ⟨1, [.row 11 1 0 (lv2).length]⟩, some ⟨1, [.d (vI 0)]⟩, some ⟨1, [.d (vI x)]⟩, some ⟨1, [.d (vI rv.1)]⟩, some ⟨1, [.d (.arr 1 ((rv.2.1).map v8))]⟩, some ⟨1, [.d (vI rv.2.2.1)]⟩, some ⟨4, [.d (FrFormat.d rv.2.2.2)]⟩, some (lFrFramed lv), some (lvI lv2)]⟩) (.prn [0, 1, 2, 3, 4, 6] R) ⟨0, ([] : List FrFrame), ([] : List Int), t.first, h, R, R⟩ ?_
 clear h
 rintro m9 ph st ⟨y3, lv, lv2, x, h, rfl, rfl⟩
 cases m9 with
 | zero => cases (show (none : Option ((List FrFrame) × (List Int) × Int)) = some r from h)
 | succ m9 =>
 rw [frame_read_L2] at h
 refine swj_seq (swj_seq (swj_rg (rgj_ev (q_movD R (q_ldD (y := vI rv.1) tb R (q_add R (q_ldD (y := .arr 1 ((rv.2.1).map v8)) tb R (q_lenM tb R ?_))))))))
 refine r_leq R R R R ?_ ?_
 ·intro c
  replace h := ifP c h
  refine ev_endJ (thenj_norm (swj_condT R (swj_skip (thenj_norm (swj_block (swj_seq (swj_rg (rgj_ev (q_ldD (y := .arr 1 ((rv.2.1).map v8)) tb R (q_movD R (q_movD R (q_ldD (y := vI rv.1) tb R (q_add R ?_)))))))))))))
  obtain ⟨q, iq, h⟩ := bnd h
  refine r_sliceLH tb R R R R R R R iq R R (q_asgD R (ev_endJ (thenj_norm (swj_seq (swj_seq (swj_of (sw_dr (by kernel_rfl) (q_movD R (q_ldD (y := vI rv.2.2.1) tb R ?_)))))))))
  obtain ⟨q2, iq2, h⟩ := bnd h
  refine r_sliceT tb R R R R R R iq2 R R ?_
  obtain ⟨q3, iq3, h⟩ := bnd h
  refine r_strD R R R R iq3 R R (q_fa tb R (q_ldD (y := .v (.string rv.2.2.2.sync)) tb R ?_))
  refine r_strneq R R R R ?_ ?_
  ·intro c2
   replace h := ifN c2 h
   refine q_movD R (q_sk 12 R (q_pickT R (ev_endD (by kernel_rfl) (thenj_norm (swj_condT R (swj_seq (swj_rg (rgj_ev (q_movD R (q_add R (q_asgD R (ev_endJ (thenj_norm (swj_exit (thenj_exit (blockj_exit (thenj_norm ?_)))))))))))))))))
   exact ⟨m9, _, Nat.lt_succ_self _, .prn [0, 1, 2, 3, 4, 6] R, (W (y3 + 1)), lv, lv2, x, h, R, R⟩
  intro c2
  replace h := ifP c2 h
  refine q_movD R (q_movD R (q_ldD (y := vI rv.1) tb R (r_sub R R R R ?_)))
  obtain ⟨q4, iq4, h⟩ := bnd h
  refine r_sliceL tb R R R R R R iq4 R R (q_movD R (q_ldD (y := vI rv.1) tb R (r_sub R R R R ?_)))
  obtain ⟨q5, iq5, h⟩ := bnd h
  refine r_sliceT tb R R R R R R iq5 R R ?_
  obtain ⟨rv2, hrv2, h⟩ := bnd h
  refine r_call (frame_Sum_pc hrv2) (.of (by kernel_rfl)) R R R R ?_
  obtain ⟨rv3, hrv3, h⟩ := bnd h
  refine r_callN (t' := .row 12 1 0 (rv3).length) (news' := [(lv8 rv3)]) (frame_pair_scr hrv3) (.of (by kernel_rfl)) R R R ((.row .nil)) R R R ?_
  obtain ⟨rv4, hrv4, h⟩ := bnd h
  refine r_callLB (slices_Equal_byte_pc hrv4) (.of (by kernel_rfl)) R R ((.cons (.d _) (.cons (.row R R) .nil))) R R ?_ ?_
  ·intro c3
   replace h := ifP c3 h
   refine r_notT R R R (q_pickF R (ev_endD (by kernel_rfl) (thenj_norm (swj_condF R (swj_skip (thenj_norm (swj_seq (swj_rg (rgj_ev (q_movD R (q_movD R (q_ldD (y := vI rv.2.2.1) tb R ?_))))))))))))
   obtain ⟨e, ie, h⟩ := bnd h
   refine q_ixE tb (ix0 ie) (ix1m ie) R (q_ldE (y := .v (.int .u8 e)) tb (ix2 (g := v8) ie) R (r_cvI (k2 := .i64) R R R R R R (r_build (v := .d (.agg [vI y3, vI (W e), .v (.slice none 0 0)])) tb R R (List.cons_ne_nil _ _) R R R R R R (r_alloc tb R R R R R (q_stE _ _ tb R (ev_endJ (thenj_norm (swj_seq (swj_seq (swj_rg (rgj_ev (q_ldD (y := vI rv.2.2.1) tb R (q_add R (q_asgD R (ev_endJ (thenj_norm (swj_block ?_)))))))))))))))))
   refine SWJ.own (ts' := [(0, .d (.v (.func (.yield lb) #[] #[]))), (1, .ref 6 1 0 0), (2, .ref 7 1 0 0), (3, .ref 8 1 0 0), (4, .ref 9 4 0 0), (6, .d (vI y3)), (7, .d (.arr 1 ((q).map v8))), (8, .ref 13 3 0 0), (9, .d (vI (W (rv.2.2.1 + 1))))]) (L' := [some ⟨4, [.d (FrFormat.d f)]⟩, some ⟨2, [.d (FrTape.d t)]⟩, some ⟨1, [.row 10 3 0 (lv).length]⟩, some ⟨1, [.row 11 1 0 (lv2).length]⟩, some ⟨1, [.d (vI 0)]⟩, some ⟨1, [.d (vI x)]⟩, some ⟨1, [.d (vI rv.1)]⟩, some ⟨1, [.d (.arr 1 ((rv.2.1).map v8))]⟩, some ⟨1, [.d (vI rv.2.2.1)]⟩, some ⟨4, [.d (FrFormat.d rv.2.2.2)]⟩, some (lFrFramed lv), some (lvI lv2), some (lv8 rv3), some ⟨3, [.agg [.d (vI y3), .d (vI (W e)), .row 14 1 0 (([] : List Int)).length]]⟩]) 1 R R (.cons (.same _) (.cons (.same _) (.cons (.same _) (.cons (.same _) (.cons (.same _) (.cons (.same _) (.cons (.same _) (.cons (.same _) (.cons (.same _) .nil))))))))) (.same (.same (.same (.same (.same (.same (.same (.same (.same (.same (.same (.same (.same (.cons R (.cons (.aggDL (.cons (.same _) (.cons (.same _) (.cons .nil .nil)))) .nil) .nil)))))))))))))) ?_
   simp only [List.cons_append, List.nil_append]
   obtain ⟨K10, hK10, h⟩ : ∃ K, K = _ ∧ frame_read_L1 F rv q K F y3 ([] : List Int) (W (rv.2.2.1 + 1)) lv lv2 x = some r := ⟨_, rfl, h⟩
   refine swj_loopS (st0 := ⟨[(0, .d (.v (.func (.yield lb) #[] #[]))), (1, .ref 6 1 0 0), (2, .ref 7 1 0 0), (3, .ref 8 1 0 0), (4, .ref 9 4 0 0), (6, .d (vI y3)), (7, .d (.arr 1 ((q).map v8))), (8, .ref 12 3 0 0), (9, .d (vI (W (rv.2.2.1 + 1))))], [some ⟨4, [.d (FrFormat.d f)]⟩, some ⟨2, [.d (FrTape.d t)]⟩, some ⟨1, [.row 10 3 0 (lv).length]⟩, some ⟨1, [.row 11 1 0 (lv2).length]⟩, some ⟨1, [.d (vI 0)]⟩, some ⟨1, [.d (vI x)]⟩, some ⟨1, [.d (vI rv.1)]⟩, some ⟨1, [.d (.arr 1 ((rv.2.1).map v8))]⟩, some ⟨1, [.d (vI rv.2.2.1)]⟩, some ⟨4, [.d (FrFormat.d rv.2.2.2)]⟩, some (lFrFramed lv), some (lvI lv2), some ⟨3, [.agg [.d (vI y3), .d (vI (W e)), .row 13 1 0 (([] : List Int)).length]]⟩, some (lvI ([] : List Int))]⟩) (fun m ph st => ∃ (y4 : Int) (lv3 : (List Int)) (x2 : Int) (lv4 : (List FrFrame)) (lv5 : (List Int)) (x3 : Int), frame_read_L1 F rv q K10 m y4 lv3 x2 lv4 lv5 x3 = some r ∧ ph = SX.norm ∧ st = ⟨[(0, .d (.v (.func (.yield lb) #[] #[]))), (1, .ref 6 1 0 0), (2, .ref 7 1 0 0), (3, .ref 8 1 0 0), (4, .ref 9 4 0 0), (6, .d (vI y4)), (7, .d (.arr 1 ((q).map v8))), (8, .ref 12 3 0 0), (9, .d (vI x2))], [some ⟨4, [.d (FrFormat.d f)]⟩, some ⟨2, [.d (FrTape.d t)]⟩, some ⟨1, [.row 10 3 0 (lv4).length]⟩, some ⟨1, [.row 11 1 0 (lv5).length]⟩, some ⟨1, [.d (vI 0)]⟩, some ⟨1, [.d (vI x3)]⟩, some ⟨1, [.d (vI rv.1)]⟩, some ⟨1, [.d (.arr 1 ((rv.2.1).map v8))]⟩, some ⟨1, [.d (vI rv.2.2.1)]⟩, some ⟨4, [.d (FrFormat.d rv.2.2.2)]⟩, some (lFrFramed lv4), some (lvI lv5), some ⟨3, [.agg [.d (vI y3), .d (vI (W e)), .row 13 1 0 (lv3).length]]⟩, some (lvI lv3)]⟩) (.vw (κ := [0, 1, 2, 3, 4, 5, 6, 7, 8, 9, 10, 11, 13, 14]) (vK (.cons R R (.cons R R (.cons R R (.cons R R (.cons R R (.cons R R (.cons R R (.cons R R (.cons R R (.cons R R (.row R (.row R (.cons R R (.row R .nil)))))))))))))) R)) ⟨y3, ([] : List Int), (W (rv.2.2.1 + 1)), lv, lv2, x, h, R, R⟩ ?_
   clear h
   rintro m10 ph st ⟨y4, lv3, x2, lv4, lv5, x3, h, rfl, rfl⟩
   cases m10 with
   | zero => cases (show (none : Option ((List FrFrame) × (List Int) × Int)) = some r from h)
   | succ m10 =>
   rw [frame_read_L1] at h
   refine swj_seq (swj_seq (swj_rg (rgj_ev (q_movD R (q_ldD (y := vI rv.1) tb R (r_sub R R R R ?_))))))
   refine r_lss R R R R ?_ ?_
   ·intro c4
    replace h := ifP c4 h
    refine ev_endJ (thenj_norm (swj_condT R (swj_skip (thenj_norm (swj_seq (swj_block (swj_of (sw_dr (by kernel_rfl) (q_fa tb R (r_ldW tb R R R R R R R R R (q_movD R (q_movD R ?_))))))))))))
    obtain ⟨e2, ie2, h⟩ := bnd h
    refine q_ixE tb (ix0 ie2) (ix1m ie2) R (q_ldE (y := .v (.int .u8 e2)) tb (ix2 (g := v8) ie2) R (r_cvI (k2 := .i64) R R R R R R (r_shl R R (by decide) R R (q_movD R (q_movD R (q_add R ?_))))))
    obtain ⟨e3, ie3, h⟩ := bnd h
    refine q_ixE tb (ix0 ie3) (ix1m ie3) R (q_ldE (y := .v (.int .u8 e3)) tb (ix2 (g := v8) ie3) R (r_cvI (k2 := .i64) R R R R R R (r_or R R R R (r_bslice tb R R R R R R R R R R R R R ?_))))
    obtain ⟨q6, iq6, h⟩ := bnd h
    refine r_apM (g := vI) (w := lv3) (v := [(ior .i64 (ishl .i64 (W e2) 8) (W e3))]) ([some ⟨4, [.d (FrFormat.d f)]⟩, some ⟨2, [.d (FrTape.d t)]⟩, some ⟨1, [.row 10 3 0 (lv4).length]⟩, some ⟨1, [.row 11 1 0 (lv5).length]⟩, some ⟨1, [.d (vI 0)]⟩, some ⟨1, [.d (vI x3)]⟩, some ⟨1, [.d (vI rv.1)]⟩, some ⟨1, [.d (.arr 1 ((rv.2.1).map v8))]⟩, some ⟨1, [.d (vI rv.2.2.1)]⟩, some ⟨4, [.d (FrFormat.d rv.2.2.2)]⟩, some (lFrFramed lv4), some (lvI lv5), some ⟨3, [.agg [.d (vI y3), .d (vI (W e)), .row 13 1 0 (lv3).length]]⟩, none, some (lvI [(ior .i64 (ishl .i64 (W e2) 8) (W e3))])]) tb R R R R R R R R R R R iq6 R R R R R ?_
    refine q_fa tb R (q_stE _ _ tb R (ev_endD (by kernel_rfl) (blockj_norm (thenj_norm (swj_rg (rgj_ev (q_movD R (q_add R (q_asgD R (ev_endJ (thenj_norm ?_)))))))))))
    exact ⟨m10, ⟨[(0, .d (.v (.func (.yield lb) #[] #[]))), (1, .ref 6 1 0 0), (2, .ref 7 1 0 0), (3, .ref 8 1 0 0), (4, .ref 9 4 0 0), (6, .d (vI y4)), (7, .d (.arr 1 ((q).map v8))), (8, .ref 12 3 0 0), (9, .d (vI (W (x2 + 2))))], [some ⟨4, [.d (FrFormat.d f)]⟩, some ⟨2, [.d (FrTape.d t)]⟩, some ⟨1, [.row 10 3 0 (lv4).length]⟩, some ⟨1, [.row 11 1 0 (lv5).length]⟩, some ⟨1, [.d (vI 0)]⟩, some ⟨1, [.d (vI x3)]⟩, some ⟨1, [.d (vI rv.1)]⟩, some ⟨1, [.d (.arr 1 ((rv.2.1).map v8))]⟩, some ⟨1, [.d (vI rv.2.2.1)]⟩, some ⟨4, [.d (FrFormat.d rv.2.2.2)]⟩, some (lFrFramed lv4), some (lvI lv5), some ⟨3, [.agg [.d (vI y3), .d (vI (W e)), .row 13 1 0 (q6).length]]⟩, some (lvI q6)]⟩, Nat.lt_succ_self _, .vw (κ := [0, 1, 2, 3, 4, 5, 6, 7, 8, 9, 10, 11, 12, 15]) (vK (.cons R R (.cons R R (.cons R R (.cons R R (.cons R R (.cons R R (.cons R R (.cons R R (.cons R R (.cons R R (.row R (.row R (.cons R R (.row R .nil)))))))))))))) R), y4, q6, (W (x2 + 2)), lv4, lv5, x3, h, R, R⟩
   intro c4
   replace h := ifN (Int.not_lt.2 c4) h
   refine ev_endJ (thenj_norm (swj_condF R (swj_exit (thenj_exit (thenj_exit ?_)))))
   subst hK10
   refine blockj_exit (thenj_norm (swj_seq (swj_seq ?_)))
   refine SWJ.fz (ts' := [(0, .d (.v (.func (.yield lb) #[] #[]))), (1, .ref 6 1 0 0), (2, .ref 7 1 0 0), (3, .ref 8 1 0 0), (4, .ref 9 4 0 0), (6, .d (vI y4)), (7, .d (.arr 1 ((q).map v8))), (8, .ref 12 3 0 0), (9, .d (vI x2)), (54, .d (vI x2)), (55, .d (vI rv.1)), (56, .d (vI (W (rv.1 - 2)))), (57, .d (.v (.bool false)))]) (L' := [some ⟨4, [.d (FrFormat.d f)]⟩, some ⟨2, [.d (FrTape.d t)]⟩, some ⟨1, [.row 10 3 0 (lv4).length]⟩, some ⟨1, [.row 11 1 0 (lv5).length]⟩, some ⟨1, [.d (vI 0)]⟩, some ⟨1, [.d (vI x3)]⟩, some ⟨1, [.d (vI rv.1)]⟩, some ⟨1, [.d (.arr 1 ((rv.2.1).map v8))]⟩, some ⟨1, [.d (vI rv.2.2.1)]⟩, some ⟨4, [.d (FrFormat.d rv.2.2.2)]⟩, some (lFrFramed lv4), some (lvI lv5), some ⟨3, [.d (.agg [vI y3, vI (W e), .arr 1 ((lv3).map vI)])]⟩, none]) (w := lv3) (f := vI) 13 1 R (.cons (.same _) (.cons (.same _) (.cons (.same _) (.cons (.same _) (.cons (.same _) (.cons (.same _) (.cons (.same _) (.cons (.same _) (.cons (.same _) (.cons (.same _) (.cons (.same _) (.cons (.same _) (.cons (.same _) .nil))))))))))))) (.same (.same (.same (.same (.same (.same (.same (.same (.same (.same (.same (.same (.cons R (.cons (.aggDL (.cons (.same _) (.cons (.same _) (.cons (.all (List.length_map _)) .nil)))) .nil) (.same .nil)))))))))))))) ?_
   refine swj_rg (rgj_ev (q_movD R (q_ldD (y := .agg [vI y3, vI (W e), .arr 1 ((lv3).map vI)]) tb R (ev_yieldJ ?_))))
   (with_reducible apply rgj_yield (ys := [.agg [vI y3, vI (W e), .arr 1 ((lv3).map vI)]])); (iterate 7 exact rfl)
   dsimp only [parS]
   refine sw_rg (r_alloc tb R R R R R (q_stE _ _ tb R (ev_end ?_)))
   refine ⟨R, swy_rd ?_⟩
   refine sw_block (qG (q_ldD (y := vI x3) tb R (q_fa tb R (q_ldD (y := vI (W e)) tb R (q_ldD (y := vI x3) tb R (r_and R R R R (r_sub R R R R (r_and R R R R (q_add R (q_stE _ _ tb R (eN (sw_seq (qG (q_ldD (y := vI (W (x3 + (iand .i64 (W ((W e) - (iand .i64 x3 255))) 255)))) tb R ?_))))))))))))))
   refine r_gtr R R R R ?_ ?_
   ·intro c5
    replace h := ifP c5 h
    refine eN (sw_condT R (qG (q_stE _ _ tb R (q_stE _ _ tb R (q_stE _ _ tb R (eN ?_))))))
    refine SW.own (ts' := [(4, .ref 2 1 0 0), (5, .ref 3 1 0 0), (6, .ref 4 1 0 0)]) (L' := [some ⟨4, [.d (FrFormat.d f)]⟩, some ⟨2, [.d (FrTape.d t)]⟩, some ⟨1, [.row 15 3 0 (([] : List FrFrame)).length]⟩, some ⟨1, [.d (.v (.slice none 0 0))]⟩, some ⟨1, [.d (vI 7)]⟩, some ⟨1, [.d (vI (W (x3 + (iand .i64 (W ((W e) - (iand .i64 x3 255))) 255))))]⟩, some ⟨1, [.d (vI rv.1)]⟩, some ⟨1, [.d (.arr 1 ((rv.2.1).map v8))]⟩, some ⟨1, [.d (vI rv.2.2.1)]⟩, some ⟨4, [.d (FrFormat.d rv.2.2.2)]⟩, some (lFrFramed lv4), some (lvI lv5), some ⟨3, [.d (.agg [vI y3, vI (W e), .arr 1 ((lv3).map vI)])]⟩, none, some ⟨3, [.d (.agg [vI y3, vI (W e), .arr 1 ((lv3).map vI)])]⟩]) 3 R R (.cons (.same _) (.cons (.same _) (.cons (.same _) .nil))) (.same (.same (.cons R (.cons .nil .nil) (.same (.same (.same (.same (.same (.same (.same (.same (.same (.same (.same (.same .nil))))))))))))))) ?_
    simp only [List.cons_append, List.nil_append]
    refine SW.own (ts' := [(4, .ref 2 1 0 0), (5, .ref 3 1 0 0), (6, .ref 4 1 0 0)]) (L' := [some ⟨4, [.d (FrFormat.d f)]⟩, some ⟨2, [.d (FrTape.d t)]⟩, some ⟨1, [.row 15 3 0 (([] : List FrFrame)).length]⟩, some ⟨1, [.row 16 1 0 (([] : List Int)).length]⟩, some ⟨1, [.d (vI 7)]⟩, some ⟨1, [.d (vI (W (x3 + (iand .i64 (W ((W e) - (iand .i64 x3 255))) 255))))]⟩, some ⟨1, [.d (vI rv.1)]⟩, some ⟨1, [.d (.arr 1 ((rv.2.1).map v8))]⟩, some ⟨1, [.d (vI rv.2.2.1)]⟩, some ⟨4, [.d (FrFormat.d rv.2.2.2)]⟩, some (lFrFramed lv4), some (lvI lv5), some ⟨3, [.d (.agg [vI y3, vI (W e), .arr 1 ((lv3).map vI)])]⟩, none, some ⟨3, [.d (.agg [vI y3, vI (W e), .arr 1 ((lv3).map vI)])]⟩, some (lFrFramed ([] : List FrFrame))]) 1 R R (.cons (.same _) (.cons (.same _) (.cons (.same _) .nil))) (.same (.same (.same (.cons R (.cons .nil .nil) (.same (.same (.same (.same (.same (.same (.same (.same (.same (.same (.same (.same .nil)))))))))))))))) ?_
    simp only [List.cons_append, List.nil_append]
    refine sw_ret (then_ret (block_ret ?_))
    refine ⟨[some ⟨4, [.d (FrFormat.d f)]⟩, some ⟨2, [.d (FrTape.d t)]⟩, some ⟨1, [.row 14 3 0 (([] : List FrFrame)).length]⟩, some ⟨1, [.row 15 1 0 (([] : List Int)).length]⟩, some ⟨1, [.d (vI 7)]⟩, some ⟨1, [.d (vI (W (x3 + (iand .i64 (W ((W e) - (iand .i64 x3 255))) 255))))]⟩, some ⟨1, [.d (vI rv.1)]⟩, some ⟨1, [.d (.arr 1 ((rv.2.1).map v8))]⟩, some ⟨1, [.d (vI rv.2.2.1)]⟩, some ⟨4, [.d (FrFormat.d rv.2.2.2)]⟩, some (lFrFramed lv4), some (lvI lv5), some ⟨3, [.d (.agg [vI y3, vI (W e), .arr 1 ((lv3).map vI)])]⟩, none, some (lFrFramed ([] : List FrFrame)), some (lvI ([] : List Int))], [0, 1, 2, 3, 4, 5, 6, 7, 8, 9, 10, 11, 12, 13, 15, 16], (vK (.cons R R (.cons R R (.cons R R (.cons R R (.cons R R (.cons R R (.cons R R (.cons R R (.cons R R (.cons R R (.row R (.row R (.cons R R (.gone R (.row R (.row R .nil)))))))))))))))) R), ?_⟩
    with_reducible apply yk_ret
    refine rgj_ev (r_notF R R R (ev_endJ (thenj_norm (swj_condT R (swj_ret (thenj_ret (blockj_ret (thenj_ret (blockj_ret ?_)))))))))
    refine ⟨R, [some ⟨4, [.d (FrFormat.d f)]⟩, some ⟨2, [.d (FrTape.d t)]⟩, some ⟨1, [.row 10 3 0 (([] : List FrFrame)).length]⟩, some ⟨1, [.row 11 1 0 (([] : List Int)).length]⟩, some ⟨1, [.d (vI 7)]⟩, some ⟨1, [.d (vI (W (x3 + (iand .i64 (W ((W e) - (iand .i64 x3 255))) 255))))]⟩, some ⟨1, [.d (vI rv.1)]⟩, some ⟨1, [.d (.arr 1 ((rv.2.1).map v8))]⟩, some ⟨1, [.d (vI rv.2.2.1)]⟩, some ⟨4, [.d (FrFormat.d rv.2.2.2)]⟩, some (lFrFramed ([] : List FrFrame)), some (lvI ([] : List Int))], [0, 1, 2, 3, 4, 5, 6, 7, 8, 9, 14, 15], (vK (.cons R R (.cons R R (.cons R R (.cons R R (.cons R R (.cons R R (.cons R R (.cons R R (.cons R R (.cons R R (.row R (.row R .nil)))))))))))) R), ?_⟩
    refine block_ret (then_ret ?_)
    obtain rfl := sI h
    exact f2 [10, 11] (.row R (.row R .nil)) R (.cons (rc tb R) (.cons (rc tb R) (.cons (rc tb R) .nil))) R
   intro c5
   replace h := ifN (Int.not_lt.2 c5) h
   refine eN (sw_condF R (sw_skip (then_norm (sw_seq (sw_dr (by kernel_rfl) (r_ldW tb R R R R R R R R R (q_ldD (y := .agg [vI y3, vI (W e), .arr 1 ((lv3).map vI)]) tb R (r_bslice tb R R R R R R R R R R R R R ?_))))))))
   obtain ⟨q7, iq7, h⟩ := bnd h
   refine r_apM (g := FrFrame.d) (w := lv4) (v := [(FrFrame.mk y3 (W e) lv3)]) ([some ⟨4, [.d (FrFormat.d f)]⟩, some ⟨2, [.d (FrTape.d t)]⟩, some ⟨1, [.row 10 3 0 (lv4).length]⟩, some ⟨1, [.row 11 1 0 (lv5).length]⟩, some ⟨1, [.d (vI 0)]⟩, some ⟨1, [.d (vI (W (x3 + (iand .i64 (W ((W e) - (iand .i64 x3 255))) 255))))]⟩, some ⟨1, [.d (vI rv.1)]⟩, some ⟨1, [.d (.arr 1 ((rv.2.1).map v8))]⟩, some ⟨1, [.d (vI rv.2.2.1)]⟩, some ⟨4, [.d (FrFormat.d rv.2.2.2)]⟩, none, some (lvI lv5), some ⟨3, [.d (.agg [vI y3, vI (W e), .arr 1 ((lv3).map vI)])]⟩, none, some ⟨3, [.d (.agg [vI y3, vI (W e), .arr 1 ((lv3).map vI)])]⟩, some (lFrFramed [(FrFrame.mk y3 (W e) lv3)])]) tb R R R R R R R R R R R iq7 R R R R R ?_
   refine r_ldW tb R R R R R R R R R (q_ldD (y := vI (W (x3 + (iand .i64 (W ((W e) - (iand .i64 x3 255))) 255)))) tb R (r_bslice tb R R R R R R R R R R R R R ?_))
   obtain ⟨q8, iq8, h⟩ := bnd h
   refine r_apM (g := vI) (w := lv5) (v := [(W (x3 + (iand .i64 (W ((W e) - (iand .i64 x3 255))) 255)))]) ([some ⟨4, [.d (FrFormat.d f)]⟩, some ⟨2, [.d (FrTape.d t)]⟩, some ⟨1, [.row 10 3 0 (lv4).length]⟩, some ⟨1, [.row 11 1 0 (lv5).length]⟩, some ⟨1, [.d (vI 0)]⟩, some ⟨1, [.d (vI (W (x3 + (iand .i64 (W ((W e) - (iand .i64 x3 255))) 255))))]⟩, some ⟨1, [.d (vI rv.1)]⟩, some ⟨1, [.d (.arr 1 ((rv.2.1).map v8))]⟩, some ⟨1, [.d (vI rv.2.2.1)]⟩, some ⟨4, [.d (FrFormat.d rv.2.2.2)]⟩, none, none, some ⟨3, [.d (.agg [vI y3, vI (W e), .arr 1 ((lv3).map vI)])]⟩, none, some ⟨3, [.d (.agg [vI y3, vI (W e), .arr 1 ((lv3).map vI)])]⟩, some (lFrFramed [(FrFrame.mk y3 (W e) lv3)]), some (lFrFramed q7), some (lvI [(W (x3 + (iand .i64 (W ((W e) - (iand .i64 x3 255))) 255)))])]) tb R R R R R R R R R R R iq8 R R R R R ?_
   refine q_stE _ _ tb R (q_stE _ _ tb R (ev_endD (by kernel_rfl) (then_norm (sw_rg (q_ldD (y := vI (W (x3 + (iand .i64 (W ((W e) - (iand .i64 x3 255))) 255)))) tb R (q_add R (q_stE _ _ tb R (ev_end (block_norm ?_)))))))))
   refine ⟨[some ⟨4, [.d (FrFormat.d f)]⟩, some ⟨2, [.d (FrTape.d t)]⟩, some ⟨1, [.row 14 3 0 (q7).length]⟩, some ⟨1, [.row 15 1 0 (q8).length]⟩, some ⟨1, [.d (vI 0)]⟩, some ⟨1, [.d (vI (W ((W (x3 + (iand .i64 (W ((W e) - (iand .i64 x3 255))) 255))) + 1)))]⟩, some ⟨1, [.d (vI rv.1)]⟩, some ⟨1, [.d (.arr 1 ((rv.2.1).map v8))]⟩, some ⟨1, [.d (vI rv.2.2.1)]⟩, some ⟨4, [.d (FrFormat.d rv.2.2.2)]⟩, none, none, some ⟨3, [.d (.agg [vI y3, vI (W e), .arr 1 ((lv3).map vI)])]⟩, none, some (lFrFramed q7), some (lvI q8)], [0, 1, 2, 3, 4, 5, 6, 7, 8, 9, 10, 11, 12, 13, 16, 18], (vK (.cons R R (.cons R R (.cons R R (.cons R R (.cons R R (.cons R R (.cons R R (.cons R R (.cons R R (.cons R R (.gone R (.gone R (.cons R R (.gone R (.row R (.row R .nil)))))))))))))))) R), ?_⟩
   with_reducible apply yk_norm
   refine rgj_ev (r_notT R R R (ev_endJ (thenj_norm (swj_condF R (swj_skip (thenj_norm (swj_rg (rgj_ev (q_movD R (q_ldD (y := vI rv.1) tb R (q_add R (q_asgD R (ev_endJ (blockj_norm (thenj_norm ?_)))))))))))))))
   exact ⟨m9, ⟨[(0, .d (.v (.func (.yield lb) #[] #[]))), (1, .ref 6 1 0 0), (2, .ref 7 1 0 0), (3, .ref 8 1 0 0), (4, .ref 9 4 0 0), (6, .d (vI (W (y4 + rv.1))))], [some ⟨4, [.d (FrFormat.d f)]⟩, some ⟨2, [.d (FrTape.d t)]⟩, some ⟨1, [.row 10 3 0 (q7).length]⟩, some ⟨1, [.row 11 1 0 (q8).length]⟩, some ⟨1, [.d (vI 0)]⟩, some ⟨1, [.d (vI (W ((W (x3 + (iand .i64 (W ((W e) - (iand .i64 x3 255))) 255))) + 1)))]⟩, some ⟨1, [.d (vI rv.1)]⟩, some ⟨1, [.d (.arr 1 ((rv.2.1).map v8))]⟩, some ⟨1, [.d (vI rv.2.2.1)]⟩, some ⟨4, [.d (FrFormat.d rv.2.2.2)]⟩, some (lFrFramed q7), some (lvI q8)]⟩, Nat.lt_succ_self _, .vw (κ := [0, 1, 2, 3, 4, 5, 6, 7, 8, 9, 14, 15]) (vK (.cons R R (.cons R R (.cons R R (.cons R R (.cons R R (.cons R R (.cons R R (.cons R R (.cons R R (.cons R R (.row R (.row R .nil)))))))))))) R), (W (y4 + rv.1)), q7, q8, (W ((W (x3 + (iand .i64 (W ((W e) - (iand .i64 x3 255))) 255))) + 1)), h, R, R⟩
  intro c3
  replace h := ifF c3 h
  refine r_notF R R R (q_pickF R (ev_endD (by kernel_rfl) (thenj_norm (swj_condT R (swj_seq (swj_rg (rgj_ev (q_movD R (q_add R (q_asgD R (ev_endJ (thenj_norm (swj_exit (thenj_exit (blockj_exit (thenj_norm ?_))))))))))))))))
  exact ⟨m9, ⟨[(0, .d (.v (.func (.yield lb) #[] #[]))), (1, .ref 6 1 0 0), (2, .ref 7 1 0 0), (3, .ref 8 1 0 0), (4, .ref 9 4 0 0), (6, .d (vI (W (y3 + 1))))], [some ⟨4, [.d (FrFormat.d f)]⟩, some ⟨2, [.d (FrTape.d t)]⟩, some ⟨1, [.row 10 3 0 (lv).length]⟩, some ⟨1, [.row 11 1 0 (lv2).length]⟩, some ⟨1, [.d (vI 0)]⟩, some ⟨1, [.d (vI x)]⟩, some ⟨1, [.d (vI rv.1)]⟩, some ⟨1, [.d (.arr 1 ((rv.2.1).map v8))]⟩, some ⟨1, [.d (vI rv.2.2.1)]⟩, some ⟨4, [.d (FrFormat.d rv.2.2.2)]⟩, some (lFrFramed lv), some (lvI lv2)]⟩, Nat.lt_succ_self _, .vw (κ := [0, 1, 2, 3, 4, 5, 6, 7, 8, 9, 10, 11]) (vK (.cons R R (.cons R R (.cons R R (.cons R R (.cons R R (.cons R R (.cons R R (.cons R R (.cons R R (.cons R R (.row R (.row R .nil)))))))))))) R), (W (y3 + 1)), lv, lv2, x, h, R, R⟩
 intro c
 replace h := ifN (Int.not_le.2 c) h
 refine ev_endJ (thenj_norm (swj_condF R (swj_exit (thenj_exit (thenj_exit ?_)))))
 subst hK9
 refine blockj_exit ?_
 refine ⟨R, [some ⟨4, [.d (FrFormat.d f)]⟩, some ⟨2, [.d (FrTape.d t)]⟩, some ⟨1, [.row 10 3 0 (lv).length]⟩, some ⟨1, [.row 11 1 0 (lv2).length]⟩, some ⟨1, [.d (vI 0)]⟩, some ⟨1, [.d (vI x)]⟩, some ⟨1, [.d (vI rv.1)]⟩, some ⟨1, [.d (.arr 1 ((rv.2.1).map v8))]⟩, some ⟨1, [.d (vI rv.2.2.1)]⟩, some ⟨4, [.d (FrFormat.d rv.2.2.2)]⟩, some (lFrFramed lv), some (lvI lv2)], [0, 1, 2, 3, 4, 5, 6, 7, 8, 9, 10, 11], (vK (.cons R R (.cons R R (.cons R R (.cons R R (.cons R R (.cons R R (.cons R R (.cons R R (.cons R R (.cons R R (.row R (.row R .nil)))))))))))) R), ?_⟩
 refine block_norm (then_norm ?_)
 refine swm_of fun df => ?_
 refine sw_seq (sw_dr (by kernel_rfl) (r_ldW tb R R R R R R R R R (r_ldW tb R R R R R R R R R (q_stE _ _ tb R (q_stE _ _ tb R (q_stE _ _ tb R (ev_endD (by kernel_rfl) (then_norm (sw_ret ?_)))))))))
 obtain rfl := sI h
 exact f2 [10, 11] (.row R (.row R .nil)) R (.cons (rc tb R) (.cons (rc tb R) (.cons (rc tb R) .nil))) R
theorem frame_read_pc {F : Nat} {f : FrFormat} {t : FrTape} {r : ((List FrFrame) × (List Int) × Int)} (h : frame_read F f t = some r) : PC Try.prog 67 [FrFormat.d f, FrTape.d t] (.tup [.arr 3 ((r.1).map FrFrame.d), .arr 1 ((r.2.1).map vI), .v (.int .i64 r.2.2)]) := (frame_read_scr h).toPC (.tupL (.cons (.row rfl rfl) (.cons (.row rfl rfl) (.cons (.d _) .nil))))
def frame_Numbers (F : Nat) (f : FrFormat) (t : FrTape) : Option ((List Int) × Int) := Option.bind (frame_tape F f t) fun rv => if rv = 0 then (Option.bind (frame_read F f t) fun rv2 => some (rv2.2.1, rv2.2.2)) else (some (([] : List Int), rv))
theorem frame_Numbers_scr {F : Nat} {f : FrFormat} {t : FrTape} {r : ((List Int) × Int)} (h : frame_Numbers F f t = some r) : SCR Try.prog 27 (List.map T.d [FrFormat.d f, FrTape.d t]) [] (.tup [.row 0 1 0 (r.1).length, .d (.v (.int .i64 r.2))]) (List.map some [(lvI r.1)]) := by
 rw [frame_Numbers] at h
 refine SC.of_sw Try.func27 R R R ?_
 dsimp only [argS, List.map]
 refine qG (q_box R (q_box R (q_asgD R (q_asgD R (eN (sw_seq (qG (q_ldD (y := FrFormat.d f) tb R (q_ldD (y := FrTape.d t) tb R ?_)))))))))
 obtain ⟨rv, hrv, h⟩ := bnd h
 refine r_call (frame_tape_pc hrv) (.of (by kernel_rfl)) R R R R (q_asgD R (eN (qG (q_movD R ?_))))
 refine r_neq R R R R ?_ ?_
 ·intro c
  replace h := ifN c h
  refine eN (sw_condT R (qG (q_movD R (q_asgD R (q_asgD R (eN ?_))))))
  refine SW.own (ts' := [(4, .row 2 1 0 (([] : List Int)).length), (5, .d (vI rv))]) (L' := [some ⟨4, [.d (FrFormat.d f)]⟩, some ⟨2, [.d (FrTape.d t)]⟩]) 1 R R (.cons .nil (.cons (.same _) .nil)) (.same (.same .nil)) ?_
  simp only [List.cons_append, List.nil_append]
  refine sw_ret (then_ret ?_)
  obtain rfl := sI h
  exact f2 [2] (.row R .nil) R (.cons (.tmp 4) (.cons (.tmp 5) .nil)) R
 intro c
 replace h := ifP c h
 refine eN (sw_condF R (sw_skip (then_norm (qG (q_ldD (y := FrFormat.d f) tb R (q_ldD (y := FrTape.d t) tb R ?_))))))
 obtain ⟨rv2, hrv2, h⟩ := bnd h
 refine r_callN (t' := .tup [.row 2 3 0 (rv2.1).length, .row 3 1 0 (rv2.2.1).length, .d (vI rv2.2.2)]) (news' := [(lFrFramed rv2.1), (lvI rv2.2.1)]) (frame_read_scr hrv2) (.of (by kernel_rfl)) R R R ((.row (.row .nil))) R R R (r_movT (.tup [.row 2 3 0 (rv2.1).length, .row 3 1 0 (rv2.2.1).length, .d (vI rv2.2.2)]) R R R (r_ext (t := .row 2 3 0 (rv2.1).length) R R R R (r_ext (t := .row 3 1 0 (rv2.2.1).length) R R R R (r_ext (t := .d (vI rv2.2.2)) R R R R (r_asgW R R R (r_asgW R R R ?_))))))
 refine q_asgD R (eN (qG (r_movW R R R (q_movD R (r_asgW R R R (q_asgD R (eN (sw_ret ?_))))))))
 obtain rfl := sI h
 exact f2 [3] (.row R .nil) R (.cons (.tmp 4) (.cons (.tmp 5) .nil)) R
theorem frame_Numbers_pc {F : Nat} {f : FrFormat} {t : FrTape} {r : ((List Int) × Int)} (h : frame_Numbers F f t = some r) : PC Try.prog 27 [FrFormat.d f, FrTape.d t] (.tup [.arr 1 ((r.1).map vI), .v (.int .i64 r.2)]) := (frame_Numbers_scr h).toPC (.tupL (.cons (.row rfl rfl) (.cons (.d _) .nil)))
def frame_Values_L1 (F : Nat) (rv3 : ((List FrFrame) × (List Int) × Int)) (e : FrChannel) (K : (List FrValue) → Int → Option ((List FrValue) × Int)) : Nat → (List FrValue) → Int → Option ((List FrValue) × Int)
 | 0, _, _ => none
 | n + 1, y, x => if x < (rv3.2.1.length : Int) then (Option.bind (ixO rv3.2.1 x) fun e2 => Option.bind (frame_in F e e2) fun rv4 => if rv4 = true then (Option.bind (ixO rv3.1 x) fun e3 => Option.bind (ixO e3.words e.word) fun e4 => Option.bind (appO y [(FrValue.mk e2 e4)]) fun q => frame_Values_L1 F rv3 e K n q (W (x + 1))) else (frame_Values_L1 F rv3 e K n y (W (x + 1)))) else (K y x)
def frame_Values (F : Nat) (t : FrFormat) (o : FrTape) (a : Int) : Option ((List FrValue) × Int) := Option.bind (frame_tape F t o) fun rv => if rv = 0 then (Option.bind (frame_out_int F a 0 (W ((t.channels.length : Int) - 1))) fun rv2 => if rv2 = true then (some (([] : List FrValue), 4)) else (Option.bind (frame_read F t o) fun rv3 => if rv3.2.2 = 0 then (Option.bind (ixO t.channels a) fun e => frame_Values_L1 F rv3 e (fun (y : (List FrValue)) (x : Int) => some (y, 0)) F ([] : List FrValue) 0) else (some (([] : List FrValue), rv3.2.2)))) else (some (([] : List FrValue), rv))
theorem frame_Values_scr {F : Nat} {t : FrFormat} {o : FrTape} {a : Int} {r : ((List FrValue) × Int)} (h : frame_Values F t o a = some r) : SCR Try.prog 29 (List.map T.d [FrFormat.d t, FrTape.d o, .v (.int .i64 a)]) [] (.tup [.row 0 2 0 (r.1).length, .d (.v (.int .i64 r.2))]) (List.map some [(lFrValued r.1)]) := by
 rw [frame_Values] at h
 refine SC.of_sw Try.func29 R R R ?_
 dsimp only [argS, List.map]
 refine qG (q_box R (q_box R (q_asgD R (q_asgD R (eN (sw_seq (qG (q_ldD (y := FrFormat.d t) tb R (q_ldD (y := FrTape.d o) tb R ?_)))))))))
 obtain ⟨rv, hrv, h⟩ := bnd h
 refine r_call (frame_tape_pc hrv) (.of (by kernel_rfl)) R R R R (q_asgD R (eN (qG (q_movD R ?_))))
 refine r_neq R R R R ?_ ?_
 ·intro c
  replace h := ifN c h
  refine eN (sw_condT R (qG (q_movD R (q_asgD R (q_asgD R (eN ?_))))))
  refine SW.own (ts' := [(6, .row 2 2 0 (([] : List FrValue)).length), (7, .d (vI rv))]) (L' := [some ⟨4, [.d (FrFormat.d t)]⟩, some ⟨2, [.d (FrTape.d o)]⟩]) 2 R R (.cons .nil (.cons (.same _) .nil)) (.same (.same .nil)) ?_
  simp only [List.cons_append, List.nil_append]
  refine sw_ret (then_ret ?_)
  obtain rfl := sI h
  exact f2 [2] (.row R .nil) R (.cons (.tmp 6) (.cons (.tmp 7) .nil)) R
 intro c
 replace h := ifP c h
 refine eN (sw_condF R (sw_skip (then_norm (sw_seq (qG (q_movD R (q_fa tb R (q_ldD (y := .arr 4 ((t.channels).map FrChannel.d)) tb R (q_lenM tb R (r_sub R R R R ?_))))))))))
 obtain ⟨rv2, hrv2, h⟩ := bnd h
 refine r_callB (frame_out_int_pc hrv2) (.of (by kernel_rfl)) R R R R ?_ ?_
 ·intro c2
  replace h := ifP c2 h
  refine eN (sw_condT R (qG (q_asgD R (q_asgD R (eN ?_)))))
  refine SW.own (ts' := [(6, .row 2 2 0 (([] : List FrValue)).length), (7, .d (vI 4))]) (L' := [some ⟨4, [.d (FrFormat.d t)]⟩, some ⟨2, [.d (FrTape.d o)]⟩]) 2 R R (.cons .nil (.cons (.same _) .nil)) (.same (.same .nil)) ?_
  simp only [List.cons_append, List.nil_append]
  refine sw_ret (then_ret ?_)
  obtain rfl := sI h
  exact f2 [2] (.row R .nil) R (.cons (.tmp 6) (.cons (.tmp 7) .nil)) R
 intro c2
 replace h := ifF c2 h
 refine eN (sw_condF R (sw_skip (then_norm (qG (q_ldD (y := FrFormat.d t) tb R (q_ldD (y := FrTape.d o) tb R ?_))))))
 obtain ⟨rv3, hrv3, h⟩ := bnd h
 refine r_callN (t' := .tup [.row 2 3 0 (rv3.1).length, .row 3 1 0 (rv3.2.1).length, .d (vI rv3.2.2)]) (news' := [(lFrFramed rv3.1), (lvI rv3.2.1)]) (frame_read_scr hrv3) (.of (by kernel_rfl)) R R R ((.row (.row .nil))) R R R (r_movT (.tup [.row 2 3 0 (rv3.1).length, .row 3 1 0 (rv3.2.1).length, .d (vI rv3.2.2)]) R R R (r_ext (t := .row 2 3 0 (rv3.1).length) R R R R (r_ext (t := .row 3 1 0 (rv3.2.1).length) R R R R (r_ext (t := .d (vI rv3.2.2)) R R R R (r_asgW R R R (r_asgW R R R ?_))))))
 refine q_asgD R (eN (sw_seq (qG (q_movD R ?_))))
 refine r_neq R R R R ?_ ?_
 ·intro c3
  replace h := ifN c3 h
  refine eN (sw_condT R (qG (q_movD R (q_asgD R (q_asgD R (eN ?_))))))
  refine SW.own (ts' := [(6, .row 4 2 0 (([] : List FrValue)).length), (7, .d (vI rv3.2.2))]) (L' := [some ⟨4, [.d (FrFormat.d t)]⟩, some ⟨2, [.d (FrTape.d o)]⟩, some (lFrFramed rv3.1), some (lvI rv3.2.1)]) 2 R R (.cons .nil (.cons (.same _) .nil)) (.same (.same (.same (.same .nil)))) ?_
  simp only [List.cons_append, List.nil_append]
  refine sw_ret (then_ret ?_)
  obtain rfl := sI h
  exact f2 [4] (.row R .nil) R (.cons (.tmp 6) (.cons (.tmp 7) .nil)) R
 intro c3
 replace h := ifP c3 h
 refine eN (sw_condF R (sw_skip (then_norm (qG (q_fa tb R (q_ldD (y := .arr 4 ((t.channels).map FrChannel.d)) tb R (q_movD R ?_)))))))
 obtain ⟨e, ie, h⟩ := bnd h
 refine q_ixE tb (ix0 ie) (ix1m ie) R (q_ldE (y := FrChannel.d e) tb (ix2 (g := FrChannel.d) ie) R (r_alloc tb R R R R R (q_stE _ _ tb R (eN (sw_seq (qG (r_movW R R R (r_lenR tb R R R R R (q_movD R (eN (sw_block ?_)))))))))))
 refine SW.own (ts' := [(6, .row 5 2 0 (([] : List FrValue)).length), (7, .d (vI rv3.2.2)), (8, .row 2 3 0 (rv3.1).length), (10, .ref 4 4 0 0), (40, .row 3 1 0 (rv3.2.1).length), (41, .d (vI (rv3.2.1.length : Int))), (42, .d (vI 0))]) (L' := [some ⟨4, [.d (FrFormat.d t)]⟩, some ⟨2, [.d (FrTape.d o)]⟩, some (lFrFramed rv3.1), some (lvI rv3.2.1), some ⟨4, [.d (FrChannel.d e)]⟩]) 2 R R (.cons .nil (.cons (.same _) (.cons (.same _) (.cons (.same _) (.cons (.same _) (.cons (.same _) (.cons (.same _) .nil))))))) (.same (.same (.same (.same (.same .nil))))) ?_
 simp only [List.cons_append, List.nil_append]
 obtain ⟨K1, hK1, h⟩ : ∃ K, K = _ ∧ frame_Values_L1 F rv3 e K F ([] : List FrValue) 0 = some r := ⟨_, rfl, h⟩
 refine sw_loopS (st0 := ⟨[(6, .row 0 2 0 (([] : List FrValue)).length), (7, .d (vI rv3.2.2)), (8, .row 1 3 0 (rv3.1).length), (10, .ref 2 4 0 0), (40, .row 3 1 0 (rv3.2.1).length), (41, .d (vI (rv3.2.1.length : Int))), (42, .d (vI 0))], [some (lFrValued ([] : List FrValue)), some (lFrFramed rv3.1), some ⟨4, [.d (FrChannel.d e)]⟩, some (lvI rv3.2.1)]⟩) (fun m st => ∃ (y : (List FrValue)) (x : Int), frame_Values_L1 F rv3 e K1 m y x = some r ∧ st = ⟨[(6, .row 0 2 0 (y).length), (7, .d (vI rv3.2.2)), (8, .row 1 3 0 (rv3.1).length), (10, .ref 2 4 0 0), (40, .row 3 1 0 (rv3.2.1).length), (41, .d (vI (rv3.2.1.length : Int))), (42, .d (vI x))], [some (lFrValued y), some (lFrFramed rv3.1), some ⟨4, [.d (FrChannel.d e)]⟩, some (lvI rv3.2.1)]⟩) (.vw (κ := [5, 2, 4, 3]) (vK (.row R (.row R (.cons R R (.row R .nil)))) R)) ⟨([] : List FrValue), 0, h, R⟩ ?_
 clear h
 rintro m1 st ⟨y, x, h, rfl⟩
 cases m1 with
 | zero => cases (show (none : Option ((List FrValue) × Int)) = some r from h)
 | succ m1 =>
 rw [frame_Values_L1] at h
 refine qG ?_
 refine r_lss R R R R ?_ ?_
 ·intro c4
  replace h := ifP c4 h
  refine eN (sw_seq (sw_condT R (sw_skip (then_norm (sw_seq (sw_block (qG (q_movD R ?_))))))))
  obtain ⟨e2, ie2, h⟩ := bnd h
  refine r_ixI tb R R R R R R (ix0 ie2) (ix1 ie2) R R ?_
  refine r_ldD (y := vI e2) tb R R R R (ix2 (g := fun a => T.d (vI a)) ie2) R R R R ?_
  refine q_asgD R (q_asgD R (eN (qG (q_ldD (y := FrChannel.d e) tb R (q_movD R ?_)))))
  obtain ⟨rv4, hrv4, h⟩ := bnd h
  refine r_callB (frame_in_pc hrv4) (.of (by kernel_rfl)) R R R R ?_ ?_
  ·intro c5
   replace h := ifP c5 h
   refine eN (sw_condT R (sw_dr (by kernel_rfl) (r_movW R R R (q_movD R (r_movW R R R (q_movD R ?_))))))
   obtain ⟨e3, ie3, h⟩ := bnd h
   refine r_ixI tb R R R R R R (ix0 ie3) (ix1 ie3) R R (q_fa tb R ?_)
   refine r_ldD (y := .arr 1 ((e3.words).map vI)) tb R R R R (ix2 (g := fun a => T.d (FrFrame.d a)) ie3) R R R R ?_
   refine q_fa tb R (q_ldD (y := vI e.word) tb R ?_)
   obtain ⟨e4, ie4, h⟩ := bnd h
   refine q_ixE tb (ix0 ie4) (ix1m ie4) R (q_ldE (y := vI e4) tb (ix2 (g := vI) ie4) R (r_build (v := .d (.agg [vI e2, vI e4])) tb R R (List.cons_ne_nil _ _) R R R R R R (r_bslice tb R R R R R R R R R R R R R ?_)))
   obtain ⟨q, iq, h⟩ := bnd h
   refine r_apM (g := FrValue.d) (w := y) (v := [(FrValue.mk e2 e4)]) ([none, some (lFrFramed rv3.1), some ⟨4, [.d (FrChannel.d e)]⟩, some (lvI rv3.2.1), some (lFrValued [(FrValue.mk e2 e4)])]) tb R R R R R R R R R R R iq R R R R R (r_asgW R R R (ev_endD (by kernel_rfl) (block_norm (then_norm (sw_rg (q_add R (q_movD R (eN ?_))))))))
   exact ⟨m1, ⟨[(6, .row 0 2 0 (q).length), (7, .d (vI rv3.2.2)), (8, .row 1 3 0 (rv3.1).length), (10, .ref 2 4 0 0), (40, .row 3 1 0 (rv3.2.1).length), (41, .d (vI (rv3.2.1.length : Int))), (42, .d (vI (W (x + 1))))], [some (lFrValued q), some (lFrFramed rv3.1), some ⟨4, [.d (FrChannel.d e)]⟩, some (lvI rv3.2.1)]⟩, Nat.lt_succ_self _, .vw (κ := [5, 1, 2, 3]) (vK (.row R (.row R (.cons R R (.row R .nil)))) R), q, (W (x + 1)), h, R⟩
  intro c5
  replace h := ifF c5 h
  refine eN (sw_condF R (sw_skip (block_norm (then_norm (sw_rg (q_add R (q_movD R (eN ?_))))))))
  exact ⟨m1, _, Nat.lt_succ_self _, .prn [6, 7, 8, 10, 40, 41, 42] R, y, (W (x + 1)), h, R⟩
 intro c4
 replace h := ifN (Int.not_lt.2 c4) h
 refine eN (sw_seq (sw_condF R (sw_exit (then_exit (then_exit ?_)))))
 subst hK1
 refine block_exit (then_norm (qG (r_movW R R R (r_asgW R R R (q_asgD R (eN (sw_ret ?_)))))))
 obtain rfl := sI h
 exact f2 [0] (.row R .nil) R (.cons (.tmp 6) (.cons (.tmp 7) .nil)) R
theorem frame_Values_pc {F : Nat} {t : FrFormat} {o : FrTape} {a : Int} {r : ((List FrValue) × Int)} (h : frame_Values F t o a = some r) : PC Try.prog 29 [FrFormat.d t, FrTape.d o, .v (.int .i64 a)] (.tup [.arr 2 ((r.1).map FrValue.d), .v (.int .i64 r.2)]) := (frame_Values_scr h).toPC (.tupL (.cons (.row rfl rfl) (.cons (.d _) .nil)))
def r1_Ints_L1 (F : Nat) (a : (List Int)) (b : (List Int)) (K : Int → Option Bool) : Nat → Int → Option Bool
 | 0, _ => none
 | n + 1, i => if i < (a.length : Int) then (Option.bind (ixO a i) fun e => Option.bind (ixO b i) fun e2 => if e = e2 then (r1_Ints_L1 F a b K n (W (i + 1))) else (some false)) else (K i)
def r1_Ints (F : Nat) (a : (List Int)) (b : (List Int)) : Option Bool := if (a.length : Int) = (b.length : Int) then (r1_Ints_L1 F a b (fun (i : Int) => some true) F 0) else (some false)
theorem r1_Ints_pc {F : Nat} {a : (List Int)} {b : (List Int)} {r : Bool} (h : r1_Ints F a b = some r) : PC Try.prog 63 [.arr 1 ((a).map vI), .arr 1 ((b).map vI)] (.v (.bool r)) := by
 rw [r1_Ints] at h
 refine SC.of_sw Try.func63 R R R ?_
 dsimp only [argS, List.map]
 refine qG (q_asgD R (eN (sw_seq (qG (q_movD R (q_lenM tb R (q_movD R (q_lenM tb R ?_))))))))
 refine r_neq R R R R ?_ ?_
 ·intro c
  replace h := ifN c h
  refine eN (sw_condT R (qG (q_asgD R (eN (sw_ret (then_ret ?_))))))
  obtain rfl := sI h
  exact f1 4 R
 intro c
 replace h := ifP c h
 refine eN (sw_condF R (sw_skip (then_norm (sw_seq (qG (q_asgD R (eN (sw_block ?_))))))))
 obtain ⟨K2, hK2, h⟩ : ∃ K, K = _ ∧ r1_Ints_L1 F a b K F 0 = some r := ⟨_, rfl, h⟩
 refine sw_loopS (fun m st => ∃ (i : Int), r1_Ints_L1 F a b K2 m i = some r ∧ st = ⟨[(0, .d (.arr 1 ((a).map vI))), (1, .d (.arr 1 ((b).map vI))), (4, .d (.v (.bool false))), (5, .d (vI i))], []⟩) (.prn [0, 1, 4, 5] R) ⟨0, h, R⟩ ?_
 clear h
 rintro m2 st ⟨i, h, rfl⟩
 cases m2 with
 | zero => cases (show (none : Option Bool) = some r from h)
 | succ m2 =>
 rw [r1_Ints_L1] at h
 refine sw_seq (qG (q_movD R (q_movD R (q_lenM tb R ?_))))
 refine r_lss R R R R ?_ ?_
 ·intro c2
  replace h := ifP c2 h
  refine eN (sw_condT R (sw_skip (then_norm (sw_seq (sw_block (sw_seq (sw_dr (by kernel_rfl) (q_movD R (q_movD R ?_)))))))))
  obtain ⟨e, ie, h⟩ := bnd h
  refine q_ixE tb (ix0 ie) (ix1m ie) R (q_ldE (y := vI e) tb (ix2 (g := vI) ie) R (q_movD R (q_movD R ?_)))
  obtain ⟨e2, ie2, h⟩ := bnd h
  refine q_ixE tb (ix0 ie2) (ix1m ie2) R (q_ldE (y := vI e2) tb (ix2 (g := vI) ie2) R ?_)
  refine r_neq R R R R ?_ ?_
  ·intro c3
   replace h := ifN c3 h
   refine ev_endD (by kernel_rfl) (then_norm (sw_condT R (qG (q_asgD R (eN (sw_ret (block_ret (then_ret (then_ret (block_ret (then_ret ?_)))))))))))
   obtain rfl := sI h
   exact f1 4 R
  intro c3
  replace h := ifP c3 h
  refine ev_endD (by kernel_rfl) (then_norm (sw_condF R (sw_skip (block_norm (then_norm (sw_rg (q_movD R (q_add R (q_asgD R (eN ?_))))))))))
  exact ⟨m2, _, Nat.lt_succ_self _, .prn [0, 1, 4, 5] R, (W (i + 1)), h, R⟩
 intro c2
 replace h := ifN (Int.not_lt.2 c2) h
 refine eN (sw_condF R (sw_exit (then_exit (then_exit ?_))))
 subst hK2
 refine block_exit (then_norm (qG (q_asgD R (eN (sw_ret ?_)))))
 obtain rfl := sI h
 exact f1 4 R
def r9_Ints (F : Nat) (a : (List Int)) (b : (List Int)) : Option Bool := Option.bind (r1_Ints F a b) fun rv => some rv
theorem r9_Ints_pc {F : Nat} {a : (List Int)} {b : (List Int)} {r : Bool} (h : r9_Ints F a b = some r) : PC Try.prog 24 [.arr 1 ((a).map vI), .arr 1 ((b).map vI)] (.v (.bool r)) := by
 rw [r9_Ints] at h
 refine SC.of_sw Try.func24 R R R ?_
 dsimp only [argS, List.map]
 refine qG (q_asgD R (eN (qG (q_movD R (q_movD R ?_)))))
 obtain ⟨rv, hrv, h⟩ := bnd h
 refine r_call (r1_Ints_pc hrv) (.of (by kernel_rfl)) R R R R (q_asgD R (eN (sw_ret ?_)))
 obtain rfl := sI h
 exact f1 4 R
def r9_SameFrames_L1 (F : Nat) (a : (List FrFrame)) (b : (List FrFrame)) (K : Int → Option Bool) : Nat → Int → Option Bool
 | 0, _ => none
 | n + 1, i => if i < (a.length : Int) then (Option.bind (ixO a i) fun e => Option.bind (ixO b i) fun e2 => if e.at_ = e2.at_ then (if e.count = e2.count then (Option.bind (r9_Ints F e.words e2.words) fun rv => if rv = true then (r9_SameFrames_L1 F a b K n (W (i + 1))) else (some false)) else (some false)) else (some false)) else (K i)
def r9_SameFrames (F : Nat) (a : (List FrFrame)) (b : (List FrFrame)) : Option Bool := if (a.length : Int) = (b.length : Int) then (r9_SameFrames_L1 F a b (fun (i : Int) => some true) F 0) else (some false)
theorem r9_SameFrames_pc {F : Nat} {a : (List FrFrame)} {b : (List FrFrame)} {r : Bool} (h : r9_SameFrames F a b = some r) : PC Try.prog 33 [.arr 3 ((a).map FrFrame.d), .arr 3 ((b).map FrFrame.d)] (.v (.bool r)) := by
 rw [r9_SameFrames] at h
 refine SC.of_sw Try.func33 R R R ?_
 dsimp only [argS, List.map]
 refine qG (q_asgD R (eN (sw_seq (qG (q_movD R (q_lenM tb R (q_movD R (q_lenM tb R ?_))))))))
 refine r_neq R R R R ?_ ?_
 ·intro c
  replace h := ifN c h
  refine eN (sw_condT R (qG (q_asgD R (eN (sw_ret (then_ret ?_))))))
  obtain rfl := sI h
  exact f1 4 R
 intro c
 replace h := ifP c h
 refine eN (sw_condF R (sw_skip (then_norm (sw_seq (qG (q_asgD R (eN (sw_block ?_))))))))
 obtain ⟨K2, hK2, h⟩ : ∃ K, K = _ ∧ r9_SameFrames_L1 F a b K F 0 = some r := ⟨_, rfl, h⟩
 refine sw_loopS (fun m st => ∃ (i : Int), r9_SameFrames_L1 F a b K2 m i = some r ∧ st = ⟨[(0, .d (.arr 3 ((a).map FrFrame.d))), (1, .d (.arr 3 ((b).map FrFrame.d))), (4, .d (.v (.bool false))), (5, .d (vI i))], []⟩) (.prn [0, 1, 4, 5] R) ⟨0, h, R⟩ ?_
 clear h
 rintro m2 st ⟨i, h, rfl⟩
 cases m2 with
 | zero => cases (show (none : Option Bool) = some r from h)
 | succ m2 =>
 rw [r9_SameFrames_L1] at h
 refine sw_seq (qG (q_movD R (q_movD R (q_lenM tb R ?_))))
 refine r_lss R R R R ?_ ?_
 ·intro c2
  replace h := ifP c2 h
  refine eN (sw_condT R (sw_skip (then_norm (sw_seq (sw_block (sw_seq (sw_dr (by kernel_rfl) (q_movD R (q_movD R ?_)))))))))
  obtain ⟨e, ie, h⟩ := bnd h
  refine q_ixE tb (ix0 ie) (ix1m ie) R (q_faE tb R (q_ldE (y := vI e.at_) tb (ix2 (g := FrFrame.d) ie) R (q_movD R (q_movD R ?_))))
  obtain ⟨e2, ie2, h⟩ := bnd h
  refine q_ixE tb (ix0 ie2) (ix1m ie2) R (q_faE tb R (q_ldE (y := vI e2.at_) tb (ix2 (g := FrFrame.d) ie2) R ?_))
  refine r_neq R R R R ?_ ?_
  ·intro c3
   replace h := ifN c3 h
   refine q_movD R (q_sk 11 R (q_pickT R (q_movD R (q_sk 12 R (q_pickT R (ev_endD (by kernel_rfl) (then_norm (sw_condT R (qG (q_asgD R (eN (sw_ret (block_ret (then_ret (then_ret (block_ret (then_ret ?_)))))))))))))))))
   obtain rfl := sI h
   exact f1 4 R
  intro c3
  replace h := ifP c3 h
  refine q_movD R (q_movD R (q_movD R (q_ixE tb (ix0 ie) (ix1m ie) R (q_faE tb R (q_ldE (y := vI e.count) tb (ix2 (g := FrFrame.d) ie) R (q_movD R (q_movD R (q_ixE tb (ix0 ie2) (ix1m ie2) R (q_faE tb R (q_ldE (y := vI e2.count) tb (ix2 (g := FrFrame.d) ie2) R ?_))))))))))
  refine r_neq R R R R ?_ ?_
  ·intro c4
   replace h := ifN c4 h
   refine q_pickF R (q_movD R (q_sk 12 R (q_pickT R (ev_endD (by kernel_rfl) (then_norm (sw_condT R (qG (q_asgD R (eN (sw_ret (block_ret (then_ret (then_ret (block_ret (then_ret ?_)))))))))))))))
   obtain rfl := sI h
   exact f1 4 R
  intro c4
  replace h := ifP c4 h
  refine q_pickF R (q_movD R (q_movD R (q_movD R (q_ixE tb (ix0 ie) (ix1m ie) R (q_faE tb R (q_ldE (y := .arr 1 ((e.words).map vI)) tb (ix2 (g := FrFrame.d) ie) R (q_movD R (q_movD R (q_ixE tb (ix0 ie2) (ix1m ie2) R (q_faE tb R (q_ldE (y := .arr 1 ((e2.words).map vI)) tb (ix2 (g := FrFrame.d) ie2) R ?_)))))))))))
  obtain ⟨rv, hrv, h⟩ := bnd h
  refine r_callB (r9_Ints_pc hrv) (.of (by kernel_rfl)) R R R R ?_ ?_
  ·intro c5
   replace h := ifP c5 h
   refine r_notT R R R (q_pickF R (ev_endD (by kernel_rfl) (then_norm (sw_condF R (sw_skip (block_norm (then_norm (sw_rg (q_movD R (q_add R (q_asgD R (eN ?_))))))))))))
   exact ⟨m2, _, Nat.lt_succ_self _, .prn [0, 1, 4, 5] R, (W (i + 1)), h, R⟩
  intro c5
  replace h := ifF c5 h
  refine r_notF R R R (q_pickF R (ev_endD (by kernel_rfl) (then_norm (sw_condT R (qG (q_asgD R (eN (sw_ret (block_ret (then_ret (then_ret (block_ret (then_ret ?_)))))))))))))
  obtain rfl := sI h
  exact f1 4 R
 intro c2
 replace h := ifN (Int.not_lt.2 c2) h
 refine eN (sw_condF R (sw_exit (then_exit (then_exit ?_))))
 subst hK2
 refine block_exit (then_norm (qG (q_asgD R (eN (sw_ret ?_)))))
 obtain rfl := sI h
 exact f1 4 R
def r9_SameReports_L1 (F : Nat) (t : (List FrReport)) (o : (List FrReport)) (K : Int → Option Bool) : Nat → Int → Option Bool
 | 0, _ => none
 | n + 1, a => if a < (t.length : Int) then (Option.bind (ixO t a) fun e => Option.bind (ixO o a) fun e2 => if e.number = e2.number then (if e.from_ = e2.from_ then (if e.agree = e2.agree then (if (e.marked != e2.marked) = true then (some false) else (Option.bind (r9_Ints F e.words e2.words) fun rv => if rv = true then (r9_SameReports_L1 F t o K n (W (a + 1))) else (some false))) else (some false)) else (some false)) else (some false)) else (K a)
def r9_SameReports (F : Nat) (t : (List FrReport)) (o : (List FrReport)) : Option Bool := if (t.length : Int) = (o.length : Int) then (r9_SameReports_L1 F t o (fun (a : Int) => some true) F 0) else (some false)
theorem r9_SameReports_pc {F : Nat} {t : (List FrReport)} {o : (List FrReport)} {r : Bool} (h : r9_SameReports F t o = some r) : PC Try.prog 49 [.arr 5 ((t).map FrReport.d), .arr 5 ((o).map FrReport.d)] (.v (.bool r)) := by
 rw [r9_SameReports] at h
 refine SC.of_sw Try.func49 R R R ?_
 dsimp only [argS, List.map]
 refine qG (q_asgD R (eN (sw_seq (qG (q_movD R (q_lenM tb R (q_movD R (q_lenM tb R ?_))))))))
 refine r_neq R R R R ?_ ?_
 ·intro c
  replace h := ifN c h
  refine eN (sw_condT R (qG (q_asgD R (eN (sw_ret (then_ret ?_))))))
  obtain rfl := sI h
  exact f1 4 R
 intro c
 replace h := ifP c h
 refine eN (sw_condF R (sw_skip (then_norm (sw_seq (qG (q_asgD R (eN (sw_block ?_))))))))
 obtain ⟨K2, hK2, h⟩ : ∃ K, K = _ ∧ r9_SameReports_L1 F t o K F 0 = some r := ⟨_, rfl, h⟩
 refine sw_loopS (fun m st => ∃ (a : Int), r9_SameReports_L1 F t o K2 m a = some r ∧ st = ⟨[(0, .d (.arr 5 ((t).map FrReport.d))), (1, .d (.arr 5 ((o).map FrReport.d))), (4, .d (.v (.bool false))), (5, .d (vI a))], []⟩) (.prn [0, 1, 4, 5] R) ⟨0, h, R⟩ ?_
 clear h
 rintro m2 st ⟨a, h, rfl⟩
 cases m2 with
 | zero => cases (show (none : Option Bool) = some r from h)
 | succ m2 =>
 rw [r9_SameReports_L1] at h
 refine sw_seq (qG (q_movD R (q_movD R (q_lenM tb R ?_))))
 refine r_lss R R R R ?_ ?_
 ·intro c2
  replace h := ifP c2 h
  refine eN (sw_condT R (sw_skip (then_norm (sw_seq (sw_block (sw_seq (sw_dr (by kernel_rfl) (q_movD R (q_movD R ?_)))))))))
  obtain ⟨e, ie, h⟩ := bnd h
  refine q_ixE tb (ix0 ie) (ix1m ie) R (q_faE tb R (q_ldE (y := vI e.number) tb (ix2 (g := FrReport.d) ie) R (q_movD R (q_movD R ?_))))
  obtain ⟨e2, ie2, h⟩ := bnd h
  refine q_ixE tb (ix0 ie2) (ix1m ie2) R (q_faE tb R (q_ldE (y := vI e2.number) tb (ix2 (g := FrReport.d) ie2) R ?_))
  refine r_neq R R R R ?_ ?_
  ·intro c3
   replace h := ifN c3 h
   refine q_movD R (q_sk 11 R (q_pickT R (q_movD R (q_sk 11 R (q_pickT R (q_movD R (q_sk 11 R (q_pickT R (q_movD R (q_sk 12 R (q_pickT R (ev_endD (by kernel_rfl) (then_norm (sw_condT R (qG (q_asgD R (eN (sw_ret (block_ret (then_ret (then_ret (block_ret (then_ret ?_)))))))))))))))))))))))
   obtain rfl := sI h
   exact f1 4 R
  intro c3
  replace h := ifP c3 h
  refine q_movD R (q_movD R (q_movD R (q_ixE tb (ix0 ie) (ix1m ie) R (q_faE tb R (q_ldE (y := vI e.from_) tb (ix2 (g := FrReport.d) ie) R (q_movD R (q_movD R (q_ixE tb (ix0 ie2) (ix1m ie2) R (q_faE tb R (q_ldE (y := vI e2.from_) tb (ix2 (g := FrReport.d) ie2) R ?_))))))))))
  refine r_neq R R R R ?_ ?_
  ·intro c4
   replace h := ifN c4 h
   refine q_pickF R (q_movD R (q_sk 11 R (q_pickT R (q_movD R (q_sk 11 R (q_pickT R (q_movD R (q_sk 12 R (q_pickT R (ev_endD (by kernel_rfl) (then_norm (sw_condT R (qG (q_asgD R (eN (sw_ret (block_ret (then_ret (then_ret (block_ret (then_ret ?_)))))))))))))))))))))
   obtain rfl := sI h
   exact f1 4 R
  intro c4
  replace h := ifP c4 h
  refine q_pickF R (q_movD R (q_movD R (q_movD R (q_ixE tb (ix0 ie) (ix1m ie) R (q_faE tb R (q_ldE (y := vI e.agree) tb (ix2 (g := FrReport.d) ie) R (q_movD R (q_movD R (q_ixE tb (ix0 ie2) (ix1m ie2) R (q_faE tb R (q_ldE (y := vI e2.agree) tb (ix2 (g := FrReport.d) ie2) R ?_)))))))))))
  refine r_neq R R R R ?_ ?_
  ·intro c5
   replace h := ifN c5 h
   refine q_pickF R (q_movD R (q_sk 11 R (q_pickT R (q_movD R (q_sk 12 R (q_pickT R (ev_endD (by kernel_rfl) (then_norm (sw_condT R (qG (q_asgD R (eN (sw_ret (block_ret (then_ret (then_ret (block_ret (then_ret ?_))))))))))))))))))
   obtain rfl := sI h
   exact f1 4 R
  intro c5
  replace h := ifP c5 h
  refine q_pickF R (q_movD R (q_movD R (q_movD R (q_ixE tb (ix0 ie) (ix1m ie) R (q_faE tb R (q_ldE (y := .v (.bool e.marked)) tb (ix2 (g := FrReport.d) ie) R (q_movD R (q_movD R (q_ixE tb (ix0 ie2) (ix1m ie2) R (q_faE tb R (q_ldE (y := .v (.bool e2.marked)) tb (ix2 (g := FrReport.d) ie2) R (r_boolneq R R R R R ?_))))))))))))
  with_reducible apply ev_lit
  ·intro c6
   replace h := ifP c6 h
   refine q_pickF R (q_movD R (q_sk 12 R (q_pickT R (ev_endD (by kernel_rfl) (then_norm (sw_condT R (qG (q_asgD R (eN (sw_ret (block_ret (then_ret (then_ret (block_ret (then_ret ?_)))))))))))))))
   obtain rfl := sI h
   exact f1 4 R
  intro c6
  replace h := ifF c6 h
  refine q_pickF R (q_movD R (q_movD R (q_movD R (q_ixE tb (ix0 ie) (ix1m ie) R (q_faE tb R (q_ldE (y := .arr 1 ((e.words).map vI)) tb (ix2 (g := FrReport.d) ie) R (q_movD R (q_movD R (q_ixE tb (ix0 ie2) (ix1m ie2) R (q_faE tb R (q_ldE (y := .arr 1 ((e2.words).map vI)) tb (ix2 (g := FrReport.d) ie2) R ?_)))))))))))
  obtain ⟨rv, hrv, h⟩ := bnd h
  refine r_callB (r9_Ints_pc hrv) (.of (by kernel_rfl)) R R R R ?_ ?_
  ·intro c7
   replace h := ifP c7 h
   refine r_notT R R R (q_pickF R (ev_endD (by kernel_rfl) (then_norm (sw_condF R (sw_skip (block_norm (then_norm (sw_rg (q_movD R (q_add R (q_asgD R (eN ?_))))))))))))
   exact ⟨m2, _, Nat.lt_succ_self _, .prn [0, 1, 4, 5] R, (W (a + 1)), h, R⟩
  intro c7
  replace h := ifF c7 h
  refine r_notF R R R (q_pickF R (ev_endD (by kernel_rfl) (then_norm (sw_condT R (qG (q_asgD R (eN (sw_ret (block_ret (then_ret (then_ret (block_ret (then_ret ?_)))))))))))))
  obtain rfl := sI h
  exact f1 4 R
 intro c2
 replace h := ifN (Int.not_lt.2 c2) h
 refine eN (sw_condF R (sw_exit (then_exit (then_exit ?_))))
 subst hK2
 refine block_exit (then_norm (qG (q_asgD R (eN (sw_ret ?_)))))
 obtain rfl := sI h
 exact f1 4 R
def r9_SameAxes_L1 (F : Nat) (a : (List FrAxes)) (b : (List FrAxes)) (K : Int → Option Bool) : Nat → Int → Option Bool
 | 0, _ => none
 | n + 1, i => if i < (a.length : Int) then (Option.bind (ixO a i) fun e => Option.bind (ixO b i) fun e2 => if e.number = e2.number then (Option.bind (r9_Ints F e.dirs e2.dirs) fun rv => if rv = true then (r9_SameAxes_L1 F a b K n (W (i + 1))) else (some false)) else (some false)) else (K i)
def r9_SameAxes (F : Nat) (a : (List FrAxes)) (b : (List FrAxes)) : Option Bool := if (a.length : Int) = (b.length : Int) then (r9_SameAxes_L1 F a b (fun (i : Int) => some true) F 0) else (some false)
theorem r9_SameAxes_pc {F : Nat} {a : (List FrAxes)} {b : (List FrAxes)} {r : Bool} (h : r9_SameAxes F a b = some r) : PC Try.prog 45 [.arr 2 ((a).map FrAxes.d), .arr 2 ((b).map FrAxes.d)] (.v (.bool r)) := by
 rw [r9_SameAxes] at h
 refine SC.of_sw Try.func45 R R R ?_
 dsimp only [argS, List.map]
 refine qG (q_asgD R (eN (sw_seq (qG (q_movD R (q_lenM tb R (q_movD R (q_lenM tb R ?_))))))))
 refine r_neq R R R R ?_ ?_
 ·intro c
  replace h := ifN c h
  refine eN (sw_condT R (qG (q_asgD R (eN (sw_ret (then_ret ?_))))))
  obtain rfl := sI h
  exact f1 4 R
 intro c
 replace h := ifP c h
 refine eN (sw_condF R (sw_skip (then_norm (sw_seq (qG (q_asgD R (eN (sw_block ?_))))))))
 obtain ⟨K2, hK2, h⟩ : ∃ K, K = _ ∧ r9_SameAxes_L1 F a b K F 0 = some r := ⟨_, rfl, h⟩
 refine sw_loopS (fun m st => ∃ (i : Int), r9_SameAxes_L1 F a b K2 m i = some r ∧ st = ⟨[(0, .d (.arr 2 ((a).map FrAxes.d))), (1, .d (.arr 2 ((b).map FrAxes.d))), (4, .d (.v (.bool false))), (5, .d (vI i))], []⟩) (.prn [0, 1, 4, 5] R) ⟨0, h, R⟩ ?_
 clear h
 rintro m2 st ⟨i, h, rfl⟩
 cases m2 with
 | zero => cases (show (none : Option Bool) = some r from h)
 | succ m2 =>
 rw [r9_SameAxes_L1] at h
 refine sw_seq (qG (q_movD R (q_movD R (q_lenM tb R ?_))))
 refine r_lss R R R R ?_ ?_
 ·intro c2
  replace h := ifP c2 h
  refine eN (sw_condT R (sw_skip (then_norm (sw_seq (sw_block (sw_seq (sw_dr (by kernel_rfl) (q_movD R (q_movD R ?_)))))))))
  obtain ⟨e, ie, h⟩ := bnd h
  refine q_ixE tb (ix0 ie) (ix1m ie) R (q_faE tb R (q_ldE (y := vI e.number) tb (ix2 (g := FrAxes.d) ie) R (q_movD R (q_movD R ?_))))
  obtain ⟨e2, ie2, h⟩ := bnd h
  refine q_ixE tb (ix0 ie2) (ix1m ie2) R (q_faE tb R (q_ldE (y := vI e2.number) tb (ix2 (g := FrAxes.d) ie2) R ?_))
  refine r_neq R R R R ?_ ?_
  ·intro c3
   replace h := ifN c3 h
   refine q_movD R (q_sk 12 R (q_pickT R (ev_endD (by kernel_rfl) (then_norm (sw_condT R (qG (q_asgD R (eN (sw_ret (block_ret (then_ret (then_ret (block_ret (then_ret ?_))))))))))))))
   obtain rfl := sI h
   exact f1 4 R
  intro c3
  replace h := ifP c3 h
  refine q_movD R (q_movD R (q_movD R (q_ixE tb (ix0 ie) (ix1m ie) R (q_faE tb R (q_ldE (y := .arr 1 ((e.dirs).map vI)) tb (ix2 (g := FrAxes.d) ie) R (q_movD R (q_movD R (q_ixE tb (ix0 ie2) (ix1m ie2) R (q_faE tb R (q_ldE (y := .arr 1 ((e2.dirs).map vI)) tb (ix2 (g := FrAxes.d) ie2) R ?_))))))))))
  obtain ⟨rv, hrv, h⟩ := bnd h
  refine r_callB (r9_Ints_pc hrv) (.of (by kernel_rfl)) R R R R ?_ ?_
  ·intro c4
   replace h := ifP c4 h
   refine r_notT R R R (q_pickF R (ev_endD (by kernel_rfl) (then_norm (sw_condF R (sw_skip (block_norm (then_norm (sw_rg (q_movD R (q_add R (q_asgD R (eN ?_))))))))))))
   exact ⟨m2, _, Nat.lt_succ_self _, .prn [0, 1, 4, 5] R, (W (i + 1)), h, R⟩
  intro c4
  replace h := ifF c4 h
  refine r_notF R R R (q_pickF R (ev_endD (by kernel_rfl) (then_norm (sw_condT R (qG (q_asgD R (eN (sw_ret (block_ret (then_ret (then_ret (block_ret (then_ret ?_)))))))))))))
  obtain rfl := sI h
  exact f1 4 R
 intro c2
 replace h := ifN (Int.not_lt.2 c2) h
 refine eN (sw_condF R (sw_exit (then_exit (then_exit ?_))))
 subst hK2
 refine block_exit (then_norm (qG (q_asgD R (eN (sw_ret ?_)))))
 obtain rfl := sI h
 exact f1 4 R
def slices_Clone_int (F : Nat) (s : (List Int)) : Option (List Int) := Option.bind (appI ([] : List Int) s) fun q => some q
theorem slices_Clone_int_scr {F : Nat} {s : (List Int)} {r : (List Int)} (h : slices_Clone_int F s = some r) : SCR Try.prog 93 (List.map T.d [.arr 1 ((s).map vI)]) [] (.row 0 1 0 (r).length) (List.map some [(lvI r)]) := by
 rw [slices_Clone_int] at h
 refine SC.of_sw Try.func93 R R R ?_
 dsimp only [argS, List.map]
 cases s with
 | nil =>
  refine SW.raw 0 1 R fun ad cap => ?_
  cases ad with
  | none =>
   replace h : some ([] : List Int) = some r := by simpa [appO, appI] using h
   refine qG (q_asgD R (eN (sw_seq (qG (q_movD R (r_nilRow (by intro o a n cap w; cases a <;> cases o <;> simp [go_sem, eqGuard] <;> rfl) R R R (eN (sw_condT R ?_))))))))
   refine SW.unraw 0 1 R ?_
   refine SW.unraw 3 1 R ?_
   refine qG (q_asgD R (eN ?_))
   refine SW.own (ts' := [(2, .row 0 1 0 (([] : List Int)).length)]) (L' := []) 1 R R (.cons .nil .nil) .nil ?_
   simp only [List.cons_append, List.nil_append]
   refine sw_ret (then_ret ?_)
   obtain rfl := sI h
   exact f2 [0] (.row R .nil) R (.cons (.tmp 2) .nil) R
  | some ad =>
   refine qG (q_asgD R (eN (sw_seq (qG (q_movD R (r_nilRaw (by intro o a n cap w; cases a <;> cases o <;> simp [go_sem, eqGuard] <;> rfl) R R R (eN (sw_condF R ?_))))))))
   refine SW.unraw 0 1 R ?_
   refine SW.unraw 3 1 R ?_
   refine sw_skip (then_norm (qG (r_bslice tb R R R R R R R R R R R R R (q_movD R ?_))))
   obtain ⟨q, iq, h⟩ := bnd h
   refine r_apEI (g := vI) (w := ([] : List Int)) (v := ([] : List Int)) ([none]) tb R R R R R R R R (by intro _; exact R) iq R R R R R (r_asgW R R R (eN (sw_ret ?_)))
   obtain rfl := sI h
   exact f2 [1] (.row R .nil) R (.cons (.tmp 2) .nil) R
 | cons x0 s =>
  refine qG (q_asgD R (eN (sw_seq (qG (q_movD R (r_nilArr (by intro o a n cap w; cases a <;> cases o <;> simp [go_sem, eqGuard] <;> rfl) R R R (eN (sw_condF R (sw_skip (then_norm (qG (r_bslice tb R R R R R R R R R R R R R (q_movD R ?_)))))))))))))
  obtain ⟨q, iq, h⟩ := bnd h
  refine r_apEI (g := vI) (w := ([] : List Int)) (v := (x0 :: s)) ([none]) tb R R R R R R R R (by intro _; exact R) iq R R R R R (r_asgW R R R (eN (sw_ret ?_)))
  obtain rfl := sI h
  exact f2 [1] (.row R .nil) R (.cons (.tmp 2) .nil) R
theorem slices_Clone_int_pc {F : Nat} {s : (List Int)} {r : (List Int)} (h : slices_Clone_int F s = some r) : PC Try.prog 93 [.arr 1 ((s).map vI)] (.arr 1 ((r).map vI)) := (slices_Clone_int_scr h).toPC (.row rfl rfl)
def frame_Merge_2 (F : Nat) (a : FrReport) (b : FrReport) : Option Bool := some (decide (a.number = b.number))
theorem frame_Merge_2_pc {F : Nat} {a : FrReport} {b : FrReport} {r : Bool} (h : frame_Merge_2 F a b = some r) : PC Try.prog 99 [FrReport.d a, FrReport.d b] (.v (.bool r)) := by
 rw [frame_Merge_2] at h
 refine SC.of_sw Try.func99 R R R ?_
 dsimp only [argS, List.map]
 refine qG (q_box R (q_box R (q_asgD R (eN (qG (q_fa tb R (q_ldD (y := vI a.number) tb R (q_fa tb R (q_ldD (y := vI b.number) tb R (r_eqlV R R R R (q_asgD R (eN (sw_ret ?_)))))))))))))
 obtain rfl := sI h
 exact f1 4 R
def slices_CompactFunc_FrReport_m_frame_Merge_2_L1 (F : Nat)  (K : (List FrReport) → Int → Int → Option ((List FrReport) × (List FrReport))) : Nat → (List FrReport) → Int → Int → Option ((List FrReport) × (List FrReport))
 | 0, _, _, _ => none
 | n + 1, t2, a2, x => if x < (([] : List FrReport).length : Int) then (Option.bind (ixO ([] : List FrReport) x) fun e3 => Option.bind (ixO ([] : List FrReport) (W (x - 1))) fun e4 => Option.bind (frame_Merge_2 F e3 e4) fun rv2 => if rv2 = true then (slices_CompactFunc_FrReport_m_frame_Merge_2_L1 F K n t2 a2 (W (x + 1))) else (Option.bind (ixO t2 a2) fun e5 => Option.bind (setO t2 a2 e3) fun t3 => slices_CompactFunc_FrReport_m_frame_Merge_2_L1 F K n t3 (W (a2 + 1)) (W (x + 1)))) else (K t2 a2 x)
def slices_CompactFunc_FrReport_m_frame_Merge_2_L2 (F : Nat) (p : Nat) (K : (List FrReport) → Int → Int → Option ((List FrReport) × (List FrReport))) : Nat → (List FrReport) → Int → Int → Option ((List FrReport) × (List FrReport))
 | 0, _, _, _ => none
 | n + 1, t5, a3, x2 => if x2 < ((t5.length - p : Nat) : Int) then (Option.bind (ixO (t5.drop p) x2) fun e6 => Option.bind (ixO (t5.drop p) (W (x2 - 1))) fun e7 => Option.bind (frame_Merge_2 F e6 e7) fun rv3 => if rv3 = true then (slices_CompactFunc_FrReport_m_frame_Merge_2_L2 F p K n t5 a3 (W (x2 + 1))) else (Option.bind (ixO t5 a3) fun e8 => Option.bind (setO t5 a3 e6) fun t6 => slices_CompactFunc_FrReport_m_frame_Merge_2_L2 F p K n t6 (W (a3 + 1)) (W (x2 + 1)))) else (K t5 a3 x2)
def slices_CompactFunc_FrReport_m_frame_Merge_2_L3 (F : Nat) (t : (List FrReport)) (K : Int → Option ((List FrReport) × (List FrReport))) : Nat → Int → Option ((List FrReport) × (List FrReport))
 | 0, _ => none
 | n + 1, a => if a < (t.length : Int) then (Option.bind (ixO t a) fun e => Option.bind (ixO t (W (a - 1))) fun e2 => Option.bind (frame_Merge_2 F e e2) fun rv => if rv = true then (Option.bind (natO a t.length) fun p => if t.length = p then (slices_CompactFunc_FrReport_m_frame_Merge_2_L1 F (fun (t2 : (List FrReport)) (a2 : Int) (x : Int) => Option.bind (natO a2 t2.length) fun p2 => if t2.length = p2 then (Option.bind (natO a2 t2.length) fun p3 => some ((t2.take p3), t2)) else (Option.bind (clrPO t2 p2 (FrReport.mk 0 0 0 false ([] : List Int))) fun t4 => Option.bind (natO a2 t4.length) fun p4 => some ((t4.take p4), t4))) F t a 1) else (slices_CompactFunc_FrReport_m_frame_Merge_2_L2 F p (fun (t5 : (List FrReport)) (a3 : Int) (x2 : Int) => Option.bind (natO a3 t5.length) fun p5 => if t5.length = p5 then (Option.bind (natO a3 t5.length) fun p6 => some ((t5.take p6), t5)) else (Option.bind (clrPO t5 p5 (FrReport.mk 0 0 0 false ([] : List Int))) fun t7 => Option.bind (natO a3 t7.length) fun p7 => some ((t7.take p7), t7))) F t a 1)) else (slices_CompactFunc_FrReport_m_frame_Merge_2_L3 F t K n (W (a + 1)))) else (K a)
def slices_CompactFunc_FrReport_m_frame_Merge_2 (F : Nat) (t : (List FrReport)) : Option ((List FrReport) × (List FrReport)) := if (t.length : Int) < 2 then (some (t, t)) else (slices_CompactFunc_FrReport_m_frame_Merge_2_L3 F t (fun (a : Int) => some (t, t)) F 1)
theorem slices_CompactFunc_FrReport_m_frame_Merge_2_scr {F : Nat} {t : (List FrReport)} {r : ((List FrReport) × (List FrReport))} (h : slices_CompactFunc_FrReport_m_frame_Merge_2 F t = some r) : SCR Try.prog 98 [.row 0 5 0 (t).length, .d (.v (.func (.func 99) #[] #[]))] [some (lFrReportd t)] (.row 0 5 0 (r.1).length) [some (lFrReportd r.2)] := by
 rw [slices_CompactFunc_FrReport_m_frame_Merge_2] at h
 refine SC.of_sw Try.func98 R R R ?_
 dsimp only [argS, List.map]
 refine qG (q_asgD R (eN (sw_seq (qG (r_movW R R R (r_lenR tb R R R R R ?_))))))
 refine r_lss R R R R ?_ ?_
 ·intro c
  replace h := ifP c h
  refine eN (sw_condT R (qG (r_movW R R R (r_asgW R R R (eN (sw_ret (then_ret ?_)))))))
  obtain rfl := sI h
  exact f2 [0] (.row R .nil) R (.cons (.tmp 4) .nil) R
 intro c
 replace h := ifN (Int.not_lt.2 c) h
 refine eN (sw_condF R (sw_skip (then_norm (sw_seq (qG (q_asgD R (eN (sw_block ?_))))))))
 obtain ⟨K6, hK6, h⟩ : ∃ K, K = _ ∧ slices_CompactFunc_FrReport_m_frame_Merge_2_L3 F t K F 1 = some r := ⟨_, rfl, h⟩
 refine sw_loopS (fun m st => ∃ (a : Int), slices_CompactFunc_FrReport_m_frame_Merge_2_L3 F t K6 m a = some r ∧ st = ⟨[(0, .row 0 5 0 (t).length), (1, .d (.v (.func (.func 99) #[] #[]))), (4, .d (.v (.slice none 0 0))), (5, .d (vI a))], [some (lFrReportd t)]⟩) (.prn [0, 1, 4, 5] R) ⟨1, h, R⟩ ?_
 clear h
 rintro m6 st ⟨a, h, rfl⟩
 cases m6 with
 | zero => cases (show (none : Option ((List FrReport) × (List FrReport))) = some r from h)
 | succ m6 =>
 rw [slices_CompactFunc_FrReport_m_frame_Merge_2_L3] at h
 refine sw_seq (qG (q_movD R (r_movW R R R (r_lenR tb R R R R R ?_))))
 refine r_lss R R R R ?_ ?_
 ·intro c2
  replace h := ifP c2 h
  refine eN (sw_condT R (sw_skip (then_norm (sw_seq (sw_block (sw_seq (sw_dr (by kernel_rfl) (q_movD R (r_movW R R R (q_movD R ?_))))))))))
  obtain ⟨e, ie, h⟩ := bnd h
  refine r_ixI tb R R R R R R (ix0 ie) (ix1 ie) R R ?_
  refine r_ldD (y := FrReport.d e) tb R R R R (ix2 (g := fun a => T.d (FrReport.d a)) ie) R R R R ?_
  refine r_movW R R R (q_movD R (r_sub R R R R ?_))
  obtain ⟨e2, ie2, h⟩ := bnd h
  refine r_ixI tb R R R R R R (ix0 ie2) (ix1 ie2) R R ?_
  refine r_ldD (y := FrReport.d e2) tb R R R R (ix2 (g := fun a => T.d (FrReport.d a)) ie2) R R R R ?_
  obtain ⟨rv, hrv, h⟩ := bnd h
  refine r_callB (frame_Merge_2_pc hrv) (.of (by kernel_rfl)) R R R R ?_ ?_
  ·intro c3
   replace h := ifP c3 h
   refine ev_endD (by kernel_rfl) (then_norm (sw_condT R (qG (r_movW R R R (q_movD R ?_)))))
   obtain ⟨p, ip, h⟩ := bnd h
   by_cases c4 : t.length = p
   ·replace h := ifP c4 h
    refine r_slRowLoE tb R R R R R R ((natO_eq ip).1) c4 R R ?_
    refine q_asgD R (eN (sw_seq (qG (q_asgD R (eN (sw_block ?_))))))
    obtain ⟨K7, hK7, h⟩ : ∃ K, K = _ ∧ slices_CompactFunc_FrReport_m_frame_Merge_2_L1 F K F t a 1 = some r := ⟨_, rfl, h⟩
    refine sw_loopS (fun m st => ∃ (t2 : (List FrReport)) (a2 : Int) (x : Int), slices_CompactFunc_FrReport_m_frame_Merge_2_L1 F K7 m t2 a2 x = some r ∧ st = ⟨[(0, .row 0 5 0 (t2).length), (1, .d (.v (.func (.func 99) #[] #[]))), (4, .d (.v (.slice none 0 0))), (5, .d (vI a2)), (6, .d (.arr 5 ((([] : List FrReport)).map FrReport.d))), (7, .d (vI x))], [some (lFrReportd t2)]⟩) (.prn [0, 1, 4, 5, 6, 7] R) ⟨t, a, 1, h, R⟩ ?_
    clear h
    rintro m7 st ⟨t2, a2, x, h, rfl⟩
    cases m7 with
    | zero => cases (show (none : Option ((List FrReport) × (List FrReport))) = some r from h)
    | succ m7 =>
    rw [slices_CompactFunc_FrReport_m_frame_Merge_2_L1] at h
    refine sw_seq (qG (q_movD R (q_movD R (q_lenM tb R ?_))))
    refine r_lss R R R R ?_ ?_
    ·intro c5
     replace h := ifP c5 h
     refine eN (sw_condT R (sw_skip (then_norm (sw_seq (sw_block (sw_seq (sw_dr (by kernel_rfl) (q_movD R (q_movD R (q_movD R ?_))))))))))
     obtain ⟨e3, ie3, h⟩ := bnd h
     refine q_ixE tb (ix0 ie3) (ix1m ie3) R (q_ldE (y := FrReport.d e3) tb (ix2 (g := FrReport.d) ie3) R (q_movD R (q_movD R (r_sub R R R R ?_))))
     obtain ⟨e4, ie4, h⟩ := bnd h
     refine q_ixE tb (ix0 ie4) (ix1m ie4) R (q_ldE (y := FrReport.d e4) tb (ix2 (g := FrReport.d) ie4) R ?_)
     obtain ⟨rv2, hrv2, h⟩ := bnd h
     refine r_callB (frame_Merge_2_pc hrv2) (.of (by kernel_rfl)) R R R R ?_ ?_
     ·intro c6
      replace h := ifP c6 h
      refine r_notT R R R (ev_endD (by kernel_rfl) (then_norm (sw_condF R (sw_skip (block_norm (then_norm (sw_rg (q_movD R (q_add R (q_asgD R (eN ?_)))))))))))
      exact ⟨m7, _, Nat.lt_succ_self _, .prn [0, 1, 4, 5, 6, 7] R, t2, a2, (W (x + 1)), h, R⟩
     intro c6
     replace h := ifF c6 h
     refine r_notF R R R (ev_endD (by kernel_rfl) (then_norm (sw_condT R (qG (r_movW R R R (q_movD R (q_movD R (q_movD R (q_ixE tb (ix0 ie3) (ix1m ie3) R (q_ldE (y := FrReport.d e3) tb (ix2 (g := FrReport.d) ie3) R ?_))))))))))
     obtain ⟨e5, ie5, h⟩ := bnd h
     refine r_ixI tb R R R R R R (ix0 ie5) (ix1 ie5) R R ?_
     obtain ⟨t3, it3, h⟩ := bnd h
     refine r_stQ (a' := (e3 : FrReport)) tb R R R R ie5 R R R R it3 R R ?_
     dsimp only [List.set_cons_zero, List.set_cons_succ]
     first | rw [set_len it3] | skip
     refine eN (sw_rg (q_movD R (q_add R (q_asgD R (ev_end (block_norm (then_norm (sw_rg (q_movD R (q_add R (q_asgD R (eN ?_))))))))))))
     exact ⟨m7, _, Nat.lt_succ_self _, .prn [0, 1, 4, 5, 6, 7] R, t3, (W (a2 + 1)), (W (x + 1)), h, R⟩
    intro c5
    replace h := ifN (Int.not_lt.2 c5) h
    refine eN (sw_condF R (sw_exit (then_exit (then_exit ?_))))
    subst hK7
    refine block_exit (then_norm (qG (r_movW R R R (q_movD R ?_))))
    obtain ⟨p2, ip2, h⟩ := bnd h
    by_cases c7 : t2.length = p2
    ·replace h := ifP c7 h
     refine r_slRowLoE tb R R R R R R ((natO_eq ip2).1) c7 R R ?_
     refine r_clearE tb R R R R (eN (qG (r_movW R R R (q_movD R ?_))))
     obtain ⟨p3, ip3, h⟩ := bnd h
     refine r_slRowHT (t2) tb R R R R R R R ((natO_eq ip3).1) ((natO_eq ip3).2) R R ?_
     refine r_asgW R R R (eN (sw_ret (block_ret (then_ret (then_ret (block_ret (then_ret ?_)))))))
     obtain rfl := sI h
     exact f2 [0] (.row R .nil) R (.cons (.tmp 4) .nil) R
    replace h := ifN c7 h
    refine r_slRowLo tb R R R R R R ((natO_eq ip2).1) (by have := (natO_eq ip2).2; omega) R R ?_
    obtain ⟨t4, it4, h⟩ := bnd h
    refine r_clearP (g := FrReport.d) (a0 := (FrReport.mk 0 0 0 false ([] : List Int))) tb R R R R R ((.aggc (.same _) (.aggc (.same _) (.aggc (.same _) (.aggc (.same _) (.aggc (.nil _) .agg0)))))) R R R R R it4 R R ?_
    dsimp only [List.set_cons_zero, List.set_cons_succ]
    first | rw [clrPO_len it4] | skip
    refine eN (qG (r_movW R R R (q_movD R ?_)))
    obtain ⟨p4, ip4, h⟩ := bnd h
    refine r_slRowHT (t4) tb R R R R R R R ((natO_eq ip4).1) ((natO_eq ip4).2) R R ?_
    refine r_asgW R R R (eN (sw_ret (block_ret (then_ret (then_ret (block_ret (then_ret ?_)))))))
    obtain rfl := sI h
    exact f2 [0] (.row R .nil) R (.cons (.tmp 4) .nil) R
   replace h := ifN c4 h
   refine r_slRowLo tb R R R R R R ((natO_eq ip).1) (by have := (natO_eq ip).2; omega) R R ?_
   refine r_asgW R R R (eN (sw_seq (qG (q_asgD R (eN (sw_block ?_))))))
   obtain ⟨K8, hK8, h⟩ : ∃ K, K = _ ∧ slices_CompactFunc_FrReport_m_frame_Merge_2_L2 F p K F t a 1 = some r := ⟨_, rfl, h⟩
   refine sw_loopS (fun m st => ∃ (t5 : (List FrReport)) (a3 : Int) (x2 : Int), slices_CompactFunc_FrReport_m_frame_Merge_2_L2 F p K8 m t5 a3 x2 = some r ∧ st = ⟨[(0, .row 0 5 0 (t5).length), (1, .d (.v (.func (.func 99) #[] #[]))), (4, .d (.v (.slice none 0 0))), (5, .d (vI a3)), (6, .row 0 5 p ((t5).length - p)), (7, .d (vI x2))], [some (lFrReportd t5)]⟩) (.prn [0, 1, 4, 5, 6, 7] R) ⟨t, a, 1, h, R⟩ ?_
   clear h
   rintro m8 st ⟨t5, a3, x2, h, rfl⟩
   cases m8 with
   | zero => cases (show (none : Option ((List FrReport) × (List FrReport))) = some r from h)
   | succ m8 =>
   rw [slices_CompactFunc_FrReport_m_frame_Merge_2_L2] at h
   refine sw_seq (qG (q_movD R (r_movW R R R (r_lenR tb R R R R R ?_))))
   refine r_lss R R R R ?_ ?_
   ·intro c8
    replace h := ifP c8 h
    refine eN (sw_condT R (sw_skip (then_norm (sw_seq (sw_block (sw_seq (sw_dr (by kernel_rfl) (q_movD R (r_movW R R R (q_movD R ?_))))))))))
    obtain ⟨e6, ie6, h⟩ := bnd h
    refine r_ixR tb R R R R R R (ix0 ie6) (ix1d ie6) R R ?_
    refine r_ldD (y := FrReport.d e6) tb R R R R (ix2d (g := fun a => T.d (FrReport.d a)) ie6) R R R R ?_
    refine r_movW R R R (q_movD R (r_sub R R R R ?_))
    obtain ⟨e7, ie7, h⟩ := bnd h
    refine r_ixR tb R R R R R R (ix0 ie7) (ix1d ie7) R R ?_
    refine r_ldD (y := FrReport.d e7) tb R R R R (ix2d (g := fun a => T.d (FrReport.d a)) ie7) R R R R ?_
    obtain ⟨rv3, hrv3, h⟩ := bnd h
    refine r_callB (frame_Merge_2_pc hrv3) (.of (by kernel_rfl)) R R R R ?_ ?_
    ·intro c9
     replace h := ifP c9 h
     refine r_notT R R R (ev_endD (by kernel_rfl) (then_norm (sw_condF R (sw_skip (block_norm (then_norm (sw_rg (q_movD R (q_add R (q_asgD R (eN ?_)))))))))))
     exact ⟨m8, _, Nat.lt_succ_self _, .prn [0, 1, 4, 5, 6, 7] R, t5, a3, (W (x2 + 1)), h, R⟩
    intro c9
    replace h := ifF c9 h
    refine r_notF R R R (ev_endD (by kernel_rfl) (then_norm (sw_condT R (qG (r_movW R R R (q_movD R (r_movW R R R (q_movD R (r_ixR tb R R R R R R (ix0 ie6) (ix1d ie6) R R ?_)))))))))
    refine r_ldD (y := FrReport.d e6) tb R R R R (ix2d (g := fun a => T.d (FrReport.d a)) ie6) R R R R ?_
    obtain ⟨e8, ie8, h⟩ := bnd h
    refine r_ixI tb R R R R R R (ix0 ie8) (ix1 ie8) R R ?_
    obtain ⟨t6, it6, h⟩ := bnd h
    refine r_stQ (a' := (e6 : FrReport)) tb R R R R ie8 R R R R it6 R R ?_
    dsimp only [List.set_cons_zero, List.set_cons_succ]
    first | rw [set_len it6] | skip
    refine eN (sw_rg (q_movD R (q_add R (q_asgD R (ev_end (block_norm (then_norm (sw_rg (q_movD R (q_add R (q_asgD R (eN ?_))))))))))))
    exact ⟨m8, _, Nat.lt_succ_self _, .prn [0, 1, 4, 5, 6, 7] R, t6, (W (a3 + 1)), (W (x2 + 1)), h, R⟩
   intro c8
   replace h := ifN (Int.not_lt.2 c8) h
   refine eN (sw_condF R (sw_exit (then_exit (then_exit ?_))))
   subst hK8
   refine block_exit (then_norm (qG (r_movW R R R (q_movD R ?_))))
   obtain ⟨p5, ip5, h⟩ := bnd h
   by_cases c10 : t5.length = p5
   ·replace h := ifP c10 h
    refine r_slRowLoE tb R R R R R R ((natO_eq ip5).1) c10 R R ?_
    refine r_clearE tb R R R R (eN (qG (r_movW R R R (q_movD R ?_))))
    obtain ⟨p6, ip6, h⟩ := bnd h
    refine r_slRowHT (t5) tb R R R R R R R ((natO_eq ip6).1) ((natO_eq ip6).2) R R ?_
    refine r_asgW R R R (eN (sw_ret (block_ret (then_ret (then_ret (block_ret (then_ret ?_)))))))
    obtain rfl := sI h
    exact f2 [0] (.row R .nil) R (.cons (.tmp 4) .nil) R
   replace h := ifN c10 h
   refine r_slRowLo tb R R R R R R ((natO_eq ip5).1) (by have := (natO_eq ip5).2; omega) R R ?_
   obtain ⟨t7, it7, h⟩ := bnd h
   refine r_clearP (g := FrReport.d) (a0 := (FrReport.mk 0 0 0 false ([] : List Int))) tb R R R R R ((.aggc (.same _) (.aggc (.same _) (.aggc (.same _) (.aggc (.same _) (.aggc (.nil _) .agg0)))))) R R R R R it7 R R ?_
   dsimp only [List.set_cons_zero, List.set_cons_succ]
   first | rw [clrPO_len it7] | skip
   refine eN (qG (r_movW R R R (q_movD R ?_)))
   obtain ⟨p7, ip7, h⟩ := bnd h
   refine r_slRowHT (t7) tb R R R R R R R ((natO_eq ip7).1) ((natO_eq ip7).2) R R ?_
   refine r_asgW R R R (eN (sw_ret (block_ret (then_ret (then_ret (block_ret (then_ret ?_)))))))
   obtain rfl := sI h
   exact f2 [0] (.row R .nil) R (.cons (.tmp 4) .nil) R
  intro c3
  replace h := ifF c3 h
  refine ev_endD (by kernel_rfl) (then_norm (sw_condF R (sw_skip (block_norm (then_norm (sw_rg (q_movD R (q_add R (q_asgD R (eN ?_))))))))))
  exact ⟨m6, _, Nat.lt_succ_self _, .prn [0, 1, 4, 5] R, (W (a + 1)), h, R⟩
 intro c2
 replace h := ifN (Int.not_lt.2 c2) h
 refine eN (sw_condF R (sw_exit (then_exit (then_exit ?_))))
 subst hK6
 refine block_exit (then_norm (qG (r_movW R R R (r_asgW R R R (eN (sw_ret ?_))))))
 obtain rfl := sI h
 exact f2 [0] (.row R .nil) R (.cons (.tmp 4) .nil) R
end Go.Proofs.Ytjnnkcnnandeeaa
