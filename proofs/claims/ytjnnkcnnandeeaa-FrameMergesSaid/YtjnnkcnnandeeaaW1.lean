/- What functions of the program compute: plain functions, and the proofs. -/
import Derived.Test.YtjnnkcnnandeeaaW0
import Derived.Test.YtjnnkcnnandeeaaWAwake
import Derived.Deep.Cut
import Derived.Lib.QuietBelow
import Derived.Shelf.Lay
import Derived.Ground.SlsfProg
set_option linter.unusedVariables false
set_option linter.unusedSimpArgs false
open Go Go.Proofs.Ytjnnkcnnandeeaa.Sh Go.Proofs
namespace Go.Proofs.Ytjnnkcnnandeeaa
set_option maxRecDepth 100000
set_option maxHeartbeats 40000000
def wind_out (F : Nat) (nv : Int) (lo : Int) (hi : Int) : Option Bool := if nv < lo then (some true) else (some (decide (hi < nv)))
theorem wind_out_pc {F : Nat} {nv : Int} {lo : Int} {hi : Int} {r : Bool} (h : wind_out F nv lo hi = some r) : PC Try.prog 105 [.v (.int .i64 nv), .v (.int .i64 lo), .v (.int .i64 hi)] (.v (.bool r)) := by
 rw [wind_out] at h
 refine SC.of_sw Try.func105 R R R ?_
 dsimp only [argS, List.map]
 refine qG (q_asgD R (eN (qG (q_movD R (q_movD R ?_)))))
 refine r_lss R R R R ?_ ?_
 ·intro c
  replace h := ifP c h
  refine q_movD R (q_sk 3 R (q_pickT R (q_asgD R (eN (sw_ret ?_)))))
  obtain rfl := sI h
  exact f1 6 R
 intro c
 replace h := ifN (Int.not_lt.2 c) h
 refine q_movD R (q_movD R (q_movD R (r_gtrV R R R R (q_pickF R (q_asgD R (eN (sw_ret ?_)))))))
 obtain rfl := sI h
 exact f1 6 R
def wind_Name_L1 (F : Nat) (s : ByteArray) (K : Int → Option Bool) : Nat → Int → Option Bool
 | 0, _ => none
 | n + 1, x => if x < ((bytesL s).length : Int) then (Option.bind (ixO (bytesL s) x) fun e => if 97 ≤ e then (if e ≤ 122 then (wind_Name_L1 F s K n (W (x + 1))) else (if x = 0 then (some false) else (if e = 45 then (wind_Name_L1 F s K n (W (x + 1))) else (if 48 ≤ e then (if e ≤ 57 then (wind_Name_L1 F s K n (W (x + 1))) else (some false)) else (some false))))) else (if x = 0 then (some false) else (if e = 45 then (wind_Name_L1 F s K n (W (x + 1))) else (if 48 ≤ e then (if e ≤ 57 then (wind_Name_L1 F s K n (W (x + 1))) else (some false)) else (some false))))) else (K x)
def wind_Name (F : Nat) (s : ByteArray) : Option Bool := wind_Name_L1 F s (fun (x : Int) => Option.bind (wind_out F (s.size : Int) 1 24) fun rv => some (!rv)) F 0
theorem wind_Name_pc {F : Nat} {s : ByteArray} {r : Bool} (h : wind_Name F s = some r) : PC Try.prog 74 [.v (.string s)] (.v (.bool r)) := by
 rw [wind_Name] at h
 refine SC.of_sw Try.func74 R R R ?_
 dsimp only [argS, List.map]
 refine qG (q_asgD R (eN (sw_seq (qG (q_movD R (r_bytes R R R R R R (q_lenM tb R (q_movD R (eN (sw_block ?_))))))))))
 obtain ⟨K2, hK2, h⟩ : ∃ K, K = _ ∧ wind_Name_L1 F s K F 0 = some r := ⟨_, rfl, h⟩
 refine sw_loopS (fun m st => ∃ (x : Int), wind_Name_L1 F s K2 m x = some r ∧ st = ⟨[(0, .d (.v (.string s))), (2, .d (.v (.bool false))), (6, .d (.arr 1 (((bytesL s)).map v8))), (7, .d (vI ((bytesL s).length : Int))), (8, .d (vI x))], []⟩) (.prn [0, 2, 6, 7, 8] R) ⟨0, h, R⟩ ?_
 clear h
 rintro m2 st ⟨x, h, rfl⟩
 cases m2 with
 | zero => cases (show (none : Option Bool) = some r from h)
 | succ m2 =>
 rw [wind_Name_L1] at h
 refine qG ?_
 refine r_lss R R R R ?_ ?_
 ·intro c
  replace h := ifP c h
  refine eN (sw_seq (sw_condT R (sw_skip (then_norm (sw_seq (sw_block (qG (q_movD R ?_))))))))
  obtain ⟨e, ie, h⟩ := bnd h
  refine q_ixE tb (ix0 ie) (ix1m ie) R (q_ldE (y := .v (.int .u8 e)) tb (ix2 (g := v8) ie) R (q_asgD R (q_asgD R (eN (qG (q_movD R ?_))))))
  refine r_geq R R R R ?_ ?_
  ·intro c2
   replace h := ifP c2 h
   refine q_movD R (q_movD R ?_)
   refine r_leq R R R R ?_ ?_
   ·intro c3
    replace h := ifP c3 h
    refine q_pickT R (r_notT R R R (q_movD R (q_sk 15 R (q_pickF R (eN (sw_condF R (sw_skip (block_norm (then_norm (sw_rg (q_add R (q_movD R (eN ?_)))))))))))))
    exact ⟨m2, _, Nat.lt_succ_self _, .prn [0, 2, 6, 7, 8] R, (W (x + 1)), h, R⟩
   intro c3
   replace h := ifN (Int.not_le.2 c3) h
   refine q_pickT R (r_notF R R R (q_movD R (q_movD R ?_)))
   refine r_eql R R R R ?_ ?_
   ·intro c4
    replace h := ifP c4 h
    refine q_movD R (q_sk 11 R (q_pickT R (q_pickT R (eN (sw_condT R (qG (q_asgD R (eN (sw_ret (block_ret (then_ret (then_ret (block_ret (then_ret ?_))))))))))))))
    obtain rfl := sI h
    exact f1 2 R
   intro c4
   replace h := ifN c4 h
   refine q_movD R (q_movD R ?_)
   refine r_neq R R R R ?_ ?_
   ·intro c5
    replace h := ifN c5 h
    refine q_movD R (q_movD R ?_)
    refine r_geq R R R R ?_ ?_
    ·intro c6
     replace h := ifP c6 h
     refine q_movD R (q_movD R ?_)
     refine r_leq R R R R ?_ ?_
     ·intro c7
      replace h := ifP c7 h
      refine q_pickT R (r_notT R R R (q_pickT R (q_pickF R (q_pickT R (eN (sw_condF R (sw_skip (block_norm (then_norm (sw_rg (q_add R (q_movD R (eN ?_)))))))))))))
      exact ⟨m2, _, Nat.lt_succ_self _, .prn [0, 2, 6, 7, 8] R, (W (x + 1)), h, R⟩
     intro c7
     replace h := ifN (Int.not_le.2 c7) h
     refine q_pickT R (r_notF R R R (q_pickT R (q_pickF R (q_pickT R (eN (sw_condT R (qG (q_asgD R (eN (sw_ret (block_ret (then_ret (then_ret (block_ret (then_ret ?_)))))))))))))))
     obtain rfl := sI h
     exact f1 2 R
    intro c6
    replace h := ifN (Int.not_le.2 c6) h
    refine q_movD R (q_sk 2 R (q_pickF R (r_notF R R R (q_pickT R (q_pickF R (q_pickT R (eN (sw_condT R (qG (q_asgD R (eN (sw_ret (block_ret (then_ret (then_ret (block_ret (then_ret ?_)))))))))))))))))
    obtain rfl := sI h
    exact f1 2 R
   intro c5
   replace h := ifP c5 h
   refine q_movD R (q_sk 7 R (q_pickF R (q_pickF R (q_pickT R (eN (sw_condF R (sw_skip (block_norm (then_norm (sw_rg (q_add R (q_movD R (eN ?_)))))))))))))
   exact ⟨m2, _, Nat.lt_succ_self _, .prn [0, 2, 6, 7, 8] R, (W (x + 1)), h, R⟩
  intro c2
  replace h := ifN (Int.not_le.2 c2) h
  refine q_movD R (q_sk 2 R (q_pickF R (r_notF R R R (q_movD R (q_movD R ?_)))))
  refine r_eql R R R R ?_ ?_
  ·intro c8
   replace h := ifP c8 h
   refine q_movD R (q_sk 11 R (q_pickT R (q_pickT R (eN (sw_condT R (qG (q_asgD R (eN (sw_ret (block_ret (then_ret (then_ret (block_ret (then_ret ?_))))))))))))))
   obtain rfl := sI h
   exact f1 2 R
  intro c8
  replace h := ifN c8 h
  refine q_movD R (q_movD R ?_)
  refine r_neq R R R R ?_ ?_
  ·intro c9
   replace h := ifN c9 h
   refine q_movD R (q_movD R ?_)
   refine r_geq R R R R ?_ ?_
   ·intro c10
    replace h := ifP c10 h
    refine q_movD R (q_movD R ?_)
    refine r_leq R R R R ?_ ?_
    ·intro c11
     replace h := ifP c11 h
     refine q_pickT R (r_notT R R R (q_pickT R (q_pickF R (q_pickT R (eN (sw_condF R (sw_skip (block_norm (then_norm (sw_rg (q_add R (q_movD R (eN ?_)))))))))))))
     exact ⟨m2, _, Nat.lt_succ_self _, .prn [0, 2, 6, 7, 8] R, (W (x + 1)), h, R⟩
    intro c11
    replace h := ifN (Int.not_le.2 c11) h
    refine q_pickT R (r_notF R R R (q_pickT R (q_pickF R (q_pickT R (eN (sw_condT R (qG (q_asgD R (eN (sw_ret (block_ret (then_ret (then_ret (block_ret (then_ret ?_)))))))))))))))
    obtain rfl := sI h
    exact f1 2 R
   intro c10
   replace h := ifN (Int.not_le.2 c10) h
   refine q_movD R (q_sk 2 R (q_pickF R (r_notF R R R (q_pickT R (q_pickF R (q_pickT R (eN (sw_condT R (qG (q_asgD R (eN (sw_ret (block_ret (then_ret (then_ret (block_ret (then_ret ?_)))))))))))))))))
   obtain rfl := sI h
   exact f1 2 R
  intro c9
  replace h := ifP c9 h
  refine q_movD R (q_sk 7 R (q_pickF R (q_pickF R (q_pickT R (eN (sw_condF R (sw_skip (block_norm (then_norm (sw_rg (q_add R (q_movD R (eN ?_)))))))))))))
  exact ⟨m2, _, Nat.lt_succ_self _, .prn [0, 2, 6, 7, 8] R, (W (x + 1)), h, R⟩
 intro c
 replace h := ifN (Int.not_lt.2 c) h
 refine eN (sw_seq (sw_condF R (sw_exit (then_exit (then_exit ?_)))))
 subst hK2
 refine block_exit (then_norm (qG (q_movD R (r_lenS R R R R ?_))))
 obtain ⟨rv, hrv, h⟩ := bnd h
 refine r_call (wind_out_pc hrv) (.of (by kernel_rfl)) R R R R (r_not R R R (q_asgD R (eN (sw_ret ?_))))
 obtain rfl := sI h
 exact f1 2 R
def frame_out_int (F : Nat) (nv : Int) (lo : Int) (hi : Int) : Option Bool := if nv < lo then (some true) else (some (decide (hi < nv)))
theorem frame_out_int_pc {F : Nat} {nv : Int} {lo : Int} {hi : Int} {r : Bool} (h : frame_out_int F nv lo hi = some r) : PC Try.prog 69 [.v (.int .i64 nv), .v (.int .i64 lo), .v (.int .i64 hi)] (.v (.bool r)) := by
 rw [frame_out_int] at h
 refine SC.of_sw Try.func69 R R R ?_
 dsimp only [argS, List.map]
 refine qG (q_asgD R (eN (qG (q_movD R (q_movD R ?_)))))
 refine r_lss R R R R ?_ ?_
 ·intro c
  replace h := ifP c h
  refine q_movD R (q_sk 3 R (q_pickT R (q_asgD R (eN (sw_ret ?_)))))
  obtain rfl := sI h
  exact f1 6 R
 intro c
 replace h := ifN (Int.not_lt.2 c) h
 refine q_movD R (q_movD R (q_movD R (r_gtrV R R R R (q_pickF R (q_asgD R (eN (sw_ret ?_)))))))
 obtain rfl := sI h
 exact f1 6 R
def frame_out_sum (F : Nat) (nv : Int) (lo : Int) (hi : Int) : Option Bool := if nv < lo then (some true) else (some (decide (hi < nv)))
theorem frame_out_sum_pc {F : Nat} {nv : Int} {lo : Int} {hi : Int} {r : Bool} (h : frame_out_sum F nv lo hi = some r) : PC Try.prog 100 [.v (.int .u16 nv), .v (.int .u16 lo), .v (.int .u16 hi)] (.v (.bool r)) := by
 rw [frame_out_sum] at h
 refine SC.of_sw Try.func100 R R R ?_
 dsimp only [argS, List.map]
 refine qG (q_asgD R (eN (qG (q_movD R (q_movD R ?_)))))
 refine r_lss R R R R ?_ ?_
 ·intro c
  replace h := ifP c h
  refine q_movD R (q_sk 3 R (q_pickT R (q_asgD R (eN (sw_ret ?_)))))
  obtain rfl := sI h
  exact f1 6 R
 intro c
 replace h := ifN (Int.not_lt.2 c) h
 refine q_movD R (q_movD R (q_movD R (r_gtrV R R R R (q_pickF R (q_asgD R (eN (sw_ret ?_)))))))
 obtain rfl := sI h
 exact f1 6 R
def frame_sum_add_L1 (F : Nat)  (K : Int → Int → Option Int) : Nat → Int → Int → Option Int
 | 0, _, _ => none
 | n + 1, s2, x => if x < 8 then (Option.bind (frame_out_sum F s2 32768 65535) fun rv => if rv = true then (frame_sum_add_L1 F K n (ishl .u16 s2 1) (W (x + 1))) else (frame_sum_add_L1 F K n (ixor .u16 (ishl .u16 s2 1) 4129) (W (x + 1)))) else (K s2 x)
def frame_sum_add (F : Nat) (s : Int) (c : Int) : Option Int := frame_sum_add_L1 F (fun (s2 : Int) (x : Int) => some s2) F (ixor .u16 s (ishl .u16 (IntKind.u16.wrap c) 8)) 0
theorem frame_sum_add_pc {F : Nat} {s : Int} {c : Int} {r : Int} (h : frame_sum_add F s c = some r) : PC Try.prog 55 [.v (.int .u16 s), .v (.int .u8 c)] (.v (.int .u16 r)) := by
 rw [frame_sum_add] at h
 refine SC.of_sw Try.func55 R R R ?_
 dsimp only [argS, List.map]
 refine qG (q_asgD R (eN (qG (q_movD R (q_movD R (r_cvI (k2 := .u16) R R R R R R (r_shl R R (by decide) R R (r_xor R R R R (q_asgD R (eN (sw_seq (qG (q_movD R (eN (sw_block ?_)))))))))))))))
 obtain ⟨K2, hK2, h⟩ : ∃ K, K = _ ∧ frame_sum_add_L1 F K F (ixor .u16 s (ishl .u16 (IntKind.u16.wrap c) 8)) 0 = some r := ⟨_, rfl, h⟩
 refine sw_loopS (fun m st => ∃ (s2 : Int) (x : Int), frame_sum_add_L1 F K2 m s2 x = some r ∧ st = ⟨[(0, .d (.v (.int .u16 s2))), (4, .d (.v (.int .u16 0))), (11, .d (vI x))], []⟩) (.prn [0, 4, 11] R) ⟨(ixor .u16 s (ishl .u16 (IntKind.u16.wrap c) 8)), 0, h, R⟩ ?_
 clear h
 rintro m2 st ⟨s2, x, h, rfl⟩
 cases m2 with
 | zero => cases (show (none : Option Int) = some r from h)
 | succ m2 =>
 rw [frame_sum_add_L1] at h
 refine qG ?_
 refine r_lss R R R R ?_ ?_
 ·intro c2
  replace h := ifP c2 h
  refine eN (sw_seq (sw_condT R (sw_skip (then_norm (sw_seq (sw_block (qG (q_movD R ?_))))))))
  obtain ⟨rv, hrv, h⟩ := bnd h
  refine r_callB (frame_out_sum_pc hrv) (.of (by kernel_rfl)) R R R R ?_ ?_
  ·intro c3
   replace h := ifP c3 h
   refine q_asgD R (eN (qG (q_movD R (r_shl R R (by decide) R R (q_asgD R (eN (qG (q_movD R (r_notT R R R (eN (sw_condF R (sw_skip (block_norm (then_norm (sw_rg (q_add R (q_movD R (eN ?_))))))))))))))))))
   exact ⟨m2, _, Nat.lt_succ_self _, .prn [0, 4, 11] R, (ishl .u16 s2 1), (W (x + 1)), h, R⟩
  intro c3
  replace h := ifF c3 h
  refine q_asgD R (eN (qG (q_movD R (r_shl R R (by decide) R R (q_asgD R (eN (qG (q_movD R (r_notF R R R (eN (sw_condT R (sw_rg (q_movD R (r_xor R R R R (q_asgD R (ev_end (block_norm (then_norm (sw_rg (q_add R (q_movD R (eN ?_))))))))))))))))))))))
  exact ⟨m2, _, Nat.lt_succ_self _, .prn [0, 4, 11] R, (ixor .u16 (ishl .u16 s2 1) 4129), (W (x + 1)), h, R⟩
 intro c2
 replace h := ifN (Int.not_lt.2 c2) h
 refine eN (sw_seq (sw_condF R (sw_exit (then_exit (then_exit ?_)))))
 subst hK2
 refine block_exit (then_norm (qG (q_movD R (q_asgD R (eN (sw_ret ?_))))))
 obtain rfl := sI h
 exact f1 4 R
def frame_Sum_L1 (F : Nat) (b : (List Int)) (K : Int → Int → Option Int) : Nat → Int → Int → Option Int
 | 0, _, _ => none
 | n + 1, s, x => if x < (b.length : Int) then (Option.bind (ixO b x) fun e => Option.bind (frame_sum_add F s e) fun rv => frame_Sum_L1 F b K n rv (W (x + 1))) else (K s x)
def frame_Sum (F : Nat) (b : (List Int)) : Option Int := frame_Sum_L1 F b (fun (s : Int) (x : Int) => some (W s)) F 65535 0
theorem frame_Sum_pc {F : Nat} {b : (List Int)} {r : Int} (h : frame_Sum F b = some r) : PC Try.prog 19 [.arr 1 ((b).map v8)] (.v (.int .i64 r)) := by
 rw [frame_Sum] at h
 refine SC.of_sw Try.func19 R R R ?_
 dsimp only [argS, List.map]
 refine qG (q_asgD R (eN (qG (q_asgD R (q_asgD R (eN (sw_seq (qG (q_movD R (q_lenM tb R (q_movD R (eN (sw_block ?_)))))))))))))
 obtain ⟨K2, hK2, h⟩ : ∃ K, K = _ ∧ frame_Sum_L1 F b K F 65535 0 = some r := ⟨_, rfl, h⟩
 refine sw_loopS (fun m st => ∃ (s : Int) (x : Int), frame_Sum_L1 F b K2 m s x = some r ∧ st = ⟨[(2, .d (vI 0)), (3, .d (.v (.int .u16 s))), (4, .d (.v (.func (.func 55) #[] #[]))), (7, .d (.arr 1 ((b).map v8))), (8, .d (vI (b.length : Int))), (9, .d (vI x))], []⟩) (.prn [2, 3, 4, 7, 8, 9] R) ⟨65535, 0, h, R⟩ ?_
 clear h
 rintro m2 st ⟨s, x, h, rfl⟩
 cases m2 with
 | zero => cases (show (none : Option Int) = some r from h)
 | succ m2 =>
 rw [frame_Sum_L1] at h
 refine qG ?_
 refine r_lss R R R R ?_ ?_
 ·intro c
  replace h := ifP c h
  refine eN (sw_seq (sw_condT R (sw_skip (then_norm (sw_seq (sw_block (qG ?_)))))))
  obtain ⟨e, ie, h⟩ := bnd h
  refine q_ixE tb (ix0 ie) (ix1m ie) R (q_ldE (y := .v (.int .u8 e)) tb (ix2 (g := v8) ie) R (q_asgD R (eN (sw_rg (q_movD R (q_movD R (q_movD R ?_)))))))
  obtain ⟨rv, hrv, h⟩ := bnd h
  refine r_call (frame_sum_add_pc hrv) (.of (by kernel_rfl)) R R R R (q_asgD R (ev_end (block_norm (then_norm (sw_rg (q_add R (q_movD R (eN ?_))))))))
  exact ⟨m2, _, Nat.lt_succ_self _, .prn [2, 3, 4, 7, 8, 9] R, rv, (W (x + 1)), h, R⟩
 intro c
 replace h := ifN (Int.not_lt.2 c) h
 refine eN (sw_seq (sw_condF R (sw_exit (then_exit (then_exit ?_)))))
 subst hK2
 refine block_exit (then_norm (qG (q_movD R (r_cvI (k2 := .i64) R R R R R R (q_asgD R (eN (sw_ret ?_)))))))
 obtain rfl := sI h
 exact f1 2 R
def frame_pair (F : Nat) (nv : Int) : Option (List Int) := some [(W8 (ishr .i64 nv 8)), (W8 nv)]
theorem frame_pair_scr {F : Nat} {nv : Int} {r : (List Int)} (h : frame_pair F nv = some r) : SCR Try.prog 102 (List.map T.d [.v (.int .i64 nv)]) [] (.row 0 1 0 (r).length) (List.map some [(lv8 r)]) := by
 rw [frame_pair] at h
 refine SC.of_sw Try.func102 R R R ?_
 dsimp only [argS, List.map]
 refine qG (q_asgD R (eN (qG (q_movD R (r_shr R R (by decide) R R (r_cvI (k2 := .u8) R R R R R R (q_movD R (r_cvI (k2 := .u8) R R R R R R (r_bslice tb R R R R R R R R R R R R R (r_asgW R R R (eN (sw_ret ?_))))))))))))
 obtain rfl := sI h
 exact f2 [0] (.row R .nil) R (.cons (.tmp 2) .nil) R
theorem frame_pair_pc {F : Nat} {nv : Int} {r : (List Int)} (h : frame_pair F nv = some r) : PC Try.prog 102 [.v (.int .i64 nv)] (.arr 1 ((r).map v8)) := (frame_pair_scr h).toPC (.row rfl rfl)
def frame_meet (F : Nat) (a : FrChannel) (b : FrChannel) : Option Bool := if a.word = b.word then (if (min a.every b.every) = 0 then none else (some (decide ((Int.tmod a.phase (min a.every b.every)) = (Int.tmod b.phase (min a.every b.every)))))) else (some false)
theorem frame_meet_pc {F : Nat} {a : FrChannel} {b : FrChannel} {r : Bool} (h : frame_meet F a b = some r) : PC Try.prog 78 [FrChannel.d a, FrChannel.d b] (.v (.bool r)) := by
 rw [frame_meet] at h
 refine SC.of_sw Try.func78 R R R ?_
 dsimp only [argS, List.map]
 refine qG (q_box R (q_box R (q_asgD R (eN (qG (q_fa tb R (q_ldD (y := vI a.every) tb R (q_fa tb R (q_ldD (y := vI b.every) tb R (r_min2 R R R R (q_asgD R (eN (sw_seq (sw_dr (by kernel_rfl) (q_fa tb R (q_ldD (y := vI a.word) tb R (q_fa tb R (q_ldD (y := vI b.word) tb R ?_))))))))))))))))))
 refine r_eql R R R R ?_ ?_
 ·intro c
  replace h := ifP c h
  refine q_movD R (q_fa tb R (q_ldD (y := vI a.phase) tb R (q_movD R ?_)))
  by_cases c2 : (min a.every b.every) = 0
  ·cases (if_pos c2).symm.trans h
  replace h := ifN c2 h
  refine r_rem R R c2 R R (q_fa tb R (q_ldD (y := vI b.phase) tb R (q_movD R (r_rem R R c2 R R (r_eqlV R R R R (q_pickT R (q_asgD R (ev_endD (by kernel_rfl) (then_norm (sw_ret ?_))))))))))
  obtain rfl := sI h
  exact f1 4 R
 intro c
 replace h := ifN c h
 refine q_movD R (q_sk 9 R (q_pickF R (q_asgD R (ev_endD (by kernel_rfl) (then_norm (sw_ret ?_))))))
 obtain rfl := sI h
 exact f1 4 R
def frame_Check_1 (F : Nat) (d : FrChannel) (c : FrChannel) : Option Bool := if d.name.toList = c.name.toList then (some true) else (some false)
theorem frame_Check_1_pc {F : Nat} {d : FrChannel} {c : FrChannel} {r : Bool} (h : frame_Check_1 F d c = some r) : PC Try.prog 76 [FrChannel.d d, .el 4 (([c]).map FrChannel.d) ((0 : Int)).toNat 0] (.v (.bool r)) := by
 rw [frame_Check_1] at h
 refine SC.of_sw Try.func76 R R R ?_
 dsimp only [argS, List.map]
 refine qG (q_box R (q_asgD R (eN (qG (q_fa tb R (q_ldD (y := .v (.string d.name)) tb R (q_faE tb R (q_ldE (y := .v (.string c.name)) tb (ix2 (g := FrChannel.d) (R : ixO [c] 0 = some c)) R ?_))))))))
 refine r_streql R R R R ?_ ?_
 ·intro c2
  replace h := ifP c2 h
  refine q_asgD R (eN (sw_ret ?_))
  obtain rfl := sI h
  exact f1 3 R
 intro c2
 replace h := ifN c2 h
 refine q_asgD R (eN (sw_ret ?_))
 obtain rfl := sI h
 exact f1 3 R
def frame_Check_2 (F : Nat) (d : FrChannel) (c : FrChannel) : Option Bool := Option.bind (frame_meet F c d) fun rv => some rv
theorem frame_Check_2_pc {F : Nat} {d : FrChannel} {c : FrChannel} {r : Bool} (h : frame_Check_2 F d c = some r) : PC Try.prog 77 [FrChannel.d d, .el 4 (([c]).map FrChannel.d) ((0 : Int)).toNat 0] (.v (.bool r)) := by
 rw [frame_Check_2] at h
 refine SC.of_sw Try.func77 R R R ?_
 dsimp only [argS, List.map]
 refine qG (q_box R (q_asgD R (eN (qG (q_ldE (y := FrChannel.d c) tb (ix2 (g := FrChannel.d) (R : ixO [c] 0 = some c)) R (q_ldD (y := FrChannel.d d) tb R ?_))))))
 obtain ⟨rv, hrv, h⟩ := bnd h
 refine r_call (frame_meet_pc hrv) (.of (by kernel_rfl)) R R R R (q_asgD R (eN (sw_ret ?_)))
 obtain rfl := sI h
 exact f1 3 R
def slices_IndexFunc_FrChannel_L1 (F : Nat) (s : (List FrChannel)) (f : (FrChannel → Option Bool)) (K : Int → Option Int) : Nat → Int → Option Int
 | 0, _ => none
 | n + 1, x => if x < (s.length : Int) then (Option.bind (ixO s x) fun e => Option.bind (f e) fun rv => if rv = true then (some x) else (slices_IndexFunc_FrChannel_L1 F s f K n (W (x + 1)))) else (K x)
def slices_IndexFunc_FrChannel (F : Nat) (s : (List FrChannel)) (f : (FrChannel → Option Bool)) : Option Int := slices_IndexFunc_FrChannel_L1 F s f (fun (x : Int) => some (-1)) F 0
theorem slices_IndexFunc_FrChannel_scr {F : Nat} {s : (List FrChannel)} {f : (FrChannel → Option Bool)} {r : Int} {fi : Nat} {fc : List D} (fh : ∀ {a0 : FrChannel} {r : Bool}, f a0 = some r → PC Try.prog fi ([FrChannel.d a0] ++ fc) (.v (.bool r))) (fe : Ent Try.prog fi) (h : slices_IndexFunc_FrChannel F s f = some r) : SCR Try.prog 106 [.d (.arr 4 ((s).map FrChannel.d)), .fn (.func fi) [] (fc.map .d)] [] (.d (.v (.int .i64 r))) (List.map some []) := by
 rw [slices_IndexFunc_FrChannel] at h
 refine SC.of_sw Try.func106 R R R ?_
 dsimp only [argS, List.map]
 refine qG (q_asgD R (eN (sw_seq (qG (q_movD R (q_lenM tb R (q_movD R (eN (sw_block ?_)))))))))
 obtain ⟨K2, hK2, h⟩ : ∃ K, K = _ ∧ slices_IndexFunc_FrChannel_L1 F s f K F 0 = some r := ⟨_, rfl, h⟩
 refine sw_loopS (fun m st => ∃ (x : Int), slices_IndexFunc_FrChannel_L1 F s f K2 m x = some r ∧ st = ⟨[(0, .d (.arr 4 ((s).map FrChannel.d))), (1, .fn (.func fi) [] (fc.map .d)), (4, .d (vI 0)), (7, .d (vI (s.length : Int))), (8, .d (vI x))], []⟩) (.prn [0, 1, 4, 7, 8] R) ⟨0, h, R⟩ ?_
 clear h
 rintro m2 st ⟨x, h, rfl⟩
 cases m2 with
 | zero => cases (show (none : Option Int) = some r from h)
 | succ m2 =>
 rw [slices_IndexFunc_FrChannel_L1] at h
 refine qG ?_
 refine r_lss R R R R ?_ ?_
 ·intro c
  replace h := ifP c h
  refine eN (sw_seq (sw_condT R (sw_skip (then_norm (sw_seq (sw_block (qG (q_movD R (q_asgD R (eN (qG (r_movF R R R (q_movD R (q_movD R ?_))))))))))))))
  obtain ⟨e, ie, h⟩ := bnd h
  refine q_ixE tb (ix0 ie) (ix1m ie) R (q_ldE (y := FrChannel.d e) tb (ix2 (g := FrChannel.d) ie) R ?_)
  obtain ⟨rv, hrv, h⟩ := bnd h
  refine r_callH (vs := [FrChannel.d e]) (fh hrv) fe R R R R ?_
  with_reducible apply ev_lit
  ·intro c2
   replace h := ifP c2 h
   refine eN (sw_condT R (qG (q_movD R (q_asgD R (eN (sw_ret (block_ret (then_ret (then_ret (block_ret (then_ret ?_)))))))))))
   obtain rfl := sI h
   exact f1 4 R
  intro c2
  replace h := ifF c2 h
  refine eN (sw_condF R (sw_skip (block_norm (then_norm (sw_rg (q_add R (q_movD R (eN ?_))))))))
  exact ⟨m2, _, Nat.lt_succ_self _, .prn [0, 1, 4, 7, 8] R, (W (x + 1)), h, R⟩
 intro c
 replace h := ifN (Int.not_lt.2 c) h
 refine eN (sw_seq (sw_condF R (sw_exit (then_exit (then_exit ?_)))))
 subst hK2
 refine block_exit (then_norm (qG (q_asgD R (eN (sw_ret ?_)))))
 obtain rfl := sI h
 exact f1 4 R
def slices_ContainsFunc_FrChannel (F : Nat) (s : (List FrChannel)) (f : (FrChannel → Option Bool)) : Option Bool := Option.bind (slices_IndexFunc_FrChannel F s f) fun rv => some (decide (0 ≤ rv))
theorem slices_ContainsFunc_FrChannel_scr {F : Nat} {s : (List FrChannel)} {f : (FrChannel → Option Bool)} {r : Bool} {fi : Nat} {fc : List D} (fh : ∀ {a0 : FrChannel} {r : Bool}, f a0 = some r → PC Try.prog fi ([FrChannel.d a0] ++ fc) (.v (.bool r))) (fe : Ent Try.prog fi) (h : slices_ContainsFunc_FrChannel F s f = some r) : SCR Try.prog 75 [.d (.arr 4 ((s).map FrChannel.d)), .fn (.func fi) [] (fc.map .d)] [] (.d (.v (.bool r))) (List.map some []) := by
 rw [slices_ContainsFunc_FrChannel] at h
 refine SC.of_sw Try.func75 R R R ?_
 dsimp only [argS, List.map]
 refine qG (q_asgD R (eN (qG (q_movD R (r_movF R R R ?_)))))
 obtain ⟨rv, hrv, h⟩ := bnd h
 refine r_callX (t' := .d (vI rv)) (news' := []) (slices_IndexFunc_FrChannel_scr (f := f) (fh := fh) (fe := fe) hrv) R .nil (.of (by kernel_rfl)) R R ((.cons (.d (.d _)) (.cons .hof .nil))) R .nil R R R ?_
 simp only [List.map_nil, List.append_nil]
 refine r_geqV R R R R (q_asgD R (eN (sw_ret ?_)))
 obtain rfl := sI h
 exact f1 4 R
def frame_Check_L1 (F : Nat) (t : FrFormat) (K : Int → Option (Int × Int × Int)) : Nat → Int → Option (Int × Int × Int)
 | 0, _ => none
 | n + 1, x => if x < (t.channels.length : Int) then (Option.bind (ixO t.channels x) fun e => Option.bind (cutO t.channels 0 x) fun q => Option.bind (wind_Name F e.name) fun rv4 => if rv4 = true then (Option.bind (slices_ContainsFunc_FrChannel F q (fun a0 => frame_Check_1 F a0 e)) fun rv5 => if rv5 = true then (some (2, x, 5)) else (Option.bind (frame_out_int F e.word 0 (W (t.words - 1))) fun rv6 => if rv6 = true then (some (2, x, 7)) else (if e.every < 1 then (some (2, x, 7)) else (if e.every = 0 then none else (if (Int.tmod t.depth e.every) = 0 then (Option.bind (frame_out_int F e.phase 0 (W (e.every - 1))) fun rv7 => if rv7 = true then (some (2, x, 7)) else (Option.bind (slices_ContainsFunc_FrChannel F q (fun a0 => frame_Check_2 F a0 e)) fun rv8 => if rv8 = true then (some (2, x, 2)) else (frame_Check_L1 F t K n (W (x + 1))))) else (some (2, x, 7))))))) else (some (2, x, 6))) else (K x)
def frame_Check (F : Nat) (t : FrFormat) : Option (Int × Int × Int) := Option.bind (frame_out_int F (t.sync.size : Int) 1 4) fun rv => if rv = true then (some (1, 0, 3)) else (if 12 < (t.channels.length : Int) then (some (1, 0, 3)) else (Option.bind (frame_out_int F t.words 1 32) fun rv2 => if rv2 = true then (some (1, 0, 7)) else (Option.bind (frame_out_int F t.depth 1 16) fun rv3 => if rv3 = true then (some (1, 0, 7)) else (if (iand .i64 t.depth (W (t.depth - 1))) = 0 then (frame_Check_L1 F t (fun (x : Int) => some (0, 0, 0)) F 0) else (some (1, 0, 7))))))
theorem frame_Check_pc {F : Nat} {t : FrFormat} {r : (Int × Int × Int)} (h : frame_Check F t = some r) : PC Try.prog 38 [FrFormat.d t] (.tup [.v (.int .i64 r.1), .v (.int .i64 r.2.1), .v (.int .i64 r.2.2)]) := by
 rw [frame_Check] at h
 refine SC.of_sw Try.func38 R R R ?_
 dsimp only [argS, List.map]
 refine qG (q_box R (q_asgD R (q_asgD R (q_asgD R (eN (sw_seq (sw_block (qG (q_fa tb R (q_ldD (y := .v (.string t.sync)) tb R (r_lenS R R R R ?_)))))))))))
 obtain ⟨rv, hrv, h⟩ := bnd h
 refine r_callB (frame_out_int_pc hrv) (.of (by kernel_rfl)) R R R R ?_ ?_
 ·intro c
  replace h := ifP c h
  refine q_movD R (q_sk 4 R (q_pickT R (q_asgD R (eN (sw_condT R (qG (q_asgD R (q_asgD R (q_asgD R (eN (sw_ret (block_ret (then_ret ?_)))))))))))))
  obtain rfl := sI h
  exact fin_0 (t := .d (.tup [vI 1, vI 0, vI 3])) R R R (.cons (.tmp 2) (.cons (.tmp 3) (.cons (.tmp 4) .nil)))
 intro c
 replace h := ifF c h
 refine q_movD R (q_fa tb R (q_ldD (y := .arr 4 ((t.channels).map FrChannel.d)) tb R (q_lenM tb R ?_)))
 refine r_gtr R R R R ?_ ?_
 ·intro c2
  replace h := ifP c2 h
  refine q_pickF R (q_asgD R (eN (sw_condT R (qG (q_asgD R (q_asgD R (q_asgD R (eN (sw_ret (block_ret (then_ret ?_)))))))))))
  obtain rfl := sI h
  exact fin_0 (t := .d (.tup [vI 1, vI 0, vI 3])) R R R (.cons (.tmp 2) (.cons (.tmp 3) (.cons (.tmp 4) .nil)))
 intro c2
 replace h := ifN (Int.not_lt.2 c2) h
 refine q_pickF R (q_asgD R (eN (sw_condF R (qG (q_fa tb R (q_ldD (y := vI t.words) tb R ?_))))))
 obtain ⟨rv2, hrv2, h⟩ := bnd h
 refine r_callB (frame_out_int_pc hrv2) (.of (by kernel_rfl)) R R R R ?_ ?_
 ·intro c3
  replace h := ifP c3 h
  refine q_movD R (q_sk 3 R (q_pickT R (q_movD R (q_sk 7 R (q_pickT R (q_asgD R (eN (sw_condT R (qG (q_asgD R (q_asgD R (q_asgD R (eN (sw_ret (block_ret (then_ret ?_))))))))))))))))
  obtain rfl := sI h
  exact fin_0 (t := .d (.tup [vI 1, vI 0, vI 7])) R R R (.cons (.tmp 2) (.cons (.tmp 3) (.cons (.tmp 4) .nil)))
 intro c3
 replace h := ifF c3 h
 refine q_movD R (q_fa tb R (q_ldD (y := vI t.depth) tb R ?_))
 obtain ⟨rv3, hrv3, h⟩ := bnd h
 refine r_callB (frame_out_int_pc hrv3) (.of (by kernel_rfl)) R R R R ?_ ?_
 ·intro c4
  replace h := ifP c4 h
  refine q_pickF R (q_movD R (q_sk 7 R (q_pickT R (q_asgD R (eN (sw_condT R (qG (q_asgD R (q_asgD R (q_asgD R (eN (sw_ret (block_ret (then_ret ?_))))))))))))))
  obtain rfl := sI h
  exact fin_0 (t := .d (.tup [vI 1, vI 0, vI 7])) R R R (.cons (.tmp 2) (.cons (.tmp 3) (.cons (.tmp 4) .nil)))
 intro c4
 replace h := ifF c4 h
 refine q_pickF R (q_movD R (q_fa tb R (q_ldD (y := vI t.depth) tb R (q_fa tb R (q_ldD (y := vI t.depth) tb R (r_sub R R R R (r_and R R R R ?_)))))))
 refine r_neq R R R R ?_ ?_
 ·intro c5
  replace h := ifN c5 h
  refine q_pickF R (q_asgD R (eN (sw_condT R (qG (q_asgD R (q_asgD R (q_asgD R (eN (sw_ret (block_ret (then_ret ?_)))))))))))
  obtain rfl := sI h
  exact fin_0 (t := .d (.tup [vI 1, vI 0, vI 7])) R R R (.cons (.tmp 2) (.cons (.tmp 3) (.cons (.tmp 4) .nil)))
 intro c5
 replace h := ifP c5 h
 refine q_pickF R (q_asgD R (eN (sw_condF R (sw_skip (block_norm (then_norm (sw_seq (qG (q_fa tb R (q_ldD (y := .arr 4 ((t.channels).map FrChannel.d)) tb R (q_lenM tb R (q_movD R (eN (sw_block ?_))))))))))))))
 obtain ⟨K2, hK2, h⟩ : ∃ K, K = _ ∧ frame_Check_L1 F t K F 0 = some r := ⟨_, rfl, h⟩
 refine sw_loopS (fun m st => ∃ (x : Int), frame_Check_L1 F t K2 m x = some r ∧ st = ⟨[(1, .ref 0 4 0 0), (2, .d (vI 0)), (3, .d (vI 0)), (4, .d (vI 0)), (38, .d (.arr 4 ((t.channels).map FrChannel.d))), (39, .d (vI (t.channels.length : Int))), (40, .d (vI x))], [some ⟨4, [.d (FrFormat.d t)]⟩]⟩) (.prn [1, 2, 3, 4, 38, 39, 40] R) ⟨0, h, R⟩ ?_
 clear h
 rintro m2 st ⟨x, h, rfl⟩
 cases m2 with
 | zero => cases (show (none : Option (Int × Int × Int)) = some r from h)
 | succ m2 =>
 rw [frame_Check_L1] at h
 refine qG ?_
 refine r_lss R R R R ?_ ?_
 ·intro c6
  replace h := ifP c6 h
  refine eN (sw_seq (sw_condT R (sw_skip (then_norm (sw_seq (sw_block (qG (q_movD R ?_))))))))
  obtain ⟨e, ie, h⟩ := bnd h
  refine q_ixE tb (ix0 ie) (ix1m ie) R (q_ldE (y := FrChannel.d e) tb (ix2 (g := FrChannel.d) ie) R (r_alloc tb R R R R R (q_asgD R (q_stE _ _ tb R (eN (qG (q_fa tb R (q_ldD (y := .arr 4 ((t.channels).map FrChannel.d)) tb R (q_movD R ?_)))))))))
  obtain ⟨q, iq, h⟩ := bnd h
  refine r_sliceT tb R R R R R R iq R R (q_asgD R (eN (sw_block (qG (q_fa tb R (q_ldD (y := .v (.string e.name)) tb R ?_))))))
  obtain ⟨rv4, hrv4, h⟩ := bnd h
  refine r_callB (wind_Name_pc hrv4) (.of (by kernel_rfl)) R R R R ?_ ?_
  ·intro c7
   replace h := ifP c7 h
   refine r_notT R R R (q_asgD R (eN (sw_condF R (qG (q_movD R (r_func R R R R ?_))))))
   obtain ⟨rv5, hrv5, h⟩ := bnd h
   refine r_callX (t' := .d (.v (.bool rv5))) (news' := []) (slices_ContainsFunc_FrChannel_scr (f := (fun a0 => frame_Check_1 F a0 e)) (fc := [.el 4 [FrChannel.d e] 0 0]) (fh := fun hr => frame_Check_1_pc hr) (fe := .of (by kernel_rfl)) hrv5) R .nil (.of (by kernel_rfl)) R R ((.cons (.d (.d _)) (.cons (.fnC (.cons (.d (.ref R (.d _))) .nil)) .nil))) R .nil R R R ?_
   simp only [List.map_nil, List.append_nil]
   with_reducible apply ev_lit
   ·intro c8
    replace h := ifP c8 h
    refine q_asgD R (eN (sw_condT R (qG (q_movD R (q_asgD R (q_asgD R (q_asgD R (eN (sw_ret (block_ret (block_ret (then_ret (then_ret (block_ret (then_ret ?_)))))))))))))))
    obtain rfl := sI h
    exact fin_0 (t := .d (.tup [vI 2, vI x, vI 5])) R R R (.cons (.tmp 2) (.cons (.tmp 3) (.cons (.tmp 4) .nil)))
   intro c8
   replace h := ifF c8 h
   refine q_asgD R (eN (sw_condF R (qG (q_fa tb R (q_ldD (y := vI e.word) tb R (q_fa tb R (q_ldD (y := vI t.words) tb R (r_sub R R R R ?_))))))))
   obtain ⟨rv6, hrv6, h⟩ := bnd h
   refine r_callB (frame_out_int_pc hrv6) (.of (by kernel_rfl)) R R R R ?_ ?_
   ·intro c9
    replace h := ifP c9 h
    refine q_movD R (q_sk 3 R (q_pickT R (q_movD R (q_sk 6 R (q_pickT R (q_movD R (q_sk 6 R (q_pickT R (q_asgD R (eN (sw_condT R (qG (q_movD R (q_asgD R (q_asgD R (q_asgD R (eN (sw_ret (block_ret (block_ret (then_ret (then_ret (block_ret (then_ret ?_))))))))))))))))))))))))
    obtain rfl := sI h
    exact fin_0 (t := .d (.tup [vI 2, vI x, vI 7])) R R R (.cons (.tmp 2) (.cons (.tmp 3) (.cons (.tmp 4) .nil)))
   intro c9
   replace h := ifF c9 h
   refine q_movD R (q_fa tb R (q_ldD (y := vI e.every) tb R ?_))
   refine r_lss R R R R ?_ ?_
   ·intro c10
    replace h := ifP c10 h
    refine q_pickF R (q_movD R (q_sk 6 R (q_pickT R (q_movD R (q_sk 6 R (q_pickT R (q_asgD R (eN (sw_condT R (qG (q_movD R (q_asgD R (q_asgD R (q_asgD R (eN (sw_ret (block_ret (block_ret (then_ret (then_ret (block_ret (then_ret ?_))))))))))))))))))))))
    obtain rfl := sI h
    exact fin_0 (t := .d (.tup [vI 2, vI x, vI 7])) R R R (.cons (.tmp 2) (.cons (.tmp 3) (.cons (.tmp 4) .nil)))
   intro c10
   replace h := ifN (Int.not_lt.2 c10) h
   refine q_pickF R (q_movD R (q_fa tb R (q_ldD (y := vI t.depth) tb R (q_fa tb R (q_ldD (y := vI e.every) tb R ?_)))))
   by_cases c11 : e.every = 0
   ·cases (if_pos c11).symm.trans h
   replace h := ifN c11 h
   refine r_rem R R c11 R R ?_
   refine r_neq R R R R ?_ ?_
   ·intro c12
    replace h := ifN c12 h
    refine q_pickF R (q_movD R (q_sk 6 R (q_pickT R (q_asgD R (eN (sw_condT R (qG (q_movD R (q_asgD R (q_asgD R (q_asgD R (eN (sw_ret (block_ret (block_ret (then_ret (then_ret (block_ret (then_ret ?_)))))))))))))))))))
    obtain rfl := sI h
    exact fin_0 (t := .d (.tup [vI 2, vI x, vI 7])) R R R (.cons (.tmp 2) (.cons (.tmp 3) (.cons (.tmp 4) .nil)))
   intro c12
   replace h := ifP c12 h
   refine q_pickF R (q_movD R (q_fa tb R (q_ldD (y := vI e.phase) tb R (q_fa tb R (q_ldD (y := vI e.every) tb R (r_sub R R R R ?_))))))
   obtain ⟨rv7, hrv7, h⟩ := bnd h
   refine r_callB (frame_out_int_pc hrv7) (.of (by kernel_rfl)) R R R R ?_ ?_
   ·intro c13
    replace h := ifP c13 h
    refine q_pickF R (q_asgD R (eN (sw_condT R (qG (q_movD R (q_asgD R (q_asgD R (q_asgD R (eN (sw_ret (block_ret (block_ret (then_ret (then_ret (block_ret (then_ret ?_))))))))))))))))
    obtain rfl := sI h
    exact fin_0 (t := .d (.tup [vI 2, vI x, vI 7])) R R R (.cons (.tmp 2) (.cons (.tmp 3) (.cons (.tmp 4) .nil)))
   intro c13
   replace h := ifF c13 h
   refine q_pickF R (q_asgD R (eN (sw_condF R (qG (q_movD R (r_func R R R R ?_))))))
   obtain ⟨rv8, hrv8, h⟩ := bnd h
   refine r_callX (t' := .d (.v (.bool rv8))) (news' := []) (slices_ContainsFunc_FrChannel_scr (f := (fun a0 => frame_Check_2 F a0 e)) (fc := [.el 4 [FrChannel.d e] 0 0]) (fh := fun hr => frame_Check_2_pc hr) (fe := .of (by kernel_rfl)) hrv8) R .nil (.of (by kernel_rfl)) R R ((.cons (.d (.d _)) (.cons (.fnC (.cons (.d (.ref R (.d _))) .nil)) .nil))) R .nil R R R ?_
   simp only [List.map_nil, List.append_nil]
   with_reducible apply ev_lit
   ·intro c14
    replace h := ifP c14 h
    refine q_asgD R (eN (sw_condT R (qG (q_movD R (q_asgD R (q_asgD R (q_asgD R (eN (sw_ret (block_ret (block_ret (then_ret (then_ret (block_ret (then_ret ?_)))))))))))))))
    obtain rfl := sI h
    exact fin_0 (t := .d (.tup [vI 2, vI x, vI 2])) R R R (.cons (.tmp 2) (.cons (.tmp 3) (.cons (.tmp 4) .nil)))
   intro c14
   replace h := ifF c14 h
   refine q_asgD R (eN (sw_condF R (sw_skip (block_norm (block_norm (then_norm (sw_rg (q_add R (q_movD R (eN ?_))))))))))
   exact ⟨m2, ⟨[(1, .ref 0 4 0 0), (2, .d (vI 0)), (3, .d (vI 0)), (4, .d (vI 0)), (38, .d (.arr 4 ((t.channels).map FrChannel.d))), (39, .d (vI (t.channels.length : Int))), (40, .d (vI (W (x + 1))))], [some ⟨4, [.d (FrFormat.d t)]⟩]⟩, Nat.lt_succ_self _, .vw (κ := [0]) (vK (.cons R R .nil) R), (W (x + 1)), h, R⟩
  intro c7
  replace h := ifF c7 h
  refine r_notF R R R (q_asgD R (eN (sw_condT R (qG (q_movD R (q_asgD R (q_asgD R (q_asgD R (eN (sw_ret (block_ret (block_ret (then_ret (then_ret (block_ret (then_ret ?_))))))))))))))))
  obtain rfl := sI h
  exact fin_0 (t := .d (.tup [vI 2, vI x, vI 6])) R R R (.cons (.tmp 2) (.cons (.tmp 3) (.cons (.tmp 4) .nil)))
 intro c6
 replace h := ifN (Int.not_lt.2 c6) h
 refine eN (sw_seq (sw_condF R (sw_exit (then_exit (then_exit ?_)))))
 subst hK2
 refine block_exit (then_norm (qG (q_asgD R (q_asgD R (q_asgD R (eN (sw_ret ?_)))))))
 obtain rfl := sI h
 exact fin_0 (t := .d (.tup [vI 0, vI 0, vI 0])) R R R (.cons (.tmp 2) (.cons (.tmp 3) (.cons (.tmp 4) .nil)))
def slices_Equal_byte_L1 (F : Nat) (s1 : (List Int)) (s2 : (List Int)) (K : Int → Option Bool) : Nat → Int → Option Bool
 | 0, _ => none
 | n + 1, x => if x < (s1.length : Int) then (Option.bind (ixO s1 x) fun e => Option.bind (ixO s2 x) fun e2 => if e = e2 then (slices_Equal_byte_L1 F s1 s2 K n (W (x + 1))) else (some false)) else (K x)
def slices_Equal_byte (F : Nat) (s1 : (List Int)) (s2 : (List Int)) : Option Bool := if (s1.length : Int) = (s2.length : Int) then (slices_Equal_byte_L1 F s1 s2 (fun (x : Int) => some true) F 0) else (some false)
theorem slices_Equal_byte_pc {F : Nat} {s1 : (List Int)} {s2 : (List Int)} {r : Bool} (h : slices_Equal_byte F s1 s2 = some r) : PC Try.prog 104 [.arr 1 ((s1).map v8), .arr 1 ((s2).map v8)] (.v (.bool r)) := by
 rw [slices_Equal_byte] at h
 refine SC.of_sw Try.func104 R R R ?_
 dsimp only [argS, List.map]
 refine qG (q_asgD R (eN (sw_seq (qG (q_movD R (q_lenM tb R (q_movD R (q_lenM tb R ?_))))))))
 refine r_neq R R R R ?_ ?_
 ·intro c
  replace h := ifN c h
  refine eN (sw_condT R (qG (q_asgD R (eN (sw_ret (then_ret ?_))))))
  obtain rfl := sI h
  exact f1 4 R
 intro c
 replace h := ifP c h
 refine eN (sw_condF R (sw_skip (then_norm (sw_seq (qG (q_movD R (q_lenM tb R (q_movD R (eN (sw_block ?_))))))))))
 obtain ⟨K2, hK2, h⟩ : ∃ K, K = _ ∧ slices_Equal_byte_L1 F s1 s2 K F 0 = some r := ⟨_, rfl, h⟩
 refine sw_loopS (fun m st => ∃ (x : Int), slices_Equal_byte_L1 F s1 s2 K2 m x = some r ∧ st = ⟨[(0, .d (.arr 1 ((s1).map v8))), (1, .d (.arr 1 ((s2).map v8))), (4, .d (.v (.bool false))), (12, .d (vI (s1.length : Int))), (13, .d (vI x))], []⟩) (.prn [0, 1, 4, 12, 13] R) ⟨0, h, R⟩ ?_
 clear h
 rintro m2 st ⟨x, h, rfl⟩
 cases m2 with
 | zero => cases (show (none : Option Bool) = some r from h)
 | succ m2 =>
 rw [slices_Equal_byte_L1] at h
 refine qG ?_
 refine r_lss R R R R ?_ ?_
 ·intro c2
  replace h := ifP c2 h
  refine eN (sw_seq (sw_condT R (sw_skip (then_norm (sw_seq (sw_block (qG (q_movD R (q_asgD R (eN (sw_seq (sw_dr (by kernel_rfl) (q_movD R (q_movD R ?_))))))))))))))
  obtain ⟨e, ie, h⟩ := bnd h
  refine q_ixE tb (ix0 ie) (ix1m ie) R (q_ldE (y := .v (.int .u8 e)) tb (ix2 (g := v8) ie) R (q_movD R (q_movD R ?_)))
  obtain ⟨e2, ie2, h⟩ := bnd h
  refine q_ixE tb (ix0 ie2) (ix1m ie2) R (q_ldE (y := .v (.int .u8 e2)) tb (ix2 (g := v8) ie2) R ?_)
  refine r_neq R R R R ?_ ?_
  ·intro c3
   replace h := ifN c3 h
   refine ev_endD (by kernel_rfl) (then_norm (sw_condT R (qG (q_asgD R (eN (sw_ret (block_ret (then_ret (then_ret (block_ret (then_ret ?_)))))))))))
   obtain rfl := sI h
   exact f1 4 R
  intro c3
  replace h := ifP c3 h
  refine ev_endD (by kernel_rfl) (then_norm (sw_condF R (sw_skip (block_norm (then_norm (sw_rg (q_add R (q_movD R (eN ?_)))))))))
  exact ⟨m2, _, Nat.lt_succ_self _, .prn [0, 1, 4, 12, 13] R, (W (x + 1)), h, R⟩
 intro c2
 replace h := ifN (Int.not_lt.2 c2) h
 refine eN (sw_seq (sw_condF R (sw_exit (then_exit (then_exit ?_)))))
 subst hK2
 refine block_exit (then_norm (qG (q_asgD R (eN (sw_ret ?_)))))
 obtain rfl := sI h
 exact f1 4 R
def frame_frames (F : Nat) (f : FrFormat) (b : (List Int)) : Option (Int × (List Int) × Int × FrFormat) := some ((W ((W ((W ((f.sync.size : Int) + 1)) + (W (2 * f.words)))) + 2)), b, (f.sync.size : Int), f)
theorem frame_frames_scr {F : Nat} {f : FrFormat} {b : (List Int)} {r : (Int × (List Int) × Int × FrFormat)} (h : frame_frames F f b = some r) : SCR Try.prog 72 (List.map T.d [FrFormat.d f, .arr 1 ((b).map v8)]) [] (.fn (.func 103) [] [.ref 0 1 0 0, .ref 1 1 0 0, .ref 2 1 0 0, .ref 3 4 0 0]) (List.map some [⟨1, [.d (.v (.int .i64 r.1))]⟩, ⟨1, [.d (.arr 1 ((r.2.1).map v8))]⟩, ⟨1, [.d (.v (.int .i64 r.2.2.1))]⟩, ⟨4, [.d (FrFormat.d r.2.2.2)]⟩]) := by
 rw [frame_frames] at h
 refine SC.of_sw Try.func72 R R R ?_
 dsimp only [argS, List.map]
 refine qG (q_box R (q_box R (q_asgD R (eN (qG (q_fa tb R (q_ldD (y := .v (.string f.sync)) tb R (r_lenS R R R R (r_alloc tb R R R R R (q_stE _ _ tb R (eN (qG (q_ldD (y := vI (f.sync.size : Int)) tb R (q_add R (q_fa tb R (q_ldD (y := vI f.words) tb R (r_mul R R R R (q_add R (q_add R (r_alloc tb R R R R R (q_stE _ _ tb R (eN (qG (r_func R R R R (r_asgF R R R (eN (sw_ret ?_)))))))))))))))))))))))))))
 obtain rfl := sI h
 exact f2 [3, 1, 2, 0] (.cons R R (.cons R R (.cons R R (.cons R R .nil)))) R (.cons (.tmp 4) .nil) R
def frame_tape (F : Nat) (f : FrFormat) (t : FrTape) : Option Int := Option.bind (frame_Check F f) fun rv => if rv.2.2 = 0 then (if 4000 < (t.bytes.length : Int) then (some 3) else (Option.bind (frame_out_int F t.first 0 1000000) fun rv2 => if rv2 = true then (some 7) else (some 0))) else (some rv.2.2)
theorem frame_tape_pc {F : Nat} {f : FrFormat} {t : FrTape} {r : Int} (h : frame_tape F f t = some r) : PC Try.prog 66 [FrFormat.d f, FrTape.d t] (.v (.int .i64 r)) := by
 rw [frame_tape] at h
 refine SC.of_sw Try.func66 R R R ?_
 dsimp only [argS, List.map]
 refine qG (q_box R (q_box R (q_asgD R (eN (qG (q_ldD (y := FrFormat.d f) tb R ?_))))))
 obtain ⟨rv, hrv, h⟩ := bnd h
 refine r_call (frame_Check_pc hrv) (.of (by kernel_rfl)) R R R R (q_movD R (r_extD (t := vI rv.1) R R R R (r_extD (t := vI rv.2.1) R R R R (r_extD (t := vI rv.2.2) R R R R (q_asgD R (q_asgD R (q_asgD R (eN (sw_seq (sw_block (qG (q_movD R ?_))))))))))))
 refine r_neq R R R R ?_ ?_
 ·intro c
  replace h := ifN c h
  refine q_asgD R (eN (sw_condT R (qG (q_movD R (q_asgD R (eN (sw_ret (block_ret (then_ret ?_)))))))))
  obtain rfl := sI h
  exact f1 4 R
 intro c
 replace h := ifP c h
 refine q_asgD R (eN (sw_condF R (qG (q_fa tb R (q_ldD (y := .arr 1 ((t.bytes).map v8)) tb R (q_lenM tb R ?_))))))
 refine r_gtr R R R R ?_ ?_
 ·intro c2
  replace h := ifP c2 h
  refine q_asgD R (eN (sw_condT R (qG (q_asgD R (eN (sw_ret (block_ret (then_ret ?_))))))))
  obtain rfl := sI h
  exact f1 4 R
 intro c2
 replace h := ifN (Int.not_lt.2 c2) h
 refine q_asgD R (eN (sw_condF R (qG (q_fa tb R (q_ldD (y := vI t.first) tb R ?_)))))
 obtain ⟨rv2, hrv2, h⟩ := bnd h
 refine r_callB (frame_out_int_pc hrv2) (.of (by kernel_rfl)) R R R R ?_ ?_
 ·intro c3
  replace h := ifP c3 h
  refine q_asgD R (eN (sw_condT R (qG (q_asgD R (eN (sw_ret (block_ret (then_ret ?_))))))))
  obtain rfl := sI h
  exact f1 4 R
 intro c3
 replace h := ifF c3 h
 refine q_asgD R (eN (sw_condF R (sw_skip (block_norm (then_norm (qG (q_asgD R (eN (sw_ret ?_)))))))))
 obtain rfl := sI h
 exact f1 4 R
def frame_read_L1 (F : Nat) (rv : (Int × (List Int) × Int × FrFormat)) (q : (List Int)) (K : (List Int) → Int → Option ((List FrFrame) × (List Int) × Int)) : Nat → (List Int) → Int → Option ((List FrFrame) × (List Int) × Int)
 | 0, _, _ => none
 | n + 1, lv3, x2 => if x2 < (W (rv.1 - 2)) then (Option.bind (ixO q x2) fun e2 => Option.bind (ixO q (W (x2 + 1))) fun e3 => Option.bind (appO lv3 [(ior .i64 (ishl .i64 (W e2) 8) (W e3))]) fun q6 => frame_read_L1 F rv q K n q6 (W (x2 + 2))) else (K lv3 x2)
def frame_read_L2 (F : Nat) (rv : (Int × (List Int) × Int × FrFormat)) (K : Int → (List FrFrame) → (List Int) → Int → Option ((List FrFrame) × (List Int) × Int)) : Nat → Int → (List FrFrame) → (List Int) → Int → Option ((List FrFrame) × (List Int) × Int)
 | 0, _, _, _, _ => none
 | n + 1, y3, lv, lv2, x => if (W (y3 + rv.1)) ≤ (rv.2.1.length : Int) then (Option.bind (cutO rv.2.1 y3 (W (y3 + rv.1))) fun q => Option.bind (cutO q 0 rv.2.2.1) fun q2 => Option.bind (strO q2) fun q3 => if q3.toList = rv.2.2.2.sync.toList then (Option.bind (cutO q (W (rv.1 - 2)) q.length) fun q4 => Option.bind (cutO q 0 (W (rv.1 - 2))) fun q5 => Option.bind (frame_Sum F q5) fun rv2 => Option.bind (frame_pair F rv2) fun rv3 => Option.bind (slices_Equal_byte F q4 rv3) fun rv4 => if rv4 = true then (Option.bind (ixO q rv.2.2.1) fun e => frame_read_L1 F rv q (fun (lv3 : (List Int)) (x2 : Int) => if 1000000 < (W (x + (iand .i64 (W ((W e) - (iand .i64 x 255))) 255))) then (some (([] : List FrFrame), ([] : List Int), 7)) else (Option.bind (appO lv [(FrFrame.mk y3 (W e) lv3)]) fun q7 => Option.bind (appO lv2 [(W (x + (iand .i64 (W ((W e) - (iand .i64 x 255))) 255)))]) fun q8 => frame_read_L2 F rv K n (W (y3 + rv.1)) q7 q8 (W ((W (x + (iand .i64 (W ((W e) - (iand .i64 x 255))) 255))) + 1)))) F ([] : List Int) (W (rv.2.2.1 + 1))) else (frame_read_L2 F rv K n (W (y3 + 1)) lv lv2 x)) else (frame_read_L2 F rv K n (W (y3 + 1)) lv lv2 x)) else (K y3 lv lv2 x)
def frame_read (F : Nat) (f : FrFormat) (t : FrTape) : Option ((List FrFrame) × (List Int) × Int) := Option.bind (frame_frames F f t.bytes) fun rv => frame_read_L2 F rv (fun (y3 : Int) (lv : (List FrFrame)) (lv2 : (List Int)) (x : Int) => some (lv, lv2, 0)) F 0 ([] : List FrFrame) ([] : List Int) t.first
theorem frame_read_scr {F : Nat} {f : FrFormat} {t : FrTape} {r : ((List FrFrame) × (List Int) × Int)} (h : frame_read F f t = some r) : SCR Try.prog 67 (List.map T.d [FrFormat.d f, FrTape.d t]) [] (.tup [.row 0 3 0 (r.1).length, .row 1 1 0 (r.2.1).length, .d (.v (.int .i64 r.2.2))]) (List.map some [(lFrFramed r.1), (lvI r.2.1)]) := by
 rw [frame_read] at h
 refine SC.of_swm Try.func67 R R R ?_
 dsimp only [argS, List.map]
 refine swm_seq ?_
 refine swm_of fun df => ?_
 refine sw_rg (q_box R (q_box R (r_alloc tb R R R R R (r_alloc tb R R R R R (r_alloc tb R R R R R (eN (swm_seq ?_)))))))
 refine swm_of fun df => ?_
 refine sw_rg (q_fa tb R (q_ldD (y := vI t.first) tb R (r_alloc tb R R R R R (q_stE _ _ tb R (eN (swm_seq (swm_seq ?_)))))))
 refine swm_of fun df => ?_
 refine sw_rg (q_ldD (y := FrFormat.d f) tb R (q_fa tb R (q_ldD (y := .arr 1 ((t.bytes).map v8)) tb R ?_)))
 obtain ⟨rv, hrv, h⟩ := bnd h
 refine r_callN (t' := .fn (.func 103) [] [.ref 6 1 0 0, .ref 7 1 0 0, .ref 8 1 0 0, .ref 9 4 0 0]) (news' := [⟨1, [.d (vI rv.1)]⟩, ⟨1, [.d (.arr 1 ((rv.2.1).map v8))]⟩, ⟨1, [.d (vI rv.2.2.1)]⟩, ⟨4, [.d (FrFormat.d rv.2.2.2)]⟩]) (frame_frames_scr hrv) (.of (by kernel_rfl)) R R R ((.cons R (.cons R (.cons R (.cons R .nil))))) R R R (eN (swm_block ?_))
 refine swm_range (.of (by kernel_rfl)) Try.func103 R R R R R R fun lb => ?_
 simp only [argS, Nat.zero_add, Nat.reduceAdd]
 refine swj_seq (swj_rg (rgj_ev (q_asgD R (ev_endJ (thenj_norm (swj_block ?_))))))
 refine SWJ.own (ts' := [(0, .d (.v (.func (.yield lb) #[] #[]))), (1, .ref 6 1 0 0), (2, .ref 7 1 0 0), (3, .ref 8 1 0 0), (4, .ref 9 4 0 0), (6, .d (vI 0))]) (L' := [some ⟨4, [.d (FrFormat.d f)]⟩, some ⟨2, [.d (FrTape.d t)]⟩, some ⟨1, [.row 10 3 0 (([] : List FrFrame)).length]⟩, some ⟨1, [.d (.v (.slice none 0 0))]⟩, some ⟨1, [.d (vI 0)]⟩, some ⟨1, [.d (vI t.first)]⟩, some ⟨1, [.d (vI rv.1)]⟩, some ⟨1, [.d (.arr 1 ((rv.2.1).map v8))]⟩, some ⟨1, [.d (vI rv.2.2.1)]⟩, some ⟨4, [.d (FrFormat.d rv.2.2.2)]⟩]) 3 R R (.cons (.same _) (.cons (.same _) (.cons (.same _) (.cons (.same _) (.cons (.same _) (.cons (.same _) .nil)))))) (.same (.same (.cons R (.cons .nil .nil) (.same (.same (.same (.same (.same (.same (.same .nil)))))))))) ?_
 simp only [List.cons_append, List.nil_append]
 refine SWJ.own (ts' := [(0, .d (.v (.func (.yield lb) #[] #[]))), (1, .ref 6 1 0 0), (2, .ref 7 1 0 0), (3, .ref 8 1 0 0), (4, .ref 9 4 0 0), (6, .d (vI 0))]) (L' := [some ⟨4, [.d (FrFormat.d f)]⟩, some ⟨2, [.d (FrTape.d t)]⟩, some ⟨1, [.row 10 3 0 (([] : List FrFrame)).length]⟩, some ⟨1, [.row 11 1 0 (([] : List Int)).length]⟩, some ⟨1, [.d (vI 0)]⟩, some ⟨1, [.d (vI t.first)]⟩, some ⟨1, [.d (vI rv.1)]⟩, some ⟨1, [.d (.arr 1 ((rv.2.1).map v8))]⟩, some ⟨1, [.d (vI rv.2.2.1)]⟩, some ⟨4, [.d (FrFormat.d rv.2.2.2)]⟩, some (lFrFramed ([] : List FrFrame))]) 1 R R (.cons (.same _) (.cons (.same _) (.cons (.same _) (.cons (.same _) (.cons (.same _) (.cons (.same _) .nil)))))) (.same (.same (.same (.cons R (.cons .nil .nil) (.same (.same (.same (.same (.same (.same (.same .nil))))))))))) ?_
 simp only [List.cons_append, List.nil_append]
 obtain ⟨K9, hK9, h⟩ : ∃ K, K = _ ∧ frame_read_L2 F rv K F 0 ([] : List FrFrame) ([] : List Int) t.first = some r := ⟨_, rfl, h⟩
 refine swj_loopS (fun m ph st => ∃ (y3 : Int) (lv : (List FrFrame)) (lv2 : (List Int)) (x : Int), frame_read_L2 F rv K9 m y3 lv lv2 x = some r ∧ ph = SX.norm ∧ st = ⟨[(0, .d (.v (.func (.yield lb) #[] #[]))), (1, .ref 6 1 0 0), (2, .ref 7 1 0 0), (3, .ref 8 1 0 0), (4, .ref 9 4 0 0), (6, .d (vI y3))], [some ⟨4, [.d (FrFormat.d f)]⟩, some ⟨2, [.d (FrTape.d t)]⟩, some ⟨1, [.row 10 3 0 (lv).length]⟩, some ⟨1, [.row 11 1 0 (lv2).length]⟩, some ⟨1, [.d (vI 0)]⟩, some ⟨1, [.d (vI x)]⟩, some ⟨1, [.d (vI rv.1)]⟩, some ⟨1, [.d (.arr 1 ((rv.2.1).map v8))]⟩, some ⟨1, [.d (vI rv.2.2.1)]⟩, some ⟨4, [.d (FrFormat.d rv.2.2.2)]⟩, some (lFrFramed lv), some (lvI lv2)]⟩) (.prn [0, 1, 2, 3, 4, 6] R) ⟨0, ([] : List FrFrame), ([] : List Int), t.first, h, R, R⟩ ?_
 clear h
 rintro m9 ph st ⟨y3, lv, lv2, x, h, rfl, rfl⟩
 cases m9 with
 | zero => cases (show (none : Option ((List FrFrame) × (List Int) × Int)) = some r from h)
 | succ m9 =>
 rw [frame_read_L2] at h
 refine swj_seq (swj_seq (swj_rg (rgj_ev (q_movD R (q_ldD (y := vI rv.1) tb R (q_add R (q_ldD (y := .arr 1 ((rv.2.1).map v8)) tb R (q_lenM tb R ?_))))))))
 refine r_leq R R R R ?_ ?_
 ·intro c
  replace h := ifP c h
  refine ev_endJ (thenj_norm (swj_condT R (swj_skip (thenj_norm (swj_block (swj_seq (swj_rg (rgj_ev (q_ldD (y := .arr 1 ((rv.2.1).map v8)) tb R (q_movD R (q_movD R (q_ldD (y := vI rv.1) tb R (q_add R ?_)))))))))))))
  obtain ⟨q, iq, h⟩ := bnd h
  refine r_sliceLH tb R R R R R R R iq R R (q_asgD R (ev_endJ (thenj_norm (swj_seq (swj_seq (swj_of (sw_dr (by kernel_rfl) (q_movD R (q_ldD (y := vI rv.2.2.1) tb R ?_)))))))))
  obtain ⟨q2, iq2, h⟩ := bnd h
  refine r_sliceT tb R R R R R R iq2 R R ?_
  obtain ⟨q3, iq3, h⟩ := bnd h
  refine r_strD R R R R iq3 R R (q_fa tb R (q_ldD (y := .v (.string rv.2.2.2.sync)) tb R ?_))
  refine r_strneq R R R R ?_ ?_
  ·intro c2
   replace h := ifN c2 h
   refine q_movD R (q_sk 12 R (q_pickT R (ev_endD (by kernel_rfl) (thenj_norm (swj_condT R (swj_seq (swj_rg (rgj_ev (q_movD R (q_add R (q_asgD R (ev_endJ (thenj_norm (swj_exit (thenj_exit (blockj_exit (thenj_norm ?_)))))))))))))))))
   exact ⟨m9, _, Nat.lt_succ_self _, .prn [0, 1, 2, 3, 4, 6] R, (W (y3 + 1)), lv, lv2, x, h, R, R⟩
  intro c2
  replace h := ifP c2 h
  refine q_movD R (q_movD R (q_ldD (y := vI rv.1) tb R (r_sub R R R R ?_)))
  obtain ⟨q4, iq4, h⟩ := bnd h
  refine r_sliceL tb R R R R R R iq4 R R (q_movD R (q_ldD (y := vI rv.1) tb R (r_sub R R R R ?_)))
  obtain ⟨q5, iq5, h⟩ := bnd h
  refine r_sliceT tb R R R R R R iq5 R R ?_
  obtain ⟨rv2, hrv2, h⟩ := bnd h
  refine r_call (frame_Sum_pc hrv2) (.of (by kernel_rfl)) R R R R ?_
  obtain ⟨rv3, hrv3, h⟩ := bnd h
  refine r_callN (t' := .row 12 1 0 (rv3).length) (news' := [(lv8 rv3)]) (frame_pair_scr hrv3) (.of (by kernel_rfl)) R R R ((.row .nil)) R R R ?_
  obtain ⟨rv4, hrv4, h⟩ := bnd h
  refine r_callLB (slices_Equal_byte_pc hrv4) (.of (by kernel_rfl)) R R ((.cons (.d _) (.cons (.row R R) .nil))) R R ?_ ?_
  ·intro c3
   replace h := ifP c3 h
   refine r_notT R R R (q_pickF R (ev_endD (by kernel_rfl) (thenj_norm (swj_condF R (swj_skip (thenj_norm (swj_seq (swj_rg (rgj_ev (q_movD R (q_movD R (q_ldD (y := vI rv.2.2.1) tb R ?_))))))))))))
   obtain ⟨e, ie, h⟩ := bnd h
   refine q_ixE tb (ix0 ie) (ix1m ie) R (q_ldE (y := .v (.int .u8 e)) tb (ix2 (g := v8) ie) R (r_cvI (k2 := .i64) R R R R R R (r_build (v := .d (.agg [vI y3, vI (W e), .v (.slice none 0 0)])) tb R R (List.cons_ne_nil _ _) R R R R R R (r_alloc tb R R R R R (q_stE _ _ tb R (ev_endJ (thenj_norm (swj_seq (swj_seq (swj_rg (rgj_ev (q_ldD (y := vI rv.2.2.1) tb R (q_add R (q_asgD R (ev_endJ (thenj_norm (swj_block ?_)))))))))))))))))
   refine SWJ.own (ts' := [(0, .d (.v (.func (.yield lb) #[] #[]))), (1, .ref 6 1 0 0), (2, .ref 7 1 0 0), (3, .ref 8 1 0 0), (4, .ref 9 4 0 0), (6, .d (vI y3)), (7, .d (.arr 1 ((q).map v8))), (8, .ref 13 3 0 0), (9, .d (vI (W (rv.2.2.1 + 1))))]) (L' := [some ⟨4, [.d (FrFormat.d f)]⟩, some ⟨2, [.d (FrTape.d t)]⟩, some ⟨1, [.row 10 3 0 (lv).length]⟩, some ⟨1, [.row 11 1 0 (lv2).length]⟩, some ⟨1, [.d (vI 0)]⟩, some ⟨1, [.d (vI x)]⟩, some ⟨1, [.d (vI rv.1)]⟩, some ⟨1, [.d (.arr 1 ((rv.2.1).map v8))]⟩, some ⟨1, [.d (vI rv.2.2.1)]⟩, some ⟨4, [.d (FrFormat.d rv.2.2.2)]⟩, some (lFrFramed lv), some (lvI lv2), some (lv8 rv3), some ⟨3, [.agg [.d (vI y3), .d (vI (W e)), .row 14 1 0 (([] : List Int)).length]]⟩]) 1 R R (.cons (.same _) (.cons (.same _) (.cons (.same _) (.cons (.same _) (.cons (.same _) (.cons (.same _) (.cons (.same _) (.cons (.same _) (.cons (.same _) .nil))))))))) (.same (.same (.same (.same (.same (.same (.same (.same (.same (.same (.same (.same (.same (.cons R (.cons (.aggDL (.cons (.same _) (.cons (.same _) (.cons .nil .nil)))) .nil) .nil)))))))))))))) ?_
   simp only [List.cons_append, List.nil_append]
   obtain ⟨K10, hK10, h⟩ : ∃ K, K = _ ∧ frame_read_L1 F rv q K F ([] : List Int) (W (rv.2.2.1 + 1)) = some r := ⟨_, rfl, h⟩
   refine swj_loopS (st0 := ⟨[(0, .d (.v (.func (.yield lb) #[] #[]))), (1, .ref 6 1 0 0), (2, .ref 7 1 0 0), (3, .ref 8 1 0 0), (4, .ref 9 4 0 0), (6, .d (vI y3)), (7, .d (.arr 1 ((q).map v8))), (8, .ref 12 3 0 0), (9, .d (vI (W (rv.2.2.1 + 1))))], [some ⟨4, [.d (FrFormat.d f)]⟩, some ⟨2, [.d (FrTape.d t)]⟩, some ⟨1, [.row 10 3 0 (lv).length]⟩, some ⟨1, [.row 11 1 0 (lv2).length]⟩, some ⟨1, [.d (vI 0)]⟩, some ⟨1, [.d (vI x)]⟩, some ⟨1, [.d (vI rv.1)]⟩, some ⟨1, [.d (.arr 1 ((rv.2.1).map v8))]⟩, some ⟨1, [.d (vI rv.2.2.1)]⟩, some ⟨4, [.d (FrFormat.d rv.2.2.2)]⟩, some (lFrFramed lv), some (lvI lv2), some ⟨3, [.agg [.d (vI y3), .d (vI (W e)), .row 13 1 0 (([] : List Int)).length]]⟩, some (lvI ([] : List Int))]⟩) (fun m ph st => ∃ (lv3 : (List Int)) (x2 : Int), frame_read_L1 F rv q K10 m lv3 x2 = some r ∧ ph = SX.norm ∧ st = ⟨[(0, .d (.v (.func (.yield lb) #[] #[]))), (1, .ref 6 1 0 0), (2, .ref 7 1 0 0), (3, .ref 8 1 0 0), (4, .ref 9 4 0 0), (6, .d (vI y3)), (7, .d (.arr 1 ((q).map v8))), (8, .ref 12 3 0 0), (9, .d (vI x2))], [some ⟨4, [.d (FrFormat.d f)]⟩, some ⟨2, [.d (FrTape.d t)]⟩, some ⟨1, [.row 10 3 0 (lv).length]⟩, some ⟨1, [.row 11 1 0 (lv2).length]⟩, some ⟨1, [.d (vI 0)]⟩, some ⟨1, [.d (vI x)]⟩, some ⟨1, [.d (vI rv.1)]⟩, some ⟨1, [.d (.arr 1 ((rv.2.1).map v8))]⟩, some ⟨1, [.d (vI rv.2.2.1)]⟩, some ⟨4, [.d (FrFormat.d rv.2.2.2)]⟩, some (lFrFramed lv), some (lvI lv2), some ⟨3, [.agg [.d (vI y3), .d (vI (W e)), .row 13 1 0 (lv3).length]]⟩, some (lvI lv3)]⟩) (.vw (κ := [0, 1, 2, 3, 4, 5, 6, 7, 8, 9, 10, 11, 13, 14]) (vK (.cons R R (.cons R R (.cons R R (.cons R R (.cons R R (.cons R R (.cons R R (.cons R R (.cons R R (.cons R R (.row R (.row R (.cons R R (.row R .nil)))))))))))))) R)) ⟨([] : List Int), (W (rv.2.2.1 + 1)), h, R, R⟩ ?_
   clear h
   rintro m10 ph st ⟨lv3, x2, h, rfl, rfl⟩
   cases m10 with
   | zero => cases (show (none : Option ((List FrFrame) × (List Int) × Int)) = some r from h)
   | succ m10 =>
   rw [frame_read_L1] at h
   refine swj_seq (swj_seq (swj_rg (rgj_ev (q_movD R (q_ldD (y := vI rv.1) tb R (r_sub R R R R ?_))))))
   refine r_lss R R R R ?_ ?_
   ·intro c4
    replace h := ifP c4 h
    refine ev_endJ (thenj_norm (swj_condT R (swj_skip (thenj_norm (swj_seq (swj_block (swj_of (sw_dr (by kernel_rfl) (q_fa tb R (r_ldW tb R R R R R R R R R (q_movD R (q_movD R ?_))))))))))))
    obtain ⟨e2, ie2, h⟩ := bnd h
    refine q_ixE tb (ix0 ie2) (ix1m ie2) R (q_ldE (y := .v (.int .u8 e2)) tb (ix2 (g := v8) ie2) R (r_cvI (k2 := .i64) R R R R R R (r_shl R R (by decide) R R (q_movD R (q_movD R (q_add R ?_))))))
    obtain ⟨e3, ie3, h⟩ := bnd h
    refine q_ixE tb (ix0 ie3) (ix1m ie3) R (q_ldE (y := .v (.int .u8 e3)) tb (ix2 (g := v8) ie3) R (r_cvI (k2 := .i64) R R R R R R (r_or R R R R (r_bslice tb R R R R R R R R R R R R R ?_))))
    obtain ⟨q6, iq6, h⟩ := bnd h
    refine r_apM (g := vI) (w := lv3) (v := [(ior .i64 (ishl .i64 (W e2) 8) (W e3))]) ([some ⟨4, [.d (FrFormat.d f)]⟩, some ⟨2, [.d (FrTape.d t)]⟩, some ⟨1, [.row 10 3 0 (lv).length]⟩, some ⟨1, [.row 11 1 0 (lv2).length]⟩, some ⟨1, [.d (vI 0)]⟩, some ⟨1, [.d (vI x)]⟩, some ⟨1, [.d (vI rv.1)]⟩, some ⟨1, [.d (.arr 1 ((rv.2.1).map v8))]⟩, some ⟨1, [.d (vI rv.2.2.1)]⟩, some ⟨4, [.d (FrFormat.d rv.2.2.2)]⟩, some (lFrFramed lv), some (lvI lv2), some ⟨3, [.agg [.d (vI y3), .d (vI (W e)), .row 13 1 0 (lv3).length]]⟩, none, some (lvI [(ior .i64 (ishl .i64 (W e2) 8) (W e3))])]) tb R R R R R R R R R R R iq6 R R R R R ?_
    refine q_fa tb R (q_stE _ _ tb R (ev_endD (by kernel_rfl) (blockj_norm (thenj_norm (swj_rg (rgj_ev (q_movD R (q_add R (q_asgD R (ev_endJ (thenj_norm ?_)))))))))))
    exact ⟨m10, ⟨[(0, .d (.v (.func (.yield lb) #[] #[]))), (1, .ref 6 1 0 0), (2, .ref 7 1 0 0), (3, .ref 8 1 0 0), (4, .ref 9 4 0 0), (6, .d (vI y3)), (7, .d (.arr 1 ((q).map v8))), (8, .ref 12 3 0 0), (9, .d (vI (W (x2 + 2))))], [some ⟨4, [.d (FrFormat.d f)]⟩, some ⟨2, [.d (FrTape.d t)]⟩, some ⟨1, [.row 10 3 0 (lv).length]⟩, some ⟨1, [.row 11 1 0 (lv2).length]⟩, some ⟨1, [.d (vI 0)]⟩, some ⟨1, [.d (vI x)]⟩, some ⟨1, [.d (vI rv.1)]⟩, some ⟨1, [.d (.arr 1 ((rv.2.1).map v8))]⟩, some ⟨1, [.d (vI rv.2.2.1)]⟩, some ⟨4, [.d (FrFormat.d rv.2.2.2)]⟩, some (lFrFramed lv), some (lvI lv2), some ⟨3, [.agg [.d (vI y3), .d (vI (W e)), .row 13 1 0 (q6).length]]⟩, some (lvI q6)]⟩, Nat.lt_succ_self _, .vw (κ := [0, 1, 2, 3, 4, 5, 6, 7, 8, 9, 10, 11, 12, 15]) (vK (.cons R R (.cons R R (.cons R R (.cons R R (.cons R R (.cons R R (.cons R R (.cons R R (.cons R R (.cons R R (.row R (.row R (.cons R R (.row R .nil)))))))))))))) R), q6, (W (x2 + 2)), h, R, R⟩
   intro c4
   replace h := ifN (Int.not_lt.2 c4) h
   refine ev_endJ (thenj_norm (swj_condF R (swj_exit (thenj_exit (thenj_exit ?_)))))
   subst hK10
   refine blockj_exit (thenj_norm (swj_seq (swj_seq ?_)))
   refine SWJ.fz (ts' := [(0, .d (.v (.func (.yield lb) #[] #[]))), (1, .ref 6 1 0 0), (2, .ref 7 1 0 0), (3, .ref 8 1 0 0), (4, .ref 9 4 0 0), (6, .d (vI y3)), (7, .d (.arr 1 ((q).map v8))), (8, .ref 12 3 0 0), (9, .d (vI x2)), (54, .d (vI x2)), (55, .d (vI rv.1)), (56, .d (vI (W (rv.1 - 2)))), (57, .d (.v (.bool false)))]) (L' := [some ⟨4, [.d (FrFormat.d f)]⟩, some ⟨2, [.d (FrTape.d t)]⟩, some ⟨1, [.row 10 3 0 (lv).length]⟩, some ⟨1, [.row 11 1 0 (lv2).length]⟩, some ⟨1, [.d (vI 0)]⟩, some ⟨1, [.d (vI x)]⟩, some ⟨1, [.d (vI rv.1)]⟩, some ⟨1, [.d (.arr 1 ((rv.2.1).map v8))]⟩, some ⟨1, [.d (vI rv.2.2.1)]⟩, some ⟨4, [.d (FrFormat.d rv.2.2.2)]⟩, some (lFrFramed lv), some (lvI lv2), some ⟨3, [.d (.agg [vI y3, vI (W e), .arr 1 ((lv3).map vI)])]⟩, none]) (w := lv3) (f := vI) 13 1 R (.cons (.same _) (.cons (.same _) (.cons (.same _) (.cons (.same _) (.cons (.same _) (.cons (.same _) (.cons (.same _) (.cons (.same _) (.cons (.same _) (.cons (.same _) (.cons (.same _) (.cons (.same _) (.cons (.same _) .nil))))))))))))) (.same (.same (.same (.same (.same (.same (.same (.same (.same (.same (.same (.same (.cons R (.cons (.aggDL (.cons (.same _) (.cons (.same _) (.cons (.all (List.length_map _)) .nil)))) .nil) (.same .nil)))))))))))))) ?_
   refine swj_rg (rgj_ev (q_movD R (q_ldD (y := .agg [vI y3, vI (W e), .arr 1 ((lv3).map vI)]) tb R (ev_yieldJ ?_))))
   (with_reducible apply rgj_yield (ys := [.agg [vI y3, vI (W e), .arr 1 ((lv3).map vI)]])); (iterate 7 exact rfl)
   dsimp only [parS]
   refine sw_rg (r_alloc tb R R R R R (q_stE _ _ tb R (ev_end ?_)))
   refine ⟨R, swy_rd ?_⟩
   refine sw_block (qG (q_ldD (y := vI x) tb R (q_fa tb R (q_ldD (y := vI (W e)) tb R (q_ldD (y := vI x) tb R (r_and R R R R (r_sub R R R R (r_and R R R R (q_add R (q_stE _ _ tb R (eN (sw_seq (qG (q_ldD (y := vI (W (x + (iand .i64 (W ((W e) - (iand .i64 x 255))) 255)))) tb R ?_))))))))))))))
   refine r_gtr R R R R ?_ ?_
   ·intro c5
    replace h := ifP c5 h
    refine eN (sw_condT R (qG (q_stE _ _ tb R (q_stE _ _ tb R (q_stE _ _ tb R (eN ?_))))))
    refine SW.own (ts' := [(4, .ref 2 1 0 0), (5, .ref 3 1 0 0), (6, .ref 4 1 0 0)]) (L' := [some ⟨4, [.d (FrFormat.d f)]⟩, some ⟨2, [.d (FrTape.d t)]⟩, some ⟨1, [.row 15 3 0 (([] : List FrFrame)).length]⟩, some ⟨1, [.d (.v (.slice none 0 0))]⟩, some ⟨1, [.d (vI 7)]⟩, some ⟨1, [.d (vI (W (x + (iand .i64 (W ((W e) - (iand .i64 x 255))) 255))))]⟩, some ⟨1, [.d (vI rv.1)]⟩, some ⟨1, [.d (.arr 1 ((rv.2.1).map v8))]⟩, some ⟨1, [.d (vI rv.2.2.1)]⟩, some ⟨4, [.d (FrFormat.d rv.2.2.2)]⟩, some (lFrFramed lv), some (lvI lv2), some ⟨3, [.d (.agg [vI y3, vI (W e), .arr 1 ((lv3).map vI)])]⟩, none, some ⟨3, [.d (.agg [vI y3, vI (W e), .arr 1 ((lv3).map vI)])]⟩]) 3 R R (.cons (.same _) (.cons (.same _) (.cons (.same _) .nil))) (.same (.same (.cons R (.cons .nil .nil) (.same (.same (.same (.same (.same (.same (.same (.same (.same (.same (.same (.same .nil))))))))))))))) ?_
    simp only [List.cons_append, List.nil_append]
    refine SW.own (ts' := [(4, .ref 2 1 0 0), (5, .ref 3 1 0 0), (6, .ref 4 1 0 0)]) (L' := [some ⟨4, [.d (FrFormat.d f)]⟩, some ⟨2, [.d (FrTape.d t)]⟩, some ⟨1, [.row 15 3 0 (([] : List FrFrame)).length]⟩, some ⟨1, [.row 16 1 0 (([] : List Int)).length]⟩, some ⟨1, [.d (vI 7)]⟩, some ⟨1, [.d (vI (W (x + (iand .i64 (W ((W e) - (iand .i64 x 255))) 255))))]⟩, some ⟨1, [.d (vI rv.1)]⟩, some ⟨1, [.d (.arr 1 ((rv.2.1).map v8))]⟩, some ⟨1, [.d (vI rv.2.2.1)]⟩, some ⟨4, [.d (FrFormat.d rv.2.2.2)]⟩, some (lFrFramed lv), some (lvI lv2), some ⟨3, [.d (.agg [vI y3, vI (W e), .arr 1 ((lv3).map vI)])]⟩, none, some ⟨3, [.d (.agg [vI y3, vI (W e), .arr 1 ((lv3).map vI)])]⟩, some (lFrFramed ([] : List FrFrame))]) 1 R R (.cons (.same _) (.cons (.same _) (.cons (.same _) .nil))) (.same (.same (.same (.cons R (.cons .nil .nil) (.same (.same (.same (.same (.same (.same (.same (.same (.same (.same (.same (.same .nil)))))))))))))))) ?_
    simp only [List.cons_append, List.nil_append]
    refine sw_ret (then_ret (block_ret ?_))
    refine ⟨[some ⟨4, [.d (FrFormat.d f)]⟩, some ⟨2, [.d (FrTape.d t)]⟩, some ⟨1, [.row 14 3 0 (([] : List FrFrame)).length]⟩, some ⟨1, [.row 15 1 0 (([] : List Int)).length]⟩, some ⟨1, [.d (vI 7)]⟩, some ⟨1, [.d (vI (W (x + (iand .i64 (W ((W e) - (iand .i64 x 255))) 255))))]⟩, some ⟨1, [.d (vI rv.1)]⟩, some ⟨1, [.d (.arr 1 ((rv.2.1).map v8))]⟩, some ⟨1, [.d (vI rv.2.2.1)]⟩, some ⟨4, [.d (FrFormat.d rv.2.2.2)]⟩, some (lFrFramed lv), some (lvI lv2), some ⟨3, [.d (.agg [vI y3, vI (W e), .arr 1 ((lv3).map vI)])]⟩, none, some (lFrFramed ([] : List FrFrame)), some (lvI ([] : List Int))], [0, 1, 2, 3, 4, 5, 6, 7, 8, 9, 10, 11, 12, 13, 15, 16], (vK (.cons R R (.cons R R (.cons R R (.cons R R (.cons R R (.cons R R (.cons R R (.cons R R (.cons R R (.cons R R (.row R (.row R (.cons R R (.gone R (.row R (.row R .nil)))))))))))))))) R), ?_⟩
    with_reducible apply yk_ret
    refine rgj_ev (r_notF R R R (ev_endJ (thenj_norm (swj_condT R (swj_ret (thenj_ret (blockj_ret (thenj_ret (blockj_ret ?_)))))))))
    refine ⟨R, [some ⟨4, [.d (FrFormat.d f)]⟩, some ⟨2, [.d (FrTape.d t)]⟩, some ⟨1, [.row 10 3 0 (([] : List FrFrame)).length]⟩, some ⟨1, [.row 11 1 0 (([] : List Int)).length]⟩, some ⟨1, [.d (vI 7)]⟩, some ⟨1, [.d (vI (W (x + (iand .i64 (W ((W e) - (iand .i64 x 255))) 255))))]⟩, some ⟨1, [.d (vI rv.1)]⟩, some ⟨1, [.d (.arr 1 ((rv.2.1).map v8))]⟩, some ⟨1, [.d (vI rv.2.2.1)]⟩, some ⟨4, [.d (FrFormat.d rv.2.2.2)]⟩, some (lFrFramed ([] : List FrFrame)), some (lvI ([] : List Int))], [0, 1, 2, 3, 4, 5, 6, 7, 8, 9, 14, 15], (vK (.cons R R (.cons R R (.cons R R (.cons R R (.cons R R (.cons R R (.cons R R (.cons R R (.cons R R (.cons R R (.row R (.row R .nil)))))))))))) R), ?_⟩
    refine block_ret (then_ret ?_)
    obtain rfl := sI h
    exact f2 [10, 11] (.row R (.row R .nil)) R (.cons (rc tb R) (.cons (rc tb R) (.cons (rc tb R) .nil))) R
   intro c5
   replace h := ifN (Int.not_lt.2 c5) h
   refine eN (sw_condF R (sw_skip (then_norm (sw_seq (sw_dr (by kernel_rfl) (r_ldW tb R R R R R R R R R (q_ldD (y := .agg [vI y3, vI (W e), .arr 1 ((lv3).map vI)]) tb R (r_bslice tb R R R R R R R R R R R R R ?_))))))))
   obtain ⟨q7, iq7, h⟩ := bnd h
   refine r_apM (g := FrFrame.d) (w := lv) (v := [(FrFrame.mk y3 (W e) lv3)]) ([some ⟨4, [.d (FrFormat.d f)]⟩, some ⟨2, [.d (FrTape.d t)]⟩, some ⟨1, [.row 10 3 0 (lv).length]⟩, some ⟨1, [.row 11 1 0 (lv2).length]⟩, some ⟨1, [.d (vI 0)]⟩, some ⟨1, [.d (vI (W (x + (iand .i64 (W ((W e) - (iand .i64 x 255))) 255))))]⟩, some ⟨1, [.d (vI rv.1)]⟩, some ⟨1, [.d (.arr 1 ((rv.2.1).map v8))]⟩, some ⟨1, [.d (vI rv.2.2.1)]⟩, some ⟨4, [.d (FrFormat.d rv.2.2.2)]⟩, none, some (lvI lv2), some ⟨3, [.d (.agg [vI y3, vI (W e), .arr 1 ((lv3).map vI)])]⟩, none, some ⟨3, [.d (.agg [vI y3, vI (W e), .arr 1 ((lv3).map vI)])]⟩, some (lFrFramed [(FrFrame.mk y3 (W e) lv3)])]) tb R R R R R R R R R R R iq7 R R R R R ?_
   refine r_ldW tb R R R R R R R R R (q_ldD (y := vI (W (x + (iand .i64 (W ((W e) - (iand .i64 x 255))) 255)))) tb R (r_bslice tb R R R R R R R R R R R R R ?_))
   obtain ⟨q8, iq8, h⟩ := bnd h
   refine r_apM (g := vI) (w := lv2) (v := [(W (x + (iand .i64 (W ((W e) - (iand .i64 x 255))) 255)))]) ([some ⟨4, [.d (FrFormat.d f)]⟩, some ⟨2, [.d (FrTape.d t)]⟩, some ⟨1, [.row 10 3 0 (lv).length]⟩, some ⟨1, [.row 11 1 0 (lv2).length]⟩, some ⟨1, [.d (vI 0)]⟩, some ⟨1, [.d (vI (W (x + (iand .i64 (W ((W e) - (iand .i64 x 255))) 255))))]⟩, some ⟨1, [.d (vI rv.1)]⟩, some ⟨1, [.d (.arr 1 ((rv.2.1).map v8))]⟩, some ⟨1, [.d (vI rv.2.2.1)]⟩, some ⟨4, [.d (FrFormat.d rv.2.2.2)]⟩, none, none, some ⟨3, [.d (.agg [vI y3, vI (W e), .arr 1 ((lv3).map vI)])]⟩, none, some ⟨3, [.d (.agg [vI y3, vI (W e), .arr 1 ((lv3).map vI)])]⟩, some (lFrFramed [(FrFrame.mk y3 (W e) lv3)]), some (lFrFramed q7), some (lvI [(W (x + (iand .i64 (W ((W e) - (iand .i64 x 255))) 255)))])]) tb R R R R R R R R R R R iq8 R R R R R ?_
   refine q_stE _ _ tb R (q_stE _ _ tb R (ev_endD (by kernel_rfl) (then_norm (sw_rg (q_ldD (y := vI (W (x + (iand .i64 (W ((W e) - (iand .i64 x 255))) 255)))) tb R (q_add R (q_stE _ _ tb R (ev_end (block_norm ?_)))))))))
   refine ⟨[some ⟨4, [.d (FrFormat.d f)]⟩, some ⟨2, [.d (FrTape.d t)]⟩, some ⟨1, [.row 14 3 0 (q7).length]⟩, some ⟨1, [.row 15 1 0 (q8).length]⟩, some ⟨1, [.d (vI 0)]⟩, some ⟨1, [.d (vI (W ((W (x + (iand .i64 (W ((W e) - (iand .i64 x 255))) 255))) + 1)))]⟩, some ⟨1, [.d (vI rv.1)]⟩, some ⟨1, [.d (.arr 1 ((rv.2.1).map v8))]⟩, some ⟨1, [.d (vI rv.2.2.1)]⟩, some ⟨4, [.d (FrFormat.d rv.2.2.2)]⟩, none, none, some ⟨3, [.d (.agg [vI y3, vI (W e), .arr 1 ((lv3).map vI)])]⟩, none, some (lFrFramed q7), some (lvI q8)], [0, 1, 2, 3, 4, 5, 6, 7, 8, 9, 10, 11, 12, 13, 16, 18], (vK (.cons R R (.cons R R (.cons R R (.cons R R (.cons R R (.cons R R (.cons R R (.cons R R (.cons R R (.cons R R (.gone R (.gone R (.cons R R (.gone R (.row R (.row R .nil)))))))))))))))) R), ?_⟩
   with_reducible apply yk_norm
   refine rgj_ev (r_notT R R R (ev_endJ (thenj_norm (swj_condF R (swj_skip (thenj_norm (swj_rg (rgj_ev (q_movD R (q_ldD (y := vI rv.1) tb R (q_add R (q_asgD R (ev_endJ (blockj_norm (thenj_norm ?_)))))))))))))))
   exact ⟨m9, ⟨[(0, .d (.v (.func (.yield lb) #[] #[]))), (1, .ref 6 1 0 0), (2, .ref 7 1 0 0), (3, .ref 8 1 0 0), (4, .ref 9 4 0 0), (6, .d (vI (W (y3 + rv.1))))], [some ⟨4, [.d (FrFormat.d f)]⟩, some ⟨2, [.d (FrTape.d t)]⟩, some ⟨1, [.row 10 3 0 (q7).length]⟩, some ⟨1, [.row 11 1 0 (q8).length]⟩, some ⟨1, [.d (vI 0)]⟩, some ⟨1, [.d (vI (W ((W (x + (iand .i64 (W ((W e) - (iand .i64 x 255))) 255))) + 1)))]⟩, some ⟨1, [.d (vI rv.1)]⟩, some ⟨1, [.d (.arr 1 ((rv.2.1).map v8))]⟩, some ⟨1, [.d (vI rv.2.2.1)]⟩, some ⟨4, [.d (FrFormat.d rv.2.2.2)]⟩, some (lFrFramed q7), some (lvI q8)]⟩, Nat.lt_succ_self _, .vw (κ := [0, 1, 2, 3, 4, 5, 6, 7, 8, 9, 14, 15]) (vK (.cons R R (.cons R R (.cons R R (.cons R R (.cons R R (.cons R R (.cons R R (.cons R R (.cons R R (.cons R R (.row R (.row R .nil)))))))))))) R), (W (y3 + rv.1)), q7, q8, (W ((W (x + (iand .i64 (W ((W e) - (iand .i64 x 255))) 255))) + 1)), h, R, R⟩
  intro c3
  replace h := ifF c3 h
  refine r_notF R R R (q_pickF R (ev_endD (by kernel_rfl) (thenj_norm (swj_condT R (swj_seq (swj_rg (rgj_ev (q_movD R (q_add R (q_asgD R (ev_endJ (thenj_norm (swj_exit (thenj_exit (blockj_exit (thenj_norm ?_))))))))))))))))
  exact ⟨m9, ⟨[(0, .d (.v (.func (.yield lb) #[] #[]))), (1, .ref 6 1 0 0), (2, .ref 7 1 0 0), (3, .ref 8 1 0 0), (4, .ref 9 4 0 0), (6, .d (vI (W (y3 + 1))))], [some ⟨4, [.d (FrFormat.d f)]⟩, some ⟨2, [.d (FrTape.d t)]⟩, some ⟨1, [.row 10 3 0 (lv).length]⟩, some ⟨1, [.row 11 1 0 (lv2).length]⟩, some ⟨1, [.d (vI 0)]⟩, some ⟨1, [.d (vI x)]⟩, some ⟨1, [.d (vI rv.1)]⟩, some ⟨1, [.d (.arr 1 ((rv.2.1).map v8))]⟩, some ⟨1, [.d (vI rv.2.2.1)]⟩, some ⟨4, [.d (FrFormat.d rv.2.2.2)]⟩, some (lFrFramed lv), some (lvI lv2)]⟩, Nat.lt_succ_self _, .vw (κ := [0, 1, 2, 3, 4, 5, 6, 7, 8, 9, 10, 11]) (vK (.cons R R (.cons R R (.cons R R (.cons R R (.cons R R (.cons R R (.cons R R (.cons R R (.cons R R (.cons R R (.row R (.row R .nil)))))))))))) R), (W (y3 + 1)), lv, lv2, x, h, R, R⟩
 intro c
 replace h := ifN (Int.not_le.2 c) h
 refine ev_endJ (thenj_norm (swj_condF R (swj_exit (thenj_exit (thenj_exit ?_)))))
 subst hK9
 refine blockj_exit ?_
 refine ⟨R, [some ⟨4, [.d (FrFormat.d f)]⟩, some ⟨2, [.d (FrTape.d t)]⟩, some ⟨1, [.row 10 3 0 (lv).length]⟩, some ⟨1, [.row 11 1 0 (lv2).length]⟩, some ⟨1, [.d (vI 0)]⟩, some ⟨1, [.d (vI x)]⟩, some ⟨1, [.d (vI rv.1)]⟩, some ⟨1, [.d (.arr 1 ((rv.2.1).map v8))]⟩, some ⟨1, [.d (vI rv.2.2.1)]⟩, some ⟨4, [.d (FrFormat.d rv.2.2.2)]⟩, some (lFrFramed lv), some (lvI lv2)], [0, 1, 2, 3, 4, 5, 6, 7, 8, 9, 10, 11], (vK (.cons R R (.cons R R (.cons R R (.cons R R (.cons R R (.cons R R (.cons R R (.cons R R (.cons R R (.cons R R (.row R (.row R .nil)))))))))))) R), ?_⟩
 refine block_norm (then_norm ?_)
 refine swm_of fun df => ?_
 refine sw_seq (sw_dr (by kernel_rfl) (r_ldW tb R R R R R R R R R (r_ldW tb R R R R R R R R R (q_stE _ _ tb R (q_stE _ _ tb R (q_stE _ _ tb R (ev_endD (by kernel_rfl) (then_norm (sw_ret ?_)))))))))
 obtain rfl := sI h
 exact f2 [10, 11] (.row R (.row R .nil)) R (.cons (rc tb R) (.cons (rc tb R) (.cons (rc tb R) .nil))) R
theorem frame_read_pc {F : Nat} {f : FrFormat} {t : FrTape} {r : ((List FrFrame) × (List Int) × Int)} (h : frame_read F f t = some r) : PC Try.prog 67 [FrFormat.d f, FrTape.d t] (.tup [.arr 3 ((r.1).map FrFrame.d), .arr 1 ((r.2.1).map vI), .v (.int .i64 r.2.2)]) := (frame_read_scr h).toPC (.tupL (.cons (.row rfl rfl) (.cons (.row rfl rfl) (.cons (.d _) .nil))))
def r1_Name_L1 (F : Nat) (s : ByteArray) (K : Int → Option Bool) : Nat → Int → Option Bool
 | 0, _ => none
 | n + 1, i => if i < (s.size : Int) then (Option.bind (ixB s i) fun b => if 97 ≤ b then (if b ≤ 122 then (r1_Name_L1 F s K n (W (i + 1))) else (if i = 0 then (some false) else (if 48 ≤ b then (if b ≤ 57 then (r1_Name_L1 F s K n (W (i + 1))) else (if b = 45 then (r1_Name_L1 F s K n (W (i + 1))) else (some false))) else (if b = 45 then (r1_Name_L1 F s K n (W (i + 1))) else (some false))))) else (if i = 0 then (some false) else (if 48 ≤ b then (if b ≤ 57 then (r1_Name_L1 F s K n (W (i + 1))) else (if b = 45 then (r1_Name_L1 F s K n (W (i + 1))) else (some false))) else (if b = 45 then (r1_Name_L1 F s K n (W (i + 1))) else (some false))))) else (K i)
def r1_Name (F : Nat) (s : ByteArray) : Option Bool := if (s.size : Int) < 1 then (some false) else (if 24 < (s.size : Int) then (some false) else (r1_Name_L1 F s (fun (i : Int) => some true) F 0))
theorem r1_Name_pc {F : Nat} {s : ByteArray} {r : Bool} (h : r1_Name F s = some r) : PC Try.prog 107 [.v (.string s)] (.v (.bool r)) := by
 rw [r1_Name] at h
 refine SC.of_sw Try.func107 R R R ?_
 dsimp only [argS, List.map]
 refine qG (q_asgD R (eN (sw_seq (qG (q_movD R (r_lenS R R R R ?_))))))
 refine r_lss R R R R ?_ ?_
 ·intro c
  replace h := ifP c h
  refine q_movD R (q_sk 3 R (q_pickT R (eN (sw_condT R (qG (q_asgD R (eN (sw_ret (then_ret ?_)))))))))
  obtain rfl := sI h
  exact f1 2 R
 intro c
 replace h := ifN (Int.not_lt.2 c) h
 refine q_movD R (q_movD R (r_lenS R R R R ?_))
 refine r_gtr R R R R ?_ ?_
 ·intro c2
  replace h := ifP c2 h
  refine q_pickF R (eN (sw_condT R (qG (q_asgD R (eN (sw_ret (then_ret ?_)))))))
  obtain rfl := sI h
  exact f1 2 R
 intro c2
 replace h := ifN (Int.not_lt.2 c2) h
 refine q_pickF R (eN (sw_condF R (sw_skip (then_norm (sw_seq (qG (q_asgD R (eN (sw_block ?_)))))))))
 obtain ⟨K2, hK2, h⟩ : ∃ K, K = _ ∧ r1_Name_L1 F s K F 0 = some r := ⟨_, rfl, h⟩
 refine sw_loopS (fun m st => ∃ (i : Int), r1_Name_L1 F s K2 m i = some r ∧ st = ⟨[(0, .d (.v (.string s))), (2, .d (.v (.bool false))), (3, .d (vI i))], []⟩) (.prn [0, 2, 3] R) ⟨0, h, R⟩ ?_
 clear h
 rintro m2 st ⟨i, h, rfl⟩
 cases m2 with
 | zero => cases (show (none : Option Bool) = some r from h)
 | succ m2 =>
 rw [r1_Name_L1] at h
 refine sw_seq (qG (q_movD R (q_movD R (r_lenS R R R R ?_))))
 refine r_lss R R R R ?_ ?_
 ·intro c3
  replace h := ifP c3 h
  refine eN (sw_condT R (sw_skip (then_norm (sw_seq (sw_block (qG (q_movD R (q_movD R ?_))))))))
  obtain ⟨b, ib, h⟩ := bnd h
  refine r_ixB R R R ib R R (q_asgD R (eN (qG (q_movD R ?_))))
  refine r_geq R R R R ?_ ?_
  ·intro c4
   replace h := ifP c4 h
   refine q_movD R (q_movD R ?_)
   refine r_leq R R R R ?_ ?_
   ·intro c5
    replace h := ifP c5 h
    refine q_pickT R (q_asgD R (eN (qG (q_movD R (r_notT R R R (q_movD R (q_sk 15 R (q_pickF R (eN (sw_condF R (sw_skip (block_norm (then_norm (sw_rg (q_movD R (q_add R (q_asgD R (eN ?_))))))))))))))))))
    exact ⟨m2, _, Nat.lt_succ_self _, .prn [0, 2, 3] R, (W (i + 1)), h, R⟩
   intro c5
   replace h := ifN (Int.not_le.2 c5) h
   refine q_pickT R (q_asgD R (eN (qG (q_movD R (r_notF R R R (q_movD R (q_movD R ?_)))))))
   refine r_eql R R R R ?_ ?_
   ·intro c6
    replace h := ifP c6 h
    refine q_movD R (q_sk 11 R (q_pickT R (q_pickT R (eN (sw_condT R (qG (q_asgD R (eN (sw_ret (block_ret (then_ret (then_ret (block_ret (then_ret ?_))))))))))))))
    obtain rfl := sI h
    exact f1 2 R
   intro c6
   replace h := ifN c6 h
   refine q_movD R (q_movD R ?_)
   refine r_geq R R R R ?_ ?_
   ·intro c7
    replace h := ifP c7 h
    refine q_movD R (q_movD R ?_)
    refine r_leq R R R R ?_ ?_
    ·intro c8
     replace h := ifP c8 h
     refine q_pickT R (q_movD R (q_sk 2 R (q_pickT R (r_notT R R R (q_pickF R (q_pickT R (eN (sw_condF R (sw_skip (block_norm (then_norm (sw_rg (q_movD R (q_add R (q_asgD R (eN ?_))))))))))))))))
     exact ⟨m2, _, Nat.lt_succ_self _, .prn [0, 2, 3] R, (W (i + 1)), h, R⟩
    intro c8
    replace h := ifN (Int.not_le.2 c8) h
    refine q_pickT R (q_movD R (q_movD R ?_))
    refine r_eql R R R R ?_ ?_
    ·intro c9
     replace h := ifP c9 h
     refine q_pickF R (r_notT R R R (q_pickF R (q_pickT R (eN (sw_condF R (sw_skip (block_norm (then_norm (sw_rg (q_movD R (q_add R (q_asgD R (eN ?_)))))))))))))
     exact ⟨m2, _, Nat.lt_succ_self _, .prn [0, 2, 3] R, (W (i + 1)), h, R⟩
    intro c9
    replace h := ifN c9 h
    refine q_pickF R (r_notF R R R (q_pickF R (q_pickT R (eN (sw_condT R (qG (q_asgD R (eN (sw_ret (block_ret (then_ret (then_ret (block_ret (then_ret ?_))))))))))))))
    obtain rfl := sI h
    exact f1 2 R
   intro c7
   replace h := ifN (Int.not_le.2 c7) h
   refine q_movD R (q_sk 2 R (q_pickF R (q_movD R (q_movD R ?_))))
   refine r_eql R R R R ?_ ?_
   ·intro c10
    replace h := ifP c10 h
    refine q_pickF R (r_notT R R R (q_pickF R (q_pickT R (eN (sw_condF R (sw_skip (block_norm (then_norm (sw_rg (q_movD R (q_add R (q_asgD R (eN ?_)))))))))))))
    exact ⟨m2, _, Nat.lt_succ_self _, .prn [0, 2, 3] R, (W (i + 1)), h, R⟩
   intro c10
   replace h := ifN c10 h
   refine q_pickF R (r_notF R R R (q_pickF R (q_pickT R (eN (sw_condT R (qG (q_asgD R (eN (sw_ret (block_ret (then_ret (then_ret (block_ret (then_ret ?_))))))))))))))
   obtain rfl := sI h
   exact f1 2 R
  intro c4
  replace h := ifN (Int.not_le.2 c4) h
  refine q_movD R (q_sk 2 R (q_pickF R (q_asgD R (eN (qG (q_movD R (r_notF R R R (q_movD R (q_movD R ?_)))))))))
  refine r_eql R R R R ?_ ?_
  ·intro c11
   replace h := ifP c11 h
   refine q_movD R (q_sk 11 R (q_pickT R (q_pickT R (eN (sw_condT R (qG (q_asgD R (eN (sw_ret (block_ret (then_ret (then_ret (block_ret (then_ret ?_))))))))))))))
   obtain rfl := sI h
   exact f1 2 R
  intro c11
  replace h := ifN c11 h
  refine q_movD R (q_movD R ?_)
  refine r_geq R R R R ?_ ?_
  ·intro c12
   replace h := ifP c12 h
   refine q_movD R (q_movD R ?_)
   refine r_leq R R R R ?_ ?_
   ·intro c13
    replace h := ifP c13 h
    refine q_pickT R (q_movD R (q_sk 2 R (q_pickT R (r_notT R R R (q_pickF R (q_pickT R (eN (sw_condF R (sw_skip (block_norm (then_norm (sw_rg (q_movD R (q_add R (q_asgD R (eN ?_))))))))))))))))
    exact ⟨m2, _, Nat.lt_succ_self _, .prn [0, 2, 3] R, (W (i + 1)), h, R⟩
   intro c13
   replace h := ifN (Int.not_le.2 c13) h
   refine q_pickT R (q_movD R (q_movD R ?_))
   refine r_eql R R R R ?_ ?_
   ·intro c14
    replace h := ifP c14 h
    refine q_pickF R (r_notT R R R (q_pickF R (q_pickT R (eN (sw_condF R (sw_skip (block_norm (then_norm (sw_rg (q_movD R (q_add R (q_asgD R (eN ?_)))))))))))))
    exact ⟨m2, _, Nat.lt_succ_self _, .prn [0, 2, 3] R, (W (i + 1)), h, R⟩
   intro c14
   replace h := ifN c14 h
   refine q_pickF R (r_notF R R R (q_pickF R (q_pickT R (eN (sw_condT R (qG (q_asgD R (eN (sw_ret (block_ret (then_ret (then_ret (block_ret (then_ret ?_))))))))))))))
   obtain rfl := sI h
   exact f1 2 R
  intro c12
  replace h := ifN (Int.not_le.2 c12) h
  refine q_movD R (q_sk 2 R (q_pickF R (q_movD R (q_movD R ?_))))
  refine r_eql R R R R ?_ ?_
  ·intro c15
   replace h := ifP c15 h
   refine q_pickF R (r_notT R R R (q_pickF R (q_pickT R (eN (sw_condF R (sw_skip (block_norm (then_norm (sw_rg (q_movD R (q_add R (q_asgD R (eN ?_)))))))))))))
   exact ⟨m2, _, Nat.lt_succ_self _, .prn [0, 2, 3] R, (W (i + 1)), h, R⟩
  intro c15
  replace h := ifN c15 h
  refine q_pickF R (r_notF R R R (q_pickF R (q_pickT R (eN (sw_condT R (qG (q_asgD R (eN (sw_ret (block_ret (then_ret (then_ret (block_ret (then_ret ?_))))))))))))))
  obtain rfl := sI h
  exact f1 2 R
 intro c3
 replace h := ifN (Int.not_lt.2 c3) h
 refine eN (sw_condF R (sw_exit (then_exit (then_exit ?_))))
 subst hK2
 refine block_exit (then_norm (qG (q_asgD R (eN (sw_ret ?_)))))
 obtain rfl := sI h
 exact f1 2 R
def r1_Ints_L1 (F : Nat) (a : (List Int)) (b : (List Int)) (K : Int → Option Bool) : Nat → Int → Option Bool
 | 0, _ => none
 | n + 1, i => if i < (a.length : Int) then (Option.bind (ixO a i) fun e => Option.bind (ixO b i) fun e2 => if e = e2 then (r1_Ints_L1 F a b K n (W (i + 1))) else (some false)) else (K i)
def r1_Ints (F : Nat) (a : (List Int)) (b : (List Int)) : Option Bool := if (a.length : Int) = (b.length : Int) then (r1_Ints_L1 F a b (fun (i : Int) => some true) F 0) else (some false)
theorem r1_Ints_pc {F : Nat} {a : (List Int)} {b : (List Int)} {r : Bool} (h : r1_Ints F a b = some r) : PC Try.prog 63 [.arr 1 ((a).map vI), .arr 1 ((b).map vI)] (.v (.bool r)) := by
 rw [r1_Ints] at h
 refine SC.of_sw Try.func63 R R R ?_
 dsimp only [argS, List.map]
 refine qG (q_asgD R (eN (sw_seq (qG (q_movD R (q_lenM tb R (q_movD R (q_lenM tb R ?_))))))))
 refine r_neq R R R R ?_ ?_
 ·intro c
  replace h := ifN c h
  refine eN (sw_condT R (qG (q_asgD R (eN (sw_ret (then_ret ?_))))))
  obtain rfl := sI h
  exact f1 4 R
 intro c
 replace h := ifP c h
 refine eN (sw_condF R (sw_skip (then_norm (sw_seq (qG (q_asgD R (eN (sw_block ?_))))))))
 obtain ⟨K2, hK2, h⟩ : ∃ K, K = _ ∧ r1_Ints_L1 F a b K F 0 = some r := ⟨_, rfl, h⟩
 refine sw_loopS (fun m st => ∃ (i : Int), r1_Ints_L1 F a b K2 m i = some r ∧ st = ⟨[(0, .d (.arr 1 ((a).map vI))), (1, .d (.arr 1 ((b).map vI))), (4, .d (.v (.bool false))), (5, .d (vI i))], []⟩) (.prn [0, 1, 4, 5] R) ⟨0, h, R⟩ ?_
 clear h
 rintro m2 st ⟨i, h, rfl⟩
 cases m2 with
 | zero => cases (show (none : Option Bool) = some r from h)
 | succ m2 =>
 rw [r1_Ints_L1] at h
 refine sw_seq (qG (q_movD R (q_movD R (q_lenM tb R ?_))))
 refine r_lss R R R R ?_ ?_
 ·intro c2
  replace h := ifP c2 h
  refine eN (sw_condT R (sw_skip (then_norm (sw_seq (sw_block (sw_seq (sw_dr (by kernel_rfl) (q_movD R (q_movD R ?_)))))))))
  obtain ⟨e, ie, h⟩ := bnd h
  refine q_ixE tb (ix0 ie) (ix1m ie) R (q_ldE (y := vI e) tb (ix2 (g := vI) ie) R (q_movD R (q_movD R ?_)))
  obtain ⟨e2, ie2, h⟩ := bnd h
  refine q_ixE tb (ix0 ie2) (ix1m ie2) R (q_ldE (y := vI e2) tb (ix2 (g := vI) ie2) R ?_)
  refine r_neq R R R R ?_ ?_
  ·intro c3
   replace h := ifN c3 h
   refine ev_endD (by kernel_rfl) (then_norm (sw_condT R (qG (q_asgD R (eN (sw_ret (block_ret (then_ret (then_ret (block_ret (then_ret ?_)))))))))))
   obtain rfl := sI h
   exact f1 4 R
  intro c3
  replace h := ifP c3 h
  refine ev_endD (by kernel_rfl) (then_norm (sw_condF R (sw_skip (block_norm (then_norm (sw_rg (q_movD R (q_add R (q_asgD R (eN ?_))))))))))
  exact ⟨m2, _, Nat.lt_succ_self _, .prn [0, 1, 4, 5] R, (W (i + 1)), h, R⟩
 intro c2
 replace h := ifN (Int.not_lt.2 c2) h
 refine eN (sw_condF R (sw_exit (then_exit (then_exit ?_))))
 subst hK2
 refine block_exit (then_norm (qG (q_asgD R (eN (sw_ret ?_)))))
 obtain rfl := sI h
 exact f1 4 R
def r9_Ints (F : Nat) (a : (List Int)) (b : (List Int)) : Option Bool := Option.bind (r1_Ints F a b) fun rv => some rv
theorem r9_Ints_pc {F : Nat} {a : (List Int)} {b : (List Int)} {r : Bool} (h : r9_Ints F a b = some r) : PC Try.prog 24 [.arr 1 ((a).map vI), .arr 1 ((b).map vI)] (.v (.bool r)) := by
 rw [r9_Ints] at h
 refine SC.of_sw Try.func24 R R R ?_
 dsimp only [argS, List.map]
 refine qG (q_asgD R (eN (qG (q_movD R (q_movD R ?_)))))
 obtain ⟨rv, hrv, h⟩ := bnd h
 refine r_call (r1_Ints_pc hrv) (.of (by kernel_rfl)) R R R R (q_asgD R (eN (sw_ret ?_)))
 obtain rfl := sI h
 exact f1 4 R
def r9_in (F : Nat) (nv : Int) (low : Int) (high : Int) : Option Bool := if low ≤ nv then (some (decide (nv ≤ high))) else (some false)
theorem r9_in_pc {F : Nat} {nv : Int} {low : Int} {high : Int} {r : Bool} (h : r9_in F nv low high = some r) : PC Try.prog 70 [.v (.int .i64 nv), .v (.int .i64 low), .v (.int .i64 high)] (.v (.bool r)) := by
 rw [r9_in] at h
 refine SC.of_sw Try.func70 R R R ?_
 dsimp only [argS, List.map]
 refine qG (q_asgD R (eN (qG (q_movD R (q_movD R ?_)))))
 refine r_geq R R R R ?_ ?_
 ·intro c
  replace h := ifP c h
  refine q_movD R (q_movD R (q_movD R (r_leqV R R R R (q_pickT R (q_asgD R (eN (sw_ret ?_)))))))
  obtain rfl := sI h
  exact f1 6 R
 intro c
 replace h := ifN (Int.not_le.2 c) h
 refine q_movD R (q_sk 3 R (q_pickF R (q_asgD R (eN (sw_ret ?_)))))
 obtain rfl := sI h
 exact f1 6 R
def r9_number (F : Nat) (nv : Int) : Option Bool := Option.bind (r9_in F nv 0 1000000) fun rv => some rv
theorem r9_number_pc {F : Nat} {nv : Int} {r : Bool} (h : r9_number F nv = some r) : PC Try.prog 60 [.v (.int .i64 nv)] (.v (.bool r)) := by
 rw [r9_number] at h
 refine SC.of_sw Try.func60 R R R ?_
 dsimp only [argS, List.map]
 refine qG (q_asgD R (eN (qG (q_movD R ?_))))
 obtain ⟨rv, hrv, h⟩ := bnd h
 refine r_call (r9_in_pc hrv) (.of (by kernel_rfl)) R R R R (q_asgD R (eN (sw_ret ?_)))
 obtain rfl := sI h
 exact f1 2 R
def r9_channel_L1 (F : Nat) (e : FrChannel) (e3 : FrChannel) (K : Int → Option Int) : Nat → Int → Option Int
 | 0, _ => none
 | n + 1, x2 => if x2 < 16 then (if e3.word = e.word then (if e3.every = 0 then none else (if (Int.tmod x2 e3.every) = e3.phase then (if (Int.tmod x2 e.every) = e.phase then (some 2) else (r9_channel_L1 F e e3 K n (W (x2 + 1)))) else (r9_channel_L1 F e e3 K n (W (x2 + 1))))) else (r9_channel_L1 F e e3 K n (W (x2 + 1)))) else (K x2)
def r9_channel_L2 (F : Nat) (t : FrFormat) (o : Int) (e : FrChannel) (K : Int → Option Int) : Nat → Int → Option Int
 | 0, _ => none
 | n + 1, x => if x < o then (Option.bind (ixO t.channels x) fun e3 => r9_channel_L1 F e e3 (fun (x2 : Int) => r9_channel_L2 F t o e K n (W (x + 1))) F 0) else (K x)
def r9_channel_L3 (F : Nat) (t : FrFormat) (o : Int) (e : FrChannel) (K : Int → Option Int) : Nat → Int → Option Int
 | 0, _ => none
 | n + 1, y => if y < o then (Option.bind (ixO t.channels y) fun e2 => if e2.name.toList = e.name.toList then (some 5) else (r9_channel_L3 F t o e K n (W (y + 1)))) else (K y)
def r9_channel (F : Nat) (t : FrFormat) (o : Int) : Option Int := Option.bind (ixO t.channels o) fun e => Option.bind (r1_Name F e.name) fun rv => if rv = true then (r9_channel_L3 F t o e (fun (y : Int) => Option.bind (r9_in F e.word 0 (W (t.words - 1))) fun rv2 => if rv2 = true then (if e.every < 1 then (some 7) else (if e.every = 0 then none else (if (Int.tmod t.depth e.every) = 0 then (Option.bind (r9_in F e.phase 0 (W (e.every - 1))) fun rv3 => if rv3 = true then (r9_channel_L2 F t o e (fun (x : Int) => some 0) F 0) else (some 7)) else (some 7)))) else (some 7)) F 0) else (some 6)
theorem r9_channel_pc {F : Nat} {t : FrFormat} {o : Int} {r : Int} (h : r9_channel F t o = some r) : PC Try.prog 79 [FrFormat.d t, .v (.int .i64 o)] (.v (.int .i64 r)) := by
 rw [r9_channel] at h
 refine SC.of_sw Try.func79 R R R ?_
 dsimp only [argS, List.map]
 refine qG (q_box R (q_asgD R (eN (qG (q_fa tb R (q_ldD (y := .arr 4 ((t.channels).map FrChannel.d)) tb R (q_movD R ?_)))))))
 obtain ⟨e, ie, h⟩ := bnd h
 refine q_ixE tb (ix0 ie) (ix1m ie) R (q_ldE (y := FrChannel.d e) tb (ix2 (g := FrChannel.d) ie) R (r_alloc tb R R R R R (q_stE _ _ tb R (eN (sw_seq (qG (q_fa tb R (q_ldD (y := .v (.string e.name)) tb R ?_))))))))
 obtain ⟨rv, hrv, h⟩ := bnd h
 refine r_callB (r1_Name_pc hrv) (.of (by kernel_rfl)) R R R R ?_ ?_
 ·intro c
  replace h := ifP c h
  refine r_notT R R R (eN (sw_condF R (sw_skip (then_norm (sw_seq (qG (q_asgD R (eN (sw_block ?_)))))))))
  obtain ⟨K2, hK2, h⟩ : ∃ K, K = _ ∧ r9_channel_L3 F t o e K F 0 = some r := ⟨_, rfl, h⟩
  refine sw_loopS (fun m st => ∃ (y : Int), r9_channel_L3 F t o e K2 m y = some r ∧ st = ⟨[(1, .d (vI o)), (2, .ref 0 4 0 0), (4, .d (vI 0)), (5, .ref 1 4 0 0), (6, .d (vI y))], [some ⟨4, [.d (FrFormat.d t)]⟩, some ⟨4, [.d (FrChannel.d e)]⟩]⟩) (.prn [1, 2, 4, 5, 6] R) ⟨0, h, R⟩ ?_
  clear h
  rintro m2 st ⟨y, h, rfl⟩
  cases m2 with
  | zero => cases (show (none : Option Int) = some r from h)
  | succ m2 =>
  rw [r9_channel_L3] at h
  refine sw_seq (qG (q_movD R (q_movD R ?_)))
  refine r_lss R R R R ?_ ?_
  ·intro c2
   replace h := ifP c2 h
   refine eN (sw_condT R (sw_skip (then_norm (sw_seq (sw_block (sw_seq (sw_dr (by kernel_rfl) (q_fa tb R (q_ldD (y := .arr 4 ((t.channels).map FrChannel.d)) tb R (q_movD R ?_))))))))))
   obtain ⟨e2, ie2, h⟩ := bnd h
   refine q_ixE tb (ix0 ie2) (ix1m ie2) R (q_faE tb R (q_ldE (y := .v (.string e2.name)) tb (ix2 (g := FrChannel.d) ie2) R (q_fa tb R (q_ldD (y := .v (.string e.name)) tb R ?_))))
   refine r_streql R R R R ?_ ?_
   ·intro c3
    replace h := ifP c3 h
    refine ev_endD (by kernel_rfl) (then_norm (sw_condT R (qG (q_asgD R (eN (sw_ret (block_ret (then_ret (then_ret (block_ret (then_ret ?_)))))))))))
    obtain rfl := sI h
    exact f1 4 R
   intro c3
   replace h := ifN c3 h
   refine ev_endD (by kernel_rfl) (then_norm (sw_condF R (sw_skip (block_norm (then_norm (sw_rg (q_movD R (q_add R (q_asgD R (eN ?_))))))))))
   exact ⟨m2, _, Nat.lt_succ_self _, .prn [1, 2, 4, 5, 6] R, (W (y + 1)), h, R⟩
  intro c2
  replace h := ifN (Int.not_lt.2 c2) h
  refine eN (sw_condF R (sw_exit (then_exit (then_exit ?_))))
  subst hK2
  refine block_exit (then_norm (sw_seq (qG (q_fa tb R (q_ldD (y := vI e.word) tb R (q_fa tb R (q_ldD (y := vI t.words) tb R (r_sub R R R R ?_))))))))
  obtain ⟨rv2, hrv2, h⟩ := bnd h
  refine r_callB (r9_in_pc hrv2) (.of (by kernel_rfl)) R R R R ?_ ?_
  ·intro c4
   replace h := ifP c4 h
   refine r_notT R R R (q_movD R (q_fa tb R (q_ldD (y := vI e.every) tb R ?_)))
   refine r_lss R R R R ?_ ?_
   ·intro c5
    replace h := ifP c5 h
    refine q_pickF R (q_movD R (q_sk 6 R (q_pickT R (q_movD R (q_sk 7 R (q_pickT R (eN (sw_condT R (qG (q_asgD R (eN (sw_ret (then_ret ?_)))))))))))))
    obtain rfl := sI h
    exact f1 4 R
   intro c5
   replace h := ifN (Int.not_lt.2 c5) h
   refine q_pickF R (q_movD R (q_fa tb R (q_ldD (y := vI t.depth) tb R (q_fa tb R (q_ldD (y := vI e.every) tb R ?_)))))
   by_cases c6 : e.every = 0
   ·cases (if_pos c6).symm.trans h
   replace h := ifN c6 h
   refine r_rem R R c6 R R ?_
   refine r_neq R R R R ?_ ?_
   ·intro c7
    replace h := ifN c7 h
    refine q_pickF R (q_movD R (q_sk 7 R (q_pickT R (eN (sw_condT R (qG (q_asgD R (eN (sw_ret (then_ret ?_))))))))))
    obtain rfl := sI h
    exact f1 4 R
   intro c7
   replace h := ifP c7 h
   refine q_pickF R (q_movD R (q_fa tb R (q_ldD (y := vI e.phase) tb R (q_fa tb R (q_ldD (y := vI e.every) tb R (r_sub R R R R ?_))))))
   obtain ⟨rv3, hrv3, h⟩ := bnd h
   refine r_callB (r9_in_pc hrv3) (.of (by kernel_rfl)) R R R R ?_ ?_
   ·intro c8
    replace h := ifP c8 h
    refine r_notT R R R (q_pickF R (eN (sw_condF R (sw_skip (then_norm (sw_seq (qG (q_asgD R (eN (sw_block ?_))))))))))
    obtain ⟨K6, hK6, h⟩ : ∃ K, K = _ ∧ r9_channel_L2 F t o e K F 0 = some r := ⟨_, rfl, h⟩
    refine sw_loopS (fun m st => ∃ (x : Int), r9_channel_L2 F t o e K6 m x = some r ∧ st = ⟨[(1, .d (vI o)), (2, .ref 0 4 0 0), (4, .d (vI 0)), (5, .ref 1 4 0 0), (7, .d (vI x))], [some ⟨4, [.d (FrFormat.d t)]⟩, some ⟨4, [.d (FrChannel.d e)]⟩]⟩) (.prn [1, 2, 4, 5, 7] R) ⟨0, h, R⟩ ?_
    clear h
    rintro m6 st ⟨x, h, rfl⟩
    cases m6 with
    | zero => cases (show (none : Option Int) = some r from h)
    | succ m6 =>
    rw [r9_channel_L2] at h
    refine sw_seq (qG (q_movD R (q_movD R ?_)))
    refine r_lss R R R R ?_ ?_
    ·intro c9
     replace h := ifP c9 h
     refine eN (sw_condT R (sw_skip (then_norm (sw_seq (sw_block (qG (q_fa tb R (q_ldD (y := .arr 4 ((t.channels).map FrChannel.d)) tb R (q_movD R ?_)))))))))
     obtain ⟨e3, ie3, h⟩ := bnd h
     refine q_ixE tb (ix0 ie3) (ix1m ie3) R (q_ldE (y := FrChannel.d e3) tb (ix2 (g := FrChannel.d) ie3) R (r_alloc tb R R R R R (q_stE _ _ tb R (eN (qG (q_asgD R (eN (sw_block ?_))))))))
     obtain ⟨K7, hK7, h⟩ : ∃ K, K = _ ∧ r9_channel_L1 F e e3 K F 0 = some r := ⟨_, rfl, h⟩
     refine sw_loopS (fun m st => ∃ (x2 : Int), r9_channel_L1 F e e3 K7 m x2 = some r ∧ st = ⟨[(1, .d (vI o)), (2, .ref 0 4 0 0), (4, .d (vI 0)), (5, .ref 1 4 0 0), (7, .d (vI x)), (8, .ref 2 4 0 0), (9, .d (vI x2))], [some ⟨4, [.d (FrFormat.d t)]⟩, some ⟨4, [.d (FrChannel.d e)]⟩, some ⟨4, [.d (FrChannel.d e3)]⟩]⟩) (.prn [1, 2, 4, 5, 7, 8, 9] R) ⟨0, h, R⟩ ?_
     clear h
     rintro m7 st ⟨x2, h, rfl⟩
     cases m7 with
     | zero => cases (show (none : Option Int) = some r from h)
     | succ m7 =>
     rw [r9_channel_L1] at h
     refine sw_seq (qG (q_movD R ?_))
     refine r_lss R R R R ?_ ?_
     ·intro c10
      replace h := ifP c10 h
      refine eN (sw_condT R (sw_skip (then_norm (sw_seq (sw_block (sw_seq (sw_dr (by kernel_rfl) (q_fa tb R (q_ldD (y := vI e3.word) tb R (q_fa tb R (q_ldD (y := vI e.word) tb R ?_)))))))))))
      refine r_eql R R R R ?_ ?_
      ·intro c11
       replace h := ifP c11 h
       refine q_movD R (q_movD R (q_fa tb R (q_ldD (y := vI e3.every) tb R ?_)))
       by_cases c12 : e3.every = 0
       ·cases (if_pos c12).symm.trans h
       replace h := ifN c12 h
       refine r_rem R R c12 R R (q_fa tb R (q_ldD (y := vI e3.phase) tb R ?_))
       refine r_eql R R R R ?_ ?_
       ·intro c13
        replace h := ifP c13 h
        refine q_pickT R (q_movD R (q_movD R (q_fa tb R (q_ldD (y := vI e.every) tb R (r_rem R R c6 R R (q_fa tb R (q_ldD (y := vI e.phase) tb R ?_)))))))
        refine r_eql R R R R ?_ ?_
        ·intro c14
         replace h := ifP c14 h
         refine q_pickT R (ev_endD (by kernel_rfl) (then_norm (sw_condT R (qG (q_asgD R (eN (sw_ret (block_ret (then_ret (then_ret (block_ret (block_ret (then_ret (then_ret (block_ret (then_ret ?_))))))))))))))))
         obtain rfl := sI h
         exact f1 4 R
        intro c14
        replace h := ifN c14 h
        refine q_pickT R (ev_endD (by kernel_rfl) (then_norm (sw_condF R (sw_skip (block_norm (then_norm (sw_rg (q_movD R (q_add R (q_asgD R (eN ?_)))))))))))
        exact ⟨m7, _, Nat.lt_succ_self _, .prn [1, 2, 4, 5, 7, 8, 9] R, (W (x2 + 1)), h, R⟩
       intro c13
       replace h := ifN c13 h
       refine q_pickT R (q_movD R (q_sk 7 R (q_pickF R (ev_endD (by kernel_rfl) (then_norm (sw_condF R (sw_skip (block_norm (then_norm (sw_rg (q_movD R (q_add R (q_asgD R (eN ?_))))))))))))))
       exact ⟨m7, _, Nat.lt_succ_self _, .prn [1, 2, 4, 5, 7, 8, 9] R, (W (x2 + 1)), h, R⟩
      intro c11
      replace h := ifN c11 h
      refine q_movD R (q_sk 7 R (q_pickF R (q_movD R (q_sk 7 R (q_pickF R (ev_endD (by kernel_rfl) (then_norm (sw_condF R (sw_skip (block_norm (then_norm (sw_rg (q_movD R (q_add R (q_asgD R (eN ?_))))))))))))))))
      exact ⟨m7, _, Nat.lt_succ_self _, .prn [1, 2, 4, 5, 7, 8, 9] R, (W (x2 + 1)), h, R⟩
     intro c10
     replace h := ifN (Int.not_lt.2 c10) h
     refine eN (sw_condF R (sw_exit (then_exit (then_exit ?_))))
     subst hK7
     refine block_exit (block_norm (then_norm (sw_rg (q_movD R (q_add R (q_asgD R (eN ?_)))))))
     exact ⟨m6, ⟨[(1, .d (vI o)), (2, .ref 0 4 0 0), (4, .d (vI 0)), (5, .ref 1 4 0 0), (7, .d (vI (W (x + 1))))], [some ⟨4, [.d (FrFormat.d t)]⟩, some ⟨4, [.d (FrChannel.d e)]⟩]⟩, Nat.lt_succ_self _, .vw (κ := [0, 1]) (vK (.cons R R (.cons R R .nil)) R), (W (x + 1)), h, R⟩
    intro c9
    replace h := ifN (Int.not_lt.2 c9) h
    refine eN (sw_condF R (sw_exit (then_exit (then_exit ?_))))
    subst hK6
    refine block_exit (then_norm (qG (q_asgD R (eN (sw_ret ?_)))))
    obtain rfl := sI h
    exact f1 4 R
   intro c8
   replace h := ifF c8 h
   refine r_notF R R R (q_pickF R (eN (sw_condT R (qG (q_asgD R (eN (sw_ret (then_ret ?_))))))))
   obtain rfl := sI h
   exact f1 4 R
  intro c4
  replace h := ifF c4 h
  refine r_notF R R R (q_movD R (q_sk 3 R (q_pickT R (q_movD R (q_sk 6 R (q_pickT R (q_movD R (q_sk 7 R (q_pickT R (eN (sw_condT R (qG (q_asgD R (eN (sw_ret (then_ret ?_))))))))))))))))
  obtain rfl := sI h
  exact f1 4 R
 intro c
 replace h := ifF c h
 refine r_notF R R R (eN (sw_condT R (qG (q_asgD R (eN (sw_ret (then_ret ?_)))))))
 obtain rfl := sI h
 exact f1 4 R
def r9_Check_L1 (F : Nat) (f : FrFormat) (K : Int → Option (Int × Int × Int)) : Nat → Int → Option (Int × Int × Int)
 | 0, _ => none
 | n + 1, i => if i < (f.channels.length : Int) then (Option.bind (r9_channel F f i) fun rv3 => if rv3 = 0 then (r9_Check_L1 F f K n (W (i + 1))) else (some (2, i, rv3))) else (K i)
def r9_Check_L2 (F : Nat) (f : FrFormat) (K : Int → Option (Int × Int × Int)) : Nat → Int → Option (Int × Int × Int)
 | 0, _ => none
 | n + 1, i2 => if i2 < (f.channels.length : Int) then (Option.bind (r9_channel F f i2) fun rv5 => if rv5 = 0 then (r9_Check_L2 F f K n (W (i2 + 1))) else (some (2, i2, rv5))) else (K i2)
def r9_Check_L3 (F : Nat) (f : FrFormat) (K : Int → Option (Int × Int × Int)) : Nat → Int → Option (Int × Int × Int)
 | 0, _ => none
 | n + 1, i3 => if i3 < (f.channels.length : Int) then (Option.bind (r9_channel F f i3) fun rv7 => if rv7 = 0 then (r9_Check_L3 F f K n (W (i3 + 1))) else (some (2, i3, rv7))) else (K i3)
def r9_Check_L4 (F : Nat) (f : FrFormat) (K : Int → Option (Int × Int × Int)) : Nat → Int → Option (Int × Int × Int)
 | 0, _ => none
 | n + 1, i4 => if i4 < (f.channels.length : Int) then (Option.bind (r9_channel F f i4) fun rv9 => if rv9 = 0 then (r9_Check_L4 F f K n (W (i4 + 1))) else (some (2, i4, rv9))) else (K i4)
def r9_Check_L5 (F : Nat) (f : FrFormat) (K : Int → Option (Int × Int × Int)) : Nat → Int → Option (Int × Int × Int)
 | 0, _ => none
 | n + 1, i5 => if i5 < (f.channels.length : Int) then (Option.bind (r9_channel F f i5) fun rv11 => if rv11 = 0 then (r9_Check_L5 F f K n (W (i5 + 1))) else (some (2, i5, rv11))) else (K i5)
def r9_Check (F : Nat) (f : FrFormat) : Option (Int × Int × Int) := Option.bind (r9_in F (f.sync.size : Int) 1 4) fun rv => if rv = true then (if 12 < (f.channels.length : Int) then (some (1, 0, 3)) else (if f.depth = 1 then (Option.bind (r9_in F f.words 1 32) fun rv2 => if rv2 = true then (r9_Check_L1 F f (fun (i : Int) => some (0, 0, 0)) F 0) else (some (1, 0, 7))) else (if f.depth = 2 then (Option.bind (r9_in F f.words 1 32) fun rv4 => if rv4 = true then (r9_Check_L2 F f (fun (i2 : Int) => some (0, 0, 0)) F 0) else (some (1, 0, 7))) else (if f.depth = 4 then (Option.bind (r9_in F f.words 1 32) fun rv6 => if rv6 = true then (r9_Check_L3 F f (fun (i3 : Int) => some (0, 0, 0)) F 0) else (some (1, 0, 7))) else (if f.depth = 8 then (Option.bind (r9_in F f.words 1 32) fun rv8 => if rv8 = true then (r9_Check_L4 F f (fun (i4 : Int) => some (0, 0, 0)) F 0) else (some (1, 0, 7))) else (if f.depth = 16 then (Option.bind (r9_in F f.words 1 32) fun rv10 => if rv10 = true then (r9_Check_L5 F f (fun (i5 : Int) => some (0, 0, 0)) F 0) else (some (1, 0, 7))) else (Option.bind (r9_in F f.words 1 32) fun rv12 => if rv12 = true then (some (1, 0, 7)) else (some (1, 0, 7))))))))) else (some (1, 0, 3))
theorem r9_Check_pc {F : Nat} {f : FrFormat} {r : (Int × Int × Int)} (h : r9_Check F f = some r) : PC Try.prog 39 [FrFormat.d f] (.tup [.v (.int .i64 r.1), .v (.int .i64 r.2.1), .v (.int .i64 r.2.2)]) := by
 rw [r9_Check] at h
 refine SC.of_sw Try.func39 R R R ?_
 dsimp only [argS, List.map]
 refine qG (q_box R (q_asgD R (q_asgD R (q_asgD R (eN (sw_seq (qG (q_fa tb R (q_ldD (y := .v (.string f.sync)) tb R (r_lenS R R R R ?_))))))))))
 obtain ⟨rv, hrv, h⟩ := bnd h
 refine r_callB (r9_in_pc hrv) (.of (by kernel_rfl)) R R R R ?_ ?_
 ·intro c
  replace h := ifP c h
  refine r_notT R R R (q_movD R (q_fa tb R (q_ldD (y := .arr 4 ((f.channels).map FrChannel.d)) tb R (q_lenM tb R ?_))))
  refine r_gtr R R R R ?_ ?_
  ·intro c2
   replace h := ifP c2 h
   refine q_pickF R (eN (sw_condT R (qG (q_asgD R (q_asgD R (q_asgD R (eN (sw_ret (then_ret ?_)))))))))
   obtain rfl := sI h
   exact fin_0 (t := .d (.tup [vI 1, vI 0, vI 3])) R R R (.cons (.tmp 2) (.cons (.tmp 3) (.cons (.tmp 4) .nil)))
  intro c2
  replace h := ifN (Int.not_lt.2 c2) h
  refine q_pickF R (eN (sw_condF R (sw_skip (then_norm (qG (q_fa tb R (q_ldD (y := vI f.depth) tb R ?_)))))))
  refine r_eql R R R R ?_ ?_
  ·intro c3
   replace h := ifP c3 h
   refine q_movD R (q_sk 3 R (q_pickT R (q_movD R (q_sk 3 R (q_pickT R (q_movD R (q_sk 3 R (q_pickT R (q_movD R (q_sk 3 R (q_pickT R (q_asgD R (eN (sw_seq (qG (q_fa tb R (q_ldD (y := vI f.words) tb R ?_)))))))))))))))))
   obtain ⟨rv2, hrv2, h⟩ := bnd h
   refine r_callB (r9_in_pc hrv2) (.of (by kernel_rfl)) R R R R ?_ ?_
   ·intro c4
    replace h := ifP c4 h
    refine r_notT R R R (q_movD R (q_movD R (r_notT R R R (q_pickF R (eN (sw_condF R (sw_skip (then_norm (sw_seq (qG (q_asgD R (eN (sw_block ?_)))))))))))))
    obtain ⟨K2, hK2, h⟩ : ∃ K, K = _ ∧ r9_Check_L1 F f K F 0 = some r := ⟨_, rfl, h⟩
    refine sw_loopS (fun m st => ∃ (i : Int), r9_Check_L1 F f K2 m i = some r ∧ st = ⟨[(1, .ref 0 4 0 0), (2, .d (vI 0)), (3, .d (vI 0)), (4, .d (vI 0)), (6, .d (vI i))], [some ⟨4, [.d (FrFormat.d f)]⟩]⟩) (.prn [1, 2, 3, 4, 6] R) ⟨0, h, R⟩ ?_
    clear h
    rintro m2 st ⟨i, h, rfl⟩
    cases m2 with
    | zero => cases (show (none : Option (Int × Int × Int)) = some r from h)
    | succ m2 =>
    rw [r9_Check_L1] at h
    refine sw_seq (qG (q_movD R (q_fa tb R (q_ldD (y := .arr 4 ((f.channels).map FrChannel.d)) tb R (q_lenM tb R ?_)))))
    refine r_lss R R R R ?_ ?_
    ·intro c5
     replace h := ifP c5 h
     refine eN (sw_condT R (sw_skip (then_norm (sw_seq (sw_block (qG (q_ldD (y := FrFormat.d f) tb R (q_movD R ?_))))))))
     obtain ⟨rv3, hrv3, h⟩ := bnd h
     refine r_call (r9_channel_pc hrv3) (.of (by kernel_rfl)) R R R R (q_asgD R (eN (qG (q_movD R ?_))))
     refine r_neq R R R R ?_ ?_
     ·intro c6
      replace h := ifN c6 h
      refine eN (sw_condT R (qG (q_movD R (q_movD R (q_asgD R (q_asgD R (q_asgD R (eN (sw_ret (block_ret (then_ret (then_ret (block_ret (then_ret ?_))))))))))))))
      obtain rfl := sI h
      exact fin_0 (t := .d (.tup [vI 2, vI i, vI rv3])) R R R (.cons (.tmp 2) (.cons (.tmp 3) (.cons (.tmp 4) .nil)))
     intro c6
     replace h := ifP c6 h
     refine eN (sw_condF R (sw_skip (block_norm (then_norm (sw_rg (q_movD R (q_add R (q_asgD R (eN ?_)))))))))
     exact ⟨m2, _, Nat.lt_succ_self _, .prn [1, 2, 3, 4, 6] R, (W (i + 1)), h, R⟩
    intro c5
    replace h := ifN (Int.not_lt.2 c5) h
    refine eN (sw_condF R (sw_exit (then_exit (then_exit ?_))))
    subst hK2
    refine block_exit (then_norm (qG (q_asgD R (q_asgD R (q_asgD R (eN (sw_ret ?_)))))))
    obtain rfl := sI h
    exact fin_0 (t := .d (.tup [vI 0, vI 0, vI 0])) R R R (.cons (.tmp 2) (.cons (.tmp 3) (.cons (.tmp 4) .nil)))
   intro c4
   replace h := ifF c4 h
   refine r_notF R R R (q_movD R (q_sk 2 R (q_pickT R (eN (sw_condT R (qG (q_asgD R (q_asgD R (q_asgD R (eN (sw_ret (then_ret ?_))))))))))))
   obtain rfl := sI h
   exact fin_0 (t := .d (.tup [vI 1, vI 0, vI 7])) R R R (.cons (.tmp 2) (.cons (.tmp 3) (.cons (.tmp 4) .nil)))
  intro c3
  replace h := ifN c3 h
  refine q_movD R (q_fa tb R (q_ldD (y := vI f.depth) tb R ?_))
  refine r_eql R R R R ?_ ?_
  ·intro c7
   replace h := ifP c7 h
   refine q_pickF R (q_movD R (q_sk 3 R (q_pickT R (q_movD R (q_sk 3 R (q_pickT R (q_movD R (q_sk 3 R (q_pickT R (q_asgD R (eN (sw_seq (qG (q_fa tb R (q_ldD (y := vI f.words) tb R ?_)))))))))))))))
   obtain ⟨rv4, hrv4, h⟩ := bnd h
   refine r_callB (r9_in_pc hrv4) (.of (by kernel_rfl)) R R R R ?_ ?_
   ·intro c8
    replace h := ifP c8 h
    refine r_notT R R R (q_movD R (q_movD R (r_notT R R R (q_pickF R (eN (sw_condF R (sw_skip (then_norm (sw_seq (qG (q_asgD R (eN (sw_block ?_)))))))))))))
    obtain ⟨K3, hK3, h⟩ : ∃ K, K = _ ∧ r9_Check_L2 F f K F 0 = some r := ⟨_, rfl, h⟩
    refine sw_loopS (fun m st => ∃ (i2 : Int), r9_Check_L2 F f K3 m i2 = some r ∧ st = ⟨[(1, .ref 0 4 0 0), (2, .d (vI 0)), (3, .d (vI 0)), (4, .d (vI 0)), (6, .d (vI i2))], [some ⟨4, [.d (FrFormat.d f)]⟩]⟩) (.prn [1, 2, 3, 4, 6] R) ⟨0, h, R⟩ ?_
    clear h
    rintro m3 st ⟨i2, h, rfl⟩
    cases m3 with
    | zero => cases (show (none : Option (Int × Int × Int)) = some r from h)
    | succ m3 =>
    rw [r9_Check_L2] at h
    refine sw_seq (qG (q_movD R (q_fa tb R (q_ldD (y := .arr 4 ((f.channels).map FrChannel.d)) tb R (q_lenM tb R ?_)))))
    refine r_lss R R R R ?_ ?_
    ·intro c9
     replace h := ifP c9 h
     refine eN (sw_condT R (sw_skip (then_norm (sw_seq (sw_block (qG (q_ldD (y := FrFormat.d f) tb R (q_movD R ?_))))))))
     obtain ⟨rv5, hrv5, h⟩ := bnd h
     refine r_call (r9_channel_pc hrv5) (.of (by kernel_rfl)) R R R R (q_asgD R (eN (qG (q_movD R ?_))))
     refine r_neq R R R R ?_ ?_
     ·intro c10
      replace h := ifN c10 h
      refine eN (sw_condT R (qG (q_movD R (q_movD R (q_asgD R (q_asgD R (q_asgD R (eN (sw_ret (block_ret (then_ret (then_ret (block_ret (then_ret ?_))))))))))))))
      obtain rfl := sI h
      exact fin_0 (t := .d (.tup [vI 2, vI i2, vI rv5])) R R R (.cons (.tmp 2) (.cons (.tmp 3) (.cons (.tmp 4) .nil)))
     intro c10
     replace h := ifP c10 h
     refine eN (sw_condF R (sw_skip (block_norm (then_norm (sw_rg (q_movD R (q_add R (q_asgD R (eN ?_)))))))))
     exact ⟨m3, _, Nat.lt_succ_self _, .prn [1, 2, 3, 4, 6] R, (W (i2 + 1)), h, R⟩
    intro c9
    replace h := ifN (Int.not_lt.2 c9) h
    refine eN (sw_condF R (sw_exit (then_exit (then_exit ?_))))
    subst hK3
    refine block_exit (then_norm (qG (q_asgD R (q_asgD R (q_asgD R (eN (sw_ret ?_)))))))
    obtain rfl := sI h
    exact fin_0 (t := .d (.tup [vI 0, vI 0, vI 0])) R R R (.cons (.tmp 2) (.cons (.tmp 3) (.cons (.tmp 4) .nil)))
   intro c8
   replace h := ifF c8 h
   refine r_notF R R R (q_movD R (q_sk 2 R (q_pickT R (eN (sw_condT R (qG (q_asgD R (q_asgD R (q_asgD R (eN (sw_ret (then_ret ?_))))))))))))
   obtain rfl := sI h
   exact fin_0 (t := .d (.tup [vI 1, vI 0, vI 7])) R R R (.cons (.tmp 2) (.cons (.tmp 3) (.cons (.tmp 4) .nil)))
  intro c7
  replace h := ifN c7 h
  refine q_pickF R (q_movD R (q_fa tb R (q_ldD (y := vI f.depth) tb R ?_)))
  refine r_eql R R R R ?_ ?_
  ·intro c11
   replace h := ifP c11 h
   refine q_pickF R (q_movD R (q_sk 3 R (q_pickT R (q_movD R (q_sk 3 R (q_pickT R (q_asgD R (eN (sw_seq (qG (q_fa tb R (q_ldD (y := vI f.words) tb R ?_))))))))))))
   obtain ⟨rv6, hrv6, h⟩ := bnd h
   refine r_callB (r9_in_pc hrv6) (.of (by kernel_rfl)) R R R R ?_ ?_
   ·intro c12
    replace h := ifP c12 h
    refine r_notT R R R (q_movD R (q_movD R (r_notT R R R (q_pickF R (eN (sw_condF R (sw_skip (then_norm (sw_seq (qG (q_asgD R (eN (sw_block ?_)))))))))))))
    obtain ⟨K4, hK4, h⟩ : ∃ K, K = _ ∧ r9_Check_L3 F f K F 0 = some r := ⟨_, rfl, h⟩
    refine sw_loopS (fun m st => ∃ (i3 : Int), r9_Check_L3 F f K4 m i3 = some r ∧ st = ⟨[(1, .ref 0 4 0 0), (2, .d (vI 0)), (3, .d (vI 0)), (4, .d (vI 0)), (6, .d (vI i3))], [some ⟨4, [.d (FrFormat.d f)]⟩]⟩) (.prn [1, 2, 3, 4, 6] R) ⟨0, h, R⟩ ?_
    clear h
    rintro m4 st ⟨i3, h, rfl⟩
    cases m4 with
    | zero => cases (show (none : Option (Int × Int × Int)) = some r from h)
    | succ m4 =>
    rw [r9_Check_L3] at h
    refine sw_seq (qG (q_movD R (q_fa tb R (q_ldD (y := .arr 4 ((f.channels).map FrChannel.d)) tb R (q_lenM tb R ?_)))))
    refine r_lss R R R R ?_ ?_
    ·intro c13
     replace h := ifP c13 h
     refine eN (sw_condT R (sw_skip (then_norm (sw_seq (sw_block (qG (q_ldD (y := FrFormat.d f) tb R (q_movD R ?_))))))))
     obtain ⟨rv7, hrv7, h⟩ := bnd h
     refine r_call (r9_channel_pc hrv7) (.of (by kernel_rfl)) R R R R (q_asgD R (eN (qG (q_movD R ?_))))
     refine r_neq R R R R ?_ ?_
     ·intro c14
      replace h := ifN c14 h
      refine eN (sw_condT R (qG (q_movD R (q_movD R (q_asgD R (q_asgD R (q_asgD R (eN (sw_ret (block_ret (then_ret (then_ret (block_ret (then_ret ?_))))))))))))))
      obtain rfl := sI h
      exact fin_0 (t := .d (.tup [vI 2, vI i3, vI rv7])) R R R (.cons (.tmp 2) (.cons (.tmp 3) (.cons (.tmp 4) .nil)))
     intro c14
     replace h := ifP c14 h
     refine eN (sw_condF R (sw_skip (block_norm (then_norm (sw_rg (q_movD R (q_add R (q_asgD R (eN ?_)))))))))
     exact ⟨m4, _, Nat.lt_succ_self _, .prn [1, 2, 3, 4, 6] R, (W (i3 + 1)), h, R⟩
    intro c13
    replace h := ifN (Int.not_lt.2 c13) h
    refine eN (sw_condF R (sw_exit (then_exit (then_exit ?_))))
    subst hK4
    refine block_exit (then_norm (qG (q_asgD R (q_asgD R (q_asgD R (eN (sw_ret ?_)))))))
    obtain rfl := sI h
    exact fin_0 (t := .d (.tup [vI 0, vI 0, vI 0])) R R R (.cons (.tmp 2) (.cons (.tmp 3) (.cons (.tmp 4) .nil)))
   intro c12
   replace h := ifF c12 h
   refine r_notF R R R (q_movD R (q_sk 2 R (q_pickT R (eN (sw_condT R (qG (q_asgD R (q_asgD R (q_asgD R (eN (sw_ret (then_ret ?_))))))))))))
   obtain rfl := sI h
   exact fin_0 (t := .d (.tup [vI 1, vI 0, vI 7])) R R R (.cons (.tmp 2) (.cons (.tmp 3) (.cons (.tmp 4) .nil)))
  intro c11
  replace h := ifN c11 h
  refine q_pickF R (q_movD R (q_fa tb R (q_ldD (y := vI f.depth) tb R ?_)))
  refine r_eql R R R R ?_ ?_
  ·intro c15
   replace h := ifP c15 h
   refine q_pickF R (q_movD R (q_sk 3 R (q_pickT R (q_asgD R (eN (sw_seq (qG (q_fa tb R (q_ldD (y := vI f.words) tb R ?_)))))))))
   obtain ⟨rv8, hrv8, h⟩ := bnd h
   refine r_callB (r9_in_pc hrv8) (.of (by kernel_rfl)) R R R R ?_ ?_
   ·intro c16
    replace h := ifP c16 h
    refine r_notT R R R (q_movD R (q_movD R (r_notT R R R (q_pickF R (eN (sw_condF R (sw_skip (then_norm (sw_seq (qG (q_asgD R (eN (sw_block ?_)))))))))))))
    obtain ⟨K5, hK5, h⟩ : ∃ K, K = _ ∧ r9_Check_L4 F f K F 0 = some r := ⟨_, rfl, h⟩
    refine sw_loopS (fun m st => ∃ (i4 : Int), r9_Check_L4 F f K5 m i4 = some r ∧ st = ⟨[(1, .ref 0 4 0 0), (2, .d (vI 0)), (3, .d (vI 0)), (4, .d (vI 0)), (6, .d (vI i4))], [some ⟨4, [.d (FrFormat.d f)]⟩]⟩) (.prn [1, 2, 3, 4, 6] R) ⟨0, h, R⟩ ?_
    clear h
    rintro m5 st ⟨i4, h, rfl⟩
    cases m5 with
    | zero => cases (show (none : Option (Int × Int × Int)) = some r from h)
    | succ m5 =>
    rw [r9_Check_L4] at h
    refine sw_seq (qG (q_movD R (q_fa tb R (q_ldD (y := .arr 4 ((f.channels).map FrChannel.d)) tb R (q_lenM tb R ?_)))))
    refine r_lss R R R R ?_ ?_
    ·intro c17
     replace h := ifP c17 h
     refine eN (sw_condT R (sw_skip (then_norm (sw_seq (sw_block (qG (q_ldD (y := FrFormat.d f) tb R (q_movD R ?_))))))))
     obtain ⟨rv9, hrv9, h⟩ := bnd h
     refine r_call (r9_channel_pc hrv9) (.of (by kernel_rfl)) R R R R (q_asgD R (eN (qG (q_movD R ?_))))
     refine r_neq R R R R ?_ ?_
     ·intro c18
      replace h := ifN c18 h
      refine eN (sw_condT R (qG (q_movD R (q_movD R (q_asgD R (q_asgD R (q_asgD R (eN (sw_ret (block_ret (then_ret (then_ret (block_ret (then_ret ?_))))))))))))))
      obtain rfl := sI h
      exact fin_0 (t := .d (.tup [vI 2, vI i4, vI rv9])) R R R (.cons (.tmp 2) (.cons (.tmp 3) (.cons (.tmp 4) .nil)))
     intro c18
     replace h := ifP c18 h
     refine eN (sw_condF R (sw_skip (block_norm (then_norm (sw_rg (q_movD R (q_add R (q_asgD R (eN ?_)))))))))
     exact ⟨m5, _, Nat.lt_succ_self _, .prn [1, 2, 3, 4, 6] R, (W (i4 + 1)), h, R⟩
    intro c17
    replace h := ifN (Int.not_lt.2 c17) h
    refine eN (sw_condF R (sw_exit (then_exit (then_exit ?_))))
    subst hK5
    refine block_exit (then_norm (qG (q_asgD R (q_asgD R (q_asgD R (eN (sw_ret ?_)))))))
    obtain rfl := sI h
    exact fin_0 (t := .d (.tup [vI 0, vI 0, vI 0])) R R R (.cons (.tmp 2) (.cons (.tmp 3) (.cons (.tmp 4) .nil)))
   intro c16
   replace h := ifF c16 h
   refine r_notF R R R (q_movD R (q_sk 2 R (q_pickT R (eN (sw_condT R (qG (q_asgD R (q_asgD R (q_asgD R (eN (sw_ret (then_ret ?_))))))))))))
   obtain rfl := sI h
   exact fin_0 (t := .d (.tup [vI 1, vI 0, vI 7])) R R R (.cons (.tmp 2) (.cons (.tmp 3) (.cons (.tmp 4) .nil)))
  intro c15
  replace h := ifN c15 h
  refine q_pickF R (q_movD R (q_fa tb R (q_ldD (y := vI f.depth) tb R ?_)))
  refine r_eql R R R R ?_ ?_
  ·intro c19
   replace h := ifP c19 h
   refine q_pickF R (q_asgD R (eN (sw_seq (qG (q_fa tb R (q_ldD (y := vI f.words) tb R ?_))))))
   obtain ⟨rv10, hrv10, h⟩ := bnd h
   refine r_callB (r9_in_pc hrv10) (.of (by kernel_rfl)) R R R R ?_ ?_
   ·intro c20
    replace h := ifP c20 h
    refine r_notT R R R (q_movD R (q_movD R (r_notT R R R (q_pickF R (eN (sw_condF R (sw_skip (then_norm (sw_seq (qG (q_asgD R (eN (sw_block ?_)))))))))))))
    obtain ⟨K6, hK6, h⟩ : ∃ K, K = _ ∧ r9_Check_L5 F f K F 0 = some r := ⟨_, rfl, h⟩
    refine sw_loopS (fun m st => ∃ (i5 : Int), r9_Check_L5 F f K6 m i5 = some r ∧ st = ⟨[(1, .ref 0 4 0 0), (2, .d (vI 0)), (3, .d (vI 0)), (4, .d (vI 0)), (6, .d (vI i5))], [some ⟨4, [.d (FrFormat.d f)]⟩]⟩) (.prn [1, 2, 3, 4, 6] R) ⟨0, h, R⟩ ?_
    clear h
    rintro m6 st ⟨i5, h, rfl⟩
    cases m6 with
    | zero => cases (show (none : Option (Int × Int × Int)) = some r from h)
    | succ m6 =>
    rw [r9_Check_L5] at h
    refine sw_seq (qG (q_movD R (q_fa tb R (q_ldD (y := .arr 4 ((f.channels).map FrChannel.d)) tb R (q_lenM tb R ?_)))))
    refine r_lss R R R R ?_ ?_
    ·intro c21
     replace h := ifP c21 h
     refine eN (sw_condT R (sw_skip (then_norm (sw_seq (sw_block (qG (q_ldD (y := FrFormat.d f) tb R (q_movD R ?_))))))))
     obtain ⟨rv11, hrv11, h⟩ := bnd h
     refine r_call (r9_channel_pc hrv11) (.of (by kernel_rfl)) R R R R (q_asgD R (eN (qG (q_movD R ?_))))
     refine r_neq R R R R ?_ ?_
     ·intro c22
      replace h := ifN c22 h
      refine eN (sw_condT R (qG (q_movD R (q_movD R (q_asgD R (q_asgD R (q_asgD R (eN (sw_ret (block_ret (then_ret (then_ret (block_ret (then_ret ?_))))))))))))))
      obtain rfl := sI h
      exact fin_0 (t := .d (.tup [vI 2, vI i5, vI rv11])) R R R (.cons (.tmp 2) (.cons (.tmp 3) (.cons (.tmp 4) .nil)))
     intro c22
     replace h := ifP c22 h
     refine eN (sw_condF R (sw_skip (block_norm (then_norm (sw_rg (q_movD R (q_add R (q_asgD R (eN ?_)))))))))
     exact ⟨m6, _, Nat.lt_succ_self _, .prn [1, 2, 3, 4, 6] R, (W (i5 + 1)), h, R⟩
    intro c21
    replace h := ifN (Int.not_lt.2 c21) h
    refine eN (sw_condF R (sw_exit (then_exit (then_exit ?_))))
    subst hK6
    refine block_exit (then_norm (qG (q_asgD R (q_asgD R (q_asgD R (eN (sw_ret ?_)))))))
    obtain rfl := sI h
    exact fin_0 (t := .d (.tup [vI 0, vI 0, vI 0])) R R R (.cons (.tmp 2) (.cons (.tmp 3) (.cons (.tmp 4) .nil)))
   intro c20
   replace h := ifF c20 h
   refine r_notF R R R (q_movD R (q_sk 2 R (q_pickT R (eN (sw_condT R (qG (q_asgD R (q_asgD R (q_asgD R (eN (sw_ret (then_ret ?_))))))))))))
   obtain rfl := sI h
   exact fin_0 (t := .d (.tup [vI 1, vI 0, vI 7])) R R R (.cons (.tmp 2) (.cons (.tmp 3) (.cons (.tmp 4) .nil)))
  intro c19
  replace h := ifN c19 h
  refine q_pickF R (q_asgD R (eN (sw_seq (qG (q_fa tb R (q_ldD (y := vI f.words) tb R ?_))))))
  obtain ⟨rv12, hrv12, h⟩ := bnd h
  refine r_callB (r9_in_pc hrv12) (.of (by kernel_rfl)) R R R R ?_ ?_
  ·intro c23
   replace h := ifP c23 h
   refine r_notT R R R (q_movD R (q_movD R (r_notF R R R (q_pickF R (eN (sw_condT R (qG (q_asgD R (q_asgD R (q_asgD R (eN (sw_ret (then_ret ?_)))))))))))))
   obtain rfl := sI h
   exact fin_0 (t := .d (.tup [vI 1, vI 0, vI 7])) R R R (.cons (.tmp 2) (.cons (.tmp 3) (.cons (.tmp 4) .nil)))
  intro c23
  replace h := ifF c23 h
  refine r_notF R R R (q_movD R (q_sk 2 R (q_pickT R (eN (sw_condT R (qG (q_asgD R (q_asgD R (q_asgD R (eN (sw_ret (then_ret ?_))))))))))))
  obtain rfl := sI h
  exact fin_0 (t := .d (.tup [vI 1, vI 0, vI 7])) R R R (.cons (.tmp 2) (.cons (.tmp 3) (.cons (.tmp 4) .nil)))
 intro c
 replace h := ifF c h
 refine r_notF R R R (q_movD R (q_sk 4 R (q_pickT R (eN (sw_condT R (qG (q_asgD R (q_asgD R (q_asgD R (eN (sw_ret (then_ret ?_))))))))))))
 obtain rfl := sI h
 exact fin_0 (t := .d (.tup [vI 1, vI 0, vI 3])) R R R (.cons (.tmp 2) (.cons (.tmp 3) (.cons (.tmp 4) .nil)))
def r9_valid (F : Nat) (f : FrFormat) : Option Int := Option.bind (r9_Check F f) fun rv => some rv.2.2
theorem r9_valid_pc {F : Nat} {f : FrFormat} {r : Int} (h : r9_valid F f = some r) : PC Try.prog 59 [FrFormat.d f] (.v (.int .i64 r)) := by
 rw [r9_valid] at h
 refine SC.of_sw Try.func59 R R R ?_
 dsimp only [argS, List.map]
 refine qG (q_box R (q_asgD R (eN (qG (q_ldD (y := FrFormat.d f) tb R ?_)))))
 obtain ⟨rv, hrv, h⟩ := bnd h
 refine r_call (r9_Check_pc hrv) (.of (by kernel_rfl)) R R R R (q_movD R (r_extD (t := vI rv.1) R R R R (r_extD (t := vI rv.2.1) R R R R (r_extD (t := vI rv.2.2) R R R R (q_asgD R (q_asgD R (q_asgD R (eN (qG (q_movD R (q_asgD R (eN (sw_ret ?_)))))))))))))
 obtain rfl := sI h
 exact f1 2 R
def r9_Sum_L1 (F : Nat)  (K : Int → Int → Option Int) : Nat → Int → Int → Option Int
 | 0, _, _ => none
 | n + 1, s2, k => if k < 8 then (if 32768 ≤ s2 then (r9_Sum_L1 F K n (ixor .i64 (Int.tmod (W (2 * s2)) 65536) 4129) (W (k + 1))) else (r9_Sum_L1 F K n (Int.tmod (W (2 * s2)) 65536) (W (k + 1)))) else (K s2 k)
def r9_Sum_L2 (F : Nat) (b : (List Int)) (K : Int → Int → Option Int) : Nat → Int → Int → Option Int
 | 0, _, _ => none
 | n + 1, s, i => if i < (b.length : Int) then (Option.bind (ixO b i) fun e => r9_Sum_L1 F (fun (s2 : Int) (k : Int) => r9_Sum_L2 F b K n s2 (W (i + 1))) F (ixor .i64 s (W ((W e) * 256))) 0) else (K s i)
def r9_Sum (F : Nat) (b : (List Int)) : Option Int := r9_Sum_L2 F b (fun (s : Int) (i : Int) => some s) F 65535 0
theorem r9_Sum_pc {F : Nat} {b : (List Int)} {r : Int} (h : r9_Sum F b = some r) : PC Try.prog 20 [.arr 1 ((b).map v8)] (.v (.int .i64 r)) := by
 rw [r9_Sum] at h
 refine SC.of_sw Try.func20 R R R ?_
 dsimp only [argS, List.map]
 refine qG (q_asgD R (eN (qG (q_asgD R (eN (sw_seq (qG (q_asgD R (eN (sw_block ?_))))))))))
 obtain ⟨K4, hK4, h⟩ : ∃ K, K = _ ∧ r9_Sum_L2 F b K F 65535 0 = some r := ⟨_, rfl, h⟩
 refine sw_loopS (fun m st => ∃ (s : Int) (i : Int), r9_Sum_L2 F b K4 m s i = some r ∧ st = ⟨[(0, .d (.arr 1 ((b).map v8))), (2, .d (vI 0)), (3, .d (vI s)), (4, .d (vI i))], []⟩) (.prn [0, 2, 3, 4] R) ⟨65535, 0, h, R⟩ ?_
 clear h
 rintro m4 st ⟨s, i, h, rfl⟩
 cases m4 with
 | zero => cases (show (none : Option Int) = some r from h)
 | succ m4 =>
 rw [r9_Sum_L2] at h
 refine sw_seq (qG (q_movD R (q_movD R (q_lenM tb R ?_))))
 refine r_lss R R R R ?_ ?_
 ·intro c
  replace h := ifP c h
  refine eN (sw_condT R (sw_skip (then_norm (sw_seq (sw_block (qG (q_movD R (q_movD R (q_movD R ?_)))))))))
  obtain ⟨e, ie, h⟩ := bnd h
  refine q_ixE tb (ix0 ie) (ix1m ie) R (q_ldE (y := .v (.int .u8 e)) tb (ix2 (g := v8) ie) R (r_cvI (k2 := .i64) R R R R R R (r_mul R R R R (r_xor R R R R (q_asgD R (eN (qG (q_asgD R (eN (sw_block ?_))))))))))
  obtain ⟨K5, hK5, h⟩ : ∃ K, K = _ ∧ r9_Sum_L1 F K F (ixor .i64 s (W ((W e) * 256))) 0 = some r := ⟨_, rfl, h⟩
  refine sw_loopS (fun m st => ∃ (s2 : Int) (k : Int), r9_Sum_L1 F K5 m s2 k = some r ∧ st = ⟨[(0, .d (.arr 1 ((b).map v8))), (2, .d (vI 0)), (3, .d (vI s2)), (4, .d (vI i)), (5, .d (vI k))], []⟩) (.prn [0, 2, 3, 4, 5] R) ⟨(ixor .i64 s (W ((W e) * 256))), 0, h, R⟩ ?_
  clear h
  rintro m5 st ⟨s2, k, h, rfl⟩
  cases m5 with
  | zero => cases (show (none : Option Int) = some r from h)
  | succ m5 =>
  rw [r9_Sum_L1] at h
  refine sw_seq (qG (q_movD R ?_))
  refine r_lss R R R R ?_ ?_
  ·intro c2
   replace h := ifP c2 h
   refine eN (sw_condT R (sw_skip (then_norm (sw_seq (sw_block (qG (q_movD R ?_)))))))
   refine r_geq R R R R ?_ ?_
   ·intro c3
    replace h := ifP c3 h
    refine q_asgD R (eN (qG (q_movD R (r_mul R R R R (r_rem R R (by decide) R R (q_asgD R (eN (qG (q_movD R (eN (sw_condT R (sw_rg (q_movD R (r_xor R R R R (q_asgD R (ev_end (block_norm (then_norm (sw_rg (q_movD R (q_add R (q_asgD R (eN ?_)))))))))))))))))))))))
    exact ⟨m5, _, Nat.lt_succ_self _, .prn [0, 2, 3, 4, 5] R, (ixor .i64 (Int.tmod (W (2 * s2)) 65536) 4129), (W (k + 1)), h, R⟩
   intro c3
   replace h := ifN (Int.not_le.2 c3) h
   refine q_asgD R (eN (qG (q_movD R (r_mul R R R R (r_rem R R (by decide) R R (q_asgD R (eN (qG (q_movD R (eN (sw_condF R (sw_skip (block_norm (then_norm (sw_rg (q_movD R (q_add R (q_asgD R (eN ?_)))))))))))))))))))
   exact ⟨m5, _, Nat.lt_succ_self _, .prn [0, 2, 3, 4, 5] R, (Int.tmod (W (2 * s2)) 65536), (W (k + 1)), h, R⟩
  intro c2
  replace h := ifN (Int.not_lt.2 c2) h
  refine eN (sw_condF R (sw_exit (then_exit (then_exit ?_))))
  subst hK5
  refine block_exit (block_norm (then_norm (sw_rg (q_movD R (q_add R (q_asgD R (eN ?_)))))))
  exact ⟨m4, _, Nat.lt_succ_self _, .prn [0, 2, 3, 4] R, s2, (W (i + 1)), h, R⟩
 intro c
 replace h := ifN (Int.not_lt.2 c) h
 refine eN (sw_condF R (sw_exit (then_exit (then_exit ?_))))
 subst hK4
 refine block_exit (then_norm (qG (q_movD R (q_asgD R (eN (sw_ret ?_))))))
 obtain rfl := sI h
 exact f1 2 R
def r9_frame_L1 (F : Nat) (words : (List Int)) (K : (List Int) → Int → Option (List Int)) : Nat → (List Int) → Int → Option (List Int)
 | 0, _, _ => none
 | n + 1, out, i => if i < (words.length : Int) then (Option.bind (ixO words i) fun e => Option.bind (appO out [(W8 (W (Int.tdiv e 256))), (W8 (Int.tmod e 256))]) fun q2 => r9_frame_L1 F words K n q2 (W (i + 1))) else (K out i)
def r9_frame (F : Nat) (f : FrFormat) (nv : Int) (words : (List Int)) : Option (List Int) := Option.bind (appO (bytesL f.sync) [(W8 (Int.tmod nv 256))]) fun q => r9_frame_L1 F words (fun (out : (List Int)) (i : Int) => Option.bind (r9_Sum F out) fun rv => Option.bind (appO out [(W8 (W (Int.tdiv rv 256))), (W8 (Int.tmod rv 256))]) fun q3 => some q3) F q 0
theorem r9_frame_scr {F : Nat} {f : FrFormat} {nv : Int} {words : (List Int)} {r : (List Int)} (h : r9_frame F f nv words = some r) : SCR Try.prog 65 (List.map T.d [FrFormat.d f, .v (.int .i64 nv), .arr 1 ((words).map vI)]) [] (.row 0 1 0 (r).length) (List.map some [(lv8 r)]) := by
 rw [r9_frame] at h
 refine SC.of_sw Try.func65 R R R ?_
 dsimp only [argS, List.map]
 refine qG (q_box R (q_asgD R (eN (qG (q_fa tb R (q_ldD (y := .v (.string f.sync)) tb R (r_bytesR R R R R R R R (q_movD R (r_rem R R (by decide) R R (r_cvI (k2 := .u8) R R R R R R (r_bslice tb R R R R R R R R R R R R R ?_)))))))))))
 obtain ⟨q, iq, h⟩ := bnd h
 refine r_apM (g := v8) (w := (bytesL f.sync)) (v := [(W8 (Int.tmod nv 256))]) ([some ⟨4, [.d (FrFormat.d f)]⟩, none, some (lv8 [(W8 (Int.tmod nv 256))])]) tb R R R R R R R R R R R iq R R R R R (r_asgW R R R (eN (sw_seq (qG (q_asgD R (eN (sw_block ?_)))))))
 obtain ⟨K1, hK1, h⟩ : ∃ K, K = _ ∧ r9_frame_L1 F words K F q 0 = some r := ⟨_, rfl, h⟩
 refine sw_loopS (st0 := ⟨[(2, .d (.arr 1 ((words).map vI))), (6, .d (.v (.slice none 0 0))), (7, .row 0 1 0 (q).length), (8, .d (vI 0))], [some (lv8 q)]⟩) (fun m st => ∃ (out : (List Int)) (i : Int), r9_frame_L1 F words K1 m out i = some r ∧ st = ⟨[(2, .d (.arr 1 ((words).map vI))), (6, .d (.v (.slice none 0 0))), (7, .row 0 1 0 (out).length), (8, .d (vI i))], [some (lv8 out)]⟩) (.vw (κ := [3]) (vK (.row R .nil) R)) ⟨q, 0, h, R⟩ ?_
 clear h
 rintro m1 st ⟨out, i, h, rfl⟩
 cases m1 with
 | zero => cases (show (none : Option (List Int)) = some r from h)
 | succ m1 =>
 rw [r9_frame_L1] at h
 refine sw_seq (qG (q_movD R (q_movD R (q_lenM tb R ?_))))
 refine r_lss R R R R ?_ ?_
 ·intro c
  replace h := ifP c h
  refine eN (sw_condT R (sw_skip (then_norm (sw_seq (sw_block (sw_dr (by kernel_rfl) (r_movW R R R (q_movD R (q_movD R ?_)))))))))
  obtain ⟨e, ie, h⟩ := bnd h
  refine q_ixE tb (ix0 ie) (ix1m ie) R (q_ldE (y := vI e) tb (ix2 (g := vI) ie) R (r_quo R R (by decide) R R (r_cvI (k2 := .u8) R R R R R R (q_movD R (q_movD R (q_ixE tb (ix0 ie) (ix1m ie) R (q_ldE (y := vI e) tb (ix2 (g := vI) ie) R (r_rem R R (by decide) R R (r_cvI (k2 := .u8) R R R R R R (r_bslice tb R R R R R R R R R R R R R ?_))))))))))
  obtain ⟨q2, iq2, h⟩ := bnd h
  refine r_apM (g := v8) (w := out) (v := [(W8 (W (Int.tdiv e 256))), (W8 (Int.tmod e 256))]) ([none, some (lv8 [(W8 (W (Int.tdiv e 256))), (W8 (Int.tmod e 256))])]) tb R R R R R R R R R R R iq2 R R R R R (r_asgW R R R (ev_endD (by kernel_rfl) (block_norm (then_norm (sw_rg (q_movD R (q_add R (q_asgD R (eN ?_)))))))))
  exact ⟨m1, ⟨[(2, .d (.arr 1 ((words).map vI))), (6, .d (.v (.slice none 0 0))), (7, .row 0 1 0 (q2).length), (8, .d (vI (W (i + 1))))], [some (lv8 q2)]⟩, Nat.lt_succ_self _, .vw (κ := [2]) (vK (.row R .nil) R), q2, (W (i + 1)), h, R⟩
 intro c
 replace h := ifN (Int.not_lt.2 c) h
 refine eN (sw_condF R (sw_exit (then_exit (then_exit ?_))))
 subst hK1
 refine block_exit (then_norm (qG (r_movW R R R ?_)))
 obtain ⟨rv, hrv, h⟩ := bnd h
 refine r_callL (r9_Sum_pc hrv) R (.of (by kernel_rfl)) R R ((.cons (.row R R) .nil)) R R (q_asgD R (eN (qG (r_movW R R R (q_movD R (r_quo R R (by decide) R R (r_cvI (k2 := .u8) R R R R R R (q_movD R (r_rem R R (by decide) R R (r_cvI (k2 := .u8) R R R R R R (r_bslice tb R R R R R R R R R R R R R ?_)))))))))))
 obtain ⟨q3, iq3, h⟩ := bnd h
 refine r_apM (g := v8) (w := out) (v := [(W8 (W (Int.tdiv rv 256))), (W8 (Int.tmod rv 256))]) ([none, some (lv8 [(W8 (W (Int.tdiv rv 256))), (W8 (Int.tmod rv 256))])]) tb R R R R R R R R R R R iq3 R R R R R (r_asgW R R R (eN (sw_ret ?_)))
 obtain rfl := sI h
 exact f2 [2] (.row R .nil) R (.cons (.tmp 6) .nil) R
theorem r9_frame_pc {F : Nat} {f : FrFormat} {nv : Int} {words : (List Int)} {r : (List Int)} (h : r9_frame F f nv words = some r) : PC Try.prog 65 [FrFormat.d f, .v (.int .i64 nv), .arr 1 ((words).map vI)] (.arr 1 ((r).map v8)) := (r9_frame_scr h).toPC (.row rfl rfl)
def r9_Length (F : Nat) (f : FrFormat) : Option Int := some (W ((W ((W ((f.sync.size : Int) + 1)) + (W (2 * f.words)))) + 2))
theorem r9_Length_pc {F : Nat} {f : FrFormat} {r : Int} (h : r9_Length F f = some r) : PC Try.prog 36 [FrFormat.d f] (.v (.int .i64 r)) := by
 rw [r9_Length] at h
 refine SC.of_sw Try.func36 R R R ?_
 dsimp only [argS, List.map]
 refine qG (q_box R (q_asgD R (eN (qG (q_fa tb R (q_ldD (y := .v (.string f.sync)) tb R (r_lenS R R R R (q_add R (q_fa tb R (q_ldD (y := vI f.words) tb R (r_mul R R R R (q_add R (q_add R (q_asgD R (eN (sw_ret ?_))))))))))))))))
 obtain rfl := sI h
 exact f1 2 R
def r9_found_L1 (F : Nat) (t : FrFormat) (o : (List Int)) (a : Int) (K : (List Int) → Int → Option (FrFrame × Bool)) : Nat → (List Int) → Int → Option (FrFrame × Bool)
 | 0, _, _ => none
 | n + 1, lv, x => if x < t.words then (Option.bind (ixO o (W ((W ((W (a + (t.sync.size : Int))) + 1)) + (W (2 * x))))) fun e2 => Option.bind (ixO o (W ((W ((W ((W (a + (t.sync.size : Int))) + 1)) + (W (2 * x)))) + 1))) fun e3 => Option.bind (appO lv [(W ((W (256 * (W e2))) + (W e3)))]) fun q => r9_found_L1 F t o a K n q (W (x + 1))) else (K lv x)
def r9_found (F : Nat) (t : FrFormat) (o : (List Int)) (a : Int) : Option (FrFrame × Bool) := Option.bind (r9_Length F t) fun rv => if (o.length : Int) < (W (a + rv)) then (some ((FrFrame.mk 0 0 ([] : List Int)), false)) else (Option.bind (ixO o (W (a + (t.sync.size : Int)))) fun e => r9_found_L1 F t o a (fun (lv : (List Int)) (x : Int) => Option.bind (r9_frame F t (W e) lv) fun rv2 => Option.bind (strO rv2) fun q2 => Option.bind (cutO o a (W (a + rv))) fun q3 => Option.bind (strO q3) fun q4 => if q2.toList = q4.toList then (some ((FrFrame.mk a (W e) lv), true)) else (some ((FrFrame.mk 0 0 ([] : List Int)), false))) F ([] : List Int) 0)
theorem r9_found_scr {F : Nat} {t : FrFormat} {o : (List Int)} {a : Int} {r : (FrFrame × Bool)} (h : r9_found F t o a = some r) : SCR Try.prog 73 (List.map T.d [FrFormat.d t, .arr 1 ((o).map v8), .v (.int .i64 a)]) [] (.tup [.agg [.d (.v (.int .i64 r.1.at_)), .d (.v (.int .i64 r.1.count)), .row 0 1 0 (r.1.words).length], .d (.v (.bool r.2))]) (List.map some [(lvI r.1.words)]) := by
 rw [r9_found] at h
 refine SC.of_sw Try.func73 R R R ?_
 dsimp only [argS, List.map]
 refine qG (q_box R (r_alloc tb R R R R R (q_asgD R (eN (qG (q_ldD (y := FrFormat.d t) tb R ?_))))))
 obtain ⟨rv, hrv, h⟩ := bnd h
 refine r_call (r9_Length_pc hrv) (.of (by kernel_rfl)) R R R R (q_asgD R (eN (sw_seq (qG (q_movD R (q_movD R (q_add R (q_movD R (q_lenM tb R ?_)))))))))
 refine r_gtr R R R R ?_ ?_
 ·intro c
  replace h := ifP c h
  refine eN (sw_condT R (qG (r_build (v := .d (.agg [vI 0, vI 0, .v (.slice none 0 0)])) tb R R (List.cons_ne_nil _ _) R R R R R R (q_stE _ _ tb R (q_asgD R (eN ?_))))))
  refine SW.own (ts' := [(6, .ref 1 3 0 0), (7, .d (.v (.bool false)))]) (L' := [some ⟨4, [.d (FrFormat.d t)]⟩, some ⟨3, [.agg [.d (vI 0), .d (vI 0), .row 2 1 0 (([] : List Int)).length]]⟩]) 1 R R (.cons (.same _) (.cons (.same _) .nil)) (.same (.cons R (.cons (.aggDL (.cons (.same _) (.cons (.same _) (.cons .nil .nil)))) .nil) .nil)) ?_
  simp only [List.cons_append, List.nil_append]
  refine sw_ret (then_ret ?_)
  obtain rfl := sI h
  exact f2 [2] (.row R .nil) R (.cons (rc tb R) (.cons (.tmp 7) .nil)) R
 intro c
 replace h := ifN (Int.not_lt.2 c) h
 refine eN (sw_condF R (sw_skip (then_norm (qG (q_movD R (q_movD R (q_movD R (q_fa tb R (q_ldD (y := .v (.string t.sync)) tb R (r_lenS R R R R (q_add R ?_)))))))))))
 obtain ⟨e, ie, h⟩ := bnd h
 refine q_ixE tb (ix0 ie) (ix1m ie) R (q_ldE (y := .v (.int .u8 e)) tb (ix2 (g := v8) ie) R (r_cvI (k2 := .i64) R R R R R R (r_build (v := .d (.agg [vI a, vI (W e), .v (.slice none 0 0)])) tb R R (List.cons_ne_nil _ _) R R R R R R (r_alloc tb R R R R R (q_stE _ _ tb R (eN (sw_seq (qG (q_asgD R (eN (sw_block ?_)))))))))))
 refine SW.own (ts' := [(1, .d (.arr 1 ((o).map v8))), (2, .d (vI a)), (3, .ref 0 4 0 0), (6, .ref 1 3 0 0), (7, .d (.v (.bool false))), (8, .d (vI rv)), (9, .ref 2 3 0 0), (10, .d (vI 0))]) (L' := [some ⟨4, [.d (FrFormat.d t)]⟩, some ⟨3, [.d (.agg [vI 0, vI 0, .v (.slice none 0 0)])]⟩, some ⟨3, [.agg [.d (vI a), .d (vI (W e)), .row 3 1 0 (([] : List Int)).length]]⟩]) 1 R R (.cons (.same _) (.cons (.same _) (.cons (.same _) (.cons (.same _) (.cons (.same _) (.cons (.same _) (.cons (.same _) (.cons (.same _) .nil)))))))) (.same (.same (.cons R (.cons (.aggDL (.cons (.same _) (.cons (.same _) (.cons .nil .nil)))) .nil) .nil))) ?_
 simp only [List.cons_append, List.nil_append]
 obtain ⟨K1, hK1, h⟩ : ∃ K, K = _ ∧ r9_found_L1 F t o a K F ([] : List Int) 0 = some r := ⟨_, rfl, h⟩
 refine sw_loopS (fun m st => ∃ (lv : (List Int)) (x : Int), r9_found_L1 F t o a K1 m lv x = some r ∧ st = ⟨[(1, .d (.arr 1 ((o).map v8))), (2, .d (vI a)), (3, .ref 0 4 0 0), (6, .ref 1 3 0 0), (7, .d (.v (.bool false))), (8, .d (vI rv)), (9, .ref 2 3 0 0), (10, .d (vI x))], [some ⟨4, [.d (FrFormat.d t)]⟩, some ⟨3, [.d (.agg [vI 0, vI 0, .v (.slice none 0 0)])]⟩, some ⟨3, [.agg [.d (vI a), .d (vI (W e)), .row 3 1 0 (lv).length]]⟩, some (lvI lv)]⟩) (.prn [1, 2, 3, 6, 7, 8, 9, 10] R) ⟨([] : List Int), 0, h, R⟩ ?_
 clear h
 rintro m1 st ⟨lv, x, h, rfl⟩
 cases m1 with
 | zero => cases (show (none : Option (FrFrame × Bool)) = some r from h)
 | succ m1 =>
 rw [r9_found_L1] at h
 refine sw_seq (qG (q_movD R (q_fa tb R (q_ldD (y := vI t.words) tb R ?_))))
 refine r_lss R R R R ?_ ?_
 ·intro c2
  replace h := ifP c2 h
  refine eN (sw_condT R (sw_skip (then_norm (sw_seq (sw_block (qG (q_movD R (q_fa tb R (q_ldD (y := .v (.string t.sync)) tb R (r_lenS R R R R (q_add R (q_add R (q_movD R (r_mul R R R R (q_add R (q_asgD R (eN (sw_dr (by kernel_rfl) (q_fa tb R (r_ldW tb R R R R R R R R R (q_movD R (q_movD R ?_))))))))))))))))))))))
  obtain ⟨e2, ie2, h⟩ := bnd h
  refine q_ixE tb (ix0 ie2) (ix1m ie2) R (q_ldE (y := .v (.int .u8 e2)) tb (ix2 (g := v8) ie2) R (r_cvI (k2 := .i64) R R R R R R (r_mul R R R R (q_movD R (q_movD R (q_add R ?_))))))
  obtain ⟨e3, ie3, h⟩ := bnd h
  refine q_ixE tb (ix0 ie3) (ix1m ie3) R (q_ldE (y := .v (.int .u8 e3)) tb (ix2 (g := v8) ie3) R (r_cvI (k2 := .i64) R R R R R R (q_add R (r_bslice tb R R R R R R R R R R R R R ?_))))
  obtain ⟨q, iq, h⟩ := bnd h
  refine r_apM (g := vI) (w := lv) (v := [(W ((W (256 * (W e2))) + (W e3)))]) ([some ⟨4, [.d (FrFormat.d t)]⟩, some ⟨3, [.d (.agg [vI 0, vI 0, .v (.slice none 0 0)])]⟩, some ⟨3, [.agg [.d (vI a), .d (vI (W e)), .row 3 1 0 (lv).length]]⟩, none, some (lvI [(W ((W (256 * (W e2))) + (W e3)))])]) tb R R R R R R R R R R R iq R R R R R (q_fa tb R (q_stE _ _ tb R (ev_endD (by kernel_rfl) (block_norm (then_norm (sw_rg (q_movD R (q_add R (q_asgD R (eN ?_))))))))))
  exact ⟨m1, ⟨[(1, .d (.arr 1 ((o).map v8))), (2, .d (vI a)), (3, .ref 0 4 0 0), (6, .ref 1 3 0 0), (7, .d (.v (.bool false))), (8, .d (vI rv)), (9, .ref 2 3 0 0), (10, .d (vI (W (x + 1))))], [some ⟨4, [.d (FrFormat.d t)]⟩, some ⟨3, [.d (.agg [vI 0, vI 0, .v (.slice none 0 0)])]⟩, some ⟨3, [.agg [.d (vI a), .d (vI (W e)), .row 3 1 0 (q).length]]⟩, some (lvI q)]⟩, Nat.lt_succ_self _, .vw (κ := [0, 1, 2, 5]) (vK (.cons R R (.cons R R (.cons R R (.row R .nil)))) R), q, (W (x + 1)), h, R⟩
 intro c2
 replace h := ifN (Int.not_lt.2 c2) h
 refine eN (sw_condF R (sw_exit (then_exit (then_exit ?_))))
 subst hK1
 refine block_exit (then_norm (sw_seq (sw_seq (sw_dr (by kernel_rfl) (q_ldD (y := FrFormat.d t) tb R (q_fa tb R (q_ldD (y := vI (W e)) tb R (q_fa tb R (r_ldW tb R R R R R R R R R ?_)))))))))
 obtain ⟨rv2, hrv2, h⟩ := bnd h
 refine r_callLN (t' := .row 4 1 0 (rv2).length) (news' := [(lv8 rv2)]) (r9_frame_scr hrv2) R ((.row (fun _ => rfl) .nil)) (.of (by kernel_rfl)) R R ((.cons (.d _) (.cons (.d _) (.cons (.row R R) .nil)))) R ((.row .nil)) R R R ?_
 obtain ⟨q2, iq2, h⟩ := bnd h
 refine r_strR (ns := rv2) R R R R R R iq2 R R (q_movD R (q_movD R (q_movD R (q_movD R (q_add R ?_)))))
 obtain ⟨q3, iq3, h⟩ := bnd h
 refine r_sliceLH tb R R R R R R R iq3 R R ?_
 obtain ⟨q4, iq4, h⟩ := bnd h
 refine r_strD R R R R iq4 R R ?_
 refine r_strneq R R R R ?_ ?_
 ·intro c3
  replace h := ifN c3 h
  refine ev_endD (by kernel_rfl) (then_norm (sw_condT R (qG (r_build (v := .d (.agg [vI 0, vI 0, .v (.slice none 0 0)])) tb R R (List.cons_ne_nil _ _) R R R R R R (q_stE _ _ tb R (q_asgD R (eN ?_)))))))
  refine SW.own (ts' := [(6, .ref 1 3 0 0), (7, .d (.v (.bool false)))]) (L' := [some ⟨4, [.d (FrFormat.d t)]⟩, some ⟨3, [.agg [.d (vI 0), .d (vI 0), .row 5 1 0 (([] : List Int)).length]]⟩, some ⟨3, [.agg [.d (vI a), .d (vI (W e)), .row 3 1 0 (lv).length]]⟩, some (lvI lv), some (lv8 rv2)]) 1 R R (.cons (.same _) (.cons (.same _) .nil)) (.same (.cons R (.cons (.aggDL (.cons (.same _) (.cons (.same _) (.cons .nil .nil)))) .nil) (.same (.same (.same .nil))))) ?_
  simp only [List.cons_append, List.nil_append]
  refine sw_ret (then_ret ?_)
  obtain rfl := sI h
  exact f2 [5] (.row R .nil) R (.cons (rc tb R) (.cons (.tmp 7) .nil)) R
 intro c3
 replace h := ifP c3 h
 refine ev_endD (by kernel_rfl) (then_norm (sw_condF R (sw_skip (then_norm (qG (r_ldG tb R R R R R R R R R (q_stE _ _ tb R (q_asgD R (eN (sw_ret ?_))))))))))
 obtain rfl := sI h
 exact f2 [3] (.row R .nil) R (.cons (rc tb R) (.cons (.tmp 7) .nil)) R
theorem r9_found_pc {F : Nat} {t : FrFormat} {o : (List Int)} {a : Int} {r : (FrFrame × Bool)} (h : r9_found F t o a = some r) : PC Try.prog 73 [FrFormat.d t, .arr 1 ((o).map v8), .v (.int .i64 a)] (.tup [FrFrame.d r.1, .v (.bool r.2)]) := (r9_found_scr h).toPC (.tupL (.cons (.aggL (.cons (.d _) (.cons (.d _) (.cons (.row rfl rfl) .nil)))) (.cons (.d _) .nil)))
def r9_Decode_L1 (F : Nat) (t : FrFormat) (o : (List Int)) (K : (List FrFrame) → (List FrGap) → Int → Option ((List FrFrame) × (List FrGap) × Int)) : Nat → (List FrFrame) → (List FrGap) → Int → Option ((List FrFrame) × (List FrGap) × Int)
 | 0, _, _, _ => none
 | n + 1, lv, lv2, x => if x < (o.length : Int) then (Option.bind (r9_found F t o x) fun rv2 => if rv2.2 = true then (Option.bind (appO lv [rv2.1]) fun q => Option.bind (r9_Length F t) fun rv3 => r9_Decode_L1 F t o K n q lv2 (W (x + rv3))) else (if 0 < (lv2.length : Int) then (Option.bind (ixO lv2 (W ((lv2.length : Int) - 1))) fun e => if e.until_ = x then (Option.bind (setO lv2 (W ((lv2.length : Int) - 1)) (FrGap.mk e.from_ (W (x + 1)))) fun lv3 => r9_Decode_L1 F t o K n lv lv3 (W (x + 1))) else (Option.bind (appO lv2 [(FrGap.mk x (W (x + 1)))]) fun q2 => r9_Decode_L1 F t o K n lv q2 (W (x + 1)))) else (Option.bind (appO lv2 [(FrGap.mk x (W (x + 1)))]) fun q3 => r9_Decode_L1 F t o K n lv q3 (W (x + 1))))) else (K lv lv2 x)
def r9_Decode_L2 (F : Nat) (t : FrFormat) (o : (List Int)) (K : (List FrFrame) → (List FrGap) → Int → Option ((List FrFrame) × (List FrGap) × Int)) : Nat → (List FrFrame) → (List FrGap) → Int → Option ((List FrFrame) × (List FrGap) × Int)
 | 0, _, _, _ => none
 | n + 1, lv4, lv5, x2 => if x2 < (o.length : Int) then (Option.bind (r9_found F t o x2) fun rv4 => if rv4.2 = true then (Option.bind (appO lv4 [rv4.1]) fun q4 => Option.bind (r9_Length F t) fun rv5 => r9_Decode_L2 F t o K n q4 lv5 (W (x2 + rv5))) else (if 0 < (lv5.length : Int) then (Option.bind (ixO lv5 (W ((lv5.length : Int) - 1))) fun e2 => if e2.until_ = x2 then (Option.bind (setO lv5 (W ((lv5.length : Int) - 1)) (FrGap.mk e2.from_ (W (x2 + 1)))) fun lv6 => r9_Decode_L2 F t o K n lv4 lv6 (W (x2 + 1))) else (Option.bind (appO lv5 [(FrGap.mk x2 (W (x2 + 1)))]) fun q5 => r9_Decode_L2 F t o K n lv4 q5 (W (x2 + 1)))) else (Option.bind (appO lv5 [(FrGap.mk x2 (W (x2 + 1)))]) fun q6 => r9_Decode_L2 F t o K n lv4 q6 (W (x2 + 1))))) else (K lv4 lv5 x2)
def r9_Decode (F : Nat) (t : FrFormat) (o : (List Int)) : Option ((List FrFrame) × (List FrGap) × Int) := Option.bind (r9_valid F t) fun rv => if rv = 0 then (if 4000 < (o.length : Int) then (some (([] : List FrFrame), ([] : List FrGap), 3)) else (if rv = 0 then (r9_Decode_L1 F t o (fun (lv : (List FrFrame)) (lv2 : (List FrGap)) (x : Int) => some (lv, lv2, 0)) F ([] : List FrFrame) ([] : List FrGap) 0) else (some (([] : List FrFrame), ([] : List FrGap), rv)))) else (if rv = 0 then (r9_Decode_L2 F t o (fun (lv4 : (List FrFrame)) (lv5 : (List FrGap)) (x2 : Int) => some (lv4, lv5, 0)) F ([] : List FrFrame) ([] : List FrGap) 0) else (some (([] : List FrFrame), ([] : List FrGap), rv)))
theorem r9_Decode_scr {F : Nat} {t : FrFormat} {o : (List Int)} {r : ((List FrFrame) × (List FrGap) × Int)} (h : r9_Decode F t o = some r) : SCR Try.prog 32 (List.map T.d [FrFormat.d t, .arr 1 ((o).map v8)]) [] (.tup [.row 0 3 0 (r.1).length, .row 1 2 0 (r.2.1).length, .d (.v (.int .i64 r.2.2))]) (List.map some [(lFrFramed r.1), (lFrGapd r.2.1)]) := by
 rw [r9_Decode] at h
 refine SC.of_sw Try.func32 R R R ?_
 dsimp only [argS, List.map]
 refine qG (q_box R (q_asgD R (q_asgD R (q_asgD R (eN (qG (q_ldD (y := FrFormat.d t) tb R ?_)))))))
 obtain ⟨rv, hrv, h⟩ := bnd h
 refine r_call (r9_valid_pc hrv) (.of (by kernel_rfl)) R R R R (q_asgD R (eN (sw_seq (qG (q_movD R ?_)))))
 refine r_eql R R R R ?_ ?_
 ·intro c
  replace h := ifP c h
  refine q_movD R (q_movD R (q_lenM tb R ?_))
  refine r_gtr R R R R ?_ ?_
  ·intro c2
   replace h := ifP c2 h
   refine q_pickT R (eN (sw_condT R (sw_rg (q_asgD R (eN (sw_seq (qG (q_movD R ?_))))))))
   refine r_neq R R R R ?_ ?_
   rotate_left
   ·intro c3; exact absurd c3 (by decide)
   intro _
   refine eN (sw_condT R (qG (q_movD R (q_asgD R (q_asgD R (q_asgD R (eN ?_)))))))
   refine SW.own (ts' := [(4, .row 1 3 0 (([] : List FrFrame)).length), (5, .d (.v (.slice none 0 0))), (6, .d (vI 3))]) (L' := [some ⟨4, [.d (FrFormat.d t)]⟩]) 3 R R (.cons .nil (.cons (.same _) (.cons (.same _) .nil))) (.same .nil) ?_
   simp only [List.cons_append, List.nil_append]
   refine SW.own (ts' := [(4, .row 1 3 0 (([] : List FrFrame)).length), (5, .row 2 2 0 (([] : List FrGap)).length), (6, .d (vI 3))]) (L' := [some ⟨4, [.d (FrFormat.d t)]⟩, some (lFrFramed ([] : List FrFrame))]) 2 R R (.cons (.same _) (.cons .nil (.cons (.same _) .nil))) (.same (.same .nil)) ?_
   simp only [List.cons_append, List.nil_append]
   refine sw_ret (then_ret ?_)
   obtain rfl := sI h
   exact f2 [1, 2] (.row R (.row R .nil)) R (.cons (.tmp 4) (.cons (.tmp 5) (.cons (.tmp 6) .nil))) R
  intro c2
  replace h := ifN (Int.not_lt.2 c2) h
  refine q_pickT R (eN (sw_condF R (sw_skip (then_norm (sw_seq (qG (q_movD R ?_)))))))
  refine r_neq R R R R ?_ ?_
  ·intro c4
   replace h := ifN c4 h
   refine eN (sw_condT R (qG (q_movD R (q_asgD R (q_asgD R (q_asgD R (eN ?_)))))))
   refine SW.own (ts' := [(4, .row 1 3 0 (([] : List FrFrame)).length), (5, .d (.v (.slice none 0 0))), (6, .d (vI rv))]) (L' := [some ⟨4, [.d (FrFormat.d t)]⟩]) 3 R R (.cons .nil (.cons (.same _) (.cons (.same _) .nil))) (.same .nil) ?_
   simp only [List.cons_append, List.nil_append]
   refine SW.own (ts' := [(4, .row 1 3 0 (([] : List FrFrame)).length), (5, .row 2 2 0 (([] : List FrGap)).length), (6, .d (vI rv))]) (L' := [some ⟨4, [.d (FrFormat.d t)]⟩, some (lFrFramed ([] : List FrFrame))]) 2 R R (.cons (.same _) (.cons .nil (.cons (.same _) .nil))) (.same (.same .nil)) ?_
   simp only [List.cons_append, List.nil_append]
   refine sw_ret (then_ret ?_)
   obtain rfl := sI h
   exact f2 [1, 2] (.row R (.row R .nil)) R (.cons (.tmp 4) (.cons (.tmp 5) (.cons (.tmp 6) .nil))) R
  intro c4
  replace h := ifP c4 h
  refine eN (sw_condF R (sw_skip (then_norm (qG (q_asgD R (eN (qG (q_asgD R (eN (sw_seq (qG (q_asgD R (eN (sw_block ?_))))))))))))))
  refine SW.own (ts' := [(1, .d (.arr 1 ((o).map v8))), (2, .ref 0 4 0 0), (4, .d (.v (.slice none 0 0))), (5, .d (.v (.slice none 0 0))), (6, .d (vI 0)), (8, .row 1 3 0 (([] : List FrFrame)).length), (9, .d (.v (.slice none 0 0))), (10, .d (vI 0))]) (L' := [some ⟨4, [.d (FrFormat.d t)]⟩]) 3 R R (.cons (.same _) (.cons (.same _) (.cons (.same _) (.cons (.same _) (.cons (.same _) (.cons .nil (.cons (.same _) (.cons (.same _) .nil)))))))) (.same .nil) ?_
  simp only [List.cons_append, List.nil_append]
  refine SW.own (ts' := [(1, .d (.arr 1 ((o).map v8))), (2, .ref 0 4 0 0), (4, .d (.v (.slice none 0 0))), (5, .d (.v (.slice none 0 0))), (6, .d (vI 0)), (8, .row 1 3 0 (([] : List FrFrame)).length), (9, .row 2 2 0 (([] : List FrGap)).length), (10, .d (vI 0))]) (L' := [some ⟨4, [.d (FrFormat.d t)]⟩, some (lFrFramed ([] : List FrFrame))]) 2 R R (.cons (.same _) (.cons (.same _) (.cons (.same _) (.cons (.same _) (.cons (.same _) (.cons (.same _) (.cons .nil (.cons (.same _) .nil)))))))) (.same (.same .nil)) ?_
  simp only [List.cons_append, List.nil_append]
  obtain ⟨K1, hK1, h⟩ : ∃ K, K = _ ∧ r9_Decode_L1 F t o K F ([] : List FrFrame) ([] : List FrGap) 0 = some r := ⟨_, rfl, h⟩
  refine sw_loopS (fun m st => ∃ (lv : (List FrFrame)) (lv2 : (List FrGap)) (x : Int), r9_Decode_L1 F t o K1 m lv lv2 x = some r ∧ st = ⟨[(1, .d (.arr 1 ((o).map v8))), (2, .ref 0 4 0 0), (4, .d (.v (.slice none 0 0))), (5, .d (.v (.slice none 0 0))), (6, .d (vI 0)), (8, .row 1 3 0 (lv).length), (9, .row 2 2 0 (lv2).length), (10, .d (vI x))], [some ⟨4, [.d (FrFormat.d t)]⟩, some (lFrFramed lv), some (lFrGapd lv2)]⟩) (.prn [1, 2, 4, 5, 6, 8, 9, 10] R) ⟨([] : List FrFrame), ([] : List FrGap), 0, h, R⟩ ?_
  clear h
  rintro m1 st ⟨lv, lv2, x, h, rfl⟩
  cases m1 with
  | zero => cases (show (none : Option ((List FrFrame) × (List FrGap) × Int)) = some r from h)
  | succ m1 =>
  rw [r9_Decode_L1] at h
  refine sw_seq (qG (q_movD R (q_movD R (q_lenM tb R ?_))))
  refine r_lss R R R R ?_ ?_
  ·intro c5
   replace h := ifP c5 h
   refine eN (sw_condT R (sw_skip (then_norm (sw_block (qG (q_ldD (y := FrFormat.d t) tb R (q_movD R (q_movD R ?_))))))))
   obtain ⟨rv2, hrv2, h⟩ := bnd h
   refine r_callN (t' := .tup [.agg [.d (vI rv2.1.at_), .d (vI rv2.1.count), .row 3 1 0 (rv2.1.words).length], .d (.v (.bool rv2.2))]) (news' := [(lvI rv2.1.words)]) (r9_found_scr hrv2) (.of (by kernel_rfl)) R R R ((.row .nil)) R R R (r_movT (.tup [.agg [.d (vI rv2.1.at_), .d (vI rv2.1.count), .row 3 1 0 (rv2.1.words).length], .d (.v (.bool rv2.2))]) R R R (r_ext (t := .agg [.d (vI rv2.1.at_), .d (vI rv2.1.count), .row 3 1 0 (rv2.1.words).length]) R R R R ?_))
   refine r_ext (t := .d (.v (.bool rv2.2))) R R R R ?_
   with_reducible apply ev_lit
   ·intro c6
    replace h := ifP c6 h
    refine r_alloc tb R R R R R (q_stE _ _ tb R (q_asgD R (eN (sw_seq (qG (q_movD R (eN (sw_condT R (sw_seq ?_)))))))))
    refine SW.fz (ts' := [(1, .d (.arr 1 ((o).map v8))), (2, .ref 0 4 0 0), (4, .d (.v (.slice none 0 0))), (5, .d (.v (.slice none 0 0))), (6, .d (vI 0)), (8, .row 1 3 0 (lv).length), (9, .row 2 2 0 (lv2).length), (10, .d (vI x)), (11, .ref 4 3 0 0), (12, .d (.v (.bool true))), (25, .d (vI x)), (26, .d (.arr 1 ((o).map v8))), (27, .d (vI (o.length : Int))), (28, .d (.v (.bool true))), (30, .d (FrFormat.d t)), (31, .d (.arr 1 ((o).map v8))), (32, .d (vI x)), (34, .d (FrFrame.d rv2.1)), (35, .d (.v (.bool true))), (36, .d (.v (.bool true)))]) (L' := [some ⟨4, [.d (FrFormat.d t)]⟩, some (lFrFramed lv), some (lFrGapd lv2), none, some ⟨3, [.d (FrFrame.d rv2.1)]⟩]) (w := rv2.1.words) (f := vI) 3 1 R (.cons (.same _) (.cons (.same _) (.cons (.same _) (.cons (.same _) (.cons (.same _) (.cons (.same _) (.cons (.same _) (.cons (.same _) (.cons (.same _) (.cons (.same _) (.cons (.same _) (.cons (.same _) (.cons (.same _) (.cons (.same _) (.cons (.same _) (.cons (.same _) (.cons (.same _) (.cons (.aggDL (.cons (.same _) (.cons (.same _) (.cons (.all (List.length_map _)) .nil)))) (.cons (.same _) (.cons (.same _) .nil)))))))))))))))))))) (.same (.same (.same (.same (.cons R (.cons (.aggDL (.cons (.same _) (.cons (.same _) (.cons (.all (List.length_map _)) .nil)))) .nil) .nil))))) ?_
    refine sw_rg (r_movW R R R (q_ldD (y := FrFrame.d rv2.1) tb R (r_bslice tb R R R R R R R R R R R R R ?_)))
    obtain ⟨q, iq, h⟩ := bnd h
    refine r_apM (g := FrFrame.d) (w := lv) (v := [rv2.1]) ([some ⟨4, [.d (FrFormat.d t)]⟩, none, some (lFrGapd lv2), none, some ⟨3, [.d (FrFrame.d rv2.1)]⟩, some (lFrFramed [rv2.1])]) tb R R R R R R R R R R R iq R R R R R (r_asgW R R R (eN (qG (q_movD R (q_ldD (y := FrFormat.d t) tb R ?_)))))
    obtain ⟨rv3, hrv3, h⟩ := bnd h
    refine r_call (r9_Length_pc hrv3) (.of (by kernel_rfl)) R R R R (q_add R (q_asgD R (eN (sw_exit (then_exit (block_exit (then_norm ?_)))))))
    exact ⟨m1, ⟨[(1, .d (.arr 1 ((o).map v8))), (2, .ref 0 4 0 0), (4, .d (.v (.slice none 0 0))), (5, .d (.v (.slice none 0 0))), (6, .d (vI 0)), (8, .row 1 3 0 (q).length), (9, .row 2 2 0 (lv2).length), (10, .d (vI (W (x + rv3))))], [some ⟨4, [.d (FrFormat.d t)]⟩, some (lFrFramed q), some (lFrGapd lv2)]⟩, Nat.lt_succ_self _, .vw (κ := [0, 6, 2]) (vK (.cons R R (.row R (.row R .nil))) R), q, lv2, (W (x + rv3)), h, R⟩
   intro c6
   replace h := ifF c6 h
   refine r_alloc tb R R R R R (q_stE _ _ tb R (q_asgD R (eN (sw_seq (qG (q_movD R (eN (sw_condF R (sw_skip (then_norm (sw_seq (qG (r_movW R R R (r_lenR tb R R R R R ?_))))))))))))))
   refine r_gtr R R R R ?_ ?_
   ·intro c7
    replace h := ifP c7 h
    refine q_movD R (r_movW R R R (r_movW R R R (r_lenR tb R R R R R (r_sub R R R R ?_))))
    obtain ⟨e, ie, h⟩ := bnd h
    refine r_ixI tb R R R R R R (ix0 ie) (ix1 ie) R R (q_fa tb R ?_)
    refine r_ldD (y := vI e.until_) tb R R R R (ix2 (g := fun a => T.d (FrGap.d a)) ie) R R R R ?_
    refine q_movD R ?_
    refine r_eql R R R R ?_ ?_
    ·intro c8
     replace h := ifP c8 h
     refine q_pickT R (eN (sw_condT R (sw_rg (r_movW R R R (r_movW R R R (r_lenR tb R R R R R (r_sub R R R R (q_movD R (q_add R (r_ixI tb R R R R R R (ix0 ie) (ix1 ie) R R (q_fa tb R ?_)))))))))))
     obtain ⟨lv3, ilv3, h⟩ := bnd h
     refine r_stQ (a' := ((FrGap.mk e.from_ (W (x + 1))) : FrGap)) tb R R R R ie R R R R ilv3 R R ?_
     dsimp only [List.set_cons_zero, List.set_cons_succ]
     first | rw [set_len ilv3] | skip
     refine eN (sw_rg (q_movD R (q_add R (q_asgD R (ev_end (block_norm (then_norm ?_)))))))
     exact ⟨m1, ⟨[(1, .d (.arr 1 ((o).map v8))), (2, .ref 0 4 0 0), (4, .d (.v (.slice none 0 0))), (5, .d (.v (.slice none 0 0))), (6, .d (vI 0)), (8, .row 1 3 0 (lv).length), (9, .row 2 2 0 (lv3).length), (10, .d (vI (W (x + 1))))], [some ⟨4, [.d (FrFormat.d t)]⟩, some (lFrFramed lv), some (lFrGapd lv3)]⟩, Nat.lt_succ_self _, .vw (κ := [0, 1, 2]) (vK (.cons R R (.row R (.row R .nil))) R), lv, lv3, (W (x + 1)), h, R⟩
    intro c8
    replace h := ifN c8 h
    refine q_pickT R (eN (sw_condF R (sw_rg (r_movW R R R (q_movD R (q_movD R (q_add R (r_build (v := .d (.agg [vI x, vI (W (x + 1))])) tb R R (List.cons_ne_nil _ _) R R R R R R (r_bslice tb R R R R R R R R R R R R R ?_)))))))))
    obtain ⟨q2, iq2, h⟩ := bnd h
    refine r_apM (g := FrGap.d) (w := lv2) (v := [(FrGap.mk x (W (x + 1)))]) ([some ⟨4, [.d (FrFormat.d t)]⟩, some (lFrFramed lv), none, some (lvI rv2.1.words), some ⟨3, [.agg [.d (vI rv2.1.at_), .d (vI rv2.1.count), .row 3 1 0 (rv2.1.words).length]]⟩, some (lFrGapd [(FrGap.mk x (W (x + 1)))])]) tb R R R R R R R R R R R iq2 R R R R R (r_asgW R R R (eN (sw_rg (q_movD R (q_add R (q_asgD R (ev_end (block_norm (then_norm ?_)))))))))
    exact ⟨m1, ⟨[(1, .d (.arr 1 ((o).map v8))), (2, .ref 0 4 0 0), (4, .d (.v (.slice none 0 0))), (5, .d (.v (.slice none 0 0))), (6, .d (vI 0)), (8, .row 1 3 0 (lv).length), (9, .row 2 2 0 (q2).length), (10, .d (vI (W (x + 1))))], [some ⟨4, [.d (FrFormat.d t)]⟩, some (lFrFramed lv), some (lFrGapd q2)]⟩, Nat.lt_succ_self _, .vw (κ := [0, 1, 6]) (vK (.cons R R (.row R (.row R .nil))) R), lv, q2, (W (x + 1)), h, R⟩
   intro c7
   replace h := ifN (Int.not_lt.2 c7) h
   refine q_movD R (q_sk 9 R (q_pickF R (eN (sw_condF R (sw_rg (r_movW R R R (q_movD R (q_movD R (q_add R (r_build (v := .d (.agg [vI x, vI (W (x + 1))])) tb R R (List.cons_ne_nil _ _) R R R R R R (r_bslice tb R R R R R R R R R R R R R ?_)))))))))))
   obtain ⟨q3, iq3, h⟩ := bnd h
   refine r_apM (g := FrGap.d) (w := lv2) (v := [(FrGap.mk x (W (x + 1)))]) ([some ⟨4, [.d (FrFormat.d t)]⟩, some (lFrFramed lv), none, some (lvI rv2.1.words), some ⟨3, [.agg [.d (vI rv2.1.at_), .d (vI rv2.1.count), .row 3 1 0 (rv2.1.words).length]]⟩, some (lFrGapd [(FrGap.mk x (W (x + 1)))])]) tb R R R R R R R R R R R iq3 R R R R R (r_asgW R R R (eN (sw_rg (q_movD R (q_add R (q_asgD R (ev_end (block_norm (then_norm ?_)))))))))
   exact ⟨m1, ⟨[(1, .d (.arr 1 ((o).map v8))), (2, .ref 0 4 0 0), (4, .d (.v (.slice none 0 0))), (5, .d (.v (.slice none 0 0))), (6, .d (vI 0)), (8, .row 1 3 0 (lv).length), (9, .row 2 2 0 (q3).length), (10, .d (vI (W (x + 1))))], [some ⟨4, [.d (FrFormat.d t)]⟩, some (lFrFramed lv), some (lFrGapd q3)]⟩, Nat.lt_succ_self _, .vw (κ := [0, 1, 6]) (vK (.cons R R (.row R (.row R .nil))) R), lv, q3, (W (x + 1)), h, R⟩
  intro c5
  replace h := ifN (Int.not_lt.2 c5) h
  refine eN (sw_condF R (sw_exit (then_exit (then_exit ?_))))
  subst hK1
  refine block_exit (then_norm (qG (r_movW R R R (r_movW R R R (r_asgW R R R (r_asgW R R R (q_asgD R (eN (sw_ret ?_)))))))))
  obtain rfl := sI h
  exact f2 [1, 2] (.row R (.row R .nil)) R (.cons (.tmp 4) (.cons (.tmp 5) (.cons (.tmp 6) .nil))) R
 intro c
 replace h := ifN c h
 refine q_movD R (q_sk 3 R (q_pickF R (eN (sw_condF R (sw_skip (then_norm (sw_seq (qG (q_movD R ?_)))))))))
 refine r_neq R R R R ?_ ?_
 ·intro c9
  replace h := ifN c9 h
  refine eN (sw_condT R (qG (q_movD R (q_asgD R (q_asgD R (q_asgD R (eN ?_)))))))
  refine SW.own (ts' := [(4, .row 1 3 0 (([] : List FrFrame)).length), (5, .d (.v (.slice none 0 0))), (6, .d (vI rv))]) (L' := [some ⟨4, [.d (FrFormat.d t)]⟩]) 3 R R (.cons .nil (.cons (.same _) (.cons (.same _) .nil))) (.same .nil) ?_
  simp only [List.cons_append, List.nil_append]
  refine SW.own (ts' := [(4, .row 1 3 0 (([] : List FrFrame)).length), (5, .row 2 2 0 (([] : List FrGap)).length), (6, .d (vI rv))]) (L' := [some ⟨4, [.d (FrFormat.d t)]⟩, some (lFrFramed ([] : List FrFrame))]) 2 R R (.cons (.same _) (.cons .nil (.cons (.same _) .nil))) (.same (.same .nil)) ?_
  simp only [List.cons_append, List.nil_append]
  refine sw_ret (then_ret ?_)
  obtain rfl := sI h
  exact f2 [1, 2] (.row R (.row R .nil)) R (.cons (.tmp 4) (.cons (.tmp 5) (.cons (.tmp 6) .nil))) R
 intro c9
 replace h := ifP c9 h
 refine eN (sw_condF R (sw_skip (then_norm (qG (q_asgD R (eN (qG (q_asgD R (eN (sw_seq (qG (q_asgD R (eN (sw_block ?_))))))))))))))
 refine SW.own (ts' := [(1, .d (.arr 1 ((o).map v8))), (2, .ref 0 4 0 0), (4, .d (.v (.slice none 0 0))), (5, .d (.v (.slice none 0 0))), (6, .d (vI 0)), (8, .row 1 3 0 (([] : List FrFrame)).length), (9, .d (.v (.slice none 0 0))), (10, .d (vI 0))]) (L' := [some ⟨4, [.d (FrFormat.d t)]⟩]) 3 R R (.cons (.same _) (.cons (.same _) (.cons (.same _) (.cons (.same _) (.cons (.same _) (.cons .nil (.cons (.same _) (.cons (.same _) .nil)))))))) (.same .nil) ?_
 simp only [List.cons_append, List.nil_append]
 refine SW.own (ts' := [(1, .d (.arr 1 ((o).map v8))), (2, .ref 0 4 0 0), (4, .d (.v (.slice none 0 0))), (5, .d (.v (.slice none 0 0))), (6, .d (vI 0)), (8, .row 1 3 0 (([] : List FrFrame)).length), (9, .row 2 2 0 (([] : List FrGap)).length), (10, .d (vI 0))]) (L' := [some ⟨4, [.d (FrFormat.d t)]⟩, some (lFrFramed ([] : List FrFrame))]) 2 R R (.cons (.same _) (.cons (.same _) (.cons (.same _) (.cons (.same _) (.cons (.same _) (.cons (.same _) (.cons .nil (.cons (.same _) .nil)))))))) (.same (.same .nil)) ?_
 simp only [List.cons_append, List.nil_append]
 obtain ⟨K2, hK2, h⟩ : ∃ K, K = _ ∧ r9_Decode_L2 F t o K F ([] : List FrFrame) ([] : List FrGap) 0 = some r := ⟨_, rfl, h⟩
 refine sw_loopS (fun m st => ∃ (lv4 : (List FrFrame)) (lv5 : (List FrGap)) (x2 : Int), r9_Decode_L2 F t o K2 m lv4 lv5 x2 = some r ∧ st = ⟨[(1, .d (.arr 1 ((o).map v8))), (2, .ref 0 4 0 0), (4, .d (.v (.slice none 0 0))), (5, .d (.v (.slice none 0 0))), (6, .d (vI 0)), (8, .row 1 3 0 (lv4).length), (9, .row 2 2 0 (lv5).length), (10, .d (vI x2))], [some ⟨4, [.d (FrFormat.d t)]⟩, some (lFrFramed lv4), some (lFrGapd lv5)]⟩) (.prn [1, 2, 4, 5, 6, 8, 9, 10] R) ⟨([] : List FrFrame), ([] : List FrGap), 0, h, R⟩ ?_
 clear h
 rintro m2 st ⟨lv4, lv5, x2, h, rfl⟩
 cases m2 with
 | zero => cases (show (none : Option ((List FrFrame) × (List FrGap) × Int)) = some r from h)
 | succ m2 =>
 rw [r9_Decode_L2] at h
 refine sw_seq (qG (q_movD R (q_movD R (q_lenM tb R ?_))))
 refine r_lss R R R R ?_ ?_
 ·intro c10
  replace h := ifP c10 h
  refine eN (sw_condT R (sw_skip (then_norm (sw_block (qG (q_ldD (y := FrFormat.d t) tb R (q_movD R (q_movD R ?_))))))))
  obtain ⟨rv4, hrv4, h⟩ := bnd h
  refine r_callN (t' := .tup [.agg [.d (vI rv4.1.at_), .d (vI rv4.1.count), .row 3 1 0 (rv4.1.words).length], .d (.v (.bool rv4.2))]) (news' := [(lvI rv4.1.words)]) (r9_found_scr hrv4) (.of (by kernel_rfl)) R R R ((.row .nil)) R R R (r_movT (.tup [.agg [.d (vI rv4.1.at_), .d (vI rv4.1.count), .row 3 1 0 (rv4.1.words).length], .d (.v (.bool rv4.2))]) R R R (r_ext (t := .agg [.d (vI rv4.1.at_), .d (vI rv4.1.count), .row 3 1 0 (rv4.1.words).length]) R R R R ?_))
  refine r_ext (t := .d (.v (.bool rv4.2))) R R R R ?_
  with_reducible apply ev_lit
  ·intro c11
   replace h := ifP c11 h
   refine r_alloc tb R R R R R (q_stE _ _ tb R (q_asgD R (eN (sw_seq (qG (q_movD R (eN (sw_condT R (sw_seq ?_)))))))))
   refine SW.fz (ts' := [(1, .d (.arr 1 ((o).map v8))), (2, .ref 0 4 0 0), (4, .d (.v (.slice none 0 0))), (5, .d (.v (.slice none 0 0))), (6, .d (vI 0)), (8, .row 1 3 0 (lv4).length), (9, .row 2 2 0 (lv5).length), (10, .d (vI x2)), (11, .ref 4 3 0 0), (12, .d (.v (.bool true))), (25, .d (vI x2)), (26, .d (.arr 1 ((o).map v8))), (27, .d (vI (o.length : Int))), (28, .d (.v (.bool true))), (30, .d (FrFormat.d t)), (31, .d (.arr 1 ((o).map v8))), (32, .d (vI x2)), (34, .d (FrFrame.d rv4.1)), (35, .d (.v (.bool true))), (36, .d (.v (.bool true)))]) (L' := [some ⟨4, [.d (FrFormat.d t)]⟩, some (lFrFramed lv4), some (lFrGapd lv5), none, some ⟨3, [.d (FrFrame.d rv4.1)]⟩]) (w := rv4.1.words) (f := vI) 3 1 R (.cons (.same _) (.cons (.same _) (.cons (.same _) (.cons (.same _) (.cons (.same _) (.cons (.same _) (.cons (.same _) (.cons (.same _) (.cons (.same _) (.cons (.same _) (.cons (.same _) (.cons (.same _) (.cons (.same _) (.cons (.same _) (.cons (.same _) (.cons (.same _) (.cons (.same _) (.cons (.aggDL (.cons (.same _) (.cons (.same _) (.cons (.all (List.length_map _)) .nil)))) (.cons (.same _) (.cons (.same _) .nil)))))))))))))))))))) (.same (.same (.same (.same (.cons R (.cons (.aggDL (.cons (.same _) (.cons (.same _) (.cons (.all (List.length_map _)) .nil)))) .nil) .nil))))) ?_
   refine sw_rg (r_movW R R R (q_ldD (y := FrFrame.d rv4.1) tb R (r_bslice tb R R R R R R R R R R R R R ?_)))
   obtain ⟨q4, iq4, h⟩ := bnd h
   refine r_apM (g := FrFrame.d) (w := lv4) (v := [rv4.1]) ([some ⟨4, [.d (FrFormat.d t)]⟩, none, some (lFrGapd lv5), none, some ⟨3, [.d (FrFrame.d rv4.1)]⟩, some (lFrFramed [rv4.1])]) tb R R R R R R R R R R R iq4 R R R R R (r_asgW R R R (eN (qG (q_movD R (q_ldD (y := FrFormat.d t) tb R ?_)))))
   obtain ⟨rv5, hrv5, h⟩ := bnd h
   refine r_call (r9_Length_pc hrv5) (.of (by kernel_rfl)) R R R R (q_add R (q_asgD R (eN (sw_exit (then_exit (block_exit (then_norm ?_)))))))
   exact ⟨m2, ⟨[(1, .d (.arr 1 ((o).map v8))), (2, .ref 0 4 0 0), (4, .d (.v (.slice none 0 0))), (5, .d (.v (.slice none 0 0))), (6, .d (vI 0)), (8, .row 1 3 0 (q4).length), (9, .row 2 2 0 (lv5).length), (10, .d (vI (W (x2 + rv5))))], [some ⟨4, [.d (FrFormat.d t)]⟩, some (lFrFramed q4), some (lFrGapd lv5)]⟩, Nat.lt_succ_self _, .vw (κ := [0, 6, 2]) (vK (.cons R R (.row R (.row R .nil))) R), q4, lv5, (W (x2 + rv5)), h, R⟩
  intro c11
  replace h := ifF c11 h
  refine r_alloc tb R R R R R (q_stE _ _ tb R (q_asgD R (eN (sw_seq (qG (q_movD R (eN (sw_condF R (sw_skip (then_norm (sw_seq (qG (r_movW R R R (r_lenR tb R R R R R ?_))))))))))))))
  refine r_gtr R R R R ?_ ?_
  ·intro c12
   replace h := ifP c12 h
   refine q_movD R (r_movW R R R (r_movW R R R (r_lenR tb R R R R R (r_sub R R R R ?_))))
   obtain ⟨e2, ie2, h⟩ := bnd h
   refine r_ixI tb R R R R R R (ix0 ie2) (ix1 ie2) R R (q_fa tb R ?_)
   refine r_ldD (y := vI e2.until_) tb R R R R (ix2 (g := fun a => T.d (FrGap.d a)) ie2) R R R R ?_
   refine q_movD R ?_
   refine r_eql R R R R ?_ ?_
   ·intro c13
    replace h := ifP c13 h
    refine q_pickT R (eN (sw_condT R (sw_rg (r_movW R R R (r_movW R R R (r_lenR tb R R R R R (r_sub R R R R (q_movD R (q_add R (r_ixI tb R R R R R R (ix0 ie2) (ix1 ie2) R R (q_fa tb R ?_)))))))))))
    obtain ⟨lv6, ilv6, h⟩ := bnd h
    refine r_stQ (a' := ((FrGap.mk e2.from_ (W (x2 + 1))) : FrGap)) tb R R R R ie2 R R R R ilv6 R R ?_
    dsimp only [List.set_cons_zero, List.set_cons_succ]
    first | rw [set_len ilv6] | skip
    refine eN (sw_rg (q_movD R (q_add R (q_asgD R (ev_end (block_norm (then_norm ?_)))))))
    exact ⟨m2, ⟨[(1, .d (.arr 1 ((o).map v8))), (2, .ref 0 4 0 0), (4, .d (.v (.slice none 0 0))), (5, .d (.v (.slice none 0 0))), (6, .d (vI 0)), (8, .row 1 3 0 (lv4).length), (9, .row 2 2 0 (lv6).length), (10, .d (vI (W (x2 + 1))))], [some ⟨4, [.d (FrFormat.d t)]⟩, some (lFrFramed lv4), some (lFrGapd lv6)]⟩, Nat.lt_succ_self _, .vw (κ := [0, 1, 2]) (vK (.cons R R (.row R (.row R .nil))) R), lv4, lv6, (W (x2 + 1)), h, R⟩
   intro c13
   replace h := ifN c13 h
   refine q_pickT R (eN (sw_condF R (sw_rg (r_movW R R R (q_movD R (q_movD R (q_add R (r_build (v := .d (.agg [vI x2, vI (W (x2 + 1))])) tb R R (List.cons_ne_nil _ _) R R R R R R (r_bslice tb R R R R R R R R R R R R R ?_)))))))))
   obtain ⟨q5, iq5, h⟩ := bnd h
   refine r_apM (g := FrGap.d) (w := lv5) (v := [(FrGap.mk x2 (W (x2 + 1)))]) ([some ⟨4, [.d (FrFormat.d t)]⟩, some (lFrFramed lv4), none, some (lvI rv4.1.words), some ⟨3, [.agg [.d (vI rv4.1.at_), .d (vI rv4.1.count), .row 3 1 0 (rv4.1.words).length]]⟩, some (lFrGapd [(FrGap.mk x2 (W (x2 + 1)))])]) tb R R R R R R R R R R R iq5 R R R R R (r_asgW R R R (eN (sw_rg (q_movD R (q_add R (q_asgD R (ev_end (block_norm (then_norm ?_)))))))))
   exact ⟨m2, ⟨[(1, .d (.arr 1 ((o).map v8))), (2, .ref 0 4 0 0), (4, .d (.v (.slice none 0 0))), (5, .d (.v (.slice none 0 0))), (6, .d (vI 0)), (8, .row 1 3 0 (lv4).length), (9, .row 2 2 0 (q5).length), (10, .d (vI (W (x2 + 1))))], [some ⟨4, [.d (FrFormat.d t)]⟩, some (lFrFramed lv4), some (lFrGapd q5)]⟩, Nat.lt_succ_self _, .vw (κ := [0, 1, 6]) (vK (.cons R R (.row R (.row R .nil))) R), lv4, q5, (W (x2 + 1)), h, R⟩
  intro c12
  replace h := ifN (Int.not_lt.2 c12) h
  refine q_movD R (q_sk 9 R (q_pickF R (eN (sw_condF R (sw_rg (r_movW R R R (q_movD R (q_movD R (q_add R (r_build (v := .d (.agg [vI x2, vI (W (x2 + 1))])) tb R R (List.cons_ne_nil _ _) R R R R R R (r_bslice tb R R R R R R R R R R R R R ?_)))))))))))
  obtain ⟨q6, iq6, h⟩ := bnd h
  refine r_apM (g := FrGap.d) (w := lv5) (v := [(FrGap.mk x2 (W (x2 + 1)))]) ([some ⟨4, [.d (FrFormat.d t)]⟩, some (lFrFramed lv4), none, some (lvI rv4.1.words), some ⟨3, [.agg [.d (vI rv4.1.at_), .d (vI rv4.1.count), .row 3 1 0 (rv4.1.words).length]]⟩, some (lFrGapd [(FrGap.mk x2 (W (x2 + 1)))])]) tb R R R R R R R R R R R iq6 R R R R R (r_asgW R R R (eN (sw_rg (q_movD R (q_add R (q_asgD R (ev_end (block_norm (then_norm ?_)))))))))
  exact ⟨m2, ⟨[(1, .d (.arr 1 ((o).map v8))), (2, .ref 0 4 0 0), (4, .d (.v (.slice none 0 0))), (5, .d (.v (.slice none 0 0))), (6, .d (vI 0)), (8, .row 1 3 0 (lv4).length), (9, .row 2 2 0 (q6).length), (10, .d (vI (W (x2 + 1))))], [some ⟨4, [.d (FrFormat.d t)]⟩, some (lFrFramed lv4), some (lFrGapd q6)]⟩, Nat.lt_succ_self _, .vw (κ := [0, 1, 6]) (vK (.cons R R (.row R (.row R .nil))) R), lv4, q6, (W (x2 + 1)), h, R⟩
 intro c10
 replace h := ifN (Int.not_lt.2 c10) h
 refine eN (sw_condF R (sw_exit (then_exit (then_exit ?_))))
 subst hK2
 refine block_exit (then_norm (qG (r_movW R R R (r_movW R R R (r_asgW R R R (r_asgW R R R (q_asgD R (eN (sw_ret ?_)))))))))
 obtain rfl := sI h
 exact f2 [1, 2] (.row R (.row R .nil)) R (.cons (.tmp 4) (.cons (.tmp 5) (.cons (.tmp 6) .nil))) R
theorem r9_Decode_pc {F : Nat} {t : FrFormat} {o : (List Int)} {r : ((List FrFrame) × (List FrGap) × Int)} (h : r9_Decode F t o = some r) : PC Try.prog 32 [FrFormat.d t, .arr 1 ((o).map v8)] (.tup [.arr 3 ((r.1).map FrFrame.d), .arr 2 ((r.2.1).map FrGap.d), .v (.int .i64 r.2.2)]) := (r9_Decode_scr h).toPC (.tupL (.cons (.row rfl rfl) (.cons (.row rfl rfl) (.cons (.d _) .nil))))
def r9_read_L1 (F : Nat) (rv : ((List FrFrame) × (List FrGap) × Int)) (i : Int) (K : Int → Option ((List FrFrame) × (List Int) × Int)) : Nat → Int → Option ((List FrFrame) × (List Int) × Int)
 | 0, _ => none
 | n + 1, nv2 => Option.bind (ixO rv.1 i) fun e => if (Int.tmod nv2 256) = e.count then (K nv2) else (r9_read_L1 F rv i K n (W (nv2 + 1)))
def r9_read_L2 (F : Nat) (rv : ((List FrFrame) × (List FrGap) × Int)) (K : (List Int) → Int → Int → Option ((List FrFrame) × (List Int) × Int)) : Nat → (List Int) → Int → Int → Option ((List FrFrame) × (List Int) × Int)
 | 0, _, _, _ => none
 | n + 1, out, nv, i => if i < (rv.1.length : Int) then (r9_read_L1 F rv i (fun (nv2 : Int) => Option.bind (r9_number F nv2) fun rv3 => if rv3 = true then (Option.bind (appO out [nv2]) fun q => r9_read_L2 F rv K n q (W (nv2 + 1)) (W (i + 1))) else (some (([] : List FrFrame), ([] : List Int), 7))) F nv) else (K out nv i)
def r9_read_L3 (F : Nat) (rv : ((List FrFrame) × (List FrGap) × Int)) (i2 : Int) (K : Int → Option ((List FrFrame) × (List Int) × Int)) : Nat → Int → Option ((List FrFrame) × (List Int) × Int)
 | 0, _ => none
 | n + 1, nv4 => Option.bind (ixO rv.1 i2) fun e2 => if (Int.tmod nv4 256) = e2.count then (K nv4) else (r9_read_L3 F rv i2 K n (W (nv4 + 1)))
def r9_read_L4 (F : Nat) (rv : ((List FrFrame) × (List FrGap) × Int)) (K : (List Int) → Int → Int → Option ((List FrFrame) × (List Int) × Int)) : Nat → (List Int) → Int → Int → Option ((List FrFrame) × (List Int) × Int)
 | 0, _, _, _ => none
 | n + 1, out2, nv3, i2 => if i2 < (rv.1.length : Int) then (r9_read_L3 F rv i2 (fun (nv4 : Int) => Option.bind (r9_number F nv4) fun rv4 => if rv4 = true then (Option.bind (appO out2 [nv4]) fun q2 => r9_read_L4 F rv K n q2 (W (nv4 + 1)) (W (i2 + 1))) else (some (([] : List FrFrame), ([] : List Int), 7))) F nv3) else (K out2 nv3 i2)
def r9_read (F : Nat) (f : FrFormat) (t : FrTape) : Option ((List FrFrame) × (List Int) × Int) := Option.bind (r9_Decode F f t.bytes) fun rv => if rv.2.2 = 0 then (Option.bind (r9_number F t.first) fun rv2 => if rv2 = true then (if rv.2.2 = 0 then (r9_read_L2 F rv (fun (out : (List Int)) (nv : Int) (i : Int) => some (rv.1, out, 0)) F ([] : List Int) t.first 0) else (some (([] : List FrFrame), ([] : List Int), rv.2.2))) else (some (([] : List FrFrame), ([] : List Int), 7))) else (if rv.2.2 = 0 then (r9_read_L4 F rv (fun (out2 : (List Int)) (nv3 : Int) (i2 : Int) => some (rv.1, out2, 0)) F ([] : List Int) t.first 0) else (some (([] : List FrFrame), ([] : List Int), rv.2.2)))
theorem r9_read_scr {F : Nat} {f : FrFormat} {t : FrTape} {r : ((List FrFrame) × (List Int) × Int)} (h : r9_read F f t = some r) : SCR Try.prog 68 (List.map T.d [FrFormat.d f, FrTape.d t]) [] (.tup [.row 0 3 0 (r.1).length, .row 1 1 0 (r.2.1).length, .d (.v (.int .i64 r.2.2))]) (List.map some [(lFrFramed r.1), (lvI r.2.1)]) := by
 rw [r9_read] at h
 refine SC.of_sw Try.func68 R R R ?_
 dsimp only [argS, List.map]
 refine qG (q_box R (q_box R (q_asgD R (q_asgD R (q_asgD R (eN (qG (q_ldD (y := FrFormat.d f) tb R (q_fa tb R (q_ldD (y := .arr 1 ((t.bytes).map v8)) tb R ?_))))))))))
 obtain ⟨rv, hrv, h⟩ := bnd h
 refine r_callN (t' := .tup [.row 2 3 0 (rv.1).length, .row 3 2 0 (rv.2.1).length, .d (vI rv.2.2)]) (news' := [(lFrFramed rv.1), (lFrGapd rv.2.1)]) (r9_Decode_scr hrv) (.of (by kernel_rfl)) R R R ((.row (.row .nil))) R R R (r_movT (.tup [.row 2 3 0 (rv.1).length, .row 3 2 0 (rv.2.1).length, .d (vI rv.2.2)]) R R R (r_ext (t := .row 2 3 0 (rv.1).length) R R R R (r_ext (t := .row 3 2 0 (rv.2.1).length) R R R R (r_ext (t := .d (vI rv.2.2)) R R R R (r_asgW R R R (r_asgW R R R (q_asgD R ?_)))))))
 refine eN (sw_seq (qG (q_movD R ?_)))
 refine r_eql R R R R ?_ ?_
 ·intro c
  replace h := ifP c h
  refine q_movD R (q_fa tb R (q_ldD (y := vI t.first) tb R ?_))
  obtain ⟨rv2, hrv2, h⟩ := bnd h
  refine r_callB (r9_number_pc hrv2) (.of (by kernel_rfl)) R R R R ?_ ?_
  ·intro c2
   replace h := ifP c2 h
   refine r_notT R R R (q_pickT R (eN (sw_condF R (sw_skip (then_norm (sw_seq (qG (q_movD R ?_))))))))
   refine r_neq R R R R ?_ ?_
   ·intro c3
    replace h := ifN c3 h
    refine eN (sw_condT R (qG (q_movD R (q_asgD R (q_asgD R (q_asgD R (eN ?_)))))))
    refine SW.own (ts' := [(4, .row 4 3 0 (([] : List FrFrame)).length), (5, .d (.v (.slice none 0 0))), (6, .d (vI rv.2.2))]) (L' := [some ⟨4, [.d (FrFormat.d f)]⟩, some ⟨2, [.d (FrTape.d t)]⟩, some (lFrFramed rv.1), some (lFrGapd rv.2.1)]) 3 R R (.cons .nil (.cons (.same _) (.cons (.same _) .nil))) (.same (.same (.same (.same .nil)))) ?_
    simp only [List.cons_append, List.nil_append]
    refine SW.own (ts' := [(4, .row 4 3 0 (([] : List FrFrame)).length), (5, .row 5 1 0 (([] : List Int)).length), (6, .d (vI rv.2.2))]) (L' := [some ⟨4, [.d (FrFormat.d f)]⟩, some ⟨2, [.d (FrTape.d t)]⟩, some (lFrFramed rv.1), some (lFrGapd rv.2.1), some (lFrFramed ([] : List FrFrame))]) 1 R R (.cons (.same _) (.cons .nil (.cons (.same _) .nil))) (.same (.same (.same (.same (.same .nil))))) ?_
    simp only [List.cons_append, List.nil_append]
    refine sw_ret (then_ret ?_)
    obtain rfl := sI h
    exact f2 [4, 5] (.row R (.row R .nil)) R (.cons (.tmp 4) (.cons (.tmp 5) (.cons (.tmp 6) .nil))) R
   intro c3
   replace h := ifP c3 h
   refine eN (sw_condF R (sw_skip (then_norm (qG (q_asgD R (eN (qG (q_fa tb R (q_ldD (y := vI t.first) tb R (q_asgD R (eN (sw_seq (qG (q_asgD R (eN (sw_block ?_))))))))))))))))
   refine SW.own (ts' := [(4, .d (.v (.slice none 0 0))), (5, .d (.v (.slice none 0 0))), (6, .d (vI 0)), (7, .row 2 3 0 (rv.1).length), (10, .row 4 1 0 (([] : List Int)).length), (11, .d (vI t.first)), (12, .d (vI 0))]) (L' := [some ⟨4, [.d (FrFormat.d f)]⟩, some ⟨2, [.d (FrTape.d t)]⟩, some (lFrFramed rv.1), some (lFrGapd rv.2.1)]) 1 R R (.cons (.same _) (.cons (.same _) (.cons (.same _) (.cons (.same _) (.cons .nil (.cons (.same _) (.cons (.same _) .nil))))))) (.same (.same (.same (.same .nil)))) ?_
   simp only [List.cons_append, List.nil_append]
   obtain ⟨K1, hK1, h⟩ : ∃ K, K = _ ∧ r9_read_L2 F rv K F ([] : List Int) t.first 0 = some r := ⟨_, rfl, h⟩
   refine sw_loopS (st0 := ⟨[(4, .d (.v (.slice none 0 0))), (5, .d (.v (.slice none 0 0))), (6, .d (vI 0)), (7, .row 0 3 0 (rv.1).length), (10, .row 1 1 0 (([] : List Int)).length), (11, .d (vI t.first)), (12, .d (vI 0))], [some (lFrFramed rv.1), some (lvI ([] : List Int))]⟩) (fun m st => ∃ (out : (List Int)) (nv : Int) (i : Int), r9_read_L2 F rv K1 m out nv i = some r ∧ st = ⟨[(4, .d (.v (.slice none 0 0))), (5, .d (.v (.slice none 0 0))), (6, .d (vI 0)), (7, .row 0 3 0 (rv.1).length), (10, .row 1 1 0 (out).length), (11, .d (vI nv)), (12, .d (vI i))], [some (lFrFramed rv.1), some (lvI out)]⟩) (.vw (κ := [2, 4]) (vK (.row R (.row R .nil)) R)) ⟨([] : List Int), t.first, 0, h, R⟩ ?_
   clear h
   rintro m1 st ⟨out, nv, i, h, rfl⟩
   cases m1 with
   | zero => cases (show (none : Option ((List FrFrame) × (List Int) × Int)) = some r from h)
   | succ m1 =>
   rw [r9_read_L2] at h
   refine sw_seq (qG (q_movD R (r_movW R R R (r_lenR tb R R R R R ?_))))
   refine r_lss R R R R ?_ ?_
   ·intro c4
    replace h := ifP c4 h
    refine eN (sw_condT R (sw_skip (then_norm (sw_seq (sw_block (sw_seq (sw_block ?_)))))))
    obtain ⟨K2, hK2, h⟩ : ∃ K, K = _ ∧ r9_read_L1 F rv i K F nv = some r := ⟨_, rfl, h⟩
    refine sw_loopS (fun m st => ∃ (nv2 : Int), r9_read_L1 F rv i K2 m nv2 = some r ∧ st = ⟨[(4, .d (.v (.slice none 0 0))), (5, .d (.v (.slice none 0 0))), (6, .d (vI 0)), (7, .row 0 3 0 (rv.1).length), (10, .row 1 1 0 (out).length), (11, .d (vI nv2)), (12, .d (vI i))], [some (lFrFramed rv.1), some (lvI out)]⟩) (.prn [4, 5, 6, 7, 10, 11, 12] R) ⟨nv, h, R⟩ ?_
    clear h
    rintro m2 st ⟨nv2, h, rfl⟩
    cases m2 with
    | zero => cases (show (none : Option ((List FrFrame) × (List Int) × Int)) = some r from h)
    | succ m2 =>
    rw [r9_read_L1] at h
    refine sw_seq (qG (q_movD R (r_rem R R (by decide) R R (r_movW R R R (q_movD R ?_)))))
    obtain ⟨e, ie, h⟩ := bnd h
    refine r_ixI tb R R R R R R (ix0 ie) (ix1 ie) R R (q_fa tb R ?_)
    refine r_ldD (y := vI e.count) tb R R R R (ix2 (g := fun a => T.d (FrFrame.d a)) ie) R R R R ?_
    refine r_neq R R R R ?_ ?_
    ·intro c5
     replace h := ifN c5 h
     refine eN (sw_condT R (sw_skip (then_norm (sw_block (sw_rg (q_movD R (q_add R (q_asgD R (ev_end (block_norm (then_norm ?_)))))))))))
     exact ⟨m2, _, Nat.lt_succ_self _, .prn [4, 5, 6, 7, 10, 11, 12] R, (W (nv2 + 1)), h, R⟩
    intro c5
    replace h := ifP c5 h
    refine eN (sw_condF R (sw_exit (then_exit (then_exit ?_))))
    subst hK2
    refine block_exit (then_norm (sw_seq (qG (q_movD R ?_))))
    obtain ⟨rv3, hrv3, h⟩ := bnd h
    refine r_callB (r9_number_pc hrv3) (.of (by kernel_rfl)) R R R R ?_ ?_
    ·intro c6
     replace h := ifP c6 h
     refine r_notT R R R (eN (sw_condF R (sw_skip (then_norm (qG (r_movW R R R (q_movD R (r_bslice tb R R R R R R R R R R R R R ?_))))))))
     obtain ⟨q, iq, h⟩ := bnd h
     refine r_apM (g := vI) (w := out) (v := [nv2]) ([some (lFrFramed rv.1), none, some (lvI [nv2])]) tb R R R R R R R R R R R iq R R R R R (r_asgW R R R (eN (sw_rg (q_movD R (q_add R (q_asgD R (ev_end (block_norm (then_norm (sw_rg (q_movD R (q_add R (q_asgD R (eN ?_))))))))))))))
     exact ⟨m1, ⟨[(4, .d (.v (.slice none 0 0))), (5, .d (.v (.slice none 0 0))), (6, .d (vI 0)), (7, .row 0 3 0 (rv.1).length), (10, .row 1 1 0 (q).length), (11, .d (vI (W (nv2 + 1)))), (12, .d (vI (W (i + 1))))], [some (lFrFramed rv.1), some (lvI q)]⟩, Nat.lt_succ_self _, .vw (κ := [0, 3]) (vK (.row R (.row R .nil)) R), q, (W (nv2 + 1)), (W (i + 1)), h, R⟩
    intro c6
    replace h := ifF c6 h
    refine r_notF R R R (eN (sw_condT R (qG (q_asgD R (q_asgD R (q_asgD R (eN ?_)))))))
    refine SW.own (ts' := [(4, .row 2 3 0 (([] : List FrFrame)).length), (5, .d (.v (.slice none 0 0))), (6, .d (vI 7))]) (L' := [some (lFrFramed rv.1), some (lvI out)]) 3 R R (.cons .nil (.cons (.same _) (.cons (.same _) .nil))) (.same (.same .nil)) ?_
    simp only [List.cons_append, List.nil_append]
    refine SW.own (ts' := [(4, .row 2 3 0 (([] : List FrFrame)).length), (5, .row 3 1 0 (([] : List Int)).length), (6, .d (vI 7))]) (L' := [some (lFrFramed rv.1), some (lvI out), some (lFrFramed ([] : List FrFrame))]) 1 R R (.cons (.same _) (.cons .nil (.cons (.same _) .nil))) (.same (.same (.same .nil))) ?_
    simp only [List.cons_append, List.nil_append]
    refine sw_ret (then_ret (block_ret (then_ret (then_ret (block_ret (then_ret ?_))))))
    obtain rfl := sI h
    exact f2 [2, 3] (.row R (.row R .nil)) R (.cons (.tmp 4) (.cons (.tmp 5) (.cons (.tmp 6) .nil))) R
   intro c4
   replace h := ifN (Int.not_lt.2 c4) h
   refine eN (sw_condF R (sw_exit (then_exit (then_exit ?_))))
   subst hK1
   refine block_exit (then_norm (qG (r_movW R R R (r_movW R R R (r_asgW R R R (r_asgW R R R (q_asgD R (eN (sw_ret ?_)))))))))
   obtain rfl := sI h
   exact f2 [0, 1] (.row R (.row R .nil)) R (.cons (.tmp 4) (.cons (.tmp 5) (.cons (.tmp 6) .nil))) R
  intro c2
  replace h := ifF c2 h
  refine r_notF R R R (q_pickT R (eN (sw_condT R (sw_rg (q_asgD R (eN (sw_seq (qG (q_movD R ?_)))))))))
  refine r_neq R R R R ?_ ?_
  rotate_left
  ·intro c7; exact absurd c7 (by decide)
  intro _
  refine eN (sw_condT R (qG (q_movD R (q_asgD R (q_asgD R (q_asgD R (eN ?_)))))))
  refine SW.own (ts' := [(4, .row 4 3 0 (([] : List FrFrame)).length), (5, .d (.v (.slice none 0 0))), (6, .d (vI 7))]) (L' := [some ⟨4, [.d (FrFormat.d f)]⟩, some ⟨2, [.d (FrTape.d t)]⟩, some (lFrFramed rv.1), some (lFrGapd rv.2.1)]) 3 R R (.cons .nil (.cons (.same _) (.cons (.same _) .nil))) (.same (.same (.same (.same .nil)))) ?_
  simp only [List.cons_append, List.nil_append]
  refine SW.own (ts' := [(4, .row 4 3 0 (([] : List FrFrame)).length), (5, .row 5 1 0 (([] : List Int)).length), (6, .d (vI 7))]) (L' := [some ⟨4, [.d (FrFormat.d f)]⟩, some ⟨2, [.d (FrTape.d t)]⟩, some (lFrFramed rv.1), some (lFrGapd rv.2.1), some (lFrFramed ([] : List FrFrame))]) 1 R R (.cons (.same _) (.cons .nil (.cons (.same _) .nil))) (.same (.same (.same (.same (.same .nil))))) ?_
  simp only [List.cons_append, List.nil_append]
  refine sw_ret (then_ret ?_)
  obtain rfl := sI h
  exact f2 [4, 5] (.row R (.row R .nil)) R (.cons (.tmp 4) (.cons (.tmp 5) (.cons (.tmp 6) .nil))) R
 intro c
 replace h := ifN c h
 refine q_movD R (q_sk 4 R (q_pickF R (eN (sw_condF R (sw_skip (then_norm (sw_seq (qG (q_movD R ?_)))))))))
 refine r_neq R R R R ?_ ?_
 ·intro c8
  replace h := ifN c8 h
  refine eN (sw_condT R (qG (q_movD R (q_asgD R (q_asgD R (q_asgD R (eN ?_)))))))
  refine SW.own (ts' := [(4, .row 4 3 0 (([] : List FrFrame)).length), (5, .d (.v (.slice none 0 0))), (6, .d (vI rv.2.2))]) (L' := [some ⟨4, [.d (FrFormat.d f)]⟩, some ⟨2, [.d (FrTape.d t)]⟩, some (lFrFramed rv.1), some (lFrGapd rv.2.1)]) 3 R R (.cons .nil (.cons (.same _) (.cons (.same _) .nil))) (.same (.same (.same (.same .nil)))) ?_
  simp only [List.cons_append, List.nil_append]
  refine SW.own (ts' := [(4, .row 4 3 0 (([] : List FrFrame)).length), (5, .row 5 1 0 (([] : List Int)).length), (6, .d (vI rv.2.2))]) (L' := [some ⟨4, [.d (FrFormat.d f)]⟩, some ⟨2, [.d (FrTape.d t)]⟩, some (lFrFramed rv.1), some (lFrGapd rv.2.1), some (lFrFramed ([] : List FrFrame))]) 1 R R (.cons (.same _) (.cons .nil (.cons (.same _) .nil))) (.same (.same (.same (.same (.same .nil))))) ?_
  simp only [List.cons_append, List.nil_append]
  refine sw_ret (then_ret ?_)
  obtain rfl := sI h
  exact f2 [4, 5] (.row R (.row R .nil)) R (.cons (.tmp 4) (.cons (.tmp 5) (.cons (.tmp 6) .nil))) R
 intro c8
 replace h := ifP c8 h
 refine eN (sw_condF R (sw_skip (then_norm (qG (q_asgD R (eN (qG (q_fa tb R (q_ldD (y := vI t.first) tb R (q_asgD R (eN (sw_seq (qG (q_asgD R (eN (sw_block ?_))))))))))))))))
 refine SW.own (ts' := [(4, .d (.v (.slice none 0 0))), (5, .d (.v (.slice none 0 0))), (6, .d (vI 0)), (7, .row 2 3 0 (rv.1).length), (10, .row 4 1 0 (([] : List Int)).length), (11, .d (vI t.first)), (12, .d (vI 0))]) (L' := [some ⟨4, [.d (FrFormat.d f)]⟩, some ⟨2, [.d (FrTape.d t)]⟩, some (lFrFramed rv.1), some (lFrGapd rv.2.1)]) 1 R R (.cons (.same _) (.cons (.same _) (.cons (.same _) (.cons (.same _) (.cons .nil (.cons (.same _) (.cons (.same _) .nil))))))) (.same (.same (.same (.same .nil)))) ?_
 simp only [List.cons_append, List.nil_append]
 obtain ⟨K3, hK3, h⟩ : ∃ K, K = _ ∧ r9_read_L4 F rv K F ([] : List Int) t.first 0 = some r := ⟨_, rfl, h⟩
 refine sw_loopS (st0 := ⟨[(4, .d (.v (.slice none 0 0))), (5, .d (.v (.slice none 0 0))), (6, .d (vI 0)), (7, .row 0 3 0 (rv.1).length), (10, .row 1 1 0 (([] : List Int)).length), (11, .d (vI t.first)), (12, .d (vI 0))], [some (lFrFramed rv.1), some (lvI ([] : List Int))]⟩) (fun m st => ∃ (out2 : (List Int)) (nv3 : Int) (i2 : Int), r9_read_L4 F rv K3 m out2 nv3 i2 = some r ∧ st = ⟨[(4, .d (.v (.slice none 0 0))), (5, .d (.v (.slice none 0 0))), (6, .d (vI 0)), (7, .row 0 3 0 (rv.1).length), (10, .row 1 1 0 (out2).length), (11, .d (vI nv3)), (12, .d (vI i2))], [some (lFrFramed rv.1), some (lvI out2)]⟩) (.vw (κ := [2, 4]) (vK (.row R (.row R .nil)) R)) ⟨([] : List Int), t.first, 0, h, R⟩ ?_
 clear h
 rintro m3 st ⟨out2, nv3, i2, h, rfl⟩
 cases m3 with
 | zero => cases (show (none : Option ((List FrFrame) × (List Int) × Int)) = some r from h)
 | succ m3 =>
 rw [r9_read_L4] at h
 refine sw_seq (qG (q_movD R (r_movW R R R (r_lenR tb R R R R R ?_))))
 refine r_lss R R R R ?_ ?_
 ·intro c9
  replace h := ifP c9 h
  refine eN (sw_condT R (sw_skip (then_norm (sw_seq (sw_block (sw_seq (sw_block ?_)))))))
  obtain ⟨K4, hK4, h⟩ : ∃ K, K = _ ∧ r9_read_L3 F rv i2 K F nv3 = some r := ⟨_, rfl, h⟩
  refine sw_loopS (fun m st => ∃ (nv4 : Int), r9_read_L3 F rv i2 K4 m nv4 = some r ∧ st = ⟨[(4, .d (.v (.slice none 0 0))), (5, .d (.v (.slice none 0 0))), (6, .d (vI 0)), (7, .row 0 3 0 (rv.1).length), (10, .row 1 1 0 (out2).length), (11, .d (vI nv4)), (12, .d (vI i2))], [some (lFrFramed rv.1), some (lvI out2)]⟩) (.prn [4, 5, 6, 7, 10, 11, 12] R) ⟨nv3, h, R⟩ ?_
  clear h
  rintro m4 st ⟨nv4, h, rfl⟩
  cases m4 with
  | zero => cases (show (none : Option ((List FrFrame) × (List Int) × Int)) = some r from h)
  | succ m4 =>
  rw [r9_read_L3] at h
  refine sw_seq (qG (q_movD R (r_rem R R (by decide) R R (r_movW R R R (q_movD R ?_)))))
  obtain ⟨e2, ie2, h⟩ := bnd h
  refine r_ixI tb R R R R R R (ix0 ie2) (ix1 ie2) R R (q_fa tb R ?_)
  refine r_ldD (y := vI e2.count) tb R R R R (ix2 (g := fun a => T.d (FrFrame.d a)) ie2) R R R R ?_
  refine r_neq R R R R ?_ ?_
  ·intro c10
   replace h := ifN c10 h
   refine eN (sw_condT R (sw_skip (then_norm (sw_block (sw_rg (q_movD R (q_add R (q_asgD R (ev_end (block_norm (then_norm ?_)))))))))))
   exact ⟨m4, _, Nat.lt_succ_self _, .prn [4, 5, 6, 7, 10, 11, 12] R, (W (nv4 + 1)), h, R⟩
  intro c10
  replace h := ifP c10 h
  refine eN (sw_condF R (sw_exit (then_exit (then_exit ?_))))
  subst hK4
  refine block_exit (then_norm (sw_seq (qG (q_movD R ?_))))
  obtain ⟨rv4, hrv4, h⟩ := bnd h
  refine r_callB (r9_number_pc hrv4) (.of (by kernel_rfl)) R R R R ?_ ?_
  ·intro c11
   replace h := ifP c11 h
   refine r_notT R R R (eN (sw_condF R (sw_skip (then_norm (qG (r_movW R R R (q_movD R (r_bslice tb R R R R R R R R R R R R R ?_))))))))
   obtain ⟨q2, iq2, h⟩ := bnd h
   refine r_apM (g := vI) (w := out2) (v := [nv4]) ([some (lFrFramed rv.1), none, some (lvI [nv4])]) tb R R R R R R R R R R R iq2 R R R R R (r_asgW R R R (eN (sw_rg (q_movD R (q_add R (q_asgD R (ev_end (block_norm (then_norm (sw_rg (q_movD R (q_add R (q_asgD R (eN ?_))))))))))))))
   exact ⟨m3, ⟨[(4, .d (.v (.slice none 0 0))), (5, .d (.v (.slice none 0 0))), (6, .d (vI 0)), (7, .row 0 3 0 (rv.1).length), (10, .row 1 1 0 (q2).length), (11, .d (vI (W (nv4 + 1)))), (12, .d (vI (W (i2 + 1))))], [some (lFrFramed rv.1), some (lvI q2)]⟩, Nat.lt_succ_self _, .vw (κ := [0, 3]) (vK (.row R (.row R .nil)) R), q2, (W (nv4 + 1)), (W (i2 + 1)), h, R⟩
  intro c11
  replace h := ifF c11 h
  refine r_notF R R R (eN (sw_condT R (qG (q_asgD R (q_asgD R (q_asgD R (eN ?_)))))))
  refine SW.own (ts' := [(4, .row 2 3 0 (([] : List FrFrame)).length), (5, .d (.v (.slice none 0 0))), (6, .d (vI 7))]) (L' := [some (lFrFramed rv.1), some (lvI out2)]) 3 R R (.cons .nil (.cons (.same _) (.cons (.same _) .nil))) (.same (.same .nil)) ?_
  simp only [List.cons_append, List.nil_append]
  refine SW.own (ts' := [(4, .row 2 3 0 (([] : List FrFrame)).length), (5, .row 3 1 0 (([] : List Int)).length), (6, .d (vI 7))]) (L' := [some (lFrFramed rv.1), some (lvI out2), some (lFrFramed ([] : List FrFrame))]) 1 R R (.cons (.same _) (.cons .nil (.cons (.same _) .nil))) (.same (.same (.same .nil))) ?_
  simp only [List.cons_append, List.nil_append]
  refine sw_ret (then_ret (block_ret (then_ret (then_ret (block_ret (then_ret ?_))))))
  obtain rfl := sI h
  exact f2 [2, 3] (.row R (.row R .nil)) R (.cons (.tmp 4) (.cons (.tmp 5) (.cons (.tmp 6) .nil))) R
 intro c9
 replace h := ifN (Int.not_lt.2 c9) h
 refine eN (sw_condF R (sw_exit (then_exit (then_exit ?_))))
 subst hK3
 refine block_exit (then_norm (qG (r_movW R R R (r_movW R R R (r_asgW R R R (r_asgW R R R (q_asgD R (eN (sw_ret ?_)))))))))
 obtain rfl := sI h
 exact f2 [0, 1] (.row R (.row R .nil)) R (.cons (.tmp 4) (.cons (.tmp 5) (.cons (.tmp 6) .nil))) R
theorem r9_read_pc {F : Nat} {f : FrFormat} {t : FrTape} {r : ((List FrFrame) × (List Int) × Int)} (h : r9_read F f t = some r) : PC Try.prog 68 [FrFormat.d f, FrTape.d t] (.tup [.arr 3 ((r.1).map FrFrame.d), .arr 1 ((r.2.1).map vI), .v (.int .i64 r.2.2)]) := (r9_read_scr h).toPC (.tupL (.cons (.row rfl rfl) (.cons (.row rfl rfl) (.cons (.d _) .nil))))
end Go.Proofs.Ytjnnkcnnandeeaa
