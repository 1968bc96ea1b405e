/- What functions of the program compute: plain functions, and the proofs. -/
import Derived.Test.YthcnganbnbhhoaaGreatW0
open Go Go.Proofs.YthcnganbnbhhoaaGreat.Sh Go.Proofs
namespace Go.Proofs.YthcnganbnbhhoaaGreat
set_option linter.unusedVariables false
set_option linter.unusedSimpArgs false
set_option maxRecDepth 100000
set_option maxHeartbeats 4000000
def r7_in (F : Nat) (nv : Int) (low : Int) (high : Int) : Option Bool := if low ≤ nv then (some (decide (nv ≤ high))) else (some false)
theorem r7_in_pc {F : Nat} {nv : Int} {low : Int} {high : Int} {r : Bool} (h : r7_in F nv low high = some r) : PC Tryz.prog 36 [.v (.int .i64 nv), .v (.int .i64 low), .v (.int .i64 high)] (.v (.bool r)) := by
 rw [r7_in] at h
 refine SC.of_sw Tryz.func36 R R R ?_
 dsimp only [argS, List.map]
 refine qG (q_asgD R (eN (qG (q_movD R (q_movD R ?_)))))
 refine r_geq R R R R ?_ ?_
 ·intro c
  replace h := ifP c h
  refine q_movD R (q_movD R (q_movD R (r_leqV R R R R (q_pickT R (q_asgD R (eN (sw_ret ?_)))))))
  obtain rfl := sI h
  exact f1 6 R
 intro c
 replace h := ifN (Int.not_le.2 c) h
 refine q_movD R (q_sk 3 R (q_pickF R (q_asgD R (eN (sw_ret ?_)))))
 obtain rfl := sI h
 exact f1 6 R
def r7_place (F : Nat) (nv : Int) : Option Bool := Option.bind (r7_in F nv (-10000000) 10000000) fun rv => some rv
theorem r7_place_pc {F : Nat} {nv : Int} {r : Bool} (h : r7_place F nv = some r) : PC Tryz.prog 125 [.v (.int .i64 nv)] (.v (.bool r)) := by
 rw [r7_place] at h
 refine SC.of_sw Tryz.func125 R R R ?_
 dsimp only [argS, List.map]
 refine qG (q_asgD R (eN (qG (q_movD R ?_))))
 obtain ⟨rv, hrv, h⟩ := bnd h
 refine r_call (r7_in_pc hrv) (.of (by kernel_rfl)) R R R R (q_asgD R (eN (sw_ret ?_)))
 obtain rfl := sI h
 exact f1 2 R
def r7_grade (F : Nat) (nv : Int) : Option Bool := Option.bind (r7_in F nv 0 9) fun rv => some rv
theorem r7_grade_pc {F : Nat} {nv : Int} {r : Bool} (h : r7_grade F nv = some r) : PC Tryz.prog 123 [.v (.int .i64 nv)] (.v (.bool r)) := by
 rw [r7_grade] at h
 refine SC.of_sw Tryz.func123 R R R ?_
 dsimp only [argS, List.map]
 refine qG (q_asgD R (eN (qG (q_movD R ?_))))
 obtain ⟨rv, hrv, h⟩ := bnd h
 refine r_call (r7_in_pc hrv) (.of (by kernel_rfl)) R R R R (q_asgD R (eN (sw_ret ?_)))
 obtain rfl := sI h
 exact f1 2 R
def r7_side (F : Nat) (s : Span) : Option Bool := Option.bind (r7_place F s.lo) fun rv => if rv = true then (Option.bind (r7_place F s.hi) fun rv2 => if rv2 = true then (some (decide (s.lo ≤ s.hi))) else (some false)) else (some false)
theorem r7_side_pc {F : Nat} {s : Span} {r : Bool} (h : r7_side F s = some r) : PC Tryz.prog 122 [Span.d s] (.v (.bool r)) := by
 rw [r7_side] at h
 refine SC.of_sw Tryz.func122 R R R ?_
 dsimp only [argS, List.map]
 refine qG (q_box R (q_asgD R (eN (qG (q_fa tb R (q_ldD (y := vI s.lo) tb R ?_))))))
 obtain ⟨rv, hrv, h⟩ := bnd h
 refine r_callB (r7_place_pc hrv) (.of (by kernel_rfl)) R R R R ?_ ?_
 ·intro c
  replace h := ifP c h
  refine q_movD R (q_fa tb R (q_ldD (y := vI s.hi) tb R ?_))
  obtain ⟨rv2, hrv2, h⟩ := bnd h
  refine r_callB (r7_place_pc hrv2) (.of (by kernel_rfl)) R R R R ?_ ?_
  ·intro c2
   replace h := ifP c2 h
   refine q_pickT R (q_movD R (q_fa tb R (q_ldD (y := vI s.lo) tb R (q_fa tb R (q_ldD (y := vI s.hi) tb R (r_leqV R R R R (q_pickT R (q_asgD R (eN (sw_ret ?_))))))))))
   obtain rfl := sI h
   exact f1 2 R
  intro c2
  replace h := ifF c2 h
  refine q_pickT R (q_movD R (q_sk 5 R (q_pickF R (q_asgD R (eN (sw_ret ?_))))))
  obtain rfl := sI h
  exact f1 2 R
 intro c
 replace h := ifF c h
 refine q_movD R (q_sk 3 R (q_pickF R (q_movD R (q_sk 5 R (q_pickF R (q_asgD R (eN (sw_ret ?_))))))))
 obtain rfl := sI h
 exact f1 2 R
def r1_Name_L1 (F : Nat) (s : ByteArray) (K : Int → Option Bool) : Nat → Int → Option Bool
 | 0, _ => none
 | n + 1, i => if i < (s.size : Int) then (Option.bind (ixB s i) fun b => if 97 ≤ b then (if b ≤ 122 then (r1_Name_L1 F s K n (W (i + 1))) else (if i = 0 then (some false) else (if 48 ≤ b then (if b ≤ 57 then (r1_Name_L1 F s K n (W (i + 1))) else (if b = 45 then (r1_Name_L1 F s K n (W (i + 1))) else (some false))) else (if b = 45 then (r1_Name_L1 F s K n (W (i + 1))) else (some false))))) else (if i = 0 then (some false) else (if 48 ≤ b then (if b ≤ 57 then (r1_Name_L1 F s K n (W (i + 1))) else (if b = 45 then (r1_Name_L1 F s K n (W (i + 1))) else (some false))) else (if b = 45 then (r1_Name_L1 F s K n (W (i + 1))) else (some false))))) else (K i)
def r1_Name (F : Nat) (s : ByteArray) : Option Bool := if (s.size : Int) < 1 then (some false) else (if 24 < (s.size : Int) then (some false) else (r1_Name_L1 F s (fun (i : Int) => some true) F 0))
theorem r1_Name_pc {F : Nat} {s : ByteArray} {r : Bool} (h : r1_Name F s = some r) : PC Tryz.prog 124 [.v (.string s)] (.v (.bool r)) := by
 rw [r1_Name] at h
 refine SC.of_sw Tryz.func124 R R R ?_
 dsimp only [argS, List.map]
 refine qG (q_asgD R (eN (sw_seq (qG (q_movD R (r_lenS R R R R ?_))))))
 refine r_lss R R R R ?_ ?_
 ·intro c
  replace h := ifP c h
  refine q_movD R (q_sk 3 R (q_pickT R (eN (sw_condT R (qG (q_asgD R (eN (sw_ret (then_ret ?_)))))))))
  obtain rfl := sI h
  exact f1 2 R
 intro c
 replace h := ifN (Int.not_lt.2 c) h
 refine q_movD R (q_movD R (r_lenS R R R R ?_))
 refine r_gtr R R R R ?_ ?_
 ·intro c2
  replace h := ifP c2 h
  refine q_pickF R (eN (sw_condT R (qG (q_asgD R (eN (sw_ret (then_ret ?_)))))))
  obtain rfl := sI h
  exact f1 2 R
 intro c2
 replace h := ifN (Int.not_lt.2 c2) h
 refine q_pickF R (eN (sw_condF R (sw_skip (then_norm (sw_seq (qG (q_asgD R (eN (sw_block ?_)))))))))
 obtain ⟨K2, hK2, h⟩ : ∃ K, K = _ ∧ r1_Name_L1 F s K F 0 = some r := ⟨_, rfl, h⟩
 refine sw_loopS (fun m st => ∃ (i : Int), r1_Name_L1 F s K2 m i = some r ∧ st = ⟨[(0, .d (.v (.string s))), (2, .d (.v (.bool false))), (3, .d (vI i))], []⟩) (.prn [0, 2, 3] R) ⟨0, h, R⟩ ?_
 clear h
 rintro m2 st ⟨i, h, rfl⟩
 cases m2 with
 | zero => cases (show (none : Option Bool) = some r from h)
 | succ m2 =>
 rw [r1_Name_L1] at h
 refine sw_seq (qG (q_movD R (q_movD R (r_lenS R R R R ?_))))
 refine r_lss R R R R ?_ ?_
 ·intro c3
  replace h := ifP c3 h
  refine eN (sw_condT R (sw_skip (then_norm (sw_seq (sw_block (qG (q_movD R (q_movD R ?_))))))))
  obtain ⟨b, ib, h⟩ := bnd h
  refine r_ixB R R R ib R R (q_asgD R (eN (qG (q_movD R ?_))))
  refine r_geq R R R R ?_ ?_
  ·intro c4
   replace h := ifP c4 h
   refine q_movD R (q_movD R ?_)
   refine r_leq R R R R ?_ ?_
   ·intro c5
    replace h := ifP c5 h
    refine q_pickT R (q_asgD R (eN (qG (q_movD R (r_notT R R R (q_movD R (q_sk 15 R (q_pickF R (eN (sw_condF R (sw_skip (block_norm (then_norm (sw_rg (q_movD R (q_add R (q_asgD R (eN ?_))))))))))))))))))
    exact ⟨m2, _, Nat.lt_succ_self _, .prn [0, 2, 3] R, (W (i + 1)), h, R⟩
   intro c5
   replace h := ifN (Int.not_le.2 c5) h
   refine q_pickT R (q_asgD R (eN (qG (q_movD R (r_notF R R R (q_movD R (q_movD R ?_)))))))
   refine r_eql R R R R ?_ ?_
   ·intro c6
    replace h := ifP c6 h
    refine q_movD R (q_sk 11 R (q_pickT R (q_pickT R (eN (sw_condT R (qG (q_asgD R (eN (sw_ret (block_ret (then_ret (then_ret (block_ret (then_ret ?_))))))))))))))
    obtain rfl := sI h
    exact f1 2 R
   intro c6
   replace h := ifN c6 h
   refine q_movD R (q_movD R ?_)
   refine r_geq R R R R ?_ ?_
   ·intro c7
    replace h := ifP c7 h
    refine q_movD R (q_movD R ?_)
    refine r_leq R R R R ?_ ?_
    ·intro c8
     replace h := ifP c8 h
     refine q_pickT R (q_movD R (q_sk 2 R (q_pickT R (r_notT R R R (q_pickF R (q_pickT R (eN (sw_condF R (sw_skip (block_norm (then_norm (sw_rg (q_movD R (q_add R (q_asgD R (eN ?_))))))))))))))))
     exact ⟨m2, _, Nat.lt_succ_self _, .prn [0, 2, 3] R, (W (i + 1)), h, R⟩
    intro c8
    replace h := ifN (Int.not_le.2 c8) h
    refine q_pickT R (q_movD R (q_movD R ?_))
    refine r_eql R R R R ?_ ?_
    ·intro c9
     replace h := ifP c9 h
     refine q_pickF R (r_notT R R R (q_pickF R (q_pickT R (eN (sw_condF R (sw_skip (block_norm (then_norm (sw_rg (q_movD R (q_add R (q_asgD R (eN ?_)))))))))))))
     exact ⟨m2, _, Nat.lt_succ_self _, .prn [0, 2, 3] R, (W (i + 1)), h, R⟩
    intro c9
    replace h := ifN c9 h
    refine q_pickF R (r_notF R R R (q_pickF R (q_pickT R (eN (sw_condT R (qG (q_asgD R (eN (sw_ret (block_ret (then_ret (then_ret (block_ret (then_ret ?_))))))))))))))
    obtain rfl := sI h
    exact f1 2 R
   intro c7
   replace h := ifN (Int.not_le.2 c7) h
   refine q_movD R (q_sk 2 R (q_pickF R (q_movD R (q_movD R ?_))))
   refine r_eql R R R R ?_ ?_
   ·intro c10
    replace h := ifP c10 h
    refine q_pickF R (r_notT R R R (q_pickF R (q_pickT R (eN (sw_condF R (sw_skip (block_norm (then_norm (sw_rg (q_movD R (q_add R (q_asgD R (eN ?_)))))))))))))
    exact ⟨m2, _, Nat.lt_succ_self _, .prn [0, 2, 3] R, (W (i + 1)), h, R⟩
   intro c10
   replace h := ifN c10 h
   refine q_pickF R (r_notF R R R (q_pickF R (q_pickT R (eN (sw_condT R (qG (q_asgD R (eN (sw_ret (block_ret (then_ret (then_ret (block_ret (then_ret ?_))))))))))))))
   obtain rfl := sI h
   exact f1 2 R
  intro c4
  replace h := ifN (Int.not_le.2 c4) h
  refine q_movD R (q_sk 2 R (q_pickF R (q_asgD R (eN (qG (q_movD R (r_notF R R R (q_movD R (q_movD R ?_)))))))))
  refine r_eql R R R R ?_ ?_
  ·intro c11
   replace h := ifP c11 h
   refine q_movD R (q_sk 11 R (q_pickT R (q_pickT R (eN (sw_condT R (qG (q_asgD R (eN (sw_ret (block_ret (then_ret (then_ret (block_ret (then_ret ?_))))))))))))))
   obtain rfl := sI h
   exact f1 2 R
  intro c11
  replace h := ifN c11 h
  refine q_movD R (q_movD R ?_)
  refine r_geq R R R R ?_ ?_
  ·intro c12
   replace h := ifP c12 h
   refine q_movD R (q_movD R ?_)
   refine r_leq R R R R ?_ ?_
   ·intro c13
    replace h := ifP c13 h
    refine q_pickT R (q_movD R (q_sk 2 R (q_pickT R (r_notT R R R (q_pickF R (q_pickT R (eN (sw_condF R (sw_skip (block_norm (then_norm (sw_rg (q_movD R (q_add R (q_asgD R (eN ?_))))))))))))))))
    exact ⟨m2, _, Nat.lt_succ_self _, .prn [0, 2, 3] R, (W (i + 1)), h, R⟩
   intro c13
   replace h := ifN (Int.not_le.2 c13) h
   refine q_pickT R (q_movD R (q_movD R ?_))
   refine r_eql R R R R ?_ ?_
   ·intro c14
    replace h := ifP c14 h
    refine q_pickF R (r_notT R R R (q_pickF R (q_pickT R (eN (sw_condF R (sw_skip (block_norm (then_norm (sw_rg (q_movD R (q_add R (q_asgD R (eN ?_)))))))))))))
    exact ⟨m2, _, Nat.lt_succ_self _, .prn [0, 2, 3] R, (W (i + 1)), h, R⟩
   intro c14
   replace h := ifN c14 h
   refine q_pickF R (r_notF R R R (q_pickF R (q_pickT R (eN (sw_condT R (qG (q_asgD R (eN (sw_ret (block_ret (then_ret (then_ret (block_ret (then_ret ?_))))))))))))))
   obtain rfl := sI h
   exact f1 2 R
  intro c12
  replace h := ifN (Int.not_le.2 c12) h
  refine q_movD R (q_sk 2 R (q_pickF R (q_movD R (q_movD R ?_))))
  refine r_eql R R R R ?_ ?_
  ·intro c15
   replace h := ifP c15 h
   refine q_pickF R (r_notT R R R (q_pickF R (q_pickT R (eN (sw_condF R (sw_skip (block_norm (then_norm (sw_rg (q_movD R (q_add R (q_asgD R (eN ?_)))))))))))))
   exact ⟨m2, _, Nat.lt_succ_self _, .prn [0, 2, 3] R, (W (i + 1)), h, R⟩
  intro c15
  replace h := ifN c15 h
  refine q_pickF R (r_notF R R R (q_pickF R (q_pickT R (eN (sw_condT R (qG (q_asgD R (eN (sw_ret (block_ret (then_ret (then_ret (block_ret (then_ret ?_))))))))))))))
  obtain rfl := sI h
  exact f1 2 R
 intro c3
 replace h := ifN (Int.not_lt.2 c3) h
 refine eN (sw_condF R (sw_exit (then_exit (then_exit ?_))))
 subst hK2
 refine block_exit (then_norm (qG (q_asgD R (eN (sw_ret ?_)))))
 obtain rfl := sI h
 exact f1 2 R
def r7_name_L1 (F : Nat) (s : ByteArray) (before : (List ByteArray)) (K : Int → Option Int) : Nat → Int → Option Int
 | 0, _ => none
 | n + 1, i => if i < (before.length : Int) then (Option.bind (ixO before i) fun e => if e.toList = s.toList then (some 5) else (r7_name_L1 F s before K n (W (i + 1)))) else (K i)
def r7_name (F : Nat) (s : ByteArray) (before : (List ByteArray)) : Option Int := Option.bind (r1_Name F s) fun rv => if rv = true then (r7_name_L1 F s before (fun (i : Int) => some 0) F 0) else (some 6)
theorem r7_name_pc {F : Nat} {s : ByteArray} {before : (List ByteArray)} {r : Int} (h : r7_name F s before = some r) : PC Tryz.prog 106 [.v (.string s), .arr 1 ((before).map vS)] (.v (.int .i64 r)) := by
 rw [r7_name] at h
 refine SC.of_sw Tryz.func106 R R R ?_
 dsimp only [argS, List.map]
 refine qG (q_asgD R (eN (sw_seq (qG (q_movD R ?_)))))
 obtain ⟨rv, hrv, h⟩ := bnd h
 refine r_callB (r1_Name_pc hrv) (.of (by kernel_rfl)) R R R R ?_ ?_
 ·intro c
  replace h := ifP c h
  refine r_notT R R R (eN (sw_condF R (sw_skip (then_norm (sw_seq (qG (q_asgD R (eN (sw_block ?_)))))))))
  obtain ⟨K3, hK3, h⟩ : ∃ K, K = _ ∧ r7_name_L1 F s before K F 0 = some r := ⟨_, rfl, h⟩
  refine sw_loopS (fun m st => ∃ (i : Int), r7_name_L1 F s before K3 m i = some r ∧ st = ⟨[(0, .d (.v (.string s))), (1, .d (.arr 1 ((before).map vS))), (4, .d (vI 0)), (5, .d (vI i))], []⟩) (.prn [0, 1, 4, 5] R) ⟨0, h, R⟩ ?_
  clear h
  rintro m3 st ⟨i, h, rfl⟩
  cases m3 with
  | zero => cases (show (none : Option Int) = some r from h)
  | succ m3 =>
  rw [r7_name_L1] at h
  refine sw_seq (qG (q_movD R (q_movD R (q_lenM tb R ?_))))
  refine r_lss R R R R ?_ ?_
  ·intro c2
   replace h := ifP c2 h
   refine eN (sw_condT R (sw_skip (then_norm (sw_seq (sw_block (qG (q_movD R (q_movD R ?_))))))))
   obtain ⟨e, ie, h⟩ := bnd h
   refine q_ixE tb (ix0 ie) (ix1m ie) R (q_ldE (y := .v (.string e)) tb (ix2 (g := vS) ie) R (q_movD R ?_))
   refine r_streql R R R R ?_ ?_
   ·intro c3
    replace h := ifP c3 h
    refine eN (sw_condT R (qG (q_asgD R (eN (sw_ret (block_ret (then_ret (then_ret (block_ret (then_ret ?_))))))))))
    obtain rfl := sI h
    exact f1 4 R
   intro c3
   replace h := ifN c3 h
   refine eN (sw_condF R (sw_skip (block_norm (then_norm (sw_rg (q_movD R (q_add R (q_asgD R (eN ?_)))))))))
   exact ⟨m3, _, Nat.lt_succ_self _, .prn [0, 1, 4, 5] R, (W (i + 1)), h, R⟩
  intro c2
  replace h := ifN (Int.not_lt.2 c2) h
  refine eN (sw_condF R (sw_exit (then_exit (then_exit ?_))))
  subst hK3
  refine block_exit (then_norm (qG (q_asgD R (eN (sw_ret ?_)))))
  obtain rfl := sI h
  exact f1 4 R
 intro c
 replace h := ifF c h
 refine r_notF R R R (eN (sw_condT R (qG (q_asgD R (eN (sw_ret (then_ret ?_)))))))
 obtain rfl := sI h
 exact f1 4 R
def r7_zones_J1 (F : Nat) (B4 : (List ByteArray) → Int → Option (Int × Int)) (names : (List ByteArray)) (i : Int) (e : PdZone) (e2 : Int) : Option (Int × Int) := if e2 = 0 then (Option.bind (appO names [e.name]) fun q => B4 q (W (i + 1))) else (some (i, e2))
def r7_zones_L1 (F : Nat) (p : PdPad) (K : (List ByteArray) → Int → Option (Int × Int)) : Nat → (List ByteArray) → Int → Option (Int × Int)
 | 0, _, _ => none
 | n + 1, names, i => if i < (p.zones.length : Int) then (Option.bind (ixO p.zones i) fun e => Option.bind (r7_name F e.name names) fun rv => if rv = 0 then (Option.bind (r7_side F (Span.mk e.area_X_Lo e.area_X_Hi)) fun rv2 => if rv2 = true then (Option.bind (r7_side F (Span.mk e.area_Y_Lo e.area_Y_Hi)) fun rv3 => if rv3 = true then (Option.bind (r7_grade F e.grade) fun rv4 => if rv4 = true then (Option.bind (r7_in F e.room 1 8) fun rv5 => if rv5 = true then (r7_zones_J1 F (r7_zones_L1 F p K n) names i e rv) else (r7_zones_J1 F (r7_zones_L1 F p K n) names i e 7)) else (r7_zones_J1 F (r7_zones_L1 F p K n) names i e 7)) else (r7_zones_J1 F (r7_zones_L1 F p K n) names i e 7)) else (r7_zones_J1 F (r7_zones_L1 F p K n) names i e 7)) else (r7_zones_J1 F (r7_zones_L1 F p K n) names i e rv)) else (K names i)
def r7_zones (F : Nat) (p : PdPad) : Option (Int × Int) := r7_zones_L1 F p (fun (names : (List ByteArray)) (i : Int) => some (0, 0)) F ([] : List ByteArray) 0
theorem r7_zones_pc {F : Nat} {p : PdPad} {r : (Int × Int)} (h : r7_zones F p = some r) : PC Tryz.prog 103 [PdPad.d p] (.tup [.v (.int .i64 r.1), .v (.int .i64 r.2)]) := by
 rw [r7_zones] at h
 refine SC.of_sw Tryz.func103 R R R ?_
 dsimp only [argS, List.map]
 refine qG (q_box R (q_asgD R (q_asgD R (eN (qG (q_asgD R (eN (sw_seq (qG (q_asgD R (eN (sw_block ?_))))))))))))
 refine SW.own (ts' := [(1, .ref 0 7 0 0), (2, .d (vI 0)), (3, .d (vI 0)), (4, .row 1 1 0 (([] : List ByteArray)).length), (5, .d (vI 0))]) (L' := [some ⟨7, [.d (PdPad.d p)]⟩]) 1 R R (.cons (.same _) (.cons (.same _) (.cons (.same _) (.cons .nil (.cons (.same _) .nil))))) (.same .nil) ?_
 simp only [List.cons_append, List.nil_append]
 obtain ⟨K4, hK4, h⟩ : ∃ K, K = _ ∧ r7_zones_L1 F p K F ([] : List ByteArray) 0 = some r := ⟨_, rfl, h⟩
 refine sw_loopS (fun m st => ∃ (names : (List ByteArray)) (i : Int), r7_zones_L1 F p K4 m names i = some r ∧ st = ⟨[(1, .ref 0 7 0 0), (2, .d (vI 0)), (3, .d (vI 0)), (4, .row 1 1 0 (names).length), (5, .d (vI i))], [some ⟨7, [.d (PdPad.d p)]⟩, some (lvS names)]⟩) (.prn [1, 2, 3, 4, 5] R) ⟨([] : List ByteArray), 0, h, R⟩ ?_
 clear h
 rintro m4 st ⟨names, i, h, rfl⟩
 cases m4 with
 | zero => cases (show (none : Option (Int × Int)) = some r from h)
 | succ m4 =>
 rw [r7_zones_L1] at h
 refine sw_seq (qG (q_movD R (q_fa tb R (q_ldD (y := .arr 8 ((p.zones).map PdZone.d)) tb R (q_lenM tb R ?_)))))
 refine r_lss R R R R ?_ ?_
 ·intro c
  replace h := ifP c h
  refine eN (sw_condT R (sw_skip (then_norm (sw_seq (sw_block (qG (q_fa tb R (q_ldD (y := .arr 8 ((p.zones).map PdZone.d)) tb R (q_movD R ?_)))))))))
  obtain ⟨e, ie, h⟩ := bnd h
  refine q_ixE tb (ix0 ie) (ix1m ie) R (q_ldE (y := PdZone.d e) tb (ix2 (g := PdZone.d) ie) R (r_alloc tb R R R R R (q_stE _ _ tb R (eN (qG (q_fa tb R (q_ldD (y := .v (.string e.name)) tb R (r_movW R R R ?_))))))))
  obtain ⟨rv, hrv, h⟩ := bnd h
  refine r_callL (r7_name_pc hrv) R (.of (by kernel_rfl)) R R ((.cons (.d _) (.cons (.row R R) .nil))) R R (q_asgD R (eN (sw_seq ?_)))
  refine sw_join (fun zz : Int => r7_zones_J1 F (r7_zones_L1 F p K4 m4) names i e zz = some r) (fun zz : Int => ⟨[(1, .ref 0 7 0 0), (2, .d (vI 0)), (3, .d (vI 0)), (4, .row 1 1 0 (names).length), (5, .d (vI i)), (6, .ref 2 8 0 0), (7, .d (vI zz))], [some ⟨7, [.d (PdPad.d p)]⟩, some (lvS names), some ⟨8, [.d (PdZone.d e)]⟩]⟩) ?_ ?_
  ·clear h
   rintro e2 h
   rw [r7_zones_J1] at h
   refine sw_seq (qG (q_movD R ?_))
   refine r_neq R R R R ?_ ?_
   ·intro c7
    replace h := ifN c7 h
    refine eN (sw_condT R (qG (q_movD R (q_movD R (q_asgD R (q_asgD R (eN (sw_ret (then_ret (block_ret (then_ret (then_ret (block_ret (then_ret ?_))))))))))))))
    obtain rfl := sI h
    exact fin_0 (t := .d (.tup [vI i, vI e2])) R R R (.cons (.tmp 2) (.cons (.tmp 3) .nil))
   intro c7
   replace h := ifP c7 h
   refine eN (sw_condF R (sw_skip (then_norm (sw_rg (r_movW R R R (q_fa tb R (q_ldD (y := .v (.string e.name)) tb R (r_bslice tb R R R R R R R R R R R R R ?_))))))))
   obtain ⟨q, iq, h⟩ := bnd h
   refine r_apM (g := vS) (w := names) (v := [e.name]) ([some ⟨7, [.d (PdPad.d p)]⟩, none, some ⟨8, [.d (PdZone.d e)]⟩, some (lvS [e.name])]) tb R R R R R R R R R R R iq R R R R R (r_asgW R R R (ev_end (block_norm (then_norm (sw_rg (q_movD R (q_add R (q_asgD R (eN ?_)))))))))
   exact ⟨m4, ⟨[(1, .ref 0 7 0 0), (2, .d (vI 0)), (3, .d (vI 0)), (4, .row 1 1 0 (q).length), (5, .d (vI (W (i + 1))))], [some ⟨7, [.d (PdPad.d p)]⟩, some (lvS q)]⟩, Nat.lt_succ_self _, .vw (κ := [0, 4]) (vK (.cons R R (.row R .nil)) R), q, (W (i + 1)), h, R⟩
  refine qG (q_movD R ?_)
  refine r_eql R R R R ?_ ?_
  ·intro c2
   replace h := ifP c2 h
   refine q_movD R (q_fa tb R (q_fa tb R (q_ldD (y := .agg [vI e.area_X_Lo, vI e.area_X_Hi]) tb R ?_)))
   obtain ⟨rv2, hrv2, h⟩ := bnd h
   refine r_callB (r7_side_pc hrv2) (.of (by kernel_rfl)) R R R R ?_ ?_
   ·intro c3
    replace h := ifP c3 h
    refine r_notT R R R (q_movD R (q_fa tb R (q_fa tb R (q_ldD (y := .agg [vI e.area_Y_Lo, vI e.area_Y_Hi]) tb R ?_))))
    obtain ⟨rv3, hrv3, h⟩ := bnd h
    refine r_callB (r7_side_pc hrv3) (.of (by kernel_rfl)) R R R R ?_ ?_
    ·intro c4
     replace h := ifP c4 h
     refine r_notT R R R (q_pickF R (q_movD R (q_fa tb R (q_ldD (y := vI e.grade) tb R ?_))))
     obtain ⟨rv4, hrv4, h⟩ := bnd h
     refine r_callB (r7_grade_pc hrv4) (.of (by kernel_rfl)) R R R R ?_ ?_
     ·intro c5
      replace h := ifP c5 h
      refine r_notT R R R (q_pickF R (q_movD R (q_fa tb R (q_ldD (y := vI e.room) tb R ?_))))
      obtain ⟨rv5, hrv5, h⟩ := bnd h
      refine r_callB (r7_in_pc hrv5) (.of (by kernel_rfl)) R R R R ?_ ?_
      ·intro c6
       replace h := ifP c6 h
       refine r_notT R R R (q_pickF R (q_pickT R (eN (sw_condF R (sw_skip (then_norm ?_))))))
       exact .inl ⟨rv, h, .prn [1, 2, 3, 4, 5, 6, 7] R⟩
      intro c6
      replace h := ifF c6 h
      refine r_notF R R R (q_pickF R (q_pickT R (eN (sw_condT R (sw_rg (q_asgD R (eN ?_)))))))
      exact .inl ⟨7, h, .prn [1, 2, 3, 4, 5, 6, 7] R⟩
     intro c5
     replace h := ifF c5 h
     refine r_notF R R R (q_pickF R (q_movD R (q_sk 4 R (q_pickT R (q_pickT R (eN (sw_condT R (sw_rg (q_asgD R (eN ?_))))))))))
     exact .inl ⟨7, h, .prn [1, 2, 3, 4, 5, 6, 7] R⟩
    intro c4
    replace h := ifF c4 h
    refine r_notF R R R (q_pickF R (q_movD R (q_sk 4 R (q_pickT R (q_movD R (q_sk 4 R (q_pickT R (q_pickT R (eN (sw_condT R (sw_rg (q_asgD R (eN ?_)))))))))))))
    exact .inl ⟨7, h, .prn [1, 2, 3, 4, 5, 6, 7] R⟩
   intro c3
   replace h := ifF c3 h
   refine r_notF R R R (q_movD R (q_sk 5 R (q_pickT R (q_movD R (q_sk 4 R (q_pickT R (q_movD R (q_sk 4 R (q_pickT R (q_pickT R (eN (sw_condT R (sw_rg (q_asgD R (eN ?_)))))))))))))))
   exact .inl ⟨7, h, .prn [1, 2, 3, 4, 5, 6, 7] R⟩
  intro c2
  replace h := ifN c2 h
  refine q_movD R (q_sk 24 R (q_pickF R (eN (sw_condF R (sw_skip (then_norm ?_))))))
  exact .inl ⟨rv, h, .prn [1, 2, 3, 4, 5, 6, 7] R⟩
 intro c
 replace h := ifN (Int.not_lt.2 c) h
 refine eN (sw_condF R (sw_exit (then_exit (then_exit ?_))))
 subst hK4
 refine block_exit (then_norm (qG (q_asgD R (q_asgD R (eN (sw_ret ?_))))))
 obtain rfl := sI h
 exact fin_0 (t := .d (.tup [vI 0, vI 0])) R R R (.cons (.tmp 2) (.cons (.tmp 3) .nil))
def r7_zone (F : Nat) (p : PdPad) (nv : Int) : Option Bool := Option.bind (r7_in F nv 0 (W ((p.zones.length : Int) - 1))) fun rv => some rv
theorem r7_zone_pc {F : Nat} {p : PdPad} {nv : Int} {r : Bool} (h : r7_zone F p nv = some r) : PC Tryz.prog 38 [PdPad.d p, .v (.int .i64 nv)] (.v (.bool r)) := by
 rw [r7_zone] at h
 refine SC.of_sw Tryz.func38 R R R ?_
 dsimp only [argS, List.map]
 refine qG (q_box R (q_asgD R (eN (qG (q_movD R (q_fa tb R (q_ldD (y := .arr 8 ((p.zones).map PdZone.d)) tb R (q_lenM tb R (r_sub R R R R ?_)))))))))
 obtain ⟨rv, hrv, h⟩ := bnd h
 refine r_call (r7_in_pc hrv) (.of (by kernel_rfl)) R R R R (q_asgD R (eN (sw_ret ?_)))
 obtain rfl := sI h
 exact f1 4 R
def r7_doors_J1 (F : Nat) (B3 : Int → Option (Int × Int)) (i : Int) (e : PdDoor) : Option (Int × Int) := if e.a = e.b then (some (i, 2)) else (B3 (W (i + 1)))
def r7_doors_J2 (F : Nat) (i : Int) : Option (Int × Int) := some (i, 4)
def r7_doors_L1 (F : Nat) (p : PdPad) (K : Int → Option (Int × Int)) : Nat → Int → Option (Int × Int)
 | 0, _ => none
 | n + 1, i => if i < (p.doors.length : Int) then (Option.bind (ixO p.doors i) fun e => if e.a = (-1) then (if e.b = (-1) then (r7_doors_J1 F (r7_doors_L1 F p K n) i e) else (Option.bind (r7_zone F p e.b) fun rv3 => if rv3 = true then (r7_doors_J1 F (r7_doors_L1 F p K n) i e) else (r7_doors_J2 F i))) else (Option.bind (r7_zone F p e.a) fun rv => if rv = true then (if e.b = (-1) then (r7_doors_J1 F (r7_doors_L1 F p K n) i e) else (Option.bind (r7_zone F p e.b) fun rv2 => if rv2 = true then (r7_doors_J1 F (r7_doors_L1 F p K n) i e) else (r7_doors_J2 F i))) else (r7_doors_J2 F i))) else (K i)
def r7_doors (F : Nat) (p : PdPad) : Option (Int × Int) := r7_doors_L1 F p (fun (i : Int) => some (0, 0)) F 0
theorem r7_doors_pc {F : Nat} {p : PdPad} {r : (Int × Int)} (h : r7_doors F p = some r) : PC Tryz.prog 104 [PdPad.d p] (.tup [.v (.int .i64 r.1), .v (.int .i64 r.2)]) := by
 rw [r7_doors] at h
 refine SC.of_sw Tryz.func104 R R R ?_
 dsimp only [argS, List.map]
 refine qG (q_box R (q_asgD R (q_asgD R (eN (sw_seq (qG (q_asgD R (eN (sw_block ?_)))))))))
 obtain ⟨K3, hK3, h⟩ : ∃ K, K = _ ∧ r7_doors_L1 F p K F 0 = some r := ⟨_, rfl, h⟩
 refine sw_loopS (fun m st => ∃ (i : Int), r7_doors_L1 F p K3 m i = some r ∧ st = ⟨[(1, .ref 0 7 0 0), (2, .d (vI 0)), (3, .d (vI 0)), (4, .d (vI i))], [some ⟨7, [.d (PdPad.d p)]⟩]⟩) (.prn [1, 2, 3, 4] R) ⟨0, h, R⟩ ?_
 clear h
 rintro m3 st ⟨i, h, rfl⟩
 cases m3 with
 | zero => cases (show (none : Option (Int × Int)) = some r from h)
 | succ m3 =>
 rw [r7_doors_L1] at h
 refine sw_seq (qG (q_movD R (q_fa tb R (q_ldD (y := .arr 2 ((p.doors).map PdDoor.d)) tb R (q_lenM tb R ?_)))))
 refine r_lss R R R R ?_ ?_
 ·intro c
  replace h := ifP c h
  refine eN (sw_condT R (sw_skip (then_norm (sw_seq (sw_block (qG (q_fa tb R (q_ldD (y := .arr 2 ((p.doors).map PdDoor.d)) tb R (q_movD R ?_)))))))))
  obtain ⟨e, ie, h⟩ := bnd h
  refine q_ixE tb (ix0 ie) (ix1m ie) R (q_ldE (y := PdDoor.d e) tb (ix2 (g := PdDoor.d) ie) R (r_alloc tb R R R R R (q_stE _ _ tb R (eN (sw_seq ?_)))))
  refine sw_join (fun zz : Unit => r7_doors_J1 F (r7_doors_L1 F p K3 m3) i e = some r) (fun zz : Unit => ⟨[(1, .ref 0 7 0 0), (2, .d (vI 0)), (3, .d (vI 0)), (4, .d (vI i)), (5, .ref 1 2 0 0)], [some ⟨7, [.d (PdPad.d p)]⟩, some ⟨2, [.d (PdDoor.d e)]⟩]⟩) ?_ ?_
  ·clear h
   rintro ⟨⟩ h
   rw [r7_doors_J1] at h
   refine qG (q_fa tb R (q_ldD (y := vI e.a) tb R (q_fa tb R (q_ldD (y := vI e.b) tb R ?_))))
   refine r_eql R R R R ?_ ?_
   ·intro c8
    replace h := ifP c8 h
    refine eN (sw_condT R (qG (q_movD R (q_asgD R (q_asgD R (eN (sw_ret (block_ret (then_ret (then_ret (block_ret (then_ret ?_))))))))))))
    obtain rfl := sI h
    exact fin_0 (t := .d (.tup [vI i, vI 2])) R R R (.cons (.tmp 2) (.cons (.tmp 3) .nil))
   intro c8
   replace h := ifN c8 h
   refine eN (sw_condF R (sw_skip (block_norm (then_norm (sw_rg (q_movD R (q_add R (q_asgD R (eN ?_)))))))))
   exact ⟨m3, ⟨[(1, .ref 0 7 0 0), (2, .d (vI 0)), (3, .d (vI 0)), (4, .d (vI (W (i + 1))))], [some ⟨7, [.d (PdPad.d p)]⟩]⟩, Nat.lt_succ_self _, .vw (κ := [0]) (vK (.cons R R .nil) R), (W (i + 1)), h, R⟩
  refine sw_seq ?_
  refine sw_join (fun zz : Unit => r7_doors_J2 F i = some r) (fun zz : Unit => ⟨[(1, .ref 0 7 0 0), (2, .d (vI 0)), (3, .d (vI 0)), (4, .d (vI i)), (5, .ref 1 2 0 0), (39, .d (.v (.bool true)))], [some ⟨7, [.d (PdPad.d p)]⟩, some ⟨2, [.d (PdDoor.d e)]⟩]⟩) ?_ ?_
  ·clear h
   rintro ⟨⟩ h
   rw [r7_doors_J2] at h
   refine sw_condT R (qG (q_movD R (q_asgD R (q_asgD R (eN (sw_ret (then_ret (block_ret (then_ret (then_ret (block_ret (then_ret ?_))))))))))))
   obtain rfl := sI h
   exact fin_0 (t := .d (.tup [vI i, vI 4])) R R R (.cons (.tmp 2) (.cons (.tmp 3) .nil))
  refine sw_rg (q_fa tb R (q_ldD (y := vI e.a) tb R ?_))
  refine r_neq R R R R ?_ ?_
  ·intro c2
   replace h := ifN c2 h
   refine q_movD R (q_ldD (y := PdPad.d p) tb R (q_fa tb R (q_ldD (y := vI e.a) tb R ?_)))
   obtain ⟨rv, hrv, h⟩ := bnd h
   refine r_callB (r7_zone_pc hrv) (.of (by kernel_rfl)) R R R R ?_ ?_
   ·intro c3
    replace h := ifP c3 h
    refine r_notT R R R (q_pickT R (q_movD R (q_fa tb R (q_ldD (y := vI e.b) tb R ?_))))
    refine r_neq R R R R ?_ ?_
    ·intro c4
     replace h := ifN c4 h
     refine q_movD R (q_ldD (y := PdPad.d p) tb R (q_fa tb R (q_ldD (y := vI e.b) tb R ?_)))
     obtain ⟨rv2, hrv2, h⟩ := bnd h
     refine r_callB (r7_zone_pc hrv2) (.of (by kernel_rfl)) R R R R ?_ ?_
     ·intro c5
      replace h := ifP c5 h
      refine r_notT R R R (q_pickT R (q_pickF R (eN (.inr (sw_condF R (sw_skip (then_norm ?_)))))))
      exact .inl ⟨(), h, .prn [1, 2, 3, 4, 5] R⟩
     intro c5
     replace h := ifF c5 h
     refine r_notF R R R (q_pickT R (q_pickF R (eN ?_)))
     exact .inl ⟨(), h, .prn [1, 2, 3, 4, 5, 39] R⟩
    intro c4
    replace h := ifP c4 h
    refine q_movD R (q_sk 5 R (q_pickF R (q_pickF R (eN (.inr (sw_condF R (sw_skip (then_norm ?_))))))))
    exact .inl ⟨(), h, .prn [1, 2, 3, 4, 5] R⟩
   intro c3
   replace h := ifF c3 h
   refine r_notF R R R (q_pickT R (q_movD R (q_sk 10 R (q_pickT R (eN ?_)))))
   exact .inl ⟨(), h, .prn [1, 2, 3, 4, 5, 39] R⟩
  intro c2
  replace h := ifP c2 h
  refine q_movD R (q_sk 5 R (q_pickF R (q_movD R (q_fa tb R (q_ldD (y := vI e.b) tb R ?_)))))
  refine r_neq R R R R ?_ ?_
  ·intro c6
   replace h := ifN c6 h
   refine q_movD R (q_ldD (y := PdPad.d p) tb R (q_fa tb R (q_ldD (y := vI e.b) tb R ?_)))
   obtain ⟨rv3, hrv3, h⟩ := bnd h
   refine r_callB (r7_zone_pc hrv3) (.of (by kernel_rfl)) R R R R ?_ ?_
   ·intro c7
    replace h := ifP c7 h
    refine r_notT R R R (q_pickT R (q_pickF R (eN (.inr (sw_condF R (sw_skip (then_norm ?_)))))))
    exact .inl ⟨(), h, .prn [1, 2, 3, 4, 5] R⟩
   intro c7
   replace h := ifF c7 h
   refine r_notF R R R (q_pickT R (q_pickF R (eN ?_)))
   exact .inl ⟨(), h, .prn [1, 2, 3, 4, 5, 39] R⟩
  intro c6
  replace h := ifP c6 h
  refine q_movD R (q_sk 5 R (q_pickF R (q_pickF R (eN (.inr (sw_condF R (sw_skip (then_norm ?_))))))))
  exact .inl ⟨(), h, .prn [1, 2, 3, 4, 5] R⟩
 intro c
 replace h := ifN (Int.not_lt.2 c) h
 refine eN (sw_condF R (sw_exit (then_exit (then_exit ?_))))
 subst hK3
 refine block_exit (then_norm (qG (q_asgD R (q_asgD R (eN (sw_ret ?_))))))
 obtain rfl := sI h
 exact fin_0 (t := .d (.tup [vI 0, vI 0])) R R R (.cons (.tmp 2) (.cons (.tmp 3) .nil))
def r7_people_J1 (F : Nat) (B4 : (List ByteArray) → Int → Option (Int × Int)) (names : (List ByteArray)) (i : Int) (e : PdPerson) (e2 : Int) : Option (Int × Int) := if e2 = 0 then (Option.bind (appO names [e.name]) fun q => B4 q (W (i + 1))) else (some (i, e2))
def r7_people_L1 (F : Nat) (p : PdPad) (K : (List ByteArray) → Int → Option (Int × Int)) : Nat → (List ByteArray) → Int → Option (Int × Int)
 | 0, _, _ => none
 | n + 1, names, i => if i < (p.people.length : Int) then (Option.bind (ixO p.people i) fun e => Option.bind (r7_name F e.name names) fun rv => if rv = 0 then (Option.bind (r7_grade F e.grade) fun rv2 => if rv2 = true then (r7_people_J1 F (r7_people_L1 F p K n) names i e rv) else (r7_people_J1 F (r7_people_L1 F p K n) names i e 7)) else (r7_people_J1 F (r7_people_L1 F p K n) names i e rv)) else (K names i)
def r7_people (F : Nat) (p : PdPad) : Option (Int × Int) := r7_people_L1 F p (fun (names : (List ByteArray)) (i : Int) => some (0, 0)) F ([] : List ByteArray) 0
theorem r7_people_pc {F : Nat} {p : PdPad} {r : (Int × Int)} (h : r7_people F p = some r) : PC Tryz.prog 105 [PdPad.d p] (.tup [.v (.int .i64 r.1), .v (.int .i64 r.2)]) := by
 rw [r7_people] at h
 refine SC.of_sw Tryz.func105 R R R ?_
 dsimp only [argS, List.map]
 refine qG (q_box R (q_asgD R (q_asgD R (eN (qG (q_asgD R (eN (sw_seq (qG (q_asgD R (eN (sw_block ?_))))))))))))
 refine SW.own (ts' := [(1, .ref 0 7 0 0), (2, .d (vI 0)), (3, .d (vI 0)), (4, .row 1 1 0 (([] : List ByteArray)).length), (5, .d (vI 0))]) (L' := [some ⟨7, [.d (PdPad.d p)]⟩]) 1 R R (.cons (.same _) (.cons (.same _) (.cons (.same _) (.cons .nil (.cons (.same _) .nil))))) (.same .nil) ?_
 simp only [List.cons_append, List.nil_append]
 obtain ⟨K4, hK4, h⟩ : ∃ K, K = _ ∧ r7_people_L1 F p K F ([] : List ByteArray) 0 = some r := ⟨_, rfl, h⟩
 refine sw_loopS (fun m st => ∃ (names : (List ByteArray)) (i : Int), r7_people_L1 F p K4 m names i = some r ∧ st = ⟨[(1, .ref 0 7 0 0), (2, .d (vI 0)), (3, .d (vI 0)), (4, .row 1 1 0 (names).length), (5, .d (vI i))], [some ⟨7, [.d (PdPad.d p)]⟩, some (lvS names)]⟩) (.prn [1, 2, 3, 4, 5] R) ⟨([] : List ByteArray), 0, h, R⟩ ?_
 clear h
 rintro m4 st ⟨names, i, h, rfl⟩
 cases m4 with
 | zero => cases (show (none : Option (Int × Int)) = some r from h)
 | succ m4 =>
 rw [r7_people_L1] at h
 refine sw_seq (qG (q_movD R (q_fa tb R (q_ldD (y := .arr 2 ((p.people).map PdPerson.d)) tb R (q_lenM tb R ?_)))))
 refine r_lss R R R R ?_ ?_
 ·intro c
  replace h := ifP c h
  refine eN (sw_condT R (sw_skip (then_norm (sw_seq (sw_block (qG (q_fa tb R (q_ldD (y := .arr 2 ((p.people).map PdPerson.d)) tb R (q_movD R ?_)))))))))
  obtain ⟨e, ie, h⟩ := bnd h
  refine q_ixE tb (ix0 ie) (ix1m ie) R (q_faE tb R (q_ldE (y := .v (.string e.name)) tb (ix2 (g := PdPerson.d) ie) R (r_movW R R R ?_)))
  obtain ⟨rv, hrv, h⟩ := bnd h
  refine r_callL (r7_name_pc hrv) R (.of (by kernel_rfl)) R R ((.cons (.d _) (.cons (.row R R) .nil))) R R (q_asgD R (eN (sw_seq ?_)))
  refine sw_join (fun zz : Int => r7_people_J1 F (r7_people_L1 F p K4 m4) names i e zz = some r) (fun zz : Int => ⟨[(1, .ref 0 7 0 0), (2, .d (vI 0)), (3, .d (vI 0)), (4, .row 1 1 0 (names).length), (5, .d (vI i)), (6, .d (vI zz))], [some ⟨7, [.d (PdPad.d p)]⟩, some (lvS names)]⟩) ?_ ?_
  ·clear h
   rintro e2 h
   rw [r7_people_J1] at h
   refine sw_seq (qG (q_movD R ?_))
   refine r_neq R R R R ?_ ?_
   ·intro c4
    replace h := ifN c4 h
    refine eN (sw_condT R (qG (q_movD R (q_movD R (q_asgD R (q_asgD R (eN (sw_ret (then_ret (block_ret (then_ret (then_ret (block_ret (then_ret ?_))))))))))))))
    obtain rfl := sI h
    exact fin_0 (t := .d (.tup [vI i, vI e2])) R R R (.cons (.tmp 2) (.cons (.tmp 3) .nil))
   intro c4
   replace h := ifP c4 h
   refine eN (sw_condF R (sw_skip (then_norm (sw_rg (r_movW R R R (q_fa tb R (q_ldD (y := .arr 2 ((p.people).map PdPerson.d)) tb R (q_movD R (q_ixE tb (ix0 ie) (ix1m ie) R (q_faE tb R (q_ldE (y := .v (.string e.name)) tb (ix2 (g := PdPerson.d) ie) R (r_bslice tb R R R R R R R R R R R R R ?_))))))))))))
   obtain ⟨q, iq, h⟩ := bnd h
   refine r_apM (g := vS) (w := names) (v := [e.name]) ([some ⟨7, [.d (PdPad.d p)]⟩, none, some (lvS [e.name])]) tb R R R R R R R R R R R iq R R R R R (r_asgW R R R (ev_end (block_norm (then_norm (sw_rg (q_movD R (q_add R (q_asgD R (eN ?_)))))))))
   exact ⟨m4, ⟨[(1, .ref 0 7 0 0), (2, .d (vI 0)), (3, .d (vI 0)), (4, .row 1 1 0 (q).length), (5, .d (vI (W (i + 1))))], [some ⟨7, [.d (PdPad.d p)]⟩, some (lvS q)]⟩, Nat.lt_succ_self _, .vw (κ := [0, 3]) (vK (.cons R R (.row R .nil)) R), q, (W (i + 1)), h, R⟩
  refine qG (q_movD R ?_)
  refine r_eql R R R R ?_ ?_
  ·intro c2
   replace h := ifP c2 h
   refine q_movD R (q_fa tb R (q_ldD (y := .arr 2 ((p.people).map PdPerson.d)) tb R (q_movD R (q_ixE tb (ix0 ie) (ix1m ie) R (q_faE tb R (q_ldE (y := vI e.grade) tb (ix2 (g := PdPerson.d) ie) R ?_))))))
   obtain ⟨rv2, hrv2, h⟩ := bnd h
   refine r_callB (r7_grade_pc hrv2) (.of (by kernel_rfl)) R R R R ?_ ?_
   ·intro c3
    replace h := ifP c3 h
    refine r_notT R R R (q_pickT R (eN (sw_condF R (sw_skip (then_norm ?_)))))
    exact .inl ⟨rv, h, .prn [1, 2, 3, 4, 5, 6] R⟩
   intro c3
   replace h := ifF c3 h
   refine r_notF R R R (q_pickT R (eN (sw_condT R (sw_rg (q_asgD R (eN ?_))))))
   exact .inl ⟨7, h, .prn [1, 2, 3, 4, 5, 6] R⟩
  intro c2
  replace h := ifN c2 h
  refine q_movD R (q_sk 8 R (q_pickF R (eN (sw_condF R (sw_skip (then_norm ?_))))))
  exact .inl ⟨rv, h, .prn [1, 2, 3, 4, 5, 6] R⟩
 intro c
 replace h := ifN (Int.not_lt.2 c) h
 refine eN (sw_condF R (sw_exit (then_exit (then_exit ?_))))
 subst hK4
 refine block_exit (then_norm (qG (q_asgD R (q_asgD R (eN (sw_ret ?_))))))
 obtain rfl := sI h
 exact fin_0 (t := .d (.tup [vI 0, vI 0])) R R R (.cons (.tmp 2) (.cons (.tmp 3) .nil))
def r7_squib_L1 (F : Nat) (e2 : PdSquib) (K : Int → Option Int) : Nat → Int → Option Int
 | 0, _ => none
 | n + 1, x2 => if x2 < (e2.keys.length : Int) then (Option.bind (ixO e2.keys x2) fun e4 => Option.bind (ixO e2.keys (W (x2 - 1))) fun e5 => if e4 ≤ e5 then (some 2) else (r7_squib_L1 F e2 K n (W (x2 + 1)))) else (K x2)
def r7_squib_L2 (F : Nat) (t : PdPad) (e2 : PdSquib) (K : Int → Option Int) : Nat → Int → Option Int
 | 0, _ => none
 | n + 1, x => if x < (e2.keys.length : Int) then (Option.bind (ixO e2.keys x) fun e3 => Option.bind (r7_in F e3 0 (W ((t.keys.length : Int) - 1))) fun rv6 => if rv6 = true then (r7_squib_L2 F t e2 K n (W (x + 1))) else (some 4)) else (K x)
def r7_squib_J1 (F : Nat) (t : PdPad) (e2 : PdSquib) : Option Int := if (e2.keys.length : Int) = 0 then (some 4) else (r7_squib_L2 F t e2 (fun (x : Int) => r7_squib_L1 F e2 (fun (x2 : Int) => some 0) F 1) F 0)
def r7_squib_J2 (F : Nat)  : Option Int := some 7
def r7_squib_L3 (F : Nat) (t : PdPad) (o : Int) (K : (List ByteArray) → Int → Option Int) : Nat → (List ByteArray) → Int → Option Int
 | 0, _, _ => none
 | n + 1, a, y => if y < o then (Option.bind (ixO t.squibs y) fun e => Option.bind (appO a [e.name]) fun q => r7_squib_L3 F t o K n q (W (y + 1))) else (K a y)
def r7_squib (F : Nat) (t : PdPad) (o : Int) : Option Int := r7_squib_L3 F t o (fun (a : (List ByteArray)) (y : Int) => Option.bind (ixO t.squibs o) fun e2 => Option.bind (r7_name F e2.name a) fun rv => if rv = 0 then (Option.bind (r7_place F e2.at_X) fun rv2 => if rv2 = true then (Option.bind (r7_place F e2.at_Y) fun rv3 => if rv3 = true then (Option.bind (r7_in F e2.clear 0 10000000) fun rv4 => if rv4 = true then (Option.bind (r7_grade F e2.grade) fun rv5 => if rv5 = true then (r7_squib_J1 F t e2) else (r7_squib_J2 F)) else (r7_squib_J2 F)) else (r7_squib_J2 F)) else (r7_squib_J2 F)) else (some rv)) F ([] : List ByteArray) 0
theorem r7_squib_pc {F : Nat} {t : PdPad} {o : Int} {r : Int} (h : r7_squib F t o = some r) : PC Tryz.prog 107 [PdPad.d t, .v (.int .i64 o)] (.v (.int .i64 r)) := by
 rw [r7_squib] at h
 refine SC.of_sw Tryz.func107 R R R ?_
 dsimp only [argS, List.map]
 refine qG (q_box R (q_asgD R (eN (qG (q_asgD R (eN (sw_seq (qG (q_asgD R (eN (sw_block ?_)))))))))))
 refine SW.own (ts' := [(1, .d (vI o)), (2, .ref 0 7 0 0), (4, .d (vI 0)), (5, .row 1 1 0 (([] : List ByteArray)).length), (6, .d (vI 0))]) (L' := [some ⟨7, [.d (PdPad.d t)]⟩]) 1 R R (.cons (.same _) (.cons (.same _) (.cons (.same _) (.cons .nil (.cons (.same _) .nil))))) (.same .nil) ?_
 simp only [List.cons_append, List.nil_append]
 obtain ⟨K4, hK4, h⟩ : ∃ K, K = _ ∧ r7_squib_L3 F t o K F ([] : List ByteArray) 0 = some r := ⟨_, rfl, h⟩
 refine sw_loopS (fun m st => ∃ (a : (List ByteArray)) (y : Int), r7_squib_L3 F t o K4 m a y = some r ∧ st = ⟨[(1, .d (vI o)), (2, .ref 0 7 0 0), (4, .d (vI 0)), (5, .row 1 1 0 (a).length), (6, .d (vI y))], [some ⟨7, [.d (PdPad.d t)]⟩, some (lvS a)]⟩) (.prn [1, 2, 4, 5, 6] R) ⟨([] : List ByteArray), 0, h, R⟩ ?_
 clear h
 rintro m4 st ⟨a, y, h, rfl⟩
 cases m4 with
 | zero => cases (show (none : Option Int) = some r from h)
 | succ m4 =>
 rw [r7_squib_L3] at h
 refine sw_seq (qG (q_movD R (q_movD R ?_)))
 refine r_lss R R R R ?_ ?_
 ·intro c
  replace h := ifP c h
  refine eN (sw_condT R (sw_skip (then_norm (sw_seq (sw_block (sw_rg (r_movW R R R (q_fa tb R (q_ldD (y := .arr 6 ((t.squibs).map PdSquib.d)) tb R (q_movD R ?_))))))))))
  obtain ⟨e, ie, h⟩ := bnd h
  refine q_ixE tb (ix0 ie) (ix1m ie) R (q_faE tb R (q_ldE (y := .v (.string e.name)) tb (ix2 (g := PdSquib.d) ie) R (r_bslice tb R R R R R R R R R R R R R ?_)))
  obtain ⟨q, iq, h⟩ := bnd h
  refine r_apM (g := vS) (w := a) (v := [e.name]) ([some ⟨7, [.d (PdPad.d t)]⟩, none, some (lvS [e.name])]) tb R R R R R R R R R R R iq R R R R R (r_asgW R R R (ev_end (block_norm (then_norm (sw_rg (q_movD R (q_add R (q_asgD R (eN ?_)))))))))
  exact ⟨m4, ⟨[(1, .d (vI o)), (2, .ref 0 7 0 0), (4, .d (vI 0)), (5, .row 1 1 0 (q).length), (6, .d (vI (W (y + 1))))], [some ⟨7, [.d (PdPad.d t)]⟩, some (lvS q)]⟩, Nat.lt_succ_self _, .vw (κ := [0, 3]) (vK (.cons R R (.row R .nil)) R), q, (W (y + 1)), h, R⟩
 intro c
 replace h := ifN (Int.not_lt.2 c) h
 refine eN (sw_condF R (sw_exit (then_exit (then_exit ?_))))
 subst hK4
 refine block_exit (then_norm (qG (q_fa tb R (q_ldD (y := .arr 6 ((t.squibs).map PdSquib.d)) tb R (q_movD R ?_)))))
 obtain ⟨e2, ie2, h⟩ := bnd h
 refine q_ixE tb (ix0 ie2) (ix1m ie2) R (q_ldE (y := PdSquib.d e2) tb (ix2 (g := PdSquib.d) ie2) R (r_alloc tb R R R R R (q_stE _ _ tb R (eN (qG (q_fa tb R (q_ldD (y := .v (.string e2.name)) tb R (r_movW R R R ?_))))))))
 obtain ⟨rv, hrv, h⟩ := bnd h
 refine r_callL (r7_name_pc hrv) R (.of (by kernel_rfl)) R R ((.cons (.d _) (.cons (.row R R) .nil))) R R (q_asgD R (eN (sw_seq (qG (q_movD R ?_)))))
 refine r_neq R R R R ?_ ?_
 ·intro c2
  replace h := ifN c2 h
  refine eN (sw_condT R (qG (q_movD R (q_asgD R (eN (sw_ret (then_ret ?_)))))))
  obtain rfl := sI h
  exact f1 4 R
 intro c2
 replace h := ifP c2 h
 refine eN (sw_condF R (sw_skip (then_norm (sw_seq ?_))))
 refine sw_join (fun zz : Unit => r7_squib_J1 F t e2 = some r) (fun zz : Unit => ⟨[(2, .ref 0 7 0 0), (4, .d (vI 0)), (7, .ref 1 6 0 0)], [some ⟨7, [.d (PdPad.d t)]⟩, some ⟨6, [.d (PdSquib.d e2)]⟩]⟩) ?_ ?_
 ·clear h
  rintro ⟨⟩ h
  rw [r7_squib_J1] at h
  refine sw_seq (qG (q_fa tb R (q_ldD (y := .arr 1 ((e2.keys).map vI)) tb R (q_lenM tb R ?_))))
  refine r_eql R R R R ?_ ?_
  ·intro c7
   replace h := ifP c7 h
   refine eN (sw_condT R (qG (q_asgD R (eN (sw_ret (then_ret ?_))))))
   obtain rfl := sI h
   exact f1 4 R
  intro c7
  replace h := ifN c7 h
  refine eN (sw_condF R (sw_skip (then_norm (sw_seq (qG (q_asgD R (eN (sw_block ?_))))))))
  obtain ⟨K7, hK7, h⟩ : ∃ K, K = _ ∧ r7_squib_L2 F t e2 K F 0 = some r := ⟨_, rfl, h⟩
  refine sw_loopS (fun m st => ∃ (x : Int), r7_squib_L2 F t e2 K7 m x = some r ∧ st = ⟨[(2, .ref 0 7 0 0), (4, .d (vI 0)), (7, .ref 1 6 0 0), (9, .d (vI x))], [some ⟨7, [.d (PdPad.d t)]⟩, some ⟨6, [.d (PdSquib.d e2)]⟩]⟩) (.prn [2, 4, 7, 9] R) ⟨0, h, R⟩ ?_
  clear h
  rintro m7 st ⟨x, h, rfl⟩
  cases m7 with
  | zero => cases (show (none : Option Int) = some r from h)
  | succ m7 =>
  rw [r7_squib_L2] at h
  refine sw_seq (qG (q_movD R (q_fa tb R (q_ldD (y := .arr 1 ((e2.keys).map vI)) tb R (q_lenM tb R ?_)))))
  refine r_lss R R R R ?_ ?_
  ·intro c8
   replace h := ifP c8 h
   refine eN (sw_condT R (sw_skip (then_norm (sw_seq (sw_block (sw_seq (sw_dr (by kernel_rfl) (q_fa tb R (q_ldD (y := .arr 1 ((e2.keys).map vI)) tb R (q_movD R ?_))))))))))
   obtain ⟨e3, ie3, h⟩ := bnd h
   refine q_ixE tb (ix0 ie3) (ix1m ie3) R (q_ldE (y := vI e3) tb (ix2 (g := vI) ie3) R (q_fa tb R (q_ldD (y := .arr 1 ((t.keys).map vS)) tb R (q_lenM tb R (r_sub R R R R ?_)))))
   obtain ⟨rv6, hrv6, h⟩ := bnd h
   refine r_callB (r7_in_pc hrv6) (.of (by kernel_rfl)) R R R R ?_ ?_
   ·intro c9
    replace h := ifP c9 h
    refine r_notT R R R (ev_endD (by kernel_rfl) (then_norm (sw_condF R (sw_skip (block_norm (then_norm (sw_rg (q_movD R (q_add R (q_asgD R (eN ?_)))))))))))
    exact ⟨m7, _, Nat.lt_succ_self _, .prn [2, 4, 7, 9] R, (W (x + 1)), h, R⟩
   intro c9
   replace h := ifF c9 h
   refine r_notF R R R (ev_endD (by kernel_rfl) (then_norm (sw_condT R (qG (q_asgD R (eN (sw_ret (block_ret (then_ret (then_ret (block_ret (then_ret ?_))))))))))))
   obtain rfl := sI h
   exact f1 4 R
  intro c8
  replace h := ifN (Int.not_lt.2 c8) h
  refine eN (sw_condF R (sw_exit (then_exit (then_exit ?_))))
  subst hK7
  refine block_exit (then_norm (sw_seq (qG (q_asgD R (eN (sw_block ?_))))))
  obtain ⟨K10, hK10, h⟩ : ∃ K, K = _ ∧ r7_squib_L1 F e2 K F 1 = some r := ⟨_, rfl, h⟩
  refine sw_loopS (st0 := ⟨[(4, .d (vI 0)), (7, .ref 0 6 0 0), (10, .d (vI 1))], [some ⟨6, [.d (PdSquib.d e2)]⟩]⟩) (fun m st => ∃ (x2 : Int), r7_squib_L1 F e2 K10 m x2 = some r ∧ st = ⟨[(4, .d (vI 0)), (7, .ref 0 6 0 0), (10, .d (vI x2))], [some ⟨6, [.d (PdSquib.d e2)]⟩]⟩) (.vw (κ := [1]) (vK (.cons R R .nil) R)) ⟨1, h, R⟩ ?_
  clear h
  rintro m10 st ⟨x2, h, rfl⟩
  cases m10 with
  | zero => cases (show (none : Option Int) = some r from h)
  | succ m10 =>
  rw [r7_squib_L1] at h
  refine sw_seq (qG (q_movD R (q_fa tb R (q_ldD (y := .arr 1 ((e2.keys).map vI)) tb R (q_lenM tb R ?_)))))
  refine r_lss R R R R ?_ ?_
  ·intro c10
   replace h := ifP c10 h
   refine eN (sw_condT R (sw_skip (then_norm (sw_seq (sw_block (sw_seq (sw_dr (by kernel_rfl) (q_fa tb R (q_ldD (y := .arr 1 ((e2.keys).map vI)) tb R (q_movD R ?_))))))))))
   obtain ⟨e4, ie4, h⟩ := bnd h
   refine q_ixE tb (ix0 ie4) (ix1m ie4) R (q_ldE (y := vI e4) tb (ix2 (g := vI) ie4) R (q_fa tb R (q_ldD (y := .arr 1 ((e2.keys).map vI)) tb R (q_movD R (r_sub R R R R ?_)))))
   obtain ⟨e5, ie5, h⟩ := bnd h
   refine q_ixE tb (ix0 ie5) (ix1m ie5) R (q_ldE (y := vI e5) tb (ix2 (g := vI) ie5) R ?_)
   refine r_leq R R R R ?_ ?_
   ·intro c11
    replace h := ifP c11 h
    refine ev_endD (by kernel_rfl) (then_norm (sw_condT R (qG (q_asgD R (eN (sw_ret (block_ret (then_ret (then_ret (block_ret (then_ret ?_)))))))))))
    obtain rfl := sI h
    exact f1 4 R
   intro c11
   replace h := ifN (Int.not_le.2 c11) h
   refine ev_endD (by kernel_rfl) (then_norm (sw_condF R (sw_skip (block_norm (then_norm (sw_rg (q_movD R (q_add R (q_asgD R (eN ?_))))))))))
   exact ⟨m10, _, Nat.lt_succ_self _, .prn [4, 7, 10] R, (W (x2 + 1)), h, R⟩
  intro c10
  replace h := ifN (Int.not_lt.2 c10) h
  refine eN (sw_condF R (sw_exit (then_exit (then_exit ?_))))
  subst hK10
  refine block_exit (then_norm (qG (q_asgD R (eN (sw_ret ?_)))))
  obtain rfl := sI h
  exact f1 4 R
 refine sw_seq ?_
 refine sw_join (fun zz : Unit => r7_squib_J2 F = some r) (fun zz : Unit => ⟨[(2, .ref 0 7 0 0), (4, .d (vI 0)), (7, .ref 1 6 0 0), (60, .d (.v (.bool true)))], [some ⟨7, [.d (PdPad.d t)]⟩, some ⟨6, [.d (PdSquib.d e2)]⟩]⟩) ?_ ?_
 ·clear h
  rintro ⟨⟩ h
  rw [r7_squib_J2] at h
  refine sw_condT R (qG (q_asgD R (eN (sw_ret (then_ret ?_)))))
  obtain rfl := sI h
  exact f1 4 R
 refine sw_rg (q_fa tb R (q_fa tb R (q_ldD (y := vI e2.at_X) tb R ?_)))
 obtain ⟨rv2, hrv2, h⟩ := bnd h
 refine r_callB (r7_place_pc hrv2) (.of (by kernel_rfl)) R R R R ?_ ?_
 ·intro c3
  replace h := ifP c3 h
  refine r_notT R R R (q_movD R (q_fa tb R (q_fa tb R (q_ldD (y := vI e2.at_Y) tb R ?_))))
  obtain ⟨rv3, hrv3, h⟩ := bnd h
  refine r_callB (r7_place_pc hrv3) (.of (by kernel_rfl)) R R R R ?_ ?_
  ·intro c4
   replace h := ifP c4 h
   refine r_notT R R R (q_pickF R (q_movD R (q_fa tb R (q_ldD (y := vI e2.clear) tb R ?_))))
   obtain ⟨rv4, hrv4, h⟩ := bnd h
   refine r_callB (r7_in_pc hrv4) (.of (by kernel_rfl)) R R R R ?_ ?_
   ·intro c5
    replace h := ifP c5 h
    refine r_notT R R R (q_pickF R (q_movD R (q_fa tb R (q_ldD (y := vI e2.grade) tb R ?_))))
    obtain ⟨rv5, hrv5, h⟩ := bnd h
    refine r_callB (r7_grade_pc hrv5) (.of (by kernel_rfl)) R R R R ?_ ?_
    ·intro c6
     replace h := ifP c6 h
     refine r_notT R R R (q_pickF R (eN (.inr (sw_condF R (sw_skip (then_norm ?_))))))
     exact .inl ⟨(), h, .vw (κ := [0, 2]) (vK (.cons R R (.cons R R .nil)) R)⟩
    intro c6
    replace h := ifF c6 h
    refine r_notF R R R (q_pickF R (eN ?_))
    exact .inl ⟨(), h, .vw (κ := [0, 2]) (vK (.cons R R (.cons R R .nil)) R)⟩
   intro c5
   replace h := ifF c5 h
   refine r_notF R R R (q_pickF R (q_movD R (q_sk 4 R (q_pickT R (eN ?_)))))
   exact .inl ⟨(), h, .vw (κ := [0, 2]) (vK (.cons R R (.cons R R .nil)) R)⟩
  intro c4
  replace h := ifF c4 h
  refine r_notF R R R (q_pickF R (q_movD R (q_sk 4 R (q_pickT R (q_movD R (q_sk 4 R (q_pickT R (eN ?_))))))))
  exact .inl ⟨(), h, .vw (κ := [0, 2]) (vK (.cons R R (.cons R R .nil)) R)⟩
 intro c3
 replace h := ifF c3 h
 refine r_notF R R R (q_movD R (q_sk 5 R (q_pickT R (q_movD R (q_sk 4 R (q_pickT R (q_movD R (q_sk 4 R (q_pickT R (eN ?_))))))))))
 exact .inl ⟨(), h, .vw (κ := [0, 2]) (vK (.cons R R (.cons R R .nil)) R)⟩
def r7_far (F : Nat) (s : Span) (nv : Int) : Option Int := some (max (max (W (s.lo - nv)) (W (nv - s.hi))) 0)
theorem r7_far_pc {F : Nat} {s : Span} {nv : Int} {r : Int} (h : r7_far F s nv = some r) : PC Tryz.prog 85 [Span.d s, .v (.int .i64 nv)] (.v (.int .i64 r)) := by
 rw [r7_far] at h
 refine SC.of_sw Tryz.func85 R R R ?_
 dsimp only [argS, List.map]
 refine qG (q_box R (q_asgD R (eN (qG (q_fa tb R (q_ldD (y := vI s.lo) tb R (q_movD R (r_sub R R R R (q_movD R (q_fa tb R (q_ldD (y := vI s.hi) tb R (r_sub R R R R (r_max3 R R R R R (q_asgD R (eN (sw_ret ?_))))))))))))))))
 obtain rfl := sI h
 exact f1 4 R
def r7_near (F : Nat) (p : PdPad) (zone : Int) (squib : Int) : Option Bool := Option.bind (ixO p.zones zone) fun e => Option.bind (ixO p.squibs squib) fun e2 => Option.bind (r7_far F (Span.mk e.area_X_Lo e.area_X_Hi) e2.at_X) fun rv => Option.bind (r7_far F (Span.mk e.area_Y_Lo e.area_Y_Hi) e2.at_Y) fun rv2 => some (decide ((W ((W (rv * rv)) + (W (rv2 * rv2)))) < (W (e2.clear * e2.clear))))
theorem r7_near_pc {F : Nat} {p : PdPad} {zone : Int} {squib : Int} {r : Bool} (h : r7_near F p zone squib = some r) : PC Tryz.prog 48 [PdPad.d p, .v (.int .i64 zone), .v (.int .i64 squib)] (.v (.bool r)) := by
 rw [r7_near] at h
 refine SC.of_sw Tryz.func48 R R R ?_
 dsimp only [argS, List.map]
 refine qG (q_box R (q_asgD R (eN (sw_seq (sw_dr (by kernel_rfl) (q_fa tb R (q_ldD (y := .arr 8 ((p.zones).map PdZone.d)) tb R (q_movD R ?_))))))))
 obtain ⟨e, ie, h⟩ := bnd h
 refine q_ixE tb (ix0 ie) (ix1m ie) R (q_faE tb R (q_ldE (y := .agg [vI e.area_X_Lo, vI e.area_X_Hi, vI e.area_Y_Lo, vI e.area_Y_Hi]) tb (ix2 (g := PdZone.d) ie) R (q_fa tb R (q_ldD (y := .arr 6 ((p.squibs).map PdSquib.d)) tb R (q_movD R ?_)))))
 obtain ⟨e2, ie2, h⟩ := bnd h
 refine q_ixE tb (ix0 ie2) (ix1m ie2) R (q_ldE (y := PdSquib.d e2) tb (ix2 (g := PdSquib.d) ie2) R (r_alloc tb R R R R R (r_alloc tb R R R R R (q_stE _ _ tb R (q_stE _ _ tb R (ev_endD (by kernel_rfl) (then_norm (sw_seq (sw_dr (by kernel_rfl) (q_fa tb R (q_ldD (y := .agg [vI e.area_X_Lo, vI e.area_X_Hi]) tb R (q_fa tb R (q_fa tb R (q_ldD (y := vI e2.at_X) tb R ?_))))))))))))))
 obtain ⟨rv, hrv, h⟩ := bnd h
 refine r_call (r7_far_pc hrv) (.of (by kernel_rfl)) R R R R (q_fa tb R (q_ldD (y := .agg [vI e.area_Y_Lo, vI e.area_Y_Hi]) tb R (q_fa tb R (q_fa tb R (q_ldD (y := vI e2.at_Y) tb R ?_)))))
 obtain ⟨rv2, hrv2, h⟩ := bnd h
 refine r_call (r7_far_pc hrv2) (.of (by kernel_rfl)) R R R R (q_asgD R (q_asgD R (ev_endD (by kernel_rfl) (then_norm (qG (q_movD R (q_movD R (r_mul R R R R (q_movD R (q_movD R (r_mul R R R R (q_add R (q_fa tb R (q_ldD (y := vI e2.clear) tb R (q_fa tb R (q_ldD (y := vI e2.clear) tb R (r_mul R R R R (r_lssV R R R R (q_asgD R (eN (sw_ret ?_)))))))))))))))))))))
 obtain rfl := sI h
 exact f1 6 R
def r7_Check_L1 (F : Nat) (t : PdPad) (K : Int → Option (Int × Int × Int)) : Nat → Int → Option (Int × Int × Int)
 | 0, _ => none
 | n + 1, x3 => if x3 < (t.squibs.length : Int) then (Option.bind (r7_near F t t.panel x3) fun rv8 => if rv8 = true then (some (7, 0, 2)) else (r7_Check_L1 F t K n (W (x3 + 1)))) else (K x3)
def r7_Check_L2 (F : Nat) (t : PdPad) (K : Int → Option (Int × Int × Int)) : Nat → Int → Option (Int × Int × Int)
 | 0, _ => none
 | n + 1, x2 => if x2 < (t.squibs.length : Int) then (Option.bind (r7_squib F t x2) fun rv6 => if rv6 = 0 then (r7_Check_L2 F t K n (W (x2 + 1))) else (some (6, x2, rv6))) else (K x2)
def r7_Check_L3 (F : Nat) (t : PdPad) (K : Int → Option (Int × Int × Int)) : Nat → Int → Option (Int × Int × Int)
 | 0, _ => none
 | n + 1, x => if x < (t.keys.length : Int) then (Option.bind (ixO t.keys x) fun e => Option.bind (cutO t.keys 0 x) fun q => Option.bind (r7_name F e q) fun rv5 => if rv5 = 0 then (r7_Check_L3 F t K n (W (x + 1))) else (some (5, x, rv5))) else (K x)
def r7_Check_J1 (F : Nat) (t : PdPad) : Option (Int × Int × Int) := Option.bind (r7_zones F t) fun rv2 => if rv2.2 = 0 then (Option.bind (r7_doors F t) fun rv3 => if rv3.2 = 0 then (Option.bind (r7_people F t) fun rv4 => if rv4.2 = 0 then (r7_Check_L3 F t (fun (x : Int) => r7_Check_L2 F t (fun (x2 : Int) => Option.bind (r7_zone F t t.panel) fun rv7 => if rv7 = true then (r7_Check_L1 F t (fun (x3 : Int) => Option.bind (r7_in F t.wait 0 6000) fun rv9 => if rv9 = true then (some (0, 0, 0)) else (some (7, 0, 7))) F 0) else (some (7, 0, 4))) F 0) F 0) else (some (4, rv4.1, rv4.2))) else (some (3, rv3.1, rv3.2))) else (some (2, rv2.1, rv2.2))
def r7_Check_J2 (F : Nat)  : Option (Int × Int × Int) := some (1, 0, 3)
def r7_Check (F : Nat) (t : PdPad) : Option (Int × Int × Int) := Option.bind (r7_in F (t.zones.length : Int) 1 8) fun rv => if rv = true then (if 24 < (t.doors.length : Int) then (r7_Check_J2 F) else (if 8 < (t.people.length : Int) then (r7_Check_J2 F) else (if 8 < (t.keys.length : Int) then (r7_Check_J2 F) else (if 6 < (t.squibs.length : Int) then (r7_Check_J2 F) else (r7_Check_J1 F t))))) else (r7_Check_J2 F)
theorem r7_Check_pc {F : Nat} {t : PdPad} {r : (Int × Int × Int)} (h : r7_Check F t = some r) : PC Tryz.prog 80 [PdPad.d t] (.tup [.v (.int .i64 r.1), .v (.int .i64 r.2.1), .v (.int .i64 r.2.2)]) := by
 rw [r7_Check] at h
 refine SC.of_sw Tryz.func80 R R R ?_
 dsimp only [argS, List.map]
 refine qG (q_box R (q_asgD R (q_asgD R (q_asgD R (eN (sw_seq ?_))))))
 refine sw_join (fun zz : Unit => r7_Check_J1 F t = some r) (fun zz : Unit => ⟨[(1, .ref 0 7 0 0), (2, .d (vI 0)), (3, .d (vI 0)), (4, .d (vI 0))], [some ⟨7, [.d (PdPad.d t)]⟩]⟩) ?_ ?_
 ·clear h
  rintro ⟨⟩ h
  rw [r7_Check_J1] at h
  refine qG (q_ldD (y := PdPad.d t) tb R ?_)
  obtain ⟨rv2, hrv2, h⟩ := bnd h
  refine r_call (r7_zones_pc hrv2) (.of (by kernel_rfl)) R R R R (q_movD R (r_extD (t := vI rv2.1) R R R R (r_extD (t := vI rv2.2) R R R R (q_asgD R (q_asgD R (eN (sw_seq (qG (q_movD R ?_)))))))))
  refine r_neq R R R R ?_ ?_
  ·intro c6
   replace h := ifN c6 h
   refine eN (sw_condT R (qG (q_movD R (q_movD R (q_asgD R (q_asgD R (q_asgD R (eN (sw_ret (then_ret ?_))))))))))
   obtain rfl := sI h
   exact fin_0 (t := .d (.tup [vI 2, vI rv2.1, vI rv2.2])) R R R (.cons (.tmp 2) (.cons (.tmp 3) (.cons (.tmp 4) .nil)))
  intro c6
  replace h := ifP c6 h
  refine eN (sw_condF R (sw_skip (then_norm (qG (q_ldD (y := PdPad.d t) tb R ?_)))))
  obtain ⟨rv3, hrv3, h⟩ := bnd h
  refine r_call (r7_doors_pc hrv3) (.of (by kernel_rfl)) R R R R (q_movD R (r_extD (t := vI rv3.1) R R R R (r_extD (t := vI rv3.2) R R R R (q_asgD R (q_asgD R (eN (sw_seq (qG (q_movD R ?_)))))))))
  refine r_neq R R R R ?_ ?_
  ·intro c7
   replace h := ifN c7 h
   refine eN (sw_condT R (qG (q_movD R (q_movD R (q_asgD R (q_asgD R (q_asgD R (eN (sw_ret (then_ret ?_))))))))))
   obtain rfl := sI h
   exact fin_0 (t := .d (.tup [vI 3, vI rv3.1, vI rv3.2])) R R R (.cons (.tmp 2) (.cons (.tmp 3) (.cons (.tmp 4) .nil)))
  intro c7
  replace h := ifP c7 h
  refine eN (sw_condF R (sw_skip (then_norm (qG (q_ldD (y := PdPad.d t) tb R ?_)))))
  obtain ⟨rv4, hrv4, h⟩ := bnd h
  refine r_call (r7_people_pc hrv4) (.of (by kernel_rfl)) R R R R (q_movD R (r_extD (t := vI rv4.1) R R R R (r_extD (t := vI rv4.2) R R R R (q_asgD R (q_asgD R (eN (sw_seq (qG (q_movD R ?_)))))))))
  refine r_neq R R R R ?_ ?_
  ·intro c8
   replace h := ifN c8 h
   refine eN (sw_condT R (qG (q_movD R (q_movD R (q_asgD R (q_asgD R (q_asgD R (eN (sw_ret (then_ret ?_))))))))))
   obtain rfl := sI h
   exact fin_0 (t := .d (.tup [vI 4, vI rv4.1, vI rv4.2])) R R R (.cons (.tmp 2) (.cons (.tmp 3) (.cons (.tmp 4) .nil)))
  intro c8
  replace h := ifP c8 h
  refine eN (sw_condF R (sw_skip (then_norm (sw_seq (qG (q_asgD R (eN (sw_block ?_))))))))
  obtain ⟨K3, hK3, h⟩ : ∃ K, K = _ ∧ r7_Check_L3 F t K F 0 = some r := ⟨_, rfl, h⟩
  refine sw_loopS (fun m st => ∃ (x : Int), r7_Check_L3 F t K3 m x = some r ∧ st = ⟨[(1, .ref 0 7 0 0), (2, .d (vI 0)), (3, .d (vI 0)), (4, .d (vI 0)), (7, .d (vI x))], [some ⟨7, [.d (PdPad.d t)]⟩]⟩) (.prn [1, 2, 3, 4, 7] R) ⟨0, h, R⟩ ?_
  clear h
  rintro m3 st ⟨x, h, rfl⟩
  cases m3 with
  | zero => cases (show (none : Option (Int × Int × Int)) = some r from h)
  | succ m3 =>
  rw [r7_Check_L3] at h
  refine sw_seq (qG (q_movD R (q_fa tb R (q_ldD (y := .arr 1 ((t.keys).map vS)) tb R (q_lenM tb R ?_)))))
  refine r_lss R R R R ?_ ?_
  ·intro c9
   replace h := ifP c9 h
   refine eN (sw_condT R (sw_skip (then_norm (sw_seq (sw_block (sw_seq (sw_dr (by kernel_rfl) (q_fa tb R (q_ldD (y := .arr 1 ((t.keys).map vS)) tb R (q_movD R ?_))))))))))
   obtain ⟨e, ie, h⟩ := bnd h
   refine q_ixE tb (ix0 ie) (ix1m ie) R (q_ldE (y := .v (.string e)) tb (ix2 (g := vS) ie) R (q_fa tb R (q_ldD (y := .arr 1 ((t.keys).map vS)) tb R (q_movD R ?_))))
   obtain ⟨q, iq, h⟩ := bnd h
   refine r_sliceT tb R R R R R R iq R R ?_
   obtain ⟨rv5, hrv5, h⟩ := bnd h
   refine r_call (r7_name_pc hrv5) (.of (by kernel_rfl)) R R R R (q_asgD R (ev_endD (by kernel_rfl) (then_norm (qG (q_movD R ?_)))))
   refine r_neq R R R R ?_ ?_
   ·intro c10
    replace h := ifN c10 h
    refine eN (sw_condT R (qG (q_movD R (q_movD R (q_asgD R (q_asgD R (q_asgD R (eN (sw_ret (block_ret (then_ret (then_ret (block_ret (then_ret ?_))))))))))))))
    obtain rfl := sI h
    exact fin_0 (t := .d (.tup [vI 5, vI x, vI rv5])) R R R (.cons (.tmp 2) (.cons (.tmp 3) (.cons (.tmp 4) .nil)))
   intro c10
   replace h := ifP c10 h
   refine eN (sw_condF R (sw_skip (block_norm (then_norm (sw_rg (q_movD R (q_add R (q_asgD R (eN ?_)))))))))
   exact ⟨m3, _, Nat.lt_succ_self _, .prn [1, 2, 3, 4, 7] R, (W (x + 1)), h, R⟩
  intro c9
  replace h := ifN (Int.not_lt.2 c9) h
  refine eN (sw_condF R (sw_exit (then_exit (then_exit ?_))))
  subst hK3
  refine block_exit (then_norm (sw_seq (qG (q_asgD R (eN (sw_block ?_))))))
  obtain ⟨K6, hK6, h⟩ : ∃ K, K = _ ∧ r7_Check_L2 F t K F 0 = some r := ⟨_, rfl, h⟩
  refine sw_loopS (fun m st => ∃ (x2 : Int), r7_Check_L2 F t K6 m x2 = some r ∧ st = ⟨[(1, .ref 0 7 0 0), (2, .d (vI 0)), (3, .d (vI 0)), (4, .d (vI 0)), (9, .d (vI x2))], [some ⟨7, [.d (PdPad.d t)]⟩]⟩) (.prn [1, 2, 3, 4, 9] R) ⟨0, h, R⟩ ?_
  clear h
  rintro m6 st ⟨x2, h, rfl⟩
  cases m6 with
  | zero => cases (show (none : Option (Int × Int × Int)) = some r from h)
  | succ m6 =>
  rw [r7_Check_L2] at h
  refine sw_seq (qG (q_movD R (q_fa tb R (q_ldD (y := .arr 6 ((t.squibs).map PdSquib.d)) tb R (q_lenM tb R ?_)))))
  refine r_lss R R R R ?_ ?_
  ·intro c11
   replace h := ifP c11 h
   refine eN (sw_condT R (sw_skip (then_norm (sw_seq (sw_block (qG (q_ldD (y := PdPad.d t) tb R (q_movD R ?_))))))))
   obtain ⟨rv6, hrv6, h⟩ := bnd h
   refine r_call (r7_squib_pc hrv6) (.of (by kernel_rfl)) R R R R (q_asgD R (eN (qG (q_movD R ?_))))
   refine r_neq R R R R ?_ ?_
   ·intro c12
    replace h := ifN c12 h
    refine eN (sw_condT R (qG (q_movD R (q_movD R (q_asgD R (q_asgD R (q_asgD R (eN (sw_ret (block_ret (then_ret (then_ret (block_ret (then_ret ?_))))))))))))))
    obtain rfl := sI h
    exact fin_0 (t := .d (.tup [vI 6, vI x2, vI rv6])) R R R (.cons (.tmp 2) (.cons (.tmp 3) (.cons (.tmp 4) .nil)))
   intro c12
   replace h := ifP c12 h
   refine eN (sw_condF R (sw_skip (block_norm (then_norm (sw_rg (q_movD R (q_add R (q_asgD R (eN ?_)))))))))
   exact ⟨m6, _, Nat.lt_succ_self _, .prn [1, 2, 3, 4, 9] R, (W (x2 + 1)), h, R⟩
  intro c11
  replace h := ifN (Int.not_lt.2 c11) h
  refine eN (sw_condF R (sw_exit (then_exit (then_exit ?_))))
  subst hK6
  refine block_exit (then_norm (sw_seq (qG (q_ldD (y := PdPad.d t) tb R (q_fa tb R (q_ldD (y := vI t.panel) tb R ?_))))))
  obtain ⟨rv7, hrv7, h⟩ := bnd h
  refine r_callB (r7_zone_pc hrv7) (.of (by kernel_rfl)) R R R R ?_ ?_
  ·intro c13
   replace h := ifP c13 h
   refine r_notT R R R (eN (sw_condF R (sw_skip (then_norm (sw_seq (qG (q_asgD R (eN (sw_block ?_)))))))))
   obtain ⟨K9, hK9, h⟩ : ∃ K, K = _ ∧ r7_Check_L1 F t K F 0 = some r := ⟨_, rfl, h⟩
   refine sw_loopS (fun m st => ∃ (x3 : Int), r7_Check_L1 F t K9 m x3 = some r ∧ st = ⟨[(1, .ref 0 7 0 0), (2, .d (vI 0)), (3, .d (vI 0)), (4, .d (vI 0)), (11, .d (vI x3))], [some ⟨7, [.d (PdPad.d t)]⟩]⟩) (.prn [1, 2, 3, 4, 11] R) ⟨0, h, R⟩ ?_
   clear h
   rintro m9 st ⟨x3, h, rfl⟩
   cases m9 with
   | zero => cases (show (none : Option (Int × Int × Int)) = some r from h)
   | succ m9 =>
   rw [r7_Check_L1] at h
   refine sw_seq (qG (q_movD R (q_fa tb R (q_ldD (y := .arr 6 ((t.squibs).map PdSquib.d)) tb R (q_lenM tb R ?_)))))
   refine r_lss R R R R ?_ ?_
   ·intro c14
    replace h := ifP c14 h
    refine eN (sw_condT R (sw_skip (then_norm (sw_seq (sw_block (qG (q_ldD (y := PdPad.d t) tb R (q_fa tb R (q_ldD (y := vI t.panel) tb R (q_movD R ?_))))))))))
    obtain ⟨rv8, hrv8, h⟩ := bnd h
    refine r_callB (r7_near_pc hrv8) (.of (by kernel_rfl)) R R R R ?_ ?_
    ·intro c15
     replace h := ifP c15 h
     refine eN (sw_condT R (qG (q_asgD R (q_asgD R (q_asgD R (eN (sw_ret (block_ret (then_ret (then_ret (block_ret (then_ret ?_))))))))))))
     obtain rfl := sI h
     exact fin_0 (t := .d (.tup [vI 7, vI 0, vI 2])) R R R (.cons (.tmp 2) (.cons (.tmp 3) (.cons (.tmp 4) .nil)))
    intro c15
    replace h := ifF c15 h
    refine eN (sw_condF R (sw_skip (block_norm (then_norm (sw_rg (q_movD R (q_add R (q_asgD R (eN ?_)))))))))
    exact ⟨m9, _, Nat.lt_succ_self _, .prn [1, 2, 3, 4, 11] R, (W (x3 + 1)), h, R⟩
   intro c14
   replace h := ifN (Int.not_lt.2 c14) h
   refine eN (sw_condF R (sw_exit (then_exit (then_exit ?_))))
   subst hK9
   refine block_exit (then_norm (sw_seq (qG (q_fa tb R (q_ldD (y := vI t.wait) tb R ?_)))))
   obtain ⟨rv9, hrv9, h⟩ := bnd h
   refine r_callB (r7_in_pc hrv9) (.of (by kernel_rfl)) R R R R ?_ ?_
   ·intro c16
    replace h := ifP c16 h
    refine r_notT R R R (eN (sw_condF R (sw_skip (then_norm (qG (q_asgD R (q_asgD R (q_asgD R (eN (sw_ret ?_))))))))))
    obtain rfl := sI h
    exact fin_0 (t := .d (.tup [vI 0, vI 0, vI 0])) R R R (.cons (.tmp 2) (.cons (.tmp 3) (.cons (.tmp 4) .nil)))
   intro c16
   replace h := ifF c16 h
   refine r_notF R R R (eN (sw_condT R (qG (q_asgD R (q_asgD R (q_asgD R (eN (sw_ret (then_ret ?_)))))))))
   obtain rfl := sI h
   exact fin_0 (t := .d (.tup [vI 7, vI 0, vI 7])) R R R (.cons (.tmp 2) (.cons (.tmp 3) (.cons (.tmp 4) .nil)))
  intro c13
  replace h := ifF c13 h
  refine r_notF R R R (eN (sw_condT R (qG (q_asgD R (q_asgD R (q_asgD R (eN (sw_ret (then_ret ?_)))))))))
  obtain rfl := sI h
  exact fin_0 (t := .d (.tup [vI 7, vI 0, vI 4])) R R R (.cons (.tmp 2) (.cons (.tmp 3) (.cons (.tmp 4) .nil)))
 refine sw_seq ?_
 refine sw_join (fun zz : Unit => r7_Check_J2 F = some r) (fun zz : Unit => ⟨[(1, .ref 0 7 0 0), (2, .d (vI 0)), (3, .d (vI 0)), (4, .d (vI 0)), (40, .d (.v (.bool true)))], [some ⟨7, [.d (PdPad.d t)]⟩]⟩) ?_ ?_
 ·clear h
  rintro ⟨⟩ h
  rw [r7_Check_J2] at h
  refine sw_condT R (qG (q_asgD R (q_asgD R (q_asgD R (eN (sw_ret (then_ret ?_)))))))
  obtain rfl := sI h
  exact fin_0 (t := .d (.tup [vI 1, vI 0, vI 3])) R R R (.cons (.tmp 2) (.cons (.tmp 3) (.cons (.tmp 4) .nil)))
 refine sw_rg (q_fa tb R (q_ldD (y := .arr 8 ((t.zones).map PdZone.d)) tb R (q_lenM tb R ?_)))
 obtain ⟨rv, hrv, h⟩ := bnd h
 refine r_callB (r7_in_pc hrv) (.of (by kernel_rfl)) R R R R ?_ ?_
 ·intro c
  replace h := ifP c h
  refine r_notT R R R (q_movD R (q_fa tb R (q_ldD (y := .arr 2 ((t.doors).map PdDoor.d)) tb R (q_lenM tb R ?_))))
  refine r_gtr R R R R ?_ ?_
  ·intro c2
   replace h := ifP c2 h
   refine q_pickF R (q_movD R (q_sk 4 R (q_pickT R (q_movD R (q_sk 4 R (q_pickT R (q_movD R (q_sk 4 R (q_pickT R (eN ?_))))))))))
   exact .inl ⟨(), h, .prn [1, 2, 3, 4, 40] R⟩
  intro c2
  replace h := ifN (Int.not_lt.2 c2) h
  refine q_pickF R (q_movD R (q_fa tb R (q_ldD (y := .arr 2 ((t.people).map PdPerson.d)) tb R (q_lenM tb R ?_))))
  refine r_gtr R R R R ?_ ?_
  ·intro c3
   replace h := ifP c3 h
   refine q_pickF R (q_movD R (q_sk 4 R (q_pickT R (q_movD R (q_sk 4 R (q_pickT R (eN ?_)))))))
   exact .inl ⟨(), h, .prn [1, 2, 3, 4, 40] R⟩
  intro c3
  replace h := ifN (Int.not_lt.2 c3) h
  refine q_pickF R (q_movD R (q_fa tb R (q_ldD (y := .arr 1 ((t.keys).map vS)) tb R (q_lenM tb R ?_))))
  refine r_gtr R R R R ?_ ?_
  ·intro c4
   replace h := ifP c4 h
   refine q_pickF R (q_movD R (q_sk 4 R (q_pickT R (eN ?_))))
   exact .inl ⟨(), h, .prn [1, 2, 3, 4, 40] R⟩
  intro c4
  replace h := ifN (Int.not_lt.2 c4) h
  refine q_pickF R (q_movD R (q_fa tb R (q_ldD (y := .arr 6 ((t.squibs).map PdSquib.d)) tb R (q_lenM tb R ?_))))
  refine r_gtr R R R R ?_ ?_
  ·intro c5
   replace h := ifP c5 h
   refine q_pickF R (eN ?_)
   exact .inl ⟨(), h, .prn [1, 2, 3, 4, 40] R⟩
  intro c5
  replace h := ifN (Int.not_lt.2 c5) h
  refine q_pickF R (eN (.inr (sw_condF R (sw_skip (then_norm ?_)))))
  exact .inl ⟨(), h, .prn [1, 2, 3, 4] R⟩
 intro c
 replace h := ifF c h
 refine r_notF R R R (q_movD R (q_sk 4 R (q_pickT R (q_movD R (q_sk 4 R (q_pickT R (q_movD R (q_sk 4 R (q_pickT R (q_movD R (q_sk 4 R (q_pickT R (eN ?_)))))))))))))
 exact .inl ⟨(), h, .prn [1, 2, 3, 4, 40] R⟩
def r7_valid (F : Nat) (p : PdPad) : Option Int := Option.bind (r7_Check F p) fun rv => some rv.2.2
theorem r7_valid_pc {F : Nat} {p : PdPad} {r : Int} (h : r7_valid F p = some r) : PC Tryz.prog 42 [PdPad.d p] (.v (.int .i64 r)) := by
 rw [r7_valid] at h
 refine SC.of_sw Tryz.func42 R R R ?_
 dsimp only [argS, List.map]
 refine qG (q_box R (q_asgD R (eN (qG (q_ldD (y := PdPad.d p) tb R ?_)))))
 obtain ⟨rv, hrv, h⟩ := bnd h
 refine r_call (r7_Check_pc hrv) (.of (by kernel_rfl)) R R R R (q_movD R (r_extD (t := vI rv.1) R R R R (r_extD (t := vI rv.2.1) R R R R (r_extD (t := vI rv.2.2) R R R R (q_asgD R (q_asgD R (q_asgD R (eN (qG (q_movD R (q_asgD R (eN (sw_ret ?_)))))))))))))
 obtain rfl := sI h
 exact f1 2 R
def r7_formed_L1 (F : Nat) (o : PdState) (K : Bool → Int → Option Bool) : Nat → Bool → Int → Option Bool
 | 0, _, _ => none
 | n + 1, a3, x2 => if x2 < (o.squibs.length : Int) then (if a3 = true then (Option.bind (ixO o.squibs x2) fun e3 => Option.bind (r7_in F e3 0 2) fun rv5 => if rv5 = true then (r7_formed_L1 F o K n true (W (x2 + 1))) else (r7_formed_L1 F o K n false (W (x2 + 1)))) else (r7_formed_L1 F o K n false (W (x2 + 1)))) else (K a3 x2)
def r7_formed_L2 (F : Nat) (t : PdPad) (o : PdState) (K : Bool → Int → Option Bool) : Nat → Bool → Int → Option Bool
 | 0, _, _ => none
 | n + 1, a2, x => if x < (o.holder.length : Int) then (if a2 = true then (Option.bind (ixO o.holder x) fun e2 => Option.bind (r7_in F e2 (-1) (W ((t.people.length : Int) - 1))) fun rv4 => if rv4 = true then (r7_formed_L2 F t o K n true (W (x + 1))) else (r7_formed_L2 F t o K n false (W (x + 1)))) else (r7_formed_L2 F t o K n false (W (x + 1)))) else (K a2 x)
def r7_formed_L3 (F : Nat) (t : PdPad) (o : PdState) (K : Bool → Int → Option Bool) : Nat → Bool → Int → Option Bool
 | 0, _, _ => none
 | n + 1, a, y => if y < (o.zones.length : Int) then (if a = true then (Option.bind (ixO o.zones y) fun e => Option.bind (r7_in F e (-1) (W ((t.zones.length : Int) - 1))) fun rv3 => if rv3 = true then (r7_formed_L3 F t o K n true (W (y + 1))) else (r7_formed_L3 F t o K n false (W (y + 1)))) else (r7_formed_L3 F t o K n false (W (y + 1)))) else (K a y)
def r7_formed_L4 (F : Nat) (o : PdState) (K : Bool → Int → Option Bool) : Nat → Bool → Int → Option Bool
 | 0, _, _ => none
 | n + 1, a6, x4 => if x4 < (o.squibs.length : Int) then (if a6 = true then (Option.bind (ixO o.squibs x4) fun e6 => Option.bind (r7_in F e6 0 2) fun rv8 => if rv8 = true then (r7_formed_L4 F o K n true (W (x4 + 1))) else (r7_formed_L4 F o K n false (W (x4 + 1)))) else (r7_formed_L4 F o K n false (W (x4 + 1)))) else (K a6 x4)
def r7_formed_L5 (F : Nat) (t : PdPad) (o : PdState) (K : Bool → Int → Option Bool) : Nat → Bool → Int → Option Bool
 | 0, _, _ => none
 | n + 1, a5, x3 => if x3 < (o.holder.length : Int) then (if a5 = true then (Option.bind (ixO o.holder x3) fun e5 => Option.bind (r7_in F e5 (-1) (W ((t.people.length : Int) - 1))) fun rv7 => if rv7 = true then (r7_formed_L5 F t o K n true (W (x3 + 1))) else (r7_formed_L5 F t o K n false (W (x3 + 1)))) else (r7_formed_L5 F t o K n false (W (x3 + 1)))) else (K a5 x3)
def r7_formed_L6 (F : Nat) (t : PdPad) (o : PdState) (K : Bool → Int → Option Bool) : Nat → Bool → Int → Option Bool
 | 0, _, _ => none
 | n + 1, a4, y2 => if y2 < (o.zones.length : Int) then (if a4 = true then (Option.bind (ixO o.zones y2) fun e4 => Option.bind (r7_in F e4 (-1) (W ((t.zones.length : Int) - 1))) fun rv6 => if rv6 = true then (r7_formed_L6 F t o K n true (W (y2 + 1))) else (r7_formed_L6 F t o K n false (W (y2 + 1)))) else (r7_formed_L6 F t o K n false (W (y2 + 1)))) else (K a4 y2)
def r7_formed_J1 (F : Nat) (t : PdPad) (o : PdState) : Option Bool := r7_formed_L6 F t o (fun (a4 : Bool) (y2 : Int) => r7_formed_L5 F t o (fun (a5 : Bool) (x3 : Int) => r7_formed_L4 F o (fun (a6 : Bool) (x4 : Int) => some a6) F a5 0) F a4 0) F false 0
def r7_formed (F : Nat) (t : PdPad) (o : PdState) : Option Bool := Option.bind (r7_in F o.now 0 100000) fun rv => if rv = true then (Option.bind (r7_in F o.siren (-1) o.now) fun rv2 => if rv2 = true then (if (o.zones.length : Int) = (t.people.length : Int) then (if (o.holder.length : Int) = (t.keys.length : Int) then (if (o.squibs.length : Int) = (t.squibs.length : Int) then (r7_formed_L3 F t o (fun (a : Bool) (y : Int) => r7_formed_L2 F t o (fun (a2 : Bool) (x : Int) => r7_formed_L1 F o (fun (a3 : Bool) (x2 : Int) => some a3) F a2 0) F a 0) F true 0) else (r7_formed_J1 F t o)) else (r7_formed_J1 F t o)) else (r7_formed_J1 F t o)) else (r7_formed_J1 F t o)) else (r7_formed_J1 F t o)
theorem r7_formed_pc {F : Nat} {t : PdPad} {o : PdState} {r : Bool} (h : r7_formed F t o = some r) : PC Tryz.prog 43 [PdPad.d t, PdState.d o] (.v (.bool r)) := by
 rw [r7_formed] at h
 refine SC.of_sw Tryz.func43 R R R ?_
 dsimp only [argS, List.map]
 refine qG (q_box R (q_box R (q_asgD R (eN (sw_seq ?_)))))
 refine sw_join (fun zz : Unit => r7_formed_J1 F t o = some r) (fun zz : Unit => ⟨[(2, .ref 0 7 0 0), (3, .ref 1 6 0 0), (4, .d (.v (.bool false))), (5, .d (.v (.bool false)))], [some ⟨7, [.d (PdPad.d t)]⟩, some ⟨6, [.d (PdState.d o)]⟩]⟩) ?_ ?_
 ·clear h
  rintro ⟨⟩ h
  rw [r7_formed_J1] at h
  refine sw_seq (qG (q_asgD R (eN (sw_block ?_))))
  obtain ⟨K12, hK12, h⟩ : ∃ K, K = _ ∧ r7_formed_L6 F t o K F false 0 = some r := ⟨_, rfl, h⟩
  refine sw_loopS (fun m st => ∃ (a4 : Bool) (y2 : Int), r7_formed_L6 F t o K12 m a4 y2 = some r ∧ st = ⟨[(2, .ref 0 7 0 0), (3, .ref 1 6 0 0), (4, .d (.v (.bool false))), (5, .d (.v (.bool a4))), (6, .d (vI y2))], [some ⟨7, [.d (PdPad.d t)]⟩, some ⟨6, [.d (PdState.d o)]⟩]⟩) (.prn [2, 3, 4, 5, 6] R) ⟨false, 0, h, R⟩ ?_
  clear h
  rintro m12 st ⟨a4, y2, h, rfl⟩
  cases m12 with
  | zero => cases (show (none : Option Bool) = some r from h)
  | succ m12 =>
  rw [r7_formed_L6] at h
  refine sw_seq (qG (q_movD R (q_fa tb R (q_ldD (y := .arr 1 ((o.zones).map vI)) tb R (q_lenM tb R ?_)))))
  refine r_lss R R R R ?_ ?_
  ·intro c15
   replace h := ifP c15 h
   refine eN (sw_condT R (sw_skip (then_norm (sw_seq (sw_block (sw_dr (by kernel_rfl) (q_movD R ?_)))))))
   with_reducible apply ev_lit
   ·intro c16
    replace h := ifP c16 h
    refine q_movD R (q_fa tb R (q_ldD (y := .arr 1 ((o.zones).map vI)) tb R (q_movD R ?_)))
    obtain ⟨e4, ie4, h⟩ := bnd h
    refine q_ixE tb (ix0 ie4) (ix1m ie4) R (q_ldE (y := vI e4) tb (ix2 (g := vI) ie4) R (q_fa tb R (q_ldD (y := .arr 8 ((t.zones).map PdZone.d)) tb R (q_lenM tb R (r_sub R R R R ?_)))))
    obtain ⟨rv6, hrv6, h⟩ := bnd h
    refine r_callB (r7_in_pc hrv6) (.of (by kernel_rfl)) R R R R ?_ ?_
    ·intro c17
     replace h := ifP c17 h
     refine q_pickT R (q_asgD R (ev_endD (by kernel_rfl) (block_norm (then_norm (sw_rg (q_movD R (q_add R (q_asgD R (eN ?_)))))))))
     exact ⟨m12, _, Nat.lt_succ_self _, .prn [2, 3, 4, 5, 6] R, true, (W (y2 + 1)), h, R⟩
    intro c17
    replace h := ifF c17 h
    refine q_pickT R (q_asgD R (ev_endD (by kernel_rfl) (block_norm (then_norm (sw_rg (q_movD R (q_add R (q_asgD R (eN ?_)))))))))
    exact ⟨m12, _, Nat.lt_succ_self _, .prn [2, 3, 4, 5, 6] R, false, (W (y2 + 1)), h, R⟩
   intro c16
   replace h := ifF c16 h
   refine q_movD R (q_sk 10 R (q_pickF R (q_asgD R (ev_endD (by kernel_rfl) (block_norm (then_norm (sw_rg (q_movD R (q_add R (q_asgD R (eN ?_)))))))))))
   exact ⟨m12, _, Nat.lt_succ_self _, .prn [2, 3, 4, 5, 6] R, false, (W (y2 + 1)), h, R⟩
  intro c15
  replace h := ifN (Int.not_lt.2 c15) h
  refine eN (sw_condF R (sw_exit (then_exit (then_exit ?_))))
  subst hK12
  refine block_exit (then_norm (sw_seq (qG (q_asgD R (eN (sw_block ?_))))))
  obtain ⟨K14, hK14, h⟩ : ∃ K, K = _ ∧ r7_formed_L5 F t o K F a4 0 = some r := ⟨_, rfl, h⟩
  refine sw_loopS (fun m st => ∃ (a5 : Bool) (x3 : Int), r7_formed_L5 F t o K14 m a5 x3 = some r ∧ st = ⟨[(2, .ref 0 7 0 0), (3, .ref 1 6 0 0), (4, .d (.v (.bool false))), (5, .d (.v (.bool a5))), (7, .d (vI x3))], [some ⟨7, [.d (PdPad.d t)]⟩, some ⟨6, [.d (PdState.d o)]⟩]⟩) (.prn [2, 3, 4, 5, 7] R) ⟨a4, 0, h, R⟩ ?_
  clear h
  rintro m14 st ⟨a5, x3, h, rfl⟩
  cases m14 with
  | zero => cases (show (none : Option Bool) = some r from h)
  | succ m14 =>
  rw [r7_formed_L5] at h
  refine sw_seq (qG (q_movD R (q_fa tb R (q_ldD (y := .arr 1 ((o.holder).map vI)) tb R (q_lenM tb R ?_)))))
  refine r_lss R R R R ?_ ?_
  ·intro c18
   replace h := ifP c18 h
   refine eN (sw_condT R (sw_skip (then_norm (sw_seq (sw_block (sw_dr (by kernel_rfl) (q_movD R ?_)))))))
   with_reducible apply ev_lit
   ·intro c19
    replace h := ifP c19 h
    refine q_movD R (q_fa tb R (q_ldD (y := .arr 1 ((o.holder).map vI)) tb R (q_movD R ?_)))
    obtain ⟨e5, ie5, h⟩ := bnd h
    refine q_ixE tb (ix0 ie5) (ix1m ie5) R (q_ldE (y := vI e5) tb (ix2 (g := vI) ie5) R (q_fa tb R (q_ldD (y := .arr 2 ((t.people).map PdPerson.d)) tb R (q_lenM tb R (r_sub R R R R ?_)))))
    obtain ⟨rv7, hrv7, h⟩ := bnd h
    refine r_callB (r7_in_pc hrv7) (.of (by kernel_rfl)) R R R R ?_ ?_
    ·intro c20
     replace h := ifP c20 h
     refine q_pickT R (q_asgD R (ev_endD (by kernel_rfl) (block_norm (then_norm (sw_rg (q_movD R (q_add R (q_asgD R (eN ?_)))))))))
     exact ⟨m14, _, Nat.lt_succ_self _, .prn [2, 3, 4, 5, 7] R, true, (W (x3 + 1)), h, R⟩
    intro c20
    replace h := ifF c20 h
    refine q_pickT R (q_asgD R (ev_endD (by kernel_rfl) (block_norm (then_norm (sw_rg (q_movD R (q_add R (q_asgD R (eN ?_)))))))))
    exact ⟨m14, _, Nat.lt_succ_self _, .prn [2, 3, 4, 5, 7] R, false, (W (x3 + 1)), h, R⟩
   intro c19
   replace h := ifF c19 h
   refine q_movD R (q_sk 10 R (q_pickF R (q_asgD R (ev_endD (by kernel_rfl) (block_norm (then_norm (sw_rg (q_movD R (q_add R (q_asgD R (eN ?_)))))))))))
   exact ⟨m14, _, Nat.lt_succ_self _, .prn [2, 3, 4, 5, 7] R, false, (W (x3 + 1)), h, R⟩
  intro c18
  replace h := ifN (Int.not_lt.2 c18) h
  refine eN (sw_condF R (sw_exit (then_exit (then_exit ?_))))
  subst hK14
  refine block_exit (then_norm (sw_seq (qG (q_asgD R (eN (sw_block ?_))))))
  obtain ⟨K16, hK16, h⟩ : ∃ K, K = _ ∧ r7_formed_L4 F o K F a5 0 = some r := ⟨_, rfl, h⟩
  refine sw_loopS (st0 := ⟨[(3, .ref 0 6 0 0), (4, .d (.v (.bool false))), (5, .d (.v (.bool a5))), (8, .d (vI 0))], [some ⟨6, [.d (PdState.d o)]⟩]⟩) (fun m st => ∃ (a6 : Bool) (x4 : Int), r7_formed_L4 F o K16 m a6 x4 = some r ∧ st = ⟨[(3, .ref 0 6 0 0), (4, .d (.v (.bool false))), (5, .d (.v (.bool a6))), (8, .d (vI x4))], [some ⟨6, [.d (PdState.d o)]⟩]⟩) (.vw (κ := [1]) (vK (.cons R R .nil) R)) ⟨a5, 0, h, R⟩ ?_
  clear h
  rintro m16 st ⟨a6, x4, h, rfl⟩
  cases m16 with
  | zero => cases (show (none : Option Bool) = some r from h)
  | succ m16 =>
  rw [r7_formed_L4] at h
  refine sw_seq (qG (q_movD R (q_fa tb R (q_ldD (y := .arr 1 ((o.squibs).map vI)) tb R (q_lenM tb R ?_)))))
  refine r_lss R R R R ?_ ?_
  ·intro c21
   replace h := ifP c21 h
   refine eN (sw_condT R (sw_skip (then_norm (sw_seq (sw_block (sw_rg (q_movD R ?_)))))))
   with_reducible apply ev_lit
   ·intro c22
    replace h := ifP c22 h
    refine q_movD R (q_fa tb R (q_ldD (y := .arr 1 ((o.squibs).map vI)) tb R (q_movD R ?_)))
    obtain ⟨e6, ie6, h⟩ := bnd h
    refine q_ixE tb (ix0 ie6) (ix1m ie6) R (q_ldE (y := vI e6) tb (ix2 (g := vI) ie6) R ?_)
    obtain ⟨rv8, hrv8, h⟩ := bnd h
    refine r_callB (r7_in_pc hrv8) (.of (by kernel_rfl)) R R R R ?_ ?_
    ·intro c23
     replace h := ifP c23 h
     refine q_pickT R (q_asgD R (ev_end (block_norm (then_norm (sw_rg (q_movD R (q_add R (q_asgD R (eN ?_)))))))))
     exact ⟨m16, _, Nat.lt_succ_self _, .prn [3, 4, 5, 8] R, true, (W (x4 + 1)), h, R⟩
    intro c23
    replace h := ifF c23 h
    refine q_pickT R (q_asgD R (ev_end (block_norm (then_norm (sw_rg (q_movD R (q_add R (q_asgD R (eN ?_)))))))))
    exact ⟨m16, _, Nat.lt_succ_self _, .prn [3, 4, 5, 8] R, false, (W (x4 + 1)), h, R⟩
   intro c22
   replace h := ifF c22 h
   refine q_movD R (q_sk 6 R (q_pickF R (q_asgD R (ev_end (block_norm (then_norm (sw_rg (q_movD R (q_add R (q_asgD R (eN ?_)))))))))))
   exact ⟨m16, _, Nat.lt_succ_self _, .prn [3, 4, 5, 8] R, false, (W (x4 + 1)), h, R⟩
  intro c21
  replace h := ifN (Int.not_lt.2 c21) h
  refine eN (sw_condF R (sw_exit (then_exit (then_exit ?_))))
  subst hK16
  refine block_exit (then_norm (qG (q_movD R (q_asgD R (eN (sw_ret ?_))))))
  obtain rfl := sI h
  exact f1 4 R
 refine sw_rg (q_fa tb R (q_ldD (y := vI o.now) tb R ?_))
 obtain ⟨rv, hrv, h⟩ := bnd h
 refine r_callB (r7_in_pc hrv) (.of (by kernel_rfl)) R R R R ?_ ?_
 ·intro c
  replace h := ifP c h
  refine q_movD R (q_fa tb R (q_ldD (y := vI o.siren) tb R (q_fa tb R (q_ldD (y := vI o.now) tb R ?_))))
  obtain ⟨rv2, hrv2, h⟩ := bnd h
  refine r_callB (r7_in_pc hrv2) (.of (by kernel_rfl)) R R R R ?_ ?_
  ·intro c2
   replace h := ifP c2 h
   refine q_pickT R (q_movD R (q_fa tb R (q_ldD (y := .arr 1 ((o.zones).map vI)) tb R (q_lenM tb R (q_fa tb R (q_ldD (y := .arr 2 ((t.people).map PdPerson.d)) tb R (q_lenM tb R ?_)))))))
   refine r_eql R R R R ?_ ?_
   ·intro c3
    replace h := ifP c3 h
    refine q_pickT R (q_movD R (q_fa tb R (q_ldD (y := .arr 1 ((o.holder).map vI)) tb R (q_lenM tb R (q_fa tb R (q_ldD (y := .arr 1 ((t.keys).map vS)) tb R (q_lenM tb R ?_)))))))
    refine r_eql R R R R ?_ ?_
    ·intro c4
     replace h := ifP c4 h
     refine q_pickT R (q_movD R (q_fa tb R (q_ldD (y := .arr 1 ((o.squibs).map vI)) tb R (q_lenM tb R (q_fa tb R (q_ldD (y := .arr 6 ((t.squibs).map PdSquib.d)) tb R (q_lenM tb R ?_)))))))
     refine r_eql R R R R ?_ ?_
     ·intro c5
      replace h := ifP c5 h
      refine q_pickT R (q_asgD R (eN (.inr (sw_seq (qG (q_asgD R (eN (sw_block ?_))))))))
      obtain ⟨K18, hK18, h⟩ : ∃ K, K = _ ∧ r7_formed_L3 F t o K F true 0 = some r := ⟨_, rfl, h⟩
      refine sw_loopS (fun m st => ∃ (a : Bool) (y : Int), r7_formed_L3 F t o K18 m a y = some r ∧ st = ⟨[(2, .ref 0 7 0 0), (3, .ref 1 6 0 0), (4, .d (.v (.bool false))), (5, .d (.v (.bool a))), (6, .d (vI y))], [some ⟨7, [.d (PdPad.d t)]⟩, some ⟨6, [.d (PdState.d o)]⟩]⟩) (.prn [2, 3, 4, 5, 6] R) ⟨true, 0, h, R⟩ ?_
      clear h
      rintro m18 st ⟨a, y, h, rfl⟩
      cases m18 with
      | zero => cases (show (none : Option Bool) = some r from h)
      | succ m18 =>
      rw [r7_formed_L3] at h
      refine sw_seq (qG (q_movD R (q_fa tb R (q_ldD (y := .arr 1 ((o.zones).map vI)) tb R (q_lenM tb R ?_)))))
      refine r_lss R R R R ?_ ?_
      ·intro c6
       replace h := ifP c6 h
       refine eN (sw_condT R (sw_skip (then_norm (sw_seq (sw_block (sw_dr (by kernel_rfl) (q_movD R ?_)))))))
       with_reducible apply ev_lit
       ·intro c7
        replace h := ifP c7 h
        refine q_movD R (q_fa tb R (q_ldD (y := .arr 1 ((o.zones).map vI)) tb R (q_movD R ?_)))
        obtain ⟨e, ie, h⟩ := bnd h
        refine q_ixE tb (ix0 ie) (ix1m ie) R (q_ldE (y := vI e) tb (ix2 (g := vI) ie) R (q_fa tb R (q_ldD (y := .arr 8 ((t.zones).map PdZone.d)) tb R (q_lenM tb R (r_sub R R R R ?_)))))
        obtain ⟨rv3, hrv3, h⟩ := bnd h
        refine r_callB (r7_in_pc hrv3) (.of (by kernel_rfl)) R R R R ?_ ?_
        ·intro c8
         replace h := ifP c8 h
         refine q_pickT R (q_asgD R (ev_endD (by kernel_rfl) (block_norm (then_norm (sw_rg (q_movD R (q_add R (q_asgD R (eN ?_)))))))))
         exact ⟨m18, _, Nat.lt_succ_self _, .prn [2, 3, 4, 5, 6] R, true, (W (y + 1)), h, R⟩
        intro c8
        replace h := ifF c8 h
        refine q_pickT R (q_asgD R (ev_endD (by kernel_rfl) (block_norm (then_norm (sw_rg (q_movD R (q_add R (q_asgD R (eN ?_)))))))))
        exact ⟨m18, _, Nat.lt_succ_self _, .prn [2, 3, 4, 5, 6] R, false, (W (y + 1)), h, R⟩
       intro c7
       replace h := ifF c7 h
       refine q_movD R (q_sk 10 R (q_pickF R (q_asgD R (ev_endD (by kernel_rfl) (block_norm (then_norm (sw_rg (q_movD R (q_add R (q_asgD R (eN ?_)))))))))))
       exact ⟨m18, _, Nat.lt_succ_self _, .prn [2, 3, 4, 5, 6] R, false, (W (y + 1)), h, R⟩
      intro c6
      replace h := ifN (Int.not_lt.2 c6) h
      refine eN (sw_condF R (sw_exit (then_exit (then_exit ?_))))
      subst hK18
      refine block_exit (then_norm (sw_seq (qG (q_asgD R (eN (sw_block ?_))))))
      obtain ⟨K20, hK20, h⟩ : ∃ K, K = _ ∧ r7_formed_L2 F t o K F a 0 = some r := ⟨_, rfl, h⟩
      refine sw_loopS (fun m st => ∃ (a2 : Bool) (x : Int), r7_formed_L2 F t o K20 m a2 x = some r ∧ st = ⟨[(2, .ref 0 7 0 0), (3, .ref 1 6 0 0), (4, .d (.v (.bool false))), (5, .d (.v (.bool a2))), (7, .d (vI x))], [some ⟨7, [.d (PdPad.d t)]⟩, some ⟨6, [.d (PdState.d o)]⟩]⟩) (.prn [2, 3, 4, 5, 7] R) ⟨a, 0, h, R⟩ ?_
      clear h
      rintro m20 st ⟨a2, x, h, rfl⟩
      cases m20 with
      | zero => cases (show (none : Option Bool) = some r from h)
      | succ m20 =>
      rw [r7_formed_L2] at h
      refine sw_seq (qG (q_movD R (q_fa tb R (q_ldD (y := .arr 1 ((o.holder).map vI)) tb R (q_lenM tb R ?_)))))
      refine r_lss R R R R ?_ ?_
      ·intro c9
       replace h := ifP c9 h
       refine eN (sw_condT R (sw_skip (then_norm (sw_seq (sw_block (sw_dr (by kernel_rfl) (q_movD R ?_)))))))
       with_reducible apply ev_lit
       ·intro c10
        replace h := ifP c10 h
        refine q_movD R (q_fa tb R (q_ldD (y := .arr 1 ((o.holder).map vI)) tb R (q_movD R ?_)))
        obtain ⟨e2, ie2, h⟩ := bnd h
        refine q_ixE tb (ix0 ie2) (ix1m ie2) R (q_ldE (y := vI e2) tb (ix2 (g := vI) ie2) R (q_fa tb R (q_ldD (y := .arr 2 ((t.people).map PdPerson.d)) tb R (q_lenM tb R (r_sub R R R R ?_)))))
        obtain ⟨rv4, hrv4, h⟩ := bnd h
        refine r_callB (r7_in_pc hrv4) (.of (by kernel_rfl)) R R R R ?_ ?_
        ·intro c11
         replace h := ifP c11 h
         refine q_pickT R (q_asgD R (ev_endD (by kernel_rfl) (block_norm (then_norm (sw_rg (q_movD R (q_add R (q_asgD R (eN ?_)))))))))
         exact ⟨m20, _, Nat.lt_succ_self _, .prn [2, 3, 4, 5, 7] R, true, (W (x + 1)), h, R⟩
        intro c11
        replace h := ifF c11 h
        refine q_pickT R (q_asgD R (ev_endD (by kernel_rfl) (block_norm (then_norm (sw_rg (q_movD R (q_add R (q_asgD R (eN ?_)))))))))
        exact ⟨m20, _, Nat.lt_succ_self _, .prn [2, 3, 4, 5, 7] R, false, (W (x + 1)), h, R⟩
       intro c10
       replace h := ifF c10 h
       refine q_movD R (q_sk 10 R (q_pickF R (q_asgD R (ev_endD (by kernel_rfl) (block_norm (then_norm (sw_rg (q_movD R (q_add R (q_asgD R (eN ?_)))))))))))
       exact ⟨m20, _, Nat.lt_succ_self _, .prn [2, 3, 4, 5, 7] R, false, (W (x + 1)), h, R⟩
      intro c9
      replace h := ifN (Int.not_lt.2 c9) h
      refine eN (sw_condF R (sw_exit (then_exit (then_exit ?_))))
      subst hK20
      refine block_exit (then_norm (sw_seq (qG (q_asgD R (eN (sw_block ?_))))))
      obtain ⟨K22, hK22, h⟩ : ∃ K, K = _ ∧ r7_formed_L1 F o K F a2 0 = some r := ⟨_, rfl, h⟩
      refine sw_loopS (st0 := ⟨[(3, .ref 0 6 0 0), (4, .d (.v (.bool false))), (5, .d (.v (.bool a2))), (8, .d (vI 0))], [some ⟨6, [.d (PdState.d o)]⟩]⟩) (fun m st => ∃ (a3 : Bool) (x2 : Int), r7_formed_L1 F o K22 m a3 x2 = some r ∧ st = ⟨[(3, .ref 0 6 0 0), (4, .d (.v (.bool false))), (5, .d (.v (.bool a3))), (8, .d (vI x2))], [some ⟨6, [.d (PdState.d o)]⟩]⟩) (.vw (κ := [1]) (vK (.cons R R .nil) R)) ⟨a2, 0, h, R⟩ ?_
      clear h
      rintro m22 st ⟨a3, x2, h, rfl⟩
      cases m22 with
      | zero => cases (show (none : Option Bool) = some r from h)
      | succ m22 =>
      rw [r7_formed_L1] at h
      refine sw_seq (qG (q_movD R (q_fa tb R (q_ldD (y := .arr 1 ((o.squibs).map vI)) tb R (q_lenM tb R ?_)))))
      refine r_lss R R R R ?_ ?_
      ·intro c12
       replace h := ifP c12 h
       refine eN (sw_condT R (sw_skip (then_norm (sw_seq (sw_block (sw_rg (q_movD R ?_)))))))
       with_reducible apply ev_lit
       ·intro c13
        replace h := ifP c13 h
        refine q_movD R (q_fa tb R (q_ldD (y := .arr 1 ((o.squibs).map vI)) tb R (q_movD R ?_)))
        obtain ⟨e3, ie3, h⟩ := bnd h
        refine q_ixE tb (ix0 ie3) (ix1m ie3) R (q_ldE (y := vI e3) tb (ix2 (g := vI) ie3) R ?_)
        obtain ⟨rv5, hrv5, h⟩ := bnd h
        refine r_callB (r7_in_pc hrv5) (.of (by kernel_rfl)) R R R R ?_ ?_
        ·intro c14
         replace h := ifP c14 h
         refine q_pickT R (q_asgD R (ev_end (block_norm (then_norm (sw_rg (q_movD R (q_add R (q_asgD R (eN ?_)))))))))
         exact ⟨m22, _, Nat.lt_succ_self _, .prn [3, 4, 5, 8] R, true, (W (x2 + 1)), h, R⟩
        intro c14
        replace h := ifF c14 h
        refine q_pickT R (q_asgD R (ev_end (block_norm (then_norm (sw_rg (q_movD R (q_add R (q_asgD R (eN ?_)))))))))
        exact ⟨m22, _, Nat.lt_succ_self _, .prn [3, 4, 5, 8] R, false, (W (x2 + 1)), h, R⟩
       intro c13
       replace h := ifF c13 h
       refine q_movD R (q_sk 6 R (q_pickF R (q_asgD R (ev_end (block_norm (then_norm (sw_rg (q_movD R (q_add R (q_asgD R (eN ?_)))))))))))
       exact ⟨m22, _, Nat.lt_succ_self _, .prn [3, 4, 5, 8] R, false, (W (x2 + 1)), h, R⟩
      intro c12
      replace h := ifN (Int.not_lt.2 c12) h
      refine eN (sw_condF R (sw_exit (then_exit (then_exit ?_))))
      subst hK22
      refine block_exit (then_norm (qG (q_movD R (q_asgD R (eN (sw_ret ?_))))))
      obtain rfl := sI h
      exact f1 4 R
     intro c5
     replace h := ifN c5 h
     refine q_pickT R (q_asgD R (eN ?_))
     exact .inl ⟨(), h, .prn [2, 3, 4, 5] R⟩
    intro c4
    replace h := ifN c4 h
    refine q_pickT R (q_movD R (q_sk 7 R (q_pickF R (q_asgD R (eN ?_)))))
    exact .inl ⟨(), h, .prn [2, 3, 4, 5] R⟩
   intro c3
   replace h := ifN c3 h
   refine q_pickT R (q_movD R (q_sk 7 R (q_pickF R (q_movD R (q_sk 7 R (q_pickF R (q_asgD R (eN ?_))))))))
   exact .inl ⟨(), h, .prn [2, 3, 4, 5] R⟩
  intro c2
  replace h := ifF c2 h
  refine q_pickT R (q_movD R (q_sk 7 R (q_pickF R (q_movD R (q_sk 7 R (q_pickF R (q_movD R (q_sk 7 R (q_pickF R (q_asgD R (eN ?_)))))))))))
  exact .inl ⟨(), h, .prn [2, 3, 4, 5] R⟩
 intro c
 replace h := ifF c h
 refine q_movD R (q_sk 5 R (q_pickF R (q_movD R (q_sk 7 R (q_pickF R (q_movD R (q_sk 7 R (q_pickF R (q_movD R (q_sk 7 R (q_pickF R (q_asgD R (eN ?_)))))))))))))
 exact .inl ⟨(), h, .prn [2, 3, 4, 5] R⟩
def r7_many_L1 (F : Nat) (s : PdState) (zone : Int) (K : Int → Int → Option Int) : Nat → Int → Int → Option Int
 | 0, _, _ => none
 | n + 1, nv, i => if i < (s.zones.length : Int) then (Option.bind (ixO s.zones i) fun e => if e = zone then (r7_many_L1 F s zone K n (W (nv + 1)) (W (i + 1))) else (r7_many_L1 F s zone K n nv (W (i + 1)))) else (K nv i)
def r7_many (F : Nat) (s : PdState) (zone : Int) : Option Int := r7_many_L1 F s zone (fun (nv : Int) (i : Int) => some nv) F 0 0
theorem r7_many_pc {F : Nat} {s : PdState} {zone : Int} {r : Int} (h : r7_many F s zone = some r) : PC Tryz.prog 81 [PdState.d s, .v (.int .i64 zone)] (.v (.int .i64 r)) := by
 rw [r7_many] at h
 refine SC.of_sw Tryz.func81 R R R ?_
 dsimp only [argS, List.map]
 refine qG (q_box R (q_asgD R (eN (qG (q_asgD R (eN (sw_seq (qG (q_asgD R (eN (sw_block ?_)))))))))))
 obtain ⟨K3, hK3, h⟩ : ∃ K, K = _ ∧ r7_many_L1 F s zone K F 0 0 = some r := ⟨_, rfl, h⟩
 refine sw_loopS (fun m st => ∃ (nv : Int) (i : Int), r7_many_L1 F s zone K3 m nv i = some r ∧ st = ⟨[(1, .d (vI zone)), (2, .ref 0 6 0 0), (4, .d (vI 0)), (5, .d (vI nv)), (6, .d (vI i))], [some ⟨6, [.d (PdState.d s)]⟩]⟩) (.prn [1, 2, 4, 5, 6] R) ⟨0, 0, h, R⟩ ?_
 clear h
 rintro m3 st ⟨nv, i, h, rfl⟩
 cases m3 with
 | zero => cases (show (none : Option Int) = some r from h)
 | succ m3 =>
 rw [r7_many_L1] at h
 refine sw_seq (qG (q_movD R (q_fa tb R (q_ldD (y := .arr 1 ((s.zones).map vI)) tb R (q_lenM tb R ?_)))))
 refine r_lss R R R R ?_ ?_
 ·intro c
  replace h := ifP c h
  refine eN (sw_condT R (sw_skip (then_norm (sw_seq (sw_block (qG (q_fa tb R (q_ldD (y := .arr 1 ((s.zones).map vI)) tb R (q_movD R ?_)))))))))
  obtain ⟨e, ie, h⟩ := bnd h
  refine q_ixE tb (ix0 ie) (ix1m ie) R (q_ldE (y := vI e) tb (ix2 (g := vI) ie) R (q_movD R ?_))
  refine r_eql R R R R ?_ ?_
  ·intro c2
   replace h := ifP c2 h
   refine eN (sw_condT R (sw_rg (q_movD R (q_add R (q_asgD R (ev_end (block_norm (then_norm (sw_rg (q_movD R (q_add R (q_asgD R (eN ?_)))))))))))))
   exact ⟨m3, _, Nat.lt_succ_self _, .prn [1, 2, 4, 5, 6] R, (W (nv + 1)), (W (i + 1)), h, R⟩
  intro c2
  replace h := ifN c2 h
  refine eN (sw_condF R (sw_skip (block_norm (then_norm (sw_rg (q_movD R (q_add R (q_asgD R (eN ?_)))))))))
  exact ⟨m3, _, Nat.lt_succ_self _, .prn [1, 2, 4, 5, 6] R, nv, (W (i + 1)), h, R⟩
 intro c
 replace h := ifN (Int.not_lt.2 c) h
 refine eN (sw_condF R (sw_exit (then_exit (then_exit ?_))))
 subst hK3
 refine block_exit (then_norm (qG (q_movD R (q_asgD R (eN (sw_ret ?_))))))
 obtain rfl := sI h
 exact f1 4 R
def r7_holds_L1 (F : Nat) (s : PdState) (person : Int) (e : PdSquib) (K : Int → Option Bool) : Nat → Int → Option Bool
 | 0, _ => none
 | n + 1, i => if i < (e.keys.length : Int) then (Option.bind (ixO e.keys i) fun e2 => Option.bind (ixO s.holder e2) fun e3 => if e3 = person then (some true) else (r7_holds_L1 F s person e K n (W (i + 1)))) else (K i)
def r7_holds (F : Nat) (p : PdPad) (s : PdState) (person : Int) (squib : Int) : Option Bool := Option.bind (ixO p.squibs squib) fun e => r7_holds_L1 F s person e (fun (i : Int) => some false) F 0
theorem r7_holds_pc {F : Nat} {p : PdPad} {s : PdState} {person : Int} {squib : Int} {r : Bool} (h : r7_holds F p s person squib = some r) : PC Tryz.prog 108 [PdPad.d p, PdState.d s, .v (.int .i64 person), .v (.int .i64 squib)] (.v (.bool r)) := by
 rw [r7_holds] at h
 refine SC.of_sw Tryz.func108 R R R ?_
 dsimp only [argS, List.map]
 refine qG (q_box R (q_box R (q_asgD R (eN (qG (q_fa tb R (q_ldD (y := .arr 6 ((p.squibs).map PdSquib.d)) tb R (q_movD R ?_))))))))
 obtain ⟨e, ie, h⟩ := bnd h
 refine q_ixE tb (ix0 ie) (ix1m ie) R (q_faE tb R (q_ldE (y := .arr 1 ((e.keys).map vI)) tb (ix2 (g := PdSquib.d) ie) R (q_asgD R (eN (sw_seq (qG (q_asgD R (eN (sw_block ?_)))))))))
 obtain ⟨K3, hK3, h⟩ : ∃ K, K = _ ∧ r7_holds_L1 F s person e K F 0 = some r := ⟨_, rfl, h⟩
 refine sw_loopS (st0 := ⟨[(2, .d (vI person)), (5, .ref 0 6 0 0), (8, .d (.v (.bool false))), (9, .d (.arr 1 ((e.keys).map vI))), (10, .d (vI 0))], [some ⟨6, [.d (PdState.d s)]⟩]⟩) (fun m st => ∃ (i : Int), r7_holds_L1 F s person e K3 m i = some r ∧ st = ⟨[(2, .d (vI person)), (5, .ref 0 6 0 0), (8, .d (.v (.bool false))), (9, .d (.arr 1 ((e.keys).map vI))), (10, .d (vI i))], [some ⟨6, [.d (PdState.d s)]⟩]⟩) (.vw (κ := [1]) (vK (.cons R R .nil) R)) ⟨0, h, R⟩ ?_
 clear h
 rintro m3 st ⟨i, h, rfl⟩
 cases m3 with
 | zero => cases (show (none : Option Bool) = some r from h)
 | succ m3 =>
 rw [r7_holds_L1] at h
 refine sw_seq (qG (q_movD R (q_movD R (q_lenM tb R ?_))))
 refine r_lss R R R R ?_ ?_
 ·intro c
  replace h := ifP c h
  refine eN (sw_condT R (sw_skip (then_norm (sw_seq (sw_block (sw_seq (sw_dr (by kernel_rfl) (q_fa tb R (q_ldD (y := .arr 1 ((s.holder).map vI)) tb R (q_movD R (q_movD R ?_)))))))))))
  obtain ⟨e2, ie2, h⟩ := bnd h
  refine q_ixE tb (ix0 ie2) (ix1m ie2) R (q_ldE (y := vI e2) tb (ix2 (g := vI) ie2) R ?_)
  obtain ⟨e3, ie3, h⟩ := bnd h
  refine q_ixE tb (ix0 ie3) (ix1m ie3) R (q_ldE (y := vI e3) tb (ix2 (g := vI) ie3) R (q_movD R ?_))
  refine r_eql R R R R ?_ ?_
  ·intro c2
   replace h := ifP c2 h
   refine ev_endD (by kernel_rfl) (then_norm (sw_condT R (qG (q_asgD R (eN (sw_ret (block_ret (then_ret (then_ret (block_ret (then_ret ?_)))))))))))
   obtain rfl := sI h
   exact f1 8 R
  intro c2
  replace h := ifN c2 h
  refine ev_endD (by kernel_rfl) (then_norm (sw_condF R (sw_skip (block_norm (then_norm (sw_rg (q_movD R (q_add R (q_asgD R (eN ?_))))))))))
  exact ⟨m3, _, Nat.lt_succ_self _, .prn [2, 5, 8, 9, 10] R, (W (i + 1)), h, R⟩
 intro c
 replace h := ifN (Int.not_lt.2 c) h
 refine eN (sw_condF R (sw_exit (then_exit (then_exit ?_))))
 subst hK3
 refine block_exit (then_norm (qG (q_asgD R (eN (sw_ret ?_)))))
 obtain rfl := sI h
 exact f1 8 R
def r7_keyed_J1 (F : Nat) (B3 : Int → Option Bool) (q : Int) : Option Bool := B3 (W (q + 1))
def r7_keyed_J2 (F : Nat) (B3 : Int → Option Bool) (p : PdPad) (s : PdState) (person : Int) (zone : Int) (q : Int) : Option Bool := Option.bind (ixO s.squibs q) fun e => if e = 2 then (r7_keyed_J1 F B3 q) else (Option.bind (r7_near F p zone q) fun rv => if rv = true then (Option.bind (r7_holds F p s person q) fun rv2 => if rv2 = true then (r7_keyed_J1 F B3 q) else (some false)) else (r7_keyed_J1 F B3 q))
def r7_keyed_L1 (F : Nat) (p : PdPad) (s : PdState) (person : Int) (zone : Int) (K : Int → Option Bool) : Nat → Int → Option Bool
 | 0, _ => none
 | n + 1, q => if q < (p.squibs.length : Int) then (if 0 ≤ zone then (r7_keyed_J2 F (r7_keyed_L1 F p s person zone K n) p s person zone q) else (K q)) else (K q)
def r7_keyed (F : Nat) (p : PdPad) (s : PdState) (person : Int) (zone : Int) : Option Bool := r7_keyed_L1 F p s person zone (fun (q : Int) => some true) F 0
theorem r7_keyed_pc {F : Nat} {p : PdPad} {s : PdState} {person : Int} {zone : Int} {r : Bool} (h : r7_keyed F p s person zone = some r) : PC Tryz.prog 82 [PdPad.d p, PdState.d s, .v (.int .i64 person), .v (.int .i64 zone)] (.v (.bool r)) := by
 rw [r7_keyed] at h
 refine SC.of_sw Tryz.func82 R R R ?_
 dsimp only [argS, List.map]
 refine qG (q_box R (q_box R (q_asgD R (eN (sw_seq (qG (q_asgD R (eN (sw_block ?_)))))))))
 obtain ⟨K3, hK3, h⟩ : ∃ K, K = _ ∧ r7_keyed_L1 F p s person zone K F 0 = some r := ⟨_, rfl, h⟩
 refine sw_loopS (fun m st => ∃ (q : Int), r7_keyed_L1 F p s person zone K3 m q = some r ∧ st = ⟨[(2, .d (vI person)), (3, .d (vI zone)), (4, .ref 0 7 0 0), (5, .ref 1 6 0 0), (8, .d (.v (.bool false))), (9, .d (vI q))], [some ⟨7, [.d (PdPad.d p)]⟩, some ⟨6, [.d (PdState.d s)]⟩]⟩) (.prn [2, 3, 4, 5, 8, 9] R) ⟨0, h, R⟩ ?_
 clear h
 rintro m3 st ⟨q, h, rfl⟩
 cases m3 with
 | zero => cases (show (none : Option Bool) = some r from h)
 | succ m3 =>
 rw [r7_keyed_L1] at h
 refine sw_seq ?_
 refine sw_join (fun zz : Unit => r7_keyed_J2 F (r7_keyed_L1 F p s person zone K3 m3) p s person zone q = some r) (fun zz : Unit => ⟨[(2, .d (vI person)), (3, .d (vI zone)), (4, .ref 0 7 0 0), (5, .ref 1 6 0 0), (8, .d (.v (.bool false))), (9, .d (vI q))], [some ⟨7, [.d (PdPad.d p)]⟩, some ⟨6, [.d (PdState.d s)]⟩]⟩) ?_ ?_
 ·clear h
  rintro ⟨⟩ h
  rw [r7_keyed_J2] at h
  refine sw_seq ?_
  refine sw_join (fun zz : Unit => r7_keyed_J1 F (r7_keyed_L1 F p s person zone K3 m3) q = some r) (fun zz : Unit => ⟨[(2, .d (vI person)), (3, .d (vI zone)), (4, .ref 0 7 0 0), (5, .ref 1 6 0 0), (8, .d (.v (.bool false))), (9, .d (vI q))], [some ⟨7, [.d (PdPad.d p)]⟩, some ⟨6, [.d (PdState.d s)]⟩]⟩) ?_ ?_
  ·clear h
   rintro ⟨⟩ h
   rw [r7_keyed_J1] at h
   refine sw_rg (q_movD R (q_add R (q_asgD R (eN ?_))))
   exact ⟨m3, _, Nat.lt_succ_self _, .prn [2, 3, 4, 5, 8, 9] R, (W (q + 1)), h, R⟩
  refine sw_block (qG (q_fa tb R (q_ldD (y := .arr 1 ((s.squibs).map vI)) tb R (q_movD R ?_))))
  obtain ⟨e, ie, h⟩ := bnd h
  refine q_ixE tb (ix0 ie) (ix1m ie) R (q_ldE (y := vI e) tb (ix2 (g := vI) ie) R ?_)
  refine r_neq R R R R ?_ ?_
  ·intro c3
   replace h := ifN c3 h
   refine q_movD R (q_ldD (y := PdPad.d p) tb R (q_movD R (q_movD R ?_)))
   obtain ⟨rv, hrv, h⟩ := bnd h
   refine r_callB (r7_near_pc hrv) (.of (by kernel_rfl)) R R R R ?_ ?_
   ·intro c4
    replace h := ifP c4 h
    refine q_pickT R (q_movD R (q_ldD (y := PdPad.d p) tb R (q_ldD (y := PdState.d s) tb R (q_movD R (q_movD R ?_)))))
    obtain ⟨rv2, hrv2, h⟩ := bnd h
    refine r_callB (r7_holds_pc hrv2) (.of (by kernel_rfl)) R R R R ?_ ?_
    ·intro c5
     replace h := ifP c5 h
     refine r_notT R R R (q_pickT R (eN (sw_condF R (sw_skip (block_norm (then_norm ?_))))))
     exact .inl ⟨(), h, .prn [2, 3, 4, 5, 8, 9] R⟩
    intro c5
    replace h := ifF c5 h
    refine r_notF R R R (q_pickT R (eN (sw_condT R (qG (q_asgD R (eN (sw_ret (block_ret (then_ret (then_ret (block_ret (then_ret ?_))))))))))))
    obtain rfl := sI h
    exact f1 8 R
   intro c4
   replace h := ifF c4 h
   refine q_pickT R (q_movD R (q_sk 6 R (q_pickF R (eN (sw_condF R (sw_skip (block_norm (then_norm ?_))))))))
   exact .inl ⟨(), h, .prn [2, 3, 4, 5, 8, 9] R⟩
  intro c3
  replace h := ifP c3 h
  refine q_movD R (q_sk 4 R (q_pickF R (q_movD R (q_sk 6 R (q_pickF R (eN (sw_condF R (sw_skip (block_norm (then_norm ?_))))))))))
  exact .inl ⟨(), h, .prn [2, 3, 4, 5, 8, 9] R⟩
 refine qG (q_movD R (q_fa tb R (q_ldD (y := .arr 6 ((p.squibs).map PdSquib.d)) tb R (q_lenM tb R ?_))))
 refine r_lss R R R R ?_ ?_
 ·intro c
  replace h := ifP c h
  refine q_movD R (q_movD R ?_)
  refine r_geq R R R R ?_ ?_
  ·intro c2
   replace h := ifP c2 h
   refine q_pickT R (eN (sw_condT R (sw_skip (then_norm ?_))))
   exact .inl ⟨(), h, .prn [2, 3, 4, 5, 8, 9] R⟩
  intro c2
  replace h := ifN (Int.not_le.2 c2) h
  refine q_pickT R (eN (sw_condF R (sw_exit (then_exit (then_exit ?_)))))
  subst hK3
  refine block_exit (then_norm (qG (q_asgD R (eN (sw_ret ?_)))))
  obtain rfl := sI h
  exact f1 8 R
 intro c
 replace h := ifN (Int.not_lt.2 c) h
 refine q_movD R (q_sk 2 R (q_pickF R (eN (sw_condF R (sw_exit (then_exit (then_exit ?_)))))))
 subst hK3
 refine block_exit (then_norm (qG (q_asgD R (eN (sw_ret ?_)))))
 obtain rfl := sI h
 exact f1 8 R
def r7_owed_L1 (F : Nat) (s : PdState) (e : PdSquib) (K : (List Int) → Int → Option (List Int)) : Nat → (List Int) → Int → Option (List Int)
 | 0, _, _ => none
 | n + 1, out, i => if i < (e.keys.length : Int) then (Option.bind (ixO e.keys i) fun e2 => Option.bind (ixO s.holder e2) fun e3 => if e3 = (-1) then (r7_owed_L1 F s e K n out (W (i + 1))) else (Option.bind (appO out [e2]) fun q => r7_owed_L1 F s e K n q (W (i + 1)))) else (K out i)
def r7_owed (F : Nat) (p : PdPad) (s : PdState) (squib : Int) : Option (List Int) := Option.bind (ixO p.squibs squib) fun e => r7_owed_L1 F s e (fun (out : (List Int)) (i : Int) => some out) F ([] : List Int) 0
theorem r7_owed_scr {F : Nat} {p : PdPad} {s : PdState} {squib : Int} {r : (List Int)} (h : r7_owed F p s squib = some r) : SCR Tryz.prog 37 (List.map T.d [PdPad.d p, PdState.d s, .v (.int .i64 squib)]) [] (.row 0 1 0 (r).length) (List.map some [(lvI r)]) := by
 rw [r7_owed] at h
 refine SC.of_sw Tryz.func37 R R R ?_
 dsimp only [argS, List.map]
 refine qG (q_box R (q_box R (q_asgD R (eN (qG (q_asgD R (eN (qG (q_fa tb R (q_ldD (y := .arr 6 ((p.squibs).map PdSquib.d)) tb R (q_movD R ?_)))))))))))
 obtain ⟨e, ie, h⟩ := bnd h
 refine q_ixE tb (ix0 ie) (ix1m ie) R (q_faE tb R (q_ldE (y := .arr 1 ((e.keys).map vI)) tb (ix2 (g := PdSquib.d) ie) R (q_asgD R (eN (sw_seq (qG (q_asgD R (eN (sw_block ?_)))))))))
 refine SW.own (ts' := [(4, .ref 1 6 0 0), (6, .d (.v (.slice none 0 0))), (7, .row 2 1 0 (([] : List Int)).length), (8, .d (.arr 1 ((e.keys).map vI))), (9, .d (vI 0))]) (L' := [some ⟨7, [.d (PdPad.d p)]⟩, some ⟨6, [.d (PdState.d s)]⟩]) 1 R R (.cons (.same _) (.cons (.same _) (.cons .nil (.cons (.same _) (.cons (.same _) .nil))))) (.same (.same .nil)) ?_
 simp only [List.cons_append, List.nil_append]
 obtain ⟨K2, hK2, h⟩ : ∃ K, K = _ ∧ r7_owed_L1 F s e K F ([] : List Int) 0 = some r := ⟨_, rfl, h⟩
 refine sw_loopS (st0 := ⟨[(4, .ref 0 6 0 0), (6, .d (.v (.slice none 0 0))), (7, .row 1 1 0 (([] : List Int)).length), (8, .d (.arr 1 ((e.keys).map vI))), (9, .d (vI 0))], [some ⟨6, [.d (PdState.d s)]⟩, some (lvI ([] : List Int))]⟩) (fun m st => ∃ (out : (List Int)) (i : Int), r7_owed_L1 F s e K2 m out i = some r ∧ st = ⟨[(4, .ref 0 6 0 0), (6, .d (.v (.slice none 0 0))), (7, .row 1 1 0 (out).length), (8, .d (.arr 1 ((e.keys).map vI))), (9, .d (vI i))], [some ⟨6, [.d (PdState.d s)]⟩, some (lvI out)]⟩) (.vw (κ := [1, 2]) (vK (.cons R R (.row R .nil)) R)) ⟨([] : List Int), 0, h, R⟩ ?_
 clear h
 rintro m2 st ⟨out, i, h, rfl⟩
 cases m2 with
 | zero => cases (show (none : Option (List Int)) = some r from h)
 | succ m2 =>
 rw [r7_owed_L1] at h
 refine sw_seq (qG (q_movD R (q_movD R (q_lenM tb R ?_))))
 refine r_lss R R R R ?_ ?_
 ·intro c
  replace h := ifP c h
  refine eN (sw_condT R (sw_skip (then_norm (sw_seq (sw_block (sw_seq (sw_dr (by kernel_rfl) (q_fa tb R (q_ldD (y := .arr 1 ((s.holder).map vI)) tb R (q_movD R (q_movD R ?_)))))))))))
  obtain ⟨e2, ie2, h⟩ := bnd h
  refine q_ixE tb (ix0 ie2) (ix1m ie2) R (q_ldE (y := vI e2) tb (ix2 (g := vI) ie2) R ?_)
  obtain ⟨e3, ie3, h⟩ := bnd h
  refine q_ixE tb (ix0 ie3) (ix1m ie3) R (q_ldE (y := vI e3) tb (ix2 (g := vI) ie3) R ?_)
  refine r_neq R R R R ?_ ?_
  ·intro c2
   replace h := ifN c2 h
   refine ev_endD (by kernel_rfl) (then_norm (sw_condT R (sw_rg (r_movW R R R (q_movD R (q_movD R (q_ixE tb (ix0 ie2) (ix1m ie2) R (q_ldE (y := vI e2) tb (ix2 (g := vI) ie2) R (r_bslice tb R R R R R R R R R R R R R ?_)))))))))
   obtain ⟨q, iq, h⟩ := bnd h
   refine r_apM (g := vI) (w := out) (v := [e2]) ([some ⟨6, [.d (PdState.d s)]⟩, none, some (lvI [e2])]) tb R R R R R R R R R R R iq R R R R R (r_asgW R R R (ev_end (block_norm (then_norm (sw_rg (q_movD R (q_add R (q_asgD R (eN ?_)))))))))
   exact ⟨m2, ⟨[(4, .ref 0 6 0 0), (6, .d (.v (.slice none 0 0))), (7, .row 1 1 0 (q).length), (8, .d (.arr 1 ((e.keys).map vI))), (9, .d (vI (W (i + 1))))], [some ⟨6, [.d (PdState.d s)]⟩, some (lvI q)]⟩, Nat.lt_succ_self _, .vw (κ := [0, 3]) (vK (.cons R R (.row R .nil)) R), q, (W (i + 1)), h, R⟩
  intro c2
  replace h := ifP c2 h
  refine ev_endD (by kernel_rfl) (then_norm (sw_condF R (sw_skip (block_norm (then_norm (sw_rg (q_movD R (q_add R (q_asgD R (eN ?_))))))))))
  exact ⟨m2, _, Nat.lt_succ_self _, .prn [4, 6, 7, 8, 9] R, out, (W (i + 1)), h, R⟩
 intro c
 replace h := ifN (Int.not_lt.2 c) h
 refine eN (sw_condF R (sw_exit (then_exit (then_exit ?_))))
 subst hK2
 refine block_exit (then_norm (qG (r_movW R R R (r_asgW R R R (eN (sw_ret ?_))))))
 obtain rfl := sI h
 exact f2 [1] (.row R .nil) R (.cons (.tmp 6) .nil) R
theorem r7_owed_pc {F : Nat} {p : PdPad} {s : PdState} {squib : Int} {r : (List Int)} (h : r7_owed F p s squib = some r) : PC Tryz.prog 37 [PdPad.d p, PdState.d s, .v (.int .i64 squib)] (.arr 1 ((r).map vI)) := (r7_owed_scr h).toPC (.row rfl rfl)
def r7_sound_J1 (F : Nat) (B3 : Int → Option Bool) (a : Int) : Option Bool := B3 (W (a + 1))
def r7_sound_J2 (F : Nat) (B6 : Int → Option Bool) (x : Int) : Option Bool := B6 (W (x + 1))
def r7_sound_J3 (F : Nat)  : Option Bool := some false
def r7_sound_J4 (F : Nat) (B9 : Int → Option Bool) (x2 : Int) : Option Bool := B9 (W (x2 + 1))
def r7_sound_L1 (F : Nat) (t : PdPad) (o : PdState) (K : Int → Option Bool) : Nat → Int → Option Bool
 | 0, _ => none
 | n + 1, x2 => if x2 < (o.squibs.length : Int) then (Option.bind (ixO o.squibs x2) fun e5 => if e5 = 1 then (Option.bind (r7_owed F t o x2) fun rv4 => if 0 < (rv4.length : Int) then (r7_sound_J3 F) else (if o.siren < 0 then (r7_sound_J3 F) else (if o.storm = true then (r7_sound_J3 F) else (r7_sound_J4 F (r7_sound_L1 F t o K n) x2)))) else (r7_sound_J4 F (r7_sound_L1 F t o K n) x2)) else (K x2)
def r7_sound_L2 (F : Nat) (t : PdPad) (o : PdState) (K : Int → Option Bool) : Nat → Int → Option Bool
 | 0, _ => none
 | n + 1, x => if x < (o.zones.length : Int) then (Option.bind (ixO o.zones x) fun e2 => if 0 ≤ e2 then (Option.bind (ixO t.people x) fun e3 => Option.bind (ixO t.zones e2) fun e4 => if e3.grade < e4.grade then (r7_sound_J3 F) else (Option.bind (r7_keyed F t o x e2) fun rv2 => if rv2 = true then (r7_sound_J2 F (r7_sound_L2 F t o K n) x) else (r7_sound_J3 F))) else (Option.bind (r7_keyed F t o x e2) fun rv3 => if rv3 = true then (r7_sound_J2 F (r7_sound_L2 F t o K n) x) else (r7_sound_J3 F))) else (K x)
def r7_sound_L3 (F : Nat) (t : PdPad) (o : PdState) (K : Int → Option Bool) : Nat → Int → Option Bool
 | 0, _ => none
 | n + 1, a => if a < (t.zones.length : Int) then (Option.bind (r7_many F o a) fun rv => Option.bind (ixO t.zones a) fun e => if e.room < rv then (some false) else (if rv = 1 then (if e.pair = true then (some false) else (r7_sound_J1 F (r7_sound_L3 F t o K n) a)) else (r7_sound_J1 F (r7_sound_L3 F t o K n) a))) else (K a)
def r7_sound (F : Nat) (t : PdPad) (o : PdState) : Option Bool := r7_sound_L3 F t o (fun (a : Int) => r7_sound_L2 F t o (fun (x : Int) => r7_sound_L1 F t o (fun (x2 : Int) => some true) F 0) F 0) F 0
theorem r7_sound_pc {F : Nat} {t : PdPad} {o : PdState} {r : Bool} (h : r7_sound F t o = some r) : PC Tryz.prog 44 [PdPad.d t, PdState.d o] (.v (.bool r)) := by
 rw [r7_sound] at h
 refine SC.of_sw Tryz.func44 R R R ?_
 dsimp only [argS, List.map]
 refine qG (q_box R (q_box R (q_asgD R (eN (sw_seq (qG (q_asgD R (eN (sw_block ?_)))))))))
 obtain ⟨K3, hK3, h⟩ : ∃ K, K = _ ∧ r7_sound_L3 F t o K F 0 = some r := ⟨_, rfl, h⟩
 refine sw_loopS (fun m st => ∃ (a : Int), r7_sound_L3 F t o K3 m a = some r ∧ st = ⟨[(2, .ref 0 7 0 0), (3, .ref 1 6 0 0), (4, .d (.v (.bool false))), (5, .d (vI a))], [some ⟨7, [.d (PdPad.d t)]⟩, some ⟨6, [.d (PdState.d o)]⟩]⟩) (.prn [2, 3, 4, 5] R) ⟨0, h, R⟩ ?_
 clear h
 rintro m3 st ⟨a, h, rfl⟩
 cases m3 with
 | zero => cases (show (none : Option Bool) = some r from h)
 | succ m3 =>
 rw [r7_sound_L3] at h
 refine sw_seq (qG (q_movD R (q_fa tb R (q_ldD (y := .arr 8 ((t.zones).map PdZone.d)) tb R (q_lenM tb R ?_)))))
 refine r_lss R R R R ?_ ?_
 ·intro c
  replace h := ifP c h
  refine eN (sw_condT R (sw_skip (then_norm (sw_seq ?_))))
  refine sw_join (fun zz : Unit => r7_sound_J1 F (r7_sound_L3 F t o K3 m3) a = some r) (fun zz : Unit => ⟨[(2, .ref 0 7 0 0), (3, .ref 1 6 0 0), (4, .d (.v (.bool false))), (5, .d (vI a))], [some ⟨7, [.d (PdPad.d t)]⟩, some ⟨6, [.d (PdState.d o)]⟩]⟩) ?_ ?_
  ·clear h
   rintro ⟨⟩ h
   rw [r7_sound_J1] at h
   refine sw_rg (q_movD R (q_add R (q_asgD R (eN ?_))))
   exact ⟨m3, _, Nat.lt_succ_self _, .prn [2, 3, 4, 5] R, (W (a + 1)), h, R⟩
  refine sw_block (qG (q_ldD (y := PdState.d o) tb R (q_movD R ?_)))
  obtain ⟨rv, hrv, h⟩ := bnd h
  refine r_call (r7_many_pc hrv) (.of (by kernel_rfl)) R R R R (q_asgD R (eN (qG (q_movD R (q_fa tb R (q_ldD (y := .arr 8 ((t.zones).map PdZone.d)) tb R (q_movD R ?_)))))))
  obtain ⟨e, ie, h⟩ := bnd h
  refine q_ixE tb (ix0 ie) (ix1m ie) R (q_faE tb R (q_ldE (y := vI e.room) tb (ix2 (g := PdZone.d) ie) R ?_))
  refine r_gtr R R R R ?_ ?_
  ·intro c2
   replace h := ifP c2 h
   refine q_movD R (q_sk 10 R (q_pickT R (eN (sw_condT R (qG (q_asgD R (eN (sw_ret (block_ret (then_ret (then_ret (block_ret (then_ret ?_)))))))))))))
   obtain rfl := sI h
   exact f1 4 R
  intro c2
  replace h := ifN (Int.not_lt.2 c2) h
  refine q_movD R (q_movD R ?_)
  refine r_eql R R R R ?_ ?_
  ·intro c3
   replace h := ifP c3 h
   refine q_movD R (q_fa tb R (q_ldD (y := .arr 8 ((t.zones).map PdZone.d)) tb R (q_movD R (q_ixE tb (ix0 ie) (ix1m ie) R (q_faE tb R (q_ldE (y := .v (.bool e.pair)) tb (ix2 (g := PdZone.d) ie) R ?_))))))
   with_reducible apply ev_lit
   ·intro c4
    replace h := ifP c4 h
    refine q_pickT R (q_pickF R (eN (sw_condT R (qG (q_asgD R (eN (sw_ret (block_ret (then_ret (then_ret (block_ret (then_ret ?_))))))))))))
    obtain rfl := sI h
    exact f1 4 R
   intro c4
   replace h := ifF c4 h
   refine q_pickT R (q_pickF R (eN (sw_condF R (sw_skip (block_norm (then_norm ?_))))))
   exact .inl ⟨(), h, .prn [2, 3, 4, 5] R⟩
  intro c3
  replace h := ifN c3 h
  refine q_movD R (q_sk 6 R (q_pickF R (q_pickF R (eN (sw_condF R (sw_skip (block_norm (then_norm ?_))))))))
  exact .inl ⟨(), h, .prn [2, 3, 4, 5] R⟩
 intro c
 replace h := ifN (Int.not_lt.2 c) h
 refine eN (sw_condF R (sw_exit (then_exit (then_exit ?_))))
 subst hK3
 refine block_exit (then_norm (sw_seq (qG (q_asgD R (eN (sw_block ?_))))))
 obtain ⟨K6, hK6, h⟩ : ∃ K, K = _ ∧ r7_sound_L2 F t o K F 0 = some r := ⟨_, rfl, h⟩
 refine sw_loopS (fun m st => ∃ (x : Int), r7_sound_L2 F t o K6 m x = some r ∧ st = ⟨[(2, .ref 0 7 0 0), (3, .ref 1 6 0 0), (4, .d (.v (.bool false))), (7, .d (vI x))], [some ⟨7, [.d (PdPad.d t)]⟩, some ⟨6, [.d (PdState.d o)]⟩]⟩) (.prn [2, 3, 4, 7] R) ⟨0, h, R⟩ ?_
 clear h
 rintro m6 st ⟨x, h, rfl⟩
 cases m6 with
 | zero => cases (show (none : Option Bool) = some r from h)
 | succ m6 =>
 rw [r7_sound_L2] at h
 refine sw_seq (qG (q_movD R (q_fa tb R (q_ldD (y := .arr 1 ((o.zones).map vI)) tb R (q_lenM tb R ?_)))))
 refine r_lss R R R R ?_ ?_
 ·intro c5
  replace h := ifP c5 h
  refine eN (sw_condT R (sw_skip (then_norm (sw_seq ?_))))
  refine sw_join (fun zz : Unit => r7_sound_J2 F (r7_sound_L2 F t o K6 m6) x = some r) (fun zz : Unit => ⟨[(2, .ref 0 7 0 0), (3, .ref 1 6 0 0), (4, .d (.v (.bool false))), (7, .d (vI x))], [some ⟨7, [.d (PdPad.d t)]⟩, some ⟨6, [.d (PdState.d o)]⟩]⟩) ?_ ?_
  ·clear h
   rintro ⟨⟩ h
   rw [r7_sound_J2] at h
   refine sw_rg (q_movD R (q_add R (q_asgD R (eN ?_))))
   exact ⟨m6, _, Nat.lt_succ_self _, .prn [2, 3, 4, 7] R, (W (x + 1)), h, R⟩
  refine sw_block (sw_seq ?_)
  refine sw_join (fun zz : Unit => r7_sound_J3 F = some r) (fun zz : Unit => ⟨[(2, .ref 0 7 0 0), (3, .ref 1 6 0 0), (4, .d (.v (.bool false))), (7, .d (vI x)), (82, .d (.v (.bool true)))], [some ⟨7, [.d (PdPad.d t)]⟩, some ⟨6, [.d (PdState.d o)]⟩]⟩) ?_ ?_
  ·clear h
   rintro ⟨⟩ h
   rw [r7_sound_J3] at h
   refine sw_condT R (qG (q_asgD R (eN (sw_ret (block_ret (then_ret (then_ret (block_ret (then_ret ?_)))))))))
   obtain rfl := sI h
   exact f1 4 R
  refine sw_dr (by kernel_rfl) (q_fa tb R (q_ldD (y := .arr 1 ((o.zones).map vI)) tb R (q_movD R ?_)))
  obtain ⟨e2, ie2, h⟩ := bnd h
  refine q_ixE tb (ix0 ie2) (ix1m ie2) R (q_ldE (y := vI e2) tb (ix2 (g := vI) ie2) R ?_)
  refine r_geq R R R R ?_ ?_
  ·intro c6
   replace h := ifP c6 h
   refine q_movD R (q_fa tb R (q_ldD (y := .arr 2 ((t.people).map PdPerson.d)) tb R (q_movD R ?_)))
   obtain ⟨e3, ie3, h⟩ := bnd h
   refine q_ixE tb (ix0 ie3) (ix1m ie3) R (q_faE tb R (q_ldE (y := vI e3.grade) tb (ix2 (g := PdPerson.d) ie3) R (q_fa tb R (q_ldD (y := .arr 8 ((t.zones).map PdZone.d)) tb R (q_fa tb R (q_ldD (y := .arr 1 ((o.zones).map vI)) tb R (q_movD R (q_ixE tb (ix0 ie2) (ix1m ie2) R (q_ldE (y := vI e2) tb (ix2 (g := vI) ie2) R ?_)))))))))
   obtain ⟨e4, ie4, h⟩ := bnd h
   refine q_ixE tb (ix0 ie4) (ix1m ie4) R (q_faE tb R (q_ldE (y := vI e4.grade) tb (ix2 (g := PdZone.d) ie4) R ?_))
   refine r_lss R R R R ?_ ?_
   ·intro c7
    replace h := ifP c7 h
    refine q_pickT R (q_movD R (q_sk 10 R (q_pickT R (ev_endD (by kernel_rfl) (then_norm ?_)))))
    exact .inl ⟨(), h, .prn [2, 3, 4, 7, 82] R⟩
   intro c7
   replace h := ifN (Int.not_lt.2 c7) h
   refine q_pickT R (q_movD R (q_ldD (y := PdPad.d t) tb R (q_ldD (y := PdState.d o) tb R (q_movD R (q_fa tb R (q_ldD (y := .arr 1 ((o.zones).map vI)) tb R (q_movD R (q_ixE tb (ix0 ie2) (ix1m ie2) R (q_ldE (y := vI e2) tb (ix2 (g := vI) ie2) R ?_)))))))))
   obtain ⟨rv2, hrv2, h⟩ := bnd h
   refine r_callB (r7_keyed_pc hrv2) (.of (by kernel_rfl)) R R R R ?_ ?_
   ·intro c8
    replace h := ifP c8 h
    refine r_notT R R R (q_pickF R (ev_endD (by kernel_rfl) (then_norm (.inr (sw_condF R (sw_skip (block_norm (then_norm ?_))))))))
    exact .inl ⟨(), h, .prn [2, 3, 4, 7] R⟩
   intro c8
   replace h := ifF c8 h
   refine r_notF R R R (q_pickF R (ev_endD (by kernel_rfl) (then_norm ?_)))
   exact .inl ⟨(), h, .prn [2, 3, 4, 7, 82] R⟩
  intro c6
  replace h := ifN (Int.not_le.2 c6) h
  refine q_movD R (q_sk 17 R (q_pickF R (q_movD R (q_ldD (y := PdPad.d t) tb R (q_ldD (y := PdState.d o) tb R (q_movD R (q_fa tb R (q_ldD (y := .arr 1 ((o.zones).map vI)) tb R (q_movD R (q_ixE tb (ix0 ie2) (ix1m ie2) R (q_ldE (y := vI e2) tb (ix2 (g := vI) ie2) R ?_)))))))))))
  obtain ⟨rv3, hrv3, h⟩ := bnd h
  refine r_callB (r7_keyed_pc hrv3) (.of (by kernel_rfl)) R R R R ?_ ?_
  ·intro c9
   replace h := ifP c9 h
   refine r_notT R R R (q_pickF R (ev_endD (by kernel_rfl) (then_norm (.inr (sw_condF R (sw_skip (block_norm (then_norm ?_))))))))
   exact .inl ⟨(), h, .prn [2, 3, 4, 7] R⟩
  intro c9
  replace h := ifF c9 h
  refine r_notF R R R (q_pickF R (ev_endD (by kernel_rfl) (then_norm ?_)))
  exact .inl ⟨(), h, .prn [2, 3, 4, 7, 82] R⟩
 intro c5
 replace h := ifN (Int.not_lt.2 c5) h
 refine eN (sw_condF R (sw_exit (then_exit (then_exit ?_))))
 subst hK6
 refine block_exit (then_norm (sw_seq (qG (q_asgD R (eN (sw_block ?_))))))
 obtain ⟨K9, hK9, h⟩ : ∃ K, K = _ ∧ r7_sound_L1 F t o K F 0 = some r := ⟨_, rfl, h⟩
 refine sw_loopS (fun m st => ∃ (x2 : Int), r7_sound_L1 F t o K9 m x2 = some r ∧ st = ⟨[(2, .ref 0 7 0 0), (3, .ref 1 6 0 0), (4, .d (.v (.bool false))), (8, .d (vI x2))], [some ⟨7, [.d (PdPad.d t)]⟩, some ⟨6, [.d (PdState.d o)]⟩]⟩) (.prn [2, 3, 4, 8] R) ⟨0, h, R⟩ ?_
 clear h
 rintro m9 st ⟨x2, h, rfl⟩
 cases m9 with
 | zero => cases (show (none : Option Bool) = some r from h)
 | succ m9 =>
 rw [r7_sound_L1] at h
 refine sw_seq (qG (q_movD R (q_fa tb R (q_ldD (y := .arr 1 ((o.squibs).map vI)) tb R (q_lenM tb R ?_)))))
 refine r_lss R R R R ?_ ?_
 ·intro c10
  replace h := ifP c10 h
  refine eN (sw_condT R (sw_skip (then_norm (sw_seq ?_))))
  refine sw_join (fun zz : Unit => r7_sound_J4 F (r7_sound_L1 F t o K9 m9) x2 = some r) (fun zz : Unit => ⟨[(2, .ref 0 7 0 0), (3, .ref 1 6 0 0), (4, .d (.v (.bool false))), (8, .d (vI x2))], [some ⟨7, [.d (PdPad.d t)]⟩, some ⟨6, [.d (PdState.d o)]⟩]⟩) ?_ ?_
  ·clear h
   rintro ⟨⟩ h
   rw [r7_sound_J4] at h
   refine sw_rg (q_movD R (q_add R (q_asgD R (eN ?_))))
   exact ⟨m9, _, Nat.lt_succ_self _, .prn [2, 3, 4, 8] R, (W (x2 + 1)), h, R⟩
  refine sw_block (sw_seq ?_)
  refine sw_join (fun zz : Unit => r7_sound_J3 F = some r) (fun zz : Unit => ⟨[(2, .ref 0 7 0 0), (3, .ref 1 6 0 0), (4, .d (.v (.bool false))), (8, .d (vI x2)), (112, .d (.v (.bool true)))], [some ⟨7, [.d (PdPad.d t)]⟩, some ⟨6, [.d (PdState.d o)]⟩]⟩) ?_ ?_
  ·clear h
   rintro ⟨⟩ h
   rw [r7_sound_J3] at h
   refine sw_condT R (qG (q_asgD R (eN (sw_ret (block_ret (then_ret (then_ret (block_ret (then_ret ?_)))))))))
   obtain rfl := sI h
   exact f1 4 R
  refine sw_rg (q_fa tb R (q_ldD (y := .arr 1 ((o.squibs).map vI)) tb R (q_movD R ?_)))
  obtain ⟨e5, ie5, h⟩ := bnd h
  refine q_ixE tb (ix0 ie5) (ix1m ie5) R (q_ldE (y := vI e5) tb (ix2 (g := vI) ie5) R ?_)
  refine r_eql R R R R ?_ ?_
  ·intro c11
   replace h := ifP c11 h
   refine q_movD R (q_ldD (y := PdPad.d t) tb R (q_ldD (y := PdState.d o) tb R (q_movD R ?_)))
   obtain ⟨rv4, hrv4, h⟩ := bnd h
   refine r_callN (t' := .row 2 1 0 (rv4).length) (news' := [(lvI rv4)]) (r7_owed_scr hrv4) (.of (by kernel_rfl)) R R R ((.row .nil)) R R R (r_lenR tb R R R R R ?_)
   refine r_gtr R R R R ?_ ?_
   ·intro c12
    replace h := ifP c12 h
    refine q_movD R (q_sk 3 R (q_pickT R (q_movD R (q_sk 2 R (q_pickT R (q_pickT R (eN ?_)))))))
    exact .inl ⟨(), h, .vw (κ := [0, 1]) (vK (.cons R R (.cons R R .nil)) R)⟩
   intro c12
   replace h := ifN (Int.not_lt.2 c12) h
   refine q_movD R (q_fa tb R (q_ldD (y := vI o.siren) tb R ?_))
   refine r_lss R R R R ?_ ?_
   ·intro c13
    replace h := ifP c13 h
    refine q_pickF R (q_movD R (q_sk 2 R (q_pickT R (q_pickT R (eN ?_)))))
    exact .inl ⟨(), h, .vw (κ := [0, 1]) (vK (.cons R R (.cons R R .nil)) R)⟩
   intro c13
   replace h := ifN (Int.not_lt.2 c13) h
   refine q_pickF R (q_movD R (q_fa tb R (q_ldD (y := .v (.bool o.storm)) tb R ?_)))
   with_reducible apply ev_lit
   ·intro c14
    replace h := ifP c14 h
    refine q_pickF R (q_pickT R (eN ?_))
    exact .inl ⟨(), h, .vw (κ := [0, 1]) (vK (.cons R R (.cons R R .nil)) R)⟩
   intro c14
   replace h := ifF c14 h
   refine q_pickF R (q_pickT R (eN (.inr (sw_condF R (sw_skip (block_norm (then_norm ?_)))))))
   exact .inl ⟨(), h, .vw (κ := [0, 1]) (vK (.cons R R (.cons R R .nil)) R)⟩
  intro c11
  replace h := ifN c11 h
  refine q_movD R (q_sk 15 R (q_pickF R (eN (.inr (sw_condF R (sw_skip (block_norm (then_norm ?_))))))))
  exact .inl ⟨(), h, .vw (κ := [0, 1]) (vK (.cons R R (.cons R R .nil)) R)⟩
 intro c10
 replace h := ifN (Int.not_lt.2 c10) h
 refine eN (sw_condF R (sw_exit (then_exit (then_exit ?_))))
 subst hK9
 refine block_exit (then_norm (qG (q_asgD R (eN (sw_ret ?_)))))
 obtain rfl := sI h
 exact f1 4 R
def r7_CheckState_J1 (F : Nat) (e : Int) : Option Int := some e
def r7_CheckState (F : Nat) (p : PdPad) (s : PdState) : Option Int := Option.bind (r7_valid F p) fun rv => if rv = 0 then (Option.bind (r7_formed F p s) fun rv2 => if rv2 = true then (Option.bind (r7_sound F p s) fun rv3 => if rv3 = true then (r7_CheckState_J1 F rv) else (r7_CheckState_J1 F 6)) else (r7_CheckState_J1 F 6)) else (r7_CheckState_J1 F rv)
theorem r7_CheckState_pc {F : Nat} {p : PdPad} {s : PdState} {r : Int} (h : r7_CheckState F p s = some r) : PC Tryz.prog 20 [PdPad.d p, PdState.d s] (.v (.int .i64 r)) := by
 rw [r7_CheckState] at h
 refine SC.of_sw Tryz.func20 R R R ?_
 dsimp only [argS, List.map]
 refine qG (q_box R (q_box R (q_asgD R (eN (qG (q_ldD (y := PdPad.d p) tb R ?_))))))
 obtain ⟨rv, hrv, h⟩ := bnd h
 refine r_call (r7_valid_pc hrv) (.of (by kernel_rfl)) R R R R (q_asgD R (eN (sw_seq ?_)))
 refine sw_join (fun zz : Int => r7_CheckState_J1 F zz = some r) (fun zz : Int => ⟨[(4, .d (vI 0)), (5, .d (vI zz))], []⟩) ?_ ?_
 ·clear h
  rintro e h
  rw [r7_CheckState_J1] at h
  refine qG (q_movD R (q_asgD R (eN (sw_ret ?_))))
  obtain rfl := sI h
  exact f1 4 R
 refine qG (q_movD R ?_)
 refine r_eql R R R R ?_ ?_
 ·intro c
  replace h := ifP c h
  refine q_movD R (q_ldD (y := PdPad.d p) tb R (q_ldD (y := PdState.d s) tb R ?_))
  obtain ⟨rv2, hrv2, h⟩ := bnd h
  refine r_callB (r7_formed_pc hrv2) (.of (by kernel_rfl)) R R R R ?_ ?_
  ·intro c2
   replace h := ifP c2 h
   refine r_notT R R R (q_movD R (q_ldD (y := PdPad.d p) tb R (q_ldD (y := PdState.d s) tb R ?_)))
   obtain ⟨rv3, hrv3, h⟩ := bnd h
   refine r_callB (r7_sound_pc hrv3) (.of (by kernel_rfl)) R R R R ?_ ?_
   ·intro c3
    replace h := ifP c3 h
    refine r_notT R R R (q_pickF R (q_pickT R (eN (sw_condF R (sw_skip (then_norm ?_))))))
    exact .inl ⟨rv, h, .vw (κ := []) (v0 R)⟩
   intro c3
   replace h := ifF c3 h
   refine r_notF R R R (q_pickF R (q_pickT R (eN (sw_condT R (sw_rg (q_asgD R (eN ?_)))))))
   exact .inl ⟨6, h, .vw (κ := []) (v0 R)⟩
  intro c2
  replace h := ifF c2 h
  refine r_notF R R R (q_movD R (q_sk 4 R (q_pickT R (q_pickT R (eN (sw_condT R (sw_rg (q_asgD R (eN ?_)))))))))
  exact .inl ⟨6, h, .vw (κ := []) (v0 R)⟩
 intro c
 replace h := ifN c h
 refine q_movD R (q_sk 10 R (q_pickF R (eN (sw_condF R (sw_skip (then_norm ?_))))))
 exact .inl ⟨rv, h, .vw (κ := []) (v0 R)⟩
def r7_act_J1 (F : Nat) (t : PdPad) (o : PdAct) : Option Int := Option.bind (r7_in F o.with_ 0 (W ((t.people.length : Int) - 1))) fun rv8 => if rv8 = true then (if o.with_ = o.who then (some 2) else (some 0)) else (some 4)
def r7_act_J2 (F : Nat) (t : PdPad) (o : PdAct) : Option Int := if o.kind = 1 then (if o.with_ = (-1) then (some 0) else (r7_act_J1 F t o)) else (r7_act_J1 F t o)
def r7_act_J3 (F : Nat) (t : PdPad) (o : PdAct) : Option Int := if o.kind = 1 then (r7_act_J2 F t o) else (if o.kind = 4 then (r7_act_J2 F t o) else (if o.with_ = (-1) then (some 0) else (some 2)))
def r7_act_J4 (F : Nat) (t : PdPad) (o : PdAct) : Option Int := Option.bind (r7_in F o.what 0 (W ((t.squibs.length : Int) - 1))) fun rv6 => if rv6 = true then (r7_act_J3 F t o) else (some 4)
def r7_act_J5 (F : Nat) (t : PdPad) (o : PdAct) : Option Int := Option.bind (r7_in F o.what 0 (W ((t.keys.length : Int) - 1))) fun rv5 => if rv5 = true then (r7_act_J3 F t o) else (some 4)
def r7_act_J6 (F : Nat) (t : PdPad) (o : PdAct) : Option Int := Option.bind (r7_in F o.what 0 (W ((t.squibs.length : Int) - 1))) fun rv5 => if rv5 = true then (r7_act_J3 F t o) else (some 4)
def r7_act (F : Nat) (t : PdPad) (o : PdAct) : Option Int := Option.bind (r7_in F o.at_ 0 100000) fun rv => if rv = true then (Option.bind (r7_in F o.kind 1 9) fun rv2 => if rv2 = true then (Option.bind (r7_in F o.who 0 (W ((t.people.length : Int) - 1))) fun rv3 => if rv3 = true then (if o.kind = 1 then (if o.what = (-1) then (r7_act_J3 F t o) else (Option.bind (r7_zone F t o.what) fun rv4 => if rv4 = true then (r7_act_J3 F t o) else (some 4))) else (if o.kind = 2 then (r7_act_J5 F t o) else (if o.kind = 3 then (r7_act_J5 F t o) else (if o.kind = 4 then (r7_act_J5 F t o) else (if o.kind = 5 then (r7_act_J6 F t o) else (if o.kind = 6 then (r7_act_J6 F t o) else (if o.kind = 7 then (r7_act_J6 F t o) else (Option.bind (r7_in F o.what 0 1) fun rv5 => if rv5 = true then (r7_act_J3 F t o) else (some 2))))))))) else (some 4)) else (some 2)) else (some 7)
theorem r7_act_pc {F : Nat} {t : PdPad} {o : PdAct} {r : Int} (h : r7_act F t o = some r) : PC Tryz.prog 26 [PdPad.d t, PdAct.d o] (.v (.int .i64 r)) := by
 rw [r7_act] at h
 refine SC.of_sw Tryz.func26 R R R ?_
 dsimp only [argS, List.map]
 refine qG (q_box R (q_box R (q_asgD R (eN (sw_seq (qG (q_fa tb R (q_ldD (y := vI o.at_) tb R ?_))))))))
 obtain ⟨rv, hrv, h⟩ := bnd h
 refine r_callB (r7_in_pc hrv) (.of (by kernel_rfl)) R R R R ?_ ?_
 ·intro c
  replace h := ifP c h
  refine r_notT R R R (eN (sw_condF R (sw_skip (then_norm (sw_seq (qG (q_fa tb R (q_ldD (y := vI o.kind) tb R ?_))))))))
  obtain ⟨rv2, hrv2, h⟩ := bnd h
  refine r_callB (r7_in_pc hrv2) (.of (by kernel_rfl)) R R R R ?_ ?_
  ·intro c2
   replace h := ifP c2 h
   refine r_notT R R R (eN (sw_condF R (sw_skip (then_norm (sw_seq (qG (q_fa tb R (q_ldD (y := vI o.who) tb R (q_fa tb R (q_ldD (y := .arr 2 ((t.people).map PdPerson.d)) tb R (q_lenM tb R (r_sub R R R R ?_))))))))))))
   obtain ⟨rv3, hrv3, h⟩ := bnd h
   refine r_callB (r7_in_pc hrv3) (.of (by kernel_rfl)) R R R R ?_ ?_
   ·intro c3
    replace h := ifP c3 h
    refine r_notT R R R (eN (sw_condF R (sw_skip (then_norm (sw_seq ?_)))))
    refine sw_join (fun zz : Unit => r7_act_J3 F t o = some r) (fun zz : Unit => ⟨[(2, .ref 0 7 0 0), (3, .ref 1 5 0 0), (4, .d (vI 0))], [some ⟨7, [.d (PdPad.d t)]⟩, some ⟨5, [.d (PdAct.d o)]⟩]⟩) ?_ ?_
    ·clear h
     rintro ⟨⟩ h
     rw [r7_act_J3] at h
     refine sw_seq ?_
     refine sw_join (fun zz : Unit => r7_act_J2 F t o = some r) (fun zz : Unit => ⟨[(2, .ref 0 7 0 0), (3, .ref 1 5 0 0), (4, .d (vI 0))], [some ⟨7, [.d (PdPad.d t)]⟩, some ⟨5, [.d (PdAct.d o)]⟩]⟩) ?_ ?_
     ·clear h
      rintro ⟨⟩ h
      rw [r7_act_J2] at h
      refine sw_seq ?_
      refine sw_join (fun zz : Unit => r7_act_J1 F t o = some r) (fun zz : Unit => ⟨[(2, .ref 0 7 0 0), (3, .ref 1 5 0 0), (4, .d (vI 0))], [some ⟨7, [.d (PdPad.d t)]⟩, some ⟨5, [.d (PdAct.d o)]⟩]⟩) ?_ ?_
      ·clear h
       rintro ⟨⟩ h
       rw [r7_act_J1] at h
       refine sw_seq (qG (q_fa tb R (q_ldD (y := vI o.with_) tb R (q_fa tb R (q_ldD (y := .arr 2 ((t.people).map PdPerson.d)) tb R (q_lenM tb R (r_sub R R R R ?_)))))))
       obtain ⟨rv8, hrv8, h⟩ := bnd h
       refine r_callB (r7_in_pc hrv8) (.of (by kernel_rfl)) R R R R ?_ ?_
       ·intro c21
        replace h := ifP c21 h
        refine r_notT R R R (eN (sw_condF R (sw_skip (then_norm (sw_seq (qG (q_fa tb R (q_ldD (y := vI o.with_) tb R (q_fa tb R (q_ldD (y := vI o.who) tb R ?_))))))))))
        refine r_eql R R R R ?_ ?_
        ·intro c22
         replace h := ifP c22 h
         refine eN (sw_condT R (qG (q_asgD R (eN (sw_ret (then_ret ?_))))))
         obtain rfl := sI h
         exact f1 4 R
        intro c22
        replace h := ifN c22 h
        refine eN (sw_condF R (sw_skip (then_norm (qG (q_asgD R (eN (sw_ret ?_)))))))
        obtain rfl := sI h
        exact f1 4 R
       intro c21
       replace h := ifF c21 h
       refine r_notF R R R (eN (sw_condT R (qG (q_asgD R (eN (sw_ret (then_ret ?_)))))))
       obtain rfl := sI h
       exact f1 4 R
      refine qG (q_fa tb R (q_ldD (y := vI o.kind) tb R ?_))
      refine r_eql R R R R ?_ ?_
      ·intro c19
       replace h := ifP c19 h
       refine q_movD R (q_fa tb R (q_ldD (y := vI o.with_) tb R ?_))
       refine r_eql R R R R ?_ ?_
       ·intro c20
        replace h := ifP c20 h
        refine q_pickT R (eN (sw_condT R (qG (q_asgD R (eN (sw_ret (then_ret ?_)))))))
        obtain rfl := sI h
        exact f1 4 R
       intro c20
       replace h := ifN c20 h
       refine q_pickT R (eN (sw_condF R (sw_skip (then_norm ?_))))
       exact .inl ⟨(), h, .prn [2, 3, 4] R⟩
      intro c19
      replace h := ifN c19 h
      refine q_movD R (q_sk 3 R (q_pickF R (eN (sw_condF R (sw_skip (then_norm ?_))))))
      exact .inl ⟨(), h, .prn [2, 3, 4] R⟩
     refine qG (q_fa tb R (q_ldD (y := vI o.kind) tb R ?_))
     refine r_neq R R R R ?_ ?_
     ·intro c16
      replace h := ifN c16 h
      refine q_movD R (q_fa tb R (q_ldD (y := vI o.kind) tb R ?_))
      refine r_neq R R R R ?_ ?_
      ·intro c17
       replace h := ifN c17 h
       refine q_pickT R (eN (sw_condT R (sw_seq (qG (q_fa tb R (q_ldD (y := vI o.with_) tb R ?_))))))
       refine r_neq R R R R ?_ ?_
       ·intro c18
        replace h := ifN c18 h
        refine eN (sw_condT R (qG (q_asgD R (eN (sw_ret (then_ret (then_ret ?_)))))))
        obtain rfl := sI h
        exact f1 4 R
       intro c18
       replace h := ifP c18 h
       refine eN (sw_condF R (sw_skip (then_norm (qG (q_asgD R (eN (sw_ret (then_ret ?_))))))))
       obtain rfl := sI h
       exact f1 4 R
      intro c17
      replace h := ifP c17 h
      refine q_pickT R (eN (sw_condF R (sw_skip (then_norm ?_))))
      exact .inl ⟨(), h, .prn [2, 3, 4] R⟩
     intro c16
     replace h := ifP c16 h
     refine q_movD R (q_sk 3 R (q_pickF R (eN (sw_condF R (sw_skip (then_norm ?_))))))
     exact .inl ⟨(), h, .prn [2, 3, 4] R⟩
    refine qG (q_fa tb R (q_ldD (y := vI o.kind) tb R (eN (sw_block (qG ?_)))))
    refine r_eql R R R R ?_ ?_
    ·intro c4
     replace h := ifP c4 h
     refine q_asgD R (eN (sw_condT R (qG (q_fa tb R (q_ldD (y := vI o.what) tb R ?_)))))
     refine r_neq R R R R ?_ ?_
     ·intro c5
      replace h := ifN c5 h
      refine q_movD R (q_ldD (y := PdPad.d t) tb R (q_fa tb R (q_ldD (y := vI o.what) tb R ?_)))
      obtain ⟨rv4, hrv4, h⟩ := bnd h
      refine r_callB (r7_zone_pc hrv4) (.of (by kernel_rfl)) R R R R ?_ ?_
      ·intro c6
       replace h := ifP c6 h
       refine r_notT R R R (q_pickT R (eN (sw_condF R (sw_skip (block_norm (then_norm ?_))))))
       exact .inl ⟨(), h, .prn [2, 3, 4] R⟩
      intro c6
      replace h := ifF c6 h
      refine r_notF R R R (q_pickT R (eN (sw_condT R (qG (q_asgD R (eN (sw_ret (block_ret (then_ret ?_)))))))))
      obtain rfl := sI h
      exact f1 4 R
     intro c5
     replace h := ifP c5 h
     refine q_movD R (q_sk 5 R (q_pickF R (eN (sw_condF R (sw_skip (block_norm (then_norm ?_)))))))
     exact .inl ⟨(), h, .prn [2, 3, 4] R⟩
    intro c4
    replace h := ifN c4 h
    refine q_asgD R (eN (sw_condF R (sw_seq ?_)))
    refine sw_join (fun zz : Unit => r7_act_J5 F t o = some r) (fun zz : Unit => ⟨[(2, .ref 0 7 0 0), (3, .ref 1 5 0 0), (4, .d (vI 0)), (22, .d (vI o.kind)), (39, .d (.v (.bool true)))], [some ⟨7, [.d (PdPad.d t)]⟩, some ⟨5, [.d (PdAct.d o)]⟩]⟩) ?_ ?_
    ·clear h
     rintro ⟨⟩ h
     rw [r7_act_J5] at h
     refine sw_condT R (qG (q_fa tb R (q_ldD (y := vI o.what) tb R (q_fa tb R (q_ldD (y := .arr 1 ((t.keys).map vS)) tb R (q_lenM tb R (r_sub R R R R ?_)))))))
     obtain ⟨rv5, hrv5, h⟩ := bnd h
     refine r_callB (r7_in_pc hrv5) (.of (by kernel_rfl)) R R R R ?_ ?_
     ·intro c10
      replace h := ifP c10 h
      refine r_notT R R R (eN (sw_condF R (sw_skip (block_norm (then_norm ?_)))))
      exact .inl ⟨(), h, .prn [2, 3, 4] R⟩
     intro c10
     replace h := ifF c10 h
     refine r_notF R R R (eN (sw_condT R (qG (q_asgD R (eN (sw_ret (block_ret (then_ret ?_))))))))
     obtain rfl := sI h
     exact f1 4 R
    refine qG ?_
    refine r_eql R R R R ?_ ?_
    ·intro c7
     replace h := ifP c7 h
     refine q_asgD R (eN (sw_condT R (sw_skip (then_norm ?_))))
     exact .inl ⟨(), h, .prn [2, 3, 4, 22, 39] R⟩
    intro c7
    replace h := ifN c7 h
    refine q_asgD R (eN (sw_condF R (qG ?_)))
    refine r_eql R R R R ?_ ?_
    ·intro c8
     replace h := ifP c8 h
     refine q_asgD R (eN (sw_condT R (sw_skip (then_norm ?_))))
     exact .inl ⟨(), h, .prn [2, 3, 4, 22, 39] R⟩
    intro c8
    replace h := ifN c8 h
    refine q_asgD R (eN (sw_condF R (sw_rg ?_)))
    refine r_eql R R R R ?_ ?_
    ·intro c9
     replace h := ifP c9 h
     refine q_asgD R (eN ?_)
     exact .inl ⟨(), h, .prn [2, 3, 4, 22, 39] R⟩
    intro c9
    replace h := ifN c9 h
    refine q_asgD R (eN (.inr (sw_condF R (sw_seq ?_))))
    refine sw_join (fun zz : Unit => r7_act_J6 F t o = some r) (fun zz : Unit => ⟨[(2, .ref 0 7 0 0), (3, .ref 1 5 0 0), (4, .d (vI 0)), (51, .d (.v (.bool true)))], [some ⟨7, [.d (PdPad.d t)]⟩, some ⟨5, [.d (PdAct.d o)]⟩]⟩) ?_ ?_
    ·clear h
     rintro ⟨⟩ h
     rw [r7_act_J6] at h
     refine sw_condT R (qG (q_fa tb R (q_ldD (y := vI o.what) tb R (q_fa tb R (q_ldD (y := .arr 6 ((t.squibs).map PdSquib.d)) tb R (q_lenM tb R (r_sub R R R R ?_)))))))
     obtain ⟨rv5, hrv5, h⟩ := bnd h
     refine r_callB (r7_in_pc hrv5) (.of (by kernel_rfl)) R R R R ?_ ?_
     ·intro c13
      replace h := ifP c13 h
      refine r_notT R R R (eN (sw_condF R (sw_skip (block_norm (then_norm ?_)))))
      exact .inl ⟨(), h, .prn [2, 3, 4] R⟩
     intro c13
     replace h := ifF c13 h
     refine r_notF R R R (eN (sw_condT R (qG (q_asgD R (eN (sw_ret (block_ret (then_ret ?_))))))))
     obtain rfl := sI h
     exact f1 4 R
    refine qG ?_
    refine r_eql R R R R ?_ ?_
    ·intro c10
     replace h := ifP c10 h
     refine q_asgD R (eN (sw_condT R (sw_skip (then_norm ?_))))
     exact .inl ⟨(), h, .prn [2, 3, 4, 51] R⟩
    intro c10
    replace h := ifN c10 h
    refine q_asgD R (eN (sw_condF R (qG ?_)))
    refine r_eql R R R R ?_ ?_
    ·intro c11
     replace h := ifP c11 h
     refine q_asgD R (eN (sw_condT R (sw_skip (then_norm ?_))))
     exact .inl ⟨(), h, .prn [2, 3, 4, 51] R⟩
    intro c11
    replace h := ifN c11 h
    refine q_asgD R (eN (sw_condF R (sw_rg ?_)))
    refine r_eql R R R R ?_ ?_
    ·intro c12
     replace h := ifP c12 h
     refine q_asgD R (eN ?_)
     exact .inl ⟨(), h, .prn [2, 3, 4, 51] R⟩
    intro c12
    replace h := ifN c12 h
    refine q_asgD R (eN (.inr (sw_condF R (qG (q_fa tb R (q_ldD (y := vI o.what) tb R ?_))))))
    obtain ⟨rv5, hrv5, h⟩ := bnd h
    refine r_callB (r7_in_pc hrv5) (.of (by kernel_rfl)) R R R R ?_ ?_
    ·intro c13
     replace h := ifP c13 h
     refine r_notT R R R (eN (sw_condF R (sw_skip (block_norm (then_norm ?_)))))
     exact .inl ⟨(), h, .prn [2, 3, 4] R⟩
    intro c13
    replace h := ifF c13 h
    refine r_notF R R R (eN (sw_condT R (qG (q_asgD R (eN (sw_ret (block_ret (then_ret ?_))))))))
    obtain rfl := sI h
    exact f1 4 R
   intro c3
   replace h := ifF c3 h
   refine r_notF R R R (eN (sw_condT R (qG (q_asgD R (eN (sw_ret (then_ret ?_)))))))
   obtain rfl := sI h
   exact f1 4 R
  intro c2
  replace h := ifF c2 h
  refine r_notF R R R (eN (sw_condT R (qG (q_asgD R (eN (sw_ret (then_ret ?_)))))))
  obtain rfl := sI h
  exact f1 4 R
 intro c
 replace h := ifF c h
 refine r_notF R R R (eN (sw_condT R (qG (q_asgD R (eN (sw_ret (then_ret ?_)))))))
 obtain rfl := sI h
 exact f1 4 R
def r7_Copy (F : Nat) (s : PdState) : Option PdState := Option.bind (appO ([] : List Int) s.zones) fun q => Option.bind (appO ([] : List Int) s.holder) fun q2 => Option.bind (appO ([] : List Int) s.squibs) fun q3 => some {s with zones := q, holder := q2, squibs := q3}
theorem r7_Copy_scr {F : Nat} {s : PdState} {r : PdState} (h : r7_Copy F s = some r) : SCR Tryz.prog 27 (List.map T.d [PdState.d s]) [] (PdState_T1 r 0 1 2) (List.map some [(lvI r.zones), (lvI r.holder), (lvI r.squibs)]) := by
 rw [r7_Copy] at h
 refine SC.of_sw Tryz.func27 R R R ?_
 dsimp only [argS, List.map]
 refine qG (q_box R (r_alloc tb R R R R R (eN (sw_seq (sw_dr (by kernel_rfl) (r_bslice tb R R R R R R R R R R R R R (q_fa tb R (q_ldD (y := .arr 1 ((s.zones).map vI)) tb R ?_))))))))
 obtain ⟨q, iq, h⟩ := bnd h
 refine r_apEM (g := vI) (w := ([] : List Int)) (v := s.zones) ([some ⟨6, [.d (PdState.d s)]⟩, some ⟨6, [.d (.agg [vI 0, .v (.slice none 0 0), .v (.slice none 0 0), .v (.slice none 0 0), vI 0, .v (.bool false)])]⟩, none]) tb R R R R R R R R (by intro _; exact R) iq R R R R R (r_bslice tb R R R R R R R R R R R R R (q_fa tb R (q_ldD (y := .arr 1 ((s.holder).map vI)) tb R ?_)))
 obtain ⟨q2, iq2, h⟩ := bnd h
 refine r_apEM (g := vI) (w := ([] : List Int)) (v := s.holder) ([some ⟨6, [.d (PdState.d s)]⟩, some ⟨6, [.d (.agg [vI 0, .v (.slice none 0 0), .v (.slice none 0 0), .v (.slice none 0 0), vI 0, .v (.bool false)])]⟩, none, some (lvI q), none]) tb R R R R R R R R (by intro _; exact R) iq2 R R R R R (r_bslice tb R R R R R R R R R R R R R (q_fa tb R (q_ldD (y := .arr 1 ((s.squibs).map vI)) tb R ?_)))
 obtain ⟨q3, iq3, h⟩ := bnd h
 refine r_apEM (g := vI) (w := ([] : List Int)) (v := s.squibs) ([some ⟨6, [.d (PdState.d s)]⟩, some ⟨6, [.d (.agg [vI 0, .v (.slice none 0 0), .v (.slice none 0 0), .v (.slice none 0 0), vI 0, .v (.bool false)])]⟩, none, some (lvI q), none, some (lvI q2), none]) tb R R R R R R R R (by intro _; exact R) iq3 R R R R R (q_fa tb R (q_stE _ _ tb R (q_fa tb R (q_stE _ _ tb R (q_fa tb R (q_stE _ _ tb R (ev_endD (by kernel_rfl) (then_norm (qG (r_ldG tb R R R R R R R R R (q_stE _ _ tb R (eN ?_))))))))))))
 refine sw_ret ?_
 obtain rfl := sI h
 exact f2 [3, 5, 7] (.row R (.row R (.row R .nil))) R (.cons (rc tb R) .nil) R
theorem r7_Copy_pc {F : Nat} {s : PdState} {r : PdState} (h : r7_Copy F s = some r) : PC Tryz.prog 27 [PdState.d s] (PdState.d r) := (r7_Copy_scr h).toPC (.aggL (.cons (.d _) (.cons (.row rfl rfl) (.cons (.row rfl rfl) (.cons (.row rfl rfl) (.cons (.d _) (.cons (.d _) .nil)))))))
def r7_door_J1 (F : Nat) (B3 : Int → Option Bool) (i : Int) : Option Bool := B3 (W (i + 1))
def r7_door_J2 (F : Nat)  : Option Bool := some true
def r7_door_L1 (F : Nat) (p : PdPad) (a : Int) (b : Int) (K : Int → Option Bool) : Nat → Int → Option Bool
 | 0, _ => none
 | n + 1, i => if i < (p.doors.length : Int) then (Option.bind (ixO p.doors i) fun e => if e.a = a then (if e.b = b then (r7_door_J2 F) else (if e.a = b then (if e.b = a then (r7_door_J2 F) else (r7_door_J1 F (r7_door_L1 F p a b K n) i)) else (r7_door_J1 F (r7_door_L1 F p a b K n) i))) else (if e.a = b then (if e.b = a then (r7_door_J2 F) else (r7_door_J1 F (r7_door_L1 F p a b K n) i)) else (r7_door_J1 F (r7_door_L1 F p a b K n) i))) else (K i)
def r7_door (F : Nat) (p : PdPad) (a : Int) (b : Int) : Option Bool := r7_door_L1 F p a b (fun (i : Int) => some false) F 0
theorem r7_door_pc {F : Nat} {p : PdPad} {a : Int} {b : Int} {r : Bool} (h : r7_door F p a b = some r) : PC Tryz.prog 95 [PdPad.d p, .v (.int .i64 a), .v (.int .i64 b)] (.v (.bool r)) := by
 rw [r7_door] at h
 refine SC.of_sw Tryz.func95 R R R ?_
 dsimp only [argS, List.map]
 refine qG (q_box R (q_asgD R (eN (sw_seq (qG (q_asgD R (eN (sw_block ?_))))))))
 obtain ⟨K3, hK3, h⟩ : ∃ K, K = _ ∧ r7_door_L1 F p a b K F 0 = some r := ⟨_, rfl, h⟩
 refine sw_loopS (fun m st => ∃ (i : Int), r7_door_L1 F p a b K3 m i = some r ∧ st = ⟨[(1, .d (vI a)), (2, .d (vI b)), (3, .ref 0 7 0 0), (6, .d (.v (.bool false))), (7, .d (vI i))], [some ⟨7, [.d (PdPad.d p)]⟩]⟩) (.prn [1, 2, 3, 6, 7] R) ⟨0, h, R⟩ ?_
 clear h
 rintro m3 st ⟨i, h, rfl⟩
 cases m3 with
 | zero => cases (show (none : Option Bool) = some r from h)
 | succ m3 =>
 rw [r7_door_L1] at h
 refine sw_seq (qG (q_movD R (q_fa tb R (q_ldD (y := .arr 2 ((p.doors).map PdDoor.d)) tb R (q_lenM tb R ?_)))))
 refine r_lss R R R R ?_ ?_
 ·intro c
  replace h := ifP c h
  refine eN (sw_condT R (sw_skip (then_norm (sw_seq ?_))))
  refine sw_join (fun zz : Unit => r7_door_J1 F (r7_door_L1 F p a b K3 m3) i = some r) (fun zz : Unit => ⟨[(1, .d (vI a)), (2, .d (vI b)), (3, .ref 0 7 0 0), (6, .d (.v (.bool false))), (7, .d (vI i))], [some ⟨7, [.d (PdPad.d p)]⟩]⟩) ?_ ?_
  ·clear h
   rintro ⟨⟩ h
   rw [r7_door_J1] at h
   refine sw_rg (q_movD R (q_add R (q_asgD R (eN ?_))))
   exact ⟨m3, _, Nat.lt_succ_self _, .prn [1, 2, 3, 6, 7] R, (W (i + 1)), h, R⟩
  refine sw_block (qG (q_fa tb R (q_ldD (y := .arr 2 ((p.doors).map PdDoor.d)) tb R (q_movD R ?_))))
  obtain ⟨e, ie, h⟩ := bnd h
  refine q_ixE tb (ix0 ie) (ix1m ie) R (q_ldE (y := PdDoor.d e) tb (ix2 (g := PdDoor.d) ie) R (r_alloc tb R R R R R (q_stE _ _ tb R (eN (sw_seq ?_)))))
  refine sw_join (fun zz : Unit => r7_door_J2 F = some r) (fun zz : Unit => ⟨[(1, .d (vI a)), (2, .d (vI b)), (3, .ref 0 7 0 0), (6, .d (.v (.bool false))), (7, .d (vI i)), (42, .d (.v (.bool true)))], [some ⟨7, [.d (PdPad.d p)]⟩]⟩) ?_ ?_
  ·clear h
   rintro ⟨⟩ h
   rw [r7_door_J2] at h
   refine sw_condT R (qG (q_asgD R (eN (sw_ret (block_ret (then_ret (then_ret (block_ret (then_ret ?_)))))))))
   obtain rfl := sI h
   exact f1 6 R
  refine sw_rg (q_fa tb R (q_ldD (y := vI e.a) tb R (q_movD R ?_)))
  refine r_eql R R R R ?_ ?_
  ·intro c2
   replace h := ifP c2 h
   refine q_movD R (q_fa tb R (q_ldD (y := vI e.b) tb R (q_movD R ?_)))
   refine r_eql R R R R ?_ ?_
   ·intro c3
    replace h := ifP c3 h
    refine q_pickT R (q_movD R (q_sk 10 R (q_pickT R (eN ?_))))
    exact .inl ⟨(), h, .vw (κ := [0]) (vK (.cons R R .nil) R)⟩
   intro c3
   replace h := ifN c3 h
   refine q_pickT R (q_movD R (q_fa tb R (q_ldD (y := vI e.a) tb R (q_movD R ?_))))
   refine r_eql R R R R ?_ ?_
   ·intro c4
    replace h := ifP c4 h
    refine q_movD R (q_fa tb R (q_ldD (y := vI e.b) tb R (q_movD R ?_)))
    refine r_eql R R R R ?_ ?_
    ·intro c5
     replace h := ifP c5 h
     refine q_pickT R (q_pickF R (eN ?_))
     exact .inl ⟨(), h, .vw (κ := [0]) (vK (.cons R R .nil) R)⟩
    intro c5
    replace h := ifN c5 h
    refine q_pickT R (q_pickF R (eN (.inr (sw_condF R (sw_skip (block_norm (then_norm ?_)))))))
    exact .inl ⟨(), h, .vw (κ := [0]) (vK (.cons R R .nil) R)⟩
   intro c4
   replace h := ifN c4 h
   refine q_movD R (q_sk 4 R (q_pickF R (q_pickF R (eN (.inr (sw_condF R (sw_skip (block_norm (then_norm ?_)))))))))
   exact .inl ⟨(), h, .vw (κ := [0]) (vK (.cons R R .nil) R)⟩
  intro c2
  replace h := ifN c2 h
  refine q_movD R (q_sk 4 R (q_pickF R (q_movD R (q_fa tb R (q_ldD (y := vI e.a) tb R (q_movD R ?_))))))
  refine r_eql R R R R ?_ ?_
  ·intro c6
   replace h := ifP c6 h
   refine q_movD R (q_fa tb R (q_ldD (y := vI e.b) tb R (q_movD R ?_)))
   refine r_eql R R R R ?_ ?_
   ·intro c7
    replace h := ifP c7 h
    refine q_pickT R (q_pickF R (eN ?_))
    exact .inl ⟨(), h, .vw (κ := [0]) (vK (.cons R R .nil) R)⟩
   intro c7
   replace h := ifN c7 h
   refine q_pickT R (q_pickF R (eN (.inr (sw_condF R (sw_skip (block_norm (then_norm ?_)))))))
   exact .inl ⟨(), h, .vw (κ := [0]) (vK (.cons R R .nil) R)⟩
  intro c6
  replace h := ifN c6 h
  refine q_movD R (q_sk 4 R (q_pickF R (q_pickF R (eN (.inr (sw_condF R (sw_skip (block_norm (then_norm ?_)))))))))
  exact .inl ⟨(), h, .vw (κ := [0]) (vK (.cons R R .nil) R)⟩
 intro c
 replace h := ifN (Int.not_lt.2 c) h
 refine eN (sw_condF R (sw_exit (then_exit (then_exit ?_))))
 subst hK3
 refine block_exit (then_norm (qG (q_asgD R (eN (sw_ret ?_)))))
 obtain rfl := sI h
 exact f1 6 R
def r7_comes_J1 (F : Nat) (p : PdPad) (s : PdState) (person : Int) (zone : Int) : Option Int := Option.bind (r7_keyed F p s person zone) fun rv2 => if rv2 = true then (some 0) else (some 174)
def r7_comes_J2 (F : Nat) (B3 : Int → Option Int) (q : Int) : Option Int := B3 (W (q + 1))
def r7_comes_J3 (F : Nat) (B3 : Int → Option Int) (p : PdPad) (s : PdState) (zone : Int) (q : Int) : Option Int := Option.bind (ixO s.squibs q) fun e3 => if e3 = 2 then (r7_comes_J2 F B3 q) else (Option.bind (r7_near F p zone q) fun rv => if rv = true then (some 173) else (r7_comes_J2 F B3 q))
def r7_comes_L1 (F : Nat) (p : PdPad) (s : PdState) (zone : Int) (K : Int → Option Int) : Nat → Int → Option Int
 | 0, _ => none
 | n + 1, q => if q < (p.squibs.length : Int) then (if s.storm = true then (r7_comes_J3 F (r7_comes_L1 F p s zone K n) p s zone q) else (K q)) else (K q)
def r7_comes (F : Nat) (p : PdPad) (s : PdState) (person : Int) (zone : Int) : Option Int := if zone < 0 then (some 0) else (Option.bind (ixO p.people person) fun e => Option.bind (ixO p.zones zone) fun e2 => if e.grade < e2.grade then (some 172) else (r7_comes_L1 F p s zone (fun (q : Int) => r7_comes_J1 F p s person zone) F 0))
theorem r7_comes_pc {F : Nat} {p : PdPad} {s : PdState} {person : Int} {zone : Int} {r : Int} (h : r7_comes F p s person zone = some r) : PC Tryz.prog 96 [PdPad.d p, PdState.d s, .v (.int .i64 person), .v (.int .i64 zone)] (.v (.int .i64 r)) := by
 rw [r7_comes] at h
 refine SC.of_sw Tryz.func96 R R R ?_
 dsimp only [argS, List.map]
 refine qG (q_box R (q_box R (q_asgD R (eN (sw_seq (qG (q_movD R ?_)))))))
 refine r_lss R R R R ?_ ?_
 ·intro c
  replace h := ifP c h
  refine eN (sw_condT R (qG (q_asgD R (eN (sw_ret (then_ret ?_))))))
  obtain rfl := sI h
  exact f1 8 R
 intro c
 replace h := ifN (Int.not_lt.2 c) h
 refine eN (sw_condF R (sw_skip (then_norm (sw_seq (sw_seq (sw_dr (by kernel_rfl) (q_fa tb R (q_ldD (y := .arr 2 ((p.people).map PdPerson.d)) tb R (q_movD R ?_)))))))))
 obtain ⟨e, ie, h⟩ := bnd h
 refine q_ixE tb (ix0 ie) (ix1m ie) R (q_faE tb R (q_ldE (y := vI e.grade) tb (ix2 (g := PdPerson.d) ie) R (q_fa tb R (q_ldD (y := .arr 8 ((p.zones).map PdZone.d)) tb R (q_movD R ?_)))))
 obtain ⟨e2, ie2, h⟩ := bnd h
 refine q_ixE tb (ix0 ie2) (ix1m ie2) R (q_faE tb R (q_ldE (y := vI e2.grade) tb (ix2 (g := PdZone.d) ie2) R ?_))
 refine r_lss R R R R ?_ ?_
 ·intro c2
  replace h := ifP c2 h
  refine ev_endD (by kernel_rfl) (then_norm (sw_condT R (qG (q_asgD R (eN (sw_ret (then_ret ?_)))))))
  obtain rfl := sI h
  exact f1 8 R
 intro c2
 replace h := ifN (Int.not_lt.2 c2) h
 refine ev_endD (by kernel_rfl) (then_norm (sw_condF R (sw_skip (then_norm (sw_seq ?_)))))
 refine sw_join (fun zz : Unit => r7_comes_J1 F p s person zone = some r) (fun zz : Unit => ⟨[(2, .d (vI person)), (3, .d (vI zone)), (4, .ref 0 7 0 0), (5, .ref 1 6 0 0), (8, .d (vI 0))], [some ⟨7, [.d (PdPad.d p)]⟩, some ⟨6, [.d (PdState.d s)]⟩]⟩) ?_ ?_
 ·clear h
  rintro ⟨⟩ h
  rw [r7_comes_J1] at h
  refine sw_seq (qG (q_ldD (y := PdPad.d p) tb R (q_ldD (y := PdState.d s) tb R (q_movD R (q_movD R ?_)))))
  obtain ⟨rv2, hrv2, h⟩ := bnd h
  refine r_callB (r7_keyed_pc hrv2) (.of (by kernel_rfl)) R R R R ?_ ?_
  ·intro c7
   replace h := ifP c7 h
   refine r_notT R R R (eN (sw_condF R (sw_skip (then_norm (qG (q_asgD R (eN (sw_ret ?_))))))))
   obtain rfl := sI h
   exact f1 8 R
  intro c7
  replace h := ifF c7 h
  refine r_notF R R R (eN (sw_condT R (qG (q_asgD R (eN (sw_ret (then_ret ?_)))))))
  obtain rfl := sI h
  exact f1 8 R
 refine qG (q_asgD R (eN (sw_block ?_)))
 obtain ⟨K3, hK3, h⟩ : ∃ K, K = _ ∧ r7_comes_L1 F p s zone K F 0 = some r := ⟨_, rfl, h⟩
 refine sw_loopS (fun m st => ∃ (q : Int), r7_comes_L1 F p s zone K3 m q = some r ∧ st = ⟨[(2, .d (vI person)), (3, .d (vI zone)), (4, .ref 0 7 0 0), (5, .ref 1 6 0 0), (8, .d (vI 0)), (9, .d (vI q))], [some ⟨7, [.d (PdPad.d p)]⟩, some ⟨6, [.d (PdState.d s)]⟩]⟩) (.prn [2, 3, 4, 5, 8, 9] R) ⟨0, h, R⟩ ?_
 clear h
 rintro m3 st ⟨q, h, rfl⟩
 cases m3 with
 | zero => cases (show (none : Option Int) = some r from h)
 | succ m3 =>
 rw [r7_comes_L1] at h
 refine sw_seq ?_
 refine sw_join (fun zz : Unit => r7_comes_J3 F (r7_comes_L1 F p s zone K3 m3) p s zone q = some r) (fun zz : Unit => ⟨[(2, .d (vI person)), (3, .d (vI zone)), (4, .ref 0 7 0 0), (5, .ref 1 6 0 0), (8, .d (vI 0)), (9, .d (vI q))], [some ⟨7, [.d (PdPad.d p)]⟩, some ⟨6, [.d (PdState.d s)]⟩]⟩) ?_ ?_
 ·clear h
  rintro ⟨⟩ h
  rw [r7_comes_J3] at h
  refine sw_seq ?_
  refine sw_join (fun zz : Unit => r7_comes_J2 F (r7_comes_L1 F p s zone K3 m3) q = some r) (fun zz : Unit => ⟨[(2, .d (vI person)), (3, .d (vI zone)), (4, .ref 0 7 0 0), (5, .ref 1 6 0 0), (8, .d (vI 0)), (9, .d (vI q))], [some ⟨7, [.d (PdPad.d p)]⟩, some ⟨6, [.d (PdState.d s)]⟩]⟩) ?_ ?_
  ·clear h
   rintro ⟨⟩ h
   rw [r7_comes_J2] at h
   refine sw_rg (q_movD R (q_add R (q_asgD R (eN ?_))))
   exact ⟨m3, _, Nat.lt_succ_self _, .prn [2, 3, 4, 5, 8, 9] R, (W (q + 1)), h, R⟩
  refine sw_block (qG (q_fa tb R (q_ldD (y := .arr 1 ((s.squibs).map vI)) tb R (q_movD R ?_))))
  obtain ⟨e3, ie3, h⟩ := bnd h
  refine q_ixE tb (ix0 ie3) (ix1m ie3) R (q_ldE (y := vI e3) tb (ix2 (g := vI) ie3) R ?_)
  refine r_neq R R R R ?_ ?_
  ·intro c5
   replace h := ifN c5 h
   refine q_movD R (q_ldD (y := PdPad.d p) tb R (q_movD R (q_movD R ?_)))
   obtain ⟨rv, hrv, h⟩ := bnd h
   refine r_callB (r7_near_pc hrv) (.of (by kernel_rfl)) R R R R ?_ ?_
   ·intro c6
    replace h := ifP c6 h
    refine q_pickT R (eN (sw_condT R (qG (q_asgD R (eN (sw_ret (block_ret (then_ret (then_ret (block_ret (then_ret ?_)))))))))))
    obtain rfl := sI h
    exact f1 8 R
   intro c6
   replace h := ifF c6 h
   refine q_pickT R (eN (sw_condF R (sw_skip (block_norm (then_norm ?_)))))
   exact .inl ⟨(), h, .prn [2, 3, 4, 5, 8, 9] R⟩
  intro c5
  replace h := ifP c5 h
  refine q_movD R (q_sk 4 R (q_pickF R (eN (sw_condF R (sw_skip (block_norm (then_norm ?_)))))))
  exact .inl ⟨(), h, .prn [2, 3, 4, 5, 8, 9] R⟩
 refine qG (q_movD R (q_fa tb R (q_ldD (y := .arr 6 ((p.squibs).map PdSquib.d)) tb R (q_lenM tb R ?_))))
 refine r_lss R R R R ?_ ?_
 ·intro c3
  replace h := ifP c3 h
  refine q_movD R (q_fa tb R (q_ldD (y := .v (.bool s.storm)) tb R ?_))
  with_reducible apply ev_lit
  ·intro c4
   replace h := ifP c4 h
   refine q_pickT R (eN (sw_condT R (sw_skip (then_norm ?_))))
   exact .inl ⟨(), h, .prn [2, 3, 4, 5, 8, 9] R⟩
  intro c4
  replace h := ifF c4 h
  refine q_pickT R (eN (sw_condF R (sw_exit (then_exit (then_exit ?_)))))
  subst hK3
  refine block_exit (then_norm ?_)
  exact .inl ⟨(), h, .prn [2, 3, 4, 5, 8] R⟩
 intro c3
 replace h := ifN (Int.not_lt.2 c3) h
 refine q_movD R (q_sk 2 R (q_pickF R (eN (sw_condF R (sw_exit (then_exit (then_exit ?_)))))))
 subst hK3
 refine block_exit (then_norm ?_)
 exact .inl ⟨(), h, .prn [2, 3, 4, 5, 8] R⟩
def r7_moved_m_J1 (F : Nat) (o : PdState) (rv4 : (List Int)) : Option (PdState × Int × PdState) := some ({o with zones := rv4}, 0, {o with zones := rv4})
def r7_moved_m_J2 (F : Nat) (o : PdState) (rv4 : (List Int)) : Option (PdState × Int × PdState) := some ({o with zones := rv4}, 176, {o with zones := rv4})
def r7_moved_m_J3 (F : Nat) (o : PdState) (rv4 : (List Int)) : Option (PdState × Int × PdState) := r7_moved_m_J1 F o rv4
def r7_moved_m_J4 (F : Nat) (t : PdPad) (o : PdState) (a : PdAct) (e : Int) (rv4 : (List Int)) : Option (PdState × Int × PdState) := if 0 ≤ a.what then (Option.bind (ixO t.zones a.what) fun e5 => if e5.pair = true then (Option.bind (r7_many F {o with zones := rv4} a.what) fun rv6 => if rv6 = 1 then (r7_moved_m_J2 F o rv4) else (if 0 ≤ e then (Option.bind (ixO t.zones e) fun e6 => if e6.pair = true then (Option.bind (r7_many F {o with zones := rv4} e) fun rv7 => if rv7 = 1 then (r7_moved_m_J2 F o rv4) else (r7_moved_m_J3 F o rv4)) else (r7_moved_m_J3 F o rv4)) else (r7_moved_m_J3 F o rv4))) else (if 0 ≤ e then (Option.bind (ixO t.zones e) fun e7 => if e7.pair = true then (Option.bind (r7_many F {o with zones := rv4} e) fun rv8 => if rv8 = 1 then (r7_moved_m_J2 F o rv4) else (r7_moved_m_J3 F o rv4)) else (r7_moved_m_J3 F o rv4)) else (r7_moved_m_J3 F o rv4))) else (if 0 ≤ e then (Option.bind (ixO t.zones e) fun e8 => if e8.pair = true then (Option.bind (r7_many F {o with zones := rv4} e) fun rv9 => if rv9 = 1 then (r7_moved_m_J2 F o rv4) else (r7_moved_m_J3 F o rv4)) else (r7_moved_m_J3 F o rv4)) else (r7_moved_m_J3 F o rv4))
def r7_moved_m_J5 (F : Nat) (t : PdPad) (o : PdState) (a : PdAct) (e : Int) (rv4 : (List Int)) : Option (PdState × Int × PdState) := if 0 ≤ a.what then (Option.bind (r7_many F {o with zones := rv4} a.what) fun rv5 => Option.bind (ixO t.zones a.what) fun e4 => if e4.room < rv5 then (some ({o with zones := rv4}, 175, {o with zones := rv4})) else (r7_moved_m_J4 F t o a e rv4)) else (r7_moved_m_J4 F t o a e rv4)
def r7_moved_m_J6 (F : Nat) (t : PdPad) (o : PdState) (a : PdAct) (e : Int) (x : Int) : Option (PdState × Int × PdState) := if x = 0 then (Option.bind (setO o.zones a.who a.what) fun q => if 0 ≤ a.with_ then (Option.bind (ixO q a.with_) fun e3 => Option.bind (setO q a.with_ a.what) fun q2 => r7_moved_m_J5 F t o a e q2) else (r7_moved_m_J5 F t o a e q)) else (some (o, x, o))
def r7_moved_m_J7 (F : Nat) (t : PdPad) (o : PdState) (a : PdAct) (e : Int) : Option (PdState × Int × PdState) := Option.bind (r7_comes F t o a.who a.what) fun rv2 => if rv2 = 0 then (if 0 ≤ a.with_ then (Option.bind (r7_comes F t o a.with_ a.what) fun rv3 => r7_moved_m_J6 F t o a e rv3) else (r7_moved_m_J6 F t o a e rv2)) else (r7_moved_m_J6 F t o a e rv2)
def r7_moved_m (F : Nat) (t : PdPad) (o : PdState) (a : PdAct) : Option (PdState × Int × PdState) := Option.bind (ixO o.zones a.who) fun e => Option.bind (r7_door F t e a.what) fun rv => if rv = true then (if 0 ≤ a.with_ then (Option.bind (ixO o.zones a.with_) fun e2 => if e2 = e then (r7_moved_m_J7 F t o a e) else (some (o, 171, o))) else (r7_moved_m_J7 F t o a e)) else (some (o, 171, o))
theorem r7_moved_m_scr {F : Nat} {t : PdPad} {o : PdState} {a : PdAct} {r : (PdState × Int × PdState)} (h : r7_moved_m F t o a = some r) : SCR Tryz.prog 54 [.d (PdPad.d t), PdState_T1 o 0 1 2, .d (PdAct.d a)] [some (lvI o.zones), some (lvI o.holder), some (lvI o.squibs)] (.tup [PdState_T1 {r.1 with zones := r.2.2.zones, holder := r.2.2.holder, squibs := r.2.2.squibs} 0 1 2, .d (.v (.int .i64 r.2.1))]) [some (lvI r.2.2.zones), some (lvI r.2.2.holder), some (lvI r.2.2.squibs)] := by
 rw [r7_moved_m] at h
 refine SC.of_sw Tryz.func54 R R R ?_
 dsimp only [argS, List.map]
 refine qG (q_box R (q_box R (q_box R (r_alloc tb R R R R R (q_asgD R (eN (qG (q_fa tb R (r_ldW tb R R R R R R R R R (q_fa tb R (q_ldD (y := vI a.who) tb R ?_)))))))))))
 obtain ⟨e, ie, h⟩ := bnd h
 refine r_ixI tb R R R R R R (ix0 ie) (ix1 ie) R R ?_
 refine r_ldD (y := vI e) tb R R R R (ix2 (g := fun a => T.d (vI a)) ie) R R R R ?_
 refine q_asgD R (eN (sw_seq ?_))
 refine sw_join (fun zz : Unit => r7_moved_m_J7 F t o a e = some r) (fun zz : Unit => ⟨[(3, .ref 3 7 0 0), (4, .ref 4 6 0 0), (5, .ref 5 5 0 0), (6, .ref 6 6 0 0), (7, .d (vI 0)), (8, .d (vI e))], [some (lvI o.zones), some (lvI o.holder), some (lvI o.squibs), some ⟨7, [.d (PdPad.d t)]⟩, some ⟨6, [PdState_T1 o 0 1 2]⟩, some ⟨5, [.d (PdAct.d a)]⟩, some ⟨6, [.d (.agg [vI 0, .v (.slice none 0 0), .v (.slice none 0 0), .v (.slice none 0 0), vI 0, .v (.bool false)])]⟩]⟩) ?_ ?_
 ·clear h
  rintro ⟨⟩ h
  rw [r7_moved_m_J7] at h
  refine qG (q_ldD (y := PdPad.d t) tb R (r_ldG tb R R R R R R R R R (q_fa tb R (q_ldD (y := vI a.who) tb R (q_fa tb R (q_ldD (y := vI a.what) tb R ?_))))))
  obtain ⟨rv2, hrv2, h⟩ := bnd h
  refine r_callL (r7_comes_pc hrv2) R (.of (by kernel_rfl)) R R ((.cons (.d _) (.cons (.aggL (.cons (.d _) (.cons (.row R R) (.cons (.row R R) (.cons (.row R R) (.cons (.d _) (.cons (.d _) .nil))))))) (.cons (.d _) (.cons (.d _) .nil))))) R R (q_asgD R (eN (sw_seq ?_)))
  refine sw_join (fun zz : Int => r7_moved_m_J6 F t o a e zz = some r) (fun zz : Int => ⟨[(3, .ref 3 7 0 0), (4, .ref 4 6 0 0), (5, .ref 5 5 0 0), (6, .ref 6 6 0 0), (7, .d (vI 0)), (8, .d (vI e)), (9, .d (vI zz))], [some (lvI o.zones), some (lvI o.holder), some (lvI o.squibs), some ⟨7, [.d (PdPad.d t)]⟩, some ⟨6, [PdState_T1 o 0 1 2]⟩, some ⟨5, [.d (PdAct.d a)]⟩, some ⟨6, [.d (.agg [vI 0, .v (.slice none 0 0), .v (.slice none 0 0), .v (.slice none 0 0), vI 0, .v (.bool false)])]⟩]⟩) ?_ ?_
  ·clear h
   rintro x h
   rw [r7_moved_m_J6] at h
   refine sw_seq (qG (q_movD R ?_))
   refine r_neq R R R R ?_ ?_
   ·intro c6
    replace h := ifN c6 h
    refine eN (sw_condT R (qG (r_ldG tb R R R R R R R R R (q_movD R (q_stE _ _ tb R (q_asgD R (eN (sw_ret (then_ret ?_)))))))))
    obtain rfl := sI h
    exact f2 [0, 1, 2] (.row R (.row R (.row R .nil))) R (.cons (rc tb R) (.cons (.tmp 7) .nil)) R
   intro c6
   replace h := ifP c6 h
   refine eN (sw_condF R (sw_skip (then_norm (qG (q_fa tb R (r_ldW tb R R R R R R R R R (q_fa tb R (q_ldD (y := vI a.who) tb R (q_fa tb R (q_ldD (y := vI a.what) tb R (r_ixI tb R R R R R R (ix0 ie) (ix1 ie) R R ?_)))))))))))
   obtain ⟨q, iq, h⟩ := bnd h
   refine r_stQ (a' := (a.what : Int)) tb R R R R ie R R R R iq R R ?_
   dsimp only [List.set_cons_zero, List.set_cons_succ, PdState_T1]
   first | rw [set_len iq] | skip
   refine eN (sw_seq ?_)
   refine sw_join (fun zz : (List Int) => r7_moved_m_J5 F t o a e zz = some r) (fun zz : (List Int) => ⟨[(3, .ref 3 7 0 0), (4, .ref 4 6 0 0), (5, .ref 5 5 0 0), (6, .ref 6 6 0 0), (7, .d (vI 0)), (8, .d (vI e))], [some (lvI zz), some (lvI o.holder), some (lvI o.squibs), some ⟨7, [.d (PdPad.d t)]⟩, some ⟨6, [PdState_T1 {o with zones := zz} 0 1 2]⟩, some ⟨5, [.d (PdAct.d a)]⟩, some ⟨6, [.d (.agg [vI 0, .v (.slice none 0 0), .v (.slice none 0 0), .v (.slice none 0 0), vI 0, .v (.bool false)])]⟩]⟩) ?_ ?_
   ·clear h
    rintro rv4 h
    rw [r7_moved_m_J5] at h
    refine sw_seq ?_
    refine sw_join (fun zz : Unit => r7_moved_m_J4 F t o a e rv4 = some r) (fun zz : Unit => ⟨[(3, .ref 3 7 0 0), (4, .ref 4 6 0 0), (5, .ref 5 5 0 0), (6, .ref 6 6 0 0), (7, .d (vI 0)), (8, .d (vI e))], [some (lvI rv4), some (lvI o.holder), some (lvI o.squibs), some ⟨7, [.d (PdPad.d t)]⟩, some ⟨6, [PdState_T1 {o with zones := rv4} 0 1 2]⟩, some ⟨5, [.d (PdAct.d a)]⟩, some ⟨6, [.d (.agg [vI 0, .v (.slice none 0 0), .v (.slice none 0 0), .v (.slice none 0 0), vI 0, .v (.bool false)])]⟩]⟩) ?_ ?_
    ·clear h
     rintro ⟨⟩ h
     rw [r7_moved_m_J4] at h
     refine sw_seq ?_
     refine sw_join (fun zz : Unit => r7_moved_m_J1 F o rv4 = some r) (fun zz : Unit => ⟨[(4, .ref 3 6 0 0), (6, .ref 4 6 0 0), (7, .d (vI 0))], [some (lvI rv4), some (lvI o.holder), some (lvI o.squibs), some ⟨6, [PdState_T1 {o with zones := rv4} 0 1 2]⟩, some ⟨6, [.d (.agg [vI 0, .v (.slice none 0 0), .v (.slice none 0 0), .v (.slice none 0 0), vI 0, .v (.bool false)])]⟩]⟩) ?_ ?_
     ·clear h
      rintro ⟨⟩ h
      rw [r7_moved_m_J1] at h
      refine qG (r_ldG tb R R R R R R R R R (q_stE _ _ tb R (q_asgD R (eN (sw_ret ?_)))))
      obtain rfl := sI h
      exact f2 [0, 1, 2] (.row R (.row R (.row R .nil))) R (.cons (rc tb R) (.cons (.tmp 7) .nil)) R
     refine sw_seq ?_
     refine sw_join (Sum.elim (fun zz : Unit => r7_moved_m_J2 F o rv4 = some r) (fun zz : Unit => r7_moved_m_J3 F o rv4 = some r)) (Sum.elim (fun zz : Unit => ⟨[(4, .ref 3 6 0 0), (6, .ref 4 6 0 0), (7, .d (vI 0)), (134, .d (.v (.bool true)))], [some (lvI rv4), some (lvI o.holder), some (lvI o.squibs), some ⟨6, [PdState_T1 {o with zones := rv4} 0 1 2]⟩, some ⟨6, [.d (.agg [vI 0, .v (.slice none 0 0), .v (.slice none 0 0), .v (.slice none 0 0), vI 0, .v (.bool false)])]⟩]⟩) (fun zz : Unit => ⟨[(4, .ref 3 6 0 0), (6, .ref 4 6 0 0), (7, .d (vI 0)), (134, .d (.v (.bool false)))], [some (lvI rv4), some (lvI o.holder), some (lvI o.squibs), some ⟨6, [PdState_T1 {o with zones := rv4} 0 1 2]⟩, some ⟨6, [.d (.agg [vI 0, .v (.slice none 0 0), .v (.slice none 0 0), .v (.slice none 0 0), vI 0, .v (.bool false)])]⟩]⟩)) ?_ ?_
     ·clear h
      rintro (⟨⟩ | ⟨⟩) h
      ·dsimp only [Sum.elim] at h ⊢
       rw [r7_moved_m_J2] at h
       refine sw_condT R (qG (r_ldG tb R R R R R R R R R (q_stE _ _ tb R (q_asgD R (eN (sw_ret (then_ret ?_)))))))
       obtain rfl := sI h
       exact f2 [0, 1, 2] (.row R (.row R (.row R .nil))) R (.cons (rc tb R) (.cons (.tmp 7) .nil)) R
      ·dsimp only [Sum.elim] at h ⊢
       rw [r7_moved_m_J3] at h
       refine sw_condF R (sw_skip (then_norm ?_))
       exact .inl ⟨(), h, .vw (κ := [0, 1, 2, 3, 4]) (vK (.row R (.row R (.row R (.cons R R (.cons R R .nil))))) R)⟩
     refine sw_rg (q_fa tb R (q_ldD (y := vI a.what) tb R ?_))
     refine r_geq R R R R ?_ ?_
     ·intro c10
      replace h := ifP c10 h
      refine q_movD R (q_fa tb R (q_ldD (y := .arr 8 ((t.zones).map PdZone.d)) tb R (q_fa tb R (q_ldD (y := vI a.what) tb R ?_))))
      obtain ⟨e5, ie5, h⟩ := bnd h
      refine q_ixE tb (ix0 ie5) (ix1m ie5) R (q_faE tb R (q_ldE (y := .v (.bool e5.pair)) tb (ix2 (g := PdZone.d) ie5) R ?_))
      with_reducible apply ev_lit
      ·intro c11
       replace h := ifP c11 h
       refine q_pickT R (q_movD R (r_ldG tb R R R R R R R R R (q_fa tb R (q_ldD (y := vI a.what) tb R ?_))))
       obtain ⟨rv6, hrv6, h⟩ := bnd h
       refine r_callL (r7_many_pc hrv6) R (.of (by kernel_rfl)) R R ((.cons (.aggL (.cons (.d _) (.cons (.row R R) (.cons (.row R R) (.cons (.row R R) (.cons (.d _) (.cons (.d _) .nil))))))) (.cons (.d _) .nil))) R R ?_
       refine r_eql R R R R ?_ ?_
       ·intro c12
        replace h := ifP c12 h
        refine q_pickT R (q_movD R (q_sk 16 R (q_pickT R (eN ?_))))
        exact .inl ⟨.inl (), h, .vw (κ := [0, 1, 2, 4, 6]) (vK (.row R (.row R (.row R (.cons R R (.cons R R .nil))))) R)⟩
       intro c12
       replace h := ifN c12 h
       refine q_pickT R (q_movD R (q_movD R ?_))
       refine r_geq R R R R ?_ ?_
       ·intro c13
        replace h := ifP c13 h
        refine q_movD R (q_fa tb R (q_ldD (y := .arr 8 ((t.zones).map PdZone.d)) tb R (q_movD R ?_)))
        obtain ⟨e6, ie6, h⟩ := bnd h
        refine q_ixE tb (ix0 ie6) (ix1m ie6) R (q_faE tb R (q_ldE (y := .v (.bool e6.pair)) tb (ix2 (g := PdZone.d) ie6) R ?_))
        with_reducible apply ev_lit
        ·intro c14
         replace h := ifP c14 h
         refine q_pickT R (q_movD R (r_ldG tb R R R R R R R R R (q_movD R ?_)))
         obtain ⟨rv7, hrv7, h⟩ := bnd h
         refine r_callL (r7_many_pc hrv7) R (.of (by kernel_rfl)) R R ((.cons (.aggL (.cons (.d _) (.cons (.row R R) (.cons (.row R R) (.cons (.row R R) (.cons (.d _) (.cons (.d _) .nil))))))) (.cons (.d _) .nil))) R R ?_
         refine r_eql R R R R ?_ ?_
         ·intro c15
          replace h := ifP c15 h
          refine q_pickT R (q_pickF R (eN ?_))
          exact .inl ⟨.inl (), h, .vw (κ := [0, 1, 2, 4, 6]) (vK (.row R (.row R (.row R (.cons R R (.cons R R .nil))))) R)⟩
         intro c15
         replace h := ifN c15 h
         refine q_pickT R (q_pickF R (eN ?_))
         exact .inl ⟨.inr (()), h, .vw (κ := [0, 1, 2, 4, 6]) (vK (.row R (.row R (.row R (.cons R R (.cons R R .nil))))) R)⟩
        intro c14
        replace h := ifF c14 h
        refine q_pickT R (q_movD R (q_sk 4 R (q_pickF R (q_pickF R (eN ?_)))))
        exact .inl ⟨.inr (()), h, .vw (κ := [0, 1, 2, 4, 6]) (vK (.row R (.row R (.row R (.cons R R (.cons R R .nil))))) R)⟩
       intro c13
       replace h := ifN (Int.not_le.2 c13) h
       refine q_movD R (q_sk 6 R (q_pickF R (q_movD R (q_sk 4 R (q_pickF R (q_pickF R (eN ?_)))))))
       exact .inl ⟨.inr (()), h, .vw (κ := [0, 1, 2, 4, 6]) (vK (.row R (.row R (.row R (.cons R R (.cons R R .nil))))) R)⟩
      intro c11
      replace h := ifF c11 h
      refine q_pickT R (q_movD R (q_sk 5 R (q_pickF R (q_movD R (q_movD R ?_)))))
      refine r_geq R R R R ?_ ?_
      ·intro c16
       replace h := ifP c16 h
       refine q_movD R (q_fa tb R (q_ldD (y := .arr 8 ((t.zones).map PdZone.d)) tb R (q_movD R ?_)))
       obtain ⟨e7, ie7, h⟩ := bnd h
       refine q_ixE tb (ix0 ie7) (ix1m ie7) R (q_faE tb R (q_ldE (y := .v (.bool e7.pair)) tb (ix2 (g := PdZone.d) ie7) R ?_))
       with_reducible apply ev_lit
       ·intro c17
        replace h := ifP c17 h
        refine q_pickT R (q_movD R (r_ldG tb R R R R R R R R R (q_movD R ?_)))
        obtain ⟨rv8, hrv8, h⟩ := bnd h
        refine r_callL (r7_many_pc hrv8) R (.of (by kernel_rfl)) R R ((.cons (.aggL (.cons (.d _) (.cons (.row R R) (.cons (.row R R) (.cons (.row R R) (.cons (.d _) (.cons (.d _) .nil))))))) (.cons (.d _) .nil))) R R ?_
        refine r_eql R R R R ?_ ?_
        ·intro c18
         replace h := ifP c18 h
         refine q_pickT R (q_pickF R (eN ?_))
         exact .inl ⟨.inl (), h, .vw (κ := [0, 1, 2, 4, 6]) (vK (.row R (.row R (.row R (.cons R R (.cons R R .nil))))) R)⟩
        intro c18
        replace h := ifN c18 h
        refine q_pickT R (q_pickF R (eN ?_))
        exact .inl ⟨.inr (()), h, .vw (κ := [0, 1, 2, 4, 6]) (vK (.row R (.row R (.row R (.cons R R (.cons R R .nil))))) R)⟩
       intro c17
       replace h := ifF c17 h
       refine q_pickT R (q_movD R (q_sk 4 R (q_pickF R (q_pickF R (eN ?_)))))
       exact .inl ⟨.inr (()), h, .vw (κ := [0, 1, 2, 4, 6]) (vK (.row R (.row R (.row R (.cons R R (.cons R R .nil))))) R)⟩
      intro c16
      replace h := ifN (Int.not_le.2 c16) h
      refine q_movD R (q_sk 6 R (q_pickF R (q_movD R (q_sk 4 R (q_pickF R (q_pickF R (eN ?_)))))))
      exact .inl ⟨.inr (()), h, .vw (κ := [0, 1, 2, 4, 6]) (vK (.row R (.row R (.row R (.cons R R (.cons R R .nil))))) R)⟩
     intro c10
     replace h := ifN (Int.not_le.2 c10) h
     refine q_movD R (q_sk 7 R (q_pickF R (q_movD R (q_sk 5 R (q_pickF R (q_movD R (q_movD R ?_)))))))
     refine r_geq R R R R ?_ ?_
     ·intro c19
      replace h := ifP c19 h
      refine q_movD R (q_fa tb R (q_ldD (y := .arr 8 ((t.zones).map PdZone.d)) tb R (q_movD R ?_)))
      obtain ⟨e8, ie8, h⟩ := bnd h
      refine q_ixE tb (ix0 ie8) (ix1m ie8) R (q_faE tb R (q_ldE (y := .v (.bool e8.pair)) tb (ix2 (g := PdZone.d) ie8) R ?_))
      with_reducible apply ev_lit
      ·intro c20
       replace h := ifP c20 h
       refine q_pickT R (q_movD R (r_ldG tb R R R R R R R R R (q_movD R ?_)))
       obtain ⟨rv9, hrv9, h⟩ := bnd h
       refine r_callL (r7_many_pc hrv9) R (.of (by kernel_rfl)) R R ((.cons (.aggL (.cons (.d _) (.cons (.row R R) (.cons (.row R R) (.cons (.row R R) (.cons (.d _) (.cons (.d _) .nil))))))) (.cons (.d _) .nil))) R R ?_
       refine r_eql R R R R ?_ ?_
       ·intro c21
        replace h := ifP c21 h
        refine q_pickT R (q_pickF R (eN ?_))
        exact .inl ⟨.inl (), h, .vw (κ := [0, 1, 2, 4, 6]) (vK (.row R (.row R (.row R (.cons R R (.cons R R .nil))))) R)⟩
       intro c21
       replace h := ifN c21 h
       refine q_pickT R (q_pickF R (eN ?_))
       exact .inl ⟨.inr (()), h, .vw (κ := [0, 1, 2, 4, 6]) (vK (.row R (.row R (.row R (.cons R R (.cons R R .nil))))) R)⟩
      intro c20
      replace h := ifF c20 h
      refine q_pickT R (q_movD R (q_sk 4 R (q_pickF R (q_pickF R (eN ?_)))))
      exact .inl ⟨.inr (()), h, .vw (κ := [0, 1, 2, 4, 6]) (vK (.row R (.row R (.row R (.cons R R (.cons R R .nil))))) R)⟩
     intro c19
     replace h := ifN (Int.not_le.2 c19) h
     refine q_movD R (q_sk 6 R (q_pickF R (q_movD R (q_sk 4 R (q_pickF R (q_pickF R (eN ?_)))))))
     exact .inl ⟨.inr (()), h, .vw (κ := [0, 1, 2, 4, 6]) (vK (.row R (.row R (.row R (.cons R R (.cons R R .nil))))) R)⟩
    refine sw_seq (sw_dr (by kernel_rfl) (q_fa tb R (q_ldD (y := vI a.what) tb R ?_)))
    refine r_geq R R R R ?_ ?_
    ·intro c8
     replace h := ifP c8 h
     refine q_movD R (r_ldG tb R R R R R R R R R (q_fa tb R (q_ldD (y := vI a.what) tb R ?_)))
     obtain ⟨rv5, hrv5, h⟩ := bnd h
     refine r_callL (r7_many_pc hrv5) R (.of (by kernel_rfl)) R R ((.cons (.aggL (.cons (.d _) (.cons (.row R R) (.cons (.row R R) (.cons (.row R R) (.cons (.d _) (.cons (.d _) .nil))))))) (.cons (.d _) .nil))) R R (q_fa tb R (q_ldD (y := .arr 8 ((t.zones).map PdZone.d)) tb R (q_fa tb R (q_ldD (y := vI a.what) tb R ?_))))
     obtain ⟨e4, ie4, h⟩ := bnd h
     refine q_ixE tb (ix0 ie4) (ix1m ie4) R (q_faE tb R (q_ldE (y := vI e4.room) tb (ix2 (g := PdZone.d) ie4) R ?_))
     refine r_gtr R R R R ?_ ?_
     ·intro c9
      replace h := ifP c9 h
      refine q_pickT R (ev_endD (by kernel_rfl) (then_norm (sw_condT R (qG (r_ldG tb R R R R R R R R R (q_stE _ _ tb R (q_asgD R (eN (sw_ret (then_ret ?_))))))))))
      obtain rfl := sI h
      exact f2 [0, 1, 2] (.row R (.row R (.row R .nil))) R (.cons (rc tb R) (.cons (.tmp 7) .nil)) R
     intro c9
     replace h := ifN (Int.not_lt.2 c9) h
     refine q_pickT R (ev_endD (by kernel_rfl) (then_norm (sw_condF R (sw_skip (then_norm ?_)))))
     exact .inl ⟨(), h, .prn [3, 4, 5, 6, 7, 8] R⟩
    intro c8
    replace h := ifN (Int.not_le.2 c8) h
    refine q_movD R (q_sk 12 R (q_pickF R (ev_endD (by kernel_rfl) (then_norm (sw_condF R (sw_skip (then_norm ?_)))))))
    exact .inl ⟨(), h, .prn [3, 4, 5, 6, 7, 8] R⟩
   refine qG (q_fa tb R (q_ldD (y := vI a.with_) tb R ?_))
   refine r_geq R R R R ?_ ?_
   ·intro c7
    replace h := ifP c7 h
    refine eN (sw_condT R (sw_rg (q_fa tb R (r_ldW tb R R R R R R R R R (q_fa tb R (q_ldD (y := vI a.with_) tb R (q_fa tb R (q_ldD (y := vI a.what) tb R ?_))))))))
    obtain ⟨e3, ie3, h⟩ := bnd h
    refine r_ixI tb R R R R R R (ix0 ie3) (ix1 ie3) R R ?_
    obtain ⟨q2, iq2, h⟩ := bnd h
    refine r_stQ (a' := (a.what : Int)) tb R R R R ie3 R R R R iq2 R R ?_
    dsimp only [List.set_cons_zero, List.set_cons_succ, PdState_T1]
    first | rw [set_len iq2] | skip
    refine eN ?_
    exact .inl ⟨q2, h, .prn [3, 4, 5, 6, 7, 8] R⟩
   intro c7
   replace h := ifN (Int.not_le.2 c7) h
   refine eN (sw_condF R (sw_skip (then_norm ?_)))
   exact .inl ⟨q, h, .prn [3, 4, 5, 6, 7, 8] R⟩
  refine qG (q_movD R ?_)
  refine r_eql R R R R ?_ ?_
  ·intro c4
   replace h := ifP c4 h
   refine q_movD R (q_fa tb R (q_ldD (y := vI a.with_) tb R ?_))
   refine r_geq R R R R ?_ ?_
   ·intro c5
    replace h := ifP c5 h
    refine q_pickT R (eN (sw_condT R (sw_rg (q_ldD (y := PdPad.d t) tb R (r_ldG tb R R R R R R R R R (q_fa tb R (q_ldD (y := vI a.with_) tb R (q_fa tb R (q_ldD (y := vI a.what) tb R ?_)))))))))
    obtain ⟨rv3, hrv3, h⟩ := bnd h
    refine r_callL (r7_comes_pc hrv3) R (.of (by kernel_rfl)) R R ((.cons (.d _) (.cons (.aggL (.cons (.d _) (.cons (.row R R) (.cons (.row R R) (.cons (.row R R) (.cons (.d _) (.cons (.d _) .nil))))))) (.cons (.d _) (.cons (.d _) .nil))))) R R (q_asgD R (eN ?_))
    exact .inl ⟨rv3, h, .prn [3, 4, 5, 6, 7, 8, 9] R⟩
   intro c5
   replace h := ifN (Int.not_le.2 c5) h
   refine q_pickT R (eN (sw_condF R (sw_skip (then_norm ?_))))
   exact .inl ⟨rv2, h, .prn [3, 4, 5, 6, 7, 8, 9] R⟩
  intro c4
  replace h := ifN c4 h
  refine q_movD R (q_sk 3 R (q_pickF R (eN (sw_condF R (sw_skip (then_norm ?_))))))
  exact .inl ⟨rv2, h, .prn [3, 4, 5, 6, 7, 8, 9] R⟩
 refine qG (q_ldD (y := PdPad.d t) tb R (q_movD R (q_fa tb R (q_ldD (y := vI a.what) tb R ?_))))
 obtain ⟨rv, hrv, h⟩ := bnd h
 refine r_callB (r7_door_pc hrv) (.of (by kernel_rfl)) R R R R ?_ ?_
 ·intro c
  replace h := ifP c h
  refine r_notT R R R (q_movD R (q_fa tb R (q_ldD (y := vI a.with_) tb R ?_)))
  refine r_geq R R R R ?_ ?_
  ·intro c2
   replace h := ifP c2 h
   refine q_movD R (q_fa tb R (r_ldW tb R R R R R R R R R (q_fa tb R (q_ldD (y := vI a.with_) tb R ?_))))
   obtain ⟨e2, ie2, h⟩ := bnd h
   refine r_ixI tb R R R R R R (ix0 ie2) (ix1 ie2) R R ?_
   refine r_ldD (y := vI e2) tb R R R R (ix2 (g := fun a => T.d (vI a)) ie2) R R R R ?_
   refine q_movD R ?_
   refine r_neq R R R R ?_ ?_
   ·intro c3
    replace h := ifN c3 h
    refine q_pickT R (q_pickF R (eN (sw_condT R (qG (r_ldG tb R R R R R R R R R (q_stE _ _ tb R (q_asgD R (eN (sw_ret (then_ret ?_))))))))))
    obtain rfl := sI h
    exact f2 [0, 1, 2] (.row R (.row R (.row R .nil))) R (.cons (rc tb R) (.cons (.tmp 7) .nil)) R
   intro c3
   replace h := ifP c3 h
   refine q_pickT R (q_pickF R (eN (sw_condF R (sw_skip (then_norm ?_)))))
   exact .inl ⟨(), h, .prn [3, 4, 5, 6, 7, 8] R⟩
  intro c2
  replace h := ifN (Int.not_le.2 c2) h
  refine q_movD R (q_sk 8 R (q_pickF R (q_pickF R (eN (sw_condF R (sw_skip (then_norm ?_)))))))
  exact .inl ⟨(), h, .prn [3, 4, 5, 6, 7, 8] R⟩
 intro c
 replace h := ifF c h
 refine r_notF R R R (q_movD R (q_sk 13 R (q_pickT R (eN (sw_condT R (qG (r_ldG tb R R R R R R R R R (q_stE _ _ tb R (q_asgD R (eN (sw_ret (then_ret ?_))))))))))))
 obtain rfl := sI h
 exact f2 [0, 1, 2] (.row R (.row R (.row R .nil))) R (.cons (rc tb R) (.cons (.tmp 7) .nil)) R
def r7_keys_m_J1 (F : Nat) (B16 : Int → Option (PdState × Int × PdState)) (x2 : Int) : Option (PdState × Int × PdState) := B16 (W (x2 + 1))
def r7_keys_m_L1 (F : Nat) (t : PdPad) (o : PdState) (a : PdAct) (x : Int) (K : Int → Option (PdState × Int × PdState)) : Nat → Int → Option (PdState × Int × PdState)
 | 0, _ => none
 | n + 1, x2 => Option.bind (ixO t.squibs x) fun e3 => if x2 < (e3.keys.length : Int) then (Option.bind (ixO o.squibs x) fun e4 => if e4 = 1 then (Option.bind (ixO e3.keys x2) fun e5 => if e5 = a.what then (some (o, 177, o)) else (r7_keys_m_J1 F (r7_keys_m_L1 F t o a x K n) x2)) else (r7_keys_m_J1 F (r7_keys_m_L1 F t o a x K n) x2)) else (K x2)
def r7_keys_m_L2 (F : Nat) (t : PdPad) (o : PdState) (a : PdAct) (K : Int → Option (PdState × Int × PdState)) : Nat → Int → Option (PdState × Int × PdState)
 | 0, _ => none
 | n + 1, x => if x < (t.squibs.length : Int) then (r7_keys_m_L1 F t o a x (fun (x2 : Int) => r7_keys_m_L2 F t o a K n (W (x + 1))) F 0) else (K x)
def r7_keys_m (F : Nat) (t : PdPad) (o : PdState) (a : PdAct) : Option (PdState × Int × PdState) := Option.bind (ixO o.zones a.who) fun e => if e = t.panel then (if a.kind = 2 then (Option.bind (ixO o.holder a.what) fun e2 => if e2 = (-1) then (r7_keys_m_L2 F t o a (fun (x : Int) => Option.bind (setO o.holder a.what a.who) fun q => some ({o with holder := q}, 0, {o with holder := q})) F 0) else (some (o, 174, o))) else (if a.kind = 3 then (Option.bind (ixO o.holder a.what) fun e6 => if e6 = a.who then (Option.bind (setO o.holder a.what (-1)) fun q2 => some ({o with holder := q2}, 0, {o with holder := q2})) else (some (o, 174, o))) else (Option.bind (ixO o.holder a.what) fun e7 => if e7 = a.who then (Option.bind (ixO o.zones a.with_) fun e8 => if e8 = e then (Option.bind (setO o.holder a.what a.with_) fun q3 => Option.bind (r7_keyed F t {o with holder := q3} a.who e) fun rv => if rv = true then (some ({o with holder := q3}, 0, {o with holder := q3})) else (some ({o with holder := q3}, 178, {o with holder := q3}))) else (some (o, 171, o))) else (some (o, 174, o))))) else (if a.kind = 2 then (some (o, 171, o)) else (if a.kind = 3 then (some (o, 171, o)) else (Option.bind (ixO o.holder a.what) fun e9 => if e9 = a.who then (Option.bind (ixO o.zones a.with_) fun e10 => if e10 = e then (Option.bind (setO o.holder a.what a.with_) fun q4 => Option.bind (r7_keyed F t {o with holder := q4} a.who e) fun rv2 => if rv2 = true then (some ({o with holder := q4}, 0, {o with holder := q4})) else (some ({o with holder := q4}, 178, {o with holder := q4}))) else (some (o, 171, o))) else (some (o, 174, o)))))
theorem r7_keys_m_scr {F : Nat} {t : PdPad} {o : PdState} {a : PdAct} {r : (PdState × Int × PdState)} (h : r7_keys_m F t o a = some r) : SCR Tryz.prog 55 [.d (PdPad.d t), PdState_T1 o 0 1 2, .d (PdAct.d a)] [some (lvI o.zones), some (lvI o.holder), some (lvI o.squibs)] (.tup [PdState_T1 {r.1 with zones := r.2.2.zones, holder := r.2.2.holder, squibs := r.2.2.squibs} 0 1 2, .d (.v (.int .i64 r.2.1))]) [some (lvI r.2.2.zones), some (lvI r.2.2.holder), some (lvI r.2.2.squibs)] := by
 rw [r7_keys_m] at h
 refine SC.of_sw Tryz.func55 R R R ?_
 dsimp only [argS, List.map]
 refine qG (q_box R (q_box R (q_box R (r_alloc tb R R R R R (q_asgD R (eN (sw_seq (sw_dr (by kernel_rfl) (q_fa tb R (r_ldW tb R R R R R R R R R (q_fa tb R (q_ldD (y := vI a.who) tb R ?_))))))))))))
 obtain ⟨e, ie, h⟩ := bnd h
 refine r_ixI tb R R R R R R (ix0 ie) (ix1 ie) R R ?_
 refine r_ldD (y := vI e) tb R R R R (ix2 (g := fun a => T.d (vI a)) ie) R R R R ?_
 refine q_fa tb R (q_ldD (y := vI t.panel) tb R ?_)
 refine r_eql R R R R ?_ ?_
 ·intro c
  replace h := ifP c h
  refine q_asgD R (ev_endD (by kernel_rfl) (then_norm (sw_seq (qG (q_fa tb R (q_ldD (y := vI a.kind) tb R ?_))))))
  refine r_eql R R R R ?_ ?_
  ·intro c2
   replace h := ifP c2 h
   refine eN (sw_condT R (sw_seq (qG (q_movD R (r_notT R R R (eN (sw_condF R (sw_skip (then_norm (sw_seq (qG (q_fa tb R (r_ldW tb R R R R R R R R R (q_fa tb R (q_ldD (y := vI a.what) tb R ?_)))))))))))))))
   obtain ⟨e2, ie2, h⟩ := bnd h
   refine r_ixI tb R R R R R R (ix0 ie2) (ix1 ie2) R R ?_
   refine r_ldD (y := vI e2) tb R R R R (ix2 (g := fun a => T.d (vI a)) ie2) R R R R ?_
   refine r_neq R R R R ?_ ?_
   ·intro c3
    replace h := ifN c3 h
    refine eN (sw_condT R (qG (r_ldG tb R R R R R R R R R (q_stE _ _ tb R (q_asgD R (eN (sw_ret (then_ret (then_ret ?_)))))))))
    obtain rfl := sI h
    exact f2 [0, 1, 2] (.row R (.row R (.row R .nil))) R (.cons (rc tb R) (.cons (.tmp 7) .nil)) R
   intro c3
   replace h := ifP c3 h
   refine eN (sw_condF R (sw_skip (then_norm (sw_seq (qG (q_asgD R (eN (sw_block ?_))))))))
   obtain ⟨K14, hK14, h⟩ : ∃ K, K = _ ∧ r7_keys_m_L2 F t o a K F 0 = some r := ⟨_, rfl, h⟩
   refine sw_loopS (fun m st => ∃ (x : Int), r7_keys_m_L2 F t o a K14 m x = some r ∧ st = ⟨[(3, .ref 3 7 0 0), (4, .ref 4 6 0 0), (5, .ref 5 5 0 0), (6, .ref 6 6 0 0), (7, .d (vI 0)), (8, .d (.v (.bool true))), (9, .d (vI x))], [some (lvI o.zones), some (lvI o.holder), some (lvI o.squibs), some ⟨7, [.d (PdPad.d t)]⟩, some ⟨6, [PdState_T1 o 0 1 2]⟩, some ⟨5, [.d (PdAct.d a)]⟩, some ⟨6, [.d (.agg [vI 0, .v (.slice none 0 0), .v (.slice none 0 0), .v (.slice none 0 0), vI 0, .v (.bool false)])]⟩]⟩) (.prn [3, 4, 5, 6, 7, 8, 9] R) ⟨0, h, R⟩ ?_
   clear h
   rintro m14 st ⟨x, h, rfl⟩
   cases m14 with
   | zero => cases (show (none : Option (PdState × Int × PdState)) = some r from h)
   | succ m14 =>
   rw [r7_keys_m_L2] at h
   refine sw_seq (qG (q_movD R (q_fa tb R (q_ldD (y := .arr 6 ((t.squibs).map PdSquib.d)) tb R (q_lenM tb R ?_)))))
   refine r_lss R R R R ?_ ?_
   ·intro c4
    replace h := ifP c4 h
    refine eN (sw_condT R (sw_skip (then_norm (sw_seq (sw_block (qG (q_asgD R (eN (sw_block ?_)))))))))
    obtain ⟨K16, hK16, h⟩ : ∃ K, K = _ ∧ r7_keys_m_L1 F t o a x K F 0 = some r := ⟨_, rfl, h⟩
    refine sw_loopS (fun m st => ∃ (x2 : Int), r7_keys_m_L1 F t o a x K16 m x2 = some r ∧ st = ⟨[(3, .ref 3 7 0 0), (4, .ref 4 6 0 0), (5, .ref 5 5 0 0), (6, .ref 6 6 0 0), (7, .d (vI 0)), (8, .d (.v (.bool true))), (9, .d (vI x)), (10, .d (vI x2))], [some (lvI o.zones), some (lvI o.holder), some (lvI o.squibs), some ⟨7, [.d (PdPad.d t)]⟩, some ⟨6, [PdState_T1 o 0 1 2]⟩, some ⟨5, [.d (PdAct.d a)]⟩, some ⟨6, [.d (.agg [vI 0, .v (.slice none 0 0), .v (.slice none 0 0), .v (.slice none 0 0), vI 0, .v (.bool false)])]⟩]⟩) (.prn [3, 4, 5, 6, 7, 8, 9, 10] R) ⟨0, h, R⟩ ?_
    clear h
    rintro m16 st ⟨x2, h, rfl⟩
    cases m16 with
    | zero => cases (show (none : Option (PdState × Int × PdState)) = some r from h)
    | succ m16 =>
    rw [r7_keys_m_L1] at h
    refine sw_seq (qG (q_movD R (q_fa tb R (q_ldD (y := .arr 6 ((t.squibs).map PdSquib.d)) tb R (q_movD R ?_)))))
    obtain ⟨e3, ie3, h⟩ := bnd h
    refine q_ixE tb (ix0 ie3) (ix1m ie3) R (q_faE tb R (q_ldE (y := .arr 1 ((e3.keys).map vI)) tb (ix2 (g := PdSquib.d) ie3) R (q_lenM tb R ?_)))
    refine r_lss R R R R ?_ ?_
    ·intro c5
     replace h := ifP c5 h
     refine eN (sw_condT R (sw_skip (then_norm (sw_seq ?_))))
     refine sw_join (fun zz : Unit => r7_keys_m_J1 F (r7_keys_m_L1 F t o a x K16 m16) x2 = some r) (fun zz : Unit => ⟨[(3, .ref 3 7 0 0), (4, .ref 4 6 0 0), (5, .ref 5 5 0 0), (6, .ref 6 6 0 0), (7, .d (vI 0)), (8, .d (.v (.bool true))), (9, .d (vI x)), (10, .d (vI x2))], [some (lvI o.zones), some (lvI o.holder), some (lvI o.squibs), some ⟨7, [.d (PdPad.d t)]⟩, some ⟨6, [PdState_T1 o 0 1 2]⟩, some ⟨5, [.d (PdAct.d a)]⟩, some ⟨6, [.d (.agg [vI 0, .v (.slice none 0 0), .v (.slice none 0 0), .v (.slice none 0 0), vI 0, .v (.bool false)])]⟩]⟩) ?_ ?_
     ·clear h
      rintro ⟨⟩ h
      rw [r7_keys_m_J1] at h
      refine sw_rg (q_movD R (q_add R (q_asgD R (eN ?_))))
      exact ⟨m16, _, Nat.lt_succ_self _, .prn [3, 4, 5, 6, 7, 8, 9, 10] R, (W (x2 + 1)), h, R⟩
     refine sw_block (sw_seq (sw_dr (by kernel_rfl) (q_fa tb R (r_ldW tb R R R R R R R R R (q_movD R ?_)))))
     obtain ⟨e4, ie4, h⟩ := bnd h
     refine r_ixI tb R R R R R R (ix0 ie4) (ix1 ie4) R R ?_
     refine r_ldD (y := vI e4) tb R R R R (ix2 (g := fun a => T.d (vI a)) ie4) R R R R ?_
     refine r_eql R R R R ?_ ?_
     ·intro c6
      replace h := ifP c6 h
      refine q_movD R (q_fa tb R (q_ldD (y := .arr 6 ((t.squibs).map PdSquib.d)) tb R (q_movD R (q_ixE tb (ix0 ie3) (ix1m ie3) R (q_faE tb R (q_ldE (y := .arr 1 ((e3.keys).map vI)) tb (ix2 (g := PdSquib.d) ie3) R (q_movD R ?_)))))))
      obtain ⟨e5, ie5, h⟩ := bnd h
      refine q_ixE tb (ix0 ie5) (ix1m ie5) R (q_ldE (y := vI e5) tb (ix2 (g := vI) ie5) R (q_fa tb R (q_ldD (y := vI a.what) tb R ?_)))
      refine r_eql R R R R ?_ ?_
      ·intro c7
       replace h := ifP c7 h
       refine q_pickT R (ev_endD (by kernel_rfl) (then_norm (sw_condT R (qG (r_ldG tb R R R R R R R R R (q_stE _ _ tb R (q_asgD R (eN (sw_ret (block_ret (then_ret (then_ret (block_ret (block_ret (then_ret (then_ret (block_ret (then_ret (then_ret ?_)))))))))))))))))))
       obtain rfl := sI h
       exact f2 [0, 1, 2] (.row R (.row R (.row R .nil))) R (.cons (rc tb R) (.cons (.tmp 7) .nil)) R
      intro c7
      replace h := ifN c7 h
      refine q_pickT R (ev_endD (by kernel_rfl) (then_norm (sw_condF R (sw_skip (block_norm (then_norm ?_))))))
      exact .inl ⟨(), h, .prn [3, 4, 5, 6, 7, 8, 9, 10] R⟩
     intro c6
     replace h := ifN c6 h
     refine q_movD R (q_sk 12 R (q_pickF R (ev_endD (by kernel_rfl) (then_norm (sw_condF R (sw_skip (block_norm (then_norm ?_))))))))
     exact .inl ⟨(), h, .prn [3, 4, 5, 6, 7, 8, 9, 10] R⟩
    intro c5
    replace h := ifN (Int.not_lt.2 c5) h
    refine eN (sw_condF R (sw_exit (then_exit (then_exit ?_))))
    subst hK16
    refine block_exit (block_norm (then_norm (sw_rg (q_movD R (q_add R (q_asgD R (eN ?_)))))))
    exact ⟨m14, _, Nat.lt_succ_self _, .prn [3, 4, 5, 6, 7, 8, 9] R, (W (x + 1)), h, R⟩
   intro c4
   replace h := ifN (Int.not_lt.2 c4) h
   refine eN (sw_condF R (sw_exit (then_exit (then_exit ?_))))
   subst hK14
   refine block_exit (then_norm (qG (q_fa tb R (r_ldW tb R R R R R R R R R (q_fa tb R (q_ldD (y := vI a.what) tb R (q_fa tb R (q_ldD (y := vI a.who) tb R (r_ixI tb R R R R R R (ix0 ie2) (ix1 ie2) R R ?_)))))))))
   obtain ⟨q, iq, h⟩ := bnd h
   refine r_stQ (a' := (a.who : Int)) tb R R R R ie2 R R R R iq R R ?_
   dsimp only [List.set_cons_zero, List.set_cons_succ, PdState_T1]
   first | rw [set_len iq] | skip
   refine eN (qG (r_ldG tb R R R R R R R R R (q_stE _ _ tb R (q_asgD R (eN (sw_ret (then_ret ?_)))))))
   obtain rfl := sI h
   exact f2 [0, 1, 2] (.row R (.row R (.row R .nil))) R (.cons (rc tb R) (.cons (.tmp 7) .nil)) R
  intro c2
  replace h := ifN c2 h
  refine eN (sw_condF R (sw_skip (then_norm (sw_seq (qG (q_fa tb R (q_ldD (y := vI a.kind) tb R ?_)))))))
  refine r_eql R R R R ?_ ?_
  ·intro c8
   replace h := ifP c8 h
   refine eN (sw_condT R (sw_seq (qG (q_movD R (r_notT R R R (eN (sw_condF R (sw_skip (then_norm (sw_seq (sw_seq (sw_dr (by kernel_rfl) (q_fa tb R (r_ldW tb R R R R R R R R R (q_fa tb R (q_ldD (y := vI a.what) tb R ?_))))))))))))))))
   obtain ⟨e6, ie6, h⟩ := bnd h
   refine r_ixI tb R R R R R R (ix0 ie6) (ix1 ie6) R R ?_
   refine r_ldD (y := vI e6) tb R R R R (ix2 (g := fun a => T.d (vI a)) ie6) R R R R ?_
   refine q_fa tb R (q_ldD (y := vI a.who) tb R ?_)
   refine r_neq R R R R ?_ ?_
   ·intro c9
    replace h := ifN c9 h
    refine ev_endD (by kernel_rfl) (then_norm (sw_condT R (qG (r_ldG tb R R R R R R R R R (q_stE _ _ tb R (q_asgD R (eN (sw_ret (then_ret (then_ret ?_))))))))))
    obtain rfl := sI h
    exact f2 [0, 1, 2] (.row R (.row R (.row R .nil))) R (.cons (rc tb R) (.cons (.tmp 7) .nil)) R
   intro c9
   replace h := ifP c9 h
   refine ev_endD (by kernel_rfl) (then_norm (sw_condF R (sw_skip (then_norm (qG (q_fa tb R (r_ldW tb R R R R R R R R R (q_fa tb R (q_ldD (y := vI a.what) tb R (r_ixI tb R R R R R R (ix0 ie6) (ix1 ie6) R R ?_))))))))))
   obtain ⟨q2, iq2, h⟩ := bnd h
   refine r_stQ (a' := ((-1) : Int)) tb R R R R ie6 R R R R iq2 R R ?_
   dsimp only [List.set_cons_zero, List.set_cons_succ, PdState_T1]
   first | rw [set_len iq2] | skip
   refine eN (qG (r_ldG tb R R R R R R R R R (q_stE _ _ tb R (q_asgD R (eN (sw_ret (then_ret ?_)))))))
   obtain rfl := sI h
   exact f2 [0, 1, 2] (.row R (.row R (.row R .nil))) R (.cons (rc tb R) (.cons (.tmp 7) .nil)) R
  intro c8
  replace h := ifN c8 h
  refine eN (sw_condF R (sw_skip (then_norm (sw_seq (sw_seq (sw_dr (by kernel_rfl) (q_fa tb R (r_ldW tb R R R R R R R R R (q_fa tb R (q_ldD (y := vI a.what) tb R ?_))))))))))
  obtain ⟨e7, ie7, h⟩ := bnd h
  refine r_ixI tb R R R R R R (ix0 ie7) (ix1 ie7) R R ?_
  refine r_ldD (y := vI e7) tb R R R R (ix2 (g := fun a => T.d (vI a)) ie7) R R R R ?_
  refine q_fa tb R (q_ldD (y := vI a.who) tb R ?_)
  refine r_neq R R R R ?_ ?_
  ·intro c10
   replace h := ifN c10 h
   refine ev_endD (by kernel_rfl) (then_norm (sw_condT R (qG (r_ldG tb R R R R R R R R R (q_stE _ _ tb R (q_asgD R (eN (sw_ret (then_ret ?_)))))))))
   obtain rfl := sI h
   exact f2 [0, 1, 2] (.row R (.row R (.row R .nil))) R (.cons (rc tb R) (.cons (.tmp 7) .nil)) R
  intro c10
  replace h := ifP c10 h
  refine ev_endD (by kernel_rfl) (then_norm (sw_condF R (sw_skip (then_norm (sw_seq (sw_seq (sw_dr (by kernel_rfl) (q_fa tb R (r_ldW tb R R R R R R R R R (q_fa tb R (q_ldD (y := vI a.with_) tb R ?_)))))))))))
  obtain ⟨e8, ie8, h⟩ := bnd h
  refine r_ixI tb R R R R R R (ix0 ie8) (ix1 ie8) R R ?_
  refine r_ldD (y := vI e8) tb R R R R (ix2 (g := fun a => T.d (vI a)) ie8) R R R R ?_
  refine q_fa tb R (r_ldW tb R R R R R R R R R (q_fa tb R (q_ldD (y := vI a.who) tb R (r_ixI tb R R R R R R (ix0 ie) (ix1 ie) R R ?_))))
  refine r_ldD (y := vI e) tb R R R R (ix2 (g := fun a => T.d (vI a)) ie) R R R R ?_
  refine r_neq R R R R ?_ ?_
  ·intro c11
   replace h := ifN c11 h
   refine ev_endD (by kernel_rfl) (then_norm (sw_condT R (qG (r_ldG tb R R R R R R R R R (q_stE _ _ tb R (q_asgD R (eN (sw_ret (then_ret ?_)))))))))
   obtain rfl := sI h
   exact f2 [0, 1, 2] (.row R (.row R (.row R .nil))) R (.cons (rc tb R) (.cons (.tmp 7) .nil)) R
  intro c11
  replace h := ifP c11 h
  refine ev_endD (by kernel_rfl) (then_norm (sw_condF R (sw_skip (then_norm (qG (q_fa tb R (r_ldW tb R R R R R R R R R (q_fa tb R (q_ldD (y := vI a.what) tb R (q_fa tb R (q_ldD (y := vI a.with_) tb R (r_ixI tb R R R R R R (ix0 ie7) (ix1 ie7) R R ?_))))))))))))
  obtain ⟨q3, iq3, h⟩ := bnd h
  refine r_stQ (a' := (a.with_ : Int)) tb R R R R ie7 R R R R iq3 R R ?_
  dsimp only [List.set_cons_zero, List.set_cons_succ, PdState_T1]
  first | rw [set_len iq3] | skip
  refine eN (sw_seq (sw_seq (sw_dr (by kernel_rfl) (q_ldD (y := PdPad.d t) tb R (r_ldG tb R R R R R R R R R (q_fa tb R (q_ldD (y := vI a.who) tb R (q_fa tb R (r_ldW tb R R R R R R R R R (q_fa tb R (q_ldD (y := vI a.who) tb R (r_ixI tb R R R R R R (ix0 ie) (ix1 ie) R R ?_))))))))))))
  refine r_ldD (y := vI e) tb R R R R (ix2 (g := fun a => T.d (vI a)) ie) R R R R ?_
  obtain ⟨rv, hrv, h⟩ := bnd h
  refine r_callLB (r7_keyed_pc hrv) (.of (by kernel_rfl)) R R ((.cons (.d _) (.cons (.aggL (.cons (.d _) (.cons (.row R R) (.cons (.row R R) (.cons (.row R R) (.cons (.d _) (.cons (.d _) .nil))))))) (.cons (.d _) (.cons (.d _) .nil))))) R R ?_ ?_
  ·intro c12
   replace h := ifP c12 h
   refine r_notT R R R (ev_endD (by kernel_rfl) (then_norm (sw_condF R (sw_skip (then_norm (qG (r_ldG tb R R R R R R R R R (q_stE _ _ tb R (q_asgD R (eN (sw_ret ?_)))))))))))
   obtain rfl := sI h
   exact f2 [0, 1, 2] (.row R (.row R (.row R .nil))) R (.cons (rc tb R) (.cons (.tmp 7) .nil)) R
  intro c12
  replace h := ifF c12 h
  refine r_notF R R R (ev_endD (by kernel_rfl) (then_norm (sw_condT R (qG (r_ldG tb R R R R R R R R R (q_stE _ _ tb R (q_asgD R (eN (sw_ret (then_ret ?_))))))))))
  obtain rfl := sI h
  exact f2 [0, 1, 2] (.row R (.row R (.row R .nil))) R (.cons (rc tb R) (.cons (.tmp 7) .nil)) R
 intro c
 replace h := ifN c h
 refine q_asgD R (ev_endD (by kernel_rfl) (then_norm (sw_seq (qG (q_fa tb R (q_ldD (y := vI a.kind) tb R ?_))))))
 refine r_eql R R R R ?_ ?_
 ·intro c13
  replace h := ifP c13 h
  refine eN (sw_condT R (sw_seq (qG (q_movD R (r_notF R R R (eN (sw_condT R (qG (r_ldG tb R R R R R R R R R (q_stE _ _ tb R (q_asgD R (eN (sw_ret (then_ret (then_ret ?_)))))))))))))))
  obtain rfl := sI h
  exact f2 [0, 1, 2] (.row R (.row R (.row R .nil))) R (.cons (rc tb R) (.cons (.tmp 7) .nil)) R
 intro c13
 replace h := ifN c13 h
 refine eN (sw_condF R (sw_skip (then_norm (sw_seq (qG (q_fa tb R (q_ldD (y := vI a.kind) tb R ?_)))))))
 refine r_eql R R R R ?_ ?_
 ·intro c14
  replace h := ifP c14 h
  refine eN (sw_condT R (sw_seq (qG (q_movD R (r_notF R R R (eN (sw_condT R (qG (r_ldG tb R R R R R R R R R (q_stE _ _ tb R (q_asgD R (eN (sw_ret (then_ret (then_ret ?_)))))))))))))))
  obtain rfl := sI h
  exact f2 [0, 1, 2] (.row R (.row R (.row R .nil))) R (.cons (rc tb R) (.cons (.tmp 7) .nil)) R
 intro c14
 replace h := ifN c14 h
 refine eN (sw_condF R (sw_skip (then_norm (sw_seq (sw_seq (sw_dr (by kernel_rfl) (q_fa tb R (r_ldW tb R R R R R R R R R (q_fa tb R (q_ldD (y := vI a.what) tb R ?_))))))))))
 obtain ⟨e9, ie9, h⟩ := bnd h
 refine r_ixI tb R R R R R R (ix0 ie9) (ix1 ie9) R R ?_
 refine r_ldD (y := vI e9) tb R R R R (ix2 (g := fun a => T.d (vI a)) ie9) R R R R ?_
 refine q_fa tb R (q_ldD (y := vI a.who) tb R ?_)
 refine r_neq R R R R ?_ ?_
 ·intro c15
  replace h := ifN c15 h
  refine ev_endD (by kernel_rfl) (then_norm (sw_condT R (qG (r_ldG tb R R R R R R R R R (q_stE _ _ tb R (q_asgD R (eN (sw_ret (then_ret ?_)))))))))
  obtain rfl := sI h
  exact f2 [0, 1, 2] (.row R (.row R (.row R .nil))) R (.cons (rc tb R) (.cons (.tmp 7) .nil)) R
 intro c15
 replace h := ifP c15 h
 refine ev_endD (by kernel_rfl) (then_norm (sw_condF R (sw_skip (then_norm (sw_seq (sw_seq (sw_dr (by kernel_rfl) (q_fa tb R (r_ldW tb R R R R R R R R R (q_fa tb R (q_ldD (y := vI a.with_) tb R ?_)))))))))))
 obtain ⟨e10, ie10, h⟩ := bnd h
 refine r_ixI tb R R R R R R (ix0 ie10) (ix1 ie10) R R ?_
 refine r_ldD (y := vI e10) tb R R R R (ix2 (g := fun a => T.d (vI a)) ie10) R R R R ?_
 refine q_fa tb R (r_ldW tb R R R R R R R R R (q_fa tb R (q_ldD (y := vI a.who) tb R (r_ixI tb R R R R R R (ix0 ie) (ix1 ie) R R ?_))))
 refine r_ldD (y := vI e) tb R R R R (ix2 (g := fun a => T.d (vI a)) ie) R R R R ?_
 refine r_neq R R R R ?_ ?_
 ·intro c16
  replace h := ifN c16 h
  refine ev_endD (by kernel_rfl) (then_norm (sw_condT R (qG (r_ldG tb R R R R R R R R R (q_stE _ _ tb R (q_asgD R (eN (sw_ret (then_ret ?_)))))))))
  obtain rfl := sI h
  exact f2 [0, 1, 2] (.row R (.row R (.row R .nil))) R (.cons (rc tb R) (.cons (.tmp 7) .nil)) R
 intro c16
 replace h := ifP c16 h
 refine ev_endD (by kernel_rfl) (then_norm (sw_condF R (sw_skip (then_norm (qG (q_fa tb R (r_ldW tb R R R R R R R R R (q_fa tb R (q_ldD (y := vI a.what) tb R (q_fa tb R (q_ldD (y := vI a.with_) tb R (r_ixI tb R R R R R R (ix0 ie9) (ix1 ie9) R R ?_))))))))))))
 obtain ⟨q4, iq4, h⟩ := bnd h
 refine r_stQ (a' := (a.with_ : Int)) tb R R R R ie9 R R R R iq4 R R ?_
 dsimp only [List.set_cons_zero, List.set_cons_succ, PdState_T1]
 first | rw [set_len iq4] | skip
 refine eN (sw_seq (sw_seq (sw_dr (by kernel_rfl) (q_ldD (y := PdPad.d t) tb R (r_ldG tb R R R R R R R R R (q_fa tb R (q_ldD (y := vI a.who) tb R (q_fa tb R (r_ldW tb R R R R R R R R R (q_fa tb R (q_ldD (y := vI a.who) tb R (r_ixI tb R R R R R R (ix0 ie) (ix1 ie) R R ?_))))))))))))
 refine r_ldD (y := vI e) tb R R R R (ix2 (g := fun a => T.d (vI a)) ie) R R R R ?_
 obtain ⟨rv2, hrv2, h⟩ := bnd h
 refine r_callLB (r7_keyed_pc hrv2) (.of (by kernel_rfl)) R R ((.cons (.d _) (.cons (.aggL (.cons (.d _) (.cons (.row R R) (.cons (.row R R) (.cons (.row R R) (.cons (.d _) (.cons (.d _) .nil))))))) (.cons (.d _) (.cons (.d _) .nil))))) R R ?_ ?_
 ·intro c17
  replace h := ifP c17 h
  refine r_notT R R R (ev_endD (by kernel_rfl) (then_norm (sw_condF R (sw_skip (then_norm (qG (r_ldG tb R R R R R R R R R (q_stE _ _ tb R (q_asgD R (eN (sw_ret ?_)))))))))))
  obtain rfl := sI h
  exact f2 [0, 1, 2] (.row R (.row R (.row R .nil))) R (.cons (rc tb R) (.cons (.tmp 7) .nil)) R
 intro c17
 replace h := ifF c17 h
 refine r_notF R R R (ev_endD (by kernel_rfl) (then_norm (sw_condT R (qG (r_ldG tb R R R R R R R R R (q_stE _ _ tb R (q_asgD R (eN (sw_ret (then_ret ?_))))))))))
 obtain rfl := sI h
 exact f2 [0, 1, 2] (.row R (.row R (.row R .nil))) R (.cons (rc tb R) (.cons (.tmp 7) .nil)) R
end Go.Proofs.YthcnganbnbhhoaaGreat
