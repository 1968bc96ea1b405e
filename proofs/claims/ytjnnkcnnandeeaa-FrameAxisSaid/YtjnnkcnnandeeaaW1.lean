/- What functions of the program compute: plain functions, and the proofs. -/
import Derived.Test.YtjnnkcnnandeeaaW0
import Derived.Test.YtjnnkcnnandeeaaWAwake
set_option linter.unusedVariables false
set_option linter.unusedSimpArgs false
open Go Go.Proofs.Ytjnnkcnnandeeaa.Sh Go.Proofs
namespace Go.Proofs.Ytjnnkcnnandeeaa
set_option maxRecDepth 100000
set_option maxHeartbeats 40000000
def wind_out (F : Nat) (nv : Int) (lo : Int) (hi : Int) : Option Bool := if nv < lo then (some true) else (some (decide (hi < nv)))
theorem wind_out_pc {F : Nat} {nv : Int} {lo : Int} {hi : Int} {r : Bool} (h : wind_out F nv lo hi = some r) : PC Try.prog 105 [.v (.int .i64 nv), .v (.int .i64 lo), .v (.int .i64 hi)] (.v (.bool r)) := by
 rw [wind_out] at h
 refine SC.of_sw Try.func105 R R R ?_
 dsimp only [argS, List.map]
 refine qG (q_asgD R (eN (qG (q_movD R (q_movD R ?_)))))
 refine r_lss R R R R ?_ ?_
 ·intro c
  replace h := ifP c h
  refine q_movD R (q_sk 3 R (q_pickT R (q_asgD R (eN (sw_ret ?_)))))
  obtain rfl := sI h
  exact f1 6 R
 intro c
 replace h := ifN (Int.not_lt.2 c) h
 refine q_movD R (q_movD R (q_movD R (r_gtrV R R R R (q_pickF R (q_asgD R (eN (sw_ret ?_)))))))
 obtain rfl := sI h
 exact f1 6 R
def wind_Name_L1 (F : Nat) (s : ByteArray) (K : Int → Option Bool) : Nat → Int → Option Bool
 | 0, _ => none
 | n + 1, x => if x < ((bytesL s).length : Int) then (Option.bind (ixO (bytesL s) x) fun e => if 97 ≤ e then (if e ≤ 122 then (wind_Name_L1 F s K n (W (x + 1))) else (if x = 0 then (some false) else (if e = 45 then (wind_Name_L1 F s K n (W (x + 1))) else (if 48 ≤ e then (if e ≤ 57 then (wind_Name_L1 F s K n (W (x + 1))) else (some false)) else (some false))))) else (if x = 0 then (some false) else (if e = 45 then (wind_Name_L1 F s K n (W (x + 1))) else (if 48 ≤ e then (if e ≤ 57 then (wind_Name_L1 F s K n (W (x + 1))) else (some false)) else (some false))))) else (K x)
def wind_Name (F : Nat) (s : ByteArray) : Option Bool := wind_Name_L1 F s (fun (x : Int) => Option.bind (wind_out F (s.size : Int) 1 24) fun rv => some (!rv)) F 0
theorem wind_Name_pc {F : Nat} {s : ByteArray} {r : Bool} (h : wind_Name F s = some r) : PC Try.prog 74 [.v (.string s)] (.v (.bool r)) := by
 rw [wind_Name] at h
 refine SC.of_sw Try.func74 R R R ?_
 dsimp only [argS, List.map]
 refine qG (q_asgD R (eN (sw_seq (qG (q_movD R (r_bytes R R R R R R (q_lenM tb R (q_movD R (eN (sw_block ?_))))))))))
 obtain ⟨K2, hK2, h⟩ : ∃ K, K = _ ∧ wind_Name_L1 F s K F 0 = some r := ⟨_, rfl, h⟩
 refine sw_loopS (fun m st => ∃ (x : Int), wind_Name_L1 F s K2 m x = some r ∧ st = ⟨[(0, .d (.v (.string s))), (2, .d (.v (.bool false))), (6, .d (.arr 1 (((bytesL s)).map v8))), (7, .d (vI ((bytesL s).length : Int))), (8, .d (vI x))], []⟩) (.prn [0, 2, 6, 7, 8] R) ⟨0, h, R⟩ ?_
 clear h
 rintro m2 st ⟨x, h, rfl⟩
 cases m2 with
 | zero => cases (show (none : Option Bool) = some r from h)
 | succ m2 =>
 rw [wind_Name_L1] at h
 refine qG ?_
 refine r_lss R R R R ?_ ?_
 ·intro c
  replace h := ifP c h
  refine eN (sw_seq (sw_condT R (sw_skip (then_norm (sw_seq (sw_block (qG (q_movD R ?_))))))))
  obtain ⟨e, ie, h⟩ := bnd h
  refine q_ixE tb (ix0 ie) (ix1m ie) R (q_ldE (y := .v (.int .u8 e)) tb (ix2 (g := v8) ie) R (q_asgD R (q_asgD R (eN (qG (q_movD R ?_))))))
  refine r_geq R R R R ?_ ?_
  ·intro c2
   replace h := ifP c2 h
   refine q_movD R (q_movD R ?_)
   refine r_leq R R R R ?_ ?_
   ·intro c3
    replace h := ifP c3 h
    refine q_pickT R (r_notT R R R (q_movD R (q_sk 15 R (q_pickF R (eN (sw_condF R (sw_skip (block_norm (then_norm (sw_rg (q_add R (q_movD R (eN ?_)))))))))))))
    exact ⟨m2, _, Nat.lt_succ_self _, .prn [0, 2, 6, 7, 8] R, (W (x + 1)), h, R⟩
   intro c3
   replace h := ifN (Int.not_le.2 c3) h
   refine q_pickT R (r_notF R R R (q_movD R (q_movD R ?_)))
   refine r_eql R R R R ?_ ?_
   ·intro c4
    replace h := ifP c4 h
    refine q_movD R (q_sk 11 R (q_pickT R (q_pickT R (eN (sw_condT R (qG (q_asgD R (eN (sw_ret (block_ret (then_ret (then_ret (block_ret (then_ret ?_))))))))))))))
    obtain rfl := sI h
    exact f1 2 R
   intro c4
   replace h := ifN c4 h
   refine q_movD R (q_movD R ?_)
   refine r_neq R R R R ?_ ?_
   ·intro c5
    replace h := ifN c5 h
    refine q_movD R (q_movD R ?_)
    refine r_geq R R R R ?_ ?_
    ·intro c6
     replace h := ifP c6 h
     refine q_movD R (q_movD R ?_)
     refine r_leq R R R R ?_ ?_
     ·intro c7
      replace h := ifP c7 h
      refine q_pickT R (r_notT R R R (q_pickT R (q_pickF R (q_pickT R (eN (sw_condF R (sw_skip (block_norm (then_norm (sw_rg (q_add R (q_movD R (eN ?_)))))))))))))
      exact ⟨m2, _, Nat.lt_succ_self _, .prn [0, 2, 6, 7, 8] R, (W (x + 1)), h, R⟩
     intro c7
     replace h := ifN (Int.not_le.2 c7) h
     refine q_pickT R (r_notF R R R (q_pickT R (q_pickF R (q_pickT R (eN (sw_condT R (qG (q_asgD R (eN (sw_ret (block_ret (then_ret (then_ret (block_ret (then_ret ?_)))))))))))))))
     obtain rfl := sI h
     exact f1 2 R
    intro c6
    replace h := ifN (Int.not_le.2 c6) h
    refine q_movD R (q_sk 2 R (q_pickF R (r_notF R R R (q_pickT R (q_pickF R (q_pickT R (eN (sw_condT R (qG (q_asgD R (eN (sw_ret (block_ret (then_ret (then_ret (block_ret (then_ret ?_)))))))))))))))))
    obtain rfl := sI h
    exact f1 2 R
   intro c5
   replace h := ifP c5 h
   refine q_movD R (q_sk 7 R (q_pickF R (q_pickF R (q_pickT R (eN (sw_condF R (sw_skip (block_norm (then_norm (sw_rg (q_add R (q_movD R (eN ?_)))))))))))))
   exact ⟨m2, _, Nat.lt_succ_self _, .prn [0, 2, 6, 7, 8] R, (W (x + 1)), h, R⟩
  intro c2
  replace h := ifN (Int.not_le.2 c2) h
  refine q_movD R (q_sk 2 R (q_pickF R (r_notF R R R (q_movD R (q_movD R ?_)))))
  refine r_eql R R R R ?_ ?_
  ·intro c8
   replace h := ifP c8 h
   refine q_movD R (q_sk 11 R (q_pickT R (q_pickT R (eN (sw_condT R (qG (q_asgD R (eN (sw_ret (block_ret (then_ret (then_ret (block_ret (then_ret ?_))))))))))))))
   obtain rfl := sI h
   exact f1 2 R
  intro c8
  replace h := ifN c8 h
  refine q_movD R (q_movD R ?_)
  refine r_neq R R R R ?_ ?_
  ·intro c9
   replace h := ifN c9 h
   refine q_movD R (q_movD R ?_)
   refine r_geq R R R R ?_ ?_
   ·intro c10
    replace h := ifP c10 h
    refine q_movD R (q_movD R ?_)
    refine r_leq R R R R ?_ ?_
    ·intro c11
     replace h := ifP c11 h
     refine q_pickT R (r_notT R R R (q_pickT R (q_pickF R (q_pickT R (eN (sw_condF R (sw_skip (block_norm (then_norm (sw_rg (q_add R (q_movD R (eN ?_)))))))))))))
     exact ⟨m2, _, Nat.lt_succ_self _, .prn [0, 2, 6, 7, 8] R, (W (x + 1)), h, R⟩
    intro c11
    replace h := ifN (Int.not_le.2 c11) h
    refine q_pickT R (r_notF R R R (q_pickT R (q_pickF R (q_pickT R (eN (sw_condT R (qG (q_asgD R (eN (sw_ret (block_ret (then_ret (then_ret (block_ret (then_ret ?_)))))))))))))))
    obtain rfl := sI h
    exact f1 2 R
   intro c10
   replace h := ifN (Int.not_le.2 c10) h
   refine q_movD R (q_sk 2 R (q_pickF R (r_notF R R R (q_pickT R (q_pickF R (q_pickT R (eN (sw_condT R (qG (q_asgD R (eN (sw_ret (block_ret (then_ret (then_ret (block_ret (then_ret ?_)))))))))))))))))
   obtain rfl := sI h
   exact f1 2 R
  intro c9
  replace h := ifP c9 h
  refine q_movD R (q_sk 7 R (q_pickF R (q_pickF R (q_pickT R (eN (sw_condF R (sw_skip (block_norm (then_norm (sw_rg (q_add R (q_movD R (eN ?_)))))))))))))
  exact ⟨m2, _, Nat.lt_succ_self _, .prn [0, 2, 6, 7, 8] R, (W (x + 1)), h, R⟩
 intro c
 replace h := ifN (Int.not_lt.2 c) h
 refine eN (sw_seq (sw_condF R (sw_exit (then_exit (then_exit ?_)))))
 subst hK2
 refine block_exit (then_norm (qG (q_movD R (r_lenS R R R R ?_))))
 obtain ⟨rv, hrv, h⟩ := bnd h
 refine r_call (wind_out_pc hrv) (.of (by kernel_rfl)) R R R R (r_not R R R (q_asgD R (eN (sw_ret ?_))))
 obtain rfl := sI h
 exact f1 2 R
def frame_out_int (F : Nat) (nv : Int) (lo : Int) (hi : Int) : Option Bool := if nv < lo then (some true) else (some (decide (hi < nv)))
theorem frame_out_int_pc {F : Nat} {nv : Int} {lo : Int} {hi : Int} {r : Bool} (h : frame_out_int F nv lo hi = some r) : PC Try.prog 69 [.v (.int .i64 nv), .v (.int .i64 lo), .v (.int .i64 hi)] (.v (.bool r)) := by
 rw [frame_out_int] at h
 refine SC.of_sw Try.func69 R R R ?_
 dsimp only [argS, List.map]
 refine qG (q_asgD R (eN (qG (q_movD R (q_movD R ?_)))))
 refine r_lss R R R R ?_ ?_
 ·intro c
  replace h := ifP c h
  refine q_movD R (q_sk 3 R (q_pickT R (q_asgD R (eN (sw_ret ?_)))))
  obtain rfl := sI h
  exact f1 6 R
 intro c
 replace h := ifN (Int.not_lt.2 c) h
 refine q_movD R (q_movD R (q_movD R (r_gtrV R R R R (q_pickF R (q_asgD R (eN (sw_ret ?_)))))))
 obtain rfl := sI h
 exact f1 6 R
def frame_bad_1 (F : Nat) (nv : Int) : Option Bool := Option.bind (frame_out_int F nv 0 65535) fun rv => some rv
theorem frame_bad_1_pc {F : Nat} {nv : Int} {r : Bool} (h : frame_bad_1 F nv = some r) : PC Try.prog 101 [.v (.int .i64 nv)] (.v (.bool r)) := by
 rw [frame_bad_1] at h
 refine SC.of_sw Try.func101 R R R ?_
 dsimp only [argS, List.map]
 refine qG (q_asgD R (eN (qG (q_movD R ?_))))
 obtain ⟨rv, hrv, h⟩ := bnd h
 refine r_call (frame_out_int_pc hrv) (.of (by kernel_rfl)) R R R R (q_asgD R (eN (sw_ret ?_)))
 obtain rfl := sI h
 exact f1 2 R
def slices_IndexFunc_int_L1 (F : Nat) (s : (List Int)) (f : (Int → Option Bool)) (K : Int → Option Int) : Nat → Int → Option Int
 | 0, _ => none
 | n + 1, x => if x < (s.length : Int) then (Option.bind (ixO s x) fun e => Option.bind (f e) fun rv => if rv = true then (some x) else (slices_IndexFunc_int_L1 F s f K n (W (x + 1)))) else (K x)
def slices_IndexFunc_int (F : Nat) (s : (List Int)) (f : (Int → Option Bool)) : Option Int := slices_IndexFunc_int_L1 F s f (fun (x : Int) => some (-1)) F 0
theorem slices_IndexFunc_int_scr {F : Nat} {s : (List Int)} {f : (Int → Option Bool)} {r : Int} {fi : Nat} {fc : List D} (fh : ∀ {a0 : Int} {r : Bool}, f a0 = some r → PC Try.prog fi ([.v (.int .i64 a0)] ++ fc) (.v (.bool r))) (fe : Ent Try.prog fi) (h : slices_IndexFunc_int F s f = some r) : SCR Try.prog 108 [.d (.arr 1 ((s).map vI)), .fn (.func fi) [] (fc.map .d)] [] (.d (.v (.int .i64 r))) (List.map some []) := by
 rw [slices_IndexFunc_int] at h
 refine SC.of_sw Try.func108 R R R ?_
 dsimp only [argS, List.map]
 refine qG (q_asgD R (eN (sw_seq (qG (q_movD R (q_lenM tb R (q_movD R (eN (sw_block ?_)))))))))
 obtain ⟨K2, hK2, h⟩ : ∃ K, K = _ ∧ slices_IndexFunc_int_L1 F s f K F 0 = some r := ⟨_, rfl, h⟩
 refine sw_loopS (fun m st => ∃ (x : Int), slices_IndexFunc_int_L1 F s f K2 m x = some r ∧ st = ⟨[(0, .d (.arr 1 ((s).map vI))), (1, .fn (.func fi) [] (fc.map .d)), (4, .d (vI 0)), (7, .d (vI (s.length : Int))), (8, .d (vI x))], []⟩) (.prn [0, 1, 4, 7, 8] R) ⟨0, h, R⟩ ?_
 clear h
 rintro m2 st ⟨x, h, rfl⟩
 cases m2 with
 | zero => cases (show (none : Option Int) = some r from h)
 | succ m2 =>
 rw [slices_IndexFunc_int_L1] at h
 refine qG ?_
 refine r_lss R R R R ?_ ?_
 ·intro c
  replace h := ifP c h
  refine eN (sw_seq (sw_condT R (sw_skip (then_norm (sw_seq (sw_block (qG (q_movD R (q_asgD R (eN (qG (r_movF R R R (q_movD R (q_movD R ?_))))))))))))))
  obtain ⟨e, ie, h⟩ := bnd h
  refine q_ixE tb (ix0 ie) (ix1m ie) R (q_ldE (y := vI e) tb (ix2 (g := vI) ie) R ?_)
  obtain ⟨rv, hrv, h⟩ := bnd h
  refine r_callH (vs := [vI e]) (fh hrv) fe R R R R ?_
  with_reducible apply ev_lit
  ·intro c2
   replace h := ifP c2 h
   refine eN (sw_condT R (qG (q_movD R (q_asgD R (eN (sw_ret (block_ret (then_ret (then_ret (block_ret (then_ret ?_)))))))))))
   obtain rfl := sI h
   exact f1 4 R
  intro c2
  replace h := ifF c2 h
  refine eN (sw_condF R (sw_skip (block_norm (then_norm (sw_rg (q_add R (q_movD R (eN ?_))))))))
  exact ⟨m2, _, Nat.lt_succ_self _, .prn [0, 1, 4, 7, 8] R, (W (x + 1)), h, R⟩
 intro c
 replace h := ifN (Int.not_lt.2 c) h
 refine eN (sw_seq (sw_condF R (sw_exit (then_exit (then_exit ?_)))))
 subst hK2
 refine block_exit (then_norm (qG (q_asgD R (eN (sw_ret ?_)))))
 obtain rfl := sI h
 exact f1 4 R
def slices_ContainsFunc_int (F : Nat) (s : (List Int)) (f : (Int → Option Bool)) : Option Bool := Option.bind (slices_IndexFunc_int F s f) fun rv => some (decide (0 ≤ rv))
theorem slices_ContainsFunc_int_scr {F : Nat} {s : (List Int)} {f : (Int → Option Bool)} {r : Bool} {fi : Nat} {fc : List D} (fh : ∀ {a0 : Int} {r : Bool}, f a0 = some r → PC Try.prog fi ([.v (.int .i64 a0)] ++ fc) (.v (.bool r))) (fe : Ent Try.prog fi) (h : slices_ContainsFunc_int F s f = some r) : SCR Try.prog 81 [.d (.arr 1 ((s).map vI)), .fn (.func fi) [] (fc.map .d)] [] (.d (.v (.bool r))) (List.map some []) := by
 rw [slices_ContainsFunc_int] at h
 refine SC.of_sw Try.func81 R R R ?_
 dsimp only [argS, List.map]
 refine qG (q_asgD R (eN (qG (q_movD R (r_movF R R R ?_)))))
 obtain ⟨rv, hrv, h⟩ := bnd h
 refine r_callX (t' := .d (vI rv)) (news' := []) (slices_IndexFunc_int_scr (f := f) (fh := fh) (fe := fe) hrv) R .nil (.of (by kernel_rfl)) R R ((.cons (.d (.d _)) (.cons .hof .nil))) R .nil R R R ?_
 simp only [List.map_nil, List.append_nil]
 refine r_geqV R R R R (q_asgD R (eN (sw_ret ?_)))
 obtain rfl := sI h
 exact f1 4 R
def frame_bad (F : Nat) (lv : (List Int)) : Option Bool := Option.bind (slices_ContainsFunc_int F lv (fun a0 => frame_bad_1 F a0)) fun rv => some rv
theorem frame_bad_pc {F : Nat} {lv : (List Int)} {r : Bool} (h : frame_bad F lv = some r) : PC Try.prog 57 [.arr 1 ((lv).map vI)] (.v (.bool r)) := by
 rw [frame_bad] at h
 refine SC.of_sw Try.func57 R R R ?_
 dsimp only [argS, List.map]
 refine qG (q_asgD R (eN (qG (q_movD R ?_))))
 obtain ⟨rv, hrv, h⟩ := bnd h
 refine r_callX (t' := .d (.v (.bool rv))) (news' := []) (slices_ContainsFunc_int_scr (f := (fun a0 => frame_bad_1 F a0)) (fc := []) (fh := fun hr => frame_bad_1_pc hr) (fe := .of (by kernel_rfl)) hrv) R .nil (.of (by kernel_rfl)) R R ((.cons (.d (.d _)) (.cons .fnc .nil))) R .nil R R R ?_
 simp only [List.map_nil, List.append_nil]
 refine q_asgD R (eN (sw_ret ?_))
 obtain rfl := sI h
 exact f1 2 R
def frame_in (F : Nat) (c : FrChannel) (nv : Int) : Option Bool := if c.every = 0 then none else (some (decide ((Int.tmod nv c.every) = c.phase)))
theorem frame_in_pc {F : Nat} {c : FrChannel} {nv : Int} {r : Bool} (h : frame_in F c nv = some r) : PC Try.prog 58 [FrChannel.d c, .v (.int .i64 nv)] (.v (.bool r)) := by
 rw [frame_in] at h
 refine SC.of_sw Try.func58 R R R ?_
 dsimp only [argS, List.map]
 refine qG (q_box R (q_asgD R (eN (sw_seq (sw_dr (by kernel_rfl) (q_movD R (q_fa tb R (q_ldD (y := vI c.every) tb R ?_))))))))
 by_cases c2 : c.every = 0
 ·cases (if_pos c2).symm.trans h
 replace h := ifN c2 h
 refine r_rem R R c2 R R (q_fa tb R (q_ldD (y := vI c.phase) tb R (r_eqlV R R R R (q_asgD R (ev_endD (by kernel_rfl) (then_norm (sw_ret ?_)))))))
 obtain rfl := sI h
 exact f1 4 R
def frame_meet (F : Nat) (a : FrChannel) (b : FrChannel) : Option Bool := if a.word = b.word then (if (min a.every b.every) = 0 then none else (some (decide ((Int.tmod a.phase (min a.every b.every)) = (Int.tmod b.phase (min a.every b.every)))))) else (some false)
theorem frame_meet_pc {F : Nat} {a : FrChannel} {b : FrChannel} {r : Bool} (h : frame_meet F a b = some r) : PC Try.prog 78 [FrChannel.d a, FrChannel.d b] (.v (.bool r)) := by
 rw [frame_meet] at h
 refine SC.of_sw Try.func78 R R R ?_
 dsimp only [argS, List.map]
 refine qG (q_box R (q_box R (q_asgD R (eN (qG (q_fa tb R (q_ldD (y := vI a.every) tb R (q_fa tb R (q_ldD (y := vI b.every) tb R (r_min2 R R R R (q_asgD R (eN (sw_seq (sw_dr (by kernel_rfl) (q_fa tb R (q_ldD (y := vI a.word) tb R (q_fa tb R (q_ldD (y := vI b.word) tb R ?_))))))))))))))))))
 refine r_eql R R R R ?_ ?_
 ·intro c
  replace h := ifP c h
  refine q_movD R (q_fa tb R (q_ldD (y := vI a.phase) tb R (q_movD R ?_)))
  by_cases c2 : (min a.every b.every) = 0
  ·cases (if_pos c2).symm.trans h
  replace h := ifN c2 h
  refine r_rem R R c2 R R (q_fa tb R (q_ldD (y := vI b.phase) tb R (q_movD R (r_rem R R c2 R R (r_eqlV R R R R (q_pickT R (q_asgD R (ev_endD (by kernel_rfl) (then_norm (sw_ret ?_))))))))))
  obtain rfl := sI h
  exact f1 4 R
 intro c
 replace h := ifN c h
 refine q_movD R (q_sk 9 R (q_pickF R (q_asgD R (ev_endD (by kernel_rfl) (then_norm (sw_ret ?_))))))
 obtain rfl := sI h
 exact f1 4 R
def frame_Check_1 (F : Nat) (d : FrChannel) (c : FrChannel) : Option Bool := if d.name.toList = c.name.toList then (some true) else (some false)
theorem frame_Check_1_pc {F : Nat} {d : FrChannel} {c : FrChannel} {r : Bool} (h : frame_Check_1 F d c = some r) : PC Try.prog 76 [FrChannel.d d, .el 4 (([c]).map FrChannel.d) ((0 : Int)).toNat 0] (.v (.bool r)) := by
 rw [frame_Check_1] at h
 refine SC.of_sw Try.func76 R R R ?_
 dsimp only [argS, List.map]
 refine qG (q_box R (q_asgD R (eN (qG (q_fa tb R (q_ldD (y := .v (.string d.name)) tb R (q_faE tb R (q_ldE (y := .v (.string c.name)) tb (ix2 (g := FrChannel.d) (R : ixO [c] 0 = some c)) R ?_))))))))
 refine r_streql R R R R ?_ ?_
 ·intro c2
  replace h := ifP c2 h
  refine q_asgD R (eN (sw_ret ?_))
  obtain rfl := sI h
  exact f1 3 R
 intro c2
 replace h := ifN c2 h
 refine q_asgD R (eN (sw_ret ?_))
 obtain rfl := sI h
 exact f1 3 R
def frame_Check_2 (F : Nat) (d : FrChannel) (c : FrChannel) : Option Bool := Option.bind (frame_meet F c d) fun rv => some rv
theorem frame_Check_2_pc {F : Nat} {d : FrChannel} {c : FrChannel} {r : Bool} (h : frame_Check_2 F d c = some r) : PC Try.prog 77 [FrChannel.d d, .el 4 (([c]).map FrChannel.d) ((0 : Int)).toNat 0] (.v (.bool r)) := by
 rw [frame_Check_2] at h
 refine SC.of_sw Try.func77 R R R ?_
 dsimp only [argS, List.map]
 refine qG (q_box R (q_asgD R (eN (qG (q_ldE (y := FrChannel.d c) tb (ix2 (g := FrChannel.d) (R : ixO [c] 0 = some c)) R (q_ldD (y := FrChannel.d d) tb R ?_))))))
 obtain ⟨rv, hrv, h⟩ := bnd h
 refine r_call (frame_meet_pc hrv) (.of (by kernel_rfl)) R R R R (q_asgD R (eN (sw_ret ?_)))
 obtain rfl := sI h
 exact f1 3 R
def slices_IndexFunc_FrChannel_L1 (F : Nat) (s : (List FrChannel)) (f : (FrChannel → Option Bool)) (K : Int → Option Int) : Nat → Int → Option Int
 | 0, _ => none
 | n + 1, x => if x < (s.length : Int) then (Option.bind (ixO s x) fun e => Option.bind (f e) fun rv => if rv = true then (some x) else (slices_IndexFunc_FrChannel_L1 F s f K n (W (x + 1)))) else (K x)
def slices_IndexFunc_FrChannel (F : Nat) (s : (List FrChannel)) (f : (FrChannel → Option Bool)) : Option Int := slices_IndexFunc_FrChannel_L1 F s f (fun (x : Int) => some (-1)) F 0
theorem slices_IndexFunc_FrChannel_scr {F : Nat} {s : (List FrChannel)} {f : (FrChannel → Option Bool)} {r : Int} {fi : Nat} {fc : List D} (fh : ∀ {a0 : FrChannel} {r : Bool}, f a0 = some r → PC Try.prog fi ([FrChannel.d a0] ++ fc) (.v (.bool r))) (fe : Ent Try.prog fi) (h : slices_IndexFunc_FrChannel F s f = some r) : SCR Try.prog 106 [.d (.arr 4 ((s).map FrChannel.d)), .fn (.func fi) [] (fc.map .d)] [] (.d (.v (.int .i64 r))) (List.map some []) := by
 rw [slices_IndexFunc_FrChannel] at h
 refine SC.of_sw Try.func106 R R R ?_
 dsimp only [argS, List.map]
 refine qG (q_asgD R (eN (sw_seq (qG (q_movD R (q_lenM tb R (q_movD R (eN (sw_block ?_)))))))))
 obtain ⟨K2, hK2, h⟩ : ∃ K, K = _ ∧ slices_IndexFunc_FrChannel_L1 F s f K F 0 = some r := ⟨_, rfl, h⟩
 refine sw_loopS (fun m st => ∃ (x : Int), slices_IndexFunc_FrChannel_L1 F s f K2 m x = some r ∧ st = ⟨[(0, .d (.arr 4 ((s).map FrChannel.d))), (1, .fn (.func fi) [] (fc.map .d)), (4, .d (vI 0)), (7, .d (vI (s.length : Int))), (8, .d (vI x))], []⟩) (.prn [0, 1, 4, 7, 8] R) ⟨0, h, R⟩ ?_
 clear h
 rintro m2 st ⟨x, h, rfl⟩
 cases m2 with
 | zero => cases (show (none : Option Int) = some r from h)
 | succ m2 =>
 rw [slices_IndexFunc_FrChannel_L1] at h
 refine qG ?_
 refine r_lss R R R R ?_ ?_
 ·intro c
  replace h := ifP c h
  refine eN (sw_seq (sw_condT R (sw_skip (then_norm (sw_seq (sw_block (qG (q_movD R (q_asgD R (eN (qG (r_movF R R R (q_movD R (q_movD R ?_))))))))))))))
  obtain ⟨e, ie, h⟩ := bnd h
  refine q_ixE tb (ix0 ie) (ix1m ie) R (q_ldE (y := FrChannel.d e) tb (ix2 (g := FrChannel.d) ie) R ?_)
  obtain ⟨rv, hrv, h⟩ := bnd h
  refine r_callH (vs := [FrChannel.d e]) (fh hrv) fe R R R R ?_
  with_reducible apply ev_lit
  ·intro c2
   replace h := ifP c2 h
   refine eN (sw_condT R (qG (q_movD R (q_asgD R (eN (sw_ret (block_ret (then_ret (then_ret (block_ret (then_ret ?_)))))))))))
   obtain rfl := sI h
   exact f1 4 R
  intro c2
  replace h := ifF c2 h
  refine eN (sw_condF R (sw_skip (block_norm (then_norm (sw_rg (q_add R (q_movD R (eN ?_))))))))
  exact ⟨m2, _, Nat.lt_succ_self _, .prn [0, 1, 4, 7, 8] R, (W (x + 1)), h, R⟩
 intro c
 replace h := ifN (Int.not_lt.2 c) h
 refine eN (sw_seq (sw_condF R (sw_exit (then_exit (then_exit ?_)))))
 subst hK2
 refine block_exit (then_norm (qG (q_asgD R (eN (sw_ret ?_)))))
 obtain rfl := sI h
 exact f1 4 R
def slices_ContainsFunc_FrChannel (F : Nat) (s : (List FrChannel)) (f : (FrChannel → Option Bool)) : Option Bool := Option.bind (slices_IndexFunc_FrChannel F s f) fun rv => some (decide (0 ≤ rv))
theorem slices_ContainsFunc_FrChannel_scr {F : Nat} {s : (List FrChannel)} {f : (FrChannel → Option Bool)} {r : Bool} {fi : Nat} {fc : List D} (fh : ∀ {a0 : FrChannel} {r : Bool}, f a0 = some r → PC Try.prog fi ([FrChannel.d a0] ++ fc) (.v (.bool r))) (fe : Ent Try.prog fi) (h : slices_ContainsFunc_FrChannel F s f = some r) : SCR Try.prog 75 [.d (.arr 4 ((s).map FrChannel.d)), .fn (.func fi) [] (fc.map .d)] [] (.d (.v (.bool r))) (List.map some []) := by
 rw [slices_ContainsFunc_FrChannel] at h
 refine SC.of_sw Try.func75 R R R ?_
 dsimp only [argS, List.map]
 refine qG (q_asgD R (eN (qG (q_movD R (r_movF R R R ?_)))))
 obtain ⟨rv, hrv, h⟩ := bnd h
 refine r_callX (t' := .d (vI rv)) (news' := []) (slices_IndexFunc_FrChannel_scr (f := f) (fh := fh) (fe := fe) hrv) R .nil (.of (by kernel_rfl)) R R ((.cons (.d (.d _)) (.cons .hof .nil))) R .nil R R R ?_
 simp only [List.map_nil, List.append_nil]
 refine r_geqV R R R R (q_asgD R (eN (sw_ret ?_)))
 obtain rfl := sI h
 exact f1 4 R
def frame_Check_L1 (F : Nat) (t : FrFormat) (K : Int → Option (Int × Int × Int)) : Nat → Int → Option (Int × Int × Int)
 | 0, _ => none
 | n + 1, x => if x < (t.channels.length : Int) then (Option.bind (ixO t.channels x) fun e => Option.bind (cutO t.channels 0 x) fun q => Option.bind (wind_Name F e.name) fun rv4 => if rv4 = true then (Option.bind (slices_ContainsFunc_FrChannel F q (fun a0 => frame_Check_1 F a0 e)) fun rv5 => if rv5 = true then (some (2, x, 5)) else (Option.bind (frame_out_int F e.word 0 (W (t.words - 1))) fun rv6 => if rv6 = true then (some (2, x, 7)) else (if e.every < 1 then (some (2, x, 7)) else (if e.every = 0 then none else (if (Int.tmod t.depth e.every) = 0 then (Option.bind (frame_out_int F e.phase 0 (W (e.every - 1))) fun rv7 => if rv7 = true then (some (2, x, 7)) else (Option.bind (slices_ContainsFunc_FrChannel F q (fun a0 => frame_Check_2 F a0 e)) fun rv8 => if rv8 = true then (some (2, x, 2)) else (frame_Check_L1 F t K n (W (x + 1))))) else (some (2, x, 7))))))) else (some (2, x, 6))) else (K x)
def frame_Check (F : Nat) (t : FrFormat) : Option (Int × Int × Int) := Option.bind (frame_out_int F (t.sync.size : Int) 1 4) fun rv => if rv = true then (some (1, 0, 3)) else (if 12 < (t.channels.length : Int) then (some (1, 0, 3)) else (Option.bind (frame_out_int F t.words 1 32) fun rv2 => if rv2 = true then (some (1, 0, 7)) else (Option.bind (frame_out_int F t.depth 1 16) fun rv3 => if rv3 = true then (some (1, 0, 7)) else (if (iand .i64 t.depth (W (t.depth - 1))) = 0 then (frame_Check_L1 F t (fun (x : Int) => some (0, 0, 0)) F 0) else (some (1, 0, 7))))))
theorem frame_Check_pc {F : Nat} {t : FrFormat} {r : (Int × Int × Int)} (h : frame_Check F t = some r) : PC Try.prog 38 [FrFormat.d t] (.tup [.v (.int .i64 r.1), .v (.int .i64 r.2.1), .v (.int .i64 r.2.2)]) := by
 rw [frame_Check] at h
 refine SC.of_sw Try.func38 R R R ?_
 dsimp only [argS, List.map]
 refine qG (q_box R (q_asgD R (q_asgD R (q_asgD R (eN (sw_seq (sw_block (qG (q_fa tb R (q_ldD (y := .v (.string t.sync)) tb R (r_lenS R R R R ?_)))))))))))
 obtain ⟨rv, hrv, h⟩ := bnd h
 refine r_callB (frame_out_int_pc hrv) (.of (by kernel_rfl)) R R R R ?_ ?_
 ·intro c
  replace h := ifP c h
  refine q_movD R (q_sk 4 R (q_pickT R (q_asgD R (eN (sw_condT R (qG (q_asgD R (q_asgD R (q_asgD R (eN (sw_ret (block_ret (then_ret ?_)))))))))))))
  obtain rfl := sI h
  exact fin_0 (t := .d (.tup [vI 1, vI 0, vI 3])) R R R (.cons (.tmp 2) (.cons (.tmp 3) (.cons (.tmp 4) .nil)))
 intro c
 replace h := ifF c h
 refine q_movD R (q_fa tb R (q_ldD (y := .arr 4 ((t.channels).map FrChannel.d)) tb R (q_lenM tb R ?_)))
 refine r_gtr R R R R ?_ ?_
 ·intro c2
  replace h := ifP c2 h
  refine q_pickF R (q_asgD R (eN (sw_condT R (qG (q_asgD R (q_asgD R (q_asgD R (eN (sw_ret (block_ret (then_ret ?_)))))))))))
  obtain rfl := sI h
  exact fin_0 (t := .d (.tup [vI 1, vI 0, vI 3])) R R R (.cons (.tmp 2) (.cons (.tmp 3) (.cons (.tmp 4) .nil)))
 intro c2
 replace h := ifN (Int.not_lt.2 c2) h
 refine q_pickF R (q_asgD R (eN (sw_condF R (qG (q_fa tb R (q_ldD (y := vI t.words) tb R ?_))))))
 obtain ⟨rv2, hrv2, h⟩ := bnd h
 refine r_callB (frame_out_int_pc hrv2) (.of (by kernel_rfl)) R R R R ?_ ?_
 ·intro c3
  replace h := ifP c3 h
  refine q_movD R (q_sk 3 R (q_pickT R (q_movD R (q_sk 7 R (q_pickT R (q_asgD R (eN (sw_condT R (qG (q_asgD R (q_asgD R (q_asgD R (eN (sw_ret (block_ret (then_ret ?_))))))))))))))))
  obtain rfl := sI h
  exact fin_0 (t := .d (.tup [vI 1, vI 0, vI 7])) R R R (.cons (.tmp 2) (.cons (.tmp 3) (.cons (.tmp 4) .nil)))
 intro c3
 replace h := ifF c3 h
 refine q_movD R (q_fa tb R (q_ldD (y := vI t.depth) tb R ?_))
 obtain ⟨rv3, hrv3, h⟩ := bnd h
 refine r_callB (frame_out_int_pc hrv3) (.of (by kernel_rfl)) R R R R ?_ ?_
 ·intro c4
  replace h := ifP c4 h
  refine q_pickF R (q_movD R (q_sk 7 R (q_pickT R (q_asgD R (eN (sw_condT R (qG (q_asgD R (q_asgD R (q_asgD R (eN (sw_ret (block_ret (then_ret ?_))))))))))))))
  obtain rfl := sI h
  exact fin_0 (t := .d (.tup [vI 1, vI 0, vI 7])) R R R (.cons (.tmp 2) (.cons (.tmp 3) (.cons (.tmp 4) .nil)))
 intro c4
 replace h := ifF c4 h
 refine q_pickF R (q_movD R (q_fa tb R (q_ldD (y := vI t.depth) tb R (q_fa tb R (q_ldD (y := vI t.depth) tb R (r_sub R R R R (r_and R R R R ?_)))))))
 refine r_neq R R R R ?_ ?_
 ·intro c5
  replace h := ifN c5 h
  refine q_pickF R (q_asgD R (eN (sw_condT R (qG (q_asgD R (q_asgD R (q_asgD R (eN (sw_ret (block_ret (then_ret ?_)))))))))))
  obtain rfl := sI h
  exact fin_0 (t := .d (.tup [vI 1, vI 0, vI 7])) R R R (.cons (.tmp 2) (.cons (.tmp 3) (.cons (.tmp 4) .nil)))
 intro c5
 replace h := ifP c5 h
 refine q_pickF R (q_asgD R (eN (sw_condF R (sw_skip (block_norm (then_norm (sw_seq (qG (q_fa tb R (q_ldD (y := .arr 4 ((t.channels).map FrChannel.d)) tb R (q_lenM tb R (q_movD R (eN (sw_block ?_))))))))))))))
 obtain ⟨K2, hK2, h⟩ : ∃ K, K = _ ∧ frame_Check_L1 F t K F 0 = some r := ⟨_, rfl, h⟩
 refine sw_loopS (fun m st => ∃ (x : Int), frame_Check_L1 F t K2 m x = some r ∧ st = ⟨[(1, .ref 0 4 0 0), (2, .d (vI 0)), (3, .d (vI 0)), (4, .d (vI 0)), (38, .d (.arr 4 ((t.channels).map FrChannel.d))), (39, .d (vI (t.channels.length : Int))), (40, .d (vI x))], [some ⟨4, [.d (FrFormat.d t)]⟩]⟩) (.prn [1, 2, 3, 4, 38, 39, 40] R) ⟨0, h, R⟩ ?_
 clear h
 rintro m2 st ⟨x, h, rfl⟩
 cases m2 with
 | zero => cases (show (none : Option (Int × Int × Int)) = some r from h)
 | succ m2 =>
 rw [frame_Check_L1] at h
 refine qG ?_
 refine r_lss R R R R ?_ ?_
 ·intro c6
  replace h := ifP c6 h
  refine eN (sw_seq (sw_condT R (sw_skip (then_norm (sw_seq (sw_block (qG (q_movD R ?_))))))))
  obtain ⟨e, ie, h⟩ := bnd h
  refine q_ixE tb (ix0 ie) (ix1m ie) R (q_ldE (y := FrChannel.d e) tb (ix2 (g := FrChannel.d) ie) R (r_alloc tb R R R R R (q_asgD R (q_stE _ _ tb R (eN (qG (q_fa tb R (q_ldD (y := .arr 4 ((t.channels).map FrChannel.d)) tb R (q_movD R ?_)))))))))
  obtain ⟨q, iq, h⟩ := bnd h
  refine r_sliceT tb R R R R R R iq R R (q_asgD R (eN (sw_block (qG (q_fa tb R (q_ldD (y := .v (.string e.name)) tb R ?_))))))
  obtain ⟨rv4, hrv4, h⟩ := bnd h
  refine r_callB (wind_Name_pc hrv4) (.of (by kernel_rfl)) R R R R ?_ ?_
  ·intro c7
   replace h := ifP c7 h
   refine r_notT R R R (q_asgD R (eN (sw_condF R (qG (q_movD R (r_func R R R R ?_))))))
   obtain ⟨rv5, hrv5, h⟩ := bnd h
   refine r_callX (t' := .d (.v (.bool rv5))) (news' := []) (slices_ContainsFunc_FrChannel_scr (f := (fun a0 => frame_Check_1 F a0 e)) (fc := [.el 4 [FrChannel.d e] 0 0]) (fh := fun hr => frame_Check_1_pc hr) (fe := .of (by kernel_rfl)) hrv5) R .nil (.of (by kernel_rfl)) R R ((.cons (.d (.d _)) (.cons (.fnC (.cons (.d (.ref R (.d _))) .nil)) .nil))) R .nil R R R ?_
   simp only [List.map_nil, List.append_nil]
   with_reducible apply ev_lit
   ·intro c8
    replace h := ifP c8 h
    refine q_asgD R (eN (sw_condT R (qG (q_movD R (q_asgD R (q_asgD R (q_asgD R (eN (sw_ret (block_ret (block_ret (then_ret (then_ret (block_ret (then_ret ?_)))))))))))))))
    obtain rfl := sI h
    exact fin_0 (t := .d (.tup [vI 2, vI x, vI 5])) R R R (.cons (.tmp 2) (.cons (.tmp 3) (.cons (.tmp 4) .nil)))
   intro c8
   replace h := ifF c8 h
   refine q_asgD R (eN (sw_condF R (qG (q_fa tb R (q_ldD (y := vI e.word) tb R (q_fa tb R (q_ldD (y := vI t.words) tb R (r_sub R R R R ?_))))))))
   obtain ⟨rv6, hrv6, h⟩ := bnd h
   refine r_callB (frame_out_int_pc hrv6) (.of (by kernel_rfl)) R R R R ?_ ?_
   ·intro c9
    replace h := ifP c9 h
    refine q_movD R (q_sk 3 R (q_pickT R (q_movD R (q_sk 6 R (q_pickT R (q_movD R (q_sk 6 R (q_pickT R (q_asgD R (eN (sw_condT R (qG (q_movD R (q_asgD R (q_asgD R (q_asgD R (eN (sw_ret (block_ret (block_ret (then_ret (then_ret (block_ret (then_ret ?_))))))))))))))))))))))))
    obtain rfl := sI h
    exact fin_0 (t := .d (.tup [vI 2, vI x, vI 7])) R R R (.cons (.tmp 2) (.cons (.tmp 3) (.cons (.tmp 4) .nil)))
   intro c9
   replace h := ifF c9 h
   refine q_movD R (q_fa tb R (q_ldD (y := vI e.every) tb R ?_))
   refine r_lss R R R R ?_ ?_
   ·intro c10
    replace h := ifP c10 h
    refine q_pickF R (q_movD R (q_sk 6 R (q_pickT R (q_movD R (q_sk 6 R (q_pickT R (q_asgD R (eN (sw_condT R (qG (q_movD R (q_asgD R (q_asgD R (q_asgD R (eN (sw_ret (block_ret (block_ret (then_ret (then_ret (block_ret (then_ret ?_))))))))))))))))))))))
    obtain rfl := sI h
    exact fin_0 (t := .d (.tup [vI 2, vI x, vI 7])) R R R (.cons (.tmp 2) (.cons (.tmp 3) (.cons (.tmp 4) .nil)))
   intro c10
   replace h := ifN (Int.not_lt.2 c10) h
   refine q_pickF R (q_movD R (q_fa tb R (q_ldD (y := vI t.depth) tb R (q_fa tb R (q_ldD (y := vI e.every) tb R ?_)))))
   by_cases c11 : e.every = 0
   ·cases (if_pos c11).symm.trans h
   replace h := ifN c11 h
   refine r_rem R R c11 R R ?_
   refine r_neq R R R R ?_ ?_
   ·intro c12
    replace h := ifN c12 h
    refine q_pickF R (q_movD R (q_sk 6 R (q_pickT R (q_asgD R (eN (sw_condT R (qG (q_movD R (q_asgD R (q_asgD R (q_asgD R (eN (sw_ret (block_ret (block_ret (then_ret (then_ret (block_ret (then_ret ?_)))))))))))))))))))
    obtain rfl := sI h
    exact fin_0 (t := .d (.tup [vI 2, vI x, vI 7])) R R R (.cons (.tmp 2) (.cons (.tmp 3) (.cons (.tmp 4) .nil)))
   intro c12
   replace h := ifP c12 h
   refine q_pickF R (q_movD R (q_fa tb R (q_ldD (y := vI e.phase) tb R (q_fa tb R (q_ldD (y := vI e.every) tb R (r_sub R R R R ?_))))))
   obtain ⟨rv7, hrv7, h⟩ := bnd h
   refine r_callB (frame_out_int_pc hrv7) (.of (by kernel_rfl)) R R R R ?_ ?_
   ·intro c13
    replace h := ifP c13 h
    refine q_pickF R (q_asgD R (eN (sw_condT R (qG (q_movD R (q_asgD R (q_asgD R (q_asgD R (eN (sw_ret (block_ret (block_ret (then_ret (then_ret (block_ret (then_ret ?_))))))))))))))))
    obtain rfl := sI h
    exact fin_0 (t := .d (.tup [vI 2, vI x, vI 7])) R R R (.cons (.tmp 2) (.cons (.tmp 3) (.cons (.tmp 4) .nil)))
   intro c13
   replace h := ifF c13 h
   refine q_pickF R (q_asgD R (eN (sw_condF R (qG (q_movD R (r_func R R R R ?_))))))
   obtain ⟨rv8, hrv8, h⟩ := bnd h
   refine r_callX (t' := .d (.v (.bool rv8))) (news' := []) (slices_ContainsFunc_FrChannel_scr (f := (fun a0 => frame_Check_2 F a0 e)) (fc := [.el 4 [FrChannel.d e] 0 0]) (fh := fun hr => frame_Check_2_pc hr) (fe := .of (by kernel_rfl)) hrv8) R .nil (.of (by kernel_rfl)) R R ((.cons (.d (.d _)) (.cons (.fnC (.cons (.d (.ref R (.d _))) .nil)) .nil))) R .nil R R R ?_
   simp only [List.map_nil, List.append_nil]
   with_reducible apply ev_lit
   ·intro c14
    replace h := ifP c14 h
    refine q_asgD R (eN (sw_condT R (qG (q_movD R (q_asgD R (q_asgD R (q_asgD R (eN (sw_ret (block_ret (block_ret (then_ret (then_ret (block_ret (then_ret ?_)))))))))))))))
    obtain rfl := sI h
    exact fin_0 (t := .d (.tup [vI 2, vI x, vI 2])) R R R (.cons (.tmp 2) (.cons (.tmp 3) (.cons (.tmp 4) .nil)))
   intro c14
   replace h := ifF c14 h
   refine q_asgD R (eN (sw_condF R (sw_skip (block_norm (block_norm (then_norm (sw_rg (q_add R (q_movD R (eN ?_))))))))))
   exact ⟨m2, ⟨[(1, .ref 0 4 0 0), (2, .d (vI 0)), (3, .d (vI 0)), (4, .d (vI 0)), (38, .d (.arr 4 ((t.channels).map FrChannel.d))), (39, .d (vI (t.channels.length : Int))), (40, .d (vI (W (x + 1))))], [some ⟨4, [.d (FrFormat.d t)]⟩]⟩, Nat.lt_succ_self _, .vw (κ := [0]) (vK (.cons R R .nil) R), (W (x + 1)), h, R⟩
  intro c7
  replace h := ifF c7 h
  refine r_notF R R R (q_asgD R (eN (sw_condT R (qG (q_movD R (q_asgD R (q_asgD R (q_asgD R (eN (sw_ret (block_ret (block_ret (then_ret (then_ret (block_ret (then_ret ?_))))))))))))))))
  obtain rfl := sI h
  exact fin_0 (t := .d (.tup [vI 2, vI x, vI 6])) R R R (.cons (.tmp 2) (.cons (.tmp 3) (.cons (.tmp 4) .nil)))
 intro c6
 replace h := ifN (Int.not_lt.2 c6) h
 refine eN (sw_seq (sw_condF R (sw_exit (then_exit (then_exit ?_)))))
 subst hK2
 refine block_exit (then_norm (qG (q_asgD R (q_asgD R (q_asgD R (eN (sw_ret ?_)))))))
 obtain rfl := sI h
 exact fin_0 (t := .d (.tup [vI 0, vI 0, vI 0])) R R R (.cons (.tmp 2) (.cons (.tmp 3) (.cons (.tmp 4) .nil)))
def hangfirelaw09_Awake (F : Nat)  : Option Bool := some true
theorem hangfirelaw09_Awake_pc {F : Nat}  {r : Bool} (h : hangfirelaw09_Awake F  = some r) : PC Try.prog 21 [] (.v (.bool r)) := by
 cases h; exact pc_of_any rfl awake_any

def frame_CheckSky_1_1 (F : Nat) (nv : Int) (c : Int) : Option Bool := Option.bind (frame_out_int F nv (W (0 - c)) c) fun rv => some rv
theorem frame_CheckSky_1_1_pc {F : Nat} {nv : Int} {c : Int} {r : Bool} (h : frame_CheckSky_1_1 F nv c = some r) : PC Try.prog 82 [.v (.int .i64 nv), .el 1 (([c]).map vI) ((0 : Int)).toNat 0] (.v (.bool r)) := by
 rw [frame_CheckSky_1_1] at h
 refine SC.of_sw Try.func82 R R R ?_
 dsimp only [argS, List.map]
 refine qG (q_asgD R (eN (qG (q_movD R (q_ldE (y := vI c) tb (ix2 (g := vI) (R : ixO [c] 0 = some c)) R (r_neg R R R (q_ldE (y := vI c) tb (ix2 (g := vI) (R : ixO [c] 0 = some c)) R ?_)))))))
 obtain ⟨rv, hrv, h⟩ := bnd h
 refine r_call (frame_out_int_pc hrv) (.of (by kernel_rfl)) R R R R (q_asgD R (eN (sw_ret ?_)))
 obtain rfl := sI h
 exact f1 3 R
def frame_CheckSky_1 (F : Nat) (most : Int) (lv : (List Int)) : Option Bool := Option.bind (slices_ContainsFunc_int F lv (fun a0 => frame_CheckSky_1_1 F a0 most)) fun rv => some rv
theorem frame_CheckSky_1_pc {F : Nat} {most : Int} {lv : (List Int)} {r : Bool} (h : frame_CheckSky_1 F most lv = some r) : PC Try.prog 80 [.v (.int .i64 most), .arr 1 ((lv).map vI)] (.v (.bool r)) := by
 rw [frame_CheckSky_1] at h
 refine SC.of_sw Try.func80 R R R ?_
 dsimp only [argS, List.map]
 refine qG (q_box R (q_asgD R (eN (qG (q_movD R (r_func R R R R ?_))))))
 obtain ⟨rv, hrv, h⟩ := bnd h
 refine r_callX (t' := .d (.v (.bool rv))) (news' := []) (slices_ContainsFunc_int_scr (f := (fun a0 => frame_CheckSky_1_1 F a0 most)) (fc := [.el 1 [vI most] 0 0]) (fh := fun hr => frame_CheckSky_1_1_pc hr) (fe := .of (by kernel_rfl)) hrv) R .nil (.of (by kernel_rfl)) R R ((.cons (.d (.d _)) (.cons (.fnC (.cons (.d (.ref R (.d _))) .nil)) .nil))) R .nil R R R ?_
 simp only [List.map_nil, List.append_nil]
 refine q_asgD R (eN (sw_ret ?_))
 obtain rfl := sI h
 exact f1 4 R
def frame_axis_times (F : Nat) (a : FlDir) (b : FlDir) : Option Int := some (W ((W ((W (a.x * b.x)) + (W (a.y * b.y)))) + (W (a.z * b.z))))
theorem frame_axis_times_pc {F : Nat} {a : FlDir} {b : FlDir} {r : Int} (h : frame_axis_times F a b = some r) : PC Try.prog 83 [FlDir.d a, FlDir.d b] (.v (.int .i64 r)) := by
 rw [frame_axis_times] at h
 refine SC.of_sw Try.func83 R R R ?_
 dsimp only [argS, List.map]
 refine qG (q_box R (q_box R (q_asgD R (eN (qG (q_fa tb R (q_ldD (y := vI a.x) tb R (q_fa tb R (q_ldD (y := vI b.x) tb R (r_mul R R R R (q_fa tb R (q_ldD (y := vI a.y) tb R (q_fa tb R (q_ldD (y := vI b.y) tb R (r_mul R R R R (q_add R (q_fa tb R (q_ldD (y := vI a.z) tb R (q_fa tb R (q_ldD (y := vI b.z) tb R (r_mul R R R R (q_add R (q_asgD R (eN (sw_ret ?_)))))))))))))))))))))))))
 obtain rfl := sI h
 exact f1 4 R
def frame_CheckSky_L1 (F : Nat) (t : FrFormat) (o : FrSky) (K : Int → Option (Int × Int)) : Nat → Int → Option (Int × Int)
 | 0, _ => none
 | n + 1, x2 => if x2 < (o.sensors.length : Int) then (Option.bind (ixO o.sensors x2) fun e2 => Option.bind (frame_out_int F e2.channel 0 (W ((t.channels.length : Int) - 1))) fun rv6 => if rv6 = true then (some (x2, 4)) else (Option.bind (frame_CheckSky_1 F 1000000 [e2.x, e2.y, e2.z]) fun rv7 => if rv7 = true then (some (x2, 7)) else (Option.bind (frame_out_int F e2.scale 1 1000) fun rv8 => if rv8 = true then (some (x2, 7)) else (Option.bind (frame_out_int F e2.error 0 1000000) fun rv9 => if rv9 = true then (some (x2, 7)) else (frame_CheckSky_L1 F t o K n (W (x2 + 1))))))) else (K x2)
def frame_CheckSky_L2 (F : Nat) (o : FrSky) (K : Int → Option (Int × Int)) : Nat → Int → Option (Int × Int)
 | 0, _ => none
 | n + 1, x => if x < (o.dirs.length : Int) then (Option.bind (ixO o.dirs x) fun e => Option.bind (frame_CheckSky_1 F 10000 [e.x, e.y, e.z]) fun rv4 => if rv4 = true then (some (x, 7)) else (Option.bind (frame_axis_times F e e) fun rv5 => if rv5 < o.turn then (some (x, 2)) else (frame_CheckSky_L2 F o K n (W (x + 1))))) else (K x)
def frame_CheckSky (F : Nat) (t : FrFormat) (o : FrSky) : Option (Int × Int) := Option.bind (frame_Check F t) fun rv => if rv.2.2 = 0 then (Option.bind (frame_out_int F (o.dirs.length : Int) 1 30) fun rv2 => if rv2 = true then (some (0, 3)) else (if 6 < (o.sensors.length : Int) then (some (0, 3)) else (Option.bind (frame_out_int F o.turn (W (0 - 100000000)) 100000000) fun rv3 => if rv3 = true then (some (0, 7)) else (frame_CheckSky_L2 F o (fun (x : Int) => frame_CheckSky_L1 F t o (fun (x2 : Int) => some (0, 0)) F 0) F 0)))) else (some (0, rv.2.2))
theorem frame_CheckSky_pc {F : Nat} {t : FrFormat} {o : FrSky} {r : (Int × Int)} (h : frame_CheckSky F t o = some r) : PC Try.prog 40 [FrFormat.d t, FrSky.d o] (.tup [.v (.int .i64 r.1), .v (.int .i64 r.2)]) := by
 rw [frame_CheckSky] at h
 refine SC.of_sw Try.func40 R R R ?_
 dsimp only [argS, List.map]
 refine qG (q_box R (q_box R (q_asgD R (q_asgD R (eN (sw_seq (qG (q_ldD (y := FrFormat.d t) tb R ?_))))))))
 obtain ⟨rv, hrv, h⟩ := bnd h
 refine r_call (frame_Check_pc hrv) (.of (by kernel_rfl)) R R R R (q_movD R (r_extD (t := vI rv.1) R R R R (r_extD (t := vI rv.2.1) R R R R (r_extD (t := vI rv.2.2) R R R R (q_asgD R (eN (qG (q_movD R ?_))))))))
 refine r_neq R R R R ?_ ?_
 ·intro c
  replace h := ifN c h
  refine eN (sw_condT R (qG (q_movD R (q_asgD R (q_asgD R (eN (sw_ret (then_ret ?_))))))))
  obtain rfl := sI h
  exact fin_0 (t := .d (.tup [vI 0, vI rv.2.2])) R R R (.cons (.tmp 4) (.cons (.tmp 5) .nil))
 intro c
 replace h := ifP c h
 refine eN (sw_condF R (sw_skip (then_norm (qG (q_asgD R (eN (sw_seq (sw_block (qG (q_fa tb R (q_ldD (y := .arr 3 ((o.dirs).map FlDir.d)) tb R (q_lenM tb R ?_))))))))))))
 obtain ⟨rv2, hrv2, h⟩ := bnd h
 refine r_callB (frame_out_int_pc hrv2) (.of (by kernel_rfl)) R R R R ?_ ?_
 ·intro c2
  replace h := ifP c2 h
  refine q_movD R (q_sk 4 R (q_pickT R (q_asgD R (eN (sw_condT R (qG (q_asgD R (q_asgD R (eN (sw_ret (block_ret (then_ret ?_))))))))))))
  obtain rfl := sI h
  exact fin_0 (t := .d (.tup [vI 0, vI 3])) R R R (.cons (.tmp 4) (.cons (.tmp 5) .nil))
 intro c2
 replace h := ifF c2 h
 refine q_movD R (q_fa tb R (q_ldD (y := .arr 7 ((o.sensors).map FrSensor.d)) tb R (q_lenM tb R ?_)))
 refine r_gtr R R R R ?_ ?_
 ·intro c3
  replace h := ifP c3 h
  refine q_pickF R (q_asgD R (eN (sw_condT R (qG (q_asgD R (q_asgD R (eN (sw_ret (block_ret (then_ret ?_))))))))))
  obtain rfl := sI h
  exact fin_0 (t := .d (.tup [vI 0, vI 3])) R R R (.cons (.tmp 4) (.cons (.tmp 5) .nil))
 intro c3
 replace h := ifN (Int.not_lt.2 c3) h
 refine q_pickF R (q_asgD R (eN (sw_condF R (qG (q_fa tb R (q_ldD (y := vI o.turn) tb R (q_movD R (r_neg R R R (q_movD R ?_)))))))))
 obtain ⟨rv3, hrv3, h⟩ := bnd h
 refine r_callB (frame_out_int_pc hrv3) (.of (by kernel_rfl)) R R R R ?_ ?_
 ·intro c4
  replace h := ifP c4 h
  refine q_asgD R (eN (sw_condT R (qG (q_asgD R (q_asgD R (eN (sw_ret (block_ret (then_ret ?_)))))))))
  obtain rfl := sI h
  exact fin_0 (t := .d (.tup [vI 0, vI 7])) R R R (.cons (.tmp 4) (.cons (.tmp 5) .nil))
 intro c4
 replace h := ifF c4 h
 refine q_asgD R (eN (sw_condF R (sw_skip (block_norm (then_norm (qG (q_asgD R (eN (sw_seq (qG (q_fa tb R (q_ldD (y := .arr 3 ((o.dirs).map FlDir.d)) tb R (q_lenM tb R (q_movD R (eN (sw_block ?_))))))))))))))))
 obtain ⟨K2, hK2, h⟩ : ∃ K, K = _ ∧ frame_CheckSky_L2 F o K F 0 = some r := ⟨_, rfl, h⟩
 refine sw_loopS (fun m st => ∃ (x : Int), frame_CheckSky_L2 F o K2 m x = some r ∧ st = ⟨[(2, .ref 0 4 0 0), (3, .ref 1 3 0 0), (4, .d (vI 0)), (5, .d (vI rv.2.2)), (7, .d (.v (.func (.func 80) #[] #[]))), (40, .d (.arr 3 ((o.dirs).map FlDir.d))), (41, .d (vI (o.dirs.length : Int))), (42, .d (vI x))], [some ⟨4, [.d (FrFormat.d t)]⟩, some ⟨3, [.d (FrSky.d o)]⟩]⟩) (.prn [2, 3, 4, 5, 7, 40, 41, 42] R) ⟨0, h, R⟩ ?_
 clear h
 rintro m2 st ⟨x, h, rfl⟩
 cases m2 with
 | zero => cases (show (none : Option (Int × Int)) = some r from h)
 | succ m2 =>
 rw [frame_CheckSky_L2] at h
 refine qG ?_
 refine r_lss R R R R ?_ ?_
 ·intro c5
  replace h := ifP c5 h
  refine eN (sw_seq (sw_condT R (sw_skip (then_norm (sw_seq (sw_block (qG (q_movD R ?_))))))))
  obtain ⟨e, ie, h⟩ := bnd h
  refine q_ixE tb (ix0 ie) (ix1m ie) R (q_ldE (y := FlDir.d e) tb (ix2 (g := FlDir.d) ie) R (r_alloc tb R R R R R (q_asgD R (q_stE _ _ tb R (eN (sw_block (qG (q_movD R (q_fa tb R (q_ldD (y := vI e.x) tb R (q_fa tb R (q_ldD (y := vI e.y) tb R (q_fa tb R (q_ldD (y := vI e.z) tb R (r_bslice tb R R R R R R R R R R R R R ?_)))))))))))))))
  obtain ⟨rv4, hrv4, h⟩ := bnd h
  refine r_callLB (frame_CheckSky_1_pc hrv4) (.of (by kernel_rfl)) R R ((.cons (.d _) (.cons (.row R R) .nil))) R R ?_ ?_
  ·intro c6
   replace h := ifP c6 h
   refine q_asgD R (eN (sw_condT R (qG (q_movD R (q_asgD R (q_asgD R (eN (sw_ret (block_ret (block_ret (then_ret (then_ret (block_ret (then_ret ?_))))))))))))))
   obtain rfl := sI h
   exact fin_0 (t := .d (.tup [vI x, vI 7])) R R R (.cons (.tmp 4) (.cons (.tmp 5) .nil))
  intro c6
  replace h := ifF c6 h
  refine q_asgD R (eN (sw_condF R (sw_seq (sw_dr (by kernel_rfl) (q_ldD (y := FlDir.d e) tb R (q_ldD (y := FlDir.d e) tb R ?_))))))
  obtain ⟨rv5, hrv5, h⟩ := bnd h
  refine r_call (frame_axis_times_pc hrv5) (.of (by kernel_rfl)) R R R R (q_fa tb R (q_ldD (y := vI o.turn) tb R ?_))
  refine r_lss R R R R ?_ ?_
  ·intro c7
   replace h := ifP c7 h
   refine q_asgD R (ev_endD (by kernel_rfl) (then_norm (sw_condT R (qG (q_movD R (q_asgD R (q_asgD R (eN (sw_ret (block_ret (block_ret (then_ret (then_ret (block_ret (then_ret ?_)))))))))))))))
   obtain rfl := sI h
   exact fin_0 (t := .d (.tup [vI x, vI 2])) R R R (.cons (.tmp 4) (.cons (.tmp 5) .nil))
  intro c7
  replace h := ifN (Int.not_lt.2 c7) h
  refine q_asgD R (ev_endD (by kernel_rfl) (then_norm (sw_condF R (sw_skip (block_norm (block_norm (then_norm (sw_rg (q_add R (q_movD R (eN ?_)))))))))))
  exact ⟨m2, ⟨[(2, .ref 0 4 0 0), (3, .ref 1 3 0 0), (4, .d (vI 0)), (5, .d (vI rv.2.2)), (7, .d (.v (.func (.func 80) #[] #[]))), (40, .d (.arr 3 ((o.dirs).map FlDir.d))), (41, .d (vI (o.dirs.length : Int))), (42, .d (vI (W (x + 1))))], [some ⟨4, [.d (FrFormat.d t)]⟩, some ⟨3, [.d (FrSky.d o)]⟩]⟩, Nat.lt_succ_self _, .vw (κ := [0, 1]) (vK (.cons R R (.cons R R .nil)) R), (W (x + 1)), h, R⟩
 intro c5
 replace h := ifN (Int.not_lt.2 c5) h
 refine eN (sw_seq (sw_condF R (sw_exit (then_exit (then_exit ?_)))))
 subst hK2
 refine block_exit (then_norm (sw_seq (qG (q_fa tb R (q_ldD (y := .arr 7 ((o.sensors).map FrSensor.d)) tb R (q_lenM tb R (q_movD R (eN (sw_block ?_)))))))))
 obtain ⟨K4, hK4, h⟩ : ∃ K, K = _ ∧ frame_CheckSky_L1 F t o K F 0 = some r := ⟨_, rfl, h⟩
 refine sw_loopS (st0 := ⟨[(2, .ref 0 4 0 0), (4, .d (vI 0)), (5, .d (vI rv.2.2)), (7, .d (.v (.func (.func 80) #[] #[]))), (68, .d (.arr 7 ((o.sensors).map FrSensor.d))), (69, .d (vI (o.sensors.length : Int))), (70, .d (vI 0))], [some ⟨4, [.d (FrFormat.d t)]⟩]⟩) (fun m st => ∃ (x2 : Int), frame_CheckSky_L1 F t o K4 m x2 = some r ∧ st = ⟨[(2, .ref 0 4 0 0), (4, .d (vI 0)), (5, .d (vI rv.2.2)), (7, .d (.v (.func (.func 80) #[] #[]))), (68, .d (.arr 7 ((o.sensors).map FrSensor.d))), (69, .d (vI (o.sensors.length : Int))), (70, .d (vI x2))], [some ⟨4, [.d (FrFormat.d t)]⟩]⟩) (.vw (κ := [0]) (vK (.cons R R .nil) R)) ⟨0, h, R⟩ ?_
 clear h
 rintro m4 st ⟨x2, h, rfl⟩
 cases m4 with
 | zero => cases (show (none : Option (Int × Int)) = some r from h)
 | succ m4 =>
 rw [frame_CheckSky_L1] at h
 refine qG ?_
 refine r_lss R R R R ?_ ?_
 ·intro c8
  replace h := ifP c8 h
  refine eN (sw_seq (sw_condT R (sw_skip (then_norm (sw_seq (sw_block (qG (q_movD R ?_))))))))
  obtain ⟨e2, ie2, h⟩ := bnd h
  refine q_ixE tb (ix0 ie2) (ix1m ie2) R (q_ldE (y := FrSensor.d e2) tb (ix2 (g := FrSensor.d) ie2) R (r_alloc tb R R R R R (q_asgD R (q_stE _ _ tb R (eN (sw_block (qG (q_fa tb R (q_ldD (y := vI e2.channel) tb R (q_fa tb R (q_ldD (y := .arr 4 ((t.channels).map FrChannel.d)) tb R (q_lenM tb R (r_sub R R R R ?_)))))))))))))
  obtain ⟨rv6, hrv6, h⟩ := bnd h
  refine r_callB (frame_out_int_pc hrv6) (.of (by kernel_rfl)) R R R R ?_ ?_
  ·intro c9
   replace h := ifP c9 h
   refine q_asgD R (eN (sw_condT R (qG (q_movD R (q_asgD R (q_asgD R (eN (sw_ret (block_ret (block_ret (then_ret (then_ret (block_ret (then_ret ?_))))))))))))))
   obtain rfl := sI h
   exact fin_0 (t := .d (.tup [vI x2, vI 4])) R R R (.cons (.tmp 4) (.cons (.tmp 5) .nil))
  intro c9
  replace h := ifF c9 h
  refine q_asgD R (eN (sw_condF R (qG (q_movD R (q_fa tb R (q_ldD (y := vI e2.x) tb R (q_fa tb R (q_ldD (y := vI e2.y) tb R (q_fa tb R (q_ldD (y := vI e2.z) tb R (r_bslice tb R R R R R R R R R R R R R ?_)))))))))))
  obtain ⟨rv7, hrv7, h⟩ := bnd h
  refine r_callLB (frame_CheckSky_1_pc hrv7) (.of (by kernel_rfl)) R R ((.cons (.d _) (.cons (.row R R) .nil))) R R ?_ ?_
  ·intro c10
   replace h := ifP c10 h
   refine q_movD R (q_sk 3 R (q_pickT R (q_movD R (q_sk 3 R (q_pickT R (q_asgD R (eN (sw_condT R (qG (q_movD R (q_asgD R (q_asgD R (eN (sw_ret (block_ret (block_ret (then_ret (then_ret (block_ret (then_ret ?_))))))))))))))))))))
   obtain rfl := sI h
   exact fin_0 (t := .d (.tup [vI x2, vI 7])) R R R (.cons (.tmp 4) (.cons (.tmp 5) .nil))
  intro c10
  replace h := ifF c10 h
  refine q_movD R (q_fa tb R (q_ldD (y := vI e2.scale) tb R ?_))
  obtain ⟨rv8, hrv8, h⟩ := bnd h
  refine r_callB (frame_out_int_pc hrv8) (.of (by kernel_rfl)) R R R R ?_ ?_
  ·intro c11
   replace h := ifP c11 h
   refine q_pickF R (q_movD R (q_sk 3 R (q_pickT R (q_asgD R (eN (sw_condT R (qG (q_movD R (q_asgD R (q_asgD R (eN (sw_ret (block_ret (block_ret (then_ret (then_ret (block_ret (then_ret ?_))))))))))))))))))
   obtain rfl := sI h
   exact fin_0 (t := .d (.tup [vI x2, vI 7])) R R R (.cons (.tmp 4) (.cons (.tmp 5) .nil))
  intro c11
  replace h := ifF c11 h
  refine q_pickF R (q_movD R (q_fa tb R (q_ldD (y := vI e2.error) tb R ?_)))
  obtain ⟨rv9, hrv9, h⟩ := bnd h
  refine r_callB (frame_out_int_pc hrv9) (.of (by kernel_rfl)) R R R R ?_ ?_
  ·intro c12
   replace h := ifP c12 h
   refine q_pickF R (q_asgD R (eN (sw_condT R (qG (q_movD R (q_asgD R (q_asgD R (eN (sw_ret (block_ret (block_ret (then_ret (then_ret (block_ret (then_ret ?_)))))))))))))))
   obtain rfl := sI h
   exact fin_0 (t := .d (.tup [vI x2, vI 7])) R R R (.cons (.tmp 4) (.cons (.tmp 5) .nil))
  intro c12
  replace h := ifF c12 h
  refine q_pickF R (q_asgD R (eN (sw_condF R (sw_skip (block_norm (block_norm (then_norm (sw_rg (q_add R (q_movD R (eN ?_)))))))))))
  exact ⟨m4, ⟨[(2, .ref 0 4 0 0), (4, .d (vI 0)), (5, .d (vI rv.2.2)), (7, .d (.v (.func (.func 80) #[] #[]))), (68, .d (.arr 7 ((o.sensors).map FrSensor.d))), (69, .d (vI (o.sensors.length : Int))), (70, .d (vI (W (x2 + 1))))], [some ⟨4, [.d (FrFormat.d t)]⟩]⟩, Nat.lt_succ_self _, .vw (κ := [0]) (vK (.cons R R .nil) R), (W (x2 + 1)), h, R⟩
 intro c8
 replace h := ifN (Int.not_lt.2 c8) h
 refine eN (sw_seq (sw_condF R (sw_exit (then_exit (then_exit ?_)))))
 subst hK4
 refine block_exit (then_norm (qG (q_asgD R (q_asgD R (eN (sw_ret ?_))))))
 obtain rfl := sI h
 exact fin_0 (t := .d (.tup [vI 0, vI 0])) R R R (.cons (.tmp 4) (.cons (.tmp 5) .nil))
def frame_reports_L1 (F : Nat) (o : (List FrReport)) (K : Int → Option Int) : Nat → Int → Option Int
 | 0, _ => none
 | n + 1, x2 => if x2 < (o.length : Int) then (Option.bind (ixO o x2) fun e3 => Option.bind (frame_out_int F e3.number 0 1000000) fun rv => if rv = true then (some 7) else (Option.bind (frame_bad F e3.words) fun rv2 => if rv2 = true then (some 7) else (frame_reports_L1 F o K n (W (x2 + 1))))) else (K x2)
def frame_reports_L2 (F : Nat) (t : FrFormat) (o : (List FrReport)) (K : Int → Option Int) : Nat → Int → Option Int
 | 0, _ => none
 | n + 1, x => if x < (o.length : Int) then (Option.bind (ixO o x) fun e => if (e.words.length : Int) = t.words then (if 0 < x then (Option.bind (ixO o (W (x - 1))) fun e2 => if e.number ≤ e2.number then (some 2) else (frame_reports_L2 F t o K n (W (x + 1)))) else (frame_reports_L2 F t o K n (W (x + 1)))) else (some 2)) else (K x)
def frame_reports (F : Nat) (t : FrFormat) (o : (List FrReport)) : Option Int := frame_reports_L2 F t o (fun (x : Int) => frame_reports_L1 F o (fun (x2 : Int) => if 0 < (o.length : Int) then (Option.bind (ixO o (W ((o.length : Int) - 1))) fun e4 => Option.bind (ixO o 0) fun e5 => if 300 < (W (e4.number - e5.number)) then (some 3) else (some 0)) else (some 0)) F 0) F 0
theorem frame_reports_pc {F : Nat} {t : FrFormat} {o : (List FrReport)} {r : Int} (h : frame_reports F t o = some r) : PC Try.prog 87 [FrFormat.d t, .arr 5 ((o).map FrReport.d)] (.v (.int .i64 r)) := by
 rw [frame_reports] at h
 refine SC.of_sw Try.func87 R R R ?_
 dsimp only [argS, List.map]
 refine qG (q_box R (q_asgD R (eN (sw_seq (qG (q_movD R (q_lenM tb R (q_movD R (eN (sw_block ?_))))))))))
 obtain ⟨K2, hK2, h⟩ : ∃ K, K = _ ∧ frame_reports_L2 F t o K F 0 = some r := ⟨_, rfl, h⟩
 refine sw_loopS (fun m st => ∃ (x : Int), frame_reports_L2 F t o K2 m x = some r ∧ st = ⟨[(1, .d (.arr 5 ((o).map FrReport.d))), (2, .ref 0 4 0 0), (4, .d (vI 0)), (10, .d (.arr 5 ((o).map FrReport.d))), (11, .d (vI (o.length : Int))), (12, .d (vI x))], [some ⟨4, [.d (FrFormat.d t)]⟩]⟩) (.prn [1, 2, 4, 10, 11, 12] R) ⟨0, h, R⟩ ?_
 clear h
 rintro m2 st ⟨x, h, rfl⟩
 cases m2 with
 | zero => cases (show (none : Option Int) = some r from h)
 | succ m2 =>
 rw [frame_reports_L2] at h
 refine qG ?_
 refine r_lss R R R R ?_ ?_
 ·intro c
  replace h := ifP c h
  refine eN (sw_seq (sw_condT R (sw_skip (then_norm (sw_seq (sw_block (qG (q_movD R ?_))))))))
  obtain ⟨e, ie, h⟩ := bnd h
  refine q_ixE tb (ix0 ie) (ix1m ie) R (q_ldE (y := FrReport.d e) tb (ix2 (g := FrReport.d) ie) R (r_alloc tb R R R R R (q_asgD R (q_stE _ _ tb R (eN (sw_seq (sw_dr (by kernel_rfl) (q_fa tb R (q_ldD (y := .arr 1 ((e.words).map vI)) tb R (q_lenM tb R (q_fa tb R (q_ldD (y := vI t.words) tb R ?_))))))))))))
  refine r_neq R R R R ?_ ?_
  ·intro c2
   replace h := ifN c2 h
   refine q_movD R (q_sk 13 R (q_pickT R (ev_endD (by kernel_rfl) (then_norm (sw_condT R (qG (q_asgD R (eN (sw_ret (block_ret (then_ret (then_ret (block_ret (then_ret ?_))))))))))))))
   obtain rfl := sI h
   exact f1 4 R
  intro c2
  replace h := ifP c2 h
  refine q_movD R (q_movD R ?_)
  refine r_gtr R R R R ?_ ?_
  ·intro c3
   replace h := ifP c3 h
   refine q_movD R (q_fa tb R (q_ldD (y := vI e.number) tb R (q_movD R (q_movD R (r_sub R R R R ?_)))))
   obtain ⟨e2, ie2, h⟩ := bnd h
   refine q_ixE tb (ix0 ie2) (ix1m ie2) R (q_faE tb R (q_ldE (y := vI e2.number) tb (ix2 (g := FrReport.d) ie2) R ?_))
   refine r_leq R R R R ?_ ?_
   ·intro c4
    replace h := ifP c4 h
    refine q_pickT R (q_pickF R (ev_endD (by kernel_rfl) (then_norm (sw_condT R (qG (q_asgD R (eN (sw_ret (block_ret (then_ret (then_ret (block_ret (then_ret ?_)))))))))))))
    obtain rfl := sI h
    exact f1 4 R
   intro c4
   replace h := ifN (Int.not_le.2 c4) h
   refine q_pickT R (q_pickF R (ev_endD (by kernel_rfl) (then_norm (sw_condF R (sw_skip (block_norm (then_norm (sw_rg (q_add R (q_movD R (eN ?_)))))))))))
   exact ⟨m2, ⟨[(1, .d (.arr 5 ((o).map FrReport.d))), (2, .ref 0 4 0 0), (4, .d (vI 0)), (10, .d (.arr 5 ((o).map FrReport.d))), (11, .d (vI (o.length : Int))), (12, .d (vI (W (x + 1))))], [some ⟨4, [.d (FrFormat.d t)]⟩]⟩, Nat.lt_succ_self _, .vw (κ := [0]) (vK (.cons R R .nil) R), (W (x + 1)), h, R⟩
  intro c3
  replace h := ifN (Int.not_lt.2 c3) h
  refine q_movD R (q_sk 9 R (q_pickF R (q_pickF R (ev_endD (by kernel_rfl) (then_norm (sw_condF R (sw_skip (block_norm (then_norm (sw_rg (q_add R (q_movD R (eN ?_)))))))))))))
  exact ⟨m2, ⟨[(1, .d (.arr 5 ((o).map FrReport.d))), (2, .ref 0 4 0 0), (4, .d (vI 0)), (10, .d (.arr 5 ((o).map FrReport.d))), (11, .d (vI (o.length : Int))), (12, .d (vI (W (x + 1))))], [some ⟨4, [.d (FrFormat.d t)]⟩]⟩, Nat.lt_succ_self _, .vw (κ := [0]) (vK (.cons R R .nil) R), (W (x + 1)), h, R⟩
 intro c
 replace h := ifN (Int.not_lt.2 c) h
 refine eN (sw_seq (sw_condF R (sw_exit (then_exit (then_exit ?_)))))
 subst hK2
 refine block_exit (then_norm (sw_seq (qG (q_movD R (q_lenM tb R (q_movD R (eN (sw_block ?_))))))))
 obtain ⟨K4, hK4, h⟩ : ∃ K, K = _ ∧ frame_reports_L1 F o K F 0 = some r := ⟨_, rfl, h⟩
 refine sw_loopS (st0 := ⟨[(1, .d (.arr 5 ((o).map FrReport.d))), (4, .d (vI 0)), (39, .d (.arr 5 ((o).map FrReport.d))), (40, .d (vI (o.length : Int))), (41, .d (vI 0))], []⟩) (fun m st => ∃ (x2 : Int), frame_reports_L1 F o K4 m x2 = some r ∧ st = ⟨[(1, .d (.arr 5 ((o).map FrReport.d))), (4, .d (vI 0)), (39, .d (.arr 5 ((o).map FrReport.d))), (40, .d (vI (o.length : Int))), (41, .d (vI x2))], []⟩) (.vw (κ := []) (v0 R)) ⟨0, h, R⟩ ?_
 clear h
 rintro m4 st ⟨x2, h, rfl⟩
 cases m4 with
 | zero => cases (show (none : Option Int) = some r from h)
 | succ m4 =>
 rw [frame_reports_L1] at h
 refine qG ?_
 refine r_lss R R R R ?_ ?_
 ·intro c5
  replace h := ifP c5 h
  refine eN (sw_seq (sw_condT R (sw_skip (then_norm (sw_seq (sw_block (qG ?_)))))))
  obtain ⟨e3, ie3, h⟩ := bnd h
  refine q_ixE tb (ix0 ie3) (ix1m ie3) R (q_ldE (y := FrReport.d e3) tb (ix2 (g := FrReport.d) ie3) R (r_alloc tb R R R R R (q_stE _ _ tb R (eN (qG (q_fa tb R (q_ldD (y := vI e3.number) tb R ?_)))))))
  obtain ⟨rv, hrv, h⟩ := bnd h
  refine r_callB (frame_out_int_pc hrv) (.of (by kernel_rfl)) R R R R ?_ ?_
  ·intro c6
   replace h := ifP c6 h
   refine q_movD R (q_sk 3 R (q_pickT R (eN (sw_condT R (qG (q_asgD R (eN (sw_ret (block_ret (then_ret (then_ret (block_ret (then_ret ?_)))))))))))))
   obtain rfl := sI h
   exact f1 4 R
  intro c6
  replace h := ifF c6 h
  refine q_movD R (q_fa tb R (q_ldD (y := .arr 1 ((e3.words).map vI)) tb R ?_))
  obtain ⟨rv2, hrv2, h⟩ := bnd h
  refine r_callB (frame_bad_pc hrv2) (.of (by kernel_rfl)) R R R R ?_ ?_
  ·intro c7
   replace h := ifP c7 h
   refine q_pickF R (eN (sw_condT R (qG (q_asgD R (eN (sw_ret (block_ret (then_ret (then_ret (block_ret (then_ret ?_)))))))))))
   obtain rfl := sI h
   exact f1 4 R
  intro c7
  replace h := ifF c7 h
  refine q_pickF R (eN (sw_condF R (sw_skip (block_norm (then_norm (sw_rg (q_add R (q_movD R (eN ?_)))))))))
  exact ⟨m4, ⟨[(1, .d (.arr 5 ((o).map FrReport.d))), (4, .d (vI 0)), (39, .d (.arr 5 ((o).map FrReport.d))), (40, .d (vI (o.length : Int))), (41, .d (vI (W (x2 + 1))))], []⟩, Nat.lt_succ_self _, .vw (κ := []) (v0 R), (W (x2 + 1)), h, R⟩
 intro c5
 replace h := ifN (Int.not_lt.2 c5) h
 refine eN (sw_seq (sw_condF R (sw_exit (then_exit (then_exit ?_)))))
 subst hK4
 refine block_exit (then_norm (sw_seq (qG (q_movD R (q_lenM tb R (q_asgD R (eN (sw_seq (sw_dr (by kernel_rfl) (q_movD R ?_))))))))))
 refine r_gtr R R R R ?_ ?_
 ·intro c8
  replace h := ifP c8 h
  refine q_movD R (q_movD R (q_movD R (r_sub R R R R ?_)))
  obtain ⟨e4, ie4, h⟩ := bnd h
  refine q_ixE tb (ix0 ie4) (ix1m ie4) R (q_faE tb R (q_ldE (y := vI e4.number) tb (ix2 (g := FrReport.d) ie4) R (q_movD R ?_)))
  obtain ⟨e5, ie5, h⟩ := bnd h
  refine q_ixE tb (ix0 ie5) (ix1m ie5) R (q_faE tb R (q_ldE (y := vI e5.number) tb (ix2 (g := FrReport.d) ie5) R (r_sub R R R R ?_)))
  refine r_gtr R R R R ?_ ?_
  ·intro c9
   replace h := ifP c9 h
   refine q_pickT R (ev_endD (by kernel_rfl) (then_norm (sw_condT R (qG (q_asgD R (eN (sw_ret (then_ret ?_))))))))
   obtain rfl := sI h
   exact f1 4 R
  intro c9
  replace h := ifN (Int.not_lt.2 c9) h
  refine q_pickT R (ev_endD (by kernel_rfl) (then_norm (sw_condF R (sw_skip (then_norm (qG (q_asgD R (eN (sw_ret ?_)))))))))
  obtain rfl := sI h
  exact f1 4 R
 intro c8
 replace h := ifN (Int.not_lt.2 c8) h
 refine q_movD R (q_sk 12 R (q_pickF R (ev_endD (by kernel_rfl) (then_norm (sw_condF R (sw_skip (then_norm (qG (q_asgD R (eN (sw_ret ?_)))))))))))
 obtain rfl := sI h
 exact f1 4 R
def frame_turned_L1 (F : Nat) (s : FrSky) (fromv : Int) (x : Int) (e : FlDir) (K : Int → Int → Option Int) : Nat → Int → Int → Option Int
 | 0, _, _ => none
 | n + 1, tov2, x2 => if x2 < (s.dirs.length : Int) then (Option.bind (ixO s.dirs x2) fun e2 => if x2 < 0 then none else (if 0 < (iand .u32 (ishr .u32 fromv x2) 1) then (Option.bind (frame_axis_times F e2 e) fun rv => if s.turn ≤ rv then (if x < 0 then none else (K (ior .u32 tov2 (ishl .u32 1 x)) x2)) else (frame_turned_L1 F s fromv x e K n tov2 (W (x2 + 1)))) else (frame_turned_L1 F s fromv x e K n tov2 (W (x2 + 1))))) else (K tov2 x2)
def frame_turned_L2 (F : Nat) (s : FrSky) (fromv : Int) (K : Int → Int → Option Int) : Nat → Int → Int → Option Int
 | 0, _, _ => none
 | n + 1, tov, x => if x < (s.dirs.length : Int) then (Option.bind (ixO s.dirs x) fun e => frame_turned_L1 F s fromv x e (fun (tov2 : Int) (x2 : Int) => frame_turned_L2 F s fromv K n tov2 (W (x + 1))) F tov 0) else (K tov x)
def frame_turned (F : Nat) (s : FrSky) (fromv : Int) : Option Int := frame_turned_L2 F s fromv (fun (tov : Int) (x : Int) => some tov) F 0 0
theorem frame_turned_pc {F : Nat} {s : FrSky} {fromv : Int} {r : Int} (h : frame_turned F s fromv = some r) : PC Try.prog 88 [FrSky.d s, .v (.int .u32 fromv)] (.v (.int .u32 r)) := by
 rw [frame_turned] at h
 refine SC.of_sw Try.func88 R R R ?_
 dsimp only [argS, List.map]
 refine qG (q_box R (q_asgD R (eN (sw_scope (sw_seq (sw_label (then_norm (sw_seq (qG (q_fa tb R (q_ldD (y := .arr 3 ((s.dirs).map FlDir.d)) tb R (q_lenM tb R (q_movD R (eN (sw_block ?_)))))))))))))))
 obtain ⟨K5, hK5, h⟩ : ∃ K, K = _ ∧ frame_turned_L2 F s fromv K F 0 0 = some r := ⟨_, rfl, h⟩
 refine sw_loopS (fun m st => ∃ (tov : Int) (x : Int), frame_turned_L2 F s fromv K5 m tov x = some r ∧ st = ⟨[(1, .d (.v (.int .u32 fromv))), (2, .ref 0 3 0 0), (4, .d (.v (.int .u32 tov))), (10, .d (.arr 3 ((s.dirs).map FlDir.d))), (11, .d (vI (s.dirs.length : Int))), (12, .d (vI x))], [some ⟨3, [.d (FrSky.d s)]⟩]⟩) (.prn [1, 2, 4, 10, 11, 12] R) ⟨0, 0, h, R⟩ ?_
 clear h
 rintro m5 st ⟨tov, x, h, rfl⟩
 cases m5 with
 | zero => cases (show (none : Option Int) = some r from h)
 | succ m5 =>
 rw [frame_turned_L2] at h
 refine qG ?_
 refine r_lss R R R R ?_ ?_
 ·intro c
  replace h := ifP c h
  refine eN (sw_seq (sw_condT R (sw_skip (then_norm (sw_seq (sw_block (qG (q_movD R ?_))))))))
  obtain ⟨e, ie, h⟩ := bnd h
  refine q_ixE tb (ix0 ie) (ix1m ie) R (q_ldE (y := FlDir.d e) tb (ix2 (g := FlDir.d) ie) R (r_alloc tb R R R R R (q_asgD R (q_stE _ _ tb R (eN (qG (q_fa tb R (q_ldD (y := .arr 3 ((s.dirs).map FlDir.d)) tb R (q_lenM tb R (q_movD R (eN (sw_block ?_))))))))))))
  obtain ⟨K6, hK6, h⟩ : ∃ K, K = _ ∧ frame_turned_L1 F s fromv x e K F tov 0 = some r := ⟨_, rfl, h⟩
  refine sw_loopS (fun m st => ∃ (tov2 : Int) (x2 : Int), frame_turned_L1 F s fromv x e K6 m tov2 x2 = some r ∧ st = ⟨[(1, .d (.v (.int .u32 fromv))), (2, .ref 0 3 0 0), (4, .d (.v (.int .u32 tov2))), (5, .d (vI x)), (6, .ref 1 3 0 0), (10, .d (.arr 3 ((s.dirs).map FlDir.d))), (11, .d (vI (s.dirs.length : Int))), (12, .d (vI x)), (18, .d (.arr 3 ((s.dirs).map FlDir.d))), (19, .d (vI (s.dirs.length : Int))), (20, .d (vI x2))], [some ⟨3, [.d (FrSky.d s)]⟩, some ⟨3, [.d (FlDir.d e)]⟩]⟩) (.prn [1, 2, 4, 5, 6, 10, 11, 12, 18, 19, 20] R) ⟨tov, 0, h, R⟩ ?_
  clear h
  rintro m6 st ⟨tov2, x2, h, rfl⟩
  cases m6 with
  | zero => cases (show (none : Option Int) = some r from h)
  | succ m6 =>
  rw [frame_turned_L1] at h
  refine qG ?_
  refine r_lss R R R R ?_ ?_
  ·intro c2
   replace h := ifP c2 h
   refine eN (sw_seq (sw_condT R (sw_skip (then_norm (sw_seq (sw_block (qG (q_movD R ?_))))))))
   obtain ⟨e2, ie2, h⟩ := bnd h
   refine q_ixE tb (ix0 ie2) (ix1m ie2) R (q_ldE (y := FlDir.d e2) tb (ix2 (g := FlDir.d) ie2) R (r_alloc tb R R R R R (q_asgD R (q_stE _ _ tb R (eN (sw_seq (sw_dr (by kernel_rfl) (q_movD R (q_movD R ?_)))))))))
   by_cases c3 : x2 < 0
   ·cases (if_pos c3).symm.trans h
   replace h := ifN c3 h
   refine r_shr R R c3 R R (r_and R R R R ?_)
   refine r_gtr R R R R ?_ ?_
   ·intro c4
    replace h := ifP c4 h
    refine q_movD R (q_ldD (y := FlDir.d e2) tb R (q_ldD (y := FlDir.d e) tb R ?_))
    obtain ⟨rv, hrv, h⟩ := bnd h
    refine r_call (frame_axis_times_pc hrv) (.of (by kernel_rfl)) R R R R (q_fa tb R (q_ldD (y := vI s.turn) tb R ?_))
    refine r_geq R R R R ?_ ?_
    ·intro c5
     replace h := ifP c5 h
     refine q_pickT R (ev_endD (by kernel_rfl) (then_norm (sw_condT R (qG (q_movD R (q_movD R ?_))))))
     by_cases c6 : x < 0
     ·cases (if_pos c6).symm.trans h
     replace h := ifN c6 h
     refine r_shl R R c6 R R (r_or R R R R (q_asgD R (eN (sw_exit (block_other R (then_exit (then_exit ?_)))))))
     dsimp only [W] at h ⊢
     generalize (ior .u32 tov2 (ishl .u32 1 x)) = tov2 at h ⊢
     subst hK6
     refine block_other R (block_exit (then_norm (sw_rg (q_add R (q_movD R (eN ?_))))))
     exact ⟨m5, ⟨[(1, .d (.v (.int .u32 fromv))), (2, .ref 0 3 0 0), (4, .d (.v (.int .u32 tov2))), (10, .d (.arr 3 ((s.dirs).map FlDir.d))), (11, .d (vI (s.dirs.length : Int))), (12, .d (vI (W (x + 1))))], [some ⟨3, [.d (FrSky.d s)]⟩]⟩, Nat.lt_succ_self _, .vw (κ := [0]) (vK (.cons R R .nil) R), tov2, (W (x + 1)), h, R⟩
    intro c5
    replace h := ifN (Int.not_le.2 c5) h
    refine q_pickT R (ev_endD (by kernel_rfl) (then_norm (sw_condF R (sw_skip (block_norm (then_norm (sw_rg (q_add R (q_movD R (eN ?_))))))))))
    exact ⟨m6, ⟨[(1, .d (.v (.int .u32 fromv))), (2, .ref 0 3 0 0), (4, .d (.v (.int .u32 tov2))), (5, .d (vI x)), (6, .ref 1 3 0 0), (10, .d (.arr 3 ((s.dirs).map FlDir.d))), (11, .d (vI (s.dirs.length : Int))), (12, .d (vI x)), (18, .d (.arr 3 ((s.dirs).map FlDir.d))), (19, .d (vI (s.dirs.length : Int))), (20, .d (vI (W (x2 + 1))))], [some ⟨3, [.d (FrSky.d s)]⟩, some ⟨3, [.d (FlDir.d e)]⟩]⟩, Nat.lt_succ_self _, .vw (κ := [0, 1]) (vK (.cons R R (.cons R R .nil)) R), tov2, (W (x2 + 1)), h, R⟩
   intro c4
   replace h := ifN (Int.not_lt.2 c4) h
   refine q_movD R (q_sk 6 R (q_pickF R (ev_endD (by kernel_rfl) (then_norm (sw_condF R (sw_skip (block_norm (then_norm (sw_rg (q_add R (q_movD R (eN ?_))))))))))))
   exact ⟨m6, ⟨[(1, .d (.v (.int .u32 fromv))), (2, .ref 0 3 0 0), (4, .d (.v (.int .u32 tov2))), (5, .d (vI x)), (6, .ref 1 3 0 0), (10, .d (.arr 3 ((s.dirs).map FlDir.d))), (11, .d (vI (s.dirs.length : Int))), (12, .d (vI x)), (18, .d (.arr 3 ((s.dirs).map FlDir.d))), (19, .d (vI (s.dirs.length : Int))), (20, .d (vI (W (x2 + 1))))], [some ⟨3, [.d (FrSky.d s)]⟩, some ⟨3, [.d (FlDir.d e)]⟩]⟩, Nat.lt_succ_self _, .vw (κ := [0, 1]) (vK (.cons R R (.cons R R .nil)) R), tov2, (W (x2 + 1)), h, R⟩
  intro c2
  replace h := ifN (Int.not_lt.2 c2) h
  refine eN (sw_seq (sw_condF R (sw_exit (then_exit (then_exit ?_)))))
  subst hK6
  refine block_exit (block_norm (then_norm (sw_rg (q_add R (q_movD R (eN ?_))))))
  exact ⟨m5, ⟨[(1, .d (.v (.int .u32 fromv))), (2, .ref 0 3 0 0), (4, .d (.v (.int .u32 tov2))), (10, .d (.arr 3 ((s.dirs).map FlDir.d))), (11, .d (vI (s.dirs.length : Int))), (12, .d (vI (W (x + 1))))], [some ⟨3, [.d (FrSky.d s)]⟩]⟩, Nat.lt_succ_self _, .vw (κ := [0]) (vK (.cons R R .nil) R), tov2, (W (x + 1)), h, R⟩
 intro c
 replace h := ifN (Int.not_lt.2 c) h
 refine eN (sw_seq (sw_condF R (sw_exit (then_exit (then_exit ?_)))))
 subst hK5
 refine block_exit (then_norm (qG (q_movD R (q_asgD R (eN (sw_ret ?_))))))
 obtain rfl := sI h
 exact f1 4 R
def frame_fits_L1 (F : Nat) (t : FrFormat) (o : FrSky) (a : FlDir) (rv : FrReport) (K : Int → Option Bool) : Nat → Int → Option Bool
 | 0, _ => none
 | n + 1, x => if x < (o.sensors.length : Int) then (Option.bind (ixO o.sensors x) fun e => Option.bind (ixO t.channels e.channel) fun e2 => Option.bind (frame_in F e2 rv.number) fun rv2 => if rv2 = true then (Option.bind (frame_axis_times F a (FlDir.mk e.x e.y e.z)) fun rv3 => if e.sun = true then (Option.bind (ixO rv.words e2.word) fun e3 => Option.bind (frame_out_int F (W ((max rv3 0) - (W ((W (10000 * e.scale)) * (W (e3 - 32768)))))) (W ((-10000) * e.error)) (W (10000 * e.error))) fun rv4 => if rv4 = true then (some false) else (frame_fits_L1 F t o a rv K n (W (x + 1)))) else (Option.bind (ixO rv.words e2.word) fun e4 => Option.bind (frame_out_int F (W (rv3 - (W ((W (10000 * e.scale)) * (W (e4 - 32768)))))) (W ((-10000) * e.error)) (W (10000 * e.error))) fun rv5 => if rv5 = true then (some false) else (frame_fits_L1 F t o a rv K n (W (x + 1))))) else (frame_fits_L1 F t o a rv K n (W (x + 1)))) else (K x)
def frame_fits (F : Nat) (t : FrFormat) (o : FrSky) (a : FlDir) (rv : FrReport) : Option Bool := frame_fits_L1 F t o a rv (fun (x : Int) => some true) F 0
theorem frame_fits_pc {F : Nat} {t : FrFormat} {o : FrSky} {a : FlDir} {rv : FrReport} {r : Bool} (h : frame_fits F t o a rv = some r) : PC Try.prog 89 [FrFormat.d t, FrSky.d o, FlDir.d a, FrReport.d rv] (.v (.bool r)) := by
 rw [frame_fits] at h
 refine SC.of_sw Try.func89 R R R ?_
 dsimp only [argS, List.map]
 refine qG (q_box R (q_box R (q_box R (q_box R (q_asgD R (eN (sw_seq (qG (q_fa tb R (q_ldD (y := .arr 7 ((o.sensors).map FrSensor.d)) tb R (q_lenM tb R (q_movD R (eN (sw_block ?_))))))))))))))
 obtain ⟨K2, hK2, h⟩ : ∃ K, K = _ ∧ frame_fits_L1 F t o a rv K F 0 = some r := ⟨_, rfl, h⟩
 refine sw_loopS (st0 := ⟨[(4, .ref 0 4 0 0), (6, .ref 1 3 0 0), (7, .ref 2 5 0 0), (8, .d (.v (.bool false))), (14, .d (.arr 7 ((o.sensors).map FrSensor.d))), (15, .d (vI (o.sensors.length : Int))), (16, .d (vI 0))], [some ⟨4, [.d (FrFormat.d t)]⟩, some ⟨3, [.d (FlDir.d a)]⟩, some ⟨5, [.d (FrReport.d rv)]⟩]⟩) (fun m st => ∃ (x : Int), frame_fits_L1 F t o a rv K2 m x = some r ∧ st = ⟨[(4, .ref 0 4 0 0), (6, .ref 1 3 0 0), (7, .ref 2 5 0 0), (8, .d (.v (.bool false))), (14, .d (.arr 7 ((o.sensors).map FrSensor.d))), (15, .d (vI (o.sensors.length : Int))), (16, .d (vI x))], [some ⟨4, [.d (FrFormat.d t)]⟩, some ⟨3, [.d (FlDir.d a)]⟩, some ⟨5, [.d (FrReport.d rv)]⟩]⟩) (.vw (κ := [0, 2, 3]) (vK (.cons R R (.cons R R (.cons R R .nil))) R)) ⟨0, h, R⟩ ?_
 clear h
 rintro m2 st ⟨x, h, rfl⟩
 cases m2 with
 | zero => cases (show (none : Option Bool) = some r from h)
 | succ m2 =>
 rw [frame_fits_L1] at h
 refine qG ?_
 refine r_lss R R R R ?_ ?_
 ·intro c
  replace h := ifP c h
  refine eN (sw_seq (sw_condT R (sw_skip (then_norm (sw_seq (sw_block (qG ?_)))))))
  obtain ⟨e, ie, h⟩ := bnd h
  refine q_ixE tb (ix0 ie) (ix1m ie) R (q_ldE (y := FrSensor.d e) tb (ix2 (g := FrSensor.d) ie) R (r_alloc tb R R R R R (q_stE _ _ tb R (eN (qG (q_fa tb R (q_ldD (y := .arr 4 ((t.channels).map FrChannel.d)) tb R (q_fa tb R (q_ldD (y := vI e.channel) tb R ?_)))))))))
  obtain ⟨e2, ie2, h⟩ := bnd h
  refine q_ixE tb (ix0 ie2) (ix1m ie2) R (q_ldE (y := FrChannel.d e2) tb (ix2 (g := FrChannel.d) ie2) R (r_alloc tb R R R R R (q_stE _ _ tb R (eN (sw_seq (qG (q_ldD (y := FrChannel.d e2) tb R (q_fa tb R (q_ldD (y := vI rv.number) tb R ?_)))))))))
  obtain ⟨rv2, hrv2, h⟩ := bnd h
  refine r_callB (frame_in_pc hrv2) (.of (by kernel_rfl)) R R R R ?_ ?_
  ·intro c2
   replace h := ifP c2 h
   refine r_notT R R R (eN (sw_condF R (sw_skip (then_norm (qG (q_ldD (y := FlDir.d a) tb R (q_fa tb R (q_ldD (y := vI e.x) tb R (q_fa tb R (q_ldD (y := vI e.y) tb R (q_fa tb R (q_ldD (y := vI e.z) tb R (r_build (v := .d (.agg [vI e.x, vI e.y, vI e.z])) tb R R (List.cons_ne_nil _ _) R R R R R R ?_)))))))))))))
   obtain ⟨rv3, hrv3, h⟩ := bnd h
   refine r_call (frame_axis_times_pc hrv3) (.of (by kernel_rfl)) R R R R (q_asgD R (eN (sw_seq (qG (q_fa tb R (q_ldD (y := .v (.bool e.sun)) tb R ?_))))))
   with_reducible apply ev_lit
   ·intro c3
    replace h := ifP c3 h
    refine eN (sw_condT R (sw_rg (q_movD R (r_max2 R R R R (q_asgD R (eN (sw_seq (sw_dr (by kernel_rfl) (q_movD R (q_fa tb R (q_ldD (y := vI e.scale) tb R (r_mul R R R R (q_fa tb R (q_ldD (y := .arr 1 ((rv.words).map vI)) tb R (q_fa tb R (q_ldD (y := vI e2.word) tb R ?_))))))))))))))))
    obtain ⟨e3, ie3, h⟩ := bnd h
    refine q_ixE tb (ix0 ie3) (ix1m ie3) R (q_ldE (y := vI e3) tb (ix2 (g := vI) ie3) R (r_sub R R R R (r_mul R R R R (r_sub R R R R (q_asgD R (ev_endD (by kernel_rfl) (then_norm (qG (q_movD R (q_fa tb R (q_ldD (y := vI e.error) tb R (r_mul R R R R (q_fa tb R (q_ldD (y := vI e.error) tb R (r_mul R R R R ?_)))))))))))))))
    obtain ⟨rv4, hrv4, h⟩ := bnd h
    refine r_callB (frame_out_int_pc hrv4) (.of (by kernel_rfl)) R R R R ?_ ?_
    ·intro c4
     replace h := ifP c4 h
     refine eN (sw_condT R (qG (q_asgD R (eN (sw_ret (block_ret (then_ret (then_ret (block_ret (then_ret ?_))))))))))
     obtain rfl := sI h
     exact f1 8 R
    intro c4
    replace h := ifF c4 h
    refine eN (sw_condF R (sw_skip (block_norm (then_norm (sw_rg (q_add R (q_movD R (eN ?_))))))))
    exact ⟨m2, ⟨[(4, .ref 0 4 0 0), (6, .ref 1 3 0 0), (7, .ref 2 5 0 0), (8, .d (.v (.bool false))), (14, .d (.arr 7 ((o.sensors).map FrSensor.d))), (15, .d (vI (o.sensors.length : Int))), (16, .d (vI (W (x + 1))))], [some ⟨4, [.d (FrFormat.d t)]⟩, some ⟨3, [.d (FlDir.d a)]⟩, some ⟨5, [.d (FrReport.d rv)]⟩]⟩, Nat.lt_succ_self _, .vw (κ := [0, 1, 2]) (vK (.cons R R (.cons R R (.cons R R .nil))) R), (W (x + 1)), h, R⟩
   intro c3
   replace h := ifF c3 h
   refine eN (sw_condF R (sw_skip (then_norm (sw_seq (sw_dr (by kernel_rfl) (q_movD R (q_fa tb R (q_ldD (y := vI e.scale) tb R (r_mul R R R R (q_fa tb R (q_ldD (y := .arr 1 ((rv.words).map vI)) tb R (q_fa tb R (q_ldD (y := vI e2.word) tb R ?_)))))))))))))
   obtain ⟨e4, ie4, h⟩ := bnd h
   refine q_ixE tb (ix0 ie4) (ix1m ie4) R (q_ldE (y := vI e4) tb (ix2 (g := vI) ie4) R (r_sub R R R R (r_mul R R R R (r_sub R R R R (q_asgD R (ev_endD (by kernel_rfl) (then_norm (qG (q_movD R (q_fa tb R (q_ldD (y := vI e.error) tb R (r_mul R R R R (q_fa tb R (q_ldD (y := vI e.error) tb R (r_mul R R R R ?_)))))))))))))))
   obtain ⟨rv5, hrv5, h⟩ := bnd h
   refine r_callB (frame_out_int_pc hrv5) (.of (by kernel_rfl)) R R R R ?_ ?_
   ·intro c5
    replace h := ifP c5 h
    refine eN (sw_condT R (qG (q_asgD R (eN (sw_ret (block_ret (then_ret (then_ret (block_ret (then_ret ?_))))))))))
    obtain rfl := sI h
    exact f1 8 R
   intro c5
   replace h := ifF c5 h
   refine eN (sw_condF R (sw_skip (block_norm (then_norm (sw_rg (q_add R (q_movD R (eN ?_))))))))
   exact ⟨m2, ⟨[(4, .ref 0 4 0 0), (6, .ref 1 3 0 0), (7, .ref 2 5 0 0), (8, .d (.v (.bool false))), (14, .d (.arr 7 ((o.sensors).map FrSensor.d))), (15, .d (vI (o.sensors.length : Int))), (16, .d (vI (W (x + 1))))], [some ⟨4, [.d (FrFormat.d t)]⟩, some ⟨3, [.d (FlDir.d a)]⟩, some ⟨5, [.d (FrReport.d rv)]⟩]⟩, Nat.lt_succ_self _, .vw (κ := [0, 1, 2]) (vK (.cons R R (.cons R R (.cons R R .nil))) R), (W (x + 1)), h, R⟩
  intro c2
  replace h := ifF c2 h
  refine r_notF R R R (eN (sw_condT R (sw_exit (then_exit (block_exit (then_norm (sw_rg (q_add R (q_movD R (eN ?_))))))))))
  exact ⟨m2, ⟨[(4, .ref 0 4 0 0), (6, .ref 1 3 0 0), (7, .ref 2 5 0 0), (8, .d (.v (.bool false))), (14, .d (.arr 7 ((o.sensors).map FrSensor.d))), (15, .d (vI (o.sensors.length : Int))), (16, .d (vI (W (x + 1))))], [some ⟨4, [.d (FrFormat.d t)]⟩, some ⟨3, [.d (FlDir.d a)]⟩, some ⟨5, [.d (FrReport.d rv)]⟩]⟩, Nat.lt_succ_self _, .vw (κ := [0, 1, 2]) (vK (.cons R R (.cons R R (.cons R R .nil))) R), (W (x + 1)), h, R⟩
 intro c
 replace h := ifN (Int.not_lt.2 c) h
 refine eN (sw_seq (sw_condF R (sw_exit (then_exit (then_exit ?_)))))
 subst hK2
 refine block_exit (then_norm (qG (q_asgD R (eN (sw_ret ?_)))))
 obtain rfl := sI h
 exact f1 8 R
def frame_Axes_J1 (F : Nat) (B22 : Int → (List Int) → Int → Option ((List FrAxes) × Int)) (lv : (List Int)) (x8 : Int) (x9 : Int) : Option ((List FrAxes) × Int) := if x8 < 0 then none else (if 0 < (iand .u32 (ishr .u32 x9 x8) 1) then (Option.bind (appO lv [x8]) fun q => B22 x9 q (W (x8 + 1))) else (B22 x9 lv (W (x8 + 1))))
def frame_Axes_L1 (F : Nat) (t : FrFormat) (o : FrSky) (e : FrReport) (x5 : Int) (K : Int → (List Int) → Int → Option ((List FrAxes) × Int)) : Nat → Int → (List Int) → Int → Option ((List FrAxes) × Int)
 | 0, _, _, _ => none
 | n + 1, x7, lv, x8 => if x8 < (o.dirs.length : Int) then (Option.bind (ixO o.dirs x8) fun e3 => if x5 = e.number then (if e.marked = true then (frame_Axes_J1 F (frame_Axes_L1 F t o e x5 K n) lv x8 x7) else (Option.bind (frame_fits F t o e3 e) fun rv4 => if rv4 = true then (frame_Axes_J1 F (frame_Axes_L1 F t o e x5 K n) lv x8 x7) else (if x8 < 0 then none else (frame_Axes_J1 F (frame_Axes_L1 F t o e x5 K n) lv x8 (iandN .u32 x7 (ishl .u32 1 x8)))))) else (frame_Axes_J1 F (frame_Axes_L1 F t o e x5 K n) lv x8 x7)) else (K x7 lv x8)
def frame_Axes_J2 (F : Nat) (B18 : (List FrAxes) → Int → Int → Option ((List FrAxes) × Int)) (t : FrFormat) (o : FrSky) (e : FrReport) (y2 : (List FrAxes)) (x5 : Int) (x6 : Int) : Option ((List FrAxes) × Int) := frame_Axes_L1 F t o e x5 (fun (x7 : Int) (lv : (List Int)) (x8 : Int) => Option.bind (appO y2 [(FrAxes.mk x5 lv)]) fun q2 => B18 q2 x7 (W (x5 + 1))) F x6 ([] : List Int) 0
def frame_Axes_L2 (F : Nat) (t : FrFormat) (o : FrSky) (e : FrReport) (K : (List FrAxes) → Int → Int → Option ((List FrAxes) × Int)) : Nat → (List FrAxes) → Int → Int → Option ((List FrAxes) × Int)
 | 0, _, _, _ => none
 | n + 1, y2, x4, x5 => if x5 ≤ e.number then (if 0 < (y2.length : Int) then (Option.bind (frame_turned F o x4) fun rv3 => frame_Axes_J2 F (frame_Axes_L2 F t o e K n) t o e y2 x5 rv3) else (frame_Axes_J2 F (frame_Axes_L2 F t o e K n) t o e y2 x5 x4)) else (K y2 x4 x5)
def frame_Axes_J3 (F : Nat) (B12 : (List FrAxes) → Int → Int → Option ((List FrAxes) × Int)) (t : FrFormat) (o : FrSky) (y : (List FrAxes)) (x : Int) (x2 : Int) (e : FrReport) (x3 : Int) : Option ((List FrAxes) × Int) := frame_Axes_L2 F t o e (fun (y2 : (List FrAxes)) (x4 : Int) (x5 : Int) => B12 y2 x4 (W (x2 + 1))) F y x x3
def frame_Axes_L3 (F : Nat) (t : FrFormat) (o : FrSky) (a : (List FrReport)) (K : (List FrAxes) → Int → Int → Option ((List FrAxes) × Int)) : Nat → (List FrAxes) → Int → Int → Option ((List FrAxes) × Int)
 | 0, _, _, _ => none
 | n + 1, y, x, x2 => if x2 < (a.length : Int) then (Option.bind (ixO a x2) fun e => if 0 < x2 then (Option.bind (ixO a (W (x2 - 1))) fun e2 => frame_Axes_J3 F (frame_Axes_L3 F t o a K n) t o y x x2 e (W (e2.number + 1))) else (frame_Axes_J3 F (frame_Axes_L3 F t o a K n) t o y x x2 e e.number)) else (K y x x2)
def frame_Axes (F : Nat) (t : FrFormat) (o : FrSky) (a : (List FrReport)) : Option ((List FrAxes) × Int) := Option.bind (frame_CheckSky F t o) fun rv => if rv.2 = 0 then (Option.bind (frame_reports F t a) fun rv2 => if rv2 = 0 then (if (o.dirs.length : Int) < 0 then none else (frame_Axes_L3 F t o a (fun (y : (List FrAxes)) (x : Int) (x2 : Int) => some (y, 0)) F ([] : List FrAxes) (IntKind.u32.wrap ((ishl .u32 1 (o.dirs.length : Int)) - 1)) 0)) else (some (([] : List FrAxes), rv2))) else (some (([] : List FrAxes), rv.2))
theorem frame_Axes_scr {F : Nat} {t : FrFormat} {o : FrSky} {a : (List FrReport)} {r : ((List FrAxes) × Int)} (h : frame_Axes F t o a = some r) : SCR Try.prog 43 (List.map T.d [FrFormat.d t, FrSky.d o, .arr 5 ((a).map FrReport.d)]) [] (.tup [.row 0 2 0 (r.1).length, .d (.v (.int .i64 r.2))]) (List.map some [(lFrAxesd r.1)]) := by
 rw [frame_Axes] at h
 refine SC.of_sw Try.func43 R R R ?_
 dsimp only [argS, List.map]
 refine qG (q_box R (q_box R (q_asgD R (q_asgD R (eN (sw_seq (qG (q_ldD (y := FrFormat.d t) tb R (q_ldD (y := FrSky.d o) tb R ?_)))))))))
 obtain ⟨rv, hrv, h⟩ := bnd h
 refine r_call (frame_CheckSky_pc hrv) (.of (by kernel_rfl)) R R R R (q_movD R (r_extD (t := vI rv.1) R R R R (r_extD (t := vI rv.2) R R R R (q_asgD R (eN (qG (q_movD R ?_)))))))
 refine r_neq R R R R ?_ ?_
 ·intro c
  replace h := ifN c h
  refine eN (sw_condT R (qG (q_movD R (q_asgD R (q_asgD R (eN ?_))))))
  refine SW.own (ts' := [(6, .row 2 2 0 (([] : List FrAxes)).length), (7, .d (vI rv.2))]) (L' := [some ⟨4, [.d (FrFormat.d t)]⟩, some ⟨3, [.d (FrSky.d o)]⟩]) 2 R R (.cons .nil (.cons (.same _) .nil)) (.same (.same .nil)) ?_
  simp only [List.cons_append, List.nil_append]
  refine sw_ret (then_ret ?_)
  obtain rfl := sI h
  exact f2 [2] (.row R .nil) R (.cons (.tmp 6) (.cons (.tmp 7) .nil)) R
 intro c
 replace h := ifP c h
 refine eN (sw_condF R (sw_skip (then_norm (sw_seq (qG (q_ldD (y := FrFormat.d t) tb R (q_movD R ?_)))))))
 obtain ⟨rv2, hrv2, h⟩ := bnd h
 refine r_call (frame_reports_pc hrv2) (.of (by kernel_rfl)) R R R R (q_asgD R (eN (qG (q_movD R ?_))))
 refine r_neq R R R R ?_ ?_
 ·intro c2
  replace h := ifN c2 h
  refine eN (sw_condT R (qG (q_movD R (q_asgD R (q_asgD R (eN ?_))))))
  refine SW.own (ts' := [(6, .row 2 2 0 (([] : List FrAxes)).length), (7, .d (vI rv2))]) (L' := [some ⟨4, [.d (FrFormat.d t)]⟩, some ⟨3, [.d (FrSky.d o)]⟩]) 2 R R (.cons .nil (.cons (.same _) .nil)) (.same (.same .nil)) ?_
  simp only [List.cons_append, List.nil_append]
  refine sw_ret (then_ret ?_)
  obtain rfl := sI h
  exact f2 [2] (.row R .nil) R (.cons (.tmp 6) (.cons (.tmp 7) .nil)) R
 intro c2
 replace h := ifP c2 h
 refine eN (sw_condF R (sw_skip (then_norm (qG (q_fa tb R (q_ldD (y := .arr 3 ((o.dirs).map FlDir.d)) tb R (q_lenM tb R ?_)))))))
 by_cases c3 : (o.dirs.length : Int) < 0
 ·cases (if_pos c3).symm.trans h
 replace h := ifN c3 h
 refine r_shl R R c3 R R (r_sub R R R R (q_asgD R (eN (sw_seq (qG (q_movD R (q_lenM tb R (q_movD R (eN (sw_block ?_))))))))))
 refine SW.own (ts' := [(2, .d (.arr 5 ((a).map FrReport.d))), (3, .ref 0 4 0 0), (4, .ref 1 3 0 0), (6, .row 2 2 0 (([] : List FrAxes)).length), (7, .d (vI rv2)), (8, .d (.v (.int .u32 (IntKind.u32.wrap ((ishl .u32 1 (o.dirs.length : Int)) - 1))))), (35, .d (.arr 5 ((a).map FrReport.d))), (36, .d (vI (a.length : Int))), (37, .d (vI 0))]) (L' := [some ⟨4, [.d (FrFormat.d t)]⟩, some ⟨3, [.d (FrSky.d o)]⟩]) 2 R R (.cons (.same _) (.cons (.same _) (.cons (.same _) (.cons .nil (.cons (.same _) (.cons (.same _) (.cons (.same _) (.cons (.same _) (.cons (.same _) .nil))))))))) (.same (.same .nil)) ?_
 simp only [List.cons_append, List.nil_append]
 obtain ⟨K12, hK12, h⟩ : ∃ K, K = _ ∧ frame_Axes_L3 F t o a K F ([] : List FrAxes) (IntKind.u32.wrap ((ishl .u32 1 (o.dirs.length : Int)) - 1)) 0 = some r := ⟨_, rfl, h⟩
 refine sw_loopS (fun m st => ∃ (y : (List FrAxes)) (x : Int) (x2 : Int), frame_Axes_L3 F t o a K12 m y x x2 = some r ∧ st = ⟨[(2, .d (.arr 5 ((a).map FrReport.d))), (3, .ref 0 4 0 0), (4, .ref 1 3 0 0), (6, .row 2 2 0 (y).length), (7, .d (vI rv2)), (8, .d (.v (.int .u32 x))), (35, .d (.arr 5 ((a).map FrReport.d))), (36, .d (vI (a.length : Int))), (37, .d (vI x2))], [some ⟨4, [.d (FrFormat.d t)]⟩, some ⟨3, [.d (FrSky.d o)]⟩, some (lFrAxesd y)]⟩) (.prn [2, 3, 4, 6, 7, 8, 35, 36, 37] R) ⟨([] : List FrAxes), (IntKind.u32.wrap ((ishl .u32 1 (o.dirs.length : Int)) - 1)), 0, h, R⟩ ?_
 clear h
 rintro m12 st ⟨y, x, x2, h, rfl⟩
 cases m12 with
 | zero => cases (show (none : Option ((List FrAxes) × Int)) = some r from h)
 | succ m12 =>
 rw [frame_Axes_L3] at h
 refine qG ?_
 refine r_lss R R R R ?_ ?_
 ·intro c4
  replace h := ifP c4 h
  refine eN (sw_seq (sw_condT R (sw_skip (then_norm (sw_seq (sw_block (qG (q_movD R ?_))))))))
  obtain ⟨e, ie, h⟩ := bnd h
  refine q_ixE tb (ix0 ie) (ix1m ie) R (q_ldE (y := FrReport.d e) tb (ix2 (g := FrReport.d) ie) R (r_alloc tb R R R R R (q_asgD R (q_stE _ _ tb R (eN (qG (q_fa tb R (q_ldD (y := vI e.number) tb R (q_asgD R (eN (sw_seq ?_)))))))))))
  refine sw_join (fun zz : Int => frame_Axes_J3 F (frame_Axes_L3 F t o a K12 m12) t o y x x2 e zz = some r) (fun zz : Int => ⟨[(2, .d (.arr 5 ((a).map FrReport.d))), (3, .ref 0 4 0 0), (4, .ref 1 3 0 0), (6, .row 2 2 0 (y).length), (7, .d (vI rv2)), (8, .d (.v (.int .u32 x))), (10, .ref 3 5 0 0), (11, .d (vI zz)), (35, .d (.arr 5 ((a).map FrReport.d))), (36, .d (vI (a.length : Int))), (37, .d (vI x2))], [some ⟨4, [.d (FrFormat.d t)]⟩, some ⟨3, [.d (FrSky.d o)]⟩, some (lFrAxesd y), some ⟨5, [.d (FrReport.d e)]⟩]⟩) ?_ ?_
  ·clear h
   rintro x3 h
   rw [frame_Axes_J3] at h
   refine sw_block ?_
   obtain ⟨K18, hK18, h⟩ : ∃ K, K = _ ∧ frame_Axes_L2 F t o e K F y x x3 = some r := ⟨_, rfl, h⟩
   refine sw_loopS (fun m st => ∃ (y2 : (List FrAxes)) (x4 : Int) (x5 : Int), frame_Axes_L2 F t o e K18 m y2 x4 x5 = some r ∧ st = ⟨[(2, .d (.arr 5 ((a).map FrReport.d))), (3, .ref 0 4 0 0), (4, .ref 1 3 0 0), (6, .row 2 2 0 (y2).length), (7, .d (vI rv2)), (8, .d (.v (.int .u32 x4))), (10, .ref 3 5 0 0), (11, .d (vI x5)), (35, .d (.arr 5 ((a).map FrReport.d))), (36, .d (vI (a.length : Int))), (37, .d (vI x2))], [some ⟨4, [.d (FrFormat.d t)]⟩, some ⟨3, [.d (FrSky.d o)]⟩, some (lFrAxesd y2), some ⟨5, [.d (FrReport.d e)]⟩]⟩) (.prn [2, 3, 4, 6, 7, 8, 10, 11, 35, 36, 37] R) ⟨y, x, x3, h, R⟩ ?_
   clear h
   rintro m18 st ⟨y2, x4, x5, h, rfl⟩
   cases m18 with
   | zero => cases (show (none : Option ((List FrAxes) × Int)) = some r from h)
   | succ m18 =>
   rw [frame_Axes_L2] at h
   refine sw_seq (qG (q_movD R (q_fa tb R (q_ldD (y := vI e.number) tb R ?_))))
   refine r_leq R R R R ?_ ?_
   ·intro c6
    replace h := ifP c6 h
    refine eN (sw_condT R (sw_skip (then_norm (sw_seq (sw_block (sw_seq ?_))))))
    refine sw_join (fun zz : Int => frame_Axes_J2 F (frame_Axes_L2 F t o e K18 m18) t o e y2 x5 zz = some r) (fun zz : Int => ⟨[(2, .d (.arr 5 ((a).map FrReport.d))), (3, .ref 0 4 0 0), (4, .ref 1 3 0 0), (6, .row 2 2 0 (y2).length), (7, .d (vI rv2)), (8, .d (.v (.int .u32 zz))), (10, .ref 3 5 0 0), (11, .d (vI x5)), (35, .d (.arr 5 ((a).map FrReport.d))), (36, .d (vI (a.length : Int))), (37, .d (vI x2))], [some ⟨4, [.d (FrFormat.d t)]⟩, some ⟨3, [.d (FrSky.d o)]⟩, some (lFrAxesd y2), some ⟨5, [.d (FrReport.d e)]⟩]⟩) ?_ ?_
    ·clear h
     rintro x6 h
     rw [frame_Axes_J2] at h
     refine qG (q_movD R (r_build (v := .d (.agg [vI x5, .v (.slice none 0 0)])) tb R R (List.cons_ne_nil _ _) R R R R R R (r_alloc tb R R R R R (q_stE _ _ tb R (eN (sw_seq (qG (q_fa tb R (q_ldD (y := .arr 3 ((o.dirs).map FlDir.d)) tb R (q_lenM tb R (q_movD R (eN (sw_block ?_)))))))))))))
     refine SW.own (ts' := [(2, .d (.arr 5 ((a).map FrReport.d))), (3, .ref 0 4 0 0), (4, .ref 1 3 0 0), (6, .row 2 2 0 (y2).length), (7, .d (vI rv2)), (8, .d (.v (.int .u32 x6))), (10, .ref 3 5 0 0), (11, .d (vI x5)), (12, .ref 4 2 0 0), (35, .d (.arr 5 ((a).map FrReport.d))), (36, .d (vI (a.length : Int))), (37, .d (vI x2)), (68, .d (.arr 3 ((o.dirs).map FlDir.d))), (69, .d (vI (o.dirs.length : Int))), (70, .d (vI 0))]) (L' := [some ⟨4, [.d (FrFormat.d t)]⟩, some ⟨3, [.d (FrSky.d o)]⟩, some (lFrAxesd y2), some ⟨5, [.d (FrReport.d e)]⟩, some ⟨2, [.agg [.d (vI x5), .row 5 1 0 (([] : List Int)).length]]⟩]) 1 R R (.cons (.same _) (.cons (.same _) (.cons (.same _) (.cons (.same _) (.cons (.same _) (.cons (.same _) (.cons (.same _) (.cons (.same _) (.cons (.same _) (.cons (.same _) (.cons (.same _) (.cons (.same _) (.cons (.same _) (.cons (.same _) (.cons (.same _) .nil))))))))))))))) (.same (.same (.same (.same (.cons R (.cons (.aggDL (.cons (.same _) (.cons .nil .nil))) .nil) .nil))))) ?_
     simp only [List.cons_append, List.nil_append]
     obtain ⟨K22, hK22, h⟩ : ∃ K, K = _ ∧ frame_Axes_L1 F t o e x5 K F x6 ([] : List Int) 0 = some r := ⟨_, rfl, h⟩
     refine sw_loopS (fun m st => ∃ (x7 : Int) (lv : (List Int)) (x8 : Int), frame_Axes_L1 F t o e x5 K22 m x7 lv x8 = some r ∧ st = ⟨[(2, .d (.arr 5 ((a).map FrReport.d))), (3, .ref 0 4 0 0), (4, .ref 1 3 0 0), (6, .row 2 2 0 (y2).length), (7, .d (vI rv2)), (8, .d (.v (.int .u32 x7))), (10, .ref 3 5 0 0), (11, .d (vI x5)), (12, .ref 4 2 0 0), (35, .d (.arr 5 ((a).map FrReport.d))), (36, .d (vI (a.length : Int))), (37, .d (vI x2)), (68, .d (.arr 3 ((o.dirs).map FlDir.d))), (69, .d (vI (o.dirs.length : Int))), (70, .d (vI x8))], [some ⟨4, [.d (FrFormat.d t)]⟩, some ⟨3, [.d (FrSky.d o)]⟩, some (lFrAxesd y2), some ⟨5, [.d (FrReport.d e)]⟩, some ⟨2, [.agg [.d (vI x5), .row 5 1 0 (lv).length]]⟩, some (lvI lv)]⟩) (.prn [2, 3, 4, 6, 7, 8, 10, 11, 12, 35, 36, 37, 68, 69, 70] R) ⟨x6, ([] : List Int), 0, h, R⟩ ?_
     clear h
     rintro m22 st ⟨x7, lv, x8, h, rfl⟩
     cases m22 with
     | zero => cases (show (none : Option ((List FrAxes) × Int)) = some r from h)
     | succ m22 =>
     rw [frame_Axes_L1] at h
     refine qG ?_
     refine r_lss R R R R ?_ ?_
     ·intro c8
      replace h := ifP c8 h
      refine eN (sw_seq (sw_condT R (sw_skip (then_norm (sw_seq (sw_block (qG (q_movD R ?_))))))))
      obtain ⟨e3, ie3, h⟩ := bnd h
      refine q_ixE tb (ix0 ie3) (ix1m ie3) R (q_ldE (y := FlDir.d e3) tb (ix2 (g := FlDir.d) ie3) R (r_alloc tb R R R R R (q_asgD R (q_stE _ _ tb R (eN (sw_seq ?_))))))
      refine sw_join (fun zz : Int => frame_Axes_J1 F (frame_Axes_L1 F t o e x5 K22 m22) lv x8 zz = some r) (fun zz : Int => ⟨[(2, .d (.arr 5 ((a).map FrReport.d))), (3, .ref 0 4 0 0), (4, .ref 1 3 0 0), (6, .row 2 2 0 (y2).length), (7, .d (vI rv2)), (8, .d (.v (.int .u32 zz))), (10, .ref 3 5 0 0), (11, .d (vI x5)), (12, .ref 4 2 0 0), (13, .d (vI x8)), (35, .d (.arr 5 ((a).map FrReport.d))), (36, .d (vI (a.length : Int))), (37, .d (vI x2)), (68, .d (.arr 3 ((o.dirs).map FlDir.d))), (69, .d (vI (o.dirs.length : Int))), (70, .d (vI x8))], [some ⟨4, [.d (FrFormat.d t)]⟩, some ⟨3, [.d (FrSky.d o)]⟩, some (lFrAxesd y2), some ⟨5, [.d (FrReport.d e)]⟩, some ⟨2, [.agg [.d (vI x5), .row 5 1 0 (lv).length]]⟩, some (lvI lv)]⟩) ?_ ?_
      ·clear h
       rintro x9 h
       rw [frame_Axes_J1] at h
       refine qG (q_movD R (q_movD R ?_))
       by_cases c13 : x8 < 0
       ·cases (if_pos c13).symm.trans h
       replace h := ifN c13 h
       refine r_shr R R c13 R R (r_and R R R R ?_)
       refine r_gtr R R R R ?_ ?_
       ·intro c14
        replace h := ifP c14 h
        refine eN (sw_condT R (sw_rg (q_fa tb R (r_ldW tb R R R R R R R R R (q_movD R (r_bslice tb R R R R R R R R R R R R R ?_))))))
        obtain ⟨q, iq, h⟩ := bnd h
        refine r_apM (g := vI) (w := lv) (v := [x8]) ([some ⟨4, [.d (FrFormat.d t)]⟩, some ⟨3, [.d (FrSky.d o)]⟩, some (lFrAxesd y2), some ⟨5, [.d (FrReport.d e)]⟩, some ⟨2, [.agg [.d (vI x5), .row 5 1 0 (lv).length]]⟩, none, some (lvI [x8])]) tb R R R R R R R R R R R iq R R R R R (q_fa tb R (q_stE _ _ tb R (ev_end (block_norm (then_norm (sw_rg (q_add R (q_movD R (eN ?_)))))))))
        exact ⟨m22, ⟨[(2, .d (.arr 5 ((a).map FrReport.d))), (3, .ref 0 4 0 0), (4, .ref 1 3 0 0), (6, .row 2 2 0 (y2).length), (7, .d (vI rv2)), (8, .d (.v (.int .u32 x9))), (10, .ref 3 5 0 0), (11, .d (vI x5)), (12, .ref 4 2 0 0), (35, .d (.arr 5 ((a).map FrReport.d))), (36, .d (vI (a.length : Int))), (37, .d (vI x2)), (68, .d (.arr 3 ((o.dirs).map FlDir.d))), (69, .d (vI (o.dirs.length : Int))), (70, .d (vI (W (x8 + 1))))], [some ⟨4, [.d (FrFormat.d t)]⟩, some ⟨3, [.d (FrSky.d o)]⟩, some (lFrAxesd y2), some ⟨5, [.d (FrReport.d e)]⟩, some ⟨2, [.agg [.d (vI x5), .row 5 1 0 (q).length]]⟩, some (lvI q)]⟩, Nat.lt_succ_self _, .vw (κ := [0, 1, 2, 3, 4, 7]) (vK (.cons R R (.cons R R (.row R (.cons R R (.cons R R (.row R .nil)))))) R), x9, q, (W (x8 + 1)), h, R⟩
       intro c14
       replace h := ifN (Int.not_lt.2 c14) h
       refine eN (sw_condF R (sw_skip (block_norm (then_norm (sw_rg (q_add R (q_movD R (eN ?_))))))))
       exact ⟨m22, _, Nat.lt_succ_self _, .prn [2, 3, 4, 6, 7, 8, 10, 11, 12, 35, 36, 37, 68, 69, 70] R, x9, lv, (W (x8 + 1)), h, R⟩
      refine qG (q_movD R (q_fa tb R (q_ldD (y := vI e.number) tb R ?_)))
      refine r_eql R R R R ?_ ?_
      ·intro c9
       replace h := ifP c9 h
       refine q_movD R (q_fa tb R (q_ldD (y := .v (.bool e.marked)) tb R ?_))
       with_reducible apply ev_lit
       ·intro c10
        replace h := ifP c10 h
        refine r_notT R R R (q_pickT R (q_movD R (q_sk 6 R (q_pickF R (eN (sw_condF R (sw_skip (then_norm ?_))))))))
        exact .inl ⟨x7, h, .vw (κ := [0, 1, 2, 3, 4, 5]) (vK (.cons R R (.cons R R (.row R (.cons R R (.cons R R (.row R .nil)))))) R)⟩
       intro c10
       replace h := ifF c10 h
       refine r_notF R R R (q_pickT R (q_movD R (q_ldD (y := FrFormat.d t) tb R (q_ldD (y := FrSky.d o) tb R (q_ldD (y := FlDir.d e3) tb R (q_ldD (y := FrReport.d e) tb R ?_))))))
       obtain ⟨rv4, hrv4, h⟩ := bnd h
       refine r_callB (frame_fits_pc hrv4) (.of (by kernel_rfl)) R R R R ?_ ?_
       ·intro c11
        replace h := ifP c11 h
        refine r_notT R R R (q_pickT R (eN (sw_condF R (sw_skip (then_norm ?_)))))
        exact .inl ⟨x7, h, .vw (κ := [0, 1, 2, 3, 4, 5]) (vK (.cons R R (.cons R R (.row R (.cons R R (.cons R R (.row R .nil)))))) R)⟩
       intro c11
       replace h := ifF c11 h
       refine r_notF R R R (q_pickT R (eN (sw_condT R (sw_rg (q_movD R (q_movD R ?_))))))
       by_cases c12 : x8 < 0
       ·cases (if_pos c12).symm.trans h
       replace h := ifN c12 h
       refine r_shl R R c12 R R (r_andN R R R R (q_asgD R (eN ?_)))
       exact .inl ⟨(iandN .u32 x7 (ishl .u32 1 x8)), h, .vw (κ := [0, 1, 2, 3, 4, 5]) (vK (.cons R R (.cons R R (.row R (.cons R R (.cons R R (.row R .nil)))))) R)⟩
      intro c9
      replace h := ifN c9 h
      refine q_movD R (q_sk 3 R (q_pickF R (q_movD R (q_sk 6 R (q_pickF R (eN (sw_condF R (sw_skip (then_norm ?_)))))))))
      exact .inl ⟨x7, h, .vw (κ := [0, 1, 2, 3, 4, 5]) (vK (.cons R R (.cons R R (.row R (.cons R R (.cons R R (.row R .nil)))))) R)⟩
     intro c8
     replace h := ifN (Int.not_lt.2 c8) h
     refine eN (sw_seq (sw_condF R (sw_exit (then_exit (then_exit ?_)))))
     subst hK22
     refine block_exit (then_norm ?_)
     refine SW.fz (ts' := [(2, .d (.arr 5 ((a).map FrReport.d))), (3, .ref 0 4 0 0), (4, .ref 1 3 0 0), (6, .row 2 2 0 (y2).length), (7, .d (vI rv2)), (8, .d (.v (.int .u32 x7))), (10, .ref 3 5 0 0), (11, .d (vI x5)), (12, .ref 4 2 0 0), (35, .d (.arr 5 ((a).map FrReport.d))), (36, .d (vI (a.length : Int))), (37, .d (vI x2)), (68, .d (.arr 3 ((o.dirs).map FlDir.d))), (69, .d (vI (o.dirs.length : Int))), (70, .d (vI x8)), (71, .d (.v (.bool false)))]) (L' := [some ⟨4, [.d (FrFormat.d t)]⟩, some ⟨3, [.d (FrSky.d o)]⟩, some (lFrAxesd y2), some ⟨5, [.d (FrReport.d e)]⟩, some ⟨2, [.d (.agg [vI x5, .arr 1 ((lv).map vI)])]⟩, none]) (w := lv) (f := vI) 5 1 R (.cons (.same _) (.cons (.same _) (.cons (.same _) (.cons (.same _) (.cons (.same _) (.cons (.same _) (.cons (.same _) (.cons (.same _) (.cons (.same _) (.cons (.same _) (.cons (.same _) (.cons (.same _) (.cons (.same _) (.cons (.same _) (.cons (.same _) (.cons (.same _) .nil)))))))))))))))) (.same (.same (.same (.same (.cons R (.cons (.aggDL (.cons (.same _) (.cons (.all (List.length_map _)) .nil))) .nil) (.same .nil)))))) ?_
     refine sw_rg (r_movW R R R (q_ldD (y := .agg [vI x5, .arr 1 ((lv).map vI)]) tb R (r_bslice tb R R R R R R R R R R R R R ?_)))
     obtain ⟨q2, iq2, h⟩ := bnd h
     refine r_apM (g := FrAxes.d) (w := y2) (v := [(FrAxes.mk x5 lv)]) ([some ⟨4, [.d (FrFormat.d t)]⟩, some ⟨3, [.d (FrSky.d o)]⟩, none, some ⟨5, [.d (FrReport.d e)]⟩, some ⟨2, [.d (.agg [vI x5, .arr 1 ((lv).map vI)])]⟩, none, some (lFrAxesd [(FrAxes.mk x5 lv)])]) tb R R R R R R R R R R R iq2 R R R R R (r_asgW R R R (ev_end (block_norm (then_norm (sw_rg (q_movD R (q_add R (q_asgD R (eN ?_)))))))))
     exact ⟨m18, ⟨[(2, .d (.arr 5 ((a).map FrReport.d))), (3, .ref 0 4 0 0), (4, .ref 1 3 0 0), (6, .row 2 2 0 (q2).length), (7, .d (vI rv2)), (8, .d (.v (.int .u32 x7))), (10, .ref 3 5 0 0), (11, .d (vI (W (x5 + 1)))), (35, .d (.arr 5 ((a).map FrReport.d))), (36, .d (vI (a.length : Int))), (37, .d (vI x2))], [some ⟨4, [.d (FrFormat.d t)]⟩, some ⟨3, [.d (FrSky.d o)]⟩, some (lFrAxesd q2), some ⟨5, [.d (FrReport.d e)]⟩]⟩, Nat.lt_succ_self _, .vw (κ := [0, 1, 7, 3]) (vK (.cons R R (.cons R R (.row R (.cons R R .nil)))) R), q2, x7, (W (x5 + 1)), h, R⟩
    refine qG (r_movW R R R (r_lenR tb R R R R R ?_))
    refine r_gtr R R R R ?_ ?_
    ·intro c7
     replace h := ifP c7 h
     refine eN (sw_condT R (sw_rg (q_ldD (y := FrSky.d o) tb R (q_movD R ?_))))
     obtain ⟨rv3, hrv3, h⟩ := bnd h
     refine r_call (frame_turned_pc hrv3) (.of (by kernel_rfl)) R R R R (q_asgD R (eN ?_))
     exact .inl ⟨rv3, h, .prn [2, 3, 4, 6, 7, 8, 10, 11, 35, 36, 37] R⟩
    intro c7
    replace h := ifN (Int.not_lt.2 c7) h
    refine eN (sw_condF R (sw_skip (then_norm ?_)))
    exact .inl ⟨x4, h, .prn [2, 3, 4, 6, 7, 8, 10, 11, 35, 36, 37] R⟩
   intro c6
   replace h := ifN (Int.not_le.2 c6) h
   refine eN (sw_condF R (sw_exit (then_exit (then_exit ?_))))
   subst hK18
   refine block_exit (block_norm (then_norm (sw_rg (q_add R (q_movD R (eN ?_))))))
   exact ⟨m12, ⟨[(2, .d (.arr 5 ((a).map FrReport.d))), (3, .ref 0 4 0 0), (4, .ref 1 3 0 0), (6, .row 2 2 0 (y2).length), (7, .d (vI rv2)), (8, .d (.v (.int .u32 x4))), (35, .d (.arr 5 ((a).map FrReport.d))), (36, .d (vI (a.length : Int))), (37, .d (vI (W (x2 + 1))))], [some ⟨4, [.d (FrFormat.d t)]⟩, some ⟨3, [.d (FrSky.d o)]⟩, some (lFrAxesd y2)]⟩, Nat.lt_succ_self _, .vw (κ := [0, 1, 2]) (vK (.cons R R (.cons R R (.row R .nil))) R), y2, x4, (W (x2 + 1)), h, R⟩
  refine qG (q_movD R ?_)
  refine r_gtr R R R R ?_ ?_
  ·intro c5
   replace h := ifP c5 h
   refine eN (sw_condT R (sw_rg (q_movD R (q_movD R (r_sub R R R R ?_)))))
   obtain ⟨e2, ie2, h⟩ := bnd h
   refine q_ixE tb (ix0 ie2) (ix1m ie2) R (q_faE tb R (q_ldE (y := vI e2.number) tb (ix2 (g := FrReport.d) ie2) R (q_add R (q_asgD R (eN ?_)))))
   exact .inl ⟨(W (e2.number + 1)), h, .prn [2, 3, 4, 6, 7, 8, 10, 11, 35, 36, 37] R⟩
  intro c5
  replace h := ifN (Int.not_lt.2 c5) h
  refine eN (sw_condF R (sw_skip (then_norm ?_)))
  exact .inl ⟨e.number, h, .prn [2, 3, 4, 6, 7, 8, 10, 11, 35, 36, 37] R⟩
 intro c4
 replace h := ifN (Int.not_lt.2 c4) h
 refine eN (sw_seq (sw_condF R (sw_exit (then_exit (then_exit ?_)))))
 subst hK12
 refine block_exit (then_norm (qG (r_movW R R R (r_asgW R R R (q_asgD R (eN (sw_ret ?_)))))))
 obtain rfl := sI h
 exact f2 [2] (.row R .nil) R (.cons (.tmp 6) (.cons (.tmp 7) .nil)) R
theorem frame_Axes_pc {F : Nat} {t : FrFormat} {o : FrSky} {a : (List FrReport)} {r : ((List FrAxes) × Int)} (h : frame_Axes F t o a = some r) : PC Try.prog 43 [FrFormat.d t, FrSky.d o, .arr 5 ((a).map FrReport.d)] (.tup [.arr 2 ((r.1).map FrAxes.d), .v (.int .i64 r.2)]) := (frame_Axes_scr h).toPC (.tupL (.cons (.row rfl rfl) (.cons (.d _) .nil)))
def hangfirelaw09_dot (F : Nat) (d : FlDir) (x : Int) (y : Int) (z : Int) : Option Int := some (W ((W ((W (d.x * x)) + (W (d.y * y)))) + (W (d.z * z))))
theorem hangfirelaw09_dot_pc {F : Nat} {d : FlDir} {x : Int} {y : Int} {z : Int} {r : Int} (h : hangfirelaw09_dot F d x y z = some r) : PC Try.prog 46 [FlDir.d d, .v (.int .i64 x), .v (.int .i64 y), .v (.int .i64 z)] (.v (.int .i64 r)) := by
 rw [hangfirelaw09_dot] at h
 refine SC.of_sw Try.func46 R R R ?_
 dsimp only [argS, List.map]
 refine qG (q_box R (q_asgD R (eN (qG (q_fa tb R (q_ldD (y := vI d.x) tb R (q_movD R (r_mul R R R R (q_fa tb R (q_ldD (y := vI d.y) tb R (q_movD R (r_mul R R R R (q_add R (q_fa tb R (q_ldD (y := vI d.z) tb R (q_movD R (r_mul R R R R (q_add R (q_asgD R (eN (sw_ret ?_)))))))))))))))))))))
 obtain rfl := sI h
 exact f1 8 R
def hangfirelaw09_FrameAxis_J1 (F : Nat) (B22 : (List Int) → Bool → (List Bool) → Int → Option Bool) (x4 : Bool) (x5 : Int) (e4 : FrSensor) (e5 : FrChannel) (x6 : Int) (lv7 : (List Int)) (lv8 : (List Bool)) : Option Bool := Option.bind (ixO lv7 e5.word) fun e10 => if x4 = true then (if (W (x6 - (W ((W (10000 * e4.scale)) * (W (e10 - 32768)))))) ≤ (W (10000 * e4.error)) then (if (W (0 - (W (x6 - (W ((W (10000 * e4.scale)) * (W (e10 - 32768)))))))) ≤ (W (10000 * e4.error)) then (B22 lv7 true lv8 (W (x5 + 1))) else (B22 lv7 false lv8 (W (x5 + 1)))) else (B22 lv7 false lv8 (W (x5 + 1)))) else (B22 lv7 false lv8 (W (x5 + 1)))
def hangfirelaw09_FrameAxis_J2 (F : Nat) (B22 : (List Int) → Bool → (List Bool) → Int → Option Bool) (lv3 : (List Int)) (x4 : Bool) (lv4 : (List Bool)) (x5 : Int) (e4 : FrSensor) (e5 : FrChannel) (x6 : Int) (x7 : Int) : Option Bool := if e4.scale = 0 then none else (Option.bind (ixO lv3 e5.word) fun e9 => Option.bind (setO lv3 e5.word (max 0 (min 65535 (W (32768 + (W (Int.tdiv (W ((W (Int.tdiv x6 10000)) + x7)) e4.scale))))))) fun lv5 => Option.bind (setO lv4 e5.word true) fun lv6 => hangfirelaw09_FrameAxis_J1 F B22 x4 x5 e4 e5 x6 lv5 lv6)
def hangfirelaw09_FrameAxis_J3 (F : Nat) (B22 : (List Int) → Bool → (List Bool) → Int → Option Bool) (a : Spin) (x2 : Int) (lv3 : (List Int)) (x4 : Bool) (lv4 : (List Bool)) (x5 : Int) (e4 : FrSensor) (e5 : FrChannel) (x6 : Int) : Option Bool := Option.bind (ixO lv4 e5.word) fun e7 => if e7 = true then (hangfirelaw09_FrameAxis_J1 F B22 x4 x5 e4 e5 x6 lv3 lv4) else (if 0 < (a.wrong.length : Int) then (if (a.wrong.length : Int) = 0 then none else (Option.bind (ixO a.wrong (Int.tmod (W (x2 + x5)) (a.wrong.length : Int))) fun e8 => hangfirelaw09_FrameAxis_J2 F B22 lv3 x4 lv4 x5 e4 e5 x6 (W (Int.tdiv (W (e4.error * (max (-127) (W e8)))) 127)))) else (hangfirelaw09_FrameAxis_J2 F B22 lv3 x4 lv4 x5 e4 e5 x6 0))
def hangfirelaw09_FrameAxis_J4 (F : Nat) (B22 : (List Int) → Bool → (List Bool) → Int → Option Bool) (o : FrSky) (a : Spin) (x2 : Int) (x3 : Int) (lv3 : (List Int)) (x4 : Bool) (lv4 : (List Bool)) (x5 : Int) (e4 : FrSensor) (e5 : FrChannel) : Option Bool := Option.bind (ixO o.dirs x3) fun e6 => Option.bind (hangfirelaw09_dot F e6 e4.x e4.y e4.z) fun rv7 => if e4.sun = true then (hangfirelaw09_FrameAxis_J3 F B22 a x2 lv3 x4 lv4 x5 e4 e5 (max rv7 0)) else (hangfirelaw09_FrameAxis_J3 F B22 a x2 lv3 x4 lv4 x5 e4 e5 rv7)
def hangfirelaw09_FrameAxis_J5 (F : Nat) (B22 : (List Int) → Bool → (List Bool) → Int → Option Bool) (lv3 : (List Int)) (x4 : Bool) (lv4 : (List Bool)) (x5 : Int) : Option Bool := B22 lv3 x4 lv4 (W (x5 + 1))
def hangfirelaw09_FrameAxis_J6 (F : Nat) (B22 : (List Int) → Bool → (List Bool) → Int → Option Bool) (t : FrFormat) (o : FrSky) (a : Spin) (x2 : Int) (x3 : Int) (lv3 : (List Int)) (x4 : Bool) (lv4 : (List Bool)) (x5 : Int) (e4 : FrSensor) : Option Bool := Option.bind (ixO t.channels e4.channel) fun e5 => if e5.every < 1 then (hangfirelaw09_FrameAxis_J5 F B22 lv3 x4 lv4 x5) else (if e5.word < 0 then (hangfirelaw09_FrameAxis_J5 F B22 lv3 x4 lv4 x5) else (if t.words ≤ e5.word then (hangfirelaw09_FrameAxis_J5 F B22 lv3 x4 lv4 x5) else (if e5.every = 0 then none else (if (Int.tmod (W ((W a.first) + x2)) e5.every) = e5.phase then (hangfirelaw09_FrameAxis_J4 F B22 o a x2 x3 lv3 x4 lv4 x5 e4 e5) else (hangfirelaw09_FrameAxis_J5 F B22 lv3 x4 lv4 x5)))))
def hangfirelaw09_FrameAxis_J7 (F : Nat)  : Option Bool := Option.bind (hangfirelaw09_Awake F ) fun rv4 => some rv4
def hangfirelaw09_FrameAxis_J8 (F : Nat) (B18 : (List FrReport) → (List Int) → Int → Int → Option Bool) (a : Spin) (lv : (List FrReport)) (x2 : Int) (x3 : Int) (q : (List Int)) (lv3 : (List Int)) (x9 : Bool) : Option Bool := Option.bind (appO lv [(FrReport.mk (W ((W a.first) + x2)) 0 0 x9 lv3)]) fun q3 => B18 q3 q x3 (W (x2 + 1))
def hangfirelaw09_FrameAxis_J9 (F : Nat) (B18 : (List FrReport) → (List Int) → Int → Int → Option Bool) (a : Spin) (lv : (List FrReport)) (x2 : Int) (x3 : Int) (q : (List Int)) (lv3 : (List Int)) (x8 : Int) (x9 : Bool) : Option Bool := if (Int.tmod x8 2) = 0 then (hangfirelaw09_FrameAxis_J8 F B18 a lv x2 x3 q lv3 x9) else (if x2 = 0 then (hangfirelaw09_FrameAxis_J8 F B18 a lv x2 x3 q lv3 x9) else (B18 lv q x3 (W (x2 + 1))))
def hangfirelaw09_FrameAxis_J10 (F : Nat) (B18 : (List FrReport) → (List Int) → Int → Int → Option Bool) (a : Spin) (lv : (List FrReport)) (x2 : Int) (x3 : Int) (q : (List Int)) (lv3 : (List Int)) (x4 : Bool) (x8 : Int) : Option Bool := if (Int.tmod (W8 (Int.tdiv x8 2)) 2) = 1 then (hangfirelaw09_FrameAxis_J9 F B18 a lv x2 x3 q lv3 x8 true) else (hangfirelaw09_FrameAxis_J9 F B18 a lv x2 x3 q lv3 x8 (!x4))
def hangfirelaw09_FrameAxis_L1 (F : Nat) (t : FrFormat) (o : FrSky) (a : Spin) (x2 : Int) (x3 : Int) (K : (List Int) → Bool → (List Bool) → Int → Option Bool) : Nat → (List Int) → Bool → (List Bool) → Int → Option Bool
 | 0, _, _, _, _ => none
 | n + 1, lv3, x4, lv4, x5 => if x5 < (o.sensors.length : Int) then (Option.bind (ixO o.sensors x5) fun e4 => if e4.channel < 0 then (hangfirelaw09_FrameAxis_J7 F) else (if (t.channels.length : Int) ≤ e4.channel then (hangfirelaw09_FrameAxis_J7 F) else (if e4.scale < 1 then (hangfirelaw09_FrameAxis_J7 F) else (hangfirelaw09_FrameAxis_J6 F (hangfirelaw09_FrameAxis_L1 F t o a x2 x3 K n) t o a x2 x3 lv3 x4 lv4 x5 e4)))) else (K lv3 x4 lv4 x5)
def hangfirelaw09_FrameAxis_J11 (F : Nat) (B18 : (List FrReport) → (List Int) → Int → Int → Option Bool) (t : FrFormat) (o : FrSky) (a : Spin) (lv : (List FrReport)) (lv2 : (List Int)) (x2 : Int) (x3 : Int) : Option Bool := Option.bind (appO lv2 [x3]) fun q => Option.bind (natM t.words) fun q2 => hangfirelaw09_FrameAxis_L1 F t o a x2 x3 (fun (lv3 : (List Int)) (x4 : Bool) (lv4 : (List Bool)) (x5 : Int) => if 0 < (a.lost.length : Int) then (if (a.lost.length : Int) = 0 then none else (Option.bind (ixO a.lost (Int.tmod x2 (a.lost.length : Int))) fun e11 => hangfirelaw09_FrameAxis_J10 F B18 a lv x2 x3 q lv3 x4 e11)) else (hangfirelaw09_FrameAxis_J10 F B18 a lv x2 x3 q lv3 x4 0)) F (List.replicate q2 (0 : Int)) true (List.replicate q2 false) 0
def hangfirelaw09_FrameAxis_L2 (F : Nat) (lv2 : (List Int)) (rv8 : ((List FrAxes) × Int)) (x10 : Int) (K : Bool → Int → Option Bool) : Nat → Bool → Int → Option Bool
 | 0, _, _ => none
 | n + 1, x11, x12 => Option.bind (ixO rv8.1 x10) fun e14 => if x12 < (e14.dirs.length : Int) then (if x11 = true then (hangfirelaw09_FrameAxis_L2 F lv2 rv8 x10 K n true (W (x12 + 1))) else (Option.bind (ixO e14.dirs x12) fun e15 => Option.bind (ixO lv2 x10) fun e16 => if e15 = e16 then (hangfirelaw09_FrameAxis_L2 F lv2 rv8 x10 K n true (W (x12 + 1))) else (hangfirelaw09_FrameAxis_L2 F lv2 rv8 x10 K n false (W (x12 + 1))))) else (K x11 x12)
def hangfirelaw09_FrameAxis_L3 (F : Nat) (a : Spin) (lv2 : (List Int)) (rv8 : ((List FrAxes) × Int)) (K : Int → Option Bool) : Nat → Int → Option Bool
 | 0, _ => none
 | n + 1, x10 => if x10 < (rv8.1.length : Int) then (hangfirelaw09_FrameAxis_L2 F lv2 rv8 x10 (fun (x11 : Bool) (x12 : Int) => if x11 = true then (Option.bind (ixO rv8.1 x10) fun e17 => if e17.number = (W ((W a.first) + x10)) then (hangfirelaw09_FrameAxis_L3 F a lv2 rv8 K n (W (x10 + 1))) else (some false)) else (some false)) F false 0) else (K x10)
def hangfirelaw09_FrameAxis_J12 (F : Nat) (a : Spin) (lv2 : (List Int)) (rv8 : ((List FrAxes) × Int)) : Option Bool := hangfirelaw09_FrameAxis_L3 F a lv2 rv8 (fun (x10 : Int) => Option.bind (hangfirelaw09_Awake F ) fun rv9 => some rv9) F 0
def hangfirelaw09_FrameAxis_L4 (F : Nat) (t : FrFormat) (o : FrSky) (a : Spin) (K : (List FrReport) → (List Int) → Int → Int → Option Bool) : Nat → (List FrReport) → (List Int) → Int → Int → Option Bool
 | 0, _, _, _, _ => none
 | n + 1, lv, lv2, x, x2 => if x2 ≤ (Int.tmod (W a.many) 40) then (if 0 < (a.steps.length : Int) then (if (a.steps.length : Int) = 0 then none else (Option.bind (ixO a.steps (Int.tmod x2 (a.steps.length : Int))) fun e => if (o.dirs.length : Int) = 0 then none else (Option.bind (ixO o.dirs (Int.tmod (W e) (o.dirs.length : Int))) fun e2 => if x2 = 0 then (hangfirelaw09_FrameAxis_J11 F (hangfirelaw09_FrameAxis_L4 F t o a K n) t o a lv lv2 x2 (Int.tmod (W e) (o.dirs.length : Int))) else (Option.bind (ixO o.dirs x) fun e3 => Option.bind (hangfirelaw09_dot F e3 e2.x e2.y e2.z) fun rv3 => if o.turn ≤ rv3 then (hangfirelaw09_FrameAxis_J11 F (hangfirelaw09_FrameAxis_L4 F t o a K n) t o a lv lv2 x2 (Int.tmod (W e) (o.dirs.length : Int))) else (hangfirelaw09_FrameAxis_J11 F (hangfirelaw09_FrameAxis_L4 F t o a K n) t o a lv lv2 x2 x))))) else (hangfirelaw09_FrameAxis_J11 F (hangfirelaw09_FrameAxis_L4 F t o a K n) t o a lv lv2 x2 x)) else (K lv lv2 x x2)
def hangfirelaw09_FrameAxis_J13 (F : Nat) (t : FrFormat) (o : FrSky) (a : Spin) : Option Bool := hangfirelaw09_FrameAxis_L4 F t o a (fun (lv : (List FrReport)) (lv2 : (List Int)) (x : Int) (x2 : Int) => Option.bind (frame_Axes F t o lv) fun rv8 => if rv8.2 = 0 then (Option.bind (ixO lv (W ((lv.length : Int) - 1))) fun e12 => Option.bind (ixO lv 0) fun e13 => if (rv8.1.length : Int) = (W ((W (e12.number - e13.number)) + 1)) then (hangfirelaw09_FrameAxis_J12 F a lv2 rv8) else (some false)) else (some false)) F ([] : List FrReport) ([] : List Int) 0 0
def hangfirelaw09_FrameAxis_J14 (F : Nat)  : Option Bool := Option.bind (hangfirelaw09_Awake F ) fun rv2 => some rv2
def hangfirelaw09_FrameAxis (F : Nat) (t : FrFormat) (o : FrSky) (a : Spin) : Option Bool := Option.bind (frame_CheckSky F t o) fun rv => if rv.2 = 0 then (if (o.dirs.length : Int) = 0 then (hangfirelaw09_FrameAxis_J14 F) else (if t.words < 1 then (hangfirelaw09_FrameAxis_J14 F) else (if 32 < t.words then (hangfirelaw09_FrameAxis_J14 F) else (hangfirelaw09_FrameAxis_J13 F t o a)))) else (hangfirelaw09_FrameAxis_J14 F)
theorem hangfirelaw09_FrameAxis_pc {F : Nat} {t : FrFormat} {o : FrSky} {a : Spin} {r : Bool} (h : hangfirelaw09_FrameAxis F t o a = some r) : PC Try.prog 14 [FrFormat.d t, FrSky.d o, Spin.d a] (.v (.bool r)) := by
 rw [hangfirelaw09_FrameAxis] at h
 refine SC.of_sw Try.func14 R R R ?_
 dsimp only [argS, List.map]
 refine qG (q_box R (q_box R (q_box R (q_asgD R (eN (qG (q_ldD (y := FrFormat.d t) tb R (q_ldD (y := FrSky.d o) tb R ?_))))))))
 obtain ⟨rv, hrv, h⟩ := bnd h
 refine r_call (frame_CheckSky_pc hrv) (.of (by kernel_rfl)) R R R R (q_movD R (r_extD (t := vI rv.1) R R R R (r_extD (t := vI rv.2) R R R R (q_asgD R (q_asgD R (eN (sw_seq ?_)))))))
 refine sw_join (fun zz : Unit => hangfirelaw09_FrameAxis_J13 F t o a = some r) (fun zz : Unit => ⟨[(3, .ref 0 4 0 0), (4, .ref 1 3 0 0), (5, .ref 2 5 0 0), (6, .d (.v (.bool false)))], [some ⟨4, [.d (FrFormat.d t)]⟩, some ⟨3, [.d (FrSky.d o)]⟩, some ⟨5, [.d (Spin.d a)]⟩]⟩) ?_ ?_
 ·clear h
  rintro ⟨⟩ h
  rw [hangfirelaw09_FrameAxis_J13] at h
  refine qG (q_asgD R (eN (qG (q_asgD R (eN (qG (q_asgD R (eN (sw_seq (qG (q_asgD R (eN (sw_block ?_)))))))))))))
  refine SW.own (ts' := [(3, .ref 0 4 0 0), (4, .ref 1 3 0 0), (5, .ref 2 5 0 0), (6, .d (.v (.bool false))), (9, .row 3 5 0 (([] : List FrReport)).length), (10, .d (.v (.slice none 0 0))), (11, .d (vI 0)), (12, .d (vI 0))]) (L' := [some ⟨4, [.d (FrFormat.d t)]⟩, some ⟨3, [.d (FrSky.d o)]⟩, some ⟨5, [.d (Spin.d a)]⟩]) 5 R R (.cons (.same _) (.cons (.same _) (.cons (.same _) (.cons (.same _) (.cons .nil (.cons (.same _) (.cons (.same _) (.cons (.same _) .nil)))))))) (.same (.same (.same .nil))) ?_
  simp only [List.cons_append, List.nil_append]
  refine SW.own (ts' := [(3, .ref 0 4 0 0), (4, .ref 1 3 0 0), (5, .ref 2 5 0 0), (6, .d (.v (.bool false))), (9, .row 3 5 0 (([] : List FrReport)).length), (10, .row 4 1 0 (([] : List Int)).length), (11, .d (vI 0)), (12, .d (vI 0))]) (L' := [some ⟨4, [.d (FrFormat.d t)]⟩, some ⟨3, [.d (FrSky.d o)]⟩, some ⟨5, [.d (Spin.d a)]⟩, some (lFrReportd ([] : List FrReport))]) 1 R R (.cons (.same _) (.cons (.same _) (.cons (.same _) (.cons (.same _) (.cons (.same _) (.cons .nil (.cons (.same _) (.cons (.same _) .nil)))))))) (.same (.same (.same (.same .nil)))) ?_
  simp only [List.cons_append, List.nil_append]
  obtain ⟨K18, hK18, h⟩ : ∃ K, K = _ ∧ hangfirelaw09_FrameAxis_L4 F t o a K F ([] : List FrReport) ([] : List Int) 0 0 = some r := ⟨_, rfl, h⟩
  refine sw_loopS (fun m st => ∃ (lv : (List FrReport)) (lv2 : (List Int)) (x : Int) (x2 : Int), hangfirelaw09_FrameAxis_L4 F t o a K18 m lv lv2 x x2 = some r ∧ st = ⟨[(3, .ref 0 4 0 0), (4, .ref 1 3 0 0), (5, .ref 2 5 0 0), (6, .d (.v (.bool false))), (9, .row 3 5 0 (lv).length), (10, .row 4 1 0 (lv2).length), (11, .d (vI x)), (12, .d (vI x2))], [some ⟨4, [.d (FrFormat.d t)]⟩, some ⟨3, [.d (FrSky.d o)]⟩, some ⟨5, [.d (Spin.d a)]⟩, some (lFrReportd lv), some (lvI lv2)]⟩) (.prn [3, 4, 5, 6, 9, 10, 11, 12] R) ⟨([] : List FrReport), ([] : List Int), 0, 0, h, R⟩ ?_
  clear h
  rintro m18 st ⟨lv, lv2, x, x2, h, rfl⟩
  cases m18 with
  | zero => cases (show (none : Option Bool) = some r from h)
  | succ m18 =>
  rw [hangfirelaw09_FrameAxis_L4] at h
  refine sw_seq (qG (q_movD R (q_fa tb R (q_ldD (y := .v (.int .u8 a.many)) tb R (r_cvI (k2 := .i64) R R R R R R (r_rem R R (by decide) R R ?_))))))
  refine r_leq R R R R ?_ ?_
  ·intro c5
   replace h := ifP c5 h
   refine eN (sw_condT R (sw_skip (then_norm (sw_seq (sw_block (sw_seq ?_))))))
   refine sw_join (fun zz : Int => hangfirelaw09_FrameAxis_J11 F (hangfirelaw09_FrameAxis_L4 F t o a K18 m18) t o a lv lv2 x2 zz = some r) (fun zz : Int => ⟨[(3, .ref 0 4 0 0), (4, .ref 1 3 0 0), (5, .ref 2 5 0 0), (6, .d (.v (.bool false))), (9, .row 3 5 0 (lv).length), (10, .row 4 1 0 (lv2).length), (11, .d (vI zz)), (12, .d (vI x2))], [some ⟨4, [.d (FrFormat.d t)]⟩, some ⟨3, [.d (FrSky.d o)]⟩, some ⟨5, [.d (Spin.d a)]⟩, some (lFrReportd lv), some (lvI lv2)]⟩) ?_ ?_
   ·clear h
    rintro x3 h
    rw [hangfirelaw09_FrameAxis_J11] at h
    refine qG (r_movW R R R (q_movD R (r_bslice tb R R R R R R R R R R R R R ?_)))
    obtain ⟨q, iq, h⟩ := bnd h
    refine r_apM (g := vI) (w := lv2) (v := [x3]) ([some ⟨4, [.d (FrFormat.d t)]⟩, some ⟨3, [.d (FrSky.d o)]⟩, some ⟨5, [.d (Spin.d a)]⟩, some (lFrReportd lv), none, some (lvI [x3])]) tb R R R R R R R R R R R iq R R R R R (r_asgW R R R (eN (sw_seq (sw_dr (by kernel_rfl) (q_fa tb R (q_ldD (y := .v (.int .u16 a.first)) tb R (r_cvI (k2 := .i64) R R R R R R (q_movD R (q_add R (q_fa tb R (q_ldD (y := vI t.words) tb R ?_)))))))))))
    obtain ⟨q2, iq2, h⟩ := bnd h
    refine r_makeQ (v := (0 : Int)) (g := vI) tb R R R R R R R ((natM_eq iq2).1) ((natM_eq iq2).2) R R R R (r_build (v := FrReport_T1 (FrReport.mk (W ((W a.first) + x2)) 0 0 false (List.replicate q2 (0 : Int))) 7) tb R R (List.cons_ne_nil _ _) R R R R R R (r_alloc tb R R R R R (q_stE _ _ tb R (ev_endD (by kernel_rfl) (then_norm (qG (q_asgD R (eN (qG (q_fa tb R (q_ldD (y := vI t.words) tb R (r_makeQ (v := false) (g := vB) tb R R R R R R R ((natM_eq iq2).1) ((natM_eq iq2).2) R R R R ?_))))))))))))
    refine r_asgW R R R (eN (sw_seq (qG (q_asgD R (eN (sw_block ?_))))))
    obtain ⟨K22, hK22, h⟩ : ∃ K, K = _ ∧ hangfirelaw09_FrameAxis_L1 F t o a x2 x3 K F (List.replicate q2 (0 : Int)) true (List.replicate q2 false) 0 = some r := ⟨_, rfl, h⟩
    refine sw_loopS (st0 := ⟨[(3, .ref 0 4 0 0), (4, .ref 1 3 0 0), (5, .ref 2 5 0 0), (6, .d (.v (.bool false))), (9, .row 3 5 0 (lv).length), (10, .row 4 1 0 (q).length), (11, .d (vI x3)), (12, .d (vI x2)), (15, .ref 5 5 0 0), (16, .d (.v (.bool true))), (17, .row 7 1 0 ((List.replicate q2 false)).length), (18, .d (vI 0))], [some ⟨4, [.d (FrFormat.d t)]⟩, some ⟨3, [.d (FrSky.d o)]⟩, some ⟨5, [.d (Spin.d a)]⟩, some (lFrReportd lv), some (lvI q), some ⟨5, [FrReport_T1 (FrReport.mk (W ((W a.first) + x2)) 0 0 false (List.replicate q2 (0 : Int))) 6]⟩, some (lvI (List.replicate q2 (0 : Int))), some (lvB (List.replicate q2 false))]⟩) (fun m st => ∃ (lv3 : (List Int)) (x4 : Bool) (lv4 : (List Bool)) (x5 : Int), hangfirelaw09_FrameAxis_L1 F t o a x2 x3 K22 m lv3 x4 lv4 x5 = some r ∧ st = ⟨[(3, .ref 0 4 0 0), (4, .ref 1 3 0 0), (5, .ref 2 5 0 0), (6, .d (.v (.bool false))), (9, .row 3 5 0 (lv).length), (10, .row 4 1 0 (q).length), (11, .d (vI x3)), (12, .d (vI x2)), (15, .ref 5 5 0 0), (16, .d (.v (.bool x4))), (17, .row 7 1 0 (lv4).length), (18, .d (vI x5))], [some ⟨4, [.d (FrFormat.d t)]⟩, some ⟨3, [.d (FrSky.d o)]⟩, some ⟨5, [.d (Spin.d a)]⟩, some (lFrReportd lv), some (lvI q), some ⟨5, [FrReport_T1 (FrReport.mk (W ((W a.first) + x2)) 0 0 false lv3) 6]⟩, some (lvI lv3), some (lvB lv4)]⟩) (.vw (κ := [0, 1, 2, 3, 6, 8, 7, 9]) (vK (.cons R R (.cons R R (.cons R R (.row R (.row R (.cons R R (.row R (.row R .nil)))))))) R)) ⟨(List.replicate q2 (0 : Int)), true, (List.replicate q2 false), 0, h, R⟩ ?_
    clear h
    rintro m22 st ⟨lv3, x4, lv4, x5, h, rfl⟩
    cases m22 with
    | zero => cases (show (none : Option Bool) = some r from h)
    | succ m22 =>
    rw [hangfirelaw09_FrameAxis_L1] at h
    refine sw_seq (qG (q_movD R (q_fa tb R (q_ldD (y := .arr 7 ((o.sensors).map FrSensor.d)) tb R (q_lenM tb R ?_)))))
    refine r_lss R R R R ?_ ?_
    ·intro c11
     replace h := ifP c11 h
     refine eN (sw_condT R (sw_skip (then_norm (sw_seq (sw_block (qG (q_fa tb R (q_ldD (y := .arr 7 ((o.sensors).map FrSensor.d)) tb R (q_movD R ?_)))))))))
     obtain ⟨e4, ie4, h⟩ := bnd h
     refine q_ixE tb (ix0 ie4) (ix1m ie4) R (q_ldE (y := FrSensor.d e4) tb (ix2 (g := FrSensor.d) ie4) R (r_alloc tb R R R R R (q_stE _ _ tb R (eN (sw_seq ?_)))))
     refine sw_join (fun zz : Unit => hangfirelaw09_FrameAxis_J6 F (hangfirelaw09_FrameAxis_L1 F t o a x2 x3 K22 m22) t o a x2 x3 lv3 x4 lv4 x5 e4 = some r) (fun zz : Unit => ⟨[(3, .ref 0 4 0 0), (4, .ref 1 3 0 0), (5, .ref 2 5 0 0), (6, .d (.v (.bool false))), (9, .row 3 5 0 (lv).length), (10, .row 4 1 0 (q).length), (11, .d (vI x3)), (12, .d (vI x2)), (15, .ref 5 5 0 0), (16, .d (.v (.bool x4))), (17, .row 7 1 0 (lv4).length), (18, .d (vI x5)), (19, .ref 8 7 0 0)], [some ⟨4, [.d (FrFormat.d t)]⟩, some ⟨3, [.d (FrSky.d o)]⟩, some ⟨5, [.d (Spin.d a)]⟩, some (lFrReportd lv), some (lvI q), some ⟨5, [FrReport_T1 (FrReport.mk (W ((W a.first) + x2)) 0 0 false lv3) 6]⟩, some (lvI lv3), some (lvB lv4), some ⟨7, [.d (FrSensor.d e4)]⟩]⟩) ?_ ?_
     ·clear h
      rintro ⟨⟩ h
      rw [hangfirelaw09_FrameAxis_J6] at h
      refine qG (q_fa tb R (q_ldD (y := .arr 4 ((t.channels).map FrChannel.d)) tb R (q_fa tb R (q_ldD (y := vI e4.channel) tb R ?_))))
      obtain ⟨e5, ie5, h⟩ := bnd h
      refine q_ixE tb (ix0 ie5) (ix1m ie5) R (q_ldE (y := FrChannel.d e5) tb (ix2 (g := FrChannel.d) ie5) R (r_alloc tb R R R R R (q_stE _ _ tb R (eN (sw_seq ?_)))))
      refine sw_join (fun zz : Unit => hangfirelaw09_FrameAxis_J4 F (hangfirelaw09_FrameAxis_L1 F t o a x2 x3 K22 m22) o a x2 x3 lv3 x4 lv4 x5 e4 e5 = some r) (fun zz : Unit => ⟨[(3, .ref 0 4 0 0), (4, .ref 1 3 0 0), (5, .ref 2 5 0 0), (6, .d (.v (.bool false))), (9, .row 3 5 0 (lv).length), (10, .row 4 1 0 (q).length), (11, .d (vI x3)), (12, .d (vI x2)), (15, .ref 5 5 0 0), (16, .d (.v (.bool x4))), (17, .row 7 1 0 (lv4).length), (18, .d (vI x5)), (19, .ref 8 7 0 0), (20, .ref 9 4 0 0)], [some ⟨4, [.d (FrFormat.d t)]⟩, some ⟨3, [.d (FrSky.d o)]⟩, some ⟨5, [.d (Spin.d a)]⟩, some (lFrReportd lv), some (lvI q), some ⟨5, [FrReport_T1 (FrReport.mk (W ((W a.first) + x2)) 0 0 false lv3) 6]⟩, some (lvI lv3), some (lvB lv4), some ⟨7, [.d (FrSensor.d e4)]⟩, some ⟨4, [.d (FrChannel.d e5)]⟩]⟩) ?_ ?_
      ·clear h
       rintro ⟨⟩ h
       rw [hangfirelaw09_FrameAxis_J4] at h
       refine sw_seq (sw_dr (by kernel_rfl) (q_fa tb R (q_ldD (y := .arr 3 ((o.dirs).map FlDir.d)) tb R (q_movD R ?_))))
       obtain ⟨e6, ie6, h⟩ := bnd h
       refine q_ixE tb (ix0 ie6) (ix1m ie6) R (q_ldE (y := FlDir.d e6) tb (ix2 (g := FlDir.d) ie6) R (q_fa tb R (q_ldD (y := vI e4.x) tb R (q_fa tb R (q_ldD (y := vI e4.y) tb R (q_fa tb R (q_ldD (y := vI e4.z) tb R ?_)))))))
       obtain ⟨rv7, hrv7, h⟩ := bnd h
       refine r_call (hangfirelaw09_dot_pc hrv7) (.of (by kernel_rfl)) R R R R (q_asgD R (ev_endD (by kernel_rfl) (then_norm (sw_seq ?_))))
       refine sw_join (fun zz : Int => hangfirelaw09_FrameAxis_J3 F (hangfirelaw09_FrameAxis_L1 F t o a x2 x3 K22 m22) a x2 lv3 x4 lv4 x5 e4 e5 zz = some r) (fun zz : Int => ⟨[(3, .ref 0 4 0 0), (4, .ref 1 3 0 0), (5, .ref 2 5 0 0), (6, .d (.v (.bool false))), (9, .row 3 5 0 (lv).length), (10, .row 4 1 0 (q).length), (11, .d (vI x3)), (12, .d (vI x2)), (15, .ref 5 5 0 0), (16, .d (.v (.bool x4))), (17, .row 7 1 0 (lv4).length), (18, .d (vI x5)), (19, .ref 8 7 0 0), (20, .ref 9 4 0 0), (21, .d (vI zz))], [some ⟨4, [.d (FrFormat.d t)]⟩, some ⟨3, [.d (FrSky.d o)]⟩, some ⟨5, [.d (Spin.d a)]⟩, some (lFrReportd lv), some (lvI q), some ⟨5, [FrReport_T1 (FrReport.mk (W ((W a.first) + x2)) 0 0 false lv3) 6]⟩, some (lvI lv3), some (lvB lv4), some ⟨7, [.d (FrSensor.d e4)]⟩, some ⟨4, [.d (FrChannel.d e5)]⟩]⟩) ?_ ?_
       ·clear h
        rintro x6 h
        rw [hangfirelaw09_FrameAxis_J3] at h
        refine sw_seq ?_
        refine sw_join (fun zz : (List Int) × (List Bool) => hangfirelaw09_FrameAxis_J1 F (hangfirelaw09_FrameAxis_L1 F t o a x2 x3 K22 m22) x4 x5 e4 e5 x6 zz.1 zz.2 = some r) (fun zz : (List Int) × (List Bool) => ⟨[(3, .ref 0 4 0 0), (4, .ref 1 3 0 0), (5, .ref 2 5 0 0), (6, .d (.v (.bool false))), (9, .row 3 5 0 (lv).length), (10, .row 4 1 0 (q).length), (11, .d (vI x3)), (12, .d (vI x2)), (15, .ref 5 5 0 0), (16, .d (.v (.bool x4))), (17, .row 7 1 0 (zz.2).length), (18, .d (vI x5)), (19, .ref 8 7 0 0), (20, .ref 9 4 0 0), (21, .d (vI x6))], [some ⟨4, [.d (FrFormat.d t)]⟩, some ⟨3, [.d (FrSky.d o)]⟩, some ⟨5, [.d (Spin.d a)]⟩, some (lFrReportd lv), some (lvI q), some ⟨5, [FrReport_T1 (FrReport.mk (W ((W a.first) + x2)) 0 0 false zz.1) 6]⟩, some (lvI zz.1), some (lvB zz.2), some ⟨7, [.d (FrSensor.d e4)]⟩, some ⟨4, [.d (FrChannel.d e5)]⟩]⟩) ?_ ?_
        ·clear h
         rintro ⟨lv7, lv8⟩ h
         dsimp only at h ⊢
         rw [hangfirelaw09_FrameAxis_J1] at h
         refine sw_seq (sw_dr (by kernel_rfl) (q_movD R (q_fa tb R (q_ldD (y := vI e4.scale) tb R (r_mul R R R R (q_fa tb R (r_ldW tb R R R R R R R R R (q_fa tb R (q_ldD (y := vI e5.word) tb R ?_)))))))))
         obtain ⟨e10, ie10, h⟩ := bnd h
         refine r_ixI tb R R R R R R (ix0 ie10) (ix1 ie10) R R ?_
         refine r_ldD (y := vI e10) tb R R R R (ix2 (g := fun a => T.d (vI a)) ie10) R R R R ?_
         refine r_sub R R R R (r_mul R R R R (r_sub R R R R (q_asgD R (ev_endD (by kernel_rfl) (then_norm (sw_rg (q_movD R ?_)))))))
         with_reducible apply ev_lit
         ·intro c25
          replace h := ifP c25 h
          refine q_movD R (q_movD R (q_fa tb R (q_ldD (y := vI e4.error) tb R (r_mul R R R R ?_))))
          refine r_leq R R R R ?_ ?_
          ·intro c26
           replace h := ifP c26 h
           refine q_pickT R (q_movD R (q_movD R (r_neg R R R (q_fa tb R (q_ldD (y := vI e4.error) tb R (r_mul R R R R ?_))))))
           refine r_leq R R R R ?_ ?_
           ·intro c27
            replace h := ifP c27 h
            refine q_pickT R (q_asgD R (ev_end (block_norm (then_norm (sw_rg (q_movD R (q_add R (q_asgD R (eN ?_)))))))))
            exact ⟨m22, ⟨[(3, .ref 0 4 0 0), (4, .ref 1 3 0 0), (5, .ref 2 5 0 0), (6, .d (.v (.bool false))), (9, .row 3 5 0 (lv).length), (10, .row 4 1 0 (q).length), (11, .d (vI x3)), (12, .d (vI x2)), (15, .ref 5 5 0 0), (16, .d (.v (.bool true))), (17, .row 7 1 0 (lv8).length), (18, .d (vI (W (x5 + 1))))], [some ⟨4, [.d (FrFormat.d t)]⟩, some ⟨3, [.d (FrSky.d o)]⟩, some ⟨5, [.d (Spin.d a)]⟩, some (lFrReportd lv), some (lvI q), some ⟨5, [FrReport_T1 (FrReport.mk (W ((W a.first) + x2)) 0 0 false lv7) 6]⟩, some (lvI lv7), some (lvB lv8)]⟩, Nat.lt_succ_self _, .vw (κ := [0, 1, 2, 3, 4, 5, 6, 7]) (vK (.cons R R (.cons R R (.cons R R (.row R (.row R (.cons R R (.row R (.row R .nil)))))))) R), lv7, true, lv8, (W (x5 + 1)), h, R⟩
           intro c27
           replace h := ifN (Int.not_le.2 c27) h
           refine q_pickT R (q_asgD R (ev_end (block_norm (then_norm (sw_rg (q_movD R (q_add R (q_asgD R (eN ?_)))))))))
           exact ⟨m22, ⟨[(3, .ref 0 4 0 0), (4, .ref 1 3 0 0), (5, .ref 2 5 0 0), (6, .d (.v (.bool false))), (9, .row 3 5 0 (lv).length), (10, .row 4 1 0 (q).length), (11, .d (vI x3)), (12, .d (vI x2)), (15, .ref 5 5 0 0), (16, .d (.v (.bool false))), (17, .row 7 1 0 (lv8).length), (18, .d (vI (W (x5 + 1))))], [some ⟨4, [.d (FrFormat.d t)]⟩, some ⟨3, [.d (FrSky.d o)]⟩, some ⟨5, [.d (Spin.d a)]⟩, some (lFrReportd lv), some (lvI q), some ⟨5, [FrReport_T1 (FrReport.mk (W ((W a.first) + x2)) 0 0 false lv7) 6]⟩, some (lvI lv7), some (lvB lv8)]⟩, Nat.lt_succ_self _, .vw (κ := [0, 1, 2, 3, 4, 5, 6, 7]) (vK (.cons R R (.cons R R (.cons R R (.row R (.row R (.cons R R (.row R (.row R .nil)))))))) R), lv7, false, lv8, (W (x5 + 1)), h, R⟩
          intro c26
          replace h := ifN (Int.not_le.2 c26) h
          refine q_pickT R (q_movD R (q_sk 6 R (q_pickF R (q_asgD R (ev_end (block_norm (then_norm (sw_rg (q_movD R (q_add R (q_asgD R (eN ?_))))))))))))
          exact ⟨m22, ⟨[(3, .ref 0 4 0 0), (4, .ref 1 3 0 0), (5, .ref 2 5 0 0), (6, .d (.v (.bool false))), (9, .row 3 5 0 (lv).length), (10, .row 4 1 0 (q).length), (11, .d (vI x3)), (12, .d (vI x2)), (15, .ref 5 5 0 0), (16, .d (.v (.bool false))), (17, .row 7 1 0 (lv8).length), (18, .d (vI (W (x5 + 1))))], [some ⟨4, [.d (FrFormat.d t)]⟩, some ⟨3, [.d (FrSky.d o)]⟩, some ⟨5, [.d (Spin.d a)]⟩, some (lFrReportd lv), some (lvI q), some ⟨5, [FrReport_T1 (FrReport.mk (W ((W a.first) + x2)) 0 0 false lv7) 6]⟩, some (lvI lv7), some (lvB lv8)]⟩, Nat.lt_succ_self _, .vw (κ := [0, 1, 2, 3, 4, 5, 6, 7]) (vK (.cons R R (.cons R R (.cons R R (.row R (.row R (.cons R R (.row R (.row R .nil)))))))) R), lv7, false, lv8, (W (x5 + 1)), h, R⟩
         intro c25
         replace h := ifF c25 h
         refine q_movD R (q_sk 5 R (q_pickF R (q_movD R (q_sk 6 R (q_pickF R (q_asgD R (ev_end (block_norm (then_norm (sw_rg (q_movD R (q_add R (q_asgD R (eN ?_))))))))))))))
         exact ⟨m22, ⟨[(3, .ref 0 4 0 0), (4, .ref 1 3 0 0), (5, .ref 2 5 0 0), (6, .d (.v (.bool false))), (9, .row 3 5 0 (lv).length), (10, .row 4 1 0 (q).length), (11, .d (vI x3)), (12, .d (vI x2)), (15, .ref 5 5 0 0), (16, .d (.v (.bool false))), (17, .row 7 1 0 (lv8).length), (18, .d (vI (W (x5 + 1))))], [some ⟨4, [.d (FrFormat.d t)]⟩, some ⟨3, [.d (FrSky.d o)]⟩, some ⟨5, [.d (Spin.d a)]⟩, some (lFrReportd lv), some (lvI q), some ⟨5, [FrReport_T1 (FrReport.mk (W ((W a.first) + x2)) 0 0 false lv7) 6]⟩, some (lvI lv7), some (lvB lv8)]⟩, Nat.lt_succ_self _, .vw (κ := [0, 1, 2, 3, 4, 5, 6, 7]) (vK (.cons R R (.cons R R (.cons R R (.row R (.row R (.cons R R (.row R (.row R .nil)))))))) R), lv7, false, lv8, (W (x5 + 1)), h, R⟩
        refine qG (r_movW R R R (q_fa tb R (q_ldD (y := vI e5.word) tb R ?_)))
        obtain ⟨e7, ie7, h⟩ := bnd h
        refine r_ixI tb R R R R R R (ix0 ie7) (ix1 ie7) R R ?_
        refine r_ldD (y := .v (.bool e7)) tb R R R R (ix2 (g := fun a => T.d (vB a)) ie7) R R R R ?_
        with_reducible apply ev_lit
        ·intro c21
         replace h := ifP c21 h
         refine r_notT R R R (eN (sw_condF R (sw_skip (then_norm ?_))))
         exact .inl ⟨(lv3, lv4), h, .prn [3, 4, 5, 6, 9, 10, 11, 12, 15, 16, 17, 18, 19, 20, 21] R⟩
        intro c21
        replace h := ifF c21 h
        refine r_notF R R R (eN (sw_condT R (qG (q_asgD R (eN (sw_seq ?_))))))
        refine sw_join (fun zz : Int => hangfirelaw09_FrameAxis_J2 F (hangfirelaw09_FrameAxis_L1 F t o a x2 x3 K22 m22) lv3 x4 lv4 x5 e4 e5 x6 zz = some r) (fun zz : Int => ⟨[(3, .ref 0 4 0 0), (4, .ref 1 3 0 0), (5, .ref 2 5 0 0), (6, .d (.v (.bool false))), (9, .row 3 5 0 (lv).length), (10, .row 4 1 0 (q).length), (11, .d (vI x3)), (12, .d (vI x2)), (15, .ref 5 5 0 0), (16, .d (.v (.bool x4))), (17, .row 7 1 0 (lv4).length), (18, .d (vI x5)), (19, .ref 8 7 0 0), (20, .ref 9 4 0 0), (21, .d (vI x6)), (22, .d (vI zz))], [some ⟨4, [.d (FrFormat.d t)]⟩, some ⟨3, [.d (FrSky.d o)]⟩, some ⟨5, [.d (Spin.d a)]⟩, some (lFrReportd lv), some (lvI q), some ⟨5, [FrReport_T1 (FrReport.mk (W ((W a.first) + x2)) 0 0 false lv3) 6]⟩, some (lvI lv3), some (lvB lv4), some ⟨7, [.d (FrSensor.d e4)]⟩, some ⟨4, [.d (FrChannel.d e5)]⟩]⟩) ?_ ?_
        ·clear h
         rintro x7 h
         rw [hangfirelaw09_FrameAxis_J2] at h
         refine sw_seq (sw_dr (by kernel_rfl) (q_fa tb R (r_ldW tb R R R R R R R R R (q_fa tb R (q_ldD (y := vI e5.word) tb R (q_movD R (r_quo R R (by decide) R R (q_movD R (q_add R (q_fa tb R (q_ldD (y := vI e4.scale) tb R ?_)))))))))))
         by_cases c24 : e4.scale = 0
         ·cases (if_pos c24).symm.trans h
         replace h := ifN c24 h
         refine r_quo R R c24 R R (q_add R (r_min2 R R R R (r_max2 R R R R ?_)))
         obtain ⟨e9, ie9, h⟩ := bnd h
         refine r_ixI tb R R R R R R (ix0 ie9) (ix1 ie9) R R ?_
         obtain ⟨lv5, ilv5, h⟩ := bnd h
         refine r_stQ (a' := ((max 0 (min 65535 (W (32768 + (W (Int.tdiv (W ((W (Int.tdiv x6 10000)) + x7)) e4.scale)))))) : Int)) tb R R R R ie9 R R R R ilv5 R R ?_
         dsimp only [List.set_cons_zero, List.set_cons_succ, FrReport_T1]
         first | rw [set_len ilv5] | skip
         refine ev_endD (by kernel_rfl) (then_norm (sw_rg (r_movW R R R (q_fa tb R (q_ldD (y := vI e5.word) tb R (r_ixI tb R R R R R R (ix0 ie7) (ix1 ie7) R R ?_))))))
         obtain ⟨lv6, ilv6, h⟩ := bnd h
         refine r_stQ (a' := (true : Bool)) tb R R R R ie7 R R R R ilv6 R R ?_
         dsimp only [List.set_cons_zero, List.set_cons_succ, FrReport_T1]
         first | rw [set_len ilv6] | skip
         refine eN ?_
         exact .inl ⟨(lv5, lv6), h, .prn [3, 4, 5, 6, 9, 10, 11, 12, 15, 16, 17, 18, 19, 20, 21] R⟩
        refine qG (q_fa tb R (q_ldD (y := .arr 1 ((a.wrong).map vi8)) tb R (q_lenM tb R ?_)))
        refine r_gtr R R R R ?_ ?_
        ·intro c22
         replace h := ifP c22 h
         refine eN (sw_condT R (sw_dr (by kernel_rfl) (q_fa tb R (q_ldD (y := vI e4.error) tb R (q_fa tb R (q_ldD (y := .arr 1 ((a.wrong).map vi8)) tb R (q_movD R (q_movD R (q_add R (q_fa tb R (q_ldD (y := .arr 1 ((a.wrong).map vi8)) tb R (q_lenM tb R ?_))))))))))))
         by_cases c23 : (a.wrong.length : Int) = 0
         ·cases (if_pos c23).symm.trans h
         replace h := ifN c23 h
         refine r_rem R R c23 R R ?_
         obtain ⟨e8, ie8, h⟩ := bnd h
         refine q_ixE tb (ix0 ie8) (ix1m ie8) R (q_ldE (y := .v (.int .i8 e8)) tb (ix2 (g := vi8) ie8) R (r_cvI (k2 := .i64) R R R R R R (r_max2 R R R R (r_mul R R R R (r_quo R R (by decide) R R (q_asgD R (ev_endD (by kernel_rfl) (then_norm ?_))))))))
         exact .inl ⟨(W (Int.tdiv (W (e4.error * (max (-127) (W e8)))) 127)), h, .prn [3, 4, 5, 6, 9, 10, 11, 12, 15, 16, 17, 18, 19, 20, 21, 22] R⟩
        intro c22
        replace h := ifN (Int.not_lt.2 c22) h
        refine eN (sw_condF R (sw_skip (then_norm ?_)))
        exact .inl ⟨0, h, .prn [3, 4, 5, 6, 9, 10, 11, 12, 15, 16, 17, 18, 19, 20, 21, 22] R⟩
       refine qG (q_fa tb R (q_ldD (y := .v (.bool e4.sun)) tb R ?_))
       with_reducible apply ev_lit
       ·intro c20
        replace h := ifP c20 h
        refine eN (sw_condT R (sw_rg (q_movD R (r_max2 R R R R (q_asgD R (eN ?_))))))
        exact .inl ⟨(max rv7 0), h, .prn [3, 4, 5, 6, 9, 10, 11, 12, 15, 16, 17, 18, 19, 20, 21] R⟩
       intro c20
       replace h := ifF c20 h
       refine eN (sw_condF R (sw_skip (then_norm ?_)))
       exact .inl ⟨rv7, h, .prn [3, 4, 5, 6, 9, 10, 11, 12, 15, 16, 17, 18, 19, 20, 21] R⟩
      refine sw_seq ?_
      refine sw_join (fun zz : Unit => hangfirelaw09_FrameAxis_J5 F (hangfirelaw09_FrameAxis_L1 F t o a x2 x3 K22 m22) lv3 x4 lv4 x5 = some r) (fun zz : Unit => ⟨[(3, .ref 0 4 0 0), (4, .ref 1 3 0 0), (5, .ref 2 5 0 0), (6, .d (.v (.bool false))), (9, .row 3 5 0 (lv).length), (10, .row 4 1 0 (q).length), (11, .d (vI x3)), (12, .d (vI x2)), (15, .ref 5 5 0 0), (16, .d (.v (.bool x4))), (17, .row 7 1 0 (lv4).length), (18, .d (vI x5)), (19, .ref 8 7 0 0), (20, .ref 9 4 0 0), (180, .d (.v (.bool true)))], [some ⟨4, [.d (FrFormat.d t)]⟩, some ⟨3, [.d (FrSky.d o)]⟩, some ⟨5, [.d (Spin.d a)]⟩, some (lFrReportd lv), some (lvI q), some ⟨5, [FrReport_T1 (FrReport.mk (W ((W a.first) + x2)) 0 0 false lv3) 6]⟩, some (lvI lv3), some (lvB lv4), some ⟨7, [.d (FrSensor.d e4)]⟩, some ⟨4, [.d (FrChannel.d e5)]⟩]⟩) ?_ ?_
      ·clear h
       rintro ⟨⟩ h
       rw [hangfirelaw09_FrameAxis_J5] at h
       refine sw_condT R (sw_exit (then_exit (block_exit (then_norm (sw_rg (q_movD R (q_add R (q_asgD R (eN ?_)))))))))
       exact ⟨m22, ⟨[(3, .ref 0 4 0 0), (4, .ref 1 3 0 0), (5, .ref 2 5 0 0), (6, .d (.v (.bool false))), (9, .row 3 5 0 (lv).length), (10, .row 4 1 0 (q).length), (11, .d (vI x3)), (12, .d (vI x2)), (15, .ref 5 5 0 0), (16, .d (.v (.bool x4))), (17, .row 7 1 0 (lv4).length), (18, .d (vI (W (x5 + 1))))], [some ⟨4, [.d (FrFormat.d t)]⟩, some ⟨3, [.d (FrSky.d o)]⟩, some ⟨5, [.d (Spin.d a)]⟩, some (lFrReportd lv), some (lvI q), some ⟨5, [FrReport_T1 (FrReport.mk (W ((W a.first) + x2)) 0 0 false lv3) 6]⟩, some (lvI lv3), some (lvB lv4)]⟩, Nat.lt_succ_self _, .vw (κ := [0, 1, 2, 3, 4, 5, 6, 7]) (vK (.cons R R (.cons R R (.cons R R (.row R (.row R (.cons R R (.row R (.row R .nil)))))))) R), lv3, x4, lv4, (W (x5 + 1)), h, R⟩
      refine sw_dr (by kernel_rfl) (q_fa tb R (q_ldD (y := vI e5.every) tb R ?_))
      refine r_lss R R R R ?_ ?_
      ·intro c15
       replace h := ifP c15 h
       refine q_movD R (q_sk 3 R (q_pickT R (q_movD R (q_sk 5 R (q_pickT R (q_movD R (q_sk 8 R (q_pickT R (ev_endD (by kernel_rfl) (then_norm ?_))))))))))
       exact .inl ⟨(), h, .prn [3, 4, 5, 6, 9, 10, 11, 12, 15, 16, 17, 18, 19, 20, 180] R⟩
      intro c15
      replace h := ifN (Int.not_lt.2 c15) h
      refine q_movD R (q_fa tb R (q_ldD (y := vI e5.word) tb R ?_))
      refine r_lss R R R R ?_ ?_
      ·intro c16
       replace h := ifP c16 h
       refine q_pickF R (q_movD R (q_sk 5 R (q_pickT R (q_movD R (q_sk 8 R (q_pickT R (ev_endD (by kernel_rfl) (then_norm ?_))))))))
       exact .inl ⟨(), h, .prn [3, 4, 5, 6, 9, 10, 11, 12, 15, 16, 17, 18, 19, 20, 180] R⟩
      intro c16
      replace h := ifN (Int.not_lt.2 c16) h
      refine q_pickF R (q_movD R (q_fa tb R (q_ldD (y := vI e5.word) tb R (q_fa tb R (q_ldD (y := vI t.words) tb R ?_)))))
      refine r_geq R R R R ?_ ?_
      ·intro c17
       replace h := ifP c17 h
       refine q_pickF R (q_movD R (q_sk 8 R (q_pickT R (ev_endD (by kernel_rfl) (then_norm ?_)))))
       exact .inl ⟨(), h, .prn [3, 4, 5, 6, 9, 10, 11, 12, 15, 16, 17, 18, 19, 20, 180] R⟩
      intro c17
      replace h := ifN (Int.not_le.2 c17) h
      refine q_pickF R (q_movD R (q_fa tb R (q_ldD (y := vI (W ((W a.first) + x2))) tb R (q_fa tb R (q_ldD (y := vI e5.every) tb R ?_)))))
      by_cases c18 : e5.every = 0
      ·cases (if_pos c18).symm.trans h
      replace h := ifN c18 h
      refine r_rem R R c18 R R (q_fa tb R (q_ldD (y := vI e5.phase) tb R ?_))
      refine r_neq R R R R ?_ ?_
      ·intro c19
       replace h := ifN c19 h
       refine q_pickF R (ev_endD (by kernel_rfl) (then_norm ?_))
       exact .inl ⟨(), h, .prn [3, 4, 5, 6, 9, 10, 11, 12, 15, 16, 17, 18, 19, 20, 180] R⟩
      intro c19
      replace h := ifP c19 h
      refine q_pickF R (ev_endD (by kernel_rfl) (then_norm (.inr (sw_condF R (sw_skip (then_norm ?_))))))
      exact .inl ⟨(), h, .prn [3, 4, 5, 6, 9, 10, 11, 12, 15, 16, 17, 18, 19, 20] R⟩
     refine sw_seq ?_
     refine sw_join (fun zz : Unit => hangfirelaw09_FrameAxis_J7 F = some r) (fun zz : Unit => ⟨[(3, .ref 0 4 0 0), (4, .ref 1 3 0 0), (5, .ref 2 5 0 0), (6, .d (.v (.bool false))), (9, .row 3 5 0 (lv).length), (10, .row 4 1 0 (q).length), (11, .d (vI x3)), (12, .d (vI x2)), (15, .ref 5 5 0 0), (16, .d (.v (.bool x4))), (17, .row 7 1 0 (lv4).length), (18, .d (vI x5)), (19, .ref 8 7 0 0), (148, .d (.v (.bool true)))], [some ⟨4, [.d (FrFormat.d t)]⟩, some ⟨3, [.d (FrSky.d o)]⟩, some ⟨5, [.d (Spin.d a)]⟩, some (lFrReportd lv), some (lvI q), some ⟨5, [FrReport_T1 (FrReport.mk (W ((W a.first) + x2)) 0 0 false lv3) 6]⟩, some (lvI lv3), some (lvB lv4), some ⟨7, [.d (FrSensor.d e4)]⟩]⟩) ?_ ?_
     ·clear h
      rintro ⟨⟩ h
      rw [hangfirelaw09_FrameAxis_J7] at h
      refine sw_condT R (qG ?_)
      obtain ⟨rv4, hrv4, h⟩ := bnd h
      refine r_call (hangfirelaw09_Awake_pc hrv4) (.of (by kernel_rfl)) R R R R (q_asgD R (eN (sw_ret (then_ret (block_ret (then_ret (then_ret (block_ret (then_ret (block_ret (then_ret (then_ret (block_ret (then_ret ?_))))))))))))))
      obtain rfl := sI h
      exact f1 6 R
     refine sw_rg (q_fa tb R (q_ldD (y := vI e4.channel) tb R ?_))
     refine r_lss R R R R ?_ ?_
     ·intro c12
      replace h := ifP c12 h
      refine q_movD R (q_sk 6 R (q_pickT R (q_movD R (q_sk 3 R (q_pickT R (eN ?_))))))
      exact .inl ⟨(), h, .prn [3, 4, 5, 6, 9, 10, 11, 12, 15, 16, 17, 18, 19, 148] R⟩
     intro c12
     replace h := ifN (Int.not_lt.2 c12) h
     refine q_movD R (q_fa tb R (q_ldD (y := vI e4.channel) tb R (q_fa tb R (q_ldD (y := .arr 4 ((t.channels).map FrChannel.d)) tb R (q_lenM tb R ?_)))))
     refine r_geq R R R R ?_ ?_
     ·intro c13
      replace h := ifP c13 h
      refine q_pickF R (q_movD R (q_sk 3 R (q_pickT R (eN ?_))))
      exact .inl ⟨(), h, .prn [3, 4, 5, 6, 9, 10, 11, 12, 15, 16, 17, 18, 19, 148] R⟩
     intro c13
     replace h := ifN (Int.not_le.2 c13) h
     refine q_pickF R (q_movD R (q_fa tb R (q_ldD (y := vI e4.scale) tb R ?_)))
     refine r_lss R R R R ?_ ?_
     ·intro c14
      replace h := ifP c14 h
      refine q_pickF R (eN ?_)
      exact .inl ⟨(), h, .prn [3, 4, 5, 6, 9, 10, 11, 12, 15, 16, 17, 18, 19, 148] R⟩
     intro c14
     replace h := ifN (Int.not_lt.2 c14) h
     refine q_pickF R (eN (.inr (sw_condF R (sw_skip (then_norm ?_)))))
     exact .inl ⟨(), h, .prn [3, 4, 5, 6, 9, 10, 11, 12, 15, 16, 17, 18, 19] R⟩
    intro c11
    replace h := ifN (Int.not_lt.2 c11) h
    refine eN (sw_condF R (sw_exit (then_exit (then_exit ?_))))
    subst hK22
    refine block_exit (then_norm (qG (q_asgD R (eN (sw_seq ?_)))))
    refine sw_join (fun zz : Int => hangfirelaw09_FrameAxis_J10 F (hangfirelaw09_FrameAxis_L4 F t o a K18 m18) a lv x2 x3 q lv3 x4 zz = some r) (fun zz : Int => ⟨[(3, .ref 0 4 0 0), (4, .ref 1 3 0 0), (5, .ref 2 5 0 0), (6, .d (.v (.bool false))), (9, .row 3 5 0 (lv).length), (10, .row 4 1 0 (q).length), (11, .d (vI x3)), (12, .d (vI x2)), (15, .ref 5 5 0 0), (16, .d (.v (.bool x4))), (24, .d (.v (.int .u8 zz)))], [some ⟨4, [.d (FrFormat.d t)]⟩, some ⟨3, [.d (FrSky.d o)]⟩, some ⟨5, [.d (Spin.d a)]⟩, some (lFrReportd lv), some (lvI q), some ⟨5, [FrReport_T1 (FrReport.mk (W ((W a.first) + x2)) 0 0 false lv3) 6]⟩, some (lvI lv3)]⟩) ?_ ?_
    ·clear h
     rintro x8 h
     rw [hangfirelaw09_FrameAxis_J10] at h
     refine sw_seq ?_
     refine sw_join (fun zz : Bool => hangfirelaw09_FrameAxis_J9 F (hangfirelaw09_FrameAxis_L4 F t o a K18 m18) a lv x2 x3 q lv3 x8 zz = some r) (fun zz : Bool => ⟨[(3, .ref 0 4 0 0), (4, .ref 1 3 0 0), (5, .ref 2 5 0 0), (6, .d (.v (.bool false))), (9, .row 3 5 0 (lv).length), (10, .row 4 1 0 (q).length), (11, .d (vI x3)), (12, .d (vI x2)), (15, .ref 5 5 0 0), (24, .d (.v (.int .u8 x8)))], [some ⟨4, [.d (FrFormat.d t)]⟩, some ⟨3, [.d (FrSky.d o)]⟩, some ⟨5, [.d (Spin.d a)]⟩, some (lFrReportd lv), some (lvI q), some ⟨5, [FrReport_T1 (FrReport.mk (W ((W a.first) + x2)) 0 0 zz lv3) 6]⟩, some (lvI lv3)]⟩) ?_ ?_
     ·clear h
      rintro x9 h
      rw [hangfirelaw09_FrameAxis_J9] at h
      refine sw_seq ?_
      refine sw_join (fun zz : Unit => hangfirelaw09_FrameAxis_J8 F (hangfirelaw09_FrameAxis_L4 F t o a K18 m18) a lv x2 x3 q lv3 x9 = some r) (fun zz : Unit => ⟨[(3, .ref 0 4 0 0), (4, .ref 1 3 0 0), (5, .ref 2 5 0 0), (6, .d (.v (.bool false))), (9, .row 3 5 0 (lv).length), (10, .row 4 1 0 (q).length), (11, .d (vI x3)), (12, .d (vI x2)), (15, .ref 5 5 0 0), (300, .d (.v (.bool true)))], [some ⟨4, [.d (FrFormat.d t)]⟩, some ⟨3, [.d (FrSky.d o)]⟩, some ⟨5, [.d (Spin.d a)]⟩, some (lFrReportd lv), some (lvI q), some ⟨5, [FrReport_T1 (FrReport.mk (W ((W a.first) + x2)) 0 0 x9 lv3) 6]⟩, some (lvI lv3)]⟩) ?_ ?_
      ·clear h
       rintro ⟨⟩ h
       rw [hangfirelaw09_FrameAxis_J8] at h
       refine sw_condT R ?_
       refine SW.fz (ts' := [(3, .ref 0 4 0 0), (4, .ref 1 3 0 0), (5, .ref 2 5 0 0), (6, .d (.v (.bool false))), (9, .row 3 5 0 (lv).length), (10, .row 4 1 0 (q).length), (11, .d (vI x3)), (12, .d (vI x2)), (15, .ref 5 5 0 0), (300, .d (.v (.bool true)))]) (L' := [some ⟨4, [.d (FrFormat.d t)]⟩, some ⟨3, [.d (FrSky.d o)]⟩, some ⟨5, [.d (Spin.d a)]⟩, some (lFrReportd lv), some (lvI q), some ⟨5, [.d (.agg [vI (W ((W a.first) + x2)), vI 0, vI 0, .v (.bool x9), .arr 1 ((lv3).map vI)])]⟩, none]) (w := lv3) (f := vI) 6 1 R (.cons (.same _) (.cons (.same _) (.cons (.same _) (.cons (.same _) (.cons (.same _) (.cons (.same _) (.cons (.same _) (.cons (.same _) (.cons (.same _) (.cons (.same _) .nil)))))))))) (.same (.same (.same (.same (.same (.cons R (.cons (.aggDL (.cons (.same _) (.cons (.same _) (.cons (.same _) (.cons (.same _) (.cons (.all (List.length_map _)) .nil)))))) .nil) (.same .nil))))))) ?_
       refine sw_rg (r_movW R R R (q_ldD (y := .agg [vI (W ((W a.first) + x2)), vI 0, vI 0, .v (.bool x9), .arr 1 ((lv3).map vI)]) tb R (r_bslice tb R R R R R R R R R R R R R ?_)))
       obtain ⟨q3, iq3, h⟩ := bnd h
       refine r_apM (g := FrReport.d) (w := lv) (v := [(FrReport.mk (W ((W a.first) + x2)) 0 0 x9 lv3)]) ([some ⟨4, [.d (FrFormat.d t)]⟩, some ⟨3, [.d (FrSky.d o)]⟩, some ⟨5, [.d (Spin.d a)]⟩, none, some (lvI q), some ⟨5, [.d (.agg [vI (W ((W a.first) + x2)), vI 0, vI 0, .v (.bool x9), .arr 1 ((lv3).map vI)])]⟩, none, some (lFrReportd [(FrReport.mk (W ((W a.first) + x2)) 0 0 x9 lv3)])]) tb R R R R R R R R R R R iq3 R R R R R (r_asgW R R R (ev_end (block_norm (then_norm (sw_rg (q_movD R (q_add R ?_)))))))
       refine q_asgD R (eN ?_)
       exact ⟨m18, ⟨[(3, .ref 0 4 0 0), (4, .ref 1 3 0 0), (5, .ref 2 5 0 0), (6, .d (.v (.bool false))), (9, .row 3 5 0 (q3).length), (10, .row 4 1 0 (q).length), (11, .d (vI x3)), (12, .d (vI (W (x2 + 1))))], [some ⟨4, [.d (FrFormat.d t)]⟩, some ⟨3, [.d (FrSky.d o)]⟩, some ⟨5, [.d (Spin.d a)]⟩, some (lFrReportd q3), some (lvI q)]⟩, Nat.lt_succ_self _, .vw (κ := [0, 1, 2, 8, 4]) (vK (.cons R R (.cons R R (.cons R R (.row R (.row R .nil))))) R), q3, q, x3, (W (x2 + 1)), h, R⟩
      refine sw_rg (q_movD R (r_rem R R (by decide) R R ?_))
      refine r_eql R R R R ?_ ?_
      ·intro c31
       replace h := ifP c31 h
       refine q_movD R (q_sk 2 R (q_pickT R (eN ?_)))
       exact .inl ⟨(), h, .prn [3, 4, 5, 6, 9, 10, 11, 12, 15, 300] R⟩
      intro c31
      replace h := ifN c31 h
      refine q_movD R (q_movD R ?_)
      refine r_eql R R R R ?_ ?_
      ·intro c32
       replace h := ifP c32 h
       refine q_pickF R (eN ?_)
       exact .inl ⟨(), h, .prn [3, 4, 5, 6, 9, 10, 11, 12, 15, 300] R⟩
      intro c32
      replace h := ifN c32 h
      refine q_pickF R (eN (.inr (sw_condF R (sw_skip (block_norm (then_norm (sw_rg (q_movD R (q_add R (q_asgD R (eN ?_)))))))))))
      exact ⟨m18, ⟨[(3, .ref 0 4 0 0), (4, .ref 1 3 0 0), (5, .ref 2 5 0 0), (6, .d (.v (.bool false))), (9, .row 3 5 0 (lv).length), (10, .row 4 1 0 (q).length), (11, .d (vI x3)), (12, .d (vI (W (x2 + 1))))], [some ⟨4, [.d (FrFormat.d t)]⟩, some ⟨3, [.d (FrSky.d o)]⟩, some ⟨5, [.d (Spin.d a)]⟩, some (lFrReportd lv), some (lvI q)]⟩, Nat.lt_succ_self _, .vw (κ := [0, 1, 2, 3, 4]) (vK (.cons R R (.cons R R (.cons R R (.row R (.row R .nil))))) R), lv, q, x3, (W (x2 + 1)), h, R⟩
     refine sw_rg (q_movD R (r_quo R R (by decide) R R (r_rem R R (by decide) R R ?_)))
     refine r_eql R R R R ?_ ?_
     ·intro c30
      replace h := ifP c30 h
      refine q_movD R (q_sk 2 R (q_pickT R (q_fa tb R (q_stE _ _ tb R (eN ?_)))))
      exact .inl ⟨true, h, .prn [3, 4, 5, 6, 9, 10, 11, 12, 15, 24] R⟩
     intro c30
     replace h := ifN c30 h
     refine q_movD R (q_movD R (r_not R R R (q_pickF R (q_fa tb R (q_stE _ _ tb R (eN ?_))))))
     exact .inl ⟨(!x4), h, .prn [3, 4, 5, 6, 9, 10, 11, 12, 15, 24] R⟩
    refine qG (q_fa tb R (q_ldD (y := .arr 1 ((a.lost).map v8)) tb R (q_lenM tb R ?_)))
    refine r_gtr R R R R ?_ ?_
    ·intro c28
     replace h := ifP c28 h
     refine eN (sw_condT R (sw_dr (by kernel_rfl) (q_fa tb R (q_ldD (y := .arr 1 ((a.lost).map v8)) tb R (q_movD R (q_fa tb R (q_ldD (y := .arr 1 ((a.lost).map v8)) tb R (q_lenM tb R ?_))))))))
     by_cases c29 : (a.lost.length : Int) = 0
     ·cases (if_pos c29).symm.trans h
     replace h := ifN c29 h
     refine r_rem R R c29 R R ?_
     obtain ⟨e11, ie11, h⟩ := bnd h
     refine q_ixE tb (ix0 ie11) (ix1m ie11) R (q_ldE (y := .v (.int .u8 e11)) tb (ix2 (g := v8) ie11) R (q_asgD R (ev_endD (by kernel_rfl) (then_norm ?_))))
     exact .inl ⟨e11, h, .vw (κ := [0, 1, 2, 3, 4, 5, 6]) (vK (.cons R R (.cons R R (.cons R R (.row R (.row R (.cons R R (.row R .nil))))))) R)⟩
    intro c28
    replace h := ifN (Int.not_lt.2 c28) h
    refine eN (sw_condF R (sw_skip (then_norm ?_)))
    exact .inl ⟨0, h, .vw (κ := [0, 1, 2, 3, 4, 5, 6]) (vK (.cons R R (.cons R R (.cons R R (.row R (.row R (.cons R R (.row R .nil))))))) R)⟩
   refine qG (q_fa tb R (q_ldD (y := .arr 1 ((a.steps).map v8)) tb R (q_lenM tb R ?_)))
   refine r_gtr R R R R ?_ ?_
   ·intro c6
    replace h := ifP c6 h
    refine eN (sw_condT R (sw_seq (sw_dr (by kernel_rfl) (q_fa tb R (q_ldD (y := .arr 1 ((a.steps).map v8)) tb R (q_movD R (q_fa tb R (q_ldD (y := .arr 1 ((a.steps).map v8)) tb R (q_lenM tb R ?_)))))))))
    by_cases c7 : (a.steps.length : Int) = 0
    ·cases (if_pos c7).symm.trans h
    replace h := ifN c7 h
    refine r_rem R R c7 R R ?_
    obtain ⟨e, ie, h⟩ := bnd h
    refine q_ixE tb (ix0 ie) (ix1m ie) R (q_ldE (y := .v (.int .u8 e)) tb (ix2 (g := v8) ie) R (r_cvI (k2 := .i64) R R R R R R (q_fa tb R (q_ldD (y := .arr 3 ((o.dirs).map FlDir.d)) tb R (q_lenM tb R ?_)))))
    by_cases c8 : (o.dirs.length : Int) = 0
    ·cases (if_pos c8).symm.trans h
    replace h := ifN c8 h
    refine r_rem R R c8 R R (q_asgD R (ev_endD (by kernel_rfl) (then_norm (qG (q_fa tb R (q_ldD (y := .arr 3 ((o.dirs).map FlDir.d)) tb R (q_movD R ?_)))))))
    obtain ⟨e2, ie2, h⟩ := bnd h
    refine q_ixE tb (ix0 ie2) (ix1m ie2) R (q_ldE (y := FlDir.d e2) tb (ix2 (g := FlDir.d) ie2) R (r_alloc tb R R R R R (q_stE _ _ tb R (eN (sw_seq (sw_dr (by kernel_rfl) (q_movD R ?_)))))))
    refine r_eql R R R R ?_ ?_
    ·intro c9
     replace h := ifP c9 h
     refine q_movD R (q_sk 15 R (q_pickT R (ev_endD (by kernel_rfl) (then_norm (sw_condT R (sw_rg (q_movD R (q_asgD R (eN ?_)))))))))
     exact .inl ⟨(Int.tmod (W e) (o.dirs.length : Int)), h, .vw (κ := [0, 1, 2, 3, 4]) (vK (.cons R R (.cons R R (.cons R R (.row R (.row R .nil))))) R)⟩
    intro c9
    replace h := ifN c9 h
    refine q_movD R (q_fa tb R (q_ldD (y := .arr 3 ((o.dirs).map FlDir.d)) tb R (q_movD R ?_)))
    obtain ⟨e3, ie3, h⟩ := bnd h
    refine q_ixE tb (ix0 ie3) (ix1m ie3) R (q_ldE (y := FlDir.d e3) tb (ix2 (g := FlDir.d) ie3) R (q_fa tb R (q_ldD (y := vI e2.x) tb R (q_fa tb R (q_ldD (y := vI e2.y) tb R (q_fa tb R (q_ldD (y := vI e2.z) tb R ?_)))))))
    obtain ⟨rv3, hrv3, h⟩ := bnd h
    refine r_call (hangfirelaw09_dot_pc hrv3) (.of (by kernel_rfl)) R R R R (q_fa tb R (q_ldD (y := vI o.turn) tb R ?_))
    refine r_geq R R R R ?_ ?_
    ·intro c10
     replace h := ifP c10 h
     refine q_pickF R (ev_endD (by kernel_rfl) (then_norm (sw_condT R (sw_rg (q_movD R (q_asgD R (eN ?_)))))))
     exact .inl ⟨(Int.tmod (W e) (o.dirs.length : Int)), h, .vw (κ := [0, 1, 2, 3, 4]) (vK (.cons R R (.cons R R (.cons R R (.row R (.row R .nil))))) R)⟩
    intro c10
    replace h := ifN (Int.not_le.2 c10) h
    refine q_pickF R (ev_endD (by kernel_rfl) (then_norm (sw_condF R (sw_skip (then_norm ?_)))))
    exact .inl ⟨x, h, .vw (κ := [0, 1, 2, 3, 4]) (vK (.cons R R (.cons R R (.cons R R (.row R (.row R .nil))))) R)⟩
   intro c6
   replace h := ifN (Int.not_lt.2 c6) h
   refine eN (sw_condF R (sw_skip (then_norm ?_)))
   exact .inl ⟨x, h, .vw (κ := [0, 1, 2, 3, 4]) (vK (.cons R R (.cons R R (.cons R R (.row R (.row R .nil))))) R)⟩
  intro c5
  replace h := ifN (Int.not_le.2 c5) h
  refine eN (sw_condF R (sw_exit (then_exit (then_exit ?_))))
  subst hK18
  refine block_exit (then_norm (sw_seq ?_))
  refine SW.fz (ts' := [(3, .ref 0 4 0 0), (4, .ref 1 3 0 0), (5, .ref 2 5 0 0), (6, .d (.v (.bool false))), (9, .d (.arr 5 ((lv).map FrReport.d))), (10, .row 4 1 0 (lv2).length), (11, .d (vI x)), (12, .d (vI x2)), (54, .d (vI x2)), (55, .ref 2 5 0 1), (56, .d (.v (.int .u8 a.many))), (57, .d (vI (W a.many))), (58, .d (vI (Int.tmod (W a.many) 40))), (59, .d (.v (.bool false)))]) (L' := [some ⟨4, [.d (FrFormat.d t)]⟩, some ⟨3, [.d (FrSky.d o)]⟩, some ⟨5, [.d (Spin.d a)]⟩, none, some (lvI lv2)]) (w := lv) (f := FrReport.d) 3 5 R (.cons (.same _) (.cons (.same _) (.cons (.same _) (.cons (.same _) (.cons (.all (List.length_map _)) (.cons (.same _) (.cons (.same _) (.cons (.same _) (.cons (.same _) (.cons (.same _) (.cons (.same _) (.cons (.same _) (.cons (.same _) (.cons (.same _) .nil)))))))))))))) (.same (.same (.same (.same (.same .nil))))) ?_
  refine sw_rg (q_ldD (y := FrFormat.d t) tb R (q_ldD (y := FrSky.d o) tb R (q_movD R ?_)))
  obtain ⟨rv8, hrv8, h⟩ := bnd h
  refine r_callN (t' := .tup [.row 5 2 0 (rv8.1).length, .d (vI rv8.2)]) (news' := [(lFrAxesd rv8.1)]) (frame_Axes_scr hrv8) (.of (by kernel_rfl)) R R R ((.row .nil)) R R R (r_movT (.tup [.row 5 2 0 (rv8.1).length, .d (vI rv8.2)]) R R R (r_ext (t := .row 5 2 0 (rv8.1).length) R R R R (r_ext (t := .d (vI rv8.2)) R R R R (r_asgW R R R (q_asgD R (eN (sw_seq ?_)))))))
  refine sw_join (fun zz : Unit => hangfirelaw09_FrameAxis_J12 F a lv2 rv8 = some r) (fun zz : Unit => ⟨[(5, .ref 0 5 0 0), (6, .d (.v (.bool false))), (10, .row 1 1 0 (lv2).length), (25, .row 2 2 0 (rv8.1).length)], [some ⟨5, [.d (Spin.d a)]⟩, some (lvI lv2), some (lFrAxesd rv8.1)]⟩) ?_ ?_
  ·clear h
   rintro ⟨⟩ h
   rw [hangfirelaw09_FrameAxis_J12] at h
   refine sw_seq (qG (q_asgD R (eN (sw_block ?_))))
   obtain ⟨K34, hK34, h⟩ : ∃ K, K = _ ∧ hangfirelaw09_FrameAxis_L3 F a lv2 rv8 K F 0 = some r := ⟨_, rfl, h⟩
   refine sw_loopS (fun m st => ∃ (x10 : Int), hangfirelaw09_FrameAxis_L3 F a lv2 rv8 K34 m x10 = some r ∧ st = ⟨[(5, .ref 0 5 0 0), (6, .d (.v (.bool false))), (10, .row 1 1 0 (lv2).length), (25, .row 2 2 0 (rv8.1).length), (26, .d (vI x10))], [some ⟨5, [.d (Spin.d a)]⟩, some (lvI lv2), some (lFrAxesd rv8.1)]⟩) (.prn [5, 6, 10, 25, 26] R) ⟨0, h, R⟩ ?_
   clear h
   rintro m34 st ⟨x10, h, rfl⟩
   cases m34 with
   | zero => cases (show (none : Option Bool) = some r from h)
   | succ m34 =>
   rw [hangfirelaw09_FrameAxis_L3] at h
   refine sw_seq (qG (q_movD R (r_movW R R R (r_lenR tb R R R R R ?_))))
   refine r_lss R R R R ?_ ?_
   ·intro c35
    replace h := ifP c35 h
    refine eN (sw_condT R (sw_skip (then_norm (sw_seq (sw_block (qG (q_asgD R (eN (sw_seq (qG (q_asgD R (eN (sw_block ?_)))))))))))))
    obtain ⟨K38, hK38, h⟩ : ∃ K, K = _ ∧ hangfirelaw09_FrameAxis_L2 F lv2 rv8 x10 K F false 0 = some r := ⟨_, rfl, h⟩
    refine sw_loopS (fun m st => ∃ (x11 : Bool) (x12 : Int), hangfirelaw09_FrameAxis_L2 F lv2 rv8 x10 K38 m x11 x12 = some r ∧ st = ⟨[(5, .ref 0 5 0 0), (6, .d (.v (.bool false))), (10, .row 1 1 0 (lv2).length), (25, .row 2 2 0 (rv8.1).length), (26, .d (vI x10)), (27, .d (.v (.bool x11))), (28, .d (vI x12))], [some ⟨5, [.d (Spin.d a)]⟩, some (lvI lv2), some (lFrAxesd rv8.1)]⟩) (.prn [5, 6, 10, 25, 26, 27, 28] R) ⟨false, 0, h, R⟩ ?_
    clear h
    rintro m38 st ⟨x11, x12, h, rfl⟩
    cases m38 with
    | zero => cases (show (none : Option Bool) = some r from h)
    | succ m38 =>
    rw [hangfirelaw09_FrameAxis_L2] at h
    refine sw_seq (qG (q_movD R (r_movW R R R (q_movD R ?_))))
    obtain ⟨e14, ie14, h⟩ := bnd h
    refine r_ixI tb R R R R R R (ix0 ie14) (ix1 ie14) R R (q_fa tb R ?_)
    refine r_ldD (y := .arr 1 ((e14.dirs).map vI)) tb R R R R (ix2 (g := fun a => T.d (FrAxes.d a)) ie14) R R R R ?_
    refine q_lenM tb R ?_
    refine r_lss R R R R ?_ ?_
    ·intro c36
     replace h := ifP c36 h
     refine eN (sw_condT R (sw_skip (then_norm (sw_seq (sw_block (sw_dr (by kernel_rfl) (q_movD R ?_)))))))
     with_reducible apply ev_lit
     ·intro c37
      replace h := ifP c37 h
      refine q_movD R (q_sk 13 R (q_pickT R (q_asgD R (ev_endD (by kernel_rfl) (block_norm (then_norm (sw_rg (q_movD R (q_add R (q_asgD R (eN ?_)))))))))))
      exact ⟨m38, _, Nat.lt_succ_self _, .prn [5, 6, 10, 25, 26, 27, 28] R, true, (W (x12 + 1)), h, R⟩
     intro c37
     replace h := ifF c37 h
     refine q_movD R (r_movW R R R (q_movD R (r_ixI tb R R R R R R (ix0 ie14) (ix1 ie14) R R (q_fa tb R ?_))))
     refine r_ldD (y := .arr 1 ((e14.dirs).map vI)) tb R R R R (ix2 (g := fun a => T.d (FrAxes.d a)) ie14) R R R R ?_
     refine q_movD R ?_
     obtain ⟨e15, ie15, h⟩ := bnd h
     refine q_ixE tb (ix0 ie15) (ix1m ie15) R (q_ldE (y := vI e15) tb (ix2 (g := vI) ie15) R (r_movW R R R (q_movD R ?_)))
     obtain ⟨e16, ie16, h⟩ := bnd h
     refine r_ixI tb R R R R R R (ix0 ie16) (ix1 ie16) R R ?_
     refine r_ldD (y := vI e16) tb R R R R (ix2 (g := fun a => T.d (vI a)) ie16) R R R R ?_
     refine r_eql R R R R ?_ ?_
     ·intro c38
      replace h := ifP c38 h
      refine q_pickF R (q_asgD R (ev_endD (by kernel_rfl) (block_norm (then_norm (sw_rg (q_movD R (q_add R (q_asgD R (eN ?_)))))))))
      exact ⟨m38, _, Nat.lt_succ_self _, .prn [5, 6, 10, 25, 26, 27, 28] R, true, (W (x12 + 1)), h, R⟩
     intro c38
     replace h := ifN c38 h
     refine q_pickF R (q_asgD R (ev_endD (by kernel_rfl) (block_norm (then_norm (sw_rg (q_movD R (q_add R (q_asgD R (eN ?_)))))))))
     exact ⟨m38, _, Nat.lt_succ_self _, .prn [5, 6, 10, 25, 26, 27, 28] R, false, (W (x12 + 1)), h, R⟩
    intro c36
    replace h := ifN (Int.not_lt.2 c36) h
    refine eN (sw_condF R (sw_exit (then_exit (then_exit ?_))))
    subst hK38
    refine block_exit (then_norm (sw_seq (sw_dr (by kernel_rfl) (q_movD R ?_))))
    with_reducible apply ev_lit
    ·intro c39
     replace h := ifP c39 h
     refine r_notT R R R (q_movD R (r_movW R R R (q_movD R ?_)))
     obtain ⟨e17, ie17, h⟩ := bnd h
     refine r_ixI tb R R R R R R (ix0 ie17) (ix1 ie17) R R (q_fa tb R ?_)
     refine r_ldD (y := vI e17.number) tb R R R R (ix2 (g := fun a => T.d (FrAxes.d a)) ie17) R R R R ?_
     refine q_fa tb R (q_ldD (y := .v (.int .u16 a.first)) tb R (r_cvI (k2 := .i64) R R R R R R (q_movD R (q_add R ?_))))
     refine r_neq R R R R ?_ ?_
     ·intro c40
      replace h := ifN c40 h
      refine q_pickF R (ev_endD (by kernel_rfl) (then_norm (sw_condT R (qG (q_asgD R (eN (sw_ret (block_ret (then_ret (then_ret (block_ret (then_ret ?_))))))))))))
      obtain rfl := sI h
      exact f1 6 R
     intro c40
     replace h := ifP c40 h
     refine q_pickF R (ev_endD (by kernel_rfl) (then_norm (sw_condF R (sw_skip (block_norm (then_norm (sw_rg (q_movD R (q_add R (q_asgD R (eN ?_)))))))))))
     exact ⟨m34, _, Nat.lt_succ_self _, .prn [5, 6, 10, 25, 26] R, (W (x10 + 1)), h, R⟩
    intro c39
    replace h := ifF c39 h
    refine r_notF R R R (q_movD R (q_sk 11 R (q_pickT R (ev_endD (by kernel_rfl) (then_norm (sw_condT R (qG (q_asgD R (eN (sw_ret (block_ret (then_ret (then_ret (block_ret (then_ret ?_)))))))))))))))
    obtain rfl := sI h
    exact f1 6 R
   intro c35
   replace h := ifN (Int.not_lt.2 c35) h
   refine eN (sw_condF R (sw_exit (then_exit (then_exit ?_))))
   subst hK34
   refine block_exit (then_norm (qG ?_))
   obtain ⟨rv9, hrv9, h⟩ := bnd h
   refine r_call (hangfirelaw09_Awake_pc hrv9) (.of (by kernel_rfl)) R R R R (q_asgD R (eN (sw_ret ?_)))
   obtain rfl := sI h
   exact f1 6 R
  refine sw_seq (sw_dr (by kernel_rfl) (q_movD R ?_))
  refine r_neq R R R R ?_ ?_
  ·intro c33
   replace h := ifN c33 h
   refine q_movD R (q_sk 16 R (q_pickT R (ev_endD (by kernel_rfl) (then_norm (sw_condT R (qG (q_asgD R (eN (sw_ret (then_ret ?_))))))))))
   obtain rfl := sI h
   exact f1 6 R
  intro c33
  replace h := ifP c33 h
  refine q_movD R (r_movW R R R (r_lenR tb R R R R R (q_movD R (q_movD R (q_lenM tb R (r_sub R R R R ?_))))))
  obtain ⟨e12, ie12, h⟩ := bnd h
  refine q_ixE tb (ix0 ie12) (ix1m ie12) R (q_faE tb R (q_ldE (y := vI e12.number) tb (ix2 (g := FrReport.d) ie12) R (q_movD R ?_)))
  obtain ⟨e13, ie13, h⟩ := bnd h
  refine q_ixE tb (ix0 ie13) (ix1m ie13) R (q_faE tb R (q_ldE (y := vI e13.number) tb (ix2 (g := FrReport.d) ie13) R (r_sub R R R R (q_add R ?_))))
  refine r_neq R R R R ?_ ?_
  ·intro c34
   replace h := ifN c34 h
   refine q_pickF R (ev_endD (by kernel_rfl) (then_norm (sw_condT R (qG (q_asgD R (eN (sw_ret (then_ret ?_))))))))
   obtain rfl := sI h
   exact f1 6 R
  intro c34
  replace h := ifP c34 h
  refine q_pickF R (ev_endD (by kernel_rfl) (then_norm (sw_condF R (sw_skip (then_norm ?_)))))
  exact .inl ⟨(), h, .vw (κ := [2, 4, 5]) (vK (.cons R R (.row R (.row R .nil))) R)⟩
 refine sw_seq ?_
 refine sw_join (fun zz : Unit => hangfirelaw09_FrameAxis_J14 F = some r) (fun zz : Unit => ⟨[(3, .ref 0 4 0 0), (4, .ref 1 3 0 0), (5, .ref 2 5 0 0), (6, .d (.v (.bool false))), (52, .d (.v (.bool true)))], [some ⟨4, [.d (FrFormat.d t)]⟩, some ⟨3, [.d (FrSky.d o)]⟩, some ⟨5, [.d (Spin.d a)]⟩]⟩) ?_ ?_
 ·clear h
  rintro ⟨⟩ h
  rw [hangfirelaw09_FrameAxis_J14] at h
  refine sw_condT R (qG ?_)
  obtain ⟨rv2, hrv2, h⟩ := bnd h
  refine r_call (hangfirelaw09_Awake_pc hrv2) (.of (by kernel_rfl)) R R R R (q_asgD R (eN (sw_ret (then_ret ?_))))
  obtain rfl := sI h
  exact f1 6 R
 refine sw_rg (q_movD R ?_)
 refine r_neq R R R R ?_ ?_
 ·intro c
  replace h := ifN c h
  refine q_movD R (q_sk 4 R (q_pickT R (q_movD R (q_sk 3 R (q_pickT R (q_movD R (q_sk 3 R (q_pickT R (eN ?_)))))))))
  exact .inl ⟨(), h, .prn [3, 4, 5, 6, 52] R⟩
 intro c
 replace h := ifP c h
 refine q_movD R (q_fa tb R (q_ldD (y := .arr 3 ((o.dirs).map FlDir.d)) tb R (q_lenM tb R ?_)))
 refine r_eql R R R R ?_ ?_
 ·intro c2
  replace h := ifP c2 h
  refine q_pickF R (q_movD R (q_sk 3 R (q_pickT R (q_movD R (q_sk 3 R (q_pickT R (eN ?_)))))))
  exact .inl ⟨(), h, .prn [3, 4, 5, 6, 52] R⟩
 intro c2
 replace h := ifN c2 h
 refine q_pickF R (q_movD R (q_fa tb R (q_ldD (y := vI t.words) tb R ?_)))
 refine r_lss R R R R ?_ ?_
 ·intro c3
  replace h := ifP c3 h
  refine q_pickF R (q_movD R (q_sk 3 R (q_pickT R (eN ?_))))
  exact .inl ⟨(), h, .prn [3, 4, 5, 6, 52] R⟩
 intro c3
 replace h := ifN (Int.not_lt.2 c3) h
 refine q_pickF R (q_movD R (q_fa tb R (q_ldD (y := vI t.words) tb R ?_)))
 refine r_gtr R R R R ?_ ?_
 ·intro c4
  replace h := ifP c4 h
  refine q_pickF R (eN ?_)
  exact .inl ⟨(), h, .prn [3, 4, 5, 6, 52] R⟩
 intro c4
 replace h := ifN (Int.not_lt.2 c4) h
 refine q_pickF R (eN (.inr (sw_condF R (sw_skip (then_norm ?_)))))
 exact .inl ⟨(), h, .prn [3, 4, 5, 6] R⟩
end Go.Proofs.Ytjnnkcnnandeeaa
