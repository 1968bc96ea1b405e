/- What functions of the program compute: plain functions, and the proofs. -/
import Derived.Test.YtjnnkcnnandeeaaW1
import Derived.Test.YtjnnkcnnandeeaaWAwake
import Derived.Deep.Cut
import Derived.Lib.QuietBelow
import Derived.Shelf.Lay
import Derived.Ground.SlsfProg
set_option linter.unusedVariables false
set_option linter.unusedSimpArgs false
open Go Go.Proofs.Ytjnnkcnnandeeaa.Sh Go.Proofs
namespace Go.Proofs.Ytjnnkcnnandeeaa
set_option maxRecDepth 100000
set_option maxHeartbeats 40000000
def r9_Merge_L1 (F : Nat) (x : Int) (rv2 : ((List FrFrame) × (List Int) × Int)) (K : (List FrReport) → Int → Option ((List FrReport) × Int)) : Nat → (List FrReport) → Int → Option ((List FrReport) × Int)
 | 0, _, _ => none
 | n + 1, lv2, x2 => if x2 < (rv2.1.length : Int) then (Option.bind (ixO rv2.2.1 x2) fun e2 => Option.bind (ixO rv2.1 x2) fun e3 => Option.bind (appO lv2 [(FrReport.mk e2 x 0 false e3.words)]) fun q => r9_Merge_L1 F x rv2 K n q (W (x2 + 1))) else (K lv2 x2)
def r9_Merge_L2 (F : Nat) (a : FrReport) (K : (List FrReport) → Int → Bool → Int → Option ((List FrReport) × Int)) : Nat → (List FrReport) → Int → Bool → Int → Option ((List FrReport) × Int)
 | 0, _, _, _, _ => none
 | n + 1, lv4, x5, x6, x7 => if 0 ≤ x7 then (Option.bind (ixO lv4 x7) fun e6 => if e6.number = a.number then (if e6.agree < a.agree then (Option.bind (setO lv4 x7 a) fun lv5 => Option.bind (ixO lv5 x7) fun e7 => if a.number < e7.number then (r9_Merge_L2 F a K n lv5 x7 false (W (x7 - 1))) else (r9_Merge_L2 F a K n lv5 x5 false (W (x7 - 1)))) else (if a.number < e6.number then (r9_Merge_L2 F a K n lv4 x7 false (W (x7 - 1))) else (r9_Merge_L2 F a K n lv4 x5 false (W (x7 - 1))))) else (if a.number < e6.number then (r9_Merge_L2 F a K n lv4 x7 x6 (W (x7 - 1))) else (r9_Merge_L2 F a K n lv4 x5 x6 (W (x7 - 1))))) else (K lv4 x5 x6 x7)
def r9_Merge_L3 (F : Nat) (lv : (List FrReport)) (K : FrReport → Int → Option ((List FrReport) × Int)) : Nat → FrReport → Int → Option ((List FrReport) × Int)
 | 0, _, _ => none
 | n + 1, a, x4 => if x4 < (lv.length : Int) then (Option.bind (ixO lv x4) fun e5 => if e5.number = a.number then (Option.bind (r9_Ints F e5.words a.words) fun rv3 => if rv3 = true then (r9_Merge_L3 F lv K n {a with agree := (W (a.agree + 1))} (W (x4 + 1))) else (r9_Merge_L3 F lv K n {a with marked := true} (W (x4 + 1)))) else (r9_Merge_L3 F lv K n a (W (x4 + 1)))) else (K a x4)
def r9_Merge_L4 (F : Nat) (lv : (List FrReport)) (K : (List FrReport) → Int → Option ((List FrReport) × Int)) : Nat → (List FrReport) → Int → Option ((List FrReport) × Int)
 | 0, _, _ => none
 | n + 1, lv3, x3 => if x3 < (lv.length : Int) then (Option.bind (ixO lv x3) fun e4 => r9_Merge_L3 F lv (fun (a : FrReport) (x4 : Int) => r9_Merge_L2 F a (fun (lv4 : (List FrReport)) (x5 : Int) (x6 : Bool) (x7 : Int) => if x6 = true then (Option.bind (natO x5 lv4.length) fun p => if lv4.length = p then (Option.bind (appO ([] : List FrReport) ([] : List FrReport)) fun q2 => Option.bind (natO x5 lv4.length) fun p2 => Option.bind (appO ([] : List FrReport) (lv4.take p2)) fun q3 => Option.bind (appO q3 [a]) fun q4 => Option.bind (appO q4 q2) fun q5 => r9_Merge_L4 F lv K n q5 (W (x3 + 1))) else (Option.bind (appO ([] : List FrReport) (lv4.drop p)) fun q6 => Option.bind (natO x5 lv4.length) fun p3 => Option.bind (appO ([] : List FrReport) (lv4.take p3)) fun q7 => Option.bind (appO q7 [a]) fun q8 => Option.bind (appO q8 q6) fun q9 => r9_Merge_L4 F lv K n q9 (W (x3 + 1)))) else (r9_Merge_L4 F lv K n lv4 (W (x3 + 1)))) F lv3 (lv3.length : Int) true (W ((lv3.length : Int) - 1))) F e4 0) else (K lv3 x3)
def r9_Merge_L5 (F : Nat) (t : FrFormat) (o : (List FrTape)) (K : (List FrReport) → Int → Option ((List FrReport) × Int)) : Nat → (List FrReport) → Int → Option ((List FrReport) × Int)
 | 0, _, _ => none
 | n + 1, lv, x => if x < (o.length : Int) then (Option.bind (ixO o x) fun e => Option.bind (r9_read F t e) fun rv2 => if rv2.2.2 = 0 then (r9_Merge_L1 F x rv2 (fun (lv2 : (List FrReport)) (x2 : Int) => r9_Merge_L5 F t o K n lv2 (W (x + 1))) F lv 0) else (some (([] : List FrReport), rv2.2.2))) else (K lv x)
def r9_Merge_L6 (F : Nat) (x8 : Int) (rv4 : ((List FrFrame) × (List Int) × Int)) (K : (List FrReport) → Int → Option ((List FrReport) × Int)) : Nat → (List FrReport) → Int → Option ((List FrReport) × Int)
 | 0, _, _ => none
 | n + 1, lv7, x9 => if x9 < (rv4.1.length : Int) then (Option.bind (ixO rv4.2.1 x9) fun e9 => Option.bind (ixO rv4.1 x9) fun e10 => Option.bind (appO lv7 [(FrReport.mk e9 x8 0 false e10.words)]) fun q10 => r9_Merge_L6 F x8 rv4 K n q10 (W (x9 + 1))) else (K lv7 x9)
def r9_Merge_L7 (F : Nat) (a2 : FrReport) (K : (List FrReport) → Int → Bool → Int → Option ((List FrReport) × Int)) : Nat → (List FrReport) → Int → Bool → Int → Option ((List FrReport) × Int)
 | 0, _, _, _, _ => none
 | n + 1, lv9, x12, x13, x14 => if 0 ≤ x14 then (Option.bind (ixO lv9 x14) fun e13 => if e13.number = a2.number then (if e13.agree < a2.agree then (Option.bind (setO lv9 x14 a2) fun lv10 => Option.bind (ixO lv10 x14) fun e14 => if a2.number < e14.number then (r9_Merge_L7 F a2 K n lv10 x14 false (W (x14 - 1))) else (r9_Merge_L7 F a2 K n lv10 x12 false (W (x14 - 1)))) else (if a2.number < e13.number then (r9_Merge_L7 F a2 K n lv9 x14 false (W (x14 - 1))) else (r9_Merge_L7 F a2 K n lv9 x12 false (W (x14 - 1))))) else (if a2.number < e13.number then (r9_Merge_L7 F a2 K n lv9 x14 x13 (W (x14 - 1))) else (r9_Merge_L7 F a2 K n lv9 x12 x13 (W (x14 - 1))))) else (K lv9 x12 x13 x14)
def r9_Merge_L8 (F : Nat) (lv6 : (List FrReport)) (K : FrReport → Int → Option ((List FrReport) × Int)) : Nat → FrReport → Int → Option ((List FrReport) × Int)
 | 0, _, _ => none
 | n + 1, a2, x11 => if x11 < (lv6.length : Int) then (Option.bind (ixO lv6 x11) fun e12 => if e12.number = a2.number then (Option.bind (r9_Ints F e12.words a2.words) fun rv5 => if rv5 = true then (r9_Merge_L8 F lv6 K n {a2 with agree := (W (a2.agree + 1))} (W (x11 + 1))) else (r9_Merge_L8 F lv6 K n {a2 with marked := true} (W (x11 + 1)))) else (r9_Merge_L8 F lv6 K n a2 (W (x11 + 1)))) else (K a2 x11)
def r9_Merge_L9 (F : Nat) (lv6 : (List FrReport)) (K : (List FrReport) → Int → Option ((List FrReport) × Int)) : Nat → (List FrReport) → Int → Option ((List FrReport) × Int)
 | 0, _, _ => none
 | n + 1, lv8, x10 => if x10 < (lv6.length : Int) then (Option.bind (ixO lv6 x10) fun e11 => r9_Merge_L8 F lv6 (fun (a2 : FrReport) (x11 : Int) => r9_Merge_L7 F a2 (fun (lv9 : (List FrReport)) (x12 : Int) (x13 : Bool) (x14 : Int) => if x13 = true then (Option.bind (natO x12 lv9.length) fun p4 => if lv9.length = p4 then (Option.bind (appO ([] : List FrReport) ([] : List FrReport)) fun q11 => Option.bind (natO x12 lv9.length) fun p5 => Option.bind (appO ([] : List FrReport) (lv9.take p5)) fun q12 => Option.bind (appO q12 [a2]) fun q13 => Option.bind (appO q13 q11) fun q14 => r9_Merge_L9 F lv6 K n q14 (W (x10 + 1))) else (Option.bind (appO ([] : List FrReport) (lv9.drop p4)) fun q15 => Option.bind (natO x12 lv9.length) fun p6 => Option.bind (appO ([] : List FrReport) (lv9.take p6)) fun q16 => Option.bind (appO q16 [a2]) fun q17 => Option.bind (appO q17 q15) fun q18 => r9_Merge_L9 F lv6 K n q18 (W (x10 + 1)))) else (r9_Merge_L9 F lv6 K n lv9 (W (x10 + 1)))) F lv8 (lv8.length : Int) true (W ((lv8.length : Int) - 1))) F e11 0) else (K lv8 x10)
def r9_Merge_L10 (F : Nat) (t : FrFormat) (o : (List FrTape)) (K : (List FrReport) → Int → Option ((List FrReport) × Int)) : Nat → (List FrReport) → Int → Option ((List FrReport) × Int)
 | 0, _, _ => none
 | n + 1, lv6, x8 => if x8 < (o.length : Int) then (Option.bind (ixO o x8) fun e8 => Option.bind (r9_read F t e8) fun rv4 => if rv4.2.2 = 0 then (r9_Merge_L6 F x8 rv4 (fun (lv7 : (List FrReport)) (x9 : Int) => r9_Merge_L10 F t o K n lv7 (W (x8 + 1))) F lv6 0) else (some (([] : List FrReport), rv4.2.2))) else (K lv6 x8)
def r9_Merge (F : Nat) (t : FrFormat) (o : (List FrTape)) : Option ((List FrReport) × Int) := Option.bind (r9_valid F t) fun rv => if rv = 0 then (if 4 < (o.length : Int) then (some (([] : List FrReport), 3)) else (if rv = 0 then (r9_Merge_L5 F t o (fun (lv : (List FrReport)) (x : Int) => r9_Merge_L4 F lv (fun (lv3 : (List FrReport)) (x3 : Int) => some (lv3, 0)) F ([] : List FrReport) 0) F ([] : List FrReport) 0) else (some (([] : List FrReport), rv)))) else (if rv = 0 then (r9_Merge_L10 F t o (fun (lv6 : (List FrReport)) (x8 : Int) => r9_Merge_L9 F lv6 (fun (lv8 : (List FrReport)) (x10 : Int) => some (lv8, 0)) F ([] : List FrReport) 0) F ([] : List FrReport) 0) else (some (([] : List FrReport), rv)))
theorem r9_Merge_scr {F : Nat} {t : FrFormat} {o : (List FrTape)} {r : ((List FrReport) × Int)} (h : r9_Merge F t o = some r) : SCR Try.prog 48 (List.map T.d [FrFormat.d t, .arr 2 ((o).map FrTape.d)]) [] (.tup [.row 0 5 0 (r.1).length, .d (.v (.int .i64 r.2))]) (List.map some [(lFrReportd r.1)]) := by
 rw [r9_Merge] at h
 refine SC.of_sw Try.func48 R R R ?_
 dsimp only [argS, List.map]
 refine qG (q_box R (q_asgD R (q_asgD R (eN (qG (q_ldD (y := FrFormat.d t) tb R ?_))))))
 obtain ⟨rv, hrv, h⟩ := bnd h
 refine r_call (r9_valid_pc hrv) (.of (by kernel_rfl)) R R R R (q_asgD R (eN (sw_seq (qG (q_movD R ?_)))))
 refine r_eql R R R R ?_ ?_
 ·intro c
  replace h := ifP c h
  refine q_movD R (q_movD R (q_lenM tb R ?_))
  refine r_gtr R R R R ?_ ?_
  ·intro c2
   replace h := ifP c2 h
   refine q_pickT R (eN (sw_condT R (sw_rg (q_asgD R (eN (sw_seq (qG (q_movD R ?_))))))))
   refine r_neq R R R R ?_ ?_
   rotate_left
   ·intro c3; exact absurd c3 (by decide)
   intro _
   refine eN (sw_condT R (qG (q_movD R (q_asgD R (q_asgD R (eN ?_))))))
   refine SW.own (ts' := [(4, .row 1 5 0 (([] : List FrReport)).length), (5, .d (vI 3))]) (L' := [some ⟨4, [.d (FrFormat.d t)]⟩]) 5 R R (.cons .nil (.cons (.same _) .nil)) (.same .nil) ?_
   simp only [List.cons_append, List.nil_append]
   refine sw_ret (then_ret ?_)
   obtain rfl := sI h
   exact f2 [1] (.row R .nil) R (.cons (.tmp 4) (.cons (.tmp 5) .nil)) R
  intro c2
  replace h := ifN (Int.not_lt.2 c2) h
  refine q_pickT R (eN (sw_condF R (sw_skip (then_norm (sw_seq (qG (q_movD R ?_)))))))
  refine r_neq R R R R ?_ ?_
  ·intro c4
   replace h := ifN c4 h
   refine eN (sw_condT R (qG (q_movD R (q_asgD R (q_asgD R (eN ?_))))))
   refine SW.own (ts' := [(4, .row 1 5 0 (([] : List FrReport)).length), (5, .d (vI rv))]) (L' := [some ⟨4, [.d (FrFormat.d t)]⟩]) 5 R R (.cons .nil (.cons (.same _) .nil)) (.same .nil) ?_
   simp only [List.cons_append, List.nil_append]
   refine sw_ret (then_ret ?_)
   obtain rfl := sI h
   exact f2 [1] (.row R .nil) R (.cons (.tmp 4) (.cons (.tmp 5) .nil)) R
  intro c4
  replace h := ifP c4 h
  refine eN (sw_condF R (sw_skip (then_norm (qG (q_asgD R (eN (sw_seq (qG (q_asgD R (eN (sw_block ?_)))))))))))
  refine SW.own (ts' := [(1, .d (.arr 2 ((o).map FrTape.d))), (2, .ref 0 4 0 0), (4, .d (.v (.slice none 0 0))), (5, .d (vI 0)), (7, .row 1 5 0 (([] : List FrReport)).length), (8, .d (vI 0))]) (L' := [some ⟨4, [.d (FrFormat.d t)]⟩]) 5 R R (.cons (.same _) (.cons (.same _) (.cons (.same _) (.cons (.same _) (.cons .nil (.cons (.same _) .nil)))))) (.same .nil) ?_
  simp only [List.cons_append, List.nil_append]
  obtain ⟨K1, hK1, h⟩ : ∃ K, K = _ ∧ r9_Merge_L5 F t o K F ([] : List FrReport) 0 = some r := ⟨_, rfl, h⟩
  refine sw_loopS (fun m st => ∃ (lv : (List FrReport)) (x : Int), r9_Merge_L5 F t o K1 m lv x = some r ∧ st = ⟨[(1, .d (.arr 2 ((o).map FrTape.d))), (2, .ref 0 4 0 0), (4, .d (.v (.slice none 0 0))), (5, .d (vI 0)), (7, .row 1 5 0 (lv).length), (8, .d (vI x))], [some ⟨4, [.d (FrFormat.d t)]⟩, some (lFrReportd lv)]⟩) (.prn [1, 2, 4, 5, 7, 8] R) ⟨([] : List FrReport), 0, h, R⟩ ?_
  clear h
  rintro m1 st ⟨lv, x, h, rfl⟩
  cases m1 with
  | zero => cases (show (none : Option ((List FrReport) × Int)) = some r from h)
  | succ m1 =>
  rw [r9_Merge_L5] at h
  refine sw_seq (qG (q_movD R (q_movD R (q_lenM tb R ?_))))
  refine r_lss R R R R ?_ ?_
  ·intro c5
   replace h := ifP c5 h
   refine eN (sw_condT R (sw_skip (then_norm (sw_seq (sw_block (sw_seq (sw_dr (by kernel_rfl) (q_ldD (y := FrFormat.d t) tb R (q_movD R (q_movD R ?_))))))))))
   obtain ⟨e, ie, h⟩ := bnd h
   refine q_ixE tb (ix0 ie) (ix1m ie) R (q_ldE (y := FrTape.d e) tb (ix2 (g := FrTape.d) ie) R ?_)
   obtain ⟨rv2, hrv2, h⟩ := bnd h
   refine r_callN (t' := .tup [.row 2 3 0 (rv2.1).length, .row 3 1 0 (rv2.2.1).length, .d (vI rv2.2.2)]) (news' := [(lFrFramed rv2.1), (lvI rv2.2.1)]) (r9_read_scr hrv2) (.of (by kernel_rfl)) R R R ((.row (.row .nil))) R R R (r_movT (.tup [.row 2 3 0 (rv2.1).length, .row 3 1 0 (rv2.2.1).length, .d (vI rv2.2.2)]) R R R (r_ext (t := .row 2 3 0 (rv2.1).length) R R R R (r_ext (t := .row 3 1 0 (rv2.2.1).length) R R R R (r_ext (t := .d (vI rv2.2.2)) R R R R (r_asgW R R R (r_asgW R R R ?_))))))
   refine q_asgD R (ev_endD (by kernel_rfl) (then_norm (sw_seq (qG (q_movD R ?_)))))
   refine r_neq R R R R ?_ ?_
   ·intro c6
    replace h := ifN c6 h
    refine eN (sw_condT R (qG (q_movD R (q_asgD R (q_asgD R (eN ?_))))))
    refine SW.own (ts' := [(4, .row 4 5 0 (([] : List FrReport)).length), (5, .d (vI rv2.2.2))]) (L' := [some ⟨4, [.d (FrFormat.d t)]⟩, some (lFrReportd lv), some (lFrFramed rv2.1), some (lvI rv2.2.1)]) 5 R R (.cons .nil (.cons (.same _) .nil)) (.same (.same (.same (.same .nil)))) ?_
    simp only [List.cons_append, List.nil_append]
    refine sw_ret (then_ret (block_ret (then_ret (then_ret (block_ret (then_ret ?_))))))
    obtain rfl := sI h
    exact f2 [4] (.row R .nil) R (.cons (.tmp 4) (.cons (.tmp 5) .nil)) R
   intro c6
   replace h := ifP c6 h
   refine eN (sw_condF R (sw_skip (then_norm (qG (q_asgD R (eN (sw_block ?_)))))))
   obtain ⟨K2, hK2, h⟩ : ∃ K, K = _ ∧ r9_Merge_L1 F x rv2 K F lv 0 = some r := ⟨_, rfl, h⟩
   refine sw_loopS (fun m st => ∃ (lv2 : (List FrReport)) (x2 : Int), r9_Merge_L1 F x rv2 K2 m lv2 x2 = some r ∧ st = ⟨[(1, .d (.arr 2 ((o).map FrTape.d))), (2, .ref 0 4 0 0), (4, .d (.v (.slice none 0 0))), (5, .d (vI 0)), (7, .row 1 5 0 (lv2).length), (8, .d (vI x)), (9, .row 2 3 0 (rv2.1).length), (10, .row 3 1 0 (rv2.2.1).length), (12, .d (vI x2))], [some ⟨4, [.d (FrFormat.d t)]⟩, some (lFrReportd lv2), some (lFrFramed rv2.1), some (lvI rv2.2.1)]⟩) (.prn [1, 2, 4, 5, 7, 8, 9, 10, 12] R) ⟨lv, 0, h, R⟩ ?_
   clear h
   rintro m2 st ⟨lv2, x2, h, rfl⟩
   cases m2 with
   | zero => cases (show (none : Option ((List FrReport) × Int)) = some r from h)
   | succ m2 =>
   rw [r9_Merge_L1] at h
   refine sw_seq (qG (q_movD R (r_movW R R R (r_lenR tb R R R R R ?_))))
   refine r_lss R R R R ?_ ?_
   ·intro c7
    replace h := ifP c7 h
    refine eN (sw_condT R (sw_skip (then_norm (sw_seq (sw_block (sw_dr (by kernel_rfl) (r_movW R R R (r_movW R R R (q_movD R ?_)))))))))
    obtain ⟨e2, ie2, h⟩ := bnd h
    refine r_ixI tb R R R R R R (ix0 ie2) (ix1 ie2) R R ?_
    refine r_ldD (y := vI e2) tb R R R R (ix2 (g := fun a => T.d (vI a)) ie2) R R R R ?_
    refine q_movD R (r_movW R R R (q_movD R ?_))
    obtain ⟨e3, ie3, h⟩ := bnd h
    refine r_ixI tb R R R R R R (ix0 ie3) (ix1 ie3) R R (q_fa tb R ?_)
    refine r_ldD (y := .arr 1 ((e3.words).map vI)) tb R R R R (ix2 (g := fun a => T.d (FrFrame.d a)) ie3) R R R R ?_
    refine r_build (v := .d (.agg [vI e2, vI x, vI 0, .v (.bool false), .arr 1 ((e3.words).map vI)])) tb R R (List.cons_ne_nil _ _) R R R R R R (r_bslice tb R R R R R R R R R R R R R ?_)
    obtain ⟨q, iq, h⟩ := bnd h
    refine r_apM (g := FrReport.d) (w := lv2) (v := [(FrReport.mk e2 x 0 false e3.words)]) ([some ⟨4, [.d (FrFormat.d t)]⟩, none, some (lFrFramed rv2.1), some (lvI rv2.2.1), some (lFrReportd [(FrReport.mk e2 x 0 false e3.words)])]) tb R R R R R R R R R R R iq R R R R R (r_asgW R R R (ev_endD (by kernel_rfl) (block_norm (then_norm (sw_rg (q_movD R (q_add R (q_asgD R (eN ?_)))))))))
    exact ⟨m2, ⟨[(1, .d (.arr 2 ((o).map FrTape.d))), (2, .ref 0 4 0 0), (4, .d (.v (.slice none 0 0))), (5, .d (vI 0)), (7, .row 1 5 0 (q).length), (8, .d (vI x)), (9, .row 2 3 0 (rv2.1).length), (10, .row 3 1 0 (rv2.2.1).length), (12, .d (vI (W (x2 + 1))))], [some ⟨4, [.d (FrFormat.d t)]⟩, some (lFrReportd q), some (lFrFramed rv2.1), some (lvI rv2.2.1)]⟩, Nat.lt_succ_self _, .vw (κ := [0, 5, 2, 3]) (vK (.cons R R (.row R (.row R (.row R .nil)))) R), q, (W (x2 + 1)), h, R⟩
   intro c7
   replace h := ifN (Int.not_lt.2 c7) h
   refine eN (sw_condF R (sw_exit (then_exit (then_exit ?_))))
   subst hK2
   refine block_exit (block_norm (then_norm (sw_rg (q_movD R (q_add R (q_asgD R (eN ?_)))))))
   exact ⟨m1, ⟨[(1, .d (.arr 2 ((o).map FrTape.d))), (2, .ref 0 4 0 0), (4, .d (.v (.slice none 0 0))), (5, .d (vI 0)), (7, .row 1 5 0 (lv2).length), (8, .d (vI (W (x + 1))))], [some ⟨4, [.d (FrFormat.d t)]⟩, some (lFrReportd lv2)]⟩, Nat.lt_succ_self _, .vw (κ := [0, 1]) (vK (.cons R R (.row R .nil)) R), lv2, (W (x + 1)), h, R⟩
  intro c5
  replace h := ifN (Int.not_lt.2 c5) h
  refine eN (sw_condF R (sw_exit (then_exit (then_exit ?_))))
  subst hK1
  refine block_exit (then_norm (qG (q_asgD R (eN (sw_seq (qG (q_asgD R (eN (sw_block ?_)))))))))
  refine SW.own (ts' := [(4, .d (.v (.slice none 0 0))), (5, .d (vI 0)), (7, .row 1 5 0 (lv).length), (13, .row 2 5 0 (([] : List FrReport)).length), (14, .d (vI 0))]) (L' := [some ⟨4, [.d (FrFormat.d t)]⟩, some (lFrReportd lv)]) 5 R R (.cons (.same _) (.cons (.same _) (.cons (.same _) (.cons .nil (.cons (.same _) .nil))))) (.same (.same .nil)) ?_
  simp only [List.cons_append, List.nil_append]
  obtain ⟨K3, hK3, h⟩ : ∃ K, K = _ ∧ r9_Merge_L4 F lv K F ([] : List FrReport) 0 = some r := ⟨_, rfl, h⟩
  refine sw_loopS (st0 := ⟨[(4, .d (.v (.slice none 0 0))), (5, .d (vI 0)), (7, .row 0 5 0 (lv).length), (13, .row 1 5 0 (([] : List FrReport)).length), (14, .d (vI 0))], [some (lFrReportd lv), some (lFrReportd ([] : List FrReport))]⟩) (fun m st => ∃ (lv3 : (List FrReport)) (x3 : Int), r9_Merge_L4 F lv K3 m lv3 x3 = some r ∧ st = ⟨[(4, .d (.v (.slice none 0 0))), (5, .d (vI 0)), (7, .row 0 5 0 (lv).length), (13, .row 1 5 0 (lv3).length), (14, .d (vI x3))], [some (lFrReportd lv), some (lFrReportd lv3)]⟩) (.vw (κ := [1, 2]) (vK (.row R (.row R .nil)) R)) ⟨([] : List FrReport), 0, h, R⟩ ?_
  clear h
  rintro m3 st ⟨lv3, x3, h, rfl⟩
  cases m3 with
  | zero => cases (show (none : Option ((List FrReport) × Int)) = some r from h)
  | succ m3 =>
  rw [r9_Merge_L4] at h
  refine sw_seq (qG (q_movD R (r_movW R R R (r_lenR tb R R R R R ?_))))
  refine r_lss R R R R ?_ ?_
  ·intro c8
   replace h := ifP c8 h
   refine eN (sw_condT R (sw_skip (then_norm (sw_seq (sw_block (qG (r_movW R R R (q_movD R ?_))))))))
   obtain ⟨e4, ie4, h⟩ := bnd h
   refine r_ixI tb R R R R R R (ix0 ie4) (ix1 ie4) R R ?_
   refine r_ldD (y := FrReport.d e4) tb R R R R (ix2 (g := fun a => T.d (FrReport.d a)) ie4) R R R R ?_
   refine r_alloc tb R R R R R (q_stE _ _ tb R (eN (sw_seq (qG (q_asgD R (eN (sw_block ?_)))))))
   obtain ⟨K4, hK4, h⟩ : ∃ K, K = _ ∧ r9_Merge_L3 F lv K F e4 0 = some r := ⟨_, rfl, h⟩
   refine sw_loopS (fun m st => ∃ (a : FrReport) (x4 : Int), r9_Merge_L3 F lv K4 m a x4 = some r ∧ st = ⟨[(4, .d (.v (.slice none 0 0))), (5, .d (vI 0)), (7, .row 0 5 0 (lv).length), (13, .row 1 5 0 (lv3).length), (14, .d (vI x3)), (15, .ref 2 5 0 0), (16, .d (vI x4))], [some (lFrReportd lv), some (lFrReportd lv3), some ⟨5, [.d (FrReport.d a)]⟩]⟩) (.prn [4, 5, 7, 13, 14, 15, 16] R) ⟨e4, 0, h, R⟩ ?_
   clear h
   rintro m4 st ⟨a, x4, h, rfl⟩
   cases m4 with
   | zero => cases (show (none : Option ((List FrReport) × Int)) = some r from h)
   | succ m4 =>
   rw [r9_Merge_L3] at h
   refine sw_seq (qG (q_movD R (r_movW R R R (r_lenR tb R R R R R ?_))))
   refine r_lss R R R R ?_ ?_
   ·intro c9
    replace h := ifP c9 h
    refine eN (sw_condT R (sw_skip (then_norm (sw_seq (sw_block (sw_seq (sw_seq (sw_dr (by kernel_rfl) (r_movW R R R (q_movD R ?_))))))))))
    obtain ⟨e5, ie5, h⟩ := bnd h
    refine r_ixI tb R R R R R R (ix0 ie5) (ix1 ie5) R R (q_fa tb R ?_)
    refine r_ldD (y := vI e5.number) tb R R R R (ix2 (g := fun a => T.d (FrReport.d a)) ie5) R R R R ?_
    refine q_fa tb R (q_ldD (y := vI a.number) tb R ?_)
    refine r_neq R R R R ?_ ?_
    ·intro c10
     replace h := ifN c10 h
     refine ev_endD (by kernel_rfl) (then_norm (sw_condT R (sw_exit (then_exit (block_exit (then_norm (sw_rg (q_movD R (q_add R (q_asgD R (eN ?_)))))))))))
     exact ⟨m4, _, Nat.lt_succ_self _, .prn [4, 5, 7, 13, 14, 15, 16] R, a, (W (x4 + 1)), h, R⟩
    intro c10
    replace h := ifP c10 h
    refine ev_endD (by kernel_rfl) (then_norm (sw_condF R (sw_skip (then_norm (sw_seq (sw_dr (by kernel_rfl) (r_movW R R R (q_movD R (r_ixI tb R R R R R R (ix0 ie5) (ix1 ie5) R R (q_fa tb R ?_))))))))))
    refine r_ldD (y := .arr 1 ((e5.words).map vI)) tb R R R R (ix2 (g := fun a => T.d (FrReport.d a)) ie5) R R R R ?_
    refine q_fa tb R (q_ldD (y := .arr 1 ((a.words).map vI)) tb R ?_)
    obtain ⟨rv3, hrv3, h⟩ := bnd h
    refine r_callB (r9_Ints_pc hrv3) (.of (by kernel_rfl)) R R R R ?_ ?_
    ·intro c11
     replace h := ifP c11 h
     refine ev_endD (by kernel_rfl) (then_norm (sw_condT R (sw_rg (q_fa tb R (q_ldD (y := vI a.agree) tb R (q_add R (q_fa tb R (q_stE _ _ tb R (ev_end (block_norm (then_norm (sw_rg (q_movD R (q_add R (q_asgD R (eN ?_))))))))))))))))
     exact ⟨m4, _, Nat.lt_succ_self _, .prn [4, 5, 7, 13, 14, 15, 16] R, {a with agree := (W (a.agree + 1))}, (W (x4 + 1)), h, R⟩
    intro c11
    replace h := ifF c11 h
    refine ev_endD (by kernel_rfl) (then_norm (sw_condF R (sw_rg (q_fa tb R (q_stE _ _ tb R (ev_end (block_norm (then_norm (sw_rg (q_movD R (q_add R (q_asgD R (eN ?_)))))))))))))
    exact ⟨m4, _, Nat.lt_succ_self _, .prn [4, 5, 7, 13, 14, 15, 16] R, {a with marked := true}, (W (x4 + 1)), h, R⟩
   intro c9
   replace h := ifN (Int.not_lt.2 c9) h
   refine eN (sw_condF R (sw_exit (then_exit (then_exit ?_))))
   subst hK4
   refine block_exit (then_norm (qG (r_movW R R R (r_lenR tb R R R R R (q_asgD R (q_asgD R (eN (sw_seq (qG (r_movW R R R (r_lenR tb R R R R R (r_sub R R R R (q_asgD R (eN (sw_block ?_)))))))))))))))
   obtain ⟨K5, hK5, h⟩ : ∃ K, K = _ ∧ r9_Merge_L2 F a K F lv3 (lv3.length : Int) true (W ((lv3.length : Int) - 1)) = some r := ⟨_, rfl, h⟩
   refine sw_loopS (fun m st => ∃ (lv4 : (List FrReport)) (x5 : Int) (x6 : Bool) (x7 : Int), r9_Merge_L2 F a K5 m lv4 x5 x6 x7 = some r ∧ st = ⟨[(4, .d (.v (.slice none 0 0))), (5, .d (vI 0)), (7, .row 0 5 0 (lv).length), (13, .row 1 5 0 (lv4).length), (14, .d (vI x3)), (15, .ref 2 5 0 0), (17, .d (vI x5)), (18, .d (.v (.bool x6))), (19, .d (vI x7))], [some (lFrReportd lv), some (lFrReportd lv4), some ⟨5, [.d (FrReport.d a)]⟩]⟩) (.prn [4, 5, 7, 13, 14, 15, 17, 18, 19] R) ⟨lv3, (lv3.length : Int), true, (W ((lv3.length : Int) - 1)), h, R⟩ ?_
   clear h
   rintro m5 st ⟨lv4, x5, x6, x7, h, rfl⟩
   cases m5 with
   | zero => cases (show (none : Option ((List FrReport) × Int)) = some r from h)
   | succ m5 =>
   rw [r9_Merge_L2] at h
   refine sw_seq (qG (q_movD R ?_))
   refine r_geq R R R R ?_ ?_
   ·intro c12
    replace h := ifP c12 h
    refine eN (sw_condT R (sw_skip (then_norm (sw_seq (sw_block (sw_seq (sw_seq (sw_dr (by kernel_rfl) (r_movW R R R (q_movD R ?_))))))))))
    obtain ⟨e6, ie6, h⟩ := bnd h
    refine r_ixI tb R R R R R R (ix0 ie6) (ix1 ie6) R R (q_fa tb R ?_)
    refine r_ldD (y := vI e6.number) tb R R R R (ix2 (g := fun a => T.d (FrReport.d a)) ie6) R R R R ?_
    refine q_fa tb R (q_ldD (y := vI a.number) tb R ?_)
    refine r_eql R R R R ?_ ?_
    ·intro c13
     replace h := ifP c13 h
     refine ev_endD (by kernel_rfl) (then_norm (sw_condT R (qG (q_asgD R (eN (sw_seq (sw_dr (by kernel_rfl) (q_fa tb R (q_ldD (y := vI a.agree) tb R (r_movW R R R (q_movD R (r_ixI tb R R R R R R (ix0 ie6) (ix1 ie6) R R (q_fa tb R ?_)))))))))))))
     refine r_ldD (y := vI e6.agree) tb R R R R (ix2 (g := fun a => T.d (FrReport.d a)) ie6) R R R R ?_
     refine r_gtr R R R R ?_ ?_
     ·intro c14
      replace h := ifP c14 h
      refine ev_endD (by kernel_rfl) (then_norm (sw_condT R (sw_rg (r_movW R R R (q_movD R (q_ldD (y := FrReport.d a) tb R (r_ixI tb R R R R R R (ix0 ie6) (ix1 ie6) R R ?_)))))))
      obtain ⟨lv5, ilv5, h⟩ := bnd h
      refine r_stQ (a' := (a : FrReport)) tb R R R R ie6 R R R R ilv5 R R ?_
      dsimp only [List.set_cons_zero, List.set_cons_succ]
      first | rw [set_len ilv5] | skip
      refine eN (sw_seq (sw_dr (by kernel_rfl) (r_movW R R R (q_movD R ?_))))
      obtain ⟨e7, ie7, h⟩ := bnd h
      refine r_ixI tb R R R R R R (ix0 ie7) (ix1 ie7) R R (q_fa tb R ?_)
      refine r_ldD (y := vI e7.number) tb R R R R (ix2 (g := fun a => T.d (FrReport.d a)) ie7) R R R R ?_
      refine q_fa tb R (q_ldD (y := vI a.number) tb R ?_)
      refine r_gtr R R R R ?_ ?_
      ·intro c15
       replace h := ifP c15 h
       refine ev_endD (by kernel_rfl) (then_norm (sw_condT R (sw_rg (q_movD R (q_asgD R (ev_end (block_norm (then_norm (sw_rg (q_movD R (r_sub R R R R (q_asgD R (eN ?_)))))))))))))
       exact ⟨m5, _, Nat.lt_succ_self _, .prn [4, 5, 7, 13, 14, 15, 17, 18, 19] R, lv5, x7, false, (W (x7 - 1)), h, R⟩
      intro c15
      replace h := ifN (Int.not_lt.2 c15) h
      refine ev_endD (by kernel_rfl) (then_norm (sw_condF R (sw_skip (block_norm (then_norm (sw_rg (q_movD R (r_sub R R R R (q_asgD R (eN ?_))))))))))
      exact ⟨m5, _, Nat.lt_succ_self _, .prn [4, 5, 7, 13, 14, 15, 17, 18, 19] R, lv5, x5, false, (W (x7 - 1)), h, R⟩
     intro c14
     replace h := ifN (Int.not_lt.2 c14) h
     refine ev_endD (by kernel_rfl) (then_norm (sw_condF R (sw_skip (then_norm (sw_seq (sw_dr (by kernel_rfl) (r_movW R R R (q_movD R (r_ixI tb R R R R R R (ix0 ie6) (ix1 ie6) R R (q_fa tb R ?_))))))))))
     refine r_ldD (y := vI e6.number) tb R R R R (ix2 (g := fun a => T.d (FrReport.d a)) ie6) R R R R ?_
     refine q_fa tb R (q_ldD (y := vI a.number) tb R ?_)
     refine r_gtr R R R R ?_ ?_
     ·intro c16
      replace h := ifP c16 h
      refine ev_endD (by kernel_rfl) (then_norm (sw_condT R (sw_rg (q_movD R (q_asgD R (ev_end (block_norm (then_norm (sw_rg (q_movD R (r_sub R R R R (q_asgD R (eN ?_)))))))))))))
      exact ⟨m5, _, Nat.lt_succ_self _, .prn [4, 5, 7, 13, 14, 15, 17, 18, 19] R, lv4, x7, false, (W (x7 - 1)), h, R⟩
     intro c16
     replace h := ifN (Int.not_lt.2 c16) h
     refine ev_endD (by kernel_rfl) (then_norm (sw_condF R (sw_skip (block_norm (then_norm (sw_rg (q_movD R (r_sub R R R R (q_asgD R (eN ?_))))))))))
     exact ⟨m5, _, Nat.lt_succ_self _, .prn [4, 5, 7, 13, 14, 15, 17, 18, 19] R, lv4, x5, false, (W (x7 - 1)), h, R⟩
    intro c13
    replace h := ifN c13 h
    refine ev_endD (by kernel_rfl) (then_norm (sw_condF R (sw_skip (then_norm (sw_seq (sw_dr (by kernel_rfl) (r_movW R R R (q_movD R (r_ixI tb R R R R R R (ix0 ie6) (ix1 ie6) R R (q_fa tb R ?_))))))))))
    refine r_ldD (y := vI e6.number) tb R R R R (ix2 (g := fun a => T.d (FrReport.d a)) ie6) R R R R ?_
    refine q_fa tb R (q_ldD (y := vI a.number) tb R ?_)
    refine r_gtr R R R R ?_ ?_
    ·intro c17
     replace h := ifP c17 h
     refine ev_endD (by kernel_rfl) (then_norm (sw_condT R (sw_rg (q_movD R (q_asgD R (ev_end (block_norm (then_norm (sw_rg (q_movD R (r_sub R R R R (q_asgD R (eN ?_)))))))))))))
     exact ⟨m5, _, Nat.lt_succ_self _, .prn [4, 5, 7, 13, 14, 15, 17, 18, 19] R, lv4, x7, x6, (W (x7 - 1)), h, R⟩
    intro c17
    replace h := ifN (Int.not_lt.2 c17) h
    refine ev_endD (by kernel_rfl) (then_norm (sw_condF R (sw_skip (block_norm (then_norm (sw_rg (q_movD R (r_sub R R R R (q_asgD R (eN ?_))))))))))
    exact ⟨m5, _, Nat.lt_succ_self _, .prn [4, 5, 7, 13, 14, 15, 17, 18, 19] R, lv4, x5, x6, (W (x7 - 1)), h, R⟩
   intro c12
   replace h := ifN (Int.not_le.2 c12) h
   refine eN (sw_condF R (sw_exit (then_exit (then_exit ?_))))
   subst hK5
   refine block_exit (then_norm (qG (q_movD R ?_)))
   with_reducible apply ev_lit
   ·intro c18
    replace h := ifP c18 h
    refine eN (sw_condT R (qG (r_bslice tb R R R R R R R R R R R R R (r_movW R R R (q_movD R ?_)))))
    obtain ⟨p, ip, h⟩ := bnd h
    by_cases c19 : lv4.length = p
    ·replace h := ifP c19 h
     refine r_slRowLoE tb R R R R R R ((natO_eq ip).1) c19 R R ?_
     obtain ⟨q2, iq2, h⟩ := bnd h
     refine r_apEM (g := FrReport.d) (w := ([] : List FrReport)) (v := ([] : List FrReport)) ([some (lFrReportd lv), some (lFrReportd lv4), some ⟨5, [.d (FrReport.d a)]⟩, none]) tb R R R R R R R R (by intro _; exact R) iq2 R R R R R (r_asgW R R R (eN (sw_dr (by kernel_rfl) (r_bslice tb R R R R R R R R R R R R R (r_movW R R R (q_movD R ?_))))))
     obtain ⟨p2, ip2, h⟩ := bnd h
     refine r_slRowHi tb R R R R R R ((natO_eq ip2).1) ((natO_eq ip2).2) R R ?_
     obtain ⟨q3, iq3, h⟩ := bnd h
     refine r_apMQ (g := FrReport.d) (w := ([] : List FrReport)) (u := lv4) (v := (lv4.take p2)) ([some (lFrReportd lv), some (lFrReportd lv4), some ⟨5, [.d (FrReport.d a)]⟩, none, some (lFrReportd q2), none]) tb R R R R R R R R R R (by have := (natO_eq ip2).2; omega) (fun _ => rfl) iq3 R R R R R ?_
     refine q_ldD (y := FrReport.d a) tb R (r_bslice tb R R R R R R R R R R R R R ?_)
     obtain ⟨q4, iq4, h⟩ := bnd h
     refine r_apM (g := FrReport.d) (w := q3) (v := [a]) ([some (lFrReportd lv), some (lFrReportd lv4), some ⟨5, [.d (FrReport.d a)]⟩, none, some (lFrReportd q2), none, none, some (lFrReportd [a])]) tb R R R R R R R R R R R iq4 R R R R R (r_movW R R R ?_)
     obtain ⟨q5, iq5, h⟩ := bnd h
     refine r_apM (g := FrReport.d) (w := q4) (v := q2) ([some (lFrReportd lv), some (lFrReportd lv4), some ⟨5, [.d (FrReport.d a)]⟩, none, some (lFrReportd q2), none, none, some (lFrReportd [a]), none]) tb R R R R R R R R R R (ones_map (fun _ => rfl)) iq5 R R R R R ?_
     refine r_asgW R R R (ev_endD (by kernel_rfl) (block_norm (then_norm (sw_rg (q_movD R (q_add R (q_asgD R (eN ?_))))))))
     exact ⟨m3, ⟨[(4, .d (.v (.slice none 0 0))), (5, .d (vI 0)), (7, .row 0 5 0 (lv).length), (13, .row 1 5 0 (q5).length), (14, .d (vI (W (x3 + 1))))], [some (lFrReportd lv), some (lFrReportd q5)]⟩, Nat.lt_succ_self _, .vw (κ := [0, 9]) (vK (.row R (.row R .nil)) R), q5, (W (x3 + 1)), h, R⟩
    replace h := ifN c19 h
    refine r_slRowLo tb R R R R R R ((natO_eq ip).1) (by have := (natO_eq ip).2; omega) R R ?_
    obtain ⟨q6, iq6, h⟩ := bnd h
    refine r_apMQ (g := FrReport.d) (w := ([] : List FrReport)) (u := lv4) (v := (lv4.drop p)) ([some (lFrReportd lv), some (lFrReportd lv4), some ⟨5, [.d (FrReport.d a)]⟩, none]) tb R R R R R R R R R (List.take_of_length_le (by simp)) (by have := (natO_eq ip).2; omega) (fun _ => rfl) iq6 R R R R R ?_
    refine r_asgW R R R (eN (sw_dr (by kernel_rfl) (r_bslice tb R R R R R R R R R R R R R (r_movW R R R (q_movD R ?_)))))
    obtain ⟨p3, ip3, h⟩ := bnd h
    refine r_slRowHi tb R R R R R R ((natO_eq ip3).1) ((natO_eq ip3).2) R R ?_
    obtain ⟨q7, iq7, h⟩ := bnd h
    refine r_apMQ (g := FrReport.d) (w := ([] : List FrReport)) (u := lv4) (v := (lv4.take p3)) ([some (lFrReportd lv), some (lFrReportd lv4), some ⟨5, [.d (FrReport.d a)]⟩, none, some (lFrReportd q6), none]) tb R R R R R R R R R R (by have := (natO_eq ip3).2; omega) (fun _ => rfl) iq7 R R R R R ?_
    refine q_ldD (y := FrReport.d a) tb R (r_bslice tb R R R R R R R R R R R R R ?_)
    obtain ⟨q8, iq8, h⟩ := bnd h
    refine r_apM (g := FrReport.d) (w := q7) (v := [a]) ([some (lFrReportd lv), some (lFrReportd lv4), some ⟨5, [.d (FrReport.d a)]⟩, none, some (lFrReportd q6), none, none, some (lFrReportd [a])]) tb R R R R R R R R R R R iq8 R R R R R (r_movW R R R ?_)
    obtain ⟨q9, iq9, h⟩ := bnd h
    refine r_apM (g := FrReport.d) (w := q8) (v := q6) ([some (lFrReportd lv), some (lFrReportd lv4), some ⟨5, [.d (FrReport.d a)]⟩, none, some (lFrReportd q6), none, none, some (lFrReportd [a]), none]) tb R R R R R R R R R R (ones_map (fun _ => rfl)) iq9 R R R R R ?_
    refine r_asgW R R R (ev_endD (by kernel_rfl) (block_norm (then_norm (sw_rg (q_movD R (q_add R (q_asgD R (eN ?_))))))))
    exact ⟨m3, ⟨[(4, .d (.v (.slice none 0 0))), (5, .d (vI 0)), (7, .row 0 5 0 (lv).length), (13, .row 1 5 0 (q9).length), (14, .d (vI (W (x3 + 1))))], [some (lFrReportd lv), some (lFrReportd q9)]⟩, Nat.lt_succ_self _, .vw (κ := [0, 9]) (vK (.row R (.row R .nil)) R), q9, (W (x3 + 1)), h, R⟩
   intro c18
   replace h := ifF c18 h
   refine eN (sw_condF R (sw_skip (block_norm (then_norm (sw_rg (q_movD R (q_add R (q_asgD R (eN ?_)))))))))
   exact ⟨m3, ⟨[(4, .d (.v (.slice none 0 0))), (5, .d (vI 0)), (7, .row 0 5 0 (lv).length), (13, .row 1 5 0 (lv4).length), (14, .d (vI (W (x3 + 1))))], [some (lFrReportd lv), some (lFrReportd lv4)]⟩, Nat.lt_succ_self _, .vw (κ := [0, 1]) (vK (.row R (.row R .nil)) R), lv4, (W (x3 + 1)), h, R⟩
  intro c8
  replace h := ifN (Int.not_lt.2 c8) h
  refine eN (sw_condF R (sw_exit (then_exit (then_exit ?_))))
  subst hK3
  refine block_exit (then_norm (qG (r_movW R R R (r_asgW R R R (q_asgD R (eN (sw_ret ?_)))))))
  obtain rfl := sI h
  exact f2 [1] (.row R .nil) R (.cons (.tmp 4) (.cons (.tmp 5) .nil)) R
 intro c
 replace h := ifN c h
 refine q_movD R (q_sk 3 R (q_pickF R (eN (sw_condF R (sw_skip (then_norm (sw_seq (qG (q_movD R ?_)))))))))
 refine r_neq R R R R ?_ ?_
 ·intro c20
  replace h := ifN c20 h
  refine eN (sw_condT R (qG (q_movD R (q_asgD R (q_asgD R (eN ?_))))))
  refine SW.own (ts' := [(4, .row 1 5 0 (([] : List FrReport)).length), (5, .d (vI rv))]) (L' := [some ⟨4, [.d (FrFormat.d t)]⟩]) 5 R R (.cons .nil (.cons (.same _) .nil)) (.same .nil) ?_
  simp only [List.cons_append, List.nil_append]
  refine sw_ret (then_ret ?_)
  obtain rfl := sI h
  exact f2 [1] (.row R .nil) R (.cons (.tmp 4) (.cons (.tmp 5) .nil)) R
 intro c20
 replace h := ifP c20 h
 refine eN (sw_condF R (sw_skip (then_norm (qG (q_asgD R (eN (sw_seq (qG (q_asgD R (eN (sw_block ?_)))))))))))
 refine SW.own (ts' := [(1, .d (.arr 2 ((o).map FrTape.d))), (2, .ref 0 4 0 0), (4, .d (.v (.slice none 0 0))), (5, .d (vI 0)), (7, .row 1 5 0 (([] : List FrReport)).length), (8, .d (vI 0))]) (L' := [some ⟨4, [.d (FrFormat.d t)]⟩]) 5 R R (.cons (.same _) (.cons (.same _) (.cons (.same _) (.cons (.same _) (.cons .nil (.cons (.same _) .nil)))))) (.same .nil) ?_
 simp only [List.cons_append, List.nil_append]
 obtain ⟨K6, hK6, h⟩ : ∃ K, K = _ ∧ r9_Merge_L10 F t o K F ([] : List FrReport) 0 = some r := ⟨_, rfl, h⟩
 refine sw_loopS (fun m st => ∃ (lv6 : (List FrReport)) (x8 : Int), r9_Merge_L10 F t o K6 m lv6 x8 = some r ∧ st = ⟨[(1, .d (.arr 2 ((o).map FrTape.d))), (2, .ref 0 4 0 0), (4, .d (.v (.slice none 0 0))), (5, .d (vI 0)), (7, .row 1 5 0 (lv6).length), (8, .d (vI x8))], [some ⟨4, [.d (FrFormat.d t)]⟩, some (lFrReportd lv6)]⟩) (.prn [1, 2, 4, 5, 7, 8] R) ⟨([] : List FrReport), 0, h, R⟩ ?_
 clear h
 rintro m6 st ⟨lv6, x8, h, rfl⟩
 cases m6 with
 | zero => cases (show (none : Option ((List FrReport) × Int)) = some r from h)
 | succ m6 =>
 rw [r9_Merge_L10] at h
 refine sw_seq (qG (q_movD R (q_movD R (q_lenM tb R ?_))))
 refine r_lss R R R R ?_ ?_
 ·intro c21
  replace h := ifP c21 h
  refine eN (sw_condT R (sw_skip (then_norm (sw_seq (sw_block (sw_seq (sw_dr (by kernel_rfl) (q_ldD (y := FrFormat.d t) tb R (q_movD R (q_movD R ?_))))))))))
  obtain ⟨e8, ie8, h⟩ := bnd h
  refine q_ixE tb (ix0 ie8) (ix1m ie8) R (q_ldE (y := FrTape.d e8) tb (ix2 (g := FrTape.d) ie8) R ?_)
  obtain ⟨rv4, hrv4, h⟩ := bnd h
  refine r_callN (t' := .tup [.row 2 3 0 (rv4.1).length, .row 3 1 0 (rv4.2.1).length, .d (vI rv4.2.2)]) (news' := [(lFrFramed rv4.1), (lvI rv4.2.1)]) (r9_read_scr hrv4) (.of (by kernel_rfl)) R R R ((.row (.row .nil))) R R R (r_movT (.tup [.row 2 3 0 (rv4.1).length, .row 3 1 0 (rv4.2.1).length, .d (vI rv4.2.2)]) R R R (r_ext (t := .row 2 3 0 (rv4.1).length) R R R R (r_ext (t := .row 3 1 0 (rv4.2.1).length) R R R R (r_ext (t := .d (vI rv4.2.2)) R R R R (r_asgW R R R (r_asgW R R R ?_))))))
  refine q_asgD R (ev_endD (by kernel_rfl) (then_norm (sw_seq (qG (q_movD R ?_)))))
  refine r_neq R R R R ?_ ?_
  ·intro c22
   replace h := ifN c22 h
   refine eN (sw_condT R (qG (q_movD R (q_asgD R (q_asgD R (eN ?_))))))
   refine SW.own (ts' := [(4, .row 4 5 0 (([] : List FrReport)).length), (5, .d (vI rv4.2.2))]) (L' := [some ⟨4, [.d (FrFormat.d t)]⟩, some (lFrReportd lv6), some (lFrFramed rv4.1), some (lvI rv4.2.1)]) 5 R R (.cons .nil (.cons (.same _) .nil)) (.same (.same (.same (.same .nil)))) ?_
   simp only [List.cons_append, List.nil_append]
   refine sw_ret (then_ret (block_ret (then_ret (then_ret (block_ret (then_ret ?_))))))
   obtain rfl := sI h
   exact f2 [4] (.row R .nil) R (.cons (.tmp 4) (.cons (.tmp 5) .nil)) R
  intro c22
  replace h := ifP c22 h
  refine eN (sw_condF R (sw_skip (then_norm (qG (q_asgD R (eN (sw_block ?_)))))))
  obtain ⟨K7, hK7, h⟩ : ∃ K, K = _ ∧ r9_Merge_L6 F x8 rv4 K F lv6 0 = some r := ⟨_, rfl, h⟩
  refine sw_loopS (fun m st => ∃ (lv7 : (List FrReport)) (x9 : Int), r9_Merge_L6 F x8 rv4 K7 m lv7 x9 = some r ∧ st = ⟨[(1, .d (.arr 2 ((o).map FrTape.d))), (2, .ref 0 4 0 0), (4, .d (.v (.slice none 0 0))), (5, .d (vI 0)), (7, .row 1 5 0 (lv7).length), (8, .d (vI x8)), (9, .row 2 3 0 (rv4.1).length), (10, .row 3 1 0 (rv4.2.1).length), (12, .d (vI x9))], [some ⟨4, [.d (FrFormat.d t)]⟩, some (lFrReportd lv7), some (lFrFramed rv4.1), some (lvI rv4.2.1)]⟩) (.prn [1, 2, 4, 5, 7, 8, 9, 10, 12] R) ⟨lv6, 0, h, R⟩ ?_
  clear h
  rintro m7 st ⟨lv7, x9, h, rfl⟩
  cases m7 with
  | zero => cases (show (none : Option ((List FrReport) × Int)) = some r from h)
  | succ m7 =>
  rw [r9_Merge_L6] at h
  refine sw_seq (qG (q_movD R (r_movW R R R (r_lenR tb R R R R R ?_))))
  refine r_lss R R R R ?_ ?_
  ·intro c23
   replace h := ifP c23 h
   refine eN (sw_condT R (sw_skip (then_norm (sw_seq (sw_block (sw_dr (by kernel_rfl) (r_movW R R R (r_movW R R R (q_movD R ?_)))))))))
   obtain ⟨e9, ie9, h⟩ := bnd h
   refine r_ixI tb R R R R R R (ix0 ie9) (ix1 ie9) R R ?_
   refine r_ldD (y := vI e9) tb R R R R (ix2 (g := fun a => T.d (vI a)) ie9) R R R R ?_
   refine q_movD R (r_movW R R R (q_movD R ?_))
   obtain ⟨e10, ie10, h⟩ := bnd h
   refine r_ixI tb R R R R R R (ix0 ie10) (ix1 ie10) R R (q_fa tb R ?_)
   refine r_ldD (y := .arr 1 ((e10.words).map vI)) tb R R R R (ix2 (g := fun a => T.d (FrFrame.d a)) ie10) R R R R ?_
   refine r_build (v := .d (.agg [vI e9, vI x8, vI 0, .v (.bool false), .arr 1 ((e10.words).map vI)])) tb R R (List.cons_ne_nil _ _) R R R R R R (r_bslice tb R R R R R R R R R R R R R ?_)
   obtain ⟨q10, iq10, h⟩ := bnd h
   refine r_apM (g := FrReport.d) (w := lv7) (v := [(FrReport.mk e9 x8 0 false e10.words)]) ([some ⟨4, [.d (FrFormat.d t)]⟩, none, some (lFrFramed rv4.1), some (lvI rv4.2.1), some (lFrReportd [(FrReport.mk e9 x8 0 false e10.words)])]) tb R R R R R R R R R R R iq10 R R R R R (r_asgW R R R (ev_endD (by kernel_rfl) (block_norm (then_norm (sw_rg (q_movD R (q_add R (q_asgD R (eN ?_)))))))))
   exact ⟨m7, ⟨[(1, .d (.arr 2 ((o).map FrTape.d))), (2, .ref 0 4 0 0), (4, .d (.v (.slice none 0 0))), (5, .d (vI 0)), (7, .row 1 5 0 (q10).length), (8, .d (vI x8)), (9, .row 2 3 0 (rv4.1).length), (10, .row 3 1 0 (rv4.2.1).length), (12, .d (vI (W (x9 + 1))))], [some ⟨4, [.d (FrFormat.d t)]⟩, some (lFrReportd q10), some (lFrFramed rv4.1), some (lvI rv4.2.1)]⟩, Nat.lt_succ_self _, .vw (κ := [0, 5, 2, 3]) (vK (.cons R R (.row R (.row R (.row R .nil)))) R), q10, (W (x9 + 1)), h, R⟩
  intro c23
  replace h := ifN (Int.not_lt.2 c23) h
  refine eN (sw_condF R (sw_exit (then_exit (then_exit ?_))))
  subst hK7
  refine block_exit (block_norm (then_norm (sw_rg (q_movD R (q_add R (q_asgD R (eN ?_)))))))
  exact ⟨m6, ⟨[(1, .d (.arr 2 ((o).map FrTape.d))), (2, .ref 0 4 0 0), (4, .d (.v (.slice none 0 0))), (5, .d (vI 0)), (7, .row 1 5 0 (lv7).length), (8, .d (vI (W (x8 + 1))))], [some ⟨4, [.d (FrFormat.d t)]⟩, some (lFrReportd lv7)]⟩, Nat.lt_succ_self _, .vw (κ := [0, 1]) (vK (.cons R R (.row R .nil)) R), lv7, (W (x8 + 1)), h, R⟩
 intro c21
 replace h := ifN (Int.not_lt.2 c21) h
 refine eN (sw_condF R (sw_exit (then_exit (then_exit ?_))))
 subst hK6
 refine block_exit (then_norm (qG (q_asgD R (eN (sw_seq (qG (q_asgD R (eN (sw_block ?_)))))))))
 refine SW.own (ts' := [(4, .d (.v (.slice none 0 0))), (5, .d (vI 0)), (7, .row 1 5 0 (lv6).length), (13, .row 2 5 0 (([] : List FrReport)).length), (14, .d (vI 0))]) (L' := [some ⟨4, [.d (FrFormat.d t)]⟩, some (lFrReportd lv6)]) 5 R R (.cons (.same _) (.cons (.same _) (.cons (.same _) (.cons .nil (.cons (.same _) .nil))))) (.same (.same .nil)) ?_
 simp only [List.cons_append, List.nil_append]
 obtain ⟨K8, hK8, h⟩ : ∃ K, K = _ ∧ r9_Merge_L9 F lv6 K F ([] : List FrReport) 0 = some r := ⟨_, rfl, h⟩
 refine sw_loopS (st0 := ⟨[(4, .d (.v (.slice none 0 0))), (5, .d (vI 0)), (7, .row 0 5 0 (lv6).length), (13, .row 1 5 0 (([] : List FrReport)).length), (14, .d (vI 0))], [some (lFrReportd lv6), some (lFrReportd ([] : List FrReport))]⟩) (fun m st => ∃ (lv8 : (List FrReport)) (x10 : Int), r9_Merge_L9 F lv6 K8 m lv8 x10 = some r ∧ st = ⟨[(4, .d (.v (.slice none 0 0))), (5, .d (vI 0)), (7, .row 0 5 0 (lv6).length), (13, .row 1 5 0 (lv8).length), (14, .d (vI x10))], [some (lFrReportd lv6), some (lFrReportd lv8)]⟩) (.vw (κ := [1, 2]) (vK (.row R (.row R .nil)) R)) ⟨([] : List FrReport), 0, h, R⟩ ?_
 clear h
 rintro m8 st ⟨lv8, x10, h, rfl⟩
 cases m8 with
 | zero => cases (show (none : Option ((List FrReport) × Int)) = some r from h)
 | succ m8 =>
 rw [r9_Merge_L9] at h
 refine sw_seq (qG (q_movD R (r_movW R R R (r_lenR tb R R R R R ?_))))
 refine r_lss R R R R ?_ ?_
 ·intro c24
  replace h := ifP c24 h
  refine eN (sw_condT R (sw_skip (then_norm (sw_seq (sw_block (qG (r_movW R R R (q_movD R ?_))))))))
  obtain ⟨e11, ie11, h⟩ := bnd h
  refine r_ixI tb R R R R R R (ix0 ie11) (ix1 ie11) R R ?_
  refine r_ldD (y := FrReport.d e11) tb R R R R (ix2 (g := fun a => T.d (FrReport.d a)) ie11) R R R R ?_
  refine r_alloc tb R R R R R (q_stE _ _ tb R (eN (sw_seq (qG (q_asgD R (eN (sw_block ?_)))))))
  obtain ⟨K9, hK9, h⟩ : ∃ K, K = _ ∧ r9_Merge_L8 F lv6 K F e11 0 = some r := ⟨_, rfl, h⟩
  refine sw_loopS (fun m st => ∃ (a2 : FrReport) (x11 : Int), r9_Merge_L8 F lv6 K9 m a2 x11 = some r ∧ st = ⟨[(4, .d (.v (.slice none 0 0))), (5, .d (vI 0)), (7, .row 0 5 0 (lv6).length), (13, .row 1 5 0 (lv8).length), (14, .d (vI x10)), (15, .ref 2 5 0 0), (16, .d (vI x11))], [some (lFrReportd lv6), some (lFrReportd lv8), some ⟨5, [.d (FrReport.d a2)]⟩]⟩) (.prn [4, 5, 7, 13, 14, 15, 16] R) ⟨e11, 0, h, R⟩ ?_
  clear h
  rintro m9 st ⟨a2, x11, h, rfl⟩
  cases m9 with
  | zero => cases (show (none : Option ((List FrReport) × Int)) = some r from h)
  | succ m9 =>
  rw [r9_Merge_L8] at h
  refine sw_seq (qG (q_movD R (r_movW R R R (r_lenR tb R R R R R ?_))))
  refine r_lss R R R R ?_ ?_
  ·intro c25
   replace h := ifP c25 h
   refine eN (sw_condT R (sw_skip (then_norm (sw_seq (sw_block (sw_seq (sw_seq (sw_dr (by kernel_rfl) (r_movW R R R (q_movD R ?_))))))))))
   obtain ⟨e12, ie12, h⟩ := bnd h
   refine r_ixI tb R R R R R R (ix0 ie12) (ix1 ie12) R R (q_fa tb R ?_)
   refine r_ldD (y := vI e12.number) tb R R R R (ix2 (g := fun a => T.d (FrReport.d a)) ie12) R R R R ?_
   refine q_fa tb R (q_ldD (y := vI a2.number) tb R ?_)
   refine r_neq R R R R ?_ ?_
   ·intro c26
    replace h := ifN c26 h
    refine ev_endD (by kernel_rfl) (then_norm (sw_condT R (sw_exit (then_exit (block_exit (then_norm (sw_rg (q_movD R (q_add R (q_asgD R (eN ?_)))))))))))
    exact ⟨m9, _, Nat.lt_succ_self _, .prn [4, 5, 7, 13, 14, 15, 16] R, a2, (W (x11 + 1)), h, R⟩
   intro c26
   replace h := ifP c26 h
   refine ev_endD (by kernel_rfl) (then_norm (sw_condF R (sw_skip (then_norm (sw_seq (sw_dr (by kernel_rfl) (r_movW R R R (q_movD R (r_ixI tb R R R R R R (ix0 ie12) (ix1 ie12) R R (q_fa tb R ?_))))))))))
   refine r_ldD (y := .arr 1 ((e12.words).map vI)) tb R R R R (ix2 (g := fun a => T.d (FrReport.d a)) ie12) R R R R ?_
   refine q_fa tb R (q_ldD (y := .arr 1 ((a2.words).map vI)) tb R ?_)
   obtain ⟨rv5, hrv5, h⟩ := bnd h
   refine r_callB (r9_Ints_pc hrv5) (.of (by kernel_rfl)) R R R R ?_ ?_
   ·intro c27
    replace h := ifP c27 h
    refine ev_endD (by kernel_rfl) (then_norm (sw_condT R (sw_rg (q_fa tb R (q_ldD (y := vI a2.agree) tb R (q_add R (q_fa tb R (q_stE _ _ tb R (ev_end (block_norm (then_norm (sw_rg (q_movD R (q_add R (q_asgD R (eN ?_))))))))))))))))
    exact ⟨m9, _, Nat.lt_succ_self _, .prn [4, 5, 7, 13, 14, 15, 16] R, {a2 with agree := (W (a2.agree + 1))}, (W (x11 + 1)), h, R⟩
   intro c27
   replace h := ifF c27 h
   refine ev_endD (by kernel_rfl) (then_norm (sw_condF R (sw_rg (q_fa tb R (q_stE _ _ tb R (ev_end (block_norm (then_norm (sw_rg (q_movD R (q_add R (q_asgD R (eN ?_)))))))))))))
   exact ⟨m9, _, Nat.lt_succ_self _, .prn [4, 5, 7, 13, 14, 15, 16] R, {a2 with marked := true}, (W (x11 + 1)), h, R⟩
  intro c25
  replace h := ifN (Int.not_lt.2 c25) h
  refine eN (sw_condF R (sw_exit (then_exit (then_exit ?_))))
  subst hK9
  refine block_exit (then_norm (qG (r_movW R R R (r_lenR tb R R R R R (q_asgD R (q_asgD R (eN (sw_seq (qG (r_movW R R R (r_lenR tb R R R R R (r_sub R R R R (q_asgD R (eN (sw_block ?_)))))))))))))))
  obtain ⟨K10, hK10, h⟩ : ∃ K, K = _ ∧ r9_Merge_L7 F a2 K F lv8 (lv8.length : Int) true (W ((lv8.length : Int) - 1)) = some r := ⟨_, rfl, h⟩
  refine sw_loopS (fun m st => ∃ (lv9 : (List FrReport)) (x12 : Int) (x13 : Bool) (x14 : Int), r9_Merge_L7 F a2 K10 m lv9 x12 x13 x14 = some r ∧ st = ⟨[(4, .d (.v (.slice none 0 0))), (5, .d (vI 0)), (7, .row 0 5 0 (lv6).length), (13, .row 1 5 0 (lv9).length), (14, .d (vI x10)), (15, .ref 2 5 0 0), (17, .d (vI x12)), (18, .d (.v (.bool x13))), (19, .d (vI x14))], [some (lFrReportd lv6), some (lFrReportd lv9), some ⟨5, [.d (FrReport.d a2)]⟩]⟩) (.prn [4, 5, 7, 13, 14, 15, 17, 18, 19] R) ⟨lv8, (lv8.length : Int), true, (W ((lv8.length : Int) - 1)), h, R⟩ ?_
  clear h
  rintro m10 st ⟨lv9, x12, x13, x14, h, rfl⟩
  cases m10 with
  | zero => cases (show (none : Option ((List FrReport) × Int)) = some r from h)
  | succ m10 =>
  rw [r9_Merge_L7] at h
  refine sw_seq (qG (q_movD R ?_))
  refine r_geq R R R R ?_ ?_
  ·intro c28
   replace h := ifP c28 h
   refine eN (sw_condT R (sw_skip (then_norm (sw_seq (sw_block (sw_seq (sw_seq (sw_dr (by kernel_rfl) (r_movW R R R (q_movD R ?_))))))))))
   obtain ⟨e13, ie13, h⟩ := bnd h
   refine r_ixI tb R R R R R R (ix0 ie13) (ix1 ie13) R R (q_fa tb R ?_)
   refine r_ldD (y := vI e13.number) tb R R R R (ix2 (g := fun a => T.d (FrReport.d a)) ie13) R R R R ?_
   refine q_fa tb R (q_ldD (y := vI a2.number) tb R ?_)
   refine r_eql R R R R ?_ ?_
   ·intro c29
    replace h := ifP c29 h
    refine ev_endD (by kernel_rfl) (then_norm (sw_condT R (qG (q_asgD R (eN (sw_seq (sw_dr (by kernel_rfl) (q_fa tb R (q_ldD (y := vI a2.agree) tb R (r_movW R R R (q_movD R (r_ixI tb R R R R R R (ix0 ie13) (ix1 ie13) R R (q_fa tb R ?_)))))))))))))
    refine r_ldD (y := vI e13.agree) tb R R R R (ix2 (g := fun a => T.d (FrReport.d a)) ie13) R R R R ?_
    refine r_gtr R R R R ?_ ?_
    ·intro c30
     replace h := ifP c30 h
     refine ev_endD (by kernel_rfl) (then_norm (sw_condT R (sw_rg (r_movW R R R (q_movD R (q_ldD (y := FrReport.d a2) tb R (r_ixI tb R R R R R R (ix0 ie13) (ix1 ie13) R R ?_)))))))
     obtain ⟨lv10, ilv10, h⟩ := bnd h
     refine r_stQ (a' := (a2 : FrReport)) tb R R R R ie13 R R R R ilv10 R R ?_
     dsimp only [List.set_cons_zero, List.set_cons_succ]
     first | rw [set_len ilv10] | skip
     refine eN (sw_seq (sw_dr (by kernel_rfl) (r_movW R R R (q_movD R ?_))))
     obtain ⟨e14, ie14, h⟩ := bnd h
     refine r_ixI tb R R R R R R (ix0 ie14) (ix1 ie14) R R (q_fa tb R ?_)
     refine r_ldD (y := vI e14.number) tb R R R R (ix2 (g := fun a => T.d (FrReport.d a)) ie14) R R R R ?_
     refine q_fa tb R (q_ldD (y := vI a2.number) tb R ?_)
     refine r_gtr R R R R ?_ ?_
     ·intro c31
      replace h := ifP c31 h
      refine ev_endD (by kernel_rfl) (then_norm (sw_condT R (sw_rg (q_movD R (q_asgD R (ev_end (block_norm (then_norm (sw_rg (q_movD R (r_sub R R R R (q_asgD R (eN ?_)))))))))))))
      exact ⟨m10, _, Nat.lt_succ_self _, .prn [4, 5, 7, 13, 14, 15, 17, 18, 19] R, lv10, x14, false, (W (x14 - 1)), h, R⟩
     intro c31
     replace h := ifN (Int.not_lt.2 c31) h
     refine ev_endD (by kernel_rfl) (then_norm (sw_condF R (sw_skip (block_norm (then_norm (sw_rg (q_movD R (r_sub R R R R (q_asgD R (eN ?_))))))))))
     exact ⟨m10, _, Nat.lt_succ_self _, .prn [4, 5, 7, 13, 14, 15, 17, 18, 19] R, lv10, x12, false, (W (x14 - 1)), h, R⟩
    intro c30
    replace h := ifN (Int.not_lt.2 c30) h
    refine ev_endD (by kernel_rfl) (then_norm (sw_condF R (sw_skip (then_norm (sw_seq (sw_dr (by kernel_rfl) (r_movW R R R (q_movD R (r_ixI tb R R R R R R (ix0 ie13) (ix1 ie13) R R (q_fa tb R ?_))))))))))
    refine r_ldD (y := vI e13.number) tb R R R R (ix2 (g := fun a => T.d (FrReport.d a)) ie13) R R R R ?_
    refine q_fa tb R (q_ldD (y := vI a2.number) tb R ?_)
    refine r_gtr R R R R ?_ ?_
    ·intro c32
     replace h := ifP c32 h
     refine ev_endD (by kernel_rfl) (then_norm (sw_condT R (sw_rg (q_movD R (q_asgD R (ev_end (block_norm (then_norm (sw_rg (q_movD R (r_sub R R R R (q_asgD R (eN ?_)))))))))))))
     exact ⟨m10, _, Nat.lt_succ_self _, .prn [4, 5, 7, 13, 14, 15, 17, 18, 19] R, lv9, x14, false, (W (x14 - 1)), h, R⟩
    intro c32
    replace h := ifN (Int.not_lt.2 c32) h
    refine ev_endD (by kernel_rfl) (then_norm (sw_condF R (sw_skip (block_norm (then_norm (sw_rg (q_movD R (r_sub R R R R (q_asgD R (eN ?_))))))))))
    exact ⟨m10, _, Nat.lt_succ_self _, .prn [4, 5, 7, 13, 14, 15, 17, 18, 19] R, lv9, x12, false, (W (x14 - 1)), h, R⟩
   intro c29
   replace h := ifN c29 h
   refine ev_endD (by kernel_rfl) (then_norm (sw_condF R (sw_skip (then_norm (sw_seq (sw_dr (by kernel_rfl) (r_movW R R R (q_movD R (r_ixI tb R R R R R R (ix0 ie13) (ix1 ie13) R R (q_fa tb R ?_))))))))))
   refine r_ldD (y := vI e13.number) tb R R R R (ix2 (g := fun a => T.d (FrReport.d a)) ie13) R R R R ?_
   refine q_fa tb R (q_ldD (y := vI a2.number) tb R ?_)
   refine r_gtr R R R R ?_ ?_
   ·intro c33
    replace h := ifP c33 h
    refine ev_endD (by kernel_rfl) (then_norm (sw_condT R (sw_rg (q_movD R (q_asgD R (ev_end (block_norm (then_norm (sw_rg (q_movD R (r_sub R R R R (q_asgD R (eN ?_)))))))))))))
    exact ⟨m10, _, Nat.lt_succ_self _, .prn [4, 5, 7, 13, 14, 15, 17, 18, 19] R, lv9, x14, x13, (W (x14 - 1)), h, R⟩
   intro c33
   replace h := ifN (Int.not_lt.2 c33) h
   refine ev_endD (by kernel_rfl) (then_norm (sw_condF R (sw_skip (block_norm (then_norm (sw_rg (q_movD R (r_sub R R R R (q_asgD R (eN ?_))))))))))
   exact ⟨m10, _, Nat.lt_succ_self _, .prn [4, 5, 7, 13, 14, 15, 17, 18, 19] R, lv9, x12, x13, (W (x14 - 1)), h, R⟩
  intro c28
  replace h := ifN (Int.not_le.2 c28) h
  refine eN (sw_condF R (sw_exit (then_exit (then_exit ?_))))
  subst hK10
  refine block_exit (then_norm (qG (q_movD R ?_)))
  with_reducible apply ev_lit
  ·intro c34
   replace h := ifP c34 h
   refine eN (sw_condT R (qG (r_bslice tb R R R R R R R R R R R R R (r_movW R R R (q_movD R ?_)))))
   obtain ⟨p4, ip4, h⟩ := bnd h
   by_cases c35 : lv9.length = p4
   ·replace h := ifP c35 h
    refine r_slRowLoE tb R R R R R R ((natO_eq ip4).1) c35 R R ?_
    obtain ⟨q11, iq11, h⟩ := bnd h
    refine r_apEM (g := FrReport.d) (w := ([] : List FrReport)) (v := ([] : List FrReport)) ([some (lFrReportd lv6), some (lFrReportd lv9), some ⟨5, [.d (FrReport.d a2)]⟩, none]) tb R R R R R R R R (by intro _; exact R) iq11 R R R R R (r_asgW R R R (eN (sw_dr (by kernel_rfl) (r_bslice tb R R R R R R R R R R R R R (r_movW R R R (q_movD R ?_))))))
    obtain ⟨p5, ip5, h⟩ := bnd h
    refine r_slRowHi tb R R R R R R ((natO_eq ip5).1) ((natO_eq ip5).2) R R ?_
    obtain ⟨q12, iq12, h⟩ := bnd h
    refine r_apMQ (g := FrReport.d) (w := ([] : List FrReport)) (u := lv9) (v := (lv9.take p5)) ([some (lFrReportd lv6), some (lFrReportd lv9), some ⟨5, [.d (FrReport.d a2)]⟩, none, some (lFrReportd q11), none]) tb R R R R R R R R R R (by have := (natO_eq ip5).2; omega) (fun _ => rfl) iq12 R R R R R ?_
    refine q_ldD (y := FrReport.d a2) tb R (r_bslice tb R R R R R R R R R R R R R ?_)
    obtain ⟨q13, iq13, h⟩ := bnd h
    refine r_apM (g := FrReport.d) (w := q12) (v := [a2]) ([some (lFrReportd lv6), some (lFrReportd lv9), some ⟨5, [.d (FrReport.d a2)]⟩, none, some (lFrReportd q11), none, none, some (lFrReportd [a2])]) tb R R R R R R R R R R R iq13 R R R R R (r_movW R R R ?_)
    obtain ⟨q14, iq14, h⟩ := bnd h
    refine r_apM (g := FrReport.d) (w := q13) (v := q11) ([some (lFrReportd lv6), some (lFrReportd lv9), some ⟨5, [.d (FrReport.d a2)]⟩, none, some (lFrReportd q11), none, none, some (lFrReportd [a2]), none]) tb R R R R R R R R R R (ones_map (fun _ => rfl)) iq14 R R R R R ?_
    refine r_asgW R R R (ev_endD (by kernel_rfl) (block_norm (then_norm (sw_rg (q_movD R (q_add R (q_asgD R (eN ?_))))))))
    exact ⟨m8, ⟨[(4, .d (.v (.slice none 0 0))), (5, .d (vI 0)), (7, .row 0 5 0 (lv6).length), (13, .row 1 5 0 (q14).length), (14, .d (vI (W (x10 + 1))))], [some (lFrReportd lv6), some (lFrReportd q14)]⟩, Nat.lt_succ_self _, .vw (κ := [0, 9]) (vK (.row R (.row R .nil)) R), q14, (W (x10 + 1)), h, R⟩
   replace h := ifN c35 h
   refine r_slRowLo tb R R R R R R ((natO_eq ip4).1) (by have := (natO_eq ip4).2; omega) R R ?_
   obtain ⟨q15, iq15, h⟩ := bnd h
   refine r_apMQ (g := FrReport.d) (w := ([] : List FrReport)) (u := lv9) (v := (lv9.drop p4)) ([some (lFrReportd lv6), some (lFrReportd lv9), some ⟨5, [.d (FrReport.d a2)]⟩, none]) tb R R R R R R R R R (List.take_of_length_le (by simp)) (by have := (natO_eq ip4).2; omega) (fun _ => rfl) iq15 R R R R R ?_
   refine r_asgW R R R (eN (sw_dr (by kernel_rfl) (r_bslice tb R R R R R R R R R R R R R (r_movW R R R (q_movD R ?_)))))
   obtain ⟨p6, ip6, h⟩ := bnd h
   refine r_slRowHi tb R R R R R R ((natO_eq ip6).1) ((natO_eq ip6).2) R R ?_
   obtain ⟨q16, iq16, h⟩ := bnd h
   refine r_apMQ (g := FrReport.d) (w := ([] : List FrReport)) (u := lv9) (v := (lv9.take p6)) ([some (lFrReportd lv6), some (lFrReportd lv9), some ⟨5, [.d (FrReport.d a2)]⟩, none, some (lFrReportd q15), none]) tb R R R R R R R R R R (by have := (natO_eq ip6).2; omega) (fun _ => rfl) iq16 R R R R R ?_
   refine q_ldD (y := FrReport.d a2) tb R (r_bslice tb R R R R R R R R R R R R R ?_)
   obtain ⟨q17, iq17, h⟩ := bnd h
   refine r_apM (g := FrReport.d) (w := q16) (v := [a2]) ([some (lFrReportd lv6), some (lFrReportd lv9), some ⟨5, [.d (FrReport.d a2)]⟩, none, some (lFrReportd q15), none, none, some (lFrReportd [a2])]) tb R R R R R R R R R R R iq17 R R R R R (r_movW R R R ?_)
   obtain ⟨q18, iq18, h⟩ := bnd h
   refine r_apM (g := FrReport.d) (w := q17) (v := q15) ([some (lFrReportd lv6), some (lFrReportd lv9), some ⟨5, [.d (FrReport.d a2)]⟩, none, some (lFrReportd q15), none, none, some (lFrReportd [a2]), none]) tb R R R R R R R R R R (ones_map (fun _ => rfl)) iq18 R R R R R ?_
   refine r_asgW R R R (ev_endD (by kernel_rfl) (block_norm (then_norm (sw_rg (q_movD R (q_add R (q_asgD R (eN ?_))))))))
   exact ⟨m8, ⟨[(4, .d (.v (.slice none 0 0))), (5, .d (vI 0)), (7, .row 0 5 0 (lv6).length), (13, .row 1 5 0 (q18).length), (14, .d (vI (W (x10 + 1))))], [some (lFrReportd lv6), some (lFrReportd q18)]⟩, Nat.lt_succ_self _, .vw (κ := [0, 9]) (vK (.row R (.row R .nil)) R), q18, (W (x10 + 1)), h, R⟩
  intro c34
  replace h := ifF c34 h
  refine eN (sw_condF R (sw_skip (block_norm (then_norm (sw_rg (q_movD R (q_add R (q_asgD R (eN ?_)))))))))
  exact ⟨m8, ⟨[(4, .d (.v (.slice none 0 0))), (5, .d (vI 0)), (7, .row 0 5 0 (lv6).length), (13, .row 1 5 0 (lv9).length), (14, .d (vI (W (x10 + 1))))], [some (lFrReportd lv6), some (lFrReportd lv9)]⟩, Nat.lt_succ_self _, .vw (κ := [0, 1]) (vK (.row R (.row R .nil)) R), lv9, (W (x10 + 1)), h, R⟩
 intro c24
 replace h := ifN (Int.not_lt.2 c24) h
 refine eN (sw_condF R (sw_exit (then_exit (then_exit ?_))))
 subst hK8
 refine block_exit (then_norm (qG (r_movW R R R (r_asgW R R R (q_asgD R (eN (sw_ret ?_)))))))
 obtain rfl := sI h
 exact f2 [1] (.row R .nil) R (.cons (.tmp 4) (.cons (.tmp 5) .nil)) R
theorem r9_Merge_pc {F : Nat} {t : FrFormat} {o : (List FrTape)} {r : ((List FrReport) × Int)} (h : r9_Merge F t o = some r) : PC Try.prog 48 [FrFormat.d t, .arr 2 ((o).map FrTape.d)] (.tup [.arr 5 ((r.1).map FrReport.d), .v (.int .i64 r.2)]) := (r9_Merge_scr h).toPC (.tupL (.cons (.row rfl rfl) (.cons (.d _) .nil)))
def r9_SameReports_L1 (F : Nat) (t : (List FrReport)) (o : (List FrReport)) (K : Int → Option Bool) : Nat → Int → Option Bool
 | 0, _ => none
 | n + 1, a => if a < (t.length : Int) then (Option.bind (ixO t a) fun e => Option.bind (ixO o a) fun e2 => if e.number = e2.number then (if e.from_ = e2.from_ then (if e.agree = e2.agree then (if (e.marked != e2.marked) = true then (some false) else (Option.bind (r9_Ints F e.words e2.words) fun rv => if rv = true then (r9_SameReports_L1 F t o K n (W (a + 1))) else (some false))) else (some false)) else (some false)) else (some false)) else (K a)
def r9_SameReports (F : Nat) (t : (List FrReport)) (o : (List FrReport)) : Option Bool := if (t.length : Int) = (o.length : Int) then (r9_SameReports_L1 F t o (fun (a : Int) => some true) F 0) else (some false)
theorem r9_SameReports_pc {F : Nat} {t : (List FrReport)} {o : (List FrReport)} {r : Bool} (h : r9_SameReports F t o = some r) : PC Try.prog 49 [.arr 5 ((t).map FrReport.d), .arr 5 ((o).map FrReport.d)] (.v (.bool r)) := by
 rw [r9_SameReports] at h
 refine SC.of_sw Try.func49 R R R ?_
 dsimp only [argS, List.map]
 refine qG (q_asgD R (eN (sw_seq (qG (q_movD R (q_lenM tb R (q_movD R (q_lenM tb R ?_))))))))
 refine r_neq R R R R ?_ ?_
 ·intro c
  replace h := ifN c h
  refine eN (sw_condT R (qG (q_asgD R (eN (sw_ret (then_ret ?_))))))
  obtain rfl := sI h
  exact f1 4 R
 intro c
 replace h := ifP c h
 refine eN (sw_condF R (sw_skip (then_norm (sw_seq (qG (q_asgD R (eN (sw_block ?_))))))))
 obtain ⟨K2, hK2, h⟩ : ∃ K, K = _ ∧ r9_SameReports_L1 F t o K F 0 = some r := ⟨_, rfl, h⟩
 refine sw_loopS (fun m st => ∃ (a : Int), r9_SameReports_L1 F t o K2 m a = some r ∧ st = ⟨[(0, .d (.arr 5 ((t).map FrReport.d))), (1, .d (.arr 5 ((o).map FrReport.d))), (4, .d (.v (.bool false))), (5, .d (vI a))], []⟩) (.prn [0, 1, 4, 5] R) ⟨0, h, R⟩ ?_
 clear h
 rintro m2 st ⟨a, h, rfl⟩
 cases m2 with
 | zero => cases (show (none : Option Bool) = some r from h)
 | succ m2 =>
 rw [r9_SameReports_L1] at h
 refine sw_seq (qG (q_movD R (q_movD R (q_lenM tb R ?_))))
 refine r_lss R R R R ?_ ?_
 ·intro c2
  replace h := ifP c2 h
  refine eN (sw_condT R (sw_skip (then_norm (sw_seq (sw_block (sw_seq (sw_dr (by kernel_rfl) (q_movD R (q_movD R ?_)))))))))
  obtain ⟨e, ie, h⟩ := bnd h
  refine q_ixE tb (ix0 ie) (ix1m ie) R (q_faE tb R (q_ldE (y := vI e.number) tb (ix2 (g := FrReport.d) ie) R (q_movD R (q_movD R ?_))))
  obtain ⟨e2, ie2, h⟩ := bnd h
  refine q_ixE tb (ix0 ie2) (ix1m ie2) R (q_faE tb R (q_ldE (y := vI e2.number) tb (ix2 (g := FrReport.d) ie2) R ?_))
  refine r_neq R R R R ?_ ?_
  ·intro c3
   replace h := ifN c3 h
   refine q_movD R (q_sk 11 R (q_pickT R (q_movD R (q_sk 11 R (q_pickT R (q_movD R (q_sk 11 R (q_pickT R (q_movD R (q_sk 12 R (q_pickT R (ev_endD (by kernel_rfl) (then_norm (sw_condT R (qG (q_asgD R (eN (sw_ret (block_ret (then_ret (then_ret (block_ret (then_ret ?_)))))))))))))))))))))))
   obtain rfl := sI h
   exact f1 4 R
  intro c3
  replace h := ifP c3 h
  refine q_movD R (q_movD R (q_movD R (q_ixE tb (ix0 ie) (ix1m ie) R (q_faE tb R (q_ldE (y := vI e.from_) tb (ix2 (g := FrReport.d) ie) R (q_movD R (q_movD R (q_ixE tb (ix0 ie2) (ix1m ie2) R (q_faE tb R (q_ldE (y := vI e2.from_) tb (ix2 (g := FrReport.d) ie2) R ?_))))))))))
  refine r_neq R R R R ?_ ?_
  ·intro c4
   replace h := ifN c4 h
   refine q_pickF R (q_movD R (q_sk 11 R (q_pickT R (q_movD R (q_sk 11 R (q_pickT R (q_movD R (q_sk 12 R (q_pickT R (ev_endD (by kernel_rfl) (then_norm (sw_condT R (qG (q_asgD R (eN (sw_ret (block_ret (then_ret (then_ret (block_ret (then_ret ?_)))))))))))))))))))))
   obtain rfl := sI h
   exact f1 4 R
  intro c4
  replace h := ifP c4 h
  refine q_pickF R (q_movD R (q_movD R (q_movD R (q_ixE tb (ix0 ie) (ix1m ie) R (q_faE tb R (q_ldE (y := vI e.agree) tb (ix2 (g := FrReport.d) ie) R (q_movD R (q_movD R (q_ixE tb (ix0 ie2) (ix1m ie2) R (q_faE tb R (q_ldE (y := vI e2.agree) tb (ix2 (g := FrReport.d) ie2) R ?_)))))))))))
  refine r_neq R R R R ?_ ?_
  ·intro c5
   replace h := ifN c5 h
   refine q_pickF R (q_movD R (q_sk 11 R (q_pickT R (q_movD R (q_sk 12 R (q_pickT R (ev_endD (by kernel_rfl) (then_norm (sw_condT R (qG (q_asgD R (eN (sw_ret (block_ret (then_ret (then_ret (block_ret (then_ret ?_))))))))))))))))))
   obtain rfl := sI h
   exact f1 4 R
  intro c5
  replace h := ifP c5 h
  refine q_pickF R (q_movD R (q_movD R (q_movD R (q_ixE tb (ix0 ie) (ix1m ie) R (q_faE tb R (q_ldE (y := .v (.bool e.marked)) tb (ix2 (g := FrReport.d) ie) R (q_movD R (q_movD R (q_ixE tb (ix0 ie2) (ix1m ie2) R (q_faE tb R (q_ldE (y := .v (.bool e2.marked)) tb (ix2 (g := FrReport.d) ie2) R (r_boolneq R R R R R ?_))))))))))))
  with_reducible apply ev_lit
  ·intro c6
   replace h := ifP c6 h
   refine q_pickF R (q_movD R (q_sk 12 R (q_pickT R (ev_endD (by kernel_rfl) (then_norm (sw_condT R (qG (q_asgD R (eN (sw_ret (block_ret (then_ret (then_ret (block_ret (then_ret ?_)))))))))))))))
   obtain rfl := sI h
   exact f1 4 R
  intro c6
  replace h := ifF c6 h
  refine q_pickF R (q_movD R (q_movD R (q_movD R (q_ixE tb (ix0 ie) (ix1m ie) R (q_faE tb R (q_ldE (y := .arr 1 ((e.words).map vI)) tb (ix2 (g := FrReport.d) ie) R (q_movD R (q_movD R (q_ixE tb (ix0 ie2) (ix1m ie2) R (q_faE tb R (q_ldE (y := .arr 1 ((e2.words).map vI)) tb (ix2 (g := FrReport.d) ie2) R ?_)))))))))))
  obtain ⟨rv, hrv, h⟩ := bnd h
  refine r_callB (r9_Ints_pc hrv) (.of (by kernel_rfl)) R R R R ?_ ?_
  ·intro c7
   replace h := ifP c7 h
   refine r_notT R R R (q_pickF R (ev_endD (by kernel_rfl) (then_norm (sw_condF R (sw_skip (block_norm (then_norm (sw_rg (q_movD R (q_add R (q_asgD R (eN ?_))))))))))))
   exact ⟨m2, _, Nat.lt_succ_self _, .prn [0, 1, 4, 5] R, (W (a + 1)), h, R⟩
  intro c7
  replace h := ifF c7 h
  refine r_notF R R R (q_pickF R (ev_endD (by kernel_rfl) (then_norm (sw_condT R (qG (q_asgD R (eN (sw_ret (block_ret (then_ret (then_ret (block_ret (then_ret ?_)))))))))))))
  obtain rfl := sI h
  exact f1 4 R
 intro c2
 replace h := ifN (Int.not_lt.2 c2) h
 refine eN (sw_condF R (sw_exit (then_exit (then_exit ?_))))
 subst hK2
 refine block_exit (then_norm (qG (q_asgD R (eN (sw_ret ?_)))))
 obtain rfl := sI h
 exact f1 4 R
def slices_Clone_int (F : Nat) (s : (List Int)) : Option (List Int) := Option.bind (appI ([] : List Int) s) fun q => some q
theorem slices_Clone_int_scr {F : Nat} {s : (List Int)} {r : (List Int)} (h : slices_Clone_int F s = some r) : SCR Try.prog 93 (List.map T.d [.arr 1 ((s).map vI)]) [] (.row 0 1 0 (r).length) (List.map some [(lvI r)]) := by
 rw [slices_Clone_int] at h
 refine SC.of_sw Try.func93 R R R ?_
 dsimp only [argS, List.map]
 cases s with
 | nil =>
  refine SW.raw 0 1 R fun ad cap => ?_
  cases ad with
  | none =>
   replace h : some ([] : List Int) = some r := by simpa [appO, appI] using h
   refine qG (q_asgD R (eN (sw_seq (qG (q_movD R (r_nilRow (by intro o a n cap w; cases a <;> cases o <;> simp [go_sem, eqGuard] <;> rfl) R R R (eN (sw_condT R ?_))))))))
   refine SW.unraw 0 1 R ?_
   refine SW.unraw 3 1 R ?_
   refine qG (q_asgD R (eN ?_))
   refine SW.own (ts' := [(2, .row 0 1 0 (([] : List Int)).length)]) (L' := []) 1 R R (.cons .nil .nil) .nil ?_
   simp only [List.cons_append, List.nil_append]
   refine sw_ret (then_ret ?_)
   obtain rfl := sI h
   exact f2 [0] (.row R .nil) R (.cons (.tmp 2) .nil) R
  | some ad =>
   refine qG (q_asgD R (eN (sw_seq (qG (q_movD R (r_nilRaw (by intro o a n cap w; cases a <;> cases o <;> simp [go_sem, eqGuard] <;> rfl) R R R (eN (sw_condF R ?_))))))))
   refine SW.unraw 0 1 R ?_
   refine SW.unraw 3 1 R ?_
   refine sw_skip (then_norm (qG (r_bslice tb R R R R R R R R R R R R R (q_movD R ?_))))
   obtain ⟨q, iq, h⟩ := bnd h
   refine r_apEI (g := vI) (w := ([] : List Int)) (v := ([] : List Int)) ([none]) tb R R R R R R R R (by intro _; exact R) iq R R R R R (r_asgW R R R (eN (sw_ret ?_)))
   obtain rfl := sI h
   exact f2 [1] (.row R .nil) R (.cons (.tmp 2) .nil) R
 | cons x0 s =>
  refine qG (q_asgD R (eN (sw_seq (qG (q_movD R (r_nilArr (by intro o a n cap w; cases a <;> cases o <;> simp [go_sem, eqGuard] <;> rfl) R R R (eN (sw_condF R (sw_skip (then_norm (qG (r_bslice tb R R R R R R R R R R R R R (q_movD R ?_)))))))))))))
  obtain ⟨q, iq, h⟩ := bnd h
  refine r_apEI (g := vI) (w := ([] : List Int)) (v := (x0 :: s)) ([none]) tb R R R R R R R R (by intro _; exact R) iq R R R R R (r_asgW R R R (eN (sw_ret ?_)))
  obtain rfl := sI h
  exact f2 [1] (.row R .nil) R (.cons (.tmp 2) .nil) R
theorem slices_Clone_int_pc {F : Nat} {s : (List Int)} {r : (List Int)} (h : slices_Clone_int F s = some r) : PC Try.prog 93 [.arr 1 ((s).map vI)] (.arr 1 ((r).map vI)) := (slices_Clone_int_scr h).toPC (.row rfl rfl)
def frame_Merge_2 (F : Nat) (a : FrReport) (b : FrReport) : Option Bool := some (decide (a.number = b.number))
theorem frame_Merge_2_pc {F : Nat} {a : FrReport} {b : FrReport} {r : Bool} (h : frame_Merge_2 F a b = some r) : PC Try.prog 99 [FrReport.d a, FrReport.d b] (.v (.bool r)) := by
 rw [frame_Merge_2] at h
 refine SC.of_sw Try.func99 R R R ?_
 dsimp only [argS, List.map]
 refine qG (q_box R (q_box R (q_asgD R (eN (qG (q_fa tb R (q_ldD (y := vI a.number) tb R (q_fa tb R (q_ldD (y := vI b.number) tb R (r_eqlV R R R R (q_asgD R (eN (sw_ret ?_)))))))))))))
 obtain rfl := sI h
 exact f1 4 R
def slices_CompactFunc_FrReport_m_frame_Merge_2_L1 (F : Nat)  (K : (List FrReport) → Int → Int → Option ((List FrReport) × (List FrReport))) : Nat → (List FrReport) → Int → Int → Option ((List FrReport) × (List FrReport))
 | 0, _, _, _ => none
 | n + 1, t2, a2, x => if x < (([] : List FrReport).length : Int) then (Option.bind (ixO ([] : List FrReport) x) fun e3 => Option.bind (ixO ([] : List FrReport) (W (x - 1))) fun e4 => Option.bind (frame_Merge_2 F e3 e4) fun rv2 => if rv2 = true then (slices_CompactFunc_FrReport_m_frame_Merge_2_L1 F K n t2 a2 (W (x + 1))) else (Option.bind (ixO t2 a2) fun e5 => Option.bind (setO t2 a2 e3) fun t3 => slices_CompactFunc_FrReport_m_frame_Merge_2_L1 F K n t3 (W (a2 + 1)) (W (x + 1)))) else (K t2 a2 x)
def slices_CompactFunc_FrReport_m_frame_Merge_2_L2 (F : Nat) (p : Nat) (K : (List FrReport) → Int → Int → Option ((List FrReport) × (List FrReport))) : Nat → (List FrReport) → Int → Int → Option ((List FrReport) × (List FrReport))
 | 0, _, _, _ => none
 | n + 1, t5, a3, x2 => if x2 < ((t5.length - p : Nat) : Int) then (Option.bind (ixO (t5.drop p) x2) fun e6 => Option.bind (ixO (t5.drop p) (W (x2 - 1))) fun e7 => Option.bind (frame_Merge_2 F e6 e7) fun rv3 => if rv3 = true then (slices_CompactFunc_FrReport_m_frame_Merge_2_L2 F p K n t5 a3 (W (x2 + 1))) else (Option.bind (ixO t5 a3) fun e8 => Option.bind (setO t5 a3 e6) fun t6 => slices_CompactFunc_FrReport_m_frame_Merge_2_L2 F p K n t6 (W (a3 + 1)) (W (x2 + 1)))) else (K t5 a3 x2)
def slices_CompactFunc_FrReport_m_frame_Merge_2_L3 (F : Nat) (t : (List FrReport)) (K : Int → Option ((List FrReport) × (List FrReport))) : Nat → Int → Option ((List FrReport) × (List FrReport))
 | 0, _ => none
 | n + 1, a => if a < (t.length : Int) then (Option.bind (ixO t a) fun e => Option.bind (ixO t (W (a - 1))) fun e2 => Option.bind (frame_Merge_2 F e e2) fun rv => if rv = true then (Option.bind (natO a t.length) fun p => if t.length = p then (slices_CompactFunc_FrReport_m_frame_Merge_2_L1 F (fun (t2 : (List FrReport)) (a2 : Int) (x : Int) => Option.bind (natO a2 t2.length) fun p2 => if t2.length = p2 then (Option.bind (natO a2 t2.length) fun p3 => some ((t2.take p3), t2)) else (Option.bind (clrPO t2 p2 (FrReport.mk 0 0 0 false ([] : List Int))) fun t4 => Option.bind (natO a2 t4.length) fun p4 => some ((t4.take p4), t4))) F t a 1) else (slices_CompactFunc_FrReport_m_frame_Merge_2_L2 F p (fun (t5 : (List FrReport)) (a3 : Int) (x2 : Int) => Option.bind (natO a3 t5.length) fun p5 => if t5.length = p5 then (Option.bind (natO a3 t5.length) fun p6 => some ((t5.take p6), t5)) else (Option.bind (clrPO t5 p5 (FrReport.mk 0 0 0 false ([] : List Int))) fun t7 => Option.bind (natO a3 t7.length) fun p7 => some ((t7.take p7), t7))) F t a 1)) else (slices_CompactFunc_FrReport_m_frame_Merge_2_L3 F t K n (W (a + 1)))) else (K a)
def slices_CompactFunc_FrReport_m_frame_Merge_2 (F : Nat) (t : (List FrReport)) : Option ((List FrReport) × (List FrReport)) := if (t.length : Int) < 2 then (some (t, t)) else (slices_CompactFunc_FrReport_m_frame_Merge_2_L3 F t (fun (a : Int) => some (t, t)) F 1)
theorem slices_CompactFunc_FrReport_m_frame_Merge_2_scr {F : Nat} {t : (List FrReport)} {r : ((List FrReport) × (List FrReport))} (h : slices_CompactFunc_FrReport_m_frame_Merge_2 F t = some r) : SCR Try.prog 98 [.row 0 5 0 (t).length, .d (.v (.func (.func 99) #[] #[]))] [some (lFrReportd t)] (.row 0 5 0 (r.1).length) [some (lFrReportd r.2)] := by
 rw [slices_CompactFunc_FrReport_m_frame_Merge_2] at h
 refine SC.of_sw Try.func98 R R R ?_
 dsimp only [argS, List.map]
 refine qG (q_asgD R (eN (sw_seq (qG (r_movW R R R (r_lenR tb R R R R R ?_))))))
 refine r_lss R R R R ?_ ?_
 ·intro c
  replace h := ifP c h
  refine eN (sw_condT R (qG (r_movW R R R (r_asgW R R R (eN (sw_ret (then_ret ?_)))))))
  obtain rfl := sI h
  exact f2 [0] (.row R .nil) R (.cons (.tmp 4) .nil) R
 intro c
 replace h := ifN (Int.not_lt.2 c) h
 refine eN (sw_condF R (sw_skip (then_norm (sw_seq (qG (q_asgD R (eN (sw_block ?_))))))))
 obtain ⟨K6, hK6, h⟩ : ∃ K, K = _ ∧ slices_CompactFunc_FrReport_m_frame_Merge_2_L3 F t K F 1 = some r := ⟨_, rfl, h⟩
 refine sw_loopS (fun m st => ∃ (a : Int), slices_CompactFunc_FrReport_m_frame_Merge_2_L3 F t K6 m a = some r ∧ st = ⟨[(0, .row 0 5 0 (t).length), (1, .d (.v (.func (.func 99) #[] #[]))), (4, .d (.v (.slice none 0 0))), (5, .d (vI a))], [some (lFrReportd t)]⟩) (.prn [0, 1, 4, 5] R) ⟨1, h, R⟩ ?_
 clear h
 rintro m6 st ⟨a, h, rfl⟩
 cases m6 with
 | zero => cases (show (none : Option ((List FrReport) × (List FrReport))) = some r from h)
 | succ m6 =>
 rw [slices_CompactFunc_FrReport_m_frame_Merge_2_L3] at h
 refine sw_seq (qG (q_movD R (r_movW R R R (r_lenR tb R R R R R ?_))))
 refine r_lss R R R R ?_ ?_
 ·intro c2
  replace h := ifP c2 h
  refine eN (sw_condT R (sw_skip (then_norm (sw_seq (sw_block (sw_seq (sw_dr (by kernel_rfl) (q_movD R (r_movW R R R (q_movD R ?_))))))))))
  obtain ⟨e, ie, h⟩ := bnd h
  refine r_ixI tb R R R R R R (ix0 ie) (ix1 ie) R R ?_
  refine r_ldD (y := FrReport.d e) tb R R R R (ix2 (g := fun a => T.d (FrReport.d a)) ie) R R R R ?_
  refine r_movW R R R (q_movD R (r_sub R R R R ?_))
  obtain ⟨e2, ie2, h⟩ := bnd h
  refine r_ixI tb R R R R R R (ix0 ie2) (ix1 ie2) R R ?_
  refine r_ldD (y := FrReport.d e2) tb R R R R (ix2 (g := fun a => T.d (FrReport.d a)) ie2) R R R R ?_
  obtain ⟨rv, hrv, h⟩ := bnd h
  refine r_callB (frame_Merge_2_pc hrv) (.of (by kernel_rfl)) R R R R ?_ ?_
  ·intro c3
   replace h := ifP c3 h
   refine ev_endD (by kernel_rfl) (then_norm (sw_condT R (qG (r_movW R R R (q_movD R ?_)))))
   obtain ⟨p, ip, h⟩ := bnd h
   by_cases c4 : t.length = p
   ·replace h := ifP c4 h
    refine r_slRowLoE tb R R R R R R ((natO_eq ip).1) c4 R R ?_
    refine q_asgD R (eN (sw_seq (qG (q_asgD R (eN (sw_block ?_))))))
    obtain ⟨K7, hK7, h⟩ : ∃ K, K = _ ∧ slices_CompactFunc_FrReport_m_frame_Merge_2_L1 F K F t a 1 = some r := ⟨_, rfl, h⟩
    refine sw_loopS (fun m st => ∃ (t2 : (List FrReport)) (a2 : Int) (x : Int), slices_CompactFunc_FrReport_m_frame_Merge_2_L1 F K7 m t2 a2 x = some r ∧ st = ⟨[(0, .row 0 5 0 (t2).length), (1, .d (.v (.func (.func 99) #[] #[]))), (4, .d (.v (.slice none 0 0))), (5, .d (vI a2)), (6, .d (.arr 5 ((([] : List FrReport)).map FrReport.d))), (7, .d (vI x))], [some (lFrReportd t2)]⟩) (.prn [0, 1, 4, 5, 6, 7] R) ⟨t, a, 1, h, R⟩ ?_
    clear h
    rintro m7 st ⟨t2, a2, x, h, rfl⟩
    cases m7 with
    | zero => cases (show (none : Option ((List FrReport) × (List FrReport))) = some r from h)
    | succ m7 =>
    rw [slices_CompactFunc_FrReport_m_frame_Merge_2_L1] at h
    refine sw_seq (qG (q_movD R (q_movD R (q_lenM tb R ?_))))
    refine r_lss R R R R ?_ ?_
    ·intro c5
     replace h := ifP c5 h
     refine eN (sw_condT R (sw_skip (then_norm (sw_seq (sw_block (sw_seq (sw_dr (by kernel_rfl) (q_movD R (q_movD R (q_movD R ?_))))))))))
     obtain ⟨e3, ie3, h⟩ := bnd h
     refine q_ixE tb (ix0 ie3) (ix1m ie3) R (q_ldE (y := FrReport.d e3) tb (ix2 (g := FrReport.d) ie3) R (q_movD R (q_movD R (r_sub R R R R ?_))))
     obtain ⟨e4, ie4, h⟩ := bnd h
     refine q_ixE tb (ix0 ie4) (ix1m ie4) R (q_ldE (y := FrReport.d e4) tb (ix2 (g := FrReport.d) ie4) R ?_)
     obtain ⟨rv2, hrv2, h⟩ := bnd h
     refine r_callB (frame_Merge_2_pc hrv2) (.of (by kernel_rfl)) R R R R ?_ ?_
     ·intro c6
      replace h := ifP c6 h
      refine r_notT R R R (ev_endD (by kernel_rfl) (then_norm (sw_condF R (sw_skip (block_norm (then_norm (sw_rg (q_movD R (q_add R (q_asgD R (eN ?_)))))))))))
      exact ⟨m7, _, Nat.lt_succ_self _, .prn [0, 1, 4, 5, 6, 7] R, t2, a2, (W (x + 1)), h, R⟩
     intro c6
     replace h := ifF c6 h
     refine r_notF R R R (ev_endD (by kernel_rfl) (then_norm (sw_condT R (qG (r_movW R R R (q_movD R (q_movD R (q_movD R (q_ixE tb (ix0 ie3) (ix1m ie3) R (q_ldE (y := FrReport.d e3) tb (ix2 (g := FrReport.d) ie3) R ?_))))))))))
     obtain ⟨e5, ie5, h⟩ := bnd h
     refine r_ixI tb R R R R R R (ix0 ie5) (ix1 ie5) R R ?_
     obtain ⟨t3, it3, h⟩ := bnd h
     refine r_stQ (a' := (e3 : FrReport)) tb R R R R ie5 R R R R it3 R R ?_
     dsimp only [List.set_cons_zero, List.set_cons_succ]
     first | rw [set_len it3] | skip
     refine eN (sw_rg (q_movD R (q_add R (q_asgD R (ev_end (block_norm (then_norm (sw_rg (q_movD R (q_add R (q_asgD R (eN ?_))))))))))))
     exact ⟨m7, _, Nat.lt_succ_self _, .prn [0, 1, 4, 5, 6, 7] R, t3, (W (a2 + 1)), (W (x + 1)), h, R⟩
    intro c5
    replace h := ifN (Int.not_lt.2 c5) h
    refine eN (sw_condF R (sw_exit (then_exit (then_exit ?_))))
    subst hK7
    refine block_exit (then_norm (qG (r_movW R R R (q_movD R ?_))))
    obtain ⟨p2, ip2, h⟩ := bnd h
    by_cases c7 : t2.length = p2
    ·replace h := ifP c7 h
     refine r_slRowLoE tb R R R R R R ((natO_eq ip2).1) c7 R R ?_
     refine r_clearE tb R R R R (eN (qG (r_movW R R R (q_movD R ?_))))
     obtain ⟨p3, ip3, h⟩ := bnd h
     refine r_slRowHT (t2) tb R R R R R R R ((natO_eq ip3).1) ((natO_eq ip3).2) R R ?_
     refine r_asgW R R R (eN (sw_ret (block_ret (then_ret (then_ret (block_ret (then_ret ?_)))))))
     obtain rfl := sI h
     exact f2 [0] (.row R .nil) R (.cons (.tmp 4) .nil) R
    replace h := ifN c7 h
    refine r_slRowLo tb R R R R R R ((natO_eq ip2).1) (by have := (natO_eq ip2).2; omega) R R ?_
    obtain ⟨t4, it4, h⟩ := bnd h
    refine r_clearP (g := FrReport.d) (a0 := (FrReport.mk 0 0 0 false ([] : List Int))) tb R R R R R ((.aggc (.same _) (.aggc (.same _) (.aggc (.same _) (.aggc (.same _) (.aggc (.nil _) .agg0)))))) R R R R R it4 R R ?_
    dsimp only [List.set_cons_zero, List.set_cons_succ]
    first | rw [clrPO_len it4] | skip
    refine eN (qG (r_movW R R R (q_movD R ?_)))
    obtain ⟨p4, ip4, h⟩ := bnd h
    refine r_slRowHT (t4) tb R R R R R R R ((natO_eq ip4).1) ((natO_eq ip4).2) R R ?_
    refine r_asgW R R R (eN (sw_ret (block_ret (then_ret (then_ret (block_ret (then_ret ?_)))))))
    obtain rfl := sI h
    exact f2 [0] (.row R .nil) R (.cons (.tmp 4) .nil) R
   replace h := ifN c4 h
   refine r_slRowLo tb R R R R R R ((natO_eq ip).1) (by have := (natO_eq ip).2; omega) R R ?_
   refine r_asgW R R R (eN (sw_seq (qG (q_asgD R (eN (sw_block ?_))))))
   obtain ⟨K8, hK8, h⟩ : ∃ K, K = _ ∧ slices_CompactFunc_FrReport_m_frame_Merge_2_L2 F p K F t a 1 = some r := ⟨_, rfl, h⟩
   refine sw_loopS (fun m st => ∃ (t5 : (List FrReport)) (a3 : Int) (x2 : Int), slices_CompactFunc_FrReport_m_frame_Merge_2_L2 F p K8 m t5 a3 x2 = some r ∧ st = ⟨[(0, .row 0 5 0 (t5).length), (1, .d (.v (.func (.func 99) #[] #[]))), (4, .d (.v (.slice none 0 0))), (5, .d (vI a3)), (6, .row 0 5 p ((t5).length - p)), (7, .d (vI x2))], [some (lFrReportd t5)]⟩) (.prn [0, 1, 4, 5, 6, 7] R) ⟨t, a, 1, h, R⟩ ?_
   clear h
   rintro m8 st ⟨t5, a3, x2, h, rfl⟩
   cases m8 with
   | zero => cases (show (none : Option ((List FrReport) × (List FrReport))) = some r from h)
   | succ m8 =>
   rw [slices_CompactFunc_FrReport_m_frame_Merge_2_L2] at h
   refine sw_seq (qG (q_movD R (r_movW R R R (r_lenR tb R R R R R ?_))))
   refine r_lss R R R R ?_ ?_
   ·intro c8
    replace h := ifP c8 h
    refine eN (sw_condT R (sw_skip (then_norm (sw_seq (sw_block (sw_seq (sw_dr (by kernel_rfl) (q_movD R (r_movW R R R (q_movD R ?_))))))))))
    obtain ⟨e6, ie6, h⟩ := bnd h
    refine r_ixR tb R R R R R R (ix0 ie6) (ix1d ie6) R R ?_
    refine r_ldD (y := FrReport.d e6) tb R R R R (ix2d (g := fun a => T.d (FrReport.d a)) ie6) R R R R ?_
    refine r_movW R R R (q_movD R (r_sub R R R R ?_))
    obtain ⟨e7, ie7, h⟩ := bnd h
    refine r_ixR tb R R R R R R (ix0 ie7) (ix1d ie7) R R ?_
    refine r_ldD (y := FrReport.d e7) tb R R R R (ix2d (g := fun a => T.d (FrReport.d a)) ie7) R R R R ?_
    obtain ⟨rv3, hrv3, h⟩ := bnd h
    refine r_callB (frame_Merge_2_pc hrv3) (.of (by kernel_rfl)) R R R R ?_ ?_
    ·intro c9
     replace h := ifP c9 h
     refine r_notT R R R (ev_endD (by kernel_rfl) (then_norm (sw_condF R (sw_skip (block_norm (then_norm (sw_rg (q_movD R (q_add R (q_asgD R (eN ?_)))))))))))
     exact ⟨m8, _, Nat.lt_succ_self _, .prn [0, 1, 4, 5, 6, 7] R, t5, a3, (W (x2 + 1)), h, R⟩
    intro c9
    replace h := ifF c9 h
    refine r_notF R R R (ev_endD (by kernel_rfl) (then_norm (sw_condT R (qG (r_movW R R R (q_movD R (r_movW R R R (q_movD R (r_ixR tb R R R R R R (ix0 ie6) (ix1d ie6) R R ?_)))))))))
    refine r_ldD (y := FrReport.d e6) tb R R R R (ix2d (g := fun a => T.d (FrReport.d a)) ie6) R R R R ?_
    obtain ⟨e8, ie8, h⟩ := bnd h
    refine r_ixI tb R R R R R R (ix0 ie8) (ix1 ie8) R R ?_
    obtain ⟨t6, it6, h⟩ := bnd h
    refine r_stQ (a' := (e6 : FrReport)) tb R R R R ie8 R R R R it6 R R ?_
    dsimp only [List.set_cons_zero, List.set_cons_succ]
    first | rw [set_len it6] | skip
    refine eN (sw_rg (q_movD R (q_add R (q_asgD R (ev_end (block_norm (then_norm (sw_rg (q_movD R (q_add R (q_asgD R (eN ?_))))))))))))
    exact ⟨m8, _, Nat.lt_succ_self _, .prn [0, 1, 4, 5, 6, 7] R, t6, (W (a3 + 1)), (W (x2 + 1)), h, R⟩
   intro c8
   replace h := ifN (Int.not_lt.2 c8) h
   refine eN (sw_condF R (sw_exit (then_exit (then_exit ?_))))
   subst hK8
   refine block_exit (then_norm (qG (r_movW R R R (q_movD R ?_))))
   obtain ⟨p5, ip5, h⟩ := bnd h
   by_cases c10 : t5.length = p5
   ·replace h := ifP c10 h
    refine r_slRowLoE tb R R R R R R ((natO_eq ip5).1) c10 R R ?_
    refine r_clearE tb R R R R (eN (qG (r_movW R R R (q_movD R ?_))))
    obtain ⟨p6, ip6, h⟩ := bnd h
    refine r_slRowHT (t5) tb R R R R R R R ((natO_eq ip6).1) ((natO_eq ip6).2) R R ?_
    refine r_asgW R R R (eN (sw_ret (block_ret (then_ret (then_ret (block_ret (then_ret ?_)))))))
    obtain rfl := sI h
    exact f2 [0] (.row R .nil) R (.cons (.tmp 4) .nil) R
   replace h := ifN c10 h
   refine r_slRowLo tb R R R R R R ((natO_eq ip5).1) (by have := (natO_eq ip5).2; omega) R R ?_
   obtain ⟨t7, it7, h⟩ := bnd h
   refine r_clearP (g := FrReport.d) (a0 := (FrReport.mk 0 0 0 false ([] : List Int))) tb R R R R R ((.aggc (.same _) (.aggc (.same _) (.aggc (.same _) (.aggc (.same _) (.aggc (.nil _) .agg0)))))) R R R R R it7 R R ?_
   dsimp only [List.set_cons_zero, List.set_cons_succ]
   first | rw [clrPO_len it7] | skip
   refine eN (qG (r_movW R R R (q_movD R ?_)))
   obtain ⟨p7, ip7, h⟩ := bnd h
   refine r_slRowHT (t7) tb R R R R R R R ((natO_eq ip7).1) ((natO_eq ip7).2) R R ?_
   refine r_asgW R R R (eN (sw_ret (block_ret (then_ret (then_ret (block_ret (then_ret ?_)))))))
   obtain rfl := sI h
   exact f2 [0] (.row R .nil) R (.cons (.tmp 4) .nil) R
  intro c3
  replace h := ifF c3 h
  refine ev_endD (by kernel_rfl) (then_norm (sw_condF R (sw_skip (block_norm (then_norm (sw_rg (q_movD R (q_add R (q_asgD R (eN ?_))))))))))
  exact ⟨m6, _, Nat.lt_succ_self _, .prn [0, 1, 4, 5] R, (W (a + 1)), h, R⟩
 intro c2
 replace h := ifN (Int.not_lt.2 c2) h
 refine eN (sw_condF R (sw_exit (then_exit (then_exit ?_))))
 subst hK6
 refine block_exit (then_norm (qG (r_movW R R R (r_asgW R R R (eN (sw_ret ?_))))))
 obtain rfl := sI h
 exact f2 [0] (.row R .nil) R (.cons (.tmp 4) .nil) R
namespace Dd
open Go.RowKit
def cmpI (x y : Int) : Int := if x < y then -1 else if y < x then 1 else 0
theorem isNaN_any (x : Int) (w : World) : Calls Try.prog 112 #[.int .i64 x] w fun e w' => e = .returned (.bool false) ∧ w' = w := by
  go_enter Try.func112, Try.ntmps112
  go_wp2
  go_ret
  exact ⟨by simp, rfl⟩
theorem cmp_any (x y : Int) (w : World) : Calls Try.prog 97 #[.int .i64 x, .int .i64 y] w fun e w' => e = .returned (.int .i64 (cmpI x y)) ∧ w' = w := by
  have h1 := fun W => isNaN_any x W
  have h2 := fun W => isNaN_any y W
  unfold cmpI
  by_cases hxy : x < y
  · rw [if_pos hxy]
    go_enter Try.func97, Try.ntmps97
    go_wp2_with (go_at_call 112; first | (refine (h1 _).mono ?_; rintro e w' ⟨rfl, rfl⟩) | (refine (h2 _).mono ?_; rintro e w' ⟨rfl, rfl⟩))
    go_ret
    exact ⟨rfl, rfl⟩
  · rw [if_neg hxy]
    by_cases hyx : y < x
    · rw [if_pos hyx]
      go_enter Try.func97, Try.ntmps97
      go_wp2_with (go_at_call 112; first | (refine (h1 _).mono ?_; rintro e w' ⟨rfl, rfl⟩) | (refine (h2 _).mono ?_; rintro e w' ⟨rfl, rfl⟩))
      go_ret
      exact ⟨rfl, rfl⟩
    · rw [if_neg hyx]
      go_enter Try.func97, Try.ntmps97
      go_wp2_with (go_at_call 112; first | (refine (h1 _).mono ?_; rintro e w' ⟨rfl, rfl⟩) | (refine (h2 _).mono ?_; rintro e w' ⟨rfl, rfl⟩))
      go_ret
      exact ⟨rfl, rfl⟩

def or3 (x y z : Int) : Int := if x ≠ 0 then x else if y ≠ 0 then y else z
set_option maxHeartbeats 2000000 in
theorem or_any (b cap : Nat) (x y z : Int) (W : World) (h0 : W.cell? ⟨b, 0, none⟩ = some (.int .i64 x)) (h1 : W.cell? ⟨b, 1, none⟩ = some (.int .i64 y)) (h2 : W.cell? ⟨b, 2, none⟩ = some (.int .i64 z)) : Calls Try.prog 96 #[.slice (some ⟨b, 0, none⟩) 3 cap] W fun e w' => e = .returned (.int .i64 (or3 x y z)) ∧ w' = W := by
  have hz0 : (x != 0) = decide (x ≠ 0) := by by_cases h : x = 0 <;> simp [h]
  unfold or3
  by_cases hx : x = 0
  · by_cases hy : y = 0
    · by_cases hz : z = 0
      · subst hx hy hz
        go_enter Try.func96, Try.ntmps96
        go_wp2
        refine wp_loop_rounds 4 ?_
        rw [rounds_succ]; go_wp2
        rw [rounds_succ]; go_wp2
        rw [rounds_succ]; go_wp2
        rw [rounds_succ]; go_wp2
        go_ret
        exact ⟨by simp, rfl⟩
      · subst hx hy
        have hz' : (z != 0) = true := by simp [hz]
        go_enter Try.func96, Try.ntmps96
        go_wp2
        refine wp_loop_rounds 4 ?_
        rw [rounds_succ]; go_wp2
        rw [rounds_succ]; go_wp2
        rw [rounds_succ]; go_wp2
        go_ret
        exact ⟨by simp, rfl⟩
    · subst hx
      have hy' : (y != 0) = true := by simp [hy]
      go_enter Try.func96, Try.ntmps96
      go_wp2
      refine wp_loop_rounds 4 ?_
      rw [rounds_succ]; go_wp2
      rw [rounds_succ]; go_wp2
      go_ret
      exact ⟨by simp [hy], rfl⟩
  · have hx' : (x != 0) = true := by simp [hx]
    go_enter Try.func96, Try.ntmps96
    go_wp2
    refine wp_loop_rounds 4 ?_
    rw [rounds_succ]; go_wp2
    go_ret
    exact ⟨by simp [hx], rfl⟩

abbrev RpK := Int × Int × Int × Bool × Option Addr × Nat × Nat
def rpE (x : RpK) : List Value := [.int .i64 x.1, .int .i64 x.2.1, .int .i64 x.2.2.1, .bool x.2.2.2.1, .slice x.2.2.2.2.1 x.2.2.2.2.2.1 x.2.2.2.2.2.2]
def SoL (x y z : Int) (v : Value) (w : World) : Prop := ∃ b n, v = .slice (some ⟨b, 0, none⟩) 3 n ∧ w.cell? ⟨b, 0, none⟩ = some (.int .i64 x) ∧ w.cell? ⟨b, 1, none⟩ = some (.int .i64 y) ∧ w.cell? ⟨b, 2, none⟩ = some (.int .i64 z)
def rpC (x y : RpK) : Int := or3 (cmpI x.1 y.1) (cmpI y.2.2.1 x.2.2.1) (cmpI x.2.1 y.2.1)
set_option maxHeartbeats 4000000 in
theorem clo_any (x y : RpK) (W0 : World) : Calls Try.prog 95 #[.agg (rpE x).toArray, .agg (rpE y).toArray] W0 fun e w' => e = .returned (.int .i64 (rpC x y)) ∧ Ext W0 w' := by
  obtain ⟨x1, x2, x3, x4, x5, x6, x7⟩ := x
  obtain ⟨y1, y2, y3, y4, y5, y6, y7⟩ := y
  simp only [rpE, rpC]
  go_enter Try.func95, Try.ntmps95
  go_upto_region 1 with (fail)
  have hE0 : Ext W0 ((W0.alloc (.cells #[.int .i64 x1, .int .i64 x2, .int .i64 x3, .bool x4, .slice x5 x6 x7] 97)).alloc (.cells #[.int .i64 y1, .int .i64 y2, .int .i64 y3, .bool y4, .slice y5 y6 y7] 97)) := ((Ext.refl W0).alloc _).alloc _
  have c0 : ((W0.alloc (.cells #[.int .i64 x1, .int .i64 x2, .int .i64 x3, .bool x4, .slice x5 x6 x7] 97)).alloc (.cells #[.int .i64 y1, .int .i64 y2, .int .i64 y3, .bool y4, .slice y5 y6 y7] 97)).cell? ⟨W0.heap.size, 0, none⟩ = some (.int .i64 x1) := by simp
  have c1 : ((W0.alloc (.cells #[.int .i64 x1, .int .i64 x2, .int .i64 x3, .bool x4, .slice x5 x6 x7] 97)).alloc (.cells #[.int .i64 y1, .int .i64 y2, .int .i64 y3, .bool y4, .slice y5 y6 y7] 97)).cell? ⟨W0.heap.size, 1, none⟩ = some (.int .i64 x2) := by simp
  have c2 : ((W0.alloc (.cells #[.int .i64 x1, .int .i64 x2, .int .i64 x3, .bool x4, .slice x5 x6 x7] 97)).alloc (.cells #[.int .i64 y1, .int .i64 y2, .int .i64 y3, .bool y4, .slice y5 y6 y7] 97)).cell? ⟨W0.heap.size, 2, none⟩ = some (.int .i64 x3) := by simp
  have c3 : ((W0.alloc (.cells #[.int .i64 x1, .int .i64 x2, .int .i64 x3, .bool x4, .slice x5 x6 x7] 97)).alloc (.cells #[.int .i64 y1, .int .i64 y2, .int .i64 y3, .bool y4, .slice y5 y6 y7] 97)).cell? ⟨W0.heap.size + 1, 0, none⟩ = some (.int .i64 y1) := by simp
  have c4 : ((W0.alloc (.cells #[.int .i64 x1, .int .i64 x2, .int .i64 x3, .bool x4, .slice x5 x6 x7] 97)).alloc (.cells #[.int .i64 y1, .int .i64 y2, .int .i64 y3, .bool y4, .slice y5 y6 y7] 97)).cell? ⟨W0.heap.size + 1, 1, none⟩ = some (.int .i64 y2) := by simp
  have c5 : ((W0.alloc (.cells #[.int .i64 x1, .int .i64 x2, .int .i64 x3, .bool x4, .slice x5 x6 x7] 97)).alloc (.cells #[.int .i64 y1, .int .i64 y2, .int .i64 y3, .bool y4, .slice y5 y6 y7] 97)).cell? ⟨W0.heap.size + 1, 2, none⟩ = some (.int .i64 y3) := by simp
  generalize ((W0.alloc (.cells #[.int .i64 x1, .int .i64 x2, .int .i64 x3, .bool x4, .slice x5 x6 x7] 97)).alloc (.cells #[.int .i64 y1, .int .i64 y2, .int .i64 y3, .bool y4, .slice y5 y6 y7] 97)) = w1 at *
  apply wp_region_f (5 :: 6 :: 7 :: 8 :: 9 :: 10 :: 11 :: 12 :: 13 :: 14 :: 15 :: 16 :: 17 :: 18 :: 19 :: 20 :: 21 :: 4 :: [])
    (.is _ :: .is _ :: .is _ :: .is _ :: .is _ :: .is _ :: .is _ :: .is _ :: .is _ :: .is _ :: .is _ :: .is _ :: .is _ :: .is _ :: .is _ :: .so (SoL (cmpI x1 y1) (cmpI y3 x3) (cmpI x2 y2)) :: .is _ :: .is _ :: [])
    [(2, _), (3, _)]
  · kernel_rfl
  · decide
  · rfl
  · kernel_rfl
  · decide +kernel
  · kernel_rfl
  · kernel_rfl
  · kernel_rfl
  · kernel_rfl
  · rfl
  · exact ⟨trivial, trivial, trivial, trivial, trivial, trivial, trivial, trivial, trivial, trivial, trivial, trivial, trivial, trivial, trivial, fun v A B h k => by obtain ⟨b, n, h, h0, h1, h2⟩ := h; exact ⟨b, n, h, k.cell h0, k.cell h1, k.cell h2⟩, trivial, trivial, trivial⟩
  · refine ⟨?_, ?_, trivial⟩ <;> (simp; rfl)
  · repeat
      refine ⟨?_, ?_⟩
      · intro F W hF hd hR
        simp [fixedAt] at hF
        obtain ⟨t2, t3⟩ := hF
        simp [Region.binds, Ent.holds] at hd
        refine ⟨fun _ K hK => ?_, by intro g b h hn; first | (cases h; done) | (cases h; exact absurd (by simp [hd]) hn)⟩
        simp only [Ent.holds, List.getD_cons_zero, List.getD_cons_succ] at hK
        have q0 := hR.cell c0
        have q1 := hR.cell c1
        have q2 := hR.cell c2
        have q3 := hR.cell c3
        have q4 := hR.cell c4
        have q5 := hR.cell c5
        go_simp
        first
          | exact hK _ _ rfl (Ext.refl _)
          | (refine (cmp_any _ _ _).mono ?_
             rintro e w' ⟨rfl, rfl⟩
             exact hK _ _ rfl (Ext.refl _))
          | (exact hK _ _ ⟨_, _, rfl, by simp, by simp, by simp⟩ ((Ext.refl _).alloc _))
          | (obtain ⟨b', n', hs, k0, k1, k2⟩ := hd.1
             simp only [hs]
             refine (or_any _ _ _ _ _ _ k0 k1 k2).mono ?_
             rintro e w' ⟨rfl, rfl⟩
             exact hK _ _ rfl (Ext.refl _))
    exact trivial
  intro X W hx hR
  simp only [toldX] at hx
  simp only [fillX, List.setIfInBounds_toArray, List.set_cons_succ, List.set_cons_zero]
  clear hx
  go_wp2_with fail
  go_ret
  exact ⟨rfl, hE0.trans hR⟩
theorem ext_grow {w w' : World} (h : Ext w w') : ∃ q os', w' = Go.Sort.grow (w.drewN q) os' := by
  obtain ⟨hb, hd⟩ := h
  obtain ⟨⟨d, os⟩, e⟩ := Go.regrown_of_below hb
  have hd' : w'.drawn = d := by rw [e]; rfl
  refine ⟨d - w.drawn, os, ?_⟩
  rw [e]
  have : w.drawn + (d - w.drawn) = d := by omega
  show Go.Sort.grow (Go.redrawn w d) os = _
  unfold Go.redrawn World.drewN
  rw [this]
theorem cmpLays_rp (blk off size : Nat) (w : World) : CmpLays Try.prog 95 #[] rpE 5 rpC blk off size w := fun _ _ _ _ x y => (clo_any x y _).mono fun _ _ ⟨h1, h2⟩ => ⟨h1, ext_grow h2⟩

end Dd
open Go.Shelf in
shelf_lay_g SlLaysF0.n6 Slsf 6 at Try 94 as Try.sortRp
def rpLt (x y : FrReport) : Bool := decide (x.number < y.number) || (decide (x.number = y.number) && (decide (y.agree < x.agree) || (decide (x.agree = y.agree) && decide (x.from_ < y.from_))))
theorem rpLt_iff (x y : FrReport) : rpLt x y = true ↔ x.number < y.number ∨ (x.number = y.number ∧ (y.agree < x.agree ∨ (x.agree = y.agree ∧ x.from_ < y.from_))) := by simp [rpLt]
theorem rpLt_as : LtOk rpLt where
 asym x y h := by
  rw [rpLt_iff] at h
  cases h2 : rpLt y x with
  | false => rfl
  | true => rw [rpLt_iff] at h2; omega
 nt x y z h1 h2 := by
  cases h3 : rpLt x z with
  | false => rfl
  | true =>
   have h1 : ¬ rpLt x y = true := by rw [h1]; exact Bool.false_ne_true
   have h2 : ¬ rpLt y z = true := by rw [h2]; exact Bool.false_ne_true
   rw [rpLt_iff] at h1 h2 h3
   omega
theorem rpC_iff (a b : Dd.RpK) : Go.Proofs.ltOf Dd.rpC a b = true ↔ a.1 < b.1 ∨ (a.1 = b.1 ∧ (b.2.2.1 < a.2.2.1 ∨ (a.2.2.1 = b.2.2.1 ∧ a.2.1 < b.2.1))) := by
 unfold Go.Proofs.ltOf Dd.rpC Dd.or3 Dd.cmpI
 rw [decide_eq_true_iff]
 repeat' split
 all_goals omega
theorem rp_swo : Go.Sort.SWO (Go.Proofs.ltOf Dd.rpC) where
 irrefl x := by
  cases h : Go.Proofs.ltOf Dd.rpC x x with
  | false => rfl
  | true => rw [rpC_iff] at h; omega
 trans x y z h1 h2 := by rw [rpC_iff] at h1 h2 ⊢; omega
 ntrans x y z h1 h2 := by
  cases h3 : Go.Proofs.ltOf Dd.rpC x z with
  | false => rfl
  | true =>
   have h1 : ¬ Go.Proofs.ltOf Dd.rpC x y = true := by rw [h1]; exact Bool.false_ne_true
   have h2 : ¬ Go.Proofs.ltOf Dd.rpC y z = true := by rw [h2]; exact Bool.false_ne_true
   rw [rpC_iff] at h1 h2 h3
   omega
theorem rp_dec (g : G) (x : FrReport) (cs : List Value) (h : VTs g ((FrReport.d x).cells.map .d) cs) (hl : cs.length = 5) : ∃ a : Dd.RpK, Dd.rpE a = cs ∧ (a.1 = x.number ∧ a.2.1 = x.from_ ∧ a.2.2.1 = x.agree) := by
 match cs, hl with
 | [c0, c1, c2, c3, c4], _ =>
  have h0 := (h.2 0 _ c0 rfl rfl).v_eq
  have h1 := (h.2 1 _ c1 rfl rfl).v_eq
  have h2 := (h.2 2 _ c2 rfl rfl).v_eq
  have h3 := (h.2 3 _ c3 rfl rfl).v_eq
  have h4 : ∃ a n q, c4 = .slice a n q := by
   have := h.2 4 (.d (.arr 1 (x.words.map vI))) c4 rfl rfl
   cases this with | d h5 =>
   generalize hd : D.arr 1 (x.words.map vI) = dd at h5
   cases h5 with
   | arr0 s a cap => exact ⟨_, _, _, rfl⟩
   | arr s l b off cap f hc hK hs hw hv => exact ⟨_, _, _, rfl⟩
   | _ => cases hd
  obtain ⟨a, n, q, rfl⟩ := h4
  exact ⟨(x.number, x.from_, x.agree, x.marked, a, n, q), by rw [h0, h1, h2, h3]; rfl, rfl, rfl, rfl⟩
theorem frame_sort_scr {l r : List FrReport} (h : srtO rpLt l = some r) : SCR Try.prog 94 [.row 0 5 0 l.length, .d (.v (.func (.func 95) #[] #[]))] [some (lFrReportd l)] (.d (.tup [])) [some (lFrReportd r)] := by
 have := sort_row (P := Try.prog) Try.sortRp 5 (by decide) Try.isAgg97 Try.sizeOf97 Dd.rpE (fun _ => rfl) (fun x v hv => by simp [Dd.rpE] at hv; rcases hv with rfl | rfl | rfl | rfl | rfl <;> rfl) Dd.rpC rp_swo 95 (Go.Proofs.enters_of Try.func95 (by kernel_rfl) rfl) (fun _ _ _ _ => Dd.cmpLays_rp _ _ _ _) FrReport.d (fun x a => a.1 = x.number ∧ a.2.1 = x.from_ ∧ a.2.2.1 = x.agree) rp_dec (fun _ => rfl) (fun x y => rpLt x y = true) (fun x y a b ⟨h1, h2, h3⟩ ⟨k1, k2, k3⟩ hab hxy => by
  have : Go.Proofs.ltOf Dd.rpC a b = true := by rw [rpC_iff, h1, h2, h3, k1, k2, k3]; exact (rpLt_iff x y).1 hxy
  rw [hab] at this; cases this) l (srt_lt h)
 exact this.mono fun se X ⟨h1, r', hp, hw, hX⟩ => ⟨h1, by rw [hX, srt_one rpLt_as h hp hw]⟩
def frame_Merge_L1 (F : Nat) (x : Int) (rv3 : ((List FrFrame) × (List Int) × Int)) (K : Int → KL → Option ((List FrReport) × Int)) : Nat → Int → KL → Option ((List FrReport) × Int)
 | 0, _, _ => none
 | n + 1, x2, A2 => if x2 < (rv3.1.length : Int) then (Option.bind (ixO rv3.1 x2) fun e2 => Option.bind (ixO rv3.2.1 x2) fun e3 => if keyB 33 (keyF 32 e3 e2.words) = true then (Option.bind (appO (kget A2 (keyF 32 e3 e2.words)) [x]) fun q => frame_Merge_L1 F x rv3 K n (W (x2 + 1)) (kput A2 (keyF 32 e3 e2.words) q)) else none) else (K x2 A2)
def frame_Merge_L2 (F : Nat)  (K : (List FrReport) → Int → Int → Option ((List FrReport) × Int)) : Nat → (List FrReport) → Int → Int → Option ((List FrReport) × Int)
 | 0, _, _, _ => none
 | n + 1, rv5, x3, x4 => if x4 < x3 then (if (W (x4 + 1)) < (rv5.length : Int) then (Option.bind (ixO rv5 (W (x4 + 1))) fun e6 => Option.bind (ixO rv5 x4) fun e7 => Option.bind (setO rv5 x4 {e7 with marked := (decide (e6.number = e7.number))}) fun rv6 => frame_Merge_L2 F K n rv6 x3 (W (x4 + 1))) else (Option.bind (ixO rv5 x4) fun e8 => Option.bind (setO rv5 x4 {e8 with marked := false}) fun rv7 => frame_Merge_L2 F K n rv7 x3 (W (x4 + 1)))) else (K rv5 x3 x4)
def frame_Merge_B (F : Nat) (t : FrFormat) (kx lx : List Int) (rs : List FrReport) : Option (List FrReport) := if kx.length = 33 then (Option.bind (ixO kx 0) fun e4 => Option.bind (ixO lx 0) fun e5 => Option.bind (cutO kx 1 (W (1 + t.words))) fun q4 => Option.bind (slices_Clone_int F q4) fun rv4 => Option.bind (appO rs [(FrReport.mk e4 e5 (lx.length : Int) false rv4)]) fun q5 => some q5) else none
def frame_Merge_R (F : Nat) (t : FrFormat) (kx lx : List Int) : Option FrReport := if kx.length = 33 then (Option.bind (ixO kx 0) fun e4 => Option.bind (ixO lx 0) fun e5 => Option.bind (cutO kx 1 (W (1 + t.words))) fun q4 => Option.bind (slices_Clone_int F q4) fun rv4 => some (FrReport.mk e4 e5 (lx.length : Int) false rv4)) else none
theorem frame_Merge_of {F : Nat} {t : FrFormat} {kx lx : List Int} {rs : List FrReport} {b : FrReport} (h : frame_Merge_R F t kx lx = some b) (hl : rs.length + 1 ≤ 1000000000) : frame_Merge_B F t kx lx rs = some (rs ++ [b]) := by
 unfold frame_Merge_R at h; unfold frame_Merge_B
 split at h
 ·rename_i c
  rw [if_pos c]
  obtain ⟨x, hx, h⟩ := Option.bind_eq_some_iff.1 h; rw [hx]; simp only [Option.bind_some]; clear hx
  obtain ⟨x, hx, h⟩ := Option.bind_eq_some_iff.1 h; rw [hx]; simp only [Option.bind_some]; clear hx
  obtain ⟨x, hx, h⟩ := Option.bind_eq_some_iff.1 h; rw [hx]; simp only [Option.bind_some]; clear hx
  obtain ⟨x, hx, h⟩ := Option.bind_eq_some_iff.1 h; rw [hx]; simp only [Option.bind_some]; clear hx
  injection h with h; subst h
  simp [appO, hl]
 ·cases h
def frame_Merge_L3 (F : Nat) (t : FrFormat) (o : (List FrTape)) (K : Int → Int → KL → Option ((List FrReport) × Int)) : Nat → Int → Int → KL → Option ((List FrReport) × Int)
 | 0, _, _, _ => none
 | n + 1, a, x, A => if x < (o.length : Int) then (Option.bind (ixO o x) fun e => Option.bind (frame_tape F t e) fun rv2 => if rv2 = 0 then (Option.bind (frame_read F t e) fun rv3 => if rv3.2.2 = 0 then (frame_Merge_L1 F x rv3 (fun (x2 : Int) (A2 : KL) => frame_Merge_L3 F t o K n rv2 (W (x + 1)) A2) F 0 A) else (some (([] : List FrReport), rv3.2.2))) else (some (([] : List FrReport), rv2))) else (K a x A)
def frame_Merge (F : Nat) (t : FrFormat) (o : (List FrTape)) : Option ((List FrReport) × Int) := Option.bind (frame_Check F t) fun rv => if rv.2.2 = 0 then (if 4 < (o.length : Int) then (some (([] : List FrReport), 3)) else (frame_Merge_L3 F t o (fun (a : Int) (x : Int) (A : KL) => if A.length ≤ 1000000000 then (Option.bind (Option.bind (hrgO (frame_Merge_R F t) A) (srtO rpLt)) fun q3 => frame_Merge_L2 F (fun (rv5 : (List FrReport)) (x3 : Int) (x4 : Int) => Option.bind (slices_CompactFunc_FrReport_m_frame_Merge_2 F rv5) fun rv8 => Option.bind (lnO rv8.2.length rv5.length) fun u => Option.bind (preO rv8.1 rv8.2) fun q6 => some (q6, 0)) F q3 (q3.length : Int) 0) else none) F rv.2.2 0 ([] : KL))) else (some (([] : List FrReport), rv.2.2))
theorem frame_Merge_scr {F : Nat} {t : FrFormat} {o : (List FrTape)} {r : ((List FrReport) × Int)} (h : frame_Merge F t o = some r) : SCR Try.prog 47 (List.map T.d [FrFormat.d t, .arr 2 ((o).map FrTape.d)]) [] (.tup [.row 0 5 0 (r.1).length, .d (.v (.int .i64 r.2))]) (List.map some [(lFrReportd r.1)]) := by
 rw [frame_Merge] at h
 refine SC.of_sw Try.func47 R R R ?_
 dsimp only [argS, List.map]
 refine qG (q_box R (q_asgD R (q_asgD R (eN (sw_seq (qG (q_ldD (y := FrFormat.d t) tb R ?_)))))))
 obtain ⟨rv, hrv, h⟩ := bnd h
 refine r_call (frame_Check_pc hrv) (.of (by kernel_rfl)) R R R R (q_movD R (r_extD (t := vI rv.1) R R R R (r_extD (t := vI rv.2.1) R R R R (r_extD (t := vI rv.2.2) R R R R (q_asgD R (eN (qG (q_movD R ?_))))))))
 refine r_neq R R R R ?_ ?_
 ·intro c
  replace h := ifN c h
  refine eN (sw_condT R (qG (q_movD R (q_asgD R (q_asgD R (eN ?_))))))
  refine SW.own (ts' := [(4, .row 1 5 0 (([] : List FrReport)).length), (5, .d (vI rv.2.2))]) (L' := [some ⟨4, [.d (FrFormat.d t)]⟩]) 5 R R (.cons .nil (.cons (.same _) .nil)) (.same .nil) ?_
  simp only [List.cons_append, List.nil_append]
  refine sw_ret (then_ret ?_)
  obtain rfl := sI h
  exact f2 [1] (.row R .nil) R (.cons (.tmp 4) (.cons (.tmp 5) .nil)) R
 intro c
 replace h := ifP c h
 refine eN (sw_condF R (sw_skip (then_norm (sw_seq (qG (q_movD R (q_lenM tb R ?_)))))))
 refine r_gtr R R R R ?_ ?_
 ·intro c2
  replace h := ifP c2 h
  refine eN (sw_condT R (qG (q_asgD R (q_asgD R (eN ?_)))))
  refine SW.own (ts' := [(4, .row 1 5 0 (([] : List FrReport)).length), (5, .d (vI 3))]) (L' := [some ⟨4, [.d (FrFormat.d t)]⟩]) 5 R R (.cons .nil (.cons (.same _) .nil)) (.same .nil) ?_
  simp only [List.cons_append, List.nil_append]
  refine sw_ret (then_ret ?_)
  obtain rfl := sI h
  exact f2 [1] (.row R .nil) R (.cons (.tmp 4) (.cons (.tmp 5) .nil)) R
 intro c2
 replace h := ifN (Int.not_lt.2 c2) h
 refine eN (sw_condF R (sw_skip (then_norm ?_)))
 refine SW.hide 159 fun gs => ?_
 with_reducible apply swx_seq
 with_reducible apply swx_rg
 with_reducible apply rgx_ev
 refine ev_x ?_
 refine rgx_make R fun bm => ?_
 with_reducible apply rgx_ev
 refine q_asgD R (ev_endX ?_)
 with_reducible apply thenx_norm
 with_reducible apply swx_seq
 with_reducible apply swx_seq
 with_reducible apply swx_rg
 with_reducible apply rgx_ev
 refine q_movD R (q_lenM tb R (q_movD R (ev_endX ?_)))
 with_reducible apply thenx_norm
 with_reducible apply swx_block
 obtain ⟨K1, hK1, h⟩ : ∃ K, K = _ ∧ frame_Merge_L3 F t o K F rv.2.2 0 ([] : KL) = some r := ⟨_, rfl, h⟩
 refine swx_loopS (fun m gx st => ∃ (a : Int) (x : Int) (A : KL), frame_Merge_L3 F t o K1 m a x A = some r ∧ gx = Gh.mp bm A ∧ st = ⟨[(2, .ref 0 4 0 0), (4, .d (.v (.slice none 0 0))), (5, .d (vI a)), (6, .d (.v (.map (some bm)))), (31, .d (.arr 2 ((o).map FrTape.d))), (32, .d (vI (o.length : Int))), (33, .d (vI x))], [some ⟨4, [.d (FrFormat.d t)]⟩]⟩) (.prn [2, 4, 5, 6, 31, 32, 33] R) ⟨rv.2.2, 0, ([] : KL), h, R, R⟩ ?_
 clear h
 rintro m1 gx st ⟨a, x, A, h, rfl, rfl⟩
 cases m1 with
 | zero => cases (show (none : Option ((List FrReport) × Int)) = some r from h)
 | succ m1 =>
 rw [frame_Merge_L3] at h
 with_reducible apply swx_seq
 with_reducible apply swx_rg
 with_reducible apply rgx_ev
 refine r_lss R R R R ?_ ?_
 ·intro c3
  replace h := ifP c3 h
  refine ev_endX ?_
  with_reducible apply thenx_norm
  with_reducible apply swx_seq
  refine swx_condT R ?_
  with_reducible apply swx_skip
  with_reducible apply thenx_norm
  with_reducible apply swx_seq
  with_reducible apply swx_block
  with_reducible apply swx_seq
  with_reducible apply swx_rg
  with_reducible apply rgx_ev
  refine q_movD R ?_
  obtain ⟨e, ie, h⟩ := bnd h
  refine q_ixE tb (ix0 ie) (ix1m ie) R (q_ldE (y := FrTape.d e) tb (ix2 (g := FrTape.d) ie) R (r_alloc tb R R R R R (q_asgD R (q_stE _ _ tb R (ev_endX ?_)))))
  with_reducible apply thenx_norm
  with_reducible apply swx_seq
  with_reducible apply swx_seq
  with_reducible apply swx_rg
  with_reducible apply rgx_ev
  refine q_ldD (y := FrFormat.d t) tb R (q_ldD (y := FrTape.d e) tb R ?_)
  obtain ⟨rv2, hrv2, h⟩ := bnd h
  refine r_call (frame_tape_pc hrv2) (.of (by kernel_rfl)) R R R R (q_asgD R (ev_endX ?_))
  with_reducible apply thenx_norm
  with_reducible apply swx_seq
  with_reducible apply swx_rg
  with_reducible apply rgx_ev
  refine q_movD R ?_
  refine r_neq R R R R ?_ ?_
  ·intro c4
   replace h := ifN c4 h
   refine ev_endX ?_
   with_reducible apply thenx_norm
   refine swx_condT R ?_
   with_reducible apply swx_seq
   with_reducible apply swx_rg
   with_reducible apply rgx_ev
   refine q_movD R (q_asgD R (q_asgD R (ev_endX ?_)))
   with_reducible apply thenx_norm
   refine SWX.own (ts' := [(4, .row 2 5 0 (([] : List FrReport)).length), (5, .d (vI rv2))]) (L' := [some ⟨4, [.d (FrFormat.d t)]⟩, some ⟨2, [.d (FrTape.d e)]⟩]) 5 R R (.cons .nil (.cons (.same _) .nil)) (.same (.same .nil)) ?_
   simp only [List.cons_append, List.nil_append]
   with_reducible apply swx_ret
   with_reducible apply thenx_ret
   with_reducible apply blockx_ret
   with_reducible apply thenx_ret
   with_reducible apply thenx_ret
   with_reducible apply blockx_ret
   with_reducible apply thenx_ret
   obtain rfl := sI h
   exact f2 [2] (.row R .nil) R (.cons (.tmp 4) (.cons (.tmp 5) .nil)) R
  intro c4
  replace h := ifP c4 h
  refine ev_endX ?_
  with_reducible apply thenx_norm
  refine swx_condF R ?_
  with_reducible apply swx_skip
  with_reducible apply thenx_norm
  with_reducible apply swx_seq
  with_reducible apply swx_rg
  with_reducible apply rgx_ev
  refine q_ldD (y := FrFormat.d t) tb R (q_ldD (y := FrTape.d e) tb R ?_)
  obtain ⟨rv3, hrv3, h⟩ := bnd h
  refine r_callN (t' := .tup [.row 2 3 0 (rv3.1).length, .row 3 1 0 (rv3.2.1).length, .d (vI rv3.2.2)]) (news' := [(lFrFramed rv3.1), (lvI rv3.2.1)]) (frame_read_scr hrv3) (.of (by kernel_rfl)) R R R ((.row (.row .nil))) R R R (r_movT (.tup [.row 2 3 0 (rv3.1).length, .row 3 1 0 (rv3.2.1).length, .d (vI rv3.2.2)]) R R R (r_ext (t := .row 2 3 0 (rv3.1).length) R R R R (r_ext (t := .row 3 1 0 (rv3.2.1).length) R R R R (r_ext (t := .d (vI rv3.2.2)) R R R R (r_asgW R R R (r_asgW R R R ?_))))))
  refine q_asgD R (ev_endX ?_)
  with_reducible apply thenx_norm
  with_reducible apply swx_seq
  with_reducible apply swx_seq
  with_reducible apply swx_rg
  with_reducible apply rgx_ev
  refine q_movD R ?_
  refine r_neq R R R R ?_ ?_
  ·intro c5
   replace h := ifN c5 h
   refine ev_endX ?_
   with_reducible apply thenx_norm
   refine swx_condT R ?_
   with_reducible apply swx_seq
   with_reducible apply swx_rg
   with_reducible apply rgx_ev
   refine q_movD R (q_asgD R (q_asgD R (ev_endX ?_)))
   with_reducible apply thenx_norm
   refine SWX.own (ts' := [(4, .row 4 5 0 (([] : List FrReport)).length), (5, .d (vI rv3.2.2))]) (L' := [some ⟨4, [.d (FrFormat.d t)]⟩, some ⟨2, [.d (FrTape.d e)]⟩, some (lFrFramed rv3.1), some (lvI rv3.2.1)]) 5 R R (.cons .nil (.cons (.same _) .nil)) (.same (.same (.same (.same .nil)))) ?_
   simp only [List.cons_append, List.nil_append]
   with_reducible apply swx_ret
   with_reducible apply thenx_ret
   with_reducible apply blockx_ret
   with_reducible apply thenx_ret
   with_reducible apply thenx_ret
   with_reducible apply blockx_ret
   with_reducible apply thenx_ret
   obtain rfl := sI h
   exact f2 [4] (.row R .nil) R (.cons (.tmp 4) (.cons (.tmp 5) .nil)) R
  intro c5
  replace h := ifP c5 h
  refine ev_endX ?_
  with_reducible apply thenx_norm
  refine swx_condF R ?_
  with_reducible apply swx_skip
  with_reducible apply thenx_norm
  with_reducible apply swx_seq
  with_reducible apply swx_rg
  with_reducible apply rgx_ev
  refine r_movW R R R (r_lenR tb R R R R R (q_movD R (ev_endX ?_)))
  with_reducible apply thenx_norm
  with_reducible apply swx_block
  obtain ⟨K2, hK2, h⟩ : ∃ K, K = _ ∧ frame_Merge_L1 F x rv3 K F 0 A = some r := ⟨_, rfl, h⟩
  refine swx_loopS (st0 := ⟨[(2, .ref 0 4 0 0), (4, .d (.v (.slice none 0 0))), (5, .d (vI rv2)), (6, .d (.v (.map (some bm)))), (7, .d (vI x)), (10, .row 1 1 0 (rv3.2.1).length), (31, .d (.arr 2 ((o).map FrTape.d))), (32, .d (vI (o.length : Int))), (33, .d (vI x)), (54, .row 2 3 0 (rv3.1).length), (55, .d (vI (rv3.1.length : Int))), (56, .d (vI 0))], [some ⟨4, [.d (FrFormat.d t)]⟩, some (lvI rv3.2.1), some (lFrFramed rv3.1)]⟩) (fun m gx st => ∃ (x2 : Int) (A2 : KL), frame_Merge_L1 F x rv3 K2 m x2 A2 = some r ∧ gx = Gh.mp bm A2 ∧ st = ⟨[(2, .ref 0 4 0 0), (4, .d (.v (.slice none 0 0))), (5, .d (vI rv2)), (6, .d (.v (.map (some bm)))), (7, .d (vI x)), (10, .row 1 1 0 (rv3.2.1).length), (31, .d (.arr 2 ((o).map FrTape.d))), (32, .d (vI (o.length : Int))), (33, .d (vI x)), (54, .row 2 3 0 (rv3.1).length), (55, .d (vI (rv3.1.length : Int))), (56, .d (vI x2))], [some ⟨4, [.d (FrFormat.d t)]⟩, some (lvI rv3.2.1), some (lFrFramed rv3.1)]⟩) (.vw (κ := [0, 3, 2]) (vK (.cons R R (.row R (.row R .nil))) R)) ⟨0, A, h, R, R⟩ ?_
  clear h
  rintro m2 gx st ⟨x2, A2, h, rfl, rfl⟩
  cases m2 with
  | zero => cases (show (none : Option ((List FrReport) × Int)) = some r from h)
  | succ m2 =>
  rw [frame_Merge_L1] at h
  with_reducible apply swx_seq
  with_reducible apply swx_rg
  with_reducible apply rgx_ev
  refine r_lss R R R R ?_ ?_
  ·intro c6
   replace h := ifP c6 h
   refine ev_endX ?_
   with_reducible apply thenx_norm
   with_reducible apply swx_seq
   refine swx_condT R ?_
   with_reducible apply swx_skip
   with_reducible apply thenx_norm
   with_reducible apply swx_seq
   with_reducible apply swx_block
   with_reducible apply swx_seq
   with_reducible apply swx_rg
   with_reducible apply rgx_ev
   refine q_movD R ?_
   obtain ⟨e2, ie2, h⟩ := bnd h
   refine r_ixI tb R R R R R R (ix0 ie2) (ix1 ie2) R R ?_
   refine r_ldD (y := FrFrame.d e2) tb R R R R (ix2 (g := fun a => T.d (FrFrame.d a)) ie2) R R R R ?_
   refine r_alloc tb R R R R R (q_asgD R (q_stE _ _ tb R (ev_endX ?_)))
   with_reducible apply thenx_norm
   with_reducible apply swx_seq
   with_reducible apply swx_rg
   with_reducible apply rgx_ev
   refine r_movW R R R (q_movD R ?_)
   obtain ⟨e3, ie3, h⟩ := bnd h
   refine r_ixI tb R R R R R R (ix0 ie3) (ix1 ie3) R R ?_
   refine r_ldD (y := vI e3) tb R R R R (ix2 (g := fun a => T.d (vI a)) ie3) R R R R ?_
   refine r_buildA (v := .d (.agg [vI e3, vI 0, vI 0, vI 0, vI 0, vI 0, vI 0, vI 0, vI 0, vI 0, vI 0, vI 0, vI 0, vI 0, vI 0, vI 0, vI 0, vI 0, vI 0, vI 0, vI 0, vI 0, vI 0, vI 0, vI 0, vI 0, vI 0, vI 0, vI 0, vI 0, vI 0, vI 0, vI 0])) tb R R R R R R R R R ?_
   refine ev_x ?_
   refine rgx_kalloc (k0 := List.replicate 33 0) (tb.ok _ _ R) R R fun bk => ?_
   with_reducible apply rgx_ev
   refine ev_x (rgx_kstore (k' := (e3 :: List.replicate 32 0)) (tb.ok _ _ R) R R R R ?_)
   with_reducible apply rgx_ev
   refine ev_endX ?_
   with_reducible apply thenx_norm
   with_reducible apply swx_seq
   refine swx_drL (by kernel_rfl) (r_kslice tb R R R R R R R R R (q_fa tb R (q_ldD (y := .arr 1 ((e2.words).map vI)) tb R ?_)))
   (refine ev_dl (by kernel_rfl) (by kernel_rfl) ?_)
   refine rgx_kcopy (v := e2.words) (tb.ok _ _ R) R (by kernel_rfl) R R R R ?_
   with_reducible apply rgx_nil
   with_reducible apply thenx_norm
   with_reducible apply swx_rg
   with_reducible apply rgx_ev
   refine q_movD R (ev_x (rgx_kload (tb.ok _ _ R) R (keyF_len _ _ _) R R ?_))
   with_reducible apply rgx_ev
   refine q_movD R (r_bslice tb R R R R R R R R R R R R R ?_)
   by_cases c7 : keyB 33 (keyF 32 e3 e2.words) = true
   rotate_left
   ·cases (if_neg c7).symm.trans h
   replace h := ifP c7 h
   refine ev_x ?_
   with_reducible apply rgx_unkey
   refine rgx_entry (k := (keyF 32 e3 e2.words)) key_law R (fun _ => rfl) R R (key_ok c7) R R ?_
   with_reducible apply rgx_ev
   refine r_ext (t := .row 5 1 0 ((kget A2 (keyF 32 e3 e2.words))).length) R R R R ?_
   obtain ⟨q, iq, h⟩ := bnd h
   refine r_apM (g := vI) (w := (kget A2 (keyF 32 e3 e2.words))) (v := [x]) ([some ⟨4, [.d (FrFormat.d t)]⟩, some (lvI rv3.2.1), some (lFrFramed rv3.1), some ⟨3, [.d (FrFrame.d e2)]⟩, some (lvI [x]), none]) tb R R R R R R R R R R R iq R R R R R (r_ext (t := .d (vI (kidx A2 (keyF 32 e3 e2.words) : Int))) R R R R (ev_x ?_))
   refine rgx_estore (k := (keyF 32 e3 e2.words)) (lst := kget A2 (keyF 32 e3 e2.words)) (l' := q) [some ⟨4, [.d (FrFormat.d t)]⟩, some (lvI rv3.2.1), some (lFrFramed rv3.1), some ⟨3, [.d (FrFrame.d e2)]⟩, some (lvI [x]), none, none] R R R R R (kadd_self _ _) R ?_
   with_reducible apply rgx_ev
   refine ev_endX ?_
   with_reducible apply blockx_norm
   with_reducible apply thenx_norm
   with_reducible apply swx_rg
   with_reducible apply rgx_ev
   refine q_add R (q_movD R (ev_endX ?_))
   with_reducible apply thenx_norm
   exact ⟨m2, ⟨[(2, .ref 0 4 0 0), (4, .d (.v (.slice none 0 0))), (5, .d (vI rv2)), (6, .d (.v (.map (some bm)))), (7, .d (vI x)), (10, .row 1 1 0 (rv3.2.1).length), (31, .d (.arr 2 ((o).map FrTape.d))), (32, .d (vI (o.length : Int))), (33, .d (vI x)), (54, .row 2 3 0 (rv3.1).length), (55, .d (vI (rv3.1.length : Int))), (56, .d (vI (W (x2 + 1))))], [some ⟨4, [.d (FrFormat.d t)]⟩, some (lvI rv3.2.1), some (lFrFramed rv3.1)]⟩, Nat.lt_succ_self _, .vw (κ := [0, 1, 2]) (vK (.cons R R (.row R (.row R .nil))) R), (W (x2 + 1)), (kput A2 (keyF 32 e3 e2.words) q), h, R, R⟩
  intro c6
  replace h := ifN (Int.not_lt.2 c6) h
  refine ev_endX ?_
  with_reducible apply thenx_norm
  with_reducible apply swx_seq
  refine swx_condF R ?_
  with_reducible apply swx_exit
  with_reducible apply thenx_exit
  with_reducible apply thenx_exit
  subst hK2
  with_reducible apply blockx_exit
  with_reducible apply blockx_norm
  with_reducible apply thenx_norm
  with_reducible apply swx_rg
  with_reducible apply rgx_ev
  refine q_add R (q_movD R (ev_endX ?_))
  with_reducible apply thenx_norm
  exact ⟨m1, ⟨[(2, .ref 0 4 0 0), (4, .d (.v (.slice none 0 0))), (5, .d (vI rv2)), (6, .d (.v (.map (some bm)))), (31, .d (.arr 2 ((o).map FrTape.d))), (32, .d (vI (o.length : Int))), (33, .d (vI (W (x + 1))))], [some ⟨4, [.d (FrFormat.d t)]⟩]⟩, Nat.lt_succ_self _, .vw (κ := [0]) (vK (.cons R R .nil) R), rv2, (W (x + 1)), A2, h, R, R⟩
 intro c3
 replace h := ifN (Int.not_lt.2 c3) h
 refine ev_endX ?_
 with_reducible apply thenx_norm
 with_reducible apply swx_seq
 refine swx_condF R ?_
 with_reducible apply swx_exit
 with_reducible apply thenx_exit
 with_reducible apply thenx_exit
 subst hK1
 with_reducible apply blockx_exit
 with_reducible apply thenx_norm
 with_reducible apply swx_seq
 with_reducible apply swx_seq
 with_reducible apply swx_rg
 with_reducible apply rgx_ev
 refine q_movD R (ev_x ?_)
 refine rgx_range R R R fun it => ?_
 with_reducible apply rgx_ev
 refine ev_endX ?_
 with_reducible apply thenx_norm
 with_reducible apply swx_block
 by_cases hAl : A.length ≤ 1000000000
 rotate_left
 ·cases (if_neg hAl).symm.trans h
 replace h := ifP hAl h
 obtain ⟨q3, hq, h⟩ := bnd h
 obtain ⟨q2, hq0, hq1⟩ := Option.bind_eq_some_iff.1 hq
 refine SWX.own (ts' := [(2, .ref 0 4 0 0), (4, .row 1 5 0 (([] : List FrReport)).length), (5, .d (vI a)), (81, .d (.v (.pointer (some ⟨it, 0, none⟩))))]) (L' := [some ⟨4, [.d (FrFormat.d t)]⟩]) 5 R R (.cons (.same _) (.cons .nil (.cons (.same _) (.cons (.same _) .nil)))) (.same .nil) ?_
 simp only [List.cons_append, List.nil_append]
 refine swx_loopS (fun m gx st => ∃ (S : List Nat) (rs : List FrReport), gx = Gh.it bm it A S ∧ S.Nodup ∧ (∀ i ∈ S, i < A.length) ∧ HS (frame_Merge_R F t) A S rs ∧ m = A.length - S.length ∧ st = ⟨[(2, .ref 0 4 0 0), (4, .row 1 5 0 (rs).length), (5, .d (vI a)), (81, .d (.v (.pointer (some ⟨it, 0, none⟩))))], [some ⟨4, [.d (FrFormat.d t)]⟩, some (lFrReportd rs)]⟩) (.prn [2, 4, 5, 81] R) ⟨[], [], R, List.nodup_nil, (fun _ h => nomatch h), HS.nil, R, R⟩ ?_
 rintro m gx st ⟨S, rs, rfl, hnd, hSb, hHS, rfl, rfl⟩
 with_reducible apply swx_seq
 with_reducible apply swx_rg
 with_reducible apply rgx_ev
 refine ev_x ?_
 refine rgx_next R R (fun i hi hS => ?_) (fun hall => ?_)
 ·with_reducible apply rgx_ev
  obtain ⟨⟨kx, lx⟩, hp⟩ : ∃ p, A[i]? = some p := ⟨_, List.getElem?_eq_getElem hi⟩
  obtain ⟨b, hb⟩ := hrg_at hq0 hp
  have hlt := nodup_lt hnd hSb hi hS
  have h := frame_Merge_of hb (rs := rs) (by have := hHS.len; omega)
  refine r_ext (t := .d (.v (.bool true))) R R R R (ev_endX ?_)
  with_reducible apply thenx_norm
  with_reducible apply swx_seq
  refine swx_condT R ?_
  with_reducible apply swx_skip
  with_reducible apply thenx_norm
  with_reducible apply swx_block
  with_reducible apply swx_seq
  with_reducible apply swx_rg
  with_reducible apply rgx_ev
  refine ev_x (rgx_mentry (p := (kx, lx)) R hp R ?_)
  show RgX _ _ _ _ _ _ _ _ _ _ ⟨(84, .d (.tup [.agg (intsD kx), .arr 1 (lx.map vI)])) :: _, _⟩
  with_reducible apply rgx_ev
  refine r_extD (t := .agg (intsD kx)) R R R R (r_extD (t := .arr 1 ((lx).map vI)) R R R R ?_)
  by_cases c8 : kx.length = 33
  rotate_left
  ·cases (if_neg c8).symm.trans h
  replace h := ifP c8 h
  refine ev_x ?_
  refine rgx_keybox (k := kx) (k0 := List.replicate 33 0) (tb.ok _ _ R) R (by rw [c8]; rfl) (by rw [c8]) R R (fun e => by cases e) ?_
  with_reducible apply rgx_ev
  refine q_asgD R (ev_endX ?_)
  with_reducible apply thenx_norm
  with_reducible apply swx_of
  refine sw_dr (by kernel_rfl) (r_movW R R R (r_ixEl tb R R R R R R R R ?_))
  obtain ⟨e4, ie4, h⟩ := bnd h
  refine r_ldK tb R R R R ie4 R R (q_movD R ?_)
  obtain ⟨e5, ie5, h⟩ := bnd h
  refine q_ixE tb (ix0 ie5) (ix1m ie5) R (q_ldE (y := vI e5) tb (ix2 (g := vI) ie5) R (q_movD R (q_lenM tb R (q_fa tb R (q_ldD (y := vI t.words) tb R (q_add R ?_))))))
  obtain ⟨q4, iq4, h⟩ := bnd h
  refine r_slEl (w := q4) tb R R R R R R R R iq4 R R ?_
  show EvK _ _ _ _ ⟨(98, .d (.arr 1 (q4.map vI))) :: _, _⟩ _ _
  obtain ⟨rv4, hrv4, h⟩ := bnd h
  refine r_call (slices_Clone_int_pc hrv4) (.of (by kernel_rfl)) R R R R (r_build (v := .d (.agg [vI e4, vI e5, vI (lx.length : Int), .v (.bool false), .arr 1 ((rv4).map vI)])) tb R R (List.cons_ne_nil _ _) R R R R R R (r_bslice tb R R R R R R R R R R R R R ?_))
  obtain ⟨q5, iq5, h⟩ := bnd h
  refine r_apM (g := FrReport.d) (w := rs) (v := [(FrReport.mk e4 e5 (lx.length : Int) false rv4)]) ([some ⟨4, [.d (FrFormat.d t)]⟩, none, some (lFrReportd [(FrReport.mk e4 e5 (lx.length : Int) false rv4)])]) tb R R R R R R R R R R R iq5 R R R R R (r_asgW R R R (ev_endD (by kernel_rfl) ?_))
  with_reducible apply blockx_norm
  with_reducible apply thenx_norm
  have hqe := Option.some.inj h
  exact ⟨_, ⟨[(2, .ref 0 4 0 0), (4, .row 1 5 0 (q5).length), (5, .d (vI a)), (81, .d (.v (.pointer (some ⟨it, 0, none⟩))))], [some ⟨4, [.d (FrFormat.d t)]⟩, some (lFrReportd q5)]⟩, (by simp only [List.length_append, List.length_singleton]; omega : _ < _), .vw (κ := [0, 3]) (vK (.cons R R (.row R .nil)) R), S ++ [i], _, R, nodup_add hnd hS, (fun j hj => (List.mem_append.1 hj).elim (hSb j) fun e => by rw [List.mem_singleton.1 e]; exact hi), (by rw [hqe]; exact hHS.add hp hb), R, R⟩
 with_reducible apply rgx_ev
 have hsrt := srt_perm rpLt_as hq1 (hHS.perm hnd hSb hall hq0)
 refine r_extD (t := .v (.bool false)) R R R R (ev_endX ?_)
 with_reducible apply thenx_norm
 with_reducible apply swx_seq
 refine swx_condF R ?_
 with_reducible apply swx_exit
 with_reducible apply thenx_exit
 with_reducible apply thenx_exit
 with_reducible apply blockx_exit
 with_reducible apply thenx_norm
 with_reducible apply swx_seq
 with_reducible apply swx_rg
 with_reducible apply rgx_ev
 refine r_movW R R R ?_
 have hlen : rs.length = q3.length := srt_len hsrt
 refine r_callO (t' := .d (.tup [])) (ls := [some (lFrReportd q3)]) (news := []) ([1]) ([some ⟨4, [.d (FrFormat.d t)]⟩, some (lFrReportd q3)]) (frame_sort_scr hsrt) (.of (by kernel_rfl)) R (.inl ⟨R, R, R⟩) R R R R ((.row R .nil)) R R R ((.row .nil)) .nil R R R R ?_
 first | rw [hlen] | skip
 refine ev_endX ?_
 with_reducible apply thenx_norm
 with_reducible apply swx_seq
 with_reducible apply swx_seq
 with_reducible apply swx_rg
 with_reducible apply rgx_ev
 refine r_movW R R R (r_lenR tb R R R R R (q_movD R (ev_endX ?_)))
 with_reducible apply thenx_norm
 with_reducible apply swx_block
 obtain ⟨K3, hK3, h⟩ : ∃ K, K = _ ∧ frame_Merge_L2 F K F q3 (q3.length : Int) 0 = some r := ⟨_, rfl, h⟩
 refine swx_loopS (st0 := ⟨[(4, .row 0 5 0 (q3).length), (5, .d (vI a)), (106, .d (vI (q3.length : Int))), (107, .d (vI 0))], [some (lFrReportd q3)]⟩) (fun m gx st => ∃ (rv5 : (List FrReport)) (x3 : Int) (x4 : Int), frame_Merge_L2 F K3 m rv5 x3 x4 = some r ∧ gx = Gh.it bm it A S ∧ st = ⟨[(4, .row 0 5 0 (rv5).length), (5, .d (vI a)), (106, .d (vI x3)), (107, .d (vI x4))], [some (lFrReportd rv5)]⟩) (.vw (κ := [1]) (vK (.row R .nil) R)) ⟨q3, (q3.length : Int), 0, h, R, R⟩ ?_
 clear h
 rintro m3 gx st ⟨rv5, x3, x4, h, rfl, rfl⟩
 cases m3 with
 | zero => cases (show (none : Option ((List FrReport) × Int)) = some r from h)
 | succ m3 =>
 rw [frame_Merge_L2] at h
 with_reducible apply swx_seq
 with_reducible apply swx_rg
 with_reducible apply rgx_ev
 refine r_lss R R R R ?_ ?_
 ·intro c9
  replace h := ifP c9 h
  refine ev_endX ?_
  with_reducible apply thenx_norm
  with_reducible apply swx_seq
  refine swx_condT R ?_
  with_reducible apply swx_skip
  with_reducible apply thenx_norm
  with_reducible apply swx_seq
  with_reducible apply swx_block
  with_reducible apply swx_seq
  with_reducible apply swx_rg
  with_reducible apply rgx_ev
  refine q_movD R (q_asgD R (ev_endX ?_))
  with_reducible apply thenx_norm
  with_reducible apply swx_of
  refine sw_dr (by kernel_rfl) (r_movW R R R (q_movD R (q_movD R (q_add R (r_movW R R R (r_lenR tb R R R R R ?_))))))
  refine r_lss R R R R ?_ ?_
  ·intro c10
   replace h := ifP c10 h
   refine q_movD R (r_movW R R R (q_movD R (q_add R ?_)))
   obtain ⟨e6, ie6, h⟩ := bnd h
   refine r_ixI tb R R R R R R (ix0 ie6) (ix1 ie6) R R (q_fa tb R ?_)
   refine r_ldD (y := vI e6.number) tb R R R R (ix2 (g := fun a => T.d (FrReport.d a)) ie6) R R R R ?_
   refine r_movW R R R (q_movD R ?_)
   obtain ⟨e7, ie7, h⟩ := bnd h
   refine r_ixI tb R R R R R R (ix0 ie7) (ix1 ie7) R R (q_fa tb R ?_)
   refine r_ldD (y := vI e7.number) tb R R R R (ix2 (g := fun a => T.d (FrReport.d a)) ie7) R R R R ?_
   refine r_eqlV R R R R (q_pickT R (r_ixI tb R R R R R R (ix0 ie7) (ix1 ie7) R R (q_fa tb R ?_)))
   obtain ⟨rv6, irv6, h⟩ := bnd h
   refine r_stQ (a' := ({e7 with marked := (decide (e6.number = e7.number))} : FrReport)) tb R R R R ie7 R R R R irv6 R R ?_
   dsimp only [List.set_cons_zero, List.set_cons_succ]
   first | rw [set_len irv6] | skip
   refine ev_endD (by kernel_rfl) ?_
   with_reducible apply blockx_norm
   with_reducible apply thenx_norm
   with_reducible apply swx_rg
   with_reducible apply rgx_ev
   refine q_add R (q_movD R (ev_endX ?_))
   with_reducible apply thenx_norm
   exact ⟨m3, _, Nat.lt_succ_self _, .prn [4, 5, 106, 107] R, rv6, x3, (W (x4 + 1)), h, R, R⟩
  intro c10
  replace h := ifN (Int.not_lt.2 c10) h
  refine q_movD R (q_sk 12 R (q_pickF R ?_))
  obtain ⟨e8, ie8, h⟩ := bnd h
  refine r_ixI tb R R R R R R (ix0 ie8) (ix1 ie8) R R (q_fa tb R ?_)
  obtain ⟨rv7, irv7, h⟩ := bnd h
  refine r_stQ (a' := ({e8 with marked := false} : FrReport)) tb R R R R ie8 R R R R irv7 R R ?_
  dsimp only [List.set_cons_zero, List.set_cons_succ]
  first | rw [set_len irv7] | skip
  refine ev_endD (by kernel_rfl) ?_
  with_reducible apply blockx_norm
  with_reducible apply thenx_norm
  with_reducible apply swx_rg
  with_reducible apply rgx_ev
  refine q_add R (q_movD R (ev_endX ?_))
  with_reducible apply thenx_norm
  exact ⟨m3, _, Nat.lt_succ_self _, .prn [4, 5, 106, 107] R, rv7, x3, (W (x4 + 1)), h, R, R⟩
 intro c9
 replace h := ifN (Int.not_lt.2 c9) h
 refine ev_endX ?_
 with_reducible apply thenx_norm
 with_reducible apply swx_seq
 refine swx_condF R ?_
 with_reducible apply swx_exit
 with_reducible apply thenx_exit
 with_reducible apply thenx_exit
 subst hK3
 with_reducible apply blockx_exit
 with_reducible apply thenx_norm
 with_reducible apply swx_seq
 with_reducible apply swx_rg
 with_reducible apply rgx_ev
 refine r_movW R R R ?_
 obtain ⟨rv8, hrv8, h⟩ := bnd h
 obtain ⟨u, hu, h⟩ := bnd h
 refine r_callO (t' := .row 0 5 0 (rv8.1).length) (ls := [some (lFrReportd rv8.2)]) (news := []) ([0]) ([some (lFrReportd rv8.2)]) (slices_CompactFunc_FrReport_m_frame_Merge_2_scr hrv8) (.of (by kernel_rfl)) R (.inl ⟨R, R, R⟩) R R R R ((.row R .nil)) R R R ((.row .nil)) .nil R R R R ?_
 first | rw [← lnO_eq hu] | skip
 refine r_asgW R R R (q_asgD R (ev_endX ?_))
 with_reducible apply thenx_norm
 obtain ⟨q6, hq6, h⟩ := bnd h
 refine SWX.trim (w := rv8.2) (q := q6) (a := rv8.1) 0 5 R R hq6 R ?_
 first | rw [pre_len hq6] | skip
 with_reducible apply swx_ret
 obtain rfl := sI h
 exact f2 [0] (.row R .nil) R (.cons (.tmp 4) (.cons (.tmp 5) .nil)) R
theorem frame_Merge_pc {F : Nat} {t : FrFormat} {o : (List FrTape)} {r : ((List FrReport) × Int)} (h : frame_Merge F t o = some r) : PC Try.prog 47 [FrFormat.d t, .arr 2 ((o).map FrTape.d)] (.tup [.arr 5 ((r.1).map FrReport.d), .v (.int .i64 r.2)]) := (frame_Merge_scr h).toPC (.tupL (.cons (.row rfl rfl) (.cons (.d _) .nil)))
def hangfirelaw09_Awake (F : Nat)  : Option Bool := some true
theorem hangfirelaw09_Awake_pc {F : Nat}  {r : Bool} (h : hangfirelaw09_Awake F  = some r) : PC Try.prog 21 [] (.v (.bool r)) := by
 cases h; exact pc_of_any rfl awake_any

def hangfirelaw09_FrameMerges (F : Nat) (f : FrFormat) (lv : (List FrTape)) : Option Bool := Option.bind (frame_Merge F f lv) fun rv => Option.bind (r9_Merge F f lv) fun rv2 => Option.bind (r9_SameReports F rv.1 rv2.1) fun rv3 => if rv3 = true then (if rv.2 = rv2.2 then (Option.bind (hangfirelaw09_Awake F ) fun rv4 => some rv4) else (some false)) else (some false)
theorem hangfirelaw09_FrameMerges_pc {F : Nat} {f : FrFormat} {lv : (List FrTape)} {r : Bool} (h : hangfirelaw09_FrameMerges F f lv = some r) : PC Try.prog 16 [FrFormat.d f, .arr 2 ((lv).map FrTape.d)] (.v (.bool r)) := by
 rw [hangfirelaw09_FrameMerges] at h
 refine SC.of_sw Try.func16 R R R ?_
 dsimp only [argS, List.map]
 refine qG (q_box R (q_asgD R (eN (qG (q_ldD (y := FrFormat.d f) tb R (q_movD R ?_))))))
 obtain ⟨rv, hrv, h⟩ := bnd h
 refine r_callN (t' := .tup [.row 1 5 0 (rv.1).length, .d (vI rv.2)]) (news' := [(lFrReportd rv.1)]) (frame_Merge_scr hrv) (.of (by kernel_rfl)) R R R ((.row .nil)) R R R (r_movT (.tup [.row 1 5 0 (rv.1).length, .d (vI rv.2)]) R R R (r_ext (t := .row 1 5 0 (rv.1).length) R R R R (r_ext (t := .d (vI rv.2)) R R R R (r_asgW R R R (q_asgD R (eN (qG (q_ldD (y := FrFormat.d f) tb R (q_movD R ?_)))))))))
 obtain ⟨rv2, hrv2, h⟩ := bnd h
 refine r_callN (t' := .tup [.row 2 5 0 (rv2.1).length, .d (vI rv2.2)]) (news' := [(lFrReportd rv2.1)]) (r9_Merge_scr hrv2) (.of (by kernel_rfl)) R R R ((.row .nil)) R R R (r_movT (.tup [.row 2 5 0 (rv2.1).length, .d (vI rv2.2)]) R R R (r_ext (t := .row 2 5 0 (rv2.1).length) R R R R (r_ext (t := .d (vI rv2.2)) R R R R (r_asgW R R R (q_asgD R (eN (qG (r_movW R R R (r_movW R R R ?_)))))))))
 obtain ⟨rv3, hrv3, h⟩ := bnd h
 refine r_callLB (r9_SameReports_pc hrv3) (.of (by kernel_rfl)) R R ((.cons (.row R R) (.cons (.row R R) .nil))) R R ?_ ?_
 ·intro c
  replace h := ifP c h
  refine q_movD R (q_movD R (q_movD R ?_))
  refine r_eql R R R R ?_ ?_
  ·intro c2
   replace h := ifP c2 h
   refine q_pickT R (q_movD R ?_)
   obtain ⟨rv4, hrv4, h⟩ := bnd h
   refine r_call (hangfirelaw09_Awake_pc hrv4) (.of (by kernel_rfl)) R R R R (q_pickT R (q_asgD R (eN (sw_ret ?_))))
   obtain rfl := sI h
   exact f1 4 R
  intro c2
  replace h := ifN c2 h
  refine q_pickT R (q_movD R (q_skip R (q_pickF R (q_asgD R (eN (sw_ret ?_))))))
  obtain rfl := sI h
  exact f1 4 R
 intro c
 replace h := ifF c h
 refine q_movD R (q_sk 3 R (q_pickF R (q_movD R (q_skip R (q_pickF R (q_asgD R (eN (sw_ret ?_))))))))
 obtain rfl := sI h
 exact f1 4 R
end Go.Proofs.Ytjnnkcnnandeeaa
