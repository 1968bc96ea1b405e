/- What functions of the program compute: plain functions, and the proofs. -/
import Derived.Test.YtjnnkcnnandeeaaW1
import Derived.Test.YtjnnkcnnandeeaaWAwake
import Derived.Deep.Cut
import Derived.Lib.QuietBelow
import Derived.Shelf.Lay
import Derived.Ground.SlsfProg
set_option linter.unusedVariables false
set_option linter.unusedSimpArgs false
open Go Go.Proofs.Ytjnnkcnnandeeaa.Sh Go.Proofs
namespace Go.Proofs.Ytjnnkcnnandeeaa
set_option maxRecDepth 100000
set_option maxHeartbeats 40000000
def hangfirelaw09_Sent_list_L1 (F : Nat) (x : Sent) (i : Int) (many : Int) (K : (List Int) → Int → Option (List Int)) : Nat → (List Int) → Int → Option (List Int)
 | 0, _, _ => none
 | n + 1, out, k => if k < many then (if 0 < (x.words.length : Int) then (if (x.words.length : Int) = 0 then none else (Option.bind (ixO x.words (Int.tmod (W ((W (i * many)) + k)) (x.words.length : Int))) fun e => Option.bind (appO out [(W e)]) fun q => hangfirelaw09_Sent_list_L1 F x i many K n q (W (k + 1)))) else (Option.bind (appO out [0]) fun q2 => hangfirelaw09_Sent_list_L1 F x i many K n q2 (W (k + 1)))) else (K out k)
def hangfirelaw09_Sent_list (F : Nat) (x : Sent) (i : Int) (many : Int) : Option (List Int) := hangfirelaw09_Sent_list_L1 F x i many (fun (out : (List Int)) (k : Int) => some out) F ([] : List Int) 0
theorem hangfirelaw09_Sent_list_scr {F : Nat} {x : Sent} {i : Int} {many : Int} {r : (List Int)} (h : hangfirelaw09_Sent_list F x i many = some r) : SCR Try.prog 37 (List.map T.d [Sent.d x, .v (.int .i64 i), .v (.int .i64 many)]) [] (.row 0 1 0 (r).length) (List.map some [(lvI r)]) := by
 rw [hangfirelaw09_Sent_list] at h
 refine SC.of_sw Try.func37 R R R ?_
 dsimp only [argS, List.map]
 refine qG (q_box R (q_asgD R (eN (qG (q_asgD R (eN (sw_seq (qG (q_asgD R (eN (sw_block ?_)))))))))))
 refine SW.own (ts' := [(1, .d (vI i)), (2, .d (vI many)), (3, .ref 0 3 0 0), (6, .d (.v (.slice none 0 0))), (7, .row 1 1 0 (([] : List Int)).length), (8, .d (vI 0))]) (L' := [some ⟨3, [.d (Sent.d x)]⟩]) 1 R R (.cons (.same _) (.cons (.same _) (.cons (.same _) (.cons (.same _) (.cons .nil (.cons (.same _) .nil)))))) (.same .nil) ?_
 simp only [List.cons_append, List.nil_append]
 obtain ⟨K1, hK1, h⟩ : ∃ K, K = _ ∧ hangfirelaw09_Sent_list_L1 F x i many K F ([] : List Int) 0 = some r := ⟨_, rfl, h⟩
 refine sw_loopS (fun m st => ∃ (out : (List Int)) (k : Int), hangfirelaw09_Sent_list_L1 F x i many K1 m out k = some r ∧ st = ⟨[(1, .d (vI i)), (2, .d (vI many)), (3, .ref 0 3 0 0), (6, .d (.v (.slice none 0 0))), (7, .row 1 1 0 (out).length), (8, .d (vI k))], [some ⟨3, [.d (Sent.d x)]⟩, some (lvI out)]⟩) (.prn [1, 2, 3, 6, 7, 8] R) ⟨([] : List Int), 0, h, R⟩ ?_
 clear h
 rintro m1 st ⟨out, k, h, rfl⟩
 cases m1 with
 | zero => cases (show (none : Option (List Int)) = some r from h)
 | succ m1 =>
 rw [hangfirelaw09_Sent_list_L1] at h
 refine sw_seq (qG (q_movD R (q_movD R ?_)))
 refine r_lss R R R R ?_ ?_
 ·intro c
  replace h := ifP c h
  refine eN (sw_condT R (sw_skip (then_norm (sw_seq (sw_block (qG (q_asgD R (eN (sw_seq (qG (q_fa tb R (q_ldD (y := .arr 1 ((x.words).map v16)) tb R (q_lenM tb R ?_)))))))))))))
  refine r_gtr R R R R ?_ ?_
  ·intro c2
   replace h := ifP c2 h
   refine eN (sw_condT R (sw_dr (by kernel_rfl) (q_fa tb R (q_ldD (y := .arr 1 ((x.words).map v16)) tb R (q_movD R (q_movD R (r_mul R R R R (q_movD R (q_add R (q_fa tb R (q_ldD (y := .arr 1 ((x.words).map v16)) tb R (q_lenM tb R ?_))))))))))))
   by_cases c3 : (x.words.length : Int) = 0
   ·cases (if_pos c3).symm.trans h
   replace h := ifN c3 h
   refine r_rem R R c3 R R ?_
   obtain ⟨e, ie, h⟩ := bnd h
   refine q_ixE tb (ix0 ie) (ix1m ie) R (q_ldE (y := .v (.int .u16 e)) tb (ix2 (g := v16) ie) R (r_cvI (k2 := .i64) R R R R R R (q_asgD R (ev_endD (by kernel_rfl) (then_norm (sw_rg (r_movW R R R (q_movD R (r_bslice tb R R R R R R R R R R R R R ?_)))))))))
   obtain ⟨q, iq, h⟩ := bnd h
   refine r_apM (g := vI) (w := out) (v := [(W e)]) ([some ⟨3, [.d (Sent.d x)]⟩, none, some (lvI [(W e)])]) tb R R R R R R R R R R R iq R R R R R (r_asgW R R R (ev_end (block_norm (then_norm (sw_rg (q_movD R (q_add R (q_asgD R (eN ?_)))))))))
   exact ⟨m1, ⟨[(1, .d (vI i)), (2, .d (vI many)), (3, .ref 0 3 0 0), (6, .d (.v (.slice none 0 0))), (7, .row 1 1 0 (q).length), (8, .d (vI (W (k + 1))))], [some ⟨3, [.d (Sent.d x)]⟩, some (lvI q)]⟩, Nat.lt_succ_self _, .vw (κ := [0, 3]) (vK (.cons R R (.row R .nil)) R), q, (W (k + 1)), h, R⟩
  intro c2
  replace h := ifN (Int.not_lt.2 c2) h
  refine eN (sw_condF R (sw_skip (then_norm (sw_rg (r_movW R R R (q_movD R (r_bslice tb R R R R R R R R R R R R R ?_)))))))
  obtain ⟨q2, iq2, h⟩ := bnd h
  refine r_apM (g := vI) (w := out) (v := [0]) ([some ⟨3, [.d (Sent.d x)]⟩, none, some (lvI [0])]) tb R R R R R R R R R R R iq2 R R R R R (r_asgW R R R (ev_end (block_norm (then_norm (sw_rg (q_movD R (q_add R (q_asgD R (eN ?_)))))))))
  exact ⟨m1, ⟨[(1, .d (vI i)), (2, .d (vI many)), (3, .ref 0 3 0 0), (6, .d (.v (.slice none 0 0))), (7, .row 1 1 0 (q2).length), (8, .d (vI (W (k + 1))))], [some ⟨3, [.d (Sent.d x)]⟩, some (lvI q2)]⟩, Nat.lt_succ_self _, .vw (κ := [0, 3]) (vK (.cons R R (.row R .nil)) R), q2, (W (k + 1)), h, R⟩
 intro c
 replace h := ifN (Int.not_lt.2 c) h
 refine eN (sw_condF R (sw_exit (then_exit (then_exit ?_))))
 subst hK1
 refine block_exit (then_norm (qG (r_movW R R R (r_asgW R R R (eN (sw_ret ?_))))))
 obtain rfl := sI h
 exact f2 [1] (.row R .nil) R (.cons (.tmp 6) .nil) R
theorem hangfirelaw09_Sent_list_pc {F : Nat} {x : Sent} {i : Int} {many : Int} {r : (List Int)} (h : hangfirelaw09_Sent_list F x i many = some r) : PC Try.prog 37 [Sent.d x, .v (.int .i64 i), .v (.int .i64 many)] (.arr 1 ((r).map vI)) := (hangfirelaw09_Sent_list_scr h).toPC (.row rfl rfl)
def hangfirelaw09_Sent_bytes_L1 (F : Nat) (t : Sent) (o : FrFormat) (rv2 : ((List Int) × Bool)) (K : (List Int) → Int → Option ((List Int) × (List Int) × Bool)) : Nat → (List Int) → Int → Option ((List Int) × (List Int) × Bool)
 | 0, _, _ => none
 | n + 1, lv, x => if x < (rv2.1.length : Int) then (Option.bind (ixO rv2.1 x) fun e => Option.bind (hangfirelaw09_Sent_list F t x o.words) fun rv3 => Option.bind (frame_Encode F o e rv3) fun rv4 => if rv4.2 = 0 then (Option.bind (appO lv rv4.1) fun q => hangfirelaw09_Sent_bytes_L1 F t o rv2 K n q (W (x + 1))) else (some (([] : List Int), ([] : List Int), false))) else (K lv x)
def hangfirelaw09_Sent_bytes (F : Nat) (t : Sent) (o : FrFormat) : Option ((List Int) × (List Int) × Bool) := Option.bind (frame_Check F o) fun rv => Option.bind (hangfirelaw09_Sent_numbers F t) fun rv2 => if rv2.2 = true then (if rv.2.2 = 0 then (if o.words < 1 then (some (([] : List Int), ([] : List Int), false)) else (if 32 < o.words then (some (([] : List Int), ([] : List Int), false)) else (hangfirelaw09_Sent_bytes_L1 F t o rv2 (fun (lv : (List Int)) (x : Int) => some (lv, rv2.1, (decide ((lv.length : Int) ≤ 4000)))) F ([] : List Int) 0))) else (some (([] : List Int), ([] : List Int), false))) else (if rv.2.2 = 0 then (some (([] : List Int), ([] : List Int), false)) else (some (([] : List Int), ([] : List Int), false)))
theorem hangfirelaw09_Sent_bytes_scr {F : Nat} {t : Sent} {o : FrFormat} {r : ((List Int) × (List Int) × Bool)} (h : hangfirelaw09_Sent_bytes F t o = some r) : SCR Try.prog 35 (List.map T.d [Sent.d t, FrFormat.d o]) [] (.tup [.row 0 1 0 (r.1).length, .row 1 1 0 (r.2.1).length, .d (.v (.bool r.2.2))]) (List.map some [(lv8 r.1), (lvI r.2.1)]) := by
 rw [hangfirelaw09_Sent_bytes] at h
 refine SC.of_sw Try.func35 R R R ?_
 dsimp only [argS, List.map]
 refine qG (q_box R (q_box R (q_asgD R (q_asgD R (q_asgD R (eN (qG (q_ldD (y := FrFormat.d o) tb R ?_))))))))
 obtain ⟨rv, hrv, h⟩ := bnd h
 refine r_call (frame_Check_pc hrv) (.of (by kernel_rfl)) R R R R (q_movD R (r_extD (t := vI rv.1) R R R R (r_extD (t := vI rv.2.1) R R R R (r_extD (t := vI rv.2.2) R R R R (q_asgD R (q_asgD R (q_asgD R (eN (qG (q_ldD (y := Sent.d t) tb R ?_))))))))))
 obtain ⟨rv2, hrv2, h⟩ := bnd h
 refine r_callN (t' := .tup [.row 2 1 0 (rv2.1).length, .d (.v (.bool rv2.2))]) (news' := [(lvI rv2.1)]) (hangfirelaw09_Sent_numbers_scr hrv2) (.of (by kernel_rfl)) R R R ((.row .nil)) R R R (r_movT (.tup [.row 2 1 0 (rv2.1).length, .d (.v (.bool rv2.2))]) R R R (r_ext (t := .row 2 1 0 (rv2.1).length) R R R R (r_ext (t := .d (.v (.bool rv2.2))) R R R R ?_)))
 with_reducible apply ev_lit
 ·intro c
  replace h := ifP c h
  refine r_asgW R R R (q_asgD R (eN (sw_seq (qG (q_movD R ?_)))))
  refine r_neq R R R R ?_ ?_
  ·intro c2
   replace h := ifN c2 h
   refine q_movD R (q_sk 2 R (q_pickT R (q_movD R (q_sk 3 R (q_pickT R (q_movD R (q_sk 3 R (q_pickT R (eN (sw_condT R (qG (q_asgD R (q_asgD R (q_asgD R (eN ?_)))))))))))))))
   refine SW.own (ts' := [(4, .row 3 1 0 (([] : List Int)).length), (5, .d (.v (.slice none 0 0))), (6, .d (.v (.bool false)))]) (L' := [some ⟨3, [.d (Sent.d t)]⟩, some ⟨4, [.d (FrFormat.d o)]⟩, some (lvI rv2.1)]) 1 R R (.cons .nil (.cons (.same _) (.cons (.same _) .nil))) (.same (.same (.same .nil))) ?_
   simp only [List.cons_append, List.nil_append]
   refine SW.own (ts' := [(4, .row 3 1 0 (([] : List Int)).length), (5, .row 4 1 0 (([] : List Int)).length), (6, .d (.v (.bool false)))]) (L' := [some ⟨3, [.d (Sent.d t)]⟩, some ⟨4, [.d (FrFormat.d o)]⟩, some (lvI rv2.1), some (lv8 ([] : List Int))]) 1 R R (.cons (.same _) (.cons .nil (.cons (.same _) .nil))) (.same (.same (.same (.same .nil)))) ?_
   simp only [List.cons_append, List.nil_append]
   refine sw_ret (then_ret ?_)
   obtain rfl := sI h
   exact f2 [3, 4] (.row R (.row R .nil)) R (.cons (.tmp 4) (.cons (.tmp 5) (.cons (.tmp 6) .nil))) R
  intro c2
  replace h := ifP c2 h
  refine q_movD R (q_movD R (r_notT R R R (q_pickF R (q_movD R (q_fa tb R (q_ldD (y := vI o.words) tb R ?_))))))
  refine r_lss R R R R ?_ ?_
  ·intro c3
   replace h := ifP c3 h
   refine q_pickF R (q_movD R (q_sk 3 R (q_pickT R (eN (sw_condT R (qG (q_asgD R (q_asgD R (q_asgD R (eN ?_))))))))))
   refine SW.own (ts' := [(4, .row 3 1 0 (([] : List Int)).length), (5, .d (.v (.slice none 0 0))), (6, .d (.v (.bool false)))]) (L' := [some ⟨3, [.d (Sent.d t)]⟩, some ⟨4, [.d (FrFormat.d o)]⟩, some (lvI rv2.1)]) 1 R R (.cons .nil (.cons (.same _) (.cons (.same _) .nil))) (.same (.same (.same .nil))) ?_
   simp only [List.cons_append, List.nil_append]
   refine SW.own (ts' := [(4, .row 3 1 0 (([] : List Int)).length), (5, .row 4 1 0 (([] : List Int)).length), (6, .d (.v (.bool false)))]) (L' := [some ⟨3, [.d (Sent.d t)]⟩, some ⟨4, [.d (FrFormat.d o)]⟩, some (lvI rv2.1), some (lv8 ([] : List Int))]) 1 R R (.cons (.same _) (.cons .nil (.cons (.same _) .nil))) (.same (.same (.same (.same .nil)))) ?_
   simp only [List.cons_append, List.nil_append]
   refine sw_ret (then_ret ?_)
   obtain rfl := sI h
   exact f2 [3, 4] (.row R (.row R .nil)) R (.cons (.tmp 4) (.cons (.tmp 5) (.cons (.tmp 6) .nil))) R
  intro c3
  replace h := ifN (Int.not_lt.2 c3) h
  refine q_pickF R (q_movD R (q_fa tb R (q_ldD (y := vI o.words) tb R ?_)))
  refine r_gtr R R R R ?_ ?_
  ·intro c4
   replace h := ifP c4 h
   refine q_pickF R (eN (sw_condT R (qG (q_asgD R (q_asgD R (q_asgD R (eN ?_)))))))
   refine SW.own (ts' := [(4, .row 3 1 0 (([] : List Int)).length), (5, .d (.v (.slice none 0 0))), (6, .d (.v (.bool false)))]) (L' := [some ⟨3, [.d (Sent.d t)]⟩, some ⟨4, [.d (FrFormat.d o)]⟩, some (lvI rv2.1)]) 1 R R (.cons .nil (.cons (.same _) (.cons (.same _) .nil))) (.same (.same (.same .nil))) ?_
   simp only [List.cons_append, List.nil_append]
   refine SW.own (ts' := [(4, .row 3 1 0 (([] : List Int)).length), (5, .row 4 1 0 (([] : List Int)).length), (6, .d (.v (.bool false)))]) (L' := [some ⟨3, [.d (Sent.d t)]⟩, some ⟨4, [.d (FrFormat.d o)]⟩, some (lvI rv2.1), some (lv8 ([] : List Int))]) 1 R R (.cons (.same _) (.cons .nil (.cons (.same _) .nil))) (.same (.same (.same (.same .nil)))) ?_
   simp only [List.cons_append, List.nil_append]
   refine sw_ret (then_ret ?_)
   obtain rfl := sI h
   exact f2 [3, 4] (.row R (.row R .nil)) R (.cons (.tmp 4) (.cons (.tmp 5) (.cons (.tmp 6) .nil))) R
  intro c4
  replace h := ifN (Int.not_lt.2 c4) h
  refine q_pickF R (eN (sw_condF R (sw_skip (then_norm (qG (q_asgD R (eN (sw_seq (qG (q_asgD R (eN (sw_block ?_))))))))))))
  refine SW.own (ts' := [(2, .ref 0 3 0 0), (3, .ref 1 4 0 0), (4, .d (.v (.slice none 0 0))), (5, .d (.v (.slice none 0 0))), (6, .d (.v (.bool false))), (10, .row 2 1 0 (rv2.1).length), (12, .row 3 1 0 (([] : List Int)).length), (13, .d (vI 0))]) (L' := [some ⟨3, [.d (Sent.d t)]⟩, some ⟨4, [.d (FrFormat.d o)]⟩, some (lvI rv2.1)]) 1 R R (.cons (.same _) (.cons (.same _) (.cons (.same _) (.cons (.same _) (.cons (.same _) (.cons (.same _) (.cons .nil (.cons (.same _) .nil)))))))) (.same (.same (.same .nil))) ?_
  simp only [List.cons_append, List.nil_append]
  obtain ⟨K1, hK1, h⟩ : ∃ K, K = _ ∧ hangfirelaw09_Sent_bytes_L1 F t o rv2 K F ([] : List Int) 0 = some r := ⟨_, rfl, h⟩
  refine sw_loopS (fun m st => ∃ (lv : (List Int)) (x : Int), hangfirelaw09_Sent_bytes_L1 F t o rv2 K1 m lv x = some r ∧ st = ⟨[(2, .ref 0 3 0 0), (3, .ref 1 4 0 0), (4, .d (.v (.slice none 0 0))), (5, .d (.v (.slice none 0 0))), (6, .d (.v (.bool false))), (10, .row 2 1 0 (rv2.1).length), (12, .row 3 1 0 (lv).length), (13, .d (vI x))], [some ⟨3, [.d (Sent.d t)]⟩, some ⟨4, [.d (FrFormat.d o)]⟩, some (lvI rv2.1), some (lv8 lv)]⟩) (.prn [2, 3, 4, 5, 6, 10, 12, 13] R) ⟨([] : List Int), 0, h, R⟩ ?_
  clear h
  rintro m1 st ⟨lv, x, h, rfl⟩
  cases m1 with
  | zero => cases (show (none : Option ((List Int) × (List Int) × Bool)) = some r from h)
  | succ m1 =>
  rw [hangfirelaw09_Sent_bytes_L1] at h
  refine sw_seq (qG (q_movD R (r_movW R R R (r_lenR tb R R R R R ?_))))
  refine r_lss R R R R ?_ ?_
  ·intro c5
   replace h := ifP c5 h
   refine eN (sw_condT R (sw_skip (then_norm (sw_seq (sw_block (sw_seq (sw_dr (by kernel_rfl) (q_ldD (y := FrFormat.d o) tb R (r_movW R R R (q_movD R ?_))))))))))
   obtain ⟨e, ie, h⟩ := bnd h
   refine r_ixI tb R R R R R R (ix0 ie) (ix1 ie) R R ?_
   refine r_ldD (y := vI e) tb R R R R (ix2 (g := fun a => T.d (vI a)) ie) R R R R ?_
   refine q_ldD (y := Sent.d t) tb R (q_movD R (q_fa tb R (q_ldD (y := vI o.words) tb R ?_)))
   obtain ⟨rv3, hrv3, h⟩ := bnd h
   refine r_callN (t' := .row 4 1 0 (rv3).length) (news' := [(lvI rv3)]) (hangfirelaw09_Sent_list_scr hrv3) (.of (by kernel_rfl)) R R R ((.row .nil)) R R R ?_
   obtain ⟨rv4, hrv4, h⟩ := bnd h
   refine r_callLN (t' := .tup [.row 5 1 0 (rv4.1).length, .d (vI rv4.2)]) (news' := [(lv8 rv4.1)]) (frame_Encode_scr hrv4) R ((.row (fun _ => rfl) .nil)) (.of (by kernel_rfl)) R R ((.cons (.d _) (.cons (.d _) (.cons (.row R R) .nil)))) R ((.row .nil)) R R R ?_
   refine r_movT (.tup [.row 5 1 0 (rv4.1).length, .d (vI rv4.2)]) R R R (r_ext (t := .row 5 1 0 (rv4.1).length) R R R R (r_ext (t := .d (vI rv4.2)) R R R R (r_asgW R R R (q_asgD R (ev_endD (by kernel_rfl) (then_norm (sw_seq (qG (q_movD R ?_)))))))))
   refine r_neq R R R R ?_ ?_
   ·intro c6
    replace h := ifN c6 h
    refine eN (sw_condT R (qG (q_asgD R (q_asgD R (q_asgD R (eN ?_))))))
    refine SW.own (ts' := [(4, .row 6 1 0 (([] : List Int)).length), (5, .d (.v (.slice none 0 0))), (6, .d (.v (.bool false)))]) (L' := [some ⟨3, [.d (Sent.d t)]⟩, some ⟨4, [.d (FrFormat.d o)]⟩, some (lvI rv2.1), some (lv8 lv), some (lvI rv3), some (lv8 rv4.1)]) 1 R R (.cons .nil (.cons (.same _) (.cons (.same _) .nil))) (.same (.same (.same (.same (.same (.same .nil)))))) ?_
    simp only [List.cons_append, List.nil_append]
    refine SW.own (ts' := [(4, .row 6 1 0 (([] : List Int)).length), (5, .row 7 1 0 (([] : List Int)).length), (6, .d (.v (.bool false)))]) (L' := [some ⟨3, [.d (Sent.d t)]⟩, some ⟨4, [.d (FrFormat.d o)]⟩, some (lvI rv2.1), some (lv8 lv), some (lvI rv3), some (lv8 rv4.1), some (lv8 ([] : List Int))]) 1 R R (.cons (.same _) (.cons .nil (.cons (.same _) .nil))) (.same (.same (.same (.same (.same (.same (.same .nil))))))) ?_
    simp only [List.cons_append, List.nil_append]
    refine sw_ret (then_ret (block_ret (then_ret (then_ret (block_ret (then_ret ?_))))))
    obtain rfl := sI h
    exact f2 [6, 7] (.row R (.row R .nil)) R (.cons (.tmp 4) (.cons (.tmp 5) (.cons (.tmp 6) .nil))) R
   intro c6
   replace h := ifP c6 h
   refine eN (sw_condF R (sw_skip (then_norm (sw_rg (r_movW R R R (r_movW R R R ?_))))))
   obtain ⟨q, iq, h⟩ := bnd h
   refine r_apM (g := v8) (w := lv) (v := rv4.1) ([some ⟨3, [.d (Sent.d t)]⟩, some ⟨4, [.d (FrFormat.d o)]⟩, some (lvI rv2.1), none, some (lvI rv3), some (lv8 rv4.1)]) tb R R R R R R R R R R (ones_map (fun _ => rfl)) iq R R R R R ?_
   refine r_asgW R R R (ev_end (block_norm (then_norm (sw_rg (q_movD R (q_add R (q_asgD R (eN ?_))))))))
   exact ⟨m1, ⟨[(2, .ref 0 3 0 0), (3, .ref 1 4 0 0), (4, .d (.v (.slice none 0 0))), (5, .d (.v (.slice none 0 0))), (6, .d (.v (.bool false))), (10, .row 2 1 0 (rv2.1).length), (12, .row 3 1 0 (q).length), (13, .d (vI (W (x + 1))))], [some ⟨3, [.d (Sent.d t)]⟩, some ⟨4, [.d (FrFormat.d o)]⟩, some (lvI rv2.1), some (lv8 q)]⟩, Nat.lt_succ_self _, .vw (κ := [0, 1, 2, 6]) (vK (.cons R R (.cons R R (.row R (.row R .nil)))) R), q, (W (x + 1)), h, R⟩
  intro c5
  replace h := ifN (Int.not_lt.2 c5) h
  refine eN (sw_condF R (sw_exit (then_exit (then_exit ?_))))
  subst hK1
  refine block_exit (then_norm (qG (r_movW R R R (r_movW R R R (r_movW R R R (r_lenR tb R R R R R (r_leqV R R R R (r_asgW R R R (r_asgW R R R (q_asgD R (eN (sw_ret ?_))))))))))))
  obtain rfl := sI h
  exact f2 [3, 2] (.row R (.row R .nil)) R (.cons (.tmp 4) (.cons (.tmp 5) (.cons (.tmp 6) .nil))) R
 intro c
 replace h := ifF c h
 refine r_asgW R R R (q_asgD R (eN (sw_seq (qG (q_movD R ?_)))))
 refine r_neq R R R R ?_ ?_
 ·intro c7
  replace h := ifN c7 h
  refine q_movD R (q_sk 2 R (q_pickT R (q_movD R (q_sk 3 R (q_pickT R (q_movD R (q_sk 3 R (q_pickT R (eN (sw_condT R (qG (q_asgD R (q_asgD R (q_asgD R (eN ?_)))))))))))))))
  refine SW.own (ts' := [(4, .row 3 1 0 (([] : List Int)).length), (5, .d (.v (.slice none 0 0))), (6, .d (.v (.bool false)))]) (L' := [some ⟨3, [.d (Sent.d t)]⟩, some ⟨4, [.d (FrFormat.d o)]⟩, some (lvI rv2.1)]) 1 R R (.cons .nil (.cons (.same _) (.cons (.same _) .nil))) (.same (.same (.same .nil))) ?_
  simp only [List.cons_append, List.nil_append]
  refine SW.own (ts' := [(4, .row 3 1 0 (([] : List Int)).length), (5, .row 4 1 0 (([] : List Int)).length), (6, .d (.v (.bool false)))]) (L' := [some ⟨3, [.d (Sent.d t)]⟩, some ⟨4, [.d (FrFormat.d o)]⟩, some (lvI rv2.1), some (lv8 ([] : List Int))]) 1 R R (.cons (.same _) (.cons .nil (.cons (.same _) .nil))) (.same (.same (.same (.same .nil)))) ?_
  simp only [List.cons_append, List.nil_append]
  refine sw_ret (then_ret ?_)
  obtain rfl := sI h
  exact f2 [3, 4] (.row R (.row R .nil)) R (.cons (.tmp 4) (.cons (.tmp 5) (.cons (.tmp 6) .nil))) R
 intro c7
 replace h := ifP c7 h
 refine q_movD R (q_movD R (r_notF R R R (q_pickF R (q_movD R (q_sk 3 R (q_pickT R (q_movD R (q_sk 3 R (q_pickT R (eN (sw_condT R (qG (q_asgD R (q_asgD R (q_asgD R (eN ?_))))))))))))))))
 refine SW.own (ts' := [(4, .row 3 1 0 (([] : List Int)).length), (5, .d (.v (.slice none 0 0))), (6, .d (.v (.bool false)))]) (L' := [some ⟨3, [.d (Sent.d t)]⟩, some ⟨4, [.d (FrFormat.d o)]⟩, some (lvI rv2.1)]) 1 R R (.cons .nil (.cons (.same _) (.cons (.same _) .nil))) (.same (.same (.same .nil))) ?_
 simp only [List.cons_append, List.nil_append]
 refine SW.own (ts' := [(4, .row 3 1 0 (([] : List Int)).length), (5, .row 4 1 0 (([] : List Int)).length), (6, .d (.v (.bool false)))]) (L' := [some ⟨3, [.d (Sent.d t)]⟩, some ⟨4, [.d (FrFormat.d o)]⟩, some (lvI rv2.1), some (lv8 ([] : List Int))]) 1 R R (.cons (.same _) (.cons .nil (.cons (.same _) .nil))) (.same (.same (.same (.same .nil)))) ?_
 simp only [List.cons_append, List.nil_append]
 refine sw_ret (then_ret ?_)
 obtain rfl := sI h
 exact f2 [3, 4] (.row R (.row R .nil)) R (.cons (.tmp 4) (.cons (.tmp 5) (.cons (.tmp 6) .nil))) R
theorem hangfirelaw09_Sent_bytes_pc {F : Nat} {t : Sent} {o : FrFormat} {r : ((List Int) × (List Int) × Bool)} (h : hangfirelaw09_Sent_bytes F t o = some r) : PC Try.prog 35 [Sent.d t, FrFormat.d o] (.tup [.arr 1 ((r.1).map v8), .arr 1 ((r.2.1).map vI), .v (.bool r.2.2)]) := (hangfirelaw09_Sent_bytes_scr h).toPC (.tupL (.cons (.row rfl rfl) (.cons (.row rfl rfl) (.cons (.d _) .nil))))
def hangfirelaw09_FrameReceivers_L1 (F : Nat) (t : FrFormat) (o : Sent) (a : (List Int)) (rv : ((List Int) × (List Int) × Bool)) (x : Int) (K : (List Int) → Int → Int → Option Bool) : Nat → (List Int) → Int → Int → Option Bool
 | 0, _, _, _ => none
 | n + 1, lv2, x2, x3 => if x3 < (rv.2.1.length : Int) then (Option.bind (ixO a x) fun e => if (IntKind.u64.wrap x3) < 0 then none else (if (Int.tmod (ishr .u32 e (IntKind.u64.wrap x3)) 2) = 0 then (hangfirelaw09_FrameReceivers_L1 F t o a rv x K n lv2 x2 (W (x3 + 1))) else (Option.bind (ixO rv.2.1 x3) fun e2 => if 256 < (W (e2 - x2)) then (Option.bind (hangfirelaw09_Awake F ) fun rv4 => some rv4) else (Option.bind (hangfirelaw09_Sent_list F o x3 t.words) fun rv5 => Option.bind (frame_Encode F t e2 rv5) fun rv6 => if rv6.2 = 0 then (Option.bind (appO lv2 rv6.1) fun q => hangfirelaw09_FrameReceivers_L1 F t o a rv x K n q e2 (W (x3 + 1))) else (some false))))) else (K lv2 x2 x3)
def hangfirelaw09_FrameReceivers_L2 (F : Nat) (a : (List Int)) (x6 : Int) (K : Int → Int → Int → Option Bool) : Nat → Int → Int → Int → Option Bool
 | 0, _, _, _ => none
 | n + 1, x7, x8, x9 => if x9 < (a.length : Int) then (Option.bind (ixO a x9) fun e3 => if (IntKind.u64.wrap x6) < 0 then none else (if (Int.tmod (ishr .u32 e3 (IntKind.u64.wrap x6)) 2) = 0 then (hangfirelaw09_FrameReceivers_L2 F a x6 K n x7 x8 (W (x9 + 1))) else (if x7 < 0 then (hangfirelaw09_FrameReceivers_L2 F a x6 K n x9 (W (x8 + 1)) (W (x9 + 1))) else (hangfirelaw09_FrameReceivers_L2 F a x6 K n x7 (W (x8 + 1)) (W (x9 + 1)))))) else (K x7 x8 x9)
def hangfirelaw09_FrameReceivers_L3 (F : Nat) (t : FrFormat) (o : Sent) (a : (List Int)) (rv : ((List Int) × (List Int) × Bool)) (rv7 : ((List FrReport) × Int)) (K : Int → Int → Option Bool) : Nat → Int → Int → Option Bool
 | 0, _, _ => none
 | n + 1, x5, x6 => if x6 < (rv.2.1.length : Int) then (hangfirelaw09_FrameReceivers_L2 F a x6 (fun (x7 : Int) (x8 : Int) (x9 : Int) => if x8 = 0 then (hangfirelaw09_FrameReceivers_L3 F t o a rv rv7 K n x5 (W (x6 + 1))) else (if (rv7.1.length : Int) ≤ x5 then (some false) else (Option.bind (ixO rv7.1 x5) fun e4 => if e4.marked = true then (some false) else (Option.bind (ixO rv.2.1 x6) fun e5 => if e4.number = e5 then (if e4.from_ = x7 then (if e4.agree = x8 then (Option.bind (hangfirelaw09_Sent_list F o x6 t.words) fun rv8 => Option.bind (r9_Ints F e4.words rv8) fun rv9 => if rv9 = true then (hangfirelaw09_FrameReceivers_L3 F t o a rv rv7 K n (W (x5 + 1)) (W (x6 + 1))) else (some false)) else (some false)) else (some false)) else (some false))))) F (-1) 0 0) else (K x5 x6)
def hangfirelaw09_FrameReceivers_L4 (F : Nat) (t : FrFormat) (o : Sent) (a : (List Int)) (rv : ((List Int) × (List Int) × Bool)) (K : (List FrTape) → Int → Option Bool) : Nat → (List FrTape) → Int → Option Bool
 | 0, _, _ => none
 | n + 1, lv, x => if x < (a.length : Int) then (hangfirelaw09_FrameReceivers_L1 F t o a rv x (fun (lv2 : (List Int)) (x2 : Int) (x3 : Int) => Option.bind (appO lv [(FrTape.mk lv2 o.first)]) fun q2 => hangfirelaw09_FrameReceivers_L4 F t o a rv K n q2 (W (x + 1))) F ([] : List Int) (W (o.first - 1)) 0) else (K lv x)
def hangfirelaw09_FrameReceivers (F : Nat) (t : FrFormat) (o : Sent) (a : (List Int)) : Option Bool := Option.bind (hangfirelaw09_Sent_bytes F o t) fun rv => if rv.2.2 = true then (if 4 < (a.length : Int) then (Option.bind (hangfirelaw09_Awake F ) fun rv2 => some rv2) else (if 32 < (rv.2.1.length : Int) then (Option.bind (hangfirelaw09_Awake F ) fun rv3 => some rv3) else (hangfirelaw09_FrameReceivers_L4 F t o a rv (fun (lv : (List FrTape)) (x : Int) => Option.bind (frame_Merge F t lv) fun rv7 => if rv7.2 = 0 then (hangfirelaw09_FrameReceivers_L3 F t o a rv rv7 (fun (x5 : Int) (x6 : Int) => if x5 = (rv7.1.length : Int) then (Option.bind (hangfirelaw09_Awake F ) fun rv10 => some rv10) else (some false)) F 0 0) else (some false)) F ([] : List FrTape) 0))) else (Option.bind (hangfirelaw09_Awake F ) fun rv11 => some rv11)
theorem hangfirelaw09_FrameReceivers_pc {F : Nat} {t : FrFormat} {o : Sent} {a : (List Int)} {r : Bool} (h : hangfirelaw09_FrameReceivers F t o a = some r) : PC Try.prog 17 [FrFormat.d t, Sent.d o, .arr 1 ((a).map v32)] (.v (.bool r)) := by
 rw [hangfirelaw09_FrameReceivers] at h
 refine SC.of_sw Try.func17 R R R ?_
 dsimp only [argS, List.map]
 refine qG (q_box R (q_box R (q_asgD R (eN (qG (q_ldD (y := Sent.d o) tb R (q_ldD (y := FrFormat.d t) tb R ?_)))))))
 obtain ⟨rv, hrv, h⟩ := bnd h
 refine r_callN (t' := .tup [.row 2 1 0 (rv.1).length, .row 3 1 0 (rv.2.1).length, .d (.v (.bool rv.2.2))]) (news' := [(lv8 rv.1), (lvI rv.2.1)]) (hangfirelaw09_Sent_bytes_scr hrv) (.of (by kernel_rfl)) R R R ((.row (.row .nil))) R R R (r_movT (.tup [.row 2 1 0 (rv.1).length, .row 3 1 0 (rv.2.1).length, .d (.v (.bool rv.2.2))]) R R R (r_ext (t := .row 2 1 0 (rv.1).length) R R R R (r_ext (t := .row 3 1 0 (rv.2.1).length) R R R R (r_ext (t := .d (.v (.bool rv.2.2))) R R R R ?_))))
 with_reducible apply ev_lit
 ·intro c
  replace h := ifP c h
  refine r_asgW R R R (r_asgW R R R (q_asgD R (eN (sw_seq (qG (q_movD R (r_notT R R R (q_movD R (q_movD R (q_lenM tb R ?_))))))))))
  refine r_gtr R R R R ?_ ?_
  ·intro c2
   replace h := ifP c2 h
   refine q_pickF R (q_movD R (q_sk 3 R (q_pickT R (eN (sw_condT R (qG ?_))))))
   obtain ⟨rv2, hrv2, h⟩ := bnd h
   refine r_call (hangfirelaw09_Awake_pc hrv2) (.of (by kernel_rfl)) R R R R (q_asgD R (eN (sw_ret (then_ret ?_))))
   obtain rfl := sI h
   exact f1 6 R
  intro c2
  replace h := ifN (Int.not_lt.2 c2) h
  refine q_pickF R (q_movD R (r_movW R R R (r_lenR tb R R R R R ?_)))
  refine r_gtr R R R R ?_ ?_
  ·intro c3
   replace h := ifP c3 h
   refine q_pickF R (eN (sw_condT R (qG ?_)))
   obtain ⟨rv3, hrv3, h⟩ := bnd h
   refine r_call (hangfirelaw09_Awake_pc hrv3) (.of (by kernel_rfl)) R R R R (q_asgD R (eN (sw_ret (then_ret ?_))))
   obtain rfl := sI h
   exact f1 6 R
  intro c3
  replace h := ifN (Int.not_lt.2 c3) h
  refine q_pickF R (eN (sw_condF R (sw_skip (then_norm (qG (q_asgD R (eN (sw_seq (qG (q_asgD R (eN (sw_block ?_))))))))))))
  refine SW.own (ts' := [(2, .d (.arr 1 ((a).map v32))), (3, .ref 0 4 0 0), (4, .ref 1 3 0 0), (6, .d (.v (.bool false))), (8, .row 3 1 0 (rv.2.1).length), (10, .row 4 2 0 (([] : List FrTape)).length), (11, .d (vI 0))]) (L' := [some ⟨4, [.d (FrFormat.d t)]⟩, some ⟨3, [.d (Sent.d o)]⟩, some (lv8 rv.1), some (lvI rv.2.1)]) 2 R R (.cons (.same _) (.cons (.same _) (.cons (.same _) (.cons (.same _) (.cons (.same _) (.cons .nil (.cons (.same _) .nil))))))) (.same (.same (.same (.same .nil)))) ?_
  simp only [List.cons_append, List.nil_append]
  obtain ⟨K8, hK8, h⟩ : ∃ K, K = _ ∧ hangfirelaw09_FrameReceivers_L4 F t o a rv K F ([] : List FrTape) 0 = some r := ⟨_, rfl, h⟩
  refine sw_loopS (st0 := ⟨[(2, .d (.arr 1 ((a).map v32))), (3, .ref 0 4 0 0), (4, .ref 1 3 0 0), (6, .d (.v (.bool false))), (8, .row 2 1 0 (rv.2.1).length), (10, .row 3 2 0 (([] : List FrTape)).length), (11, .d (vI 0))], [some ⟨4, [.d (FrFormat.d t)]⟩, some ⟨3, [.d (Sent.d o)]⟩, some (lvI rv.2.1), some (lFrTaped ([] : List FrTape))]⟩) (fun m st => ∃ (lv : (List FrTape)) (x : Int), hangfirelaw09_FrameReceivers_L4 F t o a rv K8 m lv x = some r ∧ st = ⟨[(2, .d (.arr 1 ((a).map v32))), (3, .ref 0 4 0 0), (4, .ref 1 3 0 0), (6, .d (.v (.bool false))), (8, .row 2 1 0 (rv.2.1).length), (10, .row 3 2 0 (lv).length), (11, .d (vI x))], [some ⟨4, [.d (FrFormat.d t)]⟩, some ⟨3, [.d (Sent.d o)]⟩, some (lvI rv.2.1), some (lFrTaped lv)]⟩) (.vw (κ := [0, 1, 3, 4]) (vK (.cons R R (.cons R R (.row R (.row R .nil)))) R)) ⟨([] : List FrTape), 0, h, R⟩ ?_
  clear h
  rintro m8 st ⟨lv, x, h, rfl⟩
  cases m8 with
  | zero => cases (show (none : Option Bool) = some r from h)
  | succ m8 =>
  rw [hangfirelaw09_FrameReceivers_L4] at h
  refine sw_seq (qG (q_movD R (q_movD R (q_lenM tb R ?_))))
  refine r_lss R R R R ?_ ?_
  ·intro c4
   replace h := ifP c4 h
   refine eN (sw_condT R (sw_skip (then_norm (sw_seq (sw_block (qG (q_fa tb R (q_ldD (y := vI o.first) tb R (r_build (v := .d (.agg [.v (.slice none 0 0), vI o.first])) tb R R (List.cons_ne_nil _ _) R R R R R R (r_alloc tb R R R R R (q_stE _ _ tb R (eN (qG (q_fa tb R (q_ldD (y := vI o.first) tb R (r_sub R R R R (q_asgD R (eN (sw_seq (qG (q_asgD R (eN (sw_block ?_)))))))))))))))))))))))
   refine SW.own (ts' := [(2, .d (.arr 1 ((a).map v32))), (3, .ref 0 4 0 0), (4, .ref 1 3 0 0), (6, .d (.v (.bool false))), (8, .row 2 1 0 (rv.2.1).length), (10, .row 3 2 0 (lv).length), (11, .d (vI x)), (12, .ref 4 2 0 0), (13, .d (vI (W (o.first - 1)))), (14, .d (vI 0))]) (L' := [some ⟨4, [.d (FrFormat.d t)]⟩, some ⟨3, [.d (Sent.d o)]⟩, some (lvI rv.2.1), some (lFrTaped lv), some ⟨2, [.agg [.row 5 1 0 (([] : List Int)).length, .d (vI o.first)]]⟩]) 1 R R (.cons (.same _) (.cons (.same _) (.cons (.same _) (.cons (.same _) (.cons (.same _) (.cons (.same _) (.cons (.same _) (.cons (.same _) (.cons (.same _) (.cons (.same _) .nil)))))))))) (.same (.same (.same (.same (.cons R (.cons (.aggDL (.cons .nil (.cons (.same _) .nil))) .nil) .nil))))) ?_
   simp only [List.cons_append, List.nil_append]
   obtain ⟨K9, hK9, h⟩ : ∃ K, K = _ ∧ hangfirelaw09_FrameReceivers_L1 F t o a rv x K F ([] : List Int) (W (o.first - 1)) 0 = some r := ⟨_, rfl, h⟩
   refine sw_loopS (fun m st => ∃ (lv2 : (List Int)) (x2 : Int) (x3 : Int), hangfirelaw09_FrameReceivers_L1 F t o a rv x K9 m lv2 x2 x3 = some r ∧ st = ⟨[(2, .d (.arr 1 ((a).map v32))), (3, .ref 0 4 0 0), (4, .ref 1 3 0 0), (6, .d (.v (.bool false))), (8, .row 2 1 0 (rv.2.1).length), (10, .row 3 2 0 (lv).length), (11, .d (vI x)), (12, .ref 4 2 0 0), (13, .d (vI x2)), (14, .d (vI x3))], [some ⟨4, [.d (FrFormat.d t)]⟩, some ⟨3, [.d (Sent.d o)]⟩, some (lvI rv.2.1), some (lFrTaped lv), some ⟨2, [.agg [.row 5 1 0 (lv2).length, .d (vI o.first)]]⟩, some (lv8 lv2)]⟩) (.prn [2, 3, 4, 6, 8, 10, 11, 12, 13, 14] R) ⟨([] : List Int), (W (o.first - 1)), 0, h, R⟩ ?_
   clear h
   rintro m9 st ⟨lv2, x2, x3, h, rfl⟩
   cases m9 with
   | zero => cases (show (none : Option Bool) = some r from h)
   | succ m9 =>
   rw [hangfirelaw09_FrameReceivers_L1] at h
   refine sw_seq (qG (q_movD R (r_movW R R R (r_lenR tb R R R R R ?_))))
   refine r_lss R R R R ?_ ?_
   ·intro c5
    replace h := ifP c5 h
    refine eN (sw_condT R (sw_skip (then_norm (sw_seq (sw_block (sw_seq (qG (q_movD R (q_movD R ?_)))))))))
    obtain ⟨e, ie, h⟩ := bnd h
    refine q_ixE tb (ix0 ie) (ix1m ie) R (q_ldE (y := .v (.int .u32 e)) tb (ix2 (g := v32) ie) R (q_movD R (r_cvI (k2 := .u64) R R R R R R ?_)))
    by_cases c6 : (IntKind.u64.wrap x3) < 0
    ·cases (if_pos c6).symm.trans h
    replace h := ifN c6 h
    refine r_shr R R c6 R R (r_rem R R (by decide) R R ?_)
    refine r_eql R R R R ?_ ?_
    ·intro c7
     replace h := ifP c7 h
     refine eN (sw_condT R (sw_exit (then_exit (block_exit (then_norm (sw_rg (q_movD R (q_add R (q_asgD R (eN ?_))))))))))
     exact ⟨m9, _, Nat.lt_succ_self _, .prn [2, 3, 4, 6, 8, 10, 11, 12, 13, 14] R, lv2, x2, (W (x3 + 1)), h, R⟩
    intro c7
    replace h := ifN c7 h
    refine eN (sw_condF R (sw_skip (then_norm (sw_seq (qG (r_movW R R R (q_movD R ?_)))))))
    obtain ⟨e2, ie2, h⟩ := bnd h
    refine r_ixI tb R R R R R R (ix0 ie2) (ix1 ie2) R R ?_
    refine r_ldD (y := vI e2) tb R R R R (ix2 (g := fun a => T.d (vI a)) ie2) R R R R ?_
    refine q_movD R (r_sub R R R R ?_)
    refine r_gtr R R R R ?_ ?_
    ·intro c8
     replace h := ifP c8 h
     refine eN (sw_condT R (qG ?_))
     obtain ⟨rv4, hrv4, h⟩ := bnd h
     refine r_call (hangfirelaw09_Awake_pc hrv4) (.of (by kernel_rfl)) R R R R (q_asgD R (eN (sw_ret (then_ret (block_ret (then_ret (then_ret (block_ret (then_ret (block_ret (then_ret (then_ret (block_ret (then_ret ?_))))))))))))))
     obtain rfl := sI h
     exact f1 6 R
    intro c8
    replace h := ifN (Int.not_lt.2 c8) h
    refine eN (sw_condF R (sw_skip (then_norm (sw_seq (sw_dr (by kernel_rfl) (q_ldD (y := FrFormat.d t) tb R (r_movW R R R (q_movD R (r_ixI tb R R R R R R (ix0 ie2) (ix1 ie2) R R ?_)))))))))
    refine r_ldD (y := vI e2) tb R R R R (ix2 (g := fun a => T.d (vI a)) ie2) R R R R ?_
    refine q_ldD (y := Sent.d o) tb R (q_movD R (q_fa tb R (q_ldD (y := vI t.words) tb R ?_)))
    obtain ⟨rv5, hrv5, h⟩ := bnd h
    refine r_callN (t' := .row 6 1 0 (rv5).length) (news' := [(lvI rv5)]) (hangfirelaw09_Sent_list_scr hrv5) (.of (by kernel_rfl)) R R R ((.row .nil)) R R R ?_
    obtain ⟨rv6, hrv6, h⟩ := bnd h
    refine r_callLN (t' := .tup [.row 7 1 0 (rv6.1).length, .d (vI rv6.2)]) (news' := [(lv8 rv6.1)]) (frame_Encode_scr hrv6) R ((.row (fun _ => rfl) .nil)) (.of (by kernel_rfl)) R R ((.cons (.d _) (.cons (.d _) (.cons (.row R R) .nil)))) R ((.row .nil)) R R R ?_
    refine r_movT (.tup [.row 7 1 0 (rv6.1).length, .d (vI rv6.2)]) R R R (r_ext (t := .row 7 1 0 (rv6.1).length) R R R R (r_ext (t := .d (vI rv6.2)) R R R R (r_asgW R R R (q_asgD R (ev_endD (by kernel_rfl) (then_norm (sw_seq (qG (q_movD R ?_)))))))))
    refine r_neq R R R R ?_ ?_
    ·intro c9
     replace h := ifN c9 h
     refine eN (sw_condT R (qG (q_asgD R (eN (sw_ret (then_ret (block_ret (then_ret (then_ret (block_ret (then_ret (block_ret (then_ret (then_ret (block_ret (then_ret ?_))))))))))))))))
     obtain rfl := sI h
     exact f1 6 R
    intro c9
    replace h := ifP c9 h
    refine eN (sw_condF R (sw_skip (then_norm (sw_dr (by kernel_rfl) (q_fa tb R (r_ldW tb R R R R R R R R R (r_movW R R R ?_)))))))
    obtain ⟨q, iq, h⟩ := bnd h
    refine r_apM (g := v8) (w := lv2) (v := rv6.1) ([some ⟨4, [.d (FrFormat.d t)]⟩, some ⟨3, [.d (Sent.d o)]⟩, some (lvI rv.2.1), some (lFrTaped lv), some ⟨2, [.agg [.row 5 1 0 (lv2).length, .d (vI o.first)]]⟩, none, some (lvI rv5), some (lv8 rv6.1)]) tb R R R R R R R R R R (ones_map (fun _ => rfl)) iq R R R R R ?_
    refine r_movW R R R (q_movD R (r_ixI tb R R R R R R (ix0 ie2) (ix1 ie2) R R ?_))
    refine r_ldD (y := vI e2) tb R R R R (ix2 (g := fun a => T.d (vI a)) ie2) R R R R ?_
    refine q_fa tb R (q_stE _ _ tb R (q_asgD R (ev_endD (by kernel_rfl) (block_norm (then_norm (sw_rg (q_movD R (q_add R (q_asgD R (eN ?_))))))))))
    exact ⟨m9, ⟨[(2, .d (.arr 1 ((a).map v32))), (3, .ref 0 4 0 0), (4, .ref 1 3 0 0), (6, .d (.v (.bool false))), (8, .row 2 1 0 (rv.2.1).length), (10, .row 3 2 0 (lv).length), (11, .d (vI x)), (12, .ref 4 2 0 0), (13, .d (vI e2)), (14, .d (vI (W (x3 + 1))))], [some ⟨4, [.d (FrFormat.d t)]⟩, some ⟨3, [.d (Sent.d o)]⟩, some (lvI rv.2.1), some (lFrTaped lv), some ⟨2, [.agg [.row 5 1 0 (q).length, .d (vI o.first)]]⟩, some (lv8 q)]⟩, Nat.lt_succ_self _, .vw (κ := [0, 1, 2, 3, 4, 8]) (vK (.cons R R (.cons R R (.row R (.row R (.cons R R (.row R .nil)))))) R), q, e2, (W (x3 + 1)), h, R⟩
   intro c5
   replace h := ifN (Int.not_lt.2 c5) h
   refine eN (sw_condF R (sw_exit (then_exit (then_exit ?_))))
   subst hK9
   refine block_exit (then_norm ?_)
   refine SW.fz (ts' := [(2, .d (.arr 1 ((a).map v32))), (3, .ref 0 4 0 0), (4, .ref 1 3 0 0), (6, .d (.v (.bool false))), (8, .row 2 1 0 (rv.2.1).length), (10, .row 3 2 0 (lv).length), (11, .d (vI x)), (12, .ref 4 2 0 0), (13, .d (vI x2)), (14, .d (vI x3)), (56, .d (vI x3)), (57, .row 2 1 0 (rv.2.1).length), (58, .d (vI (rv.2.1.length : Int))), (59, .d (.v (.bool false)))]) (L' := [some ⟨4, [.d (FrFormat.d t)]⟩, some ⟨3, [.d (Sent.d o)]⟩, some (lvI rv.2.1), some (lFrTaped lv), some ⟨2, [.d (.agg [.arr 1 ((lv2).map v8), vI o.first])]⟩, none]) (w := lv2) (f := v8) 5 1 R (.cons (.same _) (.cons (.same _) (.cons (.same _) (.cons (.same _) (.cons (.same _) (.cons (.same _) (.cons (.same _) (.cons (.same _) (.cons (.same _) (.cons (.same _) (.cons (.same _) (.cons (.same _) (.cons (.same _) (.cons (.same _) .nil)))))))))))))) (.same (.same (.same (.same (.cons R (.cons (.aggDL (.cons (.all (List.length_map _)) (.cons (.same _) .nil))) .nil) (.same .nil)))))) ?_
   refine sw_rg (r_movW R R R (q_ldD (y := .agg [.arr 1 ((lv2).map v8), vI o.first]) tb R (r_bslice tb R R R R R R R R R R R R R ?_)))
   obtain ⟨q2, iq2, h⟩ := bnd h
   refine r_apM (g := FrTape.d) (w := lv) (v := [(FrTape.mk lv2 o.first)]) ([some ⟨4, [.d (FrFormat.d t)]⟩, some ⟨3, [.d (Sent.d o)]⟩, some (lvI rv.2.1), none, some ⟨2, [.d (.agg [.arr 1 ((lv2).map v8), vI o.first])]⟩, none, some (lFrTaped [(FrTape.mk lv2 o.first)])]) tb R R R R R R R R R R R iq2 R R R R R (r_asgW R R R (ev_end (block_norm (then_norm (sw_rg (q_movD R (q_add R (q_asgD R (eN ?_)))))))))
   exact ⟨m8, ⟨[(2, .d (.arr 1 ((a).map v32))), (3, .ref 0 4 0 0), (4, .ref 1 3 0 0), (6, .d (.v (.bool false))), (8, .row 2 1 0 (rv.2.1).length), (10, .row 3 2 0 (q2).length), (11, .d (vI (W (x + 1))))], [some ⟨4, [.d (FrFormat.d t)]⟩, some ⟨3, [.d (Sent.d o)]⟩, some (lvI rv.2.1), some (lFrTaped q2)]⟩, Nat.lt_succ_self _, .vw (κ := [0, 1, 2, 7]) (vK (.cons R R (.cons R R (.row R (.row R .nil)))) R), q2, (W (x + 1)), h, R⟩
  intro c4
  replace h := ifN (Int.not_lt.2 c4) h
  refine eN (sw_condF R (sw_exit (then_exit (then_exit ?_))))
  subst hK8
  refine block_exit (then_norm (sw_seq ?_))
  refine SW.fz (ts' := [(2, .d (.arr 1 ((a).map v32))), (3, .ref 0 4 0 0), (4, .ref 1 3 0 0), (6, .d (.v (.bool false))), (8, .row 2 1 0 (rv.2.1).length), (10, .d (.arr 2 ((lv).map FrTape.d))), (11, .d (vI x)), (44, .d (vI x)), (45, .d (.arr 1 ((a).map v32))), (46, .d (vI (a.length : Int))), (47, .d (.v (.bool false)))]) (L' := [some ⟨4, [.d (FrFormat.d t)]⟩, some ⟨3, [.d (Sent.d o)]⟩, some (lvI rv.2.1), none]) (w := lv) (f := FrTape.d) 3 2 R (.cons (.same _) (.cons (.same _) (.cons (.same _) (.cons (.same _) (.cons (.same _) (.cons (.all (List.length_map _)) (.cons (.same _) (.cons (.same _) (.cons (.same _) (.cons (.same _) (.cons (.same _) .nil))))))))))) (.same (.same (.same (.same .nil)))) ?_
  refine sw_rg (q_ldD (y := FrFormat.d t) tb R (q_movD R ?_))
  obtain ⟨rv7, hrv7, h⟩ := bnd h
  refine r_callN (t' := .tup [.row 4 5 0 (rv7.1).length, .d (vI rv7.2)]) (news' := [(lFrReportd rv7.1)]) (frame_Merge_scr hrv7) (.of (by kernel_rfl)) R R R ((.row .nil)) R R R (r_movT (.tup [.row 4 5 0 (rv7.1).length, .d (vI rv7.2)]) R R R (r_ext (t := .row 4 5 0 (rv7.1).length) R R R R (r_ext (t := .d (vI rv7.2)) R R R R (r_asgW R R R (q_asgD R (eN (sw_seq (qG (q_movD R ?_)))))))))
  refine r_neq R R R R ?_ ?_
  ·intro c10
   replace h := ifN c10 h
   refine eN (sw_condT R (qG (q_asgD R (eN (sw_ret (then_ret ?_))))))
   obtain rfl := sI h
   exact f1 6 R
  intro c10
  replace h := ifP c10 h
  refine eN (sw_condF R (sw_skip (then_norm (qG (q_asgD R (eN (sw_seq (qG (q_asgD R (eN (sw_block ?_)))))))))))
  obtain ⟨K16, hK16, h⟩ : ∃ K, K = _ ∧ hangfirelaw09_FrameReceivers_L3 F t o a rv rv7 K F 0 0 = some r := ⟨_, rfl, h⟩
  refine sw_loopS (st0 := ⟨[(2, .d (.arr 1 ((a).map v32))), (3, .ref 0 4 0 0), (4, .ref 1 3 0 0), (6, .d (.v (.bool false))), (8, .row 2 1 0 (rv.2.1).length), (17, .row 3 5 0 (rv7.1).length), (19, .d (vI 0)), (20, .d (vI 0))], [some ⟨4, [.d (FrFormat.d t)]⟩, some ⟨3, [.d (Sent.d o)]⟩, some (lvI rv.2.1), some (lFrReportd rv7.1)]⟩) (fun m st => ∃ (x5 : Int) (x6 : Int), hangfirelaw09_FrameReceivers_L3 F t o a rv rv7 K16 m x5 x6 = some r ∧ st = ⟨[(2, .d (.arr 1 ((a).map v32))), (3, .ref 0 4 0 0), (4, .ref 1 3 0 0), (6, .d (.v (.bool false))), (8, .row 2 1 0 (rv.2.1).length), (17, .row 3 5 0 (rv7.1).length), (19, .d (vI x5)), (20, .d (vI x6))], [some ⟨4, [.d (FrFormat.d t)]⟩, some ⟨3, [.d (Sent.d o)]⟩, some (lvI rv.2.1), some (lFrReportd rv7.1)]⟩) (.vw (κ := [0, 1, 2, 4]) (vK (.cons R R (.cons R R (.row R (.row R .nil)))) R)) ⟨0, 0, h, R⟩ ?_
  clear h
  rintro m16 st ⟨x5, x6, h, rfl⟩
  cases m16 with
  | zero => cases (show (none : Option Bool) = some r from h)
  | succ m16 =>
  rw [hangfirelaw09_FrameReceivers_L3] at h
  refine sw_seq (qG (q_movD R (r_movW R R R (r_lenR tb R R R R R ?_))))
  refine r_lss R R R R ?_ ?_
  ·intro c11
   replace h := ifP c11 h
   refine eN (sw_condT R (sw_skip (then_norm (sw_seq (sw_block (qG (q_asgD R (q_asgD R (eN (sw_seq (qG (q_asgD R (eN (sw_block ?_))))))))))))))
   obtain ⟨K17, hK17, h⟩ : ∃ K, K = _ ∧ hangfirelaw09_FrameReceivers_L2 F a x6 K F (-1) 0 0 = some r := ⟨_, rfl, h⟩
   refine sw_loopS (fun m st => ∃ (x7 : Int) (x8 : Int) (x9 : Int), hangfirelaw09_FrameReceivers_L2 F a x6 K17 m x7 x8 x9 = some r ∧ st = ⟨[(2, .d (.arr 1 ((a).map v32))), (3, .ref 0 4 0 0), (4, .ref 1 3 0 0), (6, .d (.v (.bool false))), (8, .row 2 1 0 (rv.2.1).length), (17, .row 3 5 0 (rv7.1).length), (19, .d (vI x5)), (20, .d (vI x6)), (21, .d (vI x7)), (22, .d (vI x8)), (23, .d (vI x9))], [some ⟨4, [.d (FrFormat.d t)]⟩, some ⟨3, [.d (Sent.d o)]⟩, some (lvI rv.2.1), some (lFrReportd rv7.1)]⟩) (.prn [2, 3, 4, 6, 8, 17, 19, 20, 21, 22, 23] R) ⟨(-1), 0, 0, h, R⟩ ?_
   clear h
   rintro m17 st ⟨x7, x8, x9, h, rfl⟩
   cases m17 with
   | zero => cases (show (none : Option Bool) = some r from h)
   | succ m17 =>
   rw [hangfirelaw09_FrameReceivers_L2] at h
   refine sw_seq (qG (q_movD R (q_movD R (q_lenM tb R ?_))))
   refine r_lss R R R R ?_ ?_
   ·intro c12
    replace h := ifP c12 h
    refine eN (sw_condT R (sw_skip (then_norm (sw_seq (sw_block (sw_seq (qG (q_movD R (q_movD R ?_)))))))))
    obtain ⟨e3, ie3, h⟩ := bnd h
    refine q_ixE tb (ix0 ie3) (ix1m ie3) R (q_ldE (y := .v (.int .u32 e3)) tb (ix2 (g := v32) ie3) R (q_movD R (r_cvI (k2 := .u64) R R R R R R ?_)))
    by_cases c13 : (IntKind.u64.wrap x6) < 0
    ·cases (if_pos c13).symm.trans h
    replace h := ifN c13 h
    refine r_shr R R c13 R R (r_rem R R (by decide) R R ?_)
    refine r_eql R R R R ?_ ?_
    ·intro c14
     replace h := ifP c14 h
     refine eN (sw_condT R (sw_exit (then_exit (block_exit (then_norm (sw_rg (q_movD R (q_add R (q_asgD R (eN ?_))))))))))
     exact ⟨m17, _, Nat.lt_succ_self _, .prn [2, 3, 4, 6, 8, 17, 19, 20, 21, 22, 23] R, x7, x8, (W (x9 + 1)), h, R⟩
    intro c14
    replace h := ifN c14 h
    refine eN (sw_condF R (sw_skip (then_norm (qG (q_movD R (q_add R (q_asgD R (eN (qG (q_movD R ?_))))))))))
    refine r_lss R R R R ?_ ?_
    ·intro c15
     replace h := ifP c15 h
     refine eN (sw_condT R (sw_rg (q_movD R (q_asgD R (ev_end (block_norm (then_norm (sw_rg (q_movD R (q_add R (q_asgD R (eN ?_))))))))))))
     exact ⟨m17, _, Nat.lt_succ_self _, .prn [2, 3, 4, 6, 8, 17, 19, 20, 21, 22, 23] R, x9, (W (x8 + 1)), (W (x9 + 1)), h, R⟩
    intro c15
    replace h := ifN (Int.not_lt.2 c15) h
    refine eN (sw_condF R (sw_skip (block_norm (then_norm (sw_rg (q_movD R (q_add R (q_asgD R (eN ?_)))))))))
    exact ⟨m17, _, Nat.lt_succ_self _, .prn [2, 3, 4, 6, 8, 17, 19, 20, 21, 22, 23] R, x7, (W (x8 + 1)), (W (x9 + 1)), h, R⟩
   intro c12
   replace h := ifN (Int.not_lt.2 c12) h
   refine eN (sw_condF R (sw_exit (then_exit (then_exit ?_))))
   subst hK17
   refine block_exit (then_norm (sw_seq (qG (q_movD R ?_))))
   refine r_eql R R R R ?_ ?_
   ·intro c16
    replace h := ifP c16 h
    refine eN (sw_condT R (sw_exit (then_exit (block_exit (then_norm (sw_rg (q_movD R (q_add R (q_asgD R (eN ?_))))))))))
    exact ⟨m16, _, Nat.lt_succ_self _, .prn [2, 3, 4, 6, 8, 17, 19, 20] R, x5, (W (x6 + 1)), h, R⟩
   intro c16
   replace h := ifN c16 h
   refine eN (sw_condF R (sw_skip (then_norm (sw_seq (sw_seq (sw_dr (by kernel_rfl) (q_movD R (r_movW R R R (r_lenR tb R R R R R ?_)))))))))
   refine r_geq R R R R ?_ ?_
   ·intro c17
    replace h := ifP c17 h
    refine q_movD R (q_sk 5 R (q_pickT R (q_movD R (q_sk 10 R (q_pickT R (q_movD R (q_sk 7 R (q_pickT R (q_movD R (q_sk 7 R (q_pickT R (q_movD R (q_sk 12 R (q_pickT R (ev_endD (by kernel_rfl) (then_norm (sw_condT R (qG (q_asgD R (eN (sw_ret (then_ret (block_ret (then_ret (then_ret (block_ret (then_ret ?_)))))))))))))))))))))))))))
    obtain rfl := sI h
    exact f1 6 R
   intro c17
   replace h := ifN (Int.not_le.2 c17) h
   refine q_movD R (r_movW R R R (q_movD R ?_))
   obtain ⟨e4, ie4, h⟩ := bnd h
   refine r_ixI tb R R R R R R (ix0 ie4) (ix1 ie4) R R (q_fa tb R ?_)
   refine r_ldD (y := .v (.bool e4.marked)) tb R R R R (ix2 (g := fun a => T.d (FrReport.d a)) ie4) R R R R ?_
   with_reducible apply ev_lit
   ·intro c18
    replace h := ifP c18 h
    refine q_pickF R (q_movD R (q_sk 10 R (q_pickT R (q_movD R (q_sk 7 R (q_pickT R (q_movD R (q_sk 7 R (q_pickT R (q_movD R (q_sk 12 R (q_pickT R (ev_endD (by kernel_rfl) (then_norm (sw_condT R (qG (q_asgD R (eN (sw_ret (then_ret (block_ret (then_ret (then_ret (block_ret (then_ret ?_)))))))))))))))))))))))))
    obtain rfl := sI h
    exact f1 6 R
   intro c18
   replace h := ifF c18 h
   refine q_pickF R (q_movD R (r_movW R R R (q_movD R (r_ixI tb R R R R R R (ix0 ie4) (ix1 ie4) R R (q_fa tb R ?_)))))
   refine r_ldD (y := vI e4.number) tb R R R R (ix2 (g := fun a => T.d (FrReport.d a)) ie4) R R R R ?_
   refine r_movW R R R (q_movD R ?_)
   obtain ⟨e5, ie5, h⟩ := bnd h
   refine r_ixI tb R R R R R R (ix0 ie5) (ix1 ie5) R R ?_
   refine r_ldD (y := vI e5) tb R R R R (ix2 (g := fun a => T.d (vI a)) ie5) R R R R ?_
   refine r_neq R R R R ?_ ?_
   ·intro c19
    replace h := ifN c19 h
    refine q_pickF R (q_movD R (q_sk 7 R (q_pickT R (q_movD R (q_sk 7 R (q_pickT R (q_movD R (q_sk 12 R (q_pickT R (ev_endD (by kernel_rfl) (then_norm (sw_condT R (qG (q_asgD R (eN (sw_ret (then_ret (block_ret (then_ret (then_ret (block_ret (then_ret ?_))))))))))))))))))))))
    obtain rfl := sI h
    exact f1 6 R
   intro c19
   replace h := ifP c19 h
   refine q_pickF R (q_movD R (r_movW R R R (q_movD R (r_ixI tb R R R R R R (ix0 ie4) (ix1 ie4) R R (q_fa tb R ?_)))))
   refine r_ldD (y := vI e4.from_) tb R R R R (ix2 (g := fun a => T.d (FrReport.d a)) ie4) R R R R ?_
   refine q_movD R ?_
   refine r_neq R R R R ?_ ?_
   ·intro c20
    replace h := ifN c20 h
    refine q_pickF R (q_movD R (q_sk 7 R (q_pickT R (q_movD R (q_sk 12 R (q_pickT R (ev_endD (by kernel_rfl) (then_norm (sw_condT R (qG (q_asgD R (eN (sw_ret (then_ret (block_ret (then_ret (then_ret (block_ret (then_ret ?_)))))))))))))))))))
    obtain rfl := sI h
    exact f1 6 R
   intro c20
   replace h := ifP c20 h
   refine q_pickF R (q_movD R (r_movW R R R (q_movD R (r_ixI tb R R R R R R (ix0 ie4) (ix1 ie4) R R (q_fa tb R ?_)))))
   refine r_ldD (y := vI e4.agree) tb R R R R (ix2 (g := fun a => T.d (FrReport.d a)) ie4) R R R R ?_
   refine q_movD R ?_
   refine r_neq R R R R ?_ ?_
   ·intro c21
    replace h := ifN c21 h
    refine q_pickF R (q_movD R (q_sk 12 R (q_pickT R (ev_endD (by kernel_rfl) (then_norm (sw_condT R (qG (q_asgD R (eN (sw_ret (then_ret (block_ret (then_ret (then_ret (block_ret (then_ret ?_))))))))))))))))
    obtain rfl := sI h
    exact f1 6 R
   intro c21
   replace h := ifP c21 h
   refine q_pickF R (q_movD R (r_movW R R R (q_movD R (r_ixI tb R R R R R R (ix0 ie4) (ix1 ie4) R R (q_fa tb R ?_)))))
   refine r_ldD (y := .arr 1 ((e4.words).map vI)) tb R R R R (ix2 (g := fun a => T.d (FrReport.d a)) ie4) R R R R ?_
   refine q_ldD (y := Sent.d o) tb R (q_movD R (q_fa tb R (q_ldD (y := vI t.words) tb R ?_)))
   obtain ⟨rv8, hrv8, h⟩ := bnd h
   refine r_callN (t' := .row 4 1 0 (rv8).length) (news' := [(lvI rv8)]) (hangfirelaw09_Sent_list_scr hrv8) (.of (by kernel_rfl)) R R R ((.row .nil)) R R R ?_
   obtain ⟨rv9, hrv9, h⟩ := bnd h
   refine r_callLB (r9_Ints_pc hrv9) (.of (by kernel_rfl)) R R ((.cons (.d _) (.cons (.row R R) .nil))) R R ?_ ?_
   ·intro c22
    replace h := ifP c22 h
    refine r_notT R R R (q_pickF R (ev_endD (by kernel_rfl) (then_norm (sw_condF R (sw_skip (then_norm (sw_rg (q_movD R (q_add R (q_asgD R (ev_end (block_norm (then_norm (sw_rg (q_movD R (q_add R (q_asgD R (eN ?_))))))))))))))))))
    exact ⟨m16, ⟨[(2, .d (.arr 1 ((a).map v32))), (3, .ref 0 4 0 0), (4, .ref 1 3 0 0), (6, .d (.v (.bool false))), (8, .row 2 1 0 (rv.2.1).length), (17, .row 3 5 0 (rv7.1).length), (19, .d (vI (W (x5 + 1)))), (20, .d (vI (W (x6 + 1))))], [some ⟨4, [.d (FrFormat.d t)]⟩, some ⟨3, [.d (Sent.d o)]⟩, some (lvI rv.2.1), some (lFrReportd rv7.1)]⟩, Nat.lt_succ_self _, .vw (κ := [0, 1, 2, 3]) (vK (.cons R R (.cons R R (.row R (.row R .nil)))) R), (W (x5 + 1)), (W (x6 + 1)), h, R⟩
   intro c22
   replace h := ifF c22 h
   refine r_notF R R R (q_pickF R (ev_endD (by kernel_rfl) (then_norm (sw_condT R (qG (q_asgD R (eN (sw_ret (then_ret (block_ret (then_ret (then_ret (block_ret (then_ret ?_))))))))))))))
   obtain rfl := sI h
   exact f1 6 R
  intro c11
  replace h := ifN (Int.not_lt.2 c11) h
  refine eN (sw_condF R (sw_exit (then_exit (then_exit ?_))))
  subst hK16
  refine block_exit (then_norm (qG (q_movD R (r_movW R R R (r_lenR tb R R R R R ?_)))))
  refine r_eql R R R R ?_ ?_
  ·intro c23
   replace h := ifP c23 h
   refine q_movD R ?_
   obtain ⟨rv10, hrv10, h⟩ := bnd h
   refine r_call (hangfirelaw09_Awake_pc hrv10) (.of (by kernel_rfl)) R R R R (q_pickT R (q_asgD R (eN (sw_ret ?_))))
   obtain rfl := sI h
   exact f1 6 R
  intro c23
  replace h := ifN c23 h
  refine q_movD R (q_skip R (q_pickF R (q_asgD R (eN (sw_ret ?_)))))
  obtain rfl := sI h
  exact f1 6 R
 intro c
 replace h := ifF c h
 refine r_asgW R R R (r_asgW R R R (q_asgD R (eN (sw_seq (qG (q_movD R (r_notF R R R (q_movD R (q_sk 3 R (q_pickT R (q_movD R (q_sk 3 R (q_pickT R (eN (sw_condT R (qG ?_))))))))))))))))
 obtain ⟨rv11, hrv11, h⟩ := bnd h
 refine r_call (hangfirelaw09_Awake_pc hrv11) (.of (by kernel_rfl)) R R R R (q_asgD R (eN (sw_ret (then_ret ?_))))
 obtain rfl := sI h
 exact f1 6 R
end Go.Proofs.Ytjnnkcnnandeeaa
