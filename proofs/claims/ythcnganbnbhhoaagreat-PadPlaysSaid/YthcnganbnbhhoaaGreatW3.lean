/- What functions of the program compute: plain functions, and the proofs. -/
import Derived.Test.YthcnganbnbhhoaaGreatW2
open Go Go.Proofs.YthcnganbnbhhoaaGreat.Sh Go.Proofs
namespace Go.Proofs.YthcnganbnbhhoaaGreat
set_option linter.unusedVariables false
set_option linter.unusedSimpArgs false
set_option maxRecDepth 100000
set_option maxHeartbeats 4000000
def pad_scene_owed_L1 (F : Nat) (c : Scene) (e : PdSquib) (K : (List Int) → Int → Option (List Int)) : Nat → (List Int) → Int → Option (List Int)
 | 0, _, _ => none
 | n + 1, lv, x => if x < (e.keys.length : Int) then (Option.bind (ixO e.keys x) fun e2 => Option.bind (ixO c.pdState_Holder e2) fun e3 => if 0 ≤ e3 then (Option.bind (appO lv [e2]) fun q => pad_scene_owed_L1 F c e K n q (W (x + 1))) else (pad_scene_owed_L1 F c e K n lv (W (x + 1)))) else (K lv x)
def pad_scene_owed (F : Nat) (c : Scene) (squib : Int) : Option (List Int) := Option.bind (ixO c.p_Squibs squib) fun e => pad_scene_owed_L1 F c e (fun (lv : (List Int)) (x : Int) => some lv) F ([] : List Int) 0
theorem pad_scene_owed_scr {F : Nat} {c : Scene} {squib : Int} {r : (List Int)} (h : pad_scene_owed F c squib = some r) : SCR Tryz.prog 35 (List.map T.d [.el 13 (([c]).map Scene.d) ((0 : Int)).toNat 0, .v (.int .i64 squib)]) [] (.row 0 1 0 (r).length) (List.map some [(lvI r)]) := by
 rw [pad_scene_owed] at h
 refine SC.of_sw Tryz.func35 R R R ?_
 dsimp only [argS, List.map]
 refine qG (q_asgD R (eN (sw_seq (qG (q_movD R (r_nilEl R R R (q_faE tb R (q_faE tb R (q_ldE (y := .arr 6 ((c.p_Squibs).map PdSquib.d)) tb (ix2 (g := Scene.d) (R : ixO [c] 0 = some c)) R (q_movD R ?_))))))))))
 obtain ⟨e, ie, h⟩ := bnd h
 refine q_ixE tb (ix0 ie) (ix1m ie) R (q_faE tb R (q_ldE (y := .arr 1 ((e.keys).map vI)) tb (ix2 (g := PdSquib.d) ie) R (q_lenM tb R (q_movD R (eN (sw_block ?_))))))
 refine SW.own (ts' := [(0, .d (.el 13 (([c]).map Scene.d) ((0 : Int)).toNat 0)), (4, .row 0 1 0 (([] : List Int)).length), (15, .d (.arr 1 ((e.keys).map vI))), (16, .d (vI (e.keys.length : Int))), (17, .d (vI 0))]) (L' := []) 1 R R (.cons (.same _) (.cons .nil (.cons (.same _) (.cons (.same _) (.cons (.same _) .nil))))) .nil ?_
 simp only [List.cons_append, List.nil_append]
 obtain ⟨K2, hK2, h⟩ : ∃ K, K = _ ∧ pad_scene_owed_L1 F c e K F ([] : List Int) 0 = some r := ⟨_, rfl, h⟩
 refine sw_loopS (fun m st => ∃ (lv : (List Int)) (x : Int), pad_scene_owed_L1 F c e K2 m lv x = some r ∧ st = ⟨[(0, .d (.el 13 (([c]).map Scene.d) ((0 : Int)).toNat 0)), (4, .row 0 1 0 (lv).length), (15, .d (.arr 1 ((e.keys).map vI))), (16, .d (vI (e.keys.length : Int))), (17, .d (vI x))], [some (lvI lv)]⟩) (.prn [0, 4, 15, 16, 17] R) ⟨([] : List Int), 0, h, R⟩ ?_
 clear h
 rintro m2 st ⟨lv, x, h, rfl⟩
 cases m2 with
 | zero => cases (show (none : Option (List Int)) = some r from h)
 | succ m2 =>
 rw [pad_scene_owed_L1] at h
 refine qG ?_
 refine r_lss R R R R ?_ ?_
 ·intro c2
  replace h := ifP c2 h
  refine eN (sw_seq (sw_condT R (sw_skip (then_norm (sw_seq (sw_block (qG ?_)))))))
  obtain ⟨e2, ie2, h⟩ := bnd h
  refine q_ixE tb (ix0 ie2) (ix1m ie2) R (q_ldE (y := vI e2) tb (ix2 (g := vI) ie2) R (q_asgD R (eN (qG (q_movD R (r_nilEl R R R (q_faE tb R (q_faE tb R (q_ldE (y := .arr 1 ((c.pdState_Holder).map vI)) tb (ix2 (g := Scene.d) (R : ixO [c] 0 = some c)) R (q_movD R ?_))))))))))
  obtain ⟨e3, ie3, h⟩ := bnd h
  refine q_ixE tb (ix0 ie3) (ix1m ie3) R (q_ldE (y := vI e3) tb (ix2 (g := vI) ie3) R ?_)
  refine r_geq R R R R ?_ ?_
  ·intro c3
   replace h := ifP c3 h
   refine eN (sw_condT R (sw_rg (r_movW R R R (q_movD R (r_bslice tb R R R R R R R R R R R R R ?_)))))
   obtain ⟨q, iq, h⟩ := bnd h
   refine r_apM (g := vI) (w := lv) (v := [e2]) ([none, some (lvI [e2])]) tb R R R R R R R R R R R iq R R R R R (r_asgW R R R (ev_end (block_norm (then_norm (sw_rg (q_add R (q_movD R (eN ?_))))))))
   exact ⟨m2, ⟨[(0, .d (.el 13 (([c]).map Scene.d) ((0 : Int)).toNat 0)), (4, .row 0 1 0 (q).length), (15, .d (.arr 1 ((e.keys).map vI))), (16, .d (vI (e.keys.length : Int))), (17, .d (vI (W (x + 1))))], [some (lvI q)]⟩, Nat.lt_succ_self _, .vw (κ := [2]) (vK (.row R .nil) R), q, (W (x + 1)), h, R⟩
  intro c3
  replace h := ifN (Int.not_le.2 c3) h
  refine eN (sw_condF R (sw_skip (block_norm (then_norm (sw_rg (q_add R (q_movD R (eN ?_))))))))
  exact ⟨m2, _, Nat.lt_succ_self _, .prn [0, 4, 15, 16, 17] R, lv, (W (x + 1)), h, R⟩
 intro c2
 replace h := ifN (Int.not_lt.2 c2) h
 refine eN (sw_seq (sw_condF R (sw_exit (then_exit (then_exit ?_)))))
 subst hK2
 refine block_exit (then_norm (qG (r_movW R R R (r_asgW R R R (eN (sw_ret ?_))))))
 obtain rfl := sI h
 exact f2 [0] (.row R .nil) R (.cons (.tmp 4) .nil) R
theorem pad_scene_owed_pc {F : Nat} {c : Scene} {squib : Int} {r : (List Int)} (h : pad_scene_owed F c squib = some r) : PC Tryz.prog 35 [.el 13 (([c]).map Scene.d) ((0 : Int)).toNat 0, .v (.int .i64 squib)] (.arr 1 ((r).map vI)) := (pad_scene_owed_scr h).toPC (.row rfl rfl)
def pad_scene_keyed_1 (F : Nat) (k : Int) (c : Scene) (c2 : Int) : Option Bool := Option.bind (ixO c.pdState_Holder k) fun e => some (decide (e = c2))
theorem pad_scene_keyed_1_pc {F : Nat} {k : Int} {c : Scene} {c2 : Int} {r : Bool} (h : pad_scene_keyed_1 F k c c2 = some r) : PC Tryz.prog 102 [.v (.int .i64 k), .el 1 (([c]).map (fun x => D.el 13 [Scene.d x] 0 0)) ((0 : Int)).toNat 0, .el 1 (([c2]).map vI) ((0 : Int)).toNat 0] (.v (.bool r)) := by
 rw [pad_scene_keyed_1] at h
 refine SC.of_sw Tryz.func102 R R R ?_
 dsimp only [argS, List.map]
 refine qG (q_asgD R (eN (sw_seq (sw_dr (by kernel_rfl) ?_))))
 refine q_ldE (y := .el 13 (([c]).map Scene.d) ((0 : Int)).toNat 0) tb (ix2 (g := (fun x => D.el 13 [Scene.d x] 0 0)) (R : ixO [c] 0 = some c)) R ?_
 refine r_nilEl R R R (q_faE tb R (q_faE tb R (q_ldE (y := .arr 1 ((c.pdState_Holder).map vI)) tb (ix2 (g := Scene.d) (R : ixO [c] 0 = some c)) R (q_movD R ?_))))
 obtain ⟨e, ie, h⟩ := bnd h
 refine q_ixE tb (ix0 ie) (ix1m ie) R (q_ldE (y := vI e) tb (ix2 (g := vI) ie) R (q_ldE (y := vI c2) tb (ix2 (g := vI) (R : ixO [c2] 0 = some c2)) R (r_eqlV R R R R (q_asgD R (ev_endD (by kernel_rfl) (then_norm (sw_ret ?_)))))))
 obtain rfl := sI h
 exact f1 4 R
def pad_scene_keyed_J1 (F : Nat) (B4 : Int → Option Bool) (x : Int) : Option Bool := B4 (W (x + 1))
def pad_scene_keyed_L1 (F : Nat) (c : Scene) (person : Int) (rv : (Int × PdPad)) (e : PdZone) (K : Int → Option Bool) : Nat → Int → Option Bool
 | 0, _ => none
 | n + 1, x => if x < (rv.2.squibs.length : Int) then (Option.bind (ixO rv.2.squibs x) fun e2 => if (W ((W ((max (max (W (e.area_X_Lo - e2.at_X)) (W (e2.at_X - e.area_X_Hi))) 0) * (max (max (W (e.area_X_Lo - e2.at_X)) (W (e2.at_X - e.area_X_Hi))) 0))) + (W ((max (max (W (e.area_Y_Lo - e2.at_Y)) (W (e2.at_Y - e.area_Y_Hi))) 0) * (max (max (W (e.area_Y_Lo - e2.at_Y)) (W (e2.at_Y - e.area_Y_Hi))) 0))))) < (W (e2.clear * e2.clear)) then (Option.bind (ixO c.pdState_Squibs x) fun e3 => if e3 = 2 then (pad_scene_keyed_J1 F (pad_scene_keyed_L1 F c person rv e K n) x) else (Option.bind (ixO c.p_Squibs x) fun e4 => Option.bind (slices_ContainsFunc_int F e4.keys (fun a0 => pad_scene_keyed_1 F a0 c person)) fun rv2 => if rv2 = true then (pad_scene_keyed_J1 F (pad_scene_keyed_L1 F c person rv e K n) x) else (some false))) else (pad_scene_keyed_L1 F c person rv e K n (W (x + 1)))) else (K x)
def pad_scene_keyed (F : Nat) (c : Scene) (person : Int) (zone : Int) : Option Bool := Option.bind (pad_near F (PdPad.mk c.p_Zones c.p_Doors c.p_People c.p_Keys c.p_Squibs c.p_Panel c.p_Wait) zone) fun rv => if rv.1 < 0 then (some true) else (Option.bind (ixO rv.2.zones rv.1) fun e => pad_scene_keyed_L1 F c person rv e (fun (x : Int) => some true) F 0)
theorem pad_scene_keyed_pc {F : Nat} {c : Scene} {person : Int} {zone : Int} {r : Bool} (h : pad_scene_keyed F c person zone = some r) : PC Tryz.prog 79 [.el 13 (([c]).map Scene.d) ((0 : Int)).toNat 0, .v (.int .i64 person), .v (.int .i64 zone)] (.v (.bool r)) := by
 rw [pad_scene_keyed] at h
 refine SC.of_swm Tryz.func79 R R R ?_
 dsimp only [argS, List.map]
 refine swm_seq ?_
 refine swm_of fun df => ?_
 refine sw_rg (q_box R (q_box R (r_alloc tb R R R R R (eN (swm_seq (swm_seq ?_))))))
 refine swm_of fun df => ?_
 refine sw_rg (q_ldD (y := .el 13 (([c]).map Scene.d) ((0 : Int)).toNat 0) tb R (r_nilEl R R R (q_faE tb R (q_ldE (y := .agg [.arr 8 ((c.p_Zones).map PdZone.d), .arr 2 ((c.p_Doors).map PdDoor.d), .arr 2 ((c.p_People).map PdPerson.d), .arr 1 ((c.p_Keys).map vS), .arr 6 ((c.p_Squibs).map PdSquib.d), vI c.p_Panel, vI c.p_Wait]) tb (ix2 (g := Scene.d) (R : ixO [c] 0 = some c)) R (q_movD R ?_)))))
 obtain ⟨rv, hrv, h⟩ := bnd h
 refine r_callN (t' := .fn (.func 83) [] [.ref 3 1 0 0, .ref 4 7 0 0]) (news' := [⟨1, [.d (vI rv.1)]⟩, ⟨7, [.d (PdPad.d rv.2)]⟩]) (pad_near_scr hrv) (.of (by kernel_rfl)) R R R ((.cons R (.cons R .nil))) R R R (eN (swm_block ?_))
 refine swm_range (.of (by kernel_rfl)) Tryz.func83 R R R R R R fun lb => ?_
 simp only [argS, Nat.zero_add, Nat.reduceAdd]
 refine swj_seq (swj_seq (swj_rg (rgj_ev (q_ldD (y := vI rv.1) tb R ?_))))
 refine r_lss R R R R ?_ ?_
 ·intro c2
  replace h := ifP c2 h
  refine ev_endJ (thenj_norm (swj_condT R (swj_ret (thenj_ret ?_))))
  refine ⟨R, [some ⟨1, [.d (.el 13 (([c]).map Scene.d) ((0 : Int)).toNat 0)]⟩, some ⟨1, [.d (vI person)]⟩, some ⟨1, [.d (.v (.bool false))]⟩, some ⟨1, [.d (vI rv.1)]⟩, some ⟨7, [.d (PdPad.d rv.2)]⟩], [0, 1, 2, 3, 4], (vK (.cons R R (.cons R R (.cons R R (.cons R R (.cons R R .nil))))) R), ?_⟩
  refine block_norm (then_norm ?_)
  refine swm_of fun df => ?_
  refine qG (q_stE _ _ tb R (eN (sw_ret ?_)))
  obtain rfl := sI h
  exact fin_0 (t := .d (.v (.bool true))) R R R (.cons (rc tb R) .nil)
 intro c2
 replace h := ifN (Int.not_lt.2 c2) h
 refine ev_endJ (thenj_norm (swj_condF R (swj_skip (thenj_norm (swj_seq (swj_rg (rgj_ev (q_fa tb R (q_ldD (y := .arr 8 ((rv.2.zones).map PdZone.d)) tb R (q_ldD (y := vI rv.1) tb R ?_))))))))))
 obtain ⟨e, ie, h⟩ := bnd h
 refine q_ixE tb (ix0 ie) (ix1m ie) R (q_faE tb R (q_ldE (y := .agg [vI e.area_X_Lo, vI e.area_X_Hi, vI e.area_Y_Lo, vI e.area_Y_Hi]) tb (ix2 (g := PdZone.d) ie) R (r_alloc tb R R R R R (q_stE _ _ tb R (ev_endJ (thenj_norm (swj_seq (swj_rg (rgj_ev (q_fa tb R (q_ldD (y := .arr 6 ((rv.2.squibs).map PdSquib.d)) tb R (q_lenM tb R (q_movD R (ev_endJ (thenj_norm (swj_block ?_))))))))))))))))
 obtain ⟨K4, hK4, h⟩ : ∃ K, K = _ ∧ pad_scene_keyed_L1 F c person rv e K F 0 = some r := ⟨_, rfl, h⟩
 refine swj_loopS (fun m ph st => ∃ (x : Int), pad_scene_keyed_L1 F c person rv e K4 m x = some r ∧ ph = SX.norm ∧ st = ⟨[(0, .d (.v (.func (.yield lb) #[] #[]))), (4, .ref 5 4 0 0), (18, .d (.arr 6 ((rv.2.squibs).map PdSquib.d))), (19, .d (vI (rv.2.squibs.length : Int))), (20, .d (vI x))], [some ⟨1, [.d (.el 13 (([c]).map Scene.d) ((0 : Int)).toNat 0)]⟩, some ⟨1, [.d (vI person)]⟩, some ⟨1, [.d (.v (.bool false))]⟩, some ⟨1, [.d (vI rv.1)]⟩, some ⟨7, [.d (PdPad.d rv.2)]⟩, some ⟨4, [.d (.agg [vI e.area_X_Lo, vI e.area_X_Hi, vI e.area_Y_Lo, vI e.area_Y_Hi])]⟩]⟩) (.prn [0, 4, 18, 19, 20] R) ⟨0, h, R, R⟩ ?_
 clear h
 rintro m4 ph st ⟨x, h, rfl, rfl⟩
 cases m4 with
 | zero => cases (show (none : Option Bool) = some r from h)
 | succ m4 =>
 rw [pad_scene_keyed_L1] at h
 refine swj_seq (swj_rg (rgj_ev ?_))
 refine r_lss R R R R ?_ ?_
 ·intro c3
  replace h := ifP c3 h
  refine ev_endJ (thenj_norm (swj_seq (swj_condT R (swj_skip (thenj_norm (swj_seq (swj_block (swj_seq (swj_rg (rgj_ev (q_movD R ?_)))))))))))
  obtain ⟨e2, ie2, h⟩ := bnd h
  refine q_ixE tb (ix0 ie2) (ix1m ie2) R (q_ldE (y := PdSquib.d e2) tb (ix2 (g := PdSquib.d) ie2) R (r_alloc tb R R R R R (q_asgD R (q_stE _ _ tb R (ev_endJ (thenj_norm (swj_seq (swj_of (sw_dr (by kernel_rfl) (q_fa tb R (q_fa tb R (q_ldD (y := vI e.area_X_Lo) tb R (q_fa tb R (q_fa tb R (q_ldD (y := vI e2.at_X) tb R (r_sub R R R R (q_fa tb R (q_fa tb R (q_ldD (y := vI e2.at_X) tb R (q_fa tb R (q_fa tb R (q_ldD (y := vI e.area_X_Hi) tb R (r_sub R R R R ?_)))))))))))))))))))))))
  refine r_max3 R R R R R (q_fa tb R (q_fa tb R (q_ldD (y := vI e.area_Y_Lo) tb R (q_fa tb R (q_fa tb R (q_ldD (y := vI e2.at_Y) tb R (r_sub R R R R (q_fa tb R (q_fa tb R (q_ldD (y := vI e2.at_Y) tb R (q_fa tb R (q_fa tb R (q_ldD (y := vI e.area_Y_Hi) tb R (r_sub R R R R (r_max3 R R R R R (q_asgD R (q_asgD R (ev_endD (by kernel_rfl) (thenj_norm (swj_seq (swj_rg (rgj_ev (q_movD R (q_movD R (r_mul R R R R (q_movD R (q_movD R ?_)))))))))))))))))))))))))))
  refine r_mul R R R R (q_add R (q_fa tb R (q_ldD (y := vI e2.clear) tb R (q_fa tb R (q_ldD (y := vI e2.clear) tb R (r_mul R R R R ?_))))))
  refine r_lss R R R R ?_ ?_
  ·intro c4
   replace h := ifP c4 h
   refine q_movD R (q_movD R (q_movD R (ev_yieldJ ?_)))
   (with_reducible apply rgj_yield (ys := [vI x])); (iterate 7 exact rfl)
   dsimp only [parS]
   refine sw_rg (q_asgD R (ev_end ?_))
   refine ⟨R, swy_rd ?_⟩
   refine sw_block (sw_seq ?_)
   refine sw_join (fun zz : Unit => pad_scene_keyed_J1 F (pad_scene_keyed_L1 F c person rv e K4 m4) x = some r) (fun zz : Unit => ⟨[(6, .ref 2 1 0 0), (37, .d (.v (.bool false)))], [some ⟨1, [.d (.el 13 (([c]).map Scene.d) ((0 : Int)).toNat 0)]⟩, some ⟨1, [.d (vI person)]⟩, some ⟨1, [.d (.v (.bool false))]⟩, some ⟨1, [.d (vI rv.1)]⟩, some ⟨7, [.d (PdPad.d rv.2)]⟩, some ⟨4, [.d (.agg [vI e.area_X_Lo, vI e.area_X_Hi, vI e.area_Y_Lo, vI e.area_Y_Hi])]⟩, some ⟨6, [.d (PdSquib.d e2)]⟩]⟩) ?_ ?_
   ·clear h
    rintro ⟨⟩ h
    rw [pad_scene_keyed_J1] at h
    refine sw_condF R (sw_skip (block_norm ?_))
    refine ⟨[some ⟨1, [.d (.el 13 (([c]).map Scene.d) ((0 : Int)).toNat 0)]⟩, some ⟨1, [.d (vI person)]⟩, some ⟨1, [.d (.v (.bool false))]⟩, some ⟨1, [.d (vI rv.1)]⟩, some ⟨7, [.d (PdPad.d rv.2)]⟩, some ⟨4, [.d (.agg [vI e.area_X_Lo, vI e.area_X_Hi, vI e.area_Y_Lo, vI e.area_Y_Hi])]⟩, some ⟨6, [.d (PdSquib.d e2)]⟩], [0, 1, 2, 3, 4, 5, 6], (vK (.cons R R (.cons R R (.cons R R (.cons R R (.cons R R (.cons R R (.cons R R .nil))))))) R), ?_⟩
    with_reducible apply yk_norm
    refine rgj_ev (r_notT R R R (q_pickT R (ev_endJ (thenj_norm (swj_condF R (swj_skip (blockj_norm (thenj_norm (swj_rg (rgj_ev (q_add R (q_movD R (ev_endJ (thenj_norm ?_))))))))))))))
    exact ⟨m4, ⟨[(0, .d (.v (.func (.yield lb) #[] #[]))), (4, .ref 5 4 0 0), (18, .d (.arr 6 ((rv.2.squibs).map PdSquib.d))), (19, .d (vI (rv.2.squibs.length : Int))), (20, .d (vI (W (x + 1))))], [some ⟨1, [.d (.el 13 (([c]).map Scene.d) ((0 : Int)).toNat 0)]⟩, some ⟨1, [.d (vI person)]⟩, some ⟨1, [.d (.v (.bool false))]⟩, some ⟨1, [.d (vI rv.1)]⟩, some ⟨7, [.d (PdPad.d rv.2)]⟩, some ⟨4, [.d (.agg [vI e.area_X_Lo, vI e.area_X_Hi, vI e.area_Y_Lo, vI e.area_Y_Hi])]⟩]⟩, Nat.lt_succ_self _, .vw (κ := [0, 1, 2, 3, 4, 5]) (vK (.cons R R (.cons R R (.cons R R (.cons R R (.cons R R (.cons R R .nil)))))) R), (W (x + 1)), h, R, R⟩
   refine sw_rg (q_ldD (y := .el 13 (([c]).map Scene.d) ((0 : Int)).toNat 0) tb R (r_nilEl R R R (q_faE tb R (q_faE tb R (q_ldE (y := .arr 1 ((c.pdState_Squibs).map vI)) tb (ix2 (g := Scene.d) (R : ixO [c] 0 = some c)) R (q_movD R ?_))))))
   obtain ⟨e3, ie3, h⟩ := bnd h
   refine q_ixE tb (ix0 ie3) (ix1m ie3) R (q_ldE (y := vI e3) tb (ix2 (g := vI) ie3) R ?_)
   refine r_neq R R R R ?_ ?_
   ·intro c5
    replace h := ifN c5 h
    refine q_movD R (q_ldD (y := .el 13 (([c]).map Scene.d) ((0 : Int)).toNat 0) tb R (r_nilEl R R R (q_faE tb R (q_faE tb R (q_ldE (y := .arr 6 ((c.p_Squibs).map PdSquib.d)) tb (ix2 (g := Scene.d) (R : ixO [c] 0 = some c)) R (q_movD R ?_))))))
    obtain ⟨e4, ie4, h⟩ := bnd h
    refine q_ixE tb (ix0 ie4) (ix1m ie4) R (q_faE tb R (q_ldE (y := .arr 1 ((e4.keys).map vI)) tb (ix2 (g := PdSquib.d) ie4) R (r_func R R R R ?_)))
    obtain ⟨rv2, hrv2, h⟩ := bnd h
    refine r_callX (t' := .d (.v (.bool rv2))) (news' := []) (slices_ContainsFunc_int_scr (f := (fun a0 => pad_scene_keyed_1 F a0 c person)) (fc := [.el 1 [.el 13 (([c]).map Scene.d) ((0 : Int)).toNat 0] 0 0, .el 1 [vI person] 0 0]) (fh := fun hr => pad_scene_keyed_1_pc hr) (fe := .of (by kernel_rfl)) hrv2) R .nil (.of (by kernel_rfl)) R R ((.cons (.d (.d _)) (.cons (.fnC (.cons (.d (.ref R (.d _))) (.cons (.d (.ref R (.d _))) .nil))) .nil))) R .nil R R R ?_
    simp only [List.map_nil, List.append_nil]
    with_reducible apply ev_lit
    ·intro c6
     replace h := ifP c6 h
     refine r_notT R R R (q_pickT R (eN ?_))
     exact .inl ⟨(), h, .prn [6, 37] R⟩
    intro c6
    replace h := ifF c6 h
    refine r_notF R R R (q_pickT R (eN (.inr (sw_condT R (qG (q_stE _ _ tb R (eN (sw_ret (block_ret ?_)))))))))
    refine ⟨[some ⟨1, [.d (.el 13 (([c]).map Scene.d) ((0 : Int)).toNat 0)]⟩, some ⟨1, [.d (vI person)]⟩, some ⟨1, [.d (.v (.bool false))]⟩, some ⟨1, [.d (vI rv.1)]⟩, some ⟨7, [.d (PdPad.d rv.2)]⟩, some ⟨4, [.d (.agg [vI e.area_X_Lo, vI e.area_X_Hi, vI e.area_Y_Lo, vI e.area_Y_Hi])]⟩, some ⟨6, [.d (PdSquib.d e2)]⟩], [0, 1, 2, 3, 4, 5, 6], (vK (.cons R R (.cons R R (.cons R R (.cons R R (.cons R R (.cons R R (.cons R R .nil))))))) R), ?_⟩
    with_reducible apply yk_ret
    refine rgj_ev (r_notF R R R (q_pickT R (ev_endJ (thenj_norm (swj_condT R (swj_ret (blockj_ret (thenj_ret (thenj_ret (blockj_ret ?_))))))))))
    refine ⟨R, [some ⟨1, [.d (.el 13 (([c]).map Scene.d) ((0 : Int)).toNat 0)]⟩, some ⟨1, [.d (vI person)]⟩, some ⟨1, [.d (.v (.bool false))]⟩, some ⟨1, [.d (vI rv.1)]⟩, some ⟨7, [.d (PdPad.d rv.2)]⟩], [0, 1, 2, 3, 4], (vK (.cons R R (.cons R R (.cons R R (.cons R R (.cons R R .nil))))) R), ?_⟩
    refine block_ret (then_ret ?_)
    obtain rfl := sI h
    exact fin_0 (t := .d (.v (.bool false))) R R R (.cons (rc tb R) .nil)
   intro c5
   replace h := ifP c5 h
   refine q_movD R (q_sk 12 R (q_pickF R (eN ?_)))
   exact .inl ⟨(), h, .prn [6, 37] R⟩
  intro c4
  replace h := ifN (Int.not_lt.2 c4) h
  refine q_movD R (q_sk 4 R (q_pickF R (ev_endJ (thenj_norm (swj_condF R (swj_skip (blockj_norm (thenj_norm (swj_rg (rgj_ev (q_add R (q_movD R (ev_endJ (thenj_norm ?_))))))))))))))
  exact ⟨m4, ⟨[(0, .d (.v (.func (.yield lb) #[] #[]))), (4, .ref 5 4 0 0), (18, .d (.arr 6 ((rv.2.squibs).map PdSquib.d))), (19, .d (vI (rv.2.squibs.length : Int))), (20, .d (vI (W (x + 1))))], [some ⟨1, [.d (.el 13 (([c]).map Scene.d) ((0 : Int)).toNat 0)]⟩, some ⟨1, [.d (vI person)]⟩, some ⟨1, [.d (.v (.bool false))]⟩, some ⟨1, [.d (vI rv.1)]⟩, some ⟨7, [.d (PdPad.d rv.2)]⟩, some ⟨4, [.d (.agg [vI e.area_X_Lo, vI e.area_X_Hi, vI e.area_Y_Lo, vI e.area_Y_Hi])]⟩]⟩, Nat.lt_succ_self _, .vw (κ := [0, 1, 2, 3, 4, 5]) (vK (.cons R R (.cons R R (.cons R R (.cons R R (.cons R R (.cons R R .nil)))))) R), (W (x + 1)), h, R, R⟩
 intro c3
 replace h := ifN (Int.not_lt.2 c3) h
 refine ev_endJ (thenj_norm (swj_seq (swj_condF R (swj_exit (thenj_exit (thenj_exit ?_))))))
 subst hK4
 refine blockj_exit ?_
 refine ⟨R, [some ⟨1, [.d (.el 13 (([c]).map Scene.d) ((0 : Int)).toNat 0)]⟩, some ⟨1, [.d (vI person)]⟩, some ⟨1, [.d (.v (.bool false))]⟩, some ⟨1, [.d (vI rv.1)]⟩, some ⟨7, [.d (PdPad.d rv.2)]⟩], [0, 1, 2, 3, 4], (vK (.cons R R (.cons R R (.cons R R (.cons R R (.cons R R .nil))))) R), ?_⟩
 refine block_norm (then_norm ?_)
 refine swm_of fun df => ?_
 refine qG (q_stE _ _ tb R (eN (sw_ret ?_)))
 obtain rfl := sI h
 exact fin_0 (t := .d (.v (.bool true))) R R R (.cons (rc tb R) .nil)
def pad_scene_alone (F : Nat) (c : Scene) (zone : Int) : Option Bool := if 0 ≤ zone then (Option.bind (ixO c.p_Zones zone) fun e => if e.pair = true then (Option.bind (pad_scene_crowd F c zone) fun rv => some (decide (rv = 1))) else (some false)) else (some false)
theorem pad_scene_alone_pc {F : Nat} {c : Scene} {zone : Int} {r : Bool} (h : pad_scene_alone F c zone = some r) : PC Tryz.prog 78 [.el 13 (([c]).map Scene.d) ((0 : Int)).toNat 0, .v (.int .i64 zone)] (.v (.bool r)) := by
 rw [pad_scene_alone] at h
 refine SC.of_sw Tryz.func78 R R R ?_
 dsimp only [argS, List.map]
 refine qG (q_asgD R (eN (qG (q_movD R ?_))))
 refine r_geq R R R R ?_ ?_
 ·intro c2
  replace h := ifP c2 h
  refine q_movD R (q_movD R (r_nilEl R R R (q_faE tb R (q_faE tb R (q_ldE (y := .arr 8 ((c.p_Zones).map PdZone.d)) tb (ix2 (g := Scene.d) (R : ixO [c] 0 = some c)) R (q_movD R ?_))))))
  obtain ⟨e, ie, h⟩ := bnd h
  refine q_ixE tb (ix0 ie) (ix1m ie) R (q_faE tb R (q_ldE (y := .v (.bool e.pair)) tb (ix2 (g := PdZone.d) ie) R ?_))
  with_reducible apply ev_lit
  ·intro c3
   replace h := ifP c3 h
   refine q_pickT R (q_movD R (q_movD R (q_movD R ?_)))
   obtain ⟨rv, hrv, h⟩ := bnd h
   refine r_call (pad_scene_crowd_pc hrv) (.of (by kernel_rfl)) R R R R (r_eqlV R R R R (q_pickT R (q_asgD R (eN (sw_ret ?_)))))
   obtain rfl := sI h
   exact f1 4 R
  intro c3
  replace h := ifF c3 h
  refine q_pickT R (q_movD R (q_sk 4 R (q_pickF R (q_asgD R (eN (sw_ret ?_))))))
  obtain rfl := sI h
  exact f1 4 R
 intro c2
 replace h := ifN (Int.not_le.2 c2) h
 refine q_movD R (q_sk 9 R (q_pickF R (q_movD R (q_sk 4 R (q_pickF R (q_asgD R (eN (sw_ret ?_))))))))
 obtain rfl := sI h
 exact f1 4 R
def pad_scene_sound_J1 (F : Nat) (B6 : Int → Option Bool) (x2 : Int) : Option Bool := B6 (W (x2 + 1))
def pad_scene_sound_J2 (F : Nat)  : Option Bool := some false
def pad_scene_sound_J3 (F : Nat) (B9 : Int → Option Bool) (x3 : Int) : Option Bool := B9 (W (x3 + 1))
def pad_scene_sound_L1 (F : Nat) (t : Scene) (K : Int → Option Bool) : Nat → Int → Option Bool
 | 0, _ => none
 | n + 1, x3 => if x3 < (t.pdState_Squibs.length : Int) then (Option.bind (ixO t.pdState_Squibs x3) fun e5 => if e5 = 1 then (Option.bind (pad_scene_owed F t x3) fun rv5 => if 0 < (rv5.length : Int) then (pad_scene_sound_J2 F) else (if t.pdState_Siren < 0 then (pad_scene_sound_J2 F) else (if t.pdState_Storm = true then (pad_scene_sound_J2 F) else (pad_scene_sound_J3 F (pad_scene_sound_L1 F t K n) x3)))) else (pad_scene_sound_J3 F (pad_scene_sound_L1 F t K n) x3)) else (K x3)
def pad_scene_sound_L2 (F : Nat) (t : Scene) (K : Int → Option Bool) : Nat → Int → Option Bool
 | 0, _ => none
 | n + 1, x2 => if x2 < (t.pdState_Zones.length : Int) then (Option.bind (ixO t.pdState_Zones x2) fun e2 => if 0 ≤ e2 then (Option.bind (ixO t.p_People x2) fun e3 => Option.bind (ixO t.p_Zones e2) fun e4 => if e3.grade < e4.grade then (pad_scene_sound_J2 F) else (Option.bind (pad_scene_keyed F t x2 e2) fun rv3 => if rv3 = true then (pad_scene_sound_J1 F (pad_scene_sound_L2 F t K n) x2) else (pad_scene_sound_J2 F))) else (Option.bind (pad_scene_keyed F t x2 e2) fun rv4 => if rv4 = true then (pad_scene_sound_J1 F (pad_scene_sound_L2 F t K n) x2) else (pad_scene_sound_J2 F))) else (K x2)
def pad_scene_sound_L3 (F : Nat) (t : Scene) (K : Int → Option Bool) : Nat → Int → Option Bool
 | 0, _ => none
 | n + 1, x => if x < (t.p_Zones.length : Int) then (Option.bind (ixO t.p_Zones x) fun e => Option.bind (pad_scene_crowd F t x) fun rv => if e.room < rv then (some false) else (Option.bind (pad_scene_alone F t x) fun rv2 => if rv2 = true then (some false) else (pad_scene_sound_L3 F t K n (W (x + 1))))) else (K x)
def pad_scene_sound (F : Nat) (t : Scene) : Option Bool := pad_scene_sound_L3 F t (fun (x : Int) => pad_scene_sound_L2 F t (fun (x2 : Int) => pad_scene_sound_L1 F t (fun (x3 : Int) => some true) F 0) F 0) F 0
theorem pad_scene_sound_pc {F : Nat} {t : Scene} {r : Bool} (h : pad_scene_sound F t = some r) : PC Tryz.prog 41 [.el 13 (([t]).map Scene.d) ((0 : Int)).toNat 0] (.v (.bool r)) := by
 rw [pad_scene_sound] at h
 refine SC.of_sw Tryz.func41 R R R ?_
 dsimp only [argS, List.map]
 refine qG (q_asgD R (eN (sw_seq (qG (q_movD R (r_nilEl R R R (q_faE tb R (q_faE tb R (q_ldE (y := .arr 8 ((t.p_Zones).map PdZone.d)) tb (ix2 (g := Scene.d) (R : ixO [t] 0 = some t)) R (q_lenM tb R (q_movD R (eN (sw_block ?_)))))))))))))
 obtain ⟨K3, hK3, h⟩ : ∃ K, K = _ ∧ pad_scene_sound_L3 F t K F 0 = some r := ⟨_, rfl, h⟩
 refine sw_loopS (fun m st => ∃ (x : Int), pad_scene_sound_L3 F t K3 m x = some r ∧ st = ⟨[(0, .d (.el 13 (([t]).map Scene.d) ((0 : Int)).toNat 0)), (2, .d (.v (.bool false))), (13, .d (.arr 8 ((t.p_Zones).map PdZone.d))), (14, .d (vI (t.p_Zones.length : Int))), (15, .d (vI x))], []⟩) (.prn [0, 2, 13, 14, 15] R) ⟨0, h, R⟩ ?_
 clear h
 rintro m3 st ⟨x, h, rfl⟩
 cases m3 with
 | zero => cases (show (none : Option Bool) = some r from h)
 | succ m3 =>
 rw [pad_scene_sound_L3] at h
 refine qG ?_
 refine r_lss R R R R ?_ ?_
 ·intro c
  replace h := ifP c h
  refine eN (sw_seq (sw_condT R (sw_skip (then_norm (sw_seq (sw_block (qG (q_movD R ?_))))))))
  obtain ⟨e, ie, h⟩ := bnd h
  refine q_ixE tb (ix0 ie) (ix1m ie) R (q_ldE (y := PdZone.d e) tb (ix2 (g := PdZone.d) ie) R (r_alloc tb R R R R R (q_asgD R (q_stE _ _ tb R (eN (sw_seq (sw_dr (by kernel_rfl) (q_movD R (q_movD R ?_)))))))))
  obtain ⟨rv, hrv, h⟩ := bnd h
  refine r_call (pad_scene_crowd_pc hrv) (.of (by kernel_rfl)) R R R R (q_fa tb R (q_ldD (y := vI e.room) tb R ?_))
  refine r_gtr R R R R ?_ ?_
  ·intro c2
   replace h := ifP c2 h
   refine q_movD R (q_sk 3 R (q_pickT R (ev_endD (by kernel_rfl) (then_norm (sw_condT R (qG (q_asgD R (eN (sw_ret (block_ret (then_ret (then_ret (block_ret (then_ret ?_))))))))))))))
   obtain rfl := sI h
   exact f1 2 R
  intro c2
  replace h := ifN (Int.not_lt.2 c2) h
  refine q_movD R (q_movD R (q_movD R ?_))
  obtain ⟨rv2, hrv2, h⟩ := bnd h
  refine r_callB (pad_scene_alone_pc hrv2) (.of (by kernel_rfl)) R R R R ?_ ?_
  ·intro c3
   replace h := ifP c3 h
   refine q_pickF R (ev_endD (by kernel_rfl) (then_norm (sw_condT R (qG (q_asgD R (eN (sw_ret (block_ret (then_ret (then_ret (block_ret (then_ret ?_))))))))))))
   obtain rfl := sI h
   exact f1 2 R
  intro c3
  replace h := ifF c3 h
  refine q_pickF R (ev_endD (by kernel_rfl) (then_norm (sw_condF R (sw_skip (block_norm (then_norm (sw_rg (q_add R (q_movD R (eN ?_))))))))))
  exact ⟨m3, ⟨[(0, .d (.el 13 (([t]).map Scene.d) ((0 : Int)).toNat 0)), (2, .d (.v (.bool false))), (13, .d (.arr 8 ((t.p_Zones).map PdZone.d))), (14, .d (vI (t.p_Zones.length : Int))), (15, .d (vI (W (x + 1))))], []⟩, Nat.lt_succ_self _, .vw (κ := []) (v0 R), (W (x + 1)), h, R⟩
 intro c
 replace h := ifN (Int.not_lt.2 c) h
 refine eN (sw_seq (sw_condF R (sw_exit (then_exit (then_exit ?_)))))
 subst hK3
 refine block_exit (then_norm (sw_seq (qG (q_movD R (r_nilEl R R R (q_faE tb R (q_faE tb R (q_ldE (y := .arr 1 ((t.pdState_Zones).map vI)) tb (ix2 (g := Scene.d) (R : ixO [t] 0 = some t)) R (q_lenM tb R (q_movD R (eN (sw_block ?_))))))))))))
 obtain ⟨K6, hK6, h⟩ : ∃ K, K = _ ∧ pad_scene_sound_L2 F t K F 0 = some r := ⟨_, rfl, h⟩
 refine sw_loopS (fun m st => ∃ (x2 : Int), pad_scene_sound_L2 F t K6 m x2 = some r ∧ st = ⟨[(0, .d (.el 13 (([t]).map Scene.d) ((0 : Int)).toNat 0)), (2, .d (.v (.bool false))), (36, .d (.arr 1 ((t.pdState_Zones).map vI))), (37, .d (vI (t.pdState_Zones.length : Int))), (38, .d (vI x2))], []⟩) (.prn [0, 2, 36, 37, 38] R) ⟨0, h, R⟩ ?_
 clear h
 rintro m6 st ⟨x2, h, rfl⟩
 cases m6 with
 | zero => cases (show (none : Option Bool) = some r from h)
 | succ m6 =>
 rw [pad_scene_sound_L2] at h
 refine qG ?_
 refine r_lss R R R R ?_ ?_
 ·intro c4
  replace h := ifP c4 h
  refine eN (sw_seq (sw_condT R (sw_skip (then_norm (sw_seq ?_)))))
  refine sw_join (fun zz : Unit => pad_scene_sound_J1 F (pad_scene_sound_L2 F t K6 m6) x2 = some r) (fun zz : Unit => ⟨[(0, .d (.el 13 (([t]).map Scene.d) ((0 : Int)).toNat 0)), (2, .d (.v (.bool false))), (36, .d (.arr 1 ((t.pdState_Zones).map vI))), (37, .d (vI (t.pdState_Zones.length : Int))), (38, .d (vI x2))], []⟩) ?_ ?_
  ·clear h
   rintro ⟨⟩ h
   rw [pad_scene_sound_J1] at h
   refine sw_rg (q_add R (q_movD R (eN ?_)))
   exact ⟨m6, _, Nat.lt_succ_self _, .prn [0, 2, 36, 37, 38] R, (W (x2 + 1)), h, R⟩
  refine sw_block (qG (q_movD R ?_))
  obtain ⟨e2, ie2, h⟩ := bnd h
  refine q_ixE tb (ix0 ie2) (ix1m ie2) R (q_ldE (y := vI e2) tb (ix2 (g := vI) ie2) R (q_asgD R (q_asgD R (eN (sw_seq ?_)))))
  refine sw_join (fun zz : Unit => pad_scene_sound_J2 F = some r) (fun zz : Unit => ⟨[(0, .d (.el 13 (([t]).map Scene.d) ((0 : Int)).toNat 0)), (2, .d (.v (.bool false))), (36, .d (.arr 1 ((t.pdState_Zones).map vI))), (37, .d (vI (t.pdState_Zones.length : Int))), (38, .d (vI x2)), (72, .d (.v (.bool true)))], []⟩) ?_ ?_
  ·clear h
   rintro ⟨⟩ h
   rw [pad_scene_sound_J2] at h
   refine sw_condT R (qG (q_asgD R (eN (sw_ret (block_ret (then_ret (then_ret (block_ret (then_ret ?_)))))))))
   obtain rfl := sI h
   exact f1 2 R
  refine sw_dr (by kernel_rfl) (q_movD R ?_)
  refine r_geq R R R R ?_ ?_
  ·intro c5
   replace h := ifP c5 h
   refine q_movD R (q_movD R (r_nilEl R R R (q_faE tb R (q_faE tb R (q_ldE (y := .arr 2 ((t.p_People).map PdPerson.d)) tb (ix2 (g := Scene.d) (R : ixO [t] 0 = some t)) R (q_movD R ?_))))))
   obtain ⟨e3, ie3, h⟩ := bnd h
   refine q_ixE tb (ix0 ie3) (ix1m ie3) R (q_faE tb R (q_ldE (y := vI e3.grade) tb (ix2 (g := PdPerson.d) ie3) R (q_movD R (r_nilEl R R R (q_faE tb R (q_faE tb R (q_ldE (y := .arr 8 ((t.p_Zones).map PdZone.d)) tb (ix2 (g := Scene.d) (R : ixO [t] 0 = some t)) R (q_movD R ?_))))))))
   obtain ⟨e4, ie4, h⟩ := bnd h
   refine q_ixE tb (ix0 ie4) (ix1m ie4) R (q_faE tb R (q_ldE (y := vI e4.grade) tb (ix2 (g := PdZone.d) ie4) R ?_))
   refine r_lss R R R R ?_ ?_
   ·intro c6
    replace h := ifP c6 h
    refine q_pickT R (q_movD R (q_sk 5 R (q_pickT R (ev_endD (by kernel_rfl) (then_norm ?_)))))
    exact .inl ⟨(), h, .prn [0, 2, 36, 37, 38, 72] R⟩
   intro c6
   replace h := ifN (Int.not_lt.2 c6) h
   refine q_pickT R (q_movD R (q_movD R (q_movD R (q_movD R ?_))))
   obtain ⟨rv3, hrv3, h⟩ := bnd h
   refine r_callB (pad_scene_keyed_pc hrv3) (.of (by kernel_rfl)) R R R R ?_ ?_
   ·intro c7
    replace h := ifP c7 h
    refine r_notT R R R (q_pickF R (ev_endD (by kernel_rfl) (then_norm (.inr (sw_condF R (sw_skip (block_norm (then_norm ?_))))))))
    exact .inl ⟨(), h, .prn [0, 2, 36, 37, 38] R⟩
   intro c7
   replace h := ifF c7 h
   refine r_notF R R R (q_pickF R (ev_endD (by kernel_rfl) (then_norm ?_)))
   exact .inl ⟨(), h, .prn [0, 2, 36, 37, 38, 72] R⟩
  intro c5
  replace h := ifN (Int.not_le.2 c5) h
  refine q_movD R (q_sk 19 R (q_pickF R (q_movD R (q_movD R (q_movD R (q_movD R ?_))))))
  obtain ⟨rv4, hrv4, h⟩ := bnd h
  refine r_callB (pad_scene_keyed_pc hrv4) (.of (by kernel_rfl)) R R R R ?_ ?_
  ·intro c8
   replace h := ifP c8 h
   refine r_notT R R R (q_pickF R (ev_endD (by kernel_rfl) (then_norm (.inr (sw_condF R (sw_skip (block_norm (then_norm ?_))))))))
   exact .inl ⟨(), h, .prn [0, 2, 36, 37, 38] R⟩
  intro c8
  replace h := ifF c8 h
  refine r_notF R R R (q_pickF R (ev_endD (by kernel_rfl) (then_norm ?_)))
  exact .inl ⟨(), h, .prn [0, 2, 36, 37, 38, 72] R⟩
 intro c4
 replace h := ifN (Int.not_lt.2 c4) h
 refine eN (sw_seq (sw_condF R (sw_exit (then_exit (then_exit ?_)))))
 subst hK6
 refine block_exit (then_norm (sw_seq (qG (q_movD R (r_nilEl R R R (q_faE tb R (q_faE tb R (q_ldE (y := .arr 1 ((t.pdState_Squibs).map vI)) tb (ix2 (g := Scene.d) (R : ixO [t] 0 = some t)) R (q_lenM tb R (q_movD R (eN (sw_block ?_))))))))))))
 obtain ⟨K9, hK9, h⟩ : ∃ K, K = _ ∧ pad_scene_sound_L1 F t K F 0 = some r := ⟨_, rfl, h⟩
 refine sw_loopS (fun m st => ∃ (x3 : Int), pad_scene_sound_L1 F t K9 m x3 = some r ∧ st = ⟨[(0, .d (.el 13 (([t]).map Scene.d) ((0 : Int)).toNat 0)), (2, .d (.v (.bool false))), (78, .d (.arr 1 ((t.pdState_Squibs).map vI))), (79, .d (vI (t.pdState_Squibs.length : Int))), (80, .d (vI x3))], []⟩) (.prn [0, 2, 78, 79, 80] R) ⟨0, h, R⟩ ?_
 clear h
 rintro m9 st ⟨x3, h, rfl⟩
 cases m9 with
 | zero => cases (show (none : Option Bool) = some r from h)
 | succ m9 =>
 rw [pad_scene_sound_L1] at h
 refine qG ?_
 refine r_lss R R R R ?_ ?_
 ·intro c9
  replace h := ifP c9 h
  refine eN (sw_seq (sw_condT R (sw_skip (then_norm (sw_seq ?_)))))
  refine sw_join (fun zz : Unit => pad_scene_sound_J3 F (pad_scene_sound_L1 F t K9 m9) x3 = some r) (fun zz : Unit => ⟨[(0, .d (.el 13 (([t]).map Scene.d) ((0 : Int)).toNat 0)), (2, .d (.v (.bool false))), (78, .d (.arr 1 ((t.pdState_Squibs).map vI))), (79, .d (vI (t.pdState_Squibs.length : Int))), (80, .d (vI x3))], []⟩) ?_ ?_
  ·clear h
   rintro ⟨⟩ h
   rw [pad_scene_sound_J3] at h
   refine sw_rg (q_add R (q_movD R (eN ?_)))
   exact ⟨m9, _, Nat.lt_succ_self _, .prn [0, 2, 78, 79, 80] R, (W (x3 + 1)), h, R⟩
  refine sw_block (qG (q_movD R ?_))
  obtain ⟨e5, ie5, h⟩ := bnd h
  refine q_ixE tb (ix0 ie5) (ix1m ie5) R (q_ldE (y := vI e5) tb (ix2 (g := vI) ie5) R (q_asgD R (q_asgD R (eN (sw_seq ?_)))))
  refine sw_join (fun zz : Unit => pad_scene_sound_J2 F = some r) (fun zz : Unit => ⟨[(0, .d (.el 13 (([t]).map Scene.d) ((0 : Int)).toNat 0)), (2, .d (.v (.bool false))), (78, .d (.arr 1 ((t.pdState_Squibs).map vI))), (79, .d (vI (t.pdState_Squibs.length : Int))), (80, .d (vI x3)), (108, .d (.v (.bool true)))], []⟩) ?_ ?_
  ·clear h
   rintro ⟨⟩ h
   rw [pad_scene_sound_J2] at h
   refine sw_condT R (qG (q_asgD R (eN (sw_ret (block_ret (then_ret (then_ret (block_ret (then_ret ?_)))))))))
   obtain rfl := sI h
   exact f1 2 R
  refine sw_rg (q_movD R ?_)
  refine r_eql R R R R ?_ ?_
  ·intro c10
   replace h := ifP c10 h
   refine q_movD R (q_movD R (q_movD R ?_))
   obtain ⟨rv5, hrv5, h⟩ := bnd h
   refine r_callN (t' := .row 0 1 0 (rv5).length) (news' := [(lvI rv5)]) (pad_scene_owed_scr hrv5) (.of (by kernel_rfl)) R R R ((.row .nil)) R R R (r_lenR tb R R R R R ?_)
   refine r_gtr R R R R ?_ ?_
   ·intro c11
    replace h := ifP c11 h
    refine q_movD R (q_sk 6 R (q_pickT R (q_movD R (q_sk 5 R (q_pickT R (q_pickT R (eN ?_)))))))
    exact .inl ⟨(), h, .vw (κ := []) (v0 R)⟩
   intro c11
   replace h := ifN (Int.not_lt.2 c11) h
   refine q_movD R (q_movD R (r_nilEl R R R (q_faE tb R (q_faE tb R (q_ldE (y := vI t.pdState_Siren) tb (ix2 (g := Scene.d) (R : ixO [t] 0 = some t)) R ?_)))))
   refine r_lss R R R R ?_ ?_
   ·intro c12
    replace h := ifP c12 h
    refine q_pickF R (q_movD R (q_sk 5 R (q_pickT R (q_pickT R (eN ?_)))))
    exact .inl ⟨(), h, .vw (κ := []) (v0 R)⟩
   intro c12
   replace h := ifN (Int.not_lt.2 c12) h
   refine q_pickF R (q_movD R (q_movD R (r_nilEl R R R (q_faE tb R (q_faE tb R (q_ldE (y := .v (.bool t.pdState_Storm)) tb (ix2 (g := Scene.d) (R : ixO [t] 0 = some t)) R ?_))))))
   with_reducible apply ev_lit
   ·intro c13
    replace h := ifP c13 h
    refine q_pickF R (q_pickT R (eN ?_))
    exact .inl ⟨(), h, .vw (κ := []) (v0 R)⟩
   intro c13
   replace h := ifF c13 h
   refine q_pickF R (q_pickT R (eN (.inr (sw_condF R (sw_skip (block_norm (then_norm ?_)))))))
   exact .inl ⟨(), h, .vw (κ := []) (v0 R)⟩
  intro c10
  replace h := ifN c10 h
  refine q_movD R (q_sk 20 R (q_pickF R (eN (.inr (sw_condF R (sw_skip (block_norm (then_norm ?_))))))))
  exact .inl ⟨(), h, .vw (κ := []) (v0 R)⟩
 intro c9
 replace h := ifN (Int.not_lt.2 c9) h
 refine eN (sw_seq (sw_condF R (sw_exit (then_exit (then_exit ?_)))))
 subst hK9
 refine block_exit (then_norm (qG (q_asgD R (eN (sw_ret ?_)))))
 obtain rfl := sI h
 exact f1 2 R
def pad_scene_atPanel_m (F : Nat) (c : Scene) (who : Int) : Option (Except Int Scene) := Option.bind (ixO c.pdState_Zones who) fun e => Option.bind (pad_demand F (decide (e = c.p_Panel)) 171) fun rv => exE rv (fun x => some (.error x)) (fun v => some (.ok c))
theorem pad_scene_atPanel_m_scx {F : Nat} {c : Scene} {who : Int} {r : (Except Int Scene)} (h : pad_scene_atPanel_m F c who = some r) : SCX Tryz.prog 112 [.ref 0 13 0 0, .d (.v (.int .i64 who))] [some ⟨13, [Scene_T1 c 1 2 3]⟩, some (lvI c.pdState_Zones), some (lvI c.pdState_Holder), some (lvI c.pdState_Squibs)] r 34 (fun (a : Scene) => .d (.tup [])) (fun (a : Scene) => [some ⟨13, [Scene_T1 a 1 2 3]⟩, some (lvI a.pdState_Zones), some (lvI a.pdState_Holder), some (lvI a.pdState_Squibs)]) := by
 rw [pad_scene_atPanel_m] at h
 refine SC.of_sw Tryz.func112 R R R ?_
 dsimp only [argS, List.map]
 refine sw_drP (by kernel_rfl) (r_movR R R R (r_nilRef R R R (q_fa tb R (q_fa tb R (r_ldW tb R R R R R R R R R (q_movD R ?_))))))
 obtain ⟨e, ie, h⟩ := bnd h
 refine r_ixI tb R R R R R R (ix0 ie) (ix1 ie) R R ?_
 refine r_ldD (y := vI e) tb R R R R (ix2 (g := fun a => T.d (vI a)) ie) R R R R ?_
 refine r_movR R R R (r_nilRef R R R (q_fa tb R (q_fa tb R (q_ldD (y := vI c.p_Panel) tb R (r_eqlV R R R R ?_)))))
 obtain ⟨rv, hrv, h⟩ := bnd h
 rcases ex_or rv with ⟨x, nv⟩ | ⟨v, nv⟩
 ·replace h := (exN nv).symm.trans h
  refine ev_panD (by kernel_rfl) (by kernel_rfl) ?_
  (with_reducible apply op_call []); exact (pad_demand_scx hrv).err nv; exact rfl; exact .of (by kernel_rfl); exact rfl; exact .inl ⟨rfl, rfl, rfl⟩; (iterate 4 exact rfl); exact .nil; exact rfl
  intro cnt
  obtain rfl := sI h
  exact fin_pX (L := [some ⟨13, [Scene_T1 c 1 2 3]⟩, some (lvI c.pdState_Zones), some (lvI c.pdState_Holder), some (lvI c.pdState_Squibs)]) (κ := [0, 1, 2, 3]) (vK (.cons R R (.row R (.row R (.row R .nil)))) R) (.inr ⟨_, R, R⟩)
 replace h := (exO nv).symm.trans h
 refine r_callO (t' := .d (.tup [])) (ls := []) (news := []) ([]) ([some ⟨13, [Scene_T1 c 1 2 3]⟩, some (lvI c.pdState_Zones), some (lvI c.pdState_Holder), some (lvI c.pdState_Squibs)]) ((pad_demand_scx hrv).ok nv) (.of (by kernel_rfl)) R (.inl ⟨R, R, R⟩) R R R R .nil R R R .nil .nil R R R R (ev_endPD (by kernel_rfl) ?_)
 obtain rfl := sI h
 exact fin_n (fin_S (t := .d (.tup [])) (L := [some ⟨13, [Scene_T1 c 1 2 3]⟩, some (lvI c.pdState_Zones), some (lvI c.pdState_Holder), some (lvI c.pdState_Squibs)]) (κ := [0, 1, 2, 3]) R .nil (vK (.cons R R (.row R (.row R (.row R .nil)))) R) (.inl ⟨_, R, R, R⟩))
def pad_scene_armed_J1 (F : Nat) (B3 : Int → Option Bool) (x : Int) : Option Bool := B3 (W (x + 1))
def pad_scene_armed_L1 (F : Nat) (c : Scene) (so : (PdSquib → Option Bool)) (K : Int → Option Bool) : Nat → Int → Option Bool
 | 0, _ => none
 | n + 1, x => if x < (c.pdState_Squibs.length : Int) then (Option.bind (ixO c.pdState_Squibs x) fun e => if e = 1 then (Option.bind (ixO c.p_Squibs x) fun e2 => Option.bind (so e2) fun rv => if rv = true then (some true) else (pad_scene_armed_J1 F (pad_scene_armed_L1 F c so K n) x)) else (pad_scene_armed_J1 F (pad_scene_armed_L1 F c so K n) x)) else (K x)
def pad_scene_armed (F : Nat) (c : Scene) (so : (PdSquib → Option Bool)) : Option Bool := pad_scene_armed_L1 F c so (fun (x : Int) => some false) F 0
theorem pad_scene_armed_scr {F : Nat} {c : Scene} {so : (PdSquib → Option Bool)} {r : Bool} {soi : Nat} {soc : List D} (soh : ∀ {a0 : PdSquib} {r : Bool}, so a0 = some r → PC Tryz.prog soi ([PdSquib.d a0] ++ soc) (.v (.bool r))) (soe : Ent Tryz.prog soi) (h : pad_scene_armed F c so = some r) : SCR Tryz.prog 113 [.d (.el 13 (([c]).map Scene.d) ((0 : Int)).toNat 0), .fn (.func soi) [] (soc.map .d)] [] (.d (.v (.bool r))) (List.map some []) := by
 rw [pad_scene_armed] at h
 refine SC.of_sw Tryz.func113 R R R ?_
 dsimp only [argS, List.map]
 refine qG (q_asgD R (eN (sw_seq (qG (q_movD R (r_nilEl R R R (q_faE tb R (q_faE tb R (q_ldE (y := .arr 1 ((c.pdState_Squibs).map vI)) tb (ix2 (g := Scene.d) (R : ixO [c] 0 = some c)) R (q_lenM tb R (q_movD R (eN (sw_block ?_)))))))))))))
 obtain ⟨K3, hK3, h⟩ : ∃ K, K = _ ∧ pad_scene_armed_L1 F c so K F 0 = some r := ⟨_, rfl, h⟩
 refine sw_loopS (fun m st => ∃ (x : Int), pad_scene_armed_L1 F c so K3 m x = some r ∧ st = ⟨[(0, .d (.el 13 (([c]).map Scene.d) ((0 : Int)).toNat 0)), (1, .fn (.func soi) [] (soc.map .d)), (4, .d (.v (.bool false))), (11, .d (.arr 1 ((c.pdState_Squibs).map vI))), (12, .d (vI (c.pdState_Squibs.length : Int))), (13, .d (vI x))], []⟩) (.prn [0, 1, 4, 11, 12, 13] R) ⟨0, h, R⟩ ?_
 clear h
 rintro m3 st ⟨x, h, rfl⟩
 cases m3 with
 | zero => cases (show (none : Option Bool) = some r from h)
 | succ m3 =>
 rw [pad_scene_armed_L1] at h
 refine qG ?_
 refine r_lss R R R R ?_ ?_
 ·intro c2
  replace h := ifP c2 h
  refine eN (sw_seq (sw_condT R (sw_skip (then_norm (sw_seq ?_)))))
  refine sw_join (fun zz : Unit => pad_scene_armed_J1 F (pad_scene_armed_L1 F c so K3 m3) x = some r) (fun zz : Unit => ⟨[(0, .d (.el 13 (([c]).map Scene.d) ((0 : Int)).toNat 0)), (1, .fn (.func soi) [] (soc.map .d)), (4, .d (.v (.bool false))), (11, .d (.arr 1 ((c.pdState_Squibs).map vI))), (12, .d (vI (c.pdState_Squibs.length : Int))), (13, .d (vI x))], []⟩) ?_ ?_
  ·clear h
   rintro ⟨⟩ h
   rw [pad_scene_armed_J1] at h
   refine sw_rg (q_add R (q_movD R (eN ?_)))
   exact ⟨m3, _, Nat.lt_succ_self _, .prn [0, 1, 4, 11, 12, 13] R, (W (x + 1)), h, R⟩
  refine sw_block (qG (q_movD R ?_))
  obtain ⟨e, ie, h⟩ := bnd h
  refine q_ixE tb (ix0 ie) (ix1m ie) R (q_ldE (y := vI e) tb (ix2 (g := vI) ie) R (q_asgD R (q_asgD R (eN (qG (q_movD R ?_))))))
  refine r_eql R R R R ?_ ?_
  ·intro c3
   replace h := ifP c3 h
   refine q_movD R (r_movF R R R (q_movD R (r_nilEl R R R (q_faE tb R (q_faE tb R (q_ldE (y := .arr 6 ((c.p_Squibs).map PdSquib.d)) tb (ix2 (g := Scene.d) (R : ixO [c] 0 = some c)) R (q_movD R ?_)))))))
   obtain ⟨e2, ie2, h⟩ := bnd h
   refine q_ixE tb (ix0 ie2) (ix1m ie2) R (q_ldE (y := PdSquib.d e2) tb (ix2 (g := PdSquib.d) ie2) R ?_)
   obtain ⟨rv, hrv, h⟩ := bnd h
   refine r_callH (vs := [PdSquib.d e2]) (soh hrv) soe R R R R ?_
   with_reducible apply ev_lit
   ·intro c4
    replace h := ifP c4 h
    refine q_pickT R (eN (sw_condT R (qG (q_asgD R (eN (sw_ret (block_ret (then_ret (then_ret (block_ret (then_ret ?_)))))))))))
    obtain rfl := sI h
    exact f1 4 R
   intro c4
   replace h := ifF c4 h
   refine q_pickT R (eN (sw_condF R (sw_skip (block_norm (then_norm ?_)))))
   exact .inl ⟨(), h, .prn [0, 1, 4, 11, 12, 13] R⟩
  intro c3
  replace h := ifN c3 h
  refine q_movD R (q_sk 10 R (q_pickF R (eN (sw_condF R (sw_skip (block_norm (then_norm ?_)))))))
  exact .inl ⟨(), h, .prn [0, 1, 4, 11, 12, 13] R⟩
 intro c2
 replace h := ifN (Int.not_lt.2 c2) h
 refine eN (sw_seq (sw_condF R (sw_exit (then_exit (then_exit ?_)))))
 subst hK3
 refine block_exit (then_norm (qG (q_asgD R (eN (sw_ret ?_)))))
 obtain rfl := sI h
 exact f1 4 R
def slices_Index_int_L1 (F : Nat) (s : (List Int)) (v : Int) (K : Int → Option Int) : Nat → Int → Option Int
 | 0, _ => none
 | n + 1, x => if x < (s.length : Int) then (Option.bind (ixO s x) fun e => if v = e then (some x) else (slices_Index_int_L1 F s v K n (W (x + 1)))) else (K x)
def slices_Index_int (F : Nat) (s : (List Int)) (v : Int) : Option Int := slices_Index_int_L1 F s v (fun (x : Int) => some (-1)) F 0
theorem slices_Index_int_pc {F : Nat} {s : (List Int)} {v : Int} {r : Int} (h : slices_Index_int F s v = some r) : PC Tryz.prog 128 [.arr 1 ((s).map vI), .v (.int .i64 v)] (.v (.int .i64 r)) := by
 rw [slices_Index_int] at h
 refine SC.of_sw Tryz.func128 R R R ?_
 dsimp only [argS, List.map]
 refine qG (q_asgD R (eN (sw_seq (qG (q_movD R (q_lenM tb R (q_movD R (eN (sw_block ?_)))))))))
 obtain ⟨K2, hK2, h⟩ : ∃ K, K = _ ∧ slices_Index_int_L1 F s v K F 0 = some r := ⟨_, rfl, h⟩
 refine sw_loopS (fun m st => ∃ (x : Int), slices_Index_int_L1 F s v K2 m x = some r ∧ st = ⟨[(0, .d (.arr 1 ((s).map vI))), (1, .d (vI v)), (4, .d (vI 0)), (7, .d (vI (s.length : Int))), (8, .d (vI x))], []⟩) (.prn [0, 1, 4, 7, 8] R) ⟨0, h, R⟩ ?_
 clear h
 rintro m2 st ⟨x, h, rfl⟩
 cases m2 with
 | zero => cases (show (none : Option Int) = some r from h)
 | succ m2 =>
 rw [slices_Index_int_L1] at h
 refine qG ?_
 refine r_lss R R R R ?_ ?_
 ·intro c
  replace h := ifP c h
  refine eN (sw_seq (sw_condT R (sw_skip (then_norm (sw_seq (sw_block (qG (q_movD R (q_asgD R (eN (qG (q_movD R (q_movD R (q_movD R ?_))))))))))))))
  obtain ⟨e, ie, h⟩ := bnd h
  refine q_ixE tb (ix0 ie) (ix1m ie) R (q_ldE (y := vI e) tb (ix2 (g := vI) ie) R ?_)
  refine r_eql R R R R ?_ ?_
  ·intro c2
   replace h := ifP c2 h
   refine eN (sw_condT R (qG (q_movD R (q_asgD R (eN (sw_ret (block_ret (then_ret (then_ret (block_ret (then_ret ?_)))))))))))
   obtain rfl := sI h
   exact f1 4 R
  intro c2
  replace h := ifN c2 h
  refine eN (sw_condF R (sw_skip (block_norm (then_norm (sw_rg (q_add R (q_movD R (eN ?_))))))))
  exact ⟨m2, _, Nat.lt_succ_self _, .prn [0, 1, 4, 7, 8] R, (W (x + 1)), h, R⟩
 intro c
 replace h := ifN (Int.not_lt.2 c) h
 refine eN (sw_seq (sw_condF R (sw_exit (then_exit (then_exit ?_)))))
 subst hK2
 refine block_exit (then_norm (qG (q_asgD R (eN (sw_ret ?_)))))
 obtain rfl := sI h
 exact f1 4 R
def slices_Contains_int (F : Nat) (s : (List Int)) (v : Int) : Option Bool := Option.bind (slices_Index_int F s v) fun rv => some (decide (0 ≤ rv))
theorem slices_Contains_int_pc {F : Nat} {s : (List Int)} {v : Int} {r : Bool} (h : slices_Contains_int F s v = some r) : PC Tryz.prog 115 [.arr 1 ((s).map vI), .v (.int .i64 v)] (.v (.bool r)) := by
 rw [slices_Contains_int] at h
 refine SC.of_sw Tryz.func115 R R R ?_
 dsimp only [argS, List.map]
 refine qG (q_asgD R (eN (qG (q_movD R (q_movD R ?_)))))
 obtain ⟨rv, hrv, h⟩ := bnd h
 refine r_call (slices_Index_int_pc hrv) (.of (by kernel_rfl)) R R R R (r_geqV R R R R (q_asgD R (eN (sw_ret ?_))))
 obtain rfl := sI h
 exact f1 4 R
def slices_Index_PdDoor_L1 (F : Nat) (s : (List PdDoor)) (v : PdDoor) (K : Int → Option Int) : Nat → Int → Option Int
 | 0, _ => none
 | n + 1, x => if x < (s.length : Int) then (Option.bind (ixO s x) fun e => if (PdDoor.beq v e) = true then (some x) else (slices_Index_PdDoor_L1 F s v K n (W (x + 1)))) else (K x)
def slices_Index_PdDoor (F : Nat) (s : (List PdDoor)) (v : PdDoor) : Option Int := slices_Index_PdDoor_L1 F s v (fun (x : Int) => some (-1)) F 0
theorem slices_Index_PdDoor_pc {F : Nat} {s : (List PdDoor)} {v : PdDoor} {r : Int} (h : slices_Index_PdDoor F s v = some r) : PC Tryz.prog 127 [.arr 2 ((s).map PdDoor.d), PdDoor.d v] (.v (.int .i64 r)) := by
 rw [slices_Index_PdDoor] at h
 refine SC.of_sw Tryz.func127 R R R ?_
 dsimp only [argS, List.map]
 refine qG (q_box R (q_asgD R (eN (sw_seq (qG (q_movD R (q_lenM tb R (q_movD R (eN (sw_block ?_))))))))))
 obtain ⟨K2, hK2, h⟩ : ∃ K, K = _ ∧ slices_Index_PdDoor_L1 F s v K F 0 = some r := ⟨_, rfl, h⟩
 refine sw_loopS (fun m st => ∃ (x : Int), slices_Index_PdDoor_L1 F s v K2 m x = some r ∧ st = ⟨[(0, .d (.arr 2 ((s).map PdDoor.d))), (3, .ref 0 2 0 0), (4, .d (vI 0)), (7, .d (vI (s.length : Int))), (8, .d (vI x))], [some ⟨2, [.d (PdDoor.d v)]⟩]⟩) (.prn [0, 3, 4, 7, 8] R) ⟨0, h, R⟩ ?_
 clear h
 rintro m2 st ⟨x, h, rfl⟩
 cases m2 with
 | zero => cases (show (none : Option Int) = some r from h)
 | succ m2 =>
 rw [slices_Index_PdDoor_L1] at h
 refine qG ?_
 refine r_lss R R R R ?_ ?_
 ·intro c
  replace h := ifP c h
  refine eN (sw_seq (sw_condT R (sw_skip (then_norm (sw_seq (sw_block (qG (q_movD R (q_asgD R (eN (sw_seq (sw_dr (by kernel_rfl) (q_ldD (y := PdDoor.d v) tb R (q_movD R (q_movD R ?_)))))))))))))))
  obtain ⟨e, ie, h⟩ := bnd h
  refine q_ixE tb (ix0 ie) (ix1m ie) R (q_ldE (y := PdDoor.d e) tb (ix2 (g := PdDoor.d) ie) R ?_)
  refine r_eqlA (p := [.int .i64 v.a, .int .i64 v.b]) (q := [.int .i64 e.a, .int .i64 e.b]) R R (fun o1 o2 w => eq98 v e o1 o2 w) R R ?_
  with_reducible apply ev_lit
  ·intro c2
   replace h := ifP c2 h
   refine ev_endD (by kernel_rfl) (then_norm (sw_condT R (qG (q_movD R (q_asgD R (eN (sw_ret (block_ret (then_ret (then_ret (block_ret (then_ret ?_))))))))))))
   obtain rfl := sI h
   exact f1 4 R
  intro c2
  replace h := ifF c2 h
  refine ev_endD (by kernel_rfl) (then_norm (sw_condF R (sw_skip (block_norm (then_norm (sw_rg (q_add R (q_movD R (eN ?_)))))))))
  exact ⟨m2, _, Nat.lt_succ_self _, .prn [0, 3, 4, 7, 8] R, (W (x + 1)), h, R⟩
 intro c
 replace h := ifN (Int.not_lt.2 c) h
 refine eN (sw_seq (sw_condF R (sw_exit (then_exit (then_exit ?_)))))
 subst hK2
 refine block_exit (then_norm (qG (q_asgD R (eN (sw_ret ?_)))))
 obtain rfl := sI h
 exact f1 4 R
def slices_Contains_PdDoor (F : Nat) (s : (List PdDoor)) (v : PdDoor) : Option Bool := Option.bind (slices_Index_PdDoor F s v) fun rv => some (decide (0 ≤ rv))
theorem slices_Contains_PdDoor_pc {F : Nat} {s : (List PdDoor)} {v : PdDoor} {r : Bool} (h : slices_Contains_PdDoor F s v = some r) : PC Tryz.prog 111 [.arr 2 ((s).map PdDoor.d), PdDoor.d v] (.v (.bool r)) := by
 rw [slices_Contains_PdDoor] at h
 refine SC.of_sw Tryz.func111 R R R ?_
 dsimp only [argS, List.map]
 refine qG (q_box R (q_asgD R (eN (qG (q_movD R (q_ldD (y := PdDoor.d v) tb R ?_))))))
 obtain ⟨rv, hrv, h⟩ := bnd h
 refine r_call (slices_Index_PdDoor_pc hrv) (.of (by kernel_rfl)) R R R R (r_geqV R R R R (q_asgD R (eN (sw_ret ?_))))
 obtain rfl := sI h
 exact f1 4 R
def pad_scene_move_m_J1 (F : Nat) (B19 : Int → Option (Except Int Scene)) (t : Scene) (o : PdAct) (x3 : Int) (e3 : Int) : Option (Except Int Scene) := Option.bind (pad_scene_keyed F t e3 o.what) fun rv10 => Option.bind (pad_demand F rv10 174) fun rv11 => exE rv11 (fun x9 => some (.error x9)) (fun v7 => B19 (W (x3 + 1)))
def pad_scene_move_m_L1 (F : Nat) (t : Scene) (rv7 : (Int × PdPad)) (e6 : PdZone) (K : Int → Option (Except Int Scene)) : Nat → Int → Option (Except Int Scene)
 | 0, _ => none
 | n + 1, x6 => if x6 < (rv7.2.squibs.length : Int) then (Option.bind (ixO rv7.2.squibs x6) fun e7 => if (W ((W ((max (max (W (e6.area_X_Lo - e7.at_X)) (W (e7.at_X - e6.area_X_Hi))) 0) * (max (max (W (e6.area_X_Lo - e7.at_X)) (W (e7.at_X - e6.area_X_Hi))) 0))) + (W ((max (max (W (e6.area_Y_Lo - e7.at_Y)) (W (e7.at_Y - e6.area_Y_Hi))) 0) * (max (max (W (e6.area_Y_Lo - e7.at_Y)) (W (e7.at_Y - e6.area_Y_Hi))) 0))))) < (W (e7.clear * e7.clear)) then (if t.pdState_Storm = true then (Option.bind (ixO t.pdState_Squibs x6) fun e8 => Option.bind (pad_demand F (decide (e8 = 2)) 173) fun rv8 => exE rv8 (fun x7 => some (.error x7)) (fun v5 => pad_scene_move_m_L1 F t rv7 e6 K n (W (x6 + 1)))) else (Option.bind (pad_demand F true 173) fun rv9 => exE rv9 (fun x8 => some (.error x8)) (fun v6 => pad_scene_move_m_L1 F t rv7 e6 K n (W (x6 + 1))))) else (pad_scene_move_m_L1 F t rv7 e6 K n (W (x6 + 1)))) else (K x6)
def pad_scene_move_m_J2 (F : Nat) (B19 : Int → Option (Except Int Scene)) (t : Scene) (o : PdAct) (x3 : Int) (e3 : Int) : Option (Except Int Scene) := Option.bind (pad_near F (PdPad.mk t.p_Zones t.p_Doors t.p_People t.p_Keys t.p_Squibs t.p_Panel t.p_Wait) o.what) fun rv7 => if rv7.1 < 0 then (pad_scene_move_m_J1 F B19 t o x3 e3) else (Option.bind (ixO rv7.2.zones rv7.1) fun e6 => pad_scene_move_m_L1 F t rv7 e6 (fun (x6 : Int) => pad_scene_move_m_J1 F B19 t o x3 e3) F 0)
def pad_scene_move_m_J3 (F : Nat) (t : Scene) (o : PdAct) (e : Int) (A : (List Int)) : Option (Except Int Scene) := Option.bind (pad_scene_alone F {t with pdState_Zones := A} o.what) fun rv15 => if rv15 = true then (Option.bind (pad_demand F false 176) fun rv16 => exE rv16 (fun x13 => some (.error x13)) (fun v10 => none)) else (Option.bind (pad_scene_alone F {t with pdState_Zones := A} e) fun rv17 => Option.bind (pad_demand F (!rv17) 176) fun rv18 => exE rv18 (fun x14 => some (.error x14)) (fun v11 => some (.ok {t with pdState_Zones := A})))
def pad_scene_move_m_L2 (F : Nat) (o : PdAct) (y : (List Int)) (K : (List Int) → Int → Option (Except Int Scene)) : Nat → (List Int) → Int → Option (Except Int Scene)
 | 0, _, _ => none
 | n + 1, A, x10 => if x10 < (y.length : Int) then (Option.bind (ixO y x10) fun e9 => Option.bind (ixO A e9) fun e10 => Option.bind (setO A e9 o.what) fun A2 => pad_scene_move_m_L2 F o y K n A2 (W (x10 + 1))) else (K A x10)
def pad_scene_move_m_L3 (F : Nat) (t : Scene) (o : PdAct) (y : (List Int)) (K : Int → Option (Except Int Scene)) : Nat → Int → Option (Except Int Scene)
 | 0, _ => none
 | n + 1, x3 => if x3 < (y.length : Int) then (Option.bind (ixO y x3) fun e3 => if o.what < 0 then (Option.bind (pad_demand F true 172) fun rv5 => exE rv5 (fun x4 => some (.error x4)) (fun v3 => pad_scene_move_m_J2 F (pad_scene_move_m_L3 F t o y K n) t o x3 e3)) else (Option.bind (ixO t.p_People e3) fun e4 => Option.bind (ixO t.p_Zones o.what) fun e5 => Option.bind (pad_demand F (decide (e5.grade ≤ e4.grade)) 172) fun rv6 => exE rv6 (fun x5 => some (.error x5)) (fun v4 => pad_scene_move_m_J2 F (pad_scene_move_m_L3 F t o y K n) t o x3 e3))) else (K x3)
def pad_scene_move_m_J4 (F : Nat) (t : Scene) (o : PdAct) (e : Int) (y : (List Int)) : Option (Except Int Scene) := pad_scene_move_m_L3 F t o y (fun (x3 : Int) => pad_scene_move_m_L2 F o y (fun (A : (List Int)) (x10 : Int) => if o.what < 0 then (Option.bind (pad_demand F true 175) fun rv12 => exE rv12 (fun x11 => some (.error x11)) (fun v8 => pad_scene_move_m_J3 F t o e A)) else (Option.bind (pad_scene_crowd F {t with pdState_Zones := A} o.what) fun rv13 => Option.bind (ixO t.p_Zones o.what) fun e11 => Option.bind (pad_demand F (decide (rv13 ≤ e11.room)) 175) fun rv14 => exE rv14 (fun x12 => some (.error x12)) (fun v9 => pad_scene_move_m_J3 F t o e A))) F t.pdState_Zones 0) F 0
def pad_scene_move_m_J5 (F : Nat) (t : Scene) (o : PdAct) (e : Int) : Option (Except Int Scene) := if 0 ≤ o.with_ then (Option.bind (appO [o.who] [o.with_]) fun q => pad_scene_move_m_J4 F t o e q) else (pad_scene_move_m_J4 F t o e [o.who])
def pad_scene_move_m_J6 (F : Nat) (t : Scene) (o : PdAct) (e : Int) : Option (Except Int Scene) := if o.with_ < 0 then (Option.bind (pad_demand F true 171) fun rv3 => exE rv3 (fun x => some (.error x)) (fun v => pad_scene_move_m_J5 F t o e)) else (Option.bind (ixO t.pdState_Zones o.with_) fun e2 => Option.bind (pad_demand F (decide (e2 = e)) 171) fun rv4 => exE rv4 (fun x2 => some (.error x2)) (fun v2 => pad_scene_move_m_J5 F t o e))
def pad_scene_move_m (F : Nat) (t : Scene) (o : PdAct) : Option (Except Int Scene) := Option.bind (ixO t.pdState_Zones o.who) fun e => Option.bind (slices_Contains_PdDoor F t.p_Doors (PdDoor.mk e o.what)) fun rv => if rv = true then (pad_scene_move_m_J6 F t o e) else (Option.bind (slices_Contains_PdDoor F t.p_Doors (PdDoor.mk o.what e)) fun rv2 => if rv2 = true then (pad_scene_move_m_J6 F t o e) else (Option.bind (pad_demand F false 171) fun rv3 => exE rv3 (fun x => some (.error x)) (fun v => none)))
theorem pad_scene_move_m_scx {F : Nat} {t : Scene} {o : PdAct} {r : (Except Int Scene)} (h : pad_scene_move_m F t o = some r) : SCX Tryz.prog 86 [.ref 0 13 0 0, .d (PdAct.d o)] [some ⟨13, [Scene_T1 t 1 2 3]⟩, some (lvI t.pdState_Zones), some (lvI t.pdState_Holder), some (lvI t.pdState_Squibs)] r 34 (fun (a : Scene) => .d (.tup [])) (fun (a : Scene) => [some ⟨13, [Scene_T1 a 1 2 3]⟩, some (lvI a.pdState_Zones), some (lvI a.pdState_Holder), some (lvI a.pdState_Squibs)]) := by
 rw [pad_scene_move_m] at h
 refine SC.of_swm Tryz.func86 R R R ?_
 dsimp only [argS, List.map]
 refine swm_seq ?_
 refine swm_of fun df => ?_
 refine sw_rg (q_box R (q_box R (eN (swm_seq ?_))))
 refine swm_of fun df => ?_
 refine sw_dr (by kernel_rfl) (r_ldR tb R R R R R R R R R (r_nilRef R R R (q_fa tb R (q_fa tb R (r_ldW tb R R R R R R R R R (q_fa tb R (q_ldD (y := vI o.who) tb R ?_)))))))
 obtain ⟨e, ie, h⟩ := bnd h
 refine r_ixI tb R R R R R R (ix0 ie) (ix1 ie) R R ?_
 refine r_ldD (y := vI e) tb R R R R (ix2 (g := fun a => T.d (vI a)) ie) R R R R ?_
 refine q_asgD R (ev_endD (by kernel_rfl) (then_norm (swm_seq ?_)))
 refine swm_join (fun zz : Unit => pad_scene_move_m_J6 F t o e = some r) (fun zz : Unit => ⟨[(2, .ref 4 1 0 0), (3, .ref 5 5 0 0), (4, .d (vI e)), (5, .d (.v (.bool true)))], [some ⟨13, [Scene_T1 t 1 2 3]⟩, some (lvI t.pdState_Zones), some (lvI t.pdState_Holder), some (lvI t.pdState_Squibs), some ⟨1, [.ref 0 13 0 0]⟩, some ⟨5, [.d (PdAct.d o)]⟩]⟩) ?_ ?_
 ·clear h
  rintro ⟨⟩ h
  rw [pad_scene_move_m_J6] at h
  refine swm_seq ?_
  refine swm_join (fun zz : Unit => pad_scene_move_m_J5 F t o e = some r) (fun zz : Unit => ⟨[(2, .ref 4 1 0 0), (3, .ref 5 5 0 0), (4, .d (vI e))], [some ⟨13, [Scene_T1 t 1 2 3]⟩, some (lvI t.pdState_Zones), some (lvI t.pdState_Holder), some (lvI t.pdState_Squibs), some ⟨1, [.ref 0 13 0 0]⟩, some ⟨5, [.d (PdAct.d o)]⟩]⟩) ?_ ?_
  ·clear h
   rintro ⟨⟩ h
   rw [pad_scene_move_m_J5] at h
   refine swm_seq ?_
   refine swm_of fun df => ?_
   refine sw_rg (q_fa tb R (q_ldD (y := vI o.who) tb R (r_bslice tb R R R R R R R R R R R R R (r_asgW R R R (eN (swm_seq ?_))))))
   refine swm_join (fun zz : (List Int) => pad_scene_move_m_J4 F t o e zz = some r) (fun zz : (List Int) => ⟨[(2, .ref 4 1 0 0), (3, .ref 5 5 0 0), (4, .d (vI e)), (6, .row 6 1 0 (zz).length)], [some ⟨13, [Scene_T1 t 1 2 3]⟩, some (lvI t.pdState_Zones), some (lvI t.pdState_Holder), some (lvI t.pdState_Squibs), some ⟨1, [.ref 0 13 0 0]⟩, some ⟨5, [.d (PdAct.d o)]⟩, some (lvI zz)]⟩) ?_ ?_
   ·clear h
    rintro y h
    rw [pad_scene_move_m_J4] at h
    refine swm_seq (swm_seq ?_)
    refine swm_of fun df => ?_
    refine sw_rg (r_movW R R R (r_lenR tb R R R R R (q_movD R (eN (swm_block ?_)))))
    obtain ⟨K19, hK19, h⟩ : ∃ K, K = _ ∧ pad_scene_move_m_L3 F t o y K F 0 = some r := ⟨_, rfl, h⟩
    refine swm_loopS (fun m st => ∃ (x3 : Int), pad_scene_move_m_L3 F t o y K19 m x3 = some r ∧ st = ⟨[(2, .ref 4 1 0 0), (3, .ref 5 5 0 0), (4, .d (vI e)), (6, .row 6 1 0 (y).length), (74, .row 6 1 0 (y).length), (75, .d (vI (y.length : Int))), (76, .d (vI x3))], [some ⟨13, [Scene_T1 t 1 2 3]⟩, some (lvI t.pdState_Zones), some (lvI t.pdState_Holder), some (lvI t.pdState_Squibs), some ⟨1, [.ref 0 13 0 0]⟩, some ⟨5, [.d (PdAct.d o)]⟩, some (lvI y)]⟩) (.prn [2, 3, 4, 6, 74, 75, 76] R) ⟨0, h, R⟩ ?_
    clear h
    rintro m19 st ⟨x3, h, rfl⟩
    cases m19 with
    | zero => cases (show (none : Option (Except Int Scene)) = some r from h)
    | succ m19 =>
    rw [pad_scene_move_m_L3] at h
    refine swm_seq ?_
    refine swm_of fun df => ?_
    refine sw_rg ?_
    refine r_lss R R R R ?_ ?_
    ·intro c5
     replace h := ifP c5 h
     refine eN (swm_seq ?_)
     refine swm_of fun df => ?_
     refine sw_condT R (sw_skip (then_norm (swm_seq (swm_block (swm_seq ?_)))))
     refine swm_of fun df => ?_
     refine sw_rg ?_
     obtain ⟨e3, ie3, h⟩ := bnd h
     refine r_ixI tb R R R R R R (ix0 ie3) (ix1 ie3) R R ?_
     refine r_ldD (y := vI e3) tb R R R R (ix2 (g := fun a => T.d (vI a)) ie3) R R R R ?_
     refine q_asgD R (eN (swm_seq ?_))
     refine swm_join (fun zz : Unit => pad_scene_move_m_J2 F (pad_scene_move_m_L3 F t o y K19 m19) t o x3 e3 = some r) (fun zz : Unit => ⟨[(2, .ref 4 1 0 0), (3, .ref 5 5 0 0), (4, .d (vI e)), (6, .row 6 1 0 (y).length), (8, .d (vI e3)), (74, .row 6 1 0 (y).length), (75, .d (vI (y.length : Int))), (76, .d (vI x3))], [some ⟨13, [Scene_T1 t 1 2 3]⟩, some (lvI t.pdState_Zones), some (lvI t.pdState_Holder), some (lvI t.pdState_Squibs), some ⟨1, [.ref 0 13 0 0]⟩, some ⟨5, [.d (PdAct.d o)]⟩, some (lvI y)]⟩) ?_ ?_
     ·clear h
      rintro ⟨⟩ h
      rw [pad_scene_move_m_J2] at h
      refine swm_seq ?_
      refine swm_join (fun zz : Unit => pad_scene_move_m_J1 F (pad_scene_move_m_L3 F t o y K19 m19) t o x3 e3 = some r) (fun zz : Unit => ⟨[(2, .ref 4 1 0 0), (3, .ref 5 5 0 0), (4, .d (vI e)), (6, .row 6 1 0 (y).length), (8, .d (vI e3)), (74, .row 6 1 0 (y).length), (75, .d (vI (y.length : Int))), (76, .d (vI x3))], [some ⟨13, [Scene_T1 t 1 2 3]⟩, some (lvI t.pdState_Zones), some (lvI t.pdState_Holder), some (lvI t.pdState_Squibs), some ⟨1, [.ref 0 13 0 0]⟩, some ⟨5, [.d (PdAct.d o)]⟩, some (lvI y)]⟩) ?_ ?_
      ·clear h
       rintro ⟨⟩ h
       rw [pad_scene_move_m_J1] at h
       refine swm_of fun df => ?_
       refine sw_rgP (r_ldR tb R R R R R R R R R (q_movD R (q_fa tb R (q_ldD (y := vI o.what) tb R ?_))))
       obtain ⟨rv10, hrv10, h⟩ := bnd h
       refine r_callL (pad_scene_keyed_pc hrv10) R (.of (by kernel_rfl)) R R ((.cons (.ref R (.aggL (.cons (.d _) (.cons (.d _) (.cons (.d _) (.cons (.d _) (.cons (.d _) (.cons (.d _) (.cons (.d _) (.cons (.d _) (.cons (.row R R) (.cons (.row R R) (.cons (.row R R) (.cons (.d _) (.cons (.d _) .nil))))))))))))))) (.cons (.d _) (.cons (.d _) .nil)))) R R ?_
       obtain ⟨rv11, hrv11, h⟩ := bnd h
       rcases ex_or rv11 with ⟨x9, nv7⟩ | ⟨v7, nv7⟩
       ·replace h := (exN nv7).symm.trans h
        refine ev_pan ?_
        (with_reducible apply op_call []); exact (pad_demand_scx hrv11).err nv7; exact rfl; exact .of (by kernel_rfl); exact rfl; exact .inl ⟨rfl, rfl, rfl⟩; (iterate 4 exact rfl); exact .nil; exact rfl
        intro cnt
        refine block_pan (then_pan (then_pan (block_pan (then_pan ?_))))
        obtain rfl := sI h
        exact fin_pX (L := [some ⟨13, [Scene_T1 t 1 2 3]⟩, some (lvI t.pdState_Zones), some (lvI t.pdState_Holder), some (lvI t.pdState_Squibs)]) (κ := [0, 1, 2, 3]) (vK (.cons R R (.row R (.row R (.row R .nil)))) R) (.inr ⟨_, R, R⟩)
       replace h := (exO nv7).symm.trans h
       refine r_callO (t' := .d (.tup [])) (ls := []) (news := []) ([]) ([some ⟨13, [Scene_T1 t 1 2 3]⟩, some (lvI t.pdState_Zones), some (lvI t.pdState_Holder), some (lvI t.pdState_Squibs), some ⟨1, [.ref 0 13 0 0]⟩, some ⟨5, [.d (PdAct.d o)]⟩, some (lvI y)]) ((pad_demand_scx hrv11).ok nv7) (.of (by kernel_rfl)) R (.inl ⟨R, R, R⟩) R R R R .nil R R R .nil .nil R R R R (ev_endP (block_norm (then_norm ?_)))
       refine swm_of fun df => ?_
       refine sw_rg (q_add R (q_movD R (eN ?_)))
       exact ⟨m19, _, Nat.lt_succ_self _, .prn [2, 3, 4, 6, 74, 75, 76] R, (W (x3 + 1)), h, R⟩
      refine swm_seq ?_
      refine swm_of fun df => ?_
      refine sw_dr (by kernel_rfl) (r_ldR tb R R R R R R R R R (r_nilRef R R R (q_fa tb R (q_ldD (y := .agg [.arr 8 ((t.p_Zones).map PdZone.d), .arr 2 ((t.p_Doors).map PdDoor.d), .arr 2 ((t.p_People).map PdPerson.d), .arr 1 ((t.p_Keys).map vS), .arr 6 ((t.p_Squibs).map PdSquib.d), vI t.p_Panel, vI t.p_Wait]) tb R (q_fa tb R (q_ldD (y := vI o.what) tb R ?_))))))
      obtain ⟨rv7, hrv7, h⟩ := bnd h
      refine r_callN (t' := .fn (.func 83) [] [.ref 7 1 0 0, .ref 8 7 0 0]) (news' := [⟨1, [.d (vI rv7.1)]⟩, ⟨7, [.d (PdPad.d rv7.2)]⟩]) (pad_near_scr hrv7) (.of (by kernel_rfl)) R R R ((.cons R (.cons R .nil))) R R R (ev_endD (by kernel_rfl) (then_norm (swm_block ?_)))
      refine swm_range (.of (by kernel_rfl)) Tryz.func83 R R R R R R fun lb => ?_
      simp only [argS, Nat.zero_add, Nat.reduceAdd]
      refine swj_seq (swj_seq (swj_rg (rgj_ev (q_ldD (y := vI rv7.1) tb R ?_))))
      refine r_lss R R R R ?_ ?_
      ·intro c7
       replace h := ifP c7 h
       refine ev_endJ (thenj_norm (swj_condT R (swj_ret (thenj_ret ?_))))
       refine ⟨R, [some ⟨13, [Scene_T1 t 1 2 3]⟩, some (lvI t.pdState_Zones), some (lvI t.pdState_Holder), some (lvI t.pdState_Squibs), some ⟨1, [.ref 0 13 0 0]⟩, some ⟨5, [.d (PdAct.d o)]⟩, some (lvI y), some ⟨1, [.d (vI rv7.1)]⟩, some ⟨7, [.d (PdPad.d rv7.2)]⟩], [0, 1, 2, 3, 4, 5, 6, 7, 8], (vK (.cons R R (.row R (.row R (.row R (.cons R R (.cons R R (.row R (.cons R R (.cons R R .nil))))))))) R), ?_⟩
       refine block_norm (then_norm ?_)
       exact .inl ⟨(), h, .vw (κ := [0, 1, 2, 3, 4, 5, 6]) (vK (.cons R R (.row R (.row R (.row R (.cons R R (.cons R R (.row R .nil))))))) R)⟩
      intro c7
      replace h := ifN (Int.not_lt.2 c7) h
      refine ev_endJ (thenj_norm (swj_condF R (swj_skip (thenj_norm (swj_seq (swj_rg (rgj_ev (q_fa tb R (q_ldD (y := .arr 8 ((rv7.2.zones).map PdZone.d)) tb R (q_ldD (y := vI rv7.1) tb R ?_))))))))))
      obtain ⟨e6, ie6, h⟩ := bnd h
      refine q_ixE tb (ix0 ie6) (ix1m ie6) R (q_faE tb R (q_ldE (y := .agg [vI e6.area_X_Lo, vI e6.area_X_Hi, vI e6.area_Y_Lo, vI e6.area_Y_Hi]) tb (ix2 (g := PdZone.d) ie6) R (r_alloc tb R R R R R (q_stE _ _ tb R (ev_endJ (thenj_norm (swj_seq (swj_rg (rgj_ev (q_fa tb R (q_ldD (y := .arr 6 ((rv7.2.squibs).map PdSquib.d)) tb R (q_lenM tb R (q_movD R (ev_endJ (thenj_norm (swj_block ?_))))))))))))))))
      obtain ⟨K26, hK26, h⟩ : ∃ K, K = _ ∧ pad_scene_move_m_L1 F t rv7 e6 K F 0 = some r := ⟨_, rfl, h⟩
      refine swj_loopS (fun m ph st => ∃ (x6 : Int), pad_scene_move_m_L1 F t rv7 e6 K26 m x6 = some r ∧ ph = SX.norm ∧ st = ⟨[(0, .d (.v (.func (.yield lb) #[] #[]))), (4, .ref 9 4 0 0), (18, .d (.arr 6 ((rv7.2.squibs).map PdSquib.d))), (19, .d (vI (rv7.2.squibs.length : Int))), (20, .d (vI x6))], [some ⟨13, [Scene_T1 t 1 2 3]⟩, some (lvI t.pdState_Zones), some (lvI t.pdState_Holder), some (lvI t.pdState_Squibs), some ⟨1, [.ref 0 13 0 0]⟩, some ⟨5, [.d (PdAct.d o)]⟩, some (lvI y), some ⟨1, [.d (vI rv7.1)]⟩, some ⟨7, [.d (PdPad.d rv7.2)]⟩, some ⟨4, [.d (.agg [vI e6.area_X_Lo, vI e6.area_X_Hi, vI e6.area_Y_Lo, vI e6.area_Y_Hi])]⟩]⟩) (.prn [0, 4, 18, 19, 20] R) ⟨0, h, R, R⟩ ?_
      clear h
      rintro m26 ph st ⟨x6, h, rfl, rfl⟩
      cases m26 with
      | zero => cases (show (none : Option (Except Int Scene)) = some r from h)
      | succ m26 =>
      rw [pad_scene_move_m_L1] at h
      refine swj_seq (swj_rg (rgj_ev ?_))
      refine r_lss R R R R ?_ ?_
      ·intro c8
       replace h := ifP c8 h
       refine ev_endJ (thenj_norm (swj_seq (swj_condT R (swj_skip (thenj_norm (swj_seq (swj_block (swj_seq (swj_rg (rgj_ev (q_movD R ?_)))))))))))
       obtain ⟨e7, ie7, h⟩ := bnd h
       refine q_ixE tb (ix0 ie7) (ix1m ie7) R (q_ldE (y := PdSquib.d e7) tb (ix2 (g := PdSquib.d) ie7) R (r_alloc tb R R R R R (q_asgD R (q_stE _ _ tb R (ev_endJ (thenj_norm (swj_seq (swj_of (sw_dr (by kernel_rfl) (q_fa tb R (q_fa tb R (q_ldD (y := vI e6.area_X_Lo) tb R (q_fa tb R (q_fa tb R (q_ldD (y := vI e7.at_X) tb R (r_sub R R R R (q_fa tb R (q_fa tb R (q_ldD (y := vI e7.at_X) tb R (q_fa tb R (q_fa tb R (q_ldD (y := vI e6.area_X_Hi) tb R ?_))))))))))))))))))))))
       refine r_sub R R R R (r_max3 R R R R R (q_fa tb R (q_fa tb R (q_ldD (y := vI e6.area_Y_Lo) tb R (q_fa tb R (q_fa tb R (q_ldD (y := vI e7.at_Y) tb R (r_sub R R R R (q_fa tb R (q_fa tb R (q_ldD (y := vI e7.at_Y) tb R (q_fa tb R (q_fa tb R (q_ldD (y := vI e6.area_Y_Hi) tb R (r_sub R R R R (r_max3 R R R R R (q_asgD R (q_asgD R (ev_endD (by kernel_rfl) (thenj_norm (swj_seq (swj_rg (rgj_ev (q_movD R (q_movD R (r_mul R R R R ?_))))))))))))))))))))))))))
       refine q_movD R (q_movD R (r_mul R R R R (q_add R (q_fa tb R (q_ldD (y := vI e7.clear) tb R (q_fa tb R (q_ldD (y := vI e7.clear) tb R (r_mul R R R R ?_))))))))
       refine r_lss R R R R ?_ ?_
       ·intro c9
        replace h := ifP c9 h
        refine q_movD R (q_movD R (q_movD R (ev_yieldJ ?_)))
        (with_reducible apply rgj_yield (ys := [vI x6])); (iterate 7 exact rfl)
        dsimp only [parS]
        refine sw_rg (q_asgD R (ev_end ?_))
        refine ⟨R, ?_⟩
        with_reducible apply swy_block
        with_reducible apply swy_rg
        refine r_ldR tb R R R R R R R R R (r_nilRef R R R (q_fa tb R (q_fa tb R (q_ldD (y := .v (.bool t.pdState_Storm)) tb R ?_))))
        with_reducible apply ev_lit
        ·intro c10
         replace h := ifP c10 h
         refine r_notT R R R (q_movD R (r_ldR tb R R R R R R R R R (r_nilRef R R R (q_fa tb R (q_fa tb R (r_ldW tb R R R R R R R R R (q_movD R ?_)))))))
         obtain ⟨e8, ie8, h⟩ := bnd h
         refine r_ixI tb R R R R R R (ix0 ie8) (ix1 ie8) R R ?_
         refine r_ldD (y := vI e8) tb R R R R (ix2 (g := fun a => T.d (vI a)) ie8) R R R R ?_
         refine r_eqlV R R R R (q_pickF R ?_)
         obtain ⟨rv8, hrv8, h⟩ := bnd h
         rcases ex_or rv8 with ⟨x7, nv5⟩ | ⟨v5, nv5⟩
         ·replace h := (exN nv5).symm.trans h
          refine ev_pan ?_
          (with_reducible apply op_call []); exact (pad_demand_scx hrv8).err nv5; exact rfl; exact .of (by kernel_rfl); exact rfl; exact .inl ⟨rfl, rfl, rfl⟩; (iterate 4 exact rfl); exact .nil; exact rfl
          intro cnt
          refine block_pan ?_
          refine ⟨[some ⟨13, [Scene_T1 t 1 2 3]⟩, some (lvI t.pdState_Zones), some (lvI t.pdState_Holder), some (lvI t.pdState_Squibs), some ⟨1, [.ref 0 13 0 0]⟩, some ⟨5, [.d (PdAct.d o)]⟩, some (lvI y), some ⟨1, [.d (vI rv7.1)]⟩, some ⟨7, [.d (PdPad.d rv7.2)]⟩, some ⟨4, [.d (.agg [vI e6.area_X_Lo, vI e6.area_X_Hi, vI e6.area_Y_Lo, vI e6.area_Y_Hi])]⟩, some ⟨6, [.d (PdSquib.d e7)]⟩], [0, 1, 2, 3, 4, 5, 6, 7, 8, 9, 10], (vK (.cons R R (.row R (.row R (.row R (.cons R R (.cons R R (.row R (.cons R R (.cons R R (.cons R R (.cons R R .nil))))))))))) R), R, ?_⟩
          with_reducible apply yk_pan
          refine thenj_pan (blockj_pan (thenj_pan (thenj_pan (blockj_pan ?_))))
          refine ⟨R, R, [some ⟨13, [Scene_T1 t 1 2 3]⟩, some (lvI t.pdState_Zones), some (lvI t.pdState_Holder), some (lvI t.pdState_Squibs), some ⟨1, [.ref 0 13 0 0]⟩, some ⟨5, [.d (PdAct.d o)]⟩, some (lvI y), some ⟨1, [.d (vI rv7.1)]⟩, some ⟨7, [.d (PdPad.d rv7.2)]⟩], [0, 1, 2, 3, 4, 5, 6, 7, 8], (vK (.cons R R (.row R (.row R (.row R (.cons R R (.cons R R (.row R (.cons R R (.cons R R .nil))))))))) R), ?_⟩
          refine block_pan (then_pan (block_pan (then_pan (then_pan (block_pan (then_pan ?_))))))
          obtain rfl := sI h
          exact fin_pX (L := [some ⟨13, [Scene_T1 t 1 2 3]⟩, some (lvI t.pdState_Zones), some (lvI t.pdState_Holder), some (lvI t.pdState_Squibs)]) (κ := [0, 1, 2, 3]) (vK (.cons R R (.row R (.row R (.row R .nil)))) R) (.inr ⟨_, R, R⟩)
         replace h := (exO nv5).symm.trans h
         refine r_callO (t' := .d (.tup [])) (ls := []) (news := []) ([]) ([some ⟨13, [Scene_T1 t 1 2 3]⟩, some (lvI t.pdState_Zones), some (lvI t.pdState_Holder), some (lvI t.pdState_Squibs), some ⟨1, [.ref 0 13 0 0]⟩, some ⟨5, [.d (PdAct.d o)]⟩, some (lvI y), some ⟨1, [.d (vI rv7.1)]⟩, some ⟨7, [.d (PdPad.d rv7.2)]⟩, some ⟨4, [.d (.agg [vI e6.area_X_Lo, vI e6.area_X_Hi, vI e6.area_Y_Lo, vI e6.area_Y_Hi])]⟩, some ⟨6, [.d (PdSquib.d e7)]⟩]) ((pad_demand_scx hrv8).ok nv5) (.of (by kernel_rfl)) R (.inl ⟨R, R, R⟩) R R R R .nil R R R .nil .nil R R R R ?_
         refine ev_endP (block_norm ?_)
         refine ⟨[some ⟨13, [Scene_T1 t 1 2 3]⟩, some (lvI t.pdState_Zones), some (lvI t.pdState_Holder), some (lvI t.pdState_Squibs), some ⟨1, [.ref 0 13 0 0]⟩, some ⟨5, [.d (PdAct.d o)]⟩, some (lvI y), some ⟨1, [.d (vI rv7.1)]⟩, some ⟨7, [.d (PdPad.d rv7.2)]⟩, some ⟨4, [.d (.agg [vI e6.area_X_Lo, vI e6.area_X_Hi, vI e6.area_Y_Lo, vI e6.area_Y_Hi])]⟩, some ⟨6, [.d (PdSquib.d e7)]⟩], [0, 1, 2, 3, 4, 5, 6, 7, 8, 9, 10], (vK (.cons R R (.row R (.row R (.row R (.cons R R (.cons R R (.row R (.cons R R (.cons R R (.cons R R (.cons R R .nil))))))))))) R), ?_⟩
         with_reducible apply yk_norm
         refine rgj_ev (r_notT R R R (q_pickT R (ev_endJ (thenj_norm (swj_condF R (swj_skip (blockj_norm (thenj_norm (swj_rg (rgj_ev (q_add R (q_movD R (ev_endJ (thenj_norm ?_))))))))))))))
         exact ⟨m26, ⟨[(0, .d (.v (.func (.yield lb) #[] #[]))), (4, .ref 9 4 0 0), (18, .d (.arr 6 ((rv7.2.squibs).map PdSquib.d))), (19, .d (vI (rv7.2.squibs.length : Int))), (20, .d (vI (W (x6 + 1))))], [some ⟨13, [Scene_T1 t 1 2 3]⟩, some (lvI t.pdState_Zones), some (lvI t.pdState_Holder), some (lvI t.pdState_Squibs), some ⟨1, [.ref 0 13 0 0]⟩, some ⟨5, [.d (PdAct.d o)]⟩, some (lvI y), some ⟨1, [.d (vI rv7.1)]⟩, some ⟨7, [.d (PdPad.d rv7.2)]⟩, some ⟨4, [.d (.agg [vI e6.area_X_Lo, vI e6.area_X_Hi, vI e6.area_Y_Lo, vI e6.area_Y_Hi])]⟩]⟩, Nat.lt_succ_self _, .vw (κ := [0, 1, 2, 3, 4, 5, 6, 7, 8, 9]) (vK (.cons R R (.row R (.row R (.row R (.cons R R (.cons R R (.row R (.cons R R (.cons R R (.cons R R .nil)))))))))) R), (W (x6 + 1)), h, R, R⟩
        intro c10
        replace h := ifF c10 h
        refine r_notF R R R (q_movD R (q_sk 9 R (q_pickT R ?_)))
        obtain ⟨rv9, hrv9, h⟩ := bnd h
        rcases ex_or rv9 with ⟨x8, nv6⟩ | ⟨v6, nv6⟩
        ·replace h := (exN nv6).symm.trans h
         refine ev_pan ?_
         (with_reducible apply op_call []); exact (pad_demand_scx hrv9).err nv6; exact rfl; exact .of (by kernel_rfl); exact rfl; exact .inl ⟨rfl, rfl, rfl⟩; (iterate 4 exact rfl); exact .nil; exact rfl
         intro cnt
         refine block_pan ?_
         refine ⟨[some ⟨13, [Scene_T1 t 1 2 3]⟩, some (lvI t.pdState_Zones), some (lvI t.pdState_Holder), some (lvI t.pdState_Squibs), some ⟨1, [.ref 0 13 0 0]⟩, some ⟨5, [.d (PdAct.d o)]⟩, some (lvI y), some ⟨1, [.d (vI rv7.1)]⟩, some ⟨7, [.d (PdPad.d rv7.2)]⟩, some ⟨4, [.d (.agg [vI e6.area_X_Lo, vI e6.area_X_Hi, vI e6.area_Y_Lo, vI e6.area_Y_Hi])]⟩, some ⟨6, [.d (PdSquib.d e7)]⟩], [0, 1, 2, 3, 4, 5, 6, 7, 8, 9, 10], (vK (.cons R R (.row R (.row R (.row R (.cons R R (.cons R R (.row R (.cons R R (.cons R R (.cons R R (.cons R R .nil))))))))))) R), R, ?_⟩
         with_reducible apply yk_pan
         refine thenj_pan (blockj_pan (thenj_pan (thenj_pan (blockj_pan ?_))))
         refine ⟨R, R, [some ⟨13, [Scene_T1 t 1 2 3]⟩, some (lvI t.pdState_Zones), some (lvI t.pdState_Holder), some (lvI t.pdState_Squibs), some ⟨1, [.ref 0 13 0 0]⟩, some ⟨5, [.d (PdAct.d o)]⟩, some (lvI y), some ⟨1, [.d (vI rv7.1)]⟩, some ⟨7, [.d (PdPad.d rv7.2)]⟩], [0, 1, 2, 3, 4, 5, 6, 7, 8], (vK (.cons R R (.row R (.row R (.row R (.cons R R (.cons R R (.row R (.cons R R (.cons R R .nil))))))))) R), ?_⟩
         refine block_pan (then_pan (block_pan (then_pan (then_pan (block_pan (then_pan ?_))))))
         obtain rfl := sI h
         exact fin_pX (L := [some ⟨13, [Scene_T1 t 1 2 3]⟩, some (lvI t.pdState_Zones), some (lvI t.pdState_Holder), some (lvI t.pdState_Squibs)]) (κ := [0, 1, 2, 3]) (vK (.cons R R (.row R (.row R (.row R .nil)))) R) (.inr ⟨_, R, R⟩)
        replace h := (exO nv6).symm.trans h
        refine r_callO (t' := .d (.tup [])) (ls := []) (news := []) ([]) ([some ⟨13, [Scene_T1 t 1 2 3]⟩, some (lvI t.pdState_Zones), some (lvI t.pdState_Holder), some (lvI t.pdState_Squibs), some ⟨1, [.ref 0 13 0 0]⟩, some ⟨5, [.d (PdAct.d o)]⟩, some (lvI y), some ⟨1, [.d (vI rv7.1)]⟩, some ⟨7, [.d (PdPad.d rv7.2)]⟩, some ⟨4, [.d (.agg [vI e6.area_X_Lo, vI e6.area_X_Hi, vI e6.area_Y_Lo, vI e6.area_Y_Hi])]⟩, some ⟨6, [.d (PdSquib.d e7)]⟩]) ((pad_demand_scx hrv9).ok nv6) (.of (by kernel_rfl)) R (.inl ⟨R, R, R⟩) R R R R .nil R R R .nil .nil R R R R ?_
        refine ev_endP (block_norm ?_)
        refine ⟨[some ⟨13, [Scene_T1 t 1 2 3]⟩, some (lvI t.pdState_Zones), some (lvI t.pdState_Holder), some (lvI t.pdState_Squibs), some ⟨1, [.ref 0 13 0 0]⟩, some ⟨5, [.d (PdAct.d o)]⟩, some (lvI y), some ⟨1, [.d (vI rv7.1)]⟩, some ⟨7, [.d (PdPad.d rv7.2)]⟩, some ⟨4, [.d (.agg [vI e6.area_X_Lo, vI e6.area_X_Hi, vI e6.area_Y_Lo, vI e6.area_Y_Hi])]⟩, some ⟨6, [.d (PdSquib.d e7)]⟩], [0, 1, 2, 3, 4, 5, 6, 7, 8, 9, 10], (vK (.cons R R (.row R (.row R (.row R (.cons R R (.cons R R (.row R (.cons R R (.cons R R (.cons R R (.cons R R .nil))))))))))) R), ?_⟩
        with_reducible apply yk_norm
        refine rgj_ev (r_notT R R R (q_pickT R (ev_endJ (thenj_norm (swj_condF R (swj_skip (blockj_norm (thenj_norm (swj_rg (rgj_ev (q_add R (q_movD R (ev_endJ (thenj_norm ?_))))))))))))))
        exact ⟨m26, ⟨[(0, .d (.v (.func (.yield lb) #[] #[]))), (4, .ref 9 4 0 0), (18, .d (.arr 6 ((rv7.2.squibs).map PdSquib.d))), (19, .d (vI (rv7.2.squibs.length : Int))), (20, .d (vI (W (x6 + 1))))], [some ⟨13, [Scene_T1 t 1 2 3]⟩, some (lvI t.pdState_Zones), some (lvI t.pdState_Holder), some (lvI t.pdState_Squibs), some ⟨1, [.ref 0 13 0 0]⟩, some ⟨5, [.d (PdAct.d o)]⟩, some (lvI y), some ⟨1, [.d (vI rv7.1)]⟩, some ⟨7, [.d (PdPad.d rv7.2)]⟩, some ⟨4, [.d (.agg [vI e6.area_X_Lo, vI e6.area_X_Hi, vI e6.area_Y_Lo, vI e6.area_Y_Hi])]⟩]⟩, Nat.lt_succ_self _, .vw (κ := [0, 1, 2, 3, 4, 5, 6, 7, 8, 9]) (vK (.cons R R (.row R (.row R (.row R (.cons R R (.cons R R (.row R (.cons R R (.cons R R (.cons R R .nil)))))))))) R), (W (x6 + 1)), h, R, R⟩
       intro c9
       replace h := ifN (Int.not_lt.2 c9) h
       refine q_movD R (q_sk 4 R (q_pickF R (ev_endJ (thenj_norm (swj_condF R (swj_skip (blockj_norm (thenj_norm (swj_rg (rgj_ev (q_add R (q_movD R (ev_endJ (thenj_norm ?_))))))))))))))
       exact ⟨m26, ⟨[(0, .d (.v (.func (.yield lb) #[] #[]))), (4, .ref 9 4 0 0), (18, .d (.arr 6 ((rv7.2.squibs).map PdSquib.d))), (19, .d (vI (rv7.2.squibs.length : Int))), (20, .d (vI (W (x6 + 1))))], [some ⟨13, [Scene_T1 t 1 2 3]⟩, some (lvI t.pdState_Zones), some (lvI t.pdState_Holder), some (lvI t.pdState_Squibs), some ⟨1, [.ref 0 13 0 0]⟩, some ⟨5, [.d (PdAct.d o)]⟩, some (lvI y), some ⟨1, [.d (vI rv7.1)]⟩, some ⟨7, [.d (PdPad.d rv7.2)]⟩, some ⟨4, [.d (.agg [vI e6.area_X_Lo, vI e6.area_X_Hi, vI e6.area_Y_Lo, vI e6.area_Y_Hi])]⟩]⟩, Nat.lt_succ_self _, .vw (κ := [0, 1, 2, 3, 4, 5, 6, 7, 8, 9]) (vK (.cons R R (.row R (.row R (.row R (.cons R R (.cons R R (.row R (.cons R R (.cons R R (.cons R R .nil)))))))))) R), (W (x6 + 1)), h, R, R⟩
      intro c8
      replace h := ifN (Int.not_lt.2 c8) h
      refine ev_endJ (thenj_norm (swj_seq (swj_condF R (swj_exit (thenj_exit (thenj_exit ?_))))))
      subst hK26
      refine blockj_exit ?_
      refine ⟨R, [some ⟨13, [Scene_T1 t 1 2 3]⟩, some (lvI t.pdState_Zones), some (lvI t.pdState_Holder), some (lvI t.pdState_Squibs), some ⟨1, [.ref 0 13 0 0]⟩, some ⟨5, [.d (PdAct.d o)]⟩, some (lvI y), some ⟨1, [.d (vI rv7.1)]⟩, some ⟨7, [.d (PdPad.d rv7.2)]⟩], [0, 1, 2, 3, 4, 5, 6, 7, 8], (vK (.cons R R (.row R (.row R (.row R (.cons R R (.cons R R (.row R (.cons R R (.cons R R .nil))))))))) R), ?_⟩
      refine block_norm (then_norm ?_)
      exact .inl ⟨(), h, .vw (κ := [0, 1, 2, 3, 4, 5, 6]) (vK (.cons R R (.row R (.row R (.row R (.cons R R (.cons R R (.row R .nil))))))) R)⟩
     refine swm_of fun df => ?_
     refine sw_drP (by kernel_rfl) (q_fa tb R (q_ldD (y := vI o.what) tb R ?_))
     refine r_lss R R R R ?_ ?_
     ·intro c6
      replace h := ifP c6 h
      refine q_movD R (q_sk 20 R (q_pickT R ?_))
      obtain ⟨rv5, hrv5, h⟩ := bnd h
      rcases ex_or rv5 with ⟨x4, nv3⟩ | ⟨v3, nv3⟩
      ·replace h := (exN nv3).symm.trans h
       refine ev_panD (by kernel_rfl) (by kernel_rfl) ?_
       (with_reducible apply op_call []); exact (pad_demand_scx hrv5).err nv3; exact rfl; exact .of (by kernel_rfl); exact rfl; exact .inl ⟨rfl, rfl, rfl⟩; (iterate 4 exact rfl); exact .nil; exact rfl
       intro cnt
       refine then_pan (block_pan (then_pan (then_pan (block_pan (then_pan ?_)))))
       obtain rfl := sI h
       exact fin_pX (L := [some ⟨13, [Scene_T1 t 1 2 3]⟩, some (lvI t.pdState_Zones), some (lvI t.pdState_Holder), some (lvI t.pdState_Squibs)]) (κ := [0, 1, 2, 3]) (vK (.cons R R (.row R (.row R (.row R .nil)))) R) (.inr ⟨_, R, R⟩)
      replace h := (exO nv3).symm.trans h
      refine r_callO (t' := .d (.tup [])) (ls := []) (news := []) ([]) ([some ⟨13, [Scene_T1 t 1 2 3]⟩, some (lvI t.pdState_Zones), some (lvI t.pdState_Holder), some (lvI t.pdState_Squibs), some ⟨1, [.ref 0 13 0 0]⟩, some ⟨5, [.d (PdAct.d o)]⟩, some (lvI y)]) ((pad_demand_scx hrv5).ok nv3) (.of (by kernel_rfl)) R (.inl ⟨R, R, R⟩) R R R R .nil R R R .nil .nil R R R R (ev_endPD (by kernel_rfl) (then_norm ?_))
      exact .inl ⟨(), h, .prn [2, 3, 4, 6, 8, 74, 75, 76] R⟩
     intro c6
     replace h := ifN (Int.not_lt.2 c6) h
     refine q_movD R (r_ldR tb R R R R R R R R R (r_nilRef R R R (q_fa tb R (q_fa tb R (q_ldD (y := .arr 2 ((t.p_People).map PdPerson.d)) tb R (q_movD R ?_))))))
     obtain ⟨e4, ie4, h⟩ := bnd h
     refine q_ixE tb (ix0 ie4) (ix1m ie4) R (q_faE tb R (q_ldE (y := vI e4.grade) tb (ix2 (g := PdPerson.d) ie4) R (r_ldR tb R R R R R R R R R (r_nilRef R R R (q_fa tb R (q_fa tb R (q_ldD (y := .arr 8 ((t.p_Zones).map PdZone.d)) tb R (q_fa tb R (q_ldD (y := vI o.what) tb R ?_)))))))))
     obtain ⟨e5, ie5, h⟩ := bnd h
     refine q_ixE tb (ix0 ie5) (ix1m ie5) R (q_faE tb R (q_ldE (y := vI e5.grade) tb (ix2 (g := PdZone.d) ie5) R (r_geqV R R R R (q_pickF R ?_))))
     obtain ⟨rv6, hrv6, h⟩ := bnd h
     rcases ex_or rv6 with ⟨x5, nv4⟩ | ⟨v4, nv4⟩
     ·replace h := (exN nv4).symm.trans h
      refine ev_panD (by kernel_rfl) (by kernel_rfl) ?_
      (with_reducible apply op_call []); exact (pad_demand_scx hrv6).err nv4; exact rfl; exact .of (by kernel_rfl); exact rfl; exact .inl ⟨rfl, rfl, rfl⟩; (iterate 4 exact rfl); exact .nil; exact rfl
      intro cnt
      refine then_pan (block_pan (then_pan (then_pan (block_pan (then_pan ?_)))))
      obtain rfl := sI h
      exact fin_pX (L := [some ⟨13, [Scene_T1 t 1 2 3]⟩, some (lvI t.pdState_Zones), some (lvI t.pdState_Holder), some (lvI t.pdState_Squibs)]) (κ := [0, 1, 2, 3]) (vK (.cons R R (.row R (.row R (.row R .nil)))) R) (.inr ⟨_, R, R⟩)
     replace h := (exO nv4).symm.trans h
     refine r_callO (t' := .d (.tup [])) (ls := []) (news := []) ([]) ([some ⟨13, [Scene_T1 t 1 2 3]⟩, some (lvI t.pdState_Zones), some (lvI t.pdState_Holder), some (lvI t.pdState_Squibs), some ⟨1, [.ref 0 13 0 0]⟩, some ⟨5, [.d (PdAct.d o)]⟩, some (lvI y)]) ((pad_demand_scx hrv6).ok nv4) (.of (by kernel_rfl)) R (.inl ⟨R, R, R⟩) R R R R .nil R R R .nil .nil R R R R (ev_endPD (by kernel_rfl) (then_norm ?_))
     exact .inl ⟨(), h, .prn [2, 3, 4, 6, 8, 74, 75, 76] R⟩
    intro c5
    replace h := ifN (Int.not_lt.2 c5) h
    refine eN (swm_seq ?_)
    refine swm_of fun df => ?_
    refine sw_condF R (sw_exit (then_exit (then_exit ?_)))
    subst hK19
    refine block_exit (then_norm ?_)
    refine swm_of fun df => ?_
    refine sw_seq (qG (r_movW R R R (r_lenR tb R R R R R (q_movD R (eN (sw_block ?_))))))
    obtain ⟨K29, hK29, h⟩ : ∃ K, K = _ ∧ pad_scene_move_m_L2 F o y K F t.pdState_Zones 0 = some r := ⟨_, rfl, h⟩
    refine sw_loopS (fun m st => ∃ (A : (List Int)) (x10 : Int), pad_scene_move_m_L2 F o y K29 m A x10 = some r ∧ st = ⟨[(2, .ref 4 1 0 0), (3, .ref 5 5 0 0), (4, .d (vI e)), (139, .row 6 1 0 (y).length), (140, .d (vI (y.length : Int))), (141, .d (vI x10))], [some ⟨13, [Scene_T1 {t with pdState_Zones := A} 1 2 3]⟩, some (lvI A), some (lvI t.pdState_Holder), some (lvI t.pdState_Squibs), some ⟨1, [.ref 0 13 0 0]⟩, some ⟨5, [.d (PdAct.d o)]⟩, some (lvI y)]⟩) (.prn [2, 3, 4, 139, 140, 141] R) ⟨t.pdState_Zones, 0, h, R⟩ ?_
    clear h
    rintro m29 st ⟨A, x10, h, rfl⟩
    cases m29 with
    | zero => cases (show (none : Option (Except Int Scene)) = some r from h)
    | succ m29 =>
    rw [pad_scene_move_m_L2] at h
    refine qG ?_
    refine r_lss R R R R ?_ ?_
    ·intro c11
     replace h := ifP c11 h
     refine eN (sw_seq (sw_condT R (sw_skip (then_norm (sw_seq (sw_block (qG ?_)))))))
     obtain ⟨e9, ie9, h⟩ := bnd h
     refine r_ixI tb R R R R R R (ix0 ie9) (ix1 ie9) R R ?_
     refine r_ldD (y := vI e9) tb R R R R (ix2 (g := fun a => T.d (vI a)) ie9) R R R R ?_
     refine q_asgD R (eN (sw_dr (by kernel_rfl) (r_ldR tb R R R R R R R R R (r_nilRef R R R (q_fa tb R (q_fa tb R (r_ldW tb R R R R R R R R R (q_movD R (q_fa tb R (q_ldD (y := vI o.what) tb R ?_))))))))))
     obtain ⟨e10, ie10, h⟩ := bnd h
     refine r_ixI tb R R R R R R (ix0 ie10) (ix1 ie10) R R ?_
     obtain ⟨A2, iA2, h⟩ := bnd h
     refine r_stQ (a' := (o.what : Int)) tb R R R R ie10 R R R R iA2 R R ?_
     dsimp only [List.set_cons_zero, List.set_cons_succ, PdState_T1, Scene_T1]
     first | rw [set_len iA2] | skip
     refine ev_endD (by kernel_rfl) (block_norm (then_norm (sw_rg (q_add R (q_movD R (eN ?_))))))
     exact ⟨m29, _, Nat.lt_succ_self _, .prn [2, 3, 4, 139, 140, 141] R, A2, (W (x10 + 1)), h, R⟩
    intro c11
    replace h := ifN (Int.not_lt.2 c11) h
    refine eN (sw_seq (sw_condF R (sw_exit (then_exit (then_exit ?_)))))
    subst hK29
    refine block_exit (then_norm (sw_seq ?_))
    refine sw_join (fun zz : Unit => pad_scene_move_m_J3 F t o e A = some r) (fun zz : Unit => ⟨[(2, .ref 4 1 0 0), (3, .ref 5 5 0 0), (4, .d (vI e))], [some ⟨13, [Scene_T1 {t with pdState_Zones := A} 1 2 3]⟩, some (lvI A), some (lvI t.pdState_Holder), some (lvI t.pdState_Squibs), some ⟨1, [.ref 0 13 0 0]⟩, some ⟨5, [.d (PdAct.d o)]⟩]⟩) ?_ ?_
    ·clear h
     rintro ⟨⟩ h
     rw [pad_scene_move_m_J3] at h
     refine sw_rgP (r_ldR tb R R R R R R R R R (q_fa tb R (q_ldD (y := vI o.what) tb R ?_)))
     obtain ⟨rv15, hrv15, h⟩ := bnd h
     refine r_callLB (pad_scene_alone_pc hrv15) (.of (by kernel_rfl)) R R ((.cons (.ref R (.aggL (.cons (.d _) (.cons (.d _) (.cons (.d _) (.cons (.d _) (.cons (.d _) (.cons (.d _) (.cons (.d _) (.cons (.d _) (.cons (.row R R) (.cons (.row R R) (.cons (.row R R) (.cons (.d _) (.cons (.d _) .nil))))))))))))))) (.cons (.d _) .nil))) R R ?_ ?_
     ·intro c13
      replace h := ifP c13 h
      refine r_notT R R R (q_movD R (q_sk 4 R (q_pickF R ?_)))
      obtain ⟨rv16, hrv16, h⟩ := bnd h
      rcases ex_or rv16 with ⟨x13, nv10⟩ | ⟨v10, nv10⟩
      ·replace h := (exN nv10).symm.trans h
       refine ev_pan ?_
       (with_reducible apply op_call []); exact (pad_demand_scx hrv16).err nv10; exact rfl; exact .of (by kernel_rfl); exact rfl; exact .inl ⟨rfl, rfl, rfl⟩; (iterate 4 exact rfl); exact .nil; exact rfl
       intro cnt
       obtain rfl := sI h
       exact fin_pX (L := [some ⟨13, [Scene_T1 {t with pdState_Zones := A} 1 2 3]⟩, some (lvI A), some (lvI t.pdState_Holder), some (lvI t.pdState_Squibs)]) (κ := [0, 1, 2, 3]) (vK (.cons R R (.row R (.row R (.row R .nil)))) R) (.inr ⟨_, R, R⟩)
      replace h := (exO nv10).symm.trans h
      cases h
     intro c13
     replace h := ifF c13 h
     refine r_notF R R R (q_movD R (r_ldR tb R R R R R R R R R (q_movD R ?_)))
     obtain ⟨rv17, hrv17, h⟩ := bnd h
     refine r_callL (pad_scene_alone_pc hrv17) R (.of (by kernel_rfl)) R R ((.cons (.ref R (.aggL (.cons (.d _) (.cons (.d _) (.cons (.d _) (.cons (.d _) (.cons (.d _) (.cons (.d _) (.cons (.d _) (.cons (.d _) (.cons (.row R R) (.cons (.row R R) (.cons (.row R R) (.cons (.d _) (.cons (.d _) .nil))))))))))))))) (.cons (.d _) .nil))) R R (r_not R R R (q_pickT R ?_))
     obtain ⟨rv18, hrv18, h⟩ := bnd h
     rcases ex_or rv18 with ⟨x14, nv11⟩ | ⟨v11, nv11⟩
     ·replace h := (exN nv11).symm.trans h
      refine ev_pan ?_
      (with_reducible apply op_call []); exact (pad_demand_scx hrv18).err nv11; exact rfl; exact .of (by kernel_rfl); exact rfl; exact .inl ⟨rfl, rfl, rfl⟩; (iterate 4 exact rfl); exact .nil; exact rfl
      intro cnt
      obtain rfl := sI h
      exact fin_pX (L := [some ⟨13, [Scene_T1 {t with pdState_Zones := A} 1 2 3]⟩, some (lvI A), some (lvI t.pdState_Holder), some (lvI t.pdState_Squibs)]) (κ := [0, 1, 2, 3]) (vK (.cons R R (.row R (.row R (.row R .nil)))) R) (.inr ⟨_, R, R⟩)
     replace h := (exO nv11).symm.trans h
     refine r_callO (t' := .d (.tup [])) (ls := []) (news := []) ([]) ([some ⟨13, [Scene_T1 {t with pdState_Zones := A} 1 2 3]⟩, some (lvI A), some (lvI t.pdState_Holder), some (lvI t.pdState_Squibs), some ⟨1, [.ref 0 13 0 0]⟩, some ⟨5, [.d (PdAct.d o)]⟩]) ((pad_demand_scx hrv18).ok nv11) (.of (by kernel_rfl)) R (.inl ⟨R, R, R⟩) R R R R .nil R R R .nil .nil R R R R (ev_endP ?_)
     obtain rfl := sI h
     exact fin_n (fin_S (t := .d (.tup [])) (L := [some ⟨13, [Scene_T1 {t with pdState_Zones := A} 1 2 3]⟩, some (lvI A), some (lvI t.pdState_Holder), some (lvI t.pdState_Squibs)]) (κ := [0, 1, 2, 3]) R .nil (vK (.cons R R (.row R (.row R (.row R .nil)))) R) (.inl ⟨_, R, R, R⟩))
    refine sw_drP (by kernel_rfl) (q_fa tb R (q_ldD (y := vI o.what) tb R ?_))
    refine r_lss R R R R ?_ ?_
    ·intro c12
     replace h := ifP c12 h
     refine q_movD R (q_sk 15 R (q_pickT R ?_))
     obtain ⟨rv12, hrv12, h⟩ := bnd h
     rcases ex_or rv12 with ⟨x11, nv8⟩ | ⟨v8, nv8⟩
     ·replace h := (exN nv8).symm.trans h
      refine ev_panD (by kernel_rfl) (by kernel_rfl) ?_
      (with_reducible apply op_call []); exact (pad_demand_scx hrv12).err nv8; exact rfl; exact .of (by kernel_rfl); exact rfl; exact .inl ⟨rfl, rfl, rfl⟩; (iterate 4 exact rfl); exact .nil; exact rfl
      intro cnt
      refine then_pan ?_
      obtain rfl := sI h
      exact fin_pX (L := [some ⟨13, [Scene_T1 {t with pdState_Zones := A} 1 2 3]⟩, some (lvI A), some (lvI t.pdState_Holder), some (lvI t.pdState_Squibs)]) (κ := [0, 1, 2, 3]) (vK (.cons R R (.row R (.row R (.row R .nil)))) R) (.inr ⟨_, R, R⟩)
     replace h := (exO nv8).symm.trans h
     refine r_callO (t' := .d (.tup [])) (ls := []) (news := []) ([]) ([some ⟨13, [Scene_T1 {t with pdState_Zones := A} 1 2 3]⟩, some (lvI A), some (lvI t.pdState_Holder), some (lvI t.pdState_Squibs), some ⟨1, [.ref 0 13 0 0]⟩, some ⟨5, [.d (PdAct.d o)]⟩, some (lvI y)]) ((pad_demand_scx hrv12).ok nv8) (.of (by kernel_rfl)) R (.inl ⟨R, R, R⟩) R R R R .nil R R R .nil .nil R R R R (ev_endPD (by kernel_rfl) (then_norm ?_))
     exact .inl ⟨(), h, .vw (κ := [0, 1, 2, 3, 4, 5]) (vK (.cons R R (.row R (.row R (.row R (.cons R R (.cons R R .nil)))))) R)⟩
    intro c12
    replace h := ifN (Int.not_lt.2 c12) h
    refine q_movD R (r_ldR tb R R R R R R R R R (q_fa tb R (q_ldD (y := vI o.what) tb R ?_)))
    obtain ⟨rv13, hrv13, h⟩ := bnd h
    refine r_callL (pad_scene_crowd_pc hrv13) R (.of (by kernel_rfl)) R R ((.cons (.ref R (.aggL (.cons (.d _) (.cons (.d _) (.cons (.d _) (.cons (.d _) (.cons (.d _) (.cons (.d _) (.cons (.d _) (.cons (.d _) (.cons (.row R R) (.cons (.row R R) (.cons (.row R R) (.cons (.d _) (.cons (.d _) .nil))))))))))))))) (.cons (.d _) .nil))) R R (r_ldR tb R R R R R R R R R (r_nilRef R R R (q_fa tb R (q_fa tb R (q_ldD (y := .arr 8 ((t.p_Zones).map PdZone.d)) tb R (q_fa tb R (q_ldD (y := vI o.what) tb R ?_)))))))
    obtain ⟨e11, ie11, h⟩ := bnd h
    refine q_ixE tb (ix0 ie11) (ix1m ie11) R (q_faE tb R (q_ldE (y := vI e11.room) tb (ix2 (g := PdZone.d) ie11) R (r_leqV R R R R (q_pickF R ?_))))
    obtain ⟨rv14, hrv14, h⟩ := bnd h
    rcases ex_or rv14 with ⟨x12, nv9⟩ | ⟨v9, nv9⟩
    ·replace h := (exN nv9).symm.trans h
     refine ev_panD (by kernel_rfl) (by kernel_rfl) ?_
     (with_reducible apply op_call []); exact (pad_demand_scx hrv14).err nv9; exact rfl; exact .of (by kernel_rfl); exact rfl; exact .inl ⟨rfl, rfl, rfl⟩; (iterate 4 exact rfl); exact .nil; exact rfl
     intro cnt
     refine then_pan ?_
     obtain rfl := sI h
     exact fin_pX (L := [some ⟨13, [Scene_T1 {t with pdState_Zones := A} 1 2 3]⟩, some (lvI A), some (lvI t.pdState_Holder), some (lvI t.pdState_Squibs)]) (κ := [0, 1, 2, 3]) (vK (.cons R R (.row R (.row R (.row R .nil)))) R) (.inr ⟨_, R, R⟩)
    replace h := (exO nv9).symm.trans h
    refine r_callO (t' := .d (.tup [])) (ls := []) (news := []) ([]) ([some ⟨13, [Scene_T1 {t with pdState_Zones := A} 1 2 3]⟩, some (lvI A), some (lvI t.pdState_Holder), some (lvI t.pdState_Squibs), some ⟨1, [.ref 0 13 0 0]⟩, some ⟨5, [.d (PdAct.d o)]⟩, some (lvI y)]) ((pad_demand_scx hrv14).ok nv9) (.of (by kernel_rfl)) R (.inl ⟨R, R, R⟩) R R R R .nil R R R .nil .nil R R R R (ev_endPD (by kernel_rfl) (then_norm ?_))
    exact .inl ⟨(), h, .vw (κ := [0, 1, 2, 3, 4, 5]) (vK (.cons R R (.row R (.row R (.row R (.cons R R (.cons R R .nil)))))) R)⟩
   refine swm_of fun df => ?_
   refine qG (q_fa tb R (q_ldD (y := vI o.with_) tb R ?_))
   refine r_geq R R R R ?_ ?_
   ·intro c4
    replace h := ifP c4 h
    refine eN (sw_condT R (sw_rg (r_movW R R R (q_fa tb R (q_ldD (y := vI o.with_) tb R (r_bslice tb R R R R R R R R R R R R R ?_))))))
    obtain ⟨q, iq, h⟩ := bnd h
    refine r_apM (g := vI) (w := [o.who]) (v := [o.with_]) ([some ⟨13, [Scene_T1 t 1 2 3]⟩, some (lvI t.pdState_Zones), some (lvI t.pdState_Holder), some (lvI t.pdState_Squibs), some ⟨1, [.ref 0 13 0 0]⟩, some ⟨5, [.d (PdAct.d o)]⟩, none, some (lvI [o.with_])]) tb R R R R R R R R R R R iq R R R R R (r_asgW R R R (eN ?_))
    exact .inl ⟨q, h, .vw (κ := [0, 1, 2, 3, 4, 5, 8]) (vK (.cons R R (.row R (.row R (.row R (.cons R R (.cons R R (.row R .nil))))))) R)⟩
   intro c4
   replace h := ifN (Int.not_le.2 c4) h
   refine eN (sw_condF R (sw_skip (then_norm ?_)))
   exact .inl ⟨[o.who], h, .vw (κ := [0, 1, 2, 3, 4, 5, 6]) (vK (.cons R R (.row R (.row R (.row R (.cons R R (.cons R R (.row R .nil))))))) R)⟩
  refine swm_of fun df => ?_
  refine sw_drP (by kernel_rfl) (q_movD R (q_movD R (q_fa tb R (q_ldD (y := vI o.with_) tb R ?_))))
  refine r_lss R R R R ?_ ?_
  ·intro c3
   replace h := ifP c3 h
   refine q_movD R (q_sk 11 R (q_pickT R (q_pickT R ?_)))
   obtain ⟨rv3, hrv3, h⟩ := bnd h
   rcases ex_or rv3 with ⟨x, nv⟩ | ⟨v, nv⟩
   ·replace h := (exN nv).symm.trans h
    refine ev_panD (by kernel_rfl) (by kernel_rfl) ?_
    (with_reducible apply op_call []); exact (pad_demand_scx hrv3).err nv; exact rfl; exact .of (by kernel_rfl); exact rfl; exact .inl ⟨rfl, rfl, rfl⟩; (iterate 4 exact rfl); exact .nil; exact rfl
    intro cnt
    refine then_pan ?_
    obtain rfl := sI h
    exact fin_pX (L := [some ⟨13, [Scene_T1 t 1 2 3]⟩, some (lvI t.pdState_Zones), some (lvI t.pdState_Holder), some (lvI t.pdState_Squibs)]) (κ := [0, 1, 2, 3]) (vK (.cons R R (.row R (.row R (.row R .nil)))) R) (.inr ⟨_, R, R⟩)
   replace h := (exO nv).symm.trans h
   refine r_callO (t' := .d (.tup [])) (ls := []) (news := []) ([]) ([some ⟨13, [Scene_T1 t 1 2 3]⟩, some (lvI t.pdState_Zones), some (lvI t.pdState_Holder), some (lvI t.pdState_Squibs), some ⟨1, [.ref 0 13 0 0]⟩, some ⟨5, [.d (PdAct.d o)]⟩]) ((pad_demand_scx hrv3).ok nv) (.of (by kernel_rfl)) R (.inl ⟨R, R, R⟩) R R R R .nil R R R .nil .nil R R R R (ev_endPD (by kernel_rfl) (then_norm ?_))
   exact .inl ⟨(), h, .prn [2, 3, 4] R⟩
  intro c3
  replace h := ifN (Int.not_lt.2 c3) h
  refine q_movD R (r_ldR tb R R R R R R R R R (r_nilRef R R R (q_fa tb R (q_fa tb R (r_ldW tb R R R R R R R R R (q_fa tb R (q_ldD (y := vI o.with_) tb R ?_)))))))
  obtain ⟨e2, ie2, h⟩ := bnd h
  refine r_ixI tb R R R R R R (ix0 ie2) (ix1 ie2) R R ?_
  refine r_ldD (y := vI e2) tb R R R R (ix2 (g := fun a => T.d (vI a)) ie2) R R R R ?_
  refine q_movD R (r_eqlV R R R R (q_pickF R (q_pickT R ?_)))
  obtain ⟨rv4, hrv4, h⟩ := bnd h
  rcases ex_or rv4 with ⟨x2, nv2⟩ | ⟨v2, nv2⟩
  ·replace h := (exN nv2).symm.trans h
   refine ev_panD (by kernel_rfl) (by kernel_rfl) ?_
   (with_reducible apply op_call []); exact (pad_demand_scx hrv4).err nv2; exact rfl; exact .of (by kernel_rfl); exact rfl; exact .inl ⟨rfl, rfl, rfl⟩; (iterate 4 exact rfl); exact .nil; exact rfl
   intro cnt
   refine then_pan ?_
   obtain rfl := sI h
   exact fin_pX (L := [some ⟨13, [Scene_T1 t 1 2 3]⟩, some (lvI t.pdState_Zones), some (lvI t.pdState_Holder), some (lvI t.pdState_Squibs)]) (κ := [0, 1, 2, 3]) (vK (.cons R R (.row R (.row R (.row R .nil)))) R) (.inr ⟨_, R, R⟩)
  replace h := (exO nv2).symm.trans h
  refine r_callO (t' := .d (.tup [])) (ls := []) (news := []) ([]) ([some ⟨13, [Scene_T1 t 1 2 3]⟩, some (lvI t.pdState_Zones), some (lvI t.pdState_Holder), some (lvI t.pdState_Squibs), some ⟨1, [.ref 0 13 0 0]⟩, some ⟨5, [.d (PdAct.d o)]⟩]) ((pad_demand_scx hrv4).ok nv2) (.of (by kernel_rfl)) R (.inl ⟨R, R, R⟩) R R R R .nil R R R .nil .nil R R R R (ev_endPD (by kernel_rfl) (then_norm ?_))
  exact .inl ⟨(), h, .prn [2, 3, 4] R⟩
 refine swm_of fun df => ?_
 refine sw_dr (by kernel_rfl) (r_ldR tb R R R R R R R R R (r_nilRef R R R (q_fa tb R (q_fa tb R (q_ldD (y := .arr 2 ((t.p_Doors).map PdDoor.d)) tb R (q_movD R (q_fa tb R (q_ldD (y := vI o.what) tb R (r_build (v := .d (.agg [vI e, vI o.what])) tb R R (List.cons_ne_nil _ _) R R R R R R ?_)))))))))
 obtain ⟨rv, hrv, h⟩ := bnd h
 refine r_callB (slices_Contains_PdDoor_pc hrv) (.of (by kernel_rfl)) R R R R ?_ ?_
 ·intro c
  replace h := ifP c h
  refine q_movD R (q_sk 10 R (q_pickT R (q_asgD R (ev_endD (by kernel_rfl) (then_norm ?_)))))
  exact .inl ⟨(), h, .prn [2, 3, 4, 5] R⟩
 intro c
 replace h := ifF c h
 refine q_movD R (r_ldR tb R R R R R R R R R (r_nilRef R R R (q_fa tb R (q_fa tb R (q_ldD (y := .arr 2 ((t.p_Doors).map PdDoor.d)) tb R (q_fa tb R (q_ldD (y := vI o.what) tb R (q_movD R (r_build (v := .d (.agg [vI o.what, vI e])) tb R R (List.cons_ne_nil _ _) R R R R R R ?_)))))))))
 obtain ⟨rv2, hrv2, h⟩ := bnd h
 refine r_callB (slices_Contains_PdDoor_pc hrv2) (.of (by kernel_rfl)) R R R R ?_ ?_
 ·intro c2
  replace h := ifP c2 h
  refine q_pickF R (q_asgD R (ev_endD (by kernel_rfl) (then_norm ?_)))
  exact .inl ⟨(), h, .prn [2, 3, 4, 5] R⟩
 intro c2
 replace h := ifF c2 h
 refine q_pickF R (q_asgD R (ev_endD (by kernel_rfl) (then_norm (.inr (swm_seq ?_)))))
 refine swm_of fun df => ?_
 refine sw_drP (by kernel_rfl) (q_movD R (q_movD R (q_sk 16 R (q_pickF R ?_))))
 obtain ⟨rv3, hrv3, h⟩ := bnd h
 rcases ex_or rv3 with ⟨x, nv⟩ | ⟨v, nv⟩
 ·replace h := (exN nv).symm.trans h
  refine ev_panD (by kernel_rfl) (by kernel_rfl) ?_
  (with_reducible apply op_call []); exact (pad_demand_scx hrv3).err nv; exact rfl; exact .of (by kernel_rfl); exact rfl; exact .inl ⟨rfl, rfl, rfl⟩; (iterate 4 exact rfl); exact .nil; exact rfl
  intro cnt
  refine then_pan ?_
  obtain rfl := sI h
  exact fin_pX (L := [some ⟨13, [Scene_T1 t 1 2 3]⟩, some (lvI t.pdState_Zones), some (lvI t.pdState_Holder), some (lvI t.pdState_Squibs)]) (κ := [0, 1, 2, 3]) (vK (.cons R R (.row R (.row R (.row R .nil)))) R) (.inr ⟨_, R, R⟩)
 replace h := (exO nv).symm.trans h
 cases h
def pad_scene_take_1 (F : Nat) (q : PdSquib) (c : PdAct) : Option Bool := Option.bind (slices_Contains_int F q.keys c.what) fun rv => some rv
theorem pad_scene_take_1_pc {F : Nat} {q : PdSquib} {c : PdAct} {r : Bool} (h : pad_scene_take_1 F q c = some r) : PC Tryz.prog 114 [PdSquib.d q, .el 5 (([c]).map PdAct.d) ((0 : Int)).toNat 0] (.v (.bool r)) := by
 rw [pad_scene_take_1] at h
 refine SC.of_sw Tryz.func114 R R R ?_
 dsimp only [argS, List.map]
 refine qG (q_box R (q_asgD R (eN (qG (q_fa tb R (q_ldD (y := .arr 1 ((q.keys).map vI)) tb R (q_faE tb R (q_ldE (y := vI c.what) tb (ix2 (g := PdAct.d) (R : ixO [c] 0 = some c)) R ?_))))))))
 obtain ⟨rv, hrv, h⟩ := bnd h
 refine r_call (slices_Contains_int_pc hrv) (.of (by kernel_rfl)) R R R R (q_asgD R (eN (sw_ret ?_)))
 obtain rfl := sI h
 exact f1 3 R
def pad_scene_take_m (F : Nat) (c : Scene) (a : PdAct) : Option (Except Int Scene) := Option.bind (pad_scene_atPanel_m F c a.who) fun rv => exE rv (fun x => some (.error x)) (fun v => Option.bind (ixO v.pdState_Holder a.what) fun e => Option.bind (pad_demand F (decide (e < 0)) 174) fun rv2 => exE rv2 (fun x2 => some (.error x2)) (fun v2 => Option.bind (pad_scene_armed F v (fun a0 => pad_scene_take_1 F a0 a)) fun rv3 => Option.bind (pad_demand F (!rv3) 177) fun rv4 => exE rv4 (fun x3 => some (.error x3)) (fun v3 => Option.bind (setO v.pdState_Holder a.what a.who) fun q => some (.ok {v with pdState_Holder := q}))))
theorem pad_scene_take_m_scx {F : Nat} {c : Scene} {a : PdAct} {r : (Except Int Scene)} (h : pad_scene_take_m F c a = some r) : SCX Tryz.prog 87 [.ref 0 13 0 0, .d (PdAct.d a)] [some ⟨13, [Scene_T1 c 1 2 3]⟩, some (lvI c.pdState_Zones), some (lvI c.pdState_Holder), some (lvI c.pdState_Squibs)] r 34 (fun (a : Scene) => .d (.tup [])) (fun (a : Scene) => [some ⟨13, [Scene_T1 a 1 2 3]⟩, some (lvI a.pdState_Zones), some (lvI a.pdState_Holder), some (lvI a.pdState_Squibs)]) := by
 rw [pad_scene_take_m] at h
 refine SC.of_sw Tryz.func87 R R R ?_
 dsimp only [argS, List.map]
 refine qG (q_box R (eN (sw_seq (sw_rgP (r_movR R R R (q_fa tb R (q_ldD (y := vI a.who) tb R ?_)))))))
 obtain ⟨rv, hrv, h⟩ := bnd h
 rcases ex_or rv with ⟨x, nv⟩ | ⟨v, nv⟩
 ·replace h := (exN nv).symm.trans h
  refine ev_pan ?_
  (with_reducible apply op_call [0, 1, 2, 3]); exact (pad_scene_atPanel_m_scx hrv).err nv; exact rfl; exact .of (by kernel_rfl); exact rfl; exact .inl ⟨rfl, rfl, rfl⟩; (iterate 4 exact rfl); exact (.cons rfl rfl (.row rfl (.row rfl (.row rfl .nil)))); exact rfl
  intro cnt
  refine then_pan ?_
  obtain rfl := sI h
  exact fin_pX (L := [none, none, none, none]) (κ := [0, 1, 2, 3]) (vK (.gone R (.gone R (.gone R (.gone R .nil)))) R) (.inr ⟨_, R, R⟩)
 replace h := (exO nv).symm.trans h
 refine r_callO (t' := .d (.tup [])) (ls := [some ⟨13, [Scene_T1 v 1 2 3]⟩, some (lvI v.pdState_Zones), some (lvI v.pdState_Holder), some (lvI v.pdState_Squibs)]) (news := []) ([0, 1, 2, 3]) ([some ⟨13, [Scene_T1 v 1 2 3]⟩, some (lvI v.pdState_Zones), some (lvI v.pdState_Holder), some (lvI v.pdState_Squibs), some ⟨5, [.d (PdAct.d a)]⟩]) ((pad_scene_atPanel_m_scx hrv).ok nv) (.of (by kernel_rfl)) R (.inl ⟨R, R, R⟩) R R R R ((.cons R R (.row R (.row R (.row R .nil))))) R R R ((.cons R (.row (.row (.row .nil))))) .nil R R R R (ev_endP ?_)
 refine then_norm (sw_seq (sw_drP (by kernel_rfl) (r_movR R R R (r_nilRef R R R (q_fa tb R (q_fa tb R (r_ldW tb R R R R R R R R R (q_fa tb R (q_ldD (y := vI a.what) tb R ?_)))))))))
 obtain ⟨e, ie, h⟩ := bnd h
 refine r_ixI tb R R R R R R (ix0 ie) (ix1 ie) R R ?_
 refine r_ldD (y := vI e) tb R R R R (ix2 (g := fun a => T.d (vI a)) ie) R R R R ?_
 refine r_lssV R R R R ?_
 obtain ⟨rv2, hrv2, h⟩ := bnd h
 rcases ex_or rv2 with ⟨x2, nv2⟩ | ⟨v2, nv2⟩
 ·replace h := (exN nv2).symm.trans h
  refine ev_panD (by kernel_rfl) (by kernel_rfl) ?_
  (with_reducible apply op_call []); exact (pad_demand_scx hrv2).err nv2; exact rfl; exact .of (by kernel_rfl); exact rfl; exact .inl ⟨rfl, rfl, rfl⟩; (iterate 4 exact rfl); exact .nil; exact rfl
  intro cnt
  refine then_pan ?_
  obtain rfl := sI h
  exact fin_pX (L := [some ⟨13, [Scene_T1 v 1 2 3]⟩, some (lvI v.pdState_Zones), some (lvI v.pdState_Holder), some (lvI v.pdState_Squibs)]) (κ := [0, 1, 2, 3]) (vK (.cons R R (.row R (.row R (.row R .nil)))) R) (.inr ⟨_, R, R⟩)
 replace h := (exO nv2).symm.trans h
 refine r_callO (t' := .d (.tup [])) (ls := []) (news := []) ([]) ([some ⟨13, [Scene_T1 v 1 2 3]⟩, some (lvI v.pdState_Zones), some (lvI v.pdState_Holder), some (lvI v.pdState_Squibs), some ⟨5, [.d (PdAct.d a)]⟩]) ((pad_demand_scx hrv2).ok nv2) (.of (by kernel_rfl)) R (.inl ⟨R, R, R⟩) R R R R .nil R R R .nil .nil R R R R (ev_endPD (by kernel_rfl) (then_norm (sw_seq (sw_rgP (r_movR R R R (r_func R R R R ?_))))))
 obtain ⟨rv3, hrv3, h⟩ := bnd h
 refine r_callX (t' := .d (.v (.bool rv3))) (news' := []) (pad_scene_armed_scr (so := (fun a0 => pad_scene_take_1 F a0 a)) (soc := [.el 5 [PdAct.d a] 0 0]) (soh := fun hr => pad_scene_take_1_pc hr) (soe := .of (by kernel_rfl)) hrv3) R .nil (.of (by kernel_rfl)) R R ((.cons (.d (.ref R (.aggL (.cons (.d _) (.cons (.d _) (.cons (.d _) (.cons (.d _) (.cons (.d _) (.cons (.d _) (.cons (.d _) (.cons (.d _) (.cons (.row R R) (.cons (.row R R) (.cons (.row R R) (.cons (.d _) (.cons (.d _) .nil)))))))))))))))) (.cons (.fnC (.cons (.d (.ref R (.d _))) .nil)) .nil))) R .nil R R R ?_
 simp only [List.map_nil, List.append_nil]
 refine r_not R R R ?_
 obtain ⟨rv4, hrv4, h⟩ := bnd h
 rcases ex_or rv4 with ⟨x3, nv3⟩ | ⟨v3, nv3⟩
 ·replace h := (exN nv3).symm.trans h
  refine ev_pan ?_
  (with_reducible apply op_call []); exact (pad_demand_scx hrv4).err nv3; exact rfl; exact .of (by kernel_rfl); exact rfl; exact .inl ⟨rfl, rfl, rfl⟩; (iterate 4 exact rfl); exact .nil; exact rfl
  intro cnt
  refine then_pan ?_
  obtain rfl := sI h
  exact fin_pX (L := [some ⟨13, [Scene_T1 v 1 2 3]⟩, some (lvI v.pdState_Zones), some (lvI v.pdState_Holder), some (lvI v.pdState_Squibs)]) (κ := [0, 1, 2, 3]) (vK (.cons R R (.row R (.row R (.row R .nil)))) R) (.inr ⟨_, R, R⟩)
 replace h := (exO nv3).symm.trans h
 refine r_callO (t' := .d (.tup [])) (ls := []) (news := []) ([]) ([some ⟨13, [Scene_T1 v 1 2 3]⟩, some (lvI v.pdState_Zones), some (lvI v.pdState_Holder), some (lvI v.pdState_Squibs), some ⟨5, [.d (PdAct.d a)]⟩]) ((pad_demand_scx hrv4).ok nv3) (.of (by kernel_rfl)) R (.inl ⟨R, R, R⟩) R R R R .nil R R R .nil .nil R R R R (ev_endP (then_norm (sw_dr (by kernel_rfl) (r_movR R R R (r_nilRef R R R (q_fa tb R (q_fa tb R (r_ldW tb R R R R R R R R R (q_fa tb R (q_ldD (y := vI a.what) tb R (q_fa tb R ?_)))))))))))
 refine q_ldD (y := vI a.who) tb R (r_ixI tb R R R R R R (ix0 ie) (ix1 ie) R R ?_)
 obtain ⟨q, iq, h⟩ := bnd h
 refine r_stQ (a' := (a.who : Int)) tb R R R R ie R R R R iq R R ?_
 dsimp only [List.set_cons_zero, List.set_cons_succ, PdState_T1, Scene_T1]
 first | rw [set_len iq] | skip
 refine ev_endD (by kernel_rfl) ?_
 obtain rfl := sI h
 exact fin_n (fin_S (t := .d (.tup [])) (L := [some ⟨13, [Scene_T1 {v with pdState_Holder := q} 1 2 3]⟩, some (lvI v.pdState_Zones), some (lvI q), some (lvI v.pdState_Squibs)]) (κ := [0, 1, 2, 3]) R .nil (vK (.cons R R (.row R (.row R (.row R .nil)))) R) (.inl ⟨_, R, R, R⟩))
def pad_scene_put_m (F : Nat) (c : Scene) (a : PdAct) : Option (Except Int Scene) := Option.bind (pad_scene_atPanel_m F c a.who) fun rv => exE rv (fun x => some (.error x)) (fun v => Option.bind (ixO v.pdState_Holder a.what) fun e => Option.bind (pad_demand F (decide (e = a.who)) 174) fun rv2 => exE rv2 (fun x2 => some (.error x2)) (fun v2 => Option.bind (setO v.pdState_Holder a.what (-1)) fun q => some (.ok {v with pdState_Holder := q})))
theorem pad_scene_put_m_scx {F : Nat} {c : Scene} {a : PdAct} {r : (Except Int Scene)} (h : pad_scene_put_m F c a = some r) : SCX Tryz.prog 88 [.ref 0 13 0 0, .d (PdAct.d a)] [some ⟨13, [Scene_T1 c 1 2 3]⟩, some (lvI c.pdState_Zones), some (lvI c.pdState_Holder), some (lvI c.pdState_Squibs)] r 34 (fun (a : Scene) => .d (.tup [])) (fun (a : Scene) => [some ⟨13, [Scene_T1 a 1 2 3]⟩, some (lvI a.pdState_Zones), some (lvI a.pdState_Holder), some (lvI a.pdState_Squibs)]) := by
 rw [pad_scene_put_m] at h
 refine SC.of_sw Tryz.func88 R R R ?_
 dsimp only [argS, List.map]
 refine qG (q_box R (eN (sw_seq (sw_rgP (r_movR R R R (q_fa tb R (q_ldD (y := vI a.who) tb R ?_)))))))
 obtain ⟨rv, hrv, h⟩ := bnd h
 rcases ex_or rv with ⟨x, nv⟩ | ⟨v, nv⟩
 ·replace h := (exN nv).symm.trans h
  refine ev_pan ?_
  (with_reducible apply op_call [0, 1, 2, 3]); exact (pad_scene_atPanel_m_scx hrv).err nv; exact rfl; exact .of (by kernel_rfl); exact rfl; exact .inl ⟨rfl, rfl, rfl⟩; (iterate 4 exact rfl); exact (.cons rfl rfl (.row rfl (.row rfl (.row rfl .nil)))); exact rfl
  intro cnt
  refine then_pan ?_
  obtain rfl := sI h
  exact fin_pX (L := [none, none, none, none]) (κ := [0, 1, 2, 3]) (vK (.gone R (.gone R (.gone R (.gone R .nil)))) R) (.inr ⟨_, R, R⟩)
 replace h := (exO nv).symm.trans h
 refine r_callO (t' := .d (.tup [])) (ls := [some ⟨13, [Scene_T1 v 1 2 3]⟩, some (lvI v.pdState_Zones), some (lvI v.pdState_Holder), some (lvI v.pdState_Squibs)]) (news := []) ([0, 1, 2, 3]) ([some ⟨13, [Scene_T1 v 1 2 3]⟩, some (lvI v.pdState_Zones), some (lvI v.pdState_Holder), some (lvI v.pdState_Squibs), some ⟨5, [.d (PdAct.d a)]⟩]) ((pad_scene_atPanel_m_scx hrv).ok nv) (.of (by kernel_rfl)) R (.inl ⟨R, R, R⟩) R R R R ((.cons R R (.row R (.row R (.row R .nil))))) R R R ((.cons R (.row (.row (.row .nil))))) .nil R R R R (ev_endP ?_)
 refine then_norm (sw_seq (sw_drP (by kernel_rfl) (r_movR R R R (r_nilRef R R R (q_fa tb R (q_fa tb R (r_ldW tb R R R R R R R R R (q_fa tb R (q_ldD (y := vI a.what) tb R ?_)))))))))
 obtain ⟨e, ie, h⟩ := bnd h
 refine r_ixI tb R R R R R R (ix0 ie) (ix1 ie) R R ?_
 refine r_ldD (y := vI e) tb R R R R (ix2 (g := fun a => T.d (vI a)) ie) R R R R ?_
 refine q_fa tb R (q_ldD (y := vI a.who) tb R (r_eqlV R R R R ?_))
 obtain ⟨rv2, hrv2, h⟩ := bnd h
 rcases ex_or rv2 with ⟨x2, nv2⟩ | ⟨v2, nv2⟩
 ·replace h := (exN nv2).symm.trans h
  refine ev_panD (by kernel_rfl) (by kernel_rfl) ?_
  (with_reducible apply op_call []); exact (pad_demand_scx hrv2).err nv2; exact rfl; exact .of (by kernel_rfl); exact rfl; exact .inl ⟨rfl, rfl, rfl⟩; (iterate 4 exact rfl); exact .nil; exact rfl
  intro cnt
  refine then_pan ?_
  obtain rfl := sI h
  exact fin_pX (L := [some ⟨13, [Scene_T1 v 1 2 3]⟩, some (lvI v.pdState_Zones), some (lvI v.pdState_Holder), some (lvI v.pdState_Squibs)]) (κ := [0, 1, 2, 3]) (vK (.cons R R (.row R (.row R (.row R .nil)))) R) (.inr ⟨_, R, R⟩)
 replace h := (exO nv2).symm.trans h
 refine r_callO (t' := .d (.tup [])) (ls := []) (news := []) ([]) ([some ⟨13, [Scene_T1 v 1 2 3]⟩, some (lvI v.pdState_Zones), some (lvI v.pdState_Holder), some (lvI v.pdState_Squibs), some ⟨5, [.d (PdAct.d a)]⟩]) ((pad_demand_scx hrv2).ok nv2) (.of (by kernel_rfl)) R (.inl ⟨R, R, R⟩) R R R R .nil R R R .nil .nil R R R R (ev_endPD (by kernel_rfl) (then_norm (sw_dr (by kernel_rfl) (r_movR R R R (r_nilRef R R R (q_fa tb R (q_fa tb R (r_ldW tb R R R R R R R R R (q_fa tb R ?_)))))))))
 refine q_ldD (y := vI a.what) tb R (r_ixI tb R R R R R R (ix0 ie) (ix1 ie) R R ?_)
 obtain ⟨q, iq, h⟩ := bnd h
 refine r_stQ (a' := ((-1) : Int)) tb R R R R ie R R R R iq R R ?_
 dsimp only [List.set_cons_zero, List.set_cons_succ, PdState_T1, Scene_T1]
 first | rw [set_len iq] | skip
 refine ev_endD (by kernel_rfl) ?_
 obtain rfl := sI h
 exact fin_n (fin_S (t := .d (.tup [])) (L := [some ⟨13, [Scene_T1 {v with pdState_Holder := q} 1 2 3]⟩, some (lvI v.pdState_Zones), some (lvI q), some (lvI v.pdState_Squibs)]) (κ := [0, 1, 2, 3]) R .nil (vK (.cons R R (.row R (.row R (.row R .nil)))) R) (.inl ⟨_, R, R, R⟩))
def pad_scene_give_m (F : Nat) (c : Scene) (a : PdAct) : Option (Except Int Scene) := Option.bind (ixO c.pdState_Holder a.what) fun e => Option.bind (pad_demand F (decide (e = a.who)) 174) fun rv => exE rv (fun x => some (.error x)) (fun v => Option.bind (ixO c.pdState_Zones a.with_) fun e2 => Option.bind (ixO c.pdState_Zones a.who) fun e3 => Option.bind (pad_demand F (decide (e2 = e3)) 171) fun rv2 => exE rv2 (fun x2 => some (.error x2)) (fun v2 => Option.bind (setO c.pdState_Holder a.what a.with_) fun q => Option.bind (pad_scene_keyed F {c with pdState_Holder := q} a.who e3) fun rv3 => Option.bind (pad_demand F rv3 178) fun rv4 => exE rv4 (fun x3 => some (.error x3)) (fun v3 => some (.ok {c with pdState_Holder := q}))))
theorem pad_scene_give_m_scx {F : Nat} {c : Scene} {a : PdAct} {r : (Except Int Scene)} (h : pad_scene_give_m F c a = some r) : SCX Tryz.prog 89 [.ref 0 13 0 0, .d (PdAct.d a)] [some ⟨13, [Scene_T1 c 1 2 3]⟩, some (lvI c.pdState_Zones), some (lvI c.pdState_Holder), some (lvI c.pdState_Squibs)] r 34 (fun (a : Scene) => .d (.tup [])) (fun (a : Scene) => [some ⟨13, [Scene_T1 a 1 2 3]⟩, some (lvI a.pdState_Zones), some (lvI a.pdState_Holder), some (lvI a.pdState_Squibs)]) := by
 rw [pad_scene_give_m] at h
 refine SC.of_sw Tryz.func89 R R R ?_
 dsimp only [argS, List.map]
 refine qG (q_box R (eN (sw_seq (sw_drP (by kernel_rfl) (r_movR R R R (r_nilRef R R R (q_fa tb R (q_fa tb R (r_ldW tb R R R R R R R R R (q_fa tb R (q_ldD (y := vI a.what) tb R ?_)))))))))))
 obtain ⟨e, ie, h⟩ := bnd h
 refine r_ixI tb R R R R R R (ix0 ie) (ix1 ie) R R ?_
 refine r_ldD (y := vI e) tb R R R R (ix2 (g := fun a => T.d (vI a)) ie) R R R R ?_
 refine q_fa tb R (q_ldD (y := vI a.who) tb R (r_eqlV R R R R ?_))
 obtain ⟨rv, hrv, h⟩ := bnd h
 rcases ex_or rv with ⟨x, nv⟩ | ⟨v, nv⟩
 ·replace h := (exN nv).symm.trans h
  refine ev_panD (by kernel_rfl) (by kernel_rfl) ?_
  (with_reducible apply op_call []); exact (pad_demand_scx hrv).err nv; exact rfl; exact .of (by kernel_rfl); exact rfl; exact .inl ⟨rfl, rfl, rfl⟩; (iterate 4 exact rfl); exact .nil; exact rfl
  intro cnt
  refine then_pan ?_
  obtain rfl := sI h
  exact fin_pX (L := [some ⟨13, [Scene_T1 c 1 2 3]⟩, some (lvI c.pdState_Zones), some (lvI c.pdState_Holder), some (lvI c.pdState_Squibs)]) (κ := [0, 1, 2, 3]) (vK (.cons R R (.row R (.row R (.row R .nil)))) R) (.inr ⟨_, R, R⟩)
 replace h := (exO nv).symm.trans h
 refine r_callO (t' := .d (.tup [])) (ls := []) (news := []) ([]) ([some ⟨13, [Scene_T1 c 1 2 3]⟩, some (lvI c.pdState_Zones), some (lvI c.pdState_Holder), some (lvI c.pdState_Squibs), some ⟨5, [.d (PdAct.d a)]⟩]) ((pad_demand_scx hrv).ok nv) (.of (by kernel_rfl)) R (.inl ⟨R, R, R⟩) R R R R .nil R R R .nil .nil R R R R (ev_endPD (by kernel_rfl) (then_norm (sw_seq (sw_drP (by kernel_rfl) (r_movR R R R (r_nilRef R R R (q_fa tb R (q_fa tb R (r_ldW tb R R R R R R R R R (q_fa tb R ?_))))))))))
 refine q_ldD (y := vI a.with_) tb R ?_
 obtain ⟨e2, ie2, h⟩ := bnd h
 refine r_ixI tb R R R R R R (ix0 ie2) (ix1 ie2) R R ?_
 refine r_ldD (y := vI e2) tb R R R R (ix2 (g := fun a => T.d (vI a)) ie2) R R R R ?_
 refine r_movR R R R (r_nilRef R R R (q_fa tb R (q_fa tb R (r_ldW tb R R R R R R R R R (q_fa tb R (q_ldD (y := vI a.who) tb R ?_))))))
 obtain ⟨e3, ie3, h⟩ := bnd h
 refine r_ixI tb R R R R R R (ix0 ie3) (ix1 ie3) R R ?_
 refine r_ldD (y := vI e3) tb R R R R (ix2 (g := fun a => T.d (vI a)) ie3) R R R R ?_
 refine r_eqlV R R R R ?_
 obtain ⟨rv2, hrv2, h⟩ := bnd h
 rcases ex_or rv2 with ⟨x2, nv2⟩ | ⟨v2, nv2⟩
 ·replace h := (exN nv2).symm.trans h
  refine ev_panD (by kernel_rfl) (by kernel_rfl) ?_
  (with_reducible apply op_call []); exact (pad_demand_scx hrv2).err nv2; exact rfl; exact .of (by kernel_rfl); exact rfl; exact .inl ⟨rfl, rfl, rfl⟩; (iterate 4 exact rfl); exact .nil; exact rfl
  intro cnt
  refine then_pan ?_
  obtain rfl := sI h
  exact fin_pX (L := [some ⟨13, [Scene_T1 c 1 2 3]⟩, some (lvI c.pdState_Zones), some (lvI c.pdState_Holder), some (lvI c.pdState_Squibs)]) (κ := [0, 1, 2, 3]) (vK (.cons R R (.row R (.row R (.row R .nil)))) R) (.inr ⟨_, R, R⟩)
 replace h := (exO nv2).symm.trans h
 refine r_callO (t' := .d (.tup [])) (ls := []) (news := []) ([]) ([some ⟨13, [Scene_T1 c 1 2 3]⟩, some (lvI c.pdState_Zones), some (lvI c.pdState_Holder), some (lvI c.pdState_Squibs), some ⟨5, [.d (PdAct.d a)]⟩]) ((pad_demand_scx hrv2).ok nv2) (.of (by kernel_rfl)) R (.inl ⟨R, R, R⟩) R R R R .nil R R R .nil .nil R R R R (ev_endPD (by kernel_rfl) (then_norm (sw_seq (sw_dr (by kernel_rfl) (r_movR R R R (r_nilRef R R R (q_fa tb R (q_fa tb R (r_ldW tb R R R R R R R R R (q_fa tb R ?_))))))))))
 refine q_ldD (y := vI a.what) tb R (q_fa tb R (q_ldD (y := vI a.with_) tb R (r_ixI tb R R R R R R (ix0 ie) (ix1 ie) R R ?_)))
 obtain ⟨q, iq, h⟩ := bnd h
 refine r_stQ (a' := (a.with_ : Int)) tb R R R R ie R R R R iq R R ?_
 dsimp only [List.set_cons_zero, List.set_cons_succ, PdState_T1, Scene_T1]
 first | rw [set_len iq] | skip
 refine ev_endD (by kernel_rfl) (then_norm (sw_drP (by kernel_rfl) (r_movR R R R (q_fa tb R (q_ldD (y := vI a.who) tb R (r_movR R R R (r_nilRef R R R (q_fa tb R (q_fa tb R (r_ldW tb R R R R R R R R R (q_fa tb R (q_ldD (y := vI a.who) tb R (r_ixI tb R R R R R R (ix0 ie3) (ix1 ie3) R R ?_)))))))))))))
 refine r_ldD (y := vI e3) tb R R R R (ix2 (g := fun a => T.d (vI a)) ie3) R R R R ?_
 obtain ⟨rv3, hrv3, h⟩ := bnd h
 refine r_callL (pad_scene_keyed_pc hrv3) R (.of (by kernel_rfl)) R R ((.cons (.ref R (.aggL (.cons (.d _) (.cons (.d _) (.cons (.d _) (.cons (.d _) (.cons (.d _) (.cons (.d _) (.cons (.d _) (.cons (.d _) (.cons (.row R R) (.cons (.row R R) (.cons (.row R R) (.cons (.d _) (.cons (.d _) .nil))))))))))))))) (.cons (.d _) (.cons (.d _) .nil)))) R R ?_
 obtain ⟨rv4, hrv4, h⟩ := bnd h
 rcases ex_or rv4 with ⟨x3, nv3⟩ | ⟨v3, nv3⟩
 ·replace h := (exN nv3).symm.trans h
  refine ev_panD (by kernel_rfl) (by kernel_rfl) ?_
  (with_reducible apply op_call []); exact (pad_demand_scx hrv4).err nv3; exact rfl; exact .of (by kernel_rfl); exact rfl; exact .inl ⟨rfl, rfl, rfl⟩; (iterate 4 exact rfl); exact .nil; exact rfl
  intro cnt
  obtain rfl := sI h
  exact fin_pX (L := [some ⟨13, [Scene_T1 {c with pdState_Holder := q} 1 2 3]⟩, some (lvI c.pdState_Zones), some (lvI q), some (lvI c.pdState_Squibs)]) (κ := [0, 1, 2, 3]) (vK (.cons R R (.row R (.row R (.row R .nil)))) R) (.inr ⟨_, R, R⟩)
 replace h := (exO nv3).symm.trans h
 refine r_callO (t' := .d (.tup [])) (ls := []) (news := []) ([]) ([some ⟨13, [Scene_T1 {c with pdState_Holder := q} 1 2 3]⟩, some (lvI c.pdState_Zones), some (lvI q), some (lvI c.pdState_Squibs), some ⟨5, [.d (PdAct.d a)]⟩]) ((pad_demand_scx hrv4).ok nv3) (.of (by kernel_rfl)) R (.inl ⟨R, R, R⟩) R R R R .nil R R R .nil .nil R R R R (ev_endPD (by kernel_rfl) ?_)
 obtain rfl := sI h
 exact fin_n (fin_S (t := .d (.tup [])) (L := [some ⟨13, [Scene_T1 {c with pdState_Holder := q} 1 2 3]⟩, some (lvI c.pdState_Zones), some (lvI q), some (lvI c.pdState_Squibs)]) (κ := [0, 1, 2, 3]) R .nil (vK (.cons R R (.row R (.row R (.row R .nil)))) R) (.inl ⟨_, R, R, R⟩))
def pad_scene_badge_m (F : Nat) (c : Scene) (a : PdAct) : Option (Except Int Scene) := Option.bind (pad_scene_atPanel_m F c a.who) fun rv => exE rv (fun x => some (.error x)) (fun v => Option.bind (ixO v.p_People a.who) fun e => Option.bind (ixO v.p_Squibs a.what) fun e2 => Option.bind (pad_demand F (decide (e2.grade ≤ e.grade)) 172) fun rv2 => exE rv2 (fun x2 => some (.error x2)) (fun v2 => some (.ok v)))
theorem pad_scene_badge_m_scx {F : Nat} {c : Scene} {a : PdAct} {r : (Except Int Scene)} (h : pad_scene_badge_m F c a = some r) : SCX Tryz.prog 116 [.ref 0 13 0 0, .d (PdAct.d a)] [some ⟨13, [Scene_T1 c 1 2 3]⟩, some (lvI c.pdState_Zones), some (lvI c.pdState_Holder), some (lvI c.pdState_Squibs)] r 34 (fun (a : Scene) => .d (.tup [])) (fun (a : Scene) => [some ⟨13, [Scene_T1 a 1 2 3]⟩, some (lvI a.pdState_Zones), some (lvI a.pdState_Holder), some (lvI a.pdState_Squibs)]) := by
 rw [pad_scene_badge_m] at h
 refine SC.of_sw Tryz.func116 R R R ?_
 dsimp only [argS, List.map]
 refine qG (q_box R (eN (sw_seq (sw_rgP (r_movR R R R (q_fa tb R (q_ldD (y := vI a.who) tb R ?_)))))))
 obtain ⟨rv, hrv, h⟩ := bnd h
 rcases ex_or rv with ⟨x, nv⟩ | ⟨v, nv⟩
 ·replace h := (exN nv).symm.trans h
  refine ev_pan ?_
  (with_reducible apply op_call [0, 1, 2, 3]); exact (pad_scene_atPanel_m_scx hrv).err nv; exact rfl; exact .of (by kernel_rfl); exact rfl; exact .inl ⟨rfl, rfl, rfl⟩; (iterate 4 exact rfl); exact (.cons rfl rfl (.row rfl (.row rfl (.row rfl .nil)))); exact rfl
  intro cnt
  refine then_pan ?_
  obtain rfl := sI h
  exact fin_pX (L := [none, none, none, none]) (κ := [0, 1, 2, 3]) (vK (.gone R (.gone R (.gone R (.gone R .nil)))) R) (.inr ⟨_, R, R⟩)
 replace h := (exO nv).symm.trans h
 refine r_callO (t' := .d (.tup [])) (ls := [some ⟨13, [Scene_T1 v 1 2 3]⟩, some (lvI v.pdState_Zones), some (lvI v.pdState_Holder), some (lvI v.pdState_Squibs)]) (news := []) ([0, 1, 2, 3]) ([some ⟨13, [Scene_T1 v 1 2 3]⟩, some (lvI v.pdState_Zones), some (lvI v.pdState_Holder), some (lvI v.pdState_Squibs), some ⟨5, [.d (PdAct.d a)]⟩]) ((pad_scene_atPanel_m_scx hrv).ok nv) (.of (by kernel_rfl)) R (.inl ⟨R, R, R⟩) R R R R ((.cons R R (.row R (.row R (.row R .nil))))) R R R ((.cons R (.row (.row (.row .nil))))) .nil R R R R (ev_endP ?_)
 refine then_norm (sw_drP (by kernel_rfl) (r_movR R R R (r_nilRef R R R (q_fa tb R (q_fa tb R (q_ldD (y := .arr 2 ((v.p_People).map PdPerson.d)) tb R (q_fa tb R (q_ldD (y := vI a.who) tb R ?_))))))))
 obtain ⟨e, ie, h⟩ := bnd h
 refine q_ixE tb (ix0 ie) (ix1m ie) R (q_faE tb R (q_ldE (y := vI e.grade) tb (ix2 (g := PdPerson.d) ie) R (r_movR R R R (r_nilRef R R R (q_fa tb R (q_fa tb R (q_ldD (y := .arr 6 ((v.p_Squibs).map PdSquib.d)) tb R (q_fa tb R (q_ldD (y := vI a.what) tb R ?_)))))))))
 obtain ⟨e2, ie2, h⟩ := bnd h
 refine q_ixE tb (ix0 ie2) (ix1m ie2) R (q_faE tb R (q_ldE (y := vI e2.grade) tb (ix2 (g := PdSquib.d) ie2) R (r_geqV R R R R ?_)))
 obtain ⟨rv2, hrv2, h⟩ := bnd h
 rcases ex_or rv2 with ⟨x2, nv2⟩ | ⟨v2, nv2⟩
 ·replace h := (exN nv2).symm.trans h
  refine ev_panD (by kernel_rfl) (by kernel_rfl) ?_
  (with_reducible apply op_call []); exact (pad_demand_scx hrv2).err nv2; exact rfl; exact .of (by kernel_rfl); exact rfl; exact .inl ⟨rfl, rfl, rfl⟩; (iterate 4 exact rfl); exact .nil; exact rfl
  intro cnt
  obtain rfl := sI h
  exact fin_pX (L := [some ⟨13, [Scene_T1 v 1 2 3]⟩, some (lvI v.pdState_Zones), some (lvI v.pdState_Holder), some (lvI v.pdState_Squibs)]) (κ := [0, 1, 2, 3]) (vK (.cons R R (.row R (.row R (.row R .nil)))) R) (.inr ⟨_, R, R⟩)
 replace h := (exO nv2).symm.trans h
 refine r_callO (t' := .d (.tup [])) (ls := []) (news := []) ([]) ([some ⟨13, [Scene_T1 v 1 2 3]⟩, some (lvI v.pdState_Zones), some (lvI v.pdState_Holder), some (lvI v.pdState_Squibs), some ⟨5, [.d (PdAct.d a)]⟩]) ((pad_demand_scx hrv2).ok nv2) (.of (by kernel_rfl)) R (.inl ⟨R, R, R⟩) R R R R .nil R R R .nil .nil R R R R (ev_endPD (by kernel_rfl) ?_)
 obtain rfl := sI h
 exact fin_n (fin_S (t := .d (.tup [])) (L := [some ⟨13, [Scene_T1 v 1 2 3]⟩, some (lvI v.pdState_Zones), some (lvI v.pdState_Holder), some (lvI v.pdState_Squibs)]) (κ := [0, 1, 2, 3]) R .nil (vK (.cons R R (.row R (.row R (.row R .nil)))) R) (.inl ⟨_, R, R, R⟩))
def pad_scene_arm_m (F : Nat) (c : Scene) (a : PdAct) : Option (Except Int Scene) := Option.bind (pad_scene_badge_m F c a) fun rv => exE rv (fun x => some (.error x)) (fun v => Option.bind (ixO v.pdState_Squibs a.what) fun e => Option.bind (pad_demand F (decide (e = 0)) 177) fun rv2 => exE rv2 (fun x2 => some (.error x2)) (fun v2 => Option.bind (pad_demand F (!v.pdState_Storm) 173) fun rv3 => exE rv3 (fun x3 => some (.error x3)) (fun v3 => Option.bind (pad_scene_owed F v a.what) fun rv4 => Option.bind (pad_demand F (decide ((rv4.length : Int) = 0)) 174) fun rv5 => exE rv5 (fun x4 => some (.error x4)) (fun v4 => if 0 ≤ v.pdState_Siren then (Option.bind (pad_demand F (decide (v.p_Wait ≤ (W (a.at_ - v.pdState_Siren)))) 179) fun rv6 => exE rv6 (fun x5 => some (.error x5)) (fun v5 => Option.bind (setO v.pdState_Squibs a.what 1) fun q => some (.ok {v with pdState_Squibs := q}))) else (Option.bind (pad_demand F false 179) fun rv7 => exE rv7 (fun x6 => some (.error x6)) (fun v6 => none))))))
theorem pad_scene_arm_m_scx {F : Nat} {c : Scene} {a : PdAct} {r : (Except Int Scene)} (h : pad_scene_arm_m F c a = some r) : SCX Tryz.prog 90 [.ref 0 13 0 0, .d (PdAct.d a)] [some ⟨13, [Scene_T1 c 1 2 3]⟩, some (lvI c.pdState_Zones), some (lvI c.pdState_Holder), some (lvI c.pdState_Squibs)] r 34 (fun (a : Scene) => .d (.tup [])) (fun (a : Scene) => [some ⟨13, [Scene_T1 a 1 2 3]⟩, some (lvI a.pdState_Zones), some (lvI a.pdState_Holder), some (lvI a.pdState_Squibs)]) := by
 rw [pad_scene_arm_m] at h
 refine SC.of_sw Tryz.func90 R R R ?_
 dsimp only [argS, List.map]
 refine qG (q_box R (eN (sw_seq (sw_rgP (r_movR R R R (q_ldD (y := PdAct.d a) tb R ?_))))))
 obtain ⟨rv, hrv, h⟩ := bnd h
 rcases ex_or rv with ⟨x, nv⟩ | ⟨v, nv⟩
 ·replace h := (exN nv).symm.trans h
  refine ev_pan ?_
  (with_reducible apply op_call [0, 1, 2, 3]); exact (pad_scene_badge_m_scx hrv).err nv; exact rfl; exact .of (by kernel_rfl); exact rfl; exact .inl ⟨rfl, rfl, rfl⟩; (iterate 4 exact rfl); exact (.cons rfl rfl (.row rfl (.row rfl (.row rfl .nil)))); exact rfl
  intro cnt
  refine then_pan ?_
  obtain rfl := sI h
  exact fin_pX (L := [none, none, none, none]) (κ := [0, 1, 2, 3]) (vK (.gone R (.gone R (.gone R (.gone R .nil)))) R) (.inr ⟨_, R, R⟩)
 replace h := (exO nv).symm.trans h
 refine r_callO (t' := .d (.tup [])) (ls := [some ⟨13, [Scene_T1 v 1 2 3]⟩, some (lvI v.pdState_Zones), some (lvI v.pdState_Holder), some (lvI v.pdState_Squibs)]) (news := []) ([0, 1, 2, 3]) ([some ⟨13, [Scene_T1 v 1 2 3]⟩, some (lvI v.pdState_Zones), some (lvI v.pdState_Holder), some (lvI v.pdState_Squibs), some ⟨5, [.d (PdAct.d a)]⟩]) ((pad_scene_badge_m_scx hrv).ok nv) (.of (by kernel_rfl)) R (.inl ⟨R, R, R⟩) R R R R ((.cons R R (.row R (.row R (.row R .nil))))) R R R ((.cons R (.row (.row (.row .nil))))) .nil R R R R (ev_endP ?_)
 refine then_norm (sw_seq (sw_drP (by kernel_rfl) (r_movR R R R (r_nilRef R R R (q_fa tb R (q_fa tb R (r_ldW tb R R R R R R R R R (q_fa tb R (q_ldD (y := vI a.what) tb R ?_)))))))))
 obtain ⟨e, ie, h⟩ := bnd h
 refine r_ixI tb R R R R R R (ix0 ie) (ix1 ie) R R ?_
 refine r_ldD (y := vI e) tb R R R R (ix2 (g := fun a => T.d (vI a)) ie) R R R R ?_
 refine r_eqlV R R R R ?_
 obtain ⟨rv2, hrv2, h⟩ := bnd h
 rcases ex_or rv2 with ⟨x2, nv2⟩ | ⟨v2, nv2⟩
 ·replace h := (exN nv2).symm.trans h
  refine ev_panD (by kernel_rfl) (by kernel_rfl) ?_
  (with_reducible apply op_call []); exact (pad_demand_scx hrv2).err nv2; exact rfl; exact .of (by kernel_rfl); exact rfl; exact .inl ⟨rfl, rfl, rfl⟩; (iterate 4 exact rfl); exact .nil; exact rfl
  intro cnt
  refine then_pan ?_
  obtain rfl := sI h
  exact fin_pX (L := [some ⟨13, [Scene_T1 v 1 2 3]⟩, some (lvI v.pdState_Zones), some (lvI v.pdState_Holder), some (lvI v.pdState_Squibs)]) (κ := [0, 1, 2, 3]) (vK (.cons R R (.row R (.row R (.row R .nil)))) R) (.inr ⟨_, R, R⟩)
 replace h := (exO nv2).symm.trans h
 refine r_callO (t' := .d (.tup [])) (ls := []) (news := []) ([]) ([some ⟨13, [Scene_T1 v 1 2 3]⟩, some (lvI v.pdState_Zones), some (lvI v.pdState_Holder), some (lvI v.pdState_Squibs), some ⟨5, [.d (PdAct.d a)]⟩]) ((pad_demand_scx hrv2).ok nv2) (.of (by kernel_rfl)) R (.inl ⟨R, R, R⟩) R R R R .nil R R R .nil .nil R R R R (ev_endPD (by kernel_rfl) (then_norm (sw_seq (sw_rgP (r_movR R R R (r_nilRef R R R (q_fa tb R (q_fa tb R (q_ldD (y := .v (.bool v.pdState_Storm)) tb R (r_not R R R ?_))))))))))
 obtain ⟨rv3, hrv3, h⟩ := bnd h
 rcases ex_or rv3 with ⟨x3, nv3⟩ | ⟨v3, nv3⟩
 ·replace h := (exN nv3).symm.trans h
  refine ev_pan ?_
  (with_reducible apply op_call []); exact (pad_demand_scx hrv3).err nv3; exact rfl; exact .of (by kernel_rfl); exact rfl; exact .inl ⟨rfl, rfl, rfl⟩; (iterate 4 exact rfl); exact .nil; exact rfl
  intro cnt
  refine then_pan ?_
  obtain rfl := sI h
  exact fin_pX (L := [some ⟨13, [Scene_T1 v 1 2 3]⟩, some (lvI v.pdState_Zones), some (lvI v.pdState_Holder), some (lvI v.pdState_Squibs)]) (κ := [0, 1, 2, 3]) (vK (.cons R R (.row R (.row R (.row R .nil)))) R) (.inr ⟨_, R, R⟩)
 replace h := (exO nv3).symm.trans h
 refine r_callO (t' := .d (.tup [])) (ls := []) (news := []) ([]) ([some ⟨13, [Scene_T1 v 1 2 3]⟩, some (lvI v.pdState_Zones), some (lvI v.pdState_Holder), some (lvI v.pdState_Squibs), some ⟨5, [.d (PdAct.d a)]⟩]) ((pad_demand_scx hrv3).ok nv3) (.of (by kernel_rfl)) R (.inl ⟨R, R, R⟩) R R R R .nil R R R .nil .nil R R R R (ev_endP (then_norm (sw_seq (sw_rgP (r_movR R R R (q_fa tb R (q_ldD (y := vI a.what) tb R ?_)))))))
 obtain ⟨rv4, hrv4, h⟩ := bnd h
 refine r_callLN (t' := .row 5 1 0 (rv4).length) (news' := [(lvI rv4)]) (pad_scene_owed_scr hrv4) R ((.row (fun _ => rfl) .nil)) (.of (by kernel_rfl)) R R ((.cons (.ref R (.aggL (.cons (.d _) (.cons (.d _) (.cons (.d _) (.cons (.d _) (.cons (.d _) (.cons (.d _) (.cons (.d _) (.cons (.d _) (.cons (.row R R) (.cons (.row R R) (.cons (.row R R) (.cons (.d _) (.cons (.d _) .nil))))))))))))))) (.cons (.d _) .nil))) R ((.row .nil)) R R R ?_
 refine r_lenR tb R R R R R (r_eqlV R R R R ?_)
 obtain ⟨rv5, hrv5, h⟩ := bnd h
 rcases ex_or rv5 with ⟨x4, nv4⟩ | ⟨v4, nv4⟩
 ·replace h := (exN nv4).symm.trans h
  refine ev_pan ?_
  (with_reducible apply op_call []); exact (pad_demand_scx hrv5).err nv4; exact rfl; exact .of (by kernel_rfl); exact rfl; exact .inl ⟨rfl, rfl, rfl⟩; (iterate 4 exact rfl); exact .nil; exact rfl
  intro cnt
  refine then_pan ?_
  obtain rfl := sI h
  exact fin_pX (L := [some ⟨13, [Scene_T1 v 1 2 3]⟩, some (lvI v.pdState_Zones), some (lvI v.pdState_Holder), some (lvI v.pdState_Squibs)]) (κ := [0, 1, 2, 3]) (vK (.cons R R (.row R (.row R (.row R .nil)))) R) (.inr ⟨_, R, R⟩)
 replace h := (exO nv4).symm.trans h
 refine r_callO (t' := .d (.tup [])) (ls := []) (news := []) ([]) ([some ⟨13, [Scene_T1 v 1 2 3]⟩, some (lvI v.pdState_Zones), some (lvI v.pdState_Holder), some (lvI v.pdState_Squibs), some ⟨5, [.d (PdAct.d a)]⟩, some (lvI rv4)]) ((pad_demand_scx hrv5).ok nv4) (.of (by kernel_rfl)) R (.inl ⟨R, R, R⟩) R R R R .nil R R R .nil .nil R R R R (ev_endP (then_norm (sw_seq (sw_drP (by kernel_rfl) (r_movR R R R (r_nilRef R R R (q_fa tb R (q_fa tb R (q_ldD (y := vI v.pdState_Siren) tb R ?_)))))))))
 refine r_geq R R R R ?_ ?_
 ·intro c2
  replace h := ifP c2 h
  refine q_movD R (q_fa tb R (q_ldD (y := vI a.at_) tb R (r_movR R R R (r_nilRef R R R (q_fa tb R (q_fa tb R (q_ldD (y := vI v.pdState_Siren) tb R (r_sub R R R R (r_movR R R R (r_nilRef R R R (q_fa tb R (q_fa tb R (q_ldD (y := vI v.p_Wait) tb R (r_geqV R R R R (q_pickT R ?_)))))))))))))))
  obtain ⟨rv6, hrv6, h⟩ := bnd h
  rcases ex_or rv6 with ⟨x5, nv5⟩ | ⟨v5, nv5⟩
  ·replace h := (exN nv5).symm.trans h
   refine ev_panD (by kernel_rfl) (by kernel_rfl) ?_
   (with_reducible apply op_call []); exact (pad_demand_scx hrv6).err nv5; exact rfl; exact .of (by kernel_rfl); exact rfl; exact .inl ⟨rfl, rfl, rfl⟩; (iterate 4 exact rfl); exact .nil; exact rfl
   intro cnt
   refine then_pan ?_
   obtain rfl := sI h
   exact fin_pX (L := [some ⟨13, [Scene_T1 v 1 2 3]⟩, some (lvI v.pdState_Zones), some (lvI v.pdState_Holder), some (lvI v.pdState_Squibs)]) (κ := [0, 1, 2, 3]) (vK (.cons R R (.row R (.row R (.row R .nil)))) R) (.inr ⟨_, R, R⟩)
  replace h := (exO nv5).symm.trans h
  refine r_callO (t' := .d (.tup [])) (ls := []) (news := []) ([]) ([some ⟨13, [Scene_T1 v 1 2 3]⟩, some (lvI v.pdState_Zones), some (lvI v.pdState_Holder), some (lvI v.pdState_Squibs), some ⟨5, [.d (PdAct.d a)]⟩, some (lvI rv4)]) ((pad_demand_scx hrv6).ok nv5) (.of (by kernel_rfl)) R (.inl ⟨R, R, R⟩) R R R R .nil R R R .nil .nil R R R R (ev_endPD (by kernel_rfl) (then_norm (sw_dr (by kernel_rfl) (r_movR R R R (r_nilRef R R R (q_fa tb R (q_fa tb R (r_ldW tb R R R R R R R R R (q_fa tb R ?_)))))))))
  refine q_ldD (y := vI a.what) tb R (r_ixI tb R R R R R R (ix0 ie) (ix1 ie) R R ?_)
  obtain ⟨q, iq, h⟩ := bnd h
  refine r_stQ (a' := (1 : Int)) tb R R R R ie R R R R iq R R ?_
  dsimp only [List.set_cons_zero, List.set_cons_succ, PdState_T1, Scene_T1]
  first | rw [set_len iq] | skip
  refine ev_endD (by kernel_rfl) ?_
  obtain rfl := sI h
  exact fin_n (fin_S (t := .d (.tup [])) (L := [some ⟨13, [Scene_T1 {v with pdState_Squibs := q} 1 2 3]⟩, some (lvI v.pdState_Zones), some (lvI v.pdState_Holder), some (lvI q)]) (κ := [0, 1, 2, 3]) R .nil (vK (.cons R R (.row R (.row R (.row R .nil)))) R) (.inl ⟨_, R, R, R⟩))
 intro c2
 replace h := ifN (Int.not_le.2 c2) h
 refine q_movD R (q_sk 14 R (q_pickF R ?_))
 obtain ⟨rv7, hrv7, h⟩ := bnd h
 rcases ex_or rv7 with ⟨x6, nv6⟩ | ⟨v6, nv6⟩
 ·replace h := (exN nv6).symm.trans h
  refine ev_panD (by kernel_rfl) (by kernel_rfl) ?_
  (with_reducible apply op_call []); exact (pad_demand_scx hrv7).err nv6; exact rfl; exact .of (by kernel_rfl); exact rfl; exact .inl ⟨rfl, rfl, rfl⟩; (iterate 4 exact rfl); exact .nil; exact rfl
  intro cnt
  refine then_pan ?_
  obtain rfl := sI h
  exact fin_pX (L := [some ⟨13, [Scene_T1 v 1 2 3]⟩, some (lvI v.pdState_Zones), some (lvI v.pdState_Holder), some (lvI v.pdState_Squibs)]) (κ := [0, 1, 2, 3]) (vK (.cons R R (.row R (.row R (.row R .nil)))) R) (.inr ⟨_, R, R⟩)
 replace h := (exO nv6).symm.trans h
 cases h
def pad_scene_disarm_m (F : Nat) (c : Scene) (a : PdAct) : Option (Except Int Scene) := Option.bind (pad_scene_atPanel_m F c a.who) fun rv => exE rv (fun x => some (.error x)) (fun v => Option.bind (ixO v.pdState_Squibs a.what) fun e => Option.bind (pad_demand F (decide (e = 1)) 177) fun rv2 => exE rv2 (fun x2 => some (.error x2)) (fun v2 => Option.bind (setO v.pdState_Squibs a.what 0) fun q => some (.ok {v with pdState_Squibs := q})))
theorem pad_scene_disarm_m_scx {F : Nat} {c : Scene} {a : PdAct} {r : (Except Int Scene)} (h : pad_scene_disarm_m F c a = some r) : SCX Tryz.prog 91 [.ref 0 13 0 0, .d (PdAct.d a)] [some ⟨13, [Scene_T1 c 1 2 3]⟩, some (lvI c.pdState_Zones), some (lvI c.pdState_Holder), some (lvI c.pdState_Squibs)] r 34 (fun (a : Scene) => .d (.tup [])) (fun (a : Scene) => [some ⟨13, [Scene_T1 a 1 2 3]⟩, some (lvI a.pdState_Zones), some (lvI a.pdState_Holder), some (lvI a.pdState_Squibs)]) := by
 rw [pad_scene_disarm_m] at h
 refine SC.of_sw Tryz.func91 R R R ?_
 dsimp only [argS, List.map]
 refine qG (q_box R (eN (sw_seq (sw_rgP (r_movR R R R (q_fa tb R (q_ldD (y := vI a.who) tb R ?_)))))))
 obtain ⟨rv, hrv, h⟩ := bnd h
 rcases ex_or rv with ⟨x, nv⟩ | ⟨v, nv⟩
 ·replace h := (exN nv).symm.trans h
  refine ev_pan ?_
  (with_reducible apply op_call [0, 1, 2, 3]); exact (pad_scene_atPanel_m_scx hrv).err nv; exact rfl; exact .of (by kernel_rfl); exact rfl; exact .inl ⟨rfl, rfl, rfl⟩; (iterate 4 exact rfl); exact (.cons rfl rfl (.row rfl (.row rfl (.row rfl .nil)))); exact rfl
  intro cnt
  refine then_pan ?_
  obtain rfl := sI h
  exact fin_pX (L := [none, none, none, none]) (κ := [0, 1, 2, 3]) (vK (.gone R (.gone R (.gone R (.gone R .nil)))) R) (.inr ⟨_, R, R⟩)
 replace h := (exO nv).symm.trans h
 refine r_callO (t' := .d (.tup [])) (ls := [some ⟨13, [Scene_T1 v 1 2 3]⟩, some (lvI v.pdState_Zones), some (lvI v.pdState_Holder), some (lvI v.pdState_Squibs)]) (news := []) ([0, 1, 2, 3]) ([some ⟨13, [Scene_T1 v 1 2 3]⟩, some (lvI v.pdState_Zones), some (lvI v.pdState_Holder), some (lvI v.pdState_Squibs), some ⟨5, [.d (PdAct.d a)]⟩]) ((pad_scene_atPanel_m_scx hrv).ok nv) (.of (by kernel_rfl)) R (.inl ⟨R, R, R⟩) R R R R ((.cons R R (.row R (.row R (.row R .nil))))) R R R ((.cons R (.row (.row (.row .nil))))) .nil R R R R (ev_endP ?_)
 refine then_norm (sw_seq (sw_drP (by kernel_rfl) (r_movR R R R (r_nilRef R R R (q_fa tb R (q_fa tb R (r_ldW tb R R R R R R R R R (q_fa tb R (q_ldD (y := vI a.what) tb R ?_)))))))))
 obtain ⟨e, ie, h⟩ := bnd h
 refine r_ixI tb R R R R R R (ix0 ie) (ix1 ie) R R ?_
 refine r_ldD (y := vI e) tb R R R R (ix2 (g := fun a => T.d (vI a)) ie) R R R R ?_
 refine r_eqlV R R R R ?_
 obtain ⟨rv2, hrv2, h⟩ := bnd h
 rcases ex_or rv2 with ⟨x2, nv2⟩ | ⟨v2, nv2⟩
 ·replace h := (exN nv2).symm.trans h
  refine ev_panD (by kernel_rfl) (by kernel_rfl) ?_
  (with_reducible apply op_call []); exact (pad_demand_scx hrv2).err nv2; exact rfl; exact .of (by kernel_rfl); exact rfl; exact .inl ⟨rfl, rfl, rfl⟩; (iterate 4 exact rfl); exact .nil; exact rfl
  intro cnt
  refine then_pan ?_
  obtain rfl := sI h
  exact fin_pX (L := [some ⟨13, [Scene_T1 v 1 2 3]⟩, some (lvI v.pdState_Zones), some (lvI v.pdState_Holder), some (lvI v.pdState_Squibs)]) (κ := [0, 1, 2, 3]) (vK (.cons R R (.row R (.row R (.row R .nil)))) R) (.inr ⟨_, R, R⟩)
 replace h := (exO nv2).symm.trans h
 refine r_callO (t' := .d (.tup [])) (ls := []) (news := []) ([]) ([some ⟨13, [Scene_T1 v 1 2 3]⟩, some (lvI v.pdState_Zones), some (lvI v.pdState_Holder), some (lvI v.pdState_Squibs), some ⟨5, [.d (PdAct.d a)]⟩]) ((pad_demand_scx hrv2).ok nv2) (.of (by kernel_rfl)) R (.inl ⟨R, R, R⟩) R R R R .nil R R R .nil .nil R R R R (ev_endPD (by kernel_rfl) (then_norm (sw_dr (by kernel_rfl) (r_movR R R R (r_nilRef R R R (q_fa tb R (q_fa tb R (r_ldW tb R R R R R R R R R (q_fa tb R ?_)))))))))
 refine q_ldD (y := vI a.what) tb R (r_ixI tb R R R R R R (ix0 ie) (ix1 ie) R R ?_)
 obtain ⟨q, iq, h⟩ := bnd h
 refine r_stQ (a' := (0 : Int)) tb R R R R ie R R R R iq R R ?_
 dsimp only [List.set_cons_zero, List.set_cons_succ, PdState_T1, Scene_T1]
 first | rw [set_len iq] | skip
 refine ev_endD (by kernel_rfl) ?_
 obtain rfl := sI h
 exact fin_n (fin_S (t := .d (.tup [])) (L := [some ⟨13, [Scene_T1 {v with pdState_Squibs := q} 1 2 3]⟩, some (lvI v.pdState_Zones), some (lvI v.pdState_Holder), some (lvI q)]) (κ := [0, 1, 2, 3]) R .nil (vK (.cons R R (.row R (.row R (.row R .nil)))) R) (.inl ⟨_, R, R, R⟩))
def pad_scene_fire_m (F : Nat) (c : Scene) (a : PdAct) : Option (Except Int Scene) := Option.bind (pad_scene_badge_m F c a) fun rv => exE rv (fun x => some (.error x)) (fun v => Option.bind (ixO v.pdState_Squibs a.what) fun e => Option.bind (pad_demand F (decide (e = 1)) 177) fun rv2 => exE rv2 (fun x2 => some (.error x2)) (fun v2 => Option.bind (setO v.pdState_Squibs a.what 2) fun q => some (.ok {v with pdState_Squibs := q})))
theorem pad_scene_fire_m_scx {F : Nat} {c : Scene} {a : PdAct} {r : (Except Int Scene)} (h : pad_scene_fire_m F c a = some r) : SCX Tryz.prog 92 [.ref 0 13 0 0, .d (PdAct.d a)] [some ⟨13, [Scene_T1 c 1 2 3]⟩, some (lvI c.pdState_Zones), some (lvI c.pdState_Holder), some (lvI c.pdState_Squibs)] r 34 (fun (a : Scene) => .d (.tup [])) (fun (a : Scene) => [some ⟨13, [Scene_T1 a 1 2 3]⟩, some (lvI a.pdState_Zones), some (lvI a.pdState_Holder), some (lvI a.pdState_Squibs)]) := by
 rw [pad_scene_fire_m] at h
 refine SC.of_sw Tryz.func92 R R R ?_
 dsimp only [argS, List.map]
 refine qG (q_box R (eN (sw_seq (sw_rgP (r_movR R R R (q_ldD (y := PdAct.d a) tb R ?_))))))
 obtain ⟨rv, hrv, h⟩ := bnd h
 rcases ex_or rv with ⟨x, nv⟩ | ⟨v, nv⟩
 ·replace h := (exN nv).symm.trans h
  refine ev_pan ?_
  (with_reducible apply op_call [0, 1, 2, 3]); exact (pad_scene_badge_m_scx hrv).err nv; exact rfl; exact .of (by kernel_rfl); exact rfl; exact .inl ⟨rfl, rfl, rfl⟩; (iterate 4 exact rfl); exact (.cons rfl rfl (.row rfl (.row rfl (.row rfl .nil)))); exact rfl
  intro cnt
  refine then_pan ?_
  obtain rfl := sI h
  exact fin_pX (L := [none, none, none, none]) (κ := [0, 1, 2, 3]) (vK (.gone R (.gone R (.gone R (.gone R .nil)))) R) (.inr ⟨_, R, R⟩)
 replace h := (exO nv).symm.trans h
 refine r_callO (t' := .d (.tup [])) (ls := [some ⟨13, [Scene_T1 v 1 2 3]⟩, some (lvI v.pdState_Zones), some (lvI v.pdState_Holder), some (lvI v.pdState_Squibs)]) (news := []) ([0, 1, 2, 3]) ([some ⟨13, [Scene_T1 v 1 2 3]⟩, some (lvI v.pdState_Zones), some (lvI v.pdState_Holder), some (lvI v.pdState_Squibs), some ⟨5, [.d (PdAct.d a)]⟩]) ((pad_scene_badge_m_scx hrv).ok nv) (.of (by kernel_rfl)) R (.inl ⟨R, R, R⟩) R R R R ((.cons R R (.row R (.row R (.row R .nil))))) R R R ((.cons R (.row (.row (.row .nil))))) .nil R R R R (ev_endP ?_)
 refine then_norm (sw_seq (sw_drP (by kernel_rfl) (r_movR R R R (r_nilRef R R R (q_fa tb R (q_fa tb R (r_ldW tb R R R R R R R R R (q_fa tb R (q_ldD (y := vI a.what) tb R ?_)))))))))
 obtain ⟨e, ie, h⟩ := bnd h
 refine r_ixI tb R R R R R R (ix0 ie) (ix1 ie) R R ?_
 refine r_ldD (y := vI e) tb R R R R (ix2 (g := fun a => T.d (vI a)) ie) R R R R ?_
 refine r_eqlV R R R R ?_
 obtain ⟨rv2, hrv2, h⟩ := bnd h
 rcases ex_or rv2 with ⟨x2, nv2⟩ | ⟨v2, nv2⟩
 ·replace h := (exN nv2).symm.trans h
  refine ev_panD (by kernel_rfl) (by kernel_rfl) ?_
  (with_reducible apply op_call []); exact (pad_demand_scx hrv2).err nv2; exact rfl; exact .of (by kernel_rfl); exact rfl; exact .inl ⟨rfl, rfl, rfl⟩; (iterate 4 exact rfl); exact .nil; exact rfl
  intro cnt
  refine then_pan ?_
  obtain rfl := sI h
  exact fin_pX (L := [some ⟨13, [Scene_T1 v 1 2 3]⟩, some (lvI v.pdState_Zones), some (lvI v.pdState_Holder), some (lvI v.pdState_Squibs)]) (κ := [0, 1, 2, 3]) (vK (.cons R R (.row R (.row R (.row R .nil)))) R) (.inr ⟨_, R, R⟩)
 replace h := (exO nv2).symm.trans h
 refine r_callO (t' := .d (.tup [])) (ls := []) (news := []) ([]) ([some ⟨13, [Scene_T1 v 1 2 3]⟩, some (lvI v.pdState_Zones), some (lvI v.pdState_Holder), some (lvI v.pdState_Squibs), some ⟨5, [.d (PdAct.d a)]⟩]) ((pad_demand_scx hrv2).ok nv2) (.of (by kernel_rfl)) R (.inl ⟨R, R, R⟩) R R R R .nil R R R .nil .nil R R R R (ev_endPD (by kernel_rfl) (then_norm (sw_dr (by kernel_rfl) (r_movR R R R (r_nilRef R R R (q_fa tb R (q_fa tb R (r_ldW tb R R R R R R R R R (q_fa tb R ?_)))))))))
 refine q_ldD (y := vI a.what) tb R (r_ixI tb R R R R R R (ix0 ie) (ix1 ie) R R ?_)
 obtain ⟨q, iq, h⟩ := bnd h
 refine r_stQ (a' := (2 : Int)) tb R R R R ie R R R R iq R R ?_
 dsimp only [List.set_cons_zero, List.set_cons_succ, PdState_T1, Scene_T1]
 first | rw [set_len iq] | skip
 refine ev_endD (by kernel_rfl) ?_
 obtain rfl := sI h
 exact fin_n (fin_S (t := .d (.tup [])) (L := [some ⟨13, [Scene_T1 {v with pdState_Squibs := q} 1 2 3]⟩, some (lvI v.pdState_Zones), some (lvI v.pdState_Holder), some (lvI q)]) (κ := [0, 1, 2, 3]) R .nil (vK (.cons R R (.row R (.row R (.row R .nil)))) R) (.inl ⟨_, R, R, R⟩))
def pad_scene_siren_1 (F : Nat) (a : PdSquib) : Option Bool := some true
theorem pad_scene_siren_1_pc {F : Nat} {a : PdSquib} {r : Bool} (h : pad_scene_siren_1 F a = some r) : PC Tryz.prog 117 [PdSquib.d a] (.v (.bool r)) := by
 rw [pad_scene_siren_1] at h
 refine SC.of_sw Tryz.func117 R R R ?_
 dsimp only [argS, List.map]
 refine qG (q_box R (q_asgD R (eN (qG (q_asgD R (eN (sw_ret ?_)))))))
 obtain rfl := sI h
 exact f1 2 R
def pad_scene_siren_m (F : Nat) (c : Scene) (a : PdAct) : Option (Except Int Scene) := if a.what = 1 then (Option.bind (pad_scene_atPanel_m F c a.who) fun rv => exE rv (fun x => some (.error x)) (fun v => Option.bind (pad_demand F ((decide (0 ≤ v.pdState_Siren)) != true) 177) fun rv2 => exE rv2 (fun x2 => some (.error x2)) (fun v2 => Option.bind (pad_demand F true 179) fun rv3 => exE rv3 (fun x3 => some (.error x3)) (fun v3 => some (.ok {v with pdState_Siren := a.at_}))))) else (Option.bind (pad_scene_atPanel_m F c a.who) fun rv4 => exE rv4 (fun x4 => some (.error x4)) (fun v4 => Option.bind (pad_demand F ((decide (0 ≤ v4.pdState_Siren)) != false) 177) fun rv5 => exE rv5 (fun x5 => some (.error x5)) (fun v5 => Option.bind (pad_scene_armed F v4 (fun a0 => pad_scene_siren_1 F a0)) fun rv6 => Option.bind (pad_demand F (!rv6) 179) fun rv7 => exE rv7 (fun x6 => some (.error x6)) (fun v6 => some (.ok {v4 with pdState_Siren := (-1)})))))
theorem pad_scene_siren_m_scx {F : Nat} {c : Scene} {a : PdAct} {r : (Except Int Scene)} (h : pad_scene_siren_m F c a = some r) : SCX Tryz.prog 93 [.ref 0 13 0 0, .d (PdAct.d a)] [some ⟨13, [Scene_T1 c 1 2 3]⟩, some (lvI c.pdState_Zones), some (lvI c.pdState_Holder), some (lvI c.pdState_Squibs)] r 34 (fun (a : Scene) => .d (.tup [])) (fun (a : Scene) => [some ⟨13, [Scene_T1 a 1 2 3]⟩, some (lvI a.pdState_Zones), some (lvI a.pdState_Holder), some (lvI a.pdState_Squibs)]) := by
 rw [pad_scene_siren_m] at h
 refine SC.of_sw Tryz.func93 R R R ?_
 dsimp only [argS, List.map]
 refine qG (q_box R (eN (qG (q_fa tb R (q_ldD (y := vI a.what) tb R ?_)))))
 refine r_eql R R R R ?_ ?_
 ·intro c2
  replace h := ifP c2 h
  refine q_asgD R (eN (sw_seq (sw_rgP (r_movR R R R (q_fa tb R (q_ldD (y := vI a.who) tb R ?_))))))
  obtain ⟨rv, hrv, h⟩ := bnd h
  rcases ex_or rv with ⟨x, nv⟩ | ⟨v, nv⟩
  ·replace h := (exN nv).symm.trans h
   refine ev_pan ?_
   (with_reducible apply op_call [0, 1, 2, 3]); exact (pad_scene_atPanel_m_scx hrv).err nv; exact rfl; exact .of (by kernel_rfl); exact rfl; exact .inl ⟨rfl, rfl, rfl⟩; (iterate 4 exact rfl); exact (.cons rfl rfl (.row rfl (.row rfl (.row rfl .nil)))); exact rfl
   intro cnt
   refine then_pan ?_
   obtain rfl := sI h
   exact fin_pX (L := [none, none, none, none]) (κ := [0, 1, 2, 3]) (vK (.gone R (.gone R (.gone R (.gone R .nil)))) R) (.inr ⟨_, R, R⟩)
  replace h := (exO nv).symm.trans h
  refine r_callO (t' := .d (.tup [])) (ls := [some ⟨13, [Scene_T1 v 1 2 3]⟩, some (lvI v.pdState_Zones), some (lvI v.pdState_Holder), some (lvI v.pdState_Squibs)]) (news := []) ([0, 1, 2, 3]) ([some ⟨13, [Scene_T1 v 1 2 3]⟩, some (lvI v.pdState_Zones), some (lvI v.pdState_Holder), some (lvI v.pdState_Squibs), some ⟨5, [.d (PdAct.d a)]⟩]) ((pad_scene_atPanel_m_scx hrv).ok nv) (.of (by kernel_rfl)) R (.inl ⟨R, R, R⟩) R R R R ((.cons R R (.row R (.row R (.row R .nil))))) R R R ((.cons R (.row (.row (.row .nil))))) .nil R R R R (ev_endP ?_)
  refine then_norm (sw_seq (sw_rgP (r_movR R R R (r_nilRef R R R (q_fa tb R (q_fa tb R (q_ldD (y := vI v.pdState_Siren) tb R (r_geqV R R R R (q_movD R (r_boolneq R R R R R ?_))))))))))
  obtain ⟨rv2, hrv2, h⟩ := bnd h
  rcases ex_or rv2 with ⟨x2, nv2⟩ | ⟨v2, nv2⟩
  ·replace h := (exN nv2).symm.trans h
   refine ev_pan ?_
   (with_reducible apply op_call []); exact (pad_demand_scx hrv2).err nv2; exact rfl; exact .of (by kernel_rfl); exact rfl; exact .inl ⟨rfl, rfl, rfl⟩; (iterate 4 exact rfl); exact .nil; exact rfl
   intro cnt
   refine then_pan ?_
   obtain rfl := sI h
   exact fin_pX (L := [some ⟨13, [Scene_T1 v 1 2 3]⟩, some (lvI v.pdState_Zones), some (lvI v.pdState_Holder), some (lvI v.pdState_Squibs)]) (κ := [0, 1, 2, 3]) (vK (.cons R R (.row R (.row R (.row R .nil)))) R) (.inr ⟨_, R, R⟩)
  replace h := (exO nv2).symm.trans h
  refine r_callO (t' := .d (.tup [])) (ls := []) (news := []) ([]) ([some ⟨13, [Scene_T1 v 1 2 3]⟩, some (lvI v.pdState_Zones), some (lvI v.pdState_Holder), some (lvI v.pdState_Squibs), some ⟨5, [.d (PdAct.d a)]⟩]) ((pad_demand_scx hrv2).ok nv2) (.of (by kernel_rfl)) R (.inl ⟨R, R, R⟩) R R R R .nil R R R .nil .nil R R R R (ev_endP (then_norm (sw_seq (sw_rgP (q_movD R (q_movD R (q_sk 3 R (q_pickT R ?_))))))))
  obtain ⟨rv3, hrv3, h⟩ := bnd h
  rcases ex_or rv3 with ⟨x3, nv3⟩ | ⟨v3, nv3⟩
  ·replace h := (exN nv3).symm.trans h
   refine ev_pan ?_
   (with_reducible apply op_call []); exact (pad_demand_scx hrv3).err nv3; exact rfl; exact .of (by kernel_rfl); exact rfl; exact .inl ⟨rfl, rfl, rfl⟩; (iterate 4 exact rfl); exact .nil; exact rfl
   intro cnt
   refine then_pan ?_
   obtain rfl := sI h
   exact fin_pX (L := [some ⟨13, [Scene_T1 v 1 2 3]⟩, some (lvI v.pdState_Zones), some (lvI v.pdState_Holder), some (lvI v.pdState_Squibs)]) (κ := [0, 1, 2, 3]) (vK (.cons R R (.row R (.row R (.row R .nil)))) R) (.inr ⟨_, R, R⟩)
  replace h := (exO nv3).symm.trans h
  refine r_callO (t' := .d (.tup [])) (ls := []) (news := []) ([]) ([some ⟨13, [Scene_T1 v 1 2 3]⟩, some (lvI v.pdState_Zones), some (lvI v.pdState_Holder), some (lvI v.pdState_Squibs), some ⟨5, [.d (PdAct.d a)]⟩]) ((pad_demand_scx hrv3).ok nv3) (.of (by kernel_rfl)) R (.inl ⟨R, R, R⟩) R R R R .nil R R R .nil .nil R R R R (ev_endP (then_norm (qG (r_movR R R R (r_nilRef R R R (q_fa tb R (q_fa tb R (q_stE _ _ tb R (eN (qG (q_movD R (eN (sw_condT R (sw_rg (r_movR R R R (q_fa tb R ?_))))))))))))))))
  refine q_ldD (y := vI a.at_) tb R (r_nilRef R R R (q_fa tb R (q_fa tb R (q_stE _ _ tb R (ev_end ?_)))))
  obtain rfl := sI h
  exact fin_n (fin_S (t := .d (.tup [])) (L := [some ⟨13, [Scene_T1 {v with pdState_Siren := a.at_} 1 2 3]⟩, some (lvI v.pdState_Zones), some (lvI v.pdState_Holder), some (lvI v.pdState_Squibs)]) (κ := [0, 1, 2, 3]) R .nil (vK (.cons R R (.row R (.row R (.row R .nil)))) R) (.inl ⟨_, R, R, R⟩))
 intro c2
 replace h := ifN c2 h
 refine q_asgD R (eN (sw_seq (sw_rgP (r_movR R R R (q_fa tb R (q_ldD (y := vI a.who) tb R ?_))))))
 obtain ⟨rv4, hrv4, h⟩ := bnd h
 rcases ex_or rv4 with ⟨x4, nv4⟩ | ⟨v4, nv4⟩
 ·replace h := (exN nv4).symm.trans h
  refine ev_pan ?_
  (with_reducible apply op_call [0, 1, 2, 3]); exact (pad_scene_atPanel_m_scx hrv4).err nv4; exact rfl; exact .of (by kernel_rfl); exact rfl; exact .inl ⟨rfl, rfl, rfl⟩; (iterate 4 exact rfl); exact (.cons rfl rfl (.row rfl (.row rfl (.row rfl .nil)))); exact rfl
  intro cnt
  refine then_pan ?_
  obtain rfl := sI h
  exact fin_pX (L := [none, none, none, none]) (κ := [0, 1, 2, 3]) (vK (.gone R (.gone R (.gone R (.gone R .nil)))) R) (.inr ⟨_, R, R⟩)
 replace h := (exO nv4).symm.trans h
 refine r_callO (t' := .d (.tup [])) (ls := [some ⟨13, [Scene_T1 v4 1 2 3]⟩, some (lvI v4.pdState_Zones), some (lvI v4.pdState_Holder), some (lvI v4.pdState_Squibs)]) (news := []) ([0, 1, 2, 3]) ([some ⟨13, [Scene_T1 v4 1 2 3]⟩, some (lvI v4.pdState_Zones), some (lvI v4.pdState_Holder), some (lvI v4.pdState_Squibs), some ⟨5, [.d (PdAct.d a)]⟩]) ((pad_scene_atPanel_m_scx hrv4).ok nv4) (.of (by kernel_rfl)) R (.inl ⟨R, R, R⟩) R R R R ((.cons R R (.row R (.row R (.row R .nil))))) R R R ((.cons R (.row (.row (.row .nil))))) .nil R R R R ?_
 refine ev_endP (then_norm (sw_seq (sw_rgP (r_movR R R R (r_nilRef R R R (q_fa tb R (q_fa tb R (q_ldD (y := vI v4.pdState_Siren) tb R (r_geqV R R R R (q_movD R (r_boolneq R R R R R ?_)))))))))))
 obtain ⟨rv5, hrv5, h⟩ := bnd h
 rcases ex_or rv5 with ⟨x5, nv5⟩ | ⟨v5, nv5⟩
 ·replace h := (exN nv5).symm.trans h
  refine ev_pan ?_
  (with_reducible apply op_call []); exact (pad_demand_scx hrv5).err nv5; exact rfl; exact .of (by kernel_rfl); exact rfl; exact .inl ⟨rfl, rfl, rfl⟩; (iterate 4 exact rfl); exact .nil; exact rfl
  intro cnt
  refine then_pan ?_
  obtain rfl := sI h
  exact fin_pX (L := [some ⟨13, [Scene_T1 v4 1 2 3]⟩, some (lvI v4.pdState_Zones), some (lvI v4.pdState_Holder), some (lvI v4.pdState_Squibs)]) (κ := [0, 1, 2, 3]) (vK (.cons R R (.row R (.row R (.row R .nil)))) R) (.inr ⟨_, R, R⟩)
 replace h := (exO nv5).symm.trans h
 refine r_callO (t' := .d (.tup [])) (ls := []) (news := []) ([]) ([some ⟨13, [Scene_T1 v4 1 2 3]⟩, some (lvI v4.pdState_Zones), some (lvI v4.pdState_Holder), some (lvI v4.pdState_Squibs), some ⟨5, [.d (PdAct.d a)]⟩]) ((pad_demand_scx hrv5).ok nv5) (.of (by kernel_rfl)) R (.inl ⟨R, R, R⟩) R R R R .nil R R R .nil .nil R R R R (ev_endP (then_norm (sw_seq (sw_rgP (q_movD R (q_movD R (r_movR R R R ?_)))))))
 obtain ⟨rv6, hrv6, h⟩ := bnd h
 refine r_callX (t' := .d (.v (.bool rv6))) (news' := []) (pad_scene_armed_scr (so := (fun a0 => pad_scene_siren_1 F a0)) (soc := []) (soh := fun hr => pad_scene_siren_1_pc hr) (soe := .of (by kernel_rfl)) hrv6) R .nil (.of (by kernel_rfl)) R R ((.cons (.d (.ref R (.aggL (.cons (.d _) (.cons (.d _) (.cons (.d _) (.cons (.d _) (.cons (.d _) (.cons (.d _) (.cons (.d _) (.cons (.d _) (.cons (.row R R) (.cons (.row R R) (.cons (.row R R) (.cons (.d _) (.cons (.d _) .nil)))))))))))))))) (.cons .fnc .nil))) R .nil R R R ?_
 simp only [List.map_nil, List.append_nil]
 refine r_not R R R (q_pickF R ?_)
 obtain ⟨rv7, hrv7, h⟩ := bnd h
 rcases ex_or rv7 with ⟨x6, nv6⟩ | ⟨v6, nv6⟩
 ·replace h := (exN nv6).symm.trans h
  refine ev_pan ?_
  (with_reducible apply op_call []); exact (pad_demand_scx hrv7).err nv6; exact rfl; exact .of (by kernel_rfl); exact rfl; exact .inl ⟨rfl, rfl, rfl⟩; (iterate 4 exact rfl); exact .nil; exact rfl
  intro cnt
  refine then_pan ?_
  obtain rfl := sI h
  exact fin_pX (L := [some ⟨13, [Scene_T1 v4 1 2 3]⟩, some (lvI v4.pdState_Zones), some (lvI v4.pdState_Holder), some (lvI v4.pdState_Squibs)]) (κ := [0, 1, 2, 3]) (vK (.cons R R (.row R (.row R (.row R .nil)))) R) (.inr ⟨_, R, R⟩)
 replace h := (exO nv6).symm.trans h
 refine r_callO (t' := .d (.tup [])) (ls := []) (news := []) ([]) ([some ⟨13, [Scene_T1 v4 1 2 3]⟩, some (lvI v4.pdState_Zones), some (lvI v4.pdState_Holder), some (lvI v4.pdState_Squibs), some ⟨5, [.d (PdAct.d a)]⟩]) ((pad_demand_scx hrv7).ok nv6) (.of (by kernel_rfl)) R (.inl ⟨R, R, R⟩) R R R R .nil R R R .nil .nil R R R R (ev_endP (then_norm (qG (r_movR R R R (r_nilRef R R R (q_fa tb R (q_fa tb R (q_stE _ _ tb R (eN (qG (q_movD R (eN (sw_condF R (sw_skip ?_))))))))))))))
 obtain rfl := sI h
 exact fin_n (fin_S (t := .d (.tup [])) (L := [some ⟨13, [Scene_T1 {v4 with pdState_Siren := (-1)} 1 2 3]⟩, some (lvI v4.pdState_Zones), some (lvI v4.pdState_Holder), some (lvI v4.pdState_Squibs)]) (κ := [0, 1, 2, 3]) R .nil (vK (.cons R R (.row R (.row R (.row R .nil)))) R) (.inl ⟨_, R, R, R⟩))
def pad_scene_thunder_m_L1 (F : Nat)  (K : (List Int) → Int → Int → Option (Except Int Scene)) : Nat → (List Int) → Int → Int → Option (Except Int Scene)
 | 0, _, _, _ => none
 | n + 1, c3, x2, x3 => if x3 < x2 then (Option.bind (ixO c3 x3) fun e => if e = 1 then (Option.bind (setO c3 x3 0) fun c6 => pad_scene_thunder_m_L1 F K n c6 x2 (W (x3 + 1))) else (pad_scene_thunder_m_L1 F K n c3 x2 (W (x3 + 1)))) else (K c3 x2 x3)
def pad_scene_thunder_m_L2 (F : Nat)  (K : (List Int) → Int → Int → Option (Except Int Scene)) : Nat → (List Int) → Int → Int → Option (Except Int Scene)
 | 0, _, _, _ => none
 | n + 1, c7, x5, x6 => if x6 < x5 then (Option.bind (ixO c7 x6) fun e2 => pad_scene_thunder_m_L2 F K n c7 x5 (W (x6 + 1))) else (K c7 x5 x6)
def pad_scene_thunder_m (F : Nat) (c : Scene) (a : PdAct) : Option (Except Int Scene) := if a.what = 1 then (Option.bind (pad_demand F (c.pdState_Storm != true) 177) fun rv => exE rv (fun x => some (.error x)) (fun v => pad_scene_thunder_m_L1 F (fun (c3 : (List Int)) (x2 : Int) (x3 : Int) => some (.ok {c with pdState_Squibs := c3, pdState_Storm := true})) F c.pdState_Squibs (c.pdState_Squibs.length : Int) 0)) else (Option.bind (pad_demand F (c.pdState_Storm != false) 177) fun rv2 => exE rv2 (fun x4 => some (.error x4)) (fun v2 => pad_scene_thunder_m_L2 F (fun (c7 : (List Int)) (x5 : Int) (x6 : Int) => some (.ok {c with pdState_Squibs := c7, pdState_Storm := false})) F c.pdState_Squibs (c.pdState_Squibs.length : Int) 0))
theorem pad_scene_thunder_m_scx {F : Nat} {c : Scene} {a : PdAct} {r : (Except Int Scene)} (h : pad_scene_thunder_m F c a = some r) : SCX Tryz.prog 94 [.ref 0 13 0 0, .d (PdAct.d a)] [some ⟨13, [Scene_T1 c 1 2 3]⟩, some (lvI c.pdState_Zones), some (lvI c.pdState_Holder), some (lvI c.pdState_Squibs)] r 34 (fun (a : Scene) => .d (.tup [])) (fun (a : Scene) => [some ⟨13, [Scene_T1 a 1 2 3]⟩, some (lvI a.pdState_Zones), some (lvI a.pdState_Holder), some (lvI a.pdState_Squibs)]) := by
 rw [pad_scene_thunder_m] at h
 refine SC.of_sw Tryz.func94 R R R ?_
 dsimp only [argS, List.map]
 refine qG (q_box R (eN (qG (q_fa tb R (q_ldD (y := vI a.what) tb R ?_)))))
 refine r_eql R R R R ?_ ?_
 ·intro c2
  replace h := ifP c2 h
  refine q_asgD R (eN (sw_seq (sw_rgP (r_movR R R R (r_nilRef R R R (q_fa tb R (q_fa tb R (q_ldD (y := .v (.bool c.pdState_Storm)) tb R (q_movD R (r_boolneq R R R R R ?_))))))))))
  obtain ⟨rv, hrv, h⟩ := bnd h
  rcases ex_or rv with ⟨x, nv⟩ | ⟨v, nv⟩
  ·replace h := (exN nv).symm.trans h
   refine ev_pan ?_
   (with_reducible apply op_call []); exact (pad_demand_scx hrv).err nv; exact rfl; exact .of (by kernel_rfl); exact rfl; exact .inl ⟨rfl, rfl, rfl⟩; (iterate 4 exact rfl); exact .nil; exact rfl
   intro cnt
   refine then_pan ?_
   obtain rfl := sI h
   exact fin_pX (L := [some ⟨13, [Scene_T1 c 1 2 3]⟩, some (lvI c.pdState_Zones), some (lvI c.pdState_Holder), some (lvI c.pdState_Squibs)]) (κ := [0, 1, 2, 3]) (vK (.cons R R (.row R (.row R (.row R .nil)))) R) (.inr ⟨_, R, R⟩)
  replace h := (exO nv).symm.trans h
  refine r_callO (t' := .d (.tup [])) (ls := []) (news := []) ([]) ([some ⟨13, [Scene_T1 c 1 2 3]⟩, some (lvI c.pdState_Zones), some (lvI c.pdState_Holder), some (lvI c.pdState_Squibs), some ⟨5, [.d (PdAct.d a)]⟩]) ((pad_demand_scx hrv).ok nv) (.of (by kernel_rfl)) R (.inl ⟨R, R, R⟩) R R R R .nil R R R .nil .nil R R R R (ev_endP (then_norm (qG (r_movR R R R (q_movD R (r_nilRef R R R (q_fa tb R (q_fa tb R (q_stE _ _ tb R (eN (qG (r_movR R R R (r_nilRef R R R (q_fa tb R (q_fa tb R ?_)))))))))))))))
  refine r_ldW tb R R R R R R R R R (r_lenR tb R R R R R (q_movD R (eN (sw_block ?_))))
  obtain ⟨K2, hK2, h⟩ : ∃ K, K = _ ∧ pad_scene_thunder_m_L1 F K F c.pdState_Squibs (c.pdState_Squibs.length : Int) 0 = some r := ⟨_, rfl, h⟩
  refine sw_loopS (st0 := ⟨[(0, .ref 0 13 0 0), (4, .d (.v (.bool true))), (27, .row 3 1 0 (c.pdState_Squibs).length), (28, .d (vI (c.pdState_Squibs.length : Int))), (29, .d (vI 0))], [some ⟨13, [Scene_T1 {c with pdState_Storm := true} 1 2 3]⟩, some (lvI c.pdState_Zones), some (lvI c.pdState_Holder), some (lvI c.pdState_Squibs)]⟩) (fun m st => ∃ (c3 : (List Int)) (x2 : Int) (x3 : Int), pad_scene_thunder_m_L1 F K2 m c3 x2 x3 = some r ∧ st = ⟨[(0, .ref 0 13 0 0), (4, .d (.v (.bool true))), (27, .row 3 1 0 (c3).length), (28, .d (vI x2)), (29, .d (vI x3))], [some ⟨13, [Scene_T1 {c with pdState_Squibs := c3, pdState_Storm := true} 1 2 3]⟩, some (lvI c.pdState_Zones), some (lvI c.pdState_Holder), some (lvI c3)]⟩) (.vw (κ := [0, 1, 2, 3]) (vK (.cons R R (.row R (.row R (.row R .nil)))) R)) ⟨c.pdState_Squibs, (c.pdState_Squibs.length : Int), 0, h, R⟩ ?_
  clear h
  rintro m2 st ⟨c3, x2, x3, h, rfl⟩
  cases m2 with
  | zero => cases (show (none : Option (Except Int Scene)) = some r from h)
  | succ m2 =>
  rw [pad_scene_thunder_m_L1] at h
  refine qG ?_
  refine r_lss R R R R ?_ ?_
  ·intro c4
   replace h := ifP c4 h
   refine eN (sw_seq (sw_condT R (sw_skip (then_norm (sw_seq (sw_block (qG (q_movD R ?_))))))))
   obtain ⟨e, ie, h⟩ := bnd h
   refine r_ixI tb R R R R R R (ix0 ie) (ix1 ie) R R ?_
   refine r_ldD (y := vI e) tb R R R R (ix2 (g := fun a => T.d (vI a)) ie) R R R R ?_
   refine q_asgD R (q_asgD R (eN (qG (q_movD R (q_movD R (q_movD R ?_))))))
   refine r_eql R R R R ?_ ?_
   ·intro c5
    replace h := ifP c5 h
    refine q_pickT R (eN (sw_condT R (sw_rg (r_movR R R R (r_nilRef R R R (q_fa tb R (q_fa tb R (r_ldW tb R R R R R R R R R (q_movD R (r_ixI tb R R R R R R (ix0 ie) (ix1 ie) R R ?_))))))))))
    obtain ⟨c6, ic6, h⟩ := bnd h
    refine r_stQ (a' := (0 : Int)) tb R R R R ie R R R R ic6 R R ?_
    dsimp only [List.set_cons_zero, List.set_cons_succ, PdState_T1, Scene_T1]
    first | rw [set_len ic6] | skip
    refine ev_end (block_norm (then_norm (sw_rg (q_add R (q_movD R (eN ?_))))))
    exact ⟨m2, _, Nat.lt_succ_self _, .prn [0, 4, 27, 28, 29] R, c6, x2, (W (x3 + 1)), h, R⟩
   intro c5
   replace h := ifN c5 h
   refine q_pickT R (eN (sw_condF R (sw_skip (block_norm (then_norm (sw_rg (q_add R (q_movD R (eN ?_)))))))))
   exact ⟨m2, _, Nat.lt_succ_self _, .prn [0, 4, 27, 28, 29] R, c3, x2, (W (x3 + 1)), h, R⟩
  intro c4
  replace h := ifN (Int.not_lt.2 c4) h
  refine eN (sw_seq (sw_condF R (sw_exit (then_exit (then_exit ?_)))))
  subst hK2
  refine block_exit ?_
  obtain rfl := sI h
  exact fin_n (fin_S (t := .d (.tup [])) (L := [some ⟨13, [Scene_T1 {c with pdState_Squibs := c3, pdState_Storm := true} 1 2 3]⟩, some (lvI c.pdState_Zones), some (lvI c.pdState_Holder), some (lvI c3)]) (κ := [0, 1, 2, 3]) R .nil (vK (.cons R R (.row R (.row R (.row R .nil)))) R) (.inl ⟨_, R, R, R⟩))
 intro c2
 replace h := ifN c2 h
 refine q_asgD R (eN (sw_seq (sw_rgP (r_movR R R R (r_nilRef R R R (q_fa tb R (q_fa tb R (q_ldD (y := .v (.bool c.pdState_Storm)) tb R (q_movD R (r_boolneq R R R R R ?_))))))))))
 obtain ⟨rv2, hrv2, h⟩ := bnd h
 rcases ex_or rv2 with ⟨x4, nv2⟩ | ⟨v2, nv2⟩
 ·replace h := (exN nv2).symm.trans h
  refine ev_pan ?_
  (with_reducible apply op_call []); exact (pad_demand_scx hrv2).err nv2; exact rfl; exact .of (by kernel_rfl); exact rfl; exact .inl ⟨rfl, rfl, rfl⟩; (iterate 4 exact rfl); exact .nil; exact rfl
  intro cnt
  refine then_pan ?_
  obtain rfl := sI h
  exact fin_pX (L := [some ⟨13, [Scene_T1 c 1 2 3]⟩, some (lvI c.pdState_Zones), some (lvI c.pdState_Holder), some (lvI c.pdState_Squibs)]) (κ := [0, 1, 2, 3]) (vK (.cons R R (.row R (.row R (.row R .nil)))) R) (.inr ⟨_, R, R⟩)
 replace h := (exO nv2).symm.trans h
 refine r_callO (t' := .d (.tup [])) (ls := []) (news := []) ([]) ([some ⟨13, [Scene_T1 c 1 2 3]⟩, some (lvI c.pdState_Zones), some (lvI c.pdState_Holder), some (lvI c.pdState_Squibs), some ⟨5, [.d (PdAct.d a)]⟩]) ((pad_demand_scx hrv2).ok nv2) (.of (by kernel_rfl)) R (.inl ⟨R, R, R⟩) R R R R .nil R R R .nil .nil R R R R (ev_endP (then_norm (qG (r_movR R R R (q_movD R (r_nilRef R R R (q_fa tb R (q_fa tb R (q_stE _ _ tb R (eN (qG (r_movR R R R (r_nilRef R R R (q_fa tb R (q_fa tb R ?_)))))))))))))))
 refine r_ldW tb R R R R R R R R R (r_lenR tb R R R R R (q_movD R (eN (sw_block ?_))))
 obtain ⟨K3, hK3, h⟩ : ∃ K, K = _ ∧ pad_scene_thunder_m_L2 F K F c.pdState_Squibs (c.pdState_Squibs.length : Int) 0 = some r := ⟨_, rfl, h⟩
 refine sw_loopS (st0 := ⟨[(0, .ref 0 13 0 0), (4, .d (.v (.bool false))), (27, .row 3 1 0 (c.pdState_Squibs).length), (28, .d (vI (c.pdState_Squibs.length : Int))), (29, .d (vI 0))], [some ⟨13, [Scene_T1 {c with pdState_Storm := false} 1 2 3]⟩, some (lvI c.pdState_Zones), some (lvI c.pdState_Holder), some (lvI c.pdState_Squibs)]⟩) (fun m st => ∃ (c7 : (List Int)) (x5 : Int) (x6 : Int), pad_scene_thunder_m_L2 F K3 m c7 x5 x6 = some r ∧ st = ⟨[(0, .ref 0 13 0 0), (4, .d (.v (.bool false))), (27, .row 3 1 0 (c7).length), (28, .d (vI x5)), (29, .d (vI x6))], [some ⟨13, [Scene_T1 {c with pdState_Squibs := c7, pdState_Storm := false} 1 2 3]⟩, some (lvI c.pdState_Zones), some (lvI c.pdState_Holder), some (lvI c7)]⟩) (.vw (κ := [0, 1, 2, 3]) (vK (.cons R R (.row R (.row R (.row R .nil)))) R)) ⟨c.pdState_Squibs, (c.pdState_Squibs.length : Int), 0, h, R⟩ ?_
 clear h
 rintro m3 st ⟨c7, x5, x6, h, rfl⟩
 cases m3 with
 | zero => cases (show (none : Option (Except Int Scene)) = some r from h)
 | succ m3 =>
 rw [pad_scene_thunder_m_L2] at h
 refine qG ?_
 refine r_lss R R R R ?_ ?_
 ·intro c8
  replace h := ifP c8 h
  refine eN (sw_seq (sw_condT R (sw_skip (then_norm (sw_seq (sw_block (qG (q_movD R ?_))))))))
  obtain ⟨e2, ie2, h⟩ := bnd h
  refine r_ixI tb R R R R R R (ix0 ie2) (ix1 ie2) R R ?_
  refine r_ldD (y := vI e2) tb R R R R (ix2 (g := fun a => T.d (vI a)) ie2) R R R R ?_
  refine q_asgD R (q_asgD R (eN (qG (q_movD R (q_movD R (q_sk 2 R (q_pickF R (eN (sw_condF R (sw_skip (block_norm (then_norm (sw_rg (q_add R (q_movD R (eN ?_))))))))))))))))
  exact ⟨m3, _, Nat.lt_succ_self _, .prn [0, 4, 27, 28, 29] R, c7, x5, (W (x6 + 1)), h, R⟩
 intro c8
 replace h := ifN (Int.not_lt.2 c8) h
 refine eN (sw_seq (sw_condF R (sw_exit (then_exit (then_exit ?_)))))
 subst hK3
 refine block_exit ?_
 obtain rfl := sI h
 exact fin_n (fin_S (t := .d (.tup [])) (L := [some ⟨13, [Scene_T1 {c with pdState_Squibs := c7, pdState_Storm := false} 1 2 3]⟩, some (lvI c.pdState_Zones), some (lvI c.pdState_Holder), some (lvI c7)]) (κ := [0, 1, 2, 3]) R .nil (vK (.cons R R (.row R (.row R (.row R .nil)))) R) (.inl ⟨_, R, R, R⟩))
def pad_does (F : Nat)  : Option Unit := some ()
theorem pad_does_pc {F : Nat}  {r : Unit} (h : pad_does F  = some r) : PC Tryz.prog 53 [] (.agg [.v .nilFunc, .v (.func (.func 86) #[] #[]), .v (.func (.func 87) #[] #[]), .v (.func (.func 88) #[] #[]), .v (.func (.func 89) #[] #[]), .v (.func (.func 90) #[] #[]), .v (.func (.func 91) #[] #[]), .v (.func (.func 92) #[] #[]), .v (.func (.func 93) #[] #[]), .v (.func (.func 94) #[] #[])]) := by
 rw [pad_does] at h
 refine SC.of_sw Tryz.func53 R R R ?_
 dsimp only [argS, List.map]
 refine qG (r_alloc tb R R R R R (eN (qG (r_buildA (v := .d (.agg [.v .nilFunc, .v (.func (.func 86) #[] #[]), .v (.func (.func 87) #[] #[]), .v (.func (.func 88) #[] #[]), .v (.func (.func 89) #[] #[]), .v (.func (.func 90) #[] #[]), .v (.func (.func 91) #[] #[]), .v (.func (.func 92) #[] #[]), .v (.func (.func 93) #[] #[]), .v (.func (.func 94) #[] #[])])) tb R R R R R R R R R (q_stE _ _ tb R (eN (sw_ret ?_)))))))
 obtain rfl := sI h
 exact fin_0 (t := .d (.agg [.v .nilFunc, .v (.func (.func 86) #[] #[]), .v (.func (.func 87) #[] #[]), .v (.func (.func 88) #[] #[]), .v (.func (.func 89) #[] #[]), .v (.func (.func 90) #[] #[]), .v (.func (.func 91) #[] #[]), .v (.func (.func 92) #[] #[]), .v (.func (.func 93) #[] #[]), .v (.func (.func 94) #[] #[])])) R R R (.cons (rc tb R) .nil)
end Go.Proofs.YthcnganbnbhhoaaGreat
