/- What functions of the program compute: plain functions, and the proofs. -/
import Derived.Test.YthcnganbnbhhoaaGreatW3
open Go Go.Proofs.YthcnganbnbhhoaaGreat.Sh Go.Proofs
namespace Go.Proofs.YthcnganbnbhhoaaGreat
set_option linter.unusedVariables false
set_option linter.unusedSimpArgs false
set_option maxRecDepth 100000
set_option maxHeartbeats 4000000
def pad_do_J1 (F : Nat) (a : PdAct) (c11 : (List PdZone)) (c12 : (List PdDoor)) (c13 : (List PdPerson)) (c14 : (List ByteArray)) (c15 : (List PdSquib)) (c16 : Int) (c17 : Int) (c18 : Int) (c19 : (List Int)) (c20 : (List Int)) (c21 : (List Int)) (c22 : Int) (c23 : Bool) : Option (PdState × Int) := some ((PdState.mk a.at_ c19 c20 c21 c22 c23), 0)
def pad_do (F : Nat) (p : PdPad) (s : PdState) (a : PdAct) : Option (PdState × Int) := Option.bind (pad_stage F p s) fun rv => optE rv (none) (fun t => Option.bind (pad_demand F (decide (t.pdState_Now ≤ a.at_)) 170) fun rv2 => exE rv2 (fun x => some ((PdState.mk 0 ([] : List Int) ([] : List Int) ([] : List Int) 0 false), x)) (fun v => if a.kind = 0 then (none) else if a.kind = 1 then (Option.bind (pad_scene_move_m F t a) fun rv3 => exE rv3 (fun x3 => some ((PdState.mk 0 ([] : List Int) ([] : List Int) ([] : List Int) 0 false), x3)) (fun v2 => pad_do_J1 F a v2.p_Zones v2.p_Doors v2.p_People v2.p_Keys v2.p_Squibs v2.p_Panel v2.p_Wait v2.pdState_Now v2.pdState_Zones v2.pdState_Holder v2.pdState_Squibs v2.pdState_Siren v2.pdState_Storm)) else if a.kind = 2 then (Option.bind (pad_scene_take_m F t a) fun rv4 => exE rv4 (fun x5 => some ((PdState.mk 0 ([] : List Int) ([] : List Int) ([] : List Int) 0 false), x5)) (fun v3 => pad_do_J1 F a v3.p_Zones v3.p_Doors v3.p_People v3.p_Keys v3.p_Squibs v3.p_Panel v3.p_Wait v3.pdState_Now v3.pdState_Zones v3.pdState_Holder v3.pdState_Squibs v3.pdState_Siren v3.pdState_Storm)) else if a.kind = 3 then (Option.bind (pad_scene_put_m F t a) fun rv5 => exE rv5 (fun x7 => some ((PdState.mk 0 ([] : List Int) ([] : List Int) ([] : List Int) 0 false), x7)) (fun v4 => pad_do_J1 F a v4.p_Zones v4.p_Doors v4.p_People v4.p_Keys v4.p_Squibs v4.p_Panel v4.p_Wait v4.pdState_Now v4.pdState_Zones v4.pdState_Holder v4.pdState_Squibs v4.pdState_Siren v4.pdState_Storm)) else if a.kind = 4 then (Option.bind (pad_scene_give_m F t a) fun rv6 => exE rv6 (fun x9 => some ((PdState.mk 0 ([] : List Int) ([] : List Int) ([] : List Int) 0 false), x9)) (fun v5 => pad_do_J1 F a v5.p_Zones v5.p_Doors v5.p_People v5.p_Keys v5.p_Squibs v5.p_Panel v5.p_Wait v5.pdState_Now v5.pdState_Zones v5.pdState_Holder v5.pdState_Squibs v5.pdState_Siren v5.pdState_Storm)) else if a.kind = 5 then (Option.bind (pad_scene_arm_m F t a) fun rv7 => exE rv7 (fun x11 => some ((PdState.mk 0 ([] : List Int) ([] : List Int) ([] : List Int) 0 false), x11)) (fun v6 => pad_do_J1 F a v6.p_Zones v6.p_Doors v6.p_People v6.p_Keys v6.p_Squibs v6.p_Panel v6.p_Wait v6.pdState_Now v6.pdState_Zones v6.pdState_Holder v6.pdState_Squibs v6.pdState_Siren v6.pdState_Storm)) else if a.kind = 6 then (Option.bind (pad_scene_disarm_m F t a) fun rv8 => exE rv8 (fun x13 => some ((PdState.mk 0 ([] : List Int) ([] : List Int) ([] : List Int) 0 false), x13)) (fun v7 => pad_do_J1 F a v7.p_Zones v7.p_Doors v7.p_People v7.p_Keys v7.p_Squibs v7.p_Panel v7.p_Wait v7.pdState_Now v7.pdState_Zones v7.pdState_Holder v7.pdState_Squibs v7.pdState_Siren v7.pdState_Storm)) else if a.kind = 7 then (Option.bind (pad_scene_fire_m F t a) fun rv9 => exE rv9 (fun x15 => some ((PdState.mk 0 ([] : List Int) ([] : List Int) ([] : List Int) 0 false), x15)) (fun v8 => pad_do_J1 F a v8.p_Zones v8.p_Doors v8.p_People v8.p_Keys v8.p_Squibs v8.p_Panel v8.p_Wait v8.pdState_Now v8.pdState_Zones v8.pdState_Holder v8.pdState_Squibs v8.pdState_Siren v8.pdState_Storm)) else if a.kind = 8 then (Option.bind (pad_scene_siren_m F t a) fun rv10 => exE rv10 (fun x17 => some ((PdState.mk 0 ([] : List Int) ([] : List Int) ([] : List Int) 0 false), x17)) (fun v9 => pad_do_J1 F a v9.p_Zones v9.p_Doors v9.p_People v9.p_Keys v9.p_Squibs v9.p_Panel v9.p_Wait v9.pdState_Now v9.pdState_Zones v9.pdState_Holder v9.pdState_Squibs v9.pdState_Siren v9.pdState_Storm)) else if a.kind = 9 then (Option.bind (pad_scene_thunder_m F t a) fun rv11 => exE rv11 (fun x19 => some ((PdState.mk 0 ([] : List Int) ([] : List Int) ([] : List Int) 0 false), x19)) (fun v10 => pad_do_J1 F a v10.p_Zones v10.p_Doors v10.p_People v10.p_Keys v10.p_Squibs v10.p_Panel v10.p_Wait v10.pdState_Now v10.pdState_Zones v10.pdState_Holder v10.pdState_Squibs v10.pdState_Siren v10.pdState_Storm)) else none))
theorem pad_do_dfk {x1 x2 c2 : Code} {o2 : Operand} (hb : Tryz.f51.body = some (.seq x1 (.seq x2 (.cond o2 c2 .skip)))) : DfK Tryz.prog 51 c2 9 2 34 := by
 unfold Tryz.f51 at hb
 injection hb with hb
 injection hb with _ hb
 injection hb with _ hb
 injection hb with _ hb _
 subst hb
 refine ⟨fun ds w hds => ?_, fun ds v older w R hds ⟨E, hv⟩ H => ?_⟩
 ·obtain ⟨d0, d1, rfl⟩ : ∃ d0 d1, ds = #[d0, d1] := by
   obtain ⟨l⟩ := ds
   match l, hds with
   | [d0, d1], _ => exact ⟨d0, d1, rfl⟩
  refine callsDIn_of_wpSIn Tryz.func51 (by rfl) trivial fun c₀ cs hu => ?_
  apply wpSIn_seq
  apply wpSIn_region
  simp [wpOpsSIn, go_sem, recoverD, hu, Tryz.ntmps51, Exit.thenS]
  apply wpSIn_seq
  apply wpSIn_region
  simp [wpOpsSIn, go_sem, Exit.thenS]
  refine wpSIn_cond (t := false) (by simp [Act.eval, Array.replicate]) ?_
  simp only [Bool.false_eq_true, if_false]
  refine wpSIn_of_wpIn (by rfl) (wpIn_skip ?_)
  cases c₀
  simp_all [bodyPostS, results, Tryz.results51]
 ·subst hv
  obtain ⟨d0, d1, rfl⟩ : ∃ d0 d1, ds = #[d0, d1] := by
   obtain ⟨l⟩ := ds
   match l, hds with
   | [d0, d1], _ => exact ⟨d0, d1, rfl⟩
  refine callsDIn_of_wpSIn Tryz.func51 (by rfl) trivial fun c₀ cs hu => ?_
  apply wpSIn_seq
  apply wpSIn_region
  simp [wpOpsSIn, go_sem, recoverD, hu, Tryz.ntmps51, Exit.thenS]
  apply wpSIn_seq
  apply wpSIn_region
  simp [wpOpsSIn, go_sem, Exit.thenS]
  refine wpSIn_cond (t := true) (by simp [Act.eval, Array.replicate]) ?_
  simp only [if_true]
  refine wpSIn_of_wpIn (by rfl) (wpIn_mono (H _ (by rfl) ?_ ?_ ?_) ?_)
  ·simp [Array.replicate]
  ·intro i hi
   match i, hi with
   | 0, _ => rfl
   | 1, _ => rfl
  ·simp [Array.replicate]
  ·rintro ex a' w' ⟨rfl, h2, h3⟩
   cases c₀
   simp_all [bodyPostS, results, Tryz.results51]
theorem pad_do_pn1 {F : Nat} {p : PdPad} {s : PdState} {a : PdAct} {t : Scene} (x2 : Int) {xa xb c2 : Code} {o2 : Operand} (hb : Tryz.f51.body = some (.seq xa (.seq xb (.cond o2 c2 .skip)))) : SW Tryz.prog 9 9 [] c2 (fun sx st2 => sx = .norm ∧ Fin Tryz.prog Tryz.f25 0 (fun se X => se = .ret (.tup [PdState_T1 (PdState.mk 0 ([] : List Int) ([] : List Int) ([] : List Int) 0 false) 0 1 2, .d (.v (.int .i64 x2))]) ∧ X = [some (lvI ([] : List Int)), some (lvI ([] : List Int)), some (lvI ([] : List Int))]) .ret ⟨[(6, .ref 3 6 0 0), (7, .ref 4 1 0 0)], st2.L⟩) ⟨capS 0 ([.ref 3 6 0 0, .ref 4 1 0 0] ++ [.d (.v (.iface 34 ((.int .i64 x2))))]), [some ⟨7, [.d (PdPad.d p)]⟩, some ⟨6, [.d (PdState.d s)]⟩, some ⟨5, [.d (PdAct.d a)]⟩, some ⟨6, [.d (.agg [.v (.int .i64 0), .v (.slice none 0 0), .v (.slice none 0 0), .v (.slice none 0 0), .v (.int .i64 0), .v (.bool false)])]⟩, some ⟨1, [.d (.v (.int .i64 0))]⟩, some ⟨13, [Scene_T1 t 6 7 8]⟩, some (lvI t.pdState_Zones), some (lvI t.pdState_Holder), some (lvI t.pdState_Squibs)]⟩ := by
 unfold Tryz.f51 at hb
 injection hb with hb
 injection hb with _ hb
 injection hb with _ hb
 injection hb with _ hb _
 subst hb
 refine sw_post (fun _ _ h => by cases h.1) ?_
 dsimp only [capS, List.cons_append, List.nil_append]
 refine sw_dr (by kernel_rfl) (r_build (v := .d (.agg [vI 0, .v (.slice none 0 0), .v (.slice none 0 0), .v (.slice none 0 0), vI 0, .v (.bool false)])) tb R R (List.cons_ne_nil _ _) R R R R R R (q_movD R ?_))
 refine r_tas R (fun _ => by kernel_rfl) R R R ?_
 refine q_stE _ _ tb R (q_stE _ _ tb R (ev_endD (by kernel_rfl) ?_))
 refine ⟨_, Seen.own (ts' := [(0, .ref 3 6 0 0), (1, .ref 4 1 0 0), (2, .d (.v (.iface 34 ((.int .i64 x2))))), (6, .d (.agg [vI 0, .v (.slice none 0 0), .v (.slice none 0 0), .v (.slice none 0 0), vI 0, .v (.bool false)])), (7, .d (.v (.iface 34 ((.int .i64 x2))))), (8, .d (vI x2))]) (L' := [some ⟨7, [.d (PdPad.d p)]⟩, some ⟨6, [.d (PdState.d s)]⟩, some ⟨5, [.d (PdAct.d a)]⟩, some ⟨6, [.agg [.d (vI 0), .row 9 1 0 (([] : List Int)).length, .d (.v (.slice none 0 0)), .d (.v (.slice none 0 0)), .d (vI 0), .d (.v (.bool false))]]⟩, some ⟨1, [.d (vI x2)]⟩, some ⟨13, [Scene_T1 t 6 7 8]⟩, some (lvI t.pdState_Zones), some (lvI t.pdState_Holder), some (lvI t.pdState_Squibs)]) 1 R R (.cons (.same _) (.cons (.same _) (.cons (.same _) (.cons (.same _) (.cons (.same _) (.cons (.same _) .nil)))))) (.same (.same (.same (.cons R (.cons (.aggDL (.cons (.same _) (.cons .nil (.cons (.same _) (.cons (.same _) (.cons (.same _) (.cons (.same _) .nil))))))) .nil) (.same (.same (.same (.same (.same .nil))))))))) (Seen.own (ts := [(0, .ref 3 6 0 0), (1, .ref 4 1 0 0), (2, .d (.v (.iface 34 ((.int .i64 x2))))), (6, .d (.agg [vI 0, .v (.slice none 0 0), .v (.slice none 0 0), .v (.slice none 0 0), vI 0, .v (.bool false)])), (7, .d (.v (.iface 34 ((.int .i64 x2))))), (8, .d (vI x2))]) (L := [some ⟨7, [.d (PdPad.d p)]⟩, some ⟨6, [.d (PdState.d s)]⟩, some ⟨5, [.d (PdAct.d a)]⟩, some ⟨6, [.agg [.d (vI 0), .row 9 1 0 (([] : List Int)).length, .d (.v (.slice none 0 0)), .d (.v (.slice none 0 0)), .d (vI 0), .d (.v (.bool false))]]⟩, some ⟨1, [.d (vI x2)]⟩, some ⟨13, [Scene_T1 t 6 7 8]⟩, some (lvI t.pdState_Zones), some (lvI t.pdState_Holder), some (lvI t.pdState_Squibs), some (lvI ([] : List Int))]) (ts' := [(0, .ref 3 6 0 0), (1, .ref 4 1 0 0), (2, .d (.v (.iface 34 ((.int .i64 x2))))), (6, .d (.agg [vI 0, .v (.slice none 0 0), .v (.slice none 0 0), .v (.slice none 0 0), vI 0, .v (.bool false)])), (7, .d (.v (.iface 34 ((.int .i64 x2))))), (8, .d (vI x2))]) (L' := [some ⟨7, [.d (PdPad.d p)]⟩, some ⟨6, [.d (PdState.d s)]⟩, some ⟨5, [.d (PdAct.d a)]⟩, some ⟨6, [.agg [.d (vI 0), .row 9 1 0 (([] : List Int)).length, .row 10 1 0 (([] : List Int)).length, .d (.v (.slice none 0 0)), .d (vI 0), .d (.v (.bool false))]]⟩, some ⟨1, [.d (vI x2)]⟩, some ⟨13, [Scene_T1 t 6 7 8]⟩, some (lvI t.pdState_Zones), some (lvI t.pdState_Holder), some (lvI t.pdState_Squibs), some (lvI ([] : List Int))]) 1 R R (.cons (.same _) (.cons (.same _) (.cons (.same _) (.cons (.same _) (.cons (.same _) (.cons (.same _) .nil)))))) (.same (.same (.same (.cons R (.cons (.aggL (.cons (.same _) (.cons (.same _) (.cons .nil (.cons (.same _) (.cons (.same _) (.cons (.same _) .nil))))))) .nil) (.same (.same (.same (.same (.same (.same .nil)))))))))) (Seen.own (ts := [(0, .ref 3 6 0 0), (1, .ref 4 1 0 0), (2, .d (.v (.iface 34 ((.int .i64 x2))))), (6, .d (.agg [vI 0, .v (.slice none 0 0), .v (.slice none 0 0), .v (.slice none 0 0), vI 0, .v (.bool false)])), (7, .d (.v (.iface 34 ((.int .i64 x2))))), (8, .d (vI x2))]) (L := [some ⟨7, [.d (PdPad.d p)]⟩, some ⟨6, [.d (PdState.d s)]⟩, some ⟨5, [.d (PdAct.d a)]⟩, some ⟨6, [.agg [.d (vI 0), .row 9 1 0 (([] : List Int)).length, .row 10 1 0 (([] : List Int)).length, .d (.v (.slice none 0 0)), .d (vI 0), .d (.v (.bool false))]]⟩, some ⟨1, [.d (vI x2)]⟩, some ⟨13, [Scene_T1 t 6 7 8]⟩, some (lvI t.pdState_Zones), some (lvI t.pdState_Holder), some (lvI t.pdState_Squibs), some (lvI ([] : List Int)), some (lvI ([] : List Int))]) (ts' := [(0, .ref 3 6 0 0), (1, .ref 4 1 0 0), (2, .d (.v (.iface 34 ((.int .i64 x2))))), (6, .d (.agg [vI 0, .v (.slice none 0 0), .v (.slice none 0 0), .v (.slice none 0 0), vI 0, .v (.bool false)])), (7, .d (.v (.iface 34 ((.int .i64 x2))))), (8, .d (vI x2))]) (L' := [some ⟨7, [.d (PdPad.d p)]⟩, some ⟨6, [.d (PdState.d s)]⟩, some ⟨5, [.d (PdAct.d a)]⟩, some ⟨6, [PdState_T1 (PdState.mk 0 ([] : List Int) ([] : List Int) ([] : List Int) 0 false) 9 10 11]⟩, some ⟨1, [.d (vI x2)]⟩, some ⟨13, [Scene_T1 t 6 7 8]⟩, some (lvI t.pdState_Zones), some (lvI t.pdState_Holder), some (lvI t.pdState_Squibs), some (lvI ([] : List Int)), some (lvI ([] : List Int))]) 1 R R (.cons (.same _) (.cons (.same _) (.cons (.same _) (.cons (.same _) (.cons (.same _) (.cons (.same _) .nil)))))) (.same (.same (.same (.cons R (.cons (.aggL (.cons (.same _) (.cons (.same _) (.cons (.same _) (.cons .nil (.cons (.same _) (.cons (.same _) .nil))))))) .nil) (.same (.same (.same (.same (.same (.same (.same .nil))))))))))) (.refl _ _ _))), R, ?_⟩
 exact (fin_S (t := .tup [PdState_T1 (PdState.mk 0 ([] : List Int) ([] : List Int) ([] : List Int) 0 false) 0 1 2, .d (vI x2)]) (L := [some (lvI ([] : List Int)), some (lvI ([] : List Int)), some (lvI ([] : List Int))]) (κ := [9, 10, 11]) R (.cons (rcell tb (u := PdState_T1 (PdState.mk 0 ([] : List Int) ([] : List Int) ([] : List Int) 0 false) 9 10 11) R R R R R R R) (.cons (rcell tb (u := .d (vI x2)) R R R R R R R) .nil)) (vK (.row R (.row R (.row R .nil))) R) ⟨R, R⟩)
theorem pad_do_pn2 {F : Nat} {p : PdPad} {s : PdState} {a : PdAct} (x4 : Int) {xa xb c2 : Code} {o2 : Operand} (hb : Tryz.f51.body = some (.seq xa (.seq xb (.cond o2 c2 .skip)))) : SW Tryz.prog 9 9 [] c2 (fun sx st2 => sx = .norm ∧ Fin Tryz.prog Tryz.f25 0 (fun se X => se = .ret (.tup [PdState_T1 (PdState.mk 0 ([] : List Int) ([] : List Int) ([] : List Int) 0 false) 0 1 2, .d (.v (.int .i64 x4))]) ∧ X = [some (lvI ([] : List Int)), some (lvI ([] : List Int)), some (lvI ([] : List Int))]) .ret ⟨[(6, .ref 3 6 0 0), (7, .ref 4 1 0 0)], st2.L⟩) ⟨capS 0 ([.ref 3 6 0 0, .ref 4 1 0 0] ++ [.d (.v (.iface 34 ((.int .i64 x4))))]), [some ⟨7, [.d (PdPad.d p)]⟩, some ⟨6, [.d (PdState.d s)]⟩, some ⟨5, [.d (PdAct.d a)]⟩, some ⟨6, [.d (.agg [.v (.int .i64 0), .v (.slice none 0 0), .v (.slice none 0 0), .v (.slice none 0 0), .v (.int .i64 0), .v (.bool false)])]⟩, some ⟨1, [.d (.v (.int .i64 0))]⟩, none, none, none, none]⟩ := by
 unfold Tryz.f51 at hb
 injection hb with hb
 injection hb with _ hb
 injection hb with _ hb
 injection hb with _ hb _
 subst hb
 refine sw_post (fun _ _ h => by cases h.1) ?_
 dsimp only [capS, List.cons_append, List.nil_append]
 refine sw_dr (by kernel_rfl) (r_build (v := .d (.agg [vI 0, .v (.slice none 0 0), .v (.slice none 0 0), .v (.slice none 0 0), vI 0, .v (.bool false)])) tb R R (List.cons_ne_nil _ _) R R R R R R (q_movD R ?_))
 refine r_tas R (fun _ => by kernel_rfl) R R R ?_
 refine q_stE _ _ tb R (q_stE _ _ tb R (ev_endD (by kernel_rfl) ?_))
 refine ⟨_, Seen.own (ts' := [(0, .ref 3 6 0 0), (1, .ref 4 1 0 0), (2, .d (.v (.iface 34 ((.int .i64 x4))))), (6, .d (.agg [vI 0, .v (.slice none 0 0), .v (.slice none 0 0), .v (.slice none 0 0), vI 0, .v (.bool false)])), (7, .d (.v (.iface 34 ((.int .i64 x4))))), (8, .d (vI x4))]) (L' := [some ⟨7, [.d (PdPad.d p)]⟩, some ⟨6, [.d (PdState.d s)]⟩, some ⟨5, [.d (PdAct.d a)]⟩, some ⟨6, [.agg [.d (vI 0), .row 9 1 0 (([] : List Int)).length, .d (.v (.slice none 0 0)), .d (.v (.slice none 0 0)), .d (vI 0), .d (.v (.bool false))]]⟩, some ⟨1, [.d (vI x4)]⟩, none, none, none, none]) 1 R R (.cons (.same _) (.cons (.same _) (.cons (.same _) (.cons (.same _) (.cons (.same _) (.cons (.same _) .nil)))))) (.same (.same (.same (.cons R (.cons (.aggDL (.cons (.same _) (.cons .nil (.cons (.same _) (.cons (.same _) (.cons (.same _) (.cons (.same _) .nil))))))) .nil) (.same (.same (.same (.same (.same .nil))))))))) (Seen.own (ts := [(0, .ref 3 6 0 0), (1, .ref 4 1 0 0), (2, .d (.v (.iface 34 ((.int .i64 x4))))), (6, .d (.agg [vI 0, .v (.slice none 0 0), .v (.slice none 0 0), .v (.slice none 0 0), vI 0, .v (.bool false)])), (7, .d (.v (.iface 34 ((.int .i64 x4))))), (8, .d (vI x4))]) (L := [some ⟨7, [.d (PdPad.d p)]⟩, some ⟨6, [.d (PdState.d s)]⟩, some ⟨5, [.d (PdAct.d a)]⟩, some ⟨6, [.agg [.d (vI 0), .row 9 1 0 (([] : List Int)).length, .d (.v (.slice none 0 0)), .d (.v (.slice none 0 0)), .d (vI 0), .d (.v (.bool false))]]⟩, some ⟨1, [.d (vI x4)]⟩, none, none, none, none, some (lvI ([] : List Int))]) (ts' := [(0, .ref 3 6 0 0), (1, .ref 4 1 0 0), (2, .d (.v (.iface 34 ((.int .i64 x4))))), (6, .d (.agg [vI 0, .v (.slice none 0 0), .v (.slice none 0 0), .v (.slice none 0 0), vI 0, .v (.bool false)])), (7, .d (.v (.iface 34 ((.int .i64 x4))))), (8, .d (vI x4))]) (L' := [some ⟨7, [.d (PdPad.d p)]⟩, some ⟨6, [.d (PdState.d s)]⟩, some ⟨5, [.d (PdAct.d a)]⟩, some ⟨6, [.agg [.d (vI 0), .row 9 1 0 (([] : List Int)).length, .row 10 1 0 (([] : List Int)).length, .d (.v (.slice none 0 0)), .d (vI 0), .d (.v (.bool false))]]⟩, some ⟨1, [.d (vI x4)]⟩, none, none, none, none, some (lvI ([] : List Int))]) 1 R R (.cons (.same _) (.cons (.same _) (.cons (.same _) (.cons (.same _) (.cons (.same _) (.cons (.same _) .nil)))))) (.same (.same (.same (.cons R (.cons (.aggL (.cons (.same _) (.cons (.same _) (.cons .nil (.cons (.same _) (.cons (.same _) (.cons (.same _) .nil))))))) .nil) (.same (.same (.same (.same (.same (.same .nil)))))))))) (Seen.own (ts := [(0, .ref 3 6 0 0), (1, .ref 4 1 0 0), (2, .d (.v (.iface 34 ((.int .i64 x4))))), (6, .d (.agg [vI 0, .v (.slice none 0 0), .v (.slice none 0 0), .v (.slice none 0 0), vI 0, .v (.bool false)])), (7, .d (.v (.iface 34 ((.int .i64 x4))))), (8, .d (vI x4))]) (L := [some ⟨7, [.d (PdPad.d p)]⟩, some ⟨6, [.d (PdState.d s)]⟩, some ⟨5, [.d (PdAct.d a)]⟩, some ⟨6, [.agg [.d (vI 0), .row 9 1 0 (([] : List Int)).length, .row 10 1 0 (([] : List Int)).length, .d (.v (.slice none 0 0)), .d (vI 0), .d (.v (.bool false))]]⟩, some ⟨1, [.d (vI x4)]⟩, none, none, none, none, some (lvI ([] : List Int)), some (lvI ([] : List Int))]) (ts' := [(0, .ref 3 6 0 0), (1, .ref 4 1 0 0), (2, .d (.v (.iface 34 ((.int .i64 x4))))), (6, .d (.agg [vI 0, .v (.slice none 0 0), .v (.slice none 0 0), .v (.slice none 0 0), vI 0, .v (.bool false)])), (7, .d (.v (.iface 34 ((.int .i64 x4))))), (8, .d (vI x4))]) (L' := [some ⟨7, [.d (PdPad.d p)]⟩, some ⟨6, [.d (PdState.d s)]⟩, some ⟨5, [.d (PdAct.d a)]⟩, some ⟨6, [PdState_T1 (PdState.mk 0 ([] : List Int) ([] : List Int) ([] : List Int) 0 false) 9 10 11]⟩, some ⟨1, [.d (vI x4)]⟩, none, none, none, none, some (lvI ([] : List Int)), some (lvI ([] : List Int))]) 1 R R (.cons (.same _) (.cons (.same _) (.cons (.same _) (.cons (.same _) (.cons (.same _) (.cons (.same _) .nil)))))) (.same (.same (.same (.cons R (.cons (.aggL (.cons (.same _) (.cons (.same _) (.cons (.same _) (.cons .nil (.cons (.same _) (.cons (.same _) .nil))))))) .nil) (.same (.same (.same (.same (.same (.same (.same .nil))))))))))) (.refl _ _ _))), R, ?_⟩
 exact (fin_S (t := .tup [PdState_T1 (PdState.mk 0 ([] : List Int) ([] : List Int) ([] : List Int) 0 false) 0 1 2, .d (vI x4)]) (L := [some (lvI ([] : List Int)), some (lvI ([] : List Int)), some (lvI ([] : List Int))]) (κ := [9, 10, 11]) R (.cons (rcell tb (u := PdState_T1 (PdState.mk 0 ([] : List Int) ([] : List Int) ([] : List Int) 0 false) 9 10 11) R R R R R R R) (.cons (rcell tb (u := .d (vI x4)) R R R R R R R) .nil)) (vK (.row R (.row R (.row R .nil))) R) ⟨R, R⟩)
theorem pad_do_scr {F : Nat} {p : PdPad} {s : PdState} {a : PdAct} {r : (PdState × Int)} (h : pad_do F p s a = some r) : SCR Tryz.prog 25 (List.map T.d [PdPad.d p, PdState.d s, PdAct.d a]) [] (.tup [PdState_T1 r.1 0 1 2, .d (.v (.int .i64 r.2))]) (List.map some [(lvI r.1.zones), (lvI r.1.holder), (lvI r.1.squibs)]) := by
 rw [pad_do] at h
 refine SC.of_swd Tryz.func25 R R R ?_
 dsimp only [argS, List.map]
 refine swd_seq (sw_rg (q_box R (q_box R (q_box R (r_alloc tb R R R R R (r_alloc tb R R R R R (ev_end ?_)))))))
 refine ⟨R, ?_⟩
 refine swd_seq (sw_rg (q_ldD (y := PdPad.d p) tb R (q_ldD (y := PdState.d s) tb R ?_)))
 obtain ⟨rv, hrv, h⟩ := bnd h
 rcases Option.eq_none_or_eq_some rv with nv | ⟨t, nv⟩
 ·replace h := (optN nv).symm.trans h
  refine r_callO (t' := .d (.v (.pointer none))) (ls := []) (news := []) ([]) ([some ⟨7, [.d (PdPad.d p)]⟩, some ⟨6, [.d (PdState.d s)]⟩, some ⟨5, [.d (PdAct.d a)]⟩, some ⟨6, [.d (.agg [vI 0, .v (.slice none 0 0), .v (.slice none 0 0), .v (.slice none 0 0), vI 0, .v (.bool false)])]⟩, some ⟨1, [.d (vI 0)]⟩]) ((pad_stage_sco hrv).none nv) (.of (by kernel_rfl)) R (.inl ⟨R, R, R⟩) R R R R .nil R R R .nil .nil R R R R ?_
  cases h
 replace h := (optS nv).symm.trans h
 refine r_callO (t' := .ref 5 13 0 0) (ls := []) (news := [⟨13, [Scene_T1 t 1 2 3]⟩, (lvI t.pdState_Zones), (lvI t.pdState_Holder), (lvI t.pdState_Squibs)]) ([]) ([some ⟨7, [.d (PdPad.d p)]⟩, some ⟨6, [.d (PdState.d s)]⟩, some ⟨5, [.d (PdAct.d a)]⟩, some ⟨6, [.d (.agg [vI 0, .v (.slice none 0 0), .v (.slice none 0 0), .v (.slice none 0 0), vI 0, .v (.bool false)])]⟩, some ⟨1, [.d (vI 0)]⟩, some ⟨13, [Scene_T1 t 6 7 8]⟩, some (lvI t.pdState_Zones), some (lvI t.pdState_Holder), some (lvI t.pdState_Squibs)]) ((pad_stage_sco hrv).some nv) (.of (by kernel_rfl)) R (.inl ⟨R, R, R⟩) R R R R .nil R R R .nil ((.cons R (.row (.row (.row .nil))))) R R R R ?_
 refine r_asgR R R R (ev_end ?_)
 refine ⟨R, ?_⟩
 refine swk_defer R pad_do_dfk (by decide) (.of (by kernel_rfl)) (r_func R R R R ?_)
 refine ev_stop ⟨12, _, _, _, _, R, R, R, R, fun df => ?_⟩
 refine sw_seq (sw_drP (by kernel_rfl) (q_fa tb R (q_ldD (y := vI a.at_) tb R (r_movR R R R (r_nilRef R R R (q_fa tb R (q_fa tb R (q_ldD (y := vI t.pdState_Now) tb R (r_geqV R R R R ?_)))))))))
 obtain ⟨rv2, hrv2, h⟩ := bnd h
 rcases ex_or rv2 with ⟨x, nv2⟩ | ⟨v, nv2⟩
 ·replace h := (exN nv2).symm.trans h
  refine ev_panD (by kernel_rfl) (by kernel_rfl) ?_
  (with_reducible apply op_call []); exact (pad_demand_scx hrv2).err nv2; exact rfl; exact .of (by kernel_rfl); exact rfl; exact .inl ⟨rfl, rfl, rfl⟩; (iterate 4 exact rfl); exact .nil; exact rfl
  intro cnt
  refine then_pan ?_
  obtain rfl := sI h
  exact ⟨_, ⟨[(6, .ref 3 6 0 0), (7, .ref 4 1 0 0)], [some ⟨7, [.d (PdPad.d p)]⟩, some ⟨6, [.d (PdState.d s)]⟩, some ⟨5, [.d (PdAct.d a)]⟩, some ⟨6, [.d (.agg [vI 0, .v (.slice none 0 0), .v (.slice none 0 0), .v (.slice none 0 0), vI 0, .v (.bool false)])]⟩, some ⟨1, [.d (vI 0)]⟩, some ⟨13, [Scene_T1 t 6 7 8]⟩, some (lvI t.pdState_Zones), some (lvI t.pdState_Holder), some (lvI t.pdState_Squibs)]⟩, [0, 1, 2, 3, 4, 5, 6, 7, 8], R, (vK (.cons R R (.cons R R (.cons R R (.cons R R (.cons R R (.cons R R (.row R (.row R (.row R .nil))))))))) R), pad_do_pn1 (F := F) x R⟩
 replace h := (exO nv2).symm.trans h
 refine r_callO (t' := .d (.tup [])) (ls := []) (news := []) ([]) ([some ⟨7, [.d (PdPad.d p)]⟩, some ⟨6, [.d (PdState.d s)]⟩, some ⟨5, [.d (PdAct.d a)]⟩, some ⟨6, [.d (.agg [vI 0, .v (.slice none 0 0), .v (.slice none 0 0), .v (.slice none 0 0), vI 0, .v (.bool false)])]⟩, some ⟨1, [.d (vI 0)]⟩, some ⟨13, [Scene_T1 t 6 7 8]⟩, some (lvI t.pdState_Zones), some (lvI t.pdState_Holder), some (lvI t.pdState_Squibs)]) ((pad_demand_scx hrv2).ok nv2) (.of (by kernel_rfl)) R (.inl ⟨R, R, R⟩) R R R R .nil R R R .nil .nil R R R R ?_
 refine ev_endPD (by kernel_rfl) (then_norm (sw_seq ?_))
 refine sw_join (fun zz : (List PdZone) × (List PdDoor) × (List PdPerson) × (List ByteArray) × (List PdSquib) × Int × Int × Int × (List Int) × (List Int) × (List Int) × Int × Bool => pad_do_J1 F a zz.1 zz.2.1 zz.2.2.1 zz.2.2.2.1 zz.2.2.2.2.1 zz.2.2.2.2.2.1 zz.2.2.2.2.2.2.1 zz.2.2.2.2.2.2.2.1 zz.2.2.2.2.2.2.2.2.1 zz.2.2.2.2.2.2.2.2.2.1 zz.2.2.2.2.2.2.2.2.2.2.1 zz.2.2.2.2.2.2.2.2.2.2.2.1 zz.2.2.2.2.2.2.2.2.2.2.2.2 = some r) (fun zz : (List PdZone) × (List PdDoor) × (List PdPerson) × (List ByteArray) × (List PdSquib) × Int × Int × Int × (List Int) × (List Int) × (List Int) × Int × Bool => ⟨[(5, .ref 2 5 0 0), (6, .ref 3 6 0 0), (7, .ref 4 1 0 0), (8, .ref 5 13 0 0)], [some ⟨7, [.d (PdPad.d p)]⟩, some ⟨6, [.d (PdState.d s)]⟩, some ⟨5, [.d (PdAct.d a)]⟩, some ⟨6, [.d (.agg [vI 0, .v (.slice none 0 0), .v (.slice none 0 0), .v (.slice none 0 0), vI 0, .v (.bool false)])]⟩, some ⟨1, [.d (vI 0)]⟩, some ⟨13, [Scene_T1 (Scene.mk zz.1 zz.2.1 zz.2.2.1 zz.2.2.2.1 zz.2.2.2.2.1 zz.2.2.2.2.2.1 zz.2.2.2.2.2.2.1 zz.2.2.2.2.2.2.2.1 zz.2.2.2.2.2.2.2.2.1 zz.2.2.2.2.2.2.2.2.2.1 zz.2.2.2.2.2.2.2.2.2.2.1 zz.2.2.2.2.2.2.2.2.2.2.2.1 zz.2.2.2.2.2.2.2.2.2.2.2.2) 6 7 8]⟩, some (lvI zz.2.2.2.2.2.2.2.2.1), some (lvI zz.2.2.2.2.2.2.2.2.2.1), some (lvI zz.2.2.2.2.2.2.2.2.2.2.1)]⟩) ?_ ?_
 ·clear h
  rintro ⟨c11, c12, c13, c14, c15, c16, c17, c18, c19, c20, c21, c22, c23⟩ h
  dsimp only at h ⊢
  rw [pad_do_J1] at h
  refine qG (r_movR R R R (q_fa tb R (q_ldD (y := vI a.at_) tb R (r_nilRef R R R (q_fa tb R (q_fa tb R (q_stE _ _ tb R (eN (qG (r_movR R R R (r_nilRef R R R (q_fa tb R (r_ldG tb R R R R R R R R R (q_stE _ _ tb R (q_stE _ _ tb R (eN (sw_ret ?_)))))))))))))))))
  obtain rfl := sI h
  exact qk_ret (fin_S (t := .tup [PdState_T1 (PdState.mk a.at_ c19 c20 c21 c22 c23) 0 1 2, .d (vI 0)]) (L := [some (lvI c19), some (lvI c20), some (lvI c21)]) (κ := [6, 7, 8]) R (.cons (rcell tb (u := PdState_T1 (PdState.mk a.at_ c19 c20 c21 c22 c23) 6 7 8) R R R R R R R) (.cons (rcell tb (u := .d (vI 0)) R R R R R R R) .nil)) (vK (.row R (.row R (.row R .nil))) R) ⟨R, R⟩)
 refine sw_drP (by kernel_rfl) (r_call (pad_does_pc (F := 0) (r := ()) R) (.of (by kernel_rfl)) R R R R (q_fa tb R (q_ldD (y := vI a.kind) tb R ?_)))
 by_cases c : a.kind = 0
 ·replace h := ifP c h
  cases h
 replace h := ifN c h
 by_cases c2 : a.kind = 1
 ·replace h := ifP c2 h
  refine r_ixD (1) (.d (.v (.func (.func 86) #[] #[]))) tb R R R R R c2 R R R R R (r_movR R R R (q_ldD (y := PdAct.d a) tb R ?_))
  obtain ⟨rv3, hrv3, h⟩ := bnd h
  rcases ex_or rv3 with ⟨x3, nv3⟩ | ⟨v2, nv3⟩
  ·replace h := (exN nv3).symm.trans h
   refine ev_panD (by kernel_rfl) (by kernel_rfl) ?_
   (with_reducible apply op_call [5, 6, 7, 8]); exact (pad_scene_move_m_scx hrv3).err nv3; exact rfl; exact .of (by kernel_rfl); exact rfl; exact .inl ⟨rfl, rfl, rfl⟩; (iterate 4 exact rfl); exact (.cons rfl rfl (.row rfl (.row rfl (.row rfl .nil)))); exact rfl
   intro cnt
   refine then_pan ?_
   obtain rfl := sI h
   exact ⟨_, ⟨[(6, .ref 3 6 0 0), (7, .ref 4 1 0 0)], [some ⟨7, [.d (PdPad.d p)]⟩, some ⟨6, [.d (PdState.d s)]⟩, some ⟨5, [.d (PdAct.d a)]⟩, some ⟨6, [.d (.agg [vI 0, .v (.slice none 0 0), .v (.slice none 0 0), .v (.slice none 0 0), vI 0, .v (.bool false)])]⟩, some ⟨1, [.d (vI 0)]⟩, none, none, none, none]⟩, [0, 1, 2, 3, 4, 5, 6, 7, 8], R, (vK (.cons R R (.cons R R (.cons R R (.cons R R (.cons R R (.gone R (.gone R (.gone R (.gone R .nil))))))))) R), pad_do_pn2 (F := F) x3 R⟩
  replace h := (exO nv3).symm.trans h
  refine r_callO (t' := .d (.tup [])) (ls := [some ⟨13, [Scene_T1 v2 1 2 3]⟩, some (lvI v2.pdState_Zones), some (lvI v2.pdState_Holder), some (lvI v2.pdState_Squibs)]) (news := []) ([5, 6, 7, 8]) ([some ⟨7, [.d (PdPad.d p)]⟩, some ⟨6, [.d (PdState.d s)]⟩, some ⟨5, [.d (PdAct.d a)]⟩, some ⟨6, [.d (.agg [vI 0, .v (.slice none 0 0), .v (.slice none 0 0), .v (.slice none 0 0), vI 0, .v (.bool false)])]⟩, some ⟨1, [.d (vI 0)]⟩, some ⟨13, [Scene_T1 v2 6 7 8]⟩, some (lvI v2.pdState_Zones), some (lvI v2.pdState_Holder), some (lvI v2.pdState_Squibs)]) ((pad_scene_move_m_scx hrv3).ok nv3) (.of (by kernel_rfl)) R (.inl ⟨R, R, R⟩) R R R R ((.cons R R (.row R (.row R (.row R .nil))))) R R R ((.cons R (.row (.row (.row .nil))))) .nil R R R R ?_
  refine ev_endPD (by kernel_rfl) (then_norm ?_)
  exact .inl ⟨(v2.p_Zones, v2.p_Doors, v2.p_People, v2.p_Keys, v2.p_Squibs, v2.p_Panel, v2.p_Wait, v2.pdState_Now, v2.pdState_Zones, v2.pdState_Holder, v2.pdState_Squibs, v2.pdState_Siren, v2.pdState_Storm), h, .prn [5, 6, 7, 8] R⟩
 replace h := ifN c2 h
 by_cases c3 : a.kind = 2
 ·replace h := ifP c3 h
  refine r_ixD (2) (.d (.v (.func (.func 87) #[] #[]))) tb R R R R R c3 R R R R R (r_movR R R R (q_ldD (y := PdAct.d a) tb R ?_))
  obtain ⟨rv4, hrv4, h⟩ := bnd h
  rcases ex_or rv4 with ⟨x5, nv4⟩ | ⟨v3, nv4⟩
  ·replace h := (exN nv4).symm.trans h
   refine ev_panD (by kernel_rfl) (by kernel_rfl) ?_
   (with_reducible apply op_call [5, 6, 7, 8]); exact (pad_scene_take_m_scx hrv4).err nv4; exact rfl; exact .of (by kernel_rfl); exact rfl; exact .inl ⟨rfl, rfl, rfl⟩; (iterate 4 exact rfl); exact (.cons rfl rfl (.row rfl (.row rfl (.row rfl .nil)))); exact rfl
   intro cnt
   refine then_pan ?_
   obtain rfl := sI h
   exact ⟨_, ⟨[(6, .ref 3 6 0 0), (7, .ref 4 1 0 0)], [some ⟨7, [.d (PdPad.d p)]⟩, some ⟨6, [.d (PdState.d s)]⟩, some ⟨5, [.d (PdAct.d a)]⟩, some ⟨6, [.d (.agg [vI 0, .v (.slice none 0 0), .v (.slice none 0 0), .v (.slice none 0 0), vI 0, .v (.bool false)])]⟩, some ⟨1, [.d (vI 0)]⟩, none, none, none, none]⟩, [0, 1, 2, 3, 4, 5, 6, 7, 8], R, (vK (.cons R R (.cons R R (.cons R R (.cons R R (.cons R R (.gone R (.gone R (.gone R (.gone R .nil))))))))) R), pad_do_pn2 (F := F) x5 R⟩
  replace h := (exO nv4).symm.trans h
  refine r_callO (t' := .d (.tup [])) (ls := [some ⟨13, [Scene_T1 v3 1 2 3]⟩, some (lvI v3.pdState_Zones), some (lvI v3.pdState_Holder), some (lvI v3.pdState_Squibs)]) (news := []) ([5, 6, 7, 8]) ([some ⟨7, [.d (PdPad.d p)]⟩, some ⟨6, [.d (PdState.d s)]⟩, some ⟨5, [.d (PdAct.d a)]⟩, some ⟨6, [.d (.agg [vI 0, .v (.slice none 0 0), .v (.slice none 0 0), .v (.slice none 0 0), vI 0, .v (.bool false)])]⟩, some ⟨1, [.d (vI 0)]⟩, some ⟨13, [Scene_T1 v3 6 7 8]⟩, some (lvI v3.pdState_Zones), some (lvI v3.pdState_Holder), some (lvI v3.pdState_Squibs)]) ((pad_scene_take_m_scx hrv4).ok nv4) (.of (by kernel_rfl)) R (.inl ⟨R, R, R⟩) R R R R ((.cons R R (.row R (.row R (.row R .nil))))) R R R ((.cons R (.row (.row (.row .nil))))) .nil R R R R ?_
  refine ev_endPD (by kernel_rfl) (then_norm ?_)
  exact .inl ⟨(v3.p_Zones, v3.p_Doors, v3.p_People, v3.p_Keys, v3.p_Squibs, v3.p_Panel, v3.p_Wait, v3.pdState_Now, v3.pdState_Zones, v3.pdState_Holder, v3.pdState_Squibs, v3.pdState_Siren, v3.pdState_Storm), h, .prn [5, 6, 7, 8] R⟩
 replace h := ifN c3 h
 by_cases c4 : a.kind = 3
 ·replace h := ifP c4 h
  refine r_ixD (3) (.d (.v (.func (.func 88) #[] #[]))) tb R R R R R c4 R R R R R (r_movR R R R (q_ldD (y := PdAct.d a) tb R ?_))
  obtain ⟨rv5, hrv5, h⟩ := bnd h
  rcases ex_or rv5 with ⟨x7, nv5⟩ | ⟨v4, nv5⟩
  ·replace h := (exN nv5).symm.trans h
   refine ev_panD (by kernel_rfl) (by kernel_rfl) ?_
   (with_reducible apply op_call [5, 6, 7, 8]); exact (pad_scene_put_m_scx hrv5).err nv5; exact rfl; exact .of (by kernel_rfl); exact rfl; exact .inl ⟨rfl, rfl, rfl⟩; (iterate 4 exact rfl); exact (.cons rfl rfl (.row rfl (.row rfl (.row rfl .nil)))); exact rfl
   intro cnt
   refine then_pan ?_
   obtain rfl := sI h
   exact ⟨_, ⟨[(6, .ref 3 6 0 0), (7, .ref 4 1 0 0)], [some ⟨7, [.d (PdPad.d p)]⟩, some ⟨6, [.d (PdState.d s)]⟩, some ⟨5, [.d (PdAct.d a)]⟩, some ⟨6, [.d (.agg [vI 0, .v (.slice none 0 0), .v (.slice none 0 0), .v (.slice none 0 0), vI 0, .v (.bool false)])]⟩, some ⟨1, [.d (vI 0)]⟩, none, none, none, none]⟩, [0, 1, 2, 3, 4, 5, 6, 7, 8], R, (vK (.cons R R (.cons R R (.cons R R (.cons R R (.cons R R (.gone R (.gone R (.gone R (.gone R .nil))))))))) R), pad_do_pn2 (F := F) x7 R⟩
  replace h := (exO nv5).symm.trans h
  refine r_callO (t' := .d (.tup [])) (ls := [some ⟨13, [Scene_T1 v4 1 2 3]⟩, some (lvI v4.pdState_Zones), some (lvI v4.pdState_Holder), some (lvI v4.pdState_Squibs)]) (news := []) ([5, 6, 7, 8]) ([some ⟨7, [.d (PdPad.d p)]⟩, some ⟨6, [.d (PdState.d s)]⟩, some ⟨5, [.d (PdAct.d a)]⟩, some ⟨6, [.d (.agg [vI 0, .v (.slice none 0 0), .v (.slice none 0 0), .v (.slice none 0 0), vI 0, .v (.bool false)])]⟩, some ⟨1, [.d (vI 0)]⟩, some ⟨13, [Scene_T1 v4 6 7 8]⟩, some (lvI v4.pdState_Zones), some (lvI v4.pdState_Holder), some (lvI v4.pdState_Squibs)]) ((pad_scene_put_m_scx hrv5).ok nv5) (.of (by kernel_rfl)) R (.inl ⟨R, R, R⟩) R R R R ((.cons R R (.row R (.row R (.row R .nil))))) R R R ((.cons R (.row (.row (.row .nil))))) .nil R R R R ?_
  refine ev_endPD (by kernel_rfl) (then_norm ?_)
  exact .inl ⟨(v4.p_Zones, v4.p_Doors, v4.p_People, v4.p_Keys, v4.p_Squibs, v4.p_Panel, v4.p_Wait, v4.pdState_Now, v4.pdState_Zones, v4.pdState_Holder, v4.pdState_Squibs, v4.pdState_Siren, v4.pdState_Storm), h, .prn [5, 6, 7, 8] R⟩
 replace h := ifN c4 h
 by_cases c5 : a.kind = 4
 ·replace h := ifP c5 h
  refine r_ixD (4) (.d (.v (.func (.func 89) #[] #[]))) tb R R R R R c5 R R R R R (r_movR R R R (q_ldD (y := PdAct.d a) tb R ?_))
  obtain ⟨rv6, hrv6, h⟩ := bnd h
  rcases ex_or rv6 with ⟨x9, nv6⟩ | ⟨v5, nv6⟩
  ·replace h := (exN nv6).symm.trans h
   refine ev_panD (by kernel_rfl) (by kernel_rfl) ?_
   (with_reducible apply op_call [5, 6, 7, 8]); exact (pad_scene_give_m_scx hrv6).err nv6; exact rfl; exact .of (by kernel_rfl); exact rfl; exact .inl ⟨rfl, rfl, rfl⟩; (iterate 4 exact rfl); exact (.cons rfl rfl (.row rfl (.row rfl (.row rfl .nil)))); exact rfl
   intro cnt
   refine then_pan ?_
   obtain rfl := sI h
   exact ⟨_, ⟨[(6, .ref 3 6 0 0), (7, .ref 4 1 0 0)], [some ⟨7, [.d (PdPad.d p)]⟩, some ⟨6, [.d (PdState.d s)]⟩, some ⟨5, [.d (PdAct.d a)]⟩, some ⟨6, [.d (.agg [vI 0, .v (.slice none 0 0), .v (.slice none 0 0), .v (.slice none 0 0), vI 0, .v (.bool false)])]⟩, some ⟨1, [.d (vI 0)]⟩, none, none, none, none]⟩, [0, 1, 2, 3, 4, 5, 6, 7, 8], R, (vK (.cons R R (.cons R R (.cons R R (.cons R R (.cons R R (.gone R (.gone R (.gone R (.gone R .nil))))))))) R), pad_do_pn2 (F := F) x9 R⟩
  replace h := (exO nv6).symm.trans h
  refine r_callO (t' := .d (.tup [])) (ls := [some ⟨13, [Scene_T1 v5 1 2 3]⟩, some (lvI v5.pdState_Zones), some (lvI v5.pdState_Holder), some (lvI v5.pdState_Squibs)]) (news := []) ([5, 6, 7, 8]) ([some ⟨7, [.d (PdPad.d p)]⟩, some ⟨6, [.d (PdState.d s)]⟩, some ⟨5, [.d (PdAct.d a)]⟩, some ⟨6, [.d (.agg [vI 0, .v (.slice none 0 0), .v (.slice none 0 0), .v (.slice none 0 0), vI 0, .v (.bool false)])]⟩, some ⟨1, [.d (vI 0)]⟩, some ⟨13, [Scene_T1 v5 6 7 8]⟩, some (lvI v5.pdState_Zones), some (lvI v5.pdState_Holder), some (lvI v5.pdState_Squibs)]) ((pad_scene_give_m_scx hrv6).ok nv6) (.of (by kernel_rfl)) R (.inl ⟨R, R, R⟩) R R R R ((.cons R R (.row R (.row R (.row R .nil))))) R R R ((.cons R (.row (.row (.row .nil))))) .nil R R R R ?_
  refine ev_endPD (by kernel_rfl) (then_norm ?_)
  exact .inl ⟨(v5.p_Zones, v5.p_Doors, v5.p_People, v5.p_Keys, v5.p_Squibs, v5.p_Panel, v5.p_Wait, v5.pdState_Now, v5.pdState_Zones, v5.pdState_Holder, v5.pdState_Squibs, v5.pdState_Siren, v5.pdState_Storm), h, .prn [5, 6, 7, 8] R⟩
 replace h := ifN c5 h
 by_cases c6 : a.kind = 5
 ·replace h := ifP c6 h
  refine r_ixD (5) (.d (.v (.func (.func 90) #[] #[]))) tb R R R R R c6 R R R R R (r_movR R R R (q_ldD (y := PdAct.d a) tb R ?_))
  obtain ⟨rv7, hrv7, h⟩ := bnd h
  rcases ex_or rv7 with ⟨x11, nv7⟩ | ⟨v6, nv7⟩
  ·replace h := (exN nv7).symm.trans h
   refine ev_panD (by kernel_rfl) (by kernel_rfl) ?_
   (with_reducible apply op_call [5, 6, 7, 8]); exact (pad_scene_arm_m_scx hrv7).err nv7; exact rfl; exact .of (by kernel_rfl); exact rfl; exact .inl ⟨rfl, rfl, rfl⟩; (iterate 4 exact rfl); exact (.cons rfl rfl (.row rfl (.row rfl (.row rfl .nil)))); exact rfl
   intro cnt
   refine then_pan ?_
   obtain rfl := sI h
   exact ⟨_, ⟨[(6, .ref 3 6 0 0), (7, .ref 4 1 0 0)], [some ⟨7, [.d (PdPad.d p)]⟩, some ⟨6, [.d (PdState.d s)]⟩, some ⟨5, [.d (PdAct.d a)]⟩, some ⟨6, [.d (.agg [vI 0, .v (.slice none 0 0), .v (.slice none 0 0), .v (.slice none 0 0), vI 0, .v (.bool false)])]⟩, some ⟨1, [.d (vI 0)]⟩, none, none, none, none]⟩, [0, 1, 2, 3, 4, 5, 6, 7, 8], R, (vK (.cons R R (.cons R R (.cons R R (.cons R R (.cons R R (.gone R (.gone R (.gone R (.gone R .nil))))))))) R), pad_do_pn2 (F := F) x11 R⟩
  replace h := (exO nv7).symm.trans h
  refine r_callO (t' := .d (.tup [])) (ls := [some ⟨13, [Scene_T1 v6 1 2 3]⟩, some (lvI v6.pdState_Zones), some (lvI v6.pdState_Holder), some (lvI v6.pdState_Squibs)]) (news := []) ([5, 6, 7, 8]) ([some ⟨7, [.d (PdPad.d p)]⟩, some ⟨6, [.d (PdState.d s)]⟩, some ⟨5, [.d (PdAct.d a)]⟩, some ⟨6, [.d (.agg [vI 0, .v (.slice none 0 0), .v (.slice none 0 0), .v (.slice none 0 0), vI 0, .v (.bool false)])]⟩, some ⟨1, [.d (vI 0)]⟩, some ⟨13, [Scene_T1 v6 6 7 8]⟩, some (lvI v6.pdState_Zones), some (lvI v6.pdState_Holder), some (lvI v6.pdState_Squibs)]) ((pad_scene_arm_m_scx hrv7).ok nv7) (.of (by kernel_rfl)) R (.inl ⟨R, R, R⟩) R R R R ((.cons R R (.row R (.row R (.row R .nil))))) R R R ((.cons R (.row (.row (.row .nil))))) .nil R R R R ?_
  refine ev_endPD (by kernel_rfl) (then_norm ?_)
  exact .inl ⟨(v6.p_Zones, v6.p_Doors, v6.p_People, v6.p_Keys, v6.p_Squibs, v6.p_Panel, v6.p_Wait, v6.pdState_Now, v6.pdState_Zones, v6.pdState_Holder, v6.pdState_Squibs, v6.pdState_Siren, v6.pdState_Storm), h, .prn [5, 6, 7, 8] R⟩
 replace h := ifN c6 h
 by_cases c7 : a.kind = 6
 ·replace h := ifP c7 h
  refine r_ixD (6) (.d (.v (.func (.func 91) #[] #[]))) tb R R R R R c7 R R R R R (r_movR R R R (q_ldD (y := PdAct.d a) tb R ?_))
  obtain ⟨rv8, hrv8, h⟩ := bnd h
  rcases ex_or rv8 with ⟨x13, nv8⟩ | ⟨v7, nv8⟩
  ·replace h := (exN nv8).symm.trans h
   refine ev_panD (by kernel_rfl) (by kernel_rfl) ?_
   (with_reducible apply op_call [5, 6, 7, 8]); exact (pad_scene_disarm_m_scx hrv8).err nv8; exact rfl; exact .of (by kernel_rfl); exact rfl; exact .inl ⟨rfl, rfl, rfl⟩; (iterate 4 exact rfl); exact (.cons rfl rfl (.row rfl (.row rfl (.row rfl .nil)))); exact rfl
   intro cnt
   refine then_pan ?_
   obtain rfl := sI h
   exact ⟨_, ⟨[(6, .ref 3 6 0 0), (7, .ref 4 1 0 0)], [some ⟨7, [.d (PdPad.d p)]⟩, some ⟨6, [.d (PdState.d s)]⟩, some ⟨5, [.d (PdAct.d a)]⟩, some ⟨6, [.d (.agg [vI 0, .v (.slice none 0 0), .v (.slice none 0 0), .v (.slice none 0 0), vI 0, .v (.bool false)])]⟩, some ⟨1, [.d (vI 0)]⟩, none, none, none, none]⟩, [0, 1, 2, 3, 4, 5, 6, 7, 8], R, (vK (.cons R R (.cons R R (.cons R R (.cons R R (.cons R R (.gone R (.gone R (.gone R (.gone R .nil))))))))) R), pad_do_pn2 (F := F) x13 R⟩
  replace h := (exO nv8).symm.trans h
  refine r_callO (t' := .d (.tup [])) (ls := [some ⟨13, [Scene_T1 v7 1 2 3]⟩, some (lvI v7.pdState_Zones), some (lvI v7.pdState_Holder), some (lvI v7.pdState_Squibs)]) (news := []) ([5, 6, 7, 8]) ([some ⟨7, [.d (PdPad.d p)]⟩, some ⟨6, [.d (PdState.d s)]⟩, some ⟨5, [.d (PdAct.d a)]⟩, some ⟨6, [.d (.agg [vI 0, .v (.slice none 0 0), .v (.slice none 0 0), .v (.slice none 0 0), vI 0, .v (.bool false)])]⟩, some ⟨1, [.d (vI 0)]⟩, some ⟨13, [Scene_T1 v7 6 7 8]⟩, some (lvI v7.pdState_Zones), some (lvI v7.pdState_Holder), some (lvI v7.pdState_Squibs)]) ((pad_scene_disarm_m_scx hrv8).ok nv8) (.of (by kernel_rfl)) R (.inl ⟨R, R, R⟩) R R R R ((.cons R R (.row R (.row R (.row R .nil))))) R R R ((.cons R (.row (.row (.row .nil))))) .nil R R R R ?_
  refine ev_endPD (by kernel_rfl) (then_norm ?_)
  exact .inl ⟨(v7.p_Zones, v7.p_Doors, v7.p_People, v7.p_Keys, v7.p_Squibs, v7.p_Panel, v7.p_Wait, v7.pdState_Now, v7.pdState_Zones, v7.pdState_Holder, v7.pdState_Squibs, v7.pdState_Siren, v7.pdState_Storm), h, .prn [5, 6, 7, 8] R⟩
 replace h := ifN c7 h
 by_cases c8 : a.kind = 7
 ·replace h := ifP c8 h
  refine r_ixD (7) (.d (.v (.func (.func 92) #[] #[]))) tb R R R R R c8 R R R R R (r_movR R R R (q_ldD (y := PdAct.d a) tb R ?_))
  obtain ⟨rv9, hrv9, h⟩ := bnd h
  rcases ex_or rv9 with ⟨x15, nv9⟩ | ⟨v8, nv9⟩
  ·replace h := (exN nv9).symm.trans h
   refine ev_panD (by kernel_rfl) (by kernel_rfl) ?_
   (with_reducible apply op_call [5, 6, 7, 8]); exact (pad_scene_fire_m_scx hrv9).err nv9; exact rfl; exact .of (by kernel_rfl); exact rfl; exact .inl ⟨rfl, rfl, rfl⟩; (iterate 4 exact rfl); exact (.cons rfl rfl (.row rfl (.row rfl (.row rfl .nil)))); exact rfl
   intro cnt
   refine then_pan ?_
   obtain rfl := sI h
   exact ⟨_, ⟨[(6, .ref 3 6 0 0), (7, .ref 4 1 0 0)], [some ⟨7, [.d (PdPad.d p)]⟩, some ⟨6, [.d (PdState.d s)]⟩, some ⟨5, [.d (PdAct.d a)]⟩, some ⟨6, [.d (.agg [vI 0, .v (.slice none 0 0), .v (.slice none 0 0), .v (.slice none 0 0), vI 0, .v (.bool false)])]⟩, some ⟨1, [.d (vI 0)]⟩, none, none, none, none]⟩, [0, 1, 2, 3, 4, 5, 6, 7, 8], R, (vK (.cons R R (.cons R R (.cons R R (.cons R R (.cons R R (.gone R (.gone R (.gone R (.gone R .nil))))))))) R), pad_do_pn2 (F := F) x15 R⟩
  replace h := (exO nv9).symm.trans h
  refine r_callO (t' := .d (.tup [])) (ls := [some ⟨13, [Scene_T1 v8 1 2 3]⟩, some (lvI v8.pdState_Zones), some (lvI v8.pdState_Holder), some (lvI v8.pdState_Squibs)]) (news := []) ([5, 6, 7, 8]) ([some ⟨7, [.d (PdPad.d p)]⟩, some ⟨6, [.d (PdState.d s)]⟩, some ⟨5, [.d (PdAct.d a)]⟩, some ⟨6, [.d (.agg [vI 0, .v (.slice none 0 0), .v (.slice none 0 0), .v (.slice none 0 0), vI 0, .v (.bool false)])]⟩, some ⟨1, [.d (vI 0)]⟩, some ⟨13, [Scene_T1 v8 6 7 8]⟩, some (lvI v8.pdState_Zones), some (lvI v8.pdState_Holder), some (lvI v8.pdState_Squibs)]) ((pad_scene_fire_m_scx hrv9).ok nv9) (.of (by kernel_rfl)) R (.inl ⟨R, R, R⟩) R R R R ((.cons R R (.row R (.row R (.row R .nil))))) R R R ((.cons R (.row (.row (.row .nil))))) .nil R R R R ?_
  refine ev_endPD (by kernel_rfl) (then_norm ?_)
  exact .inl ⟨(v8.p_Zones, v8.p_Doors, v8.p_People, v8.p_Keys, v8.p_Squibs, v8.p_Panel, v8.p_Wait, v8.pdState_Now, v8.pdState_Zones, v8.pdState_Holder, v8.pdState_Squibs, v8.pdState_Siren, v8.pdState_Storm), h, .prn [5, 6, 7, 8] R⟩
 replace h := ifN c8 h
 by_cases c9 : a.kind = 8
 ·replace h := ifP c9 h
  refine r_ixD (8) (.d (.v (.func (.func 93) #[] #[]))) tb R R R R R c9 R R R R R (r_movR R R R (q_ldD (y := PdAct.d a) tb R ?_))
  obtain ⟨rv10, hrv10, h⟩ := bnd h
  rcases ex_or rv10 with ⟨x17, nv10⟩ | ⟨v9, nv10⟩
  ·replace h := (exN nv10).symm.trans h
   refine ev_panD (by kernel_rfl) (by kernel_rfl) ?_
   (with_reducible apply op_call [5, 6, 7, 8]); exact (pad_scene_siren_m_scx hrv10).err nv10; exact rfl; exact .of (by kernel_rfl); exact rfl; exact .inl ⟨rfl, rfl, rfl⟩; (iterate 4 exact rfl); exact (.cons rfl rfl (.row rfl (.row rfl (.row rfl .nil)))); exact rfl
   intro cnt
   refine then_pan ?_
   obtain rfl := sI h
   exact ⟨_, ⟨[(6, .ref 3 6 0 0), (7, .ref 4 1 0 0)], [some ⟨7, [.d (PdPad.d p)]⟩, some ⟨6, [.d (PdState.d s)]⟩, some ⟨5, [.d (PdAct.d a)]⟩, some ⟨6, [.d (.agg [vI 0, .v (.slice none 0 0), .v (.slice none 0 0), .v (.slice none 0 0), vI 0, .v (.bool false)])]⟩, some ⟨1, [.d (vI 0)]⟩, none, none, none, none]⟩, [0, 1, 2, 3, 4, 5, 6, 7, 8], R, (vK (.cons R R (.cons R R (.cons R R (.cons R R (.cons R R (.gone R (.gone R (.gone R (.gone R .nil))))))))) R), pad_do_pn2 (F := F) x17 R⟩
  replace h := (exO nv10).symm.trans h
  refine r_callO (t' := .d (.tup [])) (ls := [some ⟨13, [Scene_T1 v9 1 2 3]⟩, some (lvI v9.pdState_Zones), some (lvI v9.pdState_Holder), some (lvI v9.pdState_Squibs)]) (news := []) ([5, 6, 7, 8]) ([some ⟨7, [.d (PdPad.d p)]⟩, some ⟨6, [.d (PdState.d s)]⟩, some ⟨5, [.d (PdAct.d a)]⟩, some ⟨6, [.d (.agg [vI 0, .v (.slice none 0 0), .v (.slice none 0 0), .v (.slice none 0 0), vI 0, .v (.bool false)])]⟩, some ⟨1, [.d (vI 0)]⟩, some ⟨13, [Scene_T1 v9 6 7 8]⟩, some (lvI v9.pdState_Zones), some (lvI v9.pdState_Holder), some (lvI v9.pdState_Squibs)]) ((pad_scene_siren_m_scx hrv10).ok nv10) (.of (by kernel_rfl)) R (.inl ⟨R, R, R⟩) R R R R ((.cons R R (.row R (.row R (.row R .nil))))) R R R ((.cons R (.row (.row (.row .nil))))) .nil R R R R ?_
  refine ev_endPD (by kernel_rfl) (then_norm ?_)
  exact .inl ⟨(v9.p_Zones, v9.p_Doors, v9.p_People, v9.p_Keys, v9.p_Squibs, v9.p_Panel, v9.p_Wait, v9.pdState_Now, v9.pdState_Zones, v9.pdState_Holder, v9.pdState_Squibs, v9.pdState_Siren, v9.pdState_Storm), h, .prn [5, 6, 7, 8] R⟩
 replace h := ifN c9 h
 by_cases c10 : a.kind = 9
 ·replace h := ifP c10 h
  refine r_ixD (9) (.d (.v (.func (.func 94) #[] #[]))) tb R R R R R c10 R R R R R (r_movR R R R (q_ldD (y := PdAct.d a) tb R ?_))
  obtain ⟨rv11, hrv11, h⟩ := bnd h
  rcases ex_or rv11 with ⟨x19, nv11⟩ | ⟨v10, nv11⟩
  ·replace h := (exN nv11).symm.trans h
   refine ev_panD (by kernel_rfl) (by kernel_rfl) ?_
   (with_reducible apply op_call [5, 6, 7, 8]); exact (pad_scene_thunder_m_scx hrv11).err nv11; exact rfl; exact .of (by kernel_rfl); exact rfl; exact .inl ⟨rfl, rfl, rfl⟩; (iterate 4 exact rfl); exact (.cons rfl rfl (.row rfl (.row rfl (.row rfl .nil)))); exact rfl
   intro cnt
   refine then_pan ?_
   obtain rfl := sI h
   exact ⟨_, ⟨[(6, .ref 3 6 0 0), (7, .ref 4 1 0 0)], [some ⟨7, [.d (PdPad.d p)]⟩, some ⟨6, [.d (PdState.d s)]⟩, some ⟨5, [.d (PdAct.d a)]⟩, some ⟨6, [.d (.agg [vI 0, .v (.slice none 0 0), .v (.slice none 0 0), .v (.slice none 0 0), vI 0, .v (.bool false)])]⟩, some ⟨1, [.d (vI 0)]⟩, none, none, none, none]⟩, [0, 1, 2, 3, 4, 5, 6, 7, 8], R, (vK (.cons R R (.cons R R (.cons R R (.cons R R (.cons R R (.gone R (.gone R (.gone R (.gone R .nil))))))))) R), pad_do_pn2 (F := F) x19 R⟩
  replace h := (exO nv11).symm.trans h
  refine r_callO (t' := .d (.tup [])) (ls := [some ⟨13, [Scene_T1 v10 1 2 3]⟩, some (lvI v10.pdState_Zones), some (lvI v10.pdState_Holder), some (lvI v10.pdState_Squibs)]) (news := []) ([5, 6, 7, 8]) ([some ⟨7, [.d (PdPad.d p)]⟩, some ⟨6, [.d (PdState.d s)]⟩, some ⟨5, [.d (PdAct.d a)]⟩, some ⟨6, [.d (.agg [vI 0, .v (.slice none 0 0), .v (.slice none 0 0), .v (.slice none 0 0), vI 0, .v (.bool false)])]⟩, some ⟨1, [.d (vI 0)]⟩, some ⟨13, [Scene_T1 v10 6 7 8]⟩, some (lvI v10.pdState_Zones), some (lvI v10.pdState_Holder), some (lvI v10.pdState_Squibs)]) ((pad_scene_thunder_m_scx hrv11).ok nv11) (.of (by kernel_rfl)) R (.inl ⟨R, R, R⟩) R R R R ((.cons R R (.row R (.row R (.row R .nil))))) R R R ((.cons R (.row (.row (.row .nil))))) .nil R R R R ?_
  refine ev_endPD (by kernel_rfl) (then_norm ?_)
  exact .inl ⟨(v10.p_Zones, v10.p_Doors, v10.p_People, v10.p_Keys, v10.p_Squibs, v10.p_Panel, v10.p_Wait, v10.pdState_Now, v10.pdState_Zones, v10.pdState_Holder, v10.pdState_Squibs, v10.pdState_Siren, v10.pdState_Storm), h, .prn [5, 6, 7, 8] R⟩
 replace h := ifN c10 h
 cases h
theorem pad_do_pc {F : Nat} {p : PdPad} {s : PdState} {a : PdAct} {r : (PdState × Int)} (h : pad_do F p s a = some r) : PC Tryz.prog 25 [PdPad.d p, PdState.d s, PdAct.d a] (.tup [PdState.d r.1, .v (.int .i64 r.2)]) := (pad_do_scr h).toPC (.tupL (.cons (.aggL (.cons (.d _) (.cons (.row rfl rfl) (.cons (.row rfl rfl) (.cons (.row rfl rfl) (.cons (.d _) (.cons (.d _) .nil))))))) (.cons (.d _) .nil)))
def pad_CheckState (F : Nat) (p : PdPad) (s : PdState) : Option Int := Option.bind (pad_Check F p) fun rv => if rv.2.2 = 0 then (Option.bind (pad_stage F p s) fun rv2 => optE rv2 (none) (fun t => Option.bind (pad_scene_formed F t) fun rv3 => if rv3 = true then (Option.bind (pad_scene_sound F t) fun rv4 => if rv4 = true then (some 0) else (some 6)) else (some 6))) else (some rv.2.2)
theorem pad_CheckState_pc {F : Nat} {p : PdPad} {s : PdState} {r : Int} (h : pad_CheckState F p s = some r) : PC Tryz.prog 19 [PdPad.d p, PdState.d s] (.v (.int .i64 r)) := by
 rw [pad_CheckState] at h
 refine SC.of_sw Tryz.func19 R R R ?_
 dsimp only [argS, List.map]
 refine qG (q_box R (q_box R (q_asgD R (eN (sw_seq (qG (q_ldD (y := PdPad.d p) tb R ?_)))))))
 obtain ⟨rv, hrv, h⟩ := bnd h
 refine r_call (pad_Check_pc hrv) (.of (by kernel_rfl)) R R R R (q_movD R (r_extD (t := vI rv.1) R R R R (r_extD (t := vI rv.2.1) R R R R (r_extD (t := vI rv.2.2) R R R R (q_asgD R (q_asgD R (q_asgD R (eN (qG (q_movD R ?_))))))))))
 refine r_neq R R R R ?_ ?_
 ·intro c
  replace h := ifN c h
  refine eN (sw_condT R (qG (q_movD R (q_asgD R (eN (sw_ret (then_ret ?_)))))))
  obtain rfl := sI h
  exact f1 4 R
 intro c
 replace h := ifP c h
 refine eN (sw_condF R (sw_skip (then_norm (sw_seq (qG (q_ldD (y := PdPad.d p) tb R (q_ldD (y := PdState.d s) tb R ?_)))))))
 obtain ⟨rv2, hrv2, h⟩ := bnd h
 rcases Option.eq_none_or_eq_some rv2 with nv | ⟨t, nv⟩
 ·replace h := (optN nv).symm.trans h
  refine r_callO (t' := .d (.v (.pointer none))) (ls := []) (news := []) ([]) ([some ⟨7, [.d (PdPad.d p)]⟩, some ⟨6, [.d (PdState.d s)]⟩]) ((pad_stage_sco hrv2).none nv) (.of (by kernel_rfl)) R (.inl ⟨R, R, R⟩) R R R R .nil R R R .nil .nil R R R R ?_
  cases h
 replace h := (optS nv).symm.trans h
 refine r_callO (t' := .ref 2 13 0 0) (ls := []) (news := [⟨13, [Scene_T1 t 1 2 3]⟩, (lvI t.pdState_Zones), (lvI t.pdState_Holder), (lvI t.pdState_Squibs)]) ([]) ([some ⟨7, [.d (PdPad.d p)]⟩, some ⟨6, [.d (PdState.d s)]⟩, some ⟨13, [Scene_T1 t 3 4 5]⟩, some (lvI t.pdState_Zones), some (lvI t.pdState_Holder), some (lvI t.pdState_Squibs)]) ((pad_stage_sco hrv2).some nv) (.of (by kernel_rfl)) R (.inl ⟨R, R, R⟩) R R R R .nil R R R .nil ((.cons R (.row (.row (.row .nil))))) R R R R (r_asgR R R R (eN (qG (r_movR R R R ?_))))
 obtain ⟨rv3, hrv3, h⟩ := bnd h
 refine r_callLB (pad_scene_formed_pc hrv3) (.of (by kernel_rfl)) R R ((.cons (.ref R (.aggL (.cons (.d _) (.cons (.d _) (.cons (.d _) (.cons (.d _) (.cons (.d _) (.cons (.d _) (.cons (.d _) (.cons (.d _) (.cons (.row R R) (.cons (.row R R) (.cons (.row R R) (.cons (.d _) (.cons (.d _) .nil))))))))))))))) .nil)) R R ?_ ?_
 ·intro c2
  replace h := ifP c2 h
  refine r_notT R R R (q_movD R (r_movR R R R ?_))
  obtain ⟨rv4, hrv4, h⟩ := bnd h
  refine r_callLB (pad_scene_sound_pc hrv4) (.of (by kernel_rfl)) R R ((.cons (.ref R (.aggL (.cons (.d _) (.cons (.d _) (.cons (.d _) (.cons (.d _) (.cons (.d _) (.cons (.d _) (.cons (.d _) (.cons (.d _) (.cons (.row R R) (.cons (.row R R) (.cons (.row R R) (.cons (.d _) (.cons (.d _) .nil))))))))))))))) .nil)) R R ?_ ?_
  ·intro c3
   replace h := ifP c3 h
   refine r_notT R R R (q_pickF R (eN (sw_condF R (sw_skip (then_norm (qG (q_asgD R (eN (sw_ret ?_)))))))))
   obtain rfl := sI h
   exact f1 4 R
  intro c3
  replace h := ifF c3 h
  refine r_notF R R R (q_pickF R (eN (sw_condT R (qG (q_asgD R (eN (sw_ret (then_ret ?_))))))))
  obtain rfl := sI h
  exact f1 4 R
 intro c2
 replace h := ifF c2 h
 refine r_notF R R R (q_movD R (q_sk 3 R (q_pickT R (eN (sw_condT R (qG (q_asgD R (eN (sw_ret (then_ret ?_))))))))))
 obtain rfl := sI h
 exact f1 4 R
def pad_Play_J1 (F : Nat) (B4 : Int → (List Int) → (List Int) → (List Int) → Int → Bool → (List Int) → Int → Option (PdState × (List Int) × Int)) (x3 : Int) (y7 : Int) (y8 : (List Int)) (y9 : (List Int)) (y10 : (List Int)) (y11 : Int) (y12 : Bool) (lv2 : (List Int)) : Option (PdState × (List Int) × Int) := B4 y7 y8 y9 y10 y11 y12 lv2 (W (x3 + 1))
def pad_Play_J2 (F : Nat) (B4 : Int → (List Int) → (List Int) → (List Int) → Int → Bool → (List Int) → Int → Option (PdState × (List Int) × Int)) (lv : (List Int)) (x3 : Int) (rv4 : (PdState × Int)) (y7 : Int) (y8 : (List Int)) (y9 : (List Int)) (y10 : (List Int)) (y11 : Int) (y12 : Bool) : Option (PdState × (List Int) × Int) := Option.bind (appO lv [rv4.2]) fun q => pad_Play_J1 F B4 x3 y7 y8 y9 y10 y11 y12 q
def pad_Play_L1 (F : Nat) (t : PdPad) (a : (List PdAct)) (K : Int → (List Int) → (List Int) → (List Int) → Int → Bool → (List Int) → Int → Option (PdState × (List Int) × Int)) : Nat → Int → (List Int) → (List Int) → (List Int) → Int → Bool → (List Int) → Int → Option (PdState × (List Int) × Int)
 | 0, _, _, _, _, _, _, _, _ => none
 | n + 1, y, y2, y3, y4, y5, y6, lv, x3 => if x3 < (a.length : Int) then (Option.bind (ixO a x3) fun e2 => Option.bind (pad_do F t (PdState.mk y y2 y3 y4 y5 y6) e2) fun rv4 => if rv4.2 = 0 then (pad_Play_J2 F (pad_Play_L1 F t a K n) lv x3 rv4 rv4.1.now rv4.1.zones rv4.1.holder rv4.1.squibs rv4.1.siren rv4.1.storm) else (pad_Play_J2 F (pad_Play_L1 F t a K n) lv x3 rv4 y y2 y3 y4 y5 y6)) else (K y y2 y3 y4 y5 y6 lv x3)
def pad_Play_L2 (F : Nat) (t : PdPad) (a : (List PdAct)) (K : Int → Int → Option (PdState × (List Int) × Int)) : Nat → Int → Int → Option (PdState × (List Int) × Int)
 | 0, _, _ => none
 | n + 1, x, x2 => if x2 < (a.length : Int) then (Option.bind (ixO a x2) fun e => Option.bind (pad_act F t e) fun rv2 => if rv2 = 0 then (pad_Play_L2 F t a K n rv2 (W (x2 + 1))) else (some ((PdState.mk 0 ([] : List Int) ([] : List Int) ([] : List Int) 0 false), ([] : List Int), rv2))) else (K x x2)
def pad_Play (F : Nat) (t : PdPad) (o : PdState) (a : (List PdAct)) : Option (PdState × (List Int) × Int) := Option.bind (pad_CheckState F t o) fun rv => if rv = 0 then (if 60 < (a.length : Int) then (some ((PdState.mk 0 ([] : List Int) ([] : List Int) ([] : List Int) 0 false), ([] : List Int), 3)) else (pad_Play_L2 F t a (fun (x : Int) (x2 : Int) => Option.bind (pad_stage F t o) fun rv3 => optE rv3 (none) (fun t2 => pad_Play_L1 F t a (fun (y : Int) (y2 : (List Int)) (y3 : (List Int)) (y4 : (List Int)) (y5 : Int) (y6 : Bool) (lv : (List Int)) (x3 : Int) => some ((PdState.mk y y2 y3 y4 y5 y6), lv, 0)) F t2.pdState_Now t2.pdState_Zones t2.pdState_Holder t2.pdState_Squibs t2.pdState_Siren t2.pdState_Storm ([] : List Int) 0)) F rv 0)) else (some ((PdState.mk 0 ([] : List Int) ([] : List Int) ([] : List Int) 0 false), ([] : List Int), rv))
theorem pad_Play_scr {F : Nat} {t : PdPad} {o : PdState} {a : (List PdAct)} {r : (PdState × (List Int) × Int)} (h : pad_Play F t o a = some r) : SCR Tryz.prog 7 (List.map T.d [PdPad.d t, PdState.d o, .arr 5 ((a).map PdAct.d)]) [] (.tup [PdState_T1 r.1 0 1 2, .row 3 1 0 (r.2.1).length, .d (.v (.int .i64 r.2.2))]) (List.map some [(lvI r.1.zones), (lvI r.1.holder), (lvI r.1.squibs), (lvI r.2.1)]) := by
 rw [pad_Play] at h
 refine SC.of_sw Tryz.func7 R R R ?_
 dsimp only [argS, List.map]
 refine qG (q_box R (q_box R (r_alloc tb R R R R R (q_asgD R (q_asgD R (eN (sw_seq (qG (q_ldD (y := PdPad.d t) tb R (q_ldD (y := PdState.d o) tb R ?_))))))))))
 obtain ⟨rv, hrv, h⟩ := bnd h
 refine r_call (pad_CheckState_pc hrv) (.of (by kernel_rfl)) R R R R (q_asgD R (eN (qG (q_movD R ?_))))
 refine r_neq R R R R ?_ ?_
 ·intro c
  replace h := ifN c h
  refine eN (sw_condT R (qG (r_build (v := .d (.agg [vI 0, .v (.slice none 0 0), .v (.slice none 0 0), .v (.slice none 0 0), vI 0, .v (.bool false)])) tb R R (List.cons_ne_nil _ _) R R R R R R (q_movD R (q_stE _ _ tb R (q_asgD R (q_asgD R (eN ?_))))))))
  refine SW.own (ts' := [(6, .ref 2 6 0 0), (7, .d (.v (.slice none 0 0))), (8, .d (vI rv))]) (L' := [some ⟨7, [.d (PdPad.d t)]⟩, some ⟨6, [.d (PdState.d o)]⟩, some ⟨6, [.agg [.d (vI 0), .row 3 1 0 (([] : List Int)).length, .d (.v (.slice none 0 0)), .d (.v (.slice none 0 0)), .d (vI 0), .d (.v (.bool false))]]⟩]) 1 R R (.cons (.same _) (.cons (.same _) (.cons (.same _) .nil))) (.same (.same (.cons R (.cons (.aggDL (.cons (.same _) (.cons .nil (.cons (.same _) (.cons (.same _) (.cons (.same _) (.cons (.same _) .nil))))))) .nil) .nil))) ?_
  simp only [List.cons_append, List.nil_append]
  refine SW.own (ts' := [(6, .ref 2 6 0 0), (7, .d (.v (.slice none 0 0))), (8, .d (vI rv))]) (L' := [some ⟨7, [.d (PdPad.d t)]⟩, some ⟨6, [.d (PdState.d o)]⟩, some ⟨6, [.agg [.d (vI 0), .row 3 1 0 (([] : List Int)).length, .row 4 1 0 (([] : List Int)).length, .d (.v (.slice none 0 0)), .d (vI 0), .d (.v (.bool false))]]⟩, some (lvI ([] : List Int))]) 1 R R (.cons (.same _) (.cons (.same _) (.cons (.same _) .nil))) (.same (.same (.cons R (.cons (.aggL (.cons (.same _) (.cons (.same _) (.cons .nil (.cons (.same _) (.cons (.same _) (.cons (.same _) .nil))))))) .nil) (.same .nil)))) ?_
  simp only [List.cons_append, List.nil_append]
  refine SW.own (ts' := [(6, .ref 2 6 0 0), (7, .d (.v (.slice none 0 0))), (8, .d (vI rv))]) (L' := [some ⟨7, [.d (PdPad.d t)]⟩, some ⟨6, [.d (PdState.d o)]⟩, some ⟨6, [PdState_T1 (PdState.mk 0 ([] : List Int) ([] : List Int) ([] : List Int) 0 false) 3 4 5]⟩, some (lvI ([] : List Int)), some (lvI ([] : List Int))]) 1 R R (.cons (.same _) (.cons (.same _) (.cons (.same _) .nil))) (.same (.same (.cons R (.cons (.aggL (.cons (.same _) (.cons (.same _) (.cons (.same _) (.cons .nil (.cons (.same _) (.cons (.same _) .nil))))))) .nil) (.same (.same .nil))))) ?_
  simp only [List.cons_append, List.nil_append]
  refine SW.own (ts' := [(6, .ref 2 6 0 0), (7, .row 6 1 0 (([] : List Int)).length), (8, .d (vI rv))]) (L' := [some ⟨7, [.d (PdPad.d t)]⟩, some ⟨6, [.d (PdState.d o)]⟩, some ⟨6, [PdState_T1 (PdState.mk 0 ([] : List Int) ([] : List Int) ([] : List Int) 0 false) 3 4 5]⟩, some (lvI ([] : List Int)), some (lvI ([] : List Int)), some (lvI ([] : List Int))]) 1 R R (.cons (.same _) (.cons .nil (.cons (.same _) .nil))) (.same (.same (.same (.same (.same (.same .nil)))))) ?_
  simp only [List.cons_append, List.nil_append]
  refine sw_ret (then_ret ?_)
  obtain rfl := sI h
  exact f2 [3, 4, 5, 6] (.row R (.row R (.row R (.row R .nil)))) R (.cons (rc tb R) (.cons (.tmp 7) (.cons (.tmp 8) .nil))) R
 intro c
 replace h := ifP c h
 refine eN (sw_condF R (sw_skip (then_norm (sw_seq (qG (q_movD R (q_lenM tb R ?_)))))))
 refine r_gtr R R R R ?_ ?_
 ·intro c2
  replace h := ifP c2 h
  refine eN (sw_condT R (qG (r_build (v := .d (.agg [vI 0, .v (.slice none 0 0), .v (.slice none 0 0), .v (.slice none 0 0), vI 0, .v (.bool false)])) tb R R (List.cons_ne_nil _ _) R R R R R R (q_stE _ _ tb R (q_asgD R (q_asgD R (eN ?_)))))))
  refine SW.own (ts' := [(6, .ref 2 6 0 0), (7, .d (.v (.slice none 0 0))), (8, .d (vI 3))]) (L' := [some ⟨7, [.d (PdPad.d t)]⟩, some ⟨6, [.d (PdState.d o)]⟩, some ⟨6, [.agg [.d (vI 0), .row 3 1 0 (([] : List Int)).length, .d (.v (.slice none 0 0)), .d (.v (.slice none 0 0)), .d (vI 0), .d (.v (.bool false))]]⟩]) 1 R R (.cons (.same _) (.cons (.same _) (.cons (.same _) .nil))) (.same (.same (.cons R (.cons (.aggDL (.cons (.same _) (.cons .nil (.cons (.same _) (.cons (.same _) (.cons (.same _) (.cons (.same _) .nil))))))) .nil) .nil))) ?_
  simp only [List.cons_append, List.nil_append]
  refine SW.own (ts' := [(6, .ref 2 6 0 0), (7, .d (.v (.slice none 0 0))), (8, .d (vI 3))]) (L' := [some ⟨7, [.d (PdPad.d t)]⟩, some ⟨6, [.d (PdState.d o)]⟩, some ⟨6, [.agg [.d (vI 0), .row 3 1 0 (([] : List Int)).length, .row 4 1 0 (([] : List Int)).length, .d (.v (.slice none 0 0)), .d (vI 0), .d (.v (.bool false))]]⟩, some (lvI ([] : List Int))]) 1 R R (.cons (.same _) (.cons (.same _) (.cons (.same _) .nil))) (.same (.same (.cons R (.cons (.aggL (.cons (.same _) (.cons (.same _) (.cons .nil (.cons (.same _) (.cons (.same _) (.cons (.same _) .nil))))))) .nil) (.same .nil)))) ?_
  simp only [List.cons_append, List.nil_append]
  refine SW.own (ts' := [(6, .ref 2 6 0 0), (7, .d (.v (.slice none 0 0))), (8, .d (vI 3))]) (L' := [some ⟨7, [.d (PdPad.d t)]⟩, some ⟨6, [.d (PdState.d o)]⟩, some ⟨6, [PdState_T1 (PdState.mk 0 ([] : List Int) ([] : List Int) ([] : List Int) 0 false) 3 4 5]⟩, some (lvI ([] : List Int)), some (lvI ([] : List Int))]) 1 R R (.cons (.same _) (.cons (.same _) (.cons (.same _) .nil))) (.same (.same (.cons R (.cons (.aggL (.cons (.same _) (.cons (.same _) (.cons (.same _) (.cons .nil (.cons (.same _) (.cons (.same _) .nil))))))) .nil) (.same (.same .nil))))) ?_
  simp only [List.cons_append, List.nil_append]
  refine SW.own (ts' := [(6, .ref 2 6 0 0), (7, .row 6 1 0 (([] : List Int)).length), (8, .d (vI 3))]) (L' := [some ⟨7, [.d (PdPad.d t)]⟩, some ⟨6, [.d (PdState.d o)]⟩, some ⟨6, [PdState_T1 (PdState.mk 0 ([] : List Int) ([] : List Int) ([] : List Int) 0 false) 3 4 5]⟩, some (lvI ([] : List Int)), some (lvI ([] : List Int)), some (lvI ([] : List Int))]) 1 R R (.cons (.same _) (.cons .nil (.cons (.same _) .nil))) (.same (.same (.same (.same (.same (.same .nil)))))) ?_
  simp only [List.cons_append, List.nil_append]
  refine sw_ret (then_ret ?_)
  obtain rfl := sI h
  exact f2 [3, 4, 5, 6] (.row R (.row R (.row R (.row R .nil)))) R (.cons (rc tb R) (.cons (.tmp 7) (.cons (.tmp 8) .nil))) R
 intro c2
 replace h := ifN (Int.not_lt.2 c2) h
 refine eN (sw_condF R (sw_skip (then_norm (sw_seq (qG (q_movD R (q_lenM tb R (q_movD R (eN (sw_block ?_))))))))))
 obtain ⟨K2, hK2, h⟩ : ∃ K, K = _ ∧ pad_Play_L2 F t a K F rv 0 = some r := ⟨_, rfl, h⟩
 refine sw_loopS (fun m st => ∃ (x : Int) (x2 : Int), pad_Play_L2 F t a K2 m x x2 = some r ∧ st = ⟨[(2, .d (.arr 5 ((a).map PdAct.d))), (3, .ref 0 7 0 0), (4, .ref 1 6 0 0), (6, .ref 2 6 0 0), (7, .d (.v (.slice none 0 0))), (8, .d (vI x)), (26, .d (.arr 5 ((a).map PdAct.d))), (27, .d (vI (a.length : Int))), (28, .d (vI x2))], [some ⟨7, [.d (PdPad.d t)]⟩, some ⟨6, [.d (PdState.d o)]⟩, some ⟨6, [.d (.agg [vI 0, .v (.slice none 0 0), .v (.slice none 0 0), .v (.slice none 0 0), vI 0, .v (.bool false)])]⟩]⟩) (.prn [2, 3, 4, 6, 7, 8, 26, 27, 28] R) ⟨rv, 0, h, R⟩ ?_
 clear h
 rintro m2 st ⟨x, x2, h, rfl⟩
 cases m2 with
 | zero => cases (show (none : Option (PdState × (List Int) × Int)) = some r from h)
 | succ m2 =>
 rw [pad_Play_L2] at h
 refine qG ?_
 refine r_lss R R R R ?_ ?_
 ·intro c3
  replace h := ifP c3 h
  refine eN (sw_seq (sw_condT R (sw_skip (then_norm (sw_seq (sw_block (qG ?_)))))))
  obtain ⟨e, ie, h⟩ := bnd h
  refine q_ixE tb (ix0 ie) (ix1m ie) R (q_ldE (y := PdAct.d e) tb (ix2 (g := PdAct.d) ie) R (r_alloc tb R R R R R (q_stE _ _ tb R (eN (qG (q_ldD (y := PdPad.d t) tb R (q_ldD (y := PdAct.d e) tb R ?_)))))))
  obtain ⟨rv2, hrv2, h⟩ := bnd h
  refine r_call (pad_act_pc hrv2) (.of (by kernel_rfl)) R R R R (q_asgD R (eN (qG (q_movD R ?_))))
  refine r_neq R R R R ?_ ?_
  ·intro c4
   replace h := ifN c4 h
   refine eN (sw_condT R (qG (r_build (v := .d (.agg [vI 0, .v (.slice none 0 0), .v (.slice none 0 0), .v (.slice none 0 0), vI 0, .v (.bool false)])) tb R R (List.cons_ne_nil _ _) R R R R R R (q_movD R (q_stE _ _ tb R (q_asgD R (q_asgD R (eN ?_))))))))
   refine SW.own (ts' := [(6, .ref 2 6 0 0), (7, .d (.v (.slice none 0 0))), (8, .d (vI rv2))]) (L' := [some ⟨7, [.d (PdPad.d t)]⟩, some ⟨6, [.d (PdState.d o)]⟩, some ⟨6, [.agg [.d (vI 0), .row 4 1 0 (([] : List Int)).length, .d (.v (.slice none 0 0)), .d (.v (.slice none 0 0)), .d (vI 0), .d (.v (.bool false))]]⟩, some ⟨5, [.d (PdAct.d e)]⟩]) 1 R R (.cons (.same _) (.cons (.same _) (.cons (.same _) .nil))) (.same (.same (.cons R (.cons (.aggDL (.cons (.same _) (.cons .nil (.cons (.same _) (.cons (.same _) (.cons (.same _) (.cons (.same _) .nil))))))) .nil) (.same .nil)))) ?_
   simp only [List.cons_append, List.nil_append]
   refine SW.own (ts' := [(6, .ref 2 6 0 0), (7, .d (.v (.slice none 0 0))), (8, .d (vI rv2))]) (L' := [some ⟨7, [.d (PdPad.d t)]⟩, some ⟨6, [.d (PdState.d o)]⟩, some ⟨6, [.agg [.d (vI 0), .row 4 1 0 (([] : List Int)).length, .row 5 1 0 (([] : List Int)).length, .d (.v (.slice none 0 0)), .d (vI 0), .d (.v (.bool false))]]⟩, some ⟨5, [.d (PdAct.d e)]⟩, some (lvI ([] : List Int))]) 1 R R (.cons (.same _) (.cons (.same _) (.cons (.same _) .nil))) (.same (.same (.cons R (.cons (.aggL (.cons (.same _) (.cons (.same _) (.cons .nil (.cons (.same _) (.cons (.same _) (.cons (.same _) .nil))))))) .nil) (.same (.same .nil))))) ?_
   simp only [List.cons_append, List.nil_append]
   refine SW.own (ts' := [(6, .ref 2 6 0 0), (7, .d (.v (.slice none 0 0))), (8, .d (vI rv2))]) (L' := [some ⟨7, [.d (PdPad.d t)]⟩, some ⟨6, [.d (PdState.d o)]⟩, some ⟨6, [PdState_T1 (PdState.mk 0 ([] : List Int) ([] : List Int) ([] : List Int) 0 false) 4 5 6]⟩, some ⟨5, [.d (PdAct.d e)]⟩, some (lvI ([] : List Int)), some (lvI ([] : List Int))]) 1 R R (.cons (.same _) (.cons (.same _) (.cons (.same _) .nil))) (.same (.same (.cons R (.cons (.aggL (.cons (.same _) (.cons (.same _) (.cons (.same _) (.cons .nil (.cons (.same _) (.cons (.same _) .nil))))))) .nil) (.same (.same (.same .nil)))))) ?_
   simp only [List.cons_append, List.nil_append]
   refine SW.own (ts' := [(6, .ref 2 6 0 0), (7, .row 7 1 0 (([] : List Int)).length), (8, .d (vI rv2))]) (L' := [some ⟨7, [.d (PdPad.d t)]⟩, some ⟨6, [.d (PdState.d o)]⟩, some ⟨6, [PdState_T1 (PdState.mk 0 ([] : List Int) ([] : List Int) ([] : List Int) 0 false) 4 5 6]⟩, some ⟨5, [.d (PdAct.d e)]⟩, some (lvI ([] : List Int)), some (lvI ([] : List Int)), some (lvI ([] : List Int))]) 1 R R (.cons (.same _) (.cons .nil (.cons (.same _) .nil))) (.same (.same (.same (.same (.same (.same (.same .nil))))))) ?_
   simp only [List.cons_append, List.nil_append]
   refine sw_ret (block_ret (then_ret (then_ret (block_ret (then_ret ?_)))))
   obtain rfl := sI h
   exact f2 [4, 5, 6, 7] (.row R (.row R (.row R (.row R .nil)))) R (.cons (rc tb R) (.cons (.tmp 7) (.cons (.tmp 8) .nil))) R
  intro c4
  replace h := ifP c4 h
  refine eN (sw_condF R (sw_skip (block_norm (then_norm (sw_rg (q_add R (q_movD R (eN ?_))))))))
  exact ⟨m2, ⟨[(2, .d (.arr 5 ((a).map PdAct.d))), (3, .ref 0 7 0 0), (4, .ref 1 6 0 0), (6, .ref 2 6 0 0), (7, .d (.v (.slice none 0 0))), (8, .d (vI rv2)), (26, .d (.arr 5 ((a).map PdAct.d))), (27, .d (vI (a.length : Int))), (28, .d (vI (W (x2 + 1))))], [some ⟨7, [.d (PdPad.d t)]⟩, some ⟨6, [.d (PdState.d o)]⟩, some ⟨6, [.d (.agg [vI 0, .v (.slice none 0 0), .v (.slice none 0 0), .v (.slice none 0 0), vI 0, .v (.bool false)])]⟩]⟩, Nat.lt_succ_self _, .vw (κ := [0, 1, 2]) (vK (.cons R R (.cons R R (.cons R R .nil))) R), rv2, (W (x2 + 1)), h, R⟩
 intro c3
 replace h := ifN (Int.not_lt.2 c3) h
 refine eN (sw_seq (sw_condF R (sw_exit (then_exit (then_exit ?_)))))
 subst hK2
 refine block_exit (then_norm (qG (q_ldD (y := PdPad.d t) tb R (q_ldD (y := PdState.d o) tb R ?_))))
 obtain ⟨rv3, hrv3, h⟩ := bnd h
 rcases Option.eq_none_or_eq_some rv3 with nv | ⟨t2, nv⟩
 ·replace h := (optN nv).symm.trans h
  refine r_callO (t' := .d (.v (.pointer none))) (ls := []) (news := []) ([]) ([some ⟨7, [.d (PdPad.d t)]⟩, some ⟨6, [.d (PdState.d o)]⟩, some ⟨6, [.d (.agg [vI 0, .v (.slice none 0 0), .v (.slice none 0 0), .v (.slice none 0 0), vI 0, .v (.bool false)])]⟩]) ((pad_stage_sco hrv3).none nv) (.of (by kernel_rfl)) R (.inl ⟨R, R, R⟩) R R R R .nil R R R .nil .nil R R R R ?_
  cases h
 replace h := (optS nv).symm.trans h
 refine r_callO (t' := .ref 3 13 0 0) (ls := []) (news := [⟨13, [Scene_T1 t2 1 2 3]⟩, (lvI t2.pdState_Zones), (lvI t2.pdState_Holder), (lvI t2.pdState_Squibs)]) ([]) ([some ⟨7, [.d (PdPad.d t)]⟩, some ⟨6, [.d (PdState.d o)]⟩, some ⟨6, [.d (.agg [vI 0, .v (.slice none 0 0), .v (.slice none 0 0), .v (.slice none 0 0), vI 0, .v (.bool false)])]⟩, some ⟨13, [Scene_T1 t2 4 5 6]⟩, some (lvI t2.pdState_Zones), some (lvI t2.pdState_Holder), some (lvI t2.pdState_Squibs)]) ((pad_stage_sco hrv3).some nv) (.of (by kernel_rfl)) R (.inl ⟨R, R, R⟩) R R R R .nil R R R .nil ((.cons R (.row (.row (.row .nil))))) R R R R ?_
 refine r_nilRef R R R (q_fa tb R (r_ldG tb R R R R R R R R R (q_stE _ _ tb R (eN (sw_seq (qG (q_movD R (q_lenM tb R (q_movD R (eN (sw_block ?_)))))))))))
 refine SW.own (ts' := [(3, .ref 0 7 0 0), (6, .ref 2 6 0 0), (7, .row 7 1 0 (([] : List Int)).length), (8, .d (vI x)), (46, .d (.arr 5 ((a).map PdAct.d))), (47, .d (vI (a.length : Int))), (48, .d (vI 0))]) (L' := [some ⟨7, [.d (PdPad.d t)]⟩, some ⟨6, [.d (PdState.d o)]⟩, some ⟨6, [PdState_T1 (PdState.mk t2.pdState_Now t2.pdState_Zones t2.pdState_Holder t2.pdState_Squibs t2.pdState_Siren t2.pdState_Storm) 4 5 6]⟩, some ⟨13, [Scene_T1 t2 4 5 6]⟩, some (lvI t2.pdState_Zones), some (lvI t2.pdState_Holder), some (lvI t2.pdState_Squibs)]) 1 R R (.cons (.same _) (.cons (.same _) (.cons .nil (.cons (.same _) (.cons (.same _) (.cons (.same _) (.cons (.same _) .nil))))))) (.same (.same (.same (.same (.same (.same (.same .nil))))))) ?_
 simp only [List.cons_append, List.nil_append]
 obtain ⟨K4, hK4, h⟩ : ∃ K, K = _ ∧ pad_Play_L1 F t a K F t2.pdState_Now t2.pdState_Zones t2.pdState_Holder t2.pdState_Squibs t2.pdState_Siren t2.pdState_Storm ([] : List Int) 0 = some r := ⟨_, rfl, h⟩
 refine sw_loopS (st0 := ⟨[(3, .ref 0 7 0 0), (6, .ref 1 6 0 0), (7, .row 5 1 0 (([] : List Int)).length), (8, .d (vI x)), (46, .d (.arr 5 ((a).map PdAct.d))), (47, .d (vI (a.length : Int))), (48, .d (vI 0))], [some ⟨7, [.d (PdPad.d t)]⟩, some ⟨6, [PdState_T1 (PdState.mk t2.pdState_Now t2.pdState_Zones t2.pdState_Holder t2.pdState_Squibs t2.pdState_Siren t2.pdState_Storm) 2 3 4]⟩, some (lvI t2.pdState_Zones), some (lvI t2.pdState_Holder), some (lvI t2.pdState_Squibs), some (lvI ([] : List Int))]⟩) (fun m st => ∃ (y : Int) (y2 : (List Int)) (y3 : (List Int)) (y4 : (List Int)) (y5 : Int) (y6 : Bool) (lv : (List Int)) (x3 : Int), pad_Play_L1 F t a K4 m y y2 y3 y4 y5 y6 lv x3 = some r ∧ st = ⟨[(3, .ref 0 7 0 0), (6, .ref 1 6 0 0), (7, .row 5 1 0 (lv).length), (8, .d (vI x)), (46, .d (.arr 5 ((a).map PdAct.d))), (47, .d (vI (a.length : Int))), (48, .d (vI x3))], [some ⟨7, [.d (PdPad.d t)]⟩, some ⟨6, [PdState_T1 (PdState.mk y y2 y3 y4 y5 y6) 2 3 4]⟩, some (lvI y2), some (lvI y3), some (lvI y4), some (lvI lv)]⟩) (.vw (κ := [0, 2, 4, 5, 6, 7]) (vK (.cons R R (.cons R R (.row R (.row R (.row R (.row R .nil)))))) R)) ⟨t2.pdState_Now, t2.pdState_Zones, t2.pdState_Holder, t2.pdState_Squibs, t2.pdState_Siren, t2.pdState_Storm, ([] : List Int), 0, h, R⟩ ?_
 clear h
 rintro m4 st ⟨y, y2, y3, y4, y5, y6, lv, x3, h, rfl⟩
 cases m4 with
 | zero => cases (show (none : Option (PdState × (List Int) × Int)) = some r from h)
 | succ m4 =>
 rw [pad_Play_L1] at h
 refine qG ?_
 refine r_lss R R R R ?_ ?_
 ·intro c5
  replace h := ifP c5 h
  refine eN (sw_seq (sw_condT R (sw_skip (then_norm (sw_seq ?_)))))
  refine sw_join (fun zz : Int × (List Int) × (List Int) × (List Int) × Int × Bool × (List Int) => pad_Play_J1 F (pad_Play_L1 F t a K4 m4) x3 zz.1 zz.2.1 zz.2.2.1 zz.2.2.2.1 zz.2.2.2.2.1 zz.2.2.2.2.2.1 zz.2.2.2.2.2.2 = some r) (fun zz : Int × (List Int) × (List Int) × (List Int) × Int × Bool × (List Int) => ⟨[(3, .ref 0 7 0 0), (6, .ref 1 6 0 0), (7, .row 5 1 0 (zz.2.2.2.2.2.2).length), (8, .d (vI x)), (46, .d (.arr 5 ((a).map PdAct.d))), (47, .d (vI (a.length : Int))), (48, .d (vI x3))], [some ⟨7, [.d (PdPad.d t)]⟩, some ⟨6, [PdState_T1 (PdState.mk zz.1 zz.2.1 zz.2.2.1 zz.2.2.2.1 zz.2.2.2.2.1 zz.2.2.2.2.2.1) 2 3 4]⟩, some (lvI zz.2.1), some (lvI zz.2.2.1), some (lvI zz.2.2.2.1), some (lvI zz.2.2.2.2.2.2)]⟩) ?_ ?_
  ·clear h
   rintro ⟨y7, y8, y9, y10, y11, y12, lv2⟩ h
   dsimp only at h ⊢
   rw [pad_Play_J1] at h
   refine sw_rg (q_add R (q_movD R (eN ?_)))
   exact ⟨m4, _, Nat.lt_succ_self _, .prn [3, 6, 7, 8, 46, 47, 48] R, y7, y8, y9, y10, y11, y12, lv2, (W (x3 + 1)), h, R⟩
  refine sw_block (qG ?_)
  obtain ⟨e2, ie2, h⟩ := bnd h
  refine q_ixE tb (ix0 ie2) (ix1m ie2) R (q_ldE (y := PdAct.d e2) tb (ix2 (g := PdAct.d) ie2) R (r_alloc tb R R R R R (q_stE _ _ tb R (eN (qG (q_ldD (y := PdPad.d t) tb R (r_ldG tb R R R R R R R R R (q_ldD (y := PdAct.d e2) tb R ?_))))))))
  obtain ⟨rv4, hrv4, h⟩ := bnd h
  refine r_callLN (t' := .tup [PdState_T1 rv4.1 7 8 9, .d (vI rv4.2)]) (news' := [(lvI rv4.1.zones), (lvI rv4.1.holder), (lvI rv4.1.squibs)]) (pad_do_scr hrv4) R ((.row (fun _ => rfl) (.row (fun _ => rfl) (.row (fun _ => rfl) .nil)))) (.of (by kernel_rfl)) R R ((.cons (.d _) (.cons (.aggL (.cons (.d _) (.cons (.row R R) (.cons (.row R R) (.cons (.row R R) (.cons (.d _) (.cons (.d _) .nil))))))) (.cons (.d _) .nil)))) R ((.row (.row (.row .nil)))) R R R ?_
  refine r_movT (.tup [PdState_T1 rv4.1 7 8 9, .d (vI rv4.2)]) R R R (r_ext (t := PdState_T1 rv4.1 7 8 9) R R R R (r_ext (t := .d (vI rv4.2)) R R R R (r_alloc tb R R R R R (q_stE _ _ tb R (q_asgD R (eN (sw_seq ?_)))))))
  refine sw_join (fun zz : Int × (List Int) × (List Int) × (List Int) × Int × Bool => pad_Play_J2 F (pad_Play_L1 F t a K4 m4) lv x3 rv4 zz.1 zz.2.1 zz.2.2.1 zz.2.2.2.1 zz.2.2.2.2.1 zz.2.2.2.2.2 = some r) (fun zz : Int × (List Int) × (List Int) × (List Int) × Int × Bool => ⟨[(3, .ref 0 7 0 0), (6, .ref 1 6 0 0), (7, .row 5 1 0 (lv).length), (8, .d (vI x)), (14, .d (vI rv4.2)), (46, .d (.arr 5 ((a).map PdAct.d))), (47, .d (vI (a.length : Int))), (48, .d (vI x3))], [some ⟨7, [.d (PdPad.d t)]⟩, some ⟨6, [PdState_T1 (PdState.mk zz.1 zz.2.1 zz.2.2.1 zz.2.2.2.1 zz.2.2.2.2.1 zz.2.2.2.2.2) 2 3 4]⟩, some (lvI zz.2.1), some (lvI zz.2.2.1), some (lvI zz.2.2.2.1), some (lvI lv)]⟩) ?_ ?_
  ·clear h
   rintro ⟨y7, y8, y9, y10, y11, y12⟩ h
   dsimp only at h ⊢
   rw [pad_Play_J2] at h
   refine sw_rg (r_movW R R R (q_movD R (r_bslice tb R R R R R R R R R R R R R ?_)))
   obtain ⟨q, iq, h⟩ := bnd h
   refine r_apM (g := vI) (w := lv) (v := [rv4.2]) ([some ⟨7, [.d (PdPad.d t)]⟩, some ⟨6, [PdState_T1 (PdState.mk y7 y8 y9 y10 y11 y12) 2 3 4]⟩, some (lvI y8), some (lvI y9), some (lvI y10), none, some (lvI [rv4.2])]) tb R R R R R R R R R R R iq R R R R R (r_asgW R R R (ev_end (block_norm (then_norm ?_))))
   exact .inl ⟨(y7, y8, y9, y10, y11, y12, q), h, .vw (κ := [0, 1, 2, 3, 4, 7]) (vK (.cons R R (.cons R R (.row R (.row R (.row R (.row R .nil)))))) R)⟩
  refine qG (q_movD R ?_)
  refine r_eql R R R R ?_ ?_
  ·intro c6
   replace h := ifP c6 h
   refine eN (sw_condT R (sw_rg (r_ldG tb R R R R R R R R R (q_stE _ _ tb R (eN ?_)))))
   exact .inl ⟨(rv4.1.now, rv4.1.zones, rv4.1.holder, rv4.1.squibs, rv4.1.siren, rv4.1.storm), h, .vw (κ := [0, 1, 7, 8, 9, 5]) (vK (.cons R R (.cons R R (.row R (.row R (.row R (.row R .nil)))))) R)⟩
  intro c6
  replace h := ifN c6 h
  refine eN (sw_condF R (sw_skip (then_norm ?_)))
  exact .inl ⟨(y, y2, y3, y4, y5, y6), h, .vw (κ := [0, 1, 2, 3, 4, 5]) (vK (.cons R R (.cons R R (.row R (.row R (.row R (.row R .nil)))))) R)⟩
 intro c5
 replace h := ifN (Int.not_lt.2 c5) h
 refine eN (sw_seq (sw_condF R (sw_exit (then_exit (then_exit ?_)))))
 subst hK4
 refine block_exit (then_norm (qG (r_ldG tb R R R R R R R R R (r_movW R R R (q_stE _ _ tb R (r_asgW R R R (q_asgD R (eN (sw_ret ?_)))))))))
 obtain rfl := sI h
 exact f2 [2, 3, 4, 5] (.row R (.row R (.row R (.row R .nil)))) R (.cons (rc tb R) (.cons (.tmp 7) (.cons (.tmp 8) .nil))) R
theorem pad_Play_pc {F : Nat} {t : PdPad} {o : PdState} {a : (List PdAct)} {r : (PdState × (List Int) × Int)} (h : pad_Play F t o a = some r) : PC Tryz.prog 7 [PdPad.d t, PdState.d o, .arr 5 ((a).map PdAct.d)] (.tup [PdState.d r.1, .arr 1 ((r.2.1).map vI), .v (.int .i64 r.2.2)]) := (pad_Play_scr h).toPC (.tupL (.cons (.aggL (.cons (.d _) (.cons (.row rfl rfl) (.cons (.row rfl rfl) (.cons (.row rfl rfl) (.cons (.d _) (.cons (.d _) .nil))))))) (.cons (.row rfl rfl) (.cons (.d _) .nil))))
def math_bits_Mul64 (F : Nat) (x : Int) (y : Int) : Option (Int × Int) := some ((IntKind.u64.wrap ((IntKind.u64.wrap ((IntKind.u64.wrap ((ishr .u64 x 32) * (ishr .u64 y 32))) + (ishr .u64 (IntKind.u64.wrap ((IntKind.u64.wrap ((ishr .u64 x 32) * (iand .u64 y 4294967295))) + (ishr .u64 (IntKind.u64.wrap ((iand .u64 x 4294967295) * (iand .u64 y 4294967295))) 32))) 32))) + (ishr .u64 (IntKind.u64.wrap ((iand .u64 (IntKind.u64.wrap ((IntKind.u64.wrap ((ishr .u64 x 32) * (iand .u64 y 4294967295))) + (ishr .u64 (IntKind.u64.wrap ((iand .u64 x 4294967295) * (iand .u64 y 4294967295))) 32))) 4294967295) + (IntKind.u64.wrap ((iand .u64 x 4294967295) * (ishr .u64 y 32))))) 32))), (IntKind.u64.wrap (x * y)))
theorem math_bits_Mul64_pc {F : Nat} {x : Int} {y : Int} {r : (Int × Int)} (h : math_bits_Mul64 F x y = some r) : PC Tryz.prog 119 [.v (.int .u64 x), .v (.int .u64 y)] (.tup [.v (.int .u64 r.1), .v (.int .u64 r.2)]) := by
 rw [math_bits_Mul64] at h
 refine SC.of_sw Tryz.func119 R R R ?_
 dsimp only [argS, List.map]
 refine qG (q_asgD R (q_asgD R (eN (qG (q_movD R (r_and R R R R (q_asgD R (eN (qG (q_movD R (r_shr R R (by decide) R R (q_asgD R (eN (qG (q_movD R (r_and R R R R (q_asgD R (eN (qG (q_movD R (r_shr R R (by decide) R R (q_asgD R (eN (qG (q_movD R (q_movD R (r_mul R R R R (q_asgD R (eN (qG (q_movD R (q_movD R (r_mul R R R R (q_movD R (r_shr R R (by decide) R R (q_add R (q_asgD R (eN (qG (q_movD R (r_and R R R R (q_asgD R (eN (qG ?_))))))))))))))))))))))))))))))))))))))))))))
 refine q_movD R (r_shr R R (by decide) R R (q_asgD R (eN (qG (q_movD R (q_movD R (q_movD R (r_mul R R R R (q_add R (q_asgD R (eN (qG (q_movD R (q_movD R (r_mul R R R R (q_movD R (q_add R (q_movD R (r_shr R R (by decide) R R (q_add R (q_asgD R (eN (qG (q_movD R (q_movD R (r_mul R R R R (q_asgD R (eN (sw_ret ?_)))))))))))))))))))))))))))))
 obtain rfl := sI h
 exact fin_0 (t := .d (.tup [.v (.int .u64 (IntKind.u64.wrap ((IntKind.u64.wrap ((IntKind.u64.wrap ((ishr .u64 x 32) * (ishr .u64 y 32))) + (ishr .u64 (IntKind.u64.wrap ((IntKind.u64.wrap ((ishr .u64 x 32) * (iand .u64 y 4294967295))) + (ishr .u64 (IntKind.u64.wrap ((iand .u64 x 4294967295) * (iand .u64 y 4294967295))) 32))) 32))) + (ishr .u64 (IntKind.u64.wrap ((iand .u64 (IntKind.u64.wrap ((IntKind.u64.wrap ((ishr .u64 x 32) * (iand .u64 y 4294967295))) + (ishr .u64 (IntKind.u64.wrap ((iand .u64 x 4294967295) * (iand .u64 y 4294967295))) 32))) 4294967295) + (IntKind.u64.wrap ((iand .u64 x 4294967295) * (ishr .u64 y 32))))) 32)))), .v (.int .u64 (IntKind.u64.wrap (x * y)))])) R R R (.cons (.tmp 4) (.cons (.tmp 5) .nil))
def math_bits_Mul (F : Nat) (x : Int) (y : Int) : Option (Int × Int) := Option.bind (math_bits_Mul64 F x y) fun rv => some (rv.1, rv.2)
theorem math_bits_Mul_pc {F : Nat} {x : Int} {y : Int} {r : (Int × Int)} (h : math_bits_Mul F x y = some r) : PC Tryz.prog 97 [.v (.int .u64 x), .v (.int .u64 y)] (.tup [.v (.int .u64 r.1), .v (.int .u64 r.2)]) := by
 rw [math_bits_Mul] at h
 refine SC.of_sw Tryz.func97 R R R ?_
 dsimp only [argS, List.map]
 refine qG (q_asgD R (q_asgD R (eN (sw_seq (sw_condF R (sw_skip (then_norm (qG (q_movD R (q_movD R ?_))))))))))
 obtain ⟨rv, hrv, h⟩ := bnd h
 refine r_call (math_bits_Mul64_pc hrv) (.of (by kernel_rfl)) R R R R (q_movD R (r_extD (t := .v (.int .u64 rv.1)) R R R R (r_extD (t := .v (.int .u64 rv.2)) R R R R (q_asgD R (q_asgD R (eN (qG (q_movD R (q_movD R (q_asgD R (q_asgD R (eN (sw_ret ?_)))))))))))))
 obtain rfl := sI h
 exact fin_0 (t := .d (.tup [.v (.int .u64 rv.1), .v (.int .u64 rv.2)])) R R R (.cons (.tmp 4) (.cons (.tmp 5) .nil))
def slices_Repeat_int_L1 (F : Nat)  (K : (List Int) → Int → Option (List Int)) : Nat → (List Int) → Int → Option (List Int)
 | 0, _, _ => none
 | n + 1, newslice, nv => if nv < (newslice.length : Int) then (Option.bind (natO nv newslice.length) fun p => if newslice.length = p then (none) else (Option.bind (natO nv newslice.length) fun p3 => Option.bind (copyO newslice p (newslice.length - p) (newslice.take p3)) fun newslice2 => slices_Repeat_int_L1 F K n newslice2 (W (nv + ((min p3 (newslice2.length - p) : Nat) : Int))))) else (K newslice nv)
def slices_Repeat_int (F : Nat) (x : (List Int)) (count : Int) : Option (List Int) := if count < 0 then (none) else (Option.bind (math_bits_Mul F (IntKind.u64.wrap (x.length : Int)) (IntKind.u64.wrap count)) fun rv => if 0 < rv.1 then (none) else (if 9223372036854775807 < rv.2 then (none) else (Option.bind (natM (W rv.2)) fun q => Option.bind (copyO (List.replicate q (0 : Int)) 0 (List.replicate q (0 : Int)).length x) fun q2 => slices_Repeat_int_L1 F (fun (newslice : (List Int)) (nv : Int) => some newslice) F q2 ((min x.length q2.length : Nat) : Int))))
theorem slices_Repeat_int_scr {F : Nat} {x : (List Int)} {count : Int} {r : (List Int)} (h : slices_Repeat_int F x count = some r) : SCR Tryz.prog 58 (List.map T.d [.arr 1 ((x).map vI), .v (.int .i64 count)]) [] (.row 0 1 0 (r).length) (List.map some [(lvI r)]) := by
 rw [slices_Repeat_int] at h
 refine SC.of_sw Tryz.func58 R R R ?_
 dsimp only [argS, List.map]
 refine qG (q_asgD R (eN (sw_seq (qG (q_movD R ?_)))))
 refine r_lss R R R R ?_ ?_
 ·intro c
  replace h := ifP c h
  cases h
 intro c
 replace h := ifN (Int.not_lt.2 c) h
 refine eN (sw_condF R (sw_skip (then_norm (qG (q_movD R (q_lenM tb R (r_cvI (k2 := .u64) R R R R R R (q_movD R (r_cvI (k2 := .u64) R R R R R R ?_)))))))))
 obtain ⟨rv, hrv, h⟩ := bnd h
 refine r_call (math_bits_Mul_pc hrv) (.of (by kernel_rfl)) R R R R (q_movD R (r_extD (t := .v (.int .u64 rv.1)) R R R R (r_extD (t := .v (.int .u64 rv.2)) R R R R (q_asgD R (q_asgD R (eN (sw_seq (qG (q_movD R ?_)))))))))
 refine r_gtr R R R R ?_ ?_
 ·intro c2
  replace h := ifP c2 h
  cases h
 intro c2
 replace h := ifN (Int.not_lt.2 c2) h
 refine q_movD R (q_movD R ?_)
 refine r_gtr R R R R ?_ ?_
 ·intro c3
  replace h := ifP c3 h
  cases h
 intro c3
 replace h := ifN (Int.not_lt.2 c3) h
 refine q_pickF R (eN (sw_condF R (sw_skip (then_norm (qG (q_movD R (r_cvI (k2 := .i64) R R R R R R ?_)))))))
 obtain ⟨q, iq, h⟩ := bnd h
 refine r_makeQ (v := (0 : Int)) (g := vI) tb R R R R R R R ((natM_eq iq).1) ((natM_eq iq).2) R R R R (r_asgW R R R (eN (qG (r_movW R R R (q_movD R ?_)))))
 obtain ⟨q2, iq2, h⟩ := bnd h
 refine r_cpE (g := vI) (w := (List.replicate q (0 : Int))) (v := x) tb R R R R R R R ((copyO_eq iq2).1) (ones_map (fun _ => rfl)) ((copyO_eq iq2).2) R R R ?_
 first | rw [copyO_len iq2] | skip
 refine q_asgD R (eN (sw_seq (sw_block ?_)))
 obtain ⟨K1, hK1, h⟩ : ∃ K, K = _ ∧ slices_Repeat_int_L1 F K F q2 ((min x.length q2.length : Nat) : Int) = some r := ⟨_, rfl, h⟩
 refine sw_loopS (fun m st => ∃ (newslice : (List Int)) (nv : Int), slices_Repeat_int_L1 F K1 m newslice nv = some r ∧ st = ⟨[(4, .d (.v (.slice none 0 0))), (7, .row 0 1 0 (newslice).length), (8, .d (vI nv))], [some (lvI newslice)]⟩) (.prn [4, 7, 8] R) ⟨q2, ((min x.length q2.length : Nat) : Int), h, R⟩ ?_
 clear h
 rintro m1 st ⟨newslice, nv, h, rfl⟩
 cases m1 with
 | zero => cases (show (none : Option (List Int)) = some r from h)
 | succ m1 =>
 rw [slices_Repeat_int_L1] at h
 refine sw_seq (qG (q_movD R (r_movW R R R (r_lenR tb R R R R R ?_))))
 refine r_lss R R R R ?_ ?_
 ·intro c4
  replace h := ifP c4 h
  refine eN (sw_condT R (sw_skip (then_norm (sw_block (sw_dr (by kernel_rfl) (q_movD R (r_movW R R R (q_movD R ?_))))))))
  obtain ⟨p, ip, h⟩ := bnd h
  by_cases c5 : newslice.length = p
  ·replace h := ifP c5 h
   refine r_slRowLoE tb R R R R R R ((natO_eq ip).1) c5 R R ?_
   cases h
  replace h := ifN c5 h
  refine r_slRowLo tb R R R R R R ((natO_eq ip).1) (by have := (natO_eq ip).2; omega) R R ?_
  refine r_movW R R R (q_movD R ?_)
  obtain ⟨p3, ip3, h⟩ := bnd h
  refine r_slRowHi tb R R R R R R ((natO_eq ip3).1) ((natO_eq ip3).2) R R ?_
  obtain ⟨newslice2, inewslice2, h⟩ := bnd h
  refine r_cpR (g := vI) (w := newslice) tb R R R R R R R ((copyO_eq inewslice2).1) (by have := (natO_eq ip3).2; omega) (fun _ => ones_map (fun _ => rfl)) ((copyO_eq inewslice2).2) R R R ?_
  first | rw [copyO_len inewslice2] | skip
  refine q_add R (q_asgD R (ev_endD (by kernel_rfl) (block_norm (then_norm ?_))))
  exact ⟨m1, _, Nat.lt_succ_self _, .prn [4, 7, 8] R, newslice2, (W (nv + ((min p3 (newslice2.length - p) : Nat) : Int))), h, R⟩
 intro c4
 replace h := ifN (Int.not_lt.2 c4) h
 refine eN (sw_condF R (sw_exit (then_exit (then_exit ?_))))
 subst hK1
 refine block_exit (then_norm (qG (r_movW R R R (r_asgW R R R (eN (sw_ret ?_))))))
 obtain rfl := sI h
 exact f2 [0] (.row R .nil) R (.cons (.tmp 4) .nil) R
theorem slices_Repeat_int_pc {F : Nat} {x : (List Int)} {count : Int} {r : (List Int)} (h : slices_Repeat_int F x count = some r) : PC Tryz.prog 58 [.arr 1 ((x).map vI), .v (.int .i64 count)] (.arr 1 ((r).map vI)) := (slices_Repeat_int_scr h).toPC (.row rfl rfl)
def pad_Start (F : Nat) (p : PdPad) : Option (PdState × Int) := Option.bind (pad_Check F p) fun rv => if rv.2.2 = 0 then (Option.bind (slices_Repeat_int F [(-1)] (p.people.length : Int)) fun rv2 => Option.bind (slices_Repeat_int F [(-1)] (p.keys.length : Int)) fun rv3 => Option.bind (natM (p.squibs.length : Int)) fun q => some ((PdState.mk 0 rv2 rv3 (List.replicate q (0 : Int)) (-1) false), 0)) else (some ((PdState.mk 0 ([] : List Int) ([] : List Int) ([] : List Int) 0 false), rv.2.2))
theorem pad_Start_scr {F : Nat} {p : PdPad} {r : (PdState × Int)} (h : pad_Start F p = some r) : SCR Tryz.prog 29 (List.map T.d [PdPad.d p]) [] (.tup [PdState_T1 r.1 0 1 2, .d (.v (.int .i64 r.2))]) (List.map some [(lvI r.1.zones), (lvI r.1.holder), (lvI r.1.squibs)]) := by
 rw [pad_Start] at h
 refine SC.of_sw Tryz.func29 R R R ?_
 dsimp only [argS, List.map]
 refine qG (q_box R (r_alloc tb R R R R R (q_asgD R (eN (sw_seq (qG (q_ldD (y := PdPad.d p) tb R ?_)))))))
 obtain ⟨rv, hrv, h⟩ := bnd h
 refine r_call (pad_Check_pc hrv) (.of (by kernel_rfl)) R R R R (q_movD R (r_extD (t := vI rv.1) R R R R (r_extD (t := vI rv.2.1) R R R R (r_extD (t := vI rv.2.2) R R R R (q_asgD R (q_asgD R (q_asgD R (eN (qG (q_movD R ?_))))))))))
 refine r_neq R R R R ?_ ?_
 ·intro c
  replace h := ifN c h
  refine eN (sw_condT R (qG (r_build (v := .d (.agg [vI 0, .v (.slice none 0 0), .v (.slice none 0 0), .v (.slice none 0 0), vI 0, .v (.bool false)])) tb R R (List.cons_ne_nil _ _) R R R R R R (q_movD R (q_stE _ _ tb R (q_asgD R (eN ?_)))))))
  refine SW.own (ts' := [(2, .ref 1 6 0 0), (3, .d (vI rv.2.2))]) (L' := [some ⟨7, [.d (PdPad.d p)]⟩, some ⟨6, [.agg [.d (vI 0), .row 2 1 0 (([] : List Int)).length, .d (.v (.slice none 0 0)), .d (.v (.slice none 0 0)), .d (vI 0), .d (.v (.bool false))]]⟩]) 1 R R (.cons (.same _) (.cons (.same _) .nil)) (.same (.cons R (.cons (.aggDL (.cons (.same _) (.cons .nil (.cons (.same _) (.cons (.same _) (.cons (.same _) (.cons (.same _) .nil))))))) .nil) .nil)) ?_
  simp only [List.cons_append, List.nil_append]
  refine SW.own (ts' := [(2, .ref 1 6 0 0), (3, .d (vI rv.2.2))]) (L' := [some ⟨7, [.d (PdPad.d p)]⟩, some ⟨6, [.agg [.d (vI 0), .row 2 1 0 (([] : List Int)).length, .row 3 1 0 (([] : List Int)).length, .d (.v (.slice none 0 0)), .d (vI 0), .d (.v (.bool false))]]⟩, some (lvI ([] : List Int))]) 1 R R (.cons (.same _) (.cons (.same _) .nil)) (.same (.cons R (.cons (.aggL (.cons (.same _) (.cons (.same _) (.cons .nil (.cons (.same _) (.cons (.same _) (.cons (.same _) .nil))))))) .nil) (.same .nil))) ?_
  simp only [List.cons_append, List.nil_append]
  refine SW.own (ts' := [(2, .ref 1 6 0 0), (3, .d (vI rv.2.2))]) (L' := [some ⟨7, [.d (PdPad.d p)]⟩, some ⟨6, [PdState_T1 (PdState.mk 0 ([] : List Int) ([] : List Int) ([] : List Int) 0 false) 2 3 4]⟩, some (lvI ([] : List Int)), some (lvI ([] : List Int))]) 1 R R (.cons (.same _) (.cons (.same _) .nil)) (.same (.cons R (.cons (.aggL (.cons (.same _) (.cons (.same _) (.cons (.same _) (.cons .nil (.cons (.same _) (.cons (.same _) .nil))))))) .nil) (.same (.same .nil)))) ?_
  simp only [List.cons_append, List.nil_append]
  refine sw_ret (then_ret ?_)
  obtain rfl := sI h
  exact f2 [2, 3, 4] (.row R (.row R (.row R .nil))) R (.cons (rc tb R) (.cons (.tmp 3) .nil)) R
 intro c
 replace h := ifP c h
 refine eN (sw_condF R (sw_skip (then_norm (qG (r_bslice tb R R R R R R R R R R R R R (r_asgW R R R (eN (sw_seq (sw_dr (by kernel_rfl) (r_movW R R R (q_fa tb R (q_ldD (y := .arr 2 ((p.people).map PdPerson.d)) tb R (q_lenM tb R ?_)))))))))))))
 obtain ⟨rv2, hrv2, h⟩ := bnd h
 refine r_callLN (t' := .row 3 1 0 (rv2).length) (news' := [(lvI rv2)]) (slices_Repeat_int_scr hrv2) R ((.row (fun _ => rfl) .nil)) (.of (by kernel_rfl)) R R ((.cons (.row R R) (.cons (.d _) .nil))) R ((.row .nil)) R R R ?_
 refine r_movW R R R (q_fa tb R (q_ldD (y := .arr 1 ((p.keys).map vS)) tb R (q_lenM tb R ?_)))
 obtain ⟨rv3, hrv3, h⟩ := bnd h
 refine r_callLN (t' := .row 4 1 0 (rv3).length) (news' := [(lvI rv3)]) (slices_Repeat_int_scr hrv3) R ((.row (fun _ => rfl) .nil)) (.of (by kernel_rfl)) R R ((.cons (.row R R) (.cons (.d _) .nil))) R ((.row .nil)) R R R ?_
 refine q_fa tb R (q_ldD (y := .arr 6 ((p.squibs).map PdSquib.d)) tb R (q_lenM tb R ?_))
 obtain ⟨q, iq, h⟩ := bnd h
 refine r_makeQ (v := (0 : Int)) (g := vI) tb R R R R R R R ((natM_eq iq).1) ((natM_eq iq).2) R R R R (r_build (v := PdState_T1 (PdState.mk 0 rv2 rv3 (List.replicate q (0 : Int)) (-1) false) 3 4 5) tb R R (List.cons_ne_nil _ _) R R R R R R (q_stE _ _ tb R (q_asgD R (ev_endD (by kernel_rfl) (then_norm (sw_ret ?_))))))
 obtain rfl := sI h
 exact f2 [3, 4, 5] (.row R (.row R (.row R .nil))) R (.cons (rc tb R) (.cons (.tmp 3) .nil)) R
theorem pad_Start_pc {F : Nat} {p : PdPad} {r : (PdState × Int)} (h : pad_Start F p = some r) : PC Tryz.prog 29 [PdPad.d p] (.tup [PdState.d r.1, .v (.int .i64 r.2)]) := (pad_Start_scr h).toPC (.tupL (.cons (.aggL (.cons (.d _) (.cons (.row rfl rfl) (.cons (.row rfl rfl) (.cons (.row rfl rfl) (.cons (.d _) (.cons (.d _) .nil))))))) (.cons (.d _) .nil)))
def pad_Near_J1 (F : Nat)  : Option (Bool × Int) := some (false, 0)
def pad_Near_L1 (F : Nat) (squib : Int) (rv4 : (Int × PdPad)) (e : PdZone) (K : Int → Option (Bool × Int)) : Nat → Int → Option (Bool × Int)
 | 0, _ => none
 | n + 1, x => if x < (rv4.2.squibs.length : Int) then (Option.bind (ixO rv4.2.squibs x) fun e2 => if (W ((W ((max (max (W (e.area_X_Lo - e2.at_X)) (W (e2.at_X - e.area_X_Hi))) 0) * (max (max (W (e.area_X_Lo - e2.at_X)) (W (e2.at_X - e.area_X_Hi))) 0))) + (W ((max (max (W (e.area_Y_Lo - e2.at_Y)) (W (e2.at_Y - e.area_Y_Hi))) 0) * (max (max (W (e.area_Y_Lo - e2.at_Y)) (W (e2.at_Y - e.area_Y_Hi))) 0))))) < (W (e2.clear * e2.clear)) then (if x = squib then (some (true, 0)) else (pad_Near_L1 F squib rv4 e K n (W (x + 1)))) else (pad_Near_L1 F squib rv4 e K n (W (x + 1)))) else (K x)
def pad_Near_J2 (F : Nat) (p : PdPad) (zone : Int) (squib : Int) : Option (Bool × Int) := Option.bind (pad_near F p zone) fun rv4 => if rv4.1 < 0 then (pad_Near_J1 F) else (Option.bind (ixO rv4.2.zones rv4.1) fun e => pad_Near_L1 F squib rv4 e (fun (x : Int) => pad_Near_J1 F) F 0)
def pad_Near_J3 (F : Nat)  : Option (Bool × Int) := some (false, 4)
def pad_Near (F : Nat) (p : PdPad) (zone : Int) (squib : Int) : Option (Bool × Int) := Option.bind (pad_Check F p) fun rv => if rv.2.2 = 0 then (Option.bind (pad_out F zone 0 (W ((p.zones.length : Int) - 1))) fun rv2 => if rv2 = true then (pad_Near_J3 F) else (Option.bind (pad_out F squib 0 (W ((p.squibs.length : Int) - 1))) fun rv3 => if rv3 = true then (pad_Near_J3 F) else (pad_Near_J2 F p zone squib))) else (some (false, rv.2.2))
theorem pad_Near_pc {F : Nat} {p : PdPad} {zone : Int} {squib : Int} {r : (Bool × Int)} (h : pad_Near F p zone squib = some r) : PC Tryz.prog 32 [PdPad.d p, .v (.int .i64 zone), .v (.int .i64 squib)] (.tup [.v (.bool r.1), .v (.int .i64 r.2)]) := by
 rw [pad_Near] at h
 refine SC.of_swm Tryz.func32 R R R ?_
 dsimp only [argS, List.map]
 refine swm_seq ?_
 refine swm_of fun df => ?_
 refine sw_rg (q_box R (q_box R (r_alloc tb R R R R R (r_alloc tb R R R R R (eN (swm_seq ?_))))))
 refine swm_of fun df => ?_
 refine sw_rg (q_ldD (y := PdPad.d p) tb R ?_)
 obtain ⟨rv, hrv, h⟩ := bnd h
 refine r_call (pad_Check_pc hrv) (.of (by kernel_rfl)) R R R R (q_movD R (r_extD (t := vI rv.1) R R R R (r_extD (t := vI rv.2.1) R R R R (r_extD (t := vI rv.2.2) R R R R (q_asgD R (q_asgD R (q_asgD R (eN (swm_seq ?_)))))))))
 refine swm_join (fun zz : Unit => pad_Near_J2 F p zone squib = some r) (fun zz : Unit => ⟨[(1, .d (vI zone)), (3, .ref 0 7 0 0), (5, .ref 1 1 0 0), (6, .ref 2 1 0 0), (7, .ref 3 1 0 0)], [some ⟨7, [.d (PdPad.d p)]⟩, some ⟨1, [.d (vI squib)]⟩, some ⟨1, [.d (.v (.bool false))]⟩, some ⟨1, [.d (vI 0)]⟩]⟩) ?_ ?_
 ·clear h
  rintro ⟨⟩ h
  rw [pad_Near_J2] at h
  refine swm_seq ?_
  refine swm_join (fun zz : Unit => pad_Near_J1 F = some r) (fun zz : Unit => ⟨[(6, .ref 0 1 0 0), (7, .ref 1 1 0 0)], [some ⟨1, [.d (.v (.bool false))]⟩, some ⟨1, [.d (vI 0)]⟩]⟩) ?_ ?_
  ·clear h
   rintro ⟨⟩ h
   rw [pad_Near_J1] at h
   refine swm_of fun df => ?_
   refine qG (q_stE _ _ tb R (q_stE _ _ tb R (eN (sw_ret ?_))))
   obtain rfl := sI h
   exact fin_0 (t := .d (.tup [.v (.bool false), vI 0])) R R R (.cons (rc tb R) (.cons (rc tb R) .nil))
  refine swm_seq ?_
  refine swm_of fun df => ?_
  refine sw_rg (q_ldD (y := PdPad.d p) tb R (q_movD R ?_))
  obtain ⟨rv4, hrv4, h⟩ := bnd h
  refine r_callN (t' := .fn (.func 83) [] [.ref 4 1 0 0, .ref 5 7 0 0]) (news' := [⟨1, [.d (vI rv4.1)]⟩, ⟨7, [.d (PdPad.d rv4.2)]⟩]) (pad_near_scr hrv4) (.of (by kernel_rfl)) R R R ((.cons R (.cons R .nil))) R R R (eN (swm_block ?_))
  refine swm_range (.of (by kernel_rfl)) Tryz.func83 R R R R R R fun lb => ?_
  simp only [argS, Nat.zero_add, Nat.reduceAdd]
  refine swj_seq (swj_seq (swj_rg (rgj_ev (q_ldD (y := vI rv4.1) tb R ?_))))
  refine r_lss R R R R ?_ ?_
  ·intro c4
   replace h := ifP c4 h
   refine ev_endJ (thenj_norm (swj_condT R (swj_ret (thenj_ret ?_))))
   refine ⟨R, [some ⟨7, [.d (PdPad.d p)]⟩, some ⟨1, [.d (vI squib)]⟩, some ⟨1, [.d (.v (.bool false))]⟩, some ⟨1, [.d (vI 0)]⟩, some ⟨1, [.d (vI rv4.1)]⟩, some ⟨7, [.d (PdPad.d rv4.2)]⟩], [0, 1, 2, 3, 4, 5], (vK (.cons R R (.cons R R (.cons R R (.cons R R (.cons R R (.cons R R .nil)))))) R), ?_⟩
   refine block_norm (then_norm ?_)
   exact .inl ⟨(), h, .vw (κ := [2, 3]) (vK (.cons R R (.cons R R .nil)) R)⟩
  intro c4
  replace h := ifN (Int.not_lt.2 c4) h
  refine ev_endJ (thenj_norm (swj_condF R (swj_skip (thenj_norm (swj_seq (swj_rg (rgj_ev (q_fa tb R (q_ldD (y := .arr 8 ((rv4.2.zones).map PdZone.d)) tb R (q_ldD (y := vI rv4.1) tb R ?_))))))))))
  obtain ⟨e, ie, h⟩ := bnd h
  refine q_ixE tb (ix0 ie) (ix1m ie) R (q_faE tb R (q_ldE (y := .agg [vI e.area_X_Lo, vI e.area_X_Hi, vI e.area_Y_Lo, vI e.area_Y_Hi]) tb (ix2 (g := PdZone.d) ie) R (r_alloc tb R R R R R (q_stE _ _ tb R (ev_endJ (thenj_norm (swj_seq (swj_rg (rgj_ev (q_fa tb R (q_ldD (y := .arr 6 ((rv4.2.squibs).map PdSquib.d)) tb R (q_lenM tb R (q_movD R (ev_endJ (thenj_norm (swj_block ?_))))))))))))))))
  obtain ⟨K4, hK4, h⟩ : ∃ K, K = _ ∧ pad_Near_L1 F squib rv4 e K F 0 = some r := ⟨_, rfl, h⟩
  refine swj_loopS (fun m ph st => ∃ (x : Int), pad_Near_L1 F squib rv4 e K4 m x = some r ∧ ph = SX.norm ∧ st = ⟨[(0, .d (.v (.func (.yield lb) #[] #[]))), (4, .ref 6 4 0 0), (18, .d (.arr 6 ((rv4.2.squibs).map PdSquib.d))), (19, .d (vI (rv4.2.squibs.length : Int))), (20, .d (vI x))], [some ⟨7, [.d (PdPad.d p)]⟩, some ⟨1, [.d (vI squib)]⟩, some ⟨1, [.d (.v (.bool false))]⟩, some ⟨1, [.d (vI 0)]⟩, some ⟨1, [.d (vI rv4.1)]⟩, some ⟨7, [.d (PdPad.d rv4.2)]⟩, some ⟨4, [.d (.agg [vI e.area_X_Lo, vI e.area_X_Hi, vI e.area_Y_Lo, vI e.area_Y_Hi])]⟩]⟩) (.prn [0, 4, 18, 19, 20] R) ⟨0, h, R, R⟩ ?_
  clear h
  rintro m4 ph st ⟨x, h, rfl, rfl⟩
  cases m4 with
  | zero => cases (show (none : Option (Bool × Int)) = some r from h)
  | succ m4 =>
  rw [pad_Near_L1] at h
  refine swj_seq (swj_rg (rgj_ev ?_))
  refine r_lss R R R R ?_ ?_
  ·intro c5
   replace h := ifP c5 h
   refine ev_endJ (thenj_norm (swj_seq (swj_condT R (swj_skip (thenj_norm (swj_seq (swj_block (swj_seq (swj_rg (rgj_ev (q_movD R ?_)))))))))))
   obtain ⟨e2, ie2, h⟩ := bnd h
   refine q_ixE tb (ix0 ie2) (ix1m ie2) R (q_ldE (y := PdSquib.d e2) tb (ix2 (g := PdSquib.d) ie2) R (r_alloc tb R R R R R (q_asgD R (q_stE _ _ tb R (ev_endJ (thenj_norm (swj_seq (swj_of (sw_dr (by kernel_rfl) (q_fa tb R (q_fa tb R (q_ldD (y := vI e.area_X_Lo) tb R (q_fa tb R (q_fa tb R (q_ldD (y := vI e2.at_X) tb R (r_sub R R R R (q_fa tb R (q_fa tb R (q_ldD (y := vI e2.at_X) tb R (q_fa tb R (q_fa tb R (q_ldD (y := vI e.area_X_Hi) tb R (r_sub R R R R ?_)))))))))))))))))))))))
   refine r_max3 R R R R R (q_fa tb R (q_fa tb R (q_ldD (y := vI e.area_Y_Lo) tb R (q_fa tb R (q_fa tb R (q_ldD (y := vI e2.at_Y) tb R (r_sub R R R R (q_fa tb R (q_fa tb R (q_ldD (y := vI e2.at_Y) tb R (q_fa tb R (q_fa tb R (q_ldD (y := vI e.area_Y_Hi) tb R (r_sub R R R R (r_max3 R R R R R (q_asgD R (q_asgD R (ev_endD (by kernel_rfl) (thenj_norm (swj_seq (swj_rg (rgj_ev (q_movD R (q_movD R (r_mul R R R R (q_movD R (q_movD R ?_)))))))))))))))))))))))))))
   refine r_mul R R R R (q_add R (q_fa tb R (q_ldD (y := vI e2.clear) tb R (q_fa tb R (q_ldD (y := vI e2.clear) tb R (r_mul R R R R ?_))))))
   refine r_lss R R R R ?_ ?_
   ·intro c6
    replace h := ifP c6 h
    refine q_movD R (q_movD R (q_movD R (ev_yieldJ ?_)))
    (with_reducible apply rgj_yield (ys := [vI x])); (iterate 7 exact rfl)
    dsimp only [parS]
    refine sw_rg (q_asgD R (ev_end ?_))
    refine ⟨R, swy_rd ?_⟩
    refine sw_block (qG (q_movD R (q_ldD (y := vI squib) tb R ?_)))
    refine r_eql R R R R ?_ ?_
    ·intro c7
     replace h := ifP c7 h
     refine eN (sw_condT R (qG (q_stE _ _ tb R (q_stE _ _ tb R (eN (sw_ret (block_ret ?_)))))))
     refine ⟨[some ⟨7, [.d (PdPad.d p)]⟩, some ⟨1, [.d (vI squib)]⟩, some ⟨1, [.d (.v (.bool true))]⟩, some ⟨1, [.d (vI 0)]⟩, some ⟨1, [.d (vI rv4.1)]⟩, some ⟨7, [.d (PdPad.d rv4.2)]⟩, some ⟨4, [.d (.agg [vI e.area_X_Lo, vI e.area_X_Hi, vI e.area_Y_Lo, vI e.area_Y_Hi])]⟩, some ⟨6, [.d (PdSquib.d e2)]⟩], [0, 1, 2, 3, 4, 5, 6, 7], (vK (.cons R R (.cons R R (.cons R R (.cons R R (.cons R R (.cons R R (.cons R R (.cons R R .nil)))))))) R), ?_⟩
     with_reducible apply yk_ret
     refine rgj_ev (r_notF R R R (q_pickT R (ev_endJ (thenj_norm (swj_condT R (swj_ret (blockj_ret (thenj_ret (thenj_ret (blockj_ret ?_))))))))))
     refine ⟨R, [some ⟨7, [.d (PdPad.d p)]⟩, some ⟨1, [.d (vI squib)]⟩, some ⟨1, [.d (.v (.bool true))]⟩, some ⟨1, [.d (vI 0)]⟩, some ⟨1, [.d (vI rv4.1)]⟩, some ⟨7, [.d (PdPad.d rv4.2)]⟩], [0, 1, 2, 3, 4, 5], (vK (.cons R R (.cons R R (.cons R R (.cons R R (.cons R R (.cons R R .nil)))))) R), ?_⟩
     refine block_ret (then_ret ?_)
     obtain rfl := sI h
     exact fin_0 (t := .d (.tup [.v (.bool true), vI 0])) R R R (.cons (rc tb R) (.cons (rc tb R) .nil))
    intro c7
    replace h := ifN c7 h
    refine eN (sw_condF R (sw_skip (block_norm ?_)))
    refine ⟨[some ⟨7, [.d (PdPad.d p)]⟩, some ⟨1, [.d (vI squib)]⟩, some ⟨1, [.d (.v (.bool false))]⟩, some ⟨1, [.d (vI 0)]⟩, some ⟨1, [.d (vI rv4.1)]⟩, some ⟨7, [.d (PdPad.d rv4.2)]⟩, some ⟨4, [.d (.agg [vI e.area_X_Lo, vI e.area_X_Hi, vI e.area_Y_Lo, vI e.area_Y_Hi])]⟩, some ⟨6, [.d (PdSquib.d e2)]⟩], [0, 1, 2, 3, 4, 5, 6, 7], (vK (.cons R R (.cons R R (.cons R R (.cons R R (.cons R R (.cons R R (.cons R R (.cons R R .nil)))))))) R), ?_⟩
    with_reducible apply yk_norm
    refine rgj_ev (r_notT R R R (q_pickT R (ev_endJ (thenj_norm (swj_condF R (swj_skip (blockj_norm (thenj_norm (swj_rg (rgj_ev (q_add R (q_movD R (ev_endJ (thenj_norm ?_))))))))))))))
    exact ⟨m4, ⟨[(0, .d (.v (.func (.yield lb) #[] #[]))), (4, .ref 6 4 0 0), (18, .d (.arr 6 ((rv4.2.squibs).map PdSquib.d))), (19, .d (vI (rv4.2.squibs.length : Int))), (20, .d (vI (W (x + 1))))], [some ⟨7, [.d (PdPad.d p)]⟩, some ⟨1, [.d (vI squib)]⟩, some ⟨1, [.d (.v (.bool false))]⟩, some ⟨1, [.d (vI 0)]⟩, some ⟨1, [.d (vI rv4.1)]⟩, some ⟨7, [.d (PdPad.d rv4.2)]⟩, some ⟨4, [.d (.agg [vI e.area_X_Lo, vI e.area_X_Hi, vI e.area_Y_Lo, vI e.area_Y_Hi])]⟩]⟩, Nat.lt_succ_self _, .vw (κ := [0, 1, 2, 3, 4, 5, 6]) (vK (.cons R R (.cons R R (.cons R R (.cons R R (.cons R R (.cons R R (.cons R R .nil))))))) R), (W (x + 1)), h, R, R⟩
   intro c6
   replace h := ifN (Int.not_lt.2 c6) h
   refine q_movD R (q_sk 4 R (q_pickF R (ev_endJ (thenj_norm (swj_condF R (swj_skip (blockj_norm (thenj_norm (swj_rg (rgj_ev (q_add R (q_movD R (ev_endJ (thenj_norm ?_))))))))))))))
   exact ⟨m4, ⟨[(0, .d (.v (.func (.yield lb) #[] #[]))), (4, .ref 6 4 0 0), (18, .d (.arr 6 ((rv4.2.squibs).map PdSquib.d))), (19, .d (vI (rv4.2.squibs.length : Int))), (20, .d (vI (W (x + 1))))], [some ⟨7, [.d (PdPad.d p)]⟩, some ⟨1, [.d (vI squib)]⟩, some ⟨1, [.d (.v (.bool false))]⟩, some ⟨1, [.d (vI 0)]⟩, some ⟨1, [.d (vI rv4.1)]⟩, some ⟨7, [.d (PdPad.d rv4.2)]⟩, some ⟨4, [.d (.agg [vI e.area_X_Lo, vI e.area_X_Hi, vI e.area_Y_Lo, vI e.area_Y_Hi])]⟩]⟩, Nat.lt_succ_self _, .vw (κ := [0, 1, 2, 3, 4, 5, 6]) (vK (.cons R R (.cons R R (.cons R R (.cons R R (.cons R R (.cons R R (.cons R R .nil))))))) R), (W (x + 1)), h, R, R⟩
  intro c5
  replace h := ifN (Int.not_lt.2 c5) h
  refine ev_endJ (thenj_norm (swj_seq (swj_condF R (swj_exit (thenj_exit (thenj_exit ?_))))))
  subst hK4
  refine blockj_exit ?_
  refine ⟨R, [some ⟨7, [.d (PdPad.d p)]⟩, some ⟨1, [.d (vI squib)]⟩, some ⟨1, [.d (.v (.bool false))]⟩, some ⟨1, [.d (vI 0)]⟩, some ⟨1, [.d (vI rv4.1)]⟩, some ⟨7, [.d (PdPad.d rv4.2)]⟩], [0, 1, 2, 3, 4, 5], (vK (.cons R R (.cons R R (.cons R R (.cons R R (.cons R R (.cons R R .nil)))))) R), ?_⟩
  refine block_norm (then_norm ?_)
  exact .inl ⟨(), h, .vw (κ := [2, 3]) (vK (.cons R R (.cons R R .nil)) R)⟩
 refine swm_of fun df => ?_
 refine sw_block (qG (q_movD R ?_))
 refine r_neq R R R R ?_ ?_
 ·intro c
  replace h := ifN c h
  refine q_asgD R (eN (sw_condT R (qG (q_movD R (q_stE _ _ tb R (q_stE _ _ tb R (eN (sw_ret (block_ret (then_ret ?_))))))))))
  obtain rfl := sI h
  exact fin_0 (t := .d (.tup [.v (.bool false), vI rv.2.2])) R R R (.cons (rc tb R) (.cons (rc tb R) .nil))
 intro c
 replace h := ifP c h
 refine q_asgD R (eN (sw_condF R (sw_seq ?_)))
 refine sw_join (fun zz : Unit => pad_Near_J3 F = some r) (fun zz : Unit => ⟨[(1, .d (vI zone)), (3, .ref 0 7 0 0), (5, .ref 1 1 0 0), (6, .ref 2 1 0 0), (7, .ref 3 1 0 0), (22, .d (.v (.bool true)))], [some ⟨7, [.d (PdPad.d p)]⟩, some ⟨1, [.d (vI squib)]⟩, some ⟨1, [.d (.v (.bool false))]⟩, some ⟨1, [.d (vI 0)]⟩]⟩) ?_ ?_
 ·clear h
  rintro ⟨⟩ h
  rw [pad_Near_J3] at h
  refine sw_condT R (qG (q_stE _ _ tb R (q_stE _ _ tb R (eN (sw_ret (block_ret (then_ret ?_)))))))
  obtain rfl := sI h
  exact fin_0 (t := .d (.tup [.v (.bool false), vI 4])) R R R (.cons (rc tb R) (.cons (rc tb R) .nil))
 refine sw_rg (q_movD R (q_fa tb R (q_ldD (y := .arr 8 ((p.zones).map PdZone.d)) tb R (q_lenM tb R (r_sub R R R R ?_)))))
 obtain ⟨rv2, hrv2, h⟩ := bnd h
 refine r_callB (pad_out_pc hrv2) (.of (by kernel_rfl)) R R R R ?_ ?_
 ·intro c2
  replace h := ifP c2 h
  refine q_movD R (q_sk 6 R (q_pickT R (q_asgD R (eN ?_))))
  exact .inl ⟨(), h, .prn [1, 3, 5, 6, 7, 22] R⟩
 intro c2
 replace h := ifF c2 h
 refine q_movD R (q_ldD (y := vI squib) tb R (q_fa tb R (q_ldD (y := .arr 6 ((p.squibs).map PdSquib.d)) tb R (q_lenM tb R (r_sub R R R R ?_)))))
 obtain ⟨rv3, hrv3, h⟩ := bnd h
 refine r_callB (pad_out_pc hrv3) (.of (by kernel_rfl)) R R R R ?_ ?_
 ·intro c3
  replace h := ifP c3 h
  refine q_pickF R (q_asgD R (eN ?_))
  exact .inl ⟨(), h, .prn [1, 3, 5, 6, 7, 22] R⟩
 intro c3
 replace h := ifF c3 h
 refine q_pickF R (q_asgD R (eN (.inr (sw_condF R (sw_skip (block_norm (then_norm ?_)))))))
 exact .inl ⟨(), h, .prn [1, 3, 5, 6, 7] R⟩
def l_Example_1 (F : Nat) (a : Int) (b : Int) (c : Int) (d : Int) : Option Area := some (Area.mk a b c d)
theorem l_Example_1_pc {F : Nat} {a : Int} {b : Int} {c : Int} {d : Int} {r : Area} (h : l_Example_1 F a b c d = some r) : PC Tryz.prog 59 [.v (.int .i64 a), .v (.int .i64 b), .v (.int .i64 c), .v (.int .i64 d)] (Area.d r) := by
 rw [l_Example_1] at h
 refine SC.of_sw Tryz.func59 R R R ?_
 dsimp only [argS, List.map]
 refine qG (r_alloc tb R R R R R (eN (qG (q_movD R (q_movD R (r_build (v := .d (.agg [vI a, vI b])) tb R R (List.cons_ne_nil _ _) R R R R R R (q_movD R (q_movD R (r_build (v := .d (.agg [vI c, vI d])) tb R R (List.cons_ne_nil _ _) R R R R R R (r_build (v := .d (.agg [vI a, vI b, vI c, vI d])) tb R R (List.cons_ne_nil _ _) R R R R R R (q_stE _ _ tb R (eN (sw_ret ?_)))))))))))))
 obtain rfl := sI h
 exact fin_0 (t := .d (.agg [vI a, vI b, vI c, vI d])) R R R (.cons (rc tb R) .nil)
def l_Example (F : Nat)  : Option PdPad := Option.bind (l_Example_1 F (-500000) (-400000) 0 50000) fun rv => Option.bind (l_Example_1 F (-300000) (-100000) (-10000) 10000) fun rv2 => Option.bind (l_Example_1 F (-5000) 5000 (-5000) 5000) fun rv3 => some (PdPad.mk [(PdZone.mk (ByteArray.mk #[98, 117, 110, 107, 101, 114]) rv.x_Lo rv.x_Hi rv.y_Lo rv.y_Hi 0 8 false), (PdZone.mk (ByteArray.mk #[114, 111, 97, 100]) rv2.x_Lo rv2.x_Hi rv2.y_Lo rv2.y_Hi 1 4 false), (PdZone.mk (ByteArray.mk #[114, 97, 105, 108]) rv3.x_Lo rv3.x_Hi rv3.y_Lo rv3.y_Hi 2 2 true)] [(PdDoor.mk (-1) 0), (PdDoor.mk 0 1), (PdDoor.mk 2 1)] [(PdPerson.mk (ByteArray.mk #[97, 110, 110]) 5), (PdPerson.mk (ByteArray.mk #[98, 111, 98]) 2), (PdPerson.mk (ByteArray.mk #[101, 118, 101]) 1)] [(ByteArray.mk #[114, 101, 100]), (ByteArray.mk #[98, 108, 117, 101]), (ByteArray.mk #[103, 114, 101, 121])] [(PdSquib.mk (ByteArray.mk #[109, 111, 116, 111, 114]) 0 0 100000 5 [0, 1]), (PdSquib.mk (ByteArray.mk #[99, 104, 117, 116, 101]) 0 3000 20000 3 [2])] 0 100)
theorem l_Example_pc {F : Nat}  {r : PdPad} (h : l_Example F  = some r) : PC Tryz.prog 30 [] (PdPad.d r) := by
 rw [l_Example] at h
 refine PC.of_lend ?_
 refine SC.of_sw Tryz.func30 R R R ?_
 dsimp only [argS, List.map]
 refine qG (r_alloc tb R R R R R (eN (qG (q_asgD R (eN (qG (q_movD R ?_)))))))
 obtain ⟨rv, hrv, h⟩ := bnd h
 refine r_call (l_Example_1_pc hrv) (.of (by kernel_rfl)) R R R R (r_build (v := .d (.agg [.v (.string (ByteArray.mk #[98, 117, 110, 107, 101, 114])), vI rv.x_Lo, vI rv.x_Hi, vI rv.y_Lo, vI rv.y_Hi, vI 0, vI 8, .v (.bool false)])) tb R R (List.cons_ne_nil _ _) R R R R R R (q_movD R ?_))
 obtain ⟨rv2, hrv2, h⟩ := bnd h
 refine r_call (l_Example_1_pc hrv2) (.of (by kernel_rfl)) R R R R (r_build (v := .d (.agg [.v (.string (ByteArray.mk #[114, 111, 97, 100])), vI rv2.x_Lo, vI rv2.x_Hi, vI rv2.y_Lo, vI rv2.y_Hi, vI 1, vI 4, .v (.bool false)])) tb R R (List.cons_ne_nil _ _) R R R R R R (q_movD R ?_))
 obtain ⟨rv3, hrv3, h⟩ := bnd h
 refine r_call (l_Example_1_pc hrv3) (.of (by kernel_rfl)) R R R R (r_build (v := .d (.agg [.v (.string (ByteArray.mk #[114, 97, 105, 108])), vI rv3.x_Lo, vI rv3.x_Hi, vI rv3.y_Lo, vI rv3.y_Hi, vI 2, vI 2, .v (.bool true)])) tb R R (List.cons_ne_nil _ _) R R R R R R (r_bslice tb R R R R R R R R R R R R R (r_build (v := .d (.agg [vI (-1), vI 0])) tb R R (List.cons_ne_nil _ _) R R R R R R ?_)))
 refine r_build (v := .d (.agg [vI 0, vI 1])) tb R R (List.cons_ne_nil _ _) R R R R R R (r_build (v := .d (.agg [vI 2, vI 1])) tb R R (List.cons_ne_nil _ _) R R R R R R (r_bslice tb R R R R R R R R R R R R R (r_build (v := .d (.agg [.v (.string (ByteArray.mk #[97, 110, 110])), vI 5])) tb R R (List.cons_ne_nil _ _) R R R R R R ?_)))
 refine r_build (v := .d (.agg [.v (.string (ByteArray.mk #[98, 111, 98])), vI 2])) tb R R (List.cons_ne_nil _ _) R R R R R R (r_build (v := .d (.agg [.v (.string (ByteArray.mk #[101, 118, 101])), vI 1])) tb R R (List.cons_ne_nil _ _) R R R R R R (r_bslice tb R R R R R R R R R R R R R (r_bslice tb R R R R R R R R R R R R R (r_bslice tb R R R R R R R R R R R R R ?_))))
 refine r_build (v := PdSquib_T1 (PdSquib.mk (ByteArray.mk #[109, 111, 116, 111, 114]) 0 0 100000 5 [0, 1]) 5) tb R R (List.cons_ne_nil _ _) R R R R R R (r_build (v := .d (.agg [vI 0, vI 3000])) tb R R (List.cons_ne_nil _ _) R R R R R R (r_bslice tb R R R R R R R R R R R R R (r_build (v := PdSquib_T1 (PdSquib.mk (ByteArray.mk #[99, 104, 117, 116, 101]) 0 3000 20000 3 [2]) 6) tb R R (List.cons_ne_nil _ _) R R R R R R (r_bslice tb R R R R R R R R R R R R R ?_))))
 refine r_build (v := .agg [.row 1 8 0 ([(PdZone.mk (ByteArray.mk #[98, 117, 110, 107, 101, 114]) rv.x_Lo rv.x_Hi rv.y_Lo rv.y_Hi 0 8 false), (PdZone.mk (ByteArray.mk #[114, 111, 97, 100]) rv2.x_Lo rv2.x_Hi rv2.y_Lo rv2.y_Hi 1 4 false), (PdZone.mk (ByteArray.mk #[114, 97, 105, 108]) rv3.x_Lo rv3.x_Hi rv3.y_Lo rv3.y_Hi 2 2 true)]).length, .row 2 2 0 ([(PdDoor.mk (-1) 0), (PdDoor.mk 0 1), (PdDoor.mk 2 1)]).length, .row 3 2 0 ([(PdPerson.mk (ByteArray.mk #[97, 110, 110]) 5), (PdPerson.mk (ByteArray.mk #[98, 111, 98]) 2), (PdPerson.mk (ByteArray.mk #[101, 118, 101]) 1)]).length, .row 4 1 0 ([(ByteArray.mk #[114, 101, 100]), (ByteArray.mk #[98, 108, 117, 101]), (ByteArray.mk #[103, 114, 101, 121])]).length, .row 7 6 0 2, .d (vI 0), .d (vI 100)]) tb R R (List.cons_ne_nil _ _) R R R R R R ?_
 refine q_stE _ _ tb R (eN (sw_ret ?_))
 obtain rfl := sI h
 exact (fin_S (t := .agg [.row 0 8 0 ([(PdZone.mk (ByteArray.mk #[98, 117, 110, 107, 101, 114]) rv.x_Lo rv.x_Hi rv.y_Lo rv.y_Hi 0 8 false), (PdZone.mk (ByteArray.mk #[114, 111, 97, 100]) rv2.x_Lo rv2.x_Hi rv2.y_Lo rv2.y_Hi 1 4 false), (PdZone.mk (ByteArray.mk #[114, 97, 105, 108]) rv3.x_Lo rv3.x_Hi rv3.y_Lo rv3.y_Hi 2 2 true)]).length, .row 1 2 0 ([(PdDoor.mk (-1) 0), (PdDoor.mk 0 1), (PdDoor.mk 2 1)]).length, .row 2 2 0 ([(PdPerson.mk (ByteArray.mk #[97, 110, 110]) 5), (PdPerson.mk (ByteArray.mk #[98, 111, 98]) 2), (PdPerson.mk (ByteArray.mk #[101, 118, 101]) 1)]).length, .row 3 1 0 ([(ByteArray.mk #[114, 101, 100]), (ByteArray.mk #[98, 108, 117, 101]), (ByteArray.mk #[103, 114, 101, 121])]).length, .row 4 6 0 2, .d (vI 0), .d (vI 100)]) (L := [some (lPdZoned [(PdZone.mk (ByteArray.mk #[98, 117, 110, 107, 101, 114]) rv.x_Lo rv.x_Hi rv.y_Lo rv.y_Hi 0 8 false), (PdZone.mk (ByteArray.mk #[114, 111, 97, 100]) rv2.x_Lo rv2.x_Hi rv2.y_Lo rv2.y_Hi 1 4 false), (PdZone.mk (ByteArray.mk #[114, 97, 105, 108]) rv3.x_Lo rv3.x_Hi rv3.y_Lo rv3.y_Hi 2 2 true)]), some (lPdDoord [(PdDoor.mk (-1) 0), (PdDoor.mk 0 1), (PdDoor.mk 2 1)]), some (lPdPersond [(PdPerson.mk (ByteArray.mk #[97, 110, 110]) 5), (PdPerson.mk (ByteArray.mk #[98, 111, 98]) 2), (PdPerson.mk (ByteArray.mk #[101, 118, 101]) 1)]), some (lvS [(ByteArray.mk #[114, 101, 100]), (ByteArray.mk #[98, 108, 117, 101]), (ByteArray.mk #[103, 114, 101, 121])]), some ⟨6, [PdSquib_T1 (PdSquib.mk (ByteArray.mk #[109, 111, 116, 111, 114]) 0 0 100000 5 [0, 1]) 5, PdSquib_T1 (PdSquib.mk (ByteArray.mk #[99, 104, 117, 116, 101]) 0 3000 20000 3 [2]) 6]⟩, some (lvI [0, 1]), some (lvI [2])]) (κ := [1, 2, 3, 4, 7, 5, 6]) R (.cons (rc tb R) .nil) (vK (.row R (.row R (.row R (.row R (.cons R R (.row R (.row R .nil))))))) R) ⟨_, R, (.aggL (.cons (.row R R) (.cons (.row R R) (.cons (.row R R) (.cons (.row R R) (.cons (.rowL R R (.cons (.aggL (.cons (.d _) (.cons (.d _) (.cons (.d _) (.cons (.d _) (.cons (.d _) (.cons (.row R R) .nil))))))) (.cons (.aggL (.cons (.d _) (.cons (.d _) (.cons (.d _) (.cons (.d _) (.cons (.d _) (.cons (.row R R) .nil))))))) .nil))) (.cons (.d _) (.cons (.d _) .nil))))))))⟩)
def l_Acts (F : Nat)  : Option (List PdAct) := some [(PdAct.mk 0 1 0 0 1), (PdAct.mk 1 2 0 0 (-1)), (PdAct.mk 1 2 1 1 (-1)), (PdAct.mk 2 1 0 1 1), (PdAct.mk 3 1 0 2 1), (PdAct.mk 4 1 2 0 (-1)), (PdAct.mk 4 2 2 2 (-1)), (PdAct.mk 5 8 2 1 (-1)), (PdAct.mk 6 5 2 0 (-1)), (PdAct.mk 6 1 0 2 (-1)), (PdAct.mk 10 1 0 0 1), (PdAct.mk 11 3 0 0 (-1)), (PdAct.mk 12 3 1 1 (-1)), (PdAct.mk 104 5 0 0 (-1)), (PdAct.mk 105 5 0 0 (-1)), (PdAct.mk 105 5 0 1 (-1)), (PdAct.mk 106 1 2 1 (-1)), (PdAct.mk 107 1 2 2 (-1)), (PdAct.mk 108 1 2 0 (-1)), (PdAct.mk 108 2 2 0 (-1)), (PdAct.mk 109 9 0 1 (-1)), (PdAct.mk 110 8 2 0 (-1)), (PdAct.mk 111 5 0 0 (-1))]
theorem l_Acts_scr {F : Nat}  {r : (List PdAct)} (h : l_Acts F  = some r) : SCR Tryz.prog 31 (List.map T.d []) [] (.row 0 5 0 (r).length) (List.map some [(lPdActd r)]) := by
 rw [l_Acts] at h
 refine SC.of_sw Tryz.func31 R R R ?_
 dsimp only [argS, List.map]
 refine qG (q_asgD R (eN (qG (r_build (v := .d (.agg [vI 0, vI 1, vI 0, vI 0, vI 1])) tb R R (List.cons_ne_nil _ _) R R R R R R (r_build (v := .d (.agg [vI 1, vI 2, vI 0, vI 0, vI (-1)])) tb R R (List.cons_ne_nil _ _) R R R R R R (r_build (v := .d (.agg [vI 1, vI 2, vI 1, vI 1, vI (-1)])) tb R R (List.cons_ne_nil _ _) R R R R R R ?_))))))
 refine r_build (v := .d (.agg [vI 2, vI 1, vI 0, vI 1, vI 1])) tb R R (List.cons_ne_nil _ _) R R R R R R (r_build (v := .d (.agg [vI 3, vI 1, vI 0, vI 2, vI 1])) tb R R (List.cons_ne_nil _ _) R R R R R R (r_build (v := .d (.agg [vI 4, vI 1, vI 2, vI 0, vI (-1)])) tb R R (List.cons_ne_nil _ _) R R R R R R ?_))
 refine r_build (v := .d (.agg [vI 4, vI 2, vI 2, vI 2, vI (-1)])) tb R R (List.cons_ne_nil _ _) R R R R R R (r_build (v := .d (.agg [vI 5, vI 8, vI 2, vI 1, vI (-1)])) tb R R (List.cons_ne_nil _ _) R R R R R R (r_build (v := .d (.agg [vI 6, vI 5, vI 2, vI 0, vI (-1)])) tb R R (List.cons_ne_nil _ _) R R R R R R ?_))
 refine r_build (v := .d (.agg [vI 6, vI 1, vI 0, vI 2, vI (-1)])) tb R R (List.cons_ne_nil _ _) R R R R R R (r_build (v := .d (.agg [vI 10, vI 1, vI 0, vI 0, vI 1])) tb R R (List.cons_ne_nil _ _) R R R R R R (r_build (v := .d (.agg [vI 11, vI 3, vI 0, vI 0, vI (-1)])) tb R R (List.cons_ne_nil _ _) R R R R R R ?_))
 refine r_build (v := .d (.agg [vI 12, vI 3, vI 1, vI 1, vI (-1)])) tb R R (List.cons_ne_nil _ _) R R R R R R (r_build (v := .d (.agg [vI 104, vI 5, vI 0, vI 0, vI (-1)])) tb R R (List.cons_ne_nil _ _) R R R R R R (r_build (v := .d (.agg [vI 105, vI 5, vI 0, vI 0, vI (-1)])) tb R R (List.cons_ne_nil _ _) R R R R R R ?_))
 refine r_build (v := .d (.agg [vI 105, vI 5, vI 0, vI 1, vI (-1)])) tb R R (List.cons_ne_nil _ _) R R R R R R (r_build (v := .d (.agg [vI 106, vI 1, vI 2, vI 1, vI (-1)])) tb R R (List.cons_ne_nil _ _) R R R R R R (r_build (v := .d (.agg [vI 107, vI 1, vI 2, vI 2, vI (-1)])) tb R R (List.cons_ne_nil _ _) R R R R R R ?_))
 refine r_build (v := .d (.agg [vI 108, vI 1, vI 2, vI 0, vI (-1)])) tb R R (List.cons_ne_nil _ _) R R R R R R (r_build (v := .d (.agg [vI 108, vI 2, vI 2, vI 0, vI (-1)])) tb R R (List.cons_ne_nil _ _) R R R R R R (r_build (v := .d (.agg [vI 109, vI 9, vI 0, vI 1, vI (-1)])) tb R R (List.cons_ne_nil _ _) R R R R R R ?_))
 refine r_build (v := .d (.agg [vI 110, vI 8, vI 2, vI 0, vI (-1)])) tb R R (List.cons_ne_nil _ _) R R R R R R (r_build (v := .d (.agg [vI 111, vI 5, vI 0, vI 0, vI (-1)])) tb R R (List.cons_ne_nil _ _) R R R R R R (r_bslice tb R R R R R R R R R R R R R (r_asgW R R R (eN (sw_ret ?_)))))
 obtain rfl := sI h
 exact f2 [0] (.row R .nil) R (.cons (.tmp 0) .nil) R
theorem l_Acts_pc {F : Nat}  {r : (List PdAct)} (h : l_Acts F  = some r) : PC Tryz.prog 31 [] (.arr 5 ((r).map PdAct.d)) := (l_Acts_scr h).toPC (.row rfl rfl)
def l_reasons (F : Nat)  : Option (List Int) := some [0, 0, 0, 0, 174, 0, 0, 0, 172, 174, 0, 0, 0, 179, 0, 174, 0, 172, 0, 177, 0, 0, 173]
theorem l_reasons_scr {F : Nat}  {r : (List Int)} (h : l_reasons F  = some r) : SCR Tryz.prog 33 (List.map T.d []) [] (.row 0 1 0 (r).length) (List.map some [(lvI r)]) := by
 rw [l_reasons] at h
 refine SC.of_sw Tryz.func33 R R R ?_
 dsimp only [argS, List.map]
 refine qG (q_asgD R (eN (qG (r_bslice tb R R R R R R R R R R R R R (r_asgW R R R (eN (sw_ret ?_)))))))
 obtain rfl := sI h
 exact f2 [0] (.row R .nil) R (.cons (.tmp 0) .nil) R
theorem l_reasons_pc {F : Nat}  {r : (List Int)} (h : l_reasons F  = some r) : PC Tryz.prog 33 [] (.arr 1 ((r).map vI)) := (l_reasons_scr h).toPC (.row rfl rfl)
def l_Awake (F : Nat)  : Option Bool := Option.bind (l_Example F ) fun rv => Option.bind (pad_Start F rv) fun rv2 => Option.bind (l_Example F ) fun rv3 => Option.bind (l_Acts F ) fun rv4 => Option.bind (pad_Play F rv3 rv2.1 rv4) fun rv5 => Option.bind (l_Example F ) fun rv6 => Option.bind (pad_Near F rv6 3 0) fun rv7 => if rv2.2 = 0 then (if rv5.2.2 = 0 then (if rv7.2 = 4 then (Option.bind (l_reasons F ) fun rv8 => Option.bind (r7_Errors F rv5.2.1 rv8) fun rv9 => some rv9) else (some false)) else (some false)) else (some false)
theorem l_Awake_pc {F : Nat}  {r : Bool} (h : l_Awake F  = some r) : PC Tryz.prog 11 [] (.v (.bool r)) := by
 rw [l_Awake] at h
 refine SC.of_sw Tryz.func11 R R R ?_
 dsimp only [argS, List.map]
 refine qG (q_asgD R (eN (qG ?_)))
 obtain ⟨rv, hrv, h⟩ := bnd h
 refine r_call (l_Example_pc hrv) (.of (by kernel_rfl)) R R R R ?_
 obtain ⟨rv2, hrv2, h⟩ := bnd h
 refine r_callN (t' := .tup [PdState_T1 rv2.1 0 1 2, .d (vI rv2.2)]) (news' := [(lvI rv2.1.zones), (lvI rv2.1.holder), (lvI rv2.1.squibs)]) (pad_Start_scr hrv2) (.of (by kernel_rfl)) R R R ((.row (.row (.row .nil)))) R R R (r_movT (.tup [PdState_T1 rv2.1 0 1 2, .d (vI rv2.2)]) R R R (r_ext (t := PdState_T1 rv2.1 0 1 2) R R R R (r_ext (t := .d (vI rv2.2)) R R R R (r_alloc tb R R R R R (q_stE _ _ tb R (q_asgD R (eN (sw_seq (sw_dr (by kernel_rfl) ?_)))))))))
 obtain ⟨rv3, hrv3, h⟩ := bnd h
 refine r_call (l_Example_pc hrv3) (.of (by kernel_rfl)) R R R R (r_ldG tb R R R R R R R R R ?_)
 obtain ⟨rv4, hrv4, h⟩ := bnd h
 refine r_callN (t' := .row 4 5 0 (rv4).length) (news' := [(lPdActd rv4)]) (l_Acts_scr hrv4) (.of (by kernel_rfl)) R R R ((.row .nil)) R R R ?_
 obtain ⟨rv5, hrv5, h⟩ := bnd h
 refine r_callLN (t' := .tup [PdState_T1 rv5.1 5 6 7, .row 8 1 0 (rv5.2.1).length, .d (vI rv5.2.2)]) (news' := [(lvI rv5.1.zones), (lvI rv5.1.holder), (lvI rv5.1.squibs), (lvI rv5.2.1)]) (pad_Play_scr hrv5) R ((.row (fun _ => rfl) (.row (fun _ => rfl) (.row (fun _ => rfl) (.row (fun _ => rfl) .nil))))) (.of (by kernel_rfl)) R R ((.cons (.d _) (.cons (.aggL (.cons (.d _) (.cons (.row R R) (.cons (.row R R) (.cons (.row R R) (.cons (.d _) (.cons (.d _) .nil))))))) (.cons (.row R R) .nil)))) R ((.row (.row (.row (.row .nil))))) R R R ?_
 refine r_movT (.tup [PdState_T1 rv5.1 5 6 7, .row 8 1 0 (rv5.2.1).length, .d (vI rv5.2.2)]) R R R (r_ext (t := PdState_T1 rv5.1 5 6 7) R R R R (r_ext (t := .row 8 1 0 (rv5.2.1).length) R R R R (r_ext (t := .d (vI rv5.2.2)) R R R R (r_alloc tb R R R R R (q_stE _ _ tb R (r_asgW R R R (q_asgD R (ev_endD (by kernel_rfl) (then_norm (qG ?_))))))))))
 obtain ⟨rv6, hrv6, h⟩ := bnd h
 refine r_call (l_Example_pc hrv6) (.of (by kernel_rfl)) R R R R ?_
 obtain ⟨rv7, hrv7, h⟩ := bnd h
 refine r_call (pad_Near_pc hrv7) (.of (by kernel_rfl)) R R R R (q_movD R (r_extD (t := .v (.bool rv7.1)) R R R R (r_extD (t := vI rv7.2) R R R R (q_asgD R (q_asgD R (eN (qG (q_movD R ?_))))))))
 refine r_eql R R R R ?_ ?_
 ·intro c
  replace h := ifP c h
  refine q_movD R (q_movD R ?_)
  refine r_eql R R R R ?_ ?_
  ·intro c2
   replace h := ifP c2 h
   refine q_pickT R (q_movD R (q_movD R ?_))
   refine r_eql R R R R ?_ ?_
   ·intro c3
    replace h := ifP c3 h
    refine q_pickT R (q_movD R (r_movW R R R ?_))
    obtain ⟨rv8, hrv8, h⟩ := bnd h
    refine r_callN (t' := .row 10 1 0 (rv8).length) (news' := [(lvI rv8)]) (l_reasons_scr hrv8) (.of (by kernel_rfl)) R R R ((.row .nil)) R R R ?_
    obtain ⟨rv9, hrv9, h⟩ := bnd h
    refine r_callL (r7_Errors_pc hrv9) R (.of (by kernel_rfl)) R R ((.cons (.row R R) (.cons (.row R R) .nil))) R R (q_pickT R (q_asgD R (eN (sw_ret ?_))))
    obtain rfl := sI h
    exact f1 0 R
   intro c3
   replace h := ifN c3 h
   refine q_pickT R (q_movD R (q_sk 3 R (q_pickF R (q_asgD R (eN (sw_ret ?_))))))
   obtain rfl := sI h
   exact f1 0 R
  intro c2
  replace h := ifN c2 h
  refine q_pickT R (q_movD R (q_sk 2 R (q_pickF R (q_movD R (q_sk 3 R (q_pickF R (q_asgD R (eN (sw_ret ?_)))))))))
  obtain rfl := sI h
  exact f1 0 R
 intro c
 replace h := ifN c h
 refine q_movD R (q_sk 2 R (q_pickF R (q_movD R (q_sk 2 R (q_pickF R (q_movD R (q_sk 3 R (q_pickF R (q_asgD R (eN (sw_ret ?_)))))))))))
 obtain rfl := sI h
 exact f1 0 R
def l_PadPlays (F : Nat) (p : PdPad) (s : PdState) (lv : (List PdAct)) : Option Bool := Option.bind (pad_Play F p s lv) fun rv => Option.bind (r7_Play F p s lv) fun rv2 => Option.bind (r7_Same F rv.1 rv2.1) fun rv3 => if rv3 = true then (Option.bind (r7_Errors F rv.2.1 rv2.2.1) fun rv4 => if rv4 = true then (if rv.2.2 = rv2.2.2 then (Option.bind (l_Awake 100 ) fun rv5 => some rv5) else (some false)) else (some false)) else (some false)
theorem l_PadPlays_pc {F : Nat} {p : PdPad} {s : PdState} {lv : (List PdAct)} {r : Bool} (h : l_PadPlays F p s lv = some r) : PC Tryz.prog 3 [PdPad.d p, PdState.d s, .arr 5 ((lv).map PdAct.d)] (.v (.bool r)) := by
 rw [l_PadPlays] at h
 refine SC.of_sw Tryz.func3 R R R ?_
 dsimp only [argS, List.map]
 refine qG (q_box R (q_box R (q_asgD R (eN (qG (q_ldD (y := PdPad.d p) tb R (q_ldD (y := PdState.d s) tb R (q_movD R ?_))))))))
 obtain ⟨rv, hrv, h⟩ := bnd h
 refine r_callN (t' := .tup [PdState_T1 rv.1 2 3 4, .row 5 1 0 (rv.2.1).length, .d (vI rv.2.2)]) (news' := [(lvI rv.1.zones), (lvI rv.1.holder), (lvI rv.1.squibs), (lvI rv.2.1)]) (pad_Play_scr hrv) (.of (by kernel_rfl)) R R R ((.row (.row (.row (.row .nil))))) R R R (r_movT (.tup [PdState_T1 rv.1 2 3 4, .row 5 1 0 (rv.2.1).length, .d (vI rv.2.2)]) R R R (r_ext (t := PdState_T1 rv.1 2 3 4) R R R R (r_ext (t := .row 5 1 0 (rv.2.1).length) R R R R (r_ext (t := .d (vI rv.2.2)) R R R R ?_))))
 refine r_alloc tb R R R R R (q_stE _ _ tb R (r_asgW R R R (q_asgD R (eN (qG (q_ldD (y := PdPad.d p) tb R (q_ldD (y := PdState.d s) tb R (q_movD R ?_))))))))
 obtain ⟨rv2, hrv2, h⟩ := bnd h
 refine r_callN (t' := .tup [PdState_T1 rv2.1 7 8 9, .row 10 1 0 (rv2.2.1).length, .d (vI rv2.2.2)]) (news' := [(lvI rv2.1.zones), (lvI rv2.1.holder), (lvI rv2.1.squibs), (lvI rv2.2.1)]) (r7_Play_scr hrv2) (.of (by kernel_rfl)) R R R ((.row (.row (.row (.row .nil))))) R R R (r_movT (.tup [PdState_T1 rv2.1 7 8 9, .row 10 1 0 (rv2.2.1).length, .d (vI rv2.2.2)]) R R R (r_ext (t := PdState_T1 rv2.1 7 8 9) R R R R (r_ext (t := .row 10 1 0 (rv2.2.1).length) R R R R (r_ext (t := .d (vI rv2.2.2)) R R R R ?_))))
 refine r_alloc tb R R R R R (q_stE _ _ tb R (r_asgW R R R (q_asgD R (eN (qG (r_ldG tb R R R R R R R R R (r_ldG tb R R R R R R R R R ?_)))))))
 obtain ⟨rv3, hrv3, h⟩ := bnd h
 refine r_callLB (r7_Same_pc hrv3) (.of (by kernel_rfl)) R R ((.cons (.aggL (.cons (.d _) (.cons (.row R R) (.cons (.row R R) (.cons (.row R R) (.cons (.d _) (.cons (.d _) .nil))))))) (.cons (.aggL (.cons (.d _) (.cons (.row R R) (.cons (.row R R) (.cons (.row R R) (.cons (.d _) (.cons (.d _) .nil))))))) .nil))) R R ?_ ?_
 ·intro c
  replace h := ifP c h
  refine q_movD R (r_movW R R R (r_movW R R R ?_))
  obtain ⟨rv4, hrv4, h⟩ := bnd h
  refine r_callLB (r7_Errors_pc hrv4) (.of (by kernel_rfl)) R R ((.cons (.row R R) (.cons (.row R R) .nil))) R R ?_ ?_
  ·intro c2
   replace h := ifP c2 h
   refine q_pickT R (q_movD R (q_movD R (q_movD R ?_)))
   refine r_eql R R R R ?_ ?_
   ·intro c3
    replace h := ifP c3 h
    refine q_pickT R (q_movD R ?_)
    obtain ⟨rv5, hrv5, h⟩ := bnd h
    refine r_call (l_Awake_pc hrv5) (.of (by kernel_rfl)) R R R R (q_pickT R (q_asgD R (eN (sw_ret ?_))))
    obtain rfl := sI h
    exact f1 6 R
   intro c3
   replace h := ifN c3 h
   refine q_pickT R (q_movD R (q_skip R (q_pickF R (q_asgD R (eN (sw_ret ?_))))))
   obtain rfl := sI h
   exact f1 6 R
  intro c2
  replace h := ifF c2 h
  refine q_pickT R (q_movD R (q_sk 3 R (q_pickF R (q_movD R (q_skip R (q_pickF R (q_asgD R (eN (sw_ret ?_)))))))))
  obtain rfl := sI h
  exact f1 6 R
 intro c
 replace h := ifF c h
 refine q_movD R (q_sk 3 R (q_pickF R (q_movD R (q_sk 3 R (q_pickF R (q_movD R (q_skip R (q_pickF R (q_asgD R (eN (sw_ret ?_)))))))))))
 obtain rfl := sI h
 exact f1 6 R
end Go.Proofs.YthcnganbnbhhoaaGreat
